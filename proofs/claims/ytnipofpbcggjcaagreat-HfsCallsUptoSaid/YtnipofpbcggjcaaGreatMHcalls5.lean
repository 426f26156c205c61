/-
  PROVED HERE: lemmas and contracts of functions (texts of this repo, joined; what the claim does not use is left out): H2, H3, H4, H5, H6, H7, H8, H9, Vh, HD, H10, H11, H12, Lw, LA, Lc, Og, LC, Sb, St.
  CONDITIONS: as the theorems say.
-/
import Derived.Test.YtnipofpbcggjcaaGreatMHcalls4
set_option maxRecDepth 100000
set_option maxHeartbeats 4000000
namespace Go.Proofs.YtnipofpbcggjcaaGreat
section
open Go.RowKit Go.Maps aX aq
attribute [local irreducible] ak aU af ai aY
abbrev RV (f:Nat) (X:FM) (m:Nat) (t):=(.blk f [vI (X.cN),vI (X.cB),vI (X.cH),vI (X.cS),vI (X.cZ),.map (some m),vP t,vI (X.last),vI (X.ah),vI (X.used)] 84:HP)
theorem UI {β:Bs} (X:FM) (f m t:Nat) (hX:0<=X.ah/\X.ah<=1048576/\-1125899906842624<=X.used/\X.used<=1125899906842624/\0<=X.last/\X.last<=1125899906842624) (O:bX) (L:HL) (idx:Used Th) (RW:aq.bH (keys idx)) (th:Th) (hkt:(obj O th.k).kind=th.kind) (h3:th.kind=1\/th.kind=2\/th.kind=3) (hg:(obj O th.k).gone=true) (ho:(obj O th.k).opens=0) (gj:aq.get idx (obj O th.k).id=some th) (hw:(Lit.int .i64 (obj O th.k).id).wf=true) (Bj:(obj O th.k).data.length<=1125899906842624) :
    Spec Tryz.prog β 131 #[vP f,(eV L th)] [pO O L,pF f m t X,pI m L idx] (fun v l=>v=.tuple #[]/\l=[pO O L,pF f m t { X with used:=if th.kind=1 then X.used - (obj O th.k).data.length else X.used },pI m L (del (obj O th.k).id idx)]):=by
 refine SE Tryz.func131 Tryz.ntmps131 (fun R=>?_)
 refine af.seq ?_
 obtain⟨tk,kd⟩:=th;simp only at hkt h3;rcases h3 with rfl|rfl|rfl
 ·replace hkt:(obj O tk).kind=1:=hkt
  replace hg:(obj O tk).gone=true:=hg
  replace ho:(obj O tk).opens=0:=ho
  replace gj:aq.get idx (obj O tk).id=some _:=gj
  replace hw:(Lit.int .i64 (obj O tk).id).wf=true:=hw
  have hdl:=sC RW (get_some gj)
  replace Bj:(obj O tk).data.length<=1125899906842624:=Bj
  refine af.region (jK 1 [7] [] ?_)
  refine gL [] (dF (L.b tk)) ?_
  rintro _ _ ⟨rfl,rfl⟩
  refine jK 1 [4] [] ?_
  refine NN (af.seq (SR (jK 6 [14] [(3,v_ 0 (rS L hkt))] ?_)))
  refine ak.lG 14 (!(obj O tk).gone) (fun _=>by kernel_rfl) (fun iH=>?_) (fun iH=>?_)
  ·exact absurd iH (by simp [hg])
  refine jK 6 [20] [(3,v_ 0 (lX L hkt))] ?_
  refine NN (cP (((obj O tk).opens:Int) > (0:Int)) (fun nJ=>?_) (fun nJ=>?_))
  ·exact absurd nJ (by omega)
  refine af.skip (NX (af.seq (rM (List.range 9) 8 [0,1,2,3] ?_)))
  refine jR 8 [0,1,24,28] [(3,a_ 1 f),(7,v_ 0 (ug L hkt))] ?_
  refine aY.last rfl rfl ?_
  refine ak.DI 2 (d:=none) (t:=78) (K:=3) (E:=82) (b:=m) (n:=idx.length) (f:=(bB (bC L idx))) (x:=(.tmp 24)) (ix:=(.tmp 28)) (key:=.int .i64 ((obj O tk).id)) (kl:=(.int .i64 (obj O tk).id)) (n':=(idx.length - 1)) (f':=(bB (bC L (del (obj O tk).id idx)))) (ats:=#[78,3]) (fun _=>by kernel_rfl) (by kernel_rfl) (fun _=>by kernel_rfl) (fun _=>by kernel_rfl) rfl gT Tryz.underlying78 (mE hw) (by rw [iZ,gj];rfl) (Fo) ?_
  refine NL (ai.np (NX (SR ?_)))
  refine jK 7 [5,6] [] ?_
  refine NS (jK 1 [34] [] ?_)
  refine NN (CT (rM (List.range 13) 12 [0,1,2,3] ?_))
  refine jR 12 [44,46] [(3,a_ 1 f),(7,v_ 0 (KS L hkt)),(9,wJ (X.used - (((obj O tk).data.length:Nat):Int)) (X.used - (((obj O tk).data.length:Nat):Int)))] ?_
  refine aY.last rfl rfl ?_
  refine jC 1 [] [(0,a_ 1 f)] [(1,[(9,vI (X.used - (((obj O tk).data.length:Nat):Int)))])] ?_
  refine NL (ai.np ?_)
  refine ai.eG [(2,.abs (bq Tryz.prog 3 m (bB (bC L (del (obj O tk).id idx))) ((del (obj O tk).id idx).length)))] (fun w hS=>by rw [show (del (obj O tk).id idx).length=idx.length - 1 by omega];exact hS) ?_
  exact RF (.tuple #[]) [0,1,2,3] (⟨rfl,rfl⟩)
 ·replace hkt:(obj O tk).kind=2:=hkt
  replace hg:(obj O tk).gone=true:=hg
  replace ho:(obj O tk).opens=0:=ho
  replace gj:aq.get idx (obj O tk).id=some _:=gj
  replace hw:(Lit.int .i64 (obj O tk).id).wf=true:=hw
  have hdl:=sC RW (get_some gj)
  replace Bj:(obj O tk).data.length<=1125899906842624:=Bj
  refine af.region (jK 1 [7] [] ?_)
  refine gL [] (dF (L.b tk)) ?_
  rintro _ _ ⟨rfl,rfl⟩
  refine jK 1 [4] [] ?_
  refine NN (af.seq (SR (jK 6 [14] [(3,v_ 0 (rS L hkt))] ?_)))
  refine ak.lG 14 (!(obj O tk).gone) (fun _=>by kernel_rfl) (fun iH=>?_) (fun iH=>?_)
  ·exact absurd iH (by simp [hg])
  refine jK 6 [20] [(3,v_ 0 (lX L hkt))] ?_
  refine NN (cP (((obj O tk).opens:Int) > (0:Int)) (fun nJ=>?_) (fun nJ=>?_))
  ·exact absurd nJ (by omega)
  refine af.skip (NX (af.seq (rM (List.range 9) 8 [0,1,2,3] ?_)))
  refine jR 8 [0,1,24,28] [(3,a_ 1 f),(7,v_ 0 (ug L hkt))] ?_
  refine aY.last rfl rfl ?_
  refine ak.DI 2 (d:=none) (t:=78) (K:=3) (E:=82) (b:=m) (n:=idx.length) (f:=(bB (bC L idx))) (x:=(.tmp 24)) (ix:=(.tmp 28)) (key:=.int .i64 ((obj O tk).id)) (kl:=(.int .i64 (obj O tk).id)) (n':=(idx.length - 1)) (f':=(bB (bC L (del (obj O tk).id idx)))) (ats:=#[78,3]) (fun _=>by kernel_rfl) (by kernel_rfl) (fun _=>by kernel_rfl) (fun _=>by kernel_rfl) rfl gT Tryz.underlying78 (mE hw) (by rw [iZ,gj];rfl) (Fo) ?_
  refine NL (ai.np (NX (SR ?_)))
  refine jK 7 [5,6] [] ?_
  refine NS (jK 1 [34] [] ?_)
  refine NN (CF (af.skip (ai.eG [(2,.abs (bq Tryz.prog 3 m (bB (bC L (del (obj O tk).id idx))) ((del (obj O tk).id idx).length)))] (fun w hS=>by rw [show (del (obj O tk).id idx).length=idx.length - 1 by omega];exact hS) ?_)))
  exact RF (.tuple #[]) [0,1,2,3] (⟨rfl,rfl⟩)
 replace hkt:(obj O tk).kind=3:=hkt
 replace hg:(obj O tk).gone=true:=hg
 replace ho:(obj O tk).opens=0:=ho
 replace gj:aq.get idx (obj O tk).id=some _:=gj
 replace hw:(Lit.int .i64 (obj O tk).id).wf=true:=hw
 have hdl:=sC RW (get_some gj)
 replace Bj:(obj O tk).data.length<=1125899906842624:=Bj
 refine af.region (jK 1 [7] [] ?_)
 refine gL [] (dF (L.b tk)) ?_
 rintro _ _ ⟨rfl,rfl⟩
 refine jK 1 [4] [] ?_
 refine NN (af.seq (SR (jK 6 [14] [(3,v_ 0 (rS L hkt))] ?_)))
 refine ak.lG 14 (!(obj O tk).gone) (fun _=>by kernel_rfl) (fun iH=>?_) (fun iH=>?_)
 ·exact absurd iH (by simp [hg])
 refine jK 6 [20] [(3,v_ 0 (lX L hkt))] ?_
 refine NN (cP (((obj O tk).opens:Int) > (0:Int)) (fun nJ=>?_) (fun nJ=>?_))
 ·exact absurd nJ (by omega)
 refine af.skip (NX (af.seq (rM (List.range 9) 8 [0,1,2,3] ?_)))
 refine jR 8 [0,1,24,28] [(3,a_ 1 f),(7,v_ 0 (ug L hkt))] ?_
 refine aY.last rfl rfl ?_
 refine ak.DI 2 (d:=none) (t:=78) (K:=3) (E:=82) (b:=m) (n:=idx.length) (f:=(bB (bC L idx))) (x:=(.tmp 24)) (ix:=(.tmp 28)) (key:=.int .i64 ((obj O tk).id)) (kl:=(.int .i64 (obj O tk).id)) (n':=(idx.length - 1)) (f':=(bB (bC L (del (obj O tk).id idx)))) (ats:=#[78,3]) (fun _=>by kernel_rfl) (by kernel_rfl) (fun _=>by kernel_rfl) (fun _=>by kernel_rfl) rfl gT Tryz.underlying78 (mE hw) (by rw [iZ,gj];rfl) (Fo) ?_
 refine NL (ai.np (NX (SR ?_)))
 refine jK 7 [5,6] [] ?_
 refine NS (jK 1 [34] [] ?_)
 refine NN (CF (af.skip (ai.eG [(2,.abs (bq Tryz.prog 3 m (bB (bC L (del (obj O tk).id idx))) ((del (obj O tk).id idx).length)))] (fun w hS=>by rw [show (del (obj O tk).id idx).length=idx.length - 1 by omega];exact hS) ?_)))
 exact RF (.tuple #[]) [0,1,2,3] (⟨rfl,rfl⟩)
theorem OI {β:Bs} (O:bX) (L:HL) (f:Nat) (th:Th) (hkt:(obj O th.k).kind=th.kind) (h3:th.kind=1\/th.kind=2\/th.kind=3) (hg:(obj O th.k).gone=false\/0 < (obj O th.k).opens) :
    Spec Tryz.prog β 131 #[vP f,(eV L th)] [pO O L] (fun v l=>v=.tuple #[]/\l=[pO O L]):=by
 refine SE Tryz.func131 Tryz.ntmps131 (fun R=>?_)
 refine af.seq ?_
 obtain⟨tk,kd⟩:=th;simp only at hkt h3;rcases h3 with rfl|rfl|rfl
 ·replace hkt:(obj O tk).kind=1:=hkt
  replace hg:(obj O tk).gone=false\/0 < (obj O tk).opens:=hg
  refine af.region (jK 1 [7] [] ?_)
  refine gL [] (dF (L.b tk)) ?_
  rintro _ _ ⟨rfl,rfl⟩
  refine jK 1 [4] [] ?_
  refine NN (af.seq (SR (jK 6 [14] [(3,v_ 0 (rS L hkt))] ?_)))
  refine ak.lG 14 (!(obj O tk).gone) (fun _=>by kernel_rfl) (fun iH=>?_) (fun iH=>?_)
  ·refine jK 6 [20] [] ?_
   refine NN (CT (af.ret (ai.aj ?_)))
   exact RT _ [0,1] (⟨rfl,rfl⟩)
  refine jK 6 [20] [(3,v_ 0 (lX L hkt))] ?_
  refine NN (cP (((obj O tk).opens:Int) > (0:Int)) (fun nJ=>?_) (fun nJ=>?_))
  ·refine af.ret (ai.aj ?_)
   exact RT _ [0,1] (⟨rfl,rfl⟩)
  exact absurd hg (by simp at iH;rw [iH];simp;omega)
 ·replace hkt:(obj O tk).kind=2:=hkt
  replace hg:(obj O tk).gone=false\/0 < (obj O tk).opens:=hg
  refine af.region (jK 1 [7] [] ?_)
  refine gL [] (dF (L.b tk)) ?_
  rintro _ _ ⟨rfl,rfl⟩
  refine jK 1 [4] [] ?_
  refine NN (af.seq (SR (jK 6 [14] [(3,v_ 0 (rS L hkt))] ?_)))
  refine ak.lG 14 (!(obj O tk).gone) (fun _=>by kernel_rfl) (fun iH=>?_) (fun iH=>?_)
  ·refine jK 6 [20] [] ?_
   refine NN (CT (af.ret (ai.aj ?_)))
   exact RT _ [0,1] (⟨rfl,rfl⟩)
  refine jK 6 [20] [(3,v_ 0 (lX L hkt))] ?_
  refine NN (cP (((obj O tk).opens:Int) > (0:Int)) (fun nJ=>?_) (fun nJ=>?_))
  ·refine af.ret (ai.aj ?_)
   exact RT _ [0,1] (⟨rfl,rfl⟩)
  exact absurd hg (by simp at iH;rw [iH];simp;omega)
 replace hkt:(obj O tk).kind=3:=hkt
 replace hg:(obj O tk).gone=false\/0 < (obj O tk).opens:=hg
 refine af.region (jK 1 [7] [] ?_)
 refine gL [] (dF (L.b tk)) ?_
 rintro _ _ ⟨rfl,rfl⟩
 refine jK 1 [4] [] ?_
 refine NN (af.seq (SR (jK 6 [14] [(3,v_ 0 (rS L hkt))] ?_)))
 refine ak.lG 14 (!(obj O tk).gone) (fun _=>by kernel_rfl) (fun iH=>?_) (fun iH=>?_)
 ·refine jK 6 [20] [] ?_
  refine NN (CT (af.ret (ai.aj ?_)))
  exact RT _ [0,1] (⟨rfl,rfl⟩)
 refine jK 6 [20] [(3,v_ 0 (lX L hkt))] ?_
 refine NN (cP (((obj O tk).opens:Int) > (0:Int)) (fun nJ=>?_) (fun nJ=>?_))
 ·refine af.ret (ai.aj ?_)
  exact RT _ [0,1] (⟨rfl,rfl⟩)
 exact absurd hg (by simp at iH;rw [iH];simp;omega)
theorem t6 {β:Bs} (X:FM) (f m t:Nat) (hX:0<=X.ah/\X.ah<=1048576/\-1125899906842624<=X.used/\X.used<=1125899906842624/\0<=X.last/\X.last<=1125899906842624) (O:bX) (L:HL) (idx:Used Th) (RW:aq.bH (keys idx)) (th:Th) (hkt:(obj O th.k).kind=th.kind) (h3:th.kind=1\/th.kind=2\/th.kind=3) (ho:0<=(obj O th.k).opens) (gj:qE O th->aq.get idx (obj O th.k).id=some th) (hw:(Lit.int .i64 (obj O th.k).id).wf=true) (Bj:(obj O th.k).data.length<=1125899906842624) :
    Spec Tryz.prog β 131 #[vP f,(eV L th)] [pO O L,pF f m t X,pI m L idx] (fun v l=>v=.tuple #[]/\l=[pO O L,pF f m t { X with used:=mg O X.used th },pI m L (iE O idx th)]):=by
  unfold mg iE
  by_cases h:qE O th
  ·rw [if_pos h,if_pos h]
   exact UI X f m t hX O L idx RW th hkt h3 h.1 h.2 (gj h) hw Bj
  rw [if_neg h,if_neg h]
  refine (Spec.t8 (pre:=[pO O L]) (R:=[pF f m t X,pI m L idx]) (fun _ _=>OI O L f th hkt h3 ?_)).mono (by grind)
  cases hg:(obj O th.k).gone with
  | false=>exact .inl rfl
  | true=>exact .inr (by have:¬ (obj O th.k).opens=0:=fun e=>h ⟨hg,e⟩;omega)
theorem xE {β:Bs} (X:FM) (f m t:Nat):Spec Tryz.prog β 124 #[vP f] [RV f X m t] (fun v l=>v=.bool (decide (X.ah < 8192))/\l=[RV f X m t]):=by
 refine SE Tryz.func124 Tryz.ntmps124 (fun R=>?_)
 refine SR (jK 1 [] [] ?_)
 refine NS (jK 6 [2] [(3,a_ 0 f)] ?_)
 refine NN (af.ret ?_)
 exact RT _ [0,1] (⟨rfl,rfl⟩)
theorem iy {β:Bs} (a b:Int):Spec Tryz.prog β 20 #[vI a,vI b] [] (fun v l=>v=.bool (decide (0<=a/\a<=b))/\l=[]):=by
 refine SE Tryz.func20 Tryz.ntmps20 (fun R=>?_)
 refine SR (jK 1 [] [] ?_)
 refine NS (jK 3 [7] [] ?_)
 refine sP 7 ((a:Int) ≥ (0:Int)) (fun h7=>?_) (fun h7=>?_)
 ·refine jK 5 [4] [] ?_
  refine NN (af.ret ?_)
  exact RT (.bool (decide ((a:Int)<=(b:Int)))) [0] (⟨by grind,rfl⟩)
 refine jK 5 [4] [] ?_
 refine NN (af.ret ?_)
 exact RT (.bool false) [0] (⟨by grind,rfl⟩)
theorem KX {β:Bs} (X:FM) (f m t:Nat) (L:HL) (idx:Used Th):Spec Tryz.prog β 147 #[vP f] [RV f X m t,.abs (bq Tryz.prog 3 m (bB (bC L idx)) idx.length)] (fun v l=>v=.bool (decide ((idx.length:Int) < X.cN/\X.last < 1099511627776/\X.ah < 8192))/\l=[RV f X m t,.abs (bq Tryz.prog 3 m (bB (bC L idx)) idx.length)]):=by
 refine SE Tryz.func147 Tryz.ntmps147 (fun R=>?_)
 refine SR (jK 1 [] [] ?_)
 refine NN (af.seq (af.bF (by kernel_rfl) (by kernel_rfl) ?_))
 refine jQ 4 [6] [(3,a_ 0 f)] ?_
 refine aU.xH 1 (d:=(some 7)) (t:=78) (K:=3) (E:=82) (b:=m) (n:=idx.length) (f:=(bB (bC L idx))) (x:=(.tmp 6)) (ats:=#[78]) (fun _=>by kernel_rfl) (by kernel_rfl) (fun _=>by kernel_rfl) rfl Tryz.underlying78 ?_
 refine jQ 7 [14] [(4,a_ 0 f)] ?_
 refine aU.tf 14 ((((idx.length:Nat):Int):Int) < (X.cN:Int)) (fun _=>by kernel_rfl) (fun iH=>?_) (fun iH=>?_)
 ·refine jQ 7 [21] [(3,a_ 0 f)] ?_
  refine aU.tf 21 ((X.last:Int) < (1099511627776:Int)) (fun _=>by kernel_rfl) (fun oA=>?_) (fun oA=>?_)
  ·refine jQ 1 [22] [] ?_
   refine jU [0] [0,1,2] (.bool (decide (X.ah < 8192))) (xE X f m t) ?_
   refine jQ 2 [2] [] ?_
   refine NQ (NX (af.ret ?_))
   exact RT (.bool (decide (X.ah < 8192))) [0,1,2] (⟨by grind,rfl⟩)
  refine jQ 4 [2] [] ?_
  refine NQ (NX (af.ret ?_))
  exact RT (.bool false) [0,1,2] (⟨by grind,rfl⟩)
 refine jQ 11 [2] [] ?_
 refine NQ (NX (af.ret ?_))
 exact RT (.bool false) [0,1,2] (⟨by grind,rfl⟩)
theorem Bk {β:Bs} (X:FM) (f m t:Nat) (hX:0<=X.ah/\X.ah<=1048576/\-1125899906842624<=X.used/\X.used<=1125899906842624/\0<=X.last/\X.last<=1125899906842624) (mode:Int):Spec Tryz.prog β 121 #[vP f,vI mode] [RV f X m t] (fun v l=>v=.agg #[vI (X.last+1),vI mode,vI 0,vI 0,vI X.cS,vI X.cZ,vI 0,vI 0,.bool false]/\l=[.blk f [vI (X.cN),vI (X.cB),vI (X.cH),vI (X.cS),vI (X.cZ),.map (some m),vP t,vI (X.last+1),vI (X.ah),vI (X.used)] 84]):=by
 refine SE Tryz.func121 Tryz.ntmps121 (fun R=>?_)
 refine SR (jN 1 [4] (fun _=>[]) (fun _=>[]) (fun b1=>.blk b1 [vI 0,vI 0,vI 0,vI 0,vI 0,vI 0,vI 0,vI 0,.bool false] 86) (fun b1=>?_))
 refine NS (jC 8 [] [(3,a_ 0 f),(4,wJ (X.last+1) (X.last+1)),(7,a_ 0 f)] [(0,[(7,vI (X.last+1))])] ?_)
 refine NN (af.seq (rM (List.range 12) 11 [0,1,2] ?_))
 refine jR 11 [4,22] [(3,a_ 0 f),(9,A_ 0 f 2)] ?_
 refine aY.last rfl rfl ?_
 refine jC 1 [] [(0,A_ 2 b1 9)] [(2,[(0,vI (X.last+1)),(1,vI (mode)),(4,vI (X.cS)),(5,vI (X.cZ))])] ?_
 refine NL (ai.np (NX (af.ret ?_)))
 exact rT _ [A_ 2 b1 9] [0,1] (⟨rfl,rfl⟩)
end
section
open Go.RowKit Go.Maps aX aq
attribute [local irreducible] ak aU af ai aY
theorem qP {β:Bs} (S:aI) (L:HL) (f m t:Nat) (hI:Inv S) (d:Nat) (hd:Live S.idx ⟨d,2⟩) (name:ByteArray) (hsz:name.size<=1048576) (th:Th) (hlk:aL name (obj S.O d).ah=some th) :
    Spec Tryz.prog β 149 #[vP f,vP (L.b d),.string name] [pF f m t S.X,pO S.O L,pE S.O L,pI m L S.idx] (fun v l=>v=.tuple #[]/\l=[pF f m t ((aF S d name th).X),pO ((aF S d name th).O) L,pE ((aF S d name th).O) L,pI m L ((aF S d name th).idx)]):=by
 have hX:=hI.hX
 have hel:(obj S.O d).ah.length<=8192:=hI.je hd
 have hkd:(obj S.O d).kind=2:=hI.kind hd
 refine SE Tryz.func149 Tryz.ntmps149 (fun R=>?_)
 refine af.seq ?_
 obtain⟨tk,kd⟩:=th;have hlv:=(hI.ent hd hlk).2;have acp:=hI.ne hd hlk;rcases (hI.ob _ hlv).2.2 with e0|e0|e0<;>simp only at e0<;>subst e0
 ·have hkt:(obj S.O tk).kind=1:=hI.kind hlv
  have hlb:=hI.lb hlv;have hid:=hI.ob _ hlv;have hop:=hI.GF hlv;have hdl:=hI.Jq hlv;have sU:=hI.PX hlv
  refine af.region (jK 3 [8,9,10] [] ?_)
  refine gL [0,1,2] (kV S.X f m t hX S.O L d hkd name hsz ⟨tk,1⟩ hkt (by simp) hlk (hI.twice hd) (by omega) (by simp only at hlb ⊢;omega)) ?_
  rintro _ _ ⟨rfl,rfl⟩
  refine jK 1 [6] [] ?_
  refine NS ?_
  have lT:(obj (aH S.X S.O d name ⟨tk,1⟩) d).kind=2:=(cY).trans (hkd)
  have pK:(obj (aH S.X S.O d name ⟨tk,1⟩) tk).kind=1:=(cY).trans (hkt)
  have Bl:(obj (aH S.X S.O d name ⟨tk,1⟩) tk).id=(obj S.O tk).id:=cA (g:=aM.id) (fun _ _=>rfl) (fun _ _=>rfl) (fun _ _ _=>rfl)
  have Bn:(obj (aH S.X S.O d name ⟨tk,1⟩) tk).opens=(obj S.O tk).opens:=cA (g:=aM.opens) (fun _ _=>rfl) (fun _ _=>rfl) (fun _ _ _=>rfl)
  have Bo:(obj (aH S.X S.O d name ⟨tk,1⟩) tk).data=(obj S.O tk).data:=cA (g:=aM.data) (fun _ _=>rfl) (fun _ _=>rfl) (fun _ _ _=>rfl)
  generalize dh:(aH S.X S.O d name ⟨tk,1⟩)=ef at lT pK Bl Bn Bo ⊢
  refine jK 1 [12] [] ?_
  refine gL [] (dF (L.b tk)) ?_
  rintro _ _ ⟨rfl,rfl⟩
  refine jK 1 [7] [] ?_
  refine NS (jK 5 [18] [(3,v_ 1 (qd L pK))] ?_)
  refine NN (cP (((obj ef tk).links:Int)=(0:Int)) (fun nI=>?_) (fun nI=>?_))
  ·refine SR (jK 3 [21] [] ?_)
   refine vW 1 [(2,1)] tk 8 (fun o=>{ o with gone:=true }) pK (fun gi dK=>?_)
   have F6:=ku dK lT
   have Bg:=ku dK pK
   have RX:(obj gi tk).id=(obj S.O tk).id:=fu aM.id dK Bl
   have Zk:(obj gi tk).opens=(obj S.O tk).opens:=fu aM.opens dK Bn
   have hf7:(obj gi tk).data=(obj S.O tk).data:=fu aM.data dK Bo
   refine NN (af.region (jK 2 [22,23] [] ?_))
   refine gL [1,0,3] (t6 { S.X with ah:=S.X.ah - 1 } f m t (hI.Cr hd hlk) gi L S.idx hI.rise ⟨tk,1⟩ Bg (by simp) (by rw [Zk];exact hop.1) (fun _=>by rw [RX,hid.1];exact hlv) (by rw [RX];exact sU) (by rw [hf7];exact hdl)) ?_
   rintro _ _ ⟨rfl,rfl⟩
   refine NL ?_
   exact RF (l:=[pF f m t { S.X with ah:=S.X.ah - 1,used:=mg gi S.X.used ⟨tk,1⟩ },pO gi L,pE gi L,pI m L (iE gi S.idx ⟨tk,1⟩)]) (.tuple #[]) [1,0,3,2,4] (⟨rfl,by subst dK;subst dh;rw [show aF S d name ⟨tk,1⟩=_ from tK nI]<;>rfl⟩)
  refine af.skip ?_
  exact RF (l:=[pF f m t { S.X with ah:=S.X.ah - 1 },pO ef L,pE ef L,pI m L S.idx]) (.tuple #[]) [0,1,2,3,4] (⟨rfl,by grind [aF,tL]⟩)
 ·have hkt:(obj S.O tk).kind=2:=hI.kind hlv
  have hlb:=hI.lb hlv;have hid:=hI.ob _ hlv;have hop:=hI.GF hlv;have hdl:=hI.Jq hlv;have sU:=hI.PX hlv
  refine af.region (jK 3 [8,9,10] [] ?_)
  refine gL [0,1,2] (kV S.X f m t hX S.O L d hkd name hsz ⟨tk,2⟩ hkt (by simp) hlk (hI.twice hd) (by omega) (by simp only at hlb ⊢;omega)) ?_
  rintro _ _ ⟨rfl,rfl⟩
  refine jK 1 [6] [] ?_
  refine NS ?_
  have Zl:(obj (aH S.X S.O d name ⟨tk,2⟩) d).kind=2:=(cY).trans (hkd)
  have F5:(obj (aH S.X S.O d name ⟨tk,2⟩) tk).kind=2:=(cY).trans (hkt)
  have Bl:(obj (aH S.X S.O d name ⟨tk,2⟩) tk).id=(obj S.O tk).id:=cA (g:=aM.id) (fun _ _=>rfl) (fun _ _=>rfl) (fun _ _ _=>rfl)
  have Bn:(obj (aH S.X S.O d name ⟨tk,2⟩) tk).opens=(obj S.O tk).opens:=cA (g:=aM.opens) (fun _ _=>rfl) (fun _ _=>rfl) (fun _ _ _=>rfl)
  have Bo:(obj (aH S.X S.O d name ⟨tk,2⟩) tk).data=(obj S.O tk).data:=cA (g:=aM.data) (fun _ _=>rfl) (fun _ _=>rfl) (fun _ _ _=>rfl)
  generalize dh:(aH S.X S.O d name ⟨tk,2⟩)=ef at Zl F5 Bl Bn Bo ⊢
  refine jK 1 [12] [] ?_
  refine gL [] (dF (L.b tk)) ?_
  rintro _ _ ⟨rfl,rfl⟩
  refine jK 1 [7] [] ?_
  refine NS (jK 5 [18] [(3,v_ 1 (qd L F5))] ?_)
  refine NN (cP (((obj ef tk).links:Int)=(0:Int)) (fun nI=>?_) (fun nI=>?_))
  ·refine SR (jK 3 [21] [] ?_)
   refine vW 1 [(2,1)] tk 8 (fun o=>{ o with gone:=true }) F5 (fun gi dK=>?_)
   have OC:=ku dK Zl
   have V8:=ku dK F5
   have Zm:(obj gi tk).id=(obj S.O tk).id:=fu aM.id dK Bl
   have abH:(obj gi tk).opens=(obj S.O tk).opens:=fu aM.opens dK Bn
   have abI:(obj gi tk).data=(obj S.O tk).data:=fu aM.data dK Bo
   refine NN (af.region (jK 2 [22,23] [] ?_))
   refine gL [1,0,3] (t6 { S.X with ah:=S.X.ah - 1 } f m t (hI.Cr hd hlk) gi L S.idx hI.rise ⟨tk,2⟩ V8 (by simp) (by rw [abH];exact hop.1) (fun _=>by rw [Zm,hid.1];exact hlv) (by rw [Zm];exact sU) (by rw [abI];exact hdl)) ?_
   rintro _ _ ⟨rfl,rfl⟩
   refine NL ?_
   exact RF (l:=[pF f m t { S.X with ah:=S.X.ah - 1,used:=mg gi S.X.used ⟨tk,2⟩ },pO gi L,pE gi L,pI m L (iE gi S.idx ⟨tk,2⟩)]) (.tuple #[]) [1,0,3,2,4] (⟨rfl,by subst dK;subst dh;rw [show aF S d name ⟨tk,2⟩=_ from tK nI]<;>rfl⟩)
  refine af.skip ?_
  exact RF (l:=[pF f m t { S.X with ah:=S.X.ah - 1 },pO ef L,pE ef L,pI m L S.idx]) (.tuple #[]) [0,1,2,3,4] (⟨rfl,by grind [aF,tL]⟩)
 have hkt:(obj S.O tk).kind=3:=hI.kind hlv
 have hlb:=hI.lb hlv;have hid:=hI.ob _ hlv;have hop:=hI.GF hlv;have hdl:=hI.Jq hlv;have sU:=hI.PX hlv
 refine af.region (jK 3 [8,9,10] [] ?_)
 refine gL [0,1,2] (kV S.X f m t hX S.O L d hkd name hsz ⟨tk,3⟩ hkt (by simp) hlk (hI.twice hd) (by omega) (by simp only at hlb ⊢;omega)) ?_
 rintro _ _ ⟨rfl,rfl⟩
 refine jK 1 [6] [] ?_
 refine NS ?_
 have Wf:(obj (aH S.X S.O d name ⟨tk,3⟩) d).kind=2:=(cY).trans (hkd)
 have ES:(obj (aH S.X S.O d name ⟨tk,3⟩) tk).kind=3:=(cY).trans (hkt)
 have Bl:(obj (aH S.X S.O d name ⟨tk,3⟩) tk).id=(obj S.O tk).id:=cA (g:=aM.id) (fun _ _=>rfl) (fun _ _=>rfl) (fun _ _ _=>rfl)
 have Bn:(obj (aH S.X S.O d name ⟨tk,3⟩) tk).opens=(obj S.O tk).opens:=cA (g:=aM.opens) (fun _ _=>rfl) (fun _ _=>rfl) (fun _ _ _=>rfl)
 have Bo:(obj (aH S.X S.O d name ⟨tk,3⟩) tk).data=(obj S.O tk).data:=cA (g:=aM.data) (fun _ _=>rfl) (fun _ _=>rfl) (fun _ _ _=>rfl)
 generalize dh:(aH S.X S.O d name ⟨tk,3⟩)=ef at Wf ES Bl Bn Bo ⊢
 refine jK 1 [12] [] ?_
 refine gL [] (dF (L.b tk)) ?_
 rintro _ _ ⟨rfl,rfl⟩
 refine jK 1 [7] [] ?_
 refine NS (jK 5 [18] [(3,v_ 1 (qd L ES))] ?_)
 refine NN (cP (((obj ef tk).links:Int)=(0:Int)) (fun nI=>?_) (fun nI=>?_))
 ·refine SR (jK 3 [21] [] ?_)
  refine vW 1 [(2,1)] tk 8 (fun o=>{ o with gone:=true }) ES (fun gi dK=>?_)
  have aaA:=ku dK Wf
  have ET:=ku dK ES
  have Zn:(obj gi tk).id=(obj S.O tk).id:=fu aM.id dK Bl
  have abJ:(obj gi tk).opens=(obj S.O tk).opens:=fu aM.opens dK Bn
  have abK:(obj gi tk).data=(obj S.O tk).data:=fu aM.data dK Bo
  refine NN (af.region (jK 2 [22,23] [] ?_))
  refine gL [1,0,3] (t6 { S.X with ah:=S.X.ah - 1 } f m t (hI.Cr hd hlk) gi L S.idx hI.rise ⟨tk,3⟩ ET (by simp) (by rw [abJ];exact hop.1) (fun _=>by rw [Zn,hid.1];exact hlv) (by rw [Zn];exact sU) (by rw [abK];exact hdl)) ?_
  rintro _ _ ⟨rfl,rfl⟩
  refine NL ?_
  exact RF (l:=[pF f m t { S.X with ah:=S.X.ah - 1,used:=mg gi S.X.used ⟨tk,3⟩ },pO gi L,pE gi L,pI m L (iE gi S.idx ⟨tk,3⟩)]) (.tuple #[]) [1,0,3,2,4] (⟨rfl,by subst dK;subst dh;rw [show aF S d name ⟨tk,3⟩=_ from tK nI]<;>rfl⟩)
 refine af.skip ?_
 exact RF (l:=[pF f m t { S.X with ah:=S.X.ah - 1 },pO ef L,pE ef L,pI m L S.idx]) (.tuple #[]) [0,1,2,3,4] (⟨rfl,by grind [aF,tL]⟩)
theorem Bp {β:Bs} (S:aI) (L:HL) (f m t:Nat) (hI:Inv S) (d:Nat) (hd:Live S.idx ⟨d,2⟩) (name:ByteArray) (hsz:name.size<=1048576) :
    Spec Tryz.prog β 120 #[vP f,vP (L.b d),.string name] [pF f m t S.X,pI m L S.idx,pE S.O L,pO S.O L] (fun v l=>v=vI (dQ S.X S.O S.idx d name)/\l=[pF f m t S.X,pI m L S.idx,pE S.O L,pO S.O L]):=by
 have hX:=hI.hX
 have hel:(obj S.O d).ah.length<=8192:=hI.je hd
 have hkd:(obj S.O d).kind=2:=hI.kind hd
 refine SE Tryz.func120 Tryz.ntmps120 (fun R=>?_)
 refine af.seq ?_
 rcases hI.qF hd name with hlk|⟨tk,hlk,hlv⟩|⟨tk,hlk,hlv⟩|⟨tk,hlk,hlv⟩
 ·refine af.region (jK 1 [] [] ?_)
  refine NN (af.seq (SR (jK 5 [10,11] [(3,v_ 3 (bQ L hkd))] ?_)))
  refine lE 2 hkd hlk ?_
  refine jK 1 [13] [] ?_
  refine NN (CF (af.skip (NX (af.seq (SR (jK 1 [14] [] ?_))))))
  refine gL [0,1] (KX S.X f m t L S.idx) ?_
  rintro _ _ ⟨rfl,rfl⟩
  refine jK 1 [16] [] ?_
  refine NN (cN ((S.idx.length:Int) < S.X.cN/\S.X.last < 1099511627776/\S.X.ah < 8192) (fun oy=>?_) (fun oy=>?_))
  ·refine SR (jK 1 [6] [] ?_)
   refine NN (af.ret (ai.aj ?_))
   exact RT _ [0,1,2,3,4] (⟨congrArg (Value.int .i64) (Eq.symm (show dQ S.X S.O S.idx d name=_ from (if_pos hlk).trans (if_neg oy))),rfl⟩)
  refine af.skip (NX (SR (jK 1 [6] [] ?_)))
  refine NN (af.ret ?_)
  exact RT _ [0,1,2,3,4] (⟨congrArg (Value.int .i64) (Eq.symm (show dQ S.X S.O S.idx d name=_ from (if_pos hlk).trans (if_pos oy))),rfl⟩)
 ·have hkt:(obj S.O tk).kind=1:=hI.kind hlv
  refine af.region (jK 1 [] [] ?_)
  refine NN (af.seq (SR (jK 5 [10,11] [(3,v_ 3 (bQ L hkd))] ?_)))
  refine lE 2 hkd hlk ?_
  refine jK 1 [13] [] ?_
  refine NN (CT (SR (jK 1 [6] [] ?_)))
  refine NN (af.ret (ai.aj ?_))
  exact RT _ [0,1,2,3,4] (⟨congrArg (Value.int .i64) (Eq.symm (show dQ S.X S.O S.idx d name=_ from if_neg (by rw [hlk];simp))),rfl⟩)
 ·have hkt:(obj S.O tk).kind=2:=hI.kind hlv
  refine af.region (jK 1 [] [] ?_)
  refine NN (af.seq (SR (jK 5 [10,11] [(3,v_ 3 (bQ L hkd))] ?_)))
  refine lE 2 hkd hlk ?_
  refine jK 1 [13] [] ?_
  refine NN (CT (SR (jK 1 [6] [] ?_)))
  refine NN (af.ret (ai.aj ?_))
  exact RT _ [0,1,2,3,4] (⟨congrArg (Value.int .i64) (Eq.symm (show dQ S.X S.O S.idx d name=_ from if_neg (by rw [hlk];simp))),rfl⟩)
 have hkt:(obj S.O tk).kind=3:=hI.kind hlv
 refine af.region (jK 1 [] [] ?_)
 refine NN (af.seq (SR (jK 5 [10,11] [(3,v_ 3 (bQ L hkd))] ?_)))
 refine lE 2 hkd hlk ?_
 refine jK 1 [13] [] ?_
 refine NN (CT (SR (jK 1 [6] [] ?_)))
 refine NN (af.ret (ai.aj ?_))
 exact RT _ [0,1,2,3,4] (⟨congrArg (Value.int .i64) (Eq.symm (show dQ S.X S.O S.idx d name=_ from if_neg (by rw [hlk];simp))),rfl⟩)
theorem W9 {β:Bs} (s:ByteArray) (hsz:s.size<=1048576) :
    Spec Tryz.prog β 148 #[.string s] [] (fun v l=>v=vI (iT s)/\l=[]):=by
 refine SE Tryz.func148 Tryz.ntmps148 (fun R=>?_)
 refine SR (jK 1 [] [] ?_)
 refine NN (af.seq (af.block (SR ?_)))
 refine jK 3 [3] [(1,w_ (.bool (decide ((s:ByteArray)=⟨#[]⟩))) (mX _ _))] ?_
 refine NN (cP ((s:ByteArray)=⟨#[]⟩) (fun h3=>?_) (fun h3=>?_))
 ·refine SR (jK 1 [2] [] ?_)
  refine NN (af.ret (ai.au (ai.aj ?_)))
  exact RT _ [0] (⟨congrArg (Value.int .i64) (Eq.symm (show iT s=_ from if_pos h3)),rfl⟩)
 refine SR (jK 4 [6] [] ?_)
 refine NN (cP (((((s:ByteArray).size:Nat):Int):Int) > (4096:Int)) (fun h6=>?_) (fun h6=>?_))
 ·refine SR (jK 1 [2] [] ?_)
  refine NN (af.ret (ai.au (ai.aj ?_)))
  exact RT _ [0] (⟨congrArg (Value.int .i64) (Eq.symm (show iT s=_ from (if_neg h3).trans (if_pos (by omega)))),rfl⟩)
 refine SR (jK 1 [11] [] ?_)
 refine gL [] (Ln s) ?_
 rintro _ _ ⟨⟨x,rfl,hx⟩,rfl⟩
 refine jK 2 [10] [] ?_
 refine NN (cP ((x:Int) ≥ (0:Int)) (fun h10=>?_) (fun h10=>?_))
 ·refine SR (jK 1 [2] [] ?_)
  refine NN (af.ret (ai.au (ai.aj ?_)))
  exact RT _ [0] (⟨congrArg (Value.int .i64) (Eq.symm (show iT s=_ from (if_neg h3).trans ((if_neg (by omega)).trans (if_neg (hx.1 (by omega)))))),rfl⟩)
 refine af.skip (ai.ax (NX (SR ?_)))
 refine jK 1 [2] [] ?_
 refine NN (af.ret ?_)
 exact RT _ [0] (⟨congrArg (Value.int .i64) (Eq.symm (show iT s=_ from (if_neg h3).trans ((if_neg (by omega)).trans (if_pos (Classical.byContradiction (fun hn=>absurd (hx.2 hn) (by omega))))))),rfl⟩)
theorem vX {β:Bs} (S:aI) (L:HL) (f m t:Nat) (th:Th) (hkt:(obj S.O th.k).kind=th.kind) (h3:th.kind=1\/th.kind=2\/th.kind=3) (hop:0<=(obj S.O th.k).opens/\(obj S.O th.k).opens<=1048576) :
    Spec Tryz.prog β 116 #[vP f,(eV L th)] [pF f m t S.X,pT t S.X.cH S.av L S.us,pO S.O L] (fun v l=>v=.tuple #[vI (ck S th).1,vI (ck S th).2.1]/\l=[pF f m t S.X,pT t S.X.cH ((ck S th).2.2.av) L ((ck S th).2.2.us),pO ((ck S th).2.2.O) L]):=by
 refine SE Tryz.func116 Tryz.ntmps116 (fun R=>?_)
 refine af.seq ?_
 obtain⟨tk,kd⟩:=th;simp only at hkt h3;rcases Int.lt_or_le (S.us.length:Int) S.X.cH with CJ|CJ<;>rcases h3 with e0|e0|e0<;>subst e0
 ·replace hkt:(obj S.O tk).kind=1:=hkt
  replace hop:0<=(obj S.O tk).opens/\(obj S.O tk).opens<=1048576:=hop
  refine af.region (jK 2 [] [] ?_)
  refine NS (jK 5 [12,13] [(3,a_ 0 f)] ?_)
  refine gL [1] ((C5 t S.X.cH S.av (bC L S.us) (eV L ⟨tk,1⟩) (by rw [sE];exact CJ)).mono (fun v l h=>Fq h)) ?_
  rintro _ _ ⟨rfl,rfl⟩
  refine jK 5 [6,7] [] ?_
  refine NN (af.seq (SR (jK 2 [18] [] ?_)))
  refine NN (CT (af.region (jK 1 [19] [] ?_)))
  refine gL [] (dF (L.b tk)) ?_
  rintro _ _ ⟨rfl,rfl⟩
  refine jK 6 [24,26] [(2,v_ 2 (lX L hkt)),(3,wJ ((obj S.O tk).opens+1) ((obj S.O tk).opens+1))] ?_
  refine vW 2 [] tk 7 (fun o=>{ o with opens:=o.opens+1 }) hkt (fun ef dh=>?_)
  have ab6:=ku dh hkt
  refine NS (jK 4 [4,5] [] ?_)
  refine NN (af.ret ?_)
  exact RT (l:=[pF f m t S.X,pT t S.X.cH (max S.av ((S.us.length:Int)+1)) L (ins (aq.least S.us) ⟨tk,1⟩ S.us),pO ef L]) (.tuple #[vI ((aq.least S.us)),vI 0]) [1,0,2,3] (by grind [ck,jD])
 ·replace hkt:(obj S.O tk).kind=2:=hkt
  replace hop:0<=(obj S.O tk).opens/\(obj S.O tk).opens<=1048576:=hop
  refine af.region (jK 2 [] [] ?_)
  refine NS (jK 5 [12,13] [(3,a_ 0 f)] ?_)
  refine gL [1] ((C5 t S.X.cH S.av (bC L S.us) (eV L ⟨tk,2⟩) (by rw [sE];exact CJ)).mono (fun v l h=>Fq h)) ?_
  rintro _ _ ⟨rfl,rfl⟩
  refine jK 5 [6,7] [] ?_
  refine NN (af.seq (SR (jK 2 [18] [] ?_)))
  refine NN (CT (af.region (jK 1 [19] [] ?_)))
  refine gL [] (dF (L.b tk)) ?_
  rintro _ _ ⟨rfl,rfl⟩
  refine jK 6 [24,26] [(2,v_ 2 (lX L hkt)),(3,wJ ((obj S.O tk).opens+1) ((obj S.O tk).opens+1))] ?_
  refine vW 2 [] tk 7 (fun o=>{ o with opens:=o.opens+1 }) hkt (fun ef dh=>?_)
  have Wa:=ku dh hkt
  refine NS (jK 4 [4,5] [] ?_)
  refine NN (af.ret ?_)
  exact RT (l:=[pF f m t S.X,pT t S.X.cH (max S.av ((S.us.length:Int)+1)) L (ins (aq.least S.us) ⟨tk,2⟩ S.us),pO ef L]) (.tuple #[vI ((aq.least S.us)),vI 0]) [1,0,2,3] (by grind [ck,jD])
 ·replace hkt:(obj S.O tk).kind=3:=hkt
  replace hop:0<=(obj S.O tk).opens/\(obj S.O tk).opens<=1048576:=hop
  refine af.region (jK 2 [] [] ?_)
  refine NS (jK 5 [12,13] [(3,a_ 0 f)] ?_)
  refine gL [1] ((C5 t S.X.cH S.av (bC L S.us) (eV L ⟨tk,3⟩) (by rw [sE];exact CJ)).mono (fun v l h=>Fq h)) ?_
  rintro _ _ ⟨rfl,rfl⟩
  refine jK 5 [6,7] [] ?_
  refine NN (af.seq (SR (jK 2 [18] [] ?_)))
  refine NN (CT (af.region (jK 1 [19] [] ?_)))
  refine gL [] (dF (L.b tk)) ?_
  rintro _ _ ⟨rfl,rfl⟩
  refine jK 6 [24,26] [(2,v_ 2 (lX L hkt)),(3,wJ ((obj S.O tk).opens+1) ((obj S.O tk).opens+1))] ?_
  refine vW 2 [] tk 7 (fun o=>{ o with opens:=o.opens+1 }) hkt (fun ef dh=>?_)
  have Io:=ku dh hkt
  refine NS (jK 4 [4,5] [] ?_)
  refine NN (af.ret ?_)
  exact RT (l:=[pF f m t S.X,pT t S.X.cH (max S.av ((S.us.length:Int)+1)) L (ins (aq.least S.us) ⟨tk,3⟩ S.us),pO ef L]) (.tuple #[vI ((aq.least S.us)),vI 0]) [1,0,2,3] (by grind [ck,jD])
 ·replace hkt:(obj S.O tk).kind=1:=hkt
  replace hop:0<=(obj S.O tk).opens/\(obj S.O tk).opens<=1048576:=hop
  refine af.region (jK 2 [] [] ?_)
  refine NS (jK 5 [12,13] [(3,a_ 0 f)] ?_)
  refine gL [1] (Ak t S.X.cH S.av (bC L S.us) (eV L ⟨tk,1⟩) (by rw [sE];exact CJ)) ?_
  rintro _ _ ⟨rfl,rfl⟩
  refine jK 5 [6,7] [] ?_
  refine NN (af.seq (SR (jK 2 [18] [] ?_)))
  refine NN (CF (af.skip (NX (SR (jK 4 [4,5] [] ?_)))))
  refine NN (af.ret ?_)
  exact RT _ [1,0,2,3] (by skip;rw [show ck S ⟨tk,1⟩=_ from kS (by omega)]<;>exact⟨rfl,rfl⟩)
 ·replace hkt:(obj S.O tk).kind=2:=hkt
  replace hop:0<=(obj S.O tk).opens/\(obj S.O tk).opens<=1048576:=hop
  refine af.region (jK 2 [] [] ?_)
  refine NS (jK 5 [12,13] [(3,a_ 0 f)] ?_)
  refine gL [1] (Ak t S.X.cH S.av (bC L S.us) (eV L ⟨tk,2⟩) (by rw [sE];exact CJ)) ?_
  rintro _ _ ⟨rfl,rfl⟩
  refine jK 5 [6,7] [] ?_
  refine NN (af.seq (SR (jK 2 [18] [] ?_)))
  refine NN (CF (af.skip (NX (SR (jK 4 [4,5] [] ?_)))))
  refine NN (af.ret ?_)
  exact RT _ [1,0,2,3] (by skip;rw [show ck S ⟨tk,2⟩=_ from kS (by omega)]<;>exact⟨rfl,rfl⟩)
 replace hkt:(obj S.O tk).kind=3:=hkt
 replace hop:0<=(obj S.O tk).opens/\(obj S.O tk).opens<=1048576:=hop
 refine af.region (jK 2 [] [] ?_)
 refine NS (jK 5 [12,13] [(3,a_ 0 f)] ?_)
 refine gL [1] (Ak t S.X.cH S.av (bC L S.us) (eV L ⟨tk,3⟩) (by rw [sE];exact CJ)) ?_
 rintro _ _ ⟨rfl,rfl⟩
 refine jK 5 [6,7] [] ?_
 refine NN (af.seq (SR (jK 2 [18] [] ?_)))
 refine NN (CF (af.skip (NX (SR (jK 4 [4,5] [] ?_)))))
 refine NN (af.ret ?_)
 exact RT _ [1,0,2,3] (by skip;rw [show ck S ⟨tk,3⟩=_ from kS (by omega)]<;>exact⟨rfl,rfl⟩)
theorem fL {β:Bs} (S:aI) (L:HL) (f m t:Nat) (hI:Inv S) (h:Int) (hw:(Lit.int .i64 h).wf=true) (name:ByteArray) (hsz:name.size<=1048576) (need:Int) :
    Spec Tryz.prog β 118 #[vP f,vI (h),.string name,vI (need)] [pF f m t S.X,pT t S.X.cH S.av L S.us,pO S.O L] (fun v l=>v=aaV L (dH S.O S.us h name need)/\l=[pF f m t S.X,pT t S.X.cH S.av L S.us,pO S.O L]):=by
 refine SE Tryz.func118 Tryz.ntmps118 (fun R=>?_)
 refine af.seq ?_
 rcases hI.hand h with eF|⟨tk,eF,hlv⟩|⟨tk,eF,hlv⟩
 ·refine af.region (jK 2 [] [] ?_)
  refine NS (jK 5 [18,19] [(3,a_ 0 f)] ?_)
  refine gL [1] (tI t S.X.cH S.av (bC L S.us) h hw (sF eF)) ?_
  rintro _ _ ⟨rfl,rfl⟩
  refine jK 5 [10,11] [] ?_
  refine NN (af.seq (SR (jK 2 [24] [] ?_)))
  refine NN (CT (SR (jK 3 [8,9] [] ?_)))
  refine NN (af.ret (ai.aj ?_))
  exact RT (.tuple #[.pointer none,vI 131]) [1,0,2,3] (⟨by rw [show dH S.O S.us h name need=.error 131 by unfold dH;rw [eF]];rfl,rfl⟩)
 ·have hkt:(obj S.O tk).kind=1:=hI.kind hlv
  refine af.region (jK 2 [] [] ?_)
  refine NS (jK 5 [18,19] [(3,a_ 0 f)] ?_)
  refine gL [1] (oe t S.X.cH S.av (bC L S.us) h hw (eV L ⟨tk,1⟩) (mF eF)) ?_
  rintro _ _ ⟨rfl,rfl⟩
  refine jK 5 [10,11] [] ?_
  refine NN (af.seq (SR (jK 2 [24] [] ?_)))
  refine NN (CF (af.skip (NX (SR (jK 7 [12,13] [] ?_)))))
  refine NN (af.seq (af.block (SR ?_)))
  refine jK 3 [31] [] ?_
  refine NN (CT (SR (jK 2 [8,9] [] ?_)))
  refine NN (af.ret (ai.au (ai.aj ?_)))
  exact RT (.tuple #[.pointer none,vI 173]) [1,0,2,3] (⟨by rw [show dH S.O S.us h name need=.error 173 by grind [dH]];rfl,rfl⟩)
 have hkt:(obj S.O tk).kind=2:=hI.kind hlv
 refine af.region (jK 2 [] [] ?_)
 refine NS (jK 5 [18,19] [(3,a_ 0 f)] ?_)
 refine gL [1] (oe t S.X.cH S.av (bC L S.us) h hw (eV L ⟨tk,2⟩) (mF eF)) ?_
 rintro _ _ ⟨rfl,rfl⟩
 refine jK 5 [10,11] [] ?_
 refine NN (af.seq (SR (jK 2 [24] [] ?_)))
 refine NN (CF (af.skip (NX (SR (jK 7 [12,13] [] ?_)))))
 refine NN (af.seq (af.block (SR ?_)))
 refine jK 3 [31] [] ?_
 refine NN (CF (SR (jK 6 [34] [(4,v_ 2 (rS L hkt))] ?_)))
 refine NN (af.cond (b:=(obj S.O tk).gone) (fun _=>by kernel_rfl) (fun vD=>?_) (fun vD=>?_))
 ·refine SR (jK 2 [8,9] [] ?_)
  refine NN (af.ret (ai.au (ai.aj ?_)))
  exact RT (.tuple #[.pointer none,vI 170]) [1,0,2,3] (⟨by rw [show dH S.O S.us h name need=.error 170 by grind [dH]];rfl,rfl⟩)
 refine SR (jK 1 [41] [] ?_)
 refine gL [] (zW name hsz) ?_
 rintro _ _ ⟨rfl,rfl⟩
 refine jK 2 [40] [] ?_
 refine NN (cN (bO name) (fun qz=>?_) (fun qz=>?_))
 ·refine SR (jK 2 [8,9] [] ?_)
  refine NN (af.ret (ai.au (ai.aj ?_)))
  exact RT (.tuple #[.pointer none,vI 95]) [1,0,2,3] (⟨by rw [show dH S.O S.us h name need=.error 95 by grind [dH]];rfl,rfl⟩)
 refine SR (jK 10 [44] [(4,v_ 2 (vV L hkt))] ?_)
 refine NN (cN ((bits BinOp.and .i64 ((obj S.O tk).mode) need:Int)=(need:Int)) (fun ul=>?_) (fun ul=>?_))
 ·refine SR (jK 2 [8,9] [] ?_)
  refine NN (af.ret (ai.au (ai.aj ?_)))
  exact RT (.tuple #[.pointer none,vI 175]) [1,0,2,3] (⟨by rw [show dH S.O S.us h name need=.error 175 by grind [dH]];rfl,rfl⟩)
 refine af.skip (ai.ax (NX (SR ?_)))
 refine jK 3 [8,9] [] ?_
 refine NN (af.ret ?_)
 exact RT (.tuple #[vP (L.b tk),vI 0]) [1,0,2,3] (⟨by rw [show dH S.O S.us h name need=.ok tk by grind [dH]];rfl,rfl⟩)
theorem Xa {β:Bs} (X:FM) (f m t:Nat) (hX:0<=X.ah/\X.ah<=1048576/\-1125899906842624<=X.used/\X.used<=1125899906842624/\0<=X.last/\X.last<=1125899906842624) (O:bX) (L:HL) (d:Nat) (hkd:(obj O d).kind=2) (name:ByteArray) (hsz:name.size<=1048576) (hno:aL name (obj O d).ah=none) (hel:(obj O d).ah.length<=1048576) (idx:Used Th) (hil:idx.length<=1048576) (th:Th) (hkt:(obj O th.k).kind=th.kind) (h3:th.kind=1\/th.kind=2\/th.kind=3) (hb:0<=(obj O th.k).links/\(obj O th.k).links<=1048576) (hni:aq.get idx (obj O th.k).id=none) (hw:(Lit.int .i64 (obj O th.k).id).wf=true) :
    Spec Tryz.prog β 122 #[vP f,vP (L.b d),.string name,(eV L th)] [pF f m t X,pI m L idx,pO O L,pE O L] (fun v l=>v=.tuple #[]/\l=[pF f m t { X with ah:=X.ah+1 },pI m L (ins (obj O th.k).id th idx),pO (bw X O d name th) L,pE (bw X O d name th) L]):=by
 refine SE Tryz.func122 Tryz.ntmps122 (fun R=>?_)
 refine af.seq ?_
 obtain⟨tk,kd⟩:=th;simp only at hkt h3;rcases h3 with rfl|rfl|rfl
 ·replace hkt:(obj O tk).kind=1:=hkt
  replace hni:aq.get idx (obj O tk).id=none:=hni
  replace hw:(Lit.int .i64 (obj O tk).id).wf=true:=hw
  refine rM [0,1,2,3,4,9,5,6,7,8,10] 6 [0,1,2,3,4] ?_
  refine jR 6 [0,1,2,3,11,12,17] [(3,a_ 0 f)] ?_
  refine mL [0,1,2,3,4] [] (dF (L.b tk)) ?_ (by rintro _ _ ⟨rfl,rfl⟩;rfl)
  rintro _ _ ⟨rfl,rfl⟩
  refine nC [0,1,2,3,4] [14] [] [] ?_
  refine nC [0,1,2,3,4] [15] [] [] ?_
  refine nC [0,1,2,3,4] [16] [(0,v_ 2 (ug L hkt))] [] ?_
  refine aY.last rfl rfl ?_
  refine ak.oP 1 (d:=none) (t:=78) (K:=3) (E:=82) (b:=m) (n:=idx.length) (f:=(bB (bC L idx))) (x:=(.tmp 11)) (ix:=(.tmp 16)) (y:=(.tmp 17)) (key:=.int .i64 ((obj O tk).id)) (u:=.iface 87 (vP (L.b tk))) (kl:=(.int .i64 (obj O tk).id)) (n':=(idx.length+1)) (f':=(bB (bC L (ins (obj O tk).id ⟨tk,1⟩ idx)))) (fun _=>by kernel_rfl) (by kernel_rfl) (fun _=>by kernel_rfl) (fun _=>by kernel_rfl) (fun _=>by kernel_rfl) gT Tryz.underlying78 (by unfold maxLen;omega) (mE hw) (by rw [iZ,hni];rfl) (uS (L:=L) (t:=⟨tk,1⟩) hni) ?_
  refine NL (ai.np (NX (af.region ?_)))
  refine jK 4 [18,19,20,21] [] ?_
  refine gL [0,2,3] (jF X f m t hX O L d hkd name hsz hno hel ⟨tk,1⟩ hkt (by simp) hb) ?_
  rintro _ _ ⟨rfl,rfl⟩
  refine NL (ai.eG [(3,.abs (bq Tryz.prog 3 m (bB (bC L (ins (obj O tk).id ⟨tk,1⟩ idx))) ((ins (obj O tk).id ⟨tk,1⟩ idx).length)))] (fun w hS=>by rw [show (ins (obj O tk).id ⟨tk,1⟩ idx).length=idx.length+1 from iL _ _ _];exact hS) ?_)
  exact RF (.tuple #[]) [0,3,1,2,4] (⟨rfl,rfl⟩)
 ·replace hkt:(obj O tk).kind=2:=hkt
  replace hni:aq.get idx (obj O tk).id=none:=hni
  replace hw:(Lit.int .i64 (obj O tk).id).wf=true:=hw
  refine rM [0,1,2,3,4,9,5,6,7,8,10] 6 [0,1,2,3,4] ?_
  refine jR 6 [0,1,2,3,11,12,17] [(3,a_ 0 f)] ?_
  refine mL [0,1,2,3,4] [] (dF (L.b tk)) ?_ (by rintro _ _ ⟨rfl,rfl⟩;rfl)
  rintro _ _ ⟨rfl,rfl⟩
  refine nC [0,1,2,3,4] [14] [] [] ?_
  refine nC [0,1,2,3,4] [15] [] [] ?_
  refine nC [0,1,2,3,4] [16] [(0,v_ 2 (ug L hkt))] [] ?_
  refine aY.last rfl rfl ?_
  refine ak.oP 1 (d:=none) (t:=78) (K:=3) (E:=82) (b:=m) (n:=idx.length) (f:=(bB (bC L idx))) (x:=(.tmp 11)) (ix:=(.tmp 16)) (y:=(.tmp 17)) (key:=.int .i64 ((obj O tk).id)) (u:=.iface 94 (vP (L.b tk))) (kl:=(.int .i64 (obj O tk).id)) (n':=(idx.length+1)) (f':=(bB (bC L (ins (obj O tk).id ⟨tk,2⟩ idx)))) (fun _=>by kernel_rfl) (by kernel_rfl) (fun _=>by kernel_rfl) (fun _=>by kernel_rfl) (fun _=>by kernel_rfl) gT Tryz.underlying78 (by unfold maxLen;omega) (mE hw) (by rw [iZ,hni];rfl) (uS (L:=L) (t:=⟨tk,2⟩) hni) ?_
  refine NL (ai.np (NX (af.region ?_)))
  refine jK 4 [18,19,20,21] [] ?_
  refine gL [0,2,3] (jF X f m t hX O L d hkd name hsz hno hel ⟨tk,2⟩ hkt (by simp) hb) ?_
  rintro _ _ ⟨rfl,rfl⟩
  refine NL (ai.eG [(3,.abs (bq Tryz.prog 3 m (bB (bC L (ins (obj O tk).id ⟨tk,2⟩ idx))) ((ins (obj O tk).id ⟨tk,2⟩ idx).length)))] (fun w hS=>by rw [show (ins (obj O tk).id ⟨tk,2⟩ idx).length=idx.length+1 from iL _ _ _];exact hS) ?_)
  exact RF (.tuple #[]) [0,3,1,2,4] (⟨rfl,rfl⟩)
 replace hkt:(obj O tk).kind=3:=hkt
 replace hni:aq.get idx (obj O tk).id=none:=hni
 replace hw:(Lit.int .i64 (obj O tk).id).wf=true:=hw
 refine rM [0,1,2,3,4,9,5,6,7,8,10] 6 [0,1,2,3,4] ?_
 refine jR 6 [0,1,2,3,11,12,17] [(3,a_ 0 f)] ?_
 refine mL [0,1,2,3,4] [] (dF (L.b tk)) ?_ (by rintro _ _ ⟨rfl,rfl⟩;rfl)
 rintro _ _ ⟨rfl,rfl⟩
 refine nC [0,1,2,3,4] [14] [] [] ?_
 refine nC [0,1,2,3,4] [15] [] [] ?_
 refine nC [0,1,2,3,4] [16] [(0,v_ 2 (ug L hkt))] [] ?_
 refine aY.last rfl rfl ?_
 refine ak.oP 1 (d:=none) (t:=78) (K:=3) (E:=82) (b:=m) (n:=idx.length) (f:=(bB (bC L idx))) (x:=(.tmp 11)) (ix:=(.tmp 16)) (y:=(.tmp 17)) (key:=.int .i64 ((obj O tk).id)) (u:=.iface 91 (vP (L.b tk))) (kl:=(.int .i64 (obj O tk).id)) (n':=(idx.length+1)) (f':=(bB (bC L (ins (obj O tk).id ⟨tk,3⟩ idx)))) (fun _=>by kernel_rfl) (by kernel_rfl) (fun _=>by kernel_rfl) (fun _=>by kernel_rfl) (fun _=>by kernel_rfl) gT Tryz.underlying78 (by unfold maxLen;omega) (mE hw) (by rw [iZ,hni];rfl) (uS (L:=L) (t:=⟨tk,3⟩) hni) ?_
 refine NL (ai.np (NX (af.region ?_)))
 refine jK 4 [18,19,20,21] [] ?_
 refine gL [0,2,3] (jF X f m t hX O L d hkd name hsz hno hel ⟨tk,3⟩ hkt (by simp) hb) ?_
 rintro _ _ ⟨rfl,rfl⟩
 refine NL (ai.eG [(3,.abs (bq Tryz.prog 3 m (bB (bC L (ins (obj O tk).id ⟨tk,3⟩ idx))) ((ins (obj O tk).id ⟨tk,3⟩ idx).length)))] (fun w hS=>by rw [show (ins (obj O tk).id ⟨tk,3⟩ idx).length=idx.length+1 from iL _ _ _];exact hS) ?_)
 exact RF (.tuple #[]) [0,3,1,2,4] (⟨rfl,rfl⟩)
end
section
open Go.RowKit Go.Maps aX aq
attribute [local irreducible] ak aU af ai
theorem ze {β:Bs} (S:aI) (L:HL) (f m t:Nat) (hI:Inv0 S) (d:Nat) (hd:Live S.idx ⟨d,2⟩) (name:ByteArray) (hsz:name.size<=1048576) (hno:aL name (obj S.O d).ah=none) (o:aM) (hid:o.id=S.X.last+1) (hk3:o.kind=1\/o.kind=2\/o.kind=3) (hl0:o.links=0) (hlast:S.X.last < 1099511627776) :
    Spec Tryz.prog β 122 #[vP f,vP (L.b d),.string name,eV L ⟨(aJ S.X),o.kind⟩] [pF f m t { S.X with last:=S.X.last+1 },pI m L S.idx,pO (aD S.O (aJ S.X) (fun _=>o)) L,pE (aD S.O (aJ S.X) (fun _=>o)) L] (fun v l=>v=.tuple #[]/\l=[pF f m t ((fw S d name o).X),pI m L ((fw S d name o).idx),pO ((fw S d name o).O) L,pE ((fw S d name o).O) L]):=by
  have hX:=hI.hX
  have hne:d≠(aJ S.X):=hI.Am hd
  have hkd:(obj S.O d).kind=2:=hI.kind hd
  have hel:(obj S.O d).ah.length<=8192:=hI.je hd
  have hlen:=hI.len
  have e1:obj (aD S.O (aJ S.X) (fun _=>o)) (aJ S.X)=o:=cU
  have e2:obj (aD S.O (aJ S.X) (fun _=>o)) d=obj S.O d:=fC hne
  have hnk:=pZ hI
  have h:=Xa (β:=β) { S.X with last:=S.X.last+1 } f m t (by simp only;omega) (aD S.O (aJ S.X) (fun _=>o)) L d (by rw [e2];exact hkd) name hsz (by rw [e2];exact hno) (by rw [e2];omega) S.idx (by omega) ⟨(aJ S.X),o.kind⟩ (by rw [e1]) hk3 (by rw [e1,hl0];decide) (by
    rw [e1,hid]
    cases e:aq.get S.idx (S.X.last+1) with
    | none=>rfl
    | some u=>have:=(hI.idx _ u e).2.2;omega) (by rw [e1,hid];exact WalkArith.wf_i64 (by have:=hI.last;omega))
  rw [e1,hid] at h
  exact h
theorem RY {β:Bs} (S:aI) (L:HL) (f m t:Nat) (hI:Inv S) (d:Nat) (hd:Live S.idx ⟨d,2⟩) (name:ByteArray) (hsz:name.size<=1048576) (mode:Int) :
    Spec Tryz.prog β 119 #[vP f,vP (L.b d),.string name,vI (mode)] (pA f m t L S) (fun v l=>∃ L2,v=vI (ko S d name mode).1/\l=(pA f m t L2 ((ko S d name mode).2))):=by
 have hX:=hI.hX
 have hel:(obj S.O d).ah.length<=8192:=hI.je hd
 have hkd:(obj S.O d).kind=2:=hI.kind hd
 refine SE Tryz.func119 Tryz.ntmps119 (fun R=>?_)
 refine SR (jK 1 [] [] ?_)
 refine NS (jK 3 [10,11,12] [] ?_)
 refine gL [0,1,5,3] (Bp S L f m t hI d hd name hsz) ?_
 rintro _ _ ⟨rfl,rfl⟩
 refine jK 1 [9] [] ?_
 refine NN (af.seq (SR (jK 2 [15] [] ?_)))
 refine NN (cP (((dQ S.X S.O S.idx d name):Int)=(0:Int)) (fun h0=>?_) (fun h0=>?_))
 ·have hno:=tO h0
  refine af.region (jK 5 [16,17,18,19,20] [] ?_)
  refine gL [0] (Bk S.X f m t hX mode) ?_
  rintro _ _ ⟨rfl,rfl⟩
  refine ak.qR (d:=(some 22)) (t:=95) (fun _=>by kernel_rfl) Tryz.prog rfl 9 (fun m1=>?_)
  refine jN 3 [25] (fun _=>[]) (fun _=>[]) (fun b2=>.blk b2 [vI (S.X.last+1),vI (mode),vI 0,vI 0,vI (S.X.cS),vI (S.X.cZ),vI 0,vI 0,.bool false,.map (some m1),.pointer none] 97) (fun b2=>?_)
  obtain⟨L2,hL2⟩:∃ L2:HL,L2=L.put (aJ S.X) b2 m1 none 0:=⟨_,rfl⟩
  have hfr:=hI.toInv0.fresh
  refine ak.mem (fun w hS=>hS.yA hL2 hfr (o:=(cx S.X 2 mode)) (i:=3) (j:=8) (ix:=[0,1,2,4,5,6,7]) rfl rfl (by kernel_rfl) rfl (by show (2:Int)≠0;decide) ((nW (L:=L2) (k:=(aJ S.X)) (o:=(cx S.X 2 mode)) rfl).trans (by rw [Js hL2];rfl)) rfl) ?_
  refine ak.mem (fun w hS=>hS.Vm hL2 hfr (o:=(cx S.X 2 mode)) (i:=3) (j:=7) (ix:=[0,1,2,4,5,6]) rfl rfl (by kernel_rfl) rfl rfl rfl) ?_
  refine ak.eG [(5,pD (aD S.O (aJ S.X) (fun _=>(cx S.X 2 mode))) L2)] (fun w hS=>hS.D5 hL2 (o:=(cx S.X 2 mode)) (i:=5) rfl (by show (2:Int)≠1;decide)) ?_
  refine ak.eG [(3,.abs (bq Tryz.prog 3 m (bB (bC L2 S.idx)) S.idx.length)),(4,.abs (dJ 140 t S.X.cH S.av (bC L2 S.us)))] (fun w hS=>by rw [jy hL2 hfr.idx,jy hL2 hfr.us];exact hS) ?_
  refine gL [2,3,1,0] ((by have h:=ze (β:=β) S L2 f m t hI.toInv0 d hd name hsz hno (cx S.X 2 mode) rfl (by simp [cx]) rfl (xA h0);rw [BK hL2 (hI.Am hd),sG hL2] at h;exact h)) ?_
  rintro _ _ ⟨rfl,rfl⟩
  refine NS (ak.eG [(5,.abs (aG (bV ((fw S d name (cx S.X 2 mode)).O) L2)))] (fun w hS=>by rw [show bV ((fw S d name (cx S.X 2 mode)).O) L2=bV (aD S.O (aJ S.X) (fun _=>(cx S.X 2 mode))) L2 from jE];exact hS) ?_)
  refine jK 2 [8] [] ?_
  refine NN (af.ret ?_)
  exact RT _ [0,1,4,2,5,3,6] (⟨L2,by rw [show ko S d name mode=_ from if_pos h0];refine⟨congrArg _ h0,?_⟩;rfl⟩)
 refine af.skip (NX (SR (jK 2 [8] [] ?_)))
 refine NN (af.ret ?_)
 exact RT _ [0,1,4,3,5,2,6] (⟨L,by rw [show ko S d name mode=_ from if_neg h0]<;>exact⟨rfl,rfl⟩⟩)
theorem LQ {β:Bs} (S:aI) (L:HL) (f m t:Nat) (hI:Inv S) (d:Nat) (hd:Live S.idx ⟨d,2⟩) (name:ByteArray) (hsz:name.size<=1048576) (text:ByteArray) (htz:text.size<=1048576) :
    Spec Tryz.prog β 123 #[vP f,vP (L.b d),.string name,.string text] (pA f m t L S) (fun v l=>∃ L2,v=vI (ia S d name text).1/\l=(pA f m t L2 ((ia S d name text).2))):=by
 have hX:=hI.hX
 have hel:(obj S.O d).ah.length<=8192:=hI.je hd
 have hkd:(obj S.O d).kind=2:=hI.kind hd
 refine SE Tryz.func123 Tryz.ntmps123 (fun R=>?_)
 refine SR (jK 1 [] [] ?_)
 refine NS (jK 1 [10] [] ?_)
 refine gL [] (W9 text htz) ?_
 rintro _ _ ⟨rfl,rfl⟩
 refine jK 1 [9] [] ?_
 refine NN (af.seq (SR (jK 2 [13] [] ?_)))
 refine NN (cP (((iT text):Int)=(0:Int)) (fun hb=>?_) (fun hb=>?_))
 ·refine af.region (jK 3 [14,15,16] [] ?_)
  refine gL [0,1,5,3] (Bp S L f m t hI d hd name hsz) ?_
  rintro _ _ ⟨rfl,rfl⟩
  refine jK 1 [9] [] ?_
  refine NN (af.seq (SR (jK 2 [19] [] ?_)))
  refine NN (cP (((dQ S.X S.O S.idx d name):Int)=(0:Int)) (fun h0=>?_) (fun h0=>?_))
  ·have hno:=tO h0
   refine af.region (jK 4 [20,21,22,23] [] ?_)
   refine gL [0] (Bk S.X f m t hX 511) ?_
   rintro _ _ ⟨rfl,rfl⟩
   refine jN 4 [28] (fun _=>[]) (fun _=>[]) (fun b3=>.blk b3 [vI (S.X.last+1),vI (511),vI 0,vI 0,vI (S.X.cS),vI (S.X.cZ),vI 0,vI 0,.bool false,.string text] 93) (fun b3=>?_)
   obtain⟨L2,hL2⟩:∃ L2:HL,L2=L.put (aJ S.X) b3 0 none 0:=⟨_,rfl⟩
   have hfr:=hI.toInv0.fresh
   refine ak.mem (fun w hS=>hS.yA hL2 hfr (o:={ cx S.X 3 511 with target:=text }) (i:=3) (j:=7) (ix:=[0,1,2,4,5,6]) rfl rfl (by kernel_rfl) rfl (by show (3:Int)≠0;decide) ((Ab (L:=L2) (k:=(aJ S.X)) (o:={ cx S.X 3 511 with target:=text }) rfl).trans (by rfl)) rfl) ?_
   refine ak.eG [(3,pE (aD S.O (aJ S.X) (fun _=>{ cx S.X 3 511 with target:=text })) L2)] (fun w hS=>hS.Ar hL2 hfr (o:={ cx S.X 3 511 with target:=text }) (i:=3) rfl (by show (3:Int)≠2;decide)) ?_
   refine ak.eG [(5,pD (aD S.O (aJ S.X) (fun _=>{ cx S.X 3 511 with target:=text })) L2)] (fun w hS=>hS.D5 hL2 (o:={ cx S.X 3 511 with target:=text }) (i:=5) rfl (by show (3:Int)≠1;decide)) ?_
   refine ak.eG [(2,.abs (bq Tryz.prog 3 m (bB (bC L2 S.idx)) S.idx.length)),(4,.abs (dJ 140 t S.X.cH S.av (bC L2 S.us)))] (fun w hS=>by rw [jy hL2 hfr.idx,jy hL2 hfr.us];exact hS) ?_
   refine gL [1,2,0,3] ((by have h:=ze (β:=β) S L2 f m t hI.toInv0 d hd name hsz hno { cx S.X 3 511 with target:=text } rfl (by simp [cx]) rfl (xA h0);rw [BK hL2 (hI.Am hd),sG hL2] at h;exact h)) ?_
   rintro _ _ ⟨rfl,rfl⟩
   refine NS (ak.eG [(5,.abs (aG (bV ((fw S d name { cx S.X 3 511 with target:=text }).O) L2)))] (fun w hS=>by rw [show bV ((fw S d name { cx S.X 3 511 with target:=text }).O) L2=bV (aD S.O (aJ S.X) (fun _=>{ cx S.X 3 511 with target:=text })) L2 from jE];exact hS) ?_)
   refine jK 2 [8] [] ?_
   refine NN (af.ret ?_)
   exact RT _ [0,1,4,2,5,3,6] (⟨L2,by rw [show ia S d name text=_ from (if_pos hb).trans (if_pos h0)];refine⟨congrArg _ h0,?_⟩;rfl⟩)
  refine af.skip (NX (SR (jK 2 [8] [] ?_)))
  refine NN (af.ret ?_)
  exact RT _ [0,1,4,3,5,2,6] (⟨L,by rw [show ia S d name text=_ from (if_pos hb).trans (if_neg h0)]<;>exact⟨rfl,rfl⟩⟩)
 refine af.skip (NX (af.seq (SR (jK 2 [19] [] ?_))))
 refine NN (cP (((iT text):Int)=(0:Int)) (fun h0=>?_) (fun h0=>?_))
 ·exact absurd h0 hb
 refine af.skip (NX (SR (jK 2 [8] [] ?_)))
 refine NN (af.ret ?_)
 exact RT _ [0,1,2,3,4,5,6] (⟨L,by rw [show ia S d name text=_ from if_neg hb]<;>exact⟨rfl,rfl⟩⟩)
theorem OJ {β:Bs} (S:aI) (L:HL) (f m t:Nat) (hI:Inv S) (d:Nat) (hd:Live S.idx ⟨d,2⟩) (name:ByteArray) (hsz:name.size<=1048576) :
    Spec Tryz.prog β 126 #[vP f,vP (L.b d),.string name] (pA f m t L S) (fun v l=>∃ L2,v=vI (fH S d name).1/\l=(pA f m t L2 ((fH S d name).2))):=by
 have hX:=hI.hX
 have hel:(obj S.O d).ah.length<=8192:=hI.je hd
 have hkd:(obj S.O d).kind=2:=hI.kind hd
 refine SE Tryz.func126 Tryz.ntmps126 (fun R=>?_)
 refine af.seq ?_
 rcases hI.qF hd name with hlk|⟨tk,hlk,hlv⟩|⟨tk,hlk,hlv⟩|⟨tk,hlk,hlv⟩
 ·refine af.region (jK 1 [] [] ?_)
  refine NN (af.seq (SR (jK 5 [10,11] [(3,v_ 3 (bQ L hkd))] ?_)))
  refine lE 5 hkd hlk ?_
  refine NN (af.block (SR ?_))
  refine jK 1 [13] [] ?_
  refine NN (CT (SR (jK 1 [6] [] ?_)))
  refine NN (af.ret (ai.au (ai.aj ?_)))
  exact RT _ [0,1,2,3,4,5,6] (⟨L,by rw [show fH S d name=(170,S) by unfold fH;rw [hlk]]<;>exact⟨rfl,rfl⟩⟩)
 ·have hkt:(obj S.O tk).kind=1:=hI.kind hlv
  refine af.region (jK 1 [] [] ?_)
  refine NN (af.seq (SR (jK 5 [10,11] [(3,v_ 3 (bQ L hkd))] ?_)))
  refine lE 5 hkd hlk ?_
  refine NN (af.block (SR ?_))
  refine jK 1 [13] [] ?_
  refine NN (CF (SR (jK 3 [15] [] ?_)))
  refine NN (CF (af.skip (ai.ax (NX (SR ?_)))))
  refine jK 3 [17,18,19] [] ?_
  refine gL [0,3,5,1] (qP S L f m t hI d hd name hsz ⟨tk,1⟩ hlk) ?_
  rintro _ _ ⟨rfl,rfl⟩
  refine NS (ak.eG [(5,.abs (aG (bV ((aF S d name ⟨tk,1⟩).O) L)))] (fun w hS=>by rw [show bV ((aF S d name ⟨tk,1⟩).O) L=bV S.O L from qK];exact hS) ?_)
  refine jK 1 [6] [] ?_
  refine NN (af.ret ?_)
  exact RT _ [0,3,4,1,5,2,6] (⟨L,by rw [show fH S d name=(0,aF S d name ⟨tk,1⟩) by grind [fH]]<;>exact⟨rfl,rfl⟩⟩)
 ·have hkt:(obj S.O tk).kind=2:=hI.kind hlv
  refine af.region (jK 1 [] [] ?_)
  refine NN (af.seq (SR (jK 5 [10,11] [(3,v_ 3 (bQ L hkd))] ?_)))
  refine lE 5 hkd hlk ?_
  refine NN (af.block (SR ?_))
  refine jK 1 [13] [] ?_
  refine NN (CF (SR (jK 3 [15] [] ?_)))
  refine NN (CT (SR (jK 1 [6] [] ?_)))
  refine NN (af.ret (ai.au (ai.aj ?_)))
  exact RT _ [0,1,2,3,4,5,6] (⟨L,by rw [show fH S d name=(172,S) by grind [fH]]<;>exact⟨rfl,rfl⟩⟩)
 have hkt:(obj S.O tk).kind=3:=hI.kind hlv
 refine af.region (jK 1 [] [] ?_)
 refine NN (af.seq (SR (jK 5 [10,11] [(3,v_ 3 (bQ L hkd))] ?_)))
 refine lE 5 hkd hlk ?_
 refine NN (af.block (SR ?_))
 refine jK 1 [13] [] ?_
 refine NN (CF (SR (jK 3 [15] [] ?_)))
 refine NN (CF (af.skip (ai.ax (NX (SR ?_)))))
 refine jK 3 [17,18,19] [] ?_
 refine gL [0,3,5,1] (qP S L f m t hI d hd name hsz ⟨tk,3⟩ hlk) ?_
 rintro _ _ ⟨rfl,rfl⟩
 refine NS (ak.eG [(5,.abs (aG (bV ((aF S d name ⟨tk,3⟩).O) L)))] (fun w hS=>by rw [show bV ((aF S d name ⟨tk,3⟩).O) L=bV S.O L from qK];exact hS) ?_)
 refine jK 1 [6] [] ?_
 refine NN (af.ret ?_)
 exact RT _ [0,3,4,1,5,2,6] (⟨L,by rw [show fH S d name=(0,aF S d name ⟨tk,3⟩) by grind [fH]]<;>exact⟨rfl,rfl⟩⟩)
theorem RZ {β:Bs} (S:aI) (L:HL) (f m t:Nat) (hI:Inv S) (d:Nat) (hd:Live S.idx ⟨d,2⟩) (name:ByteArray) (hsz:name.size<=1048576) :
    Spec Tryz.prog β 132 #[vP f,vP (L.b d),.string name] (pA f m t L S) (fun v l=>∃ L2,v=vI (fY S d name).1/\l=(pA f m t L2 ((fY S d name).2))):=by
 have hX:=hI.hX
 have hel:(obj S.O d).ah.length<=8192:=hI.je hd
 have hkd:(obj S.O d).kind=2:=hI.kind hd
 refine SE Tryz.func132 Tryz.ntmps132 (fun R=>?_)
 refine af.seq ?_
 rcases hI.qF hd name with hlk|⟨tk,hlk,hlv⟩|⟨tk,hlk,hlv⟩|⟨tk,hlk,hlv⟩
 ·refine af.region (jK 1 [] [] ?_)
  refine NS (jK 5 [13,14] [(3,v_ 3 (bQ L hkd))] ?_)
  refine lE 5 hkd hlk ?_
  refine jK 1 [7] [] ?_
  refine NN (af.seq (SR (jK 2 [17] [] ?_)))
  refine NN (CT (SR (jK 1 [6] [] ?_)))
  refine NN (af.ret (ai.aj ?_))
  exact RT (vI 170) [0,1,2,3,4,5,6] (⟨L,by skip;rw [show fY S d name=(170,S) by unfold fY;rw [hlk]]<;>exact⟨rfl,rfl⟩⟩)
 ·have hkt:(obj S.O tk).kind=1:=hI.kind hlv
  refine af.region (jK 1 [] [] ?_)
  refine NS (jK 5 [13,14] [(3,v_ 3 (bQ L hkd))] ?_)
  refine lE 5 hkd hlk ?_
  refine jK 1 [7] [] ?_
  refine NN (af.seq (SR (jK 2 [17] [] ?_)))
  refine NN (CF (af.skip (NX (SR (jK 7 [8,9] [] ?_)))))
  refine NN (af.seq (SR (jK 2 [24] [] ?_)))
  refine NN (CT (SR (jK 1 [6] [] ?_)))
  refine NN (af.ret (ai.aj ?_))
  exact RT (vI 173) [0,1,2,3,4,5,6] (⟨L,by skip;rw [show fY S d name=(173,S) by grind [fY]]<;>exact⟨rfl,rfl⟩⟩)
 ·have hkt:(obj S.O tk).kind=2:=hI.kind hlv
  have acq:(obj S.O tk).ah.length<=8192:=hI.je hlv
  refine af.region (jK 1 [] [] ?_)
  refine NS (jK 5 [13,14] [(3,v_ 3 (bQ L hkd))] ?_)
  refine lE 5 hkd hlk ?_
  refine jK 1 [7] [] ?_
  refine NN (af.seq (SR (jK 2 [17] [] ?_)))
  refine NN (CF (af.skip (NX (SR (jK 7 [8,9] [] ?_)))))
  refine NN (af.seq (SR (jK 2 [24] [] ?_)))
  refine NN (CF (af.skip (NX (af.seq (SR (jK 4 [28] [(3,v_ 3 (bQ L hkt))] ?_))))))
  refine eNk 5 hkt ?_
  refine jK 1 [30] [] ?_
  refine NN (cP (((((obj S.O tk).ah.length:Nat):Int):Int) > (0:Int)) (fun lC=>?_) (fun lC=>?_))
  ·refine SR (jK 1 [6] [] ?_)
   refine NN (af.ret (ai.aj ?_))
   exact RT (vI 178) [0,1,2,3,4,5,6] (⟨L,by skip;rw [show fY S d name=(178,S) by grind [fY,obj]]<;>exact⟨rfl,rfl⟩⟩)
  refine af.skip (NX (SR (jK 3 [31,32,33] [] ?_)))
  refine gL [0,3,5,1] (qP S L f m t hI d hd name hsz ⟨tk,2⟩ hlk) ?_
  rintro _ _ ⟨rfl,rfl⟩
  refine NS (ak.eG [(5,.abs (aG (bV ((aF S d name ⟨tk,2⟩).O) L)))] (fun w hS=>by rw [show bV ((aF S d name ⟨tk,2⟩).O) L=bV S.O L from qK];exact hS) ?_)
  have Bg:(obj (aF S d name ⟨tk,2⟩).O d).kind=2:=(D4).trans (hkd)
  have Bh:(obj (aF S d name ⟨tk,2⟩).O tk).kind=2:=(D4).trans (hkt)
  generalize dh:(aF S d name ⟨tk,2⟩).O=ef at Bg Bh ⊢
  refine jK 3 [37] [] ?_
  refine uSt 1 [(2,1),(5,2)] tk (none) Bh (fun gi dK=>?_)
  have UH:=ku dK Bg
  have OB:=ku dK Bh
  refine NS (jK 1 [6] [] ?_)
  refine NN (af.ret ?_)
  exact RT (l:=[pF f m t ((aF S d name ⟨tk,2⟩).X),pI m L ((aF S d name ⟨tk,2⟩).idx),pT t S.X.cH S.av L S.us,pO gi L,pD gi L,pE gi L]) (.int .i64 0) [0,3,4,1,5,2,6] (⟨L,by subst dK;subst dh;rw [show fY S d name=(0,{ aF S d name ⟨tk,2⟩ with O:=orphan (aF S d name ⟨tk,2⟩).O tk }) by unfold fY;rw [hlk];exact (if_pos rfl).trans (if_pos (List.eq_nil_of_length_eq_zero (by grind)))]<;>exact⟨rfl,rfl⟩⟩)
 have hkt:(obj S.O tk).kind=3:=hI.kind hlv
 refine af.region (jK 1 [] [] ?_)
 refine NS (jK 5 [13,14] [(3,v_ 3 (bQ L hkd))] ?_)
 refine lE 5 hkd hlk ?_
 refine jK 1 [7] [] ?_
 refine NN (af.seq (SR (jK 2 [17] [] ?_)))
 refine NN (CF (af.skip (NX (SR (jK 7 [8,9] [] ?_)))))
 refine NN (af.seq (SR (jK 2 [24] [] ?_)))
 refine NN (CT (SR (jK 1 [6] [] ?_)))
 refine NN (af.ret (ai.aj ?_))
 exact RT (vI 173) [0,1,2,3,4,5,6] (⟨L,by skip;rw [show fY S d name=(173,S) by grind [fY]]<;>exact⟨rfl,rfl⟩⟩)
end
section
open Go.RowKit Go.Maps aX aq
attribute [local irreducible] ak aU af ai
theorem OL {β:Bs} (S:aI) (L:HL) (f m t:Nat) (hI:Inv S) (d:Nat) (hd:Live S.idx ⟨d,2⟩) (name:ByteArray) (hsz:name.size<=1048576) (to:Nat) (hto:Live S.idx ⟨to,2⟩) (toName:ByteArray) (vY:toName.size<=1048576) :
    Spec Tryz.prog β 133 #[vP f,vP (L.b d),.string name,vP (L.b to),.string toName] (pA f m t L S) (fun v l=>∃ L2,v=vI (bG S d name to toName).1/\l=(pA f m t L2 ((bG S d name to toName).2))):=by
 have hX:=hI.hX
 have hel:(obj S.O d).ah.length<=8192:=hI.je hd
 have hkd:(obj S.O d).kind=2:=hI.kind hd
 have fV:(obj S.O to).kind=2:=hI.kind hto
 have ab7:(obj S.O to).ah.length<=8192:=hI.je hto
 refine SE Tryz.func133 Tryz.ntmps133 (fun R=>?_)
 refine af.seq ?_
 rcases hI.qF hd name with hlk|⟨tk,hlk,hlv⟩|⟨tk,hlk,hlv⟩|⟨tk,hlk,hlv⟩
 ·refine af.region (jK 1 [] [] ?_)
  refine NS (jK 5 [19,20] [(3,v_ 3 (bQ L hkd))] ?_)
  refine lE 5 hkd hlk ?_
  refine jK 1 [11] [] ?_
  refine NN (af.seq (SR (jK 2 [23] [] ?_)))
  refine NN (CT (SR (jK 1 [10] [] ?_)))
  refine NN (af.ret (ai.aj ?_))
  exact RT _ [0,1,2,3,4,5,6] (⟨L,by rw [show bG S d name to toName=(170,S) by unfold bG;rw [hlk]]<;>exact⟨rfl,rfl⟩⟩)
 ·have hkt:(obj S.O tk).kind=1:=hI.kind hlv
  refine af.region (jK 1 [] [] ?_)
  refine NS (jK 5 [19,20] [(3,v_ 3 (bQ L hkd))] ?_)
  refine lE 5 hkd hlk ?_
  refine jK 1 [11] [] ?_
  refine NN (af.seq (SR (jK 2 [23] [] ?_)))
  refine NN (CF (af.skip (NX (SR (jK 7 [12,13] [] ?_)))))
  refine NN (af.seq (SR (jK 2 [14] [] ?_)))
  refine NN (af.block ?_)
  refine lJ (fun (u:Unit)=>True) (fun (u:Unit)=>0) (fun (u:Unit)=>[(0,vP f),(1,vP (L.b d)),(2,.string name),(3,vP (L.b to)),(4,.string toName),(11,.iface 87 (vP (L.b tk))),(12,.pointer none),(13,.bool false),(14,vP (L.b to))]) (fun (u:Unit)=>((pA f m t L S)++[.abs R])) () [0,1,2,3,4,5,6] (trivial) ?_
  rintro u _
  refine af.seq (SR (jK 5 [34] [] ?_))
  refine NN (CF (af.exit (ai.aC (ai.aC (ai.aW (NX (af.seq ?_)))))))
  skip
  rcases hI.qF hto toName with cT|⟨ok,cT,ij⟩|⟨ok,cT,ij⟩|⟨ok,cT,ij⟩
  ·refine af.region (jK 5 [45,46] [(3,v_ 3 (bQ L fV))] ?_)
   refine lE 5 fV cT ?_
   refine jK 1 [15] [] ?_
   refine NN (af.seq (SR (jK 3 [50] [] ?_)))
   refine NN (CF (af.skip (NX (af.seq (SR (jK 2 [52] [] ?_))))))
   refine NN (CF (af.skip (NX (SR ?_))))
   have bE:Inv S:=hI
   have hd1:=hd
   have gE:=hlk
   have sV:=cT
   have kP:=hto
   have lT:(obj S.O d).kind=2:=bE.kind hd1
   have sW:(obj S.O to).kind=2:=bE.kind kP
   have nE:Live S.idx ⟨tk,1⟩:=(bE.ent hd1 gE).2
   have nF:(obj S.O tk).kind=1:=bE.kind nE
   have F7:(obj S.O d).ah.length<=8192:=bE.je hd1
   have F8:(obj S.O to).ah.length<=8192:=bE.je kP
   have sX:=bE.lb nE
   have nG:tk≠d:=bE.ne hd1 gE
   refine jK 3 [61,62,63] [] ?_
   refine gL [0,3,5] (kV S.X f m t bE.hX S.O L d lT name hsz ⟨tk,1⟩ nF (by simp) gE (bE.twice hd1) (by omega) (by simp only at sX ⊢;omega)) ?_
   rintro _ _ ⟨rfl,rfl⟩
   refine NS (jK 4 [65,66,67,68] [] ?_)
   refine gL [0,1,2] (jF { S.X with ah:=S.X.ah - 1 } f m t (bE.Cr hd1 gE) (aH S.X S.O d name ⟨tk,1⟩) L to (cY.trans sW) toName vY (mq nG sV) (Nat.le_trans (o6 nG) (by omega)) ⟨tk,1⟩ (cY.trans nF) (by simp) (mG bE.toInv0 hd1 gE)) ?_
   rintro _ _ ⟨rfl,rfl⟩
   refine NS (ak.eG [(5,.abs (aG (bV (bw S.X (aH S.X S.O d name ⟨tk,1⟩) to toName ⟨tk,1⟩) L)))] (fun w hS=>by rw [show bV (bw S.X (aH S.X S.O d name ⟨tk,1⟩) to toName ⟨tk,1⟩) L=bV S.O L from jE.trans mo];exact hS) ?_)
   refine jK 1 [10] [] ?_
   refine NN (af.ret ?_)
   exact RT _ [0,3,4,1,5,2,6] (⟨L,by rw [show bG S d name to toName=(0,lH S d name to toName ⟨tk,1⟩) by grind [bG]]<;>exact⟨rfl,rfl⟩⟩)
  ·have pN:(obj S.O ok).kind=1:=hI.kind ij
   refine af.region (jK 5 [45,46] [(3,v_ 3 (bQ L fV))] ?_)
   refine lE 5 fV cT ?_
   refine jK 1 [15] [] ?_
   refine NN (af.seq (SR (jK 2 [48,49] [] ?_)))
   refine ak.jI (d:=(some 50)) (op:=.binOp .eql 82 (.tmp 48) (.tmp 49) 82) (v:=.bool (decide (ok=tk))) (fun _=>by kernel_rfl) (fun o junk w ho hS=>by obtain⟨F,hF⟩:=hS.get (i:=3) rfl;exact⟨w,Db XQ ho (by kernel_rfl) (by kernel_rfl) (by rw [pN];decide) (by rw [hkt];decide) hF,hS⟩) ?_
   refine NN (cP (ok=tk) (fun h50=>?_) (fun h50=>?_))
   ·refine SR (jK 1 [10] [] ?_)
    refine NN (af.ret (ai.aj ?_))
    exact RT _ [0,1,2,3,4,5,6] (⟨L,by rw [show bG S d name to toName=(0,S) by grind [bG]]<;>exact⟨rfl,rfl⟩⟩)
   refine af.skip (NX (af.seq (SR (jK 2 [52] [] ?_))))
   refine NN (CT (af.seq (SR (jK 1 [53] [] ?_))))
   refine gL [] (pH (vP (L.b ok))) ?_
   rintro _ _ ⟨rfl,rfl⟩
   refine jK 1 [55] [] ?_
   refine NN (CF (af.skip (NX (af.seq (SR (jK 1 [56] [] ?_))))))
   refine NN (CF (af.skip (NX (af.region (jK 3 [57,58,59] [] ?_)))))
   refine gL [0,3,5,1] (qP S L f m t hI to hto toName vY ⟨ok,1⟩ cT) ?_
   rintro _ _ ⟨rfl,rfl⟩
   refine NS ?_
   have bE:Inv (aF S to toName ⟨ok,1⟩):=hI.BM hto cT (by simp)
   have hot:(⟨ok,1⟩:Th)≠⟨tk,1⟩:=fun e=>h50 (congrArg Th.k e)
   have hd1:Live (aF S to toName ⟨ok,1⟩).idx ⟨d,2⟩:=kT hI.toInv0 hto cT hd (fun e=>by have:=fQ hd ij e;cases this)
   have kP:Live (aF S to toName ⟨ok,1⟩).idx ⟨to,2⟩:=kT hI.toInv0 hto cT hto (fun e=>by have:=fQ hto ij e;cases this)
   have gE:aL name (obj (aF S to toName ⟨ok,1⟩).O d).ah=some ⟨tk,1⟩:=tP hI.toInv0 hto cT hlk hot
   have sV:aL toName (obj (aF S to toName ⟨ok,1⟩).O to).ah=none:=tQ hI.toInv0 hto cT
   have lT:(obj (aF S to toName ⟨ok,1⟩).O d).kind=2:=bE.kind hd1
   have sW:(obj (aF S to toName ⟨ok,1⟩).O to).kind=2:=bE.kind kP
   have nE:Live (aF S to toName ⟨ok,1⟩).idx ⟨tk,1⟩:=(bE.ent hd1 gE).2
   have nF:(obj (aF S to toName ⟨ok,1⟩).O tk).kind=1:=bE.kind nE
   have F7:(obj (aF S to toName ⟨ok,1⟩).O d).ah.length<=8192:=bE.je hd1
   have F8:(obj (aF S to toName ⟨ok,1⟩).O to).ah.length<=8192:=bE.je kP
   have sX:=bE.lb nE
   have nG:tk≠d:=bE.ne hd1 gE
   refine jK 3 [61,62,63] [] ?_
   refine gL [0,1,2] (kV (aF S to toName ⟨ok,1⟩).X f m t bE.hX (aF S to toName ⟨ok,1⟩).O L d lT name hsz ⟨tk,1⟩ nF (by simp) gE (bE.twice hd1) (by omega) (by simp only at sX ⊢;omega)) ?_
   rintro _ _ ⟨rfl,rfl⟩
   refine NS (jK 4 [65,66,67,68] [] ?_)
   refine gL [0,1,2] (jF { (aF S to toName ⟨ok,1⟩).X with ah:=(aF S to toName ⟨ok,1⟩).X.ah - 1 } f m t (bE.Cr hd1 gE) (aH (aF S to toName ⟨ok,1⟩).X (aF S to toName ⟨ok,1⟩).O d name ⟨tk,1⟩) L to (cY.trans sW) toName vY (mq nG sV) (Nat.le_trans (o6 nG) (by omega)) ⟨tk,1⟩ (cY.trans nF) (by simp) (mG bE.toInv0 hd1 gE)) ?_
   rintro _ _ ⟨rfl,rfl⟩
   refine NS (ak.eG [(5,.abs (aG (bV (bw (aF S to toName ⟨ok,1⟩).X (aH (aF S to toName ⟨ok,1⟩).X (aF S to toName ⟨ok,1⟩).O d name ⟨tk,1⟩) to toName ⟨tk,1⟩) L)))] (fun w hS=>by rw [show bV (bw (aF S to toName ⟨ok,1⟩).X (aH (aF S to toName ⟨ok,1⟩).X (aF S to toName ⟨ok,1⟩).O d name ⟨tk,1⟩) to toName ⟨tk,1⟩) L=bV S.O L from jE.trans (mo.trans qK)];exact hS) ?_)
   refine jK 1 [10] [] ?_
   refine NN (af.ret ?_)
   exact RT _ [0,3,4,1,5,2,6] (⟨L,by rw [show bG S d name to toName=(0,lH (aF S to toName ⟨ok,1⟩) d name to toName ⟨tk,1⟩) by grind [bG]]<;>exact⟨rfl,rfl⟩⟩)
  ·have pN:(obj S.O ok).kind=2:=hI.kind ij
   refine af.region (jK 5 [45,46] [(3,v_ 3 (bQ L fV))] ?_)
   refine lE 5 fV cT ?_
   refine jK 1 [15] [] ?_
   refine NN (af.seq (SR (jK 3 [50] [] ?_)))
   refine NN (CF (af.skip (NX (af.seq (SR (jK 2 [52] [] ?_))))))
   refine NN (CT (af.seq (SR (jK 1 [53] [] ?_))))
   refine gL [] (pJ (vP (L.b ok))) ?_
   rintro _ _ ⟨rfl,rfl⟩
   refine jK 1 [55] [] ?_
   refine NN (CT (SR (jK 1 [10] [] ?_)))
   refine NN (af.ret (ai.aj (ai.aj ?_)))
   exact RT _ [0,1,2,3,4,5,6] (⟨L,by rw [show bG S d name to toName=(172,S) by grind [bG]]<;>exact⟨rfl,rfl⟩⟩)
  have pN:(obj S.O ok).kind=3:=hI.kind ij
  refine af.region (jK 5 [45,46] [(3,v_ 3 (bQ L fV))] ?_)
  refine lE 5 fV cT ?_
  refine jK 1 [15] [] ?_
  refine NN (af.seq (SR (jK 3 [50] [] ?_)))
  refine NN (CF (af.skip (NX (af.seq (SR (jK 2 [52] [] ?_))))))
  refine NN (CT (af.seq (SR (jK 1 [53] [] ?_))))
  refine gL [] (qO (vP (L.b ok))) ?_
  rintro _ _ ⟨rfl,rfl⟩
  refine jK 1 [55] [] ?_
  refine NN (CF (af.skip (NX (af.seq (SR (jK 1 [56] [] ?_))))))
  refine NN (CF (af.skip (NX (af.region (jK 3 [57,58,59] [] ?_)))))
  refine gL [0,3,5,1] (qP S L f m t hI to hto toName vY ⟨ok,3⟩ cT) ?_
  rintro _ _ ⟨rfl,rfl⟩
  refine NS ?_
  have bE:Inv (aF S to toName ⟨ok,3⟩):=hI.BM hto cT (by simp)
  have hot:(⟨ok,3⟩:Th)≠⟨tk,1⟩:=fun e=>by cases e
  have hd1:Live (aF S to toName ⟨ok,3⟩).idx ⟨d,2⟩:=kT hI.toInv0 hto cT hd (fun e=>by have:=fQ hd ij e;cases this)
  have kP:Live (aF S to toName ⟨ok,3⟩).idx ⟨to,2⟩:=kT hI.toInv0 hto cT hto (fun e=>by have:=fQ hto ij e;cases this)
  have gE:aL name (obj (aF S to toName ⟨ok,3⟩).O d).ah=some ⟨tk,1⟩:=tP hI.toInv0 hto cT hlk hot
  have sV:aL toName (obj (aF S to toName ⟨ok,3⟩).O to).ah=none:=tQ hI.toInv0 hto cT
  have lT:(obj (aF S to toName ⟨ok,3⟩).O d).kind=2:=bE.kind hd1
  have sW:(obj (aF S to toName ⟨ok,3⟩).O to).kind=2:=bE.kind kP
  have nE:Live (aF S to toName ⟨ok,3⟩).idx ⟨tk,1⟩:=(bE.ent hd1 gE).2
  have nF:(obj (aF S to toName ⟨ok,3⟩).O tk).kind=1:=bE.kind nE
  have F7:(obj (aF S to toName ⟨ok,3⟩).O d).ah.length<=8192:=bE.je hd1
  have F8:(obj (aF S to toName ⟨ok,3⟩).O to).ah.length<=8192:=bE.je kP
  have sX:=bE.lb nE
  have nG:tk≠d:=bE.ne hd1 gE
  refine jK 3 [61,62,63] [] ?_
  refine gL [0,1,2] (kV (aF S to toName ⟨ok,3⟩).X f m t bE.hX (aF S to toName ⟨ok,3⟩).O L d lT name hsz ⟨tk,1⟩ nF (by simp) gE (bE.twice hd1) (by omega) (by simp only at sX ⊢;omega)) ?_
  rintro _ _ ⟨rfl,rfl⟩
  refine NS (jK 4 [65,66,67,68] [] ?_)
  refine gL [0,1,2] (jF { (aF S to toName ⟨ok,3⟩).X with ah:=(aF S to toName ⟨ok,3⟩).X.ah - 1 } f m t (bE.Cr hd1 gE) (aH (aF S to toName ⟨ok,3⟩).X (aF S to toName ⟨ok,3⟩).O d name ⟨tk,1⟩) L to (cY.trans sW) toName vY (mq nG sV) (Nat.le_trans (o6 nG) (by omega)) ⟨tk,1⟩ (cY.trans nF) (by simp) (mG bE.toInv0 hd1 gE)) ?_
  rintro _ _ ⟨rfl,rfl⟩
  refine NS (ak.eG [(5,.abs (aG (bV (bw (aF S to toName ⟨ok,3⟩).X (aH (aF S to toName ⟨ok,3⟩).X (aF S to toName ⟨ok,3⟩).O d name ⟨tk,1⟩) to toName ⟨tk,1⟩) L)))] (fun w hS=>by rw [show bV (bw (aF S to toName ⟨ok,3⟩).X (aH (aF S to toName ⟨ok,3⟩).X (aF S to toName ⟨ok,3⟩).O d name ⟨tk,1⟩) to toName ⟨tk,1⟩) L=bV S.O L from jE.trans (mo.trans qK)];exact hS) ?_)
  refine jK 1 [10] [] ?_
  refine NN (af.ret ?_)
  exact RT _ [0,3,4,1,5,2,6] (⟨L,by rw [show bG S d name to toName=(0,lH (aF S to toName ⟨ok,3⟩) d name to toName ⟨tk,1⟩) by grind [bG]]<;>exact⟨rfl,rfl⟩⟩)
 ·have hkt:(obj S.O tk).kind=2:=hI.kind hlv
  refine af.region (jK 1 [] [] ?_)
  refine NS (jK 5 [19,20] [(3,v_ 3 (bQ L hkd))] ?_)
  refine lE 5 hkd hlk ?_
  refine jK 1 [11] [] ?_
  refine NN (af.seq (SR (jK 2 [23] [] ?_)))
  refine NN (CF (af.skip (NX (SR (jK 7 [12,13] [] ?_)))))
  refine NN (af.seq (SR (jK 2 [14] [] ?_)))
  refine NN (af.block ?_)
  obtain⟨dp,hdp⟩:=hI.deep
  refine lJ (fun (x:Option Nat)=>(oz S.O tk to↔∃ z0,x=some z0/\oz S.O tk z0)/\(∀ z0,x=some z0->Live S.idx ⟨z0,2⟩)) (fun (x:Option Nat)=>Ax dp x) (fun (x:Option Nat)=>[(0,vP f),(1,vP (L.b d)),(2,.string name),(3,vP (L.b to)),(4,.string toName),(11,.iface 94 (vP (L.b tk))),(12,vP (L.b tk)),(13,.bool true),(14,(DX L x))]) (fun (x:Option Nat)=>((pA f m t L S)++[.abs R])) ((some to)) [0,1,2,3,4,5,6] (⟨⟨fun h=>⟨to,rfl,h⟩,fun ⟨y,e,h⟩=>by cases e;exact h⟩,fun y e=>by cases e;exact hto⟩) ?_
  rintro x ⟨Zo,hlx⟩
  refine af.seq (af.seq ?_)
  rcases hx:x with _|y
  ·refine af.region (jK 5 [34] [] ?_)
   refine NN (CF (af.exit (ai.aC (ai.aC (ai.aW (NX (af.seq ?_)))))))
   have hnb:¬ oz S.O tk to:=fun h=>by grind
   rcases hI.qF hto toName with cT|⟨ok,cT,ij⟩|⟨ok,cT,ij⟩|⟨ok,cT,ij⟩
   ·refine af.region (jK 5 [45,46] [(3,v_ 3 (bQ L fV))] ?_)
    refine lE 5 fV cT ?_
    refine jK 1 [15] [] ?_
    refine NN (af.seq (SR (jK 3 [50] [] ?_)))
    refine NN (CF (af.skip (NX (af.seq (SR (jK 2 [52] [] ?_))))))
    refine NN (CF (af.skip (NX (SR ?_))))
    have bE:Inv S:=hI
    have hd1:=hd
    have gE:=hlk
    have sV:=cT
    have kP:=hto
    have lT:(obj S.O d).kind=2:=bE.kind hd1
    have sW:(obj S.O to).kind=2:=bE.kind kP
    have nE:Live S.idx ⟨tk,2⟩:=(bE.ent hd1 gE).2
    have nF:(obj S.O tk).kind=2:=bE.kind nE
    have F7:(obj S.O d).ah.length<=8192:=bE.je hd1
    have F8:(obj S.O to).ah.length<=8192:=bE.je kP
    have sX:=bE.lb nE
    have nG:tk≠d:=bE.ne hd1 gE
    refine jK 3 [61,62,63] [] ?_
    refine gL [0,3,5] (kV S.X f m t bE.hX S.O L d lT name hsz ⟨tk,2⟩ nF (by simp) gE (bE.twice hd1) (by omega) (by simp only at sX ⊢;omega)) ?_
    rintro _ _ ⟨rfl,rfl⟩
    refine NS (jK 4 [65,66,67,68] [] ?_)
    refine gL [0,1,2] (jF { S.X with ah:=S.X.ah - 1 } f m t (bE.Cr hd1 gE) (aH S.X S.O d name ⟨tk,2⟩) L to (cY.trans sW) toName vY (mq nG sV) (Nat.le_trans (o6 nG) (by omega)) ⟨tk,2⟩ (cY.trans nF) (by simp) (mG bE.toInv0 hd1 gE)) ?_
    rintro _ _ ⟨rfl,rfl⟩
    refine NS (ak.eG [(5,.abs (aG (bV (bw S.X (aH S.X S.O d name ⟨tk,2⟩) to toName ⟨tk,2⟩) L)))] (fun w hS=>by rw [show bV (bw S.X (aH S.X S.O d name ⟨tk,2⟩) to toName ⟨tk,2⟩) L=bV S.O L from jE.trans mo];exact hS) ?_)
    refine jK 1 [10] [] ?_
    refine NN (af.ret ?_)
    exact RT _ [0,3,4,1,5,2,6] (⟨L,by rw [show bG S d name to toName=(0,lH S d name to toName ⟨tk,2⟩) by grind [bG]]<;>exact⟨rfl,rfl⟩⟩)
   ·have pN:(obj S.O ok).kind=1:=hI.kind ij
    refine af.region (jK 5 [45,46] [(3,v_ 3 (bQ L fV))] ?_)
    refine lE 5 fV cT ?_
    refine jK 1 [15] [] ?_
    refine NN (af.seq (SR (jK 3 [50] [] ?_)))
    refine NN (CF (af.skip (NX (af.seq (SR (jK 2 [52] [] ?_))))))
    refine NN (CT (af.seq (SR (jK 1 [53] [] ?_))))
    refine gL [] (pH (vP (L.b ok))) ?_
    rintro _ _ ⟨rfl,rfl⟩
    refine jK 1 [55] [] ?_
    refine NN (CF (af.skip (NX (af.seq (SR (jK 1 [56] [] ?_))))))
    refine NN (CT (SR (jK 1 [10] [] ?_)))
    refine NN (af.ret (ai.aj (ai.aj ?_)))
    exact RT _ [0,1,2,3,4,5,6] (⟨L,by rw [show bG S d name to toName=(173,S) by grind [bG]]<;>exact⟨rfl,rfl⟩⟩)
   ·have pN:(obj S.O ok).kind=2:=hI.kind ij
    refine af.region (jK 5 [45,46] [(3,v_ 3 (bQ L fV))] ?_)
    refine lE 5 fV cT ?_
    refine jK 1 [15] [] ?_
    refine NN (af.seq (SR (jK 2 [48,49] [] ?_)))
    refine ak.jI (d:=(some 50)) (op:=.binOp .eql 82 (.tmp 48) (.tmp 49) 82) (v:=.bool (decide (ok=tk))) (fun _=>by kernel_rfl) (fun o junk w ho hS=>by obtain⟨F,hF⟩:=hS.get (i:=3) rfl;exact⟨w,Db aal ho (by kernel_rfl) (by kernel_rfl) (by rw [pN];decide) (by rw [hkt];decide) hF,hS⟩) ?_
    refine NN (cP (ok=tk) (fun h50=>?_) (fun h50=>?_))
    ·refine SR (jK 1 [10] [] ?_)
     refine NN (af.ret (ai.aj ?_))
     exact RT _ [0,1,2,3,4,5,6] (⟨L,by rw [show bG S d name to toName=(0,S) by grind [bG]]<;>exact⟨rfl,rfl⟩⟩)
    refine af.skip (NX (af.seq (SR (jK 2 [52] [] ?_))))
    refine NN (CT (af.seq (SR (jK 1 [53] [] ?_))))
    refine gL [] (pJ (vP (L.b ok))) ?_
    rintro _ _ ⟨rfl,rfl⟩
    refine jK 1 [55] [] ?_
    refine NN (CT (SR (jK 1 [10] [] ?_)))
    refine NN (af.ret (ai.aj (ai.aj ?_)))
    exact RT _ [0,1,2,3,4,5,6] (⟨L,by rw [show bG S d name to toName=(172,S) by grind [bG]]<;>exact⟨rfl,rfl⟩⟩)
   have pN:(obj S.O ok).kind=3:=hI.kind ij
   refine af.region (jK 5 [45,46] [(3,v_ 3 (bQ L fV))] ?_)
   refine lE 5 fV cT ?_
   refine jK 1 [15] [] ?_
   refine NN (af.seq (SR (jK 3 [50] [] ?_)))
   refine NN (CF (af.skip (NX (af.seq (SR (jK 2 [52] [] ?_))))))
   refine NN (CT (af.seq (SR (jK 1 [53] [] ?_))))
   refine gL [] (qO (vP (L.b ok))) ?_
   rintro _ _ ⟨rfl,rfl⟩
   refine jK 1 [55] [] ?_
   refine NN (CF (af.skip (NX (af.seq (SR (jK 1 [56] [] ?_))))))
   refine NN (CT (SR (jK 1 [10] [] ?_)))
   refine NN (af.ret (ai.aj (ai.aj ?_)))
   exact RT _ [0,1,2,3,4,5,6] (⟨L,by rw [show bG S d name to toName=(173,S) by grind [bG]]<;>exact⟨rfl,rfl⟩⟩)
  have hky:(obj S.O y).kind=2:=hI.kind (hlx y hx)
  refine af.region (jK 5 [34] [] ?_)
  refine NN (CT (af.skip (NX (af.seq (af.block (SR ?_))))))
  refine jK 2 [39,40] [] ?_
  refine ak.jI (d:=(some 41)) (op:=.binOp .eql 94 (.tmp 39) (.tmp 40) 94) (v:=.bool (decide (y=tk))) (fun _=>by kernel_rfl) (fun o junk w ho hS=>by obtain⟨F,hF⟩:=hS.get (i:=3) rfl;exact⟨w,PZ ho (by kernel_rfl) (by kernel_rfl) (by rw [hky];decide) (by rw [hkt];decide) hF,hS⟩) ?_
  refine NN (cP (y=tk) (fun Cy=>?_) (fun Cy=>?_))
  ·refine SR (jK 1 [10] [] ?_)
   refine NN (af.ret (ai.au (ai.aj (ai.aj (ai.au (ai.aj ?_))))))
   exact RT _ [0,1,2,3,4,5,6] (⟨L,by rw [show bG S d name to toName=(174,S) by unfold bG;rw [hlk];exact if_pos ⟨rfl,Zo.2 ⟨y,hx,by rw [Cy];exact .here⟩⟩]<;>exact⟨rfl,rfl⟩⟩)
  refine af.skip (ai.ax (NX (af.region ?_)))
  refine jK 5 [14] [(3,v_ 3 (abD L hky))] ?_
  refine NL ?_
  exact tJ (((obj S.O y).up)) [0,1,2,3,4,5,6] (⟨Zo.trans ⟨fun ⟨y2,e,h⟩=>by grind [D8],fun h=>⟨y,hx,(D8 Cy).2 h⟩⟩,fun z e=>((hI.up ⟨y,2⟩ (hlx y hx) z).1 e).2.1⟩) (hm:=by show Ax dp (((obj S.O y).up)) < Ax dp (some y);exact P5 hdp)
 have hkt:(obj S.O tk).kind=3:=hI.kind hlv
 refine af.region (jK 1 [] [] ?_)
 refine NS (jK 5 [19,20] [(3,v_ 3 (bQ L hkd))] ?_)
 refine lE 5 hkd hlk ?_
 refine jK 1 [11] [] ?_
 refine NN (af.seq (SR (jK 2 [23] [] ?_)))
 refine NN (CF (af.skip (NX (SR (jK 7 [12,13] [] ?_)))))
 refine NN (af.seq (SR (jK 2 [14] [] ?_)))
 refine NN (af.block ?_)
 refine lJ (fun (u:Unit)=>True) (fun (u:Unit)=>0) (fun (u:Unit)=>[(0,vP f),(1,vP (L.b d)),(2,.string name),(3,vP (L.b to)),(4,.string toName),(11,.iface 91 (vP (L.b tk))),(12,.pointer none),(13,.bool false),(14,vP (L.b to))]) (fun (u:Unit)=>((pA f m t L S)++[.abs R])) () [0,1,2,3,4,5,6] (trivial) ?_
 rintro u _
 refine af.seq (SR (jK 5 [34] [] ?_))
 refine NN (CF (af.exit (ai.aC (ai.aC (ai.aW (NX (af.seq ?_)))))))
 skip
 rcases hI.qF hto toName with cT|⟨ok,cT,ij⟩|⟨ok,cT,ij⟩|⟨ok,cT,ij⟩
 ·refine af.region (jK 5 [45,46] [(3,v_ 3 (bQ L fV))] ?_)
  refine lE 5 fV cT ?_
  refine jK 1 [15] [] ?_
  refine NN (af.seq (SR (jK 3 [50] [] ?_)))
  refine NN (CF (af.skip (NX (af.seq (SR (jK 2 [52] [] ?_))))))
  refine NN (CF (af.skip (NX (SR ?_))))
  have bE:Inv S:=hI
  have hd1:=hd
  have gE:=hlk
  have sV:=cT
  have kP:=hto
  have lT:(obj S.O d).kind=2:=bE.kind hd1
  have sW:(obj S.O to).kind=2:=bE.kind kP
  have nE:Live S.idx ⟨tk,3⟩:=(bE.ent hd1 gE).2
  have nF:(obj S.O tk).kind=3:=bE.kind nE
  have F7:(obj S.O d).ah.length<=8192:=bE.je hd1
  have F8:(obj S.O to).ah.length<=8192:=bE.je kP
  have sX:=bE.lb nE
  have nG:tk≠d:=bE.ne hd1 gE
  refine jK 3 [61,62,63] [] ?_
  refine gL [0,3,5] (kV S.X f m t bE.hX S.O L d lT name hsz ⟨tk,3⟩ nF (by simp) gE (bE.twice hd1) (by omega) (by simp only at sX ⊢;omega)) ?_
  rintro _ _ ⟨rfl,rfl⟩
  refine NS (jK 4 [65,66,67,68] [] ?_)
  refine gL [0,1,2] (jF { S.X with ah:=S.X.ah - 1 } f m t (bE.Cr hd1 gE) (aH S.X S.O d name ⟨tk,3⟩) L to (cY.trans sW) toName vY (mq nG sV) (Nat.le_trans (o6 nG) (by omega)) ⟨tk,3⟩ (cY.trans nF) (by simp) (mG bE.toInv0 hd1 gE)) ?_
  rintro _ _ ⟨rfl,rfl⟩
  refine NS (ak.eG [(5,.abs (aG (bV (bw S.X (aH S.X S.O d name ⟨tk,3⟩) to toName ⟨tk,3⟩) L)))] (fun w hS=>by rw [show bV (bw S.X (aH S.X S.O d name ⟨tk,3⟩) to toName ⟨tk,3⟩) L=bV S.O L from jE.trans mo];exact hS) ?_)
  refine jK 1 [10] [] ?_
  refine NN (af.ret ?_)
  exact RT _ [0,3,4,1,5,2,6] (⟨L,by rw [show bG S d name to toName=(0,lH S d name to toName ⟨tk,3⟩) by grind [bG]]<;>exact⟨rfl,rfl⟩⟩)
 ·have pN:(obj S.O ok).kind=1:=hI.kind ij
  refine af.region (jK 5 [45,46] [(3,v_ 3 (bQ L fV))] ?_)
  refine lE 5 fV cT ?_
  refine jK 1 [15] [] ?_
  refine NN (af.seq (SR (jK 3 [50] [] ?_)))
  refine NN (CF (af.skip (NX (af.seq (SR (jK 2 [52] [] ?_))))))
  refine NN (CT (af.seq (SR (jK 1 [53] [] ?_))))
  refine gL [] (pH (vP (L.b ok))) ?_
  rintro _ _ ⟨rfl,rfl⟩
  refine jK 1 [55] [] ?_
  refine NN (CF (af.skip (NX (af.seq (SR (jK 1 [56] [] ?_))))))
  refine NN (CF (af.skip (NX (af.region (jK 3 [57,58,59] [] ?_)))))
  refine gL [0,3,5,1] (qP S L f m t hI to hto toName vY ⟨ok,1⟩ cT) ?_
  rintro _ _ ⟨rfl,rfl⟩
  refine NS ?_
  have bE:Inv (aF S to toName ⟨ok,1⟩):=hI.BM hto cT (by simp)
  have hot:(⟨ok,1⟩:Th)≠⟨tk,3⟩:=fun e=>by cases e
  have hd1:Live (aF S to toName ⟨ok,1⟩).idx ⟨d,2⟩:=kT hI.toInv0 hto cT hd (fun e=>by have:=fQ hd ij e;cases this)
  have kP:Live (aF S to toName ⟨ok,1⟩).idx ⟨to,2⟩:=kT hI.toInv0 hto cT hto (fun e=>by have:=fQ hto ij e;cases this)
  have gE:aL name (obj (aF S to toName ⟨ok,1⟩).O d).ah=some ⟨tk,3⟩:=tP hI.toInv0 hto cT hlk hot
  have sV:aL toName (obj (aF S to toName ⟨ok,1⟩).O to).ah=none:=tQ hI.toInv0 hto cT
  have lT:(obj (aF S to toName ⟨ok,1⟩).O d).kind=2:=bE.kind hd1
  have sW:(obj (aF S to toName ⟨ok,1⟩).O to).kind=2:=bE.kind kP
  have nE:Live (aF S to toName ⟨ok,1⟩).idx ⟨tk,3⟩:=(bE.ent hd1 gE).2
  have nF:(obj (aF S to toName ⟨ok,1⟩).O tk).kind=3:=bE.kind nE
  have F7:(obj (aF S to toName ⟨ok,1⟩).O d).ah.length<=8192:=bE.je hd1
  have F8:(obj (aF S to toName ⟨ok,1⟩).O to).ah.length<=8192:=bE.je kP
  have sX:=bE.lb nE
  have nG:tk≠d:=bE.ne hd1 gE
  refine jK 3 [61,62,63] [] ?_
  refine gL [0,1,2] (kV (aF S to toName ⟨ok,1⟩).X f m t bE.hX (aF S to toName ⟨ok,1⟩).O L d lT name hsz ⟨tk,3⟩ nF (by simp) gE (bE.twice hd1) (by omega) (by simp only at sX ⊢;omega)) ?_
  rintro _ _ ⟨rfl,rfl⟩
  refine NS (jK 4 [65,66,67,68] [] ?_)
  refine gL [0,1,2] (jF { (aF S to toName ⟨ok,1⟩).X with ah:=(aF S to toName ⟨ok,1⟩).X.ah - 1 } f m t (bE.Cr hd1 gE) (aH (aF S to toName ⟨ok,1⟩).X (aF S to toName ⟨ok,1⟩).O d name ⟨tk,3⟩) L to (cY.trans sW) toName vY (mq nG sV) (Nat.le_trans (o6 nG) (by omega)) ⟨tk,3⟩ (cY.trans nF) (by simp) (mG bE.toInv0 hd1 gE)) ?_
  rintro _ _ ⟨rfl,rfl⟩
  refine NS (ak.eG [(5,.abs (aG (bV (bw (aF S to toName ⟨ok,1⟩).X (aH (aF S to toName ⟨ok,1⟩).X (aF S to toName ⟨ok,1⟩).O d name ⟨tk,3⟩) to toName ⟨tk,3⟩) L)))] (fun w hS=>by rw [show bV (bw (aF S to toName ⟨ok,1⟩).X (aH (aF S to toName ⟨ok,1⟩).X (aF S to toName ⟨ok,1⟩).O d name ⟨tk,3⟩) to toName ⟨tk,3⟩) L=bV S.O L from jE.trans (mo.trans qK)];exact hS) ?_)
  refine jK 1 [10] [] ?_
  refine NN (af.ret ?_)
  exact RT _ [0,3,4,1,5,2,6] (⟨L,by rw [show bG S d name to toName=(0,lH (aF S to toName ⟨ok,1⟩) d name to toName ⟨tk,3⟩) by grind [bG]]<;>exact⟨rfl,rfl⟩⟩)
 ·have pN:(obj S.O ok).kind=2:=hI.kind ij
  refine af.region (jK 5 [45,46] [(3,v_ 3 (bQ L fV))] ?_)
  refine lE 5 fV cT ?_
  refine jK 1 [15] [] ?_
  refine NN (af.seq (SR (jK 3 [50] [] ?_)))
  refine NN (CF (af.skip (NX (af.seq (SR (jK 2 [52] [] ?_))))))
  refine NN (CT (af.seq (SR (jK 1 [53] [] ?_))))
  refine gL [] (pJ (vP (L.b ok))) ?_
  rintro _ _ ⟨rfl,rfl⟩
  refine jK 1 [55] [] ?_
  refine NN (CT (SR (jK 1 [10] [] ?_)))
  refine NN (af.ret (ai.aj (ai.aj ?_)))
  exact RT _ [0,1,2,3,4,5,6] (⟨L,by rw [show bG S d name to toName=(172,S) by grind [bG]]<;>exact⟨rfl,rfl⟩⟩)
 have pN:(obj S.O ok).kind=3:=hI.kind ij
 refine af.region (jK 5 [45,46] [(3,v_ 3 (bQ L fV))] ?_)
 refine lE 5 fV cT ?_
 refine jK 1 [15] [] ?_
 refine NN (af.seq (SR (jK 2 [48,49] [] ?_)))
 refine ak.jI (d:=(some 50)) (op:=.binOp .eql 82 (.tmp 48) (.tmp 49) 82) (v:=.bool (decide (ok=tk))) (fun _=>by kernel_rfl) (fun o junk w ho hS=>by obtain⟨F,hF⟩:=hS.get (i:=3) rfl;exact⟨w,Db XR ho (by kernel_rfl) (by kernel_rfl) (by rw [pN];decide) (by rw [hkt];decide) hF,hS⟩) ?_
 refine NN (cP (ok=tk) (fun h50=>?_) (fun h50=>?_))
 ·refine SR (jK 1 [10] [] ?_)
  refine NN (af.ret (ai.aj ?_))
  exact RT _ [0,1,2,3,4,5,6] (⟨L,by rw [show bG S d name to toName=(0,S) by grind [bG]]<;>exact⟨rfl,rfl⟩⟩)
 refine af.skip (NX (af.seq (SR (jK 2 [52] [] ?_))))
 refine NN (CT (af.seq (SR (jK 1 [53] [] ?_))))
 refine gL [] (qO (vP (L.b ok))) ?_
 rintro _ _ ⟨rfl,rfl⟩
 refine jK 1 [55] [] ?_
 refine NN (CF (af.skip (NX (af.seq (SR (jK 1 [56] [] ?_))))))
 refine NN (CF (af.skip (NX (af.region (jK 3 [57,58,59] [] ?_)))))
 refine gL [0,3,5,1] (qP S L f m t hI to hto toName vY ⟨ok,3⟩ cT) ?_
 rintro _ _ ⟨rfl,rfl⟩
 refine NS ?_
 have bE:Inv (aF S to toName ⟨ok,3⟩):=hI.BM hto cT (by simp)
 have hot:(⟨ok,3⟩:Th)≠⟨tk,3⟩:=fun e=>h50 (congrArg Th.k e)
 have hd1:Live (aF S to toName ⟨ok,3⟩).idx ⟨d,2⟩:=kT hI.toInv0 hto cT hd (fun e=>by have:=fQ hd ij e;cases this)
 have kP:Live (aF S to toName ⟨ok,3⟩).idx ⟨to,2⟩:=kT hI.toInv0 hto cT hto (fun e=>by have:=fQ hto ij e;cases this)
 have gE:aL name (obj (aF S to toName ⟨ok,3⟩).O d).ah=some ⟨tk,3⟩:=tP hI.toInv0 hto cT hlk hot
 have sV:aL toName (obj (aF S to toName ⟨ok,3⟩).O to).ah=none:=tQ hI.toInv0 hto cT
 have lT:(obj (aF S to toName ⟨ok,3⟩).O d).kind=2:=bE.kind hd1
 have sW:(obj (aF S to toName ⟨ok,3⟩).O to).kind=2:=bE.kind kP
 have nE:Live (aF S to toName ⟨ok,3⟩).idx ⟨tk,3⟩:=(bE.ent hd1 gE).2
 have nF:(obj (aF S to toName ⟨ok,3⟩).O tk).kind=3:=bE.kind nE
 have F7:(obj (aF S to toName ⟨ok,3⟩).O d).ah.length<=8192:=bE.je hd1
 have F8:(obj (aF S to toName ⟨ok,3⟩).O to).ah.length<=8192:=bE.je kP
 have sX:=bE.lb nE
 have nG:tk≠d:=bE.ne hd1 gE
 refine jK 3 [61,62,63] [] ?_
 refine gL [0,1,2] (kV (aF S to toName ⟨ok,3⟩).X f m t bE.hX (aF S to toName ⟨ok,3⟩).O L d lT name hsz ⟨tk,3⟩ nF (by simp) gE (bE.twice hd1) (by omega) (by simp only at sX ⊢;omega)) ?_
 rintro _ _ ⟨rfl,rfl⟩
 refine NS (jK 4 [65,66,67,68] [] ?_)
 refine gL [0,1,2] (jF { (aF S to toName ⟨ok,3⟩).X with ah:=(aF S to toName ⟨ok,3⟩).X.ah - 1 } f m t (bE.Cr hd1 gE) (aH (aF S to toName ⟨ok,3⟩).X (aF S to toName ⟨ok,3⟩).O d name ⟨tk,3⟩) L to (cY.trans sW) toName vY (mq nG sV) (Nat.le_trans (o6 nG) (by omega)) ⟨tk,3⟩ (cY.trans nF) (by simp) (mG bE.toInv0 hd1 gE)) ?_
 rintro _ _ ⟨rfl,rfl⟩
 refine NS (ak.eG [(5,.abs (aG (bV (bw (aF S to toName ⟨ok,3⟩).X (aH (aF S to toName ⟨ok,3⟩).X (aF S to toName ⟨ok,3⟩).O d name ⟨tk,3⟩) to toName ⟨tk,3⟩) L)))] (fun w hS=>by rw [show bV (bw (aF S to toName ⟨ok,3⟩).X (aH (aF S to toName ⟨ok,3⟩).X (aF S to toName ⟨ok,3⟩).O d name ⟨tk,3⟩) to toName ⟨tk,3⟩) L=bV S.O L from jE.trans (mo.trans qK)];exact hS) ?_)
 refine jK 1 [10] [] ?_
 refine NN (af.ret ?_)
 exact RT _ [0,3,4,1,5,2,6] (⟨L,by rw [show bG S d name to toName=(0,lH (aF S to toName ⟨ok,3⟩) d name to toName ⟨tk,3⟩) by grind [bG]]<;>exact⟨rfl,rfl⟩⟩)
end
section
open Go.RowKit Go.Maps aX aq
attribute [local irreducible] ak aU af ai aY
abbrev zf1 (f:Nat) (m:Nat) (t) (S:aI) (L:HL) (k:Nat) (R:cO):=([pF f m t S.X,pI m L S.idx,pT t S.X.cH S.av L S.us,pO S.O L,.abs (aG (mY (bV S.O L) k cO.none)),pE S.O L,.abs R]:List HP)
theorem R3 {β:Bs} (S:aI) (L:HL) (f m t:Nat) (hI:Inv S) (k:Nat) (hk:Live S.idx ⟨k,1⟩) (A:Option Addr) (c:Nat) (bs:List UInt8) (hA:aZ β A bs) (hbl:bs.length<=1099511627776) (hbc:bs.length<=c) :
    Spec Tryz.prog β 128 #[vP f,vP (L.b k),.slice A (bs.length) (c)] (pA f m t L S) (fun v l=>∃ L2,v=.tuple #[vI (fS S k bs).1,vI (fS S k bs).2.1]/\l=(pA f m t L2 ((fS S k bs).2.2))):=by
 have hX:=hI.hX
 have hkk:(obj S.O k).kind=1:=hI.kind hk
 have hdu:((obj S.O k).data.length:Int)<=S.X.used:=hI.aao hk
 have hcB:=hI.cB
 refine SE Tryz.func128 Tryz.ntmps128 (fun R=>?_)
 refine SR (jK 2 [] [] ?_)
 refine NN (af.seq (SR (jK 3 [12] [] ?_)))
 refine NN (cP ((((bs.length:Nat):Int):Int)=(0:Int)) (fun h12=>?_) (fun h12=>?_))
 ·have he:bs=[]:=List.eq_nil_of_length_eq_zero (by omega)
  refine SR (jK 2 [6,7] [] ?_)
  refine NN (af.ret (ai.aj ?_))
  exact RT _ [0,1,2,3,4,5,6] (⟨L,by rw [show fS S k bs=(0,0,S) from if_pos he]<;>exact⟨rfl,rfl⟩⟩)
 have hlen:0 < bs.length:=by omega
 refine af.skip (NX (af.seq (af.bF (by kernel_rfl) (by kernel_rfl) ?_)))
 refine jQ 11 [8] [(4,a_ 0 f),(8,a_ 0 f),(9,wJ (S.X.cB - S.X.used) (S.X.cB - S.X.used))] ?_
 refine NQ (NX (af.seq (SR ?_)))
 refine jK 2 [24] [] ?_
 refine NN (cP ((S.X.cB - S.X.used:Int)<=(0:Int)) (fun zk=>?_) (fun zk=>?_))
 ·refine SR (jK 2 [6,7] [] ?_)
  refine NN (af.ret (ai.aj ?_))
  exact RT _ [0,1,2,3,4,5,6] (⟨L,by rw [show fS S k bs=(0,176,S) from (if_neg (fun e=>by grind)).trans (if_pos zk)]<;>exact⟨rfl,rfl⟩⟩)
 refine af.skip (NX (SR (jK 4 [28] [(3,p_ ⟨[],none,none,none,some (vI (min ((bs.length:Nat):Int) (S.X.cB - S.X.used)))⟩ [(Value.int .i64 (if S.X.cB - S.X.used < ((bs.length:Nat):Int) then S.X.cB - S.X.used else ((bs.length:Nat):Int)))=(.int .i64 (min ((bs.length:Nat):Int) (S.X.cB - S.X.used)))] ⟨congrArg (Value.int .i64) (Vl _ _),trivial⟩)] ?_)))
 refine sl 28 (.int .i64 (min ((bs.length:Nat):Int) (S.X.cB - S.X.used))) (.int .i64 ↑(bP S.X bs.length)) (congrArg (Value.int .i64) (P6 (by omega))) ?_
 refine jK 1 [9] [] ?_
 refine NN (af.seq ?_)
 have hwl:=P7 (X:=S.X) (n:=bs.length) (by omega)
 refine af.mem (fun w hS=>hS.PB (i:=4) (k:=k) rfl hkk) ?_
 refine rM (List.range 12) 8 [0,1,2,3,4,5,6] ?_
 refine jR 8 [0,1,9,29,33,36] [(4,v_ 3 (KS L hkk)),(7,xP (bP S.X bs.length) ((bP S.X bs.length)<=c))] ?_
 refine aY.cut (ι:=(Option Addr)×Nat) (fr':=fun ((A1,c2):(Option Addr)×Nat)=>[(0,vP f),(1,vP (L.b k)),(9,vI ↑(bP S.X bs.length)),(29,vP (L.b k)),(37,.slice A1 (((obj S.O k).data++bs.take (bP S.X bs.length)).length) (c2))]) (hp':=fun ((A1,c2):(Option Addr)×Nat)=>(zf1 f m t S L k R++[.abs (ay 5 1 A1 (((obj S.O k).data++bs.take (bP S.X bs.length)).length) c2 (cE ((obj S.O k).data++bs.take (bP S.X bs.length))))])) [0,1,2,3,4,5,6] rfl rfl ?_ rfl (fun _=>by kernel_rfl) ?_
 ·refine jZ 7 51 A (bP S.X bs.length) c (cE (bs.take (bP S.X bs.length))) rfl ((hA.take (bP S.X bs.length)).src) (fun A1 c2=>?_) (hl:=by grind [pR]) (h1:=lU (bs.take (bP S.X bs.length)))
  refine ak.bM 7 (p':=.abs (ay 5 1 A1 (((obj S.O k).data++bs.take (bP S.X bs.length)).length) c2 (cE ((obj S.O k).data++bs.take (bP S.X bs.length))))) rfl (by grind [ND]) ?_
  refine sl 37 (.slice A1 (((obj S.O k).data.length)+(bP S.X bs.length)) (c2)) (.slice A1 (((obj S.O k).data++bs.take (bP S.X bs.length)).length) (c2)) (by grind) ?_
  refine NL ?_
  exact MD (A1,c2) [0,1,9,29,37] [0,1,2,3,4,5,6,7]
 rintro⟨A1,c2⟩
 refine nC [0,1,2,3,4,5,6] [38] [] [] ?_
 refine nC [0,1,2,3,4,5,6] [39] [] [] ?_
 refine aY.last rfl rfl ?_
 refine ak.mem (fun w hS=>hS.Ad (i:=3) (k:=k) rfl (by rw [hkk];decide) (jB (hkk)) (congrArg ql (hkk))) ?_
 refine jC 1 [] [(0,a_ 8 (L.b k))] [(8,[(9,.slice A1 (((obj S.O k).data++bs.take (bP S.X bs.length)).length) (c2))])] ?_
 obtain⟨L2,hL2⟩:∃ L2:HL,L2=L.data k A1 c2:=⟨_,rfl⟩
 refine ak.mem (fun w hS=>hS.XW hL2 (f:=(fun o=>{ o with data:=o.data++bs.take (bP S.X bs.length) })) (i:=3) (j:=8) (ix:=[0,1,2,4,5,6,7]) rfl rfl (by kernel_rfl) rfl (by grind) ((jB (L:=L2) (k:=k) (o:=(fun o=>{ o with data:=o.data++bs.take (bP S.X bs.length) }) (obj S.O k)) hkk).trans (by rw [Mq hL2,Mr hL2]<;>rfl)) (by grind)) ?_
 refine ak.mem (fun w hS=>hS.XY hL2 (f:=(fun o=>{ o with data:=o.data++bs.take (bP S.X bs.length) })) (i:=4) (j:=7) (ix:=[0,1,2,3,5,6]) rfl rfl (by kernel_rfl) rfl hkk rfl rfl) ?_
 refine ak.eG [(3,.abs (bq Tryz.prog 3 m (bB (bC L2 S.idx)) S.idx.length)),(4,.abs (dJ 140 t S.X.cH S.av (bC L2 S.us))),(5,.abs (aG (dM (aD S.O k (fun o=>{ o with data:=o.data++bs.take (bP S.X bs.length) })) L2)))] (fun w hS=>by rw [Jv hL2,Jv hL2,show dM (aD S.O k (fun o=>{ o with data:=o.data++bs.take (bP S.X bs.length) })) L2=dM S.O L from (pX (O:=S.O) (k:=k) (f:=(fun o=>{ o with data:=o.data++bs.take (bP S.X bs.length) })) rfl rfl).trans (Ts hL2)];exact hS) ?_
 have F6:(obj (aD S.O k (fun o=>{ o with data:=o.data++bs.take (bP S.X bs.length) })) k).kind=1:=(lf (f:=(fun o=>{ o with data:=o.data++bs.take (bP S.X bs.length) })) (fun _=>rfl)).trans hkk
 have hbk:L2.b k=L.b k:=P8 hL2
 generalize dh:(aD S.O k (fun o=>{ o with data:=o.data++bs.take (bP S.X bs.length) }))=ef at F6 ⊢
 refine NL (ai.np (NX (SR ?_)))
 refine jK 1 [40] [] ?_
 refine sl 40 (vP (L.b k)) (vP (L2.b k)) (by rw [hbk]) ?_
 refine jK 8 [45,48] [(4,A_ 2 f 2)] ?_
 refine RR 1 [(5,1),(0,2)] k S.X.cS S.X.cZ F6 (fun gi dK=>?_)
 have Bg:=ku dK F6
 refine NS (jC 9 [] [(3,a_ 2 f),(5,wJ (S.X.used+(((bP S.X bs.length):Nat):Int)) (S.X.used+(((bP S.X bs.length):Nat):Int))),(8,a_ 2 f)] [(2,[(9,vI (S.X.used+(((bP S.X bs.length):Nat):Int)))])] ?_)
 refine NS (jK 3 [6,7] [] ?_)
 refine NN (af.ret ?_)
 exact RT (l:=[pF f m t { S.X with used:=S.X.used+(((bP S.X bs.length):Nat):Int) },pI m L2 S.idx,pT t S.X.cH S.av L2 S.us,pO gi L2,pD gi L2,pE gi L2]) (.tuple #[vI ↑(bP S.X bs.length),vI 0]) [2,3,4,1,0,5,6] (⟨L2,by grind [fS,wo]⟩)
end
section
open Go.RowKit Go.Maps aX aq
attribute [local irreducible] ak aU af ai aY
theorem jH {β:Bs} (S:aI) (L:HL) (f m t:Nat) (hI:Inv S) (cb:Nat) (c:ar) (hC:cR β c) :
    Spec Tryz.prog β 117 #[vP f,vP cb] ((pA f m t L S)++[.blk cb (aK c) 53]) (fun v l=>v=aaW L (fk S.O S.us c)/\l=((pA f m t L S)++[.blk cb (aK c) 53])):=by
 refine SE Tryz.func117 Tryz.ntmps117 (fun R=>?_)
 refine SR (jK 2 [] [] ?_)
 refine NN (af.seq (af.bF (by kernel_rfl) (by kernel_rfl) ?_))
 refine jQ 9 [10,14,18] [(4,a_ 6 cb),(8,a_ 6 cb)] ?_
 rcases iw hI.toInv0 c.handle c.name 64 with ⟨e,hab,hne⟩|⟨d,hab,hd,mM,j3,eF⟩
 ·refine jU [0,2,3] [0,3,1,2,4,5,6,7] (.tuple #[.pointer none,vI (e)]) ((by have h:=fL S L f m t hI c.handle hC.hw c.name hC.nm 64 (β:=β);rw [hab] at h;exact h)) ?_
  refine jQ 5 [6,7] [] ?_
  refine NQ (NX (af.seq (SR ?_)))
  refine jK 2 [23] [] ?_
  refine NN (cN ((e:Int)=(0:Int)) (fun h23=>?_) (fun h23=>?_))
  ·refine SR (jK 3 [4,5] [] ?_)
   refine NN (af.ret (ai.aj ?_))
   exact RT (.tuple #[.nilIface,vI (e)]) [0,1,2,3,4,5,6,7] (⟨by rw [show fk S.O S.us c=.error e by unfold fk;rw [hab]];rfl,rfl⟩)
  exact absurd h23 hne
 have hkd:(obj S.O d).kind=2:=hI.kind hd
 refine jU [0,2,3] [0,3,1,2,4,5,6,7] (.tuple #[vP (L.b d),vI 0]) ((by have h:=fL S L f m t hI c.handle hC.hw c.name hC.nm 64 (β:=β);rw [hab] at h;exact h)) ?_
 refine jQ 5 [6,7] [] ?_
 refine NQ (NX (af.seq (SR ?_)))
 refine jK 2 [23] [] ?_
 refine NN (CF (af.skip (NX (af.seq ?_))))
 have hel:(obj S.O d).ah.length<=8192:=hI.je hd
 have aaG:=hC.nm
 rcases hI.qF hd c.name with hlk|⟨tk,hlk,hlv⟩|⟨tk,hlk,hlv⟩|⟨tk,hlk,hlv⟩
 ·refine af.bF (by kernel_rfl) (by kernel_rfl) ?_
  refine jQ 8 [28,32] [(3,v_ 3 (bQ L hkd)),(7,a_ 6 cb)] ?_
  refine uD 5 hkd hlk ?_
  refine jQ 1 [8] [] ?_
  refine NQ (NX (af.seq (SR ?_)))
  refine jK 2 [35] [] ?_
  refine NN (CT (SR (jK 2 [4,5] [] ?_)))
  refine NN (af.ret (ai.aj ?_))
  exact RT (.tuple #[.nilIface,vI 170]) [0,1,2,3,4,5,6,7] (⟨by rw [show fk S.O S.us c=.error 170 by grind [fk]];rfl,rfl⟩)
 ·have hkt:(obj S.O tk).kind=1:=hI.kind hlv
  refine af.bF (by kernel_rfl) (by kernel_rfl) ?_
  refine jQ 8 [28,32] [(3,v_ 3 (bQ L hkd)),(7,a_ 6 cb)] ?_
  refine uD 5 hkd hlk ?_
  refine jQ 1 [8] [] ?_
  refine NQ (NX (af.seq (SR ?_)))
  refine jK 2 [35] [] ?_
  refine NN (CF (af.skip (NX (SR (jK 3 [4,5] [] ?_)))))
  refine NN (af.ret ?_)
  exact RT (.tuple #[.iface 87 (vP (L.b tk)),vI 0]) [0,1,2,3,4,5,6,7] (⟨by rw [show fk S.O S.us c=.ok ⟨tk,1⟩ by grind [fk]];rfl,rfl⟩)
 ·have hkt:(obj S.O tk).kind=2:=hI.kind hlv
  refine af.bF (by kernel_rfl) (by kernel_rfl) ?_
  refine jQ 8 [28,32] [(3,v_ 3 (bQ L hkd)),(7,a_ 6 cb)] ?_
  refine uD 5 hkd hlk ?_
  refine jQ 1 [8] [] ?_
  refine NQ (NX (af.seq (SR ?_)))
  refine jK 2 [35] [] ?_
  refine NN (CF (af.skip (NX (SR (jK 3 [4,5] [] ?_)))))
  refine NN (af.ret ?_)
  exact RT (.tuple #[.iface 94 (vP (L.b tk)),vI 0]) [0,1,2,3,4,5,6,7] (⟨by rw [show fk S.O S.us c=.ok ⟨tk,2⟩ by grind [fk]];rfl,rfl⟩)
 have hkt:(obj S.O tk).kind=3:=hI.kind hlv
 refine af.bF (by kernel_rfl) (by kernel_rfl) ?_
 refine jQ 8 [28,32] [(3,v_ 3 (bQ L hkd)),(7,a_ 6 cb)] ?_
 refine uD 5 hkd hlk ?_
 refine jQ 1 [8] [] ?_
 refine NQ (NX (af.seq (SR ?_)))
 refine jK 2 [35] [] ?_
 refine NN (CF (af.skip (NX (SR (jK 3 [4,5] [] ?_)))))
 refine NN (af.ret ?_)
 exact RT (.tuple #[.iface 91 (vP (L.b tk)),vI 0]) [0,1,2,3,4,5,6,7] (⟨by rw [show fk S.O S.us c=.ok ⟨tk,3⟩ by grind [fk]];rfl,rfl⟩)
theorem OM {β:Bs} (S:aI) (L:HL) (f m t:Nat) (hI:Inv S) (cb:Nat) (c:ar) (hC:cR β c) :
    Spec Tryz.prog β 82 #[vP f,vP cb] ((pA f m t L S)++[.blk cb (aK c) 53]) (fun v l=>∃ L2,v=vI (iu S c).1/\l=((pA f m t L2 ((iu S c).2.1))++[.blk cb (aK ((iu S c).2.2)) 53])):=by
 have hX:=hI.hX
 refine SE Tryz.func82 Tryz.ntmps82 (fun R=>?_)
 refine SR (jK 1 [] [] ?_)
 refine NN (af.seq ?_)
 rcases hI.aaY c.other with gj|⟨tk,gj,hlv⟩|⟨tk,gj,hlv⟩|⟨tk,gj,hlv⟩
 ·refine af.bF (by kernel_rfl) (by kernel_rfl) ?_
  refine jQ 8 [10,14] [(3,a_ 0 f),(7,a_ 6 cb)] ?_
  refine aU.iY 1 (d:=(some 15)) (t:=78) (K:=3) (E:=82) (b:=m) (n:=S.idx.length) (f:=(bB (bC L S.idx))) (x:=(.tmp 10)) (ix:=(.tmp 14)) (key:=.int .i64 (c.other)) (z:=.nilIface) (kl:=(.int .i64 c.other)) (r:=none) (fun _=>by kernel_rfl) (by kernel_rfl) (fun _=>by kernel_rfl) (fun _=>by kernel_rfl) gT Tryz.underlying78 (fun _=>by kernel_rfl) (mE hC.ow) (by rw [iZ,gj];rfl) ?_
  refine jQ 1 [5] [] ?_
  refine NQ (NX (af.seq (SR ?_)))
  refine jK 2 [17] [] ?_
  refine NN (CT (SR (jK 1 [4] [] ?_)))
  refine NN (af.ret (ai.aj ?_))
  exact RT _ [0,1,2,3,4,5,6,7] (⟨L,by rw [show (iu S c)=(141,S,c) by unfold iu;rw [gj]]<;>exact⟨rfl,rfl⟩⟩)
 ·have hkt:(obj S.O tk).kind=1:=hI.kind hlv
  refine af.bF (by kernel_rfl) (by kernel_rfl) ?_
  refine jQ 8 [10,14] [(3,a_ 0 f),(7,a_ 6 cb)] ?_
  refine aU.iY 1 (d:=(some 15)) (t:=78) (K:=3) (E:=82) (b:=m) (n:=S.idx.length) (f:=(bB (bC L S.idx))) (x:=(.tmp 10)) (ix:=(.tmp 14)) (key:=.int .i64 (c.other)) (z:=.nilIface) (kl:=(.int .i64 c.other)) (r:=(some (eV L ⟨tk,1⟩))) (fun _=>by kernel_rfl) (by kernel_rfl) (fun _=>by kernel_rfl) (fun _=>by kernel_rfl) gT Tryz.underlying78 (fun _=>by kernel_rfl) (mE hC.ow) (by rw [iZ,gj];rfl) ?_
  refine jQ 1 [5] [] ?_
  refine NQ (NX (af.seq (SR ?_)))
  refine jK 2 [17] [] ?_
  refine NN (CF (af.skip (NX (af.seq (SR (jK 1 [18] [] ?_))))))
  refine gL [] (pH (vP (L.b tk))) ?_
  rintro _ _ ⟨rfl,rfl⟩
  refine jK 1 [20] [] ?_
  refine NN (CT (SR (jK 1 [4] [] ?_)))
  refine NN (af.ret (ai.aj ?_))
  exact RT _ [0,1,2,3,4,5,6,7] (⟨L,by rw [show (iu S c)=(173,S,c) by grind [iu]]<;>exact⟨rfl,rfl⟩⟩)
 ·have hkt:(obj S.O tk).kind=2:=hI.kind hlv
  refine af.bF (by kernel_rfl) (by kernel_rfl) ?_
  refine jQ 8 [10,14] [(3,a_ 0 f),(7,a_ 6 cb)] ?_
  refine aU.iY 1 (d:=(some 15)) (t:=78) (K:=3) (E:=82) (b:=m) (n:=S.idx.length) (f:=(bB (bC L S.idx))) (x:=(.tmp 10)) (ix:=(.tmp 14)) (key:=.int .i64 (c.other)) (z:=.nilIface) (kl:=(.int .i64 c.other)) (r:=(some (eV L ⟨tk,2⟩))) (fun _=>by kernel_rfl) (by kernel_rfl) (fun _=>by kernel_rfl) (fun _=>by kernel_rfl) gT Tryz.underlying78 (fun _=>by kernel_rfl) (mE hC.ow) (by rw [iZ,gj];rfl) ?_
  refine jQ 1 [5] [] ?_
  refine NQ (NX (af.seq (SR ?_)))
  refine jK 2 [17] [] ?_
  refine NN (CF (af.skip (NX (af.seq (SR (jK 1 [18] [] ?_))))))
  refine gL [] (pJ (vP (L.b tk))) ?_
  rintro _ _ ⟨rfl,rfl⟩
  refine jK 1 [20] [] ?_
  refine NN (CF (af.skip (NX (SR (jK 1 [] [] ?_)))))
  refine NS (jK 3 [22,23,24] [] ?_)
  refine gL [0,2,3] (vX S L f m t ⟨tk,2⟩ hkt (by simp) (by have:=hI.GF hlv;simp only at this ⊢;omega)) ?_
  rintro _ _ ⟨rfl,rfl⟩
  refine jC 7 [6] [(5,a_ 6 cb)] [(6,[(12,vI ((ck S ⟨tk,2⟩).1))])] ?_
  refine NS (ak.eG [(4,.abs (aG (bV ((ck S ⟨tk,2⟩).2.2.O) L))),(5,.abs (aG (dM ((ck S ⟨tk,2⟩).2.2.O) L)))] (fun w hS=>by rw [Dc,Dd];exact hS) ?_)
  refine jK 2 [4] [] ?_
  refine NN (af.ret ?_)
  exact RT _ [0,3,1,2,4,5,6,7] (⟨L,by rw [show (iu S c)=((ck S ⟨tk,2⟩).2.1,(ck S ⟨tk,2⟩).2.2,{ c with answer:=(ck S ⟨tk,2⟩).1 }) by grind [iu]]<;>exact⟨rfl,rfl⟩⟩)
 have hkt:(obj S.O tk).kind=3:=hI.kind hlv
 refine af.bF (by kernel_rfl) (by kernel_rfl) ?_
 refine jQ 8 [10,14] [(3,a_ 0 f),(7,a_ 6 cb)] ?_
 refine aU.iY 1 (d:=(some 15)) (t:=78) (K:=3) (E:=82) (b:=m) (n:=S.idx.length) (f:=(bB (bC L S.idx))) (x:=(.tmp 10)) (ix:=(.tmp 14)) (key:=.int .i64 (c.other)) (z:=.nilIface) (kl:=(.int .i64 c.other)) (r:=(some (eV L ⟨tk,3⟩))) (fun _=>by kernel_rfl) (by kernel_rfl) (fun _=>by kernel_rfl) (fun _=>by kernel_rfl) gT Tryz.underlying78 (fun _=>by kernel_rfl) (mE hC.ow) (by rw [iZ,gj];rfl) ?_
 refine jQ 1 [5] [] ?_
 refine NQ (NX (af.seq (SR ?_)))
 refine jK 2 [17] [] ?_
 refine NN (CF (af.skip (NX (af.seq (SR (jK 1 [18] [] ?_))))))
 refine gL [] (qO (vP (L.b tk))) ?_
 rintro _ _ ⟨rfl,rfl⟩
 refine jK 1 [20] [] ?_
 refine NN (CT (SR (jK 1 [4] [] ?_)))
 refine NN (af.ret (ai.aj ?_))
 exact RT _ [0,1,2,3,4,5,6,7] (⟨L,by rw [show (iu S c)=(173,S,c) by grind [iu]]<;>exact⟨rfl,rfl⟩⟩)
theorem HY {β:Bs} (S:aI) (L:HL) (f m t:Nat) (hI:Inv S) (cb:Nat) (c:ar) (hC:cR β c) :
    Spec Tryz.prog β 83 #[vP f,vP cb] ((pA f m t L S)++[.blk cb (aK c) 53]) (fun v l=>∃ L2,v=vI (dI S c).1/\l=((pA f m t L2 ((dI S c).2.1))++[.blk cb (aK ((dI S c).2.2)) 53])):=by
 have hX:=hI.hX
 refine SE Tryz.func83 Tryz.ntmps83 (fun R=>?_)
 refine SR (jK 1 [] [] ?_)
 refine NS (jK 2 [8,9] [] ?_)
 rcases Ea hI.toInv0 c with ⟨e,hnm,hne⟩|⟨tk,hnm,hlv⟩|⟨tk,hnm,hlv⟩|⟨tk,hnm,hlv⟩
 ·refine gL [0,1,2,3,4,5,6] ((by have h:=jH S L f m t hI cb c hC (β:=β);rw [hnm] at h;exact h)) ?_
  rintro _ _ ⟨rfl,rfl⟩
  refine jK 5 [5,6] [] ?_
  refine NN (af.seq (SR (jK 2 [14] [] ?_)))
  refine NN (cN ((e:Int)=(0:Int)) (fun iH=>?_) (fun iH=>?_))
  ·refine SR (jK 2 [4] [] ?_)
   refine NN (af.ret (ai.aj ?_))
   exact RT _ [0,1,2,3,4,5,6,7] (⟨L,by rw [show (dI S c)=(e,S,c) by unfold dI;rw [hnm]]<;>exact⟨rfl,rfl⟩⟩)
  exact absurd iH hne
 ·have hkt:(obj S.O tk).kind=1:=hI.kind hlv
  refine gL [0,1,2,3,4,5,6] ((by have h:=jH S L f m t hI cb c hC (β:=β);rw [hnm] at h;exact h)) ?_
  rintro _ _ ⟨rfl,rfl⟩
  refine jK 5 [5,6] [] ?_
  refine NN (af.seq (SR (jK 2 [14] [] ?_)))
  refine NN (CF (af.skip (NX (af.seq (SR (jK 1 [16] [] ?_))))))
  refine NN (af.block (SR ?_))
  refine jK 3 [18] [] ?_
  refine NN (CF (SR (jK 3 [21] [] ?_)))
  refine NN (CT (SR (jK 1 [4] [] ?_)))
  refine NN (af.ret (ai.au (ai.aj ?_)))
  exact RT _ [0,1,2,3,4,5,6,7] (⟨L,by rw [show (dI S c)=(173,S,c) by grind [dI]]<;>exact⟨rfl,rfl⟩⟩)
 ·have hkt:(obj S.O tk).kind=2:=hI.kind hlv
  refine gL [0,1,2,3,4,5,6] ((by have h:=jH S L f m t hI cb c hC (β:=β);rw [hnm] at h;exact h)) ?_
  rintro _ _ ⟨rfl,rfl⟩
  refine jK 5 [5,6] [] ?_
  refine NN (af.seq (SR (jK 2 [14] [] ?_)))
  refine NN (CF (af.skip (NX (af.seq (SR (jK 1 [16] [] ?_))))))
  refine NN (af.block (SR ?_))
  refine jK 3 [18] [] ?_
  refine NN (CF (SR (jK 3 [21] [] ?_)))
  refine NN (CF (af.skip (ai.ax (NX (SR ?_)))))
  refine jK 3 [24,25,26] [] ?_
  refine gL [0,2,3] (vX S L f m t ⟨tk,2⟩ hkt (by simp) (by have:=hI.GF hlv;simp only at this ⊢;omega)) ?_
  rintro _ _ ⟨rfl,rfl⟩
  refine jC 7 [6] [(5,a_ 6 cb)] [(6,[(12,vI ((ck S ⟨tk,2⟩).1))])] ?_
  refine NS (ak.eG [(4,.abs (aG (bV ((ck S ⟨tk,2⟩).2.2.O) L))),(5,.abs (aG (dM ((ck S ⟨tk,2⟩).2.2.O) L)))] (fun w hS=>by rw [Dc,Dd];exact hS) ?_)
  refine jK 2 [4] [] ?_
  refine NN (af.ret ?_)
  exact RT _ [0,3,1,2,4,5,6,7] (⟨L,by rw [show (dI S c)=((ck S ⟨tk,2⟩).2.1,(ck S ⟨tk,2⟩).2.2,{ c with answer:=(ck S ⟨tk,2⟩).1 }) by grind [dI]]<;>exact⟨rfl,rfl⟩⟩)
 have hkt:(obj S.O tk).kind=3:=hI.kind hlv
 refine gL [0,1,2,3,4,5,6] ((by have h:=jH S L f m t hI cb c hC (β:=β);rw [hnm] at h;exact h)) ?_
 rintro _ _ ⟨rfl,rfl⟩
 refine jK 5 [5,6] [] ?_
 refine NN (af.seq (SR (jK 2 [14] [] ?_)))
 refine NN (CF (af.skip (NX (af.seq (SR (jK 1 [16] [] ?_))))))
 refine NN (af.block (SR ?_))
 refine jK 3 [18] [] ?_
 refine NN (CT (SR (jK 1 [4] [] ?_)))
 refine NN (af.ret (ai.au (ai.aj ?_)))
 exact RT _ [0,1,2,3,4,5,6,7] (⟨L,by rw [show (dI S c)=(174,S,c) by grind [dI]]<;>exact⟨rfl,rfl⟩⟩)
theorem F9 {β:Bs} (S:aI) (L:HL) (f m t:Nat) (hI:Inv S) (cb:Nat) (c:ar) (hC:cR β c) :
    Spec Tryz.prog β 84 #[vP f,vP cb] ((pA f m t L S)++[.blk cb (aK c) 53]) (fun v l=>∃ L2,v=vI (dg S c).1/\l=((pA f m t L2 ((dg S c).2.1))++[.blk cb (aK ((dg S c).2.2)) 53])):=by
 have hX:=hI.hX
 refine SE Tryz.func84 Tryz.ntmps84 (fun R=>?_)
 refine SR (jK 1 [] [] ?_)
 refine NS (jK 2 [8,9] [] ?_)
 rcases Ea hI.toInv0 c with ⟨e,hnm,hne⟩|⟨tk,hnm,hlv⟩|⟨tk,hnm,hlv⟩|⟨tk,hnm,hlv⟩
 ·refine gL [0,1,2,3,4,5,6] ((by have h:=jH S L f m t hI cb c hC (β:=β);rw [hnm] at h;exact h)) ?_
  rintro _ _ ⟨rfl,rfl⟩
  refine jK 5 [5,6] [] ?_
  refine NN (af.seq (SR (jK 2 [14] [] ?_)))
  refine NN (cN ((e:Int)=(0:Int)) (fun iH=>?_) (fun iH=>?_))
  ·refine SR (jK 2 [4] [] ?_)
   refine NN (af.ret (ai.aj ?_))
   exact RT _ [0,1,2,3,4,5,6,7] (⟨L,by rw [show (dg S c)=(e,S,c) by unfold dg;rw [hnm]]<;>exact⟨rfl,rfl⟩⟩)
  exact absurd iH hne
 ·have hkt:(obj S.O tk).kind=1:=hI.kind hlv
  refine gL [0,1,2,3,4,5,6] ((by have h:=jH S L f m t hI cb c hC (β:=β);rw [hnm] at h;exact h)) ?_
  rintro _ _ ⟨rfl,rfl⟩
  refine jK 5 [5,6] [] ?_
  refine NN (af.seq (SR (jK 2 [14] [] ?_)))
  refine NN (CF (af.skip (NX (af.seq (SR (jK 1 [16] [] ?_))))))
  refine NN (af.block (SR ?_))
  refine jK 3 [18] [] ?_
  refine NN (CF (SR (jK 3 [21] [] ?_)))
  refine NN (CF (af.skip (ai.ax (NX (SR ?_)))))
  refine jK 3 [24,25,26] [] ?_
  refine gL [0,2,3] (vX S L f m t ⟨tk,1⟩ hkt (by simp) (by have:=hI.GF hlv;simp only at this ⊢;omega)) ?_
  rintro _ _ ⟨rfl,rfl⟩
  refine jC 7 [6] [(5,a_ 6 cb)] [(6,[(12,vI ((ck S ⟨tk,1⟩).1))])] ?_
  refine NS (ak.eG [(4,.abs (aG (bV ((ck S ⟨tk,1⟩).2.2.O) L))),(5,.abs (aG (dM ((ck S ⟨tk,1⟩).2.2.O) L)))] (fun w hS=>by rw [Dc,Dd];exact hS) ?_)
  refine jK 2 [4] [] ?_
  refine NN (af.ret ?_)
  exact RT _ [0,3,1,2,4,5,6,7] (⟨L,by rw [show (dg S c)=((ck S ⟨tk,1⟩).2.1,(ck S ⟨tk,1⟩).2.2,{ c with answer:=(ck S ⟨tk,1⟩).1 }) by grind [dg]]<;>exact⟨rfl,rfl⟩⟩)
 ·have hkt:(obj S.O tk).kind=2:=hI.kind hlv
  refine gL [0,1,2,3,4,5,6] ((by have h:=jH S L f m t hI cb c hC (β:=β);rw [hnm] at h;exact h)) ?_
  rintro _ _ ⟨rfl,rfl⟩
  refine jK 5 [5,6] [] ?_
  refine NN (af.seq (SR (jK 2 [14] [] ?_)))
  refine NN (CF (af.skip (NX (af.seq (SR (jK 1 [16] [] ?_))))))
  refine NN (af.block (SR ?_))
  refine jK 3 [18] [] ?_
  refine NN (CF (SR (jK 3 [21] [] ?_)))
  refine NN (CT (SR (jK 1 [4] [] ?_)))
  refine NN (af.ret (ai.au (ai.aj ?_)))
  exact RT _ [0,1,2,3,4,5,6,7] (⟨L,by rw [show (dg S c)=(172,S,c) by grind [dg]]<;>exact⟨rfl,rfl⟩⟩)
 have hkt:(obj S.O tk).kind=3:=hI.kind hlv
 refine gL [0,1,2,3,4,5,6] ((by have h:=jH S L f m t hI cb c hC (β:=β);rw [hnm] at h;exact h)) ?_
 rintro _ _ ⟨rfl,rfl⟩
 refine jK 5 [5,6] [] ?_
 refine NN (af.seq (SR (jK 2 [14] [] ?_)))
 refine NN (CF (af.skip (NX (af.seq (SR (jK 1 [16] [] ?_))))))
 refine NN (af.block (SR ?_))
 refine jK 3 [18] [] ?_
 refine NN (CT (SR (jK 1 [4] [] ?_)))
 refine NN (af.ret (ai.au (ai.aj ?_)))
 exact RT _ [0,1,2,3,4,5,6,7] (⟨L,by rw [show (dg S c)=(174,S,c) by grind [dg]]<;>exact⟨rfl,rfl⟩⟩)
theorem LR {β:Bs} (S:aI) (L:HL) (f m t:Nat) (hI:Inv S) (cb:Nat) (c:ar) (hC:cR β c) :
    Spec Tryz.prog β 85 #[vP f,vP cb] ((pA f m t L S)++[.blk cb (aK c) 53]) (fun v l=>∃ L2,v=vI (eP S c).1/\l=((pA f m t L2 ((eP S c).2.1))++[.blk cb (aK ((eP S c).2.2)) 53])):=by
 have hX:=hI.hX
 refine SE Tryz.func85 Tryz.ntmps85 (fun R=>?_)
 refine SR (jK 1 [] [] ?_)
 refine NN (af.seq (af.bF (by kernel_rfl) (by kernel_rfl) ?_))
 refine jQ 9 [8,12,16] [(4,a_ 6 cb),(8,a_ 6 cb)] ?_
 rcases iw hI.toInv0 c.handle c.name 192 with ⟨e,hab,hne⟩|⟨d,hab,hd,mM,j3,eF⟩
 ·refine jU [0,2,3] [0,3,1,2,4,5,6,7] (.tuple #[.pointer none,vI (e)]) ((by have h:=fL S L f m t hI c.handle hC.hw c.name hC.nm 192 (β:=β);rw [hab] at h;exact h)) ?_
  refine jQ 5 [5,6] [] ?_
  refine NQ (NX (af.seq (SR ?_)))
  refine jK 2 [21] [] ?_
  refine NN (cN ((e:Int)=(0:Int)) (fun oA=>?_) (fun oA=>?_))
  ·refine SR (jK 2 [4] [] ?_)
   refine NN (af.ret (ai.aj ?_))
   exact RT _ [0,1,2,3,4,5,6,7] (⟨L,by rw [show (eP S c)=(e,S,c) by unfold eP;rw [hab]]<;>exact⟨rfl,rfl⟩⟩)
  exact absurd oA hne
 have hkd:(obj S.O d).kind=2:=hI.kind hd
 refine jU [0,2,3] [0,3,1,2,4,5,6,7] (.tuple #[vP (L.b d),vI 0]) ((by have h:=fL S L f m t hI c.handle hC.hw c.name hC.nm 192 (β:=β);rw [hab] at h;exact h)) ?_
 refine jQ 5 [5,6] [] ?_
 refine NQ (NX (af.seq (SR ?_)))
 refine jK 2 [21] [] ?_
 refine NN (CF (af.skip (NX (af.seq (SR (jK 4 [26] [(3,a_ 6 cb)] ?_))))))
 refine gL [] (iy (c.mode) 4095) ?_
 rintro _ _ ⟨rfl,rfl⟩
 refine jK 1 [28] [] ?_
 refine NN (cN (0<=c.mode/\c.mode<=4095) (fun um=>?_) (fun um=>?_))
 ·refine SR (jK 1 [4] [] ?_)
  refine NN (af.ret (ai.aj ?_))
  exact RT _ [0,1,2,3,4,5,6,7] (⟨L,by rw [show (eP S c)=(120,S,c) by unfold eP;rw [hab];exact if_neg um]<;>exact⟨rfl,rfl⟩⟩)
 refine af.skip (NX (af.seq (rM (List.range 12) 10 [6] ?_)))
 refine jR 10 [29,30,34,38] [(5,a_ 0 cb),(9,a_ 0 cb)] ?_
 refine mL [6] [0,1,2,3,4,5] (RY S L f m t hI d hd c.name hC.nm c.mode) ?_ (by rintro _ _ ⟨L2,rfl,rfl⟩;rfl)
 rintro _ _ ⟨L2,rfl,rfl⟩
 refine aY.last rfl rfl ?_
 refine jK 1 [4] [] ?_
 refine NL (ai.np (NX (af.ret ?_)))
 exact RT _ [0,1,2,3,4,5,6,7] (⟨L2,by rw [show (eP S c)=((ko S d c.name c.mode).1,(ko S d c.name c.mode).2,c) by unfold eP;rw [hab];exact if_pos um]<;>exact⟨rfl,rfl⟩⟩)
theorem HZ {β:Bs} (S:aI) (L:HL) (f m t:Nat) (hI:Inv S) (cb:Nat) (c:ar) (hC:cR β c) :
    Spec Tryz.prog β 87 #[vP f,vP cb] ((pA f m t L S)++[.blk cb (aK c) 53]) (fun v l=>∃ L2,v=vI (dP S c).1/\l=((pA f m t L2 ((dP S c).2.1))++[.blk cb (aK ((dP S c).2.2)) 53])):=by
 have hX:=hI.hX
 refine SE Tryz.func87 Tryz.ntmps87 (fun R=>?_)
 refine SR (jK 1 [] [] ?_)
 refine NN (af.seq (af.bF (by kernel_rfl) (by kernel_rfl) ?_))
 refine jQ 9 [8,12,16] [(4,a_ 6 cb),(8,a_ 6 cb)] ?_
 rcases iw hI.toInv0 c.handle c.name 192 with ⟨e,hab,hne⟩|⟨d,hab,hd,mM,j3,eF⟩
 ·refine jU [0,2,3] [0,3,1,2,4,5,6,7] (.tuple #[.pointer none,vI (e)]) ((by have h:=fL S L f m t hI c.handle hC.hw c.name hC.nm 192 (β:=β);rw [hab] at h;exact h)) ?_
  refine jQ 5 [5,6] [] ?_
  refine NQ (NX (af.seq (SR ?_)))
  refine jK 2 [21] [] ?_
  refine NN (cN ((e:Int)=(0:Int)) (fun oA=>?_) (fun oA=>?_))
  ·refine SR (jK 2 [4] [] ?_)
   refine NN (af.ret (ai.aj ?_))
   exact RT _ [0,1,2,3,4,5,6,7] (⟨L,by rw [show (dP S c)=(e,S,c) by unfold dP;rw [hab]]<;>exact⟨rfl,rfl⟩⟩)
  exact absurd oA hne
 have hkd:(obj S.O d).kind=2:=hI.kind hd
 refine jU [0,2,3] [0,3,1,2,4,5,6,7] (.tuple #[vP (L.b d),vI 0]) ((by have h:=fL S L f m t hI c.handle hC.hw c.name hC.nm 192 (β:=β);rw [hab] at h;exact h)) ?_
 refine jQ 5 [5,6] [] ?_
 refine NQ (NX (af.seq (SR ?_)))
 refine jK 2 [21] [] ?_
 refine NN (CF (af.skip (NX (af.seq (rM (List.range 12) 10 [6] ?_)))))
 refine jR 10 [23,24,28,32] [(5,a_ 0 cb),(9,a_ 0 cb)] ?_
 refine mL [6] [0,1,2,3,4,5] (LQ S L f m t hI d hd c.name hC.nm c.text hC.tx) ?_ (by rintro _ _ ⟨L2,rfl,rfl⟩;rfl)
 rintro _ _ ⟨L2,rfl,rfl⟩
 refine aY.last rfl rfl ?_
 refine jK 1 [4] [] ?_
 refine NL (ai.np (NX (af.ret ?_)))
 exact RT _ [0,1,2,3,4,5,6,7] (⟨L2,by rw [show (dP S c)=((ia S d c.name c.text).1,(ia S d c.name c.text).2,c) by unfold dP;rw [hab]]<;>exact⟨rfl,rfl⟩⟩)
theorem KY {β:Bs} (S:aI) (L:HL) (f m t:Nat) (hI:Inv S) (cb:Nat) (c:ar) (hC:cR β c) :
    Spec Tryz.prog β 89 #[vP f,vP cb] ((pA f m t L S)++[.blk cb (aK c) 53]) (fun v l=>∃ L2,v=vI (fo S c).1/\l=((pA f m t L2 ((fo S c).2.1))++[.blk cb (aK ((fo S c).2.2)) 53])):=by
 have hX:=hI.hX
 refine SE Tryz.func89 Tryz.ntmps89 (fun R=>?_)
 refine SR (jK 1 [] [] ?_)
 refine NN (af.seq (af.bF (by kernel_rfl) (by kernel_rfl) ?_))
 refine jQ 9 [8,12,16] [(4,a_ 6 cb),(8,a_ 6 cb)] ?_
 rcases iw hI.toInv0 c.handle c.name 192 with ⟨e,hab,hne⟩|⟨d,hab,hd,mM,j3,eF⟩
 ·refine jU [0,2,3] [0,3,1,2,4,5,6,7] (.tuple #[.pointer none,vI (e)]) ((by have h:=fL S L f m t hI c.handle hC.hw c.name hC.nm 192 (β:=β);rw [hab] at h;exact h)) ?_
  refine jQ 5 [5,6] [] ?_
  refine NQ (NX (af.seq (SR ?_)))
  refine jK 2 [21] [] ?_
  refine NN (cN ((e:Int)=(0:Int)) (fun oA=>?_) (fun oA=>?_))
  ·refine SR (jK 2 [4] [] ?_)
   refine NN (af.ret (ai.aj ?_))
   exact RT _ [0,1,2,3,4,5,6,7] (⟨L,by rw [show (fo S c)=(e,S,c) by unfold fo;rw [hab]]<;>exact⟨rfl,rfl⟩⟩)
  exact absurd oA hne
 have hkd:(obj S.O d).kind=2:=hI.kind hd
 refine jU [0,2,3] [0,3,1,2,4,5,6,7] (.tuple #[vP (L.b d),vI 0]) ((by have h:=fL S L f m t hI c.handle hC.hw c.name hC.nm 192 (β:=β);rw [hab] at h;exact h)) ?_
 refine jQ 5 [5,6] [] ?_
 refine NQ (NX (af.seq (SR ?_)))
 refine jK 2 [21] [] ?_
 refine NN (CF (af.skip (NX (SR (jK 6 [23,24,28] [(5,a_ 6 cb)] ?_)))))
 refine gL [0,1,2,3,4,5] (OJ S L f m t hI d hd c.name hC.nm) ?_
 rintro _ _ ⟨L2,rfl,rfl⟩
 refine jK 1 [4] [] ?_
 refine NN (af.ret ?_)
 exact RT _ [0,1,2,3,4,5,6,7] (⟨L2,by rw [show (fo S c)=((fH S d c.name).1,(fH S d c.name).2,c) by unfold fo;rw [hab]]<;>exact⟨rfl,rfl⟩⟩)
theorem LU {β:Bs} (S:aI) (L:HL) (f m t:Nat) (hI:Inv S) (cb:Nat) (c:ar) (hC:cR β c) :
    Spec Tryz.prog β 95 #[vP f,vP cb] ((pA f m t L S)++[.blk cb (aK c) 53]) (fun v l=>∃ L2,v=vI (fX S c).1/\l=((pA f m t L2 ((fX S c).2.1))++[.blk cb (aK ((fX S c).2.2)) 53])):=by
 have hX:=hI.hX
 refine SE Tryz.func95 Tryz.ntmps95 (fun R=>?_)
 refine SR (jK 1 [] [] ?_)
 refine NN (af.seq (af.bF (by kernel_rfl) (by kernel_rfl) ?_))
 refine jQ 9 [8,12,16] [(4,a_ 6 cb),(8,a_ 6 cb)] ?_
 rcases iw hI.toInv0 c.handle c.name 192 with ⟨e,hab,hne⟩|⟨d,hab,hd,mM,j3,eF⟩
 ·refine jU [0,2,3] [0,3,1,2,4,5,6,7] (.tuple #[.pointer none,vI (e)]) ((by have h:=fL S L f m t hI c.handle hC.hw c.name hC.nm 192 (β:=β);rw [hab] at h;exact h)) ?_
  refine jQ 5 [5,6] [] ?_
  refine NQ (NX (af.seq (SR ?_)))
  refine jK 2 [21] [] ?_
  refine NN (cN ((e:Int)=(0:Int)) (fun oA=>?_) (fun oA=>?_))
  ·refine SR (jK 2 [4] [] ?_)
   refine NN (af.ret (ai.aj ?_))
   exact RT _ [0,1,2,3,4,5,6,7] (⟨L,by rw [show (fX S c)=(e,S,c) by unfold fX;rw [hab]]<;>exact⟨rfl,rfl⟩⟩)
  exact absurd oA hne
 have hkd:(obj S.O d).kind=2:=hI.kind hd
 refine jU [0,2,3] [0,3,1,2,4,5,6,7] (.tuple #[vP (L.b d),vI 0]) ((by have h:=fL S L f m t hI c.handle hC.hw c.name hC.nm 192 (β:=β);rw [hab] at h;exact h)) ?_
 refine jQ 5 [5,6] [] ?_
 refine NQ (NX (af.seq (SR ?_)))
 refine jK 2 [21] [] ?_
 refine NN (CF (af.skip (NX (SR (jK 6 [23,24,28] [(5,a_ 6 cb)] ?_)))))
 refine gL [0,1,2,3,4,5] (RZ S L f m t hI d hd c.name hC.nm) ?_
 rintro _ _ ⟨L2,rfl,rfl⟩
 refine jK 1 [4] [] ?_
 refine NN (af.ret ?_)
 exact RT _ [0,1,2,3,4,5,6,7] (⟨L2,by rw [show (fX S c)=((fY S d c.name).1,(fY S d c.name).2,c) by unfold fX;rw [hab]]<;>exact⟨rfl,rfl⟩⟩)
theorem KZ {β:Bs} (S:aI) (L:HL) (f m t:Nat) (hI:Inv S) (cb:Nat) (c:ar) (hC:cR β c) :
    Spec Tryz.prog β 96 #[vP f,vP cb] ((pA f m t L S)++[.blk cb (aK c) 53]) (fun v l=>∃ L2,v=vI (eE S c).1/\l=((pA f m t L2 ((eE S c).2.1))++[.blk cb (aK ((eE S c).2.2)) 53])):=by
 have hX:=hI.hX
 refine SE Tryz.func96 Tryz.ntmps96 (fun R=>?_)
 refine SR (jK 1 [] [] ?_)
 refine NN (af.seq (af.bF (by kernel_rfl) (by kernel_rfl) ?_))
 refine jQ 9 [9,13,17] [(4,a_ 6 cb),(8,a_ 6 cb)] ?_
 rcases iw hI.toInv0 c.handle c.name 192 with ⟨e,hab,hne⟩|⟨d,hab,hd,mM,j3,eF⟩
 ·refine jU [0,2,3] [0,3,1,2,4,5,6,7] (.tuple #[.pointer none,vI (e)]) ((by have h:=fL S L f m t hI c.handle hC.hw c.name hC.nm 192 (β:=β);rw [hab] at h;exact h)) ?_
  refine jQ 5 [5,6] [] ?_
  refine NQ (NX (af.seq (SR ?_)))
  refine jK 2 [22] [] ?_
  refine NN (cN ((e:Int)=(0:Int)) (fun wj=>?_) (fun wj=>?_))
  ·refine SR (jK 2 [4] [] ?_)
   refine NN (af.ret (ai.aj ?_))
   exact RT _ [0,1,2,3,4,5,6,7] (⟨L,by rw [show (eE S c)=(e,S,c) by unfold eE;rw [hab]]<;>exact⟨rfl,rfl⟩⟩)
  exact absurd wj hne
 have hkd:(obj S.O d).kind=2:=hI.kind hd
 refine jU [0,2,3] [0,3,1,2,4,5,6,7] (.tuple #[vP (L.b d),vI 0]) ((by have h:=fL S L f m t hI c.handle hC.hw c.name hC.nm 192 (β:=β);rw [hab] at h;exact h)) ?_
 refine jQ 5 [5,6] [] ?_
 refine NQ (NX (af.seq (SR ?_)))
 refine jK 2 [22] [] ?_
 refine NN (CF (af.skip (NX (af.seq (af.bF (by kernel_rfl) (by kernel_rfl) ?_)))))
 refine jQ 9 [25,29,33] [(4,a_ 6 cb),(8,a_ 6 cb)] ?_
 rcases iw hI.toInv0 c.other c.text 192 with ⟨e2,Dz,UJ⟩|⟨to,Dz,hd2,abL,abM,abN⟩
 ·refine jU [0,2,3] [0,3,1,2,4,5,6,7] (.tuple #[.pointer none,vI (e2)]) ((by have h:=fL S L f m t hI c.other hC.ow c.text hC.tx 192 (β:=β);rw [Dz] at h;exact h)) ?_
  refine jQ 5 [6,7] [] ?_
  refine NQ (NX (af.seq (SR ?_)))
  refine jK 2 [38] [] ?_
  refine NN (cN ((e2:Int)=(0:Int)) (fun wk=>?_) (fun wk=>?_))
  ·refine SR (jK 2 [4] [] ?_)
   refine NN (af.ret (ai.aj ?_))
   exact RT _ [0,1,2,3,4,5,6,7] (⟨L,by rw [show (eE S c)=(e2,S,c) by grind [eE]]<;>exact⟨rfl,rfl⟩⟩)
  exact absurd wk UJ
 have fV:(obj S.O to).kind=2:=hI.kind hd2
 refine jU [0,2,3] [0,3,1,2,4,5,6,7] (.tuple #[vP (L.b to),vI 0]) ((by have h:=fL S L f m t hI c.other hC.ow c.text hC.tx 192 (β:=β);rw [Dz] at h;exact h)) ?_
 refine jQ 5 [6,7] [] ?_
 refine NQ (NX (af.seq (SR ?_)))
 refine jK 2 [38] [] ?_
 refine NN (CF (af.skip (NX (af.seq (rM (List.range 13) 11 [6] ?_)))))
 refine jR 11 [40,41,45,46,50] [(5,a_ 0 cb),(10,a_ 0 cb)] ?_
 refine mL [6] [0,1,2,3,4,5] (OL S L f m t hI d hd c.name hC.nm to hd2 c.text hC.tx) ?_ (by rintro _ _ ⟨L2,rfl,rfl⟩;rfl)
 rintro _ _ ⟨L2,rfl,rfl⟩
 refine aY.last rfl rfl ?_
 refine jK 1 [4] [] ?_
 refine NL (ai.np (NX (af.ret ?_)))
 exact RT _ [0,1,2,3,4,5,6,7] (⟨L2,by rw [show (eE S c)=((bG S d c.name to c.text).1,(bG S d c.name to c.text).2,c) by grind [eE]]<;>exact⟨rfl,rfl⟩⟩)
end
section
open Go.RowKit Go.Maps aX aq
attribute [local irreducible] ak aU af ai bZ aY
abbrev Wg:=([(2,vI 0),(6,vI 0),(7,vI 0),(8,vI 0),(9,vI 0),(10,vI 0)]:Fr)
abbrev Zp (S:aI) (tk:Nat):=([(9,vI ((obj S.O tk).sec)),(10,vI ((obj S.O tk).nano))]:Fr)
theorem OO {β:Bs} (S:aI) (L:HL) (f m t:Nat) (hI:Inv S) (cb:Nat) (c:ar) (hC:cR β c) :
    Spec Tryz.prog β 88 #[vP f,vP cb] ((pA f m t L S)++[.blk cb (aK c) 53]) (fun v l=>∃ L2,v=vI (bS S c).1/\l=((pA f m t L2 ((bS S c).2.1))++[.blk cb (aK ((bS S c).2.2)) 53])):=by
 have hX:=hI.hX
 refine SE Tryz.func88 Tryz.ntmps88 (fun R=>?_)
 refine SR (jK 1 [] [] ?_)
 refine NN (af.seq (af.bF (by kernel_rfl) (by kernel_rfl) ?_))
 refine jQ 9 [10,14,18] [(4,a_ 6 cb),(8,a_ 6 cb)] ?_
 rcases iw hI.toInv0 c.handle c.name 64 with ⟨e,hab,hne⟩|⟨d,hab,hd,mM,j3,eF⟩
 ·refine jU [0,2,3] [0,3,1,2,4,5,6,7] (.tuple #[.pointer none,vI (e)]) ((by have h:=fL S L f m t hI c.handle hC.hw c.name hC.nm 64 (β:=β);rw [hab] at h;exact h)) ?_
  refine jQ 5 [5,6] [] ?_
  refine NQ (NX (af.seq (SR ?_)))
  refine jK 2 [23] [] ?_
  refine NN (cN ((e:Int)=(0:Int)) (fun h23=>?_) (fun h23=>?_))
  ·refine SR (jK 2 [4] [] ?_)
   refine NN (af.ret (ai.aj ?_))
   exact RT _ [0,1,2,3,4,5,6,7] (⟨L,by rw [show (bS S c)=(e,S,c) by unfold bS;rw [hab]]<;>exact⟨rfl,rfl⟩⟩)
  exact absurd h23 hne
 have hkd:(obj S.O d).kind=2:=hI.kind hd
 refine jU [0,2,3] [0,3,1,2,4,5,6,7] (.tuple #[vP (L.b d),vI 0]) ((by have h:=fL S L f m t hI c.handle hC.hw c.name hC.nm 64 (β:=β);rw [hab] at h;exact h)) ?_
 refine jQ 5 [5,6] [] ?_
 refine NQ (NX (af.seq (SR ?_)))
 refine jK 2 [23] [] ?_
 refine NN (CF (af.skip (NX (af.seq (af.bF (by kernel_rfl) (by kernel_rfl) ?_)))))
 refine jQ 9 [26,30,34] [(4,a_ 6 cb),(8,a_ 6 cb)] ?_
 rcases iw hI.toInv0 c.other c.text 192 with ⟨e2,Dz,UJ⟩|⟨to,Dz,hd2,abL,abM,abN⟩
 ·refine jU [0,2,3] [0,3,1,2,4,5,6,7] (.tuple #[.pointer none,vI (e2)]) ((by have h:=fL S L f m t hI c.other hC.ow c.text hC.tx 192 (β:=β);rw [Dz] at h;exact h)) ?_
  refine jQ 5 [6,7] [] ?_
  refine NQ (NX (af.seq (SR ?_)))
  refine jK 2 [39] [] ?_
  refine NN (cN ((e2:Int)=(0:Int)) (fun qV=>?_) (fun qV=>?_))
  ·refine SR (jK 2 [4] [] ?_)
   refine NN (af.ret (ai.aj ?_))
   exact RT _ [0,1,2,3,4,5,6,7] (⟨L,by rw [show (bS S c)=(e2,S,c) by grind [bS]]<;>exact⟨rfl,rfl⟩⟩)
  exact absurd qV UJ
 have fV:(obj S.O to).kind=2:=hI.kind hd2
 refine jU [0,2,3] [0,3,1,2,4,5,6,7] (.tuple #[vP (L.b to),vI 0]) ((by have h:=fL S L f m t hI c.other hC.ow c.text hC.tx 192 (β:=β);rw [Dz] at h;exact h)) ?_
 refine jQ 5 [6,7] [] ?_
 refine NQ (NX (af.seq (SR ?_)))
 refine jK 2 [39] [] ?_
 refine NN (CF (af.skip (NX (af.seq ?_))))
 have hel:(obj S.O d).ah.length<=8192:=hI.je hd
 have aaG:=hC.nm
 rcases hI.qF hd c.name with hlk|⟨tk,hlk,hlv⟩|⟨tk,hlk,hlv⟩|⟨tk,hlk,hlv⟩
 ·refine af.bF (by kernel_rfl) (by kernel_rfl) ?_
  refine jQ 8 [44,48] [(3,v_ 3 (bQ L hkd)),(7,a_ 6 cb)] ?_
  refine uD 5 hkd hlk ?_
  refine jQ 1 [8] [] ?_
  refine NQ (NX (af.seq (af.block (SR ?_))))
  refine jK 3 [50] [] ?_
  refine NN (CT (SR (jK 1 [4] [] ?_)))
  refine NN (af.ret (ai.au (ai.aj ?_)))
  exact RT _ [0,1,2,3,4,5,6,7] (⟨L,by rw [show (bS S c)=(170,S,c) by grind [bS,jS]]<;>exact⟨rfl,rfl⟩⟩)
 ·have hkt:(obj S.O tk).kind=1:=hI.kind hlv
  refine af.bF (by kernel_rfl) (by kernel_rfl) ?_
  refine jQ 8 [44,48] [(3,v_ 3 (bQ L hkd)),(7,a_ 6 cb)] ?_
  refine uD 5 hkd hlk ?_
  refine jQ 1 [8] [] ?_
  refine NQ (NX (af.seq (af.block (SR ?_))))
  refine jK 3 [50] [] ?_
  refine NN (CF (SR (jK 1 [54] [] ?_)))
  refine gL [] (pH (vP (L.b tk))) ?_
  rintro _ _ ⟨rfl,rfl⟩
  refine jK 2 [53] [] ?_
  refine NN (CF (af.seq ?_))
  have DA:(obj S.O to).ah.length<=8192:=hI.je hd2
  have Zq:=hC.tx
  rcases hI.qF hd2 c.text with cT|⟨ok,cT,ij⟩|⟨ok,cT,ij⟩|⟨ok,cT,ij⟩
  ·refine af.bF (by kernel_rfl) (by kernel_rfl) ?_
   refine jQ 8 [61,65] [(3,v_ 3 (bQ L fV)),(7,a_ 6 cb)] ?_
   refine uD 5 fV cT ?_
   refine jQ 2 [57] [] ?_
   refine NQ (NX ?_)
   refine CF (SR (jK 1 [69] [] ?_))
   refine gL [0] (xE S.X f m t) ?_
   rintro _ _ ⟨rfl,rfl⟩
   refine jK 2 [68] [] ?_
   refine NN (cN (S.X.ah < 8192) (fun h68=>?_) (fun h68=>?_))
   ·refine SR (jK 1 [4] [] ?_)
    refine NN (af.ret (ai.au (ai.aj ?_)))
    exact RT _ [0,1,2,3,4,5,6,7] (⟨L,by rw [show (bS S c)=(177,S,c) by grind [bS,jS]]<;>exact⟨rfl,rfl⟩⟩)
   refine af.skip (ai.ax (NX (SR ?_)))
   refine jK 7 [72,73,77,78] [(5,a_ 6 cb)] ?_
   refine gL [0,3,5] (jF S.X f m t hX S.O L to fV c.text hC.tx cT (by omega) ⟨tk,1⟩ hkt (by simp) (by have:=hI.lb hlv;simp only at this ⊢;omega)) ?_
   rintro _ _ ⟨rfl,rfl⟩
   refine NS (ak.eG [(5,.abs (aG (bV (bw S.X S.O to c.text ⟨tk,1⟩) L)))] (fun w hS=>by rw [show bV (bw S.X S.O to c.text ⟨tk,1⟩) L=bV S.O L from jE];exact hS) ?_)
   refine jK 1 [4] [] ?_
   refine NN (af.ret ?_)
   exact RT _ [0,3,4,1,5,2,6,7] (⟨L,by rw [show (bS S c)=(0,{ S with X:={ S.X with ah:=S.X.ah+1 },O:=bw S.X S.O to c.text ⟨tk,1⟩ },c) by grind [bS,jS,bw]]<;>exact⟨rfl,rfl⟩⟩)
  ·have pN:(obj S.O ok).kind=1:=hI.kind ij
   refine af.bF (by kernel_rfl) (by kernel_rfl) ?_
   refine jQ 8 [61,65] [(3,v_ 3 (bQ L fV)),(7,a_ 6 cb)] ?_
   refine uD 5 fV cT ?_
   refine jQ 2 [57] [] ?_
   refine NQ (NX ?_)
   refine CT (SR (jK 1 [4] [] ?_))
   refine NN (af.ret (ai.au (ai.aj ?_)))
   exact RT _ [0,1,2,3,4,5,6,7] (⟨L,by rw [show (bS S c)=(171,S,c) by grind [bS,jS]]<;>exact⟨rfl,rfl⟩⟩)
  ·have pN:(obj S.O ok).kind=2:=hI.kind ij
   refine af.bF (by kernel_rfl) (by kernel_rfl) ?_
   refine jQ 8 [61,65] [(3,v_ 3 (bQ L fV)),(7,a_ 6 cb)] ?_
   refine uD 5 fV cT ?_
   refine jQ 2 [57] [] ?_
   refine NQ (NX ?_)
   refine CT (SR (jK 1 [4] [] ?_))
   refine NN (af.ret (ai.au (ai.aj ?_)))
   exact RT _ [0,1,2,3,4,5,6,7] (⟨L,by rw [show (bS S c)=(171,S,c) by grind [bS,jS]]<;>exact⟨rfl,rfl⟩⟩)
  have pN:(obj S.O ok).kind=3:=hI.kind ij
  refine af.bF (by kernel_rfl) (by kernel_rfl) ?_
  refine jQ 8 [61,65] [(3,v_ 3 (bQ L fV)),(7,a_ 6 cb)] ?_
  refine uD 5 fV cT ?_
  refine jQ 2 [57] [] ?_
  refine NQ (NX ?_)
  refine CT (SR (jK 1 [4] [] ?_))
  refine NN (af.ret (ai.au (ai.aj ?_)))
  exact RT _ [0,1,2,3,4,5,6,7] (⟨L,by rw [show (bS S c)=(171,S,c) by grind [bS,jS]]<;>exact⟨rfl,rfl⟩⟩)
 ·have hkt:(obj S.O tk).kind=2:=hI.kind hlv
  refine af.bF (by kernel_rfl) (by kernel_rfl) ?_
  refine jQ 8 [44,48] [(3,v_ 3 (bQ L hkd)),(7,a_ 6 cb)] ?_
  refine uD 5 hkd hlk ?_
  refine jQ 1 [8] [] ?_
  refine NQ (NX (af.seq (af.block (SR ?_))))
  refine jK 3 [50] [] ?_
  refine NN (CF (SR (jK 1 [54] [] ?_)))
  refine gL [] (pJ (vP (L.b tk))) ?_
  rintro _ _ ⟨rfl,rfl⟩
  refine jK 2 [53] [] ?_
  refine NN (CT (SR (jK 1 [4] [] ?_)))
  refine NN (af.ret (ai.au (ai.aj ?_)))
  exact RT _ [0,1,2,3,4,5,6,7] (⟨L,by rw [show (bS S c)=(172,S,c) by grind [bS,jS]]<;>exact⟨rfl,rfl⟩⟩)
 have hkt:(obj S.O tk).kind=3:=hI.kind hlv
 refine af.bF (by kernel_rfl) (by kernel_rfl) ?_
 refine jQ 8 [44,48] [(3,v_ 3 (bQ L hkd)),(7,a_ 6 cb)] ?_
 refine uD 5 hkd hlk ?_
 refine jQ 1 [8] [] ?_
 refine NQ (NX (af.seq (af.block (SR ?_))))
 refine jK 3 [50] [] ?_
 refine NN (CF (SR (jK 1 [54] [] ?_)))
 refine gL [] (qO (vP (L.b tk))) ?_
 rintro _ _ ⟨rfl,rfl⟩
 refine jK 2 [53] [] ?_
 refine NN (CF (af.seq ?_))
 have DA:(obj S.O to).ah.length<=8192:=hI.je hd2
 have Zq:=hC.tx
 rcases hI.qF hd2 c.text with cT|⟨ok,cT,ij⟩|⟨ok,cT,ij⟩|⟨ok,cT,ij⟩
 ·refine af.bF (by kernel_rfl) (by kernel_rfl) ?_
  refine jQ 8 [61,65] [(3,v_ 3 (bQ L fV)),(7,a_ 6 cb)] ?_
  refine uD 5 fV cT ?_
  refine jQ 2 [57] [] ?_
  refine NQ (NX ?_)
  refine CF (SR (jK 1 [69] [] ?_))
  refine gL [0] (xE S.X f m t) ?_
  rintro _ _ ⟨rfl,rfl⟩
  refine jK 2 [68] [] ?_
  refine NN (cN (S.X.ah < 8192) (fun h68=>?_) (fun h68=>?_))
  ·refine SR (jK 1 [4] [] ?_)
   refine NN (af.ret (ai.au (ai.aj ?_)))
   exact RT _ [0,1,2,3,4,5,6,7] (⟨L,by rw [show (bS S c)=(177,S,c) by grind [bS,jS]]<;>exact⟨rfl,rfl⟩⟩)
  refine af.skip (ai.ax (NX (SR ?_)))
  refine jK 7 [72,73,77,78] [(5,a_ 6 cb)] ?_
  refine gL [0,3,5] (jF S.X f m t hX S.O L to fV c.text hC.tx cT (by omega) ⟨tk,3⟩ hkt (by simp) (by have:=hI.lb hlv;simp only at this ⊢;omega)) ?_
  rintro _ _ ⟨rfl,rfl⟩
  refine NS (ak.eG [(5,.abs (aG (bV (bw S.X S.O to c.text ⟨tk,3⟩) L)))] (fun w hS=>by rw [show bV (bw S.X S.O to c.text ⟨tk,3⟩) L=bV S.O L from jE];exact hS) ?_)
  refine jK 1 [4] [] ?_
  refine NN (af.ret ?_)
  exact RT _ [0,3,4,1,5,2,6,7] (⟨L,by rw [show (bS S c)=(0,{ S with X:={ S.X with ah:=S.X.ah+1 },O:=bw S.X S.O to c.text ⟨tk,3⟩ },c) by grind [bS,jS,bw]]<;>exact⟨rfl,rfl⟩⟩)
 ·have pN:(obj S.O ok).kind=1:=hI.kind ij
  refine af.bF (by kernel_rfl) (by kernel_rfl) ?_
  refine jQ 8 [61,65] [(3,v_ 3 (bQ L fV)),(7,a_ 6 cb)] ?_
  refine uD 5 fV cT ?_
  refine jQ 2 [57] [] ?_
  refine NQ (NX ?_)
  refine CT (SR (jK 1 [4] [] ?_))
  refine NN (af.ret (ai.au (ai.aj ?_)))
  exact RT _ [0,1,2,3,4,5,6,7] (⟨L,by rw [show (bS S c)=(171,S,c) by grind [bS,jS]]<;>exact⟨rfl,rfl⟩⟩)
 ·have pN:(obj S.O ok).kind=2:=hI.kind ij
  refine af.bF (by kernel_rfl) (by kernel_rfl) ?_
  refine jQ 8 [61,65] [(3,v_ 3 (bQ L fV)),(7,a_ 6 cb)] ?_
  refine uD 5 fV cT ?_
  refine jQ 2 [57] [] ?_
  refine NQ (NX ?_)
  refine CT (SR (jK 1 [4] [] ?_))
  refine NN (af.ret (ai.au (ai.aj ?_)))
  exact RT _ [0,1,2,3,4,5,6,7] (⟨L,by rw [show (bS S c)=(171,S,c) by grind [bS,jS]]<;>exact⟨rfl,rfl⟩⟩)
 have pN:(obj S.O ok).kind=3:=hI.kind ij
 refine af.bF (by kernel_rfl) (by kernel_rfl) ?_
 refine jQ 8 [61,65] [(3,v_ 3 (bQ L fV)),(7,a_ 6 cb)] ?_
 refine uD 5 fV cT ?_
 refine jQ 2 [57] [] ?_
 refine NQ (NX ?_)
 refine CT (SR (jK 1 [4] [] ?_))
 refine NN (af.ret (ai.au (ai.aj ?_)))
 exact RT _ [0,1,2,3,4,5,6,7] (⟨L,by rw [show (bS S c)=(171,S,c) by grind [bS,jS]]<;>exact⟨rfl,rfl⟩⟩)
theorem LV {β:Bs} (S:aI) (L:HL) (f m t:Nat) (hI:Inv S) (cb:Nat) (c:ar) (hC:cR β c) :
    Spec Tryz.prog β 90 #[vP f,vP cb] ((pA f m t L S)++[.blk cb (aK c) 53]) (fun v l=>∃ L2,v=vI (dW S c).1/\l=((pA f m t L2 ((dW S c).2.1))++[.blk cb (aK ((dW S c).2.2)) 53])):=by
 have hX:=hI.hX
 refine SE Tryz.func90 Tryz.ntmps90 (fun R=>?_)
 refine af.seq ?_
 rcases hI.hand c.handle with eF|⟨tk,eF,hlv⟩|⟨tk,eF,hlv⟩
 ·refine af.region (jK 1 [] [] ?_)
  refine NN (af.seq (af.bF (by kernel_rfl) (by kernel_rfl) ?_))
  refine jQ 8 [13,17] [(3,a_ 0 f),(7,a_ 6 cb)] ?_
  refine jU [2] [1,2,0,3,4,5,6,7] (.tuple #[.nilIface,vI 131]) (tI t S.X.cH S.av (bC L S.us) c.handle hC.hw (sF eF)) ?_
  refine jQ 5 [5,6] [] ?_
  refine NQ (NX (af.seq (SR ?_)))
  refine jK 2 [22] [] ?_
  refine NN (CT (SR (jK 2 [4] [] ?_)))
  refine NN (af.ret (ai.aj ?_))
  exact RT _ [0,1,2,3,4,5,6,7] (⟨L,by rw [show (dW S c)=(131,S,c) by unfold dW;rw [eF]]<;>exact⟨rfl,rfl⟩⟩)
 ·have hkt:(obj S.O tk).kind=1:=hI.kind hlv
  refine af.region (jK 1 [] [] ?_)
  refine NN (af.seq (af.bF (by kernel_rfl) (by kernel_rfl) ?_))
  refine jQ 8 [13,17] [(3,a_ 0 f),(7,a_ 6 cb)] ?_
  refine jU [2] [1,2,0,3,4,5,6,7] (.tuple #[.iface 87 (vP (L.b tk)),vI 0]) (oe t S.X.cH S.av (bC L S.us) c.handle hC.hw (eV L ⟨tk,1⟩) (mF eF)) ?_
  refine jQ 5 [5,6] [] ?_
  refine NQ (NX (af.seq (SR ?_)))
  refine jK 2 [22] [] ?_
  refine NN (CF (af.skip (NX (SR (jK 7 [7,8] [] ?_)))))
  refine NN (af.seq (SR (jK 2 [30] [] ?_)))
  refine NN (CF (af.skip (NX (SR (jK 7 [32,33,34,38] [(6,a_ 6 cb)] ?_)))))
  refine gL [0,1,2,3,4,5] (R3 S L f m t hI tk hlv c.dA c.dC c.data hC.da hC.dl hC.dc) ?_
  rintro _ _ ⟨L2,rfl,rfl⟩
  refine jC 7 [6] [(5,a_ 6 cb)] [(6,[(12,vI ((fS S tk c.data).1))])] ?_
  refine NS (jK 2 [4] [] ?_)
  refine NN (af.ret ?_)
  exact RT _ [0,1,2,3,4,5,6,7] (⟨L2,by rw [show (dW S c)=((fS S tk c.data).2.1,(fS S tk c.data).2.2,{ c with answer:=(fS S tk c.data).1 }) by grind [dW]]<;>exact⟨rfl,rfl⟩⟩)
 have hkt:(obj S.O tk).kind=2:=hI.kind hlv
 refine af.region (jK 1 [] [] ?_)
 refine NN (af.seq (af.bF (by kernel_rfl) (by kernel_rfl) ?_))
 refine jQ 8 [13,17] [(3,a_ 0 f),(7,a_ 6 cb)] ?_
 refine jU [2] [1,2,0,3,4,5,6,7] (.tuple #[.iface 94 (vP (L.b tk)),vI 0]) (oe t S.X.cH S.av (bC L S.us) c.handle hC.hw (eV L ⟨tk,2⟩) (mF eF)) ?_
 refine jQ 5 [5,6] [] ?_
 refine NQ (NX (af.seq (SR ?_)))
 refine jK 2 [22] [] ?_
 refine NN (CF (af.skip (NX (SR (jK 7 [7,8] [] ?_)))))
 refine NN (af.seq (SR (jK 2 [30] [] ?_)))
 refine NN (CT (SR (jK 1 [4] [] ?_)))
 refine NN (af.ret (ai.aj ?_))
 exact RT _ [0,1,2,3,4,5,6,7] (⟨L,by rw [show (dW S c)=(172,S,c) by grind [dW]]<;>exact⟨rfl,rfl⟩⟩)
theorem qQ {β:Bs} (S:aI) (L:HL) (hI:Inv S) (cb:Nat) (c:ar) (ot:Option Th) (ht:ot=none\/(∃ k,ot=some ⟨k,1⟩/\Live S.idx ⟨k,1⟩)\/(∃ k,ot=some ⟨k,2⟩/\Live S.idx ⟨k,2⟩)\/∃ k,ot=some ⟨k,3⟩/\Live S.idx ⟨k,3⟩) :
    Spec Tryz.prog β 129 #[vP cb,(match ot with|none=>.nilIface|some th=>eV L th)] [pO S.O L,.blk cb (aK c) 53] (fun v l=>v=.tuple #[]/\l=[pO S.O L,.blk cb (aK (kO S.O c ot)) 53]):=by
 refine SE Tryz.func129 Tryz.ntmps129 (fun R=>?_)
 refine af.seq ?_
 rcases ht with rfl|⟨tk,rfl,hlv⟩|⟨tk,rfl,hlv⟩|⟨tk,rfl,hlv⟩
 ·refine af.region (jC 21 [] [(8,a_ 1 cb),(11,a_ 1 cb),(14,a_ 1 cb),(17,a_ 1 cb),(20,A_ 1 cb 2)] [(1,(Wg))] ?_)
  refine NN (af.seq (SR (jK 2 [22] [] ?_)))
  refine NN (CT (af.ret (ai.aj ?_)))
  exact RT _ [0,1,2] (⟨rfl,rfl⟩)
 ·have hkt:(obj S.O tk).kind=1:=hI.kind hlv
  refine af.region (jC 21 [] [(8,a_ 1 cb),(11,a_ 1 cb),(14,a_ 1 cb),(17,a_ 1 cb),(20,A_ 1 cb 2)] [(1,(Wg))] ?_)
  refine NN (af.seq (SR (jK 2 [22] [] ?_)))
  refine NN (CF (af.skip (NX (SR (jK 1 [23] [] ?_)))))
  refine gL [] (dF (L.b tk)) ?_
  rintro _ _ ⟨rfl,rfl⟩
  refine jK 1 [4] [] ?_
  refine NN (rM [0,1,2,3,4,5,6,7,8,9,10,12,13,14,15,16,17,18,19,20,21,22,23,24,25,26,27,11,28,29,30,31,32,33,34,35,36,37,38,39,40,41,42,43,44,45] 27 [0] ?_)
  refine jR 27 [25,26,27,28,29,30,34,35,40,44,48,52] [(9,v_ 0 (ug L hkt)),(14,v_ 0 (vV L hkt)),(18,v_ 0 (Cb L hkt)),(22,v_ 0 (Cc L hkt)),(26,p_ ⟨[.view 0 (.int .i64 ((obj S.O tk).sec)),.view 0 (.int .i64 ((obj S.O tk).nano))],none,none,none,none⟩ [(∀ F w,(aG (cF S.O L)).h F w->w.cell? ⟨(L.b tk),5,none⟩=some (vI ((obj S.O tk).nano))),(∀ F w,(aG (cF S.O L)).h F w->w.cell? ⟨(L.b tk),4,none⟩=some (vI ((obj S.O tk).sec)))] ⟨fD (by rw [hkt];decide) (rfl),fD (by rw [hkt];decide) (rfl),trivial⟩)] ?_
  refine mL [0] [] (pH (vP (L.b tk))) ?_ (by rintro _ _ ⟨rfl,rfl⟩;rfl)
  rintro _ _ ⟨rfl,rfl⟩
  refine nC [0] [53] [] [] ?_
  refine nC [0] [54] [] [] ?_
  refine nC [0] [] [(0,a_ 1 cb)] [(1,[(12,vI ((obj S.O tk).id))])] ?_
  refine nC [0] [55] [] [] ?_
  refine nC [0] [56] [] [] ?_
  refine nC [0] [] [(0,a_ 1 cb)] [(1,[(2,vI 1)])] ?_
  refine nC [0] [57] [] [] ?_
  refine nC [0] [58] [] [] ?_
  refine nC [0] [] [(0,a_ 1 cb)] [(1,[(6,vI ((obj S.O tk).mode))])] ?_
  refine nC [0] [59] [] [] ?_
  refine nC [0] [60] [] [] ?_
  refine nC [0] [] [(0,a_ 1 cb)] [(1,[(7,vI ((obj S.O tk).uid))])] ?_
  refine nC [0] [61] [] [] ?_
  refine nC [0] [62] [] [] ?_
  refine nC [0] [] [(0,a_ 1 cb)] [(1,[(8,vI ((obj S.O tk).gid))])] ?_
  refine nC [0] [63] [] [] ?_
  refine nC [0] [64] [] [] ?_
  refine aY.last rfl rfl ?_
  refine jC 1 [] [(0,A_ 1 cb 2)] [(1,(Zp S tk))] ?_
  refine NL (ai.np ?_)
  exact RF (.tuple #[]) [0,1,2] (⟨rfl,rfl⟩)
 ·have hkt:(obj S.O tk).kind=2:=hI.kind hlv
  refine af.region (jC 21 [] [(8,a_ 1 cb),(11,a_ 1 cb),(14,a_ 1 cb),(17,a_ 1 cb),(20,A_ 1 cb 2)] [(1,(Wg))] ?_)
  refine NN (af.seq (SR (jK 2 [22] [] ?_)))
  refine NN (CF (af.skip (NX (SR (jK 1 [23] [] ?_)))))
  refine gL [] (dF (L.b tk)) ?_
  rintro _ _ ⟨rfl,rfl⟩
  refine jK 1 [4] [] ?_
  refine NN (rM [0,1,2,3,4,5,6,7,8,9,10,12,13,14,15,16,17,18,19,20,21,22,23,24,25,26,27,11,28,29,30,31,32,33,34,35,36,37,38,39,40,41,42,43,44,45] 27 [0] ?_)
  refine jR 27 [25,26,27,28,29,30,34,35,40,44,48,52] [(9,v_ 0 (ug L hkt)),(14,v_ 0 (vV L hkt)),(18,v_ 0 (Cb L hkt)),(22,v_ 0 (Cc L hkt)),(26,p_ ⟨[.view 0 (.int .i64 ((obj S.O tk).sec)),.view 0 (.int .i64 ((obj S.O tk).nano))],none,none,none,none⟩ [(∀ F w,(aG (cF S.O L)).h F w->w.cell? ⟨(L.b tk),5,none⟩=some (vI ((obj S.O tk).nano))),(∀ F w,(aG (cF S.O L)).h F w->w.cell? ⟨(L.b tk),4,none⟩=some (vI ((obj S.O tk).sec)))] ⟨fD (by rw [hkt];decide) (rfl),fD (by rw [hkt];decide) (rfl),trivial⟩)] ?_
  refine mL [0] [] (pJ (vP (L.b tk))) ?_ (by rintro _ _ ⟨rfl,rfl⟩;rfl)
  rintro _ _ ⟨rfl,rfl⟩
  refine nC [0] [53] [] [] ?_
  refine nC [0] [54] [] [] ?_
  refine nC [0] [] [(0,a_ 1 cb)] [(1,[(12,vI ((obj S.O tk).id))])] ?_
  refine nC [0] [55] [] [] ?_
  refine nC [0] [56] [] [] ?_
  refine nC [0] [] [(0,a_ 1 cb)] [(1,[(2,vI 2)])] ?_
  refine nC [0] [57] [] [] ?_
  refine nC [0] [58] [] [] ?_
  refine nC [0] [] [(0,a_ 1 cb)] [(1,[(6,vI ((obj S.O tk).mode))])] ?_
  refine nC [0] [59] [] [] ?_
  refine nC [0] [60] [] [] ?_
  refine nC [0] [] [(0,a_ 1 cb)] [(1,[(7,vI ((obj S.O tk).uid))])] ?_
  refine nC [0] [61] [] [] ?_
  refine nC [0] [62] [] [] ?_
  refine nC [0] [] [(0,a_ 1 cb)] [(1,[(8,vI ((obj S.O tk).gid))])] ?_
  refine nC [0] [63] [] [] ?_
  refine nC [0] [64] [] [] ?_
  refine aY.last rfl rfl ?_
  refine jC 1 [] [(0,A_ 1 cb 2)] [(1,(Zp S tk))] ?_
  refine NL (ai.np ?_)
  exact RF (.tuple #[]) [0,1,2] (⟨rfl,rfl⟩)
 have hkt:(obj S.O tk).kind=3:=hI.kind hlv
 refine af.region (jC 21 [] [(8,a_ 1 cb),(11,a_ 1 cb),(14,a_ 1 cb),(17,a_ 1 cb),(20,A_ 1 cb 2)] [(1,(Wg))] ?_)
 refine NN (af.seq (SR (jK 2 [22] [] ?_)))
 refine NN (CF (af.skip (NX (SR (jK 1 [23] [] ?_)))))
 refine gL [] (dF (L.b tk)) ?_
 rintro _ _ ⟨rfl,rfl⟩
 refine jK 1 [4] [] ?_
 refine NN (rM [0,1,2,3,4,5,6,7,8,9,10,12,13,14,15,16,17,18,19,20,21,22,23,24,25,26,27,11,28,29,30,31,32,33,34,35,36,37,38,39,40,41,42,43,44,45] 27 [0] ?_)
 refine jR 27 [25,26,27,28,29,30,34,35,40,44,48,52] [(9,v_ 0 (ug L hkt)),(14,v_ 0 (vV L hkt)),(18,v_ 0 (Cb L hkt)),(22,v_ 0 (Cc L hkt)),(26,p_ ⟨[.view 0 (.int .i64 ((obj S.O tk).sec)),.view 0 (.int .i64 ((obj S.O tk).nano))],none,none,none,none⟩ [(∀ F w,(aG (cF S.O L)).h F w->w.cell? ⟨(L.b tk),5,none⟩=some (vI ((obj S.O tk).nano))),(∀ F w,(aG (cF S.O L)).h F w->w.cell? ⟨(L.b tk),4,none⟩=some (vI ((obj S.O tk).sec)))] ⟨fD (by rw [hkt];decide) (rfl),fD (by rw [hkt];decide) (rfl),trivial⟩)] ?_
 refine mL [0] [] (qO (vP (L.b tk))) ?_ (by rintro _ _ ⟨rfl,rfl⟩;rfl)
 rintro _ _ ⟨rfl,rfl⟩
 refine nC [0] [53] [] [] ?_
 refine nC [0] [54] [] [] ?_
 refine nC [0] [] [(0,a_ 1 cb)] [(1,[(12,vI ((obj S.O tk).id))])] ?_
 refine nC [0] [55] [] [] ?_
 refine nC [0] [56] [] [] ?_
 refine nC [0] [] [(0,a_ 1 cb)] [(1,[(2,vI 3)])] ?_
 refine nC [0] [57] [] [] ?_
 refine nC [0] [58] [] [] ?_
 refine nC [0] [] [(0,a_ 1 cb)] [(1,[(6,vI ((obj S.O tk).mode))])] ?_
 refine nC [0] [59] [] [] ?_
 refine nC [0] [60] [] [] ?_
 refine nC [0] [] [(0,a_ 1 cb)] [(1,[(7,vI ((obj S.O tk).uid))])] ?_
 refine nC [0] [61] [] [] ?_
 refine nC [0] [62] [] [] ?_
 refine nC [0] [] [(0,a_ 1 cb)] [(1,[(8,vI ((obj S.O tk).gid))])] ?_
 refine nC [0] [63] [] [] ?_
 refine nC [0] [64] [] [] ?_
 refine aY.last rfl rfl ?_
 refine jC 1 [] [(0,A_ 1 cb 2)] [(1,(Zp S tk))] ?_
 refine NL (ai.np ?_)
 exact RF (.tuple #[]) [0,1,2] (⟨rfl,rfl⟩)
theorem OQ {β:Bs} (S:aI) (L:HL) (f m t:Nat) (hI:Inv S) (cb:Nat) (c:ar) (hC:cR β c) :
    Spec Tryz.prog β 92 #[vP f,vP cb] ((pA f m t L S)++[.blk cb (aK c) 53]) (fun v l=>∃ L2,v=vI (jT S c).1/\l=((pA f m t L2 ((jT S c).2.1))++[.blk cb (aK ((jT S c).2.2)) 53])):=by
 have hX:=hI.hX
 refine SE Tryz.func92 Tryz.ntmps92 (fun R=>?_)
 refine af.seq ?_
 rcases hI.hand c.handle with eF|⟨tk,eF,hlv⟩|⟨tk,eF,hlv⟩
 ·refine af.region (jK 1 [] [] ?_)
  refine NN (af.seq (af.bF (by kernel_rfl) (by kernel_rfl) ?_))
  refine jQ 8 [11,15] [(3,a_ 0 f),(7,a_ 6 cb)] ?_
  refine jU [2] [1,2,0,3,4,5,6,7] (.tuple #[.nilIface,vI 131]) (tI t S.X.cH S.av (bC L S.us) c.handle hC.hw (sF eF)) ?_
  refine jQ 5 [5,6] [] ?_
  refine NQ (NX (SR ?_))
  refine jK 2 [19,20] [] ?_
  refine gL [3,6] (qQ S L hI cb c none (.inl rfl)) ?_
  rintro _ _ ⟨rfl,rfl⟩
  refine NS (jK 2 [4] [] ?_)
  refine NN (af.ret ?_)
  exact RT _ [2,3,4,0,5,6,1,7] (⟨L,by rw [show (jT S c)=(131,S,kO S.O c none) by unfold jT;rw [eF]]<;>exact⟨rfl,rfl⟩⟩)
 ·have hkt:(obj S.O tk).kind=1:=hI.kind hlv
  refine af.region (jK 1 [] [] ?_)
  refine NN (af.seq (af.bF (by kernel_rfl) (by kernel_rfl) ?_))
  refine jQ 8 [11,15] [(3,a_ 0 f),(7,a_ 6 cb)] ?_
  refine jU [2] [1,2,0,3,4,5,6,7] (.tuple #[.iface 87 (vP (L.b tk)),vI 0]) (oe t S.X.cH S.av (bC L S.us) c.handle hC.hw (eV L ⟨tk,1⟩) (mF eF)) ?_
  refine jQ 5 [5,6] [] ?_
  refine NQ (NX (SR ?_))
  refine jK 2 [19,20] [] ?_
  refine gL [3,6] (qQ S L hI cb c (some ⟨tk,1⟩) (.inr (.inl ⟨tk,rfl,hlv⟩))) ?_
  rintro _ _ ⟨rfl,rfl⟩
  refine NS (jK 2 [4] [] ?_)
  refine NN (af.ret ?_)
  exact RT _ [2,3,4,0,5,6,1,7] (⟨L,by rw [show (jT S c)=(0,S,kO S.O c (some ⟨tk,1⟩)) by unfold jT;rw [eF]]<;>exact⟨rfl,rfl⟩⟩)
 have hkt:(obj S.O tk).kind=2:=hI.kind hlv
 refine af.region (jK 1 [] [] ?_)
 refine NN (af.seq (af.bF (by kernel_rfl) (by kernel_rfl) ?_))
 refine jQ 8 [11,15] [(3,a_ 0 f),(7,a_ 6 cb)] ?_
 refine jU [2] [1,2,0,3,4,5,6,7] (.tuple #[.iface 94 (vP (L.b tk)),vI 0]) (oe t S.X.cH S.av (bC L S.us) c.handle hC.hw (eV L ⟨tk,2⟩) (mF eF)) ?_
 refine jQ 5 [5,6] [] ?_
 refine NQ (NX (SR ?_))
 refine jK 2 [19,20] [] ?_
 refine gL [3,6] (qQ S L hI cb c (some ⟨tk,2⟩) (.inr (.inr (.inl ⟨tk,rfl,hlv⟩)))) ?_
 rintro _ _ ⟨rfl,rfl⟩
 refine NS (jK 2 [4] [] ?_)
 refine NN (af.ret ?_)
 exact RT _ [2,3,4,0,5,6,1,7] (⟨L,by rw [show (jT S c)=(0,S,kO S.O c (some ⟨tk,2⟩)) by unfold jT;rw [eF]]<;>exact⟨rfl,rfl⟩⟩)
theorem K1 {β:Bs} (S:aI) (L:HL) (f m t:Nat) (hI:Inv S) (cb:Nat) (c:ar) (hC:cR β c) :
    Spec Tryz.prog β 93 #[vP f,vP cb] ((pA f m t L S)++[.blk cb (aK c) 53]) (fun v l=>∃ L2,v=vI (fI S c).1/\l=((pA f m t L2 ((fI S c).2.1))++[.blk cb (aK ((fI S c).2.2)) 53])):=by
 have hX:=hI.hX
 refine SE Tryz.func93 Tryz.ntmps93 (fun R=>?_)
 refine SR (jK 1 [] [] ?_)
 refine NS (jK 2 [8,9] [] ?_)
 rcases Ea hI.toInv0 c with ⟨e,hnm,hne⟩|⟨tk,hnm,hlv⟩|⟨tk,hnm,hlv⟩|⟨tk,hnm,hlv⟩
 ·refine gL [0,1,2,3,4,5,6] ((by have h:=jH S L f m t hI cb c hC (β:=β);rw [hnm] at h;exact h)) ?_
  rintro _ _ ⟨rfl,rfl⟩
  refine jK 5 [5,6] [] ?_
  refine NS (jK 2 [13,14] [] ?_)
  refine gL [3,6] (qQ S L hI cb c none (.inl rfl)) ?_
  rintro _ _ ⟨rfl,rfl⟩
  refine NS (jK 2 [4] [] ?_)
  refine NN (af.ret ?_)
  exact RT _ [2,3,4,0,5,6,1,7] (⟨L,by rw [show (fI S c)=(e,S,kO S.O c none) by unfold fI;rw [hnm]]<;>exact⟨rfl,rfl⟩⟩)
 ·have hkt:(obj S.O tk).kind=1:=hI.kind hlv
  refine gL [0,1,2,3,4,5,6] ((by have h:=jH S L f m t hI cb c hC (β:=β);rw [hnm] at h;exact h)) ?_
  rintro _ _ ⟨rfl,rfl⟩
  refine jK 5 [5,6] [] ?_
  refine NS (jK 2 [13,14] [] ?_)
  refine gL [3,6] (qQ S L hI cb c (some ⟨tk,1⟩) (.inr (.inl ⟨tk,rfl,hlv⟩))) ?_
  rintro _ _ ⟨rfl,rfl⟩
  refine NS (jK 2 [4] [] ?_)
  refine NN (af.ret ?_)
  exact RT _ [2,3,4,0,5,6,1,7] (⟨L,by rw [show (fI S c)=(0,S,kO S.O c (some ⟨tk,1⟩)) by unfold fI;rw [hnm]]<;>exact⟨rfl,rfl⟩⟩)
 ·have hkt:(obj S.O tk).kind=2:=hI.kind hlv
  refine gL [0,1,2,3,4,5,6] ((by have h:=jH S L f m t hI cb c hC (β:=β);rw [hnm] at h;exact h)) ?_
  rintro _ _ ⟨rfl,rfl⟩
  refine jK 5 [5,6] [] ?_
  refine NS (jK 2 [13,14] [] ?_)
  refine gL [3,6] (qQ S L hI cb c (some ⟨tk,2⟩) (.inr (.inr (.inl ⟨tk,rfl,hlv⟩)))) ?_
  rintro _ _ ⟨rfl,rfl⟩
  refine NS (jK 2 [4] [] ?_)
  refine NN (af.ret ?_)
  exact RT _ [2,3,4,0,5,6,1,7] (⟨L,by rw [show (fI S c)=(0,S,kO S.O c (some ⟨tk,2⟩)) by unfold fI;rw [hnm]]<;>exact⟨rfl,rfl⟩⟩)
 have hkt:(obj S.O tk).kind=3:=hI.kind hlv
 refine gL [0,1,2,3,4,5,6] ((by have h:=jH S L f m t hI cb c hC (β:=β);rw [hnm] at h;exact h)) ?_
 rintro _ _ ⟨rfl,rfl⟩
 refine jK 5 [5,6] [] ?_
 refine NS (jK 2 [13,14] [] ?_)
 refine gL [3,6] (qQ S L hI cb c (some ⟨tk,3⟩) (.inr (.inr (.inr ⟨tk,rfl,hlv⟩)))) ?_
 rintro _ _ ⟨rfl,rfl⟩
 refine NS (jK 2 [4] [] ?_)
 refine NN (af.ret ?_)
 exact RT _ [2,3,4,0,5,6,1,7] (⟨L,by rw [show (fI S c)=(0,S,kO S.O c (some ⟨tk,3⟩)) by unfold fI;rw [hnm]]<;>exact⟨rfl,rfl⟩⟩)
theorem LW {β:Bs} (S:aI) (L:HL) (f m t:Nat) (hI:Inv S) (cb:Nat) (c:ar) (hC:cR β c) :
    Spec Tryz.prog β 94 #[vP f,vP cb] ((pA f m t L S)++[.blk cb (aK c) 53]) (fun v l=>∃ L2,v=vI (fT S c).1/\l=((pA f m t L2 ((fT S c).2.1))++[.blk cb (aK ((fT S c).2.2)) 53])):=by
 have hX:=hI.hX
 refine SE Tryz.func94 Tryz.ntmps94 (fun R=>?_)
 refine af.seq ?_
 rcases hI.hand c.handle with eF|⟨tk,eF,hlv⟩|⟨tk,eF,hlv⟩
 ·refine af.region (jK 1 [] [] ?_)
  refine NN (af.seq (jM [0,1,2,3,4,5,6,7,508,9,10,11,12,513] [0,6] ?_))
  refine jG 8 [0,11,15] [(3,a_ 0 f),(7,a_ 1 cb)] ?_
  refine kL [1,6] [2] (Lm t S.X.cH S.av (bC L S.us) c.handle hC.hw (sF eF)) ?_ (by rintro _ _ ⟨rfl,rfl⟩;kernel_rfl)
  rintro _ _ ⟨rfl,rfl⟩
  refine jG 4 [0,5,18] [] ?_
  refine bZ.last (by kernel_rfl) ?_
  refine jK 1 [6] [] ?_
  refine NL (ai.np (NX (af.seq (SR ?_))))
  refine jK 2 [20] [] ?_
  refine NN (CT (SR (jK 2 [4] [] ?_)))
  refine NN (af.ret (ai.aj ?_))
  exact RT (vI 131) [1,2,0,3,4,5,6,7] (⟨L,by rw [show (fT S c)=(131,S,c) by unfold fT;rw [eF]]<;>exact⟨rfl,rfl⟩⟩)
 ·have hkt:(obj S.O tk).kind=1:=hI.kind hlv
  have hid:=hI.ob _ hlv
  have sU:=hI.PX hlv
  have hdl:=hI.Jq hlv
  have hop:0 < (obj S.O tk).opens/\(obj S.O tk).opens<=1024:=⟨by have h1:=hI.opens _ hlv;have h2:=Ms eF;simp only at h1 h2;omega,(hI.GF hlv).2⟩
  refine af.region (jK 1 [] [] ?_)
  refine NN (af.seq (jM [0,1,2,3,4,5,6,7,508,9,10,11,12,513] [0,6] ?_))
  refine jG 8 [0,11,15] [(3,a_ 0 f),(7,a_ 1 cb)] ?_
  refine bZ.cut (ι:=Unit) (fr':=fun (_:Unit)=>[(0,vP f),(16,.tuple #[.iface 87 (vP (L.b tk)),vI 0])]) (hp':=fun (_:Unit)=>[pT t S.X.cH S.av L (del c.handle S.us),pF f m t S.X,pI m L S.idx,pO S.O L,pD S.O L,pE S.O L,.blk cb (aK c) 53,.abs R]) [1,6] (by kernel_rfl) ?_ rfl (fun _=>by kernel_rfl) ?_
  ·refine gL (f:=130) (args:=#[vP t,vI (c.handle)]) (pre:=[pT t S.X.cH S.av L S.us]) [2] ((by have h:=GD (β:=β) t S.X.cH S.av (bC L S.us) c.handle hC.hw (eV L ⟨tk,1⟩) (mF eF);rw [← Jw] at h;exact h)) ?_
   rintro _ _ ⟨rfl,rfl⟩
   refine NL ?_
   exact MD () [0,16] [0,1,2,3,4,5,6,7]
  rintro _
  refine jG 4 [0,5,18] [] ?_
  refine bZ.last (by kernel_rfl) ?_
  refine jK 1 [6] [] ?_
  refine NL (ai.np (NX (af.seq (SR ?_))))
  refine jK 2 [20] [] ?_
  refine NN (CF (af.skip (NX (SR (jK 1 [22] [] ?_)))))
  refine gL [] (dF (L.b tk)) ?_
  rintro _ _ ⟨rfl,rfl⟩
  refine jK 6 [27,29] [(2,v_ 3 (lX L hkt)),(3,wJ ((obj S.O tk).opens - 1) ((obj S.O tk).opens - 1))] ?_
  refine vW 3 [(5,1),(4,2)] tk 7 (fun o=>{ o with opens:=o.opens - 1 }) hkt (fun ef dh=>?_)
  have lT:=ku dh hkt
  have hf2:(obj ef tk).id=(obj S.O tk).id:=fu aM.id dh rfl
  have hf3:(obj ef tk).data=(obj S.O tk).data:=fu aM.data dh rfl
  refine NS ?_
  have UK:(obj ef tk).opens=(obj S.O tk).opens - 1:=by grind [cU]
  refine jK 2 [30,31] [] ?_
  refine gL [3,1,2] (t6 S.X f m t hX ef L S.idx hI.rise ⟨tk,1⟩ lT (by simp) (by rw [UK];omega) (fun _=>by rw [hf2,hid.1];exact hlv) (by rw [hf2];exact sU) (by rw [hf3];exact hdl)) ?_
  rintro _ _ ⟨rfl,rfl⟩
  refine NS (jK 1 [4] [] ?_)
  refine NN (af.ret ?_)
  exact RT (l:=[pF f m t { S.X with used:=mg ef S.X.used ⟨tk,1⟩ },pI m L (iE ef S.idx ⟨tk,1⟩),pT t S.X.cH S.av L (del c.handle S.us),pO ef L,pD ef L,pE ef L,.blk cb (aK c) 53]) (.int .i64 0) [1,2,3,0,4,5,6,7] (⟨L,by subst dh;rw [show fT S c=(0,_,c) by unfold fT;rw [eF]];exact⟨rfl,rfl⟩⟩)
 have hkt:(obj S.O tk).kind=2:=hI.kind hlv
 have hid:=hI.ob _ hlv
 have sU:=hI.PX hlv
 have hdl:=hI.Jq hlv
 have hop:0 < (obj S.O tk).opens/\(obj S.O tk).opens<=1024:=⟨by have h1:=hI.opens _ hlv;have h2:=Ms eF;simp only at h1 h2;omega,(hI.GF hlv).2⟩
 refine af.region (jK 1 [] [] ?_)
 refine NN (af.seq (jM [0,1,2,3,4,5,6,7,508,9,10,11,12,513] [0,6] ?_))
 refine jG 8 [0,11,15] [(3,a_ 0 f),(7,a_ 1 cb)] ?_
 refine bZ.cut (ι:=Unit) (fr':=fun (_:Unit)=>[(0,vP f),(16,.tuple #[.iface 94 (vP (L.b tk)),vI 0])]) (hp':=fun (_:Unit)=>[pT t S.X.cH S.av L (del c.handle S.us),pF f m t S.X,pI m L S.idx,pO S.O L,pD S.O L,pE S.O L,.blk cb (aK c) 53,.abs R]) [1,6] (by kernel_rfl) ?_ rfl (fun _=>by kernel_rfl) ?_
 ·refine gL (f:=130) (args:=#[vP t,vI (c.handle)]) (pre:=[pT t S.X.cH S.av L S.us]) [2] ((by have h:=GD (β:=β) t S.X.cH S.av (bC L S.us) c.handle hC.hw (eV L ⟨tk,2⟩) (mF eF);rw [← Jw] at h;exact h)) ?_
  rintro _ _ ⟨rfl,rfl⟩
  refine NL ?_
  exact MD () [0,16] [0,1,2,3,4,5,6,7]
 rintro _
 refine jG 4 [0,5,18] [] ?_
 refine bZ.last (by kernel_rfl) ?_
 refine jK 1 [6] [] ?_
 refine NL (ai.np (NX (af.seq (SR ?_))))
 refine jK 2 [20] [] ?_
 refine NN (CF (af.skip (NX (SR (jK 1 [22] [] ?_)))))
 refine gL [] (dF (L.b tk)) ?_
 rintro _ _ ⟨rfl,rfl⟩
 refine jK 6 [27,29] [(2,v_ 3 (lX L hkt)),(3,wJ ((obj S.O tk).opens - 1) ((obj S.O tk).opens - 1))] ?_
 refine vW 3 [(5,1),(4,2)] tk 7 (fun o=>{ o with opens:=o.opens - 1 }) hkt (fun ef dh=>?_)
 have Bg:=ku dh hkt
 have RX:(obj ef tk).id=(obj S.O tk).id:=fu aM.id dh rfl
 have Zk:(obj ef tk).data=(obj S.O tk).data:=fu aM.data dh rfl
 refine NS ?_
 have UK:(obj ef tk).opens=(obj S.O tk).opens - 1:=by grind [cU]
 refine jK 2 [30,31] [] ?_
 refine gL [3,1,2] (t6 S.X f m t hX ef L S.idx hI.rise ⟨tk,2⟩ Bg (by simp) (by rw [UK];omega) (fun _=>by rw [RX,hid.1];exact hlv) (by rw [RX];exact sU) (by rw [Zk];exact hdl)) ?_
 rintro _ _ ⟨rfl,rfl⟩
 refine NS (jK 1 [4] [] ?_)
 refine NN (af.ret ?_)
 exact RT (l:=[pF f m t { S.X with used:=mg ef S.X.used ⟨tk,2⟩ },pI m L (iE ef S.idx ⟨tk,2⟩),pT t S.X.cH S.av L (del c.handle S.us),pO ef L,pD ef L,pE ef L,.blk cb (aK c) 53]) (.int .i64 0) [1,2,3,0,4,5,6,7] (⟨L,by subst dh;rw [show fT S c=(0,_,c) by unfold fT;rw [eF]];exact⟨rfl,rfl⟩⟩)
end
section
open Go.RowKit Go.Maps aX aq
attribute [local irreducible] ak aU af ai aY
abbrev zi1 (S:aI) (c:ar) (L2:HL):=(pO (aD S.O (aJ S.X) (fun _=>(⟨0,c.mode,0,0,0,0,0,0,false,1,[],⟨#[]⟩,[],none⟩:aM))) L2:HP)
theorem H6 {β:Bs} (S:aI) (L:HL) (f m t:Nat) (hI:Inv S) (cb:Nat) (c:ar) (hC:cR β c) :
    Spec Tryz.prog β 91 #[vP f,vP cb] ((pA f m t L S)++[.blk cb (aK c) 53]) (fun v l=>∃ L2,v=vI (br S c).1/\l=((pA f m t L2 ((br S c).2.1))++[.blk cb (aK ((br S c).2.2)) 53])):=by
 have hX:=hI.hX
 refine SE Tryz.func91 Tryz.ntmps91 (fun R=>?_)
 refine af.seq ?_
 rcases hI.hand c.handle with eF|⟨tk,eF,hlv⟩|⟨tk,eF,hlv⟩
 ·refine af.region (jK 1 [] [] ?_)
  refine NN (af.seq (af.bF (by kernel_rfl) (by kernel_rfl) ?_))
  refine jQ 8 [12,16] [(3,a_ 0 f),(7,a_ 6 cb)] ?_
  refine jU [2] [1,2,0,3,4,5,6,7] (.tuple #[.nilIface,vI 131]) (tI t S.X.cH S.av (bC L S.us) c.handle hC.hw (sF eF)) ?_
  refine jQ 5 [5,6] [] ?_
  refine NQ (NX (af.seq (SR ?_)))
  refine jK 2 [21] [] ?_
  refine NN (CT (SR (jK 2 [4] [] ?_)))
  refine NN (af.ret (ai.aj ?_))
  exact RT _ [0,1,2,3,4,5,6,7] (⟨L,by rw [show (br S c)=(131,S,c) by unfold br;rw [eF]]<;>exact⟨rfl,rfl⟩⟩)
 ·have hkt:(obj S.O tk).kind=1:=hI.kind hlv
  refine af.region (jK 1 [] [] ?_)
  refine NN (af.seq (af.bF (by kernel_rfl) (by kernel_rfl) ?_))
  refine jQ 8 [12,16] [(3,a_ 0 f),(7,a_ 6 cb)] ?_
  refine jU [2] [1,2,0,3,4,5,6,7] (.tuple #[.iface 87 (vP (L.b tk)),vI 0]) (oe t S.X.cH S.av (bC L S.us) c.handle hC.hw (eV L ⟨tk,1⟩) (mF eF)) ?_
  refine jQ 5 [5,6] [] ?_
  refine NQ (NX (af.seq (SR ?_)))
  refine jK 2 [21] [] ?_
  refine NN (CF (af.skip (NX (SR (jK 1 [23] [] ?_)))))
  refine gL [] (dF (L.b tk)) ?_
  rintro _ _ ⟨rfl,rfl⟩
  refine jK 1 [7] [] ?_
  refine NN (af.seq (af.block (SR ?_)))
  refine jK 5 [30] [(3,v_ 3 (rS L hkt))] ?_
  refine ak.lG 30 (obj S.O tk).gone (fun _=>by kernel_rfl) (fun lC=>?_) (fun lC=>?_)
  ·refine jK 1 [31] [] ?_
   refine gL [] (pH (vP (L.b tk))) ?_
   rintro _ _ ⟨rfl,rfl⟩
   refine jK 3 [25] [] ?_
   refine NN (CF (SR (jK 4 [39] [(3,a_ 6 cb)] ?_)))
   refine gL [] (iy (c.mode) 4095) ?_
   rintro _ _ ⟨rfl,rfl⟩
   refine jK 2 [35] [] ?_
   refine NN (cN (0<=c.mode/\c.mode<=4095) (fun nN=>?_) (fun nN=>?_))
   ·refine SR (jK 1 [4] [] ?_)
    refine NN (af.ret (ai.au (ai.aj ?_)))
    exact RT _ [0,1,2,3,4,5,6,7] (⟨L,by rw [show (br S c)=(120,S,c) by unfold br;rw [eF];exact (if_neg (fun h=>absurd h.2 (by simp))).trans (if_neg nN)]<;>exact⟨rfl,rfl⟩⟩)
   refine SR (jK 4 [46] [(3,a_ 6 cb)] ?_)
   refine gL [] (iy (c.uid) 2147483647) ?_
   rintro _ _ ⟨rfl,rfl⟩
   refine jK 2 [49] [] ?_
   refine sN 49 (0<=c.uid/\c.uid<=2147483647) (fun wV=>?_) (fun wV=>?_)
   ·refine jK 8 [42] [] ?_
    refine NN (CT (SR (jK 1 [4] [] ?_)))
    refine NN (af.ret (ai.au (ai.aj ?_)))
    exact RT _ [0,1,2,3,4,5,6,7] (⟨L,by rw [show (br S c)=(11,S,c) by unfold br;rw [eF];exact (if_neg (fun h=>absurd h.2 (by simp))).trans ((if_pos nN).trans (if_neg (fun h=>wV h.1)))]<;>exact⟨rfl,rfl⟩⟩)
   refine jK 4 [53] [(3,a_ 6 cb)] ?_
   refine gL [] (iy (c.gid) 2147483647) ?_
   rintro _ _ ⟨rfl,rfl⟩
   refine jK 3 [42] [] ?_
   refine NN (cN (0<=c.gid/\c.gid<=2147483647) (fun iA=>?_) (fun iA=>?_))
   ·refine SR (jK 1 [4] [] ?_)
    refine NN (af.ret (ai.au (ai.aj ?_)))
    exact RT _ [0,1,2,3,4,5,6,7] (⟨L,by rw [show (br S c)=(11,S,c) by unfold br;rw [eF];exact (if_neg (fun h=>absurd h.2 (by simp))).trans ((if_pos nN).trans (if_neg (fun h=>iA h.2)))]<;>exact⟨rfl,rfl⟩⟩)
   refine SR (jK 4 [61] [(3,A_ 6 cb 2)] ?_)
   refine gL [] (jA c.sec c.nano) ?_
   rintro _ _ ⟨rfl,rfl⟩
   refine jK 2 [57] [] ?_
   refine NN (cN (dw c.sec c.nano) (fun vo=>?_) (fun vo=>?_))
   ·refine SR (jK 1 [4] [] ?_)
    refine NN (af.ret (ai.au (ai.aj ?_)))
    exact RT _ [0,1,2,3,4,5,6,7] (⟨L,by rw [show (br S c)=(20,S,c) by unfold br;rw [eF];exact (if_neg (fun h=>absurd h.2 (by simp))).trans ((if_pos nN).trans ((if_pos ⟨wV,iA⟩).trans (if_neg vo)))]<;>exact⟨rfl,rfl⟩⟩)
   refine af.skip (ai.ax (NX (af.seq ?_)))
   skip
   refine af.mem (eu:=[.blk f [vI (S.X.cN),vI (S.X.cB),vI (S.X.cH),vI (S.X.cS),vI (S.X.cZ),.map (some m),vP t,vI (S.X.last),vI (S.X.ah),vI (S.X.used)] 84,.abs (bq Tryz.prog 3 m (bB (bC L S.idx)) S.idx.length),.abs (dJ 140 t S.X.cH S.av (bC L S.us)),.abs (aG (mY (cF S.O L) tk cO.none)),.abs (aG (bV S.O L)),.abs (aG (dM S.O L)),.blk cb (aK c) 53,.abs R,.blk (L.b tk) [vI ((obj S.O tk).id),vI ((obj S.O tk).mode),vI ((obj S.O tk).uid),vI ((obj S.O tk).gid),vI ((obj S.O tk).sec),vI ((obj S.O tk).nano),vI ((obj S.O tk).links),vI ((obj S.O tk).opens),.bool (obj S.O tk).gone,.slice (L.dA tk) ((obj S.O tk).data.length) ((L.dC tk))] 90]) (fun w hS=>hS.Ad (i:=3) (k:=tk) rfl (by rw [hkt];decide) (jB (hkt)) (by rw [hkt];rfl)) ?_
   refine rM (List.range 32) 22 [6] ?_
   refine jR 22 [65,66,67,71,75,79,83,85] [(7,a_ 0 cb),(11,a_ 0 cb),(15,a_ 0 cb),(19,A_ 0 cb 2)] ?_
   refine nC [6] [] [(0,a_ 8 (L.b tk))] [(8,[(1,vI (c.mode))])] ?_
   refine nC [6] [86] [] [] ?_
   refine nC [6] [87] [] [] ?_
   refine nC [6] [] [(0,a_ 8 (L.b tk))] [(8,[(2,vI (c.uid))])] ?_
   refine nC [6] [88] [] [] ?_
   refine nC [6] [89] [] [] ?_
   refine nC [6] [] [(0,a_ 8 (L.b tk))] [(8,[(3,vI (c.gid))])] ?_
   refine nC [6] [90] [] [] ?_
   refine nC [6] [91] [] [] ?_
   refine aY.last rfl rfl ?_
   refine jC 1 [] [(0,A_ 8 (L.b tk) 2)] [(8,[(4,vI (c.sec)),(5,vI (c.nano))])] ?_
   refine NL (ai.np (NX (SR ?_)))
   refine ak.mem (eu:=[.abs (aG (cF (aD S.O tk (fun o=>{ o with mode:=c.mode,uid:=c.uid,gid:=c.gid,sec:=c.sec,nano:=c.nano })) L)),.blk f [vI (S.X.cN),vI (S.X.cB),vI (S.X.cH),vI (S.X.cS),vI (S.X.cZ),.map (some m),vP t,vI (S.X.last),vI (S.X.ah),vI (S.X.used)] 84,.abs (bq Tryz.prog 3 m (bB (bC L S.idx)) S.idx.length),.abs (dJ 140 t S.X.cH S.av (bC L S.us)),.abs (aG (bV (aD S.O tk (fun o=>{ o with mode:=c.mode,uid:=c.uid,gid:=c.gid,sec:=c.sec,nano:=c.nano })) L)),.abs (aG (dM (aD S.O tk (fun o=>{ o with mode:=c.mode,uid:=c.uid,gid:=c.gid,sec:=c.sec,nano:=c.nano })) L)),.blk cb (aK c) 53,.abs R]) (fun w hS=>by have h:=hS.BH (O:=S.O) (L:=L) (i:=3) (j:=8) (idx:=[0,1,2,4,5,6,7]) (k:=tk) (f:=(fun o=>{ o with mode:=c.mode,uid:=c.uid,gid:=c.gid,sec:=c.sec,nano:=c.nano })) rfl (fun _ hx=>qY hx) rfl (by kernel_rfl) rfl (by grind) ((jB (o:=(fun o=>{ o with mode:=c.mode,uid:=c.uid,gid:=c.gid,sec:=c.sec,nano:=c.nano }) (obj S.O tk)) (hkt)).trans rfl) (by grind [ql,obj]);grind [pW,pX]) ?_
   have lT:(obj (aD S.O tk (fun o=>{ o with mode:=c.mode,uid:=c.uid,gid:=c.gid,sec:=c.sec,nano:=c.nano })) tk).kind=1:=(lf (f:=(fun o=>{ o with mode:=c.mode,uid:=c.uid,gid:=c.gid,sec:=c.sec,nano:=c.nano })) (fun _=>rfl)).trans (hkt)
   generalize dh:(aD S.O tk (fun o=>{ o with mode:=c.mode,uid:=c.uid,gid:=c.gid,sec:=c.sec,nano:=c.nano }))=ef at lT ⊢
   refine jK 1 [4] [] ?_
   refine NN (af.ret ?_)
   exact RT _ [1,2,3,0,4,5,6,7] (⟨L,by subst dh;rw [show (br S c)=(0,{ S with O:=aD S.O tk (fun o=>{ o with mode:=c.mode,uid:=c.uid,gid:=c.gid,sec:=c.sec,nano:=c.nano }) },c) by unfold br;rw [eF];exact (if_neg (fun h=>absurd h.2 (by simp))).trans ((if_pos nN).trans ((if_pos ⟨wV,iA⟩).trans (if_pos vo)))]<;>exact⟨rfl,rfl⟩⟩)
  refine jK 5 [25] [] ?_
  refine NN (CF (SR (jK 4 [39] [(3,a_ 6 cb)] ?_)))
  refine gL [] (iy (c.mode) 4095) ?_
  rintro _ _ ⟨rfl,rfl⟩
  refine jK 2 [35] [] ?_
  refine NN (cN (0<=c.mode/\c.mode<=4095) (fun nN=>?_) (fun nN=>?_))
  ·refine SR (jK 1 [4] [] ?_)
   refine NN (af.ret (ai.au (ai.aj ?_)))
   exact RT _ [0,1,2,3,4,5,6,7] (⟨L,by rw [show (br S c)=(120,S,c) by unfold br;rw [eF];exact (if_neg (fun h=>absurd h.2 (by simp))).trans (if_neg nN)]<;>exact⟨rfl,rfl⟩⟩)
  refine SR (jK 4 [46] [(3,a_ 6 cb)] ?_)
  refine gL [] (iy (c.uid) 2147483647) ?_
  rintro _ _ ⟨rfl,rfl⟩
  refine jK 2 [49] [] ?_
  refine sN 49 (0<=c.uid/\c.uid<=2147483647) (fun wV=>?_) (fun wV=>?_)
  ·refine jK 8 [42] [] ?_
   refine NN (CT (SR (jK 1 [4] [] ?_)))
   refine NN (af.ret (ai.au (ai.aj ?_)))
   exact RT _ [0,1,2,3,4,5,6,7] (⟨L,by rw [show (br S c)=(11,S,c) by unfold br;rw [eF];exact (if_neg (fun h=>absurd h.2 (by simp))).trans ((if_pos nN).trans (if_neg (fun h=>wV h.1)))]<;>exact⟨rfl,rfl⟩⟩)
  refine jK 4 [53] [(3,a_ 6 cb)] ?_
  refine gL [] (iy (c.gid) 2147483647) ?_
  rintro _ _ ⟨rfl,rfl⟩
  refine jK 3 [42] [] ?_
  refine NN (cN (0<=c.gid/\c.gid<=2147483647) (fun iA=>?_) (fun iA=>?_))
  ·refine SR (jK 1 [4] [] ?_)
   refine NN (af.ret (ai.au (ai.aj ?_)))
   exact RT _ [0,1,2,3,4,5,6,7] (⟨L,by rw [show (br S c)=(11,S,c) by unfold br;rw [eF];exact (if_neg (fun h=>absurd h.2 (by simp))).trans ((if_pos nN).trans (if_neg (fun h=>iA h.2)))]<;>exact⟨rfl,rfl⟩⟩)
  refine SR (jK 4 [61] [(3,A_ 6 cb 2)] ?_)
  refine gL [] (jA c.sec c.nano) ?_
  rintro _ _ ⟨rfl,rfl⟩
  refine jK 2 [57] [] ?_
  refine NN (cN (dw c.sec c.nano) (fun vo=>?_) (fun vo=>?_))
  ·refine SR (jK 1 [4] [] ?_)
   refine NN (af.ret (ai.au (ai.aj ?_)))
   exact RT _ [0,1,2,3,4,5,6,7] (⟨L,by rw [show (br S c)=(20,S,c) by unfold br;rw [eF];exact (if_neg (fun h=>absurd h.2 (by simp))).trans ((if_pos nN).trans ((if_pos ⟨wV,iA⟩).trans (if_neg vo)))]<;>exact⟨rfl,rfl⟩⟩)
  refine af.skip (ai.ax (NX (af.seq ?_)))
  skip
  refine af.mem (eu:=[.blk f [vI (S.X.cN),vI (S.X.cB),vI (S.X.cH),vI (S.X.cS),vI (S.X.cZ),.map (some m),vP t,vI (S.X.last),vI (S.X.ah),vI (S.X.used)] 84,.abs (bq Tryz.prog 3 m (bB (bC L S.idx)) S.idx.length),.abs (dJ 140 t S.X.cH S.av (bC L S.us)),.abs (aG (mY (cF S.O L) tk cO.none)),.abs (aG (bV S.O L)),.abs (aG (dM S.O L)),.blk cb (aK c) 53,.abs R,.blk (L.b tk) [vI ((obj S.O tk).id),vI ((obj S.O tk).mode),vI ((obj S.O tk).uid),vI ((obj S.O tk).gid),vI ((obj S.O tk).sec),vI ((obj S.O tk).nano),vI ((obj S.O tk).links),vI ((obj S.O tk).opens),.bool (obj S.O tk).gone,.slice (L.dA tk) ((obj S.O tk).data.length) ((L.dC tk))] 90]) (fun w hS=>hS.Ad (i:=3) (k:=tk) rfl (by rw [hkt];decide) (jB (hkt)) (by rw [hkt];rfl)) ?_
  refine rM (List.range 32) 22 [6] ?_
  refine jR 22 [65,66,67,71,75,79,83,85] [(7,a_ 0 cb),(11,a_ 0 cb),(15,a_ 0 cb),(19,A_ 0 cb 2)] ?_
  refine nC [6] [] [(0,a_ 8 (L.b tk))] [(8,[(1,vI (c.mode))])] ?_
  refine nC [6] [86] [] [] ?_
  refine nC [6] [87] [] [] ?_
  refine nC [6] [] [(0,a_ 8 (L.b tk))] [(8,[(2,vI (c.uid))])] ?_
  refine nC [6] [88] [] [] ?_
  refine nC [6] [89] [] [] ?_
  refine nC [6] [] [(0,a_ 8 (L.b tk))] [(8,[(3,vI (c.gid))])] ?_
  refine nC [6] [90] [] [] ?_
  refine nC [6] [91] [] [] ?_
  refine aY.last rfl rfl ?_
  refine jC 1 [] [(0,A_ 8 (L.b tk) 2)] [(8,[(4,vI (c.sec)),(5,vI (c.nano))])] ?_
  refine NL (ai.np (NX (SR ?_)))
  refine ak.mem (eu:=[.abs (aG (cF (aD S.O tk (fun o=>{ o with mode:=c.mode,uid:=c.uid,gid:=c.gid,sec:=c.sec,nano:=c.nano })) L)),.blk f [vI (S.X.cN),vI (S.X.cB),vI (S.X.cH),vI (S.X.cS),vI (S.X.cZ),.map (some m),vP t,vI (S.X.last),vI (S.X.ah),vI (S.X.used)] 84,.abs (bq Tryz.prog 3 m (bB (bC L S.idx)) S.idx.length),.abs (dJ 140 t S.X.cH S.av (bC L S.us)),.abs (aG (bV (aD S.O tk (fun o=>{ o with mode:=c.mode,uid:=c.uid,gid:=c.gid,sec:=c.sec,nano:=c.nano })) L)),.abs (aG (dM (aD S.O tk (fun o=>{ o with mode:=c.mode,uid:=c.uid,gid:=c.gid,sec:=c.sec,nano:=c.nano })) L)),.blk cb (aK c) 53,.abs R]) (fun w hS=>by have h:=hS.BH (O:=S.O) (L:=L) (i:=3) (j:=8) (idx:=[0,1,2,4,5,6,7]) (k:=tk) (f:=(fun o=>{ o with mode:=c.mode,uid:=c.uid,gid:=c.gid,sec:=c.sec,nano:=c.nano })) rfl (fun _ hx=>qY hx) rfl (by kernel_rfl) rfl (by grind) ((jB (o:=(fun o=>{ o with mode:=c.mode,uid:=c.uid,gid:=c.gid,sec:=c.sec,nano:=c.nano }) (obj S.O tk)) (hkt)).trans rfl) (by grind [ql,obj]);grind [pW,pX]) ?_
  have pK:(obj (aD S.O tk (fun o=>{ o with mode:=c.mode,uid:=c.uid,gid:=c.gid,sec:=c.sec,nano:=c.nano })) tk).kind=1:=(lf (f:=(fun o=>{ o with mode:=c.mode,uid:=c.uid,gid:=c.gid,sec:=c.sec,nano:=c.nano })) (fun _=>rfl)).trans (hkt)
  generalize dh:(aD S.O tk (fun o=>{ o with mode:=c.mode,uid:=c.uid,gid:=c.gid,sec:=c.sec,nano:=c.nano }))=ef at pK ⊢
  refine jK 1 [4] [] ?_
  refine NN (af.ret ?_)
  exact RT _ [1,2,3,0,4,5,6,7] (⟨L,by subst dh;rw [show (br S c)=(0,{ S with O:=aD S.O tk (fun o=>{ o with mode:=c.mode,uid:=c.uid,gid:=c.gid,sec:=c.sec,nano:=c.nano }) },c) by unfold br;rw [eF];exact (if_neg (fun h=>absurd h.2 (by simp))).trans ((if_pos nN).trans ((if_pos ⟨wV,iA⟩).trans (if_pos vo)))]<;>exact⟨rfl,rfl⟩⟩)
 have hkt:(obj S.O tk).kind=2:=hI.kind hlv
 refine af.region (jK 1 [] [] ?_)
 refine NN (af.seq (af.bF (by kernel_rfl) (by kernel_rfl) ?_))
 refine jQ 8 [12,16] [(3,a_ 0 f),(7,a_ 6 cb)] ?_
 refine jU [2] [1,2,0,3,4,5,6,7] (.tuple #[.iface 94 (vP (L.b tk)),vI 0]) (oe t S.X.cH S.av (bC L S.us) c.handle hC.hw (eV L ⟨tk,2⟩) (mF eF)) ?_
 refine jQ 5 [5,6] [] ?_
 refine NQ (NX (af.seq (SR ?_)))
 refine jK 2 [21] [] ?_
 refine NN (CF (af.skip (NX (SR (jK 1 [23] [] ?_)))))
 refine gL [] (dF (L.b tk)) ?_
 rintro _ _ ⟨rfl,rfl⟩
 refine jK 1 [7] [] ?_
 refine NN (af.seq (af.block (SR ?_)))
 refine jK 5 [30] [(3,v_ 3 (rS L hkt))] ?_
 refine ak.lG 30 (obj S.O tk).gone (fun _=>by kernel_rfl) (fun lC=>?_) (fun lC=>?_)
 ·refine jK 1 [31] [] ?_
  refine gL [] (pJ (vP (L.b tk))) ?_
  rintro _ _ ⟨rfl,rfl⟩
  refine jK 3 [25] [] ?_
  refine NN (CT (SR (jK 1 [4] [] ?_)))
  refine NN (af.ret (ai.au (ai.aj ?_)))
  exact RT _ [0,1,2,3,4,5,6,7] (⟨L,by rw [show (br S c)=(170,S,c) by grind [br]]<;>exact⟨rfl,rfl⟩⟩)
 refine jK 5 [25] [] ?_
 refine NN (CF (SR (jK 4 [39] [(3,a_ 6 cb)] ?_)))
 refine gL [] (iy (c.mode) 4095) ?_
 rintro _ _ ⟨rfl,rfl⟩
 refine jK 2 [35] [] ?_
 refine NN (cN (0<=c.mode/\c.mode<=4095) (fun nN=>?_) (fun nN=>?_))
 ·refine SR (jK 1 [4] [] ?_)
  refine NN (af.ret (ai.au (ai.aj ?_)))
  exact RT _ [0,1,2,3,4,5,6,7] (⟨L,by rw [show (br S c)=(120,S,c) by unfold br;rw [eF];exact (if_neg (fun h=>absurd h.1 (by rw [lC];decide))).trans (if_neg nN)]<;>exact⟨rfl,rfl⟩⟩)
 refine SR (jK 4 [46] [(3,a_ 6 cb)] ?_)
 refine gL [] (iy (c.uid) 2147483647) ?_
 rintro _ _ ⟨rfl,rfl⟩
 refine jK 2 [49] [] ?_
 refine sN 49 (0<=c.uid/\c.uid<=2147483647) (fun wV=>?_) (fun wV=>?_)
 ·refine jK 8 [42] [] ?_
  refine NN (CT (SR (jK 1 [4] [] ?_)))
  refine NN (af.ret (ai.au (ai.aj ?_)))
  exact RT _ [0,1,2,3,4,5,6,7] (⟨L,by rw [show (br S c)=(11,S,c) by unfold br;rw [eF];exact (if_neg (fun h=>absurd h.1 (by rw [lC];decide))).trans ((if_pos nN).trans (if_neg (fun h=>wV h.1)))]<;>exact⟨rfl,rfl⟩⟩)
 refine jK 4 [53] [(3,a_ 6 cb)] ?_
 refine gL [] (iy (c.gid) 2147483647) ?_
 rintro _ _ ⟨rfl,rfl⟩
 refine jK 3 [42] [] ?_
 refine NN (cN (0<=c.gid/\c.gid<=2147483647) (fun iA=>?_) (fun iA=>?_))
 ·refine SR (jK 1 [4] [] ?_)
  refine NN (af.ret (ai.au (ai.aj ?_)))
  exact RT _ [0,1,2,3,4,5,6,7] (⟨L,by rw [show (br S c)=(11,S,c) by unfold br;rw [eF];exact (if_neg (fun h=>absurd h.1 (by rw [lC];decide))).trans ((if_pos nN).trans (if_neg (fun h=>iA h.2)))]<;>exact⟨rfl,rfl⟩⟩)
 refine SR (jK 4 [61] [(3,A_ 6 cb 2)] ?_)
 refine gL [] (jA c.sec c.nano) ?_
 rintro _ _ ⟨rfl,rfl⟩
 refine jK 2 [57] [] ?_
 refine NN (cN (dw c.sec c.nano) (fun vo=>?_) (fun vo=>?_))
 ·refine SR (jK 1 [4] [] ?_)
  refine NN (af.ret (ai.au (ai.aj ?_)))
  exact RT _ [0,1,2,3,4,5,6,7] (⟨L,by rw [show (br S c)=(20,S,c) by unfold br;rw [eF];exact (if_neg (fun h=>absurd h.1 (by rw [lC];decide))).trans ((if_pos nN).trans ((if_pos ⟨wV,iA⟩).trans (if_neg vo)))]<;>exact⟨rfl,rfl⟩⟩)
 refine af.skip (ai.ax (NX (af.seq ?_)))
 skip
 refine af.mem (eu:=[.blk f [vI (S.X.cN),vI (S.X.cB),vI (S.X.cH),vI (S.X.cS),vI (S.X.cZ),.map (some m),vP t,vI (S.X.last),vI (S.X.ah),vI (S.X.used)] 84,.abs (bq Tryz.prog 3 m (bB (bC L S.idx)) S.idx.length),.abs (dJ 140 t S.X.cH S.av (bC L S.us)),.abs (aG (mY (cF S.O L) tk cO.none)),.abs (aG (bV S.O L)),.abs (aG (dM S.O L)),.blk cb (aK c) 53,.abs R,.blk (L.b tk) [vI ((obj S.O tk).id),vI ((obj S.O tk).mode),vI ((obj S.O tk).uid),vI ((obj S.O tk).gid),vI ((obj S.O tk).sec),vI ((obj S.O tk).nano),vI ((obj S.O tk).links),vI ((obj S.O tk).opens),.bool (obj S.O tk).gone,.map (some (L.m tk)),(DX L (obj S.O tk).up)] 97]) (fun w hS=>hS.Ad (i:=3) (k:=tk) rfl (by rw [hkt];decide) (nW (hkt)) (by rw [hkt];rfl)) ?_
 refine rM (List.range 32) 22 [6] ?_
 refine jR 22 [65,66,67,71,75,79,83,85] [(7,a_ 0 cb),(11,a_ 0 cb),(15,a_ 0 cb),(19,A_ 0 cb 2)] ?_
 refine nC [6] [] [(0,a_ 8 (L.b tk))] [(8,[(1,vI (c.mode))])] ?_
 refine nC [6] [86] [] [] ?_
 refine nC [6] [87] [] [] ?_
 refine nC [6] [] [(0,a_ 8 (L.b tk))] [(8,[(2,vI (c.uid))])] ?_
 refine nC [6] [88] [] [] ?_
 refine nC [6] [89] [] [] ?_
 refine nC [6] [] [(0,a_ 8 (L.b tk))] [(8,[(3,vI (c.gid))])] ?_
 refine nC [6] [90] [] [] ?_
 refine nC [6] [91] [] [] ?_
 refine aY.last rfl rfl ?_
 refine jC 1 [] [(0,A_ 8 (L.b tk) 2)] [(8,[(4,vI (c.sec)),(5,vI (c.nano))])] ?_
 refine NL (ai.np (NX (SR ?_)))
 refine ak.mem (eu:=[.abs (aG (cF (aD S.O tk (fun o=>{ o with mode:=c.mode,uid:=c.uid,gid:=c.gid,sec:=c.sec,nano:=c.nano })) L)),.blk f [vI (S.X.cN),vI (S.X.cB),vI (S.X.cH),vI (S.X.cS),vI (S.X.cZ),.map (some m),vP t,vI (S.X.last),vI (S.X.ah),vI (S.X.used)] 84,.abs (bq Tryz.prog 3 m (bB (bC L S.idx)) S.idx.length),.abs (dJ 140 t S.X.cH S.av (bC L S.us)),.abs (aG (bV (aD S.O tk (fun o=>{ o with mode:=c.mode,uid:=c.uid,gid:=c.gid,sec:=c.sec,nano:=c.nano })) L)),.abs (aG (dM (aD S.O tk (fun o=>{ o with mode:=c.mode,uid:=c.uid,gid:=c.gid,sec:=c.sec,nano:=c.nano })) L)),.blk cb (aK c) 53,.abs R]) (fun w hS=>by have h:=hS.BH (O:=S.O) (L:=L) (i:=3) (j:=8) (idx:=[0,1,2,4,5,6,7]) (k:=tk) (f:=(fun o=>{ o with mode:=c.mode,uid:=c.uid,gid:=c.gid,sec:=c.sec,nano:=c.nano })) rfl (fun _ hx=>qY hx) rfl (by kernel_rfl) rfl (by grind) ((nW (o:=(fun o=>{ o with mode:=c.mode,uid:=c.uid,gid:=c.gid,sec:=c.sec,nano:=c.nano }) (obj S.O tk)) (hkt)).trans rfl) (by grind [ql,obj]);grind [pW,pX]) ?_
 have F6:(obj (aD S.O tk (fun o=>{ o with mode:=c.mode,uid:=c.uid,gid:=c.gid,sec:=c.sec,nano:=c.nano })) tk).kind=2:=(lf (f:=(fun o=>{ o with mode:=c.mode,uid:=c.uid,gid:=c.gid,sec:=c.sec,nano:=c.nano })) (fun _=>rfl)).trans (hkt)
 generalize dh:(aD S.O tk (fun o=>{ o with mode:=c.mode,uid:=c.uid,gid:=c.gid,sec:=c.sec,nano:=c.nano }))=ef at F6 ⊢
 refine jK 1 [4] [] ?_
 refine NN (af.ret ?_)
 exact RT _ [1,2,3,0,4,5,6,7] (⟨L,by subst dh;rw [show (br S c)=(0,{ S with O:=aD S.O tk (fun o=>{ o with mode:=c.mode,uid:=c.uid,gid:=c.gid,sec:=c.sec,nano:=c.nano }) },c) by unfold br;rw [eF];exact (if_neg (fun h=>absurd h.1 (by rw [lC];decide))).trans ((if_pos nN).trans ((if_pos ⟨wV,iA⟩).trans (if_pos vo)))]<;>exact⟨rfl,rfl⟩⟩)
theorem K2 {β:Bs} (S:aI) (L:HL) (f m t:Nat) (hI:Inv S) (cb:Nat) (c:ar) (hC:cR β c) :
    Spec Tryz.prog β 86 #[vP f,vP cb] ((pA f m t L S)++[.blk cb (aK c) 53]) (fun v l=>∃ L2,v=vI (cI S c).1/\l=((pA f m t L2 ((cI S c).2.1))++[.blk cb (aK ((cI S c).2.2)) 53])):=by
 have hX:=hI.hX
 refine SE Tryz.func86 Tryz.ntmps86 (fun R=>?_)
 refine SR (jK 1 [] [] ?_)
 refine NN (af.seq (af.bF (by kernel_rfl) (by kernel_rfl) ?_))
 refine jQ 9 [10,14,18] [(4,a_ 6 cb),(8,a_ 6 cb)] ?_
 rcases iw hI.toInv0 c.handle c.name 192 with ⟨e,hab,hne⟩|⟨d,hab,hd,mM,j3,eF⟩
 ·refine jU [0,2,3] [0,3,1,2,4,5,6,7] (.tuple #[.pointer none,vI (e)]) ((by have h:=fL S L f m t hI c.handle hC.hw c.name hC.nm 192 (β:=β);rw [hab] at h;exact h)) ?_
  refine jQ 5 [5,6] [] ?_
  refine NQ (NX (af.seq (SR ?_)))
  refine jK 2 [23] [] ?_
  refine NN (cN ((e:Int)=(0:Int)) (fun h23=>?_) (fun h23=>?_))
  ·refine SR (jK 2 [4] [] ?_)
   refine NN (af.ret (ai.aj ?_))
   exact RT (vI (e)) [0,1,2,3,4,5,6,7] (⟨L,by rw [show (cI S c)=(e,S,c) by unfold cI;rw [hab]]<;>exact⟨rfl,rfl⟩⟩)
  exact absurd h23 hne
 have hkd:(obj S.O d).kind=2:=hI.kind hd
 refine jU [0,2,3] [0,3,1,2,4,5,6,7] (.tuple #[vP (L.b d),vI 0]) ((by have h:=fL S L f m t hI c.handle hC.hw c.name hC.nm 192 (β:=β);rw [hab] at h;exact h)) ?_
 refine jQ 5 [5,6] [] ?_
 refine NQ (NX (af.seq (SR ?_)))
 refine jK 2 [23] [] ?_
 refine NN (CF (af.skip (NX (af.seq (SR (jK 4 [28] [(3,a_ 6 cb)] ?_))))))
 refine gL [] (iy (c.mode) 4095) ?_
 rintro _ _ ⟨rfl,rfl⟩
 refine jK 1 [30] [] ?_
 refine NN (cN (0<=c.mode/\c.mode<=4095) (fun lC=>?_) (fun lC=>?_))
 ·refine SR (jK 1 [4] [] ?_)
  refine NN (af.ret (ai.aj ?_))
  exact RT (vI 120) [0,1,2,3,4,5,6,7] (⟨L,by rw [show (cI S c)=(120,S,c) by unfold cI;rw [hab];exact if_neg lC]<;>exact⟨rfl,rfl⟩⟩)
 refine af.skip (NX (af.seq (SR (jK 6 [31,32,36] [(5,a_ 6 cb)] ?_))))
 refine gL [0,1,5,3] (Bp S L f m t hI d hd c.name hC.nm) ?_
 rintro _ _ ⟨rfl,rfl⟩
 refine jK 1 [6] [] ?_
 refine NS (jK 2 [39] [] ?_)
 refine NN (cN (((dQ S.X S.O S.idx d c.name):Int)=(0:Int)) (fun h0=>?_) (fun h0=>?_))
 ·refine SR (jK 2 [4] [] ?_)
  refine NN (af.ret (ai.aj ?_))
  exact RT (vI ((dQ S.X S.O S.idx d c.name))) [0,1,4,3,5,2,6,7] (⟨L,by rw [show (cI S c)=(dQ S.X S.O S.idx d c.name,S,c) by unfold cI;rw [hab];exact (if_pos lC).trans (if_neg h0)]<;>exact⟨rfl,rfl⟩⟩)
 have hno:=tO h0
 refine af.skip (NX (SR (jN 8 [7] (fun b4=>[(3,a_ 6 cb)]) (fun _=>[]) (fun b4=>.blk b4 [vI 0,vI (c.mode),vI 0,vI 0,vI 0,vI 0,vI 0,vI 0,.bool false,.slice none (0) (0)] 90) (fun b4=>?_))))
 refine NN (af.seq (af.seq ?_))
 rcases Int.lt_or_le (S.us.length:Int) S.X.cH with CJ|CJ
 ·refine af.region (jK 4 [49,50,52] [] ?_)
  obtain⟨L2,hL2⟩:∃ L2:HL,L2=L.put (aJ S.X) b4 0 none 0:=⟨_,rfl⟩
  have hfr:=hI.toInv0.fresh
  refine ak.mem (fun w hS=>hS.yA hL2 hfr (o:=(⟨0,c.mode,0,0,0,0,0,0,false,1,[],⟨#[]⟩,[],none⟩:aM)) (i:=3) (j:=8) (ix:=[0,1,2,4,5,6,7]) rfl rfl (by kernel_rfl) rfl (by show (1:Int)≠0;decide) ((jB (L:=L2) (k:=(aJ S.X)) (o:=(⟨0,c.mode,0,0,0,0,0,0,false,1,[],⟨#[]⟩,[],none⟩:aM)) rfl).trans (by rw [show L2.dA (aJ S.X)=none by rw [hL2];exact if_pos rfl,show L2.dC (aJ S.X)=0 by rw [hL2];exact if_pos rfl];rfl)) rfl) ?_
  refine ak.eG [(3,pE (aD S.O (aJ S.X) (fun _=>(⟨0,c.mode,0,0,0,0,0,0,false,1,[],⟨#[]⟩,[],none⟩:aM))) L2)] (fun w hS=>hS.Ar hL2 hfr (o:=(⟨0,c.mode,0,0,0,0,0,0,false,1,[],⟨#[]⟩,[],none⟩:aM)) (i:=3) rfl (by show (1:Int)≠2;decide)) ?_
  refine ak.mem (fun w hS=>hS.kX (e:=5) (size:=1)) ?_
  refine ak.mem (fun w hS=>hS.Vn hL2 (o:=(⟨0,c.mode,0,0,0,0,0,0,false,1,[],⟨#[]⟩,[],none⟩:aM)) (i:=5) (j:=8) (ix:=[0,1,2,3,4,6,7]) rfl rfl (by kernel_rfl) rfl rfl rfl) ?_
  refine ak.eG [(3,.abs (bq Tryz.prog 3 m (bB (bC L2 S.idx)) S.idx.length)),(5,.abs (dJ 140 t S.X.cH S.av (bC L2 S.us)))] (fun w hS=>by rw [jy hL2 hfr.idx,jy hL2 hfr.us];exact hS) ?_
  refine gL (f:=116) (args:=#[vP f,.iface 87 (vP b4)]) (pre:=[pF f m t S.X,pT t S.X.cH S.av L2 S.us,zi1 S c L2]) [2,5,1] ((by have h:=vX (β:=β) { S with O:=(aD S.O (aJ S.X) (fun _=>(⟨0,c.mode,0,0,0,0,0,0,false,1,[],⟨#[]⟩,[],none⟩:aM))) } L2 f m t ⟨(aJ S.X),1⟩ (by grind [obj,aD,aJ,cU]) (by simp) (by grind [obj,aD,aJ,cU]);rw [sG hL2,jD (S:={ S with O:=(aD S.O (aJ S.X) (fun _=>(⟨0,c.mode,0,0,0,0,0,0,false,1,[],⟨#[]⟩,[],none⟩:aM))) }) (t:=⟨(aJ S.X),1⟩) CJ] at h;exact h)) ?_
  rintro _ _ ⟨rfl,rfl⟩
  refine jC 7 [6] [(5,a_ 6 cb)] [(6,[(12,vI ((aq.least S.us)))])] ?_
  refine NS (jK 2 [59] [] ?_)
  refine NN (CF (af.skip (NX (SR (sl 7 (vP b4) (vP (L2.b (aJ S.X))) (by rw [Jr hL2]) ?_)))))
  refine ak.eG [(3,.abs (aG (bV (aD (aD S.O (aJ S.X) (fun _=>(⟨0,c.mode,0,0,0,0,0,0,false,1,[],⟨#[]⟩,[],none⟩:aM))) (aJ S.X) (fun o=>{ o with opens:=o.opens+1 })) L2))),(5,.abs (aG (dM (aD (aD S.O (aJ S.X) (fun _=>(⟨0,c.mode,0,0,0,0,0,0,false,1,[],⟨#[]⟩,[],none⟩:aM))) (aJ S.X) (fun o=>{ o with opens:=o.opens+1 })) L2)))] (fun w hS=>by rw [pW (O:=(aD S.O (aJ S.X) (fun _=>(⟨0,c.mode,0,0,0,0,0,0,false,1,[],⟨#[]⟩,[],none⟩:aM)))) (k:=(aJ S.X)) (f:=(fun o=>{ o with opens:=o.opens+1 })) rfl rfl,pX (O:=(aD S.O (aJ S.X) (fun _=>(⟨0,c.mode,0,0,0,0,0,0,false,1,[],⟨#[]⟩,[],none⟩:aM)))) (k:=(aJ S.X)) (f:=(fun o=>{ o with opens:=o.opens+1 })) rfl rfl];exact hS) ?_
  have hkN:(obj (aD (aD S.O (aJ S.X) (fun _=>(⟨0,c.mode,0,0,0,0,0,0,false,1,[],⟨#[]⟩,[],none⟩:aM))) (aJ S.X) (fun o=>{ o with opens:=o.opens+1 })) (aJ S.X)).kind=1:=by rw [cU,cU]
  have hoN:(obj (aD (aD S.O (aJ S.X) (fun _=>(⟨0,c.mode,0,0,0,0,0,0,false,1,[],⟨#[]⟩,[],none⟩:aM))) (aJ S.X) (fun o=>{ o with opens:=o.opens+1 })) (aJ S.X)).opens=1:=by rw [cU,cU];rfl
  generalize dh:(aD (aD S.O (aJ S.X) (fun _=>(⟨0,c.mode,0,0,0,0,0,0,false,1,[],⟨#[]⟩,[],none⟩:aM))) (aJ S.X) (fun o=>{ o with opens:=o.opens+1 }))=ef at hkN hoN ⊢
  refine jK 6 [8] [(4,v_ 2 (lX L2 hkN))] ?_
  refine NS (jK 6 [66,67,71] [(5,a_ 6 cb)] ?_)
  refine gL [0] (Bk S.X f m t hX c.mode) ?_
  rintro _ _ ⟨rfl,rfl⟩
  refine jK 2 [74] [] ?_
  refine ak.mem (fun w hS=>hS.Ad (i:=2) (k:=(aJ S.X)) rfl (by rw [hkN];decide) (jB (hkN)) (congrArg ql (hkN))) ?_
  refine jC 1 [] [(0,A_ 8 (L2.b (aJ S.X)) 9)] [(8,[(0,vI (S.X.last+1)),(1,vI (c.mode)),(2,vI 0),(3,vI 0),(4,vI (S.X.cS)),(5,vI (S.X.cZ)),(6,vI 0),(7,vI 0),(8,.bool false)])] ?_
  refine ak.mem (eu:=[.abs (aG (cF (aD ef (aJ S.X) (fun o=>{ o with id:=S.X.last+1,mode:=c.mode,uid:=0,gid:=0,sec:=S.X.cS,nano:=S.X.cZ,links:=0,opens:=0,gone:=false })) L2)),.blk f [vI (S.X.cN),vI (S.X.cB),vI (S.X.cH),vI (S.X.cS),vI (S.X.cZ),.map (some m),vP t,vI (S.X.last+1),vI (S.X.ah),vI (S.X.used)] 84,.abs (dJ 140 t S.X.cH (max S.av ((S.us.length:Int)+1)) (bC L2 (ins (aq.least S.us) ⟨(aJ S.X),1⟩ S.us))),.abs (aG (bV (aD ef (aJ S.X) (fun o=>{ o with id:=S.X.last+1,mode:=c.mode,uid:=0,gid:=0,sec:=S.X.cS,nano:=S.X.cZ,links:=0,opens:=0,gone:=false })) L2)),.abs (bq Tryz.prog 3 m (bB (bC L2 S.idx)) S.idx.length),.abs (aG (dM (aD ef (aJ S.X) (fun o=>{ o with id:=S.X.last+1,mode:=c.mode,uid:=0,gid:=0,sec:=S.X.cS,nano:=S.X.cZ,links:=0,opens:=0,gone:=false })) L2)),.blk cb (aK { c with answer:=aq.least S.us }) 53,.abs R]) (fun w hS=>by have h:=hS.BH (O:=ef) (L:=L2) (i:=2) (j:=8) (idx:=[0,1,3,4,5,6,7]) (k:=(aJ S.X)) (f:=(fun o=>{ o with id:=S.X.last+1,mode:=c.mode,uid:=0,gid:=0,sec:=S.X.cS,nano:=S.X.cZ,links:=0,opens:=0,gone:=false })) rfl (fun _ hx=>qY hx) rfl (by kernel_rfl) rfl (by grind) ((jB (o:=(fun o=>{ o with id:=S.X.last+1,mode:=c.mode,uid:=0,gid:=0,sec:=S.X.cS,nano:=S.X.cZ,links:=0,opens:=0,gone:=false }) (obj ef (aJ S.X))) (hkN)).trans rfl) (by grind);rw [pW (O:=ef) (k:=(aJ S.X)) (f:=(fun o=>{ o with id:=S.X.last+1,mode:=c.mode,uid:=0,gid:=0,sec:=S.X.cS,nano:=S.X.cZ,links:=0,opens:=0,gone:=false })) rfl rfl,pX (O:=ef) (k:=(aJ S.X)) (f:=(fun o=>{ o with id:=S.X.last+1,mode:=c.mode,uid:=0,gid:=0,sec:=S.X.cS,nano:=S.X.cZ,links:=0,opens:=0,gone:=false })) rfl rfl];exact h) ?_
  have Bh:(obj (aD ef (aJ S.X) (fun o=>{ o with id:=S.X.last+1,mode:=c.mode,uid:=0,gid:=0,sec:=S.X.cS,nano:=S.X.cZ,links:=0,opens:=0,gone:=false })) (aJ S.X)).kind=1:=(lf (f:=(fun o=>{ o with id:=S.X.last+1,mode:=c.mode,uid:=0,gid:=0,sec:=S.X.cS,nano:=S.X.cZ,links:=0,opens:=0,gone:=false })) (fun _=>rfl)).trans (hkN)
  generalize dK:(aD ef (aJ S.X) (fun o=>{ o with id:=S.X.last+1,mode:=c.mode,uid:=0,gid:=0,sec:=S.X.cS,nano:=S.X.cZ,links:=0,opens:=0,gone:=false }))=gi at Bh ⊢
  refine NS (jK 5 [76,79] [] ?_)
  refine vW 0 [(5,1),(3,2)] (aJ S.X) 7 (fun o=>{ o with opens:=(obj ef (aJ S.X)).opens }) Bh (fun xX oF=>?_)
  have UH:=ku oF Bh
  refine NS ?_
  have hfin:xX=aD S.O (aJ S.X) (fun _=>{ cx S.X 1 c.mode with opens:=1 }):=by subst oF;subst dK;rw [hoN];subst dh;simp only [wo];rfl
  subst hfin
  refine jK 8 [80,81,85,87] [(5,a_ 6 cb)] ?_
  refine gL (f:=122) (args:=#[vP f,vP (L.b d),.string c.name,.iface 87 (vP (L2.b (aJ S.X)))]) (pre:=[pF f m t { S.X with last:=S.X.last+1 },pI m L2 S.idx,pO (aD S.O (aJ S.X) (fun _=>{ cx S.X 1 c.mode with opens:=1 })) L2,pE (aD S.O (aJ S.X) (fun _=>{ cx S.X 1 c.mode with opens:=1 })) L2]) [1,4,0,5] ((by have h:=ze (β:=β) S L2 f m t hI.toInv0 d hd c.name hC.nm hno { cx S.X 1 c.mode with opens:=1 } rfl (by simp [cx]) rfl (xA h0);rw [BK hL2 (hI.Am hd)] at h;exact h)) ?_
  rintro _ _ ⟨rfl,rfl⟩
  refine NS (ak.eG [(5,.abs (aG (bV ((fw S d c.name { cx S.X 1 c.mode with opens:=1 }).O) L2)))] (fun w hS=>by rw [show bV ((fw S d c.name { cx S.X 1 c.mode with opens:=1 }).O) L2=bV (aD S.O (aJ S.X) (fun _=>{ cx S.X 1 c.mode with opens:=1 })) L2 from jE];exact hS) ?_)
  refine jK 1 [4] [] ?_
  refine NN (af.ret ?_)
  exact RT (vI 0) [0,1,4,2,5,3,6,7] (⟨L2,by rw [show (cI S c)=(0,(fw { S with us:=(ins (aq.least S.us) ⟨(aJ S.X),1⟩ S.us),av:=(max S.av ((S.us.length:Int)+1)) } d c.name { cx S.X 1 c.mode with opens:=1 }),{ c with answer:=aq.least S.us }) by unfold cI;rw [hab];exact (if_pos lC).trans ((if_pos h0).trans (by grind [kB,fw,ins,aJ,cx]))]<;>exact⟨rfl,rfl⟩⟩)
 refine af.region (jK 4 [49,50,52] [] ?_)
 obtain⟨L2,hL2⟩:∃ L2:HL,L2=L.put (aJ S.X) b4 0 none 0:=⟨_,rfl⟩
 have hfr:=hI.toInv0.fresh
 refine ak.mem (fun w hS=>hS.yA hL2 hfr (o:=(⟨0,c.mode,0,0,0,0,0,0,false,1,[],⟨#[]⟩,[],none⟩:aM)) (i:=3) (j:=8) (ix:=[0,1,2,4,5,6,7]) rfl rfl (by kernel_rfl) rfl (by show (1:Int)≠0;decide) ((jB (L:=L2) (k:=(aJ S.X)) (o:=(⟨0,c.mode,0,0,0,0,0,0,false,1,[],⟨#[]⟩,[],none⟩:aM)) rfl).trans (by rw [show L2.dA (aJ S.X)=none by rw [hL2];exact if_pos rfl,show L2.dC (aJ S.X)=0 by rw [hL2];exact if_pos rfl];rfl)) rfl) ?_
 refine ak.eG [(3,pE (aD S.O (aJ S.X) (fun _=>(⟨0,c.mode,0,0,0,0,0,0,false,1,[],⟨#[]⟩,[],none⟩:aM))) L2)] (fun w hS=>hS.Ar hL2 hfr (o:=(⟨0,c.mode,0,0,0,0,0,0,false,1,[],⟨#[]⟩,[],none⟩:aM)) (i:=3) rfl (by show (1:Int)≠2;decide)) ?_
 refine ak.mem (fun w hS=>hS.kX (e:=5) (size:=1)) ?_
 refine ak.mem (fun w hS=>hS.Vn hL2 (o:=(⟨0,c.mode,0,0,0,0,0,0,false,1,[],⟨#[]⟩,[],none⟩:aM)) (i:=5) (j:=8) (ix:=[0,1,2,3,4,6,7]) rfl rfl (by kernel_rfl) rfl rfl rfl) ?_
 refine ak.eG [(3,.abs (bq Tryz.prog 3 m (bB (bC L2 S.idx)) S.idx.length)),(5,.abs (dJ 140 t S.X.cH S.av (bC L2 S.us)))] (fun w hS=>by rw [jy hL2 hfr.idx,jy hL2 hfr.us];exact hS) ?_
 refine gL (f:=116) (args:=#[vP f,.iface 87 (vP b4)]) (pre:=[pF f m t S.X,pT t S.X.cH S.av L2 S.us,zi1 S c L2]) [2,5,1] ((by have h:=vX (β:=β) { S with O:=(aD S.O (aJ S.X) (fun _=>(⟨0,c.mode,0,0,0,0,0,0,false,1,[],⟨#[]⟩,[],none⟩:aM))) } L2 f m t ⟨(aJ S.X),1⟩ (by grind [obj,aD,aJ,cU]) (by simp) (by grind [obj,aD,aJ,cU]);rw [sG hL2,kS (S:={ S with O:=(aD S.O (aJ S.X) (fun _=>(⟨0,c.mode,0,0,0,0,0,0,false,1,[],⟨#[]⟩,[],none⟩:aM))) }) (t:=⟨(aJ S.X),1⟩) (by grind)] at h;exact h)) ?_
 rintro _ _ ⟨rfl,rfl⟩
 refine jC 7 [6] [(5,a_ 6 cb)] [(6,[(12,vI 0)])] ?_
 refine NS (jK 2 [59] [] ?_)
 refine NN (CT (SR ?_))
 have hk0:(obj S.O (aJ S.X)).kind=0:=hI.uL _ (by have:=pZ hI.toInv0;omega)
 refine ak.eG [(2,.abs (aG (cF S.O L)))] (fun w hS=>hS.Ap (i:=2) rfl (aJ S.X) (fun x hx=>by rw [xO hx,Ml hL2 hfr hx]) (by unfold cF;rw [hk0];rfl)) ?_
 refine ak.eG [(5,.abs (aG (dM S.O L)))] (fun w hS=>hS.Ap (i:=5) rfl (aJ S.X) (fun x hx=>by rw [zZ hx,Fx hL2 hfr hx]) (by unfold dM;rw [hk0];rfl)) ?_
 refine ak.mem (eu:=[.blk f [vI (S.X.cN),vI (S.X.cB),vI (S.X.cH),vI (S.X.cS),vI (S.X.cZ),.map (some m),vP t,vI (S.X.last),vI (S.X.ah),vI (S.X.used)] 84,.abs (dJ 140 t S.X.cH S.av (bC L2 S.us)),.abs (aG (cF S.O L)),.abs (aG (bV S.O L)),.abs (bq Tryz.prog 3 m (bB (bC L2 S.idx)) S.idx.length),.abs (aG (dM S.O L)),.blk cb (aK { c with answer:=0 }) 53,.abs R]) (fun w hS=>hS.Ap (i:=3) rfl (aJ S.X) (fun x hx=>by rw [Aa hx,BL hL2 hx]) (by unfold bV;rw [hk0];rfl)) ?_
 refine ak.mem (eu:=[.blk f [vI (S.X.cN),vI (S.X.cB),vI (S.X.cH),vI (S.X.cS),vI (S.X.cZ),.map (some m),vP t,vI (S.X.last),vI (S.X.ah),vI (S.X.used)] 84,.abs (dJ 140 t S.X.cH S.av (bC L S.us)),.abs (aG (cF S.O L)),.abs (aG (bV S.O L)),.abs (bq Tryz.prog 3 m (bB (bC L S.idx)) S.idx.length),.abs (aG (dM S.O L)),.blk cb (aK { c with answer:=0 }) 53,.abs R]) (fun w hS=>by rw [jy hL2 hfr.idx,jy hL2 hfr.us] at hS;exact hS) ?_
 refine jK 2 [4] [] ?_
 refine NN (af.ret (ai.aj ?_))
 exact RT (vI 130) [0,4,1,2,3,5,6,7] (⟨L,by rw [show (cI S c)=(130,S,{ c with answer:=0 }) by unfold cI;rw [hab];exact (if_pos lC).trans ((if_pos h0).trans (by grind [kB]))]<;>exact⟨rfl,rfl⟩⟩)
end
section
open Go.RowKit
def xY (b:Nat) (v:Value):cO where
  h F w:=∃ cs T,cs[0]?=some v/\(HP.blk b cs T).h F w
  lt:=fun ⟨_,_,_,h⟩=>HP.lt h
  st:=fun ⟨cs,T,hv,h⟩ _ _ hk hd=>⟨cs,T,hv,HP.st h hk hd⟩
theorem xY.cell {b:Nat} {v:Value}:∀ F w,(xY b v).h F w->w.cell? ⟨b,0,none⟩=some v:=by
  rintro F w ⟨cs,T,hv,h⟩
  exact (jb h.1 rfl rfl hv).1
theorem Sat.first {β:Bs} {l:List HP} {w:World} {i b:Nat} {cs:List Value} {T:TypeId} {v:Value} (h:Sat β l w) (hp:l[i]?=some (.blk b cs T)) (hv:cs[0]?=some v):Sat β [.abs (xY b v)] w:=by
  obtain⟨ho,φ,h1,h2,h3⟩:=h
  have hi:=bR hp
  refine⟨ho,fun _=>φ i,fun j q hq=>?_,fun j hj=>h2 i hi,fun j k hj hk hne=>?_⟩
  ·have hj:=bR hq
   simp at hj
   subst hj
   simp at hq
   subst hq
   exact⟨cs,T,hv,h1 i _ hp⟩
  simp at hj hk
  omega
section mix
variable {P:Program} {β:Bs} {N:dm} {ops:Array Oper} {S:List HP} {l:List Nat} {fr:Fr} {hps:List HP} {Q:Post} {i:Nat}
theorem af.OT {id:Nat} (perm:List Nat) (nr:Nat) (hm:P.follows .mixedOrders=true) (hB:zL ops perm nr=true) (hp:∀ w,Sat β hps w->Sat β S w) (h:aY P β N ops S nr perm fr hps Q):af P β N (.region id ops true) fr hps Q:=by
  intro junk w hS
  unfold zL at hB
  simp only [Bool.and_eq_true,beq_iff_eq] at hB
  obtain⟨⟨⟨h1,h2⟩,h3⟩,h4⟩:=hB
  have dr:=hS.drewN 1
  have h5:=E8 (Q:=Q) h1 h2 nr perm _ _ _ h4 (fun j oj _ hl=>by simp [Array.getD_eq_getD_getElem?,Array.getElem?_replicate] at hl;split at hl<;>simp at hl) (hp _ dr) (h junk (w.drewN 1) dr)
  rw [h3] at h5
  refine Code.wp_mono (fun e a w q=>?_) (wp_region_any hm (pP _ _ _ _ h5))
  cases e with
  | normal=>exact q
  | exit id=>exact q.elim
  | goto l=>exact q.elim
  | ret=>exact q.elim
  | panic ch=>exact q.elim
  | outgrown=>exact q.elim
theorem aY.OU {ι:Type} {fr':ι->Fr} {hp':ι->List HP} {o:Oper} (hop:ops[i]?=some o) (hg:o.guard=none) (h:ak P β N #[o] 0 fr hps (NP (qp β N fr' hp'))) (hp:∀ j w,Sat β (hp' j) w->Sat β S w)
    (K:∀ j,aY P β N ops S 0 l (fr' j) (hp' j) Q):aY P β N ops S 0 (i::l) fr hps Q:=by
  grind [qD,jc,NP,qp,bW,kR,ak,Sat,aY]
end mix
end
section
open Go.RowKit Go.Maps aX aq
def R4:List Nat:=[82,83,84,85,86,87,88,89,90,91,92,93,94,95,96]
def hnV:Value:=.agg ⟨.nilFunc::R4.map (fun f=>.func (.func f) #[] #[])⟩
theorem OV {n:Int} (h:1<=n/\n<=15):n=1\/n=2\/n=3\/n=4\/n=5\/n=6\/n=7\/n=8\/n=9\/n=10\/n=11\/n=12\/n=13\/n=14\/n=15:=by omega
theorem Zr {w:World} {o:Oper} {ev:Operand->Value} {x y:Operand} {n:Int} (ho:o.op=.index 119 x y) (hx:ev x=hnV) (hy:ev y=.int .i64 n) (hn:1<=n/\n<=15):oM Tryz.prog ev o w (.func (.func (R4.getD (n.toNat - 1) 0)) #[] #[]) w:=by
  obtain⟨dst,op,type,pos,after,guard⟩:=o
  cases ho
  refine .inl ?_
  simp only [execOp,hx,hy]
  rcases OV hn with h|h|h|h|h|h|h|h|h|h|h|h|h|h|h<;>subst h<;>kernel_rfl
theorem ak.hn {β:Bs} {N:dm} {k:Nat} {ops:Array Oper} {fr:Fr} {hps:List HP} {Q:Post} {d:Option Tmp} {x y:Operand} {n:Int} (hn:1<=n/\n<=15) (K:ak Tryz.prog β N ops (k+1) (cL fr d (.func (.func (R4.getD (n.toNat - 1) 0)) #[] #[])) hps Q)
    (hop:∀ junk,fA N junk ops fr k=some (.index 119 x y,d):=by intro _;kernel_rfl) (hx:∀ junk,cQ N fr junk x=hnV:=by intro _;kernel_rfl) (hy:∀ junk,cQ N fr junk y=.int .i64 n:=by intro _;kernel_rfl):ak Tryz.prog β N ops k fr hps Q:=
  ak.jI hop (fun _ junk w ho hS=>⟨w,Zr ho (hx junk) (hy junk) hn,hS⟩) K
theorem aaH {β:Bs} {S:aI} {L:HL} {f m t b:Nat} {c:ar} (n:Int) (hI:Inv S) (hC:cR β c) (h:1<=n/\n<=15) (he:c.op=n):Spec Tryz.prog β (R4.getD (n.toNat - 1) 0) #[vP f,vP b] (pA f m t L S++[pC b c]) (fun v l=>∃ L2,v=vI (eM S c).1/\l=pA f m t L2 (eM S c).2.1++[pC b (eM S c).2.2]):=by
  subst he
  rcases OV h with h|h|h|h|h|h|h|h|h|h|h|h|h|h|h<;>rw [h]
  ·first|exact absurd hC.op (by rw [h];unfold r8;decide)|(rw [BN h];exact OM S L f m t hI b c hC)
  ·first|exact absurd hC.op (by rw [h];unfold r8;decide)|(rw [BO h];exact HY S L f m t hI b c hC)
  ·first|exact absurd hC.op (by rw [h];unfold r8;decide)|(rw [Eb h];exact F9 S L f m t hI b c hC)
  ·first|exact absurd hC.op (by rw [h];unfold r8;decide)|(rw [BP h];exact LR S L f m t hI b c hC)
  ·first|exact absurd hC.op (by rw [h];unfold r8;decide)|(rw [Ec h];exact K2 S L f m t hI b c hC)
  ·first|exact absurd hC.op (by rw [h];unfold r8;decide)|(rw [Ed h];exact HZ S L f m t hI b c hC)
  ·first|exact absurd hC.op (by rw [h];unfold r8;decide)|(rw [Ee h];exact OO S L f m t hI b c hC)
  ·first|exact absurd hC.op (by rw [h];unfold r8;decide)|(rw [Ef h];exact KY S L f m t hI b c hC)
  ·first|exact absurd hC.op (by rw [h];unfold r8;decide)|(rw [Eg h];exact LV S L f m t hI b c hC)
  ·first|exact absurd hC.op (by rw [h];unfold r8;decide)|(rw [Ay h];exact H6 S L f m t hI b c hC)
  ·first|exact absurd hC.op (by rw [h];unfold r8;decide)|(rw [Az h];exact OQ S L f m t hI b c hC)
  ·first|exact absurd hC.op (by rw [h];unfold r8;decide)|(rw [AA h];exact K1 S L f m t hI b c hC)
  ·first|exact absurd hC.op (by rw [h];unfold r8;decide)|(rw [AB h];exact LW S L f m t hI b c hC)
  ·first|exact absurd hC.op (by rw [h];unfold r8;decide)|(rw [AF h];exact LU S L f m t hI b c hC)
  first|exact absurd hC.op (by rw [h];unfold r8;decide)|(rw [AJ h];exact KZ S L f m t hI b c hC)
theorem R5 {S:aI} {c:ar} (h:1<=c.op/\c.op<=15):(eM S c).2.2.op=c.op:=by
  rcases OV h with h|h|h|h|h|h|h|h|h|h|h|h|h|h|h
  ·rw [BN h];exact WC
  ·rw [BO h];exact NE
  ·rw [Eb h];exact Lr
  all_goals grind [BP,NG,Ec,Ls,Ed,Jx,Ee,P9,Ef,Lu,Eg,NI,Ay,NJ,Az,WD,AA,Qa,AB,Tw,AF,NH,AJ,Lv]
end
section
open Go.RowKit Go.Maps aX aq
attribute [local irreducible] ak aU af ai aY
abbrev Wh (b3:Nat):=(.blk b3 [vI 0,vI 0,vI 0,.string ⟨#[]⟩,.string ⟨#[]⟩,.slice none (0) (0),vI 0,vI 0,vI 0,vI 0,vI 0,vI 0,vI 0] 53:HP)
abbrev zj2 (c:ar):=([(0,vI (c.op)),(1,vI (c.handle)),(2,vI (c.other)),(3,.string c.name),(4,.string c.text),(5,.slice c.dA (c.data.length) (c.dC)),(6,vI (c.mode)),(7,vI (c.uid)),(8,vI (c.gid)),(9,vI (c.sec)),(10,vI (c.nano)),(11,vI 230)]:Fr)
theorem LX {β:Bs}:Spec Tryz.prog β 48 #[] [] (fun v l=>v=.agg #[.nilFunc,.func (.func 82) #[] #[],.func (.func 83) #[] #[],.func (.func 84) #[] #[],.func (.func 85) #[] #[],.func (.func 86) #[] #[],.func (.func 87) #[] #[],.func (.func 88) #[] #[],.func (.func 89) #[] #[],.func (.func 90) #[] #[],.func (.func 91) #[] #[],.func (.func 92) #[] #[],.func (.func 93) #[] #[],.func (.func 94) #[] #[],.func (.func 95) #[] #[],.func (.func 96) #[] #[]]/\l=[]):=by
 refine SE Tryz.func48 Tryz.ntmps48 (fun R=>?_)
 refine SR (jN 1 [0] (fun _=>[]) (fun _=>[]) (fun b1=>.blk b1 [.nilFunc,.nilFunc,.nilFunc,.nilFunc,.nilFunc,.nilFunc,.nilFunc,.nilFunc,.nilFunc,.nilFunc,.nilFunc,.nilFunc,.nilFunc,.nilFunc,.nilFunc,.nilFunc] 119) (fun b1=>?_))
 refine NS (jC 2 [] [(1,A_ 1 b1 16)] [(1,[(1,.func (.func 82) #[] #[]),(2,.func (.func 83) #[] #[]),(3,.func (.func 84) #[] #[]),(4,.func (.func 85) #[] #[]),(5,.func (.func 86) #[] #[]),(6,.func (.func 87) #[] #[]),(7,.func (.func 88) #[] #[]),(8,.func (.func 89) #[] #[]),(9,.func (.func 90) #[] #[]),(10,.func (.func 91) #[] #[]),(11,.func (.func 92) #[] #[]),(12,.func (.func 93) #[] #[]),(13,.func (.func 94) #[] #[]),(14,.func (.func 95) #[] #[]),(15,.func (.func 96) #[] #[])])] ?_)
 refine NN (af.ret ?_)
 exact rT _ [A_ 1 b1 16] [0] (⟨rfl,rfl⟩)
theorem R6 {β:Bs} (S:aI) (L:HL) (f m t:Nat) (hI:Inv S) (c:ar) (hC:cR β c) :
    Spec Tryz.prog β 15 #[vP f,.agg ⟨aK c⟩] (pA f m t L S) (fun v l=>∃ L2,v=.agg ⟨aK (dG S c).2⟩/\l=(pA f m t L2 ((dG S c).1))):=by
 have hX:=hI.hX
 refine SE Tryz.func15 Tryz.ntmps15 (fun R=>?_)
 refine SR (jN 1 [3] (fun _=>[]) (fun _=>[]) (fun b2=>.blk b2 (aK c) 53) (fun b2=>?_))
 refine jN 1 [4] (fun _=>[]) (fun _=>[]) (fun b3=>.blk b3 [vI 0,vI 0,vI 0,.string ⟨#[]⟩,.string ⟨#[]⟩,.slice none (0) (0),vI 0,vI 0,vI 0,vI 0,vI 0,vI 0,vI 0] 53) (fun b3=>?_)
 refine NS (jC 2 [] [(1,a_ 7 b2)] [(7,[(12,vI 0)])] ?_)
 refine NS (jC 2 [] [(1,a_ 7 b2)] [(7,[(11,vI 230)])] ?_)
 refine NN (af.seq (SR (jK 4 [10] [(1,a_ 7 b2)] ?_)))
 refine sP 10 ((c.op:Int) ≥ (1:Int)) (fun h10=>?_) (fun h10=>?_)
 ·refine jK 4 [14] [(1,a_ 7 b2)] ?_
  refine NN (cP ((c.op:Int)<=(15:Int)) (fun iH=>?_) (fun iH=>?_))
  ·have hop:1<=c.op/\c.op<=15:=⟨h10,iH⟩
   refine af.OT (S:=[.abs (xY b2 (.int .i64 c.op))]) [1,2,4,0,3,5,6,7] 3 (by kernel_rfl) (by kernel_rfl) (fun w hS=>hS.first (i:=7) (b:=b2) rfl rfl) ?_
   refine jR 3 [3,4,17,19] [(1,p_ ⟨[.view 0 (.int .i64 (c.op))],none,none,none,none⟩ [(∀ F w,(xY b2 (.int .i64 c.op)).h F w->w.cell? ⟨b2,0,none⟩=some (vI (c.op)))] ⟨xY.cell,trivial⟩)] ?_
   refine aY.OU (ι:=Unit) (fr':=fun (_:Unit)=>[(3,vP b2),(4,vP b3),(15,.agg #[.nilFunc,.func (.func 82) #[] #[],.func (.func 83) #[] #[],.func (.func 84) #[] #[],.func (.func 85) #[] #[],.func (.func 86) #[] #[],.func (.func 87) #[] #[],.func (.func 88) #[] #[],.func (.func 89) #[] #[],.func (.func 90) #[] #[],.func (.func 91) #[] #[],.func (.func 92) #[] #[],.func (.func 93) #[] #[],.func (.func 94) #[] #[],.func (.func 95) #[] #[],.func (.func 96) #[] #[]]),(17,vI (c.op)),(19,vP f)]) (hp':=fun (_:Unit)=>((pA f m t L S)++[.abs R,pC b2 (c0 c),Wh b3])) rfl rfl ?_ (by rintro _ w hS;exact hS.first (i:=7) (b:=b2) rfl rfl) ?_
   ·refine gL [] (LX) ?_
    rintro _ _ ⟨rfl,rfl⟩
    refine NL ?_
    exact MD () [3,4,15,17,19] [0,1,2,3,4,5,6,7,8]
   rintro _
   refine aY.OU (ι:=Unit) (fr':=fun (_:Unit)=>[(3,vP b2),(4,vP b3),(18,.func (.func (R4.getD (c.op.toNat - 1) 0)) #[] #[]),(19,vP f)]) (hp':=fun (_:Unit)=>((pA f m t L S)++[.abs R,pC b2 (c0 c),Wh b3])) rfl rfl ?_ (by rintro _ w hS;exact hS.first (i:=7) (b:=b2) rfl rfl) ?_
   ·refine ak.hn (x:=(.tmp 15)) (y:=(.tmp 17)) (d:=(some 18)) hop ?_
    refine NL ?_
    exact MD () [3,4,18,19] [0,1,2,3,4,5,6,7,8]
   rintro _
   refine aY.OU (ι:=HL) (fr':=fun (L2:HL)=>[(3,vP b2),(4,vP b3),(20,vI ((eM S (c0 c)).1))]) (hp':=fun (L2:HL)=>((pA f m t L2 ((eM S (c0 c)).2.1))++[pC b2 ((eM S (c0 c)).2.2),.abs R,Wh b3])) rfl rfl ?_ (by rintro L2 w hS;exact hS.first (i:=6) (b:=b2) rfl (congrArg (fun z=>some (Value.int .i64 z)) (R5 (c:=(c0 c)) hop))) ?_
   ·refine gL [0,1,2,3,4,5,7] (aaH (S:=S) (L:=L) (f:=f) (m:=m) (t:=t) (b:=b2) (c:=(c0 c)) c.op hI ⟨hC.hw,hC.ow,hC.nm,hC.tx,hC.da,hC.dl,hC.dc,hC.op⟩ hop rfl) ?_ (by intro _;rcases OV hop with h|h|h|h|h|h|h|h|h|h|h|h|h|h|h<;>rw [h]<;>kernel_rfl)
    rintro _ _ ⟨L2,rfl,rfl⟩
    refine NL ?_
    exact MD L2 [3,4,20] [0,1,2,3,4,5,6,7,8]
   rintro L2
   refine aY.OU (ι:=Unit) (fr':=fun (_:Unit)=>[(3,vP b2),(4,vP b3),(20,vI ((eM S (c0 c)).1)),(21,.pointer (some ⟨b2,11,none⟩))]) (hp':=fun (_:Unit)=>((pA f m t L2 ((eM S (c0 c)).2.1))++[pC b2 ((eM S (c0 c)).2.2),.abs R,Wh b3])) rfl rfl ?_ (by rintro _ w hS;exact hS.first (i:=6) (b:=b2) rfl (congrArg (fun z=>some (Value.int .i64 z)) (R5 (c:=(c0 c)) hop))) ?_
   ·refine jK 1 [21] [] ?_
    refine NL ?_
    exact MD () [3,4,20,21] [0,1,2,3,4,5,6,7,8]
   rintro _
   refine aY.last rfl rfl ?_
   refine jC 1 [] [(0,a_ 6 b2)] [(6,[(11,vI ((eM S (c0 c)).1))])] ?_
   refine NL (ai.np (NX (SR ?_)))
   refine jC 2 [] [(0,A_ 6 b2 13),(1,A_ 8 b3 13)] [(8,(zC (aK { (eM S (c0 c)).2.2 with code:=(eM S (c0 c)).1 })))] ?_
   refine NN (af.ret ?_)
   exact rT _ [A_ 8 b3 13] [0,1,2,3,4,5,7] (⟨L2,rfl,rfl⟩)
  refine af.skip (NX (SR (jC 2 [] [(0,A_ 7 b2 13),(1,A_ 8 b3 13)] [(8,(zj2 c))] ?_)))
  refine NN (af.ret ?_)
  exact rT _ [A_ 8 b3 13] [0,1,2,3,4,5,6] (⟨L,by unfold dG;rw [Eh (S:=S) (c:=(c0 c)) (by grind)];exact⟨rfl,rfl⟩⟩)
 refine jK 4 [14] [] ?_
 refine NN (CF (af.skip (NX (SR (jC 2 [] [(0,A_ 7 b2 13),(1,A_ 8 b3 13)] [(8,(zj2 c))] ?_)))))
 refine NN (af.ret ?_)
 exact rT _ [A_ 8 b3 13] [0,1,2,3,4,5,6] (⟨L,by unfold dG;rw [Eh (S:=S) (c:=(c0 c)) (by grind)];exact⟨rfl,rfl⟩⟩)
end
section
open Go.RowKit Go.Maps aX aq
attribute [local irreducible] ak aU af ai aY iP
abbrev Nb (B)(d:List UInt8) (cap):=(.abs (ay 5 1 B d.length cap (cE d)):HP)
abbrev zk2 (b5:Nat) (An:Option Addr) (i:Nat) (cn:Nat):=(.blk b5 [.slice An (i) (cn)] 24:HP)
abbrev zk3 (An:Option Addr) (i:Nat) (cn:Nat) (K) (S:aI):=(.abs (ay 66 10 An i cn (aR K ((aE S).take i))):HP)
abbrev zk4 (S:aI) (i:Nat) (K):=(.abs (jd (og ((aE S).take i) K) i):HP)
abbrev zk5 (S:aI) (i:Nat) (K):=(.abs (jd (jL ((aE S).take i) K) i):HP)
abbrev zk6 (A7:Option Addr) (S:aI) (c8:Nat):=(.abs (ay 3 1 A7 ((keys S.idx).length) c8 (ints (keys S.idx))):HP)
abbrev zk7 (b4:Nat):=(.blk b4 [.slice none (0) (0)] 24:HP)
abbrev Zs (b9:Nat):=(.blk b9 [vI 0,vI 0,vI 0,vI 0,vI 0,vI 0,vI 0,.slice none (0) (0),.string ⟨#[]⟩,.slice none (0) (0)] 66:HP)
abbrev Zt (S:aI) (L:HL) (tk:Nat):=(.abs (aG (mY (dM S.O L) tk cO.none)):HP)
abbrev OW (L:HL) (tk:Nat) (S:aI):=(.abs (bq Tryz.prog 9 (L.m tk) (jJ L (obj S.O tk).ah) ((obj S.O tk).ah.length)):HP)
abbrev OX (b15:Nat) (S:aI) (i:Nat) (tk:Nat) (Ae:Option Addr) (j:Nat) (ce:Nat):=(.blk b15 [vI ((dS S i)),vI 2,vI ((obj S.O tk).mode),vI ((obj S.O tk).uid),vI ((obj S.O tk).gid),vI ((obj S.O tk).sec),vI ((obj S.O tk).nano),.slice none (0) (0),.string ⟨#[]⟩,.slice Ae (j) (ce)] 66:HP)
abbrev OY (kK:Option Addr) (S:aI) (tk:Nat) (lP:Nat):=(.abs (ay 9 1 kK ((obj S.O tk).ah.length) lP (tS (obj S.O tk).ah)):HP)
abbrev UL (ju:Option Addr) (j:Nat) (jv:Nat) (S:aI) (tk:Nat):=(.abs (ay 68 2 ju (j+1) jv (jt (((obj S.O tk).ah.take (j+1)).map (dL S.O)))):HP)
abbrev Ga (S:aI) (tk:Nat):=([(39,vI ((obj S.O tk).mode)),(43,vI ((obj S.O tk).uid)),(47,vI ((obj S.O tk).gid)),(51,.agg #[vI ((obj S.O tk).sec),vI ((obj S.O tk).nano)])]:Fr)
abbrev Bq (f:Nat) (b4:Nat) (b5:Nat):=([(0,vP f),(2,vP b4),(3,vP b5)]:Fr)
abbrev Br (b5:Nat) (An:Option Addr) (i:Nat) (cn:Nat) (K) (S:aI) (A7:Option Addr) (c8:Nat) (b4:Nat) (f:Nat) (m:Nat) (t) (L:HL):=([zk2 b5 An i cn,zk3 An i cn K S,zk4 S i K,zk5 S i K,zk6 A7 S c8,zk7 b4,pF f m t S.X,pI m L S.idx,pO S.O L]:List HP)
abbrev Bt (A7:Option Addr) (S:aI) (c8:Nat) (i:Nat):=([(19,.slice A7 ((keys S.idx).length) (c8)),(20,vI ↑((keys S.idx).length)),(21,vI ↑i)]:Fr)
abbrev UM (f:Nat) (b4:Nat) (b5:Nat) (b15:Nat) (L:HL) (tk:Nat) (A7:Option Addr) (S:aI) (c8:Nat) (i:Nat) (kK:Option Addr) (lP:Nat) (j:Nat) (ju:Option Addr) (jv:Nat):=([(0,vP f),(2,vP b4),(3,vP b5),(8,vP b15),(11,vP (L.b tk)),(19,.slice A7 ((keys S.idx).length) (c8)),(20,vI ↑((keys S.idx).length)),(21,vI ↑i),(79,.slice kK ((obj S.O tk).ah.length) (lP)),(80,vI ↑((obj S.O tk).ah.length)),(81,vI ↑j),(100,.slice ju ((j+1)) (jv))]:Fr)
abbrev UN (S:aI) (tk:Nat):=([(2,vI ((obj S.O tk).mode)),(3,vI ((obj S.O tk).uid)),(4,vI ((obj S.O tk).gid)),(5,vI ((obj S.O tk).sec)),(6,vI ((obj S.O tk).nano))]:Fr)
abbrev UO (S:aI) (L:HL) (tk:Nat) (R:cO) (b19:Nat) (j:Nat) (ek:Nat):=([pD S.O L,Zt S L tk,.abs R,.blk b19 [.string (jY (obj S.O tk).ah j),vI ((obj S.O ek).id)] 68]:List HP)
theorem Gb {β:Bs} (c:Nat):Spec Tryz.prog β 24 #[.slice none 0 c] [] (fun v l=>∃ B cap,v=.slice B 0 cap/\l=[.abs (ay 5 1 B 0 cap [])]):=by
 refine SE Tryz.func24 Tryz.ntmps24 (fun R=>?_)
 refine SR (jK 1 [] [] ?_)
 refine NN (af.seq (SR (jK 2 [4] [] ?_)))
 refine NN (CT (SR (jK 1 [2] [] ?_)))
 refine NN (af.ret (ai.aj (ai.mem (fun w hS=>(hS.kX (e:=5) (size:=1)).pick (idx:=[1,0]) (l':=[.abs (ay 5 1 none 0 0 ([])),.abs R]) rfl (by kernel_rfl)) ?_)))
 exact RT _ [0,1] (⟨none,0,rfl,rfl⟩)
theorem EU {β:Bs} (a:Addr) (c:Nat) (d:List UInt8) (hA:aZ β (some a) d) (hl:d.length<=140737488355328):Spec Tryz.prog β 24 #[.slice (some a) d.length c] [] (fun v l=>∃ B cap,v=.slice B d.length cap/\l=[Nb B d cap]):=by
 refine SE Tryz.func24 Tryz.ntmps24 (fun R=>?_)
 refine SR (jK 1 [] [] ?_)
 refine NN (af.seq (SR (jK 2 [4] [] ?_)))
 refine NN (CF (af.skip (NX (SR (jN 1 [5] (fun _=>[]) (fun _=>[]) (fun b1=>.blk b1 [] 5) (fun b1=>?_))))))
 refine ak.mem (fun w hS=>hS.nP (i:=1) (b:=b1) (cs:=[]) (e:=5) 1 0 (by kernel_rfl) rfl (by decide)) ?_
 refine jK 1 [6] [] ?_
 refine Vb 1 51 (some a) d.length c (cE d) rfl (hA.src) (fun A2 c3=>?_) (hl:=by rw [pR,Nat.mul_one]) (h1:=lU d)
 refine ak.bM 1 rfl (by rw [Nat.zero_add,List.nil_append]) ?_
 refine sl 7 (.slice A2 (0+d.length) (c3)) (.slice A2 (d.length) (c3)) (by rw [Nat.zero_add]) ?_
 refine jK 1 [2] [] ?_
 refine NN (af.ret ?_)
 exact RT _ [1,0] (⟨A2,c3,rfl,rfl⟩)
theorem CK {β:Bs} (A:Option Addr) (c:Nat) (d:List UInt8) (hA:aZ β A d) (hl:d.length<=140737488355328):Spec Tryz.prog β 24 #[.slice A d.length c] [] (fun v l=>∃ B cap,v=.slice B d.length cap/\l=[Nb B d cap]):=by
  cases A with
  | some a=>exact EU a c d hA hl
  | none=>
    cases d with
    | nil=>exact Gb c
    | cons b r=>have h:=aZ.hd hA (j:=0) (by simp);cases h
theorem K3 {β:Bs} (A:Option Addr) (c:Nat) (d:List UInt8) (hl:d.length<=140737488355328):Spec Tryz.prog β 24 #[.slice A d.length c] [Nb A d c] (fun v l=>∃ B cap,v=.slice B d.length cap/\l=[Nb B d cap,Nb A d c]):=
  (Spec.t8 (pre:=[]) (R:=[Nb A d c]) (fun _ h=>CK A c d h.bytes hl)).mono (by grind)
theorem K5 {β:Bs} (L:HL) (b bk:Nat) (idx:Used Th) (hr:aq.bH (keys idx)) (hn:idx.length<=4096) :
    Spec Tryz.prog β 49 #[D1 bk] [pI b L idx,.blk bk [.map (some b)] 78] (fun v l=>∃ A cap,v=.slice A (keys idx).length cap/\l=[pI b L idx,.blk bk [.map (some b)] 78,.abs (ay 3 1 A (keys idx).length cap (ints (keys idx)))]):=
  (D2 b bk idx.length (bB (bC L idx)) (by omega)).mono (by
    rintro v l ⟨A,cap,ss,rfl,hk,_,rfl⟩
    have e:=Mh (us:=bC L idx) (by rw [C6];exact hr) hk
    rw [C6] at e
    subst e
    exact⟨A,cap,rfl,rfl⟩)
theorem HB {β:Bs} (S:aI) (L:HL) (f m t:Nat) (hI:Inv S) :
    Spec Tryz.prog β 16 #[vP f] [pF f m t S.X,pI m L S.idx,pO S.O L,pD S.O L,pE S.O L] (fun v l=>∃ A c K,v=.agg #[.slice A (aE S).length c]/\l=[pF f m t S.X,pI m L S.idx,pO S.O L,pD S.O L,pE S.O L]++JI A c (aE S) K):=by
 have hX:=hI.hX
 have hkl:(keys S.idx).length=S.idx.length:=vC _
 have hil:=hI.len
 refine SE Tryz.func16 Tryz.ntmps16 (fun R=>?_)
 refine SR (jN 1 [2] (fun _=>[]) (fun _=>[]) (fun b4=>.blk b4 [.slice none (0) (0)] 24) (fun b4=>?_))
 refine NS (jN 1 [3] (fun _=>[]) (fun _=>[]) (fun b5=>.blk b5 [.slice none (0) (0)] 24) (fun b5=>?_))
 refine NN (af.seq (SR (jK 4 [17] [(3,a_ 0 f)] ?_)))
 refine gL [] (Ji (some m)) ?_
 rintro _ _ ⟨b6,rfl,rfl⟩
 refine gL [2,0] (K5 L m b6 S.idx hI.rise hI.len) ?_
 rintro _ _ ⟨A7,c8,rfl,rfl⟩
 refine jK 1 [20] [] ?_
 refine ak.mem (fun w hS=>hS.kX (e:=66) (size:=10)) ?_
 refine ak.mem (fun w hS=>hS.DW (og [] Dg)) ?_
 refine ak.mem (fun w hS=>hS.DW (jL [] Dg)) ?_
 refine jK 1 [21] [] ?_
 refine NN (af.block ?_)
 refine lJ (fun (i,An,cn,K)=>(i<=S.idx.length)) (fun (i,An,cn,K)=>S.idx.length - i) (fun (i,An,cn,K)=>(Bq f b4 b5++Bt A7 S c8 i)) (fun (i,An,cn,K)=>(Br b5 An i cn K S A7 c8 b4 f m t L++[pD S.O L,pE S.O L,.abs R])) (0,none,0,Dg) [9,10,11,12,2,8,3,0,4,5,6,7] ((Nat.zero_le _)) ?_
 rintro⟨i,An,cn,K⟩ hi
 refine SR (jK 1 [22] [] ?_)
 refine NN (af.seq (cP ((((i:Nat):Int):Int) < ((((keys S.idx).length:Nat):Int):Int)) (fun wj=>?_) (fun wj=>?_)))
 ·have hi2:i < S.idx.length:=by omega
  refine af.skip (NX (af.seq (af.block (SR ?_))))
  refine ak.tell (p:=(A7=some ⟨aP A7,aO A7,none⟩)) (fun w hS=>let ⟨F,h⟩:=hS.get (i:=4) rfl;(ay.DK h (by omega)).1) (fun hAk=>?_)
  refine jK 3 [5] [(0,x_ i ((keys S.idx).length) (hAk)),(1,p_ ⟨[.view 4 (.int .i64 ((dS S i)))],none,none,none,none⟩ [(∀ F w,(ay 3 1 A7 ((keys S.idx).length) c8 (ints (keys S.idx))).h F w->w.cell? ⟨(aP A7),aO A7+i * 1,none⟩=some (vI ((dS S i))))] ⟨ay.cellAt (i:=i) (j:=0) (by omega) (TK hi2),trivial⟩)] ?_
  refine NN (af.seq ?_)
  have acr:=(FC hI.toInv0 hi2).1
  have hget:=get_at hI.toInv0 hi2
  rcases aaq hI.toInv0 hi2 with ⟨tk,mO,hlv⟩|⟨tk,mO,hlv⟩|⟨tk,mO,hlv⟩
  ·have hkt:(obj S.O tk).kind=1:=hI.kind hlv
   have hel:(obj S.O tk).ah.length<=8192:=hI.je hlv
   have hdl:(obj S.O tk).data.length<=140737488355328:=hI.Ny hlv
   refine af.region (jK 5 [28,29] [(3,a_ 6 f)] ?_)
   refine ak.iY 7 (d:=(some 30)) (t:=78) (K:=3) (E:=82) (b:=m) (n:=S.idx.length) (f:=(bB (bC L S.idx))) (x:=(.tmp 28)) (ix:=(.tmp 29)) (key:=.int .i64 ((dS S i))) (z:=.nilIface) (kl:=(.int .i64 (dS S i))) (r:=(some (eV L ⟨tk,1⟩))) (fun _=>by kernel_rfl) (by kernel_rfl) (fun _=>by kernel_rfl) (fun _=>by kernel_rfl) gT Tryz.underlying78 (fun _=>by kernel_rfl) (mE (FD hI.toInv0 hi2)) (by rw [iZ,hget,mO];rfl) ?_
   refine jK 1 [6] [] ?_
   refine NS (jK 1 [31] [] ?_)
   refine gL [] (dF (L.b tk)) ?_
   rintro _ _ ⟨rfl,rfl⟩
   refine jK 1 [7] [] ?_
   refine NN (af.seq (af.rQ (S:=[pO S.O L]) [0,1,3,4,5,6,7,8,9,10,11,12,13,14,15,16,17,18] [.beside [2,19] 20,.one 21] [8] (by kernel_rfl) (by kernel_rfl) rfl (by kernel_rfl) ?_))
   refine gP (Bq f b4 b5++[(6,.iface 87 (vP (L.b tk)))]++Bt A7 S c8 i++[(33,vI ((dS S i))),(34,.iface 87 (vP (L.b tk)))]++Ga S tk) [0,1,3,4,5,6,7,8,9,10,11,12,13,14,15,16,17,18] [(5,v_ 0 (vV L hkt)),(9,v_ 0 (Cb L hkt)),(13,v_ 0 (Cc L hkt)),(17,p_ ⟨[.view 0 (.int .i64 ((obj S.O tk).sec)),.view 0 (.int .i64 ((obj S.O tk).nano))],none,none,none,none⟩ [(∀ F w,(aG (cF S.O L)).h F w->w.cell? ⟨(L.b tk),5,none⟩=some (vI ((obj S.O tk).nano))),(∀ F w,(aG (cF S.O L)).h F w->w.cell? ⟨(L.b tk),4,none⟩=some (vI ((obj S.O tk).sec)))] ⟨fD (by rw [hkt];decide) (rfl),fD (by rw [hkt];decide) (rfl),trivial⟩)] ?_
   refine iP.beside (j:=20) (dj:=8) (R:=fun f_ l_=>f_=([(52,.agg #[vI ((dS S i)),vI 1,vI ((obj S.O tk).mode),vI ((obj S.O tk).uid),vI ((obj S.O tk).gid),vI ((obj S.O tk).sec),vI ((obj S.O tk).nano),.slice none (0) (0),.string ⟨#[]⟩,.slice none (0) (0)]),(35,vI 1)]++Bq f b4 b5++[(6,.iface 87 (vP (L.b tk)))]++Bt A7 S c8 i++[(33,vI ((dS S i))),(34,.iface 87 (vP (L.b tk)))]++Ga S tk)/\l_=[]) [0,1,2,3,4,5,6,7,8,9,10,11] [8] [(2,35),(19,52)] rfl (pc:=[]) (pj:=[]) (Z:=(Br b5 An i cn K S A7 c8 b4 f m t L++[pD S.O L,pE S.O L,.abs R])) (by kernel_rfl) rfl (by kernel_rfl) rfl rfl (ic.of (ι:=Nat) (v:=fun (b9:Nat)=>vP b9) (l:=fun (b9:Nat)=>[Zs b9]) [35,52] rfl rfl rfl rfl ?_) ?_ ?_
   ·intro u Aq
    refine jN 1 [8] (fun _=>[]) (fun _=>[]) (fun b9=>.blk b9 [vI 0,vI 0,vI 0,vI 0,vI 0,vI 0,vI 0,.slice none (0) (0),.string ⟨#[]⟩,.slice none (0) (0)] 66) (fun b9=>?_)
    refine NL ?_
    exact MD b9 [8,35,52,0,2,3,6,19,20,21,33,34,39,43,47,51] [1,0]
   ·refine kr.step (ic.of (ι:=Unit) (v:=fun (_:Unit)=>.int .i64 1) (l:=fun (_:Unit)=>[]) [8] rfl rfl rfl rfl ?_) rfl ?_
    ·intro u Aq
     refine gL [] (pH (vP (L.b tk))) ?_
     rintro _ _ ⟨rfl,rfl⟩
     refine NL ?_
     exact MD () [35,8,0,2,3,6,19,20,21,33,34,39,43,47,51] [0]
    rintro _ _ ⟨_,rfl,rfl⟩
    refine kr.step (ic.of (ι:=Unit) (v:=fun (_:Unit)=>.agg #[vI ((dS S i)),vI 1,vI ((obj S.O tk).mode),vI ((obj S.O tk).uid),vI ((obj S.O tk).gid),vI ((obj S.O tk).sec),vI ((obj S.O tk).nano),.slice none (0) (0),.string ⟨#[]⟩,.slice none (0) (0)]) (l:=fun (_:Unit)=>[]) [8] rfl rfl rfl rfl ?_) rfl ?_
    ·intro u Aq
     refine jK 1 [52] [] ?_
     refine NL ?_
     exact MD () [52,8,35,0,2,3,6,19,20,21,33,34,39,43,47,51] [0]
    rintro _ _ ⟨_,rfl,rfl⟩
    exact⟨rfl,rfl⟩
   rintro _ _ ⟨rfl,rfl⟩ _ _ ⟨b9,rfl,rfl⟩
   refine iP.last rfl rfl ?_
   refine jC 1 [] [(0,A_ 0 b9 10)] [(0,([(0,vI ((dS S i))),(1,vI 1)]++UN S tk))] ?_
   refine NL (ai.np (NX (af.seq (SR ?_))))
   refine jK 1 [53] [] ?_
   refine NN (af.block (SR ?_))
   refine jK 3 [55,56] [] ?_
   refine NN (CT (SR (jK 1 [9] [] ?_)))
   refine NN (af.region (jK 4 [60] [(3,v_ 9 (KS L hkt))] ?_))
   refine ak.mem (fun w hS=>hS.PB (i:=10) (k:=tk) rfl hkt) ?_
   refine gL [13] (K3 (L.dA tk) (L.dC tk) (obj S.O tk).data hdl) ?_
   rintro _ _ ⟨Bu,c11,rfl,rfl⟩
   refine ak.mem (fun w hS=>hS.Ya (i:=12) (j:=1) (ix:=[0,2,3,4,5,6,7,8,9,10,11,13,14]) rfl rfl (by kernel_rfl) rfl hkt) ?_
   refine jC 2 [] [(1,a_ 2 b9)] [(2,[(7,.slice Bu ((obj S.O tk).data.length) (c11))])] ?_
   refine NL (ai.ax (NX (af.region ?_)))
   refine jN 4 [104,106] (fun b12=>[(1,a_ 3 b5),(2,A_ 2 b9 10)]) (fun _=>[]) (fun b12=>.blk b12 [vI ((dS S i)),vI 1,vI ((obj S.O tk).mode),vI ((obj S.O tk).uid),vI ((obj S.O tk).gid),vI ((obj S.O tk).sec),vI ((obj S.O tk).nano),.slice Bu ((obj S.O tk).data.length) (c11),.string ⟨#[]⟩,.slice none (0) (0)] 66) (fun b12=>?_)
   refine jZ 4 22 (some ⟨b12,0,none⟩) 1 1 [vI ((dS S i)),vI 1,vI ((obj S.O tk).mode),vI ((obj S.O tk).uid),vI ((obj S.O tk).gid),vI ((obj S.O tk).sec),vI ((obj S.O tk).nano),.slice Bu ((obj S.O tk).data.length) (c11),.string ⟨#[]⟩,.slice none (0) (0)] rfl (dV (j:=14) rfl) (fun Ht Cz=>?_) (hl:=rfl)
   refine ak.bM 4 rfl (congrArg (fun x=>HP.abs (ay 66 10 _ _ _ x)) (rK (eS (by omega)) (tU hI.toInv0 hi2 mO hlv) rfl rfl)) ?_
   refine sl 107 (.slice Ht (i+1) (Cz)) (.slice Ht ((i+1)) (Cz)) (rfl) ?_
   refine jC 2 [] [(1,a_ 3 b5)] [(3,[(0,.slice Ht ((i+1)) (Cz))])] ?_
   refine NL (ai.ax (NX (af.region ?_)))
   refine jK 2 [21] [(0,wJ ((i:Int)+1) (↑(i+1)))] ?_
   refine NL (ai.mem (fun w hS=>hS.kX (e:=68) (size:=2)) ?_)
   refine ai.mem (fun w hS=>hS.qW (R':=(jL ((aE S).take (i+1)) (K.put i Bu c11 none 0))) (i:=6) (j:=1) (idx:=[0,2,3,4,5,7,8,9,10,11,12,13,14,15]) rfl rfl (by kernel_rfl) rfl (yI (eS (by omega)) (tU hI.toInv0 hi2 mO hlv)) (wC (eS (by omega)) (tU hI.toInv0 hi2 mO hlv) rfl)) ?_
   refine ai.mem (fun w hS=>hS.qW (R':=(og ((aE S).take (i+1)) (K.put i Bu c11 none 0))) (i:=5) (j:=14) (idx:=[0,1,2,3,4,6,7,8,9,10,11,12,13]) rfl rfl (by kernel_rfl) rfl (yJ (eS (by omega)) (tU hI.toInv0 hi2 mO hlv)) ((wD (eS (by omega)) (tU hI.toInv0 hi2 mO hlv) rfl))) ?_
   exact tJ ((i+1),Ht,Cz,(K.put i Bu c11 none 0)) [4,5,0,1,6,7,8,9,10,2,11,12] ((by omega))
  ·have hkt:(obj S.O tk).kind=2:=hI.kind hlv
   have hel:(obj S.O tk).ah.length<=8192:=hI.je hlv
   have hdl:(obj S.O tk).data.length<=140737488355328:=hI.Ny hlv
   refine af.region (jK 5 [28,29] [(3,a_ 6 f)] ?_)
   refine ak.iY 7 (d:=(some 30)) (t:=78) (K:=3) (E:=82) (b:=m) (n:=S.idx.length) (f:=(bB (bC L S.idx))) (x:=(.tmp 28)) (ix:=(.tmp 29)) (key:=.int .i64 ((dS S i))) (z:=.nilIface) (kl:=(.int .i64 (dS S i))) (r:=(some (eV L ⟨tk,2⟩))) (fun _=>by kernel_rfl) (by kernel_rfl) (fun _=>by kernel_rfl) (fun _=>by kernel_rfl) gT Tryz.underlying78 (fun _=>by kernel_rfl) (mE (FD hI.toInv0 hi2)) (by rw [iZ,hget,mO];rfl) ?_
   refine jK 1 [6] [] ?_
   refine NS (jK 1 [31] [] ?_)
   refine gL [] (dF (L.b tk)) ?_
   rintro _ _ ⟨rfl,rfl⟩
   refine jK 1 [7] [] ?_
   refine NN (af.seq (af.rQ (S:=[pO S.O L]) [0,1,3,4,5,6,7,8,9,10,11,12,13,14,15,16,17,18] [.beside [2,19] 20,.one 21] [8] (by kernel_rfl) (by kernel_rfl) rfl (by kernel_rfl) ?_))
   refine gP (Bq f b4 b5++[(6,.iface 94 (vP (L.b tk)))]++Bt A7 S c8 i++[(33,vI ((dS S i))),(34,.iface 94 (vP (L.b tk)))]++Ga S tk) [0,1,3,4,5,6,7,8,9,10,11,12,13,14,15,16,17,18] [(5,v_ 0 (vV L hkt)),(9,v_ 0 (Cb L hkt)),(13,v_ 0 (Cc L hkt)),(17,p_ ⟨[.view 0 (.int .i64 ((obj S.O tk).sec)),.view 0 (.int .i64 ((obj S.O tk).nano))],none,none,none,none⟩ [(∀ F w,(aG (cF S.O L)).h F w->w.cell? ⟨(L.b tk),5,none⟩=some (vI ((obj S.O tk).nano))),(∀ F w,(aG (cF S.O L)).h F w->w.cell? ⟨(L.b tk),4,none⟩=some (vI ((obj S.O tk).sec)))] ⟨fD (by rw [hkt];decide) (rfl),fD (by rw [hkt];decide) (rfl),trivial⟩)] ?_
   refine iP.beside (j:=20) (dj:=8) (R:=fun f_ l_=>f_=([(52,.agg #[vI ((dS S i)),vI 2,vI ((obj S.O tk).mode),vI ((obj S.O tk).uid),vI ((obj S.O tk).gid),vI ((obj S.O tk).sec),vI ((obj S.O tk).nano),.slice none (0) (0),.string ⟨#[]⟩,.slice none (0) (0)]),(35,vI 2)]++Bq f b4 b5++[(6,.iface 94 (vP (L.b tk)))]++Bt A7 S c8 i++[(33,vI ((dS S i))),(34,.iface 94 (vP (L.b tk)))]++Ga S tk)/\l_=[]) [0,1,2,3,4,5,6,7,8,9,10,11] [8] [(2,35),(19,52)] rfl (pc:=[]) (pj:=[]) (Z:=(Br b5 An i cn K S A7 c8 b4 f m t L++[pD S.O L,pE S.O L,.abs R])) (by kernel_rfl) rfl (by kernel_rfl) rfl rfl (ic.of (ι:=Nat) (v:=fun (b15:Nat)=>vP b15) (l:=fun (b15:Nat)=>[Zs b15]) [35,52] rfl rfl rfl rfl ?_) ?_ ?_
   ·intro u Aq
    refine jN 1 [8] (fun _=>[]) (fun _=>[]) (fun b15=>.blk b15 [vI 0,vI 0,vI 0,vI 0,vI 0,vI 0,vI 0,.slice none (0) (0),.string ⟨#[]⟩,.slice none (0) (0)] 66) (fun b15=>?_)
    refine NL ?_
    exact MD b15 [8,35,52,0,2,3,6,19,20,21,33,34,39,43,47,51] [1,0]
   ·refine kr.step (ic.of (ι:=Unit) (v:=fun (_:Unit)=>.int .i64 2) (l:=fun (_:Unit)=>[]) [8] rfl rfl rfl rfl ?_) rfl ?_
    ·intro u Aq
     refine gL [] (pJ (vP (L.b tk))) ?_
     rintro _ _ ⟨rfl,rfl⟩
     refine NL ?_
     exact MD () [35,8,0,2,3,6,19,20,21,33,34,39,43,47,51] [0]
    rintro _ _ ⟨_,rfl,rfl⟩
    refine kr.step (ic.of (ι:=Unit) (v:=fun (_:Unit)=>.agg #[vI ((dS S i)),vI 2,vI ((obj S.O tk).mode),vI ((obj S.O tk).uid),vI ((obj S.O tk).gid),vI ((obj S.O tk).sec),vI ((obj S.O tk).nano),.slice none (0) (0),.string ⟨#[]⟩,.slice none (0) (0)]) (l:=fun (_:Unit)=>[]) [8] rfl rfl rfl rfl ?_) rfl ?_
    ·intro u Aq
     refine jK 1 [52] [] ?_
     refine NL ?_
     exact MD () [52,8,35,0,2,3,6,19,20,21,33,34,39,43,47,51] [0]
    rintro _ _ ⟨_,rfl,rfl⟩
    exact⟨rfl,rfl⟩
   rintro _ _ ⟨rfl,rfl⟩ _ _ ⟨b15,rfl,rfl⟩
   refine iP.last rfl rfl ?_
   refine jC 1 [] [(0,A_ 0 b15 10)] [(0,([(0,vI ((dS S i))),(1,vI 2)]++UN S tk))] ?_
   refine NL (ai.np (NX (af.seq (SR ?_))))
   refine jK 1 [53] [] ?_
   refine NN (af.block (SR ?_))
   refine jK 3 [55,56] [] ?_
   refine NN (CF (SR (jK 3 [64,65] [] ?_)))
   refine NN (CF (SR (jK 3 [72,73] [] ?_)))
   refine NN (CT (SR (jK 1 [11] [] ?_)))
   refine NS (jK 4 [77] [(3,v_ 9 (bQ L hkt))] ?_)
   refine ak.mem (fun w hS=>hS.XD (i:=11) (k:=tk) rfl (hkt)) ?_
   refine gL [] (TH (some (L.m tk))) ?_
   rintro _ _ ⟨b16,rfl,rfl⟩
   refine gL [14,0] (N5 L (L.m tk) b16 (obj S.O tk).ah.length (obj S.O tk).ah (hI.sorted _ hlv) hel) ?_
   rintro _ _ ⟨kK,lP,rfl,rfl⟩
   refine jK 1 [80] [] ?_
   refine ak.mem (fun w hS=>hS.kX (e:=68) (size:=2)) ?_
   refine jK 1 [81] [] ?_
   refine NN (af.block ?_)
   refine lJ (fun (j,Ae,ce)=>(j<=(obj S.O tk).ah.length)) (fun (j,Ae,ce)=>(obj S.O tk).ah.length - j) (fun (j,Ae,ce)=>(Bq f b4 b5++[(8,vP b15),(11,vP (L.b tk))]++Bt A7 S c8 i++[(79,.slice kK ((obj S.O tk).ah.length) (lP)),(80,vI ↑((obj S.O tk).ah.length)),(81,vI ↑j)])) (fun (j,Ae,ce)=>([OX b15 S i tk Ae j ce,.abs (ay 68 2 Ae j ce (jt (((obj S.O tk).ah.take j).map (dL S.O)))),OW L tk S,.blk b16 [.map (some (L.m tk))] 95,OY kK S tk lP]++Br b5 An i cn K S A7 c8 b4 f m t L++[pD S.O L,Zt S L tk,.abs R])) (0,none,0) [3,16,0,1,2,4,5,6,7,8,9,10,11,12,13,14,15] ((Nat.zero_le _)) ?_
   rintro⟨j,Ae,ce⟩ hj
   refine SR (jK 1 [82] [] ?_)
   refine NN (af.seq (cP ((((j:Nat):Int):Int) < ((((obj S.O tk).ah.length:Nat):Int):Int)) (fun h82=>?_) (fun h82=>?_)))
   ·have hj2:j < (obj S.O tk).ah.length:=by omega
    refine af.skip (NX (af.seq (af.block (SR ?_))))
    refine ak.tell (p:=(kK=some ⟨aP kK,aO kK,none⟩)) (fun w hS=>let ⟨F,h⟩:=hS.get (i:=4) rfl;(ay.DK h (by omega)).1) (fun hAs=>?_)
    refine jK 3 [13] [(0,x_ j ((obj S.O tk).ah.length) (hAs)),(1,p_ ⟨[.view 4 (.string (jY (obj S.O tk).ah j))],none,none,none,none⟩ [(∀ F w,(ay 9 1 kK ((obj S.O tk).ah.length) lP (tS (obj S.O tk).ah)).h F w->w.cell? ⟨(aP kK),aO kK+j * 1,none⟩=some (.string (jY (obj S.O tk).ah j)))] ⟨ay.cellAt (i:=j) (j:=0) (by omega) (N6 hj2),trivial⟩)] ?_
    refine NN ?_
    obtain⟨hgd,h4⟩:=aa6 hI.toInv0 hlv hj2
    have hgs:(jY (obj S.O tk).ah j).size<=255:=hgd.2.1
    rcases h4 with ⟨ek,hle,DA,R7⟩|⟨ek,hle,DA,R7⟩|⟨ek,hle,DA,R7⟩
    ·have hke:(obj S.O ek).kind=1:=hI.kind DA
     refine rM (List.range 18) 9 [2,13,0] ?_
     refine jR 8 [0,2,3,8,11,19,20,21,79,80,81,86,87,91,92] [(1,a_ 2 b15),(6,v_ 1 (bQ L hkt))] ?_
     refine aY.iY 0 (d:=(some 93)) (t:=95) (K:=9) (E:=82) (b:=(L.m tk)) (cnt:=(obj S.O tk).ah.length) (f:=(jJ L (obj S.O tk).ah)) (x:=(.tmp 91)) (ix:=(.tmp 92)) (key:=.string (jY (obj S.O tk).ah j)) (z:=.nilIface) (kl:=(.string (jY (obj S.O tk).ah j).data.toList)) (q:=(some (eV L ⟨ek,1⟩))) (by kernel_rfl) (by kernel_rfl) (fun _=>by kernel_rfl) (fun _=>by kernel_rfl) C0 Tryz.underlying95 (fun _=>by kernel_rfl) (Ff (by omega)) (by rw [uP,hle];rfl) (by kernel_rfl) ?_
     refine mL [2,13,0] [] (dF (L.b ek)) ?_ (by rintro _ _ ⟨rfl,rfl⟩;rfl)
     rintro _ _ ⟨rfl,rfl⟩
     refine nC [2,13,0] [95] [] [] ?_
     refine nC [2,13,0] [96] [] [] ?_
     refine nC [2,13,0] [97] [(0,v_ 13 (ug L hke))] [] ?_
     refine nC [2,13,0] [98] [] [] ?_
     refine mN [2,13,0] (fun b19=>[(99,.slice (some ⟨b19,0,none⟩) (1) (1))]) (fun _=>[]) (fun b19=>.blk b19 [.string (jY (obj S.O tk).ah j),vI ((obj S.O ek).id)] 68) (fun b19=>?_)
     refine aY.cut (ι:=(Option Addr)×Nat) (fr':=fun ((ju,jv):(Option Addr)×Nat)=>(UM f b4 b5 b15 L tk A7 S c8 i kK lP j ju jv)) (hp':=fun ((ju,jv):(Option Addr)×Nat)=>([OX b15 S i tk Ae j ce,UL ju j jv S tk,OW L tk S,.blk b16 [.map (some (L.m tk))] 95,OY kK S tk lP]++Br b5 An i cn K S A7 c8 b4 f m t L++UO S L tk R b19 j ek)) [2,13,0] rfl rfl ?_ rfl (fun _=>by kernel_rfl) ?_
     ·refine jZ 1 64 (some ⟨b19,0,none⟩) 1 1 [.string (jY (obj S.O tk).ah j),vI ((obj S.O ek).id)] rfl (dV (j:=17) rfl) (fun ju jv=>?_) (hl:=rfl)
      refine ak.bM 1 rfl (congrArg (fun x=>HP.abs (ay 68 2 _ _ _ x)) (AO hj2 R7)) ?_
      refine sl 100 (.slice ju (j+1) (jv)) (.slice ju ((j+1)) (jv)) (rfl) ?_
      refine NL ?_
      exact MD (ju,jv) [0,2,3,8,11,19,20,21,79,80,81,100] [0,1,2,3,4,5,6,7,8,9,10,11,12,13,14,15,16,17]
     rintro⟨ju,jv⟩
     refine nC [2,13,0] [101] [] [] ?_
     refine aY.last rfl rfl ?_
     refine jC 1 [] [(0,a_ 0 b15)] [(0,[(9,.slice ju ((j+1)) (jv))])] ?_
     refine NL (ai.np (ai.ax (NX (af.region ?_))))
     refine jK 2 [81] [(0,wJ ((j:Int)+1) (↑(j+1)))] ?_
     refine NL ?_
     exact tJ ((j+1),ju,jv) [0,1,2,3,4,5,6,7,8,9,10,11,12,13,14,15,16] ((by omega))
    ·have hke:(obj S.O ek).kind=2:=hI.kind DA
     refine rM (List.range 18) 9 [2,13,0] ?_
     refine jR 8 [0,2,3,8,11,19,20,21,79,80,81,86,87,91,92] [(1,a_ 2 b15),(6,v_ 1 (bQ L hkt))] ?_
     refine aY.iY 0 (d:=(some 93)) (t:=95) (K:=9) (E:=82) (b:=(L.m tk)) (cnt:=(obj S.O tk).ah.length) (f:=(jJ L (obj S.O tk).ah)) (x:=(.tmp 91)) (ix:=(.tmp 92)) (key:=.string (jY (obj S.O tk).ah j)) (z:=.nilIface) (kl:=(.string (jY (obj S.O tk).ah j).data.toList)) (q:=(some (eV L ⟨ek,2⟩))) (by kernel_rfl) (by kernel_rfl) (fun _=>by kernel_rfl) (fun _=>by kernel_rfl) C0 Tryz.underlying95 (fun _=>by kernel_rfl) (Ff (by omega)) (by rw [uP,hle];rfl) (by kernel_rfl) ?_
     refine mL [2,13,0] [] (dF (L.b ek)) ?_ (by rintro _ _ ⟨rfl,rfl⟩;rfl)
     rintro _ _ ⟨rfl,rfl⟩
     refine nC [2,13,0] [95] [] [] ?_
     refine nC [2,13,0] [96] [] [] ?_
     refine nC [2,13,0] [97] [(0,v_ 13 (ug L hke))] [] ?_
     refine nC [2,13,0] [98] [] [] ?_
     refine mN [2,13,0] (fun iK=>[(99,.slice (some ⟨iK,0,none⟩) (1) (1))]) (fun _=>[]) (fun iK=>.blk iK [.string (jY (obj S.O tk).ah j),vI ((obj S.O ek).id)] 68) (fun iK=>?_)
     refine aY.cut (ι:=(Option Addr)×Nat) (fr':=fun ((o7,o8):(Option Addr)×Nat)=>(UM f b4 b5 b15 L tk A7 S c8 i kK lP j o7 o8)) (hp':=fun ((o7,o8):(Option Addr)×Nat)=>([OX b15 S i tk Ae j ce,UL o7 j o8 S tk,OW L tk S,.blk b16 [.map (some (L.m tk))] 95,OY kK S tk lP]++Br b5 An i cn K S A7 c8 b4 f m t L++UO S L tk R iK j ek)) [2,13,0] rfl rfl ?_ rfl (fun _=>by kernel_rfl) ?_
     ·refine jZ 1 64 (some ⟨iK,0,none⟩) 1 1 [.string (jY (obj S.O tk).ah j),vI ((obj S.O ek).id)] rfl (dV (j:=17) rfl) (fun o7 o8=>?_) (hl:=rfl)
      refine ak.bM 1 rfl (congrArg (fun x=>HP.abs (ay 68 2 _ _ _ x)) (AO hj2 R7)) ?_
      refine sl 100 (.slice o7 (j+1) (o8)) (.slice o7 ((j+1)) (o8)) (rfl) ?_
      refine NL ?_
      exact MD (o7,o8) [0,2,3,8,11,19,20,21,79,80,81,100] [0,1,2,3,4,5,6,7,8,9,10,11,12,13,14,15,16,17]
     rintro⟨o7,o8⟩
     refine nC [2,13,0] [101] [] [] ?_
     refine aY.last rfl rfl ?_
     refine jC 1 [] [(0,a_ 0 b15)] [(0,[(9,.slice o7 ((j+1)) (o8))])] ?_
     refine NL (ai.np (ai.ax (NX (af.region ?_))))
     refine jK 2 [81] [(0,wJ ((j:Int)+1) (↑(j+1)))] ?_
     refine NL ?_
     exact tJ ((j+1),o7,o8) [0,1,2,3,4,5,6,7,8,9,10,11,12,13,14,15,16] ((by omega))
    have hke:(obj S.O ek).kind=3:=hI.kind DA
    refine rM (List.range 18) 9 [2,13,0] ?_
    refine jR 8 [0,2,3,8,11,19,20,21,79,80,81,86,87,91,92] [(1,a_ 2 b15),(6,v_ 1 (bQ L hkt))] ?_
    refine aY.iY 0 (d:=(some 93)) (t:=95) (K:=9) (E:=82) (b:=(L.m tk)) (cnt:=(obj S.O tk).ah.length) (f:=(jJ L (obj S.O tk).ah)) (x:=(.tmp 91)) (ix:=(.tmp 92)) (key:=.string (jY (obj S.O tk).ah j)) (z:=.nilIface) (kl:=(.string (jY (obj S.O tk).ah j).data.toList)) (q:=(some (eV L ⟨ek,3⟩))) (by kernel_rfl) (by kernel_rfl) (fun _=>by kernel_rfl) (fun _=>by kernel_rfl) C0 Tryz.underlying95 (fun _=>by kernel_rfl) (Ff (by omega)) (by rw [uP,hle];rfl) (by kernel_rfl) ?_
    refine mL [2,13,0] [] (dF (L.b ek)) ?_ (by rintro _ _ ⟨rfl,rfl⟩;rfl)
    rintro _ _ ⟨rfl,rfl⟩
    refine nC [2,13,0] [95] [] [] ?_
    refine nC [2,13,0] [96] [] [] ?_
    refine nC [2,13,0] [97] [(0,v_ 13 (ug L hke))] [] ?_
    refine nC [2,13,0] [98] [] [] ?_
    refine mN [2,13,0] (fun o9=>[(99,.slice (some ⟨o9,0,none⟩) (1) (1))]) (fun _=>[]) (fun o9=>.blk o9 [.string (jY (obj S.O tk).ah j),vI ((obj S.O ek).id)] 68) (fun o9=>?_)
    refine aY.cut (ι:=(Option Addr)×Nat) (fr':=fun ((mQ,mR):(Option Addr)×Nat)=>(UM f b4 b5 b15 L tk A7 S c8 i kK lP j mQ mR)) (hp':=fun ((mQ,mR):(Option Addr)×Nat)=>([OX b15 S i tk Ae j ce,UL mQ j mR S tk,OW L tk S,.blk b16 [.map (some (L.m tk))] 95,OY kK S tk lP]++Br b5 An i cn K S A7 c8 b4 f m t L++UO S L tk R o9 j ek)) [2,13,0] rfl rfl ?_ rfl (fun _=>by kernel_rfl) ?_
    ·refine jZ 1 64 (some ⟨o9,0,none⟩) 1 1 [.string (jY (obj S.O tk).ah j),vI ((obj S.O ek).id)] rfl (dV (j:=17) rfl) (fun mQ mR=>?_) (hl:=rfl)
     refine ak.bM 1 rfl (congrArg (fun x=>HP.abs (ay 68 2 _ _ _ x)) (AO hj2 R7)) ?_
     refine sl 100 (.slice mQ (j+1) (mR)) (.slice mQ ((j+1)) (mR)) (rfl) ?_
     refine NL ?_
     exact MD (mQ,mR) [0,2,3,8,11,19,20,21,79,80,81,100] [0,1,2,3,4,5,6,7,8,9,10,11,12,13,14,15,16,17]
    rintro⟨mQ,mR⟩
    refine nC [2,13,0] [101] [] [] ?_
    refine aY.last rfl rfl ?_
    refine jC 1 [] [(0,a_ 0 b15)] [(0,[(9,.slice mQ ((j+1)) (mR))])] ?_
    refine NL (ai.np (ai.ax (NX (af.region ?_))))
    refine jK 2 [81] [(0,wJ ((j:Int)+1) (↑(j+1)))] ?_
    refine NL ?_
    exact tJ ((j+1),mQ,mR) [0,1,2,3,4,5,6,7,8,9,10,11,12,13,14,15,16] ((by omega))
   refine af.exit (ai.aC (ai.aC (ai.aW (ai.ax (NX (af.region ?_))))))
   have hjl:j=(obj S.O tk).ah.length:=by omega
   refine ak.mem (fun w hS=>hS.XE (i:=15) (j:=2) (idx:=[0,1,3,4,5,6,7,8,9,10,11,12,13,14,16]) (k:=tk) rfl rfl (by kernel_rfl) rfl (hkt)) ?_
   refine jN 4 [104,106] (fun fF=>[(1,a_ 5 b5),(2,A_ 1 b15 10)]) (fun _=>[]) (fun fF=>.blk fF [vI ((dS S i)),vI 2,vI ((obj S.O tk).mode),vI ((obj S.O tk).uid),vI ((obj S.O tk).gid),vI ((obj S.O tk).sec),vI ((obj S.O tk).nano),.slice none (0) (0),.string ⟨#[]⟩,.slice Ae (j) (ce)] 66) (fun fF=>?_)
   refine jZ 6 22 (some ⟨fF,0,none⟩) 1 1 [vI ((dS S i)),vI 2,vI ((obj S.O tk).mode),vI ((obj S.O tk).uid),vI ((obj S.O tk).gid),vI ((obj S.O tk).sec),vI ((obj S.O tk).nano),.slice none (0) (0),.string ⟨#[]⟩,.slice Ae (j) (ce)] rfl (dV (j:=16) rfl) (fun vK vL=>?_) (hl:=rfl)
   refine ak.bM 6 rfl (congrArg (fun x=>HP.abs (ay 66 10 _ _ _ x)) (rK (eS (by omega)) (vF hI.toInv0 hi2 mO hlv) rfl (by grind))) ?_
   refine sl 107 (.slice vK (i+1) (vL)) (.slice vK ((i+1)) (vL)) (rfl) ?_
   refine jC 2 [] [(1,a_ 5 b5)] [(5,[(0,.slice vK ((i+1)) (vL))])] ?_
   refine NL (ai.ax (NX (af.region ?_)))
   refine jK 2 [21] [(0,wJ ((i:Int)+1) (↑(i+1)))] ?_
   refine NL (ai.mem (fun w hS=>hS.kX (e:=5) (size:=1)) ?_)
   refine ai.mem (fun w hS=>hS.qW (R':=(jL ((aE S).take (i+1)) (K.put i none 0 Ae ce))) (i:=8) (j:=17) (idx:=[0,1,2,3,4,5,6,7,9,10,11,12,13,14,15,16]) rfl rfl (by kernel_rfl) rfl (yI (eS (by omega)) (vF hI.toInv0 hi2 mO hlv)) (wC (eS (by omega)) (vF hI.toInv0 hi2 mO hlv) rfl)) ?_
   refine ai.mem (fun w hS=>hS.qW (R':=(og ((aE S).take (i+1)) (K.put i none 0 Ae ce))) (i:=8) (j:=3) (idx:=[0,1,2,4,5,6,7,9,10,11,12,13,14,15,16]) rfl rfl (by kernel_rfl) rfl (yJ (eS (by omega)) (vF hI.toInv0 hi2 mO hlv)) ((wD (eS (by omega)) (vF hI.toInv0 hi2 mO hlv) (by show ((obj S.O tk).ah.map (dL S.O)).length=j;rw [List.length_map,hjl])).trans (by rw [hjl,List.take_length]))) ?_
   exact tJ ((i+1),vK,vL,(K.put i none 0 Ae ce)) [6,7,0,1,8,9,10,11,12,13,2,14] ((by omega))
  have hkt:(obj S.O tk).kind=3:=hI.kind hlv
  have hel:(obj S.O tk).ah.length<=8192:=hI.je hlv
  have hdl:(obj S.O tk).data.length<=140737488355328:=hI.Ny hlv
  refine af.region (jK 5 [28,29] [(3,a_ 6 f)] ?_)
  refine ak.iY 7 (d:=(some 30)) (t:=78) (K:=3) (E:=82) (b:=m) (n:=S.idx.length) (f:=(bB (bC L S.idx))) (x:=(.tmp 28)) (ix:=(.tmp 29)) (key:=.int .i64 ((dS S i))) (z:=.nilIface) (kl:=(.int .i64 (dS S i))) (r:=(some (eV L ⟨tk,3⟩))) (fun _=>by kernel_rfl) (by kernel_rfl) (fun _=>by kernel_rfl) (fun _=>by kernel_rfl) gT Tryz.underlying78 (fun _=>by kernel_rfl) (mE (FD hI.toInv0 hi2)) (by rw [iZ,hget,mO];rfl) ?_
  refine jK 1 [6] [] ?_
  refine NS (jK 1 [31] [] ?_)
  refine gL [] (dF (L.b tk)) ?_
  rintro _ _ ⟨rfl,rfl⟩
  refine jK 1 [7] [] ?_
  refine NN (af.seq (af.rQ (S:=[pO S.O L]) [0,1,3,4,5,6,7,8,9,10,11,12,13,14,15,16,17,18] [.beside [2,19] 20,.one 21] [8] (by kernel_rfl) (by kernel_rfl) rfl (by kernel_rfl) ?_))
  refine gP (Bq f b4 b5++[(6,.iface 91 (vP (L.b tk)))]++Bt A7 S c8 i++[(33,vI ((dS S i))),(34,.iface 91 (vP (L.b tk)))]++Ga S tk) [0,1,3,4,5,6,7,8,9,10,11,12,13,14,15,16,17,18] [(5,v_ 0 (vV L hkt)),(9,v_ 0 (Cb L hkt)),(13,v_ 0 (Cc L hkt)),(17,p_ ⟨[.view 0 (.int .i64 ((obj S.O tk).sec)),.view 0 (.int .i64 ((obj S.O tk).nano))],none,none,none,none⟩ [(∀ F w,(aG (cF S.O L)).h F w->w.cell? ⟨(L.b tk),5,none⟩=some (vI ((obj S.O tk).nano))),(∀ F w,(aG (cF S.O L)).h F w->w.cell? ⟨(L.b tk),4,none⟩=some (vI ((obj S.O tk).sec)))] ⟨fD (by rw [hkt];decide) (rfl),fD (by rw [hkt];decide) (rfl),trivial⟩)] ?_
  refine iP.beside (j:=20) (dj:=8) (R:=fun f_ l_=>f_=([(52,.agg #[vI ((dS S i)),vI 3,vI ((obj S.O tk).mode),vI ((obj S.O tk).uid),vI ((obj S.O tk).gid),vI ((obj S.O tk).sec),vI ((obj S.O tk).nano),.slice none (0) (0),.string ⟨#[]⟩,.slice none (0) (0)]),(35,vI 3)]++Bq f b4 b5++[(6,.iface 91 (vP (L.b tk)))]++Bt A7 S c8 i++[(33,vI ((dS S i))),(34,.iface 91 (vP (L.b tk)))]++Ga S tk)/\l_=[]) [0,1,2,3,4,5,6,7,8,9,10,11] [8] [(2,35),(19,52)] rfl (pc:=[]) (pj:=[]) (Z:=(Br b5 An i cn K S A7 c8 b4 f m t L++[pD S.O L,pE S.O L,.abs R])) (by kernel_rfl) rfl (by kernel_rfl) rfl rfl (ic.of (ι:=Nat) (v:=fun (qA:Nat)=>vP qA) (l:=fun (qA:Nat)=>[Zs qA]) [35,52] rfl rfl rfl rfl ?_) ?_ ?_
  ·intro u Aq
   refine jN 1 [8] (fun _=>[]) (fun _=>[]) (fun qA=>.blk qA [vI 0,vI 0,vI 0,vI 0,vI 0,vI 0,vI 0,.slice none (0) (0),.string ⟨#[]⟩,.slice none (0) (0)] 66) (fun qA=>?_)
   refine NL ?_
   exact MD qA [8,35,52,0,2,3,6,19,20,21,33,34,39,43,47,51] [1,0]
  ·refine kr.step (ic.of (ι:=Unit) (v:=fun (_:Unit)=>.int .i64 3) (l:=fun (_:Unit)=>[]) [8] rfl rfl rfl rfl ?_) rfl ?_
   ·intro u Aq
    refine gL [] (qO (vP (L.b tk))) ?_
    rintro _ _ ⟨rfl,rfl⟩
    refine NL ?_
    exact MD () [35,8,0,2,3,6,19,20,21,33,34,39,43,47,51] [0]
   rintro _ _ ⟨_,rfl,rfl⟩
   refine kr.step (ic.of (ι:=Unit) (v:=fun (_:Unit)=>.agg #[vI ((dS S i)),vI 3,vI ((obj S.O tk).mode),vI ((obj S.O tk).uid),vI ((obj S.O tk).gid),vI ((obj S.O tk).sec),vI ((obj S.O tk).nano),.slice none (0) (0),.string ⟨#[]⟩,.slice none (0) (0)]) (l:=fun (_:Unit)=>[]) [8] rfl rfl rfl rfl ?_) rfl ?_
   ·intro u Aq
    refine jK 1 [52] [] ?_
    refine NL ?_
    exact MD () [52,8,35,0,2,3,6,19,20,21,33,34,39,43,47,51] [0]
   rintro _ _ ⟨_,rfl,rfl⟩
   exact⟨rfl,rfl⟩
  rintro _ _ ⟨rfl,rfl⟩ _ _ ⟨qA,rfl,rfl⟩
  refine iP.last rfl rfl ?_
  refine jC 1 [] [(0,A_ 0 qA 10)] [(0,([(0,vI ((dS S i))),(1,vI 3)]++UN S tk))] ?_
  refine NL (ai.np (NX (af.seq (SR ?_))))
  refine jK 1 [53] [] ?_
  refine NN (af.block (SR ?_))
  refine jK 3 [55,56] [] ?_
  refine NN (CF (SR (jK 3 [64,65] [] ?_)))
  refine NN (CT (SR (jK 1 [10] [] ?_)))
  refine NN (af.region (jC 6 [] [(3,v_ 9 (aay L hkt)),(5,a_ 0 qA)] [(0,[(8,.string (obj S.O tk).target)])] ?_))
  refine NL (ai.ax (NX (af.region ?_)))
  refine jN 4 [104,106] (fun b32=>[(1,a_ 1 b5),(2,A_ 0 qA 10)]) (fun _=>[]) (fun b32=>.blk b32 [vI ((dS S i)),vI 3,vI ((obj S.O tk).mode),vI ((obj S.O tk).uid),vI ((obj S.O tk).gid),vI ((obj S.O tk).sec),vI ((obj S.O tk).nano),.slice none (0) (0),.string (obj S.O tk).target,.slice none (0) (0)] 66) (fun b32=>?_)
  refine jZ 2 22 (some ⟨b32,0,none⟩) 1 1 [vI ((dS S i)),vI 3,vI ((obj S.O tk).mode),vI ((obj S.O tk).uid),vI ((obj S.O tk).gid),vI ((obj S.O tk).sec),vI ((obj S.O tk).nano),.slice none (0) (0),.string (obj S.O tk).target,.slice none (0) (0)] rfl (dV (j:=13) rfl) (fun Hl Ho=>?_) (hl:=rfl)
  refine ak.bM 2 rfl (congrArg (fun x=>HP.abs (ay 66 10 _ _ _ x)) (rK (eS (by omega)) (tV hI.toInv0 hi2 mO hlv) rfl rfl)) ?_
  refine sl 107 (.slice Hl (i+1) (Ho)) (.slice Hl ((i+1)) (Ho)) (rfl) ?_
  refine jC 2 [] [(1,a_ 1 b5)] [(1,[(0,.slice Hl ((i+1)) (Ho))])] ?_
  refine NL (ai.ax (NX (af.region ?_)))
  refine jK 2 [21] [(0,wJ ((i:Int)+1) (↑(i+1)))] ?_
  refine NL (ai.mem (fun w hS=>hS.kX (e:=5) (size:=1)) ?_)
  refine ai.mem (fun w hS=>hS.kX (e:=68) (size:=2)) ?_
  refine ai.mem (fun w hS=>hS.qW (R':=(jL ((aE S).take (i+1)) (K.put i none 0 none 0))) (i:=4) (j:=14) (idx:=[0,1,2,3,5,6,7,8,9,10,11,12,13,15]) rfl rfl (by kernel_rfl) rfl (yI (eS (by omega)) (tV hI.toInv0 hi2 mO hlv)) (wC (eS (by omega)) (tV hI.toInv0 hi2 mO hlv) rfl)) ?_
  refine ai.mem (fun w hS=>hS.qW (R':=(og ((aE S).take (i+1)) (K.put i none 0 none 0))) (i:=4) (j:=14) (idx:=[0,1,2,3,5,6,7,8,9,10,11,12,13]) rfl rfl (by kernel_rfl) rfl (yJ (eS (by omega)) (tV hI.toInv0 hi2 mO hlv)) ((wD (eS (by omega)) (tV hI.toInv0 hi2 mO hlv) rfl))) ?_
  exact tJ ((i+1),Hl,Ho,(K.put i none 0 none 0)) [3,4,0,1,5,6,7,8,9,10,11,12] ((by omega))
 refine af.exit (ai.aC (ai.aC (ai.aW (NX (SR ?_)))))
 have hie:(aE S).length=i:=by rw [eZ];omega
 have hgt:((aE S).take i)=(aE S):=by rw [← hie,List.take_length]
 refine ak.bM 1 (p:=.abs (ay 66 10 An i cn (aR K ((aE S).take i)))) (p':=.abs (ay 66 10 An ((aE S).length) cn (aR K (aE S)))) (by kernel_rfl) (by rw [hgt,hie]) ?_
 refine ak.bM 2 (p:=.abs (jd (og ((aE S).take i) K) i)) (p':=.abs (jd (og (aE S) K) ((aE S).length))) (by kernel_rfl) (by rw [hgt,hie]) ?_
 refine ak.bM 3 (p:=.abs (jd (jL ((aE S).take i) K) i)) (p':=.abs (jd (jL (aE S) K) ((aE S).length))) (by kernel_rfl) (by rw [hgt,hie]) ?_
 refine jC 2 [] [(0,a_ 0 b5),(1,a_ 5 b4)] [(5,[(0,.slice An (i) (cn))])] ?_
 refine NN (af.ret ?_)
 exact rT _ [a_ 5 b4] [6,7,8,9,10,1,2,3,11] (⟨An,cn,K,by rw [hie],rfl⟩)
end
section
open Go.RowKit Go.Maps aX aq
attribute [local irreducible] ak aU af ai aY iP
abbrev Nc (b2:Nat) (X:FM):=(.blk b2 [vI (X.cN),vI (X.cB),vI (X.cH),vI (X.cS),vI (X.cZ)] 28:HP)
abbrev EV (b1:Nat) (A:Option Addr) (ns:List aA) (c):=(.blk b1 [.slice A (ns.length) (c)] 24:HP)
abbrev zl3 (b8:Nat) (Y) (k:Nat) (ns):=(.blk b8 (eT Y k (nd ns k)) 66:HP)
abbrev zl4 (b9:Nat) (ns) (k:Nat):=(.blk b9 [vI ((nd ns k).id),vI ((nd ns k).mode),vI ((nd ns k).uid),vI ((nd ns k).gid),vI ((nd ns k).sec),vI ((nd ns k).nano),vI 0,vI 0,.bool false] 86:HP)
abbrev Zu (b1:Nat) (X:FM):=([(2,vP b1),(39,.agg #[vI (X.cN),vI (X.cB),vI (X.cH),vI (X.cS),vI (X.cZ)])]:Fr)
abbrev R8 (b7:Nat) (m3:Nat) (t4:Nat) (S:aI) (L:HL) (R:cO):=([pF b7 m3 t4 S.X,pI m3 L S.idx,pT t4 S.X.cH S.av L S.us,pO S.O L,pD S.O L,pE S.O L,.abs R]:List HP)
theorem Gc {β:Bs} (A:Option Addr) (c:Nat) (ns:List aA) (Y:Lay) (hG:aB β A ns Y) (hl:ns.length<=1048576) (hd:∀ i,i < ns.length->(nd ns i).data.length<=1048576/\(nd ns i).ah.length<=1048576) (hwf:∀ i,i < ns.length->∀ j,j < (nd ns i).ah.length->-9223372036854775808<=(ent ns i j).id/\(ent ns i j).id<=9223372036854775807) (hnm:∀ i,i < ns.length->∀ j,j < (nd ns i).ah.length->(ent ns i j).name.size<=1048576) (X:FM) :
    Spec Tryz.prog β 6 #[.agg #[.slice A (ns.length) (c)],.agg #[vI (X.cN),vI (X.cB),vI (X.cH),vI (X.cS),vI (X.cZ)]] [] (fun v l=>(¬ kQ X/\v=.tuple #[.pointer none,vI 179]/\l=[])\/(kQ X/\¬ aV ns/\v=.tuple #[.pointer none,vI 140]/\l=[])\/(kQ X/\aV ns/\∃ S f m t L,iJ X ns ns.length 0 S/\v=.tuple #[vP f,vI 0]/\l=pA f m t L S)):=by
 refine SE Tryz.func6 Tryz.ntmps6 (fun R=>?_)
 refine SR (jN 1 [2] (fun _=>[]) (fun _=>[]) (fun b1=>.blk b1 [.slice A (ns.length) (c)] 24) (fun b1=>?_))
 refine jN 3 [3] (fun _=>[]) (fun _=>[]) (fun b2=>.blk b2 [vI (X.cN),vI (X.cB),vI (X.cH),vI (X.cS),vI (X.cZ)] 28) (fun b2=>?_)
 refine NN (af.seq (SR (jK 2 [15] [(1,a_ 2 b2)] ?_)))
 refine gL [] (iy X.cN 4096) ?_
 rintro _ _ ⟨rfl,rfl⟩
 refine jK 2 [18] [] ?_
 refine sN 18 ((0<=X.cN/\X.cN<=4096)) (fun nI=>?_) (fun nI=>?_)
 ·refine jK 17 [35] [] ?_
  refine NN (CT (SR (jK 2 [4,5] [] ?_)))
  refine NN (af.ret (ai.aj ?_))
  exact RT _ [0] (.inl ⟨fun h=>nI h.cN,rfl,rfl⟩)
 refine jK 2 [20] [(1,a_ 2 b2)] ?_
 refine gL [] (iy X.cB 1099511627776) ?_
 rintro _ _ ⟨rfl,rfl⟩
 refine jK 3 [24] [] ?_
 refine sN 24 ((0<=X.cB/\X.cB<=1099511627776)) (fun zk=>?_) (fun zk=>?_)
 ·refine jK 11 [35] [] ?_
  refine NN (CT (SR (jK 2 [4,5] [] ?_)))
  refine NN (af.ret (ai.aj ?_))
  exact RT _ [0] (.inl ⟨fun h=>zk h.cB,rfl,rfl⟩)
 refine jK 2 [26] [(1,a_ 2 b2)] ?_
 refine gL [] (iy X.cH 1024) ?_
 rintro _ _ ⟨rfl,rfl⟩
 refine jK 3 [30] [] ?_
 refine sN 30 ((0<=X.cH/\X.cH<=1024)) (fun lC=>?_) (fun lC=>?_)
 ·refine jK 5 [35] [] ?_
  refine NN (CT (SR (jK 2 [4,5] [] ?_)))
  refine NN (af.ret (ai.aj ?_))
  exact RT _ [0] (.inl ⟨fun h=>lC h.cH,rfl,rfl⟩)
 refine jK 2 [32] [(1,A_ 2 b2 2)] ?_
 refine gL [] (jA X.cS X.cZ) ?_
 rintro _ _ ⟨rfl,rfl⟩
 refine jK 2 [35] [] ?_
 refine NN (cN (dw X.cS X.cZ) (fun nN=>?_) (fun nN=>?_))
 ·refine SR (jK 2 [4,5] [] ?_)
  refine NN (af.ret (ai.aj ?_))
  exact RT _ [0] (.inl ⟨fun h=>nN h.now,rfl,rfl⟩)
 have hcap:kQ X:=⟨nI,zk,lC,nN⟩
 refine af.skip (NX (af.seq (SR (jK 1 [36] [(0,a_ 1 b1)] ?_))))
 refine gL [] (TF A c ns Y hG hl (fun i hi=>⟨Nat.le_trans (hd i hi).1 (by decide),(hd i hi).2⟩) hwf hnm) ?_
 rintro _ _ ⟨rfl,rfl⟩
 refine jK 1 [38] [] ?_
 refine NN (cN (((if aV ns then 0 else 140):Int)=(0:Int)) (fun wk=>?_) (fun wk=>?_))
 ·have Zv:¬ aV ns:=fun h=>wk (if_pos h)
  refine SR (jK 2 [4,5] [] ?_)
  refine NN (af.ret (ai.aj ?_))
  exact RT _ [0] (.inr (.inl ⟨hcap,Zv,rfl,rfl⟩))
 have hok:aV ns:=Classical.byContradiction (fun h=>by grind)
 refine af.skip (NX (af.seq (af.rQ (S:=[Nc b2 X]) [0,2,3] [.two 1 4,.one 5,.one 6,.one 7] [2] (by kernel_rfl) (by kernel_rfl) rfl (by kernel_rfl) ?_)))
 refine gP (Zu b1 X++[(42,vI (X.cH))]) [0,2,3] [(0,A_ 0 b2 5),(2,a_ 0 b2)] ?_
 refine iP.pair (ι:=Nat×Nat) (Yo:=Nat) (Yp:=Nat) (QH:=fun (m3:Nat)=>(Zu b1 X++[(40,.map (some m3)),(42,vI (X.cH))])) (hpi:=fun (m3:Nat)=>[.abs R,EV b1 A ns c,Nc b2 X,.abs (bq Tryz.prog 3 m3 (fun _=>none) 0)]) (QI:=fun (t5:Nat)=>(Zu b1 X++[(43,vP t5)])) (QJ:=fun (t5:Nat)=>[.abs (dJ 140 t5 (min (max X.cH 0) 1024) 0 []),.abs R,EV b1 A ns c,Nc b2 X]) (fr':=fun ((m3,t4):Nat×Nat)=>[(2,vP b1),(39,.agg #[vI (X.cN),vI (X.cB),vI (X.cH),vI (X.cS),vI (X.cZ)]),(40,.map (some m3)),(43,vP t4)]) (hp':=fun ((m3,t4):Nat×Nat)=>[.abs (dJ 140 t4 (min (max X.cH 0) 1024) 0 []),.abs R,EV b1 A ns c,Nc b2 X,.abs (bq Tryz.prog 3 m3 (fun _=>none) 0)]) [2] [3] [3] rfl rfl rfl rfl ?_ ?_ ?_ ?_ rfl (fun _=>by kernel_rfl) rfl (fun _=>by kernel_rfl) rfl (fun _=>by kernel_rfl) ?_
 ·refine ak.qR (d:=(some 40)) (t:=78) (fun _=>by kernel_rfl) Tryz.prog rfl 3 (fun m3=>?_)
  refine NL ?_
  exact MD m3 [2,39,40,42] [0,1,2,3]
 ·rintro m3
  refine gL [] (Jj X.cH) ?_
  rintro _ _ ⟨t4,rfl,rfl⟩
  refine NL ?_
  exact MD (m3,t4) [2,39,40,43] [0,1,2,3,4]
 ·refine gL [] (Jj X.cH) ?_
  rintro _ _ ⟨t5,rfl,rfl⟩
  refine NL ?_
  exact MD t5 [2,39,43] [0,1,2,3]
 ·rintro t5
  refine ak.qR (d:=(some 40)) (t:=78) (fun _=>by kernel_rfl) Tryz.prog rfl 3 (fun m6=>?_)
  refine NL ?_
  exact MD (m6,t5) [2,39,40,43] [0,1,2,3,4]
 rintro⟨m3,t4⟩
 refine iP.cut (ι:=Unit) (fr':=fun (_:Unit)=>[(2,vP b1),(44,.agg #[vI (X.cN),vI (X.cB),vI (X.cH),vI (X.cS),vI (X.cZ),.map (some m3),vP t4,vI 0,vI 0,vI 0])]) (hp':=fun (_:Unit)=>[.abs (dJ 140 t4 (min (max X.cH 0) 1024) 0 []),.abs R,EV b1 A ns c,Nc b2 X,.abs (bq Tryz.prog 3 m3 (fun _=>none) 0)]) [3] rfl rfl ?_ rfl (fun _=>by kernel_rfl) ?_
 ·refine jK 1 [44] [] ?_
  refine NL ?_
  exact MD () [2,44] [0,1,2,3,4]
 rintro _
 refine iP.cut (ι:=Nat) (fr':=fun (b7:Nat)=>[(2,vP b1),(45,vP b7)]) (hp':=fun (b7:Nat)=>[.abs (dJ 140 t4 (min (max X.cH 0) 1024) 0 []),.abs R,EV b1 A ns c,Nc b2 X,.abs (bq Tryz.prog 3 m3 (fun _=>none) 0),pF b7 m3 t4 { X with last:=0,ah:=0,used:=0 }]) [3] rfl rfl ?_ rfl (fun _=>by kernel_rfl) ?_
 ·refine jN 1 [45] (fun _=>[]) (fun _=>[]) (fun b7=>pF b7 m3 t4 { X with last:=0,ah:=0,used:=0 }) (fun b7=>?_)
  refine NL ?_
  exact MD b7 [2,45] [0,1,2,3,4,5]
 rintro b7
 refine iP.last rfl rfl ?_
 refine jK 1 [6] [] ?_
 refine NL (ai.np (NX (af.seq (SR ?_))))
 obtain⟨L,hL0⟩:∃ L:HL,L=⟨fun _=>0,fun _=>0,fun _=>none,fun _=>0⟩:=⟨_,rfl⟩
 refine ak.mem (fun w hS=>hS.Np (cF (wE X).O L) (Di X L).1) ?_
 refine ak.mem (fun w hS=>hS.Np (bV (wE X).O L) (Di X L).2.1) ?_
 refine ak.mem (fun w hS=>hS.Np (dM (wE X).O L) (Di X L).2.2) ?_
 have hc:min (max X.cH 0) 1024=X.cH:=by have:=hcap.cH;omega
 refine ak.mem (fun w hS=>by rw [hc,← Jh] at hS;exact hS) ?_
 refine jK 4 [47,48,49] [(1,a_ 2 b1)] ?_
 refine NN (af.block ?_)
 refine lJ (fun (k,S,L)=>(k<=ns.length)/\(tA X ns k S)) (fun (k,S,L)=>ns.length - k) (fun (k,S,L)=>[(2,vP b1),(6,vP b7),(47,.slice A (ns.length) (c)),(48,vI ↑ns.length),(49,vI ↑k)]) (fun (k,S,L)=>([EV b1 A ns c]++R8 b7 m3 t4 S L R)) (0,(wE X),L) [2,5,4,0,6,7,8,1] (⟨Nat.zero_le _,Qk hcap⟩) ?_
 rintro⟨k,S,L⟩ ⟨hk,hB⟩
 refine SR (jK 1 [50] [] ?_)
 refine NN (af.seq (cP ((((k:Nat):Int):Int) < (((ns.length:Nat):Int):Int)) (fun h50=>?_) (fun h50=>?_)))
 ·have hk2:k < ns.length:=by omega
  have hdk:=hd k hk2
  have hds:=GR (fun i hi=>(hd i hi).1) hk
  have ud:=hok.ids k hk2
  have hni:=hB.new hok hk2
  have sU:(Lit.int .i64 (nd ns k).id).wf=true:=WalkArith.wf_i64 (by omega)
  have hkk:=(hok.node k hk2).kind
  have eF:S.X.used=(cK ns k:Int):=by rw [hB.cap]
  have hil:=hB.inv.len
  refine af.skip (NX (af.seq (af.block (SR ?_))))
  refine jN 4 [8] (fun b8=>[(0,x_ k ns.length (aB.hd hG (i:=k) (by omega))),(1,zP (eT Y k (nd ns k)) (fun _ _ h=>aB.rd hG (by omega) h)),(3,A_ 8 b8 10)]) (fun _=>[]) (fun b8=>.blk b8 (eT Y k (nd ns k)) 66) (fun b8=>?_)
  refine NS (jN 13 [9] (fun b9=>[(1,a_ 8 b8),(3,a_ 8 b8),(5,a_ 8 b8),(7,a_ 8 b8),(9,A_ 8 b8 2),(12,A_ 9 b9 9)]) (fun _=>[]) (fun b9=>.blk b9 [vI ((nd ns k).id),vI ((nd ns k).mode),vI ((nd ns k).uid),vI ((nd ns k).gid),vI ((nd ns k).sec),vI ((nd ns k).nano),vI 0,vI 0,.bool false] 86) (fun b9=>?_))
  refine NN (af.seq (SR (jK 2 [65] [(1,a_ 8 b8)] ?_)))
  refine NN (af.block (SR ?_))
  refine jK 2 [77] [] ?_
  refine NN (cP (((nd ns k).kind:Int)=(1:Int)) (fun hk1=>?_) (fun hk1=>?_))
  ·refine rM (List.range 14) 9 [1,8,9] ?_
   refine jR 9 [2,6,8,47,48,49,82,84,85,87] [(3,a_ 0 b7),(5,a_ 1 b8),(6,A_ 2 b9 9),(8,a_ 1 b8)] ?_
   refine mL [2,9,10] [] (CK (Y.dA k) (Y.dC k) (nd ns k).data (hG.data k (by omega)) (by have:=(hd k (by omega)).1;omega)) ?_ (by rintro _ _ ⟨Bu,c11,rfl,rfl⟩;rfl)
   rintro _ _ ⟨Bu,c11,rfl,rfl⟩
   refine nC [2,9,10] [89] [] [] ?_
   refine mN [2,9,10] (fun b12=>[(90,vP b12)]) (fun _=>[]) (fun b12=>.blk b12 [vI ((nd ns k).id),vI ((nd ns k).mode),vI ((nd ns k).uid),vI ((nd ns k).gid),vI ((nd ns k).sec),vI ((nd ns k).nano),vI 0,vI 0,.bool false,.slice Bu ((nd ns k).data.length) (c11)] 90) (fun b12=>?_)
   refine nC [2,9,10] [91] [] [] ?_
   refine aY.last rfl rfl ?_
   obtain⟨L2,hL2⟩:∃ L2:HL,L2=L.put (gA (nd ns k)) b12 0 Bu c11:=⟨_,rfl⟩
   have hfr:=hB.fresh hok (by omega)
   refine ak.mem (fun w hS=>hS.yA hL2 hfr (o:=(si (nd ns k))) (i:=5) (j:=11) (ix:=[0,1,2,3,4,6,7,8,9,10]) rfl rfl (by kernel_rfl) rfl (by show (nd ns k).kind≠0;rw [hk1];decide) ((jB (L:=L2) (k:=(gA (nd ns k))) (o:=(si (nd ns k))) hk1).trans (by rw [show L2.dA (gA (nd ns k))=Bu by rw [hL2];exact if_pos rfl,show L2.dC (gA (nd ns k))=c11 by rw [hL2];exact if_pos rfl];rfl)) (by show ql (nd ns k).kind=_;rw [hk1]<;>rfl)) ?_
   refine ak.eG [(7,.abs (aG (dM ((di S (nd ns k)).O) L2)))] (fun w hS=>hS.Ar hL2 hfr (o:=(si (nd ns k))) (i:=7) rfl (by show ¬ (nd ns k).kind=2;rw [hk1];decide)) ?_
   refine ak.mem (fun w hS=>hS.aar hL2 (o:=(si (nd ns k))) (i:=6) (j:=1) (ix:=[0,2,3,4,5,7,8,9,10]) rfl rfl (by kernel_rfl) rfl hk1) ?_
   refine ak.eG [(4,.abs (bq Tryz.prog 3 m3 (bB (bC L2 S.idx)) S.idx.length)),(5,.abs (dJ 140 t4 S.X.cH S.av (bC L2 S.us)))] (fun w hS=>by rw [jy hL2 hfr.idx,jy hL2 hfr.us];exact hS) ?_
   have K6:eV L2 (qZ (nd ns k))=.iface 87 (vP b12):=by unfold qZ;rw [sG hL2,hk1];rfl
   refine ak.oP 4 (d:=none) (t:=78) (K:=3) (E:=82) (b:=m3) (n:=S.idx.length) (f:=(bB (bC L2 S.idx))) (x:=(.tmp 82)) (ix:=(.tmp 84)) (y:=(.tmp 91)) (key:=.int .i64 ((nd ns k).id)) (u:=.iface 87 (vP b12)) (kl:=(.int .i64 (nd ns k).id)) (n':=(S.idx.length+1)) (f':=(bB (bC L2 (ins (nd ns k).id (qZ (nd ns k)) S.idx)))) (fun _=>by kernel_rfl) (by kernel_rfl) (fun _=>by kernel_rfl) (fun _=>by kernel_rfl) (fun _=>by kernel_rfl) gT Tryz.underlying78 (by unfold maxLen;omega) (mE sU) (by rw [iZ,hni];rfl) (by rw [← K6];exact uS hni) ?_
   refine NL (ai.np (ai.ax (NX (SR ?_))))
   refine jC 6 [] [(2,a_ 8 b8),(5,a_ 3 b7)] [(3,[(7,vI ((nd ns k).id))])] ?_
   refine NN (rM (List.range 11) 10 [3,8] ?_)
   refine jR 10 [2,6,47,48,49,118,120] [(3,a_ 0 b7),(5,a_ 1 b8),(7,wJ (S.X.used+(((nd ns k).data.length:Nat):Int)) (S.X.used+(((nd ns k).data.length:Nat):Int)))] ?_
   refine aY.last rfl rfl ?_
   refine jC 1 [] [(0,a_ 3 b7)] [(3,[(9,vI (S.X.used+(((nd ns k).data.length:Nat):Int)))])] ?_
   refine NL (ai.np (ai.ax (NX (af.region ?_))))
   refine jK 2 [49] [(0,wJ ((k:Int)+1) (↑(k+1)))] ?_
   refine NL (ai.eG [(3,.blk b7 [vI ((di S (nd ns k)).X.cN),vI ((di S (nd ns k)).X.cB),vI ((di S (nd ns k)).X.cH),vI ((di S (nd ns k)).X.cS),vI ((di S (nd ns k)).X.cZ),.map (some m3),vP t4,vI ((di S (nd ns k)).X.last),vI ((di S (nd ns k)).X.ah),vI ((di S (nd ns k)).X.used)] 84),(4,.abs (bq Tryz.prog 3 m3 (bB (bC L2 (di S (nd ns k)).idx)) ((di S (nd ns k)).idx.length))),(5,.abs (dJ 140 t4 (di S (nd ns k)).X.cH (di S (nd ns k)).av (bC L2 (di S (nd ns k)).us)))] (fun w hS=>by rw [show (di S (nd ns k)).idx.length=S.idx.length+1 from iL _ _ _];exact hS) ?_)
   exact tJ ((k+1),(di S (nd ns k)),L2) [2,3,4,5,1,0,6,7] (⟨by omega,AR hok (fun i hi=>(hd i hi).1) (by omega) hB⟩)
  refine SR (jK 2 [92] [] ?_)
  refine NN (cP (((nd ns k).kind:Int)=(3:Int)) (fun hk3=>?_) (fun hk3=>?_))
  ·refine rM (List.range 13) 10 [1,8,9] ?_
   refine jR 10 [2,6,8,47,48,49,97,99,103] [(3,a_ 0 b7),(5,a_ 1 b8),(6,A_ 2 b9 9),(8,a_ 1 b8)] ?_
   refine mN [1,8,9] (fun b13=>[(104,vP b13)]) (fun _=>[]) (fun b13=>.blk b13 [vI ((nd ns k).id),vI ((nd ns k).mode),vI ((nd ns k).uid),vI ((nd ns k).gid),vI ((nd ns k).sec),vI ((nd ns k).nano),vI 0,vI 0,.bool false,.string (nd ns k).target] 93) (fun b13=>?_)
   refine nC [1,8,9] [105] [] [] ?_
   refine aY.last rfl rfl ?_
   obtain⟨L2,hL2⟩:∃ L2:HL,L2=L.put (gA (nd ns k)) b13 0 none 0:=⟨_,rfl⟩
   have hfr:=hB.fresh hok (by omega)
   refine ak.mem (fun w hS=>hS.yA hL2 hfr (o:=(si (nd ns k))) (i:=4) (j:=10) (ix:=[0,1,2,3,5,6,7,8,9]) rfl rfl (by kernel_rfl) rfl (by show (nd ns k).kind≠0;rw [hk3];decide) ((Ab (L:=L2) (k:=(gA (nd ns k))) (o:=(si (nd ns k))) hk3).trans (by rfl)) (by show ql (nd ns k).kind=_;rw [hk3]<;>rfl)) ?_
   refine ak.eG [(6,.abs (aG (dM ((di S (nd ns k)).O) L2)))] (fun w hS=>hS.Ar hL2 hfr (o:=(si (nd ns k))) (i:=6) rfl (by show ¬ (nd ns k).kind=2;rw [hk3];decide)) ?_
   refine ak.eG [(5,.abs (aG (bV ((di S (nd ns k)).O) L2)))] (fun w hS=>hS.D5 hL2 (o:=(si (nd ns k))) (i:=5) rfl (by show ¬ (nd ns k).kind=1;rw [hk3];decide)) ?_
   refine ak.eG [(3,.abs (bq Tryz.prog 3 m3 (bB (bC L2 S.idx)) S.idx.length)),(4,.abs (dJ 140 t4 S.X.cH S.av (bC L2 S.us)))] (fun w hS=>by rw [jy hL2 hfr.idx,jy hL2 hfr.us];exact hS) ?_
   have K6:eV L2 (qZ (nd ns k))=.iface 91 (vP b13):=by unfold qZ;rw [sG hL2,hk3];rfl
   refine ak.oP 3 (d:=none) (t:=78) (K:=3) (E:=82) (b:=m3) (n:=S.idx.length) (f:=(bB (bC L2 S.idx))) (x:=(.tmp 97)) (ix:=(.tmp 99)) (y:=(.tmp 105)) (key:=.int .i64 ((nd ns k).id)) (u:=.iface 91 (vP b13)) (kl:=(.int .i64 (nd ns k).id)) (n':=(S.idx.length+1)) (f':=(bB (bC L2 (ins (nd ns k).id (qZ (nd ns k)) S.idx)))) (fun _=>by kernel_rfl) (by kernel_rfl) (fun _=>by kernel_rfl) (fun _=>by kernel_rfl) (fun _=>by kernel_rfl) gT Tryz.underlying78 (by unfold maxLen;omega) (mE sU) (by rw [iZ,hni];rfl) (by rw [← K6];exact uS hni) ?_
   refine NL (ai.np (ai.ax (NX (SR ?_))))
   refine jC 6 [] [(2,a_ 8 b8),(5,a_ 2 b7)] [(2,[(7,vI ((nd ns k).id))])] ?_
   refine NN (rM (List.range 11) 10 [2,8] ?_)
   refine jR 10 [2,6,47,48,49,118,120] [(3,a_ 0 b7),(5,a_ 1 b8),(7,wJ (S.X.used+(((nd ns k).data.length:Nat):Int)) (S.X.used+(((nd ns k).data.length:Nat):Int)))] ?_
   refine aY.last rfl rfl ?_
   refine jC 1 [] [(0,a_ 2 b7)] [(2,[(9,vI (S.X.used+(((nd ns k).data.length:Nat):Int)))])] ?_
   refine NL (ai.np (ai.ax (NX (af.region ?_))))
   refine jK 2 [49] [(0,wJ ((k:Int)+1) (↑(k+1)))] ?_
   refine NL (ai.eG [(2,.blk b7 [vI ((di S (nd ns k)).X.cN),vI ((di S (nd ns k)).X.cB),vI ((di S (nd ns k)).X.cH),vI ((di S (nd ns k)).X.cS),vI ((di S (nd ns k)).X.cZ),.map (some m3),vP t4,vI ((di S (nd ns k)).X.last),vI ((di S (nd ns k)).X.ah),vI ((di S (nd ns k)).X.used)] 84),(3,.abs (bq Tryz.prog 3 m3 (bB (bC L2 (di S (nd ns k)).idx)) ((di S (nd ns k)).idx.length))),(4,.abs (dJ 140 t4 (di S (nd ns k)).X.cH (di S (nd ns k)).av (bC L2 (di S (nd ns k)).us)))] (fun w hS=>by rw [show (di S (nd ns k)).idx.length=S.idx.length+1 from iL _ _ _];exact hS) ?_)
   exact tJ ((k+1),(di S (nd ns k)),L2) [1,2,3,4,0,5,6,7] (⟨by omega,AR hok (fun i hi=>(hd i hi).1) (by omega) hB⟩)
  have pK:(nd ns k).kind=2:=by omega
  refine rM (List.range 12) 7 [1,8,9] ?_
  refine jR 7 [2,6,8,47,48,49,69,71,72] [(3,a_ 0 b7),(5,a_ 1 b8),(6,A_ 2 b9 9)] ?_
  refine aY.cut (ι:=Nat) (fr':=fun (m14:Nat)=>[(2,vP b1),(6,vP b7),(8,vP b8),(47,.slice A (ns.length) (c)),(48,vI ↑ns.length),(49,vI ↑k),(69,.map (some m3)),(71,vI ((nd ns k).id)),(72,.agg #[vI ((nd ns k).id),vI ((nd ns k).mode),vI ((nd ns k).uid),vI ((nd ns k).gid),vI ((nd ns k).sec),vI ((nd ns k).nano),vI 0,vI 0,.bool false]),(73,.map (some m14))]) (hp':=fun (m14:Nat)=>([EV b1 A ns c]++R8 b7 m3 t4 S L R++[zl3 b8 Y k ns,zl4 b9 ns k,.abs (bq Tryz.prog 9 m14 (fun _=>none) 0)])) [1,8,9] rfl rfl ?_ rfl (fun _=>by kernel_rfl) ?_
  ·refine ak.qR (d:=(some 73)) (t:=95) (fun _=>by kernel_rfl) Tryz.prog rfl 9 (fun m14=>?_)
   refine NL ?_
   exact MD m14 [2,6,8,47,48,49,69,71,72,73] [0,1,2,3,4,5,6,7,8,9,10]
  rintro m14
  refine nC [1,8,9] [74] [] [] ?_
  refine mN [1,8,9] (fun b15=>[(75,vP b15)]) (fun _=>[]) (fun b15=>.blk b15 [vI ((nd ns k).id),vI ((nd ns k).mode),vI ((nd ns k).uid),vI ((nd ns k).gid),vI ((nd ns k).sec),vI ((nd ns k).nano),vI 0,vI 0,.bool false,.map (some m14),.pointer none] 97) (fun b15=>?_)
  refine nC [1,8,9] [76] [] [] ?_
  refine aY.last rfl rfl ?_
  obtain⟨L2,hL2⟩:∃ L2:HL,L2=L.put (gA (nd ns k)) b15 m14 none 0:=⟨_,rfl⟩
  have hfr:=hB.fresh hok (by omega)
  refine ak.mem (fun w hS=>hS.yA hL2 hfr (o:=(si (nd ns k))) (i:=4) (j:=11) (ix:=[0,1,2,3,5,6,7,8,9,10]) rfl rfl (by kernel_rfl) rfl (by show (nd ns k).kind≠0;rw [pK];decide) ((nW (L:=L2) (k:=(gA (nd ns k))) (o:=(si (nd ns k))) pK).trans (by rw [Js hL2];rfl)) (by show ql (nd ns k).kind=_;rw [pK]<;>rfl)) ?_
  refine ak.mem (fun w hS=>hS.Vm hL2 hfr (o:=(si (nd ns k))) (i:=6) (j:=10) (ix:=[0,1,2,3,4,5,7,8,9]) rfl rfl (by kernel_rfl) rfl pK rfl) ?_
  refine ak.eG [(6,.abs (aG (bV ((di S (nd ns k)).O) L2)))] (fun w hS=>hS.D5 hL2 (o:=(si (nd ns k))) (i:=6) rfl (by show ¬ (nd ns k).kind=1;rw [pK];decide)) ?_
  refine ak.eG [(4,.abs (bq Tryz.prog 3 m3 (bB (bC L2 S.idx)) S.idx.length)),(5,.abs (dJ 140 t4 S.X.cH S.av (bC L2 S.us)))] (fun w hS=>by rw [jy hL2 hfr.idx,jy hL2 hfr.us];exact hS) ?_
  have K6:eV L2 (qZ (nd ns k))=.iface 94 (vP b15):=by unfold qZ;rw [sG hL2,pK];rfl
  refine ak.oP 4 (d:=none) (t:=78) (K:=3) (E:=82) (b:=m3) (n:=S.idx.length) (f:=(bB (bC L2 S.idx))) (x:=(.tmp 69)) (ix:=(.tmp 71)) (y:=(.tmp 76)) (key:=.int .i64 ((nd ns k).id)) (u:=.iface 94 (vP b15)) (kl:=(.int .i64 (nd ns k).id)) (n':=(S.idx.length+1)) (f':=(bB (bC L2 (ins (nd ns k).id (qZ (nd ns k)) S.idx)))) (fun _=>by kernel_rfl) (by kernel_rfl) (fun _=>by kernel_rfl) (fun _=>by kernel_rfl) (fun _=>by kernel_rfl) gT Tryz.underlying78 (by unfold maxLen;omega) (mE sU) (by rw [iZ,hni];rfl) (by rw [← K6];exact uS hni) ?_
  refine NL (ai.np (ai.ax (NX (SR ?_))))
  refine jC 6 [] [(2,a_ 8 b8),(5,a_ 3 b7)] [(3,[(7,vI ((nd ns k).id))])] ?_
  refine NN (rM (List.range 11) 10 [3,8] ?_)
  refine jR 10 [2,6,47,48,49,118,120] [(3,a_ 0 b7),(5,a_ 1 b8),(7,wJ (S.X.used+(((nd ns k).data.length:Nat):Int)) (S.X.used+(((nd ns k).data.length:Nat):Int)))] ?_
  refine aY.last rfl rfl ?_
  refine jC 1 [] [(0,a_ 3 b7)] [(3,[(9,vI (S.X.used+(((nd ns k).data.length:Nat):Int)))])] ?_
  refine NL (ai.np (ai.ax (NX (af.region ?_))))
  refine jK 2 [49] [(0,wJ ((k:Int)+1) (↑(k+1)))] ?_
  refine NL (ai.eG [(3,.blk b7 [vI ((di S (nd ns k)).X.cN),vI ((di S (nd ns k)).X.cB),vI ((di S (nd ns k)).X.cH),vI ((di S (nd ns k)).X.cS),vI ((di S (nd ns k)).X.cZ),.map (some m3),vP t4,vI ((di S (nd ns k)).X.last),vI ((di S (nd ns k)).X.ah),vI ((di S (nd ns k)).X.used)] 84),(4,.abs (bq Tryz.prog 3 m3 (bB (bC L2 (di S (nd ns k)).idx)) ((di S (nd ns k)).idx.length))),(5,.abs (dJ 140 t4 (di S (nd ns k)).X.cH (di S (nd ns k)).av (bC L2 (di S (nd ns k)).us)))] (fun w hS=>by rw [show (di S (nd ns k)).idx.length=S.idx.length+1 from iL _ _ _];exact hS) ?_)
  exact tJ ((k+1),(di S (nd ns k)),L2) [2,3,4,5,1,6,0,7] (⟨by omega,AR hok (fun i hi=>(hd i hi).1) (by omega) hB⟩)
 refine af.exit (ai.aC (ai.aC (ai.aW (NX (af.seq (SR ?_))))))
 refine jK 4 [123,124,125] [(1,a_ 0 b1)] ?_
 refine NN (af.block ?_)
 refine lJ (fun (i,S1)=>(i<=ns.length)/\(iJ X ns i 0 S1)) (fun (i,S1)=>ns.length - i) (fun (i,S1)=>[(6,vP b7),(123,.slice A (ns.length) (c)),(124,vI ↑ns.length),(125,vI ↑i)]) (fun (i,S1)=>([EV b1 A ns c]++R8 b7 m3 t4 S1 L R)) (0,S) [0,1,2,3,4,5,6,7] (⟨Nat.zero_le _,by have h:=hB;rw [show k=ns.length by omega] at h;exact h.ah⟩) ?_
 rintro⟨i,S1⟩ ⟨hi,hE⟩
 refine SR (jK 1 [126] [] ?_)
 refine NN (af.seq (cP ((((i:Nat):Int):Int) < (((ns.length:Nat):Int):Int)) (fun sY=>?_) (fun sY=>?_)))
 ·refine af.skip (NX (af.seq (af.block (SR ?_))))
  refine jN 4 [11] (fun b16=>[(0,x_ i ns.length (aB.hd hG (i:=i) (by omega))),(1,zP (eT Y i (nd ns i)) (fun _ _ h=>aB.rd hG (by omega) h)),(3,A_ 8 b16 10)]) (fun _=>[]) (fun b16=>.blk b16 (eT Y i (nd ns i)) 66) (fun b16=>?_)
  refine NS (jK 4 [130,131,132] [(1,a_ 8 b16)] ?_)
  refine NN (af.block ?_)
  refine lJ (fun (j,S2)=>(j<=(nd ns i).ah.length)/\(iJ X ns i j S2)) (fun (j,S2)=>(nd ns i).ah.length - j) (fun (j,S2)=>[(6,vP b7),(11,vP b16),(123,.slice A (ns.length) (c)),(124,vI ↑ns.length),(125,vI ↑i),(130,.slice (Y.eA i) ((nd ns i).ah.length) ((Y.eC i))),(131,vI ↑((nd ns i).ah.length)),(132,vI ↑j)]) (fun (j,S2)=>([zl3 b16 Y i ns,EV b1 A ns c]++R8 b7 m3 t4 S2 L R)) (0,S1) [8,0,1,2,3,4,5,6,7] (⟨Nat.zero_le _,hE⟩) ?_
  rintro⟨j,S2⟩ ⟨hj,tF⟩
  refine SR (jK 1 [133] [] ?_)
  refine NN (af.seq (cP ((((j:Nat):Int):Int) < ((((nd ns i).ah.length:Nat):Int):Int)) (fun abO=>?_) (fun abO=>?_)))
  ·have hj2:j < (nd ns i).ah.length:=by omega
   have hi2:i < ns.length:=by omega
   have abP:=tF.get hi2
   obtain⟨hes,hno,hk2⟩:=tF.look hok hi2 hj2
   have Zw:=vH hok hi2 hj2
   have Vx:aq.get S2.idx (nd ns i).id=some ⟨(gA (nd ns i)),2⟩:=by rw [abP];unfold qZ;rw [hk2]
   have hge:aq.get S2.idx (ent ns i j).id=some (mP ns (ent ns i j)):=by rw [← Zw.2];exact tF.get Zw.1
   have ud:=hok.ids i hi2
   have hiw:(Lit.int .i64 (nd ns i).id).wf=true:=WalkArith.wf_i64 (by omega)
   have hew:(Lit.int .i64 (ent ns i j).id).wf=true:=WalkArith.wf_i64 (by have:=hwf i hi2 j hj2;omega)
   have hld:=tF.live hok hi2
   have hlt:=tF.live hok Zw.1
   have hkd:(obj S2.O (gA (nd ns i))).kind=2:=(tF.inv.kind hld).trans hk2
   have hkt:(obj S2.O (mP ns (ent ns i j)).k).kind=(mP ns (ent ns i j)).kind:=tF.inv.kind hlt
   have h3:(mP ns (ent ns i j)).kind=1\/(mP ns (ent ns i j)).kind=2\/(mP ns (ent ns i j)).kind=3:=(tF.inv.ob _ hlt).2.2
   have hlb:0<=(obj S2.O (mP ns (ent ns i j)).k).links/\(obj S2.O (mP ns (ent ns i j)).k).links<=8192:=tF.inv.lb hlt
   have hel:(obj S2.O (gA (nd ns i))).ah.length<=8192:=tF.inv.je hld
   have hsz:=hnm i hi2 j hj2
   have hde:=hd i hi2
   have QM:=tF.inv.hX
   refine af.skip (NX (af.seq (af.block (SR ?_))))
   refine jN 4 [13] (fun b17=>[(0,x_ j ((nd ns i).ah.length) (bg.hd (hG.ah i (by omega)) (i:=j) (by omega))),(1,p_ ⟨[.old (.string (en (nd ns i).ah j).name),.old (.int .i64 ((en (nd ns i).ah j).id))],none,none,none,none⟩ [(Rd β ⟨(aP (Y.eA i)),aO (Y.eA i)+j * 2+1,none⟩ (.int .i64 ((en (nd ns i).ah j).id))),(Rd β ⟨(aP (Y.eA i)),aO (Y.eA i)+j * 2,none⟩ (.string (en (nd ns i).ah j).name))] ⟨bg.rd (hG.ah i (by omega)) (i:=j) (by omega) (j:=1) rfl,bg.rd (hG.ah i (by omega)) (i:=j) (by omega) (j:=0) rfl,trivial⟩),(3,A_ 9 b17 2)]) (fun _=>[]) (fun b17=>.blk b17 [.string (en (nd ns i).ah j).name,vI ((en (nd ns i).ah j).id)] 68) (fun b17=>?_)
   refine NN (af.seq (rM (List.range 18) 17 [2,3,0,9] ?_))
   refine jR 6 [6,11,13,123,124,125,130,131,132,139,141] [(3,a_ 0 b7),(5,a_ 2 b16)] ?_
   refine aY.iY 1 (d:=(some 142)) (t:=78) (K:=3) (E:=82) (b:=m3) (cnt:=S2.idx.length) (f:=(bB (bC L S2.idx))) (x:=(.tmp 139)) (ix:=(.tmp 141)) (key:=.int .i64 ((nd ns i).id)) (z:=.nilIface) (kl:=(.int .i64 (nd ns i).id)) (q:=(some (eV L ⟨(gA (nd ns i)),2⟩))) (by kernel_rfl) (by kernel_rfl) (fun _=>by kernel_rfl) (fun _=>by kernel_rfl) gT Tryz.underlying78 (fun _=>by kernel_rfl) (mE hiw) (by rw [iZ,Vx];rfl) (by kernel_rfl) ?_
   refine jR 9 [6,11,123,124,125,130,131,132,143,145,149,151] [(2,a_ 3 b17),(6,a_ 0 b7),(8,a_ 3 b17)] ?_
   refine aY.iY 1 (d:=(some 152)) (t:=78) (K:=3) (E:=82) (b:=m3) (cnt:=S2.idx.length) (f:=(bB (bC L S2.idx))) (x:=(.tmp 149)) (ix:=(.tmp 151)) (key:=.int .i64 ((en (nd ns i).ah j).id)) (z:=.nilIface) (kl:=(.int .i64 (ent ns i j).id)) (q:=(some (eV L (mP ns (ent ns i j))))) (by kernel_rfl) (by kernel_rfl) (fun _=>by kernel_rfl) (fun _=>by kernel_rfl) gT Tryz.underlying78 (fun _=>by kernel_rfl) (mE hew) (by rw [iZ,hge];rfl) (by kernel_rfl) ?_
   refine aY.last rfl rfl ?_
   refine gL [5,7] (Na S2.O L (gA (nd ns i)) hkd (ent ns i j).name hsz hno (by omega) (mP ns (ent ns i j)) hkt h3 (by omega)) ?_
   rintro _ _ ⟨rfl,rfl⟩
   refine NL (ai.np (NX (af.region ?_)))
   refine jC 8 [] [(3,a_ 4 b7),(4,wJ (S2.X.ah+1) (S2.X.ah+1)),(7,a_ 4 b7)] [(4,[(8,vI (S2.X.ah+1))])] ?_
   refine NL (ai.ax (NX (af.region ?_)))
   refine jK 2 [132] [(0,wJ ((j:Int)+1) (↑(j+1)))] ?_
   refine NL (ai.eG [(0,.abs (aG (cF ((oh ns S2 (nd ns i) (ent ns i j)).O) L))),(1,.abs (aG (dM ((oh ns S2 (nd ns i) (ent ns i j)).O) L))),(4,.blk b7 [vI ((oh ns S2 (nd ns i) (ent ns i j)).X.cN),vI ((oh ns S2 (nd ns i) (ent ns i j)).X.cB),vI ((oh ns S2 (nd ns i) (ent ns i j)).X.cH),vI ((oh ns S2 (nd ns i) (ent ns i j)).X.cS),vI ((oh ns S2 (nd ns i) (ent ns i j)).X.cZ),.map (some m3),vP t4,vI ((oh ns S2 (nd ns i) (ent ns i j)).X.last),vI ((oh ns S2 (nd ns i) (ent ns i j)).X.ah),vI ((oh ns S2 (nd ns i) (ent ns i j)).X.used)] 84),(5,.abs (bq Tryz.prog 3 m3 (bB (bC L (oh ns S2 (nd ns i) (ent ns i j)).idx)) ((oh ns S2 (nd ns i) (ent ns i j)).idx.length))),(6,.abs (dJ 140 t4 (oh ns S2 (nd ns i) (ent ns i j)).X.cH (oh ns S2 (nd ns i) (ent ns i j)).av (bC L (oh ns S2 (nd ns i) (ent ns i j)).us))),(7,.abs (aG (bV ((oh ns S2 (nd ns i) (ent ns i j)).O) L)))] (fun w hS=>by rw [show bV (oh ns S2 (nd ns i) (ent ns i j)).O L=bV S2.O L from WQ];exact hS) ?_)
   exact tJ ((j+1),(oh ns S2 (nd ns i) (ent ns i j))) [2,3,4,5,6,0,7,1,8] (⟨by omega,tF.step hok (by omega) (by omega)⟩)
  refine af.exit (ai.aC (ai.aC (ai.aW (ai.ax (NX (af.region ?_))))))
  refine jK 2 [125] [(0,wJ ((i:Int)+1) (↑(i+1)))] ?_
  refine NL ?_
  exact tJ ((i+1),S2) [1,2,3,4,5,6,7,8] (⟨by omega,by have h:=tF;rw [show j=(nd ns i).ah.length by omega] at h;exact h.next⟩)
 refine af.exit (ai.aC (ai.aC (ai.aW (NX (SR ?_)))))
 refine jK 3 [4,5] [] ?_
 refine NN (af.ret ?_)
 exact RT _ [1,2,3,4,5,6,7] (.inr (.inr ⟨hcap,hok,S1,b7,m3,t4,L,by grind,rfl,rfl⟩))
end
section
open Go.RowKit Go.Maps aX aq
theorem K7 {b:UInt8} (h0:¬ b=0) (h1:¬ b=47) (h2:¬ b=46):bO ⟨#[b]⟩:=by
  refine⟨Nat.le_refl _,(by show 1<=255;decide),fun e=>h2 ?_,fun e=>?_,fun j hj=>?_⟩
  ·grind
  ·grind
  have:j=0:=by have hj:j < 1:=hj;omega
  subst this
  show ¬ b.toNat=0/\¬ b.toNat=47
  exact⟨fun e=>h0 (UInt8.toNat_inj.1 e),fun e=>h1 (UInt8.toNat_inj.1 e)⟩
theorem Bv:dw 0 0:=⟨by decide,by decide,by decide,by decide,by decide⟩
def OZ:aA:=⟨1,2,493,0,0,0,0,[],⟨#[]⟩,[⟨⟨#[102]⟩,2⟩]⟩
def aaI:aA:=⟨2,1,420,0,0,0,0,[],⟨#[]⟩,[]⟩
def sZ:List aA:=[OZ,aaI]
def UQ (room:Int):FM:=⟨9,room,9,0,0,0,0,0⟩
theorem zf {i:Nat} (h:i < sZ.length):i=0\/i=1:=by
  have h:i < 2:=h
  omega
theorem Zx:aV sZ:=by
  refine⟨by decide,fun i hi=>?_,fun i hi=>?_,fun i j hij hj=>?_,by decide,fun i hi j hj=>?_,by decide,fun z=>?_⟩
  ·rcases zf hi with rfl|rfl
   ·exact⟨by decide,by decide,by decide,by decide,Bv,fun _=>rfl,fun h=>absurd rfl h,.inl ⟨by decide,rfl⟩⟩
   exact⟨by decide,by decide,by decide,by decide,Bv,fun h=>absurd rfl h,fun _=>rfl,.inl ⟨by decide,rfl⟩⟩
  ·rcases zf hi with rfl|rfl<;>exact⟨by decide,by decide⟩
  ·rcases zf hj with rfl|rfl
   ·omega
   have:i=0:=by omega
   subst this;decide
  ·rcases zf hi with rfl|rfl
   ·have hj:j < 1:=hj
    have:j=0:=by omega
    subst this
    exact⟨by decide,K7 (by decide) (by decide) (by decide),by show ¬ eH ⟨#[102]⟩ ⟨#[]⟩;unfold eH;decide +kernel⟩
   exact absurd hj (Nat.not_lt_zero j)
  have e:(fW sZ sZ.length).map (iQ sZ)=[]:=by decide
  rw [e]
  exact⟨0,rfl⟩
theorem Zy {β:Bs} {B:Option Addr} {e:Nat} (hR:bT β B (aR ⟨fun _=>none,fun i=>if i=0 then some ⟨e,0,none⟩ else none,fun _=>0,fun i=>if i=0 then 1 else 0⟩ sZ)) (h1:bg β (some ⟨e,0,none⟩) OZ.ah):aB β B sZ ⟨fun _=>none,fun i=>if i=0 then some ⟨e,0,none⟩ else none,fun _=>0,fun i=>if i=0 then 1 else 0⟩:=by
  have hn:∀ {A:Option Addr},bT β A []:=fun j v hj=>by simp at hj
  refine⟨hR,fun i hi=>?_,fun i hi=>?_⟩
  ·rcases zf hi with rfl|rfl<;>exact hn
  rcases zf hi with rfl|rfl
  ·exact h1
  exact hn
theorem Xb {room:Int} (h:0<=room/\room<=1099511627776):kQ (UQ room):=⟨by show (0:Int)<=9/\(9:Int)<=4096;decide,h,by show (0:Int)<=9/\(9:Int)<=1024;decide,Bv⟩
section ops
variable {S:aI} {c:ar} {t:Th} {d:Nat}
theorem K8 {O:bX} {us:Used Th} {h:Int} {name:ByteArray} {need:Int} (h1:aq.get us h=some t) (h2:t.kind=2) (h3:(obj O t.k).gone=false) (h4:bO name) (h5:bits BinOp.and .i64 (obj O t.k).mode need=need):dH O us h name need=.ok t.k:=by
  grind [dH]
theorem Xc (hop:c.op=1) (h1:aq.get S.idx c.other=some t) (h2:t.kind=2) (h3:(S.us.length:Int) < S.X.cH):dG S c=({ S with O:=aD S.O t.k (fun o=>{ o with opens:=o.opens+1 }),us:=ins (least S.us) t S.us,av:=max S.av ((S.us.length:Int)+1) },{ c with answer:=least S.us,code:=0 }):=by
  grind [dG,BN,iu,jD]
theorem O0 (hop:c.op=2) (ha:dH S.O S.us c.handle c.name 64=.ok d) (hl:aL c.name (obj S.O d).ah=some t) (h2:t.kind=2) (h3:(S.us.length:Int) < S.X.cH):dG S c=({ S with O:=aD S.O t.k (fun o=>{ o with opens:=o.opens+1 }),us:=ins (least S.us) t S.us,av:=max S.av ((S.us.length:Int)+1) },{ c with answer:=least S.us,code:=0 }):=by
  grind [dG,BO,dI,fk,jD]
theorem UR (hop:c.op=4) (ha:dH S.O S.us c.handle c.name 192=.ok d) (hm:gy c.mode) (hl:aL c.name (obj S.O d).ah=none) (hr:Room S.X S.idx):dG S c=(fw S d c.name (cx S.X 2 c.mode),{ c with answer:=0,code:=0 }):=by
  grind [dG,BP,eP,ko,dQ]
end ops
structure O3 (room:Int) (S:aI):Prop where
  inv:Inv S
  idx:S.idx=[(1,⟨1,2⟩),(2,⟨2,1⟩)]
  us:S.us=[]
  X:S.X=⟨9,room,9,0,0,2,1,0⟩
  o1:∃ l u,obj S.O 1=⟨1,493,0,0,0,0,l,0,false,2,[],⟨#[]⟩,[(⟨#[102]⟩,⟨2,1⟩)],u⟩
  o2:∃ u,obj S.O 2=⟨2,420,0,0,0,0,1,0,false,1,[],⟨#[]⟩,[],u⟩
theorem Xd {room:Int} {S:aI} (h:iJ (UQ room) sZ sZ.length 0 S):O3 room S:=by
  have hi:S.idx=[(1,⟨1,2⟩),(2,⟨2,1⟩)]:=h.idx
  have Zz:Inv S:=h.full
  obtain⟨l1,u1,h1⟩:=h.ob 0 (by decide)
  obtain⟨l2,u2,h2⟩:=h.ob 1 (by decide)
  have h1:obj S.O 1=⟨1,493,0,0,0,0,l1,0,false,2,[],⟨#[]⟩,[(⟨#[102]⟩,⟨2,1⟩)],u1⟩:=h1
  have h2:obj S.O 2=⟨2,420,0,0,0,0,l2,0,false,1,[],⟨#[]⟩,[],u2⟩:=h2
  have hl:=Zz.links ⟨2,1⟩ (by rw [hi];rfl)
  have hl2:l2=1:=by
    rw [hi] at hl
    have e:jw [(1,⟨1,2⟩),(2,⟨2,1⟩)] S.O 2=1:=by
      show (obj S.O 1).ah.countP _+((obj S.O 2).ah.countP _+0)=1
      rw [h1,h2];rfl
    simp only at hl
    rw [e,h2] at hl
    exact hl
  subst hl2
  exact⟨Zz,hi,h.us,h.cap,⟨l1,u1,h1⟩,⟨u2,h2⟩⟩
theorem R9:bO ⟨#[100]⟩:=K7 (by decide) (by decide) (by decide)
def zh:ar:=⟨1,0,1,⟨#[]⟩,⟨#[]⟩,none,0,[],0,0,0,0,0,0,0⟩
def xZ:ar:=⟨4,1,0,⟨#[100]⟩,⟨#[]⟩,none,0,[],448,0,0,0,0,0,0⟩
def EW:ar:=⟨2,1,0,⟨#[100]⟩,⟨#[]⟩,none,0,[],0,0,0,0,0,0,0⟩
theorem ZA:bits BinOp.and .i64 493 192=192:=by kernel_rfl
theorem ZB:bits BinOp.and .i64 493 64=64:=by kernel_rfl
section chain
variable {room:Int} {S:aI}
def S1 (S:aI):aI:={ S with O:=aD S.O 1 (fun o=>{ o with opens:=o.opens+1 }),us:=[(1,⟨1,2⟩)],av:=max S.av 1 }
theorem abQ:obj (S1 S).O 1={ obj S.O 1 with opens:=(obj S.O 1).opens+1 }:=rfl
theorem K9 (h:O3 room S):dG S zh=(S1 S,{ zh with answer:=1,code:=0 }):=by
  rw [Xc (S:=S) (c:=zh) (t:=⟨1,2⟩) rfl (by rw [h.idx];rfl) rfl (by rw [h.us,h.X];show (0:Int) < 9;decide),h.us]
  rfl
theorem ZC {X:FM} {O:bX} {o:aM}:obj (bw X (aD O 3 (fun _=>o)) 1 ⟨#[100]⟩ ⟨3,2⟩) 1={ obj O 1 with ah:=gU ⟨#[100]⟩ ⟨3,2⟩ (obj O 1).ah,sec:=X.cS,nano:=X.cZ }:=rfl
theorem ZE (h:O3 room S):∃ S2,dG (S1 S) xZ=(S2,{ xZ with answer:=0,code:=0 })/\S2.us=[(1,⟨1,2⟩)]/\S2.idx.length=3/\S2.X.cH=9/\dH S2.O S2.us 1 ⟨#[100]⟩ 64=.ok 1/\aL ⟨#[100]⟩ (obj S2.O 1).ah=some ⟨3,2⟩:=by
  obtain⟨l,u,h1⟩:=h.o1
  have e1:obj (S1 S).O 1=⟨1,493,0,0,0,0,l,1,false,2,[],⟨#[]⟩,[(⟨#[102]⟩,⟨2,1⟩)],u⟩:=by
    rw [abQ,h1];rfl
  have hX:(S1 S).X=⟨9,room,9,0,0,2,1,0⟩:=h.X
  have hi:(S1 S).idx=[(1,⟨1,2⟩),(2,⟨2,1⟩)]:=h.idx
  have ha:dH (S1 S).O (S1 S).us 1 ⟨#[100]⟩ 192=.ok 1:=K8 (t:=⟨1,2⟩) rfl rfl (by rw [e1]) R9 (by rw [e1];exact ZA)
  have hn:aJ (S1 S).X=3:=by rw [hX];rfl
  have e2:obj (fw (S1 S) 1 xZ.name (cx (S1 S).X 2 xZ.mode)).O 1=⟨1,493,0,0,0,0,l,1,false,2,[],⟨#[]⟩,[(⟨#[100]⟩,⟨3,2⟩),(⟨#[102]⟩,⟨2,1⟩)],u⟩:=by
    show obj (bw (S1 S).X (aD (S1 S).O (aJ (S1 S).X) (fun _=>_)) 1 ⟨#[100]⟩ ⟨aJ (S1 S).X,2⟩) 1=_
    rw [hn,ZC,e1,hX]
    simp only [gU]
    rw [if_pos (by unfold eH;decide +kernel)]
  refine⟨_,UR (c:=xZ) rfl ha ⟨by decide,by decide⟩ (by rw [e1];rfl) ⟨by rw [hX,hi];show (2:Int) < 9;decide,by rw [hX];show (2:Int) < 1099511627776;decide,by rw [hX];show (1:Int) < 8192;decide⟩,rfl,?_,by show (S1 S).X.cH=9;rw [hX],?_,?_⟩
  ·show (ins _ _ (S1 S).idx).length=3
   rw [hX,hi];rfl
  ·exact K8 (t:=⟨1,2⟩) rfl rfl (by rw [e2]) R9 (by rw [e2];exact ZB)
  rw [e2];rfl
theorem ZF {S2:aI} (h1:S2.us=[(1,⟨1,2⟩)]) (h2:S2.X.cH=9) (h3:dH S2.O S2.us 1 ⟨#[100]⟩ 64=.ok 1) (h4:aL ⟨#[100]⟩ (obj S2.O 1).ah=some ⟨3,2⟩):∃ S3,dG S2 EW=(S3,{ EW with answer:=2,code:=0 })/\S3.idx=S2.idx:=by
  have h:=O0 (S:=S2) (c:=EW) rfl h3 h4 rfl (by rw [h1,h2];show (1:Int) < 9;decide)
  have e:least S2.us=2:=by rw [h1];rfl
  rw [e] at h
  exact⟨_,h,rfl⟩
structure WrS (room:Int) (ds:List UInt8) (S:aI):Prop where
  inv:Inv S
  idx:S.idx=[(1,⟨1,2⟩),(2,⟨2,1⟩)]
  us:S.us=[(1,⟨1,2⟩),(2,⟨2,1⟩)]
  X:S.X=⟨9,room,9,0,0,2,1,ds.length⟩
  o1:∃ l n u,obj S.O 1=⟨1,493,0,0,0,0,l,n,false,2,[],⟨#[]⟩,[(⟨#[102]⟩,⟨2,1⟩)],u⟩
  o2:∃ u,obj S.O 2=⟨2,420,0,0,0,0,1,1,false,1,ds,⟨#[]⟩,[],u⟩
structure UnS (ds:List UInt8) (S:aI):Prop where
  inv:Inv S
  idx:S.idx=[(1,⟨1,2⟩),(2,⟨2,1⟩)]
  us:S.us=[(1,⟨1,2⟩),(2,⟨2,1⟩)]
  used:S.X.used=ds.length
  o2:∃ s z u,obj S.O 2=⟨2,420,0,0,s,z,0,1,true,1,ds,⟨#[]⟩,[],u⟩
end chain
end
section
open Go.RowKit Go.Maps aX aq
attribute [local irreducible] ak aU af ai
theorem EX {β:Bs} (A:Option Addr) (c:Nat) (d:List UInt8) (hA:aZ β A d) (hl:d.length<=1048576) :
    Spec Tryz.prog β 37 #[.slice A d.length c] [] (fun v l=>∃ B cap,v=.slice B d.length cap/\l=[.abs (ay 5 1 B d.length cap (cE d))]):=by
 refine SE Tryz.func37 Tryz.ntmps37 (fun R=>?_)
 refine SR (jK 1 [] [] ?_)
 refine NS (jN 2 [3] (fun _=>[]) (fun _=>[]) (fun b1=>.blk b1 [] 5) (fun b1=>?_))
 refine NS (ak.mem (fun w hS=>hS.nP (i:=1) (b:=b1) (cs:=[]) (e:=5) 1 0 (by kernel_rfl) rfl (by decide)) ?_)
 refine jK 2 [5,6] [] ?_
 refine Vb 1 51 A d.length c (cE d) rfl (hA.src) (fun A2 c3=>?_) (hl:=by rw [pR,Nat.mul_one]) (h1:=lU d)
 refine ak.bM 1 rfl (by rw [Nat.zero_add,List.nil_append]) ?_
 refine sl 7 (.slice A2 (0+d.length) (c3)) (.slice A2 (d.length) (c3)) (by rw [Nat.zero_add]) ?_
 refine jK 1 [3] [] ?_
 refine NS (jK 2 [2] [] ?_)
 refine NN (af.ret ?_)
 exact RT _ [1,0] (⟨A2,c3,rfl,rfl⟩)
theorem UU {β:Bs} (f m t:Nat) (X:FM):Spec Tryz.prog β 46 #[vP f] [.blk f [vI (X.cN),vI (X.cB),vI (X.cH),vI (X.cS),vI (X.cZ),.map (some m),vP t,vI (X.last),vI (X.ah),vI (X.used)] 84] (fun v l=>v=vI X.used/\l=[.blk f [vI (X.cN),vI (X.cB),vI (X.cH),vI (X.cS),vI (X.cZ),.map (some m),vP t,vI (X.last),vI (X.ah),vI (X.used)] 84]):=by
 refine SE Tryz.func46 Tryz.ntmps46 (fun R=>?_)
 refine SR (jK 1 [] [] ?_)
 refine NS (jK 5 [2] [(3,a_ 0 f)] ?_)
 refine NN (af.ret ?_)
 exact RT _ [0,1] (⟨rfl,rfl⟩)
theorem Sb {β:Bs}:cu Tryz.prog β 19 #[] [] (fun β' v l=>∃ B Y,v=.agg #[.slice B 2 2,vI 9,vI 99,vI 9,vI 0,vI 0]/\l=[]/\aB β' B sZ Y):=by
 refine oW Tryz.func19 Tryz.ntmps19 (fun hle0 R=>?_)
 refine SR (jN 1 [0] (fun _=>[]) (fun _=>[]) (fun b4=>.blk b4 [.slice none (0) (0),vI 0,vI 0,vI 0,vI 0,vI 0] 30) (fun b4=>?_))
 refine NS (jN 4 [4,5] (fun _=>[]) (fun _=>[]) (fun b5=>.blk b5 [.string ⟨#[102]⟩,vI 2] 68) (fun b5=>?_))
 refine jN 2 [7] (fun _=>[]) (fun _=>[]) (fun b6=>.blk b6 [vI 1,vI 2,vI 493,vI 0,vI 0,vI 0,vI 0,.slice none (0) (0),.string ⟨#[]⟩,.slice (some ⟨b5,0,none⟩) (1) (1),vI 2,vI 1,vI 420,vI 0,vI 0,vI 0,vI 0,.slice none (0) (0),.string ⟨#[]⟩,.slice none (0) (0)] 66) (fun b6=>?_)
 refine jN 2 [1] (fun b7=>[(1,a_ 4 b7)]) (fun _=>[]) (fun b7=>.blk b7 [.slice (some ⟨b6,0,none⟩) (2) (2)] 24) (fun b7=>?_)
 refine NS (ak.mem (fun w hS=>hS.nP (i:=2) (b:=b5) (cs:=[.string ⟨#[102]⟩,vI 2]) (e:=68) 2 1 (by kernel_rfl) rfl (by decide)) ?_)
 refine ak.j8 (Φ:=fun β'=>bg β' (some ⟨b5,0,none⟩) OZ.ah) 2 [0,1,3,4] (eu:=[.abs R,.blk b4 [.slice none (0) (0),vI 0,vI 0,vI 0,vI 0,vI 0] 30,.blk b6 [vI 1,vI 2,vI 493,vI 0,vI 0,vI 0,vI 0,.slice none (0) (0),.string ⟨#[]⟩,.slice (some ⟨b5,0,none⟩) (1) (1),vI 2,vI 1,vI 420,vI 0,vI 0,vI 0,vI 0,.slice none (0) (0),.string ⟨#[]⟩,.slice none (0) (0)] 66,.blk b7 [.slice (some ⟨b6,0,none⟩) (2) (2)] 24]) rfl rfl (by kernel_rfl) (fun F w h β' h1 h2=>bT.gu h h1 h2) (fun Zb rf hE=>?_)
 replace hle0:=hle0.trans rf
 refine ak.mem (fun w hS=>hS.nP (i:=2) (b:=b6) (cs:=[vI 1,vI 2,vI 493,vI 0,vI 0,vI 0,vI 0,.slice none (0) (0),.string ⟨#[]⟩,.slice (some ⟨b5,0,none⟩) (1) (1),vI 2,vI 1,vI 420,vI 0,vI 0,vI 0,vI 0,.slice none (0) (0),.string ⟨#[]⟩,.slice none (0) (0)]) (e:=66) 10 2 (by kernel_rfl) rfl (by decide)) ?_
 refine ak.j8 (Φ:=fun β'=>bT β' (some ⟨b6,0,none⟩) (aR ⟨fun _=>none,fun i=>if i=0 then some ⟨b5,0,none⟩ else none,fun _=>0,fun i=>if i=0 then 1 else 0⟩ sZ)) 2 [0,1,3] (eu:=[.abs R,.blk b4 [.slice none (0) (0),vI 0,vI 0,vI 0,vI 0,vI 0] 30,.blk b7 [.slice (some ⟨b6,0,none⟩) (2) (2)] 24]) rfl rfl (by kernel_rfl) (fun F w h β' h1 h2=>bT.gu h h1 h2) (fun Zc rz hR=>?_)
 replace hE:=hE.le rz
 replace hle0:=hle0.trans rz
 refine jC 4 [] [(0,a_ 2 b7),(3,A_ 1 b4 6)] [(1,[(0,.slice (some ⟨b6,0,none⟩) (2) (2)),(1,vI 9),(2,vI 99),(3,vI 9)])] ?_
 refine NN (af.ret ?_)
 exact rB _ [A_ 1 b4 6] [0] hle0 (⟨_,_,rfl,rfl,Zy hR hE⟩)
end
section
open Go.RowKit Go.Maps aX aq
theorem Spec.Wi {P:Program} {β:Bs} {f:FuncId} {args:Array Value} {pre:List HP} {post:Value->List HP->Prop} {Ψ:Bs->Value->List HP->Prop} (h:Spec P β f args pre post) (Cn:∀ v l,post v l->∃ l1 l2,l=l1++l2/\∀ β',nU β l2 β'->Ψ β' v l1):cu P β f args pre Ψ:=by
  intro A w hS
  refine (h A w hS).mono ?_
  rintro e w' ⟨v,l,h1,h2,h3⟩
  obtain⟨l1,l2,rfl,hl⟩:=Cn v l h2
  have h4:Sat β (([.abs A]++l1)++l2) w':=by rw [List.append_assoc];exact Sat.turn h3
  obtain⟨β',g1,_,g3⟩:=h4.t8
  exact⟨β',v,l1,g1.le,h1,hl β' g1,Sat.turn g3⟩
section c
variable {β:Bs} {S S2:aI} {L:HL} {f m t:Nat} {c c2:ar}
theorem DB (hI:Inv S) (hC:cR β c) (h:dG S c=(S2,c2)):Spec Tryz.prog β 15 #[vP f,.agg ⟨aK c⟩] (pA f m t L S) (fun v l=>∃ L2,v=.agg ⟨aK c2⟩/\l=pA f m t L2 S2):=by
  grind [R6]
theorem O4 (hI:Inv S):cu Tryz.prog β 16 #[vP f] [pF f m t S.X,pI m L S.idx,pO S.O L,pD S.O L,pE S.O L] (fun β' v l=>∃ A cp K,v=.agg #[.slice A (aE S).length cp]/\l=[pF f m t S.X,pI m L S.idx,pO S.O L,pD S.O L,pE S.O L]/\aB β' A (aE S) K):=
  (HB S L f m t hI).Wi (by
    rintro v l ⟨A,cp,K,rfl,rfl⟩
    exact⟨_,_,rfl,fun β' h=>⟨A,cp,K,rfl,rfl,h.graph⟩⟩)
theorem dY (h1:(Lit.int .i64 c.handle).wf=true) (h2:(Lit.int .i64 c.other).wf=true) (h3:c.name.size<=1048576) (h4:c.text.size<=1048576) (h5:c.data=[]) (h6:r8 c.op:=by first|exact rfl|(unfold r8;decide)):cR β c:=
  ⟨h1,h2,h3,h4,by rw [h5];exact fun j v hj=>by simp [cE] at hj,by rw [h5];decide,by rw [h5];exact Nat.zero_le _,h6⟩
theorem zE (A:Option Addr) (cp:Nat) (d:List UInt8) (hA:aZ β A d) (hl:d.length<=1048576):cu Tryz.prog β 37 #[.slice A d.length cp] [] (fun β' v l=>∃ B cap,v=.slice B d.length cap/\l=[]/\aZ β' B d/\d.length<=cap):=
  (EX A cp d hA hl).Wi (by
    rintro v l ⟨B,cap,rfl,rfl⟩
    refine⟨[],_,rfl,fun β' h=>⟨B,cap,rfl,rfl,h.bytes,?_⟩⟩
    obtain⟨F,h1,_⟩:=h.get 0 rfl
    exact (ay.len h1).2)
theorem O5 {room:Int} (hr:0<=room/\room<=1099511627776) {B:Option Addr} {cp:Nat} {Y:Lay} (hG:aB β B sZ Y):Spec Tryz.prog β 6 #[.agg #[.slice B 2 cp],.agg #[.int .i64 9,.int .i64 room,.int .i64 9,.int .i64 0,.int .i64 0]] [] (fun v l=>∃ S f m t L,O3 room S/\v=.tuple #[.pointer (some ⟨f,0,none⟩),.int .i64 0]/\l=pA f m t L S):=by
  refine (Gc B cp sZ Y hG (by decide) (fun i hi=>?_) (fun i hi j hj=>?_) (fun i hi j hj=>?_) (UQ room)).mono ?_
  ·rcases zf hi with rfl|rfl<;>exact⟨by decide,by decide⟩
  ·rcases zf hi with rfl|rfl
   ·have:j=0:=by have hj:j < 1:=hj;omega
    subst this;exact⟨by decide,by decide⟩
   exact absurd hj (Nat.not_lt_zero j)
  ·rcases zf hi with rfl|rfl
   ·have:j=0:=by have hj:j < 1:=hj;omega
    subst this;decide
   exact absurd hj (Nat.not_lt_zero j)
  grind [Xb,Zx,Xd]
end c
end
section
open Go.RowKit aX aq Go.Maps
theorem Spec.Nn {P:Program} {β:Bs} {f:FuncId} {args:Array Value} {pre R:List HP} {post:Value->List HP->Prop} (h:∀ β':Bs,nU β R β'->Spec P β' f args pre post):Spec P β f args (pre++R) (fun v l=>∃ l0,post v l0/\l=l0++R):=by
  intro A w hS
  have h1:=Sat.turn hS
  rw [← List.append_assoc] at h1
  obtain⟨β',g1,_,g3⟩:=h1.t8
  refine (h β' g1 A w (Sat.turn g3)).mono ?_
  rintro e w' ⟨v,l,h1,h2,h3⟩
  refine⟨v,l++R,h1,⟨l,h2,rfl⟩,?_⟩
  have h4:=g1.back (Sat.turn h3)
  rw [List.append_assoc] at h4
  exact Sat.turn h4
theorem H7 {β:Bs} (A B:Option Addr) (c c':Nat) (ns ms:List aA) (L K:Lay) (hH:aB β B ms K) (hl:ns.length<=1048576) (hd:∀ i,i < ns.length->(nd ns i).data.length<=140737488355328/\(nd ns i).ah.length<=1048576) {b:Bool} (hb:decide (ns=ms)=b) :
    Spec Tryz.prog β 18 #[.agg #[.slice A ns.length c],.agg #[.slice B ms.length c']] (JI A c ns L) (fun v l=>v=.bool b/\l=JI A c ns L):=
  (Spec.Nn (pre:=[]) (fun _ g=>II A B c c' ns ms L K g.graph (hH.le g.le) hl hd)).mono (by rintro v l ⟨l0,⟨rfl,rfl⟩,rfl⟩;exact⟨congrArg Value.bool hb,rfl⟩)
theorem La {β:Bs} (t:Nat) (most av:Int) (L:HL) (us:Used Th) :
    Spec Tryz.prog β 53 #[.pointer (some ⟨t,0,none⟩)] [.abs (dJ 140 t most av (bC L us))] (fun v l=>∃ A c,v=.slice A us.length c/\l=[.abs (dJ 140 t most av (bC L us)),.abs (ay 3 1 A us.length c (ints (keys us)))]):=by
  have h:=Jl (β:=β) t most av (bC L us)
  have e:keys (bC L us)=keys us:=keys_map (eV L) us
  grind [keys]
theorem UW {S:aI} (h:Inv0 S):∀ i,i < (aE S).length->(nd (aE S) i).data.length<=140737488355328/\(nd (aE S) i).ah.length<=1048576:=fun i hi=>by
  rw [eZ] at hi
  have h1:(obj S.O (fO S i).k).data.length<=bytes S.idx S.O:=oC (g:=fun p:Int×Th=>(obj S.O p.2.k).data.length) (get_at h hi)
  have h2:(obj S.O (fO S i).k).ah.length<=tot S.idx S.O:=oC (g:=fun p:Int×Th=>(obj S.O p.2.k).ah.length) (get_at h hi)
  have h3:=h.used
  have h4:=h.total
  rw [lu hi]
  refine⟨by show (obj S.O (fO S i).k).data.length<=_;omega,?_⟩
  show ((obj S.O (fO S i).k).ah.map _).length<=_
  rw [List.length_map]
  omega
theorem uh {β:Bs} (A:Option Addr) (c:Nat) (ns:List aA) (L:Lay) (hG:aB β A ns L) (hl:ns.length<=1048576) (hd:∀ i,i < ns.length->(nd ns i).data.length<=1048576/\(nd ns i).ah.length<=1048576) :
    Spec Tryz.prog β 7 #[.agg #[.slice A ns.length c]] [] (fun v l=>∃ B cap,v=.agg #[.slice B ns.length cap]/\l=[.abs (lS β (fun β'=>∃ K,aB β' B ns K))]):=
  (cu.Rg (ι:=Option Addr×Nat) (vv:=fun x=>.agg #[.slice x.1 ns.length x.2]) (ll:=fun _=>[]) (Φ:=fun x β'=>∃ K,aB β' x.1 ns K)
    ((IG A c ns L hG hl hd).mono (by rintro β' v l _ ⟨B,cap,K,rfl,rfl,h⟩;exact⟨(B,cap),rfl,rfl,K,h⟩))).mono (by rintro v l ⟨⟨B,cap⟩,rfl,rfl⟩;exact⟨B,cap,rfl,rfl⟩)
end
section
open Go.RowKit Go.Maps aX aq
attribute [local irreducible] ak aU af ai
theorem UX {β:Bs} (A B:Option Addr) (c d:Nat) (l:List Int) (hA:bT β A (ints l)) (hB:bT β B (ints l)) (hl:l.length<=1048576) :
    Spec Tryz.prog β 44 #[.slice A l.length c,.slice B l.length d] [] (fun v l=>v=.bool true/\l=[]):=by
 refine SE Tryz.func44 Tryz.ntmps44 (fun R=>?_)
 refine SR (jK 1 [] [] ?_)
 refine NN (af.seq (SR (jK 5 [10] [(4,p_ ⟨[],none,none,none,some (.bool false)⟩ [(Value.bool (!decide ((((l.length:Nat):Int):Int)=(((l.length:Nat):Int):Int))))=(.bool false)] ⟨by simp,trivial⟩)] ?_)))
 refine NN (CF (af.skip (NX (af.seq (SR (jK 1 [5] [] ?_))))))
 refine NN (af.block ?_)
 refine lJ (fun (i:Nat)=>(i<=l.length)) (fun (i:Nat)=>l.length - i) (fun (i:Nat)=>[(0,.slice A (l.length) (c)),(1,.slice B (l.length) (d)),(5,vI ↑i)]) (fun (i:Nat)=>[.abs R]) 0 [0] (Nat.zero_le _) ?_
 rintro i hi
 refine af.seq (SR (jK 4 [14] [] ?_))
 refine NN (cP ((((i:Nat):Int):Int) < (((l.length:Nat):Int):Int)) (fun iH=>?_) (fun iH=>?_))
 ·refine af.skip (NX (af.seq (af.block (af.seq ?_))))
  refine af.bF (by kernel_rfl) (by kernel_rfl) ?_
  refine jQ 9 [25] [(2,x_ i l.length (oJ.hd hA (j:=i) (by omega))),(3,r_ (oJ.rd hA (j:=i) (by omega))),(6,x_ i l.length (oJ.hd hB (j:=i) (by omega))),(7,r_ (oJ.rd hB (j:=i) (by omega))),(8,p_ ⟨[],none,none,none,some (.bool false)⟩ [(Value.bool (!decide (((l.getD i 0):Int)=((l.getD i 0):Int))))=(.bool false)] ⟨by simp,trivial⟩)] ?_
  refine NQ (NX ?_)
  refine CF (af.skip (ai.ax (NX (af.region ?_))))
  refine jK 3 [5] [(1,wJ ((i:Int)+1) (↑(i+1)))] ?_
  refine NL ?_
  exact tJ ((i+1)) [0] (by omega)
 refine af.exit (ai.aC (ai.aC (ai.aW (NX (SR ?_)))))
 refine jK 1 [4] [] ?_
 refine NN (af.ret ?_)
 exact RT _ [0] (⟨rfl,rfl⟩)
theorem Sc {β:Bs} (S:aI) (L:HL) (f m t:Nat):Spec Tryz.prog β 17 #[vP f] [pF f m t S.X,pT t S.X.cH S.av L S.us] (fun v l=>∃ A c,v=.slice A S.us.length c/\l=[pF f m t S.X,pT t S.X.cH S.av L S.us,.abs (ay 3 1 A S.us.length c (ints (keys S.us)))]):=by
 refine SE Tryz.func17 Tryz.ntmps17 (fun R=>?_)
 refine SR (jK 1 [] [] ?_)
 refine NS (jK 4 [6] [(3,a_ 0 f)] ?_)
 refine gL [1] (La t S.X.cH S.av L S.us) ?_
 rintro _ _ ⟨A,c,rfl,rfl⟩
 refine jK 1 [2] [] ?_
 refine NN (af.ret ?_)
 exact RT _ [2,0,1,3] (⟨A,c,rfl,rfl⟩)
theorem UY {β:Bs} (S:aI) (L:HL) (f m t:Nat):Spec Tryz.prog β 45 #[vP f] [pF f m t S.X,pT t S.X.cH S.av L S.us] (fun v l=>v=vI S.av/\l=[pF f m t S.X,pT t S.X.cH S.av L S.us]):=by
 refine SE Tryz.func45 Tryz.ntmps45 (fun R=>?_)
 refine SR (jK 1 [] [] ?_)
 refine NS (jK 4 [6] [(3,a_ 0 f)] ?_)
 refine gL [1] (PO t S.X.cH S.av (bC L S.us)) ?_
 rintro _ _ ⟨rfl,rfl⟩
 refine jK 1 [2] [] ?_
 refine NN (af.ret ?_)
 exact RT _ [1,0,2] (⟨rfl,rfl⟩)
theorem Sd {β:Bs} (most:Int) (h:0<=most/\most<=1024):Spec Tryz.prog β 29 #[vI most] [] (fun v l=>v=.agg #[vI most,vI 0,.slice none 0 0,.slice none 0 0]/\l=[]):=by
 refine SE Tryz.func29 Tryz.ntmps29 (fun R=>?_)
 refine SR (jN 1 [2] (fun _=>[]) (fun _=>[]) (fun b1=>.blk b1 [vI 0,vI 0,.slice none (0) (0),.slice none (0) (0)] 40) (fun b1=>?_))
 refine NN (af.seq (SR (jK 2 [4] [] ?_)))
 refine NN (cP ((most:Int) < (0:Int)) (fun h4=>?_) (fun h4=>?_))
 ·exact absurd h4 (by omega)
 refine af.skip (NX (af.seq (SR (jK 2 [6] [] ?_))))
 refine NN (cP ((most:Int) > (1024:Int)) (fun h6=>?_) (fun h6=>?_))
 ·exact absurd h6 (by omega)
 refine af.skip (NX (SR (jC 3 [] [(2,A_ 1 b1 4)] [(1,[(0,vI (most))])] ?_)))
 refine NN (af.ret ?_)
 exact rT _ [A_ 1 b1 4] [0] (⟨rfl,rfl⟩)
end
section
open Go.RowKit
theorem lg.wide {ns:List aA} {b b':Nat} (h:lg ns b) (hb:b<=b'):lg ns b':=⟨Nat.le_trans h.len hb,fun i hi=>by
  have:=h.node i hi
  exact⟨this.ids,Nat.le_trans this.data hb,Nat.le_trans this.target hb,Nat.le_trans this.ah hb,fun j hj=>⟨(this.ent j hj).id,Nat.le_trans (this.ent j hj).name hb⟩⟩⟩
section gb
variable {ns:List aA} (h:lg ns 1048576)
include h
theorem Ce:ns.length<=1048576:=by have:=h.len;omega
theorem Cg:∀ i,i < ns.length->(nd ns i).data.length<=1048576/\(nd ns i).ah.length<=1048576:=fun i hi=>by
  have h1:=(h.node i hi).data
  have h2:=(h.node i hi).ah
  omega
theorem EY:∀ i,i < ns.length->∀ j,j < (nd ns i).ah.length->-9223372036854775808<=(ent ns i j).id/\(ent ns i j).id<=9223372036854775807:=fun i hi j hj=>((h.node i hi).ent j hj).id
theorem EZ:∀ i,i < ns.length->∀ j,j < (nd ns i).ah.length->(ent ns i j).name.size<=1048576:=fun i hi j hj=>by
  have h1:=((h.node i hi).ent j hj).name
  unfold ent
  omega
theorem Wj:∀ i,i < ns.length->(nd ns i).target.size<=1048576:=fun i hi=>by
  have h1:=(h.node i hi).target
  omega
end gb
structure abR (X:FM):Prop where
  cN:ur X.cN
  cB:ur X.cB
  cH:ur X.cH
  cS:ur X.cS
  cZ:ur X.cZ
end
section
open Go.RowKit Go.WideShapes Go.ChangeShapes Go.ChangeAt Go.Deep
section a
variable {H:Type} {enc:TypeId×Value->H} {W:World} {sp:Nat->Bool}
def ZG (A:Option Addr) (n cp:Nat) (X:FM):Value:=.agg #[.slice A n cp,.int .i64 X.cN,.int .i64 X.cB,.int .i64 X.cH,.int .i64 X.cS,.int .i64 X.cZ]
theorem open_start {v:Value} {d:DataW H} {ps:List MemPlace} {r:Go.Reach} {b0:Nat} (hval:Value.okWide Tryz.prog W r b0 30 v) (h:DataW.Trod enc Tryz.prog W 0 sp true 30 v d ps) :
    ∃ A cp,∃ ns:List aA,∃ L:Lay,∃ X:FM,v=ZG A ns.length cp X/\aB (B0 W) A ns L/\lg ns (Rows.uptoBulk d)/\abR X:=by
  obtain⟨cs,rfl,hcs⟩:=okWide_struct Tryz.underlying30 hval
  obtain⟨fuel,h⟩:=h
  obtain⟨ys,m,_,hx,hl,qv,hf⟩:=DataW.trod_struct Tryz.underlying30 h
  have hC:Tryz.prog.cellsOf 30=6:=by kernel_rfl
  rw [hC] at hcs
  obtain⟨cs⟩:=cs
  match cs,hcs with
  | [c0,c1,c2,c3,c4,c5],_=>
    obtain⟨h0,b0⟩:=bh (hf 0 _ rfl) (by rw [qv];decide)
    obtain⟨h1,_⟩:=bh (hf 1 _ rfl) (by rw [qv];decide)
    obtain⟨us,_,_,ZH,_,tR,hu⟩:=DataW.trod_struct Tryz.underlying24 h0
    obtain⟨g0,e0⟩:=bh (hu 0 _ rfl) (by rw [tR];decide)
    obtain⟨A,cp,ns,L,rfl,hG,hB⟩:=NV (c:=c0) g0
    obtain⟨vs,_,_,_,_,hvl,hv⟩:=DataW.trod_struct Tryz.underlying28 h1
    obtain⟨k0,_⟩:=bh (hv 0 _ rfl) (by rw [hvl];decide)
    obtain⟨k1,_⟩:=bh (hv 1 _ rfl) (by rw [hvl];decide)
    obtain⟨k2,_⟩:=bh (hv 2 _ rfl) (by rw [hvl];decide)
    obtain⟨k3,_⟩:=bh (hv 3 _ rfl) (by rw [hvl];decide)
    obtain⟨ts,_,_,_,_,htl,ht⟩:=DataW.trod_struct Tryz.underlying26 k3
    obtain⟨t0,_⟩:=bh (ht 0 _ rfl) (by rw [htl];decide)
    obtain⟨t1,_⟩:=bh (ht 1 _ rfl) (by rw [htl];decide)
    obtain⟨z0,rfl,w0⟩:=jX (c:=c1) Tryz.underlying3 k0
    obtain⟨z1,rfl,w1⟩:=jX (c:=c2) Tryz.underlying3 k1
    obtain⟨z2,rfl,w2⟩:=jX (c:=c3) Tryz.underlying3 k2
    obtain⟨z3,rfl,w3⟩:=jX (c:=c4) Tryz.underlying3 t0
    obtain⟨z4,rfl,w4⟩:=jX (c:=c5) Tryz.underlying3 t1
    cases hx
    rw [ZH] at b0
    exact⟨A,cp,ns,L,⟨z0,z1,z2,z3,z4,0,0,0⟩,rfl,hG,hB.wide (Nat.le_trans e0 b0),⟨w0,w1,w2,w3,w4⟩⟩
end a
end
end Go.Proofs.YtnipofpbcggjcaaGreat
