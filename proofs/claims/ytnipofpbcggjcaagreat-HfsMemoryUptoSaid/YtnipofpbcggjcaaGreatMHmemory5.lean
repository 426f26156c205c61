/-
  PROVED HERE: lemmas and contracts of functions (texts of this repo, joined; what the claim does not use is left out): H2, H3, H4, H5, H6, H7, H8, H9, Vh, HD, H10, H11, H12, Lw, LA, Lc, Og, LC, Sb, St.
  CONDITIONS: as the theorems say.
-/
import Derived.Test.YtnipofpbcggjcaaGreatMHmemory4
set_option maxRecDepth 100000
set_option maxHeartbeats 4000000
namespace Go.Proofs.YtnipofpbcggjcaaGreat
section
open Go.RowKit Go.Maps aX aq
attribute [local irreducible] ak aV af ai aY
abbrev R3 (f:Nat) (X:FM) (m:Nat) (t):=(.blk f [vI (X.cN),vI (X.cB),vI (X.cH),vI (X.cS),vI (X.cZ),.map (some m),vP t,vI (X.last),vI (X.ah),vI (X.used)] 84:HP)
theorem UF {β:Bs} (X:FM) (f m t:Nat) (hX:0<=X.ah/\X.ah<=1048576/\-1125899906842624<=X.used/\X.used<=1125899906842624/\0<=X.last/\X.last<=1125899906842624) (O:bZ) (L:HL) (idx:Used Th) (R4:aq.bH (keys idx)) (th:Th) (hkt:(obj O th.k).kind=th.kind) (h3:th.kind=1\/th.kind=2\/th.kind=3) (hg:(obj O th.k).gone=true) (ho:(obj O th.k).opens=0) (gn:aq.get idx (obj O th.k).id=some th) (hw:(Lit.int .i64 (obj O th.k).id).wf=true) (Bu:(obj O th.k).data.length<=1125899906842624) :
    Spec Tryz.prog β 131 #[vP f,(eT L th)] [pO O L,pF f m t X,pI m L idx] (fun v l=>v=.tuple #[]/\l=[pO O L,pF f m t { X with used:=if th.kind=1 then X.used - (obj O th.k).data.length else X.used },pI m L (del (obj O th.k).id idx)]):=by
 refine SE Tryz.func131 Tryz.ntmps131 (fun R=>?_)
 refine af.seq ?_
 obtain⟨tk,kd⟩:=th;simp only at hkt h3;rcases h3 with rfl|rfl|rfl
 ·replace hkt:(obj O tk).kind=1:=hkt
  replace hg:(obj O tk).gone=true:=hg
  replace ho:(obj O tk).opens=0:=ho
  replace gn:aq.get idx (obj O tk).id=some _:=gn
  replace hw:(Lit.int .i64 (obj O tk).id).wf=true:=hw
  have hdl:=sF R4 (get_some gn)
  replace Bu:(obj O tk).data.length<=1125899906842624:=Bu
  refine af.region (jK 1 [7] [] ?_)
  refine gL [] (dz (L.b tk)) ?_
  rintro _ _ ⟨rfl,rfl⟩
  refine jK 1 [4] [] ?_
  refine NN (af.seq (SR (jK 6 [14] [(3,v_ 0 (rU L hkt))] ?_)))
  refine ak.lK 14 (!(obj O tk).gone) (fun _=>by kernel_rfl) (fun iU=>?_) (fun iU=>?_)
  ·exact absurd iU (by simp [hg])
  refine jK 6 [20] [(3,v_ 0 (lY L hkt))] ?_
  refine NN (cP (((obj O tk).opens:Int) > (0:Int)) (fun nL=>?_) (fun nL=>?_))
  ·exact absurd nL (by omega)
  refine af.skip (NX (af.seq (rM (List.range 9) 8 [0,1,2,3] ?_)))
  refine jR 8 [0,1,24,28] [(3,a_ 1 f),(7,v_ 0 (ur L hkt))] ?_
  refine aY.last rfl rfl ?_
  refine ak.DV 2 (d:=none) (t:=78) (K:=3) (E:=82) (b:=m) (n:=idx.length) (f:=(bB (bC L idx))) (x:=(.tmp 24)) (ix:=(.tmp 28)) (key:=.int .i64 ((obj O tk).id)) (kl:=(.int .i64 (obj O tk).id)) (n':=(idx.length - 1)) (f':=(bB (bC L (del (obj O tk).id idx)))) (ats:=#[78,3]) (fun _=>by kernel_rfl) (by kernel_rfl) (fun _=>by kernel_rfl) (fun _=>by kernel_rfl) rfl gU Tryz.underlying78 (mE hw) (by rw [iZ,gn];rfl) (Fy) ?_
  refine NL (ai.np (NX (SR ?_)))
  refine jK 7 [5,6] [] ?_
  refine NS (jK 1 [34] [] ?_)
  refine NN (CT (rM (List.range 13) 12 [0,1,2,3] ?_))
  refine jR 12 [44,46] [(3,a_ 1 f),(7,v_ 0 (K5 L hkt)),(9,wJ (X.used - (((obj O tk).data.length:Nat):Int)) (X.used - (((obj O tk).data.length:Nat):Int)))] ?_
  refine aY.last rfl rfl ?_
  refine jC 1 [] [(0,a_ 1 f)] [(1,[(9,vI (X.used - (((obj O tk).data.length:Nat):Int)))])] ?_
  refine NL (ai.np ?_)
  refine ai.eE [(2,.abs (bq Tryz.prog 3 m (bB (bC L (del (obj O tk).id idx))) ((del (obj O tk).id idx).length)))] (fun w hS=>by rw [show (del (obj O tk).id idx).length=idx.length - 1 by omega];exact hS) ?_
  exact RF (.tuple #[]) [0,1,2,3] (⟨rfl,rfl⟩)
 ·replace hkt:(obj O tk).kind=2:=hkt
  replace hg:(obj O tk).gone=true:=hg
  replace ho:(obj O tk).opens=0:=ho
  replace gn:aq.get idx (obj O tk).id=some _:=gn
  replace hw:(Lit.int .i64 (obj O tk).id).wf=true:=hw
  have hdl:=sF R4 (get_some gn)
  replace Bu:(obj O tk).data.length<=1125899906842624:=Bu
  refine af.region (jK 1 [7] [] ?_)
  refine gL [] (dz (L.b tk)) ?_
  rintro _ _ ⟨rfl,rfl⟩
  refine jK 1 [4] [] ?_
  refine NN (af.seq (SR (jK 6 [14] [(3,v_ 0 (rU L hkt))] ?_)))
  refine ak.lK 14 (!(obj O tk).gone) (fun _=>by kernel_rfl) (fun iU=>?_) (fun iU=>?_)
  ·exact absurd iU (by simp [hg])
  refine jK 6 [20] [(3,v_ 0 (lY L hkt))] ?_
  refine NN (cP (((obj O tk).opens:Int) > (0:Int)) (fun nL=>?_) (fun nL=>?_))
  ·exact absurd nL (by omega)
  refine af.skip (NX (af.seq (rM (List.range 9) 8 [0,1,2,3] ?_)))
  refine jR 8 [0,1,24,28] [(3,a_ 1 f),(7,v_ 0 (ur L hkt))] ?_
  refine aY.last rfl rfl ?_
  refine ak.DV 2 (d:=none) (t:=78) (K:=3) (E:=82) (b:=m) (n:=idx.length) (f:=(bB (bC L idx))) (x:=(.tmp 24)) (ix:=(.tmp 28)) (key:=.int .i64 ((obj O tk).id)) (kl:=(.int .i64 (obj O tk).id)) (n':=(idx.length - 1)) (f':=(bB (bC L (del (obj O tk).id idx)))) (ats:=#[78,3]) (fun _=>by kernel_rfl) (by kernel_rfl) (fun _=>by kernel_rfl) (fun _=>by kernel_rfl) rfl gU Tryz.underlying78 (mE hw) (by rw [iZ,gn];rfl) (Fy) ?_
  refine NL (ai.np (NX (SR ?_)))
  refine jK 7 [5,6] [] ?_
  refine NS (jK 1 [34] [] ?_)
  refine NN (CF (af.skip (ai.eE [(2,.abs (bq Tryz.prog 3 m (bB (bC L (del (obj O tk).id idx))) ((del (obj O tk).id idx).length)))] (fun w hS=>by rw [show (del (obj O tk).id idx).length=idx.length - 1 by omega];exact hS) ?_)))
  exact RF (.tuple #[]) [0,1,2,3] (⟨rfl,rfl⟩)
 replace hkt:(obj O tk).kind=3:=hkt
 replace hg:(obj O tk).gone=true:=hg
 replace ho:(obj O tk).opens=0:=ho
 replace gn:aq.get idx (obj O tk).id=some _:=gn
 replace hw:(Lit.int .i64 (obj O tk).id).wf=true:=hw
 have hdl:=sF R4 (get_some gn)
 replace Bu:(obj O tk).data.length<=1125899906842624:=Bu
 refine af.region (jK 1 [7] [] ?_)
 refine gL [] (dz (L.b tk)) ?_
 rintro _ _ ⟨rfl,rfl⟩
 refine jK 1 [4] [] ?_
 refine NN (af.seq (SR (jK 6 [14] [(3,v_ 0 (rU L hkt))] ?_)))
 refine ak.lK 14 (!(obj O tk).gone) (fun _=>by kernel_rfl) (fun iU=>?_) (fun iU=>?_)
 ·exact absurd iU (by simp [hg])
 refine jK 6 [20] [(3,v_ 0 (lY L hkt))] ?_
 refine NN (cP (((obj O tk).opens:Int) > (0:Int)) (fun nL=>?_) (fun nL=>?_))
 ·exact absurd nL (by omega)
 refine af.skip (NX (af.seq (rM (List.range 9) 8 [0,1,2,3] ?_)))
 refine jR 8 [0,1,24,28] [(3,a_ 1 f),(7,v_ 0 (ur L hkt))] ?_
 refine aY.last rfl rfl ?_
 refine ak.DV 2 (d:=none) (t:=78) (K:=3) (E:=82) (b:=m) (n:=idx.length) (f:=(bB (bC L idx))) (x:=(.tmp 24)) (ix:=(.tmp 28)) (key:=.int .i64 ((obj O tk).id)) (kl:=(.int .i64 (obj O tk).id)) (n':=(idx.length - 1)) (f':=(bB (bC L (del (obj O tk).id idx)))) (ats:=#[78,3]) (fun _=>by kernel_rfl) (by kernel_rfl) (fun _=>by kernel_rfl) (fun _=>by kernel_rfl) rfl gU Tryz.underlying78 (mE hw) (by rw [iZ,gn];rfl) (Fy) ?_
 refine NL (ai.np (NX (SR ?_)))
 refine jK 7 [5,6] [] ?_
 refine NS (jK 1 [34] [] ?_)
 refine NN (CF (af.skip (ai.eE [(2,.abs (bq Tryz.prog 3 m (bB (bC L (del (obj O tk).id idx))) ((del (obj O tk).id idx).length)))] (fun w hS=>by rw [show (del (obj O tk).id idx).length=idx.length - 1 by omega];exact hS) ?_)))
 exact RF (.tuple #[]) [0,1,2,3] (⟨rfl,rfl⟩)
theorem OX {β:Bs} (O:bZ) (L:HL) (f:Nat) (th:Th) (hkt:(obj O th.k).kind=th.kind) (h3:th.kind=1\/th.kind=2\/th.kind=3) (hg:(obj O th.k).gone=false\/0 < (obj O th.k).opens) :
    Spec Tryz.prog β 131 #[vP f,(eT L th)] [pO O L] (fun v l=>v=.tuple #[]/\l=[pO O L]):=by
 refine SE Tryz.func131 Tryz.ntmps131 (fun R=>?_)
 refine af.seq ?_
 obtain⟨tk,kd⟩:=th;simp only at hkt h3;rcases h3 with rfl|rfl|rfl
 ·replace hkt:(obj O tk).kind=1:=hkt
  replace hg:(obj O tk).gone=false\/0 < (obj O tk).opens:=hg
  refine af.region (jK 1 [7] [] ?_)
  refine gL [] (dz (L.b tk)) ?_
  rintro _ _ ⟨rfl,rfl⟩
  refine jK 1 [4] [] ?_
  refine NN (af.seq (SR (jK 6 [14] [(3,v_ 0 (rU L hkt))] ?_)))
  refine ak.lK 14 (!(obj O tk).gone) (fun _=>by kernel_rfl) (fun iU=>?_) (fun iU=>?_)
  ·refine jK 6 [20] [] ?_
   refine NN (CT (af.ret (ai.aj ?_)))
   exact RT _ [0,1] (⟨rfl,rfl⟩)
  refine jK 6 [20] [(3,v_ 0 (lY L hkt))] ?_
  refine NN (cP (((obj O tk).opens:Int) > (0:Int)) (fun nL=>?_) (fun nL=>?_))
  ·refine af.ret (ai.aj ?_)
   exact RT _ [0,1] (⟨rfl,rfl⟩)
  exact absurd hg (by simp at iU;rw [iU];simp;omega)
 ·replace hkt:(obj O tk).kind=2:=hkt
  replace hg:(obj O tk).gone=false\/0 < (obj O tk).opens:=hg
  refine af.region (jK 1 [7] [] ?_)
  refine gL [] (dz (L.b tk)) ?_
  rintro _ _ ⟨rfl,rfl⟩
  refine jK 1 [4] [] ?_
  refine NN (af.seq (SR (jK 6 [14] [(3,v_ 0 (rU L hkt))] ?_)))
  refine ak.lK 14 (!(obj O tk).gone) (fun _=>by kernel_rfl) (fun iU=>?_) (fun iU=>?_)
  ·refine jK 6 [20] [] ?_
   refine NN (CT (af.ret (ai.aj ?_)))
   exact RT _ [0,1] (⟨rfl,rfl⟩)
  refine jK 6 [20] [(3,v_ 0 (lY L hkt))] ?_
  refine NN (cP (((obj O tk).opens:Int) > (0:Int)) (fun nL=>?_) (fun nL=>?_))
  ·refine af.ret (ai.aj ?_)
   exact RT _ [0,1] (⟨rfl,rfl⟩)
  exact absurd hg (by simp at iU;rw [iU];simp;omega)
 replace hkt:(obj O tk).kind=3:=hkt
 replace hg:(obj O tk).gone=false\/0 < (obj O tk).opens:=hg
 refine af.region (jK 1 [7] [] ?_)
 refine gL [] (dz (L.b tk)) ?_
 rintro _ _ ⟨rfl,rfl⟩
 refine jK 1 [4] [] ?_
 refine NN (af.seq (SR (jK 6 [14] [(3,v_ 0 (rU L hkt))] ?_)))
 refine ak.lK 14 (!(obj O tk).gone) (fun _=>by kernel_rfl) (fun iU=>?_) (fun iU=>?_)
 ·refine jK 6 [20] [] ?_
  refine NN (CT (af.ret (ai.aj ?_)))
  exact RT _ [0,1] (⟨rfl,rfl⟩)
 refine jK 6 [20] [(3,v_ 0 (lY L hkt))] ?_
 refine NN (cP (((obj O tk).opens:Int) > (0:Int)) (fun nL=>?_) (fun nL=>?_))
 ·refine af.ret (ai.aj ?_)
  exact RT _ [0,1] (⟨rfl,rfl⟩)
 exact absurd hg (by simp at iU;rw [iU];simp;omega)
theorem uf {β:Bs} (X:FM) (f m t:Nat) (hX:0<=X.ah/\X.ah<=1048576/\-1125899906842624<=X.used/\X.used<=1125899906842624/\0<=X.last/\X.last<=1125899906842624) (O:bZ) (L:HL) (idx:Used Th) (R4:aq.bH (keys idx)) (th:Th) (hkt:(obj O th.k).kind=th.kind) (h3:th.kind=1\/th.kind=2\/th.kind=3) (ho:0<=(obj O th.k).opens) (gn:qD O th->aq.get idx (obj O th.k).id=some th) (hw:(Lit.int .i64 (obj O th.k).id).wf=true) (Bu:(obj O th.k).data.length<=1125899906842624) :
    Spec Tryz.prog β 131 #[vP f,(eT L th)] [pO O L,pF f m t X,pI m L idx] (fun v l=>v=.tuple #[]/\l=[pO O L,pF f m t { X with used:=mg O X.used th },pI m L (iB O idx th)]):=by
  unfold mg iB
  by_cases h:qD O th
  ·rw [if_pos h,if_pos h]
   exact UF X f m t hX O L idx R4 th hkt h3 h.1 h.2 (gn h) hw Bu
  rw [if_neg h,if_neg h]
  refine (Spec.uj (pre:=[pO O L]) (R:=[pF f m t X,pI m L idx]) (fun _ _=>OX O L f th hkt h3 ?_)).mono (by grind)
  cases hg:(obj O th.k).gone with
  | false=>exact .inl rfl
  | true=>exact .inr (by have:¬ (obj O th.k).opens=0:=fun e=>h ⟨hg,e⟩;omega)
theorem xH {β:Bs} (X:FM) (f m t:Nat):Spec Tryz.prog β 124 #[vP f] [R3 f X m t] (fun v l=>v=.bool (decide (X.ah < 8192))/\l=[R3 f X m t]):=by
 refine SE Tryz.func124 Tryz.ntmps124 (fun R=>?_)
 refine SR (jK 1 [] [] ?_)
 refine NS (jK 6 [2] [(3,a_ 0 f)] ?_)
 refine NN (af.ret ?_)
 exact RT _ [0,1] (⟨rfl,rfl⟩)
theorem iw {β:Bs} (a b:Int):Spec Tryz.prog β 20 #[vI a,vI b] [] (fun v l=>v=.bool (decide (0<=a/\a<=b))/\l=[]):=by
 refine SE Tryz.func20 Tryz.ntmps20 (fun R=>?_)
 refine SR (jK 1 [] [] ?_)
 refine NS (jK 3 [7] [] ?_)
 refine sP 7 ((a:Int) ≥ (0:Int)) (fun h7=>?_) (fun h7=>?_)
 ·refine jK 5 [4] [] ?_
  refine NN (af.ret ?_)
  exact RT (.bool (decide ((a:Int)<=(b:Int)))) [0] (⟨by grind,rfl⟩)
 refine jK 5 [4] [] ?_
 refine NN (af.ret ?_)
 exact RT (.bool false) [0] (⟨by grind,rfl⟩)
theorem La {β:Bs} (X:FM) (f m t:Nat) (L:HL) (idx:Used Th):Spec Tryz.prog β 147 #[vP f] [R3 f X m t,.abs (bq Tryz.prog 3 m (bB (bC L idx)) idx.length)] (fun v l=>v=.bool (decide ((idx.length:Int) < X.cN/\X.last < 1099511627776/\X.ah < 8192))/\l=[R3 f X m t,.abs (bq Tryz.prog 3 m (bB (bC L idx)) idx.length)]):=by
 refine SE Tryz.func147 Tryz.ntmps147 (fun R=>?_)
 refine SR (jK 1 [] [] ?_)
 refine NN (af.seq (af.bF (by kernel_rfl) (by kernel_rfl) ?_))
 refine jQ 4 [6] [(3,a_ 0 f)] ?_
 refine aV.xJ 1 (d:=(some 7)) (t:=78) (K:=3) (E:=82) (b:=m) (n:=idx.length) (f:=(bB (bC L idx))) (x:=(.tmp 6)) (ats:=#[78]) (fun _=>by kernel_rfl) (by kernel_rfl) (fun _=>by kernel_rfl) rfl Tryz.underlying78 ?_
 refine jQ 7 [14] [(4,a_ 0 f)] ?_
 refine aV.tv 14 ((((idx.length:Nat):Int):Int) < (X.cN:Int)) (fun _=>by kernel_rfl) (fun iU=>?_) (fun iU=>?_)
 ·refine jQ 7 [21] [(3,a_ 0 f)] ?_
  refine aV.tv 21 ((X.last:Int) < (1099511627776:Int)) (fun _=>by kernel_rfl) (fun oy=>?_) (fun oy=>?_)
  ·refine jQ 1 [22] [] ?_
   refine jT [0] [0,1,2] (.bool (decide (X.ah < 8192))) (xH X f m t) ?_
   refine jQ 2 [2] [] ?_
   refine NQ (NX (af.ret ?_))
   exact RT (.bool (decide (X.ah < 8192))) [0,1,2] (⟨by grind,rfl⟩)
  refine jQ 4 [2] [] ?_
  refine NQ (NX (af.ret ?_))
  exact RT (.bool false) [0,1,2] (⟨by grind,rfl⟩)
 refine jQ 11 [2] [] ?_
 refine NQ (NX (af.ret ?_))
 exact RT (.bool false) [0,1,2] (⟨by grind,rfl⟩)
theorem Bv {β:Bs} (X:FM) (f m t:Nat) (hX:0<=X.ah/\X.ah<=1048576/\-1125899906842624<=X.used/\X.used<=1125899906842624/\0<=X.last/\X.last<=1125899906842624) (mode:Int):Spec Tryz.prog β 121 #[vP f,vI mode] [R3 f X m t] (fun v l=>v=.agg #[vI (X.last+1),vI mode,vI 0,vI 0,vI X.cS,vI X.cZ,vI 0,vI 0,.bool false]/\l=[.blk f [vI (X.cN),vI (X.cB),vI (X.cH),vI (X.cS),vI (X.cZ),.map (some m),vP t,vI (X.last+1),vI (X.ah),vI (X.used)] 84]):=by
 refine SE Tryz.func121 Tryz.ntmps121 (fun R=>?_)
 refine SR (jN 1 [4] (fun _=>[]) (fun _=>[]) (fun b1=>.blk b1 [vI 0,vI 0,vI 0,vI 0,vI 0,vI 0,vI 0,vI 0,.bool false] 86) (fun b1=>?_))
 refine NS (jC 8 [] [(3,a_ 0 f),(4,wJ (X.last+1) (X.last+1)),(7,a_ 0 f)] [(0,[(7,vI (X.last+1))])] ?_)
 refine NN (af.seq (rM (List.range 12) 11 [0,1,2] ?_))
 refine jR 11 [4,22] [(3,a_ 0 f),(9,A_ 0 f 2)] ?_
 refine aY.last rfl rfl ?_
 refine jC 1 [] [(0,A_ 2 b1 9)] [(2,[(0,vI (X.last+1)),(1,vI (mode)),(4,vI (X.cS)),(5,vI (X.cZ))])] ?_
 refine NL (ai.np (NX (af.ret ?_)))
 exact rT _ [A_ 2 b1 9] [0,1] (⟨rfl,rfl⟩)
end
section
open Go.RowKit Go.Maps aX aq
attribute [local irreducible] ak aV af ai aY
theorem qO {β:Bs} (S:aL) (L:HL) (f m t:Nat) (hI:Inv S) (d:Nat) (hd:Live S.idx ⟨d,2⟩) (name:ByteArray) (hsz:name.size<=1048576) (th:Th) (hlk:aM name (obj S.O d).ah=some th) :
    Spec Tryz.prog β 149 #[vP f,vP (L.b d),.string name] [pF f m t S.X,pO S.O L,pE S.O L,pI m L S.idx] (fun v l=>v=.tuple #[]/\l=[pF f m t ((aE S d name th).X),pO ((aE S d name th).O) L,pE ((aE S d name th).O) L,pI m L ((aE S d name th).idx)]):=by
 have hX:=hI.hX
 have hel:(obj S.O d).ah.length<=8192:=hI.jg hd
 have hkd:(obj S.O d).kind=2:=hI.kind hd
 refine SE Tryz.func149 Tryz.ntmps149 (fun R=>?_)
 refine af.seq ?_
 obtain⟨tk,kd⟩:=th;have hlv:=(hI.ent hd hlk).2;have acg:=hI.ne hd hlk;rcases (hI.ob _ hlv).2.2 with e0|e0|e0<;>simp only at e0<;>subst e0
 ·have hkt:(obj S.O tk).kind=1:=hI.kind hlv
  have hlb:=hI.lb hlv;have hid:=hI.ob _ hlv;have hop:=hI.GR hlv;have hdl:=hI.JA hlv;have sZ:=hI.P7 hlv
  refine af.region (jK 3 [8,9,10] [] ?_)
  refine gL [0,1,2] (kY S.X f m t hX S.O L d hkd name hsz ⟨tk,1⟩ hkt (by simp) hlk (hI.twice hd) (by omega) (by simp only at hlb ⊢;omega)) ?_
  rintro _ _ ⟨rfl,rfl⟩
  refine jK 1 [6] [] ?_
  refine NS ?_
  have lV:(obj (aG S.X S.O d name ⟨tk,1⟩) d).kind=2:=(cY).trans (hkd)
  have pJ:(obj (aG S.X S.O d name ⟨tk,1⟩) tk).kind=1:=(cY).trans (hkt)
  have Bw:(obj (aG S.X S.O d name ⟨tk,1⟩) tk).id=(obj S.O tk).id:=cE (g:=aN.id) (fun _ _=>rfl) (fun _ _=>rfl) (fun _ _ _=>rfl)
  have Bz:(obj (aG S.X S.O d name ⟨tk,1⟩) tk).opens=(obj S.O tk).opens:=cE (g:=aN.opens) (fun _ _=>rfl) (fun _ _=>rfl) (fun _ _ _=>rfl)
  have BA:(obj (aG S.X S.O d name ⟨tk,1⟩) tk).data=(obj S.O tk).data:=cE (g:=aN.data) (fun _ _=>rfl) (fun _ _=>rfl) (fun _ _ _=>rfl)
  generalize dh:(aG S.X S.O d name ⟨tk,1⟩)=d9 at lV pJ Bw Bz BA ⊢
  refine jK 1 [12] [] ?_
  refine gL [] (dz (L.b tk)) ?_
  rintro _ _ ⟨rfl,rfl⟩
  refine jK 1 [7] [] ?_
  refine NS (jK 5 [18] [(3,v_ 1 (p8 L pJ))] ?_)
  refine NN (cP (((obj d9 tk).links:Int)=(0:Int)) (fun nK=>?_) (fun nK=>?_))
  ·refine SR (jK 3 [21] [] ?_)
   refine wh 1 [(2,1)] tk 8 (fun o=>{ o with gone:=true }) pJ (fun gi dJ=>?_)
   have Gd:=ku dJ lV
   have Br:=ku dJ pJ
   have R5:(obj gi tk).id=(obj S.O tk).id:=fu aN.id dJ Bw
   have Zf:(obj gi tk).opens=(obj S.O tk).opens:=fu aN.opens dJ Bz
   have hf7:(obj gi tk).data=(obj S.O tk).data:=fu aN.data dJ BA
   refine NN (af.region (jK 2 [22,23] [] ?_))
   refine gL [1,0,3] (uf { S.X with ah:=S.X.ah - 1 } f m t (hI.CA hd hlk) gi L S.idx hI.rise ⟨tk,1⟩ Br (by simp) (by rw [Zf];exact hop.1) (fun _=>by rw [R5,hid.1];exact hlv) (by rw [R5];exact sZ) (by rw [hf7];exact hdl)) ?_
   rintro _ _ ⟨rfl,rfl⟩
   refine NL ?_
   exact RF (l:=[pF f m t { S.X with ah:=S.X.ah - 1,used:=mg gi S.X.used ⟨tk,1⟩ },pO gi L,pE gi L,pI m L (iB gi S.idx ⟨tk,1⟩)]) (.tuple #[]) [1,0,3,2,4] (⟨rfl,by subst dJ;subst dh;rw [show aE S d name ⟨tk,1⟩=_ from tP nK]<;>rfl⟩)
  refine af.skip ?_
  exact RF (l:=[pF f m t { S.X with ah:=S.X.ah - 1 },pO d9 L,pE d9 L,pI m L S.idx]) (.tuple #[]) [0,1,2,3,4] (⟨rfl,by grind [aE,tQ]⟩)
 ·have hkt:(obj S.O tk).kind=2:=hI.kind hlv
  have hlb:=hI.lb hlv;have hid:=hI.ob _ hlv;have hop:=hI.GR hlv;have hdl:=hI.JA hlv;have sZ:=hI.P7 hlv
  refine af.region (jK 3 [8,9,10] [] ?_)
  refine gL [0,1,2] (kY S.X f m t hX S.O L d hkd name hsz ⟨tk,2⟩ hkt (by simp) hlk (hI.twice hd) (by omega) (by simp only at hlb ⊢;omega)) ?_
  rintro _ _ ⟨rfl,rfl⟩
  refine jK 1 [6] [] ?_
  refine NS ?_
  have Zg:(obj (aG S.X S.O d name ⟨tk,2⟩) d).kind=2:=(cY).trans (hkd)
  have Gc:(obj (aG S.X S.O d name ⟨tk,2⟩) tk).kind=2:=(cY).trans (hkt)
  have Bw:(obj (aG S.X S.O d name ⟨tk,2⟩) tk).id=(obj S.O tk).id:=cE (g:=aN.id) (fun _ _=>rfl) (fun _ _=>rfl) (fun _ _ _=>rfl)
  have Bz:(obj (aG S.X S.O d name ⟨tk,2⟩) tk).opens=(obj S.O tk).opens:=cE (g:=aN.opens) (fun _ _=>rfl) (fun _ _=>rfl) (fun _ _ _=>rfl)
  have BA:(obj (aG S.X S.O d name ⟨tk,2⟩) tk).data=(obj S.O tk).data:=cE (g:=aN.data) (fun _ _=>rfl) (fun _ _=>rfl) (fun _ _ _=>rfl)
  generalize dh:(aG S.X S.O d name ⟨tk,2⟩)=d9 at Zg Gc Bw Bz BA ⊢
  refine jK 1 [12] [] ?_
  refine gL [] (dz (L.b tk)) ?_
  rintro _ _ ⟨rfl,rfl⟩
  refine jK 1 [7] [] ?_
  refine NS (jK 5 [18] [(3,v_ 1 (p8 L Gc))] ?_)
  refine NN (cP (((obj d9 tk).links:Int)=(0:Int)) (fun nK=>?_) (fun nK=>?_))
  ·refine SR (jK 3 [21] [] ?_)
   refine wh 1 [(2,1)] tk 8 (fun o=>{ o with gone:=true }) Gc (fun gi dJ=>?_)
   have OQ:=ku dJ Zg
   have VX:=ku dJ Gc
   have Zh:(obj gi tk).id=(obj S.O tk).id:=fu aN.id dJ Bw
   have abq:(obj gi tk).opens=(obj S.O tk).opens:=fu aN.opens dJ Bz
   have abr:(obj gi tk).data=(obj S.O tk).data:=fu aN.data dJ BA
   refine NN (af.region (jK 2 [22,23] [] ?_))
   refine gL [1,0,3] (uf { S.X with ah:=S.X.ah - 1 } f m t (hI.CA hd hlk) gi L S.idx hI.rise ⟨tk,2⟩ VX (by simp) (by rw [abq];exact hop.1) (fun _=>by rw [Zh,hid.1];exact hlv) (by rw [Zh];exact sZ) (by rw [abr];exact hdl)) ?_
   rintro _ _ ⟨rfl,rfl⟩
   refine NL ?_
   exact RF (l:=[pF f m t { S.X with ah:=S.X.ah - 1,used:=mg gi S.X.used ⟨tk,2⟩ },pO gi L,pE gi L,pI m L (iB gi S.idx ⟨tk,2⟩)]) (.tuple #[]) [1,0,3,2,4] (⟨rfl,by subst dJ;subst dh;rw [show aE S d name ⟨tk,2⟩=_ from tP nK]<;>rfl⟩)
  refine af.skip ?_
  exact RF (l:=[pF f m t { S.X with ah:=S.X.ah - 1 },pO d9 L,pE d9 L,pI m L S.idx]) (.tuple #[]) [0,1,2,3,4] (⟨rfl,by grind [aE,tQ]⟩)
 have hkt:(obj S.O tk).kind=3:=hI.kind hlv
 have hlb:=hI.lb hlv;have hid:=hI.ob _ hlv;have hop:=hI.GR hlv;have hdl:=hI.JA hlv;have sZ:=hI.P7 hlv
 refine af.region (jK 3 [8,9,10] [] ?_)
 refine gL [0,1,2] (kY S.X f m t hX S.O L d hkd name hsz ⟨tk,3⟩ hkt (by simp) hlk (hI.twice hd) (by omega) (by simp only at hlb ⊢;omega)) ?_
 rintro _ _ ⟨rfl,rfl⟩
 refine jK 1 [6] [] ?_
 refine NS ?_
 have V2:(obj (aG S.X S.O d name ⟨tk,3⟩) d).kind=2:=(cY).trans (hkd)
 have E6:(obj (aG S.X S.O d name ⟨tk,3⟩) tk).kind=3:=(cY).trans (hkt)
 have Bw:(obj (aG S.X S.O d name ⟨tk,3⟩) tk).id=(obj S.O tk).id:=cE (g:=aN.id) (fun _ _=>rfl) (fun _ _=>rfl) (fun _ _ _=>rfl)
 have Bz:(obj (aG S.X S.O d name ⟨tk,3⟩) tk).opens=(obj S.O tk).opens:=cE (g:=aN.opens) (fun _ _=>rfl) (fun _ _=>rfl) (fun _ _ _=>rfl)
 have BA:(obj (aG S.X S.O d name ⟨tk,3⟩) tk).data=(obj S.O tk).data:=cE (g:=aN.data) (fun _ _=>rfl) (fun _ _=>rfl) (fun _ _ _=>rfl)
 generalize dh:(aG S.X S.O d name ⟨tk,3⟩)=d9 at V2 E6 Bw Bz BA ⊢
 refine jK 1 [12] [] ?_
 refine gL [] (dz (L.b tk)) ?_
 rintro _ _ ⟨rfl,rfl⟩
 refine jK 1 [7] [] ?_
 refine NS (jK 5 [18] [(3,v_ 1 (p8 L E6))] ?_)
 refine NN (cP (((obj d9 tk).links:Int)=(0:Int)) (fun nK=>?_) (fun nK=>?_))
 ·refine SR (jK 3 [21] [] ?_)
  refine wh 1 [(2,1)] tk 8 (fun o=>{ o with gone:=true }) E6 (fun gi dJ=>?_)
  have aam:=ku dJ V2
  have E7:=ku dJ E6
  have Zi:(obj gi tk).id=(obj S.O tk).id:=fu aN.id dJ Bw
  have abt:(obj gi tk).opens=(obj S.O tk).opens:=fu aN.opens dJ Bz
  have abu:(obj gi tk).data=(obj S.O tk).data:=fu aN.data dJ BA
  refine NN (af.region (jK 2 [22,23] [] ?_))
  refine gL [1,0,3] (uf { S.X with ah:=S.X.ah - 1 } f m t (hI.CA hd hlk) gi L S.idx hI.rise ⟨tk,3⟩ E7 (by simp) (by rw [abt];exact hop.1) (fun _=>by rw [Zi,hid.1];exact hlv) (by rw [Zi];exact sZ) (by rw [abu];exact hdl)) ?_
  rintro _ _ ⟨rfl,rfl⟩
  refine NL ?_
  exact RF (l:=[pF f m t { S.X with ah:=S.X.ah - 1,used:=mg gi S.X.used ⟨tk,3⟩ },pO gi L,pE gi L,pI m L (iB gi S.idx ⟨tk,3⟩)]) (.tuple #[]) [1,0,3,2,4] (⟨rfl,by subst dJ;subst dh;rw [show aE S d name ⟨tk,3⟩=_ from tP nK]<;>rfl⟩)
 refine af.skip ?_
 exact RF (l:=[pF f m t { S.X with ah:=S.X.ah - 1 },pO d9 L,pE d9 L,pI m L S.idx]) (.tuple #[]) [0,1,2,3,4] (⟨rfl,by grind [aE,tQ]⟩)
theorem BB {β:Bs} (S:aL) (L:HL) (f m t:Nat) (hI:Inv S) (d:Nat) (hd:Live S.idx ⟨d,2⟩) (name:ByteArray) (hsz:name.size<=1048576) :
    Spec Tryz.prog β 120 #[vP f,vP (L.b d),.string name] [pF f m t S.X,pI m L S.idx,pE S.O L,pO S.O L] (fun v l=>v=vI (dO S.X S.O S.idx d name)/\l=[pF f m t S.X,pI m L S.idx,pE S.O L,pO S.O L]):=by
 have hX:=hI.hX
 have hel:(obj S.O d).ah.length<=8192:=hI.jg hd
 have hkd:(obj S.O d).kind=2:=hI.kind hd
 refine SE Tryz.func120 Tryz.ntmps120 (fun R=>?_)
 refine af.seq ?_
 rcases hI.qE hd name with hlk|⟨tk,hlk,hlv⟩|⟨tk,hlk,hlv⟩|⟨tk,hlk,hlv⟩
 ·refine af.region (jK 1 [] [] ?_)
  refine NN (af.seq (SR (jK 5 [10,11] [(3,v_ 3 (bS L hkd))] ?_)))
  refine lH 2 hkd hlk ?_
  refine jK 1 [13] [] ?_
  refine NN (CF (af.skip (NX (af.seq (SR (jK 1 [14] [] ?_))))))
  refine gL [0,1] (La S.X f m t L S.idx) ?_
  rintro _ _ ⟨rfl,rfl⟩
  refine jK 1 [16] [] ?_
  refine NN (cN ((S.idx.length:Int) < S.X.cN/\S.X.last < 1099511627776/\S.X.ah < 8192) (fun ou=>?_) (fun ou=>?_))
  ·refine SR (jK 1 [6] [] ?_)
   refine NN (af.ret (ai.aj ?_))
   exact RT _ [0,1,2,3,4] (⟨congrArg (Value.int .i64) (Eq.symm (show dO S.X S.O S.idx d name=_ from (if_pos hlk).trans (if_neg ou))),rfl⟩)
  refine af.skip (NX (SR (jK 1 [6] [] ?_)))
  refine NN (af.ret ?_)
  exact RT _ [0,1,2,3,4] (⟨congrArg (Value.int .i64) (Eq.symm (show dO S.X S.O S.idx d name=_ from (if_pos hlk).trans (if_pos ou))),rfl⟩)
 ·have hkt:(obj S.O tk).kind=1:=hI.kind hlv
  refine af.region (jK 1 [] [] ?_)
  refine NN (af.seq (SR (jK 5 [10,11] [(3,v_ 3 (bS L hkd))] ?_)))
  refine lH 2 hkd hlk ?_
  refine jK 1 [13] [] ?_
  refine NN (CT (SR (jK 1 [6] [] ?_)))
  refine NN (af.ret (ai.aj ?_))
  exact RT _ [0,1,2,3,4] (⟨congrArg (Value.int .i64) (Eq.symm (show dO S.X S.O S.idx d name=_ from if_neg (by rw [hlk];simp))),rfl⟩)
 ·have hkt:(obj S.O tk).kind=2:=hI.kind hlv
  refine af.region (jK 1 [] [] ?_)
  refine NN (af.seq (SR (jK 5 [10,11] [(3,v_ 3 (bS L hkd))] ?_)))
  refine lH 2 hkd hlk ?_
  refine jK 1 [13] [] ?_
  refine NN (CT (SR (jK 1 [6] [] ?_)))
  refine NN (af.ret (ai.aj ?_))
  exact RT _ [0,1,2,3,4] (⟨congrArg (Value.int .i64) (Eq.symm (show dO S.X S.O S.idx d name=_ from if_neg (by rw [hlk];simp))),rfl⟩)
 have hkt:(obj S.O tk).kind=3:=hI.kind hlv
 refine af.region (jK 1 [] [] ?_)
 refine NN (af.seq (SR (jK 5 [10,11] [(3,v_ 3 (bS L hkd))] ?_)))
 refine lH 2 hkd hlk ?_
 refine jK 1 [13] [] ?_
 refine NN (CT (SR (jK 1 [6] [] ?_)))
 refine NN (af.ret (ai.aj ?_))
 exact RT _ [0,1,2,3,4] (⟨congrArg (Value.int .i64) (Eq.symm (show dO S.X S.O S.idx d name=_ from if_neg (by rw [hlk];simp))),rfl⟩)
theorem WW {β:Bs} (s:ByteArray) (hsz:s.size<=1048576) :
    Spec Tryz.prog β 148 #[.string s] [] (fun v l=>v=vI (iQ s)/\l=[]):=by
 refine SE Tryz.func148 Tryz.ntmps148 (fun R=>?_)
 refine SR (jK 1 [] [] ?_)
 refine NN (af.seq (af.block (SR ?_)))
 refine jK 3 [3] [(1,w_ (.bool (decide ((s:ByteArray)=⟨#[]⟩))) (mY _ _))] ?_
 refine NN (cP ((s:ByteArray)=⟨#[]⟩) (fun h3=>?_) (fun h3=>?_))
 ·refine SR (jK 1 [2] [] ?_)
  refine NN (af.ret (ai.au (ai.aj ?_)))
  exact RT _ [0] (⟨congrArg (Value.int .i64) (Eq.symm (show iQ s=_ from if_pos h3)),rfl⟩)
 refine SR (jK 4 [6] [] ?_)
 refine NN (cP (((((s:ByteArray).size:Nat):Int):Int) > (4096:Int)) (fun h6=>?_) (fun h6=>?_))
 ·refine SR (jK 1 [2] [] ?_)
  refine NN (af.ret (ai.au (ai.aj ?_)))
  exact RT _ [0] (⟨congrArg (Value.int .i64) (Eq.symm (show iQ s=_ from (if_neg h3).trans (if_pos (by omega)))),rfl⟩)
 refine SR (jK 1 [11] [] ?_)
 refine gL [] (LB s) ?_
 rintro _ _ ⟨⟨x,rfl,hx⟩,rfl⟩
 refine jK 2 [10] [] ?_
 refine NN (cP ((x:Int) ≥ (0:Int)) (fun h10=>?_) (fun h10=>?_))
 ·refine SR (jK 1 [2] [] ?_)
  refine NN (af.ret (ai.au (ai.aj ?_)))
  exact RT _ [0] (⟨congrArg (Value.int .i64) (Eq.symm (show iQ s=_ from (if_neg h3).trans ((if_neg (by omega)).trans (if_neg (hx.1 (by omega)))))),rfl⟩)
 refine af.skip (ai.aA (NX (SR ?_)))
 refine jK 1 [2] [] ?_
 refine NN (af.ret ?_)
 exact RT _ [0] (⟨congrArg (Value.int .i64) (Eq.symm (show iQ s=_ from (if_neg h3).trans ((if_neg (by omega)).trans (if_pos (Classical.byContradiction (fun hn=>absurd (hx.2 hn) (by omega))))))),rfl⟩)
theorem wi {β:Bs} (S:aL) (L:HL) (f m t:Nat) (th:Th) (hkt:(obj S.O th.k).kind=th.kind) (h3:th.kind=1\/th.kind=2\/th.kind=3) (hop:0<=(obj S.O th.k).opens/\(obj S.O th.k).opens<=1048576) :
    Spec Tryz.prog β 116 #[vP f,(eT L th)] [pF f m t S.X,pT t S.X.cH S.ar L S.us,pO S.O L] (fun v l=>v=.tuple #[vI (cr S th).1,vI (cr S th).2.1]/\l=[pF f m t S.X,pT t S.X.cH ((cr S th).2.2.ar) L ((cr S th).2.2.us),pO ((cr S th).2.2.O) L]):=by
 refine SE Tryz.func116 Tryz.ntmps116 (fun R=>?_)
 refine af.seq ?_
 obtain⟨tk,kd⟩:=th;simp only at hkt h3;rcases Int.lt_or_le (S.us.length:Int) S.X.cH with CU|CU<;>rcases h3 with e0|e0|e0<;>subst e0
 ·replace hkt:(obj S.O tk).kind=1:=hkt
  replace hop:0<=(obj S.O tk).opens/\(obj S.O tk).opens<=1048576:=hop
  refine af.region (jK 2 [] [] ?_)
  refine NS (jK 5 [12,13] [(3,a_ 0 f)] ?_)
  refine gL [1] ((Dj t S.X.cH S.ar (bC L S.us) (eT L ⟨tk,1⟩) (by rw [sH];exact CU)).mono (fun v l h=>Fz h)) ?_
  rintro _ _ ⟨rfl,rfl⟩
  refine jK 5 [6,7] [] ?_
  refine NN (af.seq (SR (jK 2 [18] [] ?_)))
  refine NN (CT (af.region (jK 1 [19] [] ?_)))
  refine gL [] (dz (L.b tk)) ?_
  rintro _ _ ⟨rfl,rfl⟩
  refine jK 6 [24,26] [(2,v_ 2 (lY L hkt)),(3,wJ ((obj S.O tk).opens+1) ((obj S.O tk).opens+1))] ?_
  refine wh 2 [] tk 7 (fun o=>{ o with opens:=o.opens+1 }) hkt (fun d9 dh=>?_)
  have abY:=ku dh hkt
  refine NS (jK 4 [4,5] [] ?_)
  refine NN (af.ret ?_)
  exact RT (l:=[pF f m t S.X,pT t S.X.cH (max S.ar ((S.us.length:Int)+1)) L (ins (aq.least S.us) ⟨tk,1⟩ S.us),pO d9 L]) (.tuple #[vI ((aq.least S.us)),vI 0]) [1,0,2,3] (by grind [cr,jE])
 ·replace hkt:(obj S.O tk).kind=2:=hkt
  replace hop:0<=(obj S.O tk).opens/\(obj S.O tk).opens<=1048576:=hop
  refine af.region (jK 2 [] [] ?_)
  refine NS (jK 5 [12,13] [(3,a_ 0 f)] ?_)
  refine gL [1] ((Dj t S.X.cH S.ar (bC L S.us) (eT L ⟨tk,2⟩) (by rw [sH];exact CU)).mono (fun v l h=>Fz h)) ?_
  rintro _ _ ⟨rfl,rfl⟩
  refine jK 5 [6,7] [] ?_
  refine NN (af.seq (SR (jK 2 [18] [] ?_)))
  refine NN (CT (af.region (jK 1 [19] [] ?_)))
  refine gL [] (dz (L.b tk)) ?_
  rintro _ _ ⟨rfl,rfl⟩
  refine jK 6 [24,26] [(2,v_ 2 (lY L hkt)),(3,wJ ((obj S.O tk).opens+1) ((obj S.O tk).opens+1))] ?_
  refine wh 2 [] tk 7 (fun o=>{ o with opens:=o.opens+1 }) hkt (fun d9 dh=>?_)
  have VZ:=ku dh hkt
  refine NS (jK 4 [4,5] [] ?_)
  refine NN (af.ret ?_)
  exact RT (l:=[pF f m t S.X,pT t S.X.cH (max S.ar ((S.us.length:Int)+1)) L (ins (aq.least S.us) ⟨tk,2⟩ S.us),pO d9 L]) (.tuple #[vI ((aq.least S.us)),vI 0]) [1,0,2,3] (by grind [cr,jE])
 ·replace hkt:(obj S.O tk).kind=3:=hkt
  replace hop:0<=(obj S.O tk).opens/\(obj S.O tk).opens<=1048576:=hop
  refine af.region (jK 2 [] [] ?_)
  refine NS (jK 5 [12,13] [(3,a_ 0 f)] ?_)
  refine gL [1] ((Dj t S.X.cH S.ar (bC L S.us) (eT L ⟨tk,3⟩) (by rw [sH];exact CU)).mono (fun v l h=>Fz h)) ?_
  rintro _ _ ⟨rfl,rfl⟩
  refine jK 5 [6,7] [] ?_
  refine NN (af.seq (SR (jK 2 [18] [] ?_)))
  refine NN (CT (af.region (jK 1 [19] [] ?_)))
  refine gL [] (dz (L.b tk)) ?_
  rintro _ _ ⟨rfl,rfl⟩
  refine jK 6 [24,26] [(2,v_ 2 (lY L hkt)),(3,wJ ((obj S.O tk).opens+1) ((obj S.O tk).opens+1))] ?_
  refine wh 2 [] tk 7 (fun o=>{ o with opens:=o.opens+1 }) hkt (fun d9 dh=>?_)
  have Iz:=ku dh hkt
  refine NS (jK 4 [4,5] [] ?_)
  refine NN (af.ret ?_)
  exact RT (l:=[pF f m t S.X,pT t S.X.cH (max S.ar ((S.us.length:Int)+1)) L (ins (aq.least S.us) ⟨tk,3⟩ S.us),pO d9 L]) (.tuple #[vI ((aq.least S.us)),vI 0]) [1,0,2,3] (by grind [cr,jE])
 ·replace hkt:(obj S.O tk).kind=1:=hkt
  replace hop:0<=(obj S.O tk).opens/\(obj S.O tk).opens<=1048576:=hop
  refine af.region (jK 2 [] [] ?_)
  refine NS (jK 5 [12,13] [(3,a_ 0 f)] ?_)
  refine gL [1] (Ay t S.X.cH S.ar (bC L S.us) (eT L ⟨tk,1⟩) (by rw [sH];exact CU)) ?_
  rintro _ _ ⟨rfl,rfl⟩
  refine jK 5 [6,7] [] ?_
  refine NN (af.seq (SR (jK 2 [18] [] ?_)))
  refine NN (CF (af.skip (NX (SR (jK 4 [4,5] [] ?_)))))
  refine NN (af.ret ?_)
  exact RT _ [1,0,2,3] (by skip;rw [show cr S ⟨tk,1⟩=_ from kV (by omega)]<;>exact⟨rfl,rfl⟩)
 ·replace hkt:(obj S.O tk).kind=2:=hkt
  replace hop:0<=(obj S.O tk).opens/\(obj S.O tk).opens<=1048576:=hop
  refine af.region (jK 2 [] [] ?_)
  refine NS (jK 5 [12,13] [(3,a_ 0 f)] ?_)
  refine gL [1] (Ay t S.X.cH S.ar (bC L S.us) (eT L ⟨tk,2⟩) (by rw [sH];exact CU)) ?_
  rintro _ _ ⟨rfl,rfl⟩
  refine jK 5 [6,7] [] ?_
  refine NN (af.seq (SR (jK 2 [18] [] ?_)))
  refine NN (CF (af.skip (NX (SR (jK 4 [4,5] [] ?_)))))
  refine NN (af.ret ?_)
  exact RT _ [1,0,2,3] (by skip;rw [show cr S ⟨tk,2⟩=_ from kV (by omega)]<;>exact⟨rfl,rfl⟩)
 replace hkt:(obj S.O tk).kind=3:=hkt
 replace hop:0<=(obj S.O tk).opens/\(obj S.O tk).opens<=1048576:=hop
 refine af.region (jK 2 [] [] ?_)
 refine NS (jK 5 [12,13] [(3,a_ 0 f)] ?_)
 refine gL [1] (Ay t S.X.cH S.ar (bC L S.us) (eT L ⟨tk,3⟩) (by rw [sH];exact CU)) ?_
 rintro _ _ ⟨rfl,rfl⟩
 refine jK 5 [6,7] [] ?_
 refine NN (af.seq (SR (jK 2 [18] [] ?_)))
 refine NN (CF (af.skip (NX (SR (jK 4 [4,5] [] ?_)))))
 refine NN (af.ret ?_)
 exact RT _ [1,0,2,3] (by skip;rw [show cr S ⟨tk,3⟩=_ from kV (by omega)]<;>exact⟨rfl,rfl⟩)
theorem fM {β:Bs} (S:aL) (L:HL) (f m t:Nat) (hI:Inv S) (h:Int) (hw:(Lit.int .i64 h).wf=true) (name:ByteArray) (hsz:name.size<=1048576) (need:Int) :
    Spec Tryz.prog β 118 #[vP f,vI (h),.string name,vI (need)] [pF f m t S.X,pT t S.X.cH S.ar L S.us,pO S.O L] (fun v l=>v=aaG L (dF S.O S.us h name need)/\l=[pF f m t S.X,pT t S.X.cH S.ar L S.us,pO S.O L]):=by
 refine SE Tryz.func118 Tryz.ntmps118 (fun R=>?_)
 refine af.seq ?_
 rcases hI.hand h with ez|⟨tk,ez,hlv⟩|⟨tk,ez,hlv⟩
 ·refine af.region (jK 2 [] [] ?_)
  refine NS (jK 5 [18,19] [(3,a_ 0 f)] ?_)
  refine gL [1] (tO t S.X.cH S.ar (bC L S.us) h hw (sI ez)) ?_
  rintro _ _ ⟨rfl,rfl⟩
  refine jK 5 [10,11] [] ?_
  refine NN (af.seq (SR (jK 2 [24] [] ?_)))
  refine NN (CT (SR (jK 3 [8,9] [] ?_)))
  refine NN (af.ret (ai.aj ?_))
  exact RT (.tuple #[.pointer none,vI 131]) [1,0,2,3] (⟨by rw [show dF S.O S.us h name need=.error 131 by unfold dF;rw [ez]];rfl,rfl⟩)
 ·have hkt:(obj S.O tk).kind=1:=hI.kind hlv
  refine af.region (jK 2 [] [] ?_)
  refine NS (jK 5 [18,19] [(3,a_ 0 f)] ?_)
  refine gL [1] (oe t S.X.cH S.ar (bC L S.us) h hw (eT L ⟨tk,1⟩) (mF ez)) ?_
  rintro _ _ ⟨rfl,rfl⟩
  refine jK 5 [10,11] [] ?_
  refine NN (af.seq (SR (jK 2 [24] [] ?_)))
  refine NN (CF (af.skip (NX (SR (jK 7 [12,13] [] ?_)))))
  refine NN (af.seq (af.block (SR ?_)))
  refine jK 3 [31] [] ?_
  refine NN (CT (SR (jK 2 [8,9] [] ?_)))
  refine NN (af.ret (ai.au (ai.aj ?_)))
  exact RT (.tuple #[.pointer none,vI 173]) [1,0,2,3] (⟨by rw [show dF S.O S.us h name need=.error 173 by grind [dF]];rfl,rfl⟩)
 have hkt:(obj S.O tk).kind=2:=hI.kind hlv
 refine af.region (jK 2 [] [] ?_)
 refine NS (jK 5 [18,19] [(3,a_ 0 f)] ?_)
 refine gL [1] (oe t S.X.cH S.ar (bC L S.us) h hw (eT L ⟨tk,2⟩) (mF ez)) ?_
 rintro _ _ ⟨rfl,rfl⟩
 refine jK 5 [10,11] [] ?_
 refine NN (af.seq (SR (jK 2 [24] [] ?_)))
 refine NN (CF (af.skip (NX (SR (jK 7 [12,13] [] ?_)))))
 refine NN (af.seq (af.block (SR ?_)))
 refine jK 3 [31] [] ?_
 refine NN (CF (SR (jK 6 [34] [(4,v_ 2 (rU L hkt))] ?_)))
 refine NN (af.cond (b:=(obj S.O tk).gone) (fun _=>by kernel_rfl) (fun vM=>?_) (fun vM=>?_))
 ·refine SR (jK 2 [8,9] [] ?_)
  refine NN (af.ret (ai.au (ai.aj ?_)))
  exact RT (.tuple #[.pointer none,vI 170]) [1,0,2,3] (⟨by rw [show dF S.O S.us h name need=.error 170 by grind [dF]];rfl,rfl⟩)
 refine SR (jK 1 [41] [] ?_)
 refine gL [] (Ab name hsz) ?_
 rintro _ _ ⟨rfl,rfl⟩
 refine jK 2 [40] [] ?_
 refine NN (cN (bQ name) (fun qx=>?_) (fun qx=>?_))
 ·refine SR (jK 2 [8,9] [] ?_)
  refine NN (af.ret (ai.au (ai.aj ?_)))
  exact RT (.tuple #[.pointer none,vI 95]) [1,0,2,3] (⟨by rw [show dF S.O S.us h name need=.error 95 by grind [dF]];rfl,rfl⟩)
 refine SR (jK 10 [44] [(4,v_ 2 (wg L hkt))] ?_)
 refine NN (cN ((bits BinOp.and .i64 ((obj S.O tk).mode) need:Int)=(need:Int)) (fun uy=>?_) (fun uy=>?_))
 ·refine SR (jK 2 [8,9] [] ?_)
  refine NN (af.ret (ai.au (ai.aj ?_)))
  exact RT (.tuple #[.pointer none,vI 175]) [1,0,2,3] (⟨by rw [show dF S.O S.us h name need=.error 175 by grind [dF]];rfl,rfl⟩)
 refine af.skip (ai.aA (NX (SR ?_)))
 refine jK 3 [8,9] [] ?_
 refine NN (af.ret ?_)
 exact RT (.tuple #[vP (L.b tk),vI 0]) [1,0,2,3] (⟨by rw [show dF S.O S.us h name need=.ok tk by grind [dF]];rfl,rfl⟩)
theorem WX {β:Bs} (X:FM) (f m t:Nat) (hX:0<=X.ah/\X.ah<=1048576/\-1125899906842624<=X.used/\X.used<=1125899906842624/\0<=X.last/\X.last<=1125899906842624) (O:bZ) (L:HL) (d:Nat) (hkd:(obj O d).kind=2) (name:ByteArray) (hsz:name.size<=1048576) (hno:aM name (obj O d).ah=none) (hel:(obj O d).ah.length<=1048576) (idx:Used Th) (hil:idx.length<=1048576) (th:Th) (hkt:(obj O th.k).kind=th.kind) (h3:th.kind=1\/th.kind=2\/th.kind=3) (hb:0<=(obj O th.k).links/\(obj O th.k).links<=1048576) (hni:aq.get idx (obj O th.k).id=none) (hw:(Lit.int .i64 (obj O th.k).id).wf=true) :
    Spec Tryz.prog β 122 #[vP f,vP (L.b d),.string name,(eT L th)] [pF f m t X,pI m L idx,pO O L,pE O L] (fun v l=>v=.tuple #[]/\l=[pF f m t { X with ah:=X.ah+1 },pI m L (ins (obj O th.k).id th idx),pO (br X O d name th) L,pE (br X O d name th) L]):=by
 refine SE Tryz.func122 Tryz.ntmps122 (fun R=>?_)
 refine af.seq ?_
 obtain⟨tk,kd⟩:=th;simp only at hkt h3;rcases h3 with rfl|rfl|rfl
 ·replace hkt:(obj O tk).kind=1:=hkt
  replace hni:aq.get idx (obj O tk).id=none:=hni
  replace hw:(Lit.int .i64 (obj O tk).id).wf=true:=hw
  refine rM [0,1,2,3,4,9,5,6,7,8,10] 6 [0,1,2,3,4] ?_
  refine jR 6 [0,1,2,3,11,12,17] [(3,a_ 0 f)] ?_
  refine mL [0,1,2,3,4] [] (dz (L.b tk)) ?_ (by rintro _ _ ⟨rfl,rfl⟩;rfl)
  rintro _ _ ⟨rfl,rfl⟩
  refine nC [0,1,2,3,4] [14] [] [] ?_
  refine nC [0,1,2,3,4] [15] [] [] ?_
  refine nC [0,1,2,3,4] [16] [(0,v_ 2 (ur L hkt))] [] ?_
  refine aY.last rfl rfl ?_
  refine ak.oO 1 (d:=none) (t:=78) (K:=3) (E:=82) (b:=m) (n:=idx.length) (f:=(bB (bC L idx))) (x:=(.tmp 11)) (ix:=(.tmp 16)) (y:=(.tmp 17)) (key:=.int .i64 ((obj O tk).id)) (u:=.iface 87 (vP (L.b tk))) (kl:=(.int .i64 (obj O tk).id)) (n':=(idx.length+1)) (f':=(bB (bC L (ins (obj O tk).id ⟨tk,1⟩ idx)))) (fun _=>by kernel_rfl) (by kernel_rfl) (fun _=>by kernel_rfl) (fun _=>by kernel_rfl) (fun _=>by kernel_rfl) gU Tryz.underlying78 (by unfold maxLen;omega) (mE hw) (by rw [iZ,hni];rfl) (uZ (L:=L) (t:=⟨tk,1⟩) hni) ?_
  refine NL (ai.np (NX (af.region ?_)))
  refine jK 4 [18,19,20,21] [] ?_
  refine gL [0,2,3] (jH X f m t hX O L d hkd name hsz hno hel ⟨tk,1⟩ hkt (by simp) hb) ?_
  rintro _ _ ⟨rfl,rfl⟩
  refine NL (ai.eE [(3,.abs (bq Tryz.prog 3 m (bB (bC L (ins (obj O tk).id ⟨tk,1⟩ idx))) ((ins (obj O tk).id ⟨tk,1⟩ idx).length)))] (fun w hS=>by rw [show (ins (obj O tk).id ⟨tk,1⟩ idx).length=idx.length+1 from iH _ _ _];exact hS) ?_)
  exact RF (.tuple #[]) [0,3,1,2,4] (⟨rfl,rfl⟩)
 ·replace hkt:(obj O tk).kind=2:=hkt
  replace hni:aq.get idx (obj O tk).id=none:=hni
  replace hw:(Lit.int .i64 (obj O tk).id).wf=true:=hw
  refine rM [0,1,2,3,4,9,5,6,7,8,10] 6 [0,1,2,3,4] ?_
  refine jR 6 [0,1,2,3,11,12,17] [(3,a_ 0 f)] ?_
  refine mL [0,1,2,3,4] [] (dz (L.b tk)) ?_ (by rintro _ _ ⟨rfl,rfl⟩;rfl)
  rintro _ _ ⟨rfl,rfl⟩
  refine nC [0,1,2,3,4] [14] [] [] ?_
  refine nC [0,1,2,3,4] [15] [] [] ?_
  refine nC [0,1,2,3,4] [16] [(0,v_ 2 (ur L hkt))] [] ?_
  refine aY.last rfl rfl ?_
  refine ak.oO 1 (d:=none) (t:=78) (K:=3) (E:=82) (b:=m) (n:=idx.length) (f:=(bB (bC L idx))) (x:=(.tmp 11)) (ix:=(.tmp 16)) (y:=(.tmp 17)) (key:=.int .i64 ((obj O tk).id)) (u:=.iface 94 (vP (L.b tk))) (kl:=(.int .i64 (obj O tk).id)) (n':=(idx.length+1)) (f':=(bB (bC L (ins (obj O tk).id ⟨tk,2⟩ idx)))) (fun _=>by kernel_rfl) (by kernel_rfl) (fun _=>by kernel_rfl) (fun _=>by kernel_rfl) (fun _=>by kernel_rfl) gU Tryz.underlying78 (by unfold maxLen;omega) (mE hw) (by rw [iZ,hni];rfl) (uZ (L:=L) (t:=⟨tk,2⟩) hni) ?_
  refine NL (ai.np (NX (af.region ?_)))
  refine jK 4 [18,19,20,21] [] ?_
  refine gL [0,2,3] (jH X f m t hX O L d hkd name hsz hno hel ⟨tk,2⟩ hkt (by simp) hb) ?_
  rintro _ _ ⟨rfl,rfl⟩
  refine NL (ai.eE [(3,.abs (bq Tryz.prog 3 m (bB (bC L (ins (obj O tk).id ⟨tk,2⟩ idx))) ((ins (obj O tk).id ⟨tk,2⟩ idx).length)))] (fun w hS=>by rw [show (ins (obj O tk).id ⟨tk,2⟩ idx).length=idx.length+1 from iH _ _ _];exact hS) ?_)
  exact RF (.tuple #[]) [0,3,1,2,4] (⟨rfl,rfl⟩)
 replace hkt:(obj O tk).kind=3:=hkt
 replace hni:aq.get idx (obj O tk).id=none:=hni
 replace hw:(Lit.int .i64 (obj O tk).id).wf=true:=hw
 refine rM [0,1,2,3,4,9,5,6,7,8,10] 6 [0,1,2,3,4] ?_
 refine jR 6 [0,1,2,3,11,12,17] [(3,a_ 0 f)] ?_
 refine mL [0,1,2,3,4] [] (dz (L.b tk)) ?_ (by rintro _ _ ⟨rfl,rfl⟩;rfl)
 rintro _ _ ⟨rfl,rfl⟩
 refine nC [0,1,2,3,4] [14] [] [] ?_
 refine nC [0,1,2,3,4] [15] [] [] ?_
 refine nC [0,1,2,3,4] [16] [(0,v_ 2 (ur L hkt))] [] ?_
 refine aY.last rfl rfl ?_
 refine ak.oO 1 (d:=none) (t:=78) (K:=3) (E:=82) (b:=m) (n:=idx.length) (f:=(bB (bC L idx))) (x:=(.tmp 11)) (ix:=(.tmp 16)) (y:=(.tmp 17)) (key:=.int .i64 ((obj O tk).id)) (u:=.iface 91 (vP (L.b tk))) (kl:=(.int .i64 (obj O tk).id)) (n':=(idx.length+1)) (f':=(bB (bC L (ins (obj O tk).id ⟨tk,3⟩ idx)))) (fun _=>by kernel_rfl) (by kernel_rfl) (fun _=>by kernel_rfl) (fun _=>by kernel_rfl) (fun _=>by kernel_rfl) gU Tryz.underlying78 (by unfold maxLen;omega) (mE hw) (by rw [iZ,hni];rfl) (uZ (L:=L) (t:=⟨tk,3⟩) hni) ?_
 refine NL (ai.np (NX (af.region ?_)))
 refine jK 4 [18,19,20,21] [] ?_
 refine gL [0,2,3] (jH X f m t hX O L d hkd name hsz hno hel ⟨tk,3⟩ hkt (by simp) hb) ?_
 rintro _ _ ⟨rfl,rfl⟩
 refine NL (ai.eE [(3,.abs (bq Tryz.prog 3 m (bB (bC L (ins (obj O tk).id ⟨tk,3⟩ idx))) ((ins (obj O tk).id ⟨tk,3⟩ idx).length)))] (fun w hS=>by rw [show (ins (obj O tk).id ⟨tk,3⟩ idx).length=idx.length+1 from iH _ _ _];exact hS) ?_)
 exact RF (.tuple #[]) [0,3,1,2,4] (⟨rfl,rfl⟩)
end
section
open Go.RowKit Go.Maps aX aq
attribute [local irreducible] ak aV af ai
theorem zl {β:Bs} (S:aL) (L:HL) (f m t:Nat) (hI:Inv0 S) (d:Nat) (hd:Live S.idx ⟨d,2⟩) (name:ByteArray) (hsz:name.size<=1048576) (hno:aM name (obj S.O d).ah=none) (o:aN) (hid:o.id=S.X.last+1) (hk3:o.kind=1\/o.kind=2\/o.kind=3) (hl0:o.links=0) (hlast:S.X.last < 1099511627776) :
    Spec Tryz.prog β 122 #[vP f,vP (L.b d),.string name,eT L ⟨(aK S.X),o.kind⟩] [pF f m t { S.X with last:=S.X.last+1 },pI m L S.idx,pO (aD S.O (aK S.X) (fun _=>o)) L,pE (aD S.O (aK S.X) (fun _=>o)) L] (fun v l=>v=.tuple #[]/\l=[pF f m t ((fA S d name o).X),pI m L ((fA S d name o).idx),pO ((fA S d name o).O) L,pE ((fA S d name o).O) L]):=by
  have hX:=hI.hX
  have hne:d≠(aK S.X):=hI.AA hd
  have hkd:(obj S.O d).kind=2:=hI.kind hd
  have hel:(obj S.O d).ah.length<=8192:=hI.jg hd
  have hlen:=hI.len
  have e1:obj (aD S.O (aK S.X) (fun _=>o)) (aK S.X)=o:=cV
  have e2:obj (aD S.O (aK S.X) (fun _=>o)) d=obj S.O d:=fC hne
  have hnk:=pW hI
  have h:=WX (β:=β) { S.X with last:=S.X.last+1 } f m t (by simp only;omega) (aD S.O (aK S.X) (fun _=>o)) L d (by rw [e2];exact hkd) name hsz (by rw [e2];exact hno) (by rw [e2];omega) S.idx (by omega) ⟨(aK S.X),o.kind⟩ (by rw [e1]) hk3 (by rw [e1,hl0];decide) (by
    rw [e1,hid]
    cases e:aq.get S.idx (S.X.last+1) with
    | none=>rfl
    | some u=>have:=(hI.idx _ u e).2.2;omega) (by rw [e1,hid];exact WalkArith.wf_i64 (by have:=hI.last;omega))
  rw [e1,hid] at h
  exact h
theorem R6 {β:Bs} (S:aL) (L:HL) (f m t:Nat) (hI:Inv S) (d:Nat) (hd:Live S.idx ⟨d,2⟩) (name:ByteArray) (hsz:name.size<=1048576) (mode:Int) :
    Spec Tryz.prog β 119 #[vP f,vP (L.b d),.string name,vI (mode)] (pA f m t L S) (fun v l=>∃ L2,v=vI (kx S d name mode).1/\l=(pA f m t L2 ((kx S d name mode).2))):=by
 have hX:=hI.hX
 have hel:(obj S.O d).ah.length<=8192:=hI.jg hd
 have hkd:(obj S.O d).kind=2:=hI.kind hd
 refine SE Tryz.func119 Tryz.ntmps119 (fun R=>?_)
 refine SR (jK 1 [] [] ?_)
 refine NS (jK 3 [10,11,12] [] ?_)
 refine gL [0,1,5,3] (BB S L f m t hI d hd name hsz) ?_
 rintro _ _ ⟨rfl,rfl⟩
 refine jK 1 [9] [] ?_
 refine NN (af.seq (SR (jK 2 [15] [] ?_)))
 refine NN (cP (((dO S.X S.O S.idx d name):Int)=(0:Int)) (fun h0=>?_) (fun h0=>?_))
 ·have hno:=tT h0
  refine af.region (jK 5 [16,17,18,19,20] [] ?_)
  refine gL [0] (Bv S.X f m t hX mode) ?_
  rintro _ _ ⟨rfl,rfl⟩
  refine ak.qQ (d:=(some 22)) (t:=95) (fun _=>by kernel_rfl) Tryz.prog rfl 9 (fun m1=>?_)
  refine jN 3 [25] (fun _=>[]) (fun _=>[]) (fun b2=>.blk b2 [vI (S.X.last+1),vI (mode),vI 0,vI 0,vI (S.X.cS),vI (S.X.cZ),vI 0,vI 0,.bool false,.map (some m1),.pointer none] 97) (fun b2=>?_)
  obtain⟨L2,hL2⟩:∃ L2:HL,L2=L.put (aK S.X) b2 m1 none 0:=⟨_,rfl⟩
  have hfr:=hI.toInv0.fresh
  refine ak.mem (fun w hS=>hS.yI hL2 hfr (o:=(cD S.X 2 mode)) (i:=3) (j:=8) (ix:=[0,1,2,4,5,6,7]) rfl rfl (by kernel_rfl) rfl (by show (2:Int)≠0;decide) ((nW (L:=L2) (k:=(aK S.X)) (o:=(cD S.X 2 mode)) rfl).trans (by rw [JC hL2];rfl)) rfl) ?_
  refine ak.mem (fun w hS=>hS.Vc hL2 hfr (o:=(cD S.X 2 mode)) (i:=3) (j:=7) (ix:=[0,1,2,4,5,6]) rfl rfl (by kernel_rfl) rfl rfl rfl) ?_
  refine ak.eE [(5,pD (aD S.O (aK S.X) (fun _=>(cD S.X 2 mode))) L2)] (fun w hS=>hS.Ef hL2 (o:=(cD S.X 2 mode)) (i:=5) rfl (by show (2:Int)≠1;decide)) ?_
  refine ak.eE [(3,.abs (bq Tryz.prog 3 m (bB (bC L2 S.idx)) S.idx.length)),(4,.abs (dI 140 t S.X.cH S.ar (bC L2 S.us)))] (fun w hS=>by rw [jA hL2 hfr.idx,jA hL2 hfr.us];exact hS) ?_
  refine gL [2,3,1,0] ((by have h:=zl (β:=β) S L2 f m t hI.toInv0 d hd name hsz hno (cD S.X 2 mode) rfl (by simp [cD]) rfl (xC h0);rw [BW hL2 (hI.AA hd),sJ hL2] at h;exact h)) ?_
  rintro _ _ ⟨rfl,rfl⟩
  refine NS (ak.eE [(5,.abs (aF (bX ((fA S d name (cD S.X 2 mode)).O) L2)))] (fun w hS=>by rw [show bX ((fA S d name (cD S.X 2 mode)).O) L2=bX (aD S.O (aK S.X) (fun _=>(cD S.X 2 mode))) L2 from jF];exact hS) ?_)
  refine jK 2 [8] [] ?_
  refine NN (af.ret ?_)
  exact RT _ [0,1,4,2,5,3,6] (⟨L2,by rw [show kx S d name mode=_ from if_pos h0];refine⟨congrArg _ h0,?_⟩;rfl⟩)
 refine af.skip (NX (SR (jK 2 [8] [] ?_)))
 refine NN (af.ret ?_)
 exact RT _ [0,1,4,3,5,2,6] (⟨L,by rw [show kx S d name mode=_ from if_neg h0]<;>exact⟨rfl,rfl⟩⟩)
theorem L6 {β:Bs} (S:aL) (L:HL) (f m t:Nat) (hI:Inv S) (d:Nat) (hd:Live S.idx ⟨d,2⟩) (name:ByteArray) (hsz:name.size<=1048576) (text:ByteArray) (htz:text.size<=1048576) :
    Spec Tryz.prog β 123 #[vP f,vP (L.b d),.string name,.string text] (pA f m t L S) (fun v l=>∃ L2,v=vI (ia S d name text).1/\l=(pA f m t L2 ((ia S d name text).2))):=by
 have hX:=hI.hX
 have hel:(obj S.O d).ah.length<=8192:=hI.jg hd
 have hkd:(obj S.O d).kind=2:=hI.kind hd
 refine SE Tryz.func123 Tryz.ntmps123 (fun R=>?_)
 refine SR (jK 1 [] [] ?_)
 refine NS (jK 1 [10] [] ?_)
 refine gL [] (WW text htz) ?_
 rintro _ _ ⟨rfl,rfl⟩
 refine jK 1 [9] [] ?_
 refine NN (af.seq (SR (jK 2 [13] [] ?_)))
 refine NN (cP (((iQ text):Int)=(0:Int)) (fun hb=>?_) (fun hb=>?_))
 ·refine af.region (jK 3 [14,15,16] [] ?_)
  refine gL [0,1,5,3] (BB S L f m t hI d hd name hsz) ?_
  rintro _ _ ⟨rfl,rfl⟩
  refine jK 1 [9] [] ?_
  refine NN (af.seq (SR (jK 2 [19] [] ?_)))
  refine NN (cP (((dO S.X S.O S.idx d name):Int)=(0:Int)) (fun h0=>?_) (fun h0=>?_))
  ·have hno:=tT h0
   refine af.region (jK 4 [20,21,22,23] [] ?_)
   refine gL [0] (Bv S.X f m t hX 511) ?_
   rintro _ _ ⟨rfl,rfl⟩
   refine jN 4 [28] (fun _=>[]) (fun _=>[]) (fun b3=>.blk b3 [vI (S.X.last+1),vI (511),vI 0,vI 0,vI (S.X.cS),vI (S.X.cZ),vI 0,vI 0,.bool false,.string text] 93) (fun b3=>?_)
   obtain⟨L2,hL2⟩:∃ L2:HL,L2=L.put (aK S.X) b3 0 none 0:=⟨_,rfl⟩
   have hfr:=hI.toInv0.fresh
   refine ak.mem (fun w hS=>hS.yI hL2 hfr (o:={ cD S.X 3 511 with target:=text }) (i:=3) (j:=7) (ix:=[0,1,2,4,5,6]) rfl rfl (by kernel_rfl) rfl (by show (3:Int)≠0;decide) ((Al (L:=L2) (k:=(aK S.X)) (o:={ cD S.X 3 511 with target:=text }) rfl).trans (by rfl)) rfl) ?_
   refine ak.eE [(3,pE (aD S.O (aK S.X) (fun _=>{ cD S.X 3 511 with target:=text })) L2)] (fun w hS=>hS.AF hL2 hfr (o:={ cD S.X 3 511 with target:=text }) (i:=3) rfl (by show (3:Int)≠2;decide)) ?_
   refine ak.eE [(5,pD (aD S.O (aK S.X) (fun _=>{ cD S.X 3 511 with target:=text })) L2)] (fun w hS=>hS.Ef hL2 (o:={ cD S.X 3 511 with target:=text }) (i:=5) rfl (by show (3:Int)≠1;decide)) ?_
   refine ak.eE [(2,.abs (bq Tryz.prog 3 m (bB (bC L2 S.idx)) S.idx.length)),(4,.abs (dI 140 t S.X.cH S.ar (bC L2 S.us)))] (fun w hS=>by rw [jA hL2 hfr.idx,jA hL2 hfr.us];exact hS) ?_
   refine gL [1,2,0,3] ((by have h:=zl (β:=β) S L2 f m t hI.toInv0 d hd name hsz hno { cD S.X 3 511 with target:=text } rfl (by simp [cD]) rfl (xC h0);rw [BW hL2 (hI.AA hd),sJ hL2] at h;exact h)) ?_
   rintro _ _ ⟨rfl,rfl⟩
   refine NS (ak.eE [(5,.abs (aF (bX ((fA S d name { cD S.X 3 511 with target:=text }).O) L2)))] (fun w hS=>by rw [show bX ((fA S d name { cD S.X 3 511 with target:=text }).O) L2=bX (aD S.O (aK S.X) (fun _=>{ cD S.X 3 511 with target:=text })) L2 from jF];exact hS) ?_)
   refine jK 2 [8] [] ?_
   refine NN (af.ret ?_)
   exact RT _ [0,1,4,2,5,3,6] (⟨L2,by rw [show ia S d name text=_ from (if_pos hb).trans (if_pos h0)];refine⟨congrArg _ h0,?_⟩;rfl⟩)
  refine af.skip (NX (SR (jK 2 [8] [] ?_)))
  refine NN (af.ret ?_)
  exact RT _ [0,1,4,3,5,2,6] (⟨L,by rw [show ia S d name text=_ from (if_pos hb).trans (if_neg h0)]<;>exact⟨rfl,rfl⟩⟩)
 refine af.skip (NX (af.seq (SR (jK 2 [19] [] ?_))))
 refine NN (cP (((iQ text):Int)=(0:Int)) (fun h0=>?_) (fun h0=>?_))
 ·exact absurd h0 hb
 refine af.skip (NX (SR (jK 2 [8] [] ?_)))
 refine NN (af.ret ?_)
 exact RT _ [0,1,2,3,4,5,6] (⟨L,by rw [show ia S d name text=_ from if_neg hb]<;>exact⟨rfl,rfl⟩⟩)
theorem OY {β:Bs} (S:aL) (L:HL) (f m t:Nat) (hI:Inv S) (d:Nat) (hd:Live S.idx ⟨d,2⟩) (name:ByteArray) (hsz:name.size<=1048576) :
    Spec Tryz.prog β 126 #[vP f,vP (L.b d),.string name] (pA f m t L S) (fun v l=>∃ L2,v=vI (fH S d name).1/\l=(pA f m t L2 ((fH S d name).2))):=by
 have hX:=hI.hX
 have hel:(obj S.O d).ah.length<=8192:=hI.jg hd
 have hkd:(obj S.O d).kind=2:=hI.kind hd
 refine SE Tryz.func126 Tryz.ntmps126 (fun R=>?_)
 refine af.seq ?_
 rcases hI.qE hd name with hlk|⟨tk,hlk,hlv⟩|⟨tk,hlk,hlv⟩|⟨tk,hlk,hlv⟩
 ·refine af.region (jK 1 [] [] ?_)
  refine NN (af.seq (SR (jK 5 [10,11] [(3,v_ 3 (bS L hkd))] ?_)))
  refine lH 5 hkd hlk ?_
  refine NN (af.block (SR ?_))
  refine jK 1 [13] [] ?_
  refine NN (CT (SR (jK 1 [6] [] ?_)))
  refine NN (af.ret (ai.au (ai.aj ?_)))
  exact RT _ [0,1,2,3,4,5,6] (⟨L,by rw [show fH S d name=(170,S) by unfold fH;rw [hlk]]<;>exact⟨rfl,rfl⟩⟩)
 ·have hkt:(obj S.O tk).kind=1:=hI.kind hlv
  refine af.region (jK 1 [] [] ?_)
  refine NN (af.seq (SR (jK 5 [10,11] [(3,v_ 3 (bS L hkd))] ?_)))
  refine lH 5 hkd hlk ?_
  refine NN (af.block (SR ?_))
  refine jK 1 [13] [] ?_
  refine NN (CF (SR (jK 3 [15] [] ?_)))
  refine NN (CF (af.skip (ai.aA (NX (SR ?_)))))
  refine jK 3 [17,18,19] [] ?_
  refine gL [0,3,5,1] (qO S L f m t hI d hd name hsz ⟨tk,1⟩ hlk) ?_
  rintro _ _ ⟨rfl,rfl⟩
  refine NS (ak.eE [(5,.abs (aF (bX ((aE S d name ⟨tk,1⟩).O) L)))] (fun w hS=>by rw [show bX ((aE S d name ⟨tk,1⟩).O) L=bX S.O L from qJ];exact hS) ?_)
  refine jK 1 [6] [] ?_
  refine NN (af.ret ?_)
  exact RT _ [0,3,4,1,5,2,6] (⟨L,by rw [show fH S d name=(0,aE S d name ⟨tk,1⟩) by grind [fH]]<;>exact⟨rfl,rfl⟩⟩)
 ·have hkt:(obj S.O tk).kind=2:=hI.kind hlv
  refine af.region (jK 1 [] [] ?_)
  refine NN (af.seq (SR (jK 5 [10,11] [(3,v_ 3 (bS L hkd))] ?_)))
  refine lH 5 hkd hlk ?_
  refine NN (af.block (SR ?_))
  refine jK 1 [13] [] ?_
  refine NN (CF (SR (jK 3 [15] [] ?_)))
  refine NN (CT (SR (jK 1 [6] [] ?_)))
  refine NN (af.ret (ai.au (ai.aj ?_)))
  exact RT _ [0,1,2,3,4,5,6] (⟨L,by rw [show fH S d name=(172,S) by grind [fH]]<;>exact⟨rfl,rfl⟩⟩)
 have hkt:(obj S.O tk).kind=3:=hI.kind hlv
 refine af.region (jK 1 [] [] ?_)
 refine NN (af.seq (SR (jK 5 [10,11] [(3,v_ 3 (bS L hkd))] ?_)))
 refine lH 5 hkd hlk ?_
 refine NN (af.block (SR ?_))
 refine jK 1 [13] [] ?_
 refine NN (CF (SR (jK 3 [15] [] ?_)))
 refine NN (CF (af.skip (ai.aA (NX (SR ?_)))))
 refine jK 3 [17,18,19] [] ?_
 refine gL [0,3,5,1] (qO S L f m t hI d hd name hsz ⟨tk,3⟩ hlk) ?_
 rintro _ _ ⟨rfl,rfl⟩
 refine NS (ak.eE [(5,.abs (aF (bX ((aE S d name ⟨tk,3⟩).O) L)))] (fun w hS=>by rw [show bX ((aE S d name ⟨tk,3⟩).O) L=bX S.O L from qJ];exact hS) ?_)
 refine jK 1 [6] [] ?_
 refine NN (af.ret ?_)
 exact RT _ [0,3,4,1,5,2,6] (⟨L,by rw [show fH S d name=(0,aE S d name ⟨tk,3⟩) by grind [fH]]<;>exact⟨rfl,rfl⟩⟩)
theorem R7 {β:Bs} (S:aL) (L:HL) (f m t:Nat) (hI:Inv S) (d:Nat) (hd:Live S.idx ⟨d,2⟩) (name:ByteArray) (hsz:name.size<=1048576) :
    Spec Tryz.prog β 132 #[vP f,vP (L.b d),.string name] (pA f m t L S) (fun v l=>∃ L2,v=vI (fX S d name).1/\l=(pA f m t L2 ((fX S d name).2))):=by
 have hX:=hI.hX
 have hel:(obj S.O d).ah.length<=8192:=hI.jg hd
 have hkd:(obj S.O d).kind=2:=hI.kind hd
 refine SE Tryz.func132 Tryz.ntmps132 (fun R=>?_)
 refine af.seq ?_
 rcases hI.qE hd name with hlk|⟨tk,hlk,hlv⟩|⟨tk,hlk,hlv⟩|⟨tk,hlk,hlv⟩
 ·refine af.region (jK 1 [] [] ?_)
  refine NS (jK 5 [13,14] [(3,v_ 3 (bS L hkd))] ?_)
  refine lH 5 hkd hlk ?_
  refine jK 1 [7] [] ?_
  refine NN (af.seq (SR (jK 2 [17] [] ?_)))
  refine NN (CT (SR (jK 1 [6] [] ?_)))
  refine NN (af.ret (ai.aj ?_))
  exact RT (vI 170) [0,1,2,3,4,5,6] (⟨L,by skip;rw [show fX S d name=(170,S) by unfold fX;rw [hlk]]<;>exact⟨rfl,rfl⟩⟩)
 ·have hkt:(obj S.O tk).kind=1:=hI.kind hlv
  refine af.region (jK 1 [] [] ?_)
  refine NS (jK 5 [13,14] [(3,v_ 3 (bS L hkd))] ?_)
  refine lH 5 hkd hlk ?_
  refine jK 1 [7] [] ?_
  refine NN (af.seq (SR (jK 2 [17] [] ?_)))
  refine NN (CF (af.skip (NX (SR (jK 7 [8,9] [] ?_)))))
  refine NN (af.seq (SR (jK 2 [24] [] ?_)))
  refine NN (CT (SR (jK 1 [6] [] ?_)))
  refine NN (af.ret (ai.aj ?_))
  exact RT (vI 173) [0,1,2,3,4,5,6] (⟨L,by skip;rw [show fX S d name=(173,S) by grind [fX]]<;>exact⟨rfl,rfl⟩⟩)
 ·have hkt:(obj S.O tk).kind=2:=hI.kind hlv
  have ach:(obj S.O tk).ah.length<=8192:=hI.jg hlv
  refine af.region (jK 1 [] [] ?_)
  refine NS (jK 5 [13,14] [(3,v_ 3 (bS L hkd))] ?_)
  refine lH 5 hkd hlk ?_
  refine jK 1 [7] [] ?_
  refine NN (af.seq (SR (jK 2 [17] [] ?_)))
  refine NN (CF (af.skip (NX (SR (jK 7 [8,9] [] ?_)))))
  refine NN (af.seq (SR (jK 2 [24] [] ?_)))
  refine NN (CF (af.skip (NX (af.seq (SR (jK 4 [28] [(3,v_ 3 (bS L hkt))] ?_))))))
  refine eNk 5 hkt ?_
  refine jK 1 [30] [] ?_
  refine NN (cP (((((obj S.O tk).ah.length:Nat):Int):Int) > (0:Int)) (fun lE=>?_) (fun lE=>?_))
  ·refine SR (jK 1 [6] [] ?_)
   refine NN (af.ret (ai.aj ?_))
   exact RT (vI 178) [0,1,2,3,4,5,6] (⟨L,by skip;rw [show fX S d name=(178,S) by grind [fX,obj]]<;>exact⟨rfl,rfl⟩⟩)
  refine af.skip (NX (SR (jK 3 [31,32,33] [] ?_)))
  refine gL [0,3,5,1] (qO S L f m t hI d hd name hsz ⟨tk,2⟩ hlk) ?_
  rintro _ _ ⟨rfl,rfl⟩
  refine NS (ak.eE [(5,.abs (aF (bX ((aE S d name ⟨tk,2⟩).O) L)))] (fun w hS=>by rw [show bX ((aE S d name ⟨tk,2⟩).O) L=bX S.O L from qJ];exact hS) ?_)
  have Br:(obj (aE S d name ⟨tk,2⟩).O d).kind=2:=(Ee).trans (hkd)
  have Bt:(obj (aE S d name ⟨tk,2⟩).O tk).kind=2:=(Ee).trans (hkt)
  generalize dh:(aE S d name ⟨tk,2⟩).O=d9 at Br Bt ⊢
  refine jK 3 [37] [] ?_
  refine uSt 1 [(2,1),(5,2)] tk (none) Bt (fun gi dJ=>?_)
  have UE:=ku dJ Br
  have OO:=ku dJ Bt
  refine NS (jK 1 [6] [] ?_)
  refine NN (af.ret ?_)
  exact RT (l:=[pF f m t ((aE S d name ⟨tk,2⟩).X),pI m L ((aE S d name ⟨tk,2⟩).idx),pT t S.X.cH S.ar L S.us,pO gi L,pD gi L,pE gi L]) (.int .i64 0) [0,3,4,1,5,2,6] (⟨L,by subst dJ;subst dh;rw [show fX S d name=(0,{ aE S d name ⟨tk,2⟩ with O:=orphan (aE S d name ⟨tk,2⟩).O tk }) by unfold fX;rw [hlk];exact (if_pos rfl).trans (if_pos (List.eq_nil_of_length_eq_zero (by grind)))]<;>exact⟨rfl,rfl⟩⟩)
 have hkt:(obj S.O tk).kind=3:=hI.kind hlv
 refine af.region (jK 1 [] [] ?_)
 refine NS (jK 5 [13,14] [(3,v_ 3 (bS L hkd))] ?_)
 refine lH 5 hkd hlk ?_
 refine jK 1 [7] [] ?_
 refine NN (af.seq (SR (jK 2 [17] [] ?_)))
 refine NN (CF (af.skip (NX (SR (jK 7 [8,9] [] ?_)))))
 refine NN (af.seq (SR (jK 2 [24] [] ?_)))
 refine NN (CT (SR (jK 1 [6] [] ?_)))
 refine NN (af.ret (ai.aj ?_))
 exact RT (vI 173) [0,1,2,3,4,5,6] (⟨L,by skip;rw [show fX S d name=(173,S) by grind [fX]]<;>exact⟨rfl,rfl⟩⟩)
end
section
open Go.RowKit Go.Maps aX aq
attribute [local irreducible] ak aV af ai
theorem OZ {β:Bs} (S:aL) (L:HL) (f m t:Nat) (hI:Inv S) (d:Nat) (hd:Live S.idx ⟨d,2⟩) (name:ByteArray) (hsz:name.size<=1048576) (to:Nat) (hto:Live S.idx ⟨to,2⟩) (toName:ByteArray) (wj:toName.size<=1048576) :
    Spec Tryz.prog β 133 #[vP f,vP (L.b d),.string name,vP (L.b to),.string toName] (pA f m t L S) (fun v l=>∃ L2,v=vI (bG S d name to toName).1/\l=(pA f m t L2 ((bG S d name to toName).2))):=by
 have hX:=hI.hX
 have hel:(obj S.O d).ah.length<=8192:=hI.jg hd
 have hkd:(obj S.O d).kind=2:=hI.kind hd
 have fU:(obj S.O to).kind=2:=hI.kind hto
 have abZ:(obj S.O to).ah.length<=8192:=hI.jg hto
 refine SE Tryz.func133 Tryz.ntmps133 (fun R=>?_)
 refine af.seq ?_
 rcases hI.qE hd name with hlk|⟨tk,hlk,hlv⟩|⟨tk,hlk,hlv⟩|⟨tk,hlk,hlv⟩
 ·refine af.region (jK 1 [] [] ?_)
  refine NS (jK 5 [19,20] [(3,v_ 3 (bS L hkd))] ?_)
  refine lH 5 hkd hlk ?_
  refine jK 1 [11] [] ?_
  refine NN (af.seq (SR (jK 2 [23] [] ?_)))
  refine NN (CT (SR (jK 1 [10] [] ?_)))
  refine NN (af.ret (ai.aj ?_))
  exact RT _ [0,1,2,3,4,5,6] (⟨L,by rw [show bG S d name to toName=(170,S) by unfold bG;rw [hlk]]<;>exact⟨rfl,rfl⟩⟩)
 ·have hkt:(obj S.O tk).kind=1:=hI.kind hlv
  refine af.region (jK 1 [] [] ?_)
  refine NS (jK 5 [19,20] [(3,v_ 3 (bS L hkd))] ?_)
  refine lH 5 hkd hlk ?_
  refine jK 1 [11] [] ?_
  refine NN (af.seq (SR (jK 2 [23] [] ?_)))
  refine NN (CF (af.skip (NX (SR (jK 7 [12,13] [] ?_)))))
  refine NN (af.seq (SR (jK 2 [14] [] ?_)))
  refine NN (af.block ?_)
  refine lJ (fun (u:Unit)=>True) (fun (u:Unit)=>0) (fun (u:Unit)=>[(0,vP f),(1,vP (L.b d)),(2,.string name),(3,vP (L.b to)),(4,.string toName),(11,.iface 87 (vP (L.b tk))),(12,.pointer none),(13,.bool false),(14,vP (L.b to))]) (fun (u:Unit)=>((pA f m t L S)++[.abs R])) () [0,1,2,3,4,5,6] (trivial) ?_
  rintro u _
  refine af.seq (SR (jK 5 [34] [] ?_))
  refine NN (CF (af.exit (ai.aC (ai.aC (ai.aU (NX (af.seq ?_)))))))
  skip
  rcases hI.qE hto toName with cU|⟨ok,cU,ig⟩|⟨ok,cU,ig⟩|⟨ok,cU,ig⟩
  ·refine af.region (jK 5 [45,46] [(3,v_ 3 (bS L fU))] ?_)
   refine lH 5 fU cU ?_
   refine jK 1 [15] [] ?_
   refine NN (af.seq (SR (jK 3 [50] [] ?_)))
   refine NN (CF (af.skip (NX (af.seq (SR (jK 2 [52] [] ?_))))))
   refine NN (CF (af.skip (NX (SR ?_))))
   have bE:Inv S:=hI
   have hd1:=hd
   have gG:=hlk
   have s5:=cU
   have kS:=hto
   have lV:(obj S.O d).kind=2:=bE.kind hd1
   have tf:(obj S.O to).kind=2:=bE.kind kS
   have nF:Live S.idx ⟨tk,1⟩:=(bE.ent hd1 gG).2
   have nG:(obj S.O tk).kind=1:=bE.kind nF
   have Ge:(obj S.O d).ah.length<=8192:=bE.jg hd1
   have Gf:(obj S.O to).ah.length<=8192:=bE.jg kS
   have tj:=bE.lb nF
   have nH:tk≠d:=bE.ne hd1 gG
   refine jK 3 [61,62,63] [] ?_
   refine gL [0,3,5] (kY S.X f m t bE.hX S.O L d lV name hsz ⟨tk,1⟩ nG (by simp) gG (bE.twice hd1) (by omega) (by simp only at tj ⊢;omega)) ?_
   rintro _ _ ⟨rfl,rfl⟩
   refine NS (jK 4 [65,66,67,68] [] ?_)
   refine gL [0,1,2] (jH { S.X with ah:=S.X.ah - 1 } f m t (bE.CA hd1 gG) (aG S.X S.O d name ⟨tk,1⟩) L to (cY.trans tf) toName wj (mr nH s5) (Nat.le_trans (o4 nH) (by omega)) ⟨tk,1⟩ (cY.trans nG) (by simp) (mG bE.toInv0 hd1 gG)) ?_
   rintro _ _ ⟨rfl,rfl⟩
   refine NS (ak.eE [(5,.abs (aF (bX (br S.X (aG S.X S.O d name ⟨tk,1⟩) to toName ⟨tk,1⟩) L)))] (fun w hS=>by rw [show bX (br S.X (aG S.X S.O d name ⟨tk,1⟩) to toName ⟨tk,1⟩) L=bX S.O L from jF.trans mq];exact hS) ?_)
   refine jK 1 [10] [] ?_
   refine NN (af.ret ?_)
   exact RT _ [0,3,4,1,5,2,6] (⟨L,by rw [show bG S d name to toName=(0,lM S d name to toName ⟨tk,1⟩) by grind [bG]]<;>exact⟨rfl,rfl⟩⟩)
  ·have pK:(obj S.O ok).kind=1:=hI.kind ig
   refine af.region (jK 5 [45,46] [(3,v_ 3 (bS L fU))] ?_)
   refine lH 5 fU cU ?_
   refine jK 1 [15] [] ?_
   refine NN (af.seq (SR (jK 2 [48,49] [] ?_)))
   refine ak.jX (d:=(some 50)) (op:=.binOp .eql 82 (.tmp 48) (.tmp 49) 82) (v:=.bool (decide (ok=tk))) (fun _=>by kernel_rfl) (fun o junk w ho hS=>by obtain⟨F,hF⟩:=hS.get (i:=3) rfl;exact⟨w,Dp XI ho (by kernel_rfl) (by kernel_rfl) (by rw [pK];decide) (by rw [hkt];decide) hF,hS⟩) ?_
   refine NN (cP (ok=tk) (fun h50=>?_) (fun h50=>?_))
   ·refine SR (jK 1 [10] [] ?_)
    refine NN (af.ret (ai.aj ?_))
    exact RT _ [0,1,2,3,4,5,6] (⟨L,by rw [show bG S d name to toName=(0,S) by grind [bG]]<;>exact⟨rfl,rfl⟩⟩)
   refine af.skip (NX (af.seq (SR (jK 2 [52] [] ?_))))
   refine NN (CT (af.seq (SR (jK 1 [53] [] ?_))))
   refine gL [] (pG (vP (L.b ok))) ?_
   rintro _ _ ⟨rfl,rfl⟩
   refine jK 1 [55] [] ?_
   refine NN (CF (af.skip (NX (af.seq (SR (jK 1 [56] [] ?_))))))
   refine NN (CF (af.skip (NX (af.region (jK 3 [57,58,59] [] ?_)))))
   refine gL [0,3,5,1] (qO S L f m t hI to hto toName wj ⟨ok,1⟩ cU) ?_
   rintro _ _ ⟨rfl,rfl⟩
   refine NS ?_
   have bE:Inv (aE S to toName ⟨ok,1⟩):=hI.BZ hto cU (by simp)
   have hot:(⟨ok,1⟩:Th)≠⟨tk,1⟩:=fun e=>h50 (congrArg Th.k e)
   have hd1:Live (aE S to toName ⟨ok,1⟩).idx ⟨d,2⟩:=kW hI.toInv0 hto cU hd (fun e=>by have:=fQ hd ig e;cases this)
   have kS:Live (aE S to toName ⟨ok,1⟩).idx ⟨to,2⟩:=kW hI.toInv0 hto cU hto (fun e=>by have:=fQ hto ig e;cases this)
   have gG:aM name (obj (aE S to toName ⟨ok,1⟩).O d).ah=some ⟨tk,1⟩:=tU hI.toInv0 hto cU hlk hot
   have s5:aM toName (obj (aE S to toName ⟨ok,1⟩).O to).ah=none:=tV hI.toInv0 hto cU
   have lV:(obj (aE S to toName ⟨ok,1⟩).O d).kind=2:=bE.kind hd1
   have tf:(obj (aE S to toName ⟨ok,1⟩).O to).kind=2:=bE.kind kS
   have nF:Live (aE S to toName ⟨ok,1⟩).idx ⟨tk,1⟩:=(bE.ent hd1 gG).2
   have nG:(obj (aE S to toName ⟨ok,1⟩).O tk).kind=1:=bE.kind nF
   have Ge:(obj (aE S to toName ⟨ok,1⟩).O d).ah.length<=8192:=bE.jg hd1
   have Gf:(obj (aE S to toName ⟨ok,1⟩).O to).ah.length<=8192:=bE.jg kS
   have tj:=bE.lb nF
   have nH:tk≠d:=bE.ne hd1 gG
   refine jK 3 [61,62,63] [] ?_
   refine gL [0,1,2] (kY (aE S to toName ⟨ok,1⟩).X f m t bE.hX (aE S to toName ⟨ok,1⟩).O L d lV name hsz ⟨tk,1⟩ nG (by simp) gG (bE.twice hd1) (by omega) (by simp only at tj ⊢;omega)) ?_
   rintro _ _ ⟨rfl,rfl⟩
   refine NS (jK 4 [65,66,67,68] [] ?_)
   refine gL [0,1,2] (jH { (aE S to toName ⟨ok,1⟩).X with ah:=(aE S to toName ⟨ok,1⟩).X.ah - 1 } f m t (bE.CA hd1 gG) (aG (aE S to toName ⟨ok,1⟩).X (aE S to toName ⟨ok,1⟩).O d name ⟨tk,1⟩) L to (cY.trans tf) toName wj (mr nH s5) (Nat.le_trans (o4 nH) (by omega)) ⟨tk,1⟩ (cY.trans nG) (by simp) (mG bE.toInv0 hd1 gG)) ?_
   rintro _ _ ⟨rfl,rfl⟩
   refine NS (ak.eE [(5,.abs (aF (bX (br (aE S to toName ⟨ok,1⟩).X (aG (aE S to toName ⟨ok,1⟩).X (aE S to toName ⟨ok,1⟩).O d name ⟨tk,1⟩) to toName ⟨tk,1⟩) L)))] (fun w hS=>by rw [show bX (br (aE S to toName ⟨ok,1⟩).X (aG (aE S to toName ⟨ok,1⟩).X (aE S to toName ⟨ok,1⟩).O d name ⟨tk,1⟩) to toName ⟨tk,1⟩) L=bX S.O L from jF.trans (mq.trans qJ)];exact hS) ?_)
   refine jK 1 [10] [] ?_
   refine NN (af.ret ?_)
   exact RT _ [0,3,4,1,5,2,6] (⟨L,by rw [show bG S d name to toName=(0,lM (aE S to toName ⟨ok,1⟩) d name to toName ⟨tk,1⟩) by grind [bG]]<;>exact⟨rfl,rfl⟩⟩)
  ·have pK:(obj S.O ok).kind=2:=hI.kind ig
   refine af.region (jK 5 [45,46] [(3,v_ 3 (bS L fU))] ?_)
   refine lH 5 fU cU ?_
   refine jK 1 [15] [] ?_
   refine NN (af.seq (SR (jK 3 [50] [] ?_)))
   refine NN (CF (af.skip (NX (af.seq (SR (jK 2 [52] [] ?_))))))
   refine NN (CT (af.seq (SR (jK 1 [53] [] ?_))))
   refine gL [] (pH (vP (L.b ok))) ?_
   rintro _ _ ⟨rfl,rfl⟩
   refine jK 1 [55] [] ?_
   refine NN (CT (SR (jK 1 [10] [] ?_)))
   refine NN (af.ret (ai.aj (ai.aj ?_)))
   exact RT _ [0,1,2,3,4,5,6] (⟨L,by rw [show bG S d name to toName=(172,S) by grind [bG]]<;>exact⟨rfl,rfl⟩⟩)
  have pK:(obj S.O ok).kind=3:=hI.kind ig
  refine af.region (jK 5 [45,46] [(3,v_ 3 (bS L fU))] ?_)
  refine lH 5 fU cU ?_
  refine jK 1 [15] [] ?_
  refine NN (af.seq (SR (jK 3 [50] [] ?_)))
  refine NN (CF (af.skip (NX (af.seq (SR (jK 2 [52] [] ?_))))))
  refine NN (CT (af.seq (SR (jK 1 [53] [] ?_))))
  refine gL [] (qN (vP (L.b ok))) ?_
  rintro _ _ ⟨rfl,rfl⟩
  refine jK 1 [55] [] ?_
  refine NN (CF (af.skip (NX (af.seq (SR (jK 1 [56] [] ?_))))))
  refine NN (CF (af.skip (NX (af.region (jK 3 [57,58,59] [] ?_)))))
  refine gL [0,3,5,1] (qO S L f m t hI to hto toName wj ⟨ok,3⟩ cU) ?_
  rintro _ _ ⟨rfl,rfl⟩
  refine NS ?_
  have bE:Inv (aE S to toName ⟨ok,3⟩):=hI.BZ hto cU (by simp)
  have hot:(⟨ok,3⟩:Th)≠⟨tk,1⟩:=fun e=>by cases e
  have hd1:Live (aE S to toName ⟨ok,3⟩).idx ⟨d,2⟩:=kW hI.toInv0 hto cU hd (fun e=>by have:=fQ hd ig e;cases this)
  have kS:Live (aE S to toName ⟨ok,3⟩).idx ⟨to,2⟩:=kW hI.toInv0 hto cU hto (fun e=>by have:=fQ hto ig e;cases this)
  have gG:aM name (obj (aE S to toName ⟨ok,3⟩).O d).ah=some ⟨tk,1⟩:=tU hI.toInv0 hto cU hlk hot
  have s5:aM toName (obj (aE S to toName ⟨ok,3⟩).O to).ah=none:=tV hI.toInv0 hto cU
  have lV:(obj (aE S to toName ⟨ok,3⟩).O d).kind=2:=bE.kind hd1
  have tf:(obj (aE S to toName ⟨ok,3⟩).O to).kind=2:=bE.kind kS
  have nF:Live (aE S to toName ⟨ok,3⟩).idx ⟨tk,1⟩:=(bE.ent hd1 gG).2
  have nG:(obj (aE S to toName ⟨ok,3⟩).O tk).kind=1:=bE.kind nF
  have Ge:(obj (aE S to toName ⟨ok,3⟩).O d).ah.length<=8192:=bE.jg hd1
  have Gf:(obj (aE S to toName ⟨ok,3⟩).O to).ah.length<=8192:=bE.jg kS
  have tj:=bE.lb nF
  have nH:tk≠d:=bE.ne hd1 gG
  refine jK 3 [61,62,63] [] ?_
  refine gL [0,1,2] (kY (aE S to toName ⟨ok,3⟩).X f m t bE.hX (aE S to toName ⟨ok,3⟩).O L d lV name hsz ⟨tk,1⟩ nG (by simp) gG (bE.twice hd1) (by omega) (by simp only at tj ⊢;omega)) ?_
  rintro _ _ ⟨rfl,rfl⟩
  refine NS (jK 4 [65,66,67,68] [] ?_)
  refine gL [0,1,2] (jH { (aE S to toName ⟨ok,3⟩).X with ah:=(aE S to toName ⟨ok,3⟩).X.ah - 1 } f m t (bE.CA hd1 gG) (aG (aE S to toName ⟨ok,3⟩).X (aE S to toName ⟨ok,3⟩).O d name ⟨tk,1⟩) L to (cY.trans tf) toName wj (mr nH s5) (Nat.le_trans (o4 nH) (by omega)) ⟨tk,1⟩ (cY.trans nG) (by simp) (mG bE.toInv0 hd1 gG)) ?_
  rintro _ _ ⟨rfl,rfl⟩
  refine NS (ak.eE [(5,.abs (aF (bX (br (aE S to toName ⟨ok,3⟩).X (aG (aE S to toName ⟨ok,3⟩).X (aE S to toName ⟨ok,3⟩).O d name ⟨tk,1⟩) to toName ⟨tk,1⟩) L)))] (fun w hS=>by rw [show bX (br (aE S to toName ⟨ok,3⟩).X (aG (aE S to toName ⟨ok,3⟩).X (aE S to toName ⟨ok,3⟩).O d name ⟨tk,1⟩) to toName ⟨tk,1⟩) L=bX S.O L from jF.trans (mq.trans qJ)];exact hS) ?_)
  refine jK 1 [10] [] ?_
  refine NN (af.ret ?_)
  exact RT _ [0,3,4,1,5,2,6] (⟨L,by rw [show bG S d name to toName=(0,lM (aE S to toName ⟨ok,3⟩) d name to toName ⟨tk,1⟩) by grind [bG]]<;>exact⟨rfl,rfl⟩⟩)
 ·have hkt:(obj S.O tk).kind=2:=hI.kind hlv
  refine af.region (jK 1 [] [] ?_)
  refine NS (jK 5 [19,20] [(3,v_ 3 (bS L hkd))] ?_)
  refine lH 5 hkd hlk ?_
  refine jK 1 [11] [] ?_
  refine NN (af.seq (SR (jK 2 [23] [] ?_)))
  refine NN (CF (af.skip (NX (SR (jK 7 [12,13] [] ?_)))))
  refine NN (af.seq (SR (jK 2 [14] [] ?_)))
  refine NN (af.block ?_)
  obtain⟨dp,hdp⟩:=hI.deep
  refine lJ (fun (x:Option Nat)=>(ox S.O tk to↔∃ z0,x=some z0/\ox S.O tk z0)/\(∀ z0,x=some z0->Live S.idx ⟨z0,2⟩)) (fun (x:Option Nat)=>AK dp x) (fun (x:Option Nat)=>[(0,vP f),(1,vP (L.b d)),(2,.string name),(3,vP (L.b to)),(4,.string toName),(11,.iface 94 (vP (L.b tk))),(12,vP (L.b tk)),(13,.bool true),(14,(D8 L x))]) (fun (x:Option Nat)=>((pA f m t L S)++[.abs R])) ((some to)) [0,1,2,3,4,5,6] (⟨⟨fun h=>⟨to,rfl,h⟩,fun ⟨y,e,h⟩=>by cases e;exact h⟩,fun y e=>by cases e;exact hto⟩) ?_
  rintro x ⟨Zj,hlx⟩
  refine af.seq (af.seq ?_)
  rcases hx:x with _|y
  ·refine af.region (jK 5 [34] [] ?_)
   refine NN (CF (af.exit (ai.aC (ai.aC (ai.aU (NX (af.seq ?_)))))))
   have hnb:¬ ox S.O tk to:=fun h=>by grind
   rcases hI.qE hto toName with cU|⟨ok,cU,ig⟩|⟨ok,cU,ig⟩|⟨ok,cU,ig⟩
   ·refine af.region (jK 5 [45,46] [(3,v_ 3 (bS L fU))] ?_)
    refine lH 5 fU cU ?_
    refine jK 1 [15] [] ?_
    refine NN (af.seq (SR (jK 3 [50] [] ?_)))
    refine NN (CF (af.skip (NX (af.seq (SR (jK 2 [52] [] ?_))))))
    refine NN (CF (af.skip (NX (SR ?_))))
    have bE:Inv S:=hI
    have hd1:=hd
    have gG:=hlk
    have s5:=cU
    have kS:=hto
    have lV:(obj S.O d).kind=2:=bE.kind hd1
    have tf:(obj S.O to).kind=2:=bE.kind kS
    have nF:Live S.idx ⟨tk,2⟩:=(bE.ent hd1 gG).2
    have nG:(obj S.O tk).kind=2:=bE.kind nF
    have Ge:(obj S.O d).ah.length<=8192:=bE.jg hd1
    have Gf:(obj S.O to).ah.length<=8192:=bE.jg kS
    have tj:=bE.lb nF
    have nH:tk≠d:=bE.ne hd1 gG
    refine jK 3 [61,62,63] [] ?_
    refine gL [0,3,5] (kY S.X f m t bE.hX S.O L d lV name hsz ⟨tk,2⟩ nG (by simp) gG (bE.twice hd1) (by omega) (by simp only at tj ⊢;omega)) ?_
    rintro _ _ ⟨rfl,rfl⟩
    refine NS (jK 4 [65,66,67,68] [] ?_)
    refine gL [0,1,2] (jH { S.X with ah:=S.X.ah - 1 } f m t (bE.CA hd1 gG) (aG S.X S.O d name ⟨tk,2⟩) L to (cY.trans tf) toName wj (mr nH s5) (Nat.le_trans (o4 nH) (by omega)) ⟨tk,2⟩ (cY.trans nG) (by simp) (mG bE.toInv0 hd1 gG)) ?_
    rintro _ _ ⟨rfl,rfl⟩
    refine NS (ak.eE [(5,.abs (aF (bX (br S.X (aG S.X S.O d name ⟨tk,2⟩) to toName ⟨tk,2⟩) L)))] (fun w hS=>by rw [show bX (br S.X (aG S.X S.O d name ⟨tk,2⟩) to toName ⟨tk,2⟩) L=bX S.O L from jF.trans mq];exact hS) ?_)
    refine jK 1 [10] [] ?_
    refine NN (af.ret ?_)
    exact RT _ [0,3,4,1,5,2,6] (⟨L,by rw [show bG S d name to toName=(0,lM S d name to toName ⟨tk,2⟩) by grind [bG]]<;>exact⟨rfl,rfl⟩⟩)
   ·have pK:(obj S.O ok).kind=1:=hI.kind ig
    refine af.region (jK 5 [45,46] [(3,v_ 3 (bS L fU))] ?_)
    refine lH 5 fU cU ?_
    refine jK 1 [15] [] ?_
    refine NN (af.seq (SR (jK 3 [50] [] ?_)))
    refine NN (CF (af.skip (NX (af.seq (SR (jK 2 [52] [] ?_))))))
    refine NN (CT (af.seq (SR (jK 1 [53] [] ?_))))
    refine gL [] (pG (vP (L.b ok))) ?_
    rintro _ _ ⟨rfl,rfl⟩
    refine jK 1 [55] [] ?_
    refine NN (CF (af.skip (NX (af.seq (SR (jK 1 [56] [] ?_))))))
    refine NN (CT (SR (jK 1 [10] [] ?_)))
    refine NN (af.ret (ai.aj (ai.aj ?_)))
    exact RT _ [0,1,2,3,4,5,6] (⟨L,by rw [show bG S d name to toName=(173,S) by grind [bG]]<;>exact⟨rfl,rfl⟩⟩)
   ·have pK:(obj S.O ok).kind=2:=hI.kind ig
    refine af.region (jK 5 [45,46] [(3,v_ 3 (bS L fU))] ?_)
    refine lH 5 fU cU ?_
    refine jK 1 [15] [] ?_
    refine NN (af.seq (SR (jK 2 [48,49] [] ?_)))
    refine ak.jX (d:=(some 50)) (op:=.binOp .eql 82 (.tmp 48) (.tmp 49) 82) (v:=.bool (decide (ok=tk))) (fun _=>by kernel_rfl) (fun o junk w ho hS=>by obtain⟨F,hF⟩:=hS.get (i:=3) rfl;exact⟨w,Dp Z5 ho (by kernel_rfl) (by kernel_rfl) (by rw [pK];decide) (by rw [hkt];decide) hF,hS⟩) ?_
    refine NN (cP (ok=tk) (fun h50=>?_) (fun h50=>?_))
    ·refine SR (jK 1 [10] [] ?_)
     refine NN (af.ret (ai.aj ?_))
     exact RT _ [0,1,2,3,4,5,6] (⟨L,by rw [show bG S d name to toName=(0,S) by grind [bG]]<;>exact⟨rfl,rfl⟩⟩)
    refine af.skip (NX (af.seq (SR (jK 2 [52] [] ?_))))
    refine NN (CT (af.seq (SR (jK 1 [53] [] ?_))))
    refine gL [] (pH (vP (L.b ok))) ?_
    rintro _ _ ⟨rfl,rfl⟩
    refine jK 1 [55] [] ?_
    refine NN (CT (SR (jK 1 [10] [] ?_)))
    refine NN (af.ret (ai.aj (ai.aj ?_)))
    exact RT _ [0,1,2,3,4,5,6] (⟨L,by rw [show bG S d name to toName=(172,S) by grind [bG]]<;>exact⟨rfl,rfl⟩⟩)
   have pK:(obj S.O ok).kind=3:=hI.kind ig
   refine af.region (jK 5 [45,46] [(3,v_ 3 (bS L fU))] ?_)
   refine lH 5 fU cU ?_
   refine jK 1 [15] [] ?_
   refine NN (af.seq (SR (jK 3 [50] [] ?_)))
   refine NN (CF (af.skip (NX (af.seq (SR (jK 2 [52] [] ?_))))))
   refine NN (CT (af.seq (SR (jK 1 [53] [] ?_))))
   refine gL [] (qN (vP (L.b ok))) ?_
   rintro _ _ ⟨rfl,rfl⟩
   refine jK 1 [55] [] ?_
   refine NN (CF (af.skip (NX (af.seq (SR (jK 1 [56] [] ?_))))))
   refine NN (CT (SR (jK 1 [10] [] ?_)))
   refine NN (af.ret (ai.aj (ai.aj ?_)))
   exact RT _ [0,1,2,3,4,5,6] (⟨L,by rw [show bG S d name to toName=(173,S) by grind [bG]]<;>exact⟨rfl,rfl⟩⟩)
  have hky:(obj S.O y).kind=2:=hI.kind (hlx y hx)
  refine af.region (jK 5 [34] [] ?_)
  refine NN (CT (af.skip (NX (af.seq (af.block (SR ?_))))))
  refine jK 2 [39,40] [] ?_
  refine ak.jX (d:=(some 41)) (op:=.binOp .eql 94 (.tmp 39) (.tmp 40) 94) (v:=.bool (decide (y=tk))) (fun _=>by kernel_rfl) (fun o junk w ho hS=>by obtain⟨F,hF⟩:=hS.get (i:=3) rfl;exact⟨w,P9 ho (by kernel_rfl) (by kernel_rfl) (by rw [hky];decide) (by rw [hkt];decide) hF,hS⟩) ?_
  refine NN (cP (y=tk) (fun CK=>?_) (fun CK=>?_))
  ·refine SR (jK 1 [10] [] ?_)
   refine NN (af.ret (ai.au (ai.aj (ai.aj (ai.au (ai.aj ?_))))))
   exact RT _ [0,1,2,3,4,5,6] (⟨L,by rw [show bG S d name to toName=(174,S) by unfold bG;rw [hlk];exact if_pos ⟨rfl,Zj.2 ⟨y,hx,by rw [CK];exact .here⟩⟩]<;>exact⟨rfl,rfl⟩⟩)
  refine af.skip (ai.aA (NX (af.region ?_)))
  refine jK 5 [14] [(3,v_ 3 (abm L hky))] ?_
  refine NL ?_
  exact tJ (((obj S.O y).up)) [0,1,2,3,4,5,6] (⟨Zj.trans ⟨fun ⟨y2,e,h⟩=>by grind [Ei],fun h=>⟨y,hx,(Ei CK).2 h⟩⟩,fun z e=>((hI.up ⟨y,2⟩ (hlx y hx) z).1 e).2.1⟩) (hm:=by show AK dp (((obj S.O y).up)) < AK dp (some y);exact Qc hdp)
 have hkt:(obj S.O tk).kind=3:=hI.kind hlv
 refine af.region (jK 1 [] [] ?_)
 refine NS (jK 5 [19,20] [(3,v_ 3 (bS L hkd))] ?_)
 refine lH 5 hkd hlk ?_
 refine jK 1 [11] [] ?_
 refine NN (af.seq (SR (jK 2 [23] [] ?_)))
 refine NN (CF (af.skip (NX (SR (jK 7 [12,13] [] ?_)))))
 refine NN (af.seq (SR (jK 2 [14] [] ?_)))
 refine NN (af.block ?_)
 refine lJ (fun (u:Unit)=>True) (fun (u:Unit)=>0) (fun (u:Unit)=>[(0,vP f),(1,vP (L.b d)),(2,.string name),(3,vP (L.b to)),(4,.string toName),(11,.iface 91 (vP (L.b tk))),(12,.pointer none),(13,.bool false),(14,vP (L.b to))]) (fun (u:Unit)=>((pA f m t L S)++[.abs R])) () [0,1,2,3,4,5,6] (trivial) ?_
 rintro u _
 refine af.seq (SR (jK 5 [34] [] ?_))
 refine NN (CF (af.exit (ai.aC (ai.aC (ai.aU (NX (af.seq ?_)))))))
 skip
 rcases hI.qE hto toName with cU|⟨ok,cU,ig⟩|⟨ok,cU,ig⟩|⟨ok,cU,ig⟩
 ·refine af.region (jK 5 [45,46] [(3,v_ 3 (bS L fU))] ?_)
  refine lH 5 fU cU ?_
  refine jK 1 [15] [] ?_
  refine NN (af.seq (SR (jK 3 [50] [] ?_)))
  refine NN (CF (af.skip (NX (af.seq (SR (jK 2 [52] [] ?_))))))
  refine NN (CF (af.skip (NX (SR ?_))))
  have bE:Inv S:=hI
  have hd1:=hd
  have gG:=hlk
  have s5:=cU
  have kS:=hto
  have lV:(obj S.O d).kind=2:=bE.kind hd1
  have tf:(obj S.O to).kind=2:=bE.kind kS
  have nF:Live S.idx ⟨tk,3⟩:=(bE.ent hd1 gG).2
  have nG:(obj S.O tk).kind=3:=bE.kind nF
  have Ge:(obj S.O d).ah.length<=8192:=bE.jg hd1
  have Gf:(obj S.O to).ah.length<=8192:=bE.jg kS
  have tj:=bE.lb nF
  have nH:tk≠d:=bE.ne hd1 gG
  refine jK 3 [61,62,63] [] ?_
  refine gL [0,3,5] (kY S.X f m t bE.hX S.O L d lV name hsz ⟨tk,3⟩ nG (by simp) gG (bE.twice hd1) (by omega) (by simp only at tj ⊢;omega)) ?_
  rintro _ _ ⟨rfl,rfl⟩
  refine NS (jK 4 [65,66,67,68] [] ?_)
  refine gL [0,1,2] (jH { S.X with ah:=S.X.ah - 1 } f m t (bE.CA hd1 gG) (aG S.X S.O d name ⟨tk,3⟩) L to (cY.trans tf) toName wj (mr nH s5) (Nat.le_trans (o4 nH) (by omega)) ⟨tk,3⟩ (cY.trans nG) (by simp) (mG bE.toInv0 hd1 gG)) ?_
  rintro _ _ ⟨rfl,rfl⟩
  refine NS (ak.eE [(5,.abs (aF (bX (br S.X (aG S.X S.O d name ⟨tk,3⟩) to toName ⟨tk,3⟩) L)))] (fun w hS=>by rw [show bX (br S.X (aG S.X S.O d name ⟨tk,3⟩) to toName ⟨tk,3⟩) L=bX S.O L from jF.trans mq];exact hS) ?_)
  refine jK 1 [10] [] ?_
  refine NN (af.ret ?_)
  exact RT _ [0,3,4,1,5,2,6] (⟨L,by rw [show bG S d name to toName=(0,lM S d name to toName ⟨tk,3⟩) by grind [bG]]<;>exact⟨rfl,rfl⟩⟩)
 ·have pK:(obj S.O ok).kind=1:=hI.kind ig
  refine af.region (jK 5 [45,46] [(3,v_ 3 (bS L fU))] ?_)
  refine lH 5 fU cU ?_
  refine jK 1 [15] [] ?_
  refine NN (af.seq (SR (jK 3 [50] [] ?_)))
  refine NN (CF (af.skip (NX (af.seq (SR (jK 2 [52] [] ?_))))))
  refine NN (CT (af.seq (SR (jK 1 [53] [] ?_))))
  refine gL [] (pG (vP (L.b ok))) ?_
  rintro _ _ ⟨rfl,rfl⟩
  refine jK 1 [55] [] ?_
  refine NN (CF (af.skip (NX (af.seq (SR (jK 1 [56] [] ?_))))))
  refine NN (CF (af.skip (NX (af.region (jK 3 [57,58,59] [] ?_)))))
  refine gL [0,3,5,1] (qO S L f m t hI to hto toName wj ⟨ok,1⟩ cU) ?_
  rintro _ _ ⟨rfl,rfl⟩
  refine NS ?_
  have bE:Inv (aE S to toName ⟨ok,1⟩):=hI.BZ hto cU (by simp)
  have hot:(⟨ok,1⟩:Th)≠⟨tk,3⟩:=fun e=>by cases e
  have hd1:Live (aE S to toName ⟨ok,1⟩).idx ⟨d,2⟩:=kW hI.toInv0 hto cU hd (fun e=>by have:=fQ hd ig e;cases this)
  have kS:Live (aE S to toName ⟨ok,1⟩).idx ⟨to,2⟩:=kW hI.toInv0 hto cU hto (fun e=>by have:=fQ hto ig e;cases this)
  have gG:aM name (obj (aE S to toName ⟨ok,1⟩).O d).ah=some ⟨tk,3⟩:=tU hI.toInv0 hto cU hlk hot
  have s5:aM toName (obj (aE S to toName ⟨ok,1⟩).O to).ah=none:=tV hI.toInv0 hto cU
  have lV:(obj (aE S to toName ⟨ok,1⟩).O d).kind=2:=bE.kind hd1
  have tf:(obj (aE S to toName ⟨ok,1⟩).O to).kind=2:=bE.kind kS
  have nF:Live (aE S to toName ⟨ok,1⟩).idx ⟨tk,3⟩:=(bE.ent hd1 gG).2
  have nG:(obj (aE S to toName ⟨ok,1⟩).O tk).kind=3:=bE.kind nF
  have Ge:(obj (aE S to toName ⟨ok,1⟩).O d).ah.length<=8192:=bE.jg hd1
  have Gf:(obj (aE S to toName ⟨ok,1⟩).O to).ah.length<=8192:=bE.jg kS
  have tj:=bE.lb nF
  have nH:tk≠d:=bE.ne hd1 gG
  refine jK 3 [61,62,63] [] ?_
  refine gL [0,1,2] (kY (aE S to toName ⟨ok,1⟩).X f m t bE.hX (aE S to toName ⟨ok,1⟩).O L d lV name hsz ⟨tk,3⟩ nG (by simp) gG (bE.twice hd1) (by omega) (by simp only at tj ⊢;omega)) ?_
  rintro _ _ ⟨rfl,rfl⟩
  refine NS (jK 4 [65,66,67,68] [] ?_)
  refine gL [0,1,2] (jH { (aE S to toName ⟨ok,1⟩).X with ah:=(aE S to toName ⟨ok,1⟩).X.ah - 1 } f m t (bE.CA hd1 gG) (aG (aE S to toName ⟨ok,1⟩).X (aE S to toName ⟨ok,1⟩).O d name ⟨tk,3⟩) L to (cY.trans tf) toName wj (mr nH s5) (Nat.le_trans (o4 nH) (by omega)) ⟨tk,3⟩ (cY.trans nG) (by simp) (mG bE.toInv0 hd1 gG)) ?_
  rintro _ _ ⟨rfl,rfl⟩
  refine NS (ak.eE [(5,.abs (aF (bX (br (aE S to toName ⟨ok,1⟩).X (aG (aE S to toName ⟨ok,1⟩).X (aE S to toName ⟨ok,1⟩).O d name ⟨tk,3⟩) to toName ⟨tk,3⟩) L)))] (fun w hS=>by rw [show bX (br (aE S to toName ⟨ok,1⟩).X (aG (aE S to toName ⟨ok,1⟩).X (aE S to toName ⟨ok,1⟩).O d name ⟨tk,3⟩) to toName ⟨tk,3⟩) L=bX S.O L from jF.trans (mq.trans qJ)];exact hS) ?_)
  refine jK 1 [10] [] ?_
  refine NN (af.ret ?_)
  exact RT _ [0,3,4,1,5,2,6] (⟨L,by rw [show bG S d name to toName=(0,lM (aE S to toName ⟨ok,1⟩) d name to toName ⟨tk,3⟩) by grind [bG]]<;>exact⟨rfl,rfl⟩⟩)
 ·have pK:(obj S.O ok).kind=2:=hI.kind ig
  refine af.region (jK 5 [45,46] [(3,v_ 3 (bS L fU))] ?_)
  refine lH 5 fU cU ?_
  refine jK 1 [15] [] ?_
  refine NN (af.seq (SR (jK 3 [50] [] ?_)))
  refine NN (CF (af.skip (NX (af.seq (SR (jK 2 [52] [] ?_))))))
  refine NN (CT (af.seq (SR (jK 1 [53] [] ?_))))
  refine gL [] (pH (vP (L.b ok))) ?_
  rintro _ _ ⟨rfl,rfl⟩
  refine jK 1 [55] [] ?_
  refine NN (CT (SR (jK 1 [10] [] ?_)))
  refine NN (af.ret (ai.aj (ai.aj ?_)))
  exact RT _ [0,1,2,3,4,5,6] (⟨L,by rw [show bG S d name to toName=(172,S) by grind [bG]]<;>exact⟨rfl,rfl⟩⟩)
 have pK:(obj S.O ok).kind=3:=hI.kind ig
 refine af.region (jK 5 [45,46] [(3,v_ 3 (bS L fU))] ?_)
 refine lH 5 fU cU ?_
 refine jK 1 [15] [] ?_
 refine NN (af.seq (SR (jK 2 [48,49] [] ?_)))
 refine ak.jX (d:=(some 50)) (op:=.binOp .eql 82 (.tmp 48) (.tmp 49) 82) (v:=.bool (decide (ok=tk))) (fun _=>by kernel_rfl) (fun o junk w ho hS=>by obtain⟨F,hF⟩:=hS.get (i:=3) rfl;exact⟨w,Dp XJ ho (by kernel_rfl) (by kernel_rfl) (by rw [pK];decide) (by rw [hkt];decide) hF,hS⟩) ?_
 refine NN (cP (ok=tk) (fun h50=>?_) (fun h50=>?_))
 ·refine SR (jK 1 [10] [] ?_)
  refine NN (af.ret (ai.aj ?_))
  exact RT _ [0,1,2,3,4,5,6] (⟨L,by rw [show bG S d name to toName=(0,S) by grind [bG]]<;>exact⟨rfl,rfl⟩⟩)
 refine af.skip (NX (af.seq (SR (jK 2 [52] [] ?_))))
 refine NN (CT (af.seq (SR (jK 1 [53] [] ?_))))
 refine gL [] (qN (vP (L.b ok))) ?_
 rintro _ _ ⟨rfl,rfl⟩
 refine jK 1 [55] [] ?_
 refine NN (CF (af.skip (NX (af.seq (SR (jK 1 [56] [] ?_))))))
 refine NN (CF (af.skip (NX (af.region (jK 3 [57,58,59] [] ?_)))))
 refine gL [0,3,5,1] (qO S L f m t hI to hto toName wj ⟨ok,3⟩ cU) ?_
 rintro _ _ ⟨rfl,rfl⟩
 refine NS ?_
 have bE:Inv (aE S to toName ⟨ok,3⟩):=hI.BZ hto cU (by simp)
 have hot:(⟨ok,3⟩:Th)≠⟨tk,3⟩:=fun e=>h50 (congrArg Th.k e)
 have hd1:Live (aE S to toName ⟨ok,3⟩).idx ⟨d,2⟩:=kW hI.toInv0 hto cU hd (fun e=>by have:=fQ hd ig e;cases this)
 have kS:Live (aE S to toName ⟨ok,3⟩).idx ⟨to,2⟩:=kW hI.toInv0 hto cU hto (fun e=>by have:=fQ hto ig e;cases this)
 have gG:aM name (obj (aE S to toName ⟨ok,3⟩).O d).ah=some ⟨tk,3⟩:=tU hI.toInv0 hto cU hlk hot
 have s5:aM toName (obj (aE S to toName ⟨ok,3⟩).O to).ah=none:=tV hI.toInv0 hto cU
 have lV:(obj (aE S to toName ⟨ok,3⟩).O d).kind=2:=bE.kind hd1
 have tf:(obj (aE S to toName ⟨ok,3⟩).O to).kind=2:=bE.kind kS
 have nF:Live (aE S to toName ⟨ok,3⟩).idx ⟨tk,3⟩:=(bE.ent hd1 gG).2
 have nG:(obj (aE S to toName ⟨ok,3⟩).O tk).kind=3:=bE.kind nF
 have Ge:(obj (aE S to toName ⟨ok,3⟩).O d).ah.length<=8192:=bE.jg hd1
 have Gf:(obj (aE S to toName ⟨ok,3⟩).O to).ah.length<=8192:=bE.jg kS
 have tj:=bE.lb nF
 have nH:tk≠d:=bE.ne hd1 gG
 refine jK 3 [61,62,63] [] ?_
 refine gL [0,1,2] (kY (aE S to toName ⟨ok,3⟩).X f m t bE.hX (aE S to toName ⟨ok,3⟩).O L d lV name hsz ⟨tk,3⟩ nG (by simp) gG (bE.twice hd1) (by omega) (by simp only at tj ⊢;omega)) ?_
 rintro _ _ ⟨rfl,rfl⟩
 refine NS (jK 4 [65,66,67,68] [] ?_)
 refine gL [0,1,2] (jH { (aE S to toName ⟨ok,3⟩).X with ah:=(aE S to toName ⟨ok,3⟩).X.ah - 1 } f m t (bE.CA hd1 gG) (aG (aE S to toName ⟨ok,3⟩).X (aE S to toName ⟨ok,3⟩).O d name ⟨tk,3⟩) L to (cY.trans tf) toName wj (mr nH s5) (Nat.le_trans (o4 nH) (by omega)) ⟨tk,3⟩ (cY.trans nG) (by simp) (mG bE.toInv0 hd1 gG)) ?_
 rintro _ _ ⟨rfl,rfl⟩
 refine NS (ak.eE [(5,.abs (aF (bX (br (aE S to toName ⟨ok,3⟩).X (aG (aE S to toName ⟨ok,3⟩).X (aE S to toName ⟨ok,3⟩).O d name ⟨tk,3⟩) to toName ⟨tk,3⟩) L)))] (fun w hS=>by rw [show bX (br (aE S to toName ⟨ok,3⟩).X (aG (aE S to toName ⟨ok,3⟩).X (aE S to toName ⟨ok,3⟩).O d name ⟨tk,3⟩) to toName ⟨tk,3⟩) L=bX S.O L from jF.trans (mq.trans qJ)];exact hS) ?_)
 refine jK 1 [10] [] ?_
 refine NN (af.ret ?_)
 exact RT _ [0,3,4,1,5,2,6] (⟨L,by rw [show bG S d name to toName=(0,lM (aE S to toName ⟨ok,3⟩) d name to toName ⟨tk,3⟩) by grind [bG]]<;>exact⟨rfl,rfl⟩⟩)
end
section
open Go.RowKit Go.Maps aX aq
attribute [local irreducible] ak aV af ai aY
abbrev zf1 (f:Nat) (m:Nat) (t) (S:aL) (L:HL) (k:Nat) (R:ct):=([pF f m t S.X,pI m L S.idx,pT t S.X.cH S.ar L S.us,pO S.O L,.abs (aF (mZ (bX S.O L) k ct.none)),pE S.O L,.abs R]:List HP)
theorem R8 {β:Bs} (S:aL) (L:HL) (f m t:Nat) (hI:Inv S) (k:Nat) (hk:Live S.idx ⟨k,1⟩) (A:Option Addr) (c:Nat) (bs:List UInt8) (hA:bh β A bs) (hbl:bs.length<=1099511627776) (hbc:bs.length<=c) :
    Spec Tryz.prog β 128 #[vP f,vP (L.b k),.slice A (bs.length) (c)] (pA f m t L S) (fun v l=>∃ L2,v=.tuple #[vI (fS S k bs).1,vI (fS S k bs).2.1]/\l=(pA f m t L2 ((fS S k bs).2.2))):=by
 have hX:=hI.hX
 have hkk:(obj S.O k).kind=1:=hI.kind hk
 have hdu:((obj S.O k).data.length:Int)<=S.X.used:=hI.Z8 hk
 have hcB:=hI.cB
 refine SE Tryz.func128 Tryz.ntmps128 (fun R=>?_)
 refine SR (jK 2 [] [] ?_)
 refine NN (af.seq (SR (jK 3 [12] [] ?_)))
 refine NN (cP ((((bs.length:Nat):Int):Int)=(0:Int)) (fun h12=>?_) (fun h12=>?_))
 ·have he:bs=[]:=List.eq_nil_of_length_eq_zero (by omega)
  refine SR (jK 2 [6,7] [] ?_)
  refine NN (af.ret (ai.aj ?_))
  exact RT _ [0,1,2,3,4,5,6] (⟨L,by rw [show fS S k bs=(0,0,S) from if_pos he]<;>exact⟨rfl,rfl⟩⟩)
 have hlen:0 < bs.length:=by omega
 refine af.skip (NX (af.seq (af.bF (by kernel_rfl) (by kernel_rfl) ?_)))
 refine jQ 11 [8] [(4,a_ 0 f),(8,a_ 0 f),(9,wJ (S.X.cB - S.X.used) (S.X.cB - S.X.used))] ?_
 refine NQ (NX (af.seq (SR ?_)))
 refine jK 2 [24] [] ?_
 refine NN (cP ((S.X.cB - S.X.used:Int)<=(0:Int)) (fun zx=>?_) (fun zx=>?_))
 ·refine SR (jK 2 [6,7] [] ?_)
  refine NN (af.ret (ai.aj ?_))
  exact RT _ [0,1,2,3,4,5,6] (⟨L,by rw [show fS S k bs=(0,176,S) from (if_neg (fun e=>by grind)).trans (if_pos zx)]<;>exact⟨rfl,rfl⟩⟩)
 refine af.skip (NX (SR (jK 4 [28] [(3,p_ ⟨[],none,none,none,some (vI (min ((bs.length:Nat):Int) (S.X.cB - S.X.used)))⟩ [(Value.int .i64 (if S.X.cB - S.X.used < ((bs.length:Nat):Int) then S.X.cB - S.X.used else ((bs.length:Nat):Int)))=(.int .i64 (min ((bs.length:Nat):Int) (S.X.cB - S.X.used)))] ⟨congrArg (Value.int .i64) (Vb _ _),trivial⟩)] ?_)))
 refine sl 28 (.int .i64 (min ((bs.length:Nat):Int) (S.X.cB - S.X.used))) (.int .i64 ↑(bR S.X bs.length)) (congrArg (Value.int .i64) (Qd (by omega))) ?_
 refine jK 1 [9] [] ?_
 refine NN (af.seq ?_)
 have hwl:=Qe (X:=S.X) (n:=bs.length) (by omega)
 refine af.mem (fun w hS=>hS.PK (i:=4) (k:=k) rfl hkk) ?_
 refine rM (List.range 12) 8 [0,1,2,3,4,5,6] ?_
 refine jR 8 [0,1,9,29,33,36] [(4,v_ 3 (K5 L hkk)),(7,xP (bR S.X bs.length) ((bR S.X bs.length)<=c))] ?_
 refine aY.cut (ι:=(Option Addr)×Nat) (fr':=fun ((A1,c2):(Option Addr)×Nat)=>[(0,vP f),(1,vP (L.b k)),(9,vI ↑(bR S.X bs.length)),(29,vP (L.b k)),(37,.slice A1 (((obj S.O k).data++bs.take (bR S.X bs.length)).length) (c2))]) (hp':=fun ((A1,c2):(Option Addr)×Nat)=>(zf1 f m t S L k R++[.abs (av 5 1 A1 (((obj S.O k).data++bs.take (bR S.X bs.length)).length) c2 (cx ((obj S.O k).data++bs.take (bR S.X bs.length))))])) [0,1,2,3,4,5,6] rfl rfl ?_ rfl (fun _=>by kernel_rfl) ?_
 ·refine j3 7 51 A (bR S.X bs.length) c (cx (bs.take (bR S.X bs.length))) rfl ((hA.take (bR S.X bs.length)).src) (fun A1 c2=>?_) (hl:=by grind [rI]) (h1:=oo (bs.take (bR S.X bs.length)))
  refine ak.bO 7 (p':=.abs (av 5 1 A1 (((obj S.O k).data++bs.take (bR S.X bs.length)).length) c2 (cx ((obj S.O k).data++bs.take (bR S.X bs.length))))) rfl (by grind [NT]) ?_
  refine sl 37 (.slice A1 (((obj S.O k).data.length)+(bR S.X bs.length)) (c2)) (.slice A1 (((obj S.O k).data++bs.take (bR S.X bs.length)).length) (c2)) (by grind) ?_
  refine NL ?_
  exact MD (A1,c2) [0,1,9,29,37] [0,1,2,3,4,5,6,7]
 rintro⟨A1,c2⟩
 refine nC [0,1,2,3,4,5,6] [38] [] [] ?_
 refine nC [0,1,2,3,4,5,6] [39] [] [] ?_
 refine aY.last rfl rfl ?_
 refine ak.mem (fun w hS=>hS.Ap (i:=3) (k:=k) rfl (by rw [hkk];decide) (jD (hkk)) (congrArg qg (hkk))) ?_
 refine jC 1 [] [(0,a_ 8 (L.b k))] [(8,[(9,.slice A1 (((obj S.O k).data++bs.take (bR S.X bs.length)).length) (c2))])] ?_
 obtain⟨L2,hL2⟩:∃ L2:HL,L2=L.data k A1 c2:=⟨_,rfl⟩
 refine ak.mem (fun w hS=>hS.XP hL2 (f:=(fun o=>{ o with data:=o.data++bs.take (bR S.X bs.length) })) (i:=3) (j:=8) (ix:=[0,1,2,4,5,6,7]) rfl rfl (by kernel_rfl) rfl (by grind) ((jD (L:=L2) (k:=k) (o:=(fun o=>{ o with data:=o.data++bs.take (bR S.X bs.length) }) (obj S.O k)) hkk).trans (by rw [Mz hL2,MB hL2]<;>rfl)) (by grind)) ?_
 refine ak.mem (fun w hS=>hS.XQ hL2 (f:=(fun o=>{ o with data:=o.data++bs.take (bR S.X bs.length) })) (i:=4) (j:=7) (ix:=[0,1,2,3,5,6]) rfl rfl (by kernel_rfl) rfl hkk rfl rfl) ?_
 refine ak.eE [(3,.abs (bq Tryz.prog 3 m (bB (bC L2 S.idx)) S.idx.length)),(4,.abs (dI 140 t S.X.cH S.ar (bC L2 S.us))),(5,.abs (aF (dL (aD S.O k (fun o=>{ o with data:=o.data++bs.take (bR S.X bs.length) })) L2)))] (fun w hS=>by rw [JF hL2,JF hL2,show dL (aD S.O k (fun o=>{ o with data:=o.data++bs.take (bR S.X bs.length) })) L2=dL S.O L from (pU (O:=S.O) (k:=k) (f:=(fun o=>{ o with data:=o.data++bs.take (bR S.X bs.length) })) rfl rfl).trans (Tp hL2)];exact hS) ?_
 have Gd:(obj (aD S.O k (fun o=>{ o with data:=o.data++bs.take (bR S.X bs.length) })) k).kind=1:=(lq (f:=(fun o=>{ o with data:=o.data++bs.take (bR S.X bs.length) })) (fun _=>rfl)).trans hkk
 have hbk:L2.b k=L.b k:=Qf hL2
 generalize dh:(aD S.O k (fun o=>{ o with data:=o.data++bs.take (bR S.X bs.length) }))=d9 at Gd ⊢
 refine NL (ai.np (NX (SR ?_)))
 refine jK 1 [40] [] ?_
 refine sl 40 (vP (L.b k)) (vP (L2.b k)) (by rw [hbk]) ?_
 refine jK 8 [45,48] [(4,A_ 2 f 2)] ?_
 refine RZ 1 [(5,1),(0,2)] k S.X.cS S.X.cZ Gd (fun gi dJ=>?_)
 have Br:=ku dJ Gd
 refine NS (jC 9 [] [(3,a_ 2 f),(5,wJ (S.X.used+(((bR S.X bs.length):Nat):Int)) (S.X.used+(((bR S.X bs.length):Nat):Int))),(8,a_ 2 f)] [(2,[(9,vI (S.X.used+(((bR S.X bs.length):Nat):Int)))])] ?_)
 refine NS (jK 3 [6,7] [] ?_)
 refine NN (af.ret ?_)
 exact RT (l:=[pF f m t { S.X with used:=S.X.used+(((bR S.X bs.length):Nat):Int) },pI m L2 S.idx,pT t S.X.cH S.ar L2 S.us,pO gi L2,pD gi L2,pE gi L2]) (.tuple #[vI ↑(bR S.X bs.length),vI 0]) [2,3,4,1,0,5,6] (⟨L2,by grind [fS,wA]⟩)
end
section
open Go.RowKit Go.Maps aX aq
attribute [local irreducible] ak aV af ai aY
theorem jI {β:Bs} (S:aL) (L:HL) (f m t:Nat) (hI:Inv S) (cb:Nat) (c:aH) (hC:iO β c) :
    Spec Tryz.prog β 117 #[vP f,vP cb] ((pA f m t L S)++[.blk cb (aO c) 53]) (fun v l=>v=aaH L (fq S.O S.us c)/\l=((pA f m t L S)++[.blk cb (aO c) 53])):=by
 refine SE Tryz.func117 Tryz.ntmps117 (fun R=>?_)
 refine SR (jK 2 [] [] ?_)
 refine NN (af.seq (af.bF (by kernel_rfl) (by kernel_rfl) ?_))
 refine jQ 9 [10,14,18] [(4,a_ 6 cb),(8,a_ 6 cb)] ?_
 rcases iu hI.toInv0 c.handle c.name 64 with ⟨e,hab,hne⟩|⟨d,hab,hd,mM,j4,ez⟩
 ·refine jT [0,2,3] [0,3,1,2,4,5,6,7] (.tuple #[.pointer none,vI (e)]) ((by have h:=fM S L f m t hI c.handle hC.hw c.name hC.nm 64 (β:=β);rw [hab] at h;exact h)) ?_
  refine jQ 5 [6,7] [] ?_
  refine NQ (NX (af.seq (SR ?_)))
  refine jK 2 [23] [] ?_
  refine NN (cN ((e:Int)=(0:Int)) (fun h23=>?_) (fun h23=>?_))
  ·refine SR (jK 3 [4,5] [] ?_)
   refine NN (af.ret (ai.aj ?_))
   exact RT (.tuple #[.nilIface,vI (e)]) [0,1,2,3,4,5,6,7] (⟨by rw [show fq S.O S.us c=.error e by unfold fq;rw [hab]];rfl,rfl⟩)
  exact absurd h23 hne
 have hkd:(obj S.O d).kind=2:=hI.kind hd
 refine jT [0,2,3] [0,3,1,2,4,5,6,7] (.tuple #[vP (L.b d),vI 0]) ((by have h:=fM S L f m t hI c.handle hC.hw c.name hC.nm 64 (β:=β);rw [hab] at h;exact h)) ?_
 refine jQ 5 [6,7] [] ?_
 refine NQ (NX (af.seq (SR ?_)))
 refine jK 2 [23] [] ?_
 refine NN (CF (af.skip (NX (af.seq ?_))))
 have hel:(obj S.O d).ah.length<=8192:=hI.jg hd
 have aas:=hC.nm
 rcases hI.qE hd c.name with hlk|⟨tk,hlk,hlv⟩|⟨tk,hlk,hlv⟩|⟨tk,hlk,hlv⟩
 ·refine af.bF (by kernel_rfl) (by kernel_rfl) ?_
  refine jQ 8 [28,32] [(3,v_ 3 (bS L hkd)),(7,a_ 6 cb)] ?_
  refine uH 5 hkd hlk ?_
  refine jQ 1 [8] [] ?_
  refine NQ (NX (af.seq (SR ?_)))
  refine jK 2 [35] [] ?_
  refine NN (CT (SR (jK 2 [4,5] [] ?_)))
  refine NN (af.ret (ai.aj ?_))
  exact RT (.tuple #[.nilIface,vI 170]) [0,1,2,3,4,5,6,7] (⟨by rw [show fq S.O S.us c=.error 170 by grind [fq]];rfl,rfl⟩)
 ·have hkt:(obj S.O tk).kind=1:=hI.kind hlv
  refine af.bF (by kernel_rfl) (by kernel_rfl) ?_
  refine jQ 8 [28,32] [(3,v_ 3 (bS L hkd)),(7,a_ 6 cb)] ?_
  refine uH 5 hkd hlk ?_
  refine jQ 1 [8] [] ?_
  refine NQ (NX (af.seq (SR ?_)))
  refine jK 2 [35] [] ?_
  refine NN (CF (af.skip (NX (SR (jK 3 [4,5] [] ?_)))))
  refine NN (af.ret ?_)
  exact RT (.tuple #[.iface 87 (vP (L.b tk)),vI 0]) [0,1,2,3,4,5,6,7] (⟨by rw [show fq S.O S.us c=.ok ⟨tk,1⟩ by grind [fq]];rfl,rfl⟩)
 ·have hkt:(obj S.O tk).kind=2:=hI.kind hlv
  refine af.bF (by kernel_rfl) (by kernel_rfl) ?_
  refine jQ 8 [28,32] [(3,v_ 3 (bS L hkd)),(7,a_ 6 cb)] ?_
  refine uH 5 hkd hlk ?_
  refine jQ 1 [8] [] ?_
  refine NQ (NX (af.seq (SR ?_)))
  refine jK 2 [35] [] ?_
  refine NN (CF (af.skip (NX (SR (jK 3 [4,5] [] ?_)))))
  refine NN (af.ret ?_)
  exact RT (.tuple #[.iface 94 (vP (L.b tk)),vI 0]) [0,1,2,3,4,5,6,7] (⟨by rw [show fq S.O S.us c=.ok ⟨tk,2⟩ by grind [fq]];rfl,rfl⟩)
 have hkt:(obj S.O tk).kind=3:=hI.kind hlv
 refine af.bF (by kernel_rfl) (by kernel_rfl) ?_
 refine jQ 8 [28,32] [(3,v_ 3 (bS L hkd)),(7,a_ 6 cb)] ?_
 refine uH 5 hkd hlk ?_
 refine jQ 1 [8] [] ?_
 refine NQ (NX (af.seq (SR ?_)))
 refine jK 2 [35] [] ?_
 refine NN (CF (af.skip (NX (SR (jK 3 [4,5] [] ?_)))))
 refine NN (af.ret ?_)
 exact RT (.tuple #[.iface 91 (vP (L.b tk)),vI 0]) [0,1,2,3,4,5,6,7] (⟨by rw [show fq S.O S.us c=.ok ⟨tk,3⟩ by grind [fq]];rfl,rfl⟩)
theorem O0 {β:Bs} (S:aL) (L:HL) (f m t:Nat) (hI:Inv S) (cb:Nat) (c:aH) (hC:iO β c) :
    Spec Tryz.prog β 82 #[vP f,vP cb] ((pA f m t L S)++[.blk cb (aO c) 53]) (fun v l=>∃ L2,v=vI (iq S c).1/\l=((pA f m t L2 ((iq S c).2.1))++[.blk cb (aO ((iq S c).2.2)) 53])):=by
 have hX:=hI.hX
 refine SE Tryz.func82 Tryz.ntmps82 (fun R=>?_)
 refine SR (jK 1 [] [] ?_)
 refine NN (af.seq ?_)
 rcases hI.aaJ c.other with gn|⟨tk,gn,hlv⟩|⟨tk,gn,hlv⟩|⟨tk,gn,hlv⟩
 ·refine af.bF (by kernel_rfl) (by kernel_rfl) ?_
  refine jQ 8 [10,14] [(3,a_ 0 f),(7,a_ 6 cb)] ?_
  refine aV.iY 1 (d:=(some 15)) (t:=78) (K:=3) (E:=82) (b:=m) (n:=S.idx.length) (f:=(bB (bC L S.idx))) (x:=(.tmp 10)) (ix:=(.tmp 14)) (key:=.int .i64 (c.other)) (z:=.nilIface) (kl:=(.int .i64 c.other)) (r:=none) (fun _=>by kernel_rfl) (by kernel_rfl) (fun _=>by kernel_rfl) (fun _=>by kernel_rfl) gU Tryz.underlying78 (fun _=>by kernel_rfl) (mE hC.ow) (by rw [iZ,gn];rfl) ?_
  refine jQ 1 [5] [] ?_
  refine NQ (NX (af.seq (SR ?_)))
  refine jK 2 [17] [] ?_
  refine NN (CT (SR (jK 1 [4] [] ?_)))
  refine NN (af.ret (ai.aj ?_))
  exact RT _ [0,1,2,3,4,5,6,7] (⟨L,by rw [show (iq S c)=(141,S,c) by unfold iq;rw [gn]]<;>exact⟨rfl,rfl⟩⟩)
 ·have hkt:(obj S.O tk).kind=1:=hI.kind hlv
  refine af.bF (by kernel_rfl) (by kernel_rfl) ?_
  refine jQ 8 [10,14] [(3,a_ 0 f),(7,a_ 6 cb)] ?_
  refine aV.iY 1 (d:=(some 15)) (t:=78) (K:=3) (E:=82) (b:=m) (n:=S.idx.length) (f:=(bB (bC L S.idx))) (x:=(.tmp 10)) (ix:=(.tmp 14)) (key:=.int .i64 (c.other)) (z:=.nilIface) (kl:=(.int .i64 c.other)) (r:=(some (eT L ⟨tk,1⟩))) (fun _=>by kernel_rfl) (by kernel_rfl) (fun _=>by kernel_rfl) (fun _=>by kernel_rfl) gU Tryz.underlying78 (fun _=>by kernel_rfl) (mE hC.ow) (by rw [iZ,gn];rfl) ?_
  refine jQ 1 [5] [] ?_
  refine NQ (NX (af.seq (SR ?_)))
  refine jK 2 [17] [] ?_
  refine NN (CF (af.skip (NX (af.seq (SR (jK 1 [18] [] ?_))))))
  refine gL [] (pG (vP (L.b tk))) ?_
  rintro _ _ ⟨rfl,rfl⟩
  refine jK 1 [20] [] ?_
  refine NN (CT (SR (jK 1 [4] [] ?_)))
  refine NN (af.ret (ai.aj ?_))
  exact RT _ [0,1,2,3,4,5,6,7] (⟨L,by rw [show (iq S c)=(173,S,c) by grind [iq]]<;>exact⟨rfl,rfl⟩⟩)
 ·have hkt:(obj S.O tk).kind=2:=hI.kind hlv
  refine af.bF (by kernel_rfl) (by kernel_rfl) ?_
  refine jQ 8 [10,14] [(3,a_ 0 f),(7,a_ 6 cb)] ?_
  refine aV.iY 1 (d:=(some 15)) (t:=78) (K:=3) (E:=82) (b:=m) (n:=S.idx.length) (f:=(bB (bC L S.idx))) (x:=(.tmp 10)) (ix:=(.tmp 14)) (key:=.int .i64 (c.other)) (z:=.nilIface) (kl:=(.int .i64 c.other)) (r:=(some (eT L ⟨tk,2⟩))) (fun _=>by kernel_rfl) (by kernel_rfl) (fun _=>by kernel_rfl) (fun _=>by kernel_rfl) gU Tryz.underlying78 (fun _=>by kernel_rfl) (mE hC.ow) (by rw [iZ,gn];rfl) ?_
  refine jQ 1 [5] [] ?_
  refine NQ (NX (af.seq (SR ?_)))
  refine jK 2 [17] [] ?_
  refine NN (CF (af.skip (NX (af.seq (SR (jK 1 [18] [] ?_))))))
  refine gL [] (pH (vP (L.b tk))) ?_
  rintro _ _ ⟨rfl,rfl⟩
  refine jK 1 [20] [] ?_
  refine NN (CF (af.skip (NX (SR (jK 1 [] [] ?_)))))
  refine NS (jK 3 [22,23,24] [] ?_)
  refine gL [0,2,3] (wi S L f m t ⟨tk,2⟩ hkt (by simp) (by have:=hI.GR hlv;simp only at this ⊢;omega)) ?_
  rintro _ _ ⟨rfl,rfl⟩
  refine jC 7 [6] [(5,a_ 6 cb)] [(6,[(12,vI ((cr S ⟨tk,2⟩).1))])] ?_
  refine NS (ak.eE [(4,.abs (aF (bX ((cr S ⟨tk,2⟩).2.2.O) L))),(5,.abs (aF (dL ((cr S ⟨tk,2⟩).2.2.O) L)))] (fun w hS=>by rw [Dq,Dr];exact hS) ?_)
  refine jK 2 [4] [] ?_
  refine NN (af.ret ?_)
  exact RT _ [0,3,1,2,4,5,6,7] (⟨L,by rw [show (iq S c)=((cr S ⟨tk,2⟩).2.1,(cr S ⟨tk,2⟩).2.2,{ c with answer:=(cr S ⟨tk,2⟩).1 }) by grind [iq]]<;>exact⟨rfl,rfl⟩⟩)
 have hkt:(obj S.O tk).kind=3:=hI.kind hlv
 refine af.bF (by kernel_rfl) (by kernel_rfl) ?_
 refine jQ 8 [10,14] [(3,a_ 0 f),(7,a_ 6 cb)] ?_
 refine aV.iY 1 (d:=(some 15)) (t:=78) (K:=3) (E:=82) (b:=m) (n:=S.idx.length) (f:=(bB (bC L S.idx))) (x:=(.tmp 10)) (ix:=(.tmp 14)) (key:=.int .i64 (c.other)) (z:=.nilIface) (kl:=(.int .i64 c.other)) (r:=(some (eT L ⟨tk,3⟩))) (fun _=>by kernel_rfl) (by kernel_rfl) (fun _=>by kernel_rfl) (fun _=>by kernel_rfl) gU Tryz.underlying78 (fun _=>by kernel_rfl) (mE hC.ow) (by rw [iZ,gn];rfl) ?_
 refine jQ 1 [5] [] ?_
 refine NQ (NX (af.seq (SR ?_)))
 refine jK 2 [17] [] ?_
 refine NN (CF (af.skip (NX (af.seq (SR (jK 1 [18] [] ?_))))))
 refine gL [] (qN (vP (L.b tk))) ?_
 rintro _ _ ⟨rfl,rfl⟩
 refine jK 1 [20] [] ?_
 refine NN (CT (SR (jK 1 [4] [] ?_)))
 refine NN (af.ret (ai.aj ?_))
 exact RT _ [0,1,2,3,4,5,6,7] (⟨L,by rw [show (iq S c)=(173,S,c) by grind [iq]]<;>exact⟨rfl,rfl⟩⟩)
theorem Ib {β:Bs} (S:aL) (L:HL) (f m t:Nat) (hI:Inv S) (cb:Nat) (c:aH) (hC:iO β c) :
    Spec Tryz.prog β 83 #[vP f,vP cb] ((pA f m t L S)++[.blk cb (aO c) 53]) (fun v l=>∃ L2,v=vI (dG S c).1/\l=((pA f m t L2 ((dG S c).2.1))++[.blk cb (aO ((dG S c).2.2)) 53])):=by
 have hX:=hI.hX
 refine SE Tryz.func83 Tryz.ntmps83 (fun R=>?_)
 refine SR (jK 1 [] [] ?_)
 refine NS (jK 2 [8,9] [] ?_)
 rcases Ek hI.toInv0 c with ⟨e,hnm,hne⟩|⟨tk,hnm,hlv⟩|⟨tk,hnm,hlv⟩|⟨tk,hnm,hlv⟩
 ·refine gL [0,1,2,3,4,5,6] ((by have h:=jI S L f m t hI cb c hC (β:=β);rw [hnm] at h;exact h)) ?_
  rintro _ _ ⟨rfl,rfl⟩
  refine jK 5 [5,6] [] ?_
  refine NN (af.seq (SR (jK 2 [14] [] ?_)))
  refine NN (cN ((e:Int)=(0:Int)) (fun iU=>?_) (fun iU=>?_))
  ·refine SR (jK 2 [4] [] ?_)
   refine NN (af.ret (ai.aj ?_))
   exact RT _ [0,1,2,3,4,5,6,7] (⟨L,by rw [show (dG S c)=(e,S,c) by unfold dG;rw [hnm]]<;>exact⟨rfl,rfl⟩⟩)
  exact absurd iU hne
 ·have hkt:(obj S.O tk).kind=1:=hI.kind hlv
  refine gL [0,1,2,3,4,5,6] ((by have h:=jI S L f m t hI cb c hC (β:=β);rw [hnm] at h;exact h)) ?_
  rintro _ _ ⟨rfl,rfl⟩
  refine jK 5 [5,6] [] ?_
  refine NN (af.seq (SR (jK 2 [14] [] ?_)))
  refine NN (CF (af.skip (NX (af.seq (SR (jK 1 [16] [] ?_))))))
  refine NN (af.block (SR ?_))
  refine jK 3 [18] [] ?_
  refine NN (CF (SR (jK 3 [21] [] ?_)))
  refine NN (CT (SR (jK 1 [4] [] ?_)))
  refine NN (af.ret (ai.au (ai.aj ?_)))
  exact RT _ [0,1,2,3,4,5,6,7] (⟨L,by rw [show (dG S c)=(173,S,c) by grind [dG]]<;>exact⟨rfl,rfl⟩⟩)
 ·have hkt:(obj S.O tk).kind=2:=hI.kind hlv
  refine gL [0,1,2,3,4,5,6] ((by have h:=jI S L f m t hI cb c hC (β:=β);rw [hnm] at h;exact h)) ?_
  rintro _ _ ⟨rfl,rfl⟩
  refine jK 5 [5,6] [] ?_
  refine NN (af.seq (SR (jK 2 [14] [] ?_)))
  refine NN (CF (af.skip (NX (af.seq (SR (jK 1 [16] [] ?_))))))
  refine NN (af.block (SR ?_))
  refine jK 3 [18] [] ?_
  refine NN (CF (SR (jK 3 [21] [] ?_)))
  refine NN (CF (af.skip (ai.aA (NX (SR ?_)))))
  refine jK 3 [24,25,26] [] ?_
  refine gL [0,2,3] (wi S L f m t ⟨tk,2⟩ hkt (by simp) (by have:=hI.GR hlv;simp only at this ⊢;omega)) ?_
  rintro _ _ ⟨rfl,rfl⟩
  refine jC 7 [6] [(5,a_ 6 cb)] [(6,[(12,vI ((cr S ⟨tk,2⟩).1))])] ?_
  refine NS (ak.eE [(4,.abs (aF (bX ((cr S ⟨tk,2⟩).2.2.O) L))),(5,.abs (aF (dL ((cr S ⟨tk,2⟩).2.2.O) L)))] (fun w hS=>by rw [Dq,Dr];exact hS) ?_)
  refine jK 2 [4] [] ?_
  refine NN (af.ret ?_)
  exact RT _ [0,3,1,2,4,5,6,7] (⟨L,by rw [show (dG S c)=((cr S ⟨tk,2⟩).2.1,(cr S ⟨tk,2⟩).2.2,{ c with answer:=(cr S ⟨tk,2⟩).1 }) by grind [dG]]<;>exact⟨rfl,rfl⟩⟩)
 have hkt:(obj S.O tk).kind=3:=hI.kind hlv
 refine gL [0,1,2,3,4,5,6] ((by have h:=jI S L f m t hI cb c hC (β:=β);rw [hnm] at h;exact h)) ?_
 rintro _ _ ⟨rfl,rfl⟩
 refine jK 5 [5,6] [] ?_
 refine NN (af.seq (SR (jK 2 [14] [] ?_)))
 refine NN (CF (af.skip (NX (af.seq (SR (jK 1 [16] [] ?_))))))
 refine NN (af.block (SR ?_))
 refine jK 3 [18] [] ?_
 refine NN (CT (SR (jK 1 [4] [] ?_)))
 refine NN (af.ret (ai.au (ai.aj ?_)))
 exact RT _ [0,1,2,3,4,5,6,7] (⟨L,by rw [show (dG S c)=(174,S,c) by grind [dG]]<;>exact⟨rfl,rfl⟩⟩)
theorem Gg {β:Bs} (S:aL) (L:HL) (f m t:Nat) (hI:Inv S) (cb:Nat) (c:aH) (hC:iO β c) :
    Spec Tryz.prog β 84 #[vP f,vP cb] ((pA f m t L S)++[.blk cb (aO c) 53]) (fun v l=>∃ L2,v=vI (dg S c).1/\l=((pA f m t L2 ((dg S c).2.1))++[.blk cb (aO ((dg S c).2.2)) 53])):=by
 have hX:=hI.hX
 refine SE Tryz.func84 Tryz.ntmps84 (fun R=>?_)
 refine SR (jK 1 [] [] ?_)
 refine NS (jK 2 [8,9] [] ?_)
 rcases Ek hI.toInv0 c with ⟨e,hnm,hne⟩|⟨tk,hnm,hlv⟩|⟨tk,hnm,hlv⟩|⟨tk,hnm,hlv⟩
 ·refine gL [0,1,2,3,4,5,6] ((by have h:=jI S L f m t hI cb c hC (β:=β);rw [hnm] at h;exact h)) ?_
  rintro _ _ ⟨rfl,rfl⟩
  refine jK 5 [5,6] [] ?_
  refine NN (af.seq (SR (jK 2 [14] [] ?_)))
  refine NN (cN ((e:Int)=(0:Int)) (fun iU=>?_) (fun iU=>?_))
  ·refine SR (jK 2 [4] [] ?_)
   refine NN (af.ret (ai.aj ?_))
   exact RT _ [0,1,2,3,4,5,6,7] (⟨L,by rw [show (dg S c)=(e,S,c) by unfold dg;rw [hnm]]<;>exact⟨rfl,rfl⟩⟩)
  exact absurd iU hne
 ·have hkt:(obj S.O tk).kind=1:=hI.kind hlv
  refine gL [0,1,2,3,4,5,6] ((by have h:=jI S L f m t hI cb c hC (β:=β);rw [hnm] at h;exact h)) ?_
  rintro _ _ ⟨rfl,rfl⟩
  refine jK 5 [5,6] [] ?_
  refine NN (af.seq (SR (jK 2 [14] [] ?_)))
  refine NN (CF (af.skip (NX (af.seq (SR (jK 1 [16] [] ?_))))))
  refine NN (af.block (SR ?_))
  refine jK 3 [18] [] ?_
  refine NN (CF (SR (jK 3 [21] [] ?_)))
  refine NN (CF (af.skip (ai.aA (NX (SR ?_)))))
  refine jK 3 [24,25,26] [] ?_
  refine gL [0,2,3] (wi S L f m t ⟨tk,1⟩ hkt (by simp) (by have:=hI.GR hlv;simp only at this ⊢;omega)) ?_
  rintro _ _ ⟨rfl,rfl⟩
  refine jC 7 [6] [(5,a_ 6 cb)] [(6,[(12,vI ((cr S ⟨tk,1⟩).1))])] ?_
  refine NS (ak.eE [(4,.abs (aF (bX ((cr S ⟨tk,1⟩).2.2.O) L))),(5,.abs (aF (dL ((cr S ⟨tk,1⟩).2.2.O) L)))] (fun w hS=>by rw [Dq,Dr];exact hS) ?_)
  refine jK 2 [4] [] ?_
  refine NN (af.ret ?_)
  exact RT _ [0,3,1,2,4,5,6,7] (⟨L,by rw [show (dg S c)=((cr S ⟨tk,1⟩).2.1,(cr S ⟨tk,1⟩).2.2,{ c with answer:=(cr S ⟨tk,1⟩).1 }) by grind [dg]]<;>exact⟨rfl,rfl⟩⟩)
 ·have hkt:(obj S.O tk).kind=2:=hI.kind hlv
  refine gL [0,1,2,3,4,5,6] ((by have h:=jI S L f m t hI cb c hC (β:=β);rw [hnm] at h;exact h)) ?_
  rintro _ _ ⟨rfl,rfl⟩
  refine jK 5 [5,6] [] ?_
  refine NN (af.seq (SR (jK 2 [14] [] ?_)))
  refine NN (CF (af.skip (NX (af.seq (SR (jK 1 [16] [] ?_))))))
  refine NN (af.block (SR ?_))
  refine jK 3 [18] [] ?_
  refine NN (CF (SR (jK 3 [21] [] ?_)))
  refine NN (CT (SR (jK 1 [4] [] ?_)))
  refine NN (af.ret (ai.au (ai.aj ?_)))
  exact RT _ [0,1,2,3,4,5,6,7] (⟨L,by rw [show (dg S c)=(172,S,c) by grind [dg]]<;>exact⟨rfl,rfl⟩⟩)
 have hkt:(obj S.O tk).kind=3:=hI.kind hlv
 refine gL [0,1,2,3,4,5,6] ((by have h:=jI S L f m t hI cb c hC (β:=β);rw [hnm] at h;exact h)) ?_
 rintro _ _ ⟨rfl,rfl⟩
 refine jK 5 [5,6] [] ?_
 refine NN (af.seq (SR (jK 2 [14] [] ?_)))
 refine NN (CF (af.skip (NX (af.seq (SR (jK 1 [16] [] ?_))))))
 refine NN (af.block (SR ?_))
 refine jK 3 [18] [] ?_
 refine NN (CT (SR (jK 1 [4] [] ?_)))
 refine NN (af.ret (ai.au (ai.aj ?_)))
 exact RT _ [0,1,2,3,4,5,6,7] (⟨L,by rw [show (dg S c)=(174,S,c) by grind [dg]]<;>exact⟨rfl,rfl⟩⟩)
theorem L7 {β:Bs} (S:aL) (L:HL) (f m t:Nat) (hI:Inv S) (cb:Nat) (c:aH) (hC:iO β c) :
    Spec Tryz.prog β 85 #[vP f,vP cb] ((pA f m t L S)++[.blk cb (aO c) 53]) (fun v l=>∃ L2,v=vI (eZ S c).1/\l=((pA f m t L2 ((eZ S c).2.1))++[.blk cb (aO ((eZ S c).2.2)) 53])):=by
 have hX:=hI.hX
 refine SE Tryz.func85 Tryz.ntmps85 (fun R=>?_)
 refine SR (jK 1 [] [] ?_)
 refine NN (af.seq (af.bF (by kernel_rfl) (by kernel_rfl) ?_))
 refine jQ 9 [8,12,16] [(4,a_ 6 cb),(8,a_ 6 cb)] ?_
 rcases iu hI.toInv0 c.handle c.name 192 with ⟨e,hab,hne⟩|⟨d,hab,hd,mM,j4,ez⟩
 ·refine jT [0,2,3] [0,3,1,2,4,5,6,7] (.tuple #[.pointer none,vI (e)]) ((by have h:=fM S L f m t hI c.handle hC.hw c.name hC.nm 192 (β:=β);rw [hab] at h;exact h)) ?_
  refine jQ 5 [5,6] [] ?_
  refine NQ (NX (af.seq (SR ?_)))
  refine jK 2 [21] [] ?_
  refine NN (cN ((e:Int)=(0:Int)) (fun oy=>?_) (fun oy=>?_))
  ·refine SR (jK 2 [4] [] ?_)
   refine NN (af.ret (ai.aj ?_))
   exact RT _ [0,1,2,3,4,5,6,7] (⟨L,by rw [show (eZ S c)=(e,S,c) by unfold eZ;rw [hab]]<;>exact⟨rfl,rfl⟩⟩)
  exact absurd oy hne
 have hkd:(obj S.O d).kind=2:=hI.kind hd
 refine jT [0,2,3] [0,3,1,2,4,5,6,7] (.tuple #[vP (L.b d),vI 0]) ((by have h:=fM S L f m t hI c.handle hC.hw c.name hC.nm 192 (β:=β);rw [hab] at h;exact h)) ?_
 refine jQ 5 [5,6] [] ?_
 refine NQ (NX (af.seq (SR ?_)))
 refine jK 2 [21] [] ?_
 refine NN (CF (af.skip (NX (af.seq (SR (jK 4 [26] [(3,a_ 6 cb)] ?_))))))
 refine gL [] (iw (c.mode) 4095) ?_
 rintro _ _ ⟨rfl,rfl⟩
 refine jK 1 [28] [] ?_
 refine NN (cN (0<=c.mode/\c.mode<=4095) (fun uz=>?_) (fun uz=>?_))
 ·refine SR (jK 1 [4] [] ?_)
  refine NN (af.ret (ai.aj ?_))
  exact RT _ [0,1,2,3,4,5,6,7] (⟨L,by rw [show (eZ S c)=(120,S,c) by unfold eZ;rw [hab];exact if_neg uz]<;>exact⟨rfl,rfl⟩⟩)
 refine af.skip (NX (af.seq (rM (List.range 12) 10 [6] ?_)))
 refine jR 10 [29,30,34,38] [(5,a_ 0 cb),(9,a_ 0 cb)] ?_
 refine mL [6] [0,1,2,3,4,5] (R6 S L f m t hI d hd c.name hC.nm c.mode) ?_ (by rintro _ _ ⟨L2,rfl,rfl⟩;rfl)
 rintro _ _ ⟨L2,rfl,rfl⟩
 refine aY.last rfl rfl ?_
 refine jK 1 [4] [] ?_
 refine NL (ai.np (NX (af.ret ?_)))
 exact RT _ [0,1,2,3,4,5,6,7] (⟨L2,by rw [show (eZ S c)=((kx S d c.name c.mode).1,(kx S d c.name c.mode).2,c) by unfold eZ;rw [hab];exact if_pos uz]<;>exact⟨rfl,rfl⟩⟩)
theorem Ic {β:Bs} (S:aL) (L:HL) (f m t:Nat) (hI:Inv S) (cb:Nat) (c:aH) (hC:iO β c) :
    Spec Tryz.prog β 87 #[vP f,vP cb] ((pA f m t L S)++[.blk cb (aO c) 53]) (fun v l=>∃ L2,v=vI (dZ S c).1/\l=((pA f m t L2 ((dZ S c).2.1))++[.blk cb (aO ((dZ S c).2.2)) 53])):=by
 have hX:=hI.hX
 refine SE Tryz.func87 Tryz.ntmps87 (fun R=>?_)
 refine SR (jK 1 [] [] ?_)
 refine NN (af.seq (af.bF (by kernel_rfl) (by kernel_rfl) ?_))
 refine jQ 9 [8,12,16] [(4,a_ 6 cb),(8,a_ 6 cb)] ?_
 rcases iu hI.toInv0 c.handle c.name 192 with ⟨e,hab,hne⟩|⟨d,hab,hd,mM,j4,ez⟩
 ·refine jT [0,2,3] [0,3,1,2,4,5,6,7] (.tuple #[.pointer none,vI (e)]) ((by have h:=fM S L f m t hI c.handle hC.hw c.name hC.nm 192 (β:=β);rw [hab] at h;exact h)) ?_
  refine jQ 5 [5,6] [] ?_
  refine NQ (NX (af.seq (SR ?_)))
  refine jK 2 [21] [] ?_
  refine NN (cN ((e:Int)=(0:Int)) (fun oy=>?_) (fun oy=>?_))
  ·refine SR (jK 2 [4] [] ?_)
   refine NN (af.ret (ai.aj ?_))
   exact RT _ [0,1,2,3,4,5,6,7] (⟨L,by rw [show (dZ S c)=(e,S,c) by unfold dZ;rw [hab]]<;>exact⟨rfl,rfl⟩⟩)
  exact absurd oy hne
 have hkd:(obj S.O d).kind=2:=hI.kind hd
 refine jT [0,2,3] [0,3,1,2,4,5,6,7] (.tuple #[vP (L.b d),vI 0]) ((by have h:=fM S L f m t hI c.handle hC.hw c.name hC.nm 192 (β:=β);rw [hab] at h;exact h)) ?_
 refine jQ 5 [5,6] [] ?_
 refine NQ (NX (af.seq (SR ?_)))
 refine jK 2 [21] [] ?_
 refine NN (CF (af.skip (NX (af.seq (rM (List.range 12) 10 [6] ?_)))))
 refine jR 10 [23,24,28,32] [(5,a_ 0 cb),(9,a_ 0 cb)] ?_
 refine mL [6] [0,1,2,3,4,5] (L6 S L f m t hI d hd c.name hC.nm c.text hC.tx) ?_ (by rintro _ _ ⟨L2,rfl,rfl⟩;rfl)
 rintro _ _ ⟨L2,rfl,rfl⟩
 refine aY.last rfl rfl ?_
 refine jK 1 [4] [] ?_
 refine NL (ai.np (NX (af.ret ?_)))
 exact RT _ [0,1,2,3,4,5,6,7] (⟨L2,by rw [show (dZ S c)=((ia S d c.name c.text).1,(ia S d c.name c.text).2,c) by unfold dZ;rw [hab]]<;>exact⟨rfl,rfl⟩⟩)
theorem Lb {β:Bs} (S:aL) (L:HL) (f m t:Nat) (hI:Inv S) (cb:Nat) (c:aH) (hC:iO β c) :
    Spec Tryz.prog β 89 #[vP f,vP cb] ((pA f m t L S)++[.blk cb (aO c) 53]) (fun v l=>∃ L2,v=vI (fI S c).1/\l=((pA f m t L2 ((fI S c).2.1))++[.blk cb (aO ((fI S c).2.2)) 53])):=by
 have hX:=hI.hX
 refine SE Tryz.func89 Tryz.ntmps89 (fun R=>?_)
 refine SR (jK 1 [] [] ?_)
 refine NN (af.seq (af.bF (by kernel_rfl) (by kernel_rfl) ?_))
 refine jQ 9 [8,12,16] [(4,a_ 6 cb),(8,a_ 6 cb)] ?_
 rcases iu hI.toInv0 c.handle c.name 192 with ⟨e,hab,hne⟩|⟨d,hab,hd,mM,j4,ez⟩
 ·refine jT [0,2,3] [0,3,1,2,4,5,6,7] (.tuple #[.pointer none,vI (e)]) ((by have h:=fM S L f m t hI c.handle hC.hw c.name hC.nm 192 (β:=β);rw [hab] at h;exact h)) ?_
  refine jQ 5 [5,6] [] ?_
  refine NQ (NX (af.seq (SR ?_)))
  refine jK 2 [21] [] ?_
  refine NN (cN ((e:Int)=(0:Int)) (fun oy=>?_) (fun oy=>?_))
  ·refine SR (jK 2 [4] [] ?_)
   refine NN (af.ret (ai.aj ?_))
   exact RT _ [0,1,2,3,4,5,6,7] (⟨L,by rw [show (fI S c)=(e,S,c) by unfold fI;rw [hab]]<;>exact⟨rfl,rfl⟩⟩)
  exact absurd oy hne
 have hkd:(obj S.O d).kind=2:=hI.kind hd
 refine jT [0,2,3] [0,3,1,2,4,5,6,7] (.tuple #[vP (L.b d),vI 0]) ((by have h:=fM S L f m t hI c.handle hC.hw c.name hC.nm 192 (β:=β);rw [hab] at h;exact h)) ?_
 refine jQ 5 [5,6] [] ?_
 refine NQ (NX (af.seq (SR ?_)))
 refine jK 2 [21] [] ?_
 refine NN (CF (af.skip (NX (SR (jK 6 [23,24,28] [(5,a_ 6 cb)] ?_)))))
 refine gL [0,1,2,3,4,5] (OY S L f m t hI d hd c.name hC.nm) ?_
 rintro _ _ ⟨L2,rfl,rfl⟩
 refine jK 1 [4] [] ?_
 refine NN (af.ret ?_)
 exact RT _ [0,1,2,3,4,5,6,7] (⟨L2,by rw [show (fI S c)=((fH S d c.name).1,(fH S d c.name).2,c) by unfold fI;rw [hab]]<;>exact⟨rfl,rfl⟩⟩)
theorem L8 {β:Bs} (S:aL) (L:HL) (f m t:Nat) (hI:Inv S) (cb:Nat) (c:aH) (hC:iO β c) :
    Spec Tryz.prog β 95 #[vP f,vP cb] ((pA f m t L S)++[.blk cb (aO c) 53]) (fun v l=>∃ L2,v=vI (gD S c).1/\l=((pA f m t L2 ((gD S c).2.1))++[.blk cb (aO ((gD S c).2.2)) 53])):=by
 have hX:=hI.hX
 refine SE Tryz.func95 Tryz.ntmps95 (fun R=>?_)
 refine SR (jK 1 [] [] ?_)
 refine NN (af.seq (af.bF (by kernel_rfl) (by kernel_rfl) ?_))
 refine jQ 9 [8,12,16] [(4,a_ 6 cb),(8,a_ 6 cb)] ?_
 rcases iu hI.toInv0 c.handle c.name 192 with ⟨e,hab,hne⟩|⟨d,hab,hd,mM,j4,ez⟩
 ·refine jT [0,2,3] [0,3,1,2,4,5,6,7] (.tuple #[.pointer none,vI (e)]) ((by have h:=fM S L f m t hI c.handle hC.hw c.name hC.nm 192 (β:=β);rw [hab] at h;exact h)) ?_
  refine jQ 5 [5,6] [] ?_
  refine NQ (NX (af.seq (SR ?_)))
  refine jK 2 [21] [] ?_
  refine NN (cN ((e:Int)=(0:Int)) (fun oy=>?_) (fun oy=>?_))
  ·refine SR (jK 2 [4] [] ?_)
   refine NN (af.ret (ai.aj ?_))
   exact RT _ [0,1,2,3,4,5,6,7] (⟨L,by rw [show (gD S c)=(e,S,c) by unfold gD;rw [hab]]<;>exact⟨rfl,rfl⟩⟩)
  exact absurd oy hne
 have hkd:(obj S.O d).kind=2:=hI.kind hd
 refine jT [0,2,3] [0,3,1,2,4,5,6,7] (.tuple #[vP (L.b d),vI 0]) ((by have h:=fM S L f m t hI c.handle hC.hw c.name hC.nm 192 (β:=β);rw [hab] at h;exact h)) ?_
 refine jQ 5 [5,6] [] ?_
 refine NQ (NX (af.seq (SR ?_)))
 refine jK 2 [21] [] ?_
 refine NN (CF (af.skip (NX (SR (jK 6 [23,24,28] [(5,a_ 6 cb)] ?_)))))
 refine gL [0,1,2,3,4,5] (R7 S L f m t hI d hd c.name hC.nm) ?_
 rintro _ _ ⟨L2,rfl,rfl⟩
 refine jK 1 [4] [] ?_
 refine NN (af.ret ?_)
 exact RT _ [0,1,2,3,4,5,6,7] (⟨L2,by rw [show (gD S c)=((fX S d c.name).1,(fX S d c.name).2,c) by unfold gD;rw [hab]]<;>exact⟨rfl,rfl⟩⟩)
theorem Lc {β:Bs} (S:aL) (L:HL) (f m t:Nat) (hI:Inv S) (cb:Nat) (c:aH) (hC:iO β c) :
    Spec Tryz.prog β 96 #[vP f,vP cb] ((pA f m t L S)++[.blk cb (aO c) 53]) (fun v l=>∃ L2,v=vI (eO S c).1/\l=((pA f m t L2 ((eO S c).2.1))++[.blk cb (aO ((eO S c).2.2)) 53])):=by
 have hX:=hI.hX
 refine SE Tryz.func96 Tryz.ntmps96 (fun R=>?_)
 refine SR (jK 1 [] [] ?_)
 refine NN (af.seq (af.bF (by kernel_rfl) (by kernel_rfl) ?_))
 refine jQ 9 [9,13,17] [(4,a_ 6 cb),(8,a_ 6 cb)] ?_
 rcases iu hI.toInv0 c.handle c.name 192 with ⟨e,hab,hne⟩|⟨d,hab,hd,mM,j4,ez⟩
 ·refine jT [0,2,3] [0,3,1,2,4,5,6,7] (.tuple #[.pointer none,vI (e)]) ((by have h:=fM S L f m t hI c.handle hC.hw c.name hC.nm 192 (β:=β);rw [hab] at h;exact h)) ?_
  refine jQ 5 [5,6] [] ?_
  refine NQ (NX (af.seq (SR ?_)))
  refine jK 2 [22] [] ?_
  refine NN (cN ((e:Int)=(0:Int)) (fun Ac=>?_) (fun Ac=>?_))
  ·refine SR (jK 2 [4] [] ?_)
   refine NN (af.ret (ai.aj ?_))
   exact RT _ [0,1,2,3,4,5,6,7] (⟨L,by rw [show (eO S c)=(e,S,c) by unfold eO;rw [hab]]<;>exact⟨rfl,rfl⟩⟩)
  exact absurd Ac hne
 have hkd:(obj S.O d).kind=2:=hI.kind hd
 refine jT [0,2,3] [0,3,1,2,4,5,6,7] (.tuple #[vP (L.b d),vI 0]) ((by have h:=fM S L f m t hI c.handle hC.hw c.name hC.nm 192 (β:=β);rw [hab] at h;exact h)) ?_
 refine jQ 5 [5,6] [] ?_
 refine NQ (NX (af.seq (SR ?_)))
 refine jK 2 [22] [] ?_
 refine NN (CF (af.skip (NX (af.seq (af.bF (by kernel_rfl) (by kernel_rfl) ?_)))))
 refine jQ 9 [25,29,33] [(4,a_ 6 cb),(8,a_ 6 cb)] ?_
 rcases iu hI.toInv0 c.other c.text 192 with ⟨e2,DL,UG⟩|⟨to,DL,hd2,abv,abw,abx⟩
 ·refine jT [0,2,3] [0,3,1,2,4,5,6,7] (.tuple #[.pointer none,vI (e2)]) ((by have h:=fM S L f m t hI c.other hC.ow c.text hC.tx 192 (β:=β);rw [DL] at h;exact h)) ?_
  refine jQ 5 [6,7] [] ?_
  refine NQ (NX (af.seq (SR ?_)))
  refine jK 2 [38] [] ?_
  refine NN (cN ((e2:Int)=(0:Int)) (fun Ad=>?_) (fun Ad=>?_))
  ·refine SR (jK 2 [4] [] ?_)
   refine NN (af.ret (ai.aj ?_))
   exact RT _ [0,1,2,3,4,5,6,7] (⟨L,by rw [show (eO S c)=(e2,S,c) by grind [eO]]<;>exact⟨rfl,rfl⟩⟩)
  exact absurd Ad UG
 have fU:(obj S.O to).kind=2:=hI.kind hd2
 refine jT [0,2,3] [0,3,1,2,4,5,6,7] (.tuple #[vP (L.b to),vI 0]) ((by have h:=fM S L f m t hI c.other hC.ow c.text hC.tx 192 (β:=β);rw [DL] at h;exact h)) ?_
 refine jQ 5 [6,7] [] ?_
 refine NQ (NX (af.seq (SR ?_)))
 refine jK 2 [38] [] ?_
 refine NN (CF (af.skip (NX (af.seq (rM (List.range 13) 11 [6] ?_)))))
 refine jR 11 [40,41,45,46,50] [(5,a_ 0 cb),(10,a_ 0 cb)] ?_
 refine mL [6] [0,1,2,3,4,5] (OZ S L f m t hI d hd c.name hC.nm to hd2 c.text hC.tx) ?_ (by rintro _ _ ⟨L2,rfl,rfl⟩;rfl)
 rintro _ _ ⟨L2,rfl,rfl⟩
 refine aY.last rfl rfl ?_
 refine jK 1 [4] [] ?_
 refine NL (ai.np (NX (af.ret ?_)))
 exact RT _ [0,1,2,3,4,5,6,7] (⟨L2,by rw [show (eO S c)=((bG S d c.name to c.text).1,(bG S d c.name to c.text).2,c) by grind [eO]]<;>exact⟨rfl,rfl⟩⟩)
end
section
open Go.RowKit Go.Maps aX aq
attribute [local irreducible] ak aV af ai dH aY
abbrev V3:=([(2,vI 0),(6,vI 0),(7,vI 0),(8,vI 0),(9,vI 0),(10,vI 0)]:Fr)
abbrev Zk (S:aL) (tk:Nat):=([(9,vI ((obj S.O tk).sec)),(10,vI ((obj S.O tk).nano))]:Fr)
theorem O3 {β:Bs} (S:aL) (L:HL) (f m t:Nat) (hI:Inv S) (cb:Nat) (c:aH) (hC:iO β c) :
    Spec Tryz.prog β 88 #[vP f,vP cb] ((pA f m t L S)++[.blk cb (aO c) 53]) (fun v l=>∃ L2,v=vI (bT S c).1/\l=((pA f m t L2 ((bT S c).2.1))++[.blk cb (aO ((bT S c).2.2)) 53])):=by
 have hX:=hI.hX
 refine SE Tryz.func88 Tryz.ntmps88 (fun R=>?_)
 refine SR (jK 1 [] [] ?_)
 refine NN (af.seq (af.bF (by kernel_rfl) (by kernel_rfl) ?_))
 refine jQ 9 [10,14,18] [(4,a_ 6 cb),(8,a_ 6 cb)] ?_
 rcases iu hI.toInv0 c.handle c.name 64 with ⟨e,hab,hne⟩|⟨d,hab,hd,mM,j4,ez⟩
 ·refine jT [0,2,3] [0,3,1,2,4,5,6,7] (.tuple #[.pointer none,vI (e)]) ((by have h:=fM S L f m t hI c.handle hC.hw c.name hC.nm 64 (β:=β);rw [hab] at h;exact h)) ?_
  refine jQ 5 [5,6] [] ?_
  refine NQ (NX (af.seq (SR ?_)))
  refine jK 2 [23] [] ?_
  refine NN (cN ((e:Int)=(0:Int)) (fun h23=>?_) (fun h23=>?_))
  ·refine SR (jK 2 [4] [] ?_)
   refine NN (af.ret (ai.aj ?_))
   exact RT _ [0,1,2,3,4,5,6,7] (⟨L,by rw [show (bT S c)=(e,S,c) by unfold bT;rw [hab]]<;>exact⟨rfl,rfl⟩⟩)
  exact absurd h23 hne
 have hkd:(obj S.O d).kind=2:=hI.kind hd
 refine jT [0,2,3] [0,3,1,2,4,5,6,7] (.tuple #[vP (L.b d),vI 0]) ((by have h:=fM S L f m t hI c.handle hC.hw c.name hC.nm 64 (β:=β);rw [hab] at h;exact h)) ?_
 refine jQ 5 [5,6] [] ?_
 refine NQ (NX (af.seq (SR ?_)))
 refine jK 2 [23] [] ?_
 refine NN (CF (af.skip (NX (af.seq (af.bF (by kernel_rfl) (by kernel_rfl) ?_)))))
 refine jQ 9 [26,30,34] [(4,a_ 6 cb),(8,a_ 6 cb)] ?_
 rcases iu hI.toInv0 c.other c.text 192 with ⟨e2,DL,UG⟩|⟨to,DL,hd2,abv,abw,abx⟩
 ·refine jT [0,2,3] [0,3,1,2,4,5,6,7] (.tuple #[.pointer none,vI (e2)]) ((by have h:=fM S L f m t hI c.other hC.ow c.text hC.tx 192 (β:=β);rw [DL] at h;exact h)) ?_
  refine jQ 5 [6,7] [] ?_
  refine NQ (NX (af.seq (SR ?_)))
  refine jK 2 [39] [] ?_
  refine NN (cN ((e2:Int)=(0:Int)) (fun qU=>?_) (fun qU=>?_))
  ·refine SR (jK 2 [4] [] ?_)
   refine NN (af.ret (ai.aj ?_))
   exact RT _ [0,1,2,3,4,5,6,7] (⟨L,by rw [show (bT S c)=(e2,S,c) by grind [bT]]<;>exact⟨rfl,rfl⟩⟩)
  exact absurd qU UG
 have fU:(obj S.O to).kind=2:=hI.kind hd2
 refine jT [0,2,3] [0,3,1,2,4,5,6,7] (.tuple #[vP (L.b to),vI 0]) ((by have h:=fM S L f m t hI c.other hC.ow c.text hC.tx 192 (β:=β);rw [DL] at h;exact h)) ?_
 refine jQ 5 [6,7] [] ?_
 refine NQ (NX (af.seq (SR ?_)))
 refine jK 2 [39] [] ?_
 refine NN (CF (af.skip (NX (af.seq ?_))))
 have hel:(obj S.O d).ah.length<=8192:=hI.jg hd
 have aas:=hC.nm
 rcases hI.qE hd c.name with hlk|⟨tk,hlk,hlv⟩|⟨tk,hlk,hlv⟩|⟨tk,hlk,hlv⟩
 ·refine af.bF (by kernel_rfl) (by kernel_rfl) ?_
  refine jQ 8 [44,48] [(3,v_ 3 (bS L hkd)),(7,a_ 6 cb)] ?_
  refine uH 5 hkd hlk ?_
  refine jQ 1 [8] [] ?_
  refine NQ (NX (af.seq (af.block (SR ?_))))
  refine jK 3 [50] [] ?_
  refine NN (CT (SR (jK 1 [4] [] ?_)))
  refine NN (af.ret (ai.au (ai.aj ?_)))
  exact RT _ [0,1,2,3,4,5,6,7] (⟨L,by rw [show (bT S c)=(170,S,c) by grind [bT,jP]]<;>exact⟨rfl,rfl⟩⟩)
 ·have hkt:(obj S.O tk).kind=1:=hI.kind hlv
  refine af.bF (by kernel_rfl) (by kernel_rfl) ?_
  refine jQ 8 [44,48] [(3,v_ 3 (bS L hkd)),(7,a_ 6 cb)] ?_
  refine uH 5 hkd hlk ?_
  refine jQ 1 [8] [] ?_
  refine NQ (NX (af.seq (af.block (SR ?_))))
  refine jK 3 [50] [] ?_
  refine NN (CF (SR (jK 1 [54] [] ?_)))
  refine gL [] (pG (vP (L.b tk))) ?_
  rintro _ _ ⟨rfl,rfl⟩
  refine jK 2 [53] [] ?_
  refine NN (CF (af.seq ?_))
  have DM:(obj S.O to).ah.length<=8192:=hI.jg hd2
  have Zl:=hC.tx
  rcases hI.qE hd2 c.text with cU|⟨ok,cU,ig⟩|⟨ok,cU,ig⟩|⟨ok,cU,ig⟩
  ·refine af.bF (by kernel_rfl) (by kernel_rfl) ?_
   refine jQ 8 [61,65] [(3,v_ 3 (bS L fU)),(7,a_ 6 cb)] ?_
   refine uH 5 fU cU ?_
   refine jQ 2 [57] [] ?_
   refine NQ (NX ?_)
   refine CF (SR (jK 1 [69] [] ?_))
   refine gL [0] (xH S.X f m t) ?_
   rintro _ _ ⟨rfl,rfl⟩
   refine jK 2 [68] [] ?_
   refine NN (cN (S.X.ah < 8192) (fun h68=>?_) (fun h68=>?_))
   ·refine SR (jK 1 [4] [] ?_)
    refine NN (af.ret (ai.au (ai.aj ?_)))
    exact RT _ [0,1,2,3,4,5,6,7] (⟨L,by rw [show (bT S c)=(177,S,c) by grind [bT,jP]]<;>exact⟨rfl,rfl⟩⟩)
   refine af.skip (ai.aA (NX (SR ?_)))
   refine jK 7 [72,73,77,78] [(5,a_ 6 cb)] ?_
   refine gL [0,3,5] (jH S.X f m t hX S.O L to fU c.text hC.tx cU (by omega) ⟨tk,1⟩ hkt (by simp) (by have:=hI.lb hlv;simp only at this ⊢;omega)) ?_
   rintro _ _ ⟨rfl,rfl⟩
   refine NS (ak.eE [(5,.abs (aF (bX (br S.X S.O to c.text ⟨tk,1⟩) L)))] (fun w hS=>by rw [show bX (br S.X S.O to c.text ⟨tk,1⟩) L=bX S.O L from jF];exact hS) ?_)
   refine jK 1 [4] [] ?_
   refine NN (af.ret ?_)
   exact RT _ [0,3,4,1,5,2,6,7] (⟨L,by rw [show (bT S c)=(0,{ S with X:={ S.X with ah:=S.X.ah+1 },O:=br S.X S.O to c.text ⟨tk,1⟩ },c) by grind [bT,jP,br]]<;>exact⟨rfl,rfl⟩⟩)
  ·have pK:(obj S.O ok).kind=1:=hI.kind ig
   refine af.bF (by kernel_rfl) (by kernel_rfl) ?_
   refine jQ 8 [61,65] [(3,v_ 3 (bS L fU)),(7,a_ 6 cb)] ?_
   refine uH 5 fU cU ?_
   refine jQ 2 [57] [] ?_
   refine NQ (NX ?_)
   refine CT (SR (jK 1 [4] [] ?_))
   refine NN (af.ret (ai.au (ai.aj ?_)))
   exact RT _ [0,1,2,3,4,5,6,7] (⟨L,by rw [show (bT S c)=(171,S,c) by grind [bT,jP]]<;>exact⟨rfl,rfl⟩⟩)
  ·have pK:(obj S.O ok).kind=2:=hI.kind ig
   refine af.bF (by kernel_rfl) (by kernel_rfl) ?_
   refine jQ 8 [61,65] [(3,v_ 3 (bS L fU)),(7,a_ 6 cb)] ?_
   refine uH 5 fU cU ?_
   refine jQ 2 [57] [] ?_
   refine NQ (NX ?_)
   refine CT (SR (jK 1 [4] [] ?_))
   refine NN (af.ret (ai.au (ai.aj ?_)))
   exact RT _ [0,1,2,3,4,5,6,7] (⟨L,by rw [show (bT S c)=(171,S,c) by grind [bT,jP]]<;>exact⟨rfl,rfl⟩⟩)
  have pK:(obj S.O ok).kind=3:=hI.kind ig
  refine af.bF (by kernel_rfl) (by kernel_rfl) ?_
  refine jQ 8 [61,65] [(3,v_ 3 (bS L fU)),(7,a_ 6 cb)] ?_
  refine uH 5 fU cU ?_
  refine jQ 2 [57] [] ?_
  refine NQ (NX ?_)
  refine CT (SR (jK 1 [4] [] ?_))
  refine NN (af.ret (ai.au (ai.aj ?_)))
  exact RT _ [0,1,2,3,4,5,6,7] (⟨L,by rw [show (bT S c)=(171,S,c) by grind [bT,jP]]<;>exact⟨rfl,rfl⟩⟩)
 ·have hkt:(obj S.O tk).kind=2:=hI.kind hlv
  refine af.bF (by kernel_rfl) (by kernel_rfl) ?_
  refine jQ 8 [44,48] [(3,v_ 3 (bS L hkd)),(7,a_ 6 cb)] ?_
  refine uH 5 hkd hlk ?_
  refine jQ 1 [8] [] ?_
  refine NQ (NX (af.seq (af.block (SR ?_))))
  refine jK 3 [50] [] ?_
  refine NN (CF (SR (jK 1 [54] [] ?_)))
  refine gL [] (pH (vP (L.b tk))) ?_
  rintro _ _ ⟨rfl,rfl⟩
  refine jK 2 [53] [] ?_
  refine NN (CT (SR (jK 1 [4] [] ?_)))
  refine NN (af.ret (ai.au (ai.aj ?_)))
  exact RT _ [0,1,2,3,4,5,6,7] (⟨L,by rw [show (bT S c)=(172,S,c) by grind [bT,jP]]<;>exact⟨rfl,rfl⟩⟩)
 have hkt:(obj S.O tk).kind=3:=hI.kind hlv
 refine af.bF (by kernel_rfl) (by kernel_rfl) ?_
 refine jQ 8 [44,48] [(3,v_ 3 (bS L hkd)),(7,a_ 6 cb)] ?_
 refine uH 5 hkd hlk ?_
 refine jQ 1 [8] [] ?_
 refine NQ (NX (af.seq (af.block (SR ?_))))
 refine jK 3 [50] [] ?_
 refine NN (CF (SR (jK 1 [54] [] ?_)))
 refine gL [] (qN (vP (L.b tk))) ?_
 rintro _ _ ⟨rfl,rfl⟩
 refine jK 2 [53] [] ?_
 refine NN (CF (af.seq ?_))
 have DM:(obj S.O to).ah.length<=8192:=hI.jg hd2
 have Zl:=hC.tx
 rcases hI.qE hd2 c.text with cU|⟨ok,cU,ig⟩|⟨ok,cU,ig⟩|⟨ok,cU,ig⟩
 ·refine af.bF (by kernel_rfl) (by kernel_rfl) ?_
  refine jQ 8 [61,65] [(3,v_ 3 (bS L fU)),(7,a_ 6 cb)] ?_
  refine uH 5 fU cU ?_
  refine jQ 2 [57] [] ?_
  refine NQ (NX ?_)
  refine CF (SR (jK 1 [69] [] ?_))
  refine gL [0] (xH S.X f m t) ?_
  rintro _ _ ⟨rfl,rfl⟩
  refine jK 2 [68] [] ?_
  refine NN (cN (S.X.ah < 8192) (fun h68=>?_) (fun h68=>?_))
  ·refine SR (jK 1 [4] [] ?_)
   refine NN (af.ret (ai.au (ai.aj ?_)))
   exact RT _ [0,1,2,3,4,5,6,7] (⟨L,by rw [show (bT S c)=(177,S,c) by grind [bT,jP]]<;>exact⟨rfl,rfl⟩⟩)
  refine af.skip (ai.aA (NX (SR ?_)))
  refine jK 7 [72,73,77,78] [(5,a_ 6 cb)] ?_
  refine gL [0,3,5] (jH S.X f m t hX S.O L to fU c.text hC.tx cU (by omega) ⟨tk,3⟩ hkt (by simp) (by have:=hI.lb hlv;simp only at this ⊢;omega)) ?_
  rintro _ _ ⟨rfl,rfl⟩
  refine NS (ak.eE [(5,.abs (aF (bX (br S.X S.O to c.text ⟨tk,3⟩) L)))] (fun w hS=>by rw [show bX (br S.X S.O to c.text ⟨tk,3⟩) L=bX S.O L from jF];exact hS) ?_)
  refine jK 1 [4] [] ?_
  refine NN (af.ret ?_)
  exact RT _ [0,3,4,1,5,2,6,7] (⟨L,by rw [show (bT S c)=(0,{ S with X:={ S.X with ah:=S.X.ah+1 },O:=br S.X S.O to c.text ⟨tk,3⟩ },c) by grind [bT,jP,br]]<;>exact⟨rfl,rfl⟩⟩)
 ·have pK:(obj S.O ok).kind=1:=hI.kind ig
  refine af.bF (by kernel_rfl) (by kernel_rfl) ?_
  refine jQ 8 [61,65] [(3,v_ 3 (bS L fU)),(7,a_ 6 cb)] ?_
  refine uH 5 fU cU ?_
  refine jQ 2 [57] [] ?_
  refine NQ (NX ?_)
  refine CT (SR (jK 1 [4] [] ?_))
  refine NN (af.ret (ai.au (ai.aj ?_)))
  exact RT _ [0,1,2,3,4,5,6,7] (⟨L,by rw [show (bT S c)=(171,S,c) by grind [bT,jP]]<;>exact⟨rfl,rfl⟩⟩)
 ·have pK:(obj S.O ok).kind=2:=hI.kind ig
  refine af.bF (by kernel_rfl) (by kernel_rfl) ?_
  refine jQ 8 [61,65] [(3,v_ 3 (bS L fU)),(7,a_ 6 cb)] ?_
  refine uH 5 fU cU ?_
  refine jQ 2 [57] [] ?_
  refine NQ (NX ?_)
  refine CT (SR (jK 1 [4] [] ?_))
  refine NN (af.ret (ai.au (ai.aj ?_)))
  exact RT _ [0,1,2,3,4,5,6,7] (⟨L,by rw [show (bT S c)=(171,S,c) by grind [bT,jP]]<;>exact⟨rfl,rfl⟩⟩)
 have pK:(obj S.O ok).kind=3:=hI.kind ig
 refine af.bF (by kernel_rfl) (by kernel_rfl) ?_
 refine jQ 8 [61,65] [(3,v_ 3 (bS L fU)),(7,a_ 6 cb)] ?_
 refine uH 5 fU cU ?_
 refine jQ 2 [57] [] ?_
 refine NQ (NX ?_)
 refine CT (SR (jK 1 [4] [] ?_))
 refine NN (af.ret (ai.au (ai.aj ?_)))
 exact RT _ [0,1,2,3,4,5,6,7] (⟨L,by rw [show (bT S c)=(171,S,c) by grind [bT,jP]]<;>exact⟨rfl,rfl⟩⟩)
theorem L9 {β:Bs} (S:aL) (L:HL) (f m t:Nat) (hI:Inv S) (cb:Nat) (c:aH) (hC:iO β c) :
    Spec Tryz.prog β 90 #[vP f,vP cb] ((pA f m t L S)++[.blk cb (aO c) 53]) (fun v l=>∃ L2,v=vI (dU S c).1/\l=((pA f m t L2 ((dU S c).2.1))++[.blk cb (aO ((dU S c).2.2)) 53])):=by
 have hX:=hI.hX
 refine SE Tryz.func90 Tryz.ntmps90 (fun R=>?_)
 refine af.seq ?_
 rcases hI.hand c.handle with ez|⟨tk,ez,hlv⟩|⟨tk,ez,hlv⟩
 ·refine af.region (jK 1 [] [] ?_)
  refine NN (af.seq (af.bF (by kernel_rfl) (by kernel_rfl) ?_))
  refine jQ 8 [13,17] [(3,a_ 0 f),(7,a_ 6 cb)] ?_
  refine jT [2] [1,2,0,3,4,5,6,7] (.tuple #[.nilIface,vI 131]) (tO t S.X.cH S.ar (bC L S.us) c.handle hC.hw (sI ez)) ?_
  refine jQ 5 [5,6] [] ?_
  refine NQ (NX (af.seq (SR ?_)))
  refine jK 2 [22] [] ?_
  refine NN (CT (SR (jK 2 [4] [] ?_)))
  refine NN (af.ret (ai.aj ?_))
  exact RT _ [0,1,2,3,4,5,6,7] (⟨L,by rw [show (dU S c)=(131,S,c) by unfold dU;rw [ez]]<;>exact⟨rfl,rfl⟩⟩)
 ·have hkt:(obj S.O tk).kind=1:=hI.kind hlv
  refine af.region (jK 1 [] [] ?_)
  refine NN (af.seq (af.bF (by kernel_rfl) (by kernel_rfl) ?_))
  refine jQ 8 [13,17] [(3,a_ 0 f),(7,a_ 6 cb)] ?_
  refine jT [2] [1,2,0,3,4,5,6,7] (.tuple #[.iface 87 (vP (L.b tk)),vI 0]) (oe t S.X.cH S.ar (bC L S.us) c.handle hC.hw (eT L ⟨tk,1⟩) (mF ez)) ?_
  refine jQ 5 [5,6] [] ?_
  refine NQ (NX (af.seq (SR ?_)))
  refine jK 2 [22] [] ?_
  refine NN (CF (af.skip (NX (SR (jK 7 [7,8] [] ?_)))))
  refine NN (af.seq (SR (jK 2 [30] [] ?_)))
  refine NN (CF (af.skip (NX (SR (jK 7 [32,33,34,38] [(6,a_ 6 cb)] ?_)))))
  refine gL [0,1,2,3,4,5] (R8 S L f m t hI tk hlv c.dA c.dC c.data hC.da hC.dl hC.dc) ?_
  rintro _ _ ⟨L2,rfl,rfl⟩
  refine jC 7 [6] [(5,a_ 6 cb)] [(6,[(12,vI ((fS S tk c.data).1))])] ?_
  refine NS (jK 2 [4] [] ?_)
  refine NN (af.ret ?_)
  exact RT _ [0,1,2,3,4,5,6,7] (⟨L2,by rw [show (dU S c)=((fS S tk c.data).2.1,(fS S tk c.data).2.2,{ c with answer:=(fS S tk c.data).1 }) by grind [dU]]<;>exact⟨rfl,rfl⟩⟩)
 have hkt:(obj S.O tk).kind=2:=hI.kind hlv
 refine af.region (jK 1 [] [] ?_)
 refine NN (af.seq (af.bF (by kernel_rfl) (by kernel_rfl) ?_))
 refine jQ 8 [13,17] [(3,a_ 0 f),(7,a_ 6 cb)] ?_
 refine jT [2] [1,2,0,3,4,5,6,7] (.tuple #[.iface 94 (vP (L.b tk)),vI 0]) (oe t S.X.cH S.ar (bC L S.us) c.handle hC.hw (eT L ⟨tk,2⟩) (mF ez)) ?_
 refine jQ 5 [5,6] [] ?_
 refine NQ (NX (af.seq (SR ?_)))
 refine jK 2 [22] [] ?_
 refine NN (CF (af.skip (NX (SR (jK 7 [7,8] [] ?_)))))
 refine NN (af.seq (SR (jK 2 [30] [] ?_)))
 refine NN (CT (SR (jK 1 [4] [] ?_)))
 refine NN (af.ret (ai.aj ?_))
 exact RT _ [0,1,2,3,4,5,6,7] (⟨L,by rw [show (dU S c)=(172,S,c) by grind [dU]]<;>exact⟨rfl,rfl⟩⟩)
theorem qP {β:Bs} (S:aL) (L:HL) (hI:Inv S) (cb:Nat) (c:aH) (ot:Option Th) (ht:ot=none\/(∃ k,ot=some ⟨k,1⟩/\Live S.idx ⟨k,1⟩)\/(∃ k,ot=some ⟨k,2⟩/\Live S.idx ⟨k,2⟩)\/∃ k,ot=some ⟨k,3⟩/\Live S.idx ⟨k,3⟩) :
    Spec Tryz.prog β 129 #[vP cb,(match ot with|none=>.nilIface|some th=>eT L th)] [pO S.O L,.blk cb (aO c) 53] (fun v l=>v=.tuple #[]/\l=[pO S.O L,.blk cb (aO (kR S.O c ot)) 53]):=by
 refine SE Tryz.func129 Tryz.ntmps129 (fun R=>?_)
 refine af.seq ?_
 rcases ht with rfl|⟨tk,rfl,hlv⟩|⟨tk,rfl,hlv⟩|⟨tk,rfl,hlv⟩
 ·refine af.region (jC 21 [] [(8,a_ 1 cb),(11,a_ 1 cb),(14,a_ 1 cb),(17,a_ 1 cb),(20,A_ 1 cb 2)] [(1,(V3))] ?_)
  refine NN (af.seq (SR (jK 2 [22] [] ?_)))
  refine NN (CT (af.ret (ai.aj ?_)))
  exact RT _ [0,1,2] (⟨rfl,rfl⟩)
 ·have hkt:(obj S.O tk).kind=1:=hI.kind hlv
  refine af.region (jC 21 [] [(8,a_ 1 cb),(11,a_ 1 cb),(14,a_ 1 cb),(17,a_ 1 cb),(20,A_ 1 cb 2)] [(1,(V3))] ?_)
  refine NN (af.seq (SR (jK 2 [22] [] ?_)))
  refine NN (CF (af.skip (NX (SR (jK 1 [23] [] ?_)))))
  refine gL [] (dz (L.b tk)) ?_
  rintro _ _ ⟨rfl,rfl⟩
  refine jK 1 [4] [] ?_
  refine NN (rM [0,1,2,3,4,5,6,7,8,9,10,12,13,14,15,16,17,18,19,20,21,22,23,24,25,26,27,11,28,29,30,31,32,33,34,35,36,37,38,39,40,41,42,43,44,45] 27 [0] ?_)
  refine jR 27 [25,26,27,28,29,30,34,35,40,44,48,52] [(9,v_ 0 (ur L hkt)),(14,v_ 0 (wg L hkt)),(18,v_ 0 (Co L hkt)),(22,v_ 0 (Cp L hkt)),(26,p_ ⟨[.view 0 (.int .i64 ((obj S.O tk).sec)),.view 0 (.int .i64 ((obj S.O tk).nano))],none,none,none,none⟩ [(∀ F w,(aF (cJ S.O L)).h F w->w.cell? ⟨(L.b tk),5,none⟩=some (vI ((obj S.O tk).nano))),(∀ F w,(aF (cJ S.O L)).h F w->w.cell? ⟨(L.b tk),4,none⟩=some (vI ((obj S.O tk).sec)))] ⟨fD (by rw [hkt];decide) (rfl),fD (by rw [hkt];decide) (rfl),trivial⟩)] ?_
  refine mL [0] [] (pG (vP (L.b tk))) ?_ (by rintro _ _ ⟨rfl,rfl⟩;rfl)
  rintro _ _ ⟨rfl,rfl⟩
  refine nC [0] [53] [] [] ?_
  refine nC [0] [54] [] [] ?_
  refine nC [0] [] [(0,a_ 1 cb)] [(1,[(12,vI ((obj S.O tk).id))])] ?_
  refine nC [0] [55] [] [] ?_
  refine nC [0] [56] [] [] ?_
  refine nC [0] [] [(0,a_ 1 cb)] [(1,[(2,vI 1)])] ?_
  refine nC [0] [57] [] [] ?_
  refine nC [0] [58] [] [] ?_
  refine nC [0] [] [(0,a_ 1 cb)] [(1,[(6,vI ((obj S.O tk).mode))])] ?_
  refine nC [0] [59] [] [] ?_
  refine nC [0] [60] [] [] ?_
  refine nC [0] [] [(0,a_ 1 cb)] [(1,[(7,vI ((obj S.O tk).uid))])] ?_
  refine nC [0] [61] [] [] ?_
  refine nC [0] [62] [] [] ?_
  refine nC [0] [] [(0,a_ 1 cb)] [(1,[(8,vI ((obj S.O tk).gid))])] ?_
  refine nC [0] [63] [] [] ?_
  refine nC [0] [64] [] [] ?_
  refine aY.last rfl rfl ?_
  refine jC 1 [] [(0,A_ 1 cb 2)] [(1,(Zk S tk))] ?_
  refine NL (ai.np ?_)
  exact RF (.tuple #[]) [0,1,2] (⟨rfl,rfl⟩)
 ·have hkt:(obj S.O tk).kind=2:=hI.kind hlv
  refine af.region (jC 21 [] [(8,a_ 1 cb),(11,a_ 1 cb),(14,a_ 1 cb),(17,a_ 1 cb),(20,A_ 1 cb 2)] [(1,(V3))] ?_)
  refine NN (af.seq (SR (jK 2 [22] [] ?_)))
  refine NN (CF (af.skip (NX (SR (jK 1 [23] [] ?_)))))
  refine gL [] (dz (L.b tk)) ?_
  rintro _ _ ⟨rfl,rfl⟩
  refine jK 1 [4] [] ?_
  refine NN (rM [0,1,2,3,4,5,6,7,8,9,10,12,13,14,15,16,17,18,19,20,21,22,23,24,25,26,27,11,28,29,30,31,32,33,34,35,36,37,38,39,40,41,42,43,44,45] 27 [0] ?_)
  refine jR 27 [25,26,27,28,29,30,34,35,40,44,48,52] [(9,v_ 0 (ur L hkt)),(14,v_ 0 (wg L hkt)),(18,v_ 0 (Co L hkt)),(22,v_ 0 (Cp L hkt)),(26,p_ ⟨[.view 0 (.int .i64 ((obj S.O tk).sec)),.view 0 (.int .i64 ((obj S.O tk).nano))],none,none,none,none⟩ [(∀ F w,(aF (cJ S.O L)).h F w->w.cell? ⟨(L.b tk),5,none⟩=some (vI ((obj S.O tk).nano))),(∀ F w,(aF (cJ S.O L)).h F w->w.cell? ⟨(L.b tk),4,none⟩=some (vI ((obj S.O tk).sec)))] ⟨fD (by rw [hkt];decide) (rfl),fD (by rw [hkt];decide) (rfl),trivial⟩)] ?_
  refine mL [0] [] (pH (vP (L.b tk))) ?_ (by rintro _ _ ⟨rfl,rfl⟩;rfl)
  rintro _ _ ⟨rfl,rfl⟩
  refine nC [0] [53] [] [] ?_
  refine nC [0] [54] [] [] ?_
  refine nC [0] [] [(0,a_ 1 cb)] [(1,[(12,vI ((obj S.O tk).id))])] ?_
  refine nC [0] [55] [] [] ?_
  refine nC [0] [56] [] [] ?_
  refine nC [0] [] [(0,a_ 1 cb)] [(1,[(2,vI 2)])] ?_
  refine nC [0] [57] [] [] ?_
  refine nC [0] [58] [] [] ?_
  refine nC [0] [] [(0,a_ 1 cb)] [(1,[(6,vI ((obj S.O tk).mode))])] ?_
  refine nC [0] [59] [] [] ?_
  refine nC [0] [60] [] [] ?_
  refine nC [0] [] [(0,a_ 1 cb)] [(1,[(7,vI ((obj S.O tk).uid))])] ?_
  refine nC [0] [61] [] [] ?_
  refine nC [0] [62] [] [] ?_
  refine nC [0] [] [(0,a_ 1 cb)] [(1,[(8,vI ((obj S.O tk).gid))])] ?_
  refine nC [0] [63] [] [] ?_
  refine nC [0] [64] [] [] ?_
  refine aY.last rfl rfl ?_
  refine jC 1 [] [(0,A_ 1 cb 2)] [(1,(Zk S tk))] ?_
  refine NL (ai.np ?_)
  exact RF (.tuple #[]) [0,1,2] (⟨rfl,rfl⟩)
 have hkt:(obj S.O tk).kind=3:=hI.kind hlv
 refine af.region (jC 21 [] [(8,a_ 1 cb),(11,a_ 1 cb),(14,a_ 1 cb),(17,a_ 1 cb),(20,A_ 1 cb 2)] [(1,(V3))] ?_)
 refine NN (af.seq (SR (jK 2 [22] [] ?_)))
 refine NN (CF (af.skip (NX (SR (jK 1 [23] [] ?_)))))
 refine gL [] (dz (L.b tk)) ?_
 rintro _ _ ⟨rfl,rfl⟩
 refine jK 1 [4] [] ?_
 refine NN (rM [0,1,2,3,4,5,6,7,8,9,10,12,13,14,15,16,17,18,19,20,21,22,23,24,25,26,27,11,28,29,30,31,32,33,34,35,36,37,38,39,40,41,42,43,44,45] 27 [0] ?_)
 refine jR 27 [25,26,27,28,29,30,34,35,40,44,48,52] [(9,v_ 0 (ur L hkt)),(14,v_ 0 (wg L hkt)),(18,v_ 0 (Co L hkt)),(22,v_ 0 (Cp L hkt)),(26,p_ ⟨[.view 0 (.int .i64 ((obj S.O tk).sec)),.view 0 (.int .i64 ((obj S.O tk).nano))],none,none,none,none⟩ [(∀ F w,(aF (cJ S.O L)).h F w->w.cell? ⟨(L.b tk),5,none⟩=some (vI ((obj S.O tk).nano))),(∀ F w,(aF (cJ S.O L)).h F w->w.cell? ⟨(L.b tk),4,none⟩=some (vI ((obj S.O tk).sec)))] ⟨fD (by rw [hkt];decide) (rfl),fD (by rw [hkt];decide) (rfl),trivial⟩)] ?_
 refine mL [0] [] (qN (vP (L.b tk))) ?_ (by rintro _ _ ⟨rfl,rfl⟩;rfl)
 rintro _ _ ⟨rfl,rfl⟩
 refine nC [0] [53] [] [] ?_
 refine nC [0] [54] [] [] ?_
 refine nC [0] [] [(0,a_ 1 cb)] [(1,[(12,vI ((obj S.O tk).id))])] ?_
 refine nC [0] [55] [] [] ?_
 refine nC [0] [56] [] [] ?_
 refine nC [0] [] [(0,a_ 1 cb)] [(1,[(2,vI 3)])] ?_
 refine nC [0] [57] [] [] ?_
 refine nC [0] [58] [] [] ?_
 refine nC [0] [] [(0,a_ 1 cb)] [(1,[(6,vI ((obj S.O tk).mode))])] ?_
 refine nC [0] [59] [] [] ?_
 refine nC [0] [60] [] [] ?_
 refine nC [0] [] [(0,a_ 1 cb)] [(1,[(7,vI ((obj S.O tk).uid))])] ?_
 refine nC [0] [61] [] [] ?_
 refine nC [0] [62] [] [] ?_
 refine nC [0] [] [(0,a_ 1 cb)] [(1,[(8,vI ((obj S.O tk).gid))])] ?_
 refine nC [0] [63] [] [] ?_
 refine nC [0] [64] [] [] ?_
 refine aY.last rfl rfl ?_
 refine jC 1 [] [(0,A_ 1 cb 2)] [(1,(Zk S tk))] ?_
 refine NL (ai.np ?_)
 exact RF (.tuple #[]) [0,1,2] (⟨rfl,rfl⟩)
theorem O4 {β:Bs} (S:aL) (L:HL) (f m t:Nat) (hI:Inv S) (cb:Nat) (c:aH) (hC:iO β c) :
    Spec Tryz.prog β 92 #[vP f,vP cb] ((pA f m t L S)++[.blk cb (aO c) 53]) (fun v l=>∃ L2,v=vI (jS S c).1/\l=((pA f m t L2 ((jS S c).2.1))++[.blk cb (aO ((jS S c).2.2)) 53])):=by
 have hX:=hI.hX
 refine SE Tryz.func92 Tryz.ntmps92 (fun R=>?_)
 refine af.seq ?_
 rcases hI.hand c.handle with ez|⟨tk,ez,hlv⟩|⟨tk,ez,hlv⟩
 ·refine af.region (jK 1 [] [] ?_)
  refine NN (af.seq (af.bF (by kernel_rfl) (by kernel_rfl) ?_))
  refine jQ 8 [11,15] [(3,a_ 0 f),(7,a_ 6 cb)] ?_
  refine jT [2] [1,2,0,3,4,5,6,7] (.tuple #[.nilIface,vI 131]) (tO t S.X.cH S.ar (bC L S.us) c.handle hC.hw (sI ez)) ?_
  refine jQ 5 [5,6] [] ?_
  refine NQ (NX (SR ?_))
  refine jK 2 [19,20] [] ?_
  refine gL [3,6] (qP S L hI cb c none (.inl rfl)) ?_
  rintro _ _ ⟨rfl,rfl⟩
  refine NS (jK 2 [4] [] ?_)
  refine NN (af.ret ?_)
  exact RT _ [2,3,4,0,5,6,1,7] (⟨L,by rw [show (jS S c)=(131,S,kR S.O c none) by unfold jS;rw [ez]]<;>exact⟨rfl,rfl⟩⟩)
 ·have hkt:(obj S.O tk).kind=1:=hI.kind hlv
  refine af.region (jK 1 [] [] ?_)
  refine NN (af.seq (af.bF (by kernel_rfl) (by kernel_rfl) ?_))
  refine jQ 8 [11,15] [(3,a_ 0 f),(7,a_ 6 cb)] ?_
  refine jT [2] [1,2,0,3,4,5,6,7] (.tuple #[.iface 87 (vP (L.b tk)),vI 0]) (oe t S.X.cH S.ar (bC L S.us) c.handle hC.hw (eT L ⟨tk,1⟩) (mF ez)) ?_
  refine jQ 5 [5,6] [] ?_
  refine NQ (NX (SR ?_))
  refine jK 2 [19,20] [] ?_
  refine gL [3,6] (qP S L hI cb c (some ⟨tk,1⟩) (.inr (.inl ⟨tk,rfl,hlv⟩))) ?_
  rintro _ _ ⟨rfl,rfl⟩
  refine NS (jK 2 [4] [] ?_)
  refine NN (af.ret ?_)
  exact RT _ [2,3,4,0,5,6,1,7] (⟨L,by rw [show (jS S c)=(0,S,kR S.O c (some ⟨tk,1⟩)) by unfold jS;rw [ez]]<;>exact⟨rfl,rfl⟩⟩)
 have hkt:(obj S.O tk).kind=2:=hI.kind hlv
 refine af.region (jK 1 [] [] ?_)
 refine NN (af.seq (af.bF (by kernel_rfl) (by kernel_rfl) ?_))
 refine jQ 8 [11,15] [(3,a_ 0 f),(7,a_ 6 cb)] ?_
 refine jT [2] [1,2,0,3,4,5,6,7] (.tuple #[.iface 94 (vP (L.b tk)),vI 0]) (oe t S.X.cH S.ar (bC L S.us) c.handle hC.hw (eT L ⟨tk,2⟩) (mF ez)) ?_
 refine jQ 5 [5,6] [] ?_
 refine NQ (NX (SR ?_))
 refine jK 2 [19,20] [] ?_
 refine gL [3,6] (qP S L hI cb c (some ⟨tk,2⟩) (.inr (.inr (.inl ⟨tk,rfl,hlv⟩)))) ?_
 rintro _ _ ⟨rfl,rfl⟩
 refine NS (jK 2 [4] [] ?_)
 refine NN (af.ret ?_)
 exact RT _ [2,3,4,0,5,6,1,7] (⟨L,by rw [show (jS S c)=(0,S,kR S.O c (some ⟨tk,2⟩)) by unfold jS;rw [ez]]<;>exact⟨rfl,rfl⟩⟩)
theorem Ld {β:Bs} (S:aL) (L:HL) (f m t:Nat) (hI:Inv S) (cb:Nat) (c:aH) (hC:iO β c) :
    Spec Tryz.prog β 93 #[vP f,vP cb] ((pA f m t L S)++[.blk cb (aO c) 53]) (fun v l=>∃ L2,v=vI (fL S c).1/\l=((pA f m t L2 ((fL S c).2.1))++[.blk cb (aO ((fL S c).2.2)) 53])):=by
 have hX:=hI.hX
 refine SE Tryz.func93 Tryz.ntmps93 (fun R=>?_)
 refine SR (jK 1 [] [] ?_)
 refine NS (jK 2 [8,9] [] ?_)
 rcases Ek hI.toInv0 c with ⟨e,hnm,hne⟩|⟨tk,hnm,hlv⟩|⟨tk,hnm,hlv⟩|⟨tk,hnm,hlv⟩
 ·refine gL [0,1,2,3,4,5,6] ((by have h:=jI S L f m t hI cb c hC (β:=β);rw [hnm] at h;exact h)) ?_
  rintro _ _ ⟨rfl,rfl⟩
  refine jK 5 [5,6] [] ?_
  refine NS (jK 2 [13,14] [] ?_)
  refine gL [3,6] (qP S L hI cb c none (.inl rfl)) ?_
  rintro _ _ ⟨rfl,rfl⟩
  refine NS (jK 2 [4] [] ?_)
  refine NN (af.ret ?_)
  exact RT _ [2,3,4,0,5,6,1,7] (⟨L,by rw [show (fL S c)=(e,S,kR S.O c none) by unfold fL;rw [hnm]]<;>exact⟨rfl,rfl⟩⟩)
 ·have hkt:(obj S.O tk).kind=1:=hI.kind hlv
  refine gL [0,1,2,3,4,5,6] ((by have h:=jI S L f m t hI cb c hC (β:=β);rw [hnm] at h;exact h)) ?_
  rintro _ _ ⟨rfl,rfl⟩
  refine jK 5 [5,6] [] ?_
  refine NS (jK 2 [13,14] [] ?_)
  refine gL [3,6] (qP S L hI cb c (some ⟨tk,1⟩) (.inr (.inl ⟨tk,rfl,hlv⟩))) ?_
  rintro _ _ ⟨rfl,rfl⟩
  refine NS (jK 2 [4] [] ?_)
  refine NN (af.ret ?_)
  exact RT _ [2,3,4,0,5,6,1,7] (⟨L,by rw [show (fL S c)=(0,S,kR S.O c (some ⟨tk,1⟩)) by unfold fL;rw [hnm]]<;>exact⟨rfl,rfl⟩⟩)
 ·have hkt:(obj S.O tk).kind=2:=hI.kind hlv
  refine gL [0,1,2,3,4,5,6] ((by have h:=jI S L f m t hI cb c hC (β:=β);rw [hnm] at h;exact h)) ?_
  rintro _ _ ⟨rfl,rfl⟩
  refine jK 5 [5,6] [] ?_
  refine NS (jK 2 [13,14] [] ?_)
  refine gL [3,6] (qP S L hI cb c (some ⟨tk,2⟩) (.inr (.inr (.inl ⟨tk,rfl,hlv⟩)))) ?_
  rintro _ _ ⟨rfl,rfl⟩
  refine NS (jK 2 [4] [] ?_)
  refine NN (af.ret ?_)
  exact RT _ [2,3,4,0,5,6,1,7] (⟨L,by rw [show (fL S c)=(0,S,kR S.O c (some ⟨tk,2⟩)) by unfold fL;rw [hnm]]<;>exact⟨rfl,rfl⟩⟩)
 have hkt:(obj S.O tk).kind=3:=hI.kind hlv
 refine gL [0,1,2,3,4,5,6] ((by have h:=jI S L f m t hI cb c hC (β:=β);rw [hnm] at h;exact h)) ?_
 rintro _ _ ⟨rfl,rfl⟩
 refine jK 5 [5,6] [] ?_
 refine NS (jK 2 [13,14] [] ?_)
 refine gL [3,6] (qP S L hI cb c (some ⟨tk,3⟩) (.inr (.inr (.inr ⟨tk,rfl,hlv⟩)))) ?_
 rintro _ _ ⟨rfl,rfl⟩
 refine NS (jK 2 [4] [] ?_)
 refine NN (af.ret ?_)
 exact RT _ [2,3,4,0,5,6,1,7] (⟨L,by rw [show (fL S c)=(0,S,kR S.O c (some ⟨tk,3⟩)) by unfold fL;rw [hnm]]<;>exact⟨rfl,rfl⟩⟩)
theorem Ma {β:Bs} (S:aL) (L:HL) (f m t:Nat) (hI:Inv S) (cb:Nat) (c:aH) (hC:iO β c) :
    Spec Tryz.prog β 94 #[vP f,vP cb] ((pA f m t L S)++[.blk cb (aO c) 53]) (fun v l=>∃ L2,v=vI (fY S c).1/\l=((pA f m t L2 ((fY S c).2.1))++[.blk cb (aO ((fY S c).2.2)) 53])):=by
 have hX:=hI.hX
 refine SE Tryz.func94 Tryz.ntmps94 (fun R=>?_)
 refine af.seq ?_
 rcases hI.hand c.handle with ez|⟨tk,ez,hlv⟩|⟨tk,ez,hlv⟩
 ·refine af.region (jK 1 [] [] ?_)
  refine NN (af.seq (jM [0,1,2,3,4,5,6,7,508,9,10,11,12,513] [0,6] ?_))
  refine jG 8 [0,11,15] [(3,a_ 0 f),(7,a_ 1 cb)] ?_
  refine kL [1,6] [2] (LA t S.X.cH S.ar (bC L S.us) c.handle hC.hw (sI ez)) ?_ (by rintro _ _ ⟨rfl,rfl⟩;kernel_rfl)
  rintro _ _ ⟨rfl,rfl⟩
  refine jG 4 [0,5,18] [] ?_
  refine dH.last (by kernel_rfl) ?_
  refine jK 1 [6] [] ?_
  refine NL (ai.np (NX (af.seq (SR ?_))))
  refine jK 2 [20] [] ?_
  refine NN (CT (SR (jK 2 [4] [] ?_)))
  refine NN (af.ret (ai.aj ?_))
  exact RT (vI 131) [1,2,0,3,4,5,6,7] (⟨L,by rw [show (fY S c)=(131,S,c) by unfold fY;rw [ez]]<;>exact⟨rfl,rfl⟩⟩)
 ·have hkt:(obj S.O tk).kind=1:=hI.kind hlv
  have hid:=hI.ob _ hlv
  have sZ:=hI.P7 hlv
  have hdl:=hI.JA hlv
  have hop:0 < (obj S.O tk).opens/\(obj S.O tk).opens<=1024:=⟨by have h1:=hI.opens _ hlv;have h2:=MC ez;simp only at h1 h2;omega,(hI.GR hlv).2⟩
  refine af.region (jK 1 [] [] ?_)
  refine NN (af.seq (jM [0,1,2,3,4,5,6,7,508,9,10,11,12,513] [0,6] ?_))
  refine jG 8 [0,11,15] [(3,a_ 0 f),(7,a_ 1 cb)] ?_
  refine dH.cut (ι:=Unit) (fr':=fun (_:Unit)=>[(0,vP f),(16,.tuple #[.iface 87 (vP (L.b tk)),vI 0])]) (hp':=fun (_:Unit)=>[pT t S.X.cH S.ar L (del c.handle S.us),pF f m t S.X,pI m L S.idx,pO S.O L,pD S.O L,pE S.O L,.blk cb (aO c) 53,.abs R]) [1,6] (by kernel_rfl) ?_ rfl (fun _=>by kernel_rfl) ?_
  ·refine gL (f:=130) (args:=#[vP t,vI (c.handle)]) (pre:=[pT t S.X.cH S.ar L S.us]) [2] ((by have h:=GQ (β:=β) t S.X.cH S.ar (bC L S.us) c.handle hC.hw (eT L ⟨tk,1⟩) (mF ez);rw [← JG] at h;exact h)) ?_
   rintro _ _ ⟨rfl,rfl⟩
   refine NL ?_
   exact MD () [0,16] [0,1,2,3,4,5,6,7]
  rintro _
  refine jG 4 [0,5,18] [] ?_
  refine dH.last (by kernel_rfl) ?_
  refine jK 1 [6] [] ?_
  refine NL (ai.np (NX (af.seq (SR ?_))))
  refine jK 2 [20] [] ?_
  refine NN (CF (af.skip (NX (SR (jK 1 [22] [] ?_)))))
  refine gL [] (dz (L.b tk)) ?_
  rintro _ _ ⟨rfl,rfl⟩
  refine jK 6 [27,29] [(2,v_ 3 (lY L hkt)),(3,wJ ((obj S.O tk).opens - 1) ((obj S.O tk).opens - 1))] ?_
  refine wh 3 [(5,1),(4,2)] tk 7 (fun o=>{ o with opens:=o.opens - 1 }) hkt (fun d9 dh=>?_)
  have lV:=ku dh hkt
  have hf2:(obj d9 tk).id=(obj S.O tk).id:=fu aN.id dh rfl
  have hf3:(obj d9 tk).data=(obj S.O tk).data:=fu aN.data dh rfl
  refine NS ?_
  have UH:(obj d9 tk).opens=(obj S.O tk).opens - 1:=by grind [cV]
  refine jK 2 [30,31] [] ?_
  refine gL [3,1,2] (uf S.X f m t hX d9 L S.idx hI.rise ⟨tk,1⟩ lV (by simp) (by rw [UH];omega) (fun _=>by rw [hf2,hid.1];exact hlv) (by rw [hf2];exact sZ) (by rw [hf3];exact hdl)) ?_
  rintro _ _ ⟨rfl,rfl⟩
  refine NS (jK 1 [4] [] ?_)
  refine NN (af.ret ?_)
  exact RT (l:=[pF f m t { S.X with used:=mg d9 S.X.used ⟨tk,1⟩ },pI m L (iB d9 S.idx ⟨tk,1⟩),pT t S.X.cH S.ar L (del c.handle S.us),pO d9 L,pD d9 L,pE d9 L,.blk cb (aO c) 53]) (.int .i64 0) [1,2,3,0,4,5,6,7] (⟨L,by subst dh;rw [show fY S c=(0,_,c) by unfold fY;rw [ez]];exact⟨rfl,rfl⟩⟩)
 have hkt:(obj S.O tk).kind=2:=hI.kind hlv
 have hid:=hI.ob _ hlv
 have sZ:=hI.P7 hlv
 have hdl:=hI.JA hlv
 have hop:0 < (obj S.O tk).opens/\(obj S.O tk).opens<=1024:=⟨by have h1:=hI.opens _ hlv;have h2:=MC ez;simp only at h1 h2;omega,(hI.GR hlv).2⟩
 refine af.region (jK 1 [] [] ?_)
 refine NN (af.seq (jM [0,1,2,3,4,5,6,7,508,9,10,11,12,513] [0,6] ?_))
 refine jG 8 [0,11,15] [(3,a_ 0 f),(7,a_ 1 cb)] ?_
 refine dH.cut (ι:=Unit) (fr':=fun (_:Unit)=>[(0,vP f),(16,.tuple #[.iface 94 (vP (L.b tk)),vI 0])]) (hp':=fun (_:Unit)=>[pT t S.X.cH S.ar L (del c.handle S.us),pF f m t S.X,pI m L S.idx,pO S.O L,pD S.O L,pE S.O L,.blk cb (aO c) 53,.abs R]) [1,6] (by kernel_rfl) ?_ rfl (fun _=>by kernel_rfl) ?_
 ·refine gL (f:=130) (args:=#[vP t,vI (c.handle)]) (pre:=[pT t S.X.cH S.ar L S.us]) [2] ((by have h:=GQ (β:=β) t S.X.cH S.ar (bC L S.us) c.handle hC.hw (eT L ⟨tk,2⟩) (mF ez);rw [← JG] at h;exact h)) ?_
  rintro _ _ ⟨rfl,rfl⟩
  refine NL ?_
  exact MD () [0,16] [0,1,2,3,4,5,6,7]
 rintro _
 refine jG 4 [0,5,18] [] ?_
 refine dH.last (by kernel_rfl) ?_
 refine jK 1 [6] [] ?_
 refine NL (ai.np (NX (af.seq (SR ?_))))
 refine jK 2 [20] [] ?_
 refine NN (CF (af.skip (NX (SR (jK 1 [22] [] ?_)))))
 refine gL [] (dz (L.b tk)) ?_
 rintro _ _ ⟨rfl,rfl⟩
 refine jK 6 [27,29] [(2,v_ 3 (lY L hkt)),(3,wJ ((obj S.O tk).opens - 1) ((obj S.O tk).opens - 1))] ?_
 refine wh 3 [(5,1),(4,2)] tk 7 (fun o=>{ o with opens:=o.opens - 1 }) hkt (fun d9 dh=>?_)
 have Br:=ku dh hkt
 have R5:(obj d9 tk).id=(obj S.O tk).id:=fu aN.id dh rfl
 have Zf:(obj d9 tk).data=(obj S.O tk).data:=fu aN.data dh rfl
 refine NS ?_
 have UH:(obj d9 tk).opens=(obj S.O tk).opens - 1:=by grind [cV]
 refine jK 2 [30,31] [] ?_
 refine gL [3,1,2] (uf S.X f m t hX d9 L S.idx hI.rise ⟨tk,2⟩ Br (by simp) (by rw [UH];omega) (fun _=>by rw [R5,hid.1];exact hlv) (by rw [R5];exact sZ) (by rw [Zf];exact hdl)) ?_
 rintro _ _ ⟨rfl,rfl⟩
 refine NS (jK 1 [4] [] ?_)
 refine NN (af.ret ?_)
 exact RT (l:=[pF f m t { S.X with used:=mg d9 S.X.used ⟨tk,2⟩ },pI m L (iB d9 S.idx ⟨tk,2⟩),pT t S.X.cH S.ar L (del c.handle S.us),pO d9 L,pD d9 L,pE d9 L,.blk cb (aO c) 53]) (.int .i64 0) [1,2,3,0,4,5,6,7] (⟨L,by subst dh;rw [show fY S c=(0,_,c) by unfold fY;rw [ez]];exact⟨rfl,rfl⟩⟩)
end
section
open Go.RowKit Go.Maps aX aq
attribute [local irreducible] ak aV af ai aY
abbrev zi1 (S:aL) (c:aH) (L2:HL):=(pO (aD S.O (aK S.X) (fun _=>(⟨0,c.mode,0,0,0,0,0,0,false,1,[],⟨#[]⟩,[],none⟩:aN))) L2:HP)
theorem Ie {β:Bs} (S:aL) (L:HL) (f m t:Nat) (hI:Inv S) (cb:Nat) (c:aH) (hC:iO β c) :
    Spec Tryz.prog β 91 #[vP f,vP cb] ((pA f m t L S)++[.blk cb (aO c) 53]) (fun v l=>∃ L2,v=vI (bw S c).1/\l=((pA f m t L2 ((bw S c).2.1))++[.blk cb (aO ((bw S c).2.2)) 53])):=by
 have hX:=hI.hX
 refine SE Tryz.func91 Tryz.ntmps91 (fun R=>?_)
 refine af.seq ?_
 rcases hI.hand c.handle with ez|⟨tk,ez,hlv⟩|⟨tk,ez,hlv⟩
 ·refine af.region (jK 1 [] [] ?_)
  refine NN (af.seq (af.bF (by kernel_rfl) (by kernel_rfl) ?_))
  refine jQ 8 [12,16] [(3,a_ 0 f),(7,a_ 6 cb)] ?_
  refine jT [2] [1,2,0,3,4,5,6,7] (.tuple #[.nilIface,vI 131]) (tO t S.X.cH S.ar (bC L S.us) c.handle hC.hw (sI ez)) ?_
  refine jQ 5 [5,6] [] ?_
  refine NQ (NX (af.seq (SR ?_)))
  refine jK 2 [21] [] ?_
  refine NN (CT (SR (jK 2 [4] [] ?_)))
  refine NN (af.ret (ai.aj ?_))
  exact RT _ [0,1,2,3,4,5,6,7] (⟨L,by rw [show (bw S c)=(131,S,c) by unfold bw;rw [ez]]<;>exact⟨rfl,rfl⟩⟩)
 ·have hkt:(obj S.O tk).kind=1:=hI.kind hlv
  refine af.region (jK 1 [] [] ?_)
  refine NN (af.seq (af.bF (by kernel_rfl) (by kernel_rfl) ?_))
  refine jQ 8 [12,16] [(3,a_ 0 f),(7,a_ 6 cb)] ?_
  refine jT [2] [1,2,0,3,4,5,6,7] (.tuple #[.iface 87 (vP (L.b tk)),vI 0]) (oe t S.X.cH S.ar (bC L S.us) c.handle hC.hw (eT L ⟨tk,1⟩) (mF ez)) ?_
  refine jQ 5 [5,6] [] ?_
  refine NQ (NX (af.seq (SR ?_)))
  refine jK 2 [21] [] ?_
  refine NN (CF (af.skip (NX (SR (jK 1 [23] [] ?_)))))
  refine gL [] (dz (L.b tk)) ?_
  rintro _ _ ⟨rfl,rfl⟩
  refine jK 1 [7] [] ?_
  refine NN (af.seq (af.block (SR ?_)))
  refine jK 5 [30] [(3,v_ 3 (rU L hkt))] ?_
  refine ak.lK 30 (obj S.O tk).gone (fun _=>by kernel_rfl) (fun lE=>?_) (fun lE=>?_)
  ·refine jK 1 [31] [] ?_
   refine gL [] (pG (vP (L.b tk))) ?_
   rintro _ _ ⟨rfl,rfl⟩
   refine jK 3 [25] [] ?_
   refine NN (CF (SR (jK 4 [39] [(3,a_ 6 cb)] ?_)))
   refine gL [] (iw (c.mode) 4095) ?_
   rintro _ _ ⟨rfl,rfl⟩
   refine jK 2 [35] [] ?_
   refine NN (cN (0<=c.mode/\c.mode<=4095) (fun nP=>?_) (fun nP=>?_))
   ·refine SR (jK 1 [4] [] ?_)
    refine NN (af.ret (ai.au (ai.aj ?_)))
    exact RT _ [0,1,2,3,4,5,6,7] (⟨L,by rw [show (bw S c)=(120,S,c) by unfold bw;rw [ez];exact (if_neg (fun h=>absurd h.2 (by simp))).trans (if_neg nP)]<;>exact⟨rfl,rfl⟩⟩)
   refine SR (jK 4 [46] [(3,a_ 6 cb)] ?_)
   refine gL [] (iw (c.uid) 2147483647) ?_
   rintro _ _ ⟨rfl,rfl⟩
   refine jK 2 [49] [] ?_
   refine sN 49 (0<=c.uid/\c.uid<=2147483647) (fun xg=>?_) (fun xg=>?_)
   ·refine jK 8 [42] [] ?_
    refine NN (CT (SR (jK 1 [4] [] ?_)))
    refine NN (af.ret (ai.au (ai.aj ?_)))
    exact RT _ [0,1,2,3,4,5,6,7] (⟨L,by rw [show (bw S c)=(11,S,c) by unfold bw;rw [ez];exact (if_neg (fun h=>absurd h.2 (by simp))).trans ((if_pos nP).trans (if_neg (fun h=>xg h.1)))]<;>exact⟨rfl,rfl⟩⟩)
   refine jK 4 [53] [(3,a_ 6 cb)] ?_
   refine gL [] (iw (c.gid) 2147483647) ?_
   rintro _ _ ⟨rfl,rfl⟩
   refine jK 3 [42] [] ?_
   refine NN (cN (0<=c.gid/\c.gid<=2147483647) (fun iy=>?_) (fun iy=>?_))
   ·refine SR (jK 1 [4] [] ?_)
    refine NN (af.ret (ai.au (ai.aj ?_)))
    exact RT _ [0,1,2,3,4,5,6,7] (⟨L,by rw [show (bw S c)=(11,S,c) by unfold bw;rw [ez];exact (if_neg (fun h=>absurd h.2 (by simp))).trans ((if_pos nP).trans (if_neg (fun h=>iy h.2)))]<;>exact⟨rfl,rfl⟩⟩)
   refine SR (jK 4 [61] [(3,A_ 6 cb 2)] ?_)
   refine gL [] (jB c.sec c.nano) ?_
   rintro _ _ ⟨rfl,rfl⟩
   refine jK 2 [57] [] ?_
   refine NN (cN (dw c.sec c.nano) (fun xR=>?_) (fun xR=>?_))
   ·refine SR (jK 1 [4] [] ?_)
    refine NN (af.ret (ai.au (ai.aj ?_)))
    exact RT _ [0,1,2,3,4,5,6,7] (⟨L,by rw [show (bw S c)=(20,S,c) by unfold bw;rw [ez];exact (if_neg (fun h=>absurd h.2 (by simp))).trans ((if_pos nP).trans ((if_pos ⟨xg,iy⟩).trans (if_neg xR)))]<;>exact⟨rfl,rfl⟩⟩)
   refine af.skip (ai.aA (NX (af.seq ?_)))
   skip
   refine af.mem (dX:=[.blk f [vI (S.X.cN),vI (S.X.cB),vI (S.X.cH),vI (S.X.cS),vI (S.X.cZ),.map (some m),vP t,vI (S.X.last),vI (S.X.ah),vI (S.X.used)] 84,.abs (bq Tryz.prog 3 m (bB (bC L S.idx)) S.idx.length),.abs (dI 140 t S.X.cH S.ar (bC L S.us)),.abs (aF (mZ (cJ S.O L) tk ct.none)),.abs (aF (bX S.O L)),.abs (aF (dL S.O L)),.blk cb (aO c) 53,.abs R,.blk (L.b tk) [vI ((obj S.O tk).id),vI ((obj S.O tk).mode),vI ((obj S.O tk).uid),vI ((obj S.O tk).gid),vI ((obj S.O tk).sec),vI ((obj S.O tk).nano),vI ((obj S.O tk).links),vI ((obj S.O tk).opens),.bool (obj S.O tk).gone,.slice (L.dA tk) ((obj S.O tk).data.length) ((L.dC tk))] 90]) (fun w hS=>hS.Ap (i:=3) (k:=tk) rfl (by rw [hkt];decide) (jD (hkt)) (by rw [hkt];rfl)) ?_
   refine rM (List.range 32) 22 [6] ?_
   refine jR 22 [65,66,67,71,75,79,83,85] [(7,a_ 0 cb),(11,a_ 0 cb),(15,a_ 0 cb),(19,A_ 0 cb 2)] ?_
   refine nC [6] [] [(0,a_ 8 (L.b tk))] [(8,[(1,vI (c.mode))])] ?_
   refine nC [6] [86] [] [] ?_
   refine nC [6] [87] [] [] ?_
   refine nC [6] [] [(0,a_ 8 (L.b tk))] [(8,[(2,vI (c.uid))])] ?_
   refine nC [6] [88] [] [] ?_
   refine nC [6] [89] [] [] ?_
   refine nC [6] [] [(0,a_ 8 (L.b tk))] [(8,[(3,vI (c.gid))])] ?_
   refine nC [6] [90] [] [] ?_
   refine nC [6] [91] [] [] ?_
   refine aY.last rfl rfl ?_
   refine jC 1 [] [(0,A_ 8 (L.b tk) 2)] [(8,[(4,vI (c.sec)),(5,vI (c.nano))])] ?_
   refine NL (ai.np (NX (SR ?_)))
   refine ak.mem (dX:=[.abs (aF (cJ (aD S.O tk (fun o=>{ o with mode:=c.mode,uid:=c.uid,gid:=c.gid,sec:=c.sec,nano:=c.nano })) L)),.blk f [vI (S.X.cN),vI (S.X.cB),vI (S.X.cH),vI (S.X.cS),vI (S.X.cZ),.map (some m),vP t,vI (S.X.last),vI (S.X.ah),vI (S.X.used)] 84,.abs (bq Tryz.prog 3 m (bB (bC L S.idx)) S.idx.length),.abs (dI 140 t S.X.cH S.ar (bC L S.us)),.abs (aF (bX (aD S.O tk (fun o=>{ o with mode:=c.mode,uid:=c.uid,gid:=c.gid,sec:=c.sec,nano:=c.nano })) L)),.abs (aF (dL (aD S.O tk (fun o=>{ o with mode:=c.mode,uid:=c.uid,gid:=c.gid,sec:=c.sec,nano:=c.nano })) L)),.blk cb (aO c) 53,.abs R]) (fun w hS=>by have h:=hS.BS (O:=S.O) (L:=L) (i:=3) (j:=8) (idx:=[0,1,2,4,5,6,7]) (k:=tk) (f:=(fun o=>{ o with mode:=c.mode,uid:=c.uid,gid:=c.gid,sec:=c.sec,nano:=c.nano })) rfl (fun _ hx=>qX hx) rfl (by kernel_rfl) rfl (by grind) ((jD (o:=(fun o=>{ o with mode:=c.mode,uid:=c.uid,gid:=c.gid,sec:=c.sec,nano:=c.nano }) (obj S.O tk)) (hkt)).trans rfl) (by grind [qg,obj]);grind [pR,pU]) ?_
   have lV:(obj (aD S.O tk (fun o=>{ o with mode:=c.mode,uid:=c.uid,gid:=c.gid,sec:=c.sec,nano:=c.nano })) tk).kind=1:=(lq (f:=(fun o=>{ o with mode:=c.mode,uid:=c.uid,gid:=c.gid,sec:=c.sec,nano:=c.nano })) (fun _=>rfl)).trans (hkt)
   generalize dh:(aD S.O tk (fun o=>{ o with mode:=c.mode,uid:=c.uid,gid:=c.gid,sec:=c.sec,nano:=c.nano }))=d9 at lV ⊢
   refine jK 1 [4] [] ?_
   refine NN (af.ret ?_)
   exact RT _ [1,2,3,0,4,5,6,7] (⟨L,by subst dh;rw [show (bw S c)=(0,{ S with O:=aD S.O tk (fun o=>{ o with mode:=c.mode,uid:=c.uid,gid:=c.gid,sec:=c.sec,nano:=c.nano }) },c) by unfold bw;rw [ez];exact (if_neg (fun h=>absurd h.2 (by simp))).trans ((if_pos nP).trans ((if_pos ⟨xg,iy⟩).trans (if_pos xR)))]<;>exact⟨rfl,rfl⟩⟩)
  refine jK 5 [25] [] ?_
  refine NN (CF (SR (jK 4 [39] [(3,a_ 6 cb)] ?_)))
  refine gL [] (iw (c.mode) 4095) ?_
  rintro _ _ ⟨rfl,rfl⟩
  refine jK 2 [35] [] ?_
  refine NN (cN (0<=c.mode/\c.mode<=4095) (fun nP=>?_) (fun nP=>?_))
  ·refine SR (jK 1 [4] [] ?_)
   refine NN (af.ret (ai.au (ai.aj ?_)))
   exact RT _ [0,1,2,3,4,5,6,7] (⟨L,by rw [show (bw S c)=(120,S,c) by unfold bw;rw [ez];exact (if_neg (fun h=>absurd h.2 (by simp))).trans (if_neg nP)]<;>exact⟨rfl,rfl⟩⟩)
  refine SR (jK 4 [46] [(3,a_ 6 cb)] ?_)
  refine gL [] (iw (c.uid) 2147483647) ?_
  rintro _ _ ⟨rfl,rfl⟩
  refine jK 2 [49] [] ?_
  refine sN 49 (0<=c.uid/\c.uid<=2147483647) (fun xg=>?_) (fun xg=>?_)
  ·refine jK 8 [42] [] ?_
   refine NN (CT (SR (jK 1 [4] [] ?_)))
   refine NN (af.ret (ai.au (ai.aj ?_)))
   exact RT _ [0,1,2,3,4,5,6,7] (⟨L,by rw [show (bw S c)=(11,S,c) by unfold bw;rw [ez];exact (if_neg (fun h=>absurd h.2 (by simp))).trans ((if_pos nP).trans (if_neg (fun h=>xg h.1)))]<;>exact⟨rfl,rfl⟩⟩)
  refine jK 4 [53] [(3,a_ 6 cb)] ?_
  refine gL [] (iw (c.gid) 2147483647) ?_
  rintro _ _ ⟨rfl,rfl⟩
  refine jK 3 [42] [] ?_
  refine NN (cN (0<=c.gid/\c.gid<=2147483647) (fun iy=>?_) (fun iy=>?_))
  ·refine SR (jK 1 [4] [] ?_)
   refine NN (af.ret (ai.au (ai.aj ?_)))
   exact RT _ [0,1,2,3,4,5,6,7] (⟨L,by rw [show (bw S c)=(11,S,c) by unfold bw;rw [ez];exact (if_neg (fun h=>absurd h.2 (by simp))).trans ((if_pos nP).trans (if_neg (fun h=>iy h.2)))]<;>exact⟨rfl,rfl⟩⟩)
  refine SR (jK 4 [61] [(3,A_ 6 cb 2)] ?_)
  refine gL [] (jB c.sec c.nano) ?_
  rintro _ _ ⟨rfl,rfl⟩
  refine jK 2 [57] [] ?_
  refine NN (cN (dw c.sec c.nano) (fun xR=>?_) (fun xR=>?_))
  ·refine SR (jK 1 [4] [] ?_)
   refine NN (af.ret (ai.au (ai.aj ?_)))
   exact RT _ [0,1,2,3,4,5,6,7] (⟨L,by rw [show (bw S c)=(20,S,c) by unfold bw;rw [ez];exact (if_neg (fun h=>absurd h.2 (by simp))).trans ((if_pos nP).trans ((if_pos ⟨xg,iy⟩).trans (if_neg xR)))]<;>exact⟨rfl,rfl⟩⟩)
  refine af.skip (ai.aA (NX (af.seq ?_)))
  skip
  refine af.mem (dX:=[.blk f [vI (S.X.cN),vI (S.X.cB),vI (S.X.cH),vI (S.X.cS),vI (S.X.cZ),.map (some m),vP t,vI (S.X.last),vI (S.X.ah),vI (S.X.used)] 84,.abs (bq Tryz.prog 3 m (bB (bC L S.idx)) S.idx.length),.abs (dI 140 t S.X.cH S.ar (bC L S.us)),.abs (aF (mZ (cJ S.O L) tk ct.none)),.abs (aF (bX S.O L)),.abs (aF (dL S.O L)),.blk cb (aO c) 53,.abs R,.blk (L.b tk) [vI ((obj S.O tk).id),vI ((obj S.O tk).mode),vI ((obj S.O tk).uid),vI ((obj S.O tk).gid),vI ((obj S.O tk).sec),vI ((obj S.O tk).nano),vI ((obj S.O tk).links),vI ((obj S.O tk).opens),.bool (obj S.O tk).gone,.slice (L.dA tk) ((obj S.O tk).data.length) ((L.dC tk))] 90]) (fun w hS=>hS.Ap (i:=3) (k:=tk) rfl (by rw [hkt];decide) (jD (hkt)) (by rw [hkt];rfl)) ?_
  refine rM (List.range 32) 22 [6] ?_
  refine jR 22 [65,66,67,71,75,79,83,85] [(7,a_ 0 cb),(11,a_ 0 cb),(15,a_ 0 cb),(19,A_ 0 cb 2)] ?_
  refine nC [6] [] [(0,a_ 8 (L.b tk))] [(8,[(1,vI (c.mode))])] ?_
  refine nC [6] [86] [] [] ?_
  refine nC [6] [87] [] [] ?_
  refine nC [6] [] [(0,a_ 8 (L.b tk))] [(8,[(2,vI (c.uid))])] ?_
  refine nC [6] [88] [] [] ?_
  refine nC [6] [89] [] [] ?_
  refine nC [6] [] [(0,a_ 8 (L.b tk))] [(8,[(3,vI (c.gid))])] ?_
  refine nC [6] [90] [] [] ?_
  refine nC [6] [91] [] [] ?_
  refine aY.last rfl rfl ?_
  refine jC 1 [] [(0,A_ 8 (L.b tk) 2)] [(8,[(4,vI (c.sec)),(5,vI (c.nano))])] ?_
  refine NL (ai.np (NX (SR ?_)))
  refine ak.mem (dX:=[.abs (aF (cJ (aD S.O tk (fun o=>{ o with mode:=c.mode,uid:=c.uid,gid:=c.gid,sec:=c.sec,nano:=c.nano })) L)),.blk f [vI (S.X.cN),vI (S.X.cB),vI (S.X.cH),vI (S.X.cS),vI (S.X.cZ),.map (some m),vP t,vI (S.X.last),vI (S.X.ah),vI (S.X.used)] 84,.abs (bq Tryz.prog 3 m (bB (bC L S.idx)) S.idx.length),.abs (dI 140 t S.X.cH S.ar (bC L S.us)),.abs (aF (bX (aD S.O tk (fun o=>{ o with mode:=c.mode,uid:=c.uid,gid:=c.gid,sec:=c.sec,nano:=c.nano })) L)),.abs (aF (dL (aD S.O tk (fun o=>{ o with mode:=c.mode,uid:=c.uid,gid:=c.gid,sec:=c.sec,nano:=c.nano })) L)),.blk cb (aO c) 53,.abs R]) (fun w hS=>by have h:=hS.BS (O:=S.O) (L:=L) (i:=3) (j:=8) (idx:=[0,1,2,4,5,6,7]) (k:=tk) (f:=(fun o=>{ o with mode:=c.mode,uid:=c.uid,gid:=c.gid,sec:=c.sec,nano:=c.nano })) rfl (fun _ hx=>qX hx) rfl (by kernel_rfl) rfl (by grind) ((jD (o:=(fun o=>{ o with mode:=c.mode,uid:=c.uid,gid:=c.gid,sec:=c.sec,nano:=c.nano }) (obj S.O tk)) (hkt)).trans rfl) (by grind [qg,obj]);grind [pR,pU]) ?_
  have pJ:(obj (aD S.O tk (fun o=>{ o with mode:=c.mode,uid:=c.uid,gid:=c.gid,sec:=c.sec,nano:=c.nano })) tk).kind=1:=(lq (f:=(fun o=>{ o with mode:=c.mode,uid:=c.uid,gid:=c.gid,sec:=c.sec,nano:=c.nano })) (fun _=>rfl)).trans (hkt)
  generalize dh:(aD S.O tk (fun o=>{ o with mode:=c.mode,uid:=c.uid,gid:=c.gid,sec:=c.sec,nano:=c.nano }))=d9 at pJ ⊢
  refine jK 1 [4] [] ?_
  refine NN (af.ret ?_)
  exact RT _ [1,2,3,0,4,5,6,7] (⟨L,by subst dh;rw [show (bw S c)=(0,{ S with O:=aD S.O tk (fun o=>{ o with mode:=c.mode,uid:=c.uid,gid:=c.gid,sec:=c.sec,nano:=c.nano }) },c) by unfold bw;rw [ez];exact (if_neg (fun h=>absurd h.2 (by simp))).trans ((if_pos nP).trans ((if_pos ⟨xg,iy⟩).trans (if_pos xR)))]<;>exact⟨rfl,rfl⟩⟩)
 have hkt:(obj S.O tk).kind=2:=hI.kind hlv
 refine af.region (jK 1 [] [] ?_)
 refine NN (af.seq (af.bF (by kernel_rfl) (by kernel_rfl) ?_))
 refine jQ 8 [12,16] [(3,a_ 0 f),(7,a_ 6 cb)] ?_
 refine jT [2] [1,2,0,3,4,5,6,7] (.tuple #[.iface 94 (vP (L.b tk)),vI 0]) (oe t S.X.cH S.ar (bC L S.us) c.handle hC.hw (eT L ⟨tk,2⟩) (mF ez)) ?_
 refine jQ 5 [5,6] [] ?_
 refine NQ (NX (af.seq (SR ?_)))
 refine jK 2 [21] [] ?_
 refine NN (CF (af.skip (NX (SR (jK 1 [23] [] ?_)))))
 refine gL [] (dz (L.b tk)) ?_
 rintro _ _ ⟨rfl,rfl⟩
 refine jK 1 [7] [] ?_
 refine NN (af.seq (af.block (SR ?_)))
 refine jK 5 [30] [(3,v_ 3 (rU L hkt))] ?_
 refine ak.lK 30 (obj S.O tk).gone (fun _=>by kernel_rfl) (fun lE=>?_) (fun lE=>?_)
 ·refine jK 1 [31] [] ?_
  refine gL [] (pH (vP (L.b tk))) ?_
  rintro _ _ ⟨rfl,rfl⟩
  refine jK 3 [25] [] ?_
  refine NN (CT (SR (jK 1 [4] [] ?_)))
  refine NN (af.ret (ai.au (ai.aj ?_)))
  exact RT _ [0,1,2,3,4,5,6,7] (⟨L,by rw [show (bw S c)=(170,S,c) by grind [bw]]<;>exact⟨rfl,rfl⟩⟩)
 refine jK 5 [25] [] ?_
 refine NN (CF (SR (jK 4 [39] [(3,a_ 6 cb)] ?_)))
 refine gL [] (iw (c.mode) 4095) ?_
 rintro _ _ ⟨rfl,rfl⟩
 refine jK 2 [35] [] ?_
 refine NN (cN (0<=c.mode/\c.mode<=4095) (fun nP=>?_) (fun nP=>?_))
 ·refine SR (jK 1 [4] [] ?_)
  refine NN (af.ret (ai.au (ai.aj ?_)))
  exact RT _ [0,1,2,3,4,5,6,7] (⟨L,by rw [show (bw S c)=(120,S,c) by unfold bw;rw [ez];exact (if_neg (fun h=>absurd h.1 (by rw [lE];decide))).trans (if_neg nP)]<;>exact⟨rfl,rfl⟩⟩)
 refine SR (jK 4 [46] [(3,a_ 6 cb)] ?_)
 refine gL [] (iw (c.uid) 2147483647) ?_
 rintro _ _ ⟨rfl,rfl⟩
 refine jK 2 [49] [] ?_
 refine sN 49 (0<=c.uid/\c.uid<=2147483647) (fun xg=>?_) (fun xg=>?_)
 ·refine jK 8 [42] [] ?_
  refine NN (CT (SR (jK 1 [4] [] ?_)))
  refine NN (af.ret (ai.au (ai.aj ?_)))
  exact RT _ [0,1,2,3,4,5,6,7] (⟨L,by rw [show (bw S c)=(11,S,c) by unfold bw;rw [ez];exact (if_neg (fun h=>absurd h.1 (by rw [lE];decide))).trans ((if_pos nP).trans (if_neg (fun h=>xg h.1)))]<;>exact⟨rfl,rfl⟩⟩)
 refine jK 4 [53] [(3,a_ 6 cb)] ?_
 refine gL [] (iw (c.gid) 2147483647) ?_
 rintro _ _ ⟨rfl,rfl⟩
 refine jK 3 [42] [] ?_
 refine NN (cN (0<=c.gid/\c.gid<=2147483647) (fun iy=>?_) (fun iy=>?_))
 ·refine SR (jK 1 [4] [] ?_)
  refine NN (af.ret (ai.au (ai.aj ?_)))
  exact RT _ [0,1,2,3,4,5,6,7] (⟨L,by rw [show (bw S c)=(11,S,c) by unfold bw;rw [ez];exact (if_neg (fun h=>absurd h.1 (by rw [lE];decide))).trans ((if_pos nP).trans (if_neg (fun h=>iy h.2)))]<;>exact⟨rfl,rfl⟩⟩)
 refine SR (jK 4 [61] [(3,A_ 6 cb 2)] ?_)
 refine gL [] (jB c.sec c.nano) ?_
 rintro _ _ ⟨rfl,rfl⟩
 refine jK 2 [57] [] ?_
 refine NN (cN (dw c.sec c.nano) (fun xR=>?_) (fun xR=>?_))
 ·refine SR (jK 1 [4] [] ?_)
  refine NN (af.ret (ai.au (ai.aj ?_)))
  exact RT _ [0,1,2,3,4,5,6,7] (⟨L,by rw [show (bw S c)=(20,S,c) by unfold bw;rw [ez];exact (if_neg (fun h=>absurd h.1 (by rw [lE];decide))).trans ((if_pos nP).trans ((if_pos ⟨xg,iy⟩).trans (if_neg xR)))]<;>exact⟨rfl,rfl⟩⟩)
 refine af.skip (ai.aA (NX (af.seq ?_)))
 skip
 refine af.mem (dX:=[.blk f [vI (S.X.cN),vI (S.X.cB),vI (S.X.cH),vI (S.X.cS),vI (S.X.cZ),.map (some m),vP t,vI (S.X.last),vI (S.X.ah),vI (S.X.used)] 84,.abs (bq Tryz.prog 3 m (bB (bC L S.idx)) S.idx.length),.abs (dI 140 t S.X.cH S.ar (bC L S.us)),.abs (aF (mZ (cJ S.O L) tk ct.none)),.abs (aF (bX S.O L)),.abs (aF (dL S.O L)),.blk cb (aO c) 53,.abs R,.blk (L.b tk) [vI ((obj S.O tk).id),vI ((obj S.O tk).mode),vI ((obj S.O tk).uid),vI ((obj S.O tk).gid),vI ((obj S.O tk).sec),vI ((obj S.O tk).nano),vI ((obj S.O tk).links),vI ((obj S.O tk).opens),.bool (obj S.O tk).gone,.map (some (L.m tk)),(D8 L (obj S.O tk).up)] 97]) (fun w hS=>hS.Ap (i:=3) (k:=tk) rfl (by rw [hkt];decide) (nW (hkt)) (by rw [hkt];rfl)) ?_
 refine rM (List.range 32) 22 [6] ?_
 refine jR 22 [65,66,67,71,75,79,83,85] [(7,a_ 0 cb),(11,a_ 0 cb),(15,a_ 0 cb),(19,A_ 0 cb 2)] ?_
 refine nC [6] [] [(0,a_ 8 (L.b tk))] [(8,[(1,vI (c.mode))])] ?_
 refine nC [6] [86] [] [] ?_
 refine nC [6] [87] [] [] ?_
 refine nC [6] [] [(0,a_ 8 (L.b tk))] [(8,[(2,vI (c.uid))])] ?_
 refine nC [6] [88] [] [] ?_
 refine nC [6] [89] [] [] ?_
 refine nC [6] [] [(0,a_ 8 (L.b tk))] [(8,[(3,vI (c.gid))])] ?_
 refine nC [6] [90] [] [] ?_
 refine nC [6] [91] [] [] ?_
 refine aY.last rfl rfl ?_
 refine jC 1 [] [(0,A_ 8 (L.b tk) 2)] [(8,[(4,vI (c.sec)),(5,vI (c.nano))])] ?_
 refine NL (ai.np (NX (SR ?_)))
 refine ak.mem (dX:=[.abs (aF (cJ (aD S.O tk (fun o=>{ o with mode:=c.mode,uid:=c.uid,gid:=c.gid,sec:=c.sec,nano:=c.nano })) L)),.blk f [vI (S.X.cN),vI (S.X.cB),vI (S.X.cH),vI (S.X.cS),vI (S.X.cZ),.map (some m),vP t,vI (S.X.last),vI (S.X.ah),vI (S.X.used)] 84,.abs (bq Tryz.prog 3 m (bB (bC L S.idx)) S.idx.length),.abs (dI 140 t S.X.cH S.ar (bC L S.us)),.abs (aF (bX (aD S.O tk (fun o=>{ o with mode:=c.mode,uid:=c.uid,gid:=c.gid,sec:=c.sec,nano:=c.nano })) L)),.abs (aF (dL (aD S.O tk (fun o=>{ o with mode:=c.mode,uid:=c.uid,gid:=c.gid,sec:=c.sec,nano:=c.nano })) L)),.blk cb (aO c) 53,.abs R]) (fun w hS=>by have h:=hS.BS (O:=S.O) (L:=L) (i:=3) (j:=8) (idx:=[0,1,2,4,5,6,7]) (k:=tk) (f:=(fun o=>{ o with mode:=c.mode,uid:=c.uid,gid:=c.gid,sec:=c.sec,nano:=c.nano })) rfl (fun _ hx=>qX hx) rfl (by kernel_rfl) rfl (by grind) ((nW (o:=(fun o=>{ o with mode:=c.mode,uid:=c.uid,gid:=c.gid,sec:=c.sec,nano:=c.nano }) (obj S.O tk)) (hkt)).trans rfl) (by grind [qg,obj]);grind [pR,pU]) ?_
 have Gd:(obj (aD S.O tk (fun o=>{ o with mode:=c.mode,uid:=c.uid,gid:=c.gid,sec:=c.sec,nano:=c.nano })) tk).kind=2:=(lq (f:=(fun o=>{ o with mode:=c.mode,uid:=c.uid,gid:=c.gid,sec:=c.sec,nano:=c.nano })) (fun _=>rfl)).trans (hkt)
 generalize dh:(aD S.O tk (fun o=>{ o with mode:=c.mode,uid:=c.uid,gid:=c.gid,sec:=c.sec,nano:=c.nano }))=d9 at Gd ⊢
 refine jK 1 [4] [] ?_
 refine NN (af.ret ?_)
 exact RT _ [1,2,3,0,4,5,6,7] (⟨L,by subst dh;rw [show (bw S c)=(0,{ S with O:=aD S.O tk (fun o=>{ o with mode:=c.mode,uid:=c.uid,gid:=c.gid,sec:=c.sec,nano:=c.nano }) },c) by unfold bw;rw [ez];exact (if_neg (fun h=>absurd h.1 (by rw [lE];decide))).trans ((if_pos nP).trans ((if_pos ⟨xg,iy⟩).trans (if_pos xR)))]<;>exact⟨rfl,rfl⟩⟩)
theorem Le {β:Bs} (S:aL) (L:HL) (f m t:Nat) (hI:Inv S) (cb:Nat) (c:aH) (hC:iO β c) :
    Spec Tryz.prog β 86 #[vP f,vP cb] ((pA f m t L S)++[.blk cb (aO c) 53]) (fun v l=>∃ L2,v=vI (cM S c).1/\l=((pA f m t L2 ((cM S c).2.1))++[.blk cb (aO ((cM S c).2.2)) 53])):=by
 have hX:=hI.hX
 refine SE Tryz.func86 Tryz.ntmps86 (fun R=>?_)
 refine SR (jK 1 [] [] ?_)
 refine NN (af.seq (af.bF (by kernel_rfl) (by kernel_rfl) ?_))
 refine jQ 9 [10,14,18] [(4,a_ 6 cb),(8,a_ 6 cb)] ?_
 rcases iu hI.toInv0 c.handle c.name 192 with ⟨e,hab,hne⟩|⟨d,hab,hd,mM,j4,ez⟩
 ·refine jT [0,2,3] [0,3,1,2,4,5,6,7] (.tuple #[.pointer none,vI (e)]) ((by have h:=fM S L f m t hI c.handle hC.hw c.name hC.nm 192 (β:=β);rw [hab] at h;exact h)) ?_
  refine jQ 5 [5,6] [] ?_
  refine NQ (NX (af.seq (SR ?_)))
  refine jK 2 [23] [] ?_
  refine NN (cN ((e:Int)=(0:Int)) (fun h23=>?_) (fun h23=>?_))
  ·refine SR (jK 2 [4] [] ?_)
   refine NN (af.ret (ai.aj ?_))
   exact RT (vI (e)) [0,1,2,3,4,5,6,7] (⟨L,by rw [show (cM S c)=(e,S,c) by unfold cM;rw [hab]]<;>exact⟨rfl,rfl⟩⟩)
  exact absurd h23 hne
 have hkd:(obj S.O d).kind=2:=hI.kind hd
 refine jT [0,2,3] [0,3,1,2,4,5,6,7] (.tuple #[vP (L.b d),vI 0]) ((by have h:=fM S L f m t hI c.handle hC.hw c.name hC.nm 192 (β:=β);rw [hab] at h;exact h)) ?_
 refine jQ 5 [5,6] [] ?_
 refine NQ (NX (af.seq (SR ?_)))
 refine jK 2 [23] [] ?_
 refine NN (CF (af.skip (NX (af.seq (SR (jK 4 [28] [(3,a_ 6 cb)] ?_))))))
 refine gL [] (iw (c.mode) 4095) ?_
 rintro _ _ ⟨rfl,rfl⟩
 refine jK 1 [30] [] ?_
 refine NN (cN (0<=c.mode/\c.mode<=4095) (fun lE=>?_) (fun lE=>?_))
 ·refine SR (jK 1 [4] [] ?_)
  refine NN (af.ret (ai.aj ?_))
  exact RT (vI 120) [0,1,2,3,4,5,6,7] (⟨L,by rw [show (cM S c)=(120,S,c) by unfold cM;rw [hab];exact if_neg lE]<;>exact⟨rfl,rfl⟩⟩)
 refine af.skip (NX (af.seq (SR (jK 6 [31,32,36] [(5,a_ 6 cb)] ?_))))
 refine gL [0,1,5,3] (BB S L f m t hI d hd c.name hC.nm) ?_
 rintro _ _ ⟨rfl,rfl⟩
 refine jK 1 [6] [] ?_
 refine NS (jK 2 [39] [] ?_)
 refine NN (cN (((dO S.X S.O S.idx d c.name):Int)=(0:Int)) (fun h0=>?_) (fun h0=>?_))
 ·refine SR (jK 2 [4] [] ?_)
  refine NN (af.ret (ai.aj ?_))
  exact RT (vI ((dO S.X S.O S.idx d c.name))) [0,1,4,3,5,2,6,7] (⟨L,by rw [show (cM S c)=(dO S.X S.O S.idx d c.name,S,c) by unfold cM;rw [hab];exact (if_pos lE).trans (if_neg h0)]<;>exact⟨rfl,rfl⟩⟩)
 have hno:=tT h0
 refine af.skip (NX (SR (jN 8 [7] (fun b4=>[(3,a_ 6 cb)]) (fun _=>[]) (fun b4=>.blk b4 [vI 0,vI (c.mode),vI 0,vI 0,vI 0,vI 0,vI 0,vI 0,.bool false,.slice none (0) (0)] 90) (fun b4=>?_))))
 refine NN (af.seq (af.seq ?_))
 rcases Int.lt_or_le (S.us.length:Int) S.X.cH with CU|CU
 ·refine af.region (jK 4 [49,50,52] [] ?_)
  obtain⟨L2,hL2⟩:∃ L2:HL,L2=L.put (aK S.X) b4 0 none 0:=⟨_,rfl⟩
  have hfr:=hI.toInv0.fresh
  refine ak.mem (fun w hS=>hS.yI hL2 hfr (o:=(⟨0,c.mode,0,0,0,0,0,0,false,1,[],⟨#[]⟩,[],none⟩:aN)) (i:=3) (j:=8) (ix:=[0,1,2,4,5,6,7]) rfl rfl (by kernel_rfl) rfl (by show (1:Int)≠0;decide) ((jD (L:=L2) (k:=(aK S.X)) (o:=(⟨0,c.mode,0,0,0,0,0,0,false,1,[],⟨#[]⟩,[],none⟩:aN)) rfl).trans (by rw [show L2.dA (aK S.X)=none by rw [hL2];exact if_pos rfl,show L2.dC (aK S.X)=0 by rw [hL2];exact if_pos rfl];rfl)) rfl) ?_
  refine ak.eE [(3,pE (aD S.O (aK S.X) (fun _=>(⟨0,c.mode,0,0,0,0,0,0,false,1,[],⟨#[]⟩,[],none⟩:aN))) L2)] (fun w hS=>hS.AF hL2 hfr (o:=(⟨0,c.mode,0,0,0,0,0,0,false,1,[],⟨#[]⟩,[],none⟩:aN)) (i:=3) rfl (by show (1:Int)≠2;decide)) ?_
  refine ak.mem (fun w hS=>hS.ld (e:=5) (size:=1)) ?_
  refine ak.mem (fun w hS=>hS.Vd hL2 (o:=(⟨0,c.mode,0,0,0,0,0,0,false,1,[],⟨#[]⟩,[],none⟩:aN)) (i:=5) (j:=8) (ix:=[0,1,2,3,4,6,7]) rfl rfl (by kernel_rfl) rfl rfl rfl) ?_
  refine ak.eE [(3,.abs (bq Tryz.prog 3 m (bB (bC L2 S.idx)) S.idx.length)),(5,.abs (dI 140 t S.X.cH S.ar (bC L2 S.us)))] (fun w hS=>by rw [jA hL2 hfr.idx,jA hL2 hfr.us];exact hS) ?_
  refine gL (f:=116) (args:=#[vP f,.iface 87 (vP b4)]) (pre:=[pF f m t S.X,pT t S.X.cH S.ar L2 S.us,zi1 S c L2]) [2,5,1] ((by have h:=wi (β:=β) { S with O:=(aD S.O (aK S.X) (fun _=>(⟨0,c.mode,0,0,0,0,0,0,false,1,[],⟨#[]⟩,[],none⟩:aN))) } L2 f m t ⟨(aK S.X),1⟩ (by grind [obj,aD,aK,cV]) (by simp) (by grind [obj,aD,aK,cV]);rw [sJ hL2,jE (S:={ S with O:=(aD S.O (aK S.X) (fun _=>(⟨0,c.mode,0,0,0,0,0,0,false,1,[],⟨#[]⟩,[],none⟩:aN))) }) (t:=⟨(aK S.X),1⟩) CU] at h;exact h)) ?_
  rintro _ _ ⟨rfl,rfl⟩
  refine jC 7 [6] [(5,a_ 6 cb)] [(6,[(12,vI ((aq.least S.us)))])] ?_
  refine NS (jK 2 [59] [] ?_)
  refine NN (CF (af.skip (NX (SR (sl 7 (vP b4) (vP (L2.b (aK S.X))) (by rw [JB hL2]) ?_)))))
  refine ak.eE [(3,.abs (aF (bX (aD (aD S.O (aK S.X) (fun _=>(⟨0,c.mode,0,0,0,0,0,0,false,1,[],⟨#[]⟩,[],none⟩:aN))) (aK S.X) (fun o=>{ o with opens:=o.opens+1 })) L2))),(5,.abs (aF (dL (aD (aD S.O (aK S.X) (fun _=>(⟨0,c.mode,0,0,0,0,0,0,false,1,[],⟨#[]⟩,[],none⟩:aN))) (aK S.X) (fun o=>{ o with opens:=o.opens+1 })) L2)))] (fun w hS=>by rw [pR (O:=(aD S.O (aK S.X) (fun _=>(⟨0,c.mode,0,0,0,0,0,0,false,1,[],⟨#[]⟩,[],none⟩:aN)))) (k:=(aK S.X)) (f:=(fun o=>{ o with opens:=o.opens+1 })) rfl rfl,pU (O:=(aD S.O (aK S.X) (fun _=>(⟨0,c.mode,0,0,0,0,0,0,false,1,[],⟨#[]⟩,[],none⟩:aN)))) (k:=(aK S.X)) (f:=(fun o=>{ o with opens:=o.opens+1 })) rfl rfl];exact hS) ?_
  have hkN:(obj (aD (aD S.O (aK S.X) (fun _=>(⟨0,c.mode,0,0,0,0,0,0,false,1,[],⟨#[]⟩,[],none⟩:aN))) (aK S.X) (fun o=>{ o with opens:=o.opens+1 })) (aK S.X)).kind=1:=by rw [cV,cV]
  have hoN:(obj (aD (aD S.O (aK S.X) (fun _=>(⟨0,c.mode,0,0,0,0,0,0,false,1,[],⟨#[]⟩,[],none⟩:aN))) (aK S.X) (fun o=>{ o with opens:=o.opens+1 })) (aK S.X)).opens=1:=by rw [cV,cV];rfl
  generalize dh:(aD (aD S.O (aK S.X) (fun _=>(⟨0,c.mode,0,0,0,0,0,0,false,1,[],⟨#[]⟩,[],none⟩:aN))) (aK S.X) (fun o=>{ o with opens:=o.opens+1 }))=d9 at hkN hoN ⊢
  refine jK 6 [8] [(4,v_ 2 (lY L2 hkN))] ?_
  refine NS (jK 6 [66,67,71] [(5,a_ 6 cb)] ?_)
  refine gL [0] (Bv S.X f m t hX c.mode) ?_
  rintro _ _ ⟨rfl,rfl⟩
  refine jK 2 [74] [] ?_
  refine ak.mem (fun w hS=>hS.Ap (i:=2) (k:=(aK S.X)) rfl (by rw [hkN];decide) (jD (hkN)) (congrArg qg (hkN))) ?_
  refine jC 1 [] [(0,A_ 8 (L2.b (aK S.X)) 9)] [(8,[(0,vI (S.X.last+1)),(1,vI (c.mode)),(2,vI 0),(3,vI 0),(4,vI (S.X.cS)),(5,vI (S.X.cZ)),(6,vI 0),(7,vI 0),(8,.bool false)])] ?_
  refine ak.mem (dX:=[.abs (aF (cJ (aD d9 (aK S.X) (fun o=>{ o with id:=S.X.last+1,mode:=c.mode,uid:=0,gid:=0,sec:=S.X.cS,nano:=S.X.cZ,links:=0,opens:=0,gone:=false })) L2)),.blk f [vI (S.X.cN),vI (S.X.cB),vI (S.X.cH),vI (S.X.cS),vI (S.X.cZ),.map (some m),vP t,vI (S.X.last+1),vI (S.X.ah),vI (S.X.used)] 84,.abs (dI 140 t S.X.cH (max S.ar ((S.us.length:Int)+1)) (bC L2 (ins (aq.least S.us) ⟨(aK S.X),1⟩ S.us))),.abs (aF (bX (aD d9 (aK S.X) (fun o=>{ o with id:=S.X.last+1,mode:=c.mode,uid:=0,gid:=0,sec:=S.X.cS,nano:=S.X.cZ,links:=0,opens:=0,gone:=false })) L2)),.abs (bq Tryz.prog 3 m (bB (bC L2 S.idx)) S.idx.length),.abs (aF (dL (aD d9 (aK S.X) (fun o=>{ o with id:=S.X.last+1,mode:=c.mode,uid:=0,gid:=0,sec:=S.X.cS,nano:=S.X.cZ,links:=0,opens:=0,gone:=false })) L2)),.blk cb (aO { c with answer:=aq.least S.us }) 53,.abs R]) (fun w hS=>by have h:=hS.BS (O:=d9) (L:=L2) (i:=2) (j:=8) (idx:=[0,1,3,4,5,6,7]) (k:=(aK S.X)) (f:=(fun o=>{ o with id:=S.X.last+1,mode:=c.mode,uid:=0,gid:=0,sec:=S.X.cS,nano:=S.X.cZ,links:=0,opens:=0,gone:=false })) rfl (fun _ hx=>qX hx) rfl (by kernel_rfl) rfl (by grind) ((jD (o:=(fun o=>{ o with id:=S.X.last+1,mode:=c.mode,uid:=0,gid:=0,sec:=S.X.cS,nano:=S.X.cZ,links:=0,opens:=0,gone:=false }) (obj d9 (aK S.X))) (hkN)).trans rfl) (by grind);rw [pR (O:=d9) (k:=(aK S.X)) (f:=(fun o=>{ o with id:=S.X.last+1,mode:=c.mode,uid:=0,gid:=0,sec:=S.X.cS,nano:=S.X.cZ,links:=0,opens:=0,gone:=false })) rfl rfl,pU (O:=d9) (k:=(aK S.X)) (f:=(fun o=>{ o with id:=S.X.last+1,mode:=c.mode,uid:=0,gid:=0,sec:=S.X.cS,nano:=S.X.cZ,links:=0,opens:=0,gone:=false })) rfl rfl];exact h) ?_
  have Bt:(obj (aD d9 (aK S.X) (fun o=>{ o with id:=S.X.last+1,mode:=c.mode,uid:=0,gid:=0,sec:=S.X.cS,nano:=S.X.cZ,links:=0,opens:=0,gone:=false })) (aK S.X)).kind=1:=(lq (f:=(fun o=>{ o with id:=S.X.last+1,mode:=c.mode,uid:=0,gid:=0,sec:=S.X.cS,nano:=S.X.cZ,links:=0,opens:=0,gone:=false })) (fun _=>rfl)).trans (hkN)
  generalize dJ:(aD d9 (aK S.X) (fun o=>{ o with id:=S.X.last+1,mode:=c.mode,uid:=0,gid:=0,sec:=S.X.cS,nano:=S.X.cZ,links:=0,opens:=0,gone:=false }))=gi at Bt ⊢
  refine NS (jK 5 [76,79] [] ?_)
  refine wh 0 [(5,1),(3,2)] (aK S.X) 7 (fun o=>{ o with opens:=(obj d9 (aK S.X)).opens }) Bt (fun x6 oB=>?_)
  have UE:=ku oB Bt
  refine NS ?_
  have hfin:x6=aD S.O (aK S.X) (fun _=>{ cD S.X 1 c.mode with opens:=1 }):=by subst oB;subst dJ;rw [hoN];subst dh;simp only [wA];rfl
  subst hfin
  refine jK 8 [80,81,85,87] [(5,a_ 6 cb)] ?_
  refine gL (f:=122) (args:=#[vP f,vP (L.b d),.string c.name,.iface 87 (vP (L2.b (aK S.X)))]) (pre:=[pF f m t { S.X with last:=S.X.last+1 },pI m L2 S.idx,pO (aD S.O (aK S.X) (fun _=>{ cD S.X 1 c.mode with opens:=1 })) L2,pE (aD S.O (aK S.X) (fun _=>{ cD S.X 1 c.mode with opens:=1 })) L2]) [1,4,0,5] ((by have h:=zl (β:=β) S L2 f m t hI.toInv0 d hd c.name hC.nm hno { cD S.X 1 c.mode with opens:=1 } rfl (by simp [cD]) rfl (xC h0);rw [BW hL2 (hI.AA hd)] at h;exact h)) ?_
  rintro _ _ ⟨rfl,rfl⟩
  refine NS (ak.eE [(5,.abs (aF (bX ((fA S d c.name { cD S.X 1 c.mode with opens:=1 }).O) L2)))] (fun w hS=>by rw [show bX ((fA S d c.name { cD S.X 1 c.mode with opens:=1 }).O) L2=bX (aD S.O (aK S.X) (fun _=>{ cD S.X 1 c.mode with opens:=1 })) L2 from jF];exact hS) ?_)
  refine jK 1 [4] [] ?_
  refine NN (af.ret ?_)
  exact RT (vI 0) [0,1,4,2,5,3,6,7] (⟨L2,by rw [show (cM S c)=(0,(fA { S with us:=(ins (aq.least S.us) ⟨(aK S.X),1⟩ S.us),ar:=(max S.ar ((S.us.length:Int)+1)) } d c.name { cD S.X 1 c.mode with opens:=1 }),{ c with answer:=aq.least S.us }) by unfold cM;rw [hab];exact (if_pos lE).trans ((if_pos h0).trans (by grind [kG,fA,ins,aK,cD]))]<;>exact⟨rfl,rfl⟩⟩)
 refine af.region (jK 4 [49,50,52] [] ?_)
 obtain⟨L2,hL2⟩:∃ L2:HL,L2=L.put (aK S.X) b4 0 none 0:=⟨_,rfl⟩
 have hfr:=hI.toInv0.fresh
 refine ak.mem (fun w hS=>hS.yI hL2 hfr (o:=(⟨0,c.mode,0,0,0,0,0,0,false,1,[],⟨#[]⟩,[],none⟩:aN)) (i:=3) (j:=8) (ix:=[0,1,2,4,5,6,7]) rfl rfl (by kernel_rfl) rfl (by show (1:Int)≠0;decide) ((jD (L:=L2) (k:=(aK S.X)) (o:=(⟨0,c.mode,0,0,0,0,0,0,false,1,[],⟨#[]⟩,[],none⟩:aN)) rfl).trans (by rw [show L2.dA (aK S.X)=none by rw [hL2];exact if_pos rfl,show L2.dC (aK S.X)=0 by rw [hL2];exact if_pos rfl];rfl)) rfl) ?_
 refine ak.eE [(3,pE (aD S.O (aK S.X) (fun _=>(⟨0,c.mode,0,0,0,0,0,0,false,1,[],⟨#[]⟩,[],none⟩:aN))) L2)] (fun w hS=>hS.AF hL2 hfr (o:=(⟨0,c.mode,0,0,0,0,0,0,false,1,[],⟨#[]⟩,[],none⟩:aN)) (i:=3) rfl (by show (1:Int)≠2;decide)) ?_
 refine ak.mem (fun w hS=>hS.ld (e:=5) (size:=1)) ?_
 refine ak.mem (fun w hS=>hS.Vd hL2 (o:=(⟨0,c.mode,0,0,0,0,0,0,false,1,[],⟨#[]⟩,[],none⟩:aN)) (i:=5) (j:=8) (ix:=[0,1,2,3,4,6,7]) rfl rfl (by kernel_rfl) rfl rfl rfl) ?_
 refine ak.eE [(3,.abs (bq Tryz.prog 3 m (bB (bC L2 S.idx)) S.idx.length)),(5,.abs (dI 140 t S.X.cH S.ar (bC L2 S.us)))] (fun w hS=>by rw [jA hL2 hfr.idx,jA hL2 hfr.us];exact hS) ?_
 refine gL (f:=116) (args:=#[vP f,.iface 87 (vP b4)]) (pre:=[pF f m t S.X,pT t S.X.cH S.ar L2 S.us,zi1 S c L2]) [2,5,1] ((by have h:=wi (β:=β) { S with O:=(aD S.O (aK S.X) (fun _=>(⟨0,c.mode,0,0,0,0,0,0,false,1,[],⟨#[]⟩,[],none⟩:aN))) } L2 f m t ⟨(aK S.X),1⟩ (by grind [obj,aD,aK,cV]) (by simp) (by grind [obj,aD,aK,cV]);rw [sJ hL2,kV (S:={ S with O:=(aD S.O (aK S.X) (fun _=>(⟨0,c.mode,0,0,0,0,0,0,false,1,[],⟨#[]⟩,[],none⟩:aN))) }) (t:=⟨(aK S.X),1⟩) (by grind)] at h;exact h)) ?_
 rintro _ _ ⟨rfl,rfl⟩
 refine jC 7 [6] [(5,a_ 6 cb)] [(6,[(12,vI 0)])] ?_
 refine NS (jK 2 [59] [] ?_)
 refine NN (CT (SR ?_))
 have hk0:(obj S.O (aK S.X)).kind=0:=hI.uR _ (by have:=pW hI.toInv0;omega)
 refine ak.eE [(2,.abs (aF (cJ S.O L)))] (fun w hS=>hS.AB (i:=2) rfl (aK S.X) (fun x hx=>by rw [xT hx,Mv hL2 hfr hx]) (by unfold cJ;rw [hk0];rfl)) ?_
 refine ak.eE [(5,.abs (aF (dL S.O L)))] (fun w hS=>hS.AB (i:=5) rfl (aK S.X) (fun x hx=>by rw [Aj hx,FE hL2 hfr hx]) (by unfold dL;rw [hk0];rfl)) ?_
 refine ak.mem (dX:=[.blk f [vI (S.X.cN),vI (S.X.cB),vI (S.X.cH),vI (S.X.cS),vI (S.X.cZ),.map (some m),vP t,vI (S.X.last),vI (S.X.ah),vI (S.X.used)] 84,.abs (dI 140 t S.X.cH S.ar (bC L2 S.us)),.abs (aF (cJ S.O L)),.abs (aF (bX S.O L)),.abs (bq Tryz.prog 3 m (bB (bC L2 S.idx)) S.idx.length),.abs (aF (dL S.O L)),.blk cb (aO { c with answer:=0 }) 53,.abs R]) (fun w hS=>hS.AB (i:=3) rfl (aK S.X) (fun x hx=>by rw [Ak hx,BX hL2 hx]) (by unfold bX;rw [hk0];rfl)) ?_
 refine ak.mem (dX:=[.blk f [vI (S.X.cN),vI (S.X.cB),vI (S.X.cH),vI (S.X.cS),vI (S.X.cZ),.map (some m),vP t,vI (S.X.last),vI (S.X.ah),vI (S.X.used)] 84,.abs (dI 140 t S.X.cH S.ar (bC L S.us)),.abs (aF (cJ S.O L)),.abs (aF (bX S.O L)),.abs (bq Tryz.prog 3 m (bB (bC L S.idx)) S.idx.length),.abs (aF (dL S.O L)),.blk cb (aO { c with answer:=0 }) 53,.abs R]) (fun w hS=>by rw [jA hL2 hfr.idx,jA hL2 hfr.us] at hS;exact hS) ?_
 refine jK 2 [4] [] ?_
 refine NN (af.ret (ai.aj ?_))
 exact RT (vI 130) [0,4,1,2,3,5,6,7] (⟨L,by rw [show (cM S c)=(130,S,{ c with answer:=0 }) by unfold cM;rw [hab];exact (if_pos lE).trans ((if_pos h0).trans (by grind [kG]))]<;>exact⟨rfl,rfl⟩⟩)
end
section
open Go.RowKit
def x7 (b:Nat) (v:Value):ct where
  h F w:=∃ cs T,cs[0]?=some v/\(HP.blk b cs T).h F w
  lt:=fun ⟨_,_,_,h⟩=>HP.lt h
  st:=fun ⟨cs,T,hv,h⟩ _ _ hk hd=>⟨cs,T,hv,HP.st h hk hd⟩
theorem x7.cell {b:Nat} {v:Value}:∀ F w,(x7 b v).h F w->w.cell? ⟨b,0,none⟩=some v:=by
  rintro F w ⟨cs,T,hv,h⟩
  exact (jc h.1 rfl rfl hv).1
theorem Sat.first {β:Bs} {l:List HP} {w:World} {i b:Nat} {cs:List Value} {T:TypeId} {v:Value} (h:Sat β l w) (hp:l[i]?=some (.blk b cs T)) (hv:cs[0]?=some v):Sat β [.abs (x7 b v)] w:=by
  obtain⟨ho,φ,h1,h2,h3⟩:=h
  have hi:=bN hp
  refine⟨ho,fun _=>φ i,fun j q hq=>?_,fun j hj=>h2 i hi,fun j k hj hk hne=>?_⟩
  ·have hj:=bN hq
   simp at hj
   subst hj
   simp at hq
   subst hq
   exact⟨cs,T,hv,h1 i _ hp⟩
  simp at hj hk
  omega
section mix
variable {P:Program} {β:Bs} {N:di} {ops:Array Oper} {S:List HP} {l:List Nat} {fr:Fr} {hps:List HP} {Q:Post} {i:Nat}
theorem af.O5 {id:Nat} (perm:List Nat) (nr:Nat) (hm:P.follows .mixedOrders=true) (hB:zS ops perm nr=true) (hp:∀ w,Sat β hps w->Sat β S w) (h:aY P β N ops S nr perm fr hps Q):af P β N (.region id ops true) fr hps Q:=by
  intro junk w hS
  unfold zS at hB
  simp only [Bool.and_eq_true,beq_iff_eq] at hB
  obtain⟨⟨⟨h1,h2⟩,h3⟩,h4⟩:=hB
  have dr:=hS.drewN 1
  have h5:=Fg (Q:=Q) h1 h2 nr perm _ _ _ h4 (fun j oj _ hl=>by simp [Array.getD_eq_getD_getElem?,Array.getElem?_replicate] at hl;split at hl<;>simp at hl) (hp _ dr) (h junk (w.drewN 1) dr)
  rw [h3] at h5
  refine Code.wp_mono (fun e a w q=>?_) (wp_region_any hm (nR _ _ _ _ h5))
  cases e with
  | normal=>exact q
  | exit id=>exact q.elim
  | goto l=>exact q.elim
  | ret=>exact q.elim
  | panic ch=>exact q.elim
  | outgrown=>exact q.elim
theorem aY.O6 {ι:Type} {fr':ι->Fr} {hp':ι->List HP} {o:Oper} (hop:ops[i]?=some o) (hg:o.guard=none) (h:ak P β N #[o] 0 fr hps (NP (ql β N fr' hp'))) (hp:∀ j w,Sat β (hp' j) w->Sat β S w)
    (K:∀ j,aY P β N ops S 0 l (fr' j) (hp' j) Q):aY P β N ops S 0 (i::l) fr hps Q:=by
  grind [qC,jd,NP,ql,bY,kU,ak,Sat,aY]
end mix
end
section
open Go.RowKit Go.Maps aX aq
def R9:List Nat:=[82,83,84,85,86,87,88,89,90,91,92,93,94,95,96]
def hnV:Value:=.agg ⟨.nilFunc::R9.map (fun f=>.func (.func f) #[] #[])⟩
theorem O7 {n:Int} (h:1<=n/\n<=15):n=1\/n=2\/n=3\/n=4\/n=5\/n=6\/n=7\/n=8\/n=9\/n=10\/n=11\/n=12\/n=13\/n=14\/n=15:=by omega
theorem Zm {w:World} {o:Oper} {ev:Operand->Value} {x y:Operand} {n:Int} (ho:o.op=.index 119 x y) (hx:ev x=hnV) (hy:ev y=.int .i64 n) (hn:1<=n/\n<=15):oL Tryz.prog ev o w (.func (.func (R9.getD (n.toNat - 1) 0)) #[] #[]) w:=by
  obtain⟨dst,op,type,pos,after,guard⟩:=o
  cases ho
  refine .inl ?_
  simp only [execOp,hx,hy]
  rcases O7 hn with h|h|h|h|h|h|h|h|h|h|h|h|h|h|h<;>subst h<;>kernel_rfl
theorem ak.hn {β:Bs} {N:di} {k:Nat} {ops:Array Oper} {fr:Fr} {hps:List HP} {Q:Post} {d:Option Tmp} {x y:Operand} {n:Int} (hn:1<=n/\n<=15) (K:ak Tryz.prog β N ops (k+1) (cO fr d (.func (.func (R9.getD (n.toNat - 1) 0)) #[] #[])) hps Q)
    (hop:∀ junk,eX N junk ops fr k=some (.index 119 x y,d):=by intro _;kernel_rfl) (hx:∀ junk,cQ N fr junk x=hnV:=by intro _;kernel_rfl) (hy:∀ junk,cQ N fr junk y=.int .i64 n:=by intro _;kernel_rfl):ak Tryz.prog β N ops k fr hps Q:=
  ak.jX hop (fun _ junk w ho hS=>⟨w,Zm ho (hx junk) (hy junk) hn,hS⟩) K
theorem aat {β:Bs} {S:aL} {L:HL} {f m t b:Nat} {c:aH} (n:Int) (hI:Inv S) (hC:iO β c) (h:1<=n/\n<=15) (he:c.op=n):Spec Tryz.prog β (R9.getD (n.toNat - 1) 0) #[vP f,vP b] (pA f m t L S++[pC b c]) (fun v l=>∃ L2,v=vI (eU S c).1/\l=pA f m t L2 (eU S c).2.1++[pC b (eU S c).2.2]):=by
  subst he
  rcases O7 h with h|h|h|h|h|h|h|h|h|h|h|h|h|h|h<;>rw [h]
  ·first|exact absurd hC.op (by rw [h];unfold r9;decide)|(rw [Ca h];exact O0 S L f m t hI b c hC)
  ·first|exact absurd hC.op (by rw [h];unfold r9;decide)|(rw [Cb h];exact Ib S L f m t hI b c hC)
  ·first|exact absurd hC.op (by rw [h];unfold r9;decide)|(rw [El h];exact Gg S L f m t hI b c hC)
  ·first|exact absurd hC.op (by rw [h];unfold r9;decide)|(rw [Cc h];exact L7 S L f m t hI b c hC)
  ·first|exact absurd hC.op (by rw [h];unfold r9;decide)|(rw [Em h];exact Le S L f m t hI b c hC)
  ·first|exact absurd hC.op (by rw [h];unfold r9;decide)|(rw [En h];exact Ic S L f m t hI b c hC)
  ·first|exact absurd hC.op (by rw [h];unfold r9;decide)|(rw [Eo h];exact O3 S L f m t hI b c hC)
  ·first|exact absurd hC.op (by rw [h];unfold r9;decide)|(rw [Ep h];exact Lb S L f m t hI b c hC)
  ·first|exact absurd hC.op (by rw [h];unfold r9;decide)|(rw [Er h];exact L9 S L f m t hI b c hC)
  ·first|exact absurd hC.op (by rw [h];unfold r9;decide)|(rw [AL h];exact Ie S L f m t hI b c hC)
  ·first|exact absurd hC.op (by rw [h];unfold r9;decide)|(rw [AO h];exact O4 S L f m t hI b c hC)
  ·first|exact absurd hC.op (by rw [h];unfold r9;decide)|(rw [AP h];exact Ld S L f m t hI b c hC)
  ·first|exact absurd hC.op (by rw [h];unfold r9;decide)|(rw [AQ h];exact Ma S L f m t hI b c hC)
  ·first|exact absurd hC.op (by rw [h];unfold r9;decide)|(rw [AR h];exact L8 S L f m t hI b c hC)
  first|exact absurd hC.op (by rw [h];unfold r9;decide)|(rw [AU h];exact Lc S L f m t hI b c hC)
theorem Sb {S:aL} {c:aH} (h:1<=c.op/\c.op<=15):(eU S c).2.2.op=c.op:=by
  rcases O7 h with h|h|h|h|h|h|h|h|h|h|h|h|h|h|h
  ·rw [Ca h];exact Wu
  ·rw [Cb h];exact NU
  ·rw [El h];exact LD
  all_goals grind [Cc,NV,Em,LF,En,JH,Eo,Qg,Ep,LG,Er,NY,AL,NZ,AO,Wv,AP,Qh,AQ,Ts,AR,NW,AU,LH]
end
section
open Go.RowKit Go.Maps aX aq
attribute [local irreducible] ak aV af ai aY
abbrev V4 (b3:Nat):=(.blk b3 [vI 0,vI 0,vI 0,.string ⟨#[]⟩,.string ⟨#[]⟩,.slice none (0) (0),vI 0,vI 0,vI 0,vI 0,vI 0,vI 0,vI 0] 53:HP)
abbrev zj2 (c:aH):=([(0,vI (c.op)),(1,vI (c.handle)),(2,vI (c.other)),(3,.string c.name),(4,.string c.text),(5,.slice c.dA (c.data.length) (c.dC)),(6,vI (c.mode)),(7,vI (c.uid)),(8,vI (c.gid)),(9,vI (c.sec)),(10,vI (c.nano)),(11,vI 230)]:Fr)
theorem Mb {β:Bs}:Spec Tryz.prog β 48 #[] [] (fun v l=>v=.agg #[.nilFunc,.func (.func 82) #[] #[],.func (.func 83) #[] #[],.func (.func 84) #[] #[],.func (.func 85) #[] #[],.func (.func 86) #[] #[],.func (.func 87) #[] #[],.func (.func 88) #[] #[],.func (.func 89) #[] #[],.func (.func 90) #[] #[],.func (.func 91) #[] #[],.func (.func 92) #[] #[],.func (.func 93) #[] #[],.func (.func 94) #[] #[],.func (.func 95) #[] #[],.func (.func 96) #[] #[]]/\l=[]):=by
 refine SE Tryz.func48 Tryz.ntmps48 (fun R=>?_)
 refine SR (jN 1 [0] (fun _=>[]) (fun _=>[]) (fun b1=>.blk b1 [.nilFunc,.nilFunc,.nilFunc,.nilFunc,.nilFunc,.nilFunc,.nilFunc,.nilFunc,.nilFunc,.nilFunc,.nilFunc,.nilFunc,.nilFunc,.nilFunc,.nilFunc,.nilFunc] 119) (fun b1=>?_))
 refine NS (jC 2 [] [(1,A_ 1 b1 16)] [(1,[(1,.func (.func 82) #[] #[]),(2,.func (.func 83) #[] #[]),(3,.func (.func 84) #[] #[]),(4,.func (.func 85) #[] #[]),(5,.func (.func 86) #[] #[]),(6,.func (.func 87) #[] #[]),(7,.func (.func 88) #[] #[]),(8,.func (.func 89) #[] #[]),(9,.func (.func 90) #[] #[]),(10,.func (.func 91) #[] #[]),(11,.func (.func 92) #[] #[]),(12,.func (.func 93) #[] #[]),(13,.func (.func 94) #[] #[]),(14,.func (.func 95) #[] #[]),(15,.func (.func 96) #[] #[])])] ?_)
 refine NN (af.ret ?_)
 exact rT _ [A_ 1 b1 16] [0] (⟨rfl,rfl⟩)
theorem Sc {β:Bs} (S:aL) (L:HL) (f m t:Nat) (hI:Inv S) (c:aH) (hC:iO β c) :
    Spec Tryz.prog β 15 #[vP f,.agg ⟨aO c⟩] (pA f m t L S) (fun v l=>∃ L2,v=.agg ⟨aO (iD S c).2⟩/\l=(pA f m t L2 ((iD S c).1))):=by
 have hX:=hI.hX
 refine SE Tryz.func15 Tryz.ntmps15 (fun R=>?_)
 refine SR (jN 1 [3] (fun _=>[]) (fun _=>[]) (fun b2=>.blk b2 (aO c) 53) (fun b2=>?_))
 refine jN 1 [4] (fun _=>[]) (fun _=>[]) (fun b3=>.blk b3 [vI 0,vI 0,vI 0,.string ⟨#[]⟩,.string ⟨#[]⟩,.slice none (0) (0),vI 0,vI 0,vI 0,vI 0,vI 0,vI 0,vI 0] 53) (fun b3=>?_)
 refine NS (jC 2 [] [(1,a_ 7 b2)] [(7,[(12,vI 0)])] ?_)
 refine NS (jC 2 [] [(1,a_ 7 b2)] [(7,[(11,vI 230)])] ?_)
 refine NN (af.seq (SR (jK 4 [10] [(1,a_ 7 b2)] ?_)))
 refine sP 10 ((c.op:Int) ≥ (1:Int)) (fun h10=>?_) (fun h10=>?_)
 ·refine jK 4 [14] [(1,a_ 7 b2)] ?_
  refine NN (cP ((c.op:Int)<=(15:Int)) (fun iU=>?_) (fun iU=>?_))
  ·have hop:1<=c.op/\c.op<=15:=⟨h10,iU⟩
   refine af.O5 (S:=[.abs (x7 b2 (.int .i64 c.op))]) [1,2,4,0,3,5,6,7] 3 (by kernel_rfl) (by kernel_rfl) (fun w hS=>hS.first (i:=7) (b:=b2) rfl rfl) ?_
   refine jR 3 [3,4,17,19] [(1,p_ ⟨[.view 0 (.int .i64 (c.op))],none,none,none,none⟩ [(∀ F w,(x7 b2 (.int .i64 c.op)).h F w->w.cell? ⟨b2,0,none⟩=some (vI (c.op)))] ⟨x7.cell,trivial⟩)] ?_
   refine aY.O6 (ι:=Unit) (fr':=fun (_:Unit)=>[(3,vP b2),(4,vP b3),(15,.agg #[.nilFunc,.func (.func 82) #[] #[],.func (.func 83) #[] #[],.func (.func 84) #[] #[],.func (.func 85) #[] #[],.func (.func 86) #[] #[],.func (.func 87) #[] #[],.func (.func 88) #[] #[],.func (.func 89) #[] #[],.func (.func 90) #[] #[],.func (.func 91) #[] #[],.func (.func 92) #[] #[],.func (.func 93) #[] #[],.func (.func 94) #[] #[],.func (.func 95) #[] #[],.func (.func 96) #[] #[]]),(17,vI (c.op)),(19,vP f)]) (hp':=fun (_:Unit)=>((pA f m t L S)++[.abs R,pC b2 (c0 c),V4 b3])) rfl rfl ?_ (by rintro _ w hS;exact hS.first (i:=7) (b:=b2) rfl rfl) ?_
   ·refine gL [] (Mb) ?_
    rintro _ _ ⟨rfl,rfl⟩
    refine NL ?_
    exact MD () [3,4,15,17,19] [0,1,2,3,4,5,6,7,8]
   rintro _
   refine aY.O6 (ι:=Unit) (fr':=fun (_:Unit)=>[(3,vP b2),(4,vP b3),(18,.func (.func (R9.getD (c.op.toNat - 1) 0)) #[] #[]),(19,vP f)]) (hp':=fun (_:Unit)=>((pA f m t L S)++[.abs R,pC b2 (c0 c),V4 b3])) rfl rfl ?_ (by rintro _ w hS;exact hS.first (i:=7) (b:=b2) rfl rfl) ?_
   ·refine ak.hn (x:=(.tmp 15)) (y:=(.tmp 17)) (d:=(some 18)) hop ?_
    refine NL ?_
    exact MD () [3,4,18,19] [0,1,2,3,4,5,6,7,8]
   rintro _
   refine aY.O6 (ι:=HL) (fr':=fun (L2:HL)=>[(3,vP b2),(4,vP b3),(20,vI ((eU S (c0 c)).1))]) (hp':=fun (L2:HL)=>((pA f m t L2 ((eU S (c0 c)).2.1))++[pC b2 ((eU S (c0 c)).2.2),.abs R,V4 b3])) rfl rfl ?_ (by rintro L2 w hS;exact hS.first (i:=6) (b:=b2) rfl (congrArg (fun z=>some (Value.int .i64 z)) (Sb (c:=(c0 c)) hop))) ?_
   ·refine gL [0,1,2,3,4,5,7] (aat (S:=S) (L:=L) (f:=f) (m:=m) (t:=t) (b:=b2) (c:=(c0 c)) c.op hI ⟨hC.hw,hC.ow,hC.nm,hC.tx,hC.da,hC.dl,hC.dc,hC.op⟩ hop rfl) ?_ (by intro _;rcases O7 hop with h|h|h|h|h|h|h|h|h|h|h|h|h|h|h<;>rw [h]<;>kernel_rfl)
    rintro _ _ ⟨L2,rfl,rfl⟩
    refine NL ?_
    exact MD L2 [3,4,20] [0,1,2,3,4,5,6,7,8]
   rintro L2
   refine aY.O6 (ι:=Unit) (fr':=fun (_:Unit)=>[(3,vP b2),(4,vP b3),(20,vI ((eU S (c0 c)).1)),(21,.pointer (some ⟨b2,11,none⟩))]) (hp':=fun (_:Unit)=>((pA f m t L2 ((eU S (c0 c)).2.1))++[pC b2 ((eU S (c0 c)).2.2),.abs R,V4 b3])) rfl rfl ?_ (by rintro _ w hS;exact hS.first (i:=6) (b:=b2) rfl (congrArg (fun z=>some (Value.int .i64 z)) (Sb (c:=(c0 c)) hop))) ?_
   ·refine jK 1 [21] [] ?_
    refine NL ?_
    exact MD () [3,4,20,21] [0,1,2,3,4,5,6,7,8]
   rintro _
   refine aY.last rfl rfl ?_
   refine jC 1 [] [(0,a_ 6 b2)] [(6,[(11,vI ((eU S (c0 c)).1))])] ?_
   refine NL (ai.np (NX (SR ?_)))
   refine jC 2 [] [(0,A_ 6 b2 13),(1,A_ 8 b3 13)] [(8,(zC (aO { (eU S (c0 c)).2.2 with code:=(eU S (c0 c)).1 })))] ?_
   refine NN (af.ret ?_)
   exact rT _ [A_ 8 b3 13] [0,1,2,3,4,5,7] (⟨L2,rfl,rfl⟩)
  refine af.skip (NX (SR (jC 2 [] [(0,A_ 7 b2 13),(1,A_ 8 b3 13)] [(8,(zj2 c))] ?_)))
  refine NN (af.ret ?_)
  exact rT _ [A_ 8 b3 13] [0,1,2,3,4,5,6] (⟨L,by unfold iD;rw [Es (S:=S) (c:=(c0 c)) (by grind)];exact⟨rfl,rfl⟩⟩)
 refine jK 4 [14] [] ?_
 refine NN (CF (af.skip (NX (SR (jC 2 [] [(0,A_ 7 b2 13),(1,A_ 8 b3 13)] [(8,(zj2 c))] ?_)))))
 refine NN (af.ret ?_)
 exact rT _ [A_ 8 b3 13] [0,1,2,3,4,5,6] (⟨L,by unfold iD;rw [Es (S:=S) (c:=(c0 c)) (by grind)];exact⟨rfl,rfl⟩⟩)
end
section
open Go.RowKit Go.Maps aX aq
attribute [local irreducible] ak aV af ai aY iL
abbrev Nl (B)(d:List UInt8) (cap):=(.abs (av 5 1 B d.length cap (cx d)):HP)
abbrev zk2 (b5:Nat) (An:Option Addr) (i:Nat) (cn:Nat):=(.blk b5 [.slice An (i) (cn)] 24:HP)
abbrev zk3 (An:Option Addr) (i:Nat) (cn:Nat) (K) (S:aL):=(.abs (av 66 10 An i cn (aR K ((ax S).take i))):HP)
abbrev zk4 (S:aL) (i:Nat) (K):=(.abs (eF (mH ((ax S).take i) K) i):HP)
abbrev zk5 (S:aL) (i:Nat) (K):=(.abs (eF (jt ((ax S).take i) K) i):HP)
abbrev zk6 (A7:Option Addr) (S:aL) (c8:Nat):=(.abs (av 3 1 A7 ((keys S.idx).length) c8 (ints (keys S.idx))):HP)
abbrev zk7 (b4:Nat):=(.blk b4 [.slice none (0) (0)] 24:HP)
abbrev Zn (b9:Nat):=(.blk b9 [vI 0,vI 0,vI 0,vI 0,vI 0,vI 0,vI 0,.slice none (0) (0),.string ⟨#[]⟩,.slice none (0) (0)] 66:HP)
abbrev Zo (S:aL) (L:HL) (tk:Nat):=(.abs (aF (mZ (dL S.O L) tk ct.none)):HP)
abbrev O8 (L:HL) (tk:Nat) (S:aL):=(.abs (bq Tryz.prog 9 (L.m tk) (jJ L (obj S.O tk).ah) ((obj S.O tk).ah.length)):HP)
abbrev O9 (b15:Nat) (S:aL) (i:Nat) (tk:Nat) (Ae:Option Addr) (j:Nat) (ce:Nat):=(.blk b15 [vI ((dQ S i)),vI 2,vI ((obj S.O tk).mode),vI ((obj S.O tk).uid),vI ((obj S.O tk).gid),vI ((obj S.O tk).sec),vI ((obj S.O tk).nano),.slice none (0) (0),.string ⟨#[]⟩,.slice Ae (j) (ce)] 66:HP)
abbrev Pa (kO:Option Addr) (S:aL) (tk:Nat) (lT:Nat):=(.abs (av 9 1 kO ((obj S.O tk).ah.length) lT (tW (obj S.O tk).ah)):HP)
abbrev UI (jv:Option Addr) (j:Nat) (jw:Nat) (S:aL) (tk:Nat):=(.abs (av 68 2 jv (j+1) jw (ju (((obj S.O tk).ah.take (j+1)).map (dK S.O)))):HP)
abbrev Gh (S:aL) (tk:Nat):=([(39,vI ((obj S.O tk).mode)),(43,vI ((obj S.O tk).uid)),(47,vI ((obj S.O tk).gid)),(51,.agg #[vI ((obj S.O tk).sec),vI ((obj S.O tk).nano)])]:Fr)
abbrev BD (f:Nat) (b4:Nat) (b5:Nat):=([(0,vP f),(2,vP b4),(3,vP b5)]:Fr)
abbrev BF (b5:Nat) (An:Option Addr) (i:Nat) (cn:Nat) (K) (S:aL) (A7:Option Addr) (c8:Nat) (b4:Nat) (f:Nat) (m:Nat) (t) (L:HL):=([zk2 b5 An i cn,zk3 An i cn K S,zk4 S i K,zk5 S i K,zk6 A7 S c8,zk7 b4,pF f m t S.X,pI m L S.idx,pO S.O L]:List HP)
abbrev BG (A7:Option Addr) (S:aL) (c8:Nat) (i:Nat):=([(19,.slice A7 ((keys S.idx).length) (c8)),(20,vI ↑((keys S.idx).length)),(21,vI ↑i)]:Fr)
abbrev UJ (f:Nat) (b4:Nat) (b5:Nat) (b15:Nat) (L:HL) (tk:Nat) (A7:Option Addr) (S:aL) (c8:Nat) (i:Nat) (kO:Option Addr) (lT:Nat) (j:Nat) (jv:Option Addr) (jw:Nat):=([(0,vP f),(2,vP b4),(3,vP b5),(8,vP b15),(11,vP (L.b tk)),(19,.slice A7 ((keys S.idx).length) (c8)),(20,vI ↑((keys S.idx).length)),(21,vI ↑i),(79,.slice kO ((obj S.O tk).ah.length) (lT)),(80,vI ↑((obj S.O tk).ah.length)),(81,vI ↑j),(100,.slice jv ((j+1)) (jw))]:Fr)
abbrev UK (S:aL) (tk:Nat):=([(2,vI ((obj S.O tk).mode)),(3,vI ((obj S.O tk).uid)),(4,vI ((obj S.O tk).gid)),(5,vI ((obj S.O tk).sec)),(6,vI ((obj S.O tk).nano))]:Fr)
abbrev UL (S:aL) (L:HL) (tk:Nat) (R:ct) (b19:Nat) (j:Nat) (ek:Nat):=([pD S.O L,Zo S L tk,.abs R,.blk b19 [.string (jY (obj S.O tk).ah j),vI ((obj S.O ek).id)] 68]:List HP)
theorem Gi {β:Bs} (c:Nat):Spec Tryz.prog β 24 #[.slice none 0 c] [] (fun v l=>∃ B cap,v=.slice B 0 cap/\l=[.abs (av 5 1 B 0 cap [])]):=by
 refine SE Tryz.func24 Tryz.ntmps24 (fun R=>?_)
 refine SR (jK 1 [] [] ?_)
 refine NN (af.seq (SR (jK 2 [4] [] ?_)))
 refine NN (CT (SR (jK 1 [2] [] ?_)))
 refine NN (af.ret (ai.aj (ai.mem (fun w hS=>(hS.ld (e:=5) (size:=1)).pick (idx:=[1,0]) (l':=[.abs (av 5 1 none 0 0 ([])),.abs R]) rfl (by kernel_rfl)) ?_)))
 exact RT _ [0,1] (⟨none,0,rfl,rfl⟩)
theorem E8 {β:Bs} (a:Addr) (c:Nat) (d:List UInt8) (hA:bh β (some a) d) (hl:d.length<=140737488355328):Spec Tryz.prog β 24 #[.slice (some a) d.length c] [] (fun v l=>∃ B cap,v=.slice B d.length cap/\l=[Nl B d cap]):=by
 refine SE Tryz.func24 Tryz.ntmps24 (fun R=>?_)
 refine SR (jK 1 [] [] ?_)
 refine NN (af.seq (SR (jK 2 [4] [] ?_)))
 refine NN (CF (af.skip (NX (SR (jN 1 [5] (fun _=>[]) (fun _=>[]) (fun b1=>.blk b1 [] 5) (fun b1=>?_))))))
 refine ak.mem (fun w hS=>hS.oF (i:=1) (b:=b1) (cs:=[]) (e:=5) 1 0 (by kernel_rfl) rfl (by decide)) ?_
 refine jK 1 [6] [] ?_
 refine Xj 1 51 (some a) d.length c (cx d) rfl (hA.src) (fun A2 c3=>?_) (hl:=by rw [rI,Nat.mul_one]) (h1:=oo d)
 refine ak.bO 1 rfl (by rw [Nat.zero_add,List.nil_append]) ?_
 refine sl 7 (.slice A2 (0+d.length) (c3)) (.slice A2 (d.length) (c3)) (by rw [Nat.zero_add]) ?_
 refine jK 1 [2] [] ?_
 refine NN (af.ret ?_)
 exact RT _ [1,0] (⟨A2,c3,rfl,rfl⟩)
theorem CV {β:Bs} (A:Option Addr) (c:Nat) (d:List UInt8) (hA:bh β A d) (hl:d.length<=140737488355328):Spec Tryz.prog β 24 #[.slice A d.length c] [] (fun v l=>∃ B cap,v=.slice B d.length cap/\l=[Nl B d cap]):=by
  cases A with
  | some a=>exact E8 a c d hA hl
  | none=>
    cases d with
    | nil=>exact Gi c
    | cons b r=>have h:=bh.hd hA (j:=0) (by simp);cases h
theorem Lf {β:Bs} (A:Option Addr) (c:Nat) (d:List UInt8) (hl:d.length<=140737488355328):Spec Tryz.prog β 24 #[.slice A d.length c] [Nl A d c] (fun v l=>∃ B cap,v=.slice B d.length cap/\l=[Nl B d cap,Nl A d c]):=
  (Spec.uj (pre:=[]) (R:=[Nl A d c]) (fun _ h=>CV A c d h.bytes hl)).mono (by grind)
theorem Lg {β:Bs} (L:HL) (b bk:Nat) (idx:Used Th) (hr:aq.bH (keys idx)) (hn:idx.length<=4096) :
    Spec Tryz.prog β 49 #[Eb bk] [pI b L idx,.blk bk [.map (some b)] 78] (fun v l=>∃ A cap,v=.slice A (keys idx).length cap/\l=[pI b L idx,.blk bk [.map (some b)] 78,.abs (av 3 1 A (keys idx).length cap (ints (keys idx)))]):=
  (Ec b bk idx.length (bB (bC L idx)) (by omega)).mono (by
    rintro v l ⟨A,cap,ss,rfl,hk,_,rfl⟩
    have e:=Mr (us:=bC L idx) (by rw [Dk];exact hr) hk
    rw [Dk] at e
    subst e
    exact⟨A,cap,rfl,rfl⟩)
theorem xh {β:Bs} (S:aL) (L:HL) (f m t:Nat) (hI:Inv S) :
    Spec Tryz.prog β 16 #[vP f] [pF f m t S.X,pI m L S.idx,pO S.O L,pD S.O L,pE S.O L] (fun v l=>∃ A c K,v=.agg #[.slice A (ax S).length c]/\l=[pF f m t S.X,pI m L S.idx,pO S.O L,pD S.O L,pE S.O L]++yJ A c (ax S) K):=by
 have hX:=hI.hX
 have hkl:(keys S.idx).length=S.idx.length:=sM _
 have hil:=hI.len
 refine SE Tryz.func16 Tryz.ntmps16 (fun R=>?_)
 refine SR (jN 1 [2] (fun _=>[]) (fun _=>[]) (fun b4=>.blk b4 [.slice none (0) (0)] 24) (fun b4=>?_))
 refine NS (jN 1 [3] (fun _=>[]) (fun _=>[]) (fun b5=>.blk b5 [.slice none (0) (0)] 24) (fun b5=>?_))
 refine NN (af.seq (SR (jK 4 [17] [(3,a_ 0 f)] ?_)))
 refine gL [] (Jt (some m)) ?_
 rintro _ _ ⟨b6,rfl,rfl⟩
 refine gL [2,0] (Lg L m b6 S.idx hI.rise hI.len) ?_
 rintro _ _ ⟨A7,c8,rfl,rfl⟩
 refine jK 1 [20] [] ?_
 refine ak.mem (fun w hS=>hS.ld (e:=66) (size:=10)) ?_
 refine ak.mem (fun w hS=>hS.D7 (mH [] Ds)) ?_
 refine ak.mem (fun w hS=>hS.D7 (jt [] Ds)) ?_
 refine jK 1 [21] [] ?_
 refine NN (af.block ?_)
 refine lJ (fun (i,An,cn,K)=>(i<=S.idx.length)) (fun (i,An,cn,K)=>S.idx.length - i) (fun (i,An,cn,K)=>(BD f b4 b5++BG A7 S c8 i)) (fun (i,An,cn,K)=>(BF b5 An i cn K S A7 c8 b4 f m t L++[pD S.O L,pE S.O L,.abs R])) (0,none,0,Ds) [9,10,11,12,2,8,3,0,4,5,6,7] ((Nat.zero_le _)) ?_
 rintro⟨i,An,cn,K⟩ hi
 refine SR (jK 1 [22] [] ?_)
 refine NN (af.seq (cP ((((i:Nat):Int):Int) < ((((keys S.idx).length:Nat):Int):Int)) (fun Ac=>?_) (fun Ac=>?_)))
 ·have hi2:i < S.idx.length:=by omega
  refine af.skip (NX (af.seq (af.block (SR ?_))))
  refine ak.tell (p:=(A7=some ⟨aJ A7,aI A7,none⟩)) (fun w hS=>let ⟨F,h⟩:=hS.get (i:=4) rfl;(av.wq h (by omega)).1) (fun hAk=>?_)
  refine jK 3 [5] [(0,x_ i ((keys S.idx).length) (hAk)),(1,p_ ⟨[.view 4 (.int .i64 ((dQ S i)))],none,none,none,none⟩ [(∀ F w,(av 3 1 A7 ((keys S.idx).length) c8 (ints (keys S.idx))).h F w->w.cell? ⟨(aJ A7),aI A7+i * 1,none⟩=some (vI ((dQ S i))))] ⟨av.cellAt (i:=i) (j:=0) (by omega) (Tw hi2),trivial⟩)] ?_
  refine NN (af.seq ?_)
  have aci:=(FJ hI.toInv0 hi2).1
  have hget:=get_at hI.toInv0 hi2
  rcases Z9 hI.toInv0 hi2 with ⟨tk,mO,hlv⟩|⟨tk,mO,hlv⟩|⟨tk,mO,hlv⟩
  ·have hkt:(obj S.O tk).kind=1:=hI.kind hlv
   have hel:(obj S.O tk).ah.length<=8192:=hI.jg hlv
   have hdl:(obj S.O tk).data.length<=140737488355328:=hI.NJ hlv
   refine af.region (jK 5 [28,29] [(3,a_ 6 f)] ?_)
   refine ak.iY 7 (d:=(some 30)) (t:=78) (K:=3) (E:=82) (b:=m) (n:=S.idx.length) (f:=(bB (bC L S.idx))) (x:=(.tmp 28)) (ix:=(.tmp 29)) (key:=.int .i64 ((dQ S i))) (z:=.nilIface) (kl:=(.int .i64 (dQ S i))) (r:=(some (eT L ⟨tk,1⟩))) (fun _=>by kernel_rfl) (by kernel_rfl) (fun _=>by kernel_rfl) (fun _=>by kernel_rfl) gU Tryz.underlying78 (fun _=>by kernel_rfl) (mE (FK hI.toInv0 hi2)) (by rw [iZ,hget,mO];rfl) ?_
   refine jK 1 [6] [] ?_
   refine NS (jK 1 [31] [] ?_)
   refine gL [] (dz (L.b tk)) ?_
   rintro _ _ ⟨rfl,rfl⟩
   refine jK 1 [7] [] ?_
   refine NN (af.seq (af.rS (S:=[pO S.O L]) [0,1,3,4,5,6,7,8,9,10,11,12,13,14,15,16,17,18] [.beside [2,19] 20,.one 21] [8] (by kernel_rfl) (by kernel_rfl) rfl (by kernel_rfl) ?_))
   refine gP (BD f b4 b5++[(6,.iface 87 (vP (L.b tk)))]++BG A7 S c8 i++[(33,vI ((dQ S i))),(34,.iface 87 (vP (L.b tk)))]++Gh S tk) [0,1,3,4,5,6,7,8,9,10,11,12,13,14,15,16,17,18] [(5,v_ 0 (wg L hkt)),(9,v_ 0 (Co L hkt)),(13,v_ 0 (Cp L hkt)),(17,p_ ⟨[.view 0 (.int .i64 ((obj S.O tk).sec)),.view 0 (.int .i64 ((obj S.O tk).nano))],none,none,none,none⟩ [(∀ F w,(aF (cJ S.O L)).h F w->w.cell? ⟨(L.b tk),5,none⟩=some (vI ((obj S.O tk).nano))),(∀ F w,(aF (cJ S.O L)).h F w->w.cell? ⟨(L.b tk),4,none⟩=some (vI ((obj S.O tk).sec)))] ⟨fD (by rw [hkt];decide) (rfl),fD (by rw [hkt];decide) (rfl),trivial⟩)] ?_
   refine iL.beside (j:=20) (dj:=8) (R:=fun f_ l_=>f_=([(52,.agg #[vI ((dQ S i)),vI 1,vI ((obj S.O tk).mode),vI ((obj S.O tk).uid),vI ((obj S.O tk).gid),vI ((obj S.O tk).sec),vI ((obj S.O tk).nano),.slice none (0) (0),.string ⟨#[]⟩,.slice none (0) (0)]),(35,vI 1)]++BD f b4 b5++[(6,.iface 87 (vP (L.b tk)))]++BG A7 S c8 i++[(33,vI ((dQ S i))),(34,.iface 87 (vP (L.b tk)))]++Gh S tk)/\l_=[]) [0,1,2,3,4,5,6,7,8,9,10,11] [8] [(2,35),(19,52)] rfl (pc:=[]) (pj:=[]) (Z:=(BF b5 An i cn K S A7 c8 b4 f m t L++[pD S.O L,pE S.O L,.abs R])) (by kernel_rfl) rfl (by kernel_rfl) rfl rfl (ic.of (ι:=Nat) (v:=fun (b9:Nat)=>vP b9) (l:=fun (b9:Nat)=>[Zn b9]) [35,52] rfl rfl rfl rfl ?_) ?_ ?_
   ·intro u Aq
    refine jN 1 [8] (fun _=>[]) (fun _=>[]) (fun b9=>.blk b9 [vI 0,vI 0,vI 0,vI 0,vI 0,vI 0,vI 0,.slice none (0) (0),.string ⟨#[]⟩,.slice none (0) (0)] 66) (fun b9=>?_)
    refine NL ?_
    exact MD b9 [8,35,52,0,2,3,6,19,20,21,33,34,39,43,47,51] [1,0]
   ·refine kA.step (ic.of (ι:=Unit) (v:=fun (_:Unit)=>.int .i64 1) (l:=fun (_:Unit)=>[]) [8] rfl rfl rfl rfl ?_) rfl ?_
    ·intro u Aq
     refine gL [] (pG (vP (L.b tk))) ?_
     rintro _ _ ⟨rfl,rfl⟩
     refine NL ?_
     exact MD () [35,8,0,2,3,6,19,20,21,33,34,39,43,47,51] [0]
    rintro _ _ ⟨_,rfl,rfl⟩
    refine kA.step (ic.of (ι:=Unit) (v:=fun (_:Unit)=>.agg #[vI ((dQ S i)),vI 1,vI ((obj S.O tk).mode),vI ((obj S.O tk).uid),vI ((obj S.O tk).gid),vI ((obj S.O tk).sec),vI ((obj S.O tk).nano),.slice none (0) (0),.string ⟨#[]⟩,.slice none (0) (0)]) (l:=fun (_:Unit)=>[]) [8] rfl rfl rfl rfl ?_) rfl ?_
    ·intro u Aq
     refine jK 1 [52] [] ?_
     refine NL ?_
     exact MD () [52,8,35,0,2,3,6,19,20,21,33,34,39,43,47,51] [0]
    rintro _ _ ⟨_,rfl,rfl⟩
    exact⟨rfl,rfl⟩
   rintro _ _ ⟨rfl,rfl⟩ _ _ ⟨b9,rfl,rfl⟩
   refine iL.last rfl rfl ?_
   refine jC 1 [] [(0,A_ 0 b9 10)] [(0,([(0,vI ((dQ S i))),(1,vI 1)]++UK S tk))] ?_
   refine NL (ai.np (NX (af.seq (SR ?_))))
   refine jK 1 [53] [] ?_
   refine NN (af.block (SR ?_))
   refine jK 3 [55,56] [] ?_
   refine NN (CT (SR (jK 1 [9] [] ?_)))
   refine NN (af.region (jK 4 [60] [(3,v_ 9 (K5 L hkt))] ?_))
   refine ak.mem (fun w hS=>hS.PK (i:=10) (k:=tk) rfl hkt) ?_
   refine gL [13] (Lf (L.dA tk) (L.dC tk) (obj S.O tk).data hdl) ?_
   rintro _ _ ⟨BH,c11,rfl,rfl⟩
   refine ak.mem (fun w hS=>hS.XT (i:=12) (j:=1) (ix:=[0,2,3,4,5,6,7,8,9,10,11,13,14]) rfl rfl (by kernel_rfl) rfl hkt) ?_
   refine jC 2 [] [(1,a_ 2 b9)] [(2,[(7,.slice BH ((obj S.O tk).data.length) (c11))])] ?_
   refine NL (ai.aA (NX (af.region ?_)))
   refine jN 4 [104,106] (fun b12=>[(1,a_ 3 b5),(2,A_ 2 b9 10)]) (fun _=>[]) (fun b12=>.blk b12 [vI ((dQ S i)),vI 1,vI ((obj S.O tk).mode),vI ((obj S.O tk).uid),vI ((obj S.O tk).gid),vI ((obj S.O tk).sec),vI ((obj S.O tk).nano),.slice BH ((obj S.O tk).data.length) (c11),.string ⟨#[]⟩,.slice none (0) (0)] 66) (fun b12=>?_)
   refine j3 4 22 (some ⟨b12,0,none⟩) 1 1 [vI ((dQ S i)),vI 1,vI ((obj S.O tk).mode),vI ((obj S.O tk).uid),vI ((obj S.O tk).gid),vI ((obj S.O tk).sec),vI ((obj S.O tk).nano),.slice BH ((obj S.O tk).data.length) (c11),.string ⟨#[]⟩,.slice none (0) (0)] rfl (dS (j:=14) rfl) (fun He CG=>?_) (hl:=rfl)
   refine ak.bO 4 rfl (congrArg (fun x=>HP.abs (av 66 10 _ _ _ x)) (rK (eN (by omega)) (tY hI.toInv0 hi2 mO hlv) rfl rfl)) ?_
   refine sl 107 (.slice He (i+1) (CG)) (.slice He ((i+1)) (CG)) (rfl) ?_
   refine jC 2 [] [(1,a_ 3 b5)] [(3,[(0,.slice He ((i+1)) (CG))])] ?_
   refine NL (ai.aA (NX (af.region ?_)))
   refine jK 2 [21] [(0,wJ ((i:Int)+1) (↑(i+1)))] ?_
   refine NL (ai.mem (fun w hS=>hS.ld (e:=68) (size:=2)) ?_)
   refine ai.mem (fun w hS=>hS.qV (R':=(jt ((ax S).take (i+1)) (K.put i BH c11 none 0))) (i:=6) (j:=1) (idx:=[0,2,3,4,5,7,8,9,10,11,12,13,14,15]) rfl rfl (by kernel_rfl) rfl (yL (eN (by omega)) (tY hI.toInv0 hi2 mO hlv)) (wD (eN (by omega)) (tY hI.toInv0 hi2 mO hlv) rfl)) ?_
   refine ai.mem (fun w hS=>hS.qV (R':=(mH ((ax S).take (i+1)) (K.put i BH c11 none 0))) (i:=5) (j:=14) (idx:=[0,1,2,3,4,6,7,8,9,10,11,12,13]) rfl rfl (by kernel_rfl) rfl (yM (eN (by omega)) (tY hI.toInv0 hi2 mO hlv)) ((wE (eN (by omega)) (tY hI.toInv0 hi2 mO hlv) rfl))) ?_
   exact tJ ((i+1),He,CG,(K.put i BH c11 none 0)) [4,5,0,1,6,7,8,9,10,2,11,12] ((by omega))
  ·have hkt:(obj S.O tk).kind=2:=hI.kind hlv
   have hel:(obj S.O tk).ah.length<=8192:=hI.jg hlv
   have hdl:(obj S.O tk).data.length<=140737488355328:=hI.NJ hlv
   refine af.region (jK 5 [28,29] [(3,a_ 6 f)] ?_)
   refine ak.iY 7 (d:=(some 30)) (t:=78) (K:=3) (E:=82) (b:=m) (n:=S.idx.length) (f:=(bB (bC L S.idx))) (x:=(.tmp 28)) (ix:=(.tmp 29)) (key:=.int .i64 ((dQ S i))) (z:=.nilIface) (kl:=(.int .i64 (dQ S i))) (r:=(some (eT L ⟨tk,2⟩))) (fun _=>by kernel_rfl) (by kernel_rfl) (fun _=>by kernel_rfl) (fun _=>by kernel_rfl) gU Tryz.underlying78 (fun _=>by kernel_rfl) (mE (FK hI.toInv0 hi2)) (by rw [iZ,hget,mO];rfl) ?_
   refine jK 1 [6] [] ?_
   refine NS (jK 1 [31] [] ?_)
   refine gL [] (dz (L.b tk)) ?_
   rintro _ _ ⟨rfl,rfl⟩
   refine jK 1 [7] [] ?_
   refine NN (af.seq (af.rS (S:=[pO S.O L]) [0,1,3,4,5,6,7,8,9,10,11,12,13,14,15,16,17,18] [.beside [2,19] 20,.one 21] [8] (by kernel_rfl) (by kernel_rfl) rfl (by kernel_rfl) ?_))
   refine gP (BD f b4 b5++[(6,.iface 94 (vP (L.b tk)))]++BG A7 S c8 i++[(33,vI ((dQ S i))),(34,.iface 94 (vP (L.b tk)))]++Gh S tk) [0,1,3,4,5,6,7,8,9,10,11,12,13,14,15,16,17,18] [(5,v_ 0 (wg L hkt)),(9,v_ 0 (Co L hkt)),(13,v_ 0 (Cp L hkt)),(17,p_ ⟨[.view 0 (.int .i64 ((obj S.O tk).sec)),.view 0 (.int .i64 ((obj S.O tk).nano))],none,none,none,none⟩ [(∀ F w,(aF (cJ S.O L)).h F w->w.cell? ⟨(L.b tk),5,none⟩=some (vI ((obj S.O tk).nano))),(∀ F w,(aF (cJ S.O L)).h F w->w.cell? ⟨(L.b tk),4,none⟩=some (vI ((obj S.O tk).sec)))] ⟨fD (by rw [hkt];decide) (rfl),fD (by rw [hkt];decide) (rfl),trivial⟩)] ?_
   refine iL.beside (j:=20) (dj:=8) (R:=fun f_ l_=>f_=([(52,.agg #[vI ((dQ S i)),vI 2,vI ((obj S.O tk).mode),vI ((obj S.O tk).uid),vI ((obj S.O tk).gid),vI ((obj S.O tk).sec),vI ((obj S.O tk).nano),.slice none (0) (0),.string ⟨#[]⟩,.slice none (0) (0)]),(35,vI 2)]++BD f b4 b5++[(6,.iface 94 (vP (L.b tk)))]++BG A7 S c8 i++[(33,vI ((dQ S i))),(34,.iface 94 (vP (L.b tk)))]++Gh S tk)/\l_=[]) [0,1,2,3,4,5,6,7,8,9,10,11] [8] [(2,35),(19,52)] rfl (pc:=[]) (pj:=[]) (Z:=(BF b5 An i cn K S A7 c8 b4 f m t L++[pD S.O L,pE S.O L,.abs R])) (by kernel_rfl) rfl (by kernel_rfl) rfl rfl (ic.of (ι:=Nat) (v:=fun (b15:Nat)=>vP b15) (l:=fun (b15:Nat)=>[Zn b15]) [35,52] rfl rfl rfl rfl ?_) ?_ ?_
   ·intro u Aq
    refine jN 1 [8] (fun _=>[]) (fun _=>[]) (fun b15=>.blk b15 [vI 0,vI 0,vI 0,vI 0,vI 0,vI 0,vI 0,.slice none (0) (0),.string ⟨#[]⟩,.slice none (0) (0)] 66) (fun b15=>?_)
    refine NL ?_
    exact MD b15 [8,35,52,0,2,3,6,19,20,21,33,34,39,43,47,51] [1,0]
   ·refine kA.step (ic.of (ι:=Unit) (v:=fun (_:Unit)=>.int .i64 2) (l:=fun (_:Unit)=>[]) [8] rfl rfl rfl rfl ?_) rfl ?_
    ·intro u Aq
     refine gL [] (pH (vP (L.b tk))) ?_
     rintro _ _ ⟨rfl,rfl⟩
     refine NL ?_
     exact MD () [35,8,0,2,3,6,19,20,21,33,34,39,43,47,51] [0]
    rintro _ _ ⟨_,rfl,rfl⟩
    refine kA.step (ic.of (ι:=Unit) (v:=fun (_:Unit)=>.agg #[vI ((dQ S i)),vI 2,vI ((obj S.O tk).mode),vI ((obj S.O tk).uid),vI ((obj S.O tk).gid),vI ((obj S.O tk).sec),vI ((obj S.O tk).nano),.slice none (0) (0),.string ⟨#[]⟩,.slice none (0) (0)]) (l:=fun (_:Unit)=>[]) [8] rfl rfl rfl rfl ?_) rfl ?_
    ·intro u Aq
     refine jK 1 [52] [] ?_
     refine NL ?_
     exact MD () [52,8,35,0,2,3,6,19,20,21,33,34,39,43,47,51] [0]
    rintro _ _ ⟨_,rfl,rfl⟩
    exact⟨rfl,rfl⟩
   rintro _ _ ⟨rfl,rfl⟩ _ _ ⟨b15,rfl,rfl⟩
   refine iL.last rfl rfl ?_
   refine jC 1 [] [(0,A_ 0 b15 10)] [(0,([(0,vI ((dQ S i))),(1,vI 2)]++UK S tk))] ?_
   refine NL (ai.np (NX (af.seq (SR ?_))))
   refine jK 1 [53] [] ?_
   refine NN (af.block (SR ?_))
   refine jK 3 [55,56] [] ?_
   refine NN (CF (SR (jK 3 [64,65] [] ?_)))
   refine NN (CF (SR (jK 3 [72,73] [] ?_)))
   refine NN (CT (SR (jK 1 [11] [] ?_)))
   refine NS (jK 4 [77] [(3,v_ 9 (bS L hkt))] ?_)
   refine ak.mem (fun w hS=>hS.Xw (i:=11) (k:=tk) rfl (hkt)) ?_
   refine gL [] (Tt (some (L.m tk))) ?_
   rintro _ _ ⟨b16,rfl,rfl⟩
   refine gL [14,0] (N5 L (L.m tk) b16 (obj S.O tk).ah.length (obj S.O tk).ah (hI.sorted _ hlv) hel) ?_
   rintro _ _ ⟨kO,lT,rfl,rfl⟩
   refine jK 1 [80] [] ?_
   refine ak.mem (fun w hS=>hS.ld (e:=68) (size:=2)) ?_
   refine jK 1 [81] [] ?_
   refine NN (af.block ?_)
   refine lJ (fun (j,Ae,ce)=>(j<=(obj S.O tk).ah.length)) (fun (j,Ae,ce)=>(obj S.O tk).ah.length - j) (fun (j,Ae,ce)=>(BD f b4 b5++[(8,vP b15),(11,vP (L.b tk))]++BG A7 S c8 i++[(79,.slice kO ((obj S.O tk).ah.length) (lT)),(80,vI ↑((obj S.O tk).ah.length)),(81,vI ↑j)])) (fun (j,Ae,ce)=>([O9 b15 S i tk Ae j ce,.abs (av 68 2 Ae j ce (ju (((obj S.O tk).ah.take j).map (dK S.O)))),O8 L tk S,.blk b16 [.map (some (L.m tk))] 95,Pa kO S tk lT]++BF b5 An i cn K S A7 c8 b4 f m t L++[pD S.O L,Zo S L tk,.abs R])) (0,none,0) [3,16,0,1,2,4,5,6,7,8,9,10,11,12,13,14,15] ((Nat.zero_le _)) ?_
   rintro⟨j,Ae,ce⟩ hj
   refine SR (jK 1 [82] [] ?_)
   refine NN (af.seq (cP ((((j:Nat):Int):Int) < ((((obj S.O tk).ah.length:Nat):Int):Int)) (fun h82=>?_) (fun h82=>?_)))
   ·have hj2:j < (obj S.O tk).ah.length:=by omega
    refine af.skip (NX (af.seq (af.block (SR ?_))))
    refine ak.tell (p:=(kO=some ⟨aJ kO,aI kO,none⟩)) (fun w hS=>let ⟨F,h⟩:=hS.get (i:=4) rfl;(av.wq h (by omega)).1) (fun hAs=>?_)
    refine jK 3 [13] [(0,x_ j ((obj S.O tk).ah.length) (hAs)),(1,p_ ⟨[.view 4 (.string (jY (obj S.O tk).ah j))],none,none,none,none⟩ [(∀ F w,(av 9 1 kO ((obj S.O tk).ah.length) lT (tW (obj S.O tk).ah)).h F w->w.cell? ⟨(aJ kO),aI kO+j * 1,none⟩=some (.string (jY (obj S.O tk).ah j)))] ⟨av.cellAt (i:=j) (j:=0) (by omega) (N6 hj2),trivial⟩)] ?_
    refine NN ?_
    obtain⟨hgd,h4⟩:=aaL hI.toInv0 hlv hj2
    have hgs:(jY (obj S.O tk).ah j).size<=255:=hgd.2.1
    rcases h4 with ⟨ek,hle,DM,Sd⟩|⟨ek,hle,DM,Sd⟩|⟨ek,hle,DM,Sd⟩
    ·have hke:(obj S.O ek).kind=1:=hI.kind DM
     refine rM (List.range 18) 9 [2,13,0] ?_
     refine jR 8 [0,2,3,8,11,19,20,21,79,80,81,86,87,91,92] [(1,a_ 2 b15),(6,v_ 1 (bS L hkt))] ?_
     refine aY.iY 0 (d:=(some 93)) (t:=95) (K:=9) (E:=82) (b:=(L.m tk)) (cnt:=(obj S.O tk).ah.length) (f:=(jJ L (obj S.O tk).ah)) (x:=(.tmp 91)) (ix:=(.tmp 92)) (key:=.string (jY (obj S.O tk).ah j)) (z:=.nilIface) (kl:=(.string (jY (obj S.O tk).ah j).data.toList)) (q:=(some (eT L ⟨ek,1⟩))) (by kernel_rfl) (by kernel_rfl) (fun _=>by kernel_rfl) (fun _=>by kernel_rfl) Df Tryz.underlying95 (fun _=>by kernel_rfl) (Fo (by omega)) (by rw [uW,hle];rfl) (by kernel_rfl) ?_
     refine mL [2,13,0] [] (dz (L.b ek)) ?_ (by rintro _ _ ⟨rfl,rfl⟩;rfl)
     rintro _ _ ⟨rfl,rfl⟩
     refine nC [2,13,0] [95] [] [] ?_
     refine nC [2,13,0] [96] [] [] ?_
     refine nC [2,13,0] [97] [(0,v_ 13 (ur L hke))] [] ?_
     refine nC [2,13,0] [98] [] [] ?_
     refine mN [2,13,0] (fun b19=>[(99,.slice (some ⟨b19,0,none⟩) (1) (1))]) (fun _=>[]) (fun b19=>.blk b19 [.string (jY (obj S.O tk).ah j),vI ((obj S.O ek).id)] 68) (fun b19=>?_)
     refine aY.cut (ι:=(Option Addr)×Nat) (fr':=fun ((jv,jw):(Option Addr)×Nat)=>(UJ f b4 b5 b15 L tk A7 S c8 i kO lT j jv jw)) (hp':=fun ((jv,jw):(Option Addr)×Nat)=>([O9 b15 S i tk Ae j ce,UI jv j jw S tk,O8 L tk S,.blk b16 [.map (some (L.m tk))] 95,Pa kO S tk lT]++BF b5 An i cn K S A7 c8 b4 f m t L++UL S L tk R b19 j ek)) [2,13,0] rfl rfl ?_ rfl (fun _=>by kernel_rfl) ?_
     ·refine j3 1 64 (some ⟨b19,0,none⟩) 1 1 [.string (jY (obj S.O tk).ah j),vI ((obj S.O ek).id)] rfl (dS (j:=17) rfl) (fun jv jw=>?_) (hl:=rfl)
      refine ak.bO 1 rfl (congrArg (fun x=>HP.abs (av 68 2 _ _ _ x)) (AV hj2 Sd)) ?_
      refine sl 100 (.slice jv (j+1) (jw)) (.slice jv ((j+1)) (jw)) (rfl) ?_
      refine NL ?_
      exact MD (jv,jw) [0,2,3,8,11,19,20,21,79,80,81,100] [0,1,2,3,4,5,6,7,8,9,10,11,12,13,14,15,16,17]
     rintro⟨jv,jw⟩
     refine nC [2,13,0] [101] [] [] ?_
     refine aY.last rfl rfl ?_
     refine jC 1 [] [(0,a_ 0 b15)] [(0,[(9,.slice jv ((j+1)) (jw))])] ?_
     refine NL (ai.np (ai.aA (NX (af.region ?_))))
     refine jK 2 [81] [(0,wJ ((j:Int)+1) (↑(j+1)))] ?_
     refine NL ?_
     exact tJ ((j+1),jv,jw) [0,1,2,3,4,5,6,7,8,9,10,11,12,13,14,15,16] ((by omega))
    ·have hke:(obj S.O ek).kind=2:=hI.kind DM
     refine rM (List.range 18) 9 [2,13,0] ?_
     refine jR 8 [0,2,3,8,11,19,20,21,79,80,81,86,87,91,92] [(1,a_ 2 b15),(6,v_ 1 (bS L hkt))] ?_
     refine aY.iY 0 (d:=(some 93)) (t:=95) (K:=9) (E:=82) (b:=(L.m tk)) (cnt:=(obj S.O tk).ah.length) (f:=(jJ L (obj S.O tk).ah)) (x:=(.tmp 91)) (ix:=(.tmp 92)) (key:=.string (jY (obj S.O tk).ah j)) (z:=.nilIface) (kl:=(.string (jY (obj S.O tk).ah j).data.toList)) (q:=(some (eT L ⟨ek,2⟩))) (by kernel_rfl) (by kernel_rfl) (fun _=>by kernel_rfl) (fun _=>by kernel_rfl) Df Tryz.underlying95 (fun _=>by kernel_rfl) (Fo (by omega)) (by rw [uW,hle];rfl) (by kernel_rfl) ?_
     refine mL [2,13,0] [] (dz (L.b ek)) ?_ (by rintro _ _ ⟨rfl,rfl⟩;rfl)
     rintro _ _ ⟨rfl,rfl⟩
     refine nC [2,13,0] [95] [] [] ?_
     refine nC [2,13,0] [96] [] [] ?_
     refine nC [2,13,0] [97] [(0,v_ 13 (ur L hke))] [] ?_
     refine nC [2,13,0] [98] [] [] ?_
     refine mN [2,13,0] (fun jl=>[(99,.slice (some ⟨jl,0,none⟩) (1) (1))]) (fun _=>[]) (fun jl=>.blk jl [.string (jY (obj S.O tk).ah j),vI ((obj S.O ek).id)] 68) (fun jl=>?_)
     refine aY.cut (ι:=(Option Addr)×Nat) (fr':=fun ((o5,o6):(Option Addr)×Nat)=>(UJ f b4 b5 b15 L tk A7 S c8 i kO lT j o5 o6)) (hp':=fun ((o5,o6):(Option Addr)×Nat)=>([O9 b15 S i tk Ae j ce,UI o5 j o6 S tk,O8 L tk S,.blk b16 [.map (some (L.m tk))] 95,Pa kO S tk lT]++BF b5 An i cn K S A7 c8 b4 f m t L++UL S L tk R jl j ek)) [2,13,0] rfl rfl ?_ rfl (fun _=>by kernel_rfl) ?_
     ·refine j3 1 64 (some ⟨jl,0,none⟩) 1 1 [.string (jY (obj S.O tk).ah j),vI ((obj S.O ek).id)] rfl (dS (j:=17) rfl) (fun o5 o6=>?_) (hl:=rfl)
      refine ak.bO 1 rfl (congrArg (fun x=>HP.abs (av 68 2 _ _ _ x)) (AV hj2 Sd)) ?_
      refine sl 100 (.slice o5 (j+1) (o6)) (.slice o5 ((j+1)) (o6)) (rfl) ?_
      refine NL ?_
      exact MD (o5,o6) [0,2,3,8,11,19,20,21,79,80,81,100] [0,1,2,3,4,5,6,7,8,9,10,11,12,13,14,15,16,17]
     rintro⟨o5,o6⟩
     refine nC [2,13,0] [101] [] [] ?_
     refine aY.last rfl rfl ?_
     refine jC 1 [] [(0,a_ 0 b15)] [(0,[(9,.slice o5 ((j+1)) (o6))])] ?_
     refine NL (ai.np (ai.aA (NX (af.region ?_))))
     refine jK 2 [81] [(0,wJ ((j:Int)+1) (↑(j+1)))] ?_
     refine NL ?_
     exact tJ ((j+1),o5,o6) [0,1,2,3,4,5,6,7,8,9,10,11,12,13,14,15,16] ((by omega))
    have hke:(obj S.O ek).kind=3:=hI.kind DM
    refine rM (List.range 18) 9 [2,13,0] ?_
    refine jR 8 [0,2,3,8,11,19,20,21,79,80,81,86,87,91,92] [(1,a_ 2 b15),(6,v_ 1 (bS L hkt))] ?_
    refine aY.iY 0 (d:=(some 93)) (t:=95) (K:=9) (E:=82) (b:=(L.m tk)) (cnt:=(obj S.O tk).ah.length) (f:=(jJ L (obj S.O tk).ah)) (x:=(.tmp 91)) (ix:=(.tmp 92)) (key:=.string (jY (obj S.O tk).ah j)) (z:=.nilIface) (kl:=(.string (jY (obj S.O tk).ah j).data.toList)) (q:=(some (eT L ⟨ek,3⟩))) (by kernel_rfl) (by kernel_rfl) (fun _=>by kernel_rfl) (fun _=>by kernel_rfl) Df Tryz.underlying95 (fun _=>by kernel_rfl) (Fo (by omega)) (by rw [uW,hle];rfl) (by kernel_rfl) ?_
    refine mL [2,13,0] [] (dz (L.b ek)) ?_ (by rintro _ _ ⟨rfl,rfl⟩;rfl)
    rintro _ _ ⟨rfl,rfl⟩
    refine nC [2,13,0] [95] [] [] ?_
    refine nC [2,13,0] [96] [] [] ?_
    refine nC [2,13,0] [97] [(0,v_ 13 (ur L hke))] [] ?_
    refine nC [2,13,0] [98] [] [] ?_
    refine mN [2,13,0] (fun rQ=>[(99,.slice (some ⟨rQ,0,none⟩) (1) (1))]) (fun _=>[]) (fun rQ=>.blk rQ [.string (jY (obj S.O tk).ah j),vI ((obj S.O ek).id)] 68) (fun rQ=>?_)
    refine aY.cut (ι:=(Option Addr)×Nat) (fr':=fun ((mQ,mR):(Option Addr)×Nat)=>(UJ f b4 b5 b15 L tk A7 S c8 i kO lT j mQ mR)) (hp':=fun ((mQ,mR):(Option Addr)×Nat)=>([O9 b15 S i tk Ae j ce,UI mQ j mR S tk,O8 L tk S,.blk b16 [.map (some (L.m tk))] 95,Pa kO S tk lT]++BF b5 An i cn K S A7 c8 b4 f m t L++UL S L tk R rQ j ek)) [2,13,0] rfl rfl ?_ rfl (fun _=>by kernel_rfl) ?_
    ·refine j3 1 64 (some ⟨rQ,0,none⟩) 1 1 [.string (jY (obj S.O tk).ah j),vI ((obj S.O ek).id)] rfl (dS (j:=17) rfl) (fun mQ mR=>?_) (hl:=rfl)
     refine ak.bO 1 rfl (congrArg (fun x=>HP.abs (av 68 2 _ _ _ x)) (AV hj2 Sd)) ?_
     refine sl 100 (.slice mQ (j+1) (mR)) (.slice mQ ((j+1)) (mR)) (rfl) ?_
     refine NL ?_
     exact MD (mQ,mR) [0,2,3,8,11,19,20,21,79,80,81,100] [0,1,2,3,4,5,6,7,8,9,10,11,12,13,14,15,16,17]
    rintro⟨mQ,mR⟩
    refine nC [2,13,0] [101] [] [] ?_
    refine aY.last rfl rfl ?_
    refine jC 1 [] [(0,a_ 0 b15)] [(0,[(9,.slice mQ ((j+1)) (mR))])] ?_
    refine NL (ai.np (ai.aA (NX (af.region ?_))))
    refine jK 2 [81] [(0,wJ ((j:Int)+1) (↑(j+1)))] ?_
    refine NL ?_
    exact tJ ((j+1),mQ,mR) [0,1,2,3,4,5,6,7,8,9,10,11,12,13,14,15,16] ((by omega))
   refine af.exit (ai.aC (ai.aC (ai.aU (ai.aA (NX (af.region ?_))))))
   have hjl:j=(obj S.O tk).ah.length:=by omega
   refine ak.mem (fun w hS=>hS.Xx (i:=15) (j:=2) (idx:=[0,1,3,4,5,6,7,8,9,10,11,12,13,14,16]) (k:=tk) rfl rfl (by kernel_rfl) rfl (hkt)) ?_
   refine jN 4 [104,106] (fun fF=>[(1,a_ 5 b5),(2,A_ 1 b15 10)]) (fun _=>[]) (fun fF=>.blk fF [vI ((dQ S i)),vI 2,vI ((obj S.O tk).mode),vI ((obj S.O tk).uid),vI ((obj S.O tk).gid),vI ((obj S.O tk).sec),vI ((obj S.O tk).nano),.slice none (0) (0),.string ⟨#[]⟩,.slice Ae (j) (ce)] 66) (fun fF=>?_)
   refine j3 6 22 (some ⟨fF,0,none⟩) 1 1 [vI ((dQ S i)),vI 2,vI ((obj S.O tk).mode),vI ((obj S.O tk).uid),vI ((obj S.O tk).gid),vI ((obj S.O tk).sec),vI ((obj S.O tk).nano),.slice none (0) (0),.string ⟨#[]⟩,.slice Ae (j) (ce)] rfl (dS (j:=16) rfl) (fun vS vT=>?_) (hl:=rfl)
   refine ak.bO 6 rfl (congrArg (fun x=>HP.abs (av 66 10 _ _ _ x)) (rK (eN (by omega)) (vK hI.toInv0 hi2 mO hlv) rfl (by grind))) ?_
   refine sl 107 (.slice vS (i+1) (vT)) (.slice vS ((i+1)) (vT)) (rfl) ?_
   refine jC 2 [] [(1,a_ 5 b5)] [(5,[(0,.slice vS ((i+1)) (vT))])] ?_
   refine NL (ai.aA (NX (af.region ?_)))
   refine jK 2 [21] [(0,wJ ((i:Int)+1) (↑(i+1)))] ?_
   refine NL (ai.mem (fun w hS=>hS.ld (e:=5) (size:=1)) ?_)
   refine ai.mem (fun w hS=>hS.qV (R':=(jt ((ax S).take (i+1)) (K.put i none 0 Ae ce))) (i:=8) (j:=17) (idx:=[0,1,2,3,4,5,6,7,9,10,11,12,13,14,15,16]) rfl rfl (by kernel_rfl) rfl (yL (eN (by omega)) (vK hI.toInv0 hi2 mO hlv)) (wD (eN (by omega)) (vK hI.toInv0 hi2 mO hlv) rfl)) ?_
   refine ai.mem (fun w hS=>hS.qV (R':=(mH ((ax S).take (i+1)) (K.put i none 0 Ae ce))) (i:=8) (j:=3) (idx:=[0,1,2,4,5,6,7,9,10,11,12,13,14,15,16]) rfl rfl (by kernel_rfl) rfl (yM (eN (by omega)) (vK hI.toInv0 hi2 mO hlv)) ((wE (eN (by omega)) (vK hI.toInv0 hi2 mO hlv) (by show ((obj S.O tk).ah.map (dK S.O)).length=j;rw [List.length_map,hjl])).trans (by rw [hjl,List.take_length]))) ?_
   exact tJ ((i+1),vS,vT,(K.put i none 0 Ae ce)) [6,7,0,1,8,9,10,11,12,13,2,14] ((by omega))
  have hkt:(obj S.O tk).kind=3:=hI.kind hlv
  have hel:(obj S.O tk).ah.length<=8192:=hI.jg hlv
  have hdl:(obj S.O tk).data.length<=140737488355328:=hI.NJ hlv
  refine af.region (jK 5 [28,29] [(3,a_ 6 f)] ?_)
  refine ak.iY 7 (d:=(some 30)) (t:=78) (K:=3) (E:=82) (b:=m) (n:=S.idx.length) (f:=(bB (bC L S.idx))) (x:=(.tmp 28)) (ix:=(.tmp 29)) (key:=.int .i64 ((dQ S i))) (z:=.nilIface) (kl:=(.int .i64 (dQ S i))) (r:=(some (eT L ⟨tk,3⟩))) (fun _=>by kernel_rfl) (by kernel_rfl) (fun _=>by kernel_rfl) (fun _=>by kernel_rfl) gU Tryz.underlying78 (fun _=>by kernel_rfl) (mE (FK hI.toInv0 hi2)) (by rw [iZ,hget,mO];rfl) ?_
  refine jK 1 [6] [] ?_
  refine NS (jK 1 [31] [] ?_)
  refine gL [] (dz (L.b tk)) ?_
  rintro _ _ ⟨rfl,rfl⟩
  refine jK 1 [7] [] ?_
  refine NN (af.seq (af.rS (S:=[pO S.O L]) [0,1,3,4,5,6,7,8,9,10,11,12,13,14,15,16,17,18] [.beside [2,19] 20,.one 21] [8] (by kernel_rfl) (by kernel_rfl) rfl (by kernel_rfl) ?_))
  refine gP (BD f b4 b5++[(6,.iface 91 (vP (L.b tk)))]++BG A7 S c8 i++[(33,vI ((dQ S i))),(34,.iface 91 (vP (L.b tk)))]++Gh S tk) [0,1,3,4,5,6,7,8,9,10,11,12,13,14,15,16,17,18] [(5,v_ 0 (wg L hkt)),(9,v_ 0 (Co L hkt)),(13,v_ 0 (Cp L hkt)),(17,p_ ⟨[.view 0 (.int .i64 ((obj S.O tk).sec)),.view 0 (.int .i64 ((obj S.O tk).nano))],none,none,none,none⟩ [(∀ F w,(aF (cJ S.O L)).h F w->w.cell? ⟨(L.b tk),5,none⟩=some (vI ((obj S.O tk).nano))),(∀ F w,(aF (cJ S.O L)).h F w->w.cell? ⟨(L.b tk),4,none⟩=some (vI ((obj S.O tk).sec)))] ⟨fD (by rw [hkt];decide) (rfl),fD (by rw [hkt];decide) (rfl),trivial⟩)] ?_
  refine iL.beside (j:=20) (dj:=8) (R:=fun f_ l_=>f_=([(52,.agg #[vI ((dQ S i)),vI 3,vI ((obj S.O tk).mode),vI ((obj S.O tk).uid),vI ((obj S.O tk).gid),vI ((obj S.O tk).sec),vI ((obj S.O tk).nano),.slice none (0) (0),.string ⟨#[]⟩,.slice none (0) (0)]),(35,vI 3)]++BD f b4 b5++[(6,.iface 91 (vP (L.b tk)))]++BG A7 S c8 i++[(33,vI ((dQ S i))),(34,.iface 91 (vP (L.b tk)))]++Gh S tk)/\l_=[]) [0,1,2,3,4,5,6,7,8,9,10,11] [8] [(2,35),(19,52)] rfl (pc:=[]) (pj:=[]) (Z:=(BF b5 An i cn K S A7 c8 b4 f m t L++[pD S.O L,pE S.O L,.abs R])) (by kernel_rfl) rfl (by kernel_rfl) rfl rfl (ic.of (ι:=Nat) (v:=fun (qy:Nat)=>vP qy) (l:=fun (qy:Nat)=>[Zn qy]) [35,52] rfl rfl rfl rfl ?_) ?_ ?_
  ·intro u Aq
   refine jN 1 [8] (fun _=>[]) (fun _=>[]) (fun qy=>.blk qy [vI 0,vI 0,vI 0,vI 0,vI 0,vI 0,vI 0,.slice none (0) (0),.string ⟨#[]⟩,.slice none (0) (0)] 66) (fun qy=>?_)
   refine NL ?_
   exact MD qy [8,35,52,0,2,3,6,19,20,21,33,34,39,43,47,51] [1,0]
  ·refine kA.step (ic.of (ι:=Unit) (v:=fun (_:Unit)=>.int .i64 3) (l:=fun (_:Unit)=>[]) [8] rfl rfl rfl rfl ?_) rfl ?_
   ·intro u Aq
    refine gL [] (qN (vP (L.b tk))) ?_
    rintro _ _ ⟨rfl,rfl⟩
    refine NL ?_
    exact MD () [35,8,0,2,3,6,19,20,21,33,34,39,43,47,51] [0]
   rintro _ _ ⟨_,rfl,rfl⟩
   refine kA.step (ic.of (ι:=Unit) (v:=fun (_:Unit)=>.agg #[vI ((dQ S i)),vI 3,vI ((obj S.O tk).mode),vI ((obj S.O tk).uid),vI ((obj S.O tk).gid),vI ((obj S.O tk).sec),vI ((obj S.O tk).nano),.slice none (0) (0),.string ⟨#[]⟩,.slice none (0) (0)]) (l:=fun (_:Unit)=>[]) [8] rfl rfl rfl rfl ?_) rfl ?_
   ·intro u Aq
    refine jK 1 [52] [] ?_
    refine NL ?_
    exact MD () [52,8,35,0,2,3,6,19,20,21,33,34,39,43,47,51] [0]
   rintro _ _ ⟨_,rfl,rfl⟩
   exact⟨rfl,rfl⟩
  rintro _ _ ⟨rfl,rfl⟩ _ _ ⟨qy,rfl,rfl⟩
  refine iL.last rfl rfl ?_
  refine jC 1 [] [(0,A_ 0 qy 10)] [(0,([(0,vI ((dQ S i))),(1,vI 3)]++UK S tk))] ?_
  refine NL (ai.np (NX (af.seq (SR ?_))))
  refine jK 1 [53] [] ?_
  refine NN (af.block (SR ?_))
  refine jK 3 [55,56] [] ?_
  refine NN (CF (SR (jK 3 [64,65] [] ?_)))
  refine NN (CT (SR (jK 1 [10] [] ?_)))
  refine NN (af.region (jC 6 [] [(3,v_ 9 (aak L hkt)),(5,a_ 0 qy)] [(0,[(8,.string (obj S.O tk).target)])] ?_))
  refine NL (ai.aA (NX (af.region ?_)))
  refine jN 4 [104,106] (fun b32=>[(1,a_ 1 b5),(2,A_ 0 qy 10)]) (fun _=>[]) (fun b32=>.blk b32 [vI ((dQ S i)),vI 3,vI ((obj S.O tk).mode),vI ((obj S.O tk).uid),vI ((obj S.O tk).gid),vI ((obj S.O tk).sec),vI ((obj S.O tk).nano),.slice none (0) (0),.string (obj S.O tk).target,.slice none (0) (0)] 66) (fun b32=>?_)
  refine j3 2 22 (some ⟨b32,0,none⟩) 1 1 [vI ((dQ S i)),vI 3,vI ((obj S.O tk).mode),vI ((obj S.O tk).uid),vI ((obj S.O tk).gid),vI ((obj S.O tk).sec),vI ((obj S.O tk).nano),.slice none (0) (0),.string (obj S.O tk).target,.slice none (0) (0)] rfl (dS (j:=13) rfl) (fun Hw Hy=>?_) (hl:=rfl)
  refine ak.bO 2 rfl (congrArg (fun x=>HP.abs (av 66 10 _ _ _ x)) (rK (eN (by omega)) (tZ hI.toInv0 hi2 mO hlv) rfl rfl)) ?_
  refine sl 107 (.slice Hw (i+1) (Hy)) (.slice Hw ((i+1)) (Hy)) (rfl) ?_
  refine jC 2 [] [(1,a_ 1 b5)] [(1,[(0,.slice Hw ((i+1)) (Hy))])] ?_
  refine NL (ai.aA (NX (af.region ?_)))
  refine jK 2 [21] [(0,wJ ((i:Int)+1) (↑(i+1)))] ?_
  refine NL (ai.mem (fun w hS=>hS.ld (e:=5) (size:=1)) ?_)
  refine ai.mem (fun w hS=>hS.ld (e:=68) (size:=2)) ?_
  refine ai.mem (fun w hS=>hS.qV (R':=(jt ((ax S).take (i+1)) (K.put i none 0 none 0))) (i:=4) (j:=14) (idx:=[0,1,2,3,5,6,7,8,9,10,11,12,13,15]) rfl rfl (by kernel_rfl) rfl (yL (eN (by omega)) (tZ hI.toInv0 hi2 mO hlv)) (wD (eN (by omega)) (tZ hI.toInv0 hi2 mO hlv) rfl)) ?_
  refine ai.mem (fun w hS=>hS.qV (R':=(mH ((ax S).take (i+1)) (K.put i none 0 none 0))) (i:=4) (j:=14) (idx:=[0,1,2,3,5,6,7,8,9,10,11,12,13]) rfl rfl (by kernel_rfl) rfl (yM (eN (by omega)) (tZ hI.toInv0 hi2 mO hlv)) ((wE (eN (by omega)) (tZ hI.toInv0 hi2 mO hlv) rfl))) ?_
  exact tJ ((i+1),Hw,Hy,(K.put i none 0 none 0)) [3,4,0,1,5,6,7,8,9,10,11,12] ((by omega))
 refine af.exit (ai.aC (ai.aC (ai.aU (NX (SR ?_)))))
 have hie:(ax S).length=i:=by rw [fe];omega
 have hgt:((ax S).take i)=(ax S):=by rw [← hie,List.take_length]
 refine ak.bO 1 (p:=.abs (av 66 10 An i cn (aR K ((ax S).take i)))) (p':=.abs (av 66 10 An ((ax S).length) cn (aR K (ax S)))) (by kernel_rfl) (by rw [hgt,hie]) ?_
 refine ak.bO 2 (p:=.abs (eF (mH ((ax S).take i) K) i)) (p':=.abs (eF (mH (ax S) K) ((ax S).length))) (by kernel_rfl) (by rw [hgt,hie]) ?_
 refine ak.bO 3 (p:=.abs (eF (jt ((ax S).take i) K) i)) (p':=.abs (eF (jt (ax S) K) ((ax S).length))) (by kernel_rfl) (by rw [hgt,hie]) ?_
 refine jC 2 [] [(0,a_ 0 b5),(1,a_ 5 b4)] [(5,[(0,.slice An (i) (cn))])] ?_
 refine NN (af.ret ?_)
 exact rT _ [a_ 5 b4] [6,7,8,9,10,1,2,3,11] (⟨An,cn,K,by rw [hie],rfl⟩)
end
section
open Go.RowKit Go.Maps aX aq
attribute [local irreducible] ak aV af ai aY iL
abbrev Nn (b2:Nat) (X:FM):=(.blk b2 [vI (X.cN),vI (X.cB),vI (X.cH),vI (X.cS),vI (X.cZ)] 28:HP)
abbrev x9 (b1:Nat) (A:Option Addr) (ns:List ay) (c):=(.blk b1 [.slice A (ns.length) (c)] 24:HP)
abbrev zl3 (b8:Nat) (Y) (k:Nat) (ns):=(.blk b8 (eP Y k (nd ns k)) 66:HP)
abbrev zl4 (b9:Nat) (ns) (k:Nat):=(.blk b9 [vI ((nd ns k).id),vI ((nd ns k).mode),vI ((nd ns k).uid),vI ((nd ns k).gid),vI ((nd ns k).sec),vI ((nd ns k).nano),vI 0,vI 0,.bool false] 86:HP)
abbrev Zp (b1:Nat) (X:FM):=([(2,vP b1),(39,.agg #[vI (X.cN),vI (X.cB),vI (X.cH),vI (X.cS),vI (X.cZ)])]:Fr)
abbrev V5 (b7:Nat) (m3:Nat) (t4:Nat) (S:aL) (L:HL) (R:ct):=([pF b7 m3 t4 S.X,pI m3 L S.idx,pT t4 S.X.cH S.ar L S.us,pO S.O L,pD S.O L,pE S.O L,.abs R]:List HP)
theorem Gj {β:Bs} (A:Option Addr) (c:Nat) (ns:List ay) (Y:Lay) (hG:aB β A ns Y) (hl:ns.length<=1048576) (hd:∀ i,i < ns.length->(nd ns i).data.length<=1048576/\(nd ns i).ah.length<=1048576) (hwf:∀ i,i < ns.length->∀ j,j < (nd ns i).ah.length->-9223372036854775808<=(ent ns i j).id/\(ent ns i j).id<=9223372036854775807) (hnm:∀ i,i < ns.length->∀ j,j < (nd ns i).ah.length->(ent ns i j).name.size<=1048576) (X:FM) :
    Spec Tryz.prog β 6 #[.agg #[.slice A (ns.length) (c)],.agg #[vI (X.cN),vI (X.cB),vI (X.cH),vI (X.cS),vI (X.cZ)]] [] (fun v l=>(¬ kT X/\v=.tuple #[.pointer none,vI 179]/\l=[])\/(kT X/\¬ aW ns/\v=.tuple #[.pointer none,vI 140]/\l=[])\/(kT X/\aW ns/\∃ S f m t L,iF X ns ns.length 0 S/\v=.tuple #[vP f,vI 0]/\l=pA f m t L S)):=by
 refine SE Tryz.func6 Tryz.ntmps6 (fun R=>?_)
 refine SR (jN 1 [2] (fun _=>[]) (fun _=>[]) (fun b1=>.blk b1 [.slice A (ns.length) (c)] 24) (fun b1=>?_))
 refine jN 3 [3] (fun _=>[]) (fun _=>[]) (fun b2=>.blk b2 [vI (X.cN),vI (X.cB),vI (X.cH),vI (X.cS),vI (X.cZ)] 28) (fun b2=>?_)
 refine NN (af.seq (SR (jK 2 [15] [(1,a_ 2 b2)] ?_)))
 refine gL [] (iw X.cN 4096) ?_
 rintro _ _ ⟨rfl,rfl⟩
 refine jK 2 [18] [] ?_
 refine sN 18 ((0<=X.cN/\X.cN<=4096)) (fun nK=>?_) (fun nK=>?_)
 ·refine jK 17 [35] [] ?_
  refine NN (CT (SR (jK 2 [4,5] [] ?_)))
  refine NN (af.ret (ai.aj ?_))
  exact RT _ [0] (.inl ⟨fun h=>nK h.cN,rfl,rfl⟩)
 refine jK 2 [20] [(1,a_ 2 b2)] ?_
 refine gL [] (iw X.cB 1099511627776) ?_
 rintro _ _ ⟨rfl,rfl⟩
 refine jK 3 [24] [] ?_
 refine sN 24 ((0<=X.cB/\X.cB<=1099511627776)) (fun zx=>?_) (fun zx=>?_)
 ·refine jK 11 [35] [] ?_
  refine NN (CT (SR (jK 2 [4,5] [] ?_)))
  refine NN (af.ret (ai.aj ?_))
  exact RT _ [0] (.inl ⟨fun h=>zx h.cB,rfl,rfl⟩)
 refine jK 2 [26] [(1,a_ 2 b2)] ?_
 refine gL [] (iw X.cH 1024) ?_
 rintro _ _ ⟨rfl,rfl⟩
 refine jK 3 [30] [] ?_
 refine sN 30 ((0<=X.cH/\X.cH<=1024)) (fun lE=>?_) (fun lE=>?_)
 ·refine jK 5 [35] [] ?_
  refine NN (CT (SR (jK 2 [4,5] [] ?_)))
  refine NN (af.ret (ai.aj ?_))
  exact RT _ [0] (.inl ⟨fun h=>lE h.cH,rfl,rfl⟩)
 refine jK 2 [32] [(1,A_ 2 b2 2)] ?_
 refine gL [] (jB X.cS X.cZ) ?_
 rintro _ _ ⟨rfl,rfl⟩
 refine jK 2 [35] [] ?_
 refine NN (cN (dw X.cS X.cZ) (fun nP=>?_) (fun nP=>?_))
 ·refine SR (jK 2 [4,5] [] ?_)
  refine NN (af.ret (ai.aj ?_))
  exact RT _ [0] (.inl ⟨fun h=>nP h.now,rfl,rfl⟩)
 have hcap:kT X:=⟨nK,zx,lE,nP⟩
 refine af.skip (NX (af.seq (SR (jK 1 [36] [(0,a_ 1 b1)] ?_))))
 refine gL [] (TF A c ns Y hG hl (fun i hi=>⟨Nat.le_trans (hd i hi).1 (by decide),(hd i hi).2⟩) hwf hnm) ?_
 rintro _ _ ⟨rfl,rfl⟩
 refine jK 1 [38] [] ?_
 refine NN (cN (((if aW ns then 0 else 140):Int)=(0:Int)) (fun Ad=>?_) (fun Ad=>?_))
 ·have Zq:¬ aW ns:=fun h=>Ad (if_pos h)
  refine SR (jK 2 [4,5] [] ?_)
  refine NN (af.ret (ai.aj ?_))
  exact RT _ [0] (.inr (.inl ⟨hcap,Zq,rfl,rfl⟩))
 have hok:aW ns:=Classical.byContradiction (fun h=>by grind)
 refine af.skip (NX (af.seq (af.rS (S:=[Nn b2 X]) [0,2,3] [.two 1 4,.one 5,.one 6,.one 7] [2] (by kernel_rfl) (by kernel_rfl) rfl (by kernel_rfl) ?_)))
 refine gP (Zp b1 X++[(42,vI (X.cH))]) [0,2,3] [(0,A_ 0 b2 5),(2,a_ 0 b2)] ?_
 refine iL.pair (ι:=Nat×Nat) (Yh:=Nat) (Yi:=Nat) (QO:=fun (m3:Nat)=>(Zp b1 X++[(40,.map (some m3)),(42,vI (X.cH))])) (hpi:=fun (m3:Nat)=>[.abs R,x9 b1 A ns c,Nn b2 X,.abs (bq Tryz.prog 3 m3 (fun _=>none) 0)]) (QS:=fun (t5:Nat)=>(Zp b1 X++[(43,vP t5)])) (QT:=fun (t5:Nat)=>[.abs (dI 140 t5 (min (max X.cH 0) 1024) 0 []),.abs R,x9 b1 A ns c,Nn b2 X]) (fr':=fun ((m3,t4):Nat×Nat)=>[(2,vP b1),(39,.agg #[vI (X.cN),vI (X.cB),vI (X.cH),vI (X.cS),vI (X.cZ)]),(40,.map (some m3)),(43,vP t4)]) (hp':=fun ((m3,t4):Nat×Nat)=>[.abs (dI 140 t4 (min (max X.cH 0) 1024) 0 []),.abs R,x9 b1 A ns c,Nn b2 X,.abs (bq Tryz.prog 3 m3 (fun _=>none) 0)]) [2] [3] [3] rfl rfl rfl rfl ?_ ?_ ?_ ?_ rfl (fun _=>by kernel_rfl) rfl (fun _=>by kernel_rfl) rfl (fun _=>by kernel_rfl) ?_
 ·refine ak.qQ (d:=(some 40)) (t:=78) (fun _=>by kernel_rfl) Tryz.prog rfl 3 (fun m3=>?_)
  refine NL ?_
  exact MD m3 [2,39,40,42] [0,1,2,3]
 ·rintro m3
  refine gL [] (Ju X.cH) ?_
  rintro _ _ ⟨t4,rfl,rfl⟩
  refine NL ?_
  exact MD (m3,t4) [2,39,40,43] [0,1,2,3,4]
 ·refine gL [] (Ju X.cH) ?_
  rintro _ _ ⟨t5,rfl,rfl⟩
  refine NL ?_
  exact MD t5 [2,39,43] [0,1,2,3]
 ·rintro t5
  refine ak.qQ (d:=(some 40)) (t:=78) (fun _=>by kernel_rfl) Tryz.prog rfl 3 (fun m6=>?_)
  refine NL ?_
  exact MD (m6,t5) [2,39,40,43] [0,1,2,3,4]
 rintro⟨m3,t4⟩
 refine iL.cut (ι:=Unit) (fr':=fun (_:Unit)=>[(2,vP b1),(44,.agg #[vI (X.cN),vI (X.cB),vI (X.cH),vI (X.cS),vI (X.cZ),.map (some m3),vP t4,vI 0,vI 0,vI 0])]) (hp':=fun (_:Unit)=>[.abs (dI 140 t4 (min (max X.cH 0) 1024) 0 []),.abs R,x9 b1 A ns c,Nn b2 X,.abs (bq Tryz.prog 3 m3 (fun _=>none) 0)]) [3] rfl rfl ?_ rfl (fun _=>by kernel_rfl) ?_
 ·refine jK 1 [44] [] ?_
  refine NL ?_
  exact MD () [2,44] [0,1,2,3,4]
 rintro _
 refine iL.cut (ι:=Nat) (fr':=fun (b7:Nat)=>[(2,vP b1),(45,vP b7)]) (hp':=fun (b7:Nat)=>[.abs (dI 140 t4 (min (max X.cH 0) 1024) 0 []),.abs R,x9 b1 A ns c,Nn b2 X,.abs (bq Tryz.prog 3 m3 (fun _=>none) 0),pF b7 m3 t4 { X with last:=0,ah:=0,used:=0 }]) [3] rfl rfl ?_ rfl (fun _=>by kernel_rfl) ?_
 ·refine jN 1 [45] (fun _=>[]) (fun _=>[]) (fun b7=>pF b7 m3 t4 { X with last:=0,ah:=0,used:=0 }) (fun b7=>?_)
  refine NL ?_
  exact MD b7 [2,45] [0,1,2,3,4,5]
 rintro b7
 refine iL.last rfl rfl ?_
 refine jK 1 [6] [] ?_
 refine NL (ai.np (NX (af.seq (SR ?_))))
 obtain⟨L,hL0⟩:∃ L:HL,L=⟨fun _=>0,fun _=>0,fun _=>none,fun _=>0⟩:=⟨_,rfl⟩
 refine ak.mem (fun w hS=>hS.Ny (cJ (wM X).O L) (Dv X L).1) ?_
 refine ak.mem (fun w hS=>hS.Ny (bX (wM X).O L) (Dv X L).2.1) ?_
 refine ak.mem (fun w hS=>hS.Ny (dL (wM X).O L) (Dv X L).2.2) ?_
 have hc:min (max X.cH 0) 1024=X.cH:=by have:=hcap.cH;omega
 refine ak.mem (fun w hS=>by rw [hc,← Js] at hS;exact hS) ?_
 refine jK 4 [47,48,49] [(1,a_ 2 b1)] ?_
 refine NN (af.block ?_)
 refine lJ (fun (k,S,L)=>(k<=ns.length)/\(tG X ns k S)) (fun (k,S,L)=>ns.length - k) (fun (k,S,L)=>[(2,vP b1),(6,vP b7),(47,.slice A (ns.length) (c)),(48,vI ↑ns.length),(49,vI ↑k)]) (fun (k,S,L)=>([x9 b1 A ns c]++V5 b7 m3 t4 S L R)) (0,(wM X),L) [2,5,4,0,6,7,8,1] (⟨Nat.zero_le _,Qr hcap⟩) ?_
 rintro⟨k,S,L⟩ ⟨hk,hB⟩
 refine SR (jK 1 [50] [] ?_)
 refine NN (af.seq (cP ((((k:Nat):Int):Int) < (((ns.length:Nat):Int):Int)) (fun h50=>?_) (fun h50=>?_)))
 ·have hk2:k < ns.length:=by omega
  have hdk:=hd k hk2
  have hds:=G0 (fun i hi=>(hd i hi).1) hk
  have ul:=hok.ids k hk2
  have hni:=hB.new hok hk2
  have sZ:(Lit.int .i64 (nd ns k).id).wf=true:=WalkArith.wf_i64 (by omega)
  have hkk:=(hok.node k hk2).kind
  have ez:S.X.used=(cT ns k:Int):=by rw [hB.cap]
  have hil:=hB.inv.len
  refine af.skip (NX (af.seq (af.block (SR ?_))))
  refine jN 4 [8] (fun b8=>[(0,x_ k ns.length (aB.hd hG (i:=k) (by omega))),(1,zU (eP Y k (nd ns k)) (fun _ _ h=>aB.rd hG (by omega) h)),(3,A_ 8 b8 10)]) (fun _=>[]) (fun b8=>.blk b8 (eP Y k (nd ns k)) 66) (fun b8=>?_)
  refine NS (jN 13 [9] (fun b9=>[(1,a_ 8 b8),(3,a_ 8 b8),(5,a_ 8 b8),(7,a_ 8 b8),(9,A_ 8 b8 2),(12,A_ 9 b9 9)]) (fun _=>[]) (fun b9=>.blk b9 [vI ((nd ns k).id),vI ((nd ns k).mode),vI ((nd ns k).uid),vI ((nd ns k).gid),vI ((nd ns k).sec),vI ((nd ns k).nano),vI 0,vI 0,.bool false] 86) (fun b9=>?_))
  refine NN (af.seq (SR (jK 2 [65] [(1,a_ 8 b8)] ?_)))
  refine NN (af.block (SR ?_))
  refine jK 2 [77] [] ?_
  refine NN (cP (((nd ns k).kind:Int)=(1:Int)) (fun hk1=>?_) (fun hk1=>?_))
  ·refine rM (List.range 14) 9 [1,8,9] ?_
   refine jR 9 [2,6,8,47,48,49,82,84,85,87] [(3,a_ 0 b7),(5,a_ 1 b8),(6,A_ 2 b9 9),(8,a_ 1 b8)] ?_
   refine mL [2,9,10] [] (CV (Y.dA k) (Y.dC k) (nd ns k).data (hG.data k (by omega)) (by have:=(hd k (by omega)).1;omega)) ?_ (by rintro _ _ ⟨BH,c11,rfl,rfl⟩;rfl)
   rintro _ _ ⟨BH,c11,rfl,rfl⟩
   refine nC [2,9,10] [89] [] [] ?_
   refine mN [2,9,10] (fun b12=>[(90,vP b12)]) (fun _=>[]) (fun b12=>.blk b12 [vI ((nd ns k).id),vI ((nd ns k).mode),vI ((nd ns k).uid),vI ((nd ns k).gid),vI ((nd ns k).sec),vI ((nd ns k).nano),vI 0,vI 0,.bool false,.slice BH ((nd ns k).data.length) (c11)] 90) (fun b12=>?_)
   refine nC [2,9,10] [91] [] [] ?_
   refine aY.last rfl rfl ?_
   obtain⟨L2,hL2⟩:∃ L2:HL,L2=L.put (gE (nd ns k)) b12 0 BH c11:=⟨_,rfl⟩
   have hfr:=hB.fresh hok (by omega)
   refine ak.mem (fun w hS=>hS.yI hL2 hfr (o:=(su (nd ns k))) (i:=5) (j:=11) (ix:=[0,1,2,3,4,6,7,8,9,10]) rfl rfl (by kernel_rfl) rfl (by show (nd ns k).kind≠0;rw [hk1];decide) ((jD (L:=L2) (k:=(gE (nd ns k))) (o:=(su (nd ns k))) hk1).trans (by rw [show L2.dA (gE (nd ns k))=BH by rw [hL2];exact if_pos rfl,show L2.dC (gE (nd ns k))=c11 by rw [hL2];exact if_pos rfl];rfl)) (by show qg (nd ns k).kind=_;rw [hk1]<;>rfl)) ?_
   refine ak.eE [(7,.abs (aF (dL ((dm S (nd ns k)).O) L2)))] (fun w hS=>hS.AF hL2 hfr (o:=(su (nd ns k))) (i:=7) rfl (by show ¬ (nd ns k).kind=2;rw [hk1];decide)) ?_
   refine ak.mem (fun w hS=>hS.aad hL2 (o:=(su (nd ns k))) (i:=6) (j:=1) (ix:=[0,2,3,4,5,7,8,9,10]) rfl rfl (by kernel_rfl) rfl hk1) ?_
   refine ak.eE [(4,.abs (bq Tryz.prog 3 m3 (bB (bC L2 S.idx)) S.idx.length)),(5,.abs (dI 140 t4 S.X.cH S.ar (bC L2 S.us)))] (fun w hS=>by rw [jA hL2 hfr.idx,jA hL2 hfr.us];exact hS) ?_
   have Lh:eT L2 (qY (nd ns k))=.iface 87 (vP b12):=by unfold qY;rw [sJ hL2,hk1];rfl
   refine ak.oO 4 (d:=none) (t:=78) (K:=3) (E:=82) (b:=m3) (n:=S.idx.length) (f:=(bB (bC L2 S.idx))) (x:=(.tmp 82)) (ix:=(.tmp 84)) (y:=(.tmp 91)) (key:=.int .i64 ((nd ns k).id)) (u:=.iface 87 (vP b12)) (kl:=(.int .i64 (nd ns k).id)) (n':=(S.idx.length+1)) (f':=(bB (bC L2 (ins (nd ns k).id (qY (nd ns k)) S.idx)))) (fun _=>by kernel_rfl) (by kernel_rfl) (fun _=>by kernel_rfl) (fun _=>by kernel_rfl) (fun _=>by kernel_rfl) gU Tryz.underlying78 (by unfold maxLen;omega) (mE sZ) (by rw [iZ,hni];rfl) (by rw [← Lh];exact uZ hni) ?_
   refine NL (ai.np (ai.aA (NX (SR ?_))))
   refine jC 6 [] [(2,a_ 8 b8),(5,a_ 3 b7)] [(3,[(7,vI ((nd ns k).id))])] ?_
   refine NN (rM (List.range 11) 10 [3,8] ?_)
   refine jR 10 [2,6,47,48,49,118,120] [(3,a_ 0 b7),(5,a_ 1 b8),(7,wJ (S.X.used+(((nd ns k).data.length:Nat):Int)) (S.X.used+(((nd ns k).data.length:Nat):Int)))] ?_
   refine aY.last rfl rfl ?_
   refine jC 1 [] [(0,a_ 3 b7)] [(3,[(9,vI (S.X.used+(((nd ns k).data.length:Nat):Int)))])] ?_
   refine NL (ai.np (ai.aA (NX (af.region ?_))))
   refine jK 2 [49] [(0,wJ ((k:Int)+1) (↑(k+1)))] ?_
   refine NL (ai.eE [(3,.blk b7 [vI ((dm S (nd ns k)).X.cN),vI ((dm S (nd ns k)).X.cB),vI ((dm S (nd ns k)).X.cH),vI ((dm S (nd ns k)).X.cS),vI ((dm S (nd ns k)).X.cZ),.map (some m3),vP t4,vI ((dm S (nd ns k)).X.last),vI ((dm S (nd ns k)).X.ah),vI ((dm S (nd ns k)).X.used)] 84),(4,.abs (bq Tryz.prog 3 m3 (bB (bC L2 (dm S (nd ns k)).idx)) ((dm S (nd ns k)).idx.length))),(5,.abs (dI 140 t4 (dm S (nd ns k)).X.cH (dm S (nd ns k)).ar (bC L2 (dm S (nd ns k)).us)))] (fun w hS=>by rw [show (dm S (nd ns k)).idx.length=S.idx.length+1 from iH _ _ _];exact hS) ?_)
   exact tJ ((k+1),(dm S (nd ns k)),L2) [2,3,4,5,1,0,6,7] (⟨by omega,Ba hok (fun i hi=>(hd i hi).1) (by omega) hB⟩)
  refine SR (jK 2 [92] [] ?_)
  refine NN (cP (((nd ns k).kind:Int)=(3:Int)) (fun hk3=>?_) (fun hk3=>?_))
  ·refine rM (List.range 13) 10 [1,8,9] ?_
   refine jR 10 [2,6,8,47,48,49,97,99,103] [(3,a_ 0 b7),(5,a_ 1 b8),(6,A_ 2 b9 9),(8,a_ 1 b8)] ?_
   refine mN [1,8,9] (fun b13=>[(104,vP b13)]) (fun _=>[]) (fun b13=>.blk b13 [vI ((nd ns k).id),vI ((nd ns k).mode),vI ((nd ns k).uid),vI ((nd ns k).gid),vI ((nd ns k).sec),vI ((nd ns k).nano),vI 0,vI 0,.bool false,.string (nd ns k).target] 93) (fun b13=>?_)
   refine nC [1,8,9] [105] [] [] ?_
   refine aY.last rfl rfl ?_
   obtain⟨L2,hL2⟩:∃ L2:HL,L2=L.put (gE (nd ns k)) b13 0 none 0:=⟨_,rfl⟩
   have hfr:=hB.fresh hok (by omega)
   refine ak.mem (fun w hS=>hS.yI hL2 hfr (o:=(su (nd ns k))) (i:=4) (j:=10) (ix:=[0,1,2,3,5,6,7,8,9]) rfl rfl (by kernel_rfl) rfl (by show (nd ns k).kind≠0;rw [hk3];decide) ((Al (L:=L2) (k:=(gE (nd ns k))) (o:=(su (nd ns k))) hk3).trans (by rfl)) (by show qg (nd ns k).kind=_;rw [hk3]<;>rfl)) ?_
   refine ak.eE [(6,.abs (aF (dL ((dm S (nd ns k)).O) L2)))] (fun w hS=>hS.AF hL2 hfr (o:=(su (nd ns k))) (i:=6) rfl (by show ¬ (nd ns k).kind=2;rw [hk3];decide)) ?_
   refine ak.eE [(5,.abs (aF (bX ((dm S (nd ns k)).O) L2)))] (fun w hS=>hS.Ef hL2 (o:=(su (nd ns k))) (i:=5) rfl (by show ¬ (nd ns k).kind=1;rw [hk3];decide)) ?_
   refine ak.eE [(3,.abs (bq Tryz.prog 3 m3 (bB (bC L2 S.idx)) S.idx.length)),(4,.abs (dI 140 t4 S.X.cH S.ar (bC L2 S.us)))] (fun w hS=>by rw [jA hL2 hfr.idx,jA hL2 hfr.us];exact hS) ?_
   have Lh:eT L2 (qY (nd ns k))=.iface 91 (vP b13):=by unfold qY;rw [sJ hL2,hk3];rfl
   refine ak.oO 3 (d:=none) (t:=78) (K:=3) (E:=82) (b:=m3) (n:=S.idx.length) (f:=(bB (bC L2 S.idx))) (x:=(.tmp 97)) (ix:=(.tmp 99)) (y:=(.tmp 105)) (key:=.int .i64 ((nd ns k).id)) (u:=.iface 91 (vP b13)) (kl:=(.int .i64 (nd ns k).id)) (n':=(S.idx.length+1)) (f':=(bB (bC L2 (ins (nd ns k).id (qY (nd ns k)) S.idx)))) (fun _=>by kernel_rfl) (by kernel_rfl) (fun _=>by kernel_rfl) (fun _=>by kernel_rfl) (fun _=>by kernel_rfl) gU Tryz.underlying78 (by unfold maxLen;omega) (mE sZ) (by rw [iZ,hni];rfl) (by rw [← Lh];exact uZ hni) ?_
   refine NL (ai.np (ai.aA (NX (SR ?_))))
   refine jC 6 [] [(2,a_ 8 b8),(5,a_ 2 b7)] [(2,[(7,vI ((nd ns k).id))])] ?_
   refine NN (rM (List.range 11) 10 [2,8] ?_)
   refine jR 10 [2,6,47,48,49,118,120] [(3,a_ 0 b7),(5,a_ 1 b8),(7,wJ (S.X.used+(((nd ns k).data.length:Nat):Int)) (S.X.used+(((nd ns k).data.length:Nat):Int)))] ?_
   refine aY.last rfl rfl ?_
   refine jC 1 [] [(0,a_ 2 b7)] [(2,[(9,vI (S.X.used+(((nd ns k).data.length:Nat):Int)))])] ?_
   refine NL (ai.np (ai.aA (NX (af.region ?_))))
   refine jK 2 [49] [(0,wJ ((k:Int)+1) (↑(k+1)))] ?_
   refine NL (ai.eE [(2,.blk b7 [vI ((dm S (nd ns k)).X.cN),vI ((dm S (nd ns k)).X.cB),vI ((dm S (nd ns k)).X.cH),vI ((dm S (nd ns k)).X.cS),vI ((dm S (nd ns k)).X.cZ),.map (some m3),vP t4,vI ((dm S (nd ns k)).X.last),vI ((dm S (nd ns k)).X.ah),vI ((dm S (nd ns k)).X.used)] 84),(3,.abs (bq Tryz.prog 3 m3 (bB (bC L2 (dm S (nd ns k)).idx)) ((dm S (nd ns k)).idx.length))),(4,.abs (dI 140 t4 (dm S (nd ns k)).X.cH (dm S (nd ns k)).ar (bC L2 (dm S (nd ns k)).us)))] (fun w hS=>by rw [show (dm S (nd ns k)).idx.length=S.idx.length+1 from iH _ _ _];exact hS) ?_)
   exact tJ ((k+1),(dm S (nd ns k)),L2) [1,2,3,4,0,5,6,7] (⟨by omega,Ba hok (fun i hi=>(hd i hi).1) (by omega) hB⟩)
  have pJ:(nd ns k).kind=2:=by omega
  refine rM (List.range 12) 7 [1,8,9] ?_
  refine jR 7 [2,6,8,47,48,49,69,71,72] [(3,a_ 0 b7),(5,a_ 1 b8),(6,A_ 2 b9 9)] ?_
  refine aY.cut (ι:=Nat) (fr':=fun (m14:Nat)=>[(2,vP b1),(6,vP b7),(8,vP b8),(47,.slice A (ns.length) (c)),(48,vI ↑ns.length),(49,vI ↑k),(69,.map (some m3)),(71,vI ((nd ns k).id)),(72,.agg #[vI ((nd ns k).id),vI ((nd ns k).mode),vI ((nd ns k).uid),vI ((nd ns k).gid),vI ((nd ns k).sec),vI ((nd ns k).nano),vI 0,vI 0,.bool false]),(73,.map (some m14))]) (hp':=fun (m14:Nat)=>([x9 b1 A ns c]++V5 b7 m3 t4 S L R++[zl3 b8 Y k ns,zl4 b9 ns k,.abs (bq Tryz.prog 9 m14 (fun _=>none) 0)])) [1,8,9] rfl rfl ?_ rfl (fun _=>by kernel_rfl) ?_
  ·refine ak.qQ (d:=(some 73)) (t:=95) (fun _=>by kernel_rfl) Tryz.prog rfl 9 (fun m14=>?_)
   refine NL ?_
   exact MD m14 [2,6,8,47,48,49,69,71,72,73] [0,1,2,3,4,5,6,7,8,9,10]
  rintro m14
  refine nC [1,8,9] [74] [] [] ?_
  refine mN [1,8,9] (fun b15=>[(75,vP b15)]) (fun _=>[]) (fun b15=>.blk b15 [vI ((nd ns k).id),vI ((nd ns k).mode),vI ((nd ns k).uid),vI ((nd ns k).gid),vI ((nd ns k).sec),vI ((nd ns k).nano),vI 0,vI 0,.bool false,.map (some m14),.pointer none] 97) (fun b15=>?_)
  refine nC [1,8,9] [76] [] [] ?_
  refine aY.last rfl rfl ?_
  obtain⟨L2,hL2⟩:∃ L2:HL,L2=L.put (gE (nd ns k)) b15 m14 none 0:=⟨_,rfl⟩
  have hfr:=hB.fresh hok (by omega)
  refine ak.mem (fun w hS=>hS.yI hL2 hfr (o:=(su (nd ns k))) (i:=4) (j:=11) (ix:=[0,1,2,3,5,6,7,8,9,10]) rfl rfl (by kernel_rfl) rfl (by show (nd ns k).kind≠0;rw [pJ];decide) ((nW (L:=L2) (k:=(gE (nd ns k))) (o:=(su (nd ns k))) pJ).trans (by rw [JC hL2];rfl)) (by show qg (nd ns k).kind=_;rw [pJ]<;>rfl)) ?_
  refine ak.mem (fun w hS=>hS.Vc hL2 hfr (o:=(su (nd ns k))) (i:=6) (j:=10) (ix:=[0,1,2,3,4,5,7,8,9]) rfl rfl (by kernel_rfl) rfl pJ rfl) ?_
  refine ak.eE [(6,.abs (aF (bX ((dm S (nd ns k)).O) L2)))] (fun w hS=>hS.Ef hL2 (o:=(su (nd ns k))) (i:=6) rfl (by show ¬ (nd ns k).kind=1;rw [pJ];decide)) ?_
  refine ak.eE [(4,.abs (bq Tryz.prog 3 m3 (bB (bC L2 S.idx)) S.idx.length)),(5,.abs (dI 140 t4 S.X.cH S.ar (bC L2 S.us)))] (fun w hS=>by rw [jA hL2 hfr.idx,jA hL2 hfr.us];exact hS) ?_
  have Lh:eT L2 (qY (nd ns k))=.iface 94 (vP b15):=by unfold qY;rw [sJ hL2,pJ];rfl
  refine ak.oO 4 (d:=none) (t:=78) (K:=3) (E:=82) (b:=m3) (n:=S.idx.length) (f:=(bB (bC L2 S.idx))) (x:=(.tmp 69)) (ix:=(.tmp 71)) (y:=(.tmp 76)) (key:=.int .i64 ((nd ns k).id)) (u:=.iface 94 (vP b15)) (kl:=(.int .i64 (nd ns k).id)) (n':=(S.idx.length+1)) (f':=(bB (bC L2 (ins (nd ns k).id (qY (nd ns k)) S.idx)))) (fun _=>by kernel_rfl) (by kernel_rfl) (fun _=>by kernel_rfl) (fun _=>by kernel_rfl) (fun _=>by kernel_rfl) gU Tryz.underlying78 (by unfold maxLen;omega) (mE sZ) (by rw [iZ,hni];rfl) (by rw [← Lh];exact uZ hni) ?_
  refine NL (ai.np (ai.aA (NX (SR ?_))))
  refine jC 6 [] [(2,a_ 8 b8),(5,a_ 3 b7)] [(3,[(7,vI ((nd ns k).id))])] ?_
  refine NN (rM (List.range 11) 10 [3,8] ?_)
  refine jR 10 [2,6,47,48,49,118,120] [(3,a_ 0 b7),(5,a_ 1 b8),(7,wJ (S.X.used+(((nd ns k).data.length:Nat):Int)) (S.X.used+(((nd ns k).data.length:Nat):Int)))] ?_
  refine aY.last rfl rfl ?_
  refine jC 1 [] [(0,a_ 3 b7)] [(3,[(9,vI (S.X.used+(((nd ns k).data.length:Nat):Int)))])] ?_
  refine NL (ai.np (ai.aA (NX (af.region ?_))))
  refine jK 2 [49] [(0,wJ ((k:Int)+1) (↑(k+1)))] ?_
  refine NL (ai.eE [(3,.blk b7 [vI ((dm S (nd ns k)).X.cN),vI ((dm S (nd ns k)).X.cB),vI ((dm S (nd ns k)).X.cH),vI ((dm S (nd ns k)).X.cS),vI ((dm S (nd ns k)).X.cZ),.map (some m3),vP t4,vI ((dm S (nd ns k)).X.last),vI ((dm S (nd ns k)).X.ah),vI ((dm S (nd ns k)).X.used)] 84),(4,.abs (bq Tryz.prog 3 m3 (bB (bC L2 (dm S (nd ns k)).idx)) ((dm S (nd ns k)).idx.length))),(5,.abs (dI 140 t4 (dm S (nd ns k)).X.cH (dm S (nd ns k)).ar (bC L2 (dm S (nd ns k)).us)))] (fun w hS=>by rw [show (dm S (nd ns k)).idx.length=S.idx.length+1 from iH _ _ _];exact hS) ?_)
  exact tJ ((k+1),(dm S (nd ns k)),L2) [2,3,4,5,1,6,0,7] (⟨by omega,Ba hok (fun i hi=>(hd i hi).1) (by omega) hB⟩)
 refine af.exit (ai.aC (ai.aC (ai.aU (NX (af.seq (SR ?_))))))
 refine jK 4 [123,124,125] [(1,a_ 0 b1)] ?_
 refine NN (af.block ?_)
 refine lJ (fun (i,S1)=>(i<=ns.length)/\(iF X ns i 0 S1)) (fun (i,S1)=>ns.length - i) (fun (i,S1)=>[(6,vP b7),(123,.slice A (ns.length) (c)),(124,vI ↑ns.length),(125,vI ↑i)]) (fun (i,S1)=>([x9 b1 A ns c]++V5 b7 m3 t4 S1 L R)) (0,S) [0,1,2,3,4,5,6,7] (⟨Nat.zero_le _,by have h:=hB;rw [show k=ns.length by omega] at h;exact h.ah⟩) ?_
 rintro⟨i,S1⟩ ⟨hi,hE⟩
 refine SR (jK 1 [126] [] ?_)
 refine NN (af.seq (cP ((((i:Nat):Int):Int) < (((ns.length:Nat):Int):Int)) (fun aby=>?_) (fun aby=>?_)))
 ·refine af.skip (NX (af.seq (af.block (SR ?_))))
  refine jN 4 [11] (fun b16=>[(0,x_ i ns.length (aB.hd hG (i:=i) (by omega))),(1,zU (eP Y i (nd ns i)) (fun _ _ h=>aB.rd hG (by omega) h)),(3,A_ 8 b16 10)]) (fun _=>[]) (fun b16=>.blk b16 (eP Y i (nd ns i)) 66) (fun b16=>?_)
  refine NS (jK 4 [130,131,132] [(1,a_ 8 b16)] ?_)
  refine NN (af.block ?_)
  refine lJ (fun (j,S2)=>(j<=(nd ns i).ah.length)/\(iF X ns i j S2)) (fun (j,S2)=>(nd ns i).ah.length - j) (fun (j,S2)=>[(6,vP b7),(11,vP b16),(123,.slice A (ns.length) (c)),(124,vI ↑ns.length),(125,vI ↑i),(130,.slice (Y.eA i) ((nd ns i).ah.length) ((Y.eC i))),(131,vI ↑((nd ns i).ah.length)),(132,vI ↑j)]) (fun (j,S2)=>([zl3 b16 Y i ns,x9 b1 A ns c]++V5 b7 m3 t4 S2 L R)) (0,S1) [8,0,1,2,3,4,5,6,7] (⟨Nat.zero_le _,hE⟩) ?_
  rintro⟨j,S2⟩ ⟨hj,tL⟩
  refine SR (jK 1 [133] [] ?_)
  refine NN (af.seq (cP ((((j:Nat):Int):Int) < ((((nd ns i).ah.length:Nat):Int):Int)) (fun abz=>?_) (fun abz=>?_)))
  ·have hj2:j < (nd ns i).ah.length:=by omega
   have hi2:i < ns.length:=by omega
   have abA:=tL.get hi2
   obtain⟨hes,hno,hk2⟩:=tL.look hok hi2 hj2
   have Zr:=vQ hok hi2 hj2
   have Vn:aq.get S2.idx (nd ns i).id=some ⟨(gE (nd ns i)),2⟩:=by rw [abA];unfold qY;rw [hk2]
   have hge:aq.get S2.idx (ent ns i j).id=some (mP ns (ent ns i j)):=by rw [← Zr.2];exact tL.get Zr.1
   have ul:=hok.ids i hi2
   have hiw:(Lit.int .i64 (nd ns i).id).wf=true:=WalkArith.wf_i64 (by omega)
   have hew:(Lit.int .i64 (ent ns i j).id).wf=true:=WalkArith.wf_i64 (by have:=hwf i hi2 j hj2;omega)
   have hld:=tL.live hok hi2
   have hlt:=tL.live hok Zr.1
   have hkd:(obj S2.O (gE (nd ns i))).kind=2:=(tL.inv.kind hld).trans hk2
   have hkt:(obj S2.O (mP ns (ent ns i j)).k).kind=(mP ns (ent ns i j)).kind:=tL.inv.kind hlt
   have h3:(mP ns (ent ns i j)).kind=1\/(mP ns (ent ns i j)).kind=2\/(mP ns (ent ns i j)).kind=3:=(tL.inv.ob _ hlt).2.2
   have hlb:0<=(obj S2.O (mP ns (ent ns i j)).k).links/\(obj S2.O (mP ns (ent ns i j)).k).links<=8192:=tL.inv.lb hlt
   have hel:(obj S2.O (gE (nd ns i))).ah.length<=8192:=tL.inv.jg hld
   have hsz:=hnm i hi2 j hj2
   have hde:=hd i hi2
   have QW:=tL.inv.hX
   refine af.skip (NX (af.seq (af.block (SR ?_))))
   refine jN 4 [13] (fun b17=>[(0,x_ j ((nd ns i).ah.length) (aZ.hd (hG.ah i (by omega)) (i:=j) (by omega))),(1,p_ ⟨[.old (.string (en (nd ns i).ah j).name),.old (.int .i64 ((en (nd ns i).ah j).id))],none,none,none,none⟩ [(Rd β ⟨(aJ (Y.eA i)),aI (Y.eA i)+j * 2+1,none⟩ (.int .i64 ((en (nd ns i).ah j).id))),(Rd β ⟨(aJ (Y.eA i)),aI (Y.eA i)+j * 2,none⟩ (.string (en (nd ns i).ah j).name))] ⟨aZ.rd (hG.ah i (by omega)) (i:=j) (by omega) (j:=1) rfl,aZ.rd (hG.ah i (by omega)) (i:=j) (by omega) (j:=0) rfl,trivial⟩),(3,A_ 9 b17 2)]) (fun _=>[]) (fun b17=>.blk b17 [.string (en (nd ns i).ah j).name,vI ((en (nd ns i).ah j).id)] 68) (fun b17=>?_)
   refine NN (af.seq (rM (List.range 18) 17 [2,3,0,9] ?_))
   refine jR 6 [6,11,13,123,124,125,130,131,132,139,141] [(3,a_ 0 b7),(5,a_ 2 b16)] ?_
   refine aY.iY 1 (d:=(some 142)) (t:=78) (K:=3) (E:=82) (b:=m3) (cnt:=S2.idx.length) (f:=(bB (bC L S2.idx))) (x:=(.tmp 139)) (ix:=(.tmp 141)) (key:=.int .i64 ((nd ns i).id)) (z:=.nilIface) (kl:=(.int .i64 (nd ns i).id)) (q:=(some (eT L ⟨(gE (nd ns i)),2⟩))) (by kernel_rfl) (by kernel_rfl) (fun _=>by kernel_rfl) (fun _=>by kernel_rfl) gU Tryz.underlying78 (fun _=>by kernel_rfl) (mE hiw) (by rw [iZ,Vn];rfl) (by kernel_rfl) ?_
   refine jR 9 [6,11,123,124,125,130,131,132,143,145,149,151] [(2,a_ 3 b17),(6,a_ 0 b7),(8,a_ 3 b17)] ?_
   refine aY.iY 1 (d:=(some 152)) (t:=78) (K:=3) (E:=82) (b:=m3) (cnt:=S2.idx.length) (f:=(bB (bC L S2.idx))) (x:=(.tmp 149)) (ix:=(.tmp 151)) (key:=.int .i64 ((en (nd ns i).ah j).id)) (z:=.nilIface) (kl:=(.int .i64 (ent ns i j).id)) (q:=(some (eT L (mP ns (ent ns i j))))) (by kernel_rfl) (by kernel_rfl) (fun _=>by kernel_rfl) (fun _=>by kernel_rfl) gU Tryz.underlying78 (fun _=>by kernel_rfl) (mE hew) (by rw [iZ,hge];rfl) (by kernel_rfl) ?_
   refine aY.last rfl rfl ?_
   refine gL [5,7] (Nk S2.O L (gE (nd ns i)) hkd (ent ns i j).name hsz hno (by omega) (mP ns (ent ns i j)) hkt h3 (by omega)) ?_
   rintro _ _ ⟨rfl,rfl⟩
   refine NL (ai.np (NX (af.region ?_)))
   refine jC 8 [] [(3,a_ 4 b7),(4,wJ (S2.X.ah+1) (S2.X.ah+1)),(7,a_ 4 b7)] [(4,[(8,vI (S2.X.ah+1))])] ?_
   refine NL (ai.aA (NX (af.region ?_)))
   refine jK 2 [132] [(0,wJ ((j:Int)+1) (↑(j+1)))] ?_
   refine NL (ai.eE [(0,.abs (aF (cJ ((og ns S2 (nd ns i) (ent ns i j)).O) L))),(1,.abs (aF (dL ((og ns S2 (nd ns i) (ent ns i j)).O) L))),(4,.blk b7 [vI ((og ns S2 (nd ns i) (ent ns i j)).X.cN),vI ((og ns S2 (nd ns i) (ent ns i j)).X.cB),vI ((og ns S2 (nd ns i) (ent ns i j)).X.cH),vI ((og ns S2 (nd ns i) (ent ns i j)).X.cS),vI ((og ns S2 (nd ns i) (ent ns i j)).X.cZ),.map (some m3),vP t4,vI ((og ns S2 (nd ns i) (ent ns i j)).X.last),vI ((og ns S2 (nd ns i) (ent ns i j)).X.ah),vI ((og ns S2 (nd ns i) (ent ns i j)).X.used)] 84),(5,.abs (bq Tryz.prog 3 m3 (bB (bC L (og ns S2 (nd ns i) (ent ns i j)).idx)) ((og ns S2 (nd ns i) (ent ns i j)).idx.length))),(6,.abs (dI 140 t4 (og ns S2 (nd ns i) (ent ns i j)).X.cH (og ns S2 (nd ns i) (ent ns i j)).ar (bC L (og ns S2 (nd ns i) (ent ns i j)).us))),(7,.abs (aF (bX ((og ns S2 (nd ns i) (ent ns i j)).O) L)))] (fun w hS=>by rw [show bX (og ns S2 (nd ns i) (ent ns i j)).O L=bX S2.O L from WG];exact hS) ?_)
   exact tJ ((j+1),(og ns S2 (nd ns i) (ent ns i j))) [2,3,4,5,6,0,7,1,8] (⟨by omega,tL.step hok (by omega) (by omega)⟩)
  refine af.exit (ai.aC (ai.aC (ai.aU (ai.aA (NX (af.region ?_))))))
  refine jK 2 [125] [(0,wJ ((i:Int)+1) (↑(i+1)))] ?_
  refine NL ?_
  exact tJ ((i+1),S2) [1,2,3,4,5,6,7,8] (⟨by omega,by have h:=tL;rw [show j=(nd ns i).ah.length by omega] at h;exact h.next⟩)
 refine af.exit (ai.aC (ai.aC (ai.aU (NX (SR ?_)))))
 refine jK 3 [4,5] [] ?_
 refine NN (af.ret ?_)
 exact RT _ [1,2,3,4,5,6,7] (.inr (.inr ⟨hcap,hok,S1,b7,m3,t4,L,by grind,rfl,rfl⟩))
end
section
open Go.RowKit Go.Maps aX aq
theorem Li {b:UInt8} (h0:¬ b=0) (h1:¬ b=47) (h2:¬ b=46):bQ ⟨#[b]⟩:=by
  refine⟨Nat.le_refl _,(by show 1<=255;decide),fun e=>h2 ?_,fun e=>?_,fun j hj=>?_⟩
  ·grind
  ·grind
  have:j=0:=by have hj:j < 1:=hj;omega
  subst this
  show ¬ b.toNat=0/\¬ b.toNat=47
  exact⟨fun e=>h0 (UInt8.toNat_inj.1 e),fun e=>h1 (UInt8.toNat_inj.1 e)⟩
theorem BI:dw 0 0:=⟨by decide,by decide,by decide,by decide,by decide⟩
def Pb:ay:=⟨1,2,493,0,0,0,0,[],⟨#[]⟩,[⟨⟨#[102]⟩,2⟩]⟩
def aau:ay:=⟨2,1,420,0,0,0,0,[],⟨#[]⟩,[]⟩
def tq:List ay:=[Pb,aau]
def UM (room:Int):FM:=⟨9,room,9,0,0,0,0,0⟩
theorem zm {i:Nat} (h:i < tq.length):i=0\/i=1:=by
  have h:i < 2:=h
  omega
theorem Zs:aW tq:=by
  refine⟨by decide,fun i hi=>?_,fun i hi=>?_,fun i j hij hj=>?_,by decide,fun i hi j hj=>?_,by decide,fun z=>?_⟩
  ·rcases zm hi with rfl|rfl
   ·exact⟨by decide,by decide,by decide,by decide,BI,fun _=>rfl,fun h=>absurd rfl h,.inl ⟨by decide,rfl⟩⟩
   exact⟨by decide,by decide,by decide,by decide,BI,fun h=>absurd rfl h,fun _=>rfl,.inl ⟨by decide,rfl⟩⟩
  ·rcases zm hi with rfl|rfl<;>exact⟨by decide,by decide⟩
  ·rcases zm hj with rfl|rfl
   ·omega
   have:i=0:=by omega
   subst this;decide
  ·rcases zm hi with rfl|rfl
   ·have hj:j < 1:=hj
    have:j=0:=by omega
    subst this
    exact⟨by decide,Li (by decide) (by decide) (by decide),by show ¬ eG ⟨#[102]⟩ ⟨#[]⟩;unfold eG;decide +kernel⟩
   exact absurd hj (Nat.not_lt_zero j)
  have e:(fV tq tq.length).map (iN tq)=[]:=by decide
  rw [e]
  exact⟨0,rfl⟩
theorem Zt {β:Bs} {B:Option Addr} {e:Nat} (hR:bU β B (aR ⟨fun _=>none,fun i=>if i=0 then some ⟨e,0,none⟩ else none,fun _=>0,fun i=>if i=0 then 1 else 0⟩ tq)) (h1:aZ β (some ⟨e,0,none⟩) Pb.ah):aB β B tq ⟨fun _=>none,fun i=>if i=0 then some ⟨e,0,none⟩ else none,fun _=>0,fun i=>if i=0 then 1 else 0⟩:=by
  have hn:∀ {A:Option Addr},bU β A []:=fun j v hj=>by simp at hj
  refine⟨hR,fun i hi=>?_,fun i hi=>?_⟩
  ·rcases zm hi with rfl|rfl<;>exact hn
  rcases zm hi with rfl|rfl
  ·exact h1
  exact hn
theorem WY {room:Int} (h:0<=room/\room<=1099511627776):kT (UM room):=⟨by show (0:Int)<=9/\(9:Int)<=4096;decide,h,by show (0:Int)<=9/\(9:Int)<=1024;decide,BI⟩
section ops
variable {S:aL} {c:aH} {t:Th} {d:Nat}
theorem Lj {O:bZ} {us:Used Th} {h:Int} {name:ByteArray} {need:Int} (h1:aq.get us h=some t) (h2:t.kind=2) (h3:(obj O t.k).gone=false) (h4:bQ name) (h5:bits BinOp.and .i64 (obj O t.k).mode need=need):dF O us h name need=.ok t.k:=by
  grind [dF]
theorem WZ (hop:c.op=1) (h1:aq.get S.idx c.other=some t) (h2:t.kind=2) (h3:(S.us.length:Int) < S.X.cH):iD S c=({ S with O:=aD S.O t.k (fun o=>{ o with opens:=o.opens+1 }),us:=ins (least S.us) t S.us,ar:=max S.ar ((S.us.length:Int)+1) },{ c with answer:=least S.us,code:=0 }):=by
  grind [iD,Ca,iq,jE]
theorem Pc (hop:c.op=2) (ha:dF S.O S.us c.handle c.name 64=.ok d) (hl:aM c.name (obj S.O d).ah=some t) (h2:t.kind=2) (h3:(S.us.length:Int) < S.X.cH):iD S c=({ S with O:=aD S.O t.k (fun o=>{ o with opens:=o.opens+1 }),us:=ins (least S.us) t S.us,ar:=max S.ar ((S.us.length:Int)+1) },{ c with answer:=least S.us,code:=0 }):=by
  grind [iD,Cb,dG,fq,jE]
theorem UN (hop:c.op=4) (ha:dF S.O S.us c.handle c.name 192=.ok d) (hm:gA c.mode) (hl:aM c.name (obj S.O d).ah=none) (hr:Room S.X S.idx):iD S c=(fA S d c.name (cD S.X 2 c.mode),{ c with answer:=0,code:=0 }):=by
  grind [iD,Cc,eZ,kx,dO]
end ops
structure Pf (room:Int) (S:aL):Prop where
  inv:Inv S
  idx:S.idx=[(1,⟨1,2⟩),(2,⟨2,1⟩)]
  us:S.us=[]
  X:S.X=⟨9,room,9,0,0,2,1,0⟩
  o1:∃ l u,obj S.O 1=⟨1,493,0,0,0,0,l,0,false,2,[],⟨#[]⟩,[(⟨#[102]⟩,⟨2,1⟩)],u⟩
  o2:∃ u,obj S.O 2=⟨2,420,0,0,0,0,1,0,false,1,[],⟨#[]⟩,[],u⟩
theorem W4 {room:Int} {S:aL} (h:iF (UM room) tq tq.length 0 S):Pf room S:=by
  have hi:S.idx=[(1,⟨1,2⟩),(2,⟨2,1⟩)]:=h.idx
  have Zu:Inv S:=h.full
  obtain⟨l1,u1,h1⟩:=h.ob 0 (by decide)
  obtain⟨l2,u2,h2⟩:=h.ob 1 (by decide)
  have h1:obj S.O 1=⟨1,493,0,0,0,0,l1,0,false,2,[],⟨#[]⟩,[(⟨#[102]⟩,⟨2,1⟩)],u1⟩:=h1
  have h2:obj S.O 2=⟨2,420,0,0,0,0,l2,0,false,1,[],⟨#[]⟩,[],u2⟩:=h2
  have hl:=Zu.links ⟨2,1⟩ (by rw [hi];rfl)
  have hl2:l2=1:=by
    rw [hi] at hl
    have e:jx [(1,⟨1,2⟩),(2,⟨2,1⟩)] S.O 2=1:=by
      show (obj S.O 1).ah.countP _+((obj S.O 2).ah.countP _+0)=1
      rw [h1,h2];rfl
    simp only at hl
    rw [e,h2] at hl
    exact hl
  subst hl2
  exact⟨Zu,hi,h.us,h.cap,⟨l1,u1,h1⟩,⟨u2,h2⟩⟩
theorem Sg:bQ ⟨#[100]⟩:=Li (by decide) (by decide) (by decide)
def zn:aH:=⟨1,0,1,⟨#[]⟩,⟨#[]⟩,none,0,[],0,0,0,0,0,0,0⟩
def yc:aH:=⟨4,1,0,⟨#[100]⟩,⟨#[]⟩,none,0,[],448,0,0,0,0,0,0⟩
def E9:aH:=⟨2,1,0,⟨#[100]⟩,⟨#[]⟩,none,0,[],0,0,0,0,0,0,0⟩
theorem Zv:bits BinOp.and .i64 493 192=192:=by kernel_rfl
theorem Zw:bits BinOp.and .i64 493 64=64:=by kernel_rfl
section chain
variable {room:Int} {S:aL}
def S1 (S:aL):aL:={ S with O:=aD S.O 1 (fun o=>{ o with opens:=o.opens+1 }),us:=[(1,⟨1,2⟩)],ar:=max S.ar 1 }
theorem abB:obj (S1 S).O 1={ obj S.O 1 with opens:=(obj S.O 1).opens+1 }:=rfl
theorem Lk (h:Pf room S):iD S zn=(S1 S,{ zn with answer:=1,code:=0 }):=by
  rw [WZ (S:=S) (c:=zn) (t:=⟨1,2⟩) rfl (by rw [h.idx];rfl) rfl (by rw [h.us,h.X];show (0:Int) < 9;decide),h.us]
  rfl
theorem Zx {X:FM} {O:bZ} {o:aN}:obj (br X (aD O 3 (fun _=>o)) 1 ⟨#[100]⟩ ⟨3,2⟩) 1={ obj O 1 with ah:=gV ⟨#[100]⟩ ⟨3,2⟩ (obj O 1).ah,sec:=X.cS,nano:=X.cZ }:=rfl
theorem Zy (h:Pf room S):∃ S2,iD (S1 S) yc=(S2,{ yc with answer:=0,code:=0 })/\S2.us=[(1,⟨1,2⟩)]/\S2.idx.length=3/\S2.X.cH=9/\dF S2.O S2.us 1 ⟨#[100]⟩ 64=.ok 1/\aM ⟨#[100]⟩ (obj S2.O 1).ah=some ⟨3,2⟩:=by
  obtain⟨l,u,h1⟩:=h.o1
  have e1:obj (S1 S).O 1=⟨1,493,0,0,0,0,l,1,false,2,[],⟨#[]⟩,[(⟨#[102]⟩,⟨2,1⟩)],u⟩:=by
    rw [abB,h1];rfl
  have hX:(S1 S).X=⟨9,room,9,0,0,2,1,0⟩:=h.X
  have hi:(S1 S).idx=[(1,⟨1,2⟩),(2,⟨2,1⟩)]:=h.idx
  have ha:dF (S1 S).O (S1 S).us 1 ⟨#[100]⟩ 192=.ok 1:=Lj (t:=⟨1,2⟩) rfl rfl (by rw [e1]) Sg (by rw [e1];exact Zv)
  have hn:aK (S1 S).X=3:=by rw [hX];rfl
  have e2:obj (fA (S1 S) 1 yc.name (cD (S1 S).X 2 yc.mode)).O 1=⟨1,493,0,0,0,0,l,1,false,2,[],⟨#[]⟩,[(⟨#[100]⟩,⟨3,2⟩),(⟨#[102]⟩,⟨2,1⟩)],u⟩:=by
    show obj (br (S1 S).X (aD (S1 S).O (aK (S1 S).X) (fun _=>_)) 1 ⟨#[100]⟩ ⟨aK (S1 S).X,2⟩) 1=_
    rw [hn,Zx,e1,hX]
    simp only [gV]
    rw [if_pos (by unfold eG;decide +kernel)]
  refine⟨_,UN (c:=yc) rfl ha ⟨by decide,by decide⟩ (by rw [e1];rfl) ⟨by rw [hX,hi];show (2:Int) < 9;decide,by rw [hX];show (2:Int) < 1099511627776;decide,by rw [hX];show (1:Int) < 8192;decide⟩,rfl,?_,by show (S1 S).X.cH=9;rw [hX],?_,?_⟩
  ·show (ins _ _ (S1 S).idx).length=3
   rw [hX,hi];rfl
  ·exact Lj (t:=⟨1,2⟩) rfl rfl (by rw [e2]) Sg (by rw [e2];exact Zw)
  rw [e2];rfl
theorem Zz {S2:aL} (h1:S2.us=[(1,⟨1,2⟩)]) (h2:S2.X.cH=9) (h3:dF S2.O S2.us 1 ⟨#[100]⟩ 64=.ok 1) (h4:aM ⟨#[100]⟩ (obj S2.O 1).ah=some ⟨3,2⟩):∃ S3,iD S2 E9=(S3,{ E9 with answer:=2,code:=0 })/\S3.idx=S2.idx:=by
  have h:=Pc (S:=S2) (c:=E9) rfl h3 h4 rfl (by rw [h1,h2];show (1:Int) < 9;decide)
  have e:least S2.us=2:=by rw [h1];rfl
  rw [e] at h
  exact⟨_,h,rfl⟩
structure WrS (room:Int) (ds:List UInt8) (S:aL):Prop where
  inv:Inv S
  idx:S.idx=[(1,⟨1,2⟩),(2,⟨2,1⟩)]
  us:S.us=[(1,⟨1,2⟩),(2,⟨2,1⟩)]
  X:S.X=⟨9,room,9,0,0,2,1,ds.length⟩
  o1:∃ l n u,obj S.O 1=⟨1,493,0,0,0,0,l,n,false,2,[],⟨#[]⟩,[(⟨#[102]⟩,⟨2,1⟩)],u⟩
  o2:∃ u,obj S.O 2=⟨2,420,0,0,0,0,1,1,false,1,ds,⟨#[]⟩,[],u⟩
structure UnS (ds:List UInt8) (S:aL):Prop where
  inv:Inv S
  idx:S.idx=[(1,⟨1,2⟩),(2,⟨2,1⟩)]
  us:S.us=[(1,⟨1,2⟩),(2,⟨2,1⟩)]
  used:S.X.used=ds.length
  o2:∃ s z u,obj S.O 2=⟨2,420,0,0,s,z,0,1,true,1,ds,⟨#[]⟩,[],u⟩
end chain
end
section
open Go.RowKit Go.Maps aX aq
attribute [local irreducible] ak aV af ai
theorem UO {β:Bs} (f m t:Nat) (X:FM):Spec Tryz.prog β 46 #[vP f] [.blk f [vI (X.cN),vI (X.cB),vI (X.cH),vI (X.cS),vI (X.cZ),.map (some m),vP t,vI (X.last),vI (X.ah),vI (X.used)] 84] (fun v l=>v=vI X.used/\l=[.blk f [vI (X.cN),vI (X.cB),vI (X.cH),vI (X.cS),vI (X.cZ),.map (some m),vP t,vI (X.last),vI (X.ah),vI (X.used)] 84]):=by
 refine SE Tryz.func46 Tryz.ntmps46 (fun R=>?_)
 refine SR (jK 1 [] [] ?_)
 refine NS (jK 5 [2] [(3,a_ 0 f)] ?_)
 refine NN (af.ret ?_)
 exact RT _ [0,1] (⟨rfl,rfl⟩)
theorem Sh {β:Bs}:cG Tryz.prog β 19 #[] [] (fun β' v l=>∃ B Y,v=.agg #[.slice B 2 2,vI 9,vI 99,vI 9,vI 0,vI 0]/\l=[]/\aB β' B tq Y):=by
 refine qb Tryz.func19 Tryz.ntmps19 (fun hle0 R=>?_)
 refine SR (jN 1 [0] (fun _=>[]) (fun _=>[]) (fun b4=>.blk b4 [.slice none (0) (0),vI 0,vI 0,vI 0,vI 0,vI 0] 30) (fun b4=>?_))
 refine NS (jN 4 [4,5] (fun _=>[]) (fun _=>[]) (fun b5=>.blk b5 [.string ⟨#[102]⟩,vI 2] 68) (fun b5=>?_))
 refine jN 2 [7] (fun _=>[]) (fun _=>[]) (fun b6=>.blk b6 [vI 1,vI 2,vI 493,vI 0,vI 0,vI 0,vI 0,.slice none (0) (0),.string ⟨#[]⟩,.slice (some ⟨b5,0,none⟩) (1) (1),vI 2,vI 1,vI 420,vI 0,vI 0,vI 0,vI 0,.slice none (0) (0),.string ⟨#[]⟩,.slice none (0) (0)] 66) (fun b6=>?_)
 refine jN 2 [1] (fun b7=>[(1,a_ 4 b7)]) (fun _=>[]) (fun b7=>.blk b7 [.slice (some ⟨b6,0,none⟩) (2) (2)] 24) (fun b7=>?_)
 refine NS (ak.mem (fun w hS=>hS.oF (i:=2) (b:=b5) (cs:=[.string ⟨#[102]⟩,vI 2]) (e:=68) 2 1 (by kernel_rfl) rfl (by decide)) ?_)
 refine ak.kg (Φ:=fun β'=>aZ β' (some ⟨b5,0,none⟩) Pb.ah) 2 [0,1,3,4] (dX:=[.abs R,.blk b4 [.slice none (0) (0),vI 0,vI 0,vI 0,vI 0,vI 0] 30,.blk b6 [vI 1,vI 2,vI 493,vI 0,vI 0,vI 0,vI 0,.slice none (0) (0),.string ⟨#[]⟩,.slice (some ⟨b5,0,none⟩) (1) (1),vI 2,vI 1,vI 420,vI 0,vI 0,vI 0,vI 0,.slice none (0) (0),.string ⟨#[]⟩,.slice none (0) (0)] 66,.blk b7 [.slice (some ⟨b6,0,none⟩) (2) (2)] 24]) rfl rfl (by kernel_rfl) (fun F w h β' h1 h2=>bU.gy h h1 h2) (fun β8 Cl hE=>?_)
 replace hle0:=hle0.trans Cl
 refine ak.mem (fun w hS=>hS.oF (i:=2) (b:=b6) (cs:=[vI 1,vI 2,vI 493,vI 0,vI 0,vI 0,vI 0,.slice none (0) (0),.string ⟨#[]⟩,.slice (some ⟨b5,0,none⟩) (1) (1),vI 2,vI 1,vI 420,vI 0,vI 0,vI 0,vI 0,.slice none (0) (0),.string ⟨#[]⟩,.slice none (0) (0)]) (e:=66) 10 2 (by kernel_rfl) rfl (by decide)) ?_
 refine ak.kg (Φ:=fun β'=>bU β' (some ⟨b6,0,none⟩) (aR ⟨fun _=>none,fun i=>if i=0 then some ⟨b5,0,none⟩ else none,fun _=>0,fun i=>if i=0 then 1 else 0⟩ tq)) 2 [0,1,3] (dX:=[.abs R,.blk b4 [.slice none (0) (0),vI 0,vI 0,vI 0,vI 0,vI 0] 30,.blk b7 [.slice (some ⟨b6,0,none⟩) (2) (2)] 24]) rfl rfl (by kernel_rfl) (fun F w h β' h1 h2=>bU.gy h h1 h2) (fun Y4 rf hR=>?_)
 replace hE:=hE.le rf
 replace hle0:=hle0.trans rf
 refine jC 4 [] [(0,a_ 2 b7),(3,A_ 1 b4 6)] [(1,[(0,.slice (some ⟨b6,0,none⟩) (2) (2)),(1,vI 9),(2,vI 99),(3,vI 9)])] ?_
 refine NN (af.ret ?_)
 exact rB _ [A_ 1 b4 6] [0] hle0 (⟨_,_,rfl,rfl,Zt hR hE⟩)
end
section
open Go.RowKit Go.Maps aX aq
theorem Spec.aav {P:Program} {β:Bs} {f:FuncId} {args:Array Value} {pre:List HP} {post:Value->List HP->Prop} {Ψ:Bs->Value->List HP->Prop} (h:Spec P β f args pre post) (Mf:∀ v l,post v l->∃ l1 l2,l=l1++l2/\∀ β',nU β l2 β'->Ψ β' v l1):cG P β f args pre Ψ:=by
  intro A w hS
  refine (h A w hS).mono ?_
  rintro e w' ⟨v,l,h1,h2,h3⟩
  obtain⟨l1,l2,rfl,hl⟩:=Mf v l h2
  have h4:Sat β (([.abs A]++l1)++l2) w':=by rw [List.append_assoc];exact Sat.turn h3
  obtain⟨β',g1,_,g3⟩:=h4.uj
  exact⟨β',v,l1,g1.le,h1,hl β' g1,Sat.turn g3⟩
section c
variable {β:Bs} {S S2:aL} {L:HL} {f m t:Nat} {c c2:aH}
theorem DN (hI:Inv S) (hC:iO β c) (h:iD S c=(S2,c2)):Spec Tryz.prog β 15 #[vP f,.agg ⟨aO c⟩] (pA f m t L S) (fun v l=>∃ L2,v=.agg ⟨aO c2⟩/\l=pA f m t L2 S2):=by
  grind [Sc]
theorem Pg (hI:Inv S):cG Tryz.prog β 16 #[vP f] [pF f m t S.X,pI m L S.idx,pO S.O L,pD S.O L,pE S.O L] (fun β' v l=>∃ A cp K,v=.agg #[.slice A (ax S).length cp]/\l=[pF f m t S.X,pI m L S.idx,pO S.O L,pD S.O L,pE S.O L]/\aB β' A (ax S) K):=
  (xh S L f m t hI).aav (by
    rintro v l ⟨A,cp,K,rfl,rfl⟩
    exact⟨_,_,rfl,fun β' h=>⟨A,cp,K,rfl,rfl,h.graph⟩⟩)
theorem Gl (h1:(Lit.int .i64 c.handle).wf=true) (h2:(Lit.int .i64 c.other).wf=true) (h3:c.name.size<=1048576) (h4:c.text.size<=1048576) (h5:c.data=[]) (h6:r9 c.op:=by first|exact rfl|(unfold r9;decide)):iO β c:=
  ⟨h1,h2,h3,h4,by rw [h5];exact fun j v hj=>by simp [cx] at hj,by rw [h5];decide,by rw [h5];exact Nat.zero_le _,h6⟩
theorem Ph {room:Int} (hr:0<=room/\room<=1099511627776) {B:Option Addr} {cp:Nat} {Y:Lay} (hG:aB β B tq Y):Spec Tryz.prog β 6 #[.agg #[.slice B 2 cp],.agg #[.int .i64 9,.int .i64 room,.int .i64 9,.int .i64 0,.int .i64 0]] [] (fun v l=>∃ S f m t L,Pf room S/\v=.tuple #[.pointer (some ⟨f,0,none⟩),.int .i64 0]/\l=pA f m t L S):=by
  refine (Gj B cp tq Y hG (by decide) (fun i hi=>?_) (fun i hi j hj=>?_) (fun i hi j hj=>?_) (UM room)).mono ?_
  ·rcases zm hi with rfl|rfl<;>exact⟨by decide,by decide⟩
  ·rcases zm hi with rfl|rfl
   ·have:j=0:=by have hj:j < 1:=hj;omega
    subst this;exact⟨by decide,by decide⟩
   exact absurd hj (Nat.not_lt_zero j)
  ·rcases zm hi with rfl|rfl
   ·have:j=0:=by have hj:j < 1:=hj;omega
    subst this;decide
   exact absurd hj (Nat.not_lt_zero j)
  grind [WY,Zs,W4]
end c
end
section
open Go.RowKit aX aq Go.Maps
theorem Spec.Dd {P:Program} {β:Bs} {f:FuncId} {args:Array Value} {pre R:List HP} {post:Value->List HP->Prop} (h:∀ β':Bs,nU β R β'->Spec P β' f args pre post):Spec P β f args (pre++R) (fun v l=>∃ l0,post v l0/\l=l0++R):=by
  intro A w hS
  have h1:=Sat.turn hS
  rw [← List.append_assoc] at h1
  obtain⟨β',g1,_,g3⟩:=h1.uj
  refine (h β' g1 A w (Sat.turn g3)).mono ?_
  rintro e w' ⟨v,l,h1,h2,h3⟩
  refine⟨v,l++R,h1,⟨l,h2,rfl⟩,?_⟩
  have h4:=g1.back (Sat.turn h3)
  rw [List.append_assoc] at h4
  exact Sat.turn h4
theorem zL {β:Bs} (A B:Option Addr) (c c':Nat) (ns ms:List ay) (L K:Lay) (hH:aB β B ms K) (hl:ns.length<=1048576) (hd:∀ i,i < ns.length->(nd ns i).data.length<=140737488355328/\(nd ns i).ah.length<=1048576) {b:Bool} (hb:decide (ns=ms)=b) :
    Spec Tryz.prog β 18 #[.agg #[.slice A ns.length c],.agg #[.slice B ms.length c']] (yJ A c ns L) (fun v l=>v=.bool b/\l=yJ A c ns L):=
  (Spec.Dd (pre:=[]) (fun _ g=>IY A B c c' ns ms L K g.graph (hH.le g.le) hl hd)).mono (by rintro v l ⟨l0,⟨rfl,rfl⟩,rfl⟩;exact⟨congrArg Value.bool hb,rfl⟩)
theorem Ll {β:Bs} (t:Nat) (most ar:Int) (L:HL) (us:Used Th) :
    Spec Tryz.prog β 53 #[.pointer (some ⟨t,0,none⟩)] [.abs (dI 140 t most ar (bC L us))] (fun v l=>∃ A c,v=.slice A us.length c/\l=[.abs (dI 140 t most ar (bC L us)),.abs (av 3 1 A us.length c (ints (keys us)))]):=by
  have h:=Jw (β:=β) t most ar (bC L us)
  have e:keys (bC L us)=keys us:=keys_map (eT L) us
  grind [keys]
theorem DP {S:aL} (h:Inv0 S):∀ i,i < (ax S).length->(nd (ax S) i).data.length<=140737488355328/\(nd (ax S) i).ah.length<=1048576:=fun i hi=>by
  rw [fe] at hi
  have h1:(obj S.O (fO S i).k).data.length<=bytes S.idx S.O:=oA (g:=fun p:Int×Th=>(obj S.O p.2.k).data.length) (get_at h hi)
  have h2:(obj S.O (fO S i).k).ah.length<=tot S.idx S.O:=oA (g:=fun p:Int×Th=>(obj S.O p.2.k).ah.length) (get_at h hi)
  have h3:=h.used
  have h4:=h.total
  rw [lD hi]
  refine⟨by show (obj S.O (fO S i).k).data.length<=_;omega,?_⟩
  show ((obj S.O (fO S i).k).ah.map _).length<=_
  rw [List.length_map]
  omega
theorem Ig {β:Bs} (A:Option Addr) (c:Nat) (ns:List ay) (L:Lay) (hG:aB β A ns L) (hl:ns.length<=1048576) (hd:∀ i,i < ns.length->(nd ns i).data.length<=1048576/\(nd ns i).ah.length<=1048576) :
    Spec Tryz.prog β 7 #[.agg #[.slice A ns.length c]] [] (fun v l=>∃ B cap,v=.agg #[.slice B ns.length cap]/\l=[.abs (kD β (fun β'=>∃ K,aB β' B ns K))]):=
  (cG.M8 (ι:=Option Addr×Nat) (vv:=fun x=>.agg #[.slice x.1 ns.length x.2]) (ll:=fun _=>[]) (Φ:=fun x β'=>∃ K,aB β' x.1 ns K)
    ((IX A c ns L hG hl hd).mono (by rintro β' v l _ ⟨B,cap,K,rfl,rfl,h⟩;exact⟨(B,cap),rfl,rfl,K,h⟩))).mono (by rintro v l ⟨⟨B,cap⟩,rfl,rfl⟩;exact⟨B,cap,rfl,rfl⟩)
end
section
open Go.RowKit Go.Maps aX aq
attribute [local irreducible] ak aV af ai
theorem UQ {β:Bs} (A B:Option Addr) (c d:Nat) (l:List Int) (hA:bU β A (ints l)) (hB:bU β B (ints l)) (hl:l.length<=1048576) :
    Spec Tryz.prog β 44 #[.slice A l.length c,.slice B l.length d] [] (fun v l=>v=.bool true/\l=[]):=by
 refine SE Tryz.func44 Tryz.ntmps44 (fun R=>?_)
 refine SR (jK 1 [] [] ?_)
 refine NN (af.seq (SR (jK 5 [10] [(4,p_ ⟨[],none,none,none,some (.bool false)⟩ [(Value.bool (!decide ((((l.length:Nat):Int):Int)=(((l.length:Nat):Int):Int))))=(.bool false)] ⟨by simp,trivial⟩)] ?_)))
 refine NN (CF (af.skip (NX (af.seq (SR (jK 1 [5] [] ?_))))))
 refine NN (af.block ?_)
 refine lJ (fun (i:Nat)=>(i<=l.length)) (fun (i:Nat)=>l.length - i) (fun (i:Nat)=>[(0,.slice A (l.length) (c)),(1,.slice B (l.length) (d)),(5,vI ↑i)]) (fun (i:Nat)=>[.abs R]) 0 [0] (Nat.zero_le _) ?_
 rintro i hi
 refine af.seq (SR (jK 4 [14] [] ?_))
 refine NN (cP ((((i:Nat):Int):Int) < (((l.length:Nat):Int):Int)) (fun iU=>?_) (fun iU=>?_))
 ·refine af.skip (NX (af.seq (af.block (af.seq ?_))))
  refine af.bF (by kernel_rfl) (by kernel_rfl) ?_
  refine jQ 9 [25] [(2,x_ i l.length (oI.hd hA (j:=i) (by omega))),(3,r_ (oI.rd hA (j:=i) (by omega))),(6,x_ i l.length (oI.hd hB (j:=i) (by omega))),(7,r_ (oI.rd hB (j:=i) (by omega))),(8,p_ ⟨[],none,none,none,some (.bool false)⟩ [(Value.bool (!decide (((l.getD i 0):Int)=((l.getD i 0):Int))))=(.bool false)] ⟨by simp,trivial⟩)] ?_
  refine NQ (NX ?_)
  refine CF (af.skip (ai.aA (NX (af.region ?_))))
  refine jK 3 [5] [(1,wJ ((i:Int)+1) (↑(i+1)))] ?_
  refine NL ?_
  exact tJ ((i+1)) [0] (by omega)
 refine af.exit (ai.aC (ai.aC (ai.aU (NX (SR ?_)))))
 refine jK 1 [4] [] ?_
 refine NN (af.ret ?_)
 exact RT _ [0] (⟨rfl,rfl⟩)
theorem BJ {β:Bs} (S:aL) (L:HL) (f m t:Nat):Spec Tryz.prog β 17 #[vP f] [pF f m t S.X,pT t S.X.cH S.ar L S.us] (fun v l=>∃ A c,v=.slice A S.us.length c/\l=[pF f m t S.X,pT t S.X.cH S.ar L S.us,.abs (av 3 1 A S.us.length c (ints (keys S.us)))]):=by
 refine SE Tryz.func17 Tryz.ntmps17 (fun R=>?_)
 refine SR (jK 1 [] [] ?_)
 refine NS (jK 4 [6] [(3,a_ 0 f)] ?_)
 refine gL [1] (Ll t S.X.cH S.ar L S.us) ?_
 rintro _ _ ⟨A,c,rfl,rfl⟩
 refine jK 1 [2] [] ?_
 refine NN (af.ret ?_)
 exact RT _ [2,0,1,3] (⟨A,c,rfl,rfl⟩)
theorem UR {β:Bs} (S:aL) (L:HL) (f m t:Nat):Spec Tryz.prog β 45 #[vP f] [pF f m t S.X,pT t S.X.cH S.ar L S.us] (fun v l=>v=vI S.ar/\l=[pF f m t S.X,pT t S.X.cH S.ar L S.us]):=by
 refine SE Tryz.func45 Tryz.ntmps45 (fun R=>?_)
 refine SR (jK 1 [] [] ?_)
 refine NS (jK 4 [6] [(3,a_ 0 f)] ?_)
 refine gL [1] (PZ t S.X.cH S.ar (bC L S.us)) ?_
 rintro _ _ ⟨rfl,rfl⟩
 refine jK 1 [2] [] ?_
 refine NN (af.ret ?_)
 exact RT _ [1,0,2] (⟨rfl,rfl⟩)
theorem Si {β:Bs} (most:Int) (h:0<=most/\most<=1024):Spec Tryz.prog β 29 #[vI most] [] (fun v l=>v=.agg #[vI most,vI 0,.slice none 0 0,.slice none 0 0]/\l=[]):=by
 refine SE Tryz.func29 Tryz.ntmps29 (fun R=>?_)
 refine SR (jN 1 [2] (fun _=>[]) (fun _=>[]) (fun b1=>.blk b1 [vI 0,vI 0,.slice none (0) (0),.slice none (0) (0)] 40) (fun b1=>?_))
 refine NN (af.seq (SR (jK 2 [4] [] ?_)))
 refine NN (cP ((most:Int) < (0:Int)) (fun h4=>?_) (fun h4=>?_))
 ·exact absurd h4 (by omega)
 refine af.skip (NX (af.seq (SR (jK 2 [6] [] ?_))))
 refine NN (cP ((most:Int) > (1024:Int)) (fun h6=>?_) (fun h6=>?_))
 ·exact absurd h6 (by omega)
 refine af.skip (NX (SR (jC 3 [] [(2,A_ 1 b1 4)] [(1,[(0,vI (most))])] ?_)))
 refine NN (af.ret ?_)
 exact rT _ [A_ 1 b1 4] [0] (⟨rfl,rfl⟩)
end
section
open Go.RowKit
theorem lu.wide {ns:List ay} {b b':Nat} (h:lu ns b) (hb:b<=b'):lu ns b':=⟨Nat.le_trans h.len hb,fun i hi=>by
  have:=h.node i hi
  exact⟨this.ids,Nat.le_trans this.data hb,Nat.le_trans this.target hb,Nat.le_trans this.ah hb,fun j hj=>⟨(this.ent j hj).id,Nat.le_trans (this.ent j hj).name hb⟩⟩⟩
section gb
variable {ns:List ay} (h:lu ns 1048576)
include h
theorem zo:ns.length<=1048576:=by have:=h.len;omega
theorem uV:∀ i,i < ns.length->(nd ns i).data.length<=1048576/\(nd ns i).ah.length<=1048576:=fun i hi=>by
  have h1:=(h.node i hi).data
  have h2:=(h.node i hi).ah
  omega
theorem Fa:∀ i,i < ns.length->∀ j,j < (nd ns i).ah.length->-9223372036854775808<=(ent ns i j).id/\(ent ns i j).id<=9223372036854775807:=fun i hi j hj=>((h.node i hi).ent j hj).id
theorem Fb:∀ i,i < ns.length->∀ j,j < (nd ns i).ah.length->(ent ns i j).name.size<=1048576:=fun i hi j hj=>by
  have h1:=((h.node i hi).ent j hj).name
  unfold ent
  omega
theorem V6:∀ i,i < ns.length->(nd ns i).target.size<=1048576:=fun i hi=>by
  have h1:=(h.node i hi).target
  omega
end gb
structure abC (X:FM):Prop where
  cN:uE X.cN
  cB:uE X.cB
  cH:uE X.cH
  cS:uE X.cS
  cZ:uE X.cZ
end
section
open Go.RowKit Go.WideShapes Go.ChangeShapes Go.ChangeAt Go.Deep
section a
variable {H:Type} {enc:TypeId×Value->H} {W:World} {sp:Nat->Bool}
def ZA (A:Option Addr) (n cp:Nat) (X:FM):Value:=.agg #[.slice A n cp,.int .i64 X.cN,.int .i64 X.cB,.int .i64 X.cH,.int .i64 X.cS,.int .i64 X.cZ]
theorem open_start {v:Value} {d:DataW H} {ps:List MemPlace} {r:Go.Reach} {b0:Nat} (hval:Value.okWide Tryz.prog W r b0 30 v) (h:DataW.Trod enc Tryz.prog W 0 sp true 30 v d ps) :
    ∃ A cp,∃ ns:List ay,∃ L:Lay,∃ X:FM,v=ZA A ns.length cp X/\aB (B0 W) A ns L/\lu ns (Rows.uptoBulk d)/\abC X:=by
  obtain⟨cs,rfl,hcs⟩:=okWide_struct Tryz.underlying30 hval
  obtain⟨fuel,h⟩:=h
  obtain⟨ys,m,_,hx,hl,qt,hf⟩:=DataW.trod_struct Tryz.underlying30 h
  have hC:Tryz.prog.cellsOf 30=6:=by kernel_rfl
  rw [hC] at hcs
  obtain⟨cs⟩:=cs
  match cs,hcs with
  | [c0,c1,c2,c3,c4,c5],_=>
    obtain⟨h0,b0⟩:=bg (hf 0 _ rfl) (by rw [qt];decide)
    obtain⟨h1,_⟩:=bg (hf 1 _ rfl) (by rw [qt];decide)
    obtain⟨us,_,_,ZB,_,si,hu⟩:=DataW.trod_struct Tryz.underlying24 h0
    obtain⟨g0,e0⟩:=bg (hu 0 _ rfl) (by rw [si];decide)
    obtain⟨A,cp,ns,L,rfl,hG,hB⟩:=Ob (c:=c0) g0
    obtain⟨vs,_,_,_,_,hvl,hv⟩:=DataW.trod_struct Tryz.underlying28 h1
    obtain⟨k0,_⟩:=bg (hv 0 _ rfl) (by rw [hvl];decide)
    obtain⟨k1,_⟩:=bg (hv 1 _ rfl) (by rw [hvl];decide)
    obtain⟨k2,_⟩:=bg (hv 2 _ rfl) (by rw [hvl];decide)
    obtain⟨k3,_⟩:=bg (hv 3 _ rfl) (by rw [hvl];decide)
    obtain⟨ts,_,_,_,_,htl,ht⟩:=DataW.trod_struct Tryz.underlying26 k3
    obtain⟨t0,_⟩:=bg (ht 0 _ rfl) (by rw [htl];decide)
    obtain⟨t1,_⟩:=bg (ht 1 _ rfl) (by rw [htl];decide)
    obtain⟨z0,rfl,w0⟩:=jZ (c:=c1) Tryz.underlying3 k0
    obtain⟨z1,rfl,w1⟩:=jZ (c:=c2) Tryz.underlying3 k1
    obtain⟨z2,rfl,w2⟩:=jZ (c:=c3) Tryz.underlying3 k2
    obtain⟨z3,rfl,w3⟩:=jZ (c:=c4) Tryz.underlying3 t0
    obtain⟨z4,rfl,w4⟩:=jZ (c:=c5) Tryz.underlying3 t1
    cases hx
    rw [ZB] at b0
    exact⟨A,cp,ns,L,⟨z0,z1,z2,z3,z4,0,0,0⟩,rfl,hG,hB.wide (Nat.le_trans e0 b0),⟨w0,w1,w2,w3,w4⟩⟩
end a
end
end Go.Proofs.YtnipofpbcggjcaaGreat
