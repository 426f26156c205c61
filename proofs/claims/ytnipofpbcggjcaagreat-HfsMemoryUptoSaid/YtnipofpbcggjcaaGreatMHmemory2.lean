/-
  PROVED HERE: lemmas and contracts of functions (texts of this repo, joined; what the claim does not use is left out): GCheck, GE, Hm, Fam, Ld, Fw, Ms, Hn, Ho, ShelfK, Free, HeapMath, Up, Down, PushPop, TabMath, Tab, Tq, TKt, TabT, Hp, Hs, Hi, Hj, Hk, Hl, Hq, Hr, Ht, Hu, TabMath2, Hv, Hw, Hx, Op, Hy, Hz, ShelfS, SK.
  CONDITIONS: as the theorems say.
-/
import Derived.Test.YtnipofpbcggjcaaGreatMHmemory1
import Derived.Maps.OwnOps
import Derived.Shelf.SlGeneric
import Derived.Shelf.SlIterI.Nil
import Derived.Shelf.SortM.Plain
import Derived.Shelf.SortM.SortNone
import Derived.Ground.GgzProg
import Derived.Ground.SlgmProg
import Derived.Test.YtnipofpbcggjcaaGreatProg
import Derived.RegionTactic
import Derived.Deep.QuietTactic
import Derived.BigQuiet
import Derived.BigRegion
import Derived.StillTailTactics
import Derived.WalkSpells
import Derived.Outline
import Derived.Deep.AppendLies
import Derived.Deep.RegionLaw
import Derived.LoopTactic
import Derived.LaidEqlPtr
import Derived.Shelf.SlIter.Nil
set_option maxRecDepth 100000
set_option maxHeartbeats 4000000
namespace Go.Proofs.YtnipofpbcggjcaaGreat
section
open Go.RowKit
attribute [local irreducible] ak aV af ai
theorem wv {β:Bs} (a b c:Int) :
    Spec Tryz.prog β 139 #[vI (a),vI (b),vI (c)] [] (fun v l=>v=.bool (decide (Within a b c))/\l=[]):=by
 refine SE Tryz.func139 Tryz.ntmps139 (fun R=>?_)
 refine SR (jK 1 [] [] ?_)
 refine NS (jK 4 [10] [] ?_)
 refine sP 10 ((a:Int) ≥ (b:Int)) (fun h10=>?_) (fun h10=>?_)
 ·refine jK 5 [6] [] ?_
  refine NN (af.ret ?_)
  exact RT (.bool (decide ((a:Int)<=(c:Int)))) [0] (⟨congrArg Value.bool (decide_eq_decide.2 (by unfold Within;omega)),rfl⟩)
 refine jK 5 [6] [] ?_
 refine NN (af.ret ?_)
 exact RT _ [0] (⟨congrArg Value.bool (decide_eq_false (by unfold Within;omega)).symm,rfl⟩)
theorem jB {β:Bs} (s n:Int) :
    Spec Tryz.prog β 21 #[.agg #[vI (s),vI (n)]] [] (fun v l=>v=.bool (decide (dw s n))/\l=[]):=by
 refine SE Tryz.func21 Tryz.ntmps21 (fun R=>?_)
 refine SR (jN 2 [1] (fun _=>[]) (fun _=>[]) (fun b1=>.blk b1 [vI (s),vI (n)] 26) (fun b1=>?_))
 refine NN (af.seq (SR (jK 4 [6] [(1,a_ 1 b1)] ?_)))
 refine sP 6 ((n:Int) < (0:Int)) (fun h6=>?_) (fun h6=>?_)
 ·refine jK 4 [10] [] ?_
  refine NN (CT (SR (jK 1 [2] [] ?_)))
  refine NN (af.ret (ai.aj ?_))
  exact RT _ [0] (⟨congrArg Value.bool (decide_eq_false (by unfold dw;omega)).symm,rfl⟩)
 refine jK 4 [10] [(1,a_ 1 b1)] ?_
 refine NN (cP ((n:Int) ≥ (1000000000:Int)) (fun h10=>?_) (fun h10=>?_))
 ·refine SR (jK 1 [2] [] ?_)
  refine NN (af.ret (ai.aj ?_))
  exact RT _ [0] (⟨congrArg Value.bool (decide_eq_false (by unfold dw;omega)).symm,rfl⟩)
 refine af.skip (NX (af.seq (SR (jK 3 [13] [(1,a_ 1 b1)] ?_))))
 refine NN (cP ((s:Int)=((-1099511627777):Int)) (fun qc=>?_) (fun qc=>?_))
 ·refine SR (jK 4 [2] [(1,a_ 1 b1)] ?_)
  refine NN (af.ret (ai.aj ?_))
  exact RT (.bool (decide ((n:Int) > (0:Int)))) [0] (⟨congrArg Value.bool (decide_eq_decide.2 (by unfold dw;omega)),rfl⟩)
 refine af.skip (NX (SR (jK 4 [20] [(1,a_ 1 b1)] ?_)))
 refine sP 20 ((s:Int) > ((-1099511627777):Int)) (fun nL=>?_) (fun nL=>?_)
 ·refine jK 5 [2] [(1,a_ 1 b1)] ?_
  refine NN (af.ret ?_)
  exact RT (.bool (decide ((s:Int)<=(1099511627776:Int)))) [0] (⟨congrArg Value.bool (decide_eq_decide.2 (by unfold dw;omega)),rfl⟩)
 refine jK 5 [2] [] ?_
 refine NN (af.ret ?_)
 exact RT _ [0] (⟨congrArg Value.bool (decide_eq_false (by unfold dw;omega)).symm,rfl⟩)
theorem xw {β:Bs} (s n:Int) :
    Spec Tryz.prog β 27 #[.agg #[vI (s),vI (n)]] [] (fun v l=>v=.bool (decide (dw s n))/\l=[]):=by
 refine SE Tryz.func27 Tryz.ntmps27 (fun R=>?_)
 refine SR (jN 2 [1] (fun _=>[]) (fun _=>[]) (fun b2=>.blk b2 [vI (s),vI (n)] 26) (fun b2=>?_))
 refine NN (af.seq (SR (jK 4 [6] [(1,a_ 1 b2)] ?_)))
 refine sP 6 ((n:Int) < (0:Int)) (fun h6=>?_) (fun h6=>?_)
 ·refine jK 14 [20] [] ?_
  refine NN (CT (SR (jK 1 [2] [] ?_)))
  refine NN (af.ret (ai.aj ?_))
  exact RT _ [0] (⟨congrArg Value.bool (decide_eq_false (by unfold dw;omega)).symm,rfl⟩)
 refine jK 5 [11] [(1,a_ 1 b2)] ?_
 refine sP 11 ((n:Int) ≥ (1000000000:Int)) (fun h11=>?_) (fun h11=>?_)
 ·refine jK 9 [20] [] ?_
  refine NN (CT (SR (jK 1 [2] [] ?_)))
  refine NN (af.ret (ai.aj ?_))
  exact RT _ [0] (⟨congrArg Value.bool (decide_eq_false (by unfold dw;omega)).symm,rfl⟩)
 refine jK 5 [16] [(1,a_ 1 b2)] ?_
 refine sP 16 ((s:Int) > (1099511627776:Int)) (fun ou=>?_) (fun ou=>?_)
 ·refine jK 4 [20] [] ?_
  refine NN (CT (SR (jK 1 [2] [] ?_)))
  refine NN (af.ret (ai.aj ?_))
  exact RT _ [0] (⟨congrArg Value.bool (decide_eq_false (by unfold dw;omega)).symm,rfl⟩)
 refine jK 4 [20] [(1,a_ 1 b2)] ?_
 refine NN (cP ((s:Int) < ((-1099511627777):Int)) (fun nL=>?_) (fun nL=>?_))
 ·refine SR (jK 1 [2] [] ?_)
  refine NN (af.ret (ai.aj ?_))
  exact RT _ [0] (⟨congrArg Value.bool (decide_eq_false (by unfold dw;omega)).symm,rfl⟩)
 refine af.skip (NX (SR (jK 4 [24] [(1,a_ 1 b2)] ?_)))
 refine sN 24 ((s:Int)=((-1099511627777):Int)) (fun zx=>?_) (fun zx=>?_)
 ·refine jK 5 [2] [] ?_
  refine NN (af.ret ?_)
  exact RT _ [0] (⟨congrArg Value.bool (decide_eq_true (by unfold dw;omega)).symm,rfl⟩)
 refine jK 5 [2] [(1,a_ 1 b2)] ?_
 refine NN (af.ret ?_)
 exact RT (.bool (!(decide ((n:Int)=(0:Int))))) [0] (⟨congrArg Value.bool (zZ (by unfold dw;omega)),rfl⟩)
theorem D5 {β:Bs} (s:ByteArray) (hl:s.size<=1048576) :
    Spec Tryz.prog β 58 #[.string s] [] (fun v l=>v=.bool (decide (bQ s))/\l=[]):=by
 refine SE Tryz.func58 Tryz.ntmps58 (fun R=>?_)
 refine SR (jK 1 [] [] ?_)
 refine NN (af.seq (SR (jK 1 [3] [] ?_)))
 refine NN (af.block ?_)
 refine lJ (fun (i:Nat)=>(i<=s.size)/\(∀ j,j < i->¬ cR s j=0/\¬ cR s j=47)) (fun (i:Nat)=>s.size - i) (fun (i:Nat)=>[(0,.string s),(3,vI ↑i)]) (fun (i:Nat)=>[.abs R]) 0 [0] (⟨Nat.zero_le _,fun j hj=>absurd hj (Nat.not_lt_zero j)⟩) ?_
 rintro i ⟨hi,hall⟩
 refine af.seq (SR (jK 4 [7] [] ?_))
 refine NN (cP ((((i:Nat):Int):Int) < ((((s:ByteArray).size:Nat):Int):Int)) (fun h7=>?_) (fun h7=>?_))
 ·refine af.skip (NX (af.seq (af.block (SR ?_))))
  refine jK 5 [14] [(2,xP i (i < (s:ByteArray).size))] ?_
  refine sP 14 ((((((s:ByteArray).data.getD (i) 0).toNat:Nat):Int):Int)=(0:Int)) (fun iU=>?_) (fun iU=>?_)
  ·refine jK 5 [19] [] ?_
   refine NN (CT (SR (jK 1 [2] [] ?_)))
   refine NN (af.ret (ai.au (ai.aj (ai.aj (ai.au (ai.aj ?_))))))
   exact RT _ [0] (⟨congrArg Value.bool (decide_eq_false (by intro g;have:=g.2.2.2.2 i (by omega);unfold cR at this;omega)).symm,rfl⟩)
  refine jK 5 [19] [(2,xP i (i < (s:ByteArray).size))] ?_
  refine NN (cP ((((((s:ByteArray).data.getD (i) 0).toNat:Nat):Int):Int)=(47:Int)) (fun GK=>?_) (fun GK=>?_))
  ·refine SR (jK 1 [2] [] ?_)
   refine NN (af.ret (ai.au (ai.aj (ai.aj (ai.au (ai.aj ?_))))))
   exact RT _ [0] (⟨congrArg Value.bool (decide_eq_false (by intro g;have:=g.2.2.2.2 i (by omega);unfold cR at this;omega)).symm,rfl⟩)
  refine af.skip (ai.aA (NX (af.region ?_)))
  refine jK 3 [3] [(1,wJ ((i:Int)+1) (↑(i+1)))] ?_
  refine NL ?_
  exact tJ ((i+1)) [0] (⟨by omega,fun j hj=>by grind [cR]⟩)
 refine af.exit (ai.aC (ai.aC (ai.aU (NX (SR ?_)))))
 refine jK 4 [23] [] ?_
 refine sP 23 (((((s:ByteArray).size:Nat):Int):Int) ≥ (1:Int)) (fun h23=>?_) (fun h23=>?_)
 ·refine jK 5 [28] [] ?_
  refine sP 28 (((((s:ByteArray).size:Nat):Int):Int)<=(255:Int)) (fun uz=>?_) (fun uz=>?_)
  ·refine jK 4 [32] [(1,w_ (.bool (!(decide ((s:ByteArray)=⟨#[46]⟩)))) (DT _ _))] ?_
   refine sN 32 ((s:ByteArray)=⟨#[46]⟩) (fun oV=>?_) (fun oV=>?_)
   ·refine jK 4 [2] [(1,w_ (.bool (!(decide ((s:ByteArray)=⟨#[46,46]⟩)))) (DT _ _))] ?_
    refine NN (af.ret ?_)
    exact RT (.bool (!(decide ((s:ByteArray)=⟨#[46,46]⟩)))) [0] (⟨congrArg Value.bool (zZ (by have hA:∀ j,j < s.size->¬ cR s j=0/\¬ cR s j=47:=fun j hj=>hall j (by omega);unfold bQ;grind)),rfl⟩)
   refine jK 4 [2] [] ?_
   refine NN (af.ret ?_)
   exact RT _ [0] (⟨congrArg Value.bool (decide_eq_false (by have hA:∀ j,j < s.size->¬ cR s j=0/\¬ cR s j=47:=fun j hj=>hall j (by omega);unfold bQ;grind)).symm,rfl⟩)
  refine jK 8 [2] [] ?_
  refine NN (af.ret ?_)
  exact RT _ [0] (⟨congrArg Value.bool (decide_eq_false (by have hA:∀ j,j < s.size->¬ cR s j=0/\¬ cR s j=47:=fun j hj=>hall j (by omega);unfold bQ;grind)).symm,rfl⟩)
 refine jK 13 [2] [] ?_
 refine NN (af.ret ?_)
 exact RT _ [0] (⟨congrArg Value.bool (decide_eq_false (by have hA:∀ j,j < s.size->¬ cR s j=0/\¬ cR s j=47:=fun j hj=>hall j (by omega);unfold bQ;grind)).symm,rfl⟩)
theorem I8 {β:Bs} (n:ay) (dA eA:Option Addr) (dC eC:Nat) (ht:n.target.size<=1048576) :
    Spec Tryz.prog β 56 #[.agg #[vI (n.id),vI (n.kind),vI (n.mode),vI (n.uid),vI (n.gid),vI (n.sec),vI (n.nano),.slice dA (n.data.length) (dC),.string n.target,.slice eA (n.ah.length) (eC)]] [] (fun v l=>v=.bool (decide (oq n))/\l=[]):=by
 refine SE Tryz.func56 Tryz.ntmps56 (fun R=>?_)
 refine SR (jN 2 [1] (fun _=>[]) (fun _=>[]) (fun b3=>.blk b3 [vI (n.id),vI (n.kind),vI (n.mode),vI (n.uid),vI (n.gid),vI (n.sec),vI (n.nano),.slice dA (n.data.length) (dC),.string n.target,.slice eA (n.ah.length) (eC)] 66) (fun b3=>?_))
 refine NN (af.seq (SR (jK 4 [7] [(1,a_ 1 b3)] ?_)))
 refine sP 7 ((n.kind:Int) < (1:Int)) (fun h7=>?_) (fun h7=>?_)
 ·refine jK 40 [47] [] ?_
  refine NN (CT (SR (jK 1 [2] [] ?_)))
  refine NN (af.ret (ai.aj ?_))
  exact RT _ [0] (⟨congrArg Value.bool (decide_eq_false (by rw [bL];grind [bW])).symm,rfl⟩)
 refine jK 5 [12] [(1,a_ 1 b3)] ?_
 refine sP 12 ((n.kind:Int) > (3:Int)) (fun h12=>?_) (fun h12=>?_)
 ·refine jK 35 [47] [] ?_
  refine NN (CT (SR (jK 1 [2] [] ?_)))
  refine NN (af.ret (ai.aj ?_))
  exact RT _ [0] (⟨congrArg Value.bool (decide_eq_false (by rw [bL];grind [bW])).symm,rfl⟩)
 refine jK 5 [17] [(1,a_ 1 b3)] ?_
 refine sP 17 ((n.mode:Int) < (0:Int)) (fun D3=>?_) (fun D3=>?_)
 ·refine jK 30 [47] [] ?_
  refine NN (CT (SR (jK 1 [2] [] ?_)))
  refine NN (af.ret (ai.aj ?_))
  exact RT _ [0] (⟨congrArg Value.bool (decide_eq_false (by rw [bL];grind [bW])).symm,rfl⟩)
 refine jK 5 [22] [(1,a_ 1 b3)] ?_
 refine sP 22 ((n.mode:Int) > (4095:Int)) (fun Ac=>?_) (fun Ac=>?_)
 ·refine jK 25 [47] [] ?_
  refine NN (CT (SR (jK 1 [2] [] ?_)))
  refine NN (af.ret (ai.aj ?_))
  exact RT _ [0] (⟨congrArg Value.bool (decide_eq_false (by rw [bL];grind [bW])).symm,rfl⟩)
 refine jK 5 [27] [(1,a_ 1 b3)] ?_
 refine sP 27 ((n.uid:Int) < (0:Int)) (fun I9=>?_) (fun I9=>?_)
 ·refine jK 20 [47] [] ?_
  refine NN (CT (SR (jK 1 [2] [] ?_)))
  refine NN (af.ret (ai.aj ?_))
  exact RT _ [0] (⟨congrArg Value.bool (decide_eq_false (by rw [bL];grind [bW])).symm,rfl⟩)
 refine jK 5 [32] [(1,a_ 1 b3)] ?_
 refine sP 32 ((n.uid:Int) > (2147483647:Int)) (fun oV=>?_) (fun oV=>?_)
 ·refine jK 15 [47] [] ?_
  refine NN (CT (SR (jK 1 [2] [] ?_)))
  refine NN (af.ret (ai.aj ?_))
  exact RT _ [0] (⟨congrArg Value.bool (decide_eq_false (by rw [bL];grind [bW])).symm,rfl⟩)
 refine jK 5 [37] [(1,a_ 1 b3)] ?_
 refine sP 37 ((n.gid:Int) < (0:Int)) (fun uD=>?_) (fun uD=>?_)
 ·refine jK 10 [47] [] ?_
  refine NN (CT (SR (jK 1 [2] [] ?_)))
  refine NN (af.ret (ai.aj ?_))
  exact RT _ [0] (⟨congrArg Value.bool (decide_eq_false (by rw [bL];grind [bW])).symm,rfl⟩)
 refine jK 5 [42] [(1,a_ 1 b3)] ?_
 refine sP 42 ((n.gid:Int) > (2147483647:Int)) (fun iy=>?_) (fun iy=>?_)
 ·refine jK 5 [47] [] ?_
  refine NN (CT (SR (jK 1 [2] [] ?_)))
  refine NN (af.ret (ai.aj ?_))
  exact RT _ [0] (⟨congrArg Value.bool (decide_eq_false (by rw [bL];grind [bW])).symm,rfl⟩)
 refine jK 2 [44] [(1,A_ 1 b3 2)] ?_
 refine gL [] (xw n.sec n.nano) ?_
 rintro _ _ ⟨rfl,rfl⟩
 refine jK 2 [47] [] ?_
 refine NN (cN (dw n.sec n.nano) (fun h47=>?_) (fun h47=>?_))
 ·refine SR (jK 1 [2] [] ?_)
  refine NN (af.ret (ai.aj ?_))
  exact RT _ [0] (⟨congrArg Value.bool (decide_eq_false (by rw [bL];grind [bW])).symm,rfl⟩)
 refine af.skip (NX (af.seq (SR (jK 4 [51] [(1,a_ 1 b3)] ?_))))
 refine sN 51 ((n.kind:Int)=(1:Int)) (fun zy=>?_) (fun zy=>?_)
 ·refine jK 6 [57] [(1,a_ 1 b3)] ?_
  refine sP 57 ((((n.data.length:Nat):Int):Int) > (0:Int)) (fun xR=>?_) (fun xR=>?_)
  ·refine jK 10 [67] [] ?_
   refine NN (CT (SR (jK 1 [2] [] ?_)))
   refine NN (af.ret (ai.aj ?_))
   exact RT _ [0] (⟨congrArg Value.bool (decide_eq_false (by rw [bL];grind [bW])).symm,rfl⟩)
  refine jK 4 [61] [(1,a_ 1 b3)] ?_
  refine sN 61 ((n.kind:Int)=(2:Int)) (fun Xv=>?_) (fun Xv=>?_)
  ·refine jK 6 [67] [(1,a_ 1 b3)] ?_
   refine NN (cP ((((n.ah.length:Nat):Int):Int) > (0:Int)) (fun Ja=>?_) (fun Ja=>?_))
   ·refine SR (jK 1 [2] [] ?_)
    refine NN (af.ret (ai.aj ?_))
    exact RT _ [0] (⟨congrArg Value.bool (decide_eq_false (by rw [bL];grind [bW])).symm,rfl⟩)
   refine af.skip (NX (af.seq (SR (jK 3 [70] [(1,a_ 1 b3)] ?_))))
   refine NN (cN ((n.kind:Int)=(3:Int)) (fun Jb=>?_) (fun Jb=>?_))
   ·refine SR (jK 4 [2] [(1,a_ 1 b3),(2,w_ (.bool (decide ((n.target:ByteArray)=⟨#[]⟩))) (mY _ _))] ?_)
    refine NN (af.ret (ai.aj ?_))
    exact RT (.bool (decide ((n.target:ByteArray)=⟨#[]⟩))) [0] (⟨congrArg Value.bool (decide_eq_decide.2 (by rw [bL];grind [bW])),rfl⟩)
   refine af.skip (NX (af.seq (SR (jK 1 [3] [] ?_))))
   refine NN (af.block ?_)
   refine lJ (fun (i:Nat)=>(i<=n.target.size)/\(∀ j,j < i->¬ cR n.target j=0)) (fun (i:Nat)=>n.target.size - i) (fun (i:Nat)=>[(1,vP b3),(3,vI ↑i)]) (fun (i:Nat)=>[.abs R,.blk b3 [vI (n.id),vI (n.kind),vI (n.mode),vI (n.uid),vI (n.gid),vI (n.sec),vI (n.nano),.slice dA (n.data.length) (dC),.string n.target,.slice eA (n.ah.length) (eC)] 66]) 0 [0,1] (⟨Nat.zero_le _,fun j hj=>absurd hj (Nat.not_lt_zero j)⟩) ?_
   rintro i ⟨hi,hall⟩
   refine af.seq (SR (jK 5 [78] [(2,a_ 1 b3)] ?_))
   refine NN (cP ((((i:Nat):Int):Int) < ((((n.target:ByteArray).size:Nat):Int):Int)) (fun Jc=>?_) (fun Jc=>?_))
   ·refine af.skip (NX (af.seq (af.block (SR ?_))))
    refine jK 5 [85] [(1,a_ 1 b3),(3,xP i (i < (n.target:ByteArray).size))] ?_
    refine NN (cP ((((((n.target:ByteArray).data.getD (i) 0).toNat:Nat):Int):Int)=(0:Int)) (fun Jd=>?_) (fun Jd=>?_))
    ·refine SR (jK 1 [2] [] ?_)
     refine NN (af.ret (ai.au (ai.aj (ai.aj (ai.au (ai.aj ?_))))))
     exact RT _ [0] (⟨congrArg Value.bool (decide_eq_false (by intro g;have:=(bW.sym g.target (by omega)).2.2 i (by omega);unfold cR at this;omega)).symm,rfl⟩)
    refine af.skip (ai.aA (NX (af.region ?_)))
    refine jK 3 [3] [(1,wJ ((i:Int)+1) (↑(i+1)))] ?_
    refine NL ?_
    exact tJ ((i+1)) [0,1] (⟨by omega,fun j hj=>by grind [cR]⟩)
   refine af.exit (ai.aC (ai.aC (ai.aU (NX (SR ?_)))))
   refine jK 5 [90] [(1,a_ 1 b3)] ?_
   refine sP 90 (((((n.target:ByteArray).size:Nat):Int):Int) ≥ (1:Int)) (fun Je=>?_) (fun Je=>?_)
   ·refine jK 6 [2] [(1,a_ 1 b3)] ?_
    refine NN (af.ret ?_)
    exact RT (.bool (decide (((((n.target:ByteArray).size:Nat):Int):Int)<=(4096:Int)))) [0] (⟨congrArg Value.bool (decide_eq_decide.2 (by grind [pP,bL,bW])),rfl⟩)
   refine jK 6 [2] [] ?_
   refine NN (af.ret ?_)
   exact RT _ [0] (⟨congrArg Value.bool (decide_eq_false (by have hA:pP n.target:=fun j hj=>hall j (by omega);rw [bL];grind [bW])).symm,rfl⟩)
  refine jK 6 [67] [] ?_
  refine NN (CF (af.skip (NX (af.seq (SR (jK 3 [70] [(1,a_ 1 b3)] ?_))))))
  refine NN (cN ((n.kind:Int)=(3:Int)) (fun Jb=>?_) (fun Jb=>?_))
  ·refine SR (jK 4 [2] [(1,a_ 1 b3),(2,w_ (.bool (decide ((n.target:ByteArray)=⟨#[]⟩))) (mY _ _))] ?_)
   refine NN (af.ret (ai.aj ?_))
   exact RT (.bool (decide ((n.target:ByteArray)=⟨#[]⟩))) [0] (⟨congrArg Value.bool (decide_eq_decide.2 (by rw [bL];grind [bW])),rfl⟩)
  refine af.skip (NX (af.seq (SR (jK 1 [3] [] ?_))))
  refine NN (af.block ?_)
  refine lJ (fun (i:Nat)=>(i<=n.target.size)/\(∀ j,j < i->¬ cR n.target j=0)) (fun (i:Nat)=>n.target.size - i) (fun (i:Nat)=>[(1,vP b3),(3,vI ↑i)]) (fun (i:Nat)=>[.abs R,.blk b3 [vI (n.id),vI (n.kind),vI (n.mode),vI (n.uid),vI (n.gid),vI (n.sec),vI (n.nano),.slice dA (n.data.length) (dC),.string n.target,.slice eA (n.ah.length) (eC)] 66]) 0 [0,1] (⟨Nat.zero_le _,fun j hj=>absurd hj (Nat.not_lt_zero j)⟩) ?_
  rintro i ⟨hi,hall⟩
  refine af.seq (SR (jK 5 [78] [(2,a_ 1 b3)] ?_))
  refine NN (cP ((((i:Nat):Int):Int) < ((((n.target:ByteArray).size:Nat):Int):Int)) (fun Jc=>?_) (fun Jc=>?_))
  ·refine af.skip (NX (af.seq (af.block (SR ?_))))
   refine jK 5 [85] [(1,a_ 1 b3),(3,xP i (i < (n.target:ByteArray).size))] ?_
   refine NN (cP ((((((n.target:ByteArray).data.getD (i) 0).toNat:Nat):Int):Int)=(0:Int)) (fun Jd=>?_) (fun Jd=>?_))
   ·refine SR (jK 1 [2] [] ?_)
    refine NN (af.ret (ai.au (ai.aj (ai.aj (ai.au (ai.aj ?_))))))
    exact RT _ [0] (⟨congrArg Value.bool (decide_eq_false (by grind)).symm,rfl⟩)
   refine af.skip (ai.aA (NX (af.region ?_)))
   refine jK 3 [3] [(1,wJ ((i:Int)+1) (↑(i+1)))] ?_
   refine NL ?_
   exact tJ ((i+1)) [0,1] (⟨by omega,fun j hj=>by grind [cR]⟩)
  refine af.exit (ai.aC (ai.aC (ai.aU (NX (SR ?_)))))
  refine jK 5 [90] [(1,a_ 1 b3)] ?_
  refine sP 90 (((((n.target:ByteArray).size:Nat):Int):Int) ≥ (1:Int)) (fun Je=>?_) (fun Je=>?_)
  ·refine jK 6 [2] [(1,a_ 1 b3)] ?_
   refine NN (af.ret ?_)
   exact RT (.bool (decide (((((n.target:ByteArray).size:Nat):Int):Int)<=(4096:Int)))) [0] (⟨congrArg Value.bool (decide_eq_decide.2 (by grind [pP,bL,bW])),rfl⟩)
  refine jK 6 [2] [] ?_
  refine NN (af.ret ?_)
  exact RT _ [0] (⟨congrArg Value.bool (decide_eq_false (by grind)).symm,rfl⟩)
 refine jK 10 [57,61] [(7,a_ 1 b3)] ?_
 refine sN 61 ((n.kind:Int)=(2:Int)) (fun Xv=>?_) (fun Xv=>?_)
 ·refine jK 6 [67] [(1,a_ 1 b3)] ?_
  refine NN (cP ((((n.ah.length:Nat):Int):Int) > (0:Int)) (fun Ja=>?_) (fun Ja=>?_))
  ·refine SR (jK 1 [2] [] ?_)
   refine NN (af.ret (ai.aj ?_))
   exact RT _ [0] (⟨congrArg Value.bool (decide_eq_false (by rw [bL];grind [bW])).symm,rfl⟩)
  refine af.skip (NX (af.seq (SR (jK 3 [70] [(1,a_ 1 b3)] ?_))))
  refine NN (cN ((n.kind:Int)=(3:Int)) (fun Jb=>?_) (fun Jb=>?_))
  ·refine SR (jK 4 [2] [(1,a_ 1 b3),(2,w_ (.bool (decide ((n.target:ByteArray)=⟨#[]⟩))) (mY _ _))] ?_)
   refine NN (af.ret (ai.aj ?_))
   exact RT (.bool (decide ((n.target:ByteArray)=⟨#[]⟩))) [0] (⟨congrArg Value.bool (decide_eq_decide.2 (by rw [bL];grind [bW])),rfl⟩)
  refine af.skip (NX (af.seq (SR (jK 1 [3] [] ?_))))
  refine NN (af.block ?_)
  refine lJ (fun (i:Nat)=>(i<=n.target.size)/\(∀ j,j < i->¬ cR n.target j=0)) (fun (i:Nat)=>n.target.size - i) (fun (i:Nat)=>[(1,vP b3),(3,vI ↑i)]) (fun (i:Nat)=>[.abs R,.blk b3 [vI (n.id),vI (n.kind),vI (n.mode),vI (n.uid),vI (n.gid),vI (n.sec),vI (n.nano),.slice dA (n.data.length) (dC),.string n.target,.slice eA (n.ah.length) (eC)] 66]) 0 [0,1] (⟨Nat.zero_le _,fun j hj=>absurd hj (Nat.not_lt_zero j)⟩) ?_
  rintro i ⟨hi,hall⟩
  refine af.seq (SR (jK 5 [78] [(2,a_ 1 b3)] ?_))
  refine NN (cP ((((i:Nat):Int):Int) < ((((n.target:ByteArray).size:Nat):Int):Int)) (fun Jc=>?_) (fun Jc=>?_))
  ·refine af.skip (NX (af.seq (af.block (SR ?_))))
   refine jK 5 [85] [(1,a_ 1 b3),(3,xP i (i < (n.target:ByteArray).size))] ?_
   refine NN (cP ((((((n.target:ByteArray).data.getD (i) 0).toNat:Nat):Int):Int)=(0:Int)) (fun Jd=>?_) (fun Jd=>?_))
   ·refine SR (jK 1 [2] [] ?_)
    refine NN (af.ret (ai.au (ai.aj (ai.aj (ai.au (ai.aj ?_))))))
    exact RT _ [0] (⟨congrArg Value.bool (decide_eq_false (by grind)).symm,rfl⟩)
   refine af.skip (ai.aA (NX (af.region ?_)))
   refine jK 3 [3] [(1,wJ ((i:Int)+1) (↑(i+1)))] ?_
   refine NL ?_
   exact tJ ((i+1)) [0,1] (⟨by omega,fun j hj=>by grind [cR]⟩)
  refine af.exit (ai.aC (ai.aC (ai.aU (NX (SR ?_)))))
  refine jK 5 [90] [(1,a_ 1 b3)] ?_
  refine sP 90 (((((n.target:ByteArray).size:Nat):Int):Int) ≥ (1:Int)) (fun Je=>?_) (fun Je=>?_)
  ·refine jK 6 [2] [(1,a_ 1 b3)] ?_
   refine NN (af.ret ?_)
   exact RT (.bool (decide (((((n.target:ByteArray).size:Nat):Int):Int)<=(4096:Int)))) [0] (⟨congrArg Value.bool (decide_eq_decide.2 (by grind [pP,bL,bW])),rfl⟩)
  refine jK 6 [2] [] ?_
  refine NN (af.ret ?_)
  exact RT _ [0] (⟨congrArg Value.bool (decide_eq_false (by grind)).symm,rfl⟩)
 refine jK 6 [67] [] ?_
 refine NN (CF (af.skip (NX (af.seq (SR (jK 3 [70] [(1,a_ 1 b3)] ?_))))))
 refine NN (cN ((n.kind:Int)=(3:Int)) (fun Jb=>?_) (fun Jb=>?_))
 ·refine SR (jK 4 [2] [(1,a_ 1 b3),(2,w_ (.bool (decide ((n.target:ByteArray)=⟨#[]⟩))) (mY _ _))] ?_)
  refine NN (af.ret (ai.aj ?_))
  exact RT (.bool (decide ((n.target:ByteArray)=⟨#[]⟩))) [0] (⟨congrArg Value.bool (decide_eq_decide.2 (by rw [bL];grind [bW])),rfl⟩)
 refine af.skip (NX (af.seq (SR (jK 1 [3] [] ?_))))
 refine NN (af.block ?_)
 refine lJ (fun (i:Nat)=>(i<=n.target.size)/\(∀ j,j < i->¬ cR n.target j=0)) (fun (i:Nat)=>n.target.size - i) (fun (i:Nat)=>[(1,vP b3),(3,vI ↑i)]) (fun (i:Nat)=>[.abs R,.blk b3 [vI (n.id),vI (n.kind),vI (n.mode),vI (n.uid),vI (n.gid),vI (n.sec),vI (n.nano),.slice dA (n.data.length) (dC),.string n.target,.slice eA (n.ah.length) (eC)] 66]) 0 [0,1] (⟨Nat.zero_le _,fun j hj=>absurd hj (Nat.not_lt_zero j)⟩) ?_
 rintro i ⟨hi,hall⟩
 refine af.seq (SR (jK 5 [78] [(2,a_ 1 b3)] ?_))
 refine NN (cP ((((i:Nat):Int):Int) < ((((n.target:ByteArray).size:Nat):Int):Int)) (fun Jc=>?_) (fun Jc=>?_))
 ·refine af.skip (NX (af.seq (af.block (SR ?_))))
  refine jK 5 [85] [(1,a_ 1 b3),(3,xP i (i < (n.target:ByteArray).size))] ?_
  refine NN (cP ((((((n.target:ByteArray).data.getD (i) 0).toNat:Nat):Int):Int)=(0:Int)) (fun Jd=>?_) (fun Jd=>?_))
  ·refine SR (jK 1 [2] [] ?_)
   refine NN (af.ret (ai.au (ai.aj (ai.aj (ai.au (ai.aj ?_))))))
   exact RT _ [0] (⟨congrArg Value.bool (decide_eq_false (by grind)).symm,rfl⟩)
  refine af.skip (ai.aA (NX (af.region ?_)))
  refine jK 3 [3] [(1,wJ ((i:Int)+1) (↑(i+1)))] ?_
  refine NL ?_
  exact tJ ((i+1)) [0,1] (⟨by omega,fun j hj=>by grind [cR]⟩)
 refine af.exit (ai.aC (ai.aC (ai.aU (NX (SR ?_)))))
 refine jK 5 [90] [(1,a_ 1 b3)] ?_
 refine sP 90 (((((n.target:ByteArray).size:Nat):Int):Int) ≥ (1:Int)) (fun Je=>?_) (fun Je=>?_)
 ·refine jK 6 [2] [(1,a_ 1 b3)] ?_
  refine NN (af.ret ?_)
  exact RT (.bool (decide (((((n.target:ByteArray).size:Nat):Int):Int)<=(4096:Int)))) [0] (⟨congrArg Value.bool (decide_eq_decide.2 (by grind [pP,bL,bW])),rfl⟩)
 refine jK 6 [2] [] ?_
 refine NN (af.ret ?_)
 exact RT _ [0] (⟨congrArg Value.bool (decide_eq_false (by grind)).symm,rfl⟩)
theorem D6 {β:Bs} (A:Option Addr) (c:Nat) (ns:List ay) (L:Lay) (hG:aB β A ns L) (hr:bH ns) (hl:ns.length<=1048576) (id:Int) :
    Spec Tryz.prog β 57 #[.agg #[.slice A ns.length c],vI id] [] (fun v l=>v=vI (fP ns id)/\l=[]):=by
 refine SE Tryz.func57 Tryz.ntmps57 (fun R=>?_)
 refine SR (jN 2 [2] (fun _=>[]) (fun _=>[]) (fun b4=>.blk b4 [.slice A (ns.length) (c)] 24) (fun b4=>?_))
 refine NS (jK 1 [5] [] ?_)
 refine NS (jK 4 [6] [(1,a_ 1 b4)] ?_)
 refine NN (af.seq (af.block ?_))
 refine lJ (fun (lo,hi)=>(lo<=hi)/\(hi<=ns.length)/\(∀ j,j < lo->(nd ns j).id < id)/\(∀ j,hi<=j->j < ns.length->id<=(nd ns j).id)) (fun (lo,hi)=>hi - lo) (fun (lo,hi)=>[(1,vI (id)),(2,vP b4),(5,vI ↑lo),(6,vI ↑hi)]) (fun (lo,hi)=>[.abs R,.blk b4 [.slice A (ns.length) (c)] 24]) (0,ns.length) [0,1] (⟨Nat.zero_le _,Nat.le_refl _,fun j hj=>absurd hj (Nat.not_lt_zero j),fun j h1 h2=>absurd h2 (Nat.not_lt.2 h1)⟩) ?_
 rintro⟨lo,hi⟩ ⟨hlh,hhi,ha,hb⟩
 refine af.seq (SR (jK 3 [13] [] ?_))
 refine NN (cP ((((lo:Nat):Int):Int) < (((hi:Nat):Int):Int)) (fun qc=>?_) (fun qc=>?_))
 ·refine af.skip (NX (af.block (SR ?_)))
  refine jK 7 [7] [(3,wJ ((hi:Int) - (lo:Int)) (↑(hi - lo))),(4,p_ ⟨[],none,none,none,some (vI ↑((hi - lo) / 2))⟩ [(Value.int .i64 (IntKind.wrap .i64 (Int.tdiv (((hi - lo):Nat):Int) 2)))=(.int .i64 ↑((hi - lo) / 2))] ⟨xI (Int.ofNat_tdiv _ _).symm (by omega) (by omega),trivial⟩),(5,wJ ((lo:Int)+(((hi - lo) / 2:Nat):Int)) (↑(lo+((hi - lo) / 2))))] ?_
  refine NS (jK 8 [27] [(1,a_ 1 b4),(3,p_ ⟨[],some (lo+((hi - lo) / 2)),none,some ⟨(aJ A),aI A,none⟩,none⟩ [((lo+((hi - lo) / 2):Nat):Int)=((lo+((hi - lo) / 2):Nat):Int),lo+((hi - lo) / 2) < ns.length,(⟨(aJ A),aI A,none⟩:Addr).spot=none,(A:Option Addr)=some ⟨(aJ A),aI A,none⟩] ⟨rfl,by omega,rfl,aB.hd hG (i:=lo+((hi - lo) / 2)) (by omega),trivial⟩),(5,r_ (aB.rd hG (i:=lo+((hi - lo) / 2)) (by omega) (j:=0) rfl))] ?_)
  refine NN (cP (((nd ns (lo+((hi - lo) / 2))).id:Int) < (id:Int)) (fun I9=>?_) (fun I9=>?_))
  ·refine af.region (jK 3 [5] [(1,wJ (((lo+((hi - lo) / 2):Nat):Int)+1) (↑((lo+((hi - lo) / 2))+1)))] ?_)
   refine NL (ai.aA ?_)
   exact tJ (((lo+(hi - lo) / 2)+1),hi) [0,1] (⟨by omega,by omega,fun j hj=>by have:=hr.le (show j<=(lo+(hi - lo) / 2) by omega) (by omega);omega,hb⟩)
  refine af.region (jK 2 [6] [] ?_)
  refine NL (ai.aA ?_)
  exact tJ (lo,(lo+(hi - lo) / 2)) [0,1] (⟨by omega,by omega,ha,fun j hj hj2=>by have:=hr.le hj hj2;omega⟩)
 refine af.exit (ai.aC (ai.aC (ai.aU (NX (af.seq (SR ?_))))))
 refine jK 6 [36] [(2,a_ 1 b4)] ?_
 refine sP 36 ((((lo:Nat):Int):Int) < (((ns.length:Nat):Int):Int)) (fun h36=>?_) (fun h36=>?_)
 ·refine jK 9 [45] [(1,a_ 1 b4),(3,x_ lo ns.length (aB.hd hG (i:=lo) (by omega))),(5,r_ (aB.rd hG (i:=lo) (by omega) (j:=0) rfl))] ?_
  refine NN (cP (((nd ns lo).id:Int)=(id:Int)) (fun PF=>?_) (fun PF=>?_))
  ·refine SR (jK 2 [4] [] ?_)
   refine NN (af.ret (ai.aj ?_))
   exact RT _ [0] (⟨congrArg (Value.int .i64) (IZ hr (by omega) PF).symm,rfl⟩)
  refine af.skip (NX (SR (jK 1 [4] [] ?_)))
  refine NN (af.ret ?_)
  exact RT _ [0] (⟨congrArg (Value.int .i64) (C5 (fun j hj e=>by rcases Nat.lt_trichotomy j lo with h|h|h;have:=ha j h;omega;subst h;omega;have:=hr lo j h hj;have:=hb lo (by omega) (by omega);omega)).symm,rfl⟩)
 refine jK 9 [45] [] ?_
 refine NN (CF (af.skip (NX (SR (jK 1 [4] [] ?_)))))
 refine NN (af.ret ?_)
 exact RT _ [0] (⟨congrArg (Value.int .i64) (C5 (fun j hj e=>by grind)).symm,rfl⟩)
theorem BO {β:Bs} (A:Option Addr) (ns:List ay) (L:Lay) (hG:aB β A ns L) (i:Nat) (hi:i < ns.length) :
    Spec Tryz.prog β 140 #[.pointer (some ⟨(aJ A),aI A+i * 10,none⟩)] [] (fun v l=>v=.bool (decide (bW (nd ns i).kind (nd ns i).target))/\l=[]):=by
 refine SE Tryz.func140 Tryz.ntmps140 (fun R=>?_)
 refine SR (jK 1 [] [] ?_)
 refine NN (af.seq (SR (jK 5 [7] [(3,r_ (aB.rd hG (i:=i) (by omega) (j:=1) rfl))] ?_)))
 refine NN (cN (((nd ns i).kind:Int)=(3:Int)) (fun h7=>?_) (fun h7=>?_))
 ·refine SR (jK 6 [2] [(3,r_ (aB.rd hG (i:=i) (by omega) (j:=8) rfl)),(4,w_ (.bool (decide (((nd ns i).target:ByteArray)=⟨#[]⟩))) (mY _ _))] ?_)
  refine NN (af.ret (ai.aj ?_))
  exact RT (.bool (decide (((nd ns i).target:ByteArray)=⟨#[]⟩))) [0] (⟨congrArg Value.bool (decide_eq_decide.2 (by grind [pQ,nd,bW])),rfl⟩)
 refine af.skip (NX (SR (jK 6 [18] [(3,r_ (aB.rd hG (i:=i) (by omega) (j:=8) rfl)),(4,w_ (.bool (!(decide (((nd ns i).target:ByteArray)=⟨#[]⟩)))) (DT _ _))] ?_)))
 refine sN 18 (((nd ns i).target:ByteArray)=⟨#[]⟩) (fun nK=>?_) (fun nK=>?_)
 ·refine jK 8 [26] [(3,r_ (aB.rd hG (i:=i) (by omega) (j:=8) rfl))] ?_
  refine sP 26 ((((((nd ns i).target:ByteArray).size:Nat):Int):Int)<=(4096:Int)) (fun GI=>?_) (fun GI=>?_)
  ·refine jK 4 [30] [(3,r_ (aB.rd hG (i:=i) (by omega) (j:=8) rfl))] ?_
   refine gL [] (Spec.quiet (fun w=>Tryz.strings_IndexByte (nd ns i).target 0 w)) ?_
   rintro _ _ ⟨rfl,rfl⟩
   refine jK 3 [2] [] ?_
   refine NN (af.ret ?_)
   exact RT (.bool (decide ((Lib.indexByte (nd ns i).target.data.toList (0:Int).toNat.toUInt8:Int) < (0:Int)))) [0] (⟨congrArg Value.bool (decide_eq_decide.2 (by grind [pQ,nd,I0,bW])),rfl⟩)
  refine jK 8 [2] [] ?_
  refine NN (af.ret ?_)
  exact RT _ [0] (⟨congrArg Value.bool (decide_eq_false (by grind [pQ,nd,bW])).symm,rfl⟩)
 refine jK 16 [2] [] ?_
 refine NN (af.ret ?_)
 exact RT _ [0] (⟨congrArg Value.bool (decide_eq_false (by grind [pQ,nd,bW])).symm,rfl⟩)
theorem SK {β:Bs} (A:Option Addr) (ns:List ay) (L:Lay) (hG:aB β A ns L) (i:Nat) (hi:i < ns.length) :
    Spec Tryz.prog β 104 #[.pointer (some ⟨(aJ A),aI A+i * 10,none⟩)] [] (fun v l=>v=.bool (decide (oq (nd ns i)))/\l=[]):=by
 refine SE Tryz.func104 Tryz.ntmps104 (fun R=>?_)
 refine SR (jK 1 [] [] ?_)
 refine NN (af.seq (SR (jK 4 [6] [(3,r_ (aB.rd hG (i:=i) (by omega) (j:=1) rfl))] ?_)))
 refine gL [] (wv ((nd ns i).kind) 1 3) ?_
 rintro _ _ ⟨rfl,rfl⟩
 refine jK 2 [9] [] ?_
 refine sN 9 (Within ((nd ns i).kind) 1 3) (fun h9=>?_) (fun h9=>?_)
 ·refine jK 23 [32] [] ?_
  refine NN (CT (SR (jK 1 [2] [] ?_)))
  refine NN (af.ret (ai.aj ?_))
  exact RT _ [0] (⟨congrArg Value.bool (decide_eq_false (by grind [bL,Within])).symm,rfl⟩)
 refine jK 4 [13] [(3,r_ (aB.rd hG (i:=i) (by omega) (j:=2) rfl))] ?_
 refine gL [] (wv ((nd ns i).mode) 0 4095) ?_
 rintro _ _ ⟨rfl,rfl⟩
 refine jK 3 [17] [] ?_
 refine sN 17 (Within ((nd ns i).mode) 0 4095) (fun D3=>?_) (fun D3=>?_)
 ·refine jK 15 [32] [] ?_
  refine NN (CT (SR (jK 1 [2] [] ?_)))
  refine NN (af.ret (ai.aj ?_))
  exact RT _ [0] (⟨congrArg Value.bool (decide_eq_false (by grind [bL,Within])).symm,rfl⟩)
 refine jK 4 [21] [(3,r_ (aB.rd hG (i:=i) (by omega) (j:=3) rfl))] ?_
 refine gL [] (wv ((nd ns i).uid) 0 2147483647) ?_
 rintro _ _ ⟨rfl,rfl⟩
 refine jK 3 [25] [] ?_
 refine sN 25 (Within ((nd ns i).uid) 0 2147483647) (fun oG=>?_) (fun oG=>?_)
 ·refine jK 7 [32] [] ?_
  refine NN (CT (SR (jK 1 [2] [] ?_)))
  refine NN (af.ret (ai.aj ?_))
  exact RT _ [0] (⟨congrArg Value.bool (decide_eq_false (by grind [bL,Within])).symm,rfl⟩)
 refine jK 4 [29] [(3,r_ (aB.rd hG (i:=i) (by omega) (j:=4) rfl))] ?_
 refine gL [] (wv ((nd ns i).gid) 0 2147483647) ?_
 rintro _ _ ⟨rfl,rfl⟩
 refine jK 2 [32] [] ?_
 refine NN (cN (Within ((nd ns i).gid) 0 2147483647) (fun oV=>?_) (fun oV=>?_))
 ·refine SR (jK 1 [2] [] ?_)
  refine NN (af.ret (ai.aj ?_))
  exact RT _ [0] (⟨congrArg Value.bool (decide_eq_false (by grind [bL,Within])).symm,rfl⟩)
 refine af.skip (NX (af.seq (SR (jK 6 [38] [(3,r_ (aB.rd hG (i:=i) (by omega) (j:=1) rfl))] ?_))))
 refine sN 38 (((nd ns i).kind:Int)=(1:Int)) (fun Ad=>?_) (fun Ad=>?_)
 ·refine jK 8 [46] [(3,r_ (aB.rd hG (i:=i) (by omega) (j:=7) rfl))] ?_
  refine sP 46 (((((nd ns i).data.length:Nat):Int):Int) > (0:Int)) (fun h46=>?_) (fun h46=>?_)
  ·refine jK 14 [60] [] ?_
   refine NN (CT (SR (jK 1 [2] [] ?_)))
   refine NN (af.ret (ai.aj ?_))
   exact RT _ [0] (⟨congrArg Value.bool (decide_eq_false (by grind [bL,Within])).symm,rfl⟩)
  refine jK 6 [52] [(3,r_ (aB.rd hG (i:=i) (by omega) (j:=1) rfl))] ?_
  refine sN 52 (((nd ns i).kind:Int)=(2:Int)) (fun wz=>?_) (fun wz=>?_)
  ·refine jK 8 [60] [(3,r_ (aB.rd hG (i:=i) (by omega) (j:=9) rfl))] ?_
   refine NN (cP (((((nd ns i).ah.length:Nat):Int):Int) > (0:Int)) (fun Jf=>?_) (fun Jf=>?_))
   ·refine SR (jK 1 [2] [] ?_)
    refine NN (af.ret (ai.aj ?_))
    exact RT _ [0] (⟨congrArg Value.bool (decide_eq_false (by grind [bL,Within])).symm,rfl⟩)
   refine af.skip (NX (SR (jK 4 [64] [(3,p_ ⟨[.old (.int .i64 ((nd ns i).sec)),.old (.int .i64 ((nd ns i).nano))],none,none,none,none⟩ [(Rd β ⟨(aJ A),aI A+i * 10+5+1,none⟩ (.int .i64 ((nd ns i).nano))),(Rd β ⟨(aJ A),aI A+i * 10+5,none⟩ (.int .i64 ((nd ns i).sec)))] ⟨aB.rd hG (i:=i) (by omega) (j:=6) rfl,aB.rd hG (i:=i) (by omega) (j:=5) rfl,trivial⟩)] ?_)))
   refine gL [] (jB (nd ns i).sec (nd ns i).nano) ?_
   rintro _ _ ⟨rfl,rfl⟩
   refine jK 1 [66] [] ?_
   refine sP 66 (dw (nd ns i).sec (nd ns i).nano) (fun jq=>?_) (fun jq=>?_)
   ·refine jK 1 [67] [] ?_
    refine gL [] (BO A ns L hG i hi) ?_
    rintro _ _ ⟨rfl,rfl⟩
    refine jK 2 [2] [] ?_
    refine NN (af.ret ?_)
    exact RT (.bool (decide (bW (nd ns i).kind (nd ns i).target))) [0] (⟨congrArg Value.bool (decide_eq_decide.2 (by grind [bL,Within])),rfl⟩)
   refine jK 4 [2] [] ?_
   refine NN (af.ret ?_)
   exact RT _ [0] (⟨congrArg Value.bool (decide_eq_false (by grind [bL,Within])).symm,rfl⟩)
  refine jK 8 [60] [] ?_
  refine NN (CF (af.skip (NX (SR (jK 4 [64] [(3,p_ ⟨[.old (.int .i64 ((nd ns i).sec)),.old (.int .i64 ((nd ns i).nano))],none,none,none,none⟩ [(Rd β ⟨(aJ A),aI A+i * 10+5+1,none⟩ (.int .i64 ((nd ns i).nano))),(Rd β ⟨(aJ A),aI A+i * 10+5,none⟩ (.int .i64 ((nd ns i).sec)))] ⟨aB.rd hG (i:=i) (by omega) (j:=6) rfl,aB.rd hG (i:=i) (by omega) (j:=5) rfl,trivial⟩)] ?_)))))
  refine gL [] (jB (nd ns i).sec (nd ns i).nano) ?_
  rintro _ _ ⟨rfl,rfl⟩
  refine jK 1 [66] [] ?_
  refine sP 66 (dw (nd ns i).sec (nd ns i).nano) (fun jq=>?_) (fun jq=>?_)
  ·refine jK 1 [67] [] ?_
   refine gL [] (BO A ns L hG i hi) ?_
   rintro _ _ ⟨rfl,rfl⟩
   refine jK 2 [2] [] ?_
   refine NN (af.ret ?_)
   exact RT (.bool (decide (bW (nd ns i).kind (nd ns i).target))) [0] (⟨congrArg Value.bool (decide_eq_decide.2 (by grind [bL,Within])),rfl⟩)
  refine jK 4 [2] [] ?_
  refine NN (af.ret ?_)
  exact RT _ [0] (⟨congrArg Value.bool (decide_eq_false (by grind [bL,Within])).symm,rfl⟩)
 refine jK 14 [46,52] [(11,r_ (aB.rd hG (i:=i) (by omega) (j:=1) rfl))] ?_
 refine sN 52 (((nd ns i).kind:Int)=(2:Int)) (fun wz=>?_) (fun wz=>?_)
 ·refine jK 8 [60] [(3,r_ (aB.rd hG (i:=i) (by omega) (j:=9) rfl))] ?_
  refine NN (cP (((((nd ns i).ah.length:Nat):Int):Int) > (0:Int)) (fun Jf=>?_) (fun Jf=>?_))
  ·refine SR (jK 1 [2] [] ?_)
   refine NN (af.ret (ai.aj ?_))
   exact RT _ [0] (⟨congrArg Value.bool (decide_eq_false (by grind [bL,Within])).symm,rfl⟩)
  refine af.skip (NX (SR (jK 4 [64] [(3,p_ ⟨[.old (.int .i64 ((nd ns i).sec)),.old (.int .i64 ((nd ns i).nano))],none,none,none,none⟩ [(Rd β ⟨(aJ A),aI A+i * 10+5+1,none⟩ (.int .i64 ((nd ns i).nano))),(Rd β ⟨(aJ A),aI A+i * 10+5,none⟩ (.int .i64 ((nd ns i).sec)))] ⟨aB.rd hG (i:=i) (by omega) (j:=6) rfl,aB.rd hG (i:=i) (by omega) (j:=5) rfl,trivial⟩)] ?_)))
  refine gL [] (jB (nd ns i).sec (nd ns i).nano) ?_
  rintro _ _ ⟨rfl,rfl⟩
  refine jK 1 [66] [] ?_
  refine sP 66 (dw (nd ns i).sec (nd ns i).nano) (fun jq=>?_) (fun jq=>?_)
  ·refine jK 1 [67] [] ?_
   refine gL [] (BO A ns L hG i hi) ?_
   rintro _ _ ⟨rfl,rfl⟩
   refine jK 2 [2] [] ?_
   refine NN (af.ret ?_)
   exact RT (.bool (decide (bW (nd ns i).kind (nd ns i).target))) [0] (⟨congrArg Value.bool (decide_eq_decide.2 (by grind [bL,Within])),rfl⟩)
  refine jK 4 [2] [] ?_
  refine NN (af.ret ?_)
  exact RT _ [0] (⟨congrArg Value.bool (decide_eq_false (by grind [bL,Within])).symm,rfl⟩)
 refine jK 8 [60] [] ?_
 refine NN (CF (af.skip (NX (SR (jK 4 [64] [(3,p_ ⟨[.old (.int .i64 ((nd ns i).sec)),.old (.int .i64 ((nd ns i).nano))],none,none,none,none⟩ [(Rd β ⟨(aJ A),aI A+i * 10+5+1,none⟩ (.int .i64 ((nd ns i).nano))),(Rd β ⟨(aJ A),aI A+i * 10+5,none⟩ (.int .i64 ((nd ns i).sec)))] ⟨aB.rd hG (i:=i) (by omega) (j:=6) rfl,aB.rd hG (i:=i) (by omega) (j:=5) rfl,trivial⟩)] ?_)))))
 refine gL [] (jB (nd ns i).sec (nd ns i).nano) ?_
 rintro _ _ ⟨rfl,rfl⟩
 refine jK 1 [66] [] ?_
 refine sP 66 (dw (nd ns i).sec (nd ns i).nano) (fun jq=>?_) (fun jq=>?_)
 ·refine jK 1 [67] [] ?_
  refine gL [] (BO A ns L hG i hi) ?_
  rintro _ _ ⟨rfl,rfl⟩
  refine jK 2 [2] [] ?_
  refine NN (af.ret ?_)
  exact RT (.bool (decide (bW (nd ns i).kind (nd ns i).target))) [0] (⟨congrArg Value.bool (decide_eq_decide.2 (by grind [bL,Within])),rfl⟩)
 refine jK 4 [2] [] ?_
 refine NN (af.ret ?_)
 exact RT _ [0] (⟨congrArg Value.bool (decide_eq_false (by grind [bL,Within])).symm,rfl⟩)
end
section
open Go.RowKit Go.Maps
def eG (x y:ByteArray):Prop:=(Op.bytesLess x.toList y.toList || (x.toList == y.toList))=true
instance (x y:ByteArray):Decidable (eG x y):=inferInstanceAs (Decidable (_=true))
theorem Jg (x y:ByteArray):Value.bool (Op.bytesLess x.toList y.toList || (x.toList == y.toList))=Value.bool (decide (eG x y)):=by
  grind [eG]
theorem Lv {x:ByteArray}:eG x ⟨#[]⟩↔x=⟨#[]⟩:=by
  unfold eG
  rw [zP]
  have h1:(⟨#[]⟩:ByteArray).toList=[]:=by rw [Lib.toList_data]
  have h2:Op.bytesLess x.toList (⟨#[]⟩:ByteArray).toList=false:=by
    rw [h1]
    cases x.toList<;>rfl
  rw [h2]
  simp
def tgt (ns:List ay) (z:Int):Nat:=(fP ns z).toNat
theorem kr {ns:List ay} {z:Int} (h:0<=fP ns z):tgt ns z < ns.length/\(nd ns (tgt ns z)).id=z/\fP ns z=(tgt ns z:Int):=by
  unfold tgt
  unfold fP at h ⊢
  cases hf:ns.findIdx? (fun n=>n.id == z) with
  | none=>rw [hf] at h;simp at h
  | some k=>
    rw [List.findIdx?_eq_some_iff_getElem] at hf
    grind [nd]
theorem BP {ns:List ay} {z:Int} (h:¬ 0<=fP ns z):fP ns z = -1:=by
  grind [fP]
def ent (ns:List ay) (i j:Nat):cX:=en (nd ns i).ah j
def oY (ns:List ay) (i:Nat):Nat->ByteArray
  | 0=>⟨#[]⟩
  | j+1=>(ent ns i j).name
structure tE (ns:List ay) (i j:Nat):Prop where
  at_:0<=fP ns (ent ns i j).id
  good:bQ (ent ns i j).name
  ord:¬ eG (ent ns i j).name (oY ns i j)
def Mk (ns:List ay) (i j:Nat):List (Nat×Nat):=if (nd ns (tgt ns (ent ns i j).id)).kind=2 then [(tgt ns (ent ns i j).id,i)] else []
def eu (ns:List ay) (i:Nat):Nat->List (Nat×Nat)
  | 0=>[]
  | j+1=>Mk ns i j++eu ns i j
def fV (ns:List ay):Nat->List (Nat×Nat)
  | 0=>[]
  | i+1=>eu ns i (nd ns i).ah.length++fV ns i
def iN (ns:List ay) (p:Nat×Nat):Int×Int:=((nd ns p.1).id,(nd ns p.2).id)
theorem PG {ns:List ay} {i j m:Nat} (h:j<=m):∃ l,eu ns i m=l++eu ns i j:=by
  induction m with
  | zero=>exact⟨[],by rw [Nat.le_zero.1 h];rfl⟩
  | succ m ih=>
    rcases Nat.lt_or_ge m j with h1|h1
    ·have:j=m+1:=by omega
     subst this
     exact⟨[],rfl⟩
    grind [Mk,eu]
theorem PI {ns:List ay} {i m:Nat} (h:i<=m):∃ l,fV ns m=l++fV ns i:=by
  induction m with
  | zero=>exact⟨[],by rw [Nat.le_zero.1 h];rfl⟩
  | succ m ih=>
    rcases Nat.lt_or_ge m i with h1|h1
    ·have:i=m+1:=by omega
     subst this
     exact⟨[],rfl⟩
    grind [eu,nd,fV]
theorem Af {l:List (Nat×Nat)} {k:List (Nat×Nat)} (h:((l++k).map Prod.fst).Nodup):(k.map Prod.fst).Nodup:=by
  grind
theorem bH.inj {ns:List ay} (hr:bH ns) {a b:Nat} (ha:a < ns.length) (hb:b < ns.length) (h:(nd ns a).id=(nd ns b).id):a=b:=by
  rcases Nat.lt_trichotomy a b with h1|h1|h1
  all_goals grind [bH,nd]
theorem Ml {ns:List ay} {ps:List (Nat×Nat)} {k:Nat} (h:up (ps.map (iN ns)) (nd ns k).id=none):k∉ps.map Prod.fst:=by
  unfold up at h
  induction ps with
  | nil=>simp
  | cons p ps ih=>
    grind [iN,nd]
theorem Mn {ns:List ay} {ps:List (Nat×Nat)} {k:Nat} {y:Int} (hr:bH ns) (hk:k < ns.length) (hp:∀ p,p∈ps->p.1 < ns.length) (h:up (ps.map (iN ns)) (nd ns k).id=some y):k∈ps.map Prod.fst/\∃ p,p∈ps/\p.1=k/\y=(nd ns p.2).id:=by
  unfold up at h
  induction ps with
  | nil=>cases h
  | cons p ps ih=>
    obtain⟨a,b⟩:=p
    rw [List.map_cons,iN,List.lookup_cons] at h
    by_cases e:((nd ns k).id == (nd ns a).id)=true
    ·rw [e] at h
     cases h
     have:k=a:=hr.inj hk (hp (a,b) (List.mem_cons_self ..)) (by simpa using e)
     subst this
     exact⟨by simp,(k,b),List.mem_cons_self ..,rfl,rfl⟩
    grind
def bf (A:Option Addr) (ns:List ay) (k:Nat) (z:Int):Option Value:=if 0<=fP ns z/\fP ns z < k then some (.pointer (some ⟨aJ A,aI A+tgt ns z * 10,none⟩)) else none
structure yC (ns:List ay) (i:Nat) (ps:List (Nat×Nat)):Prop where
  ah:∀ j,j < (nd ns i).ah.length->tE ns i j
  nodup:((eu ns i (nd ns i).ah.length++ps).map Prod.fst).Nodup
theorem ZU {A:Option Addr} {ns:List ay} {k:Nat} {z:Int} (h:0<=fP ns z) (hk:tgt ns z < k):mf (bf A ns k) (.int .i64 z)=some (.pointer (some ⟨aJ A,aI A+tgt ns z * 10,none⟩)):=
  if_pos ⟨h,by rw [(kr h).2.2];omega⟩
theorem Wj {A:Option Addr} {ns:List ay} {k:Nat} {z:Int} (h:¬ 0<=fP ns z):mf (bf A ns k) (.int .i64 z)=none:=if_neg (fun e=>h e.1)
theorem Jh (ns:List ay) (i j:Nat):(eu ns i j).length<=j:=by
  induction j with
  | zero=>exact Nat.le_refl _
  | succ j ih=>
    grind [eu,Mk]
theorem nM {ns:List ay} {i j:Nat} (h:¬ (nd ns (tgt ns (ent ns i j).id)).kind=2):eu ns i (j+1)=eu ns i j:=by
  rw [eu,Mk,if_neg h];rfl
theorem mD {ns:List ay} {i j:Nat} (h:(nd ns (tgt ns (ent ns i j).id)).kind=2):eu ns i (j+1)=(tgt ns (ent ns i j).id,i)::eu ns i j:=by
  rw [eu,Mk,if_pos h];rfl
theorem xA {ns:List ay} {i j:Nat} {ps:List (Nat×Nat)} (h:yC ns i ps) (hj:j < (nd ns i).ah.length) (hk:(nd ns (tgt ns (ent ns i j).id)).kind=2):tgt ns (ent ns i j).id∉(eu ns i j++ps).map Prod.fst:=by
  obtain⟨l,hl⟩:=PG (ns:=ns) (i:=i) (show j+1<=(nd ns i).ah.length from hj)
  have h1:=h.nodup
  grind [Af,mD]
theorem SL {ns:List ay} {i j:Nat} {ps:List (Nat×Nat)} (hat:0<=fP ns (ent ns i j).id) (hk:(nd ns (tgt ns (ent ns i j).id)).kind=2) :
    om (mf (pf ((eu ns i j++ps).map (iN ns)))) (.int .i64 (ent ns i j).id) (some (.int .i64 (nd ns i).id))=mf (pf ((eu ns i (j+1)++ps).map (iN ns))):=by
  rw [I3,mD hk,List.cons_append,List.map_cons,iN,(kr hat).2.1,Wh]
theorem SM {ns:List ay} {i j:Nat} {ps:List (Nat×Nat)} {f:Lit->Option Value} {kl:Lit} (hf:f kl=none) (hk:(nd ns (tgt ns (ent ns i j).id)).kind=2) :
    (if (f kl).isSome then (eu ns i j++ps).length else (eu ns i j++ps).length+1)=(eu ns i (j+1)++ps).length:=by
  rw [hf,mD hk]
  rfl
theorem Nx {ns:List ay} {i j:Nat} {ps:List (Nat×Nat)} (hat:0<=fP ns (ent ns i j).id) (hk:(nd ns (tgt ns (ent ns i j).id)).kind=2) (hup:up ((eu ns i j++ps).map (iN ns)) (ent ns i j).id=none) (h:((eu ns i j++ps).map Prod.fst).Nodup) :
    ((eu ns i (j+1)++ps).map Prod.fst).Nodup:=by
  grind [mD,Ml,kr,fP,ent,nd,tgt,up,eu,iN]
theorem Ji {ns:List ay} {i j:Nat} (h:∀ t,t < j->tE ns i t):∀ p,p∈eu ns i j->p.1 < ns.length/\p.2=i:=by
  induction j with
  | zero=>intro p hp;cases hp
  | succ j ih=>
    intro p hp
    rw [eu] at hp
    rcases List.mem_append.1 hp with hp|hp
    ·unfold Mk at hp
     split at hp
     ·rw [List.mem_singleton.1 hp]
      exact⟨(kr (h j (Nat.lt_succ_self j)).at_).1,rfl⟩
     cases hp
    exact ih (fun t ht=>h t (by omega)) p hp
theorem Lw {ns:List ay} {i j:Nat} {ps:List (Nat×Nat)} {y:Int} (hr:bH ns) (hps:∀ p,p∈ps->p.1 < ns.length) (hok:∀ t,t < j->tE ns i t) (hat:0<=fP ns (ent ns i j).id) (hk:(nd ns (tgt ns (ent ns i j).id)).kind=2)
    (hup:up ((eu ns i j++ps).map (iN ns)) (ent ns i j).id=some y) (hj:j < (nd ns i).ah.length):¬ yC ns i ps:=fun h=>by
  refine xA h hj hk ?_
  rw [← (kr hat).2.1] at hup
  refine (Mn hr (kr hat).1 (fun p hp=>?_) hup).1
  rcases List.mem_append.1 hp with hp|hp
  ·exact (Ji hok p hp).1
  exact hps p hp
end
section
open Go.RowKit
structure Th where
  k:Nat
  kind:Int
deriving Inhabited,DecidableEq
abbrev fB (α:Type):=List (ByteArray×α)
structure aN where
  id:Int
  mode:Int
  uid:Int
  gid:Int
  sec:Int
  nano:Int
  links:Int
  opens:Int
  gone:Bool
  kind:Int
  data:List UInt8
  target:ByteArray
  ah:fB Th
  up:Option Nat
deriving Inhabited
abbrev bZ:=Nat->aN
def obj (O:bZ) (k:Nat):aN:=O k
def aD (O:bZ) (k:Nat) (f:aN->aN):bZ:=fun i=>if i=k then f (O i) else O i
section om
variable {O:bZ} {k j:Nat} {f g:aN->aN}
theorem cV:obj (aD O k f) k=f (obj O k):=if_pos rfl
theorem fC (h:j≠k):obj (aD O k f) j=obj O j:=if_neg h
theorem gM:obj (aD O k f) j=if j=k then f (obj O j) else obj O j:=rfl
theorem Wk (h:f (obj O k)=obj O k):aD O k f=O:=by
  grind [obj,aD]
theorem wA:aD (aD O k f) k g=aD O k (fun o=>g (f o)):=by
  grind [aD]
end om
section ah
variable {α:Type} {n p:ByteArray} {t:α} {es:fB α}
def aM (n:ByteArray) (es:fB α):Option α:=(es.find? (fun e=>decide (e.1=n))).map (·.2)
def gV (n:ByteArray) (t:α):fB α->fB α
  | []=>[(n,t)]
  | e::r=>if ¬ eG e.1 n then (n,t)::e::r else e::gV n t r
def gZ (n:ByteArray) (es:fB α):fB α:=es.filter (fun e=>decide (e.1≠n))
theorem l6 {e:ByteArray×α}:aM n (e::es)=if e.1=n then some e.2 else aM n es:=by
  grind [aM]
theorem yD:aM n es=none↔∀ e∈es,e.1≠n:=by
  unfold aM
  rw [Option.map_eq_none_iff,List.find?_eq_none]
  simp
theorem nN {es:fB α} (h:aM n es=some t):(n,t)∈es:=by
  unfold aM at h
  obtain⟨e,h1,h2⟩:=Option.map_eq_some_iff.1 h
  grind
theorem Jj:∀ {es:fB α},(gV n t es).length=es.length+1
  | []=>rfl
  | e::r=>by
    unfold gV
    split
    ·rfl
    rw [List.length_cons,Jj];rfl
theorem Ai (hn:aM n es=none):aM p (gV n t es)=if p=n then some t else aM p es:=by
  induction es with
  | nil=>
    grind [gV,l6]
  | cons e r ih=>
    grind [l6,gV]
theorem tM:aM p (gZ n es)=if p=n then none else aM p es:=by
  grind [gZ,aM,l6]
def lW (es:fB α):Prop:=es.Pairwise (fun a b=>a.1≠b.1)
theorem SN {es:fB α} (hd:lW es) (h:aM n es=some t):(gZ n es).length+1=es.length:=by
  induction es with
  | nil=>cases h
  | cons e r ih=>
    obtain⟨h1,h2⟩:=List.pairwise_cons.1 hd
    rw [l6] at h
    unfold gZ at ih ⊢
    rw [List.filter_cons]
    by_cases he:e.1=n
    ·rw [if_neg (by simp [he])]
     have:r.filter (fun e=>decide (e.1≠n))=r:=List.filter_eq_self.2 (fun x hx=>by have:=h1 x hx;simp;exact fun e2=>this (he.trans e2.symm))
     rw [this];rfl
    grind [lW,aM,gZ]
theorem Dc {e:ByteArray×α}:∀ {es:fB α},e∈gV n t es↔e=(n,t)\/e∈es
  | []=>by simp [gV]
  | x::r=>by
    unfold gV
    split
    ·simp
    rw [List.mem_cons,Dc,List.mem_cons]
    constructor
    ·rintro (h|h|h)
     ·exact .inr (.inl h)
     ·exact .inl h
     exact .inr (.inr h)
    rintro (h|h|h)
    ·exact .inr (.inl h)
    ·exact .inl h
    exact .inr (.inr h)
end ah
end
section
open Go.RowKit
section sat
variable {β:Bs} {l:List HP} {w:World} {p p1 p2:HP} {i:Nat}
theorem Sat.U8 (h:Sat β l w) (hp:l[i]?=some p) (hs:∀ F,p.h F w->∃ F1 F2,p1.h F1 w/\p2.h F2 w/\Apart F1 F2/\∀ k,F k↔F1 k\/F2 k):Sat β (l.set i p1++[p2]) w:=by
  obtain⟨ho,φ,h1,h2,h3⟩:=h
  obtain⟨F1,F2,g1,g2,g3,g4⟩:=hs _ (h1 i p hp)
  have hi:=bN hp
  have hlen:(l.set i p1++[p2]).length=l.length+1:=by simp
  refine⟨ho,fun j=>if j=l.length then F2 else if j=i then F1 else φ j,fun j q hq=>?_,fun j hj k hk hO=>?_,fun a b ha hb hne k hk hk'=>?_⟩
  all_goals grind [bN,Sat,Apart]
theorem Sat.U9 {j:Nat} {idx:List Nat} {l':List HP} (h:Sat β l w) (hp:l[i]?=some p1) (hq:l[j]?=some p2) (hn:aP (i::j::idx)=true) (hl:bp l idx=some l') (hs:∀ F1 F2,p1.h F1 w->p2.h F2 w->Apart F1 F2->∃ F,p.h F w/\∀ k,F k->F1 k\/F2 k):Sat β (p::l') w:=by
  have h':=h.pick (idx:=i::j::idx) (l':=p1::p2::l') hn (by simp only [bp,hp,hq,hl])
  obtain⟨ho,φ,h1,h2,h3⟩:=h'
  obtain⟨F,hF,hk⟩:=hs _ _ (h1 0 p1 rfl) (h1 1 p2 rfl) (h3 0 1 (by simp) (by simp) (by decide))
  have hlen:(p1::p2::l').length=l'.length+2:=rfl
  rw [hlen] at h2 h3
  refine⟨ho,fun j=>if j=0 then F else φ (j+1),fun j q hq=>?_,fun j hj k hkk hO=>?_,fun a b ha hb hne k hk1 hk2=>?_⟩
  ·grind
  ·grind
  simp only [List.length_cons] at ha hb
  have key:∀ j,j < l'.length->F k->φ (j+2) k->False:=fun j hj e1 e2=>by
    rcases hk k e1 with e|e
    ·exact h3 0 (j+2) (by omega) (by omega) (by omega) k e e2
    exact h3 1 (j+2) (by omega) (by omega) (by omega) k e e2
  cases a with
  | zero=>
    cases b with
    | zero=>exact hne rfl
    | succ b=>exact key b (by omega) (by simpa using hk1) (by simpa using hk2)
  | succ a=>
    cases b with
    | zero=>exact key a (by omega) (by simpa using hk2) (by simpa using hk1)
    | succ b=>exact h3 (a+2) (b+2) (by omega) (by omega) (by omega) k (by simpa using hk1) (by simpa using hk2)
end sat
def eF (R:Nat->ct) (n:Nat):ct where
  h F w:=∃ φ:Nat->Fp,(∀ i,i < n->(R i).h (φ i) w)/\(∀ i j,i < n->j < n->i≠j->Apart (φ i) (φ j))/\∀ k,F k↔∃ i,i < n/\φ i k
  lt:=fun ⟨_,h1,_,h3⟩ k hk=>let ⟨i,hi,hk⟩:=(h3 k).1 hk;(R i).lt (h1 i hi) k hk
  st:=fun ⟨φ,h1,h2,h3⟩ _ _ hk hn=>⟨φ,fun i hi=>(R i).st (h1 i hi) hk (fun k hk=>hn k ((h3 k).2 ⟨i,hi,hk⟩)),h2,h3⟩
def ct.none:ct where
  h F _:=∀ k,¬ F k
  lt:=fun h k hk=>absurd hk (h k)
  st:=fun h _ _ _ _=>h
def mZ (R:Nat->ct) (k:Nat) (a:ct):Nat->ct:=fun i=>if i=k then a else R i
section Cy
variable {β:Bs} {l l':List HP} {w:World} {i n k:Nat} {R R':Nat->ct} {a:ct}
theorem eF.nil (R:Nat->ct) (w:World):(HP.abs (eF R 0)).h (fun _=>False) w:=⟨fun _ _=>False,fun i hi=>absurd hi (Nat.not_lt_zero i),fun i _ hi=>absurd hi (Nat.not_lt_zero i),fun _=>⟨fun h=>h.elim,fun ⟨i,hi,_⟩=>absurd hi (Nat.not_lt_zero i)⟩⟩
theorem Sat.D7 (h:Sat β l w) (R:Nat->ct):Sat β (l++[.abs (eF R 0)]) w:=Sat.new h (eF.nil R w) (Keeps.refl _ _) (fun _ h=>h.elim)
theorem Sat.Wl (h:Sat β l w) (hp:l[i]?=some (.abs (eF R n))) (hk:k < n):Sat β (l.set i (.abs (eF (mZ R k ct.none) n))++[.abs (R k)]) w:=by
  refine h.U8 hp ?_
  rintro F ⟨φ,h1,h2,h3⟩
  refine⟨fun x=>∃ i,i < n/\i≠k/\φ i x,φ k,⟨fun i=>if i=k then fun _=>False else φ i,fun i hi=>?_,fun i j hi hj hne x hx hy=>?_,fun x=>⟨fun ⟨i,hi,hne,hx⟩=>⟨i,hi,by simpa [hne] using hx⟩,fun ⟨i,hi,hx⟩=>?_⟩⟩,h1 k hk,fun x ⟨i,hi,hne,hx⟩ hy=>h2 i k hi hk hne x hx hy,fun x=>⟨fun hx=>?_,fun hx=>?_⟩⟩
  ·unfold mZ
   by_cases e:i=k
   ·simp only [e,if_true];exact fun _ h=>h
   simp only [e,if_false];exact h1 i hi
  ·by_cases e1:i=k
   ·simp [e1] at hx
   by_cases e2:j=k
   ·simp [e2] at hy
   exact h2 i j hi hj hne x (by simpa [e1] using hx) (by simpa [e2] using hy)
  ·by_cases e1:i=k
   ·simp [e1] at hx
   exact⟨i,hi,e1,by simpa [e1] using hx⟩
  all_goals grind
theorem Sat.qV {j:Nat} {idx:List Nat} (h:Sat β l w) (hp:l[i]?=some (.abs (eF R n))) (hq:l[j]?=some (.abs a)) (hn:aP (i::j::idx)=true) (hl:bp l idx=some l') (hR:∀ x,x < n->R' x=R x) (ha:R' n=a):Sat β (.abs (eF R' (n+1))::l') w:=by
  refine h.U9 hp hq hn hl ?_
  rintro F1 F2 ⟨φ,h1,h2,h3⟩ hF hap
  refine⟨fun x=>F1 x\/F2 x,⟨fun i=>if i=n then F2 else φ i,fun i hi=>?_,fun i j hi hj hne x hx hy=>?_,fun x=>⟨fun hx=>?_,fun ⟨i,hi,hx⟩=>?_⟩⟩,fun x hx=>hx⟩
  ·by_cases e:i=n
   ·subst e;simp only [if_true];rw [ha];exact hF
   grind
  ·by_cases e1:i=n
   ·by_cases e2:j=n
    ·exact hne (e1.trans e2.symm)
    simp only [e1,if_true] at hx
    simp only [e2,if_false] at hy
    exact hap x ((h3 x).2 ⟨j,by omega,hy⟩) hx
   simp only [e1,if_false] at hx
   by_cases e2:j=n
   ·simp only [e2,if_true] at hy
    exact hap x ((h3 x).2 ⟨i,by omega,hx⟩) hy
   simp only [e2,if_false] at hy
   exact h2 i j (by omega) (by omega) hne x hx hy
  ·rcases hx with hx|hx
   ·grind
   exact⟨n,Nat.lt_succ_self n,by simpa using hx⟩
  grind
theorem eF.base {F:Fp} {β':Bs} (h:(HP.abs (eF R n)).h F w) (h1:∀ k,F k->β'.O k) (_:β'.w0=w) {Φ:Nat->Bs->Prop} (Mf:∀ i,i < n->∀ F,(R i).h F w->(∀ k,F k->β'.O k)->Φ i β'):∀ i,i < n->Φ i β':=by
  obtain⟨φ,g1,_,g3⟩:=h
  grind
end Cy
section yt
variable {P:Program} {β:Bs} {N:di} {ops:Array Oper} {S:List HP} {l:List Nat} {fr:Fr} {hps:List HP} {Q:Post} {i:Nat}
end yt
end
section
open Go.RowKit
structure nU (β:Bs) (R:List HP) (β':Bs):Prop where
  le:β.le β'
  fp:∃ φ:Nat->Fp,(∀ (i:Nat) (p:HP),R[i]?=some p->p.h (φ i) β'.w0/\∀ k,φ i k->β'.O k)/\(∀ i,i < R.length->∀ k,φ i k->¬ β.O k)/\(∀ i j,i < R.length->j < R.length->i≠j->Apart (φ i) (φ j))/\∀ k,β'.O k->β.O k\/∃ i,i < R.length/\φ i k
section Dd
variable {β β' nJ:Bs} {l R:List HP} {w:World} {p:HP} {i:Nat}
theorem nU.get (h:nU β R β') (i:Nat) (hp:R[i]?=some p):∃ F,p.h F β'.w0/\∀ k,F k->β'.O k:=by
  obtain⟨φ,h1,_⟩:=h.fp
  exact⟨φ i,h1 i p hp⟩
theorem Sat.turn {a b:List HP} (h:Sat β (a++b) w):Sat β (b++a) w:=by
  obtain⟨ho,φ,h1,h2,h3⟩:=h
  have hl:(a++b).length=a.length+b.length:=List.length_append
  have hl':(b++a).length=b.length+a.length:=List.length_append
  refine⟨ho,fun i=>if i < b.length then φ (a.length+i) else φ (i - b.length),fun i p hp=>?_,fun i hi k hk hO=>?_,fun i j hi hj hne k hk hk'=>?_⟩
  ·grind
  ·grind
  by_cases e1:i < b.length
  ·simp only [e1,if_true] at hk
   by_cases e2:j < b.length
   ·simp only [e2,if_true] at hk'
    exact h3 _ _ (by omega) (by omega) (by omega) k hk hk'
   simp only [e2,if_false] at hk'
   exact h3 _ _ (by omega) (by omega) (by omega) k hk hk'
  simp only [e1,if_false] at hk
  by_cases e2:j < b.length
  ·simp only [e2,if_true] at hk'
   exact h3 _ _ (by omega) (by omega) (by omega) k hk hk'
  simp only [e2,if_false] at hk'
  exact h3 _ _ (by omega) (by omega) (by omega) k hk hk'
theorem Sat.uj (h:Sat β (l++R) w):∃ β',nU β R β'/\β'.w0=w/\Sat β' l w:=by
  obtain⟨ho,φ,h1,h2,h3⟩:=h
  have hl:(l++R).length=l.length+R.length:=List.length_append
  have hR:∀ (i:Nat) (p:HP),R[i]?=some p->p.h (φ (l.length+i)) w:=by grind
  refine⟨⟨fun k=>β.O k\/∃ i,i < R.length/\φ (l.length+i) k,w⟩,⟨⟨fun k hk=>.inl hk,ho.os,ho.tape,ho.output,ho.size,fun k hk=>ho.old k hk⟩,fun i=>φ (l.length+i),fun i p hp=>⟨hR i p hp,fun k hk=>.inr ⟨i,bN hp,hk⟩⟩,fun i hi=>h2 _ (by omega),fun i j hi hj hne=>h3 _ _ (by omega) (by omega) (by omega),fun k hk=>hk⟩,rfl,⟨rfl,rfl,rfl,Nat.le_refl _,fun k hk=>⟨?_,rfl⟩⟩,φ,fun i p hp=>h1 i p (by rw [List.getElem?_append_left (bN hp)];exact hp),fun i hi k hk hO=>?_,fun i j hi hj hne=>h3 i j (by omega) (by omega) hne⟩
  ·rcases hk with hk|⟨i,hi,hk⟩
   ·exact Nat.lt_of_lt_of_le (ho.old k hk).1 ho.size
   obtain⟨p,hp⟩:=jb hi
   exact HP.lt (hR i p hp) k hk
  rcases hO with hO|⟨j,hj,hO⟩
  ·exact h2 i (by omega) k hk hO
  exact h3 i (l.length+j) (by omega) (by omega) (by omega) k hk hO
theorem nU.back (h:nU β R β') (hS:Sat β' l w):Sat β (l++R) w:=by
  obtain⟨hle,φ,g1,g2,g3,g4⟩:=h
  obtain⟨ho,ψ,h1,h2,h3⟩:=hS
  have hl:(l++R).length=l.length+R.length:=List.length_append
  have hin:∀ i,i < R.length->∀ k,φ i k->β'.O k:=fun i hi k hk=>by
    obtain⟨p,hp⟩:=jb hi
    exact (g1 i p hp).2 k hk
  have hk:∀ i,i < R.length->Keeps (fun k=>¬ φ i k) β'.w0 w:=fun i hi=>⟨ho.os,ho.tape,ho.output,ho.size,fun k _ hn=>(ho.old k (hin i hi k (Classical.not_not.1 hn))).2⟩
  refine⟨ho.le hle,fun i=>if i < l.length then ψ i else φ (i - l.length),fun i p hp=>?_,fun i hi k hk hO=>?_,fun i j hi hj hne k hk hk'=>?_⟩
  ·grind [HP.st,bN]
  ·by_cases e:i < l.length
   ·simp only [e,if_true] at hk
    exact h2 i e k hk (hle.O k hO)
   grind
  by_cases e1:i < l.length
  ·simp only [e1,if_true] at hk
   by_cases e2:j < l.length
   ·simp only [e2,if_true] at hk'
    exact h3 i j e1 e2 hne k hk hk'
   grind
  simp only [e1,if_false] at hk
  by_cases e2:j < l.length
  ·grind
  simp only [e2,if_false] at hk'
  exact g3 _ _ (by omega) (by omega) (by omega) k hk hk'
end Dd
section rules
variable {P:Program} {β β' nJ:Bs} {N:di} {ops:Array Oper} {k:Nat} {fr:Fr} {hps l R:List HP} {Q:Post} {c:Code} {e:Exit} {pk:List Nat} {f:FuncId} {args:Array Value} {pre:List HP}
end rules
end
section
open Go.RowKit
def aF (R:Nat->ct):ct where
  h F w:=∃ φ:Nat->Fp,(∀ i,(R i).h (φ i) w)/\(∀ i j,i≠j->Apart (φ i) (φ j))/\∀ k,F k↔∃ i,φ i k
  lt:=fun ⟨_,h1,_,h3⟩ k hk=>let ⟨i,hk⟩:=(h3 k).1 hk;(R i).lt (h1 i) k hk
  st:=fun ⟨φ,h1,h2,h3⟩ _ _ hk hn=>⟨φ,fun i=>(R i).st (h1 i) hk (fun k hk=>hn k ((h3 k).2 ⟨i,hk⟩)),h2,h3⟩
section Cy
variable {β:Bs} {l l':List HP} {w:World} {i n k:Nat} {R R':Nat->ct} {a:ct}
theorem aF.at (k:Nat) {F:Fp} {w:World} (h:(aF R).h F w):∃ G,(R k).h G w:=by
  obtain⟨φ,h1,_⟩:=h
  exact⟨φ k,h1 k⟩
theorem Sat.Ny (h:Sat β l w) (R:Nat->ct) (hR:∀ k,R k=ct.none):Sat β (l++[.abs (aF R)]) w:=Sat.new h (p:=.abs (aF R)) (F:=fun _=>False) ⟨fun _ _=>False,fun i=>by rw [hR];exact fun _ h=>h,fun _ _ _ _ h=>h.elim,fun _=>⟨fun h=>h.elim,fun ⟨_,h⟩=>h⟩⟩ (Keeps.refl _ _) (fun _ h=>h.elim)
theorem Sat.Jk (h:Sat β l w) (hp:l[i]?=some (.abs (aF R))) (k:Nat):Sat β (l.set i (.abs (aF (mZ R k ct.none)))++[.abs (R k)]) w:=by
  refine h.U8 hp ?_
  rintro F ⟨φ,h1,h2,h3⟩
  refine⟨fun x=>∃ i,i≠k/\φ i x,φ k,⟨fun i=>if i=k then fun _=>False else φ i,fun i=>?_,fun i j hne x hx hy=>?_,fun x=>⟨fun ⟨i,hne,hx⟩=>⟨i,by simpa [hne] using hx⟩,fun ⟨i,hx⟩=>?_⟩⟩,h1 k,fun x ⟨i,hne,hx⟩ hy=>h2 i k hne x hx hy,fun x=>⟨fun hx=>?_,fun hx=>?_⟩⟩
  ·unfold mZ
   by_cases e:i=k
   ·simp only [e,if_true];exact fun _ h=>h
   simp only [e,if_false];exact h1 i
  ·by_cases e1:i=k
   ·simp [e1] at hx
   by_cases e2:j=k
   ·simp [e2] at hy
   exact h2 i j hne x (by simpa [e1] using hx) (by simpa [e2] using hy)
  ·by_cases e1:i=k
   ·simp [e1] at hx
   exact⟨i,e1,by simpa [e1] using hx⟩
  all_goals grind
theorem Sat.uN {j:Nat} {idx:List Nat} {q:HP} (h:Sat β l w) (hp:l[i]?=some (.abs (aF R))) (hq:l[j]?=some q) (hqa:∀ F w,q.h F w->a.h F w) (hn:aP (i::j::idx)=true) (hl:bp l idx=some l') (k:Nat) (hR:∀ x,x≠k->R' x=R x) (ha:R' k=a):Sat β (.abs (aF R')::l') w:=by
  refine h.U9 hp hq hn hl ?_
  rintro F1 F2 ⟨φ,h1,h2,h3⟩ hF hap
  refine⟨fun x=>(∃ i,i≠k/\φ i x)\/F2 x,⟨fun i=>if i=k then F2 else φ i,fun i=>?_,fun i j hne x hx hy=>?_,fun x=>⟨fun hx=>?_,fun ⟨i,hx⟩=>?_⟩⟩,fun x hx=>hx.imp (fun ⟨i,_,hx⟩=>(h3 x).2 ⟨i,hx⟩) id⟩
  ·grind
  ·by_cases e1:i=k
   ·by_cases e2:j=k
    ·exact hne (e1.trans e2.symm)
    simp only [e1,if_true] at hx
    simp only [e2,if_false] at hy
    exact hap x ((h3 x).2 ⟨j,hy⟩) hx
   simp only [e1,if_false] at hx
   by_cases e2:j=k
   ·simp only [e2,if_true] at hy
    exact hap x ((h3 x).2 ⟨i,hx⟩) hy
   simp only [e2,if_false] at hy
   exact h2 i j hne x hx hy
  ·rcases hx with ⟨i,hne,hx⟩|hx
   ·exact⟨i,by simpa [hne] using hx⟩
   exact⟨k,by simpa using hx⟩
  grind
end Cy
end
section
open Go.RowKit Go.Maps
theorem Df:Keyed Tryz.prog 9:=string_keyed Tryz.underlying9
theorem Fo {p:ByteArray} (h:p.size<=9223372036854775807):keyOf Tryz.prog 9 (.string p)=some (.string p.data.toList):=WideMaps.keyOf_string_mk Tryz.underlying9 (by unfold maxLen;omega)
def mS (g:ByteArray->Option Value):Lit->Option Value
  | .string l=>g ⟨l.toArray⟩
  | _=>none
theorem ZV (g:ByteArray->Option Value) (p:ByteArray):mS g (.string p.data.toList)=g p:=by
  show g ⟨p.data.toList.toArray⟩=g p
  rw [Array.toArray_toList]
theorem PJ (g:ByteArray->Option Value) (p:ByteArray) (v:Option Value):om (mS g) (.string p.data.toList) v=mS (fun q=>if q=p then v else g q):=by
  funext x
  unfold om mS
  cases x with
  | string l=>
    by_cases e:l=p.data.toList
    ·subst e
     have e2:(⟨p.data.toList.toArray⟩:ByteArray)=p:=by rw [Array.toArray_toList]
     simp [Lit.sameKey]
    have e2:¬ (⟨l.toArray⟩:ByteArray)=p:=fun h=>e (by rw [← h])
    simp [Lit.sameKey,e,e2]
  | _=>rfl
theorem Wm:mS (fun _=>none)=fun _=>none:=by
  funext x
  unfold mS
  split<;>rfl
end
section
open Go.RowKit Go.Maps
def Dg (b:Nat) (cs:List Value) (T:TypeId):ct where
  h F w:=(HP.blk b cs T).h F w
  lt:=fun h=>HP.lt h
  st:=fun h _ _ hk hd=>HP.st h hk hd
structure HL where
  b:Nat->Nat
  m:Nat->Nat
  dA:Nat->Option Addr
  dC:Nat->Nat
def HL.data (L:HL) (k:Nat) (A:Option Addr) (c:Nat):HL:=⟨L.b,L.m,fun i=>if i=k then A else L.dA i,fun i=>if i=k then c else L.dC i⟩
def HL.put (L:HL) (k b m:Nat) (A:Option Addr) (c:Nat):HL:=⟨fun i=>if i=k then b else L.b i,fun i=>if i=k then m else L.m i,fun i=>if i=k then A else L.dA i,fun i=>if i=k then c else L.dC i⟩
def thT (kind:Int):TypeId:=if kind=1 then 87 else if kind=3 then 91 else 94
def qg (kind:Int):TypeId:=if kind=1 then 90 else if kind=3 then 93 else 97
def eT (L:HL) (t:Th):Value:=.iface (thT t.kind) (.pointer (some ⟨L.b t.k,0,none⟩))
def D8 (L:HL):Option Nat->Value
  | none=>.pointer none
  | some d=>.pointer (some ⟨L.b d,0,none⟩)
def BQ (o:aN):List Value:=[.int .i64 o.id,.int .i64 o.mode,.int .i64 o.uid,.int .i64 o.gid,.int .i64 o.sec,.int .i64 o.nano,.int .i64 o.links,.int .i64 o.opens,.bool o.gone]
def BR (L:HL) (k:Nat) (o:aN):List Value:=if o.kind=1 then [.slice (L.dA k) o.data.length (L.dC k)] else if o.kind=3 then [.string o.target] else [.map (some (L.m k)),D8 L o.up]
def iP (L:HL) (k:Nat) (o:aN):List Value:=BQ o++BR L k o
def jJ (L:HL) (es:fB Th):Lit->Option Value:=mS (fun p=>(aM p es).map (eT L))
def cJ (O:bZ) (L:HL) (k:Nat):ct:=if (obj O k).kind=0 then ct.none else Dg (L.b k) (iP L k (obj O k)) (qg (obj O k).kind)
def bX (O:bZ) (L:HL) (k:Nat):ct:=if (obj O k).kind=1 then av 5 1 (L.dA k) (obj O k).data.length (L.dC k) (cx (obj O k).data) else ct.none
def dL (O:bZ) (L:HL) (k:Nat):ct:=if (obj O k).kind=2 then bq Tryz.prog 9 (L.m k) (jJ L (obj O k).ah) (obj O k).ah.length else ct.none
section sat
variable {β:Bs} {l:List HP} {w:World} {i b:Nat} {cs:List Value} {T:TypeId} {p p':HP}
theorem Sat.same (h:Sat β l w) (hp:l[i]?=some p) (e:∀ F w,p.h F w->p'.h F w):Sat β (l.set i p') w:=by
  obtain⟨ho,φ,h1,h2,h3⟩:=h
  have hl:(l.set i p').length=l.length:=List.length_set ..
  refine⟨ho,φ,fun j q hq=>?_,fun j hj=>h2 j (by omega),fun j k hj hk=>h3 j k (by omega) (by omega)⟩
  grind
end sat
section cells
variable {O:bZ} {L:HL} {k j:Nat} {v:Value}
theorem nV (h:(obj O k).kind≠0):cJ O L k=Dg (L.b k) (iP L k (obj O k)) (qg (obj O k).kind):=if_neg h
theorem fD (hk:(obj O k).kind≠0) (hv:(iP L k (obj O k))[j]?=some v):∀ F w,(aF (cJ O L)).h F w->w.cell? ⟨L.b k,j,none⟩=some v:=by
  intro F w h
  obtain⟨G,g⟩:=aF.at k h
  rw [nV hk] at g
  obtain⟨g,_⟩:=g
  exact (jc g rfl rfl hv).1
theorem vD (h:(obj O k).kind=1):bX O L k=av 5 1 (L.dA k) (obj O k).data.length (L.dC k) (cx (obj O k).data):=if_pos h
theorem qW (h:(obj O k).kind=2):dL O L k=bq Tryz.prog 9 (L.m k) (jJ L (obj O k).ah) (obj O k).ah.length:=if_pos h
theorem uW (es:fB Th) (p:ByteArray):jJ L es (.string p.data.toList)=(aM p es).map (eT L):=ZV _ _
theorem SQ {es:fB Th} {p:ByteArray} {t:Th} (hn:aM p es=none):om (jJ L es) (.string p.data.toList) (some (eT L t))=jJ L (gV p t es):=by
  grind [jJ,PJ,Ai]
theorem SV {es:fB Th} {p:ByteArray}:om (jJ L es) (.string p.data.toList) none=jJ L (gZ p es):=by
  grind [jJ,PJ,tM]
theorem SW:jJ L []=fun _=>none:=Wm
end cells
section Cy
variable {O:bZ} {L:HL} {k:Nat} {f:aN->aN}
theorem xS:cJ (aD O k f) L k=if (f (obj O k)).kind=0 then ct.none else Dg (L.b k) (iP L k (f (obj O k))) (qg (f (obj O k)).kind):=by
  unfold cJ;rw [cV]
theorem xT {x:Nat} (h:x≠k):cJ (aD O k f) L x=cJ O L x:=by unfold cJ;rw [fC h]
theorem pR (h:(f (obj O k)).data=(obj O k).data) (h2:(f (obj O k)).kind=(obj O k).kind):bX (aD O k f) L=bX O L:=by
  grind [bX,cV,fC]
theorem pU (h:(f (obj O k)).ah=(obj O k).ah) (h2:(f (obj O k)).kind=(obj O k).kind):dL (aD O k f) L=dL O L:=by
  grind [dL,cV,fC]
theorem Aj {x:Nat} (h:x≠k):dL (aD O k f) L x=dL O L x:=by unfold dL;rw [fC h]
theorem Ak {x:Nat} (h:x≠k):bX (aD O k f) L x=bX O L x:=by unfold bX;rw [fC h]
end Cy
end
section
open Go.RowKit Go.Maps
section kinds
variable {O:bZ} {L:HL} {k j:Nat} {f:aN->aN} {o:aN}
theorem lq (hf:∀ o,(f o).kind=o.kind):(obj (aD O j f) k).kind=(obj O k).kind:=by
  rw [gM];split
  ·exact hf _
  rfl
theorem cu {α:Type} {g:aN->α} (hf:∀ o,g (f o)=g o):g (obj (aD O j f) k)=g (obj O k):=by
  rw [gM];split
  ·exact hf _
  rfl
theorem jD (h:o.kind=1):iP L k o=[.int .i64 o.id,.int .i64 o.mode,.int .i64 o.uid,.int .i64 o.gid,.int .i64 o.sec,.int .i64 o.nano,.int .i64 o.links,.int .i64 o.opens,.bool o.gone,.slice (L.dA k) o.data.length (L.dC k)]:=by
  unfold iP BR;rw [if_pos h];rfl
theorem Al (h:o.kind=3):iP L k o=[.int .i64 o.id,.int .i64 o.mode,.int .i64 o.uid,.int .i64 o.gid,.int .i64 o.sec,.int .i64 o.nano,.int .i64 o.links,.int .i64 o.opens,.bool o.gone,.string o.target]:=by
  unfold iP BR;rw [if_neg (by rw [h];decide),if_pos h];rfl
theorem nW (h:o.kind=2):iP L k o=[.int .i64 o.id,.int .i64 o.mode,.int .i64 o.uid,.int .i64 o.gid,.int .i64 o.sec,.int .i64 o.nano,.int .i64 o.links,.int .i64 o.opens,.bool o.gone,.map (some (L.m k)),D8 L o.up]:=by
  unfold iP BR;rw [if_neg (by rw [h];decide),if_neg (by rw [h];decide)];rfl
theorem Jl {es:aN->fB Th}:cJ (aD O k (fun o=>{ o with ah:=es o })) L=cJ O L:=by
  funext x
  unfold cJ
  by_cases e:x=k
  ·subst e;rw [cV];rfl
  rw [fC e]
def qH (O:bZ) (d:Nat) (name:ByteArray) (t:Th):bZ:=
  let O1:=aD O d (fun o=>{ o with ah:=gV name t o.ah })
  let O2:=aD O1 t.k (fun o=>{ o with links:=o.links+1 })
  if t.kind=2 then aD O2 t.k (fun o=>{ o with up:=some d }) else O2
theorem Dh {α:Type} {g:aN->α} {d:Nat} {name:ByteArray} {t:Th} (h1:∀ o es,g { o with ah:=es }=g o) (h2:∀ o l,g { o with links:=l }=g o) (h3:∀ o u,g { o with up:=u }=g o):g (obj (qH O d name t) k)=g (obj O k):=by
  unfold qH
  simp only
  split
  ·rw [cu (fun o=>h3 o _),cu (fun o=>h2 o _),cu (fun o=>h1 o _)]
  rw [cu (fun o=>h2 o _),cu (fun o=>h1 o _)]
theorem Am {d:Nat} {name:ByteArray} {t:Th}:(obj (qH O d name t) k).kind=(obj O k).kind:=Dh (g:=aN.kind) (fun _ _=>rfl) (fun _ _=>rfl) (fun _ _=>rfl)
structure FM where
  cN:Int
  cB:Int
  cH:Int
  cS:Int
  cZ:Int
  last:Int
  ah:Int
  used:Int
def tN (X:FM) (O:bZ) (d:Nat):bZ:=aD O d (fun o=>{ o with sec:=X.cS,nano:=X.cZ })
def br (X:FM) (O:bZ) (d:Nat) (name:ByteArray) (t:Th):bZ:=tN X (qH O d name t) d
def aG (X:FM) (O:bZ) (d:Nat) (name:ByteArray) (t:Th):bZ:=aD (tN X (aD O d (fun o=>{ o with ah:=gZ name o.ah })) d) t.k (fun o=>{ o with links:=o.links - 1 })
theorem cY {X:FM} {d:Nat} {name:ByteArray} {t:Th}:(obj (aG X O d name t) k).kind=(obj O k).kind:=by
  unfold aG tN
  exact (lq (f:=fun o=>{ o with links:=o.links - 1 }) (fun _=>rfl)).trans ((lq (f:=fun o=>{ o with sec:=X.cS,nano:=X.cZ }) (fun _=>rfl)).trans (lq (f:=fun o=>{ o with ah:=gZ name o.ah }) (fun _=>rfl)))
theorem Lx {X:FM} {d:Nat} {name:ByteArray} {t:Th}:(obj (br X O d name t) k).kind=(obj O k).kind:=by
  grind [br,tN,lq,Am]
end kinds
section sat
variable {β:Bs} {l l':List HP} {w:World} {i j k:Nat} {O:bZ} {L:HL} {f:aN->aN} {cs:List Value} {T:TypeId} {idx:List Nat}
theorem Sat.Ap (h:Sat β l w) (hp:l[i]?=some (.abs (aF (cJ O L)))) (h0:(obj O k).kind≠0) (hc:iP L k (obj O k)=cs) (hT:qg (obj O k).kind=T):Sat β (l.set i (.abs (aF (mZ (cJ O L) k ct.none)))++[.blk (L.b k) cs T]) w:=by
  have h1:=h.Jk hp k
  have hlen:(l.set i (HP.abs (aF (mZ (cJ O L) k ct.none)))).length=l.length:=List.length_set ..
  have h2:=Sat.same (i:=l.length) (p:=.abs (cJ O L k)) (p':=.blk (L.b k) cs T) h1 (by rw [List.getElem?_append_right (by omega),hlen,Nat.sub_self];rfl) (fun F w h=>by
    have h3:(cJ O L k).h F w:=h
    rw [nV h0] at h3
    have h3:(Dg (L.b k) (iP L k (obj O k)) (qg (obj O k).kind)).h F w:=h3
    rw [hc,hT] at h3
    exact h3)
  have e:∀ (a:List HP) (x y:HP),(a++[x]).set a.length y=a++[y]:=fun a x y=>by simp
  grind
theorem Sat.BS {R:Nat->ct} (h:Sat β l w) (hp:l[i]?=some (.abs (aF R))) (hR:∀ x,x≠k->R x=cJ O L x) (hq:l[j]?=some (.blk (L.b k) cs T)) (hd:aP (i::j::idx)=true) (hl:bp l idx=some l') (h0:(f (obj O k)).kind≠0) (hc:iP L k (f (obj O k))=cs) (hT:qg (f (obj O k)).kind=T):Sat β (.abs (aF (cJ (aD O k f) L))::l') w:=by
  refine h.uN (a:=Dg (L.b k) cs T) hp hq (fun _ _ h=>h) hd hl k (fun x hx=>?_) (by rw [xS,if_neg h0,hc,hT])
  rw [xT hx,hR x hx]
theorem qX {R:Nat->ct} {a:ct} {x:Nat} (h:x≠k):mZ R k a x=R x:=if_neg h
theorem Sat.Xw (h:Sat β l w) (hp:l[i]?=some (.abs (aF (dL O L)))) (hd:(obj O k).kind=2):Sat β (l.set i (.abs (aF (mZ (dL O L) k ct.none)))++[.abs (bq Tryz.prog 9 (L.m k) (jJ L (obj O k).ah) (obj O k).ah.length)]) w:=by
  have h1:=h.Jk hp k
  rw [qW hd] at h1
  exact h1
theorem Sat.Xx (h:Sat β l w) (hp:l[i]?=some (.abs (aF (mZ (dL O L) k ct.none)))) (hq:l[j]?=some (.abs (bq Tryz.prog 9 (L.m k) (jJ L (obj O k).ah) (obj O k).ah.length))) (hd:aP (i::j::idx)=true) (hl:bp l idx=some l') (h2:(obj O k).kind=2):Sat β (.abs (aF (dL O L))::l') w:=
  h.uN hp hq (fun _ _ h=>h) hd hl k (fun _ hx=>(qX hx).symm) (qW h2)
theorem Sat.PK (h:Sat β l w) (hp:l[i]?=some (.abs (aF (bX O L)))) (hd:(obj O k).kind=1):Sat β (l.set i (.abs (aF (mZ (bX O L) k ct.none)))++[.abs (av 5 1 (L.dA k) (obj O k).data.length (L.dC k) (cx (obj O k).data))]) w:=by
  have h1:=h.Jk hp k
  rw [vD hd] at h1
  exact h1
end sat
end
end Go.Proofs.YtnipofpbcggjcaaGreat
section
namespace Go.Proofs
open Go.Shelf
def Tryz.keysI_ren:Go.Shelf.Ren:=⟨fun|7=>50|10=>99|n=>n,fun|23=>78|26=>3|3=>82|28=>124|0=>0|27=>123|33=>166|4=>4|n=>n,fun|n=>n⟩
theorem Tryz.keysI:Go.Proofs.SlLaysZI.n7 Tryz.prog Tryz.keysI_ren:={
  mixed:=by kernel_rfl
  f7:=⟨Tryz.f50.name,by decide,Tryz.func50.trans (congrArg some (by kernel_rfl))⟩
  f10:=⟨Tryz.f99.name,by decide,Tryz.func99.trans (congrArg some (by kernel_rfl))⟩
  t0:=Tryz.underlying0
  a0:=Tryz.isAgg0
  z0:=Tryz.sizeOf0
  v0:=Tryz.zeroValue0
  t4:=Tryz.underlying4
  a4:=Tryz.isAgg4
  z4:=Tryz.sizeOf4
  v4:=Tryz.zeroValue4
  t23:=Tryz.underlying78
  a23:=Tryz.isAgg78
  z23:=Tryz.sizeOf78
  v23:=Tryz.zeroValue78
  t26:=Tryz.underlying3
  a26:=Tryz.isAgg3
  z26:=Tryz.sizeOf3
  v26:=Tryz.zeroValue3
  t27:=Tryz.underlying123
  a27:=Tryz.isAgg123
  z27:=Tryz.sizeOf123
  v27:=Tryz.zeroValue123
  t28:=Tryz.underlying124
  a28:=Tryz.isAgg124
  z28:=Tryz.sizeOf124
  v28:=Tryz.zeroValue124
  t33:=Tryz.underlying166
  a33:=Tryz.isAgg166
  z33:=Tryz.sizeOf166
  v33:=Tryz.zeroValue166 }
def Tryz.sortedI_ren:Go.Shelf.Ren:=⟨fun|6=>49|8=>97|9=>98|11=>134|13=>136|12=>135|23=>161|24=>162|14=>152|15=>153|16=>154|17=>155|18=>156|19=>157|20=>158|21=>159|22=>160|25=>176|26=>177|27=>178|28=>179|29=>180|30=>181|31=>189|n=>n,fun|26=>3|28=>124|24=>38|0=>0|3=>3|37=>198|48=>218|50=>220|4=>4|40=>212|39=>211|45=>202|5=>5|9=>9|51=>233|55=>237|57=>245|58=>246|33=>166|n=>n,fun|n=>n⟩
theorem Tryz.sortedI:Go.Proofs.SlLaysZI.n6 Tryz.prog Tryz.sortedI_ren:={
  mixed:=by kernel_rfl
  f6:=⟨Tryz.f49.name,by decide,Tryz.func49.trans (congrArg some (by kernel_rfl))⟩
  f8:=⟨Tryz.f97.name,by decide,Tryz.func97.trans (congrArg some (by kernel_rfl))⟩
  f11:=⟨Tryz.f134.name,by decide,Tryz.func134.trans (congrArg some (by kernel_rfl))⟩
  t0:=Tryz.underlying0
  a0:=Tryz.isAgg0
  z0:=Tryz.sizeOf0
  v0:=Tryz.zeroValue0
  t24:=Tryz.underlying38
  a24:=Tryz.isAgg38
  z24:=Tryz.sizeOf38
  v24:=Tryz.zeroValue38
  t26:=Tryz.underlying3
  a26:=Tryz.isAgg3
  z26:=Tryz.sizeOf3
  v26:=Tryz.zeroValue3
  t28:=Tryz.underlying124
  a28:=Tryz.isAgg124
  z28:=Tryz.sizeOf124
  v28:=Tryz.zeroValue124
  i26:=by kernel_rfl }
def Tryz.sortI_ren:Go.Shelf.Ren:=⟨fun|5=>98|8=>136|7=>135|19=>161|20=>162|10=>152|11=>153|12=>154|13=>155|14=>156|15=>157|16=>158|17=>159|18=>160|30=>176|31=>177|32=>178|33=>179|34=>180|35=>181|40=>189|n=>n,fun|23=>38|25=>3|3=>3|32=>198|22=>38|0=>0|44=>218|46=>220|4=>4|36=>212|35=>211|41=>202|5=>5|9=>9|53=>233|57=>237|63=>245|64=>246|n=>n,fun|n=>n⟩
theorem Tryz.sortI:Go.Proofs.SlLaysM.n5 Tryz.prog Tryz.sortI_ren:={
  mixed:=by kernel_rfl
  f5:=⟨Tryz.f98.name,by decide,Tryz.func98.trans (congrArg some (by kernel_rfl))⟩
  f7:=⟨Tryz.f135.name,by decide,Tryz.func135.trans (congrArg some (by kernel_rfl))⟩
  f8:=Tryz.func136.trans (congrArg some (by kernel_rfl))
  f10:=⟨Tryz.f152.name,by decide,Tryz.func152.trans (congrArg some (by kernel_rfl))⟩
  f11:=⟨Tryz.f153.name,by decide,Tryz.func153.trans (congrArg some (by kernel_rfl))⟩
  f12:=⟨Tryz.f154.name,by decide,Tryz.func154.trans (congrArg some (by kernel_rfl))⟩
  f13:=⟨Tryz.f155.name,by decide,Tryz.func155.trans (congrArg some (by kernel_rfl))⟩
  f14:=⟨Tryz.f156.name,by decide,Tryz.func156.trans (congrArg some (by kernel_rfl))⟩
  f15:=⟨Tryz.f157.name,by decide,Tryz.func157.trans (congrArg some (by kernel_rfl))⟩
  f16:=⟨Tryz.f158.name,by decide,Tryz.func158.trans (congrArg some (by kernel_rfl))⟩
  f17:=⟨Tryz.f159.name,by decide,Tryz.func159.trans (congrArg some (by kernel_rfl))⟩
  f18:=⟨Tryz.f160.name,by decide,Tryz.func160.trans (congrArg some (by kernel_rfl))⟩
  f19:=Tryz.func161.trans (congrArg some (by kernel_rfl))
  f20:=Tryz.func162.trans (congrArg some (by kernel_rfl))
  f30:=⟨Tryz.f176.name,by decide,Tryz.func176.trans (congrArg some (by kernel_rfl))⟩
  f31:=Tryz.func177.trans (congrArg some (by kernel_rfl))
  f32:=Tryz.func178.trans (congrArg some (by kernel_rfl))
  f33:=⟨Tryz.f179.name,by decide,Tryz.func179.trans (congrArg some (by kernel_rfl))⟩
  f34:=⟨Tryz.f180.name,by decide,Tryz.func180.trans (congrArg some (by kernel_rfl))⟩
  f35:=⟨Tryz.f181.name,by decide,Tryz.func181.trans (congrArg some (by kernel_rfl))⟩
  f40:=⟨Tryz.f189.name,by decide,Tryz.func189.trans (congrArg some (by kernel_rfl))⟩
  t0:=Tryz.underlying0
  a0:=Tryz.isAgg0
  z0:=Tryz.sizeOf0
  v0:=Tryz.zeroValue0
  t3:=Tryz.underlying3
  a3:=Tryz.isAgg3
  z3:=Tryz.sizeOf3
  v3:=Tryz.zeroValue3
  t4:=Tryz.underlying4
  a4:=Tryz.isAgg4
  z4:=Tryz.sizeOf4
  v4:=Tryz.zeroValue4
  t5:=Tryz.underlying5
  a5:=Tryz.isAgg5
  z5:=Tryz.sizeOf5
  v5:=Tryz.zeroValue5
  t9:=Tryz.underlying9
  a9:=Tryz.isAgg9
  z9:=Tryz.sizeOf9
  v9:=Tryz.zeroValue9
  t22:=Tryz.underlying38
  a22:=Tryz.isAgg38
  z22:=Tryz.sizeOf38
  v22:=Tryz.zeroValue38
  t23:=Tryz.underlying38
  a23:=Tryz.isAgg38
  z23:=Tryz.sizeOf38
  v23:=Tryz.zeroValue38
  t25:=Tryz.underlying3
  a25:=Tryz.isAgg3
  z25:=Tryz.sizeOf3
  v25:=Tryz.zeroValue3
  t32:=Tryz.underlying198
  a32:=Tryz.isAgg198
  z32:=Tryz.sizeOf198
  v32:=Tryz.zeroValue198
  t35:=Tryz.underlying211
  a35:=Tryz.isAgg211
  z35:=Tryz.sizeOf211
  v35:=Tryz.zeroValue211
  t36:=Tryz.underlying212
  a36:=Tryz.isAgg212
  z36:=Tryz.sizeOf212
  v36:=Tryz.zeroValue212
  t41:=Tryz.underlying202
  a41:=Tryz.isAgg202
  z41:=Tryz.sizeOf202
  v41:=Tryz.zeroValue202
  t44:=Tryz.underlying218
  a44:=Tryz.isAgg218
  z44:=Tryz.sizeOf218
  v44:=Tryz.zeroValue218
  t46:=Tryz.underlying220
  a46:=Tryz.isAgg220
  z46:=Tryz.sizeOf220
  v46:=Tryz.zeroValue220
  t53:=Tryz.underlying233
  a53:=Tryz.isAgg233
  z53:=Tryz.sizeOf233
  v53:=Tryz.zeroValue233
  t57:=Tryz.underlying237
  a57:=Tryz.isAgg237
  z57:=Tryz.sizeOf237
  v57:=Tryz.zeroValue237
  t63:=Tryz.underlying245
  a63:=Tryz.isAgg245
  z63:=Tryz.sizeOf245
  v63:=Tryz.zeroValue245
  t64:=Tryz.underlying246
  a64:=Tryz.isAgg246
  z64:=Tryz.sizeOf246
  v64:=Tryz.zeroValue246 }
end Go.Proofs
end
namespace Go.Proofs.YtnipofpbcggjcaaGreat
section
open Go.RowKit
theorem ZW (a:Addr) (v:Value) (w:World) (h:w.cell? a=some v):(Go.method 372 208 (.pointer (some a)) "Len").run Tryz.prog w=.ok (221,v) w:=by
  have e:(Go.method 372 208 (.pointer (some a)) "Len").run Tryz.prog w=((loadVar 138 a) >>= fun v=>pure (221,v):Sem (FuncId×Value)).run Tryz.prog w:=by kernel_rfl
  rw [e]
  simp [loadVar,isAgg,underlying,Tryz.underlying138,h,Result.andThen]
theorem Xy (a:Addr) (v:Value) (w:World) (h:w.cell? a=some v):(Go.method 372 208 (.pointer (some a)) "Less").run Tryz.prog w=.ok (222,v) w:=by
  have e:(Go.method 372 208 (.pointer (some a)) "Less").run Tryz.prog w=((loadVar 138 a) >>= fun v=>pure (222,v):Sem (FuncId×Value)).run Tryz.prog w:=by kernel_rfl
  rw [e]
  simp [loadVar,isAgg,underlying,Tryz.underlying138,h,Result.andThen]
theorem Xz (a:Addr) (v:Value) (w:World) (h:w.cell? a=some v):(Go.method 372 208 (.pointer (some a)) "Swap").run Tryz.prog w=.ok (223,v) w:=by
  have e:(Go.method 372 208 (.pointer (some a)) "Swap").run Tryz.prog w=((loadVar 138 a) >>= fun v=>pure (223,v):Sem (FuncId×Value)).run Tryz.prog w:=by kernel_rfl
  rw [e]
  simp [loadVar,isAgg,underlying,Tryz.underlying138,h,Result.andThen]
theorem XA (a:Addr) (w:World):(Go.method 372 208 (.pointer (some a)) "Push").run Tryz.prog w=.ok (225,.pointer (some a)) w:=by kernel_rfl
theorem ZX (a:Addr) (w:World):(Go.method 372 208 (.pointer (some a)) "Pop").run Tryz.prog w=.ok (224,.pointer (some a)) w:=by kernel_rfl
theorem Va (a:Addr) (w:World):(Go.nilAhead 372 208 (.pointer (some a)) "Len").run Tryz.prog w=.ok (some false) w:=by kernel_rfl
theorem PL (a:Addr) (w:World):(Go.nilAhead 372 208 (.pointer (some a)) "Less").run Tryz.prog w=.ok (some false) w:=by kernel_rfl
theorem Jm (a:Addr) (w:World):(Go.nilAhead 372 208 (.pointer (some a)) "Swap").run Tryz.prog w=.ok (some false) w:=by kernel_rfl
theorem XB (a:Addr) (w:World):(Go.nilAhead 372 208 (.pointer (some a)) "Push").run Tryz.prog w=.ok (some false) w:=by kernel_rfl
theorem ZY (a:Addr) (w:World):(Go.nilAhead 372 208 (.pointer (some a)) "Pop").run Tryz.prog w=.ok (some false) w:=by kernel_rfl
theorem Jo (A:Option Addr) (n c:Nat) (w:World) :
    Calls Tryz.prog 221 #[.slice A n c] w fun e w'=>e=.returned (.int .i64 n)/\w'=w:=by
  go_enter Tryz.func221,Tryz.ntmps221
  go_wp2
  go_ret
  exact⟨rfl,rfl⟩
theorem PN (g n c i j:Nat) (x y:Int) (w:World) (hi:i < n) (hj:j < n) (ci:w.cell? ⟨g,i,none⟩=some (.int .i64 x)) (cj:w.cell? ⟨g,j,none⟩=some (.int .i64 y)) :
    Calls Tryz.prog 222 #[.slice (some ⟨g,0,none⟩) n c,.int .i64 i,.int .i64 j] w fun e w'=>e=.returned (.bool (decide (x < y)))/\∃ m,w'=w.drewN m:=by
  have hi':(i:Int) < (n:Int):=by omega
  have hj':(j:Int) < (n:Int):=by omega
  go_enter Tryz.func222,Tryz.ntmps222
  go_wp2_with fail
  go_quiet (fail)
  go_wp2_with fail
  go_ret
  exact⟨rfl,_,rfl⟩
theorem PO (g n c i j:Nat) (x y:Int) (w:World) (hi:i < n) (hj:j < n) (hij:i≠j) (ci:w.cell? ⟨g,i,none⟩=some (.int .i64 x)) (cj:w.cell? ⟨g,j,none⟩=some (.int .i64 y))
    (fi:w.frozen? ⟨g,i,none⟩=false) (fj:w.frozen? ⟨g,j,none⟩=false) :
    Calls Tryz.prog 223 #[.slice (some ⟨g,0,none⟩) n c,.int .i64 i,.int .i64 j] w fun e w'=>e=.returned (.tuple #[])/\∃ m,w'=((w.setCell ⟨g,i,none⟩ (.int .i64 y)).setCell ⟨g,j,none⟩ (.int .i64 x)).drewN m:=by
  have hi':(i:Int) < (n:Int):=by omega
  have hj':(j:Int) < (n:Int):=by omega
  go_enter Tryz.func223,Tryz.ntmps223
  go_wp2_with fail
  go_region
  go_end0
  exact⟨rfl,1,rfl⟩
theorem SX:(Tryz.prog.info? 3).map (fun i=>(i.zero,i.size,i.bytes))=some (some (.int .i64 0),1,8):=by kernel_rfl
theorem SY (t o g n c:Nat) (x:Int) (w:World) (hc:n+1<=c) (ht:w.cell? ⟨t,o,none⟩=some (.slice (some ⟨g,0,none⟩) (n+1) c)) (hf:w.frozen? ⟨t,o,none⟩=false)
    (hx:w.cell? ⟨g,n,none⟩=some (.int .i64 x)) (hm:n+1<=1048576) :
    Calls Tryz.prog 224 #[.pointer (some ⟨t,o,none⟩)] w fun e w'=>e=.returned (.iface 3 (.int .i64 x))/\w'=w.setCell ⟨t,o,none⟩ (.slice (some ⟨g,0,none⟩) n c):=by
  go_enter Tryz.func224,Tryz.ntmps224
  go_wp2_with fail
  go_ret
  exact⟨rfl,rfl⟩
theorem Nz (x:Int) (w:World):(Instr.typeAssert (.iface 3 (.int .i64 x)) 20 3 false).run Tryz.prog w=.ok (.int .i64 x) w:=by kernel_rfl
theorem Lz (x:Int):∀ u∈[Value.int .i64 x],u.oneCell'=true:=by intro u hu;simp at hu;subst hu;rfl
theorem PS {t o:Nat} {v:Value} {w w1:World} {ob:Obj} (ht:w.cell? ⟨t,o,none⟩=some v) (hlt:t < w.heap.size) {row:Option Nat} (hne:row≠some t) (hg:(w.alloc ob).drew.grownBy w1 row):w1.cell? ⟨t,o,none⟩=some v:=by
  rw [hg.cell_far ⟨t,o,none⟩ (by show t < (w.alloc ob).heap.size;simp;omega) (fun e=>hne e.symm)]
  exact (World.cell?_alloc_lt w ob ⟨t,o,none⟩ hlt).trans ht
theorem PU {t o:Nat} {w w1:World} {ob:Obj} (hf:w.frozen? ⟨t,o,none⟩=false) (hlt:t < w.heap.size) {row:Option Nat} (hne:row≠some t) (hg:(w.alloc ob).drew.grownBy w1 row):w1.frozen? ⟨t,o,none⟩=false:=by
  rw [hg.frozen_far ⟨t,o,none⟩ (by show t < (w.alloc ob).heap.size;simp;omega) (fun e=>hne e.symm)]
  exact (World.frozen?_alloc_old w ob ⟨t,o,none⟩ (Nat.ne_of_lt hlt)).trans hf
theorem PV (t o base n:Nat) (v:Value) (xs:List Value) (x:Int) (w:World) (ht:w.cell? ⟨t,o,none⟩=some v) (hf:w.frozen? ⟨t,o,none⟩=false)
    (hown:w.ownsRow base 3 1 v n xs) (hne:v.ownBlock≠some t) (hm:n+1<=1048576) (hbase:base<=w.heap.size) :
    Calls Tryz.prog 225 #[.pointer (some ⟨t,o,none⟩),.iface 3 (.int .i64 x)] w fun e w'=>e=.returned (.tuple #[]) ∧
      ∃ g cap w1,w1.ownsRow base 3 1 (.slice (some ⟨g,0,none⟩) (n+1) cap) (n+1) (xs++[.int .i64 x])/\w.grownBy w1 v.ownBlock/\(v.ownBlock=some g\/w.heap.size<=g) ∧
        w'=w1.setCell ⟨t,o,none⟩ (.slice (some ⟨g,0,none⟩) (n+1) cap):=by
  obtain⟨i0,hi0,hz0,hz1,hz2⟩:=info_parts SX
  have hlt:t < w.heap.size:=by
    rcases Nat.lt_or_ge t w.heap.size with h|h
    ·exact h
    simp [World.cell?,Array.getElem?_eq_none h] at ht
  have hta:=Nz
  go_enter Tryz.func225,Tryz.ntmps225
  go_wp2_with fail
  go_region_law (refine step_append_lies _ rfl (.tmp 7) (.tmp 10) 138 rfl base 3 i0 (.int .i64 0) 1 8 Tryz.underlying138 hi0 hz0 hz1 hz2 rfl (by decide) v n xs (by simp [Act.eval]) (hown.alloc _) ⟨w.heap.size,0,none⟩ 1 1 [.int .i64 x] (by simp [Act.eval]) rfl (cell_one_new _ _ _) (Lz x) (by decide) (by unfold maxLen;omega) (by omega) (by simp;omega) (w.heap.size+1) (by simp) ?_;intro g cap w1 hown1 hg1 NA ab3;have c1:w1.cell? ⟨t,o,none⟩=some v:=PS ht hlt hne hg1;have f1:w1.frozen? ⟨t,o,none⟩=false:=PU hf hlt hne hg1)
  all_goals
    go_end0
    refine⟨rfl,g,cap,w1,hown1,(World.grownBy_alloc w (.cells #[.int .i64 x] 3) _).trans ⟨hg1.os,hg1.tape,hg1.output,hg1.size,hg1.block⟩,?_,rfl⟩
    rcases NA with h|h
    ·exact .inl h
    exact .inr (by omega)
end
end Go.Proofs.YtnipofpbcggjcaaGreat
section
namespace Go.Proofs.YtnipofpbcggjcaaGreat.aX
def at_ (l:List Int) (i:Nat):Int:=l.getD i 0
def swp (l:List Int) (i j:Nat):List Int:=(l.set i (at_ l j)).set j (at_ l i)
def Hp (n:Nat) (l:List Int):Prop:=∀ i,0 < i->i < n->at_ l ((i - 1) / 2)<=at_ l i
def Ar (l:List Int):Prop:=∀ a b,a < l.length->b < l.length->at_ l a=at_ l b->a=b
def Fq (l:List Int) (j:Nat):Prop:=
  (∀ i,0 < i->i < l.length->i≠j->at_ l ((i - 1) / 2)<=at_ l i)/\(∀ i,0 < i->i < l.length->(i - 1) / 2=j->0 < j->at_ l ((j - 1) / 2)<=at_ l i)
def xU (n:Nat) (l:List Int) (i:Nat):Prop:=
  (∀ k,0 < k->k < n->(k - 1) / 2≠i->at_ l ((k - 1) / 2)<=at_ l k)/\(∀ k,0 < k->k < n->(k - 1) / 2=i->0 < i->at_ l ((i - 1) / 2)<=at_ l k)
structure Same (l l':List Int):Prop where
  len:l'.length=l.length
  mem:∀ x,x∈l'↔x∈l
  inj:Ar l->Ar l'
theorem vE {l:List Int} {x:Int}:x∈l↔∃ k,k < l.length/\at_ l k=x:=by
  rw [List.mem_iff_getElem]
  constructor
  ·rintro⟨i,h,e⟩
   exact⟨i,h,by simp [at_,List.getD_eq_getElem?_getD,h,e]⟩
  rintro⟨i,h,e⟩
  exact⟨i,h,by simpa [at_,List.getD_eq_getElem?_getD,h] using e⟩
theorem nh (l:List Int) (i j:Nat):(swp l i j).length=l.length:=by simp [swp]
def sw (i j k:Nat):Nat:=if k=j then i else if k=i then j else k
theorem kM {l:List Int} {i j:Nat} (hi:i < l.length) (hj:j < l.length) (k:Nat):at_ (swp l i j) k=at_ l (sw i j k):=by
  unfold swp at_ sw
  grind
theorem NC (i j k:Nat):sw i j (sw i j k)=k:=by unfold sw;(repeat' split)<;>omega
theorem Ip {i j k n:Nat} (hi:i < n) (hj:j < n) (hk:k < n):sw i j k < n:=by unfold sw;(repeat' split)<;>omega
theorem Same.refl (l:List Int):Same l l:=⟨rfl,fun _=>Iff.rfl,fun h=>h⟩
theorem Same.trans {l l' l'':List Int} (h:Same l l') (k:Same l' l''):Same l l'':=⟨k.len.trans h.len,fun x=>(k.mem x).trans (h.mem x),fun i=>k.inj (h.inj i)⟩
theorem Same.swp {l:List Int} {i j:Nat} (hi:i < l.length) (hj:j < l.length):Same l (swp l i j):=by
  refine⟨nh l i j,fun x=>?_,fun inj a b ha hb e=>?_⟩
  ·rw [vE,vE,nh]
   constructor
   ·rintro⟨k,hk,e⟩
    exact⟨sw i j k,Ip hi hj hk,by rw [← kM hi hj];exact e⟩
   rintro⟨k,hk,e⟩
   exact⟨sw i j k,Ip hi hj hk,by rw [kM hi hj,NC];exact e⟩
  rw [nh] at ha hb
  rw [kM hi hj,kM hi hj] at e
  have:=inj _ _ (Ip hi hj ha) (Ip hi hj hb) e
  rw [← NC i j a,this,NC]
theorem PW {l:List Int} {j:Nat} (h:Fq l j) (he:j=0\/at_ l ((j - 1) / 2)<=at_ l j):Hp l.length l:=by
  intro i h0 hi
  by_cases e:i=j
  ·subst e
   rcases he with he|he
   ·omega
   exact he
  exact h.1 i h0 hi e
theorem Wn {l:List Int} {j:Nat} (h:Fq l j) (h0:0 < j) (hj:j < l.length) (hlt:at_ l j < at_ l ((j - 1) / 2)):Fq (swp l ((j - 1) / 2) j) ((j - 1) / 2):=by
  have hp:(j - 1) / 2 < l.length:=by omega
  have hne:(j - 1) / 2≠j:=by omega
  refine⟨fun i i0 il ine=>?_,fun i i0 il ip p0=>?_⟩
  ·rw [nh] at il
   rw [kM hp hj,kM hp hj]
   by_cases e1:i=j
   ·subst e1
    rw [show sw ((i - 1) / 2) i ((i - 1) / 2)=i by unfold sw;rw [if_neg hne,if_pos rfl],show sw ((i - 1) / 2) i i=(i - 1) / 2 by unfold sw;rw [if_pos rfl]]
    omega
   rw [show sw ((j - 1) / 2) j i=i by unfold sw;rw [if_neg e1,if_neg ine]]
   by_cases e2:(i - 1) / 2=j
   ·rw [show sw ((j - 1) / 2) j ((i - 1) / 2)=(j - 1) / 2 by unfold sw;rw [if_pos e2]]
    exact h.2 i i0 il e2 h0
   by_cases e3:(i - 1) / 2=(j - 1) / 2
   ·rw [show sw ((j - 1) / 2) j ((i - 1) / 2)=j by unfold sw;rw [if_neg e2,if_pos e3]]
    have:=h.1 i i0 il e1
    rw [e3] at this
    omega
   rw [show sw ((j - 1) / 2) j ((i - 1) / 2)=(i - 1) / 2 by unfold sw;rw [if_neg e2,if_neg e3]]
   exact h.1 i i0 il e1
  rw [nh] at il
  rw [kM hp hj,kM hp hj]
  have a1:=h.1 ((j - 1) / 2) p0 hp hne
  rw [show sw ((j - 1) / 2) j (((j - 1) / 2 - 1) / 2)=((j - 1) / 2 - 1) / 2 by unfold sw;rw [if_neg (by omega),if_neg (by omega)]]
  by_cases e1:i=j
  ·subst e1
   rw [show sw ((i - 1) / 2) i i=(i - 1) / 2 by unfold sw;rw [if_pos rfl]]
   exact a1
  have a2:=h.1 i i0 il e1
  rw [show sw ((j - 1) / 2) j i=i by unfold sw;rw [if_neg e1,if_neg (by omega)]]
  rw [ip] at a2
  omega
theorem yE {n:Nat} {l:List Int} {i:Nat} (h:xU n l i) (h1:2 * i+1 < n->at_ l i<=at_ l (2 * i+1)) (h2:2 * i+2 < n->at_ l i<=at_ l (2 * i+2)):Hp n l:=by
  intro k k0 kn
  by_cases e:(k - 1) / 2=i
  ·grind
  exact h.1 k k0 kn e
theorem Au {n:Nat} {l:List Int} {i j:Nat} (h:xU n l i) (hj:j=2 * i+1\/j=2 * i+2) (hjn:j < n) (hn:n<=l.length)
    (h1:at_ l j<=at_ l (2 * i+1)) (h2:2 * i+2 < n->at_ l j<=at_ l (2 * i+2)) (hlt:at_ l j < at_ l i):xU n (swp l i j) j:=by
  have hi:i < l.length:=by omega
  have hjl:j < l.length:=by omega
  refine⟨fun k k0 kn XC=>?_,fun k k0 kn ke j0=>?_⟩
  ·rw [kM hi hjl,kM hi hjl]
   by_cases e1:(k - 1) / 2=i
   ·rw [e1,show sw i j i=j by unfold sw;rw [if_neg (by omega),if_pos rfl]]
    by_cases e2:k=j
    ·rw [e2,show sw i j j=i by unfold sw;rw [if_pos rfl]];omega
    rw [show sw i j k=k by unfold sw;rw [if_neg e2,if_neg (by omega)]]
    grind
   rw [show sw i j ((k - 1) / 2)=(k - 1) / 2 by unfold sw;rw [if_neg XC,if_neg e1]]
   by_cases e2:k=i
   ·rw [e2,show sw i j i=j by unfold sw;rw [if_neg (by omega),if_pos rfl],← e2]
    have hjk:(j - 1) / 2=i:=by omega
    rw [e2]
    exact h.2 j (by omega) hjn hjk (by omega)
   rw [show sw i j k=k by unfold sw;rw [if_neg (by omega),if_neg e2]]
   exact h.1 k k0 kn e1
  rw [kM hi hjl,kM hi hjl]
  rw [show (j - 1) / 2=i by omega,show sw i j i=j by unfold sw;rw [if_neg (by omega),if_pos rfl],show sw i j k=k by unfold sw;rw [if_neg (by omega),if_neg (by omega)]]
  have:=h.1 k k0 kn (by omega)
  rw [ke] at this
  exact this
theorem least {n:Nat} {l:List Int} (h:Hp n l):∀ k,k < n->at_ l 0<=at_ l k:=by
  intro k
  induction k using Nat.strongRecOn with
  | _ k ih=>
    intro hk
    rcases Nat.eq_zero_or_pos k with e|e
    ·rw [e];omega
    have a1:=ih ((k - 1) / 2) (by omega) (by omega)
    have a2:=h k e hk
    omega
theorem ND {n:Nat} {l:List Int} (h:Hp (n+1) l) (hl:l.length=n+1):xU n (swp l 0 n) 0:=by
  refine⟨fun k k0 kn XC=>?_,fun k _ _ _ h0=>by omega⟩
  rw [kM (by omega) (by omega),kM (by omega) (by omega)]
  rw [show sw 0 n ((k - 1) / 2)=(k - 1) / 2 by unfold sw;rw [if_neg (by omega),if_neg XC],show sw 0 n k=k by unfold sw;rw [if_neg (by omega),if_neg (by omega)]]
  exact h k k0 (by omega)
theorem SZ {l:List Int} (h:Hp l.length l) (x:Int):Fq (l++[x]) l.length:=by
  have e:∀ k,k < l.length->at_ (l++[x]) k=at_ l k:=fun k hk=>by
    unfold at_
    grind
  refine⟨fun i i0 il ine=>?_,fun i i0 il ip=>?_⟩
  ·rw [List.length_append,List.length_singleton] at il
   rw [e _ (by omega),e _ (by omega)]
   exact h i i0 (by omega)
  grind
theorem Wo {l:List Int} {n:Nat} (hl:l.length=n+1) (hi:Ar l) (x:Int):x∈l.take n↔x∈l/\x≠at_ l n:=by
  constructor
  ·intro h
   refine⟨List.mem_of_mem_take h,?_⟩
   rintro rfl
   obtain⟨k,hk,e⟩:=List.mem_iff_getElem.1 h
   simp at hk e
   have:=hi k n (by omega) (by omega) (by simp [at_,List.getD_eq_getElem?_getD,show k < l.length by omega,e])
   omega
  rintro⟨h,hne⟩
  obtain⟨k,hk,e⟩:=vE.1 h
  have:k≠n:=by rintro rfl;exact hne e.symm
  refine List.mem_iff_getElem.2 ⟨k,by simp;omega,?_⟩
  simp only [at_,List.getD_eq_getElem?_getD,hk,List.getElem?_eq_getElem,Option.getD_some] at e
  simpa using e
theorem BU {l:List Int} {n k:Nat} (hk:k < n):at_ (l.take n) k=at_ l k:=by simp [at_,List.getD_eq_getElem?_getD,hk]
theorem Wp {l:List Int} {n:Nat} (h:Hp n l):Hp n (l.take n):=fun i i0 hi=>by rw [BU hi,BU (by omega)];exact h i i0 hi
theorem S5 {l:List Int} {n:Nat} (h:Ar l):Ar (l.take n):=fun a b ha hb e=>by
  simp at ha hb
  rw [BU (by omega),BU (by omega)] at e
  exact h a b (by omega) (by omega) e
end Go.Proofs.YtnipofpbcggjcaaGreat.aX
end
namespace Go.Proofs.YtnipofpbcggjcaaGreat
section
open Go.RowKit aX
def ints (l:List Int):List Value:=l.map (Value.int .i64)
theorem qm (g n c a b:Nat) (i j:Int) (hi:i=(a:Int)) (hj:j=(b:Int)) (x y:Int) (w:World) (ha:a < n) (hb:b < n) (ci:w.cell? ⟨g,a,none⟩=some (.int .i64 x)) (cj:w.cell? ⟨g,b,none⟩=some (.int .i64 y)) :
    Calls Tryz.prog 222 #[.slice (some ⟨g,0,none⟩) n c,.int .i64 i,.int .i64 j] w fun e w'=>e=.returned (.bool (decide (x < y)))/\∃ m,w'=w.drewN m:=by
  grind [PN]
structure HW (t o g c base:Nat) (l:List Int) (w:World):Prop where
  cell:w.cell? ⟨t,o,none⟩=some (.slice (some ⟨g,0,none⟩) l.length c)
  own:w.ownsRow base 3 1 (.slice (some ⟨g,0,none⟩) l.length c) l.length (ints l)
  ne:t≠g
  lt:t < w.heap.size
theorem S6 {l:List Int} {k:Nat} (hk:k < l.length):(ints l)[k]?=some (.int .i64 (at_ l k)):=by
  simp [ints,at_,List.getD_eq_getElem?_getD,hk]
section hw
variable {t o g c base:Nat} {l:List Int} {w:World}
theorem HW.at (h:HW t o g c base l w) {k:Nat} (hk:k < l.length):w.cell? ⟨g,k,none⟩=some (.int .i64 (at_ l k)):=by
  rw [h.own.cellAt k (by omega)]
  exact S6 hk
theorem HW.drewN (h:HW t o g c base l w) (m:Nat):HW t o g c base l (w.drewN m):=⟨h.cell,h.own,h.ne,h.lt⟩
theorem HW.swap (h:HW t o g c base l w) (i j:Nat) :
    HW t o g c base (swp l i j) ((w.setCell ⟨g,i,none⟩ (.int .i64 (at_ l j))).setCell ⟨g,j,none⟩ (.int .i64 (at_ l i))):=by
  have e1:ints (swp l i j)=((ints l).set i (.int .i64 (at_ l j))).set j (.int .i64 (at_ l i)):=by
    simp [ints,swp,List.map_set]
  refine⟨?_,?_,h.ne,by simpa [World.setCell] using h.lt⟩
  ·rw [nh,World.cell?_setCell_other _ _ _ _ (fun e=>h.ne (by injection e with e;exact e.symm)),World.cell?_setCell_other _ _ _ _ (fun e=>h.ne (by injection e with e;exact e.symm))]
   exact h.cell
  rw [nh,e1]
  exact ((h.own.stored i _).1.stored j _).1
end hw
theorem qo (t o g c base:Nat) (l:List Int) (a b:Nat) (i j:Int) (hi:i=(a:Int)) (hj:j=(b:Int)) (w:World) (h:HW t o g c base l w) (ha:a < l.length) (hb:b < l.length) (hne:a≠b) :
    Calls Tryz.prog 223 #[.slice (some ⟨g,0,none⟩) l.length c,.int .i64 i,.int .i64 j] w fun e w'=>e=.returned (.tuple #[])/\HW t o g c base (swp l a b) w'/\Keeps (·=g) w w':=by
  subst hi hj
  refine (PO g l.length c a b (at_ l a) (at_ l b) w ha hb hne (h.at ha) (h.at hb) (h.own.frozenAt a) (h.own.frozenAt b)).mono fun e w' ⟨he,m,hw⟩=>⟨he,?_,?_⟩
  ·rw [hw];exact (h.swap a b).drewN m
  rw [hw];exact (((Keeps.refl (·=g) w).setCell (p:=⟨g,a,none⟩) (.inr rfl) _).setCell (p:=⟨g,b,none⟩) (.inr rfl) _).drewN m
structure Looks (a:Addr) (V:Value):Prop where
  less:∀ w:World,w.cell? a=some V->(Go.method 372 208 (.pointer (some a)) "Less").run Tryz.prog w=.ok (222,V) w
  swap:∀ w:World,w.cell? a=some V->(Go.method 372 208 (.pointer (some a)) "Swap").run Tryz.prog w=.ok (223,V) w
  len:∀ w:World,w.cell? a=some V->(Go.method 372 208 (.pointer (some a)) "Len").run Tryz.prog w=.ok (221,V) w
theorem looks (a:Addr) (V:Value):Looks a V:=⟨Xy a V,Xz a V,ZW a V⟩
theorem Wq (t o g c base:Nat) (l:List Int) (j:Nat) (w:World) (h:HW t o g c base l w) (hj:j < l.length) (hu:Fq l j) (hm:l.length<=1048576) :
    Calls Tryz.prog 175 #[.iface 208 (.pointer (some ⟨t,o,none⟩)),.int .i64 j] w fun e w'=>e=.returned (.tuple #[]) ∧
      ∃ l',Same l l'/\Hp l'.length l'/\HW t o g c base l' w'/\Keeps (·=g) w w':=by
  have L:=looks ⟨t,o,none⟩ (.slice (some ⟨g,0,none⟩) l.length c)
  have nl:=PL ⟨t,o,none⟩
  have ns:=Jm ⟨t,o,none⟩
  go_enter Tryz.func175,Tryz.ntmps175
  go_wp2_with fail
  go_loopw [1] (fun v wr=>∃ (j:Nat) (l':List Int),v=.int .i64 j/\j < l'.length/\Same l l'/\Fq l' j/\HW t o g c base l' wr/\Keeps (·=g) w wr) (fun v _=>(intOf v).toNat)
  case atStart=>exact⟨j,l,rfl,hj,Same.refl l,hu,h,Keeps.refl _ _⟩
  case round=>
    obtain⟨j,l',rfl,hj',hs,hu',hw,hk⟩:=hrel
    have hc:=hw.cell
    rw [hs.len] at hc
    have LL:=L.less wr hc
    by_cases h0:j=0
    ·subst h0
     have HU:=Lib.hid hu'
     clear hu'
     go_wp2_with fail
     go_end0
     exact⟨rfl,l',hs,PW HU.out (.inl rfl),hw,hk⟩
    have r8:1<=j:=by omega
    have hj2:j<=1048576:=by have:=hs.len;omega
    have hi1:(j - 1) / 2 < l'.length:=by omega
    have hjn:((((j:Int) - 1) / 2) == (j:Int))=false:=by rw [beq_eq_false_iff_ne];omega
    have HU:=Lib.hid hu'
    clear hu'
    go_wp2_with fail
    refine (qm g l.length c j ((j - 1) / 2) _ _ rfl (by omega) (at_ l' j) (at_ l' ((j - 1) / 2)) _ (by rw [← hs.len];exact hj') (by rw [← hs.len];exact hi1) (hw.at hj') (hw.at hi1)).mono ?_
    rintro e w1 ⟨rfl,m,rfl⟩
    have hw1:=hw.drewN m
    by_cases hlt:at_ l' j < at_ l' ((j - 1) / 2)
    ·have LS:=L.swap (wr.drewN m) hc
     go_wp2_with fail
     have HL:=Lib.hid hs.len
     have sw:=qo t o g c base l' ((j - 1) / 2) j
     rw [hs.len] at sw
     refine (sw _ _ (by omega) rfl _ hw1 (by have:=HL.out;omega) (by have:=HL.out;omega) (by omega)).mono ?_
     rintro e w2 ⟨rfl,hw2,hk2⟩
     clear sw
     go_wp2_with fail
     go_roundw
     case rel=>exact⟨(j - 1) / 2,_,by go_num,by rw [nh];exact hi1,hs.trans (Same.swp hi1 hj'),Wn HU.out r8 hj' hlt,hw2,(hk.drewN m).trans hk2⟩
     case measure=>simp [intOf];omega
    have hnl:decide (at_ l' j < at_ l' ((j - 1) / 2))=false:=by simpa using hlt
    go_wp2_with fail
    go_end0
    exact⟨rfl,l',hs,PW HU.out (.inr (by omega)),hw1,hk.drewN m⟩
end
section
open Go.RowKit aX
theorem Jp {l:List Int} {i j n k:Nat} (hi:i < l.length) (hj:j < l.length) (hin:i < n) (hjn:j < n) (hk:n<=k):at_ (swp l i j) k=at_ l k:=by
  grind [kM,sw]
theorem PX (t o g c base n:Nat) (l:List Int) (w:World) (h:HW t o g c base l w) (hn:n<=l.length) (hd:xU n l 0) (hm:l.length<=1048576) :
    Calls Tryz.prog 188 #[.iface 208 (.pointer (some ⟨t,o,none⟩)),.int .i64 0,.int .i64 n] w fun e w'=>(∃ b,e=.returned (.bool b)) ∧
      ∃ l',Same l l'/\Hp n l'/\(∀ k,n<=k->at_ l' k=at_ l k)/\HW t o g c base l' w'/\Keeps (·=g) w w':=by
  have L:=looks ⟨t,o,none⟩ (.slice (some ⟨g,0,none⟩) l.length c)
  have nl:=PL ⟨t,o,none⟩
  have ns:=Jm ⟨t,o,none⟩
  go_enter Tryz.func188,Tryz.ntmps188
  go_wp2_with fail
  go_loopw [7] (fun v wr=>∃ (i:Nat) (l':List Int),v=.int .i64 i/\i<=n/\Same l l'/\xU n l' i/\Hid (∀ k,n<=k->at_ l' k=at_ l k)/\HW t o g c base l' wr/\Keeps (·=g) w wr) (fun v _=>n - (intOf v).toNat)
  case atStart=>exact⟨0,l,rfl,Nat.zero_le _,Same.refl l,hd,Lib.hid (fun _ _=>rfl),h,Keeps.refl _ _⟩
  case round=>
    obtain⟨i,l',rfl,hin,hs,hd',yG,hw,hk⟩:=hrel
    have hc:=hw.cell
    rw [hs.len] at hc
    have HL:=Lib.hid hs.len
    have hn1:n<=1048576:=by omega
    have hnl:n<=l'.length:=by rw [HL.out];exact hn
    have HD:=Lib.hid hd'
    clear hd'
    by_cases h1:2 * i+1 < n
    ·have h1a:(2 * (i:Int)+1) < (n:Int):=by omega
     by_cases h2:2 * i+2 < n
     ·have h2a:(2 * (i:Int)+1+1) < (n:Int):=by omega
      have LL:=L.less wr hc
      go_wp2_with fail
      refine (qm g l.length c (2 * i+2) (2 * i+1) _ _ (by omega) (by omega) (at_ l' (2 * i+2)) (at_ l' (2 * i+1)) _ (by omega) (by omega) (hw.at (by omega)) (hw.at (by omega))).mono ?_
      rintro e w1 ⟨rfl,m,rfl⟩
      have hw1:=hw.drewN m
      have hk1:=hk.drewN m
      have LL:=L.less (wr.drewN m) hc
      clear hw hk
      by_cases h3:at_ l' (2 * i+2) < at_ l' (2 * i+1)
      ·go_wp2_with fail
       refine (qm g l.length c (2 * i+2) i _ _ (by omega) (by omega) (at_ l' (2 * i+2)) (at_ l' i) _ (by omega) (by omega) (hw1.at (by omega)) (hw1.at (by omega))).mono ?_
       rintro e w2 ⟨rfl,m2,rfl⟩
       have hw2:=hw1.drewN m2
       have hk2:=hk1.drewN m2
       rw [World.drewN_drewN] at hw2 hk2
       by_cases h4:at_ l' (2 * i+2) < at_ l' i
       ·have LS:=L.swap _ (hw2.cell.trans (by rw [HL.out]))
        go_wp2_with fail
        have sw:=qo t o g c base l' i (2 * i+2)
        rw [hs.len] at sw
        refine (sw _ _ rfl (by omega) _ hw2 (by omega) (by omega) (by omega)).mono ?_
        rintro e w3 ⟨rfl,hw3,hk3⟩
        clear sw
        go_wp2_with fail
        go_roundw
        case rel=>exact⟨2 * i+2,_,by go_num,by omega,hs.trans (Same.swp (by omega) (by omega)),Au HD.out (by omega) (by omega) hnl (by omega) (fun _=>by omega) h4,Lib.hid (fun k hk=>(Jp (by omega) (by omega) (by omega) (by omega) hk).trans (yG.out k hk)),hw3,hk2.trans hk3⟩
        case measure=>simp [intOf];omega
       have h4a:decide (at_ l' (2 * i+2) < at_ l' i)=false:=by simpa using h4
       go_wp2_with fail
       go_ret
       exact⟨⟨_,rfl⟩,l',hs,yE HD.out (fun _=>by omega) (fun _=>by omega),yG.out,hw2,hk2⟩
      have h3a:decide (at_ l' (2 * i+2) < at_ l' (2 * i+1))=false:=by simpa using h3
      go_wp2_with fail
      refine (qm g l.length c (2 * i+1) i _ _ (by omega) (by omega) (at_ l' (2 * i+1)) (at_ l' i) _ (by omega) (by omega) (hw1.at (by omega)) (hw1.at (by omega))).mono ?_
      rintro e w2 ⟨rfl,m2,rfl⟩
      have hw2:=hw1.drewN m2
      have hk2:=hk1.drewN m2
      rw [World.drewN_drewN] at hw2 hk2
      by_cases h4:at_ l' (2 * i+1) < at_ l' i
      ·have LS:=L.swap _ (hw2.cell.trans (by rw [HL.out]))
       go_wp2_with fail
       have sw:=qo t o g c base l' i (2 * i+1)
       rw [hs.len] at sw
       refine (sw _ _ rfl (by omega) _ hw2 (by omega) (by omega) (by omega)).mono ?_
       rintro e w3 ⟨rfl,hw3,hk3⟩
       clear sw
       go_wp2_with fail
       go_roundw
       case rel=>exact⟨2 * i+1,_,by go_num,by omega,hs.trans (Same.swp (by omega) (by omega)),Au HD.out (by omega) (by omega) hnl (by omega) (fun _=>by omega) h4,Lib.hid (fun k hk=>(Jp (by omega) (by omega) (by omega) (by omega) hk).trans (yG.out k hk)),hw3,hk2.trans hk3⟩
       case measure=>simp [intOf];omega
      have h4a:decide (at_ l' (2 * i+1) < at_ l' i)=false:=by simpa using h4
      go_wp2_with fail
      go_ret
      exact⟨⟨_,rfl⟩,l',hs,yE HD.out (fun _=>by omega) (fun _=>by omega),yG.out,hw2,hk2⟩
     have h2a:decide ((2 * (i:Int)+1+1) < (n:Int))=false:=by simp;omega
     have hw1:=hw
     have hk1:=hk
     have LL:=L.less wr hc
     clear hw hk
     go_wp2_with fail
     refine (qm g l.length c (2 * i+1) i _ _ (by omega) (by omega) (at_ l' (2 * i+1)) (at_ l' i) _ (by omega) (by omega) (hw1.at (by omega)) (hw1.at (by omega))).mono ?_
     rintro e w2 ⟨rfl,m2,rfl⟩
     have hw2:=hw1.drewN m2
     have hk2:=hk1.drewN m2
     by_cases h4:at_ l' (2 * i+1) < at_ l' i
     ·have LS:=L.swap _ (hw2.cell.trans (by rw [HL.out]))
      go_wp2_with fail
      have sw:=qo t o g c base l' i (2 * i+1)
      rw [hs.len] at sw
      refine (sw _ _ rfl (by omega) _ hw2 (by omega) (by omega) (by omega)).mono ?_
      rintro e w3 ⟨rfl,hw3,hk3⟩
      clear sw
      go_wp2_with fail
      go_roundw
      case rel=>exact⟨2 * i+1,_,by go_num,by omega,hs.trans (Same.swp (by omega) (by omega)),Au HD.out (by omega) (by omega) hnl (by omega) (fun _=>by omega) h4,Lib.hid (fun k hk=>(Jp (by omega) (by omega) (by omega) (by omega) hk).trans (yG.out k hk)),hw3,hk2.trans hk3⟩
      case measure=>simp [intOf];omega
     have h4a:decide (at_ l' (2 * i+1) < at_ l' i)=false:=by simpa using h4
     go_wp2_with fail
     go_ret
     exact⟨⟨_,rfl⟩,l',hs,yE HD.out (fun _=>by omega) (fun _=>by omega),yG.out,hw2,hk2⟩
    have h1a:((n:Int)<=2 * (i:Int)+1):=by omega
    go_wp2_with fail
    go_ret
    exact⟨⟨_,rfl⟩,l',hs,yE HD.out (fun h=>absurd h h1) (fun h=>absurd h (by omega)),yG.out,hw,hk⟩
end
section
open Go.RowKit aX
theorem Fs (g n c i:Nat) (x:Int) (w:World) (hi:i < n) (ci:w.cell? ⟨g,i,none⟩=some (.int .i64 x)) (fi:w.frozen? ⟨g,i,none⟩=false) :
    Calls Tryz.prog 223 #[.slice (some ⟨g,0,none⟩) n c,.int .i64 i,.int .i64 i] w fun e w'=>e=.returned (.tuple #[])/\∃ m,w'=((w.setCell ⟨g,i,none⟩ (.int .i64 x)).setCell ⟨g,i,none⟩ (.int .i64 x)).drewN m:=by
  have hi':(i:Int) < (n:Int):=by omega
  go_enter Tryz.func223,Tryz.ntmps223
  go_wp2_with fail
  go_region
  go_end0
  exact⟨rfl,1,rfl⟩
theorem Fu (t o g c base n:Nat) (l:List Int) (hl:l.length=n+1) (j:Int) (hj:j=(n:Int)) (w:World) (h:HW t o g c base l w) :
    Calls Tryz.prog 223 #[.slice (some ⟨g,0,none⟩) (n+1) c,.int .i64 0,.int .i64 j] w fun e w'=>e=.returned (.tuple #[])/\HW t o g c base (swp l 0 n) w'/\Keeps (·=g) w w':=by
  subst hj
  by_cases h0:n=0
  ·subst h0
   have:=Fs g 1 c 0 (at_ l 0) w (by omega) (h.at (by omega)) (h.own.frozenAt 0)
   refine this.mono fun e w' ⟨he,m,hw⟩=>⟨he,?_,?_⟩
   ·rw [hw];exact (h.swap 0 0).drewN m
   rw [hw];exact (((Keeps.refl (·=g) w).setCell (p:=⟨g,0,none⟩) (.inr rfl) _).setCell (p:=⟨g,0,none⟩) (.inr rfl) _).drewN m
  grind [qo]
theorem HW.pop {t o g c base n:Nat} {l:List Int} {w:World} (h:HW t o g c base l w) (hl:l.length=n+1):w.ownsRow base 3 1 (.slice (some ⟨g,0,none⟩) n c) n (ints (l.take n)):=by
  have e:ints l=ints (l.take n)++ints (l.drop n):=by simp only [ints,← List.map_append,List.take_append_drop]
  have h1:=h.own
  rw [e,hl] at h1
  exact ownsRow_pop (by simp [ints];omega) h1
theorem HW.cap {t o g c base:Nat} {l:List Int} {w:World} (h:HW t o g c base l w):l.length<=c:=by
  rcases h.own.2 with ⟨e,_⟩|⟨g',cap,cur,e,_,_,r,_⟩
  all_goals grind
theorem S7 (t o g c base n:Nat) (l:List Int) (w:World) (h:HW t o g c base l w) (hl:l.length=n+1) (hp:Hp (n+1) l) (hi:Ar l) (hm:n+1<=1048576) (hf:w.frozen? ⟨t,o,none⟩=false) :
    Calls Tryz.prog 174 #[.iface 208 (.pointer (some ⟨t,o,none⟩))] w fun e w'=>e=.returned (.iface 3 (.int .i64 (at_ l 0))) ∧
      ∃ l' w1,l'.length=n/\Hp n l'/\Ar l'/\(∀ x,x∈l'↔x∈l/\x≠at_ l 0)/\w1.ownsRow base 3 1 (.slice (some ⟨g,0,none⟩) n c) n (ints l')/\Keeps (·=g) w w1 ∧
        w'=w1.setCell ⟨t,o,none⟩ (.slice (some ⟨g,0,none⟩) n c):=by
  have L:=looks ⟨t,o,none⟩ (.slice (some ⟨g,0,none⟩) l.length c)
  have nn:=Va ⟨t,o,none⟩
  have ns:=Jm ⟨t,o,none⟩
  have np:=ZY ⟨t,o,none⟩
  have mp:=ZX ⟨t,o,none⟩
  have LN:=L.len w h.cell
  have LS:=L.swap w h.cell
  have HL:=Lib.hid hl
  rw [hl] at LN LS
  clear hl
  go_enter Tryz.func174,Tryz.ntmps174
  go_wp2_with fail
  refine (Jo _ _ _ _).mono ?_
  rintro e w0 ⟨rfl,rfl⟩
  go_wp2_with fail
  refine (Fu t o g c base n l HL.out _ (by omega) _ h).mono ?_
  rintro e w1 ⟨rfl,hw1,hk1⟩
  go_wp2_with fail
  have hd:=PX t o g c base n (swp l 0 n) w1 hw1 (by rw [nh,HL.out];omega) (ND hp HL.out) (by rw [nh,HL.out];exact hm)
  refine (hd.mono ?_)
  rintro e w2 ⟨⟨bb,rfl⟩,l',hs,hp',yG,hw2,hk2⟩
  clear hd
  have hlen:l'.length=n+1:=by rw [hs.len,nh,HL.out]
  have hcell:=hw2.cell
  rw [hlen] at hcell
  have hcap:=hw2.cap
  have htlt:=h.lt
  have hf2:w2.frozen? ⟨t,o,none⟩=false:=by
    rw [(hk1.trans hk2).frozen (p:=⟨t,o,none⟩) htlt h.ne]
    exact hf
  have hlast:at_ l' n=at_ l 0:=by
    rw [yG n (Nat.le_refl _),kM (by rw [HL.out];omega) (by rw [HL.out];omega)]
    simp [sw]
  have hx:=hw2.at (k:=n) (by omega)
  rw [hlast] at hx
  have NE:=Lib.hid hlen
  have Z0:=Lib.hid hlast
  clear hlen hlast
  go_wp2_with fail
  refine (SY t o g n c (at_ l 0) w2 (by have:=NE.out;omega) hcell hf2 hx hm).mono ?_
  rintro e w3 ⟨rfl,rfl⟩
  go_wp2_with fail
  go_ret
  have sm:=(Same.swp (l:=l) (i:=0) (j:=n) (by rw [HL.out];omega) (by rw [HL.out];omega)).trans hs
  refine⟨rfl,l'.take n,w2,by simp [NE.out],Wp hp',S5 (sm.inj hi),fun x=>?_,hw2.pop NE.out,hk1.trans hk2,rfl⟩
  rw [Wo NE.out (sm.inj hi),sm.mem,Z0.out]
theorem Cz (l:List Int) (x:Int):ints l++[.int .i64 x]=ints (l++[x]):=by simp [ints]
theorem PY (t o base:Nat) (v:Value) (l:List Int) (x:Int) (w:World) (ht:w.cell? ⟨t,o,none⟩=some v) (hf:w.frozen? ⟨t,o,none⟩=false) (hown:w.ownsRow base 3 1 v l.length (ints l))
    (hne:v.ownBlock≠some t) (hm:l.length+1<=1048576) (hbase:base<=w.heap.size) (hp:Hp l.length l) (htl:t < w.heap.size) :
    Calls Tryz.prog 150 #[.iface 208 (.pointer (some ⟨t,o,none⟩)),.iface 3 (.int .i64 x)] w fun e w'=>e=.returned (.tuple #[]) ∧
      ∃ g c l',Same (l++[x]) l'/\Hp l'.length l'/\HW t o g c base l' w'/\(v.ownBlock=some g\/w.heap.size<=g) ∧
        ∃ w1,Keeps (fun k=>v.ownBlock=some k) w w1/\Keeps (·=g) (w1.setCell ⟨t,o,none⟩ (.slice (some ⟨g,0,none⟩) (l.length+1) c)) w':=by
  have nn:=Va ⟨t,o,none⟩
  have np:=XB ⟨t,o,none⟩
  have mp:=XA ⟨t,o,none⟩
  go_enter Tryz.func150,Tryz.ntmps150
  go_wp2_with fail
  refine (PV t o base l.length v (ints l) x w ht hf hown hne hm hbase).mono ?_
  rintro e w0 ⟨rfl,g,c,w1,hown1,hg1,NA,rfl⟩
  have hk1:Keeps (fun k=>v.ownBlock=some k) w w1:=(Keeps.refl _ _).grown hg1 (fun k hk=>.inr hk)
  have hgt:t≠g:=by
    rintro rfl
    rcases NA with h|h
    ·exact hne h
    omega
  have ht1:w1.cell? ⟨t,o,none⟩=some v:=(hk1.cell (p:=⟨t,o,none⟩) htl hne).trans ht
  have HW1:HW t o g c base (l++[x]) (w1.setCell ⟨t,o,none⟩ (.slice (some ⟨g,0,none⟩) (l.length+1) c)):=by
    refine⟨?_,?_,hgt,by simpa [World.setCell] using Nat.lt_of_lt_of_le htl hk1.size⟩
    ·rw [World.cell?_setCell_same _ _ _ ht1];simp
    rw [List.length_append,List.length_singleton,← Cz]
    refine Keeps.ownsRow (S:=(·=t)) ((Keeps.refl (·=t) w1).setCell (p:=⟨t,o,none⟩) (.inr rfl) _) hown1 ?_
    intro k hk e
    simp [Value.ownBlock] at hk
    omega
  have hc:=HW1.cell
  rw [List.length_append,List.length_singleton] at hc
  generalize hW:w1.setCell ⟨t,o,none⟩ (.slice (some ⟨g,0,none⟩) (l.length+1) c)=w2 at *
  have LN:=(looks ⟨t,o,none⟩ (.slice (some ⟨g,0,none⟩) (l.length+1) c)).len w2 hc
  have HWe:=Lib.hid hW
  clear hW ht1 hown1 hown hg1
  go_wp2_with fail
  refine (Jo _ _ _ _).mono ?_
  rintro e w3 ⟨rfl,rfl⟩
  go_wp2_with fail
  have hu:=Wq t o g c base (l++[x]) l.length w3 HW1 (by simp) (SZ hp x) (by simpa using hm)
  refine hu.mono ?_
  rintro e w4 ⟨rfl,l',hs,hp',hw4,hk4⟩
  go_wp2_with fail
  go_end0
  exact⟨rfl,g,c,l',hs,hp',hw4,NA,w1,hk1,by rw [HWe.out];exact hk4⟩
end
end Go.Proofs.YtnipofpbcggjcaaGreat
section
namespace Go.Proofs.YtnipofpbcggjcaaGreat.aq
open aX
variable {V U:Type}
abbrev Used (V:Type):=List (Int×V)
def keys (us:Used V):List Int:=us.map (·.1)
def get (us:Used V) (h:Int):Option V:=(us.find? (fun p=>p.1 == h)).map (·.2)
def bH:List Int->Prop:=List.Pairwise (· < ·)
def iV:Int->List Int->Int
  | h,[]=>h
  | h,k::r=>if k=h then iV (h+1) r else h
def least (us:Used V):Int:=iV 1 (keys us)
def ins (h:Int) (v:V):Used V->Used V
  | []=>[(h,v)]
  | p::r=>if h < p.1 then (h,v)::p::r else p::ins h v r
def del (h:Int) (us:Used V):Used V:=us.filter (fun p=>p.1 != h)
def ab4 (h:Int) (v:V) (us:Used V):Used V:=us.map (fun p=>if p.1 == h then (h,v) else p)
structure TI (next:Int) (l:List Int) (us:Used V):Prop where
  rise:bH (keys us)
  pos:∀ h∈keys us,1<=h/\h < next
  back:∀ h∈l,1<=h/\h < next/\h∉keys us
  all:∀ h,1<=h->h < next->h∈keys us\/h∈l
  count:(us.length:Int)+l.length=next - 1
  heap:Hp l.length l
  inj:Ar l
theorem keys_cons (p:Int×V) (us:Used V):keys (p::us)=p.1::keys us:=rfl
theorem keys_map (f:V->U) (us:Used V):keys (us.map fun p=>(p.1,f p.2))=keys us:=by simp [keys]
theorem get_none {us:Used V} {h:Int}:get us h=none↔h∉keys us:=by
  unfold get keys
  rw [Option.map_eq_none_iff,List.find?_eq_none]
  grind
theorem get_some {us:Used V} {h:Int} {v:V} (e:get us h=some v):h∈keys us:=by
  apply Classical.byContradiction
  intro hn
  rw [get_none.2 hn] at e;cases e
theorem get_map (f:V->U) (us:Used V) (h:Int):get (us.map fun p=>(p.1,f p.2)) h=(get us h).map f:=by
  unfold get
  rw [List.find?_map]
  simp only [Function.comp_def,Option.map_map]
theorem nX (h:Int) (v:V) (us:Used V) (x:Int):x∈keys (ins h v us)↔x=h\/x∈keys us:=by
  induction us with
  | nil=>simp [ins,keys]
  | cons p r ih=>
    unfold ins
    split
    ·simp [keys]
    rw [keys_cons,keys_cons,List.mem_cons,List.mem_cons,ih]
    grind
theorem vF {h:Int} {v:V} {us:Used V} (hr:bH (keys us)) (hn:h∉keys us):bH (keys (ins h v us)):=by
  induction us with
  | nil=>simp [ins,keys,bH]
  | cons p r ih=>
    unfold bH at *
    rw [keys_cons,List.pairwise_cons] at hr
    rw [keys_cons,List.mem_cons,not_or] at hn
    unfold ins
    split
    ·rename_i hlt
     rw [keys_cons,keys_cons,List.pairwise_cons,List.pairwise_cons]
     grind
    rename_i hlt
    rw [keys_cons,List.pairwise_cons]
    refine⟨fun x hx=>?_,ih hr.2 hn.2⟩
    rcases (nX h v r x).1 hx with e|e
    ·rw [e];have:=hn.1;omega
    exact hr.1 x e
theorem uX {h:Int} {v:V} {us:Used V} (hn:h∉keys us) (x:Int):get (ins h v us) x=if x=h then some v else get us x:=by
  induction us with
  | nil=>
    by_cases e:x=h
    ·subst e;simp [ins,get]
    simp [ins,get,e,Ne.symm e]
  | cons p r ih=>
    rw [keys_cons,List.mem_cons,not_or] at hn
    unfold ins
    grind [get]
theorem iH (h:Int) (v:V) (us:Used V):(ins h v us).length=us.length+1:=by
  induction us with
  | nil=>rfl
  | cons p r ih=>unfold ins;split<;>simp [ih]
theorem Jq {h:Int} {v:V} {us:Used V} (hl:∀ x∈keys us,x < h):ins h v us=us++[(h,v)]:=by
  induction us with
  | nil=>rfl
  | cons p r ih=>
    rw [keys_cons] at hl
    have h1:=hl p.1 (by simp)
    unfold ins
    grind
theorem Fv (f:V->U) (h:Int) (v:V) (us:Used V):(ins h v us).map (fun p=>(p.1,f p.2))=ins h (f v) (us.map fun p=>(p.1,f p.2)):=by
  induction us with
  | nil=>rfl
  | cons p r ih=>unfold ins;simp only [List.map_cons];split<;>simp_all
theorem Fw (f:V->U) (h:Int) (us:Used V):(del h us).map (fun p=>(p.1,f p.2))=del h (us.map fun p=>(p.1,f p.2)):=by
  unfold del;rw [List.filter_map];rfl
theorem qI (h:Int) (us:Used V):keys (del h us)=(keys us).filter (· != h):=by
  unfold keys del;rw [List.filter_map];rfl
theorem uY (h:Int) (us:Used V) (x:Int):get (del h us) x=if x=h then none else get us x:=by
  by_cases e:x=h
  ·subst e
   rw [if_pos rfl,get_none,qI]
   simp
  rw [if_neg e]
  unfold get del
  grind
theorem sF {h:Int} {us:Used V} (hr:bH (keys us)) (hm:h∈keys us):(del h us).length+1=us.length:=by
  induction us with
  | nil=>simp [keys] at hm
  | cons p r ih=>
    unfold bH at *
    rw [keys_cons,List.pairwise_cons] at hr
    unfold del at ih ⊢
    rw [List.filter_cons]
    by_cases e:p.1=h
    ·have:r.filter (fun q=>q.1 != h)=r:=by
       rw [List.filter_eq_self]
       intro q hq
       have:=hr.1 q.1 (List.mem_map_of_mem hq)
       simp;omega
     simp [e,this]
    rw [keys_cons,List.mem_cons] at hm
    grind
theorem nj:∀ (ks:List Int) (h:Int),bH ks->(∀ x∈ks,h<=x)->h<=iV h ks/\iV h ks∉ks/\∀ x,h<=x->x < iV h ks->x∈ks
  | [],h,_,_=>⟨Int.le_refl _,by simp [iV],fun x h1 h2=>by simp [iV] at h2;omega⟩
  | k::r,h,hr,hge=>by
    unfold bH at hr
    rw [List.pairwise_cons] at hr
    unfold iV
    by_cases e:k=h
    ·rw [if_pos e]
     obtain⟨i1,i2,i3⟩:=nj r (h+1) hr.2 (fun x hx=>by have:=hr.1 x hx;omega)
     refine⟨by omega,?_,fun x h1 h2=>?_⟩
     ·rw [List.mem_cons,not_or];exact⟨by omega,i2⟩
     by_cases e2:x=h
     ·rw [e2,← e];simp
     exact List.mem_cons_of_mem _ (i3 x (by omega) h2)
    rw [if_neg e]
    refine⟨Int.le_refl _,?_,fun x h1 h2=>by omega⟩
    rw [List.mem_cons,not_or]
    refine⟨Ne.symm e,fun hm=>?_⟩
    have h1:=hr.1 h hm
    have h2:=hge k (by simp)
    omega
theorem Ax {us:Used V} (hr:bH (keys us)) (hp:∀ x∈keys us,1<=x) {h:Int} (h1:1<=h) (hn:h∉keys us) (hall:∀ x,1<=x->x < h->x∈keys us):least us=h:=by
  obtain⟨i1,i2,i3⟩:=nj (keys us) 1 hr hp
  grind [least]
theorem TI.empty:TI 1 [] ([]:Used V):=
  ⟨List.Pairwise.nil,by simp [keys],by simp,fun h h1 h2=>by omega,rfl,fun i h1 h2=>by simp at h2,fun a b h1=>by simp at h1⟩
theorem TI.D9 {next:Int} {us:Used V} (h:TI next [] us):least us=next:=by
  have hc:=h.count
  simp at hc
  refine Ax h.rise (fun x hx=>(h.pos x hx).1) (by omega) (fun hm=>?_) (fun x h1 h2=>(h.all x h1 h2).resolve_right (by simp))
  have:=(h.pos _ hm).2;omega
theorem TI.S8 {next:Int} {us:Used V} (h:TI next [] us) (v:V):TI (next+1) [] (ins next v us):=by
  have hc:=h.count
  simp at hc
  have hn:next∉keys us:=fun hm=>by have:=(h.pos _ hm).2;omega
  refine⟨vF h.rise hn,fun x hx=>?_,by simp,fun x h1 h2=>?_,by rw [iH];simp;omega,fun i h1 h2=>by simp at h2,fun a b h1=>by simp at h1⟩
  ·rcases (nX next v us x).1 hx with e|e
   ·omega
   have:=h.pos x e;omega
  by_cases e:x=next
  ·exact .inl ((nX next v us x).2 (.inl e))
  exact .inl ((nX next v us x).2 (.inr ((h.all x h1 (by omega)).resolve_right (by simp))))
theorem TI.Ea {next:Int} {l:List Int} {us:Used V} (h:TI next l us) (hl:0 < l.length):least us=at_ l 0:=by
  have hm:at_ l 0∈l:=vE.2 ⟨0,hl,rfl⟩
  obtain⟨b1,b2,b3⟩:=h.back _ hm
  refine Ax h.rise (fun x hx=>(h.pos x hx).1) b1 b3 (fun x h1 h2=>(h.all x h1 (by omega)).resolve_right (fun hx=>?_))
  obtain⟨k,hk,e⟩:=vE.1 hx
  have:=aX.least h.heap k hk
  omega
theorem TI.S9 {next:Int} {l l':List Int} {us:Used V} (h:TI next l us) (hl:0 < l.length) (v:V) (hlen:l'.length+1=l.length) (hp:Hp l'.length l') (hi:Ar l') (hm:∀ x,x∈l'↔x∈l/\x≠at_ l 0) :
    TI next l' (ins (at_ l 0) v us):=by
  have h0:at_ l 0∈l:=vE.2 ⟨0,hl,rfl⟩
  obtain⟨b1,b2,b3⟩:=h.back _ h0
  have hc:=h.count
  refine⟨vF h.rise b3,fun x hx=>?_,fun x hx=>?_,fun x h1 h2=>?_,by rw [iH];push_cast;omega,hp,hi⟩
  ·rcases (nX _ v us x).1 hx with e|e
   ·omega
   exact h.pos x e
  ·have hx':=(hm x).1 hx
   have:=h.back x hx'.1
   refine⟨this.1,this.2.1,fun hk=>?_⟩
   rcases (nX _ v us x).1 hk with e|e
   ·exact hx'.2 e
   exact this.2.2 e
  by_cases e:x=at_ l 0
  ·exact .inl ((nX _ v us x).2 (.inl e))
  rcases h.all x h1 h2 with h3|h3
  ·exact .inl ((nX _ v us x).2 (.inr h3))
  exact .inr ((hm x).2 ⟨h3,e⟩)
theorem TI.drop {next h0:Int} {l l':List Int} {us:Used V} (h:TI next l us) (hm:h0∈keys us) (hs:Same (l++[h0]) l') (hp:Hp l'.length l'):TI next l' (del h0 us):=by
  obtain⟨p1,p2⟩:=h.pos _ hm
  have hn:h0∉l:=fun hx=>(h.back _ hx).2.2 hm
  have hlen:=hs.len
  rw [List.length_append,List.length_singleton] at hlen
  have hc:=h.count
  have hd:=sF h.rise hm
  refine⟨?_,fun x hx=>?_,fun x hx=>?_,fun x h1 h2=>?_,by omega,hp,hs.inj ?_⟩
  ·rw [qI];exact List.Pairwise.filter _ h.rise
  ·rw [qI,List.mem_filter] at hx
   exact h.pos x hx.1
  ·rw [hs.mem,List.mem_append,List.mem_singleton] at hx
   rw [qI,List.mem_filter]
   rcases hx with hx|hx
   ·have:=h.back x hx
    exact⟨this.1,this.2.1,fun hk=>this.2.2 hk.1⟩
   grind
  ·rw [qI,List.mem_filter,hs.mem,List.mem_append,List.mem_singleton]
   rcases h.all x h1 h2 with h3|h3
   all_goals grind
  intro a b ha hb e
  rw [List.length_append,List.length_singleton] at ha hb
  have g:∀ k,k < l.length->at_ (l++[h0]) k=at_ l k:=fun k hk=>by
    grind [at_]
  have g2:at_ (l++[h0]) l.length=h0:=by unfold at_;simp [List.getD_eq_getElem?_getD]
  have inl:∀ k,k < l.length->at_ l k≠h0:=by grind [vE]
  by_cases ha':a < l.length
  ·by_cases hb':b < l.length
   ·rw [g a ha',g b hb'] at e;exact h.inj a b ha' hb' e
   grind
  grind
end Go.Proofs.YtnipofpbcggjcaaGreat.aq
end
namespace Go.Proofs.YtnipofpbcggjcaaGreat
section
open Go.RowKit aX aq Go.Maps
def bB (us:Used Value):Lit->Option Value
  | .int .i64 h=>aq.get us h
  | _=>none
theorem Fx {us:Used Value} {h:Int} (hn:h∉keys us) (v:Value):om (bB us) (.int .i64 h) (some v)=bB (ins h v us):=by
  funext x
  unfold om bB
  cases x with
  | int k n=>
    by_cases hk:k=.i64
    ·subst hk
     simp only [Lit.sameKey,true_and,decide_eq_true_eq]
     rw [uX hn]
    have e:(Lit.int k n).sameKey (.int .i64 h)=false:=by simp [Lit.sameKey,hk]
    grind
  | _=>rfl
theorem Mp {us:Used Value} {h:Int}:om (bB us) (.int .i64 h) none=bB (del h us):=by
  funext x
  unfold om bB
  cases x with
  | int k n=>
    by_cases hk:k=.i64
    ·subst hk
     simp only [Lit.sameKey,true_and,decide_eq_true_eq]
     rw [uY]
    grind
  | _=>rfl
structure aaE (TT:TypeId) (t m base:Nat) (v:Value) (l:List Int) (next most ar:Int) (us:Used Value) (w:World):Prop where
  blk:w.heap[t]?=some (.cells #[.int .i64 most,.int .i64 ar,.map (some m),v,.int .i64 next] TT (0,0))
  map:gX Tryz.prog 3 w m (bB us) us.length
  own:w.ownsRow base 3 1 v l.length (ints l)
  ti:TI next l us
  uO:(us.length:Int)<=most
  uP:most<=1024
  uQ:next<=most+1
  tt:TT≠3
  bt:base<=t
  bm:base<=m
  wB:0<=ar/\ar<=1024
def Tab (TT:TypeId) (t m base:Nat) (row:Option Nat) (most ar:Int) (us:Used Value) (w:World):Prop:=
  ∃ v l next,aaE TT t m base v l next most ar us w/\v.ownBlock=row
section tab
variable {TT:TypeId} {t m base:Nat} {v:Value} {l:List Int} {next most ar:Int} {us:Used Value} {w w':World} {row:Option Nat}
end tab
end
section
open Go.RowKit aX aq Go.Maps
theorem Spec.ofB {P:Program} {β:Bs} {f:FuncId} {args:Array Value} {pre:List HP} {post:Value->List HP->Prop}
    (h:∀ F w,(Proofs.YtnipofpbcggjcaaGreat.lU pre).h F w->Calls P f args w fun e w'=>∃ v l,e=.returned v/\post v l/\∃ F',(Proofs.YtnipofpbcggjcaaGreat.lU l).h F' w'/\Step F w F' w'):Spec P β f args pre post:=by
  intro R w hS
  have h1:Sat β ([.abs (Proofs.YtnipofpbcggjcaaGreat.lU pre)]++[.abs R]) w:=Sat.turn (Sat.turn hS).lU
  have h2:Spec P β f args [.abs (Proofs.YtnipofpbcggjcaaGreat.lU pre)] (fun v l=>∃ l0,post v l0/\l=[.abs (Proofs.YtnipofpbcggjcaaGreat.lU l0)]):=
    Spec.of1 (fun F w hF=>(h F w hF).mono fun _ _ ⟨v,l,e,hp,hF'⟩=>⟨v,.abs (Proofs.YtnipofpbcggjcaaGreat.lU l),e,⟨l,hp,rfl⟩,hF'⟩)
  refine (h2 R w h1).mono ?_
  rintro e w' ⟨v,l,he,⟨l0,hp,rfl⟩,qd⟩
  exact⟨v,l0,he,hp,Sat.turn (Sat.turn qd).zM⟩
theorem Iq {p q:HP} {F:Fp} {w:World}:(lU [p,q]).h F w↔∃ F1 F2,p.h F1 w/\q.h F2 w/\Apart F1 F2/\∀ k,F k↔F1 k\/F2 k:=by
  constructor
  ·rintro⟨φ,h1,h2,h3⟩
   refine⟨φ 0,φ 1,h1 0 p rfl,h1 1 q rfl,h2 0 1 (by simp) (by simp) (by decide),fun k=>(h3 k).trans ⟨fun ⟨i,hi,hk⟩=>?_,fun h=>?_⟩⟩
   all_goals grind
  rintro⟨F1,F2,h1,h2,h3,h4⟩
  refine⟨fun i=>if i=0 then F1 else F2,fun i x hx=>?_,fun i j hi hj hne=>?_,fun k=>(h4 k).trans ⟨fun h=>?_,fun ⟨i,hi,hk⟩=>?_⟩⟩
  ·grind
  ·grind [lU,Apart]
  ·rcases h with h|h
   ·exact⟨0,by simp,h⟩
   exact⟨1,by simp,h⟩
  grind
theorem Sat.Z2 {β:Bs} {l:List HP} {w:World} {A:ct} {ι:Type} {Φ:ι->Prop} {L:ι->List HP} (h:Sat β (l++[.abs A]) w) (hA:∀ F,A.h F w->∃ i,Φ i/\(Proofs.YtnipofpbcggjcaaGreat.lU (L i)).h F w):∃ i,Φ i/\Sat β (l++L i) w:=by
  obtain⟨F,hF⟩:=h.get (i:=l.length) (p:=.abs A) (by simp)
  have h0:=h
  obtain⟨ho,φ,h1,h2,h3⟩:=h
  obtain⟨i,hi,hB⟩:=hA _ (h1 l.length (.abs A) (by simp))
  refine⟨i,hi,Sat.zM ⟨ho,φ,fun j p hp=>?_,fun j hj=>h2 j (by simpa using hj),fun a b ha hb=>h3 a b (by simpa using ha) (by simpa using hb)⟩⟩
  by_cases e:j < l.length
  ·grind
  have hj:j=l.length:=by have:=bN hp;simp at this;omega
  subst hj
  simp at hp
  subst hp
  exact hB
theorem Sat.XD {β:Bs} {l R:List HP} {w:World} {A:ct} (h:Sat β (l++R) w) (hA:∀ F,(Proofs.YtnipofpbcggjcaaGreat.lU R).h F w->A.h F w):Sat β (l++[.abs A]) w:=by
  obtain⟨ho,φ,h1,h2,h3⟩:=h.lU
  refine⟨ho,φ,fun j p hp=>?_,fun j hj=>h2 j (by simpa using hj),fun a b ha hb=>h3 a b (by simpa using ha) (by simpa using hb)⟩
  by_cases e:j < l.length
  ·grind
  have hj:j=l.length:=by have:=bN hp;simp at this;omega
  subst hj
  simp at hp
  subst hp
  exact hA _ (h1 l.length (.abs (Proofs.YtnipofpbcggjcaaGreat.lU R)) (by simp))
section rules
variable {P:Program} {β:Bs} {N:di} {ops:Array Oper} {k:Nat} {fr:Fr} {hps:List HP} {Q:Post} {c:Code} {e:Exit}
theorem af.Di {ι:Type} {Φ:ι->Prop} {hp:ι->List HP} (h:∀ w,Sat β hps w->∃ i,Φ i/\Sat β (hp i) w) (K:∀ i,Φ i->af P β N c fr (hp i) Q):af P β N c fr hps Q:=fun junk w hS=>let ⟨i,hi,dr⟩:=h w hS;K i hi junk w dr
end rules
theorem zA {w:World} {t j:Nat} {cs:List Value} {T:TypeId} {u:Value} (h:w.heap[t]?=some (.cells ⟨cs⟩ T (0,0))):(w.setCell ⟨t,j,none⟩ u).heap[t]?=some (.cells ⟨cs.set j u⟩ T (0,0)):=by
  simp [World.setCell,Array.getElem?_modify,h,Array.setIfInBounds_def]
  exact fun h=>(List.set_eq_of_length_le h).symm
theorem XE {β:Bs} {T:TypeId} {a b c e:Value} {t g cap n:Nat} {l:List Int} (hl:l.length=n+1) (hp:Hp (n+1) l) (hi:Ar l) (hm:n+1<=1048576) :
    Spec Tryz.prog β 174 #[.iface 208 (.pointer (some ⟨t,3,none⟩))] [.blk t [a,b,c,.slice (some ⟨g,0,none⟩) l.length cap,e] T,.abs (av 3 1 (some ⟨g,0,none⟩) l.length cap (ints l))]
      (fun v r=>v=.iface 3 (.int .i64 (at_ l 0))/\∃ l':List Int,l'.length=n/\Hp n l'/\Ar l'/\(∀ x,x∈l'↔x∈l/\x≠at_ l 0)/\r=[.blk t [a,b,c,.slice (some ⟨g,0,none⟩) n cap,e] T,.abs (av 3 1 (some ⟨g,0,none⟩) n cap (ints l'))]):=by
  refine Spec.ofB (fun F w h=>?_)
  obtain⟨F1,F2,⟨h1,h2⟩,hr,hap,hF⟩:=Iq.1 h
  have hr:(av 3 1 (some ⟨g,0,none⟩) l.length cap (ints l)).h F2 w:=hr
  obtain⟨hr1,hr2⟩:=hr
  have hg:F2 g:=(hr2 g).2 rfl
  have hne:t≠g:=fun e=>hap t ((h2 t).2 rfl) (e ▸ hg)
  have hc:w.cell? ⟨t,3,none⟩=some (.slice (some ⟨g,0,none⟩) l.length cap)/\w.frozen? ⟨t,3,none⟩=false:=jc h1 rfl rfl rfl
  have hW:HW t 3 g cap 0 l w:=⟨hc.1,hr1,hne,lt_of_some h1⟩
  refine (S7 t 3 g cap 0 n l w hW hl hp hi hm hc.2).mono ?_
  rintro e' w' ⟨rfl,l',w1,g1,g2,g3,g4,g5,g6,rfl⟩
  have h1':w1.heap[t]?=some (.cells ⟨[a,b,c,.slice (some ⟨g,0,none⟩) l.length cap,e]⟩ T (0,0)):=(g6.block t (lt_of_some h1) (fun e=>hne e)).trans h1
  have hks:Keeps (·=t) w1 (w1.setCell ⟨t,3,none⟩ (.slice (some ⟨g,0,none⟩) n cap)):=(Keeps.refl (·=t) w1).setCell (p:=⟨t,3,none⟩) (.inr rfl) _
  refine⟨_,_,rfl,⟨rfl,l',g1,g2,g3,g4,rfl⟩,F,Iq.2 ⟨F1,F2,⟨zA h1',h2⟩,⟨hks.ownsRow g5 (fun k hk e=>?_),fun k=>?_⟩,hap,hF⟩,⟨?_,fun _ h=>.inl h⟩⟩
  ·cases hk;exact hne e.symm
  ·rw [hr2 k];simp [Value.ownBlock]
  exact (g6.mono (S':=F) (fun k _ e=>(hF k).2 (.inr (e ▸ hg)))).trans (hks.mono (fun k _ e=>(hF k).2 (.inl ((h2 k).2 e))))
theorem Ws {β:Bs} {T:TypeId} {a b c e:Value} {t cap:Nat} {A:Option Addr} {l:List Int} (x:Int) (hp:Hp l.length l) (hm:l.length+1<=1048576) :
    Spec Tryz.prog β 150 #[.iface 208 (.pointer (some ⟨t,3,none⟩)),.iface 3 (.int .i64 x)] [.blk t [a,b,c,.slice A l.length cap,e] T,.abs (av 3 1 A l.length cap (ints l))]
      (fun v r=>v=.tuple #[]/\∃ (g c':Nat) (l':List Int),Same (l++[x]) l'/\Hp l'.length l'/\r=[.blk t [a,b,c,.slice (some ⟨g,0,none⟩) l'.length c',e] T,.abs (av 3 1 (some ⟨g,0,none⟩) l'.length c' (ints l'))]):=by
  refine Spec.ofB (fun F w h=>?_)
  obtain⟨F1,F2,⟨h1,h2⟩,hr,hap,hF⟩:=Iq.1 h
  have hr:(av 3 1 A l.length cap (ints l)).h F2 w:=hr
  obtain⟨hr1,hr2⟩:=hr
  have hc:w.cell? ⟨t,3,none⟩=some (.slice A l.length cap)/\w.frozen? ⟨t,3,none⟩=false:=jc h1 rfl rfl rfl
  have hne:(Value.slice A l.length cap).ownBlock≠some t:=fun e=>hap t ((h2 t).2 rfl) ((hr2 t).2 e)
  refine (PY t 3 0 (.slice A l.length cap) l x w hc.1 hc.2 hr1 hne hm (Nat.zero_le _) hp (lt_of_some h1)).mono ?_
  rintro e' w' ⟨rfl,g,c',l',g1,g2,g3,g4,w1,g5,g6⟩
  have Mq:t≠g:=g3.ne
  have hlen:l'.length=l.length+1:=by have:=g1.len;simp at this;omega
  have h1':w1.heap[t]?=some (.cells ⟨[a,b,c,.slice A l.length cap,e]⟩ T (0,0)):=(g5.block t (lt_of_some h1) hne).trans h1
  have XF:=zA (j:=3) (u:=.slice (some ⟨g,0,none⟩) (l.length+1) c') h1'
  have aaF:w'.heap[t]?=some (.cells ⟨[a,b,c,.slice (some ⟨g,0,none⟩) l'.length c',e]⟩ T (0,0)):=by
    rw [hlen];exact (g6.block t (lt_of_some XF) Mq).trans XF
  have hks:Keeps (·=t) w1 (w1.setCell ⟨t,3,none⟩ (.slice (some ⟨g,0,none⟩) (l.length+1) c')):=(Keeps.refl (·=t) w1).setCell (p:=⟨t,3,none⟩) (.inr rfl) _
  refine⟨_,_,rfl,⟨rfl,g,c',l',g1,g2,rfl⟩,fun k=>F1 k\/k=g,Iq.2 ⟨F1,fun k=>k=g,⟨aaF,h2⟩,⟨g3.own,fun k=>?_⟩,fun k hk e=>Mq (((h2 k).1 hk).symm.trans e),fun k=>Iff.rfl⟩,⟨?_,fun k hk=>?_⟩⟩
  ·simp [Value.ownBlock,eq_comm]
  ·have k1:Keeps F w w1:=g5.mono (fun k _ hk=>(hF k).2 (.inr ((hr2 k).2 hk)))
   have k2:Keeps F w (w1.setCell ⟨t,3,none⟩ (.slice (some ⟨g,0,none⟩) (l.length+1) c')):=k1.trans (hks.mono (fun k _ e=>(hF k).2 (.inl ((h2 k).2 e))))
   exact k2.andThen g6 (fun i hi e=>by
     rcases g4 with g4|g4
     ·exact (hF i).2 (.inr ((hr2 i).2 (e ▸ g4)))
     subst e;omega)
  rcases hk with hk|rfl
  ·exact .inl ((hF k).2 (.inl hk))
  rcases g4 with g4|g4
  ·exact .inl ((hF _).2 (.inr ((hr2 _).2 g4)))
  exact .inr g4
structure iI (next:Int) (l:List Int) (us:Used Value) (most ar:Int):Prop where
  ti:TI next l us
  uO:(us.length:Int)<=most
  uP:most<=1024
  uQ:next<=most+1
  yH:next<=ar+1
  wB:0<=ar/\ar<=1024
theorem iI.Jr {next:Int} {l:List Int} {us:Used Value} {most ar:Int} (h:iI next l us most ar):1<=aq.least us/\aq.least us<=next/\aq.least us∉keys us/\next<=1025/\1<=next/\us.length<=1024/\l.length<=1024:=by
  obtain⟨h1,h2,h3⟩:=nj (keys us) 1 h.ti.rise (fun x hx=>(h.ti.pos x hx).1)
  have hc:=h.ti.count
  have m0:=h.uO
  have m1:=h.uP
  have n1:=h.uQ
  refine⟨h1,?_,h2,by omega,by omega,by omega,by omega⟩
  rcases Int.lt_or_le next (aq.least us) with h4|h4
  ·have:=h3 next (by omega) h4
   have:=(h.ti.pos _ this).2
   omega
  exact h4
theorem Js:bB []=fun _=>none:=by
  funext x
  unfold bB
  split<;>rfl
theorem GN {us:Used Value} {h:Int} (hn:h∉keys us):bB us (.int .i64 h)=none:=get_none.2 hn
structure TX where
  m:Nat
  A:Option Addr
  c:Nat
  l:List Int
  next:Int
def nY (TT:TypeId) (t:Nat) (most ar:Int) (us:Used Value) (x:TX):List HP:=
  [.blk t [.int .i64 most,.int .i64 ar,.map (some x.m),.slice x.A x.l.length x.c,.int .i64 x.next] TT,.abs (bq Tryz.prog 3 x.m (bB us) us.length),.abs (av 3 1 x.A x.l.length x.c (ints x.l))]
def dI (TT:TypeId) (t:Nat) (most ar:Int) (us:Used Value):ct where
  h F w:=∃ x:TX,iI x.next x.l us most ar/\(lU (nY TT t most ar us x)).h F w
  lt:=fun ⟨_,_,h⟩ k hk=>ct.lt _ h k hk
  st:=fun ⟨x,h1,h⟩ _ _ hk hn=>⟨x,h1,ct.st _ h hk hn⟩
theorem Sat.sG {β:Bs} {TT:TypeId} {t:Nat} {most ar:Int} {us:Used Value} {l:List HP} {w:World} (h:Sat β (l++[.abs (dI TT t most ar us)]) w):∃ x:TX,iI x.next x.l us most ar/\Sat β (l++nY TT t most ar us x) w:=
  h.Z2 (fun _ h=>h)
theorem Sat.nZ {β:Bs} {TT:TypeId} {t:Nat} {most ar:Int} {us:Used Value} {l:List HP} {w:World} (x:TX) (hx:iI x.next x.l us most ar) (h:Sat β (l++nY TT t most ar us x) w):Sat β (l++[.abs (dI TT t most ar us)]) w:=
  h.XD (fun _ h=>⟨x,hx,h⟩)
end
section
open Go.RowKit Go.Maps Go.Sort Go.Shelf aX aq
theorem mE {z:Int} (h:(Lit.int .i64 z).wf=true):keyOf Tryz.prog 3 (.int .i64 z)=some (.int .i64 z):=
  keyOf_int_mk Tryz.underlying3 h
theorem GP:∀ {l m:List Int},l.Pairwise (· < ·)->m.Pairwise (· < ·)->(∀ z,z∈l↔z∈m)->l=m
  | [],[],_,_,_=>rfl
  | [],b::m,_,_,h=>by have:=(h b).2 (List.mem_cons_self ..);cases this
  | a::l,[],_,_,h=>by have:=(h a).1 (List.mem_cons_self ..);cases this
  | a::l,b::m,hl,hm,h=>by
    have hl':=List.pairwise_cons.1 hl
    have hm':=List.pairwise_cons.1 hm
    have e:a=b:=by
      rcases List.mem_cons.1 ((h a).1 (List.mem_cons_self ..)) with e|e
      ·exact e
      rcases List.mem_cons.1 ((h b).2 (List.mem_cons_self ..)) with e2|e2
      ·exact e2.symm
      have:=hm'.1 a e;have:=hl'.1 b e2;omega
    subst e
    congr 1
    refine GP hl'.2 hm'.2 (fun z=>⟨fun hz=>?_,fun hz=>?_⟩)
    ·rcases List.mem_cons.1 ((h z).1 (List.mem_cons_of_mem _ hz)) with e|e
     ·have:=hl'.1 z hz;omega
     exact e
    rcases List.mem_cons.1 ((h z).2 (List.mem_cons_of_mem _ hz)) with e|e
    ·have:=hm'.1 z hz;omega
    exact e
theorem NG (x y:Int):(if y > x then y else x)=max x y:=by
  rw [Int.max_def];split<;>split<;>omega
theorem Vb (x y:Int):(if y < x then y else x)=min x y:=by
  rw [Int.min_def];split<;>split<;>omega
theorem XG (m:Nat):AnyZI.SortsIn Tryz.prog Tryz.sortedI_ren Fence.wide m:=
  ⟨fun blk off cap ss W hH hblk hsz=>callsIn_wide.2 (AnyM.slices_Sort_int Tryz.sortI blk off cap ss W hH hblk hsz),
   fun p cap W=>callsIn_wide.2 (AnyM.slices_Sort_int_none Tryz.sortI p cap W)⟩
def Eb (bk:Nat):Value:=.func (.func 99) #[] #[.pointer (some ⟨bk,0,none⟩)]
theorem Jt {β:Bs} (mb:Option Nat):Spec Tryz.prog β 50 #[.map mb] [] (fun v l=>∃ bk,v=Eb bk/\l=[.blk bk [.map mb] 78]):=
  Spec.Pr fun W _=>by
    have h:CallsIn Fence.wide 5 Tryz.prog 50 #[.map mb] W fun e w'=>e=.returned (Eb W.heap.size)/\w'=W.alloc (.cells #[.map mb] 78):=AnyZI.keys_in Tryz.keysI Fence.wide 5 trivial rfl mb W
    refine ((callsIn_wide (n:=5)).1 h).mono ?_
    rintro e w' ⟨rfl,rfl⟩
    refine⟨_,_,rfl,⟨W.heap.size,rfl,rfl⟩,(Keeps.refl _ _).alloc _,fun k=>k=W.heap.size,⟨?_,fun k=>Iff.rfl⟩,fun k hk=>Nat.le_of_eq hk.symm⟩
    show (W.heap.push _)[W.heap.size]?=_
    simp
structure KeysOf (f:Lit->Option Value) (ss:List Int):Prop where
  mem:∀ z,z∈ss↔(f (.int .i64 z)).isSome=true
  sorted:ss.Pairwise (· < ·)
theorem NH {w:World} {b n:Nat} {K:TypeId} {f:Lit->Option Value} {D:DataW Value} (hK:Tryz.prog.underlying K=some (.int .i64)) (L:Keyed Tryz.prog K) (hown:w.ownsMap Tryz.prog K uJ b n D) (hf:∀ kl,Maps.has D kl=(f kl).isSome) {ss:List Int} (hp:ss.Perm (intKeys D)) :
    KeysOf f (ss.mergeSort (fun x y=>decide (x<=y))):=by
  obtain⟨es,hD,hpw,_⟩:=hown.entries L
  obtain⟨es',hD',hko⟩:=hown.keysOf
  obtain rfl:es=es':=by rw [hD] at hD';simpa using hD'
  have hk:∀ p∈es,∃ x,p.1=.int .i64 x:=fun p hp=>by
    obtain⟨v,hv⟩:=hko p hp
    obtain⟨x,_,h,_⟩:=keyOf_i64 hK hv
    exact⟨x,h⟩
  have hmem:∀ z,z∈intKeys D↔(f (.int .i64 z)).isSome=true:=fun z=>by
    rw [← hf,hD]
    show z∈es.map (fun p=>Go.intOf p.1)↔es.any (fun p=>p.1.sameKey (.int .i64 z))=true
    rw [List.mem_map,List.any_eq_true]
    refine⟨fun ⟨p,hp,e⟩=>⟨p,hp,?_⟩,fun ⟨p,hp,e⟩=>⟨p,hp,?_⟩⟩
    ·obtain⟨x,hx⟩:=hk p hp
     rw [hx] at e ⊢
     have e:x=z:=e
     simp [Lit.sameKey,e]
    obtain⟨x,hx⟩:=hk p hp
    rw [hx] at e ⊢
    show x=z
    simpa [Lit.sameKey] using e
  have hnd:(intKeys D).Nodup:=by
    rw [hD]
    show (es.map fun p=>Go.intOf p.1).Nodup
    rw [List.nodup_iff_pairwise_ne,List.pairwise_map]
    refine hpw.imp_of_mem (fun {p q} hp hq hne e=>hne ?_)
    obtain⟨x,hx⟩:=hk p hp
    obtain⟨y,hy⟩:=hk q hq
    rw [hx,hy] at e ⊢
    have e:x=y:=e
    rw [e]
  have tr:∀ a b c:Int,decide (a<=b)=true->decide (b<=c)=true->decide (a<=c)=true:=by grind
  have to:∀ a b:Int,(decide (a<=b) || decide (b<=a))=true:=by grind
  have hperm:=(List.mergeSort_perm ss (fun x y=>decide (x<=y))).trans hp
  refine⟨fun z=>by rw [hperm.mem_iff,hmem],?_⟩
  have h1:=List.pairwise_mergeSort tr to ss
  have h2:(ss.mergeSort (fun x y=>decide (x<=y))).Nodup:=hperm.nodup_iff.2 hnd
  rw [List.nodup_iff_pairwise_ne] at h2
  refine (h1.and h2).imp (fun {a b} h=>?_)
  grind
theorem Ec {β:Bs} (b bk n:Nat) (f:Lit->Option Value) (hn:n<=16777216) :
    Spec Tryz.prog β 49 #[Eb bk] [.abs (bq Tryz.prog 3 b f n),.blk bk [.map (some b)] 78] (fun v l=>∃ A cap ss,v=.slice A ss.length cap/\KeysOf f ss/\ss.length=n ∧
      l=[.abs (bq Tryz.prog 3 b f n),.blk bk [.map (some b)] 78,.abs (av 3 1 A ss.length cap (ints ss))]):=by
  intro R w hS
  obtain⟨F1,h1⟩:=hS.get (i:=0) (p:=.abs (bq Tryz.prog 3 b f n)) rfl
  obtain⟨F2,h2⟩:=hS.get (i:=1) (p:=.blk bk [.map (some b)] 78) rfl
  obtain⟨D,hown,hsz,hhas,_⟩:=h1.1
  have hcell:w.cell? ⟨bk,0,none⟩=some (.map (some b)):=(jc h2.1 rfl rfl rfl).1
  have hseq:SeqGives Fence.wide 2 Tryz.prog 99 #[.pointer (some ⟨bk,0,none⟩)] encZ (fun ss=>ss.Perm (intKeys D)) (Maps.size D) w:=
    AnyZI.keys_gives (ρ:=Tryz.keysI_ren) { Tryz.keysI with } Fence.wide _ trivial rfl (by omega) bk b n D w (lt_of_some h2.1) hcell hown
  have cS:=AnyZI.sorted_in Tryz.sortedI Fence.wide 5 trivial trivial trivial trivial rfl (by omega) (XG _) (enters_of Tryz.func98 (by kernel_rfl) rfl) 99 #[.pointer (some ⟨bk,0,none⟩)] trivial (enters_of Tryz.func99 (by kernel_rfl) rfl) _ _ (by rw [hsz];unfold maxLen;omega) (by rw [hsz];omega) _ hseq
  change CallsIn _ _ Tryz.prog 49 _ _ _ at cS
  refine ((callsIn_wide (n:=5)).1 cS).mono ?_
  rintro e w' ⟨v,ss,rfl,hp,hrow,hnil,hb⟩
  have hlen:(ss.mergeSort (fun x y=>decide (x<=y))).length=ss.length:=List.length_mergeSort ss
  have hkeys:=NH Tryz.underlying3 gU hown hhas hp
  have zQ:∃ A cap,v=.slice A ss.length cap:=by
    rcases hrow.2 with ⟨e1,e2⟩|⟨g,cp,cur,e1,_⟩
    all_goals grind
  obtain⟨A,cap,rfl⟩:=zQ
  have hn1:ss.length=n:=by
    rw [hp.length_eq,← hsz]
    obtain⟨es,hD,_⟩:=hown.entries gU
    rw [hD]
    exact List.length_map ..
  have hq:Sat β ([.abs (bq Tryz.prog 3 b f n),.blk bk [.map (some b)] 78,.abs R]++[.abs (av 3 1 A ss.length cap (ints (ss.mergeSort (fun x y=>decide (x<=y)))))]) w':=by
    refine Sat.new (F:=fun k=>(Value.slice A ss.length cap).ownBlock=some k) hS ⟨?_,fun k=>Iff.rfl⟩ ⟨hb.os,hb.tape,hb.output,hb.size,fun k hk _=>hb.block k hk⟩ (fun k hk=>(hrow.lt k hk).1)
    refine⟨hrow.1,?_⟩
    rcases hrow.2 with h|⟨g,cp,cur,e1,_,h3,h4⟩
    ·exact .inl h
    exact .inr ⟨g,cp,cur,e1,Nat.zero_le _,h3,h4⟩
  refine⟨_,[.abs (bq Tryz.prog 3 b f n),.blk bk [.map (some b)] 78,.abs (av 3 1 A ss.length cap (ints (ss.mergeSort (fun x y=>decide (x<=y)))))],rfl,⟨A,cap,ss.mergeSort (fun x y=>decide (x<=y)),by rw [hlen],hkeys,by rw [hlen];exact hn1,by rw [hlen]⟩,?_⟩
  exact hq.pick (idx:=[0,1,3,2]) rfl rfl
end
section
open Go.RowKit aX aq Go.Maps
attribute [local irreducible] ak aV af ai iz
theorem Mr {us:Used Value} {ss:List Int} (hr:aq.bH (keys us)) (h:KeysOf (bB us) ss):ss=keys us:=by
  refine GP h.sorted hr (fun z=>?_)
  rw [h.mem]
  show (aq.get us z).isSome=true↔z∈keys us
  refine⟨fun h=>?_,fun h=>?_⟩
  ·obtain⟨x,hx⟩:=Option.isSome_iff_exists.1 h;exact get_some hx
  cases hg:aq.get us z with
  | some x=>rfl
  | none=>exact absurd h (get_none.1 hg)
theorem Ju {β:Bs} (most:Int) :
    Spec Tryz.prog β 23 #[vI (most)] [] (fun v l=>∃ t,v=vP t/\l=[.abs (dI 140 t (min (max most 0) 1024) 0 [])]):=by
 refine SE Tryz.func23 Tryz.ntmps23 (fun R=>?_)
 refine SR (jK 1 [] [] ?_)
 refine NS (jK 3 [5] [(1,p_ ⟨[],none,none,none,some (vI (max most 0))⟩ [(Value.int .i64 (if 0 > most then 0 else most))=(.int .i64 (max most 0))] ⟨congrArg (Value.int .i64) (NG _ _),trivial⟩),(2,p_ ⟨[],none,none,none,some (vI (min (max most 0) 1024))⟩ [(Value.int .i64 (if 1024 < max most 0 then 1024 else max most 0))=(.int .i64 (min (max most 0) 1024))] ⟨congrArg (Value.int .i64) (Vb _ _),trivial⟩)] ?_)
 refine ak.qQ (d:=(some 6)) (t:=78) (fun _=>by kernel_rfl) Tryz.prog rfl 3 (fun m1=>?_)
 refine jN 3 [2] (fun _=>[]) (fun _=>[]) (fun b2=>.blk b2 [vI (min (max most 0) 1024),vI 0,.map (some m1),.slice none (0) (0),vI 1] 140) (fun b2=>?_)
 refine NN (af.ret (ai.mem (fun w hS=>hS.ld (e:=3) (size:=1)) ?_))
 refine ai.mem (dX:=[.abs R,.abs (dI 140 b2 (min (max most 0) 1024) 0 [])]) (fun w hS=>Sat.nZ (l:=[.abs R]) ⟨m1,none,0,[],1⟩ ⟨TI.empty,by grind,by omega,by grind,by show (1:Int)<=0+1;decide,by decide⟩ (by rw [← Js] at hS;exact hS.pick (idx:=[0,2,1,3]) (l':=[.abs R]++nY 140 b2 (min (max most 0) 1024) 0 [] ⟨m1,none,0,[],1⟩) rfl rfl)) ?_
 exact RT _ [1,0] (⟨b2,rfl,rfl⟩)
theorem PZ {β:Bs} (t:Nat) (most ar:Int) (us:Used Value) :
    Spec Tryz.prog β 81 #[vP t] [.abs (dI 140 t most ar us)] (fun v l=>v=vI ar/\l=[.abs (dI 140 t most ar us)]):=by
 refine SE Tryz.func81 Tryz.ntmps81 (fun R=>?_)
 refine af.seq (af.Di (Φ:=fun x:TX=>iI x.next x.l us most ar) (hp:=fun x=>[.abs R]++nY 140 t most ar us x) (fun w hS=>(hS.pick (idx:=[1,0]) (l':=[.abs R]++[.abs (dI 140 t most ar us)]) rfl rfl).sG) (fun x hT=>?_))
 obtain⟨m,A,c,l,next⟩:=x
 replace hT:iI next l us most ar:=hT
 have hb:=hT.Jr
 have hm0:=hT.uO
 have hm1:=hT.uP
 have hn1:=hT.uQ
 have hn2:=hT.yH
 have Jv:=hT.wB
 have Ms:=hT.ti.count
 show af _ _ _ _ _ [.abs R,.blk t [vI (most),vI (ar),.map (some m),.slice A (l.length) (c),vI (next)] 140,.abs (bq Tryz.prog 3 m (bB us) us.length),.abs (av 3 1 A l.length c (ints l))] _
 refine af.region (jK 1 [] [] ?_)
 refine NS (jK 5 [2] [(3,a_ 1 t)] ?_)
 refine NN (af.ret (ai.mem (fun w hS=>Sat.nZ (l:=[.abs R]) ⟨m,A,c,l,next⟩ (show iI (next) l (us) most (ar) from hT) (hS.pick (idx:=[0,1,2,3]) (l':=[.abs R]++nY 140 t most (ar) (us) ⟨m,A,c,l,next⟩) rfl rfl)) ?_))
 exact RT _ [1,0] (⟨rfl,rfl⟩)
theorem oe {β:Bs} (t:Nat) (most ar:Int) (us:Used Value) (h:Int) (hw:(Lit.int .i64 h).wf=true) (x:Value) (hg:aq.get us h=some x) :
    Spec Tryz.prog β 127 #[vP t,vI (h)] [.abs (dI 140 t most ar us)] (fun v l=>v=.tuple #[x,vI 0]/\l=[.abs (dI 140 t most ar us)]):=by
 refine SE Tryz.func127 Tryz.ntmps127 (fun R=>?_)
 refine af.seq (af.Di (Φ:=fun x:TX=>iI x.next x.l us most ar) (hp:=fun x=>[.abs R]++nY 140 t most ar us x) (fun w hS=>(hS.pick (idx:=[1,0]) (l':=[.abs R]++[.abs (dI 140 t most ar us)]) rfl rfl).sG) (fun x hT=>?_))
 obtain⟨m,A,c,l,next⟩:=x
 replace hT:iI next l us most ar:=hT
 have hb:=hT.Jr
 have hm0:=hT.uO
 have hm1:=hT.uP
 have hn1:=hT.uQ
 have hn2:=hT.yH
 have Jv:=hT.wB
 have Ms:=hT.ti.count
 show af _ _ _ _ _ [.abs R,.blk t [vI (most),vI (ar),.map (some m),.slice A (l.length) (c),vI (next)] 140,.abs (bq Tryz.prog 3 m (bB us) us.length),.abs (av 3 1 A l.length c (ints l))] _
 refine af.region (jK 2 [] [] ?_)
 refine NS (jK 5 [12,13] [(3,a_ 1 t)] ?_)
 refine ak.wo 2 (d:=(some 14)) (t:=78) (K:=3) (E:=82) (b:=m) (n:=us.length) (f:=(bB us)) (x:=(.tmp 12)) (ix:=(.tmp 13)) (key:=.int .i64 (h)) (z:=.nilIface) (kl:=(.int .i64 h)) (r:=(some x)) (fun _=>by kernel_rfl) (by kernel_rfl) (fun _=>by kernel_rfl) (fun _=>by kernel_rfl) gU Tryz.underlying78 (fun _=>by kernel_rfl) (mE hw) (hg) ?_
 refine jK 5 [6,7] [] ?_
 refine NN (af.seq (SR (jK 2 [18] [] ?_)))
 refine NN (CF (af.skip (NX (SR (jK 3 [4,5] [] ?_)))))
 refine NN (af.ret (ai.mem (fun w hS=>Sat.nZ (l:=[.abs R]) ⟨m,A,c,l,next⟩ (show iI (next) l (us) most (ar) from hT) (hS.pick (idx:=[0,1,2,3]) (l':=[.abs R]++nY 140 t most (ar) (us) ⟨m,A,c,l,next⟩) rfl rfl)) ?_))
 exact RT _ [1,0] (⟨rfl,rfl⟩)
theorem tO {β:Bs} (t:Nat) (most ar:Int) (us:Used Value) (h:Int) (hw:(Lit.int .i64 h).wf=true) (hg:aq.get us h=none) :
    Spec Tryz.prog β 127 #[vP t,vI (h)] [.abs (dI 140 t most ar us)] (fun v l=>v=.tuple #[.nilIface,vI 131]/\l=[.abs (dI 140 t most ar us)]):=by
 refine SE Tryz.func127 Tryz.ntmps127 (fun R=>?_)
 refine af.seq (af.Di (Φ:=fun x:TX=>iI x.next x.l us most ar) (hp:=fun x=>[.abs R]++nY 140 t most ar us x) (fun w hS=>(hS.pick (idx:=[1,0]) (l':=[.abs R]++[.abs (dI 140 t most ar us)]) rfl rfl).sG) (fun x hT=>?_))
 obtain⟨m,A,c,l,next⟩:=x
 replace hT:iI next l us most ar:=hT
 have hb:=hT.Jr
 have hm0:=hT.uO
 have hm1:=hT.uP
 have hn1:=hT.uQ
 have hn2:=hT.yH
 have Jv:=hT.wB
 have Ms:=hT.ti.count
 show af _ _ _ _ _ [.abs R,.blk t [vI (most),vI (ar),.map (some m),.slice A (l.length) (c),vI (next)] 140,.abs (bq Tryz.prog 3 m (bB us) us.length),.abs (av 3 1 A l.length c (ints l))] _
 refine af.region (jK 2 [] [] ?_)
 refine NS (jK 5 [12,13] [(3,a_ 1 t)] ?_)
 refine ak.wo 2 (d:=(some 14)) (t:=78) (K:=3) (E:=82) (b:=m) (n:=us.length) (f:=(bB us)) (x:=(.tmp 12)) (ix:=(.tmp 13)) (key:=.int .i64 (h)) (z:=.nilIface) (kl:=(.int .i64 h)) (r:=none) (fun _=>by kernel_rfl) (by kernel_rfl) (fun _=>by kernel_rfl) (fun _=>by kernel_rfl) gU Tryz.underlying78 (fun _=>by kernel_rfl) (mE hw) (hg) ?_
 refine jK 5 [6,7] [] ?_
 refine NN (af.seq (SR (jK 2 [18] [] ?_)))
 refine NN (CT (SR (jK 3 [4,5] [] ?_)))
 refine NN (af.ret (ai.aj (ai.mem (fun w hS=>Sat.nZ (l:=[.abs R]) ⟨m,A,c,l,next⟩ (show iI (next) l (us) most (ar) from hT) (hS.pick (idx:=[0,1,2,3]) (l':=[.abs R]++nY 140 t most (ar) (us) ⟨m,A,c,l,next⟩) rfl rfl)) ?_)))
 exact RT _ [1,0] (⟨rfl,rfl⟩)
theorem Ay {β:Bs} (t:Nat) (most ar:Int) (us:Used Value) (x:Value) (hf:most<=(us.length:Int)) :
    Spec Tryz.prog β 146 #[vP t,x] [.abs (dI 140 t most ar us)] (fun v l=>v=.tuple #[vI 0,vI 130]/\l=[.abs (dI 140 t most ar us)]):=by
 refine SE Tryz.func146 Tryz.ntmps146 (fun R=>?_)
 refine af.seq (af.Di (Φ:=fun x:TX=>iI x.next x.l us most ar) (hp:=fun x=>[.abs R]++nY 140 t most ar us x) (fun w hS=>(hS.pick (idx:=[1,0]) (l':=[.abs R]++[.abs (dI 140 t most ar us)]) rfl rfl).sG) (fun x hT=>?_))
 obtain⟨m,A,c,l,next⟩:=x
 replace hT:iI next l us most ar:=hT
 have hb:=hT.Jr
 have hm0:=hT.uO
 have hm1:=hT.uP
 have hn1:=hT.uQ
 have hn2:=hT.yH
 have Jv:=hT.wB
 have Ms:=hT.ti.count
 show af _ _ _ _ _ [.abs R,.blk t [vI (most),vI (ar),.map (some m),.slice A (l.length) (c),vI (next)] 140,.abs (bq Tryz.prog 3 m (bB us) us.length),.abs (av 3 1 A l.length c (ints l))] _
 refine af.region (jK 2 [] [] ?_)
 refine NN (af.seq (af.seq (af.bF (by kernel_rfl) (by kernel_rfl) ?_)))
 refine jQ 4 [10] [(3,a_ 1 t)] ?_
 refine aV.xJ 2 (d:=(some 11)) (t:=78) (K:=3) (E:=82) (b:=m) (n:=us.length) (f:=(bB us)) (x:=(.tmp 10)) (ats:=#[78]) (fun _=>by kernel_rfl) (by kernel_rfl) (fun _=>by kernel_rfl) rfl Tryz.underlying78 ?_
 refine jQ 5 [16] [(3,a_ 1 t)] ?_
 refine NQ (NX ?_)
 refine cP ((((us.length:Nat):Int):Int) ≥ (most:Int)) (fun ou=>?_) (fun ou=>?_)
 ·refine SR (jK 2 [4,5] [] ?_)
  refine NN (af.ret (ai.aj (ai.mem (fun w hS=>Sat.nZ (l:=[.abs R]) ⟨m,A,c,l,next⟩ (show iI (next) l (us) most (ar) from hT) (hS.pick (idx:=[0,1,2,3]) (l':=[.abs R]++nY 140 t most (ar) (us) ⟨m,A,c,l,next⟩) rfl rfl)) ?_)))
  exact RT _ [1,0] (⟨rfl,rfl⟩)
 exact absurd ou (by omega)
theorem Dj {β:Bs} (t:Nat) (most ar:Int) (us:Used Value) (x:Value) (hf:(us.length:Int) < most) :
    Spec Tryz.prog β 146 #[vP t,x] [.abs (dI 140 t most ar us)] (fun v l=>v=.tuple #[vI (least us),vI 0]/\l=[.abs (dI 140 t most (max ar ((us.length:Int)+1)) (ins (least us) x us))]):=by
 refine SE Tryz.func146 Tryz.ntmps146 (fun R=>?_)
 refine af.seq (af.Di (Φ:=fun x:TX=>iI x.next x.l us most ar) (hp:=fun x=>[.abs R]++nY 140 t most ar us x) (fun w hS=>(hS.pick (idx:=[1,0]) (l':=[.abs R]++[.abs (dI 140 t most ar us)]) rfl rfl).sG) (fun x hT=>?_))
 obtain⟨m,A,c,l,next⟩:=x
 replace hT:iI next l us most ar:=hT
 have hb:=hT.Jr
 have hm0:=hT.uO
 have hm1:=hT.uP
 have hn1:=hT.uQ
 have hn2:=hT.yH
 have Jv:=hT.wB
 have Ms:=hT.ti.count
 show af _ _ _ _ _ [.abs R,.blk t [vI (most),vI (ar),.map (some m),.slice A (l.length) (c),vI (next)] 140,.abs (bq Tryz.prog 3 m (bB us) us.length),.abs (av 3 1 A l.length c (ints l))] _
 refine af.region (jK 2 [] [] ?_)
 refine NN (af.seq (af.seq (af.bF (by kernel_rfl) (by kernel_rfl) ?_)))
 refine jQ 4 [10] [(3,a_ 1 t)] ?_
 refine aV.xJ 2 (d:=(some 11)) (t:=78) (K:=3) (E:=82) (b:=m) (n:=us.length) (f:=(bB us)) (x:=(.tmp 10)) (ats:=#[78]) (fun _=>by kernel_rfl) (by kernel_rfl) (fun _=>by kernel_rfl) rfl Tryz.underlying78 ?_
 refine jQ 5 [16] [(3,a_ 1 t)] ?_
 refine NQ (NX ?_)
 refine cP ((((us.length:Nat):Int):Int) ≥ (most:Int)) (fun ou=>?_) (fun ou=>?_)
 ·exact absurd ou (by omega)
 refine af.skip (NX (SR (jK 5 [6] [(3,a_ 1 t)] ?_)))
 refine NN (af.seq (SR (jK 6 [26] [(3,a_ 1 t)] ?_)))
 refine NN (cP ((((l.length:Nat):Int):Int) > (0:Int)) (fun GI=>?_) (fun GI=>?_))
 ·refine af.region ?_
  obtain⟨n,hn⟩:∃ n,l.length=n+1:=⟨l.length - 1,by omega⟩
  refine ak.tell (p:=∃ g,A=some ⟨g,0,none⟩) (fun w hS=>let ⟨F,h⟩:=hS.get (i:=3) rfl;av.head h (by omega)) (fun ⟨g,hg⟩=>?_)
  subst hg
  refine jK 4 [31] [] ?_
  refine gL (args:=#[.iface 208 (.pointer (some ⟨t,3,none⟩))]) (pre:=[.blk t [vI (most),vI (ar),.map (some m),.slice (some ⟨g,0,none⟩) (l.length) (c),vI (next)] 140,.abs (av 3 1 (some ⟨g,0,none⟩) l.length c (ints l))]) [1,3] (XE hn (by have:=hT.ti.heap;rwa [hn] at this) hT.ti.inj (by omega)) ?_
  rintro _ _ ⟨rfl,l2,rfl,hp2,hi2,hm2,rfl⟩
  refine jK 5 [6] [] ?_
  refine NS (sl 6 (.int .i64 ((at_ l 0))) (.int .i64 ((least us))) (by rw [hT.ti.Ea (by omega)]) ?_)
  refine jK 6 [46,47,48] [(3,a_ 0 t)] ?_
  refine ak.oO 3 (d:=none) (t:=78) (K:=3) (E:=82) (b:=m) (n:=us.length) (f:=(bB us)) (x:=(.tmp 46)) (ix:=(.tmp 47)) (y:=(.tmp 48)) (key:=.int .i64 ((least us))) (u:=x) (kl:=(.int .i64 (least us))) (n':=(us.length+1)) (f':=(bB (ins (least us) x us))) (fun _=>by kernel_rfl) (by kernel_rfl) (fun _=>by kernel_rfl) (fun _=>by kernel_rfl) (fun _=>by kernel_rfl) gU Tryz.underlying78 (by unfold maxLen;omega) (sD (by omega) (by omega)) (by rw [GN hb.2.2.1];rfl) (Fx hb.2.2.1 x) ?_
  refine NN (af.seq (af.tC 13 (by kernel_rfl) (by kernel_rfl) ?_))
  refine iz.seg (k':=9) (fr':=[(6,vI ((least us))),(49,vP t),(53,vI (ar)),(57,.map (some m))]) (cC:=[t=t,t=t]) [o_,o_,o_,o_,⟨[.at 0],none,none,none,none⟩,o_,o_,o_,⟨[.at 0],none,none,none,none⟩] [6,49,53,57] (fun _ _=>by kernel_rfl) ⟨rfl,rfl,trivial⟩ (by decide) ?_
  refine iz.xJ 3 (d:=(some 58)) (t:=78) (K:=3) (E:=82) (b:=m) (cnt:=(us.length+1)) (f:=(bB (ins (least us) x us))) (x:=(.tmp 57)) (ats:=#[78]) (fun _=>by kernel_rfl) (by kernel_rfl) (fun _=>by kernel_rfl) rfl Tryz.underlying78 (by decide) ?_
  refine iz.seg (k':=13) (fr':=[(6,vI ((least us))),(59,vI ((max ar ((us.length:Int)+1)))),(61,.pointer (some ⟨t,1,none⟩))]) (cC:=[(Value.int .i64 (if (((us.length+1):Nat):Int) > ar then (((us.length+1):Nat):Int) else ar))=(.int .i64 ((max ar ((us.length:Int)+1))))]) [⟨[],none,none,none,some (vI ((max ar ((us.length:Int)+1))))⟩,o_,o_] [6,59,61] (fun _ _=>by kernel_rfl) ⟨by rw [NG];rfl,trivial⟩ (by decide) ?_
  refine iz.done rfl ?_
  refine jC 1 [] [(0,a_ 0 t)] [(0,[(1,vI ((max ar ((us.length:Int)+1))))])] ?_
  refine NS (jK 3 [4,5] [] ?_)
  refine NN (af.ret (ai.eE [(3,.abs (bq Tryz.prog 3 m (bB (ins (least us) x us)) ((ins (least us) x us).length)))] (fun w hS=>by rw [iH];exact hS) ?_))
  refine ai.mem (fun w hS=>Sat.nZ (l:=[.abs R]) ⟨m,some ⟨g,0,none⟩,c,l2,next⟩ (show iI (next) l2 ((ins (least us) x us)) most ((max ar ((us.length:Int)+1))) from ⟨by rw [hT.ti.Ea (by omega)];exact hT.ti.S9 (by omega) x (by omega) hp2 hi2 hm2,by rw [iH];omega,by omega,by omega,by omega,by omega⟩) (hS.pick (idx:=[2,0,3,1]) (l':=[.abs R]++nY 140 t most ((max ar ((us.length:Int)+1))) ((ins (least us) x us)) ⟨m,some ⟨g,0,none⟩,c,l2,next⟩) rfl rfl)) ?_
  exact RT _ [1,0] (⟨rfl,rfl⟩)
 refine af.region ?_
 have hl0:l=[]:=List.eq_nil_of_length_eq_zero (by omega)
 have hl1:l.length=0:=by rw [hl0];rfl
 have hl2:TI next [] us:=hl0 ▸ hT.ti
 refine jC 8 [] [(3,a_ 1 t),(4,wI (next+1) ((next+1))),(7,a_ 1 t)] [(1,[(4,vI ((next+1)))])] ?_
 refine NS (sl 6 (.int .i64 (next)) (.int .i64 ((least us))) (by rw [hl2.D9]) ?_)
 refine jK 6 [46,47,48] [(3,a_ 1 t)] ?_
 refine ak.oO 2 (d:=none) (t:=78) (K:=3) (E:=82) (b:=m) (n:=us.length) (f:=(bB us)) (x:=(.tmp 46)) (ix:=(.tmp 47)) (y:=(.tmp 48)) (key:=.int .i64 ((least us))) (u:=x) (kl:=(.int .i64 (least us))) (n':=(us.length+1)) (f':=(bB (ins (least us) x us))) (fun _=>by kernel_rfl) (by kernel_rfl) (fun _=>by kernel_rfl) (fun _=>by kernel_rfl) (fun _=>by kernel_rfl) gU Tryz.underlying78 (by unfold maxLen;omega) (sD (by omega) (by omega)) (by rw [GN hb.2.2.1];rfl) (Fx hb.2.2.1 x) ?_
 refine NN (af.seq (af.tC 13 (by kernel_rfl) (by kernel_rfl) ?_))
 refine iz.seg (k':=9) (fr':=[(6,vI ((least us))),(49,vP t),(53,vI (ar)),(57,.map (some m))]) (cC:=[t=t,t=t]) [o_,o_,o_,o_,⟨[.at 1],none,none,none,none⟩,o_,o_,o_,⟨[.at 1],none,none,none,none⟩] [6,49,53,57] (fun _ _=>by kernel_rfl) ⟨rfl,rfl,trivial⟩ (by decide) ?_
 refine iz.xJ 2 (d:=(some 58)) (t:=78) (K:=3) (E:=82) (b:=m) (cnt:=(us.length+1)) (f:=(bB (ins (least us) x us))) (x:=(.tmp 57)) (ats:=#[78]) (fun _=>by kernel_rfl) (by kernel_rfl) (fun _=>by kernel_rfl) rfl Tryz.underlying78 (by decide) ?_
 refine iz.seg (k':=13) (fr':=[(6,vI ((least us))),(59,vI ((max ar ((us.length:Int)+1)))),(61,.pointer (some ⟨t,1,none⟩))]) (cC:=[(Value.int .i64 (if (((us.length+1):Nat):Int) > ar then (((us.length+1):Nat):Int) else ar))=(.int .i64 ((max ar ((us.length:Int)+1))))]) [⟨[],none,none,none,some (vI ((max ar ((us.length:Int)+1))))⟩,o_,o_] [6,59,61] (fun _ _=>by kernel_rfl) ⟨by rw [NG];rfl,trivial⟩ (by decide) ?_
 refine iz.done rfl ?_
 refine jC 1 [] [(0,a_ 1 t)] [(1,[(1,vI ((max ar ((us.length:Int)+1))))])] ?_
 refine NS (jK 3 [4,5] [] ?_)
 refine NN (af.ret (ai.eE [(2,.abs (bq Tryz.prog 3 m (bB (ins (least us) x us)) ((ins (least us) x us).length)))] (fun w hS=>by rw [iH];exact hS) ?_))
 refine ai.mem (fun w hS=>Sat.nZ (l:=[.abs R]) ⟨m,A,c,l,(next+1)⟩ (show iI ((next+1)) l ((ins (least us) x us)) most ((max ar ((us.length:Int)+1))) from ⟨by rw [hl2.D9,hl0];exact hl2.S8 x,by rw [iH];omega,by omega,by omega,by omega,by omega⟩) (hS.pick (idx:=[0,1,2,3]) (l':=[.abs R]++nY 140 t most ((max ar ((us.length:Int)+1))) ((ins (least us) x us)) ⟨m,A,c,l,(next+1)⟩) rfl rfl)) ?_
 exact RT _ [1,0] (⟨rfl,rfl⟩)
theorem GQ {β:Bs} (t:Nat) (most ar:Int) (us:Used Value) (h:Int) (hw:(Lit.int .i64 h).wf=true) (x:Value) (hg:aq.get us h=some x) :
    Spec Tryz.prog β 130 #[vP t,vI (h)] [.abs (dI 140 t most ar us)] (fun v l=>v=.tuple #[x,vI 0]/\l=[.abs (dI 140 t most ar (del h us))]):=by
 refine SE Tryz.func130 Tryz.ntmps130 (fun R=>?_)
 refine SR (jK 2 [] [] ?_)
 refine NS (jK 2 [9,10] [] ?_)
 refine gL [0] (oe t most ar us h hw x hg) ?_
 rintro _ _ ⟨rfl,rfl⟩
 refine jK 5 [6,7] [] ?_
 refine NN (af.seq (SR (jK 2 [15] [] ?_)))
 refine NN (CT (af.seq (af.Di (Φ:=fun x:TX=>iI x.next x.l us most ar) (hp:=fun x=>[.abs R]++nY 140 t most ar us x) (fun w hS=>(hS.pick (idx:=[1,0]) (l':=[.abs R]++[.abs (dI 140 t most ar us)]) rfl rfl).sG) (fun x0 hT=>?_))))
 obtain⟨m,A,c,l,next⟩:=x0
 replace hT:iI next l us most ar:=hT
 have hb:=hT.Jr
 have hm0:=hT.uO
 have hm1:=hT.uP
 have hn1:=hT.uQ
 have hn2:=hT.yH
 have Jv:=hT.wB
 have Ms:=hT.ti.count
 have hk:=get_some hg
 show af _ _ _ _ _ [.abs R,.blk t [vI (most),vI (ar),.map (some m),.slice A (l.length) (c),vI (next)] 140,.abs (bq Tryz.prog 3 m (bB us) us.length),.abs (av 3 1 A l.length c (ints l))] _
 refine af.region (jK 5 [19,20] [(3,a_ 1 t)] ?_)
 refine ak.DV 2 (d:=none) (t:=78) (K:=3) (E:=82) (b:=m) (n:=us.length) (f:=(bB us)) (x:=(.tmp 19)) (ix:=(.tmp 20)) (key:=.int .i64 (h)) (kl:=(.int .i64 h)) (n':=(us.length - 1)) (f':=(bB (del h us))) (ats:=#[78,3]) (fun _=>by kernel_rfl) (by kernel_rfl) (fun _=>by kernel_rfl) (fun _=>by kernel_rfl) rfl gU Tryz.underlying78 (mE hw) (by grind [bB]) (Mp) ?_
 refine NN (af.region (jK 6 [24,26] [] ?_))
 refine gL (args:=#[.iface 208 (.pointer (some ⟨t,3,none⟩)),.iface 3 (.int .i64 (h))]) (pre:=[.blk t [vI (most),vI (ar),.map (some m),.slice A (l.length) (c),vI (next)] 140,.abs (av 3 1 A l.length c (ints l))]) [1,3] (Ws h hT.ti.heap (by omega)) ?_
 rintro _ _ ⟨rfl,g,c',l2,hsm,hp2,rfl⟩
 refine NS (jK 4 [4,5] [] ?_)
 refine NN (af.ret ?_)
 have hld:=sF hT.ti.rise hk
 refine ai.eE [(3,.abs (bq Tryz.prog 3 m (bB (del h us)) ((del h us).length)))] (fun w hS=>by rw [show (del h us).length=us.length - 1 by omega];exact hS) ?_
 refine ai.mem (fun w hS=>Sat.nZ (l:=[.abs R]) ⟨m,some ⟨g,0,none⟩,c',l2,next⟩ (show iI (next) l2 ((del h us)) most (ar) from ⟨hT.ti.drop hk hsm hp2,by omega,hm1,hn1,hn2,Jv⟩) (hS.pick (idx:=[2,0,3,1]) (l':=[.abs R]++nY 140 t most (ar) ((del h us)) ⟨m,some ⟨g,0,none⟩,c',l2,next⟩) rfl rfl)) ?_
 exact RT _ [1,0] (⟨rfl,rfl⟩)
theorem LA {β:Bs} (t:Nat) (most ar:Int) (us:Used Value) (h:Int) (hw:(Lit.int .i64 h).wf=true) (hg:aq.get us h=none) :
    Spec Tryz.prog β 130 #[vP t,vI (h)] [.abs (dI 140 t most ar us)] (fun v l=>v=.tuple #[.nilIface,vI 131]/\l=[.abs (dI 140 t most ar us)]):=by
 refine SE Tryz.func130 Tryz.ntmps130 (fun R=>?_)
 refine SR (jK 2 [] [] ?_)
 refine NS (jK 2 [9,10] [] ?_)
 refine gL [0] (tO t most ar us h hw hg) ?_
 rintro _ _ ⟨rfl,rfl⟩
 refine jK 5 [6,7] [] ?_
 refine NN (af.seq (SR (jK 2 [15] [] ?_)))
 refine NN (CF (af.skip (NX (SR (jK 4 [4,5] [] ?_)))))
 refine NN (af.ret ?_)
 exact RT _ [0,1] (⟨rfl,rfl⟩)
theorem Jw {β:Bs} (t:Nat) (most ar:Int) (us:Used Value) :
    Spec Tryz.prog β 53 #[vP t] [.abs (dI 140 t most ar us)] (fun v l=>∃ A c,v=.slice A (keys us).length c/\l=[.abs (dI 140 t most ar us),.abs (av 3 1 A (keys us).length c (ints (keys us)))]):=by
 refine SE Tryz.func53 Tryz.ntmps53 (fun R=>?_)
 refine af.seq (af.Di (Φ:=fun x:TX=>iI x.next x.l us most ar) (hp:=fun x=>[.abs R]++nY 140 t most ar us x) (fun w hS=>(hS.pick (idx:=[1,0]) (l':=[.abs R]++[.abs (dI 140 t most ar us)]) rfl rfl).sG) (fun x hT=>?_))
 obtain⟨m,A,c,l,next⟩:=x
 replace hT:iI next l us most ar:=hT
 have hb:=hT.Jr
 have hm0:=hT.uO
 have hm1:=hT.uP
 have hn1:=hT.uQ
 have hn2:=hT.yH
 have Jv:=hT.wB
 have Ms:=hT.ti.count
 show af _ _ _ _ _ [.abs R,.blk t [vI (most),vI (ar),.map (some m),.slice A (l.length) (c),vI (next)] 140,.abs (bq Tryz.prog 3 m (bB us) us.length),.abs (av 3 1 A l.length c (ints l))] _
 refine af.region (jK 1 [] [] ?_)
 refine NS (jK 4 [6] [(3,a_ 1 t)] ?_)
 refine gL [] (Jt (some m)) ?_
 rintro _ _ ⟨bk,rfl,rfl⟩
 refine gL [3,0] (Ec m bk us.length (bB us) (by omega)) ?_
 rintro _ _ ⟨A2,c2,ss,rfl,hks,hsl,rfl⟩
 refine jK 1 [2] [] ?_
 refine NN (af.ret ?_)
 have hkk:=Mr hT.ti.rise hks
 refine ai.mem (fun w hS=>Sat.nZ (l:=[.abs R,.abs (av 3 1 A2 ss.length c2 (ints ss))]) ⟨m,A,c,l,next⟩ (show iI (next) l (us) most (ar) from hT) (hS.pick (idx:=[3,2,4,0,5]) (l':=[.abs R,.abs (av 3 1 A2 ss.length c2 (ints ss))]++nY 140 t most (ar) (us) ⟨m,A,c,l,next⟩) rfl rfl)) ?_
 exact RT (l:=[.abs (dI 140 t most ar us),.abs (av 3 1 A2 ss.length c2 (ints ss))]) (.slice A2 (ss.length) (c2)) [2,1,0] (⟨A2,c2,by rw [hkk],by rw [hkk]⟩)
end
section
open Go.RowKit Go.Maps aX aq
theorem Spec.uj {P:Program} {β:Bs} {f:FuncId} {args:Array Value} {pre R:List HP} {post:Value->List HP->Prop} (h:∀ β':Bs,nU β R β'->Spec P β' f args pre post):Spec P β f args (pre++R) (fun v l=>∃ l0,post v l0/\l=l0++R):=by
  intro A w hS
  have h1:=Sat.turn hS
  rw [← List.append_assoc] at h1
  obtain⟨β',g1,_,g3⟩:=h1.uj
  refine (h β' g1 A w (Sat.turn g3)).mono ?_
  rintro e w' ⟨v,l,h1,h2,h3⟩
  refine⟨v,l++R,h1,⟨l,h2,rfl⟩,?_⟩
  have h4:=g1.back (Sat.turn h3)
  rw [List.append_assoc] at h4
  exact Sat.turn h4
def bC (L:HL) (us:Used Th):Used Value:=us.map fun q=>(q.1,eT L q.2)
theorem iZ (L:HL) (us:Used Th) (h:Int):bB (bC L us) (.int .i64 h)=(aq.get us h).map (eT L):=get_map (eT L) us h
theorem Fy {L:HL} {us:Used Th} {h:Int}:om (bB (bC L us)) (.int .i64 h) none=bB (bC L (del h us)):=by
  rw [Mp]
  exact congrArg bB (Fw (eT L) h us).symm
theorem sH (L:HL) (us:Used Th):(bC L us).length=us.length:=List.length_map ..
theorem Dk (L:HL) (us:Used Th):keys (bC L us)=keys us:=keys_map (eT L) us
def pV (O:bZ) (k:Nat):bZ:=aD O k (fun o=>{ o with gone:=true })
def qD (O:bZ) (t:Th):Prop:=(obj O t.k).gone=true/\(obj O t.k).opens=0
instance (O:bZ) (t:Th):Decidable (qD O t):=inferInstanceAs (Decidable (_/\_))
def iB (O:bZ) (idx:Used Th) (t:Th):Used Th:=if qD O t then del (obj O t.k).id idx else idx
def mg (O:bZ) (used:Int) (t:Th):Int:=if qD O t then if t.kind=1 then used - (obj O t.k).data.length else used else used
abbrev pF (f m t:Nat) (X:FM):HP:=.blk f [.int .i64 X.cN,.int .i64 X.cB,.int .i64 X.cH,.int .i64 X.cS,.int .i64 X.cZ,.map (some m),.pointer (some ⟨t,0,none⟩),.int .i64 X.last,.int .i64 X.ah,.int .i64 X.used] 84
abbrev pI (m:Nat) (L:HL) (us:Used Th):HP:=.abs (bq Tryz.prog 3 m (bB (bC L us)) us.length)
abbrev pT (t:Nat) (most ar:Int) (L:HL) (us:Used Th):HP:=.abs (dI 140 t most ar (bC L us))
abbrev pO (O:bZ) (L:HL):HP:=.abs (aF (cJ O L))
abbrev pD (O:bZ) (L:HL):HP:=.abs (aF (bX O L))
abbrev pE (O:bZ) (L:HL):HP:=.abs (aF (dL O L))
end
section
open Go.RowKit Go.Maps aX aq
structure aL where
  X:FM
  O:bZ
  idx:Used Th
  us:Used Th
  ar:Int
abbrev pA (f m t:Nat) (L:HL) (S:aL):List HP:=[pF f m t S.X,pI m L S.idx,pT t S.X.cH S.ar L S.us,pO S.O L,pD S.O L,pE S.O L]
structure aH where
  op:Int
  handle:Int
  other:Int
  name:ByteArray
  text:ByteArray
  dA:Option Addr
  dC:Nat
  data:List UInt8
  mode:Int
  uid:Int
  gid:Int
  sec:Int
  nano:Int
  code:Int
  answer:Int
def aO (c:aH):List Value:=[.int .i64 c.op,.int .i64 c.handle,.int .i64 c.other,.string c.name,.string c.text,.slice c.dA c.data.length c.dC,.int .i64 c.mode,.int .i64 c.uid,.int .i64 c.gid,.int .i64 c.sec,.int .i64 c.nano,.int .i64 c.code,.int .i64 c.answer]
abbrev pC (cb:Nat) (c:aH):HP:=.blk cb (aO c) 53
abbrev c0 (c:aH):aH:={ c with answer:=0,code:=230 }
def aaG (L:HL):Except Int Nat->Value
  | .error e=>.tuple #[.pointer none,.int .i64 e]
  | .ok d=>.tuple #[.pointer (some ⟨L.b d,0,none⟩),.int .i64 0]
def aaH (L:HL):Except Int Th->Value
  | .error e=>.tuple #[.nilIface,.int .i64 e]
  | .ok t=>.tuple #[eT L t,.int .i64 0]
noncomputable section
def dF (O:bZ) (us:Used Th) (h:Int) (name:ByteArray) (need:Int):Except Int Nat:=
  match aq.get us h with
  | none=>.error 131
  | some t=>
    if t.kind=2 then
      if (obj O t.k).gone=true then .error 170
      else if bQ name then if bits BinOp.and .i64 (obj O t.k).mode need=need then .ok t.k else .error 175
      else .error 95
    else .error 173
def iQ (s:ByteArray):Int:=
  if s=⟨#[]⟩ then 90 else if s.size > 4096 then 93 else if pP s then 0 else 91
def Room (X:FM) (idx:Used Th):Prop:=(idx.length:Int) < X.cN/\X.last < 1099511627776/\X.ah < 8192
instance (X:FM) (idx:Used Th):Decidable (Room X idx):=inferInstanceAs (Decidable (_/\_/\_))
def dO (X:FM) (O:bZ) (idx:Used Th) (d:Nat) (name:ByteArray):Int:=
  if aM name (obj O d).ah=none then if Room X idx then 0 else 177 else 171
def cD (X:FM) (kind mode:Int):aN:=⟨X.last+1,mode,0,0,X.cS,X.cZ,0,0,false,kind,[],⟨#[]⟩,[],none⟩
def aK (X:FM):Nat:=(X.last+1).toNat
def fA (S:aL) (d:Nat) (name:ByteArray) (o:aN):aL:=
  { S with
    X:={ S.X with last:=S.X.last+1,ah:=S.X.ah+1 }
    O:=br S.X (aD S.O (aK S.X) (fun _=>o)) d name ⟨aK S.X,o.kind⟩
    idx:=ins (S.X.last+1) ⟨aK S.X,o.kind⟩ S.idx }
def aE (S:aL) (d:Nat) (name:ByteArray) (t:Th):aL:=
  { S with
    X:={ S.X with ah:=S.X.ah - 1,used:=if (obj (aG S.X S.O d name t) t.k).links=0 then mg (pV (aG S.X S.O d name t) t.k) S.X.used t else S.X.used }
    O:=if (obj (aG S.X S.O d name t) t.k).links=0 then pV (aG S.X S.O d name t) t.k else aG S.X S.O d name t
    idx:=if (obj (aG S.X S.O d name t) t.k).links=0 then iB (pV (aG S.X S.O d name t) t.k) S.idx t else S.idx }
theorem tP {S:aL} {d:Nat} {name:ByteArray} {t:Th} (h:(obj (aG S.X S.O d name t) t.k).links=0):aE S d name t={ S with X:={ S.X with ah:=S.X.ah - 1,used:=mg (pV (aG S.X S.O d name t) t.k) S.X.used t },O:=pV (aG S.X S.O d name t) t.k,idx:=iB (pV (aG S.X S.O d name t) t.k) S.idx t }:=by
  unfold aE
  simp only [if_pos h]
theorem tQ {S:aL} {d:Nat} {name:ByteArray} {t:Th} (h:¬ (obj (aG S.X S.O d name t) t.k).links=0):aE S d name t={ S with X:={ S.X with ah:=S.X.ah - 1 },O:=aG S.X S.O d name t }:=by
  unfold aE
  simp only [if_neg h]
def kx (S:aL) (d:Nat) (name:ByteArray) (mode:Int):Int×aL:=
  if dO S.X S.O S.idx d name=0 then (0,fA S d name (cD S.X 2 mode)) else (dO S.X S.O S.idx d name,S)
def ia (S:aL) (d:Nat) (name text:ByteArray):Int×aL:=
  if iQ text=0 then
    if dO S.X S.O S.idx d name=0 then (0,fA S d name { cD S.X 3 511 with target:=text }) else (dO S.X S.O S.idx d name,S)
  else (iQ text,S)
def fH (S:aL) (d:Nat) (name:ByteArray):Int×aL:=
  match aM name (obj S.O d).ah with
  | none=>(170,S)
  | some t=>if t.kind=2 then (172,S) else (0,aE S d name t)
def orphan (O:bZ) (k:Nat):bZ:=aD O k (fun o=>{ o with up:=none })
def fX (S:aL) (d:Nat) (name:ByteArray):Int×aL:=
  match aM name (obj S.O d).ah with
  | none=>(170,S)
  | some t=>if t.kind=2 then if (obj S.O t.k).ah=[] then (0,{ aE S d name t with O:=orphan (aE S d name t).O t.k }) else (178,S) else (173,S)
inductive ox (O:bZ) (sub:Nat):Nat->Prop
  | here:ox O sub sub
  | up {k j:Nat}:(obj O k).up=some j->ox O sub j->ox O sub k
instance (O:bZ) (sub k:Nat):Decidable (ox O sub k):=Classical.propDecidable _
def lM (S:aL) (d:Nat) (name:ByteArray) (to:Nat) (toName:ByteArray) (t:Th):aL:=
  { S with X:={ S.X with ah:=S.X.ah - 1+1 },O:=br S.X (aG S.X S.O d name t) to toName t }
def bG (S:aL) (d:Nat) (name:ByteArray) (to:Nat) (toName:ByteArray):Int×aL:=
  match aM name (obj S.O d).ah with
  | none=>(170,S)
  | some t=>
    if t.kind=2/\ox S.O t.k to then (174,S)
    else match aM toName (obj S.O to).ah with
      | none=>(0,lM S d name to toName t)
      | some o=>
        if o=t then (0,S) else if o.kind=2 then (172,S) else if t.kind=2 then (173,S)
        else (0,lM (aE S to toName o) d name to toName t)
def bR (X:FM) (n:Nat):Nat:=(min (n:Int) (X.cB - X.used)).toNat
def fS (S:aL) (k:Nat) (bs:List UInt8):Int×Int×aL:=
  if bs=[] then (0,0,S)
  else if S.X.cB - S.X.used<=0 then (0,176,S)
  else ((bR S.X bs.length:Int),0,{ S with
    X:={ S.X with used:=S.X.used+(bR S.X bs.length:Int) }
    O:=aD S.O k (fun o=>{ o with data:=o.data++bs.take (bR S.X bs.length),sec:=S.X.cS,nano:=S.X.cZ }) })
def cr (S:aL) (t:Th):Int×Int×aL:=
  (if (S.us.length:Int) < S.X.cH then least S.us else 0,if (S.us.length:Int) < S.X.cH then 0 else 130,{ S with
    O:=if (S.us.length:Int) < S.X.cH then aD S.O t.k (fun o=>{ o with opens:=o.opens+1 }) else S.O
    us:=if (S.us.length:Int) < S.X.cH then ins (least S.us) t S.us else S.us
    ar:=if (S.us.length:Int) < S.X.cH then max S.ar ((S.us.length:Int)+1) else S.ar })
theorem jE {S:aL} {t:Th} (h:(S.us.length:Int) < S.X.cH):cr S t=(least S.us,0,{ S with O:=aD S.O t.k (fun o=>{ o with opens:=o.opens+1 }),us:=ins (least S.us) t S.us,ar:=max S.ar ((S.us.length:Int)+1) }):=by
  unfold cr
  simp only [if_pos h]
theorem kV {S:aL} {t:Th} (h:¬ (S.us.length:Int) < S.X.cH):cr S t=(0,130,S):=by
  unfold cr
  simp only [if_neg h]
abbrev qp:=Int×aL×aH
def iq (S:aL) (c:aH):qp:=
  match aq.get S.idx c.other with
  | none=>(141,S,c)
  | some t=>if t.kind=2 then ((cr S t).2.1,(cr S t).2.2,{ c with answer:=(cr S t).1 }) else (173,S,c)
def fq (O:bZ) (us:Used Th) (c:aH):Except Int Th:=
  match dF O us c.handle c.name 64 with
  | .error e=>.error e
  | .ok d=>match aM c.name (obj O d).ah with
    | none=>.error 170
    | some t=>.ok t
def dG (S:aL) (c:aH):qp:=
  match fq S.O S.us c with
  | .error e=>(e,S,c)
  | .ok t=>if t.kind=3 then (174,S,c) else if t.kind=1 then (173,S,c) else ((cr S t).2.1,(cr S t).2.2,{ c with answer:=(cr S t).1 })
def dg (S:aL) (c:aH):qp:=
  match fq S.O S.us c with
  | .error e=>(e,S,c)
  | .ok t=>if t.kind=3 then (174,S,c) else if t.kind=2 then (172,S,c) else ((cr S t).2.1,(cr S t).2.2,{ c with answer:=(cr S t).1 })
def gA (m:Int):Prop:=0<=m/\m<=4095
instance (m:Int):Decidable (gA m):=inferInstanceAs (Decidable (_/\_))
def eZ (S:aL) (c:aH):qp:=
  match dF S.O S.us c.handle c.name 192 with
  | .error e=>(e,S,c)
  | .ok d=>if gA c.mode then ((kx S d c.name c.mode).1,(kx S d c.name c.mode).2,c) else (120,S,c)
def kG (S:aL) (d:Nat) (name:ByteArray) (mode:Int):Int×Int×aL:=
  if dO S.X S.O S.idx d name=0 then
    if (S.us.length:Int) < S.X.cH then
      (least S.us,0,fA { S with us:=ins (least S.us) ⟨aK S.X,1⟩ S.us,ar:=max S.ar ((S.us.length:Int)+1) } d name { cD S.X 1 mode with opens:=1 })
    else (0,130,S)
  else (0,dO S.X S.O S.idx d name,S)
def cM (S:aL) (c:aH):qp:=
  match dF S.O S.us c.handle c.name 192 with
  | .error e=>(e,S,c)
  | .ok d=>if gA c.mode then
      if dO S.X S.O S.idx d c.name=0 then ((kG S d c.name c.mode).2.1,(kG S d c.name c.mode).2.2,{ c with answer:=(kG S d c.name c.mode).1 })
      else (dO S.X S.O S.idx d c.name,S,c)
    else (120,S,c)
def dZ (S:aL) (c:aH):qp:=
  match dF S.O S.us c.handle c.name 192 with
  | .error e=>(e,S,c)
  | .ok d=>((ia S d c.name c.text).1,(ia S d c.name c.text).2,c)
def jP (S:aL) (d:Nat) (name:ByteArray) (to:Nat) (toName:ByteArray):Int×aL:=
  match aM name (obj S.O d).ah with
  | none=>(170,S)
  | some t=>if t.kind=2 then (172,S)
    else if aM toName (obj S.O to).ah=none then
      if S.X.ah < 8192 then (0,{ S with X:={ S.X with ah:=S.X.ah+1 },O:=br S.X S.O to toName t }) else (177,S)
    else (171,S)
def bT (S:aL) (c:aH):qp:=
  match dF S.O S.us c.handle c.name 64 with
  | .error e=>(e,S,c)
  | .ok d=>match dF S.O S.us c.other c.text 192 with
    | .error e=>(e,S,c)
    | .ok to=>((jP S d c.name to c.text).1,(jP S d c.name to c.text).2,c)
def fI (S:aL) (c:aH):qp:=
  match dF S.O S.us c.handle c.name 192 with
  | .error e=>(e,S,c)
  | .ok d=>((fH S d c.name).1,(fH S d c.name).2,c)
def gD (S:aL) (c:aH):qp:=
  match dF S.O S.us c.handle c.name 192 with
  | .error e=>(e,S,c)
  | .ok d=>((fX S d c.name).1,(fX S d c.name).2,c)
def eO (S:aL) (c:aH):qp:=
  match dF S.O S.us c.handle c.name 192 with
  | .error e=>(e,S,c)
  | .ok d=>match dF S.O S.us c.other c.text 192 with
    | .error e=>(e,S,c)
    | .ok to=>((bG S d c.name to c.text).1,(bG S d c.name to c.text).2,c)
def dU (S:aL) (c:aH):qp:=
  match aq.get S.us c.handle with
  | none=>(131,S,c)
  | some t=>if t.kind=1 then ((fS S t.k c.data).2.1,(fS S t.k c.data).2.2,{ c with answer:=(fS S t.k c.data).1 }) else (172,S,c)
def mh (m:Int):Prop:=0<=m/\m<=2147483647
instance (m:Int):Decidable (mh m):=inferInstanceAs (Decidable (_/\_))
def bw (S:aL) (c:aH):qp:=
  match aq.get S.us c.handle with
  | none=>(131,S,c)
  | some t=>
    if (obj S.O t.k).gone=true/\t.kind=2 then (170,S,c)
    else if gA c.mode then
      if mh c.uid/\mh c.gid then
        if dw c.sec c.nano then (0,{ S with O:=aD S.O t.k (fun o=>{ o with mode:=c.mode,uid:=c.uid,gid:=c.gid,sec:=c.sec,nano:=c.nano }) },c)
        else (20,S,c)
      else (11,S,c)
    else (120,S,c)
def kR (O:bZ) (c:aH):Option Th->aH
  | none=>{ c with other:=0,mode:=0,uid:=0,gid:=0,sec:=0,nano:=0 }
  | some t=>{ c with answer:=(obj O t.k).id,other:=t.kind,mode:=(obj O t.k).mode,uid:=(obj O t.k).uid,gid:=(obj O t.k).gid,sec:=(obj O t.k).sec,nano:=(obj O t.k).nano }
def jS (S:aL) (c:aH):qp:=
  match aq.get S.us c.handle with
  | none=>(131,S,kR S.O c none)
  | some t=>(0,S,kR S.O c (some t))
def fL (S:aL) (c:aH):qp:=
  match fq S.O S.us c with
  | .error e=>(e,S,kR S.O c none)
  | .ok t=>(0,S,kR S.O c (some t))
def qq (O:bZ) (k:Nat):bZ:=aD O k (fun o=>{ o with opens:=o.opens - 1 })
def fY (S:aL) (c:aH):qp:=
  match aq.get S.us c.handle with
  | none=>(131,S,c)
  | some t=>(0,{ S with
      X:={ S.X with used:=mg (qq S.O t.k) S.X.used t }
      O:=qq S.O t.k
      idx:=iB (qq S.O t.k) S.idx t
      us:=del c.handle S.us },c)
def eU (S:aL) (c:aH):qp:=
  if c.op=1 then iq S c else if c.op=2 then dG S c else if c.op=3 then dg S c else if c.op=4 then eZ S c
  else if c.op=5 then cM S c else if c.op=6 then dZ S c else if c.op=7 then bT S c else if c.op=8 then fI S c
  else if c.op=9 then dU S c else if c.op=10 then bw S c else if c.op=11 then jS S c else if c.op=12 then fL S c
  else if c.op=13 then fY S c else if c.op=14 then gD S c else if c.op=15 then eO S c else (230,S,c)
def iD (S:aL) (c:aH):aL×aH:=
  ((eU S { c with answer:=0,code:=230 }).2.1,{ (eU S { c with answer:=0,code:=230 }).2.2 with code:=(eU S { c with answer:=0,code:=230 }).1 })
end
end
section
open Go.RowKit Go.Maps aX aq
section sums
variable {V:Type} {g g':Int×V->Nat} {us:Used V} {h:Int} {v:V}
def dP (g:Int×V->Nat):Used V->Nat
  | []=>0
  | p::r=>g p+dP g r
theorem Dl:dP g (ins h v us)=g (h,v)+dP g us:=by
  induction us with
  | nil=>rfl
  | cons p r ih=>
    grind [ins,dP]
theorem iJ (hc:∀ p∈us,g' p=g p):dP g' us=dP g us:=by
  induction us with
  | nil=>rfl
  | cons p r ih=>
    grind [dP]
theorem Mt (hc:∀ p∈us,g' p<=g p):dP g' us<=dP g us:=by
  induction us with
  | nil=>exact Nat.le_refl _
  | cons p r ih=>
    grind [dP]
theorem vG {p:Int×V} {r:Used V}:aq.get (p::r) h=if p.1=h then some p.2 else aq.get r h:=by
  unfold aq.get
  grind
theorem get_mem {us:Used V} (e:aq.get us h=some v):(h,v)∈us:=by
  induction us with
  | nil=>cases e
  | cons p r ih=>
    grind [vG]
theorem kH {us:Used V} (hr:aq.bH (keys us)) (e:(h,v)∈us):aq.get us h=some v:=by
  induction us with
  | nil=>cases e
  | cons p r ih=>
    rw [keys_cons] at hr
    obtain⟨h1,h2⟩:=List.pairwise_cons.1 hr
    rw [vG]
    rcases List.mem_cons.1 e with e|e
    ·subst e;rw [if_pos rfl]
    have:p.1 < h:=h1 h (List.mem_map.2 ⟨(h,v),e,rfl⟩)
    rw [if_neg (by omega)]
    exact ih h2 e
theorem oA (e:aq.get us h=some v):g (h,v)<=dP g us:=by
  have hm:=get_mem e
  induction us with
  | nil=>cases hm
  | cons p r ih=>
    grind [dP,vG]
theorem Dm (hr:aq.bH (keys us)) (e:aq.get us h=some v) (hc:∀ p∈us,p.1≠h->g' p=g p):dP g' us+g (h,v)=dP g us+g' (h,v):=by
  induction us with
  | nil=>cases e
  | cons p r ih=>
    rw [keys_cons] at hr
    obtain⟨h1,h2⟩:=List.pairwise_cons.1 hr
    rw [vG] at e
    show g' p+dP g' r+_=g p+dP g r+_
    split at e
    ·rename_i e2
     cases e
     have e3:dP g' r=dP g r:=iJ (fun q hq=>hc q (List.mem_cons_of_mem _ hq) (by
       have:=h1 q.1 (List.mem_map.2 ⟨q,hq,rfl⟩);omega))
     grind
    rename_i e2
    have:=ih h2 e (fun q hq=>hc q (List.mem_cons_of_mem _ hq))
    have:=hc p (List.mem_cons_self ..) e2
    omega
theorem Ta {p:Int×V} {r:Used V}:del h (p::r)=if p.1=h then del h r else p::del h r:=by
  grind [del]
theorem Wt {us:Used V} (hn:h∉keys us):del h us=us:=by
  unfold del
  refine List.filter_eq_self.2 (fun p hp=>?_)
  grind [keys,del]
theorem Dn (hr:aq.bH (keys us)) (e:aq.get us h=some v):dP g (del h us)+g (h,v)=dP g us:=by
  induction us with
  | nil=>cases e
  | cons p r ih=>
    rw [keys_cons] at hr
    obtain⟨h1,h2⟩:=List.pairwise_cons.1 hr
    rw [vG] at e
    rw [Ta]
    show _=g p+dP g r
    split at e
    ·grind [Wt]
    rename_i e2
    rw [if_neg e2]
    show g p+dP g (del h r)+_=_
    have:=ih h2 e
    omega
theorem Jx {us:Used V} (hr:aq.bH (keys us)):aq.bH (keys (del h us)):=by
  rw [qI]
  exact List.Pairwise.filter _ hr
end sums
section aaI
variable {n:ByteArray} {t:Th} {es:fB Th} {q:ByteArray×Th->Bool}
theorem P0:(gV n t es).countP q=es.countP q+if q (n,t) then 1 else 0:=by
  induction es with
  | nil=>simp [gV,List.countP_cons]
  | cons e r ih=>
    grind [gV]
theorem P4 {es:fB Th} (hd:lW es) (h:aM n es=some t):(gZ n es).countP q+(if q (n,t) then 1 else 0)=es.countP q:=by
  induction es with
  | nil=>cases h
  | cons e r ih=>
    obtain⟨h1,h2⟩:=List.pairwise_cons.1 hd
    rw [l6] at h
    rw [List.countP_cons]
    by_cases he:e.1=n
    ·rw [if_pos he] at h
     have e1:gZ n (e::r)=r:=by
       unfold gZ
       rw [List.filter_cons,if_neg (by simp [he])]
       exact List.filter_eq_self.2 (fun x hx=>by have:=h1 x hx;simp;exact fun e2=>this (he.trans e2.symm))
     grind
    grind [gZ,lW,aM]
theorem Jy {e:ByteArray×Th} {es:fB Th} (h:e∈gZ n es):e∈es/\e.1≠n:=by
  grind [gZ]
theorem vH {es:fB Th} (hd:lW es) (h:(n,t)∈es):aM n es=some t:=by
  induction es with
  | nil=>cases h
  | cons e r ih=>
    obtain⟨h1,h2⟩:=List.pairwise_cons.1 hd
    grind [l6,lW,aM]
end aaI
def Live (idx:Used Th) (t:Th):Prop:=aq.get idx (t.k:Int)=some t
def lN (es:fB Th):Prop:=es.Pairwise (fun a b=>¬ eG b.1 a.1)
def jx (idx:Used Th) (O:bZ) (k:Nat):Nat:=dP (fun p=>(obj O p.2.k).ah.countP (fun e=>decide (e.2.k=k))) idx
def tot (idx:Used Th) (O:bZ):Nat:=dP (fun p=>(obj O p.2.k).ah.length) idx
def bytes (idx:Used Th) (O:bZ):Nat:=dP (fun p=>(obj O p.2.k).data.length) idx
def hnd (us:Used Th) (k:Nat):Nat:=dP (fun p=>if p.2.k=k then 1 else 0) us
structure nw (o:aN):Prop where
  mode:0<=o.mode/\o.mode<=4095
  uid:0<=o.uid/\o.uid<=2147483647
  gid:0<=o.gid/\o.gid<=2147483647
  time:dw o.sec o.nano
  data:o.kind≠1->o.data=[]
  ah:o.kind≠2->o.ah=[]
  target:bW o.kind o.target
structure Inv0 (S:aL):Prop where
  cN:0<=S.X.cN/\S.X.cN<=4096
  cB:0<=S.X.cB/\S.X.cB<=1099511627776
  cH:0<=S.X.cH/\S.X.cH<=1024
  now:dw S.X.cS S.X.cZ
  last:0<=S.X.last/\S.X.last<=1099511627776
  rise:aq.bH (keys S.idx)
  len:S.idx.length<=4096
  idx:∀ i t,aq.get S.idx i=some t->i=(t.k:Int)/\0 < i/\i<=S.X.last
  ob:∀ t,Live S.idx t->(obj S.O t.k).id=(t.k:Int)/\(obj S.O t.k).kind=t.kind/\(t.kind=1\/t.kind=2\/t.kind=3)
  mt:∀ t,Live S.idx t->nw (obj S.O t.k)
  ah:∀ t,Live S.idx t->∀ e∈(obj S.O t.k).ah,bQ e.1/\Live S.idx e.2
  sorted:∀ t,Live S.idx t->lN (obj S.O t.k).ah
  dead:∀ k,(∀ t,Live S.idx t->t.k≠k)->(obj S.O k).ah=[]/\(obj S.O k).up=none
  uR:∀ k:Nat,S.X.last < (k:Int)->(obj S.O k).kind=0
  total:S.X.ah=(tot S.idx S.O:Int)/\S.X.ah<=8192
  links:∀ t,Live S.idx t->(obj S.O t.k).links=(jx S.idx S.O t.k:Int)
  once:∀ t,Live S.idx t->t.kind=2->(obj S.O t.k).links<=1
  opens:∀ t,Live S.idx t->(obj S.O t.k).opens=(hnd S.us t.k:Int)
  usr:aq.bH (keys S.us)
  tR:∀ x∈keys S.us,1<=x/\x<=S.ar
  Az:(S.us.length:Int)<=S.X.cH
  ar:0<=S.ar/\S.ar<=S.X.cH
  us:∀ h t,aq.get S.us h=some t->Live S.idx t/\t.kind≠3
  gone:∀ t,Live S.idx t->(obj S.O t.k).gone=true->(obj S.O t.k).links=0/\(obj S.O t.k).ah=[]
  up:∀ t,Live S.idx t->∀ d,(obj S.O t.k).up=some d↔t.kind=2/\Live S.idx ⟨d,2⟩/\∃ n,aM n (obj S.O d).ah=some t
  deep:∃ dp:Nat->Nat,∀ k d,(obj S.O k).up=some d->dp d < dp k
  used:S.X.used=(bytes S.idx S.O:Int)/\S.X.used<=140737488355328
structure Inv (S:aL):Prop extends Inv0 S where
  full:∀ t,Live S.idx t->(obj S.O t.k).gone=true->0 < (obj S.O t.k).opens
end
section
open Go.RowKit Go.Maps aX aq
section at_
variable {X:FM} {O:bZ} {d k:Nat} {name:ByteArray} {t:Th}
theorem iE (h:t.k≠d):obj (aG X O d name t) k=if k=d then { obj O d with ah:=gZ name (obj O d).ah,sec:=X.cS,nano:=X.cZ } else if k=t.k then { obj O k with links:=(obj O k).links - 1 } else obj O k:=by
  grind [aG,tN,fC,cV]
theorem oZ (h:t.k≠d):obj (br X O d name t) k=if k=d then { obj O d with ah:=gV name t (obj O d).ah,sec:=X.cS,nano:=X.cZ } else if k=t.k then { obj O k with links:=(obj O k).links+1,up:=if t.kind=2 then some d else (obj O k).up } else obj O k:=by
  grind [br,tN,qH,cV,fC]
end at_
section counts
variable {idx:Used Th} {O O':bZ} {d k:Nat} {n:ByteArray} {t:Th}
theorem Jz {q:ByteArray×Th->Bool} (hr:aq.bH (keys idx)) (hd:aq.get idx (d:Int)=some ⟨d,2⟩) (hk:∀ i u,aq.get idx i=some u->i=(u.k:Int)) (ho:∀ x,x≠d->(obj O' x).ah=(obj O x).ah) (h1:(obj O' d).ah=gZ n (obj O d).ah) (h2:lW (obj O d).ah) (h3:aM n (obj O d).ah=some t) :
    dP (fun p=>(obj O' p.2.k).ah.countP q) idx+(if q (n,t) then 1 else 0)=dP (fun p=>(obj O p.2.k).ah.countP q) idx:=by
  grind [Dm,obj,kH,P4,gZ,dP]
theorem Tb {q:ByteArray×Th->Bool} (hr:aq.bH (keys idx)) (hd:aq.get idx (d:Int)=some ⟨d,2⟩) (hk:∀ i u,aq.get idx i=some u->i=(u.k:Int)) (ho:∀ x,x≠d->(obj O' x).ah=(obj O x).ah) (h1:(obj O' d).ah=gV n t (obj O d).ah) :
    dP (fun p=>(obj O' p.2.k).ah.countP q) idx=dP (fun p=>(obj O p.2.k).ah.countP q) idx+(if q (n,t) then 1 else 0):=by
  grind [Dm,obj,kH,P0,gV,dP]
theorem tS:tot idx O=dP (fun p=>(obj O p.2.k).ah.countP (fun _=>true)) idx:=iJ (fun p _=>by simp)
theorem P5 {q:ByteArray×Th->Bool} (ho:∀ x,(obj O' x).ah=(obj O x).ah):dP (fun p=>(obj O' p.2.k).ah.countP q) idx=dP (fun p=>(obj O p.2.k).ah.countP q) idx:=iJ (fun p _=>by rw [ho])
theorem P6:jx idx O k<=tot idx O:=by
  rw [tS]
  exact Mt (fun p _=>List.countP_mono_left (fun _ _ _=>rfl))
theorem ny (hd:aq.get idx (d:Int)=some ⟨d,2⟩) (h:aM n (obj O d).ah=some t):0 < jx idx O t.k:=by
  refine Nat.lt_of_lt_of_le ?_ (oA (g:=fun p=>(obj O p.2.k).ah.countP (fun e=>decide (e.2.k=t.k))) hd)
  exact List.countP_pos_iff.2 ⟨(n,t),nN h,by simp⟩
theorem Ed (hr:aq.bH (keys idx)) (h:0 < jx idx O k):∃ i u,aq.get idx i=some u/\∃ e∈(obj O u.k).ah,e.2.k=k:=by
  apply Classical.byContradiction
  intro hn
  have:jx idx O k=dP (fun _=>0) idx:=iJ (fun p hp=>by
    show List.countP _ _=0
    rw [List.countP_eq_zero]
    intro e he hk
    exact hn ⟨p.1,p.2,kH hr hp,e,he,by simpa using hk⟩)
  have h0:∀ us:Used Th,dP (fun _=>0) us=0:=fun us=>by
    induction us with
    | nil=>rfl
    | cons p r ih=>show 0+_=0;rw [ih]
  rw [this,h0] at h
  omega
end counts
end
section
open Go.RowKit Go.Maps aX aq
section inv
variable {S:aL} {d k:Nat} {name:ByteArray} {t u:Th}
theorem Inv0.key (h:Inv0 S) {i:Int} (e:aq.get S.idx i=some t):i=(t.k:Int):=(h.idx i t e).1
theorem Inv0.live (h:Inv0 S) {i:Int} (e:aq.get S.idx i=some t):Live S.idx t:=by
  have:=h.key e
  subst this
  exact e
theorem fQ {idx:Used Th} (h1:Live idx t) (h2:Live idx u) (e:t.k=u.k):t=u:=by
  grind [Live]
theorem Inv0.kind (h:Inv0 S) (hl:Live S.idx t):(obj S.O t.k).kind=t.kind:=(h.ob t hl).2.1
theorem NI {x:ByteArray}:eG x x:=by unfold eG;simp
theorem lN.twice {es:fB Th} (h:lN es):lW es:=List.Pairwise.imp (fun {a b} hab e=>hab (by rw [e];exact NI)) h
theorem Inv0.twice (h:Inv0 S) (hl:Live S.idx t):lW (obj S.O t.k).ah:=(h.sorted t hl).twice
theorem Inv0.ent (h:Inv0 S) (hd:Live S.idx u) (hl:aM name (obj S.O u.k).ah=some t):bQ name/\Live S.idx t:=h.ah u hd _ (nN hl)
theorem Inv0.ne (h:Inv0 S) (hd:Live S.idx ⟨d,2⟩) (hl:aM name (obj S.O d).ah=some t):t.k≠d:=fun e=>by
  have h1:=(h.ent hd hl).2
  have h2:t=⟨d,2⟩:=fQ h1 hd e
  subst h2
  have h3:=(h.up _ hd d).2 ⟨rfl,hd,name,hl⟩
  obtain⟨dp,hdp⟩:=h.deep
  have:dp d < dp d:=hdp _ _ h3
  omega
theorem Inv0.free (h:Inv0 S) (hk:S.X.last < (k:Int)) (hl:Live S.idx t):t.k≠k:=fun e=>by
  have:=(h.idx _ t hl).2.2
  subst e
  omega
theorem nw.of {o o':aN} (h:nw o) (e1:o'.mode=o.mode) (e2:o'.uid=o.uid) (e3:o'.gid=o.gid) (e4:dw o'.sec o'.nano) (e5:o'.kind=o.kind) (e6:o'.data=o.data\/o.kind=1) (e7:o'.ah=o.ah\/o.kind=2) (e8:o'.target=o.target):nw o':=
  ⟨e1 ▸ h.mode,e2 ▸ h.uid,e3 ▸ h.gid,e4,fun hk=>by
    rw [e5] at hk
    rcases e6 with e|e
    ·rw [e];exact h.data hk
    ·exact absurd e hk,fun hk=>by
    rw [e5] at hk
    rcases e7 with e|e
    ·rw [e];exact h.ah hk
    exact absurd e hk,by rw [e5,e8];exact h.target⟩
theorem Inv0.own (h:Inv0 S) {f:aN->aN} {oH iK:Int} {us':Used Th} (f1:∀ o,(f o).id=o.id) (f2:∀ o,(f o).kind=o.kind) (f3:∀ o,(f o).ah=o.ah) (f4:∀ o,(f o).up=o.up) (f5:∀ o,(f o).links=o.links) (f6:∀ o,(f o).gone=o.gone)
    (hm:∀ t,Live S.idx t->t.k=k->nw (f (obj S.O k))) (ho:∀ t,Live S.idx t->(obj (aD S.O k f) t.k).opens=(hnd us' t.k:Int))
    (u1:aq.bH (keys us')) (u2:∀ x∈keys us',1<=x/\x<=iK) (u3:(us'.length:Int)<=S.X.cH) (u4:0<=iK/\iK<=S.X.cH) (u5:∀ h t,aq.get us' h=some t->Live S.idx t/\t.kind≠3)
    (hu:oH=(bytes S.idx (aD S.O k f):Int)/\oH<=140737488355328):Inv0 { S with X:={ S.X with used:=oH },O:=aD S.O k f,us:=us',ar:=iK }:=by
  have g1:∀ x,(obj (aD S.O k f) x).id=(obj S.O x).id:=fun x=>cu (g:=aN.id) f1
  have g2:∀ x,(obj (aD S.O k f) x).kind=(obj S.O x).kind:=fun x=>cu (g:=aN.kind) f2
  have g3:∀ x,(obj (aD S.O k f) x).ah=(obj S.O x).ah:=fun x=>cu (g:=aN.ah) f3
  have g4:∀ x,(obj (aD S.O k f) x).up=(obj S.O x).up:=fun x=>cu (g:=aN.up) f4
  have g5:∀ x,(obj (aD S.O k f) x).links=(obj S.O x).links:=fun x=>cu (g:=aN.links) f5
  have g6:∀ x,(obj (aD S.O k f) x).gone=(obj S.O x).gone:=fun x=>cu (g:=aN.gone) f6
  refine { h with ob:=fun t hl=>?_,mt:=fun t hl=>?_,ah:=fun t hl=>?_,sorted:=fun t hl=>?_,dead:=fun x hx=>?_,uR:=fun x hx=>by rw [g2];exact h.uR x hx,total:=?_,links:=fun t hl=>?_,once:=fun t hl=>?_,opens:=ho,usr:=u1,tR:=u2,Az:=u3,ar:=u4,us:=u5,gone:=fun t hl=>?_,up:=fun t hl e=>?_,deep:=?_,used:=hu }
  ·rw [g1,g2];exact h.ob t hl
  ·show nw (obj (aD S.O k f) t.k)
   by_cases e:t.k=k
   ·rw [e,cV];exact hm t hl e
   rw [fC e];exact h.mt t hl
  ·rw [g3];exact h.ah t hl
  ·rw [g3];exact h.sorted t hl
  ·rw [g3,g4];exact h.dead x hx
  ·have:tot S.idx (aD S.O k f)=tot S.idx S.O:=iJ (fun p _=>by rw [g3])
   show S.X.ah=(tot S.idx (aD S.O k f):Int)/\_
   rw [this];exact h.total
  ·show (obj (aD S.O k f) t.k).links=(jx S.idx (aD S.O k f) t.k:Int)
   have:jx S.idx (aD S.O k f) t.k=jx S.idx S.O t.k:=P5 g3
   rw [g5,this];exact h.links t hl
  ·rw [g5];exact h.once t hl
  ·rw [g6,g5,g3];exact h.gone t hl
  ·grind [obj,aD,up,Live,aM]
  obtain⟨dp,hdp⟩:=h.deep
  exact⟨dp,fun x e he=>hdp x e (by rw [g4] at he;exact he)⟩
def uS (S:aL) (t:Th):aL:={ S with X:={ S.X with used:=mg S.O S.X.used t },idx:=iB S.O S.idx t }
theorem Inv0.uS (h:Inv0 S) (ht:Live S.idx t) (hf:∀ u,Live S.idx u->u≠t->(obj S.O u.k).gone=true->0 < (obj S.O u.k).opens):Inv (Proofs.YtnipofpbcggjcaaGreat.uS S t):=by
  by_cases hF:qD S.O t
  ·have e1:Proofs.YtnipofpbcggjcaaGreat.uS S t={ S with X:={ S.X with used:=S.X.used - (obj S.O t.k).data.length },idx:=del (t.k:Int) S.idx }:=by
     unfold Proofs.YtnipofpbcggjcaaGreat.uS mg iB
     rw [if_pos hF,if_pos hF,(h.ob t ht).1]
     split
     ·rfl
     rename_i e
     have:=(h.mt t ht).data (by rw [h.kind ht];exact e)
     rw [this]
     simp
   rw [e1]
   obtain⟨hg,hop⟩:=hF
   obtain⟨hlk,hen⟩:=h.gone t ht hg
   have gY:∀ x,Live (del (t.k:Int) S.idx) x↔Live S.idx x/\x.k≠t.k:=fun x=>by
     grind [Live,uY]
   have hl0:jx S.idx S.O t.k=0:=by have:=h.links t ht;omega
   have hne:∀ x,Live S.idx x->∀ e∈(obj S.O x.k).ah,e.2.k≠t.k:=fun x hx e he hk=>by
     have:0 < jx S.idx S.O t.k:=Nat.lt_of_lt_of_le (List.countP_pos_iff.2 ⟨e,he,by simpa using hk⟩) (oA (g:=fun p=>(obj S.O p.2.k).ah.countP (fun e=>decide (e.2.k=t.k))) hx)
     omega
   have hsum:∀ q:ByteArray×Th->Bool,dP (fun p=>(obj S.O p.2.k).ah.countP q) (del (t.k:Int) S.idx)=dP (fun p=>(obj S.O p.2.k).ah.countP q) S.idx:=fun q=>by
     have h1:=Dn (g:=fun p:Int×Th=>(obj S.O p.2.k).ah.countP q) h.rise ht
     grind
   refine { h with rise:=Jx h.rise,len:=?_,idx:=fun i x e=>?_,ob:=fun x hx=>h.ob x ((gY x).1 hx).1,mt:=fun x hx=>h.mt x ((gY x).1 hx).1,ah:=fun x hx e he=>?_,sorted:=fun x hx=>h.sorted x ((gY x).1 hx).1,dead:=fun x hx=>?_,total:=?_,links:=fun x hx=>?_,once:=fun x hx=>h.once x ((gY x).1 hx).1,opens:=fun x hx=>h.opens x ((gY x).1 hx).1,us:=fun i x e=>?_,gone:=fun x hx=>h.gone x ((gY x).1 hx).1,up:=fun x hx e=>?_,used:=?_,full:=fun x hx hg=>hf x ((gY x).1 hx).1 (fun e=>((gY x).1 hx).2 (by rw [e])) hg }
   ·have h1:=sF h.rise (get_some ht)
    have h2:=h.len
    show (del (t.k:Int) S.idx).length<=4096
    omega
   ·have e:aq.get (del (t.k:Int) S.idx) i=some x:=e
    rw [uY] at e
    split at e
    ·cases e
    exact h.idx i x e
   ·have hx':=((gY x).1 hx).1
    have h1:=h.ah x hx' e he
    exact⟨h1.1,(gY _).2 ⟨h1.2,hne x hx' e he⟩⟩
   ·by_cases e:x=t.k
    ·subst e
     refine⟨hen,?_⟩
     cases hu:(obj S.O t.k).up with
     | none=>rfl
     | some y=>
       obtain⟨_,h2,n,h3⟩:=(h.up t ht y).1 hu
       exact absurd rfl (hne _ h2 _ (nN h3))
    exact h.dead x (fun y hy e2=>hx y ((gY y).2 ⟨hy,fun e3=>e (e2.symm.trans e3)⟩) e2)
   ·show S.X.ah=(tot (del (t.k:Int) S.idx) S.O:Int)/\_
    rw [tS,hsum,← tS];exact h.total
   ·show _=(jx (del (t.k:Int) S.idx) S.O x.k:Int)
    have:jx (del (t.k:Int) S.idx) S.O x.k=jx S.idx S.O x.k:=hsum _
    rw [this];exact h.links x ((gY x).1 hx).1
   ·obtain⟨h1,h2⟩:=h.us i x e
    refine⟨(gY x).2 ⟨h1,fun e2=>?_⟩,h2⟩
    have h3:=h.opens t ht
    have h4:0 < hnd S.us t.k:=Nat.lt_of_lt_of_le (by simp [e2]) (oA (g:=fun p:Int×Th=>if p.2.k=t.k then 1 else 0) e)
    omega
   ·rw [h.up x ((gY x).1 hx).1 e]
    constructor
    ·rintro⟨h1,h2,n,h3⟩
     refine⟨h1,(gY _).2 ⟨h2,fun e2=>?_⟩,n,h3⟩
     have e2:e=t.k:=e2
     rw [e2,hen] at h3;cases h3
    grind
   obtain⟨h1,h2⟩:=h.used
   have h3:dP (fun p:Int×Th=>(obj S.O p.2.k).data.length) (del (t.k:Int) S.idx)+(obj S.O t.k).data.length=dP (fun p:Int×Th=>(obj S.O p.2.k).data.length) S.idx:=Dn (g:=fun p:Int×Th=>(obj S.O p.2.k).data.length) h.rise ht
   grind [obj,bytes,del]
  have e1:Proofs.YtnipofpbcggjcaaGreat.uS S t=S:=by
    unfold Proofs.YtnipofpbcggjcaaGreat.uS mg iB
    rw [if_neg hF,if_neg hF]
  rw [e1]
  refine { h with full:=fun u hu hg=>?_ }
  by_cases e:u=t
  ·subst e
   have h1:=h.opens u hu
   have:¬ (obj S.O u.k).opens=0:=fun e=>hF ⟨hg,e⟩
   omega
  exact hf u hu e hg
end inv
end
section
open Go.RowKit Go.Maps aX aq
section facts
variable {S:aL} {X:FM} {O:bZ} {d k:Nat} {name:ByteArray} {t u:Th}
theorem cE {α:Type} {g:aN->α} (h1:∀ o es,g { o with ah:=es }=g o) (h2:∀ o l,g { o with links:=l }=g o) (h3:∀ o a b,g { o with sec:=a,nano:=b }=g o):g (obj (aG X O d name t) k)=g (obj O k):=by
  unfold aG tN
  rw [cu (fun o=>h2 o _),cu (fun o=>h3 o _ _),cu (fun o=>h1 o _)]
theorem ji {α:Type} {g:aN->α} (h1:∀ o es,g { o with ah:=es }=g o) (h2:∀ o l,g { o with links:=l }=g o) (h3:∀ o a b,g { o with sec:=a,nano:=b }=g o) (h4:∀ o u,g { o with up:=u }=g o):g (obj (br X O d name t) k)=g (obj O k):=by
  unfold br tN
  rw [cu (fun o=>h3 o _ _),Dh h1 h2 h4]
theorem Inv0.hX (h:Inv0 S):0<=S.X.ah/\S.X.ah<=1048576/\-1125899906842624<=S.X.used/\S.X.used<=1125899906842624/\0<=S.X.last/\S.X.last<=1125899906842624:=by
  have:=h.total;have:=h.used;have:=h.last
  omega
theorem Inv0.jg (h:Inv0 S) (hl:Live S.idx t):(obj S.O t.k).ah.length<=8192:=by
  have h1:=h.total
  have h2:(obj S.O t.k).ah.length<=tot S.idx S.O:=oA (g:=fun p:Int×Th=>(obj S.O p.2.k).ah.length) hl
  omega
theorem Inv0.lb (h:Inv0 S) (hl:Live S.idx t):0<=(obj S.O t.k).links/\(obj S.O t.k).links<=8192:=by
  have h1:=h.total
  have h2:=h.links t hl
  grind [jx,tot,P6]
theorem XH {us:Used Th}:hnd us k<=us.length:=by
  have:hnd us k<=dP (fun _=>1) us:=Mt (fun p _=>by split<;>omega)
  have h2:∀ us:Used Th,dP (fun _=>1) us=us.length:=fun us=>by
    induction us with
    | nil=>rfl
    | cons p r ih=>show 1+_=_;rw [ih,List.length_cons];omega
  rw [h2] at this;exact this
theorem Inv0.GR (h:Inv0 S) (hl:Live S.idx t):0<=(obj S.O t.k).opens/\(obj S.O t.k).opens<=1024:=by
  have h1:=h.opens t hl
  have h2:hnd S.us t.k<=S.us.length:=XH
  have:=h.Az;have:=h.cH
  omega
theorem Inv0.JA (h:Inv0 S) (hl:Live S.idx t):(obj S.O t.k).data.length<=1125899906842624:=by
  have h1:=h.used
  have h2:(obj S.O t.k).data.length<=bytes S.idx S.O:=oA (g:=fun p:Int×Th=>(obj S.O p.2.k).data.length) hl
  omega
theorem Inv0.NJ (h:Inv0 S) (hl:Live S.idx t):(obj S.O t.k).data.length<=140737488355328:=by
  have h1:=h.used
  have h2:(obj S.O t.k).data.length<=bytes S.idx S.O:=oA (g:=fun p:Int×Th=>(obj S.O p.2.k).data.length) hl
  omega
theorem Inv0.P7 (h:Inv0 S) (hl:Live S.idx t):(Lit.int .i64 (obj S.O t.k).id).wf=true:=by
  have h1:=h.ob t hl
  have h2:=h.idx _ t hl
  have h3:=h.last
  exact WalkArith.wf_i64 (by omega)
theorem Inv0.qE (h:Inv0 S) (hd:Live S.idx ⟨d,2⟩) (name:ByteArray):aM name (obj S.O d).ah=none\/(∃ k,aM name (obj S.O d).ah=some ⟨k,1⟩/\Live S.idx ⟨k,1⟩)\/(∃ k,aM name (obj S.O d).ah=some ⟨k,2⟩/\Live S.idx ⟨k,2⟩)\/∃ k,aM name (obj S.O d).ah=some ⟨k,3⟩/\Live S.idx ⟨k,3⟩:=by
  cases e:aM name (obj S.O d).ah with
  | none=>exact .inl rfl
  | some t=>
    obtain⟨k,kd⟩:=t
    have h1:=(h.ent hd e).2
    rcases (h.ob _ h1).2.2 with e2|e2|e2<;>subst e2
    all_goals grind
theorem Inv0.aaJ (h:Inv0 S) (i:Int):aq.get S.idx i=none\/(∃ k,aq.get S.idx i=some ⟨k,1⟩/\Live S.idx ⟨k,1⟩)\/(∃ k,aq.get S.idx i=some ⟨k,2⟩/\Live S.idx ⟨k,2⟩)\/∃ k,aq.get S.idx i=some ⟨k,3⟩/\Live S.idx ⟨k,3⟩:=by
  cases e:aq.get S.idx i with
  | none=>exact .inl rfl
  | some t=>
    obtain⟨k,kd⟩:=t
    have h1:=h.live e
    rcases (h.ob _ h1).2.2 with e2|e2|e2<;>subst e2
    all_goals grind
theorem Inv0.hand (h:Inv0 S) (i:Int):aq.get S.us i=none\/(∃ k,aq.get S.us i=some ⟨k,1⟩/\Live S.idx ⟨k,1⟩)\/∃ k,aq.get S.us i=some ⟨k,2⟩/\Live S.idx ⟨k,2⟩:=by
  cases e:aq.get S.us i with
  | none=>exact .inl rfl
  | some t=>
    obtain⟨k,kd⟩:=t
    obtain⟨h1,h0⟩:=h.us i _ e
    rcases (h.ob _ h1).2.2 with e2|e2|e2
    all_goals grind
theorem Inv0.Z4 (h:Inv0 S) (hd:Live S.idx ⟨d,2⟩) (hl:aM name (obj S.O d).ah=some t):1<=S.X.ah:=by
  have h1:=h.total
  have h2:0 < jx S.idx S.O t.k:=ny hd hl
  grind [jx,tot,P6]
theorem Inv0.CA (h:Inv0 S) (hd:Live S.idx ⟨d,2⟩) (hl:aM name (obj S.O d).ah=some t):0<=S.X.ah - 1/\S.X.ah - 1<=1048576/\-1125899906842624<=S.X.used/\S.X.used<=1125899906842624/\0<=S.X.last/\S.X.last<=1125899906842624:=by
  have:=h.Z4 hd hl;have:=h.hX
  omega
theorem sI {L:HL} {us:Used Th} {h:Int} (e:aq.get us h=none):aq.get (bC L us) h=none:=by
  unfold bC;rw [get_map,e];rfl
theorem mF {L:HL} {us:Used Th} {h:Int} (e:aq.get us h=some t):aq.get (bC L us) h=some (eT L t):=by
  unfold bC;rw [get_map,e];rfl
theorem uZ {L:HL} {us:Used Th} {h:Int} (hn:aq.get us h=none):om (bB (bC L us)) (.int .i64 h) (some (eT L t))=bB (bC L (ins h t us)):=by
  rw [Fx (get_none.1 (sI hn))]
  exact congrArg bB (Fv (eT L) h t us).symm
theorem P8 {L:HL} {us:Used Th}:aq.least (bC L us)=aq.least us:=by unfold aq.least;rw [Dk]
theorem Fz {TT:TypeId} {L:HL} {us:Used Th} {v:Value} {l:List HP} {b:Nat} {most ar:Int} (h:v=.tuple #[.int .i64 (aq.least (bC L us)),.int .i64 0]/\l=[.abs (dI TT b most (max ar (((bC L us).length:Int)+1)) (ins (aq.least (bC L us)) (eT L t) (bC L us)))]):v=.tuple #[.int .i64 (aq.least us),.int .i64 0]/\l=[.abs (dI TT b most (max ar ((us.length:Int)+1)) (bC L (ins (aq.least us) t us)))]:=by
  rw [P8,sH] at h
  have e:ins (aq.least us) (eT L t) (bC L us)=bC L (ins (aq.least us) t us):=(Fv (eT L) (aq.least us) t us).symm
  rw [e] at h
  exact h
theorem Tc {α:Type} {es:fB α} {n:ByteArray} (h:es=[]):aM n es=none:=by rw [h];rfl
end facts
section blocks
variable {O:bZ} {L:HL} {k j:Nat} {t u:Th}
theorem BV (hk:(obj O k).kind≠0) {F:Fp} {w:World} (h:(aF (cJ O L)).h F w):∃ cs T,w.heap[L.b k]?=some (.cells cs T (0,0)):=by
  obtain⟨G,g⟩:=aF.at k h
  rw [nV hk] at g
  exact⟨_,_,g.1⟩
theorem Mu (hk:(obj O k).kind≠0) (hj:(obj O j).kind≠0) {F:Fp} {w:World} (h:(aF (cJ O L)).h F w) (e:L.b k=L.b j):k=j:=by
  apply Classical.byContradiction
  intro hne
  obtain⟨φ,h1,h2,_⟩:=h
  have g1:=h1 k
  have g2:=h1 j
  rw [nV hk] at g1
  rw [nV hj] at g2
  exact h2 k j hne (L.b k) ((g1.2 _).2 rfl) ((g2.2 _).2 e)
theorem FA:Tryz.prog.underlying 94=some (.pointer 97):=by kernel_rfl
theorem Td:Tryz.prog.underlying 87=some (.pointer 90):=by kernel_rfl
theorem Te:Tryz.prog.underlying 91=some (.pointer 93):=by kernel_rfl
end blocks
end
section
open Go.RowKit Go.Maps aX aq
theorem Tf {s:ByteArray}:0<=Lib.indexByte s.data.toList ((0:Int).toNat.toUInt8)↔¬ pP s:=by
  have hge:=Lib.indexByte_ge s.data.toList ((0:Int).toNat.toUInt8)
  constructor
  ·intro h hn
   obtain⟨o,ho⟩:=Int.eq_ofNat_of_zero_le h
   have h1:=(Lib.indexByte_some ho).1
   obtain⟨h2,h3⟩:=Aa h1
   exact hn o h2 h3
  intro hn
  apply Classical.byContradiction
  intro hlt
  refine hn (fun j hj h0=>Lib.indexByte_none (show Lib.indexByte s.data.toList ((0:Int).toNat.toUInt8) = -1 by omega) j ?_)
  rw [tD hj]
  congr 1
  apply UInt8.toNat_inj.1
  exact h0
theorem LB {β:Bs} (s:ByteArray):Spec Tryz.prog β 172 #[.string s,.int .u8 0] [] (fun v l=>(∃ x:Int,v=.int .i64 x/\(0<=x↔¬ pP s))/\l=[]):=
  fun _ w hS=>(Tryz.strings_IndexByte s 0 w).mono fun _ _ ⟨h1,h2⟩=>⟨_,[],h1,⟨⟨_,rfl,Tf⟩,rfl⟩,h2 ▸ hS⟩
section ptr
variable {O:bZ} {L:HL} {k j:Nat}
theorem Tg:∃ j,Tryz.prog.info? 97=some j/\j.size≠0:=by
  have h:(match Tryz.prog.info? 97 with|some j=>j.size != 0|none=>false)=true:=by kernel_rfl
  grind
theorem P9 {w:World} {o:Oper} {ev:Operand->Value} {x y:Operand} (ho:o.op=.binOp .eql 94 x y 94) (hx:ev x=.pointer (some ⟨L.b k,0,none⟩)) (hy:ev y=.pointer (some ⟨L.b j,0,none⟩)) (hk:(obj O k).kind≠0) (hj:(obj O j).kind≠0) {F:Fp} (hF:(aF (cJ O L)).h F w) :
    oL Tryz.prog ev o w (.bool (decide (k=j))) w:=by
  obtain⟨dst,op,type,pos,after,guard⟩:=o
  cases ho
  refine .inl ?_
  simp only [execOp,hx,hy]
  obtain⟨ca,ta,ha⟩:=BV hk hF
  obtain⟨cb,tb,hb⟩:=BV hj hF
  obtain⟨i,hi,hsz⟩:=Tg
  have h1:(binOp .eql 94 (.pointer (some ⟨L.b k,0,none⟩)) (.pointer (some ⟨L.b j,0,none⟩))).run Tryz.prog w=.ok (.bool (decide (k=j))) w:=by
    by_cases e:k=j
    ·subst e
     rw [run_eql_ptr_same _ _ FA hi]
     simp
    rw [run_eql_ptr_other _ FA hi hsz (fun h=>e (Mu hk hj hF (congrArg Addr.block h))) ha hb]
    simp [e]
  simp [go_sem,eqGuard,h1]
def FB (tp te:TypeId):Prop:=Tryz.prog.underlying tp=some (.pointer te)/\(∃ i,Tryz.prog.info? tp=some i/\i.comparable=true)/\∃ j,Tryz.prog.info? te=some j/\j.size≠0
theorem FC {tp te:TypeId} (h1:Tryz.prog.underlying tp=some (.pointer te)) (h2:(match Tryz.prog.info? tp with|some j=>j.comparable|none=>false)=true) (h3:(match Tryz.prog.info? te with|some j=>j.size != 0|none=>false)=true):FB tp te:=by
  grind [FB]
theorem XI:FB 87 90:=FC Td (by kernel_rfl) (by kernel_rfl)
theorem Z5:FB 94 97:=FC FA (by kernel_rfl) (by kernel_rfl)
theorem XJ:FB 91 93:=FC Te (by kernel_rfl) (by kernel_rfl)
theorem Dp {tp te:TypeId} (hT:FB tp te) {w:World} {o:Oper} {ev:Operand->Value} {x y:Operand} (ho:o.op=.binOp .eql 82 x y 82) (hx:ev x=.iface tp (.pointer (some ⟨L.b k,0,none⟩))) (hy:ev y=.iface tp (.pointer (some ⟨L.b j,0,none⟩))) (hk:(obj O k).kind≠0) (hj:(obj O j).kind≠0) {F:Fp} (hF:(aF (cJ O L)).h F w) :
    oL Tryz.prog ev o w (.bool (decide (k=j))) w:=by
  obtain⟨dst,op,type,pos,after,guard⟩:=o
  cases ho
  refine .inl ?_
  simp only [execOp,hx,hy]
  obtain⟨ca,ta,ha⟩:=BV hk hF
  obtain⟨cb,tb,hb⟩:=BV hj hF
  obtain⟨g1,⟨i,hi,hc⟩,j',hj',hsz⟩:=hT
  have h1:(binOp .eql 82 (.iface tp (.pointer (some ⟨L.b k,0,none⟩))) (.iface tp (.pointer (some ⟨L.b j,0,none⟩)))).run Tryz.prog w=.ok (.bool (decide (k=j))) w:=by
    by_cases e:k=j
    ·subst e
     rw [run_eql_iface_ptr_same _ _ Tryz.underlying82 g1 hi hc hj']
     simp
    rw [run_eql_iface_ptr_other _ Tryz.underlying82 g1 hi hc hj' hsz (fun h=>e (Mu hk hj hF (congrArg Addr.block h))) ha hb]
    simp [e]
  simp [go_sem,eqGuard,h1]
end ptr
end
section
open Go.RowKit Go.Maps aX aq
structure wC (O:bZ) (idx us:Used Th) (k:Nat):Prop where
  up:∀ x,(obj O x).up≠some k
  ah:∀ x,∀ e∈(obj O x).ah,e.2.k≠k
  idx:∀ p∈idx,p.2.k≠k
  us:∀ p∈us,p.2.k≠k
section fresh
variable {S:aL} {O:bZ} {idx us:Used Th} {L L':HL} {k b m c:Nat} {A:Option Addr} {o:aN} {t:Th}
theorem pW (h:Inv0 S):(aK S.X:Int)=S.X.last+1:=by
  have:=h.last
  unfold aK
  omega
theorem Inv0.AA (h:Inv0 S) (ht:Live S.idx t):t.k≠aK S.X:=h.free (by have:=pW h;omega) ht
theorem Inv0.FD (h:Inv0 S) (hk:S.X.last < (k:Int)):wC S.O S.idx S.us k:=by
  have key:∀ x,(∃ t,Live S.idx t/\t.k=x)\/(obj S.O x).ah=[]/\(obj S.O x).up=none:=fun x=>by
    by_cases hx:∃ t,Live S.idx t/\t.k=x
    ·exact .inl hx
    exact .inr (h.dead x (fun t ht e=>hx ⟨t,ht,e⟩))
  refine⟨fun x e=>?_,fun x e he=>?_,fun p hp=>?_,fun p hp=>?_⟩
  ·rcases key x with ⟨t,ht,rfl⟩|hx
   ·obtain⟨_,h2,_⟩:=(h.up t ht _).1 e
    exact h.free hk h2 rfl
   rw [hx.2] at e;cases e
  ·rcases key x with ⟨t,ht,rfl⟩|hx
   ·exact h.free hk (h.ah t ht e he).2
   rw [hx.1] at he;cases he
  ·exact h.free hk (h.live (kH h.rise hp))
  exact h.free hk (h.us _ _ (kH h.usr hp)).1
theorem Inv0.fresh (h:Inv0 S):wC S.O S.idx S.us (aK S.X):=h.FD (by have:=pW h;omega)
theorem BW (hL:L'=L.put k b m A c) {x:Nat} (h:x≠k):L'.b x=L.b x:=by subst hL;exact if_neg h
theorem JB (hL:L'=L.put k b m A c):L'.b k=b:=by subst hL;exact if_pos rfl
theorem JC (hL:L'=L.put k b m A c):L'.m k=m:=by subst hL;exact if_pos rfl
theorem Qa (hL:L'=L.put k b m A c) (h:t.k≠k):eT L' t=eT L t:=by unfold eT;rw [BW hL h]
theorem sJ (hL:L'=L.put k b m A c) (kind:Int):eT L' ⟨k,kind⟩=.iface (thT kind) (.pointer (some ⟨b,0,none⟩)):=by unfold eT;rw [JB hL]
theorem jA (hL:L'=L.put k b m A c) (h:∀ p∈us,p.2.k≠k):bC L' us=bC L us:=List.map_congr_left (fun p hp=>by rw [Qa hL (h p hp)])
theorem Ti {es:fB Th} {n:ByteArray} (h:∀ e∈es,e.2.k≠k) (e:aM n es=some t):t.k≠k:=h _ (nN e)
theorem Tj (hL:L'=L.put k b m A c) {es:fB Th} (h:∀ e∈es,e.2.k≠k):jJ L' es=jJ L es:=by
  unfold jJ
  congr 1
  funext n
  cases e:aM n es with
  | none=>rfl
  | some t=>exact congrArg some (Qa hL (Ti h e))
theorem Mv (hL:L'=L.put k b m A c) (hf:wC O idx us k) {x:Nat} (h:x≠k):cJ O L' x=cJ O L x:=by
  have e1:=BW hL h
  have e2:iP L' x (obj O x)=iP L x (obj O x):=by
    unfold iP BR
    have h1:D8 L' (obj O x).up=D8 L (obj O x).up:=by
      cases hu:(obj O x).up with
      | none=>rfl
      | some d=>show Value.pointer _=Value.pointer _;rw [BW hL (fun e=>hf.up x (by rw [hu,e]))]
    rw [h1]
    subst hL
    simp only [HL.put,if_neg h]
  unfold cJ
  rw [e1,e2]
theorem FE (hL:L'=L.put k b m A c) (hf:wC O idx us k) {x:Nat} (h:x≠k):dL O L' x=dL O L x:=by
  unfold dL
  rw [Tj hL (hf.ah x)]
  subst hL
  simp only [HL.put,if_neg h]
theorem BX (hL:L'=L.put k b m A c) {x:Nat} (h:x≠k):bX O L' x=bX O L x:=by
  unfold bX
  subst hL
  simp only [HL.put,if_neg h]
end fresh
theorem vJ {O O':bZ} {L:HL} (h1:∀ x,(obj O' x).data=(obj O x).data) (h2:∀ x,(obj O' x).kind=(obj O x).kind):bX O' L=bX O L:=by
  funext x
  unfold bX
  rw [h1,h2]
theorem jF {X:FM} {O:bZ} {L:HL} {d:Nat} {name:ByteArray} {t:Th}:bX (br X O d name t) L=bX O L:=
  vJ (fun _=>ji (g:=aN.data) (fun _ _=>rfl) (fun _ _=>rfl) (fun _ _ _=>rfl) (fun _ _=>rfl)) (fun _=>Lx)
theorem mq {X:FM} {O:bZ} {L:HL} {d:Nat} {name:ByteArray} {t:Th}:bX (aG X O d name t) L=bX O L:=
  vJ (fun _=>cE (g:=aN.data) (fun _ _=>rfl) (fun _ _=>rfl) (fun _ _ _=>rfl)) (fun _=>cY)
theorem sK {α:Type} {g:aN->α} {O:bZ} {k j:Nat} (h:∀ o b,g { o with gone:=b }=g o):g (obj (pV O j) k)=g (obj O k):=cu (f:=fun o=>{ o with gone:=true }) (fun o=>h o true)
theorem Tk {O:bZ} {L:HL} {k:Nat}:bX (pV O k) L=bX O L:=vJ (fun _=>sK (g:=aN.data) (fun _ _=>rfl)) (fun _=>sK (g:=aN.kind) (fun _ _=>rfl))
theorem qJ {S:aL} {L:HL} {d:Nat} {name:ByteArray} {t:Th}:bX (aE S d name t).O L=bX S.O L:=by
  unfold aE
  simp only
  split
  ·exact Tk.trans mq
  exact mq
theorem Ee {S:aL} {d k:Nat} {name:ByteArray} {t:Th}:(obj (aE S d name t).O k).kind=(obj S.O k).kind:=by
  unfold aE
  simp only
  split
  ·exact (sK (g:=aN.kind) (fun _ _=>rfl)).trans cY
  exact cY
theorem tT {X:FM} {O:bZ} {idx:Used Th} {d:Nat} {name:ByteArray} (h:dO X O idx d name=0):aM name (obj O d).ah=none:=by
  grind [dO]
theorem xB {X:FM} {O:bZ} {idx:Used Th} {d:Nat} {name:ByteArray} (h:dO X O idx d name=0):Room X idx:=by
  grind [dO]
theorem xC {X:FM} {O:bZ} {idx:Used Th} {d:Nat} {name:ByteArray} (h:dO X O idx d name=0):X.last < 1099511627776:=(xB h).2.1
section sat
variable {β:Bs} {l l':List HP} {w:World} {i j k b m c:Nat} {O:bZ} {us:Used Th} {idx' us':Used Th} {L L':HL} {cs:List Value} {T:TypeId} {ix:List Nat} {A:Option Addr} {o:aN} {R R':Nat->ct}
theorem Sat.less {p p':HP} (h:Sat β l w) (hp:l[i]?=some p) (hs:∀ F,p.h F w->∃ F',p'.h F' w/\∀ x,F' x->F x):Sat β (l.set i p') w:=
  h.set hp (fun F hF=>let ⟨F',h1,h2⟩:=hs F hF;⟨F',h1,⟨Keeps.refl _ _,fun k hk=>.inl (h2 k hk)⟩⟩)
theorem Sat.AB (h:Sat β l w) (hp:l[i]?=some (.abs (aF R))) (k:Nat) (hR:∀ x,x≠k->R' x=R x) (ha:R' k=ct.none):Sat β (l.set i (.abs (aF R'))) w:=by
  refine h.less hp ?_
  rintro F ⟨φ,h1,h2,h3⟩
  refine⟨fun x=>∃ i,i≠k/\φ i x,⟨fun i=>if i=k then fun _=>False else φ i,fun i=>?_,fun i j hne x hx hy=>?_,fun x=>⟨fun ⟨i,hne,hx⟩=>⟨i,by simpa [hne] using hx⟩,fun ⟨i,hx⟩=>?_⟩⟩,fun x ⟨i,_,hx⟩=>(h3 x).2 ⟨i,hx⟩⟩
  ·by_cases e:i=k
   ·subst e;simp only [if_true];rw [ha];exact fun _ h=>h
   grind
  ·by_cases e1:i=k
   ·simp [e1] at hx
   by_cases e2:j=k
   ·simp [e2] at hy
   exact h2 i j hne x (by simpa [e1] using hx) (by simpa [e2] using hy)
  by_cases e1:i=k
  ·simp [e1] at hx
  exact⟨i,e1,by simpa [e1] using hx⟩
theorem Sat.yI (h:Sat β l w) (hL:L'=L.put k b m A c) (hf:wC O idx' us' k) (hp:l[i]?=some (.abs (aF (cJ O L)))) (hq:l[j]?=some (.blk b cs T)) (hd:aP (i::j::ix)=true) (hl:bp l ix=some l') (h0:o.kind≠0) (hc:iP L' k o=cs) (hT:qg o.kind=T):Sat β (.abs (aF (cJ (aD O k (fun _=>o)) L'))::l') w:=by
  refine h.uN (a:=Dg b cs T) hp hq (fun _ _ h=>h) hd hl k (fun x hx=>?_) (by rw [xS,if_neg h0,hc,hT,JB hL])
  rw [xT hx,Mv hL hf hx]
theorem Sat.Vc (h:Sat β l w) (hL:L'=L.put k b m A c) (hf:wC O idx' us' k) (hp:l[i]?=some (.abs (aF (dL O L)))) (hq:l[j]?=some (.abs (bq Tryz.prog 9 m (fun _=>none) 0))) (hd:aP (i::j::ix)=true) (hl:bp l ix=some l') (h2:o.kind=2) (he:o.ah=[]):Sat β (.abs (aF (dL (aD O k (fun _=>o)) L'))::l') w:=by
  refine h.uN hp hq (fun _ _ h=>h) hd hl k (fun x hx=>by rw [Aj hx,FE hL hf hx]) ?_
  grind [qW,cV,SW,JC]
theorem Sat.AF (h:Sat β l w) (hL:L'=L.put k b m A c) (hf:wC O idx' us' k) (hp:l[i]?=some (.abs (aF (dL O L)))) (h2:o.kind≠2):Sat β (l.set i (.abs (aF (dL (aD O k (fun _=>o)) L')))) w:=by
  refine h.AB hp k (fun x hx=>by rw [Aj hx,FE hL hf hx]) ?_
  unfold dL;rw [cV,if_neg h2]
theorem Sat.Ef (h:Sat β l w) (hL:L'=L.put k b m A c) (hp:l[i]?=some (.abs (aF (bX O L)))) (h1:o.kind≠1):Sat β (l.set i (.abs (aF (bX (aD O k (fun _=>o)) L')))) w:=by
  refine h.AB hp k (fun x hx=>by rw [Ak hx,BX hL hx]) ?_
  unfold bX;rw [cV,if_neg h1]
theorem Sat.Vd (h:Sat β l w) (hL:L'=L.put k b m none 0) (hp:l[i]?=some (.abs (aF (bX O L)))) (hq:l[j]?=some (.abs (av 5 1 none 0 0 []))) (hd:aP (i::j::ix)=true) (hl:bp l ix=some l') (h1:o.kind=1) (he:o.data=[]):Sat β (.abs (aF (bX (aD O k (fun _=>o)) L'))::l') w:=by
  refine h.uN hp hq (fun _ _ h=>h) hd hl k (fun x hx=>by rw [Ak hx,BX hL hx]) ?_
  rw [vD (by rw [cV];exact h1),cV,he]
  subst hL
  simp only [HL.put,if_true]
  rfl
end sat
end
section
open Go.RowKit Go.Maps aX aq
section inv
variable {S:aL} {d:Nat} {name:ByteArray} {t:Th} {O':bZ}
theorem lN.del {es:fB Th} (h:lN es):lN (gZ name es):=List.Pairwise.filter _ h
theorem Eg {x y:ByteArray}:¬ eG x y↔rC y x < 0:=by
  unfold eG
  rw [zP,Lib.toList_data,Lib.toList_data]
  have h1:=@Gs x.data.toList y.data.toList
  grind [Gv,zR,rC]
theorem lN.ins {es:fB Th} (h:lN es) (hn:aM name es=none):lN (gV name t es):=by
  induction es with
  | nil=>exact List.pairwise_singleton ..
  | cons e r ih=>
    obtain⟨h1,h2⟩:=List.pairwise_cons.1 h
    have hall:=yD.1 hn
    unfold gV
    split
    ·rename_i hlt
     refine List.pairwise_cons.2 ⟨fun x hx=>?_,h⟩
     grind [Eg,DY]
    rename_i hle
    refine List.pairwise_cons.2 ⟨fun x hx=>?_,ih h2 (yD.2 (fun x hx=>hall x (List.mem_cons_of_mem _ hx)))⟩
    grind [Dc,Eg,rC,zR,Gv]
theorem Inv0.cut (hI:Inv0 S) (hd:Live S.idx ⟨d,2⟩) (hl:aM name (obj S.O d).ah=some t) {g:Bool}
    (hO:∀ k,obj O' k=if k=d then { obj S.O d with ah:=gZ name (obj S.O d).ah,sec:=S.X.cS,nano:=S.X.cZ } else if k=t.k then { obj S.O k with links:=(obj S.O k).links - 1,gone:=g,up:=none } else obj S.O k)
    (hg:g=(obj S.O t.k).gone\/(obj S.O t.k).links - 1=0/\(t.kind=2->(obj S.O t.k).ah=[])):Inv0 { S with X:={ S.X with ah:=S.X.ah - 1 },O:=O' }:=by
  have hne:=hI.ne hd hl
  have ht:=(hI.ent hd hl).2
  have oD:obj O' d={ obj S.O d with ah:=gZ name (obj S.O d).ah,sec:=S.X.cS,nano:=S.X.cZ }:=by rw [hO,if_pos rfl]
  have oT:obj O' t.k={ obj S.O t.k with links:=(obj S.O t.k).links - 1,gone:=g,up:=none }:=by rw [hO,if_neg hne,if_pos rfl]
  have oX:∀ x,x≠d->x≠t.k->obj O' x=obj S.O x:=by grind
  have CB:∀ {α:Type} (G:aN->α),(∀ o es a b,G { o with ah:=es,sec:=a,nano:=b }=G o)->(∀ o l g,G { o with links:=l,gone:=g,up:=none }=G o)->∀ x,G (obj O' x)=G (obj S.O x):=fun G h1 h2 x=>by
    grind
  have XK:=CB aN.id (fun _ _ _ _=>rfl) (fun _ _ _=>rfl)
  have Eh:=CB aN.kind (fun _ _ _ _=>rfl) (fun _ _ _=>rfl)
  have NK:=CB aN.data (fun _ _ _ _=>rfl) (fun _ _ _=>rfl)
  have XL:=CB aN.opens (fun _ _ _ _=>rfl) (fun _ _ _=>rfl)
  have fE:∀ x,x≠d->(obj O' x).ah=(obj S.O x).ah:=fun x hx=>by
    grind
  have GS:(obj O' d).ah=gZ name (obj S.O d).ah:=by rw [oD]
  have hlk:0 < jx S.idx S.O t.k:=ny hd hl
  have hlt:=hI.links t ht
  have hky:∀ i u,aq.get S.idx i=some u->i=(u.k:Int):=fun i u e=>hI.key e
  have hsum:∀ q:ByteArray×Th->Bool,_:=fun q=>Jz (q:=q) hI.rise hd hky fE GS (hI.twice hd) hl
  have Tl:∀ x,jx S.idx O' x+(if t.k=x then 1 else 0)=jx S.idx S.O x:=fun x=>by
    have h1:=hsum (fun e=>decide (e.2.k=x))
    simp only [decide_eq_true_eq] at h1
    exact h1
  refine { hI with ob:=fun x hx=>?_,mt:=fun x hx=>?_,ah:=fun x hx e he=>?_,sorted:=fun x hx=>?_,dead:=fun x hx=>?_,uR:=fun x hx=>(Eh x).trans (hI.uR x hx),total:=?_,links:=fun x hx=>?_,once:=fun x hx hk=>?_,opens:=fun x hx=>?_,gone:=fun x hx kI=>?_,up:=fun x hx e=>?_,deep:=?_,used:=?_ }
  ·show (obj O' x.k).id=_/\(obj O' x.k).kind=_/\_
   rw [XK,Eh];exact hI.ob x hx
  ·show nw (obj O' x.k)
   have hm:=hI.mt x hx
   by_cases e:x.k=d
   ·rw [e] at hm ⊢
    rw [oD]
    exact hm.of rfl rfl rfl hI.now rfl (.inl rfl) (.inr (hI.kind hd)) rfl
   by_cases e2:x.k=t.k
   ·rw [e2] at hm ⊢
    rw [oT]
    exact hm.of rfl rfl rfl hm.time rfl (.inl rfl) (.inl rfl) rfl
   rw [oX _ e e2];exact hm
  ·by_cases e1:x.k=d
   ·have he:e∈(obj O' x.k).ah:=he
    rw [e1,GS] at he
    exact hI.ah _ hd e (Jy he).1
   have he:e∈(obj O' x.k).ah:=he
   rw [fE _ e1] at he
   exact hI.ah x hx e he
  ·show lN (obj O' x.k).ah
   by_cases e1:x.k=d
   ·rw [e1,GS];exact lN.del (hI.sorted _ hd)
   rw [fE _ e1];exact hI.sorted x hx
  ·show (obj O' x).ah=[]/\(obj O' x).up=none
   rw [oX x (fun e=>hx _ hd e.symm) (fun e=>hx t ht e.symm)]
   exact hI.dead x hx
  ·have h1:=hsum (fun _=>true)
   have h2:=hI.total
   grind [tS,tot]
  ·show (obj O' x.k).links=(jx S.idx O' x.k:Int)
   have h1:=Tl x.k
   have h2:=hI.links x hx
   grind
  ·show (obj O' x.k).links<=1
   have h1:=hI.once x hx hk
   grind
  ·show (obj O' x.k).opens=_
   rw [XL];exact hI.opens x hx
  ·have kI:(obj O' x.k).gone=true:=kI
   show (obj O' x.k).links=0/\(obj O' x.k).ah=[]
   by_cases e2:x.k=t.k
   ·rw [e2] at kI ⊢
    rw [fE _ hne,oT]
    rw [oT] at kI
    show (obj S.O t.k).links - 1=0/\_
    rcases hg with h|⟨h1,h2⟩
    ·have kI:g=true:=kI
     rw [h] at kI
     have:=(hI.gone t ht kI).1
     omega
    refine⟨h1,?_⟩
    by_cases hk:t.kind=2
    ·exact h2 hk
    exact (hI.mt t ht).ah (by rw [hI.kind ht];exact hk)
   by_cases e:x.k=d
   ·rw [e,oD] at kI
    have:=(hI.gone _ hd kI).2
    rw [Tc this] at hl;cases hl
   rw [oX _ e e2] at kI ⊢;exact hI.gone x hx kI
  ·show (obj O' x.k).up=some e↔x.kind=2/\Live S.idx ⟨e,2⟩/\∃ n,aM n (obj O' e).ah=some x
   by_cases e2:x.k=t.k
   ·have Qb:x=t:=fQ hx ht e2
    subst Qb
    rw [oT]
    constructor
    ·intro h;cases h
    rintro⟨hk,hle,n,hn⟩
    have h1:=hI.once x hx hk
    grind [jx,ny,Live,aM,obj,gZ,up]
   have h1:(obj O' x.k).up=(obj S.O x.k).up:=by
     grind
   have h2:∀ n,aM n (obj O' e).ah=some x↔aM n (obj S.O e).ah=some x:=fun n=>by
     grind [tM]
   rw [h1,hI.up x hx e]
   simp only [h2]
  ·obtain⟨dp,hdp⟩:=hI.deep
   refine⟨dp,fun x e hx=>?_⟩
   grind
  have:bytes S.idx O'=bytes S.idx S.O:=iJ (fun p _=>by rw [NK])
  show S.X.used=(bytes S.idx O':Int)/\_
  rw [this];exact hI.used
theorem NM {O O1:bZ} {s k:Nat} (h:∀ x e,(obj O1 x).up=some e->(obj O x).up=some e) (hb:ox O1 s k):ox O s k:=by
  induction hb with
  | here=>exact .here
  | up hu _ ih=>exact .up (h _ _ hu) ih
theorem GU {O:bZ} {s k:Nat}:ox O s k↔k=s\/∃ e,(obj O k).up=some e/\ox O s e:=by
  constructor
  ·rintro (_|⟨h1,h2⟩)
   ·exact .inl rfl
   exact .inr ⟨_,h1,h2⟩
  rintro (h|⟨e,h1,h2⟩)
  ·subst h;exact .here
  exact .up h1 h2
theorem Inv0.put (hI:Inv0 S) (hd:Live S.idx ⟨d,2⟩) (mM:(obj S.O d).gone=false) (hn:aM name (obj S.O d).ah=none) (j4:bQ name) (ht:Live S.idx t) (Mq:(obj S.O t.k).gone=false) (XM:t.kind=2->(obj S.O t.k).links=0/\¬ ox S.O t.k d) (htd:t.k≠d) (hroom:S.X.ah < 8192) {ta tb:Int} (htm:dw ta tb)
    (hO:∀ k,obj O' k=if k=d then { obj S.O d with ah:=gV name t (obj S.O d).ah,sec:=ta,nano:=tb } else if k=t.k then { obj S.O k with links:=(obj S.O k).links+1,up:=if t.kind=2 then some d else (obj S.O k).up } else obj S.O k) :
    Inv0 { S with X:={ S.X with ah:=S.X.ah+1 },O:=O' }:=by
  have hne:=htd
  have oD:obj O' d={ obj S.O d with ah:=gV name t (obj S.O d).ah,sec:=ta,nano:=tb }:=by rw [hO,if_pos rfl]
  have oT:obj O' t.k={ obj S.O t.k with links:=(obj S.O t.k).links+1,up:=if t.kind=2 then some d else (obj S.O t.k).up }:=by rw [hO,if_neg hne,if_pos rfl]
  have oX:∀ x,x≠d->x≠t.k->obj O' x=obj S.O x:=by grind
  have CB:∀ {α:Type} (G:aN->α),(∀ o es a b,G { o with ah:=es,sec:=a,nano:=b }=G o)->(∀ o l u,G { o with links:=l,up:=u }=G o)->∀ x,G (obj O' x)=G (obj S.O x):=fun G h1 h2 x=>by
    grind
  have XK:=CB aN.id (fun _ _ _ _=>rfl) (fun _ _ _=>rfl)
  have Eh:=CB aN.kind (fun _ _ _ _=>rfl) (fun _ _ _=>rfl)
  have NK:=CB aN.data (fun _ _ _ _=>rfl) (fun _ _ _=>rfl)
  have XL:=CB aN.opens (fun _ _ _ _=>rfl) (fun _ _ _=>rfl)
  have fG:=CB aN.gone (fun _ _ _ _=>rfl) (fun _ _ _=>rfl)
  have fE:∀ x,x≠d->(obj O' x).ah=(obj S.O x).ah:=fun x hx=>by
    grind
  have GS:(obj O' d).ah=gV name t (obj S.O d).ah:=by rw [oD]
  have hky:∀ i u,aq.get S.idx i=some u->i=(u.k:Int):=fun i u e=>hI.key e
  have hsum:∀ q:ByteArray×Th->Bool,_:=fun q=>Tb (q:=q) hI.rise hd hky fE GS
  have Tl:∀ x,jx S.idx O' x=jx S.idx S.O x+(if t.k=x then 1 else 0):=fun x=>by
    have h1:=hsum (fun e=>decide (e.2.k=x))
    simp only [decide_eq_true_eq] at h1
    exact h1
  have hlt:=hI.links t ht
  have ab5:t.kind=2->∀ e n,Live S.idx ⟨e,2⟩->aM n (obj S.O e).ah≠some t:=fun hk e n hle h=>by
    have h1:0 < jx S.idx S.O t.k:=ny hle h
    have:=(XM hk).1
    omega
  refine { hI with ob:=fun x hx=>?_,mt:=fun x hx=>?_,ah:=fun x hx e he=>?_,sorted:=fun x hx=>?_,dead:=fun x hx=>?_,uR:=fun x hx=>(Eh x).trans (hI.uR x hx),total:=?_,links:=fun x hx=>?_,once:=fun x hx hk=>?_,opens:=fun x hx=>?_,gone:=fun x hx kI=>?_,up:=fun x hx e=>?_,deep:=?_,used:=?_ }
  ·show (obj O' x.k).id=_/\(obj O' x.k).kind=_/\_
   rw [XK,Eh];exact hI.ob x hx
  ·show nw (obj O' x.k)
   have hm:=hI.mt x hx
   by_cases e:x.k=d
   ·rw [e] at hm ⊢
    rw [oD]
    exact hm.of rfl rfl rfl htm rfl (.inl rfl) (.inr (hI.kind hd)) rfl
   by_cases e2:x.k=t.k
   ·rw [e2] at hm ⊢
    rw [oT]
    exact hm.of rfl rfl rfl hm.time rfl (.inl rfl) (.inl rfl) rfl
   rw [oX _ e e2];exact hm
  ·have he:e∈(obj O' x.k).ah:=he
   by_cases e1:x.k=d
   ·rw [e1,GS] at he
    rcases Dc.1 he with rfl|he
    ·exact⟨j4,ht⟩
    exact hI.ah _ hd e he
   rw [fE _ e1] at he
   exact hI.ah x hx e he
  ·show lN (obj O' x.k).ah
   by_cases e1:x.k=d
   ·rw [e1,GS];exact lN.ins (hI.sorted _ hd) hn
   rw [fE _ e1];exact hI.sorted x hx
  ·show (obj O' x).ah=[]/\(obj O' x).up=none
   rw [oX x (fun e=>hx _ hd e.symm) (fun e=>hx t ht e.symm)]
   exact hI.dead x hx
  ·have h1:=hsum (fun _=>true)
   have h2:=hI.total
   grind [tS,tot]
  ·show (obj O' x.k).links=(jx S.idx O' x.k:Int)
   have h1:=Tl x.k
   have h2:=hI.links x hx
   grind
  ·show (obj O' x.k).links<=1
   have h1:=hI.once x hx hk
   grind [fQ,obj]
  ·show (obj O' x.k).opens=_
   rw [XL];exact hI.opens x hx
  ·have kI:(obj O' x.k).gone=true:=kI
   rw [fG] at kI
   show (obj O' x.k).links=0/\(obj O' x.k).ah=[]
   by_cases e2:x.k=t.k
   ·rw [e2,Mq] at kI;cases kI
   by_cases e:x.k=d
   ·rw [e,mM] at kI;cases kI
   rw [oX _ e e2];exact hI.gone x hx kI
  ·show (obj O' x.k).up=some e↔x.kind=2/\Live S.idx ⟨e,2⟩/\∃ n,aM n (obj O' e).ah=some x
   by_cases e2:x.k=t.k
   ·have Qb:x=t:=fQ hx ht e2
    subst Qb
    rw [oT]
    show (if x.kind=2 then some d else (obj S.O x.k).up)=some e↔_
    by_cases hk:x.kind=2
    ·rw [if_pos hk]
     constructor
     ·intro h
      cases h
      exact⟨hk,hd,name,by rw [GS,Ai hn,if_pos rfl]⟩
     grind
    rw [if_neg hk,hI.up x hx e]
    grind
   have h1:(obj O' x.k).up=(obj S.O x.k).up:=by
     grind
   have h2:∀ n,aM n (obj O' e).ah=some x↔aM n (obj S.O e).ah=some x:=fun n=>by
     grind [Ai]
   rw [h1,hI.up x hx e]
   simp only [h2]
  ·obtain⟨dp,hdp⟩:=hI.deep
   by_cases hk:t.kind=2
   ·obtain⟨hl0,hnb⟩:=XM hk
    have ab6:(obj S.O t.k).up=none:=by
      cases hu:(obj S.O t.k).up with
      | none=>rfl
      | some e=>
        grind [Live,obj,aM,bQ,dw,gV,up]
    refine⟨fun x=>if ox S.O t.k x then dp x+dp d+1 else dp x,fun x e hx=>?_⟩
    grind [obj,up,GU]
   refine⟨dp,fun x e hx=>?_⟩
   grind
  have:bytes S.idx O'=bytes S.idx S.O:=iJ (fun p _=>by rw [NK])
  show S.X.used=(bytes S.idx O':Int)/\_
  rw [this];exact hI.used
end inv
end
section
open Go.RowKit Go.Maps aX aq
section new
variable {S:aL} {d:Nat} {name:ByteArray} {t:Th} {o:aN} {us':Used Th} {iK:Int}
theorem Inv0.newAt (hI:Inv0 S) {k0:Nat} (hlt:S.X.last < (k0:Int)) (hle:(k0:Int)<=1099511627776) {oH:Int} (abN:oH=S.X.used+o.data.length/\oH<=140737488355328) (hid:o.id=(k0:Int)) (hk3:o.kind=1\/o.kind=2\/o.kind=3) (hl0:o.links=0) (he0:o.ah=[]) (hu0:o.up=none) (hg0:o.gone=false) (hm:nw o) (hlen:S.idx.length < 4096)
    (u1:aq.bH (keys us')) (u2:∀ x∈keys us',1<=x/\x<=iK) (u3:(us'.length:Int)<=S.X.cH) (u4:0<=iK/\iK<=S.X.cH) (u5:∀ h t,aq.get us' h=some t->(Live S.idx t\/t=⟨k0,o.kind⟩)/\t.kind≠3) (u6:∀ k,k≠k0->hnd us' k=hnd S.us k) (u7:o.opens=(hnd us' (k0):Int)) :
    Inv0 { S with X:={ S.X with last:=(k0:Int),used:=oH },O:=aD S.O (k0) (fun _=>o),idx:=ins ((k0:Int)) ⟨k0,o.kind⟩ S.idx,us:=us',ar:=iK }:=by
  have hnot:aq.get S.idx ((k0:Int))=none:=by
    cases e:aq.get S.idx ((k0:Int)) with
    | none=>rfl
    | some u=>have:=(hI.idx _ u e).2.2;omega
  have hget:∀ i,aq.get (ins ((k0:Int)) ⟨k0,o.kind⟩ S.idx) i=if i=(k0:Int) then some ⟨k0,o.kind⟩ else aq.get S.idx i:=by grind [uX,get_none]
  have gY:∀ x,Live (ins ((k0:Int)) ⟨k0,o.kind⟩ S.idx) x↔x=⟨k0,o.kind⟩\/Live S.idx x:=fun x=>by
    grind [Live]
  have oN:obj (aD S.O (k0) (fun _=>o)) (k0)=o:=cV
  have oX:∀ x,Live S.idx x->obj (aD S.O (k0) (fun _=>o)) x.k=obj S.O x.k:=fun x hx=>fC (hI.free hlt hx)
  have hfr:=hI.FD hlt
  have hmem:∀ p∈S.idx,obj (aD S.O (k0) (fun _=>o)) p.2.k=obj S.O p.2.k:=fun p hp=>fC (hfr.idx p hp)
  have hsum:∀ g:aN->Nat,g o=0->dP (fun p:Int×Th=>g (obj (aD S.O (k0) (fun _=>o)) p.2.k)) (ins ((k0:Int)) ⟨k0,o.kind⟩ S.idx)=dP (fun p:Int×Th=>g (obj S.O p.2.k)) S.idx:=fun g hg=>by
    grind [Dl,obj,iJ]
  refine { hI with last:=?_,rise:=?_,len:=?_,idx:=fun i x e=>?_,ob:=fun x hx=>?_,mt:=fun x hx=>?_,ah:=fun x hx e he=>?_,sorted:=fun x hx=>?_,dead:=fun x hx=>?_,uR:=fun x hx=>?_,total:=?_,links:=fun x hx=>?_,once:=fun x hx hk=>?_,opens:=fun x hx=>?_,usr:=u1,tR:=u2,Az:=u3,ar:=u4,us:=fun h x e=>?_,gone:=fun x hx kI=>?_,up:=fun x hx e=>?_,deep:=?_,used:=?_ }
  ·grind
  ·exact vF hI.rise (get_none.1 hnot)
  ·grind [ins,iH]
  ·have e:aq.get (ins ((k0:Int)) ⟨k0,o.kind⟩ S.idx) i=some x:=e
   rw [hget] at e
   have:=hI.last
   show i=(x.k:Int)/\0 < i/\i<=(k0:Int)
   split at e
   ·grind
   have:=hI.idx i x e
   omega
  ·show (obj (aD S.O (k0) (fun _=>o)) x.k).id=_/\(obj (aD S.O (k0) (fun _=>o)) x.k).kind=_/\_
   rcases (gY x).1 hx with h|h
   ·subst h;rw [oN];exact⟨hid,rfl,hk3⟩
   rw [oX x h];exact hI.ob x h
  ·show nw (obj (aD S.O (k0) (fun _=>o)) x.k)
   rcases (gY x).1 hx with h|h
   ·subst h;rw [oN];exact hm
   rw [oX x h];exact hI.mt x h
  ·have he:e∈(obj (aD S.O (k0) (fun _=>o)) x.k).ah:=he
   rcases (gY x).1 hx with h|h
   ·subst h;rw [oN,he0] at he;cases he
   rw [oX x h] at he
   have h1:=hI.ah x h e he
   exact⟨h1.1,(gY _).2 (.inr h1.2)⟩
  ·show lN (obj (aD S.O (k0) (fun _=>o)) x.k).ah
   rcases (gY x).1 hx with h|h
   ·subst h;rw [oN,he0];exact List.Pairwise.nil
   rw [oX x h];exact hI.sorted x h
  ·show (obj (aD S.O (k0) (fun _=>o)) x).ah=[]/\(obj (aD S.O (k0) (fun _=>o)) x).up=none
   have h1:x≠k0:=fun e=>hx ⟨k0,o.kind⟩ ((gY _).2 (.inl rfl)) e.symm
   rw [fC h1]
   exact hI.dead x (fun u hu=>hx u ((gY _).2 (.inr hu)))
  ·have hx:(k0:Int) < (x:Int):=hx
   show (obj (aD S.O (k0) (fun _=>o)) x).kind=0
   rw [fC (fun e=>by rw [e] at hx;omega)]
   exact hI.uR x (by omega)
  ·show S.X.ah=(tot _ _:Int)/\S.X.ah<=8192
   have:tot (ins ((k0:Int)) ⟨k0,o.kind⟩ S.idx) (aD S.O (k0) (fun _=>o))=tot S.idx S.O:=hsum (fun o=>o.ah.length) (by rw [he0];rfl)
   rw [this];exact hI.total
  ·show (obj (aD S.O (k0) (fun _=>o)) x.k).links=(jx _ _ x.k:Int)
   have:jx (ins ((k0:Int)) ⟨k0,o.kind⟩ S.idx) (aD S.O (k0) (fun _=>o)) x.k=jx S.idx S.O x.k:=hsum (fun o=>o.ah.countP (fun e:ByteArray×Th=>decide (e.2.k=x.k))) (by rw [he0];rfl)
   rw [this]
   rcases (gY x).1 hx with h|h
   ·subst h
    rw [oN,hl0]
    have:jx S.idx S.O (k0)=0:=by
      apply Classical.byContradiction
      intro hne
      obtain⟨i,u,hu,e,he,hek⟩:=Ed hI.rise (Nat.pos_of_ne_zero hne)
      exact hfr.ah u.k e he hek
    rw [this];rfl
   rw [oX x h];exact hI.links x h
  ·show (obj (aD S.O (k0) (fun _=>o)) x.k).links<=1
   rcases (gY x).1 hx with h|h
   ·subst h;rw [oN,hl0];decide
   rw [oX x h];exact hI.once x h hk
  ·show (obj (aD S.O (k0) (fun _=>o)) x.k).opens=(hnd us' x.k:Int)
   rcases (gY x).1 hx with h|h
   ·subst h;rw [oN];exact u7
   rw [oX x h,u6 _ (hI.free hlt h)];exact hI.opens x h
  ·grind
  ·have kI:(obj (aD S.O (k0) (fun _=>o)) x.k).gone=true:=kI
   show (obj (aD S.O (k0) (fun _=>o)) x.k).links=0/\(obj (aD S.O (k0) (fun _=>o)) x.k).ah=[]
   rcases (gY x).1 hx with h|h
   ·subst h;rw [oN,hg0] at kI;cases kI
   rw [oX x h] at kI ⊢;exact hI.gone x h kI
  ·show (obj (aD S.O (k0) (fun _=>o)) x.k).up=some e↔x.kind=2/\Live _ ⟨e,2⟩/\∃ n,aM n (obj (aD S.O (k0) (fun _=>o)) e).ah=some x
   rcases (gY x).1 hx with h|h
   ·subst h
    rw [oN,hu0]
    constructor
    ·intro h;cases h
    rintro⟨_,hle,n,h⟩
    by_cases e2:e=k0
    ·rw [e2,oN,he0] at h;cases h
    rw [fC e2] at h;exact absurd rfl (hfr.ah e _ (nN h))
   rw [oX x h,hI.up x h e]
   constructor
   ·grind
   rintro⟨h1,h2,n,h3⟩
   by_cases e2:e=k0
   ·rw [e2,oN,he0] at h3;cases h3
   grind
  ·obtain⟨dp,hdp⟩:=hI.deep
   refine⟨dp,fun x e hx=>?_⟩
   grind [obj,aD,up,fC]
  show oH=(bytes _ _:Int)/\_
  have h1:bytes (ins (k0:Int) ⟨k0,o.kind⟩ S.idx) (aD S.O k0 (fun _=>o))=o.data.length+bytes S.idx S.O:=by
    grind [bytes,Dl,obj,iJ]
  have h2:=hI.used
  grind
theorem Inv0.new (hI:Inv0 S) (hid:o.id=S.X.last+1) (hk3:o.kind=1\/o.kind=2\/o.kind=3) (hl0:o.links=0) (he0:o.ah=[]) (hu0:o.up=none) (hg0:o.gone=false) (XO:o.data=[]) (hm:nw o) (hlast:S.X.last < 1099511627776) (hlen:(S.idx.length:Int) < S.X.cN)
    (u1:aq.bH (keys us')) (u2:∀ x∈keys us',1<=x/\x<=iK) (u3:(us'.length:Int)<=S.X.cH) (u4:0<=iK/\iK<=S.X.cH) (u5:∀ h t,aq.get us' h=some t->(Live S.idx t\/t=⟨aK S.X,o.kind⟩)/\t.kind≠3) (u6:∀ k,k≠aK S.X->hnd us' k=hnd S.us k) (u7:o.opens=(hnd us' (aK S.X):Int)) :
    Inv0 { S with X:={ S.X with last:=S.X.last+1 },O:=aD S.O (aK S.X) (fun _=>o),idx:=ins (S.X.last+1) ⟨aK S.X,o.kind⟩ S.idx,us:=us',ar:=iK }:=by
  have hnk:=pW hI
  have h:=hI.newAt (k0:=aK S.X) (oH:=S.X.used) (by omega) (by omega) ⟨by rw [XO];simp,hI.used.2⟩ (hid.trans hnk.symm) hk3 hl0 he0 hu0 hg0 hm (by have:=hI.cN;omega) u1 u2 u3 u4 u5 u6 u7
  rw [hnk] at h
  exact h
theorem Inv.add (hI:Inv S) (hd:Live S.idx ⟨d,2⟩) (mM:(obj S.O d).gone=false) (hn:aM name (obj S.O d).ah=none) (j4:bQ name) (hroom:Room S.X S.idx)
    (hid:o.id=S.X.last+1) (hk3:o.kind=1\/o.kind=2\/o.kind=3) (hl0:o.links=0) (he0:o.ah=[]) (hu0:o.up=none) (hg0:o.gone=false) (XO:o.data=[]) (hm:nw o)
    (u1:aq.bH (keys us')) (u2:∀ x∈keys us',1<=x/\x<=iK) (u3:(us'.length:Int)<=S.X.cH) (u4:0<=iK/\iK<=S.X.cH) (u5:∀ h t,aq.get us' h=some t->(Live S.idx t\/t=⟨aK S.X,o.kind⟩)/\t.kind≠3) (u6:∀ k,k≠aK S.X->hnd us' k=hnd S.us k) (u7:o.opens=(hnd us' (aK S.X):Int)) :
    Inv (fA { S with us:=us',ar:=iK } d name o):=by
  have h1:=hI.toInv0.new hid hk3 hl0 he0 hu0 hg0 XO hm hroom.2.1 hroom.1 u1 u2 u3 u4 u5 u6 u7
  have hne:d≠aK S.X:=hI.AA hd
  have hnk:=pW hI.toInv0
  have hnot:aq.get S.idx (S.X.last+1)=none:=by
    cases e:aq.get S.idx (S.X.last+1) with
    | none=>rfl
    | some u=>have:=(hI.idx _ u e).2.2;omega
  have hget:∀ i,aq.get (ins (S.X.last+1) ⟨aK S.X,o.kind⟩ S.idx) i=if i=S.X.last+1 then some ⟨aK S.X,o.kind⟩ else aq.get S.idx i:=by grind [uX,get_none]
  have hdl:Live (ins (S.X.last+1) ⟨aK S.X,o.kind⟩ S.idx) ⟨d,2⟩:=by
    grind [Live]
  have hnl:Live (ins (S.X.last+1) ⟨aK S.X,o.kind⟩ S.idx) ⟨aK S.X,o.kind⟩:=by
    unfold Live
    rw [hget,if_pos hnk]
  have oN:obj (aD S.O (aK S.X) (fun _=>o)) (aK S.X)=o:=cV
  have oD:obj (aD S.O (aK S.X) (fun _=>o)) d=obj S.O d:=fC hne
  have hnb:¬ ox (aD S.O (aK S.X) (fun _=>o)) (aK S.X) d:=fun hb=>by
    have key:∀ x,ox (aD S.O (aK S.X) (fun _=>o)) (aK S.X) x->x=aK S.X:=fun x hx=>by
      induction hx with
      | here=>rfl
      | @up k j hu _ ih=>
        subst ih
        by_cases e:k=aK S.X
        ·exact e
        rw [fC e] at hu;exact absurd hu (hI.fresh.up k)
    exact hne (key d hb)
  have h2:=h1.put (d:=d) (name:=name) (t:=⟨aK S.X,o.kind⟩) (O':=(fA { S with us:=us',ar:=iK } d name o).O) hdl (by rw [oD];exact mM) (by rw [oD];exact hn) j4 hnl (by rw [oN];exact hg0) (fun _=>⟨by rw [oN];exact hl0,hnb⟩) (fun e=>hne e.symm) hroom.2.2 h1.now (fun k=>oZ (fun e=>hne e.symm))
  refine⟨h2,fun x hx kI=>?_⟩
  have g1:∀ k,(obj (fA { S with us:=us',ar:=iK } d name o).O k).gone=(obj (aD S.O (aK S.X) (fun _=>o)) k).gone:=fun k=>ji (g:=aN.gone) (fun _ _=>rfl) (fun _ _=>rfl) (fun _ _ _=>rfl) (fun _ _=>rfl)
  have g2:∀ k,(obj (fA { S with us:=us',ar:=iK } d name o).O k).opens=(obj (aD S.O (aK S.X) (fun _=>o)) k).opens:=fun k=>ji (g:=aN.opens) (fun _ _=>rfl) (fun _ _=>rfl) (fun _ _ _=>rfl) (fun _ _=>rfl)
  rw [g1] at kI
  rw [g2]
  by_cases e:x.k=aK S.X
  ·rw [e,oN,hg0] at kI;cases kI
  rw [fC e] at kI ⊢
  refine hI.full x ?_ kI
  grind [ins,aK,Live,obj,aM,bQ,Room,keys,hnd,fA]
end new
section drop
variable {S:aL} {d:Nat} {name:ByteArray} {t:Th}
theorem j6 {α:Type} {g:aN->α} {O:bZ} {k j:Nat} (h:∀ o,g { o with up:=none }=g o):g (obj (orphan O j) k)=g (obj O k):=cu (f:=fun o=>{ o with up:=none }) h
theorem AJ {O:bZ} {k:Nat}:qD (orphan O k) t↔qD O t:=by
  unfold qD
  rw [j6 (g:=aN.gone) (fun _=>rfl),j6 (g:=aN.opens) (fun _=>rfl)]
theorem JD {O:bZ} {k:Nat} {u:Int}:mg (orphan O k) u t=mg O u t:=by
  unfold mg
  simp only [AJ,j6 (g:=aN.data) (fun _=>rfl)]
theorem JE {O:bZ} {k:Nat} {idx:Used Th}:iB (orphan O k) idx t=iB O idx t:=by
  unfold iB
  simp only [AJ,j6 (g:=aN.id) (fun _=>rfl)]
theorem Inv.drop (hI:Inv S) (hd:Live S.idx ⟨d,2⟩) (hl:aM name (obj S.O d).ah=some t) (he:t.kind=2->(obj S.O t.k).ah=[]):Inv { aE S d name t with O:=orphan (aE S d name t).O t.k }:=by
  have hne:=hI.ne hd hl
  have ht:=(hI.ent hd hl).2
  have hlk:(obj (aG S.X S.O d name t) t.k).links=(obj S.O t.k).links - 1:=by rw [iE hne,if_neg hne,if_pos rfl]
  have hfull:∀ (O2:bZ),(∀ u,u≠t.k->(obj O2 u).gone=(obj S.O u).gone/\(obj O2 u).opens=(obj S.O u).opens)->∀ u,Live S.idx u->u≠t->(obj O2 u.k).gone=true->0 < (obj O2 u.k).opens:=fun O2 h u hu hut hg=>by
    have hk:u.k≠t.k:=fun e=>hut (fQ hu ht e)
    rw [(h _ hk).1] at hg
    rw [(h _ hk).2]
    exact hI.full u hu hg
  by_cases h0:(obj (aG S.X S.O d name t) t.k).links=0
  ·have e1:aE S d name t=_:=tP h0
   have hO:∀ k,obj (orphan (pV (aG S.X S.O d name t) t.k) t.k) k=if k=d then { obj S.O d with ah:=gZ name (obj S.O d).ah,sec:=S.X.cS,nano:=S.X.cZ } else if k=t.k then { obj S.O k with links:=(obj S.O k).links - 1,gone:=true,up:=none } else obj S.O k:=fun k=>by
     unfold orphan pV
     rw [wA,gM]
     by_cases e:k=t.k
     ·rw [if_pos e,iE hne,if_neg (fun e2=>hne (e.symm.trans e2)),if_pos e,if_neg (fun e2=>hne (e.symm.trans e2)),if_pos e]
     rw [if_neg e,iE hne,if_neg e,if_neg e]
   have h1:=hI.toInv0.cut hd hl hO (.inr ⟨by rw [← hlk];exact h0,he⟩)
   have h2:=h1.uS (t:=t) ht (hfull _ (fun u hu=>by
     rw [j6 (g:=aN.gone) (fun _=>rfl),j6 (g:=aN.opens) (fun _=>rfl)]
     show (obj (aD _ t.k _) u).gone=_/\(obj (aD _ t.k _) u).opens=_
     rw [fC hu,cE (g:=aN.gone) (fun _ _=>rfl) (fun _ _=>rfl) (fun _ _ _=>rfl),cE (g:=aN.opens) (fun _ _=>rfl) (fun _ _=>rfl) (fun _ _ _=>rfl)]
     exact⟨rfl,rfl⟩))
   rw [e1]
   unfold uS at h2
   simp only [JD,JE] at h2
   exact h2
  have e1:aE S d name t=_:=tQ h0
  have hnd:t.kind≠2:=fun hk=>by
    have h1:=hI.once t ht hk
    have h2:=hI.links t ht
    have h3:0 < jx S.idx S.O t.k:=ny hd hl
    omega
  have NR:(obj S.O t.k).up=none:=by
    cases hu:(obj S.O t.k).up with
    | none=>rfl
    | some e=>exact absurd ((hI.up t ht e).1 hu).1 hnd
  have hO:∀ k,obj (orphan (aG S.X S.O d name t) t.k) k=if k=d then { obj S.O d with ah:=gZ name (obj S.O d).ah,sec:=S.X.cS,nano:=S.X.cZ } else if k=t.k then { obj S.O k with links:=(obj S.O k).links - 1,gone:=(obj S.O t.k).gone,up:=none } else obj S.O k:=fun k=>by
    unfold orphan
    rw [gM]
    by_cases e:k=t.k
    ·rw [if_pos e,iE hne,if_neg (fun e2=>hne (e.symm.trans e2)),if_pos e,if_neg (fun e2=>hne (e.symm.trans e2)),if_pos e,e]
    rw [if_neg e,iE hne,if_neg e,if_neg e]
  have h1:=hI.toInv0.cut hd hl hO (.inl rfl)
  rw [e1]
  refine⟨h1,fun u hu hg=>?_⟩
  have hg:(obj (orphan (aG S.X S.O d name t) t.k) u.k).gone=true:=hg
  show 0 < (obj (orphan (aG S.X S.O d name t) t.k) u.k).opens
  rw [j6 (g:=aN.gone) (fun _=>rfl),cE (g:=aN.gone) (fun _ _=>rfl) (fun _ _=>rfl) (fun _ _ _=>rfl)] at hg
  rw [j6 (g:=aN.opens) (fun _=>rfl),cE (g:=aN.opens) (fun _ _=>rfl) (fun _ _=>rfl) (fun _ _ _=>rfl)]
  exact hI.full u hu hg
theorem Tm {k:Nat}:(obj (aE S d name t).O k).up=(obj S.O k).up:=by
  unfold aE
  simp only
  split
  ·exact (sK (g:=aN.up) (fun _ _=>rfl)).trans (cE (g:=aN.up) (fun _ _=>rfl) (fun _ _=>rfl) (fun _ _ _=>rfl))
  exact cE (g:=aN.up) (fun _ _=>rfl) (fun _ _=>rfl) (fun _ _ _=>rfl)
theorem Inv.BZ (hI:Inv S) (hd:Live S.idx ⟨d,2⟩) (hl:aM name (obj S.O d).ah=some t) (hk:t.kind≠2):Inv (aE S d name t):=by
  have h:=hI.drop hd hl (fun e=>absurd e hk)
  have ht:=(hI.ent hd hl).2
  have NR:(obj S.O t.k).up=none:=by
    cases hu:(obj S.O t.k).up with
    | none=>rfl
    | some e=>exact absurd ((hI.up t ht e).1 hu).1 hk
  have e:orphan (aE S d name t).O t.k=(aE S d name t).O:=Wk (by
    have:(obj (aE S d name t).O t.k).up=none:=Tm.trans NR
    rw [← this])
  rw [e] at h
  exact h
end drop
end
end Go.Proofs.YtnipofpbcggjcaaGreat
section
namespace Go.Proofs.YtnipofpbcggjcaaGreat.aq
open aX
variable {V:Type}
theorem GV (us:Used V) (p:Int×V):keys (us++[p])=keys us++[p.1]:=by simp [keys]
theorem sM (us:Used V):(keys us).length=us.length:=by simp [keys]
theorem least_le {us:Used V} (hr:bH (keys us)) (hp:∀ x∈keys us,1<=x):1<=least us/\least us∉keys us/\∀ x,1<=x->x < least us->x∈keys us:=nj (keys us) 1 hr hp
theorem o3:∀ (ks:List Int) (h:Int),iV h ks<=h+ks.length
  | [],h=>by simp [iV]
  | k::r,h=>by
    unfold iV
    split
    ·have:=o3 r (h+1);simp only [List.length_cons];push_cast;omega
    simp only [List.length_cons];push_cast;omega
theorem LC (us:Used V):least us<=us.length+1:=by
  have:=o3 (keys us) 1
  rw [sM] at this
  unfold least;omega
end Go.Proofs.YtnipofpbcggjcaaGreat.aq
end
namespace Go.Proofs.YtnipofpbcggjcaaGreat
section
open Go.RowKit Go.Maps aX aq
section ops
variable {S:aL} {d to:Nat} {name toName:ByteArray} {t:Th}
theorem Inv.link (hI:Inv S) (hd:Live S.idx ⟨d,2⟩) (mM:(obj S.O d).gone=false) (hn:aM name (obj S.O d).ah=none) (j4:bQ name) (ht:Live S.idx t) (Mq:(obj S.O t.k).gone=false) (hk:t.kind≠2) (hroom:S.X.ah < 8192) :
    Inv { S with X:={ S.X with ah:=S.X.ah+1 },O:=br S.X S.O d name t }:=by
  have hne:t.k≠d:=by grind [fQ]
  have h1:=hI.toInv0.put hd mM hn j4 ht Mq (fun e=>absurd e hk) hne hroom hI.now (fun k=>oZ hne)
  refine⟨h1,fun x hx hg=>?_⟩
  have hg:(obj (br S.X S.O d name t) x.k).gone=true:=hg
  show 0 < (obj (br S.X S.O d name t) x.k).opens
  rw [ji (g:=aN.gone) (fun _ _=>rfl) (fun _ _=>rfl) (fun _ _ _=>rfl) (fun _ _=>rfl)] at hg
  rw [ji (g:=aN.opens) (fun _ _=>rfl) (fun _ _=>rfl) (fun _ _ _=>rfl) (fun _ _=>rfl)]
  exact hI.full x hx hg
theorem mr (hne:t.k≠d) {X:FM} {O:bZ} (h:aM toName (obj O to).ah=none):aM toName (obj (aG X O d name t) to).ah=none:=by
  grind [iE,aM,gZ,obj,tM]
theorem Inv.move (hI:Inv S) (hd:Live S.idx ⟨d,2⟩) (hl:aM name (obj S.O d).ah=some t) (hto:Live S.idx ⟨to,2⟩) (mM:(obj S.O to).gone=false) (hn:aM toName (obj S.O to).ah=none) (j4:bQ toName) (hb:t.kind=2->¬ ox S.O t.k to):Inv (lM S d name to toName t):=by
  have hne:=hI.ne hd hl
  have ht:=(hI.ent hd hl).2
  have Tn:t.k≠to:=fun e=>by
    have h1:t=⟨to,2⟩:=fQ ht hto e
    exact hb (by rw [h1]) (by rw [e];exact .here)
  have hgt:(obj S.O t.k).gone=false:=by
    cases hg:(obj S.O t.k).gone with
    | false=>rfl
    | true=>
      have h1:=(hI.gone t ht hg).1
      have h2:=hI.links t ht
      have h3:0 < jx S.idx S.O t.k:=ny hd hl
      omega
  have hO:∀ k,obj (orphan (aG S.X S.O d name t) t.k) k=if k=d then { obj S.O d with ah:=gZ name (obj S.O d).ah,sec:=S.X.cS,nano:=S.X.cZ } else if k=t.k then { obj S.O k with links:=(obj S.O k).links - 1,gone:=(obj S.O t.k).gone,up:=none } else obj S.O k:=fun k=>by
    unfold orphan
    rw [gM]
    by_cases e:k=t.k
    ·rw [if_pos e,iE hne,if_neg (fun e2=>hne (e.symm.trans e2)),if_pos e,if_neg (fun e2=>hne (e.symm.trans e2)),if_pos e,e]
    rw [if_neg e,iE hne,if_neg e,if_neg e]
  have h1:=hI.toInv0.cut hd hl hO (.inl rfl)
  have g0:∀ {α:Type} (g:aN->α),(∀ o es,g { o with ah:=es }=g o)->(∀ o l,g { o with links:=l }=g o)->(∀ o a b,g { o with sec:=a,nano:=b }=g o)->(∀ o u,g { o with up:=u }=g o)->∀ k,g (obj (orphan (aG S.X S.O d name t) t.k) k)=g (obj S.O k):=fun g a b c e k=>(j6 (fun o=>e o none)).trans (cE a b c)
  have hlk:=hI.links t ht
  have hlp:0 < jx S.idx S.O t.k:=ny hd hl
  have hend:(obj (orphan (aG S.X S.O d name t) t.k) to).ah=(obj (aG S.X S.O d name t) to).ah:=j6 (g:=aN.ah) (fun _=>rfl)
  have h2:=h1.put (d:=to) (name:=toName) (t:=t) (O':=(lM S d name to toName t).O) hto (by
      show (obj (orphan (aG S.X S.O d name t) t.k) to).gone=false
      rw [g0 aN.gone (fun _ _=>rfl) (fun _ _=>rfl) (fun _ _ _=>rfl) (fun _ _=>rfl)];exact mM) (by
      show aM toName (obj (orphan (aG S.X S.O d name t) t.k) to).ah=none
      rw [hend];exact mr hne hn) j4 ht (by
      show (obj (orphan (aG S.X S.O d name t) t.k) t.k).gone=false
      rw [g0 aN.gone (fun _ _=>rfl) (fun _ _=>rfl) (fun _ _ _=>rfl) (fun _ _=>rfl)];exact hgt) (fun hk=>⟨by
        have h3:=hI.once t ht hk
        show (obj (orphan (aG S.X S.O d name t) t.k) t.k).links=0
        rw [hO,if_neg hne,if_pos rfl]
        show (obj S.O t.k).links - 1=0
        omega,fun hb2=>hb hk (NM (fun x e hx=>by
          have hx:(obj (orphan (aG S.X S.O d name t) t.k) x).up=some e:=hx
          by_cases e1:x=t.k
          ·rw [hO,if_neg (by rw [e1];exact hne),if_pos e1] at hx;cases hx
          rw [hO] at hx
          split at hx
          ·rename_i e2;rw [e2];exact hx
          first|exact hx|(rw [if_neg e1] at hx;exact hx)) hb2)⟩) Tn (by
      have:=hI.total
      show S.X.ah - 1 < 8192
      omega) hI.now (fun k=>by
      show obj (br S.X (aG S.X S.O d name t) to toName t) k=_
      rw [oZ Tn]
      by_cases e:k=to
      ·rw [if_pos e,if_pos e]
       have h3:obj (orphan (aG S.X S.O d name t) t.k) to=obj (aG S.X S.O d name t) to:=fC (fun e=>Tn e.symm)
       rw [show obj _ to=_ from h3]
      rw [if_neg e,if_neg e]
      by_cases e2:k=t.k
      ·rw [if_pos e2,if_pos e2,e2]
       show _={ obj (orphan (aG S.X S.O d name t) t.k) t.k with links:=(obj (orphan (aG S.X S.O d name t) t.k) t.k).links+1,up:=if t.kind=2 then some to else (obj (orphan (aG S.X S.O d name t) t.k) t.k).up }
       have h3:obj (orphan (aG S.X S.O d name t) t.k) t.k={ obj (aG S.X S.O d name t) t.k with up:=none }:=cV
       rw [h3]
       by_cases hk:t.kind=2
       ·rw [if_pos hk,if_pos hk]
       rw [if_neg hk,if_neg hk]
       have NR:(obj (aG S.X S.O d name t) t.k).up=none:=by
         rw [cE (g:=aN.up) (fun _ _=>rfl) (fun _ _=>rfl) (fun _ _ _=>rfl)]
         cases hu:(obj S.O t.k).up with
         | none=>rfl
         | some e=>exact absurd ((hI.up t ht e).1 hu).1 hk
       rw [NR]
      rw [if_neg e2,if_neg e2]
      have h3:obj (orphan (aG S.X S.O d name t) t.k) k=obj (aG S.X S.O d name t) k:=fC e2
      exact h3.symm)
  refine⟨h2,fun x hx hg=>?_⟩
  have g3:∀ {α:Type} (g:aN->α),(∀ o es,g { o with ah:=es }=g o)->(∀ o l,g { o with links:=l }=g o)->(∀ o a b,g { o with sec:=a,nano:=b }=g o)->(∀ o u,g { o with up:=u }=g o)->∀ k,g (obj (lM S d name to toName t).O k)=g (obj S.O k):=fun g a b c e k=>(ji a b c e).trans (cE a b c)
  rw [g3 aN.gone (fun _ _=>rfl) (fun _ _=>rfl) (fun _ _ _=>rfl) (fun _ _=>rfl)] at hg
  rw [g3 aN.opens (fun _ _=>rfl) (fun _ _=>rfl) (fun _ _ _=>rfl) (fun _ _=>rfl)]
  exact hI.full x hx hg
theorem FH {us:Used Th} {h:Int} {k:Nat}:hnd (ins h t us) k=(if t.k=k then 1 else 0)+hnd us k:=Dl
theorem Mw {us:Used Th} {h:Int} {k:Nat} (hr:aq.bH (keys us)) (e:aq.get us h=some t):hnd (del h us) k+(if t.k=k then 1 else 0)=hnd us k:=Dn (g:=fun p:Int×Th=>if p.2.k=k then 1 else 0) hr e
theorem Mx {us:Used Th} {ar:Int} (hr:aq.bH (keys us)) (h1:∀ x∈keys us,1<=x/\x<=ar):aq.bH (keys (ins (aq.least us) t us))/\∀ x∈keys (ins (aq.least us) t us),1<=x/\x<=max ar ((us.length:Int)+1):=by
  obtain⟨g1,g2,_⟩:=least_le hr (fun x hx=>(h1 x hx).1)
  have g3:=LC us
  grind [vF,nX]
theorem Inv.cr (hI:Inv S) (ht:Live S.idx t) (hk:t.kind≠3):Inv (Proofs.YtnipofpbcggjcaaGreat.cr S t).2.2:=by
  by_cases hlt:(S.us.length:Int) < S.X.cH
  ·rw [jE hlt]
   obtain⟨g1,g2,_⟩:=least_le hI.usr (fun x hx=>(hI.tR x hx).1)
   obtain⟨v1,v2⟩:=Mx (t:=t) hI.usr hI.tR
   have hb:bytes S.idx (aD S.O t.k (fun o=>{ o with opens:=o.opens+1 }))=bytes S.idx S.O:=iJ (fun p _=>by rw [cu (f:=fun o=>{ o with opens:=o.opens+1 }) (g:=aN.data) (fun _=>rfl)])
   have h1:=hI.toInv0.own (k:=t.k) (f:=fun o=>{ o with opens:=o.opens+1 }) (oH:=S.X.used) (us':=ins (aq.least S.us) t S.us) (iK:=max S.ar ((S.us.length:Int)+1)) (fun _=>rfl) (fun _=>rfl) (fun _=>rfl) (fun _=>rfl) (fun _=>rfl) (fun _=>rfl)
     (fun u hu e=>by rw [← e];exact (hI.mt u hu).of rfl rfl rfl (hI.mt u hu).time rfl (.inl rfl) (.inl rfl) rfl)
     (fun u hu=>by
       have h2:=hI.opens u hu
       rw [FH]
       by_cases e:u.k=t.k
       ·rw [e,cV,if_pos rfl,← e]
        show (obj S.O u.k).opens+1=_
        omega
       rw [fC e,if_neg (fun e2=>e e2.symm)];omega)
     v1 v2 (by rw [iH];omega) (by have:=hI.ar;omega) (fun h u e=>by
       rw [uX g2] at e
       split at e
       ·cases e;exact⟨ht,hk⟩
       exact hI.us h u e) ⟨by rw [hb];exact hI.used.1,hI.used.2⟩
   refine⟨h1,fun u hu hg=>?_⟩
   have hg:(obj (aD S.O t.k (fun o=>{ o with opens:=o.opens+1 })) u.k).gone=true:=hg
   rw [cu (f:=fun o=>{ o with opens:=o.opens+1 }) (g:=aN.gone) (fun _=>rfl)] at hg
   have h2:=hI.full u hu hg
   grind [obj,aD,cV,fC]
  rw [kV hlt];exact hI
theorem Inv.fS (hI:Inv S) {k:Nat} (ht:Live S.idx ⟨k,1⟩) (bs:List UInt8):Inv (Proofs.YtnipofpbcggjcaaGreat.fS S k bs).2.2:=by
  unfold Proofs.YtnipofpbcggjcaaGreat.fS
  split
  ·exact hI
  split
  ·exact hI
  rename_i hroom
  have hlen:(obj (aD S.O k (fun o=>{ o with data:=o.data++bs.take (bR S.X bs.length),sec:=S.X.cS,nano:=S.X.cZ })) k).data.length=(obj S.O k).data.length+bR S.X bs.length:=by
    rw [cV]
    show ((obj S.O k).data++bs.take (bR S.X bs.length)).length=_
    rw [List.length_append,List.length_take]
    unfold bR
    omega
  have hb:=Dm (g:=fun p:Int×Th=>(obj S.O p.2.k).data.length) (g':=fun p:Int×Th=>(obj (aD S.O k (fun o=>{ o with data:=o.data++bs.take (bR S.X bs.length),sec:=S.X.cS,nano:=S.X.cZ })) p.2.k).data.length) hI.rise ht (fun p hp hne=>by
    have h1:=hI.key (kH hI.rise hp)
    show (obj (aD _ k _) p.2.k).data.length=_
    rw [fC (fun e=>hne (by rw [h1,e]))])
  have hb:bytes S.idx (aD S.O k (fun o=>{ o with data:=o.data++bs.take (bR S.X bs.length),sec:=S.X.cS,nano:=S.X.cZ }))+(obj S.O k).data.length=bytes S.idx S.O+(obj (aD S.O k (fun o=>{ o with data:=o.data++bs.take (bR S.X bs.length),sec:=S.X.cS,nano:=S.X.cZ })) k).data.length:=hb
  have hu:=hI.used
  have hcB:=hI.cB
  have h1:=hI.toInv0.own (k:=k) (f:=fun o=>{ o with data:=o.data++bs.take (bR S.X bs.length),sec:=S.X.cS,nano:=S.X.cZ }) (oH:=S.X.used+(bR S.X bs.length:Int)) (us':=S.us) (iK:=S.ar) (fun _=>rfl) (fun _=>rfl) (fun _=>rfl) (fun _=>rfl) (fun _=>rfl) (fun _=>rfl)
    (fun u hu e=>by
      have hk1:u=⟨k,1⟩:=fQ hu ht e
      have Z6:=hI.kind hu
      rw [← e]
      exact (hI.mt u hu).of rfl rfl rfl hI.now rfl (.inr (by rw [Z6,hk1])) (.inl rfl) rfl)
    (fun u hu=>by rw [cu (f:=fun o=>{ o with data:=o.data++bs.take (bR S.X bs.length),sec:=S.X.cS,nano:=S.X.cZ }) (g:=aN.opens) (fun _=>rfl)];exact hI.opens u hu)
    hI.usr hI.tR hI.Az hI.ar hI.us ⟨by omega,by unfold bR;omega⟩
  refine⟨h1,fun u hu hg=>?_⟩
  have hg:(obj (aD S.O k (fun o=>{ o with data:=o.data++bs.take (bR S.X bs.length),sec:=S.X.cS,nano:=S.X.cZ })) u.k).gone=true:=hg
  rw [cu (f:=fun o=>{ o with data:=o.data++bs.take (bR S.X bs.length),sec:=S.X.cS,nano:=S.X.cZ }) (g:=aN.gone) (fun _=>rfl)] at hg
  show 0 < (obj (aD S.O k (fun o=>{ o with data:=o.data++bs.take (bR S.X bs.length),sec:=S.X.cS,nano:=S.X.cZ })) u.k).opens
  rw [cu (f:=fun o=>{ o with data:=o.data++bs.take (bR S.X bs.length),sec:=S.X.cS,nano:=S.X.cZ }) (g:=aN.opens) (fun _=>rfl)]
  exact hI.full u hu hg
theorem Inv.Z7 (hI:Inv S) {k:Nat} {mode uid gid sec nano:Int} (h1:gA mode) (h2:mh uid/\mh gid) (h3:dw sec nano):Inv { S with O:=aD S.O k (fun o=>{ o with mode:=mode,uid:=uid,gid:=gid,sec:=sec,nano:=nano }) }:=by
  have hb:bytes S.idx (aD S.O k (fun o=>{ o with mode:=mode,uid:=uid,gid:=gid,sec:=sec,nano:=nano }))=bytes S.idx S.O:=iJ (fun p _=>by rw [cu (f:=fun o=>{ o with mode:=mode,uid:=uid,gid:=gid,sec:=sec,nano:=nano }) (g:=aN.data) (fun _=>rfl)])
  have g1:=hI.toInv0.own (k:=k) (f:=fun o=>{ o with mode:=mode,uid:=uid,gid:=gid,sec:=sec,nano:=nano }) (oH:=S.X.used) (us':=S.us) (iK:=S.ar) (fun _=>rfl) (fun _=>rfl) (fun _=>rfl) (fun _=>rfl) (fun _=>rfl) (fun _=>rfl)
    (fun u hu e=>by
      have hm:=hI.mt u hu
      rw [e] at hm
      exact⟨h1,h2.1,h2.2,h3,hm.data,hm.ah,hm.target⟩)
    (fun u hu=>by rw [cu (f:=fun o=>{ o with mode:=mode,uid:=uid,gid:=gid,sec:=sec,nano:=nano }) (g:=aN.opens) (fun _=>rfl)];exact hI.opens u hu)
    hI.usr hI.tR hI.Az hI.ar hI.us ⟨by rw [hb];exact hI.used.1,hI.used.2⟩
  refine⟨g1,fun u hu hg=>?_⟩
  have hg:(obj (aD S.O k (fun o=>{ o with mode:=mode,uid:=uid,gid:=gid,sec:=sec,nano:=nano })) u.k).gone=true:=hg
  rw [cu (f:=fun o=>{ o with mode:=mode,uid:=uid,gid:=gid,sec:=sec,nano:=nano }) (g:=aN.gone) (fun _=>rfl)] at hg
  show 0 < (obj (aD S.O k (fun o=>{ o with mode:=mode,uid:=uid,gid:=gid,sec:=sec,nano:=nano })) u.k).opens
  rw [cu (f:=fun o=>{ o with mode:=mode,uid:=uid,gid:=gid,sec:=sec,nano:=nano }) (g:=aN.opens) (fun _=>rfl)]
  exact hI.full u hu hg
theorem Inv.shut (hI:Inv S) {h:Int} (e:aq.get S.us h=some t):Inv { S with
      X:={ S.X with used:=mg (qq S.O t.k) S.X.used t }
      O:=qq S.O t.k
      idx:=iB (qq S.O t.k) S.idx t
      us:=del h S.us }:=by
  have ht:=(hI.us h t e).1
  have hb:bytes S.idx (qq S.O t.k)=bytes S.idx S.O:=iJ (fun p _=>by unfold qq;rw [cu (f:=fun o=>{ o with opens:=o.opens - 1 }) (g:=aN.data) (fun _=>rfl)])
  have hd:=fun k=>Mw (k:=k) hI.usr e
  have h1:=hI.toInv0.own (k:=t.k) (f:=fun o=>{ o with opens:=o.opens - 1 }) (oH:=S.X.used) (us':=del h S.us) (iK:=S.ar) (fun _=>rfl) (fun _=>rfl) (fun _=>rfl) (fun _=>rfl) (fun _=>rfl) (fun _=>rfl)
    (fun u hu e=>by rw [← e];exact (hI.mt u hu).of rfl rfl rfl (hI.mt u hu).time rfl (.inl rfl) (.inl rfl) rfl)
    (fun u hu=>by
      have h2:=hI.opens u hu
      have h3:=hd u.k
      by_cases e2:u.k=t.k
      ·rw [e2,cV]
       rw [e2] at h2 h3
       rw [if_pos rfl] at h3
       show (obj S.O t.k).opens - 1=_
       omega
      rw [if_neg (fun e3=>e2 e3.symm)] at h3
      rw [fC e2];omega)
    (Jx hI.usr) (fun x hx=>hI.tR x (by rw [qI] at hx;exact (List.mem_filter.1 hx).1)) (by have:=sF hI.usr (get_some e);have:=hI.Az;omega) hI.ar (fun i u hu=>by
      rw [uY] at hu
      split at hu
      ·cases hu
      exact hI.us i u hu) ⟨by rw [show bytes S.idx (aD S.O t.k (fun o=>{ o with opens:=o.opens - 1 }))=bytes S.idx S.O from hb];exact hI.used.1,hI.used.2⟩
  exact h1.uS (t:=t) ht (fun u hu hut hg=>by
    have hk:u.k≠t.k:=fun e=>hut (fQ hu ht e)
    have hg:(obj (aD S.O t.k (fun o=>{ o with opens:=o.opens - 1 })) u.k).gone=true:=hg
    rw [fC hk] at hg
    show 0 < (obj (aD S.O t.k (fun o=>{ o with opens:=o.opens - 1 })) u.k).opens
    rw [fC hk]
    exact hI.full u hu hg)
end ops
end
section
open Go.RowKit Go.Maps aX aq
section facts
variable {S:aL} {X:FM} {O:bZ} {d k to:Nat} {name toName:ByteArray} {t o:Th}
def AK (dp:Nat->Nat):Option Nat->Nat
  | none=>0
  | some y=>dp y+1
theorem Qc {dp:Nat->Nat} (h:∀ k d,(obj O k).up=some d->dp d < dp k) {y:Nat}:AK dp (obj O y).up < AK dp (some y):=by
  cases e:(obj O y).up with
  | none=>exact Nat.succ_pos _
  | some z=>exact Nat.succ_lt_succ (h y z e)
theorem Ei {s y:Nat} (h:¬ y=s):ox O s y↔∃ z,(obj O y).up=some z/\ox O s z:=GU.trans (or_iff_right h)
theorem Ej (hne:t.k≠d):(obj (aE S d name t).O k).ah=if k=d then gZ name (obj S.O d).ah else (obj S.O k).ah:=by
  have h1:(obj (aE S d name t).O k).ah=(obj (aG S.X S.O d name t) k).ah:=by
    unfold aE
    simp only
    split
    ·exact sK (g:=aN.ah) (fun _ _=>rfl)
    rfl
  grind [iE]
theorem tU (hI:Inv0 S) (hto:Live S.idx ⟨to,2⟩) (hl2:aM toName (obj S.O to).ah=some o) (hl:aM name (obj S.O d).ah=some t) (hot:o≠t):aM name (obj (aE S to toName o).O d).ah=some t:=by
  rw [Ej (hI.ne hto hl2)]
  grind [tM]
theorem tV (hI:Inv0 S) (hto:Live S.idx ⟨to,2⟩) (hl2:aM toName (obj S.O to).ah=some o):aM toName (obj (aE S to toName o).O to).ah=none:=by
  rw [Ej (hI.ne hto hl2),if_pos rfl,tM,if_pos rfl]
theorem kW (hI:Inv0 S) (hto:Live S.idx ⟨to,2⟩) (hl2:aM toName (obj S.O to).ah=some o) (hx:Live S.idx t) (hk:t.k≠o.k):Live (aE S to toName o).idx t:=by
  unfold aE
  simp only
  split
  ·unfold iB
   split
   ·unfold Live
    rw [uY,if_neg]
    ·exact hx
    intro e
    have h1:=(hI.ob o (hI.ent hto hl2).2).1
    rw [sK (g:=aN.id) (fun _ _=>rfl),cE (g:=aN.id) (fun _ _=>rfl) (fun _ _=>rfl) (fun _ _ _=>rfl),h1] at e
    exact hk (by omega)
   exact hx
  exact hx
theorem o4 (hne:t.k≠d):(obj (aG X O d name t) k).ah.length<=(obj O k).ah.length:=by
  rw [iE hne]
  split
  ·rename_i e
   subst e
   exact List.length_filter_le _ _
  split<;>exact Nat.le_refl _
theorem mG (hI:Inv0 S) (hd:Live S.idx ⟨d,2⟩) (hl:aM name (obj S.O d).ah=some t):0<=(obj (aG S.X S.O d name t) t.k).links/\(obj (aG S.X S.O d name t) t.k).links<=1048576:=by
  have ht:=(hI.ent hd hl).2
  have h1:=hI.links t ht
  have h2:0 < jx S.idx S.O t.k:=ny hd hl
  have h3:=hI.lb ht
  rw [iE (hI.ne hd hl),if_neg (hI.ne hd hl),if_pos rfl]
  grind
end facts
end
section
open Go.RowKit Go.Maps aX aq
theorem bh.take {β:Bs} {A:Option Addr} {d:List UInt8} (h:bh β A d) (n:Nat):bh β A (d.take n):=by
  intro j v hj
  refine h j v ?_
  grind [cx]
theorem NT {a b:List UInt8}:cx (a++b)=cx a++cx b:=List.map_append
theorem Inv0.Z8 {S:aL} {t:Th} (h:Inv0 S) (hl:Live S.idx t):((obj S.O t.k).data.length:Int)<=S.X.used:=by
  have h1:=h.used
  have h2:(obj S.O t.k).data.length<=bytes S.idx S.O:=oA (g:=fun p:Int×Th=>(obj S.O p.2.k).data.length) hl
  omega
theorem Qd {X:FM} {n:Nat} (h:0 < X.cB - X.used):min (n:Int) (X.cB - X.used)=(bR X n:Int):=by
  unfold bR
  omega
theorem Qe {X:FM} {n:Nat} (h:0 < X.cB - X.used):bR X n<=n/\(bR X n:Int)<=X.cB - X.used:=by
  unfold bR
  omega
section data
variable {O:bZ} {us:Used Th} {L L':HL} {k c:Nat} {A:Option Addr} {t:Th}
theorem JF (hL:L'=L.data k A c):bC L' us=bC L us:=by subst hL;rfl
theorem Tp (hL:L'=L.data k A c):dL O L'=dL O L:=by
  subst hL
  funext x
  rfl
theorem Tq (hL:L'=L.data k A c) {x:Nat} (h:x≠k):cJ O L' x=cJ O L x:=by
  have e2:iP L' x (obj O x)=iP L x (obj O x):=by
    subst hL
    unfold iP BR
    simp only [HL.data,if_neg h]
    rfl
  unfold cJ
  rw [e2]
  subst hL
  rfl
theorem Tr (hL:L'=L.data k A c) {x:Nat} (h:x≠k):bX O L' x=bX O L x:=by
  unfold bX
  subst hL
  simp only [HL.data,if_neg h]
theorem Mz (hL:L'=L.data k A c):L'.dA k=A:=by subst hL;exact if_pos rfl
theorem MB (hL:L'=L.data k A c):L'.dC k=c:=by subst hL;exact if_pos rfl
theorem Qf (hL:L'=L.data k A c) {x:Nat}:L'.b x=L.b x:=by subst hL;rfl
end data
section sat
variable {β:Bs} {l l':List HP} {w:World} {i j k c n:Nat} {O:bZ} {L L':HL} {f:aN->aN} {cs:List Value} {T:TypeId} {ix:List Nat} {A:Option Addr} {R:Nat->ct} {xs:List Value}
theorem Sat.XP (h:Sat β l w) (hL:L'=L.data k A c) (hp:l[i]?=some (.abs (aF (mZ (cJ O L) k ct.none)))) (hq:l[j]?=some (.blk (L.b k) cs T)) (hd:aP (i::j::ix)=true) (hl:bp l ix=some l') (h0:(f (obj O k)).kind≠0) (hc:iP L' k (f (obj O k))=cs) (hT:qg (f (obj O k)).kind=T):Sat β (.abs (aF (cJ (aD O k f) L'))::l') w:=by
  refine h.uN (a:=Dg (L.b k) cs T) hp hq (fun _ _ h=>h) hd hl k (fun x hx=>?_) (by rw [xS,if_neg h0,hc,hT,Qf hL])
  rw [xT hx,Tq hL hx,qX hx]
theorem Sat.XQ (h:Sat β l w) (hL:L'=L.data k A c) (hp:l[i]?=some (.abs (aF (mZ (bX O L) k ct.none)))) (hq:l[j]?=some (.abs (av 5 1 A n c xs))) (hd:aP (i::j::ix)=true) (hl:bp l ix=some l') (h1:(f (obj O k)).kind=1) (hn:n=(f (obj O k)).data.length) (hx:xs=cx (f (obj O k)).data):Sat β (.abs (aF (bX (aD O k f) L'))::l') w:=by
  refine h.uN hp hq (fun _ _ h=>h) hd hl k (fun x hx=>by rw [Ak hx,Tr hL hx,qX hx]) ?_
  grind [vD,cV,Mz,MB]
end sat
end
section
def r9 (n:Int):Prop:=n=n
end
section
open Go.RowKit Go.Maps aX aq
structure iO (β:Bs) (c:aH):Prop where
  hw:(Lit.int .i64 c.handle).wf=true
  ow:(Lit.int .i64 c.other).wf=true
  nm:c.name.size<=1048576
  tx:c.text.size<=1048576
  da:bh β c.dA c.data
  dl:c.data.length<=1099511627776
  dc:c.data.length<=c.dC
  op:r9 c.op
section facts
variable {S:aL} {h:Int} {name:ByteArray} {need:Int} {t:Th} {c:aH}
theorem iu (hI:Inv0 S) (h:Int) (name:ByteArray) (need:Int):(∃ e,dF S.O S.us h name need=.error e/\e≠0)\/∃ d,dF S.O S.us h name need=.ok d/\Live S.idx ⟨d,2⟩/\(obj S.O d).gone=false/\bQ name/\aq.get S.us h=some ⟨d,2⟩:=by
  unfold dF
  cases e:aq.get S.us h with
  | none=>exact .inl ⟨131,rfl,by decide⟩
  | some t=>
    simp only
    split
    ·rename_i hk
     split
     ·exact .inl ⟨170,rfl,by decide⟩
     rename_i hg
     split
     ·rename_i hn
      split
      ·obtain⟨k,kd⟩:=t
       simp only at hk
       subst hk
       exact .inr ⟨k,rfl,(hI.us h _ e).1,by simpa using hg,hn,rfl⟩
      exact .inl ⟨175,rfl,by decide⟩
     exact .inl ⟨95,rfl,by decide⟩
    exact .inl ⟨173,rfl,by decide⟩
theorem Ek (hI:Inv0 S) (c:aH):(∃ e,fq S.O S.us c=.error e/\e≠0)\/(∃ k,fq S.O S.us c=.ok ⟨k,1⟩/\Live S.idx ⟨k,1⟩)\/(∃ k,fq S.O S.us c=.ok ⟨k,2⟩/\Live S.idx ⟨k,2⟩)\/∃ k,fq S.O S.us c=.ok ⟨k,3⟩/\Live S.idx ⟨k,3⟩:=by
  unfold fq
  rcases iu hI c.handle c.name 64 with ⟨e,h1,h2⟩|⟨d,h1,h2,_⟩
  ·rw [h1];exact .inl ⟨e,rfl,h2⟩
  rw [h1]
  simp only
  rcases hI.qE h2 c.name with h3|⟨k,h3,h4⟩|⟨k,h3,h4⟩|⟨k,h3,h4⟩
  all_goals grind
theorem JG {L:HL} {us:Used Th} {h:Int}:bC L (del h us)=del h (bC L us):=Fw (eT L) h us
theorem MC {us:Used Th} {h:Int} (e:aq.get us h=some t):0 < hnd us t.k:=Nat.lt_of_lt_of_le (by simp) (oA (g:=fun p:Int×Th=>if p.2.k=t.k then 1 else 0) e)
theorem Dq {L:HL}:bX (cr S t).2.2.O L=bX S.O L:=by
  by_cases h:(S.us.length:Int) < S.X.cH
  ·rw [jE h];exact vJ (fun _=>cu (f:=fun o=>{ o with opens:=o.opens+1 }) (g:=aN.data) (fun _=>rfl)) (fun _=>lq (f:=fun o=>{ o with opens:=o.opens+1 }) (fun _=>rfl))
  rw [kV h]
theorem Dr {L:HL}:dL (cr S t).2.2.O L=dL S.O L:=by
  grind [jE,pU,kV]
theorem Wu:(iq S c).2.2.op=c.op:=by unfold iq;(repeat' split)<;>rfl
theorem NU:(dG S c).2.2.op=c.op:=by unfold dG;(repeat' split)<;>rfl
theorem LD:(dg S c).2.2.op=c.op:=by unfold dg;(repeat' split)<;>rfl
theorem NV:(eZ S c).2.2.op=c.op:=by unfold eZ;(repeat' split)<;>rfl
theorem LF:(cM S c).2.2.op=c.op:=by unfold cM;(repeat' split)<;>rfl
theorem JH:(dZ S c).2.2.op=c.op:=by unfold dZ;(repeat' split)<;>rfl
theorem Qg:(bT S c).2.2.op=c.op:=by unfold bT;(repeat' split)<;>rfl
theorem LG:(fI S c).2.2.op=c.op:=by unfold fI;(repeat' split)<;>rfl
theorem NW:(gD S c).2.2.op=c.op:=by unfold gD;(repeat' split)<;>rfl
theorem LH:(eO S c).2.2.op=c.op:=by unfold eO;(repeat' split)<;>rfl
theorem NY:(dU S c).2.2.op=c.op:=by unfold dU;(repeat' split)<;>rfl
theorem NZ:(bw S c).2.2.op=c.op:=by unfold bw;(repeat' split)<;>rfl
theorem Wv:(jS S c).2.2.op=c.op:=by unfold jS;(repeat' split)<;>rfl
theorem Qh:(fL S c).2.2.op=c.op:=by unfold fL;(repeat' split)<;>rfl
theorem Ts:(fY S c).2.2.op=c.op:=by unfold fY;(repeat' split)<;>rfl
end facts
theorem Ca {S:aL} {c:aH} (h:c.op=1):eU S c=iq S c:=by
  unfold eU
  simp [h]
theorem Cb {S:aL} {c:aH} (h:c.op=2):eU S c=dG S c:=by
  unfold eU
  simp [h]
theorem El {S:aL} {c:aH} (h:c.op=3):eU S c=dg S c:=by
  unfold eU
  simp [h]
theorem Cc {S:aL} {c:aH} (h:c.op=4):eU S c=eZ S c:=by
  unfold eU
  simp [h]
theorem Em {S:aL} {c:aH} (h:c.op=5):eU S c=cM S c:=by
  unfold eU
  simp [h]
theorem En {S:aL} {c:aH} (h:c.op=6):eU S c=dZ S c:=by
  unfold eU
  simp [h]
theorem Eo {S:aL} {c:aH} (h:c.op=7):eU S c=bT S c:=by
  unfold eU
  simp [h]
theorem Ep {S:aL} {c:aH} (h:c.op=8):eU S c=fI S c:=by
  unfold eU
  simp [h]
theorem Er {S:aL} {c:aH} (h:c.op=9):eU S c=dU S c:=by
  unfold eU
  simp [h]
theorem AL {S:aL} {c:aH} (h:c.op=10):eU S c=bw S c:=by
  unfold eU
  simp [h]
theorem AO {S:aL} {c:aH} (h:c.op=11):eU S c=jS S c:=by
  unfold eU
  simp [h]
theorem AP {S:aL} {c:aH} (h:c.op=12):eU S c=fL S c:=by
  unfold eU
  simp [h]
theorem AQ {S:aL} {c:aH} (h:c.op=13):eU S c=fY S c:=by
  unfold eU
  simp [h]
theorem AR {S:aL} {c:aH} (h:c.op=14):eU S c=gD S c:=by
  unfold eU
  simp [h]
theorem AU {S:aL} {c:aH} (h:c.op=15):eU S c=eO S c:=by
  unfold eU
  simp [h]
theorem Es {S:aL} {c:aH} (h:¬ (1<=c.op/\c.op<=15)):eU S c=(230,S,c):=by
  unfold eU
  repeat rw [if_neg (by omega)]
end
section
open Go.RowKit Go.Maps aX aq
section inv
variable {S:aL} {d to:Nat} {name toName text:ByteArray} {mode:Int} {c:aH}
theorem JI (hI:Inv0 S):hnd S.us (aK S.X)=0:=by
  have:hnd S.us (aK S.X)=dP (fun _=>0) S.us:=iJ (fun p hp=>if_neg (hI.fresh.us p hp))
  rw [this]
  have h0:∀ us:Used Th,dP (fun _=>0) us=0:=fun us=>by
    induction us with
    | nil=>rfl
    | cons p r ih=>show 0+_=0;rw [ih]
  exact h0 _
theorem CC (hI:Inv0 S) {kind mode:Int} {tg:ByteArray} (hm:gA mode) (ht:bW kind tg):nw { cD S.X kind mode with target:=tg }:=
  ⟨hm,⟨Int.le_refl _,by show (0:Int)<=2147483647;decide⟩,⟨Int.le_refl _,by show (0:Int)<=2147483647;decide⟩,hI.now,fun _=>rfl,fun _=>rfl,ht⟩
theorem Inv.Ve (hI:Inv S) (hd:Live S.idx ⟨d,2⟩) (mM:(obj S.O d).gone=false) (j4:bQ name) (h0:dO S.X S.O S.idx d name=0) {kind mode:Int} {tg:ByteArray} (hk:kind=1\/kind=2\/kind=3) (hm:gA mode) (ht:bW kind tg) :
    Inv (fA S d name { cD S.X kind mode with target:=tg }):=by
  have h:=hI.add (us':=S.us) (iK:=S.ar) (o:={ cD S.X kind mode with target:=tg }) hd mM (tT h0) j4 (xB h0) rfl hk rfl rfl rfl rfl rfl (CC hI.toInv0 hm ht) hI.usr hI.tR hI.Az hI.ar (fun h t e=>⟨.inl (hI.us h t e).1,(hI.us h t e).2⟩) (fun _ _=>rfl) (by rw [JI hI.toInv0];rfl)
  exact h
theorem Inv.kx (hI:Inv S) (hd:Live S.idx ⟨d,2⟩) (mM:(obj S.O d).gone=false) (j4:bQ name) (hm:gA mode):Inv (Proofs.YtnipofpbcggjcaaGreat.kx S d name mode).2:=by
  unfold Proofs.YtnipofpbcggjcaaGreat.kx
  split
  ·rename_i h0
   exact hI.Ve hd mM j4 h0 (.inr (.inl rfl)) hm (.inl ⟨by decide,rfl⟩)
  exact hI
theorem Ww {s:ByteArray} (h:iQ s=0):bW 3 s:=by
  grind [iQ,pQ,bW]
theorem Inv.ia (hI:Inv S) (hd:Live S.idx ⟨d,2⟩) (mM:(obj S.O d).gone=false) (j4:bQ name):Inv (Proofs.YtnipofpbcggjcaaGreat.ia S d name text).2:=by
  unfold Proofs.YtnipofpbcggjcaaGreat.ia
  split
  ·rename_i hb
   split
   ·rename_i h0
    exact hI.Ve hd mM j4 h0 (.inr (.inr rfl)) ⟨by decide,by decide⟩ (Ww hb)
   exact hI
  exact hI
theorem Inv.fH (hI:Inv S) (hd:Live S.idx ⟨d,2⟩):Inv (Proofs.YtnipofpbcggjcaaGreat.fH S d name).2:=by
  unfold Proofs.YtnipofpbcggjcaaGreat.fH
  split
  ·exact hI
  rename_i t hl
  split
  ·exact hI
  rename_i hk
  exact hI.BZ hd hl hk
theorem Inv.fX (hI:Inv S) (hd:Live S.idx ⟨d,2⟩):Inv (Proofs.YtnipofpbcggjcaaGreat.fX S d name).2:=by
  unfold Proofs.YtnipofpbcggjcaaGreat.fX
  split
  ·exact hI
  rename_i t hl
  split
  ·split
   ·rename_i he
    exact hI.drop hd hl (fun _=>he)
   exact hI
  exact hI
theorem N0 {t:Th} (ht:t.k≠to):(obj (aE S d name t).O to).gone=(obj S.O to).gone:=by
  have h1:(obj (aE S d name t).O to).gone=(obj (aG S.X S.O d name t) to).gone:=by
    unfold aE
    simp only
    split
    ·show (obj (aD _ t.k _) to).gone=_
     rw [fC (fun e=>ht e.symm)]
    rfl
  rw [h1]
  exact cE (g:=aN.gone) (fun _ _=>rfl) (fun _ _=>rfl) (fun _ _ _=>rfl)
theorem Inv.bG (hI:Inv S) (hd:Live S.idx ⟨d,2⟩) (hto:Live S.idx ⟨to,2⟩) (mM:(obj S.O to).gone=false) (j4:bQ toName):Inv (Proofs.YtnipofpbcggjcaaGreat.bG S d name to toName).2:=by
  unfold Proofs.YtnipofpbcggjcaaGreat.bG
  split
  ·exact hI
  rename_i t hl
  split
  ·exact hI
  rename_i hb
  have hb:t.kind=2->¬ ox S.O t.k to:=fun h1 h2=>hb ⟨h1,h2⟩
  split
  ·rename_i hn
   exact hI.move hd hl hto mM hn j4 hb
  rename_i o hl2
  split
  ·exact hI
  rename_i hot
  split
  ·exact hI
  rename_i hok
  split
  ·exact hI
  rename_i htk
  have ho:=(hI.ent hto hl2).2
  have XR:o.k≠to:=hI.ne hto hl2
  have h1:=hI.BZ hto hl2 hok
  have hd1:Live (aE S to toName o).idx ⟨d,2⟩:=kW hI.toInv0 hto hl2 hd (fun e=>hok (by have:=fQ hd ho e;rw [← this]))
  have kS:Live (aE S to toName o).idx ⟨to,2⟩:=kW hI.toInv0 hto hl2 hto (fun e=>XR e.symm)
  exact h1.move hd1 (tU hI.toInv0 hto hl2 hl hot) kS (by rw [N0 XR];exact mM) (tV hI.toInv0 hto hl2) j4 (fun h=>absurd h htk)
theorem Inv.jP (hI:Inv S) (hd:Live S.idx ⟨d,2⟩) (hto:Live S.idx ⟨to,2⟩) (mM:(obj S.O to).gone=false) (j4:bQ toName):Inv (Proofs.YtnipofpbcggjcaaGreat.jP S d name to toName).2:=by
  unfold Proofs.YtnipofpbcggjcaaGreat.jP
  split
  ·exact hI
  rename_i t hl
  have ht:=(hI.ent hd hl).2
  split
  ·exact hI
  rename_i hk
  split
  ·rename_i hn
   split
   ·rename_i hr
    have hgt:(obj S.O t.k).gone=false:=by
      cases hg:(obj S.O t.k).gone with
      | false=>rfl
      | true=>
        have h1:=(hI.gone t ht hg).1
        have h2:=hI.links t ht
        have h3:0 < jx S.idx S.O t.k:=ny hd hl
        omega
    exact hI.link hto mM hn j4 ht hgt hk hr
   exact hI
  exact hI
theorem Inv.kG (hI:Inv S) (hd:Live S.idx ⟨d,2⟩) (mM:(obj S.O d).gone=false) (j4:bQ name) (hm:gA mode):Inv (Proofs.YtnipofpbcggjcaaGreat.kG S d name mode).2.2:=by
  unfold Proofs.YtnipofpbcggjcaaGreat.kG
  split
  ·rename_i h0
   split
   ·rename_i hlt
    obtain⟨g1,g2,_⟩:=least_le hI.usr (fun x hx=>(hI.tR x hx).1)
    obtain⟨v1,v2⟩:=Mx (t:=⟨aK S.X,1⟩) hI.usr hI.tR
    have hm2:=CC (kind:=1) (tg:=⟨#[]⟩) hI.toInv0 hm (.inl ⟨by decide,rfl⟩)
    refine hI.add (us':=ins (aq.least S.us) ⟨aK S.X,1⟩ S.us) (iK:=max S.ar ((S.us.length:Int)+1)) (o:={ cD S.X 1 mode with opens:=1 }) hd mM (tT h0) j4 (xB h0) rfl (.inl rfl) rfl rfl rfl rfl rfl ⟨hm2.mode,hm2.uid,hm2.gid,hm2.time,hm2.data,hm2.ah,hm2.target⟩ v1 v2 (by rw [iH];omega) (by have:=hI.ar;omega) (fun h t e=>?_) (fun k hk=>?_) ?_
    ·rw [uX g2] at e
     split at e
     ·cases e;exact⟨.inr rfl,by show (1:Int)≠3;decide⟩
     exact⟨.inl (hI.us h t e).1,(hI.us h t e).2⟩
    ·grind [FH]
    rw [FH,if_pos rfl,JI hI.toInv0];rfl
   exact hI
  exact hI
theorem Inv.eU (hI:Inv S) (c:aH):Inv (Proofs.YtnipofpbcggjcaaGreat.eU S c).2.1:=by
  have habout:∀ {need:Int} {d:Nat} {h:Int} {n:ByteArray},dF S.O S.us h n need=.ok d->Live S.idx ⟨d,2⟩/\(obj S.O d).gone=false/\bQ n:=fun {need d h n} e=>by
    rcases iu hI.toInv0 h n need with ⟨e2,h1,_⟩|⟨d2,h1,h2,h3,h4,_⟩
    all_goals grind
  have Qi:∀ {t:Th},fq S.O S.us c=.ok t->Live S.idx t:=fun {t} e=>by
    rcases Ek hI.toInv0 c with ⟨e2,h1,_⟩|⟨k,h1,h2⟩|⟨k,h1,h2⟩|⟨k,h1,h2⟩<;>rw [e] at h1<;>cases h1<;>exact h2
  by_cases h:1<=c.op/\c.op<=15
  ·have h:c.op=1\/c.op=2\/c.op=3\/c.op=4\/c.op=5\/c.op=6\/c.op=7\/c.op=8\/c.op=9\/c.op=10\/c.op=11\/c.op=12\/c.op=13\/c.op=14\/c.op=15:=by omega
   rcases h with h|h|h|h|h|h|h|h|h|h|h|h|h|h|h
   ·rw [Ca h]
    unfold iq
    split
    ·exact hI
    rename_i t e
    split
    ·rename_i hk;exact hI.cr (hI.live e) (by rw [hk];decide)
    exact hI
   ·rw [Cb h]
    unfold dG
    split
    ·exact hI
    rename_i t e
    split
    ·exact hI
    rename_i hk
    split
    ·exact hI
    exact hI.cr (Qi e) hk
   ·rw [El h]
    unfold dg
    split
    ·exact hI
    rename_i t e
    split
    ·exact hI
    rename_i hk
    split
    ·exact hI
    exact hI.cr (Qi e) hk
   ·rw [Cc h]
    unfold eZ
    split
    ·exact hI
    rename_i d e
    obtain⟨h1,h2,h3⟩:=habout e
    split
    ·rename_i hm;exact hI.kx h1 h2 h3 hm
    exact hI
   ·rw [Em h]
    unfold cM
    split
    ·exact hI
    rename_i d e
    obtain⟨h1,h2,h3⟩:=habout e
    split
    ·rename_i hm
     split
     ·exact hI.kG h1 h2 h3 hm
     exact hI
    exact hI
   ·rw [En h]
    unfold dZ
    split
    ·exact hI
    rename_i d e
    obtain⟨h1,h2,h3⟩:=habout e
    exact hI.ia h1 h2 h3
   ·rw [Eo h]
    unfold bT
    split
    ·exact hI
    rename_i d e
    split
    ·exact hI
    rename_i to e2
    obtain⟨h1,h2,h3⟩:=habout e2
    exact hI.jP (habout e).1 h1 h2 h3
   ·rw [Ep h]
    unfold fI
    split
    ·exact hI
    rename_i d e
    exact hI.fH (habout e).1
   ·rw [Er h]
    unfold dU
    split
    ·exact hI
    rename_i t e
    split
    ·rename_i hk
     obtain⟨k,kd⟩:=t
     simp only at hk
     subst hk
     exact hI.fS (hI.us _ _ e).1 _
    exact hI
   ·rw [AL h]
    unfold bw
    split
    ·exact hI
    split
    ·exact hI
    split
    ·rename_i hm
     split
     ·rename_i ho
      split
      ·rename_i ht;exact hI.Z7 hm ho ht
      exact hI
     exact hI
    exact hI
   ·rw [AO h]
    unfold jS
    split<;>exact hI
   ·rw [AP h]
    unfold fL
    split<;>exact hI
   ·rw [AQ h]
    unfold fY
    split
    ·exact hI
    rename_i t e;exact hI.shut e
   ·rw [AR h]
    unfold gD
    split
    ·exact hI
    rename_i d e
    exact hI.fX (habout e).1
   rw [AU h]
   unfold eO
   split
   ·exact hI
   rename_i d e
   split
   ·exact hI
   rename_i to e2
   obtain⟨h1,h2,h3⟩:=habout e2
   exact hI.bG (habout e).1 h1 h2 h3
  rw [Es h];exact hI
theorem Inv.iD (hI:Inv S) (c:aH):Inv (Proofs.YtnipofpbcggjcaaGreat.iD S c).1:=hI.eU _
end inv
end
end Go.Proofs.YtnipofpbcggjcaaGreat
section
namespace Go.Proofs
open Go.Shelf
def Tryz.keysS_ren:Go.Shelf.Ren:=⟨fun|7=>52|10=>102|n=>n,fun|23=>95|26=>9|3=>82|28=>131|0=>0|27=>130|33=>144|4=>4|n=>n,fun|n=>n⟩
theorem Tryz.keysS:Go.Proofs.SlLaysZ.n7 Tryz.prog Tryz.keysS_ren:={
  mixed:=by kernel_rfl
  f7:=⟨Tryz.f52.name,by decide,Tryz.func52.trans (congrArg some (by kernel_rfl))⟩
  f10:=⟨Tryz.f102.name,by decide,Tryz.func102.trans (congrArg some (by kernel_rfl))⟩
  t0:=Tryz.underlying0
  a0:=Tryz.isAgg0
  z0:=Tryz.sizeOf0
  v0:=Tryz.zeroValue0
  t4:=Tryz.underlying4
  a4:=Tryz.isAgg4
  z4:=Tryz.sizeOf4
  v4:=Tryz.zeroValue4
  t23:=Tryz.underlying95
  a23:=Tryz.isAgg95
  z23:=Tryz.sizeOf95
  v23:=Tryz.zeroValue95
  t26:=Tryz.underlying9
  a26:=Tryz.isAgg9
  z26:=Tryz.sizeOf9
  v26:=Tryz.zeroValue9
  t27:=Tryz.underlying130
  a27:=Tryz.isAgg130
  z27:=Tryz.sizeOf130
  v27:=Tryz.zeroValue130
  t28:=Tryz.underlying131
  a28:=Tryz.isAgg131
  z28:=Tryz.sizeOf131
  v28:=Tryz.zeroValue131
  t33:=Tryz.underlying144
  a33:=Tryz.isAgg144
  z33:=Tryz.sizeOf144
  v33:=Tryz.zeroValue144 }
def Tryz.sortedS_ren:Go.Shelf.Ren:=⟨fun|6=>51|8=>100|9=>101|11=>137|13=>136|12=>138|23=>161|24=>162|14=>163|15=>164|16=>165|17=>166|18=>167|19=>168|20=>169|21=>170|22=>171|25=>182|26=>177|27=>178|28=>183|29=>184|30=>185|31=>190|n=>n,fun|26=>9|28=>131|24=>128|0=>0|3=>3|37=>198|48=>218|50=>220|4=>4|40=>212|39=>211|45=>202|5=>5|9=>9|51=>233|55=>237|57=>245|58=>246|33=>144|n=>n,fun|n=>n⟩
theorem Tryz.sortedS:Go.Proofs.SlLaysZ.n6 Tryz.prog Tryz.sortedS_ren:={
  mixed:=by kernel_rfl
  f6:=⟨Tryz.f51.name,by decide,Tryz.func51.trans (congrArg some (by kernel_rfl))⟩
  f8:=⟨Tryz.f100.name,by decide,Tryz.func100.trans (congrArg some (by kernel_rfl))⟩
  f11:=⟨Tryz.f137.name,by decide,Tryz.func137.trans (congrArg some (by kernel_rfl))⟩
  t0:=Tryz.underlying0
  a0:=Tryz.isAgg0
  z0:=Tryz.sizeOf0
  v0:=Tryz.zeroValue0
  t24:=Tryz.underlying128
  a24:=Tryz.isAgg128
  z24:=Tryz.sizeOf128
  v24:=Tryz.zeroValue128
  t26:=Tryz.underlying9
  a26:=Tryz.isAgg9
  z26:=Tryz.sizeOf9
  v26:=Tryz.zeroValue9
  t28:=Tryz.underlying131
  a28:=Tryz.isAgg131
  z28:=Tryz.sizeOf131
  v28:=Tryz.zeroValue131
  i26:=by kernel_rfl }
def Tryz.sortS_ren:Go.Shelf.Ren:=⟨fun|6=>101|8=>136|9=>138|19=>161|20=>162|21=>163|22=>164|23=>165|24=>166|25=>167|26=>168|27=>169|28=>170|29=>171|36=>182|31=>177|32=>178|37=>183|38=>184|39=>185|41=>190|n=>n,fun|27=>128|29=>9|3=>3|32=>198|26=>128|0=>0|44=>218|46=>220|4=>4|36=>212|35=>211|41=>202|5=>5|9=>9|53=>233|57=>237|63=>245|64=>246|n=>n,fun|n=>n⟩
theorem Tryz.sortS:Go.Proofs.SlLaysM.n6 Tryz.prog Tryz.sortS_ren:={
  mixed:=by kernel_rfl
  f6:=⟨Tryz.f101.name,by decide,Tryz.func101.trans (congrArg some (by kernel_rfl))⟩
  f8:=Tryz.func136.trans (congrArg some (by kernel_rfl))
  f9:=⟨Tryz.f138.name,by decide,Tryz.func138.trans (congrArg some (by kernel_rfl))⟩
  f19:=Tryz.func161.trans (congrArg some (by kernel_rfl))
  f20:=Tryz.func162.trans (congrArg some (by kernel_rfl))
  f21:=⟨Tryz.f163.name,by decide,Tryz.func163.trans (congrArg some (by kernel_rfl))⟩
  f22:=⟨Tryz.f164.name,by decide,Tryz.func164.trans (congrArg some (by kernel_rfl))⟩
  f23:=⟨Tryz.f165.name,by decide,Tryz.func165.trans (congrArg some (by kernel_rfl))⟩
  f24:=⟨Tryz.f166.name,by decide,Tryz.func166.trans (congrArg some (by kernel_rfl))⟩
  f25:=⟨Tryz.f167.name,by decide,Tryz.func167.trans (congrArg some (by kernel_rfl))⟩
  f26:=⟨Tryz.f168.name,by decide,Tryz.func168.trans (congrArg some (by kernel_rfl))⟩
  f27:=⟨Tryz.f169.name,by decide,Tryz.func169.trans (congrArg some (by kernel_rfl))⟩
  f28:=⟨Tryz.f170.name,by decide,Tryz.func170.trans (congrArg some (by kernel_rfl))⟩
  f29:=⟨Tryz.f171.name,by decide,Tryz.func171.trans (congrArg some (by kernel_rfl))⟩
  f31:=Tryz.func177.trans (congrArg some (by kernel_rfl))
  f32:=Tryz.func178.trans (congrArg some (by kernel_rfl))
  f36:=⟨Tryz.f182.name,by decide,Tryz.func182.trans (congrArg some (by kernel_rfl))⟩
  f37:=⟨Tryz.f183.name,by decide,Tryz.func183.trans (congrArg some (by kernel_rfl))⟩
  f38:=⟨Tryz.f184.name,by decide,Tryz.func184.trans (congrArg some (by kernel_rfl))⟩
  f39:=⟨Tryz.f185.name,by decide,Tryz.func185.trans (congrArg some (by kernel_rfl))⟩
  f41:=⟨Tryz.f190.name,by decide,Tryz.func190.trans (congrArg some (by kernel_rfl))⟩
  t0:=Tryz.underlying0
  a0:=Tryz.isAgg0
  z0:=Tryz.sizeOf0
  v0:=Tryz.zeroValue0
  t3:=Tryz.underlying3
  a3:=Tryz.isAgg3
  z3:=Tryz.sizeOf3
  v3:=Tryz.zeroValue3
  t4:=Tryz.underlying4
  a4:=Tryz.isAgg4
  z4:=Tryz.sizeOf4
  v4:=Tryz.zeroValue4
  t5:=Tryz.underlying5
  a5:=Tryz.isAgg5
  z5:=Tryz.sizeOf5
  v5:=Tryz.zeroValue5
  t9:=Tryz.underlying9
  a9:=Tryz.isAgg9
  z9:=Tryz.sizeOf9
  v9:=Tryz.zeroValue9
  t26:=Tryz.underlying128
  a26:=Tryz.isAgg128
  z26:=Tryz.sizeOf128
  v26:=Tryz.zeroValue128
  t27:=Tryz.underlying128
  a27:=Tryz.isAgg128
  z27:=Tryz.sizeOf128
  v27:=Tryz.zeroValue128
  t29:=Tryz.underlying9
  a29:=Tryz.isAgg9
  z29:=Tryz.sizeOf9
  v29:=Tryz.zeroValue9
  t32:=Tryz.underlying198
  a32:=Tryz.isAgg198
  z32:=Tryz.sizeOf198
  v32:=Tryz.zeroValue198
  t35:=Tryz.underlying211
  a35:=Tryz.isAgg211
  z35:=Tryz.sizeOf211
  v35:=Tryz.zeroValue211
  t36:=Tryz.underlying212
  a36:=Tryz.isAgg212
  z36:=Tryz.sizeOf212
  v36:=Tryz.zeroValue212
  t41:=Tryz.underlying202
  a41:=Tryz.isAgg202
  z41:=Tryz.sizeOf202
  v41:=Tryz.zeroValue202
  t44:=Tryz.underlying218
  a44:=Tryz.isAgg218
  z44:=Tryz.sizeOf218
  v44:=Tryz.zeroValue218
  t46:=Tryz.underlying220
  a46:=Tryz.isAgg220
  z46:=Tryz.sizeOf220
  v46:=Tryz.zeroValue220
  t53:=Tryz.underlying233
  a53:=Tryz.isAgg233
  z53:=Tryz.sizeOf233
  v53:=Tryz.zeroValue233
  t57:=Tryz.underlying237
  a57:=Tryz.isAgg237
  z57:=Tryz.sizeOf237
  v57:=Tryz.zeroValue237
  t63:=Tryz.underlying245
  a63:=Tryz.isAgg245
  z63:=Tryz.sizeOf245
  v63:=Tryz.zeroValue245
  t64:=Tryz.underlying246
  a64:=Tryz.isAgg246
  z64:=Tryz.sizeOf246
  v64:=Tryz.zeroValue246 }
end Go.Proofs
end
namespace Go.Proofs.YtnipofpbcggjcaaGreat
section
open Go.RowKit Go.Maps Go.Sort Go.Shelf
theorem XS (m:Nat):AnyZ.SortsIn Tryz.prog Tryz.sortedS_ren Fence.wide m:=
  ⟨fun blk off cap ss W hH hblk hsz=>callsIn_wide.2 (AnyM.slices_Sort_string Tryz.sortS blk off cap ss W hH hblk hsz),
   fun p cap W=>callsIn_wide.2 (AnyM.slices_Sort_string_none Tryz.sortS p cap W)⟩
def FI (bk:Nat):Value:=.func (.func 102) #[] #[.pointer (some ⟨bk,0,none⟩)]
theorem Tt {β:Bs} (mb:Option Nat):Spec Tryz.prog β 52 #[.map mb] [] (fun v l=>∃ bk,v=FI bk/\l=[.blk bk [.map mb] 95]):=
  Spec.Pr fun W _=>by
    have h:CallsIn Fence.wide 5 Tryz.prog 52 #[.map mb] W fun e w'=>e=.returned (FI W.heap.size)/\w'=W.alloc (.cells #[.map mb] 95):=AnyZ.keys_in Tryz.keysS Fence.wide 5 trivial rfl mb W
    refine ((callsIn_wide (n:=5)).1 h).mono ?_
    rintro e w' ⟨rfl,rfl⟩
    refine⟨_,_,rfl,⟨W.heap.size,rfl,rfl⟩,(Keeps.refl _ _).alloc _,fun k=>k=W.heap.size,⟨?_,fun k=>Iff.rfl⟩,fun k hk=>Nat.le_of_eq hk.symm⟩
    show (W.heap.push _)[W.heap.size]?=_
    simp
def tW (es:fB Th):List Value:=es.map (fun e=>.string e.1)
theorem LI {es:fB Th} (h:lN es):(es.map (fun e=>e.1.data.toList)).Pairwise (· < ·):=by
  refine List.pairwise_map.2 (h.imp (fun {a b} hab=>?_))
  unfold eG at hab
  have h1:¬ Op.bytesLess b.1.toList a.1.toList=true:=fun e=>hab (by rw [e];rfl)
  have h2:¬ b.1.toList=a.1.toList:=fun e=>hab (by rw [e];simp)
  rw [bytesLess_eq,Lib.toList_data,Lib.toList_data] at h1
  rw [Lib.toList_data,Lib.toList_data] at h2
  grind
theorem Tv {w:World} {b n:Nat} {L:HL} {es:fB Th} {D:DataW Value} (hr:lN es) (hown:w.ownsMap Tryz.prog 9 uJ b n D) (hf:∀ kl,Maps.has D kl=(jJ L es kl).isSome) {ss:List (List UInt8)} (hp:ss.Perm (strKeys D)) :
    ss.mergeSort (fun x y=>decide (x<=y))=es.map (fun e=>e.1.data.toList):=by
  have hsort:=LI hr
  obtain⟨es',hD,hpw,_⟩:=hown.entries Df
  obtain⟨es2,U4,hko⟩:=hown.keysOf
  obtain rfl:es'=es2:=by rw [hD] at U4;simpa using U4
  have hp2:(es.map (fun e=>e.1.data.toList)).Perm (strKeys D):=by
    rw [hD]
    refine perm_strKeys hpw (fun p hp=>?_) (hsort.imp (fun {a b} h e=>by subst e;exact absurd h (List.lt_irrefl a))) (fun x=>?_)
    ·obtain⟨v,hv⟩:=hko p hp
     obtain⟨x,_,h,_⟩:=keyOf_str Tryz.underlying9 hv
     exact⟨x,h⟩
    rw [← hD,hf]
    show _↔((aM ⟨x.toArray⟩ es).map (eT L)).isSome=true
    rw [Option.isSome_map]
    constructor
    ·intro hx
     obtain⟨e,he,rfl⟩:=List.mem_map.1 hx
     have h1:(⟨e.1.data.toList.toArray⟩:ByteArray)=e.1:=by rw [Array.toArray_toList]
     rw [h1,vH (t:=e.2) (lN.twice hr) he];rfl
    intro hx
    obtain⟨t,ht⟩:=Option.isSome_iff_exists.1 hx
    exact List.mem_map.2 ⟨_,nN ht,by simp⟩
  have h3:=mergeSort_of_perm (hp.trans hp2.symm)
  have h4:(es.map (fun e=>e.1.data.toList)).mergeSort leB=es.map (fun e=>e.1.data.toList):=List.mergeSort_of_pairwise (hsort.imp (fun {a b} h=>by simp only [leB,decide_eq_true_eq];exact List.le_of_lt h))
  exact h3.trans h4
theorem N5 {β:Bs} (L:HL) (b bk n:Nat) (es:fB Th) (hr:lN es) (hn:n<=8192) :
    Spec Tryz.prog β 51 #[FI bk] [.abs (bq Tryz.prog 9 b (jJ L es) n),.blk bk [.map (some b)] 95] (fun v l=>∃ A cap,v=.slice A es.length cap ∧
      l=[.abs (bq Tryz.prog 9 b (jJ L es) n),.blk bk [.map (some b)] 95,.abs (av 9 1 A es.length cap (tW es))]):=by
  intro R w hS
  obtain⟨F1,h1⟩:=hS.get (i:=0) (p:=.abs (bq Tryz.prog 9 b (jJ L es) n)) rfl
  obtain⟨F2,h2⟩:=hS.get (i:=1) (p:=.blk bk [.map (some b)] 95) rfl
  obtain⟨D,hown,hsz,hhas,_⟩:=h1.1
  have hcell:w.cell? ⟨bk,0,none⟩=some (.map (some b)):=(jc h2.1 rfl rfl rfl).1
  have hseq:SeqGives Fence.wide 2 Tryz.prog 102 #[.pointer (some ⟨bk,0,none⟩)] encStr (fun ss=>ss.Perm (strKeys D)) (Maps.size D) w:=
    AnyZ.keys_gives (ρ:=Tryz.keysS_ren) { Tryz.keysS with } Fence.wide _ trivial rfl (by omega) bk b n D w (lt_of_some h2.1) hcell hown
  have cS:=AnyZ.sorted_in Tryz.sortedS Fence.wide 5 trivial trivial trivial trivial rfl (by omega) (XS _) (enters_of Tryz.func101 (by kernel_rfl) rfl) 102 #[.pointer (some ⟨bk,0,none⟩)] trivial (enters_of Tryz.func102 (by kernel_rfl) rfl)
    (fun ss=>ss.Perm (strKeys D)) (Maps.size D) (by rw [hsz];unfold maxLen;omega) (by rw [hsz];omega) w hseq
  change CallsIn _ _ Tryz.prog 51 _ _ _ at cS
  refine ((callsIn_wide (n:=5)).1 cS).mono ?_
  rintro e w' ⟨v,ss,rfl,hp,hrow,hnil,hb⟩
  have hkeys:=Tv hr hown hhas hp
  have hl2:ss.length=es.length:=by
    have h3:(ss.mergeSort (fun x y=>decide (x<=y))).length=ss.length:=List.length_mergeSort ss
    rw [hkeys,List.length_map] at h3
    exact h3.symm
  rw [hkeys,hl2] at hrow
  have zQ:∃ A cap,v=.slice A es.length cap:=by
    rcases hrow.2 with ⟨e1,e2⟩|⟨g,cp,cur,e1,_⟩
    all_goals grind
  obtain⟨A,cap,rfl⟩:=zQ
  have hnv:(es.map (fun e=>e.1.data.toList)).map encStr=tW es:=by
    rw [List.map_map]
    refine List.map_congr_left (fun e _=>?_)
    grind
  rw [hnv] at hrow
  have hq:Sat β ([.abs (bq Tryz.prog 9 b (jJ L es) n),.blk bk [.map (some b)] 95,.abs R]++[.abs (av 9 1 A es.length cap (tW es))]) w':=by
    refine Sat.new (F:=fun k=>(Value.slice A es.length cap).ownBlock=some k) hS ⟨?_,fun k=>Iff.rfl⟩ ⟨hb.os,hb.tape,hb.output,hb.size,fun k hk _=>hb.block k hk⟩ (fun k hk=>(hrow.lt k hk).1)
    refine⟨hrow.1,?_⟩
    rcases hrow.2 with h|⟨g,cp,cur,e1,_,h3,h4⟩
    ·exact .inl h
    exact .inr ⟨g,cp,cur,e1,Nat.zero_le _,h3,h4⟩
  exact⟨_,[.abs (bq Tryz.prog 9 b (jJ L es) n),.blk bk [.map (some b)] 95,.abs (av 9 1 A es.length cap (tW es))],rfl,⟨A,cap,rfl,rfl⟩,hq.pick (idx:=[0,1,3,2]) rfl rfl⟩
end
end Go.Proofs.YtnipofpbcggjcaaGreat
