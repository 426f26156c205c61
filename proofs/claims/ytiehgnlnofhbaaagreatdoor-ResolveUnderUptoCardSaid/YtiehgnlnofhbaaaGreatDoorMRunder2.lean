/-
  PROVED HERE: lemmas and contracts of functions (texts of this repo, joined; what the claim does not use is left out): GCheck, GE, GEnter, GR, GRead, GP, GRef, GW, Hm, Fam, Ld, Fw, Ms, Hn, Ho, Sb, ShelfK, Free, HeapMath, Up, Down, PushPop, TabMath, Tab, Tq, TKt, TabT, Hp, Hs, Hi, Hj, Hk, Hl, Hq, Hr, Ht, Hu, TabMath2.
  CONDITIONS: as the theorems say.
-/
import Derived.Test.YtiehgnlnofhbaaaGreatDoorMRunder1
import Derived.Maps.OwnOps
import Derived.Shelf.SlGeneric
import Derived.Shelf.SlIterI.Nil
import Derived.Shelf.SortM.Plain
import Derived.Shelf.SortM.SortNone
import Derived.Ground.GgzProg
import Derived.Ground.SlgmProg
import Derived.Test.YtiehgnlnofhbaaaGreatDoorProg
import Derived.RegionTactic
import Derived.Deep.QuietTactic
import Derived.BigQuiet
import Derived.BigRegion
import Derived.StillTailTactics
import Derived.WalkSpells
import Derived.Outline
import Derived.Deep.AppendLies
import Derived.Deep.RegionLaw
import Derived.LoopTactic
import Derived.LaidEqlPtr
set_option maxRecDepth 100000
set_option maxHeartbeats 4000000
namespace Go.Proofs.YtiehgnlnofhbaaaGreatDoor
section
open Go.RowKit
attribute [local irreducible] ak aW af aj
theorem uz {β:Bs} (a b c:Int) :
    Spec Tryz.prog β 86 #[vI (a),vI (b),vI (c)] [] (fun v l=>v=.bool (decide (Within a b c))/\l=[]):=by
 refine Spec.enter Tryz.func86 rfl Tryz.ntmps86 (Nat.le_of_ble_eq_true rfl) (fun R=>?_)
 refine SR (gK 1 [] [] ?_)
 refine NS (gK 4 [(10,.bool (decide ((a:Int) ≥ (b:Int))))] [] ?_)
 refine ak.iG 10 ((a:Int) ≥ (b:Int)) (fun _=>by kernel_rfl) (fun h10=>?_) (fun h10=>?_)
 ·refine gK 5 [(6,.bool (decide ((a:Int)<=(c:Int))))] [] ?_
  refine NN (af.ret ?_)
  exact RT (.bool (decide ((a:Int)<=(c:Int)))) [0] (⟨congrArg Value.bool (decide_eq_decide.2 (by unfold Within;omega)),rfl⟩)
 refine gK 5 [(6,.bool false)] [] ?_
 refine NN (af.ret ?_)
 exact RT (.bool false) [0] (⟨congrArg Value.bool (decide_eq_false (by unfold Within;omega)).symm,rfl⟩)
theorem mH {β:Bs} (s n:Int) :
    Spec Tryz.prog β 75 #[.agg #[vI (s),vI (n)]] [] (fun v l=>v=.bool (decide (fL s n))/\l=[]):=by
 refine Spec.enter Tryz.func75 rfl Tryz.ntmps75 (Nat.le_of_ble_eq_true rfl) (fun R=>?_)
 refine SR (gN 2 (fun b1=>[(1,vP b1)]) (fun _=>[]) (fun _=>[]) (fun b1=>.blk b1 [vI (s),vI (n)] 26) (fun b1=>?_))
 refine NN (af.seq (SR (gK 4 [(6,.bool (decide ((n:Int) < (0:Int))))] [(1,a_ 1 b1)] ?_)))
 refine ak.iG 6 ((n:Int) < (0:Int)) (fun _=>by kernel_rfl) (fun h6=>?_) (fun h6=>?_)
 ·refine gK 4 [(10,.bool true)] [] ?_
  refine NN (CT (SR (gK 1 [(2,.bool false)] [] ?_)))
  refine NN (af.ret (aj.aq ?_))
  exact RT (.bool false) [0] (⟨congrArg Value.bool (decide_eq_false (by unfold fL;omega)).symm,rfl⟩)
 refine gK 4 [(10,.bool (decide ((n:Int) ≥ (1000000000:Int))))] [(1,a_ 1 b1)] ?_
 refine NN (af.aV (p:=(n:Int) ≥ (1000000000:Int)) (fun _=>by kernel_rfl) (fun h10=>?_) (fun h10=>?_))
 ·refine SR (gK 1 [(2,.bool false)] [] ?_)
  refine NN (af.ret (aj.aq ?_))
  exact RT (.bool false) [0] (⟨congrArg Value.bool (decide_eq_false (by unfold fL;omega)).symm,rfl⟩)
 refine af.skip (NX (af.seq (SR (gK 3 [(13,.bool (decide ((s:Int)=((-1099511627777):Int))))] [(1,a_ 1 b1)] ?_))))
 refine NN (af.aV (p:=(s:Int)=((-1099511627777):Int)) (fun _=>by kernel_rfl) (fun Yi=>?_) (fun Yi=>?_))
 ·refine SR (gK 4 [(2,.bool (decide ((n:Int) > (0:Int))))] [(1,a_ 1 b1)] ?_)
  refine NN (af.ret (aj.aq ?_))
  exact RT (.bool (decide ((n:Int) > (0:Int)))) [0] (⟨congrArg Value.bool (decide_eq_decide.2 (by unfold fL;omega)),rfl⟩)
 refine af.skip (NX (SR (gK 4 [(20,.bool (decide ((s:Int) > ((-1099511627777):Int))))] [(1,a_ 1 b1)] ?_)))
 refine ak.iG 20 ((s:Int) > ((-1099511627777):Int)) (fun _=>by kernel_rfl) (fun kg=>?_) (fun kg=>?_)
 ·refine gK 5 [(2,.bool (decide ((s:Int)<=(1099511627776:Int))))] [(1,a_ 1 b1)] ?_
  refine NN (af.ret ?_)
  exact RT (.bool (decide ((s:Int)<=(1099511627776:Int)))) [0] (⟨congrArg Value.bool (decide_eq_decide.2 (by unfold fL;omega)),rfl⟩)
 refine gK 5 [(2,.bool false)] [] ?_
 refine NN (af.ret ?_)
 exact RT (.bool false) [0] (⟨congrArg Value.bool (decide_eq_false (by unfold fL;omega)).symm,rfl⟩)
theorem zL {β:Bs} (A:Option Addr) (ns:List aG) (L:Lay) (hG:aF β A ns L) (i:Nat) (hi:i < ns.length) :
    Spec Tryz.prog β 87 #[.pointer (some ⟨(ax A),av A+i * 10,none⟩)] [] (fun v l=>v=.bool (decide (fq (nd ns i).kind (nd ns i).target))/\l=[]):=by
 refine Spec.enter Tryz.func87 rfl Tryz.ntmps87 (Nat.le_of_ble_eq_true rfl) (fun R=>?_)
 refine SR (gK 1 [] [] ?_)
 refine NN (af.seq (SR (gK 5 [(7,.bool (!(decide (((nd ns i).kind:Int)=(3:Int)))))] [(3,p_ ⟨[.old (.int .i64 ((nd ns i).kind))],none,none,none,none⟩ [(Rd β ⟨(ax A),av A+i * 10+1,none⟩ (.int .i64 ((nd ns i).kind)))] ⟨aF.rd hG (i:=i) (by omega) (j:=1) rfl,trivial⟩)] ?_)))
 refine NN (af.gT (p:=((nd ns i).kind:Int)=(3:Int)) (fun _=>by kernel_rfl) (fun h7=>?_) (fun h7=>?_))
 ·refine SR (gK 6 [(2,.bool (decide (((nd ns i).target:ByteArray)=⟨#[]⟩)))] [(3,p_ ⟨[.old (.string (nd ns i).target)],none,none,none,none⟩ [(Rd β ⟨(ax A),av A+i * 10+8,none⟩ (.string (nd ns i).target))] ⟨aF.rd hG (i:=i) (by omega) (j:=8) rfl,trivial⟩),(4,p_ ⟨[],none,none,none,some (.bool (decide (((nd ns i).target:ByteArray)=⟨#[]⟩)))⟩ [(Value.bool (((nd ns i).target:ByteArray).toList == (⟨#[]⟩:ByteArray).toList))=(.bool (decide (((nd ns i).target:ByteArray)=⟨#[]⟩)))] ⟨vC _ _,trivial⟩)] ?_)
  refine NN (af.ret (aj.aq ?_))
  exact RT (.bool (decide (((nd ns i).target:ByteArray)=⟨#[]⟩))) [0] (⟨congrArg Value.bool (decide_eq_decide.2 (by have h0:=lX (s:=(nd ns i).target);grind [fq])),rfl⟩)
 refine af.skip (NX (SR (gK 6 [(18,.bool (!(decide (((nd ns i).target:ByteArray)=⟨#[]⟩))))] [(3,p_ ⟨[.old (.string (nd ns i).target)],none,none,none,none⟩ [(Rd β ⟨(ax A),av A+i * 10+8,none⟩ (.string (nd ns i).target))] ⟨aF.rd hG (i:=i) (by omega) (j:=8) rfl,trivial⟩),(4,p_ ⟨[],none,none,none,some (.bool (!(decide (((nd ns i).target:ByteArray)=⟨#[]⟩))))⟩ [(Value.bool (!(((nd ns i).target:ByteArray).toList == (⟨#[]⟩:ByteArray).toList)))=(.bool (!(decide (((nd ns i).target:ByteArray)=⟨#[]⟩))))] ⟨SN _ _,trivial⟩)] ?_)))
 refine ak.nH 18 (((nd ns i).target:ByteArray)=⟨#[]⟩) (fun _=>by kernel_rfl) (fun rE=>?_) (fun rE=>?_)
 ·refine gK 8 [(26,.bool (decide ((((((nd ns i).target:ByteArray).size:Nat):Int):Int)<=(4096:Int))))] [(3,p_ ⟨[.old (.string (nd ns i).target)],none,none,none,none⟩ [(Rd β ⟨(ax A),av A+i * 10+8,none⟩ (.string (nd ns i).target))] ⟨aF.rd hG (i:=i) (by omega) (j:=8) rfl,trivial⟩)] ?_
  refine ak.iG 26 ((((((nd ns i).target:ByteArray).size:Nat):Int):Int)<=(4096:Int)) (fun _=>by kernel_rfl) (fun pX=>?_) (fun pX=>?_)
  ·refine gK 4 [(30,.string (nd ns i).target)] [(3,p_ ⟨[.old (.string (nd ns i).target)],none,none,none,none⟩ [(Rd β ⟨(ax A),av A+i * 10+8,none⟩ (.string (nd ns i).target))] ⟨aF.rd hG (i:=i) (by omega) (j:=8) rfl,trivial⟩)] ?_
   refine gL (f:=105) (args:=#[.string (nd ns i).target,.int .u8 0]) (pre:=[]) [] (Spec.quiet (fun w=>Tryz.strings_IndexByte (nd ns i).target 0 w)) ?_
   rintro _ _ ⟨rfl,rfl⟩
   refine gK 3 [(2,.bool (decide ((Lib.indexByte (nd ns i).target.data.toList (0:Int).toNat.toUInt8:Int) < (0:Int))))] [] ?_
   refine NN (af.ret ?_)
   exact RT (.bool (decide ((Lib.indexByte (nd ns i).target.data.toList (0:Int).toNat.toUInt8:Int) < (0:Int)))) [0] (⟨congrArg Value.bool (decide_eq_decide.2 (by have h0:=lX (s:=(nd ns i).target);rw [Gn];grind [fq])),rfl⟩)
  refine gK 8 [(2,.bool false)] [] ?_
  refine NN (af.ret ?_)
  exact RT (.bool false) [0] (⟨congrArg Value.bool (decide_eq_false (by have h0:=lX (s:=(nd ns i).target);grind [fq])).symm,rfl⟩)
 refine gK 16 [(2,.bool false)] [] ?_
 refine NN (af.ret ?_)
 exact RT (.bool false) [0] (⟨congrArg Value.bool (decide_eq_false (by have h0:=lX (s:=(nd ns i).target);grind [fq])).symm,rfl⟩)
theorem OU {β:Bs} (A:Option Addr) (ns:List aG) (L:Lay) (hG:aF β A ns L) (i:Nat) (hi:i < ns.length) :
    Spec Tryz.prog β 64 #[.pointer (some ⟨(ax A),av A+i * 10,none⟩)] [] (fun v l=>v=.bool (decide (nX (nd ns i)))/\l=[]):=by
 refine Spec.enter Tryz.func64 rfl Tryz.ntmps64 (Nat.le_of_ble_eq_true rfl) (fun R=>?_)
 refine SR (gK 1 [] [] ?_)
 refine NN (af.seq (SR (gK 4 [(6,vI ((nd ns i).kind))] [(3,p_ ⟨[.old (.int .i64 ((nd ns i).kind))],none,none,none,none⟩ [(Rd β ⟨(ax A),av A+i * 10+1,none⟩ (.int .i64 ((nd ns i).kind)))] ⟨aF.rd hG (i:=i) (by omega) (j:=1) rfl,trivial⟩)] ?_)))
 refine gL [] (uz ((nd ns i).kind) 1 3) ?_
 rintro _ _ ⟨rfl,rfl⟩
 refine gK 2 [(9,.bool (!(decide (Within ((nd ns i).kind) 1 3))))] [] ?_
 refine ak.nH 9 (Within ((nd ns i).kind) 1 3) (fun _=>by kernel_rfl) (fun h9=>?_) (fun h9=>?_)
 ·refine gK 23 [(32,.bool true)] [] ?_
  refine NN (CT (SR (gK 1 [(2,.bool false)] [] ?_)))
  refine NN (af.ret (aj.aq ?_))
  exact RT (.bool false) [0] (⟨congrArg Value.bool (decide_eq_false (by rw [fR];unfold Within at *;grind)).symm,rfl⟩)
 refine gK 4 [(13,vI ((nd ns i).mode))] [(3,p_ ⟨[.old (.int .i64 ((nd ns i).mode))],none,none,none,none⟩ [(Rd β ⟨(ax A),av A+i * 10+2,none⟩ (.int .i64 ((nd ns i).mode)))] ⟨aF.rd hG (i:=i) (by omega) (j:=2) rfl,trivial⟩)] ?_
 refine gL [] (uz ((nd ns i).mode) 0 4095) ?_
 rintro _ _ ⟨rfl,rfl⟩
 refine gK 3 [(17,.bool (!(decide (Within ((nd ns i).mode) 0 4095))))] [] ?_
 refine ak.nH 17 (Within ((nd ns i).mode) 0 4095) (fun _=>by kernel_rfl) (fun Yj=>?_) (fun Yj=>?_)
 ·refine gK 15 [(32,.bool true)] [] ?_
  refine NN (CT (SR (gK 1 [(2,.bool false)] [] ?_)))
  refine NN (af.ret (aj.aq ?_))
  exact RT (.bool false) [0] (⟨congrArg Value.bool (decide_eq_false (by rw [fR];unfold Within at *;grind)).symm,rfl⟩)
 refine gK 4 [(21,vI ((nd ns i).uid))] [(3,p_ ⟨[.old (.int .i64 ((nd ns i).uid))],none,none,none,none⟩ [(Rd β ⟨(ax A),av A+i * 10+3,none⟩ (.int .i64 ((nd ns i).uid)))] ⟨aF.rd hG (i:=i) (by omega) (j:=3) rfl,trivial⟩)] ?_
 refine gL [] (uz ((nd ns i).uid) 0 2147483647) ?_
 rintro _ _ ⟨rfl,rfl⟩
 refine gK 3 [(25,.bool (!(decide (Within ((nd ns i).uid) 0 2147483647))))] [] ?_
 refine ak.nH 25 (Within ((nd ns i).uid) 0 2147483647) (fun _=>by kernel_rfl) (fun Mh=>?_) (fun Mh=>?_)
 ·refine gK 7 [(32,.bool true)] [] ?_
  refine NN (CT (SR (gK 1 [(2,.bool false)] [] ?_)))
  refine NN (af.ret (aj.aq ?_))
  exact RT (.bool false) [0] (⟨congrArg Value.bool (decide_eq_false (by rw [fR];unfold Within at *;grind)).symm,rfl⟩)
 refine gK 4 [(29,vI ((nd ns i).gid))] [(3,p_ ⟨[.old (.int .i64 ((nd ns i).gid))],none,none,none,none⟩ [(Rd β ⟨(ax A),av A+i * 10+4,none⟩ (.int .i64 ((nd ns i).gid)))] ⟨aF.rd hG (i:=i) (by omega) (j:=4) rfl,trivial⟩)] ?_
 refine gL [] (uz ((nd ns i).gid) 0 2147483647) ?_
 rintro _ _ ⟨rfl,rfl⟩
 refine gK 2 [(32,.bool (!(decide (Within ((nd ns i).gid) 0 2147483647))))] [] ?_
 refine NN (af.gT (p:=Within ((nd ns i).gid) 0 2147483647) (fun _=>by kernel_rfl) (fun Tg=>?_) (fun Tg=>?_))
 ·refine SR (gK 1 [(2,.bool false)] [] ?_)
  refine NN (af.ret (aj.aq ?_))
  exact RT (.bool false) [0] (⟨congrArg Value.bool (decide_eq_false (by rw [fR];unfold Within at *;grind)).symm,rfl⟩)
 refine af.skip (NX (af.seq (SR (gK 6 [(38,.bool (!(decide (((nd ns i).kind:Int)=(1:Int)))))] [(3,p_ ⟨[.old (.int .i64 ((nd ns i).kind))],none,none,none,none⟩ [(Rd β ⟨(ax A),av A+i * 10+1,none⟩ (.int .i64 ((nd ns i).kind)))] ⟨aF.rd hG (i:=i) (by omega) (j:=1) rfl,trivial⟩)] ?_))))
 refine ak.nH 38 (((nd ns i).kind:Int)=(1:Int)) (fun _=>by kernel_rfl) (fun JE=>?_) (fun JE=>?_)
 ·refine gK 8 [(46,.bool (decide (((((nd ns i).data.length:Nat):Int):Int) > (0:Int))))] [(3,p_ ⟨[.old (.slice (L.dA i) ((nd ns i).data.length) ((L.dC i)))],none,none,none,none⟩ [(Rd β ⟨(ax A),av A+i * 10+7,none⟩ (.slice (L.dA i) ((nd ns i).data.length) ((L.dC i))))] ⟨aF.rd hG (i:=i) (by omega) (j:=7) rfl,trivial⟩)] ?_
  refine ak.iG 46 (((((nd ns i).data.length:Nat):Int):Int) > (0:Int)) (fun _=>by kernel_rfl) (fun h46=>?_) (fun h46=>?_)
  ·refine gK 14 [(60,.bool true)] [] ?_
   refine NN (CT (SR (gK 1 [(2,.bool false)] [] ?_)))
   refine NN (af.ret (aj.aq ?_))
   exact RT (.bool false) [0] (⟨congrArg Value.bool (decide_eq_false (by rw [fR];unfold Within at *;grind)).symm,rfl⟩)
  refine gK 6 [(52,.bool (!(decide (((nd ns i).kind:Int)=(2:Int)))))] [(3,p_ ⟨[.old (.int .i64 ((nd ns i).kind))],none,none,none,none⟩ [(Rd β ⟨(ax A),av A+i * 10+1,none⟩ (.int .i64 ((nd ns i).kind)))] ⟨aF.rd hG (i:=i) (by omega) (j:=1) rfl,trivial⟩)] ?_
  refine ak.nH 52 (((nd ns i).kind:Int)=(2:Int)) (fun _=>by kernel_rfl) (fun Mi=>?_) (fun Mi=>?_)
  ·refine gK 8 [(60,.bool (decide (((((nd ns i).ah.length:Nat):Int):Int) > (0:Int))))] [(3,p_ ⟨[.old (.slice (L.eA i) ((nd ns i).ah.length) ((L.eC i)))],none,none,none,none⟩ [(Rd β ⟨(ax A),av A+i * 10+9,none⟩ (.slice (L.eA i) ((nd ns i).ah.length) ((L.eC i))))] ⟨aF.rd hG (i:=i) (by omega) (j:=9) rfl,trivial⟩)] ?_
   refine NN (af.aV (p:=((((nd ns i).ah.length:Nat):Int):Int) > (0:Int)) (fun _=>by kernel_rfl) (fun Ti=>?_) (fun Ti=>?_))
   ·refine SR (gK 1 [(2,.bool false)] [] ?_)
    refine NN (af.ret (aj.aq ?_))
    exact RT (.bool false) [0] (⟨congrArg Value.bool (decide_eq_false (by rw [fR];unfold Within at *;grind)).symm,rfl⟩)
   refine af.skip (NX (SR (gK 4 [(64,.agg #[vI ((nd ns i).sec),vI ((nd ns i).nano)])] [(3,p_ ⟨[.old (.int .i64 ((nd ns i).sec)),.old (.int .i64 ((nd ns i).nano))],none,none,none,none⟩ [(Rd β ⟨(ax A),av A+i * 10+5+1,none⟩ (.int .i64 ((nd ns i).nano))),(Rd β ⟨(ax A),av A+i * 10+5,none⟩ (.int .i64 ((nd ns i).sec)))] ⟨aF.rd hG (i:=i) (by omega) (j:=6) rfl,aF.rd hG (i:=i) (by omega) (j:=5) rfl,trivial⟩)] ?_)))
   refine gL [] (mH (nd ns i).sec (nd ns i).nano) ?_
   rintro _ _ ⟨rfl,rfl⟩
   refine gK 1 [(66,.bool (decide (fL (nd ns i).sec (nd ns i).nano)))] [] ?_
   refine ak.iG 66 (fL (nd ns i).sec (nd ns i).nano) (fun _=>by kernel_rfl) (fun Ct=>?_) (fun Ct=>?_)
   ·refine gK 1 [(67,.pointer (some ⟨(ax A),av A+i * 10,none⟩))] [] ?_
    refine gL [] (zL A ns L hG i hi) ?_
    rintro _ _ ⟨rfl,rfl⟩
    refine gK 2 [(2,.bool (decide (fq (nd ns i).kind (nd ns i).target)))] [] ?_
    refine NN (af.ret ?_)
    exact RT (.bool (decide (fq (nd ns i).kind (nd ns i).target))) [0] (⟨congrArg Value.bool (decide_eq_decide.2 (by rw [fR];unfold Within at *;grind)),rfl⟩)
   refine gK 4 [(2,.bool false)] [] ?_
   refine NN (af.ret ?_)
   exact RT (.bool false) [0] (⟨congrArg Value.bool (decide_eq_false (by rw [fR];unfold Within at *;grind)).symm,rfl⟩)
  refine gK 8 [(60,.bool false)] [] ?_
  refine NN (CF (af.skip (NX (SR (gK 4 [(64,.agg #[vI ((nd ns i).sec),vI ((nd ns i).nano)])] [(3,p_ ⟨[.old (.int .i64 ((nd ns i).sec)),.old (.int .i64 ((nd ns i).nano))],none,none,none,none⟩ [(Rd β ⟨(ax A),av A+i * 10+5+1,none⟩ (.int .i64 ((nd ns i).nano))),(Rd β ⟨(ax A),av A+i * 10+5,none⟩ (.int .i64 ((nd ns i).sec)))] ⟨aF.rd hG (i:=i) (by omega) (j:=6) rfl,aF.rd hG (i:=i) (by omega) (j:=5) rfl,trivial⟩)] ?_)))))
  refine gL [] (mH (nd ns i).sec (nd ns i).nano) ?_
  rintro _ _ ⟨rfl,rfl⟩
  refine gK 1 [(66,.bool (decide (fL (nd ns i).sec (nd ns i).nano)))] [] ?_
  refine ak.iG 66 (fL (nd ns i).sec (nd ns i).nano) (fun _=>by kernel_rfl) (fun Ct=>?_) (fun Ct=>?_)
  ·refine gK 1 [(67,.pointer (some ⟨(ax A),av A+i * 10,none⟩))] [] ?_
   refine gL [] (zL A ns L hG i hi) ?_
   rintro _ _ ⟨rfl,rfl⟩
   refine gK 2 [(2,.bool (decide (fq (nd ns i).kind (nd ns i).target)))] [] ?_
   refine NN (af.ret ?_)
   exact RT (.bool (decide (fq (nd ns i).kind (nd ns i).target))) [0] (⟨congrArg Value.bool (decide_eq_decide.2 (by rw [fR];unfold Within at *;grind)),rfl⟩)
  refine gK 4 [(2,.bool false)] [] ?_
  refine NN (af.ret ?_)
  exact RT (.bool false) [0] (⟨congrArg Value.bool (decide_eq_false (by rw [fR];unfold Within at *;grind)).symm,rfl⟩)
 refine gK 14 [(46,.bool false),(52,.bool (!(decide (((nd ns i).kind:Int)=(2:Int)))))] [(11,p_ ⟨[.old (.int .i64 ((nd ns i).kind))],none,none,none,none⟩ [(Rd β ⟨(ax A),av A+i * 10+1,none⟩ (.int .i64 ((nd ns i).kind)))] ⟨aF.rd hG (i:=i) (by omega) (j:=1) rfl,trivial⟩)] ?_
 refine ak.nH 52 (((nd ns i).kind:Int)=(2:Int)) (fun _=>by kernel_rfl) (fun Mi=>?_) (fun Mi=>?_)
 ·refine gK 8 [(60,.bool (decide (((((nd ns i).ah.length:Nat):Int):Int) > (0:Int))))] [(3,p_ ⟨[.old (.slice (L.eA i) ((nd ns i).ah.length) ((L.eC i)))],none,none,none,none⟩ [(Rd β ⟨(ax A),av A+i * 10+9,none⟩ (.slice (L.eA i) ((nd ns i).ah.length) ((L.eC i))))] ⟨aF.rd hG (i:=i) (by omega) (j:=9) rfl,trivial⟩)] ?_
  refine NN (af.aV (p:=((((nd ns i).ah.length:Nat):Int):Int) > (0:Int)) (fun _=>by kernel_rfl) (fun Ti=>?_) (fun Ti=>?_))
  ·refine SR (gK 1 [(2,.bool false)] [] ?_)
   refine NN (af.ret (aj.aq ?_))
   exact RT (.bool false) [0] (⟨congrArg Value.bool (decide_eq_false (by rw [fR];unfold Within at *;grind)).symm,rfl⟩)
  refine af.skip (NX (SR (gK 4 [(64,.agg #[vI ((nd ns i).sec),vI ((nd ns i).nano)])] [(3,p_ ⟨[.old (.int .i64 ((nd ns i).sec)),.old (.int .i64 ((nd ns i).nano))],none,none,none,none⟩ [(Rd β ⟨(ax A),av A+i * 10+5+1,none⟩ (.int .i64 ((nd ns i).nano))),(Rd β ⟨(ax A),av A+i * 10+5,none⟩ (.int .i64 ((nd ns i).sec)))] ⟨aF.rd hG (i:=i) (by omega) (j:=6) rfl,aF.rd hG (i:=i) (by omega) (j:=5) rfl,trivial⟩)] ?_)))
  refine gL [] (mH (nd ns i).sec (nd ns i).nano) ?_
  rintro _ _ ⟨rfl,rfl⟩
  refine gK 1 [(66,.bool (decide (fL (nd ns i).sec (nd ns i).nano)))] [] ?_
  refine ak.iG 66 (fL (nd ns i).sec (nd ns i).nano) (fun _=>by kernel_rfl) (fun Ct=>?_) (fun Ct=>?_)
  ·refine gK 1 [(67,.pointer (some ⟨(ax A),av A+i * 10,none⟩))] [] ?_
   refine gL [] (zL A ns L hG i hi) ?_
   rintro _ _ ⟨rfl,rfl⟩
   refine gK 2 [(2,.bool (decide (fq (nd ns i).kind (nd ns i).target)))] [] ?_
   refine NN (af.ret ?_)
   exact RT (.bool (decide (fq (nd ns i).kind (nd ns i).target))) [0] (⟨congrArg Value.bool (decide_eq_decide.2 (by rw [fR];unfold Within at *;grind)),rfl⟩)
  refine gK 4 [(2,.bool false)] [] ?_
  refine NN (af.ret ?_)
  exact RT (.bool false) [0] (⟨congrArg Value.bool (decide_eq_false (by rw [fR];unfold Within at *;grind)).symm,rfl⟩)
 refine gK 8 [(60,.bool false)] [] ?_
 refine NN (CF (af.skip (NX (SR (gK 4 [(64,.agg #[vI ((nd ns i).sec),vI ((nd ns i).nano)])] [(3,p_ ⟨[.old (.int .i64 ((nd ns i).sec)),.old (.int .i64 ((nd ns i).nano))],none,none,none,none⟩ [(Rd β ⟨(ax A),av A+i * 10+5+1,none⟩ (.int .i64 ((nd ns i).nano))),(Rd β ⟨(ax A),av A+i * 10+5,none⟩ (.int .i64 ((nd ns i).sec)))] ⟨aF.rd hG (i:=i) (by omega) (j:=6) rfl,aF.rd hG (i:=i) (by omega) (j:=5) rfl,trivial⟩)] ?_)))))
 refine gL [] (mH (nd ns i).sec (nd ns i).nano) ?_
 rintro _ _ ⟨rfl,rfl⟩
 refine gK 1 [(66,.bool (decide (fL (nd ns i).sec (nd ns i).nano)))] [] ?_
 refine ak.iG 66 (fL (nd ns i).sec (nd ns i).nano) (fun _=>by kernel_rfl) (fun Ct=>?_) (fun Ct=>?_)
 ·refine gK 1 [(67,.pointer (some ⟨(ax A),av A+i * 10,none⟩))] [] ?_
  refine gL [] (zL A ns L hG i hi) ?_
  rintro _ _ ⟨rfl,rfl⟩
  refine gK 2 [(2,.bool (decide (fq (nd ns i).kind (nd ns i).target)))] [] ?_
  refine NN (af.ret ?_)
  exact RT (.bool (decide (fq (nd ns i).kind (nd ns i).target))) [0] (⟨congrArg Value.bool (decide_eq_decide.2 (by rw [fR];unfold Within at *;grind)),rfl⟩)
 refine gK 4 [(2,.bool false)] [] ?_
 refine NN (af.ret ?_)
 exact RT (.bool false) [0] (⟨congrArg Value.bool (decide_eq_false (by rw [fR];unfold Within at *;grind)).symm,rfl⟩)
end
section
open Go.RowKit Go.Maps
def ju (x y:ByteArray):Prop:=(Op.bytesLess x.toList y.toList || (x.toList == y.toList))=true
instance (x y:ByteArray):Decidable (ju x y):=inferInstanceAs (Decidable (_=true))
theorem Tj (x y:ByteArray):Value.bool (Op.bytesLess x.toList y.toList || (x.toList == y.toList))=Value.bool (decide (ju x y)):=by
  have h:∀ (b:Bool) [Decidable (b=true)],b=decide (b=true):=by
    intro b _
    cases b<;>simp
  exact congrArg Value.bool (h _)
theorem I0 {x:ByteArray}:ju x ⟨#[]⟩↔x=⟨#[]⟩:=by
  unfold ju
  rw [Cc]
  have h1:(⟨#[]⟩:ByteArray).toList=[]:=by rw [Lib.toList_data]
  have h2:Op.bytesLess x.toList (⟨#[]⟩:ByteArray).toList=false:=by
    rw [h1]
    cases x.toList<;>rfl
  rw [h2]
  simp
def tgt (ns:List aG) (z:Int):Nat:=(jm ns z).toNat
theorem jB {ns:List aG} {z:Int} (h:0<=jm ns z):tgt ns z < ns.length/\(nd ns (tgt ns z)).id=z/\jm ns z=(tgt ns z:Int):=by
  unfold tgt
  unfold jm at h ⊢
  cases hf:ns.findIdx? (fun n=>n.id == z) with
  | none=>rw [hf] at h;simp at h
  | some k=>
    rw [List.findIdx?_eq_some_iff_getElem] at hf
    obtain⟨h1,h2,_⟩:=hf
    refine⟨h1,?_,rfl⟩
    show (nd ns k).id=z
    unfold nd
    rw [List.getD_eq_getElem?_getD,List.getElem?_eq_getElem h1]
    simpa using h2
def ent (ns:List aG) (i j:Nat):jq:=en (nd ns i).ah j
def lZ (ns:List aG) (i:Nat):Nat->ByteArray
  | 0=>⟨#[]⟩
  | j+1=>(ent ns i j).name
structure mP (ns:List aG) (i j:Nat):Prop where
  at_:0<=jm ns (ent ns i j).id
  good:bF (ent ns i j).name
  ord:¬ ju (ent ns i j).name (lZ ns i j)
def Gs (ns:List aG) (i j:Nat):List (Nat×Nat):=if (nd ns (tgt ns (ent ns i j).id)).kind=2 then [(tgt ns (ent ns i j).id,i)] else []
def dK (ns:List aG) (i:Nat):Nat->List (Nat×Nat)
  | 0=>[]
  | j+1=>Gs ns i j++dK ns i j
def fw (ns:List aG):Nat->List (Nat×Nat)
  | 0=>[]
  | i+1=>dK ns i (nd ns i).ah.length++fw ns i
def iQ (ns:List aG) (p:Nat×Nat):Int×Int:=((nd ns p.1).id,(nd ns p.2).id)
theorem Mj {ns:List aG} {i j m:Nat} (h:j<=m):∃ l,dK ns i m=l++dK ns i j:=by
  induction m with
  | zero=>exact⟨[],by rw [Nat.le_zero.1 h];rfl⟩
  | succ m ih=>
    rcases Nat.lt_or_ge m j with h1|h1
    ·have:j=m+1:=by omega
     subst this
     exact⟨[],rfl⟩
    obtain⟨l,hl⟩:=ih h1
    exact⟨Gs ns i m++l,by rw [dK,hl,List.append_assoc]⟩
theorem Mk {ns:List aG} {i m:Nat} (h:i<=m):∃ l,fw ns m=l++fw ns i:=by
  induction m with
  | zero=>exact⟨[],by rw [Nat.le_zero.1 h];rfl⟩
  | succ m ih=>
    rcases Nat.lt_or_ge m i with h1|h1
    ·have:i=m+1:=by omega
     subst this
     exact⟨[],rfl⟩
    obtain⟨l,hl⟩:=ih h1
    exact⟨dK ns m (nd ns m).ah.length++l,by rw [fw,hl,List.append_assoc]⟩
theorem yB {l:List (Nat×Nat)} {k:List (Nat×Nat)} (h:((l++k).map Prod.fst).Nodup):(k.map Prod.fst).Nodup:=by
  rw [List.map_append] at h
  exact (List.nodup_append.1 h).2.1
theorem cq.inj {ns:List aG} (hr:cq ns) {a b:Nat} (ha:a < ns.length) (hb:b < ns.length) (h:(nd ns a).id=(nd ns b).id):a=b:=by
  rcases Nat.lt_trichotomy a b with h1|h1|h1
  ·have:=hr a b h1 hb;omega
  ·exact h1
  have:=hr b a h1 ha;omega
theorem JF {ns:List aG} {ps:List (Nat×Nat)} {k:Nat} (h:up (ps.map (iQ ns)) (nd ns k).id=none):k∉ps.map Prod.fst:=by
  unfold up at h
  induction ps with
  | nil=>simp
  | cons p ps ih=>
    obtain⟨a,b⟩:=p
    rw [List.map_cons,iQ,List.lookup_cons] at h
    intro hm
    rw [List.map_cons] at hm
    rcases List.mem_cons.1 hm with e|hm
    ·subst e
     simp at h
    by_cases e:((nd ns k).id == (nd ns a).id)=true
    ·rw [e] at h;cases h
    have e:((nd ns k).id == (nd ns a).id)=false:=by simpa using e
    rw [e] at h
    exact ih h hm
theorem zM {ns:List aG} {ps:List (Nat×Nat)} {k:Nat} {y:Int} (hr:cq ns) (hk:k < ns.length) (hp:∀ p,p∈ps->p.1 < ns.length) (h:up (ps.map (iQ ns)) (nd ns k).id=some y):k∈ps.map Prod.fst/\∃ p,p∈ps/\p.1=k/\y=(nd ns p.2).id:=by
  unfold up at h
  induction ps with
  | nil=>cases h
  | cons p ps ih=>
    obtain⟨a,b⟩:=p
    rw [List.map_cons,iQ,List.lookup_cons] at h
    by_cases e:((nd ns k).id == (nd ns a).id)=true
    ·rw [e] at h
     cases h
     have:k=a:=hr.inj hk (hp (a,b) (List.mem_cons_self ..)) (by simpa using e)
     subst this
     exact⟨by simp,(k,b),List.mem_cons_self ..,rfl,rfl⟩
    have e:((nd ns k).id == (nd ns a).id)=false:=by simpa using e
    rw [e] at h
    obtain⟨h1,q,hq,h2⟩:=ih (fun p hp'=>hp p (List.mem_cons_of_mem _ hp')) h
    exact⟨by rw [List.map_cons];exact List.mem_cons_of_mem _ h1,q,List.mem_cons_of_mem _ hq,h2⟩
def bf (A:Option Addr) (ns:List aG) (k:Nat) (z:Int):Option Value:=if 0<=jm ns z/\jm ns z < k then some (.pointer (some ⟨ax A,av A+tgt ns z * 10,none⟩)) else none
structure wK (ns:List aG) (i:Nat) (ps:List (Nat×Nat)):Prop where
  ah:∀ j,j < (nd ns i).ah.length->mP ns i j
  nodup:((dK ns i (nd ns i).ah.length++ps).map Prod.fst).Nodup
theorem FN {A:Option Addr} {ns:List aG} {k:Nat} {z:Int} (h:0<=jm ns z) (hk:tgt ns z < k):mf (bf A ns k) (.int .i64 z)=some (.pointer (some ⟨ax A,av A+tgt ns z * 10,none⟩)):=
  if_pos ⟨h,by rw [(jB h).2.2];omega⟩
theorem DV {A:Option Addr} {ns:List aG} {k:Nat} {z:Int} (h:¬ 0<=jm ns z):mf (bf A ns k) (.int .i64 z)=none:=if_neg (fun e=>h e.1)
theorem Gt (ns:List aG) (i j:Nat):(dK ns i j).length<=j:=by
  induction j with
  | zero=>exact Nat.le_refl _
  | succ j ih=>
    rw [dK,List.length_append]
    have:(Gs ns i j).length<=1:=by
      unfold Gs
      split<;>simp
    omega
theorem rF {ns:List aG} {i j:Nat} (h:¬ (nd ns (tgt ns (ent ns i j).id)).kind=2):dK ns i (j+1)=dK ns i j:=by
  rw [dK,Gs,if_neg h];rfl
theorem ou {ns:List aG} {i j:Nat} (h:(nd ns (tgt ns (ent ns i j).id)).kind=2):dK ns i (j+1)=(tgt ns (ent ns i j).id,i)::dK ns i j:=by
  rw [dK,Gs,if_pos h];rfl
theorem I3 {ns:List aG} {i j:Nat} {ps:List (Nat×Nat)} (h:wK ns i ps) (hj:j < (nd ns i).ah.length) (hk:(nd ns (tgt ns (ent ns i j).id)).kind=2):tgt ns (ent ns i j).id∉(dK ns i j++ps).map Prod.fst:=by
  obtain⟨l,hl⟩:=Mj (ns:=ns) (i:=i) (show j+1<=(nd ns i).ah.length from hj)
  have h1:=h.nodup
  rw [hl,List.append_assoc] at h1
  have h2:=yB h1
  rw [ou hk,List.cons_append,List.map_cons] at h2
  exact (List.nodup_cons.1 h2).1
theorem OV {ns:List aG} {i j:Nat} {ps:List (Nat×Nat)} (hat:0<=jm ns (ent ns i j).id) (hk:(nd ns (tgt ns (ent ns i j).id)).kind=2) :
    kf (mf (pf ((dK ns i j++ps).map (iQ ns)))) (.int .i64 (ent ns i j).id) (some (.int .i64 (nd ns i).id))=mf (pf ((dK ns i (j+1)++ps).map (iQ ns))):=by
  rw [Cq,ou hk,List.cons_append,List.map_cons,iQ,(jB hat).2.1,RQ]
theorem OW {ns:List aG} {i j:Nat} {ps:List (Nat×Nat)} {f:Lit->Option Value} {kl:Lit} (hf:f kl=none) (hk:(nd ns (tgt ns (ent ns i j).id)).kind=2) :
    (if (f kl).isSome then (dK ns i j++ps).length else (dK ns i j++ps).length+1)=(dK ns i (j+1)++ps).length:=by
  rw [hf,ou hk]
  rfl
theorem Kz {ns:List aG} {i j:Nat} {ps:List (Nat×Nat)} (hat:0<=jm ns (ent ns i j).id) (hk:(nd ns (tgt ns (ent ns i j).id)).kind=2) (hup:up ((dK ns i j++ps).map (iQ ns)) (ent ns i j).id=none) (h:((dK ns i j++ps).map Prod.fst).Nodup) :
    ((dK ns i (j+1)++ps).map Prod.fst).Nodup:=by
  rw [ou hk,List.cons_append,List.map_cons]
  refine List.nodup_cons.2 ⟨?_,h⟩
  refine JF (ns:=ns) ?_
  rw [(jB hat).2.1]
  exact hup
theorem Gu {ns:List aG} {i j:Nat} (h:∀ t,t < j->mP ns i t):∀ p,p∈dK ns i j->p.1 < ns.length/\p.2=i:=by
  induction j with
  | zero=>intro p hp;cases hp
  | succ j ih=>
    intro p hp
    rw [dK] at hp
    rcases List.mem_append.1 hp with hp|hp
    ·unfold Gs at hp
     split at hp
     ·rw [List.mem_singleton.1 hp]
      exact⟨(jB (h j (Nat.lt_succ_self j)).at_).1,rfl⟩
     cases hp
    exact ih (fun t ht=>h t (by omega)) p hp
theorem I4 {ns:List aG} {i j:Nat} {ps:List (Nat×Nat)} {y:Int} (hr:cq ns) (hps:∀ p,p∈ps->p.1 < ns.length) (hok:∀ t,t < j->mP ns i t) (hat:0<=jm ns (ent ns i j).id) (hk:(nd ns (tgt ns (ent ns i j).id)).kind=2)
    (hup:up ((dK ns i j++ps).map (iQ ns)) (ent ns i j).id=some y) (hj:j < (nd ns i).ah.length):¬ wK ns i ps:=fun h=>by
  refine I3 h hj hk ?_
  rw [← (jB hat).2.1] at hup
  refine (zM hr (jB hat).1 (fun p hp=>?_) hup).1
  rcases List.mem_append.1 hp with hp|hp
  ·exact (Gu hok p hp).1
  exact hps p hp
end
section
open Go.RowKit
attribute [local irreducible] ak aW af aj
theorem OX {β:Bs} (A:Option Addr) (ns:List aG) (L:Lay) (hG:aF β A ns L) (hr:cq ns) (i:Nat) (hi:i < ns.length) (hel:(nd ns i).ah.length<=1048576) (hwf:∀ j,j < (nd ns i).ah.length->-9223372036854775808<=(ent ns i j).id/\(ent ns i j).id<=9223372036854775807) (hnm:∀ j,j < (nd ns i).ah.length->(ent ns i j).name.size<=1048576)
    (mb mp:Nat) (ps:List (Nat×Nat)) (hpl:ps.length<=16777216) (hps:∀ p,p∈ps->p.1 < ns.length) (hnp:(ps.map Prod.fst).Nodup) :
    Spec Tryz.prog β 65 #[.pointer (some ⟨(ax A),av A+i * 10,none⟩),.map (some mb),.map (some mp)] [.abs (aN Tryz.prog 3 mb (mf (bf A ns ns.length)) ns.length),.abs (aN Tryz.prog 3 mp (mf (pf ((ps).map (iQ ns)))) ((ps).length))] (fun v l=>(v=.bool true/\wK ns i ps/\l=[.abs (aN Tryz.prog 3 mb (mf (bf A ns ns.length)) ns.length),.abs (aN Tryz.prog 3 mp (mf (pf ((dK ns i (nd ns i).ah.length++ps).map (iQ ns)))) ((dK ns i (nd ns i).ah.length++ps).length))])\/(v=.bool false/\¬ wK ns i ps/\l=[])):=by
 refine Spec.enter Tryz.func65 rfl Tryz.ntmps65 (Nat.le_of_ble_eq_true rfl) (fun R=>?_)
 refine SR (gK 1 [] [] ?_)
 refine NS (gK 1 [(7,.string ⟨#[]⟩)] [] ?_)
 refine NN (af.seq (SR (gK 6 [(16,.slice (L.eA i) ((nd ns i).ah.length) ((L.eC i))),(17,vI ↑((nd ns i).ah.length)),(18,vI 0)] [(3,p_ ⟨[.old (.slice (L.eA i) ((nd ns i).ah.length) ((L.eC i)))],none,none,none,none⟩ [(Rd β ⟨(ax A),av A+i * 10+9,none⟩ (.slice (L.eA i) ((nd ns i).ah.length) ((L.eC i))))] ⟨aF.rd hG (i:=i) (by omega) (j:=9) rfl,trivial⟩)] ?_)))
 refine NN (af.block ?_)
 refine af.loop (ι:=Nat) (fun (j:Nat)=>(j<=(nd ns i).ah.length)/\(∀ t,t < j->mP ns i t)/\(((dK ns i j++ps).map Prod.fst).Nodup)) (fun (j:Nat)=>(nd ns i).ah.length - j) (fun (j:Nat)=>[(0,.pointer (some ⟨(ax A),av A+i * 10,none⟩)),(1,.map (some mb)),(2,.map (some mp)),(7,.string (lZ ns i j)),(16,.slice (L.eA i) ((nd ns i).ah.length) ((L.eC i))),(17,vI ↑((nd ns i).ah.length)),(18,vI ↑j)]) (fun (j:Nat)=>[.abs (aN Tryz.prog 3 mb (mf (bf A ns ns.length)) ns.length),.abs (aN Tryz.prog 3 mp (mf (pf ((dK ns i j++ps).map (iQ ns)))) ((dK ns i j++ps).length)),.abs R]) 0 (idx:=[0,1,2,7,16,17,18]) (pk:=[0,1,2]) (show (0<=(nd ns i).ah.length)/\(∀ t,t < 0->mP ns i t)/\(((dK ns i 0++ps).map Prod.fst).Nodup) from ⟨Nat.zero_le _,fun t ht=>absurd ht (Nat.not_lt_zero t),hnp⟩) (fun _=>by kernel_rfl) rfl (by kernel_rfl) ?_
 rintro j ⟨hj,hok,hnd⟩
 show af _ _ _ _ [(0,.pointer (some ⟨(ax A),av A+i * 10,none⟩)),(1,.map (some mb)),(2,.map (some mp)),(7,.string (lZ ns i j)),(16,.slice (L.eA i) ((nd ns i).ah.length) ((L.eC i))),(17,vI ↑((nd ns i).ah.length)),(18,vI ↑j)] [.abs (aN Tryz.prog 3 mb (mf (bf A ns ns.length)) ns.length),.abs (aN Tryz.prog 3 mp (mf (pf ((dK ns i j++ps).map (iQ ns)))) ((dK ns i j++ps).length)),.abs R] _
 refine SR (gK 1 [(19,.bool (decide ((((j:Nat):Int):Int) < ((((nd ns i).ah.length:Nat):Int):Int))))] [] ?_)
 refine NN (af.seq (af.aV (p:=(((j:Nat):Int):Int) < ((((nd ns i).ah.length:Nat):Int):Int)) (fun _=>by kernel_rfl) (fun Tk=>?_) (fun Tk=>?_)))
 ·refine af.skip (NX (af.seq (af.block (SR ?_))))
  refine gN 4 (fun b1=>[(9,vP b1)]) (fun b1=>[(0,p_ ⟨[],some j,none,some ⟨(ax (L.eA i)),av (L.eA i),none⟩,none⟩ [((j:Nat):Int)=((j:Nat):Int),j < (nd ns i).ah.length,(⟨(ax (L.eA i)),av (L.eA i),none⟩:Addr).spot=none,((L.eA i):Option Addr)=some ⟨(ax (L.eA i)),av (L.eA i),none⟩] ⟨rfl,by omega,rfl,eG.hd (hG.ah i (by omega)) (i:=j) (by omega),trivial⟩),(1,p_ ⟨[.old (.string (en (nd ns i).ah j).name),.old (.int .i64 ((en (nd ns i).ah j).id))],none,none,none,none⟩ [(Rd β ⟨(ax (L.eA i)),av (L.eA i)+j * 2+1,none⟩ (.int .i64 ((en (nd ns i).ah j).id))),(Rd β ⟨(ax (L.eA i)),av (L.eA i)+j * 2,none⟩ (.string (en (nd ns i).ah j).name))] ⟨eG.rd (hG.ah i (by omega)) (i:=j) (by omega) (j:=1) rfl,eG.rd (hG.ah i (by omega)) (i:=j) (by omega) (j:=0) rfl,trivial⟩),(3,A_ 3 b1 2)]) (fun _=>[]) (fun b1=>.blk b1 [.string (en (nd ns i).ah j).name,vI ((en (nd ns i).ah j).id)] 110) (fun b1=>?_)
  refine NS (gK 3 [(22,.map (some mb)),(24,vI ((en (nd ns i).ah j).id))] [(2,a_ 3 b1)] ?_)
  by_cases hat:0<=jm ns (en (nd ns i).ah j).id
  ·have htl:=jB hat
   refine ak.dR 0 (d:=(some 25)) (t:=98) (K:=3) (E:=99) (b:=mb) (n:=ns.length) (f:=(mf (bf A ns ns.length))) (x:=(.tmp 22)) (ix:=(.tmp 24)) (key:=.int .i64 ((en (nd ns i).ah j).id)) (z:=.pointer none) (kl:=(.int .i64 (en (nd ns i).ah j).id)) (r:=(some (.pointer (some ⟨(ax A),av A+(tgt ns (en (nd ns i).ah j).id) * 10,none⟩)))) (fun _=>by kernel_rfl) (by kernel_rfl) (fun _=>by kernel_rfl) (fun _=>by kernel_rfl) dG Tryz.underlying98 (fun _=>by kernel_rfl) (kQ (hwf j (by omega)).1 (hwf j (by omega)).2) (FN hat htl.1) ?_
   refine gK 1 [(10,.pointer (some ⟨(ax A),av A+(tgt ns (en (nd ns i).ah j).id) * 10,none⟩))] [] ?_
   refine NN (af.seq (SR (gK 5 [(28,.bool false),(30,.string (en (nd ns i).ah j).name)] [(4,a_ 3 b1)] ?_)))
   refine gL [] (tL (en (nd ns i).ah j).name (hnm j (by omega))) ?_
   rintro _ _ ⟨rfl,rfl⟩
   refine gK 3 [(34,.bool (!(decide (bF (en (nd ns i).ah j).name))))] [] ?_
   refine ak.nH 34 (bF (en (nd ns i).ah j).name) (fun _=>by kernel_rfl) (fun AB=>?_) (fun AB=>?_)
   ·refine gK 5 [(39,.bool true)] [] ?_
    refine NN (CT (SR (gK 1 [(6,.bool false)] [] ?_)))
    refine NN (af.ret (aj.aq (aj.aL (aj.aq (aj.aq (aj.aL (aj.aq ?_)))))))
    exact RT (l:=[]) (.bool false) [2] (.inr ⟨rfl,fun h=>AB (h.ah j (by omega)).good,rfl⟩)
   refine gK 5 [(39,.bool (decide (ju ((en (nd ns i).ah j).name) (lZ ns i j))))] [(1,a_ 3 b1),(3,p_ ⟨[],none,none,none,some (.bool (decide (ju ((en (nd ns i).ah j).name) (lZ ns i j))))⟩ [(Value.bool (Op.bytesLess (((en (nd ns i).ah j).name):ByteArray).toList (((lZ ns i j)):ByteArray).toList || (((en (nd ns i).ah j).name):ByteArray).toList == (((lZ ns i j)):ByteArray).toList))=(.bool (decide (ju ((en (nd ns i).ah j).name) (lZ ns i j))))] ⟨Tj _ _,trivial⟩)] ?_
   refine NN (af.aV (p:=ju ((en (nd ns i).ah j).name) (lZ ns i j)) (fun _=>by kernel_rfl) (fun jt=>?_) (fun jt=>?_))
   ·refine SR (gK 1 [(6,.bool false)] [] ?_)
    refine NN (af.ret (aj.aq (aj.aL (aj.aq (aj.aq (aj.aL (aj.aq ?_)))))))
    exact RT (l:=[]) (.bool false) [2] (.inr ⟨rfl,fun h=>(h.ah j (by omega)).ord jt,rfl⟩)
   refine af.skip (NX (SR (gK 3 [(7,.string (en (nd ns i).ah j).name)] [(1,a_ 3 b1)] ?_)))
   refine NN (af.seq (SR (gK 5 [(46,.bool (!(decide (((nd ns (tgt ns (en (nd ns i).ah j).id)).kind:Int)=(2:Int)))))] [(3,p_ ⟨[.old (.int .i64 ((nd ns (tgt ns (en (nd ns i).ah j).id)).kind))],none,none,none,none⟩ [(Rd β ⟨(ax A),av A+(tgt ns (en (nd ns i).ah j).id) * 10+1,none⟩ (.int .i64 ((nd ns (tgt ns (en (nd ns i).ah j).id)).kind)))] ⟨aF.rd hG (i:=(tgt ns (en (nd ns i).ah j).id)) (by omega) (j:=1) rfl,trivial⟩)] ?_)))
   refine NN (af.gT (p:=((nd ns (tgt ns (en (nd ns i).ah j).id)).kind:Int)=(2:Int)) (fun _=>by kernel_rfl) (fun h46=>?_) (fun h46=>?_))
   ·refine af.exit (aj.aU (aj.cK (NX (af.region ?_))))
    refine ak.dI 1 (p:=.abs (aN Tryz.prog 3 mp (mf (pf ((dK ns i j++ps).map (iQ ns)))) ((dK ns i j++ps).length))) (p':=.abs (aN Tryz.prog 3 mp (mf (pf ((dK ns i (j+1)++ps).map (iQ ns)))) ((dK ns i (j+1)++ps).length))) (by kernel_rfl) (by rw [rF h46]) ?_
    refine gK 2 [(18,vI ↑(j+1))] [(0,p_ ⟨[],none,none,none,some (vI ↑(j+1))⟩ [(Value.int .i64 (IntKind.wrap .i64 (((j:Nat):Int)+1)))=(.int .i64 ↑(j+1))] ⟨bB (by omega) (by omega) (by omega),trivial⟩)] ?_
    refine NL ?_
    exact aj.turn ((j+1)) (idx:=[0,1,2,7,16,17,18]) (pk:=[0,1,2]) (show (((j+1))<=(nd ns i).ah.length)/\(∀ t,t < ((j+1))->mP ns i t)/\(((dK ns i ((j+1))++ps).map Prod.fst).Nodup) from ⟨by omega,fun t ht=>(by rcases Nat.lt_succ_iff_lt_or_eq.1 ht with h|h;exact hok t h;subst h;exact⟨hat,AB,jt⟩),(by rw [rF h46];exact hnd)⟩) (by show (nd ns i).ah.length - ((j+1)) < (nd ns i).ah.length - j;omega) (fun _=>by kernel_rfl) rfl (by kernel_rfl)
   refine af.skip (NX (af.seq (SR (gK 3 [(48,.map (some mp)),(50,vI ((en (nd ns i).ah j).id))] [(2,a_ 3 b1)] ?_))))
   rcases hup:up ((dK ns i j++ps).map (iQ ns)) (en (nd ns i).ah j).id with _|y
   ·refine ak.oZ 1 (d:=(some 51)) (t:=137) (K:=3) (E:=3) (b:=mp) (n:=(dK ns i j++ps).length) (f:=(mf (pf ((dK ns i j++ps).map (iQ ns))))) (x:=(.tmp 48)) (ix:=(.tmp 50)) (key:=.int .i64 ((en (nd ns i).ah j).id)) (z:=.int .i64 0) (kl:=(.int .i64 (en (nd ns i).ah j).id)) (r:=none) (fun _=>by kernel_rfl) (by kernel_rfl) (fun _=>by kernel_rfl) (fun _=>by kernel_rfl) dG Tryz.underlying137 (fun _=>by kernel_rfl) (kQ (hwf j (by omega)).1 (hwf j (by omega)).2) (wJ hup) ?_
    refine gK 5 [(12,.bool false)] [] ?_
    refine NS (gK 1 [(54,.bool false)] [] ?_)
    refine NN (CF (af.skip (NX (af.vm 7 (by kernel_rfl) (by kernel_rfl) ?_))))
    refine iX.seg (k':=7) (fr':=[(0,.pointer (some ⟨(ax A),av A+i * 10,none⟩)),(1,.map (some mb)),(2,.map (some mp)),(7,.string (en (nd ns i).ah j).name),(16,.slice (L.eA i) ((nd ns i).ah.length) ((L.eC i))),(17,vI ↑((nd ns i).ah.length)),(18,vI ↑j),(55,.map (some mp)),(57,vI ((en (nd ns i).ah j).id)),(61,vI ((nd ns i).id))]) (aZ:=[(Rd β ⟨(ax A),av A+i * 10,none⟩ (.int .i64 ((nd ns i).id))),b1=b1]) [o_,o_,⟨[.at 3],none,none,none,none⟩,o_,o_,o_,⟨[.old (.int .i64 ((nd ns i).id))],none,none,none,none⟩] [0,1,2,7,16,17,18,55,57,61] (fun _ _=>by kernel_rfl) ⟨aF.rd hG (i:=i) (by omega) (j:=0) rfl,rfl,trivial⟩ (by decide) ?_
    refine iX.done rfl ?_
    refine ak.kH 1 (d:=none) (t:=137) (K:=3) (E:=3) (b:=mp) (n:=(dK ns i j++ps).length) (f:=(mf (pf ((dK ns i j++ps).map (iQ ns))))) (x:=(.tmp 55)) (ix:=(.tmp 57)) (y:=(.tmp 61)) (key:=.int .i64 ((en (nd ns i).ah j).id)) (u:=.int .i64 ((nd ns i).id)) (kl:=(.int .i64 (en (nd ns i).ah j).id)) (n':=(dK ns i (j+1)++ps).length) (f':=(mf (pf ((dK ns i (j+1)++ps).map (iQ ns))))) (fun _=>by kernel_rfl) (by kernel_rfl) (fun _=>by kernel_rfl) (fun _=>by kernel_rfl) (fun _=>by kernel_rfl) dG Tryz.underlying137 (by have:=Gt ns i j;rw [List.length_append];unfold maxLen;omega) (kQ (hwf j (by omega)).1 (hwf j (by omega)).2) (OW (wJ hup) h46) (OV hat h46) ?_
    refine NL (aj.aP (NX (af.region ?_)))
    refine gK 2 [(18,vI ↑(j+1))] [(0,p_ ⟨[],none,none,none,some (vI ↑(j+1))⟩ [(Value.int .i64 (IntKind.wrap .i64 (((j:Nat):Int)+1)))=(.int .i64 ↑(j+1))] ⟨bB (by omega) (by omega) (by omega),trivial⟩)] ?_
    refine NL ?_
    exact aj.turn ((j+1)) (idx:=[0,1,2,7,16,17,18]) (pk:=[0,1,2]) (show (((j+1))<=(nd ns i).ah.length)/\(∀ t,t < ((j+1))->mP ns i t)/\(((dK ns i ((j+1))++ps).map Prod.fst).Nodup) from ⟨by omega,fun t ht=>(by rcases Nat.lt_succ_iff_lt_or_eq.1 ht with h|h;exact hok t h;subst h;exact⟨hat,AB,jt⟩),(Kz hat h46 hup hnd)⟩) (by show (nd ns i).ah.length - ((j+1)) < (nd ns i).ah.length - j;omega) (fun _=>by kernel_rfl) rfl (by kernel_rfl)
   refine ak.oZ 1 (d:=(some 51)) (t:=137) (K:=3) (E:=3) (b:=mp) (n:=(dK ns i j++ps).length) (f:=(mf (pf ((dK ns i j++ps).map (iQ ns))))) (x:=(.tmp 48)) (ix:=(.tmp 50)) (key:=.int .i64 ((en (nd ns i).ah j).id)) (z:=.int .i64 0) (kl:=(.int .i64 (en (nd ns i).ah j).id)) (r:=(some (vI y))) (fun _=>by kernel_rfl) (by kernel_rfl) (fun _=>by kernel_rfl) (fun _=>by kernel_rfl) dG Tryz.underlying137 (fun _=>by kernel_rfl) (kQ (hwf j (by omega)).1 (hwf j (by omega)).2) (QO hup) ?_
   refine gK 5 [(12,.bool true)] [] ?_
   refine NS (gK 1 [(54,.bool true)] [] ?_)
   refine NN (CT (SR (gK 1 [(6,.bool false)] [] ?_)))
   refine NN (af.ret (aj.aq (aj.aL (aj.aq (aj.aq (aj.aL (aj.aq ?_)))))))
   exact RT (l:=[]) (.bool false) [2] (.inr ⟨rfl,I4 hr hps hok hat h46 hup (by omega),rfl⟩)
  refine ak.dR 0 (d:=(some 25)) (t:=98) (K:=3) (E:=99) (b:=mb) (n:=ns.length) (f:=(mf (bf A ns ns.length))) (x:=(.tmp 22)) (ix:=(.tmp 24)) (key:=.int .i64 ((en (nd ns i).ah j).id)) (z:=.pointer none) (kl:=(.int .i64 (en (nd ns i).ah j).id)) (r:=none) (fun _=>by kernel_rfl) (by kernel_rfl) (fun _=>by kernel_rfl) (fun _=>by kernel_rfl) dG Tryz.underlying98 (fun _=>by kernel_rfl) (kQ (hwf j (by omega)).1 (hwf j (by omega)).2) (DV hat) ?_
  refine gK 1 [(10,.pointer none)] [] ?_
  refine NN (af.seq (SR (gK 14 [(39,.bool true)] [] ?_)))
  refine NN (CT (SR (gK 1 [(6,.bool false)] [] ?_)))
  refine NN (af.ret (aj.aq (aj.aL (aj.aq (aj.aq (aj.aL (aj.aq ?_)))))))
  exact RT (l:=[]) (.bool false) [2] (.inr ⟨rfl,fun h=>hat (h.ah j (by omega)).at_,rfl⟩)
 refine af.exit (aj.aU (aj.aU (aj.cK (NX (SR ?_)))))
 refine gK 1 [(6,.bool true)] [] ?_
 refine NN (af.ret ?_)
 exact RT (l:=[.abs (aN Tryz.prog 3 mb (mf (bf A ns ns.length)) ns.length),.abs (aN Tryz.prog 3 mp (mf (pf ((dK ns i j++ps).map (iQ ns)))) ((dK ns i j++ps).length))]) (.bool true) [0,1,2] (.inl ⟨rfl,⟨fun t ht=>hok t (by omega),by have:=hnd;rwa [show j=(nd ns i).ah.length by omega] at this⟩,by rw [show j=(nd ns i).ah.length by omega]⟩)
end
section
open Go.RowKit Go.Maps
def dS (ns:List aG):Nat->Nat
  | 0=>0
  | k+1=>dS ns k+(nd ns k).ah.length
def mI (ns:List aG):Nat->Int
  | 0=>0
  | k+1=>(nd ns k).id
structure bp (ns:List aG):Prop where
  len:ns.length<=4096
  node:∀ i,i < ns.length->nX (nd ns i)
  ids:∀ i,i < ns.length->1<=(nd ns i).id/\(nd ns i).id<=1099511627776
  rise:cq ns
  sum:dS ns ns.length<=8192
  ah:∀ i,i < ns.length->∀ j,j < (nd ns i).ah.length->mP ns i j
  nodup:((fw ns ns.length).map Prod.fst).Nodup
  ends:vF ((fw ns ns.length).map (iQ ns))
noncomputable instance (ns:List aG):Decidable (bp ns):=Classical.propDecidable _
theorem bp.last {ns:List aG} (h:bp ns) {k:Nat} (hk:k < ns.length):mI ns k < (nd ns k).id:=by
  cases k with
  | zero=>have:=(h.ids 0 hk).1;show (0:Int) < _;omega
  | succ k=>exact h.rise k (k+1) (Nat.lt_succ_self k) hk
structure qA (ns:List aG) (k:Nat):Prop where
  node:∀ i,i < k->nX (nd ns i)
  ids:∀ i,i < k->1<=(nd ns i).id/\(nd ns i).id<=1099511627776
  rise:∀ i j,i < j->j < k->(nd ns i).id < (nd ns j).id
theorem qA.zero (ns:List aG):qA ns 0:=⟨fun i h=>absurd h (Nat.not_lt_zero i),fun i h=>absurd h (Nat.not_lt_zero i),fun _ j _ h=>absurd h (Nat.not_lt_zero j)⟩
theorem qA.last {ns:List aG} {k:Nat} (h:qA ns k):0<=mI ns k/\mI ns k<=1099511627776:=by
  cases k with
  | zero=>exact⟨Int.le_refl _,by show (0:Int)<=1099511627776;decide⟩
  | succ k=>have:=h.ids k (Nat.lt_succ_self k);exact⟨by show 0<=(nd ns k).id;omega,this.2⟩
theorem qA.step {ns:List aG} {k:Nat} (h:qA ns k) (h1:mI ns k < (nd ns k).id) (h2:(nd ns k).id<=1099511627776) (h3:nX (nd ns k)):qA ns (k+1):=by
  have hl:=h.last
  refine⟨fun i hi=>?_,fun i hi=>?_,fun i j hij hj=>?_⟩
  ·rcases Nat.lt_succ_iff_lt_or_eq.1 hi with e|e
   ·exact h.node i e
   rw [e];exact h3
  ·rcases Nat.lt_succ_iff_lt_or_eq.1 hi with e|e
   ·exact h.ids i e
   rw [e];omega
  rcases Nat.lt_succ_iff_lt_or_eq.1 hj with e|e
  ·exact h.rise i j hij e
  subst e
  cases j with
  | zero=>omega
  | succ m=>
    have h4:(nd ns m).id < (nd ns (m+1)).id:=h1
    rcases Nat.lt_succ_iff_lt_or_eq.1 hij with e|e
    ·have:=h.rise i m e (Nat.lt_succ_self m);omega
    rw [e];exact h4
theorem Gv {ns:List aG} {k:Nat} (h:∀ i,i < k->(nd ns i).id < (nd ns k).id) (hk:k < ns.length):jm ns (nd ns k).id=(k:Int):=by
  unfold jm
  have hg:∀ j (hj:j < ns.length),nd ns j=ns[j]:=fun j hj=>by
    unfold nd
    rw [List.getD_eq_getElem?_getD,List.getElem?_eq_getElem hj]
    rfl
  have:ns.findIdx? (fun n=>n.id == (nd ns k).id)=some k:=by
    rw [List.findIdx?_eq_some_iff_getElem]
    refine⟨hk,by rw [← hg k hk];simp,fun j hj=>?_⟩
    have:=h j hj
    rw [← hg j (by omega)]
    simp
    omega
  rw [this]
theorem Tl {A:Option Addr} {ns:List aG} {k:Nat} (h:∀ i,i < k->(nd ns i).id < (nd ns k).id) (hk:k < ns.length) :
    kf (mf (bf A ns k)) (.int .i64 (nd ns k).id) (some (.pointer (some ⟨ax A,av A+k * 10,none⟩)))=mf (bf A ns (k+1)):=by
  have ha:=Gv h hk
  rw [Cq]
  congr 1
  funext z
  unfold bf
  by_cases e:z=(nd ns k).id
  ·subst e
   rw [if_pos rfl,if_pos ⟨by omega,by omega⟩]
   unfold tgt
   rw [ha]
   rfl
  rw [if_neg e]
  by_cases e1:0<=jm ns z/\jm ns z < (k:Int)
  ·rw [if_pos e1,if_pos ⟨e1.1,by omega⟩]
  rw [if_neg e1,if_neg (fun e2=>?_)]
  have e3:jm ns z=(k:Int):=by omega
  have e4:=(jB e2.1).2
  rw [e4.2] at e3
  have e5:tgt ns z=k:=by omega
  rw [e5] at e4
  exact e e4.1.symm
theorem OY {A:Option Addr} {ns:List aG} {k:Nat} (h:∀ i,i < k->(nd ns i).id < (nd ns k).id) (hk:k < ns.length):(if ((mf (bf A ns k)) (.int .i64 (nd ns k).id)).isSome then k else k+1)=k+1:=by
  have ha:=Gv h hk
  have:mf (bf A ns k) (.int .i64 (nd ns k).id)=none:=if_neg (fun e=>by omega)
  rw [this]
  rfl
theorem qA.below {ns:List aG} {k:Nat} (h:qA ns k) (h1:mI ns k < (nd ns k).id):∀ i,i < k->(nd ns i).id < (nd ns k).id:=by
  intro i hi
  cases k with
  | zero=>omega
  | succ m=>
    have h1:(nd ns m).id < (nd ns (m+1)).id:=h1
    rcases Nat.lt_succ_iff_lt_or_eq.1 hi with e|e
    ·have:=h.rise i m e (Nat.lt_succ_self m);omega
    rw [e];exact h1
theorem RS {A:Option Addr} {ns:List aG}:mf (bf A ns 0)=fun _=>none:=by
  rw [← zK]
  congr 1
  funext z
  exact if_neg (fun e=>by omega)
theorem RU {ns:List aG}:mf (pf ((fw ns 0).map (iQ ns)))=fun _=>none:=by
  rw [← zK]
  congr 1
theorem wL {ns:List aG} {i:Nat} (hi:i<=ns.length) (h:∀ a,a < i->∀ j,j < (nd ns a).ah.length->mP ns a j):∀ p,p∈fw ns i->p.1 < ns.length/\p.2 < ns.length:=by
  induction i with
  | zero=>intro p hp;cases hp
  | succ i ih=>
    intro p hp
    rw [fw] at hp
    rcases List.mem_append.1 hp with hp|hp
    ·have:=Gu (h i (Nat.lt_succ_self i)) p hp
     exact⟨this.1,by omega⟩
    exact ih (by omega) (fun a ha=>h a (by omega)) p hp
theorem Gw (ns:List aG) (i:Nat):(fw ns i).length<=dS ns i:=by
  induction i with
  | zero=>exact Nat.le_refl _
  | succ i ih=>
    rw [fw,dS,List.length_append]
    have:=Gt ns i (nd ns i).ah.length
    omega
theorem q6 {ns:List aG} {i m:Nat} (h:i<=m):dS ns i<=dS ns m:=by
  induction m with
  | zero=>rw [Nat.le_zero.1 h];exact Nat.le_refl _
  | succ m ih=>
    rcases Nat.lt_or_ge m i with h1|h1
    ·have:i=m+1:=by omega
     subst this
     exact Nat.le_refl _
    have:=ih h1
    rw [dS]
    omega
theorem Ml {ns:List aG} {ps:List (Nat×Nat)} (hp:∀ p,p∈ps->p.1 < ns.length/\p.2 < ns.length) (hid:∀ i,i < ns.length->1<=(nd ns i).id/\(nd ns i).id<=1099511627776) :
    ∀ z y,up (ps.map (iQ ns)) z=some y->(-9223372036854775808<=z/\z<=9223372036854775807)/\(-9223372036854775808<=y/\y<=9223372036854775807):=by
  intro z y h
  unfold up at h
  induction ps with
  | nil=>cases h
  | cons p ps ih=>
    obtain⟨a,b⟩:=p
    rw [List.map_cons,iQ,List.lookup_cons] at h
    by_cases e:(z == (nd ns a).id)=true
    ·rw [e] at h
     cases h
     have h1:=hp (a,b) (List.mem_cons_self ..)
     have h2:=hid a h1.1
     have h3:=hid b h1.2
     have:z=(nd ns a).id:=by simpa using e
     show (_/\_)/\(-9223372036854775808<=(nd ns b).id/\(nd ns b).id<=9223372036854775807)
     omega
    have e:(z == (nd ns a).id)=false:=by simpa using e
    rw [e] at h
    exact ih (fun p hp'=>hp p (List.mem_cons_of_mem _ hp')) h
theorem Tm {p:Prop} [Decidable p] {v:Value} {l:List HP} (h:v=.bool (decide p)/\l=[]):(v=.bool true/\p/\l=[])\/(v=.bool false/\¬ p/\l=[]):=by
  by_cases hp:p
  ·exact .inl ⟨by rw [h.1,decide_eq_true hp],hp,h.2⟩
  exact .inr ⟨by rw [h.1,decide_eq_false hp],hp,h.2⟩
theorem wK.next {ns:List aG} {i:Nat} (h:wK ns i (fw ns i)):((fw ns (i+1)).map Prod.fst).Nodup:=h.nodup
theorem bp.row {ns:List aG} (h:bp ns) {i:Nat} (hi:i < ns.length):wK ns i (fw ns i):=by
  refine⟨h.ah i hi,?_⟩
  obtain⟨l,hl⟩:=Mk (ns:=ns) (show i+1<=ns.length from hi)
  have:=h.nodup
  rw [hl] at this
  exact yB this
end
section
open Go.RowKit
attribute [local irreducible] ak aW af aj
theorem DW {β:Bs} (A:Option Addr) (c:Nat) (ns:List aG) (L:Lay) (hG:aF β A ns L) (hl:ns.length<=1048576) (hd:∀ i,i < ns.length->(nd ns i).data.length<=140737488355328/\(nd ns i).ah.length<=1048576) (hwf:∀ i,i < ns.length->∀ j,j < (nd ns i).ah.length->-9223372036854775808<=(ent ns i j).id/\(ent ns i j).id<=9223372036854775807) (hnm:∀ i,i < ns.length->∀ j,j < (nd ns i).ah.length->(ent ns i j).name.size<=1048576) :
    Spec Tryz.prog β 39 #[.agg #[.slice A ns.length c]] [] (fun v l=>(∃ mb,v=.tuple #[.map (some mb),.bool true]/\bp ns/\l=[.abs (aN Tryz.prog 3 mb (mf (bf A ns ns.length)) ns.length)])\/(∃ m,v=.tuple #[m,.bool false]/\¬ bp ns/\l=[])):=by
 refine Spec.enter Tryz.func39 rfl Tryz.ntmps39 (Nat.le_of_ble_eq_true rfl) (fun R=>?_)
 refine SR (gN 3 (fun b1=>[(1,vP b1)]) (fun _=>[]) (fun _=>[]) (fun b1=>.blk b1 [.slice A (ns.length) (c)] 24) (fun b1=>?_))
 refine NN (af.seq (SR (gK 4 [(14,.bool (decide ((((ns.length:Nat):Int):Int) > (4096:Int))))] [(1,a_ 1 b1)] ?_)))
 refine NN (af.aV (p:=(((ns.length:Nat):Int):Int) > (4096:Int)) (fun _=>by kernel_rfl) (fun ko=>?_) (fun ko=>?_))
 ·refine SR (gK 2 [(2,.map none),(3,.bool false)] [] ?_)
  refine NN (af.ret (aj.aq ?_))
  exact RT (.tuple #[.map none,.bool false]) [0] (.inr ⟨_,rfl,fun h=>by have:=h.len;omega,rfl⟩)
 refine af.skip (NX (SR (ak.kV (d:=(some 15)) (t:=98) (fun _=>by kernel_rfl) Tryz.prog rfl 3 (fun m2=>?_))))
 refine gK 1 [(4,.map (some m2))] [] ?_
 refine NS (ak.dI 2 (p:=.abs (aN Tryz.prog 3 m2 (fun _=>none) 0)) (p':=.abs (aN Tryz.prog 3 m2 (mf (bf A ns 0)) 0)) (by kernel_rfl) (by rw [RS]) ?_)
 refine gK 2 [(5,vI 0),(6,vI 0)] [] ?_
 refine NN (af.seq (SR (gK 4 [(18,vI ↑ns.length),(19,vI 0)] [(1,a_ 1 b1)] ?_)))
 refine NN (af.block ?_)
 refine af.loop (ι:=Nat) (fun (k:Nat)=>(k<=ns.length)/\(qA ns k)/\(dS ns k<=k * 1048576)) (fun (k:Nat)=>ns.length - k) (fun (k:Nat)=>[(1,vP b1),(4,.map (some m2)),(5,vI (mI ns k)),(6,vI ↑(dS ns k)),(18,vI ↑ns.length),(19,vI ↑k)]) (fun (k:Nat)=>[.blk b1 [.slice A (ns.length) (c)] 24,.abs (aN Tryz.prog 3 m2 (mf (bf A ns k)) k),.abs R]) 0 (idx:=[1,4,5,6,18,19]) (pk:=[1,2,0]) (show (0<=ns.length)/\(qA ns 0)/\(dS ns 0<=0 * 1048576) from ⟨Nat.zero_le _,qA.zero ns,Nat.zero_le _⟩) (fun _=>by kernel_rfl) rfl (by kernel_rfl) ?_
 rintro k ⟨hk,hu,hs⟩
 show af _ _ _ _ [(1,vP b1),(4,.map (some m2)),(5,vI (mI ns k)),(6,vI ↑(dS ns k)),(18,vI ↑ns.length),(19,vI ↑k)] [.blk b1 [.slice A (ns.length) (c)] 24,.abs (aN Tryz.prog 3 m2 (mf (bf A ns k)) k),.abs R] _
 have hk4:=(hd k)
 refine SR (gK 1 [(20,.bool (decide ((((k:Nat):Int):Int) < (((ns.length:Nat):Int):Int))))] [] ?_)
 refine NN (af.seq (af.aV (p:=(((k:Nat):Int):Int) < (((ns.length:Nat):Int):Int)) (fun _=>by kernel_rfl) (fun kg=>?_) (fun kg=>?_)))
 ·refine af.skip (NX (af.seq (af.block (SR ?_))))
  refine gK 2 [(7,vI ↑k)] [] ?_
  refine NS (gK 5 [(8,.pointer (some ⟨(ax A),av A+k * 10,none⟩))] [(1,a_ 0 b1),(3,p_ ⟨[],some k,none,some ⟨(ax A),av A,none⟩,none⟩ [((k:Nat):Int)=((k:Nat):Int),k < ns.length,(⟨(ax A),av A,none⟩:Addr).spot=none,(A:Option Addr)=some ⟨(ax A),av A,none⟩] ⟨rfl,by omega,rfl,aF.hd hG (i:=k) (by omega),trivial⟩)] ?_)
  refine NN (af.seq (SR (gK 7 [(32,.bool (decide (((nd ns k).id:Int)<=(mI ns k:Int))))] [(3,p_ ⟨[.old (.int .i64 ((nd ns k).id))],none,none,none,none⟩ [(Rd β ⟨(ax A),av A+k * 10,none⟩ (.int .i64 ((nd ns k).id)))] ⟨aF.rd hG (i:=k) (by omega) (j:=0) rfl,trivial⟩)] ?_)))
  refine ak.iG 32 (((nd ns k).id:Int)<=(mI ns k:Int)) (fun _=>by kernel_rfl) (fun Tg=>?_) (fun Tg=>?_)
  ·refine gK 11 [(43,.bool true)] [] ?_
   refine NN (CT (SR (gK 2 [(2,.map none),(3,.bool false)] [] ?_)))
   refine NN (af.ret (aj.aq (aj.aL (aj.aq (aj.aq (aj.aL (aj.aq ?_)))))))
   exact RT (.tuple #[.map none,.bool false]) [2] (.inr ⟨_,rfl,fun h=>by have:=h.last (show k < ns.length by omega);omega,rfl⟩)
  refine gK 7 [(39,.bool (decide (((nd ns k).id:Int) > (1099511627776:Int))))] [(3,p_ ⟨[.old (.int .i64 ((nd ns k).id))],none,none,none,none⟩ [(Rd β ⟨(ax A),av A+k * 10,none⟩ (.int .i64 ((nd ns k).id)))] ⟨aF.rd hG (i:=k) (by omega) (j:=0) rfl,trivial⟩)] ?_
  refine ak.iG 39 (((nd ns k).id:Int) > (1099511627776:Int)) (fun _=>by kernel_rfl) (fun jt=>?_) (fun jt=>?_)
  ·refine gK 4 [(43,.bool true)] [] ?_
   refine NN (CT (SR (gK 2 [(2,.map none),(3,.bool false)] [] ?_)))
   refine NN (af.ret (aj.aq (aj.aL (aj.aq (aj.aq (aj.aL (aj.aq ?_)))))))
   exact RT (.tuple #[.map none,.bool false]) [2] (.inr ⟨_,rfl,fun h=>by have:=(h.ids k (by omega)).2;omega,rfl⟩)
  refine gK 1 [(40,.pointer (some ⟨(ax A),av A+k * 10,none⟩))] [] ?_
  refine gL [] (OU A ns L hG k (by omega)) ?_
  rintro _ _ ⟨rfl,rfl⟩
  refine gK 2 [(43,.bool (!(decide (nX (nd ns k)))))] [] ?_
  refine NN (af.gT (p:=nX (nd ns k)) (fun _=>by kernel_rfl) (fun Tn=>?_) (fun Tn=>?_))
  ·refine SR (gK 2 [(2,.map none),(3,.bool false)] [] ?_)
   refine NN (af.ret (aj.aq (aj.aL (aj.aq (aj.aq (aj.aL (aj.aq ?_)))))))
   exact RT (.tuple #[.map none,.bool false]) [2] (.inr ⟨_,rfl,fun h=>Tn (h.node k (by omega)),rfl⟩)
  refine af.skip (NX (SR (gK 5 [(5,vI ((nd ns k).id))] [(3,p_ ⟨[.old (.int .i64 ((nd ns k).id))],none,none,none,none⟩ [(Rd β ⟨(ax A),av A+k * 10,none⟩ (.int .i64 ((nd ns k).id)))] ⟨aF.rd hG (i:=k) (by omega) (j:=0) rfl,trivial⟩)] ?_)))
  refine NS (gK 6 [(48,.map (some m2)),(52,vI ((nd ns k).id)),(53,.pointer (some ⟨(ax A),av A+k * 10,none⟩))] [(4,p_ ⟨[.old (.int .i64 ((nd ns k).id))],none,none,none,none⟩ [(Rd β ⟨(ax A),av A+k * 10,none⟩ (.int .i64 ((nd ns k).id)))] ⟨aF.rd hG (i:=k) (by omega) (j:=0) rfl,trivial⟩)] ?_)
  refine ak.kH 1 (d:=none) (t:=98) (K:=3) (E:=99) (b:=m2) (n:=k) (f:=(mf (bf A ns k))) (x:=(.tmp 48)) (ix:=(.tmp 52)) (y:=(.tmp 53)) (key:=.int .i64 ((nd ns k).id)) (u:=.pointer (some ⟨(ax A),av A+k * 10,none⟩)) (kl:=(.int .i64 (nd ns k).id)) (n':=k+1) (f':=(mf (bf A ns (k+1)))) (fun _=>by kernel_rfl) (by kernel_rfl) (fun _=>by kernel_rfl) (fun _=>by kernel_rfl) (fun _=>by kernel_rfl) dG Tryz.underlying98 (by unfold maxLen;omega) (kQ (by have:=hu.last;omega) (by omega)) (OY (hu.below (by omega)) (by omega)) (Tl (hu.below (by omega)) (by omega)) ?_
  refine NN (af.region (gK 8 [(6,vI ↑((dS ns k)+((nd ns k).ah.length)))] [(4,p_ ⟨[.old (.slice (L.eA k) ((nd ns k).ah.length) ((L.eC k)))],none,none,none,none⟩ [(Rd β ⟨(ax A),av A+k * 10+9,none⟩ (.slice (L.eA k) ((nd ns k).ah.length) ((L.eC k))))] ⟨aF.rd hG (i:=k) (by omega) (j:=9) rfl,trivial⟩),(6,p_ ⟨[],none,none,none,some (vI ↑((dS ns k)+((nd ns k).ah.length)))⟩ [(Value.int .i64 (IntKind.wrap .i64 (((dS ns k:Nat):Int)+(((nd ns k).ah.length:Nat):Int))))=(.int .i64 ↑((dS ns k)+((nd ns k).ah.length)))] ⟨bB (by omega) (by omega) (by omega),trivial⟩)] ?_))
  refine NL (aj.aP (NX (af.region ?_)))
  refine gK 2 [(19,vI ↑(k+1))] [(0,p_ ⟨[],none,none,none,some (vI ↑(k+1))⟩ [(Value.int .i64 (IntKind.wrap .i64 (((k:Nat):Int)+1)))=(.int .i64 ↑(k+1))] ⟨bB (by omega) (by omega) (by omega),trivial⟩)] ?_
  refine NL ?_
  exact aj.turn ((k+1)) (idx:=[1,4,5,6,18,19]) (pk:=[0,1,2]) (show (((k+1))<=ns.length)/\(qA ns ((k+1)))/\(dS ns ((k+1))<=((k+1)) * 1048576) from ⟨by omega,hu.step (by omega) (by omega) Tn,by have:=(hd k (by omega)).2;show dS ns k+_<=_;omega⟩) (by show ns.length - ((k+1)) < ns.length - k;omega) (fun _=>by kernel_rfl) rfl (by kernel_rfl)
 refine af.exit (aj.aU (aj.aU (aj.cK (NX (af.seq (SR ?_))))))
 refine gK 2 [(63,.bool (decide ((((dS ns k:Nat):Int):Int) > (8192:Int))))] [] ?_
 refine NN (af.aV (p:=(((dS ns k:Nat):Int):Int) > (8192:Int)) (fun _=>by kernel_rfl) (fun h63=>?_) (fun h63=>?_))
 ·refine SR (gK 2 [(2,.map none),(3,.bool false)] [] ?_)
  refine NN (af.ret (aj.aq ?_))
  exact RT (.tuple #[.map none,.bool false]) [2] (.inr ⟨_,rfl,fun h=>by have h1:=h.sum;rw [show ns.length=k by omega] at h1;omega,rfl⟩)
 refine af.skip (NX (SR (ak.kV (d:=(some 64)) (t:=137) (fun _=>by kernel_rfl) Tryz.prog rfl 3 (fun m3=>?_))))
 refine gK 1 [(9,.map (some m3))] [] ?_
 refine NN (af.seq (SR (ak.dI 3 (p:=.abs (aN Tryz.prog 3 m3 (fun _=>none) 0)) (p':=.abs (aN Tryz.prog 3 m3 (mf (pf ((fw ns 0).map (iQ ns)))) ((fw ns 0).length))) (by kernel_rfl) (by rw [RU];rfl) ?_)))
 refine ak.dI 1 (p:=.abs (aN Tryz.prog 3 m2 (mf (bf A ns k)) k)) (p':=.abs (aN Tryz.prog 3 m2 (mf (bf A ns ns.length)) ns.length)) (by kernel_rfl) (by rw [show k=ns.length by omega]) ?_
 refine gK 4 [(67,vI ↑ns.length),(68,vI 0)] [(1,a_ 0 b1)] ?_
 refine NN (af.block ?_)
 have QS:cq ns:=fun a b hab hb=>hu.rise a b hab (by omega)
 have hsum:dS ns ns.length<=8192:=by rw [show ns.length=k by omega];omega
 refine af.loop (ι:=Nat) (fun (i:Nat)=>(i<=ns.length)/\(∀ a,a < i->∀ j,j < (nd ns a).ah.length->mP ns a j)/\(((fw ns i).map Prod.fst).Nodup)) (fun (i:Nat)=>ns.length - i) (fun (i:Nat)=>[(1,vP b1),(4,.map (some m2)),(9,.map (some m3)),(67,vI ↑ns.length),(68,vI ↑i)]) (fun (i:Nat)=>[.blk b1 [.slice A (ns.length) (c)] 24,.abs (aN Tryz.prog 3 m2 (mf (bf A ns ns.length)) ns.length),.abs (aN Tryz.prog 3 m3 (mf (pf ((fw ns i).map (iQ ns)))) ((fw ns i).length)),.abs R]) 0 (idx:=[1,4,9,67,68]) (pk:=[0,1,3,2]) (show (0<=ns.length)/\(∀ a,a < 0->∀ j,j < (nd ns a).ah.length->mP ns a j)/\(((fw ns 0).map Prod.fst).Nodup) from ⟨Nat.zero_le _,fun a ha=>absurd ha (Nat.not_lt_zero a),List.nodup_nil⟩) (fun _=>by kernel_rfl) rfl (by kernel_rfl) ?_
 rintro i ⟨hi,FO,hnd⟩
 show af _ _ _ _ [(1,vP b1),(4,.map (some m2)),(9,.map (some m3)),(67,vI ↑ns.length),(68,vI ↑i)] [.blk b1 [.slice A (ns.length) (c)] 24,.abs (aN Tryz.prog 3 m2 (mf (bf A ns ns.length)) ns.length),.abs (aN Tryz.prog 3 m3 (mf (pf ((fw ns i).map (iQ ns)))) ((fw ns i).length)),.abs R] _
 refine SR (gK 1 [(69,.bool (decide ((((i:Nat):Int):Int) < (((ns.length:Nat):Int):Int))))] [] ?_)
 refine NN (af.seq (af.aV (p:=(((i:Nat):Int):Int) < (((ns.length:Nat):Int):Int)) (fun _=>by kernel_rfl) (fun Yk=>?_) (fun Yk=>?_)))
 ·refine af.skip (NX (af.seq (af.block (SR ?_))))
  refine gK 2 [(10,vI ↑i)] [] ?_
  refine NS (gK 6 [(74,.pointer (some ⟨(ax A),av A+i * 10,none⟩)),(75,.map (some m2)),(76,.map (some m3))] [(1,a_ 0 b1),(3,p_ ⟨[],some i,none,some ⟨(ax A),av A,none⟩,none⟩ [((i:Nat):Int)=((i:Nat):Int),i < ns.length,(⟨(ax A),av A,none⟩:Addr).spot=none,(A:Option Addr)=some ⟨(ax A),av A,none⟩] ⟨rfl,by omega,rfl,aF.hd hG (i:=i) (by omega),trivial⟩)] ?_)
  refine gL [1,2] (OX A ns L hG QS i (by omega) (hd i (by omega)).2 (hwf i (by omega)) (hnm i (by omega)) m2 m3 (fw ns i) (by have:=Gw ns i;have:=q6 (ns:=ns) (show i<=ns.length by omega);omega) (fun p hp=>(wL (by omega) FO p hp).1) hnd) ?_
  rintro _ _ (⟨rfl,hro,rfl⟩|⟨rfl,hro,rfl⟩)
  ·refine gK 1 [(78,.bool false)] [] ?_
   refine NN (CF (af.skip (aj.aP (NX (af.region ?_)))))
   refine gK 2 [(68,vI ↑(i+1))] [(0,p_ ⟨[],none,none,none,some (vI ↑(i+1))⟩ [(Value.int .i64 (IntKind.wrap .i64 (((i:Nat):Int)+1)))=(.int .i64 ↑(i+1))] ⟨bB (by omega) (by omega) (by omega),trivial⟩)] ?_
   refine NL ?_
   exact aj.turn ((i+1)) (idx:=[1,4,9,67,68]) (pk:=[2,0,1,3]) (show (((i+1))<=ns.length)/\(∀ a,a < ((i+1))->∀ j,j < (nd ns a).ah.length->mP ns a j)/\(((fw ns ((i+1))).map Prod.fst).Nodup) from ⟨by omega,fun a ha=>(by rcases Nat.lt_succ_iff_lt_or_eq.1 ha with h|h;exact FO a h;subst h;exact hro.ah),hro.next⟩) (by show ns.length - ((i+1)) < ns.length - i;omega) (fun _=>by kernel_rfl) rfl (by kernel_rfl)
  refine gK 1 [(78,.bool true)] [] ?_
  refine NN (CT (SR (gK 2 [(2,.map none),(3,.bool false)] [] ?_)))
  refine NN (af.ret (aj.aL (aj.aq (aj.aq (aj.aL (aj.aq ?_))))))
  exact RT (.tuple #[.map none,.bool false]) [1] (.inr ⟨_,rfl,fun h=>hro (h.row (by omega)),rfl⟩)
 refine af.exit (aj.aU (aj.aU (aj.cK (NX (SR ?_)))))
 refine gK 2 [(80,.map (some m2)),(81,.map (some m3))] [] ?_
 refine ak.dI 2 (p:=.abs (aN Tryz.prog 3 m3 (mf (pf ((fw ns i).map (iQ ns)))) ((fw ns i).length))) (p':=.abs (aN Tryz.prog 3 m3 (mf (pf ((fw ns i).map (iQ ns)))) (((fw ns i).map (iQ ns)).length))) (by kernel_rfl) (by rw [List.length_map]) ?_
 refine gL [2] ((Mf m3 ((fw ns i).map (iQ ns)) (by rw [List.length_map];have:=Gw ns i;have:=q6 (ns:=ns) (show i<=ns.length by omega);omega) (Ml (wL (by omega) FO) (fun a ha=>hu.ids a (by omega)))).mono (fun v l h=>Tm h)) ?_
 rintro _ _ (⟨rfl,Tp,rfl⟩|⟨rfl,Tp,rfl⟩)
 ·refine gK 2 [(2,.map (some m2)),(3,.bool true)] [] ?_
  refine NN (af.ret ?_)
  exact RT (.tuple #[.map (some m2),.bool true]) [1,2] (.inl ⟨m2,rfl,⟨by omega,fun a ha=>hu.node a (by omega),fun a ha=>hu.ids a (by omega),QS,by omega,fun a ha=>FO a (by omega),by have:=hnd;rwa [show i=ns.length by omega] at this,by have:=Tp;rwa [show i=ns.length by omega] at this⟩,rfl⟩)
 refine gK 2 [(2,.map (some m2)),(3,.bool false)] [] ?_
 refine NN (af.ret ?_)
 exact RT (.tuple #[.map (some m2),.bool false]) [2] (.inr ⟨_,rfl,fun h=>Tp (by have:=h.ends;rwa [show ns.length=i by omega] at this),rfl⟩)
theorem OZ {β:Bs} (A:Option Addr) (c:Nat) (ns:List aG) (L:Lay) (hG:aF β A ns L) (hl:ns.length<=1048576) (hd:∀ i,i < ns.length->(nd ns i).data.length<=140737488355328/\(nd ns i).ah.length<=1048576) (hwf:∀ i,i < ns.length->∀ j,j < (nd ns i).ah.length->-9223372036854775808<=(ent ns i j).id/\(ent ns i j).id<=9223372036854775807) (hnm:∀ i,i < ns.length->∀ j,j < (nd ns i).ah.length->(ent ns i j).name.size<=1048576) :
    Spec Tryz.prog β 76 #[.agg #[.slice A ns.length c]] [] (fun v l=>v=vI (if bp ns then 0 else 140)/\l=[]):=by
 refine Spec.enter Tryz.func76 rfl Tryz.ntmps76 (Nat.le_of_ble_eq_true rfl) (fun R=>?_)
 refine SR (gN 2 (fun b4=>[(1,vP b4)]) (fun _=>[]) (fun _=>[]) (fun b4=>.blk b4 [.slice A (ns.length) (c)] 24) (fun b4=>?_))
 refine NN (af.seq (SR (gK 1 [(6,.agg #[.slice A (ns.length) (c)])] [(0,a_ 1 b4)] ?_)))
 refine gL [] (DW A c ns L hG hl hd hwf hnm) ?_
 rintro _ _ (⟨mb,rfl,hok,rfl⟩|⟨m,rfl,hok,rfl⟩)
 ·refine gK 5 [(4,.bool true)] [] ?_
  refine NS (gK 2 [(11,.bool false)] [] ?_)
  refine NN (CF (af.skip (NX (SR (gK 1 [(2,vI 0)] [] ?_)))))
  refine NN (af.ret ?_)
  exact RT (vI 0) [1] (⟨congrArg (Value.int .i64) (if_pos hok).symm,rfl⟩)
 refine gK 5 [(4,.bool false)] [] ?_
 refine NS (gK 2 [(11,.bool true)] [] ?_)
 refine NN (CT (SR (gK 1 [(2,vI 140)] [] ?_)))
 refine NN (af.ret (aj.aq ?_))
 exact RT (vI 140) [0] (⟨congrArg (Value.int .i64) (if_neg hok).symm,rfl⟩)
end
section
open Go.RowKit Go.Maps
def Xm (ed:List (Nat×Nat)) (k:Nat):Int:=match ed.lookup k with|some a=>(a:Int)|none=>-1
structure ZQ (n:Nat) (pl:List Int) (ed:List (Nat×Nat)):Prop where
  len:pl.length=n
  at_:∀ k,k < n->pl.getD k 0=Xm ed k
theorem Bx:∀ (n:Nat) (l:List Nat),l.Nodup->(∀ x,x∈l->x < n)->l.length<=n
  | 0,[],_,_=>Nat.le_refl _
  | 0,a::l,_,h=>absurd (h a (List.mem_cons_self ..)) (Nat.not_lt_zero a)
  | n+1,l,hn,h=>by
    have h1:=Bx n (l.erase n) (hn.erase n) (fun x hx=>by
      have h2:=(List.Nodup.mem_erase_iff hn).1 hx
      have:=h x h2.2
      omega)
    by_cases hm:n∈l
    ·have:=List.length_erase_of_mem hm
     omega
    rw [List.erase_of_not_mem hm] at h1
    omega
theorem Mn {ns:List aG} {ed:List (Nat×Nat)} (hp:∀ p,p∈ed->p.1 < ns.length) (h:∀ i,i < ns.length->Ends (ed.map (iQ ns)) (nd ns i).id):vF (ed.map (iQ ns)):=by
  intro z
  cases hu:up (ed.map (iQ ns)) z with
  | none=>exact⟨0,hu⟩
  | some y=>
    have:∃ p,p∈ed/\z=(nd ns p.1).id:=by
      unfold up at hu
      clear h
      induction ed with
      | nil=>cases hu
      | cons p ed ih=>
        rw [List.map_cons,iQ,List.lookup_cons] at hu
        by_cases e:(z == (nd ns p.1).id)=true
        ·exact⟨p,List.mem_cons_self ..,by simpa using e⟩
        have e:(z == (nd ns p.1).id)=false:=by simpa using e
        rw [e] at hu
        obtain⟨q,hq,h2⟩:=ih (fun p hp'=>hp p (List.mem_cons_of_mem _ hp')) hu
        exact⟨q,List.mem_cons_of_mem _ hq,h2⟩
    obtain⟨p,h1,rfl⟩:=this
    exact h p.1 (hp p h1)
theorem O0 {ns:List aG} {i j:Nat} (h1:0<=jm ns (ent ns i j).id) (h2:bF (ent ns i j).name) (h3:0 < j->¬ ju (ent ns i j).name (ent ns i (j - 1)).name):mP ns i j:=by
  refine⟨h1,h2,?_⟩
  cases j with
  | zero=>
    intro h
    have:=I0.1 h
    have h4:=h2.1
    rw [this] at h4
    exact absurd h4 (by decide)
  | succ j=>exact h3 (Nat.succ_pos j)
end
section
open Go.RowKit
theorem B0.refl (W:World):(B0 W).le (B0 W):=⟨fun _ h=>h,rfl,rfl,rfl,Nat.le_refl _,fun _ hk=>⟨hk,rfl⟩⟩
section gb
variable {ns:List aG} {b:Nat}
variable (h:iA ns 1048576)
include h
end gb
structure Cu (ns:List aG):Prop where
  hl:ns.length<=1048576
  hd:∀ i,i < ns.length->(nd ns i).data.length<=140737488355328/\(nd ns i).ah.length<=1048576
  hwf:∀ i,i < ns.length->∀ j,j < (nd ns i).ah.length->-9223372036854775808<=(ent ns i j).id/\(ent ns i j).id<=9223372036854775807
  hnm:∀ i,i < ns.length->∀ j,j < (nd ns i).ah.length->(ent ns i j).name.size<=1048576
  ids:∀ i,i < ns.length->kX (nd ns i).id
def L0:Lay:=⟨fun _=>none,fun _=>none,fun _=>0,fun _=>0⟩
theorem cF.nil {β:Bs} {A:Option Addr}:cF β A []:=fun j v hj=>by simp at hj
end
section
open Go.RowKit
structure Th where
  k:Nat
  kind:Int
deriving Inhabited,DecidableEq
abbrev fS (α:Type):=List (ByteArray×α)
structure aY where
  id:Int
  mode:Int
  uid:Int
  gid:Int
  sec:Int
  nano:Int
  links:Int
  opens:Int
  gone:Bool
  kind:Int
  data:List UInt8
  target:ByteArray
  ah:fS Th
  up:Option Nat
deriving Inhabited
abbrev bW:=Nat->aY
def obj (O:bW) (k:Nat):aY:=O k
def aO (O:bW) (k:Nat) (f:aY->aY):bW:=fun i=>if i=k then f (O i) else O i
section kf
variable {O:bW} {k j:Nat} {f g:aY->aY}
theorem cD:obj (aO O k f) k=f (obj O k):=if_pos rfl
theorem bT (h:j≠k):obj (aO O k f) j=obj O j:=if_neg h
theorem jI:obj (aO O k f) j=if j=k then f (obj O j) else obj O j:=rfl
theorem RV (h:f (obj O k)=obj O k):aO O k f=O:=by
  funext i
  show (if i=k then f (O i) else O i)=O i
  split
  ·rename_i e;subst e;exact h
  rfl
theorem yC:aO (aO O k f) k g=aO O k (fun o=>g (f o)):=by
  funext i
  show (if i=k then g (if i=k then f (O i) else O i) else (if i=k then f (O i) else O i))=if i=k then g (f (O i)) else O i
  split<;>rfl
end kf
section ah
variable {α:Type} {n p:ByteArray} {t:α} {es:fS α}
def aT (n:ByteArray) (es:fS α):Option α:=(es.find? (fun e=>decide (e.1=n))).map (·.2)
def ic (n:ByteArray) (t:α):fS α->fS α
  | []=>[(n,t)]
  | e::r=>if ¬ ju e.1 n then (n,t)::e::r else e::ic n t r
def ig (n:ByteArray) (es:fS α):fS α:=es.filter (fun e=>decide (e.1≠n))
theorem iZ {e:ByteArray×α}:aT n (e::es)=if e.1=n then some e.2 else aT n es:=by
  unfold aT
  rw [List.find?_cons]
  by_cases h:e.1=n
  ·rw [if_pos h];simp [h]
  rw [if_neg h];simp [h]
theorem wM:aT n es=none↔∀ e∈es,e.1≠n:=by
  unfold aT
  rw [Option.map_eq_none_iff,List.find?_eq_none]
  simp
theorem lS {es:fS α} (h:aT n es=some t):(n,t)∈es:=by
  unfold aT at h
  obtain⟨e,h1,h2⟩:=Option.map_eq_some_iff.1 h
  have h3:=List.find?_some h1
  have h4:=List.mem_of_find?_eq_some h1
  obtain⟨a,b⟩:=e
  simp at h3 h2
  subst h3 h2
  exact h4
theorem Gx:∀ {es:fS α},(ic n t es).length=es.length+1
  | []=>rfl
  | e::r=>by
    unfold ic
    split
    ·rfl
    rw [List.length_cons,Gx];rfl
theorem yD (hn:aT n es=none):aT p (ic n t es)=if p=n then some t else aT p es:=by
  induction es with
  | nil=>
    rw [ic,iZ]
    by_cases h:n=p
    ·rw [if_pos h,if_pos h.symm]
    rw [if_neg h,if_neg (fun e=>h e.symm)]
  | cons e r ih=>
    rw [iZ] at hn
    have he:¬ e.1=n:=fun h=>by rw [if_pos h] at hn;cases hn
    rw [if_neg he] at hn
    rw [ic]
    split
    ·rw [iZ]
     by_cases h:n=p
     ·rw [if_pos h,if_pos h.symm]
     rw [if_neg h,if_neg (fun e=>h e.symm)]
    rw [iZ,ih hn,iZ]
    by_cases h:p=n
    ·subst h;rw [if_neg he,if_pos rfl,if_pos rfl]
    rw [if_neg h,if_neg h]
theorem rG:aT p (ig n es)=if p=n then none else aT p es:=by
  induction es with
  | nil=>simp [ig,aT]
  | cons e r ih=>
    unfold ig at ih ⊢
    rw [List.filter_cons]
    by_cases h:e.1=n
    ·rw [if_neg (by simp [h]),ih,iZ]
     by_cases hp:p=n
     ·rw [if_pos hp,if_pos hp]
     rw [if_neg hp,if_neg hp,if_neg (fun e2=>hp (e2.symm.trans h))]
    rw [if_pos (by simp [h]),iZ,ih,iZ]
    by_cases hp:p=n
    ·subst hp;rw [if_neg h,if_pos rfl,if_pos rfl]
    rw [if_neg hp,if_neg hp]
def o5 (es:fS α):Prop:=es.Pairwise (fun a b=>a.1≠b.1)
theorem O3 {es:fS α} (hd:o5 es) (h:aT n es=some t):(ig n es).length+1=es.length:=by
  induction es with
  | nil=>cases h
  | cons e r ih=>
    obtain⟨h1,h2⟩:=List.pairwise_cons.1 hd
    rw [iZ] at h
    unfold ig at ih ⊢
    rw [List.filter_cons]
    by_cases he:e.1=n
    ·rw [if_neg (by simp [he])]
     have:r.filter (fun e=>decide (e.1≠n))=r:=List.filter_eq_self.2 (fun x hx=>by have:=h1 x hx;simp;exact fun e2=>this (he.trans e2.symm))
     rw [this];rfl
    rw [if_pos (by simp [he])]
    rw [if_neg he] at h
    rw [List.length_cons,List.length_cons,ih h2 h]
theorem Bz {e:ByteArray×α}:∀ {es:fS α},e∈ic n t es↔e=(n,t)\/e∈es
  | []=>by simp [ic]
  | x::r=>by
    unfold ic
    split
    ·simp
    rw [List.mem_cons,Bz,List.mem_cons]
    constructor
    ·rintro (h|h|h)
     ·exact .inr (.inl h)
     ·exact .inl h
     exact .inr (.inr h)
    rintro (h|h|h)
    ·exact .inr (.inl h)
    ·exact .inl h
    exact .inr (.inr h)
end ah
end
section
open Go.RowKit
section sat
variable {β:Bs} {l:List HP} {w:World} {p p1 p2:HP} {i:Nat}
theorem Sat.Vv (h:Sat β l w) (hp:l[i]?=some p) (hs:∀ F,p.h F w->∃ F1 F2,p1.h F1 w/\p2.h F2 w/\Apart F1 F2/\∀ k,F k↔F1 k\/F2 k):Sat β (l.set i p1++[p2]) w:=by
  obtain⟨ho,φ,h1,h2,h3⟩:=h
  obtain⟨F1,F2,g1,g2,g3,g4⟩:=hs _ (h1 i p hp)
  have hi:=bq hp
  have hlen:(l.set i p1++[p2]).length=l.length+1:=by simp
  refine⟨ho,fun j=>if j=l.length then F2 else if j=i then F1 else φ j,fun j q hq=>?_,fun j hj k hk hO=>?_,fun a b ha hb hne k hk hk'=>?_⟩
  ·by_cases e:j=l.length
   ·subst e
    rw [List.getElem?_append_right (by simp)] at hq
    simp at hq
    subst hq
    simpa using g2
   rw [List.getElem?_append_left (by have:=bq hq;rw [hlen] at this;simp;omega)] at hq
   simp only [e,if_false]
   by_cases e2:j=i
   ·subst e2
    rw [List.getElem?_set_self hi] at hq
    cases hq
    simpa using g1
   rw [List.getElem?_set_ne (fun e'=>e2 e'.symm)] at hq
   simp only [e2,if_false]
   exact h1 j q hq
  ·rw [hlen] at hj
   have hF:∀ k,F1 k\/F2 k->β.O k->False:=fun k hk hO=>h2 i hi k ((g4 k).2 hk) hO
   by_cases e:j=l.length
   ·simp only [e,if_true] at hk;exact hF k (.inr hk) hO
   simp only [e,if_false] at hk
   by_cases e2:j=i
   ·simp only [e2,if_true] at hk;exact hF k (.inl hk) hO
   simp only [e2,if_false] at hk;exact h2 j (by omega) k hk hO
  rw [hlen] at ha hb
  have key:∀ j,j < l.length->j≠i->∀ k,F1 k\/F2 k->φ j k->False:=fun j hj hne k hk hk'=>h3 j i hj hi hne k hk' ((g4 k).2 hk)
  by_cases ea:a=l.length
  ·simp only [ea,if_true] at hk
   have eb:¬ b=l.length:=fun e=>hne (ea.trans e.symm)
   simp only [eb,if_false] at hk'
   by_cases Cv:b=i
   ·simp only [Cv,if_true] at hk';exact g3 k hk' hk
   simp only [Cv,if_false] at hk';exact key b (by omega) Cv k (.inr hk) hk'
  simp only [ea,if_false] at hk
  by_cases Mp:a=i
  ·simp only [Mp,if_true] at hk
   by_cases eb:b=l.length
   ·simp only [eb,if_true] at hk';exact g3 k hk hk'
   simp only [eb,if_false] at hk'
   have Cv:¬ b=i:=fun e=>hne (Mp.trans e.symm)
   simp only [Cv,if_false] at hk'
   exact key b (by omega) Cv k (.inl hk) hk'
  simp only [Mp,if_false] at hk
  by_cases eb:b=l.length
  ·simp only [eb,if_true] at hk';exact key a (by omega) Mp k (.inr hk') hk
  simp only [eb,if_false] at hk'
  by_cases Cv:b=i
  ·simp only [Cv,if_true] at hk';exact key a (by omega) Mp k (.inl hk') hk
  simp only [Cv,if_false] at hk';exact h3 a b (by omega) (by omega) hne k hk hk'
theorem Sat.QT {j:Nat} {idx:List Nat} {l':List HP} (h:Sat β l w) (hp:l[i]?=some p1) (hq:l[j]?=some p2) (hn:nodupB (i::j::idx)=true) (hl:bO l idx=some l') (hs:∀ F1 F2,p1.h F1 w->p2.h F2 w->Apart F1 F2->∃ F,p.h F w/\∀ k,F k->F1 k\/F2 k):Sat β (p::l') w:=by
  have h':=h.pick (idx:=i::j::idx) (l':=p1::p2::l') hn (by simp only [bO,hp,hq,hl])
  obtain⟨ho,φ,h1,h2,h3⟩:=h'
  obtain⟨F,hF,hk⟩:=hs _ _ (h1 0 p1 rfl) (h1 1 p2 rfl) (h3 0 1 (by simp) (by simp) (by decide))
  have hlen:(p1::p2::l').length=l'.length+2:=rfl
  rw [hlen] at h2 h3
  refine⟨ho,fun j=>if j=0 then F else φ (j+1),fun j q hq=>?_,fun j hj k hkk hO=>?_,fun a b ha hb hne k hk1 hk2=>?_⟩
  ·cases j with
   | zero=>simp at hq;subst hq;simpa using hF
   | succ j=>simpa using h1 (j+2) q (by simpa using hq)
  ·simp only [List.length_cons] at hj
   cases j with
   | zero=>
     simp only [if_true] at hkk
     rcases hk k hkk with e|e
     ·exact h2 0 (by omega) k e hO
     exact h2 1 (by omega) k e hO
   | succ j=>exact h2 (j+2) (by omega) k (by simpa using hkk) hO
  simp only [List.length_cons] at ha hb
  have key:∀ j,j < l'.length->F k->φ (j+2) k->False:=fun j hj e1 e2=>by
    rcases hk k e1 with e|e
    ·exact h3 0 (j+2) (by omega) (by omega) (by omega) k e e2
    exact h3 1 (j+2) (by omega) (by omega) (by omega) k e e2
  cases a with
  | zero=>
    cases b with
    | zero=>exact hne rfl
    | succ b=>exact key b (by omega) (by simpa using hk1) (by simpa using hk2)
  | succ a=>
    cases b with
    | zero=>exact key a (by omega) (by simpa using hk2) (by simpa using hk1)
    | succ b=>exact h3 (a+2) (b+2) (by omega) (by omega) (by omega) k (by simpa using hk1) (by simpa using hk2)
end sat
def jN (R:Nat->bV) (n:Nat):bV where
  h F w:=∃ φ:Nat->Fp,(∀ i,i < n->(R i).h (φ i) w)/\(∀ i j,i < n->j < n->i≠j->Apart (φ i) (φ j))/\∀ k,F k↔∃ i,i < n/\φ i k
  lt:=fun ⟨_,h1,_,h3⟩ k hk=>let ⟨i,hi,hk⟩:=(h3 k).1 hk;(R i).lt (h1 i hi) k hk
  st:=fun ⟨φ,h1,h2,h3⟩ _ _ hk hn=>⟨φ,fun i hi=>(R i).st (h1 i hi) hk (fun k hk=>hn k ((h3 k).2 ⟨i,hi,hk⟩)),h2,h3⟩
def bV.none:bV where
  h F _:=∀ k,¬ F k
  lt:=fun h k hk=>absurd hk (h k)
  st:=fun h _ _ _ _=>h
def kZ (R:Nat->bV) (k:Nat) (a:bV):Nat->bV:=fun i=>if i=k then a else R i
section Mq
variable {β:Bs} {l l':List HP} {w:World} {i n k:Nat} {R R':Nat->bV} {a:bV}
theorem jN.nil (R:Nat->bV) (w:World):(HP.abs (jN R 0)).h (fun _=>False) w:=⟨fun _ _=>False,fun i hi=>absurd hi (Nat.not_lt_zero i),fun i _ hi=>absurd hi (Nat.not_lt_zero i),fun _=>⟨fun h=>h.elim,fun ⟨i,hi,_⟩=>absurd hi (Nat.not_lt_zero i)⟩⟩
theorem Sat.Mr (h:Sat β l w) (R:Nat->bV):Sat β (l++[.abs (jN R 0)]) w:=Sat.new h (jN.nil R w) (Keeps.refl _ _) (fun _ h=>h.elim)
theorem Sat.tf {j:Nat} {idx:List Nat} (h:Sat β l w) (hp:l[i]?=some (.abs (jN R n))) (hq:l[j]?=some (.abs a)) (hn:nodupB (i::j::idx)=true) (hl:bO l idx=some l') (hR:∀ x,x < n->R' x=R x) (ha:R' n=a):Sat β (.abs (jN R' (n+1))::l') w:=by
  refine h.QT hp hq hn hl ?_
  rintro F1 F2 ⟨φ,h1,h2,h3⟩ hF hap
  refine⟨fun x=>F1 x\/F2 x,⟨fun i=>if i=n then F2 else φ i,fun i hi=>?_,fun i j hi hj hne x hx hy=>?_,fun x=>⟨fun hx=>?_,fun ⟨i,hi,hx⟩=>?_⟩⟩,fun x hx=>hx⟩
  ·by_cases e:i=n
   ·subst e;simp only [if_true];rw [ha];exact hF
   simp only [e,if_false];rw [hR i (by omega)];exact h1 i (by omega)
  ·by_cases e1:i=n
   ·by_cases e2:j=n
    ·exact hne (e1.trans e2.symm)
    simp only [e1,if_true] at hx
    simp only [e2,if_false] at hy
    exact hap x ((h3 x).2 ⟨j,by omega,hy⟩) hx
   simp only [e1,if_false] at hx
   by_cases e2:j=n
   ·simp only [e2,if_true] at hy
    exact hap x ((h3 x).2 ⟨i,by omega,hx⟩) hy
   simp only [e2,if_false] at hy
   exact h2 i j (by omega) (by omega) hne x hx hy
  ·rcases hx with hx|hx
   ·obtain⟨i,hi,hx⟩:=(h3 x).1 hx
    exact⟨i,by omega,by simpa [Nat.ne_of_lt hi] using hx⟩
   exact⟨n,Nat.lt_succ_self n,by simpa using hx⟩
  by_cases e:i=n
  ·exact .inr (by simpa [e] using hx)
  exact .inl ((h3 x).2 ⟨i,by omega,by simpa [e] using hx⟩)
theorem jN.base {F:Fp} {β':Bs} (h:(HP.abs (jN R n)).h F w) (h1:∀ k,F k->β'.O k) (_:β'.w0=w) {Φ:Nat->Bs->Prop} (yj:∀ i,i < n->∀ F,(R i).h F w->(∀ k,F k->β'.O k)->Φ i β'):∀ i,i < n->Φ i β':=by
  obtain⟨φ,g1,_,g3⟩:=h
  exact fun i hi=>yj i hi (φ i) (g1 i hi) (fun k hk=>h1 k ((g3 k).2 ⟨i,hi,hk⟩))
end Mq
section wF
variable {P:Program} {β:Bs} {N:dD} {ops:Array Oper} {S:List HP} {l:List Nat} {fr:Fr} {hps:List HP} {Q:Post} {i:Nat}
def Tq (β:Bs) (N:dD) {ι:Type} (B:ι->Bs) (Φ:ι->Prop) (fr:ι->Fr) (hp:ι->List HP):Post:=fun _ a w=>∃ i junk,β.le (B i)/\Φ i/\a=bN N (fr i) junk/\Sat (B i) (hp i) w
theorem aj.Xn {rH:Bs} {ι:Type} {B:ι->Bs} {Φ:ι->Prop} {fr':ι->Fr} {hp':ι->List HP} (j:ι) {idx pk:List Nat} (hb:B j=β) (hle:rH.le β) (yj:Φ j) (hf:∀ junk,ij fr junk idx=fr' j) (hn:nodupB pk=true) (hp:bO hps pk=some (hp' j)):aj β N (NP (Tq rH N B Φ fr' hp')) .normal fr hps:=by
  subst hb
  exact fun junk _ hS=>⟨j,lk fr junk,hle,yj,by rw [jo N fr junk idx,hf junk],hS.pick hn hp⟩
end wF
end
section
open Go.RowKit
structure qC (β:Bs) (R:List HP) (β':Bs):Prop where
  le:β.le β'
  fp:∃ φ:Nat->Fp,(∀ (i:Nat) (p:HP),R[i]?=some p->p.h (φ i) β'.w0/\∀ k,φ i k->β'.O k)/\(∀ i,i < R.length->∀ k,φ i k->¬ β.O k)/\(∀ i j,i < R.length->j < R.length->i≠j->Apart (φ i) (φ j))/\∀ k,β'.O k->β.O k\/∃ i,i < R.length/\φ i k
section Xo
variable {β β' EQ:Bs} {l R:List HP} {w:World} {p:HP} {i:Nat}
theorem qC.get (h:qC β R β') (i:Nat) (hp:R[i]?=some p):∃ F,p.h F β'.w0/\∀ k,F k->β'.O k:=by
  obtain⟨φ,h1,_⟩:=h.fp
  exact⟨φ i,h1 i p hp⟩
theorem Sat.turn {a b:List HP} (h:Sat β (a++b) w):Sat β (b++a) w:=by
  obtain⟨ho,φ,h1,h2,h3⟩:=h
  have hl:(a++b).length=a.length+b.length:=List.length_append
  have hl':(b++a).length=b.length+a.length:=List.length_append
  refine⟨ho,fun i=>if i < b.length then φ (a.length+i) else φ (i - b.length),fun i p hp=>?_,fun i hi k hk hO=>?_,fun i j hi hj hne k hk hk'=>?_⟩
  ·have hi:=bq hp
   by_cases e:i < b.length
   ·simp only [e,if_true]
    rw [List.getElem?_append_left e] at hp
    exact h1 _ p (by rw [List.getElem?_append_right (by omega)];simpa using hp)
   simp only [e,if_false]
   rw [List.getElem?_append_right (by omega)] at hp
   exact h1 _ p (by rw [List.getElem?_append_left (by omega)];exact hp)
  ·by_cases e:i < b.length
   ·simp only [e,if_true] at hk
    exact h2 _ (by omega) k hk hO
   simp only [e,if_false] at hk
   exact h2 _ (by omega) k hk hO
  by_cases e1:i < b.length
  ·simp only [e1,if_true] at hk
   by_cases e2:j < b.length
   ·simp only [e2,if_true] at hk'
    exact h3 _ _ (by omega) (by omega) (by omega) k hk hk'
   simp only [e2,if_false] at hk'
   exact h3 _ _ (by omega) (by omega) (by omega) k hk hk'
  simp only [e1,if_false] at hk
  by_cases e2:j < b.length
  ·simp only [e2,if_true] at hk'
   exact h3 _ _ (by omega) (by omega) (by omega) k hk hk'
  simp only [e2,if_false] at hk'
  exact h3 _ _ (by omega) (by omega) (by omega) k hk hk'
theorem Sat.BA (h:Sat β (l++R) w):∃ β',qC β R β'/\β'.w0=w/\Sat β' l w:=by
  obtain⟨ho,φ,h1,h2,h3⟩:=h
  have hl:(l++R).length=l.length+R.length:=List.length_append
  have hR:∀ (i:Nat) (p:HP),R[i]?=some p->p.h (φ (l.length+i)) w:=fun i p hp=>h1 _ p (by rw [List.getElem?_append_right (by omega)];simpa using hp)
  refine⟨⟨fun k=>β.O k\/∃ i,i < R.length/\φ (l.length+i) k,w⟩,⟨⟨fun k hk=>.inl hk,ho.os,ho.tape,ho.output,ho.size,fun k hk=>ho.old k hk⟩,fun i=>φ (l.length+i),fun i p hp=>⟨hR i p hp,fun k hk=>.inr ⟨i,bq hp,hk⟩⟩,fun i hi=>h2 _ (by omega),fun i j hi hj hne=>h3 _ _ (by omega) (by omega) (by omega),fun k hk=>hk⟩,rfl,⟨rfl,rfl,rfl,Nat.le_refl _,fun k hk=>⟨?_,rfl⟩⟩,φ,fun i p hp=>h1 i p (by rw [List.getElem?_append_left (bq hp)];exact hp),fun i hi k hk hO=>?_,fun i j hi hj hne=>h3 i j (by omega) (by omega) hne⟩
  ·rcases hk with hk|⟨i,hi,hk⟩
   ·exact Nat.lt_of_lt_of_le (ho.old k hk).1 ho.size
   obtain⟨p,hp⟩:=iW hi
   exact HP.lt (hR i p hp) k hk
  rcases hO with hO|⟨j,hj,hO⟩
  ·exact h2 i (by omega) k hk hO
  exact h3 i (l.length+j) (by omega) (by omega) (by omega) k hk hO
theorem qC.back (h:qC β R β') (hS:Sat β' l w):Sat β (l++R) w:=by
  obtain⟨hle,φ,g1,g2,g3,g4⟩:=h
  obtain⟨ho,ψ,h1,h2,h3⟩:=hS
  have hl:(l++R).length=l.length+R.length:=List.length_append
  have hin:∀ i,i < R.length->∀ k,φ i k->β'.O k:=fun i hi k hk=>by
    obtain⟨p,hp⟩:=iW hi
    exact (g1 i p hp).2 k hk
  have hk:∀ i,i < R.length->Keeps (fun k=>¬ φ i k) β'.w0 w:=fun i hi=>⟨ho.os,ho.tape,ho.output,ho.size,fun k _ hn=>(ho.old k (hin i hi k (Classical.not_not.1 hn))).2⟩
  refine⟨ho.le hle,fun i=>if i < l.length then ψ i else φ (i - l.length),fun i p hp=>?_,fun i hi k hk hO=>?_,fun i j hi hj hne k hk hk'=>?_⟩
  ·by_cases e:i < l.length
   ·rw [List.getElem?_append_left e] at hp
    simp only [e,if_true]
    exact h1 i p hp
   rw [List.getElem?_append_right (by omega)] at hp
   simp only [e,if_false]
   exact HP.st (g1 _ p hp).1 (hk _ (bq hp)) (fun k h=>fun h'=>h' h)
  ·by_cases e:i < l.length
   ·simp only [e,if_true] at hk
    exact h2 i e k hk (hle.O k hO)
   simp only [e,if_false] at hk
   exact g2 _ (by omega) k hk hO
  by_cases e1:i < l.length
  ·simp only [e1,if_true] at hk
   by_cases e2:j < l.length
   ·simp only [e2,if_true] at hk'
    exact h3 i j e1 e2 hne k hk hk'
   simp only [e2,if_false] at hk'
   exact h2 i e1 k hk (hin _ (by omega) k hk')
  simp only [e1,if_false] at hk
  by_cases e2:j < l.length
  ·simp only [e2,if_true] at hk'
   exact h2 j e2 k hk' (hin _ (by omega) k hk)
  simp only [e2,if_false] at hk'
  exact g3 _ _ (by omega) (by omega) (by omega) k hk hk'
end Xo
section rules
variable {P:Program} {β β' EQ:Bs} {N:dD} {ops:Array Oper} {k:Nat} {fr:Fr} {hps l R:List HP} {Q:Post} {c:Code} {e:Exit} {pk:List Nat} {f:FuncId} {args:Array Value} {pre:List HP}
end rules
end
section
open Go.RowKit
def aH (R:Nat->bV):bV where
  h F w:=∃ φ:Nat->Fp,(∀ i,(R i).h (φ i) w)/\(∀ i j,i≠j->Apart (φ i) (φ j))/\∀ k,F k↔∃ i,φ i k
  lt:=fun ⟨_,h1,_,h3⟩ k hk=>let ⟨i,hk⟩:=(h3 k).1 hk;(R i).lt (h1 i) k hk
  st:=fun ⟨φ,h1,h2,h3⟩ _ _ hk hn=>⟨φ,fun i=>(R i).st (h1 i) hk (fun k hk=>hn k ((h3 k).2 ⟨i,hk⟩)),h2,h3⟩
section Mq
variable {β:Bs} {l l':List HP} {w:World} {i n k:Nat} {R R':Nat->bV} {a:bV}
theorem aH.at (k:Nat) {F:Fp} {w:World} (h:(aH R).h F w):∃ G,(R k).h G w:=by
  obtain⟨φ,h1,_⟩:=h
  exact⟨φ k,h1 k⟩
theorem Sat.FP (h:Sat β l w) (R:Nat->bV) (hR:∀ k,R k=bV.none):Sat β (l++[.abs (aH R)]) w:=Sat.new h (p:=.abs (aH R)) (F:=fun _=>False) ⟨fun _ _=>False,fun i=>by rw [hR];exact fun _ h=>h,fun _ _ _ _ h=>h.elim,fun _=>⟨fun h=>h.elim,fun ⟨_,h⟩=>h⟩⟩ (Keeps.refl _ _) (fun _ h=>h.elim)
theorem Sat.Cw (h:Sat β l w) (hp:l[i]?=some (.abs (aH R))) (k:Nat):Sat β (l.set i (.abs (aH (kZ R k bV.none)))++[.abs (R k)]) w:=by
  refine h.Vv hp ?_
  rintro F ⟨φ,h1,h2,h3⟩
  refine⟨fun x=>∃ i,i≠k/\φ i x,φ k,⟨fun i=>if i=k then fun _=>False else φ i,fun i=>?_,fun i j hne x hx hy=>?_,fun x=>⟨fun ⟨i,hne,hx⟩=>⟨i,by simpa [hne] using hx⟩,fun ⟨i,hx⟩=>?_⟩⟩,h1 k,fun x ⟨i,hne,hx⟩ hy=>h2 i k hne x hx hy,fun x=>⟨fun hx=>?_,fun hx=>?_⟩⟩
  ·unfold kZ
   by_cases e:i=k
   ·simp only [e,if_true];exact fun _ h=>h
   simp only [e,if_false];exact h1 i
  ·by_cases e1:i=k
   ·simp [e1] at hx
   by_cases e2:j=k
   ·simp [e2] at hy
   exact h2 i j hne x (by simpa [e1] using hx) (by simpa [e2] using hy)
  ·by_cases e1:i=k
   ·simp [e1] at hx
   exact⟨i,e1,by simpa [e1] using hx⟩
  ·obtain⟨i,hx⟩:=(h3 x).1 hx
   by_cases e:i=k
   ·exact .inr (e ▸ hx)
   exact .inl ⟨i,e,hx⟩
  rcases hx with ⟨i,_,hx⟩|hx
  ·exact (h3 x).2 ⟨i,hx⟩
  exact (h3 x).2 ⟨k,hx⟩
theorem Sat.sP {j:Nat} {idx:List Nat} {q:HP} (h:Sat β l w) (hp:l[i]?=some (.abs (aH R))) (hq:l[j]?=some q) (Yl:∀ F w,q.h F w->a.h F w) (hn:nodupB (i::j::idx)=true) (hl:bO l idx=some l') (k:Nat) (hR:∀ x,x≠k->R' x=R x) (ha:R' k=a):Sat β (.abs (aH R')::l') w:=by
  refine h.QT hp hq hn hl ?_
  rintro F1 F2 ⟨φ,h1,h2,h3⟩ hF hap
  refine⟨fun x=>(∃ i,i≠k/\φ i x)\/F2 x,⟨fun i=>if i=k then F2 else φ i,fun i=>?_,fun i j hne x hx hy=>?_,fun x=>⟨fun hx=>?_,fun ⟨i,hx⟩=>?_⟩⟩,fun x hx=>hx.imp (fun ⟨i,_,hx⟩=>(h3 x).2 ⟨i,hx⟩) id⟩
  ·by_cases e:i=k
   ·subst e;simp only [if_true];rw [ha];exact Yl _ _ hF
   simp only [e,if_false];rw [hR i e];exact h1 i
  ·by_cases e1:i=k
   ·by_cases e2:j=k
    ·exact hne (e1.trans e2.symm)
    simp only [e1,if_true] at hx
    simp only [e2,if_false] at hy
    exact hap x ((h3 x).2 ⟨j,hy⟩) hx
   simp only [e1,if_false] at hx
   by_cases e2:j=k
   ·simp only [e2,if_true] at hy
    exact hap x ((h3 x).2 ⟨i,hx⟩) hy
   simp only [e2,if_false] at hy
   exact h2 i j hne x hx hy
  ·rcases hx with ⟨i,hne,hx⟩|hx
   ·exact⟨i,by simpa [hne] using hx⟩
   exact⟨k,by simpa using hx⟩
  by_cases e:i=k
  ·exact .inr (by simpa [e] using hx)
  exact .inl ⟨i,e,by simpa [e] using hx⟩
end Mq
end
section
open Go.RowKit Go.Maps
theorem BB:Keyed Tryz.prog 9:=string_keyed Tryz.underlying9
theorem DX {p:ByteArray} (h:p.size<=9223372036854775807):keyOf Tryz.prog 9 (.string p)=some (.string p.data.toList):=WideMaps.keyOf_string_mk Tryz.underlying9 (by unfold maxLen;omega)
def mS (g:ByteArray->Option Value):Lit->Option Value
  | .string l=>g ⟨l.toArray⟩
  | _=>none
theorem Vw (g:ByteArray->Option Value) (p:ByteArray):mS g (.string p.data.toList)=g p:=by
  show g ⟨p.data.toList.toArray⟩=g p
  rw [Array.toArray_toList]
theorem Ms (g:ByteArray->Option Value) (p:ByteArray) (v:Option Value):kf (mS g) (.string p.data.toList) v=mS (fun q=>if q=p then v else g q):=by
  funext x
  unfold kf mS
  cases x with
  | string l=>
    by_cases e:l=p.data.toList
    ·subst e
     have e2:(⟨p.data.toList.toArray⟩:ByteArray)=p:=by rw [Array.toArray_toList]
     simp [Lit.sameKey]
    have e2:¬ (⟨l.toArray⟩:ByteArray)=p:=fun h=>e (by rw [← h])
    simp [Lit.sameKey,e,e2]
  | _=>rfl
theorem RW:mS (fun _=>none)=fun _=>none:=by
  funext x
  unfold mS
  split<;>rfl
end
section
open Go.RowKit Go.Maps
def DY (b:Nat) (cs:List Value) (T:TypeId):bV where
  h F w:=(HP.blk b cs T).h F w
  lt:=fun h=>HP.lt h
  st:=fun h _ _ hk hd=>HP.st h hk hd
structure HL where
  b:Nat->Nat
  m:Nat->Nat
  dA:Nat->Option Addr
  dC:Nat->Nat
def HL.data (L:HL) (k:Nat) (A:Option Addr) (c:Nat):HL:=⟨L.b,L.m,fun i=>if i=k then A else L.dA i,fun i=>if i=k then c else L.dC i⟩
def HL.put (L:HL) (k b m:Nat) (A:Option Addr) (c:Nat):HL:=⟨fun i=>if i=k then b else L.b i,fun i=>if i=k then m else L.m i,fun i=>if i=k then A else L.dA i,fun i=>if i=k then c else L.dC i⟩
def Wi (kind:Int):TypeId:=if kind=1 then 162 else if kind=3 then 166 else 169
def si (kind:Int):TypeId:=if kind=1 then 165 else if kind=3 then 168 else 176
def ez (L:HL) (t:Th):Value:=.iface (Wi t.kind) (.pointer (some ⟨L.b t.k,0,none⟩))
def AF (L:HL):Option Nat->Value
  | none=>.pointer none
  | some d=>.pointer (some ⟨L.b d,0,none⟩)
def zN (o:aY):List Value:=[.int .i64 o.id,.int .i64 o.mode,.int .i64 o.uid,.int .i64 o.gid,.int .i64 o.sec,.int .i64 o.nano,.int .i64 o.links,.int .i64 o.opens,.bool o.gone]
def zO (L:HL) (k:Nat) (o:aY):List Value:=if o.kind=1 then [.slice (L.dA k) o.data.length (L.dC k)] else if o.kind=3 then [.string o.target] else [.map (some (L.m k)),AF L o.up]
def iE (L:HL) (k:Nat) (o:aY):List Value:=zN o++zO L k o
def jh (L:HL) (es:fS Th):Lit->Option Value:=mS (fun p=>(aT p es).map (ez L))
def bR (O:bW) (L:HL) (k:Nat):bV:=if (obj O k).kind=0 then bV.none else DY (L.b k) (iE L k (obj O k)) (si (obj O k).kind)
def ct (O:bW) (L:HL) (k:Nat):bV:=if (obj O k).kind=1 then aK 5 1 (L.dA k) (obj O k).data.length (L.dC k) (cM (obj O k).data) else bV.none
def dg (O:bW) (L:HL) (k:Nat):bV:=if (obj O k).kind=2 then aN Tryz.prog 9 (L.m k) (jh L (obj O k).ah) (obj O k).ah.length else bV.none
section sat
variable {β:Bs} {l:List HP} {w:World} {i b:Nat} {cs:List Value} {T:TypeId} {p p':HP}
theorem Sat.same (h:Sat β l w) (hp:l[i]?=some p) (e:∀ F w,p.h F w->p'.h F w):Sat β (l.set i p') w:=by
  obtain⟨ho,φ,h1,h2,h3⟩:=h
  have hl:(l.set i p').length=l.length:=List.length_set ..
  refine⟨ho,φ,fun j q hq=>?_,fun j hj=>h2 j (by omega),fun j k hj hk=>h3 j k (by omega) (by omega)⟩
  by_cases hji:i=j
  ·subst hji
   rw [List.getElem?_set_self (bq hp)] at hq
   cases hq
   exact e _ _ (h1 _ p hp)
  rw [List.getElem?_set_ne hji] at hq
  exact h1 j q hq
end sat
section cells
variable {O:bW} {L:HL} {k j:Nat} {v:Value}
theorem l5 (h:(obj O k).kind≠0):bR O L k=DY (L.b k) (iE L k (obj O k)) (si (obj O k).kind):=if_neg h
theorem eM (hk:(obj O k).kind≠0) (hv:(iE L k (obj O k))[j]?=some v):∀ F w,(aH (bR O L)).h F w->w.cell? ⟨L.b k,j,none⟩=some v:=by
  intro F w h
  obtain⟨G,g⟩:=aH.at k h
  rw [l5 hk] at g
  obtain⟨g,_⟩:=g
  exact (gj g rfl rfl hv).1
theorem tM (h:(obj O k).kind=1):ct O L k=aK 5 1 (L.dA k) (obj O k).data.length (L.dC k) (cM (obj O k).data):=if_pos h
theorem o6 (h:(obj O k).kind=2):dg O L k=aN Tryz.prog 9 (L.m k) (jh L (obj O k).ah) (obj O k).ah.length:=if_pos h
theorem tj (es:fS Th) (p:ByteArray):jh L es (.string p.data.toList)=(aT p es).map (ez L):=Vw _ _
theorem O4 {es:fS Th} {p:ByteArray} {t:Th} (hn:aT p es=none):kf (jh L es) (.string p.data.toList) (some (ez L t))=jh L (ic p t es):=by
  unfold jh
  rw [Ms]
  congr 1
  funext q
  rw [yD hn]
  by_cases h:q=p
  ·rw [if_pos h,if_pos h];rfl
  rw [if_neg h,if_neg h]
theorem O5 {es:fS Th} {p:ByteArray}:kf (jh L es) (.string p.data.toList) none=jh L (ig p es):=by
  unfold jh
  rw [Ms]
  congr 1
  funext q
  rw [rG]
  by_cases h:q=p
  ·rw [if_pos h,if_pos h];rfl
  rw [if_neg h,if_neg h]
theorem O6:jh L []=fun _=>none:=RW
end cells
section Mq
variable {O:bW} {L:HL} {k:Nat} {f:aY->aY}
theorem zP:bR (aO O k f) L k=if (f (obj O k)).kind=0 then bV.none else DY (L.b k) (iE L k (f (obj O k))) (si (f (obj O k)).kind):=by
  unfold bR;rw [cD]
theorem Cx {x:Nat} (h:x≠k):bR (aO O k f) L x=bR O L x:=by unfold bR;rw [bT h]
theorem zQ (h:(f (obj O k)).data=(obj O k).data) (h2:(f (obj O k)).kind=(obj O k).kind):ct (aO O k f) L=ct O L:=by
  funext x
  unfold ct
  by_cases e:x=k
  ·subst e;rw [cD,h,h2]
  rw [bT e]
theorem zR (h:(f (obj O k)).ah=(obj O k).ah) (h2:(f (obj O k)).kind=(obj O k).kind):dg (aO O k f) L=dg O L:=by
  funext x
  unfold dg
  by_cases e:x=k
  ·subst e;rw [cD,h,h2]
  rw [bT e]
theorem Cy {x:Nat} (h:x≠k):dg (aO O k f) L x=dg O L x:=by unfold dg;rw [bT h]
theorem Cz {x:Nat} (h:x≠k):ct (aO O k f) L x=ct O L x:=by unfold ct;rw [bT h]
end Mq
end
section
open Go.RowKit Go.Maps
section kinds
variable {O:bW} {L:HL} {k j:Nat} {f:aY->aY} {o:aY}
theorem ox (hf:∀ o,(f o).kind=o.kind):(obj (aO O j f) k).kind=(obj O k).kind:=by
  rw [jI];split
  ·exact hf _
  rfl
theorem cE {α:Type} {g:aY->α} (hf:∀ o,g (f o)=g o):g (obj (aO O j f) k)=g (obj O k):=by
  rw [jI];split
  ·exact hf _
  rfl
theorem rI (h:o.kind=1):iE L k o=[.int .i64 o.id,.int .i64 o.mode,.int .i64 o.uid,.int .i64 o.gid,.int .i64 o.sec,.int .i64 o.nano,.int .i64 o.links,.int .i64 o.opens,.bool o.gone,.slice (L.dA k) o.data.length (L.dC k)]:=by
  unfold iE zO;rw [if_pos h];rfl
theorem yE (h:o.kind=3):iE L k o=[.int .i64 o.id,.int .i64 o.mode,.int .i64 o.uid,.int .i64 o.gid,.int .i64 o.sec,.int .i64 o.nano,.int .i64 o.links,.int .i64 o.opens,.bool o.gone,.string o.target]:=by
  unfold iE zO;rw [if_neg (by rw [h];decide),if_pos h];rfl
theorem oy (h:o.kind=2):iE L k o=[.int .i64 o.id,.int .i64 o.mode,.int .i64 o.uid,.int .i64 o.gid,.int .i64 o.sec,.int .i64 o.nano,.int .i64 o.links,.int .i64 o.opens,.bool o.gone,.map (some (L.m k)),AF L o.up]:=by
  unfold iE zO;rw [if_neg (by rw [h];decide),if_neg (by rw [h];decide)];rfl
theorem Gy {es:aY->fS Th}:bR (aO O k (fun o=>{ o with ah:=es o })) L=bR O L:=by
  funext x
  unfold bR
  by_cases e:x=k
  ·subst e;rw [cD];rfl
  rw [bT e]
def oz (O:bW) (d:Nat) (name:ByteArray) (t:Th):bW:=
  let O1:=aO O d (fun o=>{ o with ah:=ic name t o.ah })
  let O2:=aO O1 t.k (fun o=>{ o with links:=o.links+1 })
  if t.kind=2 then aO O2 t.k (fun o=>{ o with up:=some d }) else O2
theorem BD {α:Type} {g:aY->α} {d:Nat} {name:ByteArray} {t:Th} (h1:∀ o es,g { o with ah:=es }=g o) (h2:∀ o l,g { o with links:=l }=g o) (h3:∀ o u,g { o with up:=u }=g o):g (obj (oz O d name t) k)=g (obj O k):=by
  unfold oz
  simp only
  split
  ·rw [cE (fun o=>h3 o _),cE (fun o=>h2 o _),cE (fun o=>h1 o _)]
  rw [cE (fun o=>h2 o _),cE (fun o=>h1 o _)]
theorem yG {d:Nat} {name:ByteArray} {t:Th}:(obj (oz O d name t) k).kind=(obj O k).kind:=BD (g:=aY.kind) (fun _ _=>rfl) (fun _ _=>rfl) (fun _ _=>rfl)
structure FM where
  cN:Int
  cB:Int
  cH:Int
  cS:Int
  cZ:Int
  last:Int
  ah:Int
  used:Int
def pY (X:FM) (O:bW) (d:Nat):bW:=aO O d (fun o=>{ o with sec:=X.cS,nano:=X.cZ })
def cO (X:FM) (O:bW) (d:Nat) (name:ByteArray) (t:Th):bW:=pY X (oz O d name t) d
def aQ (X:FM) (O:bW) (d:Nat) (name:ByteArray) (t:Th):bW:=aO (pY X (aO O d (fun o=>{ o with ah:=ig name o.ah })) d) t.k (fun o=>{ o with links:=o.links - 1 })
theorem cQ {X:FM} {d:Nat} {name:ByteArray} {t:Th}:(obj (aQ X O d name t) k).kind=(obj O k).kind:=by
  unfold aQ pY
  exact (ox (f:=fun o=>{ o with links:=o.links - 1 }) (fun _=>rfl)).trans ((ox (f:=fun o=>{ o with sec:=X.cS,nano:=X.cZ }) (fun _=>rfl)).trans (ox (f:=fun o=>{ o with ah:=ig name o.ah }) (fun _=>rfl)))
theorem I5 {X:FM} {d:Nat} {name:ByteArray} {t:Th}:(obj (cO X O d name t) k).kind=(obj O k).kind:=by
  unfold cO pY
  exact (ox (f:=fun o=>{ o with sec:=X.cS,nano:=X.cZ }) (fun _=>rfl)).trans yG
end kinds
section sat
variable {β:Bs} {l l':List HP} {w:World} {i j k:Nat} {O:bW} {L:HL} {f:aY->aY} {cs:List Value} {T:TypeId} {idx:List Nat}
theorem Sat.Tr (h:Sat β l w) (hp:l[i]?=some (.abs (aH (bR O L)))) (h0:(obj O k).kind≠0) (hc:iE L k (obj O k)=cs) (hT:si (obj O k).kind=T):Sat β (l.set i (.abs (aH (kZ (bR O L) k bV.none)))++[.blk (L.b k) cs T]) w:=by
  have h1:=h.Cw hp k
  have hlen:(l.set i (HP.abs (aH (kZ (bR O L) k bV.none)))).length=l.length:=List.length_set ..
  have h2:=Sat.same (i:=l.length) (p:=.abs (bR O L k)) (p':=.blk (L.b k) cs T) h1 (by rw [List.getElem?_append_right (by omega),hlen,Nat.sub_self];rfl) (fun F w h=>by
    have h3:(bR O L k).h F w:=h
    rw [l5 h0] at h3
    have h3:(DY (L.b k) (iE L k (obj O k)) (si (obj O k).kind)).h F w:=h3
    rw [hc,hT] at h3
    exact h3)
  have e:∀ (a:List HP) (x y:HP),(a++[x]).set a.length y=a++[y]:=fun a x y=>by simp
  have h4:=e (l.set i (HP.abs (aH (kZ (bR O L) k bV.none)))) (.abs (bR O L k)) (.blk (L.b k) cs T)
  rw [hlen] at h4
  rw [h4] at h2
  exact h2
theorem zS {R:Nat->bV} {a:bV} {x:Nat} (h:x≠k):kZ R k a x=R x:=if_neg h
theorem Sat.Ts (h:Sat β l w) (hp:l[i]?=some (.abs (aH (dg O L)))) (hd:(obj O k).kind=2):Sat β (l.set i (.abs (aH (kZ (dg O L) k bV.none)))++[.abs (aN Tryz.prog 9 (L.m k) (jh L (obj O k).ah) (obj O k).ah.length)]) w:=by
  have h1:=h.Cw hp k
  rw [o6 hd] at h1
  exact h1
theorem Sat.Tt (h:Sat β l w) (hp:l[i]?=some (.abs (aH (kZ (dg O L) k bV.none)))) (hq:l[j]?=some (.abs (aN Tryz.prog 9 (L.m k) (jh L (obj O k).ah) (obj O k).ah.length))) (hd:nodupB (i::j::idx)=true) (hl:bO l idx=some l') (h2:(obj O k).kind=2):Sat β (.abs (aH (dg O L))::l') w:=
  h.sP hp hq (fun _ _ h=>h) hd hl k (fun _ hx=>(zS hx).symm) (o6 h2)
theorem Sat.Mt (h:Sat β l w) (hp:l[i]?=some (.abs (aH (ct O L)))) (hd:(obj O k).kind=1):Sat β (l.set i (.abs (aH (kZ (ct O L) k bV.none)))++[.abs (aK 5 1 (L.dA k) (obj O k).data.length (L.dC k) (cM (obj O k).data))]) w:=by
  have h1:=h.Cw hp k
  rw [tM hd] at h1
  exact h1
end sat
end
section
open Go.RowKit
theorem iA.wide {ns:List aG} {b b':Nat} (h:iA ns b) (hb:b<=b'):iA ns b':=⟨Nat.le_trans h.len hb,fun i hi=>by
  have:=h.node i hi
  exact⟨this.ids,Nat.le_trans this.data hb,Nat.le_trans this.target hb,Nat.le_trans this.ah hb,fun j hj=>⟨(this.ent j hj).id,Nat.le_trans (this.ent j hj).name hb⟩⟩⟩
section gb
variable {ns:List aG} (h:iA ns 1048576)
include h
theorem zT:ns.length<=1048576:=by have:=h.len;omega
theorem FQ:∀ i,i < ns.length->(nd ns i).data.length<=1048576/\(nd ns i).ah.length<=1048576:=fun i hi=>by
  have h1:=(h.node i hi).data
  have h2:=(h.node i hi).ah
  omega
theorem Mu:∀ i,i < ns.length->∀ j,j < (nd ns i).ah.length->-9223372036854775808<=(ent ns i j).id/\(ent ns i j).id<=9223372036854775807:=fun i hi j hj=>((h.node i hi).ent j hj).id
theorem Mv:∀ i,i < ns.length->∀ j,j < (nd ns i).ah.length->(ent ns i j).name.size<=1048576:=fun i hi j hj=>by
  have h1:=((h.node i hi).ent j hj).name
  unfold ent
  omega
end gb
structure Xp (X:FM):Prop where
  cN:kX X.cN
  cB:kX X.cB
  cH:kX X.cH
  cS:kX X.cS
  cZ:kX X.cZ
end
end Go.Proofs.YtiehgnlnofhbaaaGreatDoor
section
namespace Go.Proofs
open Go.Shelf
def Tryz.keysI_ren:Go.Shelf.Ren:=⟨fun|7=>57|10=>79|n=>n,fun|23=>151|26=>3|3=>156|28=>113|0=>0|27=>112|33=>178|4=>4|n=>n,fun|n=>n⟩
theorem Tryz.keysI:Go.Proofs.SlLaysZI.n7 Tryz.prog Tryz.keysI_ren:={
  mixed:=by kernel_rfl
  f7:=⟨Tryz.f57.name,by decide,Tryz.func57.trans (congrArg some (by kernel_rfl))⟩
  f10:=⟨Tryz.f79.name,by decide,Tryz.func79.trans (congrArg some (by kernel_rfl))⟩
  t0:=Tryz.underlying0
  a0:=Tryz.isAgg0
  z0:=Tryz.sizeOf0
  v0:=Tryz.zeroValue0
  t4:=Tryz.underlying4
  a4:=Tryz.isAgg4
  z4:=Tryz.sizeOf4
  v4:=Tryz.zeroValue4
  t23:=Tryz.underlying151
  a23:=Tryz.isAgg151
  z23:=Tryz.sizeOf151
  v23:=Tryz.zeroValue151
  t26:=Tryz.underlying3
  a26:=Tryz.isAgg3
  z26:=Tryz.sizeOf3
  v26:=Tryz.zeroValue3
  t27:=Tryz.underlying112
  a27:=Tryz.isAgg112
  z27:=Tryz.sizeOf112
  v27:=Tryz.zeroValue112
  t28:=Tryz.underlying113
  a28:=Tryz.isAgg113
  z28:=Tryz.sizeOf113
  v28:=Tryz.zeroValue113
  t33:=Tryz.underlying178
  a33:=Tryz.isAgg178
  z33:=Tryz.sizeOf178
  v33:=Tryz.zeroValue178 }
def Tryz.sortedI_ren:Go.Shelf.Ren:=⟨fun|6=>37|8=>61|9=>62|11=>83|13=>85|12=>84|23=>103|24=>104|14=>94|15=>95|16=>96|17=>97|18=>98|19=>99|20=>100|21=>101|22=>102|25=>116|26=>117|27=>118|28=>119|29=>120|30=>121|31=>128|n=>n,fun|26=>3|28=>113|24=>69|0=>0|3=>3|37=>193|48=>235|50=>237|4=>4|40=>229|39=>228|45=>121|5=>5|9=>9|51=>245|55=>249|57=>253|58=>254|33=>178|n=>n,fun|n=>n⟩
theorem Tryz.sortedI:Go.Proofs.SlLaysZI.n6 Tryz.prog Tryz.sortedI_ren:={
  mixed:=by kernel_rfl
  f6:=⟨Tryz.f37.name,by decide,Tryz.func37.trans (congrArg some (by kernel_rfl))⟩
  f8:=⟨Tryz.f61.name,by decide,Tryz.func61.trans (congrArg some (by kernel_rfl))⟩
  f11:=⟨Tryz.f83.name,by decide,Tryz.func83.trans (congrArg some (by kernel_rfl))⟩
  t0:=Tryz.underlying0
  a0:=Tryz.isAgg0
  z0:=Tryz.sizeOf0
  v0:=Tryz.zeroValue0
  t24:=Tryz.underlying69
  a24:=Tryz.isAgg69
  z24:=Tryz.sizeOf69
  v24:=Tryz.zeroValue69
  t26:=Tryz.underlying3
  a26:=Tryz.isAgg3
  z26:=Tryz.sizeOf3
  v26:=Tryz.zeroValue3
  t28:=Tryz.underlying113
  a28:=Tryz.isAgg113
  z28:=Tryz.sizeOf113
  v28:=Tryz.zeroValue113
  i26:=by kernel_rfl }
def Tryz.sortI_ren:Go.Shelf.Ren:=⟨fun|5=>62|8=>85|7=>84|19=>103|20=>104|10=>94|11=>95|12=>96|13=>97|14=>98|15=>99|16=>100|17=>101|18=>102|30=>116|31=>117|32=>118|33=>119|34=>120|35=>121|40=>128|n=>n,fun|23=>69|25=>3|3=>3|32=>193|22=>69|0=>0|44=>235|46=>237|4=>4|36=>229|35=>228|41=>121|5=>5|9=>9|53=>245|57=>249|63=>253|64=>254|n=>n,fun|n=>n⟩
theorem Tryz.sortI:Go.Proofs.SlLaysM.n5 Tryz.prog Tryz.sortI_ren:={
  mixed:=by kernel_rfl
  f5:=⟨Tryz.f62.name,by decide,Tryz.func62.trans (congrArg some (by kernel_rfl))⟩
  f7:=⟨Tryz.f84.name,by decide,Tryz.func84.trans (congrArg some (by kernel_rfl))⟩
  f8:=Tryz.func85.trans (congrArg some (by kernel_rfl))
  f10:=⟨Tryz.f94.name,by decide,Tryz.func94.trans (congrArg some (by kernel_rfl))⟩
  f11:=⟨Tryz.f95.name,by decide,Tryz.func95.trans (congrArg some (by kernel_rfl))⟩
  f12:=⟨Tryz.f96.name,by decide,Tryz.func96.trans (congrArg some (by kernel_rfl))⟩
  f13:=⟨Tryz.f97.name,by decide,Tryz.func97.trans (congrArg some (by kernel_rfl))⟩
  f14:=⟨Tryz.f98.name,by decide,Tryz.func98.trans (congrArg some (by kernel_rfl))⟩
  f15:=⟨Tryz.f99.name,by decide,Tryz.func99.trans (congrArg some (by kernel_rfl))⟩
  f16:=⟨Tryz.f100.name,by decide,Tryz.func100.trans (congrArg some (by kernel_rfl))⟩
  f17:=⟨Tryz.f101.name,by decide,Tryz.func101.trans (congrArg some (by kernel_rfl))⟩
  f18:=⟨Tryz.f102.name,by decide,Tryz.func102.trans (congrArg some (by kernel_rfl))⟩
  f19:=Tryz.func103.trans (congrArg some (by kernel_rfl))
  f20:=Tryz.func104.trans (congrArg some (by kernel_rfl))
  f30:=⟨Tryz.f116.name,by decide,Tryz.func116.trans (congrArg some (by kernel_rfl))⟩
  f31:=Tryz.func117.trans (congrArg some (by kernel_rfl))
  f32:=Tryz.func118.trans (congrArg some (by kernel_rfl))
  f33:=⟨Tryz.f119.name,by decide,Tryz.func119.trans (congrArg some (by kernel_rfl))⟩
  f34:=⟨Tryz.f120.name,by decide,Tryz.func120.trans (congrArg some (by kernel_rfl))⟩
  f35:=⟨Tryz.f121.name,by decide,Tryz.func121.trans (congrArg some (by kernel_rfl))⟩
  f40:=⟨Tryz.f128.name,by decide,Tryz.func128.trans (congrArg some (by kernel_rfl))⟩
  t0:=Tryz.underlying0
  a0:=Tryz.isAgg0
  z0:=Tryz.sizeOf0
  v0:=Tryz.zeroValue0
  t3:=Tryz.underlying3
  a3:=Tryz.isAgg3
  z3:=Tryz.sizeOf3
  v3:=Tryz.zeroValue3
  t4:=Tryz.underlying4
  a4:=Tryz.isAgg4
  z4:=Tryz.sizeOf4
  v4:=Tryz.zeroValue4
  t5:=Tryz.underlying5
  a5:=Tryz.isAgg5
  z5:=Tryz.sizeOf5
  v5:=Tryz.zeroValue5
  t9:=Tryz.underlying9
  a9:=Tryz.isAgg9
  z9:=Tryz.sizeOf9
  v9:=Tryz.zeroValue9
  t22:=Tryz.underlying69
  a22:=Tryz.isAgg69
  z22:=Tryz.sizeOf69
  v22:=Tryz.zeroValue69
  t23:=Tryz.underlying69
  a23:=Tryz.isAgg69
  z23:=Tryz.sizeOf69
  v23:=Tryz.zeroValue69
  t25:=Tryz.underlying3
  a25:=Tryz.isAgg3
  z25:=Tryz.sizeOf3
  v25:=Tryz.zeroValue3
  t32:=Tryz.underlying193
  a32:=Tryz.isAgg193
  z32:=Tryz.sizeOf193
  v32:=Tryz.zeroValue193
  t35:=Tryz.underlying228
  a35:=Tryz.isAgg228
  z35:=Tryz.sizeOf228
  v35:=Tryz.zeroValue228
  t36:=Tryz.underlying229
  a36:=Tryz.isAgg229
  z36:=Tryz.sizeOf229
  v36:=Tryz.zeroValue229
  t41:=Tryz.underlying121
  a41:=Tryz.isAgg121
  z41:=Tryz.sizeOf121
  v41:=Tryz.zeroValue121
  t44:=Tryz.underlying235
  a44:=Tryz.isAgg235
  z44:=Tryz.sizeOf235
  v44:=Tryz.zeroValue235
  t46:=Tryz.underlying237
  a46:=Tryz.isAgg237
  z46:=Tryz.sizeOf237
  v46:=Tryz.zeroValue237
  t53:=Tryz.underlying245
  a53:=Tryz.isAgg245
  z53:=Tryz.sizeOf245
  v53:=Tryz.zeroValue245
  t57:=Tryz.underlying249
  a57:=Tryz.isAgg249
  z57:=Tryz.sizeOf249
  v57:=Tryz.zeroValue249
  t63:=Tryz.underlying253
  a63:=Tryz.isAgg253
  z63:=Tryz.sizeOf253
  v63:=Tryz.zeroValue253
  t64:=Tryz.underlying254
  a64:=Tryz.isAgg254
  z64:=Tryz.sizeOf254
  v64:=Tryz.zeroValue254 }
end Go.Proofs
end
namespace Go.Proofs.YtiehgnlnofhbaaaGreatDoor
section
open Go.RowKit
theorem Vx (a:Addr) (v:Value) (w:World) (h:w.cell? a=some v):(Go.method 465 316 (.pointer (some a)) "Len").run Tryz.prog w=.ok (265,v) w:=by
  have e:(Go.method 465 316 (.pointer (some a)) "Len").run Tryz.prog w=((loadVar 210 a) >>= fun v=>pure (265,v):Sem (FuncId×Value)).run Tryz.prog w:=by kernel_rfl
  rw [e]
  simp [loadVar,isAgg,underlying,Tryz.underlying210,h,Result.andThen]
theorem Tv (a:Addr) (v:Value) (w:World) (h:w.cell? a=some v):(Go.method 465 316 (.pointer (some a)) "Less").run Tryz.prog w=.ok (266,v) w:=by
  have e:(Go.method 465 316 (.pointer (some a)) "Less").run Tryz.prog w=((loadVar 210 a) >>= fun v=>pure (266,v):Sem (FuncId×Value)).run Tryz.prog w:=by kernel_rfl
  rw [e]
  simp [loadVar,isAgg,underlying,Tryz.underlying210,h,Result.andThen]
theorem Tw (a:Addr) (v:Value) (w:World) (h:w.cell? a=some v):(Go.method 465 316 (.pointer (some a)) "Swap").run Tryz.prog w=.ok (267,v) w:=by
  have e:(Go.method 465 316 (.pointer (some a)) "Swap").run Tryz.prog w=((loadVar 210 a) >>= fun v=>pure (267,v):Sem (FuncId×Value)).run Tryz.prog w:=by kernel_rfl
  rw [e]
  simp [loadVar,isAgg,underlying,Tryz.underlying210,h,Result.andThen]
theorem Tx (a:Addr) (w:World):(Go.method 465 316 (.pointer (some a)) "Push").run Tryz.prog w=.ok (269,.pointer (some a)) w:=by kernel_rfl
theorem Vy (a:Addr) (w:World):(Go.method 465 316 (.pointer (some a)) "Pop").run Tryz.prog w=.ok (268,.pointer (some a)) w:=by kernel_rfl
theorem QU (a:Addr) (w:World):(Go.nilAhead 465 316 (.pointer (some a)) "Len").run Tryz.prog w=.ok (some false) w:=by kernel_rfl
theorem Mw (a:Addr) (w:World):(Go.nilAhead 465 316 (.pointer (some a)) "Less").run Tryz.prog w=.ok (some false) w:=by kernel_rfl
theorem Gz (a:Addr) (w:World):(Go.nilAhead 465 316 (.pointer (some a)) "Swap").run Tryz.prog w=.ok (some false) w:=by kernel_rfl
theorem Ty (a:Addr) (w:World):(Go.nilAhead 465 316 (.pointer (some a)) "Push").run Tryz.prog w=.ok (some false) w:=by kernel_rfl
theorem Vz (a:Addr) (w:World):(Go.nilAhead 465 316 (.pointer (some a)) "Pop").run Tryz.prog w=.ok (some false) w:=by kernel_rfl
theorem GA (A:Option Addr) (n c:Nat) (w:World) :
    Calls Tryz.prog 265 #[.slice A n c] w fun e w'=>e=.returned (.int .i64 n)/\w'=w:=by
  go_enter Tryz.func265,Tryz.ntmps265
  go_wp2
  go_ret
  exact⟨rfl,rfl⟩
theorem Mx (g n c i j:Nat) (x y:Int) (w:World) (hi:i < n) (hj:j < n) (ci:w.cell? ⟨g,i,none⟩=some (.int .i64 x)) (cj:w.cell? ⟨g,j,none⟩=some (.int .i64 y)) :
    Calls Tryz.prog 266 #[.slice (some ⟨g,0,none⟩) n c,.int .i64 i,.int .i64 j] w fun e w'=>e=.returned (.bool (decide (x < y)))/\∃ m,w'=w.drewN m:=by
  have hi':(i:Int) < (n:Int):=by omega
  have hj':(j:Int) < (n:Int):=by omega
  go_enter Tryz.func266,Tryz.ntmps266
  go_wp2_with fail
  go_quiet (fail)
  go_wp2_with fail
  go_ret
  exact⟨rfl,_,rfl⟩
theorem Mz (g n c i j:Nat) (x y:Int) (w:World) (hi:i < n) (hj:j < n) (hij:i≠j) (ci:w.cell? ⟨g,i,none⟩=some (.int .i64 x)) (cj:w.cell? ⟨g,j,none⟩=some (.int .i64 y))
    (fi:w.frozen? ⟨g,i,none⟩=false) (fj:w.frozen? ⟨g,j,none⟩=false) :
    Calls Tryz.prog 267 #[.slice (some ⟨g,0,none⟩) n c,.int .i64 i,.int .i64 j] w fun e w'=>e=.returned (.tuple #[])/\∃ m,w'=((w.setCell ⟨g,i,none⟩ (.int .i64 y)).setCell ⟨g,j,none⟩ (.int .i64 x)).drewN m:=by
  have hi':(i:Int) < (n:Int):=by omega
  have hj':(j:Int) < (n:Int):=by omega
  go_enter Tryz.func267,Tryz.ntmps267
  go_wp2_with fail
  go_region
  go_end0
  exact⟨rfl,1,rfl⟩
theorem O7:(Tryz.prog.info? 3).map (fun i=>(i.zero,i.size,i.bytes))=some (some (.int .i64 0),1,8):=by kernel_rfl
theorem O8 (t o g n c:Nat) (x:Int) (w:World) (hc:n+1<=c) (ht:w.cell? ⟨t,o,none⟩=some (.slice (some ⟨g,0,none⟩) (n+1) c)) (hf:w.frozen? ⟨t,o,none⟩=false)
    (hx:w.cell? ⟨g,n,none⟩=some (.int .i64 x)) (hm:n+1<=1048576) :
    Calls Tryz.prog 268 #[.pointer (some ⟨t,o,none⟩)] w fun e w'=>e=.returned (.iface 3 (.int .i64 x))/\w'=w.setCell ⟨t,o,none⟩ (.slice (some ⟨g,0,none⟩) n c):=by
  go_enter Tryz.func268,Tryz.ntmps268
  go_wp2_with fail
  go_ret
  exact⟨rfl,rfl⟩
theorem KA (x:Int) (w:World):(Instr.typeAssert (.iface 3 (.int .i64 x)) 20 3 false).run Tryz.prog w=.ok (.int .i64 x) w:=by kernel_rfl
theorem I6 (x:Int):∀ u∈[Value.int .i64 x],u.oneCell'=true:=by intro u hu;simp at hu;subst hu;rfl
theorem MB {t o:Nat} {v:Value} {w w1:World} {ob:Obj} (ht:w.cell? ⟨t,o,none⟩=some v) (hlt:t < w.heap.size) {row:Option Nat} (hne:row≠some t) (hg:(w.alloc ob).drew.grownBy w1 row):w1.cell? ⟨t,o,none⟩=some v:=by
  rw [hg.cell_far ⟨t,o,none⟩ (by show t < (w.alloc ob).heap.size;simp;omega) (fun e=>hne e.symm)]
  exact (World.cell?_alloc_lt w ob ⟨t,o,none⟩ hlt).trans ht
theorem MC {t o:Nat} {w w1:World} {ob:Obj} (hf:w.frozen? ⟨t,o,none⟩=false) (hlt:t < w.heap.size) {row:Option Nat} (hne:row≠some t) (hg:(w.alloc ob).drew.grownBy w1 row):w1.frozen? ⟨t,o,none⟩=false:=by
  rw [hg.frozen_far ⟨t,o,none⟩ (by show t < (w.alloc ob).heap.size;simp;omega) (fun e=>hne e.symm)]
  exact (World.frozen?_alloc_old w ob ⟨t,o,none⟩ (Nat.ne_of_lt hlt)).trans hf
theorem ME (t o base n:Nat) (v:Value) (xs:List Value) (x:Int) (w:World) (ht:w.cell? ⟨t,o,none⟩=some v) (hf:w.frozen? ⟨t,o,none⟩=false)
    (hown:w.ownsRow base 3 1 v n xs) (hne:v.ownBlock≠some t) (hm:n+1<=1048576) (hbase:base<=w.heap.size) :
    Calls Tryz.prog 269 #[.pointer (some ⟨t,o,none⟩),.iface 3 (.int .i64 x)] w fun e w'=>e=.returned (.tuple #[]) ∧
      ∃ g cap w1,w1.ownsRow base 3 1 (.slice (some ⟨g,0,none⟩) (n+1) cap) (n+1) (xs++[.int .i64 x])/\w.grownBy w1 v.ownBlock/\(v.ownBlock=some g\/w.heap.size<=g) ∧
        w'=w1.setCell ⟨t,o,none⟩ (.slice (some ⟨g,0,none⟩) (n+1) cap):=by
  obtain⟨i0,hi0,hz0,hz1,hz2⟩:=info_parts O7
  have hlt:t < w.heap.size:=by
    rcases Nat.lt_or_ge t w.heap.size with h|h
    ·exact h
    simp [World.cell?,Array.getElem?_eq_none h] at ht
  have xS:=KA
  go_enter Tryz.func269,Tryz.ntmps269
  go_wp2_with fail
  go_region_law (refine step_append_lies _ rfl (.tmp 7) (.tmp 10) 210 rfl base 3 i0 (.int .i64 0) 1 8 Tryz.underlying210 hi0 hz0 hz1 hz2 rfl (by decide) v n xs (by simp [Act.eval]) (hown.alloc _) ⟨w.heap.size,0,none⟩ 1 1 [.int .i64 x] (by simp [Act.eval]) rfl (cell_one_new _ _ _) (I6 x) (by decide) (by unfold maxLen;omega) (by omega) (by simp;omega) (w.heap.size+1) (by simp) ?_;intro g cap w1 hown1 hg1 KC Zr;have c1:w1.cell? ⟨t,o,none⟩=some v:=MB ht hlt hne hg1;have f1:w1.frozen? ⟨t,o,none⟩=false:=MC hf hlt hne hg1)
  all_goals
    go_end0
    refine⟨rfl,g,cap,w1,hown1,(World.grownBy_alloc w (.cells #[.int .i64 x] 3) _).trans ⟨hg1.os,hg1.tape,hg1.output,hg1.size,hg1.block⟩,?_,rfl⟩
    rcases KC with h|h
    ·exact .inl h
    exact .inr (by omega)
end
end Go.Proofs.YtiehgnlnofhbaaaGreatDoor
section
namespace Go.Proofs.YtiehgnlnofhbaaaGreatDoor.bC
def at_ (l:List Int) (i:Nat):Int:=l.getD i 0
def swp (l:List Int) (i j:Nat):List Int:=(l.set i (at_ l j)).set j (at_ l i)
def Hp (n:Nat) (l:List Int):Prop:=∀ i,0 < i->i < n->at_ l ((i - 1) / 2)<=at_ l i
def yH (l:List Int):Prop:=∀ a b,a < l.length->b < l.length->at_ l a=at_ l b->a=b
def DZ (l:List Int) (j:Nat):Prop:=
  (∀ i,0 < i->i < l.length->i≠j->at_ l ((i - 1) / 2)<=at_ l i)/\(∀ i,0 < i->i < l.length->(i - 1) / 2=j->0 < j->at_ l ((j - 1) / 2)<=at_ l i)
def vG (n:Nat) (l:List Int) (i:Nat):Prop:=
  (∀ k,0 < k->k < n->(k - 1) / 2≠i->at_ l ((k - 1) / 2)<=at_ l k)/\(∀ k,0 < k->k < n->(k - 1) / 2=i->0 < i->at_ l ((i - 1) / 2)<=at_ l k)
structure Same (l l':List Int):Prop where
  len:l'.length=l.length
  mem:∀ x,x∈l'↔x∈l
  inj:yH l->yH l'
theorem tN {l:List Int} {x:Int}:x∈l↔∃ k,k < l.length/\at_ l k=x:=by
  rw [List.mem_iff_getElem]
  constructor
  ·rintro⟨i,h,e⟩
   exact⟨i,h,by simp [at_,List.getD_eq_getElem?_getD,h,e]⟩
  rintro⟨i,h,e⟩
  exact⟨i,h,by simpa [at_,List.getD_eq_getElem?_getD,h] using e⟩
theorem ld (l:List Int) (i j:Nat):(swp l i j).length=l.length:=by simp [swp]
def sw (i j k:Nat):Nat:=if k=j then i else if k=i then j else k
theorem jL {l:List Int} {i j:Nat} (hi:i < l.length) (hj:j < l.length) (k:Nat):at_ (swp l i j) k=at_ l (sw i j k):=by
  unfold swp at_ sw
  simp only [List.getD_eq_getElem?_getD,List.getElem?_set,List.length_set]
  by_cases h1:j=k
  ·subst h1;simp [hj]
  by_cases h2:i=k
  ·subst h2;simp [h1,hi,Ne.symm h1]
  simp [h1,h2,Ne.symm h1,Ne.symm h2]
theorem KD (i j k:Nat):sw i j (sw i j k)=k:=by unfold sw;(repeat' split)<;>omega
theorem FR {i j k n:Nat} (hi:i < n) (hj:j < n) (hk:k < n):sw i j k < n:=by unfold sw;(repeat' split)<;>omega
theorem Same.refl (l:List Int):Same l l:=⟨rfl,fun _=>Iff.rfl,fun h=>h⟩
theorem Same.trans {l l' l'':List Int} (h:Same l l') (k:Same l' l''):Same l l'':=⟨k.len.trans h.len,fun x=>(k.mem x).trans (h.mem x),fun i=>k.inj (h.inj i)⟩
theorem Same.swp {l:List Int} {i j:Nat} (hi:i < l.length) (hj:j < l.length):Same l (swp l i j):=by
  refine⟨ld l i j,fun x=>?_,fun inj a b ha hb e=>?_⟩
  ·rw [tN,tN,ld]
   constructor
   ·rintro⟨k,hk,e⟩
    exact⟨sw i j k,FR hi hj hk,by rw [← jL hi hj];exact e⟩
   rintro⟨k,hk,e⟩
   exact⟨sw i j k,FR hi hj hk,by rw [jL hi hj,KD];exact e⟩
  rw [ld] at ha hb
  rw [jL hi hj,jL hi hj] at e
  have:=inj _ _ (FR hi hj ha) (FR hi hj hb) e
  rw [← KD i j a,this,KD]
theorem MF {l:List Int} {j:Nat} (h:DZ l j) (he:j=0\/at_ l ((j - 1) / 2)<=at_ l j):Hp l.length l:=by
  intro i h0 hi
  by_cases e:i=j
  ·subst e
   rcases he with he|he
   ·omega
   exact he
  exact h.1 i h0 hi e
theorem RX {l:List Int} {j:Nat} (h:DZ l j) (h0:0 < j) (hj:j < l.length) (hlt:at_ l j < at_ l ((j - 1) / 2)):DZ (swp l ((j - 1) / 2) j) ((j - 1) / 2):=by
  have hp:(j - 1) / 2 < l.length:=by omega
  have hne:(j - 1) / 2≠j:=by omega
  refine⟨fun i i0 il Wj=>?_,fun i i0 il ip p0=>?_⟩
  ·rw [ld] at il
   rw [jL hp hj,jL hp hj]
   by_cases e1:i=j
   ·subst e1
    rw [show sw ((i - 1) / 2) i ((i - 1) / 2)=i by unfold sw;rw [if_neg hne,if_pos rfl],show sw ((i - 1) / 2) i i=(i - 1) / 2 by unfold sw;rw [if_pos rfl]]
    omega
   rw [show sw ((j - 1) / 2) j i=i by unfold sw;rw [if_neg e1,if_neg Wj]]
   by_cases e2:(i - 1) / 2=j
   ·rw [show sw ((j - 1) / 2) j ((i - 1) / 2)=(j - 1) / 2 by unfold sw;rw [if_pos e2]]
    exact h.2 i i0 il e2 h0
   by_cases e3:(i - 1) / 2=(j - 1) / 2
   ·rw [show sw ((j - 1) / 2) j ((i - 1) / 2)=j by unfold sw;rw [if_neg e2,if_pos e3]]
    have:=h.1 i i0 il e1
    rw [e3] at this
    omega
   rw [show sw ((j - 1) / 2) j ((i - 1) / 2)=(i - 1) / 2 by unfold sw;rw [if_neg e2,if_neg e3]]
   exact h.1 i i0 il e1
  rw [ld] at il
  rw [jL hp hj,jL hp hj]
  have a1:=h.1 ((j - 1) / 2) p0 hp hne
  rw [show sw ((j - 1) / 2) j (((j - 1) / 2 - 1) / 2)=((j - 1) / 2 - 1) / 2 by unfold sw;rw [if_neg (by omega),if_neg (by omega)]]
  by_cases e1:i=j
  ·subst e1
   rw [show sw ((i - 1) / 2) i i=(i - 1) / 2 by unfold sw;rw [if_pos rfl]]
   exact a1
  have a2:=h.1 i i0 il e1
  rw [show sw ((j - 1) / 2) j i=i by unfold sw;rw [if_neg e1,if_neg (by omega)]]
  rw [ip] at a2
  omega
theorem wN {n:Nat} {l:List Int} {i:Nat} (h:vG n l i) (h1:2 * i+1 < n->at_ l i<=at_ l (2 * i+1)) (h2:2 * i+2 < n->at_ l i<=at_ l (2 * i+2)):Hp n l:=by
  intro k k0 kn
  by_cases e:(k - 1) / 2=i
  ·rw [e]
   rcases (show k=2 * i+1\/k=2 * i+2 by omega) with e1|e1
   ·rw [e1];exact h1 (by omega)
   rw [e1];exact h2 (by omega)
  exact h.1 k k0 kn e
theorem yI {n:Nat} {l:List Int} {i j:Nat} (h:vG n l i) (hj:j=2 * i+1\/j=2 * i+2) (hjn:j < n) (hn:n<=l.length)
    (h1:at_ l j<=at_ l (2 * i+1)) (h2:2 * i+2 < n->at_ l j<=at_ l (2 * i+2)) (hlt:at_ l j < at_ l i):vG n (swp l i j) j:=by
  have hi:i < l.length:=by omega
  have hjl:j < l.length:=by omega
  refine⟨fun k k0 kn Tz=>?_,fun k k0 kn ke j0=>?_⟩
  ·rw [jL hi hjl,jL hi hjl]
   by_cases e1:(k - 1) / 2=i
   ·rw [e1,show sw i j i=j by unfold sw;rw [if_neg (by omega),if_pos rfl]]
    by_cases e2:k=j
    ·rw [e2,show sw i j j=i by unfold sw;rw [if_pos rfl]];omega
    rw [show sw i j k=k by unfold sw;rw [if_neg e2,if_neg (by omega)]]
    rcases (show k=2 * i+1\/k=2 * i+2 by omega) with e3|e3
    ·rw [e3];exact h1
    rw [e3];exact h2 (by omega)
   rw [show sw i j ((k - 1) / 2)=(k - 1) / 2 by unfold sw;rw [if_neg Tz,if_neg e1]]
   by_cases e2:k=i
   ·rw [e2,show sw i j i=j by unfold sw;rw [if_neg (by omega),if_pos rfl],← e2]
    have hjk:(j - 1) / 2=i:=by omega
    rw [e2]
    exact h.2 j (by omega) hjn hjk (by omega)
   rw [show sw i j k=k by unfold sw;rw [if_neg (by omega),if_neg e2]]
   exact h.1 k k0 kn e1
  rw [jL hi hjl,jL hi hjl]
  rw [show (j - 1) / 2=i by omega,show sw i j i=j by unfold sw;rw [if_neg (by omega),if_pos rfl],show sw i j k=k by unfold sw;rw [if_neg (by omega),if_neg (by omega)]]
  have:=h.1 k k0 kn (by omega)
  rw [ke] at this
  exact this
theorem least {n:Nat} {l:List Int} (h:Hp n l):∀ k,k < n->at_ l 0<=at_ l k:=by
  intro k
  induction k using Nat.strongRecOn with
  | _ k ih=>
    intro hk
    rcases Nat.eq_zero_or_pos k with e|e
    ·rw [e];omega
    have a1:=ih ((k - 1) / 2) (by omega) (by omega)
    have a2:=h k e hk
    omega
theorem KE {n:Nat} {l:List Int} (h:Hp (n+1) l) (hl:l.length=n+1):vG n (swp l 0 n) 0:=by
  refine⟨fun k k0 kn Tz=>?_,fun k _ _ _ h0=>by omega⟩
  rw [jL (by omega) (by omega),jL (by omega) (by omega)]
  rw [show sw 0 n ((k - 1) / 2)=(k - 1) / 2 by unfold sw;rw [if_neg (by omega),if_neg Tz],show sw 0 n k=k by unfold sw;rw [if_neg (by omega),if_neg (by omega)]]
  exact h k k0 (by omega)
theorem O9 {l:List Int} (h:Hp l.length l) (x:Int):DZ (l++[x]) l.length:=by
  have e:∀ k,k < l.length->at_ (l++[x]) k=at_ l k:=fun k hk=>by
    unfold at_
    rw [List.getD_eq_getElem?_getD,List.getD_eq_getElem?_getD,List.getElem?_append_left hk]
  refine⟨fun i i0 il Wj=>?_,fun i i0 il ip=>?_⟩
  ·rw [List.length_append,List.length_singleton] at il
   rw [e _ (by omega),e _ (by omega)]
   exact h i i0 (by omega)
  rw [List.length_append,List.length_singleton] at il
  omega
theorem RY {l:List Int} {n:Nat} (hl:l.length=n+1) (hi:yH l) (x:Int):x∈l.take n↔x∈l/\x≠at_ l n:=by
  constructor
  ·intro h
   refine⟨List.mem_of_mem_take h,?_⟩
   rintro rfl
   obtain⟨k,hk,e⟩:=List.mem_iff_getElem.1 h
   simp at hk e
   have:=hi k n (by omega) (by omega) (by simp [at_,List.getD_eq_getElem?_getD,show k < l.length by omega,e])
   omega
  rintro⟨h,hne⟩
  obtain⟨k,hk,e⟩:=tN.1 h
  have:k≠n:=by rintro rfl;exact hne e.symm
  refine List.mem_iff_getElem.2 ⟨k,by simp;omega,?_⟩
  simp only [at_,List.getD_eq_getElem?_getD,hk,List.getElem?_eq_getElem,Option.getD_some] at e
  simpa using e
theorem zU {l:List Int} {n k:Nat} (hk:k < n):at_ (l.take n) k=at_ l k:=by simp [at_,List.getD_eq_getElem?_getD,hk]
theorem RZ {l:List Int} {n:Nat} (h:Hp n l):Hp n (l.take n):=fun i i0 hi=>by rw [zU hi,zU (by omega)];exact h i i0 hi
theorem Pa {l:List Int} {n:Nat} (h:yH l):yH (l.take n):=fun a b ha hb e=>by
  simp at ha hb
  rw [zU (by omega),zU (by omega)] at e
  exact h a b (by omega) (by omega) e
end Go.Proofs.YtiehgnlnofhbaaaGreatDoor.bC
end
namespace Go.Proofs.YtiehgnlnofhbaaaGreatDoor
section
open Go.RowKit bC
def ints (l:List Int):List Value:=l.map (Value.int .i64)
theorem nY (g n c a b:Nat) (i j:Int) (hi:i=(a:Int)) (hj:j=(b:Int)) (x y:Int) (w:World) (ha:a < n) (hb:b < n) (ci:w.cell? ⟨g,a,none⟩=some (.int .i64 x)) (cj:w.cell? ⟨g,b,none⟩=some (.int .i64 y)) :
    Calls Tryz.prog 266 #[.slice (some ⟨g,0,none⟩) n c,.int .i64 i,.int .i64 j] w fun e w'=>e=.returned (.bool (decide (x < y)))/\∃ m,w'=w.drewN m:=by
  subst hi hj;exact Mx g n c a b x y w ha hb ci cj
structure HW (t o g c base:Nat) (l:List Int) (w:World):Prop where
  cell:w.cell? ⟨t,o,none⟩=some (.slice (some ⟨g,0,none⟩) l.length c)
  own:w.ownsRow base 3 1 (.slice (some ⟨g,0,none⟩) l.length c) l.length (ints l)
  ne:t≠g
  lt:t < w.heap.size
theorem Pb {l:List Int} {k:Nat} (hk:k < l.length):(ints l)[k]?=some (.int .i64 (at_ l k)):=by
  simp [ints,at_,List.getD_eq_getElem?_getD,hk]
section hw
variable {t o g c base:Nat} {l:List Int} {w:World}
theorem HW.at (h:HW t o g c base l w) {k:Nat} (hk:k < l.length):w.cell? ⟨g,k,none⟩=some (.int .i64 (at_ l k)):=by
  rw [h.own.cellAt k (by omega)]
  exact Pb hk
theorem HW.drewN (h:HW t o g c base l w) (m:Nat):HW t o g c base l (w.drewN m):=⟨h.cell,h.own,h.ne,h.lt⟩
theorem HW.swap (h:HW t o g c base l w) (i j:Nat) :
    HW t o g c base (swp l i j) ((w.setCell ⟨g,i,none⟩ (.int .i64 (at_ l j))).setCell ⟨g,j,none⟩ (.int .i64 (at_ l i))):=by
  have e1:ints (swp l i j)=((ints l).set i (.int .i64 (at_ l j))).set j (.int .i64 (at_ l i)):=by
    simp [ints,swp,List.map_set]
  refine⟨?_,?_,h.ne,by simpa [World.setCell] using h.lt⟩
  ·rw [ld,World.cell?_setCell_other _ _ _ _ (fun e=>h.ne (by injection e with e;exact e.symm)),World.cell?_setCell_other _ _ _ _ (fun e=>h.ne (by injection e with e;exact e.symm))]
   exact h.cell
  rw [ld,e1]
  exact ((h.own.stored i _).1.stored j _).1
end hw
theorem nZ (t o g c base:Nat) (l:List Int) (a b:Nat) (i j:Int) (hi:i=(a:Int)) (hj:j=(b:Int)) (w:World) (h:HW t o g c base l w) (ha:a < l.length) (hb:b < l.length) (hne:a≠b) :
    Calls Tryz.prog 267 #[.slice (some ⟨g,0,none⟩) l.length c,.int .i64 i,.int .i64 j] w fun e w'=>e=.returned (.tuple #[])/\HW t o g c base (swp l a b) w'/\Keeps (·=g) w w':=by
  subst hi hj
  refine (Mz g l.length c a b (at_ l a) (at_ l b) w ha hb hne (h.at ha) (h.at hb) (h.own.frozenAt a) (h.own.frozenAt b)).mono fun e w' ⟨he,m,hw⟩=>⟨he,?_,?_⟩
  ·rw [hw];exact (h.swap a b).drewN m
  rw [hw];exact (((Keeps.refl (·=g) w).setCell (p:=⟨g,a,none⟩) (.inr rfl) _).setCell (p:=⟨g,b,none⟩) (.inr rfl) _).drewN m
structure Looks (a:Addr) (V:Value):Prop where
  less:∀ w:World,w.cell? a=some V->(Go.method 465 316 (.pointer (some a)) "Less").run Tryz.prog w=.ok (266,V) w
  swap:∀ w:World,w.cell? a=some V->(Go.method 465 316 (.pointer (some a)) "Swap").run Tryz.prog w=.ok (267,V) w
  len:∀ w:World,w.cell? a=some V->(Go.method 465 316 (.pointer (some a)) "Len").run Tryz.prog w=.ok (265,V) w
theorem looks (a:Addr) (V:Value):Looks a V:=⟨Tv a V,Tw a V,Vx a V⟩
theorem R3 (t o g c base:Nat) (l:List Int) (j:Nat) (w:World) (h:HW t o g c base l w) (hj:j < l.length) (hu:DZ l j) (hm:l.length<=1048576) :
    Calls Tryz.prog 212 #[.iface 316 (.pointer (some ⟨t,o,none⟩)),.int .i64 j] w fun e w'=>e=.returned (.tuple #[]) ∧
      ∃ l',Same l l'/\Hp l'.length l'/\HW t o g c base l' w'/\Keeps (·=g) w w':=by
  have L:=looks ⟨t,o,none⟩ (.slice (some ⟨g,0,none⟩) l.length c)
  have nl:=Mw ⟨t,o,none⟩
  have ns:=Gz ⟨t,o,none⟩
  go_enter Tryz.func212,Tryz.ntmps212
  go_wp2_with fail
  go_loopw [1] (fun v wr=>∃ (j:Nat) (l':List Int),v=.int .i64 j/\j < l'.length/\Same l l'/\DZ l' j/\HW t o g c base l' wr/\Keeps (·=g) w wr) (fun v _=>(intOf v).toNat)
  case atStart=>exact⟨j,l,rfl,hj,Same.refl l,hu,h,Keeps.refl _ _⟩
  case round=>
    obtain⟨j,l',rfl,hj',hs,hu',hw,hk⟩:=hrel
    have hc:=hw.cell
    rw [hs.len] at hc
    have LL:=L.less wr hc
    by_cases h0:j=0
    ·subst h0
     have HU:=Lib.hid hu'
     clear hu'
     go_wp2_with fail
     go_end0
     exact⟨rfl,l',hs,MF HU.out (.inl rfl),hw,hk⟩
    have oY:1<=j:=by omega
    have hj2:j<=1048576:=by have:=hs.len;omega
    have hi1:(j - 1) / 2 < l'.length:=by omega
    have hjn:((((j:Int) - 1) / 2) == (j:Int))=false:=by rw [beq_eq_false_iff_ne];omega
    have HU:=Lib.hid hu'
    clear hu'
    go_wp2_with fail
    refine (nY g l.length c j ((j - 1) / 2) _ _ rfl (by omega) (at_ l' j) (at_ l' ((j - 1) / 2)) _ (by rw [← hs.len];exact hj') (by rw [← hs.len];exact hi1) (hw.at hj') (hw.at hi1)).mono ?_
    rintro e w1 ⟨rfl,m,rfl⟩
    have hw1:=hw.drewN m
    by_cases hlt:at_ l' j < at_ l' ((j - 1) / 2)
    ·have LS:=L.swap (wr.drewN m) hc
     go_wp2_with fail
     have HL:=Lib.hid hs.len
     have sw:=nZ t o g c base l' ((j - 1) / 2) j
     rw [hs.len] at sw
     refine (sw _ _ (by omega) rfl _ hw1 (by have:=HL.out;omega) (by have:=HL.out;omega) (by omega)).mono ?_
     rintro e w2 ⟨rfl,hw2,hk2⟩
     clear sw
     go_wp2_with fail
     go_roundw
     case rel=>exact⟨(j - 1) / 2,_,by go_num,by rw [ld];exact hi1,hs.trans (Same.swp hi1 hj'),RX HU.out oY hj' hlt,hw2,(hk.drewN m).trans hk2⟩
     case measure=>simp [intOf];omega
    have hnl:decide (at_ l' j < at_ l' ((j - 1) / 2))=false:=by simpa using hlt
    go_wp2_with fail
    go_end0
    exact⟨rfl,l',hs,MF HU.out (.inr (by omega)),hw1,hk.drewN m⟩
end
section
open Go.RowKit bC
theorem GD {l:List Int} {i j n k:Nat} (hi:i < l.length) (hj:j < l.length) (hin:i < n) (hjn:j < n) (hk:n<=k):at_ (swp l i j) k=at_ l k:=by
  rw [jL hi hj];unfold sw;rw [if_neg (by omega),if_neg (by omega)]
theorem MG (t o g c base n:Nat) (l:List Int) (w:World) (h:HW t o g c base l w) (hn:n<=l.length) (hd:vG n l 0) (hm:l.length<=1048576) :
    Calls Tryz.prog 213 #[.iface 316 (.pointer (some ⟨t,o,none⟩)),.int .i64 0,.int .i64 n] w fun e w'=>(∃ b,e=.returned (.bool b)) ∧
      ∃ l',Same l l'/\Hp n l'/\(∀ k,n<=k->at_ l' k=at_ l k)/\HW t o g c base l' w'/\Keeps (·=g) w w':=by
  have L:=looks ⟨t,o,none⟩ (.slice (some ⟨g,0,none⟩) l.length c)
  have nl:=Mw ⟨t,o,none⟩
  have ns:=Gz ⟨t,o,none⟩
  go_enter Tryz.func213,Tryz.ntmps213
  go_wp2_with fail
  go_loopw [7] (fun v wr=>∃ (i:Nat) (l':List Int),v=.int .i64 i/\i<=n/\Same l l'/\vG n l' i/\Hid (∀ k,n<=k->at_ l' k=at_ l k)/\HW t o g c base l' wr/\Keeps (·=g) w wr) (fun v _=>n - (intOf v).toNat)
  case atStart=>exact⟨0,l,rfl,Nat.zero_le _,Same.refl l,hd,Lib.hid (fun _ _=>rfl),h,Keeps.refl _ _⟩
  case round=>
    obtain⟨i,l',rfl,hin,hs,hd',wO,hw,hk⟩:=hrel
    have hc:=hw.cell
    rw [hs.len] at hc
    have HL:=Lib.hid hs.len
    have hn1:n<=1048576:=by omega
    have hnl:n<=l'.length:=by rw [HL.out];exact hn
    have HD:=Lib.hid hd'
    clear hd'
    by_cases h1:2 * i+1 < n
    ·have h1a:(2 * (i:Int)+1) < (n:Int):=by omega
     by_cases h2:2 * i+2 < n
     ·have Ym:(2 * (i:Int)+1+1) < (n:Int):=by omega
      have LL:=L.less wr hc
      go_wp2_with fail
      refine (nY g l.length c (2 * i+2) (2 * i+1) _ _ (by omega) (by omega) (at_ l' (2 * i+2)) (at_ l' (2 * i+1)) _ (by omega) (by omega) (hw.at (by omega)) (hw.at (by omega))).mono ?_
      rintro e w1 ⟨rfl,m,rfl⟩
      have hw1:=hw.drewN m
      have hk1:=hk.drewN m
      have LL:=L.less (wr.drewN m) hc
      clear hw hk
      by_cases h3:at_ l' (2 * i+2) < at_ l' (2 * i+1)
      ·go_wp2_with fail
       refine (nY g l.length c (2 * i+2) i _ _ (by omega) (by omega) (at_ l' (2 * i+2)) (at_ l' i) _ (by omega) (by omega) (hw1.at (by omega)) (hw1.at (by omega))).mono ?_
       rintro e w2 ⟨rfl,m2,rfl⟩
       have hw2:=hw1.drewN m2
       have hk2:=hk1.drewN m2
       rw [World.drewN_drewN] at hw2 hk2
       by_cases h4:at_ l' (2 * i+2) < at_ l' i
       ·have LS:=L.swap _ (hw2.cell.trans (by rw [HL.out]))
        go_wp2_with fail
        have sw:=nZ t o g c base l' i (2 * i+2)
        rw [hs.len] at sw
        refine (sw _ _ rfl (by omega) _ hw2 (by omega) (by omega) (by omega)).mono ?_
        rintro e w3 ⟨rfl,hw3,hk3⟩
        clear sw
        go_wp2_with fail
        go_roundw
        case rel=>exact⟨2 * i+2,_,by go_num,by omega,hs.trans (Same.swp (by omega) (by omega)),yI HD.out (by omega) (by omega) hnl (by omega) (fun _=>by omega) h4,Lib.hid (fun k hk=>(GD (by omega) (by omega) (by omega) (by omega) hk).trans (wO.out k hk)),hw3,hk2.trans hk3⟩
        case measure=>simp [intOf];omega
       have Wk:decide (at_ l' (2 * i+2) < at_ l' i)=false:=by simpa using h4
       go_wp2_with fail
       go_ret
       exact⟨⟨_,rfl⟩,l',hs,wN HD.out (fun _=>by omega) (fun _=>by omega),wO.out,hw2,hk2⟩
      have ZR:decide (at_ l' (2 * i+2) < at_ l' (2 * i+1))=false:=by simpa using h3
      go_wp2_with fail
      refine (nY g l.length c (2 * i+1) i _ _ (by omega) (by omega) (at_ l' (2 * i+1)) (at_ l' i) _ (by omega) (by omega) (hw1.at (by omega)) (hw1.at (by omega))).mono ?_
      rintro e w2 ⟨rfl,m2,rfl⟩
      have hw2:=hw1.drewN m2
      have hk2:=hk1.drewN m2
      rw [World.drewN_drewN] at hw2 hk2
      by_cases h4:at_ l' (2 * i+1) < at_ l' i
      ·have LS:=L.swap _ (hw2.cell.trans (by rw [HL.out]))
       go_wp2_with fail
       have sw:=nZ t o g c base l' i (2 * i+1)
       rw [hs.len] at sw
       refine (sw _ _ rfl (by omega) _ hw2 (by omega) (by omega) (by omega)).mono ?_
       rintro e w3 ⟨rfl,hw3,hk3⟩
       clear sw
       go_wp2_with fail
       go_roundw
       case rel=>exact⟨2 * i+1,_,by go_num,by omega,hs.trans (Same.swp (by omega) (by omega)),yI HD.out (by omega) (by omega) hnl (by omega) (fun _=>by omega) h4,Lib.hid (fun k hk=>(GD (by omega) (by omega) (by omega) (by omega) hk).trans (wO.out k hk)),hw3,hk2.trans hk3⟩
       case measure=>simp [intOf];omega
      have Wk:decide (at_ l' (2 * i+1) < at_ l' i)=false:=by simpa using h4
      go_wp2_with fail
      go_ret
      exact⟨⟨_,rfl⟩,l',hs,wN HD.out (fun _=>by omega) (fun _=>by omega),wO.out,hw2,hk2⟩
     have Ym:decide ((2 * (i:Int)+1+1) < (n:Int))=false:=by simp;omega
     have hw1:=hw
     have hk1:=hk
     have LL:=L.less wr hc
     clear hw hk
     go_wp2_with fail
     refine (nY g l.length c (2 * i+1) i _ _ (by omega) (by omega) (at_ l' (2 * i+1)) (at_ l' i) _ (by omega) (by omega) (hw1.at (by omega)) (hw1.at (by omega))).mono ?_
     rintro e w2 ⟨rfl,m2,rfl⟩
     have hw2:=hw1.drewN m2
     have hk2:=hk1.drewN m2
     by_cases h4:at_ l' (2 * i+1) < at_ l' i
     ·have LS:=L.swap _ (hw2.cell.trans (by rw [HL.out]))
      go_wp2_with fail
      have sw:=nZ t o g c base l' i (2 * i+1)
      rw [hs.len] at sw
      refine (sw _ _ rfl (by omega) _ hw2 (by omega) (by omega) (by omega)).mono ?_
      rintro e w3 ⟨rfl,hw3,hk3⟩
      clear sw
      go_wp2_with fail
      go_roundw
      case rel=>exact⟨2 * i+1,_,by go_num,by omega,hs.trans (Same.swp (by omega) (by omega)),yI HD.out (by omega) (by omega) hnl (by omega) (fun _=>by omega) h4,Lib.hid (fun k hk=>(GD (by omega) (by omega) (by omega) (by omega) hk).trans (wO.out k hk)),hw3,hk2.trans hk3⟩
      case measure=>simp [intOf];omega
     have Wk:decide (at_ l' (2 * i+1) < at_ l' i)=false:=by simpa using h4
     go_wp2_with fail
     go_ret
     exact⟨⟨_,rfl⟩,l',hs,wN HD.out (fun _=>by omega) (fun _=>by omega),wO.out,hw2,hk2⟩
    have h1a:((n:Int)<=2 * (i:Int)+1):=by omega
    go_wp2_with fail
    go_ret
    exact⟨⟨_,rfl⟩,l',hs,wN HD.out (fun h=>absurd h h1) (fun h=>absurd h (by omega)),wO.out,hw,hk⟩
end
section
open Go.RowKit bC
theorem D1 (g n c i:Nat) (x:Int) (w:World) (hi:i < n) (ci:w.cell? ⟨g,i,none⟩=some (.int .i64 x)) (fi:w.frozen? ⟨g,i,none⟩=false) :
    Calls Tryz.prog 267 #[.slice (some ⟨g,0,none⟩) n c,.int .i64 i,.int .i64 i] w fun e w'=>e=.returned (.tuple #[])/\∃ m,w'=((w.setCell ⟨g,i,none⟩ (.int .i64 x)).setCell ⟨g,i,none⟩ (.int .i64 x)).drewN m:=by
  have hi':(i:Int) < (n:Int):=by omega
  go_enter Tryz.func267,Tryz.ntmps267
  go_wp2_with fail
  go_region
  go_end0
  exact⟨rfl,1,rfl⟩
theorem D2 (t o g c base n:Nat) (l:List Int) (hl:l.length=n+1) (j:Int) (hj:j=(n:Int)) (w:World) (h:HW t o g c base l w) :
    Calls Tryz.prog 267 #[.slice (some ⟨g,0,none⟩) (n+1) c,.int .i64 0,.int .i64 j] w fun e w'=>e=.returned (.tuple #[])/\HW t o g c base (swp l 0 n) w'/\Keeps (·=g) w w':=by
  subst hj
  by_cases h0:n=0
  ·subst h0
   have:=D1 g 1 c 0 (at_ l 0) w (by omega) (h.at (by omega)) (h.own.frozenAt 0)
   refine this.mono fun e w' ⟨he,m,hw⟩=>⟨he,?_,?_⟩
   ·rw [hw];exact (h.swap 0 0).drewN m
   rw [hw];exact (((Keeps.refl (·=g) w).setCell (p:=⟨g,0,none⟩) (.inr rfl) _).setCell (p:=⟨g,0,none⟩) (.inr rfl) _).drewN m
  have:=nZ t o g c base l 0 n 0 n rfl rfl w h (by omega) (by omega) (by omega)
  rw [hl] at this
  exact this
theorem HW.pop {t o g c base n:Nat} {l:List Int} {w:World} (h:HW t o g c base l w) (hl:l.length=n+1):w.ownsRow base 3 1 (.slice (some ⟨g,0,none⟩) n c) n (ints (l.take n)):=by
  have e:ints l=ints (l.take n)++ints (l.drop n):=by simp only [ints,← List.map_append,List.take_append_drop]
  have h1:=h.own
  rw [e,hl] at h1
  exact ownsRow_pop (by simp [ints];omega) h1
theorem HW.cap {t o g c base:Nat} {l:List Int} {w:World} (h:HW t o g c base l w):l.length<=c:=by
  rcases h.own.2 with ⟨e,_⟩|⟨g',cap,cur,e,_,_,r,_⟩
  ·injection e with e;cases e
  injection e with e1 e2 e3
  omega
theorem Pc (t o g c base n:Nat) (l:List Int) (w:World) (h:HW t o g c base l w) (hl:l.length=n+1) (hp:Hp (n+1) l) (hi:yH l) (hm:n+1<=1048576) (hf:w.frozen? ⟨t,o,none⟩=false) :
    Calls Tryz.prog 211 #[.iface 316 (.pointer (some ⟨t,o,none⟩))] w fun e w'=>e=.returned (.iface 3 (.int .i64 (at_ l 0))) ∧
      ∃ l' w1,l'.length=n/\Hp n l'/\yH l'/\(∀ x,x∈l'↔x∈l/\x≠at_ l 0)/\w1.ownsRow base 3 1 (.slice (some ⟨g,0,none⟩) n c) n (ints l')/\Keeps (·=g) w w1 ∧
        w'=w1.setCell ⟨t,o,none⟩ (.slice (some ⟨g,0,none⟩) n c):=by
  have L:=looks ⟨t,o,none⟩ (.slice (some ⟨g,0,none⟩) l.length c)
  have nn:=QU ⟨t,o,none⟩
  have ns:=Gz ⟨t,o,none⟩
  have np:=Vz ⟨t,o,none⟩
  have mp:=Vy ⟨t,o,none⟩
  have LN:=L.len w h.cell
  have LS:=L.swap w h.cell
  have HL:=Lib.hid hl
  rw [hl] at LN LS
  clear hl
  go_enter Tryz.func211,Tryz.ntmps211
  go_wp2_with fail
  refine (GA _ _ _ _).mono ?_
  rintro e w0 ⟨rfl,rfl⟩
  go_wp2_with fail
  refine (D2 t o g c base n l HL.out _ (by omega) _ h).mono ?_
  rintro e w1 ⟨rfl,hw1,hk1⟩
  go_wp2_with fail
  have hd:=MG t o g c base n (swp l 0 n) w1 hw1 (by rw [ld,HL.out];omega) (KE hp HL.out) (by rw [ld,HL.out];exact hm)
  refine (hd.mono ?_)
  rintro e w2 ⟨⟨bb,rfl⟩,l',hs,hp',wO,hw2,hk2⟩
  clear hd
  have hlen:l'.length=n+1:=by rw [hs.len,ld,HL.out]
  have hcell:=hw2.cell
  rw [hlen] at hcell
  have hcap:=hw2.cap
  have htlt:=h.lt
  have hf2:w2.frozen? ⟨t,o,none⟩=false:=by
    rw [(hk1.trans hk2).frozen (p:=⟨t,o,none⟩) htlt h.ne]
    exact hf
  have hlast:at_ l' n=at_ l 0:=by
    rw [wO n (Nat.le_refl _),jL (by rw [HL.out];omega) (by rw [HL.out];omega)]
    simp [sw]
  have hx:=hw2.at (k:=n) (by omega)
  rw [hlast] at hx
  have KF:=Lib.hid hlen
  have VA:=Lib.hid hlast
  clear hlen hlast
  go_wp2_with fail
  refine (O8 t o g n c (at_ l 0) w2 (by have:=KF.out;omega) hcell hf2 hx hm).mono ?_
  rintro e w3 ⟨rfl,rfl⟩
  go_wp2_with fail
  go_ret
  have sm:=(Same.swp (l:=l) (i:=0) (j:=n) (by rw [HL.out];omega) (by rw [HL.out];omega)).trans hs
  refine⟨rfl,l'.take n,w2,by simp [KF.out],RZ hp',Pa (sm.inj hi),fun x=>?_,hw2.pop KF.out,hk1.trans hk2,rfl⟩
  rw [RY KF.out (sm.inj hi),sm.mem,VA.out]
theorem I7 (l:List Int) (x:Int):ints l++[.int .i64 x]=ints (l++[x]):=by simp [ints]
theorem MH (t o base:Nat) (v:Value) (l:List Int) (x:Int) (w:World) (ht:w.cell? ⟨t,o,none⟩=some v) (hf:w.frozen? ⟨t,o,none⟩=false) (hown:w.ownsRow base 3 1 v l.length (ints l))
    (hne:v.ownBlock≠some t) (hm:l.length+1<=1048576) (hbase:base<=w.heap.size) (hp:Hp l.length l) (htl:t < w.heap.size) :
    Calls Tryz.prog 209 #[.iface 316 (.pointer (some ⟨t,o,none⟩)),.iface 3 (.int .i64 x)] w fun e w'=>e=.returned (.tuple #[]) ∧
      ∃ g c l',Same (l++[x]) l'/\Hp l'.length l'/\HW t o g c base l' w'/\(v.ownBlock=some g\/w.heap.size<=g) ∧
        ∃ w1,Keeps (fun k=>v.ownBlock=some k) w w1/\Keeps (·=g) (w1.setCell ⟨t,o,none⟩ (.slice (some ⟨g,0,none⟩) (l.length+1) c)) w':=by
  have nn:=QU ⟨t,o,none⟩
  have np:=Ty ⟨t,o,none⟩
  have mp:=Tx ⟨t,o,none⟩
  go_enter Tryz.func209,Tryz.ntmps209
  go_wp2_with fail
  refine (ME t o base l.length v (ints l) x w ht hf hown hne hm hbase).mono ?_
  rintro e w0 ⟨rfl,g,c,w1,hown1,hg1,KC,rfl⟩
  have hk1:Keeps (fun k=>v.ownBlock=some k) w w1:=(Keeps.refl _ _).grown hg1 (fun k hk=>.inr hk)
  have hgt:t≠g:=by
    rintro rfl
    rcases KC with h|h
    ·exact hne h
    omega
  have ht1:w1.cell? ⟨t,o,none⟩=some v:=(hk1.cell (p:=⟨t,o,none⟩) htl hne).trans ht
  have HW1:HW t o g c base (l++[x]) (w1.setCell ⟨t,o,none⟩ (.slice (some ⟨g,0,none⟩) (l.length+1) c)):=by
    refine⟨?_,?_,hgt,by simpa [World.setCell] using Nat.lt_of_lt_of_le htl hk1.size⟩
    ·rw [World.cell?_setCell_same _ _ _ ht1];simp
    rw [List.length_append,List.length_singleton,← I7]
    refine Keeps.ownsRow (S:=(·=t)) ((Keeps.refl (·=t) w1).setCell (p:=⟨t,o,none⟩) (.inr rfl) _) hown1 ?_
    intro k hk e
    simp [Value.ownBlock] at hk
    omega
  have hc:=HW1.cell
  rw [List.length_append,List.length_singleton] at hc
  generalize hW:w1.setCell ⟨t,o,none⟩ (.slice (some ⟨g,0,none⟩) (l.length+1) c)=w2 at *
  have LN:=(looks ⟨t,o,none⟩ (.slice (some ⟨g,0,none⟩) (l.length+1) c)).len w2 hc
  have Yn:=Lib.hid hW
  clear hW ht1 hown1 hown hg1
  go_wp2_with fail
  refine (GA _ _ _ _).mono ?_
  rintro e w3 ⟨rfl,rfl⟩
  go_wp2_with fail
  have hu:=R3 t o g c base (l++[x]) l.length w3 HW1 (by simp) (O9 hp x) (by simpa using hm)
  refine hu.mono ?_
  rintro e w4 ⟨rfl,l',hs,hp',hw4,hk4⟩
  go_wp2_with fail
  go_end0
  exact⟨rfl,g,c,l',hs,hp',hw4,KC,w1,hk1,by rw [Yn.out];exact hk4⟩
end
end Go.Proofs.YtiehgnlnofhbaaaGreatDoor
section
namespace Go.Proofs.YtiehgnlnofhbaaaGreatDoor.aE
open bC
variable {V U:Type}
abbrev Used (V:Type):=List (Int×V)
def keys (us:Used V):List Int:=us.map (·.1)
def get (us:Used V) (h:Int):Option V:=(us.find? (fun p=>p.1 == h)).map (·.2)
def cq:List Int->Prop:=List.Pairwise (· < ·)
def iq:Int->List Int->Int
  | h,[]=>h
  | h,k::r=>if k=h then iq (h+1) r else h
def least (us:Used V):Int:=iq 1 (keys us)
def ins (h:Int) (v:V):Used V->Used V
  | []=>[(h,v)]
  | p::r=>if h < p.1 then (h,v)::p::r else p::ins h v r
def del (h:Int) (us:Used V):Used V:=us.filter (fun p=>p.1 != h)
def Zs (h:Int) (v:V) (us:Used V):Used V:=us.map (fun p=>if p.1 == h then (h,v) else p)
structure TI (next:Int) (l:List Int) (us:Used V):Prop where
  rise:cq (keys us)
  pos:∀ h∈keys us,1<=h/\h < next
  back:∀ h∈l,1<=h/\h < next/\h∉keys us
  all:∀ h,1<=h->h < next->h∈keys us\/h∈l
  count:(us.length:Int)+l.length=next - 1
  heap:Hp l.length l
  inj:yH l
theorem keys_cons (p:Int×V) (us:Used V):keys (p::us)=p.1::keys us:=rfl
theorem keys_map (f:V->U) (us:Used V):keys (us.map fun p=>(p.1,f p.2))=keys us:=by simp [keys]
theorem get_none {us:Used V} {h:Int}:get us h=none↔h∉keys us:=by
  unfold get keys
  rw [Option.map_eq_none_iff,List.find?_eq_none]
  simp only [List.mem_map,not_exists,not_and,beq_iff_eq]
theorem get_some {us:Used V} {h:Int} {v:V} (e:get us h=some v):h∈keys us:=by
  apply Classical.byContradiction
  intro hn
  rw [get_none.2 hn] at e;cases e
theorem get_map (f:V->U) (us:Used V) (h:Int):get (us.map fun p=>(p.1,f p.2)) h=(get us h).map f:=by
  unfold get
  rw [List.find?_map]
  simp only [Function.comp_def,Option.map_map]
theorem l6 (h:Int) (v:V) (us:Used V) (x:Int):x∈keys (ins h v us)↔x=h\/x∈keys us:=by
  induction us with
  | nil=>simp [ins,keys]
  | cons p r ih=>
    unfold ins
    split
    ·simp [keys]
    rw [keys_cons,keys_cons,List.mem_cons,List.mem_cons,ih]
    constructor
    ·rintro (h1|h1|h1)
     ·exact .inr (.inl h1)
     ·exact .inl h1
     exact .inr (.inr h1)
    rintro (h1|h1|h1)
    ·exact .inr (.inl h1)
    ·exact .inl h1
    exact .inr (.inr h1)
theorem wQ {h:Int} {v:V} {us:Used V} (hr:cq (keys us)) (hn:h∉keys us):cq (keys (ins h v us)):=by
  induction us with
  | nil=>simp [ins,keys,cq]
  | cons p r ih=>
    unfold cq at *
    rw [keys_cons,List.pairwise_cons] at hr
    rw [keys_cons,List.mem_cons,not_or] at hn
    unfold ins
    split
    ·rename_i hlt
     rw [keys_cons,keys_cons,List.pairwise_cons,List.pairwise_cons]
     refine⟨?_,hr⟩
     intro x hx
     rcases List.mem_cons.1 hx with e|e
     ·rw [e];exact hlt
     have:=hr.1 x e;show h < x;omega
    rename_i hlt
    rw [keys_cons,List.pairwise_cons]
    refine⟨fun x hx=>?_,ih hr.2 hn.2⟩
    rcases (l6 h v r x).1 hx with e|e
    ·rw [e];have:=hn.1;omega
    exact hr.1 x e
theorem lf {h:Int} {v:V} {us:Used V} (hn:h∉keys us) (x:Int):get (ins h v us) x=if x=h then some v else get us x:=by
  induction us with
  | nil=>
    by_cases e:x=h
    ·subst e;simp [ins,get]
    simp [ins,get,e,Ne.symm e]
  | cons p r ih=>
    rw [keys_cons,List.mem_cons,not_or] at hn
    unfold ins
    split
    ·unfold get
     by_cases e:x=h
     ·subst e;simp
     simp [e,Ne.symm e]
    have ih':=ih hn.2
    unfold get at ih' ⊢
    rw [List.find?_cons,List.find?_cons]
    by_cases e:p.1=x
    ·have:x≠h:=by rintro rfl;exact hn.1 e.symm
     simp [e,this]
    simp only [show (p.1 == x)=false by simpa using e]
    exact ih'
theorem iw (h:Int) (v:V) (us:Used V):(ins h v us).length=us.length+1:=by
  induction us with
  | nil=>rfl
  | cons p r ih=>unfold ins;split<;>simp [ih]
theorem Pf {h:Int} {v:V} {us:Used V} (hl:∀ x∈keys us,x < h):ins h v us=us++[(h,v)]:=by
  induction us with
  | nil=>rfl
  | cons p r ih=>
    rw [keys_cons] at hl
    have h1:=hl p.1 (by simp)
    unfold ins
    rw [if_neg (by omega),ih (fun x hx=>hl x (by simp [hx]))]
    rfl
theorem JG (f:V->U) (h:Int) (v:V) (us:Used V):(ins h v us).map (fun p=>(p.1,f p.2))=ins h (f v) (us.map fun p=>(p.1,f p.2)):=by
  induction us with
  | nil=>rfl
  | cons p r ih=>unfold ins;simp only [List.map_cons];split<;>simp_all
theorem JH (f:V->U) (h:Int) (us:Used V):(del h us).map (fun p=>(p.1,f p.2))=del h (us.map fun p=>(p.1,f p.2)):=by
  unfold del;rw [List.filter_map];rfl
theorem oA (h:Int) (us:Used V):keys (del h us)=(keys us).filter (· != h):=by
  unfold keys del;rw [List.filter_map];rfl
theorem o7 (h:Int) (us:Used V) (x:Int):get (del h us) x=if x=h then none else get us x:=by
  by_cases e:x=h
  ·subst e
   rw [if_pos rfl,get_none,oA]
   simp
  rw [if_neg e]
  unfold get del
  rw [List.find?_filter]
  congr 2
  funext p
  by_cases e2:p.1=x
  ·simp [e2,e]
  simp [e2]
theorem nL {h:Int} {us:Used V} (hr:cq (keys us)) (hm:h∈keys us):(del h us).length+1=us.length:=by
  induction us with
  | nil=>simp [keys] at hm
  | cons p r ih=>
    unfold cq at *
    rw [keys_cons,List.pairwise_cons] at hr
    unfold del at ih ⊢
    rw [List.filter_cons]
    by_cases e:p.1=h
    ·have:r.filter (fun q=>q.1 != h)=r:=by
       rw [List.filter_eq_self]
       intro q hq
       have:=hr.1 q.1 (List.mem_map_of_mem hq)
       simp;omega
     simp [e,this]
    rw [keys_cons,List.mem_cons] at hm
    have:=ih hr.2 (hm.resolve_left (Ne.symm e))
    simp [e];omega
theorem nM:∀ (ks:List Int) (h:Int),cq ks->(∀ x∈ks,h<=x)->h<=iq h ks/\iq h ks∉ks/\∀ x,h<=x->x < iq h ks->x∈ks
  | [],h,_,_=>⟨Int.le_refl _,by simp [iq],fun x h1 h2=>by simp [iq] at h2;omega⟩
  | k::r,h,hr,hge=>by
    unfold cq at hr
    rw [List.pairwise_cons] at hr
    unfold iq
    by_cases e:k=h
    ·rw [if_pos e]
     obtain⟨i1,i2,i3⟩:=nM r (h+1) hr.2 (fun x hx=>by have:=hr.1 x hx;omega)
     refine⟨by omega,?_,fun x h1 h2=>?_⟩
     ·rw [List.mem_cons,not_or];exact⟨by omega,i2⟩
     by_cases e2:x=h
     ·rw [e2,← e];simp
     exact List.mem_cons_of_mem _ (i3 x (by omega) h2)
    rw [if_neg e]
    refine⟨Int.le_refl _,?_,fun x h1 h2=>by omega⟩
    rw [List.mem_cons,not_or]
    refine⟨Ne.symm e,fun hm=>?_⟩
    have h1:=hr.1 h hm
    have h2:=hge k (by simp)
    omega
theorem yJ {us:Used V} (hr:cq (keys us)) (hp:∀ x∈keys us,1<=x) {h:Int} (h1:1<=h) (hn:h∉keys us) (hall:∀ x,1<=x->x < h->x∈keys us):least us=h:=by
  obtain⟨i1,i2,i3⟩:=nM (keys us) 1 hr hp
  unfold least
  rcases Int.lt_trichotomy (iq 1 (keys us)) h with hlt|he|hgt
  ·exact absurd (hall _ i1 hlt) i2
  ·exact he
  exact absurd (i3 h h1 hgt) hn
theorem TI.empty:TI 1 [] ([]:Used V):=
  ⟨List.Pairwise.nil,by simp [keys],by simp,fun h h1 h2=>by omega,rfl,fun i h1 h2=>by simp at h2,fun a b h1=>by simp at h1⟩
theorem TI.CA {next:Int} {us:Used V} (h:TI next [] us):least us=next:=by
  have hc:=h.count
  simp at hc
  refine yJ h.rise (fun x hx=>(h.pos x hx).1) (by omega) (fun hm=>?_) (fun x h1 h2=>(h.all x h1 h2).resolve_right (by simp))
  have:=(h.pos _ hm).2;omega
theorem TI.Pg {next:Int} {us:Used V} (h:TI next [] us) (v:V):TI (next+1) [] (ins next v us):=by
  have hc:=h.count
  simp at hc
  have hn:next∉keys us:=fun hm=>by have:=(h.pos _ hm).2;omega
  refine⟨wQ h.rise hn,fun x hx=>?_,by simp,fun x h1 h2=>?_,by rw [iw];simp;omega,fun i h1 h2=>by simp at h2,fun a b h1=>by simp at h1⟩
  ·rcases (l6 next v us x).1 hx with e|e
   ·omega
   have:=h.pos x e;omega
  by_cases e:x=next
  ·exact .inl ((l6 next v us x).2 (.inl e))
  exact .inl ((l6 next v us x).2 (.inr ((h.all x h1 (by omega)).resolve_right (by simp))))
theorem TI.CB {next:Int} {l:List Int} {us:Used V} (h:TI next l us) (hl:0 < l.length):least us=at_ l 0:=by
  have hm:at_ l 0∈l:=tN.2 ⟨0,hl,rfl⟩
  obtain⟨b1,b2,b3⟩:=h.back _ hm
  refine yJ h.rise (fun x hx=>(h.pos x hx).1) b1 b3 (fun x h1 h2=>(h.all x h1 (by omega)).resolve_right (fun hx=>?_))
  obtain⟨k,hk,e⟩:=tN.1 hx
  have:=bC.least h.heap k hk
  omega
theorem TI.Ph {next:Int} {l l':List Int} {us:Used V} (h:TI next l us) (hl:0 < l.length) (v:V) (hlen:l'.length+1=l.length) (hp:Hp l'.length l') (hi:yH l') (hm:∀ x,x∈l'↔x∈l/\x≠at_ l 0) :
    TI next l' (ins (at_ l 0) v us):=by
  have h0:at_ l 0∈l:=tN.2 ⟨0,hl,rfl⟩
  obtain⟨b1,b2,b3⟩:=h.back _ h0
  have hc:=h.count
  refine⟨wQ h.rise b3,fun x hx=>?_,fun x hx=>?_,fun x h1 h2=>?_,by rw [iw];push_cast;omega,hp,hi⟩
  ·rcases (l6 _ v us x).1 hx with e|e
   ·omega
   exact h.pos x e
  ·have hx':=(hm x).1 hx
   have:=h.back x hx'.1
   refine⟨this.1,this.2.1,fun hk=>?_⟩
   rcases (l6 _ v us x).1 hk with e|e
   ·exact hx'.2 e
   exact this.2.2 e
  by_cases e:x=at_ l 0
  ·exact .inl ((l6 _ v us x).2 (.inl e))
  rcases h.all x h1 h2 with h3|h3
  ·exact .inl ((l6 _ v us x).2 (.inr h3))
  exact .inr ((hm x).2 ⟨h3,e⟩)
theorem TI.drop {next h0:Int} {l l':List Int} {us:Used V} (h:TI next l us) (hm:h0∈keys us) (hs:Same (l++[h0]) l') (hp:Hp l'.length l'):TI next l' (del h0 us):=by
  obtain⟨p1,p2⟩:=h.pos _ hm
  have hn:h0∉l:=fun hx=>(h.back _ hx).2.2 hm
  have hlen:=hs.len
  rw [List.length_append,List.length_singleton] at hlen
  have hc:=h.count
  have hd:=nL h.rise hm
  refine⟨?_,fun x hx=>?_,fun x hx=>?_,fun x h1 h2=>?_,by omega,hp,hs.inj ?_⟩
  ·rw [oA];exact List.Pairwise.filter _ h.rise
  ·rw [oA,List.mem_filter] at hx
   exact h.pos x hx.1
  ·rw [hs.mem,List.mem_append,List.mem_singleton] at hx
   rw [oA,List.mem_filter]
   rcases hx with hx|hx
   ·have:=h.back x hx
    exact⟨this.1,this.2.1,fun hk=>this.2.2 hk.1⟩
   subst hx
   exact⟨p1,p2,fun hk=>by simp at hk⟩
  ·rw [oA,List.mem_filter,hs.mem,List.mem_append,List.mem_singleton]
   rcases h.all x h1 h2 with h3|h3
   ·by_cases e:x=h0
    ·exact .inr (.inr e)
    exact .inl ⟨h3,by simpa using e⟩
   exact .inr (.inl h3)
  intro a b ha hb e
  rw [List.length_append,List.length_singleton] at ha hb
  have g:∀ k,k < l.length->at_ (l++[h0]) k=at_ l k:=fun k hk=>by
    unfold at_;rw [List.getD_eq_getElem?_getD,List.getD_eq_getElem?_getD,List.getElem?_append_left hk]
  have g2:at_ (l++[h0]) l.length=h0:=by unfold at_;simp [List.getD_eq_getElem?_getD]
  have inl:∀ k,k < l.length->at_ l k≠h0:=fun k hk e=>hn (e ▸ tN.2 ⟨k,hk,rfl⟩)
  by_cases ha':a < l.length
  ·by_cases hb':b < l.length
   ·rw [g a ha',g b hb'] at e;exact h.inj a b ha' hb' e
   obtain rfl:b=l.length:=by omega
   rw [g a ha',g2] at e;exact absurd e (inl a ha')
  obtain rfl:a=l.length:=by omega
  by_cases hb':b < l.length
  ·rw [g b hb',g2] at e;exact absurd e.symm (inl b hb')
  omega
end Go.Proofs.YtiehgnlnofhbaaaGreatDoor.aE
end
namespace Go.Proofs.YtiehgnlnofhbaaaGreatDoor
section
open Go.RowKit bC aE Go.Maps
def bE (us:Used Value):Lit->Option Value
  | .int .i64 h=>aE.get us h
  | _=>none
theorem D3 {us:Used Value} {h:Int} (hn:h∉keys us) (v:Value):kf (bE us) (.int .i64 h) (some v)=bE (ins h v us):=by
  funext x
  unfold kf bE
  cases x with
  | int k n=>
    by_cases hk:k=.i64
    ·subst hk
     simp only [Lit.sameKey,true_and,decide_eq_true_eq]
     rw [lf hn]
    have e:(Lit.int k n).sameKey (.int .i64 h)=false:=by simp [Lit.sameKey,hk]
    rw [e]
    cases k<;>first|rfl|exact absurd rfl hk
  | _=>rfl
theorem JI {us:Used Value} {h:Int}:kf (bE us) (.int .i64 h) none=bE (del h us):=by
  funext x
  unfold kf bE
  cases x with
  | int k n=>
    by_cases hk:k=.i64
    ·subst hk
     simp only [Lit.sameKey,true_and,decide_eq_true_eq]
     rw [o7]
    have e:(Lit.int k n).sameKey (.int .i64 h)=false:=by simp [Lit.sameKey,hk]
    rw [e]
    cases k<;>first|rfl|exact absurd rfl hk
  | _=>rfl
structure Xq (TT:TypeId) (t m base:Nat) (v:Value) (l:List Int) (next most aD:Int) (us:Used Value) (w:World):Prop where
  blk:w.heap[t]?=some (.cells #[.int .i64 most,.int .i64 aD,.map (some m),v,.int .i64 next] TT (0,0))
  map:gi Tryz.prog 3 w m (bE us) us.length
  own:w.ownsRow base 3 1 v l.length (ints l)
  ti:TI next l us
  wR:(us.length:Int)<=most
  wS:most<=1024
  wT:next<=most+1
  tt:TT≠3
  bt:base<=t
  bm:base<=m
  zV:0<=aD/\aD<=1024
def ZS (TT:TypeId) (t m base:Nat) (row:Option Nat) (most aD:Int) (us:Used Value) (w:World):Prop:=
  ∃ v l next,Xq TT t m base v l next most aD us w/\v.ownBlock=row
section tab
variable {TT:TypeId} {t m base:Nat} {v:Value} {l:List Int} {next most aD:Int} {us:Used Value} {w w':World} {row:Option Nat}
end tab
end
section
open Go.RowKit bC aE Go.Maps
theorem Spec.Wl {P:Program} {β:Bs} {f:FuncId} {args:Array Value} {pre:List HP} {post:Value->List HP->Prop}
    (h:∀ F w,(Proofs.YtiehgnlnofhbaaaGreatDoor.fC pre).h F w->Calls P f args w fun e w'=>∃ v l,e=.returned v/\post v l/\∃ F',(Proofs.YtiehgnlnofhbaaaGreatDoor.fC l).h F' w'/\Step F w F' w'):Spec P β f args pre post:=by
  intro R w hS
  have h1:Sat β ([.abs (Proofs.YtiehgnlnofhbaaaGreatDoor.fC pre)]++[.abs R]) w:=Sat.turn (Sat.turn hS).fC
  have h2:Spec P β f args [.abs (Proofs.YtiehgnlnofhbaaaGreatDoor.fC pre)] (fun v l=>∃ l0,post v l0/\l=[.abs (Proofs.YtiehgnlnofhbaaaGreatDoor.fC l0)]):=
    Spec.Yd (fun F w hF=>(h F w hF).mono fun _ _ ⟨v,l,e,hp,hF'⟩=>⟨v,.abs (Proofs.YtiehgnlnofhbaaaGreatDoor.fC l),e,⟨l,hp,rfl⟩,hF'⟩)
  refine (h2 R w h1).mono ?_
  rintro e w' ⟨v,l,he,⟨l0,hp,rfl⟩,vH⟩
  exact⟨v,l0,he,hp,Sat.turn (Sat.turn vH).pN⟩
theorem FT {p q:HP} {F:Fp} {w:World}:(fC [p,q]).h F w↔∃ F1 F2,p.h F1 w/\q.h F2 w/\Apart F1 F2/\∀ k,F k↔F1 k\/F2 k:=by
  constructor
  ·rintro⟨φ,h1,h2,h3⟩
   refine⟨φ 0,φ 1,h1 0 p rfl,h1 1 q rfl,h2 0 1 (by simp) (by simp) (by decide),fun k=>(h3 k).trans ⟨fun ⟨i,hi,hk⟩=>?_,fun h=>?_⟩⟩
   ·have hi:i < 2:=hi
    rcases (by omega:i=0\/i=1) with rfl|rfl
    ·exact .inl hk
    exact .inr hk
   rcases h with h|h
   ·exact⟨0,by simp,h⟩
   exact⟨1,by simp,h⟩
  rintro⟨F1,F2,h1,h2,h3,h4⟩
  refine⟨fun i=>if i=0 then F1 else F2,fun i x hx=>?_,fun i j hi hj hne=>?_,fun k=>(h4 k).trans ⟨fun h=>?_,fun ⟨i,hi,hk⟩=>?_⟩⟩
  ·match i,hx with
   | 0,hx=>cases hx;exact h1
   | 1,hx=>cases hx;exact h2
  ·have hi:i < 2:=hi
   have hj:j < 2:=hj
   rcases (by omega:(i=0/\j=1)\/(i=1/\j=0)) with ⟨rfl,rfl⟩|⟨rfl,rfl⟩
   ·exact h3
   exact h3.symm
  ·rcases h with h|h
   ·exact⟨0,by simp,h⟩
   exact⟨1,by simp,h⟩
  have hi:i < 2:=hi
  rcases (by omega:i=0\/i=1) with rfl|rfl
  ·exact .inl hk
  exact .inr hk
theorem Sat.VB {β:Bs} {l:List HP} {w:World} {A:bV} {ι:Type} {Φ:ι->Prop} {L:ι->List HP} (h:Sat β (l++[.abs A]) w) (hA:∀ F,A.h F w->∃ i,Φ i/\(Proofs.YtiehgnlnofhbaaaGreatDoor.fC (L i)).h F w):∃ i,Φ i/\Sat β (l++L i) w:=by
  obtain⟨F,hF⟩:=h.get (i:=l.length) (p:=.abs A) (by simp)
  have h0:=h
  obtain⟨ho,φ,h1,h2,h3⟩:=h
  obtain⟨i,hi,hB⟩:=hA _ (h1 l.length (.abs A) (by simp))
  refine⟨i,hi,Sat.pN ⟨ho,φ,fun j p hp=>?_,fun j hj=>h2 j (by simpa using hj),fun a b ha hb=>h3 a b (by simpa using ha) (by simpa using hb)⟩⟩
  by_cases e:j < l.length
  ·rw [List.getElem?_append_left e] at hp
   exact h1 j p (by rw [List.getElem?_append_left e];exact hp)
  have hj:j=l.length:=by have:=bq hp;simp at this;omega
  subst hj
  simp at hp
  subst hp
  exact hB
theorem Sat.TA {β:Bs} {l R:List HP} {w:World} {A:bV} (h:Sat β (l++R) w) (hA:∀ F,(Proofs.YtiehgnlnofhbaaaGreatDoor.fC R).h F w->A.h F w):Sat β (l++[.abs A]) w:=by
  obtain⟨ho,φ,h1,h2,h3⟩:=h.fC
  refine⟨ho,φ,fun j p hp=>?_,fun j hj=>h2 j (by simpa using hj),fun a b ha hb=>h3 a b (by simpa using ha) (by simpa using hb)⟩
  by_cases e:j < l.length
  ·rw [List.getElem?_append_left e] at hp
   exact h1 j p (by rw [List.getElem?_append_left e];exact hp)
  have hj:j=l.length:=by have:=bq hp;simp at this;omega
  subst hj
  simp at hp
  subst hp
  exact hA _ (h1 l.length (.abs (Proofs.YtiehgnlnofhbaaaGreatDoor.fC R)) (by simp))
section rules
variable {P:Program} {β:Bs} {N:dD} {ops:Array Oper} {k:Nat} {fr:Fr} {hps:List HP} {Q:Post} {c:Code} {e:Exit}
theorem af.GF {ι:Type} {Φ:ι->Prop} {hp:ι->List HP} (h:∀ w,Sat β hps w->∃ i,Φ i/\Sat β (hp i) w) (K:∀ i,Φ i->af P β N c fr (hp i) Q):af P β N c fr hps Q:=fun junk w hS=>let ⟨i,hi,cU⟩:=h w hS;K i hi junk w cU
end rules
theorem xU {w:World} {t j:Nat} {cs:List Value} {T:TypeId} {u:Value} (h:w.heap[t]?=some (.cells ⟨cs⟩ T (0,0))):(w.setCell ⟨t,j,none⟩ u).heap[t]?=some (.cells ⟨cs.set j u⟩ T (0,0)):=by
  simp [World.setCell,Array.getElem?_modify,h,Array.setIfInBounds_def]
  exact fun h=>(List.set_eq_of_length_le h).symm
theorem TB {β:Bs} {T:TypeId} {a b c e:Value} {t g cap n:Nat} {l:List Int} (hl:l.length=n+1) (hp:Hp (n+1) l) (hi:yH l) (hm:n+1<=1048576) :
    Spec Tryz.prog β 211 #[.iface 316 (.pointer (some ⟨t,3,none⟩))] [.blk t [a,b,c,.slice (some ⟨g,0,none⟩) l.length cap,e] T,.abs (aK 3 1 (some ⟨g,0,none⟩) l.length cap (ints l))]
      (fun v r=>v=.iface 3 (.int .i64 (at_ l 0))/\∃ l':List Int,l'.length=n/\Hp n l'/\yH l'/\(∀ x,x∈l'↔x∈l/\x≠at_ l 0)/\r=[.blk t [a,b,c,.slice (some ⟨g,0,none⟩) n cap,e] T,.abs (aK 3 1 (some ⟨g,0,none⟩) n cap (ints l'))]):=by
  refine Spec.Wl (fun F w h=>?_)
  obtain⟨F1,F2,⟨h1,h2⟩,hr,hap,hF⟩:=FT.1 h
  have hr:(aK 3 1 (some ⟨g,0,none⟩) l.length cap (ints l)).h F2 w:=hr
  obtain⟨hr1,hr2⟩:=hr
  have hg:F2 g:=(hr2 g).2 rfl
  have hne:t≠g:=fun e=>hap t ((h2 t).2 rfl) (e ▸ hg)
  have hc:w.cell? ⟨t,3,none⟩=some (.slice (some ⟨g,0,none⟩) l.length cap)/\w.frozen? ⟨t,3,none⟩=false:=gj h1 rfl rfl rfl
  have hW:HW t 3 g cap 0 l w:=⟨hc.1,hr1,hne,lt_of_some h1⟩
  refine (Pc t 3 g cap 0 n l w hW hl hp hi hm hc.2).mono ?_
  rintro e' w' ⟨rfl,l',w1,g1,g2,g3,g4,g5,g6,rfl⟩
  have h1':w1.heap[t]?=some (.cells ⟨[a,b,c,.slice (some ⟨g,0,none⟩) l.length cap,e]⟩ T (0,0)):=(g6.block t (lt_of_some h1) (fun e=>hne e)).trans h1
  have hks:Keeps (·=t) w1 (w1.setCell ⟨t,3,none⟩ (.slice (some ⟨g,0,none⟩) n cap)):=(Keeps.refl (·=t) w1).setCell (p:=⟨t,3,none⟩) (.inr rfl) _
  refine⟨_,_,rfl,⟨rfl,l',g1,g2,g3,g4,rfl⟩,F,FT.2 ⟨F1,F2,⟨xU h1',h2⟩,⟨hks.ownsRow g5 (fun k hk e=>?_),fun k=>?_⟩,hap,hF⟩,⟨?_,fun _ h=>.inl h⟩⟩
  ·cases hk;exact hne e.symm
  ·rw [hr2 k];simp [Value.ownBlock]
  exact (g6.mono (S':=F) (fun k _ e=>(hF k).2 (.inr (e ▸ hg)))).trans (hks.mono (fun k _ e=>(hF k).2 (.inl ((h2 k).2 e))))
theorem R4 {β:Bs} {T:TypeId} {a b c e:Value} {t cap:Nat} {A:Option Addr} {l:List Int} (x:Int) (hp:Hp l.length l) (hm:l.length+1<=1048576) :
    Spec Tryz.prog β 209 #[.iface 316 (.pointer (some ⟨t,3,none⟩)),.iface 3 (.int .i64 x)] [.blk t [a,b,c,.slice A l.length cap,e] T,.abs (aK 3 1 A l.length cap (ints l))]
      (fun v r=>v=.tuple #[]/\∃ (g c':Nat) (l':List Int),Same (l++[x]) l'/\Hp l'.length l'/\r=[.blk t [a,b,c,.slice (some ⟨g,0,none⟩) l'.length c',e] T,.abs (aK 3 1 (some ⟨g,0,none⟩) l'.length c' (ints l'))]):=by
  refine Spec.Wl (fun F w h=>?_)
  obtain⟨F1,F2,⟨h1,h2⟩,hr,hap,hF⟩:=FT.1 h
  have hr:(aK 3 1 A l.length cap (ints l)).h F2 w:=hr
  obtain⟨hr1,hr2⟩:=hr
  have hc:w.cell? ⟨t,3,none⟩=some (.slice A l.length cap)/\w.frozen? ⟨t,3,none⟩=false:=gj h1 rfl rfl rfl
  have hne:(Value.slice A l.length cap).ownBlock≠some t:=fun e=>hap t ((h2 t).2 rfl) ((hr2 t).2 e)
  refine (MH t 3 0 (.slice A l.length cap) l x w hc.1 hc.2 hr1 hne hm (Nat.zero_le _) hp (lt_of_some h1)).mono ?_
  rintro e' w' ⟨rfl,g,c',l',g1,g2,g3,g4,w1,g5,g6⟩
  have JJ:t≠g:=g3.ne
  have hlen:l'.length=l.length+1:=by have:=g1.len;simp at this;omega
  have h1':w1.heap[t]?=some (.cells ⟨[a,b,c,.slice A l.length cap,e]⟩ T (0,0)):=(g5.block t (lt_of_some h1) hne).trans h1
  have TD:=xU (j:=3) (u:=.slice (some ⟨g,0,none⟩) (l.length+1) c') h1'
  have Xr:w'.heap[t]?=some (.cells ⟨[a,b,c,.slice (some ⟨g,0,none⟩) l'.length c',e]⟩ T (0,0)):=by
    rw [hlen];exact (g6.block t (lt_of_some TD) JJ).trans TD
  have hks:Keeps (·=t) w1 (w1.setCell ⟨t,3,none⟩ (.slice (some ⟨g,0,none⟩) (l.length+1) c')):=(Keeps.refl (·=t) w1).setCell (p:=⟨t,3,none⟩) (.inr rfl) _
  refine⟨_,_,rfl,⟨rfl,g,c',l',g1,g2,rfl⟩,fun k=>F1 k\/k=g,FT.2 ⟨F1,fun k=>k=g,⟨Xr,h2⟩,⟨g3.own,fun k=>?_⟩,fun k hk e=>JJ (((h2 k).1 hk).symm.trans e),fun k=>Iff.rfl⟩,⟨?_,fun k hk=>?_⟩⟩
  ·simp [Value.ownBlock,eq_comm]
  ·have k1:Keeps F w w1:=g5.mono (fun k _ hk=>(hF k).2 (.inr ((hr2 k).2 hk)))
   have k2:Keeps F w (w1.setCell ⟨t,3,none⟩ (.slice (some ⟨g,0,none⟩) (l.length+1) c')):=k1.trans (hks.mono (fun k _ e=>(hF k).2 (.inl ((h2 k).2 e))))
   exact k2.andThen g6 (fun i hi e=>by
     rcases g4 with g4|g4
     ·exact (hF i).2 (.inr ((hr2 i).2 (e ▸ g4)))
     subst e;omega)
  rcases hk with hk|rfl
  ·exact .inl ((hF k).2 (.inl hk))
  rcases g4 with g4|g4
  ·exact .inl ((hF _).2 (.inr ((hr2 _).2 g4)))
  exact .inr g4
structure jv (next:Int) (l:List Int) (us:Used Value) (most aD:Int):Prop where
  ti:TI next l us
  wR:(us.length:Int)<=most
  wS:most<=1024
  wT:next<=most+1
  CC:next<=aD+1
  zV:0<=aD/\aD<=1024
theorem jv.MI {next:Int} {l:List Int} {us:Used Value} {most aD:Int} (h:jv next l us most aD):1<=aE.least us/\aE.least us<=next/\aE.least us∉keys us/\next<=1025/\1<=next/\us.length<=1024/\l.length<=1024:=by
  obtain⟨h1,h2,h3⟩:=nM (keys us) 1 h.ti.rise (fun x hx=>(h.ti.pos x hx).1)
  have hc:=h.ti.count
  have m0:=h.wR
  have m1:=h.wS
  have n1:=h.wT
  refine⟨h1,?_,h2,by omega,by omega,by omega,by omega⟩
  rcases Int.lt_or_le next (aE.least us) with h4|h4
  ·have:=h3 next (by omega) h4
   have:=(h.ti.pos _ this).2
   omega
  exact h4
theorem GH:bE []=fun _=>none:=by
  funext x
  unfold bE
  split<;>rfl
theorem ES {us:Used Value} {h:Int} (hn:h∉keys us):bE us (.int .i64 h)=none:=get_none.2 hn
structure TX where
  m:Nat
  A:Option Addr
  c:Nat
  l:List Int
  next:Int
def oC (TT:TypeId) (t:Nat) (most aD:Int) (us:Used Value) (x:TX):List HP:=
  [.blk t [.int .i64 most,.int .i64 aD,.map (some x.m),.slice x.A x.l.length x.c,.int .i64 x.next] TT,.abs (aN Tryz.prog 3 x.m (bE us) us.length),.abs (aK 3 1 x.A x.l.length x.c (ints x.l))]
def dV (TT:TypeId) (t:Nat) (most aD:Int) (us:Used Value):bV where
  h F w:=∃ x:TX,jv x.next x.l us most aD/\(fC (oC TT t most aD us x)).h F w
  lt:=fun ⟨_,_,h⟩ k hk=>bV.lt _ h k hk
  st:=fun ⟨x,h1,h⟩ _ _ hk hn=>⟨x,h1,bV.st _ h hk hn⟩
theorem Sat.vJ {β:Bs} {TT:TypeId} {t:Nat} {most aD:Int} {us:Used Value} {l:List HP} {w:World} (h:Sat β (l++[.abs (dV TT t most aD us)]) w):∃ x:TX,jv x.next x.l us most aD/\Sat β (l++oC TT t most aD us x) w:=
  h.VB (fun _ h=>h)
theorem Sat.oF {β:Bs} {TT:TypeId} {t:Nat} {most aD:Int} {us:Used Value} {l:List HP} {w:World} (x:TX) (hx:jv x.next x.l us most aD) (h:Sat β (l++oC TT t most aD us x) w):Sat β (l++[.abs (dV TT t most aD us)]) w:=
  h.TA (fun _ h=>⟨x,hx,h⟩)
end
section
open Go.RowKit Go.Maps Go.Sort Go.Shelf bC aE
theorem iK {z:Int} (h:(Lit.int .i64 z).wf=true):keyOf Tryz.prog 3 (.int .i64 z)=some (.int .i64 z):=
  keyOf_int_mk Tryz.underlying3 h
theorem ET:∀ {l m:List Int},l.Pairwise (· < ·)->m.Pairwise (· < ·)->(∀ z,z∈l↔z∈m)->l=m
  | [],[],_,_,_=>rfl
  | [],b::m,_,_,h=>by have:=(h b).2 (List.mem_cons_self ..);cases this
  | a::l,[],_,_,h=>by have:=(h a).1 (List.mem_cons_self ..);cases this
  | a::l,b::m,hl,hm,h=>by
    have hl':=List.pairwise_cons.1 hl
    have hm':=List.pairwise_cons.1 hm
    have e:a=b:=by
      rcases List.mem_cons.1 ((h a).1 (List.mem_cons_self ..)) with e|e
      ·exact e
      rcases List.mem_cons.1 ((h b).2 (List.mem_cons_self ..)) with e2|e2
      ·exact e2.symm
      have:=hm'.1 a e;have:=hl'.1 b e2;omega
    subst e
    congr 1
    refine ET hl'.2 hm'.2 (fun z=>⟨fun hz=>?_,fun hz=>?_⟩)
    ·rcases List.mem_cons.1 ((h z).1 (List.mem_cons_of_mem _ hz)) with e|e
     ·have:=hl'.1 z hz;omega
     exact e
    rcases List.mem_cons.1 ((h z).2 (List.mem_cons_of_mem _ hz)) with e|e
    ·have:=hm'.1 z hz;omega
    exact e
theorem KG (x y:Int):(if y > x then y else x)=max x y:=by
  rw [Int.max_def];split<;>split<;>omega
theorem QV (x y:Int):(if y < x then y else x)=min x y:=by
  rw [Int.min_def];split<;>split<;>omega
theorem MJ (m:Nat):AnyZI.SortsIn Tryz.prog Tryz.sortedI_ren Fence.wide m:=
  ⟨fun blk off cap ss W hH hblk hsz=>callsIn_wide.2 (AnyM.slices_Sort_int Tryz.sortI blk off cap ss W hH hblk hsz),
   fun p cap W=>callsIn_wide.2 (AnyM.slices_Sort_int_none Tryz.sortI p cap W)⟩
def CD (bk:Nat):Value:=.func (.func 79) #[] #[.pointer (some ⟨bk,0,none⟩)]
theorem Pj {β:Bs} (mb:Option Nat):Spec Tryz.prog β 57 #[.map mb] [] (fun v l=>∃ bk,v=CD bk/\l=[.blk bk [.map mb] 151]):=
  Spec.Cb fun W _=>by
    have h:CallsIn Fence.wide 5 Tryz.prog 57 #[.map mb] W fun e w'=>e=.returned (CD W.heap.size)/\w'=W.alloc (.cells #[.map mb] 151):=AnyZI.keys_in Tryz.keysI Fence.wide 5 trivial rfl mb W
    refine ((callsIn_wide (n:=5)).1 h).mono ?_
    rintro e w' ⟨rfl,rfl⟩
    refine⟨_,_,rfl,⟨W.heap.size,rfl,rfl⟩,(Keeps.refl _ _).alloc _,fun k=>k=W.heap.size,⟨?_,fun k=>Iff.rfl⟩,fun k hk=>Nat.le_of_eq hk.symm⟩
    show (W.heap.push _)[W.heap.size]?=_
    simp
structure KeysOf (f:Lit->Option Value) (ss:List Int):Prop where
  mem:∀ z,z∈ss↔(f (.int .i64 z)).isSome=true
  sorted:ss.Pairwise (· < ·)
theorem CG {w:World} {b n:Nat} {K:TypeId} {f:Lit->Option Value} {D:DataW Value} (hK:Tryz.prog.underlying K=some (.int .i64)) (L:Keyed Tryz.prog K) (hown:w.ownsMap Tryz.prog K sJ b n D) (hf:∀ kl,Maps.has D kl=(f kl).isSome) {ss:List Int} (hp:ss.Perm (intKeys D)) :
    KeysOf f (ss.mergeSort (fun x y=>decide (x<=y))):=by
  obtain⟨es,hD,hpw,_⟩:=hown.entries L
  obtain⟨es',hD',hko⟩:=hown.keysOf
  obtain rfl:es=es':=by rw [hD] at hD';simpa using hD'
  have hk:∀ p∈es,∃ x,p.1=.int .i64 x:=fun p hp=>by
    obtain⟨v,hv⟩:=hko p hp
    obtain⟨x,_,h,_⟩:=keyOf_i64 hK hv
    exact⟨x,h⟩
  have hmem:∀ z,z∈intKeys D↔(f (.int .i64 z)).isSome=true:=fun z=>by
    rw [← hf,hD]
    show z∈es.map (fun p=>Go.intOf p.1)↔es.any (fun p=>p.1.sameKey (.int .i64 z))=true
    rw [List.mem_map,List.any_eq_true]
    refine⟨fun ⟨p,hp,e⟩=>⟨p,hp,?_⟩,fun ⟨p,hp,e⟩=>⟨p,hp,?_⟩⟩
    ·obtain⟨x,hx⟩:=hk p hp
     rw [hx] at e ⊢
     have e:x=z:=e
     simp [Lit.sameKey,e]
    obtain⟨x,hx⟩:=hk p hp
    rw [hx] at e ⊢
    show x=z
    simpa [Lit.sameKey] using e
  have hnd:(intKeys D).Nodup:=by
    rw [hD]
    show (es.map fun p=>Go.intOf p.1).Nodup
    rw [List.nodup_iff_pairwise_ne,List.pairwise_map]
    refine hpw.imp_of_mem (fun {p q} hp hq hne e=>hne ?_)
    obtain⟨x,hx⟩:=hk p hp
    obtain⟨y,hy⟩:=hk q hq
    rw [hx,hy] at e ⊢
    have e:x=y:=e
    rw [e]
  have tr:∀ a b c:Int,decide (a<=b)=true->decide (b<=c)=true->decide (a<=c)=true:=fun a b c h1 h2=>by simp only [decide_eq_true_eq] at *;omega
  have to:∀ a b:Int,(decide (a<=b) || decide (b<=a))=true:=fun a b=>by simp only [Bool.or_eq_true,decide_eq_true_eq];omega
  have hperm:=(List.mergeSort_perm ss (fun x y=>decide (x<=y))).trans hp
  refine⟨fun z=>by rw [hperm.mem_iff,hmem],?_⟩
  have h1:=List.pairwise_mergeSort tr to ss
  have h2:(ss.mergeSort (fun x y=>decide (x<=y))).Nodup:=hperm.nodup_iff.2 hnd
  rw [List.nodup_iff_pairwise_ne] at h2
  refine (h1.and h2).imp (fun {a b} h=>?_)
  have h3:=h.1
  have h4:=h.2
  simp only [decide_eq_true_eq] at h3
  omega
theorem KH {β:Bs} (b bk n:Nat) (f:Lit->Option Value) (hn:n<=16777216) :
    Spec Tryz.prog β 37 #[CD bk] [.abs (aN Tryz.prog 3 b f n),.blk bk [.map (some b)] 151] (fun v l=>∃ A cap ss,v=.slice A ss.length cap/\KeysOf f ss/\ss.length=n ∧
      l=[.abs (aN Tryz.prog 3 b f n),.blk bk [.map (some b)] 151,.abs (aK 3 1 A ss.length cap (ints ss))]):=by
  intro R w hS
  obtain⟨F1,h1⟩:=hS.get (i:=0) (p:=.abs (aN Tryz.prog 3 b f n)) rfl
  obtain⟨F2,h2⟩:=hS.get (i:=1) (p:=.blk bk [.map (some b)] 151) rfl
  obtain⟨D,hown,hsz,hhas,_⟩:=h1.1
  have hcell:w.cell? ⟨bk,0,none⟩=some (.map (some b)):=(gj h2.1 rfl rfl rfl).1
  have hseq:SeqGives Fence.wide 2 Tryz.prog 79 #[.pointer (some ⟨bk,0,none⟩)] encZ (fun ss=>ss.Perm (intKeys D)) (Maps.size D) w:=
    AnyZI.keys_gives (ρ:=Tryz.keysI_ren) { Tryz.keysI with } Fence.wide _ trivial rfl (by omega) bk b n D w (lt_of_some h2.1) hcell hown
  have cS:=AnyZI.sorted_in Tryz.sortedI Fence.wide 5 trivial trivial trivial trivial rfl (by omega) (MJ _) (enters_of Tryz.func62 (by kernel_rfl) rfl) 79 #[.pointer (some ⟨bk,0,none⟩)] trivial (enters_of Tryz.func79 (by kernel_rfl) rfl) _ _ (by rw [hsz];unfold maxLen;omega) (by rw [hsz];omega) _ hseq
  change CallsIn _ _ Tryz.prog 37 _ _ _ at cS
  refine ((callsIn_wide (n:=5)).1 cS).mono ?_
  rintro e w' ⟨v,ss,rfl,hp,hrow,hnil,hb⟩
  have hlen:(ss.mergeSort (fun x y=>decide (x<=y))).length=ss.length:=List.length_mergeSort ss
  have hkeys:=CG Tryz.underlying3 dG hown hhas hp
  have tH:∃ A cap,v=.slice A ss.length cap:=by
    rcases hrow.2 with ⟨e1,e2⟩|⟨g,cp,cur,e1,_⟩
    ·exact⟨none,0,by rw [e1,e2]⟩
    exact⟨_,cp,e1⟩
  obtain⟨A,cap,rfl⟩:=tH
  have hn1:ss.length=n:=by
    rw [hp.length_eq,← hsz]
    obtain⟨es,hD,_⟩:=hown.entries dG
    rw [hD]
    exact List.length_map ..
  have hq:Sat β ([.abs (aN Tryz.prog 3 b f n),.blk bk [.map (some b)] 151,.abs R]++[.abs (aK 3 1 A ss.length cap (ints (ss.mergeSort (fun x y=>decide (x<=y)))))]) w':=by
    refine Sat.new (F:=fun k=>(Value.slice A ss.length cap).ownBlock=some k) hS ⟨?_,fun k=>Iff.rfl⟩ ⟨hb.os,hb.tape,hb.output,hb.size,fun k hk _=>hb.block k hk⟩ (fun k hk=>(hrow.lt k hk).1)
    refine⟨hrow.1,?_⟩
    rcases hrow.2 with h|⟨g,cp,cur,e1,_,h3,h4⟩
    ·exact .inl h
    exact .inr ⟨g,cp,cur,e1,Nat.zero_le _,h3,h4⟩
  refine⟨_,[.abs (aN Tryz.prog 3 b f n),.blk bk [.map (some b)] 151,.abs (aK 3 1 A ss.length cap (ints (ss.mergeSort (fun x y=>decide (x<=y)))))],rfl,⟨A,cap,ss.mergeSort (fun x y=>decide (x<=y)),by rw [hlen],hkeys,by rw [hlen];exact hn1,by rw [hlen]⟩,?_⟩
  exact hq.pick (idx:=[0,1,3,2]) rfl rfl
end
section
open Go.RowKit bC aE Go.Maps
attribute [local irreducible] ak aW af aj
theorem R5 {us:Used Value} {ss:List Int} (hr:aE.cq (keys us)) (h:KeysOf (bE us) ss):ss=keys us:=by
  refine ET h.sorted hr (fun z=>?_)
  rw [h.mem]
  show (aE.get us z).isSome=true↔z∈keys us
  refine⟨fun h=>?_,fun h=>?_⟩
  ·obtain⟨x,hx⟩:=Option.isSome_iff_exists.1 h;exact get_some hx
  cases hg:aE.get us z with
  | some x=>rfl
  | none=>exact absurd h (get_none.1 hg)
theorem GI {β:Bs} (most:Int) :
    Spec Tryz.prog β 77 #[vI (most)] [] (fun v l=>∃ t,v=vP t/\l=[.abs (dV 212 t (min (max most 0) 1024) 0 [])]):=by
 refine Spec.enter Tryz.func77 rfl Tryz.ntmps77 (Nat.le_of_ble_eq_true rfl) (fun R=>?_)
 refine SR (gK 1 [] [] ?_)
 refine NS (gK 3 [(5,vI (min (max most 0) 1024))] [(1,p_ ⟨[],none,none,none,some (vI (max most 0))⟩ [(Value.int .i64 (if 0 > most then 0 else most))=(.int .i64 (max most 0))] ⟨congrArg (Value.int .i64) (KG _ _),trivial⟩),(2,p_ ⟨[],none,none,none,some (vI (min (max most 0) 1024))⟩ [(Value.int .i64 (if 1024 < max most 0 then 1024 else max most 0))=(.int .i64 (min (max most 0) 1024))] ⟨congrArg (Value.int .i64) (QV _ _),trivial⟩)] ?_)
 refine ak.kV (d:=(some 6)) (t:=151) (fun _=>by kernel_rfl) Tryz.prog rfl 3 (fun m1=>?_)
 refine gN 3 (fun b2=>[(2,vP b2)]) (fun _=>[]) (fun _=>[]) (fun b2=>.blk b2 [vI (min (max most 0) 1024),vI 0,.map (some m1),.slice none (0) (0),vI 1] 212) (fun b2=>?_)
 refine NN (af.ret (aj.mem (dw:=[.abs R,.abs (aN Tryz.prog 3 m1 (fun _=>none) 0),.blk b2 [vI (min (max most 0) 1024),vI 0,.map (some m1),.slice none (0) (0),vI 1] 212,.abs (aK 3 1 none 0 0 ([]))]) (fun w hS=>hS.mF (e:=3) (size:=1)) ?_))
 refine aj.mem (dw:=[.abs R,.abs (dV 212 b2 (min (max most 0) 1024) 0 [])]) (fun w hS=>Sat.oF (l:=[.abs R]) ⟨m1,none,0,[],1⟩ ⟨TI.empty,by show ((0:Nat):Int)<=min (max most 0) 1024;omega,by omega,by show (1:Int)<=min (max most 0) 1024+1;omega,by show (1:Int)<=0+1;decide,by decide⟩ (by rw [← GH] at hS;exact hS.pick (idx:=[0,2,1,3]) (l':=[.abs R]++oC 212 b2 (min (max most 0) 1024) 0 [] ⟨m1,none,0,[],1⟩) rfl rfl)) ?_
 exact RT (vP b2) [1,0] (⟨b2,rfl,rfl⟩)
theorem tO {β:Bs} (t:Nat) (most aD:Int) (us:Used Value) (h:Int) (hw:(Lit.int .i64 h).wf=true) (x:Value) (hg:aE.get us h=some x) :
    Spec Tryz.prog β 198 #[vP t,vI (h)] [.abs (dV 212 t most aD us)] (fun v l=>v=.tuple #[x,vI 0]/\l=[.abs (dV 212 t most aD us)]):=by
 refine Spec.enter Tryz.func198 rfl Tryz.ntmps198 (Nat.le_of_ble_eq_true rfl) (fun R=>?_)
 refine af.seq (af.GF (Φ:=fun x:TX=>jv x.next x.l us most aD) (hp:=fun x=>[.abs R]++oC 212 t most aD us x) (fun w hS=>(hS.pick (idx:=[1,0]) (l':=[.abs R]++[.abs (dV 212 t most aD us)]) rfl rfl).vJ) (fun x hT=>?_))
 obtain⟨m,A,c,l,next⟩:=x
 replace hT:jv next l us most aD:=hT
 have hb:=hT.MI
 have hm0:=hT.wR
 have hm1:=hT.wS
 have hn1:=hT.wT
 have hn2:=hT.CC
 have MK:=hT.zV
 have hct:=hT.ti.count
 show af _ _ _ _ _ [.abs R,.blk t [vI (most),vI (aD),.map (some m),.slice A (l.length) (c),vI (next)] 212,.abs (aN Tryz.prog 3 m (bE us) us.length),.abs (aK 3 1 A l.length c (ints l))] _
 refine af.region (gK 2 [] [] ?_)
 refine NS (gK 5 [(12,.map (some m)),(13,vI (h))] [(3,a_ 1 t)] ?_)
 refine ak.oZ 2 (d:=(some 14)) (t:=151) (K:=3) (E:=156) (b:=m) (n:=us.length) (f:=(bE us)) (x:=(.tmp 12)) (ix:=(.tmp 13)) (key:=.int .i64 (h)) (z:=.nilIface) (kl:=(.int .i64 h)) (r:=(some x)) (fun _=>by kernel_rfl) (by kernel_rfl) (fun _=>by kernel_rfl) (fun _=>by kernel_rfl) dG Tryz.underlying151 (fun _=>by kernel_rfl) (iK hw) (hg) ?_
 refine gK 5 [(6,x),(7,.bool true)] [] ?_
 refine NN (af.seq (SR (gK 2 [(18,.bool false)] [] ?_)))
 refine NN (CF (af.skip (NX (SR (gK 3 [(4,x),(5,vI 0)] [] ?_)))))
 refine NN (af.ret (aj.mem (dw:=[.abs R,.abs (dV 212 t most aD us)]) (fun w hS=>Sat.oF (l:=[.abs R]) ⟨m,A,c,l,next⟩ (show jv (next) l (us) most (aD) from hT) (hS.pick (idx:=[0,1,2,3]) (l':=[.abs R]++oC 212 t most (aD) (us) ⟨m,A,c,l,next⟩) rfl rfl)) ?_))
 exact RT (.tuple #[x,vI 0]) [1,0] (⟨rfl,rfl⟩)
theorem yK {β:Bs} (t:Nat) (most aD:Int) (us:Used Value) (h:Int) (hw:(Lit.int .i64 h).wf=true) (hg:aE.get us h=none) :
    Spec Tryz.prog β 198 #[vP t,vI (h)] [.abs (dV 212 t most aD us)] (fun v l=>v=.tuple #[.nilIface,vI 131]/\l=[.abs (dV 212 t most aD us)]):=by
 refine Spec.enter Tryz.func198 rfl Tryz.ntmps198 (Nat.le_of_ble_eq_true rfl) (fun R=>?_)
 refine af.seq (af.GF (Φ:=fun x:TX=>jv x.next x.l us most aD) (hp:=fun x=>[.abs R]++oC 212 t most aD us x) (fun w hS=>(hS.pick (idx:=[1,0]) (l':=[.abs R]++[.abs (dV 212 t most aD us)]) rfl rfl).vJ) (fun x hT=>?_))
 obtain⟨m,A,c,l,next⟩:=x
 replace hT:jv next l us most aD:=hT
 have hb:=hT.MI
 have hm0:=hT.wR
 have hm1:=hT.wS
 have hn1:=hT.wT
 have hn2:=hT.CC
 have MK:=hT.zV
 have hct:=hT.ti.count
 show af _ _ _ _ _ [.abs R,.blk t [vI (most),vI (aD),.map (some m),.slice A (l.length) (c),vI (next)] 212,.abs (aN Tryz.prog 3 m (bE us) us.length),.abs (aK 3 1 A l.length c (ints l))] _
 refine af.region (gK 2 [] [] ?_)
 refine NS (gK 5 [(12,.map (some m)),(13,vI (h))] [(3,a_ 1 t)] ?_)
 refine ak.oZ 2 (d:=(some 14)) (t:=151) (K:=3) (E:=156) (b:=m) (n:=us.length) (f:=(bE us)) (x:=(.tmp 12)) (ix:=(.tmp 13)) (key:=.int .i64 (h)) (z:=.nilIface) (kl:=(.int .i64 h)) (r:=none) (fun _=>by kernel_rfl) (by kernel_rfl) (fun _=>by kernel_rfl) (fun _=>by kernel_rfl) dG Tryz.underlying151 (fun _=>by kernel_rfl) (iK hw) (hg) ?_
 refine gK 5 [(6,.nilIface),(7,.bool false)] [] ?_
 refine NN (af.seq (SR (gK 2 [(18,.bool true)] [] ?_)))
 refine NN (CT (SR (gK 3 [(4,.nilIface),(5,vI 131)] [] ?_)))
 refine NN (af.ret (aj.aq (aj.mem (dw:=[.abs R,.abs (dV 212 t most aD us)]) (fun w hS=>Sat.oF (l:=[.abs R]) ⟨m,A,c,l,next⟩ (show jv (next) l (us) most (aD) from hT) (hS.pick (idx:=[0,1,2,3]) (l':=[.abs R]++oC 212 t most (aD) (us) ⟨m,A,c,l,next⟩) rfl rfl)) ?_)))
 exact RT (.tuple #[.nilIface,vI 131]) [1,0] (⟨rfl,rfl⟩)
theorem yL {β:Bs} (t:Nat) (most aD:Int) (us:Used Value) (x:Value) (hf:most<=(us.length:Int)) :
    Spec Tryz.prog β 205 #[vP t,x] [.abs (dV 212 t most aD us)] (fun v l=>v=.tuple #[vI 0,vI 130]/\l=[.abs (dV 212 t most aD us)]):=by
 refine Spec.enter Tryz.func205 rfl Tryz.ntmps205 (Nat.le_of_ble_eq_true rfl) (fun R=>?_)
 refine af.seq (af.GF (Φ:=fun x:TX=>jv x.next x.l us most aD) (hp:=fun x=>[.abs R]++oC 212 t most aD us x) (fun w hS=>(hS.pick (idx:=[1,0]) (l':=[.abs R]++[.abs (dV 212 t most aD us)]) rfl rfl).vJ) (fun x hT=>?_))
 obtain⟨m,A,c,l,next⟩:=x
 replace hT:jv next l us most aD:=hT
 have hb:=hT.MI
 have hm0:=hT.wR
 have hm1:=hT.wS
 have hn1:=hT.wT
 have hn2:=hT.CC
 have MK:=hT.zV
 have hct:=hT.ti.count
 show af _ _ _ _ _ [.abs R,.blk t [vI (most),vI (aD),.map (some m),.slice A (l.length) (c),vI (next)] 212,.abs (aN Tryz.prog 3 m (bE us) us.length),.abs (aK 3 1 A l.length c (ints l))] _
 refine af.region (gK 2 [] [] ?_)
 refine NN (af.seq (af.seq (af.eP (by kernel_rfl) (by kernel_rfl) ?_)))
 refine gQ 4 [(10,.map (some m))] [(3,a_ 1 t)] ?_
 refine aW.vD 2 (d:=(some 11)) (t:=151) (K:=3) (E:=156) (b:=m) (n:=us.length) (f:=(bE us)) (x:=(.tmp 10)) (ats:=#[151]) (fun _=>by kernel_rfl) (by kernel_rfl) (fun _=>by kernel_rfl) rfl Tryz.underlying151 ?_
 refine gQ 5 [(16,.bool (decide ((((us.length:Nat):Int):Int) ≥ (most:Int))))] [(3,a_ 1 t)] ?_
 refine NQ (NX ?_)
 refine af.aV (p:=(((us.length:Nat):Int):Int) ≥ (most:Int)) (fun _=>by kernel_rfl) (fun vK=>?_) (fun vK=>?_)
 ·refine SR (gK 2 [(4,vI 0),(5,vI 130)] [] ?_)
  refine NN (af.ret (aj.aq (aj.mem (dw:=[.abs R,.abs (dV 212 t most aD us)]) (fun w hS=>Sat.oF (l:=[.abs R]) ⟨m,A,c,l,next⟩ (show jv (next) l (us) most (aD) from hT) (hS.pick (idx:=[0,1,2,3]) (l':=[.abs R]++oC 212 t most (aD) (us) ⟨m,A,c,l,next⟩) rfl rfl)) ?_)))
  exact RT (.tuple #[vI 0,vI 130]) [1,0] (⟨rfl,rfl⟩)
 exact absurd vK (by omega)
theorem BF {β:Bs} (t:Nat) (most aD:Int) (us:Used Value) (x:Value) (hf:(us.length:Int) < most) :
    Spec Tryz.prog β 205 #[vP t,x] [.abs (dV 212 t most aD us)] (fun v l=>v=.tuple #[vI (least us),vI 0]/\l=[.abs (dV 212 t most (max aD ((us.length:Int)+1)) (ins (least us) x us))]):=by
 refine Spec.enter Tryz.func205 rfl Tryz.ntmps205 (Nat.le_of_ble_eq_true rfl) (fun R=>?_)
 refine af.seq (af.GF (Φ:=fun x:TX=>jv x.next x.l us most aD) (hp:=fun x=>[.abs R]++oC 212 t most aD us x) (fun w hS=>(hS.pick (idx:=[1,0]) (l':=[.abs R]++[.abs (dV 212 t most aD us)]) rfl rfl).vJ) (fun x hT=>?_))
 obtain⟨m,A,c,l,next⟩:=x
 replace hT:jv next l us most aD:=hT
 have hb:=hT.MI
 have hm0:=hT.wR
 have hm1:=hT.wS
 have hn1:=hT.wT
 have hn2:=hT.CC
 have MK:=hT.zV
 have hct:=hT.ti.count
 show af _ _ _ _ _ [.abs R,.blk t [vI (most),vI (aD),.map (some m),.slice A (l.length) (c),vI (next)] 212,.abs (aN Tryz.prog 3 m (bE us) us.length),.abs (aK 3 1 A l.length c (ints l))] _
 refine af.region (gK 2 [] [] ?_)
 refine NN (af.seq (af.seq (af.eP (by kernel_rfl) (by kernel_rfl) ?_)))
 refine gQ 4 [(10,.map (some m))] [(3,a_ 1 t)] ?_
 refine aW.vD 2 (d:=(some 11)) (t:=151) (K:=3) (E:=156) (b:=m) (n:=us.length) (f:=(bE us)) (x:=(.tmp 10)) (ats:=#[151]) (fun _=>by kernel_rfl) (by kernel_rfl) (fun _=>by kernel_rfl) rfl Tryz.underlying151 ?_
 refine gQ 5 [(16,.bool (decide ((((us.length:Nat):Int):Int) ≥ (most:Int))))] [(3,a_ 1 t)] ?_
 refine NQ (NX ?_)
 refine af.aV (p:=(((us.length:Nat):Int):Int) ≥ (most:Int)) (fun _=>by kernel_rfl) (fun vK=>?_) (fun vK=>?_)
 ·exact absurd vK (by omega)
 refine af.skip (NX (SR (gK 5 [(6,vI (next))] [(3,a_ 1 t)] ?_)))
 refine NN (af.seq (SR (gK 6 [(26,.bool (decide ((((l.length:Nat):Int):Int) > (0:Int))))] [(3,a_ 1 t)] ?_)))
 refine NN (af.aV (p:=(((l.length:Nat):Int):Int) > (0:Int)) (fun _=>by kernel_rfl) (fun pX=>?_) (fun pX=>?_))
 ·refine af.region ?_
  obtain⟨n,hn⟩:∃ n,l.length=n+1:=⟨l.length - 1,by omega⟩
  refine ak.tell (p:=∃ g,A=some ⟨g,0,none⟩) (fun w hS=>let ⟨F,h⟩:=hS.get (i:=3) rfl;aK.head h (by omega)) (fun ⟨g,hg⟩=>?_)
  subst hg
  refine gK 4 [(31,.iface 316 (.pointer (some ⟨t,3,none⟩)))] [] ?_
  refine gL (f:=211) (args:=#[.iface 316 (.pointer (some ⟨t,3,none⟩))]) (pre:=[.blk t [vI (most),vI (aD),.map (some m),.slice (some ⟨g,0,none⟩) (l.length) (c),vI (next)] 212,.abs (aK 3 1 (some ⟨g,0,none⟩) l.length c (ints l))]) [1,3] (TB hn (by have:=hT.ti.heap;rwa [hn] at this) hT.ti.inj (by omega)) ?_
  rintro _ _ ⟨rfl,l2,rfl,hp2,hi2,hm2,rfl⟩
  refine gK 5 [(6,vI ((at_ l 0)))] [] ?_
  refine NS (ak.slot 6 (.int .i64 ((at_ l 0))) (.int .i64 ((least us))) (fun _=>by kernel_rfl) (by rw [hT.ti.CB (by omega)]) ?_)
  refine gK 6 [(46,.map (some m)),(47,vI ((least us))),(48,x)] [(3,a_ 0 t)] ?_
  refine ak.kH 3 (d:=none) (t:=151) (K:=3) (E:=156) (b:=m) (n:=us.length) (f:=(bE us)) (x:=(.tmp 46)) (ix:=(.tmp 47)) (y:=(.tmp 48)) (key:=.int .i64 ((least us))) (u:=x) (kl:=(.int .i64 (least us))) (n':=(us.length+1)) (f':=(bE (ins (least us) x us))) (fun _=>by kernel_rfl) (by kernel_rfl) (fun _=>by kernel_rfl) (fun _=>by kernel_rfl) (fun _=>by kernel_rfl) dG Tryz.underlying151 (by unfold maxLen;omega) (kQ (by omega) (by omega)) (by rw [ES hb.2.2.1];rfl) (D3 hb.2.2.1 x) ?_
  refine NN (af.seq (af.vm 13 (by kernel_rfl) (by kernel_rfl) ?_))
  refine iX.seg (k':=9) (fr':=[(6,vI ((least us))),(49,vP t),(53,vI (aD)),(57,.map (some m))]) (aZ:=[t=t,t=t]) [o_,o_,o_,o_,⟨[.at 0],none,none,none,none⟩,o_,o_,o_,⟨[.at 0],none,none,none,none⟩] [6,49,53,57] (fun _ _=>by kernel_rfl) ⟨rfl,rfl,trivial⟩ (by decide) ?_
  refine iX.vD 3 (d:=(some 58)) (t:=151) (K:=3) (E:=156) (b:=m) (cnt:=(us.length+1)) (f:=(bE (ins (least us) x us))) (x:=(.tmp 57)) (ats:=#[151]) (fun _=>by kernel_rfl) (by kernel_rfl) (fun _=>by kernel_rfl) rfl Tryz.underlying151 (by decide) ?_
  refine iX.seg (k':=13) (fr':=[(6,vI ((least us))),(59,vI ((max aD ((us.length:Int)+1)))),(61,.pointer (some ⟨t,1,none⟩))]) (aZ:=[(Value.int .i64 (if (((us.length+1):Nat):Int) > aD then (((us.length+1):Nat):Int) else aD))=(.int .i64 ((max aD ((us.length:Int)+1))))]) [⟨[],none,none,none,some (vI ((max aD ((us.length:Int)+1))))⟩,o_,o_] [6,59,61] (fun _ _=>by kernel_rfl) ⟨by rw [KG];rfl,trivial⟩ (by decide) ?_
  refine iX.done rfl ?_
  refine gC 1 [] [(0,a_ 0 t)] [(0,[(1,vI ((max aD ((us.length:Int)+1))))])] ?_
  refine NS (gK 3 [(4,vI ((least us))),(5,vI 0)] [] ?_)
  refine NN (af.ret (aj.eZ [(3,.abs (aN Tryz.prog 3 m (bE (ins (least us) x us)) ((ins (least us) x us).length)))] (fun w hS=>by rw [iw];exact hS) ?_))
  refine aj.mem (dw:=[.abs R,.abs (dV 212 t most (max aD ((us.length:Int)+1)) (ins (least us) x us))]) (fun w hS=>Sat.oF (l:=[.abs R]) ⟨m,some ⟨g,0,none⟩,c,l2,next⟩ (show jv (next) l2 ((ins (least us) x us)) most ((max aD ((us.length:Int)+1))) from ⟨by rw [hT.ti.CB (by omega)];exact hT.ti.Ph (by omega) x (by omega) hp2 hi2 hm2,by rw [iw];omega,by omega,by omega,by omega,by omega⟩) (hS.pick (idx:=[2,0,3,1]) (l':=[.abs R]++oC 212 t most ((max aD ((us.length:Int)+1))) ((ins (least us) x us)) ⟨m,some ⟨g,0,none⟩,c,l2,next⟩) rfl rfl)) ?_
  exact RT (.tuple #[vI ((least us)),vI 0]) [1,0] (⟨rfl,rfl⟩)
 refine af.region ?_
 have hl0:l=[]:=List.eq_nil_of_length_eq_zero (by omega)
 have hl1:l.length=0:=by rw [hl0];rfl
 have hl2:TI next [] us:=hl0 ▸ hT.ti
 refine gC 8 [] [(3,a_ 1 t),(4,wI (next+1) ((next+1))),(7,a_ 1 t)] [(1,[(4,vI ((next+1)))])] ?_
 refine NS (ak.slot 6 (.int .i64 (next)) (.int .i64 ((least us))) (fun _=>by kernel_rfl) (by rw [hl2.CA]) ?_)
 refine gK 6 [(46,.map (some m)),(47,vI ((least us))),(48,x)] [(3,a_ 1 t)] ?_
 refine ak.kH 2 (d:=none) (t:=151) (K:=3) (E:=156) (b:=m) (n:=us.length) (f:=(bE us)) (x:=(.tmp 46)) (ix:=(.tmp 47)) (y:=(.tmp 48)) (key:=.int .i64 ((least us))) (u:=x) (kl:=(.int .i64 (least us))) (n':=(us.length+1)) (f':=(bE (ins (least us) x us))) (fun _=>by kernel_rfl) (by kernel_rfl) (fun _=>by kernel_rfl) (fun _=>by kernel_rfl) (fun _=>by kernel_rfl) dG Tryz.underlying151 (by unfold maxLen;omega) (kQ (by omega) (by omega)) (by rw [ES hb.2.2.1];rfl) (D3 hb.2.2.1 x) ?_
 refine NN (af.seq (af.vm 13 (by kernel_rfl) (by kernel_rfl) ?_))
 refine iX.seg (k':=9) (fr':=[(6,vI ((least us))),(49,vP t),(53,vI (aD)),(57,.map (some m))]) (aZ:=[t=t,t=t]) [o_,o_,o_,o_,⟨[.at 1],none,none,none,none⟩,o_,o_,o_,⟨[.at 1],none,none,none,none⟩] [6,49,53,57] (fun _ _=>by kernel_rfl) ⟨rfl,rfl,trivial⟩ (by decide) ?_
 refine iX.vD 2 (d:=(some 58)) (t:=151) (K:=3) (E:=156) (b:=m) (cnt:=(us.length+1)) (f:=(bE (ins (least us) x us))) (x:=(.tmp 57)) (ats:=#[151]) (fun _=>by kernel_rfl) (by kernel_rfl) (fun _=>by kernel_rfl) rfl Tryz.underlying151 (by decide) ?_
 refine iX.seg (k':=13) (fr':=[(6,vI ((least us))),(59,vI ((max aD ((us.length:Int)+1)))),(61,.pointer (some ⟨t,1,none⟩))]) (aZ:=[(Value.int .i64 (if (((us.length+1):Nat):Int) > aD then (((us.length+1):Nat):Int) else aD))=(.int .i64 ((max aD ((us.length:Int)+1))))]) [⟨[],none,none,none,some (vI ((max aD ((us.length:Int)+1))))⟩,o_,o_] [6,59,61] (fun _ _=>by kernel_rfl) ⟨by rw [KG];rfl,trivial⟩ (by decide) ?_
 refine iX.done rfl ?_
 refine gC 1 [] [(0,a_ 1 t)] [(1,[(1,vI ((max aD ((us.length:Int)+1))))])] ?_
 refine NS (gK 3 [(4,vI ((least us))),(5,vI 0)] [] ?_)
 refine NN (af.ret (aj.eZ [(2,.abs (aN Tryz.prog 3 m (bE (ins (least us) x us)) ((ins (least us) x us).length)))] (fun w hS=>by rw [iw];exact hS) ?_))
 refine aj.mem (dw:=[.abs R,.abs (dV 212 t most (max aD ((us.length:Int)+1)) (ins (least us) x us))]) (fun w hS=>Sat.oF (l:=[.abs R]) ⟨m,A,c,l,(next+1)⟩ (show jv ((next+1)) l ((ins (least us) x us)) most ((max aD ((us.length:Int)+1))) from ⟨by rw [hl2.CA,hl0];exact hl2.Pg x,by rw [iw];omega,by omega,by omega,by omega,by omega⟩) (hS.pick (idx:=[0,1,2,3]) (l':=[.abs R]++oC 212 t most ((max aD ((us.length:Int)+1))) ((ins (least us) x us)) ⟨m,A,c,l,(next+1)⟩) rfl rfl)) ?_
 exact RT (.tuple #[vI ((least us)),vI 0]) [1,0] (⟨rfl,rfl⟩)
theorem EU {β:Bs} (t:Nat) (most aD:Int) (us:Used Value) (h:Int) (hw:(Lit.int .i64 h).wf=true) (x:Value) (hg:aE.get us h=some x) :
    Spec Tryz.prog β 201 #[vP t,vI (h)] [.abs (dV 212 t most aD us)] (fun v l=>v=.tuple #[x,vI 0]/\l=[.abs (dV 212 t most aD (del h us))]):=by
 refine Spec.enter Tryz.func201 rfl Tryz.ntmps201 (Nat.le_of_ble_eq_true rfl) (fun R=>?_)
 refine SR (gK 2 [] [] ?_)
 refine NS (gK 2 [(9,vP t),(10,vI (h))] [] ?_)
 refine gL [0] (tO t most aD us h hw x hg) ?_
 rintro _ _ ⟨rfl,rfl⟩
 refine gK 5 [(6,x),(7,vI 0)] [] ?_
 refine NN (af.seq (SR (gK 2 [(15,.bool true)] [] ?_)))
 refine NN (CT (af.seq (af.GF (Φ:=fun x:TX=>jv x.next x.l us most aD) (hp:=fun x=>[.abs R]++oC 212 t most aD us x) (fun w hS=>(hS.pick (idx:=[1,0]) (l':=[.abs R]++[.abs (dV 212 t most aD us)]) rfl rfl).vJ) (fun x0 hT=>?_))))
 obtain⟨m,A,c,l,next⟩:=x0
 replace hT:jv next l us most aD:=hT
 have hb:=hT.MI
 have hm0:=hT.wR
 have hm1:=hT.wS
 have hn1:=hT.wT
 have hn2:=hT.CC
 have MK:=hT.zV
 have hct:=hT.ti.count
 have hk:=get_some hg
 show af _ _ _ _ _ [.abs R,.blk t [vI (most),vI (aD),.map (some m),.slice A (l.length) (c),vI (next)] 212,.abs (aN Tryz.prog 3 m (bE us) us.length),.abs (aK 3 1 A l.length c (ints l))] _
 refine af.region (gK 5 [(19,.map (some m)),(20,vI (h))] [(3,a_ 1 t)] ?_)
 refine ak.Ce 2 (d:=none) (t:=151) (K:=3) (E:=156) (b:=m) (n:=us.length) (f:=(bE us)) (x:=(.tmp 19)) (ix:=(.tmp 20)) (key:=.int .i64 (h)) (kl:=(.int .i64 h)) (n':=(us.length - 1)) (f':=(bE (del h us))) (ats:=#[151,3]) (fun _=>by kernel_rfl) (by kernel_rfl) (fun _=>by kernel_rfl) (fun _=>by kernel_rfl) rfl dG Tryz.underlying151 (iK hw) (by rw [show bE us (.int .i64 h)=some x from hg];rfl) (JI) ?_
 refine NN (af.region (gK 6 [(24,.iface 316 (.pointer (some ⟨t,3,none⟩))),(26,.iface 3 (.int .i64 (h)))] [] ?_))
 refine gL (f:=209) (args:=#[.iface 316 (.pointer (some ⟨t,3,none⟩)),.iface 3 (.int .i64 (h))]) (pre:=[.blk t [vI (most),vI (aD),.map (some m),.slice A (l.length) (c),vI (next)] 212,.abs (aK 3 1 A l.length c (ints l))]) [1,3] (R4 h hT.ti.heap (by omega)) ?_
 rintro _ _ ⟨rfl,g,c',l2,Yo,hp2,rfl⟩
 refine NS (gK 4 [(4,x),(5,vI 0)] [] ?_)
 refine NN (af.ret ?_)
 have hld:=nL hT.ti.rise hk
 refine aj.eZ [(3,.abs (aN Tryz.prog 3 m (bE (del h us)) ((del h us).length)))] (fun w hS=>by rw [show (del h us).length=us.length - 1 by omega];exact hS) ?_
 refine aj.mem (dw:=[.abs R,.abs (dV 212 t most aD (del h us))]) (fun w hS=>Sat.oF (l:=[.abs R]) ⟨m,some ⟨g,0,none⟩,c',l2,next⟩ (show jv (next) l2 ((del h us)) most (aD) from ⟨hT.ti.drop hk Yo hp2,by omega,hm1,hn1,hn2,MK⟩) (hS.pick (idx:=[2,0,3,1]) (l':=[.abs R]++oC 212 t most (aD) ((del h us)) ⟨m,some ⟨g,0,none⟩,c',l2,next⟩) rfl rfl)) ?_
 exact RT (.tuple #[x,vI 0]) [1,0] (⟨rfl,rfl⟩)
theorem I8 {β:Bs} (t:Nat) (most aD:Int) (us:Used Value) (h:Int) (hw:(Lit.int .i64 h).wf=true) (hg:aE.get us h=none) :
    Spec Tryz.prog β 201 #[vP t,vI (h)] [.abs (dV 212 t most aD us)] (fun v l=>v=.tuple #[.nilIface,vI 131]/\l=[.abs (dV 212 t most aD us)]):=by
 refine Spec.enter Tryz.func201 rfl Tryz.ntmps201 (Nat.le_of_ble_eq_true rfl) (fun R=>?_)
 refine SR (gK 2 [] [] ?_)
 refine NS (gK 2 [(9,vP t),(10,vI (h))] [] ?_)
 refine gL [0] (yK t most aD us h hw hg) ?_
 rintro _ _ ⟨rfl,rfl⟩
 refine gK 5 [(6,.nilIface),(7,vI 131)] [] ?_
 refine NN (af.seq (SR (gK 2 [(15,.bool false)] [] ?_)))
 refine NN (CF (af.skip (NX (SR (gK 4 [(4,.nilIface),(5,vI 131)] [] ?_)))))
 refine NN (af.ret ?_)
 exact RT (.tuple #[.nilIface,vI 131]) [0,1] (⟨rfl,rfl⟩)
end
section
open Go.RowKit Go.Maps bC aE
theorem Spec.BA {P:Program} {β:Bs} {f:FuncId} {args:Array Value} {pre R:List HP} {post:Value->List HP->Prop} (h:∀ β':Bs,qC β R β'->Spec P β' f args pre post):Spec P β f args (pre++R) (fun v l=>∃ l0,post v l0/\l=l0++R):=by
  intro A w hS
  have h1:=Sat.turn hS
  rw [← List.append_assoc] at h1
  obtain⟨β',g1,_,g3⟩:=h1.BA
  refine (h β' g1 A w (Sat.turn g3)).mono ?_
  rintro e w' ⟨v,l,h1,h2,h3⟩
  refine⟨v,l++R,h1,⟨l,h2,rfl⟩,?_⟩
  have h4:=g1.back (Sat.turn h3)
  rw [List.append_assoc] at h4
  exact Sat.turn h4
def bI (L:HL) (us:Used Th):Used Value:=us.map fun q=>(q.1,ez L q.2)
theorem fQ (L:HL) (us:Used Th) (h:Int):bE (bI L us) (.int .i64 h)=(aE.get us h).map (ez L):=get_map (ez L) us h
theorem D4 {L:HL} {us:Used Th} {h:Int}:kf (bE (bI L us)) (.int .i64 h) none=bE (bI L (del h us)):=by
  rw [JI]
  exact congrArg bE (JH (ez L) h us).symm
theorem qD (L:HL) (us:Used Th):(bI L us).length=us.length:=List.length_map ..
theorem BG (L:HL) (us:Used Th):keys (bI L us)=keys us:=keys_map (ez L) us
def mQ (O:bW) (k:Nat):bW:=aO O k (fun o=>{ o with gone:=true })
def sQ (O:bW) (t:Th):Prop:=(obj O t.k).gone=true/\(obj O t.k).opens=0
instance (O:bW) (t:Th):Decidable (sQ O t):=inferInstanceAs (Decidable (_/\_))
def jj (O:bW) (idx:Used Th) (t:Th):Used Th:=if sQ O t then del (obj O t.k).id idx else idx
def jO (O:bW) (used:Int) (t:Th):Int:=if sQ O t then if t.kind=1 then used - (obj O t.k).data.length else used else used
abbrev pF (f m t:Nat) (X:FM):HP:=.blk f [.int .i64 X.cN,.int .i64 X.cB,.int .i64 X.cH,.int .i64 X.cS,.int .i64 X.cZ,.map (some m),.pointer (some ⟨t,0,none⟩),.int .i64 X.last,.int .i64 X.ah,.int .i64 X.used] 154
abbrev pI (m:Nat) (L:HL) (us:Used Th):HP:=.abs (aN Tryz.prog 3 m (bE (bI L us)) us.length)
abbrev pT (t:Nat) (most aD:Int) (L:HL) (us:Used Th):HP:=.abs (dV 212 t most aD (bI L us))
abbrev pO (O:bW) (L:HL):HP:=.abs (aH (bR O L))
abbrev pD (O:bW) (L:HL):HP:=.abs (aH (ct O L))
abbrev pE (O:bW) (L:HL):HP:=.abs (aH (dg O L))
end
section
open Go.RowKit Go.Maps bC aE
structure aI where
  X:FM
  O:bW
  idx:Used Th
  us:Used Th
  aD:Int
abbrev pA (f m t:Nat) (L:HL) (S:aI):List HP:=[pF f m t S.X,pI m L S.idx,pT t S.X.cH S.aD L S.us,pO S.O L,pD S.O L,pE S.O L]
structure aB where
  op:Int
  handle:Int
  other:Int
  name:ByteArray
  text:ByteArray
  dA:Option Addr
  dC:Nat
  data:List UInt8
  mode:Int
  uid:Int
  gid:Int
  sec:Int
  nano:Int
  code:Int
  answer:Int
def dr (c:aB):List Value:=[.int .i64 c.op,.int .i64 c.handle,.int .i64 c.other,.string c.name,.string c.text,.slice c.dA c.data.length c.dC,.int .i64 c.mode,.int .i64 c.uid,.int .i64 c.gid,.int .i64 c.sec,.int .i64 c.nano,.int .i64 c.code,.int .i64 c.answer]
abbrev pC (cb:Nat) (c:aB):HP:=.blk cb (dr c) 88
abbrev c0 (c:aB):aB:={ c with answer:=0,code:=230 }
def Xs (L:HL):Except Int Nat->Value
  | .error e=>.tuple #[.pointer none,.int .i64 e]
  | .ok d=>.tuple #[.pointer (some ⟨L.b d,0,none⟩),.int .i64 0]
def Xt (L:HL):Except Int Th->Value
  | .error e=>.tuple #[.nilIface,.int .i64 e]
  | .ok t=>.tuple #[ez L t,.int .i64 0]
noncomputable section
def dJ (O:bW) (us:Used Th) (h:Int) (name:ByteArray) (need:Int):Except Int Nat:=
  match aE.get us h with
  | none=>.error 131
  | some t=>
    if t.kind=2 then
      if (obj O t.k).gone=true then .error 170
      else if bF name then if bits BinOp.and .i64 (obj O t.k).mode need=need then .ok t.k else .error 175
      else .error 95
    else .error 173
def nS (s:ByteArray):Int:=
  if s=⟨#[]⟩ then 90 else if s.size > 4096 then 93 else if zJ s then 0 else 91
def Room (X:FM) (idx:Used Th):Prop:=(idx.length:Int) < X.cN/\X.last < 1099511627776/\X.ah < 8192
instance (X:FM) (idx:Used Th):Decidable (Room X idx):=inferInstanceAs (Decidable (_/\_/\_))
def cR (X:FM) (O:bW) (idx:Used Th) (d:Nat) (name:ByteArray):Int:=
  if aT name (obj O d).ah=none then if Room X idx then 0 else 177 else 171
def bg (X:FM) (kind mode:Int):aY:=⟨X.last+1,mode,0,0,X.cS,X.cZ,0,0,false,kind,[],⟨#[]⟩,[],none⟩
def bG (X:FM):Nat:=(X.last+1).toNat
def fe (S:aI) (d:Nat) (name:ByteArray) (o:aY):aI:=
  { S with
    X:={ S.X with last:=S.X.last+1,ah:=S.X.ah+1 }
    O:=cO S.X (aO S.O (bG S.X) (fun _=>o)) d name ⟨bG S.X,o.kind⟩
    idx:=ins (S.X.last+1) ⟨bG S.X,o.kind⟩ S.idx }
def aJ (S:aI) (d:Nat) (name:ByteArray) (t:Th):aI:=
  { S with
    X:={ S.X with ah:=S.X.ah - 1,used:=if (obj (aQ S.X S.O d name t) t.k).links=0 then jO (mQ (aQ S.X S.O d name t) t.k) S.X.used t else S.X.used }
    O:=if (obj (aQ S.X S.O d name t) t.k).links=0 then mQ (aQ S.X S.O d name t) t.k else aQ S.X S.O d name t
    idx:=if (obj (aQ S.X S.O d name t) t.k).links=0 then jj (mQ (aQ S.X S.O d name t) t.k) S.idx t else S.idx }
theorem o8 {S:aI} {d:Nat} {name:ByteArray} {t:Th} (h:(obj (aQ S.X S.O d name t) t.k).links=0):aJ S d name t={ S with X:={ S.X with ah:=S.X.ah - 1,used:=jO (mQ (aQ S.X S.O d name t) t.k) S.X.used t },O:=mQ (aQ S.X S.O d name t) t.k,idx:=jj (mQ (aQ S.X S.O d name t) t.k) S.idx t }:=by
  unfold aJ
  simp only [if_pos h]
theorem rJ {S:aI} {d:Nat} {name:ByteArray} {t:Th} (h:¬ (obj (aQ S.X S.O d name t) t.k).links=0):aJ S d name t={ S with X:={ S.X with ah:=S.X.ah - 1 },O:=aQ S.X S.O d name t }:=by
  unfold aJ
  simp only [if_neg h]
def fX (S:aI) (d:Nat) (name:ByteArray) (mode:Int):Int×aI:=
  if cR S.X S.O S.idx d name=0 then (0,fe S d name (bg S.X 2 mode)) else (cR S.X S.O S.idx d name,S)
def fT (S:aI) (d:Nat) (name text:ByteArray):Int×aI:=
  if nS text=0 then
    if cR S.X S.O S.idx d name=0 then (0,fe S d name { bg S.X 3 511 with target:=text }) else (cR S.X S.O S.idx d name,S)
  else (nS text,S)
def fA (S:aI) (d:Nat) (name:ByteArray):Int×aI:=
  match aT name (obj S.O d).ah with
  | none=>(170,S)
  | some t=>if t.kind=2 then (172,S) else (0,aJ S d name t)
def orphan (O:bW) (k:Nat):bW:=aO O k (fun o=>{ o with up:=none })
def fO (S:aI) (d:Nat) (name:ByteArray):Int×aI:=
  match aT name (obj S.O d).ah with
  | none=>(170,S)
  | some t=>if t.kind=2 then if (obj S.O t.k).ah=[] then (0,{ aJ S d name t with O:=orphan (aJ S d name t).O t.k }) else (178,S) else (173,S)
inductive fV (O:bW) (sub:Nat):Nat->Prop
  | here:fV O sub sub
  | up {k j:Nat}:(obj O k).up=some j->fV O sub j->fV O sub k
instance (O:bW) (sub k:Nat):Decidable (fV O sub k):=Classical.propDecidable _
def j7 (S:aI) (d:Nat) (name:ByteArray) (to:Nat) (toName:ByteArray) (t:Th):aI:=
  { S with X:={ S.X with ah:=S.X.ah - 1+1 },O:=cO S.X (aQ S.X S.O d name t) to toName t }
def bL (S:aI) (d:Nat) (name:ByteArray) (to:Nat) (toName:ByteArray):Int×aI:=
  match aT name (obj S.O d).ah with
  | none=>(170,S)
  | some t=>
    if t.kind=2/\fV S.O t.k to then (174,S)
    else match aT toName (obj S.O to).ah with
      | none=>(0,j7 S d name to toName t)
      | some o=>
        if o=t then (0,S) else if o.kind=2 then (172,S) else if t.kind=2 then (173,S)
        else (0,j7 (aJ S to toName o) d name to toName t)
def bA (X:FM) (n:Nat):Nat:=(min (n:Int) (X.cB - X.used)).toNat
def d9 (S:aI) (k:Nat) (bs:List UInt8):Int×Int×aI:=
  if bs=[] then (0,0,S)
  else if S.X.cB - S.X.used<=0 then (0,176,S)
  else ((bA S.X bs.length:Int),0,{ S with
    X:={ S.X with used:=S.X.used+(bA S.X bs.length:Int) }
    O:=aO S.O k (fun o=>{ o with data:=o.data++bs.take (bA S.X bs.length),sec:=S.X.cS,nano:=S.X.cZ }) })
def cW (S:aI) (t:Th):Int×Int×aI:=
  (if (S.us.length:Int) < S.X.cH then least S.us else 0,if (S.us.length:Int) < S.X.cH then 0 else 130,{ S with
    O:=if (S.us.length:Int) < S.X.cH then aO S.O t.k (fun o=>{ o with opens:=o.opens+1 }) else S.O
    us:=if (S.us.length:Int) < S.X.cH then ins (least S.us) t S.us else S.us
    aD:=if (S.us.length:Int) < S.X.cH then max S.aD ((S.us.length:Int)+1) else S.aD })
theorem jf {S:aI} {t:Th} (h:(S.us.length:Int) < S.X.cH):cW S t=(least S.us,0,{ S with O:=aO S.O t.k (fun o=>{ o with opens:=o.opens+1 }),us:=ins (least S.us) t S.us,aD:=max S.aD ((S.us.length:Int)+1) }):=by
  unfold cW
  simp only [if_pos h]
theorem jT {S:aI} {t:Th} (h:¬ (S.us.length:Int) < S.X.cH):cW S t=(0,130,S):=by
  unfold cW
  simp only [if_neg h]
abbrev sD:=Int×aI×aB
def jk (S:aI) (c:aB):sD:=
  match aE.get S.idx c.other with
  | none=>(141,S,c)
  | some t=>if t.kind=2 then ((cW S t).2.1,(cW S t).2.2,{ c with answer:=(cW S t).1 }) else (173,S,c)
def fB (O:bW) (us:Used Th) (c:aB):Except Int Th:=
  match dJ O us c.handle c.name 64 with
  | .error e=>.error e
  | .ok d=>match aT c.name (obj O d).ah with
    | none=>.error 170
    | some t=>.ok t
def eV (S:aI) (c:aB):sD:=
  match fB S.O S.us c with
  | .error e=>(e,S,c)
  | .ok t=>if t.kind=3 then (174,S,c) else if t.kind=1 then (173,S,c) else ((cW S t).2.1,(cW S t).2.2,{ c with answer:=(cW S t).1 })
def ng (S:aI) (c:aB):sD:=
  match fB S.O S.us c with
  | .error e=>(e,S,c)
  | .ok t=>if t.kind=3 then (174,S,c) else if t.kind=2 then (172,S,c) else ((cW S t).2.1,(cW S t).2.2,{ c with answer:=(cW S t).1 })
def oe (m:Int):Prop:=0<=m/\m<=4095
instance (m:Int):Decidable (oe m):=inferInstanceAs (Decidable (_/\_))
def fU (S:aI) (c:aB):sD:=
  match dJ S.O S.us c.handle c.name 192 with
  | .error e=>(e,S,c)
  | .ok d=>if oe c.mode then ((fX S d c.name c.mode).1,(fX S d c.name c.mode).2,c) else (120,S,c)
def qE (S:aI) (d:Nat) (name:ByteArray) (mode:Int):Int×Int×aI:=
  if cR S.X S.O S.idx d name=0 then
    if (S.us.length:Int) < S.X.cH then
      (least S.us,0,fe { S with us:=ins (least S.us) ⟨bG S.X,1⟩ S.us,aD:=max S.aD ((S.us.length:Int)+1) } d name { bg S.X 1 mode with opens:=1 })
    else (0,130,S)
  else (0,cR S.X S.O S.idx d name,S)
def ni (S:aI) (c:aB):sD:=
  match dJ S.O S.us c.handle c.name 192 with
  | .error e=>(e,S,c)
  | .ok d=>if oe c.mode then
      if cR S.X S.O S.idx d c.name=0 then ((qE S d c.name c.mode).2.1,(qE S d c.name c.mode).2.2,{ c with answer:=(qE S d c.name c.mode).1 })
      else (cR S.X S.O S.idx d c.name,S,c)
    else (120,S,c)
def mg (S:aI) (c:aB):sD:=
  match dJ S.O S.us c.handle c.name 192 with
  | .error e=>(e,S,c)
  | .ok d=>((fT S d c.name c.text).1,(fT S d c.name c.text).2,c)
def zW (S:aI) (d:Nat) (name:ByteArray) (to:Nat) (toName:ByteArray):Int×aI:=
  match aT name (obj S.O d).ah with
  | none=>(170,S)
  | some t=>if t.kind=2 then (172,S)
    else if aT toName (obj S.O to).ah=none then
      if S.X.ah < 8192 then (0,{ S with X:={ S.X with ah:=S.X.ah+1 },O:=cO S.X S.O to toName t }) else (177,S)
    else (171,S)
def qF (S:aI) (c:aB):sD:=
  match dJ S.O S.us c.handle c.name 64 with
  | .error e=>(e,S,c)
  | .ok d=>match dJ S.O S.us c.other c.text 192 with
    | .error e=>(e,S,c)
    | .ok to=>((zW S d c.name to c.text).1,(zW S d c.name to c.text).2,c)
def nj (S:aI) (c:aB):sD:=
  match dJ S.O S.us c.handle c.name 192 with
  | .error e=>(e,S,c)
  | .ok d=>((fA S d c.name).1,(fA S d c.name).2,c)
def oG (S:aI) (c:aB):sD:=
  match dJ S.O S.us c.handle c.name 192 with
  | .error e=>(e,S,c)
  | .ok d=>((fO S d c.name).1,(fO S d c.name).2,c)
def nk (S:aI) (c:aB):sD:=
  match dJ S.O S.us c.handle c.name 192 with
  | .error e=>(e,S,c)
  | .ok d=>match dJ S.O S.us c.other c.text 192 with
    | .error e=>(e,S,c)
    | .ok to=>((bL S d c.name to c.text).1,(bL S d c.name to c.text).2,c)
def oH (S:aI) (c:aB):sD:=
  match aE.get S.us c.handle with
  | none=>(131,S,c)
  | some t=>if t.kind=1 then ((d9 S t.k c.data).2.1,(d9 S t.k c.data).2.2,{ c with answer:=(d9 S t.k c.data).1 }) else (172,S,c)
def CH (m:Int):Prop:=0<=m/\m<=2147483647
instance (m:Int):Decidable (CH m):=inferInstanceAs (Decidable (_/\_))
def oI (S:aI) (c:aB):sD:=
  match aE.get S.us c.handle with
  | none=>(131,S,c)
  | some t=>
    if (obj S.O t.k).gone=true/\t.kind=2 then (170,S,c)
    else if oe c.mode then
      if CH c.uid/\CH c.gid then
        if fL c.sec c.nano then (0,{ S with O:=aO S.O t.k (fun o=>{ o with mode:=c.mode,uid:=c.uid,gid:=c.gid,sec:=c.sec,nano:=c.nano }) },c)
        else (20,S,c)
      else (11,S,c)
    else (120,S,c)
def q8 (O:bW) (c:aB):Option Th->aB
  | none=>{ c with other:=0,mode:=0,uid:=0,gid:=0,sec:=0,nano:=0 }
  | some t=>{ c with answer:=(obj O t.k).id,other:=t.kind,mode:=(obj O t.k).mode,uid:=(obj O t.k).uid,gid:=(obj O t.k).gid,sec:=(obj O t.k).sec,nano:=(obj O t.k).nano }
def jP (S:aI) (c:aB):sD:=
  match aE.get S.us c.handle with
  | none=>(131,S,q8 S.O c none)
  | some t=>(0,S,q8 S.O c (some t))
def qG (S:aI) (c:aB):sD:=
  match fB S.O S.us c with
  | .error e=>(e,S,q8 S.O c none)
  | .ok t=>(0,S,q8 S.O c (some t))
def iR (O:bW) (k:Nat):bW:=aO O k (fun o=>{ o with opens:=o.opens - 1 })
def ja (S:aI) (c:aB):sD:=
  match aE.get S.us c.handle with
  | none=>(131,S,c)
  | some t=>(0,{ S with
      X:={ S.X with used:=jO (iR S.O t.k) S.X.used t }
      O:=iR S.O t.k
      idx:=jj (iR S.O t.k) S.idx t
      us:=del c.handle S.us },c)
def cV (S:aI) (c:aB):sD:=
  if c.op=1 then jk S c else if c.op=2 then eV S c else if c.op=3 then ng S c else if c.op=4 then fU S c
  else if c.op=5 then ni S c else if c.op=6 then mg S c else if c.op=7 then qF S c else if c.op=8 then nj S c
  else if c.op=9 then oH S c else if c.op=10 then oI S c else if c.op=11 then jP S c else if c.op=12 then qG S c
  else if c.op=13 then ja S c else if c.op=14 then oG S c else if c.op=15 then nk S c else (230,S,c)
def bK (S:aI) (c:aB):aI×aB:=
  ((cV S { c with answer:=0,code:=230 }).2.1,{ (cV S { c with answer:=0,code:=230 }).2.2 with code:=(cV S { c with answer:=0,code:=230 }).1 })
end
end
section
open Go.RowKit Go.Maps bC aE
section sums
variable {V:Type} {g g':Int×V->Nat} {us:Used V} {h:Int} {v:V}
def dx (g:Int×V->Nat):Used V->Nat
  | []=>0
  | p::r=>g p+dx g r
theorem BH:dx g (ins h v us)=g (h,v)+dx g us:=by
  induction us with
  | nil=>rfl
  | cons p r ih=>
    unfold ins
    split
    ·rfl
    show g p+dx g (ins h v r)=g (h,v)+(g p+dx g r)
    rw [ih];omega
theorem gX (hc:∀ p∈us,g' p=g p):dx g' us=dx g us:=by
  induction us with
  | nil=>rfl
  | cons p r ih=>
    show g' p+dx g' r=g p+dx g r
    rw [hc p (List.mem_cons_self ..),ih (fun q hq=>hc q (List.mem_cons_of_mem _ hq))]
theorem JK (hc:∀ p∈us,g' p<=g p):dx g' us<=dx g us:=by
  induction us with
  | nil=>exact Nat.le_refl _
  | cons p r ih=>
    show g' p+dx g' r<=g p+dx g r
    exact Nat.add_le_add (hc p (List.mem_cons_self ..)) (ih (fun q hq=>hc q (List.mem_cons_of_mem _ hq)))
theorem tP {p:Int×V} {r:Used V}:aE.get (p::r) h=if p.1=h then some p.2 else aE.get r h:=by
  unfold aE.get
  rw [List.find?_cons]
  by_cases e:p.1=h
  ·simp [e]
  have e2:(p.1 == h)=false:=by simpa using e
  rw [e2,if_neg e]
theorem get_mem {us:Used V} (e:aE.get us h=some v):(h,v)∈us:=by
  induction us with
  | nil=>cases e
  | cons p r ih=>
    rw [tP] at e
    split at e
    ·rename_i e2;cases e;subst e2;exact List.mem_cons_self ..
    exact List.mem_cons_of_mem _ (ih e)
theorem o9 {us:Used V} (hr:aE.cq (keys us)) (e:(h,v)∈us):aE.get us h=some v:=by
  induction us with
  | nil=>cases e
  | cons p r ih=>
    rw [keys_cons] at hr
    obtain⟨h1,h2⟩:=List.pairwise_cons.1 hr
    rw [tP]
    rcases List.mem_cons.1 e with e|e
    ·subst e;rw [if_pos rfl]
    have:p.1 < h:=h1 h (List.mem_map.2 ⟨(h,v),e,rfl⟩)
    rw [if_neg (by omega)]
    exact ih h2 e
theorem kC (e:aE.get us h=some v):g (h,v)<=dx g us:=by
  have hm:=get_mem e
  induction us with
  | nil=>cases hm
  | cons p r ih=>
    show _<=g p+dx g r
    rw [tP] at e
    split at e
    ·rename_i e2;cases e;subst e2;exact Nat.le_add_right ..
    rcases List.mem_cons.1 hm with e2|e2
    ·subst e2;exact Nat.le_add_right ..
    exact Nat.le_trans (ih e e2) (Nat.le_add_left ..)
theorem BI (hr:aE.cq (keys us)) (e:aE.get us h=some v) (hc:∀ p∈us,p.1≠h->g' p=g p):dx g' us+g (h,v)=dx g us+g' (h,v):=by
  induction us with
  | nil=>cases e
  | cons p r ih=>
    rw [keys_cons] at hr
    obtain⟨h1,h2⟩:=List.pairwise_cons.1 hr
    rw [tP] at e
    show g' p+dx g' r+_=g p+dx g r+_
    split at e
    ·rename_i e2
     cases e
     have e3:dx g' r=dx g r:=gX (fun q hq=>hc q (List.mem_cons_of_mem _ hq) (by
       have:=h1 q.1 (List.mem_map.2 ⟨q,hq,rfl⟩);omega))
     have e4:p=(h,p.2):=by rw [← e2]
     rw [e3,← e4];omega
    rename_i e2
    have:=ih h2 e (fun q hq=>hc q (List.mem_cons_of_mem _ hq))
    have:=hc p (List.mem_cons_self ..) e2
    omega
theorem Pk {p:Int×V} {r:Used V}:del h (p::r)=if p.1=h then del h r else p::del h r:=by
  unfold del
  rw [List.filter_cons]
  by_cases e:p.1=h
  ·simp [e]
  simp [e]
theorem R6 {us:Used V} (hn:h∉keys us):del h us=us:=by
  unfold del
  refine List.filter_eq_self.2 (fun p hp=>?_)
  have:¬ p.1=h:=fun e=>hn (List.mem_map.2 ⟨p,hp,e⟩)
  simp [this]
theorem BJ (hr:aE.cq (keys us)) (e:aE.get us h=some v):dx g (del h us)+g (h,v)=dx g us:=by
  induction us with
  | nil=>cases e
  | cons p r ih=>
    rw [keys_cons] at hr
    obtain⟨h1,h2⟩:=List.pairwise_cons.1 hr
    rw [tP] at e
    rw [Pk]
    show _=g p+dx g r
    split at e
    ·rename_i e2
     cases e
     rw [if_pos e2,R6 (fun hm=>by have:=h1 h hm;omega)]
     have e4:p=(h,p.2):=by rw [← e2]
     rw [← e4];omega
    rename_i e2
    rw [if_neg e2]
    show g p+dx g (del h r)+_=_
    have:=ih h2 e
    omega
theorem GJ {us:Used V} (hr:aE.cq (keys us)):aE.cq (keys (del h us)):=by
  rw [oA]
  exact List.Pairwise.filter _ hr
end sums
section Xu
variable {n:ByteArray} {t:Th} {es:fS Th} {q:ByteArray×Th->Bool}
theorem ML:(ic n t es).countP q=es.countP q+if q (n,t) then 1 else 0:=by
  induction es with
  | nil=>simp [ic,List.countP_cons]
  | cons e r ih=>
    unfold ic
    split
    ·rw [List.countP_cons]
    rw [List.countP_cons,ih,List.countP_cons];omega
theorem MN {es:fS Th} (hd:o5 es) (h:aT n es=some t):(ig n es).countP q+(if q (n,t) then 1 else 0)=es.countP q:=by
  induction es with
  | nil=>cases h
  | cons e r ih=>
    obtain⟨h1,h2⟩:=List.pairwise_cons.1 hd
    rw [iZ] at h
    rw [List.countP_cons]
    by_cases he:e.1=n
    ·rw [if_pos he] at h
     have e1:ig n (e::r)=r:=by
       unfold ig
       rw [List.filter_cons,if_neg (by simp [he])]
       exact List.filter_eq_self.2 (fun x hx=>by have:=h1 x hx;simp;exact fun e2=>this (he.trans e2.symm))
     have e2:e=(n,t):=by
       have:e.2=t:=Option.some.inj h
       rw [← he,← this]
     rw [e1,← e2]
    rw [if_neg he] at h
    have e1:ig n (e::r)=e::ig n r:=by
      unfold ig
      rw [List.filter_cons,if_pos (by simp [he])]
    rw [e1,List.countP_cons]
    have:=ih h2 h
    omega
theorem Pm {e:ByteArray×Th} {es:fS Th} (h:e∈ig n es):e∈es/\e.1≠n:=by
  unfold ig at h
  have:=List.mem_filter.1 h
  exact⟨this.1,by simpa using this.2⟩
theorem tQ {es:fS Th} (hd:o5 es) (h:(n,t)∈es):aT n es=some t:=by
  induction es with
  | nil=>cases h
  | cons e r ih=>
    obtain⟨h1,h2⟩:=List.pairwise_cons.1 hd
    rw [iZ]
    rcases List.mem_cons.1 h with h|h
    ·subst h;rw [if_pos rfl]
    rw [if_neg (fun e2=>h1 (n,t) h e2),ih h2 h]
end Xu
def Live (idx:Used Th) (t:Th):Prop:=aE.get idx (t.k:Int)=some t
def j8 (es:fS Th):Prop:=es.Pairwise (fun a b=>¬ ju b.1 a.1)
def iT (idx:Used Th) (O:bW) (k:Nat):Nat:=dx (fun p=>(obj O p.2.k).ah.countP (fun e=>decide (e.2.k=k))) idx
def tot (idx:Used Th) (O:bW):Nat:=dx (fun p=>(obj O p.2.k).ah.length) idx
def bytes (idx:Used Th) (O:bW):Nat:=dx (fun p=>(obj O p.2.k).data.length) idx
def hnd (us:Used Th) (k:Nat):Nat:=dx (fun p=>if p.2.k=k then 1 else 0) us
structure lg (o:aY):Prop where
  mode:0<=o.mode/\o.mode<=4095
  uid:0<=o.uid/\o.uid<=2147483647
  gid:0<=o.gid/\o.gid<=2147483647
  time:fL o.sec o.nano
  data:o.kind≠1->o.data=[]
  ah:o.kind≠2->o.ah=[]
  target:fq o.kind o.target
structure Inv0 (S:aI):Prop where
  cN:0<=S.X.cN/\S.X.cN<=4096
  cB:0<=S.X.cB/\S.X.cB<=1099511627776
  cH:0<=S.X.cH/\S.X.cH<=1024
  now:fL S.X.cS S.X.cZ
  last:0<=S.X.last/\S.X.last<=1099511627776
  rise:aE.cq (keys S.idx)
  len:S.idx.length<=4096
  idx:∀ i t,aE.get S.idx i=some t->i=(t.k:Int)/\0 < i/\i<=S.X.last
  ob:∀ t,Live S.idx t->(obj S.O t.k).id=(t.k:Int)/\(obj S.O t.k).kind=t.kind/\(t.kind=1\/t.kind=2\/t.kind=3)
  mt:∀ t,Live S.idx t->lg (obj S.O t.k)
  ah:∀ t,Live S.idx t->∀ e∈(obj S.O t.k).ah,bF e.1/\Live S.idx e.2
  sorted:∀ t,Live S.idx t->j8 (obj S.O t.k).ah
  dead:∀ k,(∀ t,Live S.idx t->t.k≠k)->(obj S.O k).ah=[]/\(obj S.O k).up=none
  uD:∀ k:Nat,S.X.last < (k:Int)->(obj S.O k).kind=0
  total:S.X.ah=(tot S.idx S.O:Int)/\S.X.ah<=8192
  links:∀ t,Live S.idx t->(obj S.O t.k).links=(iT S.idx S.O t.k:Int)
  once:∀ t,Live S.idx t->t.kind=2->(obj S.O t.k).links<=1
  opens:∀ t,Live S.idx t->(obj S.O t.k).opens=(hnd S.us t.k:Int)
  usr:aE.cq (keys S.us)
  sE:∀ x∈keys S.us,1<=x/\x<=S.aD
  CI:(S.us.length:Int)<=S.X.cH
  aD:0<=S.aD/\S.aD<=S.X.cH
  us:∀ h t,aE.get S.us h=some t->Live S.idx t/\t.kind≠3
  gone:∀ t,Live S.idx t->(obj S.O t.k).gone=true->(obj S.O t.k).links=0/\(obj S.O t.k).ah=[]
  up:∀ t,Live S.idx t->∀ d,(obj S.O t.k).up=some d↔t.kind=2/\Live S.idx ⟨d,2⟩/\∃ n,aT n (obj S.O d).ah=some t
  deep:∃ dp:Nat->Nat,∀ k d,(obj S.O k).up=some d->dp d < dp k
  used:S.X.used=(bytes S.idx S.O:Int)/\S.X.used<=140737488355328
structure Inv (S:aI):Prop extends Inv0 S where
  full:∀ t,Live S.idx t->(obj S.O t.k).gone=true->0 < (obj S.O t.k).opens
end
section
open Go.RowKit Go.Maps bC aE
section at_
variable {X:FM} {O:bW} {d k:Nat} {name:ByteArray} {t:Th}
theorem jg (h:t.k≠d):obj (aQ X O d name t) k=if k=d then { obj O d with ah:=ig name (obj O d).ah,sec:=X.cS,nano:=X.cZ } else if k=t.k then { obj O k with links:=(obj O k).links - 1 } else obj O k:=by
  unfold aQ pY
  by_cases e:k=d
  ·subst e
   rw [bT (fun e=>h e.symm),cD,cD,if_pos rfl]
  rw [if_neg e]
  by_cases e2:k=t.k
  ·subst e2
   rw [cD,bT e,bT e,if_pos rfl]
  rw [bT e2,bT e,bT e,if_neg e2]
theorem yM (h:t.k≠d):obj (cO X O d name t) k=if k=d then { obj O d with ah:=ic name t (obj O d).ah,sec:=X.cS,nano:=X.cZ } else if k=t.k then { obj O k with links:=(obj O k).links+1,up:=if t.kind=2 then some d else (obj O k).up } else obj O k:=by
  unfold cO pY oz
  simp only
  by_cases e:k=d
  ·subst e
   rw [if_pos rfl,cD]
   split
   ·rw [bT (fun e=>h e.symm),bT (fun e=>h e.symm),cD]
   rw [bT (fun e=>h e.symm),cD]
  rw [if_neg e,bT e]
  by_cases e2:k=t.k
  ·subst e2
   rw [if_pos rfl]
   split
   ·rw [cD,cD,bT e]
   rw [cD,bT e]
  rw [if_neg e2]
  split
  ·rw [bT e2,bT e2,bT e]
  rw [bT e2,bT e]
end at_
section counts
variable {idx:Used Th} {O O':bW} {d k:Nat} {n:ByteArray} {t:Th}
theorem Pn {q:ByteArray×Th->Bool} (hr:aE.cq (keys idx)) (hd:aE.get idx (d:Int)=some ⟨d,2⟩) (hk:∀ i u,aE.get idx i=some u->i=(u.k:Int)) (ho:∀ x,x≠d->(obj O' x).ah=(obj O x).ah) (h1:(obj O' d).ah=ig n (obj O d).ah) (h2:o5 (obj O d).ah) (h3:aT n (obj O d).ah=some t) :
    dx (fun p=>(obj O' p.2.k).ah.countP q) idx+(if q (n,t) then 1 else 0)=dx (fun p=>(obj O p.2.k).ah.countP q) idx:=by
  have h4:=BI (g:=fun p=>(obj O p.2.k).ah.countP q) (g':=fun p=>(obj O' p.2.k).ah.countP q) hr hd (fun p hp hne=>by
    have:=hk p.1 p.2 (o9 hr hp)
    show (obj O' p.2.k).ah.countP q=_
    rw [ho p.2.k (by intro e;rw [e] at this;exact hne this)])
  have h5:=MN (q:=q) h2 h3
  have h6:(obj O' d).ah.countP q=(ig n (obj O d).ah).countP q:=by rw [h1]
  have h7:dx (fun p=>(obj O' p.2.k).ah.countP q) idx+(obj O d).ah.countP q=dx (fun p=>(obj O p.2.k).ah.countP q) idx+(obj O' d).ah.countP q:=h4
  omega
theorem Po {q:ByteArray×Th->Bool} (hr:aE.cq (keys idx)) (hd:aE.get idx (d:Int)=some ⟨d,2⟩) (hk:∀ i u,aE.get idx i=some u->i=(u.k:Int)) (ho:∀ x,x≠d->(obj O' x).ah=(obj O x).ah) (h1:(obj O' d).ah=ic n t (obj O d).ah) :
    dx (fun p=>(obj O' p.2.k).ah.countP q) idx=dx (fun p=>(obj O p.2.k).ah.countP q) idx+(if q (n,t) then 1 else 0):=by
  have h4:=BI (g:=fun p=>(obj O p.2.k).ah.countP q) (g':=fun p=>(obj O' p.2.k).ah.countP q) hr hd (fun p hp hne=>by
    have:=hk p.1 p.2 (o9 hr hp)
    show (obj O' p.2.k).ah.countP q=_
    rw [ho p.2.k (by intro e;rw [e] at this;exact hne this)])
  have h5:=ML (q:=q) (n:=n) (t:=t) (es:=(obj O d).ah)
  have h6:(obj O' d).ah.countP q=(ic n t (obj O d).ah).countP q:=by rw [h1]
  have h7:dx (fun p=>(obj O' p.2.k).ah.countP q) idx+(obj O d).ah.countP q=dx (fun p=>(obj O p.2.k).ah.countP q) idx+(obj O' d).ah.countP q:=h4
  omega
theorem nu:tot idx O=dx (fun p=>(obj O p.2.k).ah.countP (fun _=>true)) idx:=gX (fun p _=>by simp)
theorem MO {q:ByteArray×Th->Bool} (ho:∀ x,(obj O' x).ah=(obj O x).ah):dx (fun p=>(obj O' p.2.k).ah.countP q) idx=dx (fun p=>(obj O p.2.k).ah.countP q) idx:=gX (fun p _=>by rw [ho])
theorem MP:iT idx O k<=tot idx O:=by
  rw [nu]
  exact JK (fun p _=>List.countP_mono_left (fun _ _ _=>rfl))
theorem mM (hd:aE.get idx (d:Int)=some ⟨d,2⟩) (h:aT n (obj O d).ah=some t):0 < iT idx O t.k:=by
  refine Nat.lt_of_lt_of_le ?_ (kC (g:=fun p=>(obj O p.2.k).ah.countP (fun e=>decide (e.2.k=t.k))) hd)
  exact List.countP_pos_iff.2 ⟨(n,t),lS h,by simp⟩
theorem Pp (h:iT idx O k=0) (hd:aE.get idx (d:Int)=some ⟨d,2⟩) (e:ByteArray×Th) (he:e∈(obj O d).ah):e.2.k≠k:=fun hk=>by
  have h1:0 < iT idx O k:=Nat.lt_of_lt_of_le (List.countP_pos_iff.2 ⟨e,he,by simpa using hk⟩) (kC (g:=fun p=>(obj O p.2.k).ah.countP (fun e=>decide (e.2.k=k))) hd)
  omega
theorem CJ (hr:aE.cq (keys idx)) (h:0 < iT idx O k):∃ i u,aE.get idx i=some u/\∃ e∈(obj O u.k).ah,e.2.k=k:=by
  apply Classical.byContradiction
  intro hn
  have:iT idx O k=dx (fun _=>0) idx:=gX (fun p hp=>by
    show List.countP _ _=0
    rw [List.countP_eq_zero]
    intro e he hk
    exact hn ⟨p.1,p.2,o9 hr hp,e,he,by simpa using hk⟩)
  have h0:∀ us:Used Th,dx (fun _=>0) us=0:=fun us=>by
    induction us with
    | nil=>rfl
    | cons p r ih=>show 0+_=0;rw [ih]
  rw [this,h0] at h
  omega
end counts
end
section
open Go.RowKit Go.Maps bC aE
section inv
variable {S:aI} {d k:Nat} {name:ByteArray} {t u:Th}
theorem Inv0.key (h:Inv0 S) {i:Int} (e:aE.get S.idx i=some t):i=(t.k:Int):=(h.idx i t e).1
theorem Inv0.live (h:Inv0 S) {i:Int} (e:aE.get S.idx i=some t):Live S.idx t:=by
  have:=h.key e
  subst this
  exact e
theorem iy {idx:Used Th} (h1:Live idx t) (h2:Live idx u) (e:t.k=u.k):t=u:=by
  unfold Live at h1 h2
  rw [e,h2] at h1
  exact (Option.some.inj h1).symm
theorem Inv0.kind (h:Inv0 S) (hl:Live S.idx t):(obj S.O t.k).kind=t.kind:=(h.ob t hl).2.1
theorem KI {x:ByteArray}:ju x x:=by unfold ju;simp
theorem j8.twice {es:fS Th} (h:j8 es):o5 es:=List.Pairwise.imp (fun {a b} hab e=>hab (by rw [e];exact KI)) h
theorem Inv0.twice (h:Inv0 S) (hl:Live S.idx t):o5 (obj S.O t.k).ah:=(h.sorted t hl).twice
theorem Inv0.ent (h:Inv0 S) (hd:Live S.idx u) (hl:aT name (obj S.O u.k).ah=some t):bF name/\Live S.idx t:=h.ah u hd _ (lS hl)
theorem Inv0.ne (h:Inv0 S) (hd:Live S.idx ⟨d,2⟩) (hl:aT name (obj S.O d).ah=some t):t.k≠d:=fun e=>by
  have h1:=(h.ent hd hl).2
  have h2:t=⟨d,2⟩:=iy h1 hd e
  subst h2
  have h3:=(h.up _ hd d).2 ⟨rfl,hd,name,hl⟩
  obtain⟨dp,hdp⟩:=h.deep
  have:dp d < dp d:=hdp _ _ h3
  omega
theorem Inv0.free (h:Inv0 S) (hk:S.X.last < (k:Int)) (hl:Live S.idx t):t.k≠k:=fun e=>by
  have:=(h.idx _ t hl).2.2
  subst e
  omega
theorem lg.of {o o':aY} (h:lg o) (e1:o'.mode=o.mode) (e2:o'.uid=o.uid) (e3:o'.gid=o.gid) (e4:fL o'.sec o'.nano) (e5:o'.kind=o.kind) (e6:o'.data=o.data\/o.kind=1) (e7:o'.ah=o.ah\/o.kind=2) (e8:o'.target=o.target):lg o':=
  ⟨e1 ▸ h.mode,e2 ▸ h.uid,e3 ▸ h.gid,e4,fun hk=>by
    rw [e5] at hk
    rcases e6 with e|e
    ·rw [e];exact h.data hk
    ·exact absurd e hk,fun hk=>by
    rw [e5] at hk
    rcases e7 with e|e
    ·rw [e];exact h.ah hk
    exact absurd e hk,by rw [e5,e8];exact h.target⟩
theorem Inv0.own (h:Inv0 S) {f:aY->aY} {kT gY:Int} {us':Used Th} (f1:∀ o,(f o).id=o.id) (f2:∀ o,(f o).kind=o.kind) (f3:∀ o,(f o).ah=o.ah) (f4:∀ o,(f o).up=o.up) (f5:∀ o,(f o).links=o.links) (f6:∀ o,(f o).gone=o.gone)
    (hm:∀ t,Live S.idx t->t.k=k->lg (f (obj S.O k))) (ho:∀ t,Live S.idx t->(obj (aO S.O k f) t.k).opens=(hnd us' t.k:Int))
    (u1:aE.cq (keys us')) (u2:∀ x∈keys us',1<=x/\x<=gY) (u3:(us'.length:Int)<=S.X.cH) (u4:0<=gY/\gY<=S.X.cH) (u5:∀ h t,aE.get us' h=some t->Live S.idx t/\t.kind≠3)
    (hu:kT=(bytes S.idx (aO S.O k f):Int)/\kT<=140737488355328):Inv0 { S with X:={ S.X with used:=kT },O:=aO S.O k f,us:=us',aD:=gY }:=by
  have g1:∀ x,(obj (aO S.O k f) x).id=(obj S.O x).id:=fun x=>cE (g:=aY.id) f1
  have g2:∀ x,(obj (aO S.O k f) x).kind=(obj S.O x).kind:=fun x=>cE (g:=aY.kind) f2
  have g3:∀ x,(obj (aO S.O k f) x).ah=(obj S.O x).ah:=fun x=>cE (g:=aY.ah) f3
  have g4:∀ x,(obj (aO S.O k f) x).up=(obj S.O x).up:=fun x=>cE (g:=aY.up) f4
  have g5:∀ x,(obj (aO S.O k f) x).links=(obj S.O x).links:=fun x=>cE (g:=aY.links) f5
  have g6:∀ x,(obj (aO S.O k f) x).gone=(obj S.O x).gone:=fun x=>cE (g:=aY.gone) f6
  refine { h with ob:=fun t hl=>?_,mt:=fun t hl=>?_,ah:=fun t hl=>?_,sorted:=fun t hl=>?_,dead:=fun x hx=>?_,uD:=fun x hx=>by rw [g2];exact h.uD x hx,total:=?_,links:=fun t hl=>?_,once:=fun t hl=>?_,opens:=ho,usr:=u1,sE:=u2,CI:=u3,aD:=u4,us:=u5,gone:=fun t hl=>?_,up:=fun t hl e=>?_,deep:=?_,used:=hu }
  ·rw [g1,g2];exact h.ob t hl
  ·show lg (obj (aO S.O k f) t.k)
   by_cases e:t.k=k
   ·rw [e,cD];exact hm t hl e
   rw [bT e];exact h.mt t hl
  ·rw [g3];exact h.ah t hl
  ·rw [g3];exact h.sorted t hl
  ·rw [g3,g4];exact h.dead x hx
  ·have:tot S.idx (aO S.O k f)=tot S.idx S.O:=gX (fun p _=>by rw [g3])
   show S.X.ah=(tot S.idx (aO S.O k f):Int)/\_
   rw [this];exact h.total
  ·show (obj (aO S.O k f) t.k).links=(iT S.idx (aO S.O k f) t.k:Int)
   have:iT S.idx (aO S.O k f) t.k=iT S.idx S.O t.k:=MO g3
   rw [g5,this];exact h.links t hl
  ·rw [g5];exact h.once t hl
  ·rw [g6,g5,g3];exact h.gone t hl
  ·show (obj (aO S.O k f) t.k).up=some e↔t.kind=2/\Live S.idx ⟨e,2⟩/\∃ n,aT n (obj (aO S.O k f) e).ah=some t
   rw [g4,g3];exact h.up t hl e
  obtain⟨dp,hdp⟩:=h.deep
  exact⟨dp,fun x e he=>hdp x e (by rw [g4] at he;exact he)⟩
def sR (S:aI) (t:Th):aI:={ S with X:={ S.X with used:=jO S.O S.X.used t },idx:=jj S.O S.idx t }
theorem Inv0.sR (h:Inv0 S) (ht:Live S.idx t) (hf:∀ u,Live S.idx u->u≠t->(obj S.O u.k).gone=true->0 < (obj S.O u.k).opens):Inv (Proofs.YtiehgnlnofhbaaaGreatDoor.sR S t):=by
  by_cases hF:sQ S.O t
  ·have e1:Proofs.YtiehgnlnofhbaaaGreatDoor.sR S t={ S with X:={ S.X with used:=S.X.used - (obj S.O t.k).data.length },idx:=del (t.k:Int) S.idx }:=by
     unfold Proofs.YtiehgnlnofhbaaaGreatDoor.sR jO jj
     rw [if_pos hF,if_pos hF,(h.ob t ht).1]
     split
     ·rfl
     rename_i e
     have:=(h.mt t ht).data (by rw [h.kind ht];exact e)
     rw [this]
     simp
   rw [e1]
   obtain⟨hg,hop⟩:=hF
   obtain⟨hlk,hen⟩:=h.gone t ht hg
   have fN:∀ x,Live (del (t.k:Int) S.idx) x↔Live S.idx x/\x.k≠t.k:=fun x=>by
     unfold Live
     rw [o7]
     constructor
     ·intro e
      split at e
      ·cases e
      rename_i e2;exact⟨e,fun e3=>e2 (by rw [e3])⟩
     rintro⟨e,e2⟩
     rw [if_neg (by omega)];exact e
   have hl0:iT S.idx S.O t.k=0:=by have:=h.links t ht;omega
   have hne:∀ x,Live S.idx x->∀ e∈(obj S.O x.k).ah,e.2.k≠t.k:=fun x hx e he hk=>by
     have:0 < iT S.idx S.O t.k:=Nat.lt_of_lt_of_le (List.countP_pos_iff.2 ⟨e,he,by simpa using hk⟩) (kC (g:=fun p=>(obj S.O p.2.k).ah.countP (fun e=>decide (e.2.k=t.k))) hx)
     omega
   have hsum:∀ q:ByteArray×Th->Bool,dx (fun p=>(obj S.O p.2.k).ah.countP q) (del (t.k:Int) S.idx)=dx (fun p=>(obj S.O p.2.k).ah.countP q) S.idx:=fun q=>by
     have h1:=BJ (g:=fun p:Int×Th=>(obj S.O p.2.k).ah.countP q) h.rise ht
     have h2:(obj S.O t.k).ah.countP q=0:=by rw [hen];rfl
     have h3:dx (fun p:Int×Th=>(obj S.O p.2.k).ah.countP q) (del (t.k:Int) S.idx)+(obj S.O t.k).ah.countP q=_:=h1
     omega
   refine { h with rise:=GJ h.rise,len:=?_,idx:=fun i x e=>?_,ob:=fun x hx=>h.ob x ((fN x).1 hx).1,mt:=fun x hx=>h.mt x ((fN x).1 hx).1,ah:=fun x hx e he=>?_,sorted:=fun x hx=>h.sorted x ((fN x).1 hx).1,dead:=fun x hx=>?_,total:=?_,links:=fun x hx=>?_,once:=fun x hx=>h.once x ((fN x).1 hx).1,opens:=fun x hx=>h.opens x ((fN x).1 hx).1,us:=fun i x e=>?_,gone:=fun x hx=>h.gone x ((fN x).1 hx).1,up:=fun x hx e=>?_,used:=?_,full:=fun x hx hg=>hf x ((fN x).1 hx).1 (fun e=>((fN x).1 hx).2 (by rw [e])) hg }
   ·have h1:=nL h.rise (get_some ht)
    have h2:=h.len
    show (del (t.k:Int) S.idx).length<=4096
    omega
   ·have e:aE.get (del (t.k:Int) S.idx) i=some x:=e
    rw [o7] at e
    split at e
    ·cases e
    exact h.idx i x e
   ·have hx':=((fN x).1 hx).1
    have h1:=h.ah x hx' e he
    exact⟨h1.1,(fN _).2 ⟨h1.2,hne x hx' e he⟩⟩
   ·by_cases e:x=t.k
    ·subst e
     refine⟨hen,?_⟩
     cases hu:(obj S.O t.k).up with
     | none=>rfl
     | some y=>
       obtain⟨_,h2,n,h3⟩:=(h.up t ht y).1 hu
       exact absurd rfl (hne _ h2 _ (lS h3))
    exact h.dead x (fun y hy e2=>hx y ((fN y).2 ⟨hy,fun e3=>e (e2.symm.trans e3)⟩) e2)
   ·show S.X.ah=(tot (del (t.k:Int) S.idx) S.O:Int)/\_
    rw [nu,hsum,← nu];exact h.total
   ·show _=(iT (del (t.k:Int) S.idx) S.O x.k:Int)
    have:iT (del (t.k:Int) S.idx) S.O x.k=iT S.idx S.O x.k:=hsum _
    rw [this];exact h.links x ((fN x).1 hx).1
   ·obtain⟨h1,h2⟩:=h.us i x e
    refine⟨(fN x).2 ⟨h1,fun e2=>?_⟩,h2⟩
    have h3:=h.opens t ht
    have h4:0 < hnd S.us t.k:=Nat.lt_of_lt_of_le (by simp [e2]) (kC (g:=fun p:Int×Th=>if p.2.k=t.k then 1 else 0) e)
    omega
   ·rw [h.up x ((fN x).1 hx).1 e]
    constructor
    ·rintro⟨h1,h2,n,h3⟩
     refine⟨h1,(fN _).2 ⟨h2,fun e2=>?_⟩,n,h3⟩
     have e2:e=t.k:=e2
     rw [e2,hen] at h3;cases h3
    rintro⟨h1,h2,h3⟩
    exact⟨h1,((fN _).1 h2).1,h3⟩
   obtain⟨h1,h2⟩:=h.used
   have h3:dx (fun p:Int×Th=>(obj S.O p.2.k).data.length) (del (t.k:Int) S.idx)+(obj S.O t.k).data.length=dx (fun p:Int×Th=>(obj S.O p.2.k).data.length) S.idx:=BJ (g:=fun p:Int×Th=>(obj S.O p.2.k).data.length) h.rise ht
   show S.X.used - ((obj S.O t.k).data.length:Int)=(bytes (del (t.k:Int) S.idx) S.O:Int)/\S.X.used - ((obj S.O t.k).data.length:Int)<=140737488355328
   unfold bytes at h1 ⊢
   omega
  have e1:Proofs.YtiehgnlnofhbaaaGreatDoor.sR S t=S:=by
    unfold Proofs.YtiehgnlnofhbaaaGreatDoor.sR jO jj
    rw [if_neg hF,if_neg hF]
  rw [e1]
  refine { h with full:=fun u hu hg=>?_ }
  by_cases e:u=t
  ·subst e
   have h1:=h.opens u hu
   have:¬ (obj S.O u.k).opens=0:=fun e=>hF ⟨hg,e⟩
   omega
  exact hf u hu e hg
end inv
end
section
open Go.RowKit Go.Maps bC aE
section facts
variable {S:aI} {X:FM} {O:bW} {d k:Nat} {name:ByteArray} {t u:Th}
theorem dF {α:Type} {g:aY->α} (h1:∀ o es,g { o with ah:=es }=g o) (h2:∀ o l,g { o with links:=l }=g o) (h3:∀ o a b,g { o with sec:=a,nano:=b }=g o):g (obj (aQ X O d name t) k)=g (obj O k):=by
  unfold aQ pY
  rw [cE (fun o=>h2 o _),cE (fun o=>h3 o _ _),cE (fun o=>h1 o _)]
theorem mh {α:Type} {g:aY->α} (h1:∀ o es,g { o with ah:=es }=g o) (h2:∀ o l,g { o with links:=l }=g o) (h3:∀ o a b,g { o with sec:=a,nano:=b }=g o) (h4:∀ o u,g { o with up:=u }=g o):g (obj (cO X O d name t) k)=g (obj O k):=by
  unfold cO pY
  rw [cE (fun o=>h3 o _ _),BD h1 h2 h4]
theorem Inv0.hX (h:Inv0 S):0<=S.X.ah/\S.X.ah<=1048576/\-1125899906842624<=S.X.used/\S.X.used<=1125899906842624/\0<=S.X.last/\S.X.last<=1125899906842624:=by
  have:=h.total;have:=h.used;have:=h.last
  omega
theorem Inv0.iL (h:Inv0 S) (hl:Live S.idx t):(obj S.O t.k).ah.length<=8192:=by
  have h1:=h.total
  have h2:(obj S.O t.k).ah.length<=tot S.idx S.O:=kC (g:=fun p:Int×Th=>(obj S.O p.2.k).ah.length) hl
  omega
theorem Inv0.lb (h:Inv0 S) (hl:Live S.idx t):0<=(obj S.O t.k).links/\(obj S.O t.k).links<=8192:=by
  have h1:=h.total
  have h2:=h.links t hl
  have h3:iT S.idx S.O t.k<=tot S.idx S.O:=MP
  omega
theorem TF {us:Used Th}:hnd us k<=us.length:=by
  have:hnd us k<=dx (fun _=>1) us:=JK (fun p _=>by split<;>omega)
  have h2:∀ us:Used Th,dx (fun _=>1) us=us.length:=fun us=>by
    induction us with
    | nil=>rfl
    | cons p r ih=>show 1+_=_;rw [ih,List.length_cons];omega
  rw [h2] at this;exact this
theorem Inv0.GK (h:Inv0 S) (hl:Live S.idx t):0<=(obj S.O t.k).opens/\(obj S.O t.k).opens<=1024:=by
  have h1:=h.opens t hl
  have h2:hnd S.us t.k<=S.us.length:=TF
  have:=h.CI;have:=h.cH
  omega
theorem Inv0.GL (h:Inv0 S) (hl:Live S.idx t):(obj S.O t.k).data.length<=1125899906842624:=by
  have h1:=h.used
  have h2:(obj S.O t.k).data.length<=bytes S.idx S.O:=kC (g:=fun p:Int×Th=>(obj S.O p.2.k).data.length) hl
  omega
theorem Inv0.KJ (h:Inv0 S) (hl:Live S.idx t):(obj S.O t.k).data.length<=140737488355328:=by
  have h1:=h.used
  have h2:(obj S.O t.k).data.length<=bytes S.idx S.O:=kC (g:=fun p:Int×Th=>(obj S.O p.2.k).data.length) hl
  omega
theorem Inv0.JL (h:Inv0 S) (hl:Live S.idx t):(Lit.int .i64 (obj S.O t.k).id).wf=true:=by
  have h1:=h.ob t hl
  have h2:=h.idx _ t hl
  have h3:=h.last
  exact WalkArith.wf_i64 (by omega)
theorem Inv0.pZ (h:Inv0 S) (hd:Live S.idx ⟨d,2⟩) (name:ByteArray):aT name (obj S.O d).ah=none\/(∃ k,aT name (obj S.O d).ah=some ⟨k,1⟩/\Live S.idx ⟨k,1⟩)\/(∃ k,aT name (obj S.O d).ah=some ⟨k,2⟩/\Live S.idx ⟨k,2⟩)\/∃ k,aT name (obj S.O d).ah=some ⟨k,3⟩/\Live S.idx ⟨k,3⟩:=by
  cases e:aT name (obj S.O d).ah with
  | none=>exact .inl rfl
  | some t=>
    obtain⟨k,kd⟩:=t
    have h1:=(h.ent hd e).2
    rcases (h.ob _ h1).2.2 with e2|e2|e2<;>subst e2
    ·exact .inr (.inl ⟨k,rfl,h1⟩)
    ·exact .inr (.inr (.inl ⟨k,rfl,h1⟩))
    exact .inr (.inr (.inr ⟨k,rfl,h1⟩))
theorem Inv0.TG (h:Inv0 S) (i:Int):aE.get S.idx i=none\/(∃ k,aE.get S.idx i=some ⟨k,1⟩/\Live S.idx ⟨k,1⟩)\/(∃ k,aE.get S.idx i=some ⟨k,2⟩/\Live S.idx ⟨k,2⟩)\/∃ k,aE.get S.idx i=some ⟨k,3⟩/\Live S.idx ⟨k,3⟩:=by
  cases e:aE.get S.idx i with
  | none=>exact .inl rfl
  | some t=>
    obtain⟨k,kd⟩:=t
    have h1:=h.live e
    rcases (h.ob _ h1).2.2 with e2|e2|e2<;>subst e2
    ·exact .inr (.inl ⟨k,rfl,h1⟩)
    ·exact .inr (.inr (.inl ⟨k,rfl,h1⟩))
    exact .inr (.inr (.inr ⟨k,rfl,h1⟩))
theorem Inv0.hand (h:Inv0 S) (i:Int):aE.get S.us i=none\/(∃ k,aE.get S.us i=some ⟨k,1⟩/\Live S.idx ⟨k,1⟩)\/∃ k,aE.get S.us i=some ⟨k,2⟩/\Live S.idx ⟨k,2⟩:=by
  cases e:aE.get S.us i with
  | none=>exact .inl rfl
  | some t=>
    obtain⟨k,kd⟩:=t
    obtain⟨h1,h0⟩:=h.us i _ e
    rcases (h.ob _ h1).2.2 with e2|e2|e2
    ·simp only at e2;subst e2;exact .inr (.inl ⟨k,rfl,h1⟩)
    ·simp only at e2;subst e2;exact .inr (.inr ⟨k,rfl,h1⟩)
    exact absurd e2 h0
theorem Inv0.VD (h:Inv0 S) (hd:Live S.idx ⟨d,2⟩) (hl:aT name (obj S.O d).ah=some t):1<=S.X.ah:=by
  have h1:=h.total
  have h2:0 < iT S.idx S.O t.k:=mM hd hl
  have h3:iT S.idx S.O t.k<=tot S.idx S.O:=MP
  omega
theorem Inv0.AJ (h:Inv0 S) (hd:Live S.idx ⟨d,2⟩) (hl:aT name (obj S.O d).ah=some t):0<=S.X.ah - 1/\S.X.ah - 1<=1048576/\-1125899906842624<=S.X.used/\S.X.used<=1125899906842624/\0<=S.X.last/\S.X.last<=1125899906842624:=by
  have:=h.VD hd hl;have:=h.hX
  omega
theorem wU {L:HL} {us:Used Th} {h:Int} (e:aE.get us h=none):aE.get (bI L us) h=none:=by
  unfold bI;rw [get_map,e];rfl
theorem qH {L:HL} {us:Used Th} {h:Int} (e:aE.get us h=some t):aE.get (bI L us) h=some (ez L t):=by
  unfold bI;rw [get_map,e];rfl
theorem tq {L:HL} {us:Used Th} {h:Int} (hn:aE.get us h=none):kf (bE (bI L us)) (.int .i64 h) (some (ez L t))=bE (bI L (ins h t us)):=by
  rw [D3 (get_none.1 (wU hn))]
  exact congrArg bE (JG (ez L) h t us).symm
theorem MQ {L:HL} {us:Used Th}:aE.least (bI L us)=aE.least us:=by unfold aE.least;rw [BG]
theorem D5 {TT:TypeId} {L:HL} {us:Used Th} {v:Value} {l:List HP} {b:Nat} {most aD:Int} (h:v=.tuple #[.int .i64 (aE.least (bI L us)),.int .i64 0]/\l=[.abs (dV TT b most (max aD (((bI L us).length:Int)+1)) (ins (aE.least (bI L us)) (ez L t) (bI L us)))]):v=.tuple #[.int .i64 (aE.least us),.int .i64 0]/\l=[.abs (dV TT b most (max aD ((us.length:Int)+1)) (bI L (ins (aE.least us) t us)))]:=by
  rw [MQ,qD] at h
  have e:ins (aE.least us) (ez L t) (bI L us)=bI L (ins (aE.least us) t us):=(JG (ez L) (aE.least us) t us).symm
  rw [e] at h
  exact h
theorem Pq {α:Type} {es:fS α} {n:ByteArray} (h:es=[]):aT n es=none:=by rw [h];rfl
end facts
section blocks
variable {O:bW} {L:HL} {k j:Nat} {t u:Th}
theorem zX (hk:(obj O k).kind≠0) {F:Fp} {w:World} (h:(aH (bR O L)).h F w):∃ cs T,w.heap[L.b k]?=some (.cells cs T (0,0)):=by
  obtain⟨G,g⟩:=aH.at k h
  rw [l5 hk] at g
  exact⟨_,_,g.1⟩
theorem JM (hk:(obj O k).kind≠0) (hj:(obj O j).kind≠0) {F:Fp} {w:World} (h:(aH (bR O L)).h F w) (e:L.b k=L.b j):k=j:=by
  apply Classical.byContradiction
  intro hne
  obtain⟨φ,h1,h2,_⟩:=h
  have g1:=h1 k
  have g2:=h1 j
  rw [l5 hk] at g1
  rw [l5 hj] at g2
  exact h2 k j hne (L.b k) ((g1.2 _).2 rfl) ((g2.2 _).2 e)
theorem D6:Tryz.prog.underlying 169=some (.pointer 176):=by kernel_rfl
theorem Pr:Tryz.prog.underlying 162=some (.pointer 165):=by kernel_rfl
theorem Pt:Tryz.prog.underlying 166=some (.pointer 168):=by kernel_rfl
end blocks
end
section
open Go.RowKit Go.Maps bC aE
theorem Pu {s:ByteArray}:0<=Lib.indexByte s.data.toList ((0:Int).toNat.toUInt8)↔¬ zJ s:=by
  have hge:=Lib.indexByte_ge s.data.toList ((0:Int).toNat.toUInt8)
  constructor
  ·intro h hn
   obtain⟨o,ho⟩:=Int.eq_ofNat_of_zero_le h
   have h1:=(Lib.indexByte_some ho).1
   obtain⟨h2,h3⟩:=yA h1
   exact hn o h2 h3
  intro hn
  apply Classical.byContradiction
  intro hlt
  refine hn (fun j hj h0=>Lib.indexByte_none (show Lib.indexByte s.data.toList ((0:Int).toNat.toUInt8) = -1 by omega) j ?_)
  rw [q5 hj]
  congr 1
  apply UInt8.toNat_inj.1
  exact h0
theorem I9 {β:Bs} (s:ByteArray):Spec Tryz.prog β 105 #[.string s,.int .u8 0] [] (fun v l=>(∃ x:Int,v=.int .i64 x/\(0<=x↔¬ zJ s))/\l=[]):=
  fun _ w hS=>(Tryz.strings_IndexByte s 0 w).mono fun _ _ ⟨h1,h2⟩=>⟨_,[],h1,⟨⟨_,rfl,Pu⟩,rfl⟩,h2 ▸ hS⟩
section ptr
variable {O:bW} {L:HL} {k j:Nat}
theorem Pv:∃ j,Tryz.prog.info? 176=some j/\j.size≠0:=by
  have h:(match Tryz.prog.info? 176 with|some j=>j.size != 0|none=>false)=true:=by kernel_rfl
  cases e:Tryz.prog.info? 176 with
  | none=>rw [e] at h;cases h
  | some j=>rw [e] at h;exact⟨j,rfl,by simpa using h⟩
theorem MR {w:World} {o:Oper} {ev:Operand->Value} {x y:Operand} (ho:o.op=.binOp .eql 169 x y 169) (hx:ev x=.pointer (some ⟨L.b k,0,none⟩)) (hy:ev y=.pointer (some ⟨L.b j,0,none⟩)) (hk:(obj O k).kind≠0) (hj:(obj O j).kind≠0) {F:Fp} (hF:(aH (bR O L)).h F w) :
    pK Tryz.prog ev o w (.bool (decide (k=j))) w:=by
  obtain⟨dst,op,type,pos,after,guard⟩:=o
  cases ho
  refine .inl ?_
  simp only [execOp,hx,hy]
  obtain⟨ca,ta,ha⟩:=zX hk hF
  obtain⟨cb,tb,hb⟩:=zX hj hF
  obtain⟨i,hi,hsz⟩:=Pv
  have h1:(binOp .eql 169 (.pointer (some ⟨L.b k,0,none⟩)) (.pointer (some ⟨L.b j,0,none⟩))).run Tryz.prog w=.ok (.bool (decide (k=j))) w:=by
    by_cases e:k=j
    ·subst e
     rw [run_eql_ptr_same _ _ D6 hi]
     simp
    rw [run_eql_ptr_other _ D6 hi hsz (fun h=>e (JM hk hj hF (congrArg Addr.block h))) ha hb]
    simp [e]
  simp [go_sem,eqGuard,h1]
def GN (tp te:TypeId):Prop:=Tryz.prog.underlying tp=some (.pointer te)/\(∃ i,Tryz.prog.info? tp=some i/\i.comparable=true)/\∃ j,Tryz.prog.info? te=some j/\j.size≠0
theorem D7 {tp te:TypeId} (h1:Tryz.prog.underlying tp=some (.pointer te)) (h2:(match Tryz.prog.info? tp with|some j=>j.comparable|none=>false)=true) (h3:(match Tryz.prog.info? te with|some j=>j.size != 0|none=>false)=true):GN tp te:=by
  refine⟨h1,?_,?_⟩
  ·cases e:Tryz.prog.info? tp with
   | none=>rw [e] at h2;cases h2
   | some j=>rw [e] at h2;exact⟨j,rfl,h2⟩
  cases e:Tryz.prog.info? te with
  | none=>rw [e] at h3;cases h3
  | some j=>rw [e] at h3;exact⟨j,rfl,by simpa using h3⟩
theorem TH:GN 162 165:=D7 Pr (by kernel_rfl) (by kernel_rfl)
theorem VE:GN 169 176:=D7 D6 (by kernel_rfl) (by kernel_rfl)
theorem TJ:GN 166 168:=D7 Pt (by kernel_rfl) (by kernel_rfl)
theorem BK {tp te:TypeId} (hT:GN tp te) {w:World} {o:Oper} {ev:Operand->Value} {x y:Operand} (ho:o.op=.binOp .eql 156 x y 156) (hx:ev x=.iface tp (.pointer (some ⟨L.b k,0,none⟩))) (hy:ev y=.iface tp (.pointer (some ⟨L.b j,0,none⟩))) (hk:(obj O k).kind≠0) (hj:(obj O j).kind≠0) {F:Fp} (hF:(aH (bR O L)).h F w) :
    pK Tryz.prog ev o w (.bool (decide (k=j))) w:=by
  obtain⟨dst,op,type,pos,after,guard⟩:=o
  cases ho
  refine .inl ?_
  simp only [execOp,hx,hy]
  obtain⟨ca,ta,ha⟩:=zX hk hF
  obtain⟨cb,tb,hb⟩:=zX hj hF
  obtain⟨g1,⟨i,hi,hc⟩,j',hj',hsz⟩:=hT
  have h1:(binOp .eql 156 (.iface tp (.pointer (some ⟨L.b k,0,none⟩))) (.iface tp (.pointer (some ⟨L.b j,0,none⟩)))).run Tryz.prog w=.ok (.bool (decide (k=j))) w:=by
    by_cases e:k=j
    ·subst e
     rw [run_eql_iface_ptr_same _ _ Tryz.underlying156 g1 hi hc hj']
     simp
    rw [run_eql_iface_ptr_other _ Tryz.underlying156 g1 hi hc hj' hsz (fun h=>e (JM hk hj hF (congrArg Addr.block h))) ha hb]
    simp [e]
  simp [go_sem,eqGuard,h1]
end ptr
end
section
open Go.RowKit Go.Maps bC aE
structure uE (O:bW) (idx us:Used Th) (k:Nat):Prop where
  up:∀ x,(obj O x).up≠some k
  ah:∀ x,∀ e∈(obj O x).ah,e.2.k≠k
  idx:∀ p∈idx,p.2.k≠k
  us:∀ p∈us,p.2.k≠k
section fresh
variable {S:aI} {O:bW} {idx us:Used Th} {L L':HL} {k b m c:Nat} {A:Option Addr} {o:aY} {t:Th}
theorem pq (h:Inv0 S):(bG S.X:Int)=S.X.last+1:=by
  have:=h.last
  unfold bG
  omega
theorem Inv0.yN (h:Inv0 S) (ht:Live S.idx t):t.k≠bG S.X:=h.free (by have:=pq h;omega) ht
theorem Inv0.D8 (h:Inv0 S) (hk:S.X.last < (k:Int)):uE S.O S.idx S.us k:=by
  have key:∀ x,(∃ t,Live S.idx t/\t.k=x)\/(obj S.O x).ah=[]/\(obj S.O x).up=none:=fun x=>by
    by_cases hx:∃ t,Live S.idx t/\t.k=x
    ·exact .inl hx
    exact .inr (h.dead x (fun t ht e=>hx ⟨t,ht,e⟩))
  refine⟨fun x e=>?_,fun x e he=>?_,fun p hp=>?_,fun p hp=>?_⟩
  ·rcases key x with ⟨t,ht,rfl⟩|hx
   ·obtain⟨_,h2,_⟩:=(h.up t ht _).1 e
    exact h.free hk h2 rfl
   rw [hx.2] at e;cases e
  ·rcases key x with ⟨t,ht,rfl⟩|hx
   ·exact h.free hk (h.ah t ht e he).2
   rw [hx.1] at he;cases he
  ·exact h.free hk (h.live (o9 h.rise hp))
  exact h.free hk (h.us _ _ (o9 h.usr hp)).1
theorem Inv0.fresh (h:Inv0 S):uE S.O S.idx S.us (bG S.X):=h.D8 (by have:=pq h;omega)
theorem zY (hL:L'=L.put k b m A c) {x:Nat} (h:x≠k):L'.b x=L.b x:=by subst hL;exact if_neg h
theorem GP (hL:L'=L.put k b m A c):L'.b k=b:=by subst hL;exact if_pos rfl
theorem GQ (hL:L'=L.put k b m A c):L'.m k=m:=by subst hL;exact if_pos rfl
theorem MS (hL:L'=L.put k b m A c) (h:t.k≠k):ez L' t=ez L t:=by unfold ez;rw [zY hL h]
theorem tu (hL:L'=L.put k b m A c) (kind:Int):ez L' ⟨k,kind⟩=.iface (Wi kind) (.pointer (some ⟨b,0,none⟩)):=by unfold ez;rw [GP hL]
theorem kD (hL:L'=L.put k b m A c) (h:∀ p∈us,p.2.k≠k):bI L' us=bI L us:=List.map_congr_left (fun p hp=>by rw [MS hL (h p hp)])
theorem Pw {es:fS Th} {n:ByteArray} (h:∀ e∈es,e.2.k≠k) (e:aT n es=some t):t.k≠k:=h _ (lS e)
theorem Px (hL:L'=L.put k b m A c) {es:fS Th} (h:∀ e∈es,e.2.k≠k):jh L' es=jh L es:=by
  unfold jh
  congr 1
  funext n
  cases e:aT n es with
  | none=>rfl
  | some t=>exact congrArg some (MS hL (Pw h e))
theorem R7 (hL:L'=L.put k b m A c) (hf:uE O idx us k) {x:Nat} (h:x≠k):bR O L' x=bR O L x:=by
  have e1:=zY hL h
  have e2:iE L' x (obj O x)=iE L x (obj O x):=by
    unfold iE zO
    have h1:AF L' (obj O x).up=AF L (obj O x).up:=by
      cases hu:(obj O x).up with
      | none=>rfl
      | some d=>show Value.pointer _=Value.pointer _;rw [zY hL (fun e=>hf.up x (by rw [hu,e]))]
    rw [h1]
    subst hL
    simp only [HL.put,if_neg h]
  unfold bR
  rw [e1,e2]
theorem JN (hL:L'=L.put k b m A c) (hf:uE O idx us k) {x:Nat} (h:x≠k):dg O L' x=dg O L x:=by
  unfold dg
  rw [Px hL (hf.ah x)]
  subst hL
  simp only [HL.put,if_neg h]
theorem D9 (hL:L'=L.put k b m A c) {x:Nat} (h:x≠k):ct O L' x=ct O L x:=by
  unfold ct
  subst hL
  simp only [HL.put,if_neg h]
end fresh
theorem tS {O O':bW} {L:HL} (h1:∀ x,(obj O' x).data=(obj O x).data) (h2:∀ x,(obj O' x).kind=(obj O x).kind):ct O' L=ct O L:=by
  funext x
  unfold ct
  rw [h1,h2]
theorem jU {X:FM} {O:bW} {L:HL} {d:Nat} {name:ByteArray} {t:Th}:ct (cO X O d name t) L=ct O L:=
  tS (fun _=>mh (g:=aY.data) (fun _ _=>rfl) (fun _ _=>rfl) (fun _ _ _=>rfl) (fun _ _=>rfl)) (fun _=>I5)
theorem kJ {X:FM} {O:bW} {L:HL} {d:Nat} {name:ByteArray} {t:Th}:ct (aQ X O d name t) L=ct O L:=
  tS (fun _=>dF (g:=aY.data) (fun _ _=>rfl) (fun _ _=>rfl) (fun _ _ _=>rfl)) (fun _=>cQ)
theorem qI {α:Type} {g:aY->α} {O:bW} {k j:Nat} (h:∀ o b,g { o with gone:=b }=g o):g (obj (mQ O j) k)=g (obj O k):=cE (f:=fun o=>{ o with gone:=true }) (fun o=>h o true)
theorem Py {O:bW} {L:HL} {k:Nat}:ct (mQ O k) L=ct O L:=tS (fun _=>qI (g:=aY.data) (fun _ _=>rfl)) (fun _=>qI (g:=aY.kind) (fun _ _=>rfl))
theorem oJ {S:aI} {L:HL} {d:Nat} {name:ByteArray} {t:Th}:ct (aJ S d name t).O L=ct S.O L:=by
  unfold aJ
  simp only
  split
  ·exact Py.trans kJ
  exact kJ
theorem CK {S:aI} {d k:Nat} {name:ByteArray} {t:Th}:(obj (aJ S d name t).O k).kind=(obj S.O k).kind:=by
  unfold aJ
  simp only
  split
  ·exact (qI (g:=aY.kind) (fun _ _=>rfl)).trans cQ
  exact cQ
theorem rK {X:FM} {O:bW} {idx:Used Th} {d:Nat} {name:ByteArray} (h:cR X O idx d name=0):aT name (obj O d).ah=none:=by
  unfold cR at h
  split at h
  ·assumption
  cases h
theorem vn {X:FM} {O:bW} {idx:Used Th} {d:Nat} {name:ByteArray} (h:cR X O idx d name=0):Room X idx:=by
  unfold cR at h
  split at h
  ·split at h
   ·assumption
   cases h
  cases h
theorem vo {X:FM} {O:bW} {idx:Used Th} {d:Nat} {name:ByteArray} (h:cR X O idx d name=0):X.last < 1099511627776:=(vn h).2.1
section sat
variable {β:Bs} {l l':List HP} {w:World} {i j k b m c:Nat} {O:bW} {us:Used Th} {idx' us':Used Th} {L L':HL} {cs:List Value} {T:TypeId} {ix:List Nat} {A:Option Addr} {o:aY} {R R':Nat->bV}
theorem Sat.less {p p':HP} (h:Sat β l w) (hp:l[i]?=some p) (hs:∀ F,p.h F w->∃ F',p'.h F' w/\∀ x,F' x->F x):Sat β (l.set i p') w:=
  h.set hp (fun F hF=>let ⟨F',h1,h2⟩:=hs F hF;⟨F',h1,⟨Keeps.refl _ _,fun k hk=>.inl (h2 k hk)⟩⟩)
theorem Sat.MT (h:Sat β l w) (hp:l[i]?=some (.abs (aH R))) (k:Nat) (hR:∀ x,x≠k->R' x=R x) (ha:R' k=bV.none):Sat β (l.set i (.abs (aH R'))) w:=by
  refine h.less hp ?_
  rintro F ⟨φ,h1,h2,h3⟩
  refine⟨fun x=>∃ i,i≠k/\φ i x,⟨fun i=>if i=k then fun _=>False else φ i,fun i=>?_,fun i j hne x hx hy=>?_,fun x=>⟨fun ⟨i,hne,hx⟩=>⟨i,by simpa [hne] using hx⟩,fun ⟨i,hx⟩=>?_⟩⟩,fun x ⟨i,_,hx⟩=>(h3 x).2 ⟨i,hx⟩⟩
  ·by_cases e:i=k
   ·subst e;simp only [if_true];rw [ha];exact fun _ h=>h
   simp only [e,if_false];rw [hR i e];exact h1 i
  ·by_cases e1:i=k
   ·simp [e1] at hx
   by_cases e2:j=k
   ·simp [e2] at hy
   exact h2 i j hne x (by simpa [e1] using hx) (by simpa [e2] using hy)
  by_cases e1:i=k
  ·simp [e1] at hx
  exact⟨i,e1,by simpa [e1] using hx⟩
theorem Sat.zZ (h:Sat β l w) (hL:L'=L.put k b m A c) (hf:uE O idx' us' k) (hp:l[i]?=some (.abs (aH (bR O L)))) (hq:l[j]?=some (.blk b cs T)) (hd:nodupB (i::j::ix)=true) (hl:bO l ix=some l') (h0:o.kind≠0) (hc:iE L' k o=cs) (hT:si o.kind=T):Sat β (.abs (aH (bR (aO O k (fun _=>o)) L'))::l') w:=by
  refine h.sP (a:=DY b cs T) hp hq (fun _ _ h=>h) hd hl k (fun x hx=>?_) (by rw [zP,if_neg h0,hc,hT,GP hL])
  rw [Cx hx,R7 hL hf hx]
theorem Sat.QW (h:Sat β l w) (hL:L'=L.put k b m A c) (hf:uE O idx' us' k) (hp:l[i]?=some (.abs (aH (dg O L)))) (hq:l[j]?=some (.abs (aN Tryz.prog 9 m (fun _=>none) 0))) (hd:nodupB (i::j::ix)=true) (hl:bO l ix=some l') (h2:o.kind=2) (he:o.ah=[]):Sat β (.abs (aH (dg (aO O k (fun _=>o)) L'))::l') w:=by
  refine h.sP hp hq (fun _ _ h=>h) hd hl k (fun x hx=>by rw [Cy hx,JN hL hf hx]) ?_
  rw [o6 (by rw [cD];exact h2),cD,he,O6,GQ hL];rfl
theorem Sat.CM (h:Sat β l w) (hL:L'=L.put k b m A c) (hf:uE O idx' us' k) (hp:l[i]?=some (.abs (aH (dg O L)))) (h2:o.kind≠2):Sat β (l.set i (.abs (aH (dg (aO O k (fun _=>o)) L')))) w:=by
  refine h.MT hp k (fun x hx=>by rw [Cy hx,JN hL hf hx]) ?_
  unfold dg;rw [cD,if_neg h2]
theorem Sat.CN (h:Sat β l w) (hL:L'=L.put k b m A c) (hp:l[i]?=some (.abs (aH (ct O L)))) (h1:o.kind≠1):Sat β (l.set i (.abs (aH (ct (aO O k (fun _=>o)) L')))) w:=by
  refine h.MT hp k (fun x hx=>by rw [Cz hx,D9 hL hx]) ?_
  unfold ct;rw [cD,if_neg h1]
theorem Sat.VF (h:Sat β l w) (hL:L'=L.put k b m none 0) (hp:l[i]?=some (.abs (aH (ct O L)))) (hq:l[j]?=some (.abs (aK 5 1 none 0 0 []))) (hd:nodupB (i::j::ix)=true) (hl:bO l ix=some l') (h1:o.kind=1) (he:o.data=[]):Sat β (.abs (aH (ct (aO O k (fun _=>o)) L'))::l') w:=by
  refine h.sP hp hq (fun _ _ h=>h) hd hl k (fun x hx=>by rw [Cz hx,D9 hL hx]) ?_
  rw [tM (by rw [cD];exact h1),cD,he]
  subst hL
  simp only [HL.put,if_true]
  rfl
end sat
end
section
open Go.RowKit Go.Maps bC aE
section inv
variable {S:aI} {d:Nat} {name:ByteArray} {t:Th} {O':bW}
theorem j8.del {es:fS Th} (h:j8 es):j8 (ig name es):=List.Pairwise.filter _ h
theorem tT {x y:ByteArray}:¬ ju x y↔oq y x < 0:=by
  unfold ju
  rw [Cc,Lib.toList_data,Lib.toList_data]
  have h1:=@EJ x.data.toList y.data.toList
  have h2:=@EM x y
  have h3:=yt x y
  unfold oq at h2 h3 ⊢
  rw [Bool.or_eq_true,decide_eq_true_iff,← h1,← h2]
  omega
theorem j8.ins {es:fS Th} (h:j8 es) (hn:aT name es=none):j8 (ic name t es):=by
  induction es with
  | nil=>exact List.pairwise_singleton ..
  | cons e r ih=>
    obtain⟨h1,h2⟩:=List.pairwise_cons.1 h
    have hall:=wM.1 hn
    unfold ic
    split
    ·rename_i hlt
     refine List.pairwise_cons.2 ⟨fun x hx=>?_,h⟩
     rcases List.mem_cons.1 hx with rfl|hx
     ·exact hlt
     have h3:=h1 x hx
     exact tT.2 (Cn (tT.1 hlt) (Int.le_of_lt (tT.1 h3)))
    rename_i hle
    refine List.pairwise_cons.2 ⟨fun x hx=>?_,ih h2 (wM.2 (fun x hx=>hall x (List.mem_cons_of_mem _ hx)))⟩
    rcases Bz.1 hx with rfl|hx
    ·have hne:¬ e.1=name:=hall e (List.mem_cons_self ..)
     refine tT.2 ?_
     have h4:¬ oq name e.1 < 0:=fun hc=>hle (tT.2 hc)
     have h5:=yt e.1 name
     have h6:¬ oq e.1 name=0:=fun hc=>hne (EM.1 hc)
     show oq e.1 name < 0
     omega
    exact h1 x hx
theorem Inv0.cut (hI:Inv0 S) (hd:Live S.idx ⟨d,2⟩) (hl:aT name (obj S.O d).ah=some t) {g:Bool}
    (hO:∀ k,obj O' k=if k=d then { obj S.O d with ah:=ig name (obj S.O d).ah,sec:=S.X.cS,nano:=S.X.cZ } else if k=t.k then { obj S.O k with links:=(obj S.O k).links - 1,gone:=g,up:=none } else obj S.O k)
    (hg:g=(obj S.O t.k).gone\/(obj S.O t.k).links - 1=0/\(t.kind=2->(obj S.O t.k).ah=[])):Inv0 { S with X:={ S.X with ah:=S.X.ah - 1 },O:=O' }:=by
  have hne:=hI.ne hd hl
  have ht:=(hI.ent hd hl).2
  have oD:obj O' d={ obj S.O d with ah:=ig name (obj S.O d).ah,sec:=S.X.cS,nano:=S.X.cZ }:=by rw [hO,if_pos rfl]
  have oT:obj O' t.k={ obj S.O t.k with links:=(obj S.O t.k).links - 1,gone:=g,up:=none }:=by rw [hO,if_neg hne,if_pos rfl]
  have oX:∀ x,x≠d->x≠t.k->obj O' x=obj S.O x:=fun x h1 h2=>by rw [hO,if_neg h1,if_neg h2]
  have AK:∀ {α:Type} (G:aY->α),(∀ o es a b,G { o with ah:=es,sec:=a,nano:=b }=G o)->(∀ o l g,G { o with links:=l,gone:=g,up:=none }=G o)->∀ x,G (obj O' x)=G (obj S.O x):=fun G h1 h2 x=>by
    by_cases e:x=d
    ·subst e;rw [oD];exact h1 _ _ _ _
    by_cases e2:x=t.k
    ·subst e2;rw [oT];exact h2 _ _ _
    rw [oX x e e2]
  have TK:=AK aY.id (fun _ _ _ _=>rfl) (fun _ _ _=>rfl)
  have CO:=AK aY.kind (fun _ _ _ _=>rfl) (fun _ _ _=>rfl)
  have KL:=AK aY.data (fun _ _ _ _=>rfl) (fun _ _ _=>rfl)
  have TL:=AK aY.opens (fun _ _ _ _=>rfl) (fun _ _ _=>rfl)
  have fE:∀ x,x≠d->(obj O' x).ah=(obj S.O x).ah:=fun x hx=>by
    by_cases e2:x=t.k
    ·subst e2;rw [oT]
    rw [oX x hx e2]
  have AL:(obj O' d).ah=ig name (obj S.O d).ah:=by rw [oD]
  have hlk:0 < iT S.idx S.O t.k:=mM hd hl
  have hlt:=hI.links t ht
  have hky:∀ i u,aE.get S.idx i=some u->i=(u.k:Int):=fun i u e=>hI.key e
  have hsum:∀ q:ByteArray×Th->Bool,_:=fun q=>Pn (q:=q) hI.rise hd hky fE AL (hI.twice hd) hl
  have KM:∀ x,iT S.idx O' x+(if t.k=x then 1 else 0)=iT S.idx S.O x:=fun x=>by
    have h1:=hsum (fun e=>decide (e.2.k=x))
    simp only [decide_eq_true_eq] at h1
    exact h1
  refine { hI with ob:=fun x hx=>?_,mt:=fun x hx=>?_,ah:=fun x hx e he=>?_,sorted:=fun x hx=>?_,dead:=fun x hx=>?_,uD:=fun x hx=>(CO x).trans (hI.uD x hx),total:=?_,links:=fun x hx=>?_,once:=fun x hx hk=>?_,opens:=fun x hx=>?_,gone:=fun x hx jE=>?_,up:=fun x hx e=>?_,deep:=?_,used:=?_ }
  ·show (obj O' x.k).id=_/\(obj O' x.k).kind=_/\_
   rw [TK,CO];exact hI.ob x hx
  ·show lg (obj O' x.k)
   have hm:=hI.mt x hx
   by_cases e:x.k=d
   ·rw [e] at hm ⊢
    rw [oD]
    exact hm.of rfl rfl rfl hI.now rfl (.inl rfl) (.inr (hI.kind hd)) rfl
   by_cases e2:x.k=t.k
   ·rw [e2] at hm ⊢
    rw [oT]
    exact hm.of rfl rfl rfl hm.time rfl (.inl rfl) (.inl rfl) rfl
   rw [oX _ e e2];exact hm
  ·by_cases e1:x.k=d
   ·have he:e∈(obj O' x.k).ah:=he
    rw [e1,AL] at he
    exact hI.ah _ hd e (Pm he).1
   have he:e∈(obj O' x.k).ah:=he
   rw [fE _ e1] at he
   exact hI.ah x hx e he
  ·show j8 (obj O' x.k).ah
   by_cases e1:x.k=d
   ·rw [e1,AL];exact j8.del (hI.sorted _ hd)
   rw [fE _ e1];exact hI.sorted x hx
  ·show (obj O' x).ah=[]/\(obj O' x).up=none
   rw [oX x (fun e=>hx _ hd e.symm) (fun e=>hx t ht e.symm)]
   exact hI.dead x hx
  ·have h1:=hsum (fun _=>true)
   have h2:=hI.total
   rw [nu] at h2
   show S.X.ah - 1=(tot S.idx O':Int)/\S.X.ah - 1<=8192
   rw [nu]
   simp only [if_true] at h1
   omega
  ·show (obj O' x.k).links=(iT S.idx O' x.k:Int)
   have h1:=KM x.k
   have h2:=hI.links x hx
   by_cases e2:x.k=t.k
   ·rw [if_pos e2.symm] at h1
    rw [e2,oT]
    rw [e2] at h1
    show (obj S.O t.k).links - 1=_
    omega
   rw [if_neg (fun e=>e2 e.symm)] at h1
   have:(obj O' x.k).links=(obj S.O x.k).links:=by
     by_cases e:x.k=d
     ·rw [e,oD]
     rw [oX _ e e2]
   omega
  ·show (obj O' x.k).links<=1
   have h1:=hI.once x hx hk
   by_cases e2:x.k=t.k
   ·rw [e2] at h1 ⊢
    rw [oT]
    show (obj S.O t.k).links - 1<=1
    omega
   by_cases e:x.k=d
   ·rw [e] at h1 ⊢;rw [oD];exact h1
   rw [oX _ e e2];exact h1
  ·show (obj O' x.k).opens=_
   rw [TL];exact hI.opens x hx
  ·have jE:(obj O' x.k).gone=true:=jE
   show (obj O' x.k).links=0/\(obj O' x.k).ah=[]
   by_cases e2:x.k=t.k
   ·rw [e2] at jE ⊢
    rw [fE _ hne,oT]
    rw [oT] at jE
    show (obj S.O t.k).links - 1=0/\_
    rcases hg with h|⟨h1,h2⟩
    ·have jE:g=true:=jE
     rw [h] at jE
     have:=(hI.gone t ht jE).1
     omega
    refine⟨h1,?_⟩
    by_cases hk:t.kind=2
    ·exact h2 hk
    exact (hI.mt t ht).ah (by rw [hI.kind ht];exact hk)
   by_cases e:x.k=d
   ·rw [e,oD] at jE
    have:=(hI.gone _ hd jE).2
    rw [Pq this] at hl;cases hl
   rw [oX _ e e2] at jE ⊢;exact hI.gone x hx jE
  ·show (obj O' x.k).up=some e↔x.kind=2/\Live S.idx ⟨e,2⟩/\∃ n,aT n (obj O' e).ah=some x
   by_cases e2:x.k=t.k
   ·have MU:x=t:=iy hx ht e2
    subst MU
    rw [oT]
    constructor
    ·intro h;cases h
    rintro⟨hk,hle,n,hn⟩
    have h1:=hI.once x hx hk
    have h2:=KM x.k
    rw [if_pos rfl] at h2
    have h3:0 < iT S.idx O' x.k:=mM hle hn
    omega
   have h1:(obj O' x.k).up=(obj S.O x.k).up:=by
     by_cases e:x.k=d
     ·rw [e,oD]
     rw [oX _ e e2]
   have h2:∀ n,aT n (obj O' e).ah=some x↔aT n (obj S.O e).ah=some x:=fun n=>by
     by_cases e3:e=d
     ·rw [e3,AL,rG]
      by_cases hnn:n=name
      ·rw [if_pos hnn,hnn,hl]
       constructor
       ·intro h;cases h
       intro h;exact absurd (congrArg Th.k (Option.some.inj h)).symm e2
      rw [if_neg hnn]
     rw [fE _ e3]
   rw [h1,hI.up x hx e]
   simp only [h2]
  ·obtain⟨dp,hdp⟩:=hI.deep
   refine⟨dp,fun x e hx=>?_⟩
   have hx:(obj O' x).up=some e:=hx
   by_cases e2:x=t.k
   ·rw [e2,oT] at hx;cases hx
   by_cases e3:x=d
   ·rw [e3,oD] at hx;rw [e3];exact hdp _ _ hx
   rw [oX _ e3 e2] at hx;exact hdp _ _ hx
  have:bytes S.idx O'=bytes S.idx S.O:=gX (fun p _=>by rw [KL])
  show S.X.used=(bytes S.idx O':Int)/\_
  rw [this];exact hI.used
theorem wV {O O1:bW} {s k:Nat} (h:∀ x e,(obj O1 x).up=some e->(obj O x).up=some e) (hb:fV O1 s k):fV O s k:=by
  induction hb with
  | here=>exact .here
  | up hu _ ih=>exact .up (h _ _ hu) ih
theorem EV {O:bW} {s k:Nat}:fV O s k↔k=s\/∃ e,(obj O k).up=some e/\fV O s e:=by
  constructor
  ·rintro (_|⟨h1,h2⟩)
   ·exact .inl rfl
   exact .inr ⟨_,h1,h2⟩
  rintro (h|⟨e,h1,h2⟩)
  ·subst h;exact .here
  exact .up h1 h2
theorem Inv0.put (hI:Inv0 S) (hd:Live S.idx ⟨d,2⟩) (kq:(obj S.O d).gone=false) (hn:aT name (obj S.O d).ah=none) (hgn:bF name) (ht:Live S.idx t) (JJ:(obj S.O t.k).gone=false) (Pz:t.kind=2->(obj S.O t.k).links=0/\¬ fV S.O t.k d) (htd:t.k≠d) (hroom:S.X.ah < 8192) {ta tb:Int} (Yp:fL ta tb)
    (hO:∀ k,obj O' k=if k=d then { obj S.O d with ah:=ic name t (obj S.O d).ah,sec:=ta,nano:=tb } else if k=t.k then { obj S.O k with links:=(obj S.O k).links+1,up:=if t.kind=2 then some d else (obj S.O k).up } else obj S.O k) :
    Inv0 { S with X:={ S.X with ah:=S.X.ah+1 },O:=O' }:=by
  have hne:=htd
  have oD:obj O' d={ obj S.O d with ah:=ic name t (obj S.O d).ah,sec:=ta,nano:=tb }:=by rw [hO,if_pos rfl]
  have oT:obj O' t.k={ obj S.O t.k with links:=(obj S.O t.k).links+1,up:=if t.kind=2 then some d else (obj S.O t.k).up }:=by rw [hO,if_neg hne,if_pos rfl]
  have oX:∀ x,x≠d->x≠t.k->obj O' x=obj S.O x:=fun x h1 h2=>by rw [hO,if_neg h1,if_neg h2]
  have AK:∀ {α:Type} (G:aY->α),(∀ o es a b,G { o with ah:=es,sec:=a,nano:=b }=G o)->(∀ o l u,G { o with links:=l,up:=u }=G o)->∀ x,G (obj O' x)=G (obj S.O x):=fun G h1 h2 x=>by
    by_cases e:x=d
    ·subst e;rw [oD];exact h1 _ _ _ _
    by_cases e2:x=t.k
    ·subst e2;rw [oT];exact h2 _ _ _
    rw [oX x e e2]
  have TK:=AK aY.id (fun _ _ _ _=>rfl) (fun _ _ _=>rfl)
  have CO:=AK aY.kind (fun _ _ _ _=>rfl) (fun _ _ _=>rfl)
  have KL:=AK aY.data (fun _ _ _ _=>rfl) (fun _ _ _=>rfl)
  have TL:=AK aY.opens (fun _ _ _ _=>rfl) (fun _ _ _=>rfl)
  have fG:=AK aY.gone (fun _ _ _ _=>rfl) (fun _ _ _=>rfl)
  have fE:∀ x,x≠d->(obj O' x).ah=(obj S.O x).ah:=fun x hx=>by
    by_cases e2:x=t.k
    ·subst e2;rw [oT]
    rw [oX x hx e2]
  have AL:(obj O' d).ah=ic name t (obj S.O d).ah:=by rw [oD]
  have hky:∀ i u,aE.get S.idx i=some u->i=(u.k:Int):=fun i u e=>hI.key e
  have hsum:∀ q:ByteArray×Th->Bool,_:=fun q=>Po (q:=q) hI.rise hd hky fE AL
  have KM:∀ x,iT S.idx O' x=iT S.idx S.O x+(if t.k=x then 1 else 0):=fun x=>by
    have h1:=hsum (fun e=>decide (e.2.k=x))
    simp only [decide_eq_true_eq] at h1
    exact h1
  have hlt:=hI.links t ht
  have TM:t.kind=2->∀ e n,Live S.idx ⟨e,2⟩->aT n (obj S.O e).ah≠some t:=fun hk e n hle h=>by
    have h1:0 < iT S.idx S.O t.k:=mM hle h
    have:=(Pz hk).1
    omega
  refine { hI with ob:=fun x hx=>?_,mt:=fun x hx=>?_,ah:=fun x hx e he=>?_,sorted:=fun x hx=>?_,dead:=fun x hx=>?_,uD:=fun x hx=>(CO x).trans (hI.uD x hx),total:=?_,links:=fun x hx=>?_,once:=fun x hx hk=>?_,opens:=fun x hx=>?_,gone:=fun x hx jE=>?_,up:=fun x hx e=>?_,deep:=?_,used:=?_ }
  ·show (obj O' x.k).id=_/\(obj O' x.k).kind=_/\_
   rw [TK,CO];exact hI.ob x hx
  ·show lg (obj O' x.k)
   have hm:=hI.mt x hx
   by_cases e:x.k=d
   ·rw [e] at hm ⊢
    rw [oD]
    exact hm.of rfl rfl rfl Yp rfl (.inl rfl) (.inr (hI.kind hd)) rfl
   by_cases e2:x.k=t.k
   ·rw [e2] at hm ⊢
    rw [oT]
    exact hm.of rfl rfl rfl hm.time rfl (.inl rfl) (.inl rfl) rfl
   rw [oX _ e e2];exact hm
  ·have he:e∈(obj O' x.k).ah:=he
   by_cases e1:x.k=d
   ·rw [e1,AL] at he
    rcases Bz.1 he with rfl|he
    ·exact⟨hgn,ht⟩
    exact hI.ah _ hd e he
   rw [fE _ e1] at he
   exact hI.ah x hx e he
  ·show j8 (obj O' x.k).ah
   by_cases e1:x.k=d
   ·rw [e1,AL];exact j8.ins (hI.sorted _ hd) hn
   rw [fE _ e1];exact hI.sorted x hx
  ·show (obj O' x).ah=[]/\(obj O' x).up=none
   rw [oX x (fun e=>hx _ hd e.symm) (fun e=>hx t ht e.symm)]
   exact hI.dead x hx
  ·have h1:=hsum (fun _=>true)
   have h2:=hI.total
   rw [nu] at h2
   show S.X.ah+1=(tot S.idx O':Int)/\S.X.ah+1<=8192
   rw [nu]
   simp only [if_true] at h1
   omega
  ·show (obj O' x.k).links=(iT S.idx O' x.k:Int)
   have h1:=KM x.k
   have h2:=hI.links x hx
   by_cases e2:x.k=t.k
   ·rw [if_pos e2.symm] at h1
    rw [e2,oT]
    rw [e2] at h1
    show (obj S.O t.k).links+1=_
    omega
   rw [if_neg (fun e=>e2 e.symm)] at h1
   have:(obj O' x.k).links=(obj S.O x.k).links:=by
     by_cases e:x.k=d
     ·rw [e,oD]
     rw [oX _ e e2]
   omega
  ·show (obj O' x.k).links<=1
   have h1:=hI.once x hx hk
   by_cases e2:x.k=t.k
   ·have MU:x=t:=iy hx ht e2
    subst MU
    have:=(Pz hk).1
    rw [oT]
    show (obj S.O x.k).links+1<=1
    omega
   by_cases e:x.k=d
   ·rw [e] at h1 ⊢;rw [oD];exact h1
   rw [oX _ e e2];exact h1
  ·show (obj O' x.k).opens=_
   rw [TL];exact hI.opens x hx
  ·have jE:(obj O' x.k).gone=true:=jE
   rw [fG] at jE
   show (obj O' x.k).links=0/\(obj O' x.k).ah=[]
   by_cases e2:x.k=t.k
   ·rw [e2,JJ] at jE;cases jE
   by_cases e:x.k=d
   ·rw [e,kq] at jE;cases jE
   rw [oX _ e e2];exact hI.gone x hx jE
  ·show (obj O' x.k).up=some e↔x.kind=2/\Live S.idx ⟨e,2⟩/\∃ n,aT n (obj O' e).ah=some x
   by_cases e2:x.k=t.k
   ·have MU:x=t:=iy hx ht e2
    subst MU
    rw [oT]
    show (if x.kind=2 then some d else (obj S.O x.k).up)=some e↔_
    by_cases hk:x.kind=2
    ·rw [if_pos hk]
     constructor
     ·intro h
      cases h
      exact⟨hk,hd,name,by rw [AL,yD hn,if_pos rfl]⟩
     rintro⟨_,hle,n,h⟩
     by_cases e3:e=d
     ·rw [e3]
     rw [fE _ e3] at h
     exact absurd h (TM hk e n hle)
    rw [if_neg hk,hI.up x hx e]
    constructor
    ·rintro⟨h,_⟩;exact absurd h hk
    rintro⟨h,_⟩;exact absurd h hk
   have h1:(obj O' x.k).up=(obj S.O x.k).up:=by
     by_cases e:x.k=d
     ·rw [e,oD]
     rw [oX _ e e2]
   have h2:∀ n,aT n (obj O' e).ah=some x↔aT n (obj S.O e).ah=some x:=fun n=>by
     by_cases e3:e=d
     ·rw [e3,AL,yD hn]
      by_cases hnn:n=name
      ·rw [if_pos hnn,hnn,hn]
       constructor
       ·intro h;exact absurd (congrArg Th.k (Option.some.inj h)).symm e2
       intro h;cases h
      rw [if_neg hnn]
     rw [fE _ e3]
   rw [h1,hI.up x hx e]
   simp only [h2]
  ·obtain⟨dp,hdp⟩:=hI.deep
   by_cases hk:t.kind=2
   ·obtain⟨hl0,hnb⟩:=Pz hk
    have Zt:(obj S.O t.k).up=none:=by
      cases hu:(obj S.O t.k).up with
      | none=>rfl
      | some e=>
        obtain⟨_,h2,n,h3⟩:=(hI.up t ht e).1 hu
        exact absurd h3 (TM hk e n h2)
    refine⟨fun x=>if fV S.O t.k x then dp x+dp d+1 else dp x,fun x e hx=>?_⟩
    have hx:(obj O' x).up=some e:=hx
    by_cases e2:x=t.k
    ·rw [e2,oT] at hx
     have hx:(if t.kind=2 then some d else (obj S.O t.k).up)=some e:=hx
     rw [if_pos hk] at hx
     cases hx
     subst e2
     simp only [if_neg hnb,if_pos (fV.here:fV S.O t.k t.k)]
     omega
    have hx:(obj S.O x).up=some e:=by
      by_cases e3:x=d
      ·rw [e3,oD] at hx;rw [e3];exact hx
      rw [oX _ e3 e2] at hx;exact hx
    have h1:=hdp _ _ hx
    by_cases hb:fV S.O t.k e
    ·simp only [if_pos hb,if_pos (fV.up hx hb)];omega
    have:¬ fV S.O t.k x:=fun h=>by
      rcases EV.1 h with h|⟨e',h1,h2⟩
      ·exact e2 h
      rw [hx] at h1;cases h1;exact hb h2
    simp only [if_neg hb,if_neg this];exact h1
   refine⟨dp,fun x e hx=>?_⟩
   have hx:(obj O' x).up=some e:=hx
   by_cases e2:x=t.k
   ·rw [e2,oT] at hx
    have hx:(if t.kind=2 then some d else (obj S.O t.k).up)=some e:=hx
    rw [if_neg hk] at hx
    rw [e2];exact hdp _ _ hx
   by_cases e3:x=d
   ·rw [e3,oD] at hx;rw [e3];exact hdp _ _ hx
   rw [oX _ e3 e2] at hx;exact hdp _ _ hx
  have:bytes S.idx O'=bytes S.idx S.O:=gX (fun p _=>by rw [KL])
  show S.X.used=(bytes S.idx O':Int)/\_
  rw [this];exact hI.used
end inv
end
section
open Go.RowKit Go.Maps bC aE
section new
variable {S:aI} {d:Nat} {name:ByteArray} {t:Th} {o:aY} {us':Used Th} {gY:Int}
theorem Inv0.newAt (hI:Inv0 S) {k0:Nat} (hlt:S.X.last < (k0:Int)) (hle:(k0:Int)<=1099511627776) {kT:Int} (Zb:kT=S.X.used+o.data.length/\kT<=140737488355328) (hid:o.id=(k0:Int)) (hk3:o.kind=1\/o.kind=2\/o.kind=3) (hl0:o.links=0) (he0:o.ah=[]) (hu0:o.up=none) (hg0:o.gone=false) (hm:lg o) (hlen:S.idx.length < 4096)
    (u1:aE.cq (keys us')) (u2:∀ x∈keys us',1<=x/\x<=gY) (u3:(us'.length:Int)<=S.X.cH) (u4:0<=gY/\gY<=S.X.cH) (u5:∀ h t,aE.get us' h=some t->(Live S.idx t\/t=⟨k0,o.kind⟩)/\t.kind≠3) (u6:∀ k,k≠k0->hnd us' k=hnd S.us k) (u7:o.opens=(hnd us' (k0):Int)) :
    Inv0 { S with X:={ S.X with last:=(k0:Int),used:=kT },O:=aO S.O (k0) (fun _=>o),idx:=ins ((k0:Int)) ⟨k0,o.kind⟩ S.idx,us:=us',aD:=gY }:=by
  have hnot:aE.get S.idx ((k0:Int))=none:=by
    cases e:aE.get S.idx ((k0:Int)) with
    | none=>rfl
    | some u=>have:=(hI.idx _ u e).2.2;omega
  have hget:∀ i,aE.get (ins ((k0:Int)) ⟨k0,o.kind⟩ S.idx) i=if i=(k0:Int) then some ⟨k0,o.kind⟩ else aE.get S.idx i:=fun i=>lf (get_none.1 hnot) i
  have fN:∀ x,Live (ins ((k0:Int)) ⟨k0,o.kind⟩ S.idx) x↔x=⟨k0,o.kind⟩\/Live S.idx x:=fun x=>by
    unfold Live
    rw [hget]
    constructor
    ·intro h
     split at h
     ·exact .inl (Option.some.inj h).symm
     exact .inr h
    rintro (h|h)
    ·subst h;rw [if_pos rfl]
    rw [if_neg (by intro e;rw [e,hnot] at h;cases h)];exact h
  have oN:obj (aO S.O (k0) (fun _=>o)) (k0)=o:=cD
  have oX:∀ x,Live S.idx x->obj (aO S.O (k0) (fun _=>o)) x.k=obj S.O x.k:=fun x hx=>bT (hI.free hlt hx)
  have hfr:=hI.D8 hlt
  have hmem:∀ p∈S.idx,obj (aO S.O (k0) (fun _=>o)) p.2.k=obj S.O p.2.k:=fun p hp=>bT (hfr.idx p hp)
  have hsum:∀ g:aY->Nat,g o=0->dx (fun p:Int×Th=>g (obj (aO S.O (k0) (fun _=>o)) p.2.k)) (ins ((k0:Int)) ⟨k0,o.kind⟩ S.idx)=dx (fun p:Int×Th=>g (obj S.O p.2.k)) S.idx:=fun g hg=>by
    rw [BH]
    show g (obj _ (k0))+_=_
    rw [oN,hg,Nat.zero_add]
    exact gX (fun p hp=>by rw [hmem p hp])
  refine { hI with last:=?_,rise:=?_,len:=?_,idx:=fun i x e=>?_,ob:=fun x hx=>?_,mt:=fun x hx=>?_,ah:=fun x hx e he=>?_,sorted:=fun x hx=>?_,dead:=fun x hx=>?_,uD:=fun x hx=>?_,total:=?_,links:=fun x hx=>?_,once:=fun x hx hk=>?_,opens:=fun x hx=>?_,usr:=u1,sE:=u2,CI:=u3,aD:=u4,us:=fun h x e=>?_,gone:=fun x hx jE=>?_,up:=fun x hx e=>?_,deep:=?_,used:=?_ }
  ·have:=hI.last
   show 0<=(k0:Int)/\(k0:Int)<=1099511627776
   omega
  ·exact wQ hI.rise (get_none.1 hnot)
  ·have:=hI.cN
   show (ins ((k0:Int)) _ S.idx).length<=4096
   rw [iw];omega
  ·have e:aE.get (ins ((k0:Int)) ⟨k0,o.kind⟩ S.idx) i=some x:=e
   rw [hget] at e
   have:=hI.last
   show i=(x.k:Int)/\0 < i/\i<=(k0:Int)
   split at e
   ·cases e
    rename_i e2
    refine⟨by rw [e2],by omega,by omega⟩
   have:=hI.idx i x e
   omega
  ·show (obj (aO S.O (k0) (fun _=>o)) x.k).id=_/\(obj (aO S.O (k0) (fun _=>o)) x.k).kind=_/\_
   rcases (fN x).1 hx with h|h
   ·subst h;rw [oN];exact⟨hid,rfl,hk3⟩
   rw [oX x h];exact hI.ob x h
  ·show lg (obj (aO S.O (k0) (fun _=>o)) x.k)
   rcases (fN x).1 hx with h|h
   ·subst h;rw [oN];exact hm
   rw [oX x h];exact hI.mt x h
  ·have he:e∈(obj (aO S.O (k0) (fun _=>o)) x.k).ah:=he
   rcases (fN x).1 hx with h|h
   ·subst h;rw [oN,he0] at he;cases he
   rw [oX x h] at he
   have h1:=hI.ah x h e he
   exact⟨h1.1,(fN _).2 (.inr h1.2)⟩
  ·show j8 (obj (aO S.O (k0) (fun _=>o)) x.k).ah
   rcases (fN x).1 hx with h|h
   ·subst h;rw [oN,he0];exact List.Pairwise.nil
   rw [oX x h];exact hI.sorted x h
  ·show (obj (aO S.O (k0) (fun _=>o)) x).ah=[]/\(obj (aO S.O (k0) (fun _=>o)) x).up=none
   have h1:x≠k0:=fun e=>hx ⟨k0,o.kind⟩ ((fN _).2 (.inl rfl)) e.symm
   rw [bT h1]
   exact hI.dead x (fun u hu=>hx u ((fN _).2 (.inr hu)))
  ·have hx:(k0:Int) < (x:Int):=hx
   show (obj (aO S.O (k0) (fun _=>o)) x).kind=0
   rw [bT (fun e=>by rw [e] at hx;omega)]
   exact hI.uD x (by omega)
  ·show S.X.ah=(tot _ _:Int)/\S.X.ah<=8192
   have:tot (ins ((k0:Int)) ⟨k0,o.kind⟩ S.idx) (aO S.O (k0) (fun _=>o))=tot S.idx S.O:=hsum (fun o=>o.ah.length) (by rw [he0];rfl)
   rw [this];exact hI.total
  ·show (obj (aO S.O (k0) (fun _=>o)) x.k).links=(iT _ _ x.k:Int)
   have:iT (ins ((k0:Int)) ⟨k0,o.kind⟩ S.idx) (aO S.O (k0) (fun _=>o)) x.k=iT S.idx S.O x.k:=hsum (fun o=>o.ah.countP (fun e:ByteArray×Th=>decide (e.2.k=x.k))) (by rw [he0];rfl)
   rw [this]
   rcases (fN x).1 hx with h|h
   ·subst h
    rw [oN,hl0]
    have:iT S.idx S.O (k0)=0:=by
      apply Classical.byContradiction
      intro hne
      obtain⟨i,u,hu,e,he,hek⟩:=CJ hI.rise (Nat.pos_of_ne_zero hne)
      exact hfr.ah u.k e he hek
    rw [this];rfl
   rw [oX x h];exact hI.links x h
  ·show (obj (aO S.O (k0) (fun _=>o)) x.k).links<=1
   rcases (fN x).1 hx with h|h
   ·subst h;rw [oN,hl0];decide
   rw [oX x h];exact hI.once x h hk
  ·show (obj (aO S.O (k0) (fun _=>o)) x.k).opens=(hnd us' x.k:Int)
   rcases (fN x).1 hx with h|h
   ·subst h;rw [oN];exact u7
   rw [oX x h,u6 _ (hI.free hlt h)];exact hI.opens x h
  ·obtain⟨h1,h2⟩:=u5 h x e
   exact⟨(fN x).2 h1.symm,h2⟩
  ·have jE:(obj (aO S.O (k0) (fun _=>o)) x.k).gone=true:=jE
   show (obj (aO S.O (k0) (fun _=>o)) x.k).links=0/\(obj (aO S.O (k0) (fun _=>o)) x.k).ah=[]
   rcases (fN x).1 hx with h|h
   ·subst h;rw [oN,hg0] at jE;cases jE
   rw [oX x h] at jE ⊢;exact hI.gone x h jE
  ·show (obj (aO S.O (k0) (fun _=>o)) x.k).up=some e↔x.kind=2/\Live _ ⟨e,2⟩/\∃ n,aT n (obj (aO S.O (k0) (fun _=>o)) e).ah=some x
   rcases (fN x).1 hx with h|h
   ·subst h
    rw [oN,hu0]
    constructor
    ·intro h;cases h
    rintro⟨_,hle,n,h⟩
    by_cases e2:e=k0
    ·rw [e2,oN,he0] at h;cases h
    rw [bT e2] at h;exact absurd rfl (hfr.ah e _ (lS h))
   rw [oX x h,hI.up x h e]
   constructor
   ·rintro⟨h1,h2,n,h3⟩
    exact⟨h1,(fN _).2 (.inr h2),n,by rw [oX ⟨e,2⟩ h2];exact h3⟩
   rintro⟨h1,h2,n,h3⟩
   by_cases e2:e=k0
   ·rw [e2,oN,he0] at h3;cases h3
   rw [bT e2] at h3
   refine⟨h1,?_,n,h3⟩
   rcases (fN _).1 h2 with h4|h4
   ·exact absurd (congrArg Th.k h4) e2
   exact h4
  ·obtain⟨dp,hdp⟩:=hI.deep
   refine⟨dp,fun x e hx=>?_⟩
   have hx:(obj (aO S.O (k0) (fun _=>o)) x).up=some e:=hx
   by_cases e2:x=k0
   ·rw [e2,oN,hu0] at hx;cases hx
   rw [bT e2] at hx;exact hdp _ _ hx
  show kT=(bytes _ _:Int)/\_
  have h1:bytes (ins (k0:Int) ⟨k0,o.kind⟩ S.idx) (aO S.O k0 (fun _=>o))=o.data.length+bytes S.idx S.O:=by
    unfold bytes
    rw [BH]
    show (obj _ k0).data.length+_=_
    rw [oN]
    congr 1
    exact gX (fun p hp=>by rw [hmem p hp])
  have h2:=hI.used
  rw [h1]
  show kT=_/\kT<=140737488355328
  omega
theorem Inv0.new (hI:Inv0 S) (hid:o.id=S.X.last+1) (hk3:o.kind=1\/o.kind=2\/o.kind=3) (hl0:o.links=0) (he0:o.ah=[]) (hu0:o.up=none) (hg0:o.gone=false) (TN:o.data=[]) (hm:lg o) (hlast:S.X.last < 1099511627776) (hlen:(S.idx.length:Int) < S.X.cN)
    (u1:aE.cq (keys us')) (u2:∀ x∈keys us',1<=x/\x<=gY) (u3:(us'.length:Int)<=S.X.cH) (u4:0<=gY/\gY<=S.X.cH) (u5:∀ h t,aE.get us' h=some t->(Live S.idx t\/t=⟨bG S.X,o.kind⟩)/\t.kind≠3) (u6:∀ k,k≠bG S.X->hnd us' k=hnd S.us k) (u7:o.opens=(hnd us' (bG S.X):Int)) :
    Inv0 { S with X:={ S.X with last:=S.X.last+1 },O:=aO S.O (bG S.X) (fun _=>o),idx:=ins (S.X.last+1) ⟨bG S.X,o.kind⟩ S.idx,us:=us',aD:=gY }:=by
  have hnk:=pq hI
  have h:=hI.newAt (k0:=bG S.X) (kT:=S.X.used) (by omega) (by omega) ⟨by rw [TN];simp,hI.used.2⟩ (hid.trans hnk.symm) hk3 hl0 he0 hu0 hg0 hm (by have:=hI.cN;omega) u1 u2 u3 u4 u5 u6 u7
  rw [hnk] at h
  exact h
theorem Inv.add (hI:Inv S) (hd:Live S.idx ⟨d,2⟩) (kq:(obj S.O d).gone=false) (hn:aT name (obj S.O d).ah=none) (hgn:bF name) (hroom:Room S.X S.idx)
    (hid:o.id=S.X.last+1) (hk3:o.kind=1\/o.kind=2\/o.kind=3) (hl0:o.links=0) (he0:o.ah=[]) (hu0:o.up=none) (hg0:o.gone=false) (TN:o.data=[]) (hm:lg o)
    (u1:aE.cq (keys us')) (u2:∀ x∈keys us',1<=x/\x<=gY) (u3:(us'.length:Int)<=S.X.cH) (u4:0<=gY/\gY<=S.X.cH) (u5:∀ h t,aE.get us' h=some t->(Live S.idx t\/t=⟨bG S.X,o.kind⟩)/\t.kind≠3) (u6:∀ k,k≠bG S.X->hnd us' k=hnd S.us k) (u7:o.opens=(hnd us' (bG S.X):Int)) :
    Inv (fe { S with us:=us',aD:=gY } d name o):=by
  have h1:=hI.toInv0.new hid hk3 hl0 he0 hu0 hg0 TN hm hroom.2.1 hroom.1 u1 u2 u3 u4 u5 u6 u7
  have hne:d≠bG S.X:=hI.yN hd
  have hnk:=pq hI.toInv0
  have hnot:aE.get S.idx (S.X.last+1)=none:=by
    cases e:aE.get S.idx (S.X.last+1) with
    | none=>rfl
    | some u=>have:=(hI.idx _ u e).2.2;omega
  have hget:∀ i,aE.get (ins (S.X.last+1) ⟨bG S.X,o.kind⟩ S.idx) i=if i=S.X.last+1 then some ⟨bG S.X,o.kind⟩ else aE.get S.idx i:=fun i=>lf (get_none.1 hnot) i
  have hdl:Live (ins (S.X.last+1) ⟨bG S.X,o.kind⟩ S.idx) ⟨d,2⟩:=by
    unfold Live
    rw [hget,if_neg (by intro e;have:aE.get S.idx ((d:Nat):Int)=some ⟨d,2⟩:=hd;rw [show ((⟨d,2⟩:Th).k:Int)=(d:Int) from rfl] at e;rw [e,hnot] at this;cases this)]
    exact hd
  have hnl:Live (ins (S.X.last+1) ⟨bG S.X,o.kind⟩ S.idx) ⟨bG S.X,o.kind⟩:=by
    unfold Live
    rw [hget,if_pos hnk]
  have oN:obj (aO S.O (bG S.X) (fun _=>o)) (bG S.X)=o:=cD
  have oD:obj (aO S.O (bG S.X) (fun _=>o)) d=obj S.O d:=bT hne
  have hnb:¬ fV (aO S.O (bG S.X) (fun _=>o)) (bG S.X) d:=fun hb=>by
    have key:∀ x,fV (aO S.O (bG S.X) (fun _=>o)) (bG S.X) x->x=bG S.X:=fun x hx=>by
      induction hx with
      | here=>rfl
      | @up k j hu _ ih=>
        subst ih
        by_cases e:k=bG S.X
        ·exact e
        rw [bT e] at hu;exact absurd hu (hI.fresh.up k)
    exact hne (key d hb)
  have h2:=h1.put (d:=d) (name:=name) (t:=⟨bG S.X,o.kind⟩) (O':=(fe { S with us:=us',aD:=gY } d name o).O) hdl (by rw [oD];exact kq) (by rw [oD];exact hn) hgn hnl (by rw [oN];exact hg0) (fun _=>⟨by rw [oN];exact hl0,hnb⟩) (fun e=>hne e.symm) hroom.2.2 h1.now (fun k=>yM (fun e=>hne e.symm))
  refine⟨h2,fun x hx jE=>?_⟩
  have g1:∀ k,(obj (fe { S with us:=us',aD:=gY } d name o).O k).gone=(obj (aO S.O (bG S.X) (fun _=>o)) k).gone:=fun k=>mh (g:=aY.gone) (fun _ _=>rfl) (fun _ _=>rfl) (fun _ _ _=>rfl) (fun _ _=>rfl)
  have g2:∀ k,(obj (fe { S with us:=us',aD:=gY } d name o).O k).opens=(obj (aO S.O (bG S.X) (fun _=>o)) k).opens:=fun k=>mh (g:=aY.opens) (fun _ _=>rfl) (fun _ _=>rfl) (fun _ _ _=>rfl) (fun _ _=>rfl)
  rw [g1] at jE
  rw [g2]
  by_cases e:x.k=bG S.X
  ·rw [e,oN,hg0] at jE;cases jE
  rw [bT e] at jE ⊢
  refine hI.full x ?_ jE
  have hx:aE.get (ins (S.X.last+1) ⟨bG S.X,o.kind⟩ S.idx) x.k=some x:=hx
  rw [hget] at hx
  split at hx
  ·exact absurd (congrArg Th.k (Option.some.inj hx)).symm e
  exact hx
end new
section drop
variable {S:aI} {d:Nat} {name:ByteArray} {t:Th}
theorem jw {α:Type} {g:aY->α} {O:bW} {k j:Nat} (h:∀ o,g { o with up:=none }=g o):g (obj (orphan O j) k)=g (obj O k):=cE (f:=fun o=>{ o with up:=none }) h
theorem yO {O:bW} {k:Nat}:sQ (orphan O k) t↔sQ O t:=by
  unfold sQ
  rw [jw (g:=aY.gone) (fun _=>rfl),jw (g:=aY.opens) (fun _=>rfl)]
theorem GR {O:bW} {k:Nat} {u:Int}:jO (orphan O k) u t=jO O u t:=by
  unfold jO
  simp only [yO,jw (g:=aY.data) (fun _=>rfl)]
theorem GS {O:bW} {k:Nat} {idx:Used Th}:jj (orphan O k) idx t=jj O idx t:=by
  unfold jj
  simp only [yO,jw (g:=aY.id) (fun _=>rfl)]
theorem Inv.drop (hI:Inv S) (hd:Live S.idx ⟨d,2⟩) (hl:aT name (obj S.O d).ah=some t) (he:t.kind=2->(obj S.O t.k).ah=[]):Inv { aJ S d name t with O:=orphan (aJ S d name t).O t.k }:=by
  have hne:=hI.ne hd hl
  have ht:=(hI.ent hd hl).2
  have hlk:(obj (aQ S.X S.O d name t) t.k).links=(obj S.O t.k).links - 1:=by rw [jg hne,if_neg hne,if_pos rfl]
  have hfull:∀ (O2:bW),(∀ u,u≠t.k->(obj O2 u).gone=(obj S.O u).gone/\(obj O2 u).opens=(obj S.O u).opens)->∀ u,Live S.idx u->u≠t->(obj O2 u.k).gone=true->0 < (obj O2 u.k).opens:=fun O2 h u hu hut hg=>by
    have hk:u.k≠t.k:=fun e=>hut (iy hu ht e)
    rw [(h _ hk).1] at hg
    rw [(h _ hk).2]
    exact hI.full u hu hg
  by_cases h0:(obj (aQ S.X S.O d name t) t.k).links=0
  ·have e1:aJ S d name t=_:=o8 h0
   have hO:∀ k,obj (orphan (mQ (aQ S.X S.O d name t) t.k) t.k) k=if k=d then { obj S.O d with ah:=ig name (obj S.O d).ah,sec:=S.X.cS,nano:=S.X.cZ } else if k=t.k then { obj S.O k with links:=(obj S.O k).links - 1,gone:=true,up:=none } else obj S.O k:=fun k=>by
     unfold orphan mQ
     rw [yC,jI]
     by_cases e:k=t.k
     ·rw [if_pos e,jg hne,if_neg (fun e2=>hne (e.symm.trans e2)),if_pos e,if_neg (fun e2=>hne (e.symm.trans e2)),if_pos e]
     rw [if_neg e,jg hne,if_neg e,if_neg e]
   have h1:=hI.toInv0.cut hd hl hO (.inr ⟨by rw [← hlk];exact h0,he⟩)
   have h2:=h1.sR (t:=t) ht (hfull _ (fun u hu=>by
     rw [jw (g:=aY.gone) (fun _=>rfl),jw (g:=aY.opens) (fun _=>rfl)]
     show (obj (aO _ t.k _) u).gone=_/\(obj (aO _ t.k _) u).opens=_
     rw [bT hu,dF (g:=aY.gone) (fun _ _=>rfl) (fun _ _=>rfl) (fun _ _ _=>rfl),dF (g:=aY.opens) (fun _ _=>rfl) (fun _ _=>rfl) (fun _ _ _=>rfl)]
     exact⟨rfl,rfl⟩))
   rw [e1]
   unfold sR at h2
   simp only [GR,GS] at h2
   exact h2
  have e1:aJ S d name t=_:=rJ h0
  have hnd:t.kind≠2:=fun hk=>by
    have h1:=hI.once t ht hk
    have h2:=hI.links t ht
    have h3:0 < iT S.idx S.O t.k:=mM hd hl
    omega
  have KN:(obj S.O t.k).up=none:=by
    cases hu:(obj S.O t.k).up with
    | none=>rfl
    | some e=>exact absurd ((hI.up t ht e).1 hu).1 hnd
  have hO:∀ k,obj (orphan (aQ S.X S.O d name t) t.k) k=if k=d then { obj S.O d with ah:=ig name (obj S.O d).ah,sec:=S.X.cS,nano:=S.X.cZ } else if k=t.k then { obj S.O k with links:=(obj S.O k).links - 1,gone:=(obj S.O t.k).gone,up:=none } else obj S.O k:=fun k=>by
    unfold orphan
    rw [jI]
    by_cases e:k=t.k
    ·rw [if_pos e,jg hne,if_neg (fun e2=>hne (e.symm.trans e2)),if_pos e,if_neg (fun e2=>hne (e.symm.trans e2)),if_pos e,e]
    rw [if_neg e,jg hne,if_neg e,if_neg e]
  have h1:=hI.toInv0.cut hd hl hO (.inl rfl)
  rw [e1]
  refine⟨h1,fun u hu hg=>?_⟩
  have hg:(obj (orphan (aQ S.X S.O d name t) t.k) u.k).gone=true:=hg
  show 0 < (obj (orphan (aQ S.X S.O d name t) t.k) u.k).opens
  rw [jw (g:=aY.gone) (fun _=>rfl),dF (g:=aY.gone) (fun _ _=>rfl) (fun _ _=>rfl) (fun _ _ _=>rfl)] at hg
  rw [jw (g:=aY.opens) (fun _=>rfl),dF (g:=aY.opens) (fun _ _=>rfl) (fun _ _=>rfl) (fun _ _ _=>rfl)]
  exact hI.full u hu hg
theorem wW {k:Nat}:(obj (aJ S d name t).O k).up=(obj S.O k).up:=by
  unfold aJ
  simp only
  split
  ·exact (qI (g:=aY.up) (fun _ _=>rfl)).trans (dF (g:=aY.up) (fun _ _=>rfl) (fun _ _=>rfl) (fun _ _ _=>rfl))
  exact dF (g:=aY.up) (fun _ _=>rfl) (fun _ _=>rfl) (fun _ _ _=>rfl)
theorem Inv.z7 (hI:Inv S) (hd:Live S.idx ⟨d,2⟩) (hl:aT name (obj S.O d).ah=some t) (hk:t.kind≠2):Inv (aJ S d name t):=by
  have h:=hI.drop hd hl (fun e=>absurd e hk)
  have ht:=(hI.ent hd hl).2
  have KN:(obj S.O t.k).up=none:=by
    cases hu:(obj S.O t.k).up with
    | none=>rfl
    | some e=>exact absurd ((hI.up t ht e).1 hu).1 hk
  have e:orphan (aJ S d name t).O t.k=(aJ S d name t).O:=RV (by
    have:(obj (aJ S d name t).O t.k).up=none:=wW.trans KN
    rw [← this])
  rw [e] at h
  exact h
end drop
end
end Go.Proofs.YtiehgnlnofhbaaaGreatDoor
section
namespace Go.Proofs.YtiehgnlnofhbaaaGreatDoor.aE
open bC
variable {V:Type}
theorem BL (us:Used V):(keys us).length=us.length:=by simp [keys]
theorem least_le {us:Used V} (hr:cq (keys us)) (hp:∀ x∈keys us,1<=x):1<=least us/\least us∉keys us/\∀ x,1<=x->x < least us->x∈keys us:=nM (keys us) 1 hr hp
theorem yP:∀ (ks:List Int) (h:Int),iq h ks<=h+ks.length
  | [],h=>by simp [iq]
  | k::r,h=>by
    unfold iq
    split
    ·have:=yP r (h+1);simp only [List.length_cons];push_cast;omega
    simp only [List.length_cons];push_cast;omega
theorem Ja (us:Used V):least us<=us.length+1:=by
  have:=yP (keys us) 1
  rw [BL] at this
  unfold least;omega
end Go.Proofs.YtiehgnlnofhbaaaGreatDoor.aE
end
