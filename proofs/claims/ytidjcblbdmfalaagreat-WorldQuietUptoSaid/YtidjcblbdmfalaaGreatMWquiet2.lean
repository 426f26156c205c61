/-
  PROVED HERE: lemmas and contracts of functions (texts of this repo, joined; what the claim does not use is left out): GCheck, GE, Hm, Fam, Ld, Fw, Ms, Hn, Ho, Hc, Hd, H1, ShelfK, Free, HeapMath, Up, Down, PushPop, TabMath, Tab, Tq, TKt, TabT, Hp, H2, Hs, Hi, Hj, Hk, Hl, Hq.
  CONDITIONS: as the theorems say.
-/
import Derived.Test.YtidjcblbdmfalaaGreatMWquiet1
import Derived.Maps.OwnOps
import Derived.Shelf.SlGeneric
import Derived.Shelf.SlIterI.Nil
import Derived.Shelf.SortM.Plain
import Derived.Shelf.SortM.SortNone
import Derived.Ground.GgzProg
import Derived.Ground.SlgmProg
import Derived.Test.YtidjcblbdmfalaaGreatProg
import Derived.RegionTactic
import Derived.Deep.QuietTactic
import Derived.BigQuiet
import Derived.BigRegion
import Derived.StillTailTactics
import Derived.WalkSpells
import Derived.Outline
import Derived.Deep.AppendLies
import Derived.Deep.RegionLaw
import Derived.LoopTactic
import Derived.LaidEqlPtr
set_option maxRecDepth 100000
set_option maxHeartbeats 4000000
namespace Go.Proofs.YtidjcblbdmfalaaGreat
section
open Go.RowKit
attribute [local irreducible] aj aP af ai
theorem sU {β:Bs} (a b c:Int) :
    Spec Tryz.prog β 162 #[vI (a),vI (b),vI (c)] [] (fun v l=>v=.bool (decide (Within a b c))/\l=[]):=by
 refine Spec.enter Tryz.func162 rfl Tryz.ntmps162 (Nat.le_of_ble_eq_true rfl) (fun R=>?_)
 refine SR (gK 1 [] [] ?_)
 refine NS (gK 4 [(10,.bool (decide ((a:Int) ≥ (b:Int))))] [] ?_)
 refine aj.gI 10 ((a:Int) ≥ (b:Int)) (fun _=>by kernel_rfl) (fun h10=>?_) (fun h10=>?_)
 ·refine gK 5 [(6,.bool (decide ((a:Int)<=(c:Int))))] [] ?_
  refine NN (af.ret ?_)
  exact RT (.bool (decide ((a:Int)<=(c:Int)))) [0] (⟨congrArg Value.bool (decide_eq_decide.2 (by unfold Within;omega)),rfl⟩)
 refine gK 5 [(6,.bool false)] [] ?_
 refine NN (af.ret ?_)
 exact RT (.bool false) [0] (⟨congrArg Value.bool (decide_eq_false (by unfold Within;omega)).symm,rfl⟩)
theorem iz {β:Bs} (s n:Int) :
    Spec Tryz.prog β 60 #[.agg #[vI (s),vI (n)]] [] (fun v l=>v=.bool (decide (dL s n))/\l=[]):=by
 refine Spec.enter Tryz.func60 rfl Tryz.ntmps60 (Nat.le_of_ble_eq_true rfl) (fun R=>?_)
 refine SR (gN 2 (fun b1=>[(1,vP b1)]) (fun _=>[]) (fun _=>[]) (fun b1=>.blk b1 [vI (s),vI (n)] 26) (fun b1=>?_))
 refine NN (af.seq (SR (gK 4 [(6,.bool (decide ((n:Int) < (0:Int))))] [(1,a_ 1 b1)] ?_)))
 refine aj.gI 6 ((n:Int) < (0:Int)) (fun _=>by kernel_rfl) (fun h6=>?_) (fun h6=>?_)
 ·refine gK 4 [(10,.bool true)] [] ?_
  refine NN (CT (SR (gK 1 [(2,.bool false)] [] ?_)))
  refine NN (af.ret (ai.ak ?_))
  exact RT (.bool false) [0] (⟨congrArg Value.bool (decide_eq_false (by unfold dL;omega)).symm,rfl⟩)
 refine gK 4 [(10,.bool (decide ((n:Int) ≥ (1000000000:Int))))] [(1,a_ 1 b1)] ?_
 refine NN (af.aZ (p:=(n:Int) ≥ (1000000000:Int)) (fun _=>by kernel_rfl) (fun h10=>?_) (fun h10=>?_))
 ·refine SR (gK 1 [(2,.bool false)] [] ?_)
  refine NN (af.ret (ai.ak ?_))
  exact RT (.bool false) [0] (⟨congrArg Value.bool (decide_eq_false (by unfold dL;omega)).symm,rfl⟩)
 refine af.skip (NX (af.seq (SR (gK 3 [(13,.bool (decide ((s:Int)=((-1099511627777):Int))))] [(1,a_ 1 b1)] ?_))))
 refine NN (af.aZ (p:=(s:Int)=((-1099511627777):Int)) (fun _=>by kernel_rfl) (fun Uo=>?_) (fun Uo=>?_))
 ·refine SR (gK 4 [(2,.bool (decide ((n:Int) > (0:Int))))] [(1,a_ 1 b1)] ?_)
  refine NN (af.ret (ai.ak ?_))
  exact RT (.bool (decide ((n:Int) > (0:Int)))) [0] (⟨congrArg Value.bool (decide_eq_decide.2 (by unfold dL;omega)),rfl⟩)
 refine af.skip (NX (SR (gK 4 [(20,.bool (decide ((s:Int) > ((-1099511627777):Int))))] [(1,a_ 1 b1)] ?_)))
 refine aj.gI 20 ((s:Int) > ((-1099511627777):Int)) (fun _=>by kernel_rfl) (fun oR=>?_) (fun oR=>?_)
 ·refine gK 5 [(2,.bool (decide ((s:Int)<=(1099511627776:Int))))] [(1,a_ 1 b1)] ?_
  refine NN (af.ret ?_)
  exact RT (.bool (decide ((s:Int)<=(1099511627776:Int)))) [0] (⟨congrArg Value.bool (decide_eq_decide.2 (by unfold dL;omega)),rfl⟩)
 refine gK 5 [(2,.bool false)] [] ?_
 refine NN (af.ret ?_)
 exact RT (.bool false) [0] (⟨congrArg Value.bool (decide_eq_false (by unfold dL;omega)).symm,rfl⟩)
theorem xZ {β:Bs} (A:Option Addr) (ns:List aK) (L:Lay) (hG:ay β A ns L) (i:Nat) (hi:i < ns.length) :
    Spec Tryz.prog β 163 #[.pointer (some ⟨(av A),au A+i * 10,none⟩)] [] (fun v l=>v=.bool (decide (eO (nd ns i).kind (nd ns i).target))/\l=[]):=by
 refine Spec.enter Tryz.func163 rfl Tryz.ntmps163 (Nat.le_of_ble_eq_true rfl) (fun R=>?_)
 refine SR (gK 1 [] [] ?_)
 refine NN (af.seq (SR (gK 5 [(7,.bool (!(decide (((nd ns i).kind:Int)=(3:Int)))))] [(3,p_ ⟨[.old (.int .i64 ((nd ns i).kind))],none,none,none,none⟩ [(Rd β ⟨(av A),au A+i * 10+1,none⟩ (.int .i64 ((nd ns i).kind)))] ⟨ay.rd hG (i:=i) (by omega) (j:=1) rfl,trivial⟩)] ?_)))
 refine NN (af.cT (p:=((nd ns i).kind:Int)=(3:Int)) (fun _=>by kernel_rfl) (fun h7=>?_) (fun h7=>?_))
 ·refine SR (gK 6 [(2,.bool (decide (((nd ns i).target:ByteArray)=⟨#[]⟩)))] [(3,p_ ⟨[.old (.string (nd ns i).target)],none,none,none,none⟩ [(Rd β ⟨(av A),au A+i * 10+8,none⟩ (.string (nd ns i).target))] ⟨ay.rd hG (i:=i) (by omega) (j:=8) rfl,trivial⟩),(4,p_ ⟨[],none,none,none,some (.bool (decide (((nd ns i).target:ByteArray)=⟨#[]⟩)))⟩ [(Value.bool (((nd ns i).target:ByteArray).toList == (⟨#[]⟩:ByteArray).toList))=(.bool (decide (((nd ns i).target:ByteArray)=⟨#[]⟩)))] ⟨tW _ _,trivial⟩)] ?_)
  refine NN (af.ret (ai.ak ?_))
  exact RT (.bool (decide (((nd ns i).target:ByteArray)=⟨#[]⟩))) [0] (⟨congrArg Value.bool (decide_eq_decide.2 (by have h0:=kJ (s:=(nd ns i).target);grind [eO])),rfl⟩)
 refine af.skip (NX (SR (gK 6 [(18,.bool (!(decide (((nd ns i).target:ByteArray)=⟨#[]⟩))))] [(3,p_ ⟨[.old (.string (nd ns i).target)],none,none,none,none⟩ [(Rd β ⟨(av A),au A+i * 10+8,none⟩ (.string (nd ns i).target))] ⟨ay.rd hG (i:=i) (by omega) (j:=8) rfl,trivial⟩),(4,p_ ⟨[],none,none,none,some (.bool (!(decide (((nd ns i).target:ByteArray)=⟨#[]⟩))))⟩ [(Value.bool (!(((nd ns i).target:ByteArray).toList == (⟨#[]⟩:ByteArray).toList)))=(.bool (!(decide (((nd ns i).target:ByteArray)=⟨#[]⟩))))] ⟨Jx _ _,trivial⟩)] ?_)))
 refine aj.iF 18 (((nd ns i).target:ByteArray)=⟨#[]⟩) (fun _=>by kernel_rfl) (fun nY=>?_) (fun nY=>?_)
 ·refine gK 8 [(26,.bool (decide ((((((nd ns i).target:ByteArray).size:Nat):Int):Int)<=(4096:Int))))] [(3,p_ ⟨[.old (.string (nd ns i).target)],none,none,none,none⟩ [(Rd β ⟨(av A),au A+i * 10+8,none⟩ (.string (nd ns i).target))] ⟨ay.rd hG (i:=i) (by omega) (j:=8) rfl,trivial⟩)] ?_
  refine aj.gI 26 ((((((nd ns i).target:ByteArray).size:Nat):Int):Int)<=(4096:Int)) (fun _=>by kernel_rfl) (fun vR=>?_) (fun vR=>?_)
  ·refine gK 4 [(30,.string (nd ns i).target)] [(3,p_ ⟨[.old (.string (nd ns i).target)],none,none,none,none⟩ [(Rd β ⟨(av A),au A+i * 10+8,none⟩ (.string (nd ns i).target))] ⟨ay.rd hG (i:=i) (by omega) (j:=8) rfl,trivial⟩)] ?_
   refine gL (f:=201) (args:=#[.string (nd ns i).target,.int .u8 0]) (pre:=[]) [] (Spec.quiet (fun w=>Tryz.strings_IndexByte (nd ns i).target 0 w)) ?_
   rintro _ _ ⟨rfl,rfl⟩
   refine gK 3 [(2,.bool (decide ((Lib.indexByte (nd ns i).target.data.toList (0:Int).toNat.toUInt8:Int) < (0:Int))))] [] ?_
   refine NN (af.ret ?_)
   exact RT (.bool (decide ((Lib.indexByte (nd ns i).target.data.toList (0:Int).toNat.toUInt8:Int) < (0:Int)))) [0] (⟨congrArg Value.bool (decide_eq_decide.2 (by have h0:=kJ (s:=(nd ns i).target);rw [El];grind [eO])),rfl⟩)
  refine gK 8 [(2,.bool false)] [] ?_
  refine NN (af.ret ?_)
  exact RT (.bool false) [0] (⟨congrArg Value.bool (decide_eq_false (by have h0:=kJ (s:=(nd ns i).target);grind [eO])).symm,rfl⟩)
 refine gK 16 [(2,.bool false)] [] ?_
 refine NN (af.ret ?_)
 exact RT (.bool false) [0] (⟨congrArg Value.bool (decide_eq_false (by have h0:=kJ (s:=(nd ns i).target);grind [eO])).symm,rfl⟩)
theorem Ln {β:Bs} (A:Option Addr) (ns:List aK) (L:Lay) (hG:ay β A ns L) (i:Nat) (hi:i < ns.length) :
    Spec Tryz.prog β 118 #[.pointer (some ⟨(av A),au A+i * 10,none⟩)] [] (fun v l=>v=.bool (decide (qh (nd ns i)))/\l=[]):=by
 refine Spec.enter Tryz.func118 rfl Tryz.ntmps118 (Nat.le_of_ble_eq_true rfl) (fun R=>?_)
 refine SR (gK 1 [] [] ?_)
 refine NN (af.seq (SR (gK 4 [(6,vI ((nd ns i).kind))] [(3,p_ ⟨[.old (.int .i64 ((nd ns i).kind))],none,none,none,none⟩ [(Rd β ⟨(av A),au A+i * 10+1,none⟩ (.int .i64 ((nd ns i).kind)))] ⟨ay.rd hG (i:=i) (by omega) (j:=1) rfl,trivial⟩)] ?_)))
 refine gL [] (sU ((nd ns i).kind) 1 3) ?_
 rintro _ _ ⟨rfl,rfl⟩
 refine gK 2 [(9,.bool (!(decide (Within ((nd ns i).kind) 1 3))))] [] ?_
 refine aj.iF 9 (Within ((nd ns i).kind) 1 3) (fun _=>by kernel_rfl) (fun h9=>?_) (fun h9=>?_)
 ·refine gK 23 [(32,.bool true)] [] ?_
  refine NN (CT (SR (gK 1 [(2,.bool false)] [] ?_)))
  refine NN (af.ret (ai.ak ?_))
  exact RT (.bool false) [0] (⟨congrArg Value.bool (decide_eq_false (by rw [eX];unfold Within at *;grind)).symm,rfl⟩)
 refine gK 4 [(13,vI ((nd ns i).mode))] [(3,p_ ⟨[.old (.int .i64 ((nd ns i).mode))],none,none,none,none⟩ [(Rd β ⟨(av A),au A+i * 10+2,none⟩ (.int .i64 ((nd ns i).mode)))] ⟨ay.rd hG (i:=i) (by omega) (j:=2) rfl,trivial⟩)] ?_
 refine gL [] (sU ((nd ns i).mode) 0 4095) ?_
 rintro _ _ ⟨rfl,rfl⟩
 refine gK 3 [(17,.bool (!(decide (Within ((nd ns i).mode) 0 4095))))] [] ?_
 refine aj.iF 17 (Within ((nd ns i).mode) 0 4095) (fun _=>by kernel_rfl) (fun Ph=>?_) (fun Ph=>?_)
 ·refine gK 15 [(32,.bool true)] [] ?_
  refine NN (CT (SR (gK 1 [(2,.bool false)] [] ?_)))
  refine NN (af.ret (ai.ak ?_))
  exact RT (.bool false) [0] (⟨congrArg Value.bool (decide_eq_false (by rw [eX];unfold Within at *;grind)).symm,rfl⟩)
 refine gK 4 [(21,vI ((nd ns i).uid))] [(3,p_ ⟨[.old (.int .i64 ((nd ns i).uid))],none,none,none,none⟩ [(Rd β ⟨(av A),au A+i * 10+3,none⟩ (.int .i64 ((nd ns i).uid)))] ⟨ay.rd hG (i:=i) (by omega) (j:=3) rfl,trivial⟩)] ?_
 refine gL [] (sU ((nd ns i).uid) 0 2147483647) ?_
 rintro _ _ ⟨rfl,rfl⟩
 refine gK 3 [(25,.bool (!(decide (Within ((nd ns i).uid) 0 2147483647))))] [] ?_
 refine aj.iF 25 (Within ((nd ns i).uid) 0 2147483647) (fun _=>by kernel_rfl) (fun vO=>?_) (fun vO=>?_)
 ·refine gK 7 [(32,.bool true)] [] ?_
  refine NN (CT (SR (gK 1 [(2,.bool false)] [] ?_)))
  refine NN (af.ret (ai.ak ?_))
  exact RT (.bool false) [0] (⟨congrArg Value.bool (decide_eq_false (by rw [eX];unfold Within at *;grind)).symm,rfl⟩)
 refine gK 4 [(29,vI ((nd ns i).gid))] [(3,p_ ⟨[.old (.int .i64 ((nd ns i).gid))],none,none,none,none⟩ [(Rd β ⟨(av A),au A+i * 10+4,none⟩ (.int .i64 ((nd ns i).gid)))] ⟨ay.rd hG (i:=i) (by omega) (j:=4) rfl,trivial⟩)] ?_
 refine gL [] (sU ((nd ns i).gid) 0 2147483647) ?_
 rintro _ _ ⟨rfl,rfl⟩
 refine gK 2 [(32,.bool (!(decide (Within ((nd ns i).gid) 0 2147483647))))] [] ?_
 refine NN (af.cT (p:=Within ((nd ns i).gid) 0 2147483647) (fun _=>by kernel_rfl) (fun Gy=>?_) (fun Gy=>?_))
 ·refine SR (gK 1 [(2,.bool false)] [] ?_)
  refine NN (af.ret (ai.ak ?_))
  exact RT (.bool false) [0] (⟨congrArg Value.bool (decide_eq_false (by rw [eX];unfold Within at *;grind)).symm,rfl⟩)
 refine af.skip (NX (af.seq (SR (gK 6 [(38,.bool (!(decide (((nd ns i).kind:Int)=(1:Int)))))] [(3,p_ ⟨[.old (.int .i64 ((nd ns i).kind))],none,none,none,none⟩ [(Rd β ⟨(av A),au A+i * 10+1,none⟩ (.int .i64 ((nd ns i).kind)))] ⟨ay.rd hG (i:=i) (by omega) (j:=1) rfl,trivial⟩)] ?_))))
 refine aj.iF 38 (((nd ns i).kind:Int)=(1:Int)) (fun _=>by kernel_rfl) (fun Am=>?_) (fun Am=>?_)
 ·refine gK 8 [(46,.bool (decide (((((nd ns i).data.length:Nat):Int):Int) > (0:Int))))] [(3,p_ ⟨[.old (.slice (L.dA i) ((nd ns i).data.length) ((L.dC i)))],none,none,none,none⟩ [(Rd β ⟨(av A),au A+i * 10+7,none⟩ (.slice (L.dA i) ((nd ns i).data.length) ((L.dC i))))] ⟨ay.rd hG (i:=i) (by omega) (j:=7) rfl,trivial⟩)] ?_
  refine aj.gI 46 (((((nd ns i).data.length:Nat):Int):Int) > (0:Int)) (fun _=>by kernel_rfl) (fun h46=>?_) (fun h46=>?_)
  ·refine gK 14 [(60,.bool true)] [] ?_
   refine NN (CT (SR (gK 1 [(2,.bool false)] [] ?_)))
   refine NN (af.ret (ai.ak ?_))
   exact RT (.bool false) [0] (⟨congrArg Value.bool (decide_eq_false (by rw [eX];unfold Within at *;grind)).symm,rfl⟩)
  refine gK 6 [(52,.bool (!(decide (((nd ns i).kind:Int)=(2:Int)))))] [(3,p_ ⟨[.old (.int .i64 ((nd ns i).kind))],none,none,none,none⟩ [(Rd β ⟨(av A),au A+i * 10+1,none⟩ (.int .i64 ((nd ns i).kind)))] ⟨ay.rd hG (i:=i) (by omega) (j:=1) rfl,trivial⟩)] ?_
  refine aj.iF 52 (((nd ns i).kind:Int)=(2:Int)) (fun _=>by kernel_rfl) (fun JF=>?_) (fun JF=>?_)
  ·refine gK 8 [(60,.bool (decide (((((nd ns i).ah.length:Nat):Int):Int) > (0:Int))))] [(3,p_ ⟨[.old (.slice (L.eA i) ((nd ns i).ah.length) ((L.eC i)))],none,none,none,none⟩ [(Rd β ⟨(av A),au A+i * 10+9,none⟩ (.slice (L.eA i) ((nd ns i).ah.length) ((L.eC i))))] ⟨ay.rd hG (i:=i) (by omega) (j:=9) rfl,trivial⟩)] ?_
   refine NN (af.aZ (p:=((((nd ns i).ah.length:Nat):Int):Int) > (0:Int)) (fun _=>by kernel_rfl) (fun Pv=>?_) (fun Pv=>?_))
   ·refine SR (gK 1 [(2,.bool false)] [] ?_)
    refine NN (af.ret (ai.ak ?_))
    exact RT (.bool false) [0] (⟨congrArg Value.bool (decide_eq_false (by rw [eX];unfold Within at *;grind)).symm,rfl⟩)
   refine af.skip (NX (SR (gK 4 [(64,.agg #[vI ((nd ns i).sec),vI ((nd ns i).nano)])] [(3,p_ ⟨[.old (.int .i64 ((nd ns i).sec)),.old (.int .i64 ((nd ns i).nano))],none,none,none,none⟩ [(Rd β ⟨(av A),au A+i * 10+5+1,none⟩ (.int .i64 ((nd ns i).nano))),(Rd β ⟨(av A),au A+i * 10+5,none⟩ (.int .i64 ((nd ns i).sec)))] ⟨ay.rd hG (i:=i) (by omega) (j:=6) rfl,ay.rd hG (i:=i) (by omega) (j:=5) rfl,trivial⟩)] ?_)))
   refine gL [] (iz (nd ns i).sec (nd ns i).nano) ?_
   rintro _ _ ⟨rfl,rfl⟩
   refine gK 1 [(66,.bool (decide (dL (nd ns i).sec (nd ns i).nano)))] [] ?_
   refine aj.gI 66 (dL (nd ns i).sec (nd ns i).nano) (fun _=>by kernel_rfl) (fun Ap=>?_) (fun Ap=>?_)
   ·refine gK 1 [(67,.pointer (some ⟨(av A),au A+i * 10,none⟩))] [] ?_
    refine gL [] (xZ A ns L hG i hi) ?_
    rintro _ _ ⟨rfl,rfl⟩
    refine gK 2 [(2,.bool (decide (eO (nd ns i).kind (nd ns i).target)))] [] ?_
    refine NN (af.ret ?_)
    exact RT (.bool (decide (eO (nd ns i).kind (nd ns i).target))) [0] (⟨congrArg Value.bool (decide_eq_decide.2 (by rw [eX];unfold Within at *;grind)),rfl⟩)
   refine gK 4 [(2,.bool false)] [] ?_
   refine NN (af.ret ?_)
   exact RT (.bool false) [0] (⟨congrArg Value.bool (decide_eq_false (by rw [eX];unfold Within at *;grind)).symm,rfl⟩)
  refine gK 8 [(60,.bool false)] [] ?_
  refine NN (CF (af.skip (NX (SR (gK 4 [(64,.agg #[vI ((nd ns i).sec),vI ((nd ns i).nano)])] [(3,p_ ⟨[.old (.int .i64 ((nd ns i).sec)),.old (.int .i64 ((nd ns i).nano))],none,none,none,none⟩ [(Rd β ⟨(av A),au A+i * 10+5+1,none⟩ (.int .i64 ((nd ns i).nano))),(Rd β ⟨(av A),au A+i * 10+5,none⟩ (.int .i64 ((nd ns i).sec)))] ⟨ay.rd hG (i:=i) (by omega) (j:=6) rfl,ay.rd hG (i:=i) (by omega) (j:=5) rfl,trivial⟩)] ?_)))))
  refine gL [] (iz (nd ns i).sec (nd ns i).nano) ?_
  rintro _ _ ⟨rfl,rfl⟩
  refine gK 1 [(66,.bool (decide (dL (nd ns i).sec (nd ns i).nano)))] [] ?_
  refine aj.gI 66 (dL (nd ns i).sec (nd ns i).nano) (fun _=>by kernel_rfl) (fun Ap=>?_) (fun Ap=>?_)
  ·refine gK 1 [(67,.pointer (some ⟨(av A),au A+i * 10,none⟩))] [] ?_
   refine gL [] (xZ A ns L hG i hi) ?_
   rintro _ _ ⟨rfl,rfl⟩
   refine gK 2 [(2,.bool (decide (eO (nd ns i).kind (nd ns i).target)))] [] ?_
   refine NN (af.ret ?_)
   exact RT (.bool (decide (eO (nd ns i).kind (nd ns i).target))) [0] (⟨congrArg Value.bool (decide_eq_decide.2 (by rw [eX];unfold Within at *;grind)),rfl⟩)
  refine gK 4 [(2,.bool false)] [] ?_
  refine NN (af.ret ?_)
  exact RT (.bool false) [0] (⟨congrArg Value.bool (decide_eq_false (by rw [eX];unfold Within at *;grind)).symm,rfl⟩)
 refine gK 14 [(46,.bool false),(52,.bool (!(decide (((nd ns i).kind:Int)=(2:Int)))))] [(11,p_ ⟨[.old (.int .i64 ((nd ns i).kind))],none,none,none,none⟩ [(Rd β ⟨(av A),au A+i * 10+1,none⟩ (.int .i64 ((nd ns i).kind)))] ⟨ay.rd hG (i:=i) (by omega) (j:=1) rfl,trivial⟩)] ?_
 refine aj.iF 52 (((nd ns i).kind:Int)=(2:Int)) (fun _=>by kernel_rfl) (fun JF=>?_) (fun JF=>?_)
 ·refine gK 8 [(60,.bool (decide (((((nd ns i).ah.length:Nat):Int):Int) > (0:Int))))] [(3,p_ ⟨[.old (.slice (L.eA i) ((nd ns i).ah.length) ((L.eC i)))],none,none,none,none⟩ [(Rd β ⟨(av A),au A+i * 10+9,none⟩ (.slice (L.eA i) ((nd ns i).ah.length) ((L.eC i))))] ⟨ay.rd hG (i:=i) (by omega) (j:=9) rfl,trivial⟩)] ?_
  refine NN (af.aZ (p:=((((nd ns i).ah.length:Nat):Int):Int) > (0:Int)) (fun _=>by kernel_rfl) (fun Pv=>?_) (fun Pv=>?_))
  ·refine SR (gK 1 [(2,.bool false)] [] ?_)
   refine NN (af.ret (ai.ak ?_))
   exact RT (.bool false) [0] (⟨congrArg Value.bool (decide_eq_false (by rw [eX];unfold Within at *;grind)).symm,rfl⟩)
  refine af.skip (NX (SR (gK 4 [(64,.agg #[vI ((nd ns i).sec),vI ((nd ns i).nano)])] [(3,p_ ⟨[.old (.int .i64 ((nd ns i).sec)),.old (.int .i64 ((nd ns i).nano))],none,none,none,none⟩ [(Rd β ⟨(av A),au A+i * 10+5+1,none⟩ (.int .i64 ((nd ns i).nano))),(Rd β ⟨(av A),au A+i * 10+5,none⟩ (.int .i64 ((nd ns i).sec)))] ⟨ay.rd hG (i:=i) (by omega) (j:=6) rfl,ay.rd hG (i:=i) (by omega) (j:=5) rfl,trivial⟩)] ?_)))
  refine gL [] (iz (nd ns i).sec (nd ns i).nano) ?_
  rintro _ _ ⟨rfl,rfl⟩
  refine gK 1 [(66,.bool (decide (dL (nd ns i).sec (nd ns i).nano)))] [] ?_
  refine aj.gI 66 (dL (nd ns i).sec (nd ns i).nano) (fun _=>by kernel_rfl) (fun Ap=>?_) (fun Ap=>?_)
  ·refine gK 1 [(67,.pointer (some ⟨(av A),au A+i * 10,none⟩))] [] ?_
   refine gL [] (xZ A ns L hG i hi) ?_
   rintro _ _ ⟨rfl,rfl⟩
   refine gK 2 [(2,.bool (decide (eO (nd ns i).kind (nd ns i).target)))] [] ?_
   refine NN (af.ret ?_)
   exact RT (.bool (decide (eO (nd ns i).kind (nd ns i).target))) [0] (⟨congrArg Value.bool (decide_eq_decide.2 (by rw [eX];unfold Within at *;grind)),rfl⟩)
  refine gK 4 [(2,.bool false)] [] ?_
  refine NN (af.ret ?_)
  exact RT (.bool false) [0] (⟨congrArg Value.bool (decide_eq_false (by rw [eX];unfold Within at *;grind)).symm,rfl⟩)
 refine gK 8 [(60,.bool false)] [] ?_
 refine NN (CF (af.skip (NX (SR (gK 4 [(64,.agg #[vI ((nd ns i).sec),vI ((nd ns i).nano)])] [(3,p_ ⟨[.old (.int .i64 ((nd ns i).sec)),.old (.int .i64 ((nd ns i).nano))],none,none,none,none⟩ [(Rd β ⟨(av A),au A+i * 10+5+1,none⟩ (.int .i64 ((nd ns i).nano))),(Rd β ⟨(av A),au A+i * 10+5,none⟩ (.int .i64 ((nd ns i).sec)))] ⟨ay.rd hG (i:=i) (by omega) (j:=6) rfl,ay.rd hG (i:=i) (by omega) (j:=5) rfl,trivial⟩)] ?_)))))
 refine gL [] (iz (nd ns i).sec (nd ns i).nano) ?_
 rintro _ _ ⟨rfl,rfl⟩
 refine gK 1 [(66,.bool (decide (dL (nd ns i).sec (nd ns i).nano)))] [] ?_
 refine aj.gI 66 (dL (nd ns i).sec (nd ns i).nano) (fun _=>by kernel_rfl) (fun Ap=>?_) (fun Ap=>?_)
 ·refine gK 1 [(67,.pointer (some ⟨(av A),au A+i * 10,none⟩))] [] ?_
  refine gL [] (xZ A ns L hG i hi) ?_
  rintro _ _ ⟨rfl,rfl⟩
  refine gK 2 [(2,.bool (decide (eO (nd ns i).kind (nd ns i).target)))] [] ?_
  refine NN (af.ret ?_)
  exact RT (.bool (decide (eO (nd ns i).kind (nd ns i).target))) [0] (⟨congrArg Value.bool (decide_eq_decide.2 (by rw [eX];unfold Within at *;grind)),rfl⟩)
 refine gK 4 [(2,.bool false)] [] ?_
 refine NN (af.ret ?_)
 exact RT (.bool false) [0] (⟨congrArg Value.bool (decide_eq_false (by rw [eX];unfold Within at *;grind)).symm,rfl⟩)
end
section
open Go.RowKit Go.Maps
def lM (x y:ByteArray):Prop:=(Op.bytesLess x.toList y.toList || (x.toList == y.toList))=true
instance (x y:ByteArray):Decidable (lM x y):=inferInstanceAs (Decidable (_=true))
theorem Pw (x y:ByteArray):Value.bool (Op.bytesLess x.toList y.toList || (x.toList == y.toList))=Value.bool (decide (lM x y)):=by
  have h:∀ (b:Bool) [Decidable (b=true)],b=decide (b=true):=by
    intro b _
    cases b<;>simp
  exact congrArg Value.bool (h _)
def tgt (ns:List aK) (z:Int):Nat:=(oQ ns z).toNat
theorem nu {ns:List aK} {z:Int} (h:0<=oQ ns z):tgt ns z < ns.length/\(nd ns (tgt ns z)).id=z/\oQ ns z=(tgt ns z:Int):=by
  unfold tgt
  unfold oQ at h ⊢
  cases hf:ns.findIdx? (fun n=>n.id == z) with
  | none=>rw [hf] at h;simp at h
  | some k=>
    rw [List.findIdx?_eq_some_iff_getElem] at hf
    obtain⟨h1,h2,_⟩:=hf
    refine⟨h1,?_,rfl⟩
    show (nd ns k).id=z
    unfold nd
    rw [List.getD_eq_getElem?_getD,List.getElem?_eq_getElem h1]
    simpa using h2
def ent (ns:List aK) (i j:Nat):jj:=en (nd ns i).ah j
def kN (ns:List aK) (i:Nat):Nat->ByteArray
  | 0=>⟨#[]⟩
  | j+1=>(ent ns i j).name
structure nH (ns:List aK) (i j:Nat):Prop where
  at_:0<=oQ ns (ent ns i j).id
  good:bI (ent ns i j).name
  ord:¬ lM (ent ns i j).name (kN ns i j)
def Er (ns:List aK) (i j:Nat):List (Nat×Nat):=if (nd ns (tgt ns (ent ns i j).id)).kind=2 then [(tgt ns (ent ns i j).id,i)] else []
def di (ns:List aK) (i:Nat):Nat->List (Nat×Nat)
  | 0=>[]
  | j+1=>Er ns i j++di ns i j
def fC (ns:List aK):Nat->List (Nat×Nat)
  | 0=>[]
  | i+1=>di ns i (nd ns i).ah.length++fC ns i
def iZ (ns:List aK) (p:Nat×Nat):Int×Int:=((nd ns p.1).id,(nd ns p.2).id)
theorem JG {ns:List aK} {i j m:Nat} (h:j<=m):∃ l,di ns i m=l++di ns i j:=by
  induction m with
  | zero=>exact⟨[],by rw [Nat.le_zero.1 h];rfl⟩
  | succ m ih=>
    rcases Nat.lt_or_ge m j with h1|h1
    ·have:j=m+1:=by omega
     subst this
     exact⟨[],rfl⟩
    obtain⟨l,hl⟩:=ih h1
    exact⟨Er ns i m++l,by rw [di,hl,List.append_assoc]⟩
theorem JH {ns:List aK} {i m:Nat} (h:i<=m):∃ l,fC ns m=l++fC ns i:=by
  induction m with
  | zero=>exact⟨[],by rw [Nat.le_zero.1 h];rfl⟩
  | succ m ih=>
    rcases Nat.lt_or_ge m i with h1|h1
    ·have:i=m+1:=by omega
     subst this
     exact⟨[],rfl⟩
    obtain⟨l,hl⟩:=ih h1
    exact⟨di ns m (nd ns m).ah.length++l,by rw [fC,hl,List.append_assoc]⟩
theorem wL {l:List (Nat×Nat)} {k:List (Nat×Nat)} (h:((l++k).map Prod.fst).Nodup):(k.map Prod.fst).Nodup:=by
  rw [List.map_append] at h
  exact (List.nodup_append.1 h).2.1
theorem cQ.inj {ns:List aK} (hr:cQ ns) {a b:Nat} (ha:a < ns.length) (hb:b < ns.length) (h:(nd ns a).id=(nd ns b).id):a=b:=by
  rcases Nat.lt_trichotomy a b with h1|h1|h1
  ·have:=hr a b h1 hb;omega
  ·exact h1
  have:=hr b a h1 ha;omega
theorem GD {ns:List aK} {ps:List (Nat×Nat)} {k:Nat} (h:up (ps.map (iZ ns)) (nd ns k).id=none):k∉ps.map Prod.fst:=by
  unfold up at h
  induction ps with
  | nil=>simp
  | cons p ps ih=>
    obtain⟨a,b⟩:=p
    rw [List.map_cons,iZ,List.lookup_cons] at h
    intro hm
    rw [List.map_cons] at hm
    rcases List.mem_cons.1 hm with e|hm
    ·subst e
     simp at h
    by_cases e:((nd ns k).id == (nd ns a).id)=true
    ·rw [e] at h;cases h
    have e:((nd ns k).id == (nd ns a).id)=false:=by simpa using e
    rw [e] at h
    exact ih h hm
theorem GF {ns:List aK} {ps:List (Nat×Nat)} {k:Nat} {y:Int} (hr:cQ ns) (hk:k < ns.length) (hp:∀ p,p∈ps->p.1 < ns.length) (h:up (ps.map (iZ ns)) (nd ns k).id=some y):k∈ps.map Prod.fst/\∃ p,p∈ps/\p.1=k/\y=(nd ns p.2).id:=by
  unfold up at h
  induction ps with
  | nil=>cases h
  | cons p ps ih=>
    obtain⟨a,b⟩:=p
    rw [List.map_cons,iZ,List.lookup_cons] at h
    by_cases e:((nd ns k).id == (nd ns a).id)=true
    ·rw [e] at h
     cases h
     have:k=a:=hr.inj hk (hp (a,b) (List.mem_cons_self ..)) (by simpa using e)
     subst this
     exact⟨by simp,(k,b),List.mem_cons_self ..,rfl,rfl⟩
    have e:((nd ns k).id == (nd ns a).id)=false:=by simpa using e
    rw [e] at h
    obtain⟨h1,q,hq,h2⟩:=ih (fun p hp'=>hp p (List.mem_cons_of_mem _ hp')) h
    exact⟨by rw [List.map_cons];exact List.mem_cons_of_mem _ h1,q,List.mem_cons_of_mem _ hq,h2⟩
def bf (A:Option Addr) (ns:List aK) (k:Nat) (z:Int):Option Value:=if 0<=oQ ns z/\oQ ns z < k then some (.pointer (some ⟨av A,au A+tgt ns z * 10,none⟩)) else none
structure uW (ns:List aK) (i:Nat) (ps:List (Nat×Nat)):Prop where
  ah:∀ j,j < (nd ns i).ah.length->nH ns i j
  nodup:((di ns i (nd ns i).ah.length++ps).map Prod.fst).Nodup
theorem Rp {A:Option Addr} {ns:List aK} {k:Nat} {z:Int} (h:0<=oQ ns z) (hk:tgt ns z < k):mf (bf A ns k) (.int .i64 z)=some (.pointer (some ⟨av A,au A+tgt ns z * 10,none⟩)):=
  if_pos ⟨h,by rw [(nu h).2.2];omega⟩
theorem Oo {A:Option Addr} {ns:List aK} {k:Nat} {z:Int} (h:¬ 0<=oQ ns z):mf (bf A ns k) (.int .i64 z)=none:=if_neg (fun e=>h e.1)
theorem Es (ns:List aK) (i j:Nat):(di ns i j).length<=j:=by
  induction j with
  | zero=>exact Nat.le_refl _
  | succ j ih=>
    rw [di,List.length_append]
    have:(Er ns i j).length<=1:=by
      unfold Er
      split<;>simp
    omega
theorem sV {ns:List aK} {i j:Nat} (h:¬ (nd ns (tgt ns (ent ns i j).id)).kind=2):di ns i (j+1)=di ns i j:=by
  rw [di,Er,if_neg h];rfl
theorem o5 {ns:List aK} {i j:Nat} (h:(nd ns (tgt ns (ent ns i j).id)).kind=2):di ns i (j+1)=(tgt ns (ent ns i j).id,i)::di ns i j:=by
  rw [di,Er,if_pos h];rfl
theorem FY {ns:List aK} {i j:Nat} {ps:List (Nat×Nat)} (h:uW ns i ps) (hj:j < (nd ns i).ah.length) (hk:(nd ns (tgt ns (ent ns i j).id)).kind=2):tgt ns (ent ns i j).id∉(di ns i j++ps).map Prod.fst:=by
  obtain⟨l,hl⟩:=JG (ns:=ns) (i:=i) (show j+1<=(nd ns i).ah.length from hj)
  have h1:=h.nodup
  rw [hl,List.append_assoc] at h1
  have h2:=wL h1
  rw [o5 hk,List.cons_append,List.map_cons] at h2
  exact (List.nodup_cons.1 h2).1
theorem Lp {ns:List aK} {i j:Nat} {ps:List (Nat×Nat)} (hat:0<=oQ ns (ent ns i j).id) (hk:(nd ns (tgt ns (ent ns i j).id)).kind=2) :
    upd (mf (pf ((di ns i j++ps).map (iZ ns)))) (.int .i64 (ent ns i j).id) (some (.int .i64 (nd ns i).id))=mf (pf ((di ns i (j+1)++ps).map (iZ ns))):=by
  rw [Em,o5 hk,List.cons_append,List.map_cons,iZ,(nu hat).2.1,Ol]
theorem Lr {ns:List aK} {i j:Nat} {ps:List (Nat×Nat)} {f:Lit->Option Value} {kl:Lit} (hf:f kl=none) (hk:(nd ns (tgt ns (ent ns i j).id)).kind=2) :
    (if (f kl).isSome then (di ns i j++ps).length else (di ns i j++ps).length+1)=(di ns i (j+1)++ps).length:=by
  rw [hf,o5 hk]
  rfl
theorem Ia {ns:List aK} {i j:Nat} {ps:List (Nat×Nat)} (hat:0<=oQ ns (ent ns i j).id) (hk:(nd ns (tgt ns (ent ns i j).id)).kind=2) (hup:up ((di ns i j++ps).map (iZ ns)) (ent ns i j).id=none) (h:((di ns i j++ps).map Prod.fst).Nodup) :
    ((di ns i (j+1)++ps).map Prod.fst).Nodup:=by
  rw [o5 hk,List.cons_append,List.map_cons]
  refine List.nodup_cons.2 ⟨?_,h⟩
  refine GD (ns:=ns) ?_
  rw [(nu hat).2.1]
  exact hup
theorem Et {ns:List aK} {i j:Nat} (h:∀ t,t < j->nH ns i t):∀ p,p∈di ns i j->p.1 < ns.length/\p.2=i:=by
  induction j with
  | zero=>intro p hp;cases hp
  | succ j ih=>
    intro p hp
    rw [di] at hp
    rcases List.mem_append.1 hp with hp|hp
    ·unfold Er at hp
     split at hp
     ·rw [List.mem_singleton.1 hp]
      exact⟨(nu (h j (Nat.lt_succ_self j)).at_).1,rfl⟩
     cases hp
    exact ih (fun t ht=>h t (by omega)) p hp
theorem FZ {ns:List aK} {i j:Nat} {ps:List (Nat×Nat)} {y:Int} (hr:cQ ns) (hps:∀ p,p∈ps->p.1 < ns.length) (hok:∀ t,t < j->nH ns i t) (hat:0<=oQ ns (ent ns i j).id) (hk:(nd ns (tgt ns (ent ns i j).id)).kind=2)
    (hup:up ((di ns i j++ps).map (iZ ns)) (ent ns i j).id=some y) (hj:j < (nd ns i).ah.length):¬ uW ns i ps:=fun h=>by
  refine FY h hj hk ?_
  rw [← (nu hat).2.1] at hup
  refine (GF hr (nu hat).1 (fun p hp=>?_) hup).1
  rcases List.mem_append.1 hp with hp|hp
  ·exact (Et hok p hp).1
  exact hps p hp
end
section
open Go.RowKit
structure Th where
  k:Nat
  kind:Int
deriving Inhabited,DecidableEq
abbrev eY (α:Type):=List (ByteArray×α)
structure aR where
  id:Int
  mode:Int
  uid:Int
  gid:Int
  sec:Int
  nano:Int
  links:Int
  opens:Int
  gone:Bool
  kind:Int
  data:List UInt8
  target:ByteArray
  ah:eY Th
  up:Option Nat
deriving Inhabited
abbrev bY:=Nat->aR
def obj (O:bY) (k:Nat):aR:=O k
def aD (O:bY) (k:Nat) (f:aR->aR):bY:=fun i=>if i=k then f (O i) else O i
section upd
variable {O:bY} {k j:Nat} {f g:aR->aR}
theorem bL:obj (aD O k f) k=f (obj O k):=if_pos rfl
theorem cx (h:j≠k):obj (aD O k f) j=obj O j:=if_neg h
theorem jX:obj (aD O k f) j=if j=k then f (obj O j) else obj O j:=rfl
theorem Oq (h:f (obj O k)=obj O k):aD O k f=O:=by
  funext i
  show (if i=k then f (O i) else O i)=O i
  split
  ·rename_i e;subst e;exact h
  rfl
theorem sW:aD (aD O k f) k g=aD O k (fun o=>g (f o)):=by
  funext i
  show (if i=k then g (if i=k then f (O i) else O i) else (if i=k then f (O i) else O i))=if i=k then g (f (O i)) else O i
  split<;>rfl
end upd
section ah
variable {α:Type} {n p:ByteArray} {t:α} {es:eY α}
def aT (n:ByteArray) (es:eY α):Option α:=(es.find? (fun e=>decide (e.1=n))).map (·.2)
def gE (n:ByteArray) (t:α):eY α->eY α
  | []=>[(n,t)]
  | e::r=>if ¬ lM e.1 n then (n,t)::e::r else e::gE n t r
def fX (n:ByteArray) (es:eY α):eY α:=es.filter (fun e=>decide (e.1≠n))
theorem ij {e:ByteArray×α}:aT n (e::es)=if e.1=n then some e.2 else aT n es:=by
  unfold aT
  rw [List.find?_cons]
  by_cases h:e.1=n
  ·rw [if_pos h];simp [h]
  rw [if_neg h];simp [h]
theorem uX:aT n es=none↔∀ e∈es,e.1≠n:=by
  unfold aT
  rw [Option.map_eq_none_iff,List.find?_eq_none]
  simp
theorem lW {es:eY α} (h:aT n es=some t):(n,t)∈es:=by
  unfold aT at h
  obtain⟨e,h1,h2⟩:=Option.map_eq_some_iff.1 h
  have h3:=List.find?_some h1
  have h4:=List.mem_of_find?_eq_some h1
  obtain⟨a,b⟩:=e
  simp at h3 h2
  subst h3 h2
  exact h4
theorem Eu:∀ {es:eY α},(gE n t es).length=es.length+1
  | []=>rfl
  | e::r=>by
    unfold gE
    split
    ·rfl
    rw [List.length_cons,Eu];rfl
theorem wM (hn:aT n es=none):aT p (gE n t es)=if p=n then some t else aT p es:=by
  induction es with
  | nil=>
    rw [gE,ij]
    by_cases h:n=p
    ·rw [if_pos h,if_pos h.symm]
    rw [if_neg h,if_neg (fun e=>h e.symm)]
  | cons e r ih=>
    rw [ij] at hn
    have he:¬ e.1=n:=fun h=>by rw [if_pos h] at hn;cases hn
    rw [if_neg he] at hn
    rw [gE]
    split
    ·rw [ij]
     by_cases h:n=p
     ·rw [if_pos h,if_pos h.symm]
     rw [if_neg h,if_neg (fun e=>h e.symm)]
    rw [ij,ih hn,ij]
    by_cases h:p=n
    ·subst h;rw [if_neg he,if_pos rfl,if_pos rfl]
    rw [if_neg h,if_neg h]
theorem qi:aT p (fX n es)=if p=n then none else aT p es:=by
  induction es with
  | nil=>simp [fX,aT]
  | cons e r ih=>
    unfold fX at ih ⊢
    rw [List.filter_cons]
    by_cases h:e.1=n
    ·rw [if_neg (by simp [h]),ih,ij]
     by_cases hp:p=n
     ·rw [if_pos hp,if_pos hp]
     rw [if_neg hp,if_neg hp,if_neg (fun e2=>hp (e2.symm.trans h))]
    rw [if_pos (by simp [h]),ij,ih,ij]
    by_cases hp:p=n
    ·subst hp;rw [if_neg h,if_pos rfl,if_pos rfl]
    rw [if_neg hp,if_neg hp]
def nZ (es:eY α):Prop:=es.Pairwise (fun a b=>a.1≠b.1)
theorem Ls {es:eY α} (hd:nZ es) (h:aT n es=some t):(fX n es).length+1=es.length:=by
  induction es with
  | nil=>cases h
  | cons e r ih=>
    obtain⟨h1,h2⟩:=List.pairwise_cons.1 hd
    rw [ij] at h
    unfold fX at ih ⊢
    rw [List.filter_cons]
    by_cases he:e.1=n
    ·rw [if_neg (by simp [he])]
     have:r.filter (fun e=>decide (e.1≠n))=r:=List.filter_eq_self.2 (fun x hx=>by have:=h1 x hx;simp;exact fun e2=>this (he.trans e2.symm))
     rw [this];rfl
    rw [if_pos (by simp [he])]
    rw [if_neg he] at h
    rw [List.length_cons,List.length_cons,ih h2 h]
theorem zo {e:ByteArray×α}:∀ {es:eY α},e∈gE n t es↔e=(n,t)\/e∈es
  | []=>by simp [gE]
  | x::r=>by
    unfold gE
    split
    ·simp
    rw [List.mem_cons,zo,List.mem_cons]
    constructor
    ·rintro (h|h|h)
     ·exact .inr (.inl h)
     ·exact .inl h
     exact .inr (.inr h)
    rintro (h|h|h)
    ·exact .inr (.inl h)
    ·exact .inl h
    exact .inr (.inr h)
end ah
end
section
open Go.RowKit
section sat
variable {β:Bs} {l:List HP} {w:World} {p p1 p2:HP} {i:Nat}
theorem Sat.Rq (h:Sat β l w) (hp:l[i]?=some p) (hs:∀ F,p.h F w->∃ F1 F2,p1.h F1 w/\p2.h F2 w/\Apart F1 F2/\∀ k,F k↔F1 k\/F2 k):Sat β (l.set i p1++[p2]) w:=by
  obtain⟨ho,φ,h1,h2,h3⟩:=h
  obtain⟨F1,F2,g1,g2,g3,g4⟩:=hs _ (h1 i p hp)
  have hi:=bw hp
  have hlen:(l.set i p1++[p2]).length=l.length+1:=by simp
  refine⟨ho,fun j=>if j=l.length then F2 else if j=i then F1 else φ j,fun j q hq=>?_,fun j hj k hk hO=>?_,fun a b ha hb hne k hk hk'=>?_⟩
  ·by_cases e:j=l.length
   ·subst e
    rw [List.getElem?_append_right (by simp)] at hq
    simp at hq
    subst hq
    simpa using g2
   rw [List.getElem?_append_left (by have:=bw hq;rw [hlen] at this;simp;omega)] at hq
   simp only [e,if_false]
   by_cases e2:j=i
   ·subst e2
    rw [List.getElem?_set_self hi] at hq
    cases hq
    simpa using g1
   rw [List.getElem?_set_ne (fun e'=>e2 e'.symm)] at hq
   simp only [e2,if_false]
   exact h1 j q hq
  ·rw [hlen] at hj
   have hF:∀ k,F1 k\/F2 k->β.O k->False:=fun k hk hO=>h2 i hi k ((g4 k).2 hk) hO
   by_cases e:j=l.length
   ·simp only [e,if_true] at hk;exact hF k (.inr hk) hO
   simp only [e,if_false] at hk
   by_cases e2:j=i
   ·simp only [e2,if_true] at hk;exact hF k (.inl hk) hO
   simp only [e2,if_false] at hk;exact h2 j (by omega) k hk hO
  rw [hlen] at ha hb
  have key:∀ j,j < l.length->j≠i->∀ k,F1 k\/F2 k->φ j k->False:=fun j hj hne k hk hk'=>h3 j i hj hi hne k hk' ((g4 k).2 hk)
  by_cases ea:a=l.length
  ·simp only [ea,if_true] at hk
   have eb:¬ b=l.length:=fun e=>hne (ea.trans e.symm)
   simp only [eb,if_false] at hk'
   by_cases Ar:b=i
   ·simp only [Ar,if_true] at hk';exact g3 k hk' hk
   simp only [Ar,if_false] at hk';exact key b (by omega) Ar k (.inr hk) hk'
  simp only [ea,if_false] at hk
  by_cases JI:a=i
  ·simp only [JI,if_true] at hk
   by_cases eb:b=l.length
   ·simp only [eb,if_true] at hk';exact g3 k hk hk'
   simp only [eb,if_false] at hk'
   have Ar:¬ b=i:=fun e=>hne (JI.trans e.symm)
   simp only [Ar,if_false] at hk'
   exact key b (by omega) Ar k (.inl hk) hk'
  simp only [JI,if_false] at hk
  by_cases eb:b=l.length
  ·simp only [eb,if_true] at hk';exact key a (by omega) JI k (.inr hk') hk
  simp only [eb,if_false] at hk'
  by_cases Ar:b=i
  ·simp only [Ar,if_true] at hk';exact key a (by omega) JI k (.inl hk') hk
  simp only [Ar,if_false] at hk';exact h3 a b (by omega) (by omega) hne k hk hk'
theorem Sat.Nr {j:Nat} {idx:List Nat} {l':List HP} (h:Sat β l w) (hp:l[i]?=some p1) (hq:l[j]?=some p2) (hn:bq (i::j::idx)=true) (hl:bT l idx=some l') (hs:∀ F1 F2,p1.h F1 w->p2.h F2 w->Apart F1 F2->∃ F,p.h F w/\∀ k,F k->F1 k\/F2 k):Sat β (p::l') w:=by
  have h':=h.pick (idx:=i::j::idx) (l':=p1::p2::l') hn (by simp only [bT,hp,hq,hl])
  obtain⟨ho,φ,h1,h2,h3⟩:=h'
  obtain⟨F,hF,hk⟩:=hs _ _ (h1 0 p1 rfl) (h1 1 p2 rfl) (h3 0 1 (by simp) (by simp) (by decide))
  have hlen:(p1::p2::l').length=l'.length+2:=rfl
  rw [hlen] at h2 h3
  refine⟨ho,fun j=>if j=0 then F else φ (j+1),fun j q hq=>?_,fun j hj k hkk hO=>?_,fun a b ha hb hne k hk1 hk2=>?_⟩
  ·cases j with
   | zero=>simp at hq;subst hq;simpa using hF
   | succ j=>simpa using h1 (j+2) q (by simpa using hq)
  ·simp only [List.length_cons] at hj
   cases j with
   | zero=>
     simp only [if_true] at hkk
     rcases hk k hkk with e|e
     ·exact h2 0 (by omega) k e hO
     exact h2 1 (by omega) k e hO
   | succ j=>exact h2 (j+2) (by omega) k (by simpa using hkk) hO
  simp only [List.length_cons] at ha hb
  have key:∀ j,j < l'.length->F k->φ (j+2) k->False:=fun j hj e1 e2=>by
    rcases hk k e1 with e|e
    ·exact h3 0 (j+2) (by omega) (by omega) (by omega) k e e2
    exact h3 1 (j+2) (by omega) (by omega) (by omega) k e e2
  cases a with
  | zero=>
    cases b with
    | zero=>exact hne rfl
    | succ b=>exact key b (by omega) (by simpa using hk1) (by simpa using hk2)
  | succ a=>
    cases b with
    | zero=>exact key a (by omega) (by simpa using hk2) (by simpa using hk1)
    | succ b=>exact h3 (a+2) (b+2) (by omega) (by omega) (by omega) k (by simpa using hk1) (by simpa using hk2)
end sat
def jk (R:Nat->cu) (n:Nat):cu where
  h F w:=∃ φ:Nat->Fp,(∀ i,i < n->(R i).h (φ i) w)/\(∀ i j,i < n->j < n->i≠j->Apart (φ i) (φ j))/\∀ k,F k↔∃ i,i < n/\φ i k
  lt:=fun ⟨_,h1,_,h3⟩ k hk=>let ⟨i,hi,hk⟩:=(h3 k).1 hk;(R i).lt (h1 i hi) k hk
  st:=fun ⟨φ,h1,h2,h3⟩ _ _ hk hn=>⟨φ,fun i hi=>(R i).st (h1 i hi) hk (fun k hk=>hn k ((h3 k).2 ⟨i,hi,hk⟩)),h2,h3⟩
def cu.none:cu where
  h F _:=∀ k,¬ F k
  lt:=fun h k hk=>absurd hk (h k)
  st:=fun h _ _ _ _=>h
def jY (R:Nat->cu) (k:Nat) (a:cu):Nat->cu:=fun i=>if i=k then a else R i
section JJ
variable {β:Bs} {l l':List HP} {w:World} {i n k:Nat} {R R':Nat->cu} {a:cu}
theorem jk.nil (R:Nat->cu) (w:World):(HP.abs (jk R 0)).h (fun _=>False) w:=⟨fun _ _=>False,fun i hi=>absurd hi (Nat.not_lt_zero i),fun i _ hi=>absurd hi (Nat.not_lt_zero i),fun _=>⟨fun h=>h.elim,fun ⟨i,hi,_⟩=>absurd hi (Nat.not_lt_zero i)⟩⟩
theorem Sat.JK (h:Sat β l w) (R:Nat->cu):Sat β (l++[.abs (jk R 0)]) w:=Sat.new h (jk.nil R w) (Keeps.refl _ _) (fun _ h=>h.elim)
theorem Sat.rK {j:Nat} {idx:List Nat} (h:Sat β l w) (hp:l[i]?=some (.abs (jk R n))) (hq:l[j]?=some (.abs a)) (hn:bq (i::j::idx)=true) (hl:bT l idx=some l') (hR:∀ x,x < n->R' x=R x) (ha:R' n=a):Sat β (.abs (jk R' (n+1))::l') w:=by
  refine h.Nr hp hq hn hl ?_
  rintro F1 F2 ⟨φ,h1,h2,h3⟩ hF hap
  refine⟨fun x=>F1 x\/F2 x,⟨fun i=>if i=n then F2 else φ i,fun i hi=>?_,fun i j hi hj hne x hx hy=>?_,fun x=>⟨fun hx=>?_,fun ⟨i,hi,hx⟩=>?_⟩⟩,fun x hx=>hx⟩
  ·by_cases e:i=n
   ·subst e;simp only [if_true];rw [ha];exact hF
   simp only [e,if_false];rw [hR i (by omega)];exact h1 i (by omega)
  ·by_cases e1:i=n
   ·by_cases e2:j=n
    ·exact hne (e1.trans e2.symm)
    simp only [e1,if_true] at hx
    simp only [e2,if_false] at hy
    exact hap x ((h3 x).2 ⟨j,by omega,hy⟩) hx
   simp only [e1,if_false] at hx
   by_cases e2:j=n
   ·simp only [e2,if_true] at hy
    exact hap x ((h3 x).2 ⟨i,by omega,hx⟩) hy
   simp only [e2,if_false] at hy
   exact h2 i j (by omega) (by omega) hne x hx hy
  ·rcases hx with hx|hx
   ·obtain⟨i,hi,hx⟩:=(h3 x).1 hx
    exact⟨i,by omega,by simpa [Nat.ne_of_lt hi] using hx⟩
   exact⟨n,Nat.lt_succ_self n,by simpa using hx⟩
  by_cases e:i=n
  ·exact .inr (by simpa [e] using hx)
  exact .inl ((h3 x).2 ⟨i,by omega,by simpa [e] using hx⟩)
theorem jk.base {F:Fp} {β':Bs} (h:(HP.abs (jk R n)).h F w) (h1:∀ k,F k->β'.O k) (_:β'.w0=w) {Φ:Nat->Bs->Prop} (wv:∀ i,i < n->∀ F,(R i).h F w->(∀ k,F k->β'.O k)->Φ i β'):∀ i,i < n->Φ i β':=by
  obtain⟨φ,g1,_,g3⟩:=h
  exact fun i hi=>wv i hi (φ i) (g1 i hi) (fun k hk=>h1 k ((g3 k).2 ⟨i,hi,hk⟩))
end JJ
section uS
variable {P:Program} {β:Bs} {N:Nat} {ops:Array Oper} {S:List HP} {l:List Nat} {fr:Fr} {hps:List HP} {Q:Post} {i:Nat}
def Px (β:Bs) (N:Nat) {ι:Type} (B:ι->Bs) (Φ:ι->Prop) (fr:ι->Fr) (hp:ι->List HP):Post:=fun _ a w=>∃ i junk,β.le (B i)/\Φ i/\a=bW N (fr i) junk/\Sat (B i) (hp i) w
theorem ai.Cd {qL:Bs} {ι:Type} {B:ι->Bs} {Φ:ι->Prop} {fr':ι->Fr} {hp':ι->List HP} (j:ι) {idx pk:List Nat} (hb:B j=β) (hle:qL.le β) (wv:Φ j) (hf:∀ junk,iV fr junk idx=fr' j) (hn:bq pk=true) (hp:bT hps pk=some (hp' j)):ai β N (NP (Px qL N B Φ fr' hp')) .normal fr hps:=by
  subst hb
  exact fun junk _ hS=>⟨j,lk fr junk,hle,wv,by rw [jd N fr junk idx,hf junk],hS.pick hn hp⟩
end uS
end
section
open Go.RowKit
structure qA (β:Bs) (R:List HP) (β':Bs):Prop where
  le:β.le β'
  fp:∃ φ:Nat->Fp,(∀ (i:Nat) (p:HP),R[i]?=some p->p.h (φ i) β'.w0/\∀ k,φ i k->β'.O k)/\(∀ i,i < R.length->∀ k,φ i k->¬ β.O k)/\(∀ i j,i < R.length->j < R.length->i≠j->Apart (φ i) (φ j))/\∀ k,β'.O k->β.O k\/∃ i,i < R.length/\φ i k
section Tq
variable {β β' Ei:Bs} {l R:List HP} {w:World} {p:HP} {i:Nat}
theorem qA.get (h:qA β R β') (i:Nat) (hp:R[i]?=some p):∃ F,p.h F β'.w0/\∀ k,F k->β'.O k:=by
  obtain⟨φ,h1,_⟩:=h.fp
  exact⟨φ i,h1 i p hp⟩
theorem Sat.turn {a b:List HP} (h:Sat β (a++b) w):Sat β (b++a) w:=by
  obtain⟨ho,φ,h1,h2,h3⟩:=h
  have hl:(a++b).length=a.length+b.length:=List.length_append
  have hl':(b++a).length=b.length+a.length:=List.length_append
  refine⟨ho,fun i=>if i < b.length then φ (a.length+i) else φ (i - b.length),fun i p hp=>?_,fun i hi k hk hO=>?_,fun i j hi hj hne k hk hk'=>?_⟩
  ·have hi:=bw hp
   by_cases e:i < b.length
   ·simp only [e,if_true]
    rw [List.getElem?_append_left e] at hp
    exact h1 _ p (by rw [List.getElem?_append_right (by omega)];simpa using hp)
   simp only [e,if_false]
   rw [List.getElem?_append_right (by omega)] at hp
   exact h1 _ p (by rw [List.getElem?_append_left (by omega)];exact hp)
  ·by_cases e:i < b.length
   ·simp only [e,if_true] at hk
    exact h2 _ (by omega) k hk hO
   simp only [e,if_false] at hk
   exact h2 _ (by omega) k hk hO
  by_cases e1:i < b.length
  ·simp only [e1,if_true] at hk
   by_cases e2:j < b.length
   ·simp only [e2,if_true] at hk'
    exact h3 _ _ (by omega) (by omega) (by omega) k hk hk'
   simp only [e2,if_false] at hk'
   exact h3 _ _ (by omega) (by omega) (by omega) k hk hk'
  simp only [e1,if_false] at hk
  by_cases e2:j < b.length
  ·simp only [e2,if_true] at hk'
   exact h3 _ _ (by omega) (by omega) (by omega) k hk hk'
  simp only [e2,if_false] at hk'
  exact h3 _ _ (by omega) (by omega) (by omega) k hk hk'
theorem Sat.Ce (h:Sat β (l++R) w):∃ β',qA β R β'/\β'.w0=w/\Sat β' l w:=by
  obtain⟨ho,φ,h1,h2,h3⟩:=h
  have hl:(l++R).length=l.length+R.length:=List.length_append
  have hR:∀ (i:Nat) (p:HP),R[i]?=some p->p.h (φ (l.length+i)) w:=fun i p hp=>h1 _ p (by rw [List.getElem?_append_right (by omega)];simpa using hp)
  refine⟨⟨fun k=>β.O k\/∃ i,i < R.length/\φ (l.length+i) k,w⟩,⟨⟨fun k hk=>.inl hk,ho.os,ho.tape,ho.output,ho.size,fun k hk=>ho.old k hk⟩,fun i=>φ (l.length+i),fun i p hp=>⟨hR i p hp,fun k hk=>.inr ⟨i,bw hp,hk⟩⟩,fun i hi=>h2 _ (by omega),fun i j hi hj hne=>h3 _ _ (by omega) (by omega) (by omega),fun k hk=>hk⟩,rfl,⟨rfl,rfl,rfl,Nat.le_refl _,fun k hk=>⟨?_,rfl⟩⟩,φ,fun i p hp=>h1 i p (by rw [List.getElem?_append_left (bw hp)];exact hp),fun i hi k hk hO=>?_,fun i j hi hj hne=>h3 i j (by omega) (by omega) hne⟩
  ·rcases hk with hk|⟨i,hi,hk⟩
   ·exact Nat.lt_of_lt_of_le (ho.old k hk).1 ho.size
   obtain⟨p,hp⟩:=jq hi
   exact HP.lt (hR i p hp) k hk
  rcases hO with hO|⟨j,hj,hO⟩
  ·exact h2 i (by omega) k hk hO
  exact h3 i (l.length+j) (by omega) (by omega) (by omega) k hk hO
theorem qA.back (h:qA β R β') (hS:Sat β' l w):Sat β (l++R) w:=by
  obtain⟨hle,φ,g1,g2,g3,g4⟩:=h
  obtain⟨ho,ψ,h1,h2,h3⟩:=hS
  have hl:(l++R).length=l.length+R.length:=List.length_append
  have hin:∀ i,i < R.length->∀ k,φ i k->β'.O k:=fun i hi k hk=>by
    obtain⟨p,hp⟩:=jq hi
    exact (g1 i p hp).2 k hk
  have hk:∀ i,i < R.length->Keeps (fun k=>¬ φ i k) β'.w0 w:=fun i hi=>⟨ho.os,ho.tape,ho.output,ho.size,fun k _ hn=>(ho.old k (hin i hi k (Classical.not_not.1 hn))).2⟩
  refine⟨ho.le hle,fun i=>if i < l.length then ψ i else φ (i - l.length),fun i p hp=>?_,fun i hi k hk hO=>?_,fun i j hi hj hne k hk hk'=>?_⟩
  ·by_cases e:i < l.length
   ·rw [List.getElem?_append_left e] at hp
    simp only [e,if_true]
    exact h1 i p hp
   rw [List.getElem?_append_right (by omega)] at hp
   simp only [e,if_false]
   exact HP.st (g1 _ p hp).1 (hk _ (bw hp)) (fun k h=>fun h'=>h' h)
  ·by_cases e:i < l.length
   ·simp only [e,if_true] at hk
    exact h2 i e k hk (hle.O k hO)
   simp only [e,if_false] at hk
   exact g2 _ (by omega) k hk hO
  by_cases e1:i < l.length
  ·simp only [e1,if_true] at hk
   by_cases e2:j < l.length
   ·simp only [e2,if_true] at hk'
    exact h3 i j e1 e2 hne k hk hk'
   simp only [e2,if_false] at hk'
   exact h2 i e1 k hk (hin _ (by omega) k hk')
  simp only [e1,if_false] at hk
  by_cases e2:j < l.length
  ·simp only [e2,if_true] at hk'
   exact h2 j e2 k hk' (hin _ (by omega) k hk)
  simp only [e2,if_false] at hk'
  exact g3 _ _ (by omega) (by omega) (by omega) k hk hk'
end Tq
section rules
variable {P:Program} {β β' Ei:Bs} {N:Nat} {ops:Array Oper} {k:Nat} {fr:Fr} {hps l R:List HP} {Q:Post} {c:Code} {e:Exit} {pk:List Nat} {f:FuncId} {args:Array Value} {pre:List HP}
end rules
end
section
open Go.RowKit
def ax (R:Nat->cu):cu where
  h F w:=∃ φ:Nat->Fp,(∀ i,(R i).h (φ i) w)/\(∀ i j,i≠j->Apart (φ i) (φ j))/\∀ k,F k↔∃ i,φ i k
  lt:=fun ⟨_,h1,_,h3⟩ k hk=>let ⟨i,hk⟩:=(h3 k).1 hk;(R i).lt (h1 i) k hk
  st:=fun ⟨φ,h1,h2,h3⟩ _ _ hk hn=>⟨φ,fun i=>(R i).st (h1 i) hk (fun k hk=>hn k ((h3 k).2 ⟨i,hk⟩)),h2,h3⟩
section JJ
variable {β:Bs} {l l':List HP} {w:World} {i n k:Nat} {R R':Nat->cu} {a:cu}
theorem ax.at (k:Nat) {F:Fp} {w:World} (h:(ax R).h F w):∃ G,(R k).h G w:=by
  obtain⟨φ,h1,_⟩:=h
  exact⟨φ k,h1 k⟩
theorem Sat.DV (h:Sat β l w) (R:Nat->cu) (hR:∀ k,R k=cu.none):Sat β (l++[.abs (ax R)]) w:=Sat.new h (p:=.abs (ax R)) (F:=fun _=>False) ⟨fun _ _=>False,fun i=>by rw [hR];exact fun _ h=>h,fun _ _ _ _ h=>h.elim,fun _=>⟨fun h=>h.elim,fun ⟨_,h⟩=>h⟩⟩ (Keeps.refl _ _) (fun _ h=>h.elim)
theorem Sat.Au (h:Sat β l w) (hp:l[i]?=some (.abs (ax R))) (k:Nat):Sat β (l.set i (.abs (ax (jY R k cu.none)))++[.abs (R k)]) w:=by
  refine h.Rq hp ?_
  rintro F ⟨φ,h1,h2,h3⟩
  refine⟨fun x=>∃ i,i≠k/\φ i x,φ k,⟨fun i=>if i=k then fun _=>False else φ i,fun i=>?_,fun i j hne x hx hy=>?_,fun x=>⟨fun ⟨i,hne,hx⟩=>⟨i,by simpa [hne] using hx⟩,fun ⟨i,hx⟩=>?_⟩⟩,h1 k,fun x ⟨i,hne,hx⟩ hy=>h2 i k hne x hx hy,fun x=>⟨fun hx=>?_,fun hx=>?_⟩⟩
  ·unfold jY
   by_cases e:i=k
   ·simp only [e,if_true];exact fun _ h=>h
   simp only [e,if_false];exact h1 i
  ·by_cases e1:i=k
   ·simp [e1] at hx
   by_cases e2:j=k
   ·simp [e2] at hy
   exact h2 i j hne x (by simpa [e1] using hx) (by simpa [e2] using hy)
  ·by_cases e1:i=k
   ·simp [e1] at hx
   exact⟨i,e1,by simpa [e1] using hx⟩
  ·obtain⟨i,hx⟩:=(h3 x).1 hx
   by_cases e:i=k
   ·exact .inr (e ▸ hx)
   exact .inl ⟨i,e,hx⟩
  rcases hx with ⟨i,_,hx⟩|hx
  ·exact (h3 x).2 ⟨i,hx⟩
  exact (h3 x).2 ⟨k,hx⟩
theorem Sat.pX {j:Nat} {idx:List Nat} {q:HP} (h:Sat β l w) (hp:l[i]?=some (.abs (ax R))) (hq:l[j]?=some q) (Uq:∀ F w,q.h F w->a.h F w) (hn:bq (i::j::idx)=true) (hl:bT l idx=some l') (k:Nat) (hR:∀ x,x≠k->R' x=R x) (ha:R' k=a):Sat β (.abs (ax R')::l') w:=by
  refine h.Nr hp hq hn hl ?_
  rintro F1 F2 ⟨φ,h1,h2,h3⟩ hF hap
  refine⟨fun x=>(∃ i,i≠k/\φ i x)\/F2 x,⟨fun i=>if i=k then F2 else φ i,fun i=>?_,fun i j hne x hx hy=>?_,fun x=>⟨fun hx=>?_,fun ⟨i,hx⟩=>?_⟩⟩,fun x hx=>hx.imp (fun ⟨i,_,hx⟩=>(h3 x).2 ⟨i,hx⟩) id⟩
  ·by_cases e:i=k
   ·subst e;simp only [if_true];rw [ha];exact Uq _ _ hF
   simp only [e,if_false];rw [hR i e];exact h1 i
  ·by_cases e1:i=k
   ·by_cases e2:j=k
    ·exact hne (e1.trans e2.symm)
    simp only [e1,if_true] at hx
    simp only [e2,if_false] at hy
    exact hap x ((h3 x).2 ⟨j,hy⟩) hx
   simp only [e1,if_false] at hx
   by_cases e2:j=k
   ·simp only [e2,if_true] at hy
    exact hap x ((h3 x).2 ⟨i,hx⟩) hy
   simp only [e2,if_false] at hy
   exact h2 i j hne x hx hy
  ·rcases hx with ⟨i,hne,hx⟩|hx
   ·exact⟨i,by simpa [hne] using hx⟩
   exact⟨k,by simpa using hx⟩
  by_cases e:i=k
  ·exact .inr (by simpa [e] using hx)
  exact .inl ⟨i,e,by simpa [e] using hx⟩
end JJ
end
section
open Go.RowKit Go.Maps
theorem zq:Keyed Tryz.prog 9:=string_keyed Tryz.underlying9
theorem Cg {p:ByteArray} (h:p.size<=9223372036854775807):keyOf Tryz.prog 9 (.string p)=some (.string p.data.toList):=WideMaps.keyOf_string_mk Tryz.underlying9 (by unfold maxLen;omega)
def mS (g:ByteArray->Option Value):Lit->Option Value
  | .string l=>g ⟨l.toArray⟩
  | _=>none
theorem Rs (g:ByteArray->Option Value) (p:ByteArray):mS g (.string p.data.toList)=g p:=by
  show g ⟨p.data.toList.toArray⟩=g p
  rw [Array.toArray_toList]
theorem JL (g:ByteArray->Option Value) (p:ByteArray) (v:Option Value):upd (mS g) (.string p.data.toList) v=mS (fun q=>if q=p then v else g q):=by
  funext x
  unfold upd mS
  cases x with
  | string l=>
    by_cases e:l=p.data.toList
    ·subst e
     have e2:(⟨p.data.toList.toArray⟩:ByteArray)=p:=by rw [Array.toArray_toList]
     simp [Lit.sameKey]
    have e2:¬ (⟨l.toArray⟩:ByteArray)=p:=fun h=>e (by rw [← h])
    simp [Lit.sameKey,e,e2]
  | _=>rfl
theorem Ot:mS (fun _=>none)=fun _=>none:=by
  funext x
  unfold mS
  split<;>rfl
end
section
open Go.RowKit Go.Maps
def zu (b:Nat) (cs:List Value) (T:TypeId):cu where
  h F w:=(HP.blk b cs T).h F w
  lt:=fun h=>HP.lt h
  st:=fun h _ _ hk hd=>HP.st h hk hd
structure HL where
  b:Nat->Nat
  m:Nat->Nat
  dA:Nat->Option Addr
  dC:Nat->Nat
def HL.data (L:HL) (k:Nat) (A:Option Addr) (c:Nat):HL:=⟨L.b,L.m,fun i=>if i=k then A else L.dA i,fun i=>if i=k then c else L.dC i⟩
def HL.put (L:HL) (k b m:Nat) (A:Option Addr) (c:Nat):HL:=⟨fun i=>if i=k then b else L.b i,fun i=>if i=k then m else L.m i,fun i=>if i=k then A else L.dA i,fun i=>if i=k then c else L.dC i⟩
def R8 (kind:Int):TypeId:=if kind=1 then 129 else if kind=3 then 132 else 135
def jZ (kind:Int):TypeId:=if kind=1 then 131 else if kind=3 then 134 else 138
def dz (L:HL) (t:Th):Value:=.iface (R8 t.kind) (.pointer (some ⟨L.b t.k,0,none⟩))
def tZ (L:HL):Option Nat->Value
  | none=>.pointer none
  | some d=>.pointer (some ⟨L.b d,0,none⟩)
def x3 (o:aR):List Value:=[.int .i64 o.id,.int .i64 o.mode,.int .i64 o.uid,.int .i64 o.gid,.int .i64 o.sec,.int .i64 o.nano,.int .i64 o.links,.int .i64 o.opens,.bool o.gone]
def x5 (L:HL) (k:Nat) (o:aR):List Value:=if o.kind=1 then [.slice (L.dA k) o.data.length (L.dC k)] else if o.kind=3 then [.string o.target] else [.map (some (L.m k)),tZ L o.up]
def fY (L:HL) (k:Nat) (o:aR):List Value:=x3 o++x5 L k o
def iD (L:HL) (es:eY Th):Lit->Option Value:=mS (fun p=>(aT p es).map (dz L))
def bB (O:bY) (L:HL) (k:Nat):cu:=if (obj O k).kind=0 then cu.none else zu (L.b k) (fY L k (obj O k)) (jZ (obj O k).kind)
def bC (O:bY) (L:HL) (k:Nat):cu:=if (obj O k).kind=1 then aH 5 1 (L.dA k) (obj O k).data.length (L.dC k) (bX (obj O k).data) else cu.none
def bV (O:bY) (L:HL) (k:Nat):cu:=if (obj O k).kind=2 then aJ Tryz.prog 9 (L.m k) (iD L (obj O k).ah) (obj O k).ah.length else cu.none
section sat
variable {β:Bs} {l:List HP} {w:World} {i b:Nat} {cs:List Value} {T:TypeId} {p p':HP}
theorem Sat.same (h:Sat β l w) (hp:l[i]?=some p) (e:∀ F w,p.h F w->p'.h F w):Sat β (l.set i p') w:=by
  obtain⟨ho,φ,h1,h2,h3⟩:=h
  have hl:(l.set i p').length=l.length:=List.length_set ..
  refine⟨ho,φ,fun j q hq=>?_,fun j hj=>h2 j (by omega),fun j k hj hk=>h3 j k (by omega) (by omega)⟩
  by_cases hji:i=j
  ·subst hji
   rw [List.getElem?_set_self (bw hp)] at hq
   cases hq
   exact e _ _ (h1 _ p hp)
  rw [List.getElem?_set_ne hji] at hq
  exact h1 j q hq
end sat
section cells
variable {O:bY} {L:HL} {k j:Nat} {v:Value}
theorem kO (h:(obj O k).kind≠0):bB O L k=zu (L.b k) (fY L k (obj O k)) (jZ (obj O k).kind):=if_neg h
theorem dR (hk:(obj O k).kind≠0) (hv:(fY L k (obj O k))[j]?=some v):∀ F w,(ax (bB O L)).h F w->w.cell? ⟨L.b k,j,none⟩=some v:=by
  intro F w h
  obtain⟨G,g⟩:=ax.at k h
  rw [kO hk] at g
  obtain⟨g,_⟩:=g
  exact (gu g rfl rfl hv).1
theorem rX (h:(obj O k).kind=1):bC O L k=aH 5 1 (L.dA k) (obj O k).data.length (L.dC k) (bX (obj O k).data):=if_pos h
theorem oe (h:(obj O k).kind=2):bV O L k=aJ Tryz.prog 9 (L.m k) (iD L (obj O k).ah) (obj O k).ah.length:=if_pos h
theorem rL (es:eY Th) (p:ByteArray):iD L es (.string p.data.toList)=(aT p es).map (dz L):=Rs _ _
theorem Lu {es:eY Th} {p:ByteArray} {t:Th} (hn:aT p es=none):upd (iD L es) (.string p.data.toList) (some (dz L t))=iD L (gE p t es):=by
  unfold iD
  rw [JL]
  congr 1
  funext q
  rw [wM hn]
  by_cases h:q=p
  ·rw [if_pos h,if_pos h];rfl
  rw [if_neg h,if_neg h]
theorem Lv {es:eY Th} {p:ByteArray}:upd (iD L es) (.string p.data.toList) none=iD L (fX p es):=by
  unfold iD
  rw [JL]
  congr 1
  funext q
  rw [qi]
  by_cases h:q=p
  ·rw [if_pos h,if_pos h];rfl
  rw [if_neg h,if_neg h]
theorem Lw:iD L []=fun _=>none:=Ot
end cells
section JJ
variable {O:bY} {L:HL} {k:Nat} {f:aR->aR}
theorem t6:bB (aD O k f) L k=if (f (obj O k)).kind=0 then cu.none else zu (L.b k) (fY L k (f (obj O k))) (jZ (f (obj O k)).kind):=by
  unfold bB;rw [bL]
theorem t7 {x:Nat} (h:x≠k):bB (aD O k f) L x=bB O L x:=by unfold bB;rw [cx h]
theorem mF (h:(f (obj O k)).data=(obj O k).data) (h2:(f (obj O k)).kind=(obj O k).kind):bC (aD O k f) L=bC O L:=by
  funext x
  unfold bC
  by_cases e:x=k
  ·subst e;rw [bL,h,h2]
  rw [cx e]
theorem mG (h:(f (obj O k)).ah=(obj O k).ah) (h2:(f (obj O k)).kind=(obj O k).kind):bV (aD O k f) L=bV O L:=by
  funext x
  unfold bV
  by_cases e:x=k
  ·subst e;rw [bL,h,h2]
  rw [cx e]
theorem wN {x:Nat} (h:x≠k):bV (aD O k f) L x=bV O L x:=by unfold bV;rw [cx h]
theorem wO {x:Nat} (h:x≠k):bC (aD O k f) L x=bC O L x:=by unfold bC;rw [cx h]
end JJ
end
section
open Go.RowKit Go.Maps
section kinds
variable {O:bY} {L:HL} {k j:Nat} {f:aR->aR} {o:aR}
theorem jy (hf:∀ o,(f o).kind=o.kind):(obj (aD O j f) k).kind=(obj O k).kind:=by
  rw [jX];split
  ·exact hf _
  rfl
theorem dH {α:Type} {g:aR->α} (hf:∀ o,g (f o)=g o):g (obj (aD O j f) k)=g (obj O k):=by
  rw [jX];split
  ·exact hf _
  rfl
theorem gU (h:o.kind=1):fY L k o=[.int .i64 o.id,.int .i64 o.mode,.int .i64 o.uid,.int .i64 o.gid,.int .i64 o.sec,.int .i64 o.nano,.int .i64 o.links,.int .i64 o.opens,.bool o.gone,.slice (L.dA k) o.data.length (L.dC k)]:=by
  unfold fY x5;rw [if_pos h];rfl
theorem wQ (h:o.kind=3):fY L k o=[.int .i64 o.id,.int .i64 o.mode,.int .i64 o.uid,.int .i64 o.gid,.int .i64 o.sec,.int .i64 o.nano,.int .i64 o.links,.int .i64 o.opens,.bool o.gone,.string o.target]:=by
  unfold fY x5;rw [if_neg (by rw [h];decide),if_pos h];rfl
theorem kP (h:o.kind=2):fY L k o=[.int .i64 o.id,.int .i64 o.mode,.int .i64 o.uid,.int .i64 o.gid,.int .i64 o.sec,.int .i64 o.nano,.int .i64 o.links,.int .i64 o.opens,.bool o.gone,.map (some (L.m k)),tZ L o.up]:=by
  unfold fY x5;rw [if_neg (by rw [h];decide),if_neg (by rw [h];decide)];rfl
theorem Ev {es:aR->eY Th}:bB (aD O k (fun o=>{ o with ah:=es o })) L=bB O L:=by
  funext x
  unfold bB
  by_cases e:x=k
  ·subst e;rw [bL];rfl
  rw [cx e]
def oG (O:bY) (d:Nat) (name:ByteArray) (t:Th):bY:=
  let O1:=aD O d (fun o=>{ o with ah:=gE name t o.ah })
  let O2:=aD O1 t.k (fun o=>{ o with links:=o.links+1 })
  if t.kind=2 then aD O2 t.k (fun o=>{ o with up:=some d }) else O2
theorem zw {α:Type} {g:aR->α} {d:Nat} {name:ByteArray} {t:Th} (h1:∀ o es,g { o with ah:=es }=g o) (h2:∀ o l,g { o with links:=l }=g o) (h3:∀ o u,g { o with up:=u }=g o):g (obj (oG O d name t) k)=g (obj O k):=by
  unfold oG
  simp only
  split
  ·rw [dH (fun o=>h3 o _),dH (fun o=>h2 o _),dH (fun o=>h1 o _)]
  rw [dH (fun o=>h2 o _),dH (fun o=>h1 o _)]
theorem wR {d:Nat} {name:ByteArray} {t:Th}:(obj (oG O d name t) k).kind=(obj O k).kind:=zw (g:=aR.kind) (fun _ _=>rfl) (fun _ _=>rfl) (fun _ _=>rfl)
structure FM where
  cN:Int
  cB:Int
  cH:Int
  cS:Int
  cZ:Int
  last:Int
  ah:Int
  used:Int
def ql (X:FM) (O:bY) (d:Nat):bY:=aD O d (fun o=>{ o with sec:=X.cS,nano:=X.cZ })
def cR (X:FM) (O:bY) (d:Nat) (name:ByteArray) (t:Th):bY:=ql X (oG O d name t) d
def aQ (X:FM) (O:bY) (d:Nat) (name:ByteArray) (t:Th):bY:=aD (ql X (aD O d (fun o=>{ o with ah:=fX name o.ah })) d) t.k (fun o=>{ o with links:=o.links - 1 })
theorem cG {X:FM} {d:Nat} {name:ByteArray} {t:Th}:(obj (aQ X O d name t) k).kind=(obj O k).kind:=by
  unfold aQ ql
  exact (jy (f:=fun o=>{ o with links:=o.links - 1 }) (fun _=>rfl)).trans ((jy (f:=fun o=>{ o with sec:=X.cS,nano:=X.cZ }) (fun _=>rfl)).trans (jy (f:=fun o=>{ o with ah:=fX name o.ah }) (fun _=>rfl)))
theorem F5 {X:FM} {d:Nat} {name:ByteArray} {t:Th}:(obj (cR X O d name t) k).kind=(obj O k).kind:=by
  unfold cR ql
  exact (jy (f:=fun o=>{ o with sec:=X.cS,nano:=X.cZ }) (fun _=>rfl)).trans wR
end kinds
section sat
variable {β:Bs} {l l':List HP} {w:World} {i j k:Nat} {O:bY} {L:HL} {f:aR->aR} {cs:List Value} {T:TypeId} {idx:List Nat}
theorem Sat.wS (h:Sat β l w) (hp:l[i]?=some (.abs (ax (bB O L)))) (h0:(obj O k).kind≠0) (hc:fY L k (obj O k)=cs) (hT:jZ (obj O k).kind=T):Sat β (l.set i (.abs (ax (jY (bB O L) k cu.none)))++[.blk (L.b k) cs T]) w:=by
  have h1:=h.Au hp k
  have hlen:(l.set i (HP.abs (ax (jY (bB O L) k cu.none)))).length=l.length:=List.length_set ..
  have h2:=Sat.same (i:=l.length) (p:=.abs (bB O L k)) (p':=.blk (L.b k) cs T) h1 (by rw [List.getElem?_append_right (by omega),hlen,Nat.sub_self];rfl) (fun F w h=>by
    have h3:(bB O L k).h F w:=h
    rw [kO h0] at h3
    have h3:(zu (L.b k) (fY L k (obj O k)) (jZ (obj O k).kind)).h F w:=h3
    rw [hc,hT] at h3
    exact h3)
  have e:∀ (a:List HP) (x y:HP),(a++[x]).set a.length y=a++[y]:=fun a x y=>by simp
  have h4:=e (l.set i (HP.abs (ax (jY (bB O L) k cu.none)))) (.abs (bB O L k)) (.blk (L.b k) cs T)
  rw [hlen] at h4
  rw [h4] at h2
  exact h2
theorem Sat.x6 {R:Nat->cu} (h:Sat β l w) (hp:l[i]?=some (.abs (ax R))) (hR:∀ x,x≠k->R x=bB O L x) (hq:l[j]?=some (.blk (L.b k) cs T)) (hd:bq (i::j::idx)=true) (hl:bT l idx=some l') (h0:(f (obj O k)).kind≠0) (hc:fY L k (f (obj O k))=cs) (hT:jZ (f (obj O k)).kind=T):Sat β (.abs (ax (bB (aD O k f) L))::l') w:=by
  refine h.pX (a:=zu (L.b k) cs T) hp hq (fun _ _ h=>h) hd hl k (fun x hx=>?_) (by rw [t6,if_neg h0,hc,hT])
  rw [t7 hx,hR x hx]
theorem og {R:Nat->cu} {a:cu} {x:Nat} (h:x≠k):jY R k a x=R x:=if_neg h
theorem Sat.Py (h:Sat β l w) (hp:l[i]?=some (.abs (ax (bV O L)))) (hd:(obj O k).kind=2):Sat β (l.set i (.abs (ax (jY (bV O L) k cu.none)))++[.abs (aJ Tryz.prog 9 (L.m k) (iD L (obj O k).ah) (obj O k).ah.length)]) w:=by
  have h1:=h.Au hp k
  rw [oe hd] at h1
  exact h1
theorem Sat.Pz (h:Sat β l w) (hp:l[i]?=some (.abs (ax (jY (bV O L) k cu.none)))) (hq:l[j]?=some (.abs (aJ Tryz.prog 9 (L.m k) (iD L (obj O k).ah) (obj O k).ah.length))) (hd:bq (i::j::idx)=true) (hl:bT l idx=some l') (h2:(obj O k).kind=2):Sat β (.abs (ax (bV O L))::l') w:=
  h.pX hp hq (fun _ _ h=>h) hd hl k (fun _ hx=>(og hx).symm) (oe h2)
theorem Sat.JM (h:Sat β l w) (hp:l[i]?=some (.abs (ax (bC O L)))) (hd:(obj O k).kind=1):Sat β (l.set i (.abs (ax (jY (bC O L) k cu.none)))++[.abs (aH 5 1 (L.dA k) (obj O k).data.length (L.dC k) (bX (obj O k).data))]) w:=by
  have h1:=h.Au hp k
  rw [rX hd] at h1
  exact h1
end sat
end
section
open Go.RowKit
section
variable {O:bY} {k:Nat} {kd:Int}
theorem qC (L:HL) (h:(obj O k).kind=kd) (h0:kd≠0:=by decide):∀ F w,(ax (bB O L)).h F w->w.cell? ⟨L.b k,0,none⟩=some (.int .i64 (obj O k).id):=dR (by rw [h];exact h0) rfl
theorem rY (L:HL) (h:(obj O k).kind=kd) (h0:kd≠0:=by decide):∀ F w,(ax (bB O L)).h F w->w.cell? ⟨L.b k,1,none⟩=some (.int .i64 (obj O k).mode):=dR (by rw [h];exact h0) rfl
theorem x7 (L:HL) (h:(obj O k).kind=kd) (h0:kd≠0:=by decide):∀ F w,(ax (bB O L)).h F w->w.cell? ⟨L.b k,2,none⟩=some (.int .i64 (obj O k).uid):=dR (by rw [h];exact h0) rfl
theorem x9 (L:HL) (h:(obj O k).kind=kd) (h0:kd≠0:=by decide):∀ F w,(ax (bB O L)).h F w->w.cell? ⟨L.b k,3,none⟩=some (.int .i64 (obj O k).gid):=dR (by rw [h];exact h0) rfl
theorem mH (L:HL) (h:(obj O k).kind=kd) (h0:kd≠0:=by decide):∀ F w,(ax (bB O L)).h F w->w.cell? ⟨L.b k,6,none⟩=some (.int .i64 (obj O k).links):=dR (by rw [h];exact h0) rfl
theorem jL (L:HL) (h:(obj O k).kind=kd) (h0:kd≠0:=by decide):∀ F w,(ax (bB O L)).h F w->w.cell? ⟨L.b k,7,none⟩=some (.int .i64 (obj O k).opens):=dR (by rw [h];exact h0) rfl
theorem nw (L:HL) (h:(obj O k).kind=kd) (h0:kd≠0:=by decide):∀ F w,(ax (bB O L)).h F w->w.cell? ⟨L.b k,8,none⟩=some (.bool (obj O k).gone):=dR (by rw [h];exact h0) rfl
theorem Ew (L:HL) (h:(obj O k).kind=1):∀ F w,(ax (bB O L)).h F w->w.cell? ⟨L.b k,9,none⟩=some (.slice (L.dA k) (obj O k).data.length (L.dC k)):=dR (by rw [h];decide) (by rw [gU h];rfl)
theorem br (L:HL) (h:(obj O k).kind=2):∀ F w,(ax (bB O L)).h F w->w.cell? ⟨L.b k,9,none⟩=some (.map (some (L.m k))):=dR (by rw [h];decide) (by rw [kP h];rfl)
theorem Tr (L:HL) (h:(obj O k).kind=2):∀ F w,(ax (bB O L)).h F w->w.cell? ⟨L.b k,10,none⟩=some (tZ L (obj O k).up):=dR (by rw [h];decide) (by rw [kP h];rfl)
theorem Rt (L:HL) (h:(obj O k).kind=3):∀ F w,(ax (bB O L)).h F w->w.cell? ⟨L.b k,9,none⟩=some (.string (obj O k).target):=dR (by rw [h];decide) (by rw [wQ h];rfl)
end
end
section
open Go.RowKit Go.Maps
theorem ax.step {R R':Nat->cu} {k:Nat} {F:Fp} {w w':World} (hF:(ax R).h F w) (hR:∀ x,x≠k->R' x=R x) (hs:∀ G,(R k).h G w->∃ G',(R' k).h G' w'/\Step G w G' w'):∃ F',(ax R').h F' w'/\Step F w F' w':=by
  obtain⟨φ,h1,h2,h3⟩:=hF
  obtain⟨G',g1,st⟩:=hs _ (h1 k)
  have hap:∀ i,i≠k->∀ x,G' x->φ i x->False:=fun i hne x hx hy=>by
    rcases st.grow x hx with e|e
    ·exact h2 i k hne x hy e
    have:=(R i).lt (h1 i) x hy;omega
  refine⟨fun x=>∃ i,(if i=k then G' else φ i) x,⟨fun i=>if i=k then G' else φ i,fun i=>?_,fun i j hne x hx hy=>?_,fun x=>Iff.rfl⟩,⟨st.keeps.mono (fun x _ hx=>(h3 x).2 ⟨k,hx⟩),fun x ⟨i,hx⟩=>?_⟩⟩
  ·by_cases e:i=k
   ·subst e;simp only [if_true];exact g1
   simp only [e,if_false]
   rw [hR i e]
   exact (R i).st (h1 i) st.keeps (fun x hx hk=>h2 i k e x hx hk)
  ·by_cases e1:i=k
   ·have e2:j≠k:=fun e=>hne (e1.trans e.symm)
    simp only [e1,if_true] at hx
    simp only [e2,if_false] at hy
    exact hap j e2 x hx hy
   simp only [e1,if_false] at hx
   by_cases e2:j=k
   ·simp only [e2,if_true] at hy
    exact hap i e1 x hy hx
   simp only [e2,if_false] at hy
   exact h2 i j hne x hx hy
  by_cases e:i=k
  ·simp only [e,if_true] at hx
   rcases st.grow x hx with h|h
   ·exact .inl ((h3 x).2 ⟨k,h⟩)
   exact .inr h
  simp only [e,if_false] at hx
  exact .inl ((h3 x).2 ⟨i,hx⟩)
def Ch (O:bY) (L:HL):Nat->HP
  | 0=>.abs (ax (bB O L))
  | 1=>.abs (ax (bV O L))
  | _=>.abs (ax (bC O L))
def o6 (O:bY) (L:HL):List (Nat×Nat)->List (Nat×HP)
  | []=>[]
  | q::r=>(q.1,Ch O L q.2)::o6 O L r
def sX (hps:List HP) (O:bY) (L:HL):List (Nat×Nat)->Prop
  | []=>True
  | q::r=>hps[q.1]?=some (Ch O L q.2)/\sX hps O L r
theorem t8 {hps:List HP} {O O2:bY} {L:HL} {p:Nat} (he:∀ q,q≠p->Ch O2 L q=Ch O L q):∀ {js:List (Nat×Nat)},sX hps O L js->jP p (js.map (·.2))=false->mD hps (o6 O2 L js)=hps
  | [],_,_=>rfl
  | q::r,h,hn=>by
    have hq:q.2≠p:=fun e=>by
      rw [show jP p ((q::r).map (·.2))=true from jg.2 (by simp [e])] at hn;cases hn
    have hr:jP p (r.map (·.2))=false:=by
      cases hb:jP p (r.map (·.2)) with
      | false=>rfl
      | true=>rw [show jP p ((q::r).map (·.2))=true from jg.2 (List.mem_cons_of_mem _ (jg.1 hb))] at hn;cases hn
    show mD (hps.set q.1 (Ch O2 L q.2)) (o6 O2 L r)=hps
    have e:hps.set q.1 (Ch O2 L q.2)=hps:=by
      rw [he _ hq]
      refine List.ext_getElem? (fun n=>?_)
      rw [List.getElem?_set]
      split
      ·rename_i e;subst e
       rw [h.1];split
       ·rfl
       rename_i hlt;exact absurd (bw h.1) hlt
      rfl
    rw [e]
    exact t8 he h.2 hr
def Av (P:Program) (N:Nat) (junk:Nat->Value) (ops:Array Oper) (fr:Fr) (k:Nat):Option (Addr×Value):=
  match fo N junk ops fr k with
  | some (.store T a y,_)=>match (P.info? T).map (·.size) with
    | some 1=>match dm N fr junk a with
      | .pointer (some ad)=>some (ad,dm N fr junk y)
      | _=>none
    | _=>none
  | _=>none
def Ax (N:Nat) (junk:Nat->Value) (ops:Array Oper) (fr:Fr) (k:Nat):Option (TypeId×Nat×Value):=
  match fo N junk ops fr k with
  | some (.lookup t x ix false,_)=>match dm N fr junk x with
    | .map (some b)=>some (t,b,dm N fr junk ix)
    | _=>none
  | _=>none
def setAt (N:Nat) (junk:Nat->Value) (ops:Array Oper) (fr:Fr) (k:Nat):Option (TypeId×Nat×Value×Value):=
  match fo N junk ops fr k with
  | some (.mapUpdate t x ix y,_)=>match dm N fr junk x with
    | .map (some b)=>some (t,b,dm N fr junk ix,dm N fr junk y)
    | _=>none
  | _=>none
def Ib (N:Nat) (junk:Nat->Value) (ops:Array Oper) (fr:Fr) (k:Nat):Option (TypeId×TypeId×Nat×Value):=
  match fo N junk ops fr k with
  | some (.call ⟨.builtin .delete,xs,ts⟩,_)=>match xs.toList with
    | [x,ix]=>match ts.toList with
      | [t,K]=>match dm N fr junk x with
        | .map (some b)=>some (t,K,b,dm N fr junk ix)
        | _=>none
      | _=>none
    | _=>none
  | _=>none
def Ey (L:HL):Option Th->Value
  | none=>.nilIface
  | some t=>dz L t
section rules
variable {β:Bs} {N:Nat} {ops:Array Oper} {k x:Nat} {fr:Fr} {hps:List HP} {Q:Post} {O:bY} {L:HL} {name:ByteArray} {r:Option Th} {t:Th}
theorem ud {junk:Nat->Value} {op:Op} {d:Option Tmp} (h:fo N junk ops fr k=some (op,d)):d=iP ops k:=by
  obtain⟨o,h1,_,_,h4⟩:=dM h
  unfold iP
  rw [h1,← h4]
theorem Ez {P:Program} {junk:Nat->Value} {ad:Addr} {u:Value} (h:Av P N junk ops fr k=some (ad,u)):∃ T a y,fo N junk ops fr k=some (.store T a y,iP ops k)/\(P.info? T).map (·.size)=some 1/\dm N fr junk a=.pointer (some ad)/\dm N fr junk y=u:=by
  unfold Av at h
  repeat' split at h
  all_goals first|(cases h;done)|skip
  rename_i T a y d h0 _ h1 _ Ur h2
  cases h
  have:=ud h0
  subst this
  exact⟨T,a,y,h0,h1,h2,rfl⟩
theorem oh {junk:Nat->Value} {T:TypeId} {b:Nat} {key:Value} (h:Ax N junk ops fr k=some (T,b,key)):∃ a y,fo N junk ops fr k=some (.lookup T a y false,iP ops k)/\dm N fr junk a=.map (some b)/\dm N fr junk y=key:=by
  unfold Ax at h
  repeat' split at h
  all_goals first|(cases h;done)|skip
  rename_i T' a y d h0 _ b' h1
  cases h
  have:=ud h0
  subst this
  exact⟨a,y,h0,h1,rfl⟩
theorem Lx {junk:Nat->Value} {T:TypeId} {b:Nat} {key u:Value} (h:setAt N junk ops fr k=some (T,b,key,u)):∃ a y z,fo N junk ops fr k=some (.mapUpdate T a y z,iP ops k)/\dm N fr junk a=.map (some b)/\dm N fr junk y=key/\dm N fr junk z=u:=by
  unfold setAt at h
  repeat' split at h
  all_goals first|(cases h;done)|skip
  rename_i T' a y z d h0 _ b' h1
  cases h
  have:=ud h0
  subst this
  exact⟨a,y,z,h0,h1,rfl,rfl⟩
theorem JN {P:Program} {T:TypeId} {a y:Operand} {o:Oper} {ev:Operand->Value} {w:World} {ad:Addr} {u v0:Value} (ho:o.op=.store T a y) (hT:(P.info? T).map (·.size)=some 1) (ha:ev a=.pointer (some ad)) (hy:ev y=u) (hu:u.oneCell'=true) (hc:w.cell? ad=some v0) (hf:w.frozen? ad=false) (hs:ad.spot=none):ng P ev o w undef (w.setCell ad u):=by
  obtain⟨inf,hi,hsz⟩:∃ inf,P.info? T=some inf/\inf.size=1:=by
    cases h:P.info? T with
    | none=>rw [h] at hT;cases hT
    | some inf=>rw [h] at hT;exact⟨inf,rfl,by simpa using hT⟩
  have h3:=nX hi w
  rw [hsz] at h3
  obtain⟨dst,op,type,pos,after,guard⟩:=o
  obtain⟨bk,off,spot⟩:=ad
  simp only at hs
  subst hs
  cases ho
  refine .inr ⟨rfl,?_⟩
  cases u<;>first
    | (simp [Value.oneCell'] at hu;done)
    | (simp only [execOp,ha,hy];simp [go_sem,Instr.storeAt,Instr.sureAddr,storeVar,h3,Value.cells,storeCells,store,Addr.add,Sem.run,hc,hf])
theorem R9 (i:Nat) (js:List (Nat×Nat)) (x j:Nat) (f:aR->aR) (u:Value) {kd:Int} (hk:(obj O x).kind=kd)
    (K:∀ O2,O2=aD O x f->aj Tryz.prog β N ops (k+1) (dG fr (iP ops k) undef) ((mD hps (o6 O2 L js)).set i (.abs (ax (bB O2 L)))) Q)
    (hp:hps[i]?=some (.abs (ax (bB O L)))) (hj:sX hps O L js)
    (ho:∀ junk,Av Tryz.prog N junk ops fr k=some (⟨L.b x,j,none⟩,u))
    (hn:jP 0 (js.map (·.2))=false) (h0:kd≠0) (hc:fY L x (f (obj O x))=(fY L x (obj O x)).set j u) (hu:u.oneCell'=true) (h9:j < (fY L x (obj O x)).length)
    (he:(f (obj O x)).ah=(obj O x).ah) (hd:(f (obj O x)).data=(obj O x).data) (Ay:(f (obj O x)).kind=(obj O x).kind):aj Tryz.prog β N ops k fr hps Q:=by
  obtain⟨T,a,y,h1,h2,h3,h4⟩:=Ez (ho (fun _=>undef))
  intro junk w hS
  obtain⟨T,a,y,h1,h2,h3,h4⟩:=Ez (ho junk)
  obtain⟨o,g1,g2,g3,g4⟩:=dM h1
  have hx0:(obj O x).kind≠0:=by rw [hk];exact h0
  have EA:mD hps (o6 (aD O x f) L js)=hps:=t8 (p:=0) (fun q hq=>by
    match q,hq with
    | 0,hq=>exact absurd rfl hq
    | 1,_=>exact congrArg (fun R=>HP.abs (ax R)) (mG he Ay)
    | q+2,_=>exact congrArg (fun R=>HP.abs (ax R)) (mF hd Ay)) hj hn
  have hcell:∃ v0,(fY L x (obj O x))[j]?=some v0:=jq h9
  obtain⟨v0,hv0⟩:=hcell
  obtain⟨F,hF⟩:=hS.get hp
  obtain⟨G,hG⟩:=ax.at x hF
  have GH:=hG
  rw [kO hx0] at GH
  obtain⟨hb,_⟩:=GH
  obtain⟨c1,c2⟩:=gu (a:=⟨L.b x,j,none⟩) hb rfl rfl hv0
  have uf:Sat β (hps.set i (.abs (ax (bB (aD O x f) L)))) (w.setCell ⟨L.b x,j,none⟩ (u)):=hS.set hp (fun F hF=>ax.step (k:=x) (show (ax (bB O L)).h F w from hF) (fun y hy=>t7 hy) (fun G hG=>by
    rw [kO hx0] at hG
    rw [t6,if_neg (by rw [Ay];exact hx0),hc,Ay]
    exact rQ hG rfl rfl))
  rw [drop_cons g1]
  unfold wpList
  rw [eu,if_pos g2]
  refine .inl (jN (v:=undef) (w':=w.setCell ⟨L.b x,j,none⟩ (u)) (by rw [d9];exact JN g3 h2 h3 h4 hu c1 c2 rfl) ?_)
  rw [dP]
  have hK:=K _ rfl junk _ (by rw [EA];exact uf)
  rw [← g4] at hK
  exact hK
theorem rZ (i:Nat) (js:List (Nat×Nat)) (x j:Nat) (f:aR->aR) {kd:Int} (hk:(obj O x).kind=kd)
    (K:∀ O2,O2=aD O x f->aj Tryz.prog β N ops (k+1) (dG fr (iP ops k) undef) ((mD hps (o6 O2 L js)).set i (.abs (ax (bB O2 L)))) Q)
    (hp:hps[i]?=some (.abs (ax (bB O L))):=by rfl) (hj:sX hps O L js:=by first|exact⟨rfl,trivial⟩|exact⟨rfl,rfl,trivial⟩|exact trivial)
    (ho:∀ junk,Av Tryz.prog N junk ops fr k=some (⟨L.b x,j,none⟩,(x3 (f (obj O x))).getD j undef):=by intro _;kernel_rfl)
    (hn:jP 0 (js.map (·.2))=false:=by rfl) (h0:kd≠0:=by decide) (hc:fY L x (f (obj O x))=(fY L x (obj O x)).set j ((x3 (f (obj O x))).getD j undef):=by rfl) (hu:((x3 (f (obj O x))).getD j undef).oneCell'=true:=by rfl) (h9:Nat.blt j 9=true:=by rfl)
    (he:(f (obj O x)).ah=(obj O x).ah:=by rfl) (hd:(f (obj O x)).data=(obj O x).data:=by rfl) (Ay:(f (obj O x)).kind=(obj O x).kind:=by rfl):aj Tryz.prog β N ops k fr hps Q:=
  R9 i js x j f _ hk K hp hj ho hn h0 hc hu (Nat.lt_of_lt_of_le (show j < 9 by simpa [Nat.blt_eq] using h9) (by unfold fY x3;simp)) he hd Ay
theorem Sb (i:Nat) (js:List (Nat×Nat)) (x:Nat) (y:Option Nat) (hk:(obj O x).kind=2)
    (K:∀ O2,O2=aD O x (fun o=>{ o with up:=y })->aj Tryz.prog β N ops (k+1) (dG fr (iP ops k) undef) ((mD hps (o6 O2 L js)).set i (.abs (ax (bB O2 L)))) Q)
    (hp:hps[i]?=some (.abs (ax (bB O L))):=by rfl) (hj:sX hps O L js:=by first|exact⟨rfl,trivial⟩|exact⟨rfl,rfl,trivial⟩|exact trivial)
    (ho:∀ junk,Av Tryz.prog N junk ops fr k=some (⟨L.b x,10,none⟩,tZ L y):=by intro _;kernel_rfl) (hn:jP 0 (js.map (·.2))=false:=by rfl):aj Tryz.prog β N ops k fr hps Q:=
  R9 i js x 10 (fun o=>{ o with up:=y }) (tZ L y) hk K hp hj ho hn (by decide) (by rw [kP (show ({ obj O x with up:=y }:aR).kind=2 from hk),kP hk];rfl) (by cases y<;>rfl) (by rw [kP hk];exact Nat.lt_succ_self 10) rfl rfl rfl
theorem Sat.Ns {w:World} {i j:Nat} {f:aR->aR} {u:Value} (hS:Sat β hps w) (hp:hps[i]?=some (.abs (ax (bB O L)))) (hx0:(obj O x).kind≠0) (hc:fY L x (f (obj O x))=(fY L x (obj O x)).set j u) (Ay:(f (obj O x)).kind=(obj O x).kind) (h9:j < (fY L x (obj O x)).length) :
    Sat β (hps.set i (.abs (ax (bB (aD O x f) L)))) (w.setCell ⟨L.b x,j,none⟩ u)/\(∃ v0,w.cell? ⟨L.b x,j,none⟩=some v0)/\w.frozen? ⟨L.b x,j,none⟩=false:=by
  obtain⟨v0,hv0⟩:=jq h9
  obtain⟨F,hF⟩:=hS.get hp
  obtain⟨G,hG⟩:=ax.at x (show (ax (bB O L)).h F w from hF)
  rw [kO hx0] at hG
  obtain⟨c1,c2⟩:=gu (a:=⟨L.b x,j,none⟩) hG.1 rfl rfl hv0
  refine⟨hS.set hp (fun F hF=>ax.step (k:=x) (show (ax (bB O L)).h F w from hF) (fun y hy=>t7 hy) (fun G hG=>?_)),⟨v0,c1⟩,c2⟩
  rw [kO hx0] at hG
  rw [t6,if_neg (by rw [Ay];exact hx0),hc,Ay]
  exact rQ hG rfl rfl
def EB (P:Program) (N:Nat) (junk:Nat->Value) (ops:Array Oper) (fr:Fr) (k:Nat):Option (Addr×Value):=
  match fo N junk ops fr k with
  | some (.store T a y,_)=>match (P.info? T).map (·.size) with
    | some 2=>match dm N fr junk a with
      | .pointer (some ad)=>some (ad,dm N fr junk y)
      | _=>none
    | _=>none
  | _=>none
theorem JO {P:Program} {junk:Nat->Value} {ad:Addr} {u:Value} (h:EB P N junk ops fr k=some (ad,u)):∃ T a y,fo N junk ops fr k=some (.store T a y,iP ops k)/\(P.info? T).map (·.size)=some 2/\dm N fr junk a=.pointer (some ad)/\dm N fr junk y=u:=by
  unfold EB at h
  repeat' split at h
  all_goals first|(cases h;done)|skip
  rename_i T a y d h0 _ h1 _ Ur h2
  cases h
  have:=ud h0
  subst this
  exact⟨T,a,y,h0,h1,h2,rfl⟩
theorem Ic {P:Program} {T:TypeId} {a y:Operand} {o:Oper} {ev:Operand->Value} {w:World} {b j:Nat} {z1 z2:Int} {v0 v1:Value} (ho:o.op=.store T a y) (hT:(P.info? T).map (·.size)=some 2) (ha:ev a=.pointer (some ⟨b,j,none⟩)) (hy:ev y=.agg #[.int .i64 z1,.int .i64 z2])
    (hc:w.cell? ⟨b,j,none⟩=some v0) (hf:w.frozen? ⟨b,j,none⟩=false) (hc1:(w.setCell ⟨b,j,none⟩ (.int .i64 z1)).cell? ⟨b,j+1,none⟩=some v1) (hf1:(w.setCell ⟨b,j,none⟩ (.int .i64 z1)).frozen? ⟨b,j+1,none⟩=false) :
    ng P ev o w undef ((w.setCell ⟨b,j,none⟩ (.int .i64 z1)).setCell ⟨b,j+1,none⟩ (.int .i64 z2)):=by
  obtain⟨inf,hi,hsz⟩:∃ inf,P.info? T=some inf/\inf.size=2:=by
    cases h:P.info? T with
    | none=>rw [h] at hT;cases hT
    | some inf=>rw [h] at hT;exact⟨inf,rfl,by simpa using hT⟩
  have h3:=nX hi w
  rw [hsz] at h3
  obtain⟨dst,op,type,pos,after,guard⟩:=o
  cases ho
  refine .inr ⟨rfl,?_⟩
  simp only [execOp,ha,hy]
  simp [go_sem,Instr.storeAt,Instr.sureAddr,storeVar,h3,Value.cells,storeCells,store,Addr.add,Sem.run,hc,hf,hc1,hf1]
theorem JQ (i:Nat) (js:List (Nat×Nat)) (x:Nat) (z1 z2:Int) {kd:Int} (hk:(obj O x).kind=kd)
    (K:∀ O2,O2=aD O x (fun o=>{ o with sec:=z1,nano:=z2 })->aj Tryz.prog β N ops (k+1) (dG fr (iP ops k) undef) ((mD hps (o6 O2 L js)).set i (.abs (ax (bB O2 L)))) Q)
    (hp:hps[i]?=some (.abs (ax (bB O L))):=by rfl) (hj:sX hps O L js:=by first|exact⟨rfl,trivial⟩|exact⟨rfl,rfl,trivial⟩|exact trivial)
    (ho:∀ junk,EB Tryz.prog N junk ops fr k=some (⟨L.b x,4,none⟩,.agg #[.int .i64 z1,.int .i64 z2]):=by intro _;kernel_rfl)
    (hn:jP 0 (js.map (·.2))=false:=by rfl) (h0:kd≠0:=by decide):aj Tryz.prog β N ops k fr hps Q:=by
  intro junk w hS
  obtain⟨T,a,y,h1,h2,h3,h4⟩:=JO (ho junk)
  obtain⟨o,g1,g2,g3,g4⟩:=dM h1
  have hx0:(obj O x).kind≠0:=by rw [hk];exact h0
  have EA:mD hps (o6 (aD O x (fun o=>{ o with sec:=z1,nano:=z2 })) L js)=hps:=t8 (p:=0) (fun q hq=>by
    match q,hq with
    | 0,hq=>exact absurd rfl hq
    | 1,_=>exact congrArg (fun R=>HP.abs (ax R)) (mG rfl rfl)
    | q+2,_=>exact congrArg (fun R=>HP.abs (ax R)) (mF rfl rfl)) hj hn
  have hlen:∀ o:aR,9<=(fY L x o).length:=fun o=>by unfold fY x3;simp
  obtain⟨s1,⟨v0,c1⟩,f1⟩:=hS.Ns (x:=x) (j:=4) (f:=fun o=>{ o with sec:=z1 }) (u:=.int .i64 z1) hp hx0 rfl rfl (by have:=hlen (obj O x);omega)
  have hi:i < hps.length:=bw hp
  have e1:obj (aD O x (fun o=>{ o with sec:=z1 })) x={ obj O x with sec:=z1 }:=bL
  obtain⟨s2,⟨v1,c2⟩,f2⟩:=s1.Ns (x:=x) (j:=5) (f:=fun o=>{ o with nano:=z2 }) (u:=.int .i64 z2) (i:=i) (O:=aD O x (fun o=>{ o with sec:=z1 })) (by rw [List.getElem?_set,if_pos rfl,if_pos hi]) (by rw [e1];exact hx0) rfl rfl (by have:=hlen (obj (aD O x (fun o=>{ o with sec:=z1 })) x);omega)
  rw [List.set_set,sW] at s2
  rw [drop_cons g1]
  unfold wpList
  rw [eu,if_pos g2]
  refine .inl (jN (v:=undef) (w':=_) (by rw [d9];exact Ic g3 h2 h3 h4 c1 f1 c2 f2) ?_)
  rw [dP]
  have hK:=K _ rfl junk _ (by rw [EA];exact s2)
  rw [← g4] at hK
  exact hK
theorem yc {w:World} {i:Nat} (hS:Sat β hps w) (hp:hps[i]?=some (.abs (ax (bV O L)))) (hd:(obj O x).kind=2):fq Tryz.prog 9 w (L.m x) (iD L (obj O x).ah) (obj O x).ah.length:=by
  obtain⟨F,hF⟩:=hS.get hp
  obtain⟨G,hG⟩:=ax.at x (show (ax (bV O L)).h F w from hF)
  rw [oe hd] at hG
  exact hG.1
theorem GI {w:World} {i:Nat} {o:Oper} {ev:Operand->Value} {a y:Operand} (hS:Sat β hps w) (hp:hps[i]?=some (.abs (ax (bV O L)))) (hd:(obj O x).kind=2) (hl:aT name (obj O x).ah=r) (h3:o.op=.lookup 136 a y false) (ha:ev a=.map (some (L.m x))) (hy:ev y=.string name) (hsz:name.size<=1048576):ng Tryz.prog ev o w (Ey L r) w:=by
  have h:=uP (z:=.nilIface) h3 (yc hS hp hd) ha hy zq Tryz.underlying136 (by kernel_rfl) (Cg (by omega))
  rw [rL,hl] at h
  cases r<;>exact h
theorem iq (i:Nat) (hd:(obj O x).kind=2) (hl:aT name (obj O x).ah=r) (K:aj Tryz.prog β N ops (k+1) (dG fr (iP ops k) (Ey L r)) hps Q) (hp:hps[i]?=some (.abs (ax (bV O L))):=by rfl)
    (ho:∀ junk,Ax N junk ops fr k=some (136,L.m x,.string name):=by intro _;kernel_rfl) (hsz:name.size<=1048576:=by omega):aj Tryz.prog β N ops k fr hps Q:=by
  intro junk w hS
  obtain⟨a,y,h1,h2,h3⟩:=oh (ho junk)
  exact aj.je (cF:=hps) (v:=Ey L r) (d:=iP ops k) (op:=.lookup 136 a y false) (fun j=>by
    obtain⟨a',y',h1',_,_⟩:=oh (ho j)
    obtain⟨o,g1,g2,g3,g4⟩:=dM h1
    obtain⟨o',qm,JR,r8,JS⟩:=dM h1'
    rw [g1] at qm
    cases qm
    rw [g3] at r8
    cases r8
    exact h1') (fun o junk w ho' hS=>by
    obtain⟨a',y',h1',h2',h3'⟩:=oh (ho junk)
    obtain⟨o1,g1,g2,g3,g4⟩:=dM h1
    obtain⟨o',qm,JR,r8,JS⟩:=dM h1'
    rw [g1] at qm
    cases qm
    rw [g3] at r8
    cases r8
    exact⟨w,GI hS hp hd hl ho' h2' h3' hsz,hS⟩) K junk w hS
theorem qM (i:Nat) (hd:(obj O x).kind=2) (hl:aT name (obj O x).ah=r) (K:aP Tryz.prog β N ops (k+1) (dG fr (iP ops k) (Ey L r)) hps Q) (hp:hps[i]?=some (.abs (ax (bV O L))):=by rfl)
    (ho:∀ junk,Ax N junk ops fr k=some (136,L.m x,.string name):=by intro _;kernel_rfl) (hsz:name.size<=1048576:=by omega):aP Tryz.prog β N ops k fr hps Q:=by
  intro junk
  obtain⟨a,y,h1,h2,h3⟩:=oh (ho junk)
  exact aP.je (v:=Ey L r) (d:=iP ops k) (op:=.lookup 136 a y false) (fun j=>by
    obtain⟨a',y',h1',_,_⟩:=oh (ho j)
    obtain⟨o,g1,g2,g3,g4⟩:=dM h1
    obtain⟨o',qm,JR,r8,JS⟩:=dM h1'
    rw [g1] at qm
    cases qm
    rw [g3] at r8
    cases r8
    exact h1') (fun o junk w ho' hS=>by
    obtain⟨a',y',h1',h2',h3'⟩:=oh (ho junk)
    obtain⟨o1,g1,g2,g3,g4⟩:=dM h1
    obtain⟨o',qm,JR,r8,JS⟩:=dM h1'
    rw [g1] at qm
    cases qm
    rw [g3] at r8
    cases r8
    exact GI hS hp hd hl ho' h2' h3' hsz) K junk
def Ie (N:Nat) (junk:Nat->Value) (ops:Array Oper) (fr:Fr) (k:Nat):Option (TypeId×Nat):=
  match fo N junk ops fr k with
  | some (.call ⟨.builtin .len,xs,ts⟩,_)=>match xs.toList with
    | [x]=>match ts.toList with
      | [t]=>match dm N fr junk x with
        | .map (some b)=>some (t,b)
        | _=>none
      | _=>none
    | _=>none
  | _=>none
theorem zx {junk:Nat->Value} {T:TypeId} {b:Nat} (h:Ie N junk ops fr k=some (T,b)):∃ a,fo N junk ops fr k=some (.call ⟨.builtin .len,#[a],#[T]⟩,iP ops k)/\dm N fr junk a=.map (some b):=by
  unfold Ie at h
  repeat' split at h
  all_goals first|(cases h;done)|skip
  rename_i xs ts d h0 _ a h1 _ t' h2 _ b' h3
  cases h
  have:=ud h0
  subst this
  refine⟨a,?_,h3⟩
  rw [h0]
  obtain⟨xs⟩:=xs
  obtain⟨ts⟩:=ts
  cases h1
  cases h2
  rfl
theorem Us (i:Nat) (hd:(obj O x).kind=2) (K:aj Tryz.prog β N ops (k+1) (dG fr (iP ops k) (.int .i64 (((obj O x).ah.length:Nat):Int))) hps Q) (hp:hps[i]?=some (.abs (ax (bV O L))):=by rfl)
    (ho:∀ junk,Ie N junk ops fr k=some (136,L.m x):=by intro _;kernel_rfl):aj Tryz.prog β N ops k fr hps Q:=by
  obtain⟨a,h1,h2⟩:=zx (ho (fun _=>undef))
  obtain⟨o,g1,g2,g3,g4⟩:=dM h1
  refine aj.je (cF:=hps) (v:=.int .i64 (((obj O x).ah.length:Nat):Int)) (d:=iP ops k) (op:=o.op) (fun j=>?_) (fun o' junk w ho' hS=>?_) K
  ·obtain⟨a',h1',_⟩:=zx (ho j)
   obtain⟨o',qm,JR,r8,JS⟩:=dM h1'
   rw [g1] at qm
   cases qm
   rw [r8]
   exact h1'
  obtain⟨a',h1',h2'⟩:=zx (ho junk)
  obtain⟨o1,qm,JR,r8,JS⟩:=dM h1'
  rw [g1] at qm
  cases qm
  exact⟨w,xW (ho'.trans r8) rfl (yc hS hp hd) h2' Tryz.underlying136,hS⟩
theorem PA (i:Nat) (js:List (Nat×Nat)) {t:Th} (hd:(obj O x).kind=2) (hno:aT name (obj O x).ah=none)
    (K:∀ O2,O2=aD O x (fun o=>{ o with ah:=gE name t o.ah })->aj Tryz.prog β N ops (k+1) (dG fr (iP ops k) undef) ((mD hps (o6 O2 L js)).set i (.abs (ax (bV O2 L)))) Q)
    (hp:hps[i]?=some (.abs (ax (bV O L))):=by rfl) (hj:sX hps O L js:=by first|exact⟨rfl,trivial⟩|exact⟨rfl,rfl,trivial⟩|exact trivial)
    (ho:∀ junk,setAt N junk ops fr k=some (136,L.m x,.string name,dz L t):=by intro _;kernel_rfl) (hn:jP 1 (js.map (·.2))=false:=by rfl) (hsz:name.size<=1048576:=by omega) (hel:(obj O x).ah.length<=1048576:=by omega):aj Tryz.prog β N ops k fr hps Q:=by
  intro junk w hS
  obtain⟨a,y,z,h1,h2,h3,h4⟩:=Lx (ho junk)
  obtain⟨o,g1,g2,g3,g4⟩:=dM h1
  have EA:mD hps (o6 (aD O x (fun o=>{ o with ah:=gE name t o.ah })) L js)=hps:=t8 (p:=1) (fun q hq=>by
    match q,hq with
    | 0,_=>exact congrArg (fun R=>HP.abs (ax R)) (Ev (es:=fun o=>gE name t o.ah))
    | 1,hq=>exact absurd rfl hq
    | q+2,_=>exact congrArg (fun R=>HP.abs (ax R)) (mF rfl rfl)) hj hn
  obtain⟨w',m1,m2,m3⟩:=(yc hS hp hd).store zq Tryz.underlying136 (by unfold maxLen;omega) (Cg (p:=name) (by omega)) (dz L t)
  have e1:(iD L (obj O x).ah) (.string name.data.toList)=none:=by rw [rL,hno];rfl
  rw [e1,Lu hno] at m2
  have uf:Sat β (hps.set i (.abs (ax (bV (aD O x (fun o=>{ o with ah:=gE name t o.ah })) L)))) w':=hS.set hp (fun F hF=>ax.step (k:=x) (show (ax (bV O L)).h F w from hF) (fun y hy=>wN hy) (fun G hG=>by
    rw [oe hd] at hG
    rw [oe (by rw [bL];exact hd),bL,Eu]
    exact step_map hG m2 m3))
  rw [drop_cons g1]
  unfold wpList
  rw [eu,if_pos g2]
  refine .inl (jN (v:=undef) (w':=w') (by
    rw [d9]
    refine .inr ⟨rfl,?_⟩
    obtain⟨dst,op,type,pos,after,guard⟩:=o
    cases g3
    simp only [execOp,h2,h3,h4]
    simp [go_sem,m1]) ?_)
  rw [dP]
  have hK:=K _ rfl junk _ (by rw [EA];exact uf)
  rw [← g4] at hK
  exact hK
theorem Lz {junk:Nat->Value} {T K0:TypeId} {b:Nat} {key:Value} (h:Ib N junk ops fr k=some (T,K0,b,key)):∃ a y,fo N junk ops fr k=some (.call ⟨.builtin .delete,#[a,y],#[T,K0]⟩,iP ops k)/\dm N fr junk a=.map (some b)/\dm N fr junk y=key:=by
  unfold Ib at h
  repeat' split at h
  all_goals first|(cases h;done)|skip
  rename_i xs ts d h0 _ a y h1 _ t' K' h2 _ b' h3
  cases h
  have:=ud h0
  subst this
  refine⟨a,y,?_,h3,rfl⟩
  rw [h0]
  obtain⟨xs⟩:=xs
  obtain⟨ts⟩:=ts
  cases h1
  cases h2
  rfl
theorem PB (i:Nat) (js:List (Nat×Nat)) {t:Th} (hd:(obj O x).kind=2) (uY:aT name (obj O x).ah=some t) (hnt:nZ (obj O x).ah)
    (K:∀ O2,O2=aD O x (fun o=>{ o with ah:=fX name o.ah })->aj Tryz.prog β N ops (k+1) (dG fr (iP ops k) (.tuple #[])) ((mD hps (o6 O2 L js)).set i (.abs (ax (bV O2 L)))) Q)
    (hp:hps[i]?=some (.abs (ax (bV O L))):=by rfl) (hj:sX hps O L js:=by first|exact⟨rfl,trivial⟩|exact⟨rfl,rfl,trivial⟩|exact trivial)
    (ho:∀ junk,Ib N junk ops fr k=some (136,9,L.m x,.string name):=by intro _;kernel_rfl) (hn:jP 1 (js.map (·.2))=false:=by rfl) (hsz:name.size<=1048576:=by omega):aj Tryz.prog β N ops k fr hps Q:=by
  intro junk w hS
  obtain⟨a,y,h1,h2,h3⟩:=Lz (ho junk)
  obtain⟨o,g1,g2,g3,g4⟩:=dM h1
  have EA:mD hps (o6 (aD O x (fun o=>{ o with ah:=fX name o.ah })) L js)=hps:=t8 (p:=1) (fun q hq=>by
    match q,hq with
    | 0,_=>exact congrArg (fun R=>HP.abs (ax R)) (Ev (es:=fun o=>fX name o.ah))
    | 1,hq=>exact absurd rfl hq
    | q+2,_=>exact congrArg (fun R=>HP.abs (ax R)) (mF rfl rfl)) hj hn
  obtain⟨w',m1,m2,m3⟩:=(yc hS hp hd).drop zq Tryz.underlying136 (Cg (p:=name) (by omega)) o.type
  have e1:(iD L (obj O x).ah) (.string name.data.toList)=some (dz L t):=by rw [rL,uY];rfl
  rw [e1,Lv] at m2
  have hlen:=Ls hnt uY
  have uf:Sat β (hps.set i (.abs (ax (bV (aD O x (fun o=>{ o with ah:=fX name o.ah })) L)))) w':=hS.set hp (fun F hF=>ax.step (k:=x) (show (ax (bV O L)).h F w from hF) (fun y hy=>wN hy) (fun G hG=>by
    rw [oe hd] at hG
    rw [oe (by rw [bL];exact hd),bL]
    rw [show (fX name (obj O x).ah).length=(obj O x).ah.length - 1 by omega]
    exact step_map hG m2 m3))
  rw [drop_cons g1]
  unfold wpList
  rw [eu,if_pos g2]
  refine .inl (jN (v:=.tuple #[]) (w':=w') (by
    rw [d9]
    refine .inl ?_
    obtain⟨dst,op,type,pos,after,guard⟩:=o
    cases g3
    simp only [execOp,resolve,invoke,builtin]
    simp [go_sem,h2,h3,m1]) ?_)
  rw [dP]
  have hK:=K _ rfl junk _ (by rw [EA];exact uf)
  rw [← g4] at hK
  exact hK
end rules
section after
variable {O O2:bY} {j x:Nat} {f:aR->aR} {kd:Int}
theorem ku (e:O2=aD O j f) (h:(obj O x).kind=kd) (hf:∀ o,(f o).kind=o.kind:=by intro _;rfl):(obj O2 x).kind=kd:=by subst e;exact (jy hf).trans h
theorem fu {α:Type} (g:aR->α) {v:α} (e:O2=aD O j f) (h:g (obj O x)=v) (hf:∀ o,g (f o)=g o:=by intro _;rfl):g (obj O2 x)=v:=by subst e;exact (dH hf).trans h
end after
end
section
open Go.RowKit Go.Maps
attribute [local irreducible] aj aP af ai
theorem cU {β:Bs} (b:Nat):Spec Tryz.prog β 251 #[vP b] [] (fun v l=>v=vP b/\l=[]):=by
 refine Spec.enter Tryz.func251 rfl Tryz.ntmps251 (Nat.le_of_ble_eq_true rfl) (fun R=>?_)
 refine SR (gK 1 [] [] ?_)
 refine NS (gK 2 [(2,vP b)] [] ?_)
 refine NN (af.ret ?_)
 exact RT (vP b) [0] (⟨rfl,rfl⟩)
theorem lX {β:Bs} (a:Value):Spec Tryz.prog β 250 #[a] [] (fun v l=>v=vI 1/\l=[]):=by
 refine Spec.enter Tryz.func250 rfl Tryz.ntmps250 (Nat.le_of_ble_eq_true rfl) (fun R=>?_)
 refine SR (gK 1 [] [] ?_)
 refine NS (gK 1 [(2,vI 1)] [] ?_)
 refine NN (af.ret ?_)
 exact RT (vI 1) [0] (⟨rfl,rfl⟩)
theorem lY {β:Bs} (a:Value):Spec Tryz.prog β 253 #[a] [] (fun v l=>v=vI 2/\l=[]):=by
 refine Spec.enter Tryz.func253 rfl Tryz.ntmps253 (Nat.le_of_ble_eq_true rfl) (fun R=>?_)
 refine SR (gK 1 [] [] ?_)
 refine NS (gK 1 [(2,vI 2)] [] ?_)
 refine NN (af.ret ?_)
 exact RT (vI 2) [0] (⟨rfl,rfl⟩)
theorem nM {β:Bs} (a:Value):Spec Tryz.prog β 252 #[a] [] (fun v l=>v=vI 3/\l=[]):=by
 refine Spec.enter Tryz.func252 rfl Tryz.ntmps252 (Nat.le_of_ble_eq_true rfl) (fun R=>?_)
 refine SR (gK 1 [] [] ?_)
 refine NS (gK 1 [(2,vI 3)] [] ?_)
 refine NN (af.ret ?_)
 exact RT (vI 3) [0] (⟨rfl,rfl⟩)
theorem GJ {β:Bs} (O:bY) (L:HL) (d:Nat) (hkd:(obj O d).kind=2) (name:ByteArray) (hsz:name.size<=1048576) (hno:aT name (obj O d).ah=none) (hel:(obj O d).ah.length<=1048576) (t:Th) (hkt:(obj O t.k).kind=t.kind) (h3:t.kind=1\/t.kind=2\/t.kind=3) (hb:0<=(obj O t.k).links/\(obj O t.k).links<=1048576) :
    Spec Tryz.prog β 63 #[vP (L.b d),.string name,(dz L t)] [.abs (ax (bB O L)),.abs (ax (bV O L))] (fun v l=>v=.tuple #[]/\l=[.abs (ax (bB (oG O d name t) L)),.abs (ax (bV (oG O d name t) L))]):=by
 refine Spec.enter Tryz.func63 rfl Tryz.ntmps63 (Nat.le_of_ble_eq_true rfl) (fun R=>?_)
 refine af.seq ?_
 obtain⟨tk,kd⟩:=t;simp only at hkt h3;rcases h3 with rfl|rfl|rfl
 ·replace hkt:(obj O tk).kind=1:=hkt
  replace hb:0<=(obj O tk).links/\(obj O tk).links<=1048576:=hb
  refine af.region (gK 6 [(11,.map (some (L.m d))),(12,.string name),(13,.iface 129 (vP (L.b tk)))] [(3,v_ 0 (br L hkd))] ?_)
  refine PA 1 [(0,0)] (t:=⟨tk,1⟩) hkd hno (fun cA ck=>?_)
  have jG:=ku ck hkd
  have lZ:=ku ck hkt
  have hf3:(obj cA tk).links=(obj O tk).links:=fu aR.links ck rfl
  refine NS (gK 1 [(14,.iface 129 (vP (L.b tk)))] [] ?_)
  refine gL [] (cU (L.b tk)) ?_
  rintro _ _ ⟨rfl,rfl⟩
  refine gK 6 [(19,vI ((obj cA tk).links+1)),(21,.pointer (some ⟨(L.b tk),6,none⟩))] [(2,v_ 0 (mH L lZ)),(3,p_ ⟨[],none,none,none,some (vI ((obj cA tk).links+1))⟩ [(Value.int .i64 (IntKind.wrap .i64 ((obj cA tk).links+1)))=(.int .i64 ((obj cA tk).links+1))] ⟨bD (by omega) (by omega) (by omega),trivial⟩)] ?_
  refine rZ 0 [(1,1)] tk 6 (fun o=>{ o with links:=o.links+1 }) lZ (fun dS cW=>?_)
  have wT:=ku cW jG
  have wU:=ku cW lZ
  refine NS (gK 7 [(6,.pointer none),(7,.bool false)] [] ?_)
  refine NS (gK 1 [(27,.bool false)] [] ?_)
  refine NN (CF (af.skip ?_))
  exact RF (l:=[.abs (ax (bB dS L)),.abs (ax (bV dS L))]) (.tuple #[]) [0,1,2] (⟨rfl,by subst cW;subst ck;rfl⟩)
 ·replace hkt:(obj O tk).kind=2:=hkt
  replace hb:0<=(obj O tk).links/\(obj O tk).links<=1048576:=hb
  refine af.region (gK 6 [(11,.map (some (L.m d))),(12,.string name),(13,.iface 135 (vP (L.b tk)))] [(3,v_ 0 (br L hkd))] ?_)
  refine PA 1 [(0,0)] (t:=⟨tk,2⟩) hkd hno (fun cA ck=>?_)
  have LA:=ku ck hkd
  have Ig:=ku ck hkt
  have VL:(obj cA tk).links=(obj O tk).links:=fu aR.links ck rfl
  refine NS (gK 1 [(14,.iface 135 (vP (L.b tk)))] [] ?_)
  refine gL [] (cU (L.b tk)) ?_
  rintro _ _ ⟨rfl,rfl⟩
  refine gK 6 [(19,vI ((obj cA tk).links+1)),(21,.pointer (some ⟨(L.b tk),6,none⟩))] [(2,v_ 0 (mH L Ig)),(3,p_ ⟨[],none,none,none,some (vI ((obj cA tk).links+1))⟩ [(Value.int .i64 (IntKind.wrap .i64 ((obj cA tk).links+1)))=(.int .i64 ((obj cA tk).links+1))] ⟨bD (by omega) (by omega) (by omega),trivial⟩)] ?_
  refine rZ 0 [(1,1)] tk 6 (fun o=>{ o with links:=o.links+1 }) Ig (fun dS cW=>?_)
  have Ci:=ku cW LA
  have Ih:=ku cW Ig
  refine NS (gK 7 [(6,vP (L.b tk)),(7,.bool true)] [] ?_)
  refine NS (gK 1 [(27,.bool true)] [] ?_)
  refine NN (CT (af.region (gK 4 [(29,vP (L.b d)),(31,.pointer (some ⟨(L.b tk),10,none⟩))] [] ?_)))
  refine Sb 0 [(1,1)] tk (some d) Ih (fun ug lG=>?_)
  have Nt:=ku lG Ci
  have Vd:=ku lG Ih
  refine NL ?_
  exact RF (l:=[.abs (ax (bB ug L)),.abs (ax (bV ug L))]) (.tuple #[]) [0,1,2] (⟨rfl,by subst lG;subst cW;subst ck;rfl⟩)
 replace hkt:(obj O tk).kind=3:=hkt
 replace hb:0<=(obj O tk).links/\(obj O tk).links<=1048576:=hb
 refine af.region (gK 6 [(11,.map (some (L.m d))),(12,.string name),(13,.iface 132 (vP (L.b tk)))] [(3,v_ 0 (br L hkd))] ?_)
 refine PA 1 [(0,0)] (t:=⟨tk,3⟩) hkd hno (fun cA ck=>?_)
 have Ru:=ku ck hkd
 have Ii:=ku ck hkt
 have Vr:(obj cA tk).links=(obj O tk).links:=fu aR.links ck rfl
 refine NS (gK 1 [(14,.iface 132 (vP (L.b tk)))] [] ?_)
 refine gL [] (cU (L.b tk)) ?_
 rintro _ _ ⟨rfl,rfl⟩
 refine gK 6 [(19,vI ((obj cA tk).links+1)),(21,.pointer (some ⟨(L.b tk),6,none⟩))] [(2,v_ 0 (mH L Ii)),(3,p_ ⟨[],none,none,none,some (vI ((obj cA tk).links+1))⟩ [(Value.int .i64 (IntKind.wrap .i64 ((obj cA tk).links+1)))=(.int .i64 ((obj cA tk).links+1))] ⟨bD (by omega) (by omega) (by omega),trivial⟩)] ?_
 refine rZ 0 [(1,1)] tk 6 (fun o=>{ o with links:=o.links+1 }) Ii (fun dS cW=>?_)
 have Az:=ku cW Ru
 have Rv:=ku cW Ii
 refine NS (gK 7 [(6,.pointer none),(7,.bool false)] [] ?_)
 refine NS (gK 1 [(27,.bool false)] [] ?_)
 refine NN (CF (af.skip ?_))
 exact RF (l:=[.abs (ax (bB dS L)),.abs (ax (bV dS L))]) (.tuple #[]) [0,1,2] (⟨rfl,by subst cW;subst ck;rfl⟩)
theorem iA {β:Bs} (X:FM) (f m t:Nat) (hX:0<=X.ah/\X.ah<=1048576/\-1125899906842624<=X.used/\X.used<=1125899906842624/\0<=X.last/\X.last<=1125899906842624) (O:bY) (L:HL) (d:Nat) (hkd:(obj O d).kind=2) (name:ByteArray) (hsz:name.size<=1048576) (hno:aT name (obj O d).ah=none) (hel:(obj O d).ah.length<=1048576) (th:Th) (hkt:(obj O th.k).kind=th.kind) (h3:th.kind=1\/th.kind=2\/th.kind=3) (hb:0<=(obj O th.k).links/\(obj O th.k).links<=1048576) :
    Spec Tryz.prog β 130 #[vP f,vP (L.b d),.string name,(dz L th)] [.blk f [vI (X.cN),vI (X.cB),vI (X.cH),vI (X.cS),vI (X.cZ),.map (some m),vP t,vI (X.last),vI (X.ah),vI (X.used)] 126,.abs (ax (bB O L)),.abs (ax (bV O L))] (fun v l=>v=.tuple #[]/\l=[.blk f [vI (X.cN),vI (X.cB),vI (X.cH),vI (X.cS),vI (X.cZ),.map (some m),vP t,vI (X.last),vI (X.ah+1),vI (X.used)] 126,.abs (ax (bB (cR X O d name th) L)),.abs (ax (bV (cR X O d name th) L))]):=by
 refine Spec.enter Tryz.func130 rfl Tryz.ntmps130 (Nat.le_of_ble_eq_true rfl) (fun R=>?_)
 refine af.seq ?_
 skip
 refine af.region (gK 3 [(8,vP (L.b d)),(9,.string name),(10,(dz L th))] [] ?_)
 refine gL [1,2] (GJ O L d hkd name hsz hno hel th hkt h3 hb) ?_
 rintro _ _ ⟨rfl,rfl⟩
 refine NS ?_
 have AA:(obj (oG O d name th) d).kind=2:=(wR).trans (hkd)
 generalize ck:(oG O d name th)=cA at AA ⊢
 refine gK 9 [(17,.agg #[vI (X.cS),vI (X.cZ)]),(20,.pointer (some ⟨(L.b d),4,none⟩))] [(5,A_ 2 f 2)] ?_
 refine JQ 0 [(1,1)] d X.cS X.cZ AA (fun dS cW=>?_)
 have Ve:=ku cW AA
 refine NN (af.region (gC 8 [] [(3,a_ 2 f),(4,p_ ⟨[],none,none,none,some (vI (X.ah+1))⟩ [(Value.int .i64 (IntKind.wrap .i64 (X.ah+1)))=(.int .i64 (X.ah+1))] ⟨bD (by omega) (by omega) (by omega),trivial⟩),(7,a_ 2 f)] [(2,[(8,vI (X.ah+1))])] ?_))
 refine NL ?_
 exact RF (l:=[.blk f [vI (X.cN),vI (X.cB),vI (X.cH),vI (X.cS),vI (X.cZ),.map (some m),vP t,vI (X.last),vI (X.ah+1),vI (X.used)] 126,.abs (ax (bB dS L)),.abs (ax (bV dS L))]) (.tuple #[]) [2,0,1,3] (⟨rfl,by subst cW;subst ck;rfl⟩)
theorem jt {β:Bs} (X:FM) (f m t:Nat) (hX:0<=X.ah/\X.ah<=1048576/\-1125899906842624<=X.used/\X.used<=1125899906842624/\0<=X.last/\X.last<=1125899906842624) (O:bY) (L:HL) (d:Nat) (hkd:(obj O d).kind=2) (name:ByteArray) (hsz:name.size<=1048576) (th:Th) (hkt:(obj O th.k).kind=th.kind) (h3:th.kind=1\/th.kind=2\/th.kind=3) (uY:aT name (obj O d).ah=some th) (hnt:nZ (obj O d).ah) (_:(obj O d).ah.length<=1048576) (hb:0<=(obj O th.k).links/\(obj O th.k).links<=1048576) :
    Spec Tryz.prog β 170 #[vP f,vP (L.b d),.string name] [.blk f [vI (X.cN),vI (X.cB),vI (X.cH),vI (X.cS),vI (X.cZ),.map (some m),vP t,vI (X.last),vI (X.ah),vI (X.used)] 126,.abs (ax (bB O L)),.abs (ax (bV O L))] (fun v l=>v=dz L th/\l=[.blk f [vI (X.cN),vI (X.cB),vI (X.cH),vI (X.cS),vI (X.cZ),.map (some m),vP t,vI (X.last),vI (X.ah - 1),vI (X.used)] 126,.abs (ax (bB (aQ X O d name th) L)),.abs (ax (bV (aQ X O d name th) L))]):=by
 refine Spec.enter Tryz.func170 rfl Tryz.ntmps170 (Nat.le_of_ble_eq_true rfl) (fun R=>?_)
 refine af.seq ?_
 obtain⟨tk,kd⟩:=th;simp only at hkt h3;rcases h3 with rfl|rfl|rfl
 ·replace hkt:(obj O tk).kind=1:=hkt
  replace hb:0<=(obj O tk).links/\(obj O tk).links<=1048576:=hb
  refine af.region (gK 1 [] [] ?_)
  refine NS (gK 5 [(11,.map (some (L.m d))),(12,.string name)] [(3,v_ 1 (br L hkd))] ?_)
  refine iq 2 hkd uY ?_
  refine gK 1 [(7,.iface 129 (vP (L.b tk)))] [] ?_
  refine NS (gK 5 [(17,.map (some (L.m d))),(18,.string name)] [(3,v_ 1 (br L hkd))] ?_)
  refine PB 2 [(1,0)] hkd uY hnt (fun cA ck=>?_)
  have Nu:=ku ck hkd
  have Rw:=ku ck hkt
  have Ts:(obj cA tk).links=(obj O tk).links:=fu aR.links ck rfl
  refine NS (gK 9 [(24,.agg #[vI (X.cS),vI (X.cZ)]),(27,.pointer (some ⟨(L.b d),4,none⟩))] [(5,A_ 0 f 2)] ?_)
  refine JQ 1 [(2,1)] d X.cS X.cZ Nu (fun dS cW=>?_)
  have Nv:=ku cW Nu
  have DW:=ku cW Rw
  have Vs:(obj dS tk).links=(obj O tk).links:=fu aR.links cW Ts
  refine NS (gC 8 [] [(3,a_ 0 f),(4,p_ ⟨[],none,none,none,some (vI (X.ah - 1))⟩ [(Value.int .i64 (IntKind.wrap .i64 (X.ah - 1)))=(.int .i64 (X.ah - 1))] ⟨bD (by omega) (by omega) (by omega),trivial⟩),(7,a_ 0 f)] [(0,[(8,vI (X.ah - 1))])] ?_)
  refine NS (gK 1 [(35,.iface 129 (vP (L.b tk)))] [] ?_)
  refine gL [] (cU (L.b tk)) ?_
  rintro _ _ ⟨rfl,rfl⟩
  refine gK 6 [(40,vI ((obj dS tk).links - 1)),(42,.pointer (some ⟨(L.b tk),6,none⟩))] [(2,v_ 1 (mH L DW)),(3,p_ ⟨[],none,none,none,some (vI ((obj dS tk).links - 1))⟩ [(Value.int .i64 (IntKind.wrap .i64 ((obj dS tk).links - 1)))=(.int .i64 ((obj dS tk).links - 1))] ⟨bD (by omega) (by omega) (by omega),trivial⟩)] ?_
  refine rZ 1 [(2,1)] tk 6 (fun o=>{ o with links:=o.links - 1 }) DW (fun ug lG=>?_)
  have Vf:=ku lG Nv
  have Vg:=ku lG DW
  refine NS (gK 2 [(6,.iface 129 (vP (L.b tk)))] [] ?_)
  refine NN (af.ret ?_)
  exact RT (l:=[.blk f [vI (X.cN),vI (X.cB),vI (X.cH),vI (X.cS),vI (X.cZ),.map (some m),vP t,vI (X.last),vI (X.ah - 1),vI (X.used)] 126,.abs (ax (bB ug L)),.abs (ax (bV ug L))]) (.iface 129 (vP (L.b tk))) [0,1,2,3] (⟨rfl,by subst lG;subst cW;subst ck;rfl⟩)
 ·replace hkt:(obj O tk).kind=2:=hkt
  replace hb:0<=(obj O tk).links/\(obj O tk).links<=1048576:=hb
  refine af.region (gK 1 [] [] ?_)
  refine NS (gK 5 [(11,.map (some (L.m d))),(12,.string name)] [(3,v_ 1 (br L hkd))] ?_)
  refine iq 2 hkd uY ?_
  refine gK 1 [(7,.iface 135 (vP (L.b tk)))] [] ?_
  refine NS (gK 5 [(17,.map (some (L.m d))),(18,.string name)] [(3,v_ 1 (br L hkd))] ?_)
  refine PB 2 [(1,0)] hkd uY hnt (fun cA ck=>?_)
  have Nw:=ku ck hkd
  have Rx:=ku ck hkt
  have Tt:(obj cA tk).links=(obj O tk).links:=fu aR.links ck rfl
  refine NS (gK 9 [(24,.agg #[vI (X.cS),vI (X.cZ)]),(27,.pointer (some ⟨(L.b d),4,none⟩))] [(5,A_ 0 f 2)] ?_)
  refine JQ 1 [(2,1)] d X.cS X.cZ Nw (fun dS cW=>?_)
  have Ry:=ku cW Nw
  have Ij:=ku cW Rx
  have Vt:(obj dS tk).links=(obj O tk).links:=fu aR.links cW Tt
  refine NS (gC 8 [] [(3,a_ 0 f),(4,p_ ⟨[],none,none,none,some (vI (X.ah - 1))⟩ [(Value.int .i64 (IntKind.wrap .i64 (X.ah - 1)))=(.int .i64 (X.ah - 1))] ⟨bD (by omega) (by omega) (by omega),trivial⟩),(7,a_ 0 f)] [(0,[(8,vI (X.ah - 1))])] ?_)
  refine NS (gK 1 [(35,.iface 135 (vP (L.b tk)))] [] ?_)
  refine gL [] (cU (L.b tk)) ?_
  rintro _ _ ⟨rfl,rfl⟩
  refine gK 6 [(40,vI ((obj dS tk).links - 1)),(42,.pointer (some ⟨(L.b tk),6,none⟩))] [(2,v_ 1 (mH L Ij)),(3,p_ ⟨[],none,none,none,some (vI ((obj dS tk).links - 1))⟩ [(Value.int .i64 (IntKind.wrap .i64 ((obj dS tk).links - 1)))=(.int .i64 ((obj dS tk).links - 1))] ⟨bD (by omega) (by omega) (by omega),trivial⟩)] ?_
  refine rZ 1 [(2,1)] tk 6 (fun o=>{ o with links:=o.links - 1 }) Ij (fun ug lG=>?_)
  have Vh:=ku lG Ry
  have Vi:=ku lG Ij
  refine NS (gK 2 [(6,.iface 135 (vP (L.b tk)))] [] ?_)
  refine NN (af.ret ?_)
  exact RT (l:=[.blk f [vI (X.cN),vI (X.cB),vI (X.cH),vI (X.cS),vI (X.cZ),.map (some m),vP t,vI (X.last),vI (X.ah - 1),vI (X.used)] 126,.abs (ax (bB ug L)),.abs (ax (bV ug L))]) (.iface 135 (vP (L.b tk))) [0,1,2,3] (⟨rfl,by subst lG;subst cW;subst ck;rfl⟩)
 replace hkt:(obj O tk).kind=3:=hkt
 replace hb:0<=(obj O tk).links/\(obj O tk).links<=1048576:=hb
 refine af.region (gK 1 [] [] ?_)
 refine NS (gK 5 [(11,.map (some (L.m d))),(12,.string name)] [(3,v_ 1 (br L hkd))] ?_)
 refine iq 2 hkd uY ?_
 refine gK 1 [(7,.iface 132 (vP (L.b tk)))] [] ?_
 refine NS (gK 5 [(17,.map (some (L.m d))),(18,.string name)] [(3,v_ 1 (br L hkd))] ?_)
 refine PB 2 [(1,0)] hkd uY hnt (fun cA ck=>?_)
 have Nx:=ku ck hkd
 have Rz:=ku ck hkt
 have Tv:(obj cA tk).links=(obj O tk).links:=fu aR.links ck rfl
 refine NS (gK 9 [(24,.agg #[vI (X.cS),vI (X.cZ)]),(27,.pointer (some ⟨(L.b d),4,none⟩))] [(5,A_ 0 f 2)] ?_)
 refine JQ 1 [(2,1)] d X.cS X.cZ Nx (fun dS cW=>?_)
 have RA:=ku cW Nx
 have Ik:=ku cW Rz
 have Vu:(obj dS tk).links=(obj O tk).links:=fu aR.links cW Tv
 refine NS (gC 8 [] [(3,a_ 0 f),(4,p_ ⟨[],none,none,none,some (vI (X.ah - 1))⟩ [(Value.int .i64 (IntKind.wrap .i64 (X.ah - 1)))=(.int .i64 (X.ah - 1))] ⟨bD (by omega) (by omega) (by omega),trivial⟩),(7,a_ 0 f)] [(0,[(8,vI (X.ah - 1))])] ?_)
 refine NS (gK 1 [(35,.iface 132 (vP (L.b tk)))] [] ?_)
 refine gL [] (cU (L.b tk)) ?_
 rintro _ _ ⟨rfl,rfl⟩
 refine gK 6 [(40,vI ((obj dS tk).links - 1)),(42,.pointer (some ⟨(L.b tk),6,none⟩))] [(2,v_ 1 (mH L Ik)),(3,p_ ⟨[],none,none,none,some (vI ((obj dS tk).links - 1))⟩ [(Value.int .i64 (IntKind.wrap .i64 ((obj dS tk).links - 1)))=(.int .i64 ((obj dS tk).links - 1))] ⟨bD (by omega) (by omega) (by omega),trivial⟩)] ?_
 refine rZ 1 [(2,1)] tk 6 (fun o=>{ o with links:=o.links - 1 }) Ik (fun ug lG=>?_)
 have Vj:=ku lG RA
 have Vk:=ku lG Ik
 refine NS (gK 2 [(6,.iface 132 (vP (L.b tk)))] [] ?_)
 refine NN (af.ret ?_)
 exact RT (l:=[.blk f [vI (X.cN),vI (X.cB),vI (X.cH),vI (X.cS),vI (X.cZ),.map (some m),vP t,vI (X.last),vI (X.ah - 1),vI (X.used)] 126,.abs (ax (bB ug L)),.abs (ax (bV ug L))]) (.iface 132 (vP (L.b tk))) [0,1,2,3] (⟨rfl,by subst lG;subst cW;subst ck;rfl⟩)
end
end Go.Proofs.YtidjcblbdmfalaaGreat
section
namespace Go.Proofs
open Go.Shelf
def Tryz.keysI_ren:Go.Shelf.Ren:=⟨fun|7=>67|10=>106|n=>n,fun|23=>120|26=>3|3=>124|28=>150|0=>0|27=>149|33=>201|4=>4|n=>n,fun|n=>n⟩
theorem Tryz.keysI:Go.Proofs.SlLaysZI.n7 Tryz.prog Tryz.keysI_ren:={
  mixed:=by kernel_rfl
  f7:=⟨Tryz.f67.name,by decide,Tryz.func67.trans (congrArg some (by kernel_rfl))⟩
  f10:=⟨Tryz.f106.name,by decide,Tryz.func106.trans (congrArg some (by kernel_rfl))⟩
  t0:=Tryz.underlying0
  a0:=Tryz.isAgg0
  z0:=Tryz.sizeOf0
  v0:=Tryz.zeroValue0
  t4:=Tryz.underlying4
  a4:=Tryz.isAgg4
  z4:=Tryz.sizeOf4
  v4:=Tryz.zeroValue4
  t23:=Tryz.underlying120
  a23:=Tryz.isAgg120
  z23:=Tryz.sizeOf120
  v23:=Tryz.zeroValue120
  t26:=Tryz.underlying3
  a26:=Tryz.isAgg3
  z26:=Tryz.sizeOf3
  v26:=Tryz.zeroValue3
  t27:=Tryz.underlying149
  a27:=Tryz.isAgg149
  z27:=Tryz.sizeOf149
  v27:=Tryz.zeroValue149
  t28:=Tryz.underlying150
  a28:=Tryz.isAgg150
  z28:=Tryz.sizeOf150
  v28:=Tryz.zeroValue150
  t33:=Tryz.underlying201
  a33:=Tryz.isAgg201
  z33:=Tryz.sizeOf201
  v33:=Tryz.zeroValue201 }
def Tryz.sortedI_ren:Go.Shelf.Ren:=⟨fun|6=>66|8=>104|9=>105|11=>139|13=>141|12=>140|23=>180|24=>181|14=>171|15=>172|16=>173|17=>174|18=>175|19=>176|20=>177|21=>178|22=>179|25=>205|26=>206|27=>207|28=>208|29=>209|30=>210|31=>222|n=>n,fun|26=>3|28=>150|24=>59|0=>0|3=>3|37=>234|48=>266|50=>268|4=>4|40=>260|39=>259|45=>251|5=>5|9=>9|51=>286|55=>290|57=>299|58=>300|33=>201|n=>n,fun|n=>n⟩
theorem Tryz.sortedI:Go.Proofs.SlLaysZI.n6 Tryz.prog Tryz.sortedI_ren:={
  mixed:=by kernel_rfl
  f6:=⟨Tryz.f66.name,by decide,Tryz.func66.trans (congrArg some (by kernel_rfl))⟩
  f8:=⟨Tryz.f104.name,by decide,Tryz.func104.trans (congrArg some (by kernel_rfl))⟩
  f11:=⟨Tryz.f139.name,by decide,Tryz.func139.trans (congrArg some (by kernel_rfl))⟩
  t0:=Tryz.underlying0
  a0:=Tryz.isAgg0
  z0:=Tryz.sizeOf0
  v0:=Tryz.zeroValue0
  t24:=Tryz.underlying59
  a24:=Tryz.isAgg59
  z24:=Tryz.sizeOf59
  v24:=Tryz.zeroValue59
  t26:=Tryz.underlying3
  a26:=Tryz.isAgg3
  z26:=Tryz.sizeOf3
  v26:=Tryz.zeroValue3
  t28:=Tryz.underlying150
  a28:=Tryz.isAgg150
  z28:=Tryz.sizeOf150
  v28:=Tryz.zeroValue150
  i26:=by kernel_rfl }
def Tryz.sortI_ren:Go.Shelf.Ren:=⟨fun|5=>105|8=>141|7=>140|19=>180|20=>181|10=>171|11=>172|12=>173|13=>174|14=>175|15=>176|16=>177|17=>178|18=>179|30=>205|31=>206|32=>207|33=>208|34=>209|35=>210|40=>222|n=>n,fun|23=>59|25=>3|3=>3|32=>234|22=>59|0=>0|44=>266|46=>268|4=>4|36=>260|35=>259|41=>251|5=>5|9=>9|53=>286|57=>290|63=>299|64=>300|n=>n,fun|n=>n⟩
theorem Tryz.sortI:Go.Proofs.SlLaysM.n5 Tryz.prog Tryz.sortI_ren:={
  mixed:=by kernel_rfl
  f5:=⟨Tryz.f105.name,by decide,Tryz.func105.trans (congrArg some (by kernel_rfl))⟩
  f7:=⟨Tryz.f140.name,by decide,Tryz.func140.trans (congrArg some (by kernel_rfl))⟩
  f8:=Tryz.func141.trans (congrArg some (by kernel_rfl))
  f10:=⟨Tryz.f171.name,by decide,Tryz.func171.trans (congrArg some (by kernel_rfl))⟩
  f11:=⟨Tryz.f172.name,by decide,Tryz.func172.trans (congrArg some (by kernel_rfl))⟩
  f12:=⟨Tryz.f173.name,by decide,Tryz.func173.trans (congrArg some (by kernel_rfl))⟩
  f13:=⟨Tryz.f174.name,by decide,Tryz.func174.trans (congrArg some (by kernel_rfl))⟩
  f14:=⟨Tryz.f175.name,by decide,Tryz.func175.trans (congrArg some (by kernel_rfl))⟩
  f15:=⟨Tryz.f176.name,by decide,Tryz.func176.trans (congrArg some (by kernel_rfl))⟩
  f16:=⟨Tryz.f177.name,by decide,Tryz.func177.trans (congrArg some (by kernel_rfl))⟩
  f17:=⟨Tryz.f178.name,by decide,Tryz.func178.trans (congrArg some (by kernel_rfl))⟩
  f18:=⟨Tryz.f179.name,by decide,Tryz.func179.trans (congrArg some (by kernel_rfl))⟩
  f19:=Tryz.func180.trans (congrArg some (by kernel_rfl))
  f20:=Tryz.func181.trans (congrArg some (by kernel_rfl))
  f30:=⟨Tryz.f205.name,by decide,Tryz.func205.trans (congrArg some (by kernel_rfl))⟩
  f31:=Tryz.func206.trans (congrArg some (by kernel_rfl))
  f32:=Tryz.func207.trans (congrArg some (by kernel_rfl))
  f33:=⟨Tryz.f208.name,by decide,Tryz.func208.trans (congrArg some (by kernel_rfl))⟩
  f34:=⟨Tryz.f209.name,by decide,Tryz.func209.trans (congrArg some (by kernel_rfl))⟩
  f35:=⟨Tryz.f210.name,by decide,Tryz.func210.trans (congrArg some (by kernel_rfl))⟩
  f40:=⟨Tryz.f222.name,by decide,Tryz.func222.trans (congrArg some (by kernel_rfl))⟩
  t0:=Tryz.underlying0
  a0:=Tryz.isAgg0
  z0:=Tryz.sizeOf0
  v0:=Tryz.zeroValue0
  t3:=Tryz.underlying3
  a3:=Tryz.isAgg3
  z3:=Tryz.sizeOf3
  v3:=Tryz.zeroValue3
  t4:=Tryz.underlying4
  a4:=Tryz.isAgg4
  z4:=Tryz.sizeOf4
  v4:=Tryz.zeroValue4
  t5:=Tryz.underlying5
  a5:=Tryz.isAgg5
  z5:=Tryz.sizeOf5
  v5:=Tryz.zeroValue5
  t9:=Tryz.underlying9
  a9:=Tryz.isAgg9
  z9:=Tryz.sizeOf9
  v9:=Tryz.zeroValue9
  t22:=Tryz.underlying59
  a22:=Tryz.isAgg59
  z22:=Tryz.sizeOf59
  v22:=Tryz.zeroValue59
  t23:=Tryz.underlying59
  a23:=Tryz.isAgg59
  z23:=Tryz.sizeOf59
  v23:=Tryz.zeroValue59
  t25:=Tryz.underlying3
  a25:=Tryz.isAgg3
  z25:=Tryz.sizeOf3
  v25:=Tryz.zeroValue3
  t32:=Tryz.underlying234
  a32:=Tryz.isAgg234
  z32:=Tryz.sizeOf234
  v32:=Tryz.zeroValue234
  t35:=Tryz.underlying259
  a35:=Tryz.isAgg259
  z35:=Tryz.sizeOf259
  v35:=Tryz.zeroValue259
  t36:=Tryz.underlying260
  a36:=Tryz.isAgg260
  z36:=Tryz.sizeOf260
  v36:=Tryz.zeroValue260
  t41:=Tryz.underlying251
  a41:=Tryz.isAgg251
  z41:=Tryz.sizeOf251
  v41:=Tryz.zeroValue251
  t44:=Tryz.underlying266
  a44:=Tryz.isAgg266
  z44:=Tryz.sizeOf266
  v44:=Tryz.zeroValue266
  t46:=Tryz.underlying268
  a46:=Tryz.isAgg268
  z46:=Tryz.sizeOf268
  v46:=Tryz.zeroValue268
  t53:=Tryz.underlying286
  a53:=Tryz.isAgg286
  z53:=Tryz.sizeOf286
  v53:=Tryz.zeroValue286
  t57:=Tryz.underlying290
  a57:=Tryz.isAgg290
  z57:=Tryz.sizeOf290
  v57:=Tryz.zeroValue290
  t63:=Tryz.underlying299
  a63:=Tryz.isAgg299
  z63:=Tryz.sizeOf299
  v63:=Tryz.zeroValue299
  t64:=Tryz.underlying300
  a64:=Tryz.isAgg300
  z64:=Tryz.sizeOf300
  v64:=Tryz.zeroValue300 }
end Go.Proofs
end
namespace Go.Proofs.YtidjcblbdmfalaaGreat
section
open Go.RowKit
theorem RB (a:Addr) (v:Value) (w:World) (h:w.cell? a=some v):(Go.method 441 256 (.pointer (some a)) "Len").run Tryz.prog w=.ok (271,v) w:=by
  have e:(Go.method 441 256 (.pointer (some a)) "Len").run Tryz.prog w=((loadVar 195 a) >>= fun v=>pure (271,v):Sem (FuncId×Value)).run Tryz.prog w:=by kernel_rfl
  rw [e]
  simp [loadVar,isAgg,underlying,Tryz.underlying195,h,Result.andThen]
theorem PD (a:Addr) (v:Value) (w:World) (h:w.cell? a=some v):(Go.method 441 256 (.pointer (some a)) "Less").run Tryz.prog w=.ok (272,v) w:=by
  have e:(Go.method 441 256 (.pointer (some a)) "Less").run Tryz.prog w=((loadVar 195 a) >>= fun v=>pure (272,v):Sem (FuncId×Value)).run Tryz.prog w:=by kernel_rfl
  rw [e]
  simp [loadVar,isAgg,underlying,Tryz.underlying195,h,Result.andThen]
theorem PE (a:Addr) (v:Value) (w:World) (h:w.cell? a=some v):(Go.method 441 256 (.pointer (some a)) "Swap").run Tryz.prog w=.ok (273,v) w:=by
  have e:(Go.method 441 256 (.pointer (some a)) "Swap").run Tryz.prog w=((loadVar 195 a) >>= fun v=>pure (273,v):Sem (FuncId×Value)).run Tryz.prog w:=by kernel_rfl
  rw [e]
  simp [loadVar,isAgg,underlying,Tryz.underlying195,h,Result.andThen]
theorem PF (a:Addr) (w:World):(Go.method 441 256 (.pointer (some a)) "Push").run Tryz.prog w=.ok (275,.pointer (some a)) w:=by kernel_rfl
theorem RD (a:Addr) (w:World):(Go.method 441 256 (.pointer (some a)) "Pop").run Tryz.prog w=.ok (274,.pointer (some a)) w:=by kernel_rfl
theorem Ny (a:Addr) (w:World):(Go.nilAhead 441 256 (.pointer (some a)) "Len").run Tryz.prog w=.ok (some false) w:=by kernel_rfl
theorem JT (a:Addr) (w:World):(Go.nilAhead 441 256 (.pointer (some a)) "Less").run Tryz.prog w=.ok (some false) w:=by kernel_rfl
theorem EC (a:Addr) (w:World):(Go.nilAhead 441 256 (.pointer (some a)) "Swap").run Tryz.prog w=.ok (some false) w:=by kernel_rfl
theorem PG (a:Addr) (w:World):(Go.nilAhead 441 256 (.pointer (some a)) "Push").run Tryz.prog w=.ok (some false) w:=by kernel_rfl
theorem RG (a:Addr) (w:World):(Go.nilAhead 441 256 (.pointer (some a)) "Pop").run Tryz.prog w=.ok (some false) w:=by kernel_rfl
theorem ED (A:Option Addr) (n c:Nat) (w:World) :
    Calls Tryz.prog 271 #[.slice A n c] w fun e w'=>e=.returned (.int .i64 n)/\w'=w:=by
  go_enter Tryz.func271,Tryz.ntmps271
  go_wp2
  go_ret
  exact⟨rfl,rfl⟩
theorem JU (g n c i j:Nat) (x y:Int) (w:World) (hi:i < n) (hj:j < n) (ci:w.cell? ⟨g,i,none⟩=some (.int .i64 x)) (cj:w.cell? ⟨g,j,none⟩=some (.int .i64 y)) :
    Calls Tryz.prog 272 #[.slice (some ⟨g,0,none⟩) n c,.int .i64 i,.int .i64 j] w fun e w'=>e=.returned (.bool (decide (x < y)))/\∃ m,w'=w.drewN m:=by
  have hi':(i:Int) < (n:Int):=by omega
  have hj':(j:Int) < (n:Int):=by omega
  go_enter Tryz.func272,Tryz.ntmps272
  go_wp2_with fail
  go_quiet (fail)
  go_wp2_with fail
  go_ret
  exact⟨rfl,_,rfl⟩
theorem JV (g n c i j:Nat) (x y:Int) (w:World) (hi:i < n) (hj:j < n) (hij:i≠j) (ci:w.cell? ⟨g,i,none⟩=some (.int .i64 x)) (cj:w.cell? ⟨g,j,none⟩=some (.int .i64 y))
    (fi:w.frozen? ⟨g,i,none⟩=false) (fj:w.frozen? ⟨g,j,none⟩=false) :
    Calls Tryz.prog 273 #[.slice (some ⟨g,0,none⟩) n c,.int .i64 i,.int .i64 j] w fun e w'=>e=.returned (.tuple #[])/\∃ m,w'=((w.setCell ⟨g,i,none⟩ (.int .i64 y)).setCell ⟨g,j,none⟩ (.int .i64 x)).drewN m:=by
  have hi':(i:Int) < (n:Int):=by omega
  have hj':(j:Int) < (n:Int):=by omega
  go_enter Tryz.func273,Tryz.ntmps273
  go_wp2_with fail
  go_region
  go_end0
  exact⟨rfl,1,rfl⟩
theorem LB:(Tryz.prog.info? 3).map (fun i=>(i.zero,i.size,i.bytes))=some (some (.int .i64 0),1,8):=by kernel_rfl
theorem LC (t o g n c:Nat) (x:Int) (w:World) (hc:n+1<=c) (ht:w.cell? ⟨t,o,none⟩=some (.slice (some ⟨g,0,none⟩) (n+1) c)) (hf:w.frozen? ⟨t,o,none⟩=false)
    (hx:w.cell? ⟨g,n,none⟩=some (.int .i64 x)) (hm:n+1<=1048576) :
    Calls Tryz.prog 274 #[.pointer (some ⟨t,o,none⟩)] w fun e w'=>e=.returned (.iface 3 (.int .i64 x))/\w'=w.setCell ⟨t,o,none⟩ (.slice (some ⟨g,0,none⟩) n c):=by
  go_enter Tryz.func274,Tryz.ntmps274
  go_wp2_with fail
  go_ret
  exact⟨rfl,rfl⟩
theorem Il (x:Int) (w:World):(Instr.typeAssert (.iface 3 (.int .i64 x)) 20 3 false).run Tryz.prog w=.ok (.int .i64 x) w:=by kernel_rfl
theorem F6 (x:Int):∀ u∈[Value.int .i64 x],u.oneCell'=true:=by intro u hu;simp at hu;subst hu;rfl
theorem JW {t o:Nat} {v:Value} {w w1:World} {ob:Obj} (ht:w.cell? ⟨t,o,none⟩=some v) (hlt:t < w.heap.size) {row:Option Nat} (hne:row≠some t) (hg:(w.alloc ob).drew.grownBy w1 row):w1.cell? ⟨t,o,none⟩=some v:=by
  rw [hg.cell_far ⟨t,o,none⟩ (by show t < (w.alloc ob).heap.size;simp;omega) (fun e=>hne e.symm)]
  exact (World.cell?_alloc_lt w ob ⟨t,o,none⟩ hlt).trans ht
theorem JX {t o:Nat} {w w1:World} {ob:Obj} (hf:w.frozen? ⟨t,o,none⟩=false) (hlt:t < w.heap.size) {row:Option Nat} (hne:row≠some t) (hg:(w.alloc ob).drew.grownBy w1 row):w1.frozen? ⟨t,o,none⟩=false:=by
  rw [hg.frozen_far ⟨t,o,none⟩ (by show t < (w.alloc ob).heap.size;simp;omega) (fun e=>hne e.symm)]
  exact (World.frozen?_alloc_old w ob ⟨t,o,none⟩ (Nat.ne_of_lt hlt)).trans hf
theorem JY (t o base n:Nat) (v:Value) (xs:List Value) (x:Int) (w:World) (ht:w.cell? ⟨t,o,none⟩=some v) (hf:w.frozen? ⟨t,o,none⟩=false)
    (hown:w.ownsRow base 3 1 v n xs) (hne:v.ownBlock≠some t) (hm:n+1<=1048576) (hbase:base<=w.heap.size) :
    Calls Tryz.prog 275 #[.pointer (some ⟨t,o,none⟩),.iface 3 (.int .i64 x)] w fun e w'=>e=.returned (.tuple #[]) ∧
      ∃ g cap w1,w1.ownsRow base 3 1 (.slice (some ⟨g,0,none⟩) (n+1) cap) (n+1) (xs++[.int .i64 x])/\w.grownBy w1 v.ownBlock/\(v.ownBlock=some g\/w.heap.size<=g) ∧
        w'=w1.setCell ⟨t,o,none⟩ (.slice (some ⟨g,0,none⟩) (n+1) cap):=by
  obtain⟨i0,hi0,hz0,hz1,hz2⟩:=info_parts LB
  have hlt:t < w.heap.size:=by
    rcases Nat.lt_or_ge t w.heap.size with h|h
    ·exact h
    simp [World.cell?,Array.getElem?_eq_none h] at ht
  have VN:=Il
  go_enter Tryz.func275,Tryz.ntmps275
  go_wp2_with fail
  go_region_law (refine step_append_lies _ rfl (.tmp 7) (.tmp 10) 195 rfl base 3 i0 (.int .i64 0) 1 8 Tryz.underlying195 hi0 hz0 hz1 hz2 rfl (by decide) v n xs (by simp [Act.eval]) (hown.alloc _) ⟨w.heap.size,0,none⟩ 1 1 [.int .i64 x] (by simp [Act.eval]) rfl (cell_one_new _ _ _) (F6 x) (by decide) (by unfold maxLen;omega) (by omega) (by simp;omega) (w.heap.size+1) (by simp) ?_;intro g cap w1 hown1 hg1 Im Vv;have c1:w1.cell? ⟨t,o,none⟩=some v:=JW ht hlt hne hg1;have f1:w1.frozen? ⟨t,o,none⟩=false:=JX hf hlt hne hg1)
  all_goals
    go_end0
    refine⟨rfl,g,cap,w1,hown1,(World.grownBy_alloc w (.cells #[.int .i64 x] 3) _).trans ⟨hg1.os,hg1.tape,hg1.output,hg1.size,hg1.block⟩,?_,rfl⟩
    rcases Im with h|h
    ·exact .inl h
    exact .inr (by omega)
end
end Go.Proofs.YtidjcblbdmfalaaGreat
section
namespace Go.Proofs.YtidjcblbdmfalaaGreat.bG
def at_ (l:List Int) (i:Nat):Int:=l.getD i 0
def swp (l:List Int) (i j:Nat):List Int:=(l.set i (at_ l j)).set j (at_ l i)
def Hp (n:Nat) (l:List Int):Prop:=∀ i,0 < i->i < n->at_ l ((i - 1) / 2)<=at_ l i
def wV (l:List Int):Prop:=∀ a b,a < l.length->b < l.length->at_ l a=at_ l b->a=b
def Cj (l:List Int) (j:Nat):Prop:=
  (∀ i,0 < i->i < l.length->i≠j->at_ l ((i - 1) / 2)<=at_ l i)/\(∀ i,0 < i->i < l.length->(i - 1) / 2=j->0 < j->at_ l ((j - 1) / 2)<=at_ l i)
def uh (n:Nat) (l:List Int) (i:Nat):Prop:=
  (∀ k,0 < k->k < n->(k - 1) / 2≠i->at_ l ((k - 1) / 2)<=at_ l k)/\(∀ k,0 < k->k < n->(k - 1) / 2=i->0 < i->at_ l ((i - 1) / 2)<=at_ l k)
structure Same (l l':List Int):Prop where
  len:l'.length=l.length
  mem:∀ x,x∈l'↔x∈l
  inj:wV l->wV l'
theorem r9 {l:List Int} {x:Int}:x∈l↔∃ k,k < l.length/\at_ l k=x:=by
  rw [List.mem_iff_getElem]
  constructor
  ·rintro⟨i,h,e⟩
   exact⟨i,h,by simp [at_,List.getD_eq_getElem?_getD,h,e]⟩
  rintro⟨i,h,e⟩
  exact⟨i,h,by simpa [at_,List.getD_eq_getElem?_getD,h] using e⟩
theorem kf (l:List Int) (i j:Nat):(swp l i j).length=l.length:=by simp [swp]
def sw (i j k:Nat):Nat:=if k=j then i else if k=i then j else k
theorem jh {l:List Int} {i j:Nat} (hi:i < l.length) (hj:j < l.length) (k:Nat):at_ (swp l i j) k=at_ l (sw i j k):=by
  unfold swp at_ sw
  simp only [List.getD_eq_getElem?_getD,List.getElem?_set,List.length_set]
  by_cases h1:j=k
  ·subst h1;simp [hj]
  by_cases h2:i=k
  ·subst h2;simp [h1,hi,Ne.symm h1]
  simp [h1,h2,Ne.symm h1,Ne.symm h2]
theorem Io (i j k:Nat):sw i j (sw i j k)=k:=by unfold sw;(repeat' split)<;>omega
theorem DX {i j k n:Nat} (hi:i < n) (hj:j < n) (hk:k < n):sw i j k < n:=by unfold sw;(repeat' split)<;>omega
theorem Same.refl (l:List Int):Same l l:=⟨rfl,fun _=>Iff.rfl,fun h=>h⟩
theorem Same.trans {l l' l'':List Int} (h:Same l l') (k:Same l' l''):Same l l'':=⟨k.len.trans h.len,fun x=>(k.mem x).trans (h.mem x),fun i=>k.inj (h.inj i)⟩
theorem Same.swp {l:List Int} {i j:Nat} (hi:i < l.length) (hj:j < l.length):Same l (swp l i j):=by
  refine⟨kf l i j,fun x=>?_,fun inj a b ha hb e=>?_⟩
  ·rw [r9,r9,kf]
   constructor
   ·rintro⟨k,hk,e⟩
    exact⟨sw i j k,DX hi hj hk,by rw [← jh hi hj];exact e⟩
   rintro⟨k,hk,e⟩
   exact⟨sw i j k,DX hi hj hk,by rw [jh hi hj,Io];exact e⟩
  rw [kf] at ha hb
  rw [jh hi hj,jh hi hj] at e
  have:=inj _ _ (DX hi hj ha) (DX hi hj hb) e
  rw [← Io i j a,this,Io]
theorem JZ {l:List Int} {j:Nat} (h:Cj l j) (he:j=0\/at_ l ((j - 1) / 2)<=at_ l j):Hp l.length l:=by
  intro i h0 hi
  by_cases e:i=j
  ·subst e
   rcases he with he|he
   ·omega
   exact he
  exact h.1 i h0 hi e
theorem Ou {l:List Int} {j:Nat} (h:Cj l j) (h0:0 < j) (hj:j < l.length) (hlt:at_ l j < at_ l ((j - 1) / 2)):Cj (swp l ((j - 1) / 2) j) ((j - 1) / 2):=by
  have hp:(j - 1) / 2 < l.length:=by omega
  have hne:(j - 1) / 2≠j:=by omega
  refine⟨fun i i0 il Sc=>?_,fun i i0 il ip p0=>?_⟩
  ·rw [kf] at il
   rw [jh hp hj,jh hp hj]
   by_cases e1:i=j
   ·subst e1
    rw [show sw ((i - 1) / 2) i ((i - 1) / 2)=i by unfold sw;rw [if_neg hne,if_pos rfl],show sw ((i - 1) / 2) i i=(i - 1) / 2 by unfold sw;rw [if_pos rfl]]
    omega
   rw [show sw ((j - 1) / 2) j i=i by unfold sw;rw [if_neg e1,if_neg Sc]]
   by_cases e2:(i - 1) / 2=j
   ·rw [show sw ((j - 1) / 2) j ((i - 1) / 2)=(j - 1) / 2 by unfold sw;rw [if_pos e2]]
    exact h.2 i i0 il e2 h0
   by_cases e3:(i - 1) / 2=(j - 1) / 2
   ·rw [show sw ((j - 1) / 2) j ((i - 1) / 2)=j by unfold sw;rw [if_neg e2,if_pos e3]]
    have:=h.1 i i0 il e1
    rw [e3] at this
    omega
   rw [show sw ((j - 1) / 2) j ((i - 1) / 2)=(i - 1) / 2 by unfold sw;rw [if_neg e2,if_neg e3]]
   exact h.1 i i0 il e1
  rw [kf] at il
  rw [jh hp hj,jh hp hj]
  have a1:=h.1 ((j - 1) / 2) p0 hp hne
  rw [show sw ((j - 1) / 2) j (((j - 1) / 2 - 1) / 2)=((j - 1) / 2 - 1) / 2 by unfold sw;rw [if_neg (by omega),if_neg (by omega)]]
  by_cases e1:i=j
  ·subst e1
   rw [show sw ((i - 1) / 2) i i=(i - 1) / 2 by unfold sw;rw [if_pos rfl]]
   exact a1
  have a2:=h.1 i i0 il e1
  rw [show sw ((j - 1) / 2) j i=i by unfold sw;rw [if_neg e1,if_neg (by omega)]]
  rw [ip] at a2
  omega
theorem uZ {n:Nat} {l:List Int} {i:Nat} (h:uh n l i) (h1:2 * i+1 < n->at_ l i<=at_ l (2 * i+1)) (h2:2 * i+2 < n->at_ l i<=at_ l (2 * i+2)):Hp n l:=by
  intro k k0 kn
  by_cases e:(k - 1) / 2=i
  ·rw [e]
   rcases (show k=2 * i+1\/k=2 * i+2 by omega) with e1|e1
   ·rw [e1];exact h1 (by omega)
   rw [e1];exact h2 (by omega)
  exact h.1 k k0 kn e
theorem wW {n:Nat} {l:List Int} {i j:Nat} (h:uh n l i) (hj:j=2 * i+1\/j=2 * i+2) (hjn:j < n) (hn:n<=l.length)
    (h1:at_ l j<=at_ l (2 * i+1)) (h2:2 * i+2 < n->at_ l j<=at_ l (2 * i+2)) (hlt:at_ l j < at_ l i):uh n (swp l i j) j:=by
  have hi:i < l.length:=by omega
  have hjl:j < l.length:=by omega
  refine⟨fun k k0 kn PI=>?_,fun k k0 kn ke j0=>?_⟩
  ·rw [jh hi hjl,jh hi hjl]
   by_cases e1:(k - 1) / 2=i
   ·rw [e1,show sw i j i=j by unfold sw;rw [if_neg (by omega),if_pos rfl]]
    by_cases e2:k=j
    ·rw [e2,show sw i j j=i by unfold sw;rw [if_pos rfl]];omega
    rw [show sw i j k=k by unfold sw;rw [if_neg e2,if_neg (by omega)]]
    rcases (show k=2 * i+1\/k=2 * i+2 by omega) with e3|e3
    ·rw [e3];exact h1
    rw [e3];exact h2 (by omega)
   rw [show sw i j ((k - 1) / 2)=(k - 1) / 2 by unfold sw;rw [if_neg PI,if_neg e1]]
   by_cases e2:k=i
   ·rw [e2,show sw i j i=j by unfold sw;rw [if_neg (by omega),if_pos rfl],← e2]
    have hjk:(j - 1) / 2=i:=by omega
    rw [e2]
    exact h.2 j (by omega) hjn hjk (by omega)
   rw [show sw i j k=k by unfold sw;rw [if_neg (by omega),if_neg e2]]
   exact h.1 k k0 kn e1
  rw [jh hi hjl,jh hi hjl]
  rw [show (j - 1) / 2=i by omega,show sw i j i=j by unfold sw;rw [if_neg (by omega),if_pos rfl],show sw i j k=k by unfold sw;rw [if_neg (by omega),if_neg (by omega)]]
  have:=h.1 k k0 kn (by omega)
  rw [ke] at this
  exact this
theorem least {n:Nat} {l:List Int} (h:Hp n l):∀ k,k < n->at_ l 0<=at_ l k:=by
  intro k
  induction k using Nat.strongRecOn with
  | _ k ih=>
    intro hk
    rcases Nat.eq_zero_or_pos k with e|e
    ·rw [e];omega
    have a1:=ih ((k - 1) / 2) (by omega) (by omega)
    have a2:=h k e hk
    omega
theorem Ip {n:Nat} {l:List Int} (h:Hp (n+1) l) (hl:l.length=n+1):uh n (swp l 0 n) 0:=by
  refine⟨fun k k0 kn PI=>?_,fun k _ _ _ h0=>by omega⟩
  rw [jh (by omega) (by omega),jh (by omega) (by omega)]
  rw [show sw 0 n ((k - 1) / 2)=(k - 1) / 2 by unfold sw;rw [if_neg (by omega),if_neg PI],show sw 0 n k=k by unfold sw;rw [if_neg (by omega),if_neg (by omega)]]
  exact h k k0 (by omega)
theorem LD {l:List Int} (h:Hp l.length l) (x:Int):Cj (l++[x]) l.length:=by
  have e:∀ k,k < l.length->at_ (l++[x]) k=at_ l k:=fun k hk=>by
    unfold at_
    rw [List.getD_eq_getElem?_getD,List.getD_eq_getElem?_getD,List.getElem?_append_left hk]
  refine⟨fun i i0 il Sc=>?_,fun i i0 il ip=>?_⟩
  ·rw [List.length_append,List.length_singleton] at il
   rw [e _ (by omega),e _ (by omega)]
   exact h i i0 (by omega)
  rw [List.length_append,List.length_singleton] at il
  omega
theorem Ov {l:List Int} {n:Nat} (hl:l.length=n+1) (hi:wV l) (x:Int):x∈l.take n↔x∈l/\x≠at_ l n:=by
  constructor
  ·intro h
   refine⟨List.mem_of_mem_take h,?_⟩
   rintro rfl
   obtain⟨k,hk,e⟩:=List.mem_iff_getElem.1 h
   simp at hk e
   have:=hi k n (by omega) (by omega) (by simp [at_,List.getD_eq_getElem?_getD,show k < l.length by omega,e])
   omega
  rintro⟨h,hne⟩
  obtain⟨k,hk,e⟩:=r9.1 h
  have:k≠n:=by rintro rfl;exact hne e.symm
  refine List.mem_iff_getElem.2 ⟨k,by simp;omega,?_⟩
  simp only [at_,List.getD_eq_getElem?_getD,hk,List.getElem?_eq_getElem,Option.getD_some] at e
  simpa using e
theorem ye {l:List Int} {n k:Nat} (hk:k < n):at_ (l.take n) k=at_ l k:=by simp [at_,List.getD_eq_getElem?_getD,hk]
theorem Ow {l:List Int} {n:Nat} (h:Hp n l):Hp n (l.take n):=fun i i0 hi=>by rw [ye hi,ye (by omega)];exact h i i0 hi
theorem LF {l:List Int} {n:Nat} (h:wV l):wV (l.take n):=fun a b ha hb e=>by
  simp at ha hb
  rw [ye (by omega),ye (by omega)] at e
  exact h a b (by omega) (by omega) e
end Go.Proofs.YtidjcblbdmfalaaGreat.bG
end
namespace Go.Proofs.YtidjcblbdmfalaaGreat
section
open Go.RowKit bG
def ints (l:List Int):List Value:=l.map (Value.int .i64)
theorem ny (g n c a b:Nat) (i j:Int) (hi:i=(a:Int)) (hj:j=(b:Int)) (x y:Int) (w:World) (ha:a < n) (hb:b < n) (ci:w.cell? ⟨g,a,none⟩=some (.int .i64 x)) (cj:w.cell? ⟨g,b,none⟩=some (.int .i64 y)) :
    Calls Tryz.prog 272 #[.slice (some ⟨g,0,none⟩) n c,.int .i64 i,.int .i64 j] w fun e w'=>e=.returned (.bool (decide (x < y)))/\∃ m,w'=w.drewN m:=by
  subst hi hj;exact JU g n c a b x y w ha hb ci cj
structure HW (t o g c base:Nat) (l:List Int) (w:World):Prop where
  cell:w.cell? ⟨t,o,none⟩=some (.slice (some ⟨g,0,none⟩) l.length c)
  own:w.ownsRow base 3 1 (.slice (some ⟨g,0,none⟩) l.length c) l.length (ints l)
  ne:t≠g
  lt:t < w.heap.size
theorem LG {l:List Int} {k:Nat} (hk:k < l.length):(ints l)[k]?=some (.int .i64 (at_ l k)):=by
  simp [ints,at_,List.getD_eq_getElem?_getD,hk]
section hw
variable {t o g c base:Nat} {l:List Int} {w:World}
theorem HW.at (h:HW t o g c base l w) {k:Nat} (hk:k < l.length):w.cell? ⟨g,k,none⟩=some (.int .i64 (at_ l k)):=by
  rw [h.own.cellAt k (by omega)]
  exact LG hk
theorem HW.drewN (h:HW t o g c base l w) (m:Nat):HW t o g c base l (w.drewN m):=⟨h.cell,h.own,h.ne,h.lt⟩
theorem HW.swap (h:HW t o g c base l w) (i j:Nat) :
    HW t o g c base (swp l i j) ((w.setCell ⟨g,i,none⟩ (.int .i64 (at_ l j))).setCell ⟨g,j,none⟩ (.int .i64 (at_ l i))):=by
  have e1:ints (swp l i j)=((ints l).set i (.int .i64 (at_ l j))).set j (.int .i64 (at_ l i)):=by
    simp [ints,swp,List.map_set]
  refine⟨?_,?_,h.ne,by simpa [World.setCell] using h.lt⟩
  ·rw [kf,World.cell?_setCell_other _ _ _ _ (fun e=>h.ne (by injection e with e;exact e.symm)),World.cell?_setCell_other _ _ _ _ (fun e=>h.ne (by injection e with e;exact e.symm))]
   exact h.cell
  rw [kf,e1]
  exact ((h.own.stored i _).1.stored j _).1
end hw
theorem nA (t o g c base:Nat) (l:List Int) (a b:Nat) (i j:Int) (hi:i=(a:Int)) (hj:j=(b:Int)) (w:World) (h:HW t o g c base l w) (ha:a < l.length) (hb:b < l.length) (hne:a≠b) :
    Calls Tryz.prog 273 #[.slice (some ⟨g,0,none⟩) l.length c,.int .i64 i,.int .i64 j] w fun e w'=>e=.returned (.tuple #[])/\HW t o g c base (swp l a b) w'/\Keeps (·=g) w w':=by
  subst hi hj
  refine (JV g l.length c a b (at_ l a) (at_ l b) w ha hb hne (h.at ha) (h.at hb) (h.own.frozenAt a) (h.own.frozenAt b)).mono fun e w' ⟨he,m,hw⟩=>⟨he,?_,?_⟩
  ·rw [hw];exact (h.swap a b).drewN m
  rw [hw];exact (((Keeps.refl (·=g) w).setCell (p:=⟨g,a,none⟩) (.inr rfl) _).setCell (p:=⟨g,b,none⟩) (.inr rfl) _).drewN m
structure Looks (a:Addr) (V:Value):Prop where
  less:∀ w:World,w.cell? a=some V->(Go.method 441 256 (.pointer (some a)) "Less").run Tryz.prog w=.ok (272,V) w
  swap:∀ w:World,w.cell? a=some V->(Go.method 441 256 (.pointer (some a)) "Swap").run Tryz.prog w=.ok (273,V) w
  len:∀ w:World,w.cell? a=some V->(Go.method 441 256 (.pointer (some a)) "Len").run Tryz.prog w=.ok (271,V) w
theorem looks (a:Addr) (V:Value):Looks a V:=⟨PD a V,PE a V,RB a V⟩
theorem Ox (t o g c base:Nat) (l:List Int) (j:Nat) (w:World) (h:HW t o g c base l w) (hj:j < l.length) (hu:Cj l j) (hm:l.length<=1048576) :
    Calls Tryz.prog 204 #[.iface 256 (.pointer (some ⟨t,o,none⟩)),.int .i64 j] w fun e w'=>e=.returned (.tuple #[]) ∧
      ∃ l',Same l l'/\Hp l'.length l'/\HW t o g c base l' w'/\Keeps (·=g) w w':=by
  have L:=looks ⟨t,o,none⟩ (.slice (some ⟨g,0,none⟩) l.length c)
  have nl:=JT ⟨t,o,none⟩
  have ns:=EC ⟨t,o,none⟩
  go_enter Tryz.func204,Tryz.ntmps204
  go_wp2_with fail
  go_loopw [1] (fun v wr=>∃ (j:Nat) (l':List Int),v=.int .i64 j/\j < l'.length/\Same l l'/\Cj l' j/\HW t o g c base l' wr/\Keeps (·=g) w wr) (fun v _=>(intOf v).toNat)
  case atStart=>exact⟨j,l,rfl,hj,Same.refl l,hu,h,Keeps.refl _ _⟩
  case round=>
    obtain⟨j,l',rfl,hj',hs,hu',hw,hk⟩:=hrel
    have hc:=hw.cell
    rw [hs.len] at hc
    have LL:=L.less wr hc
    by_cases h0:j=0
    ·subst h0
     have HU:=Lib.hid hu'
     clear hu'
     go_wp2_with fail
     go_end0
     exact⟨rfl,l',hs,JZ HU.out (.inl rfl),hw,hk⟩
    have nW:1<=j:=by omega
    have hj2:j<=1048576:=by have:=hs.len;omega
    have hi1:(j - 1) / 2 < l'.length:=by omega
    have hjn:((((j:Int) - 1) / 2) == (j:Int))=false:=by rw [beq_eq_false_iff_ne];omega
    have HU:=Lib.hid hu'
    clear hu'
    go_wp2_with fail
    refine (ny g l.length c j ((j - 1) / 2) _ _ rfl (by omega) (at_ l' j) (at_ l' ((j - 1) / 2)) _ (by rw [← hs.len];exact hj') (by rw [← hs.len];exact hi1) (hw.at hj') (hw.at hi1)).mono ?_
    rintro e w1 ⟨rfl,m,rfl⟩
    have hw1:=hw.drewN m
    by_cases hlt:at_ l' j < at_ l' ((j - 1) / 2)
    ·have LS:=L.swap (wr.drewN m) hc
     go_wp2_with fail
     have HL:=Lib.hid hs.len
     have sw:=nA t o g c base l' ((j - 1) / 2) j
     rw [hs.len] at sw
     refine (sw _ _ (by omega) rfl _ hw1 (by have:=HL.out;omega) (by have:=HL.out;omega) (by omega)).mono ?_
     rintro e w2 ⟨rfl,hw2,hk2⟩
     clear sw
     go_wp2_with fail
     go_roundw
     case rel=>exact⟨(j - 1) / 2,_,by go_num,by rw [kf];exact hi1,hs.trans (Same.swp hi1 hj'),Ou HU.out nW hj' hlt,hw2,(hk.drewN m).trans hk2⟩
     case measure=>simp [intOf];omega
    have hnl:decide (at_ l' j < at_ l' ((j - 1) / 2))=false:=by simpa using hlt
    go_wp2_with fail
    go_end0
    exact⟨rfl,l',hs,JZ HU.out (.inr (by omega)),hw1,hk.drewN m⟩
end
section
open Go.RowKit bG
theorem EF {l:List Int} {i j n k:Nat} (hi:i < l.length) (hj:j < l.length) (hin:i < n) (hjn:j < n) (hk:n<=k):at_ (swp l i j) k=at_ l k:=by
  rw [jh hi hj];unfold sw;rw [if_neg (by omega),if_neg (by omega)]
theorem J0 (t o g c base n:Nat) (l:List Int) (w:World) (h:HW t o g c base l w) (hn:n<=l.length) (hd:uh n l 0) (hm:l.length<=1048576) :
    Calls Tryz.prog 221 #[.iface 256 (.pointer (some ⟨t,o,none⟩)),.int .i64 0,.int .i64 n] w fun e w'=>(∃ b,e=.returned (.bool b)) ∧
      ∃ l',Same l l'/\Hp n l'/\(∀ k,n<=k->at_ l' k=at_ l k)/\HW t o g c base l' w'/\Keeps (·=g) w w':=by
  have L:=looks ⟨t,o,none⟩ (.slice (some ⟨g,0,none⟩) l.length c)
  have nl:=JT ⟨t,o,none⟩
  have ns:=EC ⟨t,o,none⟩
  go_enter Tryz.func221,Tryz.ntmps221
  go_wp2_with fail
  go_loopw [7] (fun v wr=>∃ (i:Nat) (l':List Int),v=.int .i64 i/\i<=n/\Same l l'/\uh n l' i/\Hid (∀ k,n<=k->at_ l' k=at_ l k)/\HW t o g c base l' wr/\Keeps (·=g) w wr) (fun v _=>n - (intOf v).toNat)
  case atStart=>exact⟨0,l,rfl,Nat.zero_le _,Same.refl l,hd,Lib.hid (fun _ _=>rfl),h,Keeps.refl _ _⟩
  case round=>
    obtain⟨i,l',rfl,hin,hs,hd',vf,hw,hk⟩:=hrel
    have hc:=hw.cell
    rw [hs.len] at hc
    have HL:=Lib.hid hs.len
    have hn1:n<=1048576:=by omega
    have hnl:n<=l'.length:=by rw [HL.out];exact hn
    have HD:=Lib.hid hd'
    clear hd'
    by_cases h1:2 * i+1 < n
    ·have h1a:(2 * (i:Int)+1) < (n:Int):=by omega
     by_cases h2:2 * i+2 < n
     ·have Ut:(2 * (i:Int)+1+1) < (n:Int):=by omega
      have LL:=L.less wr hc
      go_wp2_with fail
      refine (ny g l.length c (2 * i+2) (2 * i+1) _ _ (by omega) (by omega) (at_ l' (2 * i+2)) (at_ l' (2 * i+1)) _ (by omega) (by omega) (hw.at (by omega)) (hw.at (by omega))).mono ?_
      rintro e w1 ⟨rfl,m,rfl⟩
      have hw1:=hw.drewN m
      have hk1:=hk.drewN m
      have LL:=L.less (wr.drewN m) hc
      clear hw hk
      by_cases h3:at_ l' (2 * i+2) < at_ l' (2 * i+1)
      ·go_wp2_with fail
       refine (ny g l.length c (2 * i+2) i _ _ (by omega) (by omega) (at_ l' (2 * i+2)) (at_ l' i) _ (by omega) (by omega) (hw1.at (by omega)) (hw1.at (by omega))).mono ?_
       rintro e w2 ⟨rfl,m2,rfl⟩
       have hw2:=hw1.drewN m2
       have hk2:=hk1.drewN m2
       rw [World.drewN_drewN] at hw2 hk2
       by_cases h4:at_ l' (2 * i+2) < at_ l' i
       ·have LS:=L.swap _ (hw2.cell.trans (by rw [HL.out]))
        go_wp2_with fail
        have sw:=nA t o g c base l' i (2 * i+2)
        rw [hs.len] at sw
        refine (sw _ _ rfl (by omega) _ hw2 (by omega) (by omega) (by omega)).mono ?_
        rintro e w3 ⟨rfl,hw3,hk3⟩
        clear sw
        go_wp2_with fail
        go_roundw
        case rel=>exact⟨2 * i+2,_,by go_num,by omega,hs.trans (Same.swp (by omega) (by omega)),wW HD.out (by omega) (by omega) hnl (by omega) (fun _=>by omega) h4,Lib.hid (fun k hk=>(EF (by omega) (by omega) (by omega) (by omega) hk).trans (vf.out k hk)),hw3,hk2.trans hk3⟩
        case measure=>simp [intOf];omega
       have Sd:decide (at_ l' (2 * i+2) < at_ l' i)=false:=by simpa using h4
       go_wp2_with fail
       go_ret
       exact⟨⟨_,rfl⟩,l',hs,uZ HD.out (fun _=>by omega) (fun _=>by omega),vf.out,hw2,hk2⟩
      have VO:decide (at_ l' (2 * i+2) < at_ l' (2 * i+1))=false:=by simpa using h3
      go_wp2_with fail
      refine (ny g l.length c (2 * i+1) i _ _ (by omega) (by omega) (at_ l' (2 * i+1)) (at_ l' i) _ (by omega) (by omega) (hw1.at (by omega)) (hw1.at (by omega))).mono ?_
      rintro e w2 ⟨rfl,m2,rfl⟩
      have hw2:=hw1.drewN m2
      have hk2:=hk1.drewN m2
      rw [World.drewN_drewN] at hw2 hk2
      by_cases h4:at_ l' (2 * i+1) < at_ l' i
      ·have LS:=L.swap _ (hw2.cell.trans (by rw [HL.out]))
       go_wp2_with fail
       have sw:=nA t o g c base l' i (2 * i+1)
       rw [hs.len] at sw
       refine (sw _ _ rfl (by omega) _ hw2 (by omega) (by omega) (by omega)).mono ?_
       rintro e w3 ⟨rfl,hw3,hk3⟩
       clear sw
       go_wp2_with fail
       go_roundw
       case rel=>exact⟨2 * i+1,_,by go_num,by omega,hs.trans (Same.swp (by omega) (by omega)),wW HD.out (by omega) (by omega) hnl (by omega) (fun _=>by omega) h4,Lib.hid (fun k hk=>(EF (by omega) (by omega) (by omega) (by omega) hk).trans (vf.out k hk)),hw3,hk2.trans hk3⟩
       case measure=>simp [intOf];omega
      have Sd:decide (at_ l' (2 * i+1) < at_ l' i)=false:=by simpa using h4
      go_wp2_with fail
      go_ret
      exact⟨⟨_,rfl⟩,l',hs,uZ HD.out (fun _=>by omega) (fun _=>by omega),vf.out,hw2,hk2⟩
     have Ut:decide ((2 * (i:Int)+1+1) < (n:Int))=false:=by simp;omega
     have hw1:=hw
     have hk1:=hk
     have LL:=L.less wr hc
     clear hw hk
     go_wp2_with fail
     refine (ny g l.length c (2 * i+1) i _ _ (by omega) (by omega) (at_ l' (2 * i+1)) (at_ l' i) _ (by omega) (by omega) (hw1.at (by omega)) (hw1.at (by omega))).mono ?_
     rintro e w2 ⟨rfl,m2,rfl⟩
     have hw2:=hw1.drewN m2
     have hk2:=hk1.drewN m2
     by_cases h4:at_ l' (2 * i+1) < at_ l' i
     ·have LS:=L.swap _ (hw2.cell.trans (by rw [HL.out]))
      go_wp2_with fail
      have sw:=nA t o g c base l' i (2 * i+1)
      rw [hs.len] at sw
      refine (sw _ _ rfl (by omega) _ hw2 (by omega) (by omega) (by omega)).mono ?_
      rintro e w3 ⟨rfl,hw3,hk3⟩
      clear sw
      go_wp2_with fail
      go_roundw
      case rel=>exact⟨2 * i+1,_,by go_num,by omega,hs.trans (Same.swp (by omega) (by omega)),wW HD.out (by omega) (by omega) hnl (by omega) (fun _=>by omega) h4,Lib.hid (fun k hk=>(EF (by omega) (by omega) (by omega) (by omega) hk).trans (vf.out k hk)),hw3,hk2.trans hk3⟩
      case measure=>simp [intOf];omega
     have Sd:decide (at_ l' (2 * i+1) < at_ l' i)=false:=by simpa using h4
     go_wp2_with fail
     go_ret
     exact⟨⟨_,rfl⟩,l',hs,uZ HD.out (fun _=>by omega) (fun _=>by omega),vf.out,hw2,hk2⟩
    have h1a:((n:Int)<=2 * (i:Int)+1):=by omega
    go_wp2_with fail
    go_ret
    exact⟨⟨_,rfl⟩,l',hs,uZ HD.out (fun h=>absurd h h1) (fun h=>absurd h (by omega)),vf.out,hw,hk⟩
end
section
open Go.RowKit bG
theorem Ck (g n c i:Nat) (x:Int) (w:World) (hi:i < n) (ci:w.cell? ⟨g,i,none⟩=some (.int .i64 x)) (fi:w.frozen? ⟨g,i,none⟩=false) :
    Calls Tryz.prog 273 #[.slice (some ⟨g,0,none⟩) n c,.int .i64 i,.int .i64 i] w fun e w'=>e=.returned (.tuple #[])/\∃ m,w'=((w.setCell ⟨g,i,none⟩ (.int .i64 x)).setCell ⟨g,i,none⟩ (.int .i64 x)).drewN m:=by
  have hi':(i:Int) < (n:Int):=by omega
  go_enter Tryz.func273,Tryz.ntmps273
  go_wp2_with fail
  go_region
  go_end0
  exact⟨rfl,1,rfl⟩
theorem Cl (t o g c base n:Nat) (l:List Int) (hl:l.length=n+1) (j:Int) (hj:j=(n:Int)) (w:World) (h:HW t o g c base l w) :
    Calls Tryz.prog 273 #[.slice (some ⟨g,0,none⟩) (n+1) c,.int .i64 0,.int .i64 j] w fun e w'=>e=.returned (.tuple #[])/\HW t o g c base (swp l 0 n) w'/\Keeps (·=g) w w':=by
  subst hj
  by_cases h0:n=0
  ·subst h0
   have:=Ck g 1 c 0 (at_ l 0) w (by omega) (h.at (by omega)) (h.own.frozenAt 0)
   refine this.mono fun e w' ⟨he,m,hw⟩=>⟨he,?_,?_⟩
   ·rw [hw];exact (h.swap 0 0).drewN m
   rw [hw];exact (((Keeps.refl (·=g) w).setCell (p:=⟨g,0,none⟩) (.inr rfl) _).setCell (p:=⟨g,0,none⟩) (.inr rfl) _).drewN m
  have:=nA t o g c base l 0 n 0 n rfl rfl w h (by omega) (by omega) (by omega)
  rw [hl] at this
  exact this
theorem HW.pop {t o g c base n:Nat} {l:List Int} {w:World} (h:HW t o g c base l w) (hl:l.length=n+1):w.ownsRow base 3 1 (.slice (some ⟨g,0,none⟩) n c) n (ints (l.take n)):=by
  have e:ints l=ints (l.take n)++ints (l.drop n):=by simp only [ints,← List.map_append,List.take_append_drop]
  have h1:=h.own
  rw [e,hl] at h1
  exact ownsRow_pop (by simp [ints];omega) h1
theorem HW.cap {t o g c base:Nat} {l:List Int} {w:World} (h:HW t o g c base l w):l.length<=c:=by
  rcases h.own.2 with ⟨e,_⟩|⟨g',cap,cur,e,_,_,r,_⟩
  ·injection e with e;cases e
  injection e with e1 e2 e3
  omega
theorem LH (t o g c base n:Nat) (l:List Int) (w:World) (h:HW t o g c base l w) (hl:l.length=n+1) (hp:Hp (n+1) l) (hi:wV l) (hm:n+1<=1048576) (hf:w.frozen? ⟨t,o,none⟩=false) :
    Calls Tryz.prog 203 #[.iface 256 (.pointer (some ⟨t,o,none⟩))] w fun e w'=>e=.returned (.iface 3 (.int .i64 (at_ l 0))) ∧
      ∃ l' w1,l'.length=n/\Hp n l'/\wV l'/\(∀ x,x∈l'↔x∈l/\x≠at_ l 0)/\w1.ownsRow base 3 1 (.slice (some ⟨g,0,none⟩) n c) n (ints l')/\Keeps (·=g) w w1 ∧
        w'=w1.setCell ⟨t,o,none⟩ (.slice (some ⟨g,0,none⟩) n c):=by
  have L:=looks ⟨t,o,none⟩ (.slice (some ⟨g,0,none⟩) l.length c)
  have nn:=Ny ⟨t,o,none⟩
  have ns:=EC ⟨t,o,none⟩
  have np:=RG ⟨t,o,none⟩
  have mp:=RD ⟨t,o,none⟩
  have LN:=L.len w h.cell
  have LS:=L.swap w h.cell
  have HL:=Lib.hid hl
  rw [hl] at LN LS
  clear hl
  go_enter Tryz.func203,Tryz.ntmps203
  go_wp2_with fail
  refine (ED _ _ _ _).mono ?_
  rintro e w0 ⟨rfl,rfl⟩
  go_wp2_with fail
  refine (Cl t o g c base n l HL.out _ (by omega) _ h).mono ?_
  rintro e w1 ⟨rfl,hw1,hk1⟩
  go_wp2_with fail
  have hd:=J0 t o g c base n (swp l 0 n) w1 hw1 (by rw [kf,HL.out];omega) (Ip hp HL.out) (by rw [kf,HL.out];exact hm)
  refine (hd.mono ?_)
  rintro e w2 ⟨⟨bb,rfl⟩,l',hs,hp',vf,hw2,hk2⟩
  clear hd
  have hlen:l'.length=n+1:=by rw [hs.len,kf,HL.out]
  have hcell:=hw2.cell
  rw [hlen] at hcell
  have hcap:=hw2.cap
  have htlt:=h.lt
  have hf2:w2.frozen? ⟨t,o,none⟩=false:=by
    rw [(hk1.trans hk2).frozen (p:=⟨t,o,none⟩) htlt h.ne]
    exact hf
  have hlast:at_ l' n=at_ l 0:=by
    rw [vf n (Nat.le_refl _),jh (by rw [HL.out];omega) (by rw [HL.out];omega)]
    simp [sw]
  have hx:=hw2.at (k:=n) (by omega)
  rw [hlast] at hx
  have Iq:=Lib.hid hlen
  have RH:=Lib.hid hlast
  clear hlen hlast
  go_wp2_with fail
  refine (LC t o g n c (at_ l 0) w2 (by have:=Iq.out;omega) hcell hf2 hx hm).mono ?_
  rintro e w3 ⟨rfl,rfl⟩
  go_wp2_with fail
  go_ret
  have sm:=(Same.swp (l:=l) (i:=0) (j:=n) (by rw [HL.out];omega) (by rw [HL.out];omega)).trans hs
  refine⟨rfl,l'.take n,w2,by simp [Iq.out],Ow hp',LF (sm.inj hi),fun x=>?_,hw2.pop Iq.out,hk1.trans hk2,rfl⟩
  rw [Ov Iq.out (sm.inj hi),sm.mem,RH.out]
theorem F7 (l:List Int) (x:Int):ints l++[.int .i64 x]=ints (l++[x]):=by simp [ints]
theorem J1 (t o base:Nat) (v:Value) (l:List Int) (x:Int) (w:World) (ht:w.cell? ⟨t,o,none⟩=some v) (hf:w.frozen? ⟨t,o,none⟩=false) (hown:w.ownsRow base 3 1 v l.length (ints l))
    (hne:v.ownBlock≠some t) (hm:l.length+1<=1048576) (hbase:base<=w.heap.size) (hp:Hp l.length l) (htl:t < w.heap.size) :
    Calls Tryz.prog 169 #[.iface 256 (.pointer (some ⟨t,o,none⟩)),.iface 3 (.int .i64 x)] w fun e w'=>e=.returned (.tuple #[]) ∧
      ∃ g c l',Same (l++[x]) l'/\Hp l'.length l'/\HW t o g c base l' w'/\(v.ownBlock=some g\/w.heap.size<=g) ∧
        ∃ w1,Keeps (fun k=>v.ownBlock=some k) w w1/\Keeps (·=g) (w1.setCell ⟨t,o,none⟩ (.slice (some ⟨g,0,none⟩) (l.length+1) c)) w':=by
  have nn:=Ny ⟨t,o,none⟩
  have np:=PG ⟨t,o,none⟩
  have mp:=PF ⟨t,o,none⟩
  go_enter Tryz.func169,Tryz.ntmps169
  go_wp2_with fail
  refine (JY t o base l.length v (ints l) x w ht hf hown hne hm hbase).mono ?_
  rintro e w0 ⟨rfl,g,c,w1,hown1,hg1,Im,rfl⟩
  have hk1:Keeps (fun k=>v.ownBlock=some k) w w1:=(Keeps.refl _ _).grown hg1 (fun k hk=>.inr hk)
  have hgt:t≠g:=by
    rintro rfl
    rcases Im with h|h
    ·exact hne h
    omega
  have ht1:w1.cell? ⟨t,o,none⟩=some v:=(hk1.cell (p:=⟨t,o,none⟩) htl hne).trans ht
  have HW1:HW t o g c base (l++[x]) (w1.setCell ⟨t,o,none⟩ (.slice (some ⟨g,0,none⟩) (l.length+1) c)):=by
    refine⟨?_,?_,hgt,by simpa [World.setCell] using Nat.lt_of_lt_of_le htl hk1.size⟩
    ·rw [World.cell?_setCell_same _ _ _ ht1];simp
    rw [List.length_append,List.length_singleton,← F7]
    refine Keeps.ownsRow (S:=(·=t)) ((Keeps.refl (·=t) w1).setCell (p:=⟨t,o,none⟩) (.inr rfl) _) hown1 ?_
    intro k hk e
    simp [Value.ownBlock] at hk
    omega
  have hc:=HW1.cell
  rw [List.length_append,List.length_singleton] at hc
  generalize hW:w1.setCell ⟨t,o,none⟩ (.slice (some ⟨g,0,none⟩) (l.length+1) c)=w2 at *
  have LN:=(looks ⟨t,o,none⟩ (.slice (some ⟨g,0,none⟩) (l.length+1) c)).len w2 hc
  have Uu:=Lib.hid hW
  clear hW ht1 hown1 hown hg1
  go_wp2_with fail
  refine (ED _ _ _ _).mono ?_
  rintro e w3 ⟨rfl,rfl⟩
  go_wp2_with fail
  have hu:=Ox t o g c base (l++[x]) l.length w3 HW1 (by simp) (LD hp x) (by simpa using hm)
  refine hu.mono ?_
  rintro e w4 ⟨rfl,l',hs,hp',hw4,hk4⟩
  go_wp2_with fail
  go_end0
  exact⟨rfl,g,c,l',hs,hp',hw4,Im,w1,hk1,by rw [Uu.out];exact hk4⟩
end
end Go.Proofs.YtidjcblbdmfalaaGreat
section
namespace Go.Proofs.YtidjcblbdmfalaaGreat.aE
open bG
variable {V U:Type}
abbrev Used (V:Type):=List (Int×V)
def keys (us:Used V):List Int:=us.map (·.1)
def get (us:Used V) (h:Int):Option V:=(us.find? (fun p=>p.1 == h)).map (·.2)
def cQ:List Int->Prop:=List.Pairwise (· < ·)
def iB:Int->List Int->Int
  | h,[]=>h
  | h,k::r=>if k=h then iB (h+1) r else h
def least (us:Used V):Int:=iB 1 (keys us)
def ins (h:Int) (v:V):Used V->Used V
  | []=>[(h,v)]
  | p::r=>if h < p.1 then (h,v)::p::r else p::ins h v r
def del (h:Int) (us:Used V):Used V:=us.filter (fun p=>p.1 != h)
def Vw (h:Int) (v:V) (us:Used V):Used V:=us.map (fun p=>if p.1 == h then (h,v) else p)
structure TI (next:Int) (l:List Int) (us:Used V):Prop where
  rise:cQ (keys us)
  pos:∀ h∈keys us,1<=h/\h < next
  back:∀ h∈l,1<=h/\h < next/\h∉keys us
  all:∀ h,1<=h->h < next->h∈keys us\/h∈l
  count:(us.length:Int)+l.length=next - 1
  heap:Hp l.length l
  inj:wV l
theorem keys_cons (p:Int×V) (us:Used V):keys (p::us)=p.1::keys us:=rfl
theorem keys_map (f:V->U) (us:Used V):keys (us.map fun p=>(p.1,f p.2))=keys us:=by simp [keys]
theorem get_none {us:Used V} {h:Int}:get us h=none↔h∉keys us:=by
  unfold get keys
  rw [Option.map_eq_none_iff,List.find?_eq_none]
  simp only [List.mem_map,not_exists,not_and,beq_iff_eq]
theorem get_some {us:Used V} {h:Int} {v:V} (e:get us h=some v):h∈keys us:=by
  apply Classical.byContradiction
  intro hn
  rw [get_none.2 hn] at e;cases e
theorem get_map (f:V->U) (us:Used V) (h:Int):get (us.map fun p=>(p.1,f p.2)) h=(get us h).map f:=by
  unfold get
  rw [List.find?_map]
  simp only [Function.comp_def,Option.map_map]
theorem kQ (h:Int) (v:V) (us:Used V) (x:Int):x∈keys (ins h v us)↔x=h\/x∈keys us:=by
  induction us with
  | nil=>simp [ins,keys]
  | cons p r ih=>
    unfold ins
    split
    ·simp [keys]
    rw [keys_cons,keys_cons,List.mem_cons,List.mem_cons,ih]
    constructor
    ·rintro (h1|h1|h1)
     ·exact .inr (.inl h1)
     ·exact .inl h1
     exact .inr (.inr h1)
    rintro (h1|h1|h1)
    ·exact .inr (.inl h1)
    ·exact .inl h1
    exact .inr (.inr h1)
theorem vg {h:Int} {v:V} {us:Used V} (hr:cQ (keys us)) (hn:h∉keys us):cQ (keys (ins h v us)):=by
  induction us with
  | nil=>simp [ins,keys,cQ]
  | cons p r ih=>
    unfold cQ at *
    rw [keys_cons,List.pairwise_cons] at hr
    rw [keys_cons,List.mem_cons,not_or] at hn
    unfold ins
    split
    ·rename_i hlt
     rw [keys_cons,keys_cons,List.pairwise_cons,List.pairwise_cons]
     refine⟨?_,hr⟩
     intro x hx
     rcases List.mem_cons.1 hx with e|e
     ·rw [e];exact hlt
     have:=hr.1 x e;show h < x;omega
    rename_i hlt
    rw [keys_cons,List.pairwise_cons]
    refine⟨fun x hx=>?_,ih hr.2 hn.2⟩
    rcases (kQ h v r x).1 hx with e|e
    ·rw [e];have:=hn.1;omega
    exact hr.1 x e
theorem rM {h:Int} {v:V} {us:Used V} (hn:h∉keys us) (x:Int):get (ins h v us) x=if x=h then some v else get us x:=by
  induction us with
  | nil=>
    by_cases e:x=h
    ·subst e;simp [ins,get]
    simp [ins,get,e,Ne.symm e]
  | cons p r ih=>
    rw [keys_cons,List.mem_cons,not_or] at hn
    unfold ins
    split
    ·unfold get
     by_cases e:x=h
     ·subst e;simp
     simp [e,Ne.symm e]
    have ih':=ih hn.2
    unfold get at ih' ⊢
    rw [List.find?_cons,List.find?_cons]
    by_cases e:p.1=x
    ·have:x≠h:=by rintro rfl;exact hn.1 e.symm
     simp [e,this]
    simp only [show (p.1 == x)=false by simpa using e]
    exact ih'
theorem iI (h:Int) (v:V) (us:Used V):(ins h v us).length=us.length+1:=by
  induction us with
  | nil=>rfl
  | cons p r ih=>unfold ins;split<;>simp [ih]
theorem LI {h:Int} {v:V} {us:Used V} (hl:∀ x∈keys us,x < h):ins h v us=us++[(h,v)]:=by
  induction us with
  | nil=>rfl
  | cons p r ih=>
    rw [keys_cons] at hl
    have h1:=hl p.1 (by simp)
    unfold ins
    rw [if_neg (by omega),ih (fun x hx=>hl x (by simp [hx]))]
    rfl
theorem GK (f:V->U) (h:Int) (v:V) (us:Used V):(ins h v us).map (fun p=>(p.1,f p.2))=ins h (f v) (us.map fun p=>(p.1,f p.2)):=by
  induction us with
  | nil=>rfl
  | cons p r ih=>unfold ins;simp only [List.map_cons];split<;>simp_all
theorem GL (f:V->U) (h:Int) (us:Used V):(del h us).map (fun p=>(p.1,f p.2))=del h (us.map fun p=>(p.1,f p.2)):=by
  unfold del;rw [List.filter_map];rfl
theorem nN (h:Int) (us:Used V):keys (del h us)=(keys us).filter (· != h):=by
  unfold keys del;rw [List.filter_map];rfl
theorem uj (h:Int) (us:Used V) (x:Int):get (del h us) x=if x=h then none else get us x:=by
  by_cases e:x=h
  ·subst e
   rw [if_pos rfl,get_none,nN]
   simp
  rw [if_neg e]
  unfold get del
  rw [List.find?_filter]
  congr 2
  funext p
  by_cases e2:p.1=x
  ·simp [e2,e]
  simp [e2]
theorem o7 {h:Int} {us:Used V} (hr:cQ (keys us)) (hm:h∈keys us):(del h us).length+1=us.length:=by
  induction us with
  | nil=>simp [keys] at hm
  | cons p r ih=>
    unfold cQ at *
    rw [keys_cons,List.pairwise_cons] at hr
    unfold del at ih ⊢
    rw [List.filter_cons]
    by_cases e:p.1=h
    ·have:r.filter (fun q=>q.1 != h)=r:=by
       rw [List.filter_eq_self]
       intro q hq
       have:=hr.1 q.1 (List.mem_map_of_mem hq)
       simp;omega
     simp [e,this]
    rw [keys_cons,List.mem_cons] at hm
    have:=ih hr.2 (hm.resolve_left (Ne.symm e))
    simp [e];omega
theorem mI:∀ (ks:List Int) (h:Int),cQ ks->(∀ x∈ks,h<=x)->h<=iB h ks/\iB h ks∉ks/\∀ x,h<=x->x < iB h ks->x∈ks
  | [],h,_,_=>⟨Int.le_refl _,by simp [iB],fun x h1 h2=>by simp [iB] at h2;omega⟩
  | k::r,h,hr,hge=>by
    unfold cQ at hr
    rw [List.pairwise_cons] at hr
    unfold iB
    by_cases e:k=h
    ·rw [if_pos e]
     obtain⟨i1,i2,i3⟩:=mI r (h+1) hr.2 (fun x hx=>by have:=hr.1 x hx;omega)
     refine⟨by omega,?_,fun x h1 h2=>?_⟩
     ·rw [List.mem_cons,not_or];exact⟨by omega,i2⟩
     by_cases e2:x=h
     ·rw [e2,← e];simp
     exact List.mem_cons_of_mem _ (i3 x (by omega) h2)
    rw [if_neg e]
    refine⟨Int.le_refl _,?_,fun x h1 h2=>by omega⟩
    rw [List.mem_cons,not_or]
    refine⟨Ne.symm e,fun hm=>?_⟩
    have h1:=hr.1 h hm
    have h2:=hge k (by simp)
    omega
theorem wX {us:Used V} (hr:cQ (keys us)) (hp:∀ x∈keys us,1<=x) {h:Int} (h1:1<=h) (hn:h∉keys us) (hall:∀ x,1<=x->x < h->x∈keys us):least us=h:=by
  obtain⟨i1,i2,i3⟩:=mI (keys us) 1 hr hp
  unfold least
  rcases Int.lt_trichotomy (iB 1 (keys us)) h with hlt|he|hgt
  ·exact absurd (hall _ i1 hlt) i2
  ·exact he
  exact absurd (i3 h h1 hgt) hn
theorem TI.empty:TI 1 [] ([]:Used V):=
  ⟨List.Pairwise.nil,by simp [keys],by simp,fun h h1 h2=>by omega,rfl,fun i h1 h2=>by simp at h2,fun a b h1=>by simp at h1⟩
theorem TI.AB {next:Int} {us:Used V} (h:TI next [] us):least us=next:=by
  have hc:=h.count
  simp at hc
  refine wX h.rise (fun x hx=>(h.pos x hx).1) (by omega) (fun hm=>?_) (fun x h1 h2=>(h.all x h1 h2).resolve_right (by simp))
  have:=(h.pos _ hm).2;omega
theorem TI.LJ {next:Int} {us:Used V} (h:TI next [] us) (v:V):TI (next+1) [] (ins next v us):=by
  have hc:=h.count
  simp at hc
  have hn:next∉keys us:=fun hm=>by have:=(h.pos _ hm).2;omega
  refine⟨vg h.rise hn,fun x hx=>?_,by simp,fun x h1 h2=>?_,by rw [iI];simp;omega,fun i h1 h2=>by simp at h2,fun a b h1=>by simp at h1⟩
  ·rcases (kQ next v us x).1 hx with e|e
   ·omega
   have:=h.pos x e;omega
  by_cases e:x=next
  ·exact .inl ((kQ next v us x).2 (.inl e))
  exact .inl ((kQ next v us x).2 (.inr ((h.all x h1 (by omega)).resolve_right (by simp))))
theorem TI.AF {next:Int} {l:List Int} {us:Used V} (h:TI next l us) (hl:0 < l.length):least us=at_ l 0:=by
  have hm:at_ l 0∈l:=r9.2 ⟨0,hl,rfl⟩
  obtain⟨b1,b2,b3⟩:=h.back _ hm
  refine wX h.rise (fun x hx=>(h.pos x hx).1) b1 b3 (fun x h1 h2=>(h.all x h1 (by omega)).resolve_right (fun hx=>?_))
  obtain⟨k,hk,e⟩:=r9.1 hx
  have:=bG.least h.heap k hk
  omega
theorem TI.LK {next:Int} {l l':List Int} {us:Used V} (h:TI next l us) (hl:0 < l.length) (v:V) (hlen:l'.length+1=l.length) (hp:Hp l'.length l') (hi:wV l') (hm:∀ x,x∈l'↔x∈l/\x≠at_ l 0) :
    TI next l' (ins (at_ l 0) v us):=by
  have h0:at_ l 0∈l:=r9.2 ⟨0,hl,rfl⟩
  obtain⟨b1,b2,b3⟩:=h.back _ h0
  have hc:=h.count
  refine⟨vg h.rise b3,fun x hx=>?_,fun x hx=>?_,fun x h1 h2=>?_,by rw [iI];push_cast;omega,hp,hi⟩
  ·rcases (kQ _ v us x).1 hx with e|e
   ·omega
   exact h.pos x e
  ·have hx':=(hm x).1 hx
   have:=h.back x hx'.1
   refine⟨this.1,this.2.1,fun hk=>?_⟩
   rcases (kQ _ v us x).1 hk with e|e
   ·exact hx'.2 e
   exact this.2.2 e
  by_cases e:x=at_ l 0
  ·exact .inl ((kQ _ v us x).2 (.inl e))
  rcases h.all x h1 h2 with h3|h3
  ·exact .inl ((kQ _ v us x).2 (.inr h3))
  exact .inr ((hm x).2 ⟨h3,e⟩)
theorem TI.drop {next h0:Int} {l l':List Int} {us:Used V} (h:TI next l us) (hm:h0∈keys us) (hs:Same (l++[h0]) l') (hp:Hp l'.length l'):TI next l' (del h0 us):=by
  obtain⟨p1,p2⟩:=h.pos _ hm
  have hn:h0∉l:=fun hx=>(h.back _ hx).2.2 hm
  have hlen:=hs.len
  rw [List.length_append,List.length_singleton] at hlen
  have hc:=h.count
  have hd:=o7 h.rise hm
  refine⟨?_,fun x hx=>?_,fun x hx=>?_,fun x h1 h2=>?_,by omega,hp,hs.inj ?_⟩
  ·rw [nN];exact List.Pairwise.filter _ h.rise
  ·rw [nN,List.mem_filter] at hx
   exact h.pos x hx.1
  ·rw [hs.mem,List.mem_append,List.mem_singleton] at hx
   rw [nN,List.mem_filter]
   rcases hx with hx|hx
   ·have:=h.back x hx
    exact⟨this.1,this.2.1,fun hk=>this.2.2 hk.1⟩
   subst hx
   exact⟨p1,p2,fun hk=>by simp at hk⟩
  ·rw [nN,List.mem_filter,hs.mem,List.mem_append,List.mem_singleton]
   rcases h.all x h1 h2 with h3|h3
   ·by_cases e:x=h0
    ·exact .inr (.inr e)
    exact .inl ⟨h3,by simpa using e⟩
   exact .inr (.inl h3)
  intro a b ha hb e
  rw [List.length_append,List.length_singleton] at ha hb
  have g:∀ k,k < l.length->at_ (l++[h0]) k=at_ l k:=fun k hk=>by
    unfold at_;rw [List.getD_eq_getElem?_getD,List.getD_eq_getElem?_getD,List.getElem?_append_left hk]
  have g2:at_ (l++[h0]) l.length=h0:=by unfold at_;simp [List.getD_eq_getElem?_getD]
  have inl:∀ k,k < l.length->at_ l k≠h0:=fun k hk e=>hn (e ▸ r9.2 ⟨k,hk,rfl⟩)
  by_cases ha':a < l.length
  ·by_cases hb':b < l.length
   ·rw [g a ha',g b hb'] at e;exact h.inj a b ha' hb' e
   obtain rfl:b=l.length:=by omega
   rw [g a ha',g2] at e;exact absurd e (inl a ha')
  obtain rfl:a=l.length:=by omega
  by_cases hb':b < l.length
  ·rw [g b hb',g2] at e;exact absurd e.symm (inl b hb')
  omega
end Go.Proofs.YtidjcblbdmfalaaGreat.aE
end
namespace Go.Proofs.YtidjcblbdmfalaaGreat
section
open Go.RowKit bG aE Go.Maps
def aW (us:Used Value):Lit->Option Value
  | .int .i64 h=>aE.get us h
  | _=>none
theorem Cm {us:Used Value} {h:Int} (hn:h∉keys us) (v:Value):upd (aW us) (.int .i64 h) (some v)=aW (ins h v us):=by
  funext x
  unfold upd aW
  cases x with
  | int k n=>
    by_cases hk:k=.i64
    ·subst hk
     simp only [Lit.sameKey,true_and,decide_eq_true_eq]
     rw [rM hn]
    have e:(Lit.int k n).sameKey (.int .i64 h)=false:=by simp [Lit.sameKey,hk]
    rw [e]
    cases k<;>first|rfl|exact absurd rfl hk
  | _=>rfl
theorem GN {us:Used Value} {h:Int}:upd (aW us) (.int .i64 h) none=aW (del h us):=by
  funext x
  unfold upd aW
  cases x with
  | int k n=>
    by_cases hk:k=.i64
    ·subst hk
     simp only [Lit.sameKey,true_and,decide_eq_true_eq]
     rw [uj]
    have e:(Lit.int k n).sameKey (.int .i64 h)=false:=by simp [Lit.sameKey,hk]
    rw [e]
    cases k<;>first|rfl|exact absurd rfl hk
  | _=>rfl
structure Tw (TT:TypeId) (t m base:Nat) (v:Value) (l:List Int) (next most ar:Int) (us:Used Value) (w:World):Prop where
  blk:w.heap[t]?=some (.cells #[.int .i64 most,.int .i64 ar,.map (some m),v,.int .i64 next] TT (0,0))
  map:fq Tryz.prog 3 w m (aW us) us.length
  own:w.ownsRow base 3 1 v l.length (ints l)
  ti:TI next l us
  q6:(us.length:Int)<=most
  q8:most<=1024
  rf:next<=most+1
  tt:TT≠3
  bt:base<=t
  bm:base<=m
  sY:0<=ar/\ar<=1024
def VP (TT:TypeId) (t m base:Nat) (row:Option Nat) (most ar:Int) (us:Used Value) (w:World):Prop:=
  ∃ v l next,Tw TT t m base v l next most ar us w/\v.ownBlock=row
section tab
variable {TT:TypeId} {t m base:Nat} {v:Value} {l:List Int} {next most ar:Int} {us:Used Value} {w w':World} {row:Option Nat}
end tab
end
section
open Go.RowKit bG aE Go.Maps
theorem Spec.Sg {P:Program} {β:Bs} {f:FuncId} {args:Array Value} {pre:List HP} {post:Value->List HP->Prop}
    (h:∀ F w,(Proofs.YtidjcblbdmfalaaGreat.fM pre).h F w->Calls P f args w fun e w'=>∃ v l,e=.returned v/\post v l/\∃ F',(Proofs.YtidjcblbdmfalaaGreat.fM l).h F' w'/\Step F w F' w'):Spec P β f args pre post:=by
  intro R w hS
  have h1:Sat β ([.abs (Proofs.YtidjcblbdmfalaaGreat.fM pre)]++[.abs R]) w:=Sat.turn (Sat.turn hS).fM
  have h2:Spec P β f args [.abs (Proofs.YtidjcblbdmfalaaGreat.fM pre)] (fun v l=>∃ l0,post v l0/\l=[.abs (Proofs.YtidjcblbdmfalaaGreat.fM l0)]):=
    Spec.Uj (fun F w hF=>(h F w hF).mono fun _ _ ⟨v,l,e,hp,hF'⟩=>⟨v,.abs (Proofs.YtidjcblbdmfalaaGreat.fM l),e,⟨l,hp,rfl⟩,hF'⟩)
  refine (h2 R w h1).mono ?_
  rintro e w' ⟨v,l,he,⟨l0,hp,rfl⟩,uf⟩
  exact⟨v,l0,he,hp,Sat.turn (Sat.turn uf).p8⟩
theorem DY {p q:HP} {F:Fp} {w:World}:(fM [p,q]).h F w↔∃ F1 F2,p.h F1 w/\q.h F2 w/\Apart F1 F2/\∀ k,F k↔F1 k\/F2 k:=by
  constructor
  ·rintro⟨φ,h1,h2,h3⟩
   refine⟨φ 0,φ 1,h1 0 p rfl,h1 1 q rfl,h2 0 1 (by simp) (by simp) (by decide),fun k=>(h3 k).trans ⟨fun ⟨i,hi,hk⟩=>?_,fun h=>?_⟩⟩
   ·have hi:i < 2:=hi
    rcases (by omega:i=0\/i=1) with rfl|rfl
    ·exact .inl hk
    exact .inr hk
   rcases h with h|h
   ·exact⟨0,by simp,h⟩
   exact⟨1,by simp,h⟩
  rintro⟨F1,F2,h1,h2,h3,h4⟩
  refine⟨fun i=>if i=0 then F1 else F2,fun i x hx=>?_,fun i j hi hj hne=>?_,fun k=>(h4 k).trans ⟨fun h=>?_,fun ⟨i,hi,hk⟩=>?_⟩⟩
  ·match i,hx with
   | 0,hx=>cases hx;exact h1
   | 1,hx=>cases hx;exact h2
  ·have hi:i < 2:=hi
   have hj:j < 2:=hj
   rcases (by omega:(i=0/\j=1)\/(i=1/\j=0)) with ⟨rfl,rfl⟩|⟨rfl,rfl⟩
   ·exact h3
   exact h3.symm
  ·rcases h with h|h
   ·exact⟨0,by simp,h⟩
   exact⟨1,by simp,h⟩
  have hi:i < 2:=hi
  rcases (by omega:i=0\/i=1) with rfl|rfl
  ·exact .inl hk
  exact .inr hk
theorem Sat.RI {β:Bs} {l:List HP} {w:World} {A:cu} {ι:Type} {Φ:ι->Prop} {L:ι->List HP} (h:Sat β (l++[.abs A]) w) (hA:∀ F,A.h F w->∃ i,Φ i/\(Proofs.YtidjcblbdmfalaaGreat.fM (L i)).h F w):∃ i,Φ i/\Sat β (l++L i) w:=by
  obtain⟨F,hF⟩:=h.get (i:=l.length) (p:=.abs A) (by simp)
  have h0:=h
  obtain⟨ho,φ,h1,h2,h3⟩:=h
  obtain⟨i,hi,hB⟩:=hA _ (h1 l.length (.abs A) (by simp))
  refine⟨i,hi,Sat.p8 ⟨ho,φ,fun j p hp=>?_,fun j hj=>h2 j (by simpa using hj),fun a b ha hb=>h3 a b (by simpa using ha) (by simpa using hb)⟩⟩
  by_cases e:j < l.length
  ·rw [List.getElem?_append_left e] at hp
   exact h1 j p (by rw [List.getElem?_append_left e];exact hp)
  have hj:j=l.length:=by have:=bw hp;simp at this;omega
  subst hj
  simp at hp
  subst hp
  exact hB
theorem Sat.PJ {β:Bs} {l R:List HP} {w:World} {A:cu} (h:Sat β (l++R) w) (hA:∀ F,(Proofs.YtidjcblbdmfalaaGreat.fM R).h F w->A.h F w):Sat β (l++[.abs A]) w:=by
  obtain⟨ho,φ,h1,h2,h3⟩:=h.fM
  refine⟨ho,φ,fun j p hp=>?_,fun j hj=>h2 j (by simpa using hj),fun a b ha hb=>h3 a b (by simpa using ha) (by simpa using hb)⟩
  by_cases e:j < l.length
  ·rw [List.getElem?_append_left e] at hp
   exact h1 j p (by rw [List.getElem?_append_left e];exact hp)
  have hj:j=l.length:=by have:=bw hp;simp at this;omega
  subst hj
  simp at hp
  subst hp
  exact hA _ (h1 l.length (.abs (Proofs.YtidjcblbdmfalaaGreat.fM R)) (by simp))
section rules
variable {P:Program} {β:Bs} {N:Nat} {ops:Array Oper} {k:Nat} {fr:Fr} {hps:List HP} {Q:Post} {c:Code} {e:Exit}
theorem af.zy {ι:Type} {Φ:ι->Prop} {hp:ι->List HP} (h:∀ w,Sat β hps w->∃ i,Φ i/\Sat β (hp i) w) (K:∀ i,Φ i->af P β N c fr (hp i) Q):af P β N c fr hps Q:=fun junk w hS=>let ⟨i,hi,dg⟩:=h w hS;K i hi junk w dg
end rules
theorem vS {w:World} {t j:Nat} {cs:List Value} {T:TypeId} {u:Value} (h:w.heap[t]?=some (.cells ⟨cs⟩ T (0,0))):(w.setCell ⟨t,j,none⟩ u).heap[t]?=some (.cells ⟨cs.set j u⟩ T (0,0)):=by
  simp [World.setCell,Array.getElem?_modify,h,Array.setIfInBounds_def]
  exact fun h=>(List.set_eq_of_length_le h).symm
theorem PK {β:Bs} {T:TypeId} {a b c e:Value} {t g cap n:Nat} {l:List Int} (hl:l.length=n+1) (hp:Hp (n+1) l) (hi:wV l) (hm:n+1<=1048576) :
    Spec Tryz.prog β 203 #[.iface 256 (.pointer (some ⟨t,3,none⟩))] [.blk t [a,b,c,.slice (some ⟨g,0,none⟩) l.length cap,e] T,.abs (aH 3 1 (some ⟨g,0,none⟩) l.length cap (ints l))]
      (fun v r=>v=.iface 3 (.int .i64 (at_ l 0))/\∃ l':List Int,l'.length=n/\Hp n l'/\wV l'/\(∀ x,x∈l'↔x∈l/\x≠at_ l 0)/\r=[.blk t [a,b,c,.slice (some ⟨g,0,none⟩) n cap,e] T,.abs (aH 3 1 (some ⟨g,0,none⟩) n cap (ints l'))]):=by
  refine Spec.Sg (fun F w h=>?_)
  obtain⟨F1,F2,⟨h1,h2⟩,hr,hap,hF⟩:=DY.1 h
  have hr:(aH 3 1 (some ⟨g,0,none⟩) l.length cap (ints l)).h F2 w:=hr
  obtain⟨hr1,hr2⟩:=hr
  have hg:F2 g:=(hr2 g).2 rfl
  have hne:t≠g:=fun e=>hap t ((h2 t).2 rfl) (e ▸ hg)
  have hc:w.cell? ⟨t,3,none⟩=some (.slice (some ⟨g,0,none⟩) l.length cap)/\w.frozen? ⟨t,3,none⟩=false:=gu h1 rfl rfl rfl
  have hW:HW t 3 g cap 0 l w:=⟨hc.1,hr1,hne,lt_of_some h1⟩
  refine (LH t 3 g cap 0 n l w hW hl hp hi hm hc.2).mono ?_
  rintro e' w' ⟨rfl,l',w1,g1,g2,g3,g4,g5,g6,rfl⟩
  have h1':w1.heap[t]?=some (.cells ⟨[a,b,c,.slice (some ⟨g,0,none⟩) l.length cap,e]⟩ T (0,0)):=(g6.block t (lt_of_some h1) (fun e=>hne e)).trans h1
  have hks:Keeps (·=t) w1 (w1.setCell ⟨t,3,none⟩ (.slice (some ⟨g,0,none⟩) n cap)):=(Keeps.refl (·=t) w1).setCell (p:=⟨t,3,none⟩) (.inr rfl) _
  refine⟨_,_,rfl,⟨rfl,l',g1,g2,g3,g4,rfl⟩,F,DY.2 ⟨F1,F2,⟨vS h1',h2⟩,⟨hks.ownsRow g5 (fun k hk e=>?_),fun k=>?_⟩,hap,hF⟩,⟨?_,fun _ h=>.inl h⟩⟩
  ·cases hk;exact hne e.symm
  ·rw [hr2 k];simp [Value.ownBlock]
  exact (g6.mono (S':=F) (fun k _ e=>(hF k).2 (.inr (e ▸ hg)))).trans (hks.mono (fun k _ e=>(hF k).2 (.inl ((h2 k).2 e))))
theorem Oy {β:Bs} {T:TypeId} {a b c e:Value} {t cap:Nat} {A:Option Addr} {l:List Int} (x:Int) (hp:Hp l.length l) (hm:l.length+1<=1048576) :
    Spec Tryz.prog β 169 #[.iface 256 (.pointer (some ⟨t,3,none⟩)),.iface 3 (.int .i64 x)] [.blk t [a,b,c,.slice A l.length cap,e] T,.abs (aH 3 1 A l.length cap (ints l))]
      (fun v r=>v=.tuple #[]/\∃ (g c':Nat) (l':List Int),Same (l++[x]) l'/\Hp l'.length l'/\r=[.blk t [a,b,c,.slice (some ⟨g,0,none⟩) l'.length c',e] T,.abs (aH 3 1 (some ⟨g,0,none⟩) l'.length c' (ints l'))]):=by
  refine Spec.Sg (fun F w h=>?_)
  obtain⟨F1,F2,⟨h1,h2⟩,hr,hap,hF⟩:=DY.1 h
  have hr:(aH 3 1 A l.length cap (ints l)).h F2 w:=hr
  obtain⟨hr1,hr2⟩:=hr
  have hc:w.cell? ⟨t,3,none⟩=some (.slice A l.length cap)/\w.frozen? ⟨t,3,none⟩=false:=gu h1 rfl rfl rfl
  have hne:(Value.slice A l.length cap).ownBlock≠some t:=fun e=>hap t ((h2 t).2 rfl) ((hr2 t).2 e)
  refine (J1 t 3 0 (.slice A l.length cap) l x w hc.1 hc.2 hr1 hne hm (Nat.zero_le _) hp (lt_of_some h1)).mono ?_
  rintro e' w' ⟨rfl,g,c',l',g1,g2,g3,g4,w1,g5,g6⟩
  have GP:t≠g:=g3.ne
  have hlen:l'.length=l.length+1:=by have:=g1.len;simp at this;omega
  have h1':w1.heap[t]?=some (.cells ⟨[a,b,c,.slice A l.length cap,e]⟩ T (0,0)):=(g5.block t (lt_of_some h1) hne).trans h1
  have PL:=vS (j:=3) (u:=.slice (some ⟨g,0,none⟩) (l.length+1) c') h1'
  have Tx:w'.heap[t]?=some (.cells ⟨[a,b,c,.slice (some ⟨g,0,none⟩) l'.length c',e]⟩ T (0,0)):=by
    rw [hlen];exact (g6.block t (lt_of_some PL) GP).trans PL
  have hks:Keeps (·=t) w1 (w1.setCell ⟨t,3,none⟩ (.slice (some ⟨g,0,none⟩) (l.length+1) c')):=(Keeps.refl (·=t) w1).setCell (p:=⟨t,3,none⟩) (.inr rfl) _
  refine⟨_,_,rfl,⟨rfl,g,c',l',g1,g2,rfl⟩,fun k=>F1 k\/k=g,DY.2 ⟨F1,fun k=>k=g,⟨Tx,h2⟩,⟨g3.own,fun k=>?_⟩,fun k hk e=>GP (((h2 k).1 hk).symm.trans e),fun k=>Iff.rfl⟩,⟨?_,fun k hk=>?_⟩⟩
  ·simp [Value.ownBlock,eq_comm]
  ·have k1:Keeps F w w1:=g5.mono (fun k _ hk=>(hF k).2 (.inr ((hr2 k).2 hk)))
   have k2:Keeps F w (w1.setCell ⟨t,3,none⟩ (.slice (some ⟨g,0,none⟩) (l.length+1) c')):=k1.trans (hks.mono (fun k _ e=>(hF k).2 (.inl ((h2 k).2 e))))
   exact k2.andThen g6 (fun i hi e=>by
     rcases g4 with g4|g4
     ·exact (hF i).2 (.inr ((hr2 i).2 (e ▸ g4)))
     subst e;omega)
  rcases hk with hk|rfl
  ·exact .inl ((hF k).2 (.inl hk))
  rcases g4 with g4|g4
  ·exact .inl ((hF _).2 (.inr ((hr2 _).2 g4)))
  exact .inr g4
structure fS (next:Int) (l:List Int) (us:Used Value) (most ar:Int):Prop where
  ti:TI next l us
  q6:(us.length:Int)<=most
  q8:most<=1024
  rf:next<=most+1
  vk:next<=ar+1
  sY:0<=ar/\ar<=1024
theorem fS.EG {next:Int} {l:List Int} {us:Used Value} {most ar:Int} (h:fS next l us most ar):1<=aE.least us/\aE.least us<=next/\aE.least us∉keys us/\next<=1025/\1<=next/\us.length<=1024/\l.length<=1024:=by
  obtain⟨h1,h2,h3⟩:=mI (keys us) 1 h.ti.rise (fun x hx=>(h.ti.pos x hx).1)
  have hc:=h.ti.count
  have m0:=h.q6
  have m1:=h.q8
  have n1:=h.rf
  refine⟨h1,?_,h2,by omega,by omega,by omega,by omega⟩
  rcases Int.lt_or_le next (aE.least us) with h4|h4
  ·have:=h3 next (by omega) h4
   have:=(h.ti.pos _ this).2
   omega
  exact h4
theorem EH:aW []=fun _=>none:=by
  funext x
  unfold aW
  split<;>rfl
theorem Da {us:Used Value} {h:Int} (hn:h∉keys us):aW us (.int .i64 h)=none:=get_none.2 hn
structure TX where
  m:Nat
  A:Option Addr
  c:Nat
  l:List Int
  next:Int
def kR (TT:TypeId) (t:Nat) (most ar:Int) (us:Used Value) (x:TX):List HP:=
  [.blk t [.int .i64 most,.int .i64 ar,.map (some x.m),.slice x.A x.l.length x.c,.int .i64 x.next] TT,.abs (aJ Tryz.prog 3 x.m (aW us) us.length),.abs (aH 3 1 x.A x.l.length x.c (ints x.l))]
def bS (TT:TypeId) (t:Nat) (most ar:Int) (us:Used Value):cu where
  h F w:=∃ x:TX,fS x.next x.l us most ar/\(fM (kR TT t most ar us x)).h F w
  lt:=fun ⟨_,_,h⟩ k hk=>cu.lt _ h k hk
  st:=fun ⟨x,h1,h⟩ _ _ hk hn=>⟨x,h1,cu.st _ h hk hn⟩
theorem Sat.o8 {β:Bs} {TT:TypeId} {t:Nat} {most ar:Int} {us:Used Value} {l:List HP} {w:World} (h:Sat β (l++[.abs (bS TT t most ar us)]) w):∃ x:TX,fS x.next x.l us most ar/\Sat β (l++kR TT t most ar us x) w:=
  h.RI (fun _ h=>h)
theorem Sat.kS {β:Bs} {TT:TypeId} {t:Nat} {most ar:Int} {us:Used Value} {l:List HP} {w:World} (x:TX) (hx:fS x.next x.l us most ar) (h:Sat β (l++kR TT t most ar us x) w):Sat β (l++[.abs (bS TT t most ar us)]) w:=
  h.PJ (fun _ h=>⟨x,hx,h⟩)
end
section
open Go.RowKit Go.Maps Go.Sort Go.Shelf bG aE
theorem gS {z:Int} (h:(Lit.int .i64 z).wf=true):keyOf Tryz.prog 3 (.int .i64 z)=some (.int .i64 z):=
  keyOf_int_mk Tryz.underlying3 h
theorem Db:∀ {l m:List Int},l.Pairwise (· < ·)->m.Pairwise (· < ·)->(∀ z,z∈l↔z∈m)->l=m
  | [],[],_,_,_=>rfl
  | [],b::m,_,_,h=>by have:=(h b).2 (List.mem_cons_self ..);cases this
  | a::l,[],_,_,h=>by have:=(h a).1 (List.mem_cons_self ..);cases this
  | a::l,b::m,hl,hm,h=>by
    have hl':=List.pairwise_cons.1 hl
    have hm':=List.pairwise_cons.1 hm
    have e:a=b:=by
      rcases List.mem_cons.1 ((h a).1 (List.mem_cons_self ..)) with e|e
      ·exact e
      rcases List.mem_cons.1 ((h b).2 (List.mem_cons_self ..)) with e2|e2
      ·exact e2.symm
      have:=hm'.1 a e;have:=hl'.1 b e2;omega
    subst e
    congr 1
    refine Db hl'.2 hm'.2 (fun z=>⟨fun hz=>?_,fun hz=>?_⟩)
    ·rcases List.mem_cons.1 ((h z).1 (List.mem_cons_of_mem _ hz)) with e|e
     ·have:=hl'.1 z hz;omega
     exact e
    rcases List.mem_cons.1 ((h z).2 (List.mem_cons_of_mem _ hz)) with e|e
    ·have:=hm'.1 z hz;omega
    exact e
theorem Ir (x y:Int):(if y > x then y else x)=max x y:=by
  rw [Int.max_def];split<;>split<;>omega
theorem Nz (x y:Int):(if y < x then y else x)=min x y:=by
  rw [Int.min_def];split<;>split<;>omega
theorem PN (m:Nat):AnyZI.SortsIn Tryz.prog Tryz.sortedI_ren Fence.wide m:=
  ⟨fun blk off cap ss W hH hblk hsz=>callsIn_wide.2 (AnyM.slices_Sort_int Tryz.sortI blk off cap ss W hH hblk hsz),
   fun p cap W=>callsIn_wide.2 (AnyM.slices_Sort_int_none Tryz.sortI p cap W)⟩
def AJ (bk:Nat):Value:=.func (.func 106) #[] #[.pointer (some ⟨bk,0,none⟩)]
theorem EI {β:Bs} (mb:Option Nat):Spec Tryz.prog β 67 #[.map mb] [] (fun v l=>∃ bk,v=AJ bk/\l=[.blk bk [.map mb] 120]):=
  Spec.D7 fun W _=>by
    have h:CallsIn Fence.wide 5 Tryz.prog 67 #[.map mb] W fun e w'=>e=.returned (AJ W.heap.size)/\w'=W.alloc (.cells #[.map mb] 120):=AnyZI.keys_in Tryz.keysI Fence.wide 5 trivial rfl mb W
    refine ((callsIn_wide (n:=5)).1 h).mono ?_
    rintro e w' ⟨rfl,rfl⟩
    refine⟨_,_,rfl,⟨W.heap.size,rfl,rfl⟩,(Keeps.refl _ _).alloc _,fun k=>k=W.heap.size,⟨?_,fun k=>Iff.rfl⟩,fun k hk=>Nat.le_of_eq hk.symm⟩
    show (W.heap.push _)[W.heap.size]?=_
    simp
structure KeysOf (f:Lit->Option Value) (ss:List Int):Prop where
  mem:∀ z,z∈ss↔(f (.int .i64 z)).isSome=true
  sorted:ss.Pairwise (· < ·)
theorem Iu {w:World} {b n:Nat} {K:TypeId} {f:Lit->Option Value} {D:DataW Value} (hK:Tryz.prog.underlying K=some (.int .i64)) (L:Keyed Tryz.prog K) (hown:w.ownsMap Tryz.prog K qU b n D) (hf:∀ kl,Maps.has D kl=(f kl).isSome) {ss:List Int} (hp:ss.Perm (intKeys D)) :
    KeysOf f (ss.mergeSort (fun x y=>decide (x<=y))):=by
  obtain⟨es,hD,hpw,_⟩:=hown.entries L
  obtain⟨es',hD',hko⟩:=hown.keysOf
  obtain rfl:es=es':=by rw [hD] at hD';simpa using hD'
  have hk:∀ p∈es,∃ x,p.1=.int .i64 x:=fun p hp=>by
    obtain⟨v,hv⟩:=hko p hp
    obtain⟨x,_,h,_⟩:=keyOf_i64 hK hv
    exact⟨x,h⟩
  have hmem:∀ z,z∈intKeys D↔(f (.int .i64 z)).isSome=true:=fun z=>by
    rw [← hf,hD]
    show z∈es.map (fun p=>Go.intOf p.1)↔es.any (fun p=>p.1.sameKey (.int .i64 z))=true
    rw [List.mem_map,List.any_eq_true]
    refine⟨fun ⟨p,hp,e⟩=>⟨p,hp,?_⟩,fun ⟨p,hp,e⟩=>⟨p,hp,?_⟩⟩
    ·obtain⟨x,hx⟩:=hk p hp
     rw [hx] at e ⊢
     have e:x=z:=e
     simp [Lit.sameKey,e]
    obtain⟨x,hx⟩:=hk p hp
    rw [hx] at e ⊢
    show x=z
    simpa [Lit.sameKey] using e
  have hnd:(intKeys D).Nodup:=by
    rw [hD]
    show (es.map fun p=>Go.intOf p.1).Nodup
    rw [List.nodup_iff_pairwise_ne,List.pairwise_map]
    refine hpw.imp_of_mem (fun {p q} hp hq hne e=>hne ?_)
    obtain⟨x,hx⟩:=hk p hp
    obtain⟨y,hy⟩:=hk q hq
    rw [hx,hy] at e ⊢
    have e:x=y:=e
    rw [e]
  have tr:∀ a b c:Int,decide (a<=b)=true->decide (b<=c)=true->decide (a<=c)=true:=fun a b c h1 h2=>by simp only [decide_eq_true_eq] at *;omega
  have to:∀ a b:Int,(decide (a<=b) || decide (b<=a))=true:=fun a b=>by simp only [Bool.or_eq_true,decide_eq_true_eq];omega
  have hperm:=(List.mergeSort_perm ss (fun x y=>decide (x<=y))).trans hp
  refine⟨fun z=>by rw [hperm.mem_iff,hmem],?_⟩
  have h1:=List.pairwise_mergeSort tr to ss
  have h2:(ss.mergeSort (fun x y=>decide (x<=y))).Nodup:=hperm.nodup_iff.2 hnd
  rw [List.nodup_iff_pairwise_ne] at h2
  refine (h1.and h2).imp (fun {a b} h=>?_)
  have h3:=h.1
  have h4:=h.2
  simp only [decide_eq_true_eq] at h3
  omega
theorem AK {β:Bs} (b bk n:Nat) (f:Lit->Option Value) (hn:n<=16777216) :
    Spec Tryz.prog β 66 #[AJ bk] [.abs (aJ Tryz.prog 3 b f n),.blk bk [.map (some b)] 120] (fun v l=>∃ A cap ss,v=.slice A ss.length cap/\KeysOf f ss/\ss.length=n ∧
      l=[.abs (aJ Tryz.prog 3 b f n),.blk bk [.map (some b)] 120,.abs (aH 3 1 A ss.length cap (ints ss))]):=by
  intro R w hS
  obtain⟨F1,h1⟩:=hS.get (i:=0) (p:=.abs (aJ Tryz.prog 3 b f n)) rfl
  obtain⟨F2,h2⟩:=hS.get (i:=1) (p:=.blk bk [.map (some b)] 120) rfl
  obtain⟨D,hown,hsz,hhas,_⟩:=h1.1
  have hcell:w.cell? ⟨bk,0,none⟩=some (.map (some b)):=(gu h2.1 rfl rfl rfl).1
  have hseq:SeqGives Fence.wide 2 Tryz.prog 106 #[.pointer (some ⟨bk,0,none⟩)] encZ (fun ss=>ss.Perm (intKeys D)) (Maps.size D) w:=
    AnyZI.keys_gives (ρ:=Tryz.keysI_ren) { Tryz.keysI with } Fence.wide _ trivial rfl (by omega) bk b n D w (lt_of_some h2.1) hcell hown
  have cS:=AnyZI.sorted_in Tryz.sortedI Fence.wide 5 trivial trivial trivial trivial rfl (by omega) (PN _) (enters_of Tryz.func105 (by kernel_rfl) rfl) 106 #[.pointer (some ⟨bk,0,none⟩)] trivial (enters_of Tryz.func106 (by kernel_rfl) rfl) _ _ (by rw [hsz];unfold maxLen;omega) (by rw [hsz];omega) _ hseq
  change CallsIn _ _ Tryz.prog 66 _ _ _ at cS
  refine ((callsIn_wide (n:=5)).1 cS).mono ?_
  rintro e w' ⟨v,ss,rfl,hp,hrow,hnil,hb⟩
  have hlen:(ss.mergeSort (fun x y=>decide (x<=y))).length=ss.length:=List.length_mergeSort ss
  have hkeys:=Iu Tryz.underlying3 dQ hown hhas hp
  have wu:∃ A cap,v=.slice A ss.length cap:=by
    rcases hrow.2 with ⟨e1,e2⟩|⟨g,cp,cur,e1,_⟩
    ·exact⟨none,0,by rw [e1,e2]⟩
    exact⟨_,cp,e1⟩
  obtain⟨A,cap,rfl⟩:=wu
  have hn1:ss.length=n:=by
    rw [hp.length_eq,← hsz]
    obtain⟨es,hD,_⟩:=hown.entries dQ
    rw [hD]
    exact List.length_map ..
  have hq:Sat β ([.abs (aJ Tryz.prog 3 b f n),.blk bk [.map (some b)] 120,.abs R]++[.abs (aH 3 1 A ss.length cap (ints (ss.mergeSort (fun x y=>decide (x<=y)))))]) w':=by
    refine Sat.new (F:=fun k=>(Value.slice A ss.length cap).ownBlock=some k) hS ⟨?_,fun k=>Iff.rfl⟩ ⟨hb.os,hb.tape,hb.output,hb.size,fun k hk _=>hb.block k hk⟩ (fun k hk=>(hrow.lt k hk).1)
    refine⟨hrow.1,?_⟩
    rcases hrow.2 with h|⟨g,cp,cur,e1,_,h3,h4⟩
    ·exact .inl h
    exact .inr ⟨g,cp,cur,e1,Nat.zero_le _,h3,h4⟩
  refine⟨_,[.abs (aJ Tryz.prog 3 b f n),.blk bk [.map (some b)] 120,.abs (aH 3 1 A ss.length cap (ints (ss.mergeSort (fun x y=>decide (x<=y)))))],rfl,⟨A,cap,ss.mergeSort (fun x y=>decide (x<=y)),by rw [hlen],hkeys,by rw [hlen];exact hn1,by rw [hlen]⟩,?_⟩
  exact hq.pick (idx:=[0,1,3,2]) rfl rfl
end
section
open Go.RowKit bG aE Go.Maps
attribute [local irreducible] aj aP af ai
theorem GQ {us:Used Value} {ss:List Int} (hr:aE.cQ (keys us)) (h:KeysOf (aW us) ss):ss=keys us:=by
  refine Db h.sorted hr (fun z=>?_)
  rw [h.mem]
  show (aE.get us z).isSome=true↔z∈keys us
  refine⟨fun h=>?_,fun h=>?_⟩
  ·obtain⟨x,hx⟩:=Option.isSome_iff_exists.1 h;exact get_some hx
  cases hg:aE.get us z with
  | some x=>rfl
  | none=>exact absurd h (get_none.1 hg)
theorem EJ {β:Bs} (most:Int) :
    Spec Tryz.prog β 62 #[vI (most)] [] (fun v l=>∃ t,v=vP t/\l=[.abs (bS 197 t (min (max most 0) 1024) 0 [])]):=by
 refine Spec.enter Tryz.func62 rfl Tryz.ntmps62 (Nat.le_of_ble_eq_true rfl) (fun R=>?_)
 refine SR (gK 1 [] [] ?_)
 refine NS (gK 3 [(5,vI (min (max most 0) 1024))] [(1,p_ ⟨[],none,none,none,some (vI (max most 0))⟩ [(Value.int .i64 (if 0 > most then 0 else most))=(.int .i64 (max most 0))] ⟨congrArg (Value.int .i64) (Ir _ _),trivial⟩),(2,p_ ⟨[],none,none,none,some (vI (min (max most 0) 1024))⟩ [(Value.int .i64 (if 1024 < max most 0 then 1024 else max most 0))=(.int .i64 (min (max most 0) 1024))] ⟨congrArg (Value.int .i64) (Nz _ _),trivial⟩)] ?_)
 refine aj.lC (d:=(some 6)) (t:=120) (fun _=>by kernel_rfl) Tryz.prog rfl 3 (fun m1=>?_)
 refine gN 3 (fun b2=>[(2,vP b2)]) (fun _=>[]) (fun _=>[]) (fun b2=>.blk b2 [vI (min (max most 0) 1024),vI 0,.map (some m1),.slice none (0) (0),vI 1] 197) (fun b2=>?_)
 refine NN (af.ret (ai.mem (cF:=[.abs R,.abs (aJ Tryz.prog 3 m1 (fun _=>none) 0),.blk b2 [vI (min (max most 0) 1024),vI 0,.map (some m1),.slice none (0) (0),vI 1] 197,.abs (aH 3 1 none 0 0 ([]))]) (fun w hS=>hS.jO (e:=3) (size:=1)) ?_))
 refine ai.mem (cF:=[.abs R,.abs (bS 197 b2 (min (max most 0) 1024) 0 [])]) (fun w hS=>Sat.kS (l:=[.abs R]) ⟨m1,none,0,[],1⟩ ⟨TI.empty,by show ((0:Nat):Int)<=min (max most 0) 1024;omega,by omega,by show (1:Int)<=min (max most 0) 1024+1;omega,by show (1:Int)<=0+1;decide,by decide⟩ (by rw [← EH] at hS;exact hS.pick (idx:=[0,2,1,3]) (l':=[.abs R]++kR 197 b2 (min (max most 0) 1024) 0 [] ⟨m1,none,0,[],1⟩) rfl rfl)) ?_
 exact RT (vP b2) [1,0] (⟨b2,rfl,rfl⟩)
theorem J2 {β:Bs} (t:Nat) (most ar:Int) (us:Used Value) :
    Spec Tryz.prog β 71 #[vP t] [.abs (bS 197 t most ar us)] (fun v l=>v=vI ar/\l=[.abs (bS 197 t most ar us)]):=by
 refine Spec.enter Tryz.func71 rfl Tryz.ntmps71 (Nat.le_of_ble_eq_true rfl) (fun R=>?_)
 refine af.seq (af.zy (Φ:=fun x:TX=>fS x.next x.l us most ar) (hp:=fun x=>[.abs R]++kR 197 t most ar us x) (fun w hS=>(hS.pick (idx:=[1,0]) (l':=[.abs R]++[.abs (bS 197 t most ar us)]) rfl rfl).o8) (fun x hT=>?_))
 obtain⟨m,A,c,l,next⟩:=x
 replace hT:fS next l us most ar:=hT
 have hb:=hT.EG
 have hm0:=hT.q6
 have hm1:=hT.q8
 have hn1:=hT.rf
 have hn2:=hT.vk
 have EK:=hT.sY
 have GR:=hT.ti.count
 show af _ _ _ _ _ [.abs R,.blk t [vI (most),vI (ar),.map (some m),.slice A (l.length) (c),vI (next)] 197,.abs (aJ Tryz.prog 3 m (aW us) us.length),.abs (aH 3 1 A l.length c (ints l))] _
 refine af.region (gK 1 [] [] ?_)
 refine NS (gK 5 [(2,vI (ar))] [(3,a_ 1 t)] ?_)
 refine NN (af.ret (ai.mem (cF:=[.abs R,.abs (bS 197 t most ar us)]) (fun w hS=>Sat.kS (l:=[.abs R]) ⟨m,A,c,l,next⟩ (show fS (next) l (us) most (ar) from hT) (hS.pick (idx:=[0,1,2,3]) (l':=[.abs R]++kR 197 t most (ar) (us) ⟨m,A,c,l,next⟩) rfl rfl)) ?_))
 exact RT (vI (ar)) [1,0] (⟨rfl,rfl⟩)
theorem kT {β:Bs} (t:Nat) (most ar:Int) (us:Used Value) (h:Int) (hw:(Lit.int .i64 h).wf=true) (x:Value) (hg:aE.get us h=some x) :
    Spec Tryz.prog β 132 #[vP t,vI (h)] [.abs (bS 197 t most ar us)] (fun v l=>v=.tuple #[x,vI 0]/\l=[.abs (bS 197 t most ar us)]):=by
 refine Spec.enter Tryz.func132 rfl Tryz.ntmps132 (Nat.le_of_ble_eq_true rfl) (fun R=>?_)
 refine af.seq (af.zy (Φ:=fun x:TX=>fS x.next x.l us most ar) (hp:=fun x=>[.abs R]++kR 197 t most ar us x) (fun w hS=>(hS.pick (idx:=[1,0]) (l':=[.abs R]++[.abs (bS 197 t most ar us)]) rfl rfl).o8) (fun x hT=>?_))
 obtain⟨m,A,c,l,next⟩:=x
 replace hT:fS next l us most ar:=hT
 have hb:=hT.EG
 have hm0:=hT.q6
 have hm1:=hT.q8
 have hn1:=hT.rf
 have hn2:=hT.vk
 have EK:=hT.sY
 have GR:=hT.ti.count
 show af _ _ _ _ _ [.abs R,.blk t [vI (most),vI (ar),.map (some m),.slice A (l.length) (c),vI (next)] 197,.abs (aJ Tryz.prog 3 m (aW us) us.length),.abs (aH 3 1 A l.length c (ints l))] _
 refine af.region (gK 2 [] [] ?_)
 refine NS (gK 5 [(12,.map (some m)),(13,vI (h))] [(3,a_ 1 t)] ?_)
 refine aj.sR 2 (d:=(some 14)) (t:=120) (K:=3) (E:=124) (b:=m) (n:=us.length) (f:=(aW us)) (x:=(.tmp 12)) (ix:=(.tmp 13)) (key:=.int .i64 (h)) (z:=.nilIface) (kl:=(.int .i64 h)) (r:=(some x)) (fun _=>by kernel_rfl) (by kernel_rfl) (fun _=>by kernel_rfl) (fun _=>by kernel_rfl) dQ Tryz.underlying120 (fun _=>by kernel_rfl) (gS hw) (hg) ?_
 refine gK 5 [(6,x),(7,.bool true)] [] ?_
 refine NN (af.seq (SR (gK 2 [(18,.bool false)] [] ?_)))
 refine NN (CF (af.skip (NX (SR (gK 3 [(4,x),(5,vI 0)] [] ?_)))))
 refine NN (af.ret (ai.mem (cF:=[.abs R,.abs (bS 197 t most ar us)]) (fun w hS=>Sat.kS (l:=[.abs R]) ⟨m,A,c,l,next⟩ (show fS (next) l (us) most (ar) from hT) (hS.pick (idx:=[0,1,2,3]) (l':=[.abs R]++kR 197 t most (ar) (us) ⟨m,A,c,l,next⟩) rfl rfl)) ?_))
 exact RT (.tuple #[x,vI 0]) [1,0] (⟨rfl,rfl⟩)
theorem qo {β:Bs} (t:Nat) (most ar:Int) (us:Used Value) (h:Int) (hw:(Lit.int .i64 h).wf=true) (hg:aE.get us h=none) :
    Spec Tryz.prog β 132 #[vP t,vI (h)] [.abs (bS 197 t most ar us)] (fun v l=>v=.tuple #[.nilIface,vI 131]/\l=[.abs (bS 197 t most ar us)]):=by
 refine Spec.enter Tryz.func132 rfl Tryz.ntmps132 (Nat.le_of_ble_eq_true rfl) (fun R=>?_)
 refine af.seq (af.zy (Φ:=fun x:TX=>fS x.next x.l us most ar) (hp:=fun x=>[.abs R]++kR 197 t most ar us x) (fun w hS=>(hS.pick (idx:=[1,0]) (l':=[.abs R]++[.abs (bS 197 t most ar us)]) rfl rfl).o8) (fun x hT=>?_))
 obtain⟨m,A,c,l,next⟩:=x
 replace hT:fS next l us most ar:=hT
 have hb:=hT.EG
 have hm0:=hT.q6
 have hm1:=hT.q8
 have hn1:=hT.rf
 have hn2:=hT.vk
 have EK:=hT.sY
 have GR:=hT.ti.count
 show af _ _ _ _ _ [.abs R,.blk t [vI (most),vI (ar),.map (some m),.slice A (l.length) (c),vI (next)] 197,.abs (aJ Tryz.prog 3 m (aW us) us.length),.abs (aH 3 1 A l.length c (ints l))] _
 refine af.region (gK 2 [] [] ?_)
 refine NS (gK 5 [(12,.map (some m)),(13,vI (h))] [(3,a_ 1 t)] ?_)
 refine aj.sR 2 (d:=(some 14)) (t:=120) (K:=3) (E:=124) (b:=m) (n:=us.length) (f:=(aW us)) (x:=(.tmp 12)) (ix:=(.tmp 13)) (key:=.int .i64 (h)) (z:=.nilIface) (kl:=(.int .i64 h)) (r:=none) (fun _=>by kernel_rfl) (by kernel_rfl) (fun _=>by kernel_rfl) (fun _=>by kernel_rfl) dQ Tryz.underlying120 (fun _=>by kernel_rfl) (gS hw) (hg) ?_
 refine gK 5 [(6,.nilIface),(7,.bool false)] [] ?_
 refine NN (af.seq (SR (gK 2 [(18,.bool true)] [] ?_)))
 refine NN (CT (SR (gK 3 [(4,.nilIface),(5,vI 131)] [] ?_)))
 refine NN (af.ret (ai.ak (ai.mem (cF:=[.abs R,.abs (bS 197 t most ar us)]) (fun w hS=>Sat.kS (l:=[.abs R]) ⟨m,A,c,l,next⟩ (show fS (next) l (us) most (ar) from hT) (hS.pick (idx:=[0,1,2,3]) (l':=[.abs R]++kR 197 t most (ar) (us) ⟨m,A,c,l,next⟩) rfl rfl)) ?_)))
 exact RT (.tuple #[.nilIface,vI 131]) [1,0] (⟨rfl,rfl⟩)
theorem wY {β:Bs} (t:Nat) (most ar:Int) (us:Used Value) (x:Value) (hf:most<=(us.length:Int)) :
    Spec Tryz.prog β 165 #[vP t,x] [.abs (bS 197 t most ar us)] (fun v l=>v=.tuple #[vI 0,vI 130]/\l=[.abs (bS 197 t most ar us)]):=by
 refine Spec.enter Tryz.func165 rfl Tryz.ntmps165 (Nat.le_of_ble_eq_true rfl) (fun R=>?_)
 refine af.seq (af.zy (Φ:=fun x:TX=>fS x.next x.l us most ar) (hp:=fun x=>[.abs R]++kR 197 t most ar us x) (fun w hS=>(hS.pick (idx:=[1,0]) (l':=[.abs R]++[.abs (bS 197 t most ar us)]) rfl rfl).o8) (fun x hT=>?_))
 obtain⟨m,A,c,l,next⟩:=x
 replace hT:fS next l us most ar:=hT
 have hb:=hT.EG
 have hm0:=hT.q6
 have hm1:=hT.q8
 have hn1:=hT.rf
 have hn2:=hT.vk
 have EK:=hT.sY
 have GR:=hT.ti.count
 show af _ _ _ _ _ [.abs R,.blk t [vI (most),vI (ar),.map (some m),.slice A (l.length) (c),vI (next)] 197,.abs (aJ Tryz.prog 3 m (aW us) us.length),.abs (aH 3 1 A l.length c (ints l))] _
 refine af.region (gK 2 [] [] ?_)
 refine NN (af.seq (af.seq (af.bH (by kernel_rfl) (by kernel_rfl) ?_)))
 refine gQ 4 [(10,.map (some m))] [(3,a_ 1 t)] ?_
 refine aP.tX 2 (d:=(some 11)) (t:=120) (K:=3) (E:=124) (b:=m) (n:=us.length) (f:=(aW us)) (x:=(.tmp 10)) (ats:=#[120]) (fun _=>by kernel_rfl) (by kernel_rfl) (fun _=>by kernel_rfl) rfl Tryz.underlying120 ?_
 refine gQ 5 [(16,.bool (decide ((((us.length:Nat):Int):Int) ≥ (most:Int))))] [(3,a_ 1 t)] ?_
 refine NQ (NX ?_)
 refine af.aZ (p:=(((us.length:Nat):Int):Int) ≥ (most:Int)) (fun _=>by kernel_rfl) (fun ul=>?_) (fun ul=>?_)
 ·refine SR (gK 2 [(4,vI 0),(5,vI 130)] [] ?_)
  refine NN (af.ret (ai.ak (ai.mem (cF:=[.abs R,.abs (bS 197 t most ar us)]) (fun w hS=>Sat.kS (l:=[.abs R]) ⟨m,A,c,l,next⟩ (show fS (next) l (us) most (ar) from hT) (hS.pick (idx:=[0,1,2,3]) (l':=[.abs R]++kR 197 t most (ar) (us) ⟨m,A,c,l,next⟩) rfl rfl)) ?_)))
  exact RT (.tuple #[vI 0,vI 130]) [1,0] (⟨rfl,rfl⟩)
 exact absurd ul (by omega)
theorem zA {β:Bs} (t:Nat) (most ar:Int) (us:Used Value) (x:Value) (hf:(us.length:Int) < most) :
    Spec Tryz.prog β 165 #[vP t,x] [.abs (bS 197 t most ar us)] (fun v l=>v=.tuple #[vI (least us),vI 0]/\l=[.abs (bS 197 t most (max ar ((us.length:Int)+1)) (ins (least us) x us))]):=by
 refine Spec.enter Tryz.func165 rfl Tryz.ntmps165 (Nat.le_of_ble_eq_true rfl) (fun R=>?_)
 refine af.seq (af.zy (Φ:=fun x:TX=>fS x.next x.l us most ar) (hp:=fun x=>[.abs R]++kR 197 t most ar us x) (fun w hS=>(hS.pick (idx:=[1,0]) (l':=[.abs R]++[.abs (bS 197 t most ar us)]) rfl rfl).o8) (fun x hT=>?_))
 obtain⟨m,A,c,l,next⟩:=x
 replace hT:fS next l us most ar:=hT
 have hb:=hT.EG
 have hm0:=hT.q6
 have hm1:=hT.q8
 have hn1:=hT.rf
 have hn2:=hT.vk
 have EK:=hT.sY
 have GR:=hT.ti.count
 show af _ _ _ _ _ [.abs R,.blk t [vI (most),vI (ar),.map (some m),.slice A (l.length) (c),vI (next)] 197,.abs (aJ Tryz.prog 3 m (aW us) us.length),.abs (aH 3 1 A l.length c (ints l))] _
 refine af.region (gK 2 [] [] ?_)
 refine NN (af.seq (af.seq (af.bH (by kernel_rfl) (by kernel_rfl) ?_)))
 refine gQ 4 [(10,.map (some m))] [(3,a_ 1 t)] ?_
 refine aP.tX 2 (d:=(some 11)) (t:=120) (K:=3) (E:=124) (b:=m) (n:=us.length) (f:=(aW us)) (x:=(.tmp 10)) (ats:=#[120]) (fun _=>by kernel_rfl) (by kernel_rfl) (fun _=>by kernel_rfl) rfl Tryz.underlying120 ?_
 refine gQ 5 [(16,.bool (decide ((((us.length:Nat):Int):Int) ≥ (most:Int))))] [(3,a_ 1 t)] ?_
 refine NQ (NX ?_)
 refine af.aZ (p:=(((us.length:Nat):Int):Int) ≥ (most:Int)) (fun _=>by kernel_rfl) (fun ul=>?_) (fun ul=>?_)
 ·exact absurd ul (by omega)
 refine af.skip (NX (SR (gK 5 [(6,vI (next))] [(3,a_ 1 t)] ?_)))
 refine NN (af.seq (SR (gK 6 [(26,.bool (decide ((((l.length:Nat):Int):Int) > (0:Int))))] [(3,a_ 1 t)] ?_)))
 refine NN (af.aZ (p:=(((l.length:Nat):Int):Int) > (0:Int)) (fun _=>by kernel_rfl) (fun vR=>?_) (fun vR=>?_))
 ·refine af.region ?_
  obtain⟨n,hn⟩:∃ n,l.length=n+1:=⟨l.length - 1,by omega⟩
  refine aj.tell (p:=∃ g,A=some ⟨g,0,none⟩) (fun w hS=>let ⟨F,h⟩:=hS.get (i:=3) rfl;aH.head h (by omega)) (fun ⟨g,hg⟩=>?_)
  subst hg
  refine gK 4 [(31,.iface 256 (.pointer (some ⟨t,3,none⟩)))] [] ?_
  refine gL (f:=203) (args:=#[.iface 256 (.pointer (some ⟨t,3,none⟩))]) (pre:=[.blk t [vI (most),vI (ar),.map (some m),.slice (some ⟨g,0,none⟩) (l.length) (c),vI (next)] 197,.abs (aH 3 1 (some ⟨g,0,none⟩) l.length c (ints l))]) [1,3] (PK hn (by have:=hT.ti.heap;rwa [hn] at this) hT.ti.inj (by omega)) ?_
  rintro _ _ ⟨rfl,l2,rfl,hp2,hi2,hm2,rfl⟩
  refine gK 5 [(6,vI ((at_ l 0)))] [] ?_
  refine NS (aj.slot 6 (.int .i64 ((at_ l 0))) (.int .i64 ((least us))) (fun _=>by kernel_rfl) (by rw [hT.ti.AF (by omega)]) ?_)
  refine gK 6 [(46,.map (some m)),(47,vI ((least us))),(48,x)] [(3,a_ 0 t)] ?_
  refine aj.j8 3 (d:=none) (t:=120) (K:=3) (E:=124) (b:=m) (n:=us.length) (f:=(aW us)) (x:=(.tmp 46)) (ix:=(.tmp 47)) (y:=(.tmp 48)) (key:=.int .i64 ((least us))) (u:=x) (kl:=(.int .i64 (least us))) (n':=(us.length+1)) (f':=(aW (ins (least us) x us))) (fun _=>by kernel_rfl) (by kernel_rfl) (fun _=>by kernel_rfl) (fun _=>by kernel_rfl) (fun _=>by kernel_rfl) dQ Tryz.underlying120 (by unfold maxLen;omega) (o3 (by omega) (by omega)) (by rw [Da hb.2.2.1];rfl) (Cm hb.2.2.1 x) ?_
  refine NN (af.seq (af.tM 13 (by kernel_rfl) (by kernel_rfl) ?_))
  refine ia.seg (k':=9) (fr':=[(6,vI ((least us))),(49,vP t),(53,vI (ar)),(57,.map (some m))]) (bA:=[t=t,t=t]) [o_,o_,o_,o_,⟨[.at 0],none,none,none,none⟩,o_,o_,o_,⟨[.at 0],none,none,none,none⟩] [6,49,53,57] (fun _ _=>by kernel_rfl) ⟨rfl,rfl,trivial⟩ (by decide) ?_
  refine ia.tX 3 (d:=(some 58)) (t:=120) (K:=3) (E:=124) (b:=m) (cnt:=(us.length+1)) (f:=(aW (ins (least us) x us))) (x:=(.tmp 57)) (ats:=#[120]) (fun _=>by kernel_rfl) (by kernel_rfl) (fun _=>by kernel_rfl) rfl Tryz.underlying120 (by decide) ?_
  refine ia.seg (k':=13) (fr':=[(6,vI ((least us))),(59,vI ((max ar ((us.length:Int)+1)))),(61,.pointer (some ⟨t,1,none⟩))]) (bA:=[(Value.int .i64 (if (((us.length+1):Nat):Int) > ar then (((us.length+1):Nat):Int) else ar))=(.int .i64 ((max ar ((us.length:Int)+1))))]) [⟨[],none,none,none,some (vI ((max ar ((us.length:Int)+1))))⟩,o_,o_] [6,59,61] (fun _ _=>by kernel_rfl) ⟨by rw [Ir];rfl,trivial⟩ (by decide) ?_
  refine ia.done rfl ?_
  refine gC 1 [] [(0,a_ 0 t)] [(0,[(1,vI ((max ar ((us.length:Int)+1))))])] ?_
  refine NS (gK 3 [(4,vI ((least us))),(5,vI 0)] [] ?_)
  refine NN (af.ret (ai.dh [(3,.abs (aJ Tryz.prog 3 m (aW (ins (least us) x us)) ((ins (least us) x us).length)))] (fun w hS=>by rw [iI];exact hS) ?_))
  refine ai.mem (cF:=[.abs R,.abs (bS 197 t most (max ar ((us.length:Int)+1)) (ins (least us) x us))]) (fun w hS=>Sat.kS (l:=[.abs R]) ⟨m,some ⟨g,0,none⟩,c,l2,next⟩ (show fS (next) l2 ((ins (least us) x us)) most ((max ar ((us.length:Int)+1))) from ⟨by rw [hT.ti.AF (by omega)];exact hT.ti.LK (by omega) x (by omega) hp2 hi2 hm2,by rw [iI];omega,by omega,by omega,by omega,by omega⟩) (hS.pick (idx:=[2,0,3,1]) (l':=[.abs R]++kR 197 t most ((max ar ((us.length:Int)+1))) ((ins (least us) x us)) ⟨m,some ⟨g,0,none⟩,c,l2,next⟩) rfl rfl)) ?_
  exact RT (.tuple #[vI ((least us)),vI 0]) [1,0] (⟨rfl,rfl⟩)
 refine af.region ?_
 have hl0:l=[]:=List.eq_nil_of_length_eq_zero (by omega)
 have hl1:l.length=0:=by rw [hl0];rfl
 have hl2:TI next [] us:=hl0 ▸ hT.ti
 refine gC 8 [] [(3,a_ 1 t),(4,wI (next+1) ((next+1))),(7,a_ 1 t)] [(1,[(4,vI ((next+1)))])] ?_
 refine NS (aj.slot 6 (.int .i64 (next)) (.int .i64 ((least us))) (fun _=>by kernel_rfl) (by rw [hl2.AB]) ?_)
 refine gK 6 [(46,.map (some m)),(47,vI ((least us))),(48,x)] [(3,a_ 1 t)] ?_
 refine aj.j8 2 (d:=none) (t:=120) (K:=3) (E:=124) (b:=m) (n:=us.length) (f:=(aW us)) (x:=(.tmp 46)) (ix:=(.tmp 47)) (y:=(.tmp 48)) (key:=.int .i64 ((least us))) (u:=x) (kl:=(.int .i64 (least us))) (n':=(us.length+1)) (f':=(aW (ins (least us) x us))) (fun _=>by kernel_rfl) (by kernel_rfl) (fun _=>by kernel_rfl) (fun _=>by kernel_rfl) (fun _=>by kernel_rfl) dQ Tryz.underlying120 (by unfold maxLen;omega) (o3 (by omega) (by omega)) (by rw [Da hb.2.2.1];rfl) (Cm hb.2.2.1 x) ?_
 refine NN (af.seq (af.tM 13 (by kernel_rfl) (by kernel_rfl) ?_))
 refine ia.seg (k':=9) (fr':=[(6,vI ((least us))),(49,vP t),(53,vI (ar)),(57,.map (some m))]) (bA:=[t=t,t=t]) [o_,o_,o_,o_,⟨[.at 1],none,none,none,none⟩,o_,o_,o_,⟨[.at 1],none,none,none,none⟩] [6,49,53,57] (fun _ _=>by kernel_rfl) ⟨rfl,rfl,trivial⟩ (by decide) ?_
 refine ia.tX 2 (d:=(some 58)) (t:=120) (K:=3) (E:=124) (b:=m) (cnt:=(us.length+1)) (f:=(aW (ins (least us) x us))) (x:=(.tmp 57)) (ats:=#[120]) (fun _=>by kernel_rfl) (by kernel_rfl) (fun _=>by kernel_rfl) rfl Tryz.underlying120 (by decide) ?_
 refine ia.seg (k':=13) (fr':=[(6,vI ((least us))),(59,vI ((max ar ((us.length:Int)+1)))),(61,.pointer (some ⟨t,1,none⟩))]) (bA:=[(Value.int .i64 (if (((us.length+1):Nat):Int) > ar then (((us.length+1):Nat):Int) else ar))=(.int .i64 ((max ar ((us.length:Int)+1))))]) [⟨[],none,none,none,some (vI ((max ar ((us.length:Int)+1))))⟩,o_,o_] [6,59,61] (fun _ _=>by kernel_rfl) ⟨by rw [Ir];rfl,trivial⟩ (by decide) ?_
 refine ia.done rfl ?_
 refine gC 1 [] [(0,a_ 1 t)] [(1,[(1,vI ((max ar ((us.length:Int)+1))))])] ?_
 refine NS (gK 3 [(4,vI ((least us))),(5,vI 0)] [] ?_)
 refine NN (af.ret (ai.dh [(2,.abs (aJ Tryz.prog 3 m (aW (ins (least us) x us)) ((ins (least us) x us).length)))] (fun w hS=>by rw [iI];exact hS) ?_))
 refine ai.mem (cF:=[.abs R,.abs (bS 197 t most (max ar ((us.length:Int)+1)) (ins (least us) x us))]) (fun w hS=>Sat.kS (l:=[.abs R]) ⟨m,A,c,l,(next+1)⟩ (show fS ((next+1)) l ((ins (least us) x us)) most ((max ar ((us.length:Int)+1))) from ⟨by rw [hl2.AB,hl0];exact hl2.LJ x,by rw [iI];omega,by omega,by omega,by omega,by omega⟩) (hS.pick (idx:=[0,1,2,3]) (l':=[.abs R]++kR 197 t most ((max ar ((us.length:Int)+1))) ((ins (least us) x us)) ⟨m,A,c,l,(next+1)⟩) rfl rfl)) ?_
 exact RT (.tuple #[vI ((least us)),vI 0]) [1,0] (⟨rfl,rfl⟩)
theorem Dc {β:Bs} (t:Nat) (most ar:Int) (us:Used Value) (h:Int) (hw:(Lit.int .i64 h).wf=true) (x:Value) (hg:aE.get us h=some x) :
    Spec Tryz.prog β 135 #[vP t,vI (h)] [.abs (bS 197 t most ar us)] (fun v l=>v=.tuple #[x,vI 0]/\l=[.abs (bS 197 t most ar (del h us))]):=by
 refine Spec.enter Tryz.func135 rfl Tryz.ntmps135 (Nat.le_of_ble_eq_true rfl) (fun R=>?_)
 refine SR (gK 2 [] [] ?_)
 refine NS (gK 2 [(9,vP t),(10,vI (h))] [] ?_)
 refine gL [0] (kT t most ar us h hw x hg) ?_
 rintro _ _ ⟨rfl,rfl⟩
 refine gK 5 [(6,x),(7,vI 0)] [] ?_
 refine NN (af.seq (SR (gK 2 [(15,.bool true)] [] ?_)))
 refine NN (CT (af.seq (af.zy (Φ:=fun x:TX=>fS x.next x.l us most ar) (hp:=fun x=>[.abs R]++kR 197 t most ar us x) (fun w hS=>(hS.pick (idx:=[1,0]) (l':=[.abs R]++[.abs (bS 197 t most ar us)]) rfl rfl).o8) (fun x0 hT=>?_))))
 obtain⟨m,A,c,l,next⟩:=x0
 replace hT:fS next l us most ar:=hT
 have hb:=hT.EG
 have hm0:=hT.q6
 have hm1:=hT.q8
 have hn1:=hT.rf
 have hn2:=hT.vk
 have EK:=hT.sY
 have GR:=hT.ti.count
 have hk:=get_some hg
 show af _ _ _ _ _ [.abs R,.blk t [vI (most),vI (ar),.map (some m),.slice A (l.length) (c),vI (next)] 197,.abs (aJ Tryz.prog 3 m (aW us) us.length),.abs (aH 3 1 A l.length c (ints l))] _
 refine af.region (gK 5 [(19,.map (some m)),(20,vI (h))] [(3,a_ 1 t)] ?_)
 refine aj.zZ 2 (d:=none) (t:=120) (K:=3) (E:=124) (b:=m) (n:=us.length) (f:=(aW us)) (x:=(.tmp 19)) (ix:=(.tmp 20)) (key:=.int .i64 (h)) (kl:=(.int .i64 h)) (n':=(us.length - 1)) (f':=(aW (del h us))) (ats:=#[120,3]) (fun _=>by kernel_rfl) (by kernel_rfl) (fun _=>by kernel_rfl) (fun _=>by kernel_rfl) rfl dQ Tryz.underlying120 (gS hw) (by rw [show aW us (.int .i64 h)=some x from hg];rfl) (GN) ?_
 refine NN (af.region (gK 6 [(24,.iface 256 (.pointer (some ⟨t,3,none⟩))),(26,.iface 3 (.int .i64 (h)))] [] ?_))
 refine gL (f:=169) (args:=#[.iface 256 (.pointer (some ⟨t,3,none⟩)),.iface 3 (.int .i64 (h))]) (pre:=[.blk t [vI (most),vI (ar),.map (some m),.slice A (l.length) (c),vI (next)] 197,.abs (aH 3 1 A l.length c (ints l))]) [1,3] (Oy h hT.ti.heap (by omega)) ?_
 rintro _ _ ⟨rfl,g,c',l2,Uv,hp2,rfl⟩
 refine NS (gK 4 [(4,x),(5,vI 0)] [] ?_)
 refine NN (af.ret ?_)
 have hld:=o7 hT.ti.rise hk
 refine ai.dh [(3,.abs (aJ Tryz.prog 3 m (aW (del h us)) ((del h us).length)))] (fun w hS=>by rw [show (del h us).length=us.length - 1 by omega];exact hS) ?_
 refine ai.mem (cF:=[.abs R,.abs (bS 197 t most ar (del h us))]) (fun w hS=>Sat.kS (l:=[.abs R]) ⟨m,some ⟨g,0,none⟩,c',l2,next⟩ (show fS (next) l2 ((del h us)) most (ar) from ⟨hT.ti.drop hk Uv hp2,by omega,hm1,hn1,hn2,EK⟩) (hS.pick (idx:=[2,0,3,1]) (l':=[.abs R]++kR 197 t most (ar) ((del h us)) ⟨m,some ⟨g,0,none⟩,c',l2,next⟩) rfl rfl)) ?_
 exact RT (.tuple #[x,vI 0]) [1,0] (⟨rfl,rfl⟩)
theorem F8 {β:Bs} (t:Nat) (most ar:Int) (us:Used Value) (h:Int) (hw:(Lit.int .i64 h).wf=true) (hg:aE.get us h=none) :
    Spec Tryz.prog β 135 #[vP t,vI (h)] [.abs (bS 197 t most ar us)] (fun v l=>v=.tuple #[.nilIface,vI 131]/\l=[.abs (bS 197 t most ar us)]):=by
 refine Spec.enter Tryz.func135 rfl Tryz.ntmps135 (Nat.le_of_ble_eq_true rfl) (fun R=>?_)
 refine SR (gK 2 [] [] ?_)
 refine NS (gK 2 [(9,vP t),(10,vI (h))] [] ?_)
 refine gL [0] (qo t most ar us h hw hg) ?_
 rintro _ _ ⟨rfl,rfl⟩
 refine gK 5 [(6,.nilIface),(7,vI 131)] [] ?_
 refine NN (af.seq (SR (gK 2 [(15,.bool false)] [] ?_)))
 refine NN (CF (af.skip (NX (SR (gK 4 [(4,.nilIface),(5,vI 131)] [] ?_)))))
 refine NN (af.ret ?_)
 exact RT (.tuple #[.nilIface,vI 131]) [0,1] (⟨rfl,rfl⟩)
theorem EL {β:Bs} (t:Nat) (most ar:Int) (us:Used Value) :
    Spec Tryz.prog β 70 #[vP t] [.abs (bS 197 t most ar us)] (fun v l=>∃ A c,v=.slice A (keys us).length c/\l=[.abs (bS 197 t most ar us),.abs (aH 3 1 A (keys us).length c (ints (keys us)))]):=by
 refine Spec.enter Tryz.func70 rfl Tryz.ntmps70 (Nat.le_of_ble_eq_true rfl) (fun R=>?_)
 refine af.seq (af.zy (Φ:=fun x:TX=>fS x.next x.l us most ar) (hp:=fun x=>[.abs R]++kR 197 t most ar us x) (fun w hS=>(hS.pick (idx:=[1,0]) (l':=[.abs R]++[.abs (bS 197 t most ar us)]) rfl rfl).o8) (fun x hT=>?_))
 obtain⟨m,A,c,l,next⟩:=x
 replace hT:fS next l us most ar:=hT
 have hb:=hT.EG
 have hm0:=hT.q6
 have hm1:=hT.q8
 have hn1:=hT.rf
 have hn2:=hT.vk
 have EK:=hT.sY
 have GR:=hT.ti.count
 show af _ _ _ _ _ [.abs R,.blk t [vI (most),vI (ar),.map (some m),.slice A (l.length) (c),vI (next)] 197,.abs (aJ Tryz.prog 3 m (aW us) us.length),.abs (aH 3 1 A l.length c (ints l))] _
 refine af.region (gK 1 [] [] ?_)
 refine NS (gK 4 [(6,.map (some m))] [(3,a_ 1 t)] ?_)
 refine gL [] (EI (some m)) ?_
 rintro _ _ ⟨bk,rfl,rfl⟩
 refine gL [3,0] (AK m bk us.length (aW us) (by omega)) ?_
 rintro _ _ ⟨A2,c2,ss,rfl,hks,hsl,rfl⟩
 refine gK 1 [(2,.slice A2 (ss.length) (c2))] [] ?_
 refine NN (af.ret ?_)
 have hkk:=GQ hT.ti.rise hks
 refine ai.mem (cF:=[.abs R,.abs (aH 3 1 A2 ss.length c2 (ints ss)),.abs (bS 197 t most ar us)]) (fun w hS=>Sat.kS (l:=[.abs R,.abs (aH 3 1 A2 ss.length c2 (ints ss))]) ⟨m,A,c,l,next⟩ (show fS (next) l (us) most (ar) from hT) (hS.pick (idx:=[3,2,4,0,5]) (l':=[.abs R,.abs (aH 3 1 A2 ss.length c2 (ints ss))]++kR 197 t most (ar) (us) ⟨m,A,c,l,next⟩) rfl rfl)) ?_
 exact RT (l:=[.abs (bS 197 t most ar us),.abs (aH 3 1 A2 ss.length c2 (ints ss))]) (.slice A2 (ss.length) (c2)) [2,1,0] (⟨A2,c2,by rw [hkk],by rw [hkk]⟩)
end
section
open Go.RowKit Go.Maps bG aE
theorem Spec.Ce {P:Program} {β:Bs} {f:FuncId} {args:Array Value} {pre R:List HP} {post:Value->List HP->Prop} (h:∀ β':Bs,qA β R β'->Spec P β' f args pre post):Spec P β f args (pre++R) (fun v l=>∃ l0,post v l0/\l=l0++R):=by
  intro A w hS
  have h1:=Sat.turn hS
  rw [← List.append_assoc] at h1
  obtain⟨β',g1,_,g3⟩:=h1.Ce
  refine (h β' g1 A w (Sat.turn g3)).mono ?_
  rintro e w' ⟨v,l,h1,h2,h3⟩
  refine⟨v,l++R,h1,⟨l,h2,rfl⟩,?_⟩
  have h4:=g1.back (Sat.turn h3)
  rw [List.append_assoc] at h4
  exact Sat.turn h4
def aV (L:HL) (us:Used Th):Used Value:=us.map fun q=>(q.1,dz L q.2)
theorem eW (L:HL) (us:Used Th) (h:Int):aW (aV L us) (.int .i64 h)=(aE.get us h).map (dz L):=get_map (dz L) us h
theorem Cn {L:HL} {us:Used Th} {h:Int}:upd (aW (aV L us)) (.int .i64 h) none=aW (aV L (del h us)):=by
  rw [GN]
  exact congrArg aW (GL (dz L) h us).symm
theorem o9 (L:HL) (us:Used Th):(aV L us).length=us.length:=List.length_map ..
theorem zB (L:HL) (us:Used Th):keys (aV L us)=keys us:=keys_map (dz L) us
def pY (O:bY) (k:Nat):bY:=aD O k (fun o=>{ o with gone:=true })
def ru (O:bY) (t:Th):Prop:=(obj O t.k).gone=true/\(obj O t.k).opens=0
instance (O:bY) (t:Th):Decidable (ru O t):=inferInstanceAs (Decidable (_/\_))
def jB (O:bY) (idx:Used Th) (t:Th):Used Th:=if ru O t then del (obj O t.k).id idx else idx
def jQ (O:bY) (used:Int) (t:Th):Int:=if ru O t then if t.kind=1 then used - (obj O t.k).data.length else used else used
abbrev pF (f m t:Nat) (X:FM):HP:=.blk f [.int .i64 X.cN,.int .i64 X.cB,.int .i64 X.cH,.int .i64 X.cS,.int .i64 X.cZ,.map (some m),.pointer (some ⟨t,0,none⟩),.int .i64 X.last,.int .i64 X.ah,.int .i64 X.used] 126
abbrev pI (m:Nat) (L:HL) (us:Used Th):HP:=.abs (aJ Tryz.prog 3 m (aW (aV L us)) us.length)
abbrev pT (t:Nat) (most ar:Int) (L:HL) (us:Used Th):HP:=.abs (bS 197 t most ar (aV L us))
abbrev pO (O:bY) (L:HL):HP:=.abs (ax (bB O L))
abbrev pD (O:bY) (L:HL):HP:=.abs (ax (bC O L))
abbrev pE (O:bY) (L:HL):HP:=.abs (ax (bV O L))
end
section
open Go.RowKit Go.Maps bG aE
attribute [local irreducible] aj aP af ai
abbrev J3 (f:Nat) (X:FM) (m:Nat) (t):=(.blk f [vI (X.cN),vI (X.cB),vI (X.cH),vI (X.cS),vI (X.cZ),.map (some m),vP t,vI (X.last),vI (X.ah),vI (X.used)] 126:HP)
theorem LM {β:Bs} (X:FM) (f m t:Nat) (hX:0<=X.ah/\X.ah<=1048576/\-1125899906842624<=X.used/\X.used<=1125899906842624/\0<=X.last/\X.last<=1125899906842624) (O:bY) (L:HL) (idx:Used Th) (J4:aE.cQ (keys idx)) (th:Th) (hkt:(obj O th.k).kind=th.kind) (h3:th.kind=1\/th.kind=2\/th.kind=3) (hg:(obj O th.k).gone=true) (ho:(obj O th.k).opens=0) (hix:aE.get idx (obj O th.k).id=some th) (hw:(Lit.int .i64 (obj O th.k).id).wf=true) (wZ:(obj O th.k).data.length<=1125899906842624) :
    Spec Tryz.prog β 136 #[vP f,(dz L th)] [pO O L,pF f m t X,pI m L idx] (fun v l=>v=.tuple #[]/\l=[pO O L,pF f m t { X with used:=if th.kind=1 then X.used - (obj O th.k).data.length else X.used },pI m L (del (obj O th.k).id idx)]):=by
 refine Spec.enter Tryz.func136 rfl Tryz.ntmps136 (Nat.le_of_ble_eq_true rfl) (fun R=>?_)
 refine af.seq ?_
 obtain⟨tk,kd⟩:=th;simp only at hkt h3;rcases h3 with rfl|rfl|rfl
 ·replace hkt:(obj O tk).kind=1:=hkt
  replace hg:(obj O tk).gone=true:=hg
  replace ho:(obj O tk).opens=0:=ho
  replace hix:aE.get idx (obj O tk).id=some _:=hix
  replace hw:(Lit.int .i64 (obj O tk).id).wf=true:=hw
  have hdl:=o7 J4 (get_some hix)
  replace wZ:(obj O tk).data.length<=1125899906842624:=wZ
  refine af.region (gK 1 [(7,.iface 129 (vP (L.b tk)))] [] ?_)
  refine gL [] (cU (L.b tk)) ?_
  rintro _ _ ⟨rfl,rfl⟩
  refine gK 1 [(4,vP (L.b tk))] [] ?_
  refine NN (af.seq (SR (gK 6 [(14,.bool (!(obj O tk).gone))] [(3,v_ 0 (nw L hkt))] ?_)))
  refine aj.nF 14 (!(obj O tk).gone) (fun _=>by kernel_rfl) (fun iQ=>?_) (fun iQ=>?_)
  ·exact absurd iQ (by simp [hg])
  refine gK 6 [(20,.bool (decide (((obj O tk).opens:Int) > (0:Int))))] [(3,v_ 0 (jL L hkt))] ?_
  refine NN (af.aZ (p:=((obj O tk).opens:Int) > (0:Int)) (fun _=>by kernel_rfl) (fun oR=>?_) (fun oR=>?_))
  ·exact absurd oR (by omega)
  refine af.skip (NX (af.seq (af.bP (S:=[pO O L,pF f m t X,pI m L idx,.abs R]) [0,1,2,3,4,5,6,7,8] 8 [0,1,2,3] (by kernel_rfl) (by kernel_rfl) rfl (by kernel_rfl) ?_)))
  refine gR 0 [8] [(0,vP f),(1,.iface 129 (vP (L.b tk))),(24,.map (some m)),(28,vI ((obj O tk).id))] [0,1,2,3,4,5,6,7] [(3,a_ 1 f),(7,v_ 0 (qC L hkt))] ?_
  refine aL.last rfl rfl ?_
  refine aj.zZ 2 (d:=none) (t:=120) (K:=3) (E:=124) (b:=m) (n:=idx.length) (f:=(aW (aV L idx))) (x:=(.tmp 24)) (ix:=(.tmp 28)) (key:=.int .i64 ((obj O tk).id)) (kl:=(.int .i64 (obj O tk).id)) (n':=(idx.length - 1)) (f':=(aW (aV L (del (obj O tk).id idx)))) (ats:=#[120,3]) (fun _=>by kernel_rfl) (by kernel_rfl) (fun _=>by kernel_rfl) (fun _=>by kernel_rfl) rfl dQ Tryz.underlying120 (gS hw) (by rw [eW,hix];rfl) (Cn) ?_
  refine NL (ai.np (NX (SR ?_)))
  refine gK 7 [(5,vP (L.b tk)),(6,.bool true)] [] ?_
  refine NS (gK 1 [(34,.bool true)] [] ?_)
  refine NN (CT (af.bP (S:=[pO O L,pF f m t X,.abs (aJ Tryz.prog 3 m (aW (aV L (del (obj O tk).id idx))) (idx.length - 1)),.abs R]) [0,1,2,3,4,5,6,7,8,9,10,11,12] 12 [0,1,2,3] (by kernel_rfl) (by kernel_rfl) rfl (by kernel_rfl) ?_))
  refine gR 0 [12] [(44,vI (X.used - (((obj O tk).data.length:Nat):Int))),(46,.pointer (some ⟨f,9,none⟩))] [0,1,2,3,4,5,6,7,8,9,10,11] [(3,a_ 1 f),(7,v_ 0 (Ew L hkt)),(9,p_ ⟨[],none,none,none,some (vI (X.used - (((obj O tk).data.length:Nat):Int)))⟩ [(Value.int .i64 (IntKind.wrap .i64 (X.used - (((obj O tk).data.length:Nat):Int))))=(.int .i64 (X.used - (((obj O tk).data.length:Nat):Int)))] ⟨bD (by omega) (by omega) (by omega),trivial⟩)] ?_
  refine aL.last rfl rfl ?_
  refine gC 1 [] [(0,a_ 1 f)] [(1,[(9,vI (X.used - (((obj O tk).data.length:Nat):Int)))])] ?_
  refine NL (ai.np ?_)
  refine ai.dh [(2,.abs (aJ Tryz.prog 3 m (aW (aV L (del (obj O tk).id idx))) ((del (obj O tk).id idx).length)))] (fun w hS=>by rw [show (del (obj O tk).id idx).length=idx.length - 1 by omega];exact hS) ?_
  exact RF (.tuple #[]) [0,1,2,3] (⟨rfl,rfl⟩)
 ·replace hkt:(obj O tk).kind=2:=hkt
  replace hg:(obj O tk).gone=true:=hg
  replace ho:(obj O tk).opens=0:=ho
  replace hix:aE.get idx (obj O tk).id=some _:=hix
  replace hw:(Lit.int .i64 (obj O tk).id).wf=true:=hw
  have hdl:=o7 J4 (get_some hix)
  replace wZ:(obj O tk).data.length<=1125899906842624:=wZ
  refine af.region (gK 1 [(7,.iface 135 (vP (L.b tk)))] [] ?_)
  refine gL [] (cU (L.b tk)) ?_
  rintro _ _ ⟨rfl,rfl⟩
  refine gK 1 [(4,vP (L.b tk))] [] ?_
  refine NN (af.seq (SR (gK 6 [(14,.bool (!(obj O tk).gone))] [(3,v_ 0 (nw L hkt))] ?_)))
  refine aj.nF 14 (!(obj O tk).gone) (fun _=>by kernel_rfl) (fun iQ=>?_) (fun iQ=>?_)
  ·exact absurd iQ (by simp [hg])
  refine gK 6 [(20,.bool (decide (((obj O tk).opens:Int) > (0:Int))))] [(3,v_ 0 (jL L hkt))] ?_
  refine NN (af.aZ (p:=((obj O tk).opens:Int) > (0:Int)) (fun _=>by kernel_rfl) (fun oR=>?_) (fun oR=>?_))
  ·exact absurd oR (by omega)
  refine af.skip (NX (af.seq (af.bP (S:=[pO O L,pF f m t X,pI m L idx,.abs R]) [0,1,2,3,4,5,6,7,8] 8 [0,1,2,3] (by kernel_rfl) (by kernel_rfl) rfl (by kernel_rfl) ?_)))
  refine gR 0 [8] [(0,vP f),(1,.iface 135 (vP (L.b tk))),(24,.map (some m)),(28,vI ((obj O tk).id))] [0,1,2,3,4,5,6,7] [(3,a_ 1 f),(7,v_ 0 (qC L hkt))] ?_
  refine aL.last rfl rfl ?_
  refine aj.zZ 2 (d:=none) (t:=120) (K:=3) (E:=124) (b:=m) (n:=idx.length) (f:=(aW (aV L idx))) (x:=(.tmp 24)) (ix:=(.tmp 28)) (key:=.int .i64 ((obj O tk).id)) (kl:=(.int .i64 (obj O tk).id)) (n':=(idx.length - 1)) (f':=(aW (aV L (del (obj O tk).id idx)))) (ats:=#[120,3]) (fun _=>by kernel_rfl) (by kernel_rfl) (fun _=>by kernel_rfl) (fun _=>by kernel_rfl) rfl dQ Tryz.underlying120 (gS hw) (by rw [eW,hix];rfl) (Cn) ?_
  refine NL (ai.np (NX (SR ?_)))
  refine gK 7 [(5,.pointer none),(6,.bool false)] [] ?_
  refine NS (gK 1 [(34,.bool false)] [] ?_)
  refine NN (CF (af.skip (ai.dh [(2,.abs (aJ Tryz.prog 3 m (aW (aV L (del (obj O tk).id idx))) ((del (obj O tk).id idx).length)))] (fun w hS=>by rw [show (del (obj O tk).id idx).length=idx.length - 1 by omega];exact hS) ?_)))
  exact RF (.tuple #[]) [0,1,2,3] (⟨rfl,rfl⟩)
 replace hkt:(obj O tk).kind=3:=hkt
 replace hg:(obj O tk).gone=true:=hg
 replace ho:(obj O tk).opens=0:=ho
 replace hix:aE.get idx (obj O tk).id=some _:=hix
 replace hw:(Lit.int .i64 (obj O tk).id).wf=true:=hw
 have hdl:=o7 J4 (get_some hix)
 replace wZ:(obj O tk).data.length<=1125899906842624:=wZ
 refine af.region (gK 1 [(7,.iface 132 (vP (L.b tk)))] [] ?_)
 refine gL [] (cU (L.b tk)) ?_
 rintro _ _ ⟨rfl,rfl⟩
 refine gK 1 [(4,vP (L.b tk))] [] ?_
 refine NN (af.seq (SR (gK 6 [(14,.bool (!(obj O tk).gone))] [(3,v_ 0 (nw L hkt))] ?_)))
 refine aj.nF 14 (!(obj O tk).gone) (fun _=>by kernel_rfl) (fun iQ=>?_) (fun iQ=>?_)
 ·exact absurd iQ (by simp [hg])
 refine gK 6 [(20,.bool (decide (((obj O tk).opens:Int) > (0:Int))))] [(3,v_ 0 (jL L hkt))] ?_
 refine NN (af.aZ (p:=((obj O tk).opens:Int) > (0:Int)) (fun _=>by kernel_rfl) (fun oR=>?_) (fun oR=>?_))
 ·exact absurd oR (by omega)
 refine af.skip (NX (af.seq (af.bP (S:=[pO O L,pF f m t X,pI m L idx,.abs R]) [0,1,2,3,4,5,6,7,8] 8 [0,1,2,3] (by kernel_rfl) (by kernel_rfl) rfl (by kernel_rfl) ?_)))
 refine gR 0 [8] [(0,vP f),(1,.iface 132 (vP (L.b tk))),(24,.map (some m)),(28,vI ((obj O tk).id))] [0,1,2,3,4,5,6,7] [(3,a_ 1 f),(7,v_ 0 (qC L hkt))] ?_
 refine aL.last rfl rfl ?_
 refine aj.zZ 2 (d:=none) (t:=120) (K:=3) (E:=124) (b:=m) (n:=idx.length) (f:=(aW (aV L idx))) (x:=(.tmp 24)) (ix:=(.tmp 28)) (key:=.int .i64 ((obj O tk).id)) (kl:=(.int .i64 (obj O tk).id)) (n':=(idx.length - 1)) (f':=(aW (aV L (del (obj O tk).id idx)))) (ats:=#[120,3]) (fun _=>by kernel_rfl) (by kernel_rfl) (fun _=>by kernel_rfl) (fun _=>by kernel_rfl) rfl dQ Tryz.underlying120 (gS hw) (by rw [eW,hix];rfl) (Cn) ?_
 refine NL (ai.np (NX (SR ?_)))
 refine gK 7 [(5,.pointer none),(6,.bool false)] [] ?_
 refine NS (gK 1 [(34,.bool false)] [] ?_)
 refine NN (CF (af.skip (ai.dh [(2,.abs (aJ Tryz.prog 3 m (aW (aV L (del (obj O tk).id idx))) ((del (obj O tk).id idx).length)))] (fun w hS=>by rw [show (del (obj O tk).id idx).length=idx.length - 1 by omega];exact hS) ?_)))
 exact RF (.tuple #[]) [0,1,2,3] (⟨rfl,rfl⟩)
theorem Iw {β:Bs} (O:bY) (L:HL) (f:Nat) (th:Th) (hkt:(obj O th.k).kind=th.kind) (h3:th.kind=1\/th.kind=2\/th.kind=3) (hg:(obj O th.k).gone=false\/0 < (obj O th.k).opens) :
    Spec Tryz.prog β 136 #[vP f,(dz L th)] [pO O L] (fun v l=>v=.tuple #[]/\l=[pO O L]):=by
 refine Spec.enter Tryz.func136 rfl Tryz.ntmps136 (Nat.le_of_ble_eq_true rfl) (fun R=>?_)
 refine af.seq ?_
 obtain⟨tk,kd⟩:=th;simp only at hkt h3;rcases h3 with rfl|rfl|rfl
 ·replace hkt:(obj O tk).kind=1:=hkt
  replace hg:(obj O tk).gone=false\/0 < (obj O tk).opens:=hg
  refine af.region (gK 1 [(7,.iface 129 (vP (L.b tk)))] [] ?_)
  refine gL [] (cU (L.b tk)) ?_
  rintro _ _ ⟨rfl,rfl⟩
  refine gK 1 [(4,vP (L.b tk))] [] ?_
  refine NN (af.seq (SR (gK 6 [(14,.bool (!(obj O tk).gone))] [(3,v_ 0 (nw L hkt))] ?_)))
  refine aj.nF 14 (!(obj O tk).gone) (fun _=>by kernel_rfl) (fun iQ=>?_) (fun iQ=>?_)
  ·refine gK 6 [(20,.bool true)] [] ?_
   refine NN (CT (af.ret (ai.ak ?_)))
   exact RT (.tuple #[]) [0,1] (⟨rfl,rfl⟩)
  refine gK 6 [(20,.bool (decide (((obj O tk).opens:Int) > (0:Int))))] [(3,v_ 0 (jL L hkt))] ?_
  refine NN (af.aZ (p:=((obj O tk).opens:Int) > (0:Int)) (fun _=>by kernel_rfl) (fun oR=>?_) (fun oR=>?_))
  ·refine af.ret (ai.ak ?_)
   exact RT (.tuple #[]) [0,1] (⟨rfl,rfl⟩)
  exact absurd hg (by simp at iQ;rw [iQ];simp;omega)
 ·replace hkt:(obj O tk).kind=2:=hkt
  replace hg:(obj O tk).gone=false\/0 < (obj O tk).opens:=hg
  refine af.region (gK 1 [(7,.iface 135 (vP (L.b tk)))] [] ?_)
  refine gL [] (cU (L.b tk)) ?_
  rintro _ _ ⟨rfl,rfl⟩
  refine gK 1 [(4,vP (L.b tk))] [] ?_
  refine NN (af.seq (SR (gK 6 [(14,.bool (!(obj O tk).gone))] [(3,v_ 0 (nw L hkt))] ?_)))
  refine aj.nF 14 (!(obj O tk).gone) (fun _=>by kernel_rfl) (fun iQ=>?_) (fun iQ=>?_)
  ·refine gK 6 [(20,.bool true)] [] ?_
   refine NN (CT (af.ret (ai.ak ?_)))
   exact RT (.tuple #[]) [0,1] (⟨rfl,rfl⟩)
  refine gK 6 [(20,.bool (decide (((obj O tk).opens:Int) > (0:Int))))] [(3,v_ 0 (jL L hkt))] ?_
  refine NN (af.aZ (p:=((obj O tk).opens:Int) > (0:Int)) (fun _=>by kernel_rfl) (fun oR=>?_) (fun oR=>?_))
  ·refine af.ret (ai.ak ?_)
   exact RT (.tuple #[]) [0,1] (⟨rfl,rfl⟩)
  exact absurd hg (by simp at iQ;rw [iQ];simp;omega)
 replace hkt:(obj O tk).kind=3:=hkt
 replace hg:(obj O tk).gone=false\/0 < (obj O tk).opens:=hg
 refine af.region (gK 1 [(7,.iface 132 (vP (L.b tk)))] [] ?_)
 refine gL [] (cU (L.b tk)) ?_
 rintro _ _ ⟨rfl,rfl⟩
 refine gK 1 [(4,vP (L.b tk))] [] ?_
 refine NN (af.seq (SR (gK 6 [(14,.bool (!(obj O tk).gone))] [(3,v_ 0 (nw L hkt))] ?_)))
 refine aj.nF 14 (!(obj O tk).gone) (fun _=>by kernel_rfl) (fun iQ=>?_) (fun iQ=>?_)
 ·refine gK 6 [(20,.bool true)] [] ?_
  refine NN (CT (af.ret (ai.ak ?_)))
  exact RT (.tuple #[]) [0,1] (⟨rfl,rfl⟩)
 refine gK 6 [(20,.bool (decide (((obj O tk).opens:Int) > (0:Int))))] [(3,v_ 0 (jL L hkt))] ?_
 refine NN (af.aZ (p:=((obj O tk).opens:Int) > (0:Int)) (fun _=>by kernel_rfl) (fun oR=>?_) (fun oR=>?_))
 ·refine af.ret (ai.ak ?_)
  exact RT (.tuple #[]) [0,1] (⟨rfl,rfl⟩)
 exact absurd hg (by simp at iQ;rw [iQ];simp;omega)
theorem qp {β:Bs} (X:FM) (f m t:Nat) (hX:0<=X.ah/\X.ah<=1048576/\-1125899906842624<=X.used/\X.used<=1125899906842624/\0<=X.last/\X.last<=1125899906842624) (O:bY) (L:HL) (idx:Used Th) (J4:aE.cQ (keys idx)) (th:Th) (hkt:(obj O th.k).kind=th.kind) (h3:th.kind=1\/th.kind=2\/th.kind=3) (ho:0<=(obj O th.k).opens) (hix:ru O th->aE.get idx (obj O th.k).id=some th) (hw:(Lit.int .i64 (obj O th.k).id).wf=true) (wZ:(obj O th.k).data.length<=1125899906842624) :
    Spec Tryz.prog β 136 #[vP f,(dz L th)] [pO O L,pF f m t X,pI m L idx] (fun v l=>v=.tuple #[]/\l=[pO O L,pF f m t { X with used:=jQ O X.used th },pI m L (jB O idx th)]):=by
  unfold jQ jB
  by_cases h:ru O th
  ·rw [if_pos h,if_pos h]
   exact LM X f m t hX O L idx J4 th hkt h3 h.1 h.2 (hix h) hw wZ
  rw [if_neg h,if_neg h]
  refine (Spec.Ce (pre:=[pO O L]) (R:=[pF f m t X,pI m L idx]) (fun _ _=>Iw O L f th hkt h3 ?_)).mono (by rintro v l ⟨l0,⟨rfl,rfl⟩,rfl⟩;exact⟨rfl,rfl⟩)
  cases hg:(obj O th.k).gone with
  | false=>exact .inl rfl
  | true=>exact .inr (by have:¬ (obj O th.k).opens=0:=fun e=>h ⟨hg,e⟩;omega)
theorem tN {β:Bs} (X:FM) (f m t:Nat):Spec Tryz.prog β 129 #[vP f] [J3 f X m t] (fun v l=>v=.bool (decide (X.ah < 8192))/\l=[J3 f X m t]):=by
 refine Spec.enter Tryz.func129 rfl Tryz.ntmps129 (Nat.le_of_ble_eq_true rfl) (fun R=>?_)
 refine SR (gK 1 [] [] ?_)
 refine NS (gK 6 [(2,.bool (decide ((X.ah:Int) < (8192:Int))))] [(3,a_ 0 f)] ?_)
 refine NN (af.ret ?_)
 exact RT (.bool (decide ((X.ah:Int) < (8192:Int)))) [0,1] (⟨rfl,rfl⟩)
theorem fJ {β:Bs} (a b:Int):Spec Tryz.prog β 59 #[vI a,vI b] [] (fun v l=>v=.bool (decide (0<=a/\a<=b))/\l=[]):=by
 refine Spec.enter Tryz.func59 rfl Tryz.ntmps59 (Nat.le_of_ble_eq_true rfl) (fun R=>?_)
 refine SR (gK 1 [] [] ?_)
 refine NS (gK 3 [(7,.bool (decide ((a:Int) ≥ (0:Int))))] [] ?_)
 refine aj.gI 7 ((a:Int) ≥ (0:Int)) (fun _=>by kernel_rfl) (fun h7=>?_) (fun h7=>?_)
 ·refine gK 5 [(4,.bool (decide ((a:Int)<=(b:Int))))] [] ?_
  refine NN (af.ret ?_)
  exact RT (.bool (decide ((a:Int)<=(b:Int)))) [0] (⟨by first|exact congrArg Value.bool (decide_eq_decide.2 (by omega))|exact congrArg Value.bool (decide_eq_true (by omega)).symm|exact congrArg Value.bool (decide_eq_false (by omega)).symm,rfl⟩)
 refine gK 5 [(4,.bool false)] [] ?_
 refine NN (af.ret ?_)
 exact RT (.bool false) [0] (⟨by first|exact congrArg Value.bool (decide_eq_decide.2 (by omega))|exact congrArg Value.bool (decide_eq_true (by omega)).symm|exact congrArg Value.bool (decide_eq_false (by omega)).symm,rfl⟩)
theorem EM {β:Bs} (X:FM) (f m t:Nat) (L:HL) (idx:Used Th):Spec Tryz.prog β 166 #[vP f] [J3 f X m t,.abs (aJ Tryz.prog 3 m (aW (aV L idx)) idx.length)] (fun v l=>v=.bool (decide ((idx.length:Int) < X.cN/\X.last < 1099511627776/\X.ah < 8192))/\l=[J3 f X m t,.abs (aJ Tryz.prog 3 m (aW (aV L idx)) idx.length)]):=by
 refine Spec.enter Tryz.func166 rfl Tryz.ntmps166 (Nat.le_of_ble_eq_true rfl) (fun R=>?_)
 refine SR (gK 1 [] [] ?_)
 refine NN (af.seq (af.bH (by kernel_rfl) (by kernel_rfl) ?_))
 refine gQ 4 [(6,.map (some m))] [(3,a_ 0 f)] ?_
 refine aP.tX 1 (d:=(some 7)) (t:=120) (K:=3) (E:=124) (b:=m) (n:=idx.length) (f:=(aW (aV L idx))) (x:=(.tmp 6)) (ats:=#[120]) (fun _=>by kernel_rfl) (by kernel_rfl) (fun _=>by kernel_rfl) rfl Tryz.underlying120 ?_
 refine gQ 7 [(14,.bool (decide ((((idx.length:Nat):Int):Int) < (X.cN:Int))))] [(4,a_ 0 f)] ?_
 refine aP.gI 14 ((((idx.length:Nat):Int):Int) < (X.cN:Int)) (fun _=>by kernel_rfl) (fun iQ=>?_) (fun iQ=>?_)
 ·refine gQ 7 [(21,.bool (decide ((X.last:Int) < (1099511627776:Int))))] [(3,a_ 0 f)] ?_
  refine aP.gI 21 ((X.last:Int) < (1099511627776:Int)) (fun _=>by kernel_rfl) (fun um=>?_) (fun um=>?_)
  ·refine gQ 1 [(22,vP f)] [] ?_
   refine aP.call (f:=129) (args:=#[vP f]) (d:=(some 23)) (pre:=[pF f m t X]) (R:=[pI m L idx,.abs R]) (pk:=[0,1,2]) (iW:=[0,1,2]) (v0:=.bool (decide (X.ah < 8192))) (fun _=>by kernel_rfl) (tN X f m t) rfl (by kernel_rfl) rfl (by kernel_rfl) (fun _ _ h=>h) ?_
   refine gQ 2 [(2,.bool (decide (X.ah < 8192)))] [] ?_
   refine NQ (NX (af.ret ?_))
   exact RT (.bool (decide (X.ah < 8192))) [0,1,2] (⟨by first|exact congrArg Value.bool (decide_eq_decide.2 (by omega))|exact congrArg Value.bool (decide_eq_true (by omega)).symm|exact congrArg Value.bool (decide_eq_false (by omega)).symm,rfl⟩)
  refine gQ 4 [(2,.bool false)] [] ?_
  refine NQ (NX (af.ret ?_))
  exact RT (.bool false) [0,1,2] (⟨by first|exact congrArg Value.bool (decide_eq_decide.2 (by omega))|exact congrArg Value.bool (decide_eq_true (by omega)).symm|exact congrArg Value.bool (decide_eq_false (by omega)).symm,rfl⟩)
 refine gQ 11 [(2,.bool false)] [] ?_
 refine NQ (NX (af.ret ?_))
 exact RT (.bool false) [0,1,2] (⟨by first|exact congrArg Value.bool (decide_eq_decide.2 (by omega))|exact congrArg Value.bool (decide_eq_true (by omega)).symm|exact congrArg Value.bool (decide_eq_false (by omega)).symm,rfl⟩)
theorem sZ {β:Bs} (X:FM) (f m t:Nat) (hX:0<=X.ah/\X.ah<=1048576/\-1125899906842624<=X.used/\X.used<=1125899906842624/\0<=X.last/\X.last<=1125899906842624) (mode:Int):Spec Tryz.prog β 126 #[vP f,vI mode] [J3 f X m t] (fun v l=>v=.agg #[vI (X.last+1),vI mode,vI 0,vI 0,vI X.cS,vI X.cZ,vI 0,vI 0,.bool false]/\l=[.blk f [vI (X.cN),vI (X.cB),vI (X.cH),vI (X.cS),vI (X.cZ),.map (some m),vP t,vI (X.last+1),vI (X.ah),vI (X.used)] 126]):=by
 refine Spec.enter Tryz.func126 rfl Tryz.ntmps126 (Nat.le_of_ble_eq_true rfl) (fun R=>?_)
 refine SR (gN 1 (fun b1=>[(4,vP b1)]) (fun _=>[]) (fun _=>[]) (fun b1=>.blk b1 [vI 0,vI 0,vI 0,vI 0,vI 0,vI 0,vI 0,vI 0,.bool false] 128) (fun b1=>?_))
 refine NS (gC 8 [] [(3,a_ 0 f),(4,p_ ⟨[],none,none,none,some (vI (X.last+1))⟩ [(Value.int .i64 (IntKind.wrap .i64 (X.last+1)))=(.int .i64 (X.last+1))] ⟨bD (by omega) (by omega) (by omega),trivial⟩),(7,a_ 0 f)] [(0,[(7,vI (X.last+1))])] ?_)
 refine NN (af.seq (af.bP (S:=[pF f m t { X with last:=X.last+1 },.abs R,.blk b1 [vI 0,vI 0,vI 0,vI 0,vI 0,vI 0,vI 0,vI 0,.bool false] 128]) [0,1,2,3,4,5,6,7,8,9,10,11] 11 [0,1,2] (by kernel_rfl) (by kernel_rfl) rfl (by kernel_rfl) ?_))
 refine gR 0 [11] [(4,vP b1),(22,.agg #[vI (X.last+1),vI (mode),vI 0,vI 0,vI (X.cS),vI (X.cZ),vI 0,vI 0,.bool false])] [0,1,2,3,4,5,6,7,8,9,10] [(3,a_ 0 f),(9,A_ 0 f 2)] ?_
 refine aL.last rfl rfl ?_
 refine gC 1 [] [(0,A_ 2 b1 9)] [(2,[(0,vI (X.last+1)),(1,vI (mode)),(4,vI (X.cS)),(5,vI (X.cZ))])] ?_
 refine NL (ai.np (NX (af.ret ?_)))
 exact ai.ret (v:=.agg #[vI (X.last+1),vI (mode),vI 0,vI 0,vI (X.cS),vI (X.cZ),vI 0,vI 0,.bool false]) (l:=[pF f m t { X with last:=X.last+1 }]) (bA:=[b1=b1,b1=b1,b1=b1,b1=b1,b1=b1,b1=b1,b1=b1,b1=b1,b1=b1]) [.at 2,.at 2,.at 2,.at 2,.at 2,.at 2,.at 2,.at 2,.at 2] [0,1] (fun _=>by kernel_rfl) ⟨rfl,rfl,rfl,rfl,rfl,rfl,rfl,rfl,rfl,trivial⟩ rfl (by kernel_rfl) (⟨rfl,rfl⟩)
end
section
open Go.RowKit Go.Maps bG aE
structure aG where
  X:FM
  O:bY
  idx:Used Th
  us:Used Th
  ar:Int
abbrev pA (f m t:Nat) (L:HL) (S:aG):List HP:=[pF f m t S.X,pI m L S.idx,pT t S.X.cH S.ar L S.us,pO S.O L,pD S.O L,pE S.O L]
structure aB where
  op:Int
  handle:Int
  other:Int
  name:ByteArray
  text:ByteArray
  dA:Option Addr
  dC:Nat
  data:List UInt8
  mode:Int
  uid:Int
  gid:Int
  sec:Int
  nano:Int
  code:Int
  answer:Int
def bK (c:aB):List Value:=[.int .i64 c.op,.int .i64 c.handle,.int .i64 c.other,.string c.name,.string c.text,.slice c.dA c.data.length c.dC,.int .i64 c.mode,.int .i64 c.uid,.int .i64 c.gid,.int .i64 c.sec,.int .i64 c.nano,.int .i64 c.code,.int .i64 c.answer]
abbrev pC (cb:Nat) (c:aB):HP:=.blk cb (bK c) 48
abbrev c0 (c:aB):aB:={ c with answer:=0,code:=230 }
def Ty (L:HL):Except Int Nat->Value
  | .error e=>.tuple #[.pointer none,.int .i64 e]
  | .ok d=>.tuple #[.pointer (some ⟨L.b d,0,none⟩),.int .i64 0]
def Tz (L:HL):Except Int Th->Value
  | .error e=>.tuple #[.nilIface,.int .i64 e]
  | .ok t=>.tuple #[dz L t,.int .i64 0]
noncomputable section
def dU (O:bY) (us:Used Th) (h:Int) (name:ByteArray) (need:Int):Except Int Nat:=
  match aE.get us h with
  | none=>.error 131
  | some t=>
    if t.kind=2 then
      if (obj O t.k).gone=true then .error 170
      else if bI name then if bits BinOp.and .i64 (obj O t.k).mode need=need then .ok t.k else .error 175
      else .error 95
    else .error 173
def mX (s:ByteArray):Int:=
  if s=⟨#[]⟩ then 90 else if s.size > 4096 then 93 else if xY s then 0 else 91
def Room (X:FM) (idx:Used Th):Prop:=(idx.length:Int) < X.cN/\X.last < 1099511627776/\X.ah < 8192
instance (X:FM) (idx:Used Th):Decidable (Room X idx):=inferInstanceAs (Decidable (_/\_/\_))
def bZ (X:FM) (O:bY) (idx:Used Th) (d:Nat) (name:ByteArray):Int:=
  if aT name (obj O d).ah=none then if Room X idx then 0 else 177 else 171
def aU (X:FM) (kind mode:Int):aR:=⟨X.last+1,mode,0,0,X.cS,X.cZ,0,0,false,kind,[],⟨#[]⟩,[],none⟩
def aO (X:FM):Nat:=(X.last+1).toNat
def eP (S:aG) (d:Nat) (name:ByteArray) (o:aR):aG:=
  { S with
    X:={ S.X with last:=S.X.last+1,ah:=S.X.ah+1 }
    O:=cR S.X (aD S.O (aO S.X) (fun _=>o)) d name ⟨aO S.X,o.kind⟩
    idx:=ins (S.X.last+1) ⟨aO S.X,o.kind⟩ S.idx }
def aI (S:aG) (d:Nat) (name:ByteArray) (t:Th):aG:=
  { S with
    X:={ S.X with ah:=S.X.ah - 1,used:=if (obj (aQ S.X S.O d name t) t.k).links=0 then jQ (pY (aQ S.X S.O d name t) t.k) S.X.used t else S.X.used }
    O:=if (obj (aQ S.X S.O d name t) t.k).links=0 then pY (aQ S.X S.O d name t) t.k else aQ S.X S.O d name t
    idx:=if (obj (aQ S.X S.O d name t) t.k).links=0 then jB (pY (aQ S.X S.O d name t) t.k) S.idx t else S.idx }
theorem s5 {S:aG} {d:Nat} {name:ByteArray} {t:Th} (h:(obj (aQ S.X S.O d name t) t.k).links=0):aI S d name t={ S with X:={ S.X with ah:=S.X.ah - 1,used:=jQ (pY (aQ S.X S.O d name t) t.k) S.X.used t },O:=pY (aQ S.X S.O d name t) t.k,idx:=jB (pY (aQ S.X S.O d name t) t.k) S.idx t }:=by
  unfold aI
  simp only [if_pos h]
theorem tf {S:aG} {d:Nat} {name:ByteArray} {t:Th} (h:¬ (obj (aQ S.X S.O d name t) t.k).links=0):aI S d name t={ S with X:={ S.X with ah:=S.X.ah - 1 },O:=aQ S.X S.O d name t }:=by
  unfold aI
  simp only [if_neg h]
def gF (S:aG) (d:Nat) (name:ByteArray) (mode:Int):Int×aG:=
  if bZ S.X S.O S.idx d name=0 then (0,eP S d name (aU S.X 2 mode)) else (bZ S.X S.O S.idx d name,S)
def eE (S:aG) (d:Nat) (name text:ByteArray):Int×aG:=
  if mX text=0 then
    if bZ S.X S.O S.idx d name=0 then (0,eP S d name { aU S.X 3 511 with target:=text }) else (bZ S.X S.O S.idx d name,S)
  else (mX text,S)
def dX (S:aG) (d:Nat) (name:ByteArray):Int×aG:=
  match aT name (obj S.O d).ah with
  | none=>(170,S)
  | some t=>if t.kind=2 then (172,S) else (0,aI S d name t)
def orphan (O:bY) (k:Nat):bY:=aD O k (fun o=>{ o with up:=none })
def eG (S:aG) (d:Nat) (name:ByteArray):Int×aG:=
  match aT name (obj S.O d).ah with
  | none=>(170,S)
  | some t=>if t.kind=2 then if (obj S.O t.k).ah=[] then (0,{ aI S d name t with O:=orphan (aI S d name t).O t.k }) else (178,S) else (173,S)
inductive jD (O:bY) (sub:Nat):Nat->Prop
  | here:jD O sub sub
  | up {k j:Nat}:(obj O k).up=some j->jD O sub j->jD O sub k
instance (O:bY) (sub k:Nat):Decidable (jD O sub k):=Classical.propDecidable _
def nI (S:aG) (d:Nat) (name:ByteArray) (to:Nat) (toName:ByteArray) (t:Th):aG:=
  { S with X:={ S.X with ah:=S.X.ah - 1+1 },O:=cR S.X (aQ S.X S.O d name t) to toName t }
def bF (S:aG) (d:Nat) (name:ByteArray) (to:Nat) (toName:ByteArray):Int×aG:=
  match aT name (obj S.O d).ah with
  | none=>(170,S)
  | some t=>
    if t.kind=2/\jD S.O t.k to then (174,S)
    else match aT toName (obj S.O to).ah with
      | none=>(0,nI S d name to toName t)
      | some o=>
        if o=t then (0,S) else if o.kind=2 then (172,S) else if t.kind=2 then (173,S)
        else (0,nI (aI S to toName o) d name to toName t)
def bh (X:FM) (n:Nat):Nat:=(min (n:Int) (X.cB - X.used)).toNat
def dI (S:aG) (k:Nat) (bs:List UInt8):Int×Int×aG:=
  if bs=[] then (0,0,S)
  else if S.X.cB - S.X.used<=0 then (0,176,S)
  else ((bh S.X bs.length:Int),0,{ S with
    X:={ S.X with used:=S.X.used+(bh S.X bs.length:Int) }
    O:=aD S.O k (fun o=>{ o with data:=o.data++bs.take (bh S.X bs.length),sec:=S.X.cS,nano:=S.X.cZ }) })
def cr (S:aG) (t:Th):Int×Int×aG:=
  (if (S.us.length:Int) < S.X.cH then least S.us else 0,if (S.us.length:Int) < S.X.cH then 0 else 130,{ S with
    O:=if (S.us.length:Int) < S.X.cH then aD S.O t.k (fun o=>{ o with opens:=o.opens+1 }) else S.O
    us:=if (S.us.length:Int) < S.X.cH then ins (least S.us) t S.us else S.us
    ar:=if (S.us.length:Int) < S.X.cH then max S.ar ((S.us.length:Int)+1) else S.ar })
theorem kG {S:aG} {t:Th} (h:(S.us.length:Int) < S.X.cH):cr S t=(least S.us,0,{ S with O:=aD S.O t.k (fun o=>{ o with opens:=o.opens+1 }),us:=ins (least S.us) t S.us,ar:=max S.ar ((S.us.length:Int)+1) }):=by
  unfold cr
  simp only [if_pos h]
theorem l6 {S:aG} {t:Th} (h:¬ (S.us.length:Int) < S.X.cH):cr S t=(0,130,S):=by
  unfold cr
  simp only [if_neg h]
abbrev qN:=Int×aG×aB
def jl (S:aG) (c:aB):qN:=
  match aE.get S.idx c.other with
  | none=>(141,S,c)
  | some t=>if t.kind=2 then ((cr S t).2.1,(cr S t).2.2,{ c with answer:=(cr S t).1 }) else (173,S,c)
def fP (O:bY) (us:Used Th) (c:aB):Except Int Th:=
  match dU O us c.handle c.name 64 with
  | .error e=>.error e
  | .ok d=>match aT c.name (obj O d).ah with
    | none=>.error 170
    | some t=>.ok t
def fD (S:aG) (c:aB):qN:=
  match fP S.O S.us c with
  | .error e=>(e,S,c)
  | .ok t=>if t.kind=3 then (174,S,c) else if t.kind=1 then (173,S,c) else ((cr S t).2.1,(cr S t).2.2,{ c with answer:=(cr S t).1 })
def eM (S:aG) (c:aB):qN:=
  match fP S.O S.us c with
  | .error e=>(e,S,c)
  | .ok t=>if t.kind=3 then (174,S,c) else if t.kind=2 then (172,S,c) else ((cr S t).2.1,(cr S t).2.2,{ c with answer:=(cr S t).1 })
def nB (m:Int):Prop:=0<=m/\m<=4095
instance (m:Int):Decidable (nB m):=inferInstanceAs (Decidable (_/\_))
def fQ (S:aG) (c:aB):qN:=
  match dU S.O S.us c.handle c.name 192 with
  | .error e=>(e,S,c)
  | .ok d=>if nB c.mode then ((gF S d c.name c.mode).1,(gF S d c.name c.mode).2,c) else (120,S,c)
def mJ (S:aG) (d:Nat) (name:ByteArray) (mode:Int):Int×Int×aG:=
  if bZ S.X S.O S.idx d name=0 then
    if (S.us.length:Int) < S.X.cH then
      (least S.us,0,eP { S with us:=ins (least S.us) ⟨aO S.X,1⟩ S.us,ar:=max S.ar ((S.us.length:Int)+1) } d name { aU S.X 1 mode with opens:=1 })
    else (0,130,S)
  else (0,bZ S.X S.O S.idx d name,S)
def dY (S:aG) (c:aB):qN:=
  match dU S.O S.us c.handle c.name 192 with
  | .error e=>(e,S,c)
  | .ok d=>if nB c.mode then
      if bZ S.X S.O S.idx d c.name=0 then ((mJ S d c.name c.mode).2.1,(mJ S d c.name c.mode).2.2,{ c with answer:=(mJ S d c.name c.mode).1 })
      else (bZ S.X S.O S.idx d c.name,S,c)
    else (120,S,c)
def fK (S:aG) (c:aB):qN:=
  match dU S.O S.us c.handle c.name 192 with
  | .error e=>(e,S,c)
  | .ok d=>((eE S d c.name c.text).1,(eE S d c.name c.text).2,c)
def fw (S:aG) (d:Nat) (name:ByteArray) (to:Nat) (toName:ByteArray):Int×aG:=
  match aT name (obj S.O d).ah with
  | none=>(170,S)
  | some t=>if t.kind=2 then (172,S)
    else if aT toName (obj S.O to).ah=none then
      if S.X.ah < 8192 then (0,{ S with X:={ S.X with ah:=S.X.ah+1 },O:=cR S.X S.O to toName t }) else (177,S)
    else (171,S)
def cE (S:aG) (c:aB):qN:=
  match dU S.O S.us c.handle c.name 64 with
  | .error e=>(e,S,c)
  | .ok d=>match dU S.O S.us c.other c.text 192 with
    | .error e=>(e,S,c)
    | .ok to=>((fw S d c.name to c.text).1,(fw S d c.name to c.text).2,c)
def gh (S:aG) (c:aB):qN:=
  match dU S.O S.us c.handle c.name 192 with
  | .error e=>(e,S,c)
  | .ok d=>((dX S d c.name).1,(dX S d c.name).2,c)
def iu (S:aG) (c:aB):qN:=
  match dU S.O S.us c.handle c.name 192 with
  | .error e=>(e,S,c)
  | .ok d=>((eG S d c.name).1,(eG S d c.name).2,c)
def fB (S:aG) (c:aB):qN:=
  match dU S.O S.us c.handle c.name 192 with
  | .error e=>(e,S,c)
  | .ok d=>match dU S.O S.us c.other c.text 192 with
    | .error e=>(e,S,c)
    | .ok to=>((bF S d c.name to c.text).1,(bF S d c.name to c.text).2,c)
def fZ (S:aG) (c:aB):qN:=
  match aE.get S.us c.handle with
  | none=>(131,S,c)
  | some t=>if t.kind=1 then ((dI S t.k c.data).2.1,(dI S t.k c.data).2.2,{ c with answer:=(dI S t.k c.data).1 }) else (172,S,c)
def AL (m:Int):Prop:=0<=m/\m<=2147483647
instance (m:Int):Decidable (AL m):=inferInstanceAs (Decidable (_/\_))
def bJ (S:aG) (c:aB):qN:=
  match aE.get S.us c.handle with
  | none=>(131,S,c)
  | some t=>
    if (obj S.O t.k).gone=true/\t.kind=2 then (170,S,c)
    else if nB c.mode then
      if AL c.uid/\AL c.gid then
        if dL c.sec c.nano then (0,{ S with O:=aD S.O t.k (fun o=>{ o with mode:=c.mode,uid:=c.uid,gid:=c.gid,sec:=c.sec,nano:=c.nano }) },c)
        else (20,S,c)
      else (11,S,c)
    else (120,S,c)
def lN (O:bY) (c:aB):Option Th->aB
  | none=>{ c with other:=0,mode:=0,uid:=0,gid:=0,sec:=0,nano:=0 }
  | some t=>{ c with answer:=(obj O t.k).id,other:=t.kind,mode:=(obj O t.k).mode,uid:=(obj O t.k).uid,gid:=(obj O t.k).gid,sec:=(obj O t.k).sec,nano:=(obj O t.k).nano }
def j6 (S:aG) (c:aB):qN:=
  match aE.get S.us c.handle with
  | none=>(131,S,lN S.O c none)
  | some t=>(0,S,lN S.O c (some t))
def gi (S:aG) (c:aB):qN:=
  match fP S.O S.us c with
  | .error e=>(e,S,lN S.O c none)
  | .ok t=>(0,S,lN S.O c (some t))
def qq (O:bY) (k:Nat):bY:=aD O k (fun o=>{ o with opens:=o.opens - 1 })
def ji (S:aG) (c:aB):qN:=
  match aE.get S.us c.handle with
  | none=>(131,S,c)
  | some t=>(0,{ S with
      X:={ S.X with used:=jQ (qq S.O t.k) S.X.used t }
      O:=qq S.O t.k
      idx:=jB (qq S.O t.k) S.idx t
      us:=del c.handle S.us },c)
def cK (S:aG) (c:aB):qN:=
  if c.op=1 then jl S c else if c.op=2 then fD S c else if c.op=3 then eM S c else if c.op=4 then fQ S c
  else if c.op=5 then dY S c else if c.op=6 then fK S c else if c.op=7 then cE S c else if c.op=8 then gh S c
  else if c.op=9 then fZ S c else if c.op=10 then bJ S c else if c.op=11 then j6 S c else if c.op=12 then gi S c
  else if c.op=13 then ji S c else if c.op=14 then iu S c else if c.op=15 then fB S c else (230,S,c)
def bQ (S:aG) (c:aB):aG×aB:=
  ((cK S { c with answer:=0,code:=230 }).2.1,{ (cK S { c with answer:=0,code:=230 }).2.2 with code:=(cK S { c with answer:=0,code:=230 }).1 })
end
end
section
open Go.RowKit Go.Maps bG aE
section sums
variable {V:Type} {g g':Int×V->Nat} {us:Used V} {h:Int} {v:V}
def dF (g:Int×V->Nat):Used V->Nat
  | []=>0
  | p::r=>g p+dF g r
theorem zC:dF g (ins h v us)=g (h,v)+dF g us:=by
  induction us with
  | nil=>rfl
  | cons p r ih=>
    unfold ins
    split
    ·rfl
    show g p+dF g (ins h v r)=g (h,v)+(g p+dF g r)
    rw [ih];omega
theorem fT (hc:∀ p∈us,g' p=g p):dF g' us=dF g us:=by
  induction us with
  | nil=>rfl
  | cons p r ih=>
    show g' p+dF g' r=g p+dF g r
    rw [hc p (List.mem_cons_self ..),ih (fun q hq=>hc q (List.mem_cons_of_mem _ hq))]
theorem GS (hc:∀ p∈us,g' p<=g p):dF g' us<=dF g us:=by
  induction us with
  | nil=>exact Nat.le_refl _
  | cons p r ih=>
    show g' p+dF g' r<=g p+dF g r
    exact Nat.add_le_add (hc p (List.mem_cons_self ..)) (ih (fun q hq=>hc q (List.mem_cons_of_mem _ hq)))
theorem si {p:Int×V} {r:Used V}:aE.get (p::r) h=if p.1=h then some p.2 else aE.get r h:=by
  unfold aE.get
  rw [List.find?_cons]
  by_cases e:p.1=h
  ·simp [e]
  have e2:(p.1 == h)=false:=by simpa using e
  rw [e2,if_neg e]
theorem get_mem {us:Used V} (e:aE.get us h=some v):(h,v)∈us:=by
  induction us with
  | nil=>cases e
  | cons p r ih=>
    rw [si] at e
    split at e
    ·rename_i e2;cases e;subst e2;exact List.mem_cons_self ..
    exact List.mem_cons_of_mem _ (ih e)
theorem mK {us:Used V} (hr:aE.cQ (keys us)) (e:(h,v)∈us):aE.get us h=some v:=by
  induction us with
  | nil=>cases e
  | cons p r ih=>
    rw [keys_cons] at hr
    obtain⟨h1,h2⟩:=List.pairwise_cons.1 hr
    rw [si]
    rcases List.mem_cons.1 e with e|e
    ·subst e;rw [if_pos rfl]
    have:p.1 < h:=h1 h (List.mem_map.2 ⟨(h,v),e,rfl⟩)
    rw [if_neg (by omega)]
    exact ih h2 e
theorem lF (e:aE.get us h=some v):g (h,v)<=dF g us:=by
  have hm:=get_mem e
  induction us with
  | nil=>cases hm
  | cons p r ih=>
    show _<=g p+dF g r
    rw [si] at e
    split at e
    ·rename_i e2;cases e;subst e2;exact Nat.le_add_right ..
    rcases List.mem_cons.1 hm with e2|e2
    ·subst e2;exact Nat.le_add_right ..
    exact Nat.le_trans (ih e e2) (Nat.le_add_left ..)
theorem zD (hr:aE.cQ (keys us)) (e:aE.get us h=some v) (hc:∀ p∈us,p.1≠h->g' p=g p):dF g' us+g (h,v)=dF g us+g' (h,v):=by
  induction us with
  | nil=>cases e
  | cons p r ih=>
    rw [keys_cons] at hr
    obtain⟨h1,h2⟩:=List.pairwise_cons.1 hr
    rw [si] at e
    show g' p+dF g' r+_=g p+dF g r+_
    split at e
    ·rename_i e2
     cases e
     have e3:dF g' r=dF g r:=fT (fun q hq=>hc q (List.mem_cons_of_mem _ hq) (by
       have:=h1 q.1 (List.mem_map.2 ⟨q,hq,rfl⟩);omega))
     have e4:p=(h,p.2):=by rw [← e2]
     rw [e3,← e4];omega
    rename_i e2
    have:=ih h2 e (fun q hq=>hc q (List.mem_cons_of_mem _ hq))
    have:=hc p (List.mem_cons_self ..) e2
    omega
theorem LO {p:Int×V} {r:Used V}:del h (p::r)=if p.1=h then del h r else p::del h r:=by
  unfold del
  rw [List.filter_cons]
  by_cases e:p.1=h
  ·simp [e]
  simp [e]
theorem Oz {us:Used V} (hn:h∉keys us):del h us=us:=by
  unfold del
  refine List.filter_eq_self.2 (fun p hp=>?_)
  have:¬ p.1=h:=fun e=>hn (List.mem_map.2 ⟨p,hp,e⟩)
  simp [this]
theorem zE (hr:aE.cQ (keys us)) (e:aE.get us h=some v):dF g (del h us)+g (h,v)=dF g us:=by
  induction us with
  | nil=>cases e
  | cons p r ih=>
    rw [keys_cons] at hr
    obtain⟨h1,h2⟩:=List.pairwise_cons.1 hr
    rw [si] at e
    rw [LO]
    show _=g p+dF g r
    split at e
    ·rename_i e2
     cases e
     rw [if_pos e2,Oz (fun hm=>by have:=h1 h hm;omega)]
     have e4:p=(h,p.2):=by rw [← e2]
     rw [← e4];omega
    rename_i e2
    rw [if_neg e2]
    show g p+dF g (del h r)+_=_
    have:=ih h2 e
    omega
theorem EN {us:Used V} (hr:aE.cQ (keys us)):aE.cQ (keys (del h us)):=by
  rw [nN]
  exact List.Pairwise.filter _ hr
end sums
section TA
variable {n:ByteArray} {t:Th} {es:eY Th} {q:ByteArray×Th->Bool}
theorem J5:(gE n t es).countP q=es.countP q+if q (n,t) then 1 else 0:=by
  induction es with
  | nil=>simp [gE,List.countP_cons]
  | cons e r ih=>
    unfold gE
    split
    ·rw [List.countP_cons]
    rw [List.countP_cons,ih,List.countP_cons];omega
theorem J6 {es:eY Th} (hd:nZ es) (h:aT n es=some t):(fX n es).countP q+(if q (n,t) then 1 else 0)=es.countP q:=by
  induction es with
  | nil=>cases h
  | cons e r ih=>
    obtain⟨h1,h2⟩:=List.pairwise_cons.1 hd
    rw [ij] at h
    rw [List.countP_cons]
    by_cases he:e.1=n
    ·rw [if_pos he] at h
     have e1:fX n (e::r)=r:=by
       unfold fX
       rw [List.filter_cons,if_neg (by simp [he])]
       exact List.filter_eq_self.2 (fun x hx=>by have:=h1 x hx;simp;exact fun e2=>this (he.trans e2.symm))
     have e2:e=(n,t):=by
       have:e.2=t:=Option.some.inj h
       rw [← he,← this]
     rw [e1,← e2]
    rw [if_neg he] at h
    have e1:fX n (e::r)=e::fX n r:=by
      unfold fX
      rw [List.filter_cons,if_pos (by simp [he])]
    rw [e1,List.countP_cons]
    have:=ih h2 h
    omega
theorem LP {e:ByteArray×Th} {es:eY Th} (h:e∈fX n es):e∈es/\e.1≠n:=by
  unfold fX at h
  have:=List.mem_filter.1 h
  exact⟨this.1,by simpa using this.2⟩
theorem xg {es:eY Th} (hd:nZ es) (h:(n,t)∈es):aT n es=some t:=by
  induction es with
  | nil=>cases h
  | cons e r ih=>
    obtain⟨h1,h2⟩:=List.pairwise_cons.1 hd
    rw [ij]
    rcases List.mem_cons.1 h with h|h
    ·subst h;rw [if_pos rfl]
    rw [if_neg (fun e2=>h1 (n,t) h e2),ih h2 h]
end TA
def Live (idx:Used Th) (t:Th):Prop:=aE.get idx (t.k:Int)=some t
def jC (es:eY Th):Prop:=es.Pairwise (fun a b=>¬ lM b.1 a.1)
def iw (idx:Used Th) (O:bY) (k:Nat):Nat:=dF (fun p=>(obj O p.2.k).ah.countP (fun e=>decide (e.2.k=k))) idx
def tot (idx:Used Th) (O:bY):Nat:=dF (fun p=>(obj O p.2.k).ah.length) idx
def bytes (idx:Used Th) (O:bY):Nat:=dF (fun p=>(obj O p.2.k).data.length) idx
def hnd (us:Used Th) (k:Nat):Nat:=dF (fun p=>if p.2.k=k then 1 else 0) us
structure kg (o:aR):Prop where
  mode:0<=o.mode/\o.mode<=4095
  uid:0<=o.uid/\o.uid<=2147483647
  gid:0<=o.gid/\o.gid<=2147483647
  time:dL o.sec o.nano
  data:o.kind≠1->o.data=[]
  ah:o.kind≠2->o.ah=[]
  target:eO o.kind o.target
structure Inv0 (S:aG):Prop where
  cN:0<=S.X.cN/\S.X.cN<=4096
  cB:0<=S.X.cB/\S.X.cB<=1099511627776
  cH:0<=S.X.cH/\S.X.cH<=1024
  now:dL S.X.cS S.X.cZ
  last:0<=S.X.last/\S.X.last<=1099511627776
  rise:aE.cQ (keys S.idx)
  len:S.idx.length<=4096
  idx:∀ i t,aE.get S.idx i=some t->i=(t.k:Int)/\0 < i/\i<=S.X.last
  ob:∀ t,Live S.idx t->(obj S.O t.k).id=(t.k:Int)/\(obj S.O t.k).kind=t.kind/\(t.kind=1\/t.kind=2\/t.kind=3)
  mt:∀ t,Live S.idx t->kg (obj S.O t.k)
  ah:∀ t,Live S.idx t->∀ e∈(obj S.O t.k).ah,bI e.1/\Live S.idx e.2
  sorted:∀ t,Live S.idx t->jC (obj S.O t.k).ah
  dead:∀ k,(∀ t,Live S.idx t->t.k≠k)->(obj S.O k).ah=[]/\(obj S.O k).up=none
  rz:∀ k:Nat,S.X.last < (k:Int)->(obj S.O k).kind=0
  total:S.X.ah=(tot S.idx S.O:Int)/\S.X.ah<=8192
  links:∀ t,Live S.idx t->(obj S.O t.k).links=(iw S.idx S.O t.k:Int)
  once:∀ t,Live S.idx t->t.kind=2->(obj S.O t.k).links<=1
  opens:∀ t,Live S.idx t->(obj S.O t.k).opens=(hnd S.us t.k:Int)
  usr:aE.cQ (keys S.us)
  xh:∀ x∈keys S.us,1<=x/\x<=S.ar
  Dd:(S.us.length:Int)<=S.X.cH
  ar:0<=S.ar/\S.ar<=S.X.cH
  us:∀ h t,aE.get S.us h=some t->Live S.idx t/\t.kind≠3
  gone:∀ t,Live S.idx t->(obj S.O t.k).gone=true->(obj S.O t.k).links=0/\(obj S.O t.k).ah=[]
  up:∀ t,Live S.idx t->∀ d,(obj S.O t.k).up=some d↔t.kind=2/\Live S.idx ⟨d,2⟩/\∃ n,aT n (obj S.O d).ah=some t
  deep:∃ dp:Nat->Nat,∀ k d,(obj S.O k).up=some d->dp d < dp k
  used:S.X.used=(bytes S.idx S.O:Int)/\S.X.used<=140737488355328
structure Inv (S:aG):Prop extends Inv0 S where
  full:∀ t,Live S.idx t->(obj S.O t.k).gone=true->0 < (obj S.O t.k).opens
end
section
open Go.RowKit Go.Maps bG aE
section at_
variable {X:FM} {O:bY} {d k:Nat} {name:ByteArray} {t:Th}
theorem iR (h:t.k≠d):obj (aQ X O d name t) k=if k=d then { obj O d with ah:=fX name (obj O d).ah,sec:=X.cS,nano:=X.cZ } else if k=t.k then { obj O k with links:=(obj O k).links - 1 } else obj O k:=by
  unfold aQ ql
  by_cases e:k=d
  ·subst e
   rw [cx (fun e=>h e.symm),bL,bL,if_pos rfl]
  rw [if_neg e]
  by_cases e2:k=t.k
  ·subst e2
   rw [bL,cx e,cx e,if_pos rfl]
  rw [cx e2,cx e,cx e,if_neg e2]
theorem xj (h:t.k≠d):obj (cR X O d name t) k=if k=d then { obj O d with ah:=gE name t (obj O d).ah,sec:=X.cS,nano:=X.cZ } else if k=t.k then { obj O k with links:=(obj O k).links+1,up:=if t.kind=2 then some d else (obj O k).up } else obj O k:=by
  unfold cR ql oG
  simp only
  by_cases e:k=d
  ·subst e
   rw [if_pos rfl,bL]
   split
   ·rw [cx (fun e=>h e.symm),cx (fun e=>h e.symm),bL]
   rw [cx (fun e=>h e.symm),bL]
  rw [if_neg e,cx e]
  by_cases e2:k=t.k
  ·subst e2
   rw [if_pos rfl]
   split
   ·rw [bL,bL,cx e]
   rw [bL,cx e]
  rw [if_neg e2]
  split
  ·rw [cx e2,cx e2,cx e]
  rw [cx e2,cx e]
end at_
section counts
variable {idx:Used Th} {O O':bY} {d k:Nat} {n:ByteArray} {t:Th}
theorem LQ {q:ByteArray×Th->Bool} (hr:aE.cQ (keys idx)) (hd:aE.get idx (d:Int)=some ⟨d,2⟩) (hk:∀ i u,aE.get idx i=some u->i=(u.k:Int)) (ho:∀ x,x≠d->(obj O' x).ah=(obj O x).ah) (h1:(obj O' d).ah=fX n (obj O d).ah) (h2:nZ (obj O d).ah) (h3:aT n (obj O d).ah=some t) :
    dF (fun p=>(obj O' p.2.k).ah.countP q) idx+(if q (n,t) then 1 else 0)=dF (fun p=>(obj O p.2.k).ah.countP q) idx:=by
  have h4:=zD (g:=fun p=>(obj O p.2.k).ah.countP q) (g':=fun p=>(obj O' p.2.k).ah.countP q) hr hd (fun p hp hne=>by
    have:=hk p.1 p.2 (mK hr hp)
    show (obj O' p.2.k).ah.countP q=_
    rw [ho p.2.k (by intro e;rw [e] at this;exact hne this)])
  have h5:=J6 (q:=q) h2 h3
  have h6:(obj O' d).ah.countP q=(fX n (obj O d).ah).countP q:=by rw [h1]
  have h7:dF (fun p=>(obj O' p.2.k).ah.countP q) idx+(obj O d).ah.countP q=dF (fun p=>(obj O p.2.k).ah.countP q) idx+(obj O' d).ah.countP q:=h4
  omega
theorem LR {q:ByteArray×Th->Bool} (hr:aE.cQ (keys idx)) (hd:aE.get idx (d:Int)=some ⟨d,2⟩) (hk:∀ i u,aE.get idx i=some u->i=(u.k:Int)) (ho:∀ x,x≠d->(obj O' x).ah=(obj O x).ah) (h1:(obj O' d).ah=gE n t (obj O d).ah) :
    dF (fun p=>(obj O' p.2.k).ah.countP q) idx=dF (fun p=>(obj O p.2.k).ah.countP q) idx+(if q (n,t) then 1 else 0):=by
  have h4:=zD (g:=fun p=>(obj O p.2.k).ah.countP q) (g':=fun p=>(obj O' p.2.k).ah.countP q) hr hd (fun p hp hne=>by
    have:=hk p.1 p.2 (mK hr hp)
    show (obj O' p.2.k).ah.countP q=_
    rw [ho p.2.k (by intro e;rw [e] at this;exact hne this)])
  have h5:=J5 (q:=q) (n:=n) (t:=t) (es:=(obj O d).ah)
  have h6:(obj O' d).ah.countP q=(gE n t (obj O d).ah).countP q:=by rw [h1]
  have h7:dF (fun p=>(obj O' p.2.k).ah.countP q) idx+(obj O d).ah.countP q=dF (fun p=>(obj O p.2.k).ah.countP q) idx+(obj O' d).ah.countP q:=h4
  omega
theorem mg:tot idx O=dF (fun p=>(obj O p.2.k).ah.countP (fun _=>true)) idx:=fT (fun p _=>by simp)
theorem J7 {q:ByteArray×Th->Bool} (ho:∀ x,(obj O' x).ah=(obj O x).ah):dF (fun p=>(obj O' p.2.k).ah.countP q) idx=dF (fun p=>(obj O p.2.k).ah.countP q) idx:=fT (fun p _=>by rw [ho])
theorem J8:iw idx O k<=tot idx O:=by
  rw [mg]
  exact GS (fun p _=>List.countP_mono_left (fun _ _ _=>rfl))
theorem mM (hd:aE.get idx (d:Int)=some ⟨d,2⟩) (h:aT n (obj O d).ah=some t):0 < iw idx O t.k:=by
  refine Nat.lt_of_lt_of_le ?_ (lF (g:=fun p=>(obj O p.2.k).ah.countP (fun e=>decide (e.2.k=t.k))) hd)
  exact List.countP_pos_iff.2 ⟨(n,t),lW h,by simp⟩
theorem AO (hr:aE.cQ (keys idx)) (h:0 < iw idx O k):∃ i u,aE.get idx i=some u/\∃ e∈(obj O u.k).ah,e.2.k=k:=by
  apply Classical.byContradiction
  intro hn
  have:iw idx O k=dF (fun _=>0) idx:=fT (fun p hp=>by
    show List.countP _ _=0
    rw [List.countP_eq_zero]
    intro e he hk
    exact hn ⟨p.1,p.2,mK hr hp,e,he,by simpa using hk⟩)
  have h0:∀ us:Used Th,dF (fun _=>0) us=0:=fun us=>by
    induction us with
    | nil=>rfl
    | cons p r ih=>show 0+_=0;rw [ih]
  rw [this,h0] at h
  omega
end counts
end
section
open Go.RowKit Go.Maps bG aE
section inv
variable {S:aG} {d k:Nat} {name:ByteArray} {t u:Th}
theorem Inv0.key (h:Inv0 S) {i:Int} (e:aE.get S.idx i=some t):i=(t.k:Int):=(h.idx i t e).1
theorem Inv0.live (h:Inv0 S) {i:Int} (e:aE.get S.idx i=some t):Live S.idx t:=by
  have:=h.key e
  subst this
  exact e
theorem gj {idx:Used Th} (h1:Live idx t) (h2:Live idx u) (e:t.k=u.k):t=u:=by
  unfold Live at h1 h2
  rw [e,h2] at h1
  exact (Option.some.inj h1).symm
theorem Inv0.kind (h:Inv0 S) (hl:Live S.idx t):(obj S.O t.k).kind=t.kind:=(h.ob t hl).2.1
theorem Ix {x:ByteArray}:lM x x:=by unfold lM;simp
theorem jC.twice {es:eY Th} (h:jC es):nZ es:=List.Pairwise.imp (fun {a b} hab e=>hab (by rw [e];exact Ix)) h
theorem Inv0.twice (h:Inv0 S) (hl:Live S.idx t):nZ (obj S.O t.k).ah:=(h.sorted t hl).twice
theorem Inv0.ent (h:Inv0 S) (hd:Live S.idx u) (hl:aT name (obj S.O u.k).ah=some t):bI name/\Live S.idx t:=h.ah u hd _ (lW hl)
theorem Inv0.ne (h:Inv0 S) (hd:Live S.idx ⟨d,2⟩) (hl:aT name (obj S.O d).ah=some t):t.k≠d:=fun e=>by
  have h1:=(h.ent hd hl).2
  have h2:t=⟨d,2⟩:=gj h1 hd e
  subst h2
  have h3:=(h.up _ hd d).2 ⟨rfl,hd,name,hl⟩
  obtain⟨dp,hdp⟩:=h.deep
  have:dp d < dp d:=hdp _ _ h3
  omega
theorem Inv0.free (h:Inv0 S) (hk:S.X.last < (k:Int)) (hl:Live S.idx t):t.k≠k:=fun e=>by
  have:=(h.idx _ t hl).2.2
  subst e
  omega
theorem kg.of {o o':aR} (h:kg o) (e1:o'.mode=o.mode) (e2:o'.uid=o.uid) (e3:o'.gid=o.gid) (e4:dL o'.sec o'.nano) (e5:o'.kind=o.kind) (e6:o'.data=o.data\/o.kind=1) (e7:o'.ah=o.ah\/o.kind=2) (e8:o'.target=o.target):kg o':=
  ⟨e1 ▸ h.mode,e2 ▸ h.uid,e3 ▸ h.gid,e4,fun hk=>by
    rw [e5] at hk
    rcases e6 with e|e
    ·rw [e];exact h.data hk
    ·exact absurd e hk,fun hk=>by
    rw [e5] at hk
    rcases e7 with e|e
    ·rw [e];exact h.ah hk
    exact absurd e hk,by rw [e5,e8];exact h.target⟩
theorem Inv0.own (h:Inv0 S) {f:aR->aR} {j7 fU:Int} {us':Used Th} (f1:∀ o,(f o).id=o.id) (f2:∀ o,(f o).kind=o.kind) (f3:∀ o,(f o).ah=o.ah) (f4:∀ o,(f o).up=o.up) (f5:∀ o,(f o).links=o.links) (f6:∀ o,(f o).gone=o.gone)
    (hm:∀ t,Live S.idx t->t.k=k->kg (f (obj S.O k))) (ho:∀ t,Live S.idx t->(obj (aD S.O k f) t.k).opens=(hnd us' t.k:Int))
    (u1:aE.cQ (keys us')) (u2:∀ x∈keys us',1<=x/\x<=fU) (u3:(us'.length:Int)<=S.X.cH) (u4:0<=fU/\fU<=S.X.cH) (u5:∀ h t,aE.get us' h=some t->Live S.idx t/\t.kind≠3)
    (hu:j7=(bytes S.idx (aD S.O k f):Int)/\j7<=140737488355328):Inv0 { S with X:={ S.X with used:=j7 },O:=aD S.O k f,us:=us',ar:=fU }:=by
  have g1:∀ x,(obj (aD S.O k f) x).id=(obj S.O x).id:=fun x=>dH (g:=aR.id) f1
  have g2:∀ x,(obj (aD S.O k f) x).kind=(obj S.O x).kind:=fun x=>dH (g:=aR.kind) f2
  have g3:∀ x,(obj (aD S.O k f) x).ah=(obj S.O x).ah:=fun x=>dH (g:=aR.ah) f3
  have g4:∀ x,(obj (aD S.O k f) x).up=(obj S.O x).up:=fun x=>dH (g:=aR.up) f4
  have g5:∀ x,(obj (aD S.O k f) x).links=(obj S.O x).links:=fun x=>dH (g:=aR.links) f5
  have g6:∀ x,(obj (aD S.O k f) x).gone=(obj S.O x).gone:=fun x=>dH (g:=aR.gone) f6
  refine { h with ob:=fun t hl=>?_,mt:=fun t hl=>?_,ah:=fun t hl=>?_,sorted:=fun t hl=>?_,dead:=fun x hx=>?_,rz:=fun x hx=>by rw [g2];exact h.rz x hx,total:=?_,links:=fun t hl=>?_,once:=fun t hl=>?_,opens:=ho,usr:=u1,xh:=u2,Dd:=u3,ar:=u4,us:=u5,gone:=fun t hl=>?_,up:=fun t hl e=>?_,deep:=?_,used:=hu }
  ·rw [g1,g2];exact h.ob t hl
  ·show kg (obj (aD S.O k f) t.k)
   by_cases e:t.k=k
   ·rw [e,bL];exact hm t hl e
   rw [cx e];exact h.mt t hl
  ·rw [g3];exact h.ah t hl
  ·rw [g3];exact h.sorted t hl
  ·rw [g3,g4];exact h.dead x hx
  ·have:tot S.idx (aD S.O k f)=tot S.idx S.O:=fT (fun p _=>by rw [g3])
   show S.X.ah=(tot S.idx (aD S.O k f):Int)/\_
   rw [this];exact h.total
  ·show (obj (aD S.O k f) t.k).links=(iw S.idx (aD S.O k f) t.k:Int)
   have:iw S.idx (aD S.O k f) t.k=iw S.idx S.O t.k:=J7 g3
   rw [g5,this];exact h.links t hl
  ·rw [g5];exact h.once t hl
  ·rw [g6,g5,g3];exact h.gone t hl
  ·show (obj (aD S.O k f) t.k).up=some e↔t.kind=2/\Live S.idx ⟨e,2⟩/\∃ n,aT n (obj (aD S.O k f) e).ah=some t
   rw [g4,g3];exact h.up t hl e
  obtain⟨dp,hdp⟩:=h.deep
  exact⟨dp,fun x e he=>hdp x e (by rw [g4] at he;exact he)⟩
def rA (S:aG) (t:Th):aG:={ S with X:={ S.X with used:=jQ S.O S.X.used t },idx:=jB S.O S.idx t }
theorem Inv0.rA (h:Inv0 S) (ht:Live S.idx t) (hf:∀ u,Live S.idx u->u≠t->(obj S.O u.k).gone=true->0 < (obj S.O u.k).opens):Inv (Proofs.YtidjcblbdmfalaaGreat.rA S t):=by
  by_cases hF:ru S.O t
  ·have e1:Proofs.YtidjcblbdmfalaaGreat.rA S t={ S with X:={ S.X with used:=S.X.used - (obj S.O t.k).data.length },idx:=del (t.k:Int) S.idx }:=by
     unfold Proofs.YtidjcblbdmfalaaGreat.rA jQ jB
     rw [if_pos hF,if_pos hF,(h.ob t ht).1]
     split
     ·rfl
     rename_i e
     have:=(h.mt t ht).data (by rw [h.kind ht];exact e)
     rw [this]
     simp
   rw [e1]
   obtain⟨hg,hop⟩:=hF
   obtain⟨hlk,hen⟩:=h.gone t ht hg
   have eU:∀ x,Live (del (t.k:Int) S.idx) x↔Live S.idx x/\x.k≠t.k:=fun x=>by
     unfold Live
     rw [uj]
     constructor
     ·intro e
      split at e
      ·cases e
      rename_i e2;exact⟨e,fun e3=>e2 (by rw [e3])⟩
     rintro⟨e,e2⟩
     rw [if_neg (by omega)];exact e
   have hl0:iw S.idx S.O t.k=0:=by have:=h.links t ht;omega
   have hne:∀ x,Live S.idx x->∀ e∈(obj S.O x.k).ah,e.2.k≠t.k:=fun x hx e he hk=>by
     have:0 < iw S.idx S.O t.k:=Nat.lt_of_lt_of_le (List.countP_pos_iff.2 ⟨e,he,by simpa using hk⟩) (lF (g:=fun p=>(obj S.O p.2.k).ah.countP (fun e=>decide (e.2.k=t.k))) hx)
     omega
   have hsum:∀ q:ByteArray×Th->Bool,dF (fun p=>(obj S.O p.2.k).ah.countP q) (del (t.k:Int) S.idx)=dF (fun p=>(obj S.O p.2.k).ah.countP q) S.idx:=fun q=>by
     have h1:=zE (g:=fun p:Int×Th=>(obj S.O p.2.k).ah.countP q) h.rise ht
     have h2:(obj S.O t.k).ah.countP q=0:=by rw [hen];rfl
     have h3:dF (fun p:Int×Th=>(obj S.O p.2.k).ah.countP q) (del (t.k:Int) S.idx)+(obj S.O t.k).ah.countP q=_:=h1
     omega
   refine { h with rise:=EN h.rise,len:=?_,idx:=fun i x e=>?_,ob:=fun x hx=>h.ob x ((eU x).1 hx).1,mt:=fun x hx=>h.mt x ((eU x).1 hx).1,ah:=fun x hx e he=>?_,sorted:=fun x hx=>h.sorted x ((eU x).1 hx).1,dead:=fun x hx=>?_,total:=?_,links:=fun x hx=>?_,once:=fun x hx=>h.once x ((eU x).1 hx).1,opens:=fun x hx=>h.opens x ((eU x).1 hx).1,us:=fun i x e=>?_,gone:=fun x hx=>h.gone x ((eU x).1 hx).1,up:=fun x hx e=>?_,used:=?_,full:=fun x hx hg=>hf x ((eU x).1 hx).1 (fun e=>((eU x).1 hx).2 (by rw [e])) hg }
   ·have h1:=o7 h.rise (get_some ht)
    have h2:=h.len
    show (del (t.k:Int) S.idx).length<=4096
    omega
   ·have e:aE.get (del (t.k:Int) S.idx) i=some x:=e
    rw [uj] at e
    split at e
    ·cases e
    exact h.idx i x e
   ·have hx':=((eU x).1 hx).1
    have h1:=h.ah x hx' e he
    exact⟨h1.1,(eU _).2 ⟨h1.2,hne x hx' e he⟩⟩
   ·by_cases e:x=t.k
    ·subst e
     refine⟨hen,?_⟩
     cases hu:(obj S.O t.k).up with
     | none=>rfl
     | some y=>
       obtain⟨_,h2,n,h3⟩:=(h.up t ht y).1 hu
       exact absurd rfl (hne _ h2 _ (lW h3))
    exact h.dead x (fun y hy e2=>hx y ((eU y).2 ⟨hy,fun e3=>e (e2.symm.trans e3)⟩) e2)
   ·show S.X.ah=(tot (del (t.k:Int) S.idx) S.O:Int)/\_
    rw [mg,hsum,← mg];exact h.total
   ·show _=(iw (del (t.k:Int) S.idx) S.O x.k:Int)
    have:iw (del (t.k:Int) S.idx) S.O x.k=iw S.idx S.O x.k:=hsum _
    rw [this];exact h.links x ((eU x).1 hx).1
   ·obtain⟨h1,h2⟩:=h.us i x e
    refine⟨(eU x).2 ⟨h1,fun e2=>?_⟩,h2⟩
    have h3:=h.opens t ht
    have h4:0 < hnd S.us t.k:=Nat.lt_of_lt_of_le (by simp [e2]) (lF (g:=fun p:Int×Th=>if p.2.k=t.k then 1 else 0) e)
    omega
   ·rw [h.up x ((eU x).1 hx).1 e]
    constructor
    ·rintro⟨h1,h2,n,h3⟩
     refine⟨h1,(eU _).2 ⟨h2,fun e2=>?_⟩,n,h3⟩
     have e2:e=t.k:=e2
     rw [e2,hen] at h3;cases h3
    rintro⟨h1,h2,h3⟩
    exact⟨h1,((eU _).1 h2).1,h3⟩
   obtain⟨h1,h2⟩:=h.used
   have h3:dF (fun p:Int×Th=>(obj S.O p.2.k).data.length) (del (t.k:Int) S.idx)+(obj S.O t.k).data.length=dF (fun p:Int×Th=>(obj S.O p.2.k).data.length) S.idx:=zE (g:=fun p:Int×Th=>(obj S.O p.2.k).data.length) h.rise ht
   show S.X.used - ((obj S.O t.k).data.length:Int)=(bytes (del (t.k:Int) S.idx) S.O:Int)/\S.X.used - ((obj S.O t.k).data.length:Int)<=140737488355328
   unfold bytes at h1 ⊢
   omega
  have e1:Proofs.YtidjcblbdmfalaaGreat.rA S t=S:=by
    unfold Proofs.YtidjcblbdmfalaaGreat.rA jQ jB
    rw [if_neg hF,if_neg hF]
  rw [e1]
  refine { h with full:=fun u hu hg=>?_ }
  by_cases e:u=t
  ·subst e
   have h1:=h.opens u hu
   have:¬ (obj S.O u.k).opens=0:=fun e=>hF ⟨hg,e⟩
   omega
  exact hf u hu e hg
end inv
end
section
open Go.RowKit Go.Maps bG aE
section facts
variable {S:aG} {X:FM} {O:bY} {d k:Nat} {name:ByteArray} {t u:Th}
theorem dw {α:Type} {g:aR->α} (h1:∀ o es,g { o with ah:=es }=g o) (h2:∀ o l,g { o with links:=l }=g o) (h3:∀ o a b,g { o with sec:=a,nano:=b }=g o):g (obj (aQ X O d name t) k)=g (obj O k):=by
  unfold aQ ql
  rw [dH (fun o=>h2 o _),dH (fun o=>h3 o _ _),dH (fun o=>h1 o _)]
theorem mO {α:Type} {g:aR->α} (h1:∀ o es,g { o with ah:=es }=g o) (h2:∀ o l,g { o with links:=l }=g o) (h3:∀ o a b,g { o with sec:=a,nano:=b }=g o) (h4:∀ o u,g { o with up:=u }=g o):g (obj (cR X O d name t) k)=g (obj O k):=by
  unfold cR ql
  rw [dH (fun o=>h3 o _ _),zw h1 h2 h4]
theorem Inv0.hX (h:Inv0 S):0<=S.X.ah/\S.X.ah<=1048576/\-1125899906842624<=S.X.used/\S.X.used<=1125899906842624/\0<=S.X.last/\S.X.last<=1125899906842624:=by
  have:=h.total;have:=h.used;have:=h.last
  omega
theorem Inv0.fV (h:Inv0 S) (hl:Live S.idx t):(obj S.O t.k).ah.length<=8192:=by
  have h1:=h.total
  have h2:(obj S.O t.k).ah.length<=tot S.idx S.O:=lF (g:=fun p:Int×Th=>(obj S.O p.2.k).ah.length) hl
  omega
theorem Inv0.lb (h:Inv0 S) (hl:Live S.idx t):0<=(obj S.O t.k).links/\(obj S.O t.k).links<=8192:=by
  have h1:=h.total
  have h2:=h.links t hl
  have h3:iw S.idx S.O t.k<=tot S.idx S.O:=J8
  omega
theorem PO {us:Used Th}:hnd us k<=us.length:=by
  have:hnd us k<=dF (fun _=>1) us:=GS (fun p _=>by split<;>omega)
  have h2:∀ us:Used Th,dF (fun _=>1) us=us.length:=fun us=>by
    induction us with
    | nil=>rfl
    | cons p r ih=>show 1+_=_;rw [ih,List.length_cons];omega
  rw [h2] at this;exact this
theorem Inv0.Df (h:Inv0 S) (hl:Live S.idx t):0<=(obj S.O t.k).opens/\(obj S.O t.k).opens<=1024:=by
  have h1:=h.opens t hl
  have h2:hnd S.us t.k<=S.us.length:=PO
  have:=h.Dd;have:=h.cH
  omega
theorem Inv0.EO (h:Inv0 S) (hl:Live S.idx t):(obj S.O t.k).data.length<=1125899906842624:=by
  have h1:=h.used
  have h2:(obj S.O t.k).data.length<=bytes S.idx S.O:=lF (g:=fun p:Int×Th=>(obj S.O p.2.k).data.length) hl
  omega
theorem Inv0.Iy (h:Inv0 S) (hl:Live S.idx t):(obj S.O t.k).data.length<=140737488355328:=by
  have h1:=h.used
  have h2:(obj S.O t.k).data.length<=bytes S.idx S.O:=lF (g:=fun p:Int×Th=>(obj S.O p.2.k).data.length) hl
  omega
theorem Inv0.J9 (h:Inv0 S) (hl:Live S.idx t):(Lit.int .i64 (obj S.O t.k).id).wf=true:=by
  have h1:=h.ob t hl
  have h2:=h.idx _ t hl
  have h3:=h.last
  exact WalkArith.wf_i64 (by omega)
theorem Inv0.lP (h:Inv0 S) (hd:Live S.idx ⟨d,2⟩) (name:ByteArray):aT name (obj S.O d).ah=none\/(∃ k,aT name (obj S.O d).ah=some ⟨k,1⟩/\Live S.idx ⟨k,1⟩)\/(∃ k,aT name (obj S.O d).ah=some ⟨k,2⟩/\Live S.idx ⟨k,2⟩)\/∃ k,aT name (obj S.O d).ah=some ⟨k,3⟩/\Live S.idx ⟨k,3⟩:=by
  cases e:aT name (obj S.O d).ah with
  | none=>exact .inl rfl
  | some t=>
    obtain⟨k,kd⟩:=t
    have h1:=(h.ent hd e).2
    rcases (h.ob _ h1).2.2 with e2|e2|e2<;>subst e2
    ·exact .inr (.inl ⟨k,rfl,h1⟩)
    ·exact .inr (.inr (.inl ⟨k,rfl,h1⟩))
    exact .inr (.inr (.inr ⟨k,rfl,h1⟩))
theorem Inv0.PS (h:Inv0 S) (i:Int):aE.get S.idx i=none\/(∃ k,aE.get S.idx i=some ⟨k,1⟩/\Live S.idx ⟨k,1⟩)\/(∃ k,aE.get S.idx i=some ⟨k,2⟩/\Live S.idx ⟨k,2⟩)\/∃ k,aE.get S.idx i=some ⟨k,3⟩/\Live S.idx ⟨k,3⟩:=by
  cases e:aE.get S.idx i with
  | none=>exact .inl rfl
  | some t=>
    obtain⟨k,kd⟩:=t
    have h1:=h.live e
    rcases (h.ob _ h1).2.2 with e2|e2|e2<;>subst e2
    ·exact .inr (.inl ⟨k,rfl,h1⟩)
    ·exact .inr (.inr (.inl ⟨k,rfl,h1⟩))
    exact .inr (.inr (.inr ⟨k,rfl,h1⟩))
theorem Inv0.hand (h:Inv0 S) (i:Int):aE.get S.us i=none\/(∃ k,aE.get S.us i=some ⟨k,1⟩/\Live S.idx ⟨k,1⟩)\/∃ k,aE.get S.us i=some ⟨k,2⟩/\Live S.idx ⟨k,2⟩:=by
  cases e:aE.get S.us i with
  | none=>exact .inl rfl
  | some t=>
    obtain⟨k,kd⟩:=t
    obtain⟨h1,h0⟩:=h.us i _ e
    rcases (h.ob _ h1).2.2 with e2|e2|e2
    ·simp only at e2;subst e2;exact .inr (.inl ⟨k,rfl,h1⟩)
    ·simp only at e2;subst e2;exact .inr (.inr ⟨k,rfl,h1⟩)
    exact absurd e2 h0
theorem Inv0.RJ (h:Inv0 S) (hd:Live S.idx ⟨d,2⟩) (hl:aT name (obj S.O d).ah=some t):1<=S.X.ah:=by
  have h1:=h.total
  have h2:0 < iw S.idx S.O t.k:=mM hd hl
  have h3:iw S.idx S.O t.k<=tot S.idx S.O:=J8
  omega
theorem Inv0.yO (h:Inv0 S) (hd:Live S.idx ⟨d,2⟩) (hl:aT name (obj S.O d).ah=some t):0<=S.X.ah - 1/\S.X.ah - 1<=1048576/\-1125899906842624<=S.X.used/\S.X.used<=1125899906842624/\0<=S.X.last/\S.X.last<=1125899906842624:=by
  have:=h.RJ hd hl;have:=h.hX
  omega
theorem pq {L:HL} {us:Used Th} {h:Int} (e:aE.get us h=none):aE.get (aV L us) h=none:=by
  unfold aV;rw [get_map,e];rfl
theorem j3 {L:HL} {us:Used Th} {h:Int} (e:aE.get us h=some t):aE.get (aV L us) h=some (dz L t):=by
  unfold aV;rw [get_map,e];rfl
theorem rN {L:HL} {us:Used Th} {h:Int} (hn:aE.get us h=none):upd (aW (aV L us)) (.int .i64 h) (some (dz L t))=aW (aV L (ins h t us)):=by
  rw [Cm (get_none.1 (pq hn))]
  exact congrArg aW (GK (dz L) h t us).symm
theorem Ka {L:HL} {us:Used Th}:aE.least (aV L us)=aE.least us:=by unfold aE.least;rw [zB]
theorem Co {TT:TypeId} {L:HL} {us:Used Th} {v:Value} {l:List HP} {b:Nat} {most ar:Int} (h:v=.tuple #[.int .i64 (aE.least (aV L us)),.int .i64 0]/\l=[.abs (bS TT b most (max ar (((aV L us).length:Int)+1)) (ins (aE.least (aV L us)) (dz L t) (aV L us)))]):v=.tuple #[.int .i64 (aE.least us),.int .i64 0]/\l=[.abs (bS TT b most (max ar ((us.length:Int)+1)) (aV L (ins (aE.least us) t us)))]:=by
  rw [Ka,o9] at h
  have e:ins (aE.least us) (dz L t) (aV L us)=aV L (ins (aE.least us) t us):=(GK (dz L) (aE.least us) t us).symm
  rw [e] at h
  exact h
theorem LU {α:Type} {es:eY α} {n:ByteArray} (h:es=[]):aT n es=none:=by rw [h];rfl
end facts
section blocks
variable {O:bY} {L:HL} {k j:Nat} {t u:Th}
theorem yg (hk:(obj O k).kind≠0) {F:Fp} {w:World} (h:(ax (bB O L)).h F w):∃ cs T,w.heap[L.b k]?=some (.cells cs T (0,0)):=by
  obtain⟨G,g⟩:=ax.at k h
  rw [kO hk] at g
  exact⟨_,_,g.1⟩
theorem GU (hk:(obj O k).kind≠0) (hj:(obj O j).kind≠0) {F:Fp} {w:World} (h:(ax (bB O L)).h F w) (e:L.b k=L.b j):k=j:=by
  apply Classical.byContradiction
  intro hne
  obtain⟨φ,h1,h2,_⟩:=h
  have g1:=h1 k
  have g2:=h1 j
  rw [kO hk] at g1
  rw [kO hj] at g2
  exact h2 k j hne (L.b k) ((g1.2 _).2 rfl) ((g2.2 _).2 e)
theorem Cp:Tryz.prog.underlying 135=some (.pointer 138):=by kernel_rfl
theorem LV:Tryz.prog.underlying 129=some (.pointer 131):=by kernel_rfl
theorem LW:Tryz.prog.underlying 132=some (.pointer 134):=by kernel_rfl
end blocks
end
section
open Go.RowKit Go.Maps bG aE
theorem LX {s:ByteArray}:0<=Lib.indexByte s.data.toList ((0:Int).toNat.toUInt8)↔¬ xY s:=by
  have hge:=Lib.indexByte_ge s.data.toList ((0:Int).toNat.toUInt8)
  constructor
  ·intro h hn
   obtain⟨o,ho⟩:=Int.eq_ofNat_of_zero_le h
   have h1:=(Lib.indexByte_some ho).1
   obtain⟨h2,h3⟩:=wK h1
   exact hn o h2 h3
  intro hn
  apply Classical.byContradiction
  intro hlt
  refine hn (fun j hj h0=>Lib.indexByte_none (show Lib.indexByte s.data.toList ((0:Int).toNat.toUInt8) = -1 by omega) j ?_)
  rw [pW hj]
  congr 1
  apply UInt8.toNat_inj.1
  exact h0
theorem F9 {β:Bs} (s:ByteArray):Spec Tryz.prog β 201 #[.string s,.int .u8 0] [] (fun v l=>(∃ x:Int,v=.int .i64 x/\(0<=x↔¬ xY s))/\l=[]):=
  fun _ w hS=>(Tryz.strings_IndexByte s 0 w).mono fun _ _ ⟨h1,h2⟩=>⟨_,[],h1,⟨⟨_,rfl,LX⟩,rfl⟩,h2 ▸ hS⟩
section ptr
variable {O:bY} {L:HL} {k j:Nat}
theorem LY:∃ j,Tryz.prog.info? 138=some j/\j.size≠0:=by
  have h:(match Tryz.prog.info? 138 with|some j=>j.size != 0|none=>false)=true:=by kernel_rfl
  cases e:Tryz.prog.info? 138 with
  | none=>rw [e] at h;cases h
  | some j=>rw [e] at h;exact⟨j,rfl,by simpa using h⟩
theorem Kb {w:World} {o:Oper} {ev:Operand->Value} {x y:Operand} (ho:o.op=.binOp .eql 135 x y 135) (hx:ev x=.pointer (some ⟨L.b k,0,none⟩)) (hy:ev y=.pointer (some ⟨L.b j,0,none⟩)) (hk:(obj O k).kind≠0) (hj:(obj O j).kind≠0) {F:Fp} (hF:(ax (bB O L)).h F w) :
    ng Tryz.prog ev o w (.bool (decide (k=j))) w:=by
  obtain⟨dst,op,type,pos,after,guard⟩:=o
  cases ho
  refine .inl ?_
  simp only [execOp,hx,hy]
  obtain⟨ca,ta,ha⟩:=yg hk hF
  obtain⟨cb,tb,hb⟩:=yg hj hF
  obtain⟨i,hi,hsz⟩:=LY
  have h1:(binOp .eql 135 (.pointer (some ⟨L.b k,0,none⟩)) (.pointer (some ⟨L.b j,0,none⟩))).run Tryz.prog w=.ok (.bool (decide (k=j))) w:=by
    by_cases e:k=j
    ·subst e
     rw [run_eql_ptr_same _ _ Cp hi]
     simp
    rw [run_eql_ptr_other _ Cp hi hsz (fun h=>e (GU hk hj hF (congrArg Addr.block h))) ha hb]
    simp [e]
  simp [go_sem,eqGuard,h1]
def EP (tp te:TypeId):Prop:=Tryz.prog.underlying tp=some (.pointer te)/\(∃ i,Tryz.prog.info? tp=some i/\i.comparable=true)/\∃ j,Tryz.prog.info? te=some j/\j.size≠0
theorem Cq {tp te:TypeId} (h1:Tryz.prog.underlying tp=some (.pointer te)) (h2:(match Tryz.prog.info? tp with|some j=>j.comparable|none=>false)=true) (h3:(match Tryz.prog.info? te with|some j=>j.size != 0|none=>false)=true):EP tp te:=by
  refine⟨h1,?_,?_⟩
  ·cases e:Tryz.prog.info? tp with
   | none=>rw [e] at h2;cases h2
   | some j=>rw [e] at h2;exact⟨j,rfl,h2⟩
  cases e:Tryz.prog.info? te with
  | none=>rw [e] at h3;cases h3
  | some j=>rw [e] at h3;exact⟨j,rfl,by simpa using h3⟩
theorem PU:EP 129 131:=Cq LV (by kernel_rfl) (by kernel_rfl)
theorem RL:EP 135 138:=Cq Cp (by kernel_rfl) (by kernel_rfl)
theorem PV:EP 132 134:=Cq LW (by kernel_rfl) (by kernel_rfl)
theorem zF {tp te:TypeId} (hT:EP tp te) {w:World} {o:Oper} {ev:Operand->Value} {x y:Operand} (ho:o.op=.binOp .eql 124 x y 124) (hx:ev x=.iface tp (.pointer (some ⟨L.b k,0,none⟩))) (hy:ev y=.iface tp (.pointer (some ⟨L.b j,0,none⟩))) (hk:(obj O k).kind≠0) (hj:(obj O j).kind≠0) {F:Fp} (hF:(ax (bB O L)).h F w) :
    ng Tryz.prog ev o w (.bool (decide (k=j))) w:=by
  obtain⟨dst,op,type,pos,after,guard⟩:=o
  cases ho
  refine .inl ?_
  simp only [execOp,hx,hy]
  obtain⟨ca,ta,ha⟩:=yg hk hF
  obtain⟨cb,tb,hb⟩:=yg hj hF
  obtain⟨g1,⟨i,hi,hc⟩,j',hj',hsz⟩:=hT
  have h1:(binOp .eql 124 (.iface tp (.pointer (some ⟨L.b k,0,none⟩))) (.iface tp (.pointer (some ⟨L.b j,0,none⟩)))).run Tryz.prog w=.ok (.bool (decide (k=j))) w:=by
    by_cases e:k=j
    ·subst e
     rw [run_eql_iface_ptr_same _ _ Tryz.underlying124 g1 hi hc hj']
     simp
    rw [run_eql_iface_ptr_other _ Tryz.underlying124 g1 hi hc hj' hsz (fun h=>e (GU hk hj hF (congrArg Addr.block h))) ha hb]
    simp [e]
  simp [go_sem,eqGuard,h1]
end ptr
end
end Go.Proofs.YtidjcblbdmfalaaGreat
