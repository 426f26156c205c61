/-
  PROVED HERE: lemmas and contracts of functions (texts of this repo, joined; what the claim does not use is left out): GCheck, GE, Hm, Fam, Ld, Fw, Ms, Hn, Ho, Hc, Hd, H1, ShelfK, Free, HeapMath, Up, Down, PushPop, TabMath, Tab, Tq, TKt, TabT, Hp, H2, Hs, Hi, Hj.
  CONDITIONS: as the theorems say.
-/
import Derived.Test.YtaepnjbceganhaaGreatMHnews1
import Derived.Maps.OwnOps
import Derived.Shelf.SlGeneric
import Derived.Shelf.SlIterI.Nil
import Derived.Shelf.SortM.Plain
import Derived.Shelf.SortM.SortNone
import Derived.Ground.GgzProg
import Derived.Ground.SlgmProg
import Derived.Test.YtaepnjbceganhaaGreatProg
import Derived.RegionTactic
import Derived.Deep.QuietTactic
import Derived.BigQuiet
import Derived.BigRegion
import Derived.StillTailTactics
import Derived.WalkSpells
import Derived.Outline
import Derived.Deep.AppendLies
import Derived.Deep.RegionLaw
import Derived.LoopTactic
set_option maxRecDepth 100000
set_option maxHeartbeats 4000000
namespace Go.Proofs.YtaepnjbceganhaaGreat
section
open Go.RowKit
attribute [local irreducible] ak aK af ai
theorem qp {β:Bs} (a b c:Int) :
    Spec Tryz.prog β 89 #[vI (a),vI (b),vI (c)] [] (fun v l=>v=.bool (decide (Within a b c))/\l=[]):=by
 refine Spec.enter Tryz.func89 rfl Tryz.ntmps89 (Nat.le_of_ble_eq_true rfl) (fun R=>?_)
 refine SR (gK 1 [] [] ?_)
 refine NS (gK 4 [(10,.bool (decide ((a:Int) ≥ (b:Int))))] [] ?_)
 refine ak.bZ 10 ((a:Int) ≥ (b:Int)) (fun _=>by kernel_rfl) (fun h10=>?_) (fun h10=>?_)
 ·refine gK 5 [(6,.bool (decide ((a:Int)<=(c:Int))))] [] ?_
  refine NN (af.ret ?_)
  exact RT (.bool (decide ((a:Int)<=(c:Int)))) [0] (⟨congrArg Value.bool (decide_eq_decide.2 (by unfold Within;omega)),rfl⟩)
 refine gK 5 [(6,.bool false)] [] ?_
 refine NN (af.ret ?_)
 exact RT (.bool false) [0] (⟨congrArg Value.bool (decide_eq_false (by unfold Within;omega)).symm,rfl⟩)
theorem fU {β:Bs} (s n:Int) :
    Spec Tryz.prog β 15 #[.agg #[vI (s),vI (n)]] [] (fun v l=>v=.bool (decide (cg s n))/\l=[]):=by
 refine Spec.enter Tryz.func15 rfl Tryz.ntmps15 (Nat.le_of_ble_eq_true rfl) (fun R=>?_)
 refine SR (gN 2 (fun b1=>[(1,vP b1)]) (fun _=>[]) (fun _=>[]) (fun b1=>.blk b1 [vI (s),vI (n)] 26) (fun b1=>?_))
 refine NN (af.seq (SR (gK 4 [(6,.bool (decide ((n:Int) < (0:Int))))] [(1,a_ 1 b1)] ?_)))
 refine ak.bZ 6 ((n:Int) < (0:Int)) (fun _=>by kernel_rfl) (fun h6=>?_) (fun h6=>?_)
 ·refine gK 4 [(10,.bool true)] [] ?_
  refine NN (CT (SR (gK 1 [(2,.bool false)] [] ?_)))
  refine NN (af.ret (ai.aj ?_))
  exact RT (.bool false) [0] (⟨congrArg Value.bool (decide_eq_false (by unfold cg;omega)).symm,rfl⟩)
 refine gK 4 [(10,.bool (decide ((n:Int) ≥ (1000000000:Int))))] [(1,a_ 1 b1)] ?_
 refine NN (af.aR (p:=(n:Int) ≥ (1000000000:Int)) (fun _=>by kernel_rfl) (fun h10=>?_) (fun h10=>?_))
 ·refine SR (gK 1 [(2,.bool false)] [] ?_)
  refine NN (af.ret (ai.aj ?_))
  exact RT (.bool false) [0] (⟨congrArg Value.bool (decide_eq_false (by unfold cg;omega)).symm,rfl⟩)
 refine af.skip (NX (af.seq (SR (gK 3 [(13,.bool (decide ((s:Int)=((-1099511627777):Int))))] [(1,a_ 1 b1)] ?_))))
 refine NN (af.aR (p:=(s:Int)=((-1099511627777):Int)) (fun _=>by kernel_rfl) (fun KS=>?_) (fun KS=>?_))
 ·refine SR (gK 4 [(2,.bool (decide ((n:Int) > (0:Int))))] [(1,a_ 1 b1)] ?_)
  refine NN (af.ret (ai.aj ?_))
  exact RT (.bool (decide ((n:Int) > (0:Int)))) [0] (⟨congrArg Value.bool (decide_eq_decide.2 (by unfold cg;omega)),rfl⟩)
 refine af.skip (NX (SR (gK 4 [(20,.bool (decide ((s:Int) > ((-1099511627777):Int))))] [(1,a_ 1 b1)] ?_)))
 refine ak.bZ 20 ((s:Int) > ((-1099511627777):Int)) (fun _=>by kernel_rfl) (fun kT=>?_) (fun kT=>?_)
 ·refine gK 5 [(2,.bool (decide ((s:Int)<=(1099511627776:Int))))] [(1,a_ 1 b1)] ?_
  refine NN (af.ret ?_)
  exact RT (.bool (decide ((s:Int)<=(1099511627776:Int)))) [0] (⟨congrArg Value.bool (decide_eq_decide.2 (by unfold cg;omega)),rfl⟩)
 refine gK 5 [(2,.bool false)] [] ?_
 refine NN (af.ret ?_)
 exact RT (.bool false) [0] (⟨congrArg Value.bool (decide_eq_false (by unfold cg;omega)).symm,rfl⟩)
theorem vz {β:Bs} (s n:Int) :
    Spec Tryz.prog β 20 #[.agg #[vI (s),vI (n)]] [] (fun v l=>v=.bool (decide (cg s n))/\l=[]):=by
 refine Spec.enter Tryz.func20 rfl Tryz.ntmps20 (Nat.le_of_ble_eq_true rfl) (fun R=>?_)
 refine SR (gN 2 (fun b2=>[(1,vP b2)]) (fun _=>[]) (fun _=>[]) (fun b2=>.blk b2 [vI (s),vI (n)] 26) (fun b2=>?_))
 refine NN (af.seq (SR (gK 4 [(6,.bool (decide ((n:Int) < (0:Int))))] [(1,a_ 1 b2)] ?_)))
 refine ak.bZ 6 ((n:Int) < (0:Int)) (fun _=>by kernel_rfl) (fun h6=>?_) (fun h6=>?_)
 ·refine gK 14 [(20,.bool true)] [] ?_
  refine NN (CT (SR (gK 1 [(2,.bool false)] [] ?_)))
  refine NN (af.ret (ai.aj ?_))
  exact RT (.bool false) [0] (⟨congrArg Value.bool (decide_eq_false (by unfold cg;omega)).symm,rfl⟩)
 refine gK 5 [(11,.bool (decide ((n:Int) ≥ (1000000000:Int))))] [(1,a_ 1 b2)] ?_
 refine ak.bZ 11 ((n:Int) ≥ (1000000000:Int)) (fun _=>by kernel_rfl) (fun h11=>?_) (fun h11=>?_)
 ·refine gK 9 [(20,.bool true)] [] ?_
  refine NN (CT (SR (gK 1 [(2,.bool false)] [] ?_)))
  refine NN (af.ret (ai.aj ?_))
  exact RT (.bool false) [0] (⟨congrArg Value.bool (decide_eq_false (by unfold cg;omega)).symm,rfl⟩)
 refine gK 5 [(16,.bool (decide ((s:Int) > (1099511627776:Int))))] [(1,a_ 1 b2)] ?_
 refine ak.bZ 16 ((s:Int) > (1099511627776:Int)) (fun _=>by kernel_rfl) (fun tD=>?_) (fun tD=>?_)
 ·refine gK 4 [(20,.bool true)] [] ?_
  refine NN (CT (SR (gK 1 [(2,.bool false)] [] ?_)))
  refine NN (af.ret (ai.aj ?_))
  exact RT (.bool false) [0] (⟨congrArg Value.bool (decide_eq_false (by unfold cg;omega)).symm,rfl⟩)
 refine gK 4 [(20,.bool (decide ((s:Int) < ((-1099511627777):Int))))] [(1,a_ 1 b2)] ?_
 refine NN (af.aR (p:=(s:Int) < ((-1099511627777):Int)) (fun _=>by kernel_rfl) (fun kT=>?_) (fun kT=>?_))
 ·refine SR (gK 1 [(2,.bool false)] [] ?_)
  refine NN (af.ret (ai.aj ?_))
  exact RT (.bool false) [0] (⟨congrArg Value.bool (decide_eq_false (by unfold cg;omega)).symm,rfl⟩)
 refine af.skip (NX (SR (gK 4 [(24,.bool (!(decide ((s:Int)=((-1099511627777):Int)))))] [(1,a_ 1 b2)] ?_)))
 refine ak.d9 24 ((s:Int)=((-1099511627777):Int)) (fun _=>by kernel_rfl) (fun wS=>?_) (fun wS=>?_)
 ·refine gK 5 [(2,.bool true)] [] ?_
  refine NN (af.ret ?_)
  exact RT (.bool true) [0] (⟨congrArg Value.bool (decide_eq_true (by unfold cg;omega)).symm,rfl⟩)
 refine gK 5 [(2,.bool (!(decide ((n:Int)=(0:Int)))))] [(1,a_ 1 b2)] ?_
 refine NN (af.ret ?_)
 exact RT (.bool (!(decide ((n:Int)=(0:Int))))) [0] (⟨congrArg Value.bool (tA (by unfold cg;omega)),rfl⟩)
theorem DY {β:Bs} (s:ByteArray) (hl:s.size<=1048576) :
    Spec Tryz.prog β 38 #[.string s] [] (fun v l=>v=.bool (decide (bI s))/\l=[]):=by
 refine Spec.enter Tryz.func38 rfl Tryz.ntmps38 (Nat.le_of_ble_eq_true rfl) (fun R=>?_)
 refine SR (gK 1 [] [] ?_)
 refine NN (af.seq (SR (gK 1 [(3,vI 0)] [] ?_)))
 refine NN (af.block ?_)
 refine af.loop (ι:=Nat) (fun (i:Nat)=>(i<=s.size)/\(∀ j,j < i->¬ bn s j=0/\¬ bn s j=47)) (fun (i:Nat)=>s.size - i) (fun (i:Nat)=>[(0,.string s),(3,vI ↑i)]) (fun (i:Nat)=>[.abs R]) 0 (idx:=[0,3]) (pk:=[0]) (show (0<=s.size)/\(∀ j,j < 0->¬ bn s j=0/\¬ bn s j=47) from ⟨Nat.zero_le _,fun j hj=>absurd hj (Nat.not_lt_zero j)⟩) (fun _=>by kernel_rfl) rfl (by kernel_rfl) ?_
 rintro i ⟨hi,hall⟩
 show af _ _ _ _ [(0,.string s),(3,vI ↑i)] [.abs R] _
 refine af.seq (SR (gK 4 [(7,.bool (decide ((((i:Nat):Int):Int) < ((((s:ByteArray).size:Nat):Int):Int))))] [] ?_))
 refine NN (af.aR (p:=(((i:Nat):Int):Int) < ((((s:ByteArray).size:Nat):Int):Int)) (fun _=>by kernel_rfl) (fun h7=>?_) (fun h7=>?_))
 ·refine af.skip (NX (af.seq (af.block (SR ?_))))
  refine gK 5 [(14,.bool (decide ((((((s:ByteArray).data.getD (i) 0).toNat:Nat):Int):Int)=(0:Int))))] [(2,p_ ⟨[],some i,none,none,none⟩ [((i:Nat):Int)=((i:Nat):Int),i < (s:ByteArray).size] ⟨rfl,by omega,trivial⟩)] ?_
  refine ak.bZ 14 ((((((s:ByteArray).data.getD (i) 0).toNat:Nat):Int):Int)=(0:Int)) (fun _=>by kernel_rfl) (fun fO=>?_) (fun fO=>?_)
  ·refine gK 5 [(19,.bool true)] [] ?_
   refine NN (CT (SR (gK 1 [(2,.bool false)] [] ?_)))
   refine NN (af.ret (ai.ax (ai.aj (ai.aj (ai.ax (ai.aj ?_))))))
   exact RT (.bool false) [0] (⟨congrArg Value.bool (decide_eq_false (by intro g;have:=g.2.2.2.2 i (by omega);unfold bn at this;omega)).symm,rfl⟩)
  refine gK 5 [(19,.bool (decide ((((((s:ByteArray).data.getD (i) 0).toNat:Nat):Int):Int)=(47:Int))))] [(2,p_ ⟨[],some i,none,none,none⟩ [((i:Nat):Int)=((i:Nat):Int),i < (s:ByteArray).size] ⟨rfl,by omega,trivial⟩)] ?_
  refine NN (af.aR (p:=(((((s:ByteArray).data.getD (i) 0).toNat:Nat):Int):Int)=(47:Int)) (fun _=>by kernel_rfl) (fun KT=>?_) (fun KT=>?_))
  ·refine SR (gK 1 [(2,.bool false)] [] ?_)
   refine NN (af.ret (ai.ax (ai.aj (ai.aj (ai.ax (ai.aj ?_))))))
   exact RT (.bool false) [0] (⟨congrArg Value.bool (decide_eq_false (by intro g;have:=g.2.2.2.2 i (by omega);unfold bn at this;omega)).symm,rfl⟩)
  refine af.skip (ai.aF (NX (af.region ?_)))
  refine gK 3 [(3,vI ↑(i+1))] [(1,p_ ⟨[],none,none,none,some (vI ↑(i+1))⟩ [(Value.int .i64 (IntKind.wrap .i64 (((i:Nat):Int)+1)))=(.int .i64 ↑(i+1))] ⟨aU (by omega) (by omega) (by omega),trivial⟩)] ?_
  refine NL ?_
  exact ai.turn ((i+1)) (idx:=[0,3]) (pk:=[0]) (show (((i+1))<=s.size)/\(∀ j,j < ((i+1))->¬ bn s j=0/\¬ bn s j=47) from ⟨by omega,fun j hj=>by rcases Nat.lt_succ_iff_lt_or_eq.1 hj with h|h;exact hall j h;subst h;unfold bn;omega⟩) (by show s.size - ((i+1)) < s.size - i;omega) (fun _=>by kernel_rfl) rfl (by kernel_rfl)
 refine af.exit (ai.aL (ai.aL (ai.bG (NX (SR ?_)))))
 refine gK 4 [(23,.bool (decide (((((s:ByteArray).size:Nat):Int):Int) ≥ (1:Int))))] [] ?_
 refine ak.bZ 23 (((((s:ByteArray).size:Nat):Int):Int) ≥ (1:Int)) (fun _=>by kernel_rfl) (fun h23=>?_) (fun h23=>?_)
 ·refine gK 5 [(28,.bool (decide (((((s:ByteArray).size:Nat):Int):Int)<=(255:Int))))] [] ?_
  refine ak.bZ 28 (((((s:ByteArray).size:Nat):Int):Int)<=(255:Int)) (fun _=>by kernel_rfl) (fun Fs=>?_) (fun Fs=>?_)
  ·refine gK 4 [(32,.bool (!(decide ((s:ByteArray)=⟨#[46]⟩))))] [(1,p_ ⟨[],none,none,none,some (.bool (!(decide ((s:ByteArray)=⟨#[46]⟩))))⟩ [(Value.bool (!((s:ByteArray).toList == (⟨#[46]⟩:ByteArray).toList)))=(.bool (!(decide ((s:ByteArray)=⟨#[46]⟩))))] ⟨wH _ _,trivial⟩)] ?_
   refine ak.d9 32 ((s:ByteArray)=⟨#[46]⟩) (fun _=>by kernel_rfl) (fun vu=>?_) (fun vu=>?_)
   ·refine gK 4 [(2,.bool (!(decide ((s:ByteArray)=⟨#[46,46]⟩))))] [(1,p_ ⟨[],none,none,none,some (.bool (!(decide ((s:ByteArray)=⟨#[46,46]⟩))))⟩ [(Value.bool (!((s:ByteArray).toList == (⟨#[46,46]⟩:ByteArray).toList)))=(.bool (!(decide ((s:ByteArray)=⟨#[46,46]⟩))))] ⟨wH _ _,trivial⟩)] ?_
    refine NN (af.ret ?_)
    exact RT (.bool (!(decide ((s:ByteArray)=⟨#[46,46]⟩)))) [0] (⟨congrArg Value.bool (tA (by have hA:∀ j,j < s.size->¬ bn s j=0/\¬ bn s j=47:=fun j hj=>hall j (by omega);unfold bI;grind)),rfl⟩)
   refine gK 4 [(2,.bool false)] [] ?_
   refine NN (af.ret ?_)
   exact RT (.bool false) [0] (⟨congrArg Value.bool (decide_eq_false (by have hA:∀ j,j < s.size->¬ bn s j=0/\¬ bn s j=47:=fun j hj=>hall j (by omega);unfold bI;grind)).symm,rfl⟩)
  refine gK 8 [(2,.bool false)] [] ?_
  refine NN (af.ret ?_)
  exact RT (.bool false) [0] (⟨congrArg Value.bool (decide_eq_false (by have hA:∀ j,j < s.size->¬ bn s j=0/\¬ bn s j=47:=fun j hj=>hall j (by omega);unfold bI;grind)).symm,rfl⟩)
 refine gK 13 [(2,.bool false)] [] ?_
 refine NN (af.ret ?_)
 exact RT (.bool false) [0] (⟨congrArg Value.bool (decide_eq_false (by have hA:∀ j,j < s.size->¬ bn s j=0/\¬ bn s j=47:=fun j hj=>hall j (by omega);unfold bI;grind)).symm,rfl⟩)
theorem AU {β:Bs} (n:aE) (dA eA:Option Addr) (dC eC:Nat) (ht:n.target.size<=1048576) :
    Spec Tryz.prog β 36 #[.agg #[vI (n.id),vI (n.kind),vI (n.mode),vI (n.uid),vI (n.gid),vI (n.sec),vI (n.nano),.slice dA (n.data.length) (dC),.string n.target,.slice eA (n.ah.length) (eC)]] [] (fun v l=>v=.bool (decide (iC n))/\l=[]):=by
 refine Spec.enter Tryz.func36 rfl Tryz.ntmps36 (Nat.le_of_ble_eq_true rfl) (fun R=>?_)
 refine SR (gN 2 (fun b3=>[(1,vP b3)]) (fun _=>[]) (fun _=>[]) (fun b3=>.blk b3 [vI (n.id),vI (n.kind),vI (n.mode),vI (n.uid),vI (n.gid),vI (n.sec),vI (n.nano),.slice dA (n.data.length) (dC),.string n.target,.slice eA (n.ah.length) (eC)] 55) (fun b3=>?_))
 refine NN (af.seq (SR (gK 4 [(7,.bool (decide ((n.kind:Int) < (1:Int))))] [(1,a_ 1 b3)] ?_)))
 refine ak.bZ 7 ((n.kind:Int) < (1:Int)) (fun _=>by kernel_rfl) (fun h7=>?_) (fun h7=>?_)
 ·refine gK 40 [(47,.bool true)] [] ?_
  refine NN (CT (SR (gK 1 [(2,.bool false)] [] ?_)))
  refine NN (af.ret (ai.aj ?_))
  exact RT (.bool false) [0] (⟨congrArg Value.bool (decide_eq_false (by rw [aY];grind [aX])).symm,rfl⟩)
 refine gK 5 [(12,.bool (decide ((n.kind:Int) > (3:Int))))] [(1,a_ 1 b3)] ?_
 refine ak.bZ 12 ((n.kind:Int) > (3:Int)) (fun _=>by kernel_rfl) (fun h12=>?_) (fun h12=>?_)
 ·refine gK 35 [(47,.bool true)] [] ?_
  refine NN (CT (SR (gK 1 [(2,.bool false)] [] ?_)))
  refine NN (af.ret (ai.aj ?_))
  exact RT (.bool false) [0] (⟨congrArg Value.bool (decide_eq_false (by rw [aY];grind [aX])).symm,rfl⟩)
 refine gK 5 [(17,.bool (decide ((n.mode:Int) < (0:Int))))] [(1,a_ 1 b3)] ?_
 refine ak.bZ 17 ((n.mode:Int) < (0:Int)) (fun _=>by kernel_rfl) (fun Fk=>?_) (fun Fk=>?_)
 ·refine gK 30 [(47,.bool true)] [] ?_
  refine NN (CT (SR (gK 1 [(2,.bool false)] [] ?_)))
  refine NN (af.ret (ai.aj ?_))
  exact RT (.bool false) [0] (⟨congrArg Value.bool (decide_eq_false (by rw [aY];grind [aX])).symm,rfl⟩)
 refine gK 5 [(22,.bool (decide ((n.mode:Int) > (4095:Int))))] [(1,a_ 1 b3)] ?_
 refine ak.bZ 22 ((n.mode:Int) > (4095:Int)) (fun _=>by kernel_rfl) (fun Dd=>?_) (fun Dd=>?_)
 ·refine gK 25 [(47,.bool true)] [] ?_
  refine NN (CT (SR (gK 1 [(2,.bool false)] [] ?_)))
  refine NN (af.ret (ai.aj ?_))
  exact RT (.bool false) [0] (⟨congrArg Value.bool (decide_eq_false (by rw [aY];grind [aX])).symm,rfl⟩)
 refine gK 5 [(27,.bool (decide ((n.uid:Int) < (0:Int))))] [(1,a_ 1 b3)] ?_
 refine ak.bZ 27 ((n.uid:Int) < (0:Int)) (fun _=>by kernel_rfl) (fun KU=>?_) (fun KU=>?_)
 ·refine gK 20 [(47,.bool true)] [] ?_
  refine NN (CT (SR (gK 1 [(2,.bool false)] [] ?_)))
  refine NN (af.ret (ai.aj ?_))
  exact RT (.bool false) [0] (⟨congrArg Value.bool (decide_eq_false (by rw [aY];grind [aX])).symm,rfl⟩)
 refine gK 5 [(32,.bool (decide ((n.uid:Int) > (2147483647:Int))))] [(1,a_ 1 b3)] ?_
 refine ak.bZ 32 ((n.uid:Int) > (2147483647:Int)) (fun _=>by kernel_rfl) (fun vu=>?_) (fun vu=>?_)
 ·refine gK 15 [(47,.bool true)] [] ?_
  refine NN (CT (SR (gK 1 [(2,.bool false)] [] ?_)))
  refine NN (af.ret (ai.aj ?_))
  exact RT (.bool false) [0] (⟨congrArg Value.bool (decide_eq_false (by rw [aY];grind [aX])).symm,rfl⟩)
 refine gK 5 [(37,.bool (decide ((n.gid:Int) < (0:Int))))] [(1,a_ 1 b3)] ?_
 refine ak.bZ 37 ((n.gid:Int) < (0:Int)) (fun _=>by kernel_rfl) (fun OT=>?_) (fun OT=>?_)
 ·refine gK 10 [(47,.bool true)] [] ?_
  refine NN (CT (SR (gK 1 [(2,.bool false)] [] ?_)))
  refine NN (af.ret (ai.aj ?_))
  exact RT (.bool false) [0] (⟨congrArg Value.bool (decide_eq_false (by rw [aY];grind [aX])).symm,rfl⟩)
 refine gK 5 [(42,.bool (decide ((n.gid:Int) > (2147483647:Int))))] [(1,a_ 1 b3)] ?_
 refine ak.bZ 42 ((n.gid:Int) > (2147483647:Int)) (fun _=>by kernel_rfl) (fun mP=>?_) (fun mP=>?_)
 ·refine gK 5 [(47,.bool true)] [] ?_
  refine NN (CT (SR (gK 1 [(2,.bool false)] [] ?_)))
  refine NN (af.ret (ai.aj ?_))
  exact RT (.bool false) [0] (⟨congrArg Value.bool (decide_eq_false (by rw [aY];grind [aX])).symm,rfl⟩)
 refine gK 2 [(44,.agg #[vI (n.sec),vI (n.nano)])] [(1,A_ 1 b3 2)] ?_
 refine gL [] (vz n.sec n.nano) ?_
 rintro _ _ ⟨rfl,rfl⟩
 refine gK 2 [(47,.bool (!(decide (cg n.sec n.nano))))] [] ?_
 refine NN (af.cu (p:=cg n.sec n.nano) (fun _=>by kernel_rfl) (fun OU=>?_) (fun OU=>?_))
 ·refine SR (gK 1 [(2,.bool false)] [] ?_)
  refine NN (af.ret (ai.aj ?_))
  exact RT (.bool false) [0] (⟨congrArg Value.bool (decide_eq_false (by rw [aY];grind [aX])).symm,rfl⟩)
 refine af.skip (NX (af.seq (SR (gK 4 [(51,.bool (!(decide ((n.kind:Int)=(1:Int)))))] [(1,a_ 1 b3)] ?_))))
 refine ak.d9 51 ((n.kind:Int)=(1:Int)) (fun _=>by kernel_rfl) (fun OV=>?_) (fun OV=>?_)
 ·refine gK 6 [(57,.bool (decide ((((n.data.length:Nat):Int):Int) > (0:Int))))] [(1,a_ 1 b3)] ?_
  refine ak.bZ 57 ((((n.data.length:Nat):Int):Int) > (0:Int)) (fun _=>by kernel_rfl) (fun q4=>?_) (fun q4=>?_)
  ·refine gK 10 [(67,.bool true)] [] ?_
   refine NN (CT (SR (gK 1 [(2,.bool false)] [] ?_)))
   refine NN (af.ret (ai.aj ?_))
   exact RT (.bool false) [0] (⟨congrArg Value.bool (decide_eq_false (by rw [aY];grind [aX])).symm,rfl⟩)
  refine gK 4 [(61,.bool (!(decide ((n.kind:Int)=(2:Int)))))] [(1,a_ 1 b3)] ?_
  refine ak.d9 61 ((n.kind:Int)=(2:Int)) (fun _=>by kernel_rfl) (fun KV=>?_) (fun KV=>?_)
  ·refine gK 6 [(67,.bool (decide ((((n.ah.length:Nat):Int):Int) > (0:Int))))] [(1,a_ 1 b3)] ?_
   refine NN (af.aR (p:=(((n.ah.length:Nat):Int):Int) > (0:Int)) (fun _=>by kernel_rfl) (fun KW=>?_) (fun KW=>?_))
   ·refine SR (gK 1 [(2,.bool false)] [] ?_)
    refine NN (af.ret (ai.aj ?_))
    exact RT (.bool false) [0] (⟨congrArg Value.bool (decide_eq_false (by rw [aY];grind [aX])).symm,rfl⟩)
   refine af.skip (NX (af.seq (SR (gK 3 [(70,.bool (!(decide ((n.kind:Int)=(3:Int)))))] [(1,a_ 1 b3)] ?_))))
   refine NN (af.cu (p:=(n.kind:Int)=(3:Int)) (fun _=>by kernel_rfl) (fun AV=>?_) (fun AV=>?_))
   ·refine SR (gK 4 [(2,.bool (decide ((n.target:ByteArray)=⟨#[]⟩)))] [(1,a_ 1 b3),(2,p_ ⟨[],none,none,none,some (.bool (decide ((n.target:ByteArray)=⟨#[]⟩)))⟩ [(Value.bool ((n.target:ByteArray).toList == (⟨#[]⟩:ByteArray).toList))=(.bool (decide ((n.target:ByteArray)=⟨#[]⟩)))] ⟨kY _ _,trivial⟩)] ?_)
    refine NN (af.ret (ai.aj ?_))
    exact RT (.bool (decide ((n.target:ByteArray)=⟨#[]⟩))) [0] (⟨congrArg Value.bool (decide_eq_decide.2 (by rw [aY];grind [aX])),rfl⟩)
   refine af.skip (NX (af.seq (SR (gK 1 [(3,vI 0)] [] ?_))))
   refine NN (af.block ?_)
   refine af.loop (ι:=Nat) (fun (i:Nat)=>(i<=n.target.size)/\(∀ j,j < i->¬ bn n.target j=0)) (fun (i:Nat)=>n.target.size - i) (fun (i:Nat)=>[(1,vP b3),(3,vI ↑i)]) (fun (i:Nat)=>[.abs R,.blk b3 [vI (n.id),vI (n.kind),vI (n.mode),vI (n.uid),vI (n.gid),vI (n.sec),vI (n.nano),.slice dA (n.data.length) (dC),.string n.target,.slice eA (n.ah.length) (eC)] 55]) 0 (idx:=[1,3]) (pk:=[0,1]) (show (0<=n.target.size)/\(∀ j,j < 0->¬ bn n.target j=0) from ⟨Nat.zero_le _,fun j hj=>absurd hj (Nat.not_lt_zero j)⟩) (fun _=>by kernel_rfl) rfl (by kernel_rfl) ?_
   rintro i ⟨hi,hall⟩
   show af _ _ _ _ [(1,vP b3),(3,vI ↑i)] [.abs R,.blk b3 [vI (n.id),vI (n.kind),vI (n.mode),vI (n.uid),vI (n.gid),vI (n.sec),vI (n.nano),.slice dA (n.data.length) (dC),.string n.target,.slice eA (n.ah.length) (eC)] 55] _
   refine af.seq (SR (gK 5 [(78,.bool (decide ((((i:Nat):Int):Int) < ((((n.target:ByteArray).size:Nat):Int):Int))))] [(2,a_ 1 b3)] ?_))
   refine NN (af.aR (p:=(((i:Nat):Int):Int) < ((((n.target:ByteArray).size:Nat):Int):Int)) (fun _=>by kernel_rfl) (fun AX=>?_) (fun AX=>?_))
   ·refine af.skip (NX (af.seq (af.block (SR ?_))))
    refine gK 5 [(85,.bool (decide ((((((n.target:ByteArray).data.getD (i) 0).toNat:Nat):Int):Int)=(0:Int))))] [(1,a_ 1 b3),(3,p_ ⟨[],some i,none,none,none⟩ [((i:Nat):Int)=((i:Nat):Int),i < (n.target:ByteArray).size] ⟨rfl,by omega,trivial⟩)] ?_
    refine NN (af.aR (p:=(((((n.target:ByteArray).data.getD (i) 0).toNat:Nat):Int):Int)=(0:Int)) (fun _=>by kernel_rfl) (fun AY=>?_) (fun AY=>?_))
    ·refine SR (gK 1 [(2,.bool false)] [] ?_)
     refine NN (af.ret (ai.ax (ai.aj (ai.aj (ai.ax (ai.aj ?_))))))
     exact RT (.bool false) [0] (⟨congrArg Value.bool (decide_eq_false (by intro g;have:=(aX.sym g.target (by omega)).2.2 i (by omega);unfold bn at this;omega)).symm,rfl⟩)
    refine af.skip (ai.aF (NX (af.region ?_)))
    refine gK 3 [(3,vI ↑(i+1))] [(1,p_ ⟨[],none,none,none,some (vI ↑(i+1))⟩ [(Value.int .i64 (IntKind.wrap .i64 (((i:Nat):Int)+1)))=(.int .i64 ↑(i+1))] ⟨aU (by omega) (by omega) (by omega),trivial⟩)] ?_
    refine NL ?_
    exact ai.turn ((i+1)) (idx:=[1,3]) (pk:=[0,1]) (show (((i+1))<=n.target.size)/\(∀ j,j < ((i+1))->¬ bn n.target j=0) from ⟨by omega,fun j hj=>by rcases Nat.lt_succ_iff_lt_or_eq.1 hj with h|h;exact hall j h;subst h;unfold bn;omega⟩) (by show n.target.size - ((i+1)) < n.target.size - i;omega) (fun _=>by kernel_rfl) rfl (by kernel_rfl)
   refine af.exit (ai.aL (ai.aL (ai.bG (NX (SR ?_)))))
   refine gK 5 [(90,.bool (decide (((((n.target:ByteArray).size:Nat):Int):Int) ≥ (1:Int))))] [(1,a_ 1 b3)] ?_
   refine ak.bZ 90 (((((n.target:ByteArray).size:Nat):Int):Int) ≥ (1:Int)) (fun _=>by kernel_rfl) (fun AZ=>?_) (fun AZ=>?_)
   ·refine gK 6 [(2,.bool (decide (((((n.target:ByteArray).size:Nat):Int):Int)<=(4096:Int))))] [(1,a_ 1 b3)] ?_
    refine NN (af.ret ?_)
    exact RT (.bool (decide (((((n.target:ByteArray).size:Nat):Int):Int)<=(4096:Int)))) [0] (⟨congrArg Value.bool (decide_eq_decide.2 (by have hA:jF n.target:=fun j hj=>hall j (by omega);rw [aY];grind [aX])),rfl⟩)
   refine gK 6 [(2,.bool false)] [] ?_
   refine NN (af.ret ?_)
   exact RT (.bool false) [0] (⟨congrArg Value.bool (decide_eq_false (by have hA:jF n.target:=fun j hj=>hall j (by omega);rw [aY];grind [aX])).symm,rfl⟩)
  refine gK 6 [(67,.bool false)] [] ?_
  refine NN (CF (af.skip (NX (af.seq (SR (gK 3 [(70,.bool (!(decide ((n.kind:Int)=(3:Int)))))] [(1,a_ 1 b3)] ?_))))))
  refine NN (af.cu (p:=(n.kind:Int)=(3:Int)) (fun _=>by kernel_rfl) (fun AV=>?_) (fun AV=>?_))
  ·refine SR (gK 4 [(2,.bool (decide ((n.target:ByteArray)=⟨#[]⟩)))] [(1,a_ 1 b3),(2,p_ ⟨[],none,none,none,some (.bool (decide ((n.target:ByteArray)=⟨#[]⟩)))⟩ [(Value.bool ((n.target:ByteArray).toList == (⟨#[]⟩:ByteArray).toList))=(.bool (decide ((n.target:ByteArray)=⟨#[]⟩)))] ⟨kY _ _,trivial⟩)] ?_)
   refine NN (af.ret (ai.aj ?_))
   exact RT (.bool (decide ((n.target:ByteArray)=⟨#[]⟩))) [0] (⟨congrArg Value.bool (decide_eq_decide.2 (by rw [aY];grind [aX])),rfl⟩)
  refine af.skip (NX (af.seq (SR (gK 1 [(3,vI 0)] [] ?_))))
  refine NN (af.block ?_)
  refine af.loop (ι:=Nat) (fun (i:Nat)=>(i<=n.target.size)/\(∀ j,j < i->¬ bn n.target j=0)) (fun (i:Nat)=>n.target.size - i) (fun (i:Nat)=>[(1,vP b3),(3,vI ↑i)]) (fun (i:Nat)=>[.abs R,.blk b3 [vI (n.id),vI (n.kind),vI (n.mode),vI (n.uid),vI (n.gid),vI (n.sec),vI (n.nano),.slice dA (n.data.length) (dC),.string n.target,.slice eA (n.ah.length) (eC)] 55]) 0 (idx:=[1,3]) (pk:=[0,1]) (show (0<=n.target.size)/\(∀ j,j < 0->¬ bn n.target j=0) from ⟨Nat.zero_le _,fun j hj=>absurd hj (Nat.not_lt_zero j)⟩) (fun _=>by kernel_rfl) rfl (by kernel_rfl) ?_
  rintro i ⟨hi,hall⟩
  show af _ _ _ _ [(1,vP b3),(3,vI ↑i)] [.abs R,.blk b3 [vI (n.id),vI (n.kind),vI (n.mode),vI (n.uid),vI (n.gid),vI (n.sec),vI (n.nano),.slice dA (n.data.length) (dC),.string n.target,.slice eA (n.ah.length) (eC)] 55] _
  refine af.seq (SR (gK 5 [(78,.bool (decide ((((i:Nat):Int):Int) < ((((n.target:ByteArray).size:Nat):Int):Int))))] [(2,a_ 1 b3)] ?_))
  refine NN (af.aR (p:=(((i:Nat):Int):Int) < ((((n.target:ByteArray).size:Nat):Int):Int)) (fun _=>by kernel_rfl) (fun AX=>?_) (fun AX=>?_))
  ·refine af.skip (NX (af.seq (af.block (SR ?_))))
   refine gK 5 [(85,.bool (decide ((((((n.target:ByteArray).data.getD (i) 0).toNat:Nat):Int):Int)=(0:Int))))] [(1,a_ 1 b3),(3,p_ ⟨[],some i,none,none,none⟩ [((i:Nat):Int)=((i:Nat):Int),i < (n.target:ByteArray).size] ⟨rfl,by omega,trivial⟩)] ?_
   refine NN (af.aR (p:=(((((n.target:ByteArray).data.getD (i) 0).toNat:Nat):Int):Int)=(0:Int)) (fun _=>by kernel_rfl) (fun AY=>?_) (fun AY=>?_))
   ·refine SR (gK 1 [(2,.bool false)] [] ?_)
    refine NN (af.ret (ai.ax (ai.aj (ai.aj (ai.ax (ai.aj ?_))))))
    exact RT (.bool false) [0] (⟨congrArg Value.bool (decide_eq_false (by intro g;have:=(aX.sym g.target (by omega)).2.2 i (by omega);unfold bn at this;omega)).symm,rfl⟩)
   refine af.skip (ai.aF (NX (af.region ?_)))
   refine gK 3 [(3,vI ↑(i+1))] [(1,p_ ⟨[],none,none,none,some (vI ↑(i+1))⟩ [(Value.int .i64 (IntKind.wrap .i64 (((i:Nat):Int)+1)))=(.int .i64 ↑(i+1))] ⟨aU (by omega) (by omega) (by omega),trivial⟩)] ?_
   refine NL ?_
   exact ai.turn ((i+1)) (idx:=[1,3]) (pk:=[0,1]) (show (((i+1))<=n.target.size)/\(∀ j,j < ((i+1))->¬ bn n.target j=0) from ⟨by omega,fun j hj=>by rcases Nat.lt_succ_iff_lt_or_eq.1 hj with h|h;exact hall j h;subst h;unfold bn;omega⟩) (by show n.target.size - ((i+1)) < n.target.size - i;omega) (fun _=>by kernel_rfl) rfl (by kernel_rfl)
  refine af.exit (ai.aL (ai.aL (ai.bG (NX (SR ?_)))))
  refine gK 5 [(90,.bool (decide (((((n.target:ByteArray).size:Nat):Int):Int) ≥ (1:Int))))] [(1,a_ 1 b3)] ?_
  refine ak.bZ 90 (((((n.target:ByteArray).size:Nat):Int):Int) ≥ (1:Int)) (fun _=>by kernel_rfl) (fun AZ=>?_) (fun AZ=>?_)
  ·refine gK 6 [(2,.bool (decide (((((n.target:ByteArray).size:Nat):Int):Int)<=(4096:Int))))] [(1,a_ 1 b3)] ?_
   refine NN (af.ret ?_)
   exact RT (.bool (decide (((((n.target:ByteArray).size:Nat):Int):Int)<=(4096:Int)))) [0] (⟨congrArg Value.bool (decide_eq_decide.2 (by have hA:jF n.target:=fun j hj=>hall j (by omega);rw [aY];grind [aX])),rfl⟩)
  refine gK 6 [(2,.bool false)] [] ?_
  refine NN (af.ret ?_)
  exact RT (.bool false) [0] (⟨congrArg Value.bool (decide_eq_false (by have hA:jF n.target:=fun j hj=>hall j (by omega);rw [aY];grind [aX])).symm,rfl⟩)
 refine gK 10 [(57,.bool false),(61,.bool (!(decide ((n.kind:Int)=(2:Int)))))] [(7,a_ 1 b3)] ?_
 refine ak.d9 61 ((n.kind:Int)=(2:Int)) (fun _=>by kernel_rfl) (fun KV=>?_) (fun KV=>?_)
 ·refine gK 6 [(67,.bool (decide ((((n.ah.length:Nat):Int):Int) > (0:Int))))] [(1,a_ 1 b3)] ?_
  refine NN (af.aR (p:=(((n.ah.length:Nat):Int):Int) > (0:Int)) (fun _=>by kernel_rfl) (fun KW=>?_) (fun KW=>?_))
  ·refine SR (gK 1 [(2,.bool false)] [] ?_)
   refine NN (af.ret (ai.aj ?_))
   exact RT (.bool false) [0] (⟨congrArg Value.bool (decide_eq_false (by rw [aY];grind [aX])).symm,rfl⟩)
  refine af.skip (NX (af.seq (SR (gK 3 [(70,.bool (!(decide ((n.kind:Int)=(3:Int)))))] [(1,a_ 1 b3)] ?_))))
  refine NN (af.cu (p:=(n.kind:Int)=(3:Int)) (fun _=>by kernel_rfl) (fun AV=>?_) (fun AV=>?_))
  ·refine SR (gK 4 [(2,.bool (decide ((n.target:ByteArray)=⟨#[]⟩)))] [(1,a_ 1 b3),(2,p_ ⟨[],none,none,none,some (.bool (decide ((n.target:ByteArray)=⟨#[]⟩)))⟩ [(Value.bool ((n.target:ByteArray).toList == (⟨#[]⟩:ByteArray).toList))=(.bool (decide ((n.target:ByteArray)=⟨#[]⟩)))] ⟨kY _ _,trivial⟩)] ?_)
   refine NN (af.ret (ai.aj ?_))
   exact RT (.bool (decide ((n.target:ByteArray)=⟨#[]⟩))) [0] (⟨congrArg Value.bool (decide_eq_decide.2 (by rw [aY];grind [aX])),rfl⟩)
  refine af.skip (NX (af.seq (SR (gK 1 [(3,vI 0)] [] ?_))))
  refine NN (af.block ?_)
  refine af.loop (ι:=Nat) (fun (i:Nat)=>(i<=n.target.size)/\(∀ j,j < i->¬ bn n.target j=0)) (fun (i:Nat)=>n.target.size - i) (fun (i:Nat)=>[(1,vP b3),(3,vI ↑i)]) (fun (i:Nat)=>[.abs R,.blk b3 [vI (n.id),vI (n.kind),vI (n.mode),vI (n.uid),vI (n.gid),vI (n.sec),vI (n.nano),.slice dA (n.data.length) (dC),.string n.target,.slice eA (n.ah.length) (eC)] 55]) 0 (idx:=[1,3]) (pk:=[0,1]) (show (0<=n.target.size)/\(∀ j,j < 0->¬ bn n.target j=0) from ⟨Nat.zero_le _,fun j hj=>absurd hj (Nat.not_lt_zero j)⟩) (fun _=>by kernel_rfl) rfl (by kernel_rfl) ?_
  rintro i ⟨hi,hall⟩
  show af _ _ _ _ [(1,vP b3),(3,vI ↑i)] [.abs R,.blk b3 [vI (n.id),vI (n.kind),vI (n.mode),vI (n.uid),vI (n.gid),vI (n.sec),vI (n.nano),.slice dA (n.data.length) (dC),.string n.target,.slice eA (n.ah.length) (eC)] 55] _
  refine af.seq (SR (gK 5 [(78,.bool (decide ((((i:Nat):Int):Int) < ((((n.target:ByteArray).size:Nat):Int):Int))))] [(2,a_ 1 b3)] ?_))
  refine NN (af.aR (p:=(((i:Nat):Int):Int) < ((((n.target:ByteArray).size:Nat):Int):Int)) (fun _=>by kernel_rfl) (fun AX=>?_) (fun AX=>?_))
  ·refine af.skip (NX (af.seq (af.block (SR ?_))))
   refine gK 5 [(85,.bool (decide ((((((n.target:ByteArray).data.getD (i) 0).toNat:Nat):Int):Int)=(0:Int))))] [(1,a_ 1 b3),(3,p_ ⟨[],some i,none,none,none⟩ [((i:Nat):Int)=((i:Nat):Int),i < (n.target:ByteArray).size] ⟨rfl,by omega,trivial⟩)] ?_
   refine NN (af.aR (p:=(((((n.target:ByteArray).data.getD (i) 0).toNat:Nat):Int):Int)=(0:Int)) (fun _=>by kernel_rfl) (fun AY=>?_) (fun AY=>?_))
   ·refine SR (gK 1 [(2,.bool false)] [] ?_)
    refine NN (af.ret (ai.ax (ai.aj (ai.aj (ai.ax (ai.aj ?_))))))
    exact RT (.bool false) [0] (⟨congrArg Value.bool (decide_eq_false (by intro g;have:=(aX.sym g.target (by omega)).2.2 i (by omega);unfold bn at this;omega)).symm,rfl⟩)
   refine af.skip (ai.aF (NX (af.region ?_)))
   refine gK 3 [(3,vI ↑(i+1))] [(1,p_ ⟨[],none,none,none,some (vI ↑(i+1))⟩ [(Value.int .i64 (IntKind.wrap .i64 (((i:Nat):Int)+1)))=(.int .i64 ↑(i+1))] ⟨aU (by omega) (by omega) (by omega),trivial⟩)] ?_
   refine NL ?_
   exact ai.turn ((i+1)) (idx:=[1,3]) (pk:=[0,1]) (show (((i+1))<=n.target.size)/\(∀ j,j < ((i+1))->¬ bn n.target j=0) from ⟨by omega,fun j hj=>by rcases Nat.lt_succ_iff_lt_or_eq.1 hj with h|h;exact hall j h;subst h;unfold bn;omega⟩) (by show n.target.size - ((i+1)) < n.target.size - i;omega) (fun _=>by kernel_rfl) rfl (by kernel_rfl)
  refine af.exit (ai.aL (ai.aL (ai.bG (NX (SR ?_)))))
  refine gK 5 [(90,.bool (decide (((((n.target:ByteArray).size:Nat):Int):Int) ≥ (1:Int))))] [(1,a_ 1 b3)] ?_
  refine ak.bZ 90 (((((n.target:ByteArray).size:Nat):Int):Int) ≥ (1:Int)) (fun _=>by kernel_rfl) (fun AZ=>?_) (fun AZ=>?_)
  ·refine gK 6 [(2,.bool (decide (((((n.target:ByteArray).size:Nat):Int):Int)<=(4096:Int))))] [(1,a_ 1 b3)] ?_
   refine NN (af.ret ?_)
   exact RT (.bool (decide (((((n.target:ByteArray).size:Nat):Int):Int)<=(4096:Int)))) [0] (⟨congrArg Value.bool (decide_eq_decide.2 (by have hA:jF n.target:=fun j hj=>hall j (by omega);rw [aY];grind [aX])),rfl⟩)
  refine gK 6 [(2,.bool false)] [] ?_
  refine NN (af.ret ?_)
  exact RT (.bool false) [0] (⟨congrArg Value.bool (decide_eq_false (by have hA:jF n.target:=fun j hj=>hall j (by omega);rw [aY];grind [aX])).symm,rfl⟩)
 refine gK 6 [(67,.bool false)] [] ?_
 refine NN (CF (af.skip (NX (af.seq (SR (gK 3 [(70,.bool (!(decide ((n.kind:Int)=(3:Int)))))] [(1,a_ 1 b3)] ?_))))))
 refine NN (af.cu (p:=(n.kind:Int)=(3:Int)) (fun _=>by kernel_rfl) (fun AV=>?_) (fun AV=>?_))
 ·refine SR (gK 4 [(2,.bool (decide ((n.target:ByteArray)=⟨#[]⟩)))] [(1,a_ 1 b3),(2,p_ ⟨[],none,none,none,some (.bool (decide ((n.target:ByteArray)=⟨#[]⟩)))⟩ [(Value.bool ((n.target:ByteArray).toList == (⟨#[]⟩:ByteArray).toList))=(.bool (decide ((n.target:ByteArray)=⟨#[]⟩)))] ⟨kY _ _,trivial⟩)] ?_)
  refine NN (af.ret (ai.aj ?_))
  exact RT (.bool (decide ((n.target:ByteArray)=⟨#[]⟩))) [0] (⟨congrArg Value.bool (decide_eq_decide.2 (by rw [aY];grind [aX])),rfl⟩)
 refine af.skip (NX (af.seq (SR (gK 1 [(3,vI 0)] [] ?_))))
 refine NN (af.block ?_)
 refine af.loop (ι:=Nat) (fun (i:Nat)=>(i<=n.target.size)/\(∀ j,j < i->¬ bn n.target j=0)) (fun (i:Nat)=>n.target.size - i) (fun (i:Nat)=>[(1,vP b3),(3,vI ↑i)]) (fun (i:Nat)=>[.abs R,.blk b3 [vI (n.id),vI (n.kind),vI (n.mode),vI (n.uid),vI (n.gid),vI (n.sec),vI (n.nano),.slice dA (n.data.length) (dC),.string n.target,.slice eA (n.ah.length) (eC)] 55]) 0 (idx:=[1,3]) (pk:=[0,1]) (show (0<=n.target.size)/\(∀ j,j < 0->¬ bn n.target j=0) from ⟨Nat.zero_le _,fun j hj=>absurd hj (Nat.not_lt_zero j)⟩) (fun _=>by kernel_rfl) rfl (by kernel_rfl) ?_
 rintro i ⟨hi,hall⟩
 show af _ _ _ _ [(1,vP b3),(3,vI ↑i)] [.abs R,.blk b3 [vI (n.id),vI (n.kind),vI (n.mode),vI (n.uid),vI (n.gid),vI (n.sec),vI (n.nano),.slice dA (n.data.length) (dC),.string n.target,.slice eA (n.ah.length) (eC)] 55] _
 refine af.seq (SR (gK 5 [(78,.bool (decide ((((i:Nat):Int):Int) < ((((n.target:ByteArray).size:Nat):Int):Int))))] [(2,a_ 1 b3)] ?_))
 refine NN (af.aR (p:=(((i:Nat):Int):Int) < ((((n.target:ByteArray).size:Nat):Int):Int)) (fun _=>by kernel_rfl) (fun AX=>?_) (fun AX=>?_))
 ·refine af.skip (NX (af.seq (af.block (SR ?_))))
  refine gK 5 [(85,.bool (decide ((((((n.target:ByteArray).data.getD (i) 0).toNat:Nat):Int):Int)=(0:Int))))] [(1,a_ 1 b3),(3,p_ ⟨[],some i,none,none,none⟩ [((i:Nat):Int)=((i:Nat):Int),i < (n.target:ByteArray).size] ⟨rfl,by omega,trivial⟩)] ?_
  refine NN (af.aR (p:=(((((n.target:ByteArray).data.getD (i) 0).toNat:Nat):Int):Int)=(0:Int)) (fun _=>by kernel_rfl) (fun AY=>?_) (fun AY=>?_))
  ·refine SR (gK 1 [(2,.bool false)] [] ?_)
   refine NN (af.ret (ai.ax (ai.aj (ai.aj (ai.ax (ai.aj ?_))))))
   exact RT (.bool false) [0] (⟨congrArg Value.bool (decide_eq_false (by intro g;have:=(aX.sym g.target (by omega)).2.2 i (by omega);unfold bn at this;omega)).symm,rfl⟩)
  refine af.skip (ai.aF (NX (af.region ?_)))
  refine gK 3 [(3,vI ↑(i+1))] [(1,p_ ⟨[],none,none,none,some (vI ↑(i+1))⟩ [(Value.int .i64 (IntKind.wrap .i64 (((i:Nat):Int)+1)))=(.int .i64 ↑(i+1))] ⟨aU (by omega) (by omega) (by omega),trivial⟩)] ?_
  refine NL ?_
  exact ai.turn ((i+1)) (idx:=[1,3]) (pk:=[0,1]) (show (((i+1))<=n.target.size)/\(∀ j,j < ((i+1))->¬ bn n.target j=0) from ⟨by omega,fun j hj=>by rcases Nat.lt_succ_iff_lt_or_eq.1 hj with h|h;exact hall j h;subst h;unfold bn;omega⟩) (by show n.target.size - ((i+1)) < n.target.size - i;omega) (fun _=>by kernel_rfl) rfl (by kernel_rfl)
 refine af.exit (ai.aL (ai.aL (ai.bG (NX (SR ?_)))))
 refine gK 5 [(90,.bool (decide (((((n.target:ByteArray).size:Nat):Int):Int) ≥ (1:Int))))] [(1,a_ 1 b3)] ?_
 refine ak.bZ 90 (((((n.target:ByteArray).size:Nat):Int):Int) ≥ (1:Int)) (fun _=>by kernel_rfl) (fun AZ=>?_) (fun AZ=>?_)
 ·refine gK 6 [(2,.bool (decide (((((n.target:ByteArray).size:Nat):Int):Int)<=(4096:Int))))] [(1,a_ 1 b3)] ?_
  refine NN (af.ret ?_)
  exact RT (.bool (decide (((((n.target:ByteArray).size:Nat):Int):Int)<=(4096:Int)))) [0] (⟨congrArg Value.bool (decide_eq_decide.2 (by have hA:jF n.target:=fun j hj=>hall j (by omega);rw [aY];grind [aX])),rfl⟩)
 refine gK 6 [(2,.bool false)] [] ?_
 refine NN (af.ret ?_)
 exact RT (.bool false) [0] (⟨congrArg Value.bool (decide_eq_false (by have hA:jF n.target:=fun j hj=>hall j (by omega);rw [aY];grind [aX])).symm,rfl⟩)
theorem Mv {β:Bs} (A:Option Addr) (c:Nat) (ns:List aE) (L:Lay) (hG:au β A ns L) (hr:bN ns) (hl:ns.length<=1048576) (id:Int) :
    Spec Tryz.prog β 37 #[.agg #[.slice A ns.length c],vI id] [] (fun v l=>v=vI (gJ ns id)/\l=[]):=by
 refine Spec.enter Tryz.func37 rfl Tryz.ntmps37 (Nat.le_of_ble_eq_true rfl) (fun R=>?_)
 refine SR (gN 2 (fun b4=>[(2,vP b4)]) (fun _=>[]) (fun _=>[]) (fun b4=>.blk b4 [.slice A (ns.length) (c)] 24) (fun b4=>?_))
 refine NS (gK 1 [(5,vI 0)] [] ?_)
 refine NS (gK 4 [(6,vI ↑ns.length)] [(1,a_ 1 b4)] ?_)
 refine NN (af.seq (af.block ?_))
 refine af.loop (ι:=Nat×Nat) (fun ((lo,hi):Nat×Nat)=>(lo<=hi)/\(hi<=ns.length)/\(∀ j,j < lo->(nd ns j).id < id)/\(∀ j,hi<=j->j < ns.length->id<=(nd ns j).id)) (fun ((lo,hi):Nat×Nat)=>hi - lo) (fun ((lo,hi):Nat×Nat)=>[(1,vI (id)),(2,vP b4),(5,vI ↑lo),(6,vI ↑hi)]) (fun ((lo,hi):Nat×Nat)=>[.abs R,.blk b4 [.slice A (ns.length) (c)] 24]) (0,ns.length) (idx:=[1,2,5,6]) (pk:=[0,1]) (show (0<=ns.length)/\(ns.length<=ns.length)/\(∀ j,j < 0->(nd ns j).id < id)/\(∀ j,ns.length<=j->j < ns.length->id<=(nd ns j).id) from ⟨Nat.zero_le _,Nat.le_refl _,fun j hj=>absurd hj (Nat.not_lt_zero j),fun j h1 h2=>absurd h2 (Nat.not_lt.2 h1)⟩) (fun _=>by kernel_rfl) rfl (by kernel_rfl) ?_
 rintro⟨lo,hi⟩ ⟨hlh,hhi,ha,hb⟩
 show af _ _ _ _ [(1,vI (id)),(2,vP b4),(5,vI ↑lo),(6,vI ↑hi)] [.abs R,.blk b4 [.slice A (ns.length) (c)] 24] _
 refine af.seq (SR (gK 3 [(13,.bool (decide ((((lo:Nat):Int):Int) < (((hi:Nat):Int):Int))))] [] ?_))
 refine NN (af.aR (p:=(((lo:Nat):Int):Int) < (((hi:Nat):Int):Int)) (fun _=>by kernel_rfl) (fun KS=>?_) (fun KS=>?_))
 ·refine af.skip (NX (af.block (SR ?_)))
  refine gK 7 [(7,vI ↑(lo+((hi - lo) / 2)))] [(3,p_ ⟨[],none,none,none,some (vI ↑(hi - lo))⟩ [(Value.int .i64 (IntKind.wrap .i64 (((hi:Nat):Int) - ((lo:Nat):Int))))=(.int .i64 ↑(hi - lo))] ⟨aU (by omega) (by omega) (by omega),trivial⟩),(4,p_ ⟨[],none,none,none,some (vI ↑((hi - lo) / 2))⟩ [(Value.int .i64 (IntKind.wrap .i64 (Int.tdiv (((hi - lo):Nat):Int) 2)))=(.int .i64 ↑((hi - lo) / 2))] ⟨aU (Int.ofNat_tdiv _ _).symm (by omega) (by omega),trivial⟩),(5,p_ ⟨[],none,none,none,some (vI ↑(lo+((hi - lo) / 2)))⟩ [(Value.int .i64 (IntKind.wrap .i64 (((lo:Nat):Int)+(((hi - lo) / 2:Nat):Int))))=(.int .i64 ↑(lo+((hi - lo) / 2)))] ⟨aU (by omega) (by omega) (by omega),trivial⟩)] ?_
  refine NS (gK 8 [(27,.bool (decide (((nd ns (lo+((hi - lo) / 2))).id:Int) < (id:Int))))] [(1,a_ 1 b4),(3,p_ ⟨[],some (lo+((hi - lo) / 2)),none,some ⟨(ar A),aq A,none⟩,none⟩ [((lo+((hi - lo) / 2):Nat):Int)=((lo+((hi - lo) / 2):Nat):Int),lo+((hi - lo) / 2) < ns.length,(⟨(ar A),aq A,none⟩:Addr).spot=none,(A:Option Addr)=some ⟨(ar A),aq A,none⟩] ⟨rfl,by omega,rfl,au.hd hG (i:=lo+((hi - lo) / 2)) (by omega),trivial⟩),(5,p_ ⟨[.old (.int .i64 ((nd ns (lo+((hi - lo) / 2))).id))],none,none,none,none⟩ [(Rd β ⟨(ar A),aq A+(lo+((hi - lo) / 2)) * 10,none⟩ (.int .i64 ((nd ns (lo+((hi - lo) / 2))).id)))] ⟨au.rd hG (i:=lo+((hi - lo) / 2)) (by omega) (j:=0) rfl,trivial⟩)] ?_)
  refine NN (af.aR (p:=((nd ns (lo+((hi - lo) / 2))).id:Int) < (id:Int)) (fun _=>by kernel_rfl) (fun KU=>?_) (fun KU=>?_))
  ·refine af.region (gK 3 [(5,vI ↑((lo+((hi - lo) / 2))+1))] [(1,p_ ⟨[],none,none,none,some (vI ↑((lo+((hi - lo) / 2))+1))⟩ [(Value.int .i64 (IntKind.wrap .i64 (((lo+((hi - lo) / 2):Nat):Int)+1)))=(.int .i64 ↑((lo+((hi - lo) / 2))+1))] ⟨aU (by omega) (by omega) (by omega),trivial⟩)] ?_)
   refine NL (ai.aF ?_)
   exact ai.turn (((lo+(hi - lo) / 2)+1),hi) (idx:=[1,2,5,6]) (pk:=[0,1]) (show ((((lo+(hi - lo) / 2)+1))<=hi)/\(hi<=ns.length)/\(∀ j,j < (((lo+(hi - lo) / 2)+1))->(nd ns j).id < id)/\(∀ j,hi<=j->j < ns.length->id<=(nd ns j).id) from ⟨by omega,by omega,fun j hj=>by have:=hr.le (show j<=(lo+(hi - lo) / 2) by omega) (by omega);omega,hb⟩) (by show hi - (((lo+(hi - lo) / 2)+1)) < hi - lo;omega) (fun _=>by kernel_rfl) rfl (by kernel_rfl)
  refine af.region (gK 2 [(6,vI ↑(lo+((hi - lo) / 2)))] [] ?_)
  refine NL (ai.aF ?_)
  exact ai.turn (lo,(lo+(hi - lo) / 2)) (idx:=[1,2,5,6]) (pk:=[0,1]) (show (lo<=((lo+(hi - lo) / 2)))/\(((lo+(hi - lo) / 2))<=ns.length)/\(∀ j,j < lo->(nd ns j).id < id)/\(∀ j,((lo+(hi - lo) / 2))<=j->j < ns.length->id<=(nd ns j).id) from ⟨by omega,by omega,ha,fun j hj hj2=>by have:=hr.le hj hj2;omega⟩) (by show ((lo+(hi - lo) / 2)) - lo < hi - lo;omega) (fun _=>by kernel_rfl) rfl (by kernel_rfl)
 refine af.exit (ai.aL (ai.aL (ai.bG (NX (af.seq (SR ?_))))))
 refine gK 6 [(36,.bool (decide ((((lo:Nat):Int):Int) < (((ns.length:Nat):Int):Int))))] [(2,a_ 1 b4)] ?_
 refine ak.bZ 36 ((((lo:Nat):Int):Int) < (((ns.length:Nat):Int):Int)) (fun _=>by kernel_rfl) (fun OW=>?_) (fun OW=>?_)
 ·refine gK 9 [(45,.bool (decide (((nd ns lo).id:Int)=(id:Int))))] [(1,a_ 1 b4),(3,p_ ⟨[],some lo,none,some ⟨(ar A),aq A,none⟩,none⟩ [((lo:Nat):Int)=((lo:Nat):Int),lo < ns.length,(⟨(ar A),aq A,none⟩:Addr).spot=none,(A:Option Addr)=some ⟨(ar A),aq A,none⟩] ⟨rfl,by omega,rfl,au.hd hG (i:=lo) (by omega),trivial⟩),(5,p_ ⟨[.old (.int .i64 ((nd ns lo).id))],none,none,none,none⟩ [(Rd β ⟨(ar A),aq A+lo * 10,none⟩ (.int .i64 ((nd ns lo).id)))] ⟨au.rd hG (i:=lo) (by omega) (j:=0) rfl,trivial⟩)] ?_
  refine NN (af.aR (p:=((nd ns lo).id:Int)=(id:Int)) (fun _=>by kernel_rfl) (fun M9=>?_) (fun M9=>?_))
  ·refine SR (gK 2 [(4,vI ↑lo)] [] ?_)
   refine NN (af.ret (ai.aj ?_))
   exact RT (vI ↑lo) [0] (⟨congrArg (Value.int .i64) (G1 hr (by omega) M9).symm,rfl⟩)
  refine af.skip (NX (SR (gK 1 [(4,vI (-1))] [] ?_)))
  refine NN (af.ret ?_)
  exact RT (l:=[]) (.int .i64 (-1)) [0] (⟨congrArg (Value.int .i64) (AK (fun j hj e=>by rcases Nat.lt_trichotomy j lo with h|h|h;have:=ha j h;omega;subst h;omega;have:=hr lo j h hj;have:=hb lo (by omega) (by omega);omega)).symm,rfl⟩)
 refine gK 9 [(45,.bool false)] [] ?_
 refine NN (CF (af.skip (NX (SR (gK 1 [(4,vI (-1))] [] ?_)))))
 refine NN (af.ret ?_)
 exact RT (l:=[]) (.int .i64 (-1)) [0] (⟨congrArg (Value.int .i64) (AK (fun j hj e=>by rcases Nat.lt_trichotomy j lo with h|h|h;have:=ha j h;omega;subst h;omega;have:=hr lo j h hj;have:=hb lo (by omega) (by omega);omega)).symm,rfl⟩)
theorem uN {β:Bs} (A:Option Addr) (ns:List aE) (L:Lay) (hG:au β A ns L) (i:Nat) (hi:i < ns.length) :
    Spec Tryz.prog β 90 #[.pointer (some ⟨(ar A),aq A+i * 10,none⟩)] [] (fun v l=>v=.bool (decide (aX (nd ns i).kind (nd ns i).target))/\l=[]):=by
 refine Spec.enter Tryz.func90 rfl Tryz.ntmps90 (Nat.le_of_ble_eq_true rfl) (fun R=>?_)
 refine SR (gK 1 [] [] ?_)
 refine NN (af.seq (SR (gK 5 [(7,.bool (!(decide (((nd ns i).kind:Int)=(3:Int)))))] [(3,p_ ⟨[.old (.int .i64 ((nd ns i).kind))],none,none,none,none⟩ [(Rd β ⟨(ar A),aq A+i * 10+1,none⟩ (.int .i64 ((nd ns i).kind)))] ⟨au.rd hG (i:=i) (by omega) (j:=1) rfl,trivial⟩)] ?_)))
 refine NN (af.cu (p:=((nd ns i).kind:Int)=(3:Int)) (fun _=>by kernel_rfl) (fun h7=>?_) (fun h7=>?_))
 ·refine SR (gK 6 [(2,.bool (decide (((nd ns i).target:ByteArray)=⟨#[]⟩)))] [(3,p_ ⟨[.old (.string (nd ns i).target)],none,none,none,none⟩ [(Rd β ⟨(ar A),aq A+i * 10+8,none⟩ (.string (nd ns i).target))] ⟨au.rd hG (i:=i) (by omega) (j:=8) rfl,trivial⟩),(4,p_ ⟨[],none,none,none,some (.bool (decide (((nd ns i).target:ByteArray)=⟨#[]⟩)))⟩ [(Value.bool (((nd ns i).target:ByteArray).toList == (⟨#[]⟩:ByteArray).toList))=(.bool (decide (((nd ns i).target:ByteArray)=⟨#[]⟩)))] ⟨kY _ _,trivial⟩)] ?_)
  refine NN (af.ret (ai.aj ?_))
  exact RT (.bool (decide (((nd ns i).target:ByteArray)=⟨#[]⟩))) [0] (⟨congrArg Value.bool (decide_eq_decide.2 (by have h0:=jG (s:=(nd ns i).target);grind [aX])),rfl⟩)
 refine af.skip (NX (SR (gK 6 [(18,.bool (!(decide (((nd ns i).target:ByteArray)=⟨#[]⟩))))] [(3,p_ ⟨[.old (.string (nd ns i).target)],none,none,none,none⟩ [(Rd β ⟨(ar A),aq A+i * 10+8,none⟩ (.string (nd ns i).target))] ⟨au.rd hG (i:=i) (by omega) (j:=8) rfl,trivial⟩),(4,p_ ⟨[],none,none,none,some (.bool (!(decide (((nd ns i).target:ByteArray)=⟨#[]⟩))))⟩ [(Value.bool (!(((nd ns i).target:ByteArray).toList == (⟨#[]⟩:ByteArray).toList)))=(.bool (!(decide (((nd ns i).target:ByteArray)=⟨#[]⟩))))] ⟨wH _ _,trivial⟩)] ?_)))
 refine ak.d9 18 (((nd ns i).target:ByteArray)=⟨#[]⟩) (fun _=>by kernel_rfl) (fun kS=>?_) (fun kS=>?_)
 ·refine gK 8 [(26,.bool (decide ((((((nd ns i).target:ByteArray).size:Nat):Int):Int)<=(4096:Int))))] [(3,p_ ⟨[.old (.string (nd ns i).target)],none,none,none,none⟩ [(Rd β ⟨(ar A),aq A+i * 10+8,none⟩ (.string (nd ns i).target))] ⟨au.rd hG (i:=i) (by omega) (j:=8) rfl,trivial⟩)] ?_
  refine ak.bZ 26 ((((((nd ns i).target:ByteArray).size:Nat):Int):Int)<=(4096:Int)) (fun _=>by kernel_rfl) (fun zw=>?_) (fun zw=>?_)
  ·refine gK 4 [(30,.string (nd ns i).target)] [(3,p_ ⟨[.old (.string (nd ns i).target)],none,none,none,none⟩ [(Rd β ⟨(ar A),aq A+i * 10+8,none⟩ (.string (nd ns i).target))] ⟨au.rd hG (i:=i) (by omega) (j:=8) rfl,trivial⟩)] ?_
   refine gL (f:=118) (args:=#[.string (nd ns i).target,.int .u8 0]) (pre:=[]) [] (Spec.quiet (fun w=>Tryz.strings_IndexByte (nd ns i).target 0 w)) ?_
   rintro _ _ ⟨rfl,rfl⟩
   refine gK 3 [(2,.bool (decide ((Lib.indexByte (nd ns i).target.data.toList (0:Int).toNat.toUInt8:Int) < (0:Int))))] [] ?_
   refine NN (af.ret ?_)
   exact RT (.bool (decide ((Lib.indexByte (nd ns i).target.data.toList (0:Int).toNat.toUInt8:Int) < (0:Int)))) [0] (⟨congrArg Value.bool (decide_eq_decide.2 (by have h0:=jG (s:=(nd ns i).target);rw [AL];grind [aX])),rfl⟩)
  refine gK 8 [(2,.bool false)] [] ?_
  refine NN (af.ret ?_)
  exact RT (.bool false) [0] (⟨congrArg Value.bool (decide_eq_false (by have h0:=jG (s:=(nd ns i).target);grind [aX])).symm,rfl⟩)
 refine gK 16 [(2,.bool false)] [] ?_
 refine NN (af.ret ?_)
 exact RT (.bool false) [0] (⟨congrArg Value.bool (decide_eq_false (by have h0:=jG (s:=(nd ns i).target);grind [aX])).symm,rfl⟩)
theorem G5 {β:Bs} (A:Option Addr) (ns:List aE) (L:Lay) (hG:au β A ns L) (i:Nat) (hi:i < ns.length) :
    Spec Tryz.prog β 63 #[.pointer (some ⟨(ar A),aq A+i * 10,none⟩)] [] (fun v l=>v=.bool (decide (iC (nd ns i)))/\l=[]):=by
 refine Spec.enter Tryz.func63 rfl Tryz.ntmps63 (Nat.le_of_ble_eq_true rfl) (fun R=>?_)
 refine SR (gK 1 [] [] ?_)
 refine NN (af.seq (SR (gK 4 [(6,vI ((nd ns i).kind))] [(3,p_ ⟨[.old (.int .i64 ((nd ns i).kind))],none,none,none,none⟩ [(Rd β ⟨(ar A),aq A+i * 10+1,none⟩ (.int .i64 ((nd ns i).kind)))] ⟨au.rd hG (i:=i) (by omega) (j:=1) rfl,trivial⟩)] ?_)))
 refine gL [] (qp ((nd ns i).kind) 1 3) ?_
 rintro _ _ ⟨rfl,rfl⟩
 refine gK 2 [(9,.bool (!(decide (Within ((nd ns i).kind) 1 3))))] [] ?_
 refine ak.d9 9 (Within ((nd ns i).kind) 1 3) (fun _=>by kernel_rfl) (fun h9=>?_) (fun h9=>?_)
 ·refine gK 23 [(32,.bool true)] [] ?_
  refine NN (CT (SR (gK 1 [(2,.bool false)] [] ?_)))
  refine NN (af.ret (ai.aj ?_))
  exact RT (.bool false) [0] (⟨congrArg Value.bool (decide_eq_false (by rw [aY];unfold Within at *;grind)).symm,rfl⟩)
 refine gK 4 [(13,vI ((nd ns i).mode))] [(3,p_ ⟨[.old (.int .i64 ((nd ns i).mode))],none,none,none,none⟩ [(Rd β ⟨(ar A),aq A+i * 10+2,none⟩ (.int .i64 ((nd ns i).mode)))] ⟨au.rd hG (i:=i) (by omega) (j:=2) rfl,trivial⟩)] ?_
 refine gL [] (qp ((nd ns i).mode) 0 4095) ?_
 rintro _ _ ⟨rfl,rfl⟩
 refine gK 3 [(17,.bool (!(decide (Within ((nd ns i).mode) 0 4095))))] [] ?_
 refine ak.d9 17 (Within ((nd ns i).mode) 0 4095) (fun _=>by kernel_rfl) (fun Fk=>?_) (fun Fk=>?_)
 ·refine gK 15 [(32,.bool true)] [] ?_
  refine NN (CT (SR (gK 1 [(2,.bool false)] [] ?_)))
  refine NN (af.ret (ai.aj ?_))
  exact RT (.bool false) [0] (⟨congrArg Value.bool (decide_eq_false (by rw [aY];unfold Within at *;grind)).symm,rfl⟩)
 refine gK 4 [(21,vI ((nd ns i).uid))] [(3,p_ ⟨[.old (.int .i64 ((nd ns i).uid))],none,none,none,none⟩ [(Rd β ⟨(ar A),aq A+i * 10+3,none⟩ (.int .i64 ((nd ns i).uid)))] ⟨au.rd hG (i:=i) (by omega) (j:=3) rfl,trivial⟩)] ?_
 refine gL [] (qp ((nd ns i).uid) 0 2147483647) ?_
 rintro _ _ ⟨rfl,rfl⟩
 refine gK 3 [(25,.bool (!(decide (Within ((nd ns i).uid) 0 2147483647))))] [] ?_
 refine ak.d9 25 (Within ((nd ns i).uid) 0 2147483647) (fun _=>by kernel_rfl) (fun vr=>?_) (fun vr=>?_)
 ·refine gK 7 [(32,.bool true)] [] ?_
  refine NN (CT (SR (gK 1 [(2,.bool false)] [] ?_)))
  refine NN (af.ret (ai.aj ?_))
  exact RT (.bool false) [0] (⟨congrArg Value.bool (decide_eq_false (by rw [aY];unfold Within at *;grind)).symm,rfl⟩)
 refine gK 4 [(29,vI ((nd ns i).gid))] [(3,p_ ⟨[.old (.int .i64 ((nd ns i).gid))],none,none,none,none⟩ [(Rd β ⟨(ar A),aq A+i * 10+4,none⟩ (.int .i64 ((nd ns i).gid)))] ⟨au.rd hG (i:=i) (by omega) (j:=4) rfl,trivial⟩)] ?_
 refine gL [] (qp ((nd ns i).gid) 0 2147483647) ?_
 rintro _ _ ⟨rfl,rfl⟩
 refine gK 2 [(32,.bool (!(decide (Within ((nd ns i).gid) 0 2147483647))))] [] ?_
 refine NN (af.cu (p:=Within ((nd ns i).gid) 0 2147483647) (fun _=>by kernel_rfl) (fun vu=>?_) (fun vu=>?_))
 ·refine SR (gK 1 [(2,.bool false)] [] ?_)
  refine NN (af.ret (ai.aj ?_))
  exact RT (.bool false) [0] (⟨congrArg Value.bool (decide_eq_false (by rw [aY];unfold Within at *;grind)).symm,rfl⟩)
 refine af.skip (NX (af.seq (SR (gK 6 [(38,.bool (!(decide (((nd ns i).kind:Int)=(1:Int)))))] [(3,p_ ⟨[.old (.int .i64 ((nd ns i).kind))],none,none,none,none⟩ [(Rd β ⟨(ar A),aq A+i * 10+1,none⟩ (.int .i64 ((nd ns i).kind)))] ⟨au.rd hG (i:=i) (by omega) (j:=1) rfl,trivial⟩)] ?_))))
 refine ak.d9 38 (((nd ns i).kind:Int)=(1:Int)) (fun _=>by kernel_rfl) (fun wT=>?_) (fun wT=>?_)
 ·refine gK 8 [(46,.bool (decide (((((nd ns i).data.length:Nat):Int):Int) > (0:Int))))] [(3,p_ ⟨[.old (.slice (L.dA i) ((nd ns i).data.length) ((L.dC i)))],none,none,none,none⟩ [(Rd β ⟨(ar A),aq A+i * 10+7,none⟩ (.slice (L.dA i) ((nd ns i).data.length) ((L.dC i))))] ⟨au.rd hG (i:=i) (by omega) (j:=7) rfl,trivial⟩)] ?_
  refine ak.bZ 46 (((((nd ns i).data.length:Nat):Int):Int) > (0:Int)) (fun _=>by kernel_rfl) (fun h46=>?_) (fun h46=>?_)
  ·refine gK 14 [(60,.bool true)] [] ?_
   refine NN (CT (SR (gK 1 [(2,.bool false)] [] ?_)))
   refine NN (af.ret (ai.aj ?_))
   exact RT (.bool false) [0] (⟨congrArg Value.bool (decide_eq_false (by rw [aY];unfold Within at *;grind)).symm,rfl⟩)
  refine gK 6 [(52,.bool (!(decide (((nd ns i).kind:Int)=(2:Int)))))] [(3,p_ ⟨[.old (.int .i64 ((nd ns i).kind))],none,none,none,none⟩ [(Rd β ⟨(ar A),aq A+i * 10+1,none⟩ (.int .i64 ((nd ns i).kind)))] ⟨au.rd hG (i:=i) (by omega) (j:=1) rfl,trivial⟩)] ?_
  refine ak.d9 52 (((nd ns i).kind:Int)=(2:Int)) (fun _=>by kernel_rfl) (fun KX=>?_) (fun KX=>?_)
  ·refine gK 8 [(60,.bool (decide (((((nd ns i).ah.length:Nat):Int):Int) > (0:Int))))] [(3,p_ ⟨[.old (.slice (L.eA i) ((nd ns i).ah.length) ((L.eC i)))],none,none,none,none⟩ [(Rd β ⟨(ar A),aq A+i * 10+9,none⟩ (.slice (L.eA i) ((nd ns i).ah.length) ((L.eC i))))] ⟨au.rd hG (i:=i) (by omega) (j:=9) rfl,trivial⟩)] ?_
   refine NN (af.aR (p:=((((nd ns i).ah.length:Nat):Int):Int) > (0:Int)) (fun _=>by kernel_rfl) (fun KY=>?_) (fun KY=>?_))
   ·refine SR (gK 1 [(2,.bool false)] [] ?_)
    refine NN (af.ret (ai.aj ?_))
    exact RT (.bool false) [0] (⟨congrArg Value.bool (decide_eq_false (by rw [aY];unfold Within at *;grind)).symm,rfl⟩)
   refine af.skip (NX (SR (gK 4 [(64,.agg #[vI ((nd ns i).sec),vI ((nd ns i).nano)])] [(3,p_ ⟨[.old (.int .i64 ((nd ns i).sec)),.old (.int .i64 ((nd ns i).nano))],none,none,none,none⟩ [(Rd β ⟨(ar A),aq A+i * 10+5+1,none⟩ (.int .i64 ((nd ns i).nano))),(Rd β ⟨(ar A),aq A+i * 10+5,none⟩ (.int .i64 ((nd ns i).sec)))] ⟨au.rd hG (i:=i) (by omega) (j:=6) rfl,au.rd hG (i:=i) (by omega) (j:=5) rfl,trivial⟩)] ?_)))
   refine gL [] (fU (nd ns i).sec (nd ns i).nano) ?_
   rintro _ _ ⟨rfl,rfl⟩
   refine gK 1 [(66,.bool (decide (cg (nd ns i).sec (nd ns i).nano)))] [] ?_
   refine ak.bZ 66 (cg (nd ns i).sec (nd ns i).nano) (fun _=>by kernel_rfl) (fun wU=>?_) (fun wU=>?_)
   ·refine gK 1 [(67,.pointer (some ⟨(ar A),aq A+i * 10,none⟩))] [] ?_
    refine gL [] (uN A ns L hG i hi) ?_
    rintro _ _ ⟨rfl,rfl⟩
    refine gK 2 [(2,.bool (decide (aX (nd ns i).kind (nd ns i).target)))] [] ?_
    refine NN (af.ret ?_)
    exact RT (.bool (decide (aX (nd ns i).kind (nd ns i).target))) [0] (⟨congrArg Value.bool (decide_eq_decide.2 (by rw [aY];unfold Within at *;grind)),rfl⟩)
   refine gK 4 [(2,.bool false)] [] ?_
   refine NN (af.ret ?_)
   exact RT (.bool false) [0] (⟨congrArg Value.bool (decide_eq_false (by rw [aY];unfold Within at *;grind)).symm,rfl⟩)
  refine gK 8 [(60,.bool false)] [] ?_
  refine NN (CF (af.skip (NX (SR (gK 4 [(64,.agg #[vI ((nd ns i).sec),vI ((nd ns i).nano)])] [(3,p_ ⟨[.old (.int .i64 ((nd ns i).sec)),.old (.int .i64 ((nd ns i).nano))],none,none,none,none⟩ [(Rd β ⟨(ar A),aq A+i * 10+5+1,none⟩ (.int .i64 ((nd ns i).nano))),(Rd β ⟨(ar A),aq A+i * 10+5,none⟩ (.int .i64 ((nd ns i).sec)))] ⟨au.rd hG (i:=i) (by omega) (j:=6) rfl,au.rd hG (i:=i) (by omega) (j:=5) rfl,trivial⟩)] ?_)))))
  refine gL [] (fU (nd ns i).sec (nd ns i).nano) ?_
  rintro _ _ ⟨rfl,rfl⟩
  refine gK 1 [(66,.bool (decide (cg (nd ns i).sec (nd ns i).nano)))] [] ?_
  refine ak.bZ 66 (cg (nd ns i).sec (nd ns i).nano) (fun _=>by kernel_rfl) (fun wU=>?_) (fun wU=>?_)
  ·refine gK 1 [(67,.pointer (some ⟨(ar A),aq A+i * 10,none⟩))] [] ?_
   refine gL [] (uN A ns L hG i hi) ?_
   rintro _ _ ⟨rfl,rfl⟩
   refine gK 2 [(2,.bool (decide (aX (nd ns i).kind (nd ns i).target)))] [] ?_
   refine NN (af.ret ?_)
   exact RT (.bool (decide (aX (nd ns i).kind (nd ns i).target))) [0] (⟨congrArg Value.bool (decide_eq_decide.2 (by rw [aY];unfold Within at *;grind)),rfl⟩)
  refine gK 4 [(2,.bool false)] [] ?_
  refine NN (af.ret ?_)
  exact RT (.bool false) [0] (⟨congrArg Value.bool (decide_eq_false (by rw [aY];unfold Within at *;grind)).symm,rfl⟩)
 refine gK 14 [(46,.bool false),(52,.bool (!(decide (((nd ns i).kind:Int)=(2:Int)))))] [(11,p_ ⟨[.old (.int .i64 ((nd ns i).kind))],none,none,none,none⟩ [(Rd β ⟨(ar A),aq A+i * 10+1,none⟩ (.int .i64 ((nd ns i).kind)))] ⟨au.rd hG (i:=i) (by omega) (j:=1) rfl,trivial⟩)] ?_
 refine ak.d9 52 (((nd ns i).kind:Int)=(2:Int)) (fun _=>by kernel_rfl) (fun KX=>?_) (fun KX=>?_)
 ·refine gK 8 [(60,.bool (decide (((((nd ns i).ah.length:Nat):Int):Int) > (0:Int))))] [(3,p_ ⟨[.old (.slice (L.eA i) ((nd ns i).ah.length) ((L.eC i)))],none,none,none,none⟩ [(Rd β ⟨(ar A),aq A+i * 10+9,none⟩ (.slice (L.eA i) ((nd ns i).ah.length) ((L.eC i))))] ⟨au.rd hG (i:=i) (by omega) (j:=9) rfl,trivial⟩)] ?_
  refine NN (af.aR (p:=((((nd ns i).ah.length:Nat):Int):Int) > (0:Int)) (fun _=>by kernel_rfl) (fun KY=>?_) (fun KY=>?_))
  ·refine SR (gK 1 [(2,.bool false)] [] ?_)
   refine NN (af.ret (ai.aj ?_))
   exact RT (.bool false) [0] (⟨congrArg Value.bool (decide_eq_false (by rw [aY];unfold Within at *;grind)).symm,rfl⟩)
  refine af.skip (NX (SR (gK 4 [(64,.agg #[vI ((nd ns i).sec),vI ((nd ns i).nano)])] [(3,p_ ⟨[.old (.int .i64 ((nd ns i).sec)),.old (.int .i64 ((nd ns i).nano))],none,none,none,none⟩ [(Rd β ⟨(ar A),aq A+i * 10+5+1,none⟩ (.int .i64 ((nd ns i).nano))),(Rd β ⟨(ar A),aq A+i * 10+5,none⟩ (.int .i64 ((nd ns i).sec)))] ⟨au.rd hG (i:=i) (by omega) (j:=6) rfl,au.rd hG (i:=i) (by omega) (j:=5) rfl,trivial⟩)] ?_)))
  refine gL [] (fU (nd ns i).sec (nd ns i).nano) ?_
  rintro _ _ ⟨rfl,rfl⟩
  refine gK 1 [(66,.bool (decide (cg (nd ns i).sec (nd ns i).nano)))] [] ?_
  refine ak.bZ 66 (cg (nd ns i).sec (nd ns i).nano) (fun _=>by kernel_rfl) (fun wU=>?_) (fun wU=>?_)
  ·refine gK 1 [(67,.pointer (some ⟨(ar A),aq A+i * 10,none⟩))] [] ?_
   refine gL [] (uN A ns L hG i hi) ?_
   rintro _ _ ⟨rfl,rfl⟩
   refine gK 2 [(2,.bool (decide (aX (nd ns i).kind (nd ns i).target)))] [] ?_
   refine NN (af.ret ?_)
   exact RT (.bool (decide (aX (nd ns i).kind (nd ns i).target))) [0] (⟨congrArg Value.bool (decide_eq_decide.2 (by rw [aY];unfold Within at *;grind)),rfl⟩)
  refine gK 4 [(2,.bool false)] [] ?_
  refine NN (af.ret ?_)
  exact RT (.bool false) [0] (⟨congrArg Value.bool (decide_eq_false (by rw [aY];unfold Within at *;grind)).symm,rfl⟩)
 refine gK 8 [(60,.bool false)] [] ?_
 refine NN (CF (af.skip (NX (SR (gK 4 [(64,.agg #[vI ((nd ns i).sec),vI ((nd ns i).nano)])] [(3,p_ ⟨[.old (.int .i64 ((nd ns i).sec)),.old (.int .i64 ((nd ns i).nano))],none,none,none,none⟩ [(Rd β ⟨(ar A),aq A+i * 10+5+1,none⟩ (.int .i64 ((nd ns i).nano))),(Rd β ⟨(ar A),aq A+i * 10+5,none⟩ (.int .i64 ((nd ns i).sec)))] ⟨au.rd hG (i:=i) (by omega) (j:=6) rfl,au.rd hG (i:=i) (by omega) (j:=5) rfl,trivial⟩)] ?_)))))
 refine gL [] (fU (nd ns i).sec (nd ns i).nano) ?_
 rintro _ _ ⟨rfl,rfl⟩
 refine gK 1 [(66,.bool (decide (cg (nd ns i).sec (nd ns i).nano)))] [] ?_
 refine ak.bZ 66 (cg (nd ns i).sec (nd ns i).nano) (fun _=>by kernel_rfl) (fun wU=>?_) (fun wU=>?_)
 ·refine gK 1 [(67,.pointer (some ⟨(ar A),aq A+i * 10,none⟩))] [] ?_
  refine gL [] (uN A ns L hG i hi) ?_
  rintro _ _ ⟨rfl,rfl⟩
  refine gK 2 [(2,.bool (decide (aX (nd ns i).kind (nd ns i).target)))] [] ?_
  refine NN (af.ret ?_)
  exact RT (.bool (decide (aX (nd ns i).kind (nd ns i).target))) [0] (⟨congrArg Value.bool (decide_eq_decide.2 (by rw [aY];unfold Within at *;grind)),rfl⟩)
 refine gK 4 [(2,.bool false)] [] ?_
 refine NN (af.ret ?_)
 exact RT (.bool false) [0] (⟨congrArg Value.bool (decide_eq_false (by rw [aY];unfold Within at *;grind)).symm,rfl⟩)
end
section
open Go.RowKit Go.Maps
def fJ (x y:ByteArray):Prop:=(Op.bytesLess x.toList y.toList || (x.toList == y.toList))=true
instance (x y:ByteArray):Decidable (fJ x y):=inferInstanceAs (Decidable (_=true))
theorem Fu (x y:ByteArray):Value.bool (Op.bytesLess x.toList y.toList || (x.toList == y.toList))=Value.bool (decide (fJ x y)):=by
  have h:∀ (b:Bool) [Decidable (b=true)],b=decide (b=true):=by
    intro b _
    cases b<;>simp
  exact congrArg Value.bool (h _)
theorem CI {x:ByteArray}:fJ x ⟨#[]⟩↔x=⟨#[]⟩:=by
  unfold fJ
  rw [sX]
  have h1:(⟨#[]⟩:ByteArray).toList=[]:=by rw [Lib.toList_data]
  have h2:Op.bytesLess x.toList (⟨#[]⟩:ByteArray).toList=false:=by
    rw [h1]
    cases x.toList<;>rfl
  rw [h2]
  simp
def tgt (ns:List aE) (z:Int):Nat:=(gJ ns z).toNat
theorem j9 {ns:List aE} {z:Int} (h:0<=gJ ns z):tgt ns z < ns.length/\(nd ns (tgt ns z)).id=z/\gJ ns z=(tgt ns z:Int):=by
  unfold tgt
  unfold gJ at h ⊢
  cases hf:ns.findIdx? (fun n=>n.id == z) with
  | none=>rw [hf] at h;simp at h
  | some k=>
    rw [List.findIdx?_eq_some_iff_getElem] at hf
    obtain⟨h1,h2,_⟩:=hf
    refine⟨h1,?_,rfl⟩
    show (nd ns k).id=z
    unfold nd
    rw [List.getD_eq_getElem?_getD,List.getElem?_eq_getElem h1]
    simpa using h2
def ent (ns:List aE) (i j:Nat):gV:=en (nd ns i).ah j
def jb (ns:List aE) (i:Nat):Nat->ByteArray
  | 0=>⟨#[]⟩
  | j+1=>(ent ns i j).name
structure gj (ns:List aE) (i j:Nat):Prop where
  at_:0<=gJ ns (ent ns i j).id
  good:bI (ent ns i j).name
  ord:¬ fJ (ent ns i j).name (jb ns i j)
def A5 (ns:List aE) (i j:Nat):List (Nat×Nat):=if (nd ns (tgt ns (ent ns i j).id)).kind=2 then [(tgt ns (ent ns i j).id,i)] else []
def bW (ns:List aE) (i:Nat):Nat->List (Nat×Nat)
  | 0=>[]
  | j+1=>A5 ns i j++bW ns i j
def bX (ns:List aE):Nat->List (Nat×Nat)
  | 0=>[]
  | i+1=>bW ns i (nd ns i).ah.length++bX ns i
def dM (ns:List aE) (p:Nat×Nat):Int×Int:=((nd ns p.1).id,(nd ns p.2).id)
theorem Fv {ns:List aE} {i j m:Nat} (h:j<=m):∃ l,bW ns i m=l++bW ns i j:=by
  induction m with
  | zero=>exact⟨[],by rw [Nat.le_zero.1 h];rfl⟩
  | succ m ih=>
    rcases Nat.lt_or_ge m j with h1|h1
    ·have:j=m+1:=by omega
     subst this
     exact⟨[],rfl⟩
    obtain⟨l,hl⟩:=ih h1
    exact⟨A5 ns i m++l,by rw [bW,hl,List.append_assoc]⟩
theorem Fw {ns:List aE} {i m:Nat} (h:i<=m):∃ l,bX ns m=l++bX ns i:=by
  induction m with
  | zero=>exact⟨[],by rw [Nat.le_zero.1 h];rfl⟩
  | succ m ih=>
    rcases Nat.lt_or_ge m i with h1|h1
    ·have:i=m+1:=by omega
     subst this
     exact⟨[],rfl⟩
    obtain⟨l,hl⟩:=ih h1
    exact⟨bW ns m (nd ns m).ah.length++l,by rw [bX,hl,List.append_assoc]⟩
theorem tE {l:List (Nat×Nat)} {k:List (Nat×Nat)} (h:((l++k).map Prod.fst).Nodup):(k.map Prod.fst).Nodup:=by
  rw [List.map_append] at h
  exact (List.nodup_append.1 h).2.1
theorem bN.inj {ns:List aE} (hr:bN ns) {a b:Nat} (ha:a < ns.length) (hb:b < ns.length) (h:(nd ns a).id=(nd ns b).id):a=b:=by
  rcases Nat.lt_trichotomy a b with h1|h1|h1
  ·have:=hr a b h1 hb;omega
  ·exact h1
  have:=hr b a h1 ha;omega
theorem Df {ns:List aE} {ps:List (Nat×Nat)} {k:Nat} (h:up (ps.map (dM ns)) (nd ns k).id=none):k∉ps.map Prod.fst:=by
  unfold up at h
  induction ps with
  | nil=>simp
  | cons p ps ih=>
    obtain⟨a,b⟩:=p
    rw [List.map_cons,dM,List.lookup_cons] at h
    intro hm
    rw [List.map_cons] at hm
    rcases List.mem_cons.1 hm with e|hm
    ·subst e
     simp at h
    by_cases e:((nd ns k).id == (nd ns a).id)=true
    ·rw [e] at h;cases h
    have e:((nd ns k).id == (nd ns a).id)=false:=by simpa using e
    rw [e] at h
    exact ih h hm
theorem Dg {ns:List aE} {ps:List (Nat×Nat)} {k:Nat} {y:Int} (hr:bN ns) (hk:k < ns.length) (hp:∀ p,p∈ps->p.1 < ns.length) (h:up (ps.map (dM ns)) (nd ns k).id=some y):k∈ps.map Prod.fst/\∃ p,p∈ps/\p.1=k/\y=(nd ns p.2).id:=by
  unfold up at h
  induction ps with
  | nil=>cases h
  | cons p ps ih=>
    obtain⟨a,b⟩:=p
    rw [List.map_cons,dM,List.lookup_cons] at h
    by_cases e:((nd ns k).id == (nd ns a).id)=true
    ·rw [e] at h
     cases h
     have:k=a:=hr.inj hk (hp (a,b) (List.mem_cons_self ..)) (by simpa using e)
     subst this
     exact⟨by simp,(k,b),List.mem_cons_self ..,rfl,rfl⟩
    have e:((nd ns k).id == (nd ns a).id)=false:=by simpa using e
    rw [e] at h
    obtain⟨h1,q,hq,h2⟩:=ih (fun p hp'=>hp p (List.mem_cons_of_mem _ hp')) h
    exact⟨by rw [List.map_cons];exact List.mem_cons_of_mem _ h1,q,List.mem_cons_of_mem _ hq,h2⟩
def bf (A:Option Addr) (ns:List aE) (k:Nat) (z:Int):Option Value:=if 0<=gJ ns z/\gJ ns z < k then some (.pointer (some ⟨ar A,aq A+tgt ns z * 10,none⟩)) else none
structure rU (ns:List aE) (i:Nat) (ps:List (Nat×Nat)):Prop where
  ah:∀ j,j < (nd ns i).ah.length->gj ns i j
  nodup:((bW ns i (nd ns i).ah.length++ps).map Prod.fst).Nodup
theorem Mw {A:Option Addr} {ns:List aE} {k:Nat} {z:Int} (h:0<=gJ ns z) (hk:tgt ns z < k):mf (bf A ns k) (.int .i64 z)=some (.pointer (some ⟨ar A,aq A+tgt ns z * 10,none⟩)):=
  if_pos ⟨h,by rw [(j9 h).2.2];omega⟩
theorem JY {A:Option Addr} {ns:List aE} {k:Nat} {z:Int} (h:¬ 0<=gJ ns z):mf (bf A ns k) (.int .i64 z)=none:=if_neg (fun e=>h e.1)
theorem A6 (ns:List aE) (i j:Nat):(bW ns i j).length<=j:=by
  induction j with
  | zero=>exact Nat.le_refl _
  | succ j ih=>
    rw [bW,List.length_append]
    have:(A5 ns i j).length<=1:=by
      unfold A5
      split<;>simp
    omega
theorem jC {ns:List aE} {i j:Nat} (h:¬ (nd ns (tgt ns (ent ns i j).id)).kind=2):bW ns i (j+1)=bW ns i j:=by
  rw [bW,A5,if_neg h];rfl
theorem jc {ns:List aE} {i j:Nat} (h:(nd ns (tgt ns (ent ns i j).id)).kind=2):bW ns i (j+1)=(tgt ns (ent ns i j).id,i)::bW ns i j:=by
  rw [bW,A5,if_pos h];rfl
theorem qO {ns:List aE} {i j:Nat} {ps:List (Nat×Nat)} (h:rU ns i ps) (hj:j < (nd ns i).ah.length) (hk:(nd ns (tgt ns (ent ns i j).id)).kind=2):tgt ns (ent ns i j).id∉(bW ns i j++ps).map Prod.fst:=by
  obtain⟨l,hl⟩:=Fv (ns:=ns) (i:=i) (show j+1<=(nd ns i).ah.length from hj)
  have h1:=h.nodup
  rw [hl,List.append_assoc] at h1
  have h2:=tE h1
  rw [jc hk,List.cons_append,List.map_cons] at h2
  exact (List.nodup_cons.1 h2).1
theorem G6 {ns:List aE} {i j:Nat} {ps:List (Nat×Nat)} (hat:0<=gJ ns (ent ns i j).id) (hk:(nd ns (tgt ns (ent ns i j).id)).kind=2) :
    jP (mf (pf ((bW ns i j++ps).map (dM ns)))) (.int .i64 (ent ns i j).id) (some (.int .i64 (nd ns i).id))=mf (pf ((bW ns i (j+1)++ps).map (dM ns))):=by
  rw [AO,jc hk,List.cons_append,List.map_cons,dM,(j9 hat).2.1,JW]
theorem G7 {ns:List aE} {i j:Nat} {ps:List (Nat×Nat)} {f:Lit->Option Value} {kl:Lit} (hf:f kl=none) (hk:(nd ns (tgt ns (ent ns i j).id)).kind=2) :
    (if (f kl).isSome then (bW ns i j++ps).length else (bW ns i j++ps).length+1)=(bW ns i (j+1)++ps).length:=by
  rw [hf,jc hk]
  rfl
theorem DZ {ns:List aE} {i j:Nat} {ps:List (Nat×Nat)} (hat:0<=gJ ns (ent ns i j).id) (hk:(nd ns (tgt ns (ent ns i j).id)).kind=2) (hup:up ((bW ns i j++ps).map (dM ns)) (ent ns i j).id=none) (h:((bW ns i j++ps).map Prod.fst).Nodup) :
    ((bW ns i (j+1)++ps).map Prod.fst).Nodup:=by
  rw [jc hk,List.cons_append,List.map_cons]
  refine List.nodup_cons.2 ⟨?_,h⟩
  refine Df (ns:=ns) ?_
  rw [(j9 hat).2.1]
  exact hup
theorem A8 {ns:List aE} {i j:Nat} (h:∀ t,t < j->gj ns i t):∀ p,p∈bW ns i j->p.1 < ns.length/\p.2=i:=by
  induction j with
  | zero=>intro p hp;cases hp
  | succ j ih=>
    intro p hp
    rw [bW] at hp
    rcases List.mem_append.1 hp with hp|hp
    ·unfold A5 at hp
     split at hp
     ·rw [List.mem_singleton.1 hp]
      exact⟨(j9 (h j (Nat.lt_succ_self j)).at_).1,rfl⟩
     cases hp
    exact ih (fun t ht=>h t (by omega)) p hp
theorem CJ {ns:List aE} {i j:Nat} {ps:List (Nat×Nat)} {y:Int} (hr:bN ns) (hps:∀ p,p∈ps->p.1 < ns.length) (hok:∀ t,t < j->gj ns i t) (hat:0<=gJ ns (ent ns i j).id) (hk:(nd ns (tgt ns (ent ns i j).id)).kind=2)
    (hup:up ((bW ns i j++ps).map (dM ns)) (ent ns i j).id=some y) (hj:j < (nd ns i).ah.length):¬ rU ns i ps:=fun h=>by
  refine qO h hj hk ?_
  rw [← (j9 hat).2.1] at hup
  refine (Dg hr (j9 hat).1 (fun p hp=>?_) hup).1
  rcases List.mem_append.1 hp with hp|hp
  ·exact (A8 hok p hp).1
  exact hps p hp
end
section
open Go.RowKit
structure Th where
  k:Nat
  kind:Int
deriving Inhabited,DecidableEq
abbrev dS (α:Type):=List (ByteArray×α)
structure aO where
  id:Int
  mode:Int
  uid:Int
  gid:Int
  sec:Int
  nano:Int
  links:Int
  opens:Int
  gone:Bool
  kind:Int
  data:List UInt8
  target:ByteArray
  ah:dS Th
  up:Option Nat
deriving Inhabited
abbrev bO:=Nat->aO
def obj (O:bO) (k:Nat):aO:=O k
def aA (O:bO) (k:Nat) (f:aO->aO):bO:=fun i=>if i=k then f (O i) else O i
section jP
variable {O:bO} {k j:Nat} {f g:aO->aO}
theorem bB:obj (aA O k f) k=f (obj O k):=if_pos rfl
theorem bP (h:j≠k):obj (aA O k f) j=obj O j:=if_neg h
theorem jd:obj (aA O k f) j=if j=k then f (obj O j) else obj O j:=rfl
theorem JZ (h:f (obj O k)=obj O k):aA O k f=O:=by
  funext i
  show (if i=k then f (O i) else O i)=O i
  split
  ·rename_i e;subst e;exact h
  rfl
theorem qq:aA (aA O k f) k g=aA O k (fun o=>g (f o)):=by
  funext i
  show (if i=k then g (if i=k then f (O i) else O i) else (if i=k then f (O i) else O i))=if i=k then g (f (O i)) else O i
  split<;>rfl
end jP
section ah
variable {α:Type} {n p:ByteArray} {t:α} {es:dS α}
def aP (n:ByteArray) (es:dS α):Option α:=(es.find? (fun e=>decide (e.1=n))).map (·.2)
def eH (n:ByteArray) (t:α):dS α->dS α
  | []=>[(n,t)]
  | e::r=>if ¬ fJ e.1 n then (n,t)::e::r else e::eH n t r
def eT (n:ByteArray) (es:dS α):dS α:=es.filter (fun e=>decide (e.1≠n))
theorem fQ {e:ByteArray×α}:aP n (e::es)=if e.1=n then some e.2 else aP n es:=by
  unfold aP
  rw [List.find?_cons]
  by_cases h:e.1=n
  ·rw [if_pos h];simp [h]
  rw [if_neg h];simp [h]
theorem rV:aP n es=none↔∀ e∈es,e.1≠n:=by
  unfold aP
  rw [Option.map_eq_none_iff,List.find?_eq_none]
  simp
theorem kf {es:dS α} (h:aP n es=some t):(n,t)∈es:=by
  unfold aP at h
  obtain⟨e,h1,h2⟩:=Option.map_eq_some_iff.1 h
  have h3:=List.find?_some h1
  have h4:=List.mem_of_find?_eq_some h1
  obtain⟨a,b⟩:=e
  simp at h3 h2
  subst h3 h2
  exact h4
theorem Ba:∀ {es:dS α},(eH n t es).length=es.length+1
  | []=>rfl
  | e::r=>by
    unfold eH
    split
    ·rfl
    rw [List.length_cons,Ba];rfl
theorem tF (hn:aP n es=none):aP p (eH n t es)=if p=n then some t else aP p es:=by
  induction es with
  | nil=>
    rw [eH,fQ]
    by_cases h:n=p
    ·rw [if_pos h,if_pos h.symm]
    rw [if_neg h,if_neg (fun e=>h e.symm)]
  | cons e r ih=>
    rw [fQ] at hn
    have he:¬ e.1=n:=fun h=>by rw [if_pos h] at hn;cases hn
    rw [if_neg he] at hn
    rw [eH]
    split
    ·rw [fQ]
     by_cases h:n=p
     ·rw [if_pos h,if_pos h.symm]
     rw [if_neg h,if_neg (fun e=>h e.symm)]
    rw [fQ,ih hn,fQ]
    by_cases h:p=n
    ·subst h;rw [if_neg he,if_pos rfl,if_pos rfl]
    rw [if_neg h,if_neg h]
theorem nN:aP p (eT n es)=if p=n then none else aP p es:=by
  induction es with
  | nil=>simp [eT,aP]
  | cons e r ih=>
    unfold eT at ih ⊢
    rw [List.filter_cons]
    by_cases h:e.1=n
    ·rw [if_neg (by simp [h]),ih,fQ]
     by_cases hp:p=n
     ·rw [if_pos hp,if_pos hp]
     rw [if_neg hp,if_neg hp,if_neg (fun e2=>hp (e2.symm.trans h))]
    rw [if_pos (by simp [h]),fQ,ih,fQ]
    by_cases hp:p=n
    ·subst hp;rw [if_neg h,if_pos rfl,if_pos rfl]
    rw [if_neg hp,if_neg hp]
def lV (es:dS α):Prop:=es.Pairwise (fun a b=>a.1≠b.1)
theorem G8 {es:dS α} (hd:lV es) (h:aP n es=some t):(eT n es).length+1=es.length:=by
  induction es with
  | nil=>cases h
  | cons e r ih=>
    obtain⟨h1,h2⟩:=List.pairwise_cons.1 hd
    rw [fQ] at h
    unfold eT at ih ⊢
    rw [List.filter_cons]
    by_cases he:e.1=n
    ·rw [if_neg (by simp [he])]
     have:r.filter (fun e=>decide (e.1≠n))=r:=List.filter_eq_self.2 (fun x hx=>by have:=h1 x hx;simp;exact fun e2=>this (he.trans e2.symm))
     rw [this];rfl
    rw [if_pos (by simp [he])]
    rw [if_neg he] at h
    rw [List.length_cons,List.length_cons,ih h2 h]
theorem vU {e:ByteArray×α}:∀ {es:dS α},e∈eH n t es↔e=(n,t)\/e∈es
  | []=>by simp [eH]
  | x::r=>by
    unfold eH
    split
    ·simp
    rw [List.mem_cons,vU,List.mem_cons]
    constructor
    ·rintro (h|h|h)
     ·exact .inr (.inl h)
     ·exact .inl h
     exact .inr (.inr h)
    rintro (h|h|h)
    ·exact .inr (.inl h)
    ·exact .inl h
    exact .inr (.inr h)
end ah
end
section
open Go.RowKit
section sat
variable {β:Bs} {l:List HP} {w:World} {p p1 p2:HP} {i:Nat}
theorem Sat.Mx (h:Sat β l w) (hp:l[i]?=some p) (hs:∀ F,p.h F w->∃ F1 F2,p1.h F1 w/\p2.h F2 w/\Apart F1 F2/\∀ k,F k↔F1 k\/F2 k):Sat β (l.set i p1++[p2]) w:=by
  obtain⟨ho,φ,h1,h2,h3⟩:=h
  obtain⟨F1,F2,g1,g2,g3,g4⟩:=hs _ (h1 i p hp)
  have hi:=bh hp
  have hlen:(l.set i p1++[p2]).length=l.length+1:=by simp
  refine⟨ho,fun j=>if j=l.length then F2 else if j=i then F1 else φ j,fun j q hq=>?_,fun j hj k hk hO=>?_,fun a b ha hb hne k hk hk'=>?_⟩
  ·by_cases e:j=l.length
   ·subst e
    rw [List.getElem?_append_right (by simp)] at hq
    simp at hq
    subst hq
    simpa using g2
   rw [List.getElem?_append_left (by have:=bh hq;rw [hlen] at this;simp;omega)] at hq
   simp only [e,if_false]
   by_cases e2:j=i
   ·subst e2
    rw [List.getElem?_set_self hi] at hq
    cases hq
    simpa using g1
   rw [List.getElem?_set_ne (fun e'=>e2 e'.symm)] at hq
   simp only [e2,if_false]
   exact h1 j q hq
  ·rw [hlen] at hj
   have hF:∀ k,F1 k\/F2 k->β.O k->False:=fun k hk hO=>h2 i hi k ((g4 k).2 hk) hO
   by_cases e:j=l.length
   ·simp only [e,if_true] at hk;exact hF k (.inr hk) hO
   simp only [e,if_false] at hk
   by_cases e2:j=i
   ·simp only [e2,if_true] at hk;exact hF k (.inl hk) hO
   simp only [e2,if_false] at hk;exact h2 j (by omega) k hk hO
  rw [hlen] at ha hb
  have key:∀ j,j < l.length->j≠i->∀ k,F1 k\/F2 k->φ j k->False:=fun j hj hne k hk hk'=>h3 j i hj hi hne k hk' ((g4 k).2 hk)
  by_cases ea:a=l.length
  ·simp only [ea,if_true] at hk
   have eb:¬ b=l.length:=fun e=>hne (ea.trans e.symm)
   simp only [eb,if_false] at hk'
   by_cases wV:b=i
   ·simp only [wV,if_true] at hk';exact g3 k hk' hk
   simp only [wV,if_false] at hk';exact key b (by omega) wV k (.inr hk) hk'
  simp only [ea,if_false] at hk
  by_cases Fx:a=i
  ·simp only [Fx,if_true] at hk
   by_cases eb:b=l.length
   ·simp only [eb,if_true] at hk';exact g3 k hk hk'
   simp only [eb,if_false] at hk'
   have wV:¬ b=i:=fun e=>hne (Fx.trans e.symm)
   simp only [wV,if_false] at hk'
   exact key b (by omega) wV k (.inl hk) hk'
  simp only [Fx,if_false] at hk
  by_cases eb:b=l.length
  ·simp only [eb,if_true] at hk';exact key a (by omega) Fx k (.inr hk') hk
  simp only [eb,if_false] at hk'
  by_cases wV:b=i
  ·simp only [wV,if_true] at hk';exact key a (by omega) Fx k (.inl hk') hk
  simp only [wV,if_false] at hk';exact h3 a b (by omega) (by omega) hne k hk hk'
theorem Sat.Jo {j:Nat} {idx:List Nat} {l':List HP} (h:Sat β l w) (hp:l[i]?=some p1) (hq:l[j]?=some p2) (hn:aZ (i::j::idx)=true) (hl:bF l idx=some l') (hs:∀ F1 F2,p1.h F1 w->p2.h F2 w->Apart F1 F2->∃ F,p.h F w/\∀ k,F k->F1 k\/F2 k):Sat β (p::l') w:=by
  have h':=h.pick (idx:=i::j::idx) (l':=p1::p2::l') hn (by simp only [bF,hp,hq,hl])
  obtain⟨ho,φ,h1,h2,h3⟩:=h'
  obtain⟨F,hF,hk⟩:=hs _ _ (h1 0 p1 rfl) (h1 1 p2 rfl) (h3 0 1 (by simp) (by simp) (by decide))
  have hlen:(p1::p2::l').length=l'.length+2:=rfl
  rw [hlen] at h2 h3
  refine⟨ho,fun j=>if j=0 then F else φ (j+1),fun j q hq=>?_,fun j hj k hkk hO=>?_,fun a b ha hb hne k hk1 hk2=>?_⟩
  ·cases j with
   | zero=>simp at hq;subst hq;simpa using hF
   | succ j=>simpa using h1 (j+2) q (by simpa using hq)
  ·simp only [List.length_cons] at hj
   cases j with
   | zero=>
     simp only [if_true] at hkk
     rcases hk k hkk with e|e
     ·exact h2 0 (by omega) k e hO
     exact h2 1 (by omega) k e hO
   | succ j=>exact h2 (j+2) (by omega) k (by simpa using hkk) hO
  simp only [List.length_cons] at ha hb
  have key:∀ j,j < l'.length->F k->φ (j+2) k->False:=fun j hj e1 e2=>by
    rcases hk k e1 with e|e
    ·exact h3 0 (j+2) (by omega) (by omega) (by omega) k e e2
    exact h3 1 (j+2) (by omega) (by omega) (by omega) k e e2
  cases a with
  | zero=>
    cases b with
    | zero=>exact hne rfl
    | succ b=>exact key b (by omega) (by simpa using hk1) (by simpa using hk2)
  | succ a=>
    cases b with
    | zero=>exact key a (by omega) (by simpa using hk2) (by simpa using hk1)
    | succ b=>exact h3 (a+2) (b+2) (by omega) (by omega) (by omega) k (by simpa using hk1) (by simpa using hk2)
end sat
def eM (R:Nat->bY) (n:Nat):bY where
  h F w:=∃ φ:Nat->Fp,(∀ i,i < n->(R i).h (φ i) w)/\(∀ i j,i < n->j < n->i≠j->Apart (φ i) (φ j))/\∀ k,F k↔∃ i,i < n/\φ i k
  lt:=fun ⟨_,h1,_,h3⟩ k hk=>let ⟨i,hi,hk⟩:=(h3 k).1 hk;(R i).lt (h1 i hi) k hk
  st:=fun ⟨φ,h1,h2,h3⟩ _ _ hk hn=>⟨φ,fun i hi=>(R i).st (h1 i hi) hk (fun k hk=>hn k ((h3 k).2 ⟨i,hi,hk⟩)),h2,h3⟩
def bY.none:bY where
  h F _:=∀ k,¬ F k
  lt:=fun h k hk=>absurd hk (h k)
  st:=fun h _ _ _ _=>h
def kV (R:Nat->bY) (k:Nat) (a:bY):Nat->bY:=fun i=>if i=k then a else R i
section Fy
variable {β:Bs} {l l':List HP} {w:World} {i n k:Nat} {R R':Nat->bY} {a:bY}
theorem eM.nil (R:Nat->bY) (w:World):(HP.abs (eM R 0)).h (fun _=>False) w:=⟨fun _ _=>False,fun i hi=>absurd hi (Nat.not_lt_zero i),fun i _ hi=>absurd hi (Nat.not_lt_zero i),fun _=>⟨fun h=>h.elim,fun ⟨i,hi,_⟩=>absurd hi (Nat.not_lt_zero i)⟩⟩
theorem Sat.Fz (h:Sat β l w) (R:Nat->bY):Sat β (l++[.abs (eM R 0)]) w:=Sat.new h (eM.nil R w) (Keeps.refl _ _) (fun _ h=>h.elim)
theorem Sat.oZ {j:Nat} {idx:List Nat} (h:Sat β l w) (hp:l[i]?=some (.abs (eM R n))) (hq:l[j]?=some (.abs a)) (hn:aZ (i::j::idx)=true) (hl:bF l idx=some l') (hR:∀ x,x < n->R' x=R x) (ha:R' n=a):Sat β (.abs (eM R' (n+1))::l') w:=by
  refine h.Jo hp hq hn hl ?_
  rintro F1 F2 ⟨φ,h1,h2,h3⟩ hF hap
  refine⟨fun x=>F1 x\/F2 x,⟨fun i=>if i=n then F2 else φ i,fun i hi=>?_,fun i j hi hj hne x hx hy=>?_,fun x=>⟨fun hx=>?_,fun ⟨i,hi,hx⟩=>?_⟩⟩,fun x hx=>hx⟩
  ·by_cases e:i=n
   ·subst e;simp only [if_true];rw [ha];exact hF
   simp only [e,if_false];rw [hR i (by omega)];exact h1 i (by omega)
  ·by_cases e1:i=n
   ·by_cases e2:j=n
    ·exact hne (e1.trans e2.symm)
    simp only [e1,if_true] at hx
    simp only [e2,if_false] at hy
    exact hap x ((h3 x).2 ⟨j,by omega,hy⟩) hx
   simp only [e1,if_false] at hx
   by_cases e2:j=n
   ·simp only [e2,if_true] at hy
    exact hap x ((h3 x).2 ⟨i,by omega,hx⟩) hy
   simp only [e2,if_false] at hy
   exact h2 i j (by omega) (by omega) hne x hx hy
  ·rcases hx with hx|hx
   ·obtain⟨i,hi,hx⟩:=(h3 x).1 hx
    exact⟨i,by omega,by simpa [Nat.ne_of_lt hi] using hx⟩
   exact⟨n,Nat.lt_succ_self n,by simpa using hx⟩
  by_cases e:i=n
  ·exact .inr (by simpa [e] using hx)
  exact .inl ((h3 x).2 ⟨i,by omega,by simpa [e] using hx⟩)
theorem eM.base {F:Fp} {β':Bs} (h:(HP.abs (eM R n)).h F w) (h1:∀ k,F k->β'.O k) (_:β'.w0=w) {Φ:Nat->Bs->Prop} (Am:∀ i,i < n->∀ F,(R i).h F w->(∀ k,F k->β'.O k)->Φ i β'):∀ i,i < n->Φ i β':=by
  obtain⟨φ,g1,_,g3⟩:=h
  exact fun i hi=>Am i hi (φ i) (g1 i hi) (fun k hk=>h1 k ((g3 k).2 ⟨i,hi,hk⟩))
end Fy
section rQ
variable {P:Program} {β:Bs} {N:Nat} {ops:Array Oper} {S:List HP} {l:List Nat} {fr:Fr} {hps:List HP} {Q:Post} {i:Nat}
end rQ
end
section
open Go.RowKit
structure og (β:Bs) (R:List HP) (β':Bs):Prop where
  le:β.le β'
  fp:∃ φ:Nat->Fp,(∀ (i:Nat) (p:HP),R[i]?=some p->p.h (φ i) β'.w0/\∀ k,φ i k->β'.O k)/\(∀ i,i < R.length->∀ k,φ i k->¬ β.O k)/\(∀ i j,i < R.length->j < R.length->i≠j->Apart (φ i) (φ j))/\∀ k,β'.O k->β.O k\/∃ i,i < R.length/\φ i k
section D1
variable {β β' KF:Bs} {l R:List HP} {w:World} {p:HP} {i:Nat}
theorem og.get (h:og β R β') (i:Nat) (hp:R[i]?=some p):∃ F,p.h F β'.w0/\∀ k,F k->β'.O k:=by
  obtain⟨φ,h1,_⟩:=h.fp
  exact⟨φ i,h1 i p hp⟩
theorem Sat.turn {a b:List HP} (h:Sat β (a++b) w):Sat β (b++a) w:=by
  obtain⟨ho,φ,h1,h2,h3⟩:=h
  have hl:(a++b).length=a.length+b.length:=List.length_append
  have hl':(b++a).length=b.length+a.length:=List.length_append
  refine⟨ho,fun i=>if i < b.length then φ (a.length+i) else φ (i - b.length),fun i p hp=>?_,fun i hi k hk hO=>?_,fun i j hi hj hne k hk hk'=>?_⟩
  ·have hi:=bh hp
   by_cases e:i < b.length
   ·simp only [e,if_true]
    rw [List.getElem?_append_left e] at hp
    exact h1 _ p (by rw [List.getElem?_append_right (by omega)];simpa using hp)
   simp only [e,if_false]
   rw [List.getElem?_append_right (by omega)] at hp
   exact h1 _ p (by rw [List.getElem?_append_left (by omega)];exact hp)
  ·by_cases e:i < b.length
   ·simp only [e,if_true] at hk
    exact h2 _ (by omega) k hk hO
   simp only [e,if_false] at hk
   exact h2 _ (by omega) k hk hO
  by_cases e1:i < b.length
  ·simp only [e1,if_true] at hk
   by_cases e2:j < b.length
   ·simp only [e2,if_true] at hk'
    exact h3 _ _ (by omega) (by omega) (by omega) k hk hk'
   simp only [e2,if_false] at hk'
   exact h3 _ _ (by omega) (by omega) (by omega) k hk hk'
  simp only [e1,if_false] at hk
  by_cases e2:j < b.length
  ·simp only [e2,if_true] at hk'
   exact h3 _ _ (by omega) (by omega) (by omega) k hk hk'
  simp only [e2,if_false] at hk'
  exact h3 _ _ (by omega) (by omega) (by omega) k hk hk'
theorem Sat.yc (h:Sat β (l++R) w):∃ β',og β R β'/\β'.w0=w/\Sat β' l w:=by
  obtain⟨ho,φ,h1,h2,h3⟩:=h
  have hl:(l++R).length=l.length+R.length:=List.length_append
  have hR:∀ (i:Nat) (p:HP),R[i]?=some p->p.h (φ (l.length+i)) w:=fun i p hp=>h1 _ p (by rw [List.getElem?_append_right (by omega)];simpa using hp)
  refine⟨⟨fun k=>β.O k\/∃ i,i < R.length/\φ (l.length+i) k,w⟩,⟨⟨fun k hk=>.inl hk,ho.os,ho.tape,ho.output,ho.size,fun k hk=>ho.old k hk⟩,fun i=>φ (l.length+i),fun i p hp=>⟨hR i p hp,fun k hk=>.inr ⟨i,bh hp,hk⟩⟩,fun i hi=>h2 _ (by omega),fun i j hi hj hne=>h3 _ _ (by omega) (by omega) (by omega),fun k hk=>hk⟩,rfl,⟨rfl,rfl,rfl,Nat.le_refl _,fun k hk=>⟨?_,rfl⟩⟩,φ,fun i p hp=>h1 i p (by rw [List.getElem?_append_left (bh hp)];exact hp),fun i hi k hk hO=>?_,fun i j hi hj hne=>h3 i j (by omega) (by omega) hne⟩
  ·rcases hk with hk|⟨i,hi,hk⟩
   ·exact Nat.lt_of_lt_of_le (ho.old k hk).1 ho.size
   obtain⟨p,hp⟩:=gD hi
   exact HP.lt (hR i p hp) k hk
  rcases hO with hO|⟨j,hj,hO⟩
  ·exact h2 i (by omega) k hk hO
  exact h3 i (l.length+j) (by omega) (by omega) (by omega) k hk hO
theorem og.back (h:og β R β') (hS:Sat β' l w):Sat β (l++R) w:=by
  obtain⟨hle,φ,g1,g2,g3,g4⟩:=h
  obtain⟨ho,ψ,h1,h2,h3⟩:=hS
  have hl:(l++R).length=l.length+R.length:=List.length_append
  have hin:∀ i,i < R.length->∀ k,φ i k->β'.O k:=fun i hi k hk=>by
    obtain⟨p,hp⟩:=gD hi
    exact (g1 i p hp).2 k hk
  have hk:∀ i,i < R.length->Keeps (fun k=>¬ φ i k) β'.w0 w:=fun i hi=>⟨ho.os,ho.tape,ho.output,ho.size,fun k _ hn=>(ho.old k (hin i hi k (Classical.not_not.1 hn))).2⟩
  refine⟨ho.le hle,fun i=>if i < l.length then ψ i else φ (i - l.length),fun i p hp=>?_,fun i hi k hk hO=>?_,fun i j hi hj hne k hk hk'=>?_⟩
  ·by_cases e:i < l.length
   ·rw [List.getElem?_append_left e] at hp
    simp only [e,if_true]
    exact h1 i p hp
   rw [List.getElem?_append_right (by omega)] at hp
   simp only [e,if_false]
   exact HP.st (g1 _ p hp).1 (hk _ (bh hp)) (fun k h=>fun h'=>h' h)
  ·by_cases e:i < l.length
   ·simp only [e,if_true] at hk
    exact h2 i e k hk (hle.O k hO)
   simp only [e,if_false] at hk
   exact g2 _ (by omega) k hk hO
  by_cases e1:i < l.length
  ·simp only [e1,if_true] at hk
   by_cases e2:j < l.length
   ·simp only [e2,if_true] at hk'
    exact h3 i j e1 e2 hne k hk hk'
   simp only [e2,if_false] at hk'
   exact h2 i e1 k hk (hin _ (by omega) k hk')
  simp only [e1,if_false] at hk
  by_cases e2:j < l.length
  ·simp only [e2,if_true] at hk'
   exact h2 j e2 k hk' (hin _ (by omega) k hk)
  simp only [e2,if_false] at hk'
  exact g3 _ _ (by omega) (by omega) (by omega) k hk hk'
end D1
section rules
variable {P:Program} {β β' KF:Bs} {N:Nat} {ops:Array Oper} {k:Nat} {fr:Fr} {hps l R:List HP} {Q:Post} {c:Code} {e:Exit} {pk:List Nat} {f:FuncId} {args:Array Value} {pre:List HP}
end rules
end
section
open Go.RowKit
def ay (R:Nat->bY):bY where
  h F w:=∃ φ:Nat->Fp,(∀ i,(R i).h (φ i) w)/\(∀ i j,i≠j->Apart (φ i) (φ j))/\∀ k,F k↔∃ i,φ i k
  lt:=fun ⟨_,h1,_,h3⟩ k hk=>let ⟨i,hk⟩:=(h3 k).1 hk;(R i).lt (h1 i) k hk
  st:=fun ⟨φ,h1,h2,h3⟩ _ _ hk hn=>⟨φ,fun i=>(R i).st (h1 i) hk (fun k hk=>hn k ((h3 k).2 ⟨i,hk⟩)),h2,h3⟩
section Fy
variable {β:Bs} {l l':List HP} {w:World} {i n k:Nat} {R R':Nat->bY} {a:bY}
theorem ay.at (k:Nat) {F:Fp} {w:World} (h:(ay R).h F w):∃ G,(R k).h G w:=by
  obtain⟨φ,h1,_⟩:=h
  exact⟨φ k,h1 k⟩
theorem Sat.D2 (h:Sat β l w) (R:Nat->bY) (hR:∀ k,R k=bY.none):Sat β (l++[.abs (ay R)]) w:=Sat.new h (p:=.abs (ay R)) (F:=fun _=>False) ⟨fun _ _=>False,fun i=>by rw [hR];exact fun _ h=>h,fun _ _ _ _ h=>h.elim,fun _=>⟨fun h=>h.elim,fun ⟨_,h⟩=>h⟩⟩ (Keeps.refl _ _) (fun _ h=>h.elim)
theorem Sat.Bb (h:Sat β l w) (hp:l[i]?=some (.abs (ay R))) (k:Nat):Sat β (l.set i (.abs (ay (kV R k bY.none)))++[.abs (R k)]) w:=by
  refine h.Mx hp ?_
  rintro F ⟨φ,h1,h2,h3⟩
  refine⟨fun x=>∃ i,i≠k/\φ i x,φ k,⟨fun i=>if i=k then fun _=>False else φ i,fun i=>?_,fun i j hne x hx hy=>?_,fun x=>⟨fun ⟨i,hne,hx⟩=>⟨i,by simpa [hne] using hx⟩,fun ⟨i,hx⟩=>?_⟩⟩,h1 k,fun x ⟨i,hne,hx⟩ hy=>h2 i k hne x hx hy,fun x=>⟨fun hx=>?_,fun hx=>?_⟩⟩
  ·unfold kV
   by_cases e:i=k
   ·simp only [e,if_true];exact fun _ h=>h
   simp only [e,if_false];exact h1 i
  ·by_cases e1:i=k
   ·simp [e1] at hx
   by_cases e2:j=k
   ·simp [e2] at hy
   exact h2 i j hne x (by simpa [e1] using hx) (by simpa [e2] using hy)
  ·by_cases e1:i=k
   ·simp [e1] at hx
   exact⟨i,e1,by simpa [e1] using hx⟩
  ·obtain⟨i,hx⟩:=(h3 x).1 hx
   by_cases e:i=k
   ·exact .inr (e ▸ hx)
   exact .inl ⟨i,e,hx⟩
  rcases hx with ⟨i,_,hx⟩|hx
  ·exact (h3 x).2 ⟨i,hx⟩
  exact (h3 x).2 ⟨k,hx⟩
theorem Sat.oJ {j:Nat} {idx:List Nat} {q:HP} (h:Sat β l w) (hp:l[i]?=some (.abs (ay R))) (hq:l[j]?=some q) (OX:∀ F w,q.h F w->a.h F w) (hn:aZ (i::j::idx)=true) (hl:bF l idx=some l') (k:Nat) (hR:∀ x,x≠k->R' x=R x) (ha:R' k=a):Sat β (.abs (ay R')::l') w:=by
  refine h.Jo hp hq hn hl ?_
  rintro F1 F2 ⟨φ,h1,h2,h3⟩ hF hap
  refine⟨fun x=>(∃ i,i≠k/\φ i x)\/F2 x,⟨fun i=>if i=k then F2 else φ i,fun i=>?_,fun i j hne x hx hy=>?_,fun x=>⟨fun hx=>?_,fun ⟨i,hx⟩=>?_⟩⟩,fun x hx=>hx.imp (fun ⟨i,_,hx⟩=>(h3 x).2 ⟨i,hx⟩) id⟩
  ·by_cases e:i=k
   ·subst e;simp only [if_true];rw [ha];exact OX _ _ hF
   simp only [e,if_false];rw [hR i e];exact h1 i
  ·by_cases e1:i=k
   ·by_cases e2:j=k
    ·exact hne (e1.trans e2.symm)
    simp only [e1,if_true] at hx
    simp only [e2,if_false] at hy
    exact hap x ((h3 x).2 ⟨j,hy⟩) hx
   simp only [e1,if_false] at hx
   by_cases e2:j=k
   ·simp only [e2,if_true] at hy
    exact hap x ((h3 x).2 ⟨i,hx⟩) hy
   simp only [e2,if_false] at hy
   exact h2 i j hne x hx hy
  ·rcases hx with ⟨i,hne,hx⟩|hx
   ·exact⟨i,by simpa [hne] using hx⟩
   exact⟨k,by simpa using hx⟩
  by_cases e:i=k
  ·exact .inr (by simpa [e] using hx)
  exact .inl ⟨i,e,by simpa [e] using hx⟩
end Fy
end
section
open Go.RowKit Go.Maps
theorem vV:Keyed Tryz.prog 9:=string_keyed Tryz.underlying9
theorem ye {p:ByteArray} (h:p.size<=9223372036854775807):keyOf Tryz.prog 9 (.string p)=some (.string p.data.toList):=WideMaps.keyOf_string_mk Tryz.underlying9 (by unfold maxLen;omega)
def mS (g:ByteArray->Option Value):Lit->Option Value
  | .string l=>g ⟨l.toArray⟩
  | _=>none
theorem Mz (g:ByteArray->Option Value) (p:ByteArray):mS g (.string p.data.toList)=g p:=by
  show g ⟨p.data.toList.toArray⟩=g p
  rw [Array.toArray_toList]
theorem FA (g:ByteArray->Option Value) (p:ByteArray) (v:Option Value):jP (mS g) (.string p.data.toList) v=mS (fun q=>if q=p then v else g q):=by
  funext x
  unfold jP mS
  cases x with
  | string l=>
    by_cases e:l=p.data.toList
    ·subst e
     have e2:(⟨p.data.toList.toArray⟩:ByteArray)=p:=by rw [Array.toArray_toList]
     simp [Lit.sameKey]
    have e2:¬ (⟨l.toArray⟩:ByteArray)=p:=fun h=>e (by rw [← h])
    simp [Lit.sameKey,e,e2]
  | _=>rfl
theorem J0:mS (fun _=>none)=fun _=>none:=by
  funext x
  unfold mS
  split<;>rfl
end
section
open Go.RowKit Go.Maps
def vW (b:Nat) (cs:List Value) (T:TypeId):bY where
  h F w:=(HP.blk b cs T).h F w
  lt:=fun h=>HP.lt h
  st:=fun h _ _ hk hd=>HP.st h hk hd
structure HL where
  b:Nat->Nat
  m:Nat->Nat
  dA:Nat->Option Addr
  dC:Nat->Nat
def HL.data (L:HL) (k:Nat) (A:Option Addr) (c:Nat):HL:=⟨L.b,L.m,fun i=>if i=k then A else L.dA i,fun i=>if i=k then c else L.dC i⟩
def HL.put (L:HL) (k b m:Nat) (A:Option Addr) (c:Nat):HL:=⟨fun i=>if i=k then b else L.b i,fun i=>if i=k then m else L.m i,fun i=>if i=k then A else L.dA i,fun i=>if i=k then c else L.dC i⟩
def Na (kind:Int):TypeId:=if kind=1 then 69 else if kind=3 then 73 else 76
def je (kind:Int):TypeId:=if kind=1 then 72 else if kind=3 then 75 else 79
def dh (L:HL) (t:Th):Value:=.iface (Na t.kind) (.pointer (some ⟨L.b t.k,0,none⟩))
def q5 (L:HL):Option Nat->Value
  | none=>.pointer none
  | some d=>.pointer (some ⟨L.b d,0,none⟩)
def uO (o:aO):List Value:=[.int .i64 o.id,.int .i64 o.mode,.int .i64 o.uid,.int .i64 o.gid,.int .i64 o.sec,.int .i64 o.nano,.int .i64 o.links,.int .i64 o.opens,.bool o.gone]
def uP (L:HL) (k:Nat) (o:aO):List Value:=if o.kind=1 then [.slice (L.dA k) o.data.length (L.dC k)] else if o.kind=3 then [.string o.target] else [.map (some (L.m k)),q5 L o.up]
def eU (L:HL) (k:Nat) (o:aO):List Value:=uO o++uP L k o
def gi (L:HL) (es:dS Th):Lit->Option Value:=mS (fun p=>(aP p es).map (dh L))
def bD (O:bO) (L:HL) (k:Nat):bY:=if (obj O k).kind=0 then bY.none else vW (L.b k) (eU L k (obj O k)) (je (obj O k).kind)
def bq (O:bO) (L:HL) (k:Nat):bY:=if (obj O k).kind=1 then aC 5 1 (L.dA k) (obj O k).data.length (L.dC k) (cA (obj O k).data) else bY.none
def cE (O:bO) (L:HL) (k:Nat):bY:=if (obj O k).kind=2 then aN Tryz.prog 9 (L.m k) (gi L (obj O k).ah) (obj O k).ah.length else bY.none
section sat
variable {β:Bs} {l:List HP} {w:World} {i b:Nat} {cs:List Value} {T:TypeId} {p p':HP}
theorem Sat.same (h:Sat β l w) (hp:l[i]?=some p) (e:∀ F w,p.h F w->p'.h F w):Sat β (l.set i p') w:=by
  obtain⟨ho,φ,h1,h2,h3⟩:=h
  have hl:(l.set i p').length=l.length:=List.length_set ..
  refine⟨ho,φ,fun j q hq=>?_,fun j hj=>h2 j (by omega),fun j k hj hk=>h3 j k (by omega) (by omega)⟩
  by_cases hji:i=j
  ·subst hji
   rw [List.getElem?_set_self (bh hp)] at hq
   cases hq
   exact e _ _ (h1 _ p hp)
  rw [List.getElem?_set_ne hji] at hq
  exact h1 j q hq
end sat
section cells
variable {O:bO} {L:HL} {k j:Nat} {v:Value}
theorem jI (h:(obj O k).kind≠0):bD O L k=vW (L.b k) (eU L k (obj O k)) (je (obj O k).kind):=if_neg h
theorem dw (hk:(obj O k).kind≠0) (hv:(eU L k (obj O k))[j]?=some v):∀ F w,(ay (bD O L)).h F w->w.cell? ⟨L.b k,j,none⟩=some v:=by
  intro F w h
  obtain⟨G,g⟩:=ay.at k h
  rw [jI hk] at g
  obtain⟨g,_⟩:=g
  exact (eZ g rfl rfl hv).1
theorem pN (h:(obj O k).kind=1):bq O L k=aC 5 1 (L.dA k) (obj O k).data.length (L.dC k) (cA (obj O k).data):=if_pos h
theorem lW (h:(obj O k).kind=2):cE O L k=aN Tryz.prog 9 (L.m k) (gi L (obj O k).ah) (obj O k).ah.length:=if_pos h
theorem o3 (es:dS Th) (p:ByteArray):gi L es (.string p.data.toList)=(aP p es).map (dh L):=Mz _ _
theorem G9 {es:dS Th} {p:ByteArray} {t:Th} (hn:aP p es=none):jP (gi L es) (.string p.data.toList) (some (dh L t))=gi L (eH p t es):=by
  unfold gi
  rw [FA]
  congr 1
  funext q
  rw [tF hn]
  by_cases h:q=p
  ·rw [if_pos h,if_pos h];rfl
  rw [if_neg h,if_neg h]
theorem He {es:dS Th} {p:ByteArray}:jP (gi L es) (.string p.data.toList) none=gi L (eT p es):=by
  unfold gi
  rw [FA]
  congr 1
  funext q
  rw [nN]
  by_cases h:q=p
  ·rw [if_pos h,if_pos h];rfl
  rw [if_neg h,if_neg h]
theorem Hf:gi L []=fun _=>none:=J0
end cells
section Fy
variable {O:bO} {L:HL} {k:Nat} {f:aO->aO}
theorem q6:bD (aA O k f) L k=if (f (obj O k)).kind=0 then bY.none else vW (L.b k) (eU L k (f (obj O k))) (je (f (obj O k)).kind):=by
  unfold bD;rw [bB]
theorem q8 {x:Nat} (h:x≠k):bD (aA O k f) L x=bD O L x:=by unfold bD;rw [bP h]
theorem kK (h:(f (obj O k)).data=(obj O k).data) (h2:(f (obj O k)).kind=(obj O k).kind):bq (aA O k f) L=bq O L:=by
  funext x
  unfold bq
  by_cases e:x=k
  ·subst e;rw [bB,h,h2]
  rw [bP e]
theorem kL (h:(f (obj O k)).ah=(obj O k).ah) (h2:(f (obj O k)).kind=(obj O k).kind):cE (aA O k f) L=cE O L:=by
  funext x
  unfold cE
  by_cases e:x=k
  ·subst e;rw [bB,h,h2]
  rw [bP e]
theorem tG {x:Nat} (h:x≠k):cE (aA O k f) L x=cE O L x:=by unfold cE;rw [bP h]
theorem tH {x:Nat} (h:x≠k):bq (aA O k f) L x=bq O L x:=by unfold bq;rw [bP h]
end Fy
end
section
open Go.RowKit Go.Maps
section kinds
variable {O:bO} {L:HL} {k j:Nat} {f:aO->aO} {o:aO}
theorem iD (hf:∀ o,(f o).kind=o.kind):(obj (aA O j f) k).kind=(obj O k).kind:=by
  rw [jd];split
  ·exact hf _
  rfl
theorem cX {α:Type} {g:aO->α} (hf:∀ o,g (f o)=g o):g (obj (aA O j f) k)=g (obj O k):=by
  rw [jd];split
  ·exact hf _
  rfl
theorem fV (h:o.kind=1):eU L k o=[.int .i64 o.id,.int .i64 o.mode,.int .i64 o.uid,.int .i64 o.gid,.int .i64 o.sec,.int .i64 o.nano,.int .i64 o.links,.int .i64 o.opens,.bool o.gone,.slice (L.dA k) o.data.length (L.dC k)]:=by
  unfold eU uP;rw [if_pos h];rfl
theorem tI (h:o.kind=3):eU L k o=[.int .i64 o.id,.int .i64 o.mode,.int .i64 o.uid,.int .i64 o.gid,.int .i64 o.sec,.int .i64 o.nano,.int .i64 o.links,.int .i64 o.opens,.bool o.gone,.string o.target]:=by
  unfold eU uP;rw [if_neg (by rw [h];decide),if_pos h];rfl
theorem jJ (h:o.kind=2):eU L k o=[.int .i64 o.id,.int .i64 o.mode,.int .i64 o.uid,.int .i64 o.gid,.int .i64 o.sec,.int .i64 o.nano,.int .i64 o.links,.int .i64 o.opens,.bool o.gone,.map (some (L.m k)),q5 L o.up]:=by
  unfold eU uP;rw [if_neg (by rw [h];decide),if_neg (by rw [h];decide)];rfl
theorem Bc {es:aO->dS Th}:bD (aA O k (fun o=>{ o with ah:=es o })) L=bD O L:=by
  funext x
  unfold bD
  by_cases e:x=k
  ·subst e;rw [bB];rfl
  rw [bP e]
def mz (O:bO) (d:Nat) (name:ByteArray) (t:Th):bO:=
  let O1:=aA O d (fun o=>{ o with ah:=eH name t o.ah })
  let O2:=aA O1 t.k (fun o=>{ o with links:=o.links+1 })
  if t.kind=2 then aA O2 t.k (fun o=>{ o with up:=some d }) else O2
theorem vX {α:Type} {g:aO->α} {d:Nat} {name:ByteArray} {t:Th} (h1:∀ o es,g { o with ah:=es }=g o) (h2:∀ o l,g { o with links:=l }=g o) (h3:∀ o u,g { o with up:=u }=g o):g (obj (mz O d name t) k)=g (obj O k):=by
  unfold mz
  simp only
  split
  ·rw [cX (fun o=>h3 o _),cX (fun o=>h2 o _),cX (fun o=>h1 o _)]
  rw [cX (fun o=>h2 o _),cX (fun o=>h1 o _)]
theorem tJ {d:Nat} {name:ByteArray} {t:Th}:(obj (mz O d name t) k).kind=(obj O k).kind:=vX (g:=aO.kind) (fun _ _=>rfl) (fun _ _=>rfl) (fun _ _=>rfl)
structure FM where
  cN:Int
  cB:Int
  cH:Int
  cS:Int
  cZ:Int
  last:Int
  ah:Int
  used:Int
def nO (X:FM) (O:bO) (d:Nat):bO:=aA O d (fun o=>{ o with sec:=X.cS,nano:=X.cZ })
def cC (X:FM) (O:bO) (d:Nat) (name:ByteArray) (t:Th):bO:=nO X (mz O d name t) d
def aM (X:FM) (O:bO) (d:Nat) (name:ByteArray) (t:Th):bO:=aA (nO X (aA O d (fun o=>{ o with ah:=eT name o.ah })) d) t.k (fun o=>{ o with links:=o.links - 1 })
theorem cr {X:FM} {d:Nat} {name:ByteArray} {t:Th}:(obj (aM X O d name t) k).kind=(obj O k).kind:=by
  unfold aM nO
  exact (iD (f:=fun o=>{ o with links:=o.links - 1 }) (fun _=>rfl)).trans ((iD (f:=fun o=>{ o with sec:=X.cS,nano:=X.cZ }) (fun _=>rfl)).trans (iD (f:=fun o=>{ o with ah:=eT name o.ah }) (fun _=>rfl)))
theorem CK {X:FM} {d:Nat} {name:ByteArray} {t:Th}:(obj (cC X O d name t) k).kind=(obj O k).kind:=by
  unfold cC nO
  exact (iD (f:=fun o=>{ o with sec:=X.cS,nano:=X.cZ }) (fun _=>rfl)).trans tJ
end kinds
section sat
variable {β:Bs} {l l':List HP} {w:World} {i j k:Nat} {O:bO} {L:HL} {f:aO->aO} {cs:List Value} {T:TypeId} {idx:List Nat}
theorem Sat.tK (h:Sat β l w) (hp:l[i]?=some (.abs (ay (bD O L)))) (h0:(obj O k).kind≠0) (hc:eU L k (obj O k)=cs) (hT:je (obj O k).kind=T):Sat β (l.set i (.abs (ay (kV (bD O L) k bY.none)))++[.blk (L.b k) cs T]) w:=by
  have h1:=h.Bb hp k
  have hlen:(l.set i (HP.abs (ay (kV (bD O L) k bY.none)))).length=l.length:=List.length_set ..
  have h2:=Sat.same (i:=l.length) (p:=.abs (bD O L k)) (p':=.blk (L.b k) cs T) h1 (by rw [List.getElem?_append_right (by omega),hlen,Nat.sub_self];rfl) (fun F w h=>by
    have h3:(bD O L k).h F w:=h
    rw [jI h0] at h3
    have h3:(vW (L.b k) (eU L k (obj O k)) (je (obj O k).kind)).h F w:=h3
    rw [hc,hT] at h3
    exact h3)
  have e:∀ (a:List HP) (x y:HP),(a++[x]).set a.length y=a++[y]:=fun a x y=>by simp
  have h4:=e (l.set i (HP.abs (ay (kV (bD O L) k bY.none)))) (.abs (bD O L k)) (.blk (L.b k) cs T)
  rw [hlen] at h4
  rw [h4] at h2
  exact h2
theorem Sat.uQ {R:Nat->bY} (h:Sat β l w) (hp:l[i]?=some (.abs (ay R))) (hR:∀ x,x≠k->R x=bD O L x) (hq:l[j]?=some (.blk (L.b k) cs T)) (hd:aZ (i::j::idx)=true) (hl:bF l idx=some l') (h0:(f (obj O k)).kind≠0) (hc:eU L k (f (obj O k))=cs) (hT:je (f (obj O k)).kind=T):Sat β (.abs (ay (bD (aA O k f) L))::l') w:=by
  refine h.oJ (a:=vW (L.b k) cs T) hp hq (fun _ _ h=>h) hd hl k (fun x hx=>?_) (by rw [q6,if_neg h0,hc,hT])
  rw [q8 hx,hR x hx]
theorem lX {R:Nat->bY} {a:bY} {x:Nat} (h:x≠k):kV R k a x=R x:=if_neg h
theorem Sat.KZ (h:Sat β l w) (hp:l[i]?=some (.abs (ay (cE O L)))) (hd:(obj O k).kind=2):Sat β (l.set i (.abs (ay (kV (cE O L) k bY.none)))++[.abs (aN Tryz.prog 9 (L.m k) (gi L (obj O k).ah) (obj O k).ah.length)]) w:=by
  have h1:=h.Bb hp k
  rw [lW hd] at h1
  exact h1
theorem Sat.K1 (h:Sat β l w) (hp:l[i]?=some (.abs (ay (kV (cE O L) k bY.none)))) (hq:l[j]?=some (.abs (aN Tryz.prog 9 (L.m k) (gi L (obj O k).ah) (obj O k).ah.length))) (hd:aZ (i::j::idx)=true) (hl:bF l idx=some l') (h2:(obj O k).kind=2):Sat β (.abs (ay (cE O L))::l') w:=
  h.oJ hp hq (fun _ _ h=>h) hd hl k (fun _ hx=>(lX hx).symm) (lW h2)
theorem Sat.FB (h:Sat β l w) (hp:l[i]?=some (.abs (ay (bq O L)))) (hd:(obj O k).kind=1):Sat β (l.set i (.abs (ay (kV (bq O L) k bY.none)))++[.abs (aC 5 1 (L.dA k) (obj O k).data.length (L.dC k) (cA (obj O k).data))]) w:=by
  have h1:=h.Bb hp k
  rw [pN hd] at h1
  exact h1
end sat
end
section
open Go.RowKit
section
variable {O:bO} {k:Nat} {kd:Int}
theorem oh (L:HL) (h:(obj O k).kind=kd) (h0:kd≠0:=by decide):∀ F w,(ay (bD O L)).h F w->w.cell? ⟨L.b k,0,none⟩=some (.int .i64 (obj O k).id):=dw (by rw [h];exact h0) rfl
theorem pP (L:HL) (h:(obj O k).kind=kd) (h0:kd≠0:=by decide):∀ F w,(ay (bD O L)).h F w->w.cell? ⟨L.b k,1,none⟩=some (.int .i64 (obj O k).mode):=dw (by rw [h];exact h0) rfl
theorem uR (L:HL) (h:(obj O k).kind=kd) (h0:kd≠0:=by decide):∀ F w,(ay (bD O L)).h F w->w.cell? ⟨L.b k,2,none⟩=some (.int .i64 (obj O k).uid):=dw (by rw [h];exact h0) rfl
theorem uS (L:HL) (h:(obj O k).kind=kd) (h0:kd≠0:=by decide):∀ F w,(ay (bD O L)).h F w->w.cell? ⟨L.b k,3,none⟩=some (.int .i64 (obj O k).gid):=dw (by rw [h];exact h0) rfl
theorem kM (L:HL) (h:(obj O k).kind=kd) (h0:kd≠0:=by decide):∀ F w,(ay (bD O L)).h F w->w.cell? ⟨L.b k,6,none⟩=some (.int .i64 (obj O k).links):=dw (by rw [h];exact h0) rfl
theorem iN (L:HL) (h:(obj O k).kind=kd) (h0:kd≠0:=by decide):∀ F w,(ay (bD O L)).h F w->w.cell? ⟨L.b k,7,none⟩=some (.int .i64 (obj O k).opens):=dw (by rw [h];exact h0) rfl
theorem mA (L:HL) (h:(obj O k).kind=kd) (h0:kd≠0:=by decide):∀ F w,(ay (bD O L)).h F w->w.cell? ⟨L.b k,8,none⟩=some (.bool (obj O k).gone):=dw (by rw [h];exact h0) rfl
theorem Bd (L:HL) (h:(obj O k).kind=1):∀ F w,(ay (bD O L)).h F w->w.cell? ⟨L.b k,9,none⟩=some (.slice (L.dA k) (obj O k).data.length (L.dC k)):=dw (by rw [h];decide) (by rw [fV h];rfl)
theorem br (L:HL) (h:(obj O k).kind=2):∀ F w,(ay (bD O L)).h F w->w.cell? ⟨L.b k,9,none⟩=some (.map (some (L.m k))):=dw (by rw [h];decide) (by rw [jJ h];rfl)
theorem NY (L:HL) (h:(obj O k).kind=2):∀ F w,(ay (bD O L)).h F w->w.cell? ⟨L.b k,10,none⟩=some (q5 L (obj O k).up):=dw (by rw [h];decide) (by rw [jJ h];rfl)
theorem MB (L:HL) (h:(obj O k).kind=3):∀ F w,(ay (bD O L)).h F w->w.cell? ⟨L.b k,9,none⟩=some (.string (obj O k).target):=dw (by rw [h];decide) (by rw [tI h];rfl)
end
end
section
open Go.RowKit Go.Maps
theorem ay.step {R R':Nat->bY} {k:Nat} {F:Fp} {w w':World} (hF:(ay R).h F w) (hR:∀ x,x≠k->R' x=R x) (hs:∀ G,(R k).h G w->∃ G',(R' k).h G' w'/\Step G w G' w'):∃ F',(ay R').h F' w'/\Step F w F' w':=by
  obtain⟨φ,h1,h2,h3⟩:=hF
  obtain⟨G',g1,st⟩:=hs _ (h1 k)
  have hap:∀ i,i≠k->∀ x,G' x->φ i x->False:=fun i hne x hx hy=>by
    rcases st.grow x hx with e|e
    ·exact h2 i k hne x hy e
    have:=(R i).lt (h1 i) x hy;omega
  refine⟨fun x=>∃ i,(if i=k then G' else φ i) x,⟨fun i=>if i=k then G' else φ i,fun i=>?_,fun i j hne x hx hy=>?_,fun x=>Iff.rfl⟩,⟨st.keeps.mono (fun x _ hx=>(h3 x).2 ⟨k,hx⟩),fun x ⟨i,hx⟩=>?_⟩⟩
  ·by_cases e:i=k
   ·subst e;simp only [if_true];exact g1
   simp only [e,if_false]
   rw [hR i e]
   exact (R i).st (h1 i) st.keeps (fun x hx hk=>h2 i k e x hx hk)
  ·by_cases e1:i=k
   ·have e2:j≠k:=fun e=>hne (e1.trans e.symm)
    simp only [e1,if_true] at hx
    simp only [e2,if_false] at hy
    exact hap j e2 x hx hy
   simp only [e1,if_false] at hx
   by_cases e2:j=k
   ·simp only [e2,if_true] at hy
    exact hap i e1 x hy hx
   simp only [e2,if_false] at hy
   exact h2 i j hne x hx hy
  by_cases e:i=k
  ·simp only [e,if_true] at hx
   rcases st.grow x hx with h|h
   ·exact .inl ((h3 x).2 ⟨k,h⟩)
   exact .inr h
  simp only [e,if_false] at hx
  exact .inl ((h3 x).2 ⟨i,hx⟩)
def yg (O:bO) (L:HL):Nat->HP
  | 0=>.abs (ay (bD O L))
  | 1=>.abs (ay (cE O L))
  | _=>.abs (ay (bq O L))
def mY (O:bO) (L:HL):List (Nat×Nat)->List (Nat×HP)
  | []=>[]
  | q::r=>(q.1,yg O L q.2)::mY O L r
def qt (hps:List HP) (O:bO) (L:HL):List (Nat×Nat)->Prop
  | []=>True
  | q::r=>hps[q.1]?=some (yg O L q.2)/\qt hps O L r
theorem rf {hps:List HP} {O O2:bO} {L:HL} {p:Nat} (he:∀ q,q≠p->yg O2 L q=yg O L q):∀ {js:List (Nat×Nat)},qt hps O L js->iQ p (js.map (·.2))=false->kI hps (mY O2 L js)=hps
  | [],_,_=>rfl
  | q::r,h,hn=>by
    have hq:q.2≠p:=fun e=>by
      rw [show iQ p ((q::r).map (·.2))=true from gY.2 (by simp [e])] at hn;cases hn
    have hr:iQ p (r.map (·.2))=false:=by
      cases hb:iQ p (r.map (·.2)) with
      | false=>rfl
      | true=>rw [show iQ p ((q::r).map (·.2))=true from gY.2 (List.mem_cons_of_mem _ (gY.1 hb))] at hn;cases hn
    show kI (hps.set q.1 (yg O2 L q.2)) (mY O2 L r)=hps
    have e:hps.set q.1 (yg O2 L q.2)=hps:=by
      rw [he _ hq]
      refine List.ext_getElem? (fun n=>?_)
      rw [List.getElem?_set]
      split
      ·rename_i e;subst e
       rw [h.1];split
       ·rfl
       rename_i hlt;exact absurd (bh h.1) hlt
      rfl
    rw [e]
    exact rf he h.2 hr
def wW (P:Program) (N:Nat) (junk:Nat->Value) (ops:Array Oper) (fr:Fr) (k:Nat):Option (Addr×Value):=
  match dR N junk ops fr k with
  | some (.store T a y,_)=>match (P.info? T).map (·.size) with
    | some 1=>match cP N fr junk a with
      | .pointer (some ad)=>some (ad,cP N fr junk y)
      | _=>none
    | _=>none
  | _=>none
def wX (N:Nat) (junk:Nat->Value) (ops:Array Oper) (fr:Fr) (k:Nat):Option (TypeId×Nat×Value):=
  match dR N junk ops fr k with
  | some (.lookup t x ix false,_)=>match cP N fr junk x with
    | .map (some b)=>some (t,b,cP N fr junk ix)
    | _=>none
  | _=>none
def setAt (N:Nat) (junk:Nat->Value) (ops:Array Oper) (fr:Fr) (k:Nat):Option (TypeId×Nat×Value×Value):=
  match dR N junk ops fr k with
  | some (.mapUpdate t x ix y,_)=>match cP N fr junk x with
    | .map (some b)=>some (t,b,cP N fr junk ix,cP N fr junk y)
    | _=>none
  | _=>none
def D3 (N:Nat) (junk:Nat->Value) (ops:Array Oper) (fr:Fr) (k:Nat):Option (TypeId×TypeId×Nat×Value):=
  match dR N junk ops fr k with
  | some (.call ⟨.builtin .delete,xs,ts⟩,_)=>match xs.toList with
    | [x,ix]=>match ts.toList with
      | [t,K]=>match cP N fr junk x with
        | .map (some b)=>some (t,K,b,cP N fr junk ix)
        | _=>none
      | _=>none
    | _=>none
  | _=>none
def Be (L:HL):Option Th->Value
  | none=>.nilIface
  | some t=>dh L t
section rules
variable {β:Bs} {N:Nat} {ops:Array Oper} {k x:Nat} {fr:Fr} {hps:List HP} {Q:Post} {O:bO} {L:HL} {name:ByteArray} {r:Option Th} {t:Th}
theorem ru {junk:Nat->Value} {op:Op} {d:Option Tmp} (h:dR N junk ops fr k=some (op,d)):d=gF ops k:=by
  obtain⟨o,h1,_,_,h4⟩:=dm h
  unfold gF
  rw [h1,← h4]
theorem Bf {P:Program} {junk:Nat->Value} {ad:Addr} {u:Value} (h:wW P N junk ops fr k=some (ad,u)):∃ T a y,dR N junk ops fr k=some (.store T a y,gF ops k)/\(P.info? T).map (·.size)=some 1/\cP N fr junk a=.pointer (some ad)/\cP N fr junk y=u:=by
  unfold wW at h
  repeat' split at h
  all_goals first|(cases h;done)|skip
  rename_i T a y d h0 _ h1 _ OY h2
  cases h
  have:=ru h0
  subst this
  exact⟨T,a,y,h0,h1,h2,rfl⟩
theorem lY {junk:Nat->Value} {T:TypeId} {b:Nat} {key:Value} (h:wX N junk ops fr k=some (T,b,key)):∃ a y,dR N junk ops fr k=some (.lookup T a y false,gF ops k)/\cP N fr junk a=.map (some b)/\cP N fr junk y=key:=by
  unfold wX at h
  repeat' split at h
  all_goals first|(cases h;done)|skip
  rename_i T' a y d h0 _ b' h1
  cases h
  have:=ru h0
  subst this
  exact⟨a,y,h0,h1,rfl⟩
theorem Hg {junk:Nat->Value} {T:TypeId} {b:Nat} {key u:Value} (h:setAt N junk ops fr k=some (T,b,key,u)):∃ a y z,dR N junk ops fr k=some (.mapUpdate T a y z,gF ops k)/\cP N fr junk a=.map (some b)/\cP N fr junk y=key/\cP N fr junk z=u:=by
  unfold setAt at h
  repeat' split at h
  all_goals first|(cases h;done)|skip
  rename_i T' a y z d h0 _ b' h1
  cases h
  have:=ru h0
  subst this
  exact⟨a,y,z,h0,h1,rfl,rfl⟩
theorem FC {P:Program} {T:TypeId} {a y:Operand} {o:Oper} {ev:Operand->Value} {w:World} {ad:Addr} {u v0:Value} (ho:o.op=.store T a y) (hT:(P.info? T).map (·.size)=some 1) (ha:ev a=.pointer (some ad)) (hy:ev y=u) (hu:u.oneCell'=true) (hc:w.cell? ad=some v0) (hf:w.frozen? ad=false) (hs:ad.spot=none):lP P ev o w undef (w.setCell ad u):=by
  obtain⟨inf,hi,hsz⟩:∃ inf,P.info? T=some inf/\inf.size=1:=by
    cases h:P.info? T with
    | none=>rw [h] at hT;cases hT
    | some inf=>rw [h] at hT;exact⟨inf,rfl,by simpa using hT⟩
  have h3:=kE hi w
  rw [hsz] at h3
  obtain⟨dst,op,type,pos,after,guard⟩:=o
  obtain⟨bk,off,spot⟩:=ad
  simp only at hs
  subst hs
  cases ho
  refine .inr ⟨rfl,?_⟩
  cases u<;>first
    | (simp [Value.oneCell'] at hu;done)
    | (simp only [execOp,ha,hy];simp [go_sem,Instr.storeAt,Instr.sureAddr,storeVar,h3,Value.cells,storeCells,store,Addr.add,Sem.run,hc,hf])
theorem Nb (i:Nat) (js:List (Nat×Nat)) (x j:Nat) (f:aO->aO) (u:Value) {kd:Int} (hk:(obj O x).kind=kd)
    (K:∀ O2,O2=aA O x f->ak Tryz.prog β N ops (k+1) (cU fr (gF ops k) undef) ((kI hps (mY O2 L js)).set i (.abs (ay (bD O2 L)))) Q)
    (hp:hps[i]?=some (.abs (ay (bD O L)))) (hj:qt hps O L js)
    (ho:∀ junk,wW Tryz.prog N junk ops fr k=some (⟨L.b x,j,none⟩,u))
    (hn:iQ 0 (js.map (·.2))=false) (h0:kd≠0) (hc:eU L x (f (obj O x))=(eU L x (obj O x)).set j u) (hu:u.oneCell'=true) (h9:j < (eU L x (obj O x)).length)
    (he:(f (obj O x)).ah=(obj O x).ah) (hd:(f (obj O x)).data=(obj O x).data) (wY:(f (obj O x)).kind=(obj O x).kind):ak Tryz.prog β N ops k fr hps Q:=by
  obtain⟨T,a,y,h1,h2,h3,h4⟩:=Bf (ho (fun _=>undef))
  intro junk w hS
  obtain⟨T,a,y,h1,h2,h3,h4⟩:=Bf (ho junk)
  obtain⟨o,g1,g2,g3,g4⟩:=dm h1
  have hx0:(obj O x).kind≠0:=by rw [hk];exact h0
  have Bg:kI hps (mY (aA O x f) L js)=hps:=rf (p:=0) (fun q hq=>by
    match q,hq with
    | 0,hq=>exact absurd rfl hq
    | 1,_=>exact congrArg (fun R=>HP.abs (ay R)) (kL he wY)
    | q+2,_=>exact congrArg (fun R=>HP.abs (ay R)) (kK hd wY)) hj hn
  have hcell:∃ v0,(eU L x (obj O x))[j]?=some v0:=gD h9
  obtain⟨v0,hv0⟩:=hcell
  obtain⟨F,hF⟩:=hS.get hp
  obtain⟨G,hG⟩:=ay.at x hF
  have tL:=hG
  rw [jI hx0] at tL
  obtain⟨hb,_⟩:=tL
  obtain⟨c1,c2⟩:=eZ (a:=⟨L.b x,j,none⟩) hb rfl rfl hv0
  have rz:Sat β (hps.set i (.abs (ay (bD (aA O x f) L)))) (w.setCell ⟨L.b x,j,none⟩ (u)):=hS.set hp (fun F hF=>ay.step (k:=x) (show (ay (bD O L)).h F w from hF) (fun y hy=>q8 hy) (fun G hG=>by
    rw [jI hx0] at hG
    rw [q6,if_neg (by rw [wY];exact hx0),hc,wY]
    exact o8 hG rfl rfl))
  rw [drop_cons g1]
  unfold wpList
  rw [dQ,if_pos g2]
  refine .inl (iP (v:=undef) (w':=w.setCell ⟨L.b x,j,none⟩ (u)) (by rw [dH];exact FC g3 h2 h3 h4 hu c1 c2 rfl) ?_)
  rw [dF]
  have hK:=K _ rfl junk _ (by rw [Bg];exact rz)
  rw [← g4] at hK
  exact hK
theorem pQ (i:Nat) (js:List (Nat×Nat)) (x j:Nat) (f:aO->aO) {kd:Int} (hk:(obj O x).kind=kd)
    (K:∀ O2,O2=aA O x f->ak Tryz.prog β N ops (k+1) (cU fr (gF ops k) undef) ((kI hps (mY O2 L js)).set i (.abs (ay (bD O2 L)))) Q)
    (hp:hps[i]?=some (.abs (ay (bD O L))):=by rfl) (hj:qt hps O L js:=by first|exact⟨rfl,trivial⟩|exact⟨rfl,rfl,trivial⟩|exact trivial)
    (ho:∀ junk,wW Tryz.prog N junk ops fr k=some (⟨L.b x,j,none⟩,(uO (f (obj O x))).getD j undef):=by intro _;kernel_rfl)
    (hn:iQ 0 (js.map (·.2))=false:=by rfl) (h0:kd≠0:=by decide) (hc:eU L x (f (obj O x))=(eU L x (obj O x)).set j ((uO (f (obj O x))).getD j undef):=by rfl) (hu:((uO (f (obj O x))).getD j undef).oneCell'=true:=by rfl) (h9:Nat.blt j 9=true:=by rfl)
    (he:(f (obj O x)).ah=(obj O x).ah:=by rfl) (hd:(f (obj O x)).data=(obj O x).data:=by rfl) (wY:(f (obj O x)).kind=(obj O x).kind:=by rfl):ak Tryz.prog β N ops k fr hps Q:=
  Nb i js x j f _ hk K hp hj ho hn h0 hc hu (Nat.lt_of_lt_of_le (show j < 9 by simpa [Nat.blt_eq] using h9) (by unfold eU uO;simp)) he hd wY
theorem Nc (i:Nat) (js:List (Nat×Nat)) (x:Nat) (y:Option Nat) (hk:(obj O x).kind=2)
    (K:∀ O2,O2=aA O x (fun o=>{ o with up:=y })->ak Tryz.prog β N ops (k+1) (cU fr (gF ops k) undef) ((kI hps (mY O2 L js)).set i (.abs (ay (bD O2 L)))) Q)
    (hp:hps[i]?=some (.abs (ay (bD O L))):=by rfl) (hj:qt hps O L js:=by first|exact⟨rfl,trivial⟩|exact⟨rfl,rfl,trivial⟩|exact trivial)
    (ho:∀ junk,wW Tryz.prog N junk ops fr k=some (⟨L.b x,10,none⟩,q5 L y):=by intro _;kernel_rfl) (hn:iQ 0 (js.map (·.2))=false:=by rfl):ak Tryz.prog β N ops k fr hps Q:=
  Nb i js x 10 (fun o=>{ o with up:=y }) (q5 L y) hk K hp hj ho hn (by decide) (by rw [jJ (show ({ obj O x with up:=y }:aO).kind=2 from hk),jJ hk];rfl) (by cases y<;>rfl) (by rw [jJ hk];exact Nat.lt_succ_self 10) rfl rfl rfl
theorem Sat.Jp {w:World} {i j:Nat} {f:aO->aO} {u:Value} (hS:Sat β hps w) (hp:hps[i]?=some (.abs (ay (bD O L)))) (hx0:(obj O x).kind≠0) (hc:eU L x (f (obj O x))=(eU L x (obj O x)).set j u) (wY:(f (obj O x)).kind=(obj O x).kind) (h9:j < (eU L x (obj O x)).length) :
    Sat β (hps.set i (.abs (ay (bD (aA O x f) L)))) (w.setCell ⟨L.b x,j,none⟩ u)/\(∃ v0,w.cell? ⟨L.b x,j,none⟩=some v0)/\w.frozen? ⟨L.b x,j,none⟩=false:=by
  obtain⟨v0,hv0⟩:=gD h9
  obtain⟨F,hF⟩:=hS.get hp
  obtain⟨G,hG⟩:=ay.at x (show (ay (bD O L)).h F w from hF)
  rw [jI hx0] at hG
  obtain⟨c1,c2⟩:=eZ (a:=⟨L.b x,j,none⟩) hG.1 rfl rfl hv0
  refine⟨hS.set hp (fun F hF=>ay.step (k:=x) (show (ay (bD O L)).h F w from hF) (fun y hy=>q8 hy) (fun G hG=>?_)),⟨v0,c1⟩,c2⟩
  rw [jI hx0] at hG
  rw [q6,if_neg (by rw [wY];exact hx0),hc,wY]
  exact o8 hG rfl rfl
def Bh (P:Program) (N:Nat) (junk:Nat->Value) (ops:Array Oper) (fr:Fr) (k:Nat):Option (Addr×Value):=
  match dR N junk ops fr k with
  | some (.store T a y,_)=>match (P.info? T).map (·.size) with
    | some 2=>match cP N fr junk a with
      | .pointer (some ad)=>some (ad,cP N fr junk y)
      | _=>none
    | _=>none
  | _=>none
theorem FD {P:Program} {junk:Nat->Value} {ad:Addr} {u:Value} (h:Bh P N junk ops fr k=some (ad,u)):∃ T a y,dR N junk ops fr k=some (.store T a y,gF ops k)/\(P.info? T).map (·.size)=some 2/\cP N fr junk a=.pointer (some ad)/\cP N fr junk y=u:=by
  unfold Bh at h
  repeat' split at h
  all_goals first|(cases h;done)|skip
  rename_i T a y d h0 _ h1 _ OY h2
  cases h
  have:=ru h0
  subst this
  exact⟨T,a,y,h0,h1,h2,rfl⟩
theorem D4 {P:Program} {T:TypeId} {a y:Operand} {o:Oper} {ev:Operand->Value} {w:World} {b j:Nat} {z1 z2:Int} {v0 v1:Value} (ho:o.op=.store T a y) (hT:(P.info? T).map (·.size)=some 2) (ha:ev a=.pointer (some ⟨b,j,none⟩)) (hy:ev y=.agg #[.int .i64 z1,.int .i64 z2])
    (hc:w.cell? ⟨b,j,none⟩=some v0) (hf:w.frozen? ⟨b,j,none⟩=false) (hc1:(w.setCell ⟨b,j,none⟩ (.int .i64 z1)).cell? ⟨b,j+1,none⟩=some v1) (hf1:(w.setCell ⟨b,j,none⟩ (.int .i64 z1)).frozen? ⟨b,j+1,none⟩=false) :
    lP P ev o w undef ((w.setCell ⟨b,j,none⟩ (.int .i64 z1)).setCell ⟨b,j+1,none⟩ (.int .i64 z2)):=by
  obtain⟨inf,hi,hsz⟩:∃ inf,P.info? T=some inf/\inf.size=2:=by
    cases h:P.info? T with
    | none=>rw [h] at hT;cases hT
    | some inf=>rw [h] at hT;exact⟨inf,rfl,by simpa using hT⟩
  have h3:=kE hi w
  rw [hsz] at h3
  obtain⟨dst,op,type,pos,after,guard⟩:=o
  cases ho
  refine .inr ⟨rfl,?_⟩
  simp only [execOp,ha,hy]
  simp [go_sem,Instr.storeAt,Instr.sureAddr,storeVar,h3,Value.cells,storeCells,store,Addr.add,Sem.run,hc,hf,hc1,hf1]
theorem FE (i:Nat) (js:List (Nat×Nat)) (x:Nat) (z1 z2:Int) {kd:Int} (hk:(obj O x).kind=kd)
    (K:∀ O2,O2=aA O x (fun o=>{ o with sec:=z1,nano:=z2 })->ak Tryz.prog β N ops (k+1) (cU fr (gF ops k) undef) ((kI hps (mY O2 L js)).set i (.abs (ay (bD O2 L)))) Q)
    (hp:hps[i]?=some (.abs (ay (bD O L))):=by rfl) (hj:qt hps O L js:=by first|exact⟨rfl,trivial⟩|exact⟨rfl,rfl,trivial⟩|exact trivial)
    (ho:∀ junk,Bh Tryz.prog N junk ops fr k=some (⟨L.b x,4,none⟩,.agg #[.int .i64 z1,.int .i64 z2]):=by intro _;kernel_rfl)
    (hn:iQ 0 (js.map (·.2))=false:=by rfl) (h0:kd≠0:=by decide):ak Tryz.prog β N ops k fr hps Q:=by
  intro junk w hS
  obtain⟨T,a,y,h1,h2,h3,h4⟩:=FD (ho junk)
  obtain⟨o,g1,g2,g3,g4⟩:=dm h1
  have hx0:(obj O x).kind≠0:=by rw [hk];exact h0
  have Bg:kI hps (mY (aA O x (fun o=>{ o with sec:=z1,nano:=z2 })) L js)=hps:=rf (p:=0) (fun q hq=>by
    match q,hq with
    | 0,hq=>exact absurd rfl hq
    | 1,_=>exact congrArg (fun R=>HP.abs (ay R)) (kL rfl rfl)
    | q+2,_=>exact congrArg (fun R=>HP.abs (ay R)) (kK rfl rfl)) hj hn
  have hlen:∀ o:aO,9<=(eU L x o).length:=fun o=>by unfold eU uO;simp
  obtain⟨s1,⟨v0,c1⟩,f1⟩:=hS.Jp (x:=x) (j:=4) (f:=fun o=>{ o with sec:=z1 }) (u:=.int .i64 z1) hp hx0 rfl rfl (by have:=hlen (obj O x);omega)
  have hi:i < hps.length:=bh hp
  have e1:obj (aA O x (fun o=>{ o with sec:=z1 })) x={ obj O x with sec:=z1 }:=bB
  obtain⟨s2,⟨v1,c2⟩,f2⟩:=s1.Jp (x:=x) (j:=5) (f:=fun o=>{ o with nano:=z2 }) (u:=.int .i64 z2) (i:=i) (O:=aA O x (fun o=>{ o with sec:=z1 })) (by rw [List.getElem?_set,if_pos rfl,if_pos hi]) (by rw [e1];exact hx0) rfl rfl (by have:=hlen (obj (aA O x (fun o=>{ o with sec:=z1 })) x);omega)
  rw [List.set_set,qq] at s2
  rw [drop_cons g1]
  unfold wpList
  rw [dQ,if_pos g2]
  refine .inl (iP (v:=undef) (w':=_) (by rw [dH];exact D4 g3 h2 h3 h4 c1 f1 c2 f2) ?_)
  rw [dF]
  have hK:=K _ rfl junk _ (by rw [Bg];exact s2)
  rw [← g4] at hK
  exact hK
theorem uT {w:World} {i:Nat} (hS:Sat β hps w) (hp:hps[i]?=some (.abs (ay (cE O L)))) (hd:(obj O x).kind=2):dY Tryz.prog 9 w (L.m x) (gi L (obj O x).ah) (obj O x).ah.length:=by
  obtain⟨F,hF⟩:=hS.get hp
  obtain⟨G,hG⟩:=ay.at x (show (ay (cE O L)).h F w from hF)
  rw [lW hd] at hG
  exact hG.1
theorem Dh {w:World} {i:Nat} {o:Oper} {ev:Operand->Value} {a y:Operand} (hS:Sat β hps w) (hp:hps[i]?=some (.abs (ay (cE O L)))) (hd:(obj O x).kind=2) (hl:aP name (obj O x).ah=r) (h3:o.op=.lookup 77 a y false) (ha:ev a=.map (some (L.m x))) (hy:ev y=.string name) (hsz:name.size<=1048576):lP Tryz.prog ev o w (Be L r) w:=by
  have h:=rN (z:=.nilIface) h3 (uT hS hp hd) ha hy vV Tryz.underlying77 (by kernel_rfl) (ye (by omega))
  rw [o3,hl] at h
  cases r<;>exact h
theorem iE (i:Nat) (hd:(obj O x).kind=2) (hl:aP name (obj O x).ah=r) (K:ak Tryz.prog β N ops (k+1) (cU fr (gF ops k) (Be L r)) hps Q) (hp:hps[i]?=some (.abs (ay (cE O L))):=by rfl)
    (ho:∀ junk,wX N junk ops fr k=some (77,L.m x,.string name):=by intro _;kernel_rfl) (hsz:name.size<=1048576:=by omega):ak Tryz.prog β N ops k fr hps Q:=by
  intro junk w hS
  obtain⟨a,y,h1,h2,h3⟩:=lY (ho junk)
  exact ak.gU (cO:=hps) (v:=Be L r) (d:=gF ops k) (op:=.lookup 77 a y false) (fun j=>by
    obtain⟨a',y',h1',_,_⟩:=lY (ho j)
    obtain⟨o,g1,g2,g3,g4⟩:=dm h1
    obtain⟨o',nP,FH,pR,FI⟩:=dm h1'
    rw [g1] at nP
    cases nP
    rw [g3] at pR
    cases pR
    exact h1') (fun o junk w ho' hS=>by
    obtain⟨a',y',h1',h2',h3'⟩:=lY (ho junk)
    obtain⟨o1,g1,g2,g3,g4⟩:=dm h1
    obtain⟨o',nP,FH,pR,FI⟩:=dm h1'
    rw [g1] at nP
    cases nP
    rw [g3] at pR
    cases pR
    exact⟨w,Dh hS hp hd hl ho' h2' h3' hsz,hS⟩) K junk w hS
theorem oz (i:Nat) (hd:(obj O x).kind=2) (hl:aP name (obj O x).ah=r) (K:aK Tryz.prog β N ops (k+1) (cU fr (gF ops k) (Be L r)) hps Q) (hp:hps[i]?=some (.abs (ay (cE O L))):=by rfl)
    (ho:∀ junk,wX N junk ops fr k=some (77,L.m x,.string name):=by intro _;kernel_rfl) (hsz:name.size<=1048576:=by omega):aK Tryz.prog β N ops k fr hps Q:=by
  intro junk
  obtain⟨a,y,h1,h2,h3⟩:=lY (ho junk)
  exact aK.gU (v:=Be L r) (d:=gF ops k) (op:=.lookup 77 a y false) (fun j=>by
    obtain⟨a',y',h1',_,_⟩:=lY (ho j)
    obtain⟨o,g1,g2,g3,g4⟩:=dm h1
    obtain⟨o',nP,FH,pR,FI⟩:=dm h1'
    rw [g1] at nP
    cases nP
    rw [g3] at pR
    cases pR
    exact h1') (fun o junk w ho' hS=>by
    obtain⟨a',y',h1',h2',h3'⟩:=lY (ho junk)
    obtain⟨o1,g1,g2,g3,g4⟩:=dm h1
    obtain⟨o',nP,FH,pR,FI⟩:=dm h1'
    rw [g1] at nP
    cases nP
    rw [g3] at pR
    cases pR
    exact Dh hS hp hd hl ho' h2' h3' hsz) K junk
def D5 (N:Nat) (junk:Nat->Value) (ops:Array Oper) (fr:Fr) (k:Nat):Option (TypeId×Nat):=
  match dR N junk ops fr k with
  | some (.call ⟨.builtin .len,xs,ts⟩,_)=>match xs.toList with
    | [x]=>match ts.toList with
      | [t]=>match cP N fr junk x with
        | .map (some b)=>some (t,b)
        | _=>none
      | _=>none
    | _=>none
  | _=>none
theorem vY {junk:Nat->Value} {T:TypeId} {b:Nat} (h:D5 N junk ops fr k=some (T,b)):∃ a,dR N junk ops fr k=some (.call ⟨.builtin .len,#[a],#[T]⟩,gF ops k)/\cP N fr junk a=.map (some b):=by
  unfold D5 at h
  repeat' split at h
  all_goals first|(cases h;done)|skip
  rename_i xs ts d h0 _ a h1 _ t' h2 _ b' h3
  cases h
  have:=ru h0
  subst this
  refine⟨a,?_,h3⟩
  rw [h0]
  obtain⟨xs⟩:=xs
  obtain⟨ts⟩:=ts
  cases h1
  cases h2
  rfl
theorem OZ (i:Nat) (hd:(obj O x).kind=2) (K:ak Tryz.prog β N ops (k+1) (cU fr (gF ops k) (.int .i64 (((obj O x).ah.length:Nat):Int))) hps Q) (hp:hps[i]?=some (.abs (ay (cE O L))):=by rfl)
    (ho:∀ junk,D5 N junk ops fr k=some (77,L.m x):=by intro _;kernel_rfl):ak Tryz.prog β N ops k fr hps Q:=by
  obtain⟨a,h1,h2⟩:=vY (ho (fun _=>undef))
  obtain⟨o,g1,g2,g3,g4⟩:=dm h1
  refine ak.gU (cO:=hps) (v:=.int .i64 (((obj O x).ah.length:Nat):Int)) (d:=gF ops k) (op:=o.op) (fun j=>?_) (fun o' junk w ho' hS=>?_) K
  ·obtain⟨a',h1',_⟩:=vY (ho j)
   obtain⟨o',nP,FH,pR,FI⟩:=dm h1'
   rw [g1] at nP
   cases nP
   rw [pR]
   exact h1'
  obtain⟨a',h1',h2'⟩:=vY (ho junk)
  obtain⟨o1,nP,FH,pR,FI⟩:=dm h1'
  rw [g1] at nP
  cases nP
  exact⟨w,uJ (ho'.trans pR) rfl (uT hS hp hd) h2' Tryz.underlying77,hS⟩
theorem K3 (i:Nat) (js:List (Nat×Nat)) {t:Th} (hd:(obj O x).kind=2) (hno:aP name (obj O x).ah=none)
    (K:∀ O2,O2=aA O x (fun o=>{ o with ah:=eH name t o.ah })->ak Tryz.prog β N ops (k+1) (cU fr (gF ops k) undef) ((kI hps (mY O2 L js)).set i (.abs (ay (cE O2 L)))) Q)
    (hp:hps[i]?=some (.abs (ay (cE O L))):=by rfl) (hj:qt hps O L js:=by first|exact⟨rfl,trivial⟩|exact⟨rfl,rfl,trivial⟩|exact trivial)
    (ho:∀ junk,setAt N junk ops fr k=some (77,L.m x,.string name,dh L t):=by intro _;kernel_rfl) (hn:iQ 1 (js.map (·.2))=false:=by rfl) (hsz:name.size<=1048576:=by omega) (hel:(obj O x).ah.length<=1048576:=by omega):ak Tryz.prog β N ops k fr hps Q:=by
  intro junk w hS
  obtain⟨a,y,z,h1,h2,h3,h4⟩:=Hg (ho junk)
  obtain⟨o,g1,g2,g3,g4⟩:=dm h1
  have Bg:kI hps (mY (aA O x (fun o=>{ o with ah:=eH name t o.ah })) L js)=hps:=rf (p:=1) (fun q hq=>by
    match q,hq with
    | 0,_=>exact congrArg (fun R=>HP.abs (ay R)) (Bc (es:=fun o=>eH name t o.ah))
    | 1,hq=>exact absurd rfl hq
    | q+2,_=>exact congrArg (fun R=>HP.abs (ay R)) (kK rfl rfl)) hj hn
  obtain⟨w',m1,m2,m3⟩:=(uT hS hp hd).store vV Tryz.underlying77 (by unfold maxLen;omega) (ye (p:=name) (by omega)) (dh L t)
  have e1:(gi L (obj O x).ah) (.string name.data.toList)=none:=by rw [o3,hno];rfl
  rw [e1,G9 hno] at m2
  have rz:Sat β (hps.set i (.abs (ay (cE (aA O x (fun o=>{ o with ah:=eH name t o.ah })) L)))) w':=hS.set hp (fun F hF=>ay.step (k:=x) (show (ay (cE O L)).h F w from hF) (fun y hy=>tG hy) (fun G hG=>by
    rw [lW hd] at hG
    rw [lW (by rw [bB];exact hd),bB,Ba]
    exact step_map hG m2 m3))
  rw [drop_cons g1]
  unfold wpList
  rw [dQ,if_pos g2]
  refine .inl (iP (v:=undef) (w':=w') (by
    rw [dH]
    refine .inr ⟨rfl,?_⟩
    obtain⟨dst,op,type,pos,after,guard⟩:=o
    cases g3
    simp only [execOp,h2,h3,h4]
    simp [go_sem,m1]) ?_)
  rw [dF]
  have hK:=K _ rfl junk _ (by rw [Bg];exact rz)
  rw [← g4] at hK
  exact hK
theorem Hj {junk:Nat->Value} {T K0:TypeId} {b:Nat} {key:Value} (h:D3 N junk ops fr k=some (T,K0,b,key)):∃ a y,dR N junk ops fr k=some (.call ⟨.builtin .delete,#[a,y],#[T,K0]⟩,gF ops k)/\cP N fr junk a=.map (some b)/\cP N fr junk y=key:=by
  unfold D3 at h
  repeat' split at h
  all_goals first|(cases h;done)|skip
  rename_i xs ts d h0 _ a y h1 _ t' K' h2 _ b' h3
  cases h
  have:=ru h0
  subst this
  refine⟨a,y,?_,h3,rfl⟩
  rw [h0]
  obtain⟨xs⟩:=xs
  obtain⟨ts⟩:=ts
  cases h1
  cases h2
  rfl
theorem K5 (i:Nat) (js:List (Nat×Nat)) {t:Th} (hd:(obj O x).kind=2) (rW:aP name (obj O x).ah=some t) (hnt:lV (obj O x).ah)
    (K:∀ O2,O2=aA O x (fun o=>{ o with ah:=eT name o.ah })->ak Tryz.prog β N ops (k+1) (cU fr (gF ops k) (.tuple #[])) ((kI hps (mY O2 L js)).set i (.abs (ay (cE O2 L)))) Q)
    (hp:hps[i]?=some (.abs (ay (cE O L))):=by rfl) (hj:qt hps O L js:=by first|exact⟨rfl,trivial⟩|exact⟨rfl,rfl,trivial⟩|exact trivial)
    (ho:∀ junk,D3 N junk ops fr k=some (77,9,L.m x,.string name):=by intro _;kernel_rfl) (hn:iQ 1 (js.map (·.2))=false:=by rfl) (hsz:name.size<=1048576:=by omega):ak Tryz.prog β N ops k fr hps Q:=by
  intro junk w hS
  obtain⟨a,y,h1,h2,h3⟩:=Hj (ho junk)
  obtain⟨o,g1,g2,g3,g4⟩:=dm h1
  have Bg:kI hps (mY (aA O x (fun o=>{ o with ah:=eT name o.ah })) L js)=hps:=rf (p:=1) (fun q hq=>by
    match q,hq with
    | 0,_=>exact congrArg (fun R=>HP.abs (ay R)) (Bc (es:=fun o=>eT name o.ah))
    | 1,hq=>exact absurd rfl hq
    | q+2,_=>exact congrArg (fun R=>HP.abs (ay R)) (kK rfl rfl)) hj hn
  obtain⟨w',m1,m2,m3⟩:=(uT hS hp hd).drop vV Tryz.underlying77 (ye (p:=name) (by omega)) o.type
  have e1:(gi L (obj O x).ah) (.string name.data.toList)=some (dh L t):=by rw [o3,rW];rfl
  rw [e1,He] at m2
  have hlen:=G8 hnt rW
  have rz:Sat β (hps.set i (.abs (ay (cE (aA O x (fun o=>{ o with ah:=eT name o.ah })) L)))) w':=hS.set hp (fun F hF=>ay.step (k:=x) (show (ay (cE O L)).h F w from hF) (fun y hy=>tG hy) (fun G hG=>by
    rw [lW hd] at hG
    rw [lW (by rw [bB];exact hd),bB]
    rw [show (eT name (obj O x).ah).length=(obj O x).ah.length - 1 by omega]
    exact step_map hG m2 m3))
  rw [drop_cons g1]
  unfold wpList
  rw [dQ,if_pos g2]
  refine .inl (iP (v:=.tuple #[]) (w':=w') (by
    rw [dH]
    refine .inl ?_
    obtain⟨dst,op,type,pos,after,guard⟩:=o
    cases g3
    simp only [execOp,resolve,invoke,builtin]
    simp [go_sem,h2,h3,m1]) ?_)
  rw [dF]
  have hK:=K _ rfl junk _ (by rw [Bg];exact rz)
  rw [← g4] at hK
  exact hK
end rules
section after
variable {O O2:bO} {j x:Nat} {f:aO->aO} {kd:Int}
theorem ku (e:O2=aA O j f) (h:(obj O x).kind=kd) (hf:∀ o,(f o).kind=o.kind:=by intro _;rfl):(obj O2 x).kind=kd:=by subst e;exact (iD hf).trans h
theorem fu {α:Type} (g:aO->α) {v:α} (e:O2=aA O j f) (h:g (obj O x)=v) (hf:∀ o,g (f o)=g o:=by intro _;rfl):g (obj O2 x)=v:=by subst e;exact (cX hf).trans h
end after
end
section
open Go.RowKit Go.Maps
attribute [local irreducible] ak aK af ai
theorem cJ {β:Bs} (b:Nat):Spec Tryz.prog β 165 #[vP b] [] (fun v l=>v=vP b/\l=[]):=by
 refine Spec.enter Tryz.func165 rfl Tryz.ntmps165 (Nat.le_of_ble_eq_true rfl) (fun R=>?_)
 refine SR (gK 1 [] [] ?_)
 refine NS (gK 2 [(2,vP b)] [] ?_)
 refine NN (af.ret ?_)
 exact RT (vP b) [0] (⟨rfl,rfl⟩)
theorem kg {β:Bs} (a:Value):Spec Tryz.prog β 164 #[a] [] (fun v l=>v=vI 1/\l=[]):=by
 refine Spec.enter Tryz.func164 rfl Tryz.ntmps164 (Nat.le_of_ble_eq_true rfl) (fun R=>?_)
 refine SR (gK 1 [] [] ?_)
 refine NS (gK 1 [(2,vI 1)] [] ?_)
 refine NN (af.ret ?_)
 exact RT (vI 1) [0] (⟨rfl,rfl⟩)
theorem ko {β:Bs} (a:Value):Spec Tryz.prog β 167 #[a] [] (fun v l=>v=vI 2/\l=[]):=by
 refine Spec.enter Tryz.func167 rfl Tryz.ntmps167 (Nat.le_of_ble_eq_true rfl) (fun R=>?_)
 refine SR (gK 1 [] [] ?_)
 refine NS (gK 1 [(2,vI 2)] [] ?_)
 refine NN (af.ret ?_)
 exact RT (vI 2) [0] (⟨rfl,rfl⟩)
theorem lH {β:Bs} (a:Value):Spec Tryz.prog β 166 #[a] [] (fun v l=>v=vI 3/\l=[]):=by
 refine Spec.enter Tryz.func166 rfl Tryz.ntmps166 (Nat.le_of_ble_eq_true rfl) (fun R=>?_)
 refine SR (gK 1 [] [] ?_)
 refine NS (gK 1 [(2,vI 3)] [] ?_)
 refine NN (af.ret ?_)
 exact RT (vI 3) [0] (⟨rfl,rfl⟩)
theorem Di {β:Bs} (O:bO) (L:HL) (d:Nat) (hkd:(obj O d).kind=2) (name:ByteArray) (hsz:name.size<=1048576) (hno:aP name (obj O d).ah=none) (hel:(obj O d).ah.length<=1048576) (t:Th) (hkt:(obj O t.k).kind=t.kind) (h3:t.kind=1\/t.kind=2\/t.kind=3) (hb:0<=(obj O t.k).links/\(obj O t.k).links<=1048576) :
    Spec Tryz.prog β 19 #[vP (L.b d),.string name,(dh L t)] [.abs (ay (bD O L)),.abs (ay (cE O L))] (fun v l=>v=.tuple #[]/\l=[.abs (ay (bD (mz O d name t) L)),.abs (ay (cE (mz O d name t) L))]):=by
 refine Spec.enter Tryz.func19 rfl Tryz.ntmps19 (Nat.le_of_ble_eq_true rfl) (fun R=>?_)
 refine af.seq ?_
 obtain⟨tk,kd⟩:=t;simp only at hkt h3;rcases h3 with rfl|rfl|rfl
 ·replace hkt:(obj O tk).kind=1:=hkt
  replace hb:0<=(obj O tk).links/\(obj O tk).links<=1048576:=hb
  refine af.region (gK 6 [(11,.map (some (L.m d))),(12,.string name),(13,.iface 69 (vP (L.b tk)))] [(3,v_ 0 (br L hkd))] ?_)
  refine K3 1 [(0,0)] (t:=⟨tk,1⟩) hkd hno (fun bR bJ=>?_)
  have iJ:=ku bJ hkd
  have kq:=ku bJ hkt
  have hf3:(obj bR tk).links=(obj O tk).links:=fu aO.links bJ rfl
  refine NS (gK 1 [(14,.iface 69 (vP (L.b tk)))] [] ?_)
  refine gL [] (cJ (L.b tk)) ?_
  rintro _ _ ⟨rfl,rfl⟩
  refine gK 6 [(19,vI ((obj bR tk).links+1)),(21,.pointer (some ⟨(L.b tk),6,none⟩))] [(2,v_ 0 (kM L kq)),(3,p_ ⟨[],none,none,none,some (vI ((obj bR tk).links+1))⟩ [(Value.int .i64 (IntKind.wrap .i64 ((obj bR tk).links+1)))=(.int .i64 ((obj bR tk).links+1))] ⟨aU (by omega) (by omega) (by omega),trivial⟩)] ?_
  refine pQ 0 [(1,1)] tk 6 (fun o=>{ o with links:=o.links+1 }) kq (fun dx cM=>?_)
  have tM:=ku cM iJ
  have tN:=ku cM kq
  refine NS (gK 7 [(6,.pointer none),(7,.bool false)] [] ?_)
  refine NS (gK 1 [(27,.bool false)] [] ?_)
  refine NN (CF (af.skip ?_))
  exact RF (l:=[.abs (ay (bD dx L)),.abs (ay (cE dx L))]) (.tuple #[]) [0,1,2] (⟨rfl,by subst cM;subst bJ;rfl⟩)
 ·replace hkt:(obj O tk).kind=2:=hkt
  replace hb:0<=(obj O tk).links/\(obj O tk).links<=1048576:=hb
  refine af.region (gK 6 [(11,.map (some (L.m d))),(12,.string name),(13,.iface 76 (vP (L.b tk)))] [(3,v_ 0 (br L hkd))] ?_)
  refine K3 1 [(0,0)] (t:=⟨tk,2⟩) hkd hno (fun bR bJ=>?_)
  have Hl:=ku bJ hkd
  have D6:=ku bJ hkt
  have Qb:(obj bR tk).links=(obj O tk).links:=fu aO.links bJ rfl
  refine NS (gK 1 [(14,.iface 76 (vP (L.b tk)))] [] ?_)
  refine gL [] (cJ (L.b tk)) ?_
  rintro _ _ ⟨rfl,rfl⟩
  refine gK 6 [(19,vI ((obj bR tk).links+1)),(21,.pointer (some ⟨(L.b tk),6,none⟩))] [(2,v_ 0 (kM L D6)),(3,p_ ⟨[],none,none,none,some (vI ((obj bR tk).links+1))⟩ [(Value.int .i64 (IntKind.wrap .i64 ((obj bR tk).links+1)))=(.int .i64 ((obj bR tk).links+1))] ⟨aU (by omega) (by omega) (by omega),trivial⟩)] ?_
  refine pQ 0 [(1,1)] tk 6 (fun o=>{ o with links:=o.links+1 }) D6 (fun dx cM=>?_)
  have yh:=ku cM Hl
  have D7:=ku cM D6
  refine NS (gK 7 [(6,vP (L.b tk)),(7,.bool true)] [] ?_)
  refine NS (gK 1 [(27,.bool true)] [] ?_)
  refine NN (CT (af.region (gK 4 [(29,vP (L.b d)),(31,.pointer (some ⟨(L.b tk),10,none⟩))] [] ?_)))
  refine Nc 0 [(1,1)] tk (some d) D7 (fun rA jV=>?_)
  have Jq:=ku jV yh
  have Pw:=ku jV D7
  refine NL ?_
  exact RF (l:=[.abs (ay (bD rA L)),.abs (ay (cE rA L))]) (.tuple #[]) [0,1,2] (⟨rfl,by subst jV;subst cM;subst bJ;rfl⟩)
 replace hkt:(obj O tk).kind=3:=hkt
 replace hb:0<=(obj O tk).links/\(obj O tk).links<=1048576:=hb
 refine af.region (gK 6 [(11,.map (some (L.m d))),(12,.string name),(13,.iface 73 (vP (L.b tk)))] [(3,v_ 0 (br L hkd))] ?_)
 refine K3 1 [(0,0)] (t:=⟨tk,3⟩) hkd hno (fun bR bJ=>?_)
 have MC:=ku bJ hkd
 have D8:=ku bJ hkt
 have PN:(obj bR tk).links=(obj O tk).links:=fu aO.links bJ rfl
 refine NS (gK 1 [(14,.iface 73 (vP (L.b tk)))] [] ?_)
 refine gL [] (cJ (L.b tk)) ?_
 rintro _ _ ⟨rfl,rfl⟩
 refine gK 6 [(19,vI ((obj bR tk).links+1)),(21,.pointer (some ⟨(L.b tk),6,none⟩))] [(2,v_ 0 (kM L D8)),(3,p_ ⟨[],none,none,none,some (vI ((obj bR tk).links+1))⟩ [(Value.int .i64 (IntKind.wrap .i64 ((obj bR tk).links+1)))=(.int .i64 ((obj bR tk).links+1))] ⟨aU (by omega) (by omega) (by omega),trivial⟩)] ?_
 refine pQ 0 [(1,1)] tk 6 (fun o=>{ o with links:=o.links+1 }) D8 (fun dx cM=>?_)
 have wZ:=ku cM MC
 have ME:=ku cM D8
 refine NS (gK 7 [(6,.pointer none),(7,.bool false)] [] ?_)
 refine NS (gK 1 [(27,.bool false)] [] ?_)
 refine NN (CF (af.skip ?_))
 exact RF (l:=[.abs (ay (bD dx L)),.abs (ay (cE dx L))]) (.tuple #[]) [0,1,2] (⟨rfl,by subst cM;subst bJ;rfl⟩)
theorem fW {β:Bs} (X:FM) (f m t:Nat) (hX:0<=X.ah/\X.ah<=1048576/\-1125899906842624<=X.used/\X.used<=1125899906842624/\0<=X.last/\X.last<=1125899906842624) (O:bO) (L:HL) (d:Nat) (hkd:(obj O d).kind=2) (name:ByteArray) (hsz:name.size<=1048576) (hno:aP name (obj O d).ah=none) (hel:(obj O d).ah.length<=1048576) (th:Th) (hkt:(obj O th.k).kind=th.kind) (h3:th.kind=1\/th.kind=2\/th.kind=3) (hb:0<=(obj O th.k).links/\(obj O th.k).links<=1048576) :
    Spec Tryz.prog β 75 #[vP f,vP (L.b d),.string name,(dh L th)] [.blk f [vI (X.cN),vI (X.cB),vI (X.cH),vI (X.cS),vI (X.cZ),.map (some m),vP t,vI (X.last),vI (X.ah),vI (X.used)] 66,.abs (ay (bD O L)),.abs (ay (cE O L))] (fun v l=>v=.tuple #[]/\l=[.blk f [vI (X.cN),vI (X.cB),vI (X.cH),vI (X.cS),vI (X.cZ),.map (some m),vP t,vI (X.last),vI (X.ah+1),vI (X.used)] 66,.abs (ay (bD (cC X O d name th) L)),.abs (ay (cE (cC X O d name th) L))]):=by
 refine Spec.enter Tryz.func75 rfl Tryz.ntmps75 (Nat.le_of_ble_eq_true rfl) (fun R=>?_)
 refine af.seq ?_
 skip
 refine af.region (gK 3 [(8,vP (L.b d)),(9,.string name),(10,(dh L th))] [] ?_)
 refine gL [1,2] (Di O L d hkd name hsz hno hel th hkt h3 hb) ?_
 rintro _ _ ⟨rfl,rfl⟩
 refine NS ?_
 have w9:(obj (mz O d name th) d).kind=2:=(tJ).trans (hkd)
 generalize bJ:(mz O d name th)=bR at w9 ⊢
 refine gK 9 [(17,.agg #[vI (X.cS),vI (X.cZ)]),(20,.pointer (some ⟨(L.b d),4,none⟩))] [(5,A_ 2 f 2)] ?_
 refine FE 0 [(1,1)] d X.cS X.cZ w9 (fun dx cM=>?_)
 have Px:=ku cM w9
 refine NN (af.region (gC 8 [] [(3,a_ 2 f),(4,p_ ⟨[],none,none,none,some (vI (X.ah+1))⟩ [(Value.int .i64 (IntKind.wrap .i64 (X.ah+1)))=(.int .i64 (X.ah+1))] ⟨aU (by omega) (by omega) (by omega),trivial⟩),(7,a_ 2 f)] [(2,[(8,vI (X.ah+1))])] ?_))
 refine NL ?_
 exact RF (l:=[.blk f [vI (X.cN),vI (X.cB),vI (X.cH),vI (X.cS),vI (X.cZ),.map (some m),vP t,vI (X.last),vI (X.ah+1),vI (X.used)] 66,.abs (ay (bD dx L)),.abs (ay (cE dx L))]) (.tuple #[]) [2,0,1,3] (⟨rfl,by subst cM;subst bJ;rfl⟩)
theorem iz {β:Bs} (X:FM) (f m t:Nat) (hX:0<=X.ah/\X.ah<=1048576/\-1125899906842624<=X.used/\X.used<=1125899906842624/\0<=X.last/\X.last<=1125899906842624) (O:bO) (L:HL) (d:Nat) (hkd:(obj O d).kind=2) (name:ByteArray) (hsz:name.size<=1048576) (th:Th) (hkt:(obj O th.k).kind=th.kind) (h3:th.kind=1\/th.kind=2\/th.kind=3) (rW:aP name (obj O d).ah=some th) (hnt:lV (obj O d).ah) (_:(obj O d).ah.length<=1048576) (hb:0<=(obj O th.k).links/\(obj O th.k).links<=1048576) :
    Spec Tryz.prog β 97 #[vP f,vP (L.b d),.string name] [.blk f [vI (X.cN),vI (X.cB),vI (X.cH),vI (X.cS),vI (X.cZ),.map (some m),vP t,vI (X.last),vI (X.ah),vI (X.used)] 66,.abs (ay (bD O L)),.abs (ay (cE O L))] (fun v l=>v=dh L th/\l=[.blk f [vI (X.cN),vI (X.cB),vI (X.cH),vI (X.cS),vI (X.cZ),.map (some m),vP t,vI (X.last),vI (X.ah - 1),vI (X.used)] 66,.abs (ay (bD (aM X O d name th) L)),.abs (ay (cE (aM X O d name th) L))]):=by
 refine Spec.enter Tryz.func97 rfl Tryz.ntmps97 (Nat.le_of_ble_eq_true rfl) (fun R=>?_)
 refine af.seq ?_
 obtain⟨tk,kd⟩:=th;simp only at hkt h3;rcases h3 with rfl|rfl|rfl
 ·replace hkt:(obj O tk).kind=1:=hkt
  replace hb:0<=(obj O tk).links/\(obj O tk).links<=1048576:=hb
  refine af.region (gK 1 [] [] ?_)
  refine NS (gK 5 [(11,.map (some (L.m d))),(12,.string name)] [(3,v_ 1 (br L hkd))] ?_)
  refine iE 2 hkd rW ?_
  refine gK 1 [(7,.iface 69 (vP (L.b tk)))] [] ?_
  refine NS (gK 5 [(17,.map (some (L.m d))),(18,.string name)] [(3,v_ 1 (br L hkd))] ?_)
  refine K5 2 [(1,0)] hkd rW hnt (fun bR bJ=>?_)
  have Jr:=ku bJ hkd
  have MF:=ku bJ hkt
  have NZ:(obj bR tk).links=(obj O tk).links:=fu aO.links bJ rfl
  refine NS (gK 9 [(24,.agg #[vI (X.cS),vI (X.cZ)]),(27,.pointer (some ⟨(L.b d),4,none⟩))] [(5,A_ 0 f 2)] ?_)
  refine FE 1 [(2,1)] d X.cS X.cZ Jr (fun dx cM=>?_)
  have Js:=ku cM Jr
  have zZ:=ku cM MF
  have PO:(obj dx tk).links=(obj O tk).links:=fu aO.links cM NZ
  refine NS (gC 8 [] [(3,a_ 0 f),(4,p_ ⟨[],none,none,none,some (vI (X.ah - 1))⟩ [(Value.int .i64 (IntKind.wrap .i64 (X.ah - 1)))=(.int .i64 (X.ah - 1))] ⟨aU (by omega) (by omega) (by omega),trivial⟩),(7,a_ 0 f)] [(0,[(8,vI (X.ah - 1))])] ?_)
  refine NS (gK 1 [(35,.iface 69 (vP (L.b tk)))] [] ?_)
  refine gL [] (cJ (L.b tk)) ?_
  rintro _ _ ⟨rfl,rfl⟩
  refine gK 6 [(40,vI ((obj dx tk).links - 1)),(42,.pointer (some ⟨(L.b tk),6,none⟩))] [(2,v_ 1 (kM L zZ)),(3,p_ ⟨[],none,none,none,some (vI ((obj dx tk).links - 1))⟩ [(Value.int .i64 (IntKind.wrap .i64 ((obj dx tk).links - 1)))=(.int .i64 ((obj dx tk).links - 1))] ⟨aU (by omega) (by omega) (by omega),trivial⟩)] ?_
  refine pQ 1 [(2,1)] tk 6 (fun o=>{ o with links:=o.links - 1 }) zZ (fun rA jV=>?_)
  have Py:=ku jV Js
  have Pz:=ku jV zZ
  refine NS (gK 2 [(6,.iface 69 (vP (L.b tk)))] [] ?_)
  refine NN (af.ret ?_)
  exact RT (l:=[.blk f [vI (X.cN),vI (X.cB),vI (X.cH),vI (X.cS),vI (X.cZ),.map (some m),vP t,vI (X.last),vI (X.ah - 1),vI (X.used)] 66,.abs (ay (bD rA L)),.abs (ay (cE rA L))]) (.iface 69 (vP (L.b tk))) [0,1,2,3] (⟨rfl,by subst jV;subst cM;subst bJ;rfl⟩)
 ·replace hkt:(obj O tk).kind=2:=hkt
  replace hb:0<=(obj O tk).links/\(obj O tk).links<=1048576:=hb
  refine af.region (gK 1 [] [] ?_)
  refine NS (gK 5 [(11,.map (some (L.m d))),(12,.string name)] [(3,v_ 1 (br L hkd))] ?_)
  refine iE 2 hkd rW ?_
  refine gK 1 [(7,.iface 76 (vP (L.b tk)))] [] ?_
  refine NS (gK 5 [(17,.map (some (L.m d))),(18,.string name)] [(3,v_ 1 (br L hkd))] ?_)
  refine K5 2 [(1,0)] hkd rW hnt (fun bR bJ=>?_)
  have Jt:=ku bJ hkd
  have MG:=ku bJ hkt
  have N0:(obj bR tk).links=(obj O tk).links:=fu aO.links bJ rfl
  refine NS (gK 9 [(24,.agg #[vI (X.cS),vI (X.cZ)]),(27,.pointer (some ⟨(L.b d),4,none⟩))] [(5,A_ 0 f 2)] ?_)
  refine FE 1 [(2,1)] d X.cS X.cZ Jt (fun dx cM=>?_)
  have MH:=ku cM Jt
  have D9:=ku cM MG
  have PS:(obj dx tk).links=(obj O tk).links:=fu aO.links cM N0
  refine NS (gC 8 [] [(3,a_ 0 f),(4,p_ ⟨[],none,none,none,some (vI (X.ah - 1))⟩ [(Value.int .i64 (IntKind.wrap .i64 (X.ah - 1)))=(.int .i64 (X.ah - 1))] ⟨aU (by omega) (by omega) (by omega),trivial⟩),(7,a_ 0 f)] [(0,[(8,vI (X.ah - 1))])] ?_)
  refine NS (gK 1 [(35,.iface 76 (vP (L.b tk)))] [] ?_)
  refine gL [] (cJ (L.b tk)) ?_
  rintro _ _ ⟨rfl,rfl⟩
  refine gK 6 [(40,vI ((obj dx tk).links - 1)),(42,.pointer (some ⟨(L.b tk),6,none⟩))] [(2,v_ 1 (kM L D9)),(3,p_ ⟨[],none,none,none,some (vI ((obj dx tk).links - 1))⟩ [(Value.int .i64 (IntKind.wrap .i64 ((obj dx tk).links - 1)))=(.int .i64 ((obj dx tk).links - 1))] ⟨aU (by omega) (by omega) (by omega),trivial⟩)] ?_
  refine pQ 1 [(2,1)] tk 6 (fun o=>{ o with links:=o.links - 1 }) D9 (fun rA jV=>?_)
  have PA:=ku jV MH
  have PB:=ku jV D9
  refine NS (gK 2 [(6,.iface 76 (vP (L.b tk)))] [] ?_)
  refine NN (af.ret ?_)
  exact RT (l:=[.blk f [vI (X.cN),vI (X.cB),vI (X.cH),vI (X.cS),vI (X.cZ),.map (some m),vP t,vI (X.last),vI (X.ah - 1),vI (X.used)] 66,.abs (ay (bD rA L)),.abs (ay (cE rA L))]) (.iface 76 (vP (L.b tk))) [0,1,2,3] (⟨rfl,by subst jV;subst cM;subst bJ;rfl⟩)
 replace hkt:(obj O tk).kind=3:=hkt
 replace hb:0<=(obj O tk).links/\(obj O tk).links<=1048576:=hb
 refine af.region (gK 1 [] [] ?_)
 refine NS (gK 5 [(11,.map (some (L.m d))),(12,.string name)] [(3,v_ 1 (br L hkd))] ?_)
 refine iE 2 hkd rW ?_
 refine gK 1 [(7,.iface 73 (vP (L.b tk)))] [] ?_
 refine NS (gK 5 [(17,.map (some (L.m d))),(18,.string name)] [(3,v_ 1 (br L hkd))] ?_)
 refine K5 2 [(1,0)] hkd rW hnt (fun bR bJ=>?_)
 have Ju:=ku bJ hkd
 have MI:=ku bJ hkt
 have N5:(obj bR tk).links=(obj O tk).links:=fu aO.links bJ rfl
 refine NS (gK 9 [(24,.agg #[vI (X.cS),vI (X.cZ)]),(27,.pointer (some ⟨(L.b d),4,none⟩))] [(5,A_ 0 f 2)] ?_)
 refine FE 1 [(2,1)] d X.cS X.cZ Ju (fun dx cM=>?_)
 have MJ:=ku cM Ju
 have Ea:=ku cM MI
 have PU:(obj dx tk).links=(obj O tk).links:=fu aO.links cM N5
 refine NS (gC 8 [] [(3,a_ 0 f),(4,p_ ⟨[],none,none,none,some (vI (X.ah - 1))⟩ [(Value.int .i64 (IntKind.wrap .i64 (X.ah - 1)))=(.int .i64 (X.ah - 1))] ⟨aU (by omega) (by omega) (by omega),trivial⟩),(7,a_ 0 f)] [(0,[(8,vI (X.ah - 1))])] ?_)
 refine NS (gK 1 [(35,.iface 73 (vP (L.b tk)))] [] ?_)
 refine gL [] (cJ (L.b tk)) ?_
 rintro _ _ ⟨rfl,rfl⟩
 refine gK 6 [(40,vI ((obj dx tk).links - 1)),(42,.pointer (some ⟨(L.b tk),6,none⟩))] [(2,v_ 1 (kM L Ea)),(3,p_ ⟨[],none,none,none,some (vI ((obj dx tk).links - 1))⟩ [(Value.int .i64 (IntKind.wrap .i64 ((obj dx tk).links - 1)))=(.int .i64 ((obj dx tk).links - 1))] ⟨aU (by omega) (by omega) (by omega),trivial⟩)] ?_
 refine pQ 1 [(2,1)] tk 6 (fun o=>{ o with links:=o.links - 1 }) Ea (fun rA jV=>?_)
 have PD:=ku jV MJ
 have PE:=ku jV Ea
 refine NS (gK 2 [(6,.iface 73 (vP (L.b tk)))] [] ?_)
 refine NN (af.ret ?_)
 exact RT (l:=[.blk f [vI (X.cN),vI (X.cB),vI (X.cH),vI (X.cS),vI (X.cZ),.map (some m),vP t,vI (X.last),vI (X.ah - 1),vI (X.used)] 66,.abs (ay (bD rA L)),.abs (ay (cE rA L))]) (.iface 73 (vP (L.b tk))) [0,1,2,3] (⟨rfl,by subst jV;subst cM;subst bJ;rfl⟩)
end
end Go.Proofs.YtaepnjbceganhaaGreat
section
namespace Go.Proofs
open Go.Shelf
def Tryz.keysI_ren:Go.Shelf.Ren:=⟨fun|7=>31|10=>59|n=>n,fun|23=>60|26=>3|3=>64|28=>95|0=>0|27=>94|33=>118|4=>4|n=>n,fun|n=>n⟩
theorem Tryz.keysI:Go.Proofs.SlLaysZI.n7 Tryz.prog Tryz.keysI_ren:={
  mixed:=by kernel_rfl
  f7:=⟨Tryz.f31.name,by decide,Tryz.func31.trans (congrArg some (by kernel_rfl))⟩
  f10:=⟨Tryz.f59.name,by decide,Tryz.func59.trans (congrArg some (by kernel_rfl))⟩
  t0:=Tryz.underlying0
  a0:=Tryz.isAgg0
  z0:=Tryz.sizeOf0
  v0:=Tryz.zeroValue0
  t4:=Tryz.underlying4
  a4:=Tryz.isAgg4
  z4:=Tryz.sizeOf4
  v4:=Tryz.zeroValue4
  t23:=Tryz.underlying60
  a23:=Tryz.isAgg60
  z23:=Tryz.sizeOf60
  v23:=Tryz.zeroValue60
  t26:=Tryz.underlying3
  a26:=Tryz.isAgg3
  z26:=Tryz.sizeOf3
  v26:=Tryz.zeroValue3
  t27:=Tryz.underlying94
  a27:=Tryz.isAgg94
  z27:=Tryz.sizeOf94
  v27:=Tryz.zeroValue94
  t28:=Tryz.underlying95
  a28:=Tryz.isAgg95
  z28:=Tryz.sizeOf95
  v28:=Tryz.zeroValue95
  t33:=Tryz.underlying118
  a33:=Tryz.isAgg118
  z33:=Tryz.sizeOf118
  v33:=Tryz.zeroValue118 }
def Tryz.sortedI_ren:Go.Shelf.Ren:=⟨fun|6=>30|8=>57|9=>58|11=>84|13=>86|12=>85|23=>107|24=>108|14=>98|15=>99|16=>100|17=>101|18=>102|19=>103|20=>104|21=>105|22=>106|25=>122|26=>123|27=>124|28=>125|29=>126|30=>127|31=>135|n=>n,fun|26=>3|28=>95|24=>37|0=>0|3=>3|37=>145|48=>164|50=>166|4=>4|40=>158|39=>157|45=>149|5=>5|9=>9|51=>179|55=>183|57=>191|58=>192|33=>118|n=>n,fun|n=>n⟩
theorem Tryz.sortedI:Go.Proofs.SlLaysZI.n6 Tryz.prog Tryz.sortedI_ren:={
  mixed:=by kernel_rfl
  f6:=⟨Tryz.f30.name,by decide,Tryz.func30.trans (congrArg some (by kernel_rfl))⟩
  f8:=⟨Tryz.f57.name,by decide,Tryz.func57.trans (congrArg some (by kernel_rfl))⟩
  f11:=⟨Tryz.f84.name,by decide,Tryz.func84.trans (congrArg some (by kernel_rfl))⟩
  t0:=Tryz.underlying0
  a0:=Tryz.isAgg0
  z0:=Tryz.sizeOf0
  v0:=Tryz.zeroValue0
  t24:=Tryz.underlying37
  a24:=Tryz.isAgg37
  z24:=Tryz.sizeOf37
  v24:=Tryz.zeroValue37
  t26:=Tryz.underlying3
  a26:=Tryz.isAgg3
  z26:=Tryz.sizeOf3
  v26:=Tryz.zeroValue3
  t28:=Tryz.underlying95
  a28:=Tryz.isAgg95
  z28:=Tryz.sizeOf95
  v28:=Tryz.zeroValue95
  i26:=by kernel_rfl }
def Tryz.sortI_ren:Go.Shelf.Ren:=⟨fun|5=>58|8=>86|7=>85|19=>107|20=>108|10=>98|11=>99|12=>100|13=>101|14=>102|15=>103|16=>104|17=>105|18=>106|30=>122|31=>123|32=>124|33=>125|34=>126|35=>127|40=>135|n=>n,fun|23=>37|25=>3|3=>3|32=>145|22=>37|0=>0|44=>164|46=>166|4=>4|36=>158|35=>157|41=>149|5=>5|9=>9|53=>179|57=>183|63=>191|64=>192|n=>n,fun|n=>n⟩
theorem Tryz.sortI:Go.Proofs.SlLaysM.n5 Tryz.prog Tryz.sortI_ren:={
  mixed:=by kernel_rfl
  f5:=⟨Tryz.f58.name,by decide,Tryz.func58.trans (congrArg some (by kernel_rfl))⟩
  f7:=⟨Tryz.f85.name,by decide,Tryz.func85.trans (congrArg some (by kernel_rfl))⟩
  f8:=Tryz.func86.trans (congrArg some (by kernel_rfl))
  f10:=⟨Tryz.f98.name,by decide,Tryz.func98.trans (congrArg some (by kernel_rfl))⟩
  f11:=⟨Tryz.f99.name,by decide,Tryz.func99.trans (congrArg some (by kernel_rfl))⟩
  f12:=⟨Tryz.f100.name,by decide,Tryz.func100.trans (congrArg some (by kernel_rfl))⟩
  f13:=⟨Tryz.f101.name,by decide,Tryz.func101.trans (congrArg some (by kernel_rfl))⟩
  f14:=⟨Tryz.f102.name,by decide,Tryz.func102.trans (congrArg some (by kernel_rfl))⟩
  f15:=⟨Tryz.f103.name,by decide,Tryz.func103.trans (congrArg some (by kernel_rfl))⟩
  f16:=⟨Tryz.f104.name,by decide,Tryz.func104.trans (congrArg some (by kernel_rfl))⟩
  f17:=⟨Tryz.f105.name,by decide,Tryz.func105.trans (congrArg some (by kernel_rfl))⟩
  f18:=⟨Tryz.f106.name,by decide,Tryz.func106.trans (congrArg some (by kernel_rfl))⟩
  f19:=Tryz.func107.trans (congrArg some (by kernel_rfl))
  f20:=Tryz.func108.trans (congrArg some (by kernel_rfl))
  f30:=⟨Tryz.f122.name,by decide,Tryz.func122.trans (congrArg some (by kernel_rfl))⟩
  f31:=Tryz.func123.trans (congrArg some (by kernel_rfl))
  f32:=Tryz.func124.trans (congrArg some (by kernel_rfl))
  f33:=⟨Tryz.f125.name,by decide,Tryz.func125.trans (congrArg some (by kernel_rfl))⟩
  f34:=⟨Tryz.f126.name,by decide,Tryz.func126.trans (congrArg some (by kernel_rfl))⟩
  f35:=⟨Tryz.f127.name,by decide,Tryz.func127.trans (congrArg some (by kernel_rfl))⟩
  f40:=⟨Tryz.f135.name,by decide,Tryz.func135.trans (congrArg some (by kernel_rfl))⟩
  t0:=Tryz.underlying0
  a0:=Tryz.isAgg0
  z0:=Tryz.sizeOf0
  v0:=Tryz.zeroValue0
  t3:=Tryz.underlying3
  a3:=Tryz.isAgg3
  z3:=Tryz.sizeOf3
  v3:=Tryz.zeroValue3
  t4:=Tryz.underlying4
  a4:=Tryz.isAgg4
  z4:=Tryz.sizeOf4
  v4:=Tryz.zeroValue4
  t5:=Tryz.underlying5
  a5:=Tryz.isAgg5
  z5:=Tryz.sizeOf5
  v5:=Tryz.zeroValue5
  t9:=Tryz.underlying9
  a9:=Tryz.isAgg9
  z9:=Tryz.sizeOf9
  v9:=Tryz.zeroValue9
  t22:=Tryz.underlying37
  a22:=Tryz.isAgg37
  z22:=Tryz.sizeOf37
  v22:=Tryz.zeroValue37
  t23:=Tryz.underlying37
  a23:=Tryz.isAgg37
  z23:=Tryz.sizeOf37
  v23:=Tryz.zeroValue37
  t25:=Tryz.underlying3
  a25:=Tryz.isAgg3
  z25:=Tryz.sizeOf3
  v25:=Tryz.zeroValue3
  t32:=Tryz.underlying145
  a32:=Tryz.isAgg145
  z32:=Tryz.sizeOf145
  v32:=Tryz.zeroValue145
  t35:=Tryz.underlying157
  a35:=Tryz.isAgg157
  z35:=Tryz.sizeOf157
  v35:=Tryz.zeroValue157
  t36:=Tryz.underlying158
  a36:=Tryz.isAgg158
  z36:=Tryz.sizeOf158
  v36:=Tryz.zeroValue158
  t41:=Tryz.underlying149
  a41:=Tryz.isAgg149
  z41:=Tryz.sizeOf149
  v41:=Tryz.zeroValue149
  t44:=Tryz.underlying164
  a44:=Tryz.isAgg164
  z44:=Tryz.sizeOf164
  v44:=Tryz.zeroValue164
  t46:=Tryz.underlying166
  a46:=Tryz.isAgg166
  z46:=Tryz.sizeOf166
  v46:=Tryz.zeroValue166
  t53:=Tryz.underlying179
  a53:=Tryz.isAgg179
  z53:=Tryz.sizeOf179
  v53:=Tryz.zeroValue179
  t57:=Tryz.underlying183
  a57:=Tryz.isAgg183
  z57:=Tryz.sizeOf183
  v57:=Tryz.zeroValue183
  t63:=Tryz.underlying191
  a63:=Tryz.isAgg191
  z63:=Tryz.sizeOf191
  v63:=Tryz.zeroValue191
  t64:=Tryz.underlying192
  a64:=Tryz.isAgg192
  z64:=Tryz.sizeOf192
  v64:=Tryz.zeroValue192 }
end Go.Proofs
end
namespace Go.Proofs.YtaepnjbceganhaaGreat
section
open Go.RowKit
theorem MK (a:Addr) (v:Value) (w:World) (h:w.cell? a=some v):(Go.method 319 154 (.pointer (some a)) "Len").run Tryz.prog w=.ok (168,v) w:=by
  have e:(Go.method 319 154 (.pointer (some a)) "Len").run Tryz.prog w=((loadVar 108 a) >>= fun v=>pure (168,v):Sem (FuncId×Value)).run Tryz.prog w:=by kernel_rfl
  rw [e]
  simp [loadVar,isAgg,underlying,Tryz.underlying108,h,Result.andThen]
theorem K6 (a:Addr) (v:Value) (w:World) (h:w.cell? a=some v):(Go.method 319 154 (.pointer (some a)) "Less").run Tryz.prog w=.ok (169,v) w:=by
  have e:(Go.method 319 154 (.pointer (some a)) "Less").run Tryz.prog w=((loadVar 108 a) >>= fun v=>pure (169,v):Sem (FuncId×Value)).run Tryz.prog w:=by kernel_rfl
  rw [e]
  simp [loadVar,isAgg,underlying,Tryz.underlying108,h,Result.andThen]
theorem K7 (a:Addr) (v:Value) (w:World) (h:w.cell? a=some v):(Go.method 319 154 (.pointer (some a)) "Swap").run Tryz.prog w=.ok (170,v) w:=by
  have e:(Go.method 319 154 (.pointer (some a)) "Swap").run Tryz.prog w=((loadVar 108 a) >>= fun v=>pure (170,v):Sem (FuncId×Value)).run Tryz.prog w:=by kernel_rfl
  rw [e]
  simp [loadVar,isAgg,underlying,Tryz.underlying108,h,Result.andThen]
theorem K8 (a:Addr) (w:World):(Go.method 319 154 (.pointer (some a)) "Push").run Tryz.prog w=.ok (172,.pointer (some a)) w:=by kernel_rfl
theorem ML (a:Addr) (w:World):(Go.method 319 154 (.pointer (some a)) "Pop").run Tryz.prog w=.ok (171,.pointer (some a)) w:=by kernel_rfl
theorem Jv (a:Addr) (w:World):(Go.nilAhead 319 154 (.pointer (some a)) "Len").run Tryz.prog w=.ok (some false) w:=by kernel_rfl
theorem FJ (a:Addr) (w:World):(Go.nilAhead 319 154 (.pointer (some a)) "Less").run Tryz.prog w=.ok (some false) w:=by kernel_rfl
theorem Bj (a:Addr) (w:World):(Go.nilAhead 319 154 (.pointer (some a)) "Swap").run Tryz.prog w=.ok (some false) w:=by kernel_rfl
theorem K9 (a:Addr) (w:World):(Go.nilAhead 319 154 (.pointer (some a)) "Push").run Tryz.prog w=.ok (some false) w:=by kernel_rfl
theorem MN (a:Addr) (w:World):(Go.nilAhead 319 154 (.pointer (some a)) "Pop").run Tryz.prog w=.ok (some false) w:=by kernel_rfl
theorem Bk (A:Option Addr) (n c:Nat) (w:World) :
    Calls Tryz.prog 168 #[.slice A n c] w fun e w'=>e=.returned (.int .i64 n)/\w'=w:=by
  go_enter Tryz.func168,Tryz.ntmps168
  go_wp2
  go_ret
  exact⟨rfl,rfl⟩
theorem FK (g n c i j:Nat) (x y:Int) (w:World) (hi:i < n) (hj:j < n) (ci:w.cell? ⟨g,i,none⟩=some (.int .i64 x)) (cj:w.cell? ⟨g,j,none⟩=some (.int .i64 y)) :
    Calls Tryz.prog 169 #[.slice (some ⟨g,0,none⟩) n c,.int .i64 i,.int .i64 j] w fun e w'=>e=.returned (.bool (decide (x < y)))/\∃ m,w'=w.drewN m:=by
  have hi':(i:Int) < (n:Int):=by omega
  have hj':(j:Int) < (n:Int):=by omega
  go_enter Tryz.func169,Tryz.ntmps169
  go_wp2_with fail
  go_quiet (fail)
  go_wp2_with fail
  go_ret
  exact⟨rfl,_,rfl⟩
theorem FL (g n c i j:Nat) (x y:Int) (w:World) (hi:i < n) (hj:j < n) (hij:i≠j) (ci:w.cell? ⟨g,i,none⟩=some (.int .i64 x)) (cj:w.cell? ⟨g,j,none⟩=some (.int .i64 y))
    (fi:w.frozen? ⟨g,i,none⟩=false) (fj:w.frozen? ⟨g,j,none⟩=false) :
    Calls Tryz.prog 170 #[.slice (some ⟨g,0,none⟩) n c,.int .i64 i,.int .i64 j] w fun e w'=>e=.returned (.tuple #[])/\∃ m,w'=((w.setCell ⟨g,i,none⟩ (.int .i64 y)).setCell ⟨g,j,none⟩ (.int .i64 x)).drewN m:=by
  have hi':(i:Int) < (n:Int):=by omega
  have hj':(j:Int) < (n:Int):=by omega
  go_enter Tryz.func170,Tryz.ntmps170
  go_wp2_with fail
  go_region
  go_end0
  exact⟨rfl,1,rfl⟩
theorem Ho:(Tryz.prog.info? 3).map (fun i=>(i.zero,i.size,i.bytes))=some (some (.int .i64 0),1,8):=by kernel_rfl
theorem Hq (t o g n c:Nat) (x:Int) (w:World) (hc:n+1<=c) (ht:w.cell? ⟨t,o,none⟩=some (.slice (some ⟨g,0,none⟩) (n+1) c)) (hf:w.frozen? ⟨t,o,none⟩=false)
    (hx:w.cell? ⟨g,n,none⟩=some (.int .i64 x)) (hm:n+1<=1048576) :
    Calls Tryz.prog 171 #[.pointer (some ⟨t,o,none⟩)] w fun e w'=>e=.returned (.iface 3 (.int .i64 x))/\w'=w.setCell ⟨t,o,none⟩ (.slice (some ⟨g,0,none⟩) n c):=by
  go_enter Tryz.func171,Tryz.ntmps171
  go_wp2_with fail
  go_ret
  exact⟨rfl,rfl⟩
theorem Eb (x:Int) (w:World):(Instr.typeAssert (.iface 3 (.int .i64 x)) 20 3 false).run Tryz.prog w=.ok (.int .i64 x) w:=by kernel_rfl
theorem CM (x:Int):∀ u∈[Value.int .i64 x],u.oneCell'=true:=by intro u hu;simp at hu;subst hu;rfl
theorem FN {t o:Nat} {v:Value} {w w1:World} {ob:Obj} (ht:w.cell? ⟨t,o,none⟩=some v) (hlt:t < w.heap.size) {row:Option Nat} (hne:row≠some t) (hg:(w.alloc ob).drew.grownBy w1 row):w1.cell? ⟨t,o,none⟩=some v:=by
  rw [hg.cell_far ⟨t,o,none⟩ (by show t < (w.alloc ob).heap.size;simp;omega) (fun e=>hne e.symm)]
  exact (World.cell?_alloc_lt w ob ⟨t,o,none⟩ hlt).trans ht
theorem FO {t o:Nat} {w w1:World} {ob:Obj} (hf:w.frozen? ⟨t,o,none⟩=false) (hlt:t < w.heap.size) {row:Option Nat} (hne:row≠some t) (hg:(w.alloc ob).drew.grownBy w1 row):w1.frozen? ⟨t,o,none⟩=false:=by
  rw [hg.frozen_far ⟨t,o,none⟩ (by show t < (w.alloc ob).heap.size;simp;omega) (fun e=>hne e.symm)]
  exact (World.frozen?_alloc_old w ob ⟨t,o,none⟩ (Nat.ne_of_lt hlt)).trans hf
theorem FP (t o base n:Nat) (v:Value) (xs:List Value) (x:Int) (w:World) (ht:w.cell? ⟨t,o,none⟩=some v) (hf:w.frozen? ⟨t,o,none⟩=false)
    (hown:w.ownsRow base 3 1 v n xs) (hne:v.ownBlock≠some t) (hm:n+1<=1048576) (hbase:base<=w.heap.size) :
    Calls Tryz.prog 172 #[.pointer (some ⟨t,o,none⟩),.iface 3 (.int .i64 x)] w fun e w'=>e=.returned (.tuple #[]) ∧
      ∃ g cap w1,w1.ownsRow base 3 1 (.slice (some ⟨g,0,none⟩) (n+1) cap) (n+1) (xs++[.int .i64 x])/\w.grownBy w1 v.ownBlock/\(v.ownBlock=some g\/w.heap.size<=g) ∧
        w'=w1.setCell ⟨t,o,none⟩ (.slice (some ⟨g,0,none⟩) (n+1) cap):=by
  obtain⟨i0,hi0,hz0,hz1,hz2⟩:=info_parts Ho
  have hlt:t < w.heap.size:=by
    rcases Nat.lt_or_ge t w.heap.size with h|h
    ·exact h
    simp [World.cell?,Array.getElem?_eq_none h] at ht
  have Qc:=Eb
  go_enter Tryz.func172,Tryz.ntmps172
  go_wp2_with fail
  go_region_law (refine step_append_lies _ rfl (.tmp 7) (.tmp 10) 108 rfl base 3 i0 (.int .i64 0) 1 8 Tryz.underlying108 hi0 hz0 hz1 hz2 rfl (by decide) v n xs (by simp [Act.eval]) (hown.alloc _) ⟨w.heap.size,0,none⟩ 1 1 [.int .i64 x] (by simp [Act.eval]) rfl (cell_one_new _ _ _) (CM x) (by decide) (by unfold maxLen;omega) (by omega) (by simp;omega) (w.heap.size+1) (by simp) ?_;intro g cap w1 hown1 hg1 Ec PV;have c1:w1.cell? ⟨t,o,none⟩=some v:=FN ht hlt hne hg1;have f1:w1.frozen? ⟨t,o,none⟩=false:=FO hf hlt hne hg1)
  all_goals
    go_end0
    refine⟨rfl,g,cap,w1,hown1,(World.grownBy_alloc w (.cells #[.int .i64 x] 3) _).trans ⟨hg1.os,hg1.tape,hg1.output,hg1.size,hg1.block⟩,?_,rfl⟩
    rcases Ec with h|h
    ·exact .inl h
    exact .inr (by omega)
end
end Go.Proofs.YtaepnjbceganhaaGreat
section
namespace Go.Proofs.YtaepnjbceganhaaGreat.ck
def at_ (l:List Int) (i:Nat):Int:=l.getD i 0
def swp (l:List Int) (i j:Nat):List Int:=(l.set i (at_ l j)).set j (at_ l i)
def Hp (n:Nat) (l:List Int):Prop:=∀ i,0 < i->i < n->at_ l ((i - 1) / 2)<=at_ l i
def tO (l:List Int):Prop:=∀ a b,a < l.length->b < l.length->at_ l a=at_ l b->a=b
def yj (l:List Int) (j:Nat):Prop:=
  (∀ i,0 < i->i < l.length->i≠j->at_ l ((i - 1) / 2)<=at_ l i)/\(∀ i,0 < i->i < l.length->(i - 1) / 2=j->0 < j->at_ l ((j - 1) / 2)<=at_ l i)
def rB (n:Nat) (l:List Int) (i:Nat):Prop:=
  (∀ k,0 < k->k < n->(k - 1) / 2≠i->at_ l ((k - 1) / 2)<=at_ l k)/\(∀ k,0 < k->k < n->(k - 1) / 2=i->0 < i->at_ l ((i - 1) / 2)<=at_ l k)
structure Same (l l':List Int):Prop where
  len:l'.length=l.length
  mem:∀ x,x∈l'↔x∈l
  inj:tO l->tO l'
theorem pU {l:List Int} {x:Int}:x∈l↔∃ k,k < l.length/\at_ l k=x:=by
  rw [List.mem_iff_getElem]
  constructor
  ·rintro⟨i,h,e⟩
   exact⟨i,h,by simp [at_,List.getD_eq_getElem?_getD,h,e]⟩
  rintro⟨i,h,e⟩
  exact⟨i,h,by simpa [at_,List.getD_eq_getElem?_getD,h] using e⟩
theorem jo (l:List Int) (i j:Nat):(swp l i j).length=l.length:=by simp [swp]
def sw (i j k:Nat):Nat:=if k=j then i else if k=i then j else k
theorem ia {l:List Int} {i j:Nat} (hi:i < l.length) (hj:j < l.length) (k:Nat):at_ (swp l i j) k=at_ l (sw i j k):=by
  unfold swp at_ sw
  simp only [List.getD_eq_getElem?_getD,List.getElem?_set,List.length_set]
  by_cases h1:j=k
  ·subst h1;simp [hj]
  by_cases h2:i=k
  ·subst h2;simp [h1,hi,Ne.symm h1]
  simp [h1,h2,Ne.symm h1,Ne.symm h2]
theorem Ed (i j k:Nat):sw i j (sw i j k)=k:=by unfold sw;(repeat' split)<;>omega
theorem z7 {i j k n:Nat} (hi:i < n) (hj:j < n) (hk:k < n):sw i j k < n:=by unfold sw;(repeat' split)<;>omega
theorem Same.refl (l:List Int):Same l l:=⟨rfl,fun _=>Iff.rfl,fun h=>h⟩
theorem Same.trans {l l' l'':List Int} (h:Same l l') (k:Same l' l''):Same l l'':=⟨k.len.trans h.len,fun x=>(k.mem x).trans (h.mem x),fun i=>k.inj (h.inj i)⟩
theorem Same.swp {l:List Int} {i j:Nat} (hi:i < l.length) (hj:j < l.length):Same l (swp l i j):=by
  refine⟨jo l i j,fun x=>?_,fun inj a b ha hb e=>?_⟩
  ·rw [pU,pU,jo]
   constructor
   ·rintro⟨k,hk,e⟩
    exact⟨sw i j k,z7 hi hj hk,by rw [← ia hi hj];exact e⟩
   rintro⟨k,hk,e⟩
   exact⟨sw i j k,z7 hi hj hk,by rw [ia hi hj,Ed];exact e⟩
  rw [jo] at ha hb
  rw [ia hi hj,ia hi hj] at e
  have:=inj _ _ (z7 hi hj ha) (z7 hi hj hb) e
  rw [← Ed i j a,this,Ed]
theorem FQ {l:List Int} {j:Nat} (h:yj l j) (he:j=0\/at_ l ((j - 1) / 2)<=at_ l j):Hp l.length l:=by
  intro i h0 hi
  by_cases e:i=j
  ·subst e
   rcases he with he|he
   ·omega
   exact he
  exact h.1 i h0 hi e
theorem J1 {l:List Int} {j:Nat} (h:yj l j) (h0:0 < j) (hj:j < l.length) (hlt:at_ l j < at_ l ((j - 1) / 2)):yj (swp l ((j - 1) / 2) j) ((j - 1) / 2):=by
  have hp:(j - 1) / 2 < l.length:=by omega
  have hne:(j - 1) / 2≠j:=by omega
  refine⟨fun i i0 il Nd=>?_,fun i i0 il ip p0=>?_⟩
  ·rw [jo] at il
   rw [ia hp hj,ia hp hj]
   by_cases e1:i=j
   ·subst e1
    rw [show sw ((i - 1) / 2) i ((i - 1) / 2)=i by unfold sw;rw [if_neg hne,if_pos rfl],show sw ((i - 1) / 2) i i=(i - 1) / 2 by unfold sw;rw [if_pos rfl]]
    omega
   rw [show sw ((j - 1) / 2) j i=i by unfold sw;rw [if_neg e1,if_neg Nd]]
   by_cases e2:(i - 1) / 2=j
   ·rw [show sw ((j - 1) / 2) j ((i - 1) / 2)=(j - 1) / 2 by unfold sw;rw [if_pos e2]]
    exact h.2 i i0 il e2 h0
   by_cases e3:(i - 1) / 2=(j - 1) / 2
   ·rw [show sw ((j - 1) / 2) j ((i - 1) / 2)=j by unfold sw;rw [if_neg e2,if_pos e3]]
    have:=h.1 i i0 il e1
    rw [e3] at this
    omega
   rw [show sw ((j - 1) / 2) j ((i - 1) / 2)=(i - 1) / 2 by unfold sw;rw [if_neg e2,if_neg e3]]
   exact h.1 i i0 il e1
  rw [jo] at il
  rw [ia hp hj,ia hp hj]
  have a1:=h.1 ((j - 1) / 2) p0 hp hne
  rw [show sw ((j - 1) / 2) j (((j - 1) / 2 - 1) / 2)=((j - 1) / 2 - 1) / 2 by unfold sw;rw [if_neg (by omega),if_neg (by omega)]]
  by_cases e1:i=j
  ·subst e1
   rw [show sw ((i - 1) / 2) i i=(i - 1) / 2 by unfold sw;rw [if_pos rfl]]
   exact a1
  have a2:=h.1 i i0 il e1
  rw [show sw ((j - 1) / 2) j i=i by unfold sw;rw [if_neg e1,if_neg (by omega)]]
  rw [ip] at a2
  omega
theorem rX {n:Nat} {l:List Int} {i:Nat} (h:rB n l i) (h1:2 * i+1 < n->at_ l i<=at_ l (2 * i+1)) (h2:2 * i+2 < n->at_ l i<=at_ l (2 * i+2)):Hp n l:=by
  intro k k0 kn
  by_cases e:(k - 1) / 2=i
  ·rw [e]
   rcases (show k=2 * i+1\/k=2 * i+2 by omega) with e1|e1
   ·rw [e1];exact h1 (by omega)
   rw [e1];exact h2 (by omega)
  exact h.1 k k0 kn e
theorem tP {n:Nat} {l:List Int} {i j:Nat} (h:rB n l i) (hj:j=2 * i+1\/j=2 * i+2) (hjn:j < n) (hn:n<=l.length)
    (h1:at_ l j<=at_ l (2 * i+1)) (h2:2 * i+2 < n->at_ l j<=at_ l (2 * i+2)) (hlt:at_ l j < at_ l i):rB n (swp l i j) j:=by
  have hi:i < l.length:=by omega
  have hjl:j < l.length:=by omega
  refine⟨fun k k0 kn La=>?_,fun k k0 kn ke j0=>?_⟩
  ·rw [ia hi hjl,ia hi hjl]
   by_cases e1:(k - 1) / 2=i
   ·rw [e1,show sw i j i=j by unfold sw;rw [if_neg (by omega),if_pos rfl]]
    by_cases e2:k=j
    ·rw [e2,show sw i j j=i by unfold sw;rw [if_pos rfl]];omega
    rw [show sw i j k=k by unfold sw;rw [if_neg e2,if_neg (by omega)]]
    rcases (show k=2 * i+1\/k=2 * i+2 by omega) with e3|e3
    ·rw [e3];exact h1
    rw [e3];exact h2 (by omega)
   rw [show sw i j ((k - 1) / 2)=(k - 1) / 2 by unfold sw;rw [if_neg La,if_neg e1]]
   by_cases e2:k=i
   ·rw [e2,show sw i j i=j by unfold sw;rw [if_neg (by omega),if_pos rfl],← e2]
    have hjk:(j - 1) / 2=i:=by omega
    rw [e2]
    exact h.2 j (by omega) hjn hjk (by omega)
   rw [show sw i j k=k by unfold sw;rw [if_neg (by omega),if_neg e2]]
   exact h.1 k k0 kn e1
  rw [ia hi hjl,ia hi hjl]
  rw [show (j - 1) / 2=i by omega,show sw i j i=j by unfold sw;rw [if_neg (by omega),if_pos rfl],show sw i j k=k by unfold sw;rw [if_neg (by omega),if_neg (by omega)]]
  have:=h.1 k k0 kn (by omega)
  rw [ke] at this
  exact this
theorem least {n:Nat} {l:List Int} (h:Hp n l):∀ k,k < n->at_ l 0<=at_ l k:=by
  intro k
  induction k using Nat.strongRecOn with
  | _ k ih=>
    intro hk
    rcases Nat.eq_zero_or_pos k with e|e
    ·rw [e];omega
    have a1:=ih ((k - 1) / 2) (by omega) (by omega)
    have a2:=h k e hk
    omega
theorem Ee {n:Nat} {l:List Int} (h:Hp (n+1) l) (hl:l.length=n+1):rB n (swp l 0 n) 0:=by
  refine⟨fun k k0 kn La=>?_,fun k _ _ _ h0=>by omega⟩
  rw [ia (by omega) (by omega),ia (by omega) (by omega)]
  rw [show sw 0 n ((k - 1) / 2)=(k - 1) / 2 by unfold sw;rw [if_neg (by omega),if_neg La],show sw 0 n k=k by unfold sw;rw [if_neg (by omega),if_neg (by omega)]]
  exact h k k0 (by omega)
theorem Hr {l:List Int} (h:Hp l.length l) (x:Int):yj (l++[x]) l.length:=by
  have e:∀ k,k < l.length->at_ (l++[x]) k=at_ l k:=fun k hk=>by
    unfold at_
    rw [List.getD_eq_getElem?_getD,List.getD_eq_getElem?_getD,List.getElem?_append_left hk]
  refine⟨fun i i0 il Nd=>?_,fun i i0 il ip=>?_⟩
  ·rw [List.length_append,List.length_singleton] at il
   rw [e _ (by omega),e _ (by omega)]
   exact h i i0 (by omega)
  rw [List.length_append,List.length_singleton] at il
  omega
theorem J2 {l:List Int} {n:Nat} (hl:l.length=n+1) (hi:tO l) (x:Int):x∈l.take n↔x∈l/\x≠at_ l n:=by
  constructor
  ·intro h
   refine⟨List.mem_of_mem_take h,?_⟩
   rintro rfl
   obtain⟨k,hk,e⟩:=List.mem_iff_getElem.1 h
   simp at hk e
   have:=hi k n (by omega) (by omega) (by simp [at_,List.getD_eq_getElem?_getD,show k < l.length by omega,e])
   omega
  rintro⟨h,hne⟩
  obtain⟨k,hk,e⟩:=pU.1 h
  have:k≠n:=by rintro rfl;exact hne e.symm
  refine List.mem_iff_getElem.2 ⟨k,by simp;omega,?_⟩
  simp only [at_,List.getD_eq_getElem?_getD,hk,List.getElem?_eq_getElem,Option.getD_some] at e
  simpa using e
theorem uU {l:List Int} {n k:Nat} (hk:k < n):at_ (l.take n) k=at_ l k:=by simp [at_,List.getD_eq_getElem?_getD,hk]
theorem J3 {l:List Int} {n:Nat} (h:Hp n l):Hp n (l.take n):=fun i i0 hi=>by rw [uU hi,uU (by omega)];exact h i i0 hi
theorem Ht {l:List Int} {n:Nat} (h:tO l):tO (l.take n):=fun a b ha hb e=>by
  simp at ha hb
  rw [uU (by omega),uU (by omega)] at e
  exact h a b (by omega) (by omega) e
end Go.Proofs.YtaepnjbceganhaaGreat.ck
end
namespace Go.Proofs.YtaepnjbceganhaaGreat
section
open Go.RowKit ck
def ints (l:List Int):List Value:=l.map (Value.int .i64)
theorem lg (g n c a b:Nat) (i j:Int) (hi:i=(a:Int)) (hj:j=(b:Int)) (x y:Int) (w:World) (ha:a < n) (hb:b < n) (ci:w.cell? ⟨g,a,none⟩=some (.int .i64 x)) (cj:w.cell? ⟨g,b,none⟩=some (.int .i64 y)) :
    Calls Tryz.prog 169 #[.slice (some ⟨g,0,none⟩) n c,.int .i64 i,.int .i64 j] w fun e w'=>e=.returned (.bool (decide (x < y)))/\∃ m,w'=w.drewN m:=by
  subst hi hj;exact FK g n c a b x y w ha hb ci cj
structure HW (t o g c base:Nat) (l:List Int) (w:World):Prop where
  cell:w.cell? ⟨t,o,none⟩=some (.slice (some ⟨g,0,none⟩) l.length c)
  own:w.ownsRow base 3 1 (.slice (some ⟨g,0,none⟩) l.length c) l.length (ints l)
  ne:t≠g
  lt:t < w.heap.size
theorem Hu {l:List Int} {k:Nat} (hk:k < l.length):(ints l)[k]?=some (.int .i64 (at_ l k)):=by
  simp [ints,at_,List.getD_eq_getElem?_getD,hk]
section hw
variable {t o g c base:Nat} {l:List Int} {w:World}
theorem HW.at (h:HW t o g c base l w) {k:Nat} (hk:k < l.length):w.cell? ⟨g,k,none⟩=some (.int .i64 (at_ l k)):=by
  rw [h.own.cellAt k (by omega)]
  exact Hu hk
theorem HW.drewN (h:HW t o g c base l w) (m:Nat):HW t o g c base l (w.drewN m):=⟨h.cell,h.own,h.ne,h.lt⟩
theorem HW.swap (h:HW t o g c base l w) (i j:Nat) :
    HW t o g c base (swp l i j) ((w.setCell ⟨g,i,none⟩ (.int .i64 (at_ l j))).setCell ⟨g,j,none⟩ (.int .i64 (at_ l i))):=by
  have e1:ints (swp l i j)=((ints l).set i (.int .i64 (at_ l j))).set j (.int .i64 (at_ l i)):=by
    simp [ints,swp,List.map_set]
  refine⟨?_,?_,h.ne,by simpa [World.setCell] using h.lt⟩
  ·rw [jo,World.cell?_setCell_other _ _ _ _ (fun e=>h.ne (by injection e with e;exact e.symm)),World.cell?_setCell_other _ _ _ _ (fun e=>h.ne (by injection e with e;exact e.symm))]
   exact h.cell
  rw [jo,e1]
  exact ((h.own.stored i _).1.stored j _).1
end hw
theorem lp (t o g c base:Nat) (l:List Int) (a b:Nat) (i j:Int) (hi:i=(a:Int)) (hj:j=(b:Int)) (w:World) (h:HW t o g c base l w) (ha:a < l.length) (hb:b < l.length) (hne:a≠b) :
    Calls Tryz.prog 170 #[.slice (some ⟨g,0,none⟩) l.length c,.int .i64 i,.int .i64 j] w fun e w'=>e=.returned (.tuple #[])/\HW t o g c base (swp l a b) w'/\Keeps (·=g) w w':=by
  subst hi hj
  refine (FL g l.length c a b (at_ l a) (at_ l b) w ha hb hne (h.at ha) (h.at hb) (h.own.frozenAt a) (h.own.frozenAt b)).mono fun e w' ⟨he,m,hw⟩=>⟨he,?_,?_⟩
  ·rw [hw];exact (h.swap a b).drewN m
  rw [hw];exact (((Keeps.refl (·=g) w).setCell (p:=⟨g,a,none⟩) (.inr rfl) _).setCell (p:=⟨g,b,none⟩) (.inr rfl) _).drewN m
structure Looks (a:Addr) (V:Value):Prop where
  less:∀ w:World,w.cell? a=some V->(Go.method 319 154 (.pointer (some a)) "Less").run Tryz.prog w=.ok (169,V) w
  swap:∀ w:World,w.cell? a=some V->(Go.method 319 154 (.pointer (some a)) "Swap").run Tryz.prog w=.ok (170,V) w
  len:∀ w:World,w.cell? a=some V->(Go.method 319 154 (.pointer (some a)) "Len").run Tryz.prog w=.ok (168,V) w
theorem looks (a:Addr) (V:Value):Looks a V:=⟨K6 a V,K7 a V,MK a V⟩
theorem J4 (t o g c base:Nat) (l:List Int) (j:Nat) (w:World) (h:HW t o g c base l w) (hj:j < l.length) (hu:yj l j) (hm:l.length<=1048576) :
    Calls Tryz.prog 121 #[.iface 154 (.pointer (some ⟨t,o,none⟩)),.int .i64 j] w fun e w'=>e=.returned (.tuple #[]) ∧
      ∃ l',Same l l'/\Hp l'.length l'/\HW t o g c base l' w'/\Keeps (·=g) w w':=by
  have L:=looks ⟨t,o,none⟩ (.slice (some ⟨g,0,none⟩) l.length c)
  have nl:=FJ ⟨t,o,none⟩
  have ns:=Bj ⟨t,o,none⟩
  go_enter Tryz.func121,Tryz.ntmps121
  go_wp2_with fail
  go_loopw [1] (fun v wr=>∃ (j:Nat) (l':List Int),v=.int .i64 j/\j < l'.length/\Same l l'/\yj l' j/\HW t o g c base l' wr/\Keeps (·=g) w wr) (fun v _=>(intOf v).toNat)
  case atStart=>exact⟨j,l,rfl,hj,Same.refl l,hu,h,Keeps.refl _ _⟩
  case round=>
    obtain⟨j,l',rfl,hj',hs,hu',hw,hk⟩:=hrel
    have hc:=hw.cell
    rw [hs.len] at hc
    have LL:=L.less wr hc
    by_cases h0:j=0
    ·subst h0
     have HU:=Lib.hid hu'
     clear hu'
     go_wp2_with fail
     go_end0
     exact⟨rfl,l',hs,FQ HU.out (.inl rfl),hw,hk⟩
    have mJ:1<=j:=by omega
    have hj2:j<=1048576:=by have:=hs.len;omega
    have hi1:(j - 1) / 2 < l'.length:=by omega
    have hjn:((((j:Int) - 1) / 2) == (j:Int))=false:=by rw [beq_eq_false_iff_ne];omega
    have HU:=Lib.hid hu'
    clear hu'
    go_wp2_with fail
    refine (lg g l.length c j ((j - 1) / 2) _ _ rfl (by omega) (at_ l' j) (at_ l' ((j - 1) / 2)) _ (by rw [← hs.len];exact hj') (by rw [← hs.len];exact hi1) (hw.at hj') (hw.at hi1)).mono ?_
    rintro e w1 ⟨rfl,m,rfl⟩
    have hw1:=hw.drewN m
    by_cases hlt:at_ l' j < at_ l' ((j - 1) / 2)
    ·have LS:=L.swap (wr.drewN m) hc
     go_wp2_with fail
     have HL:=Lib.hid hs.len
     have sw:=lp t o g c base l' ((j - 1) / 2) j
     rw [hs.len] at sw
     refine (sw _ _ (by omega) rfl _ hw1 (by have:=HL.out;omega) (by have:=HL.out;omega) (by omega)).mono ?_
     rintro e w2 ⟨rfl,hw2,hk2⟩
     clear sw
     go_wp2_with fail
     go_roundw
     case rel=>exact⟨(j - 1) / 2,_,by go_num,by rw [jo];exact hi1,hs.trans (Same.swp hi1 hj'),J1 HU.out mJ hj' hlt,hw2,(hk.drewN m).trans hk2⟩
     case measure=>simp [intOf];omega
    have hnl:decide (at_ l' j < at_ l' ((j - 1) / 2))=false:=by simpa using hlt
    go_wp2_with fail
    go_end0
    exact⟨rfl,l',hs,FQ HU.out (.inr (by omega)),hw1,hk.drewN m⟩
end
section
open Go.RowKit ck
theorem Bl {l:List Int} {i j n k:Nat} (hi:i < l.length) (hj:j < l.length) (hin:i < n) (hjn:j < n) (hk:n<=k):at_ (swp l i j) k=at_ l k:=by
  rw [ia hi hj];unfold sw;rw [if_neg (by omega),if_neg (by omega)]
theorem FR (t o g c base n:Nat) (l:List Int) (w:World) (h:HW t o g c base l w) (hn:n<=l.length) (hd:rB n l 0) (hm:l.length<=1048576) :
    Calls Tryz.prog 134 #[.iface 154 (.pointer (some ⟨t,o,none⟩)),.int .i64 0,.int .i64 n] w fun e w'=>(∃ b,e=.returned (.bool b)) ∧
      ∃ l',Same l l'/\Hp n l'/\(∀ k,n<=k->at_ l' k=at_ l k)/\HW t o g c base l' w'/\Keeps (·=g) w w':=by
  have L:=looks ⟨t,o,none⟩ (.slice (some ⟨g,0,none⟩) l.length c)
  have nl:=FJ ⟨t,o,none⟩
  have ns:=Bj ⟨t,o,none⟩
  go_enter Tryz.func134,Tryz.ntmps134
  go_wp2_with fail
  go_loopw [7] (fun v wr=>∃ (i:Nat) (l':List Int),v=.int .i64 i/\i<=n/\Same l l'/\rB n l' i/\Hid (∀ k,n<=k->at_ l' k=at_ l k)/\HW t o g c base l' wr/\Keeps (·=g) w wr) (fun v _=>n - (intOf v).toNat)
  case atStart=>exact⟨0,l,rfl,Nat.zero_le _,Same.refl l,hd,Lib.hid (fun _ _=>rfl),h,Keeps.refl _ _⟩
  case round=>
    obtain⟨i,l',rfl,hin,hs,hd',rY,hw,hk⟩:=hrel
    have hc:=hw.cell
    rw [hs.len] at hc
    have HL:=Lib.hid hs.len
    have hn1:n<=1048576:=by omega
    have hnl:n<=l'.length:=by rw [HL.out];exact hn
    have HD:=Lib.hid hd'
    clear hd'
    by_cases h1:2 * i+1 < n
    ·have h1a:(2 * (i:Int)+1) < (n:Int):=by omega
     by_cases h2:2 * i+2 < n
     ·have O0:(2 * (i:Int)+1+1) < (n:Int):=by omega
      have LL:=L.less wr hc
      go_wp2_with fail
      refine (lg g l.length c (2 * i+2) (2 * i+1) _ _ (by omega) (by omega) (at_ l' (2 * i+2)) (at_ l' (2 * i+1)) _ (by omega) (by omega) (hw.at (by omega)) (hw.at (by omega))).mono ?_
      rintro e w1 ⟨rfl,m,rfl⟩
      have hw1:=hw.drewN m
      have hk1:=hk.drewN m
      have LL:=L.less (wr.drewN m) hc
      clear hw hk
      by_cases h3:at_ l' (2 * i+2) < at_ l' (2 * i+1)
      ·go_wp2_with fail
       refine (lg g l.length c (2 * i+2) i _ _ (by omega) (by omega) (at_ l' (2 * i+2)) (at_ l' i) _ (by omega) (by omega) (hw1.at (by omega)) (hw1.at (by omega))).mono ?_
       rintro e w2 ⟨rfl,m2,rfl⟩
       have hw2:=hw1.drewN m2
       have hk2:=hk1.drewN m2
       rw [World.drewN_drewN] at hw2 hk2
       by_cases h4:at_ l' (2 * i+2) < at_ l' i
       ·have LS:=L.swap _ (hw2.cell.trans (by rw [HL.out]))
        go_wp2_with fail
        have sw:=lp t o g c base l' i (2 * i+2)
        rw [hs.len] at sw
        refine (sw _ _ rfl (by omega) _ hw2 (by omega) (by omega) (by omega)).mono ?_
        rintro e w3 ⟨rfl,hw3,hk3⟩
        clear sw
        go_wp2_with fail
        go_roundw
        case rel=>exact⟨2 * i+2,_,by go_num,by omega,hs.trans (Same.swp (by omega) (by omega)),tP HD.out (by omega) (by omega) hnl (by omega) (fun _=>by omega) h4,Lib.hid (fun k hk=>(Bl (by omega) (by omega) (by omega) (by omega) hk).trans (rY.out k hk)),hw3,hk2.trans hk3⟩
        case measure=>simp [intOf];omega
       have Nf:decide (at_ l' (2 * i+2) < at_ l' i)=false:=by simpa using h4
       go_wp2_with fail
       go_ret
       exact⟨⟨_,rfl⟩,l',hs,rX HD.out (fun _=>by omega) (fun _=>by omega),rY.out,hw2,hk2⟩
      have Qd:decide (at_ l' (2 * i+2) < at_ l' (2 * i+1))=false:=by simpa using h3
      go_wp2_with fail
      refine (lg g l.length c (2 * i+1) i _ _ (by omega) (by omega) (at_ l' (2 * i+1)) (at_ l' i) _ (by omega) (by omega) (hw1.at (by omega)) (hw1.at (by omega))).mono ?_
      rintro e w2 ⟨rfl,m2,rfl⟩
      have hw2:=hw1.drewN m2
      have hk2:=hk1.drewN m2
      rw [World.drewN_drewN] at hw2 hk2
      by_cases h4:at_ l' (2 * i+1) < at_ l' i
      ·have LS:=L.swap _ (hw2.cell.trans (by rw [HL.out]))
       go_wp2_with fail
       have sw:=lp t o g c base l' i (2 * i+1)
       rw [hs.len] at sw
       refine (sw _ _ rfl (by omega) _ hw2 (by omega) (by omega) (by omega)).mono ?_
       rintro e w3 ⟨rfl,hw3,hk3⟩
       clear sw
       go_wp2_with fail
       go_roundw
       case rel=>exact⟨2 * i+1,_,by go_num,by omega,hs.trans (Same.swp (by omega) (by omega)),tP HD.out (by omega) (by omega) hnl (by omega) (fun _=>by omega) h4,Lib.hid (fun k hk=>(Bl (by omega) (by omega) (by omega) (by omega) hk).trans (rY.out k hk)),hw3,hk2.trans hk3⟩
       case measure=>simp [intOf];omega
      have Nf:decide (at_ l' (2 * i+1) < at_ l' i)=false:=by simpa using h4
      go_wp2_with fail
      go_ret
      exact⟨⟨_,rfl⟩,l',hs,rX HD.out (fun _=>by omega) (fun _=>by omega),rY.out,hw2,hk2⟩
     have O0:decide ((2 * (i:Int)+1+1) < (n:Int))=false:=by simp;omega
     have hw1:=hw
     have hk1:=hk
     have LL:=L.less wr hc
     clear hw hk
     go_wp2_with fail
     refine (lg g l.length c (2 * i+1) i _ _ (by omega) (by omega) (at_ l' (2 * i+1)) (at_ l' i) _ (by omega) (by omega) (hw1.at (by omega)) (hw1.at (by omega))).mono ?_
     rintro e w2 ⟨rfl,m2,rfl⟩
     have hw2:=hw1.drewN m2
     have hk2:=hk1.drewN m2
     by_cases h4:at_ l' (2 * i+1) < at_ l' i
     ·have LS:=L.swap _ (hw2.cell.trans (by rw [HL.out]))
      go_wp2_with fail
      have sw:=lp t o g c base l' i (2 * i+1)
      rw [hs.len] at sw
      refine (sw _ _ rfl (by omega) _ hw2 (by omega) (by omega) (by omega)).mono ?_
      rintro e w3 ⟨rfl,hw3,hk3⟩
      clear sw
      go_wp2_with fail
      go_roundw
      case rel=>exact⟨2 * i+1,_,by go_num,by omega,hs.trans (Same.swp (by omega) (by omega)),tP HD.out (by omega) (by omega) hnl (by omega) (fun _=>by omega) h4,Lib.hid (fun k hk=>(Bl (by omega) (by omega) (by omega) (by omega) hk).trans (rY.out k hk)),hw3,hk2.trans hk3⟩
      case measure=>simp [intOf];omega
     have Nf:decide (at_ l' (2 * i+1) < at_ l' i)=false:=by simpa using h4
     go_wp2_with fail
     go_ret
     exact⟨⟨_,rfl⟩,l',hs,rX HD.out (fun _=>by omega) (fun _=>by omega),rY.out,hw2,hk2⟩
    have h1a:((n:Int)<=2 * (i:Int)+1):=by omega
    go_wp2_with fail
    go_ret
    exact⟨⟨_,rfl⟩,l',hs,rX HD.out (fun h=>absurd h h1) (fun h=>absurd h (by omega)),rY.out,hw,hk⟩
end
section
open Go.RowKit ck
theorem yq (g n c i:Nat) (x:Int) (w:World) (hi:i < n) (ci:w.cell? ⟨g,i,none⟩=some (.int .i64 x)) (fi:w.frozen? ⟨g,i,none⟩=false) :
    Calls Tryz.prog 170 #[.slice (some ⟨g,0,none⟩) n c,.int .i64 i,.int .i64 i] w fun e w'=>e=.returned (.tuple #[])/\∃ m,w'=((w.setCell ⟨g,i,none⟩ (.int .i64 x)).setCell ⟨g,i,none⟩ (.int .i64 x)).drewN m:=by
  have hi':(i:Int) < (n:Int):=by omega
  go_enter Tryz.func170,Tryz.ntmps170
  go_wp2_with fail
  go_region
  go_end0
  exact⟨rfl,1,rfl⟩
theorem yt (t o g c base n:Nat) (l:List Int) (hl:l.length=n+1) (j:Int) (hj:j=(n:Int)) (w:World) (h:HW t o g c base l w) :
    Calls Tryz.prog 170 #[.slice (some ⟨g,0,none⟩) (n+1) c,.int .i64 0,.int .i64 j] w fun e w'=>e=.returned (.tuple #[])/\HW t o g c base (swp l 0 n) w'/\Keeps (·=g) w w':=by
  subst hj
  by_cases h0:n=0
  ·subst h0
   have:=yq g 1 c 0 (at_ l 0) w (by omega) (h.at (by omega)) (h.own.frozenAt 0)
   refine this.mono fun e w' ⟨he,m,hw⟩=>⟨he,?_,?_⟩
   ·rw [hw];exact (h.swap 0 0).drewN m
   rw [hw];exact (((Keeps.refl (·=g) w).setCell (p:=⟨g,0,none⟩) (.inr rfl) _).setCell (p:=⟨g,0,none⟩) (.inr rfl) _).drewN m
  have:=lp t o g c base l 0 n 0 n rfl rfl w h (by omega) (by omega) (by omega)
  rw [hl] at this
  exact this
theorem HW.pop {t o g c base n:Nat} {l:List Int} {w:World} (h:HW t o g c base l w) (hl:l.length=n+1):w.ownsRow base 3 1 (.slice (some ⟨g,0,none⟩) n c) n (ints (l.take n)):=by
  have e:ints l=ints (l.take n)++ints (l.drop n):=by simp only [ints,← List.map_append,List.take_append_drop]
  have h1:=h.own
  rw [e,hl] at h1
  exact ownsRow_pop (by simp [ints];omega) h1
theorem HW.cap {t o g c base:Nat} {l:List Int} {w:World} (h:HW t o g c base l w):l.length<=c:=by
  rcases h.own.2 with ⟨e,_⟩|⟨g',cap,cur,e,_,_,r,_⟩
  ·injection e with e;cases e
  injection e with e1 e2 e3
  omega
theorem Hv (t o g c base n:Nat) (l:List Int) (w:World) (h:HW t o g c base l w) (hl:l.length=n+1) (hp:Hp (n+1) l) (hi:tO l) (hm:n+1<=1048576) (hf:w.frozen? ⟨t,o,none⟩=false) :
    Calls Tryz.prog 120 #[.iface 154 (.pointer (some ⟨t,o,none⟩))] w fun e w'=>e=.returned (.iface 3 (.int .i64 (at_ l 0))) ∧
      ∃ l' w1,l'.length=n/\Hp n l'/\tO l'/\(∀ x,x∈l'↔x∈l/\x≠at_ l 0)/\w1.ownsRow base 3 1 (.slice (some ⟨g,0,none⟩) n c) n (ints l')/\Keeps (·=g) w w1 ∧
        w'=w1.setCell ⟨t,o,none⟩ (.slice (some ⟨g,0,none⟩) n c):=by
  have L:=looks ⟨t,o,none⟩ (.slice (some ⟨g,0,none⟩) l.length c)
  have nn:=Jv ⟨t,o,none⟩
  have ns:=Bj ⟨t,o,none⟩
  have np:=MN ⟨t,o,none⟩
  have mp:=ML ⟨t,o,none⟩
  have LN:=L.len w h.cell
  have LS:=L.swap w h.cell
  have HL:=Lib.hid hl
  rw [hl] at LN LS
  clear hl
  go_enter Tryz.func120,Tryz.ntmps120
  go_wp2_with fail
  refine (Bk _ _ _ _).mono ?_
  rintro e w0 ⟨rfl,rfl⟩
  go_wp2_with fail
  refine (yt t o g c base n l HL.out _ (by omega) _ h).mono ?_
  rintro e w1 ⟨rfl,hw1,hk1⟩
  go_wp2_with fail
  have hd:=FR t o g c base n (swp l 0 n) w1 hw1 (by rw [jo,HL.out];omega) (Ee hp HL.out) (by rw [jo,HL.out];exact hm)
  refine (hd.mono ?_)
  rintro e w2 ⟨⟨bb,rfl⟩,l',hs,hp',rY,hw2,hk2⟩
  clear hd
  have hlen:l'.length=n+1:=by rw [hs.len,jo,HL.out]
  have hcell:=hw2.cell
  rw [hlen] at hcell
  have hcap:=hw2.cap
  have htlt:=h.lt
  have hf2:w2.frozen? ⟨t,o,none⟩=false:=by
    rw [(hk1.trans hk2).frozen (p:=⟨t,o,none⟩) htlt h.ne]
    exact hf
  have hlast:at_ l' n=at_ l 0:=by
    rw [rY n (Nat.le_refl _),ia (by rw [HL.out];omega) (by rw [HL.out];omega)]
    simp [sw]
  have hx:=hw2.at (k:=n) (by omega)
  rw [hlast] at hx
  have Ef:=Lib.hid hlen
  have MO:=Lib.hid hlast
  clear hlen hlast
  go_wp2_with fail
  refine (Hq t o g n c (at_ l 0) w2 (by have:=Ef.out;omega) hcell hf2 hx hm).mono ?_
  rintro e w3 ⟨rfl,rfl⟩
  go_wp2_with fail
  go_ret
  have sm:=(Same.swp (l:=l) (i:=0) (j:=n) (by rw [HL.out];omega) (by rw [HL.out];omega)).trans hs
  refine⟨rfl,l'.take n,w2,by simp [Ef.out],J3 hp',Ht (sm.inj hi),fun x=>?_,hw2.pop Ef.out,hk1.trans hk2,rfl⟩
  rw [J2 Ef.out (sm.inj hi),sm.mem,MO.out]
theorem CN (l:List Int) (x:Int):ints l++[.int .i64 x]=ints (l++[x]):=by simp [ints]
theorem FT (t o base:Nat) (v:Value) (l:List Int) (x:Int) (w:World) (ht:w.cell? ⟨t,o,none⟩=some v) (hf:w.frozen? ⟨t,o,none⟩=false) (hown:w.ownsRow base 3 1 v l.length (ints l))
    (hne:v.ownBlock≠some t) (hm:l.length+1<=1048576) (hbase:base<=w.heap.size) (hp:Hp l.length l) (htl:t < w.heap.size) :
    Calls Tryz.prog 96 #[.iface 154 (.pointer (some ⟨t,o,none⟩)),.iface 3 (.int .i64 x)] w fun e w'=>e=.returned (.tuple #[]) ∧
      ∃ g c l',Same (l++[x]) l'/\Hp l'.length l'/\HW t o g c base l' w'/\(v.ownBlock=some g\/w.heap.size<=g) ∧
        ∃ w1,Keeps (fun k=>v.ownBlock=some k) w w1/\Keeps (·=g) (w1.setCell ⟨t,o,none⟩ (.slice (some ⟨g,0,none⟩) (l.length+1) c)) w':=by
  have nn:=Jv ⟨t,o,none⟩
  have np:=K9 ⟨t,o,none⟩
  have mp:=K8 ⟨t,o,none⟩
  go_enter Tryz.func96,Tryz.ntmps96
  go_wp2_with fail
  refine (FP t o base l.length v (ints l) x w ht hf hown hne hm hbase).mono ?_
  rintro e w0 ⟨rfl,g,c,w1,hown1,hg1,Ec,rfl⟩
  have hk1:Keeps (fun k=>v.ownBlock=some k) w w1:=(Keeps.refl _ _).grown hg1 (fun k hk=>.inr hk)
  have hgt:t≠g:=by
    rintro rfl
    rcases Ec with h|h
    ·exact hne h
    omega
  have ht1:w1.cell? ⟨t,o,none⟩=some v:=(hk1.cell (p:=⟨t,o,none⟩) htl hne).trans ht
  have HW1:HW t o g c base (l++[x]) (w1.setCell ⟨t,o,none⟩ (.slice (some ⟨g,0,none⟩) (l.length+1) c)):=by
    refine⟨?_,?_,hgt,by simpa [World.setCell] using Nat.lt_of_lt_of_le htl hk1.size⟩
    ·rw [World.cell?_setCell_same _ _ _ ht1];simp
    rw [List.length_append,List.length_singleton,← CN]
    refine Keeps.ownsRow (S:=(·=t)) ((Keeps.refl (·=t) w1).setCell (p:=⟨t,o,none⟩) (.inr rfl) _) hown1 ?_
    intro k hk e
    simp [Value.ownBlock] at hk
    omega
  have hc:=HW1.cell
  rw [List.length_append,List.length_singleton] at hc
  generalize hW:w1.setCell ⟨t,o,none⟩ (.slice (some ⟨g,0,none⟩) (l.length+1) c)=w2 at *
  have LN:=(looks ⟨t,o,none⟩ (.slice (some ⟨g,0,none⟩) (l.length+1) c)).len w2 hc
  have O3:=Lib.hid hW
  clear hW ht1 hown1 hown hg1
  go_wp2_with fail
  refine (Bk _ _ _ _).mono ?_
  rintro e w3 ⟨rfl,rfl⟩
  go_wp2_with fail
  have hu:=J4 t o g c base (l++[x]) l.length w3 HW1 (by simp) (Hr hp x) (by simpa using hm)
  refine hu.mono ?_
  rintro e w4 ⟨rfl,l',hs,hp',hw4,hk4⟩
  go_wp2_with fail
  go_end0
  exact⟨rfl,g,c,l',hs,hp',hw4,Ec,w1,hk1,by rw [O3.out];exact hk4⟩
end
end Go.Proofs.YtaepnjbceganhaaGreat
section
namespace Go.Proofs.YtaepnjbceganhaaGreat.aB
open ck
variable {V U:Type}
abbrev Used (V:Type):=List (Int×V)
def keys (us:Used V):List Int:=us.map (·.1)
def get (us:Used V) (h:Int):Option V:=(us.find? (fun p=>p.1 == h)).map (·.2)
def bN:List Int->Prop:=List.Pairwise (· < ·)
def fX:Int->List Int->Int
  | h,[]=>h
  | h,k::r=>if k=h then fX (h+1) r else h
def least (us:Used V):Int:=fX 1 (keys us)
def ins (h:Int) (v:V):Used V->Used V
  | []=>[(h,v)]
  | p::r=>if h < p.1 then (h,v)::p::r else p::ins h v r
def del (h:Int) (us:Used V):Used V:=us.filter (fun p=>p.1 != h)
def PW (h:Int) (v:V) (us:Used V):Used V:=us.map (fun p=>if p.1 == h then (h,v) else p)
structure TI (next:Int) (l:List Int) (us:Used V):Prop where
  rise:bN (keys us)
  pos:∀ h∈keys us,1<=h/\h < next
  back:∀ h∈l,1<=h/\h < next/\h∉keys us
  all:∀ h,1<=h->h < next->h∈keys us\/h∈l
  count:(us.length:Int)+l.length=next - 1
  heap:Hp l.length l
  inj:tO l
theorem keys_cons (p:Int×V) (us:Used V):keys (p::us)=p.1::keys us:=rfl
theorem keys_map (f:V->U) (us:Used V):keys (us.map fun p=>(p.1,f p.2))=keys us:=by simp [keys]
theorem get_none {us:Used V} {h:Int}:get us h=none↔h∉keys us:=by
  unfold get keys
  rw [Option.map_eq_none_iff,List.find?_eq_none]
  simp only [List.mem_map,not_exists,not_and,beq_iff_eq]
theorem get_some {us:Used V} {h:Int} {v:V} (e:get us h=some v):h∈keys us:=by
  apply Classical.byContradiction
  intro hn
  rw [get_none.2 hn] at e;cases e
theorem get_map (f:V->U) (us:Used V) (h:Int):get (us.map fun p=>(p.1,f p.2)) h=(get us h).map f:=by
  unfold get
  rw [List.find?_map]
  simp only [Function.comp_def,Option.map_map]
theorem jK (h:Int) (v:V) (us:Used V) (x:Int):x∈keys (ins h v us)↔x=h\/x∈keys us:=by
  induction us with
  | nil=>simp [ins,keys]
  | cons p r ih=>
    unfold ins
    split
    ·simp [keys]
    rw [keys_cons,keys_cons,List.mem_cons,List.mem_cons,ih]
    constructor
    ·rintro (h1|h1|h1)
     ·exact .inr (.inl h1)
     ·exact .inl h1
     exact .inr (.inr h1)
    rintro (h1|h1|h1)
    ·exact .inr (.inl h1)
    ·exact .inl h1
    exact .inr (.inr h1)
theorem rZ {h:Int} {v:V} {us:Used V} (hr:bN (keys us)) (hn:h∉keys us):bN (keys (ins h v us)):=by
  induction us with
  | nil=>simp [ins,keys,bN]
  | cons p r ih=>
    unfold bN at *
    rw [keys_cons,List.pairwise_cons] at hr
    rw [keys_cons,List.mem_cons,not_or] at hn
    unfold ins
    split
    ·rename_i hlt
     rw [keys_cons,keys_cons,List.pairwise_cons,List.pairwise_cons]
     refine⟨?_,hr⟩
     intro x hx
     rcases List.mem_cons.1 hx with e|e
     ·rw [e];exact hlt
     have:=hr.1 x e;show h < x;omega
    rename_i hlt
    rw [keys_cons,List.pairwise_cons]
    refine⟨fun x hx=>?_,ih hr.2 hn.2⟩
    rcases (jK h v r x).1 hx with e|e
    ·rw [e];have:=hn.1;omega
    exact hr.1 x e
theorem rC {h:Int} {v:V} {us:Used V} (hn:h∉keys us) (x:Int):get (ins h v us) x=if x=h then some v else get us x:=by
  induction us with
  | nil=>
    by_cases e:x=h
    ·subst e;simp [ins,get]
    simp [ins,get,e,Ne.symm e]
  | cons p r ih=>
    rw [keys_cons,List.mem_cons,not_or] at hn
    unfold ins
    split
    ·unfold get
     by_cases e:x=h
     ·subst e;simp
     simp [e,Ne.symm e]
    have ih':=ih hn.2
    unfold get at ih' ⊢
    rw [List.find?_cons,List.find?_cons]
    by_cases e:p.1=x
    ·have:x≠h:=by rintro rfl;exact hn.1 e.symm
     simp [e,this]
    simp only [show (p.1 == x)=false by simpa using e]
    exact ih'
theorem gy (h:Int) (v:V) (us:Used V):(ins h v us).length=us.length+1:=by
  induction us with
  | nil=>rfl
  | cons p r ih=>unfold ins;split<;>simp [ih]
theorem Hw {h:Int} {v:V} {us:Used V} (hl:∀ x∈keys us,x < h):ins h v us=us++[(h,v)]:=by
  induction us with
  | nil=>rfl
  | cons p r ih=>
    rw [keys_cons] at hl
    have h1:=hl p.1 (by simp)
    unfold ins
    rw [if_neg (by omega),ih (fun x hx=>hl x (by simp [hx]))]
    rfl
theorem Dj (f:V->U) (h:Int) (v:V) (us:Used V):(ins h v us).map (fun p=>(p.1,f p.2))=ins h (f v) (us.map fun p=>(p.1,f p.2)):=by
  induction us with
  | nil=>rfl
  | cons p r ih=>unfold ins;simp only [List.map_cons];split<;>simp_all
theorem Dk (f:V->U) (h:Int) (us:Used V):(del h us).map (fun p=>(p.1,f p.2))=del h (us.map fun p=>(p.1,f p.2)):=by
  unfold del;rw [List.filter_map];rfl
theorem lI (h:Int) (us:Used V):keys (del h us)=(keys us).filter (· != h):=by
  unfold keys del;rw [List.filter_map];rfl
theorem rE (h:Int) (us:Used V) (x:Int):get (del h us) x=if x=h then none else get us x:=by
  by_cases e:x=h
  ·subst e
   rw [if_pos rfl,get_none,lI]
   simp
  rw [if_neg e]
  unfold get del
  rw [List.find?_filter]
  congr 2
  funext p
  by_cases e2:p.1=x
  ·simp [e2,e]
  simp [e2]
theorem mZ {h:Int} {us:Used V} (hr:bN (keys us)) (hm:h∈keys us):(del h us).length+1=us.length:=by
  induction us with
  | nil=>simp [keys] at hm
  | cons p r ih=>
    unfold bN at *
    rw [keys_cons,List.pairwise_cons] at hr
    unfold del at ih ⊢
    rw [List.filter_cons]
    by_cases e:p.1=h
    ·have:r.filter (fun q=>q.1 != h)=r:=by
       rw [List.filter_eq_self]
       intro q hq
       have:=hr.1 q.1 (List.mem_map_of_mem hq)
       simp;omega
     simp [e,this]
    rw [keys_cons,List.mem_cons] at hm
    have:=ih hr.2 (hm.resolve_left (Ne.symm e))
    simp [e];omega
theorem kN:∀ (ks:List Int) (h:Int),bN ks->(∀ x∈ks,h<=x)->h<=fX h ks/\fX h ks∉ks/\∀ x,h<=x->x < fX h ks->x∈ks
  | [],h,_,_=>⟨Int.le_refl _,by simp [fX],fun x h1 h2=>by simp [fX] at h2;omega⟩
  | k::r,h,hr,hge=>by
    unfold bN at hr
    rw [List.pairwise_cons] at hr
    unfold fX
    by_cases e:k=h
    ·rw [if_pos e]
     obtain⟨i1,i2,i3⟩:=kN r (h+1) hr.2 (fun x hx=>by have:=hr.1 x hx;omega)
     refine⟨by omega,?_,fun x h1 h2=>?_⟩
     ·rw [List.mem_cons,not_or];exact⟨by omega,i2⟩
     by_cases e2:x=h
     ·rw [e2,← e];simp
     exact List.mem_cons_of_mem _ (i3 x (by omega) h2)
    rw [if_neg e]
    refine⟨Int.le_refl _,?_,fun x h1 h2=>by omega⟩
    rw [List.mem_cons,not_or]
    refine⟨Ne.symm e,fun hm=>?_⟩
    have h1:=hr.1 h hm
    have h2:=hge k (by simp)
    omega
theorem tQ {us:Used V} (hr:bN (keys us)) (hp:∀ x∈keys us,1<=x) {h:Int} (h1:1<=h) (hn:h∉keys us) (hall:∀ x,1<=x->x < h->x∈keys us):least us=h:=by
  obtain⟨i1,i2,i3⟩:=kN (keys us) 1 hr hp
  unfold least
  rcases Int.lt_trichotomy (fX 1 (keys us)) h with hlt|he|hgt
  ·exact absurd (hall _ i1 hlt) i2
  ·exact he
  exact absurd (i3 h h1 hgt) hn
theorem TI.empty:TI 1 [] ([]:Used V):=
  ⟨List.Pairwise.nil,by simp [keys],by simp,fun h h1 h2=>by omega,rfl,fun i h1 h2=>by simp at h2,fun a b h1=>by simp at h1⟩
theorem TI.xg {next:Int} {us:Used V} (h:TI next [] us):least us=next:=by
  have hc:=h.count
  simp at hc
  refine tQ h.rise (fun x hx=>(h.pos x hx).1) (by omega) (fun hm=>?_) (fun x h1 h2=>(h.all x h1 h2).resolve_right (by simp))
  have:=(h.pos _ hm).2;omega
theorem TI.Hy {next:Int} {us:Used V} (h:TI next [] us) (v:V):TI (next+1) [] (ins next v us):=by
  have hc:=h.count
  simp at hc
  have hn:next∉keys us:=fun hm=>by have:=(h.pos _ hm).2;omega
  refine⟨rZ h.rise hn,fun x hx=>?_,by simp,fun x h1 h2=>?_,by rw [gy];simp;omega,fun i h1 h2=>by simp at h2,fun a b h1=>by simp at h1⟩
  ·rcases (jK next v us x).1 hx with e|e
   ·omega
   have:=h.pos x e;omega
  by_cases e:x=next
  ·exact .inl ((jK next v us x).2 (.inl e))
  exact .inl ((jK next v us x).2 (.inr ((h.all x h1 (by omega)).resolve_right (by simp))))
theorem TI.xh {next:Int} {l:List Int} {us:Used V} (h:TI next l us) (hl:0 < l.length):least us=at_ l 0:=by
  have hm:at_ l 0∈l:=pU.2 ⟨0,hl,rfl⟩
  obtain⟨b1,b2,b3⟩:=h.back _ hm
  refine tQ h.rise (fun x hx=>(h.pos x hx).1) b1 b3 (fun x h1 h2=>(h.all x h1 (by omega)).resolve_right (fun hx=>?_))
  obtain⟨k,hk,e⟩:=pU.1 hx
  have:=ck.least h.heap k hk
  omega
theorem TI.Hz {next:Int} {l l':List Int} {us:Used V} (h:TI next l us) (hl:0 < l.length) (v:V) (hlen:l'.length+1=l.length) (hp:Hp l'.length l') (hi:tO l') (hm:∀ x,x∈l'↔x∈l/\x≠at_ l 0) :
    TI next l' (ins (at_ l 0) v us):=by
  have h0:at_ l 0∈l:=pU.2 ⟨0,hl,rfl⟩
  obtain⟨b1,b2,b3⟩:=h.back _ h0
  have hc:=h.count
  refine⟨rZ h.rise b3,fun x hx=>?_,fun x hx=>?_,fun x h1 h2=>?_,by rw [gy];push_cast;omega,hp,hi⟩
  ·rcases (jK _ v us x).1 hx with e|e
   ·omega
   exact h.pos x e
  ·have hx':=(hm x).1 hx
   have:=h.back x hx'.1
   refine⟨this.1,this.2.1,fun hk=>?_⟩
   rcases (jK _ v us x).1 hk with e|e
   ·exact hx'.2 e
   exact this.2.2 e
  by_cases e:x=at_ l 0
  ·exact .inl ((jK _ v us x).2 (.inl e))
  rcases h.all x h1 h2 with h3|h3
  ·exact .inl ((jK _ v us x).2 (.inr h3))
  exact .inr ((hm x).2 ⟨h3,e⟩)
theorem TI.drop {next h0:Int} {l l':List Int} {us:Used V} (h:TI next l us) (hm:h0∈keys us) (hs:Same (l++[h0]) l') (hp:Hp l'.length l'):TI next l' (del h0 us):=by
  obtain⟨p1,p2⟩:=h.pos _ hm
  have hn:h0∉l:=fun hx=>(h.back _ hx).2.2 hm
  have hlen:=hs.len
  rw [List.length_append,List.length_singleton] at hlen
  have hc:=h.count
  have hd:=mZ h.rise hm
  refine⟨?_,fun x hx=>?_,fun x hx=>?_,fun x h1 h2=>?_,by omega,hp,hs.inj ?_⟩
  ·rw [lI];exact List.Pairwise.filter _ h.rise
  ·rw [lI,List.mem_filter] at hx
   exact h.pos x hx.1
  ·rw [hs.mem,List.mem_append,List.mem_singleton] at hx
   rw [lI,List.mem_filter]
   rcases hx with hx|hx
   ·have:=h.back x hx
    exact⟨this.1,this.2.1,fun hk=>this.2.2 hk.1⟩
   subst hx
   exact⟨p1,p2,fun hk=>by simp at hk⟩
  ·rw [lI,List.mem_filter,hs.mem,List.mem_append,List.mem_singleton]
   rcases h.all x h1 h2 with h3|h3
   ·by_cases e:x=h0
    ·exact .inr (.inr e)
    exact .inl ⟨h3,by simpa using e⟩
   exact .inr (.inl h3)
  intro a b ha hb e
  rw [List.length_append,List.length_singleton] at ha hb
  have g:∀ k,k < l.length->at_ (l++[h0]) k=at_ l k:=fun k hk=>by
    unfold at_;rw [List.getD_eq_getElem?_getD,List.getD_eq_getElem?_getD,List.getElem?_append_left hk]
  have g2:at_ (l++[h0]) l.length=h0:=by unfold at_;simp [List.getD_eq_getElem?_getD]
  have inl:∀ k,k < l.length->at_ l k≠h0:=fun k hk e=>hn (e ▸ pU.2 ⟨k,hk,rfl⟩)
  by_cases ha':a < l.length
  ·by_cases hb':b < l.length
   ·rw [g a ha',g b hb'] at e;exact h.inj a b ha' hb' e
   obtain rfl:b=l.length:=by omega
   rw [g a ha',g2] at e;exact absurd e (inl a ha')
  obtain rfl:a=l.length:=by omega
  by_cases hb':b < l.length
  ·rw [g b hb',g2] at e;exact absurd e.symm (inl b hb')
  omega
end Go.Proofs.YtaepnjbceganhaaGreat.aB
end
namespace Go.Proofs.YtaepnjbceganhaaGreat
section
open Go.RowKit ck aB Go.Maps
def aV (us:Used Value):Lit->Option Value
  | .int .i64 h=>aB.get us h
  | _=>none
theorem yu {us:Used Value} {h:Int} (hn:h∉keys us) (v:Value):jP (aV us) (.int .i64 h) (some v)=aV (ins h v us):=by
  funext x
  unfold jP aV
  cases x with
  | int k n=>
    by_cases hk:k=.i64
    ·subst hk
     simp only [Lit.sameKey,true_and,decide_eq_true_eq]
     rw [rC hn]
    have e:(Lit.int k n).sameKey (.int .i64 h)=false:=by simp [Lit.sameKey,hk]
    rw [e]
    cases k<;>first|rfl|exact absurd rfl hk
  | _=>rfl
theorem Dl {us:Used Value} {h:Int}:jP (aV us) (.int .i64 h) none=aV (del h us):=by
  funext x
  unfold jP aV
  cases x with
  | int k n=>
    by_cases hk:k=.i64
    ·subst hk
     simp only [Lit.sameKey,true_and,decide_eq_true_eq]
     rw [rE]
    have e:(Lit.int k n).sameKey (.int .i64 h)=false:=by simp [Lit.sameKey,hk]
    rw [e]
    cases k<;>first|rfl|exact absurd rfl hk
  | _=>rfl
structure N6 (TT:TypeId) (t m base:Nat) (v:Value) (l:List Int) (next most av:Int) (us:Used Value) (w:World):Prop where
  blk:w.heap[t]?=some (.cells #[.int .i64 most,.int .i64 av,.map (some m),v,.int .i64 next] TT (0,0))
  map:dY Tryz.prog 3 w m (aV us) us.length
  own:w.ownsRow base 3 1 v l.length (ints l)
  ti:TI next l us
  oK:(us.length:Int)<=most
  oL:most<=1024
  oM:next<=most+1
  tt:TT≠3
  bt:base<=t
  bm:base<=m
  qu:0<=av/\av<=1024
def Qe (TT:TypeId) (t m base:Nat) (row:Option Nat) (most av:Int) (us:Used Value) (w:World):Prop:=
  ∃ v l next,N6 TT t m base v l next most av us w/\v.ownBlock=row
section tab
variable {TT:TypeId} {t m base:Nat} {v:Value} {l:List Int} {next most av:Int} {us:Used Value} {w w':World} {row:Option Nat}
end tab
end
section
open Go.RowKit ck aB Go.Maps
theorem Spec.Ng {P:Program} {β:Bs} {f:FuncId} {args:Array Value} {pre:List HP} {post:Value->List HP->Prop}
    (h:∀ F w,(Proofs.YtaepnjbceganhaaGreat.ja pre).h F w->Calls P f args w fun e w'=>∃ v l,e=.returned v/\post v l/\∃ F',(Proofs.YtaepnjbceganhaaGreat.ja l).h F' w'/\Step F w F' w'):Spec P β f args pre post:=by
  intro R w hS
  have h1:Sat β ([.abs (Proofs.YtaepnjbceganhaaGreat.ja pre)]++[.abs R]) w:=Sat.turn (Sat.turn hS).ja
  have h2:Spec P β f args [.abs (Proofs.YtaepnjbceganhaaGreat.ja pre)] (fun v l=>∃ l0,post v l0/\l=[.abs (Proofs.YtaepnjbceganhaaGreat.ja l0)]):=
    Spec.OL (fun F w hF=>(h F w hF).mono fun _ _ ⟨v,l,e,hp,hF'⟩=>⟨v,.abs (Proofs.YtaepnjbceganhaaGreat.ja l),e,⟨l,hp,rfl⟩,hF'⟩)
  refine (h2 R w h1).mono ?_
  rintro e w' ⟨v,l,he,⟨l0,hp,rfl⟩,rz⟩
  exact⟨v,l0,he,hp,Sat.turn (Sat.turn rz).sW⟩
theorem z8 {p q:HP} {F:Fp} {w:World}:(ja [p,q]).h F w↔∃ F1 F2,p.h F1 w/\q.h F2 w/\Apart F1 F2/\∀ k,F k↔F1 k\/F2 k:=by
  constructor
  ·rintro⟨φ,h1,h2,h3⟩
   refine⟨φ 0,φ 1,h1 0 p rfl,h1 1 q rfl,h2 0 1 (by simp) (by simp) (by decide),fun k=>(h3 k).trans ⟨fun ⟨i,hi,hk⟩=>?_,fun h=>?_⟩⟩
   ·have hi:i < 2:=hi
    rcases (by omega:i=0\/i=1) with rfl|rfl
    ·exact .inl hk
    exact .inr hk
   rcases h with h|h
   ·exact⟨0,by simp,h⟩
   exact⟨1,by simp,h⟩
  rintro⟨F1,F2,h1,h2,h3,h4⟩
  refine⟨fun i=>if i=0 then F1 else F2,fun i x hx=>?_,fun i j hi hj hne=>?_,fun k=>(h4 k).trans ⟨fun h=>?_,fun ⟨i,hi,hk⟩=>?_⟩⟩
  ·match i,hx with
   | 0,hx=>cases hx;exact h1
   | 1,hx=>cases hx;exact h2
  ·have hi:i < 2:=hi
   have hj:j < 2:=hj
   rcases (by omega:(i=0/\j=1)\/(i=1/\j=0)) with ⟨rfl,rfl⟩|⟨rfl,rfl⟩
   ·exact h3
   exact h3.symm
  ·rcases h with h|h
   ·exact⟨0,by simp,h⟩
   exact⟨1,by simp,h⟩
  have hi:i < 2:=hi
  rcases (by omega:i=0\/i=1) with rfl|rfl
  ·exact .inl hk
  exact .inr hk
theorem Sat.MP {β:Bs} {l:List HP} {w:World} {A:bY} {ι:Type} {Φ:ι->Prop} {L:ι->List HP} (h:Sat β (l++[.abs A]) w) (hA:∀ F,A.h F w->∃ i,Φ i/\(Proofs.YtaepnjbceganhaaGreat.ja (L i)).h F w):∃ i,Φ i/\Sat β (l++L i) w:=by
  obtain⟨F,hF⟩:=h.get (i:=l.length) (p:=.abs A) (by simp)
  have h0:=h
  obtain⟨ho,φ,h1,h2,h3⟩:=h
  obtain⟨i,hi,hB⟩:=hA _ (h1 l.length (.abs A) (by simp))
  refine⟨i,hi,Sat.sW ⟨ho,φ,fun j p hp=>?_,fun j hj=>h2 j (by simpa using hj),fun a b ha hb=>h3 a b (by simpa using ha) (by simpa using hb)⟩⟩
  by_cases e:j < l.length
  ·rw [List.getElem?_append_left e] at hp
   exact h1 j p (by rw [List.getElem?_append_left e];exact hp)
  have hj:j=l.length:=by have:=bh hp;simp at this;omega
  subst hj
  simp at hp
  subst hp
  exact hB
theorem Sat.Lb {β:Bs} {l R:List HP} {w:World} {A:bY} (h:Sat β (l++R) w) (hA:∀ F,(Proofs.YtaepnjbceganhaaGreat.ja R).h F w->A.h F w):Sat β (l++[.abs A]) w:=by
  obtain⟨ho,φ,h1,h2,h3⟩:=h.ja
  refine⟨ho,φ,fun j p hp=>?_,fun j hj=>h2 j (by simpa using hj),fun a b ha hb=>h3 a b (by simpa using ha) (by simpa using hb)⟩
  by_cases e:j < l.length
  ·rw [List.getElem?_append_left e] at hp
   exact h1 j p (by rw [List.getElem?_append_left e];exact hp)
  have hj:j=l.length:=by have:=bh hp;simp at this;omega
  subst hj
  simp at hp
  subst hp
  exact hA _ (h1 l.length (.abs (Proofs.YtaepnjbceganhaaGreat.ja R)) (by simp))
section rules
variable {P:Program} {β:Bs} {N:Nat} {ops:Array Oper} {k:Nat} {fr:Fr} {hps:List HP} {Q:Post} {c:Code} {e:Exit}
theorem af.vZ {ι:Type} {Φ:ι->Prop} {hp:ι->List HP} (h:∀ w,Sat β hps w->∃ i,Φ i/\Sat β (hp i) w) (K:∀ i,Φ i->af P β N c fr (hp i) Q):af P β N c fr hps Q:=fun junk w hS=>let ⟨i,hi,di⟩:=h w hS;K i hi junk w di
end rules
theorem sN {w:World} {t j:Nat} {cs:List Value} {T:TypeId} {u:Value} (h:w.heap[t]?=some (.cells ⟨cs⟩ T (0,0))):(w.setCell ⟨t,j,none⟩ u).heap[t]?=some (.cells ⟨cs.set j u⟩ T (0,0)):=by
  simp [World.setCell,Array.getElem?_modify,h,Array.setIfInBounds_def]
  exact fun h=>(List.set_eq_of_length_le h).symm
theorem Lc {β:Bs} {T:TypeId} {a b c e:Value} {t g cap n:Nat} {l:List Int} (hl:l.length=n+1) (hp:Hp (n+1) l) (hi:tO l) (hm:n+1<=1048576) :
    Spec Tryz.prog β 120 #[.iface 154 (.pointer (some ⟨t,3,none⟩))] [.blk t [a,b,c,.slice (some ⟨g,0,none⟩) l.length cap,e] T,.abs (aC 3 1 (some ⟨g,0,none⟩) l.length cap (ints l))]
      (fun v r=>v=.iface 3 (.int .i64 (at_ l 0))/\∃ l':List Int,l'.length=n/\Hp n l'/\tO l'/\(∀ x,x∈l'↔x∈l/\x≠at_ l 0)/\r=[.blk t [a,b,c,.slice (some ⟨g,0,none⟩) n cap,e] T,.abs (aC 3 1 (some ⟨g,0,none⟩) n cap (ints l'))]):=by
  refine Spec.Ng (fun F w h=>?_)
  obtain⟨F1,F2,⟨h1,h2⟩,hr,hap,hF⟩:=z8.1 h
  have hr:(aC 3 1 (some ⟨g,0,none⟩) l.length cap (ints l)).h F2 w:=hr
  obtain⟨hr1,hr2⟩:=hr
  have hg:F2 g:=(hr2 g).2 rfl
  have hne:t≠g:=fun e=>hap t ((h2 t).2 rfl) (e ▸ hg)
  have hc:w.cell? ⟨t,3,none⟩=some (.slice (some ⟨g,0,none⟩) l.length cap)/\w.frozen? ⟨t,3,none⟩=false:=eZ h1 rfl rfl rfl
  have hW:HW t 3 g cap 0 l w:=⟨hc.1,hr1,hne,lt_of_some h1⟩
  refine (Hv t 3 g cap 0 n l w hW hl hp hi hm hc.2).mono ?_
  rintro e' w' ⟨rfl,l',w1,g1,g2,g3,g4,g5,g6,rfl⟩
  have h1':w1.heap[t]?=some (.cells ⟨[a,b,c,.slice (some ⟨g,0,none⟩) l.length cap,e]⟩ T (0,0)):=(g6.block t (lt_of_some h1) (fun e=>hne e)).trans h1
  have hks:Keeps (·=t) w1 (w1.setCell ⟨t,3,none⟩ (.slice (some ⟨g,0,none⟩) n cap)):=(Keeps.refl (·=t) w1).setCell (p:=⟨t,3,none⟩) (.inr rfl) _
  refine⟨_,_,rfl,⟨rfl,l',g1,g2,g3,g4,rfl⟩,F,z8.2 ⟨F1,F2,⟨sN h1',h2⟩,⟨hks.ownsRow g5 (fun k hk e=>?_),fun k=>?_⟩,hap,hF⟩,⟨?_,fun _ h=>.inl h⟩⟩
  ·cases hk;exact hne e.symm
  ·rw [hr2 k];simp [Value.ownBlock]
  exact (g6.mono (S':=F) (fun k _ e=>(hF k).2 (.inr (e ▸ hg)))).trans (hks.mono (fun k _ e=>(hF k).2 (.inl ((h2 k).2 e))))
theorem J5 {β:Bs} {T:TypeId} {a b c e:Value} {t cap:Nat} {A:Option Addr} {l:List Int} (x:Int) (hp:Hp l.length l) (hm:l.length+1<=1048576) :
    Spec Tryz.prog β 96 #[.iface 154 (.pointer (some ⟨t,3,none⟩)),.iface 3 (.int .i64 x)] [.blk t [a,b,c,.slice A l.length cap,e] T,.abs (aC 3 1 A l.length cap (ints l))]
      (fun v r=>v=.tuple #[]/\∃ (g c':Nat) (l':List Int),Same (l++[x]) l'/\Hp l'.length l'/\r=[.blk t [a,b,c,.slice (some ⟨g,0,none⟩) l'.length c',e] T,.abs (aC 3 1 (some ⟨g,0,none⟩) l'.length c' (ints l'))]):=by
  refine Spec.Ng (fun F w h=>?_)
  obtain⟨F1,F2,⟨h1,h2⟩,hr,hap,hF⟩:=z8.1 h
  have hr:(aC 3 1 A l.length cap (ints l)).h F2 w:=hr
  obtain⟨hr1,hr2⟩:=hr
  have hc:w.cell? ⟨t,3,none⟩=some (.slice A l.length cap)/\w.frozen? ⟨t,3,none⟩=false:=eZ h1 rfl rfl rfl
  have hne:(Value.slice A l.length cap).ownBlock≠some t:=fun e=>hap t ((h2 t).2 rfl) ((hr2 t).2 e)
  refine (FT t 3 0 (.slice A l.length cap) l x w hc.1 hc.2 hr1 hne hm (Nat.zero_le _) hp (lt_of_some h1)).mono ?_
  rintro e' w' ⟨rfl,g,c',l',g1,g2,g3,g4,w1,g5,g6⟩
  have Dm:t≠g:=g3.ne
  have hlen:l'.length=l.length+1:=by have:=g1.len;simp at this;omega
  have h1':w1.heap[t]?=some (.cells ⟨[a,b,c,.slice A l.length cap,e]⟩ T (0,0)):=(g5.block t (lt_of_some h1) hne).trans h1
  have Ld:=sN (j:=3) (u:=.slice (some ⟨g,0,none⟩) (l.length+1) c') h1'
  have N7:w'.heap[t]?=some (.cells ⟨[a,b,c,.slice (some ⟨g,0,none⟩) l'.length c',e]⟩ T (0,0)):=by
    rw [hlen];exact (g6.block t (lt_of_some Ld) Dm).trans Ld
  have hks:Keeps (·=t) w1 (w1.setCell ⟨t,3,none⟩ (.slice (some ⟨g,0,none⟩) (l.length+1) c')):=(Keeps.refl (·=t) w1).setCell (p:=⟨t,3,none⟩) (.inr rfl) _
  refine⟨_,_,rfl,⟨rfl,g,c',l',g1,g2,rfl⟩,fun k=>F1 k\/k=g,z8.2 ⟨F1,fun k=>k=g,⟨N7,h2⟩,⟨g3.own,fun k=>?_⟩,fun k hk e=>Dm (((h2 k).1 hk).symm.trans e),fun k=>Iff.rfl⟩,⟨?_,fun k hk=>?_⟩⟩
  ·simp [Value.ownBlock,eq_comm]
  ·have k1:Keeps F w w1:=g5.mono (fun k _ hk=>(hF k).2 (.inr ((hr2 k).2 hk)))
   have k2:Keeps F w (w1.setCell ⟨t,3,none⟩ (.slice (some ⟨g,0,none⟩) (l.length+1) c')):=k1.trans (hks.mono (fun k _ e=>(hF k).2 (.inl ((h2 k).2 e))))
   exact k2.andThen g6 (fun i hi e=>by
     rcases g4 with g4|g4
     ·exact (hF i).2 (.inr ((hr2 i).2 (e ▸ g4)))
     subst e;omega)
  rcases hk with hk|rfl
  ·exact .inl ((hF k).2 (.inl hk))
  rcases g4 with g4|g4
  ·exact .inl ((hF _).2 (.inr ((hr2 _).2 g4)))
  exact .inr g4
structure eN (next:Int) (l:List Int) (us:Used Value) (most av:Int):Prop where
  ti:TI next l us
  oK:(us.length:Int)<=most
  oL:most<=1024
  oM:next<=most+1
  r8:next<=av+1
  qu:0<=av/\av<=1024
theorem eN.Bn {next:Int} {l:List Int} {us:Used Value} {most av:Int} (h:eN next l us most av):1<=aB.least us/\aB.least us<=next/\aB.least us∉keys us/\next<=1025/\1<=next/\us.length<=1024/\l.length<=1024:=by
  obtain⟨h1,h2,h3⟩:=kN (keys us) 1 h.ti.rise (fun x hx=>(h.ti.pos x hx).1)
  have hc:=h.ti.count
  have m0:=h.oK
  have m1:=h.oL
  have n1:=h.oM
  refine⟨h1,?_,h2,by omega,by omega,by omega,by omega⟩
  rcases Int.lt_or_le next (aB.least us) with h4|h4
  ·have:=h3 next (by omega) h4
   have:=(h.ti.pos _ this).2
   omega
  exact h4
theorem Bo:aV []=fun _=>none:=by
  funext x
  unfold aV
  split<;>rfl
theorem zx {us:Used Value} {h:Int} (hn:h∉keys us):aV us (.int .i64 h)=none:=get_none.2 hn
structure TX where
  m:Nat
  A:Option Addr
  c:Nat
  l:List Int
  next:Int
def jL (TT:TypeId) (t:Nat) (most av:Int) (us:Used Value) (x:TX):List HP:=
  [.blk t [.int .i64 most,.int .i64 av,.map (some x.m),.slice x.A x.l.length x.c,.int .i64 x.next] TT,.abs (aN Tryz.prog 3 x.m (aV us) us.length),.abs (aC 3 1 x.A x.l.length x.c (ints x.l))]
def bH (TT:TypeId) (t:Nat) (most av:Int) (us:Used Value):bY where
  h F w:=∃ x:TX,eN x.next x.l us most av/\(ja (jL TT t most av us x)).h F w
  lt:=fun ⟨_,_,h⟩ k hk=>bY.lt _ h k hk
  st:=fun ⟨x,h1,h⟩ _ _ hk hn=>⟨x,h1,bY.st _ h hk hn⟩
theorem Sat.ng {β:Bs} {TT:TypeId} {t:Nat} {most av:Int} {us:Used Value} {l:List HP} {w:World} (h:Sat β (l++[.abs (bH TT t most av us)]) w):∃ x:TX,eN x.next x.l us most av/\Sat β (l++jL TT t most av us x) w:=
  h.MP (fun _ h=>h)
theorem Sat.jM {β:Bs} {TT:TypeId} {t:Nat} {most av:Int} {us:Used Value} {l:List HP} {w:World} (x:TX) (hx:eN x.next x.l us most av) (h:Sat β (l++jL TT t most av us x) w):Sat β (l++[.abs (bH TT t most av us)]) w:=
  h.Lb (fun _ h=>⟨x,hx,h⟩)
end
section
open Go.RowKit Go.Maps Go.Sort Go.Shelf ck aB
theorem jf {z:Int} (h:(Lit.int .i64 z).wf=true):keyOf Tryz.prog 3 (.int .i64 z)=some (.int .i64 z):=
  keyOf_int_mk Tryz.underlying3 h
theorem zy:∀ {l m:List Int},l.Pairwise (· < ·)->m.Pairwise (· < ·)->(∀ z,z∈l↔z∈m)->l=m
  | [],[],_,_,_=>rfl
  | [],b::m,_,_,h=>by have:=(h b).2 (List.mem_cons_self ..);cases this
  | a::l,[],_,_,h=>by have:=(h a).1 (List.mem_cons_self ..);cases this
  | a::l,b::m,hl,hm,h=>by
    have hl':=List.pairwise_cons.1 hl
    have hm':=List.pairwise_cons.1 hm
    have e:a=b:=by
      rcases List.mem_cons.1 ((h a).1 (List.mem_cons_self ..)) with e|e
      ·exact e
      rcases List.mem_cons.1 ((h b).2 (List.mem_cons_self ..)) with e2|e2
      ·exact e2.symm
      have:=hm'.1 a e;have:=hl'.1 b e2;omega
    subst e
    congr 1
    refine zy hl'.2 hm'.2 (fun z=>⟨fun hz=>?_,fun hz=>?_⟩)
    ·rcases List.mem_cons.1 ((h z).1 (List.mem_cons_of_mem _ hz)) with e|e
     ·have:=hl'.1 z hz;omega
     exact e
    rcases List.mem_cons.1 ((h z).2 (List.mem_cons_of_mem _ hz)) with e|e
    ·have:=hm'.1 z hz;omega
    exact e
theorem Eg (x y:Int):(if y > x then y else x)=max x y:=by
  rw [Int.max_def];split<;>split<;>omega
theorem Jw (x y:Int):(if y < x then y else x)=min x y:=by
  rw [Int.min_def];split<;>split<;>omega
theorem Le (m:Nat):AnyZI.SortsIn Tryz.prog Tryz.sortedI_ren Fence.wide m:=
  ⟨fun blk off cap ss W hH hblk hsz=>callsIn_wide.2 (AnyM.slices_Sort_int Tryz.sortI blk off cap ss W hH hblk hsz),
   fun p cap W=>callsIn_wide.2 (AnyM.slices_Sort_int_none Tryz.sortI p cap W)⟩
def xj (bk:Nat):Value:=.func (.func 59) #[] #[.pointer (some ⟨bk,0,none⟩)]
theorem Bp {β:Bs} (mb:Option Nat):Spec Tryz.prog β 31 #[.map mb] [] (fun v l=>∃ bk,v=xj bk/\l=[.blk bk [.map mb] 60]):=
  Spec.Fg fun W _=>by
    have h:CallsIn Fence.wide 5 Tryz.prog 31 #[.map mb] W fun e w'=>e=.returned (xj W.heap.size)/\w'=W.alloc (.cells #[.map mb] 60):=AnyZI.keys_in Tryz.keysI Fence.wide 5 trivial rfl mb W
    refine ((callsIn_wide (n:=5)).1 h).mono ?_
    rintro e w' ⟨rfl,rfl⟩
    refine⟨_,_,rfl,⟨W.heap.size,rfl,rfl⟩,(Keeps.refl _ _).alloc _,fun k=>k=W.heap.size,⟨?_,fun k=>Iff.rfl⟩,fun k hk=>Nat.le_of_eq hk.symm⟩
    show (W.heap.push _)[W.heap.size]?=_
    simp
structure KeysOf (f:Lit->Option Value) (ss:List Int):Prop where
  mem:∀ z,z∈ss↔(f (.int .i64 z)).isSome=true
  sorted:ss.Pairwise (· < ·)
theorem Eh {w:World} {b n:Nat} {K:TypeId} {f:Lit->Option Value} {D:DataW Value} (hK:Tryz.prog.underlying K=some (.int .i64)) (L:Keyed Tryz.prog K) (hown:w.ownsMap Tryz.prog K oC b n D) (hf:∀ kl,Maps.has D kl=(f kl).isSome) {ss:List Int} (hp:ss.Perm (intKeys D)) :
    KeysOf f (ss.mergeSort (fun x y=>decide (x<=y))):=by
  obtain⟨es,hD,hpw,_⟩:=hown.entries L
  obtain⟨es',hD',hko⟩:=hown.keysOf
  obtain rfl:es=es':=by rw [hD] at hD';simpa using hD'
  have hk:∀ p∈es,∃ x,p.1=.int .i64 x:=fun p hp=>by
    obtain⟨v,hv⟩:=hko p hp
    obtain⟨x,_,h,_⟩:=keyOf_i64 hK hv
    exact⟨x,h⟩
  have hmem:∀ z,z∈intKeys D↔(f (.int .i64 z)).isSome=true:=fun z=>by
    rw [← hf,hD]
    show z∈es.map (fun p=>Go.intOf p.1)↔es.any (fun p=>p.1.sameKey (.int .i64 z))=true
    rw [List.mem_map,List.any_eq_true]
    refine⟨fun ⟨p,hp,e⟩=>⟨p,hp,?_⟩,fun ⟨p,hp,e⟩=>⟨p,hp,?_⟩⟩
    ·obtain⟨x,hx⟩:=hk p hp
     rw [hx] at e ⊢
     have e:x=z:=e
     simp [Lit.sameKey,e]
    obtain⟨x,hx⟩:=hk p hp
    rw [hx] at e ⊢
    show x=z
    simpa [Lit.sameKey] using e
  have hnd:(intKeys D).Nodup:=by
    rw [hD]
    show (es.map fun p=>Go.intOf p.1).Nodup
    rw [List.nodup_iff_pairwise_ne,List.pairwise_map]
    refine hpw.imp_of_mem (fun {p q} hp hq hne e=>hne ?_)
    obtain⟨x,hx⟩:=hk p hp
    obtain⟨y,hy⟩:=hk q hq
    rw [hx,hy] at e ⊢
    have e:x=y:=e
    rw [e]
  have tr:∀ a b c:Int,decide (a<=b)=true->decide (b<=c)=true->decide (a<=c)=true:=fun a b c h1 h2=>by simp only [decide_eq_true_eq] at *;omega
  have to:∀ a b:Int,(decide (a<=b) || decide (b<=a))=true:=fun a b=>by simp only [Bool.or_eq_true,decide_eq_true_eq];omega
  have hperm:=(List.mergeSort_perm ss (fun x y=>decide (x<=y))).trans hp
  refine⟨fun z=>by rw [hperm.mem_iff,hmem],?_⟩
  have h1:=List.pairwise_mergeSort tr to ss
  have h2:(ss.mergeSort (fun x y=>decide (x<=y))).Nodup:=hperm.nodup_iff.2 hnd
  rw [List.nodup_iff_pairwise_ne] at h2
  refine (h1.and h2).imp (fun {a b} h=>?_)
  have h3:=h.1
  have h4:=h.2
  simp only [decide_eq_true_eq] at h3
  omega
theorem xk {β:Bs} (b bk n:Nat) (f:Lit->Option Value) (hn:n<=16777216) :
    Spec Tryz.prog β 30 #[xj bk] [.abs (aN Tryz.prog 3 b f n),.blk bk [.map (some b)] 60] (fun v l=>∃ A cap ss,v=.slice A ss.length cap/\KeysOf f ss/\ss.length=n ∧
      l=[.abs (aN Tryz.prog 3 b f n),.blk bk [.map (some b)] 60,.abs (aC 3 1 A ss.length cap (ints ss))]):=by
  intro R w hS
  obtain⟨F1,h1⟩:=hS.get (i:=0) (p:=.abs (aN Tryz.prog 3 b f n)) rfl
  obtain⟨F2,h2⟩:=hS.get (i:=1) (p:=.blk bk [.map (some b)] 60) rfl
  obtain⟨D,hown,hsz,hhas,_⟩:=h1.1
  have hcell:w.cell? ⟨bk,0,none⟩=some (.map (some b)):=(eZ h2.1 rfl rfl rfl).1
  have hseq:SeqGives Fence.wide 2 Tryz.prog 59 #[.pointer (some ⟨bk,0,none⟩)] encZ (fun ss=>ss.Perm (intKeys D)) (Maps.size D) w:=
    AnyZI.keys_gives (ρ:=Tryz.keysI_ren) { Tryz.keysI with } Fence.wide _ trivial rfl (by omega) bk b n D w (lt_of_some h2.1) hcell hown
  have cS:=AnyZI.sorted_in Tryz.sortedI Fence.wide 5 trivial trivial trivial trivial rfl (by omega) (Le _) (enters_of Tryz.func58 (by kernel_rfl) rfl) 59 #[.pointer (some ⟨bk,0,none⟩)] trivial (enters_of Tryz.func59 (by kernel_rfl) rfl) _ _ (by rw [hsz];unfold maxLen;omega) (by rw [hsz];omega) _ hseq
  change CallsIn _ _ Tryz.prog 30 _ _ _ at cS
  refine ((callsIn_wide (n:=5)).1 cS).mono ?_
  rintro e w' ⟨v,ss,rfl,hp,hrow,hnil,hb⟩
  have hlen:(ss.mergeSort (fun x y=>decide (x<=y))).length=ss.length:=List.length_mergeSort ss
  have hkeys:=Eh Tryz.underlying3 dW hown hhas hp
  have sY:∃ A cap,v=.slice A ss.length cap:=by
    rcases hrow.2 with ⟨e1,e2⟩|⟨g,cp,cur,e1,_⟩
    ·exact⟨none,0,by rw [e1,e2]⟩
    exact⟨_,cp,e1⟩
  obtain⟨A,cap,rfl⟩:=sY
  have hn1:ss.length=n:=by
    rw [hp.length_eq,← hsz]
    obtain⟨es,hD,_⟩:=hown.entries dW
    rw [hD]
    exact List.length_map ..
  have hq:Sat β ([.abs (aN Tryz.prog 3 b f n),.blk bk [.map (some b)] 60,.abs R]++[.abs (aC 3 1 A ss.length cap (ints (ss.mergeSort (fun x y=>decide (x<=y)))))]) w':=by
    refine Sat.new (F:=fun k=>(Value.slice A ss.length cap).ownBlock=some k) hS ⟨?_,fun k=>Iff.rfl⟩ ⟨hb.os,hb.tape,hb.output,hb.size,fun k hk _=>hb.block k hk⟩ (fun k hk=>(hrow.lt k hk).1)
    refine⟨hrow.1,?_⟩
    rcases hrow.2 with h|⟨g,cp,cur,e1,_,h3,h4⟩
    ·exact .inl h
    exact .inr ⟨g,cp,cur,e1,Nat.zero_le _,h3,h4⟩
  refine⟨_,[.abs (aN Tryz.prog 3 b f n),.blk bk [.map (some b)] 60,.abs (aC 3 1 A ss.length cap (ints (ss.mergeSort (fun x y=>decide (x<=y)))))],rfl,⟨A,cap,ss.mergeSort (fun x y=>decide (x<=y)),by rw [hlen],hkeys,by rw [hlen];exact hn1,by rw [hlen]⟩,?_⟩
  exact hq.pick (idx:=[0,1,3,2]) rfl rfl
end
section
open Go.RowKit ck aB Go.Maps
attribute [local irreducible] ak aK af ai
theorem Dn {us:Used Value} {ss:List Int} (hr:aB.bN (keys us)) (h:KeysOf (aV us) ss):ss=keys us:=by
  refine zy h.sorted hr (fun z=>?_)
  rw [h.mem]
  show (aB.get us z).isSome=true↔z∈keys us
  refine⟨fun h=>?_,fun h=>?_⟩
  ·obtain⟨x,hx⟩:=Option.isSome_iff_exists.1 h;exact get_some hx
  cases hg:aB.get us z with
  | some x=>rfl
  | none=>exact absurd h (get_none.1 hg)
theorem Bq {β:Bs} (most:Int) :
    Spec Tryz.prog β 17 #[vI (most)] [] (fun v l=>∃ t,v=vP t/\l=[.abs (bH 110 t (min (max most 0) 1024) 0 [])]):=by
 refine Spec.enter Tryz.func17 rfl Tryz.ntmps17 (Nat.le_of_ble_eq_true rfl) (fun R=>?_)
 refine SR (gK 1 [] [] ?_)
 refine NS (gK 3 [(5,vI (min (max most 0) 1024))] [(1,p_ ⟨[],none,none,none,some (vI (max most 0))⟩ [(Value.int .i64 (if 0 > most then 0 else most))=(.int .i64 (max most 0))] ⟨congrArg (Value.int .i64) (Eg _ _),trivial⟩),(2,p_ ⟨[],none,none,none,some (vI (min (max most 0) 1024))⟩ [(Value.int .i64 (if 1024 < max most 0 then 1024 else max most 0))=(.int .i64 (min (max most 0) 1024))] ⟨congrArg (Value.int .i64) (Jw _ _),trivial⟩)] ?_)
 refine ak.lQ (d:=(some 6)) (t:=60) (fun _=>by kernel_rfl) Tryz.prog rfl 3 (fun m1=>?_)
 refine gN 3 (fun b2=>[(2,vP b2)]) (fun _=>[]) (fun _=>[]) (fun b2=>.blk b2 [vI (min (max most 0) 1024),vI 0,.map (some m1),.slice none (0) (0),vI 1] 110) (fun b2=>?_)
 refine NN (af.ret (ai.mem (cO:=[.abs R,.abs (aN Tryz.prog 3 m1 (fun _=>none) 0),.blk b2 [vI (min (max most 0) 1024),vI 0,.map (some m1),.slice none (0) (0),vI 1] 110,.abs (aC 3 1 none 0 0 ([]))]) (fun w hS=>hS.j8 (e:=3) (size:=1)) ?_))
 refine ai.mem (cO:=[.abs R,.abs (bH 110 b2 (min (max most 0) 1024) 0 [])]) (fun w hS=>Sat.jM (l:=[.abs R]) ⟨m1,none,0,[],1⟩ ⟨TI.empty,by show ((0:Nat):Int)<=min (max most 0) 1024;omega,by omega,by show (1:Int)<=min (max most 0) 1024+1;omega,by show (1:Int)<=0+1;decide,by decide⟩ (by rw [← Bo] at hS;exact hS.pick (idx:=[0,2,1,3]) (l':=[.abs R]++jL 110 b2 (min (max most 0) 1024) 0 [] ⟨m1,none,0,[],1⟩) rfl rfl)) ?_
 exact RT (vP b2) [1,0] (⟨b2,rfl,rfl⟩)
theorem FU {β:Bs} (t:Nat) (most av:Int) (us:Used Value) :
    Spec Tryz.prog β 41 #[vP t] [.abs (bH 110 t most av us)] (fun v l=>v=vI av/\l=[.abs (bH 110 t most av us)]):=by
 refine Spec.enter Tryz.func41 rfl Tryz.ntmps41 (Nat.le_of_ble_eq_true rfl) (fun R=>?_)
 refine af.seq (af.vZ (Φ:=fun x:TX=>eN x.next x.l us most av) (hp:=fun x=>[.abs R]++jL 110 t most av us x) (fun w hS=>(hS.pick (idx:=[1,0]) (l':=[.abs R]++[.abs (bH 110 t most av us)]) rfl rfl).ng) (fun x hT=>?_))
 obtain⟨m,A,c,l,next⟩:=x
 replace hT:eN next l us most av:=hT
 have hb:=hT.Bn
 have hm0:=hT.oK
 have hm1:=hT.oL
 have hn1:=hT.oM
 have hn2:=hT.r8
 have Br:=hT.qu
 have Dp:=hT.ti.count
 show af _ _ _ _ _ [.abs R,.blk t [vI (most),vI (av),.map (some m),.slice A (l.length) (c),vI (next)] 110,.abs (aN Tryz.prog 3 m (aV us) us.length),.abs (aC 3 1 A l.length c (ints l))] _
 refine af.region (gK 1 [] [] ?_)
 refine NS (gK 5 [(2,vI (av))] [(3,a_ 1 t)] ?_)
 refine NN (af.ret (ai.mem (cO:=[.abs R,.abs (bH 110 t most av us)]) (fun w hS=>Sat.jM (l:=[.abs R]) ⟨m,A,c,l,next⟩ (show eN (next) l (us) most (av) from hT) (hS.pick (idx:=[0,1,2,3]) (l':=[.abs R]++jL 110 t most (av) (us) ⟨m,A,c,l,next⟩) rfl rfl)) ?_))
 exact RT (vI (av)) [1,0] (⟨rfl,rfl⟩)
theorem jN {β:Bs} (t:Nat) (most av:Int) (us:Used Value) (h:Int) (hw:(Lit.int .i64 h).wf=true) (x:Value) (hg:aB.get us h=some x) :
    Spec Tryz.prog β 77 #[vP t,vI (h)] [.abs (bH 110 t most av us)] (fun v l=>v=.tuple #[x,vI 0]/\l=[.abs (bH 110 t most av us)]):=by
 refine Spec.enter Tryz.func77 rfl Tryz.ntmps77 (Nat.le_of_ble_eq_true rfl) (fun R=>?_)
 refine af.seq (af.vZ (Φ:=fun x:TX=>eN x.next x.l us most av) (hp:=fun x=>[.abs R]++jL 110 t most av us x) (fun w hS=>(hS.pick (idx:=[1,0]) (l':=[.abs R]++[.abs (bH 110 t most av us)]) rfl rfl).ng) (fun x hT=>?_))
 obtain⟨m,A,c,l,next⟩:=x
 replace hT:eN next l us most av:=hT
 have hb:=hT.Bn
 have hm0:=hT.oK
 have hm1:=hT.oL
 have hn1:=hT.oM
 have hn2:=hT.r8
 have Br:=hT.qu
 have Dp:=hT.ti.count
 show af _ _ _ _ _ [.abs R,.blk t [vI (most),vI (av),.map (some m),.slice A (l.length) (c),vI (next)] 110,.abs (aN Tryz.prog 3 m (aV us) us.length),.abs (aC 3 1 A l.length c (ints l))] _
 refine af.region (gK 2 [] [] ?_)
 refine NS (gK 5 [(12,.map (some m)),(13,vI (h))] [(3,a_ 1 t)] ?_)
 refine ak.qi 2 (d:=(some 14)) (t:=60) (K:=3) (E:=64) (b:=m) (n:=us.length) (f:=(aV us)) (x:=(.tmp 12)) (ix:=(.tmp 13)) (key:=.int .i64 (h)) (z:=.nilIface) (kl:=(.int .i64 h)) (r:=(some x)) (fun _=>by kernel_rfl) (by kernel_rfl) (fun _=>by kernel_rfl) (fun _=>by kernel_rfl) dW Tryz.underlying60 (fun _=>by kernel_rfl) (jf hw) (hg) ?_
 refine gK 5 [(6,x),(7,.bool true)] [] ?_
 refine NN (af.seq (SR (gK 2 [(18,.bool false)] [] ?_)))
 refine NN (CF (af.skip (NX (SR (gK 3 [(4,x),(5,vI 0)] [] ?_)))))
 refine NN (af.ret (ai.mem (cO:=[.abs R,.abs (bH 110 t most av us)]) (fun w hS=>Sat.jM (l:=[.abs R]) ⟨m,A,c,l,next⟩ (show eN (next) l (us) most (av) from hT) (hS.pick (idx:=[0,1,2,3]) (l':=[.abs R]++jL 110 t most (av) (us) ⟨m,A,c,l,next⟩) rfl rfl)) ?_))
 exact RT (.tuple #[x,vI 0]) [1,0] (⟨rfl,rfl⟩)
theorem nQ {β:Bs} (t:Nat) (most av:Int) (us:Used Value) (h:Int) (hw:(Lit.int .i64 h).wf=true) (hg:aB.get us h=none) :
    Spec Tryz.prog β 77 #[vP t,vI (h)] [.abs (bH 110 t most av us)] (fun v l=>v=.tuple #[.nilIface,vI 131]/\l=[.abs (bH 110 t most av us)]):=by
 refine Spec.enter Tryz.func77 rfl Tryz.ntmps77 (Nat.le_of_ble_eq_true rfl) (fun R=>?_)
 refine af.seq (af.vZ (Φ:=fun x:TX=>eN x.next x.l us most av) (hp:=fun x=>[.abs R]++jL 110 t most av us x) (fun w hS=>(hS.pick (idx:=[1,0]) (l':=[.abs R]++[.abs (bH 110 t most av us)]) rfl rfl).ng) (fun x hT=>?_))
 obtain⟨m,A,c,l,next⟩:=x
 replace hT:eN next l us most av:=hT
 have hb:=hT.Bn
 have hm0:=hT.oK
 have hm1:=hT.oL
 have hn1:=hT.oM
 have hn2:=hT.r8
 have Br:=hT.qu
 have Dp:=hT.ti.count
 show af _ _ _ _ _ [.abs R,.blk t [vI (most),vI (av),.map (some m),.slice A (l.length) (c),vI (next)] 110,.abs (aN Tryz.prog 3 m (aV us) us.length),.abs (aC 3 1 A l.length c (ints l))] _
 refine af.region (gK 2 [] [] ?_)
 refine NS (gK 5 [(12,.map (some m)),(13,vI (h))] [(3,a_ 1 t)] ?_)
 refine ak.qi 2 (d:=(some 14)) (t:=60) (K:=3) (E:=64) (b:=m) (n:=us.length) (f:=(aV us)) (x:=(.tmp 12)) (ix:=(.tmp 13)) (key:=.int .i64 (h)) (z:=.nilIface) (kl:=(.int .i64 h)) (r:=none) (fun _=>by kernel_rfl) (by kernel_rfl) (fun _=>by kernel_rfl) (fun _=>by kernel_rfl) dW Tryz.underlying60 (fun _=>by kernel_rfl) (jf hw) (hg) ?_
 refine gK 5 [(6,.nilIface),(7,.bool false)] [] ?_
 refine NN (af.seq (SR (gK 2 [(18,.bool true)] [] ?_)))
 refine NN (CT (SR (gK 3 [(4,.nilIface),(5,vI 131)] [] ?_)))
 refine NN (af.ret (ai.aj (ai.mem (cO:=[.abs R,.abs (bH 110 t most av us)]) (fun w hS=>Sat.jM (l:=[.abs R]) ⟨m,A,c,l,next⟩ (show eN (next) l (us) most (av) from hT) (hS.pick (idx:=[0,1,2,3]) (l':=[.abs R]++jL 110 t most (av) (us) ⟨m,A,c,l,next⟩) rfl rfl)) ?_)))
 exact RT (.tuple #[.nilIface,vI 131]) [1,0] (⟨rfl,rfl⟩)
theorem tR {β:Bs} (t:Nat) (most av:Int) (us:Used Value) (x:Value) (hf:most<=(us.length:Int)) :
    Spec Tryz.prog β 92 #[vP t,x] [.abs (bH 110 t most av us)] (fun v l=>v=.tuple #[vI 0,vI 130]/\l=[.abs (bH 110 t most av us)]):=by
 refine Spec.enter Tryz.func92 rfl Tryz.ntmps92 (Nat.le_of_ble_eq_true rfl) (fun R=>?_)
 refine af.seq (af.vZ (Φ:=fun x:TX=>eN x.next x.l us most av) (hp:=fun x=>[.abs R]++jL 110 t most av us x) (fun w hS=>(hS.pick (idx:=[1,0]) (l':=[.abs R]++[.abs (bH 110 t most av us)]) rfl rfl).ng) (fun x hT=>?_))
 obtain⟨m,A,c,l,next⟩:=x
 replace hT:eN next l us most av:=hT
 have hb:=hT.Bn
 have hm0:=hT.oK
 have hm1:=hT.oL
 have hn1:=hT.oM
 have hn2:=hT.r8
 have Br:=hT.qu
 have Dp:=hT.ti.count
 show af _ _ _ _ _ [.abs R,.blk t [vI (most),vI (av),.map (some m),.slice A (l.length) (c),vI (next)] 110,.abs (aN Tryz.prog 3 m (aV us) us.length),.abs (aC 3 1 A l.length c (ints l))] _
 refine af.region (gK 2 [] [] ?_)
 refine NN (af.seq (af.seq (af.bp (by kernel_rfl) (by kernel_rfl) ?_)))
 refine gQ 4 [(10,.map (some m))] [(3,a_ 1 t)] ?_
 refine aK.qX 2 (d:=(some 11)) (t:=60) (K:=3) (E:=64) (b:=m) (n:=us.length) (f:=(aV us)) (x:=(.tmp 10)) (ats:=#[60]) (fun _=>by kernel_rfl) (by kernel_rfl) (fun _=>by kernel_rfl) rfl Tryz.underlying60 ?_
 refine gQ 5 [(16,.bool (decide ((((us.length:Nat):Int):Int) ≥ (most:Int))))] [(3,a_ 1 t)] ?_
 refine NQ (NX ?_)
 refine af.aR (p:=(((us.length:Nat):Int):Int) ≥ (most:Int)) (fun _=>by kernel_rfl) (fun tD=>?_) (fun tD=>?_)
 ·refine SR (gK 2 [(4,vI 0),(5,vI 130)] [] ?_)
  refine NN (af.ret (ai.aj (ai.mem (cO:=[.abs R,.abs (bH 110 t most av us)]) (fun w hS=>Sat.jM (l:=[.abs R]) ⟨m,A,c,l,next⟩ (show eN (next) l (us) most (av) from hT) (hS.pick (idx:=[0,1,2,3]) (l':=[.abs R]++jL 110 t most (av) (us) ⟨m,A,c,l,next⟩) rfl rfl)) ?_)))
  exact RT (.tuple #[vI 0,vI 130]) [1,0] (⟨rfl,rfl⟩)
 exact absurd tD (by omega)
theorem v7 {β:Bs} (t:Nat) (most av:Int) (us:Used Value) (x:Value) (hf:(us.length:Int) < most) :
    Spec Tryz.prog β 92 #[vP t,x] [.abs (bH 110 t most av us)] (fun v l=>v=.tuple #[vI (least us),vI 0]/\l=[.abs (bH 110 t most (max av ((us.length:Int)+1)) (ins (least us) x us))]):=by
 refine Spec.enter Tryz.func92 rfl Tryz.ntmps92 (Nat.le_of_ble_eq_true rfl) (fun R=>?_)
 refine af.seq (af.vZ (Φ:=fun x:TX=>eN x.next x.l us most av) (hp:=fun x=>[.abs R]++jL 110 t most av us x) (fun w hS=>(hS.pick (idx:=[1,0]) (l':=[.abs R]++[.abs (bH 110 t most av us)]) rfl rfl).ng) (fun x hT=>?_))
 obtain⟨m,A,c,l,next⟩:=x
 replace hT:eN next l us most av:=hT
 have hb:=hT.Bn
 have hm0:=hT.oK
 have hm1:=hT.oL
 have hn1:=hT.oM
 have hn2:=hT.r8
 have Br:=hT.qu
 have Dp:=hT.ti.count
 show af _ _ _ _ _ [.abs R,.blk t [vI (most),vI (av),.map (some m),.slice A (l.length) (c),vI (next)] 110,.abs (aN Tryz.prog 3 m (aV us) us.length),.abs (aC 3 1 A l.length c (ints l))] _
 refine af.region (gK 2 [] [] ?_)
 refine NN (af.seq (af.seq (af.bp (by kernel_rfl) (by kernel_rfl) ?_)))
 refine gQ 4 [(10,.map (some m))] [(3,a_ 1 t)] ?_
 refine aK.qX 2 (d:=(some 11)) (t:=60) (K:=3) (E:=64) (b:=m) (n:=us.length) (f:=(aV us)) (x:=(.tmp 10)) (ats:=#[60]) (fun _=>by kernel_rfl) (by kernel_rfl) (fun _=>by kernel_rfl) rfl Tryz.underlying60 ?_
 refine gQ 5 [(16,.bool (decide ((((us.length:Nat):Int):Int) ≥ (most:Int))))] [(3,a_ 1 t)] ?_
 refine NQ (NX ?_)
 refine af.aR (p:=(((us.length:Nat):Int):Int) ≥ (most:Int)) (fun _=>by kernel_rfl) (fun tD=>?_) (fun tD=>?_)
 ·exact absurd tD (by omega)
 refine af.skip (NX (SR (gK 5 [(6,vI (next))] [(3,a_ 1 t)] ?_)))
 refine NN (af.seq (SR (gK 6 [(26,.bool (decide ((((l.length:Nat):Int):Int) > (0:Int))))] [(3,a_ 1 t)] ?_)))
 refine NN (af.aR (p:=(((l.length:Nat):Int):Int) > (0:Int)) (fun _=>by kernel_rfl) (fun zw=>?_) (fun zw=>?_))
 ·refine af.region ?_
  obtain⟨n,hn⟩:∃ n,l.length=n+1:=⟨l.length - 1,by omega⟩
  refine ak.tell (p:=∃ g,A=some ⟨g,0,none⟩) (fun w hS=>let ⟨F,h⟩:=hS.get (i:=3) rfl;aC.head h (by omega)) (fun ⟨g,hg⟩=>?_)
  subst hg
  refine gK 4 [(31,.iface 154 (.pointer (some ⟨t,3,none⟩)))] [] ?_
  refine gL (f:=120) (args:=#[.iface 154 (.pointer (some ⟨t,3,none⟩))]) (pre:=[.blk t [vI (most),vI (av),.map (some m),.slice (some ⟨g,0,none⟩) (l.length) (c),vI (next)] 110,.abs (aC 3 1 (some ⟨g,0,none⟩) l.length c (ints l))]) [1,3] (Lc hn (by have:=hT.ti.heap;rwa [hn] at this) hT.ti.inj (by omega)) ?_
  rintro _ _ ⟨rfl,l2,rfl,hp2,hi2,hm2,rfl⟩
  refine gK 5 [(6,vI ((at_ l 0)))] [] ?_
  refine NS (ak.slot 6 (.int .i64 ((at_ l 0))) (.int .i64 ((least us))) (fun _=>by kernel_rfl) (by rw [hT.ti.xh (by omega)]) ?_)
  refine gK 6 [(46,.map (some m)),(47,vI ((least us))),(48,x)] [(3,a_ 0 t)] ?_
  refine ak.j7 3 (d:=none) (t:=60) (K:=3) (E:=64) (b:=m) (n:=us.length) (f:=(aV us)) (x:=(.tmp 46)) (ix:=(.tmp 47)) (y:=(.tmp 48)) (key:=.int .i64 ((least us))) (u:=x) (kl:=(.int .i64 (least us))) (n':=(us.length+1)) (f':=(aV (ins (least us) x us))) (fun _=>by kernel_rfl) (by kernel_rfl) (fun _=>by kernel_rfl) (fun _=>by kernel_rfl) (fun _=>by kernel_rfl) dW Tryz.underlying60 (by unfold maxLen;omega) (mW (by omega) (by omega)) (by rw [zx hb.2.2.1];rfl) (yu hb.2.2.1 x) ?_
  refine NN (af.seq (af.qN 13 (by kernel_rfl) (by kernel_rfl) ?_))
  refine fM.seg (k':=9) (fr':=[(6,vI ((least us))),(49,vP t),(53,vI (av)),(57,.map (some m))]) (bw:=[t=t,t=t]) [o_,o_,o_,o_,⟨[.at 0],none,none,none,none⟩,o_,o_,o_,⟨[.at 0],none,none,none,none⟩] [6,49,53,57] (fun _ _=>by kernel_rfl) ⟨rfl,rfl,trivial⟩ (by decide) ?_
  refine fM.qX 3 (d:=(some 58)) (t:=60) (K:=3) (E:=64) (b:=m) (cnt:=(us.length+1)) (f:=(aV (ins (least us) x us))) (x:=(.tmp 57)) (ats:=#[60]) (fun _=>by kernel_rfl) (by kernel_rfl) (fun _=>by kernel_rfl) rfl Tryz.underlying60 (by decide) ?_
  refine fM.seg (k':=13) (fr':=[(6,vI ((least us))),(59,vI ((max av ((us.length:Int)+1)))),(61,.pointer (some ⟨t,1,none⟩))]) (bw:=[(Value.int .i64 (if (((us.length+1):Nat):Int) > av then (((us.length+1):Nat):Int) else av))=(.int .i64 ((max av ((us.length:Int)+1))))]) [⟨[],none,none,none,some (vI ((max av ((us.length:Int)+1))))⟩,o_,o_] [6,59,61] (fun _ _=>by kernel_rfl) ⟨by rw [Eg];rfl,trivial⟩ (by decide) ?_
  refine fM.done rfl ?_
  refine gC 1 [] [(0,a_ 0 t)] [(0,[(1,vI ((max av ((us.length:Int)+1))))])] ?_
  refine NS (gK 3 [(4,vI ((least us))),(5,vI 0)] [] ?_)
  refine NN (af.ret (ai.cW [(3,.abs (aN Tryz.prog 3 m (aV (ins (least us) x us)) ((ins (least us) x us).length)))] (fun w hS=>by rw [gy];exact hS) ?_))
  refine ai.mem (cO:=[.abs R,.abs (bH 110 t most (max av ((us.length:Int)+1)) (ins (least us) x us))]) (fun w hS=>Sat.jM (l:=[.abs R]) ⟨m,some ⟨g,0,none⟩,c,l2,next⟩ (show eN (next) l2 ((ins (least us) x us)) most ((max av ((us.length:Int)+1))) from ⟨by rw [hT.ti.xh (by omega)];exact hT.ti.Hz (by omega) x (by omega) hp2 hi2 hm2,by rw [gy];omega,by omega,by omega,by omega,by omega⟩) (hS.pick (idx:=[2,0,3,1]) (l':=[.abs R]++jL 110 t most ((max av ((us.length:Int)+1))) ((ins (least us) x us)) ⟨m,some ⟨g,0,none⟩,c,l2,next⟩) rfl rfl)) ?_
  exact RT (.tuple #[vI ((least us)),vI 0]) [1,0] (⟨rfl,rfl⟩)
 refine af.region ?_
 have hl0:l=[]:=List.eq_nil_of_length_eq_zero (by omega)
 have hl1:l.length=0:=by rw [hl0];rfl
 have hl2:TI next [] us:=hl0 ▸ hT.ti
 refine gC 8 [] [(3,a_ 1 t),(4,wI (next+1) ((next+1))),(7,a_ 1 t)] [(1,[(4,vI ((next+1)))])] ?_
 refine NS (ak.slot 6 (.int .i64 (next)) (.int .i64 ((least us))) (fun _=>by kernel_rfl) (by rw [hl2.xg]) ?_)
 refine gK 6 [(46,.map (some m)),(47,vI ((least us))),(48,x)] [(3,a_ 1 t)] ?_
 refine ak.j7 2 (d:=none) (t:=60) (K:=3) (E:=64) (b:=m) (n:=us.length) (f:=(aV us)) (x:=(.tmp 46)) (ix:=(.tmp 47)) (y:=(.tmp 48)) (key:=.int .i64 ((least us))) (u:=x) (kl:=(.int .i64 (least us))) (n':=(us.length+1)) (f':=(aV (ins (least us) x us))) (fun _=>by kernel_rfl) (by kernel_rfl) (fun _=>by kernel_rfl) (fun _=>by kernel_rfl) (fun _=>by kernel_rfl) dW Tryz.underlying60 (by unfold maxLen;omega) (mW (by omega) (by omega)) (by rw [zx hb.2.2.1];rfl) (yu hb.2.2.1 x) ?_
 refine NN (af.seq (af.qN 13 (by kernel_rfl) (by kernel_rfl) ?_))
 refine fM.seg (k':=9) (fr':=[(6,vI ((least us))),(49,vP t),(53,vI (av)),(57,.map (some m))]) (bw:=[t=t,t=t]) [o_,o_,o_,o_,⟨[.at 1],none,none,none,none⟩,o_,o_,o_,⟨[.at 1],none,none,none,none⟩] [6,49,53,57] (fun _ _=>by kernel_rfl) ⟨rfl,rfl,trivial⟩ (by decide) ?_
 refine fM.qX 2 (d:=(some 58)) (t:=60) (K:=3) (E:=64) (b:=m) (cnt:=(us.length+1)) (f:=(aV (ins (least us) x us))) (x:=(.tmp 57)) (ats:=#[60]) (fun _=>by kernel_rfl) (by kernel_rfl) (fun _=>by kernel_rfl) rfl Tryz.underlying60 (by decide) ?_
 refine fM.seg (k':=13) (fr':=[(6,vI ((least us))),(59,vI ((max av ((us.length:Int)+1)))),(61,.pointer (some ⟨t,1,none⟩))]) (bw:=[(Value.int .i64 (if (((us.length+1):Nat):Int) > av then (((us.length+1):Nat):Int) else av))=(.int .i64 ((max av ((us.length:Int)+1))))]) [⟨[],none,none,none,some (vI ((max av ((us.length:Int)+1))))⟩,o_,o_] [6,59,61] (fun _ _=>by kernel_rfl) ⟨by rw [Eg];rfl,trivial⟩ (by decide) ?_
 refine fM.done rfl ?_
 refine gC 1 [] [(0,a_ 1 t)] [(1,[(1,vI ((max av ((us.length:Int)+1))))])] ?_
 refine NS (gK 3 [(4,vI ((least us))),(5,vI 0)] [] ?_)
 refine NN (af.ret (ai.cW [(2,.abs (aN Tryz.prog 3 m (aV (ins (least us) x us)) ((ins (least us) x us).length)))] (fun w hS=>by rw [gy];exact hS) ?_))
 refine ai.mem (cO:=[.abs R,.abs (bH 110 t most (max av ((us.length:Int)+1)) (ins (least us) x us))]) (fun w hS=>Sat.jM (l:=[.abs R]) ⟨m,A,c,l,(next+1)⟩ (show eN ((next+1)) l ((ins (least us) x us)) most ((max av ((us.length:Int)+1))) from ⟨by rw [hl2.xg,hl0];exact hl2.Hy x,by rw [gy];omega,by omega,by omega,by omega,by omega⟩) (hS.pick (idx:=[0,1,2,3]) (l':=[.abs R]++jL 110 t most ((max av ((us.length:Int)+1))) ((ins (least us) x us)) ⟨m,A,c,l,(next+1)⟩) rfl rfl)) ?_
 exact RT (.tuple #[vI ((least us)),vI 0]) [1,0] (⟨rfl,rfl⟩)
theorem zA {β:Bs} (t:Nat) (most av:Int) (us:Used Value) (h:Int) (hw:(Lit.int .i64 h).wf=true) (x:Value) (hg:aB.get us h=some x) :
    Spec Tryz.prog β 80 #[vP t,vI (h)] [.abs (bH 110 t most av us)] (fun v l=>v=.tuple #[x,vI 0]/\l=[.abs (bH 110 t most av (del h us))]):=by
 refine Spec.enter Tryz.func80 rfl Tryz.ntmps80 (Nat.le_of_ble_eq_true rfl) (fun R=>?_)
 refine SR (gK 2 [] [] ?_)
 refine NS (gK 2 [(9,vP t),(10,vI (h))] [] ?_)
 refine gL [0] (jN t most av us h hw x hg) ?_
 rintro _ _ ⟨rfl,rfl⟩
 refine gK 5 [(6,x),(7,vI 0)] [] ?_
 refine NN (af.seq (SR (gK 2 [(15,.bool true)] [] ?_)))
 refine NN (CT (af.seq (af.vZ (Φ:=fun x:TX=>eN x.next x.l us most av) (hp:=fun x=>[.abs R]++jL 110 t most av us x) (fun w hS=>(hS.pick (idx:=[1,0]) (l':=[.abs R]++[.abs (bH 110 t most av us)]) rfl rfl).ng) (fun x0 hT=>?_))))
 obtain⟨m,A,c,l,next⟩:=x0
 replace hT:eN next l us most av:=hT
 have hb:=hT.Bn
 have hm0:=hT.oK
 have hm1:=hT.oL
 have hn1:=hT.oM
 have hn2:=hT.r8
 have Br:=hT.qu
 have Dp:=hT.ti.count
 have hk:=get_some hg
 show af _ _ _ _ _ [.abs R,.blk t [vI (most),vI (av),.map (some m),.slice A (l.length) (c),vI (next)] 110,.abs (aN Tryz.prog 3 m (aV us) us.length),.abs (aC 3 1 A l.length c (ints l))] _
 refine af.region (gK 5 [(19,.map (some m)),(20,vI (h))] [(3,a_ 1 t)] ?_)
 refine ak.wK 2 (d:=none) (t:=60) (K:=3) (E:=64) (b:=m) (n:=us.length) (f:=(aV us)) (x:=(.tmp 19)) (ix:=(.tmp 20)) (key:=.int .i64 (h)) (kl:=(.int .i64 h)) (n':=(us.length - 1)) (f':=(aV (del h us))) (ats:=#[60,3]) (fun _=>by kernel_rfl) (by kernel_rfl) (fun _=>by kernel_rfl) (fun _=>by kernel_rfl) rfl dW Tryz.underlying60 (jf hw) (by rw [show aV us (.int .i64 h)=some x from hg];rfl) (Dl) ?_
 refine NN (af.region (gK 6 [(24,.iface 154 (.pointer (some ⟨t,3,none⟩))),(26,.iface 3 (.int .i64 (h)))] [] ?_))
 refine gL (f:=96) (args:=#[.iface 154 (.pointer (some ⟨t,3,none⟩)),.iface 3 (.int .i64 (h))]) (pre:=[.blk t [vI (most),vI (av),.map (some m),.slice A (l.length) (c),vI (next)] 110,.abs (aC 3 1 A l.length c (ints l))]) [1,3] (J5 h hT.ti.heap (by omega)) ?_
 rintro _ _ ⟨rfl,g,c',l2,O4,hp2,rfl⟩
 refine NS (gK 4 [(4,x),(5,vI 0)] [] ?_)
 refine NN (af.ret ?_)
 have hld:=mZ hT.ti.rise hk
 refine ai.cW [(3,.abs (aN Tryz.prog 3 m (aV (del h us)) ((del h us).length)))] (fun w hS=>by rw [show (del h us).length=us.length - 1 by omega];exact hS) ?_
 refine ai.mem (cO:=[.abs R,.abs (bH 110 t most av (del h us))]) (fun w hS=>Sat.jM (l:=[.abs R]) ⟨m,some ⟨g,0,none⟩,c',l2,next⟩ (show eN (next) l2 ((del h us)) most (av) from ⟨hT.ti.drop hk O4 hp2,by omega,hm1,hn1,hn2,Br⟩) (hS.pick (idx:=[2,0,3,1]) (l':=[.abs R]++jL 110 t most (av) ((del h us)) ⟨m,some ⟨g,0,none⟩,c',l2,next⟩) rfl rfl)) ?_
 exact RT (.tuple #[x,vI 0]) [1,0] (⟨rfl,rfl⟩)
theorem CO {β:Bs} (t:Nat) (most av:Int) (us:Used Value) (h:Int) (hw:(Lit.int .i64 h).wf=true) (hg:aB.get us h=none) :
    Spec Tryz.prog β 80 #[vP t,vI (h)] [.abs (bH 110 t most av us)] (fun v l=>v=.tuple #[.nilIface,vI 131]/\l=[.abs (bH 110 t most av us)]):=by
 refine Spec.enter Tryz.func80 rfl Tryz.ntmps80 (Nat.le_of_ble_eq_true rfl) (fun R=>?_)
 refine SR (gK 2 [] [] ?_)
 refine NS (gK 2 [(9,vP t),(10,vI (h))] [] ?_)
 refine gL [0] (nQ t most av us h hw hg) ?_
 rintro _ _ ⟨rfl,rfl⟩
 refine gK 5 [(6,.nilIface),(7,vI 131)] [] ?_
 refine NN (af.seq (SR (gK 2 [(15,.bool false)] [] ?_)))
 refine NN (CF (af.skip (NX (SR (gK 4 [(4,.nilIface),(5,vI 131)] [] ?_)))))
 refine NN (af.ret ?_)
 exact RT (.tuple #[.nilIface,vI 131]) [0,1] (⟨rfl,rfl⟩)
theorem Bt {β:Bs} (t:Nat) (most av:Int) (us:Used Value) :
    Spec Tryz.prog β 40 #[vP t] [.abs (bH 110 t most av us)] (fun v l=>∃ A c,v=.slice A (keys us).length c/\l=[.abs (bH 110 t most av us),.abs (aC 3 1 A (keys us).length c (ints (keys us)))]):=by
 refine Spec.enter Tryz.func40 rfl Tryz.ntmps40 (Nat.le_of_ble_eq_true rfl) (fun R=>?_)
 refine af.seq (af.vZ (Φ:=fun x:TX=>eN x.next x.l us most av) (hp:=fun x=>[.abs R]++jL 110 t most av us x) (fun w hS=>(hS.pick (idx:=[1,0]) (l':=[.abs R]++[.abs (bH 110 t most av us)]) rfl rfl).ng) (fun x hT=>?_))
 obtain⟨m,A,c,l,next⟩:=x
 replace hT:eN next l us most av:=hT
 have hb:=hT.Bn
 have hm0:=hT.oK
 have hm1:=hT.oL
 have hn1:=hT.oM
 have hn2:=hT.r8
 have Br:=hT.qu
 have Dp:=hT.ti.count
 show af _ _ _ _ _ [.abs R,.blk t [vI (most),vI (av),.map (some m),.slice A (l.length) (c),vI (next)] 110,.abs (aN Tryz.prog 3 m (aV us) us.length),.abs (aC 3 1 A l.length c (ints l))] _
 refine af.region (gK 1 [] [] ?_)
 refine NS (gK 4 [(6,.map (some m))] [(3,a_ 1 t)] ?_)
 refine gL [] (Bp (some m)) ?_
 rintro _ _ ⟨bk,rfl,rfl⟩
 refine gL [3,0] (xk m bk us.length (aV us) (by omega)) ?_
 rintro _ _ ⟨A2,c2,ss,rfl,hks,hsl,rfl⟩
 refine gK 1 [(2,.slice A2 (ss.length) (c2))] [] ?_
 refine NN (af.ret ?_)
 have hkk:=Dn hT.ti.rise hks
 refine ai.mem (cO:=[.abs R,.abs (aC 3 1 A2 ss.length c2 (ints ss)),.abs (bH 110 t most av us)]) (fun w hS=>Sat.jM (l:=[.abs R,.abs (aC 3 1 A2 ss.length c2 (ints ss))]) ⟨m,A,c,l,next⟩ (show eN (next) l (us) most (av) from hT) (hS.pick (idx:=[3,2,4,0,5]) (l':=[.abs R,.abs (aC 3 1 A2 ss.length c2 (ints ss))]++jL 110 t most (av) (us) ⟨m,A,c,l,next⟩) rfl rfl)) ?_
 exact RT (l:=[.abs (bH 110 t most av us),.abs (aC 3 1 A2 ss.length c2 (ints ss))]) (.slice A2 (ss.length) (c2)) [2,1,0] (⟨A2,c2,by rw [hkk],by rw [hkk]⟩)
end
section
open Go.RowKit Go.Maps ck aB
theorem Spec.yc {P:Program} {β:Bs} {f:FuncId} {args:Array Value} {pre R:List HP} {post:Value->List HP->Prop} (h:∀ β':Bs,og β R β'->Spec P β' f args pre post):Spec P β f args (pre++R) (fun v l=>∃ l0,post v l0/\l=l0++R):=by
  intro A w hS
  have h1:=Sat.turn hS
  rw [← List.append_assoc] at h1
  obtain⟨β',g1,_,g3⟩:=h1.yc
  refine (h β' g1 A w (Sat.turn g3)).mono ?_
  rintro e w' ⟨v,l,h1,h2,h3⟩
  refine⟨v,l++R,h1,⟨l,h2,rfl⟩,?_⟩
  have h4:=g1.back (Sat.turn h3)
  rw [List.append_assoc] at h4
  exact Sat.turn h4
def aT (L:HL) (us:Used Th):Used Value:=us.map fun q=>(q.1,dh L q.2)
theorem eX (L:HL) (us:Used Th) (h:Int):aV (aT L us) (.int .i64 h)=(aB.get us h).map (dh L):=get_map (dh L) us h
theorem yw {L:HL} {us:Used Th} {h:Int}:jP (aV (aT L us)) (.int .i64 h) none=aV (aT L (del h us)):=by
  rw [Dl]
  exact congrArg aV (Dk (dh L) h us).symm
theorem nh (L:HL) (us:Used Th):(aT L us).length=us.length:=List.length_map ..
theorem v8 (L:HL) (us:Used Th):keys (aT L us)=keys us:=keys_map (dh L) us
def nH (O:bO) (k:Nat):bO:=aA O k (fun o=>{ o with gone:=true })
def oO (O:bO) (t:Th):Prop:=(obj O t.k).gone=true/\(obj O t.k).opens=0
instance (O:bO) (t:Th):Decidable (oO O t):=inferInstanceAs (Decidable (_/\_))
def iG (O:bO) (idx:Used Th) (t:Th):Used Th:=if oO O t then del (obj O t.k).id idx else idx
def iR (O:bO) (used:Int) (t:Th):Int:=if oO O t then if t.kind=1 then used - (obj O t.k).data.length else used else used
abbrev pF (f m t:Nat) (X:FM):HP:=.blk f [.int .i64 X.cN,.int .i64 X.cB,.int .i64 X.cH,.int .i64 X.cS,.int .i64 X.cZ,.map (some m),.pointer (some ⟨t,0,none⟩),.int .i64 X.last,.int .i64 X.ah,.int .i64 X.used] 66
abbrev pI (m:Nat) (L:HL) (us:Used Th):HP:=.abs (aN Tryz.prog 3 m (aV (aT L us)) us.length)
abbrev pT (t:Nat) (most av:Int) (L:HL) (us:Used Th):HP:=.abs (bH 110 t most av (aT L us))
abbrev pO (O:bO) (L:HL):HP:=.abs (ay (bD O L))
abbrev pD (O:bO) (L:HL):HP:=.abs (ay (bq O L))
abbrev pE (O:bO) (L:HL):HP:=.abs (ay (cE O L))
end
section
open Go.RowKit Go.Maps ck aB
attribute [local irreducible] ak aK af ai
abbrev FV (f:Nat) (X:FM) (m:Nat) (t):=(.blk f [vI (X.cN),vI (X.cB),vI (X.cH),vI (X.cS),vI (X.cZ),.map (some m),vP t,vI (X.last),vI (X.ah),vI (X.used)] 66:HP)
theorem HB {β:Bs} (X:FM) (f m t:Nat) (hX:0<=X.ah/\X.ah<=1048576/\-1125899906842624<=X.used/\X.used<=1125899906842624/\0<=X.last/\X.last<=1125899906842624) (O:bO) (L:HL) (idx:Used Th) (FW:aB.bN (keys idx)) (th:Th) (hkt:(obj O th.k).kind=th.kind) (h3:th.kind=1\/th.kind=2\/th.kind=3) (hg:(obj O th.k).gone=true) (ho:(obj O th.k).opens=0) (d5:aB.get idx (obj O th.k).id=some th) (hw:(Lit.int .i64 (obj O th.k).id).wf=true) (tS:(obj O th.k).data.length<=1125899906842624) :
    Spec Tryz.prog β 81 #[vP f,(dh L th)] [pO O L,pF f m t X,pI m L idx] (fun v l=>v=.tuple #[]/\l=[pO O L,pF f m t { X with used:=if th.kind=1 then X.used - (obj O th.k).data.length else X.used },pI m L (del (obj O th.k).id idx)]):=by
 refine Spec.enter Tryz.func81 rfl Tryz.ntmps81 (Nat.le_of_ble_eq_true rfl) (fun R=>?_)
 refine af.seq ?_
 obtain⟨tk,kd⟩:=th;simp only at hkt h3;rcases h3 with rfl|rfl|rfl
 ·replace hkt:(obj O tk).kind=1:=hkt
  replace hg:(obj O tk).gone=true:=hg
  replace ho:(obj O tk).opens=0:=ho
  replace d5:aB.get idx (obj O tk).id=some _:=d5
  replace hw:(Lit.int .i64 (obj O tk).id).wf=true:=hw
  have hdl:=mZ FW (get_some d5)
  replace tS:(obj O tk).data.length<=1125899906842624:=tS
  refine af.region (gK 1 [(7,.iface 69 (vP (L.b tk)))] [] ?_)
  refine gL [] (cJ (L.b tk)) ?_
  rintro _ _ ⟨rfl,rfl⟩
  refine gK 1 [(4,vP (L.b tk))] [] ?_
  refine NN (af.seq (SR (gK 6 [(14,.bool (!(obj O tk).gone))] [(3,v_ 0 (mA L hkt))] ?_)))
  refine ak.kG 14 (!(obj O tk).gone) (fun _=>by kernel_rfl) (fun fO=>?_) (fun fO=>?_)
  ·exact absurd fO (by simp [hg])
  refine gK 6 [(20,.bool (decide (((obj O tk).opens:Int) > (0:Int))))] [(3,v_ 0 (iN L hkt))] ?_
  refine NN (af.aR (p:=((obj O tk).opens:Int) > (0:Int)) (fun _=>by kernel_rfl) (fun kT=>?_) (fun kT=>?_))
  ·exact absurd kT (by omega)
  refine af.skip (NX (af.seq (af.ct (S:=[pO O L,pF f m t X,pI m L idx,.abs R]) [0,1,2,3,4,5,6,7,8] 8 [0,1,2,3] (by kernel_rfl) (by kernel_rfl) rfl (by kernel_rfl) ?_)))
  refine gR 0 [8] [(0,vP f),(1,.iface 69 (vP (L.b tk))),(24,.map (some m)),(28,vI ((obj O tk).id))] [0,1,2,3,4,5,6,7] [(3,a_ 1 f),(7,v_ 0 (oh L hkt))] ?_
  refine aG.last rfl rfl ?_
  refine ak.wK 2 (d:=none) (t:=60) (K:=3) (E:=64) (b:=m) (n:=idx.length) (f:=(aV (aT L idx))) (x:=(.tmp 24)) (ix:=(.tmp 28)) (key:=.int .i64 ((obj O tk).id)) (kl:=(.int .i64 (obj O tk).id)) (n':=(idx.length - 1)) (f':=(aV (aT L (del (obj O tk).id idx)))) (ats:=#[60,3]) (fun _=>by kernel_rfl) (by kernel_rfl) (fun _=>by kernel_rfl) (fun _=>by kernel_rfl) rfl dW Tryz.underlying60 (jf hw) (by rw [eX,d5];rfl) (yw) ?_
  refine NL (ai.np (NX (SR ?_)))
  refine gK 7 [(5,vP (L.b tk)),(6,.bool true)] [] ?_
  refine NS (gK 1 [(34,.bool true)] [] ?_)
  refine NN (CT (af.ct (S:=[pO O L,pF f m t X,.abs (aN Tryz.prog 3 m (aV (aT L (del (obj O tk).id idx))) (idx.length - 1)),.abs R]) [0,1,2,3,4,5,6,7,8,9,10,11,12] 12 [0,1,2,3] (by kernel_rfl) (by kernel_rfl) rfl (by kernel_rfl) ?_))
  refine gR 0 [12] [(44,vI (X.used - (((obj O tk).data.length:Nat):Int))),(46,.pointer (some ⟨f,9,none⟩))] [0,1,2,3,4,5,6,7,8,9,10,11] [(3,a_ 1 f),(7,v_ 0 (Bd L hkt)),(9,p_ ⟨[],none,none,none,some (vI (X.used - (((obj O tk).data.length:Nat):Int)))⟩ [(Value.int .i64 (IntKind.wrap .i64 (X.used - (((obj O tk).data.length:Nat):Int))))=(.int .i64 (X.used - (((obj O tk).data.length:Nat):Int)))] ⟨aU (by omega) (by omega) (by omega),trivial⟩)] ?_
  refine aG.last rfl rfl ?_
  refine gC 1 [] [(0,a_ 1 f)] [(1,[(9,vI (X.used - (((obj O tk).data.length:Nat):Int)))])] ?_
  refine NL (ai.np ?_)
  refine ai.cW [(2,.abs (aN Tryz.prog 3 m (aV (aT L (del (obj O tk).id idx))) ((del (obj O tk).id idx).length)))] (fun w hS=>by rw [show (del (obj O tk).id idx).length=idx.length - 1 by omega];exact hS) ?_
  exact RF (.tuple #[]) [0,1,2,3] (⟨rfl,rfl⟩)
 ·replace hkt:(obj O tk).kind=2:=hkt
  replace hg:(obj O tk).gone=true:=hg
  replace ho:(obj O tk).opens=0:=ho
  replace d5:aB.get idx (obj O tk).id=some _:=d5
  replace hw:(Lit.int .i64 (obj O tk).id).wf=true:=hw
  have hdl:=mZ FW (get_some d5)
  replace tS:(obj O tk).data.length<=1125899906842624:=tS
  refine af.region (gK 1 [(7,.iface 76 (vP (L.b tk)))] [] ?_)
  refine gL [] (cJ (L.b tk)) ?_
  rintro _ _ ⟨rfl,rfl⟩
  refine gK 1 [(4,vP (L.b tk))] [] ?_
  refine NN (af.seq (SR (gK 6 [(14,.bool (!(obj O tk).gone))] [(3,v_ 0 (mA L hkt))] ?_)))
  refine ak.kG 14 (!(obj O tk).gone) (fun _=>by kernel_rfl) (fun fO=>?_) (fun fO=>?_)
  ·exact absurd fO (by simp [hg])
  refine gK 6 [(20,.bool (decide (((obj O tk).opens:Int) > (0:Int))))] [(3,v_ 0 (iN L hkt))] ?_
  refine NN (af.aR (p:=((obj O tk).opens:Int) > (0:Int)) (fun _=>by kernel_rfl) (fun kT=>?_) (fun kT=>?_))
  ·exact absurd kT (by omega)
  refine af.skip (NX (af.seq (af.ct (S:=[pO O L,pF f m t X,pI m L idx,.abs R]) [0,1,2,3,4,5,6,7,8] 8 [0,1,2,3] (by kernel_rfl) (by kernel_rfl) rfl (by kernel_rfl) ?_)))
  refine gR 0 [8] [(0,vP f),(1,.iface 76 (vP (L.b tk))),(24,.map (some m)),(28,vI ((obj O tk).id))] [0,1,2,3,4,5,6,7] [(3,a_ 1 f),(7,v_ 0 (oh L hkt))] ?_
  refine aG.last rfl rfl ?_
  refine ak.wK 2 (d:=none) (t:=60) (K:=3) (E:=64) (b:=m) (n:=idx.length) (f:=(aV (aT L idx))) (x:=(.tmp 24)) (ix:=(.tmp 28)) (key:=.int .i64 ((obj O tk).id)) (kl:=(.int .i64 (obj O tk).id)) (n':=(idx.length - 1)) (f':=(aV (aT L (del (obj O tk).id idx)))) (ats:=#[60,3]) (fun _=>by kernel_rfl) (by kernel_rfl) (fun _=>by kernel_rfl) (fun _=>by kernel_rfl) rfl dW Tryz.underlying60 (jf hw) (by rw [eX,d5];rfl) (yw) ?_
  refine NL (ai.np (NX (SR ?_)))
  refine gK 7 [(5,.pointer none),(6,.bool false)] [] ?_
  refine NS (gK 1 [(34,.bool false)] [] ?_)
  refine NN (CF (af.skip (ai.cW [(2,.abs (aN Tryz.prog 3 m (aV (aT L (del (obj O tk).id idx))) ((del (obj O tk).id idx).length)))] (fun w hS=>by rw [show (del (obj O tk).id idx).length=idx.length - 1 by omega];exact hS) ?_)))
  exact RF (.tuple #[]) [0,1,2,3] (⟨rfl,rfl⟩)
 replace hkt:(obj O tk).kind=3:=hkt
 replace hg:(obj O tk).gone=true:=hg
 replace ho:(obj O tk).opens=0:=ho
 replace d5:aB.get idx (obj O tk).id=some _:=d5
 replace hw:(Lit.int .i64 (obj O tk).id).wf=true:=hw
 have hdl:=mZ FW (get_some d5)
 replace tS:(obj O tk).data.length<=1125899906842624:=tS
 refine af.region (gK 1 [(7,.iface 73 (vP (L.b tk)))] [] ?_)
 refine gL [] (cJ (L.b tk)) ?_
 rintro _ _ ⟨rfl,rfl⟩
 refine gK 1 [(4,vP (L.b tk))] [] ?_
 refine NN (af.seq (SR (gK 6 [(14,.bool (!(obj O tk).gone))] [(3,v_ 0 (mA L hkt))] ?_)))
 refine ak.kG 14 (!(obj O tk).gone) (fun _=>by kernel_rfl) (fun fO=>?_) (fun fO=>?_)
 ·exact absurd fO (by simp [hg])
 refine gK 6 [(20,.bool (decide (((obj O tk).opens:Int) > (0:Int))))] [(3,v_ 0 (iN L hkt))] ?_
 refine NN (af.aR (p:=((obj O tk).opens:Int) > (0:Int)) (fun _=>by kernel_rfl) (fun kT=>?_) (fun kT=>?_))
 ·exact absurd kT (by omega)
 refine af.skip (NX (af.seq (af.ct (S:=[pO O L,pF f m t X,pI m L idx,.abs R]) [0,1,2,3,4,5,6,7,8] 8 [0,1,2,3] (by kernel_rfl) (by kernel_rfl) rfl (by kernel_rfl) ?_)))
 refine gR 0 [8] [(0,vP f),(1,.iface 73 (vP (L.b tk))),(24,.map (some m)),(28,vI ((obj O tk).id))] [0,1,2,3,4,5,6,7] [(3,a_ 1 f),(7,v_ 0 (oh L hkt))] ?_
 refine aG.last rfl rfl ?_
 refine ak.wK 2 (d:=none) (t:=60) (K:=3) (E:=64) (b:=m) (n:=idx.length) (f:=(aV (aT L idx))) (x:=(.tmp 24)) (ix:=(.tmp 28)) (key:=.int .i64 ((obj O tk).id)) (kl:=(.int .i64 (obj O tk).id)) (n':=(idx.length - 1)) (f':=(aV (aT L (del (obj O tk).id idx)))) (ats:=#[60,3]) (fun _=>by kernel_rfl) (by kernel_rfl) (fun _=>by kernel_rfl) (fun _=>by kernel_rfl) rfl dW Tryz.underlying60 (jf hw) (by rw [eX,d5];rfl) (yw) ?_
 refine NL (ai.np (NX (SR ?_)))
 refine gK 7 [(5,.pointer none),(6,.bool false)] [] ?_
 refine NS (gK 1 [(34,.bool false)] [] ?_)
 refine NN (CF (af.skip (ai.cW [(2,.abs (aN Tryz.prog 3 m (aV (aT L (del (obj O tk).id idx))) ((del (obj O tk).id idx).length)))] (fun w hS=>by rw [show (del (obj O tk).id idx).length=idx.length - 1 by omega];exact hS) ?_)))
 exact RF (.tuple #[]) [0,1,2,3] (⟨rfl,rfl⟩)
theorem Ei {β:Bs} (O:bO) (L:HL) (f:Nat) (th:Th) (hkt:(obj O th.k).kind=th.kind) (h3:th.kind=1\/th.kind=2\/th.kind=3) (hg:(obj O th.k).gone=false\/0 < (obj O th.k).opens) :
    Spec Tryz.prog β 81 #[vP f,(dh L th)] [pO O L] (fun v l=>v=.tuple #[]/\l=[pO O L]):=by
 refine Spec.enter Tryz.func81 rfl Tryz.ntmps81 (Nat.le_of_ble_eq_true rfl) (fun R=>?_)
 refine af.seq ?_
 obtain⟨tk,kd⟩:=th;simp only at hkt h3;rcases h3 with rfl|rfl|rfl
 ·replace hkt:(obj O tk).kind=1:=hkt
  replace hg:(obj O tk).gone=false\/0 < (obj O tk).opens:=hg
  refine af.region (gK 1 [(7,.iface 69 (vP (L.b tk)))] [] ?_)
  refine gL [] (cJ (L.b tk)) ?_
  rintro _ _ ⟨rfl,rfl⟩
  refine gK 1 [(4,vP (L.b tk))] [] ?_
  refine NN (af.seq (SR (gK 6 [(14,.bool (!(obj O tk).gone))] [(3,v_ 0 (mA L hkt))] ?_)))
  refine ak.kG 14 (!(obj O tk).gone) (fun _=>by kernel_rfl) (fun fO=>?_) (fun fO=>?_)
  ·refine gK 6 [(20,.bool true)] [] ?_
   refine NN (CT (af.ret (ai.aj ?_)))
   exact RT (.tuple #[]) [0,1] (⟨rfl,rfl⟩)
  refine gK 6 [(20,.bool (decide (((obj O tk).opens:Int) > (0:Int))))] [(3,v_ 0 (iN L hkt))] ?_
  refine NN (af.aR (p:=((obj O tk).opens:Int) > (0:Int)) (fun _=>by kernel_rfl) (fun kT=>?_) (fun kT=>?_))
  ·refine af.ret (ai.aj ?_)
   exact RT (.tuple #[]) [0,1] (⟨rfl,rfl⟩)
  exact absurd hg (by simp at fO;rw [fO];simp;omega)
 ·replace hkt:(obj O tk).kind=2:=hkt
  replace hg:(obj O tk).gone=false\/0 < (obj O tk).opens:=hg
  refine af.region (gK 1 [(7,.iface 76 (vP (L.b tk)))] [] ?_)
  refine gL [] (cJ (L.b tk)) ?_
  rintro _ _ ⟨rfl,rfl⟩
  refine gK 1 [(4,vP (L.b tk))] [] ?_
  refine NN (af.seq (SR (gK 6 [(14,.bool (!(obj O tk).gone))] [(3,v_ 0 (mA L hkt))] ?_)))
  refine ak.kG 14 (!(obj O tk).gone) (fun _=>by kernel_rfl) (fun fO=>?_) (fun fO=>?_)
  ·refine gK 6 [(20,.bool true)] [] ?_
   refine NN (CT (af.ret (ai.aj ?_)))
   exact RT (.tuple #[]) [0,1] (⟨rfl,rfl⟩)
  refine gK 6 [(20,.bool (decide (((obj O tk).opens:Int) > (0:Int))))] [(3,v_ 0 (iN L hkt))] ?_
  refine NN (af.aR (p:=((obj O tk).opens:Int) > (0:Int)) (fun _=>by kernel_rfl) (fun kT=>?_) (fun kT=>?_))
  ·refine af.ret (ai.aj ?_)
   exact RT (.tuple #[]) [0,1] (⟨rfl,rfl⟩)
  exact absurd hg (by simp at fO;rw [fO];simp;omega)
 replace hkt:(obj O tk).kind=3:=hkt
 replace hg:(obj O tk).gone=false\/0 < (obj O tk).opens:=hg
 refine af.region (gK 1 [(7,.iface 73 (vP (L.b tk)))] [] ?_)
 refine gL [] (cJ (L.b tk)) ?_
 rintro _ _ ⟨rfl,rfl⟩
 refine gK 1 [(4,vP (L.b tk))] [] ?_
 refine NN (af.seq (SR (gK 6 [(14,.bool (!(obj O tk).gone))] [(3,v_ 0 (mA L hkt))] ?_)))
 refine ak.kG 14 (!(obj O tk).gone) (fun _=>by kernel_rfl) (fun fO=>?_) (fun fO=>?_)
 ·refine gK 6 [(20,.bool true)] [] ?_
  refine NN (CT (af.ret (ai.aj ?_)))
  exact RT (.tuple #[]) [0,1] (⟨rfl,rfl⟩)
 refine gK 6 [(20,.bool (decide (((obj O tk).opens:Int) > (0:Int))))] [(3,v_ 0 (iN L hkt))] ?_
 refine NN (af.aR (p:=((obj O tk).opens:Int) > (0:Int)) (fun _=>by kernel_rfl) (fun kT=>?_) (fun kT=>?_))
 ·refine af.ret (ai.aj ?_)
  exact RT (.tuple #[]) [0,1] (⟨rfl,rfl⟩)
 exact absurd hg (by simp at fO;rw [fO];simp;omega)
theorem nR {β:Bs} (X:FM) (f m t:Nat) (hX:0<=X.ah/\X.ah<=1048576/\-1125899906842624<=X.used/\X.used<=1125899906842624/\0<=X.last/\X.last<=1125899906842624) (O:bO) (L:HL) (idx:Used Th) (FW:aB.bN (keys idx)) (th:Th) (hkt:(obj O th.k).kind=th.kind) (h3:th.kind=1\/th.kind=2\/th.kind=3) (ho:0<=(obj O th.k).opens) (d5:oO O th->aB.get idx (obj O th.k).id=some th) (hw:(Lit.int .i64 (obj O th.k).id).wf=true) (tS:(obj O th.k).data.length<=1125899906842624) :
    Spec Tryz.prog β 81 #[vP f,(dh L th)] [pO O L,pF f m t X,pI m L idx] (fun v l=>v=.tuple #[]/\l=[pO O L,pF f m t { X with used:=iR O X.used th },pI m L (iG O idx th)]):=by
  unfold iR iG
  by_cases h:oO O th
  ·rw [if_pos h,if_pos h]
   exact HB X f m t hX O L idx FW th hkt h3 h.1 h.2 (d5 h) hw tS
  rw [if_neg h,if_neg h]
  refine (Spec.yc (pre:=[pO O L]) (R:=[pF f m t X,pI m L idx]) (fun _ _=>Ei O L f th hkt h3 ?_)).mono (by rintro v l ⟨l0,⟨rfl,rfl⟩,rfl⟩;exact⟨rfl,rfl⟩)
  cases hg:(obj O th.k).gone with
  | false=>exact .inl rfl
  | true=>exact .inr (by have:¬ (obj O th.k).opens=0:=fun e=>h ⟨hg,e⟩;omega)
theorem qP {β:Bs} (X:FM) (f m t:Nat):Spec Tryz.prog β 74 #[vP f] [FV f X m t] (fun v l=>v=.bool (decide (X.ah < 8192))/\l=[FV f X m t]):=by
 refine Spec.enter Tryz.func74 rfl Tryz.ntmps74 (Nat.le_of_ble_eq_true rfl) (fun R=>?_)
 refine SR (gK 1 [] [] ?_)
 refine NS (gK 6 [(2,.bool (decide ((X.ah:Int) < (8192:Int))))] [(3,a_ 0 f)] ?_)
 refine NN (af.ret ?_)
 exact RT (.bool (decide ((X.ah:Int) < (8192:Int)))) [0,1] (⟨rfl,rfl⟩)
theorem ef {β:Bs} (a b:Int):Spec Tryz.prog β 14 #[vI a,vI b] [] (fun v l=>v=.bool (decide (0<=a/\a<=b))/\l=[]):=by
 refine Spec.enter Tryz.func14 rfl Tryz.ntmps14 (Nat.le_of_ble_eq_true rfl) (fun R=>?_)
 refine SR (gK 1 [] [] ?_)
 refine NS (gK 3 [(7,.bool (decide ((a:Int) ≥ (0:Int))))] [] ?_)
 refine ak.bZ 7 ((a:Int) ≥ (0:Int)) (fun _=>by kernel_rfl) (fun h7=>?_) (fun h7=>?_)
 ·refine gK 5 [(4,.bool (decide ((a:Int)<=(b:Int))))] [] ?_
  refine NN (af.ret ?_)
  exact RT (.bool (decide ((a:Int)<=(b:Int)))) [0] (⟨by first|exact congrArg Value.bool (decide_eq_decide.2 (by omega))|exact congrArg Value.bool (decide_eq_true (by omega)).symm|exact congrArg Value.bool (decide_eq_false (by omega)).symm,rfl⟩)
 refine gK 5 [(4,.bool false)] [] ?_
 refine NN (af.ret ?_)
 exact RT (.bool false) [0] (⟨by first|exact congrArg Value.bool (decide_eq_decide.2 (by omega))|exact congrArg Value.bool (decide_eq_true (by omega)).symm|exact congrArg Value.bool (decide_eq_false (by omega)).symm,rfl⟩)
theorem Bu {β:Bs} (X:FM) (f m t:Nat) (L:HL) (idx:Used Th):Spec Tryz.prog β 93 #[vP f] [FV f X m t,.abs (aN Tryz.prog 3 m (aV (aT L idx)) idx.length)] (fun v l=>v=.bool (decide ((idx.length:Int) < X.cN/\X.last < 1099511627776/\X.ah < 8192))/\l=[FV f X m t,.abs (aN Tryz.prog 3 m (aV (aT L idx)) idx.length)]):=by
 refine Spec.enter Tryz.func93 rfl Tryz.ntmps93 (Nat.le_of_ble_eq_true rfl) (fun R=>?_)
 refine SR (gK 1 [] [] ?_)
 refine NN (af.seq (af.bp (by kernel_rfl) (by kernel_rfl) ?_))
 refine gQ 4 [(6,.map (some m))] [(3,a_ 0 f)] ?_
 refine aK.qX 1 (d:=(some 7)) (t:=60) (K:=3) (E:=64) (b:=m) (n:=idx.length) (f:=(aV (aT L idx))) (x:=(.tmp 6)) (ats:=#[60]) (fun _=>by kernel_rfl) (by kernel_rfl) (fun _=>by kernel_rfl) rfl Tryz.underlying60 ?_
 refine gQ 7 [(14,.bool (decide ((((idx.length:Nat):Int):Int) < (X.cN:Int))))] [(4,a_ 0 f)] ?_
 refine aK.bZ 14 ((((idx.length:Nat):Int):Int) < (X.cN:Int)) (fun _=>by kernel_rfl) (fun fO=>?_) (fun fO=>?_)
 ·refine gQ 7 [(21,.bool (decide ((X.last:Int) < (1099511627776:Int))))] [(3,a_ 0 f)] ?_
  refine aK.bZ 21 ((X.last:Int) < (1099511627776:Int)) (fun _=>by kernel_rfl) (fun rF=>?_) (fun rF=>?_)
  ·refine gQ 1 [(22,vP f)] [] ?_
   refine aK.call (f:=74) (args:=#[vP f]) (d:=(some 23)) (pre:=[pF f m t X]) (R:=[pI m L idx,.abs R]) (pk:=[0,1,2]) (gq:=[0,1,2]) (v0:=.bool (decide (X.ah < 8192))) (fun _=>by kernel_rfl) (qP X f m t) rfl (by kernel_rfl) rfl (by kernel_rfl) (fun _ _ h=>h) ?_
   refine gQ 2 [(2,.bool (decide (X.ah < 8192)))] [] ?_
   refine NQ (NX (af.ret ?_))
   exact RT (.bool (decide (X.ah < 8192))) [0,1,2] (⟨by first|exact congrArg Value.bool (decide_eq_decide.2 (by omega))|exact congrArg Value.bool (decide_eq_true (by omega)).symm|exact congrArg Value.bool (decide_eq_false (by omega)).symm,rfl⟩)
  refine gQ 4 [(2,.bool false)] [] ?_
  refine NQ (NX (af.ret ?_))
  exact RT (.bool false) [0,1,2] (⟨by first|exact congrArg Value.bool (decide_eq_decide.2 (by omega))|exact congrArg Value.bool (decide_eq_true (by omega)).symm|exact congrArg Value.bool (decide_eq_false (by omega)).symm,rfl⟩)
 refine gQ 11 [(2,.bool false)] [] ?_
 refine NQ (NX (af.ret ?_))
 exact RT (.bool false) [0,1,2] (⟨by first|exact congrArg Value.bool (decide_eq_decide.2 (by omega))|exact congrArg Value.bool (decide_eq_true (by omega)).symm|exact congrArg Value.bool (decide_eq_false (by omega)).symm,rfl⟩)
theorem tT {β:Bs} (X:FM) (f m t:Nat) (hX:0<=X.ah/\X.ah<=1048576/\-1125899906842624<=X.used/\X.used<=1125899906842624/\0<=X.last/\X.last<=1125899906842624) (mode:Int):Spec Tryz.prog β 71 #[vP f,vI mode] [FV f X m t] (fun v l=>v=.agg #[vI (X.last+1),vI mode,vI 0,vI 0,vI X.cS,vI X.cZ,vI 0,vI 0,.bool false]/\l=[.blk f [vI (X.cN),vI (X.cB),vI (X.cH),vI (X.cS),vI (X.cZ),.map (some m),vP t,vI (X.last+1),vI (X.ah),vI (X.used)] 66]):=by
 refine Spec.enter Tryz.func71 rfl Tryz.ntmps71 (Nat.le_of_ble_eq_true rfl) (fun R=>?_)
 refine SR (gN 1 (fun b1=>[(4,vP b1)]) (fun _=>[]) (fun _=>[]) (fun b1=>.blk b1 [vI 0,vI 0,vI 0,vI 0,vI 0,vI 0,vI 0,vI 0,.bool false] 68) (fun b1=>?_))
 refine NS (gC 8 [] [(3,a_ 0 f),(4,p_ ⟨[],none,none,none,some (vI (X.last+1))⟩ [(Value.int .i64 (IntKind.wrap .i64 (X.last+1)))=(.int .i64 (X.last+1))] ⟨aU (by omega) (by omega) (by omega),trivial⟩),(7,a_ 0 f)] [(0,[(7,vI (X.last+1))])] ?_)
 refine NN (af.seq (af.ct (S:=[pF f m t { X with last:=X.last+1 },.abs R,.blk b1 [vI 0,vI 0,vI 0,vI 0,vI 0,vI 0,vI 0,vI 0,.bool false] 68]) [0,1,2,3,4,5,6,7,8,9,10,11] 11 [0,1,2] (by kernel_rfl) (by kernel_rfl) rfl (by kernel_rfl) ?_))
 refine gR 0 [11] [(4,vP b1),(22,.agg #[vI (X.last+1),vI (mode),vI 0,vI 0,vI (X.cS),vI (X.cZ),vI 0,vI 0,.bool false])] [0,1,2,3,4,5,6,7,8,9,10] [(3,a_ 0 f),(9,A_ 0 f 2)] ?_
 refine aG.last rfl rfl ?_
 refine gC 1 [] [(0,A_ 2 b1 9)] [(2,[(0,vI (X.last+1)),(1,vI (mode)),(4,vI (X.cS)),(5,vI (X.cZ))])] ?_
 refine NL (ai.np (NX (af.ret ?_)))
 exact ai.ret (v:=.agg #[vI (X.last+1),vI (mode),vI 0,vI 0,vI (X.cS),vI (X.cZ),vI 0,vI 0,.bool false]) (l:=[pF f m t { X with last:=X.last+1 }]) (bw:=[b1=b1,b1=b1,b1=b1,b1=b1,b1=b1,b1=b1,b1=b1,b1=b1,b1=b1]) [.at 2,.at 2,.at 2,.at 2,.at 2,.at 2,.at 2,.at 2,.at 2] [0,1] (fun _=>by kernel_rfl) ⟨rfl,rfl,rfl,rfl,rfl,rfl,rfl,rfl,rfl,trivial⟩ rfl (by kernel_rfl) (⟨rfl,rfl⟩)
end
section
open Go.RowKit Go.Maps ck aB
structure aH where
  X:FM
  O:bO
  idx:Used Th
  us:Used Th
  av:Int
abbrev pA (f m t:Nat) (L:HL) (S:aH):List HP:=[pF f m t S.X,pI m L S.idx,pT t S.X.cH S.av L S.us,pO S.O L,pD S.O L,pE S.O L]
structure aQ where
  op:Int
  handle:Int
  other:Int
  name:ByteArray
  text:ByteArray
  dA:Option Addr
  dC:Nat
  data:List UInt8
  mode:Int
  uid:Int
  gid:Int
  sec:Int
  nano:Int
  code:Int
  answer:Int
def gM (c:aQ):List Value:=[.int .i64 c.op,.int .i64 c.handle,.int .i64 c.other,.string c.name,.string c.text,.slice c.dA c.data.length c.dC,.int .i64 c.mode,.int .i64 c.uid,.int .i64 c.gid,.int .i64 c.sec,.int .i64 c.nano,.int .i64 c.code,.int .i64 c.answer]
abbrev pC (cb:Nat) (c:aQ):HP:=.blk cb (gM c) 50
abbrev c0 (c:aQ):aQ:={ c with answer:=0,code:=230 }
def N8 (L:HL):Except Int Nat->Value
  | .error e=>.tuple #[.pointer none,.int .i64 e]
  | .ok d=>.tuple #[.pointer (some ⟨L.b d,0,none⟩),.int .i64 0]
def N9 (L:HL):Except Int Th->Value
  | .error e=>.tuple #[.nilIface,.int .i64 e]
  | .ok t=>.tuple #[dh L t,.int .i64 0]
noncomputable section
def cY (O:bO) (us:Used Th) (h:Int) (name:ByteArray) (need:Int):Except Int Nat:=
  match aB.get us h with
  | none=>.error 131
  | some t=>
    if t.kind=2 then
      if (obj O t.k).gone=true then .error 170
      else if bI name then if bits BinOp.and .i64 (obj O t.k).mode need=need then .ok t.k else .error 175
      else .error 95
    else .error 173
def kW (s:ByteArray):Int:=
  if s=⟨#[]⟩ then 90 else if s.size > 4096 then 93 else if jF s then 0 else 91
def Room (X:FM) (idx:Used Th):Prop:=(idx.length:Int) < X.cN/\X.last < 1099511627776/\X.ah < 8192
instance (X:FM) (idx:Used Th):Decidable (Room X idx):=inferInstanceAs (Decidable (_/\_/\_))
def cF (X:FM) (O:bO) (idx:Used Th) (d:Nat) (name:ByteArray):Int:=
  if aP name (obj O d).ah=none then if Room X idx then 0 else 177 else 171
def bQ (X:FM) (kind mode:Int):aO:=⟨X.last+1,mode,0,0,X.cS,X.cZ,0,0,false,kind,[],⟨#[]⟩,[],none⟩
def aJ (X:FM):Nat:=(X.last+1).toNat
def iK (S:aH) (d:Nat) (name:ByteArray) (o:aO):aH:=
  { S with
    X:={ S.X with last:=S.X.last+1,ah:=S.X.ah+1 }
    O:=cC S.X (aA S.O (aJ S.X) (fun _=>o)) d name ⟨aJ S.X,o.kind⟩
    idx:=ins (S.X.last+1) ⟨aJ S.X,o.kind⟩ S.idx }
def aD (S:aH) (d:Nat) (name:ByteArray) (t:Th):aH:=
  { S with
    X:={ S.X with ah:=S.X.ah - 1,used:=if (obj (aM S.X S.O d name t) t.k).links=0 then iR (nH (aM S.X S.O d name t) t.k) S.X.used t else S.X.used }
    O:=if (obj (aM S.X S.O d name t) t.k).links=0 then nH (aM S.X S.O d name t) t.k else aM S.X S.O d name t
    idx:=if (obj (aM S.X S.O d name t) t.k).links=0 then iG (nH (aM S.X S.O d name t) t.k) S.idx t else S.idx }
theorem qv {S:aH} {d:Nat} {name:ByteArray} {t:Th} (h:(obj (aM S.X S.O d name t) t.k).links=0):aD S d name t={ S with X:={ S.X with ah:=S.X.ah - 1,used:=iR (nH (aM S.X S.O d name t) t.k) S.X.used t },O:=nH (aM S.X S.O d name t) t.k,idx:=iG (nH (aM S.X S.O d name t) t.k) S.idx t }:=by
  unfold aD
  simp only [if_pos h]
theorem qw {S:aH} {d:Nat} {name:ByteArray} {t:Th} (h:¬ (obj (aM S.X S.O d name t) t.k).links=0):aD S d name t={ S with X:={ S.X with ah:=S.X.ah - 1 },O:=aM S.X S.O d name t }:=by
  unfold aD
  simp only [if_neg h]
def iF (S:aH) (d:Nat) (name:ByteArray) (mode:Int):Int×aH:=
  if cF S.X S.O S.idx d name=0 then (0,iK S d name (bQ S.X 2 mode)) else (cF S.X S.O S.idx d name,S)
def fD (S:aH) (d:Nat) (name text:ByteArray):Int×aH:=
  if kW text=0 then
    if cF S.X S.O S.idx d name=0 then (0,iK S d name { bQ S.X 3 511 with target:=text }) else (cF S.X S.O S.idx d name,S)
  else (kW text,S)
def ez (S:aH) (d:Nat) (name:ByteArray):Int×aH:=
  match aP name (obj S.O d).ah with
  | none=>(170,S)
  | some t=>if t.kind=2 then (172,S) else (0,aD S d name t)
def orphan (O:bO) (k:Nat):bO:=aA O k (fun o=>{ o with up:=none })
def eS (S:aH) (d:Nat) (name:ByteArray):Int×aH:=
  match aP name (obj S.O d).ah with
  | none=>(170,S)
  | some t=>if t.kind=2 then if (obj S.O t.k).ah=[] then (0,{ aD S d name t with O:=orphan (aD S d name t).O t.k }) else (178,S) else (173,S)
inductive iI (O:bO) (sub:Nat):Nat->Prop
  | here:iI O sub sub
  | up {k j:Nat}:(obj O k).up=some j->iI O sub j->iI O sub k
instance (O:bO) (sub k:Nat):Decidable (iI O sub k):=Classical.propDecidable _
def lu (S:aH) (d:Nat) (name:ByteArray) (to:Nat) (toName:ByteArray) (t:Th):aH:=
  { S with X:={ S.X with ah:=S.X.ah - 1+1 },O:=cC S.X (aM S.X S.O d name t) to toName t }
def bC (S:aH) (d:Nat) (name:ByteArray) (to:Nat) (toName:ByteArray):Int×aH:=
  match aP name (obj S.O d).ah with
  | none=>(170,S)
  | some t=>
    if t.kind=2/\iI S.O t.k to then (174,S)
    else match aP toName (obj S.O to).ah with
      | none=>(0,lu S d name to toName t)
      | some o=>
        if o=t then (0,S) else if o.kind=2 then (172,S) else if t.kind=2 then (173,S)
        else (0,lu (aD S to toName o) d name to toName t)
def aW (X:FM) (n:Nat):Nat:=(min (n:Int) (X.cB - X.used)).toNat
def fH (S:aH) (k:Nat) (bs:List UInt8):Int×Int×aH:=
  if bs=[] then (0,0,S)
  else if S.X.cB - S.X.used<=0 then (0,176,S)
  else ((aW S.X bs.length:Int),0,{ S with
    X:={ S.X with used:=S.X.used+(aW S.X bs.length:Int) }
    O:=aA S.O k (fun o=>{ o with data:=o.data++bs.take (aW S.X bs.length),sec:=S.X.cS,nano:=S.X.cZ }) })
def bK (S:aH) (t:Th):Int×Int×aH:=
  (if (S.us.length:Int) < S.X.cH then least S.us else 0,if (S.us.length:Int) < S.X.cH then 0 else 130,{ S with
    O:=if (S.us.length:Int) < S.X.cH then aA S.O t.k (fun o=>{ o with opens:=o.opens+1 }) else S.O
    us:=if (S.us.length:Int) < S.X.cH then ins (least S.us) t S.us else S.us
    av:=if (S.us.length:Int) < S.X.cH then max S.av ((S.us.length:Int)+1) else S.av })
theorem iT {S:aH} {t:Th} (h:(S.us.length:Int) < S.X.cH):bK S t=(least S.us,0,{ S with O:=aA S.O t.k (fun o=>{ o with opens:=o.opens+1 }),us:=ins (least S.us) t S.us,av:=max S.av ((S.us.length:Int)+1) }):=by
  unfold bK
  simp only [if_pos h]
theorem kr {S:aH} {t:Th} (h:¬ (S.us.length:Int) < S.X.cH):bK S t=(0,130,S):=by
  unfold bK
  simp only [if_neg h]
abbrev oA:=Int×aH×aQ
def iU (S:aH) (c:aQ):oA:=
  match aB.get S.idx c.other with
  | none=>(141,S,c)
  | some t=>if t.kind=2 then ((bK S t).2.1,(bK S t).2.2,{ c with answer:=(bK S t).1 }) else (173,S,c)
def fo (O:bO) (us:Used Th) (c:aQ):Except Int Th:=
  match cY O us c.handle c.name 64 with
  | .error e=>.error e
  | .ok d=>match aP c.name (obj O d).ah with
    | none=>.error 170
    | some t=>.ok t
def eE (S:aH) (c:aQ):oA:=
  match fo S.O S.us c with
  | .error e=>(e,S,c)
  | .ok t=>if t.kind=3 then (174,S,c) else if t.kind=1 then (173,S,c) else ((bK S t).2.1,(bK S t).2.2,{ c with answer:=(bK S t).1 })
def d6 (S:aH) (c:aQ):oA:=
  match fo S.O S.us c with
  | .error e=>(e,S,c)
  | .ok t=>if t.kind=3 then (174,S,c) else if t.kind=2 then (172,S,c) else ((bK S t).2.1,(bK S t).2.2,{ c with answer:=(bK S t).1 })
def lq (m:Int):Prop:=0<=m/\m<=4095
instance (m:Int):Decidable (lq m):=inferInstanceAs (Decidable (_/\_))
def fF (S:aH) (c:aQ):oA:=
  match cY S.O S.us c.handle c.name 192 with
  | .error e=>(e,S,c)
  | .ok d=>if lq c.mode then ((iF S d c.name c.mode).1,(iF S d c.name c.mode).2,c) else (120,S,c)
def kO (S:aH) (d:Nat) (name:ByteArray) (mode:Int):Int×Int×aH:=
  if cF S.X S.O S.idx d name=0 then
    if (S.us.length:Int) < S.X.cH then
      (least S.us,0,iK { S with us:=ins (least S.us) ⟨aJ S.X,1⟩ S.us,av:=max S.av ((S.us.length:Int)+1) } d name { bQ S.X 1 mode with opens:=1 })
    else (0,130,S)
  else (0,cF S.X S.O S.idx d name,S)
def dI (S:aH) (c:aQ):oA:=
  match cY S.O S.us c.handle c.name 192 with
  | .error e=>(e,S,c)
  | .ok d=>if lq c.mode then
      if cF S.X S.O S.idx d c.name=0 then ((kO S d c.name c.mode).2.1,(kO S d c.name c.mode).2.2,{ c with answer:=(kO S d c.name c.mode).1 })
      else (cF S.X S.O S.idx d c.name,S,c)
    else (120,S,c)
def fB (S:aH) (c:aQ):oA:=
  match cY S.O S.us c.handle c.name 192 with
  | .error e=>(e,S,c)
  | .ok d=>((fD S d c.name c.text).1,(fD S d c.name c.text).2,c)
def dZ (S:aH) (d:Nat) (name:ByteArray) (to:Nat) (toName:ByteArray):Int×aH:=
  match aP name (obj S.O d).ah with
  | none=>(170,S)
  | some t=>if t.kind=2 then (172,S)
    else if aP toName (obj S.O to).ah=none then
      if S.X.ah < 8192 then (0,{ S with X:={ S.X with ah:=S.X.ah+1 },O:=cC S.X S.O to toName t }) else (177,S)
    else (171,S)
def cx (S:aH) (c:aQ):oA:=
  match cY S.O S.us c.handle c.name 64 with
  | .error e=>(e,S,c)
  | .ok d=>match cY S.O S.us c.other c.text 192 with
    | .error e=>(e,S,c)
    | .ok to=>((dZ S d c.name to c.text).1,(dZ S d c.name to c.text).2,c)
def fY (S:aH) (c:aQ):oA:=
  match cY S.O S.us c.handle c.name 192 with
  | .error e=>(e,S,c)
  | .ok d=>((ez S d c.name).1,(ez S d c.name).2,c)
def gX (S:aH) (c:aQ):oA:=
  match cY S.O S.us c.handle c.name 192 with
  | .error e=>(e,S,c)
  | .ok d=>((eS S d c.name).1,(eS S d c.name).2,c)
def eV (S:aH) (c:aQ):oA:=
  match cY S.O S.us c.handle c.name 192 with
  | .error e=>(e,S,c)
  | .ok d=>match cY S.O S.us c.other c.text 192 with
    | .error e=>(e,S,c)
    | .ok to=>((bC S d c.name to c.text).1,(bC S d c.name to c.text).2,c)
def fR (S:aH) (c:aQ):oA:=
  match aB.get S.us c.handle with
  | none=>(131,S,c)
  | some t=>if t.kind=1 then ((fH S t.k c.data).2.1,(fH S t.k c.data).2.2,{ c with answer:=(fH S t.k c.data).1 }) else (172,S,c)
def xq (m:Int):Prop:=0<=m/\m<=2147483647
instance (m:Int):Decidable (xq m):=inferInstanceAs (Decidable (_/\_))
def bA (S:aH) (c:aQ):oA:=
  match aB.get S.us c.handle with
  | none=>(131,S,c)
  | some t=>
    if (obj S.O t.k).gone=true/\t.kind=2 then (170,S,c)
    else if lq c.mode then
      if xq c.uid/\xq c.gid then
        if cg c.sec c.nano then (0,{ S with O:=aA S.O t.k (fun o=>{ o with mode:=c.mode,uid:=c.uid,gid:=c.gid,sec:=c.sec,nano:=c.nano }) },c)
        else (20,S,c)
      else (11,S,c)
    else (120,S,c)
def lC (O:bO) (c:aQ):Option Th->aQ
  | none=>{ c with other:=0,mode:=0,uid:=0,gid:=0,sec:=0,nano:=0 }
  | some t=>{ c with answer:=(obj O t.k).id,other:=t.kind,mode:=(obj O t.k).mode,uid:=(obj O t.k).uid,gid:=(obj O t.k).gid,sec:=(obj O t.k).sec,nano:=(obj O t.k).nano }
def j3 (S:aH) (c:aQ):oA:=
  match aB.get S.us c.handle with
  | none=>(131,S,lC S.O c none)
  | some t=>(0,S,lC S.O c (some t))
def fS (S:aH) (c:aQ):oA:=
  match fo S.O S.us c with
  | .error e=>(e,S,lC S.O c none)
  | .ok t=>(0,S,lC S.O c (some t))
def nS (O:bO) (k:Nat):bO:=aA O k (fun o=>{ o with opens:=o.opens - 1 })
def iV (S:aH) (c:aQ):oA:=
  match aB.get S.us c.handle with
  | none=>(131,S,c)
  | some t=>(0,{ S with
      X:={ S.X with used:=iR (nS S.O t.k) S.X.used t }
      O:=nS S.O t.k
      idx:=iG (nS S.O t.k) S.idx t
      us:=del c.handle S.us },c)
def cK (S:aH) (c:aQ):oA:=
  if c.op=1 then iU S c else if c.op=2 then eE S c else if c.op=3 then d6 S c else if c.op=4 then fF S c
  else if c.op=5 then dI S c else if c.op=6 then fB S c else if c.op=7 then cx S c else if c.op=8 then fY S c
  else if c.op=9 then fR S c else if c.op=10 then bA S c else if c.op=11 then j3 S c else if c.op=12 then fS S c
  else if c.op=13 then iV S c else if c.op=14 then gX S c else if c.op=15 then eV S c else (230,S,c)
def mB (S:aH) (c:aQ):aH×aQ:=
  ((cK S { c with answer:=0,code:=230 }).2.1,{ (cK S { c with answer:=0,code:=230 }).2.2 with code:=(cK S { c with answer:=0,code:=230 }).1 })
end
end
section
open Go.RowKit Go.Maps ck aB
section sums
variable {V:Type} {g g':Int×V->Nat} {us:Used V} {h:Int} {v:V}
def cV (g:Int×V->Nat):Used V->Nat
  | []=>0
  | p::r=>g p+cV g r
theorem wg:cV g (ins h v us)=g (h,v)+cV g us:=by
  induction us with
  | nil=>rfl
  | cons p r ih=>
    unfold ins
    split
    ·rfl
    show g p+cV g (ins h v r)=g (h,v)+(g p+cV g r)
    rw [ih];omega
theorem eO (hc:∀ p∈us,g' p=g p):cV g' us=cV g us:=by
  induction us with
  | nil=>rfl
  | cons p r ih=>
    show g' p+cV g' r=g p+cV g r
    rw [hc p (List.mem_cons_self ..),ih (fun q hq=>hc q (List.mem_cons_of_mem _ hq))]
theorem Dq (hc:∀ p∈us,g' p<=g p):cV g' us<=cV g us:=by
  induction us with
  | nil=>exact Nat.le_refl _
  | cons p r ih=>
    show g' p+cV g' r<=g p+cV g r
    exact Nat.add_le_add (hc p (List.mem_cons_self ..)) (ih (fun q hq=>hc q (List.mem_cons_of_mem _ hq)))
theorem pV {p:Int×V} {r:Used V}:aB.get (p::r) h=if p.1=h then some p.2 else aB.get r h:=by
  unfold aB.get
  rw [List.find?_cons]
  by_cases e:p.1=h
  ·simp [e]
  have e2:(p.1 == h)=false:=by simpa using e
  rw [e2,if_neg e]
theorem get_mem {us:Used V} (e:aB.get us h=some v):(h,v)∈us:=by
  induction us with
  | nil=>cases e
  | cons p r ih=>
    rw [pV] at e
    split at e
    ·rename_i e2;cases e;subst e2;exact List.mem_cons_self ..
    exact List.mem_cons_of_mem _ (ih e)
theorem lZ {us:Used V} (hr:aB.bN (keys us)) (e:(h,v)∈us):aB.get us h=some v:=by
  induction us with
  | nil=>cases e
  | cons p r ih=>
    rw [keys_cons] at hr
    obtain⟨h1,h2⟩:=List.pairwise_cons.1 hr
    rw [pV]
    rcases List.mem_cons.1 e with e|e
    ·subst e;rw [if_pos rfl]
    have:p.1 < h:=h1 h (List.mem_map.2 ⟨(h,v),e,rfl⟩)
    rw [if_neg (by omega)]
    exact ih h2 e
theorem jU (e:aB.get us h=some v):g (h,v)<=cV g us:=by
  have hm:=get_mem e
  induction us with
  | nil=>cases hm
  | cons p r ih=>
    show _<=g p+cV g r
    rw [pV] at e
    split at e
    ·rename_i e2;cases e;subst e2;exact Nat.le_add_right ..
    rcases List.mem_cons.1 hm with e2|e2
    ·subst e2;exact Nat.le_add_right ..
    exact Nat.le_trans (ih e e2) (Nat.le_add_left ..)
theorem wh (hr:aB.bN (keys us)) (e:aB.get us h=some v) (hc:∀ p∈us,p.1≠h->g' p=g p):cV g' us+g (h,v)=cV g us+g' (h,v):=by
  induction us with
  | nil=>cases e
  | cons p r ih=>
    rw [keys_cons] at hr
    obtain⟨h1,h2⟩:=List.pairwise_cons.1 hr
    rw [pV] at e
    show g' p+cV g' r+_=g p+cV g r+_
    split at e
    ·rename_i e2
     cases e
     have e3:cV g' r=cV g r:=eO (fun q hq=>hc q (List.mem_cons_of_mem _ hq) (by
       have:=h1 q.1 (List.mem_map.2 ⟨q,hq,rfl⟩);omega))
     have e4:p=(h,p.2):=by rw [← e2]
     rw [e3,← e4];omega
    rename_i e2
    have:=ih h2 e (fun q hq=>hc q (List.mem_cons_of_mem _ hq))
    have:=hc p (List.mem_cons_self ..) e2
    omega
theorem HE {p:Int×V} {r:Used V}:del h (p::r)=if p.1=h then del h r else p::del h r:=by
  unfold del
  rw [List.filter_cons]
  by_cases e:p.1=h
  ·simp [e]
  simp [e]
theorem J6 {us:Used V} (hn:h∉keys us):del h us=us:=by
  unfold del
  refine List.filter_eq_self.2 (fun p hp=>?_)
  have:¬ p.1=h:=fun e=>hn (List.mem_map.2 ⟨p,hp,e⟩)
  simp [this]
theorem wi (hr:aB.bN (keys us)) (e:aB.get us h=some v):cV g (del h us)+g (h,v)=cV g us:=by
  induction us with
  | nil=>cases e
  | cons p r ih=>
    rw [keys_cons] at hr
    obtain⟨h1,h2⟩:=List.pairwise_cons.1 hr
    rw [pV] at e
    rw [HE]
    show _=g p+cV g r
    split at e
    ·rename_i e2
     cases e
     rw [if_pos e2,J6 (fun hm=>by have:=h1 h hm;omega)]
     have e4:p=(h,p.2):=by rw [← e2]
     rw [← e4];omega
    rename_i e2
    rw [if_neg e2]
    show g p+cV g (del h r)+_=_
    have:=ih h2 e
    omega
theorem Bv {us:Used V} (hr:aB.bN (keys us)):aB.bN (keys (del h us)):=by
  rw [lI]
  exact List.Pairwise.filter _ hr
end sums
section Oa
variable {n:ByteArray} {t:Th} {es:dS Th} {q:ByteArray×Th->Bool}
theorem FX:(eH n t es).countP q=es.countP q+if q (n,t) then 1 else 0:=by
  induction es with
  | nil=>simp [eH,List.countP_cons]
  | cons e r ih=>
    unfold eH
    split
    ·rw [List.countP_cons]
    rw [List.countP_cons,ih,List.countP_cons];omega
theorem FY {es:dS Th} (hd:lV es) (h:aP n es=some t):(eT n es).countP q+(if q (n,t) then 1 else 0)=es.countP q:=by
  induction es with
  | nil=>cases h
  | cons e r ih=>
    obtain⟨h1,h2⟩:=List.pairwise_cons.1 hd
    rw [fQ] at h
    rw [List.countP_cons]
    by_cases he:e.1=n
    ·rw [if_pos he] at h
     have e1:eT n (e::r)=r:=by
       unfold eT
       rw [List.filter_cons,if_neg (by simp [he])]
       exact List.filter_eq_self.2 (fun x hx=>by have:=h1 x hx;simp;exact fun e2=>this (he.trans e2.symm))
     have e2:e=(n,t):=by
       have:e.2=t:=Option.some.inj h
       rw [← he,← this]
     rw [e1,← e2]
    rw [if_neg he] at h
    have e1:eT n (e::r)=e::eT n r:=by
      unfold eT
      rw [List.filter_cons,if_pos (by simp [he])]
    rw [e1,List.countP_cons]
    have:=ih h2 h
    omega
theorem HF {e:ByteArray×Th} {es:dS Th} (h:e∈eT n es):e∈es/\e.1≠n:=by
  unfold eT at h
  have:=List.mem_filter.1 h
  exact⟨this.1,by simpa using this.2⟩
theorem tU {es:dS Th} (hd:lV es) (h:(n,t)∈es):aP n es=some t:=by
  induction es with
  | nil=>cases h
  | cons e r ih=>
    obtain⟨h1,h2⟩:=List.pairwise_cons.1 hd
    rw [fQ]
    rcases List.mem_cons.1 h with h|h
    ·subst h;rw [if_pos rfl]
    rw [if_neg (fun e2=>h1 (n,t) h e2),ih h2 h]
end Oa
def Live (idx:Used Th) (t:Th):Prop:=aB.get idx (t.k:Int)=some t
def iH (es:dS Th):Prop:=es.Pairwise (fun a b=>¬ fJ b.1 a.1)
def gu (idx:Used Th) (O:bO) (k:Nat):Nat:=cV (fun p=>(obj O p.2.k).ah.countP (fun e=>decide (e.2.k=k))) idx
def tot (idx:Used Th) (O:bO):Nat:=cV (fun p=>(obj O p.2.k).ah.length) idx
def bytes (idx:Used Th) (O:bO):Nat:=cV (fun p=>(obj O p.2.k).data.length) idx
def hnd (us:Used Th) (k:Nat):Nat:=cV (fun p=>if p.2.k=k then 1 else 0) us
structure jq (o:aO):Prop where
  mode:0<=o.mode/\o.mode<=4095
  uid:0<=o.uid/\o.uid<=2147483647
  gid:0<=o.gid/\o.gid<=2147483647
  time:cg o.sec o.nano
  data:o.kind≠1->o.data=[]
  ah:o.kind≠2->o.ah=[]
  target:aX o.kind o.target
structure Inv0 (S:aH):Prop where
  cN:0<=S.X.cN/\S.X.cN<=4096
  cB:0<=S.X.cB/\S.X.cB<=1099511627776
  cH:0<=S.X.cH/\S.X.cH<=1024
  now:cg S.X.cS S.X.cZ
  last:0<=S.X.last/\S.X.last<=1099511627776
  rise:aB.bN (keys S.idx)
  len:S.idx.length<=4096
  idx:∀ i t,aB.get S.idx i=some t->i=(t.k:Int)/\0 < i/\i<=S.X.last
  ob:∀ t,Live S.idx t->(obj S.O t.k).id=(t.k:Int)/\(obj S.O t.k).kind=t.kind/\(t.kind=1\/t.kind=2\/t.kind=3)
  mt:∀ t,Live S.idx t->jq (obj S.O t.k)
  ah:∀ t,Live S.idx t->∀ e∈(obj S.O t.k).ah,bI e.1/\Live S.idx e.2
  sorted:∀ t,Live S.idx t->iH (obj S.O t.k).ah
  dead:∀ k,(∀ t,Live S.idx t->t.k≠k)->(obj S.O k).ah=[]/\(obj S.O k).up=none
  oP:∀ k:Nat,S.X.last < (k:Int)->(obj S.O k).kind=0
  total:S.X.ah=(tot S.idx S.O:Int)/\S.X.ah<=8192
  links:∀ t,Live S.idx t->(obj S.O t.k).links=(gu S.idx S.O t.k:Int)
  once:∀ t,Live S.idx t->t.kind=2->(obj S.O t.k).links<=1
  opens:∀ t,Live S.idx t->(obj S.O t.k).opens=(hnd S.us t.k:Int)
  usr:aB.bN (keys S.us)
  tV:∀ x∈keys S.us,1<=x/\x<=S.av
  zB:(S.us.length:Int)<=S.X.cH
  av:0<=S.av/\S.av<=S.X.cH
  us:∀ h t,aB.get S.us h=some t->Live S.idx t/\t.kind≠3
  gone:∀ t,Live S.idx t->(obj S.O t.k).gone=true->(obj S.O t.k).links=0/\(obj S.O t.k).ah=[]
  up:∀ t,Live S.idx t->∀ d,(obj S.O t.k).up=some d↔t.kind=2/\Live S.idx ⟨d,2⟩/\∃ n,aP n (obj S.O d).ah=some t
  deep:∃ dp:Nat->Nat,∀ k d,(obj S.O k).up=some d->dp d < dp k
  used:S.X.used=(bytes S.idx S.O:Int)/\S.X.used<=140737488355328
structure Inv (S:aH):Prop extends Inv0 S where
  full:∀ t,Live S.idx t->(obj S.O t.k).gone=true->0 < (obj S.O t.k).opens
end
section
open Go.RowKit Go.Maps ck aB
section at_
variable {X:FM} {O:bO} {d k:Nat} {name:ByteArray} {t:Th}
theorem gH (h:t.k≠d):obj (aM X O d name t) k=if k=d then { obj O d with ah:=eT name (obj O d).ah,sec:=X.cS,nano:=X.cZ } else if k=t.k then { obj O k with links:=(obj O k).links - 1 } else obj O k:=by
  unfold aM nO
  by_cases e:k=d
  ·subst e
   rw [bP (fun e=>h e.symm),bB,bB,if_pos rfl]
  rw [if_neg e]
  by_cases e2:k=t.k
  ·subst e2
   rw [bB,bP e,bP e,if_pos rfl]
  rw [bP e2,bP e,bP e,if_neg e2]
theorem tW (h:t.k≠d):obj (cC X O d name t) k=if k=d then { obj O d with ah:=eH name t (obj O d).ah,sec:=X.cS,nano:=X.cZ } else if k=t.k then { obj O k with links:=(obj O k).links+1,up:=if t.kind=2 then some d else (obj O k).up } else obj O k:=by
  unfold cC nO mz
  simp only
  by_cases e:k=d
  ·subst e
   rw [if_pos rfl,bB]
   split
   ·rw [bP (fun e=>h e.symm),bP (fun e=>h e.symm),bB]
   rw [bP (fun e=>h e.symm),bB]
  rw [if_neg e,bP e]
  by_cases e2:k=t.k
  ·subst e2
   rw [if_pos rfl]
   split
   ·rw [bB,bB,bP e]
   rw [bB,bP e]
  rw [if_neg e2]
  split
  ·rw [bP e2,bP e2,bP e]
  rw [bP e2,bP e]
end at_
section counts
variable {idx:Used Th} {O O':bO} {d k:Nat} {n:ByteArray} {t:Th}
theorem HM {q:ByteArray×Th->Bool} (hr:aB.bN (keys idx)) (hd:aB.get idx (d:Int)=some ⟨d,2⟩) (hk:∀ i u,aB.get idx i=some u->i=(u.k:Int)) (ho:∀ x,x≠d->(obj O' x).ah=(obj O x).ah) (h1:(obj O' d).ah=eT n (obj O d).ah) (h2:lV (obj O d).ah) (h3:aP n (obj O d).ah=some t) :
    cV (fun p=>(obj O' p.2.k).ah.countP q) idx+(if q (n,t) then 1 else 0)=cV (fun p=>(obj O p.2.k).ah.countP q) idx:=by
  have h4:=wh (g:=fun p=>(obj O p.2.k).ah.countP q) (g':=fun p=>(obj O' p.2.k).ah.countP q) hr hd (fun p hp hne=>by
    have:=hk p.1 p.2 (lZ hr hp)
    show (obj O' p.2.k).ah.countP q=_
    rw [ho p.2.k (by intro e;rw [e] at this;exact hne this)])
  have h5:=FY (q:=q) h2 h3
  have h6:(obj O' d).ah.countP q=(eT n (obj O d).ah).countP q:=by rw [h1]
  have h7:cV (fun p=>(obj O' p.2.k).ah.countP q) idx+(obj O d).ah.countP q=cV (fun p=>(obj O p.2.k).ah.countP q) idx+(obj O' d).ah.countP q:=h4
  omega
theorem HT {q:ByteArray×Th->Bool} (hr:aB.bN (keys idx)) (hd:aB.get idx (d:Int)=some ⟨d,2⟩) (hk:∀ i u,aB.get idx i=some u->i=(u.k:Int)) (ho:∀ x,x≠d->(obj O' x).ah=(obj O x).ah) (h1:(obj O' d).ah=eH n t (obj O d).ah) :
    cV (fun p=>(obj O' p.2.k).ah.countP q) idx=cV (fun p=>(obj O p.2.k).ah.countP q) idx+(if q (n,t) then 1 else 0):=by
  have h4:=wh (g:=fun p=>(obj O p.2.k).ah.countP q) (g':=fun p=>(obj O' p.2.k).ah.countP q) hr hd (fun p hp hne=>by
    have:=hk p.1 p.2 (lZ hr hp)
    show (obj O' p.2.k).ah.countP q=_
    rw [ho p.2.k (by intro e;rw [e] at this;exact hne this)])
  have h5:=FX (q:=q) (n:=n) (t:=t) (es:=(obj O d).ah)
  have h6:(obj O' d).ah.countP q=(eH n t (obj O d).ah).countP q:=by rw [h1]
  have h7:cV (fun p=>(obj O' p.2.k).ah.countP q) idx+(obj O d).ah.countP q=cV (fun p=>(obj O p.2.k).ah.countP q) idx+(obj O' d).ah.countP q:=h4
  omega
theorem kx:tot idx O=cV (fun p=>(obj O p.2.k).ah.countP (fun _=>true)) idx:=eO (fun p _=>by simp)
theorem FZ {q:ByteArray×Th->Bool} (ho:∀ x,(obj O' x).ah=(obj O x).ah):cV (fun p=>(obj O' p.2.k).ah.countP q) idx=cV (fun p=>(obj O p.2.k).ah.countP q) idx:=eO (fun p _=>by rw [ho])
theorem F5:gu idx O k<=tot idx O:=by
  rw [kx]
  exact Dq (fun p _=>List.countP_mono_left (fun _ _ _=>rfl))
theorem kP (hd:aB.get idx (d:Int)=some ⟨d,2⟩) (h:aP n (obj O d).ah=some t):0 < gu idx O t.k:=by
  refine Nat.lt_of_lt_of_le ?_ (jU (g:=fun p=>(obj O p.2.k).ah.countP (fun e=>decide (e.2.k=t.k))) hd)
  exact List.countP_pos_iff.2 ⟨(n,t),kf h,by simp⟩
theorem xu (hr:aB.bN (keys idx)) (h:0 < gu idx O k):∃ i u,aB.get idx i=some u/\∃ e∈(obj O u.k).ah,e.2.k=k:=by
  apply Classical.byContradiction
  intro hn
  have:gu idx O k=cV (fun _=>0) idx:=eO (fun p hp=>by
    show List.countP _ _=0
    rw [List.countP_eq_zero]
    intro e he hk
    exact hn ⟨p.1,p.2,lZ hr hp,e,he,by simpa using hk⟩)
  have h0:∀ us:Used Th,cV (fun _=>0) us=0:=fun us=>by
    induction us with
    | nil=>rfl
    | cons p r ih=>show 0+_=0;rw [ih]
  rw [this,h0] at h
  omega
end counts
end
end Go.Proofs.YtaepnjbceganhaaGreat
