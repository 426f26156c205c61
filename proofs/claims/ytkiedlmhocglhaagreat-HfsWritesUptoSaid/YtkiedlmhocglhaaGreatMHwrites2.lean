/-
  PROVED HERE: lemmas and contracts of functions (texts of this repo, joined; what the claim does not use is left out): GCheck, GE, Hm, Vw, Vy, Vz, Fam, Ld, Fw, Ms, Hn, Ho, Vq, Hc, Hd, H1, ShelfK, Free, HeapMath, Up, Down, PushPop, TabMath, Tab, Tq, TKt.
  CONDITIONS: as the theorems say.
-/
import Derived.Test.YtkiedlmhocglhaaGreatMHwrites1
import Derived.Laws.OwnMore
import Derived.Lib.Bytealg
import Derived.OrdersHeld
import Derived.Maps.OwnOps
import Derived.Shelf.SlGeneric
import Derived.Shelf.SlIterI.Nil
import Derived.Shelf.SortM.Plain
import Derived.Shelf.SortM.SortNone
import Derived.Ground.GgzProg
import Derived.Ground.SlgmProg
import Derived.Test.YtkiedlmhocglhaaGreatProg
import Derived.RegionTactic
import Derived.Deep.QuietTactic
import Derived.BigQuiet
import Derived.BigRegion
import Derived.StillTailTactics
import Derived.WalkSpells
import Derived.Outline
import Derived.Deep.AppendLies
import Derived.Deep.RegionLaw
import Derived.LoopTactic
section
namespace Go.Proofs.YtkiedlmhocglhaaGreat
open Go.RowKit
attribute [local irreducible] ah aI af aj
set_option maxRecDepth 100000 in
set_option maxHeartbeats 4000000 in
theorem pH {β : Bs} (a b c : Int) :
    Spec Tryz.prog β 141 #[.int .i64 (a), .int .i64 (b), .int .i64 (c)] [] (fun v l => v = .bool (decide (Within a b c)) ∧ l = []) := by
 refine Spec.enter Tryz.func141 rfl Tryz.ntmps141 (Nat.le_of_ble_eq_true rfl) (fun R => ?_)
 refine af.seq (af.region ?_)
 refine ah.aA (k' := 1) (fr' := [(0, .int .i64 (a)), (1, .int .i64 (b)), (2, .int .i64 (c))]) (ak := []) [o_] [0, 1, 2] (fun _ _ => by kernel_rfl) trivial ?_
 refine ah.nil (by kernel_rfl) (aj.next (af.seq (af.region ?_)))
 refine ah.aA (k' := 4) (fr' := [(0, .int .i64 (a)), (2, .int .i64 (c)), (10, .bool (decide ((a : Int) ≥ (b : Int))))]) (ak := []) [o_, o_, o_, o_] [0, 2, 10] (fun _ _ => by kernel_rfl) trivial ?_
 refine ah.fD 10 ((a : Int) ≥ (b : Int)) (fun _ => by kernel_rfl) (fun h10 => ?_) (fun h10 => ?_)
 ·
  refine ah.aA (k' := 9) (fr' := [(6, .bool (decide ((a : Int) ≤ (c : Int))))]) (ak := []) [o_, o_, o_, o_, o_] [6] (fun _ _ => by kernel_rfl) trivial ?_
  refine ah.nil (by kernel_rfl) (aj.next (af.ret ?_))
  exact aj.ret (v := .bool (decide ((a : Int) ≤ (c : Int)))) (l := []) (ak := []) [] [0] (fun _ => by kernel_rfl) trivial rfl (by kernel_rfl) (⟨congrArg Value.bool (decide_eq_decide.2 (by unfold Within; omega)), rfl⟩)
 ·
  refine ah.aA (k' := 9) (fr' := [(6, .bool false)]) (ak := []) [o_, o_, o_, o_, o_] [6] (fun _ _ => by kernel_rfl) trivial ?_
  refine ah.nil (by kernel_rfl) (aj.next (af.ret ?_))
  exact aj.ret (v := .bool false) (l := []) (ak := []) [] [0] (fun _ => by kernel_rfl) trivial rfl (by kernel_rfl) (⟨congrArg Value.bool (decide_eq_false (by unfold Within; omega)).symm, rfl⟩)
set_option maxRecDepth 100000 in
set_option maxHeartbeats 4000000 in
theorem fk {β : Bs} (s n : Int) :
    Spec Tryz.prog β 26 #[.agg #[.int .i64 (s), .int .i64 (n)]] [] (fun v l => v = .bool (decide (cL s n)) ∧ l = []) := by
 refine Spec.enter Tryz.func26 rfl Tryz.ntmps26 (Nat.le_of_ble_eq_true rfl) (fun R => ?_)
 refine af.seq (af.region ?_)
 refine ah.uM (k' := 2) (fr' := fun b1 => [(1, .pointer (some ⟨b1, 0, none⟩))]) (aK := fun b1 => [.abs R, .blk b1 [.int .i64 (s), .int .i64 (n)] 28]) (ak := fun b1 => []) [o_, o_] [1] [0, 1] (fun _ _ => by kernel_rfl) (fun b1 => trivial) (fun b1 => ?_)
 refine ah.nil (by kernel_rfl) (aj.next (af.seq (af.seq (af.region ?_))))
 refine ah.aA (k' := 4) (fr' := [(1, .pointer (some ⟨b1, 0, none⟩)), (6, .bool (decide ((n : Int) < (0 : Int))))]) (ak := [b1 = b1]) [o_, ⟨[.at 1], none, none, none, none⟩, o_, o_] [1, 6] (fun _ _ => by kernel_rfl) ⟨rfl, trivial⟩ ?_
 refine ah.fD 6 ((n : Int) < (0 : Int)) (fun _ => by kernel_rfl) (fun h6 => ?_) (fun h6 => ?_)
 ·
  refine ah.aA (k' := 8) (fr' := [(1, .pointer (some ⟨b1, 0, none⟩)), (10, .bool true)]) (ak := []) [o_, o_, o_, o_] [1, 10] (fun _ _ => by kernel_rfl) trivial ?_
  refine ah.nil (by kernel_rfl) (aj.next ?_)
  refine af.fK (fun _ => by kernel_rfl) ?_
  refine af.seq (af.region ?_)
  refine ah.aA (k' := 1) (fr' := [(2, .bool false)]) (ak := []) [o_] [2] (fun _ _ => by kernel_rfl) trivial ?_
  refine ah.nil (by kernel_rfl) (aj.next (af.ret (aj.av ?_)))
  exact aj.ret (v := .bool false) (l := []) (ak := []) [] [0] (fun _ => by kernel_rfl) trivial rfl (by kernel_rfl) (⟨congrArg Value.bool (decide_eq_false (by unfold cL; omega)).symm, rfl⟩)
 ·
  refine ah.aA (k' := 8) (fr' := [(1, .pointer (some ⟨b1, 0, none⟩)), (10, .bool (decide ((n : Int) ≥ (1000000000 : Int))))]) (ak := [b1 = b1]) [o_, ⟨[.at 1], none, none, none, none⟩, o_, o_] [1, 10] (fun _ _ => by kernel_rfl) ⟨rfl, trivial⟩ ?_
  refine ah.nil (by kernel_rfl) (aj.next ?_)
  refine af.bH (p := (n : Int) ≥ (1000000000 : Int)) (fun _ => by kernel_rfl) (fun h10 => ?_) (fun h10 => ?_)
  ·
   refine af.seq (af.region ?_)
   refine ah.aA (k' := 1) (fr' := [(2, .bool false)]) (ak := []) [o_] [2] (fun _ _ => by kernel_rfl) trivial ?_
   refine ah.nil (by kernel_rfl) (aj.next (af.ret (aj.av ?_)))
   exact aj.ret (v := .bool false) (l := []) (ak := []) [] [0] (fun _ => by kernel_rfl) trivial rfl (by kernel_rfl) (⟨congrArg Value.bool (decide_eq_false (by unfold cL; omega)).symm, rfl⟩)
  ·
   refine af.skip (aj.next (af.seq (af.seq (af.region ?_))))
   refine ah.aA (k' := 3) (fr' := [(1, .pointer (some ⟨b1, 0, none⟩)), (13, .bool (decide ((s : Int) = ((-1099511627777) : Int))))]) (ak := [b1 = b1]) [o_, ⟨[.at 1], none, none, none, none⟩, o_] [1, 13] (fun _ _ => by kernel_rfl) ⟨rfl, trivial⟩ ?_
   refine ah.nil (by kernel_rfl) (aj.next ?_)
   refine af.bH (p := (s : Int) = ((-1099511627777) : Int)) (fun _ => by kernel_rfl) (fun Mx => ?_) (fun Mx => ?_)
   ·
    refine af.seq (af.region ?_)
    refine ah.aA (k' := 4) (fr' := [(2, .bool (decide ((n : Int) > (0 : Int))))]) (ak := [b1 = b1]) [o_, ⟨[.at 1], none, none, none, none⟩, o_, o_] [2] (fun _ _ => by kernel_rfl) ⟨rfl, trivial⟩ ?_
    refine ah.nil (by kernel_rfl) (aj.next (af.ret (aj.av ?_)))
    exact aj.ret (v := .bool (decide ((n : Int) > (0 : Int)))) (l := []) (ak := []) [] [0] (fun _ => by kernel_rfl) trivial rfl (by kernel_rfl) (⟨congrArg Value.bool (decide_eq_decide.2 (by unfold cL; omega)), rfl⟩)
   ·
    refine af.skip (aj.next (af.seq (af.region ?_)))
    refine ah.aA (k' := 4) (fr' := [(1, .pointer (some ⟨b1, 0, none⟩)), (20, .bool (decide ((s : Int) > ((-1099511627777) : Int))))]) (ak := [b1 = b1]) [o_, ⟨[.at 1], none, none, none, none⟩, o_, o_] [1, 20] (fun _ _ => by kernel_rfl) ⟨rfl, trivial⟩ ?_
    refine ah.fD 20 ((s : Int) > ((-1099511627777) : Int)) (fun _ => by kernel_rfl) (fun l5 => ?_) (fun l5 => ?_)
    ·
     refine ah.aA (k' := 9) (fr' := [(2, .bool (decide ((s : Int) ≤ (1099511627776 : Int))))]) (ak := [b1 = b1]) [o_, ⟨[.at 1], none, none, none, none⟩, o_, o_, o_] [2] (fun _ _ => by kernel_rfl) ⟨rfl, trivial⟩ ?_
     refine ah.nil (by kernel_rfl) (aj.next (af.ret ?_))
     exact aj.ret (v := .bool (decide ((s : Int) ≤ (1099511627776 : Int)))) (l := []) (ak := []) [] [0] (fun _ => by kernel_rfl) trivial rfl (by kernel_rfl) (⟨congrArg Value.bool (decide_eq_decide.2 (by unfold cL; omega)), rfl⟩)
    ·
     refine ah.aA (k' := 9) (fr' := [(2, .bool false)]) (ak := []) [o_, o_, o_, o_, o_] [2] (fun _ _ => by kernel_rfl) trivial ?_
     refine ah.nil (by kernel_rfl) (aj.next (af.ret ?_))
     exact aj.ret (v := .bool false) (l := []) (ak := []) [] [0] (fun _ => by kernel_rfl) trivial rfl (by kernel_rfl) (⟨congrArg Value.bool (decide_eq_false (by unfold cL; omega)).symm, rfl⟩)
set_option maxRecDepth 100000 in
set_option maxHeartbeats 4000000 in
theorem tR {β : Bs} (A : Option Addr) (ns : List aL) (L : Lay) (hG : aR β A ns L) (i : Nat) (hi : i < ns.length) :
    Spec Tryz.prog β 142 #[.pointer (some ⟨(ay A), ax A + i * 10, none⟩)] [] (fun v l => v = .bool (decide (dz (nd ns i).kind (nd ns i).target)) ∧ l = []) := by
 refine Spec.enter Tryz.func142 rfl Tryz.ntmps142 (Nat.le_of_ble_eq_true rfl) (fun R => ?_)
 refine af.seq (af.region ?_)
 refine ah.aA (k' := 1) (fr' := [(0, .pointer (some ⟨(ay A), ax A + i * 10, none⟩))]) (ak := []) [o_] [0] (fun _ _ => by kernel_rfl) trivial ?_
 refine ah.nil (by kernel_rfl) (aj.next (af.seq (af.seq (af.region ?_))))
 refine ah.aA (k' := 5) (fr' := [(0, .pointer (some ⟨(ay A), ax A + i * 10, none⟩)), (7, .bool (!(decide (((nd ns i).kind : Int) = (3 : Int)))))]) (ak := [(Rd β ⟨(ay A), ax A + i * 10 + 1, none⟩ (.int .i64 ((nd ns i).kind)))]) [o_, o_, o_, ⟨[.old (.int .i64 ((nd ns i).kind))], none, none, none, none⟩, o_] [0, 7] (fun _ _ => by kernel_rfl) ⟨aR.rd hG (i := i) (by omega) (j := 1) rfl, trivial⟩ ?_
 refine ah.nil (by kernel_rfl) (aj.next ?_)
 refine af.cT (p := ((nd ns i).kind : Int) = (3 : Int)) (fun _ => by kernel_rfl) (fun h7 => ?_) (fun h7 => ?_)
 ·
  refine af.seq (af.region ?_)
  refine ah.aA (k' := 6) (fr' := [(2, .bool (decide (((nd ns i).target : ByteArray) = ⟨#[]⟩)))]) (ak := [(Value.bool (((nd ns i).target : ByteArray).toList == (⟨#[]⟩ : ByteArray).toList)) = (.bool (decide (((nd ns i).target : ByteArray) = ⟨#[]⟩))), (Rd β ⟨(ay A), ax A + i * 10 + 8, none⟩ (.string (nd ns i).target))]) [o_, o_, o_, ⟨[.old (.string (nd ns i).target)], none, none, none, none⟩, ⟨[], none, none, none, some (.bool (decide (((nd ns i).target : ByteArray) = ⟨#[]⟩)))⟩, o_] [2] (fun _ _ => by kernel_rfl) ⟨qt _ _, aR.rd hG (i := i) (by omega) (j := 8) rfl, trivial⟩ ?_
  refine ah.nil (by kernel_rfl) (aj.next (af.ret (aj.av ?_)))
  exact aj.ret (v := .bool (decide (((nd ns i).target : ByteArray) = ⟨#[]⟩))) (l := []) (ak := []) [] [0] (fun _ => by kernel_rfl) trivial rfl (by kernel_rfl) (⟨congrArg Value.bool (decide_eq_decide.2 (by have h0 := jc (s := (nd ns i).target); grind [dz])), rfl⟩)
 ·
  refine af.skip (aj.next (af.seq (af.region ?_)))
  refine ah.aA (k' := 6) (fr' := [(0, .pointer (some ⟨(ay A), ax A + i * 10, none⟩)), (18, .bool (!(decide (((nd ns i).target : ByteArray) = ⟨#[]⟩))))]) (ak := [(Value.bool (!(((nd ns i).target : ByteArray).toList == (⟨#[]⟩ : ByteArray).toList))) = (.bool (!(decide (((nd ns i).target : ByteArray) = ⟨#[]⟩)))), (Rd β ⟨(ay A), ax A + i * 10 + 8, none⟩ (.string (nd ns i).target))]) [o_, o_, o_, ⟨[.old (.string (nd ns i).target)], none, none, none, none⟩, ⟨[], none, none, none, some (.bool (!(decide (((nd ns i).target : ByteArray) = ⟨#[]⟩))))⟩, o_] [0, 18] (fun _ _ => by kernel_rfl) ⟨IB _ _, aR.rd hG (i := i) (by omega) (j := 8) rfl, trivial⟩ ?_
  refine ah.iN 18 (((nd ns i).target : ByteArray) = ⟨#[]⟩) (fun _ => by kernel_rfl) (fun mX => ?_) (fun mX => ?_)
  ·
   refine ah.aA (k' := 14) (fr' := [(0, .pointer (some ⟨(ay A), ax A + i * 10, none⟩)), (26, .bool (decide ((((((nd ns i).target : ByteArray).size : Nat) : Int) : Int) ≤ (4096 : Int))))]) (ak := [(Rd β ⟨(ay A), ax A + i * 10 + 8, none⟩ (.string (nd ns i).target))]) [o_, o_, o_, ⟨[.old (.string (nd ns i).target)], none, none, none, none⟩, o_, o_, o_, o_] [0, 26] (fun _ _ => by kernel_rfl) ⟨aR.rd hG (i := i) (by omega) (j := 8) rfl, trivial⟩ ?_
   refine ah.fD 26 ((((((nd ns i).target : ByteArray).size : Nat) : Int) : Int) ≤ (4096 : Int)) (fun _ => by kernel_rfl) (fun x9 => ?_) (fun x9 => ?_)
   ·
    refine ah.aA (k' := 18) (fr' := [(26, .bool true), (30, .string (nd ns i).target)]) (ak := [(Rd β ⟨(ay A), ax A + i * 10 + 8, none⟩ (.string (nd ns i).target))]) [o_, o_, o_, ⟨[.old (.string (nd ns i).target)], none, none, none, none⟩] [26, 30] (fun _ _ => by kernel_rfl) ⟨aR.rd hG (i := i) (by omega) (j := 8) rfl, trivial⟩ ?_
    refine ah.call (f := 174) (args := #[.string (nd ns i).target, .int .u8 0]) (d := (some 31)) (pre := []) (R := [.abs R]) (pk := [0]) (fun _ => by kernel_rfl) (Spec.quiet (fun w => Tryz.strings_IndexByte (nd ns i).target 0 w)) rfl (by kernel_rfl) ?_
    rintro _ _ ⟨rfl, rfl⟩
    refine ah.aA (k' := 22) (fr' := [(2, .bool (decide ((Lib.indexByte (nd ns i).target.data.toList (0 : Int).toNat.toUInt8 : Int) < (0 : Int))))]) (ak := []) [o_, o_, o_] [2] (fun _ _ => by kernel_rfl) trivial ?_
    refine ah.nil (by kernel_rfl) (aj.next (af.ret ?_))
    exact aj.ret (v := .bool (decide ((Lib.indexByte (nd ns i).target.data.toList (0 : Int).toNat.toUInt8 : Int) < (0 : Int)))) (l := []) (ak := []) [] [0] (fun _ => by kernel_rfl) trivial rfl (by kernel_rfl) (⟨congrArg Value.bool (decide_eq_decide.2 (by have h0 := jc (s := (nd ns i).target); rw [zl]; grind [dz])), rfl⟩)
   ·
    refine ah.aA (k' := 22) (fr' := [(2, .bool false)]) (ak := []) [o_, o_, o_, o_, o_, o_, o_, o_] [2] (fun _ _ => by kernel_rfl) trivial ?_
    refine ah.nil (by kernel_rfl) (aj.next (af.ret ?_))
    exact aj.ret (v := .bool false) (l := []) (ak := []) [] [0] (fun _ => by kernel_rfl) trivial rfl (by kernel_rfl) (⟨congrArg Value.bool (decide_eq_false (by have h0 := jc (s := (nd ns i).target); grind [dz])).symm, rfl⟩)
  ·
   refine ah.aA (k' := 22) (fr' := [(2, .bool false)]) (ak := []) [o_, o_, o_, o_, o_, o_, o_, o_, o_, o_, o_, o_, o_, o_, o_, o_] [2] (fun _ _ => by kernel_rfl) trivial ?_
   refine ah.nil (by kernel_rfl) (aj.next (af.ret ?_))
   exact aj.ret (v := .bool false) (l := []) (ak := []) [] [0] (fun _ => by kernel_rfl) trivial rfl (by kernel_rfl) (⟨congrArg Value.bool (decide_eq_false (by have h0 := jc (s := (nd ns i).target); grind [dz])).symm, rfl⟩)
set_option maxRecDepth 100000 in
set_option maxHeartbeats 4000000 in
theorem EW {β : Bs} (A : Option Addr) (ns : List aL) (L : Lay) (hG : aR β A ns L) (i : Nat) (hi : i < ns.length) :
    Spec Tryz.prog β 106 #[.pointer (some ⟨(ay A), ax A + i * 10, none⟩)] [] (fun v l => v = .bool (decide (mW (nd ns i))) ∧ l = []) := by
 refine Spec.enter Tryz.func106 rfl Tryz.ntmps106 (Nat.le_of_ble_eq_true rfl) (fun R => ?_)
 refine af.seq (af.region ?_)
 refine ah.aA (k' := 1) (fr' := [(0, .pointer (some ⟨(ay A), ax A + i * 10, none⟩))]) (ak := []) [o_] [0] (fun _ _ => by kernel_rfl) trivial ?_
 refine ah.nil (by kernel_rfl) (aj.next (af.seq (af.seq (af.region ?_))))
 refine ah.aA (k' := 4) (fr' := [(0, .pointer (some ⟨(ay A), ax A + i * 10, none⟩)), (6, .int .i64 ((nd ns i).kind))]) (ak := [(Rd β ⟨(ay A), ax A + i * 10 + 1, none⟩ (.int .i64 ((nd ns i).kind)))]) [o_, o_, o_, ⟨[.old (.int .i64 ((nd ns i).kind))], none, none, none, none⟩] [0, 6] (fun _ _ => by kernel_rfl) ⟨aR.rd hG (i := i) (by omega) (j := 1) rfl, trivial⟩ ?_
 refine ah.call (f := 141) (args := #[.int .i64 ((nd ns i).kind), .int .i64 1, .int .i64 3]) (d := (some 7)) (pre := []) (R := [.abs R]) (pk := [0]) (fun _ => by kernel_rfl) (pH ((nd ns i).kind) 1 3) rfl (by kernel_rfl) ?_
 rintro _ _ ⟨rfl, rfl⟩
 refine ah.aA (k' := 7) (fr' := [(0, .pointer (some ⟨(ay A), ax A + i * 10, none⟩)), (9, .bool (!(decide (Within ((nd ns i).kind) 1 3))))]) (ak := []) [o_, o_] [0, 9] (fun _ _ => by kernel_rfl) trivial ?_
 refine ah.iN 9 (Within ((nd ns i).kind) 1 3) (fun _ => by kernel_rfl) (fun h9 => ?_) (fun h9 => ?_)
 ·
  refine ah.aA (k' := 30) (fr' := [(0, .pointer (some ⟨(ay A), ax A + i * 10, none⟩)), (32, .bool true)]) (ak := []) [o_, o_, o_, o_, o_, o_, o_, o_, o_, o_, o_, o_, o_, o_, o_, o_, o_, o_, o_, o_, o_, o_, o_] [0, 32] (fun _ _ => by kernel_rfl) trivial ?_
  refine ah.nil (by kernel_rfl) (aj.next ?_)
  refine af.fK (fun _ => by kernel_rfl) ?_
  refine af.seq (af.region ?_)
  refine ah.aA (k' := 1) (fr' := [(2, .bool false)]) (ak := []) [o_] [2] (fun _ _ => by kernel_rfl) trivial ?_
  refine ah.nil (by kernel_rfl) (aj.next (af.ret (aj.av ?_)))
  exact aj.ret (v := .bool false) (l := []) (ak := []) [] [0] (fun _ => by kernel_rfl) trivial rfl (by kernel_rfl) (⟨congrArg Value.bool (decide_eq_false (by rw [dJ]; unfold Within at *; grind)).symm, rfl⟩)
 ·
  refine ah.aA (k' := 11) (fr' := [(0, .pointer (some ⟨(ay A), ax A + i * 10, none⟩)), (9, .bool false), (13, .int .i64 ((nd ns i).mode))]) (ak := [(Rd β ⟨(ay A), ax A + i * 10 + 2, none⟩ (.int .i64 ((nd ns i).mode)))]) [o_, o_, o_, ⟨[.old (.int .i64 ((nd ns i).mode))], none, none, none, none⟩] [0, 9, 13] (fun _ _ => by kernel_rfl) ⟨aR.rd hG (i := i) (by omega) (j := 2) rfl, trivial⟩ ?_
  refine ah.call (f := 141) (args := #[.int .i64 ((nd ns i).mode), .int .i64 0, .int .i64 4095]) (d := (some 14)) (pre := []) (R := [.abs R]) (pk := [0]) (fun _ => by kernel_rfl) (pH ((nd ns i).mode) 0 4095) rfl (by kernel_rfl) ?_
  rintro _ _ ⟨rfl, rfl⟩
  refine ah.aA (k' := 15) (fr' := [(0, .pointer (some ⟨(ay A), ax A + i * 10, none⟩)), (17, .bool (!(decide (Within ((nd ns i).mode) 0 4095))))]) (ak := []) [o_, o_, o_] [0, 17] (fun _ _ => by kernel_rfl) trivial ?_
  refine ah.iN 17 (Within ((nd ns i).mode) 0 4095) (fun _ => by kernel_rfl) (fun Mz => ?_) (fun Mz => ?_)
  ·
   refine ah.aA (k' := 30) (fr' := [(0, .pointer (some ⟨(ay A), ax A + i * 10, none⟩)), (32, .bool true)]) (ak := []) [o_, o_, o_, o_, o_, o_, o_, o_, o_, o_, o_, o_, o_, o_, o_] [0, 32] (fun _ _ => by kernel_rfl) trivial ?_
   refine ah.nil (by kernel_rfl) (aj.next ?_)
   refine af.fK (fun _ => by kernel_rfl) ?_
   refine af.seq (af.region ?_)
   refine ah.aA (k' := 1) (fr' := [(2, .bool false)]) (ak := []) [o_] [2] (fun _ _ => by kernel_rfl) trivial ?_
   refine ah.nil (by kernel_rfl) (aj.next (af.ret (aj.av ?_)))
   exact aj.ret (v := .bool false) (l := []) (ak := []) [] [0] (fun _ => by kernel_rfl) trivial rfl (by kernel_rfl) (⟨congrArg Value.bool (decide_eq_false (by rw [dJ]; unfold Within at *; grind)).symm, rfl⟩)
  ·
   refine ah.aA (k' := 19) (fr' := [(0, .pointer (some ⟨(ay A), ax A + i * 10, none⟩)), (17, .bool false), (21, .int .i64 ((nd ns i).uid))]) (ak := [(Rd β ⟨(ay A), ax A + i * 10 + 3, none⟩ (.int .i64 ((nd ns i).uid)))]) [o_, o_, o_, ⟨[.old (.int .i64 ((nd ns i).uid))], none, none, none, none⟩] [0, 17, 21] (fun _ _ => by kernel_rfl) ⟨aR.rd hG (i := i) (by omega) (j := 3) rfl, trivial⟩ ?_
   refine ah.call (f := 141) (args := #[.int .i64 ((nd ns i).uid), .int .i64 0, .int .i64 2147483647]) (d := (some 22)) (pre := []) (R := [.abs R]) (pk := [0]) (fun _ => by kernel_rfl) (pH ((nd ns i).uid) 0 2147483647) rfl (by kernel_rfl) ?_
   rintro _ _ ⟨rfl, rfl⟩
   refine ah.aA (k' := 23) (fr' := [(0, .pointer (some ⟨(ay A), ax A + i * 10, none⟩)), (25, .bool (!(decide (Within ((nd ns i).uid) 0 2147483647))))]) (ak := []) [o_, o_, o_] [0, 25] (fun _ _ => by kernel_rfl) trivial ?_
   refine ah.iN 25 (Within ((nd ns i).uid) 0 2147483647) (fun _ => by kernel_rfl) (fun Dm => ?_) (fun Dm => ?_)
   ·
    refine ah.aA (k' := 30) (fr' := [(0, .pointer (some ⟨(ay A), ax A + i * 10, none⟩)), (32, .bool true)]) (ak := []) [o_, o_, o_, o_, o_, o_, o_] [0, 32] (fun _ _ => by kernel_rfl) trivial ?_
    refine ah.nil (by kernel_rfl) (aj.next ?_)
    refine af.fK (fun _ => by kernel_rfl) ?_
    refine af.seq (af.region ?_)
    refine ah.aA (k' := 1) (fr' := [(2, .bool false)]) (ak := []) [o_] [2] (fun _ _ => by kernel_rfl) trivial ?_
    refine ah.nil (by kernel_rfl) (aj.next (af.ret (aj.av ?_)))
    exact aj.ret (v := .bool false) (l := []) (ak := []) [] [0] (fun _ => by kernel_rfl) trivial rfl (by kernel_rfl) (⟨congrArg Value.bool (decide_eq_false (by rw [dJ]; unfold Within at *; grind)).symm, rfl⟩)
   ·
    refine ah.aA (k' := 27) (fr' := [(0, .pointer (some ⟨(ay A), ax A + i * 10, none⟩)), (25, .bool false), (29, .int .i64 ((nd ns i).gid))]) (ak := [(Rd β ⟨(ay A), ax A + i * 10 + 4, none⟩ (.int .i64 ((nd ns i).gid)))]) [o_, o_, o_, ⟨[.old (.int .i64 ((nd ns i).gid))], none, none, none, none⟩] [0, 25, 29] (fun _ _ => by kernel_rfl) ⟨aR.rd hG (i := i) (by omega) (j := 4) rfl, trivial⟩ ?_
    refine ah.call (f := 141) (args := #[.int .i64 ((nd ns i).gid), .int .i64 0, .int .i64 2147483647]) (d := (some 30)) (pre := []) (R := [.abs R]) (pk := [0]) (fun _ => by kernel_rfl) (pH ((nd ns i).gid) 0 2147483647) rfl (by kernel_rfl) ?_
    rintro _ _ ⟨rfl, rfl⟩
    refine ah.aA (k' := 30) (fr' := [(0, .pointer (some ⟨(ay A), ax A + i * 10, none⟩)), (32, .bool (!(decide (Within ((nd ns i).gid) 0 2147483647))))]) (ak := []) [o_, o_] [0, 32] (fun _ _ => by kernel_rfl) trivial ?_
    refine ah.nil (by kernel_rfl) (aj.next ?_)
    refine af.cT (p := Within ((nd ns i).gid) 0 2147483647) (fun _ => by kernel_rfl) (fun IX => ?_) (fun IX => ?_)
    ·
     refine af.seq (af.region ?_)
     refine ah.aA (k' := 1) (fr' := [(2, .bool false)]) (ak := []) [o_] [2] (fun _ _ => by kernel_rfl) trivial ?_
     refine ah.nil (by kernel_rfl) (aj.next (af.ret (aj.av ?_)))
     exact aj.ret (v := .bool false) (l := []) (ak := []) [] [0] (fun _ => by kernel_rfl) trivial rfl (by kernel_rfl) (⟨congrArg Value.bool (decide_eq_false (by rw [dJ]; unfold Within at *; grind)).symm, rfl⟩)
    ·
     refine af.skip (aj.next (af.seq (af.seq (af.region ?_))))
     refine ah.aA (k' := 6) (fr' := [(0, .pointer (some ⟨(ay A), ax A + i * 10, none⟩)), (38, .bool (!(decide (((nd ns i).kind : Int) = (1 : Int)))))]) (ak := [(Rd β ⟨(ay A), ax A + i * 10 + 1, none⟩ (.int .i64 ((nd ns i).kind)))]) [o_, o_, o_, ⟨[.old (.int .i64 ((nd ns i).kind))], none, none, none, none⟩, o_, o_] [0, 38] (fun _ _ => by kernel_rfl) ⟨aR.rd hG (i := i) (by omega) (j := 1) rfl, trivial⟩ ?_
     refine ah.iN 38 (((nd ns i).kind : Int) = (1 : Int)) (fun _ => by kernel_rfl) (fun vM => ?_) (fun vM => ?_)
     ·
      refine ah.aA (k' := 14) (fr' := [(0, .pointer (some ⟨(ay A), ax A + i * 10, none⟩)), (46, .bool (decide (((((nd ns i).data.length : Nat) : Int) : Int) > (0 : Int))))]) (ak := [(Rd β ⟨(ay A), ax A + i * 10 + 7, none⟩ (.slice (L.dA i) ((nd ns i).data.length) ((L.dC i))))]) [o_, o_, o_, ⟨[.old (.slice (L.dA i) ((nd ns i).data.length) ((L.dC i)))], none, none, none, none⟩, o_, o_, o_, o_] [0, 46] (fun _ _ => by kernel_rfl) ⟨aR.rd hG (i := i) (by omega) (j := 7) rfl, trivial⟩ ?_
      refine ah.fD 46 (((((nd ns i).data.length : Nat) : Int) : Int) > (0 : Int)) (fun _ => by kernel_rfl) (fun h46 => ?_) (fun h46 => ?_)
      ·
       refine ah.aA (k' := 28) (fr' := [(0, .pointer (some ⟨(ay A), ax A + i * 10, none⟩)), (60, .bool true)]) (ak := []) [o_, o_, o_, o_, o_, o_, o_, o_, o_, o_, o_, o_, o_, o_] [0, 60] (fun _ _ => by kernel_rfl) trivial ?_
       refine ah.nil (by kernel_rfl) (aj.next ?_)
       refine af.fK (fun _ => by kernel_rfl) ?_
       refine af.seq (af.region ?_)
       refine ah.aA (k' := 1) (fr' := [(2, .bool false)]) (ak := []) [o_] [2] (fun _ _ => by kernel_rfl) trivial ?_
       refine ah.nil (by kernel_rfl) (aj.next (af.ret (aj.av ?_)))
       exact aj.ret (v := .bool false) (l := []) (ak := []) [] [0] (fun _ => by kernel_rfl) trivial rfl (by kernel_rfl) (⟨congrArg Value.bool (decide_eq_false (by rw [dJ]; unfold Within at *; grind)).symm, rfl⟩)
      ·
       refine ah.aA (k' := 20) (fr' := [(0, .pointer (some ⟨(ay A), ax A + i * 10, none⟩)), (46, .bool false), (52, .bool (!(decide (((nd ns i).kind : Int) = (2 : Int)))))]) (ak := [(Rd β ⟨(ay A), ax A + i * 10 + 1, none⟩ (.int .i64 ((nd ns i).kind)))]) [o_, o_, o_, ⟨[.old (.int .i64 ((nd ns i).kind))], none, none, none, none⟩, o_, o_] [0, 46, 52] (fun _ _ => by kernel_rfl) ⟨aR.rd hG (i := i) (by omega) (j := 1) rfl, trivial⟩ ?_
       refine ah.iN 52 (((nd ns i).kind : Int) = (2 : Int)) (fun _ => by kernel_rfl) (fun IY => ?_) (fun IY => ?_)
       ·
        refine ah.aA (k' := 28) (fr' := [(0, .pointer (some ⟨(ay A), ax A + i * 10, none⟩)), (60, .bool (decide (((((nd ns i).ai.length : Nat) : Int) : Int) > (0 : Int))))]) (ak := [(Rd β ⟨(ay A), ax A + i * 10 + 9, none⟩ (.slice (L.eA i) ((nd ns i).ai.length) ((L.eC i))))]) [o_, o_, o_, ⟨[.old (.slice (L.eA i) ((nd ns i).ai.length) ((L.eC i)))], none, none, none, none⟩, o_, o_, o_, o_] [0, 60] (fun _ _ => by kernel_rfl) ⟨aR.rd hG (i := i) (by omega) (j := 9) rfl, trivial⟩ ?_
        refine ah.nil (by kernel_rfl) (aj.next ?_)
        refine af.bH (p := ((((nd ns i).ai.length : Nat) : Int) : Int) > (0 : Int)) (fun _ => by kernel_rfl) (fun IZ => ?_) (fun IZ => ?_)
        ·
         refine af.seq (af.region ?_)
         refine ah.aA (k' := 1) (fr' := [(2, .bool false)]) (ak := []) [o_] [2] (fun _ _ => by kernel_rfl) trivial ?_
         refine ah.nil (by kernel_rfl) (aj.next (af.ret (aj.av ?_)))
         exact aj.ret (v := .bool false) (l := []) (ak := []) [] [0] (fun _ => by kernel_rfl) trivial rfl (by kernel_rfl) (⟨congrArg Value.bool (decide_eq_false (by rw [dJ]; unfold Within at *; grind)).symm, rfl⟩)
        ·
         refine af.skip (aj.next (af.seq (af.region ?_)))
         refine ah.aA (k' := 4) (fr' := [(0, .pointer (some ⟨(ay A), ax A + i * 10, none⟩)), (64, .agg #[.int .i64 ((nd ns i).sec), .int .i64 ((nd ns i).nano)])]) (ak := [(Rd β ⟨(ay A), ax A + i * 10 + 5 + 1, none⟩ (.int .i64 ((nd ns i).nano))), (Rd β ⟨(ay A), ax A + i * 10 + 5, none⟩ (.int .i64 ((nd ns i).sec)))]) [o_, o_, o_, ⟨[.old (.int .i64 ((nd ns i).sec)), .old (.int .i64 ((nd ns i).nano))], none, none, none, none⟩] [0, 64] (fun _ _ => by kernel_rfl) ⟨aR.rd hG (i := i) (by omega) (j := 6) rfl, aR.rd hG (i := i) (by omega) (j := 5) rfl, trivial⟩ ?_
         refine ah.call (f := 26) (args := #[.agg #[.int .i64 ((nd ns i).sec), .int .i64 ((nd ns i).nano)]]) (d := (some 65)) (pre := []) (R := [.abs R]) (pk := [0]) (fun _ => by kernel_rfl) (fk (nd ns i).sec (nd ns i).nano) rfl (by kernel_rfl) ?_
         rintro _ _ ⟨rfl, rfl⟩
         refine ah.aA (k' := 6) (fr' := [(0, .pointer (some ⟨(ay A), ax A + i * 10, none⟩)), (66, .bool (decide (cL (nd ns i).sec (nd ns i).nano)))]) (ak := []) [o_] [0, 66] (fun _ _ => by kernel_rfl) trivial ?_
         refine ah.fD 66 (cL (nd ns i).sec (nd ns i).nano) (fun _ => by kernel_rfl) (fun zx => ?_) (fun zx => ?_)
         ·
          refine ah.aA (k' := 7) (fr' := [(66, .bool true), (67, .pointer (some ⟨(ay A), ax A + i * 10, none⟩))]) (ak := []) [o_] [66, 67] (fun _ _ => by kernel_rfl) trivial ?_
          refine ah.call (f := 142) (args := #[.pointer (some ⟨(ay A), ax A + i * 10, none⟩)]) (d := (some 68)) (pre := []) (R := [.abs R]) (pk := [0]) (fun _ => by kernel_rfl) (tR A ns L hG i hi) rfl (by kernel_rfl) ?_
          rintro _ _ ⟨rfl, rfl⟩
          refine ah.aA (k' := 10) (fr' := [(2, .bool (decide (dz (nd ns i).kind (nd ns i).target)))]) (ak := []) [o_, o_] [2] (fun _ _ => by kernel_rfl) trivial ?_
          refine ah.nil (by kernel_rfl) (aj.next (af.ret ?_))
          exact aj.ret (v := .bool (decide (dz (nd ns i).kind (nd ns i).target))) (l := []) (ak := []) [] [0] (fun _ => by kernel_rfl) trivial rfl (by kernel_rfl) (⟨congrArg Value.bool (decide_eq_decide.2 (by rw [dJ]; unfold Within at *; grind)), rfl⟩)
         ·
          refine ah.aA (k' := 10) (fr' := [(2, .bool false)]) (ak := []) [o_, o_, o_, o_] [2] (fun _ _ => by kernel_rfl) trivial ?_
          refine ah.nil (by kernel_rfl) (aj.next (af.ret ?_))
          exact aj.ret (v := .bool false) (l := []) (ak := []) [] [0] (fun _ => by kernel_rfl) trivial rfl (by kernel_rfl) (⟨congrArg Value.bool (decide_eq_false (by rw [dJ]; unfold Within at *; grind)).symm, rfl⟩)
       ·
        refine ah.aA (k' := 28) (fr' := [(0, .pointer (some ⟨(ay A), ax A + i * 10, none⟩)), (60, .bool false)]) (ak := []) [o_, o_, o_, o_, o_, o_, o_, o_] [0, 60] (fun _ _ => by kernel_rfl) trivial ?_
        refine ah.nil (by kernel_rfl) (aj.next ?_)
        refine af.jw (fun _ => by kernel_rfl) ?_
        refine af.skip (aj.next (af.seq (af.region ?_)))
        refine ah.aA (k' := 4) (fr' := [(0, .pointer (some ⟨(ay A), ax A + i * 10, none⟩)), (64, .agg #[.int .i64 ((nd ns i).sec), .int .i64 ((nd ns i).nano)])]) (ak := [(Rd β ⟨(ay A), ax A + i * 10 + 5 + 1, none⟩ (.int .i64 ((nd ns i).nano))), (Rd β ⟨(ay A), ax A + i * 10 + 5, none⟩ (.int .i64 ((nd ns i).sec)))]) [o_, o_, o_, ⟨[.old (.int .i64 ((nd ns i).sec)), .old (.int .i64 ((nd ns i).nano))], none, none, none, none⟩] [0, 64] (fun _ _ => by kernel_rfl) ⟨aR.rd hG (i := i) (by omega) (j := 6) rfl, aR.rd hG (i := i) (by omega) (j := 5) rfl, trivial⟩ ?_
        refine ah.call (f := 26) (args := #[.agg #[.int .i64 ((nd ns i).sec), .int .i64 ((nd ns i).nano)]]) (d := (some 65)) (pre := []) (R := [.abs R]) (pk := [0]) (fun _ => by kernel_rfl) (fk (nd ns i).sec (nd ns i).nano) rfl (by kernel_rfl) ?_
        rintro _ _ ⟨rfl, rfl⟩
        refine ah.aA (k' := 6) (fr' := [(0, .pointer (some ⟨(ay A), ax A + i * 10, none⟩)), (66, .bool (decide (cL (nd ns i).sec (nd ns i).nano)))]) (ak := []) [o_] [0, 66] (fun _ _ => by kernel_rfl) trivial ?_
        refine ah.fD 66 (cL (nd ns i).sec (nd ns i).nano) (fun _ => by kernel_rfl) (fun zx => ?_) (fun zx => ?_)
        ·
         refine ah.aA (k' := 7) (fr' := [(66, .bool true), (67, .pointer (some ⟨(ay A), ax A + i * 10, none⟩))]) (ak := []) [o_] [66, 67] (fun _ _ => by kernel_rfl) trivial ?_
         refine ah.call (f := 142) (args := #[.pointer (some ⟨(ay A), ax A + i * 10, none⟩)]) (d := (some 68)) (pre := []) (R := [.abs R]) (pk := [0]) (fun _ => by kernel_rfl) (tR A ns L hG i hi) rfl (by kernel_rfl) ?_
         rintro _ _ ⟨rfl, rfl⟩
         refine ah.aA (k' := 10) (fr' := [(2, .bool (decide (dz (nd ns i).kind (nd ns i).target)))]) (ak := []) [o_, o_] [2] (fun _ _ => by kernel_rfl) trivial ?_
         refine ah.nil (by kernel_rfl) (aj.next (af.ret ?_))
         exact aj.ret (v := .bool (decide (dz (nd ns i).kind (nd ns i).target))) (l := []) (ak := []) [] [0] (fun _ => by kernel_rfl) trivial rfl (by kernel_rfl) (⟨congrArg Value.bool (decide_eq_decide.2 (by rw [dJ]; unfold Within at *; grind)), rfl⟩)
        ·
         refine ah.aA (k' := 10) (fr' := [(2, .bool false)]) (ak := []) [o_, o_, o_, o_] [2] (fun _ _ => by kernel_rfl) trivial ?_
         refine ah.nil (by kernel_rfl) (aj.next (af.ret ?_))
         exact aj.ret (v := .bool false) (l := []) (ak := []) [] [0] (fun _ => by kernel_rfl) trivial rfl (by kernel_rfl) (⟨congrArg Value.bool (decide_eq_false (by rw [dJ]; unfold Within at *; grind)).symm, rfl⟩)
     ·
      refine ah.aA (k' := 20) (fr' := [(0, .pointer (some ⟨(ay A), ax A + i * 10, none⟩)), (46, .bool false), (52, .bool (!(decide (((nd ns i).kind : Int) = (2 : Int)))))]) (ak := [(Rd β ⟨(ay A), ax A + i * 10 + 1, none⟩ (.int .i64 ((nd ns i).kind)))]) [o_, o_, o_, o_, o_, o_, o_, o_, o_, o_, o_, ⟨[.old (.int .i64 ((nd ns i).kind))], none, none, none, none⟩, o_, o_] [0, 46, 52] (fun _ _ => by kernel_rfl) ⟨aR.rd hG (i := i) (by omega) (j := 1) rfl, trivial⟩ ?_
      refine ah.iN 52 (((nd ns i).kind : Int) = (2 : Int)) (fun _ => by kernel_rfl) (fun IY => ?_) (fun IY => ?_)
      ·
       refine ah.aA (k' := 28) (fr' := [(0, .pointer (some ⟨(ay A), ax A + i * 10, none⟩)), (60, .bool (decide (((((nd ns i).ai.length : Nat) : Int) : Int) > (0 : Int))))]) (ak := [(Rd β ⟨(ay A), ax A + i * 10 + 9, none⟩ (.slice (L.eA i) ((nd ns i).ai.length) ((L.eC i))))]) [o_, o_, o_, ⟨[.old (.slice (L.eA i) ((nd ns i).ai.length) ((L.eC i)))], none, none, none, none⟩, o_, o_, o_, o_] [0, 60] (fun _ _ => by kernel_rfl) ⟨aR.rd hG (i := i) (by omega) (j := 9) rfl, trivial⟩ ?_
       refine ah.nil (by kernel_rfl) (aj.next ?_)
       refine af.bH (p := ((((nd ns i).ai.length : Nat) : Int) : Int) > (0 : Int)) (fun _ => by kernel_rfl) (fun IZ => ?_) (fun IZ => ?_)
       ·
        refine af.seq (af.region ?_)
        refine ah.aA (k' := 1) (fr' := [(2, .bool false)]) (ak := []) [o_] [2] (fun _ _ => by kernel_rfl) trivial ?_
        refine ah.nil (by kernel_rfl) (aj.next (af.ret (aj.av ?_)))
        exact aj.ret (v := .bool false) (l := []) (ak := []) [] [0] (fun _ => by kernel_rfl) trivial rfl (by kernel_rfl) (⟨congrArg Value.bool (decide_eq_false (by rw [dJ]; unfold Within at *; grind)).symm, rfl⟩)
       ·
        refine af.skip (aj.next (af.seq (af.region ?_)))
        refine ah.aA (k' := 4) (fr' := [(0, .pointer (some ⟨(ay A), ax A + i * 10, none⟩)), (64, .agg #[.int .i64 ((nd ns i).sec), .int .i64 ((nd ns i).nano)])]) (ak := [(Rd β ⟨(ay A), ax A + i * 10 + 5 + 1, none⟩ (.int .i64 ((nd ns i).nano))), (Rd β ⟨(ay A), ax A + i * 10 + 5, none⟩ (.int .i64 ((nd ns i).sec)))]) [o_, o_, o_, ⟨[.old (.int .i64 ((nd ns i).sec)), .old (.int .i64 ((nd ns i).nano))], none, none, none, none⟩] [0, 64] (fun _ _ => by kernel_rfl) ⟨aR.rd hG (i := i) (by omega) (j := 6) rfl, aR.rd hG (i := i) (by omega) (j := 5) rfl, trivial⟩ ?_
        refine ah.call (f := 26) (args := #[.agg #[.int .i64 ((nd ns i).sec), .int .i64 ((nd ns i).nano)]]) (d := (some 65)) (pre := []) (R := [.abs R]) (pk := [0]) (fun _ => by kernel_rfl) (fk (nd ns i).sec (nd ns i).nano) rfl (by kernel_rfl) ?_
        rintro _ _ ⟨rfl, rfl⟩
        refine ah.aA (k' := 6) (fr' := [(0, .pointer (some ⟨(ay A), ax A + i * 10, none⟩)), (66, .bool (decide (cL (nd ns i).sec (nd ns i).nano)))]) (ak := []) [o_] [0, 66] (fun _ _ => by kernel_rfl) trivial ?_
        refine ah.fD 66 (cL (nd ns i).sec (nd ns i).nano) (fun _ => by kernel_rfl) (fun zx => ?_) (fun zx => ?_)
        ·
         refine ah.aA (k' := 7) (fr' := [(66, .bool true), (67, .pointer (some ⟨(ay A), ax A + i * 10, none⟩))]) (ak := []) [o_] [66, 67] (fun _ _ => by kernel_rfl) trivial ?_
         refine ah.call (f := 142) (args := #[.pointer (some ⟨(ay A), ax A + i * 10, none⟩)]) (d := (some 68)) (pre := []) (R := [.abs R]) (pk := [0]) (fun _ => by kernel_rfl) (tR A ns L hG i hi) rfl (by kernel_rfl) ?_
         rintro _ _ ⟨rfl, rfl⟩
         refine ah.aA (k' := 10) (fr' := [(2, .bool (decide (dz (nd ns i).kind (nd ns i).target)))]) (ak := []) [o_, o_] [2] (fun _ _ => by kernel_rfl) trivial ?_
         refine ah.nil (by kernel_rfl) (aj.next (af.ret ?_))
         exact aj.ret (v := .bool (decide (dz (nd ns i).kind (nd ns i).target))) (l := []) (ak := []) [] [0] (fun _ => by kernel_rfl) trivial rfl (by kernel_rfl) (⟨congrArg Value.bool (decide_eq_decide.2 (by rw [dJ]; unfold Within at *; grind)), rfl⟩)
        ·
         refine ah.aA (k' := 10) (fr' := [(2, .bool false)]) (ak := []) [o_, o_, o_, o_] [2] (fun _ _ => by kernel_rfl) trivial ?_
         refine ah.nil (by kernel_rfl) (aj.next (af.ret ?_))
         exact aj.ret (v := .bool false) (l := []) (ak := []) [] [0] (fun _ => by kernel_rfl) trivial rfl (by kernel_rfl) (⟨congrArg Value.bool (decide_eq_false (by rw [dJ]; unfold Within at *; grind)).symm, rfl⟩)
      ·
       refine ah.aA (k' := 28) (fr' := [(0, .pointer (some ⟨(ay A), ax A + i * 10, none⟩)), (60, .bool false)]) (ak := []) [o_, o_, o_, o_, o_, o_, o_, o_] [0, 60] (fun _ _ => by kernel_rfl) trivial ?_
       refine ah.nil (by kernel_rfl) (aj.next ?_)
       refine af.jw (fun _ => by kernel_rfl) ?_
       refine af.skip (aj.next (af.seq (af.region ?_)))
       refine ah.aA (k' := 4) (fr' := [(0, .pointer (some ⟨(ay A), ax A + i * 10, none⟩)), (64, .agg #[.int .i64 ((nd ns i).sec), .int .i64 ((nd ns i).nano)])]) (ak := [(Rd β ⟨(ay A), ax A + i * 10 + 5 + 1, none⟩ (.int .i64 ((nd ns i).nano))), (Rd β ⟨(ay A), ax A + i * 10 + 5, none⟩ (.int .i64 ((nd ns i).sec)))]) [o_, o_, o_, ⟨[.old (.int .i64 ((nd ns i).sec)), .old (.int .i64 ((nd ns i).nano))], none, none, none, none⟩] [0, 64] (fun _ _ => by kernel_rfl) ⟨aR.rd hG (i := i) (by omega) (j := 6) rfl, aR.rd hG (i := i) (by omega) (j := 5) rfl, trivial⟩ ?_
       refine ah.call (f := 26) (args := #[.agg #[.int .i64 ((nd ns i).sec), .int .i64 ((nd ns i).nano)]]) (d := (some 65)) (pre := []) (R := [.abs R]) (pk := [0]) (fun _ => by kernel_rfl) (fk (nd ns i).sec (nd ns i).nano) rfl (by kernel_rfl) ?_
       rintro _ _ ⟨rfl, rfl⟩
       refine ah.aA (k' := 6) (fr' := [(0, .pointer (some ⟨(ay A), ax A + i * 10, none⟩)), (66, .bool (decide (cL (nd ns i).sec (nd ns i).nano)))]) (ak := []) [o_] [0, 66] (fun _ _ => by kernel_rfl) trivial ?_
       refine ah.fD 66 (cL (nd ns i).sec (nd ns i).nano) (fun _ => by kernel_rfl) (fun zx => ?_) (fun zx => ?_)
       ·
        refine ah.aA (k' := 7) (fr' := [(66, .bool true), (67, .pointer (some ⟨(ay A), ax A + i * 10, none⟩))]) (ak := []) [o_] [66, 67] (fun _ _ => by kernel_rfl) trivial ?_
        refine ah.call (f := 142) (args := #[.pointer (some ⟨(ay A), ax A + i * 10, none⟩)]) (d := (some 68)) (pre := []) (R := [.abs R]) (pk := [0]) (fun _ => by kernel_rfl) (tR A ns L hG i hi) rfl (by kernel_rfl) ?_
        rintro _ _ ⟨rfl, rfl⟩
        refine ah.aA (k' := 10) (fr' := [(2, .bool (decide (dz (nd ns i).kind (nd ns i).target)))]) (ak := []) [o_, o_] [2] (fun _ _ => by kernel_rfl) trivial ?_
        refine ah.nil (by kernel_rfl) (aj.next (af.ret ?_))
        exact aj.ret (v := .bool (decide (dz (nd ns i).kind (nd ns i).target))) (l := []) (ak := []) [] [0] (fun _ => by kernel_rfl) trivial rfl (by kernel_rfl) (⟨congrArg Value.bool (decide_eq_decide.2 (by rw [dJ]; unfold Within at *; grind)), rfl⟩)
       ·
        refine ah.aA (k' := 10) (fr' := [(2, .bool false)]) (ak := []) [o_, o_, o_, o_] [2] (fun _ _ => by kernel_rfl) trivial ?_
        refine ah.nil (by kernel_rfl) (aj.next (af.ret ?_))
        exact aj.ret (v := .bool false) (l := []) (ak := []) [] [0] (fun _ => by kernel_rfl) trivial rfl (by kernel_rfl) (⟨congrArg Value.bool (decide_eq_false (by rw [dJ]; unfold Within at *; grind)).symm, rfl⟩)
end Go.Proofs.YtkiedlmhocglhaaGreat
end
section
namespace Go.Proofs.YtkiedlmhocglhaaGreat
open Go.RowKit Go.Maps
def ig (x y : ByteArray) : Prop := (Op.bytesLess x.toList y.toList || (x.toList == y.toList)) = true
instance (x y : ByteArray) : Decidable (ig x y) := inferInstanceAs (Decidable (_ = true))
theorem I0 (x y : ByteArray) : Value.bool (Op.bytesLess x.toList y.toList || (x.toList == y.toList)) = Value.bool (decide (ig x y)) := by
  have h : ∀ (b : Bool) [Decidable (b = true)], b = decide (b = true) := by
    intro b _
    cases b <;> simp
  exact congrArg Value.bool (h _)
def tgt (ns : List aL) (z : Int) : Nat := (lZ ns z).toNat
theorem kr {ns : List aL} {z : Int} (h : 0 ≤ lZ ns z) : tgt ns z < ns.length ∧ (nd ns (tgt ns z)).id = z ∧ lZ ns z = (tgt ns z : Int) := by
  unfold tgt
  unfold lZ at h ⊢
  cases hf : ns.findIdx? (fun n => n.id == z) with
  | none => rw [hf] at h; simp at h
  | some k =>
    rw [List.findIdx?_eq_some_iff_getElem] at hf
    obtain ⟨h1, h2, _⟩ := hf
    refine ⟨h1, ?_, rfl⟩
    show (nd ns k).id = z
    unfold nd
    rw [List.getD_eq_getElem?_getD, List.getElem?_eq_getElem h1]
    simpa using h2
def ent (ns : List aL) (i j : Nat) : jb := en (nd ns i).ai j
def d7 (ns : List aL) (i : Nat) : Nat → ByteArray
  | 0 => ⟨#[]⟩
  | j + 1 => (ent ns i j).name
structure kH (ns : List aL) (i j : Nat) : Prop where
  at_ : 0 ≤ lZ ns (ent ns i j).id
  good : cC (ent ns i j).name
  ord : ¬ ig (ent ns i j).name (d7 ns i j)
def zy (ns : List aL) (i j : Nat) : List (Nat × Nat) := if (nd ns (tgt ns (ent ns i j).id)).kind = 2 then [(tgt ns (ent ns i j).id, i)] else []
def ck (ns : List aL) (i : Nat) : Nat → List (Nat × Nat)
  | 0 => []
  | j + 1 => zy ns i j ++ ck ns i j
def dB (ns : List aL) : Nat → List (Nat × Nat)
  | 0 => []
  | i + 1 => ck ns i (nd ns i).ai.length ++ dB ns i
def eU (ns : List aL) (p : Nat × Nat) : Int × Int := ((nd ns p.1).id, (nd ns p.2).id)
theorem Du {ns : List aL} {i j m : Nat} (h : j ≤ m) : ∃ l, ck ns i m = l ++ ck ns i j := by
  induction m with
  | zero => exact ⟨[], by rw [Nat.le_zero.1 h]; rfl⟩
  | succ m ih =>
    rcases Nat.lt_or_ge m j with h1 | h1
    · have : j = m + 1 := by omega
      subst this
      exact ⟨[], rfl⟩
    · obtain ⟨l, hl⟩ := ih h1
      exact ⟨zy ns i m ++ l, by rw [ck, hl, List.append_assoc]⟩
theorem Dv {ns : List aL} {i m : Nat} (h : i ≤ m) : ∃ l, dB ns m = l ++ dB ns i := by
  induction m with
  | zero => exact ⟨[], by rw [Nat.le_zero.1 h]; rfl⟩
  | succ m ih =>
    rcases Nat.lt_or_ge m i with h1 | h1
    · have : i = m + 1 := by omega
      subst this
      exact ⟨[], rfl⟩
    · obtain ⟨l, hl⟩ := ih h1
      exact ⟨ck ns m (nd ns m).ai.length ++ l, by rw [dB, hl, List.append_assoc]⟩
theorem r8 {l : List (Nat × Nat)} {k : List (Nat × Nat)} (h : ((l ++ k).map Prod.fst).Nodup) : (k.map Prod.fst).Nodup := by
  rw [List.map_append] at h
  exact (List.nodup_append.1 h).2.1
theorem bW.inj {ns : List aL} (hr : bW ns) {a b : Nat} (ha : a < ns.length) (hb : b < ns.length) (h : (nd ns a).id = (nd ns b).id) : a = b := by
  rcases Nat.lt_trichotomy a b with h1 | h1 | h1
  · have := hr a b h1 hb; omega
  · exact h1
  · have := hr b a h1 ha; omega
theorem Br {ns : List aL} {ps : List (Nat × Nat)} {k : Nat} (h : up (ps.map (eU ns)) (nd ns k).id = none) : k ∉ ps.map Prod.fst := by
  unfold up at h
  induction ps with
  | nil => simp
  | cons p ps ih =>
    obtain ⟨a, b⟩ := p
    rw [List.map_cons, eU, List.lookup_cons] at h
    intro hm
    rw [List.map_cons] at hm
    rcases List.mem_cons.1 hm with e | hm
    · subst e
      simp at h
    · by_cases e : ((nd ns k).id == (nd ns a).id) = true
      · rw [e] at h; cases h
      · have e : ((nd ns k).id == (nd ns a).id) = false := by simpa using e
        rw [e] at h
        exact ih h hm
theorem Bt {ns : List aL} {ps : List (Nat × Nat)} {k : Nat} {y : Int} (hr : bW ns) (hk : k < ns.length) (hp : ∀ p, p ∈ ps → p.1 < ns.length) (h : up (ps.map (eU ns)) (nd ns k).id = some y) : k ∈ ps.map Prod.fst ∧ ∃ p, p ∈ ps ∧ p.1 = k ∧ y = (nd ns p.2).id := by
  unfold up at h
  induction ps with
  | nil => cases h
  | cons p ps ih =>
    obtain ⟨a, b⟩ := p
    rw [List.map_cons, eU, List.lookup_cons] at h
    by_cases e : ((nd ns k).id == (nd ns a).id) = true
    · rw [e] at h
      cases h
      have : k = a := hr.inj hk (hp (a, b) (List.mem_cons_self ..)) (by simpa using e)
      subst this
      exact ⟨by simp, (k, b), List.mem_cons_self .., rfl, rfl⟩
    · have e : ((nd ns k).id == (nd ns a).id) = false := by simpa using e
      rw [e] at h
      obtain ⟨h1, q, hq, h2⟩ := ih (fun p hp' => hp p (List.mem_cons_of_mem _ hp')) h
      exact ⟨by rw [List.map_cons]; exact List.mem_cons_of_mem _ h1, q, List.mem_cons_of_mem _ hq, h2⟩
def bf (A : Option Addr) (ns : List aL) (k : Nat) (z : Int) : Option Value := if 0 ≤ lZ ns z ∧ lZ ns z < k then some (.pointer (some ⟨ay A, ax A + tgt ns z * 10, none⟩)) else none
structure qU (ns : List aL) (i : Nat) (ps : List (Nat × Nat)) : Prop where
  ai : ∀ j, j < (nd ns i).ai.length → kH ns i j
  nodup : ((ck ns i (nd ns i).ai.length ++ ps).map Prod.fst).Nodup
theorem Kz {A : Option Addr} {ns : List aL} {k : Nat} {z : Int} (h : 0 ≤ lZ ns z) (hk : tgt ns z < k) : mf (bf A ns k) (.int .i64 z) = some (.pointer (some ⟨ay A, ax A + tgt ns z * 10, none⟩)) :=
  if_pos ⟨h, by rw [(kr h).2.2]; omega⟩
theorem Ht {A : Option Addr} {ns : List aL} {k : Nat} {z : Int} (h : ¬ 0 ≤ lZ ns z) : mf (bf A ns k) (.int .i64 z) = none := if_neg (fun e => h e.1)
theorem zA (ns : List aL) (i j : Nat) : (ck ns i j).length ≤ j := by
  induction j with
  | zero => exact Nat.le_refl _
  | succ j ih =>
    rw [ck, List.length_append]
    have : (zy ns i j).length ≤ 1 := by
      unfold zy
      split <;> simp
    omega
theorem pJ {ns : List aL} {i j : Nat} (h : ¬ (nd ns (tgt ns (ent ns i j).id)).kind = 2) : ck ns i (j + 1) = ck ns i j := by
  rw [ck, zy, if_neg h]; rfl
theorem mo {ns : List aL} {i j : Nat} (h : (nd ns (tgt ns (ent ns i j).id)).kind = 2) : ck ns i (j + 1) = (tgt ns (ent ns i j).id, i) :: ck ns i j := by
  rw [ck, zy, if_pos h]; rfl
theorem AR {ns : List aL} {i j : Nat} {ps : List (Nat × Nat)} (h : qU ns i ps) (hj : j < (nd ns i).ai.length) (hk : (nd ns (tgt ns (ent ns i j).id)).kind = 2) : tgt ns (ent ns i j).id ∉ (ck ns i j ++ ps).map Prod.fst := by
  obtain ⟨l, hl⟩ := Du (ns := ns) (i := i) (show j + 1 ≤ (nd ns i).ai.length from hj)
  have h1 := h.nodup
  rw [hl, List.append_assoc] at h1
  have h2 := r8 h1
  rw [mo hk, List.cons_append, List.map_cons] at h2
  exact (List.nodup_cons.1 h2).1
theorem EX {ns : List aL} {i j : Nat} {ps : List (Nat × Nat)} (hat : 0 ≤ lZ ns (ent ns i j).id) (hk : (nd ns (tgt ns (ent ns i j).id)).kind = 2) :
    jl (mf (pf ((ck ns i j ++ ps).map (eU ns)))) (.int .i64 (ent ns i j).id) (some (.int .i64 (nd ns i).id)) = mf (pf ((ck ns i (j + 1) ++ ps).map (eU ns))) := by
  rw [zo, mo hk, List.cons_append, List.map_cons, eU, (kr hat).2.1, Hr]
theorem EY {ns : List aL} {i j : Nat} {ps : List (Nat × Nat)} {f : Lit → Option Value} {kl : Lit} (hf : f kl = none) (hk : (nd ns (tgt ns (ent ns i j).id)).kind = 2) :
    (if (f kl).isSome then (ck ns i j ++ ps).length else (ck ns i j ++ ps).length + 1) = (ck ns i (j + 1) ++ ps).length := by
  rw [hf, mo hk]
  rfl
theorem Cd {ns : List aL} {i j : Nat} {ps : List (Nat × Nat)} (hat : 0 ≤ lZ ns (ent ns i j).id) (hk : (nd ns (tgt ns (ent ns i j).id)).kind = 2) (hup : up ((ck ns i j ++ ps).map (eU ns)) (ent ns i j).id = none) (h : ((ck ns i j ++ ps).map Prod.fst).Nodup) :
    ((ck ns i (j + 1) ++ ps).map Prod.fst).Nodup := by
  rw [mo hk, List.cons_append, List.map_cons]
  refine List.nodup_cons.2 ⟨?_, h⟩
  refine Br (ns := ns) ?_
  rw [(kr hat).2.1]
  exact hup
theorem zB {ns : List aL} {i j : Nat} (h : ∀ t, t < j → kH ns i t) : ∀ p, p ∈ ck ns i j → p.1 < ns.length ∧ p.2 = i := by
  induction j with
  | zero => intro p hp; cases hp
  | succ j ih =>
    intro p hp
    rw [ck] at hp
    rcases List.mem_append.1 hp with hp | hp
    · unfold zy at hp
      split at hp
      · rw [List.mem_singleton.1 hp]
        exact ⟨(kr (h j (Nat.lt_succ_self j)).at_).1, rfl⟩
      · cases hp
    · exact ih (fun t ht => h t (by omega)) p hp
theorem AU {ns : List aL} {i j : Nat} {ps : List (Nat × Nat)} {y : Int} (hr : bW ns) (hps : ∀ p, p ∈ ps → p.1 < ns.length) (hok : ∀ t, t < j → kH ns i t) (hat : 0 ≤ lZ ns (ent ns i j).id) (hk : (nd ns (tgt ns (ent ns i j).id)).kind = 2)
    (hup : up ((ck ns i j ++ ps).map (eU ns)) (ent ns i j).id = some y) (hj : j < (nd ns i).ai.length) : ¬ qU ns i ps := fun h => by
  refine AR h hj hk ?_
  rw [← (kr hat).2.1] at hup
  refine (Bt hr (kr hat).1 (fun p hp => ?_) hup).1
  rcases List.mem_append.1 hp with hp | hp
  · exact (zB hok p hp).1
  · exact hps p hp
end Go.Proofs.YtkiedlmhocglhaaGreat
end
section
namespace Go.Proofs.YtkiedlmhocglhaaGreat
open Go.RowKit
structure Th where
  k : Nat
  kind : Int
deriving Inhabited, DecidableEq
abbrev dD (α : Type) := List (ByteArray × α)
structure aM where
  id : Int
  mode : Int
  uid : Int
  gid : Int
  sec : Int
  nano : Int
  links : Int
  opens : Int
  gone : Bool
  kind : Int
  data : List UInt8
  target : ByteArray
  ai : dD Th
  up : Option Nat
deriving Inhabited
abbrev bM := Nat → aM
def obj (O : bM) (k : Nat) : aM := O k
def aB (O : bM) (k : Nat) (f : aM → aM) : bM := fun i => if i = k then f (O i) else O i
section jl
variable {O : bM} {k j : Nat} {f g : aM → aM}
theorem bA : obj (aB O k f) k = f (obj O k) := if_pos rfl
theorem bP (h : j ≠ k) : obj (aB O k f) j = obj O j := if_neg h
theorem iz : obj (aB O k f) j = if j = k then f (obj O j) else obj O j := rfl
theorem Hu (h : f (obj O k) = obj O k) : aB O k f = O := by
  funext i
  show (if i = k then f (O i) else O i) = O i
  split
  · rename_i e; subst e; exact h
  · rfl
theorem pK : aB (aB O k f) k g = aB O k (fun o => g (f o)) := by
  funext i
  show (if i = k then g (if i = k then f (O i) else O i) else (if i = k then f (O i) else O i)) = if i = k then g (f (O i)) else O i
  split <;> rfl
end jl
section ai
variable {α : Type} {n p : ByteArray} {t : α} {es : dD α}
def aT (n : ByteArray) (es : dD α) : Option α := (es.find? (fun e => decide (e.1 = n))).map (·.2)
def dN (n : ByteArray) (t : α) : dD α → dD α
  | [] => [(n, t)]
  | e :: r => if ¬ ig e.1 n then (n, t) :: e :: r else e :: dN n t r
def dW (n : ByteArray) (es : dD α) : dD α := es.filter (fun e => decide (e.1 ≠ n))
theorem eV {e : ByteArray × α} : aT n (e :: es) = if e.1 = n then some e.2 else aT n es := by
  unfold aT
  rw [List.find?_cons]
  by_cases h : e.1 = n
  · rw [if_pos h]; simp [h]
  · rw [if_neg h]; simp [h]
theorem lG : aT n es = none ↔ ∀ e ∈ es, e.1 ≠ n := by
  unfold aT
  rw [Option.map_eq_none_iff, List.find?_eq_none]
  simp
theorem jK {es : dD α} (h : aT n es = some t) : (n, t) ∈ es := by
  unfold aT at h
  obtain ⟨e, h1, h2⟩ := Option.map_eq_some_iff.1 h
  have h3 := List.find?_some h1
  have h4 := List.mem_of_find?_eq_some h1
  obtain ⟨a, b⟩ := e
  simp at h3 h2
  subst h3 h2
  exact h4
theorem zC : ∀ {es : dD α}, (dN n t es).length = es.length + 1
  | [] => rfl
  | e :: r => by
    unfold dN
    split
    · rfl
    · rw [List.length_cons, zC]; rfl
theorem r9 (hn : aT n es = none) : aT p (dN n t es) = if p = n then some t else aT p es := by
  induction es with
  | nil =>
    rw [dN, eV]
    by_cases h : n = p
    · rw [if_pos h, if_pos h.symm]
    · rw [if_neg h, if_neg (fun e => h e.symm)]
  | cons e r ih =>
    rw [eV] at hn
    have he : ¬ e.1 = n := fun h => by rw [if_pos h] at hn; cases hn
    rw [if_neg he] at hn
    rw [dN]
    split
    · rw [eV]
      by_cases h : n = p
      · rw [if_pos h, if_pos h.symm]
      · rw [if_neg h, if_neg (fun e => h e.symm)]
    · rw [eV, ih hn, eV]
      by_cases h : p = n
      · subst h; rw [if_neg he, if_pos rfl, if_pos rfl]
      · rw [if_neg h, if_neg h]
theorem mY : aT p (dW n es) = if p = n then none else aT p es := by
  induction es with
  | nil => simp [dW, aT]
  | cons e r ih =>
    unfold dW at ih ⊢
    rw [List.filter_cons]
    by_cases h : e.1 = n
    · rw [if_neg (by simp [h]), ih, eV]
      by_cases hp : p = n
      · rw [if_pos hp, if_pos hp]
      · rw [if_neg hp, if_neg hp, if_neg (fun e2 => hp (e2.symm.trans h))]
    · rw [if_pos (by simp [h]), eV, ih, eV]
      by_cases hp : p = n
      · subst hp; rw [if_neg h, if_pos rfl, if_pos rfl]
      · rw [if_neg hp, if_neg hp]
def fI (es : dD α) : Prop := es.Pairwise (fun a b => a.1 ≠ b.1)
theorem EZ {es : dD α} (hd : fI es) (h : aT n es = some t) : (dW n es).length + 1 = es.length := by
  induction es with
  | nil => cases h
  | cons e r ih =>
    obtain ⟨h1, h2⟩ := List.pairwise_cons.1 hd
    rw [eV] at h
    unfold dW at ih ⊢
    rw [List.filter_cons]
    by_cases he : e.1 = n
    · rw [if_neg (by simp [he])]
      have : r.filter (fun e => decide (e.1 ≠ n)) = r := List.filter_eq_self.2 (fun x hx => by have := h1 x hx; simp; exact fun e2 => this (he.trans e2.symm))
      rw [this]; rfl
    · rw [if_pos (by simp [he])]
      rw [if_neg he] at h
      rw [List.length_cons, List.length_cons, ih h2 h]
theorem fI.del {es : dD α} (h : fI es) : fI (dW n es) := h.filter _
theorem qV {e : ByteArray × α} : ∀ {es : dD α}, e ∈ dN n t es ↔ e = (n, t) ∨ e ∈ es
  | [] => by simp [dN]
  | x :: r => by
    unfold dN
    split
    · simp
    · rw [List.mem_cons, qV, List.mem_cons]
      constructor
      · rintro (h | h | h)
        · exact .inr (.inl h)
        · exact .inl h
        · exact .inr (.inr h)
      · rintro (h | h | h)
        · exact .inr (.inl h)
        · exact .inl h
        · exact .inr (.inr h)
theorem fI.ins : ∀ {es : dD α}, fI es → aT n es = none → fI (dN n t es)
  | [], _, _ => by unfold dN; exact List.pairwise_singleton ..
  | e :: r, h, hn => by
    have hall := lG.1 hn
    obtain ⟨h1, h2⟩ := List.pairwise_cons.1 h
    unfold dN
    split
    · exact List.pairwise_cons.2 ⟨fun x hx => fun e2 => hall x hx e2.symm, h⟩
    · refine List.pairwise_cons.2 ⟨fun x hx => ?_, fI.ins h2 (lG.2 (fun x hx => hall x (List.mem_cons_of_mem _ hx)))⟩
      rcases qV.1 hx with rfl | hx
      · exact hall e (List.mem_cons_self ..)
      · exact h1 x hx
end ai
end Go.Proofs.YtkiedlmhocglhaaGreat
end
section
namespace Go.Proofs.YtkiedlmhocglhaaGreat
open Go.RowKit
section mark
variable {P : Program} {β : Bs} {N : Nat} {ops : Array Oper} {k : Nat} {fr : Fr} {hps : List HP} {Q : Post} {d : Option Tmp}
end mark
section adds
variable {P : Program} {β : Bs} {N : Nat} {ops : Array Oper} {e0 k : Nat} {fr : Fr} {hps : List HP} {Q : Post} {d : Option Tmp} {t t2 : TypeId} {x y : Operand} {a b : ByteArray}
theorem E0 {e : TypeId} {size n m cap : Nat} {A : Option Addr} {xs : List Value} {w : World} (hm : m ≤ n) : ∀ F, (HP.abs (aF e size A n cap xs)).h F w → ∃ F', (HP.abs (aF e size A m cap (xs.take (m * size)))).h F' w ∧ Step F w F' w := by
  rintro F ⟨⟨h1, h2⟩, hF⟩
  refine ⟨F, ⟨⟨?_, ?_⟩, fun k => ?_⟩, Step.refl F w⟩
  · rw [List.length_take, h1]
    exact Nat.min_eq_left (Nat.mul_le_mul_right _ hm)
  · rcases h2 with ⟨e1, e2⟩ | ⟨g, cp, cur, e1, h3, h4, h5, h6, h7, h8⟩
    · cases e1
      exact .inl ⟨by rw [show m = 0 by omega], by omega⟩
    · cases e1
      refine .inr ⟨g, cap, cur, rfl, h3, h4, by omega, h6, h7, ?_⟩
      rw [← h8, List.take_take]
      congr 1
      exact (Nat.min_eq_left (Nat.mul_le_mul_right _ hm)).symm
  · rw [hF k]
    cases A <;> rfl
theorem Sat.cut {i e size n m cap : Nat} {A : Option Addr} {xs ys : List Value} {w : World} (hp : hps[i]? = some (.abs (aF e size A n cap xs))) (hm : m ≤ n) (hy : xs.take (m * size) = ys) (h : Sat β hps w) : Sat β (hps.set i (.abs (aF e size A m cap ys))) w := by
  subst hy
  exact h.set hp (E0 hm)
end adds
theorem aF.cellAt {e : TypeId} {A : Option Addr} {size n cap i j : Nat} {xs : List Value} {u : Value} (hi : i < n) (hj : xs[i * size + j]? = some u) : ∀ F w, (aF e size A n cap xs).h F w → w.cell? ⟨ay A, ax A + i * size + j, none⟩ = some u := by
  intro F w h
  obtain ⟨g, rfl⟩ := aF.head h (by omega)
  have := aF.cell hj F w h
  show w.cell? ⟨g, 0 + i * size + j, none⟩ = some u
  rw [Nat.zero_add]
  exact this
def kL (a b : ByteArray) : Int := Lib.compareBytes a.data.toList b.data.toList
theorem yc : ∀ a : List UInt8, Lib.compareBytes a a = 0
  | [] => rfl
  | a :: r => by
    have h : ¬ a < a := by intro h; exact absurd h (by simp)
    simp only [Lib.compareBytes, if_neg h]
    exact yc r
theorem ye : ∀ {a b : List UInt8}, Lib.compareBytes a b = 0 → a = b
  | [], [], _ => rfl
  | [], _ :: _, h => by simp [Lib.compareBytes] at h
  | _ :: _, [], h => by simp [Lib.compareBytes] at h
  | a :: x, b :: y, h => by
    unfold Lib.compareBytes at h
    split at h
    · cases h
    · rename_i h1
      split at h
      · cases h
      · rename_i h2
        have e : a = b := by
          apply UInt8.toNat_inj.1
          have h3 : ¬ a.toNat < b.toNat := fun h => h1 (UInt8.lt_iff_toNat_lt.2 h)
          have h4 : ¬ b.toNat < a.toNat := fun h => h2 (UInt8.lt_iff_toNat_lt.2 h)
          omega
        rw [e, ye h]
theorem yg : ∀ {a b : List UInt8}, Lib.compareBytes a b < 0 ↔ Op.bytesLess a b = true
  | [], [] => by simp [Lib.compareBytes, Op.bytesLess]
  | [], _ :: _ => by simp [Lib.compareBytes, Op.bytesLess]
  | _ :: _, [] => by simp [Lib.compareBytes, Op.bytesLess]
  | a :: x, b :: y => by
    unfold Lib.compareBytes Op.bytesLess
    by_cases h1 : a < b
    · simp [h1]
    · by_cases h2 : b < a
      · have h3 : ¬ a = b := fun e => by subst e; exact h1 h2
        simp [h1, h2, h3]
      · have e : a = b := by
          apply UInt8.toNat_inj.1
          have h3 : ¬ a.toNat < b.toNat := fun h => h1 (UInt8.lt_iff_toNat_lt.2 h)
          have h4 : ¬ b.toNat < a.toNat := fun h => h2 (UInt8.lt_iff_toNat_lt.2 h)
          omega
        subst e
        simp only [h1, if_false, decide_false, beq_self_eq_true, Bool.true_and, Bool.false_or]
        exact yg
theorem vN : ∀ {a b c : List UInt8}, Lib.compareBytes a b < 0 → Lib.compareBytes b c ≤ 0 → Lib.compareBytes a c < 0
  | [], [], _, h, _ => by simp [Lib.compareBytes] at h
  | [], _ :: _, [], _, h => by simp [Lib.compareBytes] at h
  | [], _ :: _, _ :: _, _, _ => by simp [Lib.compareBytes]
  | _ :: _, [], _, h, _ => by simp [Lib.compareBytes] at h
  | _ :: _, _ :: _, [], _, h => by simp [Lib.compareBytes] at h
  | a :: x, b :: y, c :: z, h, g => by
    unfold Lib.compareBytes at h g ⊢
    by_cases h1 : a < b
    · by_cases g1 : b < c
      · have : a < c := by rw [UInt8.lt_iff_toNat_lt] at *; omega
        simp [this]
      · by_cases g2 : c < b
        · simp [g1, g2] at g
        · have e : b = c := by
            apply UInt8.toNat_inj.1
            rw [UInt8.lt_iff_toNat_lt] at *
            omega
          subst e
          simp [h1]
    · by_cases h2 : b < a
      · simp [h1, h2] at h
      · have e : a = b := by
          apply UInt8.toNat_inj.1
          rw [UInt8.lt_iff_toNat_lt] at *
          omega
        subst e
        simp only [h1, if_false] at h
        by_cases g1 : a < c
        · simp [g1]
        · by_cases g2 : c < a
          · simp [g1, g2] at g
          · simp only [g1, g2, if_false] at g ⊢
            exact vN h g
theorem yh : ∀ {a b : List UInt8}, Lib.compareBytes b a = - Lib.compareBytes a b
  | [], [] => rfl
  | [], _ :: _ => rfl
  | _ :: _, [] => rfl
  | a :: x, b :: y => by
    unfold Lib.compareBytes
    by_cases h1 : a < b
    · have h2 : ¬ b < a := by rw [UInt8.lt_iff_toNat_lt] at *; omega
      simp [h1, h2]
    · by_cases h2 : b < a
      · simp [h1, h2]
      · simp only [h1, h2, if_false]
        exact yh
theorem yj (a : ByteArray) : kL a a = 0 := yc _
theorem yq {a b : ByteArray} : kL a b = 0 ↔ a = b := by
  refine ⟨fun h => ?_, fun h => by rw [h]; exact yj b⟩
  have := ye h
  obtain ⟨⟨a⟩⟩ := a
  obtain ⟨⟨b⟩⟩ := b
  have this : a = b := this
  rw [this]
theorem vO {a b c : ByteArray} (h : kL a b < 0) (g : kL b c ≤ 0) : kL a c < 0 := vN h g
theorem si (a b : ByteArray) : kL b a = - kL a b := yh
end Go.Proofs.YtkiedlmhocglhaaGreat
end
section
namespace Go.Proofs.YtkiedlmhocglhaaGreat
open Go.RowKit
def NP (Q : Post) : Post := fun e a w => match e with
  | .normal => Q .normal a w
  | _ => False
section order
variable {P : Program} {ops : Array Oper} {Q Q' : Post} {n : Nat} {S : World → Prop}
theorem lH (h : LetsOut (NP Q)) : False := by
  obtain ⟨a, w, h⟩ := h
  exact h
theorem yV {o : Oper} {a : Act} {w : World} {K : Act → World → Prop} (h : o.wp P a w K (NP Q)) : o.wp P a w K (NP Q') := by
  unfold Oper.wp at *
  generalize (execOp a.eval o).run P w = r at *
  cases r with
  | ok m w' =>
    cases m <;> simp only [Oper.upon] at h ⊢ <;>
      first
        | exact h
        | exact Calls.mono h (fun e w'' he => by cases e <;> first | exact he | exact (lH he).elim)
  | halt x w' => cases x <;> simp only [Oper.upon] at h ⊢; exact h
theorem eE {i : Nat} {o : Oper} {a : Act} {w : World} {K : Act → World → Prop} (hi : ops[i]? = some o) (hg : o.guard = none) (h : wpList P #[o] (NP fun _ a w => K a w) [o] a w) : wpOp P ops (NP Q) i K a w := by
  unfold wpOp
  simp only [hi]
  have hw : ∀ y, Region.wanted o y = true := fun y => by unfold Region.wanted; rw [hg]
  rw [if_pos (hw _)]
  unfold wpList at h
  rw [if_pos (hw _)] at h
  rcases h with h | ⟨_, h⟩
  · exact .inl (yV (Oper.wp_mono (fun a w h => h) h))
  · exact (lH h).elim
theorem gq {o : Oper} {a : Act} {w : World} (hq : ∀ a w, Q .normal a w → Q' .normal a w) (h : wpList P ops (NP Q) [o] a w) : wpList P ops (NP Q') [o] a w := by
  unfold wpList at *
  split
  · rename_i hw
    rw [if_pos hw] at h
    rcases h with h | ⟨_, h⟩
    · exact .inl (yV (Oper.wp_mono (fun a w h => hq a w h) h))
    · exact (lH h).elim
  · rename_i hw
    rw [if_neg hw] at h
    exact hq _ _ h
def jL (P : Program) (ops : Array Oper) (Q : Post) (n : Nat) (S : World → Prop) : Nat → Array Bool → Act → World → Prop
  | 0, listed, a, w => Region.ready .any ops listed = [] ∧ Q .normal a w
  | fuel + 1, listed, a, w => (Region.ready .any ops listed = [] → Q .normal a w) ∧
    ∀ i ∈ Region.ready .any ops listed, wpOp P ops Q i (fun a' w' => (i = n ∨ S w') ∧ jL P ops Q n S fuel (listed.setIfInBounds i true) a' w') a w
theorem lI : ∀ (fuel : Nat) (listed : Array Bool) (a : Act) (w : World), jL P ops Q n S fuel listed a w → wpAny P .any ops Q fuel listed a w
  | 0, _, _, _, h => h
  | fuel + 1, _, _, _, h => ⟨h.1, fun i hi => wpOp_mono (fun a' w' h' => lI fuel _ a' w' h'.2) (h.2 i hi)⟩
def Closed (ops : Array Oper) (listed : Array Bool) : Prop := ∀ j oj, ops[j]? = some oj → listed.getD j false = true → ∀ e ∈ oj.after, Region.binds .any e = true → listed.getD e.on false = true
theorem Closed.set {listed : Array Bool} {j : Nat} (h : Closed ops listed) (hj : j ∈ Region.ready .any ops listed) : Closed ops (listed.setIfInBounds j true) := by
  obtain ⟨_, oj, hoj, hall⟩ := mem_ready.1 hj
  intro k ok hk hl e he hb
  refine getD_set_true ?_
  by_cases hjk : j = k
  · subst hjk
    rw [hoj] at hk
    cases hk
    exact hall e he hb
  · rw [getD_set_ne false hjk] at hl
    exact h k ok hk hl e he hb
theorem yt (hs : Region.sinkB .any ops n = true) {listed : Array Bool} (hc : Closed ops listed) : ∀ (m i : Nat), n - i ≤ m → i < n → listed.getD i false = false → n ∉ Region.ready .any ops listed
  | 0, i, hm, hi, _ => by omega
  | m + 1, i, hm, hi, hu => fun hr => by
    unfold Region.sinkB at hs
    rw [List.all_eq_true] at hs
    have h1 := hs i (List.mem_range.2 hi)
    rw [List.any_eq_true] at h1
    obtain ⟨j, hj, h2⟩ := h1
    rw [Bool.and_eq_true, decide_eq_true_iff] at h2
    have hj := List.mem_range.1 hj
    obtain ⟨oj, hoj, e, he, hb, heq⟩ := Region.waitsFor_spec h2.2
    by_cases hjn : j = n
    · subst hjn
      obtain ⟨_, oj', I3, hall⟩ := mem_ready.1 hr
      rw [hoj] at I3
      cases I3
      have := hall e he hb
      rw [heq, hu] at this
      cases this
    · cases hl : listed.getD j false with
      | true =>
        have := hc j oj hoj hl e he hb
        rw [heq, hu] at this
        cases this
      | false => exact yt (by unfold Region.sinkB; rw [List.all_eq_true]; exact hs) hc m j (by omega) (by omega) hl hr
theorem nJ {listed : Array Bool} {i : Nat} (h : i ∈ Region.ready .any ops listed) : listed.getD i false = false := by
  have h1 := (mem_ready.1 h).1
  rcases Nat.lt_or_ge i listed.size with h' | h'
  · simp [h'] at h1 ⊢; exact h1
  · simp [Array.getElem?_eq_none h'] at h1
theorem oH {i : Nat} {oi : Oper} {v : Value} (hi : ops[i]? = some oi) (hsel : Region.noSelect ops = true) (lJ : Region.sinkB .any ops n = true) (hin : i < n) :
    ∀ (fuel : Nat) (listed : Array Bool) (a : Act) (w : World), Closed ops listed →
      (∀ j oj, ops[j]? = some oj → j ≠ i → listed.getD j true = false → (∀ e ∈ oj.after, Region.binds .any e = true → e.on ≠ i) → oi.apart ops oj = true) →
      i ∈ Region.ready .any ops listed → YieldsIf P ops S oi v a → S w →
      jL P ops (NP Q) n S fuel (listed.setIfInBounds i true) (a.put oi.dst v) w → jL P ops (NP Q) n S (fuel + 1) listed a w := by
  intro fuel
  induction fuel with
  | zero =>
    intro listed a w _ _ hr hy hS H
    refine ⟨fun h => (by rw [h] at hr; cases hr), fun j hj => ?_⟩
    by_cases hji : j = i
    · subst hji; exact hy.wpOp hi hS ⟨.inr hS, H⟩
    · have := ready_mono hj hji
      rw [H.1] at this
      cases this
  | succ fuel ih =>
    intro listed a w hcl hfree hr hy hS H
    refine ⟨fun h => (by rw [h] at hr; cases hr), fun j hj => ?_⟩
    by_cases hji : j = i
    · subst hji; exact hy.wpOp hi hS ⟨.inr hS, H⟩
    · have h1 := H.2 j (ready_mono hj hji)
      have hjn : j ≠ n := fun e => by
        subst e
        exact yt lJ hcl _ i (Nat.le_refl _) hin (nJ hr) hj
      obtain ⟨hjun, oj, hoj, hall⟩ := mem_ready.1 hj
      have hnot : ∀ e ∈ oj.after, Region.binds .any e = true → e.on ≠ i := fun e he hb heq => by
        have h2 := hall e he hb
        rw [heq, nJ hr] at h2
        cases h2
      have h2 := wpOp_putIf (S := S) (Q := NP Q) hoj (hfree j oj hoj hji hjun hnot) (fun cs b => Region.noSelect_spec hsel i oi cs b hi) (fun cs b => Region.noSelect_spec hsel j oj cs b hoj) (fun _ _ _ h => h) hy h1
      have hfree' : ∀ k ok, ops[k]? = some ok → k ≠ i → (listed.setIfInBounds j true).getD k true = false →
          (∀ e ∈ ok.after, Region.binds .any e = true → e.on ≠ i) → oi.apart ops ok = true := fun k ok hk hki hun hno => by
        refine hfree k ok hk hki ?_ hno
        by_cases hjk : j = k
        · subst hjk; exact hjun
        · rw [getD_set_ne true hjk] at hun; exact hun
      refine wpOp_mono (fun a' w' h3 => ?_) h2
      have cu : S w' := h3.2.1.resolve_left hjn
      refine ⟨.inr cu, ih (listed.setIfInBounds j true) a' w' (hcl.set hj) hfree' (ready_mono hr (Ne.symm hji)) h3.1 cu ?_⟩
      rw [Array.setIfInBounds_comm _ _ hji]
      exact h3.2.2
def jY (P : Program) (ops : Array Oper) (Q : Post) (S : World → Prop) : Nat → List Nat → Act → World → Prop
  | _, [], a, w => Q .normal a w
  | 0, i :: l, a, w => wpOp P ops Q i (fun a' w' => (l = [] ∨ S w') ∧ jY P ops Q S 0 l a' w') a w
  | r + 1, i :: l, a, w => ∃ o v, ops[i]? = some o ∧ YieldsIf P ops S o v a ∧ jY P ops Q S r l (a.put o.dst v) w
def qW (ops : Array Oper) (n : Nat) : Nat → List Nat → Array Bool → Bool
  | _, [], listed => (Region.ready .any ops listed).isEmpty
  | 0, i :: l, listed => (Region.ready .any ops listed == [i]) && (!l.isEmpty || i == n) && qW ops n 0 l (listed.setIfInBounds i true)
  | r + 1, i :: l, listed => decide (i < n) && Region.free .any ops listed i && (Region.ready .any ops listed).contains i && qW ops n r l (listed.setIfInBounds i true)
theorem yu (hsel : Region.noSelect ops = true) : ∀ (l : List Nat) (listed : Array Bool) (a : Act) (w : World), qW ops n 0 l listed = true → jY P ops (NP Q) S 0 l a w → jL P ops (NP Q) n S l.length listed a w
  | [], listed, a, w, hb, h => ⟨List.isEmpty_iff.1 hb, h⟩
  | i :: l, listed, a, w, hb, h => by
    unfold qW at hb
    simp only [Bool.and_eq_true, beq_iff_eq] at hb
    obtain ⟨⟨h1, h2⟩, h3⟩ := hb
    refine ⟨fun h0 => (by rw [h1] at h0; cases h0), fun j hj => ?_⟩
    rw [h1] at hj
    have hj : j = i := by simpa using hj
    subst hj
    refine wpOp_mono (fun a' w' h4 => ⟨?_, yu hsel l _ a' w' h3 h4.2⟩) h
    rcases h4.1 with h5 | h5
    · subst h5; exact .inl (by simpa using h2)
    · exact .inr h5
theorem wV (hsel : Region.noSelect ops = true) (lJ : Region.sinkB .any ops n = true) : ∀ (r : Nat) (l : List Nat) (listed : Array Bool) (a : Act) (w : World), qW ops n r l listed = true → Closed ops listed → S w → jY P ops (NP Q) S r l a w → jL P ops (NP Q) n S l.length listed a w
  | 0, l, listed, a, w, hb, _, _, h => yu hsel l listed a w hb h
  | r + 1, [], listed, a, w, hb, _, _, h => ⟨List.isEmpty_iff.1 hb, h⟩
  | r + 1, i :: l, listed, a, w, hb, hc, hS, h => by
    unfold qW at hb
    simp only [Bool.and_eq_true, decide_eq_true_iff] at hb
    obtain ⟨⟨⟨h1, h2⟩, h3⟩, h4⟩ := hb
    obtain ⟨o, v, ho, hy, hk⟩ := h
    have hr : i ∈ Region.ready .any ops listed := by simpa using h3
    exact oH ho hsel lJ h1 l.length listed a w hc (Region.free_spec ho h2) hr hy hS (wV hsel lJ r l _ _ w h4 (hc.set hr) hS hk)
def vQ (ops : Array Oper) (perm : List Nat) (nr : Nat) : Bool :=
  Region.noSelect ops && Region.sinkB .any ops (ops.size - 1) && (perm.length == ops.size) && qW ops (ops.size - 1) nr perm (Array.replicate ops.size false)
end order
section mix
variable {P : Program} {β : Bs} {N : Nat} {ops : Array Oper} {S : List HP} {r r' : Nat} {l l' : List Nat} {fr fr' : Fr} {hps : List HP} {Q : Post} {ak : List Prop} {d : Option Tmp} {op : Op} {v : Value} {i : Nat} {pk : List Nat}
def aD (P : Program) (β : Bs) (N : Nat) (ops : Array Oper) (S : List HP) (r : Nat) (l : List Nat) (fr : Fr) (hps : List HP) (Q : Post) : Prop :=
  ∀ junk w, Sat β hps w → jY P ops (NP Q) (Sat β S) r l (cF N fr junk) w
theorem af.bT {id : Nat} (perm : List Nat) (nr : Nat) (pk : List Nat) (hm : P.follows .mixedOrders = true) (hB : vQ ops perm nr = true) (hn : br pk = true) (hp : bI hps pk = some S) (h : aD P β N ops S nr perm fr hps Q) : af P β N (.region id ops true) fr hps Q := by
  intro junk w hS
  unfold vQ at hB
  simp only [Bool.and_eq_true, beq_iff_eq] at hB
  obtain ⟨⟨⟨h1, h2⟩, h3⟩, h4⟩ := hB
  have cu := hS.drewN 1
  have h5 := wV (Q := Q) h1 h2 nr perm _ _ _ h4 (fun j oj _ hl => by simp [Array.getD_eq_getD_getElem?, Array.getElem?_replicate] at hl; split at hl <;> simp at hl) (cu.pick hn hp) (h junk (w.drewN 1) cu)
  rw [h3] at h5
  refine Code.wp_mono (fun e a w q => ?_) (wp_region_any hm (lI _ _ _ _ h5))
  cases e with
  | normal => exact q
  | exit id => exact q.elim
  | goto l => exact q.elim
  | ret => exact q.elim
  | panic ch => exact q.elim
  | outgrown => exact q.elim
def sj : Value → Bool
  | .tuple a => decide (a.size ≠ 0)
  | _ => true
theorem pN {v : Value} (h : sj v = true) : ¬ v = undef := fun e => by subst e; exact absurd h (by decide)
def mZ (P : Program) (β : Bs) (N : Nat) (junk : Nat → Value) (ops : Array Oper) : List OH → List Nat → Fr → SS → Option (Fr × SS)
  | [], [], fr, S => some (fr, S)
  | h :: hs, i :: is, fr, S =>
    match ops[i]? with
    | some o =>
      match o.guard with
      | none =>
        match oy P β 0 true (bZ N fr junk) o h S with
        | some (v, S') =>
          match sj v with
          | true => mZ P β N junk ops hs is (cA fr o.dst v) S'
          | false => none
        | none => none
      | some _ => none
    | none => none
  | _, _, _, _ => none
def tS (P : Program) (β : Bs) (N : Nat) (junk : Nat → Value) (ops : Array Oper) (hs : List OH) (is : List Nat) (fr : Fr) (S : List HP) (idx : List Nat) : Option (Fr × List Prop) :=
  match mZ P β N junk ops hs is fr ⟨[], S, [], true⟩ with
  | some (fr', S') => some (gY fr' junk idx, S'.ak)
  | none => none
theorem qX {junk : Nat → Value} : ∀ {hs : List OH} {is : List Nat} {fr fr' : Fr} {S S' : SS}, mZ P β N junk ops hs is fr S = some (fr', S') → ∀ p, p ∈ S.ak → p ∈ S'.ak
  | [], [], fr, fr', S, S', h, p, hp => by cases h; exact hp
  | h :: hs, i :: is, fr, fr', S, S', hr, p, hp => by
    unfold mZ at hr
    repeat' split at hr
    all_goals first | (cases hr; done) | skip
    rename_i h0 _ _
    exact qX hr p (uL h0 p hp)
  | [], _ :: _, _, _, _, _, h, _, _ => by cases h
  | _ :: _, [], _, _, _, _, h, _, _ => by cases h
theorem su {junk : Nat → Value} {w : World} : ∀ {hs : List OH} {is : List Nat} {fr fr' : Fr} {T T' : SS}, mZ P β N junk ops hs is fr T = some (fr', T') → (∀ p, p ∈ T'.ak → p) → T.used = true → T.hps = S →
    jY P ops (NP Q) (Sat β S) r l (cF N fr' junk) w → jY P ops (NP Q) (Sat β S) (is.length + r) (is ++ l) (cF N fr junk) w
  | [], [], fr, fr', T, T', h, ho, hu, hT, hK => by cases h; simpa using hK
  | h :: hs, i :: is, fr, fr', T, T', hr, ho, hu, hT, hK => by
    unfold mZ at hr
    repeat' split at hr
    all_goals first | (cases hr; done) | skip
    rename_i o hget _ zD _ v T1 h0 _ hv
    obtain ⟨e1, e2⟩ := qq h0
    have e : (i :: is).length + r = (is.length + r) + 1 := by simp; omega
    rw [e, List.cons_append]
    unfold jY
    refine ⟨o, v, hget, .inl ⟨by unfold Region.wanted; rw [zD], fun w' cu => ?_⟩, ?_⟩
    · rw [cY]
      obtain ⟨w2, h1, _, _, h4⟩ := jX h0 (fun p hp => ho p (qX hr p hp)) (by rw [hT]; exact cu) (fun e => by rw [hu] at e; cases e)
      obtain ⟨ew, _⟩ := h4 rfl
      rw [ew] at h1
      rcases h1 with h1 | ⟨h1, _⟩
      · exact h1
      · exact absurd h1 (pN hv)
    · rw [cW]
      exact su hr ho (e2.trans hu) (e1.trans hT) hK
  | [], _ :: _, _, _, _, _, h, _, _, _, _ => by cases h
  | _ :: _, [], _, _, _, _, h, _, _, _, _ => by cases h
theorem aD.reads (is : List Nat) (hs : List OH) (idx : List Nat) (h : ∀ junk, tS P β N junk ops hs is fr S idx = some (fr', ak)) (ho : fV ak) (hr : r' = is.length + r) (hl : l' = is ++ l) (K : aD P β N ops S r l fr' hps Q) : aD P β N ops S r' l' fr hps Q := by
  intro junk w hS
  subst hr hl
  have h0 := h junk
  unfold tS at h0
  split at h0
  · rename_i iI S1 h1
    cases h0
    have hK := K (lk iI junk) w hS
    rw [← iy] at hK
    exact su h1 (fun p hp => ho.mem hp) rfl rfl hK
  · cases h0
def Dw (ops : Array Oper) (i : Nat) : Option (Op × Option Tmp) := match ops[i]? with
  | some o => match o.guard with
    | none => some (o.op, o.dst)
    | some _ => none
  | none => none
theorem E4 (h : Dw ops i = some (op, d)) : ∃ o, ops[i]? = some o ∧ o.guard = none ∧ o.op = op ∧ o.dst = d := by
  unfold Dw at h
  repeat' split at h
  all_goals first | (cases h; done) | skip
  rename_i o h1 _ h2
  cases h
  exact ⟨o, h1, h2, rfl, rfl⟩
theorem aD.Gu (hop : Dw ops i = some (op, d)) (h : ∀ (o : Oper) junk w, o.op = op → Sat β S w → lu P (bZ N fr junk) o w v w) (hv : sj v = true) (K : aD P β N ops S r l (cA fr d v) hps Q) : aD P β N ops S (r + 1) (i :: l) fr hps Q := by
  intro junk w hS
  obtain ⟨o, h1, h2, h3, rfl⟩ := E4 hop
  unfold jY
  refine ⟨o, v, h1, .inl ⟨by unfold Region.wanted; rw [h2], fun w' cu => ?_⟩, ?_⟩
  · rw [cY]
    rcases h o junk w' h3 cu with h4 | ⟨h4, _⟩
    · exact h4
    · exact absurd h4 (pN hv)
  · rw [cW]
    exact K junk w hS
def iJ (β : Bs) (N : Nat) {ι : Type} (fr : ι → Fr) (hp : ι → List HP) : Post := fun _ a w => ∃ i junk, a = cF N (fr i) junk ∧ Sat β (hp i) w
theorem aD.cut {ι : Type} {fr' : ι → Fr} {hp' : ι → List HP} {o : Oper} (pk : List Nat) (hop : ops[i]? = some o) (hg : o.guard = none) (h : ah P β N #[o] 0 fr hps (NP (iJ β N fr' hp'))) (hn : br pk = true) (hp : ∀ j, bI (hp' j) pk = some S)
    (K : ∀ j, aD P β N ops S 0 l (fr' j) (hp' j) Q) : aD P β N ops S 0 (i :: l) fr hps Q := by
  intro junk w hS
  unfold jY
  refine eE hop hg ?_
  have h1 := h junk w hS
  have h2 : wpList P #[o] (NP (iJ β N fr' hp')) [o] (cF N fr junk) w := h1
  refine gq (fun a w ⟨j, ic, ha, cu⟩ => ?_) h2
  subst ha
  exact ⟨.inr (cu.pick hn (hp j)), K j ic w cu⟩
theorem aD.last {o : Oper} (hop : ops[i]? = some o) (hg : o.guard = none) (h : ah P β N #[o] 0 fr hps (NP Q)) : aD P β N ops S 0 [i] fr hps Q := by
  intro junk w hS
  unfold jY
  refine eE hop hg ?_
  have h2 : wpList P #[o] (NP Q) [o] (cF N fr junk) w := h junk w hS
  exact gq (fun a w hq => ⟨.inl rfl, by unfold jY; exact hq⟩) h2
theorem aj.mid {ι : Type} {fr' : ι → Fr} {hp' : ι → List HP} (j : ι) {idx pk : List Nat} (hf : ∀ junk, gY fr junk idx = fr' j) (hn : br pk = true) (hp : bI hps pk = some (hp' j)) : aj β N (NP (iJ β N fr' hp')) .normal fr hps :=
  fun junk _ hS => ⟨j, lk fr junk, by rw [iy N fr junk idx, hf junk], hS.pick hn hp⟩
theorem aj.np (h : aj β N Q .normal fr hps) : aj β N (NP Q) .normal fr hps := fun junk w hS => h junk w hS
section maps
open Go.Maps
variable {t K E : TypeId} {b cnt : Nat} {f : Lit → Option Value} {x ix : Operand} {key z : Value} {kl : Lit} {q : Option Value}
theorem aD.jH (p : Nat) (hop : Dw ops i = some (.lookup t x ix true, d)) (hp : S[p]? = some (.abs (aC P K b f cnt))) (hx : ∀ junk, bZ N fr junk x = .map (some b)) (dh : ∀ junk, bZ N fr junk ix = key) (L : Keyed P K)
    (ht : P.underlying t = some (.map K E)) (hz : ∀ w, (zeroValue E).run P w = .ok z w) (hkey : keyOf P K key = some kl) (hr : f kl = q) (K' : aD P β N ops S r l (cA fr d (.tuple #[q.getD z, .bool q.isSome])) hps Q) : aD P β N ops S (r + 1) (i :: l) fr hps Q := by
  subst hr
  exact aD.Gu hop (fun _ junk w ho hS => lD ho (aC.get hS hp) (hx junk) (dh junk) L ht (hz w) hkey) rfl K'
theorem aD.dV (p : Nat) (hop : Dw ops i = some (.lookup t x ix false, d)) (hp : S[p]? = some (.abs (aC P K b f cnt))) (hx : ∀ junk, bZ N fr junk x = .map (some b)) (dh : ∀ junk, bZ N fr junk ix = key) (L : Keyed P K)
    (ht : P.underlying t = some (.map K E)) (hz : ∀ w, (zeroValue E).run P w = .ok z w) (hkey : keyOf P K key = some kl) (hr : f kl = q) (hv : sj (q.getD z) = true) (K' : aD P β N ops S r l (cA fr d (q.getD z)) hps Q) : aD P β N ops S (r + 1) (i :: l) fr hps Q := by
  subst hr
  exact aD.Gu hop (fun _ junk w ho hS => oB ho (aC.get hS hp) (hx junk) (dh junk) L ht (hz w) hkey) hv K'
end maps
end mix
end Go.Proofs.YtkiedlmhocglhaaGreat
end
section
namespace Go.Proofs.YtkiedlmhocglhaaGreat
open Go.RowKit
section sat
variable {β : Bs} {l : List HP} {w : World} {p p1 p2 : HP} {i : Nat}
theorem Sat.KA (h : Sat β l w) (hp : l[i]? = some p) (hs : ∀ F, p.h F w → ∃ F1 F2, p1.h F1 w ∧ p2.h F2 w ∧ Apart F1 F2 ∧ ∀ k, F k ↔ F1 k ∨ F2 k) : Sat β (l.set i p1 ++ [p2]) w := by
  obtain ⟨ho, φ, h1, h2, h3⟩ := h
  obtain ⟨F1, F2, g1, g2, g3, g4⟩ := hs _ (h1 i p hp)
  have hi := bq hp
  have hlen : (l.set i p1 ++ [p2]).length = l.length + 1 := by simp
  refine ⟨ho, fun j => if j = l.length then F2 else if j = i then F1 else φ j, fun j q hq => ?_, fun j hj k hk hO => ?_, fun a b ha hb hne k hk hk' => ?_⟩
  · by_cases e : j = l.length
    · subst e
      rw [List.getElem?_append_right (by simp)] at hq
      simp at hq
      subst hq
      simpa using g2
    · rw [List.getElem?_append_left (by have := bq hq; rw [hlen] at this; simp; omega)] at hq
      simp only [e, if_false]
      by_cases e2 : j = i
      · subst e2
        rw [List.getElem?_set_self hi] at hq
        cases hq
        simpa using g1
      · rw [List.getElem?_set_ne (fun e' => e2 e'.symm)] at hq
        simp only [e2, if_false]
        exact h1 j q hq
  · rw [hlen] at hj
    have hF : ∀ k, F1 k ∨ F2 k → β.O k → False := fun k hk hO => h2 i hi k ((g4 k).2 hk) hO
    by_cases e : j = l.length
    · simp only [e, if_true] at hk; exact hF k (.inr hk) hO
    · simp only [e, if_false] at hk
      by_cases e2 : j = i
      · simp only [e2, if_true] at hk; exact hF k (.inl hk) hO
      · simp only [e2, if_false] at hk; exact h2 j (by omega) k hk hO
  · rw [hlen] at ha hb
    have key : ∀ j, j < l.length → j ≠ i → ∀ k, F1 k ∨ F2 k → φ j k → False := fun j hj hne k hk hk' => h3 j i hj hi hne k hk' ((g4 k).2 hk)
    by_cases ea : a = l.length
    · simp only [ea, if_true] at hk
      have eb : ¬ b = l.length := fun e => hne (ea.trans e.symm)
      simp only [eb, if_false] at hk'
      by_cases vR : b = i
      · simp only [vR, if_true] at hk'; exact g3 k hk' hk
      · simp only [vR, if_false] at hk'; exact key b (by omega) vR k (.inr hk) hk'
    · simp only [ea, if_false] at hk
      by_cases Dx : a = i
      · simp only [Dx, if_true] at hk
        by_cases eb : b = l.length
        · simp only [eb, if_true] at hk'; exact g3 k hk hk'
        · simp only [eb, if_false] at hk'
          have vR : ¬ b = i := fun e => hne (Dx.trans e.symm)
          simp only [vR, if_false] at hk'
          exact key b (by omega) vR k (.inl hk) hk'
      · simp only [Dx, if_false] at hk
        by_cases eb : b = l.length
        · simp only [eb, if_true] at hk'; exact key a (by omega) Dx k (.inr hk') hk
        · simp only [eb, if_false] at hk'
          by_cases vR : b = i
          · simp only [vR, if_true] at hk'; exact key a (by omega) Dx k (.inl hk') hk
          · simp only [vR, if_false] at hk'; exact h3 a b (by omega) (by omega) hne k hk hk'
theorem Sat.Gv {j : Nat} {idx : List Nat} {l' : List HP} (h : Sat β l w) (hp : l[i]? = some p1) (hq : l[j]? = some p2) (hn : br (i :: j :: idx) = true) (hl : bI l idx = some l') (hs : ∀ F1 F2, p1.h F1 w → p2.h F2 w → Apart F1 F2 → ∃ F, p.h F w ∧ ∀ k, F k → F1 k ∨ F2 k) : Sat β (p :: l') w := by
  have h' := h.pick (idx := i :: j :: idx) (l' := p1 :: p2 :: l') hn (by simp only [bI, hp, hq, hl])
  obtain ⟨ho, φ, h1, h2, h3⟩ := h'
  obtain ⟨F, hF, hk⟩ := hs _ _ (h1 0 p1 rfl) (h1 1 p2 rfl) (h3 0 1 (by simp) (by simp) (by decide))
  have hlen : (p1 :: p2 :: l').length = l'.length + 2 := rfl
  rw [hlen] at h2 h3
  refine ⟨ho, fun j => if j = 0 then F else φ (j + 1), fun j q hq => ?_, fun j hj k hkk hO => ?_, fun a b ha hb hne k hk1 hk2 => ?_⟩
  · cases j with
    | zero => simp at hq; subst hq; simpa using hF
    | succ j => simpa using h1 (j + 2) q (by simpa using hq)
  · simp only [List.length_cons] at hj
    cases j with
    | zero =>
      simp only [if_true] at hkk
      rcases hk k hkk with e | e
      · exact h2 0 (by omega) k e hO
      · exact h2 1 (by omega) k e hO
    | succ j => exact h2 (j + 2) (by omega) k (by simpa using hkk) hO
  · simp only [List.length_cons] at ha hb
    have key : ∀ j, j < l'.length → F k → φ (j + 2) k → False := fun j hj e1 e2 => by
      rcases hk k e1 with e | e
      · exact h3 0 (j + 2) (by omega) (by omega) (by omega) k e e2
      · exact h3 1 (j + 2) (by omega) (by omega) (by omega) k e e2
    cases a with
    | zero =>
      cases b with
      | zero => exact hne rfl
      | succ b => exact key b (by omega) (by simpa using hk1) (by simpa using hk2)
    | succ a =>
      cases b with
      | zero => exact key a (by omega) (by simpa using hk2) (by simpa using hk1)
      | succ b => exact h3 (a + 2) (b + 2) (by omega) (by omega) (by omega) k (by simpa using hk1) (by simpa using hk2)
end sat
def eF (R : Nat → bJ) (n : Nat) : bJ where
  h F w := ∃ φ : Nat → Fp, (∀ i, i < n → (R i).h (φ i) w) ∧ (∀ i j, i < n → j < n → i ≠ j → Apart (φ i) (φ j)) ∧ ∀ k, F k ↔ ∃ i, i < n ∧ φ i k
  lt := fun ⟨_, h1, _, h3⟩ k hk => let ⟨i, hi, hk⟩ := (h3 k).1 hk; (R i).lt (h1 i hi) k hk
  st := fun ⟨φ, h1, h2, h3⟩ _ _ hk hn => ⟨φ, fun i hi => (R i).st (h1 i hi) hk (fun k hk => hn k ((h3 k).2 ⟨i, hi, hk⟩)), h2, h3⟩
def bJ.none : bJ where
  h F _ := ∀ k, ¬ F k
  lt := fun h k hk => absurd hk (h k)
  st := fun h _ _ _ _ => h
def gP (R : Nat → bJ) (k : Nat) (a : bJ) : Nat → bJ := fun i => if i = k then a else R i
section Dy
variable {β : Bs} {l l' : List HP} {w : World} {i n k : Nat} {R R' : Nat → bJ} {a : bJ}
theorem eF.nil (R : Nat → bJ) (w : World) : (HP.abs (eF R 0)).h (fun _ => False) w := ⟨fun _ _ => False, fun i hi => absurd hi (Nat.not_lt_zero i), fun i _ hi => absurd hi (Nat.not_lt_zero i), fun _ => ⟨fun h => h.elim, fun ⟨i, hi, _⟩ => absurd hi (Nat.not_lt_zero i)⟩⟩
theorem Sat.Dz (h : Sat β l w) (R : Nat → bJ) : Sat β (l ++ [.abs (eF R 0)]) w := Sat.new h (eF.nil R w) (Keeps.refl _ _) (fun _ h => h.elim)
theorem Sat.ol {j : Nat} {idx : List Nat} (h : Sat β l w) (hp : l[i]? = some (.abs (eF R n))) (hq : l[j]? = some (.abs a)) (hn : br (i :: j :: idx) = true) (hl : bI l idx = some l') (hR : ∀ x, x < n → R' x = R x) (ha : R' n = a) : Sat β (.abs (eF R' (n + 1)) :: l') w := by
  refine h.Gv hp hq hn hl ?_
  rintro F1 F2 ⟨φ, h1, h2, h3⟩ hF hap
  refine ⟨fun x => F1 x ∨ F2 x, ⟨fun i => if i = n then F2 else φ i, fun i hi => ?_, fun i j hi hj hne x hx hy => ?_, fun x => ⟨fun hx => ?_, fun ⟨i, hi, hx⟩ => ?_⟩⟩, fun x hx => hx⟩
  · by_cases e : i = n
    · subst e; simp only [if_true]; rw [ha]; exact hF
    · simp only [e, if_false]; rw [hR i (by omega)]; exact h1 i (by omega)
  · by_cases e1 : i = n
    · by_cases e2 : j = n
      · exact hne (e1.trans e2.symm)
      · simp only [e1, if_true] at hx
        simp only [e2, if_false] at hy
        exact hap x ((h3 x).2 ⟨j, by omega, hy⟩) hx
    · simp only [e1, if_false] at hx
      by_cases e2 : j = n
      · simp only [e2, if_true] at hy
        exact hap x ((h3 x).2 ⟨i, by omega, hx⟩) hy
      · simp only [e2, if_false] at hy
        exact h2 i j (by omega) (by omega) hne x hx hy
  · rcases hx with hx | hx
    · obtain ⟨i, hi, hx⟩ := (h3 x).1 hx
      exact ⟨i, by omega, by simpa [Nat.ne_of_lt hi] using hx⟩
    · exact ⟨n, Nat.lt_succ_self n, by simpa using hx⟩
  · by_cases e : i = n
    · exact .inr (by simpa [e] using hx)
    · exact .inl ((h3 x).2 ⟨i, by omega, by simpa [e] using hx⟩)
theorem eF.base {F : Fp} {β' : Bs} (h : (HP.abs (eF R n)).h F w) (h1 : ∀ k, F k → β'.O k) (_ : β'.w0 = w) {Φ : Nat → Bs → Prop} (vJ : ∀ i, i < n → ∀ F, (R i).h F w → (∀ k, F k → β'.O k) → Φ i β') : ∀ i, i < n → Φ i β' := by
  obtain ⟨φ, g1, _, g3⟩ := h
  exact fun i hi => vJ i hi (φ i) (g1 i hi) (fun k hk => h1 k ((g3 k).2 ⟨i, hi, hk⟩))
end Dy
section qW
variable {P : Program} {β : Bs} {N : Nat} {ops : Array Oper} {S : List HP} {l : List Nat} {fr : Fr} {hps : List HP} {Q : Post} {i : Nat}
end qW
end Go.Proofs.YtkiedlmhocglhaaGreat
end
section
namespace Go.Proofs.YtkiedlmhocglhaaGreat
open Go.RowKit
structure jM (β : Bs) (R : List HP) (β' : Bs) : Prop where
  le : β.le β'
  fp : ∃ φ : Nat → Fp, (∀ (i : Nat) (p : HP), R[i]? = some p → p.h (φ i) β'.w0 ∧ ∀ k, φ i k → β'.O k) ∧ (∀ i, i < R.length → ∀ k, φ i k → ¬ β.O k) ∧ (∀ i j, i < R.length → j < R.length → i ≠ j → Apart (φ i) (φ j)) ∧ ∀ k, β'.O k → β.O k ∨ ∃ i, i < R.length ∧ φ i k
section LP
variable {β β' ur : Bs} {l R : List HP} {w : World} {p : HP} {i : Nat}
theorem jM.get (h : jM β R β') (i : Nat) (hp : R[i]? = some p) : ∃ F, p.h F β'.w0 ∧ ∀ k, F k → β'.O k := by
  obtain ⟨φ, h1, _⟩ := h.fp
  exact ⟨φ i, h1 i p hp⟩
theorem Sat.turn {a b : List HP} (h : Sat β (a ++ b) w) : Sat β (b ++ a) w := by
  obtain ⟨ho, φ, h1, h2, h3⟩ := h
  have hl : (a ++ b).length = a.length + b.length := List.length_append
  have hl' : (b ++ a).length = b.length + a.length := List.length_append
  refine ⟨ho, fun i => if i < b.length then φ (a.length + i) else φ (i - b.length), fun i p hp => ?_, fun i hi k hk hO => ?_, fun i j hi hj hne k hk hk' => ?_⟩
  · have hi := bq hp
    by_cases e : i < b.length
    · simp only [e, if_true]
      rw [List.getElem?_append_left e] at hp
      exact h1 _ p (by rw [List.getElem?_append_right (by omega)]; simpa using hp)
    · simp only [e, if_false]
      rw [List.getElem?_append_right (by omega)] at hp
      exact h1 _ p (by rw [List.getElem?_append_left (by omega)]; exact hp)
  · by_cases e : i < b.length
    · simp only [e, if_true] at hk
      exact h2 _ (by omega) k hk hO
    · simp only [e, if_false] at hk
      exact h2 _ (by omega) k hk hO
  · by_cases e1 : i < b.length
    · simp only [e1, if_true] at hk
      by_cases e2 : j < b.length
      · simp only [e2, if_true] at hk'
        exact h3 _ _ (by omega) (by omega) (by omega) k hk hk'
      · simp only [e2, if_false] at hk'
        exact h3 _ _ (by omega) (by omega) (by omega) k hk hk'
    · simp only [e1, if_false] at hk
      by_cases e2 : j < b.length
      · simp only [e2, if_true] at hk'
        exact h3 _ _ (by omega) (by omega) (by omega) k hk hk'
      · simp only [e2, if_false] at hk'
        exact h3 _ _ (by omega) (by omega) (by omega) k hk hk'
theorem Sat.qg (h : Sat β (l ++ R) w) : ∃ β', jM β R β' ∧ β'.w0 = w ∧ Sat β' l w := by
  obtain ⟨ho, φ, h1, h2, h3⟩ := h
  have hl : (l ++ R).length = l.length + R.length := List.length_append
  have hR : ∀ (i : Nat) (p : HP), R[i]? = some p → p.h (φ (l.length + i)) w := fun i p hp => h1 _ p (by rw [List.getElem?_append_right (by omega)]; simpa using hp)
  refine ⟨⟨fun k => β.O k ∨ ∃ i, i < R.length ∧ φ (l.length + i) k, w⟩, ⟨⟨fun k hk => .inl hk, ho.os, ho.tape, ho.output, ho.size, fun k hk => ho.old k hk⟩, fun i => φ (l.length + i), fun i p hp => ⟨hR i p hp, fun k hk => .inr ⟨i, bq hp, hk⟩⟩, fun i hi => h2 _ (by omega), fun i j hi hj hne => h3 _ _ (by omega) (by omega) (by omega), fun k hk => hk⟩, rfl, ⟨rfl, rfl, rfl, Nat.le_refl _, fun k hk => ⟨?_, rfl⟩⟩, φ, fun i p hp => h1 i p (by rw [List.getElem?_append_left (bq hp)]; exact hp), fun i hi k hk hO => ?_, fun i j hi hj hne => h3 i j (by omega) (by omega) hne⟩
  · rcases hk with hk | ⟨i, hi, hk⟩
    · exact Nat.lt_of_lt_of_le (ho.old k hk).1 ho.size
    · obtain ⟨p, hp⟩ := gj hi
      exact HP.lt (hR i p hp) k hk
  · rcases hO with hO | ⟨j, hj, hO⟩
    · exact h2 i (by omega) k hk hO
    · exact h3 i (l.length + j) (by omega) (by omega) (by omega) k hk hO
theorem jM.back (h : jM β R β') (hS : Sat β' l w) : Sat β (l ++ R) w := by
  obtain ⟨hle, φ, g1, g2, g3, g4⟩ := h
  obtain ⟨ho, ψ, h1, h2, h3⟩ := hS
  have hl : (l ++ R).length = l.length + R.length := List.length_append
  have hin : ∀ i, i < R.length → ∀ k, φ i k → β'.O k := fun i hi k hk => by
    obtain ⟨p, hp⟩ := gj hi
    exact (g1 i p hp).2 k hk
  have hk : ∀ i, i < R.length → Keeps (fun k => ¬ φ i k) β'.w0 w := fun i hi => ⟨ho.os, ho.tape, ho.output, ho.size, fun k _ hn => (ho.old k (hin i hi k (Classical.not_not.1 hn))).2⟩
  refine ⟨ho.le hle, fun i => if i < l.length then ψ i else φ (i - l.length), fun i p hp => ?_, fun i hi k hk hO => ?_, fun i j hi hj hne k hk hk' => ?_⟩
  · by_cases e : i < l.length
    · rw [List.getElem?_append_left e] at hp
      simp only [e, if_true]
      exact h1 i p hp
    · rw [List.getElem?_append_right (by omega)] at hp
      simp only [e, if_false]
      exact HP.st (g1 _ p hp).1 (hk _ (bq hp)) (fun k h => fun h' => h' h)
  · by_cases e : i < l.length
    · simp only [e, if_true] at hk
      exact h2 i e k hk (hle.O k hO)
    · simp only [e, if_false] at hk
      exact g2 _ (by omega) k hk hO
  · by_cases e1 : i < l.length
    · simp only [e1, if_true] at hk
      by_cases e2 : j < l.length
      · simp only [e2, if_true] at hk'
        exact h3 i j e1 e2 hne k hk hk'
      · simp only [e2, if_false] at hk'
        exact h2 i e1 k hk (hin _ (by omega) k hk')
    · simp only [e1, if_false] at hk
      by_cases e2 : j < l.length
      · simp only [e2, if_true] at hk'
        exact h2 j e2 k hk' (hin _ (by omega) k hk)
      · simp only [e2, if_false] at hk'
        exact g3 _ _ (by omega) (by omega) (by omega) k hk hk'
end LP
section rules
variable {P : Program} {β β' ur : Bs} {N : Nat} {ops : Array Oper} {k : Nat} {fr : Fr} {hps l R : List HP} {Q : Post} {c : Code} {e : Exit} {pk : List Nat} {f : FuncId} {args : Array Value} {pre : List HP}
theorem ah.qg (R : List HP) (pk : List Nat) (hn : br pk = true) (hp : bI hps pk = some (l ++ R)) (K : ∀ β' : Bs, β.le β' → β'.le β' → jM β R β' → ah P β' N ops k fr l Q) : ah P β N ops k fr hps Q := fun junk w hS => by
  obtain ⟨β', h, _, cu⟩ := (hS.pick hn hp).qg
  exact K β' h.le cu.1.wP h junk w cu
theorem af.qg (R : List HP) (pk : List Nat) (hn : br pk = true) (hp : bI hps pk = some (l ++ R)) (K : ∀ β' : Bs, β.le β' → β'.le β' → jM β R β' → af P β' N c fr l Q) : af P β N c fr hps Q := fun junk w hS => by
  obtain ⟨β', h, _, cu⟩ := (hS.pick hn hp).qg
  exact K β' h.le cu.1.wP h junk w cu
theorem ah.back (h : jM β R β') (hle : β'.le ur) (K : ah P β N ops k fr (hps ++ R) Q) : ah P ur N ops k fr hps Q := fun junk w hS => K junk w (h.back (hS.kq hle))
theorem af.back (h : jM β R β') (hle : β'.le ur) (K : af P β N c fr (hps ++ R) Q) : af P ur N c fr hps Q := fun junk w hS => K junk w (h.back (hS.kq hle))
theorem aj.back (h : jM β R β') (hle : β'.le ur) (K : aj β N Q e fr (hps ++ R)) : aj ur N Q e fr hps := fun junk w hS => K junk w (h.back (hS.kq hle))
theorem Spec.base {post : Value → List HP → Prop} {Φ : Bs → Value → Prop} (h : Spec P β f args pre post) (vJ : ∀ v l, post v l → ∀ β', jM β l β' → Φ β' v) : iO P β f args pre (fun β' v l => l = [] ∧ Φ β' v) := by
  intro A w hS
  refine (h A w hS).mono ?_
  rintro e w' ⟨v, l, h1, h2, h3⟩
  obtain ⟨β', g1, _, g3⟩ := (Sat.turn h3).qg
  exact ⟨β', v, [], g1.le, h1, ⟨rfl, vJ v l h2 β' g1⟩, g3⟩
end rules
end Go.Proofs.YtkiedlmhocglhaaGreat
end
section
namespace Go.Proofs.YtkiedlmhocglhaaGreat
open Go.RowKit
def aq (R : Nat → bJ) : bJ where
  h F w := ∃ φ : Nat → Fp, (∀ i, (R i).h (φ i) w) ∧ (∀ i j, i ≠ j → Apart (φ i) (φ j)) ∧ ∀ k, F k ↔ ∃ i, φ i k
  lt := fun ⟨_, h1, _, h3⟩ k hk => let ⟨i, hk⟩ := (h3 k).1 hk; (R i).lt (h1 i) k hk
  st := fun ⟨φ, h1, h2, h3⟩ _ _ hk hn => ⟨φ, fun i => (R i).st (h1 i) hk (fun k hk => hn k ((h3 k).2 ⟨i, hk⟩)), h2, h3⟩
section Dy
variable {β : Bs} {l l' : List HP} {w : World} {i n k : Nat} {R R' : Nat → bJ} {a : bJ}
theorem aq.at (k : Nat) {F : Fp} {w : World} (h : (aq R).h F w) : ∃ G, (R k).h G w := by
  obtain ⟨φ, h1, _⟩ := h
  exact ⟨φ k, h1 k⟩
theorem Sat.Ce (h : Sat β l w) (R : Nat → bJ) (hR : ∀ k, R k = bJ.none) : Sat β (l ++ [.abs (aq R)]) w := Sat.new h (p := .abs (aq R)) (F := fun _ => False) ⟨fun _ _ => False, fun i => by rw [hR]; exact fun _ h => h, fun _ _ _ _ h => h.elim, fun _ => ⟨fun h => h.elim, fun ⟨_, h⟩ => h⟩⟩ (Keeps.refl _ _) (fun _ h => h.elim)
theorem Sat.zE (h : Sat β l w) (hp : l[i]? = some (.abs (aq R))) (k : Nat) : Sat β (l.set i (.abs (aq (gP R k bJ.none))) ++ [.abs (R k)]) w := by
  refine h.KA hp ?_
  rintro F ⟨φ, h1, h2, h3⟩
  refine ⟨fun x => ∃ i, i ≠ k ∧ φ i x, φ k, ⟨fun i => if i = k then fun _ => False else φ i, fun i => ?_, fun i j hne x hx hy => ?_, fun x => ⟨fun ⟨i, hne, hx⟩ => ⟨i, by simpa [hne] using hx⟩, fun ⟨i, hx⟩ => ?_⟩⟩, h1 k, fun x ⟨i, hne, hx⟩ hy => h2 i k hne x hx hy, fun x => ⟨fun hx => ?_, fun hx => ?_⟩⟩
  · unfold gP
    by_cases e : i = k
    · simp only [e, if_true]; exact fun _ h => h
    · simp only [e, if_false]; exact h1 i
  · by_cases e1 : i = k
    · simp [e1] at hx
    · by_cases e2 : j = k
      · simp [e2] at hy
      · exact h2 i j hne x (by simpa [e1] using hx) (by simpa [e2] using hy)
  · by_cases e1 : i = k
    · simp [e1] at hx
    · exact ⟨i, e1, by simpa [e1] using hx⟩
  · obtain ⟨i, hx⟩ := (h3 x).1 hx
    by_cases e : i = k
    · exact .inr (e ▸ hx)
    · exact .inl ⟨i, e, hx⟩
  · rcases hx with ⟨i, _, hx⟩ | hx
    · exact (h3 x).2 ⟨i, hx⟩
    · exact (h3 x).2 ⟨k, hx⟩
theorem Sat.nV {j : Nat} {idx : List Nat} {q : HP} (h : Sat β l w) (hp : l[i]? = some (.abs (aq R))) (hq : l[j]? = some q) (MB : ∀ F w, q.h F w → a.h F w) (hn : br (i :: j :: idx) = true) (hl : bI l idx = some l') (k : Nat) (hR : ∀ x, x ≠ k → R' x = R x) (ha : R' k = a) : Sat β (.abs (aq R') :: l') w := by
  refine h.Gv hp hq hn hl ?_
  rintro F1 F2 ⟨φ, h1, h2, h3⟩ hF hap
  refine ⟨fun x => (∃ i, i ≠ k ∧ φ i x) ∨ F2 x, ⟨fun i => if i = k then F2 else φ i, fun i => ?_, fun i j hne x hx hy => ?_, fun x => ⟨fun hx => ?_, fun ⟨i, hx⟩ => ?_⟩⟩, fun x hx => hx.imp (fun ⟨i, _, hx⟩ => (h3 x).2 ⟨i, hx⟩) id⟩
  · by_cases e : i = k
    · subst e; simp only [if_true]; rw [ha]; exact MB _ _ hF
    · simp only [e, if_false]; rw [hR i e]; exact h1 i
  · by_cases e1 : i = k
    · by_cases e2 : j = k
      · exact hne (e1.trans e2.symm)
      · simp only [e1, if_true] at hx
        simp only [e2, if_false] at hy
        exact hap x ((h3 x).2 ⟨j, hy⟩) hx
    · simp only [e1, if_false] at hx
      by_cases e2 : j = k
      · simp only [e2, if_true] at hy
        exact hap x ((h3 x).2 ⟨i, hx⟩) hy
      · simp only [e2, if_false] at hy
        exact h2 i j hne x hx hy
  · rcases hx with ⟨i, hne, hx⟩ | hx
    · exact ⟨i, by simpa [hne] using hx⟩
    · exact ⟨k, by simpa using hx⟩
  · by_cases e : i = k
    · exact .inr (by simpa [e] using hx)
    · exact .inl ⟨i, e, by simpa [e] using hx⟩
end Dy
end Go.Proofs.YtkiedlmhocglhaaGreat
end
section
namespace Go.Proofs.YtkiedlmhocglhaaGreat
open Go.RowKit Go.Maps
theorem uU : Keyed Tryz.prog 9 := string_keyed Tryz.underlying9
theorem wW {p : ByteArray} (h : p.size ≤ 9223372036854775807) : keyOf Tryz.prog 9 (.string p) = some (.string p.data.toList) := WideMaps.keyOf_string_mk Tryz.underlying9 (by unfold maxLen; omega)
def mS (g : ByteArray → Option Value) : Lit → Option Value
  | .string l => g ⟨l.toArray⟩
  | _ => none
theorem KC (g : ByteArray → Option Value) (p : ByteArray) : mS g (.string p.data.toList) = g p := by
  show g ⟨p.data.toList.toArray⟩ = g p
  rw [Array.toArray_toList]
theorem DA (g : ByteArray → Option Value) (p : ByteArray) (v : Option Value) : jl (mS g) (.string p.data.toList) v = mS (fun q => if q = p then v else g q) := by
  funext x
  unfold jl mS
  cases x with
  | string l =>
    by_cases e : l = p.data.toList
    · subst e
      have e2 : (⟨p.data.toList.toArray⟩ : ByteArray) = p := by rw [Array.toArray_toList]
      simp [Lit.sameKey]
    · have e2 : ¬ (⟨l.toArray⟩ : ByteArray) = p := fun h => e (by rw [← h])
      simp [Lit.sameKey, e, e2]
  | _ => rfl
theorem Hv : mS (fun _ => none) = fun _ => none := by
  funext x
  unfold mS
  split <;> rfl
end Go.Proofs.YtkiedlmhocglhaaGreat
end
section
namespace Go.Proofs.YtkiedlmhocglhaaGreat
open Go.RowKit Go.Maps
def uV (b : Nat) (cs : List Value) (T : TypeId) : bJ where
  h F w := (HP.blk b cs T).h F w
  lt := fun h => HP.lt h
  st := fun h _ _ hk hd => HP.st h hk hd
structure HL where
  b : Nat → Nat
  m : Nat → Nat
  dA : Nat → Option Addr
  dC : Nat → Nat
def HL.data (L : HL) (k : Nat) (A : Option Addr) (c : Nat) : HL := ⟨L.b, L.m, fun i => if i = k then A else L.dA i, fun i => if i = k then c else L.dC i⟩
def HL.put (L : HL) (k b m : Nat) (A : Option Addr) (c : Nat) : HL := ⟨fun i => if i = k then b else L.b i, fun i => if i = k then m else L.m i, fun i => if i = k then A else L.dA i, fun i => if i = k then c else L.dC i⟩
def Lb (kind : Int) : TypeId := if kind = 1 then 92 else if kind = 3 then 95 else 98
def kg (kind : Int) : TypeId := if kind = 1 then 94 else if kind = 3 then 97 else 101
def cM (L : HL) (t : Th) : Value := .iface (Lb t.kind) (.pointer (some ⟨L.b t.k, 0, none⟩))
def pP (L : HL) : Option Nat → Value
  | none => .pointer none
  | some d => .pointer (some ⟨L.b d, 0, none⟩)
def tT (o : aM) : List Value := [.int .i64 o.id, .int .i64 o.mode, .int .i64 o.uid, .int .i64 o.gid, .int .i64 o.sec, .int .i64 o.nano, .int .i64 o.links, .int .i64 o.opens, .bool o.gone]
def tU (L : HL) (k : Nat) (o : aM) : List Value := if o.kind = 1 then [.slice (L.dA k) o.data.length (L.dC k)] else if o.kind = 3 then [.string o.target] else [.map (some (L.m k)), pP L o.up]
def d8 (L : HL) (k : Nat) (o : aM) : List Value := tT o ++ tU L k o
def fB (L : HL) (es : dD Th) : Lit → Option Value := mS (fun p => (aT p es).map (cM L))
def aS (O : bM) (L : HL) (k : Nat) : bJ := if (obj O k).kind = 0 then bJ.none else uV (L.b k) (d8 L k (obj O k)) (kg (obj O k).kind)
def aY (O : bM) (L : HL) (k : Nat) : bJ := if (obj O k).kind = 1 then aF 5 1 (L.dA k) (obj O k).data.length (L.dC k) (bD (obj O k).data) else bJ.none
def bw (O : bM) (L : HL) (k : Nat) : bJ := if (obj O k).kind = 2 then aC Tryz.prog 9 (L.m k) (fB L (obj O k).ai) (obj O k).ai.length else bJ.none
section sat
variable {β : Bs} {l : List HP} {w : World} {i b : Nat} {cs : List Value} {T : TypeId} {p p' : HP}
theorem Sat.same (h : Sat β l w) (hp : l[i]? = some p) (e : ∀ F w, p.h F w → p'.h F w) : Sat β (l.set i p') w := by
  obtain ⟨ho, φ, h1, h2, h3⟩ := h
  have hl : (l.set i p').length = l.length := List.length_set ..
  refine ⟨ho, φ, fun j q hq => ?_, fun j hj => h2 j (by omega), fun j k hj hk => h3 j k (by omega) (by omega)⟩
  by_cases hji : i = j
  · subst hji
    rw [List.getElem?_set_self (bq hp)] at hq
    cases hq
    exact e _ _ (h1 _ p hp)
  · rw [List.getElem?_set_ne hji] at hq
    exact h1 j q hq
end sat
section cells
variable {O : bM} {L : HL} {k j : Nat} {v : Value}
theorem je (h : (obj O k).kind ≠ 0) : aS O L k = uV (L.b k) (d8 L k (obj O k)) (kg (obj O k).kind) := if_neg h
theorem bg (hk : (obj O k).kind ≠ 0) (hv : (d8 L k (obj O k))[j]? = some v) : ∀ F w, (aq (aS O L)).h F w → w.cell? ⟨L.b k, j, none⟩ = some v := by
  intro F w h
  obtain ⟨G, g⟩ := aq.at k h
  rw [je hk] at g
  obtain ⟨g, _⟩ := g
  exact (eD g rfl rfl hv).1
theorem oI (h : (obj O k).kind = 1) : aY O L k = aF 5 1 (L.dA k) (obj O k).data.length (L.dC k) (bD (obj O k).data) := if_pos h
theorem kY (h : (obj O k).kind = 2) : bw O L k = aC Tryz.prog 9 (L.m k) (fB L (obj O k).ai) (obj O k).ai.length := if_pos h
theorem om (es : dD Th) (p : ByteArray) : fB L es (.string p.data.toList) = (aT p es).map (cM L) := KC _ _
theorem E5 {es : dD Th} {p : ByteArray} {t : Th} (hn : aT p es = none) : jl (fB L es) (.string p.data.toList) (some (cM L t)) = fB L (dN p t es) := by
  unfold fB
  rw [DA]
  congr 1
  funext q
  rw [r9 hn]
  by_cases h : q = p
  · rw [if_pos h, if_pos h]; rfl
  · rw [if_neg h, if_neg h]
theorem E6 {es : dD Th} {p : ByteArray} : jl (fB L es) (.string p.data.toList) none = fB L (dW p es) := by
  unfold fB
  rw [DA]
  congr 1
  funext q
  rw [mY]
  by_cases h : q = p
  · rw [if_pos h, if_pos h]; rfl
  · rw [if_neg h, if_neg h]
theorem E7 : fB L [] = fun _ => none := Hv
end cells
section Dy
variable {O : bM} {L : HL} {k : Nat} {f : aM → aM}
theorem qx : aS (aB O k f) L k = if (f (obj O k)).kind = 0 then bJ.none else uV (L.b k) (d8 L k (f (obj O k))) (kg (f (obj O k)).kind) := by
  unfold aS; rw [bA]
theorem qy {x : Nat} (h : x ≠ k) : aS (aB O k f) L x = aS O L x := by unfold aS; rw [bP h]
theorem jZ (h : (f (obj O k)).data = (obj O k).data) (h2 : (f (obj O k)).kind = (obj O k).kind) : aY (aB O k f) L = aY O L := by
  funext x
  unfold aY
  by_cases e : x = k
  · subst e; rw [bA, h, h2]
  · rw [bP e]
theorem j3 (h : (f (obj O k)).ai = (obj O k).ai) (h2 : (f (obj O k)).kind = (obj O k).kind) : bw (aB O k f) L = bw O L := by
  funext x
  unfold bw
  by_cases e : x = k
  · subst e; rw [bA, h, h2]
  · rw [bP e]
theorem sA {x : Nat} (h : x ≠ k) : bw (aB O k f) L x = bw O L x := by unfold bw; rw [bP h]
theorem sB {x : Nat} (h : x ≠ k) : aY (aB O k f) L x = aY O L x := by unfold aY; rw [bP h]
end Dy
end Go.Proofs.YtkiedlmhocglhaaGreat
end
section
namespace Go.Proofs.YtkiedlmhocglhaaGreat
open Go.RowKit Go.Maps
section kinds
variable {O : bM} {L : HL} {k j : Nat} {f : aM → aM} {o : aM}
theorem gE (hf : ∀ o, (f o).kind = o.kind) : (obj (aB O j f) k).kind = (obj O k).kind := by
  rw [iz]; split
  · exact hf _
  · rfl
theorem cI {α : Type} {g : aM → α} (hf : ∀ o, g (f o) = g o) : g (obj (aB O j f) k) = g (obj O k) := by
  rw [iz]; split
  · exact hf _
  · rfl
theorem ef (h : o.kind = 1) : d8 L k o = [.int .i64 o.id, .int .i64 o.mode, .int .i64 o.uid, .int .i64 o.gid, .int .i64 o.sec, .int .i64 o.nano, .int .i64 o.links, .int .i64 o.opens, .bool o.gone, .slice (L.dA k) o.data.length (L.dC k)] := by
  unfold d8 tU; rw [if_pos h]; rfl
theorem sC (h : o.kind = 3) : d8 L k o = [.int .i64 o.id, .int .i64 o.mode, .int .i64 o.uid, .int .i64 o.gid, .int .i64 o.sec, .int .i64 o.nano, .int .i64 o.links, .int .i64 o.opens, .bool o.gone, .string o.target] := by
  unfold d8 tU; rw [if_neg (by rw [h]; decide), if_pos h]; rfl
theorem fW (h : o.kind = 2) : d8 L k o = [.int .i64 o.id, .int .i64 o.mode, .int .i64 o.uid, .int .i64 o.gid, .int .i64 o.sec, .int .i64 o.nano, .int .i64 o.links, .int .i64 o.opens, .bool o.gone, .map (some (L.m k)), pP L o.up] := by
  unfold d8 tU; rw [if_neg (by rw [h]; decide), if_neg (by rw [h]; decide)]; rfl
theorem zF {es : aM → dD Th} : aS (aB O k (fun o => { o with ai := es o })) L = aS O L := by
  funext x
  unfold aS
  by_cases e : x = k
  · subst e; rw [bA]; rfl
  · rw [bP e]
def lK (O : bM) (d : Nat) (name : ByteArray) (t : Th) : bM :=
  let O1 := aB O d (fun o => { o with ai := dN name t o.ai })
  let O2 := aB O1 t.k (fun o => { o with links := o.links + 1 })
  if t.kind = 2 then aB O2 t.k (fun o => { o with up := some d }) else O2
theorem uW {α : Type} {g : aM → α} {d : Nat} {name : ByteArray} {t : Th} (h1 : ∀ o es, g { o with ai := es } = g o) (h2 : ∀ o l, g { o with links := l } = g o) (h3 : ∀ o u, g { o with up := u } = g o) : g (obj (lK O d name t) k) = g (obj O k) := by
  unfold lK
  simp only
  split
  · rw [cI (fun o => h3 o _), cI (fun o => h2 o _), cI (fun o => h1 o _)]
  · rw [cI (fun o => h2 o _), cI (fun o => h1 o _)]
theorem sD {d : Nat} {name : ByteArray} {t : Th} : (obj (lK O d name t) k).kind = (obj O k).kind := uW (g := aM.kind) (fun _ _ => rfl) (fun _ _ => rfl) (fun _ _ => rfl)
structure FM where
  cN : Int
  cB : Int
  cH : Int
  cS : Int
  cZ : Int
  last : Int
  ai : Int
  used : Int
def ng (X : FM) (O : bM) (d : Nat) : bM := aB O d (fun o => { o with sec := X.cS, nano := X.cZ })
def bh (X : FM) (O : bM) (d : Nat) (name : ByteArray) (t : Th) : bM := ng X (lK O d name t) d
def aG (X : FM) (O : bM) (d : Nat) (name : ByteArray) (t : Th) : bM := aB (ng X (aB O d (fun o => { o with ai := dW name o.ai })) d) t.k (fun o => { o with links := o.links - 1 })
theorem bS {X : FM} {d : Nat} {name : ByteArray} {t : Th} : (obj (aG X O d name t) k).kind = (obj O k).kind := by
  unfold aG ng
  exact (gE (f := fun o => { o with links := o.links - 1 }) (fun _ => rfl)).trans ((gE (f := fun o => { o with sec := X.cS, nano := X.cZ }) (fun _ => rfl)).trans (gE (f := fun o => { o with ai := dW name o.ai }) (fun _ => rfl)))
theorem AV {X : FM} {d : Nat} {name : ByteArray} {t : Th} : (obj (bh X O d name t) k).kind = (obj O k).kind := by
  unfold bh ng
  exact (gE (f := fun o => { o with sec := X.cS, nano := X.cZ }) (fun _ => rfl)).trans sD
end kinds
section sat
variable {β : Bs} {l l' : List HP} {w : World} {i j k : Nat} {O : bM} {L : HL} {f : aM → aM} {cs : List Value} {T : TypeId} {idx : List Nat}
theorem Sat.sE (h : Sat β l w) (hp : l[i]? = some (.abs (aq (aS O L)))) (h0 : (obj O k).kind ≠ 0) (hc : d8 L k (obj O k) = cs) (hT : kg (obj O k).kind = T) : Sat β (l.set i (.abs (aq (gP (aS O L) k bJ.none))) ++ [.blk (L.b k) cs T]) w := by
  have h1 := h.zE hp k
  have hlen : (l.set i (HP.abs (aq (gP (aS O L) k bJ.none)))).length = l.length := List.length_set ..
  have h2 := Sat.same (i := l.length) (p := .abs (aS O L k)) (p' := .blk (L.b k) cs T) h1 (by rw [List.getElem?_append_right (by omega), hlen, Nat.sub_self]; rfl) (fun F w h => by
    have h3 : (aS O L k).h F w := h
    rw [je h0] at h3
    have h3 : (uV (L.b k) (d8 L k (obj O k)) (kg (obj O k).kind)).h F w := h3
    rw [hc, hT] at h3
    exact h3)
  have e : ∀ (a : List HP) (x y : HP), (a ++ [x]).set a.length y = a ++ [y] := fun a x y => by simp
  have h4 := e (l.set i (HP.abs (aq (gP (aS O L) k bJ.none)))) (.abs (aS O L k)) (.blk (L.b k) cs T)
  rw [hlen] at h4
  rw [h4] at h2
  exact h2
theorem Sat.tV {R : Nat → bJ} (h : Sat β l w) (hp : l[i]? = some (.abs (aq R))) (hR : ∀ x, x ≠ k → R x = aS O L x) (hq : l[j]? = some (.blk (L.b k) cs T)) (hd : br (i :: j :: idx) = true) (hl : bI l idx = some l') (h0 : (f (obj O k)).kind ≠ 0) (hc : d8 L k (f (obj O k)) = cs) (hT : kg (f (obj O k)).kind = T) : Sat β (.abs (aq (aS (aB O k f) L)) :: l') w := by
  refine h.nV (a := uV (L.b k) cs T) hp hq (fun _ _ h => h) hd hl k (fun x hx => ?_) (by rw [qx, if_neg h0, hc, hT])
  rw [qy hx, hR x hx]
theorem kZ {R : Nat → bJ} {a : bJ} {x : Nat} (h : x ≠ k) : gP R k a x = R x := if_neg h
theorem Sat.I4 (h : Sat β l w) (hp : l[i]? = some (.abs (aq (bw O L)))) (hd : (obj O k).kind = 2) : Sat β (l.set i (.abs (aq (gP (bw O L) k bJ.none))) ++ [.abs (aC Tryz.prog 9 (L.m k) (fB L (obj O k).ai) (obj O k).ai.length)]) w := by
  have h1 := h.zE hp k
  rw [kY hd] at h1
  exact h1
theorem Sat.I5 (h : Sat β l w) (hp : l[i]? = some (.abs (aq (gP (bw O L) k bJ.none)))) (hq : l[j]? = some (.abs (aC Tryz.prog 9 (L.m k) (fB L (obj O k).ai) (obj O k).ai.length))) (hd : br (i :: j :: idx) = true) (hl : bI l idx = some l') (h2 : (obj O k).kind = 2) : Sat β (.abs (aq (bw O L)) :: l') w :=
  h.nV hp hq (fun _ _ h => h) hd hl k (fun _ hx => (kZ hx).symm) (kY h2)
theorem Sat.DB (h : Sat β l w) (hp : l[i]? = some (.abs (aq (aY O L)))) (hd : (obj O k).kind = 1) : Sat β (l.set i (.abs (aq (gP (aY O L) k bJ.none))) ++ [.abs (aF 5 1 (L.dA k) (obj O k).data.length (L.dC k) (bD (obj O k).data))]) w := by
  have h1 := h.zE hp k
  rw [oI hd] at h1
  exact h1
end sat
end Go.Proofs.YtkiedlmhocglhaaGreat
end
section
namespace Go.Proofs.YtkiedlmhocglhaaGreat
open Go.RowKit
structure OP where
  h : OH
  ps : List Prop
  pf : fV ps
def n_ : OP := ⟨o_, [], trivial⟩
def a_ (i b : Nat) : OP := ⟨⟨[.at i], none, none, none, none⟩, [b = b], rfl, trivial⟩
def v_ {A : bJ} {a : Addr} {v : Value} (i : Nat) (h : ∀ F w, A.h F w → w.cell? a = some v) : OP := ⟨⟨[.view i v], none, none, none, none⟩, [∀ F w, A.h F w → w.cell? a = some v], h, trivial⟩
def Cg {α : Type} (x : α) : Nat → List α
  | 0 => []
  | n + 1 => x :: Cg x n
theorem I6 {p : Prop} (h : p) : ∀ n, fV (Cg p n)
  | 0 => trivial
  | n + 1 => ⟨h, I6 h n⟩
def A_ (i b n : Nat) : OP := ⟨⟨Cg (.at i) n, none, none, none, none⟩, Cg (b = b) n, I6 rfl n⟩
def p_ (h : OH) (ps : List Prop) (pf : fV ps) : OP := ⟨h, ps, pf⟩
def iA : Nat → List (Nat × OP) → Nat → List OP
  | 0, _, _ => []
  | n + 1, l, i => (match l with
    | (j, p) :: r => match Nat.beq i j with
      | true => p :: iA n r (i + 1)
      | false => n_ :: iA n l (i + 1)
    | [] => n_ :: iA n [] (i + 1))
def owed : List OP → List Prop
  | [] => []
  | p :: r => owed r ++ p.ps
def lM : List OP → List OH
  | [] => []
  | p :: r => p.h :: lM r
theorem fV.app : ∀ {l r : List Prop}, fV l → fV r → fV (l ++ r)
  | [], _, _, h => h
  | _ :: _, _, h, g => ⟨h.1, fV.app h.2 g⟩
theorem uX : ∀ l : List OP, fV (owed l)
  | [] => trivial
  | p :: r => (uX r).app p.pf
def cR : Fr → List Nat
  | [] => []
  | p :: r => p.1 :: cR r
def ld (t : Nat) : List Nat → Bool
  | [] => false
  | i :: r => match Nat.beq i t with
    | true => true
    | false => ld t r
def rL (ops : Array Oper) : Nat → Nat → List Nat → List Nat → Bool
  | 0, _, _, _ => true
  | n + 1, k, add, fr => (match ops.toList[k]? with
    | some o => match o.dst with
      | some d => match ld d add with
        | true => true
        | false => !ld d fr
      | none => true
    | none => true) && rL ops n (k + 1) add fr
section fr
variable {P : Program} {β : Bs} {N : Nat} {ops : Array Oper} {fr fr' add : Fr} {junk : Nat → Value} {t : Nat} {v : Value}
theorem qz : ∀ {l : List Nat}, ld t l = true ↔ t ∈ l
  | [] => by simp [ld]
  | i :: r => by
    unfold ld
    by_cases h : i = t
    · subst h; simp [Nat.beq_refl]
    · have : Nat.beq i t = false := by
        cases hb : Nat.beq i t
        · rfl
        · exact absurd (Nat.eq_of_beq_eq_true hb) h
      rw [this, List.mem_cons, qz (l := r)]
      exact ⟨.inr, fun e => e.elim (fun e => absurd e.symm h) id⟩
theorem DC : ∀ {fr : Fr}, t ∉ cR fr → lk fr junk t = junk t
  | [], _ => rfl
  | p :: r, h => by
    rw [show p :: r = (p.1, p.2) :: r from rfl, jq, if_neg (fun e => h (by rw [← e]; exact List.mem_cons_self)), DC (fun e => h (List.mem_cons_of_mem _ e))]
theorem DE : ∀ {add fr : Fr}, lk (add ++ fr) junk t = if t ∈ cR add then lk add junk t else lk fr junk t
  | [], fr => by simp [cR]
  | (i, v) :: r, fr => by
    have e : cR ((i, v) :: r) = i :: cR r := rfl
    rw [List.cons_append, jq, jq, DE (add := r), e]
    by_cases h : i = t
    · rw [if_pos h, if_pos h, if_pos (by rw [h]; exact List.mem_cons_self)]
    · rw [if_neg h, if_neg h]
      by_cases h2 : t ∈ cR r
      · rw [if_pos h2, if_pos (List.mem_cons_of_mem _ h2)]
      · rw [if_neg h2, if_neg (fun e => by rcases List.mem_cons.1 e with e | e; exact h e.symm; exact h2 e)]
theorem Gw : ∀ {fr : Fr} {j j' : Nat → Value}, t ∈ cR fr → lk fr j t = lk fr j' t
  | p :: r, j, j', h => by
    rw [show p :: r = (p.1, p.2) :: r from rfl, jq, jq]
    by_cases e : p.1 = t
    · rw [if_pos e, if_pos e]
    · rw [if_neg e, if_neg e]
      rcases List.mem_cons.1 h with h | h
      · exact absurd h.symm e
      · exact Gw h
theorem vS : ∀ (idx : List Nat), cR (gY fr junk idx) = idx
  | [] => rfl
  | i :: r => congrArg (i :: ·) (vS r)
theorem qY {n : Nat} {ro : Bool} {add : List Nat} {I7 : List Nat} : ∀ {hs : List OH} {k k' : Nat} {fr fr' : Fr} {S S' : SS}, gZ P β n ro N junk ops hs k fr S = some (k', fr', S') → rL ops hs.length k add I7 = true → t ∈ I7 → t ∉ add → lk fr' junk t = lk fr junk t
  | [], k, k', fr, fr', S, S', h, _, _, _ => by cases h; rfl
  | h :: hs, k, k', fr, fr', S, S', hr, hb, h0, ha => by
    unfold gZ at hr
    have hb : rL ops (hs.length + 1) k add I7 = true := hb
    unfold rL at hb
    rw [Bool.and_eq_true] at hb
    split at hr
    · cases hr
    rename_i o hget
    have key : ∀ v, lk (cA fr o.dst v) junk t = lk fr junk t := fun v => by
      cases hd : o.dst with
      | none => rfl
      | some d =>
        show lk ((d, v) :: fr) junk t = _
        rw [jq, if_neg]
        intro e
        subst e
        have h1 := hb.1
        rw [hget] at h1
        simp only [hd] at h1
        cases h2 : ld d add with
        | true => exact ha (qz.1 h2)
        | false =>
          rw [h2] at h1
          rw [qz.2 h0] at h1
          cases h1
    split at hr
    · split at hr
      · exact (qY hr hb.2 h0 ha).trans (key _)
      · cases hr
    · exact (qY hr hb.2 h0 ha).trans (key _)
theorem zG {idx : List Nat} {n : Nat} {ro : Bool} {hs : List OH} {k k' : Nat} {iI : Fr} {S S' : SS} (h : gZ P β n ro N junk ops hs k fr S = some (k', iI, S')) (hb : rL ops hs.length k idx (cR fr) = true) : cF N iI junk = cF N (gY iI junk idx ++ fr) (lk iI junk) := by
  unfold cF
  have : (List.range N).map (lk iI junk) = (List.range N).map (lk (gY iI junk idx ++ fr) (lk iI junk)) := List.map_congr_left (fun t _ => by
    rw [DE, vS]
    by_cases h1 : t ∈ idx
    · rw [if_pos h1, uK]
    · rw [if_neg h1]
      by_cases h2 : t ∈ cR fr
      · rw [Gw (j' := junk) h2, qY h hb h2 h1]
      · rw [DC h2])
  rw [this]
end fr
theorem oJ : ∀ {n i : Nat} {l : List (Nat × OP)}, (lM (iA n l i)).length = n
  | 0, _, _ => rfl
  | n + 1, i, l => by
    unfold iA
    split
    · split
      · exact congrArg (· + 1) (oJ (n := n))
      · exact congrArg (· + 1) (oJ (n := n))
    · exact congrArg (· + 1) (oJ (n := n))
def j4 (l : List HP) : List (Nat × HP) → List HP
  | [] => l
  | (i, p) :: r => j4 (l.set i p) r
def I8 : List Value → List (Nat × Value) → List Value
  | cs, [] => cs
  | cs, (j, u) :: r => I8 (cs.set j u) r
def LQ (ds : List (Nat × Value)) : HP → HP
  | .blk b cs T => .blk b (I8 cs ds) T
  | p => p
def I9 (ds : List (Nat × Value)) : List HP → Nat → List HP
  | [], _ => []
  | p :: r, 0 => LQ ds p :: r
  | p :: r, i + 1 => p :: I9 ds r i
def j5 : List HP → List (Nat × List (Nat × Value)) → List HP
  | l, [] => l
  | l, (i, ds) :: r => j5 (I9 ds l i) r
def yw : Nat → Nat → List Nat
  | 0, _ => []
  | n + 1, i => i :: yw n (i + 1)
section rules
variable {P : Program} {β : Bs} {N : Nat} {ops : Array Oper} {k : Nat} {fr : Fr} {hps : List HP} {Q : Post}
theorem gW (n : Nat) (add : Nat → Fr) (l : Nat → List (Nat × OP)) (aK : Nat → List HP) (K : ∀ b, ah P β N ops (k + n) (add b ++ fr) (aK b) Q)
    (h : ∀ b junk, ia P β b false N junk ops (lM (iA n (l b) 0)) k fr hps (cR (add b)) (yw (aK b).length 0) = some (k + n, add b, aK b, owed (iA n (l b) 0)))
    (hb : ∀ b, rL ops n k (cR (add b)) (cR fr) = true) : ah P β N ops k fr hps Q := by
  intro junk w hS
  obtain ⟨iI, S, h1, h2, h3, h4, h5⟩ := oz (h w.heap.size junk)
  refine mQ h1 (fun p hp => (uX (iA n (l w.heap.size) 0)).mem (h5 ▸ hp)) hS (fun _ => rfl) (fun w' cu => ?_)
  have hk := K w.heap.size (lk iI junk) w' (cu.pick h2 h3)
  rw [h4, ← zG h1 (by rw [oJ]; exact hb _)] at hk
  exact hk
theorem gN (n : Nat) (add : Nat → Fr) (l : Nat → List (Nat × OP)) (ds : Nat → List (Nat × List (Nat × Value))) (new : Nat → HP) (K : ∀ b, ah P β N ops (k + n) (add b ++ fr) (j5 hps (ds b) ++ [new b]) Q)
    (h : ∀ b junk, ia P β b false N junk ops (lM (iA n (l b) 0)) k fr hps (cR (add b)) (yw (j5 hps (ds b) ++ [new b]).length 0) = some (k + n, add b, j5 hps (ds b) ++ [new b], owed (iA n (l b) 0)) := by intro _ _; kernel_rfl)
    (hb : ∀ b, rL ops n k (cR (add b)) (cR fr) = true := by intro _; kernel_rfl) : ah P β N ops k fr hps Q := gW n add l _ K h hb
theorem gC (n : Nat) (add : Fr) (l : List (Nat × OP)) (ds : List (Nat × List (Nat × Value))) (K : ah P β N ops (k + n) (add ++ fr) (j5 hps ds) Q)
    (h : ∀ b junk, ia P β b false N junk ops (lM (iA n l 0)) k fr hps (cR add) (yw (j5 hps ds).length 0) = some (k + n, add, j5 hps ds, owed (iA n l 0)) := by intro _ _; kernel_rfl)
    (hb : rL ops n k (cR add) (cR fr) = true := by kernel_rfl) : ah P β N ops k fr hps Q :=
  gW n (fun _ => add) (fun _ => l) (fun _ => j5 hps ds) (fun _ => K) h (fun _ => hb)
theorem gK (n : Nat) (add : Fr) (l : List (Nat × OP)) (K : ah P β N ops (k + n) (add ++ fr) hps Q)
    (h : ∀ b junk, ia P β b false N junk ops (lM (iA n l 0)) k fr hps (cR add) (yw hps.length 0) = some (k + n, add, hps, owed (iA n l 0)) := by intro _ _; kernel_rfl)
    (hb : rL ops n k (cR add) (cR fr) = true := by kernel_rfl) : ah P β N ops k fr hps Q := gW n (fun _ => add) (fun _ => l) (fun _ => hps) (fun _ => K) h (fun _ => hb)
theorem gQ (n : Nat) (add : Fr) (l : List (Nat × OP)) (K : aI P β N ops (k + n) (add ++ fr) hps Q)
    (h : ∀ b junk, ia P β b true N junk ops (lM (iA n l 0)) k fr hps (cR add) (yw hps.length 0) = some (k + n, add, hps, owed (iA n l 0)) := by intro _ _; kernel_rfl)
    (hb : rL ops n k (cR add) (cR fr) = true := by kernel_rfl) : aI P β N ops k fr hps Q := by
  intro junk
  obtain ⟨iI, S, h1, h2, h3, h4, h5⟩ := oz (h 0 junk)
  refine mR h1 (fun p hp => (uX (iA n l 0)).mem (h5 ▸ hp)) rfl (fun _ => ?_)
  have hk := K (lk iI junk)
  rw [h4, ← zG h1 (by rw [oJ]; exact hb)] at hk
  exact hk
theorem NL (K : aj β N Q .normal fr hps) (h : ops.toList.drop k = [] := by kernel_rfl) : ah P β N ops k fr hps Q := ah.nil h K
theorem NQ (K : aj β N Q .normal fr hps) (h : ops.toList.drop k = [] := by kernel_rfl) : aI P β N ops k fr hps Q := aI.nil h K
variable {c x y z : Code} {o : Operand} {id id' : Nat} {ops' : Array Oper} {e : Exit}
theorem SR {f : Bool} (h : ah P β N ops' 0 fr hps (Exit.then (y.wp P Q) Q)) (hf : f = false := by rfl) : af P β N (.seq (.region id ops' f) y) fr hps Q := by
  subst hf; exact af.seq (af.region h)
theorem NX (h : af P β N y fr hps Q) : aj β N (Exit.then (y.wp P Q) Q) .normal fr hps := aj.next h
theorem NN (K : af P β N y fr hps Q) (h : ops.toList.drop k = [] := by kernel_rfl) : ah P β N ops k fr hps (Exit.then (y.wp P Q) Q) := NL (NX K) h
theorem NS {f : Bool} (K : ah P β N ops' 0 fr hps (Exit.then (y.wp P Q) Q)) (h : ops.toList.drop k = [] := by kernel_rfl) (hf : f = false := by rfl) : ah P β N ops k fr hps (Exit.then ((Code.seq (.region id ops' f) y).wp P Q) Q) := NN (SR K hf) h
theorem CT (ht : af P β N x fr hps Q) (h : ∀ junk, bZ N fr junk o = .bool true := by intro _; kernel_rfl) : af P β N (.cond o x y) fr hps Q := af.fK h ht
theorem CF (hf : af P β N y fr hps Q) (h : ∀ junk, bZ N fr junk o = .bool false := by intro _; kernel_rfl) : af P β N (.cond o x y) fr hps Q := af.jw h hf
def nW (pre : List Nat) (l : List HP) : Nat → List HP
  | i => match l with
    | [] => []
    | p :: r => match ld i pre with
      | true => nW pre r (i + 1)
      | false => p :: nW pre r (i + 1)
def tW (pre : List Nat) : Nat → Nat → List Nat
  | 0, _ => []
  | n + 1, i => match ld i pre with
    | true => tW pre n (i + 1)
    | false => i :: tW pre n (i + 1)
def fQ (ops : Array Oper) (k : Nat) : Option Tmp := match ops.toList[k]? with
  | some o => o.dst
  | none => none
variable {f : FuncId} {args : Array Value} {pre : List HP} {post : Value → List HP → Prop}
theorem gL (ix : List Nat) (hs : Spec P β f args pre post) (K : ∀ v l, post v l → ah P β N ops (k + 1) (cA fr (fQ ops k) v) (l ++ nW ix hps 0) Q)
    (hc : ∀ junk, oA P β N junk ops fr k = some (f, args, fQ ops k) := by intro _; kernel_rfl) (hn : br (ix ++ tW ix hps.length 0) = true := by kernel_rfl) (hp : bI hps (ix ++ tW ix hps.length 0) = some (pre ++ nW ix hps 0) := by kernel_rfl) : ah P β N ops k fr hps Q :=
  ah.call hc hs hn hp K
variable {R : bJ} {fn : Func} {l : List HP} {v : Value}
theorem RT (v : Value) (pk : List Nat) (hpost : post v l) (hr : ∀ junk, pu P β N junk fn fr hps [] = some (v, []) := by intro _; kernel_rfl) (hn : br pk = true := by kernel_rfl) (hp : bI hps pk = some (l ++ [.abs R]) := by kernel_rfl) :
    aj β N (bodyPost P fn (wO β R post)) .ret fr hps := aj.ret [] pk hr trivial hn hp hpost
theorem RF (v : Value) (pk : List Nat) (hpost : post v l) (hr : ∀ junk, pu P β N junk fn fr hps [] = some (v, []) := by intro _; kernel_rfl) (hn : br pk = true := by kernel_rfl) (hp : bI hps pk = some (l ++ [.abs R]) := by kernel_rfl) :
    aj β N (bodyPost P fn (wO β R post)) .normal fr hps := aj.fin [] pk hr trivial hn hp hpost
theorem MD {ι : Type} {fr' : ι → Fr} {hp' : ι → List HP} (j : ι) (idx pk : List Nat) (hf : ∀ junk, gY fr junk idx = fr' j := by intro _; kernel_rfl) (hn : br pk = true := by kernel_rfl) (hp : bI hps pk = some (hp' j) := by kernel_rfl) : aj β N (NP (iJ β N fr' hp')) .normal fr hps := aj.mid j hf hn hp
variable {S : List HP} {i : Nat} {lm : List Nat} {o' : Oper}
theorem zH {ι : Type} {fr' : ι → Fr} {hp' : ι → List HP} (j : ι) : aj β N (NP (iJ β N fr' hp')) .normal (fr' j) (hp' j) := fun junk _ hS => ⟨j, junk, rfl, hS⟩
theorem mC (pk : List Nat) (add : Fr) (l' : List (Nat × OP)) (ds : List (Nat × List (Nat × Value))) (K : aD P β N ops S 0 lm (add ++ fr) (j5 hps ds) Q) (hop : ops[i]? = some o' := by rfl) (hg : o'.guard = none := by rfl)
    (h : ∀ b junk, ia P β b false N junk #[o'] (lM (iA 1 l' 0)) 0 fr hps (cR add) (yw (j5 hps ds).length 0) = some (0 + 1, add, j5 hps ds, owed (iA 1 l' 0)) := by intro _ _; kernel_rfl)
    (hb : rL #[o'] 1 0 (cR add) (cR fr) = true := by kernel_rfl) (hn : br pk = true := by kernel_rfl) (hp : bI (j5 hps ds) pk = some S := by kernel_rfl) : aD P β N ops S 0 (i :: lm) fr hps Q :=
  aD.cut (ι := Unit) (fr' := fun _ => add ++ fr) (hp' := fun _ => j5 hps ds) pk hop hg (gC 1 add l' ds (ah.nil rfl (zH ())) h hb) hn (fun _ => hp) (fun _ => K)
theorem mN (pk : List Nat) (add : Nat → Fr) (l' : Nat → List (Nat × OP)) (new : Nat → HP) (K : ∀ b, aD P β N ops S 0 lm (add b ++ fr) (hps ++ [new b]) Q) (hop : ops[i]? = some o' := by rfl) (hg : o'.guard = none := by rfl)
    (h : ∀ b junk, ia P β b false N junk #[o'] (lM (iA 1 (l' b) 0)) 0 fr hps (cR (add b)) (yw (hps ++ [new b]).length 0) = some (0 + 1, add b, hps ++ [new b], owed (iA 1 (l' b) 0)) := by intro _ _; kernel_rfl)
    (hb : ∀ b, rL #[o'] 1 0 (cR (add b)) (cR fr) = true := by intro _; kernel_rfl) (hn : br pk = true := by kernel_rfl) (hp : ∀ b, bI (hps ++ [new b]) pk = some S := by intro _; kernel_rfl) : aD P β N ops S 0 (i :: lm) fr hps Q :=
  aD.cut (ι := Nat) (fr' := fun b => add b ++ fr) (hp' := fun b => hps ++ [new b]) pk hop hg (gW 1 add l' (fun b => hps ++ [new b]) (fun b => ah.nil rfl (zH (fr' := fun b => add b ++ fr) (hp' := fun b => hps ++ [new b]) b)) h hb) hn hp K
theorem mL (pk ix : List Nat) (hs : Spec P β f args pre post) (K : ∀ v l, post v l → aD P β N ops S 0 lm (cA fr (fQ #[o'] 0) v) (l ++ nW ix hps 0) Q) (hp : ∀ v l, post v l → bI (l ++ nW ix hps 0) pk = some S) (hop : ops[i]? = some o' := by rfl) (hg : o'.guard = none := by rfl)
    (hc : ∀ junk, oA P β N junk #[o'] fr 0 = some (f, args, fQ #[o'] 0) := by intro _; kernel_rfl) (hn' : br (ix ++ tW ix hps.length 0) = true := by kernel_rfl) (hp' : bI hps (ix ++ tW ix hps.length 0) = some (pre ++ nW ix hps 0) := by kernel_rfl) (hn : br pk = true := by kernel_rfl) : aD P β N ops S 0 (i :: lm) fr hps Q :=
  aD.cut (ι := { x : Value × List HP // post x.1 x.2 }) (fr' := fun j => cA fr (fQ #[o'] 0) j.1.1) (hp' := fun j => j.1.2 ++ nW ix hps 0) pk hop hg (gL ix hs (fun v l hv => ah.nil rfl (zH (fr' := fun j : { x : Value × List HP // post x.1 x.2 } => cA fr (fQ #[o'] 0) j.1.1) (hp' := fun j => j.1.2 ++ nW ix hps 0) ⟨(v, l), hv⟩)) hc hn' hp') hn (fun j => hp _ _ j.2) (fun j => K _ _ j.2)
end rules
end Go.Proofs.YtkiedlmhocglhaaGreat
end
section
namespace Go.Proofs.YtkiedlmhocglhaaGreat
open Go.RowKit
section
variable {O : bM} {k : Nat} {kd : Int}
theorem wX (L : HL) (h : (obj O k).kind = kd) (h0 : kd ≠ 0 := by decide) : ∀ F w, (aq (aS O L)).h F w → w.cell? ⟨L.b k, 0, none⟩ = some (.int .i64 (obj O k).id) := bg (by rw [h]; exact h0) rfl
theorem Ja (L : HL) (h : (obj O k).kind = kd) (h0 : kd ≠ 0 := by decide) : ∀ F w, (aq (aS O L)).h F w → w.cell? ⟨L.b k, 1, none⟩ = some (.int .i64 (obj O k).mode) := bg (by rw [h]; exact h0) rfl
theorem j6 (L : HL) (h : (obj O k).kind = kd) (h0 : kd ≠ 0 := by decide) : ∀ F w, (aq (aS O L)).h F w → w.cell? ⟨L.b k, 6, none⟩ = some (.int .i64 (obj O k).links) := bg (by rw [h]; exact h0) rfl
theorem gX (L : HL) (h : (obj O k).kind = kd) (h0 : kd ≠ 0 := by decide) : ∀ F w, (aq (aS O L)).h F w → w.cell? ⟨L.b k, 7, none⟩ = some (.int .i64 (obj O k).opens) := bg (by rw [h]; exact h0) rfl
theorem lN (L : HL) (h : (obj O k).kind = kd) (h0 : kd ≠ 0 := by decide) : ∀ F w, (aq (aS O L)).h F w → w.cell? ⟨L.b k, 8, none⟩ = some (.bool (obj O k).gone) := bg (by rw [h]; exact h0) rfl
theorem Jb (L : HL) (h : (obj O k).kind = 1) : ∀ F w, (aq (aS O L)).h F w → w.cell? ⟨L.b k, 9, none⟩ = some (.slice (L.dA k) (obj O k).data.length (L.dC k)) := bg (by rw [h]; decide) (by rw [ef h]; rfl)
theorem bE (L : HL) (h : (obj O k).kind = 2) : ∀ F w, (aq (aS O L)).h F w → w.cell? ⟨L.b k, 9, none⟩ = some (.map (some (L.m k))) := bg (by rw [h]; decide) (by rw [fW h]; rfl)
theorem LR (L : HL) (h : (obj O k).kind = 2) : ∀ F w, (aq (aS O L)).h F w → w.cell? ⟨L.b k, 10, none⟩ = some (pP L (obj O k).up) := bg (by rw [h]; decide) (by rw [fW h]; rfl)
theorem KD (L : HL) (h : (obj O k).kind = 3) : ∀ F w, (aq (aS O L)).h F w → w.cell? ⟨L.b k, 9, none⟩ = some (.string (obj O k).target) := bg (by rw [h]; decide) (by rw [sC h]; rfl)
end
end Go.Proofs.YtkiedlmhocglhaaGreat
end
section
namespace Go.Proofs.YtkiedlmhocglhaaGreat
open Go.RowKit Go.Maps
theorem aq.step {R R' : Nat → bJ} {k : Nat} {F : Fp} {w w' : World} (hF : (aq R).h F w) (hR : ∀ x, x ≠ k → R' x = R x) (hs : ∀ G, (R k).h G w → ∃ G', (R' k).h G' w' ∧ Step G w G' w') : ∃ F', (aq R').h F' w' ∧ Step F w F' w' := by
  obtain ⟨φ, h1, h2, h3⟩ := hF
  obtain ⟨G', g1, st⟩ := hs _ (h1 k)
  have hap : ∀ i, i ≠ k → ∀ x, G' x → φ i x → False := fun i hne x hx hy => by
    rcases st.grow x hx with e | e
    · exact h2 i k hne x hy e
    · have := (R i).lt (h1 i) x hy; omega
  refine ⟨fun x => ∃ i, (if i = k then G' else φ i) x, ⟨fun i => if i = k then G' else φ i, fun i => ?_, fun i j hne x hx hy => ?_, fun x => Iff.rfl⟩, ⟨st.keeps.mono (fun x _ hx => (h3 x).2 ⟨k, hx⟩), fun x ⟨i, hx⟩ => ?_⟩⟩
  · by_cases e : i = k
    · subst e; simp only [if_true]; exact g1
    · simp only [e, if_false]
      rw [hR i e]
      exact (R i).st (h1 i) st.keeps (fun x hx hk => h2 i k e x hx hk)
  · by_cases e1 : i = k
    · have e2 : j ≠ k := fun e => hne (e1.trans e.symm)
      simp only [e1, if_true] at hx
      simp only [e2, if_false] at hy
      exact hap j e2 x hx hy
    · simp only [e1, if_false] at hx
      by_cases e2 : j = k
      · simp only [e2, if_true] at hy
        exact hap i e1 x hy hx
      · simp only [e2, if_false] at hy
        exact h2 i j hne x hx hy
  · by_cases e : i = k
    · simp only [e, if_true] at hx
      rcases st.grow x hx with h | h
      · exact .inl ((h3 x).2 ⟨k, h⟩)
      · exact .inr h
    · simp only [e, if_false] at hx
      exact .inl ((h3 x).2 ⟨i, hx⟩)
def wY (O : bM) (L : HL) : Nat → HP
  | 0 => .abs (aq (aS O L))
  | 1 => .abs (aq (bw O L))
  | _ => .abs (aq (aY O L))
def mq (O : bM) (L : HL) : List (Nat × Nat) → List (Nat × HP)
  | [] => []
  | q :: r => (q.1, wY O L q.2) :: mq O L r
def pQ (hps : List HP) (O : bM) (L : HL) : List (Nat × Nat) → Prop
  | [] => True
  | q :: r => hps[q.1]? = some (wY O L q.2) ∧ pQ hps O L r
theorem qA {hps : List HP} {O O2 : bM} {L : HL} {p : Nat} (he : ∀ q, q ≠ p → wY O2 L q = wY O L q) : ∀ {js : List (Nat × Nat)}, pQ hps O L js → ld p (js.map (·.2)) = false → j4 hps (mq O2 L js) = hps
  | [], _, _ => rfl
  | q :: r, h, hn => by
    have hq : q.2 ≠ p := fun e => by
      rw [show ld p ((q :: r).map (·.2)) = true from qz.2 (by simp [e])] at hn; cases hn
    have hr : ld p (r.map (·.2)) = false := by
      cases hb : ld p (r.map (·.2)) with
      | false => rfl
      | true => rw [show ld p ((q :: r).map (·.2)) = true from qz.2 (List.mem_cons_of_mem _ (qz.1 hb))] at hn; cases hn
    show j4 (hps.set q.1 (wY O2 L q.2)) (mq O2 L r) = hps
    have e : hps.set q.1 (wY O2 L q.2) = hps := by
      rw [he _ hq]
      refine List.ext_getElem? (fun n => ?_)
      rw [List.getElem?_set]
      split
      · rename_i e; subst e
        rw [h.1]; split
        · rfl
        · rename_i hlt; exact absurd (bq h.1) hlt
      · rfl
    rw [e]
    exact qA he h.2 hr
def vT (P : Program) (N : Nat) (junk : Nat → Value) (ops : Array Oper) (fr : Fr) (k : Nat) : Option (Addr × Value) :=
  match dx N junk ops fr k with
  | some (.store T a y, _) => match (P.info? T).map (·.size) with
    | some 1 => match bZ N fr junk a with
      | .pointer (some ad) => some (ad, bZ N fr junk y)
      | _ => none
    | _ => none
  | _ => none
def vU (N : Nat) (junk : Nat → Value) (ops : Array Oper) (fr : Fr) (k : Nat) : Option (TypeId × Nat × Value) :=
  match dx N junk ops fr k with
  | some (.lookup t x ix false, _) => match bZ N fr junk x with
    | .map (some b) => some (t, b, bZ N fr junk ix)
    | _ => none
  | _ => none
def setAt (N : Nat) (junk : Nat → Value) (ops : Array Oper) (fr : Fr) (k : Nat) : Option (TypeId × Nat × Value × Value) :=
  match dx N junk ops fr k with
  | some (.mapUpdate t x ix y, _) => match bZ N fr junk x with
    | .map (some b) => some (t, b, bZ N fr junk ix, bZ N fr junk y)
    | _ => none
  | _ => none
def Ch (N : Nat) (junk : Nat → Value) (ops : Array Oper) (fr : Fr) (k : Nat) : Option (TypeId × TypeId × Nat × Value) :=
  match dx N junk ops fr k with
  | some (.call ⟨.builtin .delete, xs, ts⟩, _) => match xs.toList with
    | [x, ix] => match ts.toList with
      | [t, K] => match bZ N fr junk x with
        | .map (some b) => some (t, K, b, bZ N fr junk ix)
        | _ => none
      | _ => none
    | _ => none
  | _ => none
def zI (L : HL) : Option Th → Value
  | none => .nilIface
  | some t => cM L t
section rules
variable {β : Bs} {N : Nat} {ops : Array Oper} {k x : Nat} {fr : Fr} {hps : List HP} {Q : Post} {O : bM} {L : HL} {name : ByteArray} {r : Option Th} {t : Th}
theorem qB {junk : Nat → Value} {op : Op} {d : Option Tmp} (h : dx N junk ops fr k = some (op, d)) : d = fQ ops k := by
  obtain ⟨o, h1, _, _, h4⟩ := cP h
  unfold fQ
  rw [h1, ← h4]
theorem zJ {P : Program} {junk : Nat → Value} {ad : Addr} {u : Value} (h : vT P N junk ops fr k = some (ad, u)) : ∃ T a y, dx N junk ops fr k = some (.store T a y, fQ ops k) ∧ (P.info? T).map (·.size) = some 1 ∧ bZ N fr junk a = .pointer (some ad) ∧ bZ N fr junk y = u := by
  unfold vT at h
  repeat' split at h
  all_goals first | (cases h; done) | skip
  rename_i T a y d h0 _ h1 _ MC h2
  cases h
  have := qB h0
  subst this
  exact ⟨T, a, y, h0, h1, h2, rfl⟩
theorem lf {junk : Nat → Value} {T : TypeId} {b : Nat} {key : Value} (h : vU N junk ops fr k = some (T, b, key)) : ∃ a y, dx N junk ops fr k = some (.lookup T a y false, fQ ops k) ∧ bZ N fr junk a = .map (some b) ∧ bZ N fr junk y = key := by
  unfold vU at h
  repeat' split at h
  all_goals first | (cases h; done) | skip
  rename_i T' a y d h0 _ b' h1
  cases h
  have := qB h0
  subst this
  exact ⟨a, y, h0, h1, rfl⟩
theorem E8 {junk : Nat → Value} {T : TypeId} {b : Nat} {key u : Value} (h : setAt N junk ops fr k = some (T, b, key, u)) : ∃ a y z, dx N junk ops fr k = some (.mapUpdate T a y z, fQ ops k) ∧ bZ N fr junk a = .map (some b) ∧ bZ N fr junk y = key ∧ bZ N fr junk z = u := by
  unfold setAt at h
  repeat' split at h
  all_goals first | (cases h; done) | skip
  rename_i T' a y z d h0 _ b' h1
  cases h
  have := qB h0
  subst this
  exact ⟨a, y, z, h0, h1, rfl, rfl⟩
theorem DF {P : Program} {T : TypeId} {a y : Operand} {o : Oper} {ev : Operand → Value} {w : World} {ad : Addr} {u v0 : Value} (ho : o.op = .store T a y) (hT : (P.info? T).map (·.size) = some 1) (ha : ev a = .pointer (some ad)) (hy : ev y = u) (hu : u.oneCell' = true) (hc : w.cell? ad = some v0) (hf : w.frozen? ad = false) (hs : ad.spot = none) : lu P ev o w undef (w.setCell ad u) := by
  obtain ⟨inf, hi, hsz⟩ : ∃ inf, P.info? T = some inf ∧ inf.size = 1 := by
    cases h : P.info? T with
    | none => rw [h] at hT; cases hT
    | some inf => rw [h] at hT; exact ⟨inf, rfl, by simpa using hT⟩
  have h3 := kW hi w
  rw [hsz] at h3
  obtain ⟨dst, op, type, pos, after, guard⟩ := o
  obtain ⟨bk, off, spot⟩ := ad
  simp only at hs
  subst hs
  cases ho
  refine .inr ⟨rfl, ?_⟩
  cases u <;> first
    | (simp [Value.oneCell'] at hu; done)
    | (simp only [execOp, ha, hy]; simp [go_sem, Instr.storeAt, Instr.sureAddr, storeVar, h3, Value.cells, storeCells, store, Addr.add, Sem.run, hc, hf])
theorem Lc (i : Nat) (js : List (Nat × Nat)) (x j : Nat) (f : aM → aM) (u : Value) {kd : Int} (hk : (obj O x).kind = kd)
    (K : ∀ O2, O2 = aB O x f → ah Tryz.prog β N ops (k + 1) (cA fr (fQ ops k) undef) ((j4 hps (mq O2 L js)).set i (.abs (aq (aS O2 L)))) Q)
    (hp : hps[i]? = some (.abs (aq (aS O L)))) (hj : pQ hps O L js)
    (ho : ∀ junk, vT Tryz.prog N junk ops fr k = some (⟨L.b x, j, none⟩, u))
    (hn : ld 0 (js.map (·.2)) = false) (h0 : kd ≠ 0) (hc : d8 L x (f (obj O x)) = (d8 L x (obj O x)).set j u) (hu : u.oneCell' = true) (h9 : j < (d8 L x (obj O x)).length)
    (he : (f (obj O x)).ai = (obj O x).ai) (hd : (f (obj O x)).data = (obj O x).data) (vV : (f (obj O x)).kind = (obj O x).kind) : ah Tryz.prog β N ops k fr hps Q := by
  obtain ⟨T, a, y, h1, h2, h3, h4⟩ := zJ (ho (fun _ => undef))
  intro junk w hS
  obtain ⟨T, a, y, h1, h2, h3, h4⟩ := zJ (ho junk)
  obtain ⟨o, g1, g2, g3, g4⟩ := cP h1
  have hx0 : (obj O x).kind ≠ 0 := by rw [hk]; exact h0
  have zK : j4 hps (mq (aB O x f) L js) = hps := qA (p := 0) (fun q hq => by
    match q, hq with
    | 0, hq => exact absurd rfl hq
    | 1, _ => exact congrArg (fun R => HP.abs (aq R)) (j3 he vV)
    | q + 2, _ => exact congrArg (fun R => HP.abs (aq R)) (jZ hd vV)) hj hn
  have hcell : ∃ v0, (d8 L x (obj O x))[j]? = some v0 := gj h9
  obtain ⟨v0, hv0⟩ := hcell
  obtain ⟨F, hF⟩ := hS.get hp
  obtain ⟨G, hG⟩ := aq.at x hF
  have Ld := hG
  rw [je hx0] at Ld
  obtain ⟨hb, _⟩ := Ld
  obtain ⟨c1, c2⟩ := eD (a := ⟨L.b x, j, none⟩) hb rfl rfl hv0
  have qC : Sat β (hps.set i (.abs (aq (aS (aB O x f) L)))) (w.setCell ⟨L.b x, j, none⟩ (u)) := hS.set hp (fun F hF => aq.step (k := x) (show (aq (aS O L)).h F w from hF) (fun y hy => qy hy) (fun G hG => by
    rw [je hx0] at hG
    rw [qx, if_neg (by rw [vV]; exact hx0), hc, vV]
    exact ox hG rfl rfl))
  rw [drop_cons g1]
  unfold wpList
  rw [dr, if_pos g2]
  refine .inl (gn (v := undef) (w' := w.setCell ⟨L.b x, j, none⟩ (u)) (by rw [cY]; exact DF g3 h2 h3 h4 hu c1 c2 rfl) ?_)
  rw [cW]
  have hK := K _ rfl junk _ (by rw [zK]; exact qC)
  rw [← g4] at hK
  exact hK
theorem oK (i : Nat) (js : List (Nat × Nat)) (x j : Nat) (f : aM → aM) {kd : Int} (hk : (obj O x).kind = kd)
    (K : ∀ O2, O2 = aB O x f → ah Tryz.prog β N ops (k + 1) (cA fr (fQ ops k) undef) ((j4 hps (mq O2 L js)).set i (.abs (aq (aS O2 L)))) Q)
    (hp : hps[i]? = some (.abs (aq (aS O L))) := by rfl) (hj : pQ hps O L js := by first | exact ⟨rfl, trivial⟩ | exact ⟨rfl, rfl, trivial⟩ | exact trivial)
    (ho : ∀ junk, vT Tryz.prog N junk ops fr k = some (⟨L.b x, j, none⟩, (tT (f (obj O x))).getD j undef) := by intro _; kernel_rfl)
    (hn : ld 0 (js.map (·.2)) = false := by rfl) (h0 : kd ≠ 0 := by decide) (hc : d8 L x (f (obj O x)) = (d8 L x (obj O x)).set j ((tT (f (obj O x))).getD j undef) := by rfl) (hu : ((tT (f (obj O x))).getD j undef).oneCell' = true := by rfl) (h9 : Nat.blt j 9 = true := by rfl)
    (he : (f (obj O x)).ai = (obj O x).ai := by rfl) (hd : (f (obj O x)).data = (obj O x).data := by rfl) (vV : (f (obj O x)).kind = (obj O x).kind := by rfl) : ah Tryz.prog β N ops k fr hps Q :=
  Lc i js x j f _ hk K hp hj ho hn h0 hc hu (Nat.lt_of_lt_of_le (show j < 9 by simpa [Nat.blt_eq] using h9) (by unfold d8 tT; simp)) he hd vV
theorem Le (i : Nat) (js : List (Nat × Nat)) (x : Nat) (y : Option Nat) (hk : (obj O x).kind = 2)
    (K : ∀ O2, O2 = aB O x (fun o => { o with up := y }) → ah Tryz.prog β N ops (k + 1) (cA fr (fQ ops k) undef) ((j4 hps (mq O2 L js)).set i (.abs (aq (aS O2 L)))) Q)
    (hp : hps[i]? = some (.abs (aq (aS O L))) := by rfl) (hj : pQ hps O L js := by first | exact ⟨rfl, trivial⟩ | exact ⟨rfl, rfl, trivial⟩ | exact trivial)
    (ho : ∀ junk, vT Tryz.prog N junk ops fr k = some (⟨L.b x, 10, none⟩, pP L y) := by intro _; kernel_rfl) (hn : ld 0 (js.map (·.2)) = false := by rfl) : ah Tryz.prog β N ops k fr hps Q :=
  Lc i js x 10 (fun o => { o with up := y }) (pP L y) hk K hp hj ho hn (by decide) (by rw [fW (show ({ obj O x with up := y } : aM).kind = 2 from hk), fW hk]; rfl) (by cases y <;> rfl) (by rw [fW hk]; exact Nat.lt_succ_self 10) rfl rfl rfl
theorem Sat.Gx {w : World} {i j : Nat} {f : aM → aM} {u : Value} (hS : Sat β hps w) (hp : hps[i]? = some (.abs (aq (aS O L)))) (hx0 : (obj O x).kind ≠ 0) (hc : d8 L x (f (obj O x)) = (d8 L x (obj O x)).set j u) (vV : (f (obj O x)).kind = (obj O x).kind) (h9 : j < (d8 L x (obj O x)).length) :
    Sat β (hps.set i (.abs (aq (aS (aB O x f) L)))) (w.setCell ⟨L.b x, j, none⟩ u) ∧ (∃ v0, w.cell? ⟨L.b x, j, none⟩ = some v0) ∧ w.frozen? ⟨L.b x, j, none⟩ = false := by
  obtain ⟨v0, hv0⟩ := gj h9
  obtain ⟨F, hF⟩ := hS.get hp
  obtain ⟨G, hG⟩ := aq.at x (show (aq (aS O L)).h F w from hF)
  rw [je hx0] at hG
  obtain ⟨c1, c2⟩ := eD (a := ⟨L.b x, j, none⟩) hG.1 rfl rfl hv0
  refine ⟨hS.set hp (fun F hF => aq.step (k := x) (show (aq (aS O L)).h F w from hF) (fun y hy => qy hy) (fun G hG => ?_)), ⟨v0, c1⟩, c2⟩
  rw [je hx0] at hG
  rw [qx, if_neg (by rw [vV]; exact hx0), hc, vV]
  exact ox hG rfl rfl
def zL (P : Program) (N : Nat) (junk : Nat → Value) (ops : Array Oper) (fr : Fr) (k : Nat) : Option (Addr × Value) :=
  match dx N junk ops fr k with
  | some (.store T a y, _) => match (P.info? T).map (·.size) with
    | some 2 => match bZ N fr junk a with
      | .pointer (some ad) => some (ad, bZ N fr junk y)
      | _ => none
    | _ => none
  | _ => none
theorem DG {P : Program} {junk : Nat → Value} {ad : Addr} {u : Value} (h : zL P N junk ops fr k = some (ad, u)) : ∃ T a y, dx N junk ops fr k = some (.store T a y, fQ ops k) ∧ (P.info? T).map (·.size) = some 2 ∧ bZ N fr junk a = .pointer (some ad) ∧ bZ N fr junk y = u := by
  unfold zL at h
  repeat' split at h
  all_goals first | (cases h; done) | skip
  rename_i T a y d h0 _ h1 _ MC h2
  cases h
  have := qB h0
  subst this
  exact ⟨T, a, y, h0, h1, h2, rfl⟩
theorem Ci {P : Program} {T : TypeId} {a y : Operand} {o : Oper} {ev : Operand → Value} {w : World} {b j : Nat} {z1 z2 : Int} {v0 v1 : Value} (ho : o.op = .store T a y) (hT : (P.info? T).map (·.size) = some 2) (ha : ev a = .pointer (some ⟨b, j, none⟩)) (hy : ev y = .agg #[.int .i64 z1, .int .i64 z2])
    (hc : w.cell? ⟨b, j, none⟩ = some v0) (hf : w.frozen? ⟨b, j, none⟩ = false) (hc1 : (w.setCell ⟨b, j, none⟩ (.int .i64 z1)).cell? ⟨b, j + 1, none⟩ = some v1) (hf1 : (w.setCell ⟨b, j, none⟩ (.int .i64 z1)).frozen? ⟨b, j + 1, none⟩ = false) :
    lu P ev o w undef ((w.setCell ⟨b, j, none⟩ (.int .i64 z1)).setCell ⟨b, j + 1, none⟩ (.int .i64 z2)) := by
  obtain ⟨inf, hi, hsz⟩ : ∃ inf, P.info? T = some inf ∧ inf.size = 2 := by
    cases h : P.info? T with
    | none => rw [h] at hT; cases hT
    | some inf => rw [h] at hT; exact ⟨inf, rfl, by simpa using hT⟩
  have h3 := kW hi w
  rw [hsz] at h3
  obtain ⟨dst, op, type, pos, after, guard⟩ := o
  cases ho
  refine .inr ⟨rfl, ?_⟩
  simp only [execOp, ha, hy]
  simp [go_sem, Instr.storeAt, Instr.sureAddr, storeVar, h3, Value.cells, storeCells, store, Addr.add, Sem.run, hc, hf, hc1, hf1]
theorem DH (i : Nat) (js : List (Nat × Nat)) (x : Nat) (z1 z2 : Int) {kd : Int} (hk : (obj O x).kind = kd)
    (K : ∀ O2, O2 = aB O x (fun o => { o with sec := z1, nano := z2 }) → ah Tryz.prog β N ops (k + 1) (cA fr (fQ ops k) undef) ((j4 hps (mq O2 L js)).set i (.abs (aq (aS O2 L)))) Q)
    (hp : hps[i]? = some (.abs (aq (aS O L))) := by rfl) (hj : pQ hps O L js := by first | exact ⟨rfl, trivial⟩ | exact ⟨rfl, rfl, trivial⟩ | exact trivial)
    (ho : ∀ junk, zL Tryz.prog N junk ops fr k = some (⟨L.b x, 4, none⟩, .agg #[.int .i64 z1, .int .i64 z2]) := by intro _; kernel_rfl)
    (hn : ld 0 (js.map (·.2)) = false := by rfl) (h0 : kd ≠ 0 := by decide) : ah Tryz.prog β N ops k fr hps Q := by
  intro junk w hS
  obtain ⟨T, a, y, h1, h2, h3, h4⟩ := DG (ho junk)
  obtain ⟨o, g1, g2, g3, g4⟩ := cP h1
  have hx0 : (obj O x).kind ≠ 0 := by rw [hk]; exact h0
  have zK : j4 hps (mq (aB O x (fun o => { o with sec := z1, nano := z2 })) L js) = hps := qA (p := 0) (fun q hq => by
    match q, hq with
    | 0, hq => exact absurd rfl hq
    | 1, _ => exact congrArg (fun R => HP.abs (aq R)) (j3 rfl rfl)
    | q + 2, _ => exact congrArg (fun R => HP.abs (aq R)) (jZ rfl rfl)) hj hn
  have hlen : ∀ o : aM, 9 ≤ (d8 L x o).length := fun o => by unfold d8 tT; simp
  obtain ⟨s1, ⟨v0, c1⟩, f1⟩ := hS.Gx (x := x) (j := 4) (f := fun o => { o with sec := z1 }) (u := .int .i64 z1) hp hx0 rfl rfl (by have := hlen (obj O x); omega)
  have hi : i < hps.length := bq hp
  have e1 : obj (aB O x (fun o => { o with sec := z1 })) x = { obj O x with sec := z1 } := bA
  obtain ⟨s2, ⟨v1, c2⟩, f2⟩ := s1.Gx (x := x) (j := 5) (f := fun o => { o with nano := z2 }) (u := .int .i64 z2) (i := i) (O := aB O x (fun o => { o with sec := z1 })) (by rw [List.getElem?_set, if_pos rfl, if_pos hi]) (by rw [e1]; exact hx0) rfl rfl (by have := hlen (obj (aB O x (fun o => { o with sec := z1 })) x); omega)
  rw [List.set_set, pK] at s2
  rw [drop_cons g1]
  unfold wpList
  rw [dr, if_pos g2]
  refine .inl (gn (v := undef) (w' := _) (by rw [cY]; exact Ci g3 h2 h3 h4 c1 f1 c2 f2) ?_)
  rw [cW]
  have hK := K _ rfl junk _ (by rw [zK]; exact s2)
  rw [← g4] at hK
  exact hK
theorem tX {w : World} {i : Nat} (hS : Sat β hps w) (hp : hps[i]? = some (.abs (aq (bw O L)))) (hd : (obj O x).kind = 2) : cV Tryz.prog 9 w (L.m x) (fB L (obj O x).ai) (obj O x).ai.length := by
  obtain ⟨F, hF⟩ := hS.get hp
  obtain ⟨G, hG⟩ := aq.at x (show (aq (bw O L)).h F w from hF)
  rw [kY hd] at hG
  exact hG.1
theorem Bu {w : World} {i : Nat} {o : Oper} {ev : Operand → Value} {a y : Operand} (hS : Sat β hps w) (hp : hps[i]? = some (.abs (aq (bw O L)))) (hd : (obj O x).kind = 2) (hl : aT name (obj O x).ai = r) (h3 : o.op = .lookup 99 a y false) (ha : ev a = .map (some (L.m x))) (hy : ev y = .string name) (hsz : name.size ≤ 1048576) : lu Tryz.prog ev o w (zI L r) w := by
  have h := oB (z := .nilIface) h3 (tX hS hp hd) ha hy uU Tryz.underlying99 (by kernel_rfl) (wW (by omega))
  rw [om, hl] at h
  cases r <;> exact h
theorem gF (i : Nat) (hd : (obj O x).kind = 2) (hl : aT name (obj O x).ai = r) (K : ah Tryz.prog β N ops (k + 1) (cA fr (fQ ops k) (zI L r)) hps Q) (hp : hps[i]? = some (.abs (aq (bw O L))) := by rfl)
    (ho : ∀ junk, vU N junk ops fr k = some (99, L.m x, .string name) := by intro _; kernel_rfl) (hsz : name.size ≤ 1048576 := by omega) : ah Tryz.prog β N ops k fr hps Q := by
  intro junk w hS
  obtain ⟨a, y, h1, h2, h3⟩ := lf (ho junk)
  exact ah.fO (aK := hps) (v := zI L r) (d := fQ ops k) (op := .lookup 99 a y false) (fun j => by
    obtain ⟨a', y', h1', _, _⟩ := lf (ho j)
    obtain ⟨o, g1, g2, g3, g4⟩ := cP h1
    obtain ⟨o', nh, DI, oL, DJ⟩ := cP h1'
    rw [g1] at nh
    cases nh
    rw [g3] at oL
    cases oL
    exact h1') (fun o junk w ho' hS => by
    obtain ⟨a', y', h1', h2', h3'⟩ := lf (ho junk)
    obtain ⟨o1, g1, g2, g3, g4⟩ := cP h1
    obtain ⟨o', nh, DI, oL, DJ⟩ := cP h1'
    rw [g1] at nh
    cases nh
    rw [g3] at oL
    cases oL
    exact ⟨w, Bu hS hp hd hl ho' h2' h3' hsz, hS⟩) K junk w hS
theorem nK (i : Nat) (hd : (obj O x).kind = 2) (hl : aT name (obj O x).ai = r) (K : aI Tryz.prog β N ops (k + 1) (cA fr (fQ ops k) (zI L r)) hps Q) (hp : hps[i]? = some (.abs (aq (bw O L))) := by rfl)
    (ho : ∀ junk, vU N junk ops fr k = some (99, L.m x, .string name) := by intro _; kernel_rfl) (hsz : name.size ≤ 1048576 := by omega) : aI Tryz.prog β N ops k fr hps Q := by
  intro junk
  obtain ⟨a, y, h1, h2, h3⟩ := lf (ho junk)
  exact aI.fO (v := zI L r) (d := fQ ops k) (op := .lookup 99 a y false) (fun j => by
    obtain ⟨a', y', h1', _, _⟩ := lf (ho j)
    obtain ⟨o, g1, g2, g3, g4⟩ := cP h1
    obtain ⟨o', nh, DI, oL, DJ⟩ := cP h1'
    rw [g1] at nh
    cases nh
    rw [g3] at oL
    cases oL
    exact h1') (fun o junk w ho' hS => by
    obtain ⟨a', y', h1', h2', h3'⟩ := lf (ho junk)
    obtain ⟨o1, g1, g2, g3, g4⟩ := cP h1
    obtain ⟨o', nh, DI, oL, DJ⟩ := cP h1'
    rw [g1] at nh
    cases nh
    rw [g3] at oL
    cases oL
    exact Bu hS hp hd hl ho' h2' h3' hsz) K junk
def Cj (N : Nat) (junk : Nat → Value) (ops : Array Oper) (fr : Fr) (k : Nat) : Option (TypeId × Nat) :=
  match dx N junk ops fr k with
  | some (.call ⟨.builtin .len, xs, ts⟩, _) => match xs.toList with
    | [x] => match ts.toList with
      | [t] => match bZ N fr junk x with
        | .map (some b) => some (t, b)
        | _ => none
      | _ => none
    | _ => none
  | _ => none
theorem uY {junk : Nat → Value} {T : TypeId} {b : Nat} (h : Cj N junk ops fr k = some (T, b)) : ∃ a, dx N junk ops fr k = some (.call ⟨.builtin .len, #[a], #[T]⟩, fQ ops k) ∧ bZ N fr junk a = .map (some b) := by
  unfold Cj at h
  repeat' split at h
  all_goals first | (cases h; done) | skip
  rename_i xs ts d h0 _ a h1 _ t' h2 _ b' h3
  cases h
  have := qB h0
  subst this
  refine ⟨a, ?_, h3⟩
  rw [h0]
  obtain ⟨xs⟩ := xs
  obtain ⟨ts⟩ := ts
  cases h1
  cases h2
  rfl
theorem ME (i : Nat) (hd : (obj O x).kind = 2) (K : ah Tryz.prog β N ops (k + 1) (cA fr (fQ ops k) (.int .i64 (((obj O x).ai.length : Nat) : Int))) hps Q) (hp : hps[i]? = some (.abs (aq (bw O L))) := by rfl)
    (ho : ∀ junk, Cj N junk ops fr k = some (99, L.m x) := by intro _; kernel_rfl) : ah Tryz.prog β N ops k fr hps Q := by
  obtain ⟨a, h1, h2⟩ := uY (ho (fun _ => undef))
  obtain ⟨o, g1, g2, g3, g4⟩ := cP h1
  refine ah.fO (aK := hps) (v := .int .i64 (((obj O x).ai.length : Nat) : Int)) (d := fQ ops k) (op := o.op) (fun j => ?_) (fun o' junk w ho' hS => ?_) K
  · obtain ⟨a', h1', _⟩ := uY (ho j)
    obtain ⟨o', nh, DI, oL, DJ⟩ := cP h1'
    rw [g1] at nh
    cases nh
    rw [oL]
    exact h1'
  · obtain ⟨a', h1', h2'⟩ := uY (ho junk)
    obtain ⟨o1, nh, DI, oL, DJ⟩ := cP h1'
    rw [g1] at nh
    cases nh
    exact ⟨w, qu (ho'.trans oL) rfl (tX hS hp hd) h2' Tryz.underlying99, hS⟩
theorem Jc (i : Nat) (js : List (Nat × Nat)) {t : Th} (hd : (obj O x).kind = 2) (hno : aT name (obj O x).ai = none)
    (K : ∀ O2, O2 = aB O x (fun o => { o with ai := dN name t o.ai }) → ah Tryz.prog β N ops (k + 1) (cA fr (fQ ops k) undef) ((j4 hps (mq O2 L js)).set i (.abs (aq (bw O2 L)))) Q)
    (hp : hps[i]? = some (.abs (aq (bw O L))) := by rfl) (hj : pQ hps O L js := by first | exact ⟨rfl, trivial⟩ | exact ⟨rfl, rfl, trivial⟩ | exact trivial)
    (ho : ∀ junk, setAt N junk ops fr k = some (99, L.m x, .string name, cM L t) := by intro _; kernel_rfl) (hn : ld 1 (js.map (·.2)) = false := by rfl) (hsz : name.size ≤ 1048576 := by omega) (hel : (obj O x).ai.length ≤ 1048576 := by omega) : ah Tryz.prog β N ops k fr hps Q := by
  intro junk w hS
  obtain ⟨a, y, z, h1, h2, h3, h4⟩ := E8 (ho junk)
  obtain ⟨o, g1, g2, g3, g4⟩ := cP h1
  have zK : j4 hps (mq (aB O x (fun o => { o with ai := dN name t o.ai })) L js) = hps := qA (p := 1) (fun q hq => by
    match q, hq with
    | 0, _ => exact congrArg (fun R => HP.abs (aq R)) (zF (es := fun o => dN name t o.ai))
    | 1, hq => exact absurd rfl hq
    | q + 2, _ => exact congrArg (fun R => HP.abs (aq R)) (jZ rfl rfl)) hj hn
  obtain ⟨w', m1, m2, m3⟩ := (tX hS hp hd).store uU Tryz.underlying99 (by unfold maxLen; omega) (wW (p := name) (by omega)) (cM L t)
  have e1 : (fB L (obj O x).ai) (.string name.data.toList) = none := by rw [om, hno]; rfl
  rw [e1, E5 hno] at m2
  have qC : Sat β (hps.set i (.abs (aq (bw (aB O x (fun o => { o with ai := dN name t o.ai })) L)))) w' := hS.set hp (fun F hF => aq.step (k := x) (show (aq (bw O L)).h F w from hF) (fun y hy => sA hy) (fun G hG => by
    rw [kY hd] at hG
    rw [kY (by rw [bA]; exact hd), bA, zC]
    exact step_map hG m2 m3))
  rw [drop_cons g1]
  unfold wpList
  rw [dr, if_pos g2]
  refine .inl (gn (v := undef) (w' := w') (by
    rw [cY]
    refine .inr ⟨rfl, ?_⟩
    obtain ⟨dst, op, type, pos, after, guard⟩ := o
    cases g3
    simp only [execOp, h2, h3, h4]
    simp [go_sem, m1]) ?_)
  rw [cW]
  have hK := K _ rfl junk _ (by rw [zK]; exact qC)
  rw [← g4] at hK
  exact hK
theorem E9 {junk : Nat → Value} {T K0 : TypeId} {b : Nat} {key : Value} (h : Ch N junk ops fr k = some (T, K0, b, key)) : ∃ a y, dx N junk ops fr k = some (.call ⟨.builtin .delete, #[a, y], #[T, K0]⟩, fQ ops k) ∧ bZ N fr junk a = .map (some b) ∧ bZ N fr junk y = key := by
  unfold Ch at h
  repeat' split at h
  all_goals first | (cases h; done) | skip
  rename_i xs ts d h0 _ a y h1 _ t' K' h2 _ b' h3
  cases h
  have := qB h0
  subst this
  refine ⟨a, y, ?_, h3, rfl⟩
  rw [h0]
  obtain ⟨xs⟩ := xs
  obtain ⟨ts⟩ := ts
  cases h1
  cases h2
  rfl
theorem Jd (i : Nat) (js : List (Nat × Nat)) {t : Th} (hd : (obj O x).kind = 2) (qZ : aT name (obj O x).ai = some t) (hnt : fI (obj O x).ai)
    (K : ∀ O2, O2 = aB O x (fun o => { o with ai := dW name o.ai }) → ah Tryz.prog β N ops (k + 1) (cA fr (fQ ops k) (.tuple #[])) ((j4 hps (mq O2 L js)).set i (.abs (aq (bw O2 L)))) Q)
    (hp : hps[i]? = some (.abs (aq (bw O L))) := by rfl) (hj : pQ hps O L js := by first | exact ⟨rfl, trivial⟩ | exact ⟨rfl, rfl, trivial⟩ | exact trivial)
    (ho : ∀ junk, Ch N junk ops fr k = some (99, 9, L.m x, .string name) := by intro _; kernel_rfl) (hn : ld 1 (js.map (·.2)) = false := by rfl) (hsz : name.size ≤ 1048576 := by omega) : ah Tryz.prog β N ops k fr hps Q := by
  intro junk w hS
  obtain ⟨a, y, h1, h2, h3⟩ := E9 (ho junk)
  obtain ⟨o, g1, g2, g3, g4⟩ := cP h1
  have zK : j4 hps (mq (aB O x (fun o => { o with ai := dW name o.ai })) L js) = hps := qA (p := 1) (fun q hq => by
    match q, hq with
    | 0, _ => exact congrArg (fun R => HP.abs (aq R)) (zF (es := fun o => dW name o.ai))
    | 1, hq => exact absurd rfl hq
    | q + 2, _ => exact congrArg (fun R => HP.abs (aq R)) (jZ rfl rfl)) hj hn
  obtain ⟨w', m1, m2, m3⟩ := (tX hS hp hd).drop uU Tryz.underlying99 (wW (p := name) (by omega)) o.type
  have e1 : (fB L (obj O x).ai) (.string name.data.toList) = some (cM L t) := by rw [om, qZ]; rfl
  rw [e1, E6] at m2
  have hlen := EZ hnt qZ
  have qC : Sat β (hps.set i (.abs (aq (bw (aB O x (fun o => { o with ai := dW name o.ai })) L)))) w' := hS.set hp (fun F hF => aq.step (k := x) (show (aq (bw O L)).h F w from hF) (fun y hy => sA hy) (fun G hG => by
    rw [kY hd] at hG
    rw [kY (by rw [bA]; exact hd), bA]
    rw [show (dW name (obj O x).ai).length = (obj O x).ai.length - 1 by omega]
    exact step_map hG m2 m3))
  rw [drop_cons g1]
  unfold wpList
  rw [dr, if_pos g2]
  refine .inl (gn (v := .tuple #[]) (w' := w') (by
    rw [cY]
    refine .inl ?_
    obtain ⟨dst, op, type, pos, after, guard⟩ := o
    cases g3
    simp only [execOp, resolve, invoke, builtin]
    simp [go_sem, h2, h3, m1]) ?_)
  rw [cW]
  have hK := K _ rfl junk _ (by rw [zK]; exact qC)
  rw [← g4] at hK
  exact hK
end rules
section after
variable {O O2 : bM} {j x : Nat} {f : aM → aM} {kd : Int}
theorem ku (e : O2 = aB O j f) (h : (obj O x).kind = kd) (hf : ∀ o, (f o).kind = o.kind := by intro _; rfl) : (obj O2 x).kind = kd := by subst e; exact (gE hf).trans h
theorem fu {α : Type} (g : aM → α) {v : α} (e : O2 = aB O j f) (h : g (obj O x) = v) (hf : ∀ o, g (f o) = g o := by intro _; rfl) : g (obj O2 x) = v := by subst e; exact (cI hf).trans h
end after
end Go.Proofs.YtkiedlmhocglhaaGreat
end
section
namespace Go.Proofs.YtkiedlmhocglhaaGreat
open Go.RowKit Go.Maps
attribute [local irreducible] ah aI af aj
set_option maxRecDepth 100000 in
set_option maxHeartbeats 4000000 in
theorem cg {β : Bs} (b : Nat) : Spec Tryz.prog β 220 #[.pointer (some ⟨b, 0, none⟩)] [] (fun v l => v = .pointer (some ⟨b, 0, none⟩) ∧ l = []) := by
 refine Spec.enter Tryz.func220 rfl Tryz.ntmps220 (Nat.le_of_ble_eq_true rfl) (fun R => ?_)
 refine SR ?_
 refine gK 1 [] [] ?_
 refine NS ?_
 refine gK 2 [(2, .pointer (some ⟨b, 0, none⟩))] [] ?_
 refine NN (af.ret ?_)
 exact RT (.pointer (some ⟨b, 0, none⟩)) [0] (⟨rfl, rfl⟩)
set_option maxRecDepth 100000 in
set_option maxHeartbeats 4000000 in
theorem jf {β : Bs} (a : Value) : Spec Tryz.prog β 219 #[a] [] (fun v l => v = .int .i64 1 ∧ l = []) := by
 refine Spec.enter Tryz.func219 rfl Tryz.ntmps219 (Nat.le_of_ble_eq_true rfl) (fun R => ?_)
 refine SR ?_
 refine gK 1 [] [] ?_
 refine NS ?_
 refine gK 1 [(2, .int .i64 1)] [] ?_
 refine NN (af.ret ?_)
 exact RT (.int .i64 1) [0] (⟨rfl, rfl⟩)
set_option maxRecDepth 100000 in
set_option maxHeartbeats 4000000 in
theorem jg {β : Bs} (a : Value) : Spec Tryz.prog β 222 #[a] [] (fun v l => v = .int .i64 2 ∧ l = []) := by
 refine Spec.enter Tryz.func222 rfl Tryz.ntmps222 (Nat.le_of_ble_eq_true rfl) (fun R => ?_)
 refine SR ?_
 refine gK 1 [] [] ?_
 refine NS ?_
 refine gK 1 [(2, .int .i64 2)] [] ?_
 refine NN (af.ret ?_)
 exact RT (.int .i64 2) [0] (⟨rfl, rfl⟩)
set_option maxRecDepth 100000 in
set_option maxHeartbeats 4000000 in
theorem jN {β : Bs} (a : Value) : Spec Tryz.prog β 221 #[a] [] (fun v l => v = .int .i64 3 ∧ l = []) := by
 refine Spec.enter Tryz.func221 rfl Tryz.ntmps221 (Nat.le_of_ble_eq_true rfl) (fun R => ?_)
 refine SR ?_
 refine gK 1 [] [] ?_
 refine NS ?_
 refine gK 1 [(2, .int .i64 3)] [] ?_
 refine NN (af.ret ?_)
 exact RT (.int .i64 3) [0] (⟨rfl, rfl⟩)
set_option maxRecDepth 100000 in
set_option maxHeartbeats 4000000 in
theorem Bv {β : Bs} (O : bM) (L : HL) (d : Nat) (hkd : (obj O d).kind = 2) (name : ByteArray) (hsz : name.size ≤ 1048576) (hno : aT name (obj O d).ai = none) (hel : (obj O d).ai.length ≤ 1048576) (t : Th) (hkt : (obj O t.k).kind = t.kind) (h3 : t.kind = 1 ∨ t.kind = 2 ∨ t.kind = 3) (hb : 0 ≤ (obj O t.k).links ∧ (obj O t.k).links ≤ 1048576) :
    Spec Tryz.prog β 30 #[.pointer (some ⟨(L.b d), 0, none⟩), .string name, (cM L t)] [.abs (aq (aS O L)), .abs (aq (bw O L))] (fun v l => v = .tuple #[] ∧ l = [.abs (aq (aS (lK O d name t) L)), .abs (aq (bw (lK O d name t) L))]) := by
 refine Spec.enter Tryz.func30 rfl Tryz.ntmps30 (Nat.le_of_ble_eq_true rfl) (fun R => ?_)
 refine af.seq ?_
 obtain ⟨tk, kd⟩ := t; simp only at hkt h3; rcases h3 with rfl | rfl | rfl
 ·
  replace hkt : (obj O tk).kind = 1 := hkt
  replace hb : 0 ≤ (obj O tk).links ∧ (obj O tk).links ≤ 1048576 := hb
  refine af.region ?_
  refine gK 6 [(11, .map (some (L.m d))), (12, .string name), (13, .iface 92 (.pointer (some ⟨(L.b tk), 0, none⟩)))] [(3, v_ 0 (bE L hkd))] ?_
  refine Jc 1 [(0, 0)] (t := ⟨tk, 1⟩) hkd hno (fun bF bK => ?_)
  have gS := ku bK hkd
  have jO := ku bK hkt
  have hf3 : (obj bF tk).links = (obj O tk).links := fu aM.links bK rfl
  refine NS ?_
  refine gK 1 [(14, .iface 92 (.pointer (some ⟨(L.b tk), 0, none⟩)))] [] ?_
  refine gL [] (cg (L.b tk)) ?_
  rintro _ _ ⟨rfl, rfl⟩
  refine gK 6 [(19, .int .i64 ((obj bF tk).links + 1)), (21, .pointer (some ⟨(L.b tk), 6, none⟩))] [(2, v_ 0 (j6 L jO)), (3, p_ ⟨[], none, none, none, some (.int .i64 ((obj bF tk).links + 1))⟩ [(Value.int .i64 (IntKind.wrap .i64 ((obj bF tk).links + 1))) = (.int .i64 ((obj bF tk).links + 1))] ⟨bQ (by omega) (by omega) (by omega), trivial⟩)] ?_
  refine oK 0 [(1, 1)] tk 6 (fun o => { o with links := o.links + 1 }) jO (fun cU cq => ?_)
  have sF := ku cq gS
  have sG := ku cq jO
  refine NS ?_
  refine gK 7 [(6, .pointer none), (7, .bool false)] [] ?_
  refine NS ?_
  refine gK 1 [(27, .bool false)] [] ?_
  refine NN ?_
  refine CF ?_
  refine af.skip ?_
  exact RF (l := [.abs (aq (aS cU L)), .abs (aq (bw cU L))]) (.tuple #[]) [0, 1, 2] (⟨rfl, by subst cq; subst bK; rfl⟩)
 ·
  replace hkt : (obj O tk).kind = 2 := hkt
  replace hb : 0 ≤ (obj O tk).links ∧ (obj O tk).links ≤ 1048576 := hb
  refine af.region ?_
  refine gK 6 [(11, .map (some (L.m d))), (12, .string name), (13, .iface 98 (.pointer (some ⟨(L.b tk), 0, none⟩)))] [(3, v_ 0 (bE L hkd))] ?_
  refine Jc 1 [(0, 0)] (t := ⟨tk, 2⟩) hkd hno (fun bF bK => ?_)
  have Fa := ku bK hkd
  have Ck := ku bK hkt
  have NR : (obj bF tk).links = (obj O tk).links := fu aM.links bK rfl
  refine NS ?_
  refine gK 1 [(14, .iface 98 (.pointer (some ⟨(L.b tk), 0, none⟩)))] [] ?_
  refine gL [] (cg (L.b tk)) ?_
  rintro _ _ ⟨rfl, rfl⟩
  refine gK 6 [(19, .int .i64 ((obj bF tk).links + 1)), (21, .pointer (some ⟨(L.b tk), 6, none⟩))] [(2, v_ 0 (j6 L Ck)), (3, p_ ⟨[], none, none, none, some (.int .i64 ((obj bF tk).links + 1))⟩ [(Value.int .i64 (IntKind.wrap .i64 ((obj bF tk).links + 1))) = (.int .i64 ((obj bF tk).links + 1))] ⟨bQ (by omega) (by omega) (by omega), trivial⟩)] ?_
  refine oK 0 [(1, 1)] tk 6 (fun o => { o with links := o.links + 1 }) Ck (fun cU cq => ?_)
  have wZ := ku cq Fa
  have Cl := ku cq Ck
  refine NS ?_
  refine gK 7 [(6, .pointer (some ⟨(L.b tk), 0, none⟩)), (7, .bool true)] [] ?_
  refine NS ?_
  refine gK 1 [(27, .bool true)] [] ?_
  refine NN ?_
  refine CT ?_
  refine af.region ?_
  refine gK 4 [(29, .pointer (some ⟨(L.b d), 0, none⟩)), (31, .pointer (some ⟨(L.b tk), 10, none⟩))] [] ?_
  refine Le 0 [(1, 1)] tk (some d) Cl (fun qD jt => ?_)
  have Gy := ku jt wZ
  have Nd := ku jt Cl
  refine NL ?_
  exact RF (l := [.abs (aq (aS qD L)), .abs (aq (bw qD L))]) (.tuple #[]) [0, 1, 2] (⟨rfl, by subst jt; subst cq; subst bK; rfl⟩)
 ·
  replace hkt : (obj O tk).kind = 3 := hkt
  replace hb : 0 ≤ (obj O tk).links ∧ (obj O tk).links ≤ 1048576 := hb
  refine af.region ?_
  refine gK 6 [(11, .map (some (L.m d))), (12, .string name), (13, .iface 95 (.pointer (some ⟨(L.b tk), 0, none⟩)))] [(3, v_ 0 (bE L hkd))] ?_
  refine Jc 1 [(0, 0)] (t := ⟨tk, 3⟩) hkd hno (fun bF bK => ?_)
  have KE := ku bK hkd
  have Cm := ku bK hkt
  have Nu : (obj bF tk).links = (obj O tk).links := fu aM.links bK rfl
  refine NS ?_
  refine gK 1 [(14, .iface 95 (.pointer (some ⟨(L.b tk), 0, none⟩)))] [] ?_
  refine gL [] (cg (L.b tk)) ?_
  rintro _ _ ⟨rfl, rfl⟩
  refine gK 6 [(19, .int .i64 ((obj bF tk).links + 1)), (21, .pointer (some ⟨(L.b tk), 6, none⟩))] [(2, v_ 0 (j6 L Cm)), (3, p_ ⟨[], none, none, none, some (.int .i64 ((obj bF tk).links + 1))⟩ [(Value.int .i64 (IntKind.wrap .i64 ((obj bF tk).links + 1))) = (.int .i64 ((obj bF tk).links + 1))] ⟨bQ (by omega) (by omega) (by omega), trivial⟩)] ?_
  refine oK 0 [(1, 1)] tk 6 (fun o => { o with links := o.links + 1 }) Cm (fun cU cq => ?_)
  have vW := ku cq KE
  have KF := ku cq Cm
  refine NS ?_
  refine gK 7 [(6, .pointer none), (7, .bool false)] [] ?_
  refine NS ?_
  refine gK 1 [(27, .bool false)] [] ?_
  refine NN ?_
  refine CF ?_
  refine af.skip ?_
  exact RF (l := [.abs (aq (aS cU L)), .abs (aq (bw cU L))]) (.tuple #[]) [0, 1, 2] (⟨rfl, by subst cq; subst bK; rfl⟩)
set_option maxRecDepth 100000 in
set_option maxHeartbeats 4000000 in
theorem fo {β : Bs} (X : FM) (f m t : Nat) (hX : 0 ≤ X.ai ∧ X.ai ≤ 1048576 ∧ -1125899906842624 ≤ X.used ∧ X.used ≤ 1125899906842624 ∧ 0 ≤ X.last ∧ X.last ≤ 1125899906842624) (O : bM) (L : HL) (d : Nat) (hkd : (obj O d).kind = 2) (name : ByteArray) (hsz : name.size ≤ 1048576) (hno : aT name (obj O d).ai = none) (hel : (obj O d).ai.length ≤ 1048576) (th : Th) (hkt : (obj O th.k).kind = th.kind) (h3 : th.kind = 1 ∨ th.kind = 2 ∨ th.kind = 3) (hb : 0 ≤ (obj O th.k).links ∧ (obj O th.k).links ≤ 1048576) :
    Spec Tryz.prog β 118 #[.pointer (some ⟨f, 0, none⟩), .pointer (some ⟨(L.b d), 0, none⟩), .string name, (cM L th)] [.blk f [.int .i64 (X.cN), .int .i64 (X.cB), .int .i64 (X.cH), .int .i64 (X.cS), .int .i64 (X.cZ), .map (some m), .pointer (some ⟨t, 0, none⟩), .int .i64 (X.last), .int .i64 (X.ai), .int .i64 (X.used)] 89, .abs (aq (aS O L)), .abs (aq (bw O L))] (fun v l => v = .tuple #[] ∧ l = [.blk f [.int .i64 (X.cN), .int .i64 (X.cB), .int .i64 (X.cH), .int .i64 (X.cS), .int .i64 (X.cZ), .map (some m), .pointer (some ⟨t, 0, none⟩), .int .i64 (X.last), .int .i64 (X.ai + 1), .int .i64 (X.used)] 89, .abs (aq (aS (bh X O d name th) L)), .abs (aq (bw (bh X O d name th) L))]) := by
 refine Spec.enter Tryz.func118 rfl Tryz.ntmps118 (Nat.le_of_ble_eq_true rfl) (fun R => ?_)
 refine af.seq ?_
 skip
 ·
  refine af.region ?_
  refine gK 3 [(8, .pointer (some ⟨(L.b d), 0, none⟩)), (9, .string name), (10, (cM L th))] [] ?_
  refine gL [1, 2] (Bv O L d hkd name hsz hno hel th hkt h3 hb) ?_
  rintro _ _ ⟨rfl, rfl⟩
  refine NS ?_
  have vX : (obj (lK O d name th) d).kind = 2 := (sD).trans (hkd)
  generalize bK : (lK O d name th) = bF at vX ⊢
  refine gK 9 [(17, .agg #[.int .i64 (X.cS), .int .i64 (X.cZ)]), (20, .pointer (some ⟨(L.b d), 4, none⟩))] [(5, A_ 2 f 2)] ?_
  refine DH 0 [(1, 1)] d X.cS X.cZ vX (fun cU cq => ?_)
  have Nf := ku cq vX
  refine NN (af.region ?_)
  refine gC 8 [] [(3, a_ 2 f), (4, p_ ⟨[], none, none, none, some (.int .i64 (X.ai + 1))⟩ [(Value.int .i64 (IntKind.wrap .i64 (X.ai + 1))) = (.int .i64 (X.ai + 1))] ⟨bQ (by omega) (by omega) (by omega), trivial⟩), (7, a_ 2 f)] [(2, [(8, .int .i64 (X.ai + 1))])] ?_
  refine NL ?_
  exact RF (l := [.blk f [.int .i64 (X.cN), .int .i64 (X.cB), .int .i64 (X.cH), .int .i64 (X.cS), .int .i64 (X.cZ), .map (some m), .pointer (some ⟨t, 0, none⟩), .int .i64 (X.last), .int .i64 (X.ai + 1), .int .i64 (X.used)] 89, .abs (aq (aS cU L)), .abs (aq (bw cU L))]) (.tuple #[]) [2, 0, 1, 3] (⟨rfl, by subst cq; subst bK; rfl⟩)
set_option maxRecDepth 100000 in
set_option maxHeartbeats 4000000 in
theorem gu {β : Bs} (X : FM) (f m t : Nat) (hX : 0 ≤ X.ai ∧ X.ai ≤ 1048576 ∧ -1125899906842624 ≤ X.used ∧ X.used ≤ 1125899906842624 ∧ 0 ≤ X.last ∧ X.last ≤ 1125899906842624) (O : bM) (L : HL) (d : Nat) (hkd : (obj O d).kind = 2) (name : ByteArray) (hsz : name.size ≤ 1048576) (th : Th) (hkt : (obj O th.k).kind = th.kind) (h3 : th.kind = 1 ∨ th.kind = 2 ∨ th.kind = 3) (qZ : aT name (obj O d).ai = some th) (hnt : fI (obj O d).ai) (_ : (obj O d).ai.length ≤ 1048576) (hb : 0 ≤ (obj O th.k).links ∧ (obj O th.k).links ≤ 1048576) :
    Spec Tryz.prog β 149 #[.pointer (some ⟨f, 0, none⟩), .pointer (some ⟨(L.b d), 0, none⟩), .string name] [.blk f [.int .i64 (X.cN), .int .i64 (X.cB), .int .i64 (X.cH), .int .i64 (X.cS), .int .i64 (X.cZ), .map (some m), .pointer (some ⟨t, 0, none⟩), .int .i64 (X.last), .int .i64 (X.ai), .int .i64 (X.used)] 89, .abs (aq (aS O L)), .abs (aq (bw O L))] (fun v l => v = cM L th ∧ l = [.blk f [.int .i64 (X.cN), .int .i64 (X.cB), .int .i64 (X.cH), .int .i64 (X.cS), .int .i64 (X.cZ), .map (some m), .pointer (some ⟨t, 0, none⟩), .int .i64 (X.last), .int .i64 (X.ai - 1), .int .i64 (X.used)] 89, .abs (aq (aS (aG X O d name th) L)), .abs (aq (bw (aG X O d name th) L))]) := by
 refine Spec.enter Tryz.func149 rfl Tryz.ntmps149 (Nat.le_of_ble_eq_true rfl) (fun R => ?_)
 refine af.seq ?_
 obtain ⟨tk, kd⟩ := th; simp only at hkt h3; rcases h3 with rfl | rfl | rfl
 ·
  replace hkt : (obj O tk).kind = 1 := hkt
  replace hb : 0 ≤ (obj O tk).links ∧ (obj O tk).links ≤ 1048576 := hb
  refine af.region ?_
  refine gK 1 [] [] ?_
  refine NS ?_
  refine gK 5 [(11, .map (some (L.m d))), (12, .string name)] [(3, v_ 1 (bE L hkd))] ?_
  refine gF 2 hkd qZ ?_
  refine gK 1 [(7, .iface 92 (.pointer (some ⟨(L.b tk), 0, none⟩)))] [] ?_
  refine NS ?_
  refine gK 5 [(17, .map (some (L.m d))), (18, .string name)] [(3, v_ 1 (bE L hkd))] ?_
  refine Jd 2 [(1, 0)] hkd qZ hnt (fun bF bK => ?_)
  have Gz := ku bK hkd
  have KG := ku bK hkt
  have LU : (obj bF tk).links = (obj O tk).links := fu aM.links bK rfl
  refine NS ?_
  refine gK 9 [(24, .agg #[.int .i64 (X.cS), .int .i64 (X.cZ)]), (27, .pointer (some ⟨(L.b d), 4, none⟩))] [(5, A_ 0 f 2)] ?_
  refine DH 1 [(2, 1)] d X.cS X.cZ Gz (fun cU cq => ?_)
  have GA := ku cq Gz
  have yX := ku cq KG
  have Nv : (obj cU tk).links = (obj O tk).links := fu aM.links cq LU
  refine NS ?_
  refine gC 8 [] [(3, a_ 0 f), (4, p_ ⟨[], none, none, none, some (.int .i64 (X.ai - 1))⟩ [(Value.int .i64 (IntKind.wrap .i64 (X.ai - 1))) = (.int .i64 (X.ai - 1))] ⟨bQ (by omega) (by omega) (by omega), trivial⟩), (7, a_ 0 f)] [(0, [(8, .int .i64 (X.ai - 1))])] ?_
  refine NS ?_
  refine gK 1 [(35, .iface 92 (.pointer (some ⟨(L.b tk), 0, none⟩)))] [] ?_
  refine gL [] (cg (L.b tk)) ?_
  rintro _ _ ⟨rfl, rfl⟩
  refine gK 6 [(40, .int .i64 ((obj cU tk).links - 1)), (42, .pointer (some ⟨(L.b tk), 6, none⟩))] [(2, v_ 1 (j6 L yX)), (3, p_ ⟨[], none, none, none, some (.int .i64 ((obj cU tk).links - 1))⟩ [(Value.int .i64 (IntKind.wrap .i64 ((obj cU tk).links - 1))) = (.int .i64 ((obj cU tk).links - 1))] ⟨bQ (by omega) (by omega) (by omega), trivial⟩)] ?_
  refine oK 1 [(2, 1)] tk 6 (fun o => { o with links := o.links - 1 }) yX (fun qD jt => ?_)
  have Ng := ku jt GA
  have Nh := ku jt yX
  refine NS ?_
  refine gK 2 [(6, .iface 92 (.pointer (some ⟨(L.b tk), 0, none⟩)))] [] ?_
  refine NN (af.ret ?_)
  exact RT (l := [.blk f [.int .i64 (X.cN), .int .i64 (X.cB), .int .i64 (X.cH), .int .i64 (X.cS), .int .i64 (X.cZ), .map (some m), .pointer (some ⟨t, 0, none⟩), .int .i64 (X.last), .int .i64 (X.ai - 1), .int .i64 (X.used)] 89, .abs (aq (aS qD L)), .abs (aq (bw qD L))]) (.iface 92 (.pointer (some ⟨(L.b tk), 0, none⟩))) [0, 1, 2, 3] (⟨rfl, by subst jt; subst cq; subst bK; rfl⟩)
 ·
  replace hkt : (obj O tk).kind = 2 := hkt
  replace hb : 0 ≤ (obj O tk).links ∧ (obj O tk).links ≤ 1048576 := hb
  refine af.region ?_
  refine gK 1 [] [] ?_
  refine NS ?_
  refine gK 5 [(11, .map (some (L.m d))), (12, .string name)] [(3, v_ 1 (bE L hkd))] ?_
  refine gF 2 hkd qZ ?_
  refine gK 1 [(7, .iface 98 (.pointer (some ⟨(L.b tk), 0, none⟩)))] [] ?_
  refine NS ?_
  refine gK 5 [(17, .map (some (L.m d))), (18, .string name)] [(3, v_ 1 (bE L hkd))] ?_
  refine Jd 2 [(1, 0)] hkd qZ hnt (fun bF bK => ?_)
  have GD := ku bK hkd
  have KH := ku bK hkt
  have LV : (obj bF tk).links = (obj O tk).links := fu aM.links bK rfl
  refine NS ?_
  refine gK 9 [(24, .agg #[.int .i64 (X.cS), .int .i64 (X.cZ)]), (27, .pointer (some ⟨(L.b d), 4, none⟩))] [(5, A_ 0 f 2)] ?_
  refine DH 1 [(2, 1)] d X.cS X.cZ GD (fun cU cq => ?_)
  have KI := ku cq GD
  have Cn := ku cq KH
  have Nw : (obj cU tk).links = (obj O tk).links := fu aM.links cq LV
  refine NS ?_
  refine gC 8 [] [(3, a_ 0 f), (4, p_ ⟨[], none, none, none, some (.int .i64 (X.ai - 1))⟩ [(Value.int .i64 (IntKind.wrap .i64 (X.ai - 1))) = (.int .i64 (X.ai - 1))] ⟨bQ (by omega) (by omega) (by omega), trivial⟩), (7, a_ 0 f)] [(0, [(8, .int .i64 (X.ai - 1))])] ?_
  refine NS ?_
  refine gK 1 [(35, .iface 98 (.pointer (some ⟨(L.b tk), 0, none⟩)))] [] ?_
  refine gL [] (cg (L.b tk)) ?_
  rintro _ _ ⟨rfl, rfl⟩
  refine gK 6 [(40, .int .i64 ((obj cU tk).links - 1)), (42, .pointer (some ⟨(L.b tk), 6, none⟩))] [(2, v_ 1 (j6 L Cn)), (3, p_ ⟨[], none, none, none, some (.int .i64 ((obj cU tk).links - 1))⟩ [(Value.int .i64 (IntKind.wrap .i64 ((obj cU tk).links - 1))) = (.int .i64 ((obj cU tk).links - 1))] ⟨bQ (by omega) (by omega) (by omega), trivial⟩)] ?_
  refine oK 1 [(2, 1)] tk 6 (fun o => { o with links := o.links - 1 }) Cn (fun qD jt => ?_)
  have Ni := ku jt KI
  have Nj := ku jt Cn
  refine NS ?_
  refine gK 2 [(6, .iface 98 (.pointer (some ⟨(L.b tk), 0, none⟩)))] [] ?_
  refine NN (af.ret ?_)
  exact RT (l := [.blk f [.int .i64 (X.cN), .int .i64 (X.cB), .int .i64 (X.cH), .int .i64 (X.cS), .int .i64 (X.cZ), .map (some m), .pointer (some ⟨t, 0, none⟩), .int .i64 (X.last), .int .i64 (X.ai - 1), .int .i64 (X.used)] 89, .abs (aq (aS qD L)), .abs (aq (bw qD L))]) (.iface 98 (.pointer (some ⟨(L.b tk), 0, none⟩))) [0, 1, 2, 3] (⟨rfl, by subst jt; subst cq; subst bK; rfl⟩)
 ·
  replace hkt : (obj O tk).kind = 3 := hkt
  replace hb : 0 ≤ (obj O tk).links ∧ (obj O tk).links ≤ 1048576 := hb
  refine af.region ?_
  refine gK 1 [] [] ?_
  refine NS ?_
  refine gK 5 [(11, .map (some (L.m d))), (12, .string name)] [(3, v_ 1 (bE L hkd))] ?_
  refine gF 2 hkd qZ ?_
  refine gK 1 [(7, .iface 95 (.pointer (some ⟨(L.b tk), 0, none⟩)))] [] ?_
  refine NS ?_
  refine gK 5 [(17, .map (some (L.m d))), (18, .string name)] [(3, v_ 1 (bE L hkd))] ?_
  refine Jd 2 [(1, 0)] hkd qZ hnt (fun bF bK => ?_)
  have GF := ku bK hkd
  have KJ := ku bK hkt
  have LW : (obj bF tk).links = (obj O tk).links := fu aM.links bK rfl
  refine NS ?_
  refine gK 9 [(24, .agg #[.int .i64 (X.cS), .int .i64 (X.cZ)]), (27, .pointer (some ⟨(L.b d), 4, none⟩))] [(5, A_ 0 f 2)] ?_
  refine DH 1 [(2, 1)] d X.cS X.cZ GF (fun cU cq => ?_)
  have KL := ku cq GF
  have Co := ku cq KJ
  have Nx : (obj cU tk).links = (obj O tk).links := fu aM.links cq LW
  refine NS ?_
  refine gC 8 [] [(3, a_ 0 f), (4, p_ ⟨[], none, none, none, some (.int .i64 (X.ai - 1))⟩ [(Value.int .i64 (IntKind.wrap .i64 (X.ai - 1))) = (.int .i64 (X.ai - 1))] ⟨bQ (by omega) (by omega) (by omega), trivial⟩), (7, a_ 0 f)] [(0, [(8, .int .i64 (X.ai - 1))])] ?_
  refine NS ?_
  refine gK 1 [(35, .iface 95 (.pointer (some ⟨(L.b tk), 0, none⟩)))] [] ?_
  refine gL [] (cg (L.b tk)) ?_
  rintro _ _ ⟨rfl, rfl⟩
  refine gK 6 [(40, .int .i64 ((obj cU tk).links - 1)), (42, .pointer (some ⟨(L.b tk), 6, none⟩))] [(2, v_ 1 (j6 L Co)), (3, p_ ⟨[], none, none, none, some (.int .i64 ((obj cU tk).links - 1))⟩ [(Value.int .i64 (IntKind.wrap .i64 ((obj cU tk).links - 1))) = (.int .i64 ((obj cU tk).links - 1))] ⟨bQ (by omega) (by omega) (by omega), trivial⟩)] ?_
  refine oK 1 [(2, 1)] tk 6 (fun o => { o with links := o.links - 1 }) Co (fun qD jt => ?_)
  have Nk := ku jt KL
  have Nl := ku jt Co
  refine NS ?_
  refine gK 2 [(6, .iface 95 (.pointer (some ⟨(L.b tk), 0, none⟩)))] [] ?_
  refine NN (af.ret ?_)
  exact RT (l := [.blk f [.int .i64 (X.cN), .int .i64 (X.cB), .int .i64 (X.cH), .int .i64 (X.cS), .int .i64 (X.cZ), .map (some m), .pointer (some ⟨t, 0, none⟩), .int .i64 (X.last), .int .i64 (X.ai - 1), .int .i64 (X.used)] 89, .abs (aq (aS qD L)), .abs (aq (bw qD L))]) (.iface 95 (.pointer (some ⟨(L.b tk), 0, none⟩))) [0, 1, 2, 3] (⟨rfl, by subst jt; subst cq; subst bK; rfl⟩)
end Go.Proofs.YtkiedlmhocglhaaGreat
end
section
namespace Go.Proofs
open Go.Shelf
def Tryz.keysI_ren : Go.Shelf.Ren := ⟨fun | 7 => 33 | 10 => 76 | n => n, fun | 23 => 83 | 26 => 3 | 3 => 87 | 28 => 110 | 0 => 0 | 27 => 109 | 33 => 147 | 4 => 4 | n => n, fun | n => n⟩
theorem Tryz.keysI : Go.Proofs.SlLaysZI.n7 Tryz.prog Tryz.keysI_ren := {
  mixed := by kernel_rfl
  f7 := ⟨Tryz.f33.name, by decide, Tryz.func33.trans (congrArg some (by kernel_rfl))⟩
  f10 := ⟨Tryz.f76.name, by decide, Tryz.func76.trans (congrArg some (by kernel_rfl))⟩
  t0 := Tryz.underlying0
  a0 := Tryz.isAgg0
  z0 := Tryz.sizeOf0
  v0 := Tryz.zeroValue0
  t4 := Tryz.underlying4
  a4 := Tryz.isAgg4
  z4 := Tryz.sizeOf4
  v4 := Tryz.zeroValue4
  t23 := Tryz.underlying83
  a23 := Tryz.isAgg83
  z23 := Tryz.sizeOf83
  v23 := Tryz.zeroValue83
  t26 := Tryz.underlying3
  a26 := Tryz.isAgg3
  z26 := Tryz.sizeOf3
  v26 := Tryz.zeroValue3
  t27 := Tryz.underlying109
  a27 := Tryz.isAgg109
  z27 := Tryz.sizeOf109
  v27 := Tryz.zeroValue109
  t28 := Tryz.underlying110
  a28 := Tryz.isAgg110
  z28 := Tryz.sizeOf110
  v28 := Tryz.zeroValue110
  t33 := Tryz.underlying147
  a33 := Tryz.isAgg147
  z33 := Tryz.sizeOf147
  v33 := Tryz.zeroValue147 }
def Tryz.sortedI_ren : Go.Shelf.Ren := ⟨fun | 6 => 32 | 8 => 74 | 9 => 75 | 11 => 127 | 13 => 129 | 12 => 128 | 23 => 159 | 24 => 160 | 14 => 150 | 15 => 151 | 16 => 152 | 17 => 153 | 18 => 154 | 19 => 155 | 20 => 156 | 21 => 157 | 22 => 158 | 25 => 178 | 26 => 179 | 27 => 180 | 28 => 181 | 29 => 182 | 30 => 183 | 31 => 191 | n => n, fun | 26 => 3 | 28 => 110 | 24 => 50 | 0 => 0 | 3 => 3 | 37 => 195 | 48 => 219 | 50 => 221 | 4 => 4 | 40 => 213 | 39 => 212 | 45 => 204 | 5 => 5 | 9 => 9 | 51 => 235 | 55 => 239 | 57 => 247 | 58 => 248 | 33 => 147 | n => n, fun | n => n⟩
theorem Tryz.sortedI : Go.Proofs.SlLaysZI.n6 Tryz.prog Tryz.sortedI_ren := {
  mixed := by kernel_rfl
  f6 := ⟨Tryz.f32.name, by decide, Tryz.func32.trans (congrArg some (by kernel_rfl))⟩
  f8 := ⟨Tryz.f74.name, by decide, Tryz.func74.trans (congrArg some (by kernel_rfl))⟩
  f11 := ⟨Tryz.f127.name, by decide, Tryz.func127.trans (congrArg some (by kernel_rfl))⟩
  t0 := Tryz.underlying0
  a0 := Tryz.isAgg0
  z0 := Tryz.sizeOf0
  v0 := Tryz.zeroValue0
  t24 := Tryz.underlying50
  a24 := Tryz.isAgg50
  z24 := Tryz.sizeOf50
  v24 := Tryz.zeroValue50
  t26 := Tryz.underlying3
  a26 := Tryz.isAgg3
  z26 := Tryz.sizeOf3
  v26 := Tryz.zeroValue3
  t28 := Tryz.underlying110
  a28 := Tryz.isAgg110
  z28 := Tryz.sizeOf110
  v28 := Tryz.zeroValue110
  i26 := by kernel_rfl }
def Tryz.sortI_ren : Go.Shelf.Ren := ⟨fun | 5 => 75 | 8 => 129 | 7 => 128 | 19 => 159 | 20 => 160 | 10 => 150 | 11 => 151 | 12 => 152 | 13 => 153 | 14 => 154 | 15 => 155 | 16 => 156 | 17 => 157 | 18 => 158 | 30 => 178 | 31 => 179 | 32 => 180 | 33 => 181 | 34 => 182 | 35 => 183 | 40 => 191 | n => n, fun | 23 => 50 | 25 => 3 | 3 => 3 | 32 => 195 | 22 => 50 | 0 => 0 | 44 => 219 | 46 => 221 | 4 => 4 | 36 => 213 | 35 => 212 | 41 => 204 | 5 => 5 | 9 => 9 | 53 => 235 | 57 => 239 | 63 => 247 | 64 => 248 | n => n, fun | n => n⟩
theorem Tryz.sortI : Go.Proofs.SlLaysM.n5 Tryz.prog Tryz.sortI_ren := {
  mixed := by kernel_rfl
  f5 := ⟨Tryz.f75.name, by decide, Tryz.func75.trans (congrArg some (by kernel_rfl))⟩
  f7 := ⟨Tryz.f128.name, by decide, Tryz.func128.trans (congrArg some (by kernel_rfl))⟩
  f8 := Tryz.func129.trans (congrArg some (by kernel_rfl))
  f10 := ⟨Tryz.f150.name, by decide, Tryz.func150.trans (congrArg some (by kernel_rfl))⟩
  f11 := ⟨Tryz.f151.name, by decide, Tryz.func151.trans (congrArg some (by kernel_rfl))⟩
  f12 := ⟨Tryz.f152.name, by decide, Tryz.func152.trans (congrArg some (by kernel_rfl))⟩
  f13 := ⟨Tryz.f153.name, by decide, Tryz.func153.trans (congrArg some (by kernel_rfl))⟩
  f14 := ⟨Tryz.f154.name, by decide, Tryz.func154.trans (congrArg some (by kernel_rfl))⟩
  f15 := ⟨Tryz.f155.name, by decide, Tryz.func155.trans (congrArg some (by kernel_rfl))⟩
  f16 := ⟨Tryz.f156.name, by decide, Tryz.func156.trans (congrArg some (by kernel_rfl))⟩
  f17 := ⟨Tryz.f157.name, by decide, Tryz.func157.trans (congrArg some (by kernel_rfl))⟩
  f18 := ⟨Tryz.f158.name, by decide, Tryz.func158.trans (congrArg some (by kernel_rfl))⟩
  f19 := Tryz.func159.trans (congrArg some (by kernel_rfl))
  f20 := Tryz.func160.trans (congrArg some (by kernel_rfl))
  f30 := ⟨Tryz.f178.name, by decide, Tryz.func178.trans (congrArg some (by kernel_rfl))⟩
  f31 := Tryz.func179.trans (congrArg some (by kernel_rfl))
  f32 := Tryz.func180.trans (congrArg some (by kernel_rfl))
  f33 := ⟨Tryz.f181.name, by decide, Tryz.func181.trans (congrArg some (by kernel_rfl))⟩
  f34 := ⟨Tryz.f182.name, by decide, Tryz.func182.trans (congrArg some (by kernel_rfl))⟩
  f35 := ⟨Tryz.f183.name, by decide, Tryz.func183.trans (congrArg some (by kernel_rfl))⟩
  f40 := ⟨Tryz.f191.name, by decide, Tryz.func191.trans (congrArg some (by kernel_rfl))⟩
  t0 := Tryz.underlying0
  a0 := Tryz.isAgg0
  z0 := Tryz.sizeOf0
  v0 := Tryz.zeroValue0
  t3 := Tryz.underlying3
  a3 := Tryz.isAgg3
  z3 := Tryz.sizeOf3
  v3 := Tryz.zeroValue3
  t4 := Tryz.underlying4
  a4 := Tryz.isAgg4
  z4 := Tryz.sizeOf4
  v4 := Tryz.zeroValue4
  t5 := Tryz.underlying5
  a5 := Tryz.isAgg5
  z5 := Tryz.sizeOf5
  v5 := Tryz.zeroValue5
  t9 := Tryz.underlying9
  a9 := Tryz.isAgg9
  z9 := Tryz.sizeOf9
  v9 := Tryz.zeroValue9
  t22 := Tryz.underlying50
  a22 := Tryz.isAgg50
  z22 := Tryz.sizeOf50
  v22 := Tryz.zeroValue50
  t23 := Tryz.underlying50
  a23 := Tryz.isAgg50
  z23 := Tryz.sizeOf50
  v23 := Tryz.zeroValue50
  t25 := Tryz.underlying3
  a25 := Tryz.isAgg3
  z25 := Tryz.sizeOf3
  v25 := Tryz.zeroValue3
  t32 := Tryz.underlying195
  a32 := Tryz.isAgg195
  z32 := Tryz.sizeOf195
  v32 := Tryz.zeroValue195
  t35 := Tryz.underlying212
  a35 := Tryz.isAgg212
  z35 := Tryz.sizeOf212
  v35 := Tryz.zeroValue212
  t36 := Tryz.underlying213
  a36 := Tryz.isAgg213
  z36 := Tryz.sizeOf213
  v36 := Tryz.zeroValue213
  t41 := Tryz.underlying204
  a41 := Tryz.isAgg204
  z41 := Tryz.sizeOf204
  v41 := Tryz.zeroValue204
  t44 := Tryz.underlying219
  a44 := Tryz.isAgg219
  z44 := Tryz.sizeOf219
  v44 := Tryz.zeroValue219
  t46 := Tryz.underlying221
  a46 := Tryz.isAgg221
  z46 := Tryz.sizeOf221
  v46 := Tryz.zeroValue221
  t53 := Tryz.underlying235
  a53 := Tryz.isAgg235
  z53 := Tryz.sizeOf235
  v53 := Tryz.zeroValue235
  t57 := Tryz.underlying239
  a57 := Tryz.isAgg239
  z57 := Tryz.sizeOf239
  v57 := Tryz.zeroValue239
  t63 := Tryz.underlying247
  a63 := Tryz.isAgg247
  z63 := Tryz.sizeOf247
  v63 := Tryz.zeroValue247
  t64 := Tryz.underlying248
  a64 := Tryz.isAgg248
  z64 := Tryz.sizeOf248
  v64 := Tryz.zeroValue248 }
end Go.Proofs
end
section
namespace Go.Proofs.YtkiedlmhocglhaaGreat
open Go.RowKit
theorem KM (a : Addr) (v : Value) (w : World) (h : w.cell? a = some v) : (Go.method 374 209 (.pointer (some a)) "Len").run Tryz.prog w = .ok (223, v) w := by
  have e : (Go.method 374 209 (.pointer (some a)) "Len").run Tryz.prog w = ((loadVar 141 a) >>= fun v => pure (223, v) : Sem (FuncId × Value)).run Tryz.prog w := by kernel_rfl
  rw [e]
  simp [loadVar, isAgg, underlying, Tryz.underlying141, h, Result.andThen]
theorem Je (a : Addr) (v : Value) (w : World) (h : w.cell? a = some v) : (Go.method 374 209 (.pointer (some a)) "Less").run Tryz.prog w = .ok (224, v) w := by
  have e : (Go.method 374 209 (.pointer (some a)) "Less").run Tryz.prog w = ((loadVar 141 a) >>= fun v => pure (224, v) : Sem (FuncId × Value)).run Tryz.prog w := by kernel_rfl
  rw [e]
  simp [loadVar, isAgg, underlying, Tryz.underlying141, h, Result.andThen]
theorem Jf (a : Addr) (v : Value) (w : World) (h : w.cell? a = some v) : (Go.method 374 209 (.pointer (some a)) "Swap").run Tryz.prog w = .ok (225, v) w := by
  have e : (Go.method 374 209 (.pointer (some a)) "Swap").run Tryz.prog w = ((loadVar 141 a) >>= fun v => pure (225, v) : Sem (FuncId × Value)).run Tryz.prog w := by kernel_rfl
  rw [e]
  simp [loadVar, isAgg, underlying, Tryz.underlying141, h, Result.andThen]
theorem Jg (a : Addr) (w : World) : (Go.method 374 209 (.pointer (some a)) "Push").run Tryz.prog w = .ok (227, .pointer (some a)) w := by kernel_rfl
theorem KN (a : Addr) (w : World) : (Go.method 374 209 (.pointer (some a)) "Pop").run Tryz.prog w = .ok (226, .pointer (some a)) w := by kernel_rfl
theorem GH (a : Addr) (w : World) : (Go.nilAhead 374 209 (.pointer (some a)) "Len").run Tryz.prog w = .ok (some false) w := by kernel_rfl
theorem DK (a : Addr) (w : World) : (Go.nilAhead 374 209 (.pointer (some a)) "Less").run Tryz.prog w = .ok (some false) w := by kernel_rfl
theorem zM (a : Addr) (w : World) : (Go.nilAhead 374 209 (.pointer (some a)) "Swap").run Tryz.prog w = .ok (some false) w := by kernel_rfl
theorem Jh (a : Addr) (w : World) : (Go.nilAhead 374 209 (.pointer (some a)) "Push").run Tryz.prog w = .ok (some false) w := by kernel_rfl
theorem KO (a : Addr) (w : World) : (Go.nilAhead 374 209 (.pointer (some a)) "Pop").run Tryz.prog w = .ok (some false) w := by kernel_rfl
theorem zN (A : Option Addr) (n c : Nat) (w : World) :
    Calls Tryz.prog 223 #[.slice A n c] w fun e w' => e = .returned (.int .i64 n) ∧ w' = w := by
  go_enter Tryz.func223, Tryz.ntmps223
  go_wp2
  go_ret
  exact ⟨rfl, rfl⟩
theorem DL (g n c i j : Nat) (x y : Int) (w : World) (hi : i < n) (hj : j < n) (ci : w.cell? ⟨g, i, none⟩ = some (.int .i64 x)) (cj : w.cell? ⟨g, j, none⟩ = some (.int .i64 y)) :
    Calls Tryz.prog 224 #[.slice (some ⟨g, 0, none⟩) n c, .int .i64 i, .int .i64 j] w fun e w' => e = .returned (.bool (decide (x < y))) ∧ ∃ m, w' = w.drewN m := by
  have hi' : (i : Int) < (n : Int) := by omega
  have hj' : (j : Int) < (n : Int) := by omega
  go_enter Tryz.func224, Tryz.ntmps224
  go_wp2_with fail
  go_quiet (fail)
  go_wp2_with fail
  go_ret
  exact ⟨rfl, _, rfl⟩
set_option maxHeartbeats 1000000 in
theorem DM (g n c i j : Nat) (x y : Int) (w : World) (hi : i < n) (hj : j < n) (hij : i ≠ j) (ci : w.cell? ⟨g, i, none⟩ = some (.int .i64 x)) (cj : w.cell? ⟨g, j, none⟩ = some (.int .i64 y))
    (fi : w.frozen? ⟨g, i, none⟩ = false) (fj : w.frozen? ⟨g, j, none⟩ = false) :
    Calls Tryz.prog 225 #[.slice (some ⟨g, 0, none⟩) n c, .int .i64 i, .int .i64 j] w fun e w' => e = .returned (.tuple #[]) ∧ ∃ m, w' = ((w.setCell ⟨g, i, none⟩ (.int .i64 y)).setCell ⟨g, j, none⟩ (.int .i64 x)).drewN m := by
  have hi' : (i : Int) < (n : Int) := by omega
  have hj' : (j : Int) < (n : Int) := by omega
  go_enter Tryz.func225, Tryz.ntmps225
  go_wp2_with fail
  go_region
  go_end0
  exact ⟨rfl, 1, rfl⟩
theorem Fb : (Tryz.prog.info? 3).map (fun i => (i.zero, i.size, i.bytes)) = some (some (.int .i64 0), 1, 8) := by kernel_rfl
theorem Fc (t o g n c : Nat) (x : Int) (w : World) (hc : n + 1 ≤ c) (ht : w.cell? ⟨t, o, none⟩ = some (.slice (some ⟨g, 0, none⟩) (n + 1) c)) (hf : w.frozen? ⟨t, o, none⟩ = false)
    (hx : w.cell? ⟨g, n, none⟩ = some (.int .i64 x)) (hm : n + 1 ≤ 1048576) :
    Calls Tryz.prog 226 #[.pointer (some ⟨t, o, none⟩)] w fun e w' => e = .returned (.iface 3 (.int .i64 x)) ∧ w' = w.setCell ⟨t, o, none⟩ (.slice (some ⟨g, 0, none⟩) n c) := by
  go_enter Tryz.func226, Tryz.ntmps226
  go_wp2_with fail
  go_ret
  exact ⟨rfl, rfl⟩
theorem Cp (x : Int) (w : World) : (Instr.typeAssert (.iface 3 (.int .i64 x)) 20 3 false).run Tryz.prog w = .ok (.int .i64 x) w := by kernel_rfl
theorem AX (x : Int) : ∀ u ∈ [Value.int .i64 x], u.oneCell' = true := by intro u hu; simp at hu; subst hu; rfl
theorem DN {t o : Nat} {v : Value} {w w1 : World} {ob : Obj} (ht : w.cell? ⟨t, o, none⟩ = some v) (hlt : t < w.heap.size) {row : Option Nat} (hne : row ≠ some t) (hg : (w.alloc ob).drew.grownBy w1 row) : w1.cell? ⟨t, o, none⟩ = some v := by
  rw [hg.cell_far ⟨t, o, none⟩ (by show t < (w.alloc ob).heap.size; simp; omega) (fun e => hne e.symm)]
  exact (World.cell?_alloc_lt w ob ⟨t, o, none⟩ hlt).trans ht
theorem DP {t o : Nat} {w w1 : World} {ob : Obj} (hf : w.frozen? ⟨t, o, none⟩ = false) (hlt : t < w.heap.size) {row : Option Nat} (hne : row ≠ some t) (hg : (w.alloc ob).drew.grownBy w1 row) : w1.frozen? ⟨t, o, none⟩ = false := by
  rw [hg.frozen_far ⟨t, o, none⟩ (by show t < (w.alloc ob).heap.size; simp; omega) (fun e => hne e.symm)]
  exact (World.frozen?_alloc_old w ob ⟨t, o, none⟩ (Nat.ne_of_lt hlt)).trans hf
set_option maxHeartbeats 1000000 in
theorem DQ (t o base n : Nat) (v : Value) (xs : List Value) (x : Int) (w : World) (ht : w.cell? ⟨t, o, none⟩ = some v) (hf : w.frozen? ⟨t, o, none⟩ = false)
    (hown : w.ownsRow base 3 1 v n xs) (hne : v.ownBlock ≠ some t) (hm : n + 1 ≤ 1048576) (hbase : base ≤ w.heap.size) :
    Calls Tryz.prog 227 #[.pointer (some ⟨t, o, none⟩), .iface 3 (.int .i64 x)] w fun e w' => e = .returned (.tuple #[]) ∧
      ∃ g cap w1, w1.ownsRow base 3 1 (.slice (some ⟨g, 0, none⟩) (n + 1) cap) (n + 1) (xs ++ [.int .i64 x]) ∧ w.grownBy w1 v.ownBlock ∧ (v.ownBlock = some g ∨ w.heap.size ≤ g) ∧
        w' = w1.setCell ⟨t, o, none⟩ (.slice (some ⟨g, 0, none⟩) (n + 1) cap) := by
  obtain ⟨i0, hi0, hz0, hz1, hz2⟩ := info_parts Fb
  have hlt : t < w.heap.size := by
    rcases Nat.lt_or_ge t w.heap.size with h | h
    · exact h
    · simp [World.cell?, Array.getElem?_eq_none h] at ht
  have NT := Cp
  go_enter Tryz.func227, Tryz.ntmps227
  go_wp2_with fail
  go_region_law (refine step_append_lies _ rfl (.tmp 7) (.tmp 10) 141 rfl base 3 i0 (.int .i64 0) 1 8 Tryz.underlying141 hi0 hz0 hz1 hz2 rfl (by decide) v n xs (by simp [Act.eval]) (hown.alloc _) ⟨w.heap.size, 0, none⟩ 1 1 [.int .i64 x] (by simp [Act.eval]) rfl (cell_one_new _ _ _) (AX x) (by decide) (by unfold maxLen; omega) (by omega) (by simp; omega) (w.heap.size + 1) (by simp) ?_; intro g cap w1 hown1 hg1 Cq Ny; have c1 : w1.cell? ⟨t, o, none⟩ = some v := DN ht hlt hne hg1; have f1 : w1.frozen? ⟨t, o, none⟩ = false := DP hf hlt hne hg1)
  all_goals
    go_end0
    refine ⟨rfl, g, cap, w1, hown1, (World.grownBy_alloc w (.cells #[.int .i64 x] 3) _).trans ⟨hg1.os, hg1.tape, hg1.output, hg1.size, hg1.block⟩, ?_, rfl⟩
    rcases Cq with h | h
    · exact .inl h
    · exact .inr (by omega)
end Go.Proofs.YtkiedlmhocglhaaGreat
end
section
namespace Go.Proofs.YtkiedlmhocglhaaGreat.HeapM
def at_ (l : List Int) (i : Nat) : Int := l.getD i 0
def swp (l : List Int) (i j : Nat) : List Int := (l.set i (at_ l j)).set j (at_ l i)
def Hp (n : Nat) (l : List Int) : Prop := ∀ i, 0 < i → i < n → at_ l ((i - 1) / 2) ≤ at_ l i
def sH (l : List Int) : Prop := ∀ a b, a < l.length → b < l.length → at_ l a = at_ l b → a = b
def w5 (l : List Int) (j : Nat) : Prop :=
  (∀ i, 0 < i → i < l.length → i ≠ j → at_ l ((i - 1) / 2) ≤ at_ l i) ∧ (∀ i, 0 < i → i < l.length → (i - 1) / 2 = j → 0 < j → at_ l ((j - 1) / 2) ≤ at_ l i)
def qE (n : Nat) (l : List Int) (i : Nat) : Prop :=
  (∀ k, 0 < k → k < n → (k - 1) / 2 ≠ i → at_ l ((k - 1) / 2) ≤ at_ l k) ∧ (∀ k, 0 < k → k < n → (k - 1) / 2 = i → 0 < i → at_ l ((i - 1) / 2) ≤ at_ l k)
structure Same (l l' : List Int) : Prop where
  len : l'.length = l.length
  mem : ∀ x, x ∈ l' ↔ x ∈ l
  inj : sH l → sH l'
theorem oM {l : List Int} {x : Int} : x ∈ l ↔ ∃ k, k < l.length ∧ at_ l k = x := by
  rw [List.mem_iff_getElem]
  constructor
  · rintro ⟨i, h, e⟩
    exact ⟨i, h, by simp [at_, List.getD_eq_getElem?_getD, h, e]⟩
  · rintro ⟨i, h, e⟩
    exact ⟨i, h, by simpa [at_, List.getD_eq_getElem?_getD, h] using e⟩
theorem iR (l : List Int) (i j : Nat) : (swp l i j).length = l.length := by simp [swp]
def sw (i j k : Nat) : Nat := if k = j then i else if k = i then j else k
theorem fZ {l : List Int} {i j : Nat} (hi : i < l.length) (hj : j < l.length) (k : Nat) : at_ (swp l i j) k = at_ l (sw i j k) := by
  unfold swp at_ sw
  simp only [List.getD_eq_getElem?_getD, List.getElem?_set, List.length_set]
  by_cases h1 : j = k
  · subst h1; simp [hj]
  · by_cases h2 : i = k
    · subst h2; simp [h1, hi, Ne.symm h1]
    · simp [h1, h2, Ne.symm h1, Ne.symm h2]
theorem Cr (i j k : Nat) : sw i j (sw i j k) = k := by unfold sw; (repeat' split) <;> omega
theorem yY {i j k n : Nat} (hi : i < n) (hj : j < n) (hk : k < n) : sw i j k < n := by unfold sw; (repeat' split) <;> omega
theorem Same.refl (l : List Int) : Same l l := ⟨rfl, fun _ => Iff.rfl, fun h => h⟩
theorem Same.trans {l l' l'' : List Int} (h : Same l l') (k : Same l' l'') : Same l l'' := ⟨k.len.trans h.len, fun x => (k.mem x).trans (h.mem x), fun i => k.inj (h.inj i)⟩
theorem Same.swp {l : List Int} {i j : Nat} (hi : i < l.length) (hj : j < l.length) : Same l (swp l i j) := by
  refine ⟨iR l i j, fun x => ?_, fun inj a b ha hb e => ?_⟩
  · rw [oM, oM, iR]
    constructor
    · rintro ⟨k, hk, e⟩
      exact ⟨sw i j k, yY hi hj hk, by rw [← fZ hi hj]; exact e⟩
    · rintro ⟨k, hk, e⟩
      exact ⟨sw i j k, yY hi hj hk, by rw [fZ hi hj, Cr]; exact e⟩
  · rw [iR] at ha hb
    rw [fZ hi hj, fZ hi hj] at e
    have := inj _ _ (yY hi hj ha) (yY hi hj hb) e
    rw [← Cr i j a, this, Cr]
theorem DR {l : List Int} {j : Nat} (h : w5 l j) (he : j = 0 ∨ at_ l ((j - 1) / 2) ≤ at_ l j) : Hp l.length l := by
  intro i h0 hi
  by_cases e : i = j
  · subst e
    rcases he with he | he
    · omega
    · exact he
  · exact h.1 i h0 hi e
theorem Hw {l : List Int} {j : Nat} (h : w5 l j) (h0 : 0 < j) (hj : j < l.length) (hlt : at_ l j < at_ l ((j - 1) / 2)) : w5 (swp l ((j - 1) / 2) j) ((j - 1) / 2) := by
  have hp : (j - 1) / 2 < l.length := by omega
  have hne : (j - 1) / 2 ≠ j := by omega
  refine ⟨fun i i0 il Lf => ?_, fun i i0 il ip p0 => ?_⟩
  · rw [iR] at il
    rw [fZ hp hj, fZ hp hj]
    by_cases e1 : i = j
    · subst e1
      rw [show sw ((i - 1) / 2) i ((i - 1) / 2) = i by unfold sw; rw [if_neg hne, if_pos rfl], show sw ((i - 1) / 2) i i = (i - 1) / 2 by unfold sw; rw [if_pos rfl]]
      omega
    · rw [show sw ((j - 1) / 2) j i = i by unfold sw; rw [if_neg e1, if_neg Lf]]
      by_cases e2 : (i - 1) / 2 = j
      · rw [show sw ((j - 1) / 2) j ((i - 1) / 2) = (j - 1) / 2 by unfold sw; rw [if_pos e2]]
        exact h.2 i i0 il e2 h0
      · by_cases e3 : (i - 1) / 2 = (j - 1) / 2
        · rw [show sw ((j - 1) / 2) j ((i - 1) / 2) = j by unfold sw; rw [if_neg e2, if_pos e3]]
          have := h.1 i i0 il e1
          rw [e3] at this
          omega
        · rw [show sw ((j - 1) / 2) j ((i - 1) / 2) = (i - 1) / 2 by unfold sw; rw [if_neg e2, if_neg e3]]
          exact h.1 i i0 il e1
  · rw [iR] at il
    rw [fZ hp hj, fZ hp hj]
    have a1 := h.1 ((j - 1) / 2) p0 hp hne
    rw [show sw ((j - 1) / 2) j (((j - 1) / 2 - 1) / 2) = ((j - 1) / 2 - 1) / 2 by unfold sw; rw [if_neg (by omega), if_neg (by omega)]]
    by_cases e1 : i = j
    · subst e1
      rw [show sw ((i - 1) / 2) i i = (i - 1) / 2 by unfold sw; rw [if_pos rfl]]
      exact a1
    · have a2 := h.1 i i0 il e1
      rw [show sw ((j - 1) / 2) j i = i by unfold sw; rw [if_neg e1, if_neg (by omega)]]
      rw [ip] at a2
      omega
theorem q4 {n : Nat} {l : List Int} {i : Nat} (h : qE n l i) (h1 : 2 * i + 1 < n → at_ l i ≤ at_ l (2 * i + 1)) (h2 : 2 * i + 2 < n → at_ l i ≤ at_ l (2 * i + 2)) : Hp n l := by
  intro k k0 kn
  by_cases e : (k - 1) / 2 = i
  · rw [e]
    rcases (show k = 2 * i + 1 ∨ k = 2 * i + 2 by omega) with e1 | e1
    · rw [e1]; exact h1 (by omega)
    · rw [e1]; exact h2 (by omega)
  · exact h.1 k k0 kn e
theorem sI {n : Nat} {l : List Int} {i j : Nat} (h : qE n l i) (hj : j = 2 * i + 1 ∨ j = 2 * i + 2) (hjn : j < n) (hn : n ≤ l.length)
    (h1 : at_ l j ≤ at_ l (2 * i + 1)) (h2 : 2 * i + 2 < n → at_ l j ≤ at_ l (2 * i + 2)) (hlt : at_ l j < at_ l i) : qE n (swp l i j) j := by
  have hi : i < l.length := by omega
  have hjl : j < l.length := by omega
  refine ⟨fun k k0 kn Ji => ?_, fun k k0 kn ke j0 => ?_⟩
  · rw [fZ hi hjl, fZ hi hjl]
    by_cases e1 : (k - 1) / 2 = i
    · rw [e1, show sw i j i = j by unfold sw; rw [if_neg (by omega), if_pos rfl]]
      by_cases e2 : k = j
      · rw [e2, show sw i j j = i by unfold sw; rw [if_pos rfl]]; omega
      · rw [show sw i j k = k by unfold sw; rw [if_neg e2, if_neg (by omega)]]
        rcases (show k = 2 * i + 1 ∨ k = 2 * i + 2 by omega) with e3 | e3
        · rw [e3]; exact h1
        · rw [e3]; exact h2 (by omega)
    · rw [show sw i j ((k - 1) / 2) = (k - 1) / 2 by unfold sw; rw [if_neg Ji, if_neg e1]]
      by_cases e2 : k = i
      · rw [e2, show sw i j i = j by unfold sw; rw [if_neg (by omega), if_pos rfl], ← e2]
        have hjk : (j - 1) / 2 = i := by omega
        rw [e2]
        exact h.2 j (by omega) hjn hjk (by omega)
      · rw [show sw i j k = k by unfold sw; rw [if_neg (by omega), if_neg e2]]
        exact h.1 k k0 kn e1
  · rw [fZ hi hjl, fZ hi hjl]
    rw [show (j - 1) / 2 = i by omega, show sw i j i = j by unfold sw; rw [if_neg (by omega), if_pos rfl], show sw i j k = k by unfold sw; rw [if_neg (by omega), if_neg (by omega)]]
    have := h.1 k k0 kn (by omega)
    rw [ke] at this
    exact this
theorem least {n : Nat} {l : List Int} (h : Hp n l) : ∀ k, k < n → at_ l 0 ≤ at_ l k := by
  intro k
  induction k using Nat.strongRecOn with
  | _ k ih =>
    intro hk
    rcases Nat.eq_zero_or_pos k with e | e
    · rw [e]; omega
    · have a1 := ih ((k - 1) / 2) (by omega) (by omega)
      have a2 := h k e hk
      omega
theorem Cs {n : Nat} {l : List Int} (h : Hp (n + 1) l) (hl : l.length = n + 1) : qE n (swp l 0 n) 0 := by
  refine ⟨fun k k0 kn Ji => ?_, fun k _ _ _ h0 => by omega⟩
  rw [fZ (by omega) (by omega), fZ (by omega) (by omega)]
  rw [show sw 0 n ((k - 1) / 2) = (k - 1) / 2 by unfold sw; rw [if_neg (by omega), if_neg Ji], show sw 0 n k = k by unfold sw; rw [if_neg (by omega), if_neg (by omega)]]
  exact h k k0 (by omega)
theorem Fe {l : List Int} (h : Hp l.length l) (x : Int) : w5 (l ++ [x]) l.length := by
  have e : ∀ k, k < l.length → at_ (l ++ [x]) k = at_ l k := fun k hk => by
    unfold at_
    rw [List.getD_eq_getElem?_getD, List.getD_eq_getElem?_getD, List.getElem?_append_left hk]
  refine ⟨fun i i0 il Lf => ?_, fun i i0 il ip => ?_⟩
  · rw [List.length_append, List.length_singleton] at il
    rw [e _ (by omega), e _ (by omega)]
    exact h i i0 (by omega)
  · rw [List.length_append, List.length_singleton] at il
    omega
theorem Hy {l : List Int} {n : Nat} (hl : l.length = n + 1) (hi : sH l) (x : Int) : x ∈ l.take n ↔ x ∈ l ∧ x ≠ at_ l n := by
  constructor
  · intro h
    refine ⟨List.mem_of_mem_take h, ?_⟩
    rintro rfl
    obtain ⟨k, hk, e⟩ := List.mem_iff_getElem.1 h
    simp at hk e
    have := hi k n (by omega) (by omega) (by simp [at_, List.getD_eq_getElem?_getD, show k < l.length by omega, e])
    omega
  · rintro ⟨h, hne⟩
    obtain ⟨k, hk, e⟩ := oM.1 h
    have : k ≠ n := by rintro rfl; exact hne e.symm
    refine List.mem_iff_getElem.2 ⟨k, by simp; omega, ?_⟩
    simp only [at_, List.getD_eq_getElem?_getD, hk, List.getElem?_eq_getElem, Option.getD_some] at e
    simpa using e
theorem tY {l : List Int} {n k : Nat} (hk : k < n) : at_ (l.take n) k = at_ l k := by simp [at_, List.getD_eq_getElem?_getD, hk]
theorem Hz {l : List Int} {n : Nat} (h : Hp n l) : Hp n (l.take n) := fun i i0 hi => by rw [tY hi, tY (by omega)]; exact h i i0 hi
theorem Ff {l : List Int} {n : Nat} (h : sH l) : sH (l.take n) := fun a b ha hb e => by
  simp at ha hb
  rw [tY (by omega), tY (by omega)] at e
  exact h a b (by omega) (by omega) e
end Go.Proofs.YtkiedlmhocglhaaGreat.HeapM
end
section
namespace Go.Proofs.YtkiedlmhocglhaaGreat
open Go.RowKit HeapM
def ints (l : List Int) : List Value := l.map (Value.int .i64)
theorem kx (g n c a b : Nat) (i j : Int) (hi : i = (a : Int)) (hj : j = (b : Int)) (x y : Int) (w : World) (ha : a < n) (hb : b < n) (ci : w.cell? ⟨g, a, none⟩ = some (.int .i64 x)) (cj : w.cell? ⟨g, b, none⟩ = some (.int .i64 y)) :
    Calls Tryz.prog 224 #[.slice (some ⟨g, 0, none⟩) n c, .int .i64 i, .int .i64 j] w fun e w' => e = .returned (.bool (decide (x < y))) ∧ ∃ m, w' = w.drewN m := by
  subst hi hj; exact DL g n c a b x y w ha hb ci cj
structure HW (t o g c base : Nat) (l : List Int) (w : World) : Prop where
  cell : w.cell? ⟨t, o, none⟩ = some (.slice (some ⟨g, 0, none⟩) l.length c)
  own : w.ownsRow base 3 1 (.slice (some ⟨g, 0, none⟩) l.length c) l.length (ints l)
  ne : t ≠ g
  lt : t < w.heap.size
theorem Fg {l : List Int} {k : Nat} (hk : k < l.length) : (ints l)[k]? = some (.int .i64 (at_ l k)) := by
  simp [ints, at_, List.getD_eq_getElem?_getD, hk]
section hw
variable {t o g c base : Nat} {l : List Int} {w : World}
theorem HW.at (h : HW t o g c base l w) {k : Nat} (hk : k < l.length) : w.cell? ⟨g, k, none⟩ = some (.int .i64 (at_ l k)) := by
  rw [h.own.cellAt k (by omega)]
  exact Fg hk
theorem HW.drewN (h : HW t o g c base l w) (m : Nat) : HW t o g c base l (w.drewN m) := ⟨h.cell, h.own, h.ne, h.lt⟩
theorem HW.swap (h : HW t o g c base l w) (i j : Nat) :
    HW t o g c base (swp l i j) ((w.setCell ⟨g, i, none⟩ (.int .i64 (at_ l j))).setCell ⟨g, j, none⟩ (.int .i64 (at_ l i))) := by
  have e1 : ints (swp l i j) = ((ints l).set i (.int .i64 (at_ l j))).set j (.int .i64 (at_ l i)) := by
    simp [ints, swp, List.map_set]
  refine ⟨?_, ?_, h.ne, by simpa [World.setCell] using h.lt⟩
  · rw [iR, World.cell?_setCell_other _ _ _ _ (fun e => h.ne (by injection e with e; exact e.symm)), World.cell?_setCell_other _ _ _ _ (fun e => h.ne (by injection e with e; exact e.symm))]
    exact h.cell
  · rw [iR, e1]
    exact ((h.own.stored i _).1.stored j _).1
end hw
theorem kz (t o g c base : Nat) (l : List Int) (a b : Nat) (i j : Int) (hi : i = (a : Int)) (hj : j = (b : Int)) (w : World) (h : HW t o g c base l w) (ha : a < l.length) (hb : b < l.length) (hne : a ≠ b) :
    Calls Tryz.prog 225 #[.slice (some ⟨g, 0, none⟩) l.length c, .int .i64 i, .int .i64 j] w fun e w' => e = .returned (.tuple #[]) ∧ HW t o g c base (swp l a b) w' ∧ Keeps (· = g) w w' := by
  subst hi hj
  refine (DM g l.length c a b (at_ l a) (at_ l b) w ha hb hne (h.at ha) (h.at hb) (h.own.frozenAt a) (h.own.frozenAt b)).mono fun e w' ⟨he, m, hw⟩ => ⟨he, ?_, ?_⟩
  · rw [hw]; exact (h.swap a b).drewN m
  · rw [hw]; exact (((Keeps.refl (· = g) w).setCell (p := ⟨g, a, none⟩) (.inr rfl) _).setCell (p := ⟨g, b, none⟩) (.inr rfl) _).drewN m
structure Looks (a : Addr) (V : Value) : Prop where
  less : ∀ w : World, w.cell? a = some V → (Go.method 374 209 (.pointer (some a)) "Less").run Tryz.prog w = .ok (224, V) w
  swap : ∀ w : World, w.cell? a = some V → (Go.method 374 209 (.pointer (some a)) "Swap").run Tryz.prog w = .ok (225, V) w
  len : ∀ w : World, w.cell? a = some V → (Go.method 374 209 (.pointer (some a)) "Len").run Tryz.prog w = .ok (223, V) w
theorem looks (a : Addr) (V : Value) : Looks a V := ⟨Je a V, Jf a V, KM a V⟩
set_option maxHeartbeats 1000000 in
set_option maxRecDepth 100000 in
theorem HB (t o g c base : Nat) (l : List Int) (j : Nat) (w : World) (h : HW t o g c base l w) (hj : j < l.length) (hu : w5 l j) (hm : l.length ≤ 1048576) :
    Calls Tryz.prog 177 #[.iface 209 (.pointer (some ⟨t, o, none⟩)), .int .i64 j] w fun e w' => e = .returned (.tuple #[]) ∧
      ∃ l', Same l l' ∧ Hp l'.length l' ∧ HW t o g c base l' w' ∧ Keeps (· = g) w w' := by
  have L := looks ⟨t, o, none⟩ (.slice (some ⟨g, 0, none⟩) l.length c)
  have nl := DK ⟨t, o, none⟩
  have ns := zM ⟨t, o, none⟩
  go_enter Tryz.func177, Tryz.ntmps177
  go_wp2_with fail
  go_loopw [1] (fun v wr => ∃ (j : Nat) (l' : List Int), v = .int .i64 j ∧ j < l'.length ∧ Same l l' ∧ w5 l' j ∧ HW t o g c base l' wr ∧ Keeps (· = g) w wr) (fun v _ => (intOf v).toNat)
  case atStart => exact ⟨j, l, rfl, hj, Same.refl l, hu, h, Keeps.refl _ _⟩
  case round =>
    obtain ⟨j, l', rfl, hj', hs, hu', hw, hk⟩ := hrel
    have hc := hw.cell
    rw [hs.len] at hc
    have LL := L.less wr hc
    by_cases h0 : j = 0
    · subst h0
      have HU := Lib.hid hu'
      clear hu'
      go_wp2_with fail
      go_end0
      exact ⟨rfl, l', hs, DR HU.out (.inl rfl), hw, hk⟩
    · have lX : 1 ≤ j := by omega
      have hj2 : j ≤ 1048576 := by have := hs.len; omega
      have hi1 : (j - 1) / 2 < l'.length := by omega
      have hjn : ((((j : Int) - 1) / 2) == (j : Int)) = false := by rw [beq_eq_false_iff_ne]; omega
      have HU := Lib.hid hu'
      clear hu'
      go_wp2_with fail
      refine (kx g l.length c j ((j - 1) / 2) _ _ rfl (by omega) (at_ l' j) (at_ l' ((j - 1) / 2)) _ (by rw [← hs.len]; exact hj') (by rw [← hs.len]; exact hi1) (hw.at hj') (hw.at hi1)).mono ?_
      rintro e w1 ⟨rfl, m, rfl⟩
      have hw1 := hw.drewN m
      by_cases hlt : at_ l' j < at_ l' ((j - 1) / 2)
      · have LS := L.swap (wr.drewN m) hc
        go_wp2_with fail
        have HL := Lib.hid hs.len
        have sw := kz t o g c base l' ((j - 1) / 2) j
        rw [hs.len] at sw
        refine (sw _ _ (by omega) rfl _ hw1 (by have := HL.out; omega) (by have := HL.out; omega) (by omega)).mono ?_
        rintro e w2 ⟨rfl, hw2, hk2⟩
        clear sw
        go_wp2_with fail
        go_roundw
        case rel => exact ⟨(j - 1) / 2, _, by go_num, by rw [iR]; exact hi1, hs.trans (Same.swp hi1 hj'), Hw HU.out lX hj' hlt, hw2, (hk.drewN m).trans hk2⟩
        case measure => simp [intOf]; omega
      · have hnl : decide (at_ l' j < at_ l' ((j - 1) / 2)) = false := by simpa using hlt
        go_wp2_with fail
        go_end0
        exact ⟨rfl, l', hs, DR HU.out (.inr (by omega)), hw1, hk.drewN m⟩
end Go.Proofs.YtkiedlmhocglhaaGreat
end
section
namespace Go.Proofs.YtkiedlmhocglhaaGreat
open Go.RowKit HeapM
theorem zO {l : List Int} {i j n k : Nat} (hi : i < l.length) (hj : j < l.length) (hin : i < n) (hjn : j < n) (hk : n ≤ k) : at_ (swp l i j) k = at_ l k := by
  rw [fZ hi hj]; unfold sw; rw [if_neg (by omega), if_neg (by omega)]
set_option maxRecDepth 100000 in
set_option maxHeartbeats 4000000 in
theorem DS (t o g c base n : Nat) (l : List Int) (w : World) (h : HW t o g c base l w) (hn : n ≤ l.length) (hd : qE n l 0) (hm : l.length ≤ 1048576) :
    Calls Tryz.prog 190 #[.iface 209 (.pointer (some ⟨t, o, none⟩)), .int .i64 0, .int .i64 n] w fun e w' => (∃ b, e = .returned (.bool b)) ∧
      ∃ l', Same l l' ∧ Hp n l' ∧ (∀ k, n ≤ k → at_ l' k = at_ l k) ∧ HW t o g c base l' w' ∧ Keeps (· = g) w w' := by
  have L := looks ⟨t, o, none⟩ (.slice (some ⟨g, 0, none⟩) l.length c)
  have nl := DK ⟨t, o, none⟩
  have ns := zM ⟨t, o, none⟩
  go_enter Tryz.func190, Tryz.ntmps190
  go_wp2_with fail
  go_loopw [7] (fun v wr => ∃ (i : Nat) (l' : List Int), v = .int .i64 i ∧ i ≤ n ∧ Same l l' ∧ qE n l' i ∧ Hid (∀ k, n ≤ k → at_ l' k = at_ l k) ∧ HW t o g c base l' wr ∧ Keeps (· = g) w wr) (fun v _ => n - (intOf v).toNat)
  case atStart => exact ⟨0, l, rfl, Nat.zero_le _, Same.refl l, hd, Lib.hid (fun _ _ => rfl), h, Keeps.refl _ _⟩
  case round =>
    obtain ⟨i, l', rfl, hin, hs, hd', q5, hw, hk⟩ := hrel
    have hc := hw.cell
    rw [hs.len] at hc
    have HL := Lib.hid hs.len
    have hn1 : n ≤ 1048576 := by omega
    have hnl : n ≤ l'.length := by rw [HL.out]; exact hn
    have HD := Lib.hid hd'
    clear hd'
    by_cases h1 : 2 * i + 1 < n
    · have h1a : (2 * (i : Int) + 1) < (n : Int) := by omega
      by_cases h2 : 2 * i + 2 < n
      · have MF : (2 * (i : Int) + 1 + 1) < (n : Int) := by omega
        have LL := L.less wr hc
        go_wp2_with fail
        refine (kx g l.length c (2 * i + 2) (2 * i + 1) _ _ (by omega) (by omega) (at_ l' (2 * i + 2)) (at_ l' (2 * i + 1)) _ (by omega) (by omega) (hw.at (by omega)) (hw.at (by omega))).mono ?_
        rintro e w1 ⟨rfl, m, rfl⟩
        have hw1 := hw.drewN m
        have hk1 := hk.drewN m
        have LL := L.less (wr.drewN m) hc
        clear hw hk
        by_cases h3 : at_ l' (2 * i + 2) < at_ l' (2 * i + 1)
        · go_wp2_with fail
          refine (kx g l.length c (2 * i + 2) i _ _ (by omega) (by omega) (at_ l' (2 * i + 2)) (at_ l' i) _ (by omega) (by omega) (hw1.at (by omega)) (hw1.at (by omega))).mono ?_
          rintro e w2 ⟨rfl, m2, rfl⟩
          have hw2 := hw1.drewN m2
          have hk2 := hk1.drewN m2
          rw [World.drewN_drewN] at hw2 hk2
          by_cases h4 : at_ l' (2 * i + 2) < at_ l' i
          · have LS := L.swap _ (hw2.cell.trans (by rw [HL.out]))
            go_wp2_with fail
            have sw := kz t o g c base l' i (2 * i + 2)
            rw [hs.len] at sw
            refine (sw _ _ rfl (by omega) _ hw2 (by omega) (by omega) (by omega)).mono ?_
            rintro e w3 ⟨rfl, hw3, hk3⟩
            clear sw
            go_wp2_with fail
            go_roundw
            case rel => exact ⟨2 * i + 2, _, by go_num, by omega, hs.trans (Same.swp (by omega) (by omega)), sI HD.out (by omega) (by omega) hnl (by omega) (fun _ => by omega) h4, Lib.hid (fun k hk => (zO (by omega) (by omega) (by omega) (by omega) hk).trans (q5.out k hk)), hw3, hk2.trans hk3⟩
            case measure => simp [intOf]; omega
          · have Lg : decide (at_ l' (2 * i + 2) < at_ l' i) = false := by simpa using h4
            go_wp2_with fail
            go_ret
            exact ⟨⟨_, rfl⟩, l', hs, q4 HD.out (fun _ => by omega) (fun _ => by omega), q5.out, hw2, hk2⟩
        · have NU : decide (at_ l' (2 * i + 2) < at_ l' (2 * i + 1)) = false := by simpa using h3
          go_wp2_with fail
          refine (kx g l.length c (2 * i + 1) i _ _ (by omega) (by omega) (at_ l' (2 * i + 1)) (at_ l' i) _ (by omega) (by omega) (hw1.at (by omega)) (hw1.at (by omega))).mono ?_
          rintro e w2 ⟨rfl, m2, rfl⟩
          have hw2 := hw1.drewN m2
          have hk2 := hk1.drewN m2
          rw [World.drewN_drewN] at hw2 hk2
          by_cases h4 : at_ l' (2 * i + 1) < at_ l' i
          · have LS := L.swap _ (hw2.cell.trans (by rw [HL.out]))
            go_wp2_with fail
            have sw := kz t o g c base l' i (2 * i + 1)
            rw [hs.len] at sw
            refine (sw _ _ rfl (by omega) _ hw2 (by omega) (by omega) (by omega)).mono ?_
            rintro e w3 ⟨rfl, hw3, hk3⟩
            clear sw
            go_wp2_with fail
            go_roundw
            case rel => exact ⟨2 * i + 1, _, by go_num, by omega, hs.trans (Same.swp (by omega) (by omega)), sI HD.out (by omega) (by omega) hnl (by omega) (fun _ => by omega) h4, Lib.hid (fun k hk => (zO (by omega) (by omega) (by omega) (by omega) hk).trans (q5.out k hk)), hw3, hk2.trans hk3⟩
            case measure => simp [intOf]; omega
          · have Lg : decide (at_ l' (2 * i + 1) < at_ l' i) = false := by simpa using h4
            go_wp2_with fail
            go_ret
            exact ⟨⟨_, rfl⟩, l', hs, q4 HD.out (fun _ => by omega) (fun _ => by omega), q5.out, hw2, hk2⟩
      · have MF : decide ((2 * (i : Int) + 1 + 1) < (n : Int)) = false := by simp; omega
        have hw1 := hw
        have hk1 := hk
        have LL := L.less wr hc
        clear hw hk
        go_wp2_with fail
        refine (kx g l.length c (2 * i + 1) i _ _ (by omega) (by omega) (at_ l' (2 * i + 1)) (at_ l' i) _ (by omega) (by omega) (hw1.at (by omega)) (hw1.at (by omega))).mono ?_
        rintro e w2 ⟨rfl, m2, rfl⟩
        have hw2 := hw1.drewN m2
        have hk2 := hk1.drewN m2
        by_cases h4 : at_ l' (2 * i + 1) < at_ l' i
        · have LS := L.swap _ (hw2.cell.trans (by rw [HL.out]))
          go_wp2_with fail
          have sw := kz t o g c base l' i (2 * i + 1)
          rw [hs.len] at sw
          refine (sw _ _ rfl (by omega) _ hw2 (by omega) (by omega) (by omega)).mono ?_
          rintro e w3 ⟨rfl, hw3, hk3⟩
          clear sw
          go_wp2_with fail
          go_roundw
          case rel => exact ⟨2 * i + 1, _, by go_num, by omega, hs.trans (Same.swp (by omega) (by omega)), sI HD.out (by omega) (by omega) hnl (by omega) (fun _ => by omega) h4, Lib.hid (fun k hk => (zO (by omega) (by omega) (by omega) (by omega) hk).trans (q5.out k hk)), hw3, hk2.trans hk3⟩
          case measure => simp [intOf]; omega
        · have Lg : decide (at_ l' (2 * i + 1) < at_ l' i) = false := by simpa using h4
          go_wp2_with fail
          go_ret
          exact ⟨⟨_, rfl⟩, l', hs, q4 HD.out (fun _ => by omega) (fun _ => by omega), q5.out, hw2, hk2⟩
    · have h1a : ((n : Int) ≤ 2 * (i : Int) + 1) := by omega
      go_wp2_with fail
      go_ret
      exact ⟨⟨_, rfl⟩, l', hs, q4 HD.out (fun h => absurd h h1) (fun h => absurd h (by omega)), q5.out, hw, hk⟩
end Go.Proofs.YtkiedlmhocglhaaGreat
end
section
namespace Go.Proofs.YtkiedlmhocglhaaGreat
open Go.RowKit HeapM
set_option maxHeartbeats 1000000 in
theorem w6 (g n c i : Nat) (x : Int) (w : World) (hi : i < n) (ci : w.cell? ⟨g, i, none⟩ = some (.int .i64 x)) (fi : w.frozen? ⟨g, i, none⟩ = false) :
    Calls Tryz.prog 225 #[.slice (some ⟨g, 0, none⟩) n c, .int .i64 i, .int .i64 i] w fun e w' => e = .returned (.tuple #[]) ∧ ∃ m, w' = ((w.setCell ⟨g, i, none⟩ (.int .i64 x)).setCell ⟨g, i, none⟩ (.int .i64 x)).drewN m := by
  have hi' : (i : Int) < (n : Int) := by omega
  go_enter Tryz.func225, Tryz.ntmps225
  go_wp2_with fail
  go_region
  go_end0
  exact ⟨rfl, 1, rfl⟩
theorem w9 (t o g c base n : Nat) (l : List Int) (hl : l.length = n + 1) (j : Int) (hj : j = (n : Int)) (w : World) (h : HW t o g c base l w) :
    Calls Tryz.prog 225 #[.slice (some ⟨g, 0, none⟩) (n + 1) c, .int .i64 0, .int .i64 j] w fun e w' => e = .returned (.tuple #[]) ∧ HW t o g c base (swp l 0 n) w' ∧ Keeps (· = g) w w' := by
  subst hj
  by_cases h0 : n = 0
  · subst h0
    have := w6 g 1 c 0 (at_ l 0) w (by omega) (h.at (by omega)) (h.own.frozenAt 0)
    refine this.mono fun e w' ⟨he, m, hw⟩ => ⟨he, ?_, ?_⟩
    · rw [hw]; exact (h.swap 0 0).drewN m
    · rw [hw]; exact (((Keeps.refl (· = g) w).setCell (p := ⟨g, 0, none⟩) (.inr rfl) _).setCell (p := ⟨g, 0, none⟩) (.inr rfl) _).drewN m
  · have := kz t o g c base l 0 n 0 n rfl rfl w h (by omega) (by omega) (by omega)
    rw [hl] at this
    exact this
theorem HW.pop {t o g c base n : Nat} {l : List Int} {w : World} (h : HW t o g c base l w) (hl : l.length = n + 1) : w.ownsRow base 3 1 (.slice (some ⟨g, 0, none⟩) n c) n (ints (l.take n)) := by
  have e : ints l = ints (l.take n) ++ ints (l.drop n) := by simp only [ints, ← List.map_append, List.take_append_drop]
  have h1 := h.own
  rw [e, hl] at h1
  exact ownsRow_pop (by simp [ints]; omega) h1
theorem HW.cap {t o g c base : Nat} {l : List Int} {w : World} (h : HW t o g c base l w) : l.length ≤ c := by
  rcases h.own.2 with ⟨e, _⟩ | ⟨g', cap, cur, e, _, _, r, _⟩
  · injection e with e; cases e
  · injection e with e1 e2 e3
    omega
set_option maxRecDepth 100000 in
set_option maxHeartbeats 2000000 in
theorem Fh (t o g c base n : Nat) (l : List Int) (w : World) (h : HW t o g c base l w) (hl : l.length = n + 1) (hp : Hp (n + 1) l) (hi : sH l) (hm : n + 1 ≤ 1048576) (hf : w.frozen? ⟨t, o, none⟩ = false) :
    Calls Tryz.prog 176 #[.iface 209 (.pointer (some ⟨t, o, none⟩))] w fun e w' => e = .returned (.iface 3 (.int .i64 (at_ l 0))) ∧
      ∃ l' w1, l'.length = n ∧ Hp n l' ∧ sH l' ∧ (∀ x, x ∈ l' ↔ x ∈ l ∧ x ≠ at_ l 0) ∧ w1.ownsRow base 3 1 (.slice (some ⟨g, 0, none⟩) n c) n (ints l') ∧ Keeps (· = g) w w1 ∧
        w' = w1.setCell ⟨t, o, none⟩ (.slice (some ⟨g, 0, none⟩) n c) := by
  have L := looks ⟨t, o, none⟩ (.slice (some ⟨g, 0, none⟩) l.length c)
  have nn := GH ⟨t, o, none⟩
  have ns := zM ⟨t, o, none⟩
  have np := KO ⟨t, o, none⟩
  have mp := KN ⟨t, o, none⟩
  have LN := L.len w h.cell
  have LS := L.swap w h.cell
  have HL := Lib.hid hl
  rw [hl] at LN LS
  clear hl
  go_enter Tryz.func176, Tryz.ntmps176
  go_wp2_with fail
  refine (zN _ _ _ _).mono ?_
  rintro e w0 ⟨rfl, rfl⟩
  go_wp2_with fail
  refine (w9 t o g c base n l HL.out _ (by omega) _ h).mono ?_
  rintro e w1 ⟨rfl, hw1, hk1⟩
  go_wp2_with fail
  have hd := DS t o g c base n (swp l 0 n) w1 hw1 (by rw [iR, HL.out]; omega) (Cs hp HL.out) (by rw [iR, HL.out]; exact hm)
  refine (hd.mono ?_)
  rintro e w2 ⟨⟨bb, rfl⟩, l', hs, hp', q5, hw2, hk2⟩
  clear hd
  have hlen : l'.length = n + 1 := by rw [hs.len, iR, HL.out]
  have hcell := hw2.cell
  rw [hlen] at hcell
  have hcap := hw2.cap
  have htlt := h.lt
  have hf2 : w2.frozen? ⟨t, o, none⟩ = false := by
    rw [(hk1.trans hk2).frozen (p := ⟨t, o, none⟩) htlt h.ne]
    exact hf
  have hlast : at_ l' n = at_ l 0 := by
    rw [q5 n (Nat.le_refl _), fZ (by rw [HL.out]; omega) (by rw [HL.out]; omega)]
    simp [sw]
  have hx := hw2.at (k := n) (by omega)
  rw [hlast] at hx
  have Ct := Lib.hid hlen
  have KP := Lib.hid hlast
  clear hlen hlast
  go_wp2_with fail
  refine (Fc t o g n c (at_ l 0) w2 (by have := Ct.out; omega) hcell hf2 hx hm).mono ?_
  rintro e w3 ⟨rfl, rfl⟩
  go_wp2_with fail
  go_ret
  have sm := (Same.swp (l := l) (i := 0) (j := n) (by rw [HL.out]; omega) (by rw [HL.out]; omega)).trans hs
  refine ⟨rfl, l'.take n, w2, by simp [Ct.out], Hz hp', Ff (sm.inj hi), fun x => ?_, hw2.pop Ct.out, hk1.trans hk2, rfl⟩
  rw [Hy Ct.out (sm.inj hi), sm.mem, KP.out]
theorem AY (l : List Int) (x : Int) : ints l ++ [.int .i64 x] = ints (l ++ [x]) := by simp [ints]
set_option maxRecDepth 100000 in
set_option maxHeartbeats 2000000 in
theorem DT (t o base : Nat) (v : Value) (l : List Int) (x : Int) (w : World) (ht : w.cell? ⟨t, o, none⟩ = some v) (hf : w.frozen? ⟨t, o, none⟩ = false) (hown : w.ownsRow base 3 1 v l.length (ints l))
    (hne : v.ownBlock ≠ some t) (hm : l.length + 1 ≤ 1048576) (hbase : base ≤ w.heap.size) (hp : Hp l.length l) (htl : t < w.heap.size) :
    Calls Tryz.prog 148 #[.iface 209 (.pointer (some ⟨t, o, none⟩)), .iface 3 (.int .i64 x)] w fun e w' => e = .returned (.tuple #[]) ∧
      ∃ g c l', Same (l ++ [x]) l' ∧ Hp l'.length l' ∧ HW t o g c base l' w' ∧ (v.ownBlock = some g ∨ w.heap.size ≤ g) ∧
        ∃ w1, Keeps (fun k => v.ownBlock = some k) w w1 ∧ Keeps (· = g) (w1.setCell ⟨t, o, none⟩ (.slice (some ⟨g, 0, none⟩) (l.length + 1) c)) w' := by
  have nn := GH ⟨t, o, none⟩
  have np := Jh ⟨t, o, none⟩
  have mp := Jg ⟨t, o, none⟩
  go_enter Tryz.func148, Tryz.ntmps148
  go_wp2_with fail
  refine (DQ t o base l.length v (ints l) x w ht hf hown hne hm hbase).mono ?_
  rintro e w0 ⟨rfl, g, c, w1, hown1, hg1, Cq, rfl⟩
  have hk1 : Keeps (fun k => v.ownBlock = some k) w w1 := (Keeps.refl _ _).grown hg1 (fun k hk => .inr hk)
  have hgt : t ≠ g := by
    rintro rfl
    rcases Cq with h | h
    · exact hne h
    · omega
  have ht1 : w1.cell? ⟨t, o, none⟩ = some v := (hk1.cell (p := ⟨t, o, none⟩) htl hne).trans ht
  have HW1 : HW t o g c base (l ++ [x]) (w1.setCell ⟨t, o, none⟩ (.slice (some ⟨g, 0, none⟩) (l.length + 1) c)) := by
    refine ⟨?_, ?_, hgt, by simpa [World.setCell] using Nat.lt_of_lt_of_le htl hk1.size⟩
    · rw [World.cell?_setCell_same _ _ _ ht1]; simp
    · rw [List.length_append, List.length_singleton, ← AY]
      refine Keeps.ownsRow (S := (· = t)) ((Keeps.refl (· = t) w1).setCell (p := ⟨t, o, none⟩) (.inr rfl) _) hown1 ?_
      intro k hk e
      simp [Value.ownBlock] at hk
      omega
  have hc := HW1.cell
  rw [List.length_append, List.length_singleton] at hc
  generalize hW : w1.setCell ⟨t, o, none⟩ (.slice (some ⟨g, 0, none⟩) (l.length + 1) c) = w2 at *
  have LN := (looks ⟨t, o, none⟩ (.slice (some ⟨g, 0, none⟩) (l.length + 1) c)).len w2 hc
  have MG := Lib.hid hW
  clear hW ht1 hown1 hown hg1
  go_wp2_with fail
  refine (zN _ _ _ _).mono ?_
  rintro e w3 ⟨rfl, rfl⟩
  go_wp2_with fail
  have hu := HB t o g c base (l ++ [x]) l.length w3 HW1 (by simp) (Fe hp x) (by simpa using hm)
  refine hu.mono ?_
  rintro e w4 ⟨rfl, l', hs, hp', hw4, hk4⟩
  go_wp2_with fail
  go_end0
  exact ⟨rfl, g, c, l', hs, hp', hw4, Cq, w1, hk1, by rw [MG.out]; exact hk4⟩
end Go.Proofs.YtkiedlmhocglhaaGreat
end
section
namespace Go.Proofs.YtkiedlmhocglhaaGreat.TabM
open HeapM
variable {V U : Type}
abbrev Used (V : Type) := List (Int × V)
def keys (us : Used V) : List Int := us.map (·.1)
def get (us : Used V) (h : Int) : Option V := (us.find? (fun p => p.1 == h)).map (·.2)
def bW : List Int → Prop := List.Pairwise (· < ·)
def fq : Int → List Int → Int
  | h, [] => h
  | h, k :: r => if k = h then fq (h + 1) r else h
def least (us : Used V) : Int := fq 1 (keys us)
def ins (h : Int) (v : V) : Used V → Used V
  | [] => [(h, v)]
  | p :: r => if h < p.1 then (h, v) :: p :: r else p :: ins h v r
def del (h : Int) (us : Used V) : Used V := us.filter (fun p => p.1 != h)
def Cu (h : Int) (v : V) (us : Used V) : Used V := us.map (fun p => if p.1 == h then (h, v) else p)
structure TI (next : Int) (l : List Int) (us : Used V) : Prop where
  rise : bW (keys us)
  pos : ∀ h ∈ keys us, 1 ≤ h ∧ h < next
  back : ∀ h ∈ l, 1 ≤ h ∧ h < next ∧ h ∉ keys us
  all : ∀ h, 1 ≤ h → h < next → h ∈ keys us ∨ h ∈ l
  count : (us.length : Int) + l.length = next - 1
  heap : Hp l.length l
  inj : sH l
theorem keys_cons (p : Int × V) (us : Used V) : keys (p :: us) = p.1 :: keys us := rfl
theorem keys_map (f : V → U) (us : Used V) : keys (us.map fun p => (p.1, f p.2)) = keys us := by simp [keys]
theorem get_none {us : Used V} {h : Int} : get us h = none ↔ h ∉ keys us := by
  unfold get keys
  rw [Option.map_eq_none_iff, List.find?_eq_none]
  simp only [List.mem_map, not_exists, not_and, beq_iff_eq]
theorem get_some {us : Used V} {h : Int} {v : V} (e : get us h = some v) : h ∈ keys us := by
  apply Classical.byContradiction
  intro hn
  rw [get_none.2 hn] at e; cases e
theorem get_map (f : V → U) (us : Used V) (h : Int) : get (us.map fun p => (p.1, f p.2)) h = (get us h).map f := by
  unfold get
  rw [List.find?_map]
  simp only [Function.comp_def, Option.map_map]
theorem jh (h : Int) (v : V) (us : Used V) (x : Int) : x ∈ keys (ins h v us) ↔ x = h ∨ x ∈ keys us := by
  induction us with
  | nil => simp [ins, keys]
  | cons p r ih =>
    unfold ins
    split
    · simp [keys]
    · rw [keys_cons, keys_cons, List.mem_cons, List.mem_cons, ih]
      constructor
      · rintro (h1 | h1 | h1)
        · exact .inr (.inl h1)
        · exact .inl h1
        · exact .inr (.inr h1)
      · rintro (h1 | h1 | h1)
        · exact .inr (.inl h1)
        · exact .inl h1
        · exact .inr (.inr h1)
theorem q6 {h : Int} {v : V} {us : Used V} (hr : bW (keys us)) (hn : h ∉ keys us) : bW (keys (ins h v us)) := by
  induction us with
  | nil => simp [ins, keys, bW]
  | cons p r ih =>
    unfold bW at *
    rw [keys_cons, List.pairwise_cons] at hr
    rw [keys_cons, List.mem_cons, not_or] at hn
    unfold ins
    split
    · rename_i hlt
      rw [keys_cons, keys_cons, List.pairwise_cons, List.pairwise_cons]
      refine ⟨?_, hr⟩
      intro x hx
      rcases List.mem_cons.1 hx with e | e
      · rw [e]; exact hlt
      · have := hr.1 x e; show h < x; omega
    · rename_i hlt
      rw [keys_cons, List.pairwise_cons]
      refine ⟨fun x hx => ?_, ih hr.2 hn.2⟩
      rcases (jh h v r x).1 hx with e | e
      · rw [e]; have := hn.1; omega
      · exact hr.1 x e
theorem qF {h : Int} {v : V} {us : Used V} (hn : h ∉ keys us) (x : Int) : get (ins h v us) x = if x = h then some v else get us x := by
  induction us with
  | nil =>
    by_cases e : x = h
    · subst e; simp [ins, get]
    · simp [ins, get, e, Ne.symm e]
  | cons p r ih =>
    rw [keys_cons, List.mem_cons, not_or] at hn
    unfold ins
    split
    · unfold get
      by_cases e : x = h
      · subst e; simp
      · simp [e, Ne.symm e]
    · have ih' := ih hn.2
      unfold get at ih' ⊢
      rw [List.find?_cons, List.find?_cons]
      by_cases e : p.1 = x
      · have : x ≠ h := by rintro rfl; exact hn.1 e.symm
        simp [e, this]
      · simp only [show (p.1 == x) = false by simpa using e]
        exact ih'
theorem fJ (h : Int) (v : V) (us : Used V) : (ins h v us).length = us.length + 1 := by
  induction us with
  | nil => rfl
  | cons p r ih => unfold ins; split <;> simp [ih]
theorem Fj {h : Int} {v : V} {us : Used V} (hl : ∀ x ∈ keys us, x < h) : ins h v us = us ++ [(h, v)] := by
  induction us with
  | nil => rfl
  | cons p r ih =>
    rw [keys_cons] at hl
    have h1 := hl p.1 (by simp)
    unfold ins
    rw [if_neg (by omega), ih (fun x hx => hl x (by simp [hx]))]
    rfl
theorem Bw (f : V → U) (h : Int) (v : V) (us : Used V) : (ins h v us).map (fun p => (p.1, f p.2)) = ins h (f v) (us.map fun p => (p.1, f p.2)) := by
  induction us with
  | nil => rfl
  | cons p r ih => unfold ins; simp only [List.map_cons]; split <;> simp_all
theorem Bx (f : V → U) (h : Int) (us : Used V) : (del h us).map (fun p => (p.1, f p.2)) = del h (us.map fun p => (p.1, f p.2)) := by
  unfold del; rw [List.filter_map]; rfl
theorem kM (h : Int) (us : Used V) : keys (del h us) = (keys us).filter (· != h) := by
  unfold keys del; rw [List.filter_map]; rfl
theorem q7 (h : Int) (v : V) (us : Used V) : keys (Cu h v us) = keys us := by
  unfold keys Cu
  rw [List.map_map]
  apply List.map_congr_left
  intro p _
  simp only [Function.comp_def]
  split
  · rename_i e; simpa using (by simpa using e : p.1 = h).symm
  · rfl
theorem qG (h : Int) (us : Used V) (x : Int) : get (del h us) x = if x = h then none else get us x := by
  by_cases e : x = h
  · subst e
    rw [if_pos rfl, get_none, kM]
    simp
  · rw [if_neg e]
    unfold get del
    rw [List.find?_filter]
    congr 2
    funext p
    by_cases e2 : p.1 = x
    · simp [e2, e]
    · simp [e2]
theorem mr {h : Int} {us : Used V} (hr : bW (keys us)) (hm : h ∈ keys us) : (del h us).length + 1 = us.length := by
  induction us with
  | nil => simp [keys] at hm
  | cons p r ih =>
    unfold bW at *
    rw [keys_cons, List.pairwise_cons] at hr
    unfold del at ih ⊢
    rw [List.filter_cons]
    by_cases e : p.1 = h
    · have : r.filter (fun q => q.1 != h) = r := by
        rw [List.filter_eq_self]
        intro q hq
        have := hr.1 q.1 (List.mem_map_of_mem hq)
        simp; omega
      simp [e, this]
    · rw [keys_cons, List.mem_cons] at hm
      have := ih hr.2 (hm.resolve_left (Ne.symm e))
      simp [e]; omega
theorem j7 : ∀ (ks : List Int) (h : Int), bW ks → (∀ x ∈ ks, h ≤ x) → h ≤ fq h ks ∧ fq h ks ∉ ks ∧ ∀ x, h ≤ x → x < fq h ks → x ∈ ks
  | [], h, _, _ => ⟨Int.le_refl _, by simp [fq], fun x h1 h2 => by simp [fq] at h2; omega⟩
  | k :: r, h, hr, hge => by
    unfold bW at hr
    rw [List.pairwise_cons] at hr
    unfold fq
    by_cases e : k = h
    · rw [if_pos e]
      obtain ⟨i1, i2, i3⟩ := j7 r (h + 1) hr.2 (fun x hx => by have := hr.1 x hx; omega)
      refine ⟨by omega, ?_, fun x h1 h2 => ?_⟩
      · rw [List.mem_cons, not_or]; exact ⟨by omega, i2⟩
      · by_cases e2 : x = h
        · rw [e2, ← e]; simp
        · exact List.mem_cons_of_mem _ (i3 x (by omega) h2)
    · rw [if_neg e]
      refine ⟨Int.le_refl _, ?_, fun x h1 h2 => by omega⟩
      rw [List.mem_cons, not_or]
      refine ⟨Ne.symm e, fun hm => ?_⟩
      have h1 := hr.1 h hm
      have h2 := hge k (by simp)
      omega
theorem sJ {us : Used V} (hr : bW (keys us)) (hp : ∀ x ∈ keys us, 1 ≤ x) {h : Int} (h1 : 1 ≤ h) (hn : h ∉ keys us) (hall : ∀ x, 1 ≤ x → x < h → x ∈ keys us) : least us = h := by
  obtain ⟨i1, i2, i3⟩ := j7 (keys us) 1 hr hp
  unfold least
  rcases Int.lt_trichotomy (fq 1 (keys us)) h with hlt | he | hgt
  · exact absurd (hall _ i1 hlt) i2
  · exact he
  · exact absurd (i3 h h1 hgt) hn
theorem TI.empty : TI 1 [] ([] : Used V) :=
  ⟨List.Pairwise.nil, by simp [keys], by simp, fun h h1 h2 => by omega, rfl, fun i h1 h2 => by simp at h2, fun a b h1 => by simp at h1⟩
theorem TI.vY {next : Int} {us : Used V} (h : TI next [] us) : least us = next := by
  have hc := h.count
  simp at hc
  refine sJ h.rise (fun x hx => (h.pos x hx).1) (by omega) (fun hm => ?_) (fun x h1 h2 => (h.all x h1 h2).resolve_right (by simp))
  have := (h.pos _ hm).2; omega
theorem TI.Fk {next : Int} {us : Used V} (h : TI next [] us) (v : V) : TI (next + 1) [] (ins next v us) := by
  have hc := h.count
  simp at hc
  have hn : next ∉ keys us := fun hm => by have := (h.pos _ hm).2; omega
  refine ⟨q6 h.rise hn, fun x hx => ?_, by simp, fun x h1 h2 => ?_, by rw [fJ]; simp; omega, fun i h1 h2 => by simp at h2, fun a b h1 => by simp at h1⟩
  · rcases (jh next v us x).1 hx with e | e
    · omega
    · have := h.pos x e; omega
  · by_cases e : x = next
    · exact .inl ((jh next v us x).2 (.inl e))
    · exact .inl ((jh next v us x).2 (.inr ((h.all x h1 (by omega)).resolve_right (by simp))))
theorem TI.vZ {next : Int} {l : List Int} {us : Used V} (h : TI next l us) (hl : 0 < l.length) : least us = at_ l 0 := by
  have hm : at_ l 0 ∈ l := oM.2 ⟨0, hl, rfl⟩
  obtain ⟨b1, b2, b3⟩ := h.back _ hm
  refine sJ h.rise (fun x hx => (h.pos x hx).1) b1 b3 (fun x h1 h2 => (h.all x h1 (by omega)).resolve_right (fun hx => ?_))
  obtain ⟨k, hk, e⟩ := oM.1 hx
  have := HeapM.least h.heap k hk
  omega
theorem TI.Fl {next : Int} {l l' : List Int} {us : Used V} (h : TI next l us) (hl : 0 < l.length) (v : V) (hlen : l'.length + 1 = l.length) (hp : Hp l'.length l') (hi : sH l') (hm : ∀ x, x ∈ l' ↔ x ∈ l ∧ x ≠ at_ l 0) :
    TI next l' (ins (at_ l 0) v us) := by
  have h0 : at_ l 0 ∈ l := oM.2 ⟨0, hl, rfl⟩
  obtain ⟨b1, b2, b3⟩ := h.back _ h0
  have hc := h.count
  refine ⟨q6 h.rise b3, fun x hx => ?_, fun x hx => ?_, fun x h1 h2 => ?_, by rw [fJ]; push_cast; omega, hp, hi⟩
  · rcases (jh _ v us x).1 hx with e | e
    · omega
    · exact h.pos x e
  · have hx' := (hm x).1 hx
    have := h.back x hx'.1
    refine ⟨this.1, this.2.1, fun hk => ?_⟩
    rcases (jh _ v us x).1 hk with e | e
    · exact hx'.2 e
    · exact this.2.2 e
  · by_cases e : x = at_ l 0
    · exact .inl ((jh _ v us x).2 (.inl e))
    · rcases h.all x h1 h2 with h3 | h3
      · exact .inl ((jh _ v us x).2 (.inr h3))
      · exact .inr ((hm x).2 ⟨h3, e⟩)
theorem TI.drop {next h0 : Int} {l l' : List Int} {us : Used V} (h : TI next l us) (hm : h0 ∈ keys us) (hs : Same (l ++ [h0]) l') (hp : Hp l'.length l') : TI next l' (del h0 us) := by
  obtain ⟨p1, p2⟩ := h.pos _ hm
  have hn : h0 ∉ l := fun hx => (h.back _ hx).2.2 hm
  have hlen := hs.len
  rw [List.length_append, List.length_singleton] at hlen
  have hc := h.count
  have hd := mr h.rise hm
  refine ⟨?_, fun x hx => ?_, fun x hx => ?_, fun x h1 h2 => ?_, by omega, hp, hs.inj ?_⟩
  · rw [kM]; exact List.Pairwise.filter _ h.rise
  · rw [kM, List.mem_filter] at hx
    exact h.pos x hx.1
  · rw [hs.mem, List.mem_append, List.mem_singleton] at hx
    rw [kM, List.mem_filter]
    rcases hx with hx | hx
    · have := h.back x hx
      exact ⟨this.1, this.2.1, fun hk => this.2.2 hk.1⟩
    · subst hx
      exact ⟨p1, p2, fun hk => by simp at hk⟩
  · rw [kM, List.mem_filter, hs.mem, List.mem_append, List.mem_singleton]
    rcases h.all x h1 h2 with h3 | h3
    · by_cases e : x = h0
      · exact .inr (.inr e)
      · exact .inl ⟨h3, by simpa using e⟩
    · exact .inr (.inl h3)
  · intro a b ha hb e
    rw [List.length_append, List.length_singleton] at ha hb
    have g : ∀ k, k < l.length → at_ (l ++ [h0]) k = at_ l k := fun k hk => by
      unfold at_; rw [List.getD_eq_getElem?_getD, List.getD_eq_getElem?_getD, List.getElem?_append_left hk]
    have g2 : at_ (l ++ [h0]) l.length = h0 := by unfold at_; simp [List.getD_eq_getElem?_getD]
    have inl : ∀ k, k < l.length → at_ l k ≠ h0 := fun k hk e => hn (e ▸ oM.2 ⟨k, hk, rfl⟩)
    by_cases ha' : a < l.length
    · by_cases hb' : b < l.length
      · rw [g a ha', g b hb'] at e; exact h.inj a b ha' hb' e
      · obtain rfl : b = l.length := by omega
        rw [g a ha', g2] at e; exact absurd e (inl a ha')
    · obtain rfl : a = l.length := by omega
      by_cases hb' : b < l.length
      · rw [g b hb', g2] at e; exact absurd e.symm (inl b hb')
      · omega
theorem TI.set {next h0 : Int} {l : List Int} {us : Used V} (h : TI next l us) (v : V) : TI next l (Cu h0 v us) := by
  refine ⟨by rw [q7]; exact h.rise, by rw [q7]; exact h.pos, by rw [q7]; exact h.back, by rw [q7]; exact h.all, ?_, h.heap, h.inj⟩
  have := h.count
  simp only [Cu, List.length_map]
  exact this
end Go.Proofs.YtkiedlmhocglhaaGreat.TabM
end
section
namespace Go.Proofs.YtkiedlmhocglhaaGreat
open Go.RowKit HeapM TabM Go.Maps
def aN (us : Used Value) : Lit → Option Value
  | .int .i64 h => TabM.get us h
  | _ => none
theorem xg {us : Used Value} {h : Int} (hn : h ∉ keys us) (v : Value) : jl (aN us) (.int .i64 h) (some v) = aN (ins h v us) := by
  funext x
  unfold jl aN
  cases x with
  | int k n =>
    by_cases hk : k = .i64
    · subst hk
      simp only [Lit.sameKey, true_and, decide_eq_true_eq]
      rw [qF hn]
    · have e : (Lit.int k n).sameKey (.int .i64 h) = false := by simp [Lit.sameKey, hk]
      rw [e]
      cases k <;> first | rfl | exact absurd rfl hk
  | _ => rfl
theorem Bz {us : Used Value} {h : Int} : jl (aN us) (.int .i64 h) none = aN (del h us) := by
  funext x
  unfold jl aN
  cases x with
  | int k n =>
    by_cases hk : k = .i64
    · subst hk
      simp only [Lit.sameKey, true_and, decide_eq_true_eq]
      rw [qG]
    · have e : (Lit.int k n).sameKey (.int .i64 h) = false := by simp [Lit.sameKey, hk]
      rw [e]
      cases k <;> first | rfl | exact absurd rfl hk
  | _ => rfl
structure kN (TT : TypeId) (t m base : Nat) (v : Value) (l : List Int) (next most au : Int) (us : Used Value) (w : World) : Prop where
  blk : w.heap[t]? = some (.cells #[.int .i64 most, .int .i64 au, .map (some m), v, .int .i64 next] TT (0, 0))
  map : cV Tryz.prog 3 w m (aN us) us.length
  own : w.ownsRow base 3 1 v l.length (ints l)
  ti : TI next l us
  pR : (us.length : Int) ≤ most
  pS : most ≤ 1024
  pU : next ≤ most + 1
  tt : TT ≠ 3
  bt : base ≤ t
  bm : base ≤ m
  q8 : 0 ≤ au ∧ au ≤ 1024
def Jj (TT : TypeId) (t m base : Nat) (row : Option Nat) (most au : Int) (us : Used Value) (w : World) : Prop :=
  ∃ v l next, kN TT t m base v l next most au us w ∧ v.ownBlock = row
section tab
variable {TT : TypeId} {t m base : Nat} {v : Value} {l : List Int} {next most au : Int} {us : Used Value} {w w' : World} {row : Option Nat}
theorem kN.lt (h : kN TT t m base v l next most au us w) : t < w.heap.size := by
  rcases Nat.lt_or_ge t w.heap.size with hlt | hge
  · exact hlt
  · have := h.blk; rw [Array.getElem?_eq_none hge] at this; cases this
theorem kN.mt (h : kN TT t m base v l next most au us w) : m ≠ t := h.map.Di h.blk
theorem kN.cell (h : kN TT t m base v l next most au us w) (i : Nat) : w.cell? ⟨t, i, none⟩ = (#[Value.int .i64 most, .int .i64 au, .map (some m), v, .int .i64 next] : Array Value)[i]? := by
  have := h.blk
  simp [World.cell?, this]
theorem kN.free (h : kN TT t m base v l next most au us w) (i : Nat) : w.frozen? ⟨t, i, none⟩ = false := by
  have := h.blk
  simp [World.frozen?, this]
theorem kN.keeps {S : Nat → Prop} (h : kN TT t m base v l next most au us w) (k : Keeps S w w') (h1 : ¬ S t) (h2 : ¬ S m) (h3 : ∀ b, v.ownBlock = some b → ¬ S b) : kN TT t m base v l next most au us w' :=
  ⟨(k.block t h.lt h1).trans h.blk, h.map.keeps k h2, k.ownsRow h.own h3, h.ti, h.pR, h.pS, h.pU, h.tt, h.bt, h.bm, h.q8⟩
theorem kN.drewN (h : kN TT t m base v l next most au us w) (n : Nat) : kN TT t m base v l next most au us (w.drewN n) :=
  h.keeps (S := fun _ => False) ((Keeps.refl _ _).drewN n) (fun h => h) (fun h => h) (fun _ _ h => h)
theorem Jj.keeps {S : Nat → Prop} (h : Jj TT t m base row most au us w) (k : Keeps S w w') (h1 : ¬ S t) (h2 : ¬ S m) (h3 : ∀ b, row = some b → ¬ S b) : Jj TT t m base row most au us w' := by
  obtain ⟨v, l, next, h, rfl⟩ := h
  exact ⟨v, l, next, h.keeps k h1 h2 h3, rfl⟩
end tab
end Go.Proofs.YtkiedlmhocglhaaGreat
end
section
namespace Go.Proofs.YtkiedlmhocglhaaGreat
open Go.RowKit HeapM TabM Go.Maps
theorem Spec.Lh {P : Program} {β : Bs} {f : FuncId} {args : Array Value} {pre : List HP} {post : Value → List HP → Prop}
    (h : ∀ F w, (Proofs.YtkiedlmhocglhaaGreat.bund pre).h F w → Calls P f args w fun e w' => ∃ v l, e = .returned v ∧ post v l ∧ ∃ F', (Proofs.YtkiedlmhocglhaaGreat.bund l).h F' w' ∧ Step F w F' w') : Spec P β f args pre post := by
  intro R w hS
  have h1 : Sat β ([.abs (Proofs.YtkiedlmhocglhaaGreat.bund pre)] ++ [.abs R]) w := Sat.turn (Sat.turn hS).bund
  have h2 : Spec P β f args [.abs (Proofs.YtkiedlmhocglhaaGreat.bund pre)] (fun v l => ∃ l0, post v l0 ∧ l = [.abs (Proofs.YtkiedlmhocglhaaGreat.bund l0)]) :=
    Spec.Mw (fun F w hF => (h F w hF).mono fun _ _ ⟨v, l, e, hp, hF'⟩ => ⟨v, .abs (Proofs.YtkiedlmhocglhaaGreat.bund l), e, ⟨l, hp, rfl⟩, hF'⟩)
  refine (h2 R w h1).mono ?_
  rintro e w' ⟨v, l, he, ⟨l0, hp, rfl⟩, qC⟩
  exact ⟨v, l0, he, hp, Sat.turn (Sat.turn qC).vG⟩
theorem yZ {p q : HP} {F : Fp} {w : World} : (bund [p, q]).h F w ↔ ∃ F1 F2, p.h F1 w ∧ q.h F2 w ∧ Apart F1 F2 ∧ ∀ k, F k ↔ F1 k ∨ F2 k := by
  constructor
  · rintro ⟨φ, h1, h2, h3⟩
    refine ⟨φ 0, φ 1, h1 0 p rfl, h1 1 q rfl, h2 0 1 (by simp) (by simp) (by decide), fun k => (h3 k).trans ⟨fun ⟨i, hi, hk⟩ => ?_, fun h => ?_⟩⟩
    · have hi : i < 2 := hi
      rcases (by omega : i = 0 ∨ i = 1) with rfl | rfl
      · exact .inl hk
      · exact .inr hk
    · rcases h with h | h
      · exact ⟨0, by simp, h⟩
      · exact ⟨1, by simp, h⟩
  · rintro ⟨F1, F2, h1, h2, h3, h4⟩
    refine ⟨fun i => if i = 0 then F1 else F2, fun i x hx => ?_, fun i j hi hj hne => ?_, fun k => (h4 k).trans ⟨fun h => ?_, fun ⟨i, hi, hk⟩ => ?_⟩⟩
    · match i, hx with
      | 0, hx => cases hx; exact h1
      | 1, hx => cases hx; exact h2
    · have hi : i < 2 := hi
      have hj : j < 2 := hj
      rcases (by omega : (i = 0 ∧ j = 1) ∨ (i = 1 ∧ j = 0)) with ⟨rfl, rfl⟩ | ⟨rfl, rfl⟩
      · exact h3
      · exact h3.symm
    · rcases h with h | h
      · exact ⟨0, by simp, h⟩
      · exact ⟨1, by simp, h⟩
    · have hi : i < 2 := hi
      rcases (by omega : i = 0 ∨ i = 1) with rfl | rfl
      · exact .inl hk
      · exact .inr hk
theorem Sat.KQ {β : Bs} {l : List HP} {w : World} {A : bJ} {ι : Type} {Φ : ι → Prop} {L : ι → List HP} (h : Sat β (l ++ [.abs A]) w) (hA : ∀ F, A.h F w → ∃ i, Φ i ∧ (Proofs.YtkiedlmhocglhaaGreat.bund (L i)).h F w) : ∃ i, Φ i ∧ Sat β (l ++ L i) w := by
  obtain ⟨F, hF⟩ := h.get (i := l.length) (p := .abs A) (by simp)
  have h0 := h
  obtain ⟨ho, φ, h1, h2, h3⟩ := h
  obtain ⟨i, hi, hB⟩ := hA _ (h1 l.length (.abs A) (by simp))
  refine ⟨i, hi, Sat.vG ⟨ho, φ, fun j p hp => ?_, fun j hj => h2 j (by simpa using hj), fun a b ha hb => h3 a b (by simpa using ha) (by simpa using hb)⟩⟩
  by_cases e : j < l.length
  · rw [List.getElem?_append_left e] at hp
    exact h1 j p (by rw [List.getElem?_append_left e]; exact hp)
  · have hj : j = l.length := by have := bq hp; simp at this; omega
    subst hj
    simp at hp
    subst hp
    exact hB
theorem Sat.Jk {β : Bs} {l R : List HP} {w : World} {A : bJ} (h : Sat β (l ++ R) w) (hA : ∀ F, (Proofs.YtkiedlmhocglhaaGreat.bund R).h F w → A.h F w) : Sat β (l ++ [.abs A]) w := by
  obtain ⟨ho, φ, h1, h2, h3⟩ := h.bund
  refine ⟨ho, φ, fun j p hp => ?_, fun j hj => h2 j (by simpa using hj), fun a b ha hb => h3 a b (by simpa using ha) (by simpa using hb)⟩
  by_cases e : j < l.length
  · rw [List.getElem?_append_left e] at hp
    exact h1 j p (by rw [List.getElem?_append_left e]; exact hp)
  · have hj : j = l.length := by have := bq hp; simp at this; omega
    subst hj
    simp at hp
    subst hp
    exact hA _ (h1 l.length (.abs (Proofs.YtkiedlmhocglhaaGreat.bund R)) (by simp))
section rules
variable {P : Program} {β : Bs} {N : Nat} {ops : Array Oper} {k : Nat} {fr : Fr} {hps : List HP} {Q : Post} {c : Code} {e : Exit}
theorem af.xh {ι : Type} {Φ : ι → Prop} {hp : ι → List HP} (h : ∀ w, Sat β hps w → ∃ i, Φ i ∧ Sat β (hp i) w) (K : ∀ i, Φ i → af P β N c fr (hp i) Q) : af P β N c fr hps Q := fun junk w hS => let ⟨i, hi, cu⟩ := h w hS; K i hi junk w cu
theorem ah.xh {ι : Type} {Φ : ι → Prop} {hp : ι → List HP} (h : ∀ w, Sat β hps w → ∃ i, Φ i ∧ Sat β (hp i) w) (K : ∀ i, Φ i → ah P β N ops k fr (hp i) Q) : ah P β N ops k fr hps Q := fun junk w hS => let ⟨i, hi, cu⟩ := h w hS; K i hi junk w cu
end rules
theorem rM {w : World} {t j : Nat} {cs : List Value} {T : TypeId} {u : Value} (h : w.heap[t]? = some (.cells ⟨cs⟩ T (0, 0))) : (w.setCell ⟨t, j, none⟩ u).heap[t]? = some (.cells ⟨cs.set j u⟩ T (0, 0)) := by
  simp [World.setCell, Array.getElem?_modify, h, Array.setIfInBounds_def]
  exact fun h => (List.set_eq_of_length_le h).symm
theorem Jl {β : Bs} {T : TypeId} {a b c e : Value} {t g cap n : Nat} {l : List Int} (hl : l.length = n + 1) (hp : Hp (n + 1) l) (hi : sH l) (hm : n + 1 ≤ 1048576) :
    Spec Tryz.prog β 176 #[.iface 209 (.pointer (some ⟨t, 3, none⟩))] [.blk t [a, b, c, .slice (some ⟨g, 0, none⟩) l.length cap, e] T, .abs (aF 3 1 (some ⟨g, 0, none⟩) l.length cap (ints l))]
      (fun v r => v = .iface 3 (.int .i64 (at_ l 0)) ∧ ∃ l' : List Int, l'.length = n ∧ Hp n l' ∧ sH l' ∧ (∀ x, x ∈ l' ↔ x ∈ l ∧ x ≠ at_ l 0) ∧ r = [.blk t [a, b, c, .slice (some ⟨g, 0, none⟩) n cap, e] T, .abs (aF 3 1 (some ⟨g, 0, none⟩) n cap (ints l'))]) := by
  refine Spec.Lh (fun F w h => ?_)
  obtain ⟨F1, F2, ⟨h1, h2⟩, hr, hap, hF⟩ := yZ.1 h
  have hr : (aF 3 1 (some ⟨g, 0, none⟩) l.length cap (ints l)).h F2 w := hr
  obtain ⟨hr1, hr2⟩ := hr
  have hg : F2 g := (hr2 g).2 rfl
  have hne : t ≠ g := fun e => hap t ((h2 t).2 rfl) (e ▸ hg)
  have hc : w.cell? ⟨t, 3, none⟩ = some (.slice (some ⟨g, 0, none⟩) l.length cap) ∧ w.frozen? ⟨t, 3, none⟩ = false := eD h1 rfl rfl rfl
  have hW : HW t 3 g cap 0 l w := ⟨hc.1, hr1, hne, lt_of_some h1⟩
  refine (Fh t 3 g cap 0 n l w hW hl hp hi hm hc.2).mono ?_
  rintro e' w' ⟨rfl, l', w1, g1, g2, g3, g4, g5, g6, rfl⟩
  have h1' : w1.heap[t]? = some (.cells ⟨[a, b, c, .slice (some ⟨g, 0, none⟩) l.length cap, e]⟩ T (0, 0)) := (g6.block t (lt_of_some h1) (fun e => hne e)).trans h1
  have hks : Keeps (· = t) w1 (w1.setCell ⟨t, 3, none⟩ (.slice (some ⟨g, 0, none⟩) n cap)) := (Keeps.refl (· = t) w1).setCell (p := ⟨t, 3, none⟩) (.inr rfl) _
  refine ⟨_, _, rfl, ⟨rfl, l', g1, g2, g3, g4, rfl⟩, F, yZ.2 ⟨F1, F2, ⟨rM h1', h2⟩, ⟨hks.ownsRow g5 (fun k hk e => ?_), fun k => ?_⟩, hap, hF⟩, ⟨?_, fun _ h => .inl h⟩⟩
  · cases hk; exact hne e.symm
  · rw [hr2 k]; simp [Value.ownBlock]
  · exact (g6.mono (S' := F) (fun k _ e => (hF k).2 (.inr (e ▸ hg)))).trans (hks.mono (fun k _ e => (hF k).2 (.inl ((h2 k).2 e))))
theorem HE {β : Bs} {T : TypeId} {a b c e : Value} {t cap : Nat} {A : Option Addr} {l : List Int} (x : Int) (hp : Hp l.length l) (hm : l.length + 1 ≤ 1048576) :
    Spec Tryz.prog β 148 #[.iface 209 (.pointer (some ⟨t, 3, none⟩)), .iface 3 (.int .i64 x)] [.blk t [a, b, c, .slice A l.length cap, e] T, .abs (aF 3 1 A l.length cap (ints l))]
      (fun v r => v = .tuple #[] ∧ ∃ (g c' : Nat) (l' : List Int), Same (l ++ [x]) l' ∧ Hp l'.length l' ∧ r = [.blk t [a, b, c, .slice (some ⟨g, 0, none⟩) l'.length c', e] T, .abs (aF 3 1 (some ⟨g, 0, none⟩) l'.length c' (ints l'))]) := by
  refine Spec.Lh (fun F w h => ?_)
  obtain ⟨F1, F2, ⟨h1, h2⟩, hr, hap, hF⟩ := yZ.1 h
  have hr : (aF 3 1 A l.length cap (ints l)).h F2 w := hr
  obtain ⟨hr1, hr2⟩ := hr
  have hc : w.cell? ⟨t, 3, none⟩ = some (.slice A l.length cap) ∧ w.frozen? ⟨t, 3, none⟩ = false := eD h1 rfl rfl rfl
  have hne : (Value.slice A l.length cap).ownBlock ≠ some t := fun e => hap t ((h2 t).2 rfl) ((hr2 t).2 e)
  refine (DT t 3 0 (.slice A l.length cap) l x w hc.1 hc.2 hr1 hne hm (Nat.zero_le _) hp (lt_of_some h1)).mono ?_
  rintro e' w' ⟨rfl, g, c', l', g1, g2, g3, g4, w1, g5, g6⟩
  have BA : t ≠ g := g3.ne
  have hlen : l'.length = l.length + 1 := by have := g1.len; simp at this; omega
  have h1' : w1.heap[t]? = some (.cells ⟨[a, b, c, .slice A l.length cap, e]⟩ T (0, 0)) := (g5.block t (lt_of_some h1) hne).trans h1
  have Jm := rM (j := 3) (u := .slice (some ⟨g, 0, none⟩) (l.length + 1) c') h1'
  have LX : w'.heap[t]? = some (.cells ⟨[a, b, c, .slice (some ⟨g, 0, none⟩) l'.length c', e]⟩ T (0, 0)) := by
    rw [hlen]; exact (g6.block t (lt_of_some Jm) BA).trans Jm
  have hks : Keeps (· = t) w1 (w1.setCell ⟨t, 3, none⟩ (.slice (some ⟨g, 0, none⟩) (l.length + 1) c')) := (Keeps.refl (· = t) w1).setCell (p := ⟨t, 3, none⟩) (.inr rfl) _
  refine ⟨_, _, rfl, ⟨rfl, g, c', l', g1, g2, rfl⟩, fun k => F1 k ∨ k = g, yZ.2 ⟨F1, fun k => k = g, ⟨LX, h2⟩, ⟨g3.own, fun k => ?_⟩, fun k hk e => BA (((h2 k).1 hk).symm.trans e), fun k => Iff.rfl⟩, ⟨?_, fun k hk => ?_⟩⟩
  · simp [Value.ownBlock, eq_comm]
  · have k1 : Keeps F w w1 := g5.mono (fun k _ hk => (hF k).2 (.inr ((hr2 k).2 hk)))
    have k2 : Keeps F w (w1.setCell ⟨t, 3, none⟩ (.slice (some ⟨g, 0, none⟩) (l.length + 1) c')) := k1.trans (hks.mono (fun k _ e => (hF k).2 (.inl ((h2 k).2 e))))
    exact k2.andThen g6 (fun i hi e => by
      rcases g4 with g4 | g4
      · exact (hF i).2 (.inr ((hr2 i).2 (e ▸ g4)))
      · subst e; omega)
  · rcases hk with hk | rfl
    · exact .inl ((hF k).2 (.inl hk))
    · rcases g4 with g4 | g4
      · exact .inl ((hF _).2 (.inr ((hr2 _).2 g4)))
      · exact .inr g4
structure fL (next : Int) (l : List Int) (us : Used Value) (most au : Int) : Prop where
  ti : TI next l us
  pR : (us.length : Int) ≤ most
  pS : most ≤ 1024
  pU : next ≤ most + 1
  v7 : next ≤ au + 1
  q8 : 0 ≤ au ∧ au ≤ 1024
theorem fL.DU {next : Int} {l : List Int} {us : Used Value} {most au : Int} (h : fL next l us most au) : 1 ≤ TabM.least us ∧ TabM.least us ≤ next ∧ TabM.least us ∉ keys us ∧ next ≤ 1025 ∧ 1 ≤ next ∧ us.length ≤ 1024 ∧ l.length ≤ 1024 := by
  obtain ⟨h1, h2, h3⟩ := j7 (keys us) 1 h.ti.rise (fun x hx => (h.ti.pos x hx).1)
  have hc := h.ti.count
  have m0 := h.pR
  have m1 := h.pS
  have n1 := h.pU
  refine ⟨h1, ?_, h2, by omega, by omega, by omega, by omega⟩
  rcases Int.lt_or_le next (TabM.least us) with h4 | h4
  · have := h3 next (by omega) h4
    have := (h.ti.pos _ this).2
    omega
  · exact h4
theorem zP : aN [] = fun _ => none := by
  funext x
  unfold aN
  split <;> rfl
theorem yx {us : Used Value} {h : Int} (hn : h ∉ keys us) : aN us (.int .i64 h) = none := get_none.2 hn
structure TX where
  m : Nat
  A : Option Addr
  c : Nat
  l : List Int
  next : Int
def kO (TT : TypeId) (t : Nat) (most au : Int) (us : Used Value) (x : TX) : List HP :=
  [.blk t [.int .i64 most, .int .i64 au, .map (some x.m), .slice x.A x.l.length x.c, .int .i64 x.next] TT, .abs (aC Tryz.prog 3 x.m (aN us) us.length), .abs (aF 3 1 x.A x.l.length x.c (ints x.l))]
def aZ (TT : TypeId) (t : Nat) (most au : Int) (us : Used Value) : bJ where
  h F w := ∃ x : TX, fL x.next x.l us most au ∧ (bund (kO TT t most au us x)).h F w
  lt := fun ⟨_, _, h⟩ k hk => bJ.lt _ h k hk
  st := fun ⟨x, h1, h⟩ _ _ hk hn => ⟨x, h1, bJ.st _ h hk hn⟩
theorem Sat.qH {β : Bs} {TT : TypeId} {t : Nat} {most au : Int} {us : Used Value} {l : List HP} {w : World} (h : Sat β (l ++ [.abs (aZ TT t most au us)]) w) : ∃ x : TX, fL x.next x.l us most au ∧ Sat β (l ++ kO TT t most au us x) w :=
  h.KQ (fun _ h => h)
theorem Sat.kP {β : Bs} {TT : TypeId} {t : Nat} {most au : Int} {us : Used Value} {l : List HP} {w : World} (x : TX) (hx : fL x.next x.l us most au) (h : Sat β (l ++ kO TT t most au us x) w) : Sat β (l ++ [.abs (aZ TT t most au us)]) w :=
  h.Jk (fun _ h => ⟨x, hx, h⟩)
end Go.Proofs.YtkiedlmhocglhaaGreat
end
section
namespace Go.Proofs.YtkiedlmhocglhaaGreat
open Go.RowKit Go.Maps Go.Sort Go.Shelf HeapM TabM
theorem iB {z : Int} (h : (Lit.int .i64 z).wf = true) : keyOf Tryz.prog 3 (.int .i64 z) = some (.int .i64 z) :=
  keyOf_int_mk Tryz.underlying3 h
theorem yA : ∀ {l m : List Int}, l.Pairwise (· < ·) → m.Pairwise (· < ·) → (∀ z, z ∈ l ↔ z ∈ m) → l = m
  | [], [], _, _, _ => rfl
  | [], b :: m, _, _, h => by have := (h b).2 (List.mem_cons_self ..); cases this
  | a :: l, [], _, _, h => by have := (h a).1 (List.mem_cons_self ..); cases this
  | a :: l, b :: m, hl, hm, h => by
    have hl' := List.pairwise_cons.1 hl
    have hm' := List.pairwise_cons.1 hm
    have e : a = b := by
      rcases List.mem_cons.1 ((h a).1 (List.mem_cons_self ..)) with e | e
      · exact e
      · rcases List.mem_cons.1 ((h b).2 (List.mem_cons_self ..)) with e2 | e2
        · exact e2.symm
        · have := hm'.1 a e; have := hl'.1 b e2; omega
    subst e
    congr 1
    refine yA hl'.2 hm'.2 (fun z => ⟨fun hz => ?_, fun hz => ?_⟩)
    · rcases List.mem_cons.1 ((h z).1 (List.mem_cons_of_mem _ hz)) with e | e
      · have := hl'.1 z hz; omega
      · exact e
    · rcases List.mem_cons.1 ((h z).2 (List.mem_cons_of_mem _ hz)) with e | e
      · have := hm'.1 z hz; omega
      · exact e
theorem Cv (x y : Int) : (if y > x then y else x) = max x y := by
  rw [Int.max_def]; split <;> split <;> omega
theorem GI (x y : Int) : (if y < x then y else x) = min x y := by
  rw [Int.min_def]; split <;> split <;> omega
theorem Jo (m : Nat) : AnyZI.SortsIn Tryz.prog Tryz.sortedI_ren Fence.wide m :=
  ⟨fun blk off cap ss W hH hblk hsz => callsIn_wide.2 (AnyM.slices_Sort_int Tryz.sortI blk off cap ss W hH hblk hsz),
   fun p cap W => callsIn_wide.2 (AnyM.slices_Sort_int_none Tryz.sortI p cap W)⟩
def v8 (bk : Nat) : Value := .func (.func 76) #[] #[.pointer (some ⟨bk, 0, none⟩)]
theorem Fm {β : Bs} (mb : Option Nat) : Spec Tryz.prog β 33 #[.map mb] [] (fun v l => ∃ bk, v = v8 bk ∧ l = [.blk bk [.map mb] 83]) :=
  Spec.Dl fun W _ => by
    have h : CallsIn Fence.wide 5 Tryz.prog 33 #[.map mb] W fun e w' => e = .returned (v8 W.heap.size) ∧ w' = W.alloc (.cells #[.map mb] 83) := AnyZI.keys_in Tryz.keysI Fence.wide 5 trivial rfl mb W
    refine ((callsIn_wide (n := 5)).1 h).mono ?_
    rintro e w' ⟨rfl, rfl⟩
    refine ⟨_, _, rfl, ⟨W.heap.size, rfl, rfl⟩, (Keeps.refl _ _).alloc _, fun k => k = W.heap.size, ⟨?_, fun k => Iff.rfl⟩, fun k hk => Nat.le_of_eq hk.symm⟩
    show (W.heap.push _)[W.heap.size]? = _
    simp
structure KeysOf (f : Lit → Option Value) (ss : List Int) : Prop where
  mem : ∀ z, z ∈ ss ↔ (f (.int .i64 z)).isSome = true
  sorted : ss.Pairwise (· < ·)
theorem Cw {w : World} {b n : Nat} {K : TypeId} {f : Lit → Option Value} {D : DataW Value} (hK : Tryz.prog.underlying K = some (.int .i64)) (L : Keyed Tryz.prog K) (hown : w.ownsMap Tryz.prog K nQ b n D) (hf : ∀ kl, Maps.has D kl = (f kl).isSome) {ss : List Int} (hp : ss.Perm (intKeys D)) :
    KeysOf f (ss.mergeSort (fun x y => decide (x ≤ y))) := by
  obtain ⟨es, hD, hpw, _⟩ := hown.entries L
  obtain ⟨es', hD', hko⟩ := hown.keysOf
  obtain rfl : es = es' := by rw [hD] at hD'; simpa using hD'
  have hk : ∀ p ∈ es, ∃ x, p.1 = .int .i64 x := fun p hp => by
    obtain ⟨v, hv⟩ := hko p hp
    obtain ⟨x, _, h, _⟩ := keyOf_i64 hK hv
    exact ⟨x, h⟩
  have hmem : ∀ z, z ∈ intKeys D ↔ (f (.int .i64 z)).isSome = true := fun z => by
    rw [← hf, hD]
    show z ∈ es.map (fun p => Go.intOf p.1) ↔ es.any (fun p => p.1.sameKey (.int .i64 z)) = true
    rw [List.mem_map, List.any_eq_true]
    refine ⟨fun ⟨p, hp, e⟩ => ⟨p, hp, ?_⟩, fun ⟨p, hp, e⟩ => ⟨p, hp, ?_⟩⟩
    · obtain ⟨x, hx⟩ := hk p hp
      rw [hx] at e ⊢
      have e : x = z := e
      simp [Lit.sameKey, e]
    · obtain ⟨x, hx⟩ := hk p hp
      rw [hx] at e ⊢
      show x = z
      simpa [Lit.sameKey] using e
  have hnd : (intKeys D).Nodup := by
    rw [hD]
    show (es.map fun p => Go.intOf p.1).Nodup
    rw [List.nodup_iff_pairwise_ne, List.pairwise_map]
    refine hpw.imp_of_mem (fun {p q} hp hq hne e => hne ?_)
    obtain ⟨x, hx⟩ := hk p hp
    obtain ⟨y, hy⟩ := hk q hq
    rw [hx, hy] at e ⊢
    have e : x = y := e
    rw [e]
  have tr : ∀ a b c : Int, decide (a ≤ b) = true → decide (b ≤ c) = true → decide (a ≤ c) = true := fun a b c h1 h2 => by simp only [decide_eq_true_eq] at *; omega
  have to : ∀ a b : Int, (decide (a ≤ b) || decide (b ≤ a)) = true := fun a b => by simp only [Bool.or_eq_true, decide_eq_true_eq]; omega
  have hperm := (List.mergeSort_perm ss (fun x y => decide (x ≤ y))).trans hp
  refine ⟨fun z => by rw [hperm.mem_iff, hmem], ?_⟩
  have h1 := List.pairwise_mergeSort tr to ss
  have h2 : (ss.mergeSort (fun x y => decide (x ≤ y))).Nodup := hperm.nodup_iff.2 hnd
  rw [List.nodup_iff_pairwise_ne] at h2
  refine (h1.and h2).imp (fun {a b} h => ?_)
  have h3 := h.1
  have h4 := h.2
  simp only [decide_eq_true_eq] at h3
  omega
theorem Cx {β : Bs} (b bk n : Nat) (f : Lit → Option Value) (hn : n ≤ 16777216) :
    Spec Tryz.prog β 32 #[v8 bk] [.abs (aC Tryz.prog 3 b f n), .blk bk [.map (some b)] 83] (fun v l => ∃ A cap ss, v = .slice A ss.length cap ∧ KeysOf f ss ∧ ss.length = n ∧
      l = [.abs (aC Tryz.prog 3 b f n), .blk bk [.map (some b)] 83, .abs (aF 3 1 A ss.length cap (ints ss))]) := by
  intro R w hS
  obtain ⟨F1, h1⟩ := hS.get (i := 0) (p := .abs (aC Tryz.prog 3 b f n)) rfl
  obtain ⟨F2, h2⟩ := hS.get (i := 1) (p := .blk bk [.map (some b)] 83) rfl
  obtain ⟨D, hown, hsz, hhas, _⟩ := h1.1
  have hcell : w.cell? ⟨bk, 0, none⟩ = some (.map (some b)) := (eD h2.1 rfl rfl rfl).1
  have hseq : SeqGives Fence.wide 2 Tryz.prog 76 #[.pointer (some ⟨bk, 0, none⟩)] encZ (fun ss => ss.Perm (intKeys D)) (Maps.size D) w :=
    AnyZI.keys_gives (ρ := Tryz.keysI_ren) { Tryz.keysI with } Fence.wide _ trivial rfl (by omega) bk b n D w (lt_of_some h2.1) hcell hown
  have cS := AnyZI.sorted_in Tryz.sortedI Fence.wide 5 trivial trivial trivial trivial rfl (by omega) (Jo _) (enters_of Tryz.func75 (by kernel_rfl) rfl) 76 #[.pointer (some ⟨bk, 0, none⟩)] trivial (enters_of Tryz.func76 (by kernel_rfl) rfl) _ _ (by rw [hsz]; unfold maxLen; omega) (by rw [hsz]; omega) _ hseq
  change CallsIn _ _ Tryz.prog 32 _ _ _ at cS
  refine ((callsIn_wide (n := 5)).1 cS).mono ?_
  rintro e w' ⟨v, ss, rfl, hp, hrow, hnil, hb⟩
  have hlen : (ss.mergeSort (fun x y => decide (x ≤ y))).length = ss.length := List.length_mergeSort ss
  have hkeys := Cw Tryz.underlying3 dL hown hhas hp
  have rW : ∃ A cap, v = .slice A ss.length cap := by
    rcases hrow.2 with ⟨e1, e2⟩ | ⟨g, cp, cur, e1, _⟩
    · exact ⟨none, 0, by rw [e1, e2]⟩
    · exact ⟨_, cp, e1⟩
  obtain ⟨A, cap, rfl⟩ := rW
  have hn1 : ss.length = n := by
    rw [hp.length_eq, ← hsz]
    obtain ⟨es, hD, _⟩ := hown.entries dL
    rw [hD]
    exact List.length_map ..
  have hq : Sat β ([.abs (aC Tryz.prog 3 b f n), .blk bk [.map (some b)] 83, .abs R] ++ [.abs (aF 3 1 A ss.length cap (ints (ss.mergeSort (fun x y => decide (x ≤ y)))))]) w' := by
    refine Sat.new (F := fun k => (Value.slice A ss.length cap).ownBlock = some k) hS ⟨?_, fun k => Iff.rfl⟩ ⟨hb.os, hb.tape, hb.output, hb.size, fun k hk _ => hb.block k hk⟩ (fun k hk => (hrow.lt k hk).1)
    refine ⟨hrow.1, ?_⟩
    rcases hrow.2 with h | ⟨g, cp, cur, e1, _, h3, h4⟩
    · exact .inl h
    · exact .inr ⟨g, cp, cur, e1, Nat.zero_le _, h3, h4⟩
  refine ⟨_, [.abs (aC Tryz.prog 3 b f n), .blk bk [.map (some b)] 83, .abs (aF 3 1 A ss.length cap (ints (ss.mergeSort (fun x y => decide (x ≤ y)))))], rfl, ⟨A, cap, ss.mergeSort (fun x y => decide (x ≤ y)), by rw [hlen], hkeys, by rw [hlen]; exact hn1, by rw [hlen]⟩, ?_⟩
  exact hq.pick (idx := [0, 1, 3, 2]) rfl rfl
end Go.Proofs.YtkiedlmhocglhaaGreat
end
