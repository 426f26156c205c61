/-
  PROVED HERE: lemmas and contracts of functions (texts of this repo, joined): GPlA, Fam, GPl, GPv, GPw, GPx, GSm, Ld, GPo, GSn, GSo, Vq, ShelfK, GKs, GFind, GFindR, GYa, GY.
  CONDITIONS: as the theorems say.
-/
import Derived.Test.YtjpdcppdoonmdaaMRound4
import Derived.Lib.LastIndexByte
import Derived.ArgAppend
import Derived.Shelf.SlIterI.Nil
import Derived.Shelf.SortM.Plain
import Derived.Shelf.SortM.SortNone
import Derived.Ground.GgzProg
import Derived.Ground.SlgmProg
import Derived.Test.YtjpdcppdoonmdaaProg
/- part GPlA. PROVED HERE: lines are copied and compared CONDITIONS: as the theorems say. Printed by a program of this repo (wip/v). -/
section
namespace Go.Proofs.Ytjpdcppdoonmdaa
open Go.RowKit
attribute [local irreducible] TriL TriLQ Tri TriQ
theorem linesV_put {ls : List LineM} {K : LayL} {k : Nat} {B : Option Addr} {c : Nat} (h : k < ls.length) : linesV K (ls.take k) ++ lineV B c (ln ls k) = linesV (K.put k B c) (ls.take (k + 1)) := by
  have e : ls.take (k + 1) = ls.take k ++ [ln ls k] := by
    rw [List.take_add_one]
    congr 1
    unfold ln
    rw [List.getD_eq_getElem?_getD, List.getElem?_eq_getElem h]
    rfl
  have hl : (ls.take k).length = k := by rw [List.length_take]; omega
  have := linesV_snoc (M := K) (ls := ls.take k) (ln ls k) B c
  rw [hl] at this
  rw [this, e]
theorem linesIn_put {β : Bs} {ls : List LineM} {K : LayL} {k : Nat} {B : Option Addr} {c : Nat} (h : k < ls.length) (hI : LinesIn β (ls.take k) K) (hB : BytesAt β B (ln ls k).data) : LinesIn β (ls.take (k + 1)) (K.put k B c) := by
  have e : ls.take (k + 1) = ls.take k ++ [ln ls k] := by
    rw [List.take_add_one]
    congr 1
    unfold ln
    rw [List.getD_eq_getElem?_getD, List.getElem?_eq_getElem h]
    rfl
  have hl : (ls.take k).length = k := by rw [List.length_take]; omega
  have := LinesIn.snoc hI hB (c := c)
  rw [hl] at this
  rw [e]; exact this
set_option maxRecDepth 100000 in
set_option maxHeartbeats 4000000 in
theorem sp_eqBytes {β : Bs} (A1 A2 : Option Addr) (c1 c2 : Nat) (d1 d2 : List UInt8) (hA1 : BytesAt β A1 d1) (hA2 : BytesAt β A2 d2) (hl : d1.length ≤ 1048576) :
    Spec Try.prog β 65 #[.slice A1 d1.length c1, .slice A2 d2.length c2] [] (fun v l => v = .bool (decide (d1 = d2)) ∧ l = []) := by
 refine Spec.enter Try.func65 rfl Try.ntmps65 (Nat.le_of_ble_eq_true rfl) (fun R => ?_)
 refine Tri.seq (Tri.region ?_)
 refine TriL.segK (k' := 1) (fr' := [(0, .slice A1 (d1.length) (c1)), (1, .slice A2 (d2.length) (c2))]) (obl := []) [o_] [0, 1] (fun _ _ => by kernel_rfl) trivial ?_
 refine TriL.nil (by kernel_rfl) (TriQ.next (Tri.seq (Tri.seq (Tri.region ?_))))
 refine TriL.segK (k' := 5) (fr' := [(0, .slice A1 (d1.length) (c1)), (1, .slice A2 (d2.length) (c2)), (10, .bool (!(decide ((((d1.length : Nat) : Int) : Int) = (((d2.length : Nat) : Int) : Int)))))]) (obl := []) [o_, o_, o_, o_, o_] [0, 1, 10] (fun _ _ => by kernel_rfl) trivial ?_
 refine TriL.nil (by kernel_rfl) (TriQ.next ?_)
 refine Tri.condN (p := (((d1.length : Nat) : Int) : Int) = (((d2.length : Nat) : Int) : Int)) (fun _ => by kernel_rfl) (fun h10 => ?_) (fun h10 => ?_)
 ·
  refine Tri.seq (Tri.region ?_)
  refine TriL.segK (k' := 1) (fr' := [(4, .bool false)]) (obl := []) [o_] [4] (fun _ _ => by kernel_rfl) trivial ?_
  refine TriL.nil (by kernel_rfl) (TriQ.next (Tri.ret (TriQ.passRet ?_)))
  exact TriQ.ret (v := .bool false) (l := []) (obl := []) [] [0] (fun _ => by kernel_rfl) trivial rfl (by kernel_rfl) (⟨by rw [decide_eq_false (fun e => h10 (by rw [e]))], rfl⟩)
 ·
  refine Tri.skip (TriQ.next (Tri.seq (Tri.seq (Tri.region ?_))))
  refine TriL.segK (k' := 3) (fr' := [(0, .slice A1 (d1.length) (c1)), (1, .slice A2 (d2.length) (c2)), (12, .int .i64 ↑d1.length), (13, .int .i64 0)]) (obl := []) [o_, o_, o_] [0, 1, 12, 13] (fun _ _ => by kernel_rfl) trivial ?_
  refine TriL.nil (by kernel_rfl) (TriQ.next (Tri.block ?_))
  refine Tri.loop (ι := Nat) (fun (i : Nat) => (i ≤ d1.length) ∧ (∀ j, j < i → d1.getD j 0 = d2.getD j 0)) (fun (i : Nat) => d1.length - i) (fun (i : Nat) => [(0, .slice A1 (d1.length) (c1)), (1, .slice A2 (d2.length) (c2)), (12, .int .i64 ↑d1.length), (13, .int .i64 ↑i)]) (fun (i : Nat) => [.abs R]) 0 (idx := [0, 1, 12, 13]) (pk := [0]) (show (0 ≤ d1.length) ∧ (∀ j, j < 0 → d1.getD j 0 = d2.getD j 0) from ⟨Nat.zero_le _, fun j hj => absurd hj (Nat.not_lt_zero j)⟩) (fun _ => by kernel_rfl) rfl (by kernel_rfl) ?_
  rintro i ⟨hi, hall⟩
  show Tri _ _ _ _ [(0, .slice A1 (d1.length) (c1)), (1, .slice A2 (d2.length) (c2)), (12, .int .i64 ↑d1.length), (13, .int .i64 ↑i)] [.abs R] _
  refine Tri.seq (Tri.region ?_)
  refine TriL.segK (k' := 1) (fr' := [(0, .slice A1 (d1.length) (c1)), (1, .slice A2 (d2.length) (c2)), (12, .int .i64 ↑d1.length), (13, .int .i64 ↑i), (14, .bool (decide ((((i : Nat) : Int) : Int) < (((d1.length : Nat) : Int) : Int))))]) (obl := []) [o_] [0, 1, 12, 13, 14] (fun _ _ => by kernel_rfl) trivial ?_
  refine TriL.nil (by kernel_rfl) (TriQ.next (Tri.seq ?_))
  refine Tri.condP (p := (((i : Nat) : Int) : Int) < (((d1.length : Nat) : Int) : Int)) (fun _ => by kernel_rfl) (fun h14 => ?_) (fun h14 => ?_)
  ·
   refine Tri.skip (TriQ.next (Tri.seq (Tri.block (Tri.seq (Tri.region ?_)))))
   refine TriL.segK (k' := 2) (fr' := [(0, .slice A1 (d1.length) (c1)), (1, .slice A2 (d2.length) (c2)), (5, .int .i64 ↑i), (12, .int .i64 ↑d1.length), (13, .int .i64 ↑i)]) (obl := []) [o_, o_] [0, 1, 5, 12, 13] (fun _ _ => by kernel_rfl) trivial ?_
   refine TriL.nil (by kernel_rfl) (TriQ.next (Tri.seq ?_))
   refine Tri.regionQ (by kernel_rfl) (by kernel_rfl) ?_
   refine TriLQ.seg (k' := 9) (fr' := [(0, .slice A1 (d1.length) (c1)), (1, .slice A2 (d2.length) (c2)), (12, .int .i64 ↑d1.length), (13, .int .i64 ↑i), (24, .bool (!(decide (((((List.getD d1 i 0).toNat : Nat) : Int) : Int) = ((((List.getD d2 i 0).toNat : Nat) : Int) : Int)))))]) (obl := [(Rd β ⟨(blkOf A2), offOf A2 + i * 1, none⟩ (.int .u8 ((((List.getD d2 i 0).toNat : Nat) : Int)))), ((i : Nat) : Int) = ((i : Nat) : Int), i < d2.length, (⟨(blkOf A2), offOf A2, none⟩ : Addr).spot = none, (A2 : Option Addr) = some ⟨(blkOf A2), offOf A2, none⟩, (Rd β ⟨(blkOf A1), offOf A1 + i * 1, none⟩ (.int .u8 ((((List.getD d1 i 0).toNat : Nat) : Int)))), ((i : Nat) : Int) = ((i : Nat) : Int), i < d1.length, (⟨(blkOf A1), offOf A1, none⟩ : Addr).spot = none, (A1 : Option Addr) = some ⟨(blkOf A1), offOf A1, none⟩]) [o_, o_, ⟨[], some i, none, some ⟨(blkOf A1), offOf A1, none⟩, none⟩, ⟨[.old (.int .u8 ((((List.getD d1 i 0).toNat : Nat) : Int)))], none, none, none, none⟩, o_, o_, ⟨[], some i, none, some ⟨(blkOf A2), offOf A2, none⟩, none⟩, ⟨[.old (.int .u8 ((((List.getD d2 i 0).toNat : Nat) : Int)))], none, none, none, none⟩, o_] [0, 1, 12, 13, 24] (fun _ _ => by kernel_rfl) ⟨BytesAt.rd hA2 (by omega), rfl, by omega, rfl, BytesAt.hd hA2 (j := i) (by omega), BytesAt.rd hA1 (by omega), rfl, by omega, rfl, BytesAt.hd hA1 (j := i) (by omega), trivial⟩ ?_
   refine TriLQ.nil (by kernel_rfl) (TriQ.next ?_)
   refine Tri.condN (p := ((((List.getD d1 i 0).toNat : Nat) : Int) : Int) = ((((List.getD d2 i 0).toNat : Nat) : Int) : Int)) (fun _ => by kernel_rfl) (fun h24 => ?_) (fun h24 => ?_)
   ·
    refine Tri.seq (Tri.region ?_)
    refine TriL.segK (k' := 1) (fr' := [(4, .bool false)]) (obl := []) [o_] [4] (fun _ _ => by kernel_rfl) trivial ?_
    refine TriL.nil (by kernel_rfl) (TriQ.next (Tri.ret (TriQ.blockRet (TriQ.passRet (TriQ.passRet (TriQ.blockRet (TriQ.passRet ?_)))))))
    exact TriQ.ret (v := .bool false) (l := []) (obl := []) [] [0] (fun _ => by kernel_rfl) trivial rfl (by kernel_rfl) (⟨by rw [decide_eq_false (fun e => h24 (by rw [e]))], rfl⟩)
   ·
    refine Tri.skip (TriQ.blockNormal (TriQ.next (Tri.region ?_)))
    refine TriL.segK (k' := 2) (fr' := [(0, .slice A1 (d1.length) (c1)), (1, .slice A2 (d2.length) (c2)), (12, .int .i64 ↑d1.length), (13, .int .i64 ↑(i + 1))]) (obl := [(Value.int .i64 (IntKind.wrap .i64 (((i : Nat) : Int) + 1))) = (.int .i64 ↑(i + 1))]) [⟨[], none, none, none, some (.int .i64 ↑(i + 1))⟩, o_] [0, 1, 12, 13] (fun _ _ => by kernel_rfl) ⟨wrapEq (by omega) (by omega) (by omega), trivial⟩ ?_
    refine TriL.nil (by kernel_rfl) ?_
    exact TriQ.turn ((i + 1)) (idx := [0, 1, 12, 13]) (pk := [0]) (show (((i + 1)) ≤ d1.length) ∧ (∀ j, j < ((i + 1)) → d1.getD j 0 = d2.getD j 0) from ⟨by omega, fun j hj => by rcases Nat.lt_succ_iff_lt_or_eq.1 hj with h | h; exact hall j h; subst h; exact byte_eq h24⟩) (by show d1.length - ((i + 1)) < d1.length - i; omega) (fun _ => by kernel_rfl) rfl (by kernel_rfl)
  ·
   refine Tri.exit (TriQ.passExit (TriQ.passExit (TriQ.blockHit (TriQ.next (Tri.seq (Tri.region ?_))))))
   refine TriL.segK (k' := 1) (fr' := [(4, .bool true)]) (obl := []) [o_] [4] (fun _ _ => by kernel_rfl) trivial ?_
   refine TriL.nil (by kernel_rfl) (TriQ.next (Tri.ret ?_))
   exact TriQ.ret (v := .bool true) (l := []) (obl := []) [] [0] (fun _ => by kernel_rfl) trivial rfl (by kernel_rfl) (⟨by rw [decide_eq_true (ext_getD (x := 0) (by omega) (fun j hj => hall j (by omega)))], rfl⟩)
set_option maxRecDepth 100000 in
set_option maxHeartbeats 4000000 in
theorem sp_gsameLine {β : Bs} (l m : LineM) (dA dB : Option Addr) (dC dD : Nat) (hD : BytesAt β dA l.data) (hD2 : BytesAt β dB m.data) (hl1 : l.data.length ≤ 1048576) :
    Spec Try.prog β 53 #[.agg #[.string l.path, .int .i64 (l.kind), .int .i64 (l.mode), .int .i64 (l.uid), .int .i64 (l.gid), .int .i64 (l.sec), .int .i64 (l.nano), .slice dA (l.data.length) (dC), .string l.target, .string l.peer], .agg #[.string m.path, .int .i64 (m.kind), .int .i64 (m.mode), .int .i64 (m.uid), .int .i64 (m.gid), .int .i64 (m.sec), .int .i64 (m.nano), .slice dB (m.data.length) (dD), .string m.target, .string m.peer]] [] (fun v k => v = .bool (decide (l = m)) ∧ k = []) := by
 refine Spec.enter Try.func53 rfl Try.ntmps53 (Nat.le_of_ble_eq_true rfl) (fun R => ?_)
 refine Tri.seq (Tri.region ?_)
 refine TriL.segN (k' := 1) (fr' := fun b1 => [(1, .agg #[.string m.path, .int .i64 (m.kind), .int .i64 (m.mode), .int .i64 (m.uid), .int .i64 (m.gid), .int .i64 (m.sec), .int .i64 (m.nano), .slice dB (m.data.length) (dD), .string m.target, .string m.peer]), (2, .pointer (some ⟨b1, 0, none⟩))]) (hps' := fun b1 => [.abs R, .blk b1 [.string l.path, .int .i64 (l.kind), .int .i64 (l.mode), .int .i64 (l.uid), .int .i64 (l.gid), .int .i64 (l.sec), .int .i64 (l.nano), .slice dA (l.data.length) (dC), .string l.target, .string l.peer] 51]) (obl := fun b1 => []) [o_] [1, 2] [0, 1] (fun _ _ => by kernel_rfl) (fun b1 => trivial) (fun b1 => ?_)
 refine TriL.segN (k' := 3) (fr' := fun b2 => [(2, .pointer (some ⟨b1, 0, none⟩)), (3, .pointer (some ⟨b2, 0, none⟩))]) (hps' := fun b2 => [.abs R, .blk b1 [.string l.path, .int .i64 (l.kind), .int .i64 (l.mode), .int .i64 (l.uid), .int .i64 (l.gid), .int .i64 (l.sec), .int .i64 (l.nano), .slice dA (l.data.length) (dC), .string l.target, .string l.peer] 51, .blk b2 [.string m.path, .int .i64 (m.kind), .int .i64 (m.mode), .int .i64 (m.uid), .int .i64 (m.gid), .int .i64 (m.sec), .int .i64 (m.nano), .slice dB (m.data.length) (dD), .string m.target, .string m.peer] 51]) (obl := fun b2 => []) [o_, o_] [2, 3] [0, 1, 2] (fun _ _ => by kernel_rfl) (fun b2 => trivial) (fun b2 => ?_)
 refine TriL.nil (by kernel_rfl) (TriQ.next (Tri.seq (Tri.region ?_)))
 refine TriL.segK (k' := 6) (fr' := [(2, .pointer (some ⟨b1, 0, none⟩)), (3, .pointer (some ⟨b2, 0, none⟩)), (10, .bool (decide ((l.path : ByteArray) = m.path)))]) (obl := [(Value.bool ((l.path : ByteArray).toList == (m.path : ByteArray).toList)) = (.bool (decide ((l.path : ByteArray) = m.path))), b2 = b2, b1 = b1]) [o_, ⟨[.at 1], none, none, none, none⟩, o_, ⟨[.at 2], none, none, none, none⟩, ⟨[], none, none, none, some (.bool (decide ((l.path : ByteArray) = m.path)))⟩, o_] [2, 3, 10] (fun _ _ => by kernel_rfl) ⟨strEqV _ _, rfl, rfl, trivial⟩ ?_
 refine TriL.slotP 10 ((l.path : ByteArray) = m.path) (fun _ => by kernel_rfl) (fun h10 => ?_) (fun h10 => ?_)
 ·
  refine TriL.segK (k' := 13) (fr' := [(2, .pointer (some ⟨b1, 0, none⟩)), (3, .pointer (some ⟨b2, 0, none⟩)), (17, .bool (decide ((l.kind : Int) = (m.kind : Int))))]) (obl := [b2 = b2, b1 = b1]) [o_, ⟨[.at 1], none, none, none, none⟩, o_, ⟨[.at 2], none, none, none, none⟩, o_, o_, o_] [2, 3, 17] (fun _ _ => by kernel_rfl) ⟨rfl, rfl, trivial⟩ ?_
  refine TriL.slotP 17 ((l.kind : Int) = (m.kind : Int)) (fun _ => by kernel_rfl) (fun h17 => ?_) (fun h17 => ?_)
  ·
   refine TriL.segK (k' := 20) (fr' := [(2, .pointer (some ⟨b1, 0, none⟩)), (3, .pointer (some ⟨b2, 0, none⟩)), (24, .bool (decide ((l.mode : Int) = (m.mode : Int))))]) (obl := [b2 = b2, b1 = b1]) [o_, ⟨[.at 1], none, none, none, none⟩, o_, ⟨[.at 2], none, none, none, none⟩, o_, o_, o_] [2, 3, 24] (fun _ _ => by kernel_rfl) ⟨rfl, rfl, trivial⟩ ?_
   refine TriL.slotP 24 ((l.mode : Int) = (m.mode : Int)) (fun _ => by kernel_rfl) (fun h24 => ?_) (fun h24 => ?_)
   ·
    refine TriL.segK (k' := 27) (fr' := [(2, .pointer (some ⟨b1, 0, none⟩)), (3, .pointer (some ⟨b2, 0, none⟩)), (31, .bool (decide ((l.uid : Int) = (m.uid : Int))))]) (obl := [b2 = b2, b1 = b1]) [o_, ⟨[.at 1], none, none, none, none⟩, o_, ⟨[.at 2], none, none, none, none⟩, o_, o_, o_] [2, 3, 31] (fun _ _ => by kernel_rfl) ⟨rfl, rfl, trivial⟩ ?_
    refine TriL.slotP 31 ((l.uid : Int) = (m.uid : Int)) (fun _ => by kernel_rfl) (fun h31 => ?_) (fun h31 => ?_)
    ·
     refine TriL.segK (k' := 34) (fr' := [(2, .pointer (some ⟨b1, 0, none⟩)), (3, .pointer (some ⟨b2, 0, none⟩)), (38, .bool (decide ((l.gid : Int) = (m.gid : Int))))]) (obl := [b2 = b2, b1 = b1]) [o_, ⟨[.at 1], none, none, none, none⟩, o_, ⟨[.at 2], none, none, none, none⟩, o_, o_, o_] [2, 3, 38] (fun _ _ => by kernel_rfl) ⟨rfl, rfl, trivial⟩ ?_
     refine TriL.slotP 38 ((l.gid : Int) = (m.gid : Int)) (fun _ => by kernel_rfl) (fun h38 => ?_) (fun h38 => ?_)
     ·
      refine TriL.segK (k' := 38) (fr' := [(2, .pointer (some ⟨b1, 0, none⟩)), (3, .pointer (some ⟨b2, 0, none⟩)), (38, .bool true), (40, .agg #[.int .i64 (l.sec), .int .i64 (l.nano)]), (42, .agg #[.int .i64 (m.sec), .int .i64 (m.nano)])]) (obl := [b2 = b2, b2 = b2, b1 = b1, b1 = b1]) [o_, ⟨[.at 1, .at 1], none, none, none, none⟩, o_, ⟨[.at 2, .at 2], none, none, none, none⟩] [2, 3, 38, 40, 42] (fun _ _ => by kernel_rfl) ⟨rfl, rfl, rfl, rfl, trivial⟩ ?_
      refine TriL.run1 (d := (some 43)) (op := .binOp .eql 28 (.tmp 40) (.tmp 42) 28) (v := .bool (decide ((l.sec : Int) = (m.sec : Int) ∧ (l.nano : Int) = (m.nano : Int)))) (fun _ => by kernel_rfl) (fun o junk w ho hS => ⟨w, ran_timeEq ho (by kernel_rfl) (by kernel_rfl), hS⟩) ?_
      refine TriL.segK (k' := 41) (fr' := [(2, .pointer (some ⟨b1, 0, none⟩)), (3, .pointer (some ⟨b2, 0, none⟩)), (45, .bool (decide ((l.sec : Int) = (m.sec : Int) ∧ (l.nano : Int) = (m.nano : Int))))]) (obl := []) [o_, o_] [2, 3, 45] (fun _ _ => by kernel_rfl) trivial ?_
      refine TriL.slotP 45 ((l.sec : Int) = (m.sec : Int) ∧ (l.nano : Int) = (m.nano : Int)) (fun _ => by kernel_rfl) (fun h45 => ?_) (fun h45 => ?_)
      ·
       refine TriL.segK (k' := 48) (fr' := [(2, .pointer (some ⟨b1, 0, none⟩)), (3, .pointer (some ⟨b2, 0, none⟩)), (52, .bool (decide ((l.target : ByteArray) = m.target)))]) (obl := [(Value.bool ((l.target : ByteArray).toList == (m.target : ByteArray).toList)) = (.bool (decide ((l.target : ByteArray) = m.target))), b2 = b2, b1 = b1]) [o_, ⟨[.at 1], none, none, none, none⟩, o_, ⟨[.at 2], none, none, none, none⟩, ⟨[], none, none, none, some (.bool (decide ((l.target : ByteArray) = m.target)))⟩, o_, o_] [2, 3, 52] (fun _ _ => by kernel_rfl) ⟨strEqV _ _, rfl, rfl, trivial⟩ ?_
       refine TriL.slotP 52 ((l.target : ByteArray) = m.target) (fun _ => by kernel_rfl) (fun h52 => ?_) (fun h52 => ?_)
       ·
        refine TriL.segK (k' := 55) (fr' := [(2, .pointer (some ⟨b1, 0, none⟩)), (3, .pointer (some ⟨b2, 0, none⟩)), (59, .bool (decide ((l.peer : ByteArray) = m.peer)))]) (obl := [(Value.bool ((l.peer : ByteArray).toList == (m.peer : ByteArray).toList)) = (.bool (decide ((l.peer : ByteArray) = m.peer))), b2 = b2, b1 = b1]) [o_, ⟨[.at 1], none, none, none, none⟩, o_, ⟨[.at 2], none, none, none, none⟩, ⟨[], none, none, none, some (.bool (decide ((l.peer : ByteArray) = m.peer)))⟩, o_, o_] [2, 3, 59] (fun _ _ => by kernel_rfl) ⟨strEqV _ _, rfl, rfl, trivial⟩ ?_
        refine TriL.slotP 59 ((l.peer : ByteArray) = m.peer) (fun _ => by kernel_rfl) (fun h59 => ?_) (fun h59 => ?_)
        ·
         refine TriL.segK (k' := 59) (fr' := [(59, .bool true), (61, .slice dA (l.data.length) (dC)), (63, .slice dB (m.data.length) (dD))]) (obl := [b2 = b2, b1 = b1]) [o_, ⟨[.at 1], none, none, none, none⟩, o_, ⟨[.at 2], none, none, none, none⟩] [59, 61, 63] (fun _ _ => by kernel_rfl) ⟨rfl, rfl, trivial⟩ ?_
         refine TriL.call (f := 65) (args := #[.slice dA (l.data.length) (dC), .slice dB (m.data.length) (dD)]) (d := (some 64)) (pre := []) (R := [.abs R, .blk b1 [.string l.path, .int .i64 (l.kind), .int .i64 (l.mode), .int .i64 (l.uid), .int .i64 (l.gid), .int .i64 (l.sec), .int .i64 (l.nano), .slice dA (l.data.length) (dC), .string l.target, .string l.peer] 51, .blk b2 [.string m.path, .int .i64 (m.kind), .int .i64 (m.mode), .int .i64 (m.uid), .int .i64 (m.gid), .int .i64 (m.sec), .int .i64 (m.nano), .slice dB (m.data.length) (dD), .string m.target, .string m.peer] 51]) (pk := [0, 1, 2]) (fun _ => by kernel_rfl) (sp_eqBytes dA dB dC dD l.data m.data hD hD2 hl1) rfl (by kernel_rfl) ?_
         rintro _ _ ⟨rfl, rfl⟩
         refine TriL.segK (k' := 62) (fr' := [(4, .bool (decide (l.data = m.data)))]) (obl := []) [o_, o_] [4] (fun _ _ => by kernel_rfl) trivial ?_
         refine TriL.nil (by kernel_rfl) (TriQ.next (Tri.ret ?_))
         exact TriQ.ret (v := .bool (decide (l.data = m.data))) (l := []) (obl := []) [] [0] (fun _ => by kernel_rfl) trivial rfl (by kernel_rfl) (⟨congrArg Value.bool (decide_eq_decide.2 ⟨fun e => lineEq (by assumption) (by assumption) (by assumption) (by assumption) (by assumption) (by assumption) (by assumption) (by assumption) e, fun e => by cases e; rfl⟩), rfl⟩)
        ·
         refine TriL.segK (k' := 62) (fr' := [(4, .bool false)]) (obl := []) [o_, o_, o_, o_, o_, o_, o_] [4] (fun _ _ => by kernel_rfl) trivial ?_
         refine TriL.nil (by kernel_rfl) (TriQ.next (Tri.ret ?_))
         exact TriQ.ret (v := .bool false) (l := []) (obl := []) [] [0] (fun _ => by kernel_rfl) trivial rfl (by kernel_rfl) (⟨by rw [decide_eq_false (fun e => h59 (by cases e; first | rfl | exact ⟨rfl, rfl⟩))], rfl⟩)
       ·
        refine TriL.segK (k' := 62) (fr' := [(4, .bool false)]) (obl := []) [o_, o_, o_, o_, o_, o_, o_, o_, o_, o_, o_, o_, o_, o_] [4] (fun _ _ => by kernel_rfl) trivial ?_
        refine TriL.nil (by kernel_rfl) (TriQ.next (Tri.ret ?_))
        exact TriQ.ret (v := .bool false) (l := []) (obl := []) [] [0] (fun _ => by kernel_rfl) trivial rfl (by kernel_rfl) (⟨by rw [decide_eq_false (fun e => h52 (by cases e; first | rfl | exact ⟨rfl, rfl⟩))], rfl⟩)
      ·
       refine TriL.segK (k' := 62) (fr' := [(4, .bool false)]) (obl := []) [o_, o_, o_, o_, o_, o_, o_, o_, o_, o_, o_, o_, o_, o_, o_, o_, o_, o_, o_, o_, o_] [4] (fun _ _ => by kernel_rfl) trivial ?_
       refine TriL.nil (by kernel_rfl) (TriQ.next (Tri.ret ?_))
       exact TriQ.ret (v := .bool false) (l := []) (obl := []) [] [0] (fun _ => by kernel_rfl) trivial rfl (by kernel_rfl) (⟨by rw [decide_eq_false (fun e => h45 (by cases e; first | rfl | exact ⟨rfl, rfl⟩))], rfl⟩)
     ·
      refine TriL.segK (k' := 62) (fr' := [(4, .bool false)]) (obl := []) [o_, o_, o_, o_, o_, o_, o_, o_, o_, o_, o_, o_, o_, o_, o_, o_, o_, o_, o_, o_, o_, o_, o_, o_, o_, o_, o_, o_] [4] (fun _ _ => by kernel_rfl) trivial ?_
      refine TriL.nil (by kernel_rfl) (TriQ.next (Tri.ret ?_))
      exact TriQ.ret (v := .bool false) (l := []) (obl := []) [] [0] (fun _ => by kernel_rfl) trivial rfl (by kernel_rfl) (⟨by rw [decide_eq_false (fun e => h38 (by cases e; first | rfl | exact ⟨rfl, rfl⟩))], rfl⟩)
    ·
     refine TriL.segK (k' := 62) (fr' := [(4, .bool false)]) (obl := []) [o_, o_, o_, o_, o_, o_, o_, o_, o_, o_, o_, o_, o_, o_, o_, o_, o_, o_, o_, o_, o_, o_, o_, o_, o_, o_, o_, o_, o_, o_, o_, o_, o_, o_, o_] [4] (fun _ _ => by kernel_rfl) trivial ?_
     refine TriL.nil (by kernel_rfl) (TriQ.next (Tri.ret ?_))
     exact TriQ.ret (v := .bool false) (l := []) (obl := []) [] [0] (fun _ => by kernel_rfl) trivial rfl (by kernel_rfl) (⟨by rw [decide_eq_false (fun e => h31 (by cases e; first | rfl | exact ⟨rfl, rfl⟩))], rfl⟩)
   ·
    refine TriL.segK (k' := 62) (fr' := [(4, .bool false)]) (obl := []) [o_, o_, o_, o_, o_, o_, o_, o_, o_, o_, o_, o_, o_, o_, o_, o_, o_, o_, o_, o_, o_, o_, o_, o_, o_, o_, o_, o_, o_, o_, o_, o_, o_, o_, o_, o_, o_, o_, o_, o_, o_, o_] [4] (fun _ _ => by kernel_rfl) trivial ?_
    refine TriL.nil (by kernel_rfl) (TriQ.next (Tri.ret ?_))
    exact TriQ.ret (v := .bool false) (l := []) (obl := []) [] [0] (fun _ => by kernel_rfl) trivial rfl (by kernel_rfl) (⟨by rw [decide_eq_false (fun e => h24 (by cases e; first | rfl | exact ⟨rfl, rfl⟩))], rfl⟩)
  ·
   refine TriL.segK (k' := 62) (fr' := [(4, .bool false)]) (obl := []) [o_, o_, o_, o_, o_, o_, o_, o_, o_, o_, o_, o_, o_, o_, o_, o_, o_, o_, o_, o_, o_, o_, o_, o_, o_, o_, o_, o_, o_, o_, o_, o_, o_, o_, o_, o_, o_, o_, o_, o_, o_, o_, o_, o_, o_, o_, o_, o_, o_] [4] (fun _ _ => by kernel_rfl) trivial ?_
   refine TriL.nil (by kernel_rfl) (TriQ.next (Tri.ret ?_))
   exact TriQ.ret (v := .bool false) (l := []) (obl := []) [] [0] (fun _ => by kernel_rfl) trivial rfl (by kernel_rfl) (⟨by rw [decide_eq_false (fun e => h17 (by cases e; first | rfl | exact ⟨rfl, rfl⟩))], rfl⟩)
 ·
  refine TriL.segK (k' := 62) (fr' := [(4, .bool false)]) (obl := []) [o_, o_, o_, o_, o_, o_, o_, o_, o_, o_, o_, o_, o_, o_, o_, o_, o_, o_, o_, o_, o_, o_, o_, o_, o_, o_, o_, o_, o_, o_, o_, o_, o_, o_, o_, o_, o_, o_, o_, o_, o_, o_, o_, o_, o_, o_, o_, o_, o_, o_, o_, o_, o_, o_, o_, o_] [4] (fun _ _ => by kernel_rfl) trivial ?_
  refine TriL.nil (by kernel_rfl) (TriQ.next (Tri.ret ?_))
  exact TriQ.ret (v := .bool false) (l := []) (obl := []) [] [0] (fun _ => by kernel_rfl) trivial rfl (by kernel_rfl) (⟨by rw [decide_eq_false (fun e => h10 (by cases e; first | rfl | exact ⟨rfl, rfl⟩))], rfl⟩)
set_option maxRecDepth 100000 in
set_option maxHeartbeats 4000000 in
theorem sp_eqLines {β : Bs} (A B : Option Addr) (c c' : Nat) (ls ms : List LineM) (M K : LayL) (hG : LinesAt β A ls M) (hH : LinesAt β B ms K) (hl : ls.length ≤ 16777216) (hd : ∀ i, i < ls.length → (ln ls i).data.length ≤ 1048576) :
    Spec Try.prog β 52 #[.slice A ls.length c, .slice B ms.length c', .func (.func 53) #[] #[]] [] (fun v l => v = .bool (decide (ls = ms)) ∧ l = []) := by
 refine Spec.enter Try.func52 rfl Try.ntmps52 (Nat.le_of_ble_eq_true rfl) (fun R => ?_)
 refine Tri.seq (Tri.region ?_)
 refine TriL.segK (k' := 1) (fr' := [(0, .slice A (ls.length) (c)), (1, .slice B (ms.length) (c')), (2, .func (.func 53) #[] #[])]) (obl := []) [o_] [0, 1, 2] (fun _ _ => by kernel_rfl) trivial ?_
 refine TriL.nil (by kernel_rfl) (TriQ.next (Tri.seq (Tri.seq (Tri.region ?_))))
 refine TriL.segK (k' := 5) (fr' := [(0, .slice A (ls.length) (c)), (1, .slice B (ms.length) (c')), (2, .func (.func 53) #[] #[]), (14, .bool (!(decide ((((ls.length : Nat) : Int) : Int) = (((ms.length : Nat) : Int) : Int)))))]) (obl := []) [o_, o_, o_, o_, o_] [0, 1, 2, 14] (fun _ _ => by kernel_rfl) trivial ?_
 refine TriL.nil (by kernel_rfl) (TriQ.next ?_)
 refine Tri.condN (p := (((ls.length : Nat) : Int) : Int) = (((ms.length : Nat) : Int) : Int)) (fun _ => by kernel_rfl) (fun h14 => ?_) (fun h14 => ?_)
 ·
  refine Tri.seq (Tri.region ?_)
  refine TriL.segK (k' := 1) (fr' := [(6, .bool false)]) (obl := []) [o_] [6] (fun _ _ => by kernel_rfl) trivial ?_
  refine TriL.nil (by kernel_rfl) (TriQ.next (Tri.ret (TriQ.passRet ?_)))
  exact TriQ.ret (v := .bool false) (l := []) (obl := []) [] [0] (fun _ => by kernel_rfl) trivial rfl (by kernel_rfl) (⟨by rw [decide_eq_false (fun e => h14 (by rw [e]))], rfl⟩)
 ·
  refine Tri.skip (TriQ.next (Tri.seq (Tri.seq (Tri.region ?_))))
  refine TriL.segK (k' := 3) (fr' := [(1, .slice B (ms.length) (c')), (2, .func (.func 53) #[] #[]), (15, .slice A (ls.length) (c)), (16, .int .i64 ↑ls.length), (17, .int .i64 0)]) (obl := []) [o_, o_, o_] [1, 2, 15, 16, 17] (fun _ _ => by kernel_rfl) trivial ?_
  refine TriL.nil (by kernel_rfl) (TriQ.next (Tri.block ?_))
  refine Tri.loop (ι := Nat) (fun (i : Nat) => (i ≤ ls.length) ∧ (∀ j, j < i → ls.getD j default = ms.getD j default)) (fun (i : Nat) => ls.length - i) (fun (i : Nat) => [(1, .slice B (ms.length) (c')), (2, .func (.func 53) #[] #[]), (15, .slice A (ls.length) (c)), (16, .int .i64 ↑ls.length), (17, .int .i64 ↑i)]) (fun (i : Nat) => [.abs R]) 0 (idx := [1, 2, 15, 16, 17]) (pk := [0]) (show (0 ≤ ls.length) ∧ (∀ j, j < 0 → ls.getD j default = ms.getD j default) from ⟨Nat.zero_le _, fun j hj => absurd hj (Nat.not_lt_zero j)⟩) (fun _ => by kernel_rfl) rfl (by kernel_rfl) ?_
  rintro i ⟨hi, hall⟩
  show Tri _ _ _ _ [(1, .slice B (ms.length) (c')), (2, .func (.func 53) #[] #[]), (15, .slice A (ls.length) (c)), (16, .int .i64 ↑ls.length), (17, .int .i64 ↑i)] [.abs R] _
  refine Tri.seq (Tri.region ?_)
  refine TriL.segK (k' := 1) (fr' := [(1, .slice B (ms.length) (c')), (2, .func (.func 53) #[] #[]), (15, .slice A (ls.length) (c)), (16, .int .i64 ↑ls.length), (17, .int .i64 ↑i), (18, .bool (decide ((((i : Nat) : Int) : Int) < (((ls.length : Nat) : Int) : Int))))]) (obl := []) [o_] [1, 2, 15, 16, 17, 18] (fun _ _ => by kernel_rfl) trivial ?_
  refine TriL.nil (by kernel_rfl) (TriQ.next (Tri.seq ?_))
  refine Tri.condP (p := (((i : Nat) : Int) : Int) < (((ls.length : Nat) : Int) : Int)) (fun _ => by kernel_rfl) (fun h18 => ?_) (fun h18 => ?_)
  ·
   refine Tri.skip (TriQ.next (Tri.seq (Tri.block (Tri.seq (Tri.region ?_)))))
   refine TriL.segN (k' := 6) (fr' := fun b3 => [(1, .slice B (ms.length) (c')), (2, .func (.func 53) #[] #[]), (7, .int .i64 ↑i), (8, .pointer (some ⟨b3, 0, none⟩)), (15, .slice A (ls.length) (c)), (16, .int .i64 ↑ls.length), (17, .int .i64 ↑i)]) (hps' := fun b3 => [.abs R, .blk b3 [.string (ln ls i).path, .int .i64 ((ln ls i).kind), .int .i64 ((ln ls i).mode), .int .i64 ((ln ls i).uid), .int .i64 ((ln ls i).gid), .int .i64 ((ln ls i).sec), .int .i64 ((ln ls i).nano), .slice (M.dA i) ((ln ls i).data.length) ((M.dC i)), .string (ln ls i).target, .string (ln ls i).peer] 51]) (obl := fun b3 => [b3 = b3, b3 = b3, b3 = b3, b3 = b3, b3 = b3, b3 = b3, b3 = b3, b3 = b3, b3 = b3, b3 = b3, (Rd β ⟨(blkOf A), offOf A + i * 10 + 9, none⟩ (.string (ln ls i).peer)), (Rd β ⟨(blkOf A), offOf A + i * 10 + 8, none⟩ (.string (ln ls i).target)), (Rd β ⟨(blkOf A), offOf A + i * 10 + 7, none⟩ (.slice (M.dA i) ((ln ls i).data.length) ((M.dC i)))), (Rd β ⟨(blkOf A), offOf A + i * 10 + 6, none⟩ (.int .i64 ((ln ls i).nano))), (Rd β ⟨(blkOf A), offOf A + i * 10 + 5, none⟩ (.int .i64 ((ln ls i).sec))), (Rd β ⟨(blkOf A), offOf A + i * 10 + 4, none⟩ (.int .i64 ((ln ls i).gid))), (Rd β ⟨(blkOf A), offOf A + i * 10 + 3, none⟩ (.int .i64 ((ln ls i).uid))), (Rd β ⟨(blkOf A), offOf A + i * 10 + 2, none⟩ (.int .i64 ((ln ls i).mode))), (Rd β ⟨(blkOf A), offOf A + i * 10 + 1, none⟩ (.int .i64 ((ln ls i).kind))), (Rd β ⟨(blkOf A), offOf A + i * 10, none⟩ (.string (ln ls i).path)), ((i : Nat) : Int) = ((i : Nat) : Int), i < ls.length, (⟨(blkOf A), offOf A, none⟩ : Addr).spot = none, (A : Option Addr) = some ⟨(blkOf A), offOf A, none⟩]) [o_, ⟨[], some i, none, some ⟨(blkOf A), offOf A, none⟩, none⟩, ⟨[.old (.string (ln ls i).path), .old (.int .i64 ((ln ls i).kind)), .old (.int .i64 ((ln ls i).mode)), .old (.int .i64 ((ln ls i).uid)), .old (.int .i64 ((ln ls i).gid)), .old (.int .i64 ((ln ls i).sec)), .old (.int .i64 ((ln ls i).nano)), .old (.slice (M.dA i) ((ln ls i).data.length) ((M.dC i))), .old (.string (ln ls i).target), .old (.string (ln ls i).peer)], none, none, none, none⟩, o_, o_, ⟨[.at 1, .at 1, .at 1, .at 1, .at 1, .at 1, .at 1, .at 1, .at 1, .at 1], none, none, none, none⟩] [1, 2, 7, 8, 15, 16, 17] [0, 1] (fun _ _ => by kernel_rfl) (fun b3 => ⟨rfl, rfl, rfl, rfl, rfl, rfl, rfl, rfl, rfl, rfl, LinesAt.rd hG (i := i) (by omega) (j := 9) rfl, LinesAt.rd hG (i := i) (by omega) (j := 8) rfl, LinesAt.rd hG (i := i) (by omega) (j := 7) rfl, LinesAt.rd hG (i := i) (by omega) (j := 6) rfl, LinesAt.rd hG (i := i) (by omega) (j := 5) rfl, LinesAt.rd hG (i := i) (by omega) (j := 4) rfl, LinesAt.rd hG (i := i) (by omega) (j := 3) rfl, LinesAt.rd hG (i := i) (by omega) (j := 2) rfl, LinesAt.rd hG (i := i) (by omega) (j := 1) rfl, LinesAt.rd hG (i := i) (by omega) (j := 0) rfl, rfl, by omega, rfl, LinesAt.hd hG (i := i) (by omega), trivial⟩) (fun b3 => ?_)
   refine TriL.nil (by kernel_rfl) (TriQ.next (Tri.seq (Tri.region ?_)))
   refine TriL.segN (k' := 6) (fr' := fun b4 => [(1, .slice B (ms.length) (c')), (2, .func (.func 53) #[] #[]), (8, .pointer (some ⟨b3, 0, none⟩)), (9, .pointer (some ⟨b4, 0, none⟩)), (15, .slice A (ls.length) (c)), (16, .int .i64 ↑ls.length), (17, .int .i64 ↑i)]) (hps' := fun b4 => [.abs R, .blk b3 [.string (ln ls i).path, .int .i64 ((ln ls i).kind), .int .i64 ((ln ls i).mode), .int .i64 ((ln ls i).uid), .int .i64 ((ln ls i).gid), .int .i64 ((ln ls i).sec), .int .i64 ((ln ls i).nano), .slice (M.dA i) ((ln ls i).data.length) ((M.dC i)), .string (ln ls i).target, .string (ln ls i).peer] 51, .blk b4 [.string (ln ms i).path, .int .i64 ((ln ms i).kind), .int .i64 ((ln ms i).mode), .int .i64 ((ln ms i).uid), .int .i64 ((ln ms i).gid), .int .i64 ((ln ms i).sec), .int .i64 ((ln ms i).nano), .slice (K.dA i) ((ln ms i).data.length) ((K.dC i)), .string (ln ms i).target, .string (ln ms i).peer] 51]) (obl := fun b4 => [b4 = b4, b4 = b4, b4 = b4, b4 = b4, b4 = b4, b4 = b4, b4 = b4, b4 = b4, b4 = b4, b4 = b4, (Rd β ⟨(blkOf B), offOf B + i * 10 + 9, none⟩ (.string (ln ms i).peer)), (Rd β ⟨(blkOf B), offOf B + i * 10 + 8, none⟩ (.string (ln ms i).target)), (Rd β ⟨(blkOf B), offOf B + i * 10 + 7, none⟩ (.slice (K.dA i) ((ln ms i).data.length) ((K.dC i)))), (Rd β ⟨(blkOf B), offOf B + i * 10 + 6, none⟩ (.int .i64 ((ln ms i).nano))), (Rd β ⟨(blkOf B), offOf B + i * 10 + 5, none⟩ (.int .i64 ((ln ms i).sec))), (Rd β ⟨(blkOf B), offOf B + i * 10 + 4, none⟩ (.int .i64 ((ln ms i).gid))), (Rd β ⟨(blkOf B), offOf B + i * 10 + 3, none⟩ (.int .i64 ((ln ms i).uid))), (Rd β ⟨(blkOf B), offOf B + i * 10 + 2, none⟩ (.int .i64 ((ln ms i).mode))), (Rd β ⟨(blkOf B), offOf B + i * 10 + 1, none⟩ (.int .i64 ((ln ms i).kind))), (Rd β ⟨(blkOf B), offOf B + i * 10, none⟩ (.string (ln ms i).path)), ((i : Nat) : Int) = ((i : Nat) : Int), i < ms.length, (⟨(blkOf B), offOf B, none⟩ : Addr).spot = none, (B : Option Addr) = some ⟨(blkOf B), offOf B, none⟩]) [o_, o_, ⟨[], some i, none, some ⟨(blkOf B), offOf B, none⟩, none⟩, ⟨[.old (.string (ln ms i).path), .old (.int .i64 ((ln ms i).kind)), .old (.int .i64 ((ln ms i).mode)), .old (.int .i64 ((ln ms i).uid)), .old (.int .i64 ((ln ms i).gid)), .old (.int .i64 ((ln ms i).sec)), .old (.int .i64 ((ln ms i).nano)), .old (.slice (K.dA i) ((ln ms i).data.length) ((K.dC i))), .old (.string (ln ms i).target), .old (.string (ln ms i).peer)], none, none, none, none⟩, o_, ⟨[.at 2, .at 2, .at 2, .at 2, .at 2, .at 2, .at 2, .at 2, .at 2, .at 2], none, none, none, none⟩] [1, 2, 8, 9, 15, 16, 17] [0, 1, 2] (fun _ _ => by kernel_rfl) (fun b4 => ⟨rfl, rfl, rfl, rfl, rfl, rfl, rfl, rfl, rfl, rfl, LinesAt.rd hH (i := i) (by omega) (j := 9) rfl, LinesAt.rd hH (i := i) (by omega) (j := 8) rfl, LinesAt.rd hH (i := i) (by omega) (j := 7) rfl, LinesAt.rd hH (i := i) (by omega) (j := 6) rfl, LinesAt.rd hH (i := i) (by omega) (j := 5) rfl, LinesAt.rd hH (i := i) (by omega) (j := 4) rfl, LinesAt.rd hH (i := i) (by omega) (j := 3) rfl, LinesAt.rd hH (i := i) (by omega) (j := 2) rfl, LinesAt.rd hH (i := i) (by omega) (j := 1) rfl, LinesAt.rd hH (i := i) (by omega) (j := 0) rfl, rfl, by omega, rfl, LinesAt.hd hH (i := i) (by omega), trivial⟩) (fun b4 => ?_)
   refine TriL.nil (by kernel_rfl) (TriQ.next (Tri.seq (Tri.region ?_)))
   refine TriL.segK (k' := 3) (fr' := [(1, .slice B (ms.length) (c')), (2, .func (.func 53) #[] #[]), (15, .slice A (ls.length) (c)), (16, .int .i64 ↑ls.length), (17, .int .i64 ↑i), (26, .func (.func 53) #[] #[]), (27, .agg #[.string (ln ls i).path, .int .i64 ((ln ls i).kind), .int .i64 ((ln ls i).mode), .int .i64 ((ln ls i).uid), .int .i64 ((ln ls i).gid), .int .i64 ((ln ls i).sec), .int .i64 ((ln ls i).nano), .slice (M.dA i) ((ln ls i).data.length) ((M.dC i)), .string (ln ls i).target, .string (ln ls i).peer]), (28, .agg #[.string (ln ms i).path, .int .i64 ((ln ms i).kind), .int .i64 ((ln ms i).mode), .int .i64 ((ln ms i).uid), .int .i64 ((ln ms i).gid), .int .i64 ((ln ms i).sec), .int .i64 ((ln ms i).nano), .slice (K.dA i) ((ln ms i).data.length) ((K.dC i)), .string (ln ms i).target, .string (ln ms i).peer])]) (obl := [b4 = b4, b4 = b4, b4 = b4, b4 = b4, b4 = b4, b4 = b4, b4 = b4, b4 = b4, b4 = b4, b4 = b4, b3 = b3, b3 = b3, b3 = b3, b3 = b3, b3 = b3, b3 = b3, b3 = b3, b3 = b3, b3 = b3, b3 = b3]) [o_, ⟨[.at 1, .at 1, .at 1, .at 1, .at 1, .at 1, .at 1, .at 1, .at 1, .at 1], none, none, none, none⟩, ⟨[.at 2, .at 2, .at 2, .at 2, .at 2, .at 2, .at 2, .at 2, .at 2, .at 2], none, none, none, none⟩] [1, 2, 15, 16, 17, 26, 27, 28] (fun _ _ => by kernel_rfl) ⟨rfl, rfl, rfl, rfl, rfl, rfl, rfl, rfl, rfl, rfl, rfl, rfl, rfl, rfl, rfl, rfl, rfl, rfl, rfl, rfl, trivial⟩ ?_
   refine TriL.call (f := 53) (args := #[.agg #[.string (ln ls i).path, .int .i64 ((ln ls i).kind), .int .i64 ((ln ls i).mode), .int .i64 ((ln ls i).uid), .int .i64 ((ln ls i).gid), .int .i64 ((ln ls i).sec), .int .i64 ((ln ls i).nano), .slice (M.dA i) ((ln ls i).data.length) ((M.dC i)), .string (ln ls i).target, .string (ln ls i).peer], .agg #[.string (ln ms i).path, .int .i64 ((ln ms i).kind), .int .i64 ((ln ms i).mode), .int .i64 ((ln ms i).uid), .int .i64 ((ln ms i).gid), .int .i64 ((ln ms i).sec), .int .i64 ((ln ms i).nano), .slice (K.dA i) ((ln ms i).data.length) ((K.dC i)), .string (ln ms i).target, .string (ln ms i).peer]]) (d := (some 29)) (pre := []) (R := [.abs R, .blk b3 [.string (ln ls i).path, .int .i64 ((ln ls i).kind), .int .i64 ((ln ls i).mode), .int .i64 ((ln ls i).uid), .int .i64 ((ln ls i).gid), .int .i64 ((ln ls i).sec), .int .i64 ((ln ls i).nano), .slice (M.dA i) ((ln ls i).data.length) ((M.dC i)), .string (ln ls i).target, .string (ln ls i).peer] 51, .blk b4 [.string (ln ms i).path, .int .i64 ((ln ms i).kind), .int .i64 ((ln ms i).mode), .int .i64 ((ln ms i).uid), .int .i64 ((ln ms i).gid), .int .i64 ((ln ms i).sec), .int .i64 ((ln ms i).nano), .slice (K.dA i) ((ln ms i).data.length) ((K.dC i)), .string (ln ms i).target, .string (ln ms i).peer] 51]) (pk := [0, 1, 2]) (fun _ => by kernel_rfl) (sp_gsameLine (ln ls i) (ln ms i) (M.dA i) (K.dA i) (M.dC i) (K.dC i) (hG.data i (by omega)) (hH.data i (by omega)) (hd i (by omega))) rfl (by kernel_rfl) ?_
   rintro _ _ ⟨rfl, rfl⟩
   refine TriL.segK (k' := 5) (fr' := [(1, .slice B (ms.length) (c')), (2, .func (.func 53) #[] #[]), (15, .slice A (ls.length) (c)), (16, .int .i64 ↑ls.length), (17, .int .i64 ↑i), (30, .bool (!(decide (ln ls i = ln ms i))))]) (obl := []) [o_] [1, 2, 15, 16, 17, 30] (fun _ _ => by kernel_rfl) trivial ?_
   refine TriL.nil (by kernel_rfl) (TriQ.next ?_)
   refine Tri.condN (p := ln ls i = ln ms i) (fun _ => by kernel_rfl) (fun h30 => ?_) (fun h30 => ?_)
   ·
    refine Tri.seq (Tri.region ?_)
    refine TriL.segK (k' := 1) (fr' := [(6, .bool false)]) (obl := []) [o_] [6] (fun _ _ => by kernel_rfl) trivial ?_
    refine TriL.nil (by kernel_rfl) (TriQ.next (Tri.ret (TriQ.blockRet (TriQ.passRet (TriQ.passRet (TriQ.blockRet (TriQ.passRet ?_)))))))
    exact TriQ.ret (v := .bool false) (l := []) (obl := []) [] [0] (fun _ => by kernel_rfl) trivial rfl (by kernel_rfl) (⟨by rw [decide_eq_false (fun e => h30 (by rw [e]))], rfl⟩)
   ·
    refine Tri.skip (TriQ.blockNormal (TriQ.next (Tri.region ?_)))
    refine TriL.segK (k' := 2) (fr' := [(1, .slice B (ms.length) (c')), (2, .func (.func 53) #[] #[]), (15, .slice A (ls.length) (c)), (16, .int .i64 ↑ls.length), (17, .int .i64 ↑(i + 1))]) (obl := [(Value.int .i64 (IntKind.wrap .i64 (((i : Nat) : Int) + 1))) = (.int .i64 ↑(i + 1))]) [⟨[], none, none, none, some (.int .i64 ↑(i + 1))⟩, o_] [1, 2, 15, 16, 17] (fun _ _ => by kernel_rfl) ⟨wrapEq (by omega) (by omega) (by omega), trivial⟩ ?_
    refine TriL.nil (by kernel_rfl) ?_
    exact TriQ.turn ((i + 1)) (idx := [1, 2, 15, 16, 17]) (pk := [0]) (show (((i + 1)) ≤ ls.length) ∧ (∀ j, j < ((i + 1)) → ls.getD j default = ms.getD j default) from ⟨by omega, fun j hj => by rcases Nat.lt_succ_iff_lt_or_eq.1 hj with h | h; exact hall j h; subst h; exact h30⟩) (by show ls.length - ((i + 1)) < ls.length - i; omega) (fun _ => by kernel_rfl) rfl (by kernel_rfl)
  ·
   refine Tri.exit (TriQ.passExit (TriQ.passExit (TriQ.blockHit (TriQ.next (Tri.seq (Tri.region ?_))))))
   refine TriL.segK (k' := 1) (fr' := [(6, .bool true)]) (obl := []) [o_] [6] (fun _ _ => by kernel_rfl) trivial ?_
   refine TriL.nil (by kernel_rfl) (TriQ.next (Tri.ret ?_))
   exact TriQ.ret (v := .bool true) (l := []) (obl := []) [] [0] (fun _ => by kernel_rfl) trivial rfl (by kernel_rfl) (⟨by rw [decide_eq_true (ext_getD (x := default) (by omega) (fun j hj => hall j (by omega)))], rfl⟩)
set_option maxRecDepth 100000 in
set_option maxHeartbeats 4000000 in
theorem sp_copyLine {β : Bs} (l : LineM) (dA : Option Addr) (dC : Nat) (hD : BytesAt β dA l.data) (hl1 : l.data.length ≤ 1048576) :
    SpecB Try.prog β 54 #[.agg #[.string l.path, .int .i64 (l.kind), .int .i64 (l.mode), .int .i64 (l.uid), .int .i64 (l.gid), .int .i64 (l.sec), .int .i64 (l.nano), .slice dA (l.data.length) (dC), .string l.target, .string l.peer]] [] (fun β' v k => ∃ dB cd, v = .agg #[.string l.path, .int .i64 (l.kind), .int .i64 (l.mode), .int .i64 (l.uid), .int .i64 (l.gid), .int .i64 (l.sec), .int .i64 (l.nano), .slice dB (l.data.length) (cd), .string l.target, .string l.peer] ∧ k = [] ∧ BytesAt β' dB l.data) := by
 refine SpecB.enter Try.func54 rfl Try.ntmps54 (Nat.le_of_ble_eq_true rfl) (fun hle0 R => ?_)
 refine Tri.seq (Tri.region ?_)
 refine TriL.segN (k' := 1) (fr' := fun b5 => [(1, .pointer (some ⟨b5, 0, none⟩))]) (hps' := fun b5 => [.abs R, .blk b5 [.string l.path, .int .i64 (l.kind), .int .i64 (l.mode), .int .i64 (l.uid), .int .i64 (l.gid), .int .i64 (l.sec), .int .i64 (l.nano), .slice dA (l.data.length) (dC), .string l.target, .string l.peer] 51]) (obl := fun b5 => []) [o_] [1] [0, 1] (fun _ _ => by kernel_rfl) (fun b5 => trivial) (fun b5 => ?_)
 refine TriL.segN (k' := 2) (fr' := fun b6 => [(1, .pointer (some ⟨b5, 0, none⟩)), (2, .pointer (some ⟨b6, 0, none⟩))]) (hps' := fun b6 => [.abs R, .blk b5 [.string l.path, .int .i64 (l.kind), .int .i64 (l.mode), .int .i64 (l.uid), .int .i64 (l.gid), .int .i64 (l.sec), .int .i64 (l.nano), .slice dA (l.data.length) (dC), .string l.target, .string l.peer] 51, .blk b6 [.string ⟨#[]⟩, .int .i64 0, .int .i64 0, .int .i64 0, .int .i64 0, .int .i64 0, .int .i64 0, .slice none (0) (0), .string ⟨#[]⟩, .string ⟨#[]⟩] 51]) (obl := fun b6 => []) [o_] [1, 2] [0, 1, 2] (fun _ _ => by kernel_rfl) (fun b6 => trivial) (fun b6 => ?_)
 refine TriL.nil (by kernel_rfl) (TriQ.next (Tri.seq (Tri.region ?_)))
 refine TriL.segK (k' := 2) (fr' := [(1, .pointer (some ⟨b5, 0, none⟩)), (2, .pointer (some ⟨b6, 0, none⟩)), (4, .slice dA (l.data.length) (dC))]) (obl := [b5 = b5]) [o_, ⟨[.at 1], none, none, none, none⟩] [1, 2, 4] (fun _ _ => by kernel_rfl) ⟨rfl, trivial⟩ ?_
 refine TriL.callB (f := 48) (args := #[.slice dA (l.data.length) (dC)]) (d := (some 5)) (pre := []) (R := [.abs R, .blk b5 [.string l.path, .int .i64 (l.kind), .int .i64 (l.mode), .int .i64 (l.uid), .int .i64 (l.gid), .int .i64 (l.sec), .int .i64 (l.nano), .slice dA (l.data.length) (dC), .string l.target, .string l.peer] 51, .blk b6 [.string ⟨#[]⟩, .int .i64 0, .int .i64 0, .int .i64 0, .int .i64 0, .int .i64 0, .int .i64 0, .slice none (0) (0), .string ⟨#[]⟩, .string ⟨#[]⟩] 51]) (pk := [0, 1, 2]) (fun _ => by kernel_rfl) (sp_copyBytes dA dC l.data hD hl1) rfl (by kernel_rfl) ?_
 rintro β1 _ _ hle_β1 ⟨B7, c8, rfl, rfl, hD1⟩
 replace hD := hD.le hle_β1
 replace hle0 := hle0.trans hle_β1
 refine TriL.seg (k' := 5) (fr' := [(1, .pointer (some ⟨b5, 0, none⟩)), (2, .pointer (some ⟨b6, 0, none⟩))]) (hps' := [.abs R, .blk b5 [.string l.path, .int .i64 (l.kind), .int .i64 (l.mode), .int .i64 (l.uid), .int .i64 (l.gid), .int .i64 (l.sec), .int .i64 (l.nano), .slice B7 (l.data.length) (c8), .string l.target, .string l.peer] 51, .blk b6 [.string ⟨#[]⟩, .int .i64 0, .int .i64 0, .int .i64 0, .int .i64 0, .int .i64 0, .int .i64 0, .slice none (0) (0), .string ⟨#[]⟩, .string ⟨#[]⟩] 51]) (obl := [b5 = b5]) [o_, ⟨[.at 1], none, none, none, none⟩] [1, 2] [0, 1, 2] (fun _ _ => by kernel_rfl) ⟨rfl, trivial⟩ ?_
 refine TriL.nil (by kernel_rfl) (TriQ.next (Tri.seq (Tri.region ?_)))
 refine TriL.seg (k' := 2) (fr' := [(2, .pointer (some ⟨b6, 0, none⟩))]) (hps' := [.abs R, .blk b5 [.string l.path, .int .i64 (l.kind), .int .i64 (l.mode), .int .i64 (l.uid), .int .i64 (l.gid), .int .i64 (l.sec), .int .i64 (l.nano), .slice B7 (l.data.length) (c8), .string l.target, .string l.peer] 51, .blk b6 [.string l.path, .int .i64 (l.kind), .int .i64 (l.mode), .int .i64 (l.uid), .int .i64 (l.gid), .int .i64 (l.sec), .int .i64 (l.nano), .slice B7 (l.data.length) (c8), .string l.target, .string l.peer] 51]) (obl := [b6 = b6, b6 = b6, b6 = b6, b6 = b6, b6 = b6, b6 = b6, b6 = b6, b6 = b6, b6 = b6, b6 = b6, b5 = b5, b5 = b5, b5 = b5, b5 = b5, b5 = b5, b5 = b5, b5 = b5, b5 = b5, b5 = b5, b5 = b5]) [⟨[.at 1, .at 1, .at 1, .at 1, .at 1, .at 1, .at 1, .at 1, .at 1, .at 1], none, none, none, none⟩, ⟨[.at 2, .at 2, .at 2, .at 2, .at 2, .at 2, .at 2, .at 2, .at 2, .at 2], none, none, none, none⟩] [2] [0, 1, 2] (fun _ _ => by kernel_rfl) ⟨rfl, rfl, rfl, rfl, rfl, rfl, rfl, rfl, rfl, rfl, rfl, rfl, rfl, rfl, rfl, rfl, rfl, rfl, rfl, rfl, trivial⟩ ?_
 refine TriL.nil (by kernel_rfl) (TriQ.next (Tri.ret ?_))
 exact TriQ.retB (v := .agg #[.string l.path, .int .i64 (l.kind), .int .i64 (l.mode), .int .i64 (l.uid), .int .i64 (l.gid), .int .i64 (l.sec), .int .i64 (l.nano), .slice B7 (l.data.length) (c8), .string l.target, .string l.peer]) (l := []) (obl := [b6 = b6, b6 = b6, b6 = b6, b6 = b6, b6 = b6, b6 = b6, b6 = b6, b6 = b6, b6 = b6, b6 = b6]) [.at 2, .at 2, .at 2, .at 2, .at 2, .at 2, .at 2, .at 2, .at 2, .at 2] [0] hle0 (fun _ => by kernel_rfl) ⟨rfl, rfl, rfl, rfl, rfl, rfl, rfl, rfl, rfl, rfl, trivial⟩ rfl (by kernel_rfl) (⟨B7, c8, rfl, rfl, hD1⟩)
set_option maxRecDepth 100000 in
set_option maxHeartbeats 4000000 in
theorem sp_copyLines {β : Bs} (A : Option Addr) (c : Nat) (ls : List LineM) (M : LayL) (hG : LinesAt β A ls M) (hl : ls.length ≤ 16777216) (hd : ∀ i, i < ls.length → (ln ls i).data.length ≤ 1048576) :
    SpecB Try.prog β 31 #[.slice A ls.length c] [] (fun β' v l => ∃ B cp K, v = .slice B ls.length cp ∧ l = [] ∧ LinesAt β' B ls K) := by
 refine SpecB.enter Try.func31 rfl Try.ntmps31 (Nat.le_of_ble_eq_true rfl) (fun hle0 R => ?_)
 refine Tri.seq (Tri.region ?_)
 refine TriL.segK (k' := 1) (fr' := [(0, .slice A (ls.length) (c))]) (obl := []) [o_] [0] (fun _ _ => by kernel_rfl) trivial ?_
 refine TriL.nil (by kernel_rfl) (TriQ.next (Tri.seq (Tri.region ?_)))
 refine TriL.segN (k' := 2) (fr' := fun b9 => [(0, .slice A (ls.length) (c)), (3, .slice (some ⟨b9, 0, none⟩) (0) (0))]) (hps' := fun b9 => [.abs R, .blk b9 [] 51]) (obl := fun b9 => []) [o_, o_] [0, 3] [0, 1] (fun _ _ => by kernel_rfl) (fun b9 => trivial) (fun b9 => ?_)
 refine TriL.nil (by kernel_rfl) (TriQ.next (Tri.seq (Tri.seq (Tri.region ?_))))
 refine TriL.mem (fun w hS => hS.toRow (i := 1) (b := b9) (cs := []) (e := 51) 10 0 (by kernel_rfl) rfl (by decide)) ?_
 refine TriL.segK (k' := 1) (fr' := [(0, .slice A (ls.length) (c)), (3, .slice (some ⟨b9, 0, none⟩) (0) (0)), (4, .int .i64 0)]) (obl := []) [o_] [0, 3, 4] (fun _ _ => by kernel_rfl) trivial ?_
 refine TriL.nil (by kernel_rfl) (TriQ.next (Tri.block ?_))
 refine Tri.loopB (ι := Nat × Bs × (Option Addr) × Nat × LayL) (fun ((k, b, Ao, cp, K) : Nat × Bs × (Option Addr) × Nat × LayL) => b) (fun ((k, b, Ao, cp, K) : Nat × Bs × (Option Addr) × Nat × LayL) => (k ≤ ls.length) ∧ (β.le b) ∧ (LinesAt b A ls M) ∧ (LinesIn b (ls.take k) K)) (fun ((k, b, Ao, cp, K) : Nat × Bs × (Option Addr) × Nat × LayL) => ls.length - k) (fun ((k, b, Ao, cp, K) : Nat × Bs × (Option Addr) × Nat × LayL) => [(0, .slice A (ls.length) (c)), (3, .slice Ao (k) (cp)), (4, .int .i64 ↑k)]) (fun ((k, b, Ao, cp, K) : Nat × Bs × (Option Addr) × Nat × LayL) => [.abs (RowA 51 10 Ao k cp (linesV K (ls.take k))), .abs R]) (0, β, some ⟨b9, 0, none⟩, 0, ⟨fun _ => none, fun _ => 0⟩) rfl (idx := [0, 3, 4]) (pk := [1, 0]) (show (0 ≤ ls.length) ∧ (β.le β) ∧ (LinesAt β A ls M) ∧ (LinesIn β (ls.take 0) (⟨fun _ => none, fun _ => 0⟩)) from ⟨Nat.zero_le _, hle0, hG, fun i hi => absurd hi (Nat.not_lt_zero _)⟩) (fun _ => by kernel_rfl) rfl (by kernel_rfl) ?_
 rintro ⟨k, b, Ao, cp, K⟩ ⟨hk, hle0, hG, hI⟩
 show Tri _ b _ _ [(0, .slice A (ls.length) (c)), (3, .slice Ao (k) (cp)), (4, .int .i64 ↑k)] [.abs (RowA 51 10 Ao k cp (linesV K (ls.take k))), .abs R] _
 refine Tri.seq (Tri.seq (Tri.region ?_))
 refine TriL.segK (k' := 4) (fr' := [(0, .slice A (ls.length) (c)), (3, .slice Ao (k) (cp)), (4, .int .i64 ↑k), (9, .bool (decide ((((k : Nat) : Int) : Int) < (((ls.length : Nat) : Int) : Int))))]) (obl := []) [o_, o_, o_, o_] [0, 3, 4, 9] (fun _ _ => by kernel_rfl) trivial ?_
 refine TriL.nil (by kernel_rfl) (TriQ.next ?_)
 refine Tri.condP (p := (((k : Nat) : Int) : Int) < (((ls.length : Nat) : Int) : Int)) (fun _ => by kernel_rfl) (fun h9 => ?_) (fun h9 => ?_)
 ·
  refine Tri.skip (TriQ.next (Tri.seq (Tri.block (Tri.region ?_))))
  refine TriL.segK (k' := 5) (fr' := [(0, .slice A (ls.length) (c)), (4, .int .i64 ↑k), (12, .slice Ao (k) (cp)), (16, .agg #[.string (ln ls k).path, .int .i64 ((ln ls k).kind), .int .i64 ((ln ls k).mode), .int .i64 ((ln ls k).uid), .int .i64 ((ln ls k).gid), .int .i64 ((ln ls k).sec), .int .i64 ((ln ls k).nano), .slice (M.dA k) ((ln ls k).data.length) ((M.dC k)), .string (ln ls k).target, .string (ln ls k).peer])]) (obl := [(Rd b ⟨(blkOf A), offOf A + k * 10 + 9, none⟩ (.string (ln ls k).peer)), (Rd b ⟨(blkOf A), offOf A + k * 10 + 8, none⟩ (.string (ln ls k).target)), (Rd b ⟨(blkOf A), offOf A + k * 10 + 7, none⟩ (.slice (M.dA k) ((ln ls k).data.length) ((M.dC k)))), (Rd b ⟨(blkOf A), offOf A + k * 10 + 6, none⟩ (.int .i64 ((ln ls k).nano))), (Rd b ⟨(blkOf A), offOf A + k * 10 + 5, none⟩ (.int .i64 ((ln ls k).sec))), (Rd b ⟨(blkOf A), offOf A + k * 10 + 4, none⟩ (.int .i64 ((ln ls k).gid))), (Rd b ⟨(blkOf A), offOf A + k * 10 + 3, none⟩ (.int .i64 ((ln ls k).uid))), (Rd b ⟨(blkOf A), offOf A + k * 10 + 2, none⟩ (.int .i64 ((ln ls k).mode))), (Rd b ⟨(blkOf A), offOf A + k * 10 + 1, none⟩ (.int .i64 ((ln ls k).kind))), (Rd b ⟨(blkOf A), offOf A + k * 10, none⟩ (.string (ln ls k).path)), ((k : Nat) : Int) = ((k : Nat) : Int), k < ls.length, (⟨(blkOf A), offOf A, none⟩ : Addr).spot = none, (A : Option Addr) = some ⟨(blkOf A), offOf A, none⟩]) [o_, o_, o_, ⟨[], some k, none, some ⟨(blkOf A), offOf A, none⟩, none⟩, ⟨[.old (.string (ln ls k).path), .old (.int .i64 ((ln ls k).kind)), .old (.int .i64 ((ln ls k).mode)), .old (.int .i64 ((ln ls k).uid)), .old (.int .i64 ((ln ls k).gid)), .old (.int .i64 ((ln ls k).sec)), .old (.int .i64 ((ln ls k).nano)), .old (.slice (M.dA k) ((ln ls k).data.length) ((M.dC k))), .old (.string (ln ls k).target), .old (.string (ln ls k).peer)], none, none, none, none⟩] [0, 4, 12, 16] (fun _ _ => by kernel_rfl) ⟨LinesAt.rd hG (i := k) (by omega) (j := 9) rfl, LinesAt.rd hG (i := k) (by omega) (j := 8) rfl, LinesAt.rd hG (i := k) (by omega) (j := 7) rfl, LinesAt.rd hG (i := k) (by omega) (j := 6) rfl, LinesAt.rd hG (i := k) (by omega) (j := 5) rfl, LinesAt.rd hG (i := k) (by omega) (j := 4) rfl, LinesAt.rd hG (i := k) (by omega) (j := 3) rfl, LinesAt.rd hG (i := k) (by omega) (j := 2) rfl, LinesAt.rd hG (i := k) (by omega) (j := 1) rfl, LinesAt.rd hG (i := k) (by omega) (j := 0) rfl, rfl, by omega, rfl, LinesAt.hd hG (i := k) (by omega), trivial⟩ ?_
  refine TriL.callB (f := 54) (args := #[.agg #[.string (ln ls k).path, .int .i64 ((ln ls k).kind), .int .i64 ((ln ls k).mode), .int .i64 ((ln ls k).uid), .int .i64 ((ln ls k).gid), .int .i64 ((ln ls k).sec), .int .i64 ((ln ls k).nano), .slice (M.dA k) ((ln ls k).data.length) ((M.dC k)), .string (ln ls k).target, .string (ln ls k).peer]]) (d := (some 17)) (pre := []) (R := [.abs (RowA 51 10 Ao k cp (linesV K (ls.take k))), .abs R]) (pk := [0, 1]) (fun _ => by kernel_rfl) (sp_copyLine (ln ls k) (M.dA k) (M.dC k) (hG.data k (by omega)) (hd k (by omega))) rfl (by kernel_rfl) ?_
  rintro β12 _ _ hle_β12 ⟨B10, c11, rfl, rfl, hdB⟩
  replace hG := hG.le hle_β12
  replace hI := hI.le hle_β12
  replace hle0 := hle0.trans hle_β12
  refine TriL.segN (k' := 7) (fr' := fun b13 => [(0, .slice A (ls.length) (c)), (4, .int .i64 ↑k), (12, .slice Ao (k) (cp)), (18, .slice (some ⟨b13, 0, none⟩) (1) (1))]) (hps' := fun b13 => [.abs (RowA 51 10 Ao k cp (linesV K (ls.take k))), .abs R, .blk b13 [.string (ln ls k).path, .int .i64 ((ln ls k).kind), .int .i64 ((ln ls k).mode), .int .i64 ((ln ls k).uid), .int .i64 ((ln ls k).gid), .int .i64 ((ln ls k).sec), .int .i64 ((ln ls k).nano), .slice B10 ((ln ls k).data.length) (c11), .string (ln ls k).target, .string (ln ls k).peer] 51]) (obl := fun b13 => []) [o_] [0, 4, 12, 18] [0, 1, 2] (fun _ _ => by kernel_rfl) (fun b13 => trivial) (fun b13 => ?_)
  refine TriL.append 0 (d := (some 19)) (t := 46) (e := 51) (z := .agg #[.string ⟨#[]⟩, .int .i64 0, .int .i64 0, .int .i64 0, .int .i64 0, .int .i64 0, .int .i64 0, .slice none (0) (0), .string ⟨#[]⟩, .string ⟨#[]⟩]) (size := 10) (bytes := 120) (n := k) (cap := cp) (A := Ao) (xs := (linesV K (ls.take k))) (s := (.tmp 12)) (x := (.tmp 18)) (ats := #[46, 46]) (A' := some ⟨b13, 0, none⟩) (m := 1) (c' := 1) (news := [.string (ln ls k).path, .int .i64 ((ln ls k).kind), .int .i64 ((ln ls k).mode), .int .i64 ((ln ls k).uid), .int .i64 ((ln ls k).gid), .int .i64 ((ln ls k).sec), .int .i64 ((ln ls k).nano), .slice B10 ((ln ls k).data.length) (c11), .string (ln ls k).target, .string (ln ls k).peer]) (fun _ => by kernel_rfl) rfl (by kernel_rfl) (fun _ => by kernel_rfl) (fun _ => by kernel_rfl) Try.underlying46 (by kernel_rfl) rfl (by decide) (rfl) (by simp [Value.oneCell']) (src_blk (j := 2) rfl) (by unfold maxLen; omega) (by omega) (fun A14 c15 => ?_)
  refine TriL.partEq 0 (p := .abs (RowA 51 10 A14 (k + 1) c15 ((linesV K (ls.take k)) ++ [.string (ln ls k).path, .int .i64 ((ln ls k).kind), .int .i64 ((ln ls k).mode), .int .i64 ((ln ls k).uid), .int .i64 ((ln ls k).gid), .int .i64 ((ln ls k).sec), .int .i64 ((ln ls k).nano), .slice B10 ((ln ls k).data.length) (c11), .string (ln ls k).target, .string (ln ls k).peer]))) (p' := .abs (RowA 51 10 A14 (k + 1) c15 (linesV (K.put k B10 c11) (ls.take (k + 1))))) (by kernel_rfl) (congrArg (fun x => HP.abs (RowA 51 10 _ _ _ x)) (linesV_put (by omega))) ?_
  refine TriL.segK (k' := 9) (fr' := [(0, .slice A (ls.length) (c)), (3, .slice A14 (k + 1) (c15)), (4, .int .i64 ↑k)]) (obl := []) [o_] [0, 3, 4] (fun _ _ => by kernel_rfl) trivial ?_
  refine TriL.nil (by kernel_rfl) (TriQ.blockNormal (TriQ.next (Tri.region ?_)))
  refine TriL.segK (k' := 3) (fr' := [(0, .slice A (ls.length) (c)), (3, .slice A14 (k + 1) (c15)), (4, .int .i64 ↑(k + 1))]) (obl := [(Value.int .i64 (IntKind.wrap .i64 (((k : Nat) : Int) + 1))) = (.int .i64 ↑(k + 1))]) [o_, ⟨[], none, none, none, some (.int .i64 ↑(k + 1))⟩, o_] [0, 3, 4] (fun _ _ => by kernel_rfl) ⟨wrapEq (by omega) (by omega) (by omega), trivial⟩ ?_
  refine TriL.nil (by kernel_rfl) ?_
  exact TriQ.turnB ((k + 1), β12, A14, c15, (K.put k B10 c11)) (hb := rfl) (idx := [0, 3, 4]) (pk := [0, 1]) (show (((k + 1)) ≤ ls.length) ∧ (β.le β12) ∧ (LinesAt β12 A ls M) ∧ (LinesIn β12 (ls.take ((k + 1))) ((K.put k B10 c11))) from ⟨by omega, hle0, hG, linesIn_put (by omega) hI hdB⟩) (by show ls.length - ((k + 1)) < ls.length - k; omega) (fun _ => by kernel_rfl) rfl (by kernel_rfl)
 ·
  refine Tri.exit (TriQ.passExit (TriQ.passExit (TriQ.blockHit (TriQ.next (Tri.seq (Tri.region ?_))))))
  refine TriL.rebase (Φ := fun β' => RowB β' Ao (linesV K (ls.take k))) 0 [1] (hps' := [.abs R]) rfl rfl (by kernel_rfl) (fun F w h β' h1 h2 => RowB.of_row h h1 h2) (fun βz hle_βz hR => ?_)
  replace hG := hG.le hle_βz
  replace hI := hI.le hle_βz
  replace hle0 := hle0.trans hle_βz
  have hk2 : k = ls.length := by omega
  subst hk2
  rw [List.take_of_length_le (Nat.le_refl _)] at hR hI
  refine TriL.segK (k' := 2) (fr' := [(2, .slice Ao (ls.length) (cp))]) (obl := []) [o_, o_] [2] (fun _ _ => by kernel_rfl) trivial ?_
  refine TriL.nil (by kernel_rfl) (TriQ.next (Tri.ret ?_))
  exact TriQ.retB (v := .slice Ao (ls.length) (cp)) (l := []) (obl := []) [] [0] hle0 (fun _ => by kernel_rfl) trivial rfl (by kernel_rfl) (⟨Ao, cp, K, rfl, rfl, ⟨hR, hI⟩⟩)
end Go.Proofs.Ytjpdcppdoonmdaa
end
/- part Fam. PROVED HERE: a family of parts that lie apart from one another, as one part: one is taken out, laid back, added. CONDITIONS: none. No statement of the seat is proved here. -/
section
namespace Go.Proofs.Ytjpdcppdoonmdaa
open Go.RowKit
section sat
variable {β : Bs} {l : List HP} {w : World} {p p1 p2 : HP} {i : Nat}
theorem Sat.part2 (h : Sat β l w) (hp : l[i]? = some p) (hs : ∀ F, p.h F w → ∃ F1 F2, p1.h F1 w ∧ p2.h F2 w ∧ Apart F1 F2 ∧ ∀ k, F k ↔ F1 k ∨ F2 k) : Sat β (l.set i p1 ++ [p2]) w := by
  obtain ⟨ho, φ, h1, h2, h3⟩ := h
  obtain ⟨F1, F2, g1, g2, g3, g4⟩ := hs _ (h1 i p hp)
  have hi := len_of_some hp
  have hlen : (l.set i p1 ++ [p2]).length = l.length + 1 := by simp
  refine ⟨ho, fun j => if j = l.length then F2 else if j = i then F1 else φ j, fun j q hq => ?_, fun j hj k hk hO => ?_, fun a b ha hb hne k hk hk' => ?_⟩
  · by_cases e : j = l.length
    · subst e
      rw [List.getElem?_append_right (by simp)] at hq
      simp at hq
      subst hq
      simpa using g2
    · rw [List.getElem?_append_left (by have := len_of_some hq; rw [hlen] at this; simp; omega)] at hq
      simp only [e, if_false]
      by_cases e2 : j = i
      · subst e2
        rw [List.getElem?_set_self hi] at hq
        cases hq
        simpa using g1
      · rw [List.getElem?_set_ne (fun e' => e2 e'.symm)] at hq
        simp only [e2, if_false]
        exact h1 j q hq
  · rw [hlen] at hj
    have hF : ∀ k, F1 k ∨ F2 k → β.O k → False := fun k hk hO => h2 i hi k ((g4 k).2 hk) hO
    by_cases e : j = l.length
    · simp only [e, if_true] at hk; exact hF k (.inr hk) hO
    · simp only [e, if_false] at hk
      by_cases e2 : j = i
      · simp only [e2, if_true] at hk; exact hF k (.inl hk) hO
      · simp only [e2, if_false] at hk; exact h2 j (by omega) k hk hO
  · rw [hlen] at ha hb
    have key : ∀ j, j < l.length → j ≠ i → ∀ k, F1 k ∨ F2 k → φ j k → False := fun j hj hne k hk hk' => h3 j i hj hi hne k hk' ((g4 k).2 hk)
    by_cases ea : a = l.length
    · simp only [ea, if_true] at hk
      have eb : ¬ b = l.length := fun e => hne (ea.trans e.symm)
      simp only [eb, if_false] at hk'
      by_cases eb2 : b = i
      · simp only [eb2, if_true] at hk'; exact g3 k hk' hk
      · simp only [eb2, if_false] at hk'; exact key b (by omega) eb2 k (.inr hk) hk'
    · simp only [ea, if_false] at hk
      by_cases ea2 : a = i
      · simp only [ea2, if_true] at hk
        by_cases eb : b = l.length
        · simp only [eb, if_true] at hk'; exact g3 k hk hk'
        · simp only [eb, if_false] at hk'
          have eb2 : ¬ b = i := fun e => hne (ea2.trans e.symm)
          simp only [eb2, if_false] at hk'
          exact key b (by omega) eb2 k (.inl hk) hk'
      · simp only [ea2, if_false] at hk
        by_cases eb : b = l.length
        · simp only [eb, if_true] at hk'; exact key a (by omega) ea2 k (.inr hk') hk
        · simp only [eb, if_false] at hk'
          by_cases eb2 : b = i
          · simp only [eb2, if_true] at hk'; exact key a (by omega) ea2 k (.inl hk') hk
          · simp only [eb2, if_false] at hk'; exact h3 a b (by omega) (by omega) hne k hk hk'
/-- two parts become one -/
theorem Sat.join2 {j : Nat} {idx : List Nat} {l' : List HP} (h : Sat β l w) (hp : l[i]? = some p1) (hq : l[j]? = some p2) (hn : nodupB (i :: j :: idx) = true) (hl : pickL l idx = some l') (hs : ∀ F1 F2, p1.h F1 w → p2.h F2 w → Apart F1 F2 → ∃ F, p.h F w ∧ ∀ k, F k → F1 k ∨ F2 k) : Sat β (p :: l') w := by
  have h' := h.pick (idx := i :: j :: idx) (l' := p1 :: p2 :: l') hn (by simp only [pickL, hp, hq, hl])
  obtain ⟨ho, φ, h1, h2, h3⟩ := h'
  obtain ⟨F, hF, hk⟩ := hs _ _ (h1 0 p1 rfl) (h1 1 p2 rfl) (h3 0 1 (by simp) (by simp) (by decide))
  have hlen : (p1 :: p2 :: l').length = l'.length + 2 := rfl
  rw [hlen] at h2 h3
  refine ⟨ho, fun j => if j = 0 then F else φ (j + 1), fun j q hq => ?_, fun j hj k hkk hO => ?_, fun a b ha hb hne k hk1 hk2 => ?_⟩
  · cases j with
    | zero => simp at hq; subst hq; simpa using hF
    | succ j => simpa using h1 (j + 2) q (by simpa using hq)
  · simp only [List.length_cons] at hj
    cases j with
    | zero =>
      simp only [if_true] at hkk
      rcases hk k hkk with e | e
      · exact h2 0 (by omega) k e hO
      · exact h2 1 (by omega) k e hO
    | succ j => exact h2 (j + 2) (by omega) k (by simpa using hkk) hO
  · simp only [List.length_cons] at ha hb
    have key : ∀ j, j < l'.length → F k → φ (j + 2) k → False := fun j hj e1 e2 => by
      rcases hk k e1 with e | e
      · exact h3 0 (j + 2) (by omega) (by omega) (by omega) k e e2
      · exact h3 1 (j + 2) (by omega) (by omega) (by omega) k e e2
    cases a with
    | zero =>
      cases b with
      | zero => exact hne rfl
      | succ b => exact key b (by omega) (by simpa using hk1) (by simpa using hk2)
    | succ a =>
      cases b with
      | zero => exact key a (by omega) (by simpa using hk2) (by simpa using hk1)
      | succ b => exact h3 (a + 2) (b + 2) (by omega) (by omega) (by omega) k (by simpa using hk1) (by simpa using hk2)
end sat
/-- n parts, apart from one another -/
def FamA (R : Nat → Asn) (n : Nat) : Asn where
  h F w := ∃ φ : Nat → Fp, (∀ i, i < n → (R i).h (φ i) w) ∧ (∀ i j, i < n → j < n → i ≠ j → Apart (φ i) (φ j)) ∧ ∀ k, F k ↔ ∃ i, i < n ∧ φ i k
  lt := fun ⟨_, h1, _, h3⟩ k hk => let ⟨i, hi, hk⟩ := (h3 k).1 hk; (R i).lt (h1 i hi) k hk
  st := fun ⟨φ, h1, h2, h3⟩ _ _ hk hn => ⟨φ, fun i hi => (R i).st (h1 i hi) hk (fun k hk => hn k ((h3 k).2 ⟨i, hi, hk⟩)), h2, h3⟩
def Asn.none : Asn where
  h F _ := ∀ k, ¬ F k
  lt := fun h k hk => absurd hk (h k)
  st := fun h _ _ _ _ => h
def updR (R : Nat → Asn) (k : Nat) (a : Asn) : Nat → Asn := fun i => if i = k then a else R i
section fam
variable {β : Bs} {l l' : List HP} {w : World} {i n k : Nat} {R R' : Nat → Asn} {a : Asn}
theorem FamA.nil (R : Nat → Asn) (w : World) : (HP.abs (FamA R 0)).h (fun _ => False) w := ⟨fun _ _ => False, fun i hi => absurd hi (Nat.not_lt_zero i), fun i _ hi => absurd hi (Nat.not_lt_zero i), fun _ => ⟨fun h => h.elim, fun ⟨i, hi, _⟩ => absurd hi (Nat.not_lt_zero i)⟩⟩
theorem Sat.famNil (h : Sat β l w) (R : Nat → Asn) : Sat β (l ++ [.abs (FamA R 0)]) w := Sat.new h (FamA.nil R w) (Keeps.refl _ _) (fun _ h => h.elim)
/-- one is taken out -/
theorem Sat.famTake (h : Sat β l w) (hp : l[i]? = some (.abs (FamA R n))) (hk : k < n) : Sat β (l.set i (.abs (FamA (updR R k Asn.none) n)) ++ [.abs (R k)]) w := by
  refine h.part2 hp ?_
  rintro F ⟨φ, h1, h2, h3⟩
  refine ⟨fun x => ∃ i, i < n ∧ i ≠ k ∧ φ i x, φ k, ⟨fun i => if i = k then fun _ => False else φ i, fun i hi => ?_, fun i j hi hj hne x hx hy => ?_, fun x => ⟨fun ⟨i, hi, hne, hx⟩ => ⟨i, hi, by simpa [hne] using hx⟩, fun ⟨i, hi, hx⟩ => ?_⟩⟩, h1 k hk, fun x ⟨i, hi, hne, hx⟩ hy => h2 i k hi hk hne x hx hy, fun x => ⟨fun hx => ?_, fun hx => ?_⟩⟩
  · unfold updR
    by_cases e : i = k
    · simp only [e, if_true]; exact fun _ h => h
    · simp only [e, if_false]; exact h1 i hi
  · by_cases e1 : i = k
    · simp [e1] at hx
    · by_cases e2 : j = k
      · simp [e2] at hy
      · exact h2 i j hi hj hne x (by simpa [e1] using hx) (by simpa [e2] using hy)
  · by_cases e1 : i = k
    · simp [e1] at hx
    · exact ⟨i, hi, e1, by simpa [e1] using hx⟩
  · obtain ⟨i, hi, hx⟩ := (h3 x).1 hx
    by_cases e : i = k
    · exact .inr (e ▸ hx)
    · exact .inl ⟨i, hi, e, hx⟩
  · rcases hx with ⟨i, hi, _, hx⟩ | hx
    · exact (h3 x).2 ⟨i, hi, hx⟩
    · exact (h3 x).2 ⟨k, hk, hx⟩
/-- one is laid back into its empty place -/
theorem Sat.famPut {j : Nat} {idx : List Nat} (h : Sat β l w) (hp : l[i]? = some (.abs (FamA R n))) (hq : l[j]? = some (.abs a)) (hn : nodupB (i :: j :: idx) = true) (hl : pickL l idx = some l') (hk : k < n) (hR : ∀ x, x < n → x ≠ k → R' x = R x) (ha : R' k = a) : Sat β (.abs (FamA R' n) :: l') w := by
  refine h.join2 hp hq hn hl ?_
  rintro F1 F2 ⟨φ, h1, h2, h3⟩ hF hap
  refine ⟨fun x => (∃ i, i < n ∧ i ≠ k ∧ φ i x) ∨ F2 x, ⟨fun i => if i = k then F2 else φ i, fun i hi => ?_, fun i j hi hj hne x hx hy => ?_, fun x => ⟨fun hx => ?_, fun ⟨i, hi, hx⟩ => ?_⟩⟩, fun x hx => hx.imp (fun ⟨i, hi, _, hx⟩ => (h3 x).2 ⟨i, hi, hx⟩) id⟩
  · by_cases e : i = k
    · subst e; simp only [if_true]; rw [ha]; exact hF
    · simp only [e, if_false]; rw [hR i hi e]; exact h1 i hi
  · by_cases e1 : i = k
    · by_cases e2 : j = k
      · exact hne (e1.trans e2.symm)
      · simp only [e1, if_true] at hx
        simp only [e2, if_false] at hy
        exact hap x ((h3 x).2 ⟨j, hj, hy⟩) hx
    · simp only [e1, if_false] at hx
      by_cases e2 : j = k
      · simp only [e2, if_true] at hy
        exact hap x ((h3 x).2 ⟨i, hi, hx⟩) hy
      · simp only [e2, if_false] at hy
        exact h2 i j hi hj hne x hx hy
  · rcases hx with ⟨i, hi, hne, hx⟩ | hx
    · exact ⟨i, hi, by simpa [hne] using hx⟩
    · exact ⟨k, hk, by simpa using hx⟩
  · by_cases e : i = k
    · exact .inr (by simpa [e] using hx)
    · exact .inl ⟨i, hi, e, by simpa [e] using hx⟩
/-- one more -/
theorem Sat.famPush {j : Nat} {idx : List Nat} (h : Sat β l w) (hp : l[i]? = some (.abs (FamA R n))) (hq : l[j]? = some (.abs a)) (hn : nodupB (i :: j :: idx) = true) (hl : pickL l idx = some l') (hR : ∀ x, x < n → R' x = R x) (ha : R' n = a) : Sat β (.abs (FamA R' (n + 1)) :: l') w := by
  refine h.join2 hp hq hn hl ?_
  rintro F1 F2 ⟨φ, h1, h2, h3⟩ hF hap
  refine ⟨fun x => F1 x ∨ F2 x, ⟨fun i => if i = n then F2 else φ i, fun i hi => ?_, fun i j hi hj hne x hx hy => ?_, fun x => ⟨fun hx => ?_, fun ⟨i, hi, hx⟩ => ?_⟩⟩, fun x hx => hx⟩
  · by_cases e : i = n
    · subst e; simp only [if_true]; rw [ha]; exact hF
    · simp only [e, if_false]; rw [hR i (by omega)]; exact h1 i (by omega)
  · by_cases e1 : i = n
    · by_cases e2 : j = n
      · exact hne (e1.trans e2.symm)
      · simp only [e1, if_true] at hx
        simp only [e2, if_false] at hy
        exact hap x ((h3 x).2 ⟨j, by omega, hy⟩) hx
    · simp only [e1, if_false] at hx
      by_cases e2 : j = n
      · simp only [e2, if_true] at hy
        exact hap x ((h3 x).2 ⟨i, by omega, hx⟩) hy
      · simp only [e2, if_false] at hy
        exact h2 i j (by omega) (by omega) hne x hx hy
  · rcases hx with hx | hx
    · obtain ⟨i, hi, hx⟩ := (h3 x).1 hx
      exact ⟨i, by omega, by simpa [Nat.ne_of_lt hi] using hx⟩
    · exact ⟨n, Nat.lt_succ_self n, by simpa using hx⟩
  · by_cases e : i = n
    · exact .inr (by simpa [e] using hx)
    · exact .inl ((h3 x).2 ⟨i, by omega, by simpa [e] using hx⟩)
/-- the family is laid to the base -/
theorem FamA.base {F : Fp} {β' : Bs} (h : (HP.abs (FamA R n)).h F w) (h1 : ∀ k, F k → β'.O k) (_ : β'.w0 = w) {Φ : Nat → Bs → Prop} (hΦ : ∀ i, i < n → ∀ F, (R i).h F w → (∀ k, F k → β'.O k) → Φ i β') : ∀ i, i < n → Φ i β' := by
  obtain ⟨φ, g1, _, g3⟩ := h
  exact fun i hi => hΦ i hi (φ i) (g1 i hi) (fun k hk => h1 k ((g3 k).2 ⟨i, hi, hk⟩))
end fam
section mixB
variable {P : Program} {β : Bs} {N : Nat} {ops : Array Oper} {S : List HP} {l : List Nat} {fr : Fr} {hps : List HP} {Q : Post} {i : Nat}
theorem wpMix_mono {S S' : World → Prop} (hs : ∀ w, S w → S' w) : ∀ (l : List Nat) (a : Act) (w : World), wpMix P ops Q S 0 l a w → wpMix P ops Q S' 0 l a w
  | [], _, _, h => h
  | i :: l, a, w, h => by
    unfold wpMix at h ⊢
    exact wpOp_mono (fun a' w' h' => ⟨h'.1.imp id (hs w'), wpMix_mono hs l a' w' h'.2⟩) h
/-- an operation that changes memory and lets the base grow -/
def MidB (β : Bs) (N : Nat) {ι : Type} (B : ι → Bs) (Φ : ι → Prop) (fr : ι → Fr) (hp : ι → List HP) : Post := fun _ a w => ∃ i junk, β.le (B i) ∧ Φ i ∧ a = mkA N (fr i) junk ∧ Sat (B i) (hp i) w
theorem TriM.cutB {ι : Type} {B : ι → Bs} {Φ : ι → Prop} {fr' : ι → Fr} {hp' : ι → List HP} {o : Oper} (pk : List Nat) (hop : ops[i]? = some o) (hg : o.guard = none) (h : TriL P β N #[o] 0 fr hps (NP (MidB β N B Φ fr' hp'))) (hn : nodupB pk = true) (hp : ∀ j, pickL (hp' j) pk = some S)
    (K : ∀ j, β.le (B j) → Φ j → TriM P (B j) N ops S 0 l (fr' j) (hp' j) Q) : TriM P β N ops S 0 (i :: l) fr hps Q := by
  intro junk w hS
  unfold wpMix
  refine wpOp_of_list hop hg ?_
  have h1 := h junk w hS
  have h2 : wpList P #[o] (NP (MidB β N B Φ fr' hp')) [o] (mkA N fr junk) w := h1
  refine wpList_np (fun a w ⟨j, junk', hle, hΦ, ha, hS'⟩ => ?_) h2
  subst ha
  exact ⟨.inr ((hS'.pick hn (hp j)).debase hle), wpMix_mono (fun w h => h.debase hle) _ _ _ (K j hle hΦ junk' w hS')⟩
theorem TriQ.midB {β0 : Bs} {ι : Type} {B : ι → Bs} {Φ : ι → Prop} {fr' : ι → Fr} {hp' : ι → List HP} (j : ι) {idx pk : List Nat} (hb : B j = β) (hle : β0.le β) (hΦ : Φ j) (hf : ∀ junk, pickF fr junk idx = fr' j) (hn : nodupB pk = true) (hp : pickL hps pk = some (hp' j)) : TriQ β N (NP (MidB β0 N B Φ fr' hp')) .normal fr hps := by
  subst hb
  exact fun junk _ hS => ⟨j, lk fr junk, hle, hΦ, by rw [mkA_pick N fr junk idx, hf junk], hS.pick hn hp⟩
end mixB
end Go.Proofs.Ytjpdcppdoonmdaa
end
/- part GPl. PROVED HERE: what Plant builds, as plain data: the program's steps and the reference's. CONDITIONS: none. -/
section
namespace Go.Proofs.Ytjpdcppdoonmdaa
open Go.RowKit Go.Maps
/-- what is built: nodes, and the number that each line has come to -/
structure PS where
  ns : List NodeM
  ids : List Nat
def PS0 : PS := ⟨[], []⟩
def lineNode (l : LineM) (k : Nat) : NodeM := ⟨((k + 1 : Nat) : Int), l.kind, l.mode, l.uid, l.gid, l.sec, l.nano, l.data, l.target, []⟩
def addEnt (ns : List NodeM) (k : Nat) (e : EntM) : List NodeM := ns.set k { nd ns k with ents := (nd ns k).ents ++ [e] }
/-- the number of the first line, of the first i, that has the path; 0: none has it -/
def idOf (ls : List LineM) (ids : List Nat) (p : ByteArray) : Nat → Nat
  | 0 => 0
  | i + 1 => if idOf ls ids p i = 0 ∧ (ln ls i).path = p then ids.getD i 0 else idOf ls ids p i
/-- the place of the last line, of the first i but the very first, that has the path; -1: none has it -/
def lastOf (ls : List LineM) (ids : List Nat) (p : ByteArray) : Nat → Int
  | 0 => -1
  | i + 1 => if 1 ≤ i ∧ (ln ls i).path = p then ((ids.getD i 0 : Nat) : Int) - 1 else lastOf ls ids p i
def newId (ls : List LineM) (s : PS) (i : Nat) : Nat := if (ln ls i).peer = ⟨#[]⟩ then s.ns.length + 1 else idOf ls s.ids (ln ls i).peer i
def newNs (ls : List LineM) (s : PS) (i : Nat) : List NodeM := if (ln ls i).peer = ⟨#[]⟩ then s.ns ++ [lineNode (ln ls i) s.ns.length] else s.ns
def cutAt (p : ByteArray) : Int := Lib.lastIndexByte p 47
def nameOf (p : ByteArray) : ByteArray := if 0 ≤ cutAt p then p.extract ((cutAt p).toNat + 1) p.size else p
def aboveOf (p : ByteArray) : ByteArray := p.extract 0 (cutAt p).toNat
def parP (ls : List LineM) (s : PS) (i : Nat) : Nat := if 0 ≤ cutAt (ln ls i).path then idOf ls s.ids (aboveOf (ln ls i).path) i else 1
def parR (ls : List LineM) (s : PS) (i : Nat) : Int := if 0 ≤ cutAt (ln ls i).path then lastOf ls s.ids (aboveOf (ln ls i).path) i else 0
def stepP (ls : List LineM) (s : PS) (i : Nat) : Option PS :=
  if ¬ idOf ls s.ids (ln ls i).path i = 0 ∨ newId ls s i = 0 then none
  else if i = 0 then some ⟨newNs ls s i, s.ids ++ [newId ls s i]⟩
  else if parP ls s i = 0 then none
  else some ⟨addEnt (newNs ls s i) (parP ls s i - 1) ⟨nameOf (ln ls i).path, ((newId ls s i : Nat) : Int)⟩, s.ids ++ [newId ls s i]⟩
def stepR (ls : List LineM) (s : PS) (i : Nat) : Option PS :=
  if newId ls s i = 0 then none
  else if i = 0 then some ⟨newNs ls s i, s.ids ++ [newId ls s i]⟩
  else if parR ls s i < 0 then none
  else some ⟨addEnt (newNs ls s i) (parR ls s i).toNat ⟨nameOf (ln ls i).path, ((newId ls s i : Nat) : Int)⟩, s.ids ++ [newId ls s i]⟩
def foldS (step : List LineM → PS → Nat → Option PS) (ls : List LineM) : Nat → Option PS
  | 0 => some PS0
  | i + 1 => (foldS step ls i).bind fun s => step ls s i
/-- what is held of a state after i lines -/
structure PInv (ls : List LineM) (s : PS) (i : Nat) : Prop where
  idl : s.ids.length = i
  nsl : s.ns.length ≤ i
  ns1 : 1 ≤ i → 1 ≤ s.ns.length
  idb : ∀ j, j < i → 1 ≤ s.ids.getD j 0 ∧ s.ids.getD j 0 ≤ s.ns.length
  num : ∀ k, k < s.ns.length → (nd s.ns k).id = ((k + 1 : Nat) : Int)
theorem PInv.zero (ls : List LineM) : PInv ls PS0 0 := ⟨rfl, Nat.le_refl _, fun h => absurd h (by decide), fun j h => absurd h (Nat.not_lt_zero j), fun k h => absurd h (Nat.not_lt_zero k)⟩
theorem idOf_le {ls : List LineM} {ids : List Nat} {p : ByteArray} {b : Nat} : ∀ {i : Nat}, (∀ j, j < i → 1 ≤ ids.getD j 0 ∧ ids.getD j 0 ≤ b) → idOf ls ids p i ≤ b
  | 0, _ => Nat.zero_le _
  | i + 1, h => by
    rw [idOf]
    split
    · exact (h i (Nat.lt_succ_self i)).2
    · exact idOf_le (fun j hj => h j (by omega))
theorem idOf_zero {ls : List LineM} {ids : List Nat} {p : ByteArray} : ∀ {i : Nat}, (∀ j, j < i → 1 ≤ ids.getD j 0) → (idOf ls ids p i = 0 ↔ ∀ j, j < i → ¬ (ln ls j).path = p)
  | 0, _ => ⟨fun _ j hj => absurd hj (Nat.not_lt_zero j), fun _ => rfl⟩
  | i + 1, h => by
    have ih := idOf_zero (ls := ls) (p := p) (i := i) (fun j hj => h j (by omega))
    have hi := h i (Nat.lt_succ_self i)
    rw [idOf]
    split
    · rename_i h1
      exact ⟨fun e => by omega, fun e => absurd h1.2 (e i (Nat.lt_succ_self i))⟩
    · rename_i h1
      refine ⟨fun e j hj => ?_, fun e => ih.2 fun j hj => e j (by omega)⟩
      rcases Nat.lt_succ_iff_lt_or_eq.1 hj with h2 | h2
      · exact ih.1 e j h2
      · rw [h2]; exact fun h3 => h1 ⟨e, h3⟩
theorem getD_snoc {l : List Nat} {x : Nat} {j : Nat} (h : j < l.length) : (l ++ [x]).getD j 0 = l.getD j 0 := by
  rw [List.getD_eq_getElem?_getD, List.getD_eq_getElem?_getD, List.getElem?_append_left h]
theorem getD_last {l : List Nat} {x : Nat} : (l ++ [x]).getD l.length 0 = x := by
  rw [List.getD_eq_getElem?_getD, List.getElem?_append_right (Nat.le_refl _)]; simp
theorem idOf_snoc {ls : List LineM} {ids : List Nat} {x : Nat} {p : ByteArray} : ∀ {i : Nat}, i ≤ ids.length → idOf ls (ids ++ [x]) p i = idOf ls ids p i
  | 0, _ => rfl
  | i + 1, h => by
    rw [idOf, idOf, idOf_snoc (by omega), getD_snoc (by omega)]
end Go.Proofs.Ytjpdcppdoonmdaa
end
/- part GPv. PROVED HERE: where the lines' paths are as a tree's, the program's Plant and the reference's build alike. CONDITIONS: none. -/
section
namespace Go.Proofs.Ytjpdcppdoonmdaa
open Go.RowKit Go.Maps
theorem newId_le {ls : List LineM} {s : PS} {i : Nat} (h : PInv ls s i) : newId ls s i ≤ (newNs ls s i).length := by
  unfold newId newNs
  split
  · simp
  · exact idOf_le (fun j hj => h.idb j hj)
theorem newNs_ge {ls : List LineM} {s : PS} {i : Nat} : s.ns.length ≤ (newNs ls s i).length := by
  unfold newNs; split <;> simp
theorem newNs_le {ls : List LineM} {s : PS} {i : Nat} : (newNs ls s i).length ≤ s.ns.length + 1 := by
  unfold newNs; split <;> simp
theorem nd_snoc {ns : List NodeM} {n : NodeM} {k : Nat} (h : k < ns.length) : nd (ns ++ [n]) k = nd ns k := by
  unfold nd; rw [List.getD_eq_getElem?_getD, List.getD_eq_getElem?_getD, List.getElem?_append_left h]
theorem nd_last {ns : List NodeM} {n : NodeM} : nd (ns ++ [n]) ns.length = n := by
  unfold nd; rw [List.getD_eq_getElem?_getD, List.getElem?_append_right (Nat.le_refl _)]; simp
theorem newNs_num {ls : List LineM} {s : PS} {i : Nat} (h : PInv ls s i) {k : Nat} (hk : k < (newNs ls s i).length) : (nd (newNs ls s i) k).id = ((k + 1 : Nat) : Int) := by
  unfold newNs at hk ⊢
  split
  · rename_i h1
    rw [if_pos h1] at hk
    simp only [List.length_append, List.length_singleton] at hk
    by_cases e : k = s.ns.length
    · subst e; rw [nd_last]; rfl
    · rw [nd_snoc (by omega)]; exact h.num k (by omega)
  · rename_i h1
    rw [if_neg h1] at hk
    exact h.num k hk
theorem addEnt_len (ns : List NodeM) (k : Nat) (e : EntM) : (addEnt ns k e).length = ns.length := List.length_set
theorem nd_addEnt {ns : List NodeM} {k j : Nat} {e : EntM} (hk : k < ns.length) : nd (addEnt ns k e) j = if j = k then { nd ns k with ents := (nd ns k).ents ++ [e] } else nd ns j := by
  unfold addEnt
  by_cases h : j = k
  · subst h
    rw [if_pos rfl]
    conv => lhs; unfold nd
    rw [List.getD_eq_getElem?_getD, List.getElem?_set_self hk]; rfl
  · rw [if_neg h]
    conv => lhs; unfold nd
    rw [List.getD_eq_getElem?_getD, List.getElem?_set_ne (fun e => h e.symm)]
    unfold nd
    rw [List.getD_eq_getElem?_getD]
theorem PInv.step {ls : List LineM} {s : PS} {i : Nat} (h : PInv ls s i) (hn : ¬ newId ls s i = 0) {ns : List NodeM} (hl : ns.length = (newNs ls s i).length) (hnum : ∀ k, k < ns.length → (nd ns k).id = ((k + 1 : Nat) : Int)) : PInv ls ⟨ns, s.ids ++ [newId ls s i]⟩ (i + 1) := by
  have h1 := newId_le h
  have h2 := newNs_ge (ls := ls) (s := s) (i := i)
  have h3 := newNs_le (ls := ls) (s := s) (i := i)
  have h4 := h.nsl
  refine ⟨by simp [h.idl], by show ns.length ≤ _; omega, fun _ => by show 1 ≤ ns.length; omega, fun j hj => ?_, hnum⟩
  show 1 ≤ (s.ids ++ [newId ls s i]).getD j 0 ∧ (s.ids ++ [newId ls s i]).getD j 0 ≤ ns.length
  rcases Nat.lt_succ_iff_lt_or_eq.1 hj with e | e
  · rw [getD_snoc (by rw [h.idl]; exact e)]
    have := h.idb j e
    omega
  · have e2 : j = s.ids.length := by rw [h.idl]; exact e
    rw [e2, getD_last]
    omega
theorem parP_le {ls : List LineM} {s : PS} {i : Nat} (h : PInv ls s i) (hi : 0 < i) : parP ls s i ≤ s.ns.length := by
  unfold parP
  split
  · exact idOf_le (fun j hj => h.idb j hj)
  · exact h.ns1 hi
theorem stepP_inv {ls : List LineM} {s s' : PS} {i : Nat} (h : PInv ls s i) (hs : stepP ls s i = some s') : PInv ls s' (i + 1) := by
  unfold stepP at hs
  split at hs
  · cases hs
  · rename_i h1
    have hn : ¬ newId ls s i = 0 := fun e => h1 (.inr e)
    split at hs
    · cases hs
      exact h.step hn rfl (fun k hk => newNs_num h hk)
    · rename_i h2
      split at hs
      · cases hs
      · rename_i h3
        cases hs
        have h4 := parP_le h (by omega)
        have h5 := newNs_ge (ls := ls) (s := s) (i := i)
        refine h.step hn (addEnt_len _ _ _) (fun k hk => ?_)
        rw [addEnt_len] at hk
        rw [nd_addEnt (by omega)]
        split
        · rename_i e; subst e; exact newNs_num h hk
        · exact newNs_num h hk
theorem lastOf_none {ls : List LineM} {ids : List Nat} {p : ByteArray} : ∀ {i : Nat}, (∀ j, 1 ≤ j → j < i → ¬ (ln ls j).path = p) → lastOf ls ids p i = -1
  | 0, _ => rfl
  | i + 1, h => by
    rw [lastOf, if_neg (fun e => h i e.1 (Nat.lt_succ_self i) e.2)]
    exact lastOf_none (fun j h1 h2 => h j h1 (by omega))
theorem lastOf_at {ls : List LineM} {ids : List Nat} {p : ByteArray} {j : Nat} (hj1 : 1 ≤ j) (hp : (ln ls j).path = p) : ∀ {i : Nat}, j < i → (∀ t, 1 ≤ t → t < i → (ln ls t).path = p → t = j) → lastOf ls ids p i = ((ids.getD j 0 : Nat) : Int) - 1
  | 0, h, _ => absurd h (Nat.not_lt_zero j)
  | i + 1, h, hu => by
    rw [lastOf]
    by_cases e : 1 ≤ i ∧ (ln ls i).path = p
    · rw [if_pos e, hu i e.1 (Nat.lt_succ_self i) e.2]
    · rw [if_neg e]
      rcases Nat.lt_succ_iff_lt_or_eq.1 h with h2 | h2
      · exact lastOf_at hj1 hp h2 (fun t h1 h2 => hu t h1 (by omega))
      · subst h2; exact absurd ⟨hj1, hp⟩ e
theorem idOf_at {ls : List LineM} {ids : List Nat} {p : ByteArray} {j : Nat} (hp : (ln ls j).path = p) : ∀ {i : Nat}, j < i → (∀ t, t < i → 1 ≤ ids.getD t 0) → (∀ t, t < i → (ln ls t).path = p → t = j) → idOf ls ids p i = ids.getD j 0
  | 0, h, _, _ => absurd h (Nat.not_lt_zero j)
  | i + 1, h, hb, hu => by
    rw [idOf]
    by_cases e : idOf ls ids p i = 0 ∧ (ln ls i).path = p
    · rw [if_pos e, hu i (Nat.lt_succ_self i) e.2]
    · rw [if_neg e]
      rcases Nat.lt_succ_iff_lt_or_eq.1 h with h2 | h2
      · exact idOf_at hp h2 (fun t ht => hb t (by omega)) (fun t ht => hu t (by omega))
      · subst h2
        exfalso
        apply e
        refine ⟨(idOf_zero (fun t ht => hb t (by omega))).2 (fun t ht e2 => ?_), hp⟩
        have := hu t (by omega) e2
        omega
/-- a path of names is no dot ahead of its last stroke -/
def AboveOk (ls : List LineM) : Prop := ∀ i, 0 < i → i < ls.length → 0 ≤ cutAt (ln ls i).path → ¬ aboveOf (ln ls i).path = ⟨#[46]⟩
theorem par_eq {ls : List LineM} {s : PS} {i : Nat} (h : PInv ls s i) (hg : GoodLines ls) (ha : AboveOk ls) (h0 : 0 < i) (hi : i < ls.length) : parR ls s i = ((parP ls s i : Nat) : Int) - 1 := by
  unfold parR parP
  by_cases hc : 0 ≤ cutAt (ln ls i).path
  · rw [if_pos hc, if_pos hc]
    by_cases hx : ∃ j, j < i ∧ (ln ls j).path = aboveOf (ln ls i).path
    · obtain ⟨j, hj, hp⟩ := hx
      have huniq : ∀ t, t < i → (ln ls t).path = aboveOf (ln ls i).path → t = j := fun t ht e => by
        rcases Nat.lt_trichotomy t j with h1 | h1 | h1
        · exact absurd (e.trans hp.symm) (hg.nodup t j h1 (by omega))
        · exact h1
        · exact absurd (hp.trans e.symm) (hg.nodup j t h1 (by omega))
      have hj1 : 1 ≤ j := by
        rcases Nat.eq_zero_or_pos j with e | e
        · subst e
          exact absurd (by rw [← hp]; exact hg.first (by omega)) (ha i h0 hi hc)
        · exact e
      rw [lastOf_at hj1 hp hj (fun t _ h2 h3 => huniq t h2 h3), idOf_at hp hj (fun t ht => (h.idb t ht).1) huniq]
    · have hno : ∀ j, j < i → ¬ (ln ls j).path = aboveOf (ln ls i).path := fun j hj e => hx ⟨j, hj, e⟩
      rw [lastOf_none (fun j _ h2 => hno j h2), (idOf_zero (fun j hj => (h.idb j hj).1)).2 hno]
      rfl
  · rw [if_neg hc, if_neg hc]; rfl
theorem step_eq {ls : List LineM} {s : PS} {i : Nat} (h : PInv ls s i) (hg : GoodLines ls) (ha : AboveOk ls) (hi : i < ls.length) : stepR ls s i = stepP ls s i := by
  have hid : idOf ls s.ids (ln ls i).path i = 0 := (idOf_zero (fun j hj => (h.idb j hj).1)).2 (fun j hj => hg.nodup j i hj hi)
  unfold stepR stepP
  by_cases hn : newId ls s i = 0
  · rw [if_pos hn, if_pos (.inr hn)]
  · rw [if_neg hn, if_neg (show ¬(¬ idOf ls s.ids (ln ls i).path i = 0 ∨ newId ls s i = 0) from fun e => e.elim (fun e => e hid) hn)]
    by_cases h0 : i = 0
    · rw [if_pos h0, if_pos h0]
    · rw [if_neg h0, if_neg h0, par_eq h hg ha (by omega) hi]
      by_cases hp : parP ls s i = 0
      · rw [if_pos (by omega), if_pos hp]
      · rw [if_neg (by omega), if_neg hp]
        congr 3
        omega
theorem fold_inv {ls : List LineM} : ∀ {i : Nat} {s : PS}, foldS stepP ls i = some s → PInv ls s i
  | 0, s, h => by cases h; exact PInv.zero ls
  | i + 1, s, h => by
    rw [foldS] at h
    cases h1 : foldS stepP ls i with
    | none => rw [h1] at h; cases h
    | some s1 => rw [h1] at h; exact stepP_inv (fold_inv h1) h
theorem fold_eq {ls : List LineM} (hg : GoodLines ls) (ha : AboveOk ls) : ∀ {i : Nat}, i ≤ ls.length → foldS stepR ls i = foldS stepP ls i
  | 0, _ => rfl
  | i + 1, h => by
    rw [foldS, foldS, fold_eq hg ha (by omega)]
    cases h1 : foldS stepP ls i with
    | none => rfl
    | some s => exact step_eq (fold_inv h1) hg ha (by omega)
theorem byteAt_get {s : ByteArray} {j : Nat} (h : j < s.size) : (s.data[j]!).toNat = byteAt s j := by
  unfold byteAt
  rw [Array.getD_eq_getD_getElem?, Array.getElem!_eq_getD, Array.getD_eq_getD_getElem?]
  have : j < s.data.size := h
  rw [Array.getElem?_eq_getElem this]
  rfl
theorem cutAt_spec (p : ByteArray) : (cutAt p = -1 ∧ ∀ j, j < p.size → ¬ byteAt p j = 47) ∨ ∃ i : Nat, i < p.size ∧ cutAt p = i ∧ byteAt p i = 47 ∧ ∀ j, i < j → j < p.size → ¬ byteAt p j = 47 := by
  rcases Lib.lastIndexByte_spec p 47 with ⟨h1, h2⟩ | ⟨i, h1, h2, h3, h4⟩
  · exact .inl ⟨h1, fun j hj e => h2 j hj (by rw [byteAt_get hj, e]; rfl)⟩
  · exact .inr ⟨i, h1, h2, by rw [byteAt_get h1] at h3; omega, fun j h5 h6 e => h4 j h5 h6 (by rw [byteAt_get h6, e]; rfl)⟩
theorem Path.above {l : List ByteArray} {p : ByteArray} (h : Path l p) (hc : 0 ≤ cutAt p) : ¬ aboveOf p = ⟨#[46]⟩ := by
  cases h with
  | one h =>
    rcases cutAt_spec p with ⟨h1, _⟩ | ⟨i, h1, _, h3, _⟩
    · omega
    · exact absurd h3 (h.2.2.2.2 i h1).2
  | @more l p n h hn =>
    have e1 : (⟨#[47]⟩ : ByteArray).size = 1 := rfl
    have hs : (p ++ ⟨#[47]⟩ ++ n).size = p.size + 1 + n.size := by rw [ByteArray.size_append, ByteArray.size_append, e1]
    have hb : byteAt (p ++ ⟨#[47]⟩ ++ n) p.size = 47 := by
      rw [ByteArray.append_assoc, byteAt_right (Nat.le_refl _), Nat.sub_self, byteAt_left (by rw [e1]; decide)]
      rfl
    have hcut : cutAt (p ++ ⟨#[47]⟩ ++ n) = (p.size : Int) := by
      rcases cutAt_spec (p ++ ⟨#[47]⟩ ++ n) with ⟨_, h2⟩ | ⟨i, h1, h2, h3, h4⟩
      · exact absurd hb (h2 p.size (by omega))
      · rcases Nat.lt_trichotomy i p.size with e | e | e
        · exact absurd hb (h4 p.size e (by omega))
        · rw [h2, e]
        · exfalso
          rw [byteAt_right (by rw [ByteArray.size_append, e1]; omega), ByteArray.size_append, e1] at h3
          exact (hn.2.2.2.2 (i - (p.size + 1)) (by omega)).2 h3
    intro e
    unfold aboveOf at e
    rw [hcut, Int.toNat_natCast, ByteArray.append_assoc, ByteArray.extract_append_eq_left rfl] at e
    rw [e] at h
    exact h.not_dot
theorem GoodLines.above {ls : List LineM} (h : GoodLines ls) : AboveOk ls := fun i h0 hi hc => by
  obtain ⟨l, h1⟩ := h.path i h0 hi
  exact h1.above hc
/-- what Plant answers -/
noncomputable def plantG (ls : List LineM) : List NodeM × Int :=
  match foldS stepP ls ls.length with
  | none => ([], 151)
  | some s => if treeG s.ns 1 = (ls, 0) then (s.ns, 0) else ([], 151)
noncomputable def plantR (ls : List LineM) : List NodeM × Int :=
  match foldS stepR ls ls.length with
  | none => ([], 151)
  | some s => if treeG s.ns 1 = (ls, 0) then (s.ns, 0) else ([], 151)
theorem good_of {ls : List LineM} {ns : List NodeM} (h : treeG ns 1 = (ls, 0)) : GoodLines ls := by
  have := tree_good (ns := ns) (root := 1) (by rw [h])
  rw [h] at this
  exact this
theorem plant_eq (ls : List LineM) : plantR ls = plantG ls := by
  by_cases hg : GoodLines ls
  · unfold plantR plantG
    rw [fold_eq hg hg.above (Nat.le_refl _)]
  · have hno : ∀ ns, ¬ treeG ns 1 = (ls, 0) := fun ns e => hg (good_of e)
    have e1 : plantR ls = ([], 151) := by
      unfold plantR
      split
      · rfl
      · rw [if_neg (hno _)]
    have e2 : plantG ls = ([], 151) := by
      unfold plantG
      split
      · rfl
      · rw [if_neg (hno _)]
    rw [e1, e2]
end Go.Proofs.Ytjpdcppdoonmdaa
end
/- part GPw. PROVED HERE: what Plant holds in memory: the entries' rows as a family, the map of paths. CONDITIONS: none. -/
section
namespace Go.Proofs.Ytjpdcppdoonmdaa
open Go.RowKit Go.Maps
theorem lawS : Keyed Try.prog 9 := string_keyed Try.underlying9
theorem keyS {p : ByteArray} (h : p.size ≤ 9223372036854775807) : keyOf Try.prog 9 (.string p) = some (.string p.data.toList) := WideMaps.keyOf_string_mk Try.underlying9 (by unfold maxLen; omega)
/-- a map of texts as a function of the key's datum -/
def mS (g : ByteArray → Option Value) : Lit → Option Value
  | .string l => g ⟨l.toArray⟩
  | _ => none
theorem mS_at (g : ByteArray → Option Value) (p : ByteArray) : mS g (.string p.data.toList) = g p := by
  show g ⟨p.data.toList.toArray⟩ = g p
  rw [Array.toArray_toList]
theorem mS_upd (g : ByteArray → Option Value) (p : ByteArray) (v : Option Value) : upd (mS g) (.string p.data.toList) v = mS (fun q => if q = p then v else g q) := by
  funext x
  unfold upd mS
  cases x with
  | string l =>
    by_cases e : l = p.data.toList
    · subst e
      have e2 : (⟨p.data.toList.toArray⟩ : ByteArray) = p := by rw [Array.toArray_toList]
      simp [Lit.sameKey]
    · have e2 : ¬ (⟨l.toArray⟩ : ByteArray) = p := fun h => e (by rw [← h])
      simp [Lit.sameKey, e, e2]
  | _ => rfl
theorem mS_none : mS (fun _ => none) = fun _ => none := by
  funext x
  unfold mS
  split <;> rfl
/-- the program's map after i lines -/
def idv (ls : List LineM) (ids : List Nat) (i : Nat) (p : ByteArray) : Option Value := if idOf ls ids p i = 0 then none else some (.int .i64 ((idOf ls ids p i : Nat) : Int))
theorem idv_zero (ls : List LineM) (ids : List Nat) : mS (idv ls ids 0) = fun _ => none := by
  rw [← mS_none]; rfl
theorem idv_some {ls : List LineM} {ids : List Nat} {i : Nat} {p : ByteArray} (h : ¬ idOf ls ids p i = 0) : mS (idv ls ids i) (.string p.data.toList) = some (.int .i64 ((idOf ls ids p i : Nat) : Int)) := by
  rw [mS_at]; exact if_neg h
theorem idv_none {ls : List LineM} {ids : List Nat} {i : Nat} {p : ByteArray} (h : idOf ls ids p i = 0) : mS (idv ls ids i) (.string p.data.toList) = none := by
  rw [mS_at]; exact if_pos h
theorem idv_upd {ls : List LineM} {ids : List Nat} {i x : Nat} (hl : ids.length = i) (hx : ¬ x = 0) (h : idOf ls ids (ln ls i).path i = 0) :
    upd (mS (idv ls ids i)) (.string (ln ls i).path.data.toList) (some (.int .i64 ((x : Nat) : Int))) = mS (idv ls (ids ++ [x]) (i + 1)) := by
  rw [mS_upd]
  congr 1
  funext q
  unfold idv
  have e : (ids ++ [x]).getD i 0 = x := by rw [← hl]; exact getD_last
  have e3 : idOf ls (ids ++ [x]) q (i + 1) = if idOf ls ids q i = 0 ∧ (ln ls i).path = q then x else idOf ls ids q i := by
    rw [idOf, idOf_snoc (by omega), e]
  by_cases hq : q = (ln ls i).path
  · rw [if_pos hq, e3.trans (if_pos ⟨hq ▸ h, hq.symm⟩), if_neg hx]
  · rw [if_neg hq, e3.trans (if_neg (fun e => hq e.2.symm))]
theorem idv_cnt {ls : List LineM} {ids : List Nat} {i : Nat} (h : idOf ls ids (ln ls i).path i = 0) : (if (mS (idv ls ids i) (.string (ln ls i).path.data.toList)).isSome then i else i + 1) = i + 1 := by
  rw [idv_none h]; rfl
/-! ### the entries' rows -/
def entF (ns : List NodeM) (L : Lay) (k : Nat) : Asn := RowA 72 2 (L.eA k) (nd ns k).ents.length (L.eC k) (entsV (nd ns k).ents)
/-- the entries of node k have moved -/
def Lay.ent (L : Lay) (k : Nat) (B : Option Addr) (c : Nat) : Lay := ⟨L.dA, fun i => if i = k then B else L.eA i, L.dC, fun i => if i = k then c else L.eC i⟩
theorem flatF_set {α : Type} {f g : Nat → α → List Value} {s : Nat} (hf : ∀ i a, (f i a).length = s) (hg : ∀ i a, (g i a).length = s) : ∀ (xs : List α) (b k j : Nat) (a : α) (u : Value), k < xs.length → j < s →
    (∀ i, i ≠ k → ∀ x, xs[i]? = some x → g (b + i) x = f (b + i) x) → (∀ x, xs[k]? = some x → g (b + k) a = (f (b + k) x).set j u) → (flatF f b xs).set (k * s + j) u = flatF g b (xs.set k a)
  | [], _, k, _, _, _, h, _, _, _ => absurd h (Nat.not_lt_zero k)
  | x :: r, b, 0, j, a, u, _, hj, h1, h2 => by
    rw [flatF, List.set_cons_zero, flatF, Nat.zero_mul, Nat.zero_add, List.set_append_left _ _ (by rw [hf]; exact hj)]
    have e := h2 x rfl
    rw [Nat.add_zero] at e
    rw [e]
    congr 1
    exact flatF_congr _ _ (fun i a hi => by
      have := h1 (i + 1) (by omega) a (by simpa using hi)
      rw [show b + 1 + i = b + (i + 1) by omega]
      exact this.symm)
  | x :: r, b, k + 1, j, a, u, h, hj, h1, h2 => by
    rw [flatF, List.set_cons_succ, flatF, List.set_append_right _ _ (by rw [hf, Nat.add_mul]; omega), hf]
    have e0 := h1 0 (by omega) x rfl
    rw [Nat.add_zero] at e0
    rw [e0, show (k + 1) * s + j - s = k * s + j by rw [Nat.add_mul]; omega]
    congr 1
    refine flatF_set hf hg r (b + 1) k j a u (by simpa using h) hj (fun i hi y hy => ?_) (fun y hy => ?_)
    · rw [show b + 1 + i = b + (i + 1) by omega]; exact h1 (i + 1) (by omega) y (by simpa using hy)
    · rw [show b + 1 + k = b + (k + 1) by omega]; exact h2 y (by simpa using hy)
theorem nodesV_ent {L : Lay} {ns : List NodeM} {k : Nat} {e : EntM} {B : Option Addr} {c : Nat} (hk : k < ns.length) : (nodesV L ns).set (k * 10 + 9) (.slice B ((nd ns k).ents.length + 1) c) = nodesV (L.ent k B c) (addEnt ns k e) := by
  refine flatF_set (s := 10) (fun _ _ => rfl) (fun _ _ => rfl) ns 0 k 9 _ _ hk (by decide) (fun i hi x _ => ?_) (fun x hx => ?_)
  · rw [Nat.zero_add]
    unfold nodeV Lay.ent
    simp [hi]
  · rw [Nat.zero_add]
    have : x = nd ns k := by
      unfold nd; rw [List.getD_eq_getElem?_getD, hx]; rfl
    subst this
    unfold nodeV Lay.ent
    simp
theorem nodesV_more {L : Lay} {ns : List NodeM} {n : NodeM} {dA eA : Option Addr} {dC eC : Nat} : nodesV L ns ++ [.int .i64 n.id, .int .i64 n.kind, .int .i64 n.mode, .int .i64 n.uid, .int .i64 n.gid, .int .i64 n.sec, .int .i64 n.nano, .slice dA n.data.length dC, .string n.target, .slice eA n.ents.length eC] = nodesV (L.put ns.length dA dC eA eC) (ns ++ [n]) := by
  have h := nodesV_put (ns := ns ++ [n]) (L := L) (k := ns.length) (by simp) dA dC eA eC
  rw [nd_last, List.take_left, List.take_of_length_le (by simp)] at h
  exact h
/-- the rows but one are the same -/
theorem entF_ent {ns : List NodeM} {L : Lay} {k : Nat} {e : EntM} {B : Option Addr} {c : Nat} (hk : k < ns.length) : (∀ x, x < ns.length → x ≠ k → entF (addEnt ns k e) (L.ent k B c) x = updR (entF ns L) k Asn.none x) ∧ entF (addEnt ns k e) (L.ent k B c) k = RowA 72 2 B ((nd ns k).ents.length + 1) c (entsV (nd ns k).ents ++ [.string e.name, .int .i64 e.id]) := by
  refine ⟨fun x _ hx => ?_, ?_⟩
  · unfold updR entF Lay.ent
    rw [if_neg hx, nd_addEnt hk, if_neg hx]
    simp [hx]
  · unfold entF Lay.ent
    rw [nd_addEnt hk, if_pos rfl]
    simp only [if_true, List.length_append, List.length_singleton]
    congr 1
    exact flatF_snoc e _ 0
theorem entF_more {ns : List NodeM} {L : Lay} {n : NodeM} {dA : Option Addr} {dC : Nat} (hn : n.ents = []) : (∀ x, x < ns.length → entF (ns ++ [n]) (L.put ns.length dA dC none 0) x = entF ns L x) ∧ entF (ns ++ [n]) (L.put ns.length dA dC none 0) ns.length = RowA 72 2 none 0 0 [] := by
  refine ⟨fun x hx => ?_, ?_⟩
  · unfold entF Lay.put
    rw [nd_snoc hx]
    have : ¬ x = ns.length := by omega
    simp [this]
  · unfold entF Lay.put
    rw [nd_last, hn]
    simp [entsV, flatF]
end Go.Proofs.Ytjpdcppdoonmdaa
end
/- part GPx. PROVED HERE: the data of the nodes that Plant holds; bounds; what a folded state hands on. CONDITIONS: none. -/
section
namespace Go.Proofs.Ytjpdcppdoonmdaa
open Go.RowKit Go.Maps
/-- the nodes' data lie in the base -/
structure PData (β : Bs) (ns : List NodeM) (L : Lay) : Prop where
  at_ : ∀ k, k < ns.length → BytesAt β (L.dA k) (nd ns k).data
section
variable {β β' : Bs} {ns : List NodeM} {L : Lay}
theorem PData.le (h : PData β ns L) (hle : β.le β') : PData β' ns L := ⟨fun k hk => (h.at_ k hk).le hle⟩
theorem PData.nil : PData β [] L := ⟨fun _ h => absurd h (Nat.not_lt_zero _)⟩
theorem PData.more (h : PData β ns L) {n : NodeM} {dA eA : Option Addr} {dC eC : Nat} (hd : BytesAt β dA n.data) : PData β (ns ++ [n]) (L.put ns.length dA dC eA eC) := ⟨fun k hk => by
  by_cases e : k = ns.length
  · subst e; rw [nd_last]; simpa [Lay.put] using hd
  · have : k < ns.length := by simp at hk; omega
    rw [nd_snoc this]; simpa [Lay.put, e] using h.at_ k this⟩
theorem PData.ent (h : PData β ns L) {k : Nat} {e : EntM} {B : Option Addr} {c : Nat} (hk : k < ns.length) : PData β (addEnt ns k e) (L.ent k B c) := ⟨fun j hj => by
  rw [addEnt_len] at hj
  rw [nd_addEnt hk]
  split
  · rename_i e; subst e; exact h.at_ j hj
  · exact h.at_ j hj⟩
end
/-- no node has more than b entries -/
def EntsLe (ns : List NodeM) (b : Nat) : Prop := ∀ k, k < ns.length → (nd ns k).ents.length ≤ b
theorem EntsLe.more {ns : List NodeM} {b : Nat} (h : EntsLe ns b) {n : NodeM} (hn : n.ents = []) : EntsLe (ns ++ [n]) b := fun k hk => by
  by_cases e : k = ns.length
  · subst e; rw [nd_last, hn]; exact Nat.zero_le _
  · have : k < ns.length := by simp at hk; omega
    rw [nd_snoc this]; exact h k this
theorem EntsLe.ent {ns : List NodeM} {b k : Nat} (h : EntsLe ns b) {e : EntM} (hk : k < ns.length) : EntsLe (addEnt ns k e) (b + 1) := fun j hj => by
  rw [addEnt_len] at hj
  rw [nd_addEnt hk]
  split
  · simp only [List.length_append, List.length_singleton]; have := h k hk; omega
  · have := h j hj; omega
theorem EntsLe.up {ns : List NodeM} {b : Nat} (h : EntsLe ns b) : EntsLe ns (b + 1) := fun k hk => Nat.le_succ_of_le (h k hk)
theorem EntsLe.nil {b : Nat} : EntsLe [] b := fun _ h => absurd h (Nat.not_lt_zero _)
/-- what is held after i lines -/
structure PHold (ls : List LineM) (s : PS) (i : Nat) : Prop where
  inv : PInv ls s i
  fold : foldS stepP ls i = some s
  ents : EntsLe s.ns i
theorem PHold.zero (ls : List LineM) : PHold ls PS0 0 := ⟨PInv.zero ls, rfl, EntsLe.nil⟩
theorem PHold.stop {ls : List LineM} {s : PS} {i : Nat} (h : PHold ls s i) (hi : i < ls.length) (hs : stepP ls s i = none) : foldS stepP ls ls.length = none := by
  have h1 : foldS stepP ls (i + 1) = none := by rw [foldS, h.fold]; exact hs
  have h2 : ∀ t, foldS stepP ls (i + 1 + t) = none := by
    intro t
    induction t with
    | zero => exact h1
    | succ t ih => rw [← Nat.add_assoc, foldS, ih]; rfl
  have := h2 (ls.length - (i + 1))
  rw [show i + 1 + (ls.length - (i + 1)) = ls.length by omega] at this
  exact this
theorem PHold.next {ls : List LineM} {s s' : PS} {i : Nat} (h : PHold ls s i) (hs : stepP ls s i = some s') (he : EntsLe s'.ns (i + 1)) : PHold ls s' (i + 1) := ⟨stepP_inv h.inv hs, by rw [foldS, h.fold]; exact hs, he⟩
/-- loose bounds of lines -/
structure LinesC (ls : List LineM) : Prop where
  len : ls.length ≤ 8388608
  path : ∀ i, i < ls.length → (ln ls i).path.size ≤ 8388608
  peer : ∀ i, i < ls.length → (ln ls i).peer.size ≤ 8388608
  data : ∀ i, i < ls.length → (ln ls i).data.length ≤ 1048576
/-- whatever is folded has a graph's bounds -/
def PlantB (ls : List LineM) : Prop := ∀ s, foldS stepP ls ls.length = some s → GraphB s.ns 1048576
theorem plantG_none {ls : List LineM} (h : foldS stepP ls ls.length = none) : plantG ls = ([], 151) := by unfold plantG; rw [h]
theorem plantG_bad {ls : List LineM} {s : PS} (h : foldS stepP ls ls.length = some s) (ht : ¬ treeG s.ns 1 = (ls, 0)) : plantG ls = ([], 151) := by unfold plantG; rw [h]; exact if_neg ht
theorem plantG_good {ls : List LineM} {s : PS} (h : foldS stepP ls ls.length = some s) (ht : treeG s.ns 1 = (ls, 0)) : plantG ls = (s.ns, 0) := by unfold plantG; rw [h]; exact if_pos ht
theorem idv_get (ls : List LineM) (ids : List Nat) (i : Nat) (p : ByteArray) : (idv ls ids i p).getD (.int .i64 0) = .int .i64 ((idOf ls ids p i : Nat) : Int) := by
  unfold idv
  split
  · rename_i h; rw [h]; rfl
  · rfl
theorem idv_is (ls : List LineM) (ids : List Nat) (i : Nat) (p : ByteArray) : (idv ls ids i p).isSome = decide (¬ idOf ls ids p i = 0) := by
  unfold idv
  split
  · rename_i h; rw [h]; rfl
  · rename_i h; simp [h]
end Go.Proofs.Ytjpdcppdoonmdaa
end
/- part GSm. PROVED HERE: the lines of a tree, planted: the graph is the part that was reached, numbered by its first visit; it is well-formed, and its tree is the same lines. CONDITIONS: none. -/
section
namespace Go.Proofs.Ytjpdcppdoonmdaa
open Go.RowKit Go.Maps
/-! ### ways by entries -/
inductive Steps (ns : List NodeM) (r : Nat) : List ByteArray → Nat → Prop
  | nil : Steps ns r [] r
  | snoc {l : List ByteArray} {i j : Nat} : Steps ns r l i → i < ns.length → j < (nd ns i).ents.length → Steps ns r (l ++ [(ent ns i j).name]) (tgt ns (ent ns i j).id)
theorem GraphOk.dir_of {ns : List NodeM} (h : GraphOk ns) {i j : Nat} (hi : i < ns.length) (hj : j < (nd ns i).ents.length) : (nd ns i).kind = 2 := by
  apply Classical.byContradiction
  intro hk
  have := (h.node i hi).ents hk
  omega
theorem Steps.deep {ns : List NodeM} {r k : Nat} {l : List ByteArray} {d : Nat → Nat} (hok : GraphOk ns) (hd : DepthOf ns d) (h : Steps ns r l k) : (nd ns k).kind = 2 → d r + l.length ≤ d k := by
  induction h with
  | nil => intro _; exact Nat.le_refl _
  | @snoc l i j h hi hj ih =>
    intro hk
    have h1 := ih (hok.dir_of hi hj)
    have h2 := hd i j ⟨hi, hj, hk⟩
    rw [List.length_append, List.length_singleton]
    omega
theorem Steps.uniq {ns : List NodeM} {r : Nat} (hok : GraphOk ns) : ∀ {l m : List ByteArray} {k : Nat}, Steps ns r l k → Steps ns r m k → (nd ns k).kind = 2 → l = m := by
  obtain ⟨d, hd⟩ := hok.deep
  intro l m k h
  induction h generalizing m with
  | nil =>
    intro g hk
    have := g.deep hok hd hk
    exact (List.eq_nil_of_length_eq_zero (by omega)).symm
  | @snoc l i j h hi hj ih =>
    intro g hk
    generalize hz : tgt ns (ent ns i j).id = z at g hk
    cases g with
    | nil =>
      have h1 := (Steps.snoc h hi hj).deep hok hd (by rw [hz]; exact hk)
      rw [hz, List.length_append, List.length_singleton] at h1
      omega
    | @snoc m i' j' g hi' hj' =>
      obtain ⟨rfl, rfl⟩ := hok.uniq i j i' j' ⟨hi, hj, by rw [hz]; exact hk⟩ ⟨hi', hj', hk⟩ hi hi' hz
      rw [ih g (hok.dir_of hi hj)]
theorem Path.det {l : List ByteArray} {p : ByteArray} (h : Path l p) : ∀ {q : ByteArray}, Path l q → p = q := by
  induction h with
  | one hn =>
    intro q g
    generalize hz : [_] = m at g
    cases g with
    | one _ => injection hz
    | @more m p' n' g' _ =>
      have h1 := congrArg List.length hz
      rw [List.length_append, List.length_singleton, List.length_singleton] at h1
      exact absurd (List.eq_nil_of_length_eq_zero (by omega)) g'.ne
  | @more l p n h hn ih =>
    intro q g
    generalize hz : l ++ [n] = m at g
    cases g with
    | one _ =>
      have h1 := congrArg List.length hz
      rw [List.length_append, List.length_singleton, List.length_singleton] at h1
      exact absurd (List.eq_nil_of_length_eq_zero (by omega)) h.ne
    | @more m p' n' g' _ =>
      obtain ⟨h1, h2⟩ := List.append_inj' hz rfl
      subst h1
      injection h2 with h2
      rw [ih g', h2]
theorem IsPath.det {l : List ByteArray} {p q : ByteArray} (h : IsPath l p) (g : IsPath l q) : p = q := by
  rcases h with ⟨h1, h2⟩ | h
  · rcases g with ⟨_, g2⟩ | g
    · rw [h2, g2]
    · exact absurd h1 g.ne
  · rcases g with ⟨g1, _⟩ | g
    · exact absurd g1 h.ne
    · exact h.det g
/-! ### the simulation -/
/-- a node of the planted graph, of which m entries are there -/
def newNode (ns : List NodeM) (ρ : Nat → Nat) (k m : Nat) : NodeM :=
  { nd ns k with id := ((ρ k : Nat) : Int), ents := ((nd ns k).ents.take m).map fun e => ⟨e.name, ((ρ (tgt ns e.id) : Nat) : Int)⟩ }
structure Sim (ns : List NodeM) (r : Nat) (ls : List LineM) (s : TS) (t : PS) (ρ dn : Nat → Nat) : Prop where
  pre : ∃ tail, ls = s.out ++ tail
  fold : foldS stepP ls s.out.length = some t
  vis : ∀ k, ρ k = 0 ↔ s.fst k = ⟨#[]⟩
  root : s.out.length ≠ 0 → ρ r = 1
  lt : ∀ k, ρ k ≠ 0 → k < ns.length ∧ ρ k ≤ t.ns.length
  inj : ∀ k k', ρ k ≠ 0 → ρ k = ρ k' → k = k'
  sur : ∀ j, j < t.ns.length → ∃ k, ρ k = j + 1
  path : ∀ k, ρ k ≠ 0 → (∃ l, IsPath l (s.fst k) ∧ Steps ns r l k) ∧ ∃ i, i < s.out.length ∧ (ln ls i).path = s.fst k ∧ t.ids.getD i 0 = ρ k
  node : ∀ k, ρ k ≠ 0 → nd t.ns (ρ k - 1) = newNode ns ρ k (dn k)
  done : ∀ k, ρ k ≠ 0 → dn k ≤ (nd ns k).ents.length ∧ ∀ j, j < dn k → ρ (tgt ns (ent ns k j).id) ≠ 0
theorem Sim.zero (ns : List NodeM) (r : Nat) (ls : List LineM) : Sim ns r ls TS0 PS0 (fun _ => 0) (fun _ => 0) :=
  ⟨⟨ls, rfl⟩, rfl, fun _ => ⟨fun _ => rfl, fun _ => rfl⟩, fun h => absurd rfl h, fun _ h => absurd rfl h, fun _ _ h => absurd rfl h, fun _ h => absurd h (Nat.not_lt_zero _), fun _ h => absurd rfl h, fun _ h => absurd rfl h, fun _ h => absurd rfl h⟩
/-- the parent of a visit: node q, whose next entry leads to k along the path p -/
structure Child (ns : List NodeM) (r : Nat) (s : TS) (ρ dn : Nat → Nat) (q k : Nat) (p : ByteArray) : Prop where
  vis : ρ q ≠ 0
  lt : dn q < (nd ns q).ents.length
  tgt : tgt ns (ent ns q (dn q)).id = k
  path : (q = r ∧ s.fst q = ⟨#[46]⟩ ∧ p = (ent ns q (dn q)).name) ∨ ((∃ l, Path l (s.fst q)) ∧ p = s.fst q ++ ⟨#[47]⟩ ++ (ent ns q (dn q)).name)
  good : GoodName (ent ns q (dn q)).name
def updN (f : Nat → Nat) (k x i : Nat) : Nat := if i = k then x else f i
def newRho (t : PS) (ρ : Nat → Nat) (k x : Nat) : Nat := if ρ k = 0 then updN ρ k (t.ns.length + 1) x else ρ x
def newDn (ρ dn : Nat → Nat) (k x : Nat) : Nat := if ρ k = 0 then updN dn k 0 x else dn x
theorem cut_name {n : ByteArray} (h : GoodName n) : cutAt n = -1 := by
  rcases cutAt_spec n with ⟨h1, _⟩ | ⟨i, h1, _, h3, _⟩
  · exact h1
  · exact absurd h3 (h.2.2.2.2 i h1).2
theorem cut_path {p n : ByteArray} (h : GoodName n) : cutAt (p ++ ⟨#[47]⟩ ++ n) = (p.size : Int) ∧ aboveOf (p ++ ⟨#[47]⟩ ++ n) = p ∧ nameOf (p ++ ⟨#[47]⟩ ++ n) = n := by
  have e1 : (⟨#[47]⟩ : ByteArray).size = 1 := rfl
  have hs : (p ++ ⟨#[47]⟩ ++ n).size = p.size + 1 + n.size := by rw [ByteArray.size_append, ByteArray.size_append, e1]
  have hb : byteAt (p ++ ⟨#[47]⟩ ++ n) p.size = 47 := by
    rw [ByteArray.append_assoc, byteAt_right (Nat.le_refl _), Nat.sub_self, byteAt_left (by rw [e1]; decide)]
    rfl
  have hcut : cutAt (p ++ ⟨#[47]⟩ ++ n) = (p.size : Int) := by
    rcases cutAt_spec (p ++ ⟨#[47]⟩ ++ n) with ⟨_, h2⟩ | ⟨i, h1, h2, h3, h4⟩
    · exact absurd hb (h2 p.size (by omega))
    · rcases Nat.lt_trichotomy i p.size with e | e | e
      · exact absurd hb (h4 p.size e (by omega))
      · rw [h2, e]
      · exfalso
        rw [byteAt_right (by rw [ByteArray.size_append, e1]; omega), ByteArray.size_append, e1] at h3
        exact (h.2.2.2.2 (i - (p.size + 1)) (by omega)).2 h3
  refine ⟨hcut, ?_, ?_⟩
  · unfold aboveOf
    rw [hcut, Int.toNat_natCast, ByteArray.append_assoc, ByteArray.extract_append_eq_left rfl]
  · unfold nameOf
    rw [hcut, if_pos (Int.natCast_nonneg _), Int.toNat_natCast]
    have : p.size + 1 = (p ++ ⟨#[47]⟩).size := by rw [ByteArray.size_append, e1]
    rw [this]
    exact ByteArray.extract_append_eq_right rfl ByteArray.size_append
section sim
variable {ns : List NodeM} {r : Nat} {ls : List LineM} {s : TS} {t : PS} {ρ dn : Nat → Nat}
theorem Sim.idOf (h : Sim ns r ls s t ρ dn) (hg : GoodLines ls) {k : Nat} (hk : ρ k ≠ 0) : idOf ls t.ids (s.fst k) s.out.length = ρ k := by
  obtain ⟨_, i, hi, hp, hid⟩ := h.path k hk
  have hinv := fold_inv h.fold
  obtain ⟨tail, htl⟩ := h.pre
  have hlen : s.out.length ≤ ls.length := by rw [htl]; simp
  rw [idOf_at hp hi (fun t ht => (hinv.idb t ht).1) (fun j hj e => ?_), hid]
  rcases Nat.lt_trichotomy j i with h1 | h1 | h1
  · exact absurd (e.trans hp.symm) (hg.nodup j i h1 (by omega))
  · exact h1
  · exact absurd (hp.trans e.symm) (hg.nodup i j h1 (by omega))
theorem newRho_old (t : PS) {k x : Nat} (hx : ρ x ≠ 0) : newRho t ρ k x = ρ x := by
  unfold newRho updN
  split
  · rename_i h
    have : ¬ x = k := fun e => hx (e ▸ h)
    rw [if_neg this]
  · rfl
theorem newRho_at (t : PS) (k : Nat) : newRho t ρ k k ≠ 0 := by
  unfold newRho updN
  split
  · rw [if_pos rfl]; exact Nat.succ_ne_zero _
  · assumption
theorem newRho_or (t : PS) {k x : Nat} (hx : newRho t ρ k x ≠ 0) : ρ x ≠ 0 ∨ (x = k ∧ ρ k = 0 ∧ newRho t ρ k x = t.ns.length + 1) := by
  unfold newRho updN at hx ⊢
  by_cases h : ρ k = 0
  · rw [if_pos h] at hx ⊢
    by_cases e : x = k
    · right; rw [if_pos e]; exact ⟨e, h, rfl⟩
    · rw [if_neg e] at hx; exact .inl hx
  · rw [if_neg h] at hx; exact .inl hx
theorem newDn_old {k x : Nat} (hx : ρ x ≠ 0) : newDn ρ dn k x = dn x := by
  unfold newDn updN
  split
  · rename_i h
    have : ¬ x = k := fun e => hx (e ▸ h)
    rw [if_neg this]
  · rfl
theorem newDn_new {k : Nat} (hk : ρ k = 0) : newDn ρ dn k k = 0 := by
  unfold newDn updN
  rw [if_pos hk, if_pos rfl]
theorem newNode_old (h : Sim ns r ls s t ρ dn) {k x : Nat} (hx : ρ x ≠ 0) : newNode ns (newRho t ρ k) x (dn x) = newNode ns ρ x (dn x) := by
  unfold newNode
  rw [newRho_old t hx]
  have hm : ((nd ns x).ents.take (dn x)).map (fun e => (⟨e.name, ((newRho t ρ k (tgt ns e.id) : Nat) : Int)⟩ : EntM)) = ((nd ns x).ents.take (dn x)).map (fun e => (⟨e.name, ((ρ (tgt ns e.id) : Nat) : Int)⟩ : EntM)) := ?_
  · rw [hm]
  refine List.map_congr_left (fun e he => ?_)
  obtain ⟨j, hj, hje⟩ := List.getElem_of_mem he
  have hj2 : j < dn x ∧ j < (nd ns x).ents.length := by simp at hj; omega
  have e2 : e = ent ns x j := by
    rw [← hje, List.getElem_take]
    unfold ent en
    rw [List.getD_eq_getElem?_getD, List.getElem?_eq_getElem hj2.2]; rfl
  rw [newRho_old t (by rw [e2]; exact (h.done x hx).2 j hj2.1)]
end sim
end Go.Proofs.Ytjpdcppdoonmdaa
end
/- part Ld. PROVED HERE: parts may be lent to what is only read, and be had back; a contract's parts are laid to the base. CONDITIONS: none. No statement of the seat is proved here. -/
section
namespace Go.Proofs.Ytjpdcppdoonmdaa
open Go.RowKit
/-- β' is β and what the parts R take up -/
structure Lent (β : Bs) (R : List HP) (β' : Bs) : Prop where
  le : β.le β'
  fp : ∃ φ : Nat → Fp, (∀ (i : Nat) (p : HP), R[i]? = some p → p.h (φ i) β'.w0 ∧ ∀ k, φ i k → β'.O k) ∧ (∀ i, i < R.length → ∀ k, φ i k → ¬ β.O k) ∧ (∀ i j, i < R.length → j < R.length → i ≠ j → Apart (φ i) (φ j)) ∧ ∀ k, β'.O k → β.O k ∨ ∃ i, i < R.length ∧ φ i k
section lent
variable {β β' β2 : Bs} {l R : List HP} {w : World} {p : HP} {i : Nat}
theorem Lent.get (h : Lent β R β') (i : Nat) (hp : R[i]? = some p) : ∃ F, p.h F β'.w0 ∧ ∀ k, F k → β'.O k := by
  obtain ⟨φ, h1, _⟩ := h.fp
  exact ⟨φ i, h1 i p hp⟩
theorem Sat.turn {a b : List HP} (h : Sat β (a ++ b) w) : Sat β (b ++ a) w := by
  obtain ⟨ho, φ, h1, h2, h3⟩ := h
  have hl : (a ++ b).length = a.length + b.length := List.length_append
  have hl' : (b ++ a).length = b.length + a.length := List.length_append
  refine ⟨ho, fun i => if i < b.length then φ (a.length + i) else φ (i - b.length), fun i p hp => ?_, fun i hi k hk hO => ?_, fun i j hi hj hne k hk hk' => ?_⟩
  · have hi := len_of_some hp
    by_cases e : i < b.length
    · simp only [e, if_true]
      rw [List.getElem?_append_left e] at hp
      exact h1 _ p (by rw [List.getElem?_append_right (by omega)]; simpa using hp)
    · simp only [e, if_false]
      rw [List.getElem?_append_right (by omega)] at hp
      exact h1 _ p (by rw [List.getElem?_append_left (by omega)]; exact hp)
  · by_cases e : i < b.length
    · simp only [e, if_true] at hk
      exact h2 _ (by omega) k hk hO
    · simp only [e, if_false] at hk
      exact h2 _ (by omega) k hk hO
  · by_cases e1 : i < b.length
    · simp only [e1, if_true] at hk
      by_cases e2 : j < b.length
      · simp only [e2, if_true] at hk'
        exact h3 _ _ (by omega) (by omega) (by omega) k hk hk'
      · simp only [e2, if_false] at hk'
        exact h3 _ _ (by omega) (by omega) (by omega) k hk hk'
    · simp only [e1, if_false] at hk
      by_cases e2 : j < b.length
      · simp only [e2, if_true] at hk'
        exact h3 _ _ (by omega) (by omega) (by omega) k hk hk'
      · simp only [e2, if_false] at hk'
        exact h3 _ _ (by omega) (by omega) (by omega) k hk hk'
theorem Sat.lend (h : Sat β (l ++ R) w) : ∃ β', Lent β R β' ∧ β'.w0 = w ∧ Sat β' l w := by
  obtain ⟨ho, φ, h1, h2, h3⟩ := h
  have hl : (l ++ R).length = l.length + R.length := List.length_append
  have hR : ∀ (i : Nat) (p : HP), R[i]? = some p → p.h (φ (l.length + i)) w := fun i p hp => h1 _ p (by rw [List.getElem?_append_right (by omega)]; simpa using hp)
  refine ⟨⟨fun k => β.O k ∨ ∃ i, i < R.length ∧ φ (l.length + i) k, w⟩, ⟨⟨fun k hk => .inl hk, ho.os, ho.tape, ho.output, ho.size, fun k hk => ho.old k hk⟩, fun i => φ (l.length + i), fun i p hp => ⟨hR i p hp, fun k hk => .inr ⟨i, len_of_some hp, hk⟩⟩, fun i hi => h2 _ (by omega), fun i j hi hj hne => h3 _ _ (by omega) (by omega) (by omega), fun k hk => hk⟩, rfl, ⟨rfl, rfl, rfl, Nat.le_refl _, fun k hk => ⟨?_, rfl⟩⟩, φ, fun i p hp => h1 i p (by rw [List.getElem?_append_left (len_of_some hp)]; exact hp), fun i hi k hk hO => ?_, fun i j hi hj hne => h3 i j (by omega) (by omega) hne⟩
  · rcases hk with hk | ⟨i, hi, hk⟩
    · exact Nat.lt_of_lt_of_le (ho.old k hk).1 ho.size
    · obtain ⟨p, hp⟩ := some_of_len hi
      exact HP.lt (hR i p hp) k hk
  · rcases hO with hO | ⟨j, hj, hO⟩
    · exact h2 i (by omega) k hk hO
    · exact h3 i (l.length + j) (by omega) (by omega) (by omega) k hk hO
theorem Lent.back (h : Lent β R β') (hS : Sat β' l w) : Sat β (l ++ R) w := by
  obtain ⟨hle, φ, g1, g2, g3, g4⟩ := h
  obtain ⟨ho, ψ, h1, h2, h3⟩ := hS
  have hl : (l ++ R).length = l.length + R.length := List.length_append
  have hin : ∀ i, i < R.length → ∀ k, φ i k → β'.O k := fun i hi k hk => by
    obtain ⟨p, hp⟩ := some_of_len hi
    exact (g1 i p hp).2 k hk
  have hk : ∀ i, i < R.length → Keeps (fun k => ¬ φ i k) β'.w0 w := fun i hi => ⟨ho.os, ho.tape, ho.output, ho.size, fun k _ hn => (ho.old k (hin i hi k (Classical.not_not.1 hn))).2⟩
  refine ⟨ho.le hle, fun i => if i < l.length then ψ i else φ (i - l.length), fun i p hp => ?_, fun i hi k hk hO => ?_, fun i j hi hj hne k hk hk' => ?_⟩
  · by_cases e : i < l.length
    · rw [List.getElem?_append_left e] at hp
      simp only [e, if_true]
      exact h1 i p hp
    · rw [List.getElem?_append_right (by omega)] at hp
      simp only [e, if_false]
      exact HP.st (g1 _ p hp).1 (hk _ (len_of_some hp)) (fun k h => fun h' => h' h)
  · by_cases e : i < l.length
    · simp only [e, if_true] at hk
      exact h2 i e k hk (hle.O k hO)
    · simp only [e, if_false] at hk
      exact g2 _ (by omega) k hk hO
  · by_cases e1 : i < l.length
    · simp only [e1, if_true] at hk
      by_cases e2 : j < l.length
      · simp only [e2, if_true] at hk'
        exact h3 i j e1 e2 hne k hk hk'
      · simp only [e2, if_false] at hk'
        exact h2 i e1 k hk (hin _ (by omega) k hk')
    · simp only [e1, if_false] at hk
      by_cases e2 : j < l.length
      · simp only [e2, if_true] at hk'
        exact h2 j e2 k hk' (hin _ (by omega) k hk)
      · simp only [e2, if_false] at hk'
        exact g3 _ _ (by omega) (by omega) (by omega) k hk hk'
end lent
section rules
variable {P : Program} {β β' β2 : Bs} {N : Nat} {ops : Array Oper} {k : Nat} {fr : Fr} {hps l R : List HP} {Q : Post} {c : Code} {e : Exit} {pk : List Nat} {f : FuncId} {args : Array Value} {pre : List HP}
theorem TriL.lend (R : List HP) (pk : List Nat) (hn : nodupB pk = true) (hp : pickL hps pk = some (l ++ R)) (K : ∀ β' : Bs, β.le β' → β'.le β' → Lent β R β' → TriL P β' N ops k fr l Q) : TriL P β N ops k fr hps Q := fun junk w hS => by
  obtain ⟨β', h, _, hS'⟩ := (hS.pick hn hp).lend
  exact K β' h.le hS'.1.refl_le h junk w hS'
theorem Tri.lend (R : List HP) (pk : List Nat) (hn : nodupB pk = true) (hp : pickL hps pk = some (l ++ R)) (K : ∀ β' : Bs, β.le β' → β'.le β' → Lent β R β' → Tri P β' N c fr l Q) : Tri P β N c fr hps Q := fun junk w hS => by
  obtain ⟨β', h, _, hS'⟩ := (hS.pick hn hp).lend
  exact K β' h.le hS'.1.refl_le h junk w hS'
theorem TriL.back (h : Lent β R β') (hle : β'.le β2) (K : TriL P β N ops k fr (hps ++ R) Q) : TriL P β2 N ops k fr hps Q := fun junk w hS => K junk w (h.back (hS.debase hle))
theorem Tri.back (h : Lent β R β') (hle : β'.le β2) (K : Tri P β N c fr (hps ++ R) Q) : Tri P β2 N c fr hps Q := fun junk w hS => K junk w (h.back (hS.debase hle))
theorem TriQ.back (h : Lent β R β') (hle : β'.le β2) (K : TriQ β N Q e fr (hps ++ R)) : TriQ β2 N Q e fr hps := fun junk w hS => K junk w (h.back (hS.debase hle))
/-- what a call leaves is laid to the base -/
theorem Spec.base {post : Value → List HP → Prop} {Φ : Bs → Value → Prop} (h : Spec P β f args pre post) (hΦ : ∀ v l, post v l → ∀ β', Lent β l β' → Φ β' v) : SpecB P β f args pre (fun β' v l => l = [] ∧ Φ β' v) := by
  intro A w hS
  refine (h A w hS).mono ?_
  rintro e w' ⟨v, l, h1, h2, h3⟩
  obtain ⟨β', g1, _, g3⟩ := (Sat.turn h3).lend
  exact ⟨β', v, [], g1.le, h1, ⟨rfl, hΦ v l h2 β' g1⟩, g3⟩
end rules
end Go.Proofs.Ytjpdcppdoonmdaa
end
/- part GPo. PROVED HERE: the data's rows of a graph's nodes as a family; a graph that is lent. CONDITIONS: none. -/
section
namespace Go.Proofs.Ytjpdcppdoonmdaa
open Go.RowKit Go.Maps
def layN : Lay := ⟨fun _ => none, fun _ => none, fun _ => 0, fun _ => 0⟩
def datF (ns : List NodeM) (L : Lay) (k : Nat) : Asn := RowA 5 1 (L.dA k) (nd ns k).data.length (L.dC k) (bytesV (nd ns k).data)
theorem datF_more {ns : List NodeM} {L : Lay} {n : NodeM} {dA eA : Option Addr} {dC eC : Nat} : (∀ x, x < ns.length → datF (ns ++ [n]) (L.put ns.length dA dC eA eC) x = datF ns L x) ∧ datF (ns ++ [n]) (L.put ns.length dA dC eA eC) ns.length = RowA 5 1 dA n.data.length dC (bytesV n.data) := by
  refine ⟨fun x hx => ?_, ?_⟩
  · unfold datF Lay.put
    rw [nd_snoc hx]
    have : ¬ x = ns.length := by omega
    simp [this]
  · unfold datF Lay.put
    rw [nd_last]
    simp
theorem datF_ent {ns : List NodeM} {L : Lay} {k : Nat} {e : EntM} {B : Option Addr} {c : Nat} (hk : k < ns.length) : datF (addEnt ns k e) (L.ent k B c) = datF ns L := by
  funext x
  unfold datF Lay.ent
  rw [nd_addEnt hk]
  split
  · rename_i e; subst e; rfl
  · rfl
theorem famA_congr {R R' : Nat → Asn} {n : Nat} (h : R = R') : HP.abs (FamA R n) = HP.abs (FamA R' n) := by rw [h]
def rowN (A : Option Addr) (c : Nat) (ns : List NodeM) (L : Lay) : HP := .abs (RowA 32 10 A ns.length c (nodesV L ns))
/-- a graph of one's own -/
def ownG (A : Option Addr) (c : Nat) (ns : List NodeM) (L : Lay) : List HP := [rowN A c ns L, .abs (FamA (entF ns L) ns.length), .abs (FamA (datF ns L) ns.length)]
theorem Lent.graph {β β' : Bs} {A : Option Addr} {c : Nat} {ns : List NodeM} {L : Lay} (h : Lent β (ownG A c ns L) β') : GraphAt β' A ns L := by
  obtain ⟨F, h1, h2⟩ := h.get 0 rfl
  obtain ⟨G, g1, g2⟩ := h.get 1 rfl
  obtain ⟨K, k1, k2⟩ := h.get 2 rfl
  exact ⟨RowB.of_row h1 h2 rfl,
    FamA.base k1 k2 rfl (Φ := fun i b => BytesAt b (L.dA i) (nd ns i).data) (fun i _ F hF hO => RowB.of_row (show (HP.abs (RowA 5 1 (L.dA i) (nd ns i).data.length (L.dC i) (bytesV (nd ns i).data))).h F _ from hF) hO rfl),
    FamA.base g1 g2 rfl (Φ := fun i b => EntsAt b (L.eA i) (nd ns i).ents) (fun i _ F hF hO => RowB.of_row (show (HP.abs (RowA 72 2 (L.eA i) (nd ns i).ents.length (L.eC i) (entsV (nd ns i).ents))).h F _ from hF) hO rfl)⟩
theorem nodesV_get {L : Lay} {ns : List NodeM} {k j : Nat} (hk : k < ns.length) {v : Value} (hv : (nodeV L k (nd ns k))[j]? = some v) : (nodesV L ns)[k * 10 + j]? = some v := by
  have hj : j < 10 := len_of_some hv
  have h1 := flatF_get (f := nodeV L) (s := 10) (fun _ _ => rfl) ns 0 k j _ (getD_some (x := default) hk) hj
  rw [Nat.zero_add] at h1
  exact h1.trans hv
theorem cutAt_le (p : ByteArray) : (cutAt p < 0 ∨ (cutAt p).toNat < p.size) ∧ -1 ≤ cutAt p := by
  rcases cutAt_spec p with ⟨h, _⟩ | ⟨i, h1, h2, _⟩
  · omega
  · omega
section steps
variable {ls : List LineM} {s : PS} {i : Nat}
theorem stepP_dup (h : ¬ idOf ls s.ids (ln ls i).path i = 0) : stepP ls s i = none := if_pos (.inl h)
theorem stepP_noid (h : newId ls s i = 0) : stepP ls s i = none := if_pos (.inr h)
theorem stepP_first (h1 : idOf ls s.ids (ln ls i).path i = 0) (h2 : ¬ newId ls s i = 0) (h0 : i = 0) : stepP ls s i = some ⟨newNs ls s i, s.ids ++ [newId ls s i]⟩ := by
  unfold stepP; rw [if_neg (fun e => e.elim (fun e => e h1) h2), if_pos h0]
theorem stepP_noparent (h1 : idOf ls s.ids (ln ls i).path i = 0) (h2 : ¬ newId ls s i = 0) (h0 : ¬ i = 0) (h3 : parP ls s i = 0) : stepP ls s i = none := by
  unfold stepP; rw [if_neg (fun e => e.elim (fun e => e h1) h2), if_neg h0, if_pos h3]
theorem stepP_more (h1 : idOf ls s.ids (ln ls i).path i = 0) (h2 : ¬ newId ls s i = 0) (h0 : ¬ i = 0) (h3 : ¬ parP ls s i = 0) :
    stepP ls s i = some ⟨addEnt (newNs ls s i) (parP ls s i - 1) ⟨nameOf (ln ls i).path, ((newId ls s i : Nat) : Int)⟩, s.ids ++ [newId ls s i]⟩ := by
  unfold stepP; rw [if_neg (fun e => e.elim (fun e => e h1) h2), if_neg h0, if_neg h3]
theorem EntsLe.new (h : EntsLe s.ns i) : EntsLe (newNs ls s i) i := by
  unfold newNs
  split
  · exact h.more rfl
  · exact h
end steps
theorem newNs_at {ls : List LineM} {s : PS} {i : Nat} (h : (ln ls i).peer = ⟨#[]⟩) : newNs ls s i = s.ns ++ [lineNode (ln ls i) s.ns.length] ∧ newId ls s i = s.ns.length + 1 := ⟨if_pos h, if_pos h⟩
theorem newNs_no {ls : List LineM} {s : PS} {i : Nat} (h : ¬ (ln ls i).peer = ⟨#[]⟩) : newNs ls s i = s.ns ∧ newId ls s i = idOf ls s.ids (ln ls i).peer i := ⟨if_neg h, if_neg h⟩
theorem above_le {p : ByteArray} : (aboveOf p).size ≤ p.size := by
  unfold aboveOf
  rw [ByteArray.size_extract]
  omega
end Go.Proofs.Ytjpdcppdoonmdaa
end
/- part GSn. PROVED HERE: the fold over a tree's lines follows the walk that told them. CONDITIONS: none. -/
section
namespace Go.Proofs.Ytjpdcppdoonmdaa
open Go.RowKit Go.Maps
theorem lineOf_peer (n : NodeM) (p x : ByteArray) : (lineOf n p x).peer = x := by
  unfold lineOf
  split
  · rename_i h; exact h.symm
  · rfl
theorem IsPath.pos {l : List ByteArray} {p : ByteArray} (h : IsPath l p) : ¬ p = ⟨#[]⟩ := by
  rcases h with ⟨_, h⟩ | h
  · rw [h]; decide
  · intro e
    have := h.size
    rw [e] at this
    exact absurd this (by decide)
section sim
variable {ns : List NodeM} {r : Nat} {ls : List LineM} {s : TS} {t : PS} {ρ dn : Nat → Nat}
theorem push_fst_old {k x : Nat} {p : ByteArray} (h : ¬ s.fst x = ⟨#[]⟩) : (push ns k p s).fst x = s.fst x := by
  unfold push
  split
  · rename_i h0
    have : ¬ x = k := fun e => h (e ▸ h0)
    show (if x = k then p else s.fst x) = _
    rw [if_neg this]
  · rfl
theorem push_fst_new {k : Nat} {p : ByteArray} (h : s.fst k = ⟨#[]⟩) : (push ns k p s).fst k = p := by
  unfold push
  rw [if_pos h]
  show (if k = k then p else s.fst k) = _
  rw [if_pos rfl]
theorem push_fst_other {k x : Nat} {p : ByteArray} (h : ¬ x = k) : (push ns k p s).fst x = s.fst x := by
  unfold push
  split
  · show (if x = k then p else s.fst x) = _
    rw [if_neg h]
  · rfl
/-- what the next line is -/
structure NextLine (ns : List NodeM) (ls : List LineM) (s : TS) (k : Nat) (p : ByteArray) : Prop where
  lt : s.out.length < ls.length
  line : ln ls s.out.length = lineOf (nd ns k) p (s.fst k)
theorem nextLine {k : Nat} {p : ByteArray} (h : ∃ tail, ls = (push ns k p s).out ++ tail) : NextLine ns ls s k p := by
  obtain ⟨tail, h⟩ := h
  rw [push_out, List.append_assoc] at h
  refine ⟨by rw [h]; simp, ?_⟩
  unfold ln
  rw [h, List.getD_eq_getElem?_getD, List.getElem?_append_right (Nat.le_refl _)]
  simp
theorem Sim.fresh (h : Sim ns r ls s t ρ dn) (hg : GoodLines ls) {k : Nat} {p : ByteArray} (hn : NextLine ns ls s k p) : Proofs.Ytjpdcppdoonmdaa.idOf ls t.ids (ln ls s.out.length).path s.out.length = 0 :=
  (idOf_zero (fun j hj => ((fold_inv h.fold).idb j hj).1)).2 (fun j hj => hg.nodup j _ hj hn.lt)
theorem Sim.newId (h : Sim ns r ls s t ρ dn) (hg : GoodLines ls) {k : Nat} {p : ByteArray} (hn : NextLine ns ls s k p) : Proofs.Ytjpdcppdoonmdaa.newId ls t s.out.length = newRho t ρ k k := by
  have hpe : (ln ls s.out.length).peer = s.fst k := by rw [hn.line, lineOf_peer]
  unfold Proofs.Ytjpdcppdoonmdaa.newId newRho
  by_cases hk : ρ k = 0
  · rw [if_pos (by rw [hpe]; exact (h.vis k).1 hk), if_pos hk]
    unfold updN; rw [if_pos rfl]
  · rw [if_neg (by rw [hpe]; exact fun e => hk ((h.vis k).2 e)), if_neg hk, hpe]
    exact h.idOf hg hk
theorem Sim.next (h : Sim ns r ls s t ρ dn) {k : Nat} {p : ByteArray} {l : List ByteArray} (hk : k < ns.length) (hp : IsPath l p) (hs : Steps ns r l k) (hpre : ∃ tail, ls = (push ns k p s).out ++ tail)
    {t' : PS} (hstep : stepP ls t s.out.length = some t') (hids : t'.ids = t.ids ++ [newRho t ρ k k]) (hlen : t'.ns.length = if ρ k = 0 then t.ns.length + 1 else t.ns.length) {dn' : Nat → Nat}
    (hnode : ∀ x, newRho t ρ k x ≠ 0 → nd t'.ns (newRho t ρ k x - 1) = newNode ns (newRho t ρ k) x (dn' x)) (hdone : ∀ x, newRho t ρ k x ≠ 0 → dn' x ≤ (nd ns x).ents.length ∧ ∀ j, j < dn' x → newRho t ρ k (tgt ns (ent ns x j).id) ≠ 0)
    (hroot : newRho t ρ k r = 1) : Sim ns r ls (push ns k p s) t' (newRho t ρ k) dn' := by
  have hidl := (fold_inv h.fold).idl
  have hn := nextLine hpre
  have hle : ∀ x, ρ x ≠ 0 → ρ x ≤ t.ns.length := fun x hx => (h.lt x hx).2
  refine ⟨hpre, ?_, fun x => ?_, fun _ => hroot, fun x hx => ?_, fun x x' hx e => ?_, fun j hj => ?_, fun x hx => ?_, hnode, hdone⟩
  · rw [push_len, foldS, h.fold]; exact hstep
  · by_cases e : x = k
    · subst e
      refine ⟨fun h0 => absurd h0 (newRho_at t x), fun h0 => ?_⟩
      by_cases hx : s.fst x = ⟨#[]⟩
      · rw [push_fst_new hx] at h0; exact absurd h0 hp.pos
      · rw [push_fst_old hx] at h0; exact absurd h0 hx
    · rw [push_fst_other e, ← h.vis x]
      unfold newRho updN
      by_cases h0 : ρ k = 0
      · rw [if_pos h0, if_neg e]
      · rw [if_neg h0]
  · rcases newRho_or t hx with h1 | ⟨rfl, h1, h2⟩
    · rw [newRho_old t h1, hlen]
      have := h.lt x h1
      split <;> omega
    · rw [h2, hlen, if_pos h1]; exact ⟨hk, Nat.le_refl _⟩
  · have hx' : newRho t ρ k x' ≠ 0 := e ▸ hx
    rcases newRho_or t hx with h1 | ⟨rfl, h1, h2⟩
    · rcases newRho_or t hx' with g1 | ⟨rfl, g1, g2⟩
      · rw [newRho_old t h1, newRho_old t g1] at e; exact h.inj x x' h1 e
      · rw [newRho_old t h1, g2] at e; have := hle x h1; omega
    · rcases newRho_or t hx' with g1 | ⟨rfl, g1, g2⟩
      · rw [newRho_old t g1, h2] at e; have := hle x' g1; omega
      · rfl
  · rw [hlen] at hj
    by_cases hj2 : j < t.ns.length
    · obtain ⟨x, hx⟩ := h.sur j hj2
      exact ⟨x, by rw [newRho_old t (by omega)]; exact hx⟩
    · by_cases h0 : ρ k = 0
      · rw [if_pos h0] at hj
        refine ⟨k, ?_⟩
        unfold newRho updN
        rw [if_pos h0, if_pos rfl]
        omega
      · rw [if_neg h0] at hj; omega
  · rcases newRho_or t hx with h1 | ⟨rfl, h1, h2⟩
    · have hf : ¬ s.fst x = ⟨#[]⟩ := fun e => h1 ((h.vis x).2 e)
      obtain ⟨g1, i, g2, g3, g4⟩ := h.path x h1
      rw [push_fst_old hf, newRho_old t h1, push_len, hids]
      exact ⟨g1, i, by omega, g3, by rw [getD_snoc (by omega)]; exact g4⟩
    · have hf : s.fst x = ⟨#[]⟩ := (h.vis x).1 h1
      rw [push_fst_new hf, push_len, hids]
      refine ⟨⟨l, hp, hs⟩, s.out.length, Nat.lt_succ_self _, by rw [hn.line, (lineOf_path _ _ _).1], ?_⟩
      rw [← hidl, getD_last]
theorem Sim.newNs (h : Sim ns r ls s t ρ dn) {k : Nat} {p : ByteArray} (hn : NextLine ns ls s k p) : (ρ k = 0 → Proofs.Ytjpdcppdoonmdaa.newNs ls t s.out.length = t.ns ++ [lineNode (ln ls s.out.length) t.ns.length] ∧ lineNode (ln ls s.out.length) t.ns.length = newNode ns (newRho t ρ k) k 0) ∧ (¬ ρ k = 0 → Proofs.Ytjpdcppdoonmdaa.newNs ls t s.out.length = t.ns) := by
  have hpe : (ln ls s.out.length).peer = s.fst k := by rw [hn.line, lineOf_peer]
  refine ⟨fun hk => ⟨(newNs_at (by rw [hpe]; exact (h.vis k).1 hk)).1, ?_⟩, fun hk => (newNs_no (by rw [hpe]; exact fun e => hk ((h.vis k).2 e))).1⟩
  rw [hn.line, line_new _ _ ((h.vis k).1 hk)]
  unfold lineNode newNode newRho updN
  rw [if_pos hk]
  simp
theorem Sim.root0 (h : Sim ns r ls s t ρ dn) (h0 : s.out.length = 0) : t = PS0 ∧ ∀ x, ρ x = 0 := by
  have h1 := h.fold
  rw [h0] at h1
  refine ⟨by cases h1; rfl, fun x => ?_⟩
  apply Classical.byContradiction
  intro hx
  obtain ⟨_, i, hi, _⟩ := h.path x hx
  omega
theorem Sim.pushR (h : Sim ns r ls s t ρ dn) (hg : GoodLines ls) {p : ByteArray} {l : List ByteArray} (hk : r < ns.length) (hp : IsPath l p) (hs : Steps ns r l r) (hpre : ∃ tail, ls = (push ns r p s).out ++ tail) (h0 : s.out.length = 0) :
    ∃ t', Sim ns r ls (push ns r p s) t' (newRho t ρ r) (newDn ρ dn r) := by
  have hn := nextLine hpre
  obtain ⟨rfl, hz⟩ := h.root0 h0
  have hid := h.newId hg hn
  have hns := (h.newNs hn).1 (hz r)
  have hrho : newRho PS0 ρ r r = 1 := by unfold newRho updN; rw [if_pos (hz r), if_pos rfl]; rfl
  refine ⟨_, h.next hk hp hs hpre (stepP_first (h.fresh hg hn) (by rw [hid, hrho]; decide) h0) (by rw [← hid]) ?_ (fun x hx => ?_) (fun x hx => ?_) hrho⟩
  · show (Proofs.Ytjpdcppdoonmdaa.newNs ls PS0 s.out.length).length = _
    rw [hns.1, if_pos (hz r)]; rfl
  · rcases newRho_or PS0 hx with h1 | ⟨rfl, _, _⟩
    · exact absurd (hz x) h1
    · rw [hrho, newDn_new (hz x)]
      show nd (Proofs.Ytjpdcppdoonmdaa.newNs ls PS0 s.out.length) 0 = _
      rw [hns.1, ← hns.2]; rfl
  · rcases newRho_or PS0 hx with h1 | ⟨rfl, _, _⟩
    · exact absurd (hz x) h1
    · rw [newDn_new (hz x)]; exact ⟨Nat.zero_le _, fun j hj => absurd hj (Nat.not_lt_zero j)⟩
theorem Child.names {q k : Nat} {p : ByteArray} (c : Child ns r s ρ dn q k p) (h : Sim ns r ls s t ρ dn) (hg : GoodLines ls) (hn : NextLine ns ls s k p) : parP ls t s.out.length = ρ q ∧ nameOf (ln ls s.out.length).path = (ent ns q (dn q)).name := by
  have hpa : (ln ls s.out.length).path = p := by rw [hn.line, (lineOf_path _ _ _).1]
  rcases c.path with ⟨rfl, _, h2⟩ | ⟨_, h2⟩
  · have hc := cut_name c.good
    have hne : s.out.length ≠ 0 := by obtain ⟨_, i, hi, _⟩ := h.path q c.vis; omega
    rw [hpa, h2]
    refine ⟨?_, ?_⟩
    · unfold parP; rw [hpa, h2, hc, if_neg (by decide), h.root hne]
    · unfold nameOf; rw [hc, if_neg (by decide)]
  · obtain ⟨h3, h4, h5⟩ := cut_path (p := s.fst q) c.good
    rw [hpa, h2]
    refine ⟨?_, h5⟩
    unfold parP
    rw [hpa, h2, h3, if_pos (Int.natCast_nonneg _), h4]
    exact h.idOf hg c.vis
theorem Sim.pushC (h : Sim ns r ls s t ρ dn) (hg : GoodLines ls) {k q : Nat} {p : ByteArray} {l : List ByteArray} (hk : k < ns.length) (hp : IsPath l p) (hs : Steps ns r l k) (hpre : ∃ tail, ls = (push ns k p s).out ++ tail)
    (c : Child ns r s ρ dn q k p) : ∃ t', Sim ns r ls (push ns k p s) t' (newRho t ρ k) (fun x => if x = q then dn q + 1 else newDn ρ dn k x) := by
  have hn := nextLine hpre
  have hid := h.newId hg hn
  obtain ⟨hpar, hname⟩ := c.names h hg hn
  have hne : s.out.length ≠ 0 := by obtain ⟨_, i, hi, _⟩ := h.path q c.vis; omega
  have hq := h.lt q c.vis
  have hq0 := c.vis
  have hqr : newRho t ρ k q = ρ q := newRho_old t c.vis
  have hnsl := newNs_ge (ls := ls) (s := t) (i := s.out.length)
  have hqn : ρ q - 1 < (Proofs.Ytjpdcppdoonmdaa.newNs ls t s.out.length).length := by omega
  have hnold : ∀ j, j < t.ns.length → nd (Proofs.Ytjpdcppdoonmdaa.newNs ls t s.out.length) j = nd t.ns j := fun j hj => by
    by_cases h0 : ρ k = 0
    · rw [((h.newNs hn).1 h0).1, nd_snoc hj]
    · rw [(h.newNs hn).2 h0]
  refine ⟨_, h.next hk hp hs hpre (stepP_more (h.fresh hg hn) (by rw [hid]; exact newRho_at t k) hne (by rw [hpar]; exact c.vis)) (by rw [← hid]) ?_ (fun x hx => ?_) (fun x hx => ?_) (by
      have := h.root hne
      rw [newRho_old t (by omega)]; exact this)⟩
  · show (addEnt _ _ _).length = _
    rw [addEnt_len]
    by_cases h0 : ρ k = 0
    · rw [((h.newNs hn).1 h0).1, if_pos h0, List.length_append]; rfl
    · rw [(h.newNs hn).2 h0, if_neg h0]
  · show nd (addEnt (Proofs.Ytjpdcppdoonmdaa.newNs ls t s.out.length) (parP ls t s.out.length - 1) _) _ = _
    rw [hpar, nd_addEnt hqn]
    by_cases e : x = q
    · subst e
      rw [hqr, if_pos rfl, if_pos rfl, hnold _ (by omega), h.node x c.vis, ← newNode_old h (k := k) c.vis, hname, hid]
      unfold newNode
      simp only
      have e1 : (nd ns x).ents.take (dn x + 1) = (nd ns x).ents.take (dn x) ++ [ent ns x (dn x)] := by
        rw [List.take_add_one]
        congr 1
        unfold ent en
        rw [List.getD_eq_getElem?_getD, List.getElem?_eq_getElem c.lt]; rfl
      rw [e1, List.map_append]
      simp only [List.map_cons, List.map_nil, c.tgt]
    · rw [if_neg e]
      rcases newRho_or t hx with h1 | ⟨rfl, h1, h2⟩
      · rw [newRho_old t h1, newDn_old h1]
        have hlx := h.lt x h1
        rw [if_neg (fun e2 => e (h.inj x q h1 (by omega))), hnold _ (by omega), h.node x h1, newNode_old h h1]
      · rw [h2, newDn_new h1, if_neg (by omega), Nat.add_sub_cancel, ((h.newNs hn).1 h1).1, nd_last, ((h.newNs hn).1 h1).2]
  · by_cases e : x = q
    · subst e
      simp only [if_true]
      refine ⟨by have := c.lt; omega, fun j hj => ?_⟩
      rcases Nat.lt_succ_iff_lt_or_eq.1 hj with e | e
      · have := (h.done x c.vis).2 j e
        rw [newRho_old t this]; exact this
      · rw [e, c.tgt]; exact newRho_at t k
    · simp only [e, if_false]
      rcases newRho_or t hx with h1 | ⟨rfl, h1, h2⟩
      · rw [newDn_old h1]
        refine ⟨(h.done x h1).1, fun j hj => ?_⟩
        have := (h.done x h1).2 j hj
        rw [newRho_old t this]; exact this
      · rw [newDn_new h1]; exact ⟨Nat.zero_le _, fun j hj => absurd hj (Nat.not_lt_zero j)⟩
end sim
end Go.Proofs.Ytjpdcppdoonmdaa
end
/- part GSo. PROVED HERE: the lines of a tree, planted, are a well-formed graph whose tree is the same lines. CONDITIONS: none. -/
section
namespace Go.Proofs.Ytjpdcppdoonmdaa
open Go.RowKit Go.Maps
theorem foldE_pre {α : Type} {g : α → TS → Option TS} (hg : ∀ e s s', g e s = some s' → ∃ new, s'.out = s.out ++ new) : ∀ {l : List α} {s s' : TS}, foldE g l s = some s' → ∃ new, s'.out = s.out ++ new
  | [], s, s', h => by cases h; exact ⟨[], (List.append_nil _).symm⟩
  | e :: r, s, s', h => by
    rw [foldE] at h
    cases h1 : g e s with
    | none => rw [h1] at h; cases h
    | some a =>
      rw [h1] at h
      obtain ⟨n1, e1⟩ := hg e s a h1
      obtain ⟨n2, e2⟩ := foldE_pre hg h
      exact ⟨n1 ++ n2, by rw [e2, e1, List.append_assoc]⟩
theorem addF_pre {ns : List NodeM} : ∀ (f k : Nat) (p : ByteArray) (s s' : TS), addF ns f k p s = some s' → ∃ new, s'.out = s.out ++ new
  | 0, _, _, _, _, h => by cases h
  | f + 1, k, p, s, s', h => by
    rw [addF] at h
    split at h
    · cases h
    · obtain ⟨new, e⟩ := foldE_pre (fun e a b hab => addF_pre f _ _ a b hab) h
      rw [push_out] at e
      exact ⟨[lineOf (nd ns k) p (s.fst k)] ++ new, by rw [e, List.append_assoc]⟩
theorem pre_of {ls a b : List LineM} (h : ∃ tail, ls = b ++ tail) (g : ∃ new, b = a ++ new) : ∃ tail, ls = a ++ tail := by
  obtain ⟨t, rfl⟩ := h
  obtain ⟨n, rfl⟩ := g
  exact ⟨n ++ t, by rw [List.append_assoc]⟩
/-- what a visit leaves of the numbers -/
structure Ext (ns : List NodeM) (s s' : TS) (ρ dn ρ' dn' : Nat → Nat) (q : Option Nat) : Prop where
  old : ∀ x, ρ x ≠ 0 → ρ' x = ρ x
  fst : ∀ x, ρ x ≠ 0 → s'.fst x = s.fst x
  dn_old : ∀ x, ρ x ≠ 0 → dn' x = if q = some x then dn x + 1 else dn x
  dn_new : ∀ x, ρ x = 0 → ρ' x ≠ 0 → dn' x = (nd ns x).ents.length
/-- .. while the entries of k are gone through -/
structure Midst (ns : List NodeM) (s a : TS) (ρ dn ρ' dn' : Nat → Nat) (k j : Nat) : Prop where
  old : ∀ x, ρ x ≠ 0 → ρ' x = ρ x
  fst : ∀ x, ρ x ≠ 0 → a.fst x = s.fst x
  dn_old : ∀ x, ρ x ≠ 0 → x ≠ k → dn' x = dn x
  dn_new : ∀ x, ρ x = 0 → ρ' x ≠ 0 → dn' x = (nd ns x).ents.length
  at_ : dn' k = j
section
variable {ns : List NodeM} {r : Nat} {ls : List LineM}
theorem Sim.dir_new {s : TS} {t : PS} {ρ dn : Nat → Nat} (h : Sim ns r ls s t ρ dn) (hok : GraphOk ns) (hg : GoodLines ls) {k : Nat} {p : ByteArray} {l : List ByteArray} (hp : IsPath l p) (hs : Steps ns r l k) (hn : NextLine ns ls s k p) (hk : (nd ns k).kind = 2) : ρ k = 0 := by
  apply Classical.byContradiction
  intro hx
  obtain ⟨⟨l', h1, h2⟩, i, h3, h4, _⟩ := h.path k hx
  have e := h2.uniq hok hs hk
  subst e
  have e2 := h1.det hp
  refine hg.nodup i _ h3 hn.lt ?_
  rw [h4, e2, hn.line, (lineOf_path _ _ _).1]
def ParOf (ns : List NodeM) (r : Nat) (s : TS) (ρ dn : Nat → Nat) (k : Nat) (p : ByteArray) : Option Nat → Prop
  | none => s.out.length = 0 ∧ k = r
  | some q => Child ns r s ρ dn q k p
theorem addF_sim (hok : GraphOk ns) (hg : GoodLines ls) : ∀ (f k : Nat) (p : ByteArray) (l : List ByteArray) (s s' : TS) (t : PS) (ρ dn : Nat → Nat) (q : Option Nat), addF ns f k p s = some s' → (∃ tail, ls = s'.out ++ tail) → Sim ns r ls s t ρ dn → k < ns.length → IsPath l p → Steps ns r l k →
    (s.out.length = 0 ↔ l = []) → ParOf ns r s ρ dn k p q → ∃ t' ρ' dn', Sim ns r ls s' t' ρ' dn' ∧ Ext ns s s' ρ dn ρ' dn' q ∧ ρ' k ≠ 0
  | 0, _, _, _, _, _, _, _, _, _, h, _, _, _, _, _, _, _ => by cases h
  | f + 1, k, p, l, s, s', t, ρ, dn, q, h, hpre, hS, hk, hp, hst, htop, hpar => by
    rw [addF] at h
    split at h
    · cases h
    have hpre1 : ∃ tail, ls = (push ns k p s).out ++ tail := pre_of hpre (foldE_pre (fun e a b hab => addF_pre f _ _ a b hab) h)
    have hn := nextLine hpre1
    -- the node itself
    obtain ⟨t1, dn1, hS1, hd1, hd2⟩ : ∃ t1 dn1, Sim ns r ls (push ns k p s) t1 (newRho t ρ k) dn1 ∧ (∀ x, ρ x ≠ 0 → dn1 x = if q = some x then dn x + 1 else dn x) ∧ (ρ k = 0 → dn1 k = 0) := by
      cases q with
      | none =>
        obtain ⟨h0, rfl⟩ := hpar
        obtain ⟨t1, h1⟩ := hS.pushR hg hk hp hst hpre1 h0
        exact ⟨t1, _, h1, fun x hx => absurd ((hS.root0 h0).2 x) hx, fun hz => newDn_new hz⟩
      | some q =>
        have c : Child ns r s ρ dn q k p := hpar
        obtain ⟨t1, h1⟩ := hS.pushC hg hk hp hst hpre1 c
        refine ⟨t1, _, h1, fun x hx => ?_, fun hz => ?_⟩
        · by_cases e : x = q
          · subst e; simp
          · have : ¬ q = x := fun e2 => e e2.symm
            simp [e, this, newDn_old hx]
        · have : ¬ k = q := fun e => c.vis (e ▸ hz)
          simp [this, newDn_new hz]
    have hk1 : newRho t ρ k k ≠ 0 := newRho_at t k
    have hf1 : ∀ x, ρ x ≠ 0 → (push ns k p s).fst x = s.fst x := fun x hx => push_fst_old (fun e => hx ((hS.vis x).2 e))
    rcases Nat.eq_zero_or_pos (nd ns k).ents.length with hz | hz
    · -- nothing below
      have he : (nd ns k).ents = [] := List.eq_nil_of_length_eq_zero hz
      rw [he] at h
      cases h
      refine ⟨t1, _, dn1, hS1, ⟨fun x hx => newRho_old t hx, hf1, hd1, fun x hx hx' => ?_⟩, hk1⟩
      rcases newRho_or t hx' with h1 | ⟨rfl, h1, _⟩
      · exact absurd hx h1
      · rw [hd2 h1, hz]
    · have hdir := hok.dir_of hk hz
      have hk0 := hS.dir_new hok hg hp hst hn hdir
      have hfk : (push ns k p s).fst k = p := push_fst_new ((hS.vis k).1 hk0)
      have key : ∀ n j, n + j = (nd ns k).ents.length → ∀ a ta ρa dna, Sim ns r ls a ta ρa dna → Midst ns (push ns k p s) a (newRho t ρ k) dn1 ρa dna k j → foldE (fun e s' => addF ns f (tgt ns e.id) (below s.out.length p e.name) s') ((nd ns k).ents.drop j) a = some s' →
          ∃ t' ρ' dn', Sim ns r ls s' t' ρ' dn' ∧ Midst ns (push ns k p s) s' (newRho t ρ k) dn1 ρ' dn' k (nd ns k).ents.length := by
        intro n
        induction n with
        | zero =>
          intro j hj a ta ρa dna ha hm hf
          rw [foldE_end (by omega)] at hf
          cases hf
          rw [Nat.zero_add] at hj
          exact ⟨ta, ρa, dna, ha, hj ▸ hm⟩
        | succ n ih =>
          intro j hj a ta ρa dna ha hm hf
          have hjl : j < (nd ns k).ents.length := by omega
          rw [foldE_drop hjl] at hf
          cases h4 : addF ns f (tgt ns (en (nd ns k).ents j).id) (below s.out.length p (en (nd ns k).ents j).name) a with
          | none => rw [h4] at hf; cases hf
          | some b =>
            rw [h4] at hf
            have hgn : GoodName (en (nd ns k).ents j).name := (hok.ents k hk j hjl).good
            have hbp := hp.below htop hgn
            have hka : ρa k ≠ 0 := by rw [hm.old k hk1]; exact hk1
            have hak : a.fst k = p := by rw [hm.fst k hk1, hfk]
            have hane : a.out.length ≠ 0 := by obtain ⟨_, i, hi, _⟩ := ha.path k hka; omega
            have hc : Child ns r a ρa dna k (tgt ns (en (nd ns k).ents j).id) (below s.out.length p (en (nd ns k).ents j).name) := by
              refine ⟨hka, by rw [hm.at_]; exact hjl, by rw [hm.at_]; rfl, ?_, by rw [hm.at_]; exact hgn⟩
              rw [hm.at_, hak]
              by_cases h0 : s.out.length = 0
              · have hl0 := htop.1 h0
                subst hl0
                left
                refine ⟨?_, ?_, if_pos h0⟩
                · cases q with
                  | none => exact hpar.2
                  | some q =>
                    have c : Child ns r s ρ dn q k p := hpar
                    obtain ⟨_, i, hi, _⟩ := hS.path q c.vis
                    omega
                · rcases hp with ⟨_, h⟩ | h
                  · exact h
                  · exact absurd rfl h.ne
              · right
                refine ⟨?_, if_neg h0⟩
                rcases hp with ⟨h, _⟩ | h
                · exact absurd (htop.2 h) h0
                · exact ⟨l, h⟩
            have hpb : ∃ tail, ls = b.out ++ tail := pre_of hpre (foldE_pre (fun e a b hab => addF_pre f _ _ a b hab) hf)
            obtain ⟨tb, ρb, dnb, hb, hx, _⟩ := addF_sim hok hg f _ _ (l ++ [(en (nd ns k).ents j).name]) a b ta ρa dna (some k) h4 hpb ha (atI_lt (hok.ents k hk j hjl).at_).1 (.inr hbp) (hst.snoc hk hjl) ⟨fun e => absurd e hane, fun e => absurd e (by simp)⟩ hc
            refine ih (j + 1) (by omega) b tb ρb dnb hb ⟨fun x h1 => ?_, fun x h1 => ?_, fun x h1 h2 => ?_, fun x h1 h2 => ?_, ?_⟩ hf
            · have := hm.old x h1
              rw [hx.old x (by rw [this]; exact h1), this]
            · have := hm.old x h1
              rw [hx.fst x (by rw [this]; exact h1), hm.fst x h1]
            · have := hm.old x h1
              have h3 : ¬ (some k : Option Nat) = some x := fun e => h2 (by cases e; rfl)
              rw [hx.dn_old x (by rw [this]; exact h1), if_neg h3, hm.dn_old x h1 h2]
            · by_cases h3 : ρa x = 0
              · exact hx.dn_new x h3 h2
              · have h5 : ¬ (some k : Option Nat) = some x := fun e => by cases e; exact hk1 h1
                rw [hx.dn_old x h3, if_neg h5]
                exact hm.dn_new x h1 h3
            · rw [hx.dn_old k hka, if_pos rfl, hm.at_]
      obtain ⟨t', ρ', dn', g1, g2⟩ := key _ 0 rfl (push ns k p s) t1 (newRho t ρ k) dn1 hS1 ⟨fun _ _ => rfl, fun _ _ => rfl, fun _ _ _ => rfl, fun x h1 h2 => absurd h1 h2, hd2 hk0⟩ (by rw [List.drop_zero]; exact h)
      refine ⟨t', ρ', dn', g1, ⟨fun x hx => ?_, fun x hx => ?_, fun x hx => ?_, fun x hx hx' => ?_⟩, by rw [g2.old k hk1]; exact hk1⟩
      · have := newRho_old t (k := k) hx
        rw [g2.old x (by rw [this]; exact hx), this]
      · have := newRho_old t (k := k) hx
        rw [g2.fst x (by rw [this]; exact hx), hf1 x hx]
      · have := newRho_old t (k := k) hx
        rw [g2.dn_old x (by rw [this]; exact hx) (fun e => hx (e ▸ hk0)), hd1 x hx]
      · by_cases h1 : newRho t ρ k x = 0
        · exact g2.dn_new x h1 hx'
        · rcases newRho_or t h1 with h2 | ⟨rfl, _, _⟩
          · exact absurd hx h2
          · exact g2.at_
end
end Go.Proofs.Ytjpdcppdoonmdaa
end
/- part Vq. PROVED HERE: the logic's rules for a slice of one's own that is cut at its head and grown at its end. CONDITIONS: none. No statement of the seat is proved here. -/
section
namespace Go.Proofs.Ytjpdcppdoonmdaa
open Go.RowKit
/-- the slice A, n, cap holds the cells xs, somewhere in a block of the code's own -/
def TailA (e : TypeId) (size : Nat) (A : Option Addr) (n cap : Nat) (xs : List Value) : Asn where
  h F w := xs.length = n * size ∧ ∃ g off cur, A = some ⟨g, off, none⟩ ∧ w.heap[g]? = some (.cells cur e (0, 0)) ∧ n ≤ cap ∧ cap ≤ maxLen ∧ off + cap * size ≤ cur.size ∧ (∀ (j : Nat) u, xs[j]? = some u → cur[off + j]? = some u) ∧ ∀ k, F k ↔ k = g
  lt := by
    rintro F w ⟨_, g, off, cur, _, h1, _, _, _, _, h2⟩ k hk
    rw [(h2 k).1 hk]
    exact lt_of_some h1
  st := by
    rintro F w ⟨h0, g, off, cur, h3, h1, h4, h5, h6, h7, h2⟩ S w' hk hn
    exact ⟨h0, g, off, cur, h3, (hk.block g (lt_of_some h1) (hn g ((h2 g).2 rfl))).trans h1, h4, h5, h6, h7, h2⟩
section tails
variable {e : TypeId} {size n m cap : Nat} {A : Option Addr} {xs news : List Value} {w : World}
theorem step_toTail {b : Nat} {cs : List Value} (hl : cs.length = n * size) (hm : n ≤ maxLen) : ∀ F, (HP.blk b cs e).h F w → ∃ F', (HP.abs (TailA e size (some ⟨b, 0, none⟩) n n cs)).h F' w ∧ Step F w F' w := by
  rintro F ⟨h1, h2⟩
  refine ⟨F, ⟨hl, b, 0, ⟨cs⟩, rfl, h1, Nat.le_refl _, hm, by simp [hl], fun j u hj => by simpa using hj, h2⟩, Step.refl F w⟩
theorem Sat.toTail {β : Bs} {hps : List HP} {b i : Nat} {cs : List Value} (size n : Nat) (hp : hps[i]? = some (.blk b cs e)) (hl : cs.length = n * size) (hm : n ≤ maxLen) (h : Sat β hps w) : Sat β (hps.set i (.abs (TailA e size (some ⟨b, 0, none⟩) n n cs))) w :=
  h.set hp (step_toTail hl hm)
theorem TailA.len {F : Fp} (h : (HP.abs (TailA e size A n cap xs)).h F w) : xs.length = n * size ∧ n ≤ cap ∧ A = some ⟨blkOf A, offOf A, none⟩ := by
  obtain ⟨h0, g, off, cur, rfl, _, h4, _⟩ := h
  exact ⟨h0, h4, rfl⟩
theorem TailA.cellAt {i j : Nat} {u : Value} (hj : xs[i * size + j]? = some u) : ∀ F w, (TailA e size A n cap xs).h F w → w.cell? ⟨blkOf A, offOf A + i * size + j, none⟩ = some u := by
  rintro F w ⟨_, g, off, cur, rfl, h1, _, _, _, h6, _⟩
  have := h6 _ _ hj
  show w.cell? ⟨g, off + i * size + j, none⟩ = _
  unfold World.cell?
  rw [h1]
  rw [Nat.add_assoc]
  simpa using this
theorem setCells_heap {b : Nat} {fz : Nat × Nat} : ∀ (vs : List Value) (o : Nat) (w : World) (cur : Array Value), w.heap[b]? = some (.cells cur e fz) → o + vs.length ≤ cur.size →
    ∃ cur', (w.setCells b o vs).heap[b]? = some (.cells cur' e fz) ∧ cur'.size = cur.size ∧ (∀ i, i < o → cur'[i]? = cur[i]?) ∧ (∀ (j : Nat) u, vs[j]? = some u → cur'[o + j]? = some u) ∧ Keeps (· = b) w (w.setCells b o vs)
  | [], o, w, cur, h, _ => ⟨cur, h, rfl, fun _ _ => rfl, fun j u hj => by simp at hj, Keeps.refl _ _⟩
  | v :: r, o, w, cur, h, hl => by
    have h1 : (w.setCell ⟨b, o, none⟩ v).heap[b]? = some (.cells (cur.setIfInBounds o v) e fz) := by
      simp [World.setCell, Array.getElem?_modify, h]
    simp only [List.length_cons] at hl
    obtain ⟨cur', h2, h3, h4, h5, h6⟩ := setCells_heap r (o + 1) _ _ h1 (by simp; omega)
    refine ⟨cur', h2, by rw [h3]; simp, fun i hi => ?_, fun j u hj => ?_, ?_⟩
    · rw [h4 i (by omega), Array.getElem?_setIfInBounds_ne (by omega)]
    · cases j with
      | zero =>
        simp at hj
        subst hj
        rw [Nat.add_zero, h4 o (by omega), Array.getElem?_setIfInBounds_self_of_lt (by omega)]
      | succ j =>
        have := h5 j u (by simpa using hj)
        rw [show o + (j + 1) = o + 1 + j by omega]
        exact this
    · have h7 : Keeps (· = b) w (w.setCell ⟨b, o, none⟩ v) := (Keeps.refl (· = b) w).setCell (.inr (rfl : (fun k => k = b) (⟨b, o, none⟩ : Addr).block)) v
      exact h7.trans h6
end tails
theorem src_blk1 {β : Bs} {hps : List HP} {b j : Nat} {news : List Value} {T : TypeId} (hp : hps[j]? = some (.blk b news T)) : ∀ w, Sat β hps w → ∀ (i : Nat) u, news[i]? = some u → w.cell? ((⟨b, 0, none⟩ : Addr).add i) = some u := by
  intro w hS i u hi
  rcases src_blk hp w hS with ⟨h, _⟩ | ⟨ad, e, h⟩
  · cases h
  · cases e; exact h i u hi
section rules
variable {P : Program} {β : Bs} {N : Nat} {ops : Array Oper} {k : Nat} {fr : Fr} {hps : List HP} {Q : Post} {d : Option Tmp}
theorem TriL.tailSlice (i : Nat) {t e : TypeId} {size m n cap : Nat} {A : Option Addr} {xs : List Value} {x lo : Operand} (hop : ∀ junk, opAt N junk ops fr k = some (.slice t x (some lo) none none, d)) (hp : hps[i]? = some (.abs (TailA e size A n cap xs)))
    (hx : ∀ junk, evF N fr junk x = .slice A n cap) (hlo : ∀ junk, evF N fr junk lo = .int .i64 ((m : Nat) : Int)) (ht : P.underlying t = some (.slice e)) (hinf : (P.info? e).map (·.size) = some size) (hm : m ≤ n)
    (K' : ∀ A', TriL P β N ops (k + 1) (putF fr d (.slice A' (n - m) (cap - m))) (hps.set i (.abs (TailA e size A' (n - m) (cap - m) (xs.drop (m * size))))) Q) : TriL P β N ops k fr hps Q := by
  obtain ⟨inf, hi, hsize⟩ : ∃ inf, P.info? e = some inf ∧ inf.size = size := by
    cases h : P.info? e with
    | none => rw [h] at hinf; cases hinf
    | some inf => rw [h] at hinf; simp at hinf; exact ⟨inf, rfl, hinf⟩
  refine TriL.runE (ι := Option Addr) (v := fun A' => .slice A' (n - m) (cap - m)) (hp' := fun A' => hps.set i (.abs (TailA e size A' (n - m) (cap - m) (xs.drop (m * size))))) hop (fun o junk w ho hS => ?_) K'
  obtain ⟨F, hF⟩ := hS.get hp
  obtain ⟨h0, g, off, cur, hA, h1, h4, h5, h6, h7, h8⟩ := hF
  subst hA
  have e1 : (underlying t).run P w = .ok (.slice e) w := run_underlying ht w
  have e2 : (sizeOf e).run P w = .ok size w := hsize ▸ runsize hi w
  have hmn : m * size ≤ n * size := Nat.mul_le_mul_right _ hm
  have hmc : m * size ≤ cap * size := Nat.mul_le_mul_right _ (Nat.le_trans hm h4)
  have hsub : ∀ a, (a - m) * size = a * size - m * size := fun a => Nat.sub_mul a m size
  by_cases hc : cap = m
  · refine ⟨some ⟨g, off, none⟩, w, .inl ?_, hS.set hp (fun F' hF' => ⟨F', ?_, Step.refl _ _⟩)⟩
    · obtain ⟨dst, op, type, pos, after, guard⟩ := o
      cases ho
      have hle : m ≤ n := hm
      simp [execOp, Instr.sliceAt, Instr.slice, Instr.sliceBounds, Instr.sliceBound, asIntOf, hx, hlo, go_sem, e1, e2, hc, hle]
    · obtain ⟨_, g', off', cur', hA', h1', h4', h5', h6', h7', h8'⟩ := hF'
      cases hA'
      refine ⟨by rw [List.length_drop, h0, hsub], g, off, cur', rfl, h1', by omega, by omega, by rw [hsub]; omega, fun j u hj => ?_, h8'⟩
      have : (xs.drop (m * size)).length = 0 := by rw [List.length_drop, h0]; have : n = m := by omega
                                                   rw [this]; omega
      have hnil := List.eq_nil_of_length_eq_zero this
      rw [hnil] at hj
      simp at hj
  · have ea : (⟨g, off, none⟩ : Addr).add (m * size) = ⟨g, off + m * size, none⟩ := by
      unfold Addr.add
      split
      · rename_i h00; rw [h00]; rfl
      · rfl
    refine ⟨some ⟨g, off + m * size, none⟩, w, .inl ?_, hS.set hp (fun F' hF' => ⟨F', ?_, Step.refl _ _⟩)⟩
    · obtain ⟨dst, op, type, pos, after, guard⟩ := o
      cases ho
      have hle : m ≤ n := hm
      simp [execOp, Instr.sliceAt, Instr.slice, Instr.sliceBounds, Instr.sliceBound, asIntOf, hx, hlo, go_sem, e1, e2, hc, hle]
    · obtain ⟨_, g', off', cur', hA', h1', h4', h5', h6', h7', h8'⟩ := hF'
      cases hA'
      refine ⟨by rw [List.length_drop, h0, hsub], g, off + m * size, cur', rfl, h1', by omega, by omega, by rw [hsub]; omega, fun j u hj => ?_, h8'⟩
      rw [List.getElem?_drop] at hj
      have := h7' _ _ hj
      rw [show off + m * size + j = off + (m * size + j) by omega]
      exact this
theorem TriL.tailAppend (i : Nat) {t e : TypeId} {z : Value} {size bytes n cap m c' : Nat} {A : Option Addr} {ad : Addr} {xs news : List Value} {s x : Operand} {ats : Array TypeId}
    (hop : ∀ junk, opAt N junk ops fr k = some (.call ⟨.builtin .append, #[s, x], ats⟩, d)) (hats : ats = #[t, t]) (hp : hps[i]? = some (.abs (TailA e size A n cap xs))) (hs : ∀ junk, evF N fr junk s = .slice A n cap) (hx : ∀ junk, evF N fr junk x = .slice (some ad) m c')
    (ht : P.underlying t = some (.slice e)) (hinf : (P.info? e).map (fun i => (i.zero, i.size, i.bytes)) = some (some z, size, bytes)) (hzs : z.cells.size = size) (hsz : 0 < size)
    (hl : news.length = m * size) (h1 : ∀ u ∈ news, u.oneCell' = true) (hsrc : ∀ w, Sat β hps w → ∀ (j : Nat) u, news[j]? = some u → w.cell? (ad.add j) = some u)
    (h63 : n + m ≤ maxLen) (hbytes : (n + m) * bytes ≤ 140737488355328)
    (K' : ∀ B cap', TriL P β N ops (k + 1) (putF fr d (.slice B (n + m) cap')) (hps.set i (.abs (TailA e size B (n + m) cap' (xs ++ news)))) Q) : TriL P β N ops k fr hps Q := by
  subst hats
  obtain ⟨inf, hi, hz, hsize, hby⟩ : ∃ inf, P.info? e = some inf ∧ inf.zero = some z ∧ inf.size = size ∧ inf.bytes = bytes := by
    cases h : P.info? e with
    | none => rw [h] at hinf; cases hinf
    | some inf => rw [h] at hinf; simp at hinf; exact ⟨inf, rfl, hinf.1, hinf.2.1, hinf.2.2⟩
  refine TriL.runE (ι := Option Addr × Nat) (v := fun p => .slice p.1 (n + m) p.2) (hp' := fun p => hps.set i (.abs (TailA e size p.1 (n + m) p.2 (xs ++ news)))) hop (fun o junk w ho hS => ?_) (fun p => K' p.1 p.2)
  obtain ⟨F, hF⟩ := hS.get hp
  have hnews := hsrc w hS
  obtain ⟨h0, g, off, cur, hA, hg, h4, h5, h6, h7, h8⟩ := hF
  subst hA
  have hrun : ∀ v' w', (Builtin.append_ #[t, t] o.type #[.slice (some ⟨g, off, none⟩) n cap, .slice (some ad) m c']).run P w = .ok v' w' → Ran P (evF N fr junk) o w v' w' := fun v' w' h => by
    obtain ⟨dst, op, type, pos, after, guard⟩ := o
    cases ho
    refine .inl ?_
    have h' : (Builtin.append_ #[t, t] type #[.slice (some ⟨g, off, none⟩) n cap, .slice (some ad) m c']).run P w = .ok v' w' := h
    simp only [execOp, resolve, invoke, builtin, hs junk, hx junk, List.map_toArray, List.map_cons, List.map_nil, Sem.run_bind, Sem.run_pure, Result.andThen_ok, h']
  have hlen : (xs ++ news).length = (n + m) * size := by rw [List.length_append, h0, hl, Nat.add_mul]
  by_cases hroom : n + m ≤ cap
  · have hcm : (n + m) * size ≤ cap * size := Nat.mul_le_mul_right _ hroom
    rw [Nat.add_mul, ← hl] at hcm
    have hcell : ∀ j, j < news.length → (w.cell? ⟨g, off + n * inf.size + j, none⟩).isSome = true := fun j hj => by
      rw [hsize]
      unfold World.cell?
      rw [hg]
      have : off + n * size + j < cur.size := by omega
      simp [this]
    have hfro : ∀ j, j < news.length → w.frozen? ⟨g, off + n * inf.size + j, none⟩ = false := fun j _ => by
      unfold World.frozen?
      rw [hg]
      simp
    have hr := run_append_room_cells (P := P) w t o.type e inf ht hi g off n cap ad m c' news (by rw [hsize]; exact hl) hnews h1 hroom hcell hfro
    rw [hsize] at hr
    obtain ⟨cur', g1, g2, g3, g4, g5⟩ := setCells_heap (e := e) (b := g) news (off + n * size) w cur hg (by omega)
    refine ⟨(some ⟨g, off, none⟩, cap), _, hrun _ _ hr, hS.set hp (fun F' hF' => ⟨F', ?_, ?_⟩)⟩
    · obtain ⟨_, g', off', cur2, hA', h1', h4', h5', h6', h7', h8'⟩ := hF'
      cases hA'
      rw [hg] at h1'
      cases h1'
      refine ⟨hlen, g, off, cur', rfl, g1, hroom, h5, by rw [g2]; exact h6, fun j u hj => ?_, h8'⟩
      by_cases hj2 : j < xs.length
      · rw [List.getElem?_append_left hj2] at hj
        rw [g3 _ (by omega)]
        exact h7 j u hj
      · rw [List.getElem?_append_right (by omega)] at hj
        have := g4 _ _ hj
        rw [h0] at this
        rw [show off + j = off + n * size + (j - n * size) by omega]
        exact this
    · obtain ⟨_, g', off', cur2, hA', _, _, _, _, _, h8'⟩ := hF'
      cases hA'
      exact ⟨g5.mono (fun k _ e => (h8' k).2 e), fun _ h => .inl h⟩
  · have holds : ∀ (j : Nat) u, xs[j]? = some u → w.cell? ((⟨g, off, none⟩ : Addr).add j) = some u := fun j u hj => by
      have ea : (⟨g, off, none⟩ : Addr).add j = ⟨g, off + j, none⟩ := by
        unfold Addr.add
        split
        · rename_i h00; rw [h00]; rfl
        · rfl
      rw [ea]
      unfold World.cell?
      rw [hg]
      simpa using h7 j u hj
    obtain ⟨v', w', hr, hown, hgr⟩ := run_append_arg_grows (P := P) w t o.type e inf z size bytes ht hi hz hsize hby hzs hsz ⟨g, off, none⟩ n cap xs h0 holds ad m c' news hl hnews (by omega) h63 hbytes
    rcases hown.2 with ⟨_, e0⟩ | ⟨g', cp, cur', rfl, hlo, hg', hle, hmx, hsz', htk⟩
    · exact absurd e0 (by omega)
    · refine ⟨(some ⟨g', 0, none⟩, cp), w', hrun _ _ hr, hS.set hp (fun F' hF' => ⟨fun k => k = g', ⟨hlen, g', 0, cur', rfl, hg', hle, hmx, Nat.le_of_eq (by rw [hsz', Nat.zero_add]), fun j u hj => ?_, fun _ => Iff.rfl⟩, ?_, fun k hk => .inr (by rw [hk]; exact hlo)⟩)⟩
      · have hj2 := len_of_some hj
        rw [← htk, List.getElem?_take] at hj
        split at hj
        · rw [Nat.zero_add]; simpa using hj
        · cases hj
      · exact (Keeps.refl F' w).grown hgr (fun _ h => by cases h)
end rules
end Go.Proofs.Ytjpdcppdoonmdaa
end
/- part ShelfK. DERIVED: THE SHELF's CONTRACTS AT THIS DUMP, IN PLAIN WORDS (tools/lay-plain.mjs out of 'TryShelfK.lean', which tools/lay-shelf.mjs wrote): THE SAME DECLARATIONS UNDER THE SAME NAMES: 'import', 'namespace', 'open', 'def', 'theorem' AND NOTHING ELSE: no command of the shelf's: FOR A HAND-IN. Each laying: the table of numbers ('.._ren') and one theorem, a field a fact of the dump's own or the kernel's comparison; each contract: ONE APPLICATION. -/
section
namespace Go.Proofs
open Go.Shelf
def Try.keysI_ren : Go.Shelf.Ren := ⟨fun | 7 => 56 | 10 => 68 | n => n, fun | 23 => 96 | 26 => 3 | 3 => 98 | 28 => 102 | 0 => 0 | 27 => 101 | 33 => 117 | 4 => 4 | n => n, fun | n => n⟩
theorem Try.keysI : Go.Proofs.SlLaysZI.n7 Try.prog Try.keysI_ren := {
  mixed := by kernel_rfl
  f7 := ⟨Try.f56.name, by decide, Try.func56.trans (congrArg some (by kernel_rfl))⟩
  f10 := ⟨Try.f68.name, by decide, Try.func68.trans (congrArg some (by kernel_rfl))⟩
  t0 := Try.underlying0
  a0 := Try.isAgg0
  z0 := Try.sizeOf0
  v0 := Try.zeroValue0
  t4 := Try.underlying4
  a4 := Try.isAgg4
  z4 := Try.sizeOf4
  v4 := Try.zeroValue4
  t23 := Try.underlying96
  a23 := Try.isAgg96
  z23 := Try.sizeOf96
  v23 := Try.zeroValue96
  t26 := Try.underlying3
  a26 := Try.isAgg3
  z26 := Try.sizeOf3
  v26 := Try.zeroValue3
  t27 := Try.underlying101
  a27 := Try.isAgg101
  z27 := Try.sizeOf101
  v27 := Try.zeroValue101
  t28 := Try.underlying102
  a28 := Try.isAgg102
  z28 := Try.sizeOf102
  v28 := Try.zeroValue102
  t33 := Try.underlying117
  a33 := Try.isAgg117
  z33 := Try.sizeOf117
  v33 := Try.zeroValue117 }
def Try.sortedI_ren : Go.Shelf.Ren := ⟨fun | 6 => 55 | 8 => 66 | 9 => 67 | 11 => 74 | 13 => 76 | 12 => 75 | 23 => 88 | 24 => 89 | 14 => 79 | 15 => 80 | 16 => 81 | 17 => 82 | 18 => 83 | 19 => 84 | 20 => 85 | 21 => 86 | 22 => 87 | 25 => 92 | 26 => 93 | 27 => 94 | 28 => 95 | 29 => 96 | 30 => 97 | 31 => 103 | n => n, fun | 26 => 3 | 28 => 102 | 24 => 60 | 0 => 0 | 3 => 3 | 37 => 112 | 48 => 132 | 50 => 134 | 4 => 4 | 40 => 125 | 39 => 124 | 45 => 78 | 5 => 5 | 9 => 9 | 51 => 135 | 55 => 139 | 57 => 147 | 58 => 148 | 33 => 117 | n => n, fun | n => n⟩
theorem Try.sortedI : Go.Proofs.SlLaysZI.n6 Try.prog Try.sortedI_ren := {
  mixed := by kernel_rfl
  f6 := ⟨Try.f55.name, by decide, Try.func55.trans (congrArg some (by kernel_rfl))⟩
  f8 := ⟨Try.f66.name, by decide, Try.func66.trans (congrArg some (by kernel_rfl))⟩
  f11 := ⟨Try.f74.name, by decide, Try.func74.trans (congrArg some (by kernel_rfl))⟩
  t0 := Try.underlying0
  a0 := Try.isAgg0
  z0 := Try.sizeOf0
  v0 := Try.zeroValue0
  t24 := Try.underlying60
  a24 := Try.isAgg60
  z24 := Try.sizeOf60
  v24 := Try.zeroValue60
  t26 := Try.underlying3
  a26 := Try.isAgg3
  z26 := Try.sizeOf3
  v26 := Try.zeroValue3
  t28 := Try.underlying102
  a28 := Try.isAgg102
  z28 := Try.sizeOf102
  v28 := Try.zeroValue102
  i26 := by kernel_rfl }
def Try.sortI_ren : Go.Shelf.Ren := ⟨fun | 5 => 67 | 8 => 76 | 7 => 75 | 19 => 88 | 20 => 89 | 10 => 79 | 11 => 80 | 12 => 81 | 13 => 82 | 14 => 83 | 15 => 84 | 16 => 85 | 17 => 86 | 18 => 87 | 30 => 92 | 31 => 93 | 32 => 94 | 33 => 95 | 34 => 96 | 35 => 97 | 40 => 103 | n => n, fun | 23 => 60 | 25 => 3 | 3 => 3 | 32 => 112 | 22 => 60 | 0 => 0 | 44 => 132 | 46 => 134 | 4 => 4 | 36 => 125 | 35 => 124 | 41 => 78 | 5 => 5 | 9 => 9 | 53 => 135 | 57 => 139 | 63 => 147 | 64 => 148 | n => n, fun | n => n⟩
theorem Try.sortI : Go.Proofs.SlLaysM.n5 Try.prog Try.sortI_ren := {
  mixed := by kernel_rfl
  f5 := ⟨Try.f67.name, by decide, Try.func67.trans (congrArg some (by kernel_rfl))⟩
  f7 := ⟨Try.f75.name, by decide, Try.func75.trans (congrArg some (by kernel_rfl))⟩
  f8 := Try.func76.trans (congrArg some (by kernel_rfl))
  f10 := ⟨Try.f79.name, by decide, Try.func79.trans (congrArg some (by kernel_rfl))⟩
  f11 := ⟨Try.f80.name, by decide, Try.func80.trans (congrArg some (by kernel_rfl))⟩
  f12 := ⟨Try.f81.name, by decide, Try.func81.trans (congrArg some (by kernel_rfl))⟩
  f13 := ⟨Try.f82.name, by decide, Try.func82.trans (congrArg some (by kernel_rfl))⟩
  f14 := ⟨Try.f83.name, by decide, Try.func83.trans (congrArg some (by kernel_rfl))⟩
  f15 := ⟨Try.f84.name, by decide, Try.func84.trans (congrArg some (by kernel_rfl))⟩
  f16 := ⟨Try.f85.name, by decide, Try.func85.trans (congrArg some (by kernel_rfl))⟩
  f17 := ⟨Try.f86.name, by decide, Try.func86.trans (congrArg some (by kernel_rfl))⟩
  f18 := ⟨Try.f87.name, by decide, Try.func87.trans (congrArg some (by kernel_rfl))⟩
  f19 := Try.func88.trans (congrArg some (by kernel_rfl))
  f20 := Try.func89.trans (congrArg some (by kernel_rfl))
  f30 := ⟨Try.f92.name, by decide, Try.func92.trans (congrArg some (by kernel_rfl))⟩
  f31 := Try.func93.trans (congrArg some (by kernel_rfl))
  f32 := Try.func94.trans (congrArg some (by kernel_rfl))
  f33 := ⟨Try.f95.name, by decide, Try.func95.trans (congrArg some (by kernel_rfl))⟩
  f34 := ⟨Try.f96.name, by decide, Try.func96.trans (congrArg some (by kernel_rfl))⟩
  f35 := ⟨Try.f97.name, by decide, Try.func97.trans (congrArg some (by kernel_rfl))⟩
  f40 := ⟨Try.f103.name, by decide, Try.func103.trans (congrArg some (by kernel_rfl))⟩
  t0 := Try.underlying0
  a0 := Try.isAgg0
  z0 := Try.sizeOf0
  v0 := Try.zeroValue0
  t3 := Try.underlying3
  a3 := Try.isAgg3
  z3 := Try.sizeOf3
  v3 := Try.zeroValue3
  t4 := Try.underlying4
  a4 := Try.isAgg4
  z4 := Try.sizeOf4
  v4 := Try.zeroValue4
  t5 := Try.underlying5
  a5 := Try.isAgg5
  z5 := Try.sizeOf5
  v5 := Try.zeroValue5
  t9 := Try.underlying9
  a9 := Try.isAgg9
  z9 := Try.sizeOf9
  v9 := Try.zeroValue9
  t22 := Try.underlying60
  a22 := Try.isAgg60
  z22 := Try.sizeOf60
  v22 := Try.zeroValue60
  t23 := Try.underlying60
  a23 := Try.isAgg60
  z23 := Try.sizeOf60
  v23 := Try.zeroValue60
  t25 := Try.underlying3
  a25 := Try.isAgg3
  z25 := Try.sizeOf3
  v25 := Try.zeroValue3
  t32 := Try.underlying112
  a32 := Try.isAgg112
  z32 := Try.sizeOf112
  v32 := Try.zeroValue112
  t35 := Try.underlying124
  a35 := Try.isAgg124
  z35 := Try.sizeOf124
  v35 := Try.zeroValue124
  t36 := Try.underlying125
  a36 := Try.isAgg125
  z36 := Try.sizeOf125
  v36 := Try.zeroValue125
  t41 := Try.underlying78
  a41 := Try.isAgg78
  z41 := Try.sizeOf78
  v41 := Try.zeroValue78
  t44 := Try.underlying132
  a44 := Try.isAgg132
  z44 := Try.sizeOf132
  v44 := Try.zeroValue132
  t46 := Try.underlying134
  a46 := Try.isAgg134
  z46 := Try.sizeOf134
  v46 := Try.zeroValue134
  t53 := Try.underlying135
  a53 := Try.isAgg135
  z53 := Try.sizeOf135
  v53 := Try.zeroValue135
  t57 := Try.underlying139
  a57 := Try.isAgg139
  z57 := Try.sizeOf139
  v57 := Try.zeroValue139
  t63 := Try.underlying147
  a63 := Try.isAgg147
  z63 := Try.sizeOf147
  v63 := Try.zeroValue147
  t64 := Try.underlying148
  a64 := Try.isAgg148
  z64 := Try.sizeOf148
  v64 := Try.zeroValue148 }
end Go.Proofs
end
/- part GKs. PROVED HERE: slices.Sorted(maps.Keys(m)) for a map of numbers, in the logic's form. CONDITIONS: none. No statement of the seat is proved here. -/
section
namespace Go.Proofs.Ytjpdcppdoonmdaa
open Go.RowKit Go.Maps Go.Sort Go.Shelf
theorem sortsI (m : Nat) : AnyZI.SortsIn Try.prog Try.sortedI_ren Fence.wide m :=
  ⟨fun blk off cap ss W hH hblk hsz => callsIn_wide.2 (AnyM.slices_Sort_int Try.sortI blk off cap ss W hH hblk hsz),
   fun p cap W => callsIn_wide.2 (AnyM.slices_Sort_int_none Try.sortI p cap W)⟩
/-- the iterator over a map's keys -/
def keysFn (bk : Nat) : Value := .func (.func 68) #[] #[.pointer (some ⟨bk, 0, none⟩)]
theorem sp_keysI {β : Bs} (mb : Option Nat) : Spec Try.prog β 56 #[.map mb] [] (fun v l => ∃ bk, v = keysFn bk ∧ l = [.blk bk [.map mb] 96]) :=
  Spec.of0new fun W _ => by
    have h : CallsIn Fence.wide 5 Try.prog 56 #[.map mb] W fun e w' => e = .returned (keysFn W.heap.size) ∧ w' = W.alloc (.cells #[.map mb] 96) := AnyZI.keys_in Try.keysI Fence.wide 5 trivial rfl mb W
    refine ((callsIn_wide (n := 5)).1 h).mono ?_
    rintro e w' ⟨rfl, rfl⟩
    refine ⟨_, _, rfl, ⟨W.heap.size, rfl, rfl⟩, (Keeps.refl _ _).alloc _, fun k => k = W.heap.size, ⟨?_, fun k => Iff.rfl⟩, fun k hk => Nat.le_of_eq hk.symm⟩
    show (W.heap.push _)[W.heap.size]? = _
    simp
/-- what a map of numbers holds, as a rising list -/
structure KeysOf (f : Lit → Option Value) (ss : List Int) : Prop where
  mem : ∀ z, z ∈ ss ↔ (f (.int .i64 z)).isSome = true
  sorted : ss.Pairwise (· < ·)
theorem intKeys_of {w : World} {b n : Nat} {K : TypeId} {f : Lit → Option Value} {D : DataW Value} (hK : Try.prog.underlying K = some (.int .i64)) (L : Keyed Try.prog K) (hown : w.ownsMap Try.prog K heldR b n D) (hf : ∀ kl, Maps.has D kl = (f kl).isSome) {ss : List Int} (hp : ss.Perm (intKeys D)) :
    KeysOf f (ss.mergeSort (fun x y => decide (x ≤ y))) := by
  obtain ⟨es, hD, hpw, _⟩ := hown.entries L
  obtain ⟨es', hD', hko⟩ := hown.keysOf
  obtain rfl : es = es' := by rw [hD] at hD'; simpa using hD'
  have hk : ∀ p ∈ es, ∃ x, p.1 = .int .i64 x := fun p hp => by
    obtain ⟨v, hv⟩ := hko p hp
    obtain ⟨x, _, h, _⟩ := keyOf_i64 hK hv
    exact ⟨x, h⟩
  have hmem : ∀ z, z ∈ intKeys D ↔ (f (.int .i64 z)).isSome = true := fun z => by
    rw [← hf, hD]
    show z ∈ es.map (fun p => Go.intOf p.1) ↔ es.any (fun p => p.1.sameKey (.int .i64 z)) = true
    rw [List.mem_map, List.any_eq_true]
    refine ⟨fun ⟨p, hp, e⟩ => ⟨p, hp, ?_⟩, fun ⟨p, hp, e⟩ => ⟨p, hp, ?_⟩⟩
    · obtain ⟨x, hx⟩ := hk p hp
      rw [hx] at e ⊢
      have e : x = z := e
      simp [Lit.sameKey, e]
    · obtain ⟨x, hx⟩ := hk p hp
      rw [hx] at e ⊢
      show x = z
      simpa [Lit.sameKey] using e
  have hnd : (intKeys D).Nodup := by
    rw [hD]
    show (es.map fun p => Go.intOf p.1).Nodup
    rw [List.nodup_iff_pairwise_ne, List.pairwise_map]
    refine hpw.imp_of_mem (fun {p q} hp hq hne e => hne ?_)
    obtain ⟨x, hx⟩ := hk p hp
    obtain ⟨y, hy⟩ := hk q hq
    rw [hx, hy] at e ⊢
    have e : x = y := e
    rw [e]
  have tr : ∀ a b c : Int, decide (a ≤ b) = true → decide (b ≤ c) = true → decide (a ≤ c) = true := fun a b c h1 h2 => by simp only [decide_eq_true_eq] at *; omega
  have to : ∀ a b : Int, (decide (a ≤ b) || decide (b ≤ a)) = true := fun a b => by simp only [Bool.or_eq_true, decide_eq_true_eq]; omega
  have hperm := (List.mergeSort_perm ss (fun x y => decide (x ≤ y))).trans hp
  refine ⟨fun z => by rw [hperm.mem_iff, hmem], ?_⟩
  have h1 := List.pairwise_mergeSort tr to ss
  have h2 : (ss.mergeSort (fun x y => decide (x ≤ y))).Nodup := hperm.nodup_iff.2 hnd
  rw [List.nodup_iff_pairwise_ne] at h2
  refine (h1.and h2).imp (fun {a b} h => ?_)
  have h3 := h.1
  have h4 := h.2
  simp only [decide_eq_true_eq] at h3
  omega
theorem sp_sortedI {β : Bs} (b bk n : Nat) (f : Lit → Option Value) (hn : n ≤ 16777216) :
    Spec Try.prog β 55 #[keysFn bk] [.abs (MapA Try.prog 3 b f n), .blk bk [.map (some b)] 96] (fun v l => ∃ A cap ss, v = .slice A ss.length cap ∧ KeysOf f ss ∧ ss.length = n ∧
      l = [.abs (MapA Try.prog 3 b f n), .blk bk [.map (some b)] 96, .abs (RowA 3 1 A ss.length cap (intsV ss))]) := by
  intro R w hS
  obtain ⟨F1, h1⟩ := hS.get (i := 0) (p := .abs (MapA Try.prog 3 b f n)) rfl
  obtain ⟨F2, h2⟩ := hS.get (i := 1) (p := .blk bk [.map (some b)] 96) rfl
  obtain ⟨D, hown, hsz, hhas, _⟩ := h1.1
  have hcell : w.cell? ⟨bk, 0, none⟩ = some (.map (some b)) := (cell_of_blk h2.1 rfl rfl rfl).1
  have hseq : SeqGives Fence.wide 2 Try.prog 68 #[.pointer (some ⟨bk, 0, none⟩)] encZ (fun ss => ss.Perm (intKeys D)) (Maps.size D) w :=
    AnyZI.keys_gives (ρ := Try.keysI_ren) { Try.keysI with } Fence.wide _ trivial rfl (by omega) bk b n D w (lt_of_some h2.1) hcell hown
  have cS := AnyZI.sorted_in Try.sortedI Fence.wide 5 trivial trivial trivial trivial rfl (by omega) (sortsI _) (enters_of Try.func67 (by kernel_rfl) rfl) 68 #[.pointer (some ⟨bk, 0, none⟩)] trivial (enters_of Try.func68 (by kernel_rfl) rfl) _ _ (by rw [hsz]; unfold maxLen; omega) (by rw [hsz]; omega) _ hseq
  change CallsIn _ _ Try.prog 55 _ _ _ at cS
  refine ((callsIn_wide (n := 5)).1 cS).mono ?_
  rintro e w' ⟨v, ss, rfl, hp, hrow, hnil, hb⟩
  have hlen : (ss.mergeSort (fun x y => decide (x ≤ y))).length = ss.length := List.length_mergeSort ss
  have hkeys := intKeys_of Try.underlying3 lawI hown hhas hp
  have hshape : ∃ A cap, v = .slice A ss.length cap := by
    rcases hrow.2 with ⟨e1, e2⟩ | ⟨g, cp, cur, e1, _⟩
    · exact ⟨none, 0, by rw [e1, e2]⟩
    · exact ⟨_, cp, e1⟩
  obtain ⟨A, cap, rfl⟩ := hshape
  have hn1 : ss.length = n := by
    rw [hp.length_eq, ← hsz]
    obtain ⟨es, hD, _⟩ := hown.entries lawI
    rw [hD]
    exact List.length_map ..
  have hq : Sat β ([.abs (MapA Try.prog 3 b f n), .blk bk [.map (some b)] 96, .abs R] ++ [.abs (RowA 3 1 A ss.length cap (intsV (ss.mergeSort (fun x y => decide (x ≤ y)))))]) w' := by
    refine Sat.new (F := fun k => (Value.slice A ss.length cap).ownBlock = some k) hS ⟨?_, fun k => Iff.rfl⟩ ⟨hb.os, hb.tape, hb.output, hb.size, fun k hk _ => hb.block k hk⟩ (fun k hk => (hrow.lt k hk).1)
    refine ⟨hrow.1, ?_⟩
    rcases hrow.2 with h | ⟨g, cp, cur, e1, _, h3, h4⟩
    · exact .inl h
    · exact .inr ⟨g, cp, cur, e1, Nat.zero_le _, h3, h4⟩
  refine ⟨_, [.abs (MapA Try.prog 3 b f n), .blk bk [.map (some b)] 96, .abs (RowA 3 1 A ss.length cap (intsV (ss.mergeSort (fun x y => decide (x ≤ y)))))], rfl, ⟨A, cap, ss.mergeSort (fun x y => decide (x ≤ y)), by rw [hlen], hkeys, by rw [hlen]; exact hn1, by rw [hlen]⟩, ?_⟩
  exact hq.pick (idx := [0, 1, 3, 2]) rfl rfl
end Go.Proofs.Ytjpdcppdoonmdaa
end
/- part GFind. PROVED HERE: graph.Find CONDITIONS: as the theorems say. Printed by a program of this repo (wip/v). -/
section
namespace Go.Proofs.Ytjpdcppdoonmdaa
open Go.RowKit
attribute [local irreducible] TriL TriLQ Tri TriQ
set_option maxRecDepth 100000 in
set_option maxHeartbeats 4000000 in
theorem sp_cmpf {β : Bs} (e : EntM) (p : ByteArray) : Spec Try.prog β 44 #[.agg #[.string e.name, .int .i64 (e.id)], .string p] [] (fun v l => v = .int .i64 (cmpB e.name p) ∧ l = []) := by
 refine Spec.enter Try.func44 rfl Try.ntmps44 (Nat.le_of_ble_eq_true rfl) (fun R => ?_)
 refine Tri.seq (Tri.region ?_)
 refine TriL.segN (k' := 2) (fr' := fun b1 => [(1, .string p), (2, .pointer (some ⟨b1, 0, none⟩))]) (hps' := fun b1 => [.abs R, .blk b1 [.string e.name, .int .i64 (e.id)] 72]) (obl := fun b1 => []) [o_, o_] [1, 2] [0, 1] (fun _ _ => by kernel_rfl) (fun b1 => trivial) (fun b1 => ?_)
 refine TriL.nil (by kernel_rfl) (TriQ.next (Tri.seq (Tri.region ?_)))
 refine TriL.segK (k' := 3) (fr' := [(6, .string e.name), (7, .string p)]) (obl := [b1 = b1]) [o_, ⟨[.at 1], none, none, none, none⟩, o_] [6, 7] (fun _ _ => by kernel_rfl) ⟨rfl, trivial⟩ ?_
 refine TriL.call (f := 45) (args := #[.string e.name, .string p]) (d := (some 8)) (pre := []) (R := [.abs R, .blk b1 [.string e.name, .int .i64 (e.id)] 72]) (pk := [0, 1]) (fun _ => by kernel_rfl) (sp_compare e.name p) rfl (by kernel_rfl) ?_
 rintro _ _ ⟨rfl, rfl⟩
 refine TriL.segK (k' := 5) (fr' := [(4, .int .i64 ((cmpB e.name p)))]) (obl := []) [o_] [4] (fun _ _ => by kernel_rfl) trivial ?_
 refine TriL.nil (by kernel_rfl) (TriQ.next (Tri.ret ?_))
 exact TriQ.ret (v := .int .i64 ((cmpB e.name p))) (l := []) (obl := []) [] [0] (fun _ => by kernel_rfl) trivial rfl (by kernel_rfl) (⟨rfl, rfl⟩)
set_option maxRecDepth 100000 in
set_option maxHeartbeats 4000000 in
theorem sp_bsearch {β : Bs} (A : Option Addr) (c : Nat) (es : List EntM) (p : ByteArray) (hE : EntsAt β A es) (hl : es.length ≤ 1048576) (hs : Sorted es) :
    Spec Try.prog β 43 #[.slice A es.length c, .string p, .func (.func 44) #[] #[]] [] (fun v l => Found es p v ∧ l = []) := by
 refine Spec.enter Try.func43 rfl Try.ntmps43 (Nat.le_of_ble_eq_true rfl) (fun R => ?_)
 refine Tri.seq (Tri.region ?_)
 refine TriL.segK (k' := 2) (fr' := [(0, .slice A (es.length) (c)), (1, .string p), (2, .func (.func 44) #[] #[])]) (obl := []) [o_, o_] [0, 1, 2] (fun _ _ => by kernel_rfl) trivial ?_
 refine TriL.nil (by kernel_rfl) (TriQ.next (Tri.seq (Tri.region ?_)))
 refine TriL.segK (k' := 3) (fr' := [(0, .slice A (es.length) (c)), (1, .string p), (2, .func (.func 44) #[] #[]), (8, .int .i64 ↑es.length)]) (obl := []) [o_, o_, o_] [0, 1, 2, 8] (fun _ _ => by kernel_rfl) trivial ?_
 refine TriL.nil (by kernel_rfl) (TriQ.next (Tri.seq (Tri.region ?_)))
 refine TriL.segK (k' := 3) (fr' := [(0, .slice A (es.length) (c)), (1, .string p), (2, .func (.func 44) #[] #[]), (8, .int .i64 ↑es.length), (9, .int .i64 0), (10, .int .i64 ↑es.length)]) (obl := []) [o_, o_, o_] [0, 1, 2, 8, 9, 10] (fun _ _ => by kernel_rfl) trivial ?_
 refine TriL.nil (by kernel_rfl) (TriQ.next (Tri.seq (Tri.block ?_)))
 refine Tri.loop (ι := Nat × Nat) (fun ((i, j) : Nat × Nat) => (i ≤ j) ∧ (j ≤ es.length) ∧ (∀ t, t < i → cmpB (en es t).name p < 0) ∧ (∀ t, j ≤ t → t < es.length → 0 ≤ cmpB (en es t).name p)) (fun ((i, j) : Nat × Nat) => j - i) (fun ((i, j) : Nat × Nat) => [(0, .slice A (es.length) (c)), (1, .string p), (2, .func (.func 44) #[] #[]), (8, .int .i64 ↑es.length), (9, .int .i64 ↑i), (10, .int .i64 ↑j)]) (fun ((i, j) : Nat × Nat) => [.abs R]) (0, es.length) (idx := [0, 1, 2, 8, 9, 10]) (pk := [0]) (show (0 ≤ es.length) ∧ (es.length ≤ es.length) ∧ (∀ t, t < 0 → cmpB (en es t).name p < 0) ∧ (∀ t, es.length ≤ t → t < es.length → 0 ≤ cmpB (en es t).name p) from ⟨Nat.zero_le _, Nat.le_refl _, fun t h => absurd h (Nat.not_lt_zero t), fun t h1 h2 => by omega⟩) (fun _ => by kernel_rfl) rfl (by kernel_rfl) ?_
 rintro ⟨i, j⟩ ⟨hij, hj, hlo, hhi⟩
 show Tri _ _ _ _ [(0, .slice A (es.length) (c)), (1, .string p), (2, .func (.func 44) #[] #[]), (8, .int .i64 ↑es.length), (9, .int .i64 ↑i), (10, .int .i64 ↑j)] [.abs R] _
 refine Tri.seq (Tri.seq (Tri.region ?_))
 refine TriL.segK (k' := 3) (fr' := [(0, .slice A (es.length) (c)), (1, .string p), (2, .func (.func 44) #[] #[]), (8, .int .i64 ↑es.length), (9, .int .i64 ↑i), (10, .int .i64 ↑j), (17, .bool (decide ((((i : Nat) : Int) : Int) < (((j : Nat) : Int) : Int))))]) (obl := []) [o_, o_, o_] [0, 1, 2, 8, 9, 10, 17] (fun _ _ => by kernel_rfl) trivial ?_
 refine TriL.nil (by kernel_rfl) (TriQ.next ?_)
 refine Tri.condP (p := (((i : Nat) : Int) : Int) < (((j : Nat) : Int) : Int)) (fun _ => by kernel_rfl) (fun h17 => ?_) (fun h17 => ?_)
 ·
  refine Tri.skip (TriQ.next (Tri.block (Tri.seq (Tri.region ?_))))
  refine TriL.segK (k' := 7) (fr' := [(0, .slice A (es.length) (c)), (1, .string p), (2, .func (.func 44) #[] #[]), (8, .int .i64 ↑es.length), (9, .int .i64 ↑i), (10, .int .i64 ↑j), (11, .int .i64 ↑((i + j) / 2))]) (obl := [(Value.int .i64 (IntKind.wrap .i64 (((i + j) / 2 : Nat) : Int))) = (.int .i64 ↑((i + j) / 2)), (Value.int .u64 (Int.fdiv ((i + j : Nat) : Int) (2 ^ 1))) = (.int .u64 ((((i + j) / 2 : Nat) : Int))), (Value.int .u64 (IntKind.wrap .u64 ((i + j : Nat) : Int))) = (.int .u64 (((i + j : Nat) : Int))), (Value.int .i64 (IntKind.wrap .i64 (((i : Nat) : Int) + ((j : Nat) : Int)))) = (.int .i64 ↑(i + j))]) [o_, o_, ⟨[], none, none, none, some (.int .i64 ↑(i + j))⟩, ⟨[], none, none, none, some (.int .u64 (((i + j : Nat) : Int)))⟩, ⟨[], none, none, none, some (.int .u64 ((((i + j) / 2 : Nat) : Int)))⟩, ⟨[], none, none, none, some (.int .i64 ↑((i + j) / 2))⟩, o_] [0, 1, 2, 8, 9, 10, 11] (fun _ _ => by kernel_rfl) ⟨wrapEq rfl (by omega) (by omega), shr1Eq, u64Eq (by omega) (by omega), wrapEq (by omega) (by omega) (by omega), trivial⟩ ?_
  refine TriL.nil (by kernel_rfl) (TriQ.next (Tri.seq (Tri.region ?_)))
  refine TriL.segK (k' := 6) (fr' := [(0, .slice A (es.length) (c)), (1, .string p), (2, .func (.func 44) #[] #[]), (8, .int .i64 ↑es.length), (9, .int .i64 ↑i), (10, .int .i64 ↑j), (11, .int .i64 ↑((i + j) / 2)), (24, .func (.func 44) #[] #[]), (28, .agg #[.string (en es ((i + j) / 2)).name, .int .i64 ((en es ((i + j) / 2)).id)]), (29, .string p)]) (obl := [(Rd β ⟨(blkOf A), offOf A + ((i + j) / 2) * 2 + 1, none⟩ (.int .i64 ((en es ((i + j) / 2)).id))), (Rd β ⟨(blkOf A), offOf A + ((i + j) / 2) * 2, none⟩ (.string (en es ((i + j) / 2)).name)), (((i + j) / 2 : Nat) : Int) = (((i + j) / 2 : Nat) : Int), (i + j) / 2 < es.length, (⟨(blkOf A), offOf A, none⟩ : Addr).spot = none, (A : Option Addr) = some ⟨(blkOf A), offOf A, none⟩]) [o_, o_, o_, ⟨[], some ((i + j) / 2), none, some ⟨(blkOf A), offOf A, none⟩, none⟩, ⟨[.old (.string (en es ((i + j) / 2)).name), .old (.int .i64 ((en es ((i + j) / 2)).id))], none, none, none, none⟩, o_] [0, 1, 2, 8, 9, 10, 11, 24, 28, 29] (fun _ _ => by kernel_rfl) ⟨EntsAt.rd hE (i := (i + j) / 2) (by omega) (j := 1) rfl, EntsAt.rd hE (i := (i + j) / 2) (by omega) (j := 0) rfl, rfl, by omega, rfl, EntsAt.hd hE (i := (i + j) / 2) (by omega), trivial⟩ ?_
  refine TriL.call (f := 44) (args := #[.agg #[.string (en es ((i + j) / 2)).name, .int .i64 ((en es ((i + j) / 2)).id)], .string p]) (d := (some 30)) (pre := []) (R := [.abs R]) (pk := [0]) (fun _ => by kernel_rfl) (sp_cmpf (en es ((i + j) / 2)) p) rfl (by kernel_rfl) ?_
  rintro _ _ ⟨rfl, rfl⟩
  refine TriL.segK (k' := 8) (fr' := [(0, .slice A (es.length) (c)), (1, .string p), (2, .func (.func 44) #[] #[]), (8, .int .i64 ↑es.length), (9, .int .i64 ↑i), (10, .int .i64 ↑j), (11, .int .i64 ↑((i + j) / 2)), (31, .bool (decide (((cmpB (en es ((i + j) / 2)).name p) : Int) < (0 : Int))))]) (obl := []) [o_] [0, 1, 2, 8, 9, 10, 11, 31] (fun _ _ => by kernel_rfl) trivial ?_
  refine TriL.nil (by kernel_rfl) (TriQ.next ?_)
  refine Tri.condP (p := ((cmpB (en es ((i + j) / 2)).name p) : Int) < (0 : Int)) (fun _ => by kernel_rfl) (fun h31 => ?_) (fun h31 => ?_)
  ·
   refine Tri.region ?_
   refine TriL.segK (k' := 3) (fr' := [(0, .slice A (es.length) (c)), (1, .string p), (2, .func (.func 44) #[] #[]), (8, .int .i64 ↑es.length), (9, .int .i64 ↑(((i + j) / 2) + 1)), (10, .int .i64 ↑j)]) (obl := [(Value.int .i64 (IntKind.wrap .i64 ((((i + j) / 2 : Nat) : Int) + 1))) = (.int .i64 ↑(((i + j) / 2) + 1))]) [o_, ⟨[], none, none, none, some (.int .i64 ↑(((i + j) / 2) + 1))⟩, o_] [0, 1, 2, 8, 9, 10] (fun _ _ => by kernel_rfl) ⟨wrapEq (by omega) (by omega) (by omega), trivial⟩ ?_
   refine TriL.nil (by kernel_rfl) (TriQ.blockNormal ?_)
   exact TriQ.turn ((((i + j) / 2) + 1), j) (idx := [0, 1, 2, 8, 9, 10]) (pk := [0]) (show (((((i + j) / 2) + 1)) ≤ j) ∧ (j ≤ es.length) ∧ (∀ t, t < ((((i + j) / 2) + 1)) → cmpB (en es t).name p < 0) ∧ (∀ t, j ≤ t → t < es.length → 0 ≤ cmpB (en es t).name p) from ⟨by omega, by omega, hs.low (by omega) h31, hhi⟩) (by show j - ((((i + j) / 2) + 1)) < j - i; omega) (fun _ => by kernel_rfl) rfl (by kernel_rfl)
  ·
   refine Tri.region ?_
   refine TriL.segK (k' := 2) (fr' := [(0, .slice A (es.length) (c)), (1, .string p), (2, .func (.func 44) #[] #[]), (8, .int .i64 ↑es.length), (9, .int .i64 ↑i), (10, .int .i64 ↑((i + j) / 2))]) (obl := []) [o_, o_] [0, 1, 2, 8, 9, 10] (fun _ _ => by kernel_rfl) trivial ?_
   refine TriL.nil (by kernel_rfl) (TriQ.blockNormal ?_)
   exact TriQ.turn (i, ((i + j) / 2)) (idx := [0, 1, 2, 8, 9, 10]) (pk := [0]) (show (i ≤ (((i + j) / 2))) ∧ ((((i + j) / 2)) ≤ es.length) ∧ (∀ t, t < i → cmpB (en es t).name p < 0) ∧ (∀ t, (((i + j) / 2)) ≤ t → t < es.length → 0 ≤ cmpB (en es t).name p) from ⟨by omega, by omega, hlo, hs.high h31⟩) (by show (((i + j) / 2)) - i < j - i; omega) (fun _ => by kernel_rfl) rfl (by kernel_rfl)
 ·
  refine Tri.exit (TriQ.passExit (TriQ.passExit (TriQ.blockHit (TriQ.next (Tri.seq (Tri.region ?_))))))
  refine TriL.segK (k' := 5) (fr' := [(0, .slice A (es.length) (c)), (1, .string p), (2, .func (.func 44) #[] #[]), (9, .int .i64 ↑i), (35, .int .i64 ↑i), (39, .bool (decide ((((i : Nat) : Int) : Int) < (((es.length : Nat) : Int) : Int))))]) (obl := []) [o_, o_, o_, o_, o_] [0, 1, 2, 9, 35, 39] (fun _ _ => by kernel_rfl) trivial ?_
  refine TriL.slotP 39 ((((i : Nat) : Int) : Int) < (((es.length : Nat) : Int) : Int)) (fun _ => by kernel_rfl) (fun h39 => ?_) (fun h39 => ?_)
  ·
   refine TriL.segK (k' := 11) (fr' := [(35, .int .i64 ↑i), (39, .bool true), (40, .func (.func 44) #[] #[]), (44, .agg #[.string (en es i).name, .int .i64 ((en es i).id)]), (45, .string p)]) (obl := [(Rd β ⟨(blkOf A), offOf A + i * 2 + 1, none⟩ (.int .i64 ((en es i).id))), (Rd β ⟨(blkOf A), offOf A + i * 2, none⟩ (.string (en es i).name)), ((i : Nat) : Int) = ((i : Nat) : Int), i < es.length, (⟨(blkOf A), offOf A, none⟩ : Addr).spot = none, (A : Option Addr) = some ⟨(blkOf A), offOf A, none⟩]) [o_, o_, o_, ⟨[], some i, none, some ⟨(blkOf A), offOf A, none⟩, none⟩, ⟨[.old (.string (en es i).name), .old (.int .i64 ((en es i).id))], none, none, none, none⟩, o_] [35, 39, 40, 44, 45] (fun _ _ => by kernel_rfl) ⟨EntsAt.rd hE (i := i) (by omega) (j := 1) rfl, EntsAt.rd hE (i := i) (by omega) (j := 0) rfl, rfl, by omega, rfl, EntsAt.hd hE (i := i) (by omega), trivial⟩ ?_
   refine TriL.call (f := 44) (args := #[.agg #[.string (en es i).name, .int .i64 ((en es i).id)], .string p]) (d := (some 46)) (pre := []) (R := [.abs R]) (pk := [0]) (fun _ => by kernel_rfl) (sp_cmpf (en es i) p) rfl (by kernel_rfl) ?_
   rintro _ _ ⟨rfl, rfl⟩
   refine TriL.segK (k' := 16) (fr' := [(6, .int .i64 ↑i), (7, .bool (decide (((cmpB (en es i).name p) : Int) = (0 : Int))))]) (obl := []) [o_, o_, o_, o_] [6, 7] (fun _ _ => by kernel_rfl) trivial ?_
   refine TriL.nil (by kernel_rfl) (TriQ.next (Tri.ret ?_))
   exact TriQ.ret (v := .tuple #[.int .i64 ↑i, .bool (decide (((cmpB (en es i).name p) : Int) = (0 : Int)))]) (l := []) (obl := []) [] [0] (fun _ => by kernel_rfl) trivial rfl (by kernel_rfl) (⟨bs_post hs (by omega) hlo (fun t h1 h2 => hhi t (by omega) h2), rfl⟩)
  ·
   refine TriL.segK (k' := 16) (fr' := [(6, .int .i64 ↑i), (7, .bool false)]) (obl := []) [o_, o_, o_, o_, o_, o_, o_, o_, o_, o_, o_] [6, 7] (fun _ _ => by kernel_rfl) trivial ?_
   refine TriL.nil (by kernel_rfl) (TriQ.next (Tri.ret ?_))
   exact TriQ.ret (v := .tuple #[.int .i64 ↑i, .bool false]) (l := []) (obl := []) [] [0] (fun _ => by kernel_rfl) trivial rfl (by kernel_rfl) (⟨bs_none hlo (by omega), rfl⟩)
set_option maxRecDepth 100000 in
set_option maxHeartbeats 4000000 in
theorem sp_find {β : Bs} (A : Option Addr) (c : Nat) (ns : List NodeM) (L : Lay) (hG : GraphAt β A ns L) (hB : GraphB ns 1048576) (root : Int) (hz : I64 root) (F : Option Addr) (cF : Nat) (ps : List ByteArray) (hP : StrsAt β F ps) (hPl : ps.length ≤ 8388608) :
    Spec Try.prog β 23 #[.agg #[.slice A ns.length c], .int .i64 root, .slice F ps.length cF] [] (fun v l => v = .tuple #[.int .i64 (findG ns root ps).1, .int .i64 (findG ns root ps).2] ∧ l = []) := by
 refine Spec.enter Try.func23 rfl Try.ntmps23 (Nat.le_of_ble_eq_true rfl) (fun R => ?_)
 refine Tri.seq (Tri.region ?_)
 refine TriL.segN (k' := 3) (fr' := fun b2 => [(1, .int .i64 (root)), (2, .slice F (ps.length) (cF)), (3, .pointer (some ⟨b2, 0, none⟩))]) (hps' := fun b2 => [.abs R, .blk b2 [.slice A (ns.length) (c)] 24]) (obl := fun b2 => []) [o_, o_, o_] [1, 2, 3] [0, 1] (fun _ _ => by kernel_rfl) (fun b2 => trivial) (fun b2 => ?_)
 refine TriL.nil (by kernel_rfl) (TriQ.next (Tri.seq (Tri.region ?_)))
 refine TriL.segK (k' := 2) (fr' := [(2, .slice F (ps.length) (cF)), (16, .agg #[.slice A (ns.length) (c)]), (17, .int .i64 (root))]) (obl := [b2 = b2]) [⟨[.at 1], none, none, none, none⟩, o_] [2, 16, 17] (fun _ _ => by kernel_rfl) ⟨rfl, trivial⟩ ?_
 refine TriL.call (f := 42) (args := #[.agg #[.slice A (ns.length) (c)], .int .i64 (root)]) (d := (some 18)) (pre := []) (R := [.abs R, .blk b2 [.slice A (ns.length) (c)] 24]) (pk := [0, 1]) (fun _ => by kernel_rfl) (sp_begin A c ns L hG hB root hz) rfl (by kernel_rfl) ?_
 rintro _ _ (⟨mb, rfl, hbg, rfl⟩ | ⟨x, y, rfl, hbg, rfl⟩)
 ·
  obtain ⟨hok, hat, hkd⟩ := beginC_zero hbg
  have htl := atI_lt hat
  refine TriL.segK (k' := 10) (fr' := [(2, .slice F (ps.length) (cF)), (8, .map (some mb)), (9, .pointer (some ⟨(blkOf A), offOf A + (tgt ns root) * 10, none⟩)), (10, .int .i64 0)]) (obl := []) [o_, o_, o_, o_, o_, o_, o_] [2, 8, 9, 10] (fun _ _ => by kernel_rfl) trivial ?_
  refine TriL.nil (by kernel_rfl) (TriQ.next (Tri.seq (Tri.seq (Tri.region ?_))))
  refine TriL.segK (k' := 2) (fr' := [(2, .slice F (ps.length) (cF)), (8, .map (some mb)), (9, .pointer (some ⟨(blkOf A), offOf A + (tgt ns root) * 10, none⟩)), (10, .int .i64 0), (23, .bool false)]) (obl := []) [o_, o_] [2, 8, 9, 10, 23] (fun _ _ => by kernel_rfl) trivial ?_
  refine TriL.nil (by kernel_rfl) (TriQ.next ?_)
  refine Tri.condF (fun _ => by kernel_rfl) ?_
  refine Tri.skip (TriQ.next (Tri.seq (Tri.seq (Tri.region ?_))))
  refine TriL.segK (k' := 3) (fr' := [(8, .map (some mb)), (9, .pointer (some ⟨(blkOf A), offOf A + (tgt ns root) * 10, none⟩)), (25, .slice F (ps.length) (cF)), (26, .int .i64 ↑ps.length), (27, .int .i64 0)]) (obl := []) [o_, o_, o_] [8, 9, 25, 26, 27] (fun _ _ => by kernel_rfl) trivial ?_
  refine TriL.nil (by kernel_rfl) (TriQ.next (Tri.block ?_))
  refine Tri.loop (ι := Nat × Nat) (fun ((k, i) : Nat × Nat) => (k < ns.length) ∧ (i ≤ ps.length) ∧ (findG ns root ps = findM ns k (ps.drop i))) (fun ((k, i) : Nat × Nat) => ps.length - i) (fun ((k, i) : Nat × Nat) => [(8, .map (some mb)), (9, .pointer (some ⟨(blkOf A), offOf A + k * 10, none⟩)), (25, .slice F (ps.length) (cF)), (26, .int .i64 ↑ps.length), (27, .int .i64 ↑i)]) (fun ((k, i) : Nat × Nat) => [.abs (MapA Try.prog 3 mb (mf (bf A ns ns.length)) ns.length), .abs R]) ((tgt ns root), 0) (idx := [8, 9, 25, 26, 27]) (pk := [0, 1]) (show (((tgt ns root)) < ns.length) ∧ (0 ≤ ps.length) ∧ (findG ns root ps = findM ns ((tgt ns root)) (ps.drop 0)) from ⟨htl.1, Nat.zero_le _, findG_ok hbg⟩) (fun _ => by kernel_rfl) rfl (by kernel_rfl) ?_
  rintro ⟨k, i⟩ ⟨hk, hi, hf⟩
  show Tri _ _ _ _ [(8, .map (some mb)), (9, .pointer (some ⟨(blkOf A), offOf A + k * 10, none⟩)), (25, .slice F (ps.length) (cF)), (26, .int .i64 ↑ps.length), (27, .int .i64 ↑i)] [.abs (MapA Try.prog 3 mb (mf (bf A ns ns.length)) ns.length), .abs R] _
  refine Tri.seq (Tri.region ?_)
  refine TriL.segK (k' := 1) (fr' := [(8, .map (some mb)), (9, .pointer (some ⟨(blkOf A), offOf A + k * 10, none⟩)), (25, .slice F (ps.length) (cF)), (26, .int .i64 ↑ps.length), (27, .int .i64 ↑i), (28, .bool (decide ((((i : Nat) : Int) : Int) < (((ps.length : Nat) : Int) : Int))))]) (obl := []) [o_] [8, 9, 25, 26, 27, 28] (fun _ _ => by kernel_rfl) trivial ?_
  refine TriL.nil (by kernel_rfl) (TriQ.next (Tri.seq ?_))
  refine Tri.condP (p := (((i : Nat) : Int) : Int) < (((ps.length : Nat) : Int) : Int)) (fun _ => by kernel_rfl) (fun h28 => ?_) (fun h28 => ?_)
  ·
   refine Tri.skip (TriQ.next (Tri.seq (Tri.block (Tri.seq (Tri.region ?_)))))
   refine TriL.segK (k' := 3) (fr' := [(8, .map (some mb)), (9, .pointer (some ⟨(blkOf A), offOf A + k * 10, none⟩)), (12, .string (sAt ps i)), (25, .slice F (ps.length) (cF)), (26, .int .i64 ↑ps.length), (27, .int .i64 ↑i)]) (obl := [(Rd β ⟨(blkOf F), offOf F + i * 1, none⟩ (.string (sAt ps i))), ((i : Nat) : Int) = ((i : Nat) : Int), i < ps.length, (⟨(blkOf F), offOf F, none⟩ : Addr).spot = none, (F : Option Addr) = some ⟨(blkOf F), offOf F, none⟩]) [⟨[], some i, none, some ⟨(blkOf F), offOf F, none⟩, none⟩, ⟨[.old (.string (sAt ps i))], none, none, none, none⟩, o_] [8, 9, 12, 25, 26, 27] (fun _ _ => by kernel_rfl) ⟨StrsAt.rd hP (by omega), rfl, by omega, rfl, StrsAt.hd hP (j := i) (by omega), trivial⟩ ?_
   refine TriL.nil (by kernel_rfl) (TriQ.next (Tri.seq (Tri.seq (Tri.region ?_))))
   refine TriL.segK (k' := 4) (fr' := [(8, .map (some mb)), (9, .pointer (some ⟨(blkOf A), offOf A + k * 10, none⟩)), (12, .string (sAt ps i)), (25, .slice F (ps.length) (cF)), (26, .int .i64 ↑ps.length), (27, .int .i64 ↑i), (34, .int .i64 ((nd ns k).kind))]) (obl := [(Rd β ⟨(blkOf A), offOf A + k * 10 + 1, none⟩ (.int .i64 ((nd ns k).kind)))]) [o_, o_, o_, ⟨[.old (.int .i64 ((nd ns k).kind))], none, none, none, none⟩] [8, 9, 12, 25, 26, 27, 34] (fun _ _ => by kernel_rfl) ⟨GraphAt.rd hG (i := k) (by omega) (j := 1) rfl, trivial⟩ ?_
   refine TriL.nil (by kernel_rfl) (TriQ.next (Tri.block (Tri.seq (Tri.region ?_))))
   refine TriL.segK (k' := 2) (fr' := [(8, .map (some mb)), (9, .pointer (some ⟨(blkOf A), offOf A + k * 10, none⟩)), (12, .string (sAt ps i)), (25, .slice F (ps.length) (cF)), (26, .int .i64 ↑ps.length), (27, .int .i64 ↑i), (34, .int .i64 ((nd ns k).kind)), (35, .bool (decide (((nd ns k).kind : Int) = (3 : Int))))]) (obl := []) [o_, o_] [8, 9, 12, 25, 26, 27, 34, 35] (fun _ _ => by kernel_rfl) trivial ?_
   refine TriL.nil (by kernel_rfl) (TriQ.next ?_)
   refine Tri.condP (p := ((nd ns k).kind : Int) = (3 : Int)) (fun _ => by kernel_rfl) (fun h35 => ?_) (fun h35 => ?_)
   ·
    refine Tri.seq (Tri.region ?_)
    refine TriL.segK (k' := 2) (fr' := [(6, .int .i64 0), (7, .int .i64 174)]) (obl := []) [o_, o_] [6, 7] (fun _ _ => by kernel_rfl) trivial ?_
    refine TriL.nil (by kernel_rfl) (TriQ.next (Tri.ret (TriQ.blockRet (TriQ.passRet (TriQ.blockRet (TriQ.passRet (TriQ.passRet (TriQ.blockRet (TriQ.passRet ?_)))))))))
    exact TriQ.ret (v := .tuple #[.int .i64 0, .int .i64 174]) (l := []) (obl := []) [] [1] (fun _ => by kernel_rfl) trivial rfl (by kernel_rfl) (⟨by rw [hf, findM_sym (by omega) h35], rfl⟩)
   ·
    refine Tri.seq (Tri.region ?_)
    refine TriL.segK (k' := 2) (fr' := [(8, .map (some mb)), (9, .pointer (some ⟨(blkOf A), offOf A + k * 10, none⟩)), (12, .string (sAt ps i)), (25, .slice F (ps.length) (cF)), (26, .int .i64 ↑ps.length), (27, .int .i64 ↑i), (37, .bool (decide (((nd ns k).kind : Int) = (1 : Int))))]) (obl := []) [o_, o_] [8, 9, 12, 25, 26, 27, 37] (fun _ _ => by kernel_rfl) trivial ?_
    refine TriL.nil (by kernel_rfl) (TriQ.next ?_)
    refine Tri.condP (p := ((nd ns k).kind : Int) = (1 : Int)) (fun _ => by kernel_rfl) (fun h37 => ?_) (fun h37 => ?_)
    ·
     refine Tri.seq (Tri.region ?_)
     refine TriL.segK (k' := 2) (fr' := [(6, .int .i64 0), (7, .int .i64 173)]) (obl := []) [o_, o_] [6, 7] (fun _ _ => by kernel_rfl) trivial ?_
     refine TriL.nil (by kernel_rfl) (TriQ.next (Tri.ret (TriQ.blockRet (TriQ.passRet (TriQ.blockRet (TriQ.passRet (TriQ.passRet (TriQ.blockRet (TriQ.passRet ?_)))))))))
     exact TriQ.ret (v := .tuple #[.int .i64 0, .int .i64 173]) (l := []) (obl := []) [] [1] (fun _ => by kernel_rfl) trivial rfl (by kernel_rfl) (⟨by rw [hf, findM_file (by omega) h37], rfl⟩)
    ·
     refine Tri.skip (TriQ.blockNormal (TriQ.next (Tri.seq (Tri.region ?_))))
     refine TriL.segK (k' := 5) (fr' := [(8, .map (some mb)), (9, .pointer (some ⟨(blkOf A), offOf A + k * 10, none⟩)), (25, .slice F (ps.length) (cF)), (26, .int .i64 ↑ps.length), (27, .int .i64 ↑i), (43, .slice (L.eA k) ((nd ns k).ents.length) ((L.eC k))), (44, .string (sAt ps i))]) (obl := [(Rd β ⟨(blkOf A), offOf A + k * 10 + 9, none⟩ (.slice (L.eA k) ((nd ns k).ents.length) ((L.eC k))))]) [o_, o_, o_, ⟨[.old (.slice (L.eA k) ((nd ns k).ents.length) ((L.eC k)))], none, none, none, none⟩, o_] [8, 9, 25, 26, 27, 43, 44] (fun _ _ => by kernel_rfl) ⟨GraphAt.rd hG (i := k) (by omega) (j := 9) rfl, trivial⟩ ?_
     refine TriL.call (f := 43) (args := #[.slice (L.eA k) ((nd ns k).ents.length) ((L.eC k)), .string (sAt ps i), .func (.func 44) #[] #[]]) (d := (some 45)) (pre := []) (R := [.abs (MapA Try.prog 3 mb (mf (bf A ns ns.length)) ns.length), .abs R]) (pk := [0, 1]) (fun _ => by kernel_rfl) (sp_bsearch (L.eA k) (L.eC k) (nd ns k).ents (sAt ps i) (hG.ents k hk) (hB.hd k hk).2 (sorted_of (hok.ents k hk))) rfl (by kernel_rfl) ?_
     rintro _ _ ⟨(⟨q, hq, hqn, rfl⟩ | ⟨hno, z, rfl⟩), rfl⟩
     ·
      have hat2 := (hok.ents k hk q hq).at_
      have htl2 := atI_lt hat2
      refine TriL.segK (k' := 11) (fr' := [(8, .map (some mb)), (9, .pointer (some ⟨(blkOf A), offOf A + k * 10, none⟩)), (13, .int .i64 ↑q), (14, .bool true), (25, .slice F (ps.length) (cF)), (26, .int .i64 ↑ps.length), (27, .int .i64 ↑i)]) (obl := []) [o_, o_, o_, o_, o_] [8, 9, 13, 14, 25, 26, 27] (fun _ _ => by kernel_rfl) trivial ?_
      refine TriL.nil (by kernel_rfl) (TriQ.next (Tri.seq (Tri.seq (Tri.region ?_))))
      refine TriL.segK (k' := 2) (fr' := [(8, .map (some mb)), (9, .pointer (some ⟨(blkOf A), offOf A + k * 10, none⟩)), (13, .int .i64 ↑q), (25, .slice F (ps.length) (cF)), (26, .int .i64 ↑ps.length), (27, .int .i64 ↑i), (49, .bool false)]) (obl := []) [o_, o_] [8, 9, 13, 25, 26, 27, 49] (fun _ _ => by kernel_rfl) trivial ?_
      refine TriL.nil (by kernel_rfl) (TriQ.next ?_)
      refine Tri.condF (fun _ => by kernel_rfl) ?_
      refine Tri.skip (TriQ.next (Tri.region ?_))
      refine TriL.segK (k' := 9) (fr' := [(8, .map (some mb)), (25, .slice F (ps.length) (cF)), (26, .int .i64 ↑ps.length), (27, .int .i64 ↑i), (50, .map (some mb)), (58, .int .i64 ((en (nd ns k).ents q).id))]) (obl := [(Rd β ⟨(blkOf (L.eA k)), offOf (L.eA k) + q * 2 + 1, none⟩ (.int .i64 ((en (nd ns k).ents q).id))), ((q : Nat) : Int) = ((q : Nat) : Int), q < (nd ns k).ents.length, (⟨(blkOf (L.eA k)), offOf (L.eA k), none⟩ : Addr).spot = none, ((L.eA k) : Option Addr) = some ⟨(blkOf (L.eA k)), offOf (L.eA k), none⟩, (Rd β ⟨(blkOf A), offOf A + k * 10 + 9, none⟩ (.slice (L.eA k) ((nd ns k).ents.length) ((L.eC k))))]) [o_, o_, o_, o_, ⟨[.old (.slice (L.eA k) ((nd ns k).ents.length) ((L.eC k)))], none, none, none, none⟩, o_, ⟨[], some q, none, some ⟨(blkOf (L.eA k)), offOf (L.eA k), none⟩, none⟩, o_, ⟨[.old (.int .i64 ((en (nd ns k).ents q).id))], none, none, none, none⟩] [8, 25, 26, 27, 50, 58] (fun _ _ => by kernel_rfl) ⟨EntsAt.rd (hG.ents k (by omega)) (i := q) (by omega) (j := 1) rfl, rfl, hq, rfl, EntsAt.hd (hG.ents k (by omega)) (i := q) (by omega), GraphAt.rd hG (i := k) (by omega) (j := 9) rfl, trivial⟩ ?_
      refine TriL.mapLook 0 (d := (some 59)) (t := 66) (K := 3) (E := 75) (b := mb) (n := ns.length) (f := (mf (bf A ns ns.length))) (x := (.tmp 50)) (ix := (.tmp 58)) (key := .int .i64 ((en (nd ns k).ents q).id)) (z := .pointer none) (kl := (.int .i64 (en (nd ns k).ents q).id)) (r := (some (.pointer (some ⟨(blkOf A), offOf A + (tgt ns (en (nd ns k).ents q).id) * 10, none⟩)))) (fun _ => by kernel_rfl) (by kernel_rfl) (fun _ => by kernel_rfl) (fun _ => by kernel_rfl) lawI Try.underlying66 (fun _ => by kernel_rfl) (keyI (hB.hwf k hk q hq).1 (hB.hwf k hk q hq).2) (bf_at hat2 htl2.1) ?_
      refine TriL.segK (k' := 11) (fr' := [(8, .map (some mb)), (9, .pointer (some ⟨(blkOf A), offOf A + (tgt ns (en (nd ns k).ents q).id) * 10, none⟩)), (25, .slice F (ps.length) (cF)), (26, .int .i64 ↑ps.length), (27, .int .i64 ↑i)]) (obl := []) [o_] [8, 9, 25, 26, 27] (fun _ _ => by kernel_rfl) trivial ?_
      refine TriL.nil (by kernel_rfl) (TriQ.blockNormal (TriQ.next (Tri.region ?_)))
      refine TriL.segK (k' := 2) (fr' := [(8, .map (some mb)), (9, .pointer (some ⟨(blkOf A), offOf A + (tgt ns (en (nd ns k).ents q).id) * 10, none⟩)), (25, .slice F (ps.length) (cF)), (26, .int .i64 ↑ps.length), (27, .int .i64 ↑(i + 1))]) (obl := [(Value.int .i64 (IntKind.wrap .i64 (((i : Nat) : Int) + 1))) = (.int .i64 ↑(i + 1))]) [⟨[], none, none, none, some (.int .i64 ↑(i + 1))⟩, o_] [8, 9, 25, 26, 27] (fun _ _ => by kernel_rfl) ⟨wrapEq (by omega) (by omega) (by omega), trivial⟩ ?_
      refine TriL.nil (by kernel_rfl) ?_
      exact TriQ.turn ((tgt ns (en (nd ns k).ents q).id), (i + 1)) (idx := [8, 9, 25, 26, 27]) (pk := [0, 1]) (show (((tgt ns (en (nd ns k).ents q).id)) < ns.length) ∧ (((i + 1)) ≤ ps.length) ∧ (findG ns root ps = findM ns ((tgt ns (en (nd ns k).ents q).id)) (ps.drop ((i + 1)))) from ⟨htl2.1, by omega, by rw [hf, findM_some (by omega) h35 h37 (findE_some (sorted_of (hok.ents k hk)) hq hqn)]⟩) (by show ps.length - ((i + 1)) < ps.length - i; omega) (fun _ => by kernel_rfl) rfl (by kernel_rfl)
     ·
      refine TriL.segK (k' := 11) (fr' := [(8, .map (some mb)), (9, .pointer (some ⟨(blkOf A), offOf A + k * 10, none⟩)), (13, .int .i64 (z)), (14, .bool false), (25, .slice F (ps.length) (cF)), (26, .int .i64 ↑ps.length), (27, .int .i64 ↑i)]) (obl := []) [o_, o_, o_, o_, o_] [8, 9, 13, 14, 25, 26, 27] (fun _ _ => by kernel_rfl) trivial ?_
      refine TriL.nil (by kernel_rfl) (TriQ.next (Tri.seq (Tri.seq (Tri.region ?_))))
      refine TriL.segK (k' := 2) (fr' := [(8, .map (some mb)), (9, .pointer (some ⟨(blkOf A), offOf A + k * 10, none⟩)), (13, .int .i64 (z)), (25, .slice F (ps.length) (cF)), (26, .int .i64 ↑ps.length), (27, .int .i64 ↑i), (49, .bool true)]) (obl := []) [o_, o_] [8, 9, 13, 25, 26, 27, 49] (fun _ _ => by kernel_rfl) trivial ?_
      refine TriL.nil (by kernel_rfl) (TriQ.next ?_)
      refine Tri.condT (fun _ => by kernel_rfl) ?_
      refine Tri.seq (Tri.region ?_)
      refine TriL.segK (k' := 2) (fr' := [(6, .int .i64 0), (7, .int .i64 170)]) (obl := []) [o_, o_] [6, 7] (fun _ _ => by kernel_rfl) trivial ?_
      refine TriL.nil (by kernel_rfl) (TriQ.next (Tri.ret (TriQ.passRet (TriQ.blockRet (TriQ.passRet (TriQ.passRet (TriQ.blockRet (TriQ.passRet ?_))))))))
      exact TriQ.ret (v := .tuple #[.int .i64 0, .int .i64 170]) (l := []) (obl := []) [] [1] (fun _ => by kernel_rfl) trivial rfl (by kernel_rfl) (⟨by rw [hf, findM_none (by omega) h35 h37 (findE_none hno)], rfl⟩)
  ·
   refine Tri.exit (TriQ.passExit (TriQ.passExit (TriQ.blockHit (TriQ.next (Tri.seq (Tri.region ?_))))))
   refine TriL.segK (k' := 6) (fr' := [(6, .int .i64 ((nd ns k).id)), (7, .int .i64 0)]) (obl := [(Rd β ⟨(blkOf A), offOf A + k * 10, none⟩ (.int .i64 ((nd ns k).id)))]) [o_, o_, o_, ⟨[.old (.int .i64 ((nd ns k).id))], none, none, none, none⟩, o_, o_] [6, 7] (fun _ _ => by kernel_rfl) ⟨GraphAt.rd hG (i := k) (by omega) (j := 0) rfl, trivial⟩ ?_
   refine TriL.nil (by kernel_rfl) (TriQ.next (Tri.ret ?_))
   exact TriQ.ret (v := .tuple #[.int .i64 ((nd ns k).id), .int .i64 0]) (l := []) (obl := []) [] [1] (fun _ => by kernel_rfl) trivial rfl (by kernel_rfl) (⟨by rw [hf, findM_end (by omega)], rfl⟩)
 ·
  refine TriL.segK (k' := 10) (fr' := [(2, .slice F (ps.length) (cF)), (8, x), (9, y), (10, .int .i64 ((beginC ns root)))]) (obl := []) [o_, o_, o_, o_, o_, o_, o_] [2, 8, 9, 10] (fun _ _ => by kernel_rfl) trivial ?_
  refine TriL.nil (by kernel_rfl) (TriQ.next (Tri.seq (Tri.seq (Tri.region ?_))))
  refine TriL.segK (k' := 2) (fr' := [(2, .slice F (ps.length) (cF)), (8, x), (9, y), (10, .int .i64 ((beginC ns root))), (23, .bool (!(decide (((beginC ns root) : Int) = (0 : Int)))))]) (obl := []) [o_, o_] [2, 8, 9, 10, 23] (fun _ _ => by kernel_rfl) trivial ?_
  refine TriL.nil (by kernel_rfl) (TriQ.next ?_)
  refine Tri.condN (p := ((beginC ns root) : Int) = (0 : Int)) (fun _ => by kernel_rfl) (fun h23 => ?_) (fun h23 => ?_)
  ·
   refine Tri.seq (Tri.region ?_)
   refine TriL.segK (k' := 3) (fr' := [(6, .int .i64 0), (7, .int .i64 ((beginC ns root)))]) (obl := []) [o_, o_, o_] [6, 7] (fun _ _ => by kernel_rfl) trivial ?_
   refine TriL.nil (by kernel_rfl) (TriQ.next (Tri.ret (TriQ.passRet ?_)))
   exact TriQ.ret (v := .tuple #[.int .i64 0, .int .i64 ((beginC ns root))]) (l := []) (obl := []) [] [0] (fun _ => by kernel_rfl) trivial rfl (by kernel_rfl) (⟨by rw [findG_bad hbg], rfl⟩)
  ·
   exact absurd h23 hbg
end Go.Proofs.Ytjpdcppdoonmdaa
end
/- part GFindR. PROVED HERE: the reference finds; lists of texts are copied and compared CONDITIONS: as the theorems say. Printed by a program of this repo (wip/v). -/
section
namespace Go.Proofs.Ytjpdcppdoonmdaa
open Go.RowKit
attribute [local irreducible] TriL TriLQ Tri TriQ
set_option maxRecDepth 100000 in
set_option maxHeartbeats 4000000 in
theorem sp_refFind {β : Bs} (A : Option Addr) (c : Nat) (ns : List NodeM) (L : Lay) (hG : GraphAt β A ns L) (hB : GraphB ns 1048576) (root : Int) (F : Option Addr) (cF : Nat) (ps : List ByteArray) (hP : StrsAt β F ps) (hPl : ps.length ≤ 8388608) :
    Spec Try.prog β 24 #[.agg #[.slice A ns.length c], .int .i64 root, .slice F ps.length cF] [] (fun v l => v = .tuple #[.int .i64 (findG ns root ps).1, .int .i64 (findG ns root ps).2] ∧ l = []) := by
 refine Spec.enter Try.func24 rfl Try.ntmps24 (Nat.le_of_ble_eq_true rfl) (fun R => ?_)
 refine Tri.seq (Tri.region ?_)
 refine TriL.segN (k' := 3) (fr' := fun b1 => [(1, .int .i64 (root)), (2, .slice F (ps.length) (cF)), (3, .pointer (some ⟨b1, 0, none⟩))]) (hps' := fun b1 => [.abs R, .blk b1 [.slice A (ns.length) (c)] 24]) (obl := fun b1 => []) [o_, o_, o_] [1, 2, 3] [0, 1] (fun _ _ => by kernel_rfl) (fun b1 => trivial) (fun b1 => ?_)
 refine TriL.nil (by kernel_rfl) (TriQ.next (Tri.seq (Tri.region ?_)))
 refine TriL.segK (k' := 2) (fr' := [(2, .slice F (ps.length) (cF)), (3, .pointer (some ⟨b1, 0, none⟩)), (15, .agg #[.slice A (ns.length) (c)]), (16, .int .i64 (root))]) (obl := [b1 = b1]) [⟨[.at 1], none, none, none, none⟩, o_] [2, 3, 15, 16] (fun _ _ => by kernel_rfl) ⟨rfl, trivial⟩ ?_
 by_cases hbg : beginC ns root = 0
 ·
  obtain ⟨hok, hat, hkd⟩ := beginC_zero hbg
  have htl := atI_lt hat
  refine TriL.call (f := 46) (args := #[.agg #[.slice A (ns.length) (c)], .int .i64 (root)]) (d := (some 17)) (pre := []) (R := [.abs R, .blk b1 [.slice A (ns.length) (c)] 24]) (pk := [0, 1]) (fun _ => by kernel_rfl) ((sp_refBegin A c ns L hG hB root).val (refB_ok hbg)) rfl (by kernel_rfl) ?_
  rintro _ _ ⟨rfl, rfl⟩
  refine TriL.segK (k' := 8) (fr' := [(2, .slice F (ps.length) (cF)), (3, .pointer (some ⟨b1, 0, none⟩)), (8, .int .i64 ↑(tgt ns root)), (9, .int .i64 0)]) (obl := []) [o_, o_, o_, o_, o_] [2, 3, 8, 9] (fun _ _ => by kernel_rfl) trivial ?_
  refine TriL.nil (by kernel_rfl) (TriQ.next (Tri.seq (Tri.seq (Tri.region ?_))))
  refine TriL.segK (k' := 2) (fr' := [(2, .slice F (ps.length) (cF)), (3, .pointer (some ⟨b1, 0, none⟩)), (8, .int .i64 ↑(tgt ns root)), (9, .int .i64 0), (21, .bool false)]) (obl := []) [o_, o_] [2, 3, 8, 9, 21] (fun _ _ => by kernel_rfl) trivial ?_
  refine TriL.nil (by kernel_rfl) (TriQ.next ?_)
  refine Tri.condF (fun _ => by kernel_rfl) ?_
  refine Tri.skip (TriQ.next (Tri.seq (Tri.seq (Tri.region ?_))))
  refine TriL.segK (k' := 1) (fr' := [(2, .slice F (ps.length) (cF)), (3, .pointer (some ⟨b1, 0, none⟩)), (8, .int .i64 ↑(tgt ns root)), (10, .int .i64 0)]) (obl := []) [o_] [2, 3, 8, 10] (fun _ _ => by kernel_rfl) trivial ?_
  refine TriL.nil (by kernel_rfl) (TriQ.next (Tri.block ?_))
  refine Tri.loop (ι := Nat × Nat) (fun ((k, i) : Nat × Nat) => (k < ns.length) ∧ (i ≤ ps.length) ∧ (findG ns root ps = findM ns k (ps.drop i))) (fun ((k, i) : Nat × Nat) => ps.length - i) (fun ((k, i) : Nat × Nat) => [(2, .slice F (ps.length) (cF)), (3, .pointer (some ⟨b1, 0, none⟩)), (8, .int .i64 ↑k), (10, .int .i64 ↑i)]) (fun ((k, i) : Nat × Nat) => [.blk b1 [.slice A (ns.length) (c)] 24, .abs R]) ((tgt ns root), 0) (idx := [2, 3, 8, 10]) (pk := [1, 0]) (show (((tgt ns root)) < ns.length) ∧ (0 ≤ ps.length) ∧ (findG ns root ps = findM ns ((tgt ns root)) (ps.drop 0)) from ⟨htl.1, Nat.zero_le _, findG_ok hbg⟩) (fun _ => by kernel_rfl) rfl (by kernel_rfl) ?_
  rintro ⟨k, i⟩ ⟨hk, hi, hf⟩
  show Tri _ _ _ _ [(2, .slice F (ps.length) (cF)), (3, .pointer (some ⟨b1, 0, none⟩)), (8, .int .i64 ↑k), (10, .int .i64 ↑i)] [.blk b1 [.slice A (ns.length) (c)] 24, .abs R] _
  have hd3 := hB.hd k hk
  refine Tri.seq (Tri.seq (Tri.region ?_))
  refine TriL.segK (k' := 4) (fr' := [(2, .slice F (ps.length) (cF)), (3, .pointer (some ⟨b1, 0, none⟩)), (8, .int .i64 ↑k), (10, .int .i64 ↑i), (26, .bool (decide ((((i : Nat) : Int) : Int) < (((ps.length : Nat) : Int) : Int))))]) (obl := []) [o_, o_, o_, o_] [2, 3, 8, 10, 26] (fun _ _ => by kernel_rfl) trivial ?_
  refine TriL.nil (by kernel_rfl) (TriQ.next ?_)
  refine Tri.condP (p := (((i : Nat) : Int) : Int) < (((ps.length : Nat) : Int) : Int)) (fun _ => by kernel_rfl) (fun h26 => ?_) (fun h26 => ?_)
  ·
   refine Tri.skip (TriQ.next (Tri.seq (Tri.block (Tri.seq (Tri.region ?_)))))
   refine TriL.segN (k' := 7) (fr' := fun b2 => [(2, .slice F (ps.length) (cF)), (3, .pointer (some ⟨b1, 0, none⟩)), (10, .int .i64 ↑i), (11, .pointer (some ⟨b2, 0, none⟩))]) (hps' := fun b2 => [.blk b1 [.slice A (ns.length) (c)] 24, .abs R, .blk b2 [.int .i64 ((nd ns k).id), .int .i64 ((nd ns k).kind), .int .i64 ((nd ns k).mode), .int .i64 ((nd ns k).uid), .int .i64 ((nd ns k).gid), .int .i64 ((nd ns k).sec), .int .i64 ((nd ns k).nano), .slice (L.dA k) ((nd ns k).data.length) ((L.dC k)), .string (nd ns k).target, .slice (L.eA k) ((nd ns k).ents.length) ((L.eC k))] 32]) (obl := fun b2 => [b2 = b2, b2 = b2, b2 = b2, b2 = b2, b2 = b2, b2 = b2, b2 = b2, b2 = b2, b2 = b2, b2 = b2, (Rd β ⟨(blkOf A), offOf A + k * 10 + 9, none⟩ (.slice (L.eA k) ((nd ns k).ents.length) ((L.eC k)))), (Rd β ⟨(blkOf A), offOf A + k * 10 + 8, none⟩ (.string (nd ns k).target)), (Rd β ⟨(blkOf A), offOf A + k * 10 + 7, none⟩ (.slice (L.dA k) ((nd ns k).data.length) ((L.dC k)))), (Rd β ⟨(blkOf A), offOf A + k * 10 + 6, none⟩ (.int .i64 ((nd ns k).nano))), (Rd β ⟨(blkOf A), offOf A + k * 10 + 5, none⟩ (.int .i64 ((nd ns k).sec))), (Rd β ⟨(blkOf A), offOf A + k * 10 + 4, none⟩ (.int .i64 ((nd ns k).gid))), (Rd β ⟨(blkOf A), offOf A + k * 10 + 3, none⟩ (.int .i64 ((nd ns k).uid))), (Rd β ⟨(blkOf A), offOf A + k * 10 + 2, none⟩ (.int .i64 ((nd ns k).mode))), (Rd β ⟨(blkOf A), offOf A + k * 10 + 1, none⟩ (.int .i64 ((nd ns k).kind))), (Rd β ⟨(blkOf A), offOf A + k * 10, none⟩ (.int .i64 ((nd ns k).id))), ((k : Nat) : Int) = ((k : Nat) : Int), k < ns.length, (⟨(blkOf A), offOf A, none⟩ : Addr).spot = none, (A : Option Addr) = some ⟨(blkOf A), offOf A, none⟩, b1 = b1]) [o_, ⟨[.at 0], none, none, none, none⟩, o_, ⟨[], some k, none, some ⟨(blkOf A), offOf A, none⟩, none⟩, ⟨[.old (.int .i64 ((nd ns k).id)), .old (.int .i64 ((nd ns k).kind)), .old (.int .i64 ((nd ns k).mode)), .old (.int .i64 ((nd ns k).uid)), .old (.int .i64 ((nd ns k).gid)), .old (.int .i64 ((nd ns k).sec)), .old (.int .i64 ((nd ns k).nano)), .old (.slice (L.dA k) ((nd ns k).data.length) ((L.dC k))), .old (.string (nd ns k).target), .old (.slice (L.eA k) ((nd ns k).ents.length) ((L.eC k)))], none, none, none, none⟩, o_, ⟨[.at 2, .at 2, .at 2, .at 2, .at 2, .at 2, .at 2, .at 2, .at 2, .at 2], none, none, none, none⟩] [2, 3, 10, 11] [0, 1, 2] (fun _ _ => by kernel_rfl) (fun b2 => ⟨rfl, rfl, rfl, rfl, rfl, rfl, rfl, rfl, rfl, rfl, GraphAt.rd hG (i := k) (by omega) (j := 9) rfl, GraphAt.rd hG (i := k) (by omega) (j := 8) rfl, GraphAt.rd hG (i := k) (by omega) (j := 7) rfl, GraphAt.rd hG (i := k) (by omega) (j := 6) rfl, GraphAt.rd hG (i := k) (by omega) (j := 5) rfl, GraphAt.rd hG (i := k) (by omega) (j := 4) rfl, GraphAt.rd hG (i := k) (by omega) (j := 3) rfl, GraphAt.rd hG (i := k) (by omega) (j := 2) rfl, GraphAt.rd hG (i := k) (by omega) (j := 1) rfl, GraphAt.rd hG (i := k) (by omega) (j := 0) rfl, rfl, hk, rfl, GraphAt.hd hG (i := k) (by omega), rfl, trivial⟩) (fun b2 => ?_)
   refine TriL.nil (by kernel_rfl) (TriQ.next (Tri.seq (Tri.seq (Tri.region ?_))))
   refine TriL.segK (k' := 3) (fr' := [(2, .slice F (ps.length) (cF)), (3, .pointer (some ⟨b1, 0, none⟩)), (10, .int .i64 ↑i), (11, .pointer (some ⟨b2, 0, none⟩)), (36, .bool (decide (((nd ns k).kind : Int) = (3 : Int))))]) (obl := [b2 = b2]) [o_, ⟨[.at 2], none, none, none, none⟩, o_] [2, 3, 10, 11, 36] (fun _ _ => by kernel_rfl) ⟨rfl, trivial⟩ ?_
   refine TriL.nil (by kernel_rfl) (TriQ.next ?_)
   refine Tri.condP (p := ((nd ns k).kind : Int) = (3 : Int)) (fun _ => by kernel_rfl) (fun h36 => ?_) (fun h36 => ?_)
   ·
    refine Tri.seq (Tri.region ?_)
    refine TriL.segK (k' := 2) (fr' := [(6, .int .i64 0), (7, .int .i64 174)]) (obl := []) [o_, o_] [6, 7] (fun _ _ => by kernel_rfl) trivial ?_
    refine TriL.nil (by kernel_rfl) (TriQ.next (Tri.ret (TriQ.passRet (TriQ.blockRet (TriQ.passRet (TriQ.passRet (TriQ.blockRet (TriQ.passRet ?_))))))))
    exact TriQ.ret (v := .tuple #[.int .i64 0, .int .i64 174]) (l := []) (obl := []) [] [1] (fun _ => by kernel_rfl) trivial rfl (by kernel_rfl) (⟨by rw [hf, findM_sym (by omega) h36], rfl⟩)
   ·
    refine Tri.skip (TriQ.next (Tri.seq (Tri.seq (Tri.region ?_))))
    refine TriL.segK (k' := 3) (fr' := [(2, .slice F (ps.length) (cF)), (3, .pointer (some ⟨b1, 0, none⟩)), (10, .int .i64 ↑i), (11, .pointer (some ⟨b2, 0, none⟩)), (39, .bool (decide (((nd ns k).kind : Int) = (1 : Int))))]) (obl := [b2 = b2]) [o_, ⟨[.at 2], none, none, none, none⟩, o_] [2, 3, 10, 11, 39] (fun _ _ => by kernel_rfl) ⟨rfl, trivial⟩ ?_
    refine TriL.nil (by kernel_rfl) (TriQ.next ?_)
    refine Tri.condP (p := ((nd ns k).kind : Int) = (1 : Int)) (fun _ => by kernel_rfl) (fun h39 => ?_) (fun h39 => ?_)
    ·
     refine Tri.seq (Tri.region ?_)
     refine TriL.segK (k' := 2) (fr' := [(6, .int .i64 0), (7, .int .i64 173)]) (obl := []) [o_, o_] [6, 7] (fun _ _ => by kernel_rfl) trivial ?_
     refine TriL.nil (by kernel_rfl) (TriQ.next (Tri.ret (TriQ.passRet (TriQ.blockRet (TriQ.passRet (TriQ.passRet (TriQ.blockRet (TriQ.passRet ?_))))))))
     exact TriQ.ret (v := .tuple #[.int .i64 0, .int .i64 173]) (l := []) (obl := []) [] [1] (fun _ => by kernel_rfl) trivial rfl (by kernel_rfl) (⟨by rw [hf, findM_file (by omega) h39], rfl⟩)
    ·
     refine Tri.skip (TriQ.next (Tri.seq (Tri.region ?_)))
     refine TriL.segK (k' := 1) (fr' := [(2, .slice F (ps.length) (cF)), (3, .pointer (some ⟨b1, 0, none⟩)), (10, .int .i64 ↑i), (11, .pointer (some ⟨b2, 0, none⟩)), (12, .int .i64 (-1))]) (obl := []) [o_] [2, 3, 10, 11, 12] (fun _ _ => by kernel_rfl) trivial ?_
     refine TriL.nil (by kernel_rfl) (TriQ.next (Tri.seq (Tri.seq (Tri.region ?_))))
     refine TriL.segK (k' := 1) (fr' := [(2, .slice F (ps.length) (cF)), (3, .pointer (some ⟨b1, 0, none⟩)), (10, .int .i64 ↑i), (11, .pointer (some ⟨b2, 0, none⟩)), (12, .int .i64 (-1)), (13, .int .i64 0)]) (obl := []) [o_] [2, 3, 10, 11, 12, 13] (fun _ _ => by kernel_rfl) trivial ?_
     refine TriL.nil (by kernel_rfl) (TriQ.next (Tri.block ?_))
     refine Tri.loop (ι := Int × Nat) (fun ((nx, j) : Int × Nat) => (j ≤ (nd ns k).ents.length) ∧ ((nx = -1 ∧ ∀ t, t < j → ¬ (en (nd ns k).ents t).name = sAt ps i) ∨ ∃ q, q < j ∧ (en (nd ns k).ents q).name = sAt ps i ∧ nx = ((tgt ns (en (nd ns k).ents q).id : Nat) : Int))) (fun ((nx, j) : Int × Nat) => (nd ns k).ents.length - j) (fun ((nx, j) : Int × Nat) => [(2, .slice F (ps.length) (cF)), (3, .pointer (some ⟨b1, 0, none⟩)), (10, .int .i64 ↑i), (11, .pointer (some ⟨b2, 0, none⟩)), (12, .int .i64 (nx)), (13, .int .i64 ↑j)]) (fun ((nx, j) : Int × Nat) => [.blk b1 [.slice A (ns.length) (c)] 24, .blk b2 [.int .i64 ((nd ns k).id), .int .i64 ((nd ns k).kind), .int .i64 ((nd ns k).mode), .int .i64 ((nd ns k).uid), .int .i64 ((nd ns k).gid), .int .i64 ((nd ns k).sec), .int .i64 ((nd ns k).nano), .slice (L.dA k) ((nd ns k).data.length) ((L.dC k)), .string (nd ns k).target, .slice (L.eA k) ((nd ns k).ents.length) ((L.eC k))] 32, .abs R]) ((-1), 0) (idx := [2, 3, 10, 11, 12, 13]) (pk := [0, 2, 1]) (show (0 ≤ (nd ns k).ents.length) ∧ ((((-1)) = -1 ∧ ∀ t, t < 0 → ¬ (en (nd ns k).ents t).name = sAt ps i) ∨ ∃ q, q < 0 ∧ (en (nd ns k).ents q).name = sAt ps i ∧ ((-1)) = ((tgt ns (en (nd ns k).ents q).id : Nat) : Int)) from ⟨Nat.zero_le _, .inl ⟨rfl, fun t h => absurd h (Nat.not_lt_zero t)⟩⟩) (fun _ => by kernel_rfl) rfl (by kernel_rfl) ?_
     rintro ⟨nx, j⟩ ⟨hj, hnx⟩
     show Tri _ _ _ _ [(2, .slice F (ps.length) (cF)), (3, .pointer (some ⟨b1, 0, none⟩)), (10, .int .i64 ↑i), (11, .pointer (some ⟨b2, 0, none⟩)), (12, .int .i64 (nx)), (13, .int .i64 ↑j)] [.blk b1 [.slice A (ns.length) (c)] 24, .blk b2 [.int .i64 ((nd ns k).id), .int .i64 ((nd ns k).kind), .int .i64 ((nd ns k).mode), .int .i64 ((nd ns k).uid), .int .i64 ((nd ns k).gid), .int .i64 ((nd ns k).sec), .int .i64 ((nd ns k).nano), .slice (L.dA k) ((nd ns k).data.length) ((L.dC k)), .string (nd ns k).target, .slice (L.eA k) ((nd ns k).ents.length) ((L.eC k))] 32, .abs R] _
     refine Tri.seq (Tri.seq (Tri.region ?_))
     refine TriL.segK (k' := 5) (fr' := [(2, .slice F (ps.length) (cF)), (3, .pointer (some ⟨b1, 0, none⟩)), (10, .int .i64 ↑i), (11, .pointer (some ⟨b2, 0, none⟩)), (12, .int .i64 (nx)), (13, .int .i64 ↑j), (44, .bool (decide ((((j : Nat) : Int) : Int) < ((((nd ns k).ents.length : Nat) : Int) : Int))))]) (obl := [b2 = b2]) [o_, o_, ⟨[.at 1], none, none, none, none⟩, o_, o_] [2, 3, 10, 11, 12, 13, 44] (fun _ _ => by kernel_rfl) ⟨rfl, trivial⟩ ?_
     refine TriL.nil (by kernel_rfl) (TriQ.next ?_)
     refine Tri.condP (p := (((j : Nat) : Int) : Int) < ((((nd ns k).ents.length : Nat) : Int) : Int)) (fun _ => by kernel_rfl) (fun h44 => ?_) (fun h44 => ?_)
     ·
      refine Tri.skip (TriQ.next (Tri.seq (Tri.block (Tri.seq ?_))))
      refine Tri.regionQ (by kernel_rfl) (by kernel_rfl) ?_
      refine TriLQ.seg (k' := 11) (fr' := [(2, .slice F (ps.length) (cF)), (3, .pointer (some ⟨b1, 0, none⟩)), (10, .int .i64 ↑i), (11, .pointer (some ⟨b2, 0, none⟩)), (12, .int .i64 (nx)), (13, .int .i64 ↑j), (57, .bool (decide (((en (nd ns k).ents j).name : ByteArray) = (sAt ps i))))]) (obl := [(Value.bool (((en (nd ns k).ents j).name : ByteArray).toList == ((sAt ps i) : ByteArray).toList)) = (.bool (decide (((en (nd ns k).ents j).name : ByteArray) = (sAt ps i)))), (Rd β ⟨(blkOf F), offOf F + i * 1, none⟩ (.string (sAt ps i))), ((i : Nat) : Int) = ((i : Nat) : Int), i < ps.length, (⟨(blkOf F), offOf F, none⟩ : Addr).spot = none, (F : Option Addr) = some ⟨(blkOf F), offOf F, none⟩, (Rd β ⟨(blkOf (L.eA k)), offOf (L.eA k) + j * 2, none⟩ (.string (en (nd ns k).ents j).name)), ((j : Nat) : Int) = ((j : Nat) : Int), j < (nd ns k).ents.length, (⟨(blkOf (L.eA k)), offOf (L.eA k), none⟩ : Addr).spot = none, ((L.eA k) : Option Addr) = some ⟨(blkOf (L.eA k)), offOf (L.eA k), none⟩, b2 = b2]) [o_, ⟨[.at 1], none, none, none, none⟩, o_, ⟨[], some j, none, some ⟨(blkOf (L.eA k)), offOf (L.eA k), none⟩, none⟩, o_, ⟨[.old (.string (en (nd ns k).ents j).name)], none, none, none, none⟩, o_, o_, ⟨[], some i, none, some ⟨(blkOf F), offOf F, none⟩, none⟩, ⟨[.old (.string (sAt ps i))], none, none, none, none⟩, ⟨[], none, none, none, some (.bool (decide (((en (nd ns k).ents j).name : ByteArray) = (sAt ps i))))⟩] [2, 3, 10, 11, 12, 13, 57] (fun _ _ => by kernel_rfl) ⟨strEqV _ _, StrsAt.rd hP (by omega), rfl, by omega, rfl, StrsAt.hd hP (j := i) (by omega), EntsAt.rd (hG.ents k (by omega)) (i := j) (by omega) (j := 0) rfl, rfl, by omega, rfl, EntsAt.hd (hG.ents k (by omega)) (i := j) (by omega), rfl, trivial⟩ ?_
      refine TriLQ.nil (by kernel_rfl) (TriQ.next ?_)
      refine Tri.condP (p := ((en (nd ns k).ents j).name : ByteArray) = (sAt ps i)) (fun _ => by kernel_rfl) (fun h57 => ?_) (fun h57 => ?_)
      ·
       refine Tri.regionQ (by kernel_rfl) (by kernel_rfl) ?_
       refine TriLQ.seg (k' := 7) (fr' := [(2, .slice F (ps.length) (cF)), (3, .pointer (some ⟨b1, 0, none⟩)), (10, .int .i64 ↑i), (11, .pointer (some ⟨b2, 0, none⟩)), (13, .int .i64 ↑j), (58, .agg #[.slice A (ns.length) (c)]), (64, .int .i64 ((en (nd ns k).ents j).id))]) (obl := [(Rd β ⟨(blkOf (L.eA k)), offOf (L.eA k) + j * 2 + 1, none⟩ (.int .i64 ((en (nd ns k).ents j).id))), ((j : Nat) : Int) = ((j : Nat) : Int), j < (nd ns k).ents.length, (⟨(blkOf (L.eA k)), offOf (L.eA k), none⟩ : Addr).spot = none, ((L.eA k) : Option Addr) = some ⟨(blkOf (L.eA k)), offOf (L.eA k), none⟩, b2 = b2, b1 = b1]) [⟨[.at 0], none, none, none, none⟩, o_, ⟨[.at 1], none, none, none, none⟩, o_, ⟨[], some j, none, some ⟨(blkOf (L.eA k)), offOf (L.eA k), none⟩, none⟩, o_, ⟨[.old (.int .i64 ((en (nd ns k).ents j).id))], none, none, none, none⟩] [2, 3, 10, 11, 13, 58, 64] (fun _ _ => by kernel_rfl) ⟨EntsAt.rd (hG.ents k (by omega)) (i := j) (by omega) (j := 1) rfl, rfl, by omega, rfl, EntsAt.hd (hG.ents k (by omega)) (i := j) (by omega), rfl, rfl, trivial⟩ ?_
       refine TriLQ.call (f := 29) (args := #[.agg #[.slice A (ns.length) (c)], .int .i64 ((en (nd ns k).ents j).id)]) (d := (some 65)) (pre := []) (R := [.blk b1 [.slice A (ns.length) (c)] 24, .blk b2 [.int .i64 ((nd ns k).id), .int .i64 ((nd ns k).kind), .int .i64 ((nd ns k).mode), .int .i64 ((nd ns k).uid), .int .i64 ((nd ns k).gid), .int .i64 ((nd ns k).sec), .int .i64 ((nd ns k).nano), .slice (L.dA k) ((nd ns k).data.length) ((L.dC k)), .string (nd ns k).target, .slice (L.eA k) ((nd ns k).ents.length) ((L.eC k))] 32, .abs R]) (pk := [0, 1, 2]) (pk' := [0, 1, 2]) (v0 := .int .i64 ((atI ns (en (nd ns k).ents j).id))) (fun _ => by kernel_rfl) (sp_at A c ns L hG hok.rise hB.hl (en (nd ns k).ents j).id) rfl (by kernel_rfl) rfl (by kernel_rfl) (fun _ _ h => h) ?_
       refine TriLQ.seg (k' := 9) (fr' := [(2, .slice F (ps.length) (cF)), (3, .pointer (some ⟨b1, 0, none⟩)), (10, .int .i64 ↑i), (11, .pointer (some ⟨b2, 0, none⟩)), (12, .int .i64 ((atI ns (en (nd ns k).ents j).id))), (13, .int .i64 ↑j)]) (obl := []) [o_] [2, 3, 10, 11, 12, 13] (fun _ _ => by kernel_rfl) trivial ?_
       refine TriLQ.nil (by kernel_rfl) (TriQ.blockNormal (TriQ.next (Tri.region ?_)))
       refine TriL.segK (k' := 3) (fr' := [(2, .slice F (ps.length) (cF)), (3, .pointer (some ⟨b1, 0, none⟩)), (10, .int .i64 ↑i), (11, .pointer (some ⟨b2, 0, none⟩)), (12, .int .i64 ((atI ns (en (nd ns k).ents j).id))), (13, .int .i64 ↑(j + 1))]) (obl := [(Value.int .i64 (IntKind.wrap .i64 (((j : Nat) : Int) + 1))) = (.int .i64 ↑(j + 1))]) [o_, ⟨[], none, none, none, some (.int .i64 ↑(j + 1))⟩, o_] [2, 3, 10, 11, 12, 13] (fun _ _ => by kernel_rfl) ⟨wrapEq (by omega) (by omega) (by omega), trivial⟩ ?_
       refine TriL.nil (by kernel_rfl) ?_
       exact TriQ.turn ((atI ns (en (nd ns k).ents j).id), (j + 1)) (idx := [2, 3, 10, 11, 12, 13]) (pk := [0, 1, 2]) (show (((j + 1)) ≤ (nd ns k).ents.length) ∧ ((((atI ns (en (nd ns k).ents j).id)) = -1 ∧ ∀ t, t < ((j + 1)) → ¬ (en (nd ns k).ents t).name = sAt ps i) ∨ ∃ q, q < ((j + 1)) ∧ (en (nd ns k).ents q).name = sAt ps i ∧ ((atI ns (en (nd ns k).ents j).id)) = ((tgt ns (en (nd ns k).ents q).id : Nat) : Int)) from ⟨by omega, .inr ⟨j, by omega, h57, (atI_lt (hok.ents k hk j (by omega)).at_).2.2⟩⟩) (by show (nd ns k).ents.length - ((j + 1)) < (nd ns k).ents.length - j; omega) (fun _ => by kernel_rfl) rfl (by kernel_rfl)
      ·
       refine Tri.skip (TriQ.blockNormal (TriQ.next (Tri.region ?_)))
       refine TriL.segK (k' := 3) (fr' := [(2, .slice F (ps.length) (cF)), (3, .pointer (some ⟨b1, 0, none⟩)), (10, .int .i64 ↑i), (11, .pointer (some ⟨b2, 0, none⟩)), (12, .int .i64 (nx)), (13, .int .i64 ↑(j + 1))]) (obl := [(Value.int .i64 (IntKind.wrap .i64 (((j : Nat) : Int) + 1))) = (.int .i64 ↑(j + 1))]) [o_, ⟨[], none, none, none, some (.int .i64 ↑(j + 1))⟩, o_] [2, 3, 10, 11, 12, 13] (fun _ _ => by kernel_rfl) ⟨wrapEq (by omega) (by omega) (by omega), trivial⟩ ?_
       refine TriL.nil (by kernel_rfl) ?_
       exact TriQ.turn (nx, (j + 1)) (idx := [2, 3, 10, 11, 12, 13]) (pk := [0, 1, 2]) (show (((j + 1)) ≤ (nd ns k).ents.length) ∧ ((nx = -1 ∧ ∀ t, t < ((j + 1)) → ¬ (en (nd ns k).ents t).name = sAt ps i) ∨ ∃ q, q < ((j + 1)) ∧ (en (nd ns k).ents q).name = sAt ps i ∧ nx = ((tgt ns (en (nd ns k).ents q).id : Nat) : Int)) from ⟨by omega, hnx.elim (fun ⟨e, h⟩ => .inl ⟨e, fun t ht => (by rcases Nat.lt_succ_iff_lt_or_eq.1 ht with h1 | h1; exact h t h1; rw [h1]; exact h57)⟩) (fun ⟨q, h1, h2, h3⟩ => .inr ⟨q, by omega, h2, h3⟩)⟩) (by show (nd ns k).ents.length - ((j + 1)) < (nd ns k).ents.length - j; omega) (fun _ => by kernel_rfl) rfl (by kernel_rfl)
     ·
      refine Tri.exit (TriQ.passExit (TriQ.passExit (TriQ.blockHit (TriQ.next (Tri.seq (Tri.seq (Tri.region ?_)))))))
      refine TriL.segK (k' := 2) (fr' := [(2, .slice F (ps.length) (cF)), (3, .pointer (some ⟨b1, 0, none⟩)), (10, .int .i64 ↑i), (12, .int .i64 (nx)), (67, .bool (decide ((nx : Int) < (0 : Int))))]) (obl := []) [o_, o_] [2, 3, 10, 12, 67] (fun _ _ => by kernel_rfl) trivial ?_
      refine TriL.nil (by kernel_rfl) (TriQ.next ?_)
      refine Tri.condP (p := (nx : Int) < (0 : Int)) (fun _ => by kernel_rfl) (fun h67 => ?_) (fun h67 => ?_)
      ·
       have hno := (hnx.resolve_right (fun ⟨q, _, _, h⟩ => by omega)).2
       refine Tri.seq (Tri.region ?_)
       refine TriL.segK (k' := 2) (fr' := [(6, .int .i64 0), (7, .int .i64 170)]) (obl := []) [o_, o_] [6, 7] (fun _ _ => by kernel_rfl) trivial ?_
       refine TriL.nil (by kernel_rfl) (TriQ.next (Tri.ret (TriQ.passRet (TriQ.blockRet (TriQ.passRet (TriQ.passRet (TriQ.blockRet (TriQ.passRet ?_))))))))
       exact TriQ.ret (v := .tuple #[.int .i64 0, .int .i64 170]) (l := []) (obl := []) [] [2] (fun _ => by kernel_rfl) trivial rfl (by kernel_rfl) (⟨by rw [hf, findM_none (by omega) h36 h39 (findE_none (fun t ht => hno t (by omega)))], rfl⟩)
      ·
       obtain ⟨q, hq1, hqn, hnq⟩ := hnx.resolve_left (fun h => by omega)
       have hq : q < (nd ns k).ents.length := by omega
       have htl2 := atI_lt (hok.ents k hk q hq).at_
       refine Tri.skip (TriQ.next (Tri.region ?_))
       refine TriL.segK (k' := 2) (fr' := [(2, .slice F (ps.length) (cF)), (3, .pointer (some ⟨b1, 0, none⟩)), (8, .int .i64 ↑(tgt ns (en (nd ns k).ents q).id)), (10, .int .i64 ↑i)]) (obl := [((.int .i64 (nx) : Value)) = (.int .i64 ↑(tgt ns (en (nd ns k).ents q).id))]) [⟨[], none, none, none, some (.int .i64 ↑(tgt ns (en (nd ns k).ents q).id))⟩, o_] [2, 3, 8, 10] (fun _ _ => by kernel_rfl) ⟨congrArg (Value.int .i64) hnq, trivial⟩ ?_
       refine TriL.nil (by kernel_rfl) (TriQ.blockNormal (TriQ.next (Tri.region ?_)))
       refine TriL.segK (k' := 3) (fr' := [(2, .slice F (ps.length) (cF)), (3, .pointer (some ⟨b1, 0, none⟩)), (8, .int .i64 ↑(tgt ns (en (nd ns k).ents q).id)), (10, .int .i64 ↑(i + 1))]) (obl := [(Value.int .i64 (IntKind.wrap .i64 (((i : Nat) : Int) + 1))) = (.int .i64 ↑(i + 1))]) [o_, ⟨[], none, none, none, some (.int .i64 ↑(i + 1))⟩, o_] [2, 3, 8, 10] (fun _ _ => by kernel_rfl) ⟨wrapEq (by omega) (by omega) (by omega), trivial⟩ ?_
       refine TriL.nil (by kernel_rfl) ?_
       exact TriQ.turn ((tgt ns (en (nd ns k).ents q).id), (i + 1)) (idx := [2, 3, 8, 10]) (pk := [0, 2]) (show (((tgt ns (en (nd ns k).ents q).id)) < ns.length) ∧ (((i + 1)) ≤ ps.length) ∧ (findG ns root ps = findM ns ((tgt ns (en (nd ns k).ents q).id)) (ps.drop ((i + 1)))) from ⟨htl2.1, by omega, by rw [hf, findM_some (by omega) h36 h39 (findE_some (sorted_of (hok.ents k hk)) hq hqn)]⟩) (by show ps.length - ((i + 1)) < ps.length - i; omega) (fun _ => by kernel_rfl) rfl (by kernel_rfl)
  ·
   refine Tri.exit (TriQ.passExit (TriQ.passExit (TriQ.blockHit (TriQ.next (Tri.seq (Tri.region ?_))))))
   refine TriL.segK (k' := 8) (fr' := [(6, .int .i64 ((nd ns k).id)), (7, .int .i64 0)]) (obl := [(Rd β ⟨(blkOf A), offOf A + k * 10, none⟩ (.int .i64 ((nd ns k).id))), ((k : Nat) : Int) = ((k : Nat) : Int), k < ns.length, (⟨(blkOf A), offOf A, none⟩ : Addr).spot = none, (A : Option Addr) = some ⟨(blkOf A), offOf A, none⟩, b1 = b1]) [o_, ⟨[.at 0], none, none, none, none⟩, o_, ⟨[], some k, none, some ⟨(blkOf A), offOf A, none⟩, none⟩, o_, ⟨[.old (.int .i64 ((nd ns k).id))], none, none, none, none⟩, o_, o_] [6, 7] (fun _ _ => by kernel_rfl) ⟨GraphAt.rd hG (i := k) (by omega) (j := 0) rfl, rfl, hk, rfl, GraphAt.hd hG (i := k) (by omega), rfl, trivial⟩ ?_
   refine TriL.nil (by kernel_rfl) (TriQ.next (Tri.ret ?_))
   exact TriQ.ret (v := .tuple #[.int .i64 ((nd ns k).id), .int .i64 0]) (l := []) (obl := []) [] [1] (fun _ => by kernel_rfl) trivial rfl (by kernel_rfl) (⟨by rw [hf, findM_end (by omega)], rfl⟩)
 ·
  refine TriL.call (f := 46) (args := #[.agg #[.slice A (ns.length) (c)], .int .i64 (root)]) (d := (some 17)) (pre := []) (R := [.abs R, .blk b1 [.slice A (ns.length) (c)] 24]) (pk := [0, 1]) (fun _ => by kernel_rfl) ((sp_refBegin A c ns L hG hB root).val (refB_bad hbg)) rfl (by kernel_rfl) ?_
  rintro _ _ ⟨rfl, rfl⟩
  refine TriL.segK (k' := 8) (fr' := [(2, .slice F (ps.length) (cF)), (3, .pointer (some ⟨b1, 0, none⟩)), (8, .int .i64 0), (9, .int .i64 ((beginC ns root)))]) (obl := []) [o_, o_, o_, o_, o_] [2, 3, 8, 9] (fun _ _ => by kernel_rfl) trivial ?_
  refine TriL.nil (by kernel_rfl) (TriQ.next (Tri.seq (Tri.seq (Tri.region ?_))))
  refine TriL.segK (k' := 2) (fr' := [(2, .slice F (ps.length) (cF)), (3, .pointer (some ⟨b1, 0, none⟩)), (8, .int .i64 0), (9, .int .i64 ((beginC ns root))), (21, .bool (!(decide (((beginC ns root) : Int) = (0 : Int)))))]) (obl := []) [o_, o_] [2, 3, 8, 9, 21] (fun _ _ => by kernel_rfl) trivial ?_
  refine TriL.nil (by kernel_rfl) (TriQ.next ?_)
  refine Tri.condN (p := ((beginC ns root) : Int) = (0 : Int)) (fun _ => by kernel_rfl) (fun h21 => ?_) (fun h21 => ?_)
  ·
   refine Tri.seq (Tri.region ?_)
   refine TriL.segK (k' := 3) (fr' := [(6, .int .i64 0), (7, .int .i64 ((beginC ns root)))]) (obl := []) [o_, o_, o_] [6, 7] (fun _ _ => by kernel_rfl) trivial ?_
   refine TriL.nil (by kernel_rfl) (TriQ.next (Tri.ret (TriQ.passRet ?_)))
   exact TriQ.ret (v := .tuple #[.int .i64 0, .int .i64 ((beginC ns root))]) (l := []) (obl := []) [] [0] (fun _ => by kernel_rfl) trivial rfl (by kernel_rfl) (⟨by rw [findG_bad hbg], rfl⟩)
  ·
   exact absurd h21 hbg
set_option maxRecDepth 100000 in
set_option maxHeartbeats 4000000 in
theorem sp_copyTexts {β : Bs} (A : Option Addr) (c : Nat) (d : List ByteArray) (hA : StrsAt β A d) (hl : d.length ≤ 1048576) :
    SpecB Try.prog β 22 #[.slice A d.length c] [] (fun β' v l => ∃ B cap, v = .slice B d.length cap ∧ l = [] ∧ StrsAt β' B d) := by
 refine SpecB.enter Try.func22 rfl Try.ntmps22 (Nat.le_of_ble_eq_true rfl) (fun hle0 R => ?_)
 refine Tri.seq (Tri.region ?_)
 refine TriL.segK (k' := 1) (fr' := [(0, .slice A (d.length) (c))]) (obl := []) [o_] [0] (fun _ _ => by kernel_rfl) trivial ?_
 refine TriL.nil (by kernel_rfl) (TriQ.next (Tri.seq (Tri.region ?_)))
 refine TriL.segN (k' := 2) (fr' := fun b3 => [(0, .slice A (d.length) (c)), (3, .slice (some ⟨b3, 0, none⟩) (0) (0))]) (hps' := fun b3 => [.abs R, .blk b3 [] 9]) (obl := fun b3 => []) [o_, o_] [0, 3] [0, 1] (fun _ _ => by kernel_rfl) (fun b3 => trivial) (fun b3 => ?_)
 refine TriL.nil (by kernel_rfl) (TriQ.next (Tri.seq (Tri.region ?_)))
 refine TriL.mem (fun w hS => hS.toRow (i := 1) (b := b3) (cs := []) (e := 9) 1 0 (by kernel_rfl) rfl (by decide)) ?_
 refine TriL.segK (k' := 2) (fr' := [(5, .slice (some ⟨b3, 0, none⟩) (0) (0)), (6, .slice A (d.length) (c))]) (obl := []) [o_, o_] [5, 6] (fun _ _ => by kernel_rfl) trivial ?_
 refine TriL.append 1 (d := (some 7)) (t := 40) (e := 9) (z := .string ⟨#[]⟩) (size := 1) (bytes := 16) (n := 0) (cap := 0) (A := some ⟨b3, 0, none⟩) (xs := []) (s := (.tmp 5)) (x := (.tmp 6)) (ats := #[40, 40]) (A' := A) (m := d.length) (c' := c) (news := (strsV d)) (fun _ => by kernel_rfl) rfl (by kernel_rfl) (fun _ => by kernel_rfl) (fun _ => by kernel_rfl) Try.underlying40 (by kernel_rfl) rfl (by decide) (by rw [strsV_len, Nat.mul_one]) (oneCell_strs d) (hA.src) (by unfold maxLen; omega) (by omega) (fun A4 c5 => ?_)
 refine TriL.partEq 1 (p := .abs (RowA 9 1 A4 (0 + d.length) c5 ([] ++ (strsV d)))) (p' := .abs (RowA 9 1 A4 d.length c5 (strsV d))) (by kernel_rfl) (by rw [Nat.zero_add, List.nil_append]) ?_
 refine TriL.slot 7 (.slice A4 (0 + d.length) (c5)) (.slice A4 (d.length) (c5)) (fun _ => by kernel_rfl) (by rw [Nat.zero_add]) ?_
 refine TriL.segK (k' := 4) (fr' := [(3, .slice A4 (d.length) (c5))]) (obl := []) [o_] [3] (fun _ _ => by kernel_rfl) trivial ?_
 refine TriL.nil (by kernel_rfl) (TriQ.next (Tri.seq (Tri.region ?_)))
 refine TriL.rebase (Φ := fun β' => StrsAt β' A4 d) 1 [0] (hps' := [.abs R]) rfl rfl (by kernel_rfl) (fun F w h β' h1 h2 => RowB.of_row h h1 h2) (fun β1 hle_β1 hB => ?_)
 replace hA := hA.le hle_β1
 replace hle0 := hle0.trans hle_β1
 refine TriL.segK (k' := 2) (fr' := [(2, .slice A4 (d.length) (c5))]) (obl := []) [o_, o_] [2] (fun _ _ => by kernel_rfl) trivial ?_
 refine TriL.nil (by kernel_rfl) (TriQ.next (Tri.ret ?_))
 exact TriQ.retB (v := .slice A4 (d.length) (c5)) (l := []) (obl := []) [] [0] hle0 (fun _ => by kernel_rfl) trivial rfl (by kernel_rfl) (⟨A4, c5, rfl, rfl, hB⟩)
set_option maxRecDepth 100000 in
set_option maxHeartbeats 4000000 in
theorem sp_sameTexts {β : Bs} (A1 A2 : Option Addr) (c1 c2 : Nat) (d1 d2 : List ByteArray) (hA1 : StrsAt β A1 d1) (hA2 : StrsAt β A2 d2) (hl : d1.length ≤ 1048576) :
    Spec Try.prog β 25 #[.slice A1 d1.length c1, .slice A2 d2.length c2] [] (fun v l => v = .bool (decide (d1 = d2)) ∧ l = []) := by
 refine Spec.enter Try.func25 rfl Try.ntmps25 (Nat.le_of_ble_eq_true rfl) (fun R => ?_)
 refine Tri.seq (Tri.region ?_)
 refine TriL.segK (k' := 1) (fr' := [(0, .slice A1 (d1.length) (c1)), (1, .slice A2 (d2.length) (c2))]) (obl := []) [o_] [0, 1] (fun _ _ => by kernel_rfl) trivial ?_
 refine TriL.nil (by kernel_rfl) (TriQ.next (Tri.seq (Tri.seq (Tri.region ?_))))
 refine TriL.segK (k' := 5) (fr' := [(0, .slice A1 (d1.length) (c1)), (1, .slice A2 (d2.length) (c2)), (10, .bool (!(decide ((((d1.length : Nat) : Int) : Int) = (((d2.length : Nat) : Int) : Int)))))]) (obl := []) [o_, o_, o_, o_, o_] [0, 1, 10] (fun _ _ => by kernel_rfl) trivial ?_
 refine TriL.nil (by kernel_rfl) (TriQ.next ?_)
 refine Tri.condN (p := (((d1.length : Nat) : Int) : Int) = (((d2.length : Nat) : Int) : Int)) (fun _ => by kernel_rfl) (fun h10 => ?_) (fun h10 => ?_)
 ·
  refine Tri.seq (Tri.region ?_)
  refine TriL.segK (k' := 1) (fr' := [(4, .bool false)]) (obl := []) [o_] [4] (fun _ _ => by kernel_rfl) trivial ?_
  refine TriL.nil (by kernel_rfl) (TriQ.next (Tri.ret (TriQ.passRet ?_)))
  exact TriQ.ret (v := .bool false) (l := []) (obl := []) [] [0] (fun _ => by kernel_rfl) trivial rfl (by kernel_rfl) (⟨by rw [decide_eq_false (fun e => h10 (by rw [e]))], rfl⟩)
 ·
  refine Tri.skip (TriQ.next (Tri.seq (Tri.seq (Tri.region ?_))))
  refine TriL.segK (k' := 1) (fr' := [(0, .slice A1 (d1.length) (c1)), (1, .slice A2 (d2.length) (c2)), (5, .int .i64 0)]) (obl := []) [o_] [0, 1, 5] (fun _ _ => by kernel_rfl) trivial ?_
  refine TriL.nil (by kernel_rfl) (TriQ.next (Tri.block ?_))
  refine Tri.loop (ι := Nat) (fun (i : Nat) => (i ≤ d1.length) ∧ (∀ j, j < i → d1.getD j ⟨#[]⟩ = d2.getD j ⟨#[]⟩)) (fun (i : Nat) => d1.length - i) (fun (i : Nat) => [(0, .slice A1 (d1.length) (c1)), (1, .slice A2 (d2.length) (c2)), (5, .int .i64 ↑i)]) (fun (i : Nat) => [.abs R]) 0 (idx := [0, 1, 5]) (pk := [0]) (show (0 ≤ d1.length) ∧ (∀ j, j < 0 → d1.getD j ⟨#[]⟩ = d2.getD j ⟨#[]⟩) from ⟨Nat.zero_le _, fun j hj => absurd hj (Nat.not_lt_zero j)⟩) (fun _ => by kernel_rfl) rfl (by kernel_rfl) ?_
  rintro i ⟨hi, hall⟩
  show Tri _ _ _ _ [(0, .slice A1 (d1.length) (c1)), (1, .slice A2 (d2.length) (c2)), (5, .int .i64 ↑i)] [.abs R] _
  refine Tri.seq (Tri.seq (Tri.region ?_))
  refine TriL.segK (k' := 4) (fr' := [(0, .slice A1 (d1.length) (c1)), (1, .slice A2 (d2.length) (c2)), (5, .int .i64 ↑i), (14, .bool (decide ((((i : Nat) : Int) : Int) < (((d1.length : Nat) : Int) : Int))))]) (obl := []) [o_, o_, o_, o_] [0, 1, 5, 14] (fun _ _ => by kernel_rfl) trivial ?_
  refine TriL.nil (by kernel_rfl) (TriQ.next ?_)
  refine Tri.condP (p := (((i : Nat) : Int) : Int) < (((d1.length : Nat) : Int) : Int)) (fun _ => by kernel_rfl) (fun h14 => ?_) (fun h14 => ?_)
  ·
   refine Tri.skip (TriQ.next (Tri.seq (Tri.block (Tri.seq ?_))))
   refine Tri.regionQ (by kernel_rfl) (by kernel_rfl) ?_
   refine TriLQ.seg (k' := 9) (fr' := [(0, .slice A1 (d1.length) (c1)), (1, .slice A2 (d2.length) (c2)), (5, .int .i64 ↑i), (25, .bool (!(decide (((sAt d1 i) : ByteArray) = (sAt d2 i)))))]) (obl := [(Value.bool (!(((sAt d1 i) : ByteArray).toList == ((sAt d2 i) : ByteArray).toList))) = (.bool (!(decide (((sAt d1 i) : ByteArray) = (sAt d2 i))))), (Rd β ⟨(blkOf A2), offOf A2 + i * 1, none⟩ (.string (sAt d2 i))), ((i : Nat) : Int) = ((i : Nat) : Int), i < d2.length, (⟨(blkOf A2), offOf A2, none⟩ : Addr).spot = none, (A2 : Option Addr) = some ⟨(blkOf A2), offOf A2, none⟩, (Rd β ⟨(blkOf A1), offOf A1 + i * 1, none⟩ (.string (sAt d1 i))), ((i : Nat) : Int) = ((i : Nat) : Int), i < d1.length, (⟨(blkOf A1), offOf A1, none⟩ : Addr).spot = none, (A1 : Option Addr) = some ⟨(blkOf A1), offOf A1, none⟩]) [o_, o_, ⟨[], some i, none, some ⟨(blkOf A1), offOf A1, none⟩, none⟩, ⟨[.old (.string (sAt d1 i))], none, none, none, none⟩, o_, o_, ⟨[], some i, none, some ⟨(blkOf A2), offOf A2, none⟩, none⟩, ⟨[.old (.string (sAt d2 i))], none, none, none, none⟩, ⟨[], none, none, none, some (.bool (!(decide (((sAt d1 i) : ByteArray) = (sAt d2 i)))))⟩] [0, 1, 5, 25] (fun _ _ => by kernel_rfl) ⟨strNeV _ _, StrsAt.rd hA2 (by omega), rfl, by omega, rfl, StrsAt.hd hA2 (j := i) (by omega), StrsAt.rd hA1 (by omega), rfl, by omega, rfl, StrsAt.hd hA1 (j := i) (by omega), trivial⟩ ?_
   refine TriLQ.nil (by kernel_rfl) (TriQ.next ?_)
   refine Tri.condN (p := ((sAt d1 i) : ByteArray) = (sAt d2 i)) (fun _ => by kernel_rfl) (fun h25 => ?_) (fun h25 => ?_)
   ·
    refine Tri.seq (Tri.region ?_)
    refine TriL.segK (k' := 1) (fr' := [(4, .bool false)]) (obl := []) [o_] [4] (fun _ _ => by kernel_rfl) trivial ?_
    refine TriL.nil (by kernel_rfl) (TriQ.next (Tri.ret (TriQ.blockRet (TriQ.passRet (TriQ.passRet (TriQ.blockRet (TriQ.passRet ?_)))))))
    exact TriQ.ret (v := .bool false) (l := []) (obl := []) [] [0] (fun _ => by kernel_rfl) trivial rfl (by kernel_rfl) (⟨by rw [decide_eq_false (fun e => h25 (by rw [e]))], rfl⟩)
   ·
    refine Tri.skip (TriQ.blockNormal (TriQ.next (Tri.region ?_)))
    refine TriL.segK (k' := 3) (fr' := [(0, .slice A1 (d1.length) (c1)), (1, .slice A2 (d2.length) (c2)), (5, .int .i64 ↑(i + 1))]) (obl := [(Value.int .i64 (IntKind.wrap .i64 (((i : Nat) : Int) + 1))) = (.int .i64 ↑(i + 1))]) [o_, ⟨[], none, none, none, some (.int .i64 ↑(i + 1))⟩, o_] [0, 1, 5] (fun _ _ => by kernel_rfl) ⟨wrapEq (by omega) (by omega) (by omega), trivial⟩ ?_
    refine TriL.nil (by kernel_rfl) ?_
    exact TriQ.turn ((i + 1)) (idx := [0, 1, 5]) (pk := [0]) (show (((i + 1)) ≤ d1.length) ∧ (∀ j, j < ((i + 1)) → d1.getD j ⟨#[]⟩ = d2.getD j ⟨#[]⟩) from ⟨by omega, fun j hj => by rcases Nat.lt_succ_iff_lt_or_eq.1 hj with h | h; exact hall j h; subst h; exact h25⟩) (by show d1.length - ((i + 1)) < d1.length - i; omega) (fun _ => by kernel_rfl) rfl (by kernel_rfl)
  ·
   refine Tri.exit (TriQ.passExit (TriQ.passExit (TriQ.blockHit (TriQ.next (Tri.seq (Tri.region ?_))))))
   refine TriL.segK (k' := 1) (fr' := [(4, .bool true)]) (obl := []) [o_] [4] (fun _ _ => by kernel_rfl) trivial ?_
   refine TriL.nil (by kernel_rfl) (TriQ.next (Tri.ret ?_))
   exact TriQ.ret (v := .bool true) (l := []) (obl := []) [] [0] (fun _ => by kernel_rfl) trivial rfl (by kernel_rfl) (⟨by rw [decide_eq_true (ext_getD (x := ⟨#[]⟩) (by omega) (fun j hj => hall j (by omega)))], rfl⟩)
end Go.Proofs.Ytjpdcppdoonmdaa
end
/- part GYa. PROVED HERE: small facts: a name of one letter is good; small numbers. CONDITIONS: none. -/
section
namespace Go.Proofs.Ytjpdcppdoonmdaa
open Go.RowKit
theorem i64_small {z : Int} (h : 0 ≤ z ∧ z ≤ 1000) : I64 z := by unfold I64; omega
theorem good_one {b : UInt8} (h0 : ¬ b = 0) (h1 : ¬ b = 47) (h2 : ¬ b = 46) : GoodName ⟨#[b]⟩ := by
  refine ⟨Nat.le_refl _, (by show 1 ≤ 255; decide), fun e => h2 ?_, fun e => ?_, fun j hj => ?_⟩
  · injection e with e
    have e : [b] = [46] := congrArg Array.toList e
    injection e
  · injection e with e
    have e : [b] = [46, 46] := congrArg Array.toList e
    injection e with _ e
    cases e
  · have : j = 0 := by have hj : j < 1 := hj; omega
    subst this
    show ¬ b.toNat = 0 ∧ ¬ b.toNat = 47
    exact ⟨fun e => h0 (UInt8.toNat_inj.1 e), fun e => h1 (UInt8.toNat_inj.1 e)⟩
theorem time_zero : TimeOk 0 0 := ⟨by decide, by decide, by decide, by decide, by decide⟩
end Go.Proofs.Ytjpdcppdoonmdaa
end
/- part GY. PROVED HERE: the laws' little graph: it is well-formed, and what Find answers in it. CONDITIONS: none. -/
section
namespace Go.Proofs.Ytjpdcppdoonmdaa
open Go.RowKit Go.Maps
def ltA : ByteArray := ⟨#[97]⟩
def ltB : ByteArray := ⟨#[98]⟩
def ltC : ByteArray := ⟨#[99]⟩
def little1 : NodeM := ⟨1, 2, 0, 0, 0, 0, 0, [], ⟨#[]⟩, [⟨⟨#[97]⟩, 5⟩, ⟨⟨#[98]⟩, 7⟩]⟩
def little2 : NodeM := ⟨5, 2, 0, 0, 0, 0, 0, [], ⟨#[]⟩, [⟨⟨#[99]⟩, 7⟩]⟩
def little3 : NodeM := ⟨7, 1, 0, 0, 0, 0, 0, [120], ⟨#[]⟩, []⟩
def littleM : List NodeM := [little1, little2, little3]
def littleL (b1 b2 b3 : Nat) : Lay :=
  ⟨fun i => if i = 2 then some ⟨b3, 0, none⟩ else none, fun i => if i = 0 then some ⟨b1, 0, none⟩ else if i = 1 then some ⟨b2, 0, none⟩ else none, fun i => if i = 2 then 1 else 0, fun i => if i = 0 then 2 else if i = 1 then 1 else 0⟩
theorem three {i : Nat} (h : i < littleM.length) : i = 0 ∨ i = 1 ∨ i = 2 := by
  have : i < 3 := h
  omega
theorem GraphAt.little {β : Bs} {B : Option Addr} {b1 b2 b3 : Nat} (hR : RowB β B (nodesV (littleL b1 b2 b3) littleM)) (h1 : EntsAt β (some ⟨b1, 0, none⟩) little1.ents) (h2 : EntsAt β (some ⟨b2, 0, none⟩) little2.ents) (h3 : BytesAt β (some ⟨b3, 0, none⟩) little3.data) :
    GraphAt β B littleM (littleL b1 b2 b3) := by
  refine ⟨hR, fun i hi => ?_, fun i hi => ?_⟩
  · rcases three hi with rfl | rfl | rfl
    · exact RowB.nil
    · exact RowB.nil
    · exact h3
  · rcases three hi with rfl | rfl | rfl
    · exact h1
    · exact h2
    · exact RowB.nil
theorem little_bound : GraphB littleM 1048576 := by
  refine ⟨by decide, fun i hi => ?_⟩
  rcases three hi with rfl | rfl | rfl
  · exact ⟨⟨i64_small (by decide), i64_small (by decide), i64_small (by decide), i64_small (by decide), i64_small (by decide), i64_small (by decide), i64_small (by decide)⟩, by decide, by decide, by decide, fun j hj => by
      have hj : j < 2 := hj
      have : j = 0 ∨ j = 1 := by omega
      rcases this with rfl | rfl
      · exact ⟨i64_small (by decide), by decide⟩
      · exact ⟨i64_small (by decide), by decide⟩⟩
  · exact ⟨⟨i64_small (by decide), i64_small (by decide), i64_small (by decide), i64_small (by decide), i64_small (by decide), i64_small (by decide), i64_small (by decide)⟩, by decide, by decide, by decide, fun j hj => by
      have hj : j < 1 := hj
      have : j = 0 := by omega
      subst this
      exact ⟨i64_small (by decide), by decide⟩⟩
  · exact ⟨⟨i64_small (by decide), i64_small (by decide), i64_small (by decide), i64_small (by decide), i64_small (by decide), i64_small (by decide), i64_small (by decide)⟩, by decide, by decide, by decide, fun j hj => absurd hj (Nat.not_lt_zero j)⟩
theorem little_e0 : EntOk littleM 0 0 := ⟨by decide, good_one (by decide) (by decide) (by decide), not_strLe.2 (by decide)⟩
theorem little_e1 : EntOk littleM 0 1 := ⟨by decide, good_one (by decide) (by decide) (by decide), not_strLe.2 (by decide)⟩
theorem little_e2 : EntOk littleM 1 0 := ⟨by decide, good_one (by decide) (by decide) (by decide), not_strLe.2 (by decide)⟩
theorem little_edges : (allE littleM 3).map (idP littleM) = [(5, 1)] := by decide
theorem little_ok : GraphOk littleM := by
  refine ⟨by decide, fun i hi => ?_, fun i hi => ?_, fun i j hij hj => ?_, by decide, fun i hi j hj => ?_, by decide, fun z => ?_⟩
  · rcases three hi with rfl | rfl | rfl
    · exact ⟨by decide, by decide, by decide, by decide, time_zero, fun _ => rfl, fun h => absurd rfl h, .inl ⟨by decide, rfl⟩⟩
    · exact ⟨by decide, by decide, by decide, by decide, time_zero, fun _ => rfl, fun h => absurd rfl h, .inl ⟨by decide, rfl⟩⟩
    · exact ⟨by decide, by decide, by decide, by decide, time_zero, fun h => absurd rfl h, fun _ => rfl, .inl ⟨by decide, rfl⟩⟩
  · rcases three hi with rfl | rfl | rfl <;> exact ⟨by decide, by decide⟩
  · rcases three hj with rfl | rfl | rfl
    · omega
    · have : i = 0 := by omega
      subst this; decide
    · have : i = 0 ∨ i = 1 := by omega
      rcases this with rfl | rfl <;> decide
  · rcases three hi with rfl | rfl | rfl
    · have hj : j < 2 := hj
      have : j = 0 ∨ j = 1 := by omega
      rcases this with rfl | rfl
      · exact little_e0
      · exact little_e1
    · have hj : j < 1 := hj
      have : j = 0 := by omega
      subst this
      exact little_e2
    · exact absurd hj (Nat.not_lt_zero j)
  · have e : (allE littleM littleM.length).map (idP littleM) = [(5, 1)] := little_edges
    rw [e]
    by_cases h : z = 5
    · subst h
      exact ⟨1, 1, rfl, rfl⟩
    · refine ⟨0, ?_⟩
      show up _ z = none
      unfold up
      have : (z == 5) = false := by simp [h]
      rw [List.lookup_cons, this]
      rfl
theorem little_find : findG littleM 1 [ltA, ltC] = (7, 0) := by
  rw [findG_ok (beginC_ok little_ok (by decide) (by decide))]
  have h0 : tgt littleM 1 = 0 := by decide
  have h1 : findE (nd littleM 0).ents ltA = some 0 := by decide
  have h2 : tgt littleM (en (nd littleM 0).ents 0).id = 1 := by decide
  have h3 : findE (nd littleM 1).ents ltC = some 0 := by decide
  have h4 : tgt littleM (en (nd littleM 1).ents 0).id = 2 := by decide
  rw [h0, findM, if_neg (by decide), if_neg (by decide), h1]
  show findM littleM (tgt littleM (en (nd littleM 0).ents 0).id) [ltC] = _
  rw [h2, findM, if_neg (by decide), if_neg (by decide), h3]
  show findM littleM (tgt littleM (en (nd littleM 1).ents 0).id) [] = _
  rw [h4]
  rfl
end Go.Proofs.Ytjpdcppdoonmdaa
end
