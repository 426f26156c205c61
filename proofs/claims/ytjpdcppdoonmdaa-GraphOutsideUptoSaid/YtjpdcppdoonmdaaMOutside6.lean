/-
  PROVED HERE: lemmas and contracts of functions (texts of this repo, joined): GPlA, Fam, GPl, GPv, GPw, GPx, Ld, GPo, GOd, LawO.
  CONDITIONS: as the theorems say.
-/
import Derived.Test.YtjpdcppdoonmdaaMOutside5
import Derived.Lib.LastIndexByte
/- part GPlA. PROVED HERE: lines are copied and compared CONDITIONS: as the theorems say. Printed by a program of this repo (wip/v). -/
section
namespace Go.Proofs.Ytjpdcppdoonmdaa
open Go.RowKit
attribute [local irreducible] TriL TriLQ Tri TriQ
theorem linesV_put {ls : List LineM} {K : LayL} {k : Nat} {B : Option Addr} {c : Nat} (h : k < ls.length) : linesV K (ls.take k) ++ lineV B c (ln ls k) = linesV (K.put k B c) (ls.take (k + 1)) := by
  have e : ls.take (k + 1) = ls.take k ++ [ln ls k] := by
    rw [List.take_add_one]
    congr 1
    unfold ln
    rw [List.getD_eq_getElem?_getD, List.getElem?_eq_getElem h]
    rfl
  have hl : (ls.take k).length = k := by rw [List.length_take]; omega
  have := linesV_snoc (M := K) (ls := ls.take k) (ln ls k) B c
  rw [hl] at this
  rw [this, e]
theorem linesIn_put {β : Bs} {ls : List LineM} {K : LayL} {k : Nat} {B : Option Addr} {c : Nat} (h : k < ls.length) (hI : LinesIn β (ls.take k) K) (hB : BytesAt β B (ln ls k).data) : LinesIn β (ls.take (k + 1)) (K.put k B c) := by
  have e : ls.take (k + 1) = ls.take k ++ [ln ls k] := by
    rw [List.take_add_one]
    congr 1
    unfold ln
    rw [List.getD_eq_getElem?_getD, List.getElem?_eq_getElem h]
    rfl
  have hl : (ls.take k).length = k := by rw [List.length_take]; omega
  have := LinesIn.snoc hI hB (c := c)
  rw [hl] at this
  rw [e]; exact this
set_option maxRecDepth 100000 in
set_option maxHeartbeats 4000000 in
theorem sp_eqBytes {β : Bs} (A1 A2 : Option Addr) (c1 c2 : Nat) (d1 d2 : List UInt8) (hA1 : BytesAt β A1 d1) (hA2 : BytesAt β A2 d2) (hl : d1.length ≤ 1048576) :
    Spec Try.prog β 65 #[.slice A1 d1.length c1, .slice A2 d2.length c2] [] (fun v l => v = .bool (decide (d1 = d2)) ∧ l = []) := by
 refine Spec.enter Try.func65 rfl Try.ntmps65 (Nat.le_of_ble_eq_true rfl) (fun R => ?_)
 refine Tri.seq (Tri.region ?_)
 refine TriL.segK (k' := 1) (fr' := [(0, .slice A1 (d1.length) (c1)), (1, .slice A2 (d2.length) (c2))]) (obl := []) [o_] [0, 1] (fun _ _ => by kernel_rfl) trivial ?_
 refine TriL.nil (by kernel_rfl) (TriQ.next (Tri.seq (Tri.seq (Tri.region ?_))))
 refine TriL.segK (k' := 5) (fr' := [(0, .slice A1 (d1.length) (c1)), (1, .slice A2 (d2.length) (c2)), (10, .bool (!(decide ((((d1.length : Nat) : Int) : Int) = (((d2.length : Nat) : Int) : Int)))))]) (obl := []) [o_, o_, o_, o_, o_] [0, 1, 10] (fun _ _ => by kernel_rfl) trivial ?_
 refine TriL.nil (by kernel_rfl) (TriQ.next ?_)
 refine Tri.condN (p := (((d1.length : Nat) : Int) : Int) = (((d2.length : Nat) : Int) : Int)) (fun _ => by kernel_rfl) (fun h10 => ?_) (fun h10 => ?_)
 ·
  refine Tri.seq (Tri.region ?_)
  refine TriL.segK (k' := 1) (fr' := [(4, .bool false)]) (obl := []) [o_] [4] (fun _ _ => by kernel_rfl) trivial ?_
  refine TriL.nil (by kernel_rfl) (TriQ.next (Tri.ret (TriQ.passRet ?_)))
  exact TriQ.ret (v := .bool false) (l := []) (obl := []) [] [0] (fun _ => by kernel_rfl) trivial rfl (by kernel_rfl) (⟨by rw [decide_eq_false (fun e => h10 (by rw [e]))], rfl⟩)
 ·
  refine Tri.skip (TriQ.next (Tri.seq (Tri.seq (Tri.region ?_))))
  refine TriL.segK (k' := 3) (fr' := [(0, .slice A1 (d1.length) (c1)), (1, .slice A2 (d2.length) (c2)), (12, .int .i64 ↑d1.length), (13, .int .i64 0)]) (obl := []) [o_, o_, o_] [0, 1, 12, 13] (fun _ _ => by kernel_rfl) trivial ?_
  refine TriL.nil (by kernel_rfl) (TriQ.next (Tri.block ?_))
  refine Tri.loop (ι := Nat) (fun (i : Nat) => (i ≤ d1.length) ∧ (∀ j, j < i → d1.getD j 0 = d2.getD j 0)) (fun (i : Nat) => d1.length - i) (fun (i : Nat) => [(0, .slice A1 (d1.length) (c1)), (1, .slice A2 (d2.length) (c2)), (12, .int .i64 ↑d1.length), (13, .int .i64 ↑i)]) (fun (i : Nat) => [.abs R]) 0 (idx := [0, 1, 12, 13]) (pk := [0]) (show (0 ≤ d1.length) ∧ (∀ j, j < 0 → d1.getD j 0 = d2.getD j 0) from ⟨Nat.zero_le _, fun j hj => absurd hj (Nat.not_lt_zero j)⟩) (fun _ => by kernel_rfl) rfl (by kernel_rfl) ?_
  rintro i ⟨hi, hall⟩
  show Tri _ _ _ _ [(0, .slice A1 (d1.length) (c1)), (1, .slice A2 (d2.length) (c2)), (12, .int .i64 ↑d1.length), (13, .int .i64 ↑i)] [.abs R] _
  refine Tri.seq (Tri.region ?_)
  refine TriL.segK (k' := 1) (fr' := [(0, .slice A1 (d1.length) (c1)), (1, .slice A2 (d2.length) (c2)), (12, .int .i64 ↑d1.length), (13, .int .i64 ↑i), (14, .bool (decide ((((i : Nat) : Int) : Int) < (((d1.length : Nat) : Int) : Int))))]) (obl := []) [o_] [0, 1, 12, 13, 14] (fun _ _ => by kernel_rfl) trivial ?_
  refine TriL.nil (by kernel_rfl) (TriQ.next (Tri.seq ?_))
  refine Tri.condP (p := (((i : Nat) : Int) : Int) < (((d1.length : Nat) : Int) : Int)) (fun _ => by kernel_rfl) (fun h14 => ?_) (fun h14 => ?_)
  ·
   refine Tri.skip (TriQ.next (Tri.seq (Tri.block (Tri.seq (Tri.region ?_)))))
   refine TriL.segK (k' := 2) (fr' := [(0, .slice A1 (d1.length) (c1)), (1, .slice A2 (d2.length) (c2)), (5, .int .i64 ↑i), (12, .int .i64 ↑d1.length), (13, .int .i64 ↑i)]) (obl := []) [o_, o_] [0, 1, 5, 12, 13] (fun _ _ => by kernel_rfl) trivial ?_
   refine TriL.nil (by kernel_rfl) (TriQ.next (Tri.seq ?_))
   refine Tri.regionQ (by kernel_rfl) (by kernel_rfl) ?_
   refine TriLQ.seg (k' := 9) (fr' := [(0, .slice A1 (d1.length) (c1)), (1, .slice A2 (d2.length) (c2)), (12, .int .i64 ↑d1.length), (13, .int .i64 ↑i), (24, .bool (!(decide (((((List.getD d1 i 0).toNat : Nat) : Int) : Int) = ((((List.getD d2 i 0).toNat : Nat) : Int) : Int)))))]) (obl := [(Rd β ⟨(blkOf A2), offOf A2 + i * 1, none⟩ (.int .u8 ((((List.getD d2 i 0).toNat : Nat) : Int)))), ((i : Nat) : Int) = ((i : Nat) : Int), i < d2.length, (⟨(blkOf A2), offOf A2, none⟩ : Addr).spot = none, (A2 : Option Addr) = some ⟨(blkOf A2), offOf A2, none⟩, (Rd β ⟨(blkOf A1), offOf A1 + i * 1, none⟩ (.int .u8 ((((List.getD d1 i 0).toNat : Nat) : Int)))), ((i : Nat) : Int) = ((i : Nat) : Int), i < d1.length, (⟨(blkOf A1), offOf A1, none⟩ : Addr).spot = none, (A1 : Option Addr) = some ⟨(blkOf A1), offOf A1, none⟩]) [o_, o_, ⟨[], some i, none, some ⟨(blkOf A1), offOf A1, none⟩, none⟩, ⟨[.old (.int .u8 ((((List.getD d1 i 0).toNat : Nat) : Int)))], none, none, none, none⟩, o_, o_, ⟨[], some i, none, some ⟨(blkOf A2), offOf A2, none⟩, none⟩, ⟨[.old (.int .u8 ((((List.getD d2 i 0).toNat : Nat) : Int)))], none, none, none, none⟩, o_] [0, 1, 12, 13, 24] (fun _ _ => by kernel_rfl) ⟨BytesAt.rd hA2 (by omega), rfl, by omega, rfl, BytesAt.hd hA2 (j := i) (by omega), BytesAt.rd hA1 (by omega), rfl, by omega, rfl, BytesAt.hd hA1 (j := i) (by omega), trivial⟩ ?_
   refine TriLQ.nil (by kernel_rfl) (TriQ.next ?_)
   refine Tri.condN (p := ((((List.getD d1 i 0).toNat : Nat) : Int) : Int) = ((((List.getD d2 i 0).toNat : Nat) : Int) : Int)) (fun _ => by kernel_rfl) (fun h24 => ?_) (fun h24 => ?_)
   ·
    refine Tri.seq (Tri.region ?_)
    refine TriL.segK (k' := 1) (fr' := [(4, .bool false)]) (obl := []) [o_] [4] (fun _ _ => by kernel_rfl) trivial ?_
    refine TriL.nil (by kernel_rfl) (TriQ.next (Tri.ret (TriQ.blockRet (TriQ.passRet (TriQ.passRet (TriQ.blockRet (TriQ.passRet ?_)))))))
    exact TriQ.ret (v := .bool false) (l := []) (obl := []) [] [0] (fun _ => by kernel_rfl) trivial rfl (by kernel_rfl) (⟨by rw [decide_eq_false (fun e => h24 (by rw [e]))], rfl⟩)
   ·
    refine Tri.skip (TriQ.blockNormal (TriQ.next (Tri.region ?_)))
    refine TriL.segK (k' := 2) (fr' := [(0, .slice A1 (d1.length) (c1)), (1, .slice A2 (d2.length) (c2)), (12, .int .i64 ↑d1.length), (13, .int .i64 ↑(i + 1))]) (obl := [(Value.int .i64 (IntKind.wrap .i64 (((i : Nat) : Int) + 1))) = (.int .i64 ↑(i + 1))]) [⟨[], none, none, none, some (.int .i64 ↑(i + 1))⟩, o_] [0, 1, 12, 13] (fun _ _ => by kernel_rfl) ⟨wrapEq (by omega) (by omega) (by omega), trivial⟩ ?_
    refine TriL.nil (by kernel_rfl) ?_
    exact TriQ.turn ((i + 1)) (idx := [0, 1, 12, 13]) (pk := [0]) (show (((i + 1)) ≤ d1.length) ∧ (∀ j, j < ((i + 1)) → d1.getD j 0 = d2.getD j 0) from ⟨by omega, fun j hj => by rcases Nat.lt_succ_iff_lt_or_eq.1 hj with h | h; exact hall j h; subst h; exact byte_eq h24⟩) (by show d1.length - ((i + 1)) < d1.length - i; omega) (fun _ => by kernel_rfl) rfl (by kernel_rfl)
  ·
   refine Tri.exit (TriQ.passExit (TriQ.passExit (TriQ.blockHit (TriQ.next (Tri.seq (Tri.region ?_))))))
   refine TriL.segK (k' := 1) (fr' := [(4, .bool true)]) (obl := []) [o_] [4] (fun _ _ => by kernel_rfl) trivial ?_
   refine TriL.nil (by kernel_rfl) (TriQ.next (Tri.ret ?_))
   exact TriQ.ret (v := .bool true) (l := []) (obl := []) [] [0] (fun _ => by kernel_rfl) trivial rfl (by kernel_rfl) (⟨by rw [decide_eq_true (ext_getD (x := 0) (by omega) (fun j hj => hall j (by omega)))], rfl⟩)
set_option maxRecDepth 100000 in
set_option maxHeartbeats 4000000 in
theorem sp_gsameLine {β : Bs} (l m : LineM) (dA dB : Option Addr) (dC dD : Nat) (hD : BytesAt β dA l.data) (hD2 : BytesAt β dB m.data) (hl1 : l.data.length ≤ 1048576) :
    Spec Try.prog β 53 #[.agg #[.string l.path, .int .i64 (l.kind), .int .i64 (l.mode), .int .i64 (l.uid), .int .i64 (l.gid), .int .i64 (l.sec), .int .i64 (l.nano), .slice dA (l.data.length) (dC), .string l.target, .string l.peer], .agg #[.string m.path, .int .i64 (m.kind), .int .i64 (m.mode), .int .i64 (m.uid), .int .i64 (m.gid), .int .i64 (m.sec), .int .i64 (m.nano), .slice dB (m.data.length) (dD), .string m.target, .string m.peer]] [] (fun v k => v = .bool (decide (l = m)) ∧ k = []) := by
 refine Spec.enter Try.func53 rfl Try.ntmps53 (Nat.le_of_ble_eq_true rfl) (fun R => ?_)
 refine Tri.seq (Tri.region ?_)
 refine TriL.segN (k' := 1) (fr' := fun b1 => [(1, .agg #[.string m.path, .int .i64 (m.kind), .int .i64 (m.mode), .int .i64 (m.uid), .int .i64 (m.gid), .int .i64 (m.sec), .int .i64 (m.nano), .slice dB (m.data.length) (dD), .string m.target, .string m.peer]), (2, .pointer (some ⟨b1, 0, none⟩))]) (hps' := fun b1 => [.abs R, .blk b1 [.string l.path, .int .i64 (l.kind), .int .i64 (l.mode), .int .i64 (l.uid), .int .i64 (l.gid), .int .i64 (l.sec), .int .i64 (l.nano), .slice dA (l.data.length) (dC), .string l.target, .string l.peer] 51]) (obl := fun b1 => []) [o_] [1, 2] [0, 1] (fun _ _ => by kernel_rfl) (fun b1 => trivial) (fun b1 => ?_)
 refine TriL.segN (k' := 3) (fr' := fun b2 => [(2, .pointer (some ⟨b1, 0, none⟩)), (3, .pointer (some ⟨b2, 0, none⟩))]) (hps' := fun b2 => [.abs R, .blk b1 [.string l.path, .int .i64 (l.kind), .int .i64 (l.mode), .int .i64 (l.uid), .int .i64 (l.gid), .int .i64 (l.sec), .int .i64 (l.nano), .slice dA (l.data.length) (dC), .string l.target, .string l.peer] 51, .blk b2 [.string m.path, .int .i64 (m.kind), .int .i64 (m.mode), .int .i64 (m.uid), .int .i64 (m.gid), .int .i64 (m.sec), .int .i64 (m.nano), .slice dB (m.data.length) (dD), .string m.target, .string m.peer] 51]) (obl := fun b2 => []) [o_, o_] [2, 3] [0, 1, 2] (fun _ _ => by kernel_rfl) (fun b2 => trivial) (fun b2 => ?_)
 refine TriL.nil (by kernel_rfl) (TriQ.next (Tri.seq (Tri.region ?_)))
 refine TriL.segK (k' := 6) (fr' := [(2, .pointer (some ⟨b1, 0, none⟩)), (3, .pointer (some ⟨b2, 0, none⟩)), (10, .bool (decide ((l.path : ByteArray) = m.path)))]) (obl := [(Value.bool ((l.path : ByteArray).toList == (m.path : ByteArray).toList)) = (.bool (decide ((l.path : ByteArray) = m.path))), b2 = b2, b1 = b1]) [o_, ⟨[.at 1], none, none, none, none⟩, o_, ⟨[.at 2], none, none, none, none⟩, ⟨[], none, none, none, some (.bool (decide ((l.path : ByteArray) = m.path)))⟩, o_] [2, 3, 10] (fun _ _ => by kernel_rfl) ⟨strEqV _ _, rfl, rfl, trivial⟩ ?_
 refine TriL.slotP 10 ((l.path : ByteArray) = m.path) (fun _ => by kernel_rfl) (fun h10 => ?_) (fun h10 => ?_)
 ·
  refine TriL.segK (k' := 13) (fr' := [(2, .pointer (some ⟨b1, 0, none⟩)), (3, .pointer (some ⟨b2, 0, none⟩)), (17, .bool (decide ((l.kind : Int) = (m.kind : Int))))]) (obl := [b2 = b2, b1 = b1]) [o_, ⟨[.at 1], none, none, none, none⟩, o_, ⟨[.at 2], none, none, none, none⟩, o_, o_, o_] [2, 3, 17] (fun _ _ => by kernel_rfl) ⟨rfl, rfl, trivial⟩ ?_
  refine TriL.slotP 17 ((l.kind : Int) = (m.kind : Int)) (fun _ => by kernel_rfl) (fun h17 => ?_) (fun h17 => ?_)
  ·
   refine TriL.segK (k' := 20) (fr' := [(2, .pointer (some ⟨b1, 0, none⟩)), (3, .pointer (some ⟨b2, 0, none⟩)), (24, .bool (decide ((l.mode : Int) = (m.mode : Int))))]) (obl := [b2 = b2, b1 = b1]) [o_, ⟨[.at 1], none, none, none, none⟩, o_, ⟨[.at 2], none, none, none, none⟩, o_, o_, o_] [2, 3, 24] (fun _ _ => by kernel_rfl) ⟨rfl, rfl, trivial⟩ ?_
   refine TriL.slotP 24 ((l.mode : Int) = (m.mode : Int)) (fun _ => by kernel_rfl) (fun h24 => ?_) (fun h24 => ?_)
   ·
    refine TriL.segK (k' := 27) (fr' := [(2, .pointer (some ⟨b1, 0, none⟩)), (3, .pointer (some ⟨b2, 0, none⟩)), (31, .bool (decide ((l.uid : Int) = (m.uid : Int))))]) (obl := [b2 = b2, b1 = b1]) [o_, ⟨[.at 1], none, none, none, none⟩, o_, ⟨[.at 2], none, none, none, none⟩, o_, o_, o_] [2, 3, 31] (fun _ _ => by kernel_rfl) ⟨rfl, rfl, trivial⟩ ?_
    refine TriL.slotP 31 ((l.uid : Int) = (m.uid : Int)) (fun _ => by kernel_rfl) (fun h31 => ?_) (fun h31 => ?_)
    ·
     refine TriL.segK (k' := 34) (fr' := [(2, .pointer (some ⟨b1, 0, none⟩)), (3, .pointer (some ⟨b2, 0, none⟩)), (38, .bool (decide ((l.gid : Int) = (m.gid : Int))))]) (obl := [b2 = b2, b1 = b1]) [o_, ⟨[.at 1], none, none, none, none⟩, o_, ⟨[.at 2], none, none, none, none⟩, o_, o_, o_] [2, 3, 38] (fun _ _ => by kernel_rfl) ⟨rfl, rfl, trivial⟩ ?_
     refine TriL.slotP 38 ((l.gid : Int) = (m.gid : Int)) (fun _ => by kernel_rfl) (fun h38 => ?_) (fun h38 => ?_)
     ·
      refine TriL.segK (k' := 38) (fr' := [(2, .pointer (some ⟨b1, 0, none⟩)), (3, .pointer (some ⟨b2, 0, none⟩)), (38, .bool true), (40, .agg #[.int .i64 (l.sec), .int .i64 (l.nano)]), (42, .agg #[.int .i64 (m.sec), .int .i64 (m.nano)])]) (obl := [b2 = b2, b2 = b2, b1 = b1, b1 = b1]) [o_, ⟨[.at 1, .at 1], none, none, none, none⟩, o_, ⟨[.at 2, .at 2], none, none, none, none⟩] [2, 3, 38, 40, 42] (fun _ _ => by kernel_rfl) ⟨rfl, rfl, rfl, rfl, trivial⟩ ?_
      refine TriL.run1 (d := (some 43)) (op := .binOp .eql 28 (.tmp 40) (.tmp 42) 28) (v := .bool (decide ((l.sec : Int) = (m.sec : Int) ∧ (l.nano : Int) = (m.nano : Int)))) (fun _ => by kernel_rfl) (fun o junk w ho hS => ⟨w, ran_timeEq ho (by kernel_rfl) (by kernel_rfl), hS⟩) ?_
      refine TriL.segK (k' := 41) (fr' := [(2, .pointer (some ⟨b1, 0, none⟩)), (3, .pointer (some ⟨b2, 0, none⟩)), (45, .bool (decide ((l.sec : Int) = (m.sec : Int) ∧ (l.nano : Int) = (m.nano : Int))))]) (obl := []) [o_, o_] [2, 3, 45] (fun _ _ => by kernel_rfl) trivial ?_
      refine TriL.slotP 45 ((l.sec : Int) = (m.sec : Int) ∧ (l.nano : Int) = (m.nano : Int)) (fun _ => by kernel_rfl) (fun h45 => ?_) (fun h45 => ?_)
      ·
       refine TriL.segK (k' := 48) (fr' := [(2, .pointer (some ⟨b1, 0, none⟩)), (3, .pointer (some ⟨b2, 0, none⟩)), (52, .bool (decide ((l.target : ByteArray) = m.target)))]) (obl := [(Value.bool ((l.target : ByteArray).toList == (m.target : ByteArray).toList)) = (.bool (decide ((l.target : ByteArray) = m.target))), b2 = b2, b1 = b1]) [o_, ⟨[.at 1], none, none, none, none⟩, o_, ⟨[.at 2], none, none, none, none⟩, ⟨[], none, none, none, some (.bool (decide ((l.target : ByteArray) = m.target)))⟩, o_, o_] [2, 3, 52] (fun _ _ => by kernel_rfl) ⟨strEqV _ _, rfl, rfl, trivial⟩ ?_
       refine TriL.slotP 52 ((l.target : ByteArray) = m.target) (fun _ => by kernel_rfl) (fun h52 => ?_) (fun h52 => ?_)
       ·
        refine TriL.segK (k' := 55) (fr' := [(2, .pointer (some ⟨b1, 0, none⟩)), (3, .pointer (some ⟨b2, 0, none⟩)), (59, .bool (decide ((l.peer : ByteArray) = m.peer)))]) (obl := [(Value.bool ((l.peer : ByteArray).toList == (m.peer : ByteArray).toList)) = (.bool (decide ((l.peer : ByteArray) = m.peer))), b2 = b2, b1 = b1]) [o_, ⟨[.at 1], none, none, none, none⟩, o_, ⟨[.at 2], none, none, none, none⟩, ⟨[], none, none, none, some (.bool (decide ((l.peer : ByteArray) = m.peer)))⟩, o_, o_] [2, 3, 59] (fun _ _ => by kernel_rfl) ⟨strEqV _ _, rfl, rfl, trivial⟩ ?_
        refine TriL.slotP 59 ((l.peer : ByteArray) = m.peer) (fun _ => by kernel_rfl) (fun h59 => ?_) (fun h59 => ?_)
        ·
         refine TriL.segK (k' := 59) (fr' := [(59, .bool true), (61, .slice dA (l.data.length) (dC)), (63, .slice dB (m.data.length) (dD))]) (obl := [b2 = b2, b1 = b1]) [o_, ⟨[.at 1], none, none, none, none⟩, o_, ⟨[.at 2], none, none, none, none⟩] [59, 61, 63] (fun _ _ => by kernel_rfl) ⟨rfl, rfl, trivial⟩ ?_
         refine TriL.call (f := 65) (args := #[.slice dA (l.data.length) (dC), .slice dB (m.data.length) (dD)]) (d := (some 64)) (pre := []) (R := [.abs R, .blk b1 [.string l.path, .int .i64 (l.kind), .int .i64 (l.mode), .int .i64 (l.uid), .int .i64 (l.gid), .int .i64 (l.sec), .int .i64 (l.nano), .slice dA (l.data.length) (dC), .string l.target, .string l.peer] 51, .blk b2 [.string m.path, .int .i64 (m.kind), .int .i64 (m.mode), .int .i64 (m.uid), .int .i64 (m.gid), .int .i64 (m.sec), .int .i64 (m.nano), .slice dB (m.data.length) (dD), .string m.target, .string m.peer] 51]) (pk := [0, 1, 2]) (fun _ => by kernel_rfl) (sp_eqBytes dA dB dC dD l.data m.data hD hD2 hl1) rfl (by kernel_rfl) ?_
         rintro _ _ ⟨rfl, rfl⟩
         refine TriL.segK (k' := 62) (fr' := [(4, .bool (decide (l.data = m.data)))]) (obl := []) [o_, o_] [4] (fun _ _ => by kernel_rfl) trivial ?_
         refine TriL.nil (by kernel_rfl) (TriQ.next (Tri.ret ?_))
         exact TriQ.ret (v := .bool (decide (l.data = m.data))) (l := []) (obl := []) [] [0] (fun _ => by kernel_rfl) trivial rfl (by kernel_rfl) (⟨congrArg Value.bool (decide_eq_decide.2 ⟨fun e => lineEq (by assumption) (by assumption) (by assumption) (by assumption) (by assumption) (by assumption) (by assumption) (by assumption) e, fun e => by cases e; rfl⟩), rfl⟩)
        ·
         refine TriL.segK (k' := 62) (fr' := [(4, .bool false)]) (obl := []) [o_, o_, o_, o_, o_, o_, o_] [4] (fun _ _ => by kernel_rfl) trivial ?_
         refine TriL.nil (by kernel_rfl) (TriQ.next (Tri.ret ?_))
         exact TriQ.ret (v := .bool false) (l := []) (obl := []) [] [0] (fun _ => by kernel_rfl) trivial rfl (by kernel_rfl) (⟨by rw [decide_eq_false (fun e => h59 (by cases e; first | rfl | exact ⟨rfl, rfl⟩))], rfl⟩)
       ·
        refine TriL.segK (k' := 62) (fr' := [(4, .bool false)]) (obl := []) [o_, o_, o_, o_, o_, o_, o_, o_, o_, o_, o_, o_, o_, o_] [4] (fun _ _ => by kernel_rfl) trivial ?_
        refine TriL.nil (by kernel_rfl) (TriQ.next (Tri.ret ?_))
        exact TriQ.ret (v := .bool false) (l := []) (obl := []) [] [0] (fun _ => by kernel_rfl) trivial rfl (by kernel_rfl) (⟨by rw [decide_eq_false (fun e => h52 (by cases e; first | rfl | exact ⟨rfl, rfl⟩))], rfl⟩)
      ·
       refine TriL.segK (k' := 62) (fr' := [(4, .bool false)]) (obl := []) [o_, o_, o_, o_, o_, o_, o_, o_, o_, o_, o_, o_, o_, o_, o_, o_, o_, o_, o_, o_, o_] [4] (fun _ _ => by kernel_rfl) trivial ?_
       refine TriL.nil (by kernel_rfl) (TriQ.next (Tri.ret ?_))
       exact TriQ.ret (v := .bool false) (l := []) (obl := []) [] [0] (fun _ => by kernel_rfl) trivial rfl (by kernel_rfl) (⟨by rw [decide_eq_false (fun e => h45 (by cases e; first | rfl | exact ⟨rfl, rfl⟩))], rfl⟩)
     ·
      refine TriL.segK (k' := 62) (fr' := [(4, .bool false)]) (obl := []) [o_, o_, o_, o_, o_, o_, o_, o_, o_, o_, o_, o_, o_, o_, o_, o_, o_, o_, o_, o_, o_, o_, o_, o_, o_, o_, o_, o_] [4] (fun _ _ => by kernel_rfl) trivial ?_
      refine TriL.nil (by kernel_rfl) (TriQ.next (Tri.ret ?_))
      exact TriQ.ret (v := .bool false) (l := []) (obl := []) [] [0] (fun _ => by kernel_rfl) trivial rfl (by kernel_rfl) (⟨by rw [decide_eq_false (fun e => h38 (by cases e; first | rfl | exact ⟨rfl, rfl⟩))], rfl⟩)
    ·
     refine TriL.segK (k' := 62) (fr' := [(4, .bool false)]) (obl := []) [o_, o_, o_, o_, o_, o_, o_, o_, o_, o_, o_, o_, o_, o_, o_, o_, o_, o_, o_, o_, o_, o_, o_, o_, o_, o_, o_, o_, o_, o_, o_, o_, o_, o_, o_] [4] (fun _ _ => by kernel_rfl) trivial ?_
     refine TriL.nil (by kernel_rfl) (TriQ.next (Tri.ret ?_))
     exact TriQ.ret (v := .bool false) (l := []) (obl := []) [] [0] (fun _ => by kernel_rfl) trivial rfl (by kernel_rfl) (⟨by rw [decide_eq_false (fun e => h31 (by cases e; first | rfl | exact ⟨rfl, rfl⟩))], rfl⟩)
   ·
    refine TriL.segK (k' := 62) (fr' := [(4, .bool false)]) (obl := []) [o_, o_, o_, o_, o_, o_, o_, o_, o_, o_, o_, o_, o_, o_, o_, o_, o_, o_, o_, o_, o_, o_, o_, o_, o_, o_, o_, o_, o_, o_, o_, o_, o_, o_, o_, o_, o_, o_, o_, o_, o_, o_] [4] (fun _ _ => by kernel_rfl) trivial ?_
    refine TriL.nil (by kernel_rfl) (TriQ.next (Tri.ret ?_))
    exact TriQ.ret (v := .bool false) (l := []) (obl := []) [] [0] (fun _ => by kernel_rfl) trivial rfl (by kernel_rfl) (⟨by rw [decide_eq_false (fun e => h24 (by cases e; first | rfl | exact ⟨rfl, rfl⟩))], rfl⟩)
  ·
   refine TriL.segK (k' := 62) (fr' := [(4, .bool false)]) (obl := []) [o_, o_, o_, o_, o_, o_, o_, o_, o_, o_, o_, o_, o_, o_, o_, o_, o_, o_, o_, o_, o_, o_, o_, o_, o_, o_, o_, o_, o_, o_, o_, o_, o_, o_, o_, o_, o_, o_, o_, o_, o_, o_, o_, o_, o_, o_, o_, o_, o_] [4] (fun _ _ => by kernel_rfl) trivial ?_
   refine TriL.nil (by kernel_rfl) (TriQ.next (Tri.ret ?_))
   exact TriQ.ret (v := .bool false) (l := []) (obl := []) [] [0] (fun _ => by kernel_rfl) trivial rfl (by kernel_rfl) (⟨by rw [decide_eq_false (fun e => h17 (by cases e; first | rfl | exact ⟨rfl, rfl⟩))], rfl⟩)
 ·
  refine TriL.segK (k' := 62) (fr' := [(4, .bool false)]) (obl := []) [o_, o_, o_, o_, o_, o_, o_, o_, o_, o_, o_, o_, o_, o_, o_, o_, o_, o_, o_, o_, o_, o_, o_, o_, o_, o_, o_, o_, o_, o_, o_, o_, o_, o_, o_, o_, o_, o_, o_, o_, o_, o_, o_, o_, o_, o_, o_, o_, o_, o_, o_, o_, o_, o_, o_, o_] [4] (fun _ _ => by kernel_rfl) trivial ?_
  refine TriL.nil (by kernel_rfl) (TriQ.next (Tri.ret ?_))
  exact TriQ.ret (v := .bool false) (l := []) (obl := []) [] [0] (fun _ => by kernel_rfl) trivial rfl (by kernel_rfl) (⟨by rw [decide_eq_false (fun e => h10 (by cases e; first | rfl | exact ⟨rfl, rfl⟩))], rfl⟩)
set_option maxRecDepth 100000 in
set_option maxHeartbeats 4000000 in
theorem sp_eqLines {β : Bs} (A B : Option Addr) (c c' : Nat) (ls ms : List LineM) (M K : LayL) (hG : LinesAt β A ls M) (hH : LinesAt β B ms K) (hl : ls.length ≤ 16777216) (hd : ∀ i, i < ls.length → (ln ls i).data.length ≤ 1048576) :
    Spec Try.prog β 52 #[.slice A ls.length c, .slice B ms.length c', .func (.func 53) #[] #[]] [] (fun v l => v = .bool (decide (ls = ms)) ∧ l = []) := by
 refine Spec.enter Try.func52 rfl Try.ntmps52 (Nat.le_of_ble_eq_true rfl) (fun R => ?_)
 refine Tri.seq (Tri.region ?_)
 refine TriL.segK (k' := 1) (fr' := [(0, .slice A (ls.length) (c)), (1, .slice B (ms.length) (c')), (2, .func (.func 53) #[] #[])]) (obl := []) [o_] [0, 1, 2] (fun _ _ => by kernel_rfl) trivial ?_
 refine TriL.nil (by kernel_rfl) (TriQ.next (Tri.seq (Tri.seq (Tri.region ?_))))
 refine TriL.segK (k' := 5) (fr' := [(0, .slice A (ls.length) (c)), (1, .slice B (ms.length) (c')), (2, .func (.func 53) #[] #[]), (14, .bool (!(decide ((((ls.length : Nat) : Int) : Int) = (((ms.length : Nat) : Int) : Int)))))]) (obl := []) [o_, o_, o_, o_, o_] [0, 1, 2, 14] (fun _ _ => by kernel_rfl) trivial ?_
 refine TriL.nil (by kernel_rfl) (TriQ.next ?_)
 refine Tri.condN (p := (((ls.length : Nat) : Int) : Int) = (((ms.length : Nat) : Int) : Int)) (fun _ => by kernel_rfl) (fun h14 => ?_) (fun h14 => ?_)
 ·
  refine Tri.seq (Tri.region ?_)
  refine TriL.segK (k' := 1) (fr' := [(6, .bool false)]) (obl := []) [o_] [6] (fun _ _ => by kernel_rfl) trivial ?_
  refine TriL.nil (by kernel_rfl) (TriQ.next (Tri.ret (TriQ.passRet ?_)))
  exact TriQ.ret (v := .bool false) (l := []) (obl := []) [] [0] (fun _ => by kernel_rfl) trivial rfl (by kernel_rfl) (⟨by rw [decide_eq_false (fun e => h14 (by rw [e]))], rfl⟩)
 ·
  refine Tri.skip (TriQ.next (Tri.seq (Tri.seq (Tri.region ?_))))
  refine TriL.segK (k' := 3) (fr' := [(1, .slice B (ms.length) (c')), (2, .func (.func 53) #[] #[]), (15, .slice A (ls.length) (c)), (16, .int .i64 ↑ls.length), (17, .int .i64 0)]) (obl := []) [o_, o_, o_] [1, 2, 15, 16, 17] (fun _ _ => by kernel_rfl) trivial ?_
  refine TriL.nil (by kernel_rfl) (TriQ.next (Tri.block ?_))
  refine Tri.loop (ι := Nat) (fun (i : Nat) => (i ≤ ls.length) ∧ (∀ j, j < i → ls.getD j default = ms.getD j default)) (fun (i : Nat) => ls.length - i) (fun (i : Nat) => [(1, .slice B (ms.length) (c')), (2, .func (.func 53) #[] #[]), (15, .slice A (ls.length) (c)), (16, .int .i64 ↑ls.length), (17, .int .i64 ↑i)]) (fun (i : Nat) => [.abs R]) 0 (idx := [1, 2, 15, 16, 17]) (pk := [0]) (show (0 ≤ ls.length) ∧ (∀ j, j < 0 → ls.getD j default = ms.getD j default) from ⟨Nat.zero_le _, fun j hj => absurd hj (Nat.not_lt_zero j)⟩) (fun _ => by kernel_rfl) rfl (by kernel_rfl) ?_
  rintro i ⟨hi, hall⟩
  show Tri _ _ _ _ [(1, .slice B (ms.length) (c')), (2, .func (.func 53) #[] #[]), (15, .slice A (ls.length) (c)), (16, .int .i64 ↑ls.length), (17, .int .i64 ↑i)] [.abs R] _
  refine Tri.seq (Tri.region ?_)
  refine TriL.segK (k' := 1) (fr' := [(1, .slice B (ms.length) (c')), (2, .func (.func 53) #[] #[]), (15, .slice A (ls.length) (c)), (16, .int .i64 ↑ls.length), (17, .int .i64 ↑i), (18, .bool (decide ((((i : Nat) : Int) : Int) < (((ls.length : Nat) : Int) : Int))))]) (obl := []) [o_] [1, 2, 15, 16, 17, 18] (fun _ _ => by kernel_rfl) trivial ?_
  refine TriL.nil (by kernel_rfl) (TriQ.next (Tri.seq ?_))
  refine Tri.condP (p := (((i : Nat) : Int) : Int) < (((ls.length : Nat) : Int) : Int)) (fun _ => by kernel_rfl) (fun h18 => ?_) (fun h18 => ?_)
  ·
   refine Tri.skip (TriQ.next (Tri.seq (Tri.block (Tri.seq (Tri.region ?_)))))
   refine TriL.segN (k' := 6) (fr' := fun b3 => [(1, .slice B (ms.length) (c')), (2, .func (.func 53) #[] #[]), (7, .int .i64 ↑i), (8, .pointer (some ⟨b3, 0, none⟩)), (15, .slice A (ls.length) (c)), (16, .int .i64 ↑ls.length), (17, .int .i64 ↑i)]) (hps' := fun b3 => [.abs R, .blk b3 [.string (ln ls i).path, .int .i64 ((ln ls i).kind), .int .i64 ((ln ls i).mode), .int .i64 ((ln ls i).uid), .int .i64 ((ln ls i).gid), .int .i64 ((ln ls i).sec), .int .i64 ((ln ls i).nano), .slice (M.dA i) ((ln ls i).data.length) ((M.dC i)), .string (ln ls i).target, .string (ln ls i).peer] 51]) (obl := fun b3 => [b3 = b3, b3 = b3, b3 = b3, b3 = b3, b3 = b3, b3 = b3, b3 = b3, b3 = b3, b3 = b3, b3 = b3, (Rd β ⟨(blkOf A), offOf A + i * 10 + 9, none⟩ (.string (ln ls i).peer)), (Rd β ⟨(blkOf A), offOf A + i * 10 + 8, none⟩ (.string (ln ls i).target)), (Rd β ⟨(blkOf A), offOf A + i * 10 + 7, none⟩ (.slice (M.dA i) ((ln ls i).data.length) ((M.dC i)))), (Rd β ⟨(blkOf A), offOf A + i * 10 + 6, none⟩ (.int .i64 ((ln ls i).nano))), (Rd β ⟨(blkOf A), offOf A + i * 10 + 5, none⟩ (.int .i64 ((ln ls i).sec))), (Rd β ⟨(blkOf A), offOf A + i * 10 + 4, none⟩ (.int .i64 ((ln ls i).gid))), (Rd β ⟨(blkOf A), offOf A + i * 10 + 3, none⟩ (.int .i64 ((ln ls i).uid))), (Rd β ⟨(blkOf A), offOf A + i * 10 + 2, none⟩ (.int .i64 ((ln ls i).mode))), (Rd β ⟨(blkOf A), offOf A + i * 10 + 1, none⟩ (.int .i64 ((ln ls i).kind))), (Rd β ⟨(blkOf A), offOf A + i * 10, none⟩ (.string (ln ls i).path)), ((i : Nat) : Int) = ((i : Nat) : Int), i < ls.length, (⟨(blkOf A), offOf A, none⟩ : Addr).spot = none, (A : Option Addr) = some ⟨(blkOf A), offOf A, none⟩]) [o_, ⟨[], some i, none, some ⟨(blkOf A), offOf A, none⟩, none⟩, ⟨[.old (.string (ln ls i).path), .old (.int .i64 ((ln ls i).kind)), .old (.int .i64 ((ln ls i).mode)), .old (.int .i64 ((ln ls i).uid)), .old (.int .i64 ((ln ls i).gid)), .old (.int .i64 ((ln ls i).sec)), .old (.int .i64 ((ln ls i).nano)), .old (.slice (M.dA i) ((ln ls i).data.length) ((M.dC i))), .old (.string (ln ls i).target), .old (.string (ln ls i).peer)], none, none, none, none⟩, o_, o_, ⟨[.at 1, .at 1, .at 1, .at 1, .at 1, .at 1, .at 1, .at 1, .at 1, .at 1], none, none, none, none⟩] [1, 2, 7, 8, 15, 16, 17] [0, 1] (fun _ _ => by kernel_rfl) (fun b3 => ⟨rfl, rfl, rfl, rfl, rfl, rfl, rfl, rfl, rfl, rfl, LinesAt.rd hG (i := i) (by omega) (j := 9) rfl, LinesAt.rd hG (i := i) (by omega) (j := 8) rfl, LinesAt.rd hG (i := i) (by omega) (j := 7) rfl, LinesAt.rd hG (i := i) (by omega) (j := 6) rfl, LinesAt.rd hG (i := i) (by omega) (j := 5) rfl, LinesAt.rd hG (i := i) (by omega) (j := 4) rfl, LinesAt.rd hG (i := i) (by omega) (j := 3) rfl, LinesAt.rd hG (i := i) (by omega) (j := 2) rfl, LinesAt.rd hG (i := i) (by omega) (j := 1) rfl, LinesAt.rd hG (i := i) (by omega) (j := 0) rfl, rfl, by omega, rfl, LinesAt.hd hG (i := i) (by omega), trivial⟩) (fun b3 => ?_)
   refine TriL.nil (by kernel_rfl) (TriQ.next (Tri.seq (Tri.region ?_)))
   refine TriL.segN (k' := 6) (fr' := fun b4 => [(1, .slice B (ms.length) (c')), (2, .func (.func 53) #[] #[]), (8, .pointer (some ⟨b3, 0, none⟩)), (9, .pointer (some ⟨b4, 0, none⟩)), (15, .slice A (ls.length) (c)), (16, .int .i64 ↑ls.length), (17, .int .i64 ↑i)]) (hps' := fun b4 => [.abs R, .blk b3 [.string (ln ls i).path, .int .i64 ((ln ls i).kind), .int .i64 ((ln ls i).mode), .int .i64 ((ln ls i).uid), .int .i64 ((ln ls i).gid), .int .i64 ((ln ls i).sec), .int .i64 ((ln ls i).nano), .slice (M.dA i) ((ln ls i).data.length) ((M.dC i)), .string (ln ls i).target, .string (ln ls i).peer] 51, .blk b4 [.string (ln ms i).path, .int .i64 ((ln ms i).kind), .int .i64 ((ln ms i).mode), .int .i64 ((ln ms i).uid), .int .i64 ((ln ms i).gid), .int .i64 ((ln ms i).sec), .int .i64 ((ln ms i).nano), .slice (K.dA i) ((ln ms i).data.length) ((K.dC i)), .string (ln ms i).target, .string (ln ms i).peer] 51]) (obl := fun b4 => [b4 = b4, b4 = b4, b4 = b4, b4 = b4, b4 = b4, b4 = b4, b4 = b4, b4 = b4, b4 = b4, b4 = b4, (Rd β ⟨(blkOf B), offOf B + i * 10 + 9, none⟩ (.string (ln ms i).peer)), (Rd β ⟨(blkOf B), offOf B + i * 10 + 8, none⟩ (.string (ln ms i).target)), (Rd β ⟨(blkOf B), offOf B + i * 10 + 7, none⟩ (.slice (K.dA i) ((ln ms i).data.length) ((K.dC i)))), (Rd β ⟨(blkOf B), offOf B + i * 10 + 6, none⟩ (.int .i64 ((ln ms i).nano))), (Rd β ⟨(blkOf B), offOf B + i * 10 + 5, none⟩ (.int .i64 ((ln ms i).sec))), (Rd β ⟨(blkOf B), offOf B + i * 10 + 4, none⟩ (.int .i64 ((ln ms i).gid))), (Rd β ⟨(blkOf B), offOf B + i * 10 + 3, none⟩ (.int .i64 ((ln ms i).uid))), (Rd β ⟨(blkOf B), offOf B + i * 10 + 2, none⟩ (.int .i64 ((ln ms i).mode))), (Rd β ⟨(blkOf B), offOf B + i * 10 + 1, none⟩ (.int .i64 ((ln ms i).kind))), (Rd β ⟨(blkOf B), offOf B + i * 10, none⟩ (.string (ln ms i).path)), ((i : Nat) : Int) = ((i : Nat) : Int), i < ms.length, (⟨(blkOf B), offOf B, none⟩ : Addr).spot = none, (B : Option Addr) = some ⟨(blkOf B), offOf B, none⟩]) [o_, o_, ⟨[], some i, none, some ⟨(blkOf B), offOf B, none⟩, none⟩, ⟨[.old (.string (ln ms i).path), .old (.int .i64 ((ln ms i).kind)), .old (.int .i64 ((ln ms i).mode)), .old (.int .i64 ((ln ms i).uid)), .old (.int .i64 ((ln ms i).gid)), .old (.int .i64 ((ln ms i).sec)), .old (.int .i64 ((ln ms i).nano)), .old (.slice (K.dA i) ((ln ms i).data.length) ((K.dC i))), .old (.string (ln ms i).target), .old (.string (ln ms i).peer)], none, none, none, none⟩, o_, ⟨[.at 2, .at 2, .at 2, .at 2, .at 2, .at 2, .at 2, .at 2, .at 2, .at 2], none, none, none, none⟩] [1, 2, 8, 9, 15, 16, 17] [0, 1, 2] (fun _ _ => by kernel_rfl) (fun b4 => ⟨rfl, rfl, rfl, rfl, rfl, rfl, rfl, rfl, rfl, rfl, LinesAt.rd hH (i := i) (by omega) (j := 9) rfl, LinesAt.rd hH (i := i) (by omega) (j := 8) rfl, LinesAt.rd hH (i := i) (by omega) (j := 7) rfl, LinesAt.rd hH (i := i) (by omega) (j := 6) rfl, LinesAt.rd hH (i := i) (by omega) (j := 5) rfl, LinesAt.rd hH (i := i) (by omega) (j := 4) rfl, LinesAt.rd hH (i := i) (by omega) (j := 3) rfl, LinesAt.rd hH (i := i) (by omega) (j := 2) rfl, LinesAt.rd hH (i := i) (by omega) (j := 1) rfl, LinesAt.rd hH (i := i) (by omega) (j := 0) rfl, rfl, by omega, rfl, LinesAt.hd hH (i := i) (by omega), trivial⟩) (fun b4 => ?_)
   refine TriL.nil (by kernel_rfl) (TriQ.next (Tri.seq (Tri.region ?_)))
   refine TriL.segK (k' := 3) (fr' := [(1, .slice B (ms.length) (c')), (2, .func (.func 53) #[] #[]), (15, .slice A (ls.length) (c)), (16, .int .i64 ↑ls.length), (17, .int .i64 ↑i), (26, .func (.func 53) #[] #[]), (27, .agg #[.string (ln ls i).path, .int .i64 ((ln ls i).kind), .int .i64 ((ln ls i).mode), .int .i64 ((ln ls i).uid), .int .i64 ((ln ls i).gid), .int .i64 ((ln ls i).sec), .int .i64 ((ln ls i).nano), .slice (M.dA i) ((ln ls i).data.length) ((M.dC i)), .string (ln ls i).target, .string (ln ls i).peer]), (28, .agg #[.string (ln ms i).path, .int .i64 ((ln ms i).kind), .int .i64 ((ln ms i).mode), .int .i64 ((ln ms i).uid), .int .i64 ((ln ms i).gid), .int .i64 ((ln ms i).sec), .int .i64 ((ln ms i).nano), .slice (K.dA i) ((ln ms i).data.length) ((K.dC i)), .string (ln ms i).target, .string (ln ms i).peer])]) (obl := [b4 = b4, b4 = b4, b4 = b4, b4 = b4, b4 = b4, b4 = b4, b4 = b4, b4 = b4, b4 = b4, b4 = b4, b3 = b3, b3 = b3, b3 = b3, b3 = b3, b3 = b3, b3 = b3, b3 = b3, b3 = b3, b3 = b3, b3 = b3]) [o_, ⟨[.at 1, .at 1, .at 1, .at 1, .at 1, .at 1, .at 1, .at 1, .at 1, .at 1], none, none, none, none⟩, ⟨[.at 2, .at 2, .at 2, .at 2, .at 2, .at 2, .at 2, .at 2, .at 2, .at 2], none, none, none, none⟩] [1, 2, 15, 16, 17, 26, 27, 28] (fun _ _ => by kernel_rfl) ⟨rfl, rfl, rfl, rfl, rfl, rfl, rfl, rfl, rfl, rfl, rfl, rfl, rfl, rfl, rfl, rfl, rfl, rfl, rfl, rfl, trivial⟩ ?_
   refine TriL.call (f := 53) (args := #[.agg #[.string (ln ls i).path, .int .i64 ((ln ls i).kind), .int .i64 ((ln ls i).mode), .int .i64 ((ln ls i).uid), .int .i64 ((ln ls i).gid), .int .i64 ((ln ls i).sec), .int .i64 ((ln ls i).nano), .slice (M.dA i) ((ln ls i).data.length) ((M.dC i)), .string (ln ls i).target, .string (ln ls i).peer], .agg #[.string (ln ms i).path, .int .i64 ((ln ms i).kind), .int .i64 ((ln ms i).mode), .int .i64 ((ln ms i).uid), .int .i64 ((ln ms i).gid), .int .i64 ((ln ms i).sec), .int .i64 ((ln ms i).nano), .slice (K.dA i) ((ln ms i).data.length) ((K.dC i)), .string (ln ms i).target, .string (ln ms i).peer]]) (d := (some 29)) (pre := []) (R := [.abs R, .blk b3 [.string (ln ls i).path, .int .i64 ((ln ls i).kind), .int .i64 ((ln ls i).mode), .int .i64 ((ln ls i).uid), .int .i64 ((ln ls i).gid), .int .i64 ((ln ls i).sec), .int .i64 ((ln ls i).nano), .slice (M.dA i) ((ln ls i).data.length) ((M.dC i)), .string (ln ls i).target, .string (ln ls i).peer] 51, .blk b4 [.string (ln ms i).path, .int .i64 ((ln ms i).kind), .int .i64 ((ln ms i).mode), .int .i64 ((ln ms i).uid), .int .i64 ((ln ms i).gid), .int .i64 ((ln ms i).sec), .int .i64 ((ln ms i).nano), .slice (K.dA i) ((ln ms i).data.length) ((K.dC i)), .string (ln ms i).target, .string (ln ms i).peer] 51]) (pk := [0, 1, 2]) (fun _ => by kernel_rfl) (sp_gsameLine (ln ls i) (ln ms i) (M.dA i) (K.dA i) (M.dC i) (K.dC i) (hG.data i (by omega)) (hH.data i (by omega)) (hd i (by omega))) rfl (by kernel_rfl) ?_
   rintro _ _ ⟨rfl, rfl⟩
   refine TriL.segK (k' := 5) (fr' := [(1, .slice B (ms.length) (c')), (2, .func (.func 53) #[] #[]), (15, .slice A (ls.length) (c)), (16, .int .i64 ↑ls.length), (17, .int .i64 ↑i), (30, .bool (!(decide (ln ls i = ln ms i))))]) (obl := []) [o_] [1, 2, 15, 16, 17, 30] (fun _ _ => by kernel_rfl) trivial ?_
   refine TriL.nil (by kernel_rfl) (TriQ.next ?_)
   refine Tri.condN (p := ln ls i = ln ms i) (fun _ => by kernel_rfl) (fun h30 => ?_) (fun h30 => ?_)
   ·
    refine Tri.seq (Tri.region ?_)
    refine TriL.segK (k' := 1) (fr' := [(6, .bool false)]) (obl := []) [o_] [6] (fun _ _ => by kernel_rfl) trivial ?_
    refine TriL.nil (by kernel_rfl) (TriQ.next (Tri.ret (TriQ.blockRet (TriQ.passRet (TriQ.passRet (TriQ.blockRet (TriQ.passRet ?_)))))))
    exact TriQ.ret (v := .bool false) (l := []) (obl := []) [] [0] (fun _ => by kernel_rfl) trivial rfl (by kernel_rfl) (⟨by rw [decide_eq_false (fun e => h30 (by rw [e]))], rfl⟩)
   ·
    refine Tri.skip (TriQ.blockNormal (TriQ.next (Tri.region ?_)))
    refine TriL.segK (k' := 2) (fr' := [(1, .slice B (ms.length) (c')), (2, .func (.func 53) #[] #[]), (15, .slice A (ls.length) (c)), (16, .int .i64 ↑ls.length), (17, .int .i64 ↑(i + 1))]) (obl := [(Value.int .i64 (IntKind.wrap .i64 (((i : Nat) : Int) + 1))) = (.int .i64 ↑(i + 1))]) [⟨[], none, none, none, some (.int .i64 ↑(i + 1))⟩, o_] [1, 2, 15, 16, 17] (fun _ _ => by kernel_rfl) ⟨wrapEq (by omega) (by omega) (by omega), trivial⟩ ?_
    refine TriL.nil (by kernel_rfl) ?_
    exact TriQ.turn ((i + 1)) (idx := [1, 2, 15, 16, 17]) (pk := [0]) (show (((i + 1)) ≤ ls.length) ∧ (∀ j, j < ((i + 1)) → ls.getD j default = ms.getD j default) from ⟨by omega, fun j hj => by rcases Nat.lt_succ_iff_lt_or_eq.1 hj with h | h; exact hall j h; subst h; exact h30⟩) (by show ls.length - ((i + 1)) < ls.length - i; omega) (fun _ => by kernel_rfl) rfl (by kernel_rfl)
  ·
   refine Tri.exit (TriQ.passExit (TriQ.passExit (TriQ.blockHit (TriQ.next (Tri.seq (Tri.region ?_))))))
   refine TriL.segK (k' := 1) (fr' := [(6, .bool true)]) (obl := []) [o_] [6] (fun _ _ => by kernel_rfl) trivial ?_
   refine TriL.nil (by kernel_rfl) (TriQ.next (Tri.ret ?_))
   exact TriQ.ret (v := .bool true) (l := []) (obl := []) [] [0] (fun _ => by kernel_rfl) trivial rfl (by kernel_rfl) (⟨by rw [decide_eq_true (ext_getD (x := default) (by omega) (fun j hj => hall j (by omega)))], rfl⟩)
set_option maxRecDepth 100000 in
set_option maxHeartbeats 4000000 in
theorem sp_copyLine {β : Bs} (l : LineM) (dA : Option Addr) (dC : Nat) (hD : BytesAt β dA l.data) (hl1 : l.data.length ≤ 1048576) :
    SpecB Try.prog β 54 #[.agg #[.string l.path, .int .i64 (l.kind), .int .i64 (l.mode), .int .i64 (l.uid), .int .i64 (l.gid), .int .i64 (l.sec), .int .i64 (l.nano), .slice dA (l.data.length) (dC), .string l.target, .string l.peer]] [] (fun β' v k => ∃ dB cd, v = .agg #[.string l.path, .int .i64 (l.kind), .int .i64 (l.mode), .int .i64 (l.uid), .int .i64 (l.gid), .int .i64 (l.sec), .int .i64 (l.nano), .slice dB (l.data.length) (cd), .string l.target, .string l.peer] ∧ k = [] ∧ BytesAt β' dB l.data) := by
 refine SpecB.enter Try.func54 rfl Try.ntmps54 (Nat.le_of_ble_eq_true rfl) (fun hle0 R => ?_)
 refine Tri.seq (Tri.region ?_)
 refine TriL.segN (k' := 1) (fr' := fun b5 => [(1, .pointer (some ⟨b5, 0, none⟩))]) (hps' := fun b5 => [.abs R, .blk b5 [.string l.path, .int .i64 (l.kind), .int .i64 (l.mode), .int .i64 (l.uid), .int .i64 (l.gid), .int .i64 (l.sec), .int .i64 (l.nano), .slice dA (l.data.length) (dC), .string l.target, .string l.peer] 51]) (obl := fun b5 => []) [o_] [1] [0, 1] (fun _ _ => by kernel_rfl) (fun b5 => trivial) (fun b5 => ?_)
 refine TriL.segN (k' := 2) (fr' := fun b6 => [(1, .pointer (some ⟨b5, 0, none⟩)), (2, .pointer (some ⟨b6, 0, none⟩))]) (hps' := fun b6 => [.abs R, .blk b5 [.string l.path, .int .i64 (l.kind), .int .i64 (l.mode), .int .i64 (l.uid), .int .i64 (l.gid), .int .i64 (l.sec), .int .i64 (l.nano), .slice dA (l.data.length) (dC), .string l.target, .string l.peer] 51, .blk b6 [.string ⟨#[]⟩, .int .i64 0, .int .i64 0, .int .i64 0, .int .i64 0, .int .i64 0, .int .i64 0, .slice none (0) (0), .string ⟨#[]⟩, .string ⟨#[]⟩] 51]) (obl := fun b6 => []) [o_] [1, 2] [0, 1, 2] (fun _ _ => by kernel_rfl) (fun b6 => trivial) (fun b6 => ?_)
 refine TriL.nil (by kernel_rfl) (TriQ.next (Tri.seq (Tri.region ?_)))
 refine TriL.segK (k' := 2) (fr' := [(1, .pointer (some ⟨b5, 0, none⟩)), (2, .pointer (some ⟨b6, 0, none⟩)), (4, .slice dA (l.data.length) (dC))]) (obl := [b5 = b5]) [o_, ⟨[.at 1], none, none, none, none⟩] [1, 2, 4] (fun _ _ => by kernel_rfl) ⟨rfl, trivial⟩ ?_
 refine TriL.callB (f := 48) (args := #[.slice dA (l.data.length) (dC)]) (d := (some 5)) (pre := []) (R := [.abs R, .blk b5 [.string l.path, .int .i64 (l.kind), .int .i64 (l.mode), .int .i64 (l.uid), .int .i64 (l.gid), .int .i64 (l.sec), .int .i64 (l.nano), .slice dA (l.data.length) (dC), .string l.target, .string l.peer] 51, .blk b6 [.string ⟨#[]⟩, .int .i64 0, .int .i64 0, .int .i64 0, .int .i64 0, .int .i64 0, .int .i64 0, .slice none (0) (0), .string ⟨#[]⟩, .string ⟨#[]⟩] 51]) (pk := [0, 1, 2]) (fun _ => by kernel_rfl) (sp_copyBytes dA dC l.data hD hl1) rfl (by kernel_rfl) ?_
 rintro β1 _ _ hle_β1 ⟨B7, c8, rfl, rfl, hD1⟩
 replace hD := hD.le hle_β1
 replace hle0 := hle0.trans hle_β1
 refine TriL.seg (k' := 5) (fr' := [(1, .pointer (some ⟨b5, 0, none⟩)), (2, .pointer (some ⟨b6, 0, none⟩))]) (hps' := [.abs R, .blk b5 [.string l.path, .int .i64 (l.kind), .int .i64 (l.mode), .int .i64 (l.uid), .int .i64 (l.gid), .int .i64 (l.sec), .int .i64 (l.nano), .slice B7 (l.data.length) (c8), .string l.target, .string l.peer] 51, .blk b6 [.string ⟨#[]⟩, .int .i64 0, .int .i64 0, .int .i64 0, .int .i64 0, .int .i64 0, .int .i64 0, .slice none (0) (0), .string ⟨#[]⟩, .string ⟨#[]⟩] 51]) (obl := [b5 = b5]) [o_, ⟨[.at 1], none, none, none, none⟩] [1, 2] [0, 1, 2] (fun _ _ => by kernel_rfl) ⟨rfl, trivial⟩ ?_
 refine TriL.nil (by kernel_rfl) (TriQ.next (Tri.seq (Tri.region ?_)))
 refine TriL.seg (k' := 2) (fr' := [(2, .pointer (some ⟨b6, 0, none⟩))]) (hps' := [.abs R, .blk b5 [.string l.path, .int .i64 (l.kind), .int .i64 (l.mode), .int .i64 (l.uid), .int .i64 (l.gid), .int .i64 (l.sec), .int .i64 (l.nano), .slice B7 (l.data.length) (c8), .string l.target, .string l.peer] 51, .blk b6 [.string l.path, .int .i64 (l.kind), .int .i64 (l.mode), .int .i64 (l.uid), .int .i64 (l.gid), .int .i64 (l.sec), .int .i64 (l.nano), .slice B7 (l.data.length) (c8), .string l.target, .string l.peer] 51]) (obl := [b6 = b6, b6 = b6, b6 = b6, b6 = b6, b6 = b6, b6 = b6, b6 = b6, b6 = b6, b6 = b6, b6 = b6, b5 = b5, b5 = b5, b5 = b5, b5 = b5, b5 = b5, b5 = b5, b5 = b5, b5 = b5, b5 = b5, b5 = b5]) [⟨[.at 1, .at 1, .at 1, .at 1, .at 1, .at 1, .at 1, .at 1, .at 1, .at 1], none, none, none, none⟩, ⟨[.at 2, .at 2, .at 2, .at 2, .at 2, .at 2, .at 2, .at 2, .at 2, .at 2], none, none, none, none⟩] [2] [0, 1, 2] (fun _ _ => by kernel_rfl) ⟨rfl, rfl, rfl, rfl, rfl, rfl, rfl, rfl, rfl, rfl, rfl, rfl, rfl, rfl, rfl, rfl, rfl, rfl, rfl, rfl, trivial⟩ ?_
 refine TriL.nil (by kernel_rfl) (TriQ.next (Tri.ret ?_))
 exact TriQ.retB (v := .agg #[.string l.path, .int .i64 (l.kind), .int .i64 (l.mode), .int .i64 (l.uid), .int .i64 (l.gid), .int .i64 (l.sec), .int .i64 (l.nano), .slice B7 (l.data.length) (c8), .string l.target, .string l.peer]) (l := []) (obl := [b6 = b6, b6 = b6, b6 = b6, b6 = b6, b6 = b6, b6 = b6, b6 = b6, b6 = b6, b6 = b6, b6 = b6]) [.at 2, .at 2, .at 2, .at 2, .at 2, .at 2, .at 2, .at 2, .at 2, .at 2] [0] hle0 (fun _ => by kernel_rfl) ⟨rfl, rfl, rfl, rfl, rfl, rfl, rfl, rfl, rfl, rfl, trivial⟩ rfl (by kernel_rfl) (⟨B7, c8, rfl, rfl, hD1⟩)
set_option maxRecDepth 100000 in
set_option maxHeartbeats 4000000 in
theorem sp_copyLines {β : Bs} (A : Option Addr) (c : Nat) (ls : List LineM) (M : LayL) (hG : LinesAt β A ls M) (hl : ls.length ≤ 16777216) (hd : ∀ i, i < ls.length → (ln ls i).data.length ≤ 1048576) :
    SpecB Try.prog β 31 #[.slice A ls.length c] [] (fun β' v l => ∃ B cp K, v = .slice B ls.length cp ∧ l = [] ∧ LinesAt β' B ls K) := by
 refine SpecB.enter Try.func31 rfl Try.ntmps31 (Nat.le_of_ble_eq_true rfl) (fun hle0 R => ?_)
 refine Tri.seq (Tri.region ?_)
 refine TriL.segK (k' := 1) (fr' := [(0, .slice A (ls.length) (c))]) (obl := []) [o_] [0] (fun _ _ => by kernel_rfl) trivial ?_
 refine TriL.nil (by kernel_rfl) (TriQ.next (Tri.seq (Tri.region ?_)))
 refine TriL.segN (k' := 2) (fr' := fun b9 => [(0, .slice A (ls.length) (c)), (3, .slice (some ⟨b9, 0, none⟩) (0) (0))]) (hps' := fun b9 => [.abs R, .blk b9 [] 51]) (obl := fun b9 => []) [o_, o_] [0, 3] [0, 1] (fun _ _ => by kernel_rfl) (fun b9 => trivial) (fun b9 => ?_)
 refine TriL.nil (by kernel_rfl) (TriQ.next (Tri.seq (Tri.seq (Tri.region ?_))))
 refine TriL.mem (fun w hS => hS.toRow (i := 1) (b := b9) (cs := []) (e := 51) 10 0 (by kernel_rfl) rfl (by decide)) ?_
 refine TriL.segK (k' := 1) (fr' := [(0, .slice A (ls.length) (c)), (3, .slice (some ⟨b9, 0, none⟩) (0) (0)), (4, .int .i64 0)]) (obl := []) [o_] [0, 3, 4] (fun _ _ => by kernel_rfl) trivial ?_
 refine TriL.nil (by kernel_rfl) (TriQ.next (Tri.block ?_))
 refine Tri.loopB (ι := Nat × Bs × (Option Addr) × Nat × LayL) (fun ((k, b, Ao, cp, K) : Nat × Bs × (Option Addr) × Nat × LayL) => b) (fun ((k, b, Ao, cp, K) : Nat × Bs × (Option Addr) × Nat × LayL) => (k ≤ ls.length) ∧ (β.le b) ∧ (LinesAt b A ls M) ∧ (LinesIn b (ls.take k) K)) (fun ((k, b, Ao, cp, K) : Nat × Bs × (Option Addr) × Nat × LayL) => ls.length - k) (fun ((k, b, Ao, cp, K) : Nat × Bs × (Option Addr) × Nat × LayL) => [(0, .slice A (ls.length) (c)), (3, .slice Ao (k) (cp)), (4, .int .i64 ↑k)]) (fun ((k, b, Ao, cp, K) : Nat × Bs × (Option Addr) × Nat × LayL) => [.abs (RowA 51 10 Ao k cp (linesV K (ls.take k))), .abs R]) (0, β, some ⟨b9, 0, none⟩, 0, ⟨fun _ => none, fun _ => 0⟩) rfl (idx := [0, 3, 4]) (pk := [1, 0]) (show (0 ≤ ls.length) ∧ (β.le β) ∧ (LinesAt β A ls M) ∧ (LinesIn β (ls.take 0) (⟨fun _ => none, fun _ => 0⟩)) from ⟨Nat.zero_le _, hle0, hG, fun i hi => absurd hi (Nat.not_lt_zero _)⟩) (fun _ => by kernel_rfl) rfl (by kernel_rfl) ?_
 rintro ⟨k, b, Ao, cp, K⟩ ⟨hk, hle0, hG, hI⟩
 show Tri _ b _ _ [(0, .slice A (ls.length) (c)), (3, .slice Ao (k) (cp)), (4, .int .i64 ↑k)] [.abs (RowA 51 10 Ao k cp (linesV K (ls.take k))), .abs R] _
 refine Tri.seq (Tri.seq (Tri.region ?_))
 refine TriL.segK (k' := 4) (fr' := [(0, .slice A (ls.length) (c)), (3, .slice Ao (k) (cp)), (4, .int .i64 ↑k), (9, .bool (decide ((((k : Nat) : Int) : Int) < (((ls.length : Nat) : Int) : Int))))]) (obl := []) [o_, o_, o_, o_] [0, 3, 4, 9] (fun _ _ => by kernel_rfl) trivial ?_
 refine TriL.nil (by kernel_rfl) (TriQ.next ?_)
 refine Tri.condP (p := (((k : Nat) : Int) : Int) < (((ls.length : Nat) : Int) : Int)) (fun _ => by kernel_rfl) (fun h9 => ?_) (fun h9 => ?_)
 ·
  refine Tri.skip (TriQ.next (Tri.seq (Tri.block (Tri.region ?_))))
  refine TriL.segK (k' := 5) (fr' := [(0, .slice A (ls.length) (c)), (4, .int .i64 ↑k), (12, .slice Ao (k) (cp)), (16, .agg #[.string (ln ls k).path, .int .i64 ((ln ls k).kind), .int .i64 ((ln ls k).mode), .int .i64 ((ln ls k).uid), .int .i64 ((ln ls k).gid), .int .i64 ((ln ls k).sec), .int .i64 ((ln ls k).nano), .slice (M.dA k) ((ln ls k).data.length) ((M.dC k)), .string (ln ls k).target, .string (ln ls k).peer])]) (obl := [(Rd b ⟨(blkOf A), offOf A + k * 10 + 9, none⟩ (.string (ln ls k).peer)), (Rd b ⟨(blkOf A), offOf A + k * 10 + 8, none⟩ (.string (ln ls k).target)), (Rd b ⟨(blkOf A), offOf A + k * 10 + 7, none⟩ (.slice (M.dA k) ((ln ls k).data.length) ((M.dC k)))), (Rd b ⟨(blkOf A), offOf A + k * 10 + 6, none⟩ (.int .i64 ((ln ls k).nano))), (Rd b ⟨(blkOf A), offOf A + k * 10 + 5, none⟩ (.int .i64 ((ln ls k).sec))), (Rd b ⟨(blkOf A), offOf A + k * 10 + 4, none⟩ (.int .i64 ((ln ls k).gid))), (Rd b ⟨(blkOf A), offOf A + k * 10 + 3, none⟩ (.int .i64 ((ln ls k).uid))), (Rd b ⟨(blkOf A), offOf A + k * 10 + 2, none⟩ (.int .i64 ((ln ls k).mode))), (Rd b ⟨(blkOf A), offOf A + k * 10 + 1, none⟩ (.int .i64 ((ln ls k).kind))), (Rd b ⟨(blkOf A), offOf A + k * 10, none⟩ (.string (ln ls k).path)), ((k : Nat) : Int) = ((k : Nat) : Int), k < ls.length, (⟨(blkOf A), offOf A, none⟩ : Addr).spot = none, (A : Option Addr) = some ⟨(blkOf A), offOf A, none⟩]) [o_, o_, o_, ⟨[], some k, none, some ⟨(blkOf A), offOf A, none⟩, none⟩, ⟨[.old (.string (ln ls k).path), .old (.int .i64 ((ln ls k).kind)), .old (.int .i64 ((ln ls k).mode)), .old (.int .i64 ((ln ls k).uid)), .old (.int .i64 ((ln ls k).gid)), .old (.int .i64 ((ln ls k).sec)), .old (.int .i64 ((ln ls k).nano)), .old (.slice (M.dA k) ((ln ls k).data.length) ((M.dC k))), .old (.string (ln ls k).target), .old (.string (ln ls k).peer)], none, none, none, none⟩] [0, 4, 12, 16] (fun _ _ => by kernel_rfl) ⟨LinesAt.rd hG (i := k) (by omega) (j := 9) rfl, LinesAt.rd hG (i := k) (by omega) (j := 8) rfl, LinesAt.rd hG (i := k) (by omega) (j := 7) rfl, LinesAt.rd hG (i := k) (by omega) (j := 6) rfl, LinesAt.rd hG (i := k) (by omega) (j := 5) rfl, LinesAt.rd hG (i := k) (by omega) (j := 4) rfl, LinesAt.rd hG (i := k) (by omega) (j := 3) rfl, LinesAt.rd hG (i := k) (by omega) (j := 2) rfl, LinesAt.rd hG (i := k) (by omega) (j := 1) rfl, LinesAt.rd hG (i := k) (by omega) (j := 0) rfl, rfl, by omega, rfl, LinesAt.hd hG (i := k) (by omega), trivial⟩ ?_
  refine TriL.callB (f := 54) (args := #[.agg #[.string (ln ls k).path, .int .i64 ((ln ls k).kind), .int .i64 ((ln ls k).mode), .int .i64 ((ln ls k).uid), .int .i64 ((ln ls k).gid), .int .i64 ((ln ls k).sec), .int .i64 ((ln ls k).nano), .slice (M.dA k) ((ln ls k).data.length) ((M.dC k)), .string (ln ls k).target, .string (ln ls k).peer]]) (d := (some 17)) (pre := []) (R := [.abs (RowA 51 10 Ao k cp (linesV K (ls.take k))), .abs R]) (pk := [0, 1]) (fun _ => by kernel_rfl) (sp_copyLine (ln ls k) (M.dA k) (M.dC k) (hG.data k (by omega)) (hd k (by omega))) rfl (by kernel_rfl) ?_
  rintro β12 _ _ hle_β12 ⟨B10, c11, rfl, rfl, hdB⟩
  replace hG := hG.le hle_β12
  replace hI := hI.le hle_β12
  replace hle0 := hle0.trans hle_β12
  refine TriL.segN (k' := 7) (fr' := fun b13 => [(0, .slice A (ls.length) (c)), (4, .int .i64 ↑k), (12, .slice Ao (k) (cp)), (18, .slice (some ⟨b13, 0, none⟩) (1) (1))]) (hps' := fun b13 => [.abs (RowA 51 10 Ao k cp (linesV K (ls.take k))), .abs R, .blk b13 [.string (ln ls k).path, .int .i64 ((ln ls k).kind), .int .i64 ((ln ls k).mode), .int .i64 ((ln ls k).uid), .int .i64 ((ln ls k).gid), .int .i64 ((ln ls k).sec), .int .i64 ((ln ls k).nano), .slice B10 ((ln ls k).data.length) (c11), .string (ln ls k).target, .string (ln ls k).peer] 51]) (obl := fun b13 => []) [o_] [0, 4, 12, 18] [0, 1, 2] (fun _ _ => by kernel_rfl) (fun b13 => trivial) (fun b13 => ?_)
  refine TriL.append 0 (d := (some 19)) (t := 46) (e := 51) (z := .agg #[.string ⟨#[]⟩, .int .i64 0, .int .i64 0, .int .i64 0, .int .i64 0, .int .i64 0, .int .i64 0, .slice none (0) (0), .string ⟨#[]⟩, .string ⟨#[]⟩]) (size := 10) (bytes := 120) (n := k) (cap := cp) (A := Ao) (xs := (linesV K (ls.take k))) (s := (.tmp 12)) (x := (.tmp 18)) (ats := #[46, 46]) (A' := some ⟨b13, 0, none⟩) (m := 1) (c' := 1) (news := [.string (ln ls k).path, .int .i64 ((ln ls k).kind), .int .i64 ((ln ls k).mode), .int .i64 ((ln ls k).uid), .int .i64 ((ln ls k).gid), .int .i64 ((ln ls k).sec), .int .i64 ((ln ls k).nano), .slice B10 ((ln ls k).data.length) (c11), .string (ln ls k).target, .string (ln ls k).peer]) (fun _ => by kernel_rfl) rfl (by kernel_rfl) (fun _ => by kernel_rfl) (fun _ => by kernel_rfl) Try.underlying46 (by kernel_rfl) rfl (by decide) (rfl) (by simp [Value.oneCell']) (src_blk (j := 2) rfl) (by unfold maxLen; omega) (by omega) (fun A14 c15 => ?_)
  refine TriL.partEq 0 (p := .abs (RowA 51 10 A14 (k + 1) c15 ((linesV K (ls.take k)) ++ [.string (ln ls k).path, .int .i64 ((ln ls k).kind), .int .i64 ((ln ls k).mode), .int .i64 ((ln ls k).uid), .int .i64 ((ln ls k).gid), .int .i64 ((ln ls k).sec), .int .i64 ((ln ls k).nano), .slice B10 ((ln ls k).data.length) (c11), .string (ln ls k).target, .string (ln ls k).peer]))) (p' := .abs (RowA 51 10 A14 (k + 1) c15 (linesV (K.put k B10 c11) (ls.take (k + 1))))) (by kernel_rfl) (congrArg (fun x => HP.abs (RowA 51 10 _ _ _ x)) (linesV_put (by omega))) ?_
  refine TriL.segK (k' := 9) (fr' := [(0, .slice A (ls.length) (c)), (3, .slice A14 (k + 1) (c15)), (4, .int .i64 ↑k)]) (obl := []) [o_] [0, 3, 4] (fun _ _ => by kernel_rfl) trivial ?_
  refine TriL.nil (by kernel_rfl) (TriQ.blockNormal (TriQ.next (Tri.region ?_)))
  refine TriL.segK (k' := 3) (fr' := [(0, .slice A (ls.length) (c)), (3, .slice A14 (k + 1) (c15)), (4, .int .i64 ↑(k + 1))]) (obl := [(Value.int .i64 (IntKind.wrap .i64 (((k : Nat) : Int) + 1))) = (.int .i64 ↑(k + 1))]) [o_, ⟨[], none, none, none, some (.int .i64 ↑(k + 1))⟩, o_] [0, 3, 4] (fun _ _ => by kernel_rfl) ⟨wrapEq (by omega) (by omega) (by omega), trivial⟩ ?_
  refine TriL.nil (by kernel_rfl) ?_
  exact TriQ.turnB ((k + 1), β12, A14, c15, (K.put k B10 c11)) (hb := rfl) (idx := [0, 3, 4]) (pk := [0, 1]) (show (((k + 1)) ≤ ls.length) ∧ (β.le β12) ∧ (LinesAt β12 A ls M) ∧ (LinesIn β12 (ls.take ((k + 1))) ((K.put k B10 c11))) from ⟨by omega, hle0, hG, linesIn_put (by omega) hI hdB⟩) (by show ls.length - ((k + 1)) < ls.length - k; omega) (fun _ => by kernel_rfl) rfl (by kernel_rfl)
 ·
  refine Tri.exit (TriQ.passExit (TriQ.passExit (TriQ.blockHit (TriQ.next (Tri.seq (Tri.region ?_))))))
  refine TriL.rebase (Φ := fun β' => RowB β' Ao (linesV K (ls.take k))) 0 [1] (hps' := [.abs R]) rfl rfl (by kernel_rfl) (fun F w h β' h1 h2 => RowB.of_row h h1 h2) (fun βz hle_βz hR => ?_)
  replace hG := hG.le hle_βz
  replace hI := hI.le hle_βz
  replace hle0 := hle0.trans hle_βz
  have hk2 : k = ls.length := by omega
  subst hk2
  rw [List.take_of_length_le (Nat.le_refl _)] at hR hI
  refine TriL.segK (k' := 2) (fr' := [(2, .slice Ao (ls.length) (cp))]) (obl := []) [o_, o_] [2] (fun _ _ => by kernel_rfl) trivial ?_
  refine TriL.nil (by kernel_rfl) (TriQ.next (Tri.ret ?_))
  exact TriQ.retB (v := .slice Ao (ls.length) (cp)) (l := []) (obl := []) [] [0] hle0 (fun _ => by kernel_rfl) trivial rfl (by kernel_rfl) (⟨Ao, cp, K, rfl, rfl, ⟨hR, hI⟩⟩)
end Go.Proofs.Ytjpdcppdoonmdaa
end
/- part Fam. PROVED HERE: a family of parts that lie apart from one another, as one part: one is taken out, laid back, added. CONDITIONS: none. No statement of the seat is proved here. -/
section
namespace Go.Proofs.Ytjpdcppdoonmdaa
open Go.RowKit
section sat
variable {β : Bs} {l : List HP} {w : World} {p p1 p2 : HP} {i : Nat}
theorem Sat.part2 (h : Sat β l w) (hp : l[i]? = some p) (hs : ∀ F, p.h F w → ∃ F1 F2, p1.h F1 w ∧ p2.h F2 w ∧ Apart F1 F2 ∧ ∀ k, F k ↔ F1 k ∨ F2 k) : Sat β (l.set i p1 ++ [p2]) w := by
  obtain ⟨ho, φ, h1, h2, h3⟩ := h
  obtain ⟨F1, F2, g1, g2, g3, g4⟩ := hs _ (h1 i p hp)
  have hi := len_of_some hp
  have hlen : (l.set i p1 ++ [p2]).length = l.length + 1 := by simp
  refine ⟨ho, fun j => if j = l.length then F2 else if j = i then F1 else φ j, fun j q hq => ?_, fun j hj k hk hO => ?_, fun a b ha hb hne k hk hk' => ?_⟩
  · by_cases e : j = l.length
    · subst e
      rw [List.getElem?_append_right (by simp)] at hq
      simp at hq
      subst hq
      simpa using g2
    · rw [List.getElem?_append_left (by have := len_of_some hq; rw [hlen] at this; simp; omega)] at hq
      simp only [e, if_false]
      by_cases e2 : j = i
      · subst e2
        rw [List.getElem?_set_self hi] at hq
        cases hq
        simpa using g1
      · rw [List.getElem?_set_ne (fun e' => e2 e'.symm)] at hq
        simp only [e2, if_false]
        exact h1 j q hq
  · rw [hlen] at hj
    have hF : ∀ k, F1 k ∨ F2 k → β.O k → False := fun k hk hO => h2 i hi k ((g4 k).2 hk) hO
    by_cases e : j = l.length
    · simp only [e, if_true] at hk; exact hF k (.inr hk) hO
    · simp only [e, if_false] at hk
      by_cases e2 : j = i
      · simp only [e2, if_true] at hk; exact hF k (.inl hk) hO
      · simp only [e2, if_false] at hk; exact h2 j (by omega) k hk hO
  · rw [hlen] at ha hb
    have key : ∀ j, j < l.length → j ≠ i → ∀ k, F1 k ∨ F2 k → φ j k → False := fun j hj hne k hk hk' => h3 j i hj hi hne k hk' ((g4 k).2 hk)
    by_cases ea : a = l.length
    · simp only [ea, if_true] at hk
      have eb : ¬ b = l.length := fun e => hne (ea.trans e.symm)
      simp only [eb, if_false] at hk'
      by_cases eb2 : b = i
      · simp only [eb2, if_true] at hk'; exact g3 k hk' hk
      · simp only [eb2, if_false] at hk'; exact key b (by omega) eb2 k (.inr hk) hk'
    · simp only [ea, if_false] at hk
      by_cases ea2 : a = i
      · simp only [ea2, if_true] at hk
        by_cases eb : b = l.length
        · simp only [eb, if_true] at hk'; exact g3 k hk hk'
        · simp only [eb, if_false] at hk'
          have eb2 : ¬ b = i := fun e => hne (ea2.trans e.symm)
          simp only [eb2, if_false] at hk'
          exact key b (by omega) eb2 k (.inl hk) hk'
      · simp only [ea2, if_false] at hk
        by_cases eb : b = l.length
        · simp only [eb, if_true] at hk'; exact key a (by omega) ea2 k (.inr hk') hk
        · simp only [eb, if_false] at hk'
          by_cases eb2 : b = i
          · simp only [eb2, if_true] at hk'; exact key a (by omega) ea2 k (.inl hk') hk
          · simp only [eb2, if_false] at hk'; exact h3 a b (by omega) (by omega) hne k hk hk'
/-- two parts become one -/
theorem Sat.join2 {j : Nat} {idx : List Nat} {l' : List HP} (h : Sat β l w) (hp : l[i]? = some p1) (hq : l[j]? = some p2) (hn : nodupB (i :: j :: idx) = true) (hl : pickL l idx = some l') (hs : ∀ F1 F2, p1.h F1 w → p2.h F2 w → Apart F1 F2 → ∃ F, p.h F w ∧ ∀ k, F k → F1 k ∨ F2 k) : Sat β (p :: l') w := by
  have h' := h.pick (idx := i :: j :: idx) (l' := p1 :: p2 :: l') hn (by simp only [pickL, hp, hq, hl])
  obtain ⟨ho, φ, h1, h2, h3⟩ := h'
  obtain ⟨F, hF, hk⟩ := hs _ _ (h1 0 p1 rfl) (h1 1 p2 rfl) (h3 0 1 (by simp) (by simp) (by decide))
  have hlen : (p1 :: p2 :: l').length = l'.length + 2 := rfl
  rw [hlen] at h2 h3
  refine ⟨ho, fun j => if j = 0 then F else φ (j + 1), fun j q hq => ?_, fun j hj k hkk hO => ?_, fun a b ha hb hne k hk1 hk2 => ?_⟩
  · cases j with
    | zero => simp at hq; subst hq; simpa using hF
    | succ j => simpa using h1 (j + 2) q (by simpa using hq)
  · simp only [List.length_cons] at hj
    cases j with
    | zero =>
      simp only [if_true] at hkk
      rcases hk k hkk with e | e
      · exact h2 0 (by omega) k e hO
      · exact h2 1 (by omega) k e hO
    | succ j => exact h2 (j + 2) (by omega) k (by simpa using hkk) hO
  · simp only [List.length_cons] at ha hb
    have key : ∀ j, j < l'.length → F k → φ (j + 2) k → False := fun j hj e1 e2 => by
      rcases hk k e1 with e | e
      · exact h3 0 (j + 2) (by omega) (by omega) (by omega) k e e2
      · exact h3 1 (j + 2) (by omega) (by omega) (by omega) k e e2
    cases a with
    | zero =>
      cases b with
      | zero => exact hne rfl
      | succ b => exact key b (by omega) (by simpa using hk1) (by simpa using hk2)
    | succ a =>
      cases b with
      | zero => exact key a (by omega) (by simpa using hk2) (by simpa using hk1)
      | succ b => exact h3 (a + 2) (b + 2) (by omega) (by omega) (by omega) k (by simpa using hk1) (by simpa using hk2)
end sat
/-- n parts, apart from one another -/
def FamA (R : Nat → Asn) (n : Nat) : Asn where
  h F w := ∃ φ : Nat → Fp, (∀ i, i < n → (R i).h (φ i) w) ∧ (∀ i j, i < n → j < n → i ≠ j → Apart (φ i) (φ j)) ∧ ∀ k, F k ↔ ∃ i, i < n ∧ φ i k
  lt := fun ⟨_, h1, _, h3⟩ k hk => let ⟨i, hi, hk⟩ := (h3 k).1 hk; (R i).lt (h1 i hi) k hk
  st := fun ⟨φ, h1, h2, h3⟩ _ _ hk hn => ⟨φ, fun i hi => (R i).st (h1 i hi) hk (fun k hk => hn k ((h3 k).2 ⟨i, hi, hk⟩)), h2, h3⟩
def Asn.none : Asn where
  h F _ := ∀ k, ¬ F k
  lt := fun h k hk => absurd hk (h k)
  st := fun h _ _ _ _ => h
def updR (R : Nat → Asn) (k : Nat) (a : Asn) : Nat → Asn := fun i => if i = k then a else R i
section fam
variable {β : Bs} {l l' : List HP} {w : World} {i n k : Nat} {R R' : Nat → Asn} {a : Asn}
theorem FamA.nil (R : Nat → Asn) (w : World) : (HP.abs (FamA R 0)).h (fun _ => False) w := ⟨fun _ _ => False, fun i hi => absurd hi (Nat.not_lt_zero i), fun i _ hi => absurd hi (Nat.not_lt_zero i), fun _ => ⟨fun h => h.elim, fun ⟨i, hi, _⟩ => absurd hi (Nat.not_lt_zero i)⟩⟩
theorem Sat.famNil (h : Sat β l w) (R : Nat → Asn) : Sat β (l ++ [.abs (FamA R 0)]) w := Sat.new h (FamA.nil R w) (Keeps.refl _ _) (fun _ h => h.elim)
/-- one is taken out -/
theorem Sat.famTake (h : Sat β l w) (hp : l[i]? = some (.abs (FamA R n))) (hk : k < n) : Sat β (l.set i (.abs (FamA (updR R k Asn.none) n)) ++ [.abs (R k)]) w := by
  refine h.part2 hp ?_
  rintro F ⟨φ, h1, h2, h3⟩
  refine ⟨fun x => ∃ i, i < n ∧ i ≠ k ∧ φ i x, φ k, ⟨fun i => if i = k then fun _ => False else φ i, fun i hi => ?_, fun i j hi hj hne x hx hy => ?_, fun x => ⟨fun ⟨i, hi, hne, hx⟩ => ⟨i, hi, by simpa [hne] using hx⟩, fun ⟨i, hi, hx⟩ => ?_⟩⟩, h1 k hk, fun x ⟨i, hi, hne, hx⟩ hy => h2 i k hi hk hne x hx hy, fun x => ⟨fun hx => ?_, fun hx => ?_⟩⟩
  · unfold updR
    by_cases e : i = k
    · simp only [e, if_true]; exact fun _ h => h
    · simp only [e, if_false]; exact h1 i hi
  · by_cases e1 : i = k
    · simp [e1] at hx
    · by_cases e2 : j = k
      · simp [e2] at hy
      · exact h2 i j hi hj hne x (by simpa [e1] using hx) (by simpa [e2] using hy)
  · by_cases e1 : i = k
    · simp [e1] at hx
    · exact ⟨i, hi, e1, by simpa [e1] using hx⟩
  · obtain ⟨i, hi, hx⟩ := (h3 x).1 hx
    by_cases e : i = k
    · exact .inr (e ▸ hx)
    · exact .inl ⟨i, hi, e, hx⟩
  · rcases hx with ⟨i, hi, _, hx⟩ | hx
    · exact (h3 x).2 ⟨i, hi, hx⟩
    · exact (h3 x).2 ⟨k, hk, hx⟩
/-- one is laid back into its empty place -/
theorem Sat.famPut {j : Nat} {idx : List Nat} (h : Sat β l w) (hp : l[i]? = some (.abs (FamA R n))) (hq : l[j]? = some (.abs a)) (hn : nodupB (i :: j :: idx) = true) (hl : pickL l idx = some l') (hk : k < n) (hR : ∀ x, x < n → x ≠ k → R' x = R x) (ha : R' k = a) : Sat β (.abs (FamA R' n) :: l') w := by
  refine h.join2 hp hq hn hl ?_
  rintro F1 F2 ⟨φ, h1, h2, h3⟩ hF hap
  refine ⟨fun x => (∃ i, i < n ∧ i ≠ k ∧ φ i x) ∨ F2 x, ⟨fun i => if i = k then F2 else φ i, fun i hi => ?_, fun i j hi hj hne x hx hy => ?_, fun x => ⟨fun hx => ?_, fun ⟨i, hi, hx⟩ => ?_⟩⟩, fun x hx => hx.imp (fun ⟨i, hi, _, hx⟩ => (h3 x).2 ⟨i, hi, hx⟩) id⟩
  · by_cases e : i = k
    · subst e; simp only [if_true]; rw [ha]; exact hF
    · simp only [e, if_false]; rw [hR i hi e]; exact h1 i hi
  · by_cases e1 : i = k
    · by_cases e2 : j = k
      · exact hne (e1.trans e2.symm)
      · simp only [e1, if_true] at hx
        simp only [e2, if_false] at hy
        exact hap x ((h3 x).2 ⟨j, hj, hy⟩) hx
    · simp only [e1, if_false] at hx
      by_cases e2 : j = k
      · simp only [e2, if_true] at hy
        exact hap x ((h3 x).2 ⟨i, hi, hx⟩) hy
      · simp only [e2, if_false] at hy
        exact h2 i j hi hj hne x hx hy
  · rcases hx with ⟨i, hi, hne, hx⟩ | hx
    · exact ⟨i, hi, by simpa [hne] using hx⟩
    · exact ⟨k, hk, by simpa using hx⟩
  · by_cases e : i = k
    · exact .inr (by simpa [e] using hx)
    · exact .inl ⟨i, hi, e, by simpa [e] using hx⟩
/-- one more -/
theorem Sat.famPush {j : Nat} {idx : List Nat} (h : Sat β l w) (hp : l[i]? = some (.abs (FamA R n))) (hq : l[j]? = some (.abs a)) (hn : nodupB (i :: j :: idx) = true) (hl : pickL l idx = some l') (hR : ∀ x, x < n → R' x = R x) (ha : R' n = a) : Sat β (.abs (FamA R' (n + 1)) :: l') w := by
  refine h.join2 hp hq hn hl ?_
  rintro F1 F2 ⟨φ, h1, h2, h3⟩ hF hap
  refine ⟨fun x => F1 x ∨ F2 x, ⟨fun i => if i = n then F2 else φ i, fun i hi => ?_, fun i j hi hj hne x hx hy => ?_, fun x => ⟨fun hx => ?_, fun ⟨i, hi, hx⟩ => ?_⟩⟩, fun x hx => hx⟩
  · by_cases e : i = n
    · subst e; simp only [if_true]; rw [ha]; exact hF
    · simp only [e, if_false]; rw [hR i (by omega)]; exact h1 i (by omega)
  · by_cases e1 : i = n
    · by_cases e2 : j = n
      · exact hne (e1.trans e2.symm)
      · simp only [e1, if_true] at hx
        simp only [e2, if_false] at hy
        exact hap x ((h3 x).2 ⟨j, by omega, hy⟩) hx
    · simp only [e1, if_false] at hx
      by_cases e2 : j = n
      · simp only [e2, if_true] at hy
        exact hap x ((h3 x).2 ⟨i, by omega, hx⟩) hy
      · simp only [e2, if_false] at hy
        exact h2 i j (by omega) (by omega) hne x hx hy
  · rcases hx with hx | hx
    · obtain ⟨i, hi, hx⟩ := (h3 x).1 hx
      exact ⟨i, by omega, by simpa [Nat.ne_of_lt hi] using hx⟩
    · exact ⟨n, Nat.lt_succ_self n, by simpa using hx⟩
  · by_cases e : i = n
    · exact .inr (by simpa [e] using hx)
    · exact .inl ((h3 x).2 ⟨i, by omega, by simpa [e] using hx⟩)
/-- the family is laid to the base -/
theorem FamA.base {F : Fp} {β' : Bs} (h : (HP.abs (FamA R n)).h F w) (h1 : ∀ k, F k → β'.O k) (_ : β'.w0 = w) {Φ : Nat → Bs → Prop} (hΦ : ∀ i, i < n → ∀ F, (R i).h F w → (∀ k, F k → β'.O k) → Φ i β') : ∀ i, i < n → Φ i β' := by
  obtain ⟨φ, g1, _, g3⟩ := h
  exact fun i hi => hΦ i hi (φ i) (g1 i hi) (fun k hk => h1 k ((g3 k).2 ⟨i, hi, hk⟩))
end fam
section mixB
variable {P : Program} {β : Bs} {N : Nat} {ops : Array Oper} {S : List HP} {l : List Nat} {fr : Fr} {hps : List HP} {Q : Post} {i : Nat}
theorem wpMix_mono {S S' : World → Prop} (hs : ∀ w, S w → S' w) : ∀ (l : List Nat) (a : Act) (w : World), wpMix P ops Q S 0 l a w → wpMix P ops Q S' 0 l a w
  | [], _, _, h => h
  | i :: l, a, w, h => by
    unfold wpMix at h ⊢
    exact wpOp_mono (fun a' w' h' => ⟨h'.1.imp id (hs w'), wpMix_mono hs l a' w' h'.2⟩) h
/-- an operation that changes memory and lets the base grow -/
def MidB (β : Bs) (N : Nat) {ι : Type} (B : ι → Bs) (Φ : ι → Prop) (fr : ι → Fr) (hp : ι → List HP) : Post := fun _ a w => ∃ i junk, β.le (B i) ∧ Φ i ∧ a = mkA N (fr i) junk ∧ Sat (B i) (hp i) w
theorem TriM.cutB {ι : Type} {B : ι → Bs} {Φ : ι → Prop} {fr' : ι → Fr} {hp' : ι → List HP} {o : Oper} (pk : List Nat) (hop : ops[i]? = some o) (hg : o.guard = none) (h : TriL P β N #[o] 0 fr hps (NP (MidB β N B Φ fr' hp'))) (hn : nodupB pk = true) (hp : ∀ j, pickL (hp' j) pk = some S)
    (K : ∀ j, β.le (B j) → Φ j → TriM P (B j) N ops S 0 l (fr' j) (hp' j) Q) : TriM P β N ops S 0 (i :: l) fr hps Q := by
  intro junk w hS
  unfold wpMix
  refine wpOp_of_list hop hg ?_
  have h1 := h junk w hS
  have h2 : wpList P #[o] (NP (MidB β N B Φ fr' hp')) [o] (mkA N fr junk) w := h1
  refine wpList_np (fun a w ⟨j, junk', hle, hΦ, ha, hS'⟩ => ?_) h2
  subst ha
  exact ⟨.inr ((hS'.pick hn (hp j)).debase hle), wpMix_mono (fun w h => h.debase hle) _ _ _ (K j hle hΦ junk' w hS')⟩
theorem TriQ.midB {β0 : Bs} {ι : Type} {B : ι → Bs} {Φ : ι → Prop} {fr' : ι → Fr} {hp' : ι → List HP} (j : ι) {idx pk : List Nat} (hb : B j = β) (hle : β0.le β) (hΦ : Φ j) (hf : ∀ junk, pickF fr junk idx = fr' j) (hn : nodupB pk = true) (hp : pickL hps pk = some (hp' j)) : TriQ β N (NP (MidB β0 N B Φ fr' hp')) .normal fr hps := by
  subst hb
  exact fun junk _ hS => ⟨j, lk fr junk, hle, hΦ, by rw [mkA_pick N fr junk idx, hf junk], hS.pick hn hp⟩
end mixB
end Go.Proofs.Ytjpdcppdoonmdaa
end
/- part GPl. PROVED HERE: what Plant builds, as plain data: the program's steps and the reference's. CONDITIONS: none. -/
section
namespace Go.Proofs.Ytjpdcppdoonmdaa
open Go.RowKit Go.Maps
/-- what is built: nodes, and the number that each line has come to -/
structure PS where
  ns : List NodeM
  ids : List Nat
def PS0 : PS := ⟨[], []⟩
def lineNode (l : LineM) (k : Nat) : NodeM := ⟨((k + 1 : Nat) : Int), l.kind, l.mode, l.uid, l.gid, l.sec, l.nano, l.data, l.target, []⟩
def addEnt (ns : List NodeM) (k : Nat) (e : EntM) : List NodeM := ns.set k { nd ns k with ents := (nd ns k).ents ++ [e] }
/-- the number of the first line, of the first i, that has the path; 0: none has it -/
def idOf (ls : List LineM) (ids : List Nat) (p : ByteArray) : Nat → Nat
  | 0 => 0
  | i + 1 => if idOf ls ids p i = 0 ∧ (ln ls i).path = p then ids.getD i 0 else idOf ls ids p i
/-- the place of the last line, of the first i but the very first, that has the path; -1: none has it -/
def lastOf (ls : List LineM) (ids : List Nat) (p : ByteArray) : Nat → Int
  | 0 => -1
  | i + 1 => if 1 ≤ i ∧ (ln ls i).path = p then ((ids.getD i 0 : Nat) : Int) - 1 else lastOf ls ids p i
def newId (ls : List LineM) (s : PS) (i : Nat) : Nat := if (ln ls i).peer = ⟨#[]⟩ then s.ns.length + 1 else idOf ls s.ids (ln ls i).peer i
def newNs (ls : List LineM) (s : PS) (i : Nat) : List NodeM := if (ln ls i).peer = ⟨#[]⟩ then s.ns ++ [lineNode (ln ls i) s.ns.length] else s.ns
def cutAt (p : ByteArray) : Int := Lib.lastIndexByte p 47
def nameOf (p : ByteArray) : ByteArray := if 0 ≤ cutAt p then p.extract ((cutAt p).toNat + 1) p.size else p
def aboveOf (p : ByteArray) : ByteArray := p.extract 0 (cutAt p).toNat
def parP (ls : List LineM) (s : PS) (i : Nat) : Nat := if 0 ≤ cutAt (ln ls i).path then idOf ls s.ids (aboveOf (ln ls i).path) i else 1
def parR (ls : List LineM) (s : PS) (i : Nat) : Int := if 0 ≤ cutAt (ln ls i).path then lastOf ls s.ids (aboveOf (ln ls i).path) i else 0
def stepP (ls : List LineM) (s : PS) (i : Nat) : Option PS :=
  if ¬ idOf ls s.ids (ln ls i).path i = 0 ∨ newId ls s i = 0 then none
  else if i = 0 then some ⟨newNs ls s i, s.ids ++ [newId ls s i]⟩
  else if parP ls s i = 0 then none
  else some ⟨addEnt (newNs ls s i) (parP ls s i - 1) ⟨nameOf (ln ls i).path, ((newId ls s i : Nat) : Int)⟩, s.ids ++ [newId ls s i]⟩
def stepR (ls : List LineM) (s : PS) (i : Nat) : Option PS :=
  if newId ls s i = 0 then none
  else if i = 0 then some ⟨newNs ls s i, s.ids ++ [newId ls s i]⟩
  else if parR ls s i < 0 then none
  else some ⟨addEnt (newNs ls s i) (parR ls s i).toNat ⟨nameOf (ln ls i).path, ((newId ls s i : Nat) : Int)⟩, s.ids ++ [newId ls s i]⟩
def foldS (step : List LineM → PS → Nat → Option PS) (ls : List LineM) : Nat → Option PS
  | 0 => some PS0
  | i + 1 => (foldS step ls i).bind fun s => step ls s i
/-- what is held of a state after i lines -/
structure PInv (ls : List LineM) (s : PS) (i : Nat) : Prop where
  idl : s.ids.length = i
  nsl : s.ns.length ≤ i
  ns1 : 1 ≤ i → 1 ≤ s.ns.length
  idb : ∀ j, j < i → 1 ≤ s.ids.getD j 0 ∧ s.ids.getD j 0 ≤ s.ns.length
  num : ∀ k, k < s.ns.length → (nd s.ns k).id = ((k + 1 : Nat) : Int)
theorem PInv.zero (ls : List LineM) : PInv ls PS0 0 := ⟨rfl, Nat.le_refl _, fun h => absurd h (by decide), fun j h => absurd h (Nat.not_lt_zero j), fun k h => absurd h (Nat.not_lt_zero k)⟩
theorem idOf_le {ls : List LineM} {ids : List Nat} {p : ByteArray} {b : Nat} : ∀ {i : Nat}, (∀ j, j < i → 1 ≤ ids.getD j 0 ∧ ids.getD j 0 ≤ b) → idOf ls ids p i ≤ b
  | 0, _ => Nat.zero_le _
  | i + 1, h => by
    rw [idOf]
    split
    · exact (h i (Nat.lt_succ_self i)).2
    · exact idOf_le (fun j hj => h j (by omega))
theorem idOf_zero {ls : List LineM} {ids : List Nat} {p : ByteArray} : ∀ {i : Nat}, (∀ j, j < i → 1 ≤ ids.getD j 0) → (idOf ls ids p i = 0 ↔ ∀ j, j < i → ¬ (ln ls j).path = p)
  | 0, _ => ⟨fun _ j hj => absurd hj (Nat.not_lt_zero j), fun _ => rfl⟩
  | i + 1, h => by
    have ih := idOf_zero (ls := ls) (p := p) (i := i) (fun j hj => h j (by omega))
    have hi := h i (Nat.lt_succ_self i)
    rw [idOf]
    split
    · rename_i h1
      exact ⟨fun e => by omega, fun e => absurd h1.2 (e i (Nat.lt_succ_self i))⟩
    · rename_i h1
      refine ⟨fun e j hj => ?_, fun e => ih.2 fun j hj => e j (by omega)⟩
      rcases Nat.lt_succ_iff_lt_or_eq.1 hj with h2 | h2
      · exact ih.1 e j h2
      · rw [h2]; exact fun h3 => h1 ⟨e, h3⟩
theorem getD_snoc {l : List Nat} {x : Nat} {j : Nat} (h : j < l.length) : (l ++ [x]).getD j 0 = l.getD j 0 := by
  rw [List.getD_eq_getElem?_getD, List.getD_eq_getElem?_getD, List.getElem?_append_left h]
theorem getD_last {l : List Nat} {x : Nat} : (l ++ [x]).getD l.length 0 = x := by
  rw [List.getD_eq_getElem?_getD, List.getElem?_append_right (Nat.le_refl _)]; simp
theorem idOf_snoc {ls : List LineM} {ids : List Nat} {x : Nat} {p : ByteArray} : ∀ {i : Nat}, i ≤ ids.length → idOf ls (ids ++ [x]) p i = idOf ls ids p i
  | 0, _ => rfl
  | i + 1, h => by
    rw [idOf, idOf, idOf_snoc (by omega), getD_snoc (by omega)]
end Go.Proofs.Ytjpdcppdoonmdaa
end
/- part GPv. PROVED HERE: where the lines' paths are as a tree's, the program's Plant and the reference's build alike. CONDITIONS: none. -/
section
namespace Go.Proofs.Ytjpdcppdoonmdaa
open Go.RowKit Go.Maps
theorem newId_le {ls : List LineM} {s : PS} {i : Nat} (h : PInv ls s i) : newId ls s i ≤ (newNs ls s i).length := by
  unfold newId newNs
  split
  · simp
  · exact idOf_le (fun j hj => h.idb j hj)
theorem newNs_ge {ls : List LineM} {s : PS} {i : Nat} : s.ns.length ≤ (newNs ls s i).length := by
  unfold newNs; split <;> simp
theorem newNs_le {ls : List LineM} {s : PS} {i : Nat} : (newNs ls s i).length ≤ s.ns.length + 1 := by
  unfold newNs; split <;> simp
theorem nd_snoc {ns : List NodeM} {n : NodeM} {k : Nat} (h : k < ns.length) : nd (ns ++ [n]) k = nd ns k := by
  unfold nd; rw [List.getD_eq_getElem?_getD, List.getD_eq_getElem?_getD, List.getElem?_append_left h]
theorem nd_last {ns : List NodeM} {n : NodeM} : nd (ns ++ [n]) ns.length = n := by
  unfold nd; rw [List.getD_eq_getElem?_getD, List.getElem?_append_right (Nat.le_refl _)]; simp
theorem newNs_num {ls : List LineM} {s : PS} {i : Nat} (h : PInv ls s i) {k : Nat} (hk : k < (newNs ls s i).length) : (nd (newNs ls s i) k).id = ((k + 1 : Nat) : Int) := by
  unfold newNs at hk ⊢
  split
  · rename_i h1
    rw [if_pos h1] at hk
    simp only [List.length_append, List.length_singleton] at hk
    by_cases e : k = s.ns.length
    · subst e; rw [nd_last]; rfl
    · rw [nd_snoc (by omega)]; exact h.num k (by omega)
  · rename_i h1
    rw [if_neg h1] at hk
    exact h.num k hk
theorem addEnt_len (ns : List NodeM) (k : Nat) (e : EntM) : (addEnt ns k e).length = ns.length := List.length_set
theorem nd_addEnt {ns : List NodeM} {k j : Nat} {e : EntM} (hk : k < ns.length) : nd (addEnt ns k e) j = if j = k then { nd ns k with ents := (nd ns k).ents ++ [e] } else nd ns j := by
  unfold addEnt
  by_cases h : j = k
  · subst h
    rw [if_pos rfl]
    conv => lhs; unfold nd
    rw [List.getD_eq_getElem?_getD, List.getElem?_set_self hk]; rfl
  · rw [if_neg h]
    conv => lhs; unfold nd
    rw [List.getD_eq_getElem?_getD, List.getElem?_set_ne (fun e => h e.symm)]
    unfold nd
    rw [List.getD_eq_getElem?_getD]
theorem PInv.step {ls : List LineM} {s : PS} {i : Nat} (h : PInv ls s i) (hn : ¬ newId ls s i = 0) {ns : List NodeM} (hl : ns.length = (newNs ls s i).length) (hnum : ∀ k, k < ns.length → (nd ns k).id = ((k + 1 : Nat) : Int)) : PInv ls ⟨ns, s.ids ++ [newId ls s i]⟩ (i + 1) := by
  have h1 := newId_le h
  have h2 := newNs_ge (ls := ls) (s := s) (i := i)
  have h3 := newNs_le (ls := ls) (s := s) (i := i)
  have h4 := h.nsl
  refine ⟨by simp [h.idl], by show ns.length ≤ _; omega, fun _ => by show 1 ≤ ns.length; omega, fun j hj => ?_, hnum⟩
  show 1 ≤ (s.ids ++ [newId ls s i]).getD j 0 ∧ (s.ids ++ [newId ls s i]).getD j 0 ≤ ns.length
  rcases Nat.lt_succ_iff_lt_or_eq.1 hj with e | e
  · rw [getD_snoc (by rw [h.idl]; exact e)]
    have := h.idb j e
    omega
  · have e2 : j = s.ids.length := by rw [h.idl]; exact e
    rw [e2, getD_last]
    omega
theorem parP_le {ls : List LineM} {s : PS} {i : Nat} (h : PInv ls s i) (hi : 0 < i) : parP ls s i ≤ s.ns.length := by
  unfold parP
  split
  · exact idOf_le (fun j hj => h.idb j hj)
  · exact h.ns1 hi
theorem stepP_inv {ls : List LineM} {s s' : PS} {i : Nat} (h : PInv ls s i) (hs : stepP ls s i = some s') : PInv ls s' (i + 1) := by
  unfold stepP at hs
  split at hs
  · cases hs
  · rename_i h1
    have hn : ¬ newId ls s i = 0 := fun e => h1 (.inr e)
    split at hs
    · cases hs
      exact h.step hn rfl (fun k hk => newNs_num h hk)
    · rename_i h2
      split at hs
      · cases hs
      · rename_i h3
        cases hs
        have h4 := parP_le h (by omega)
        have h5 := newNs_ge (ls := ls) (s := s) (i := i)
        refine h.step hn (addEnt_len _ _ _) (fun k hk => ?_)
        rw [addEnt_len] at hk
        rw [nd_addEnt (by omega)]
        split
        · rename_i e; subst e; exact newNs_num h hk
        · exact newNs_num h hk
theorem lastOf_none {ls : List LineM} {ids : List Nat} {p : ByteArray} : ∀ {i : Nat}, (∀ j, 1 ≤ j → j < i → ¬ (ln ls j).path = p) → lastOf ls ids p i = -1
  | 0, _ => rfl
  | i + 1, h => by
    rw [lastOf, if_neg (fun e => h i e.1 (Nat.lt_succ_self i) e.2)]
    exact lastOf_none (fun j h1 h2 => h j h1 (by omega))
theorem lastOf_at {ls : List LineM} {ids : List Nat} {p : ByteArray} {j : Nat} (hj1 : 1 ≤ j) (hp : (ln ls j).path = p) : ∀ {i : Nat}, j < i → (∀ t, 1 ≤ t → t < i → (ln ls t).path = p → t = j) → lastOf ls ids p i = ((ids.getD j 0 : Nat) : Int) - 1
  | 0, h, _ => absurd h (Nat.not_lt_zero j)
  | i + 1, h, hu => by
    rw [lastOf]
    by_cases e : 1 ≤ i ∧ (ln ls i).path = p
    · rw [if_pos e, hu i e.1 (Nat.lt_succ_self i) e.2]
    · rw [if_neg e]
      rcases Nat.lt_succ_iff_lt_or_eq.1 h with h2 | h2
      · exact lastOf_at hj1 hp h2 (fun t h1 h2 => hu t h1 (by omega))
      · subst h2; exact absurd ⟨hj1, hp⟩ e
theorem idOf_at {ls : List LineM} {ids : List Nat} {p : ByteArray} {j : Nat} (hp : (ln ls j).path = p) : ∀ {i : Nat}, j < i → (∀ t, t < i → 1 ≤ ids.getD t 0) → (∀ t, t < i → (ln ls t).path = p → t = j) → idOf ls ids p i = ids.getD j 0
  | 0, h, _, _ => absurd h (Nat.not_lt_zero j)
  | i + 1, h, hb, hu => by
    rw [idOf]
    by_cases e : idOf ls ids p i = 0 ∧ (ln ls i).path = p
    · rw [if_pos e, hu i (Nat.lt_succ_self i) e.2]
    · rw [if_neg e]
      rcases Nat.lt_succ_iff_lt_or_eq.1 h with h2 | h2
      · exact idOf_at hp h2 (fun t ht => hb t (by omega)) (fun t ht => hu t (by omega))
      · subst h2
        exfalso
        apply e
        refine ⟨(idOf_zero (fun t ht => hb t (by omega))).2 (fun t ht e2 => ?_), hp⟩
        have := hu t (by omega) e2
        omega
/-- a path of names is no dot ahead of its last stroke -/
def AboveOk (ls : List LineM) : Prop := ∀ i, 0 < i → i < ls.length → 0 ≤ cutAt (ln ls i).path → ¬ aboveOf (ln ls i).path = ⟨#[46]⟩
theorem par_eq {ls : List LineM} {s : PS} {i : Nat} (h : PInv ls s i) (hg : GoodLines ls) (ha : AboveOk ls) (h0 : 0 < i) (hi : i < ls.length) : parR ls s i = ((parP ls s i : Nat) : Int) - 1 := by
  unfold parR parP
  by_cases hc : 0 ≤ cutAt (ln ls i).path
  · rw [if_pos hc, if_pos hc]
    by_cases hx : ∃ j, j < i ∧ (ln ls j).path = aboveOf (ln ls i).path
    · obtain ⟨j, hj, hp⟩ := hx
      have huniq : ∀ t, t < i → (ln ls t).path = aboveOf (ln ls i).path → t = j := fun t ht e => by
        rcases Nat.lt_trichotomy t j with h1 | h1 | h1
        · exact absurd (e.trans hp.symm) (hg.nodup t j h1 (by omega))
        · exact h1
        · exact absurd (hp.trans e.symm) (hg.nodup j t h1 (by omega))
      have hj1 : 1 ≤ j := by
        rcases Nat.eq_zero_or_pos j with e | e
        · subst e
          exact absurd (by rw [← hp]; exact hg.first (by omega)) (ha i h0 hi hc)
        · exact e
      rw [lastOf_at hj1 hp hj (fun t _ h2 h3 => huniq t h2 h3), idOf_at hp hj (fun t ht => (h.idb t ht).1) huniq]
    · have hno : ∀ j, j < i → ¬ (ln ls j).path = aboveOf (ln ls i).path := fun j hj e => hx ⟨j, hj, e⟩
      rw [lastOf_none (fun j _ h2 => hno j h2), (idOf_zero (fun j hj => (h.idb j hj).1)).2 hno]
      rfl
  · rw [if_neg hc, if_neg hc]; rfl
theorem step_eq {ls : List LineM} {s : PS} {i : Nat} (h : PInv ls s i) (hg : GoodLines ls) (ha : AboveOk ls) (hi : i < ls.length) : stepR ls s i = stepP ls s i := by
  have hid : idOf ls s.ids (ln ls i).path i = 0 := (idOf_zero (fun j hj => (h.idb j hj).1)).2 (fun j hj => hg.nodup j i hj hi)
  unfold stepR stepP
  by_cases hn : newId ls s i = 0
  · rw [if_pos hn, if_pos (.inr hn)]
  · rw [if_neg hn, if_neg (show ¬(¬ idOf ls s.ids (ln ls i).path i = 0 ∨ newId ls s i = 0) from fun e => e.elim (fun e => e hid) hn)]
    by_cases h0 : i = 0
    · rw [if_pos h0, if_pos h0]
    · rw [if_neg h0, if_neg h0, par_eq h hg ha (by omega) hi]
      by_cases hp : parP ls s i = 0
      · rw [if_pos (by omega), if_pos hp]
      · rw [if_neg (by omega), if_neg hp]
        congr 3
        omega
theorem fold_inv {ls : List LineM} : ∀ {i : Nat} {s : PS}, foldS stepP ls i = some s → PInv ls s i
  | 0, s, h => by cases h; exact PInv.zero ls
  | i + 1, s, h => by
    rw [foldS] at h
    cases h1 : foldS stepP ls i with
    | none => rw [h1] at h; cases h
    | some s1 => rw [h1] at h; exact stepP_inv (fold_inv h1) h
theorem fold_eq {ls : List LineM} (hg : GoodLines ls) (ha : AboveOk ls) : ∀ {i : Nat}, i ≤ ls.length → foldS stepR ls i = foldS stepP ls i
  | 0, _ => rfl
  | i + 1, h => by
    rw [foldS, foldS, fold_eq hg ha (by omega)]
    cases h1 : foldS stepP ls i with
    | none => rfl
    | some s => exact step_eq (fold_inv h1) hg ha (by omega)
theorem byteAt_get {s : ByteArray} {j : Nat} (h : j < s.size) : (s.data[j]!).toNat = byteAt s j := by
  unfold byteAt
  rw [Array.getD_eq_getD_getElem?, Array.getElem!_eq_getD, Array.getD_eq_getD_getElem?]
  have : j < s.data.size := h
  rw [Array.getElem?_eq_getElem this]
  rfl
theorem cutAt_spec (p : ByteArray) : (cutAt p = -1 ∧ ∀ j, j < p.size → ¬ byteAt p j = 47) ∨ ∃ i : Nat, i < p.size ∧ cutAt p = i ∧ byteAt p i = 47 ∧ ∀ j, i < j → j < p.size → ¬ byteAt p j = 47 := by
  rcases Lib.lastIndexByte_spec p 47 with ⟨h1, h2⟩ | ⟨i, h1, h2, h3, h4⟩
  · exact .inl ⟨h1, fun j hj e => h2 j hj (by rw [byteAt_get hj, e]; rfl)⟩
  · exact .inr ⟨i, h1, h2, by rw [byteAt_get h1] at h3; omega, fun j h5 h6 e => h4 j h5 h6 (by rw [byteAt_get h6, e]; rfl)⟩
theorem Path.above {l : List ByteArray} {p : ByteArray} (h : Path l p) (hc : 0 ≤ cutAt p) : ¬ aboveOf p = ⟨#[46]⟩ := by
  cases h with
  | one h =>
    rcases cutAt_spec p with ⟨h1, _⟩ | ⟨i, h1, _, h3, _⟩
    · omega
    · exact absurd h3 (h.2.2.2.2 i h1).2
  | @more l p n h hn =>
    have e1 : (⟨#[47]⟩ : ByteArray).size = 1 := rfl
    have hs : (p ++ ⟨#[47]⟩ ++ n).size = p.size + 1 + n.size := by rw [ByteArray.size_append, ByteArray.size_append, e1]
    have hb : byteAt (p ++ ⟨#[47]⟩ ++ n) p.size = 47 := by
      rw [ByteArray.append_assoc, byteAt_right (Nat.le_refl _), Nat.sub_self, byteAt_left (by rw [e1]; decide)]
      rfl
    have hcut : cutAt (p ++ ⟨#[47]⟩ ++ n) = (p.size : Int) := by
      rcases cutAt_spec (p ++ ⟨#[47]⟩ ++ n) with ⟨_, h2⟩ | ⟨i, h1, h2, h3, h4⟩
      · exact absurd hb (h2 p.size (by omega))
      · rcases Nat.lt_trichotomy i p.size with e | e | e
        · exact absurd hb (h4 p.size e (by omega))
        · rw [h2, e]
        · exfalso
          rw [byteAt_right (by rw [ByteArray.size_append, e1]; omega), ByteArray.size_append, e1] at h3
          exact (hn.2.2.2.2 (i - (p.size + 1)) (by omega)).2 h3
    intro e
    unfold aboveOf at e
    rw [hcut, Int.toNat_natCast, ByteArray.append_assoc, ByteArray.extract_append_eq_left rfl] at e
    rw [e] at h
    exact h.not_dot
theorem GoodLines.above {ls : List LineM} (h : GoodLines ls) : AboveOk ls := fun i h0 hi hc => by
  obtain ⟨l, h1⟩ := h.path i h0 hi
  exact h1.above hc
/-- what Plant answers -/
noncomputable def plantG (ls : List LineM) : List NodeM × Int :=
  match foldS stepP ls ls.length with
  | none => ([], 151)
  | some s => if treeG s.ns 1 = (ls, 0) then (s.ns, 0) else ([], 151)
noncomputable def plantR (ls : List LineM) : List NodeM × Int :=
  match foldS stepR ls ls.length with
  | none => ([], 151)
  | some s => if treeG s.ns 1 = (ls, 0) then (s.ns, 0) else ([], 151)
theorem good_of {ls : List LineM} {ns : List NodeM} (h : treeG ns 1 = (ls, 0)) : GoodLines ls := by
  have := tree_good (ns := ns) (root := 1) (by rw [h])
  rw [h] at this
  exact this
theorem plant_eq (ls : List LineM) : plantR ls = plantG ls := by
  by_cases hg : GoodLines ls
  · unfold plantR plantG
    rw [fold_eq hg hg.above (Nat.le_refl _)]
  · have hno : ∀ ns, ¬ treeG ns 1 = (ls, 0) := fun ns e => hg (good_of e)
    have e1 : plantR ls = ([], 151) := by
      unfold plantR
      split
      · rfl
      · rw [if_neg (hno _)]
    have e2 : plantG ls = ([], 151) := by
      unfold plantG
      split
      · rfl
      · rw [if_neg (hno _)]
    rw [e1, e2]
end Go.Proofs.Ytjpdcppdoonmdaa
end
/- part GPw. PROVED HERE: what Plant holds in memory: the entries' rows as a family, the map of paths. CONDITIONS: none. -/
section
namespace Go.Proofs.Ytjpdcppdoonmdaa
open Go.RowKit Go.Maps
theorem lawS : Keyed Try.prog 9 := string_keyed Try.underlying9
theorem keyS {p : ByteArray} (h : p.size ≤ 9223372036854775807) : keyOf Try.prog 9 (.string p) = some (.string p.data.toList) := WideMaps.keyOf_string_mk Try.underlying9 (by unfold maxLen; omega)
/-- a map of texts as a function of the key's datum -/
def mS (g : ByteArray → Option Value) : Lit → Option Value
  | .string l => g ⟨l.toArray⟩
  | _ => none
theorem mS_at (g : ByteArray → Option Value) (p : ByteArray) : mS g (.string p.data.toList) = g p := by
  show g ⟨p.data.toList.toArray⟩ = g p
  rw [Array.toArray_toList]
theorem mS_upd (g : ByteArray → Option Value) (p : ByteArray) (v : Option Value) : upd (mS g) (.string p.data.toList) v = mS (fun q => if q = p then v else g q) := by
  funext x
  unfold upd mS
  cases x with
  | string l =>
    by_cases e : l = p.data.toList
    · subst e
      have e2 : (⟨p.data.toList.toArray⟩ : ByteArray) = p := by rw [Array.toArray_toList]
      simp [Lit.sameKey]
    · have e2 : ¬ (⟨l.toArray⟩ : ByteArray) = p := fun h => e (by rw [← h])
      simp [Lit.sameKey, e, e2]
  | _ => rfl
theorem mS_none : mS (fun _ => none) = fun _ => none := by
  funext x
  unfold mS
  split <;> rfl
/-- the program's map after i lines -/
def idv (ls : List LineM) (ids : List Nat) (i : Nat) (p : ByteArray) : Option Value := if idOf ls ids p i = 0 then none else some (.int .i64 ((idOf ls ids p i : Nat) : Int))
theorem idv_zero (ls : List LineM) (ids : List Nat) : mS (idv ls ids 0) = fun _ => none := by
  rw [← mS_none]; rfl
theorem idv_some {ls : List LineM} {ids : List Nat} {i : Nat} {p : ByteArray} (h : ¬ idOf ls ids p i = 0) : mS (idv ls ids i) (.string p.data.toList) = some (.int .i64 ((idOf ls ids p i : Nat) : Int)) := by
  rw [mS_at]; exact if_neg h
theorem idv_none {ls : List LineM} {ids : List Nat} {i : Nat} {p : ByteArray} (h : idOf ls ids p i = 0) : mS (idv ls ids i) (.string p.data.toList) = none := by
  rw [mS_at]; exact if_pos h
theorem idv_upd {ls : List LineM} {ids : List Nat} {i x : Nat} (hl : ids.length = i) (hx : ¬ x = 0) (h : idOf ls ids (ln ls i).path i = 0) :
    upd (mS (idv ls ids i)) (.string (ln ls i).path.data.toList) (some (.int .i64 ((x : Nat) : Int))) = mS (idv ls (ids ++ [x]) (i + 1)) := by
  rw [mS_upd]
  congr 1
  funext q
  unfold idv
  have e : (ids ++ [x]).getD i 0 = x := by rw [← hl]; exact getD_last
  have e3 : idOf ls (ids ++ [x]) q (i + 1) = if idOf ls ids q i = 0 ∧ (ln ls i).path = q then x else idOf ls ids q i := by
    rw [idOf, idOf_snoc (by omega), e]
  by_cases hq : q = (ln ls i).path
  · rw [if_pos hq, e3.trans (if_pos ⟨hq ▸ h, hq.symm⟩), if_neg hx]
  · rw [if_neg hq, e3.trans (if_neg (fun e => hq e.2.symm))]
theorem idv_cnt {ls : List LineM} {ids : List Nat} {i : Nat} (h : idOf ls ids (ln ls i).path i = 0) : (if (mS (idv ls ids i) (.string (ln ls i).path.data.toList)).isSome then i else i + 1) = i + 1 := by
  rw [idv_none h]; rfl
/-! ### the entries' rows -/
def entF (ns : List NodeM) (L : Lay) (k : Nat) : Asn := RowA 72 2 (L.eA k) (nd ns k).ents.length (L.eC k) (entsV (nd ns k).ents)
/-- the entries of node k have moved -/
def Lay.ent (L : Lay) (k : Nat) (B : Option Addr) (c : Nat) : Lay := ⟨L.dA, fun i => if i = k then B else L.eA i, L.dC, fun i => if i = k then c else L.eC i⟩
theorem flatF_set {α : Type} {f g : Nat → α → List Value} {s : Nat} (hf : ∀ i a, (f i a).length = s) (hg : ∀ i a, (g i a).length = s) : ∀ (xs : List α) (b k j : Nat) (a : α) (u : Value), k < xs.length → j < s →
    (∀ i, i ≠ k → ∀ x, xs[i]? = some x → g (b + i) x = f (b + i) x) → (∀ x, xs[k]? = some x → g (b + k) a = (f (b + k) x).set j u) → (flatF f b xs).set (k * s + j) u = flatF g b (xs.set k a)
  | [], _, k, _, _, _, h, _, _, _ => absurd h (Nat.not_lt_zero k)
  | x :: r, b, 0, j, a, u, _, hj, h1, h2 => by
    rw [flatF, List.set_cons_zero, flatF, Nat.zero_mul, Nat.zero_add, List.set_append_left _ _ (by rw [hf]; exact hj)]
    have e := h2 x rfl
    rw [Nat.add_zero] at e
    rw [e]
    congr 1
    exact flatF_congr _ _ (fun i a hi => by
      have := h1 (i + 1) (by omega) a (by simpa using hi)
      rw [show b + 1 + i = b + (i + 1) by omega]
      exact this.symm)
  | x :: r, b, k + 1, j, a, u, h, hj, h1, h2 => by
    rw [flatF, List.set_cons_succ, flatF, List.set_append_right _ _ (by rw [hf, Nat.add_mul]; omega), hf]
    have e0 := h1 0 (by omega) x rfl
    rw [Nat.add_zero] at e0
    rw [e0, show (k + 1) * s + j - s = k * s + j by rw [Nat.add_mul]; omega]
    congr 1
    refine flatF_set hf hg r (b + 1) k j a u (by simpa using h) hj (fun i hi y hy => ?_) (fun y hy => ?_)
    · rw [show b + 1 + i = b + (i + 1) by omega]; exact h1 (i + 1) (by omega) y (by simpa using hy)
    · rw [show b + 1 + k = b + (k + 1) by omega]; exact h2 y (by simpa using hy)
theorem nodesV_ent {L : Lay} {ns : List NodeM} {k : Nat} {e : EntM} {B : Option Addr} {c : Nat} (hk : k < ns.length) : (nodesV L ns).set (k * 10 + 9) (.slice B ((nd ns k).ents.length + 1) c) = nodesV (L.ent k B c) (addEnt ns k e) := by
  refine flatF_set (s := 10) (fun _ _ => rfl) (fun _ _ => rfl) ns 0 k 9 _ _ hk (by decide) (fun i hi x _ => ?_) (fun x hx => ?_)
  · rw [Nat.zero_add]
    unfold nodeV Lay.ent
    simp [hi]
  · rw [Nat.zero_add]
    have : x = nd ns k := by
      unfold nd; rw [List.getD_eq_getElem?_getD, hx]; rfl
    subst this
    unfold nodeV Lay.ent
    simp
theorem nodesV_more {L : Lay} {ns : List NodeM} {n : NodeM} {dA eA : Option Addr} {dC eC : Nat} : nodesV L ns ++ [.int .i64 n.id, .int .i64 n.kind, .int .i64 n.mode, .int .i64 n.uid, .int .i64 n.gid, .int .i64 n.sec, .int .i64 n.nano, .slice dA n.data.length dC, .string n.target, .slice eA n.ents.length eC] = nodesV (L.put ns.length dA dC eA eC) (ns ++ [n]) := by
  have h := nodesV_put (ns := ns ++ [n]) (L := L) (k := ns.length) (by simp) dA dC eA eC
  rw [nd_last, List.take_left, List.take_of_length_le (by simp)] at h
  exact h
/-- the rows but one are the same -/
theorem entF_ent {ns : List NodeM} {L : Lay} {k : Nat} {e : EntM} {B : Option Addr} {c : Nat} (hk : k < ns.length) : (∀ x, x < ns.length → x ≠ k → entF (addEnt ns k e) (L.ent k B c) x = updR (entF ns L) k Asn.none x) ∧ entF (addEnt ns k e) (L.ent k B c) k = RowA 72 2 B ((nd ns k).ents.length + 1) c (entsV (nd ns k).ents ++ [.string e.name, .int .i64 e.id]) := by
  refine ⟨fun x _ hx => ?_, ?_⟩
  · unfold updR entF Lay.ent
    rw [if_neg hx, nd_addEnt hk, if_neg hx]
    simp [hx]
  · unfold entF Lay.ent
    rw [nd_addEnt hk, if_pos rfl]
    simp only [if_true, List.length_append, List.length_singleton]
    congr 1
    exact flatF_snoc e _ 0
theorem entF_more {ns : List NodeM} {L : Lay} {n : NodeM} {dA : Option Addr} {dC : Nat} (hn : n.ents = []) : (∀ x, x < ns.length → entF (ns ++ [n]) (L.put ns.length dA dC none 0) x = entF ns L x) ∧ entF (ns ++ [n]) (L.put ns.length dA dC none 0) ns.length = RowA 72 2 none 0 0 [] := by
  refine ⟨fun x hx => ?_, ?_⟩
  · unfold entF Lay.put
    rw [nd_snoc hx]
    have : ¬ x = ns.length := by omega
    simp [this]
  · unfold entF Lay.put
    rw [nd_last, hn]
    simp [entsV, flatF]
end Go.Proofs.Ytjpdcppdoonmdaa
end
/- part GPx. PROVED HERE: the data of the nodes that Plant holds; bounds; what a folded state hands on. CONDITIONS: none. -/
section
namespace Go.Proofs.Ytjpdcppdoonmdaa
open Go.RowKit Go.Maps
/-- the nodes' data lie in the base -/
structure PData (β : Bs) (ns : List NodeM) (L : Lay) : Prop where
  at_ : ∀ k, k < ns.length → BytesAt β (L.dA k) (nd ns k).data
section
variable {β β' : Bs} {ns : List NodeM} {L : Lay}
theorem PData.le (h : PData β ns L) (hle : β.le β') : PData β' ns L := ⟨fun k hk => (h.at_ k hk).le hle⟩
theorem PData.nil : PData β [] L := ⟨fun _ h => absurd h (Nat.not_lt_zero _)⟩
theorem PData.more (h : PData β ns L) {n : NodeM} {dA eA : Option Addr} {dC eC : Nat} (hd : BytesAt β dA n.data) : PData β (ns ++ [n]) (L.put ns.length dA dC eA eC) := ⟨fun k hk => by
  by_cases e : k = ns.length
  · subst e; rw [nd_last]; simpa [Lay.put] using hd
  · have : k < ns.length := by simp at hk; omega
    rw [nd_snoc this]; simpa [Lay.put, e] using h.at_ k this⟩
theorem PData.ent (h : PData β ns L) {k : Nat} {e : EntM} {B : Option Addr} {c : Nat} (hk : k < ns.length) : PData β (addEnt ns k e) (L.ent k B c) := ⟨fun j hj => by
  rw [addEnt_len] at hj
  rw [nd_addEnt hk]
  split
  · rename_i e; subst e; exact h.at_ j hj
  · exact h.at_ j hj⟩
end
/-- no node has more than b entries -/
def EntsLe (ns : List NodeM) (b : Nat) : Prop := ∀ k, k < ns.length → (nd ns k).ents.length ≤ b
theorem EntsLe.more {ns : List NodeM} {b : Nat} (h : EntsLe ns b) {n : NodeM} (hn : n.ents = []) : EntsLe (ns ++ [n]) b := fun k hk => by
  by_cases e : k = ns.length
  · subst e; rw [nd_last, hn]; exact Nat.zero_le _
  · have : k < ns.length := by simp at hk; omega
    rw [nd_snoc this]; exact h k this
theorem EntsLe.ent {ns : List NodeM} {b k : Nat} (h : EntsLe ns b) {e : EntM} (hk : k < ns.length) : EntsLe (addEnt ns k e) (b + 1) := fun j hj => by
  rw [addEnt_len] at hj
  rw [nd_addEnt hk]
  split
  · simp only [List.length_append, List.length_singleton]; have := h k hk; omega
  · have := h j hj; omega
theorem EntsLe.up {ns : List NodeM} {b : Nat} (h : EntsLe ns b) : EntsLe ns (b + 1) := fun k hk => Nat.le_succ_of_le (h k hk)
theorem EntsLe.nil {b : Nat} : EntsLe [] b := fun _ h => absurd h (Nat.not_lt_zero _)
/-- what is held after i lines -/
structure PHold (ls : List LineM) (s : PS) (i : Nat) : Prop where
  inv : PInv ls s i
  fold : foldS stepP ls i = some s
  ents : EntsLe s.ns i
theorem PHold.zero (ls : List LineM) : PHold ls PS0 0 := ⟨PInv.zero ls, rfl, EntsLe.nil⟩
theorem PHold.stop {ls : List LineM} {s : PS} {i : Nat} (h : PHold ls s i) (hi : i < ls.length) (hs : stepP ls s i = none) : foldS stepP ls ls.length = none := by
  have h1 : foldS stepP ls (i + 1) = none := by rw [foldS, h.fold]; exact hs
  have h2 : ∀ t, foldS stepP ls (i + 1 + t) = none := by
    intro t
    induction t with
    | zero => exact h1
    | succ t ih => rw [← Nat.add_assoc, foldS, ih]; rfl
  have := h2 (ls.length - (i + 1))
  rw [show i + 1 + (ls.length - (i + 1)) = ls.length by omega] at this
  exact this
theorem PHold.next {ls : List LineM} {s s' : PS} {i : Nat} (h : PHold ls s i) (hs : stepP ls s i = some s') (he : EntsLe s'.ns (i + 1)) : PHold ls s' (i + 1) := ⟨stepP_inv h.inv hs, by rw [foldS, h.fold]; exact hs, he⟩
/-- loose bounds of lines -/
structure LinesC (ls : List LineM) : Prop where
  len : ls.length ≤ 8388608
  path : ∀ i, i < ls.length → (ln ls i).path.size ≤ 8388608
  peer : ∀ i, i < ls.length → (ln ls i).peer.size ≤ 8388608
  data : ∀ i, i < ls.length → (ln ls i).data.length ≤ 1048576
/-- whatever is folded has a graph's bounds -/
def PlantB (ls : List LineM) : Prop := ∀ s, foldS stepP ls ls.length = some s → GraphB s.ns 1048576
theorem plantG_none {ls : List LineM} (h : foldS stepP ls ls.length = none) : plantG ls = ([], 151) := by unfold plantG; rw [h]
theorem plantG_bad {ls : List LineM} {s : PS} (h : foldS stepP ls ls.length = some s) (ht : ¬ treeG s.ns 1 = (ls, 0)) : plantG ls = ([], 151) := by unfold plantG; rw [h]; exact if_neg ht
theorem plantG_good {ls : List LineM} {s : PS} (h : foldS stepP ls ls.length = some s) (ht : treeG s.ns 1 = (ls, 0)) : plantG ls = (s.ns, 0) := by unfold plantG; rw [h]; exact if_pos ht
theorem idv_get (ls : List LineM) (ids : List Nat) (i : Nat) (p : ByteArray) : (idv ls ids i p).getD (.int .i64 0) = .int .i64 ((idOf ls ids p i : Nat) : Int) := by
  unfold idv
  split
  · rename_i h; rw [h]; rfl
  · rfl
theorem idv_is (ls : List LineM) (ids : List Nat) (i : Nat) (p : ByteArray) : (idv ls ids i p).isSome = decide (¬ idOf ls ids p i = 0) := by
  unfold idv
  split
  · rename_i h; rw [h]; rfl
  · rename_i h; simp [h]
end Go.Proofs.Ytjpdcppdoonmdaa
end
/- part Ld. PROVED HERE: parts may be lent to what is only read, and be had back; a contract's parts are laid to the base. CONDITIONS: none. No statement of the seat is proved here. -/
section
namespace Go.Proofs.Ytjpdcppdoonmdaa
open Go.RowKit
/-- β' is β and what the parts R take up -/
structure Lent (β : Bs) (R : List HP) (β' : Bs) : Prop where
  le : β.le β'
  fp : ∃ φ : Nat → Fp, (∀ (i : Nat) (p : HP), R[i]? = some p → p.h (φ i) β'.w0 ∧ ∀ k, φ i k → β'.O k) ∧ (∀ i, i < R.length → ∀ k, φ i k → ¬ β.O k) ∧ (∀ i j, i < R.length → j < R.length → i ≠ j → Apart (φ i) (φ j)) ∧ ∀ k, β'.O k → β.O k ∨ ∃ i, i < R.length ∧ φ i k
section lent
variable {β β' β2 : Bs} {l R : List HP} {w : World} {p : HP} {i : Nat}
theorem Lent.get (h : Lent β R β') (i : Nat) (hp : R[i]? = some p) : ∃ F, p.h F β'.w0 ∧ ∀ k, F k → β'.O k := by
  obtain ⟨φ, h1, _⟩ := h.fp
  exact ⟨φ i, h1 i p hp⟩
theorem Sat.turn {a b : List HP} (h : Sat β (a ++ b) w) : Sat β (b ++ a) w := by
  obtain ⟨ho, φ, h1, h2, h3⟩ := h
  have hl : (a ++ b).length = a.length + b.length := List.length_append
  have hl' : (b ++ a).length = b.length + a.length := List.length_append
  refine ⟨ho, fun i => if i < b.length then φ (a.length + i) else φ (i - b.length), fun i p hp => ?_, fun i hi k hk hO => ?_, fun i j hi hj hne k hk hk' => ?_⟩
  · have hi := len_of_some hp
    by_cases e : i < b.length
    · simp only [e, if_true]
      rw [List.getElem?_append_left e] at hp
      exact h1 _ p (by rw [List.getElem?_append_right (by omega)]; simpa using hp)
    · simp only [e, if_false]
      rw [List.getElem?_append_right (by omega)] at hp
      exact h1 _ p (by rw [List.getElem?_append_left (by omega)]; exact hp)
  · by_cases e : i < b.length
    · simp only [e, if_true] at hk
      exact h2 _ (by omega) k hk hO
    · simp only [e, if_false] at hk
      exact h2 _ (by omega) k hk hO
  · by_cases e1 : i < b.length
    · simp only [e1, if_true] at hk
      by_cases e2 : j < b.length
      · simp only [e2, if_true] at hk'
        exact h3 _ _ (by omega) (by omega) (by omega) k hk hk'
      · simp only [e2, if_false] at hk'
        exact h3 _ _ (by omega) (by omega) (by omega) k hk hk'
    · simp only [e1, if_false] at hk
      by_cases e2 : j < b.length
      · simp only [e2, if_true] at hk'
        exact h3 _ _ (by omega) (by omega) (by omega) k hk hk'
      · simp only [e2, if_false] at hk'
        exact h3 _ _ (by omega) (by omega) (by omega) k hk hk'
theorem Sat.lend (h : Sat β (l ++ R) w) : ∃ β', Lent β R β' ∧ β'.w0 = w ∧ Sat β' l w := by
  obtain ⟨ho, φ, h1, h2, h3⟩ := h
  have hl : (l ++ R).length = l.length + R.length := List.length_append
  have hR : ∀ (i : Nat) (p : HP), R[i]? = some p → p.h (φ (l.length + i)) w := fun i p hp => h1 _ p (by rw [List.getElem?_append_right (by omega)]; simpa using hp)
  refine ⟨⟨fun k => β.O k ∨ ∃ i, i < R.length ∧ φ (l.length + i) k, w⟩, ⟨⟨fun k hk => .inl hk, ho.os, ho.tape, ho.output, ho.size, fun k hk => ho.old k hk⟩, fun i => φ (l.length + i), fun i p hp => ⟨hR i p hp, fun k hk => .inr ⟨i, len_of_some hp, hk⟩⟩, fun i hi => h2 _ (by omega), fun i j hi hj hne => h3 _ _ (by omega) (by omega) (by omega), fun k hk => hk⟩, rfl, ⟨rfl, rfl, rfl, Nat.le_refl _, fun k hk => ⟨?_, rfl⟩⟩, φ, fun i p hp => h1 i p (by rw [List.getElem?_append_left (len_of_some hp)]; exact hp), fun i hi k hk hO => ?_, fun i j hi hj hne => h3 i j (by omega) (by omega) hne⟩
  · rcases hk with hk | ⟨i, hi, hk⟩
    · exact Nat.lt_of_lt_of_le (ho.old k hk).1 ho.size
    · obtain ⟨p, hp⟩ := some_of_len hi
      exact HP.lt (hR i p hp) k hk
  · rcases hO with hO | ⟨j, hj, hO⟩
    · exact h2 i (by omega) k hk hO
    · exact h3 i (l.length + j) (by omega) (by omega) (by omega) k hk hO
theorem Lent.back (h : Lent β R β') (hS : Sat β' l w) : Sat β (l ++ R) w := by
  obtain ⟨hle, φ, g1, g2, g3, g4⟩ := h
  obtain ⟨ho, ψ, h1, h2, h3⟩ := hS
  have hl : (l ++ R).length = l.length + R.length := List.length_append
  have hin : ∀ i, i < R.length → ∀ k, φ i k → β'.O k := fun i hi k hk => by
    obtain ⟨p, hp⟩ := some_of_len hi
    exact (g1 i p hp).2 k hk
  have hk : ∀ i, i < R.length → Keeps (fun k => ¬ φ i k) β'.w0 w := fun i hi => ⟨ho.os, ho.tape, ho.output, ho.size, fun k _ hn => (ho.old k (hin i hi k (Classical.not_not.1 hn))).2⟩
  refine ⟨ho.le hle, fun i => if i < l.length then ψ i else φ (i - l.length), fun i p hp => ?_, fun i hi k hk hO => ?_, fun i j hi hj hne k hk hk' => ?_⟩
  · by_cases e : i < l.length
    · rw [List.getElem?_append_left e] at hp
      simp only [e, if_true]
      exact h1 i p hp
    · rw [List.getElem?_append_right (by omega)] at hp
      simp only [e, if_false]
      exact HP.st (g1 _ p hp).1 (hk _ (len_of_some hp)) (fun k h => fun h' => h' h)
  · by_cases e : i < l.length
    · simp only [e, if_true] at hk
      exact h2 i e k hk (hle.O k hO)
    · simp only [e, if_false] at hk
      exact g2 _ (by omega) k hk hO
  · by_cases e1 : i < l.length
    · simp only [e1, if_true] at hk
      by_cases e2 : j < l.length
      · simp only [e2, if_true] at hk'
        exact h3 i j e1 e2 hne k hk hk'
      · simp only [e2, if_false] at hk'
        exact h2 i e1 k hk (hin _ (by omega) k hk')
    · simp only [e1, if_false] at hk
      by_cases e2 : j < l.length
      · simp only [e2, if_true] at hk'
        exact h2 j e2 k hk' (hin _ (by omega) k hk)
      · simp only [e2, if_false] at hk'
        exact g3 _ _ (by omega) (by omega) (by omega) k hk hk'
end lent
section rules
variable {P : Program} {β β' β2 : Bs} {N : Nat} {ops : Array Oper} {k : Nat} {fr : Fr} {hps l R : List HP} {Q : Post} {c : Code} {e : Exit} {pk : List Nat} {f : FuncId} {args : Array Value} {pre : List HP}
theorem TriL.lend (R : List HP) (pk : List Nat) (hn : nodupB pk = true) (hp : pickL hps pk = some (l ++ R)) (K : ∀ β' : Bs, β.le β' → β'.le β' → Lent β R β' → TriL P β' N ops k fr l Q) : TriL P β N ops k fr hps Q := fun junk w hS => by
  obtain ⟨β', h, _, hS'⟩ := (hS.pick hn hp).lend
  exact K β' h.le hS'.1.refl_le h junk w hS'
theorem Tri.lend (R : List HP) (pk : List Nat) (hn : nodupB pk = true) (hp : pickL hps pk = some (l ++ R)) (K : ∀ β' : Bs, β.le β' → β'.le β' → Lent β R β' → Tri P β' N c fr l Q) : Tri P β N c fr hps Q := fun junk w hS => by
  obtain ⟨β', h, _, hS'⟩ := (hS.pick hn hp).lend
  exact K β' h.le hS'.1.refl_le h junk w hS'
theorem TriL.back (h : Lent β R β') (hle : β'.le β2) (K : TriL P β N ops k fr (hps ++ R) Q) : TriL P β2 N ops k fr hps Q := fun junk w hS => K junk w (h.back (hS.debase hle))
theorem Tri.back (h : Lent β R β') (hle : β'.le β2) (K : Tri P β N c fr (hps ++ R) Q) : Tri P β2 N c fr hps Q := fun junk w hS => K junk w (h.back (hS.debase hle))
theorem TriQ.back (h : Lent β R β') (hle : β'.le β2) (K : TriQ β N Q e fr (hps ++ R)) : TriQ β2 N Q e fr hps := fun junk w hS => K junk w (h.back (hS.debase hle))
/-- what a call leaves is laid to the base -/
theorem Spec.base {post : Value → List HP → Prop} {Φ : Bs → Value → Prop} (h : Spec P β f args pre post) (hΦ : ∀ v l, post v l → ∀ β', Lent β l β' → Φ β' v) : SpecB P β f args pre (fun β' v l => l = [] ∧ Φ β' v) := by
  intro A w hS
  refine (h A w hS).mono ?_
  rintro e w' ⟨v, l, h1, h2, h3⟩
  obtain ⟨β', g1, _, g3⟩ := (Sat.turn h3).lend
  exact ⟨β', v, [], g1.le, h1, ⟨rfl, hΦ v l h2 β' g1⟩, g3⟩
end rules
end Go.Proofs.Ytjpdcppdoonmdaa
end
/- part GPo. PROVED HERE: the data's rows of a graph's nodes as a family; a graph that is lent. CONDITIONS: none. -/
section
namespace Go.Proofs.Ytjpdcppdoonmdaa
open Go.RowKit Go.Maps
def layN : Lay := ⟨fun _ => none, fun _ => none, fun _ => 0, fun _ => 0⟩
def datF (ns : List NodeM) (L : Lay) (k : Nat) : Asn := RowA 5 1 (L.dA k) (nd ns k).data.length (L.dC k) (bytesV (nd ns k).data)
theorem datF_more {ns : List NodeM} {L : Lay} {n : NodeM} {dA eA : Option Addr} {dC eC : Nat} : (∀ x, x < ns.length → datF (ns ++ [n]) (L.put ns.length dA dC eA eC) x = datF ns L x) ∧ datF (ns ++ [n]) (L.put ns.length dA dC eA eC) ns.length = RowA 5 1 dA n.data.length dC (bytesV n.data) := by
  refine ⟨fun x hx => ?_, ?_⟩
  · unfold datF Lay.put
    rw [nd_snoc hx]
    have : ¬ x = ns.length := by omega
    simp [this]
  · unfold datF Lay.put
    rw [nd_last]
    simp
theorem datF_ent {ns : List NodeM} {L : Lay} {k : Nat} {e : EntM} {B : Option Addr} {c : Nat} (hk : k < ns.length) : datF (addEnt ns k e) (L.ent k B c) = datF ns L := by
  funext x
  unfold datF Lay.ent
  rw [nd_addEnt hk]
  split
  · rename_i e; subst e; rfl
  · rfl
theorem famA_congr {R R' : Nat → Asn} {n : Nat} (h : R = R') : HP.abs (FamA R n) = HP.abs (FamA R' n) := by rw [h]
def rowN (A : Option Addr) (c : Nat) (ns : List NodeM) (L : Lay) : HP := .abs (RowA 32 10 A ns.length c (nodesV L ns))
/-- a graph of one's own -/
def ownG (A : Option Addr) (c : Nat) (ns : List NodeM) (L : Lay) : List HP := [rowN A c ns L, .abs (FamA (entF ns L) ns.length), .abs (FamA (datF ns L) ns.length)]
theorem Lent.graph {β β' : Bs} {A : Option Addr} {c : Nat} {ns : List NodeM} {L : Lay} (h : Lent β (ownG A c ns L) β') : GraphAt β' A ns L := by
  obtain ⟨F, h1, h2⟩ := h.get 0 rfl
  obtain ⟨G, g1, g2⟩ := h.get 1 rfl
  obtain ⟨K, k1, k2⟩ := h.get 2 rfl
  exact ⟨RowB.of_row h1 h2 rfl,
    FamA.base k1 k2 rfl (Φ := fun i b => BytesAt b (L.dA i) (nd ns i).data) (fun i _ F hF hO => RowB.of_row (show (HP.abs (RowA 5 1 (L.dA i) (nd ns i).data.length (L.dC i) (bytesV (nd ns i).data))).h F _ from hF) hO rfl),
    FamA.base g1 g2 rfl (Φ := fun i b => EntsAt b (L.eA i) (nd ns i).ents) (fun i _ F hF hO => RowB.of_row (show (HP.abs (RowA 72 2 (L.eA i) (nd ns i).ents.length (L.eC i) (entsV (nd ns i).ents))).h F _ from hF) hO rfl)⟩
theorem nodesV_get {L : Lay} {ns : List NodeM} {k j : Nat} (hk : k < ns.length) {v : Value} (hv : (nodeV L k (nd ns k))[j]? = some v) : (nodesV L ns)[k * 10 + j]? = some v := by
  have hj : j < 10 := len_of_some hv
  have h1 := flatF_get (f := nodeV L) (s := 10) (fun _ _ => rfl) ns 0 k j _ (getD_some (x := default) hk) hj
  rw [Nat.zero_add] at h1
  exact h1.trans hv
theorem cutAt_le (p : ByteArray) : (cutAt p < 0 ∨ (cutAt p).toNat < p.size) ∧ -1 ≤ cutAt p := by
  rcases cutAt_spec p with ⟨h, _⟩ | ⟨i, h1, h2, _⟩
  · omega
  · omega
section steps
variable {ls : List LineM} {s : PS} {i : Nat}
theorem stepP_dup (h : ¬ idOf ls s.ids (ln ls i).path i = 0) : stepP ls s i = none := if_pos (.inl h)
theorem stepP_noid (h : newId ls s i = 0) : stepP ls s i = none := if_pos (.inr h)
theorem stepP_first (h1 : idOf ls s.ids (ln ls i).path i = 0) (h2 : ¬ newId ls s i = 0) (h0 : i = 0) : stepP ls s i = some ⟨newNs ls s i, s.ids ++ [newId ls s i]⟩ := by
  unfold stepP; rw [if_neg (fun e => e.elim (fun e => e h1) h2), if_pos h0]
theorem stepP_noparent (h1 : idOf ls s.ids (ln ls i).path i = 0) (h2 : ¬ newId ls s i = 0) (h0 : ¬ i = 0) (h3 : parP ls s i = 0) : stepP ls s i = none := by
  unfold stepP; rw [if_neg (fun e => e.elim (fun e => e h1) h2), if_neg h0, if_pos h3]
theorem stepP_more (h1 : idOf ls s.ids (ln ls i).path i = 0) (h2 : ¬ newId ls s i = 0) (h0 : ¬ i = 0) (h3 : ¬ parP ls s i = 0) :
    stepP ls s i = some ⟨addEnt (newNs ls s i) (parP ls s i - 1) ⟨nameOf (ln ls i).path, ((newId ls s i : Nat) : Int)⟩, s.ids ++ [newId ls s i]⟩ := by
  unfold stepP; rw [if_neg (fun e => e.elim (fun e => e h1) h2), if_neg h0, if_neg h3]
theorem EntsLe.new (h : EntsLe s.ns i) : EntsLe (newNs ls s i) i := by
  unfold newNs
  split
  · exact h.more rfl
  · exact h
end steps
theorem newNs_at {ls : List LineM} {s : PS} {i : Nat} (h : (ln ls i).peer = ⟨#[]⟩) : newNs ls s i = s.ns ++ [lineNode (ln ls i) s.ns.length] ∧ newId ls s i = s.ns.length + 1 := ⟨if_pos h, if_pos h⟩
theorem newNs_no {ls : List LineM} {s : PS} {i : Nat} (h : ¬ (ln ls i).peer = ⟨#[]⟩) : newNs ls s i = s.ns ∧ newId ls s i = idOf ls s.ids (ln ls i).peer i := ⟨if_neg h, if_neg h⟩
theorem above_le {p : ByteArray} : (aboveOf p).size ≤ p.size := by
  unfold aboveOf
  rw [ByteArray.size_extract]
  omega
end Go.Proofs.Ytjpdcppdoonmdaa
end
/- part GOd. PROVED HERE: nodes that cannot be reached may be changed, and the tree is the same. CONDITIONS: none. -/
section
namespace Go.Proofs.Ytjpdcppdoonmdaa
open Go.RowKit Go.Maps
def chgN (U : List Int) (m : Int) (n : NodeM) : NodeM := if n.id ∈ U then n else { n with mode := m, ents := [] }
/-- the first k nodes are changed where they lie outside U -/
def chg (ns : List NodeM) (U : List Int) (m : Int) (k : Nat) : List NodeM := (ns.take k).map (chgN U m) ++ ns.drop k
def chgL (L : Lay) (ns : List NodeM) (U : List Int) (k : Nat) : Lay :=
  ⟨L.dA, fun i => if i < k ∧ (nd ns i).id ∉ U then none else L.eA i, L.dC, fun i => if i < k ∧ (nd ns i).id ∉ U then 0 else L.eC i⟩
section
variable {ns : List NodeM} {U : List Int} {m : Int} {L : Lay} {k : Nat}
theorem chg_len : (chg ns U m k).length = ns.length := by
  unfold chg; rw [List.length_append, List.length_map, List.length_take, List.length_drop]; omega
theorem chg_nd {i : Nat} (hi : i < ns.length) : nd (chg ns U m k) i = if i < k then chgN U m (nd ns i) else nd ns i := by
  unfold chg nd
  rw [List.getD_eq_getElem?_getD, List.getD_eq_getElem?_getD]
  by_cases h : i < k
  · rw [if_pos h, List.getElem?_append_left (by simp; omega), List.getElem?_map, List.getElem?_take, if_pos h, List.getElem?_eq_getElem hi]; rfl
  · rw [if_neg h, List.getElem?_append_right (by simp; omega), List.getElem?_drop]
    congr 2
    simp
    omega
theorem chg_zero : chg ns U m 0 = ns := by unfold chg; simp
theorem chgL_zero : nodesV (chgL L ns U 0) ns = nodesV L ns := by
  have : chgL L ns U 0 = L := by
    unfold chgL
    simp
  rw [this]
theorem chgN_id (n : NodeM) : (chgN U m n).id = n.id := by unfold chgN; split <;> rfl
theorem chgN_kind (n : NodeM) : (chgN U m n).kind = n.kind := by unfold chgN; split <;> rfl
theorem chgN_data (n : NodeM) : (chgN U m n).data = n.data := by unfold chgN; split <;> rfl
theorem chg_id {i : Nat} (hi : i < ns.length) : (nd (chg ns U m k) i).id = (nd ns i).id := by
  rw [chg_nd hi]; split
  · exact chgN_id _
  · rfl
theorem chg_kind {i : Nat} (hi : i < ns.length) : (nd (chg ns U m k) i).kind = (nd ns i).kind := by
  rw [chg_nd hi]; split
  · exact chgN_kind _
  · rfl
theorem chg_at (hk : k < ns.length) : nd (chg ns U m k) k = nd ns k := by rw [chg_nd hk, if_neg (by omega)]
theorem chgV_get (hk : k < ns.length) : (nodesV (chgL L ns U k) (chg ns U m k))[k * 10]? = some (.int .i64 (nd ns k).id) := by
  have := nodesV_get (L := chgL L ns U k) (ns := chg ns U m k) (k := k) (j := 0) (by rw [chg_len]; exact hk) (v := .int .i64 (nd ns k).id) (by rw [chg_at hk]; rfl)
  exact this
theorem list_nd_ext {a b : List NodeM} (hl : a.length = b.length) (h : ∀ i, i < a.length → nd a i = nd b i) : a = b := by
  apply List.ext_getElem hl
  intro i h1 h2
  have := h i h1
  unfold nd at this
  rw [List.getD_eq_getElem?_getD, List.getD_eq_getElem?_getD, List.getElem?_eq_getElem h1, List.getElem?_eq_getElem h2] at this
  exact this
theorem nd_set {a : List NodeM} {i j : Nat} {n : NodeM} (hi : i < a.length) : nd (a.set i n) j = if j = i then n else nd a j := by
  unfold nd
  rw [List.getD_eq_getElem?_getD, List.getD_eq_getElem?_getD]
  by_cases e : j = i
  · subst e; rw [if_pos rfl, List.getElem?_set_self hi]; rfl
  · rw [if_neg e, List.getElem?_set_ne (fun e2 => e e2.symm)]
theorem chg_step (hk : k < ns.length) : (chg ns U m k).set k (chgN U m (nd ns k)) = chg ns U m (k + 1) := by
  refine list_nd_ext (by rw [List.length_set, chg_len, chg_len]) (fun i hi => ?_)
  rw [List.length_set, chg_len] at hi
  rw [nd_set (by rw [chg_len]; exact hk), chg_nd hi, chg_nd hi]
  by_cases e : i = k
  · subst e; rw [if_pos rfl, if_pos (by omega)]
  · rw [if_neg e]
    by_cases h : i < k
    · rw [if_pos h, if_pos (by omega)]
    · rw [if_neg h, if_neg (by omega)]
theorem chgV_skip (hk : k < ns.length) (h : (nd ns k).id ∈ U) : nodesV (chgL L ns U k) (chg ns U m k) = nodesV (chgL L ns U (k + 1)) (chg ns U m (k + 1)) := by
  have e1 : chg ns U m (k + 1) = chg ns U m k := by
    rw [← chg_step hk]
    refine list_nd_ext (List.length_set) (fun i hi => ?_)
    rw [nd_set (by rw [chg_len]; exact hk)]
    split
    · rename_i e; subst e; rw [chg_at hk]; unfold chgN; rw [if_pos h]
    · rfl
  have e2 : chgL L ns U (k + 1) = chgL L ns U k := by
    have : ∀ i, (i < k + 1 ∧ (nd ns i).id ∉ U) = (i < k ∧ (nd ns i).id ∉ U) := fun i => by
      apply propext
      refine ⟨fun ⟨h1, h2⟩ => ⟨?_, h2⟩, fun ⟨h1, h2⟩ => ⟨by omega, h2⟩⟩
      rcases Nat.lt_succ_iff_lt_or_eq.1 h1 with e | e
      · exact e
      · subst e; exact absurd h h2
    unfold chgL
    simp only [this]
  rw [e1, e2]
theorem chgV_set (hk : k < ns.length) (h : (nd ns k).id ∉ U) : ((nodesV (chgL L ns U k) (chg ns U m k)).set (k * 10 + 2) (.int .i64 m)).set (k * 10 + 9) (.slice none 0 0) = nodesV (chgL L ns U (k + 1)) (chg ns U m (k + 1)) := by
  have hl : k < (chg ns U m k).length := by rw [chg_len]; exact hk
  have h1 : (nodesV (chgL L ns U k) (chg ns U m k)).set (k * 10 + 2) (.int .i64 m) = nodesV (chgL L ns U k) ((chg ns U m k).set k { nd ns k with mode := m }) :=
    flatF_set (s := 10) (fun _ _ => rfl) (fun _ _ => rfl) (chg ns U m k) 0 k 2 _ _ hl (by decide) (fun _ _ _ _ => rfl) (fun x hx => by
      have : x = nd ns k := by
        rw [← chg_at (U := U) (m := m) hk]; unfold nd; rw [List.getD_eq_getElem?_getD, hx]; rfl
      subst this; rfl)
  rw [h1]
  have h2 : (nodesV (chgL L ns U k) ((chg ns U m k).set k { nd ns k with mode := m })).set (k * 10 + 9) (.slice none 0 0) = nodesV (chgL L ns U (k + 1)) (((chg ns U m k).set k { nd ns k with mode := m }).set k { nd ns k with mode := m, ents := [] }) :=
    flatF_set (s := 10) (fun _ _ => rfl) (fun _ _ => rfl) _ 0 k 9 _ _ (by rw [List.length_set]; exact hl) (by decide) (fun i hi x _ => by
      rw [Nat.zero_add]
      unfold nodeV chgL
      have : (i < k + 1 ∧ (nd ns i).id ∉ U) = (i < k ∧ (nd ns i).id ∉ U) := propext ⟨fun ⟨a, b⟩ => ⟨by omega, b⟩, fun ⟨a, b⟩ => ⟨by omega, b⟩⟩
      simp only [this]) (fun x hx => by
      have : x = { nd ns k with mode := m } := by
        rw [List.getElem?_set_self hl] at hx; cases hx; rfl
      subst this
      rw [Nat.zero_add]
      unfold nodeV chgL
      have c1 : (k < k + 1 ∧ (nd ns k).id ∉ U) := ⟨by omega, h⟩
      have c2 : ¬ (k < k ∧ (nd ns k).id ∉ U) := fun e => by omega
      simp only [if_pos c1, if_neg c2]
      rfl)
  rw [h2]
  have e3 : ((chg ns U m k).set k { nd ns k with mode := m }).set k { nd ns k with mode := m, ents := [] } = chg ns U m (k + 1) := by
    rw [List.set_set, ← chg_step hk]
    congr 1
    unfold chgN
    rw [if_neg h]
  rw [e3]
theorem chgAt {β : Bs} {B : Option Addr} (hR : RowB β B (nodesV (chgL L ns U ns.length) (chg ns U m ns.length))) (hI : GraphIn β ns ns.length L) : GraphAt β B (chg ns U m ns.length) (chgL L ns U ns.length) := by
  refine ⟨hR, fun i hi => ?_, fun i hi => ?_⟩ <;> rw [chg_len] at hi
  · rw [chg_nd hi, if_pos hi, chgN_data]; exact hI.data i hi
  · rw [chg_nd hi, if_pos hi]
    unfold chgN chgL
    by_cases h : (nd ns i).id ∈ U
    · rw [if_pos h]
      have : ¬ (i < ns.length ∧ (nd ns i).id ∉ U) := fun e => e.2 h
      simp only [if_neg this]
      exact hI.ents i hi
    · rw [if_neg h]
      have : (i < ns.length ∧ (nd ns i).id ∉ U) := ⟨hi, h⟩
      simp only [if_pos this]
      exact RowB.nil
theorem chg_B (hB : GraphB ns 1048576) (hm : I64 m) : GraphB (chg ns U m k) 1048576 := by
  refine ⟨by rw [chg_len]; exact hB.len, fun i hi => ?_⟩
  rw [chg_len] at hi
  have hn := hB.node i hi
  rw [chg_nd hi]
  split
  · unfold chgN
    split
    · exact hn
    · exact ⟨⟨hn.ids.1, hn.ids.2.1, hm, hn.ids.2.2.2⟩, hn.data, hn.target, by show 0 + 1 ≤ 1048576; decide, fun j hj => absurd hj (Nat.not_lt_zero j)⟩
  · exact hn
theorem atI_map (a : List NodeM) (z : Int) : atI a z = match (a.map (·.id)).findIdx? (· == z) with
    | some k => (k : Int)
    | none => -1 := by
  unfold atI
  rw [List.findIdx?_map]
  rfl
theorem chg_atI (z : Int) : atI (chg ns U m k) z = atI ns z := by
  have : (chg ns U m k).map (·.id) = ns.map (·.id) := by
    apply List.ext_getElem (by rw [List.length_map, List.length_map, chg_len])
    intro i h1 h2
    rw [List.length_map] at h1 h2
    have := chg_id (ns := ns) (U := U) (m := m) (k := k) h2
    unfold nd at this
    rw [List.getD_eq_getElem?_getD, List.getD_eq_getElem?_getD, List.getElem?_eq_getElem h1, List.getElem?_eq_getElem h2] at this
    simpa using this
  rw [atI_map, atI_map, this]
theorem chg_tgt (z : Int) : tgt (chg ns U m k) z = tgt ns z := by unfold tgt; rw [chg_atI]
/-- a changed node has its entries still, if it has any -/
theorem chg_ents {i : Nat} (hi : i < ns.length) (h : (nd (chg ns U m k) i).ents.length ≠ 0) : nd (chg ns U m k) i = nd ns i := by
  rw [chg_nd hi] at h ⊢
  split
  · rename_i hk
    rw [if_pos hk] at h
    unfold chgN at h ⊢
    split
    · rfl
    · rename_i hu
      rw [if_neg hu] at h
      exact absurd rfl h
  · rfl
theorem chg_sum : ∀ n, n ≤ ns.length → entSum (chg ns U m k) n ≤ entSum ns n
  | 0, _ => Nat.le_refl _
  | n + 1, h => by
    have ih := chg_sum n (by omega)
    rw [entSum, entSum]
    by_cases h0 : (nd (chg ns U m k) n).ents.length = 0
    · omega
    · rw [chg_ents (by omega) h0]; omega
theorem chg_ok (hok : GraphOk ns) (hm : 0 ≤ m ∧ m ≤ 4095) : GraphOk (chg ns U m k) := by
  obtain ⟨d, hd⟩ := hok.deep
  have hne : ∀ {i j}, j < (nd (chg ns U m k) i).ents.length → (nd (chg ns U m k) i).ents.length ≠ 0 := fun h => by omega
  have hent : ∀ i j, i < ns.length → j < (nd (chg ns U m k) i).ents.length → ent (chg ns U m k) i j = ent ns i j := fun i j hi hj => by
    unfold ent; rw [chg_ents hi (hne hj)]
  have hdir : ∀ i j, DirE (chg ns U m k) i j → DirE ns i j ∧ tgt (chg ns U m k) (ent (chg ns U m k) i j).id = tgt ns (ent ns i j).id := fun i j g => by
    have hi := g.lti; rw [chg_len] at hi
    have e := hent i j hi g.ltj
    have hj := g.ltj; rw [chg_ents hi (hne g.ltj)] at hj
    have hk := g.dir
    rw [chg_tgt, e, chg_kind (atI_lt (hok.ents i hi j hj).at_).1] at hk
    exact ⟨⟨hi, hj, hk⟩, by rw [chg_tgt, e]⟩
  refine GraphOk.of_deep (d := d) (by rw [chg_len]; exact hok.len) (fun i hi => ?_) (fun i hi => ?_) (fun i j hij hj => ?_) ?_ (fun i hi j hj => ?_) (fun i j i' j' g g' _ _ e => ?_) (fun i j g => ?_)
  · rw [chg_len] at hi
    have hn := hok.node i hi
    rw [chg_nd hi]
    split
    · unfold chgN
      split
      · exact hn
      · exact ⟨hn.kind, hm, hn.uid, hn.gid, hn.time, hn.data, fun _ => rfl, hn.target⟩
    · exact hn
  · rw [chg_len] at hi
    rw [chg_id hi]; exact hok.ids i hi
  · rw [chg_len] at hj
    rw [chg_id (by omega), chg_id hj]; exact hok.rise i j hij hj
  · rw [chg_len]; exact Nat.le_trans (chg_sum _ (Nat.le_refl _)) hok.sum
  · rw [chg_len] at hi
    have e := hent i j hi hj
    have hj2 := hj; rw [chg_ents hi (hne hj)] at hj2
    have hE := hok.ents i hi j hj2
    refine ⟨by rw [chg_atI, e]; exact hE.at_, by rw [e]; exact hE.good, ?_⟩
    have hp : prevName (chg ns U m k) i j = prevName ns i j := by
      cases j with
      | zero => rfl
      | succ j => show (ent (chg ns U m k) i j).name = _; rw [hent i j hi (by omega)]; rfl
    rw [e, hp]; exact hE.ord
  · obtain ⟨h1, h2⟩ := hdir i j g
    obtain ⟨h3, h4⟩ := hdir i' j' g'
    rw [h2, h4] at e
    exact hok.uniq i j i' j' h1 h3 h1.lti h3.lti e
  · obtain ⟨h1, h2⟩ := hdir i j g
    rw [h2]
    exact hd i j h1
theorem foldE_congr {α : Type} {g g' : α → TS → Option TS} : ∀ {l : List α} {s : TS}, (∀ e ∈ l, ∀ s, g e s = g' e s) → foldE g l s = foldE g' l s
  | [], _, _ => rfl
  | e :: l, s, h => by
    rw [foldE, foldE, h e (List.mem_cons_self ..)]
    congr 1
    funext s'
    exact foldE_congr (fun e he => h e (List.mem_cons_of_mem _ he))
theorem chg_addF {r : Nat} (hok : GraphOk ns) (hr : r < ns.length) (hU : ∀ i, i < ns.length → Reach ns r i → (nd ns i).id ∈ U) : ∀ (f x : Nat) (p : ByteArray) (s : TS), Reach ns r x → addF (chg ns U m k) f x p s = addF ns f x p s
  | 0, _, _, _, _ => rfl
  | f + 1, x, p, s, hx => by
    have hxl := hx.lt hok hr
    have e : nd (chg ns U m k) x = nd ns x := by
      rw [chg_nd hxl]
      split
      · unfold chgN; rw [if_pos (hU x hxl hx)]
      · rfl
    rw [addF, addF, e]
    have e2 : push (chg ns U m k) x p s = push ns x p s := by unfold push; rw [e]
    rw [e2]
    congr 1
    refine foldE_congr (fun y hy s' => ?_)
    obtain ⟨j, hj, hje⟩ := mem_en hy
    rw [chg_tgt]
    exact chg_addF hok hr hU f _ _ s' (by
      have := hx.step j hj
      rw [hje]; exact this)
end
theorem chg_tree {ns : List NodeM} {m root : Int} {k : Nat} (h : (treeG ns root).2 = 0) (hm : 0 ≤ m ∧ m ≤ 4095) : treeG (chg ns (underG ns root).1 m k) root = treeG ns root := by
  obtain ⟨hb, s, h1, h2⟩ := treeG_ok h
  obtain ⟨hok, hat, hkd⟩ := beginC_zero hb
  have htl := atI_lt hat
  have hb2 : beginC (chg ns (underG ns root).1 m k) root = 0 := beginC_ok (chg_ok hok hm) (by rw [chg_atI]; exact hat) (by rw [chg_tgt, chg_kind htl.1]; exact hkd)
  rw [treeG_some hb h1, treeG_some hb2 (s := s) (by
    rw [chg_tgt, chg_addF hok htl.1 (fun i hi hr => by rw [underG_ok hb]; exact underL_mem.2 ⟨i, hi, hr, rfl⟩) _ _ _ _ .refl]
    exact h1)]
theorem come_out {l : List Int} {z : Int} {j : Nat} {fl : Bool} (h : Come l z j fl) (hj : j = l.length) (hf : (!fl) = true) : z ∉ l := fun hm => by
  subst hj
  have := h.all hm
  subst this
  cases hf
theorem come_in {l : List Int} {z : Int} {j : Nat} {fl : Bool} (h : Come l z j fl) (hj : j = l.length) (hf : (!fl) = false) : z ∈ l := by
  subst hj
  have hf : fl = true := by cases fl <;> simp_all
  obtain ⟨t, h1, h2⟩ := h.1 hf
  rw [← h2]
  exact getD_mem' h1
end Go.Proofs.Ytjpdcppdoonmdaa
end
/- part LawO. PROVED HERE: the law GraphOutside CONDITIONS: as the theorems say. Printed by a program of this repo (wip/v). -/
section
namespace Go.Proofs.Ytjpdcppdoonmdaa
open Go.RowKit
attribute [local irreducible] TriL TriLQ Tri TriQ
set_option maxRecDepth 100000 in
set_option maxHeartbeats 4000000 in
theorem law_outside (W : World) (A : Option Addr) (c : Nat) (ns : List NodeM) (L : Lay) (hG : GraphAt (B0 W) A ns L) (hB : GraphB ns 1048576) (root : Int) (hz : I64 root) (mode : Int) (hm : I64 mode) :
    Spec Try.prog (B0 W) 13 #[.agg #[.slice A (ns.length) (c)], .int .i64 (root), .int .i64 (mode)] [] (fun v _ => v = .bool true) := by
 have hle0 := B0.refl W
 refine Spec.enter Try.func13 rfl Try.ntmps13 (Nat.le_of_ble_eq_true rfl) (fun R => ?_)
 refine Tri.seq (Tri.region ?_)
 refine TriL.segN (k' := 2) (fr' := fun b1 => [(1, .int .i64 (root)), (2, .int .i64 (mode)), (3, .pointer (some ⟨b1, 0, none⟩))]) (hps' := fun b1 => [.abs R, .blk b1 [.slice A (ns.length) (c)] 24]) (obl := fun b1 => []) [o_, o_] [1, 2, 3] [0, 1] (fun _ _ => by kernel_rfl) (fun b1 => trivial) (fun b1 => ?_)
 refine TriL.nil (by kernel_rfl) (TriQ.next (Tri.seq (Tri.seq (Tri.region ?_))))
 refine TriL.callB (f := 21) (args := #[]) (d := (some 17)) (pre := []) (R := [.abs R, .blk b1 [.slice A (ns.length) (c)] 24]) (pk := [0, 1]) (fun _ => by kernel_rfl) (sp_alive) rfl (by kernel_rfl) ?_
 rintro β2 _ _ hle_β2 ⟨rfl, rfl⟩
 replace hG := hG.le hle_β2
 replace hle0 := hle0.trans hle_β2
 refine TriL.segK (k' := 2) (fr' := [(1, .int .i64 (root)), (2, .int .i64 (mode)), (3, .pointer (some ⟨b1, 0, none⟩)), (18, .bool false)]) (obl := []) [o_] [1, 2, 3, 18] (fun _ _ => by kernel_rfl) trivial ?_
 refine TriL.nil (by kernel_rfl) (TriQ.next ?_)
 refine Tri.condF (fun _ => by kernel_rfl) ?_
 refine Tri.skip (TriQ.next (Tri.seq (Tri.region ?_)))
 refine TriL.segK (k' := 1) (fr' := [(1, .int .i64 (root)), (2, .int .i64 (mode)), (3, .pointer (some ⟨b1, 0, none⟩)), (20, .agg #[.slice A (ns.length) (c)])]) (obl := [b1 = b1]) [⟨[.at 1], none, none, none, none⟩] [1, 2, 3, 20] (fun _ _ => by kernel_rfl) ⟨rfl, trivial⟩ ?_
 refine TriL.callB (f := 15) (args := #[.agg #[.slice A (ns.length) (c)]]) (d := (some 21)) (pre := []) (R := [.abs R, .blk b1 [.slice A (ns.length) (c)] 24]) (pk := [0, 1]) (fun _ => by kernel_rfl) (sp_copyGraph A c ns L hG hB.hl hB.hd) rfl (by kernel_rfl) ?_
 rintro β7 _ _ hle_β7 ⟨B3, c4, L5, rfl, rfl, hG6⟩
 replace hG := hG.le hle_β7
 replace hle0 := hle0.trans hle_β7
 refine TriL.segK (k' := 3) (fr' := [(1, .int .i64 (root)), (2, .int .i64 (mode)), (3, .pointer (some ⟨b1, 0, none⟩)), (21, .agg #[.slice B3 (ns.length) (c4)]), (22, .int .i64 (root))]) (obl := []) [o_] [1, 2, 3, 21, 22] (fun _ _ => by kernel_rfl) trivial ?_
 refine TriL.callB (f := 26) (args := #[.agg #[.slice B3 (ns.length) (c4)], .int .i64 (root)]) (d := (some 23)) (pre := []) (R := [.abs R, .blk b1 [.slice A (ns.length) (c)] 24]) (pk := [0, 1]) (fun _ => by kernel_rfl) (sp_tree B3 c4 ns L5 hG6 hB root hz) rfl (by kernel_rfl) ?_
 rintro β12 _ _ hle_β12 ⟨B8, c9, M10, rfl, rfl, hT11⟩
 replace hG := hG.le hle_β12
 replace hG6 := hG6.le hle_β12
 replace hle0 := hle0.trans hle_β12
 refine TriL.segK (k' := 9) (fr' := [(1, .int .i64 (root)), (2, .int .i64 (mode)), (3, .pointer (some ⟨b1, 0, none⟩)), (7, .slice B8 ((treeG ns root).1.length) (c9)), (8, .int .i64 ((treeG ns root).2))]) (obl := []) [o_, o_, o_, o_, o_] [1, 2, 3, 7, 8] (fun _ _ => by kernel_rfl) trivial ?_
 refine TriL.nil (by kernel_rfl) (TriQ.next (Tri.seq (Tri.region ?_)))
 refine TriL.segK (k' := 1) (fr' := [(1, .int .i64 (root)), (2, .int .i64 (mode)), (3, .pointer (some ⟨b1, 0, none⟩)), (7, .slice B8 ((treeG ns root).1.length) (c9)), (8, .int .i64 ((treeG ns root).2)), (27, .agg #[.slice A (ns.length) (c)])]) (obl := [b1 = b1]) [⟨[.at 1], none, none, none, none⟩] [1, 2, 3, 7, 8, 27] (fun _ _ => by kernel_rfl) ⟨rfl, trivial⟩ ?_
 refine TriL.callB (f := 15) (args := #[.agg #[.slice A (ns.length) (c)]]) (d := (some 28)) (pre := []) (R := [.abs R, .blk b1 [.slice A (ns.length) (c)] 24]) (pk := [0, 1]) (fun _ => by kernel_rfl) (sp_copyGraph A c ns L hG hB.hl hB.hd) rfl (by kernel_rfl) ?_
 rintro β17 _ _ hle_β17 ⟨B13, c14, L15, rfl, rfl, hG16⟩
 replace hG := hG.le hle_β17
 replace hG6 := hG6.le hle_β17
 replace hT11 := hT11.le hle_β17
 replace hle0 := hle0.trans hle_β17
 refine TriL.segK (k' := 3) (fr' := [(1, .int .i64 (root)), (2, .int .i64 (mode)), (3, .pointer (some ⟨b1, 0, none⟩)), (7, .slice B8 ((treeG ns root).1.length) (c9)), (8, .int .i64 ((treeG ns root).2)), (28, .agg #[.slice B13 (ns.length) (c14)]), (29, .int .i64 (root))]) (obl := []) [o_] [1, 2, 3, 7, 8, 28, 29] (fun _ _ => by kernel_rfl) trivial ?_
 refine TriL.callB (f := 34) (args := #[.agg #[.slice B13 (ns.length) (c14)], .int .i64 (root)]) (d := (some 30)) (pre := []) (R := [.abs R, .blk b1 [.slice A (ns.length) (c)] 24]) (pk := [0, 1]) (fun _ => by kernel_rfl) (sp_under B13 c14 ns L15 hG16 hB root hz) rfl (by kernel_rfl) ?_
 rintro β21 _ _ hle_β21 ⟨B18, c19, rfl, rfl, hU20⟩
 replace hG := hG.le hle_β21
 replace hG6 := hG6.le hle_β21
 replace hT11 := hT11.le hle_β21
 replace hG16 := hG16.le hle_β21
 replace hle0 := hle0.trans hle_β21
 refine TriL.segK (k' := 9) (fr' := [(1, .int .i64 (root)), (2, .int .i64 (mode)), (3, .pointer (some ⟨b1, 0, none⟩)), (7, .slice B8 ((treeG ns root).1.length) (c9)), (8, .int .i64 ((treeG ns root).2)), (9, .slice B18 ((underG ns root).1.length) (c19))]) (obl := []) [o_, o_, o_, o_, o_] [1, 2, 3, 7, 8, 9] (fun _ _ => by kernel_rfl) trivial ?_
 refine TriL.nil (by kernel_rfl) (TriQ.next (Tri.seq (Tri.seq (Tri.region ?_))))
 refine TriL.segK (k' := 3) (fr' := [(1, .int .i64 (root)), (2, .int .i64 (mode)), (3, .pointer (some ⟨b1, 0, none⟩)), (7, .slice B8 ((treeG ns root).1.length) (c9)), (9, .slice B18 ((underG ns root).1.length) (c19)), (35, .bool (!(decide (((treeG ns root).2 : Int) = (0 : Int)))))]) (obl := []) [o_, o_, o_] [1, 2, 3, 7, 9, 35] (fun _ _ => by kernel_rfl) trivial ?_
 refine TriL.slotN 35 (((treeG ns root).2 : Int) = (0 : Int)) (fun _ => by kernel_rfl) (fun h35 => ?_) (fun h35 => ?_)
 ·
  refine TriL.segK (k' := 10) (fr' := [(1, .int .i64 (root)), (2, .int .i64 (mode)), (3, .pointer (some ⟨b1, 0, none⟩)), (7, .slice B8 ((treeG ns root).1.length) (c9)), (9, .slice B18 ((underG ns root).1.length) (c19)), (42, .bool true)]) (obl := []) [o_, o_, o_, o_, o_, o_, o_] [1, 2, 3, 7, 9, 42] (fun _ _ => by kernel_rfl) trivial ?_
  refine TriL.nil (by kernel_rfl) (TriQ.next ?_)
  refine Tri.condT (fun _ => by kernel_rfl) ?_
  refine Tri.seq (Tri.region ?_)
  refine TriL.segK (k' := 1) (fr' := [(6, .bool true)]) (obl := []) [o_] [6] (fun _ _ => by kernel_rfl) trivial ?_
  refine TriL.nil (by kernel_rfl) (TriQ.next (Tri.ret (TriQ.passRet ?_)))
  exact TriQ.retU (v := .bool true) (l := []) (obl := []) [] [0] hle0 (fun _ => by kernel_rfl) trivial rfl (by kernel_rfl) (rfl)
 ·
  refine TriL.segK (k' := 7) (fr' := [(1, .int .i64 (root)), (2, .int .i64 (mode)), (3, .pointer (some ⟨b1, 0, none⟩)), (7, .slice B8 ((treeG ns root).1.length) (c9)), (9, .slice B18 ((underG ns root).1.length) (c19)), (39, .bool (decide ((mode : Int) < (0 : Int))))]) (obl := []) [o_, o_, o_, o_] [1, 2, 3, 7, 9, 39] (fun _ _ => by kernel_rfl) trivial ?_
  refine TriL.slotP 39 ((mode : Int) < (0 : Int)) (fun _ => by kernel_rfl) (fun h39 => ?_) (fun h39 => ?_)
  ·
   refine TriL.segK (k' := 10) (fr' := [(1, .int .i64 (root)), (2, .int .i64 (mode)), (3, .pointer (some ⟨b1, 0, none⟩)), (7, .slice B8 ((treeG ns root).1.length) (c9)), (9, .slice B18 ((underG ns root).1.length) (c19)), (42, .bool true)]) (obl := []) [o_, o_, o_] [1, 2, 3, 7, 9, 42] (fun _ _ => by kernel_rfl) trivial ?_
   refine TriL.nil (by kernel_rfl) (TriQ.next ?_)
   refine Tri.condT (fun _ => by kernel_rfl) ?_
   refine Tri.seq (Tri.region ?_)
   refine TriL.segK (k' := 1) (fr' := [(6, .bool true)]) (obl := []) [o_] [6] (fun _ _ => by kernel_rfl) trivial ?_
   refine TriL.nil (by kernel_rfl) (TriQ.next (Tri.ret (TriQ.passRet ?_)))
   exact TriQ.retU (v := .bool true) (l := []) (obl := []) [] [0] hle0 (fun _ => by kernel_rfl) trivial rfl (by kernel_rfl) (rfl)
  ·
   refine TriL.segK (k' := 10) (fr' := [(1, .int .i64 (root)), (2, .int .i64 (mode)), (3, .pointer (some ⟨b1, 0, none⟩)), (7, .slice B8 ((treeG ns root).1.length) (c9)), (9, .slice B18 ((underG ns root).1.length) (c19)), (42, .bool (decide ((mode : Int) > (4095 : Int))))]) (obl := []) [o_, o_, o_] [1, 2, 3, 7, 9, 42] (fun _ _ => by kernel_rfl) trivial ?_
   refine TriL.nil (by kernel_rfl) (TriQ.next ?_)
   refine Tri.condP (p := (mode : Int) > (4095 : Int)) (fun _ => by kernel_rfl) (fun h42 => ?_) (fun h42 => ?_)
   ·
    refine Tri.seq (Tri.region ?_)
    refine TriL.segK (k' := 1) (fr' := [(6, .bool true)]) (obl := []) [o_] [6] (fun _ _ => by kernel_rfl) trivial ?_
    refine TriL.nil (by kernel_rfl) (TriQ.next (Tri.ret (TriQ.passRet ?_)))
    exact TriQ.retU (v := .bool true) (l := []) (obl := []) [] [0] hle0 (fun _ => by kernel_rfl) trivial rfl (by kernel_rfl) (rfl)
   ·
    refine Tri.skip (TriQ.next (Tri.seq (Tri.region ?_)))
    refine TriL.segK (k' := 1) (fr' := [(1, .int .i64 (root)), (2, .int .i64 (mode)), (7, .slice B8 ((treeG ns root).1.length) (c9)), (9, .slice B18 ((underG ns root).1.length) (c19)), (43, .agg #[.slice A (ns.length) (c)])]) (obl := [b1 = b1]) [⟨[.at 1], none, none, none, none⟩] [1, 2, 7, 9, 43] (fun _ _ => by kernel_rfl) ⟨rfl, trivial⟩ ?_
    refine TriL.callB (f := 15) (args := #[.agg #[.slice A (ns.length) (c)]]) (d := (some 44)) (pre := []) (R := [.abs R, .blk b1 [.slice A (ns.length) (c)] 24]) (pk := [0, 1]) (fun _ => by kernel_rfl) (sp_copyGraphOwn A c ns L hG hB.hl hB.hd) rfl (by kernel_rfl) ?_
    rintro β26 _ _ hle_β26 ⟨B22, c23, L24, rfl, rfl, hI25⟩
    replace hG := hG.le hle_β26
    replace hG6 := hG6.le hle_β26
    replace hT11 := hT11.le hle_β26
    replace hG16 := hG16.le hle_β26
    replace hU20 := hU20.le hle_β26
    replace hle0 := hle0.trans hle_β26
    refine TriL.segN (k' := 4) (fr' := fun b27 => [(1, .int .i64 (root)), (2, .int .i64 (mode)), (7, .slice B8 ((treeG ns root).1.length) (c9)), (9, .slice B18 ((underG ns root).1.length) (c19)), (11, .pointer (some ⟨b27, 0, none⟩))]) (hps' := fun b27 => [.abs (RowA 32 10 B22 ns.length c23 (nodesV L24 ns)), .abs R, .blk b1 [.slice A (ns.length) (c)] 24, .blk b27 [.slice B22 (ns.length) (c23)] 24]) (obl := fun b27 => [b27 = b27]) [o_, ⟨[.at 3], none, none, none, none⟩] [1, 2, 7, 9, 11] [0, 1, 2, 3] (fun _ _ => by kernel_rfl) (fun b27 => ⟨rfl, trivial⟩) (fun b27 => ?_)
    refine TriL.nil (by kernel_rfl) (TriQ.next (Tri.seq (Tri.seq (Tri.region ?_))))
    refine TriL.partEq 0 (p := .abs (RowA 32 10 B22 ns.length c23 (nodesV L24 ns))) (p' := .abs (RowA 32 10 B22 ns.length c23 (nodesV (chgL L24 ns (underG ns root).1 0) (chg ns (underG ns root).1 mode 0)))) (by kernel_rfl) (by rw [chg_zero, chgL_zero]) ?_
    have hll := hB.hl
    have hmm : 0 ≤ mode ∧ mode ≤ 4095 := by omega
    have hul := underG_len ns root
    refine TriL.segK (k' := 1) (fr' := [(1, .int .i64 (root)), (2, .int .i64 (mode)), (7, .slice B8 ((treeG ns root).1.length) (c9)), (9, .slice B18 ((underG ns root).1.length) (c19)), (11, .pointer (some ⟨b27, 0, none⟩)), (12, .int .i64 0)]) (obl := []) [o_] [1, 2, 7, 9, 11, 12] (fun _ _ => by kernel_rfl) trivial ?_
    refine TriL.nil (by kernel_rfl) (TriQ.next (Tri.block ?_))
    refine Tri.loop (ι := Nat) (fun (i : Nat) => (i ≤ ns.length)) (fun (i : Nat) => ns.length - i) (fun (i : Nat) => [(1, .int .i64 (root)), (2, .int .i64 (mode)), (7, .slice B8 ((treeG ns root).1.length) (c9)), (9, .slice B18 ((underG ns root).1.length) (c19)), (11, .pointer (some ⟨b27, 0, none⟩)), (12, .int .i64 ↑i)]) (fun (i : Nat) => [.blk b27 [.slice B22 (ns.length) (c23)] 24, .abs (RowA 32 10 B22 ns.length c23 (nodesV (chgL L24 ns (underG ns root).1 i) (chg ns (underG ns root).1 mode i))), .abs R]) 0 (idx := [1, 2, 7, 9, 11, 12]) (pk := [3, 0, 1]) (show (0 ≤ ns.length) from Nat.zero_le _) (fun _ => by kernel_rfl) rfl (by kernel_rfl) ?_
    rintro i hi
    show Tri _ _ _ _ [(1, .int .i64 (root)), (2, .int .i64 (mode)), (7, .slice B8 ((treeG ns root).1.length) (c9)), (9, .slice B18 ((underG ns root).1.length) (c19)), (11, .pointer (some ⟨b27, 0, none⟩)), (12, .int .i64 ↑i)] [.blk b27 [.slice B22 (ns.length) (c23)] 24, .abs (RowA 32 10 B22 ns.length c23 (nodesV (chgL L24 ns (underG ns root).1 i) (chg ns (underG ns root).1 mode i))), .abs R] _
    refine Tri.seq (Tri.seq (Tri.region ?_))
    refine TriL.segK (k' := 5) (fr' := [(1, .int .i64 (root)), (2, .int .i64 (mode)), (7, .slice B8 ((treeG ns root).1.length) (c9)), (9, .slice B18 ((underG ns root).1.length) (c19)), (11, .pointer (some ⟨b27, 0, none⟩)), (12, .int .i64 ↑i), (49, .bool (decide ((((i : Nat) : Int) : Int) < (((ns.length : Nat) : Int) : Int))))]) (obl := [b27 = b27]) [o_, o_, ⟨[.at 0], none, none, none, none⟩, o_, o_] [1, 2, 7, 9, 11, 12, 49] (fun _ _ => by kernel_rfl) ⟨rfl, trivial⟩ ?_
    refine TriL.nil (by kernel_rfl) (TriQ.next ?_)
    refine Tri.condP (p := (((i : Nat) : Int) : Int) < (((ns.length : Nat) : Int) : Int)) (fun _ => by kernel_rfl) (fun h49 => ?_) (fun h49 => ?_)
    ·
     refine Tri.skip (TriQ.next (Tri.seq (Tri.block (Tri.seq (Tri.region ?_)))))
     have hin : i < ns.length := by omega
     refine TriL.tell (p := ∃ g, B22 = some ⟨g, 0, none⟩) (fun w hS => let ⟨F, h⟩ := hS.get (i := 1) rfl; RowA.head h (by omega)) (fun ⟨g28, hg⟩ => ?_)
     subst hg
     refine TriL.segK (k' := 1) (fr' := [(1, .int .i64 (root)), (2, .int .i64 (mode)), (7, .slice B8 ((treeG ns root).1.length) (c9)), (9, .slice B18 ((underG ns root).1.length) (c19)), (11, .pointer (some ⟨b27, 0, none⟩)), (12, .int .i64 ↑i), (13, .bool false)]) (obl := []) [o_] [1, 2, 7, 9, 11, 12, 13] (fun _ _ => by kernel_rfl) trivial ?_
     refine TriL.nil (by kernel_rfl) (TriQ.next (Tri.seq (Tri.seq (Tri.region ?_))))
     refine TriL.segK (k' := 1) (fr' := [(1, .int .i64 (root)), (2, .int .i64 (mode)), (7, .slice B8 ((treeG ns root).1.length) (c9)), (9, .slice B18 ((underG ns root).1.length) (c19)), (11, .pointer (some ⟨b27, 0, none⟩)), (12, .int .i64 ↑i), (13, .bool false), (14, .int .i64 0)]) (obl := []) [o_] [1, 2, 7, 9, 11, 12, 13, 14] (fun _ _ => by kernel_rfl) trivial ?_
     refine TriL.nil (by kernel_rfl) (TriQ.next (Tri.block ?_))
     refine Tri.loop (ι := Nat × Bool) (fun ((j, fl) : Nat × Bool) => (j ≤ (underG ns root).1.length) ∧ (Come (underG ns root).1 (nd ns i).id j fl)) (fun ((j, fl) : Nat × Bool) => (underG ns root).1.length - j) (fun ((j, fl) : Nat × Bool) => [(1, .int .i64 (root)), (2, .int .i64 (mode)), (7, .slice B8 ((treeG ns root).1.length) (c9)), (9, .slice B18 ((underG ns root).1.length) (c19)), (11, .pointer (some ⟨b27, 0, none⟩)), (12, .int .i64 ↑i), (13, .bool fl), (14, .int .i64 ↑j)]) (fun ((j, fl) : Nat × Bool) => [.blk b27 [.slice (some ⟨g28, 0, none⟩) (ns.length) (c23)] 24, .abs (RowA 32 10 (some ⟨g28, 0, none⟩) ns.length c23 (nodesV (chgL L24 ns (underG ns root).1 i) (chg ns (underG ns root).1 mode i))), .abs R]) (0, false) (idx := [1, 2, 7, 9, 11, 12, 13, 14]) (pk := [0, 1, 2]) (show (0 ≤ (underG ns root).1.length) ∧ (Come (underG ns root).1 (nd ns i).id 0 false) from ⟨Nat.zero_le _, Come.zero _ _⟩) (fun _ => by kernel_rfl) rfl (by kernel_rfl) ?_
     rintro ⟨j, fl⟩ ⟨hj, hcm⟩
     show Tri _ _ _ _ [(1, .int .i64 (root)), (2, .int .i64 (mode)), (7, .slice B8 ((treeG ns root).1.length) (c9)), (9, .slice B18 ((underG ns root).1.length) (c19)), (11, .pointer (some ⟨b27, 0, none⟩)), (12, .int .i64 ↑i), (13, .bool fl), (14, .int .i64 ↑j)] [.blk b27 [.slice (some ⟨g28, 0, none⟩) (ns.length) (c23)] 24, .abs (RowA 32 10 (some ⟨g28, 0, none⟩) ns.length c23 (nodesV (chgL L24 ns (underG ns root).1 i) (chg ns (underG ns root).1 mode i))), .abs R] _
     refine Tri.seq (Tri.seq (Tri.region ?_))
     refine TriL.segK (k' := 4) (fr' := [(1, .int .i64 (root)), (2, .int .i64 (mode)), (7, .slice B8 ((treeG ns root).1.length) (c9)), (9, .slice B18 ((underG ns root).1.length) (c19)), (11, .pointer (some ⟨b27, 0, none⟩)), (12, .int .i64 ↑i), (13, .bool fl), (14, .int .i64 ↑j), (55, .bool (decide ((((j : Nat) : Int) : Int) < ((((underG ns root).1.length : Nat) : Int) : Int))))]) (obl := []) [o_, o_, o_, o_] [1, 2, 7, 9, 11, 12, 13, 14, 55] (fun _ _ => by kernel_rfl) trivial ?_
     refine TriL.nil (by kernel_rfl) (TriQ.next ?_)
     refine Tri.condP (p := (((j : Nat) : Int) : Int) < ((((underG ns root).1.length : Nat) : Int) : Int)) (fun _ => by kernel_rfl) (fun h55 => ?_) (fun h55 => ?_)
     ·
      refine Tri.skip (TriQ.next (Tri.seq (Tri.block (Tri.seq ?_))))
      refine Tri.regionQ (by kernel_rfl) (by kernel_rfl) ?_
      refine TriLQ.seg (k' := 11) (fr' := [(1, .int .i64 (root)), (2, .int .i64 (mode)), (7, .slice B8 ((treeG ns root).1.length) (c9)), (9, .slice B18 ((underG ns root).1.length) (c19)), (11, .pointer (some ⟨b27, 0, none⟩)), (12, .int .i64 ↑i), (13, .bool fl), (14, .int .i64 ↑j), (68, .bool (decide ((((underG ns root).1.getD j 0) : Int) = ((nd ns i).id : Int))))]) (obl := [(∀ F w, (RowA 32 10 (some ⟨g28, 0, none⟩) ns.length c23 (nodesV (chgL L24 ns (underG ns root).1 i) (chg ns (underG ns root).1 mode i))).h F w → w.cell? ⟨g28, i * 10, none⟩ = some (.int .i64 ((nd ns i).id))), (Value.pointer (some ⟨g28, 0 + i * 10, none⟩)) = (.pointer (some ⟨g28, i * 10, none⟩)), ((i : Nat) : Int) = ((i : Nat) : Int), i < ns.length, (⟨g28, 0, none⟩ : Addr).spot = none, b27 = b27, (Rd β26 ⟨(blkOf B18), offOf B18 + j * 1, none⟩ (.int .i64 (((underG ns root).1.getD j 0)))), ((j : Nat) : Int) = ((j : Nat) : Int), j < (underG ns root).1.length, (⟨(blkOf B18), offOf B18, none⟩ : Addr).spot = none, (B18 : Option Addr) = some ⟨(blkOf B18), offOf B18, none⟩]) [o_, o_, ⟨[], some j, none, some ⟨(blkOf B18), offOf B18, none⟩, none⟩, ⟨[.old (.int .i64 (((underG ns root).1.getD j 0)))], none, none, none, none⟩, o_, ⟨[.at 0], none, none, none, none⟩, o_, ⟨[], some i, none, none, some (.pointer (some ⟨g28, i * 10, none⟩))⟩, o_, ⟨[.view 1 (.int .i64 ((nd ns i).id))], none, none, none, none⟩, o_] [1, 2, 7, 9, 11, 12, 13, 14, 68] (fun _ _ => by kernel_rfl) ⟨RowA.cell (chgV_get hin), by simp, rfl, hin, rfl, rfl, IntsAt.rd hU20 (by omega), rfl, by omega, rfl, IntsAt.hd hU20 (j := j) (by omega), trivial⟩ ?_
      refine TriLQ.nil (by kernel_rfl) (TriQ.next ?_)
      refine Tri.condP (p := (((underG ns root).1.getD j 0) : Int) = ((nd ns i).id : Int)) (fun _ => by kernel_rfl) (fun h68 => ?_) (fun h68 => ?_)
      ·
       refine Tri.region ?_
       refine TriL.segK (k' := 1) (fr' := [(1, .int .i64 (root)), (2, .int .i64 (mode)), (7, .slice B8 ((treeG ns root).1.length) (c9)), (9, .slice B18 ((underG ns root).1.length) (c19)), (11, .pointer (some ⟨b27, 0, none⟩)), (12, .int .i64 ↑i), (13, .bool true), (14, .int .i64 ↑j)]) (obl := []) [o_] [1, 2, 7, 9, 11, 12, 13, 14] (fun _ _ => by kernel_rfl) trivial ?_
       refine TriL.nil (by kernel_rfl) (TriQ.blockNormal (TriQ.next (Tri.region ?_)))
       refine TriL.segK (k' := 3) (fr' := [(1, .int .i64 (root)), (2, .int .i64 (mode)), (7, .slice B8 ((treeG ns root).1.length) (c9)), (9, .slice B18 ((underG ns root).1.length) (c19)), (11, .pointer (some ⟨b27, 0, none⟩)), (12, .int .i64 ↑i), (13, .bool true), (14, .int .i64 ↑(j + 1))]) (obl := [(Value.int .i64 (IntKind.wrap .i64 (((j : Nat) : Int) + 1))) = (.int .i64 ↑(j + 1))]) [o_, ⟨[], none, none, none, some (.int .i64 ↑(j + 1))⟩, o_] [1, 2, 7, 9, 11, 12, 13, 14] (fun _ _ => by kernel_rfl) ⟨wrapEq (by omega) (by omega) (by omega), trivial⟩ ?_
       refine TriL.nil (by kernel_rfl) ?_
       exact TriQ.turn ((j + 1), true) (idx := [1, 2, 7, 9, 11, 12, 13, 14]) (pk := [0, 1, 2]) (show (((j + 1)) ≤ (underG ns root).1.length) ∧ (Come (underG ns root).1 (nd ns i).id ((j + 1)) true) from ⟨by omega, Come.hit h68⟩) (by show (underG ns root).1.length - ((j + 1)) < (underG ns root).1.length - j; omega) (fun _ => by kernel_rfl) rfl (by kernel_rfl)
      ·
       refine Tri.skip (TriQ.blockNormal (TriQ.next (Tri.region ?_)))
       refine TriL.segK (k' := 3) (fr' := [(1, .int .i64 (root)), (2, .int .i64 (mode)), (7, .slice B8 ((treeG ns root).1.length) (c9)), (9, .slice B18 ((underG ns root).1.length) (c19)), (11, .pointer (some ⟨b27, 0, none⟩)), (12, .int .i64 ↑i), (13, .bool fl), (14, .int .i64 ↑(j + 1))]) (obl := [(Value.int .i64 (IntKind.wrap .i64 (((j : Nat) : Int) + 1))) = (.int .i64 ↑(j + 1))]) [o_, ⟨[], none, none, none, some (.int .i64 ↑(j + 1))⟩, o_] [1, 2, 7, 9, 11, 12, 13, 14] (fun _ _ => by kernel_rfl) ⟨wrapEq (by omega) (by omega) (by omega), trivial⟩ ?_
       refine TriL.nil (by kernel_rfl) ?_
       exact TriQ.turn ((j + 1), fl) (idx := [1, 2, 7, 9, 11, 12, 13, 14]) (pk := [0, 1, 2]) (show (((j + 1)) ≤ (underG ns root).1.length) ∧ (Come (underG ns root).1 (nd ns i).id ((j + 1)) fl) from ⟨by omega, hcm.miss h68⟩) (by show (underG ns root).1.length - ((j + 1)) < (underG ns root).1.length - j; omega) (fun _ => by kernel_rfl) rfl (by kernel_rfl)
     ·
      refine Tri.exit (TriQ.passExit (TriQ.passExit (TriQ.blockHit (TriQ.next (Tri.seq (Tri.region ?_))))))
      refine TriL.segK (k' := 2) (fr' := [(1, .int .i64 (root)), (2, .int .i64 (mode)), (7, .slice B8 ((treeG ns root).1.length) (c9)), (9, .slice B18 ((underG ns root).1.length) (c19)), (11, .pointer (some ⟨b27, 0, none⟩)), (12, .int .i64 ↑i), (70, .bool (!fl))]) (obl := []) [o_, o_] [1, 2, 7, 9, 11, 12, 70] (fun _ _ => by kernel_rfl) trivial ?_
      refine TriL.nil (by kernel_rfl) (TriQ.next ?_)
      refine Tri.cond (b := (!fl)) (fun _ => by kernel_rfl) (fun h70 => ?_) (fun h70 => ?_)
      ·
       refine Tri.seq (Tri.region ?_)
       refine TriL.segK (k' := 6) (fr' := [(1, .int .i64 (root)), (2, .int .i64 (mode)), (7, .slice B8 ((treeG ns root).1.length) (c9)), (9, .slice B18 ((underG ns root).1.length) (c19)), (11, .pointer (some ⟨b27, 0, none⟩)), (12, .int .i64 ↑i), (74, .int .i64 (mode)), (76, .pointer (some ⟨g28, i * 10 + 2, none⟩))]) (obl := [(Value.pointer (some ⟨g28, 0 + i * 10, none⟩)) = (.pointer (some ⟨g28, i * 10, none⟩)), ((i : Nat) : Int) = ((i : Nat) : Int), i < ns.length, (⟨g28, 0, none⟩ : Addr).spot = none, b27 = b27]) [o_, ⟨[.at 0], none, none, none, none⟩, o_, o_, ⟨[], some i, none, none, some (.pointer (some ⟨g28, i * 10, none⟩))⟩, o_] [1, 2, 7, 9, 11, 12, 74, 76] (fun _ _ => by kernel_rfl) ⟨by simp, rfl, hin, rfl, rfl, trivial⟩ ?_
       refine TriL.rowSet 1 (i * 10 + 2) (d := none) (T := 3) (e := 32) (size := 10) (n := ns.length) (cap := c23) (g := g28) (xs := (nodesV (chgL L24 ns (underG ns root).1 i) (chg ns (underG ns root).1 mode i))) (u := .int .i64 (mode)) (a := (.tmp 76)) (y := (.tmp 74)) (fun _ => by kernel_rfl) (by kernel_rfl) (fun _ => by kernel_rfl) (fun _ => by kernel_rfl) (by kernel_rfl) rfl (by rw [nodesV_len, chg_len]; omega) ?_
       refine TriL.nil (by kernel_rfl) (TriQ.next (Tri.region ?_))
       refine TriL.segK (k' := 5) (fr' := [(1, .int .i64 (root)), (2, .int .i64 (mode)), (7, .slice B8 ((treeG ns root).1.length) (c9)), (9, .slice B18 ((underG ns root).1.length) (c19)), (11, .pointer (some ⟨b27, 0, none⟩)), (12, .int .i64 ↑i), (81, .pointer (some ⟨g28, i * 10 + 9, none⟩))]) (obl := [(Value.pointer (some ⟨g28, 0 + i * 10, none⟩)) = (.pointer (some ⟨g28, i * 10, none⟩)), ((i : Nat) : Int) = ((i : Nat) : Int), i < ns.length, (⟨g28, 0, none⟩ : Addr).spot = none, b27 = b27]) [o_, ⟨[.at 0], none, none, none, none⟩, o_, ⟨[], some i, none, none, some (.pointer (some ⟨g28, i * 10, none⟩))⟩, o_] [1, 2, 7, 9, 11, 12, 81] (fun _ _ => by kernel_rfl) ⟨by simp, rfl, hin, rfl, rfl, trivial⟩ ?_
       refine TriL.rowSet 1 (i * 10 + 9) (d := none) (T := 30) (e := 32) (size := 10) (n := ns.length) (cap := c23) (g := g28) (xs := ((nodesV (chgL L24 ns (underG ns root).1 i) (chg ns (underG ns root).1 mode i)).set (i * 10 + 2) (.int .i64 (mode)))) (u := .slice none (0) (0)) (a := (.tmp 81)) (y := (.const (.slice none (0) (0)))) (fun _ => by kernel_rfl) (by kernel_rfl) (fun _ => by kernel_rfl) (fun _ => by kernel_rfl) (by kernel_rfl) rfl (by rw [List.length_set, nodesV_len, chg_len]; omega) ?_
       refine TriL.partEq 1 (p := .abs (RowA 32 10 (some ⟨g28, 0, none⟩) ns.length c23 (((nodesV (chgL L24 ns (underG ns root).1 i) (chg ns (underG ns root).1 mode i)).set (i * 10 + 2) (.int .i64 (mode))).set (i * 10 + 9) (.slice none (0) (0))))) (p' := .abs (RowA 32 10 (some ⟨g28, 0, none⟩) ns.length c23 (nodesV (chgL L24 ns (underG ns root).1 (i + 1)) (chg ns (underG ns root).1 mode (i + 1))))) (by kernel_rfl) (by rw [chgV_set hin (come_out hcm (by omega) h70)]) ?_
       refine TriL.nil (by kernel_rfl) (TriQ.blockNormal (TriQ.next (Tri.region ?_)))
       refine TriL.segK (k' := 3) (fr' := [(1, .int .i64 (root)), (2, .int .i64 (mode)), (7, .slice B8 ((treeG ns root).1.length) (c9)), (9, .slice B18 ((underG ns root).1.length) (c19)), (11, .pointer (some ⟨b27, 0, none⟩)), (12, .int .i64 ↑(i + 1))]) (obl := [(Value.int .i64 (IntKind.wrap .i64 (((i : Nat) : Int) + 1))) = (.int .i64 ↑(i + 1))]) [o_, ⟨[], none, none, none, some (.int .i64 ↑(i + 1))⟩, o_] [1, 2, 7, 9, 11, 12] (fun _ _ => by kernel_rfl) ⟨wrapEq (by omega) (by omega) (by omega), trivial⟩ ?_
       refine TriL.nil (by kernel_rfl) ?_
       exact TriQ.turn ((i + 1)) (idx := [1, 2, 7, 9, 11, 12]) (pk := [0, 1, 2]) (show (((i + 1)) ≤ ns.length) from (by omega)) (by show ns.length - ((i + 1)) < ns.length - i; omega) (fun _ => by kernel_rfl) rfl (by kernel_rfl)
      ·
       refine Tri.skip (TriQ.blockNormal (TriQ.next (Tri.region ?_)))
       refine TriL.partEq 1 (p := .abs (RowA 32 10 (some ⟨g28, 0, none⟩) ns.length c23 (nodesV (chgL L24 ns (underG ns root).1 i) (chg ns (underG ns root).1 mode i)))) (p' := .abs (RowA 32 10 (some ⟨g28, 0, none⟩) ns.length c23 (nodesV (chgL L24 ns (underG ns root).1 (i + 1)) (chg ns (underG ns root).1 mode (i + 1))))) (by kernel_rfl) (by rw [chgV_skip hin (come_in hcm (by omega) h70)]) ?_
       refine TriL.segK (k' := 3) (fr' := [(1, .int .i64 (root)), (2, .int .i64 (mode)), (7, .slice B8 ((treeG ns root).1.length) (c9)), (9, .slice B18 ((underG ns root).1.length) (c19)), (11, .pointer (some ⟨b27, 0, none⟩)), (12, .int .i64 ↑(i + 1))]) (obl := [(Value.int .i64 (IntKind.wrap .i64 (((i : Nat) : Int) + 1))) = (.int .i64 ↑(i + 1))]) [o_, ⟨[], none, none, none, some (.int .i64 ↑(i + 1))⟩, o_] [1, 2, 7, 9, 11, 12] (fun _ _ => by kernel_rfl) ⟨wrapEq (by omega) (by omega) (by omega), trivial⟩ ?_
       refine TriL.nil (by kernel_rfl) ?_
       exact TriQ.turn ((i + 1)) (idx := [1, 2, 7, 9, 11, 12]) (pk := [0, 1, 2]) (show (((i + 1)) ≤ ns.length) from (by omega)) (by show ns.length - ((i + 1)) < ns.length - i; omega) (fun _ => by kernel_rfl) rfl (by kernel_rfl)
    ·
     refine Tri.exit (TriQ.passExit (TriQ.passExit (TriQ.blockHit (TriQ.next (Tri.seq (Tri.region ?_))))))
     have ein : i = ns.length := by omega
     refine TriL.partEq 1 (p := .abs (RowA 32 10 B22 ns.length c23 (nodesV (chgL L24 ns (underG ns root).1 i) (chg ns (underG ns root).1 mode i)))) (p' := .abs (RowA 32 10 B22 ns.length c23 (nodesV (chgL L24 ns (underG ns root).1 ns.length) (chg ns (underG ns root).1 mode ns.length)))) (by kernel_rfl) (by rw [ein]) ?_
     refine TriL.rebase (Φ := fun β' => RowB β' B22 (nodesV (chgL L24 ns (underG ns root).1 ns.length) (chg ns (underG ns root).1 mode ns.length))) 1 [0, 2] (hps' := [.blk b27 [.slice B22 (ns.length) (c23)] 24, .abs R]) rfl rfl (by kernel_rfl) (fun F w h β' h1 h2 => RowB.of_row h h1 h2) (fun β29 hle_β29 hRr => ?_)
     replace hG := hG.le hle_β29
     replace hG6 := hG6.le hle_β29
     replace hT11 := hT11.le hle_β29
     replace hG16 := hG16.le hle_β29
     replace hU20 := hU20.le hle_β29
     replace hI25 := hI25.le hle_β29
     replace hle0 := hle0.trans hle_β29
     have hGH := chgAt hRr hI25
     refine TriL.segK (k' := 2) (fr' := [(7, .slice B8 ((treeG ns root).1.length) (c9)), (83, .agg #[.slice B22 (ns.length) (c23)]), (84, .int .i64 (root))]) (obl := [b27 = b27]) [⟨[.at 0], none, none, none, none⟩, o_] [7, 83, 84] (fun _ _ => by kernel_rfl) ⟨rfl, trivial⟩ ?_
     have hc34 := sp_tree B22 c23 (chg ns (underG ns root).1 mode ns.length) (chgL L24 ns (underG ns root).1 ns.length) hGH (chg_B hB hm) root hz
     rw [chg_tree h35 hmm, chg_len, h35] at hc34
     refine TriL.callB (f := 26) (args := #[.agg #[.slice B22 (ns.length) (c23)], .int .i64 (root)]) (d := (some 85)) (pre := []) (R := [.blk b27 [.slice B22 (ns.length) (c23)] 24, .abs R]) (pk := [0, 1]) (fun _ => by kernel_rfl) (hc34) rfl (by kernel_rfl) ?_
     rintro β35 _ _ hle_β35 ⟨B30, c31, M32, rfl, rfl, hT33⟩
     replace hG := hG.le hle_β35
     replace hG6 := hG6.le hle_β35
     replace hT11 := hT11.le hle_β35
     replace hG16 := hG16.le hle_β35
     replace hU20 := hU20.le hle_β35
     replace hI25 := hI25.le hle_β35
     replace hGH := hGH.le hle_β35
     replace hle0 := hle0.trans hle_β35
     refine TriL.segK (k' := 8) (fr' := [(7, .slice B8 ((treeG ns root).1.length) (c9)), (15, .slice B30 ((treeG ns root).1.length) (c31)), (16, .int .i64 0)]) (obl := []) [o_, o_, o_, o_, o_] [7, 15, 16] (fun _ _ => by kernel_rfl) trivial ?_
     refine TriL.nil (by kernel_rfl) (TriQ.next (Tri.seq (Tri.region ?_)))
     refine TriL.segK (k' := 5) (fr' := [(90, .bool true), (91, .slice B8 ((treeG ns root).1.length) (c9)), (92, .slice B30 ((treeG ns root).1.length) (c31))]) (obl := []) [o_, o_, o_, o_, o_] [90, 91, 92] (fun _ _ => by kernel_rfl) trivial ?_
     refine TriL.call (f := 28) (args := #[.slice B8 ((treeG ns root).1.length) (c9), .slice B30 ((treeG ns root).1.length) (c31)]) (d := (some 93)) (pre := []) (R := [.blk b27 [.slice B22 (ns.length) (c23)] 24, .abs R]) (pk := [0, 1]) (fun _ => by kernel_rfl) ((sp_sameLines B8 B30 c9 c31 (treeG ns root).1 (treeG ns root).1 M10 M32 hT11 hT33 (treeG_small hB).1 (treeG_small hB).2).val (congrArg Value.bool (decide_eq_true rfl))) rfl (by kernel_rfl) ?_
     rintro _ _ ⟨rfl, rfl⟩
     refine TriL.segK (k' := 8) (fr' := [(6, .bool true)]) (obl := []) [o_, o_] [6] (fun _ _ => by kernel_rfl) trivial ?_
     refine TriL.nil (by kernel_rfl) (TriQ.next (Tri.ret ?_))
     exact TriQ.retU (v := .bool true) (l := []) (obl := []) [] [1] hle0 (fun _ => by kernel_rfl) trivial rfl (by kernel_rfl) (rfl)
end Go.Proofs.Ytjpdcppdoonmdaa
end
