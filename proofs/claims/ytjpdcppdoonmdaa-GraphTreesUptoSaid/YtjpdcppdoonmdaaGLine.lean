/-
  PROVED HERE: data are cloned, lines are compared
  CONDITIONS: as the theorems say. Printed by a program of this repo (wip/v).
-/
import Derived.Test.YtjpdcppdoonmdaaGK
namespace Go.Proofs.Ytjpdcppdoonmdaa
open Go.RowKit
attribute [local irreducible] TriL TriLQ Tri TriQ
set_option maxRecDepth 100000 in
set_option maxHeartbeats 4000000 in
theorem sp_cloneNil {β : Bs} (c : Nat) : SpecB Try.prog β 50 #[.slice none 0 c] [] (fun β' v l => ∃ B cap, v = .slice B 0 cap ∧ l = [] ∧ BytesAt β' B []) := by
  refine SpecB.enter Try.func50 rfl Try.ntmps50 (Nat.le_of_ble_eq_true rfl) (fun hle0 R => ?_)
  refine Tri.seq ?_
  refine Tri.region ?_
  refine TriL.segK (k' := 1) (fr' := [(0, .slice none (0) (c))]) (obl := []) [o_] [0] (fun _ _ => by kernel_rfl) trivial ?_
  refine TriL.nil (by kernel_rfl) ?_
  refine TriQ.next ?_
  refine Tri.seq ?_
  refine Tri.seq ?_
  refine Tri.region ?_
  refine TriL.segK (k' := 2) (fr' := [(0, .slice none (0) (c)), (4, .bool true)]) (obl := []) [o_, o_] [0, 4] (fun _ _ => by kernel_rfl) trivial ?_
  refine TriL.nil (by kernel_rfl) ?_
  refine TriQ.next ?_
  refine Tri.condT (fun _ => by kernel_rfl) ?_
  refine Tri.seq ?_
  refine Tri.region ?_
  refine TriL.segK (k' := 1) (fr' := [(2, .slice none (0) (0))]) (obl := []) [o_] [2] (fun _ _ => by kernel_rfl) trivial ?_
  refine TriL.nil (by kernel_rfl) ?_
  refine TriQ.next ?_
  refine Tri.ret ?_
  refine TriQ.passRet ?_
  exact TriQ.retB (v := .slice none (0) (0)) (l := []) (obl := []) [] [0] hle0 (fun _ => by kernel_rfl) trivial rfl (by kernel_rfl) (⟨none, 0, rfl, rfl, RowB.nil⟩)
set_option maxRecDepth 100000 in
set_option maxHeartbeats 4000000 in
theorem sp_cloneSome {β : Bs} (a : Addr) (c : Nat) (d : List UInt8) (hA : BytesAt β (some a) d) (hl : d.length ≤ 1048576) : SpecB Try.prog β 50 #[.slice (some a) d.length c] [] (fun β' v l => ∃ B cap, v = .slice B d.length cap ∧ l = [] ∧ BytesAt β' B d) := by
  refine SpecB.enter Try.func50 rfl Try.ntmps50 (Nat.le_of_ble_eq_true rfl) (fun hle0 R => ?_)
  refine Tri.seq ?_
  refine Tri.region ?_
  refine TriL.segK (k' := 1) (fr' := [(0, .slice (some a) (d.length) (c))]) (obl := []) [o_] [0] (fun _ _ => by kernel_rfl) trivial ?_
  refine TriL.nil (by kernel_rfl) ?_
  refine TriQ.next ?_
  refine Tri.seq ?_
  refine Tri.seq ?_
  refine Tri.region ?_
  refine TriL.segK (k' := 2) (fr' := [(0, .slice (some a) (d.length) (c)), (4, .bool false)]) (obl := []) [o_, o_] [0, 4] (fun _ _ => by kernel_rfl) trivial ?_
  refine TriL.nil (by kernel_rfl) ?_
  refine TriQ.next ?_
  refine Tri.condF (fun _ => by kernel_rfl) ?_
  refine Tri.skip ?_
  refine TriQ.next ?_
  refine Tri.seq ?_
  refine Tri.region ?_
  refine TriL.segN (k' := 1) (fr' := fun b1 => [(0, .slice (some a) (d.length) (c)), (5, .slice (some ⟨b1, 0, none⟩) (0) (0))]) (hps' := fun b1 => [.abs R, .blk b1 [] 5]) (obl := fun b1 => []) [o_] [0, 5] [0, 1] (fun _ _ => by kernel_rfl) (fun b1 => trivial) (fun b1 => ?_)
  refine TriL.mem (fun w hS => hS.toRow (i := 1) (b := b1) (cs := []) (e := 5) 1 0 (by kernel_rfl) rfl (by decide)) ?_
  refine TriL.segK (k' := 2) (fr' := [(5, .slice (some ⟨b1, 0, none⟩) (0) (0)), (6, .slice (some a) (d.length) (c))]) (obl := []) [o_] [5, 6] (fun _ _ => by kernel_rfl) trivial ?_
  refine TriL.append 1 (d := (some 7)) (t := 29) (e := 5) (z := .int .u8 0) (size := 1) (bytes := 1) (n := 0) (cap := 0) (A := some ⟨b1, 0, none⟩) (xs := []) (s := (.tmp 5)) (x := (.tmp 6)) (ats := #[29, 29]) (A' := (some a)) (m := d.length) (c' := c) (news := (bytesV d)) (fun _ => by kernel_rfl) rfl (by kernel_rfl) (fun _ => by kernel_rfl) (fun _ => by kernel_rfl) Try.underlying29 (by kernel_rfl) rfl (by decide) (by rw [bytesV_len, Nat.mul_one]) (oneCell_bytes d) (hA.src) (by unfold maxLen; omega) (by omega) (fun A2 c3 => ?_)
  refine TriL.partEq 1 (p := .abs (RowA 5 1 A2 (0 + d.length) c3 ([] ++ (bytesV d)))) (p' := .abs (RowA 5 1 A2 d.length c3 (bytesV d))) (by kernel_rfl) (by rw [Nat.zero_add, List.nil_append]) ?_
  refine TriL.slot 7 (.slice A2 (0 + d.length) (c3)) (.slice A2 (d.length) (c3)) (fun _ => by kernel_rfl) (by rw [Nat.zero_add]) ?_
  refine TriL.rebase (Φ := fun β' => BytesAt β' A2 d) 1 [0] (hps' := [.abs R]) rfl rfl (by kernel_rfl) (fun F w h β' h1 h2 => RowB.of_row h h1 h2) (fun β1 hle_β1 hB => ?_)
  replace hA := hA.le hle_β1
  replace hle0 := hle0.trans hle_β1
  refine TriL.segK (k' := 4) (fr' := [(2, .slice A2 (d.length) (c3))]) (obl := []) [o_] [2] (fun _ _ => by kernel_rfl) trivial ?_
  refine TriL.nil (by kernel_rfl) ?_
  refine TriQ.next ?_
  refine Tri.ret ?_
  exact TriQ.retB (v := .slice A2 (d.length) (c3)) (l := []) (obl := []) [] [0] hle0 (fun _ => by kernel_rfl) trivial rfl (by kernel_rfl) (⟨A2, c3, rfl, rfl, hB⟩)
theorem sp_clone {β : Bs} (A : Option Addr) (c : Nat) (d : List UInt8) (hA : BytesAt β A d) (hl : d.length ≤ 1048576) : SpecB Try.prog β 50 #[.slice A d.length c] [] (fun β' v l => ∃ B cap, v = .slice B d.length cap ∧ l = [] ∧ BytesAt β' B d) := by
  cases A with
  | some a => exact sp_cloneSome a c d hA hl
  | none =>
    cases d with
    | nil => exact sp_cloneNil c
    | cons b r => have h := BytesAt.hd hA (j := 0) (by simp); cases h
set_option maxRecDepth 100000 in
set_option maxHeartbeats 4000000 in
theorem sp_sameLine {β : Bs} (l m : LineM) (dA dB : Option Addr) (dC dD : Nat) (hD : BytesAt β dA l.data) (hD2 : BytesAt β dB m.data) (hl1 : l.data.length ≤ 1048576) :
    Spec Try.prog β 49 #[.agg #[.string l.path, .int .i64 (l.kind), .int .i64 (l.mode), .int .i64 (l.uid), .int .i64 (l.gid), .int .i64 (l.sec), .int .i64 (l.nano), .slice dA (l.data.length) (dC), .string l.target, .string l.peer], .agg #[.string m.path, .int .i64 (m.kind), .int .i64 (m.mode), .int .i64 (m.uid), .int .i64 (m.gid), .int .i64 (m.sec), .int .i64 (m.nano), .slice dB (m.data.length) (dD), .string m.target, .string m.peer]] [] (fun v k => v = .bool (decide (l = m)) ∧ k = []) := by
  refine Spec.enter Try.func49 rfl Try.ntmps49 (Nat.le_of_ble_eq_true rfl) (fun R => ?_)
  refine Tri.seq ?_
  refine Tri.region ?_
  refine TriL.segN (k' := 1) (fr' := fun b4 => [(1, .agg #[.string m.path, .int .i64 (m.kind), .int .i64 (m.mode), .int .i64 (m.uid), .int .i64 (m.gid), .int .i64 (m.sec), .int .i64 (m.nano), .slice dB (m.data.length) (dD), .string m.target, .string m.peer]), (2, .pointer (some ⟨b4, 0, none⟩))]) (hps' := fun b4 => [.abs R, .blk b4 [.string l.path, .int .i64 (l.kind), .int .i64 (l.mode), .int .i64 (l.uid), .int .i64 (l.gid), .int .i64 (l.sec), .int .i64 (l.nano), .slice dA (l.data.length) (dC), .string l.target, .string l.peer] 51]) (obl := fun b4 => []) [o_] [1, 2] [0, 1] (fun _ _ => by kernel_rfl) (fun b4 => trivial) (fun b4 => ?_)
  refine TriL.segN (k' := 3) (fr' := fun b5 => [(2, .pointer (some ⟨b4, 0, none⟩)), (3, .pointer (some ⟨b5, 0, none⟩))]) (hps' := fun b5 => [.abs R, .blk b4 [.string l.path, .int .i64 (l.kind), .int .i64 (l.mode), .int .i64 (l.uid), .int .i64 (l.gid), .int .i64 (l.sec), .int .i64 (l.nano), .slice dA (l.data.length) (dC), .string l.target, .string l.peer] 51, .blk b5 [.string m.path, .int .i64 (m.kind), .int .i64 (m.mode), .int .i64 (m.uid), .int .i64 (m.gid), .int .i64 (m.sec), .int .i64 (m.nano), .slice dB (m.data.length) (dD), .string m.target, .string m.peer] 51]) (obl := fun b5 => []) [o_, o_] [2, 3] [0, 1, 2] (fun _ _ => by kernel_rfl) (fun b5 => trivial) (fun b5 => ?_)
  refine TriL.nil (by kernel_rfl) ?_
  refine TriQ.next ?_
  refine Tri.seq ?_
  refine Tri.region ?_
  refine TriL.segK (k' := 6) (fr' := [(2, .pointer (some ⟨b4, 0, none⟩)), (3, .pointer (some ⟨b5, 0, none⟩)), (10, .bool (decide ((l.path : ByteArray) = m.path)))]) (obl := [(Value.bool ((l.path : ByteArray).toList == (m.path : ByteArray).toList)) = (.bool (decide ((l.path : ByteArray) = m.path))), b5 = b5, b4 = b4]) [o_, ⟨[.at 1], none, none, none, none⟩, o_, ⟨[.at 2], none, none, none, none⟩, ⟨[], none, none, none, some (.bool (decide ((l.path : ByteArray) = m.path)))⟩, o_] [2, 3, 10] (fun _ _ => by kernel_rfl) ⟨strEqV _ _, rfl, rfl, trivial⟩ ?_
  refine TriL.slotP 10 ((l.path : ByteArray) = m.path) (fun _ => by kernel_rfl) (fun h10 => ?_) (fun h10 => ?_)
  · refine TriL.segK (k' := 13) (fr' := [(2, .pointer (some ⟨b4, 0, none⟩)), (3, .pointer (some ⟨b5, 0, none⟩)), (17, .bool (decide ((l.kind : Int) = (m.kind : Int))))]) (obl := [b5 = b5, b4 = b4]) [o_, ⟨[.at 1], none, none, none, none⟩, o_, ⟨[.at 2], none, none, none, none⟩, o_, o_, o_] [2, 3, 17] (fun _ _ => by kernel_rfl) ⟨rfl, rfl, trivial⟩ ?_
    refine TriL.slotP 17 ((l.kind : Int) = (m.kind : Int)) (fun _ => by kernel_rfl) (fun h17 => ?_) (fun h17 => ?_)
    · refine TriL.segK (k' := 20) (fr' := [(2, .pointer (some ⟨b4, 0, none⟩)), (3, .pointer (some ⟨b5, 0, none⟩)), (24, .bool (decide ((l.mode : Int) = (m.mode : Int))))]) (obl := [b5 = b5, b4 = b4]) [o_, ⟨[.at 1], none, none, none, none⟩, o_, ⟨[.at 2], none, none, none, none⟩, o_, o_, o_] [2, 3, 24] (fun _ _ => by kernel_rfl) ⟨rfl, rfl, trivial⟩ ?_
      refine TriL.slotP 24 ((l.mode : Int) = (m.mode : Int)) (fun _ => by kernel_rfl) (fun h24 => ?_) (fun h24 => ?_)
      · refine TriL.segK (k' := 27) (fr' := [(2, .pointer (some ⟨b4, 0, none⟩)), (3, .pointer (some ⟨b5, 0, none⟩)), (31, .bool (decide ((l.uid : Int) = (m.uid : Int))))]) (obl := [b5 = b5, b4 = b4]) [o_, ⟨[.at 1], none, none, none, none⟩, o_, ⟨[.at 2], none, none, none, none⟩, o_, o_, o_] [2, 3, 31] (fun _ _ => by kernel_rfl) ⟨rfl, rfl, trivial⟩ ?_
        refine TriL.slotP 31 ((l.uid : Int) = (m.uid : Int)) (fun _ => by kernel_rfl) (fun h31 => ?_) (fun h31 => ?_)
        · refine TriL.segK (k' := 34) (fr' := [(2, .pointer (some ⟨b4, 0, none⟩)), (3, .pointer (some ⟨b5, 0, none⟩)), (38, .bool (decide ((l.gid : Int) = (m.gid : Int))))]) (obl := [b5 = b5, b4 = b4]) [o_, ⟨[.at 1], none, none, none, none⟩, o_, ⟨[.at 2], none, none, none, none⟩, o_, o_, o_] [2, 3, 38] (fun _ _ => by kernel_rfl) ⟨rfl, rfl, trivial⟩ ?_
          refine TriL.slotP 38 ((l.gid : Int) = (m.gid : Int)) (fun _ => by kernel_rfl) (fun h38 => ?_) (fun h38 => ?_)
          · refine TriL.segK (k' := 38) (fr' := [(2, .pointer (some ⟨b4, 0, none⟩)), (3, .pointer (some ⟨b5, 0, none⟩)), (38, .bool true), (40, .agg #[.int .i64 (l.sec), .int .i64 (l.nano)]), (42, .agg #[.int .i64 (m.sec), .int .i64 (m.nano)])]) (obl := [b5 = b5, b5 = b5, b4 = b4, b4 = b4]) [o_, ⟨[.at 1, .at 1], none, none, none, none⟩, o_, ⟨[.at 2, .at 2], none, none, none, none⟩] [2, 3, 38, 40, 42] (fun _ _ => by kernel_rfl) ⟨rfl, rfl, rfl, rfl, trivial⟩ ?_
            refine TriL.run1 (d := (some 43)) (op := .binOp .eql 28 (.tmp 40) (.tmp 42) 28) (v := .bool (decide ((l.sec : Int) = (m.sec : Int) ∧ (l.nano : Int) = (m.nano : Int)))) (fun _ => by kernel_rfl) (fun o junk w ho hS => ⟨w, ran_timeEq ho (by kernel_rfl) (by kernel_rfl), hS⟩) ?_
            refine TriL.segK (k' := 41) (fr' := [(2, .pointer (some ⟨b4, 0, none⟩)), (3, .pointer (some ⟨b5, 0, none⟩)), (45, .bool (decide ((l.sec : Int) = (m.sec : Int) ∧ (l.nano : Int) = (m.nano : Int))))]) (obl := []) [o_, o_] [2, 3, 45] (fun _ _ => by kernel_rfl) trivial ?_
            refine TriL.slotP 45 ((l.sec : Int) = (m.sec : Int) ∧ (l.nano : Int) = (m.nano : Int)) (fun _ => by kernel_rfl) (fun h45 => ?_) (fun h45 => ?_)
            · refine TriL.segK (k' := 48) (fr' := [(2, .pointer (some ⟨b4, 0, none⟩)), (3, .pointer (some ⟨b5, 0, none⟩)), (52, .bool (decide ((l.target : ByteArray) = m.target)))]) (obl := [(Value.bool ((l.target : ByteArray).toList == (m.target : ByteArray).toList)) = (.bool (decide ((l.target : ByteArray) = m.target))), b5 = b5, b4 = b4]) [o_, ⟨[.at 1], none, none, none, none⟩, o_, ⟨[.at 2], none, none, none, none⟩, ⟨[], none, none, none, some (.bool (decide ((l.target : ByteArray) = m.target)))⟩, o_, o_] [2, 3, 52] (fun _ _ => by kernel_rfl) ⟨strEqV _ _, rfl, rfl, trivial⟩ ?_
              refine TriL.slotP 52 ((l.target : ByteArray) = m.target) (fun _ => by kernel_rfl) (fun h52 => ?_) (fun h52 => ?_)
              · refine TriL.segK (k' := 55) (fr' := [(2, .pointer (some ⟨b4, 0, none⟩)), (3, .pointer (some ⟨b5, 0, none⟩)), (59, .bool (decide ((l.peer : ByteArray) = m.peer)))]) (obl := [(Value.bool ((l.peer : ByteArray).toList == (m.peer : ByteArray).toList)) = (.bool (decide ((l.peer : ByteArray) = m.peer))), b5 = b5, b4 = b4]) [o_, ⟨[.at 1], none, none, none, none⟩, o_, ⟨[.at 2], none, none, none, none⟩, ⟨[], none, none, none, some (.bool (decide ((l.peer : ByteArray) = m.peer)))⟩, o_, o_] [2, 3, 59] (fun _ _ => by kernel_rfl) ⟨strEqV _ _, rfl, rfl, trivial⟩ ?_
                refine TriL.slotP 59 ((l.peer : ByteArray) = m.peer) (fun _ => by kernel_rfl) (fun h59 => ?_) (fun h59 => ?_)
                · refine TriL.segK (k' := 59) (fr' := [(59, .bool true), (61, .slice dA (l.data.length) (dC)), (63, .slice dB (m.data.length) (dD))]) (obl := [b5 = b5, b4 = b4]) [o_, ⟨[.at 1], none, none, none, none⟩, o_, ⟨[.at 2], none, none, none, none⟩] [59, 61, 63] (fun _ _ => by kernel_rfl) ⟨rfl, rfl, trivial⟩ ?_
                  refine TriL.call (f := 62) (args := #[.slice dA (l.data.length) (dC), .slice dB (m.data.length) (dD)]) (d := (some 64)) (pre := []) (R := [.abs R, .blk b4 [.string l.path, .int .i64 (l.kind), .int .i64 (l.mode), .int .i64 (l.uid), .int .i64 (l.gid), .int .i64 (l.sec), .int .i64 (l.nano), .slice dA (l.data.length) (dC), .string l.target, .string l.peer] 51, .blk b5 [.string m.path, .int .i64 (m.kind), .int .i64 (m.mode), .int .i64 (m.uid), .int .i64 (m.gid), .int .i64 (m.sec), .int .i64 (m.nano), .slice dB (m.data.length) (dD), .string m.target, .string m.peer] 51]) (pk := [0, 1, 2]) (fun _ => by kernel_rfl) (sp_sameBytes dA dB dC dD l.data m.data hD hD2 hl1) rfl (by kernel_rfl) ?_
                  rintro _ _ ⟨rfl, rfl⟩
                  refine TriL.segK (k' := 62) (fr' := [(4, .bool (decide (l.data = m.data)))]) (obl := []) [o_, o_] [4] (fun _ _ => by kernel_rfl) trivial ?_
                  refine TriL.nil (by kernel_rfl) ?_
                  refine TriQ.next ?_
                  refine Tri.ret ?_
                  exact TriQ.ret (v := .bool (decide (l.data = m.data))) (l := []) (obl := []) [] [0] (fun _ => by kernel_rfl) trivial rfl (by kernel_rfl) (⟨congrArg Value.bool (decide_eq_decide.2 ⟨fun e => lineEq (by assumption) (by assumption) (by assumption) (by assumption) (by assumption) (by assumption) (by assumption) (by assumption) e, fun e => by cases e; rfl⟩), rfl⟩)
                · refine TriL.segK (k' := 62) (fr' := [(4, .bool false)]) (obl := []) [o_, o_, o_, o_, o_, o_, o_] [4] (fun _ _ => by kernel_rfl) trivial ?_
                  refine TriL.nil (by kernel_rfl) ?_
                  refine TriQ.next ?_
                  refine Tri.ret ?_
                  exact TriQ.ret (v := .bool false) (l := []) (obl := []) [] [0] (fun _ => by kernel_rfl) trivial rfl (by kernel_rfl) (⟨by rw [decide_eq_false (fun e => h59 (by cases e; first | rfl | exact ⟨rfl, rfl⟩))], rfl⟩)
              · refine TriL.segK (k' := 62) (fr' := [(4, .bool false)]) (obl := []) [o_, o_, o_, o_, o_, o_, o_, o_, o_, o_, o_, o_, o_, o_] [4] (fun _ _ => by kernel_rfl) trivial ?_
                refine TriL.nil (by kernel_rfl) ?_
                refine TriQ.next ?_
                refine Tri.ret ?_
                exact TriQ.ret (v := .bool false) (l := []) (obl := []) [] [0] (fun _ => by kernel_rfl) trivial rfl (by kernel_rfl) (⟨by rw [decide_eq_false (fun e => h52 (by cases e; first | rfl | exact ⟨rfl, rfl⟩))], rfl⟩)
            · refine TriL.segK (k' := 62) (fr' := [(4, .bool false)]) (obl := []) [o_, o_, o_, o_, o_, o_, o_, o_, o_, o_, o_, o_, o_, o_, o_, o_, o_, o_, o_, o_, o_] [4] (fun _ _ => by kernel_rfl) trivial ?_
              refine TriL.nil (by kernel_rfl) ?_
              refine TriQ.next ?_
              refine Tri.ret ?_
              exact TriQ.ret (v := .bool false) (l := []) (obl := []) [] [0] (fun _ => by kernel_rfl) trivial rfl (by kernel_rfl) (⟨by rw [decide_eq_false (fun e => h45 (by cases e; first | rfl | exact ⟨rfl, rfl⟩))], rfl⟩)
          · refine TriL.segK (k' := 62) (fr' := [(4, .bool false)]) (obl := []) [o_, o_, o_, o_, o_, o_, o_, o_, o_, o_, o_, o_, o_, o_, o_, o_, o_, o_, o_, o_, o_, o_, o_, o_, o_, o_, o_, o_] [4] (fun _ _ => by kernel_rfl) trivial ?_
            refine TriL.nil (by kernel_rfl) ?_
            refine TriQ.next ?_
            refine Tri.ret ?_
            exact TriQ.ret (v := .bool false) (l := []) (obl := []) [] [0] (fun _ => by kernel_rfl) trivial rfl (by kernel_rfl) (⟨by rw [decide_eq_false (fun e => h38 (by cases e; first | rfl | exact ⟨rfl, rfl⟩))], rfl⟩)
        · refine TriL.segK (k' := 62) (fr' := [(4, .bool false)]) (obl := []) [o_, o_, o_, o_, o_, o_, o_, o_, o_, o_, o_, o_, o_, o_, o_, o_, o_, o_, o_, o_, o_, o_, o_, o_, o_, o_, o_, o_, o_, o_, o_, o_, o_, o_, o_] [4] (fun _ _ => by kernel_rfl) trivial ?_
          refine TriL.nil (by kernel_rfl) ?_
          refine TriQ.next ?_
          refine Tri.ret ?_
          exact TriQ.ret (v := .bool false) (l := []) (obl := []) [] [0] (fun _ => by kernel_rfl) trivial rfl (by kernel_rfl) (⟨by rw [decide_eq_false (fun e => h31 (by cases e; first | rfl | exact ⟨rfl, rfl⟩))], rfl⟩)
      · refine TriL.segK (k' := 62) (fr' := [(4, .bool false)]) (obl := []) [o_, o_, o_, o_, o_, o_, o_, o_, o_, o_, o_, o_, o_, o_, o_, o_, o_, o_, o_, o_, o_, o_, o_, o_, o_, o_, o_, o_, o_, o_, o_, o_, o_, o_, o_, o_, o_, o_, o_, o_, o_, o_] [4] (fun _ _ => by kernel_rfl) trivial ?_
        refine TriL.nil (by kernel_rfl) ?_
        refine TriQ.next ?_
        refine Tri.ret ?_
        exact TriQ.ret (v := .bool false) (l := []) (obl := []) [] [0] (fun _ => by kernel_rfl) trivial rfl (by kernel_rfl) (⟨by rw [decide_eq_false (fun e => h24 (by cases e; first | rfl | exact ⟨rfl, rfl⟩))], rfl⟩)
    · refine TriL.segK (k' := 62) (fr' := [(4, .bool false)]) (obl := []) [o_, o_, o_, o_, o_, o_, o_, o_, o_, o_, o_, o_, o_, o_, o_, o_, o_, o_, o_, o_, o_, o_, o_, o_, o_, o_, o_, o_, o_, o_, o_, o_, o_, o_, o_, o_, o_, o_, o_, o_, o_, o_, o_, o_, o_, o_, o_, o_, o_] [4] (fun _ _ => by kernel_rfl) trivial ?_
      refine TriL.nil (by kernel_rfl) ?_
      refine TriQ.next ?_
      refine Tri.ret ?_
      exact TriQ.ret (v := .bool false) (l := []) (obl := []) [] [0] (fun _ => by kernel_rfl) trivial rfl (by kernel_rfl) (⟨by rw [decide_eq_false (fun e => h17 (by cases e; first | rfl | exact ⟨rfl, rfl⟩))], rfl⟩)
  · refine TriL.segK (k' := 62) (fr' := [(4, .bool false)]) (obl := []) [o_, o_, o_, o_, o_, o_, o_, o_, o_, o_, o_, o_, o_, o_, o_, o_, o_, o_, o_, o_, o_, o_, o_, o_, o_, o_, o_, o_, o_, o_, o_, o_, o_, o_, o_, o_, o_, o_, o_, o_, o_, o_, o_, o_, o_, o_, o_, o_, o_, o_, o_, o_, o_, o_, o_, o_] [4] (fun _ _ => by kernel_rfl) trivial ?_
    refine TriL.nil (by kernel_rfl) ?_
    refine TriQ.next ?_
    refine Tri.ret ?_
    exact TriQ.ret (v := .bool false) (l := []) (obl := []) [] [0] (fun _ => by kernel_rfl) trivial rfl (by kernel_rfl) (⟨by rw [decide_eq_false (fun e => h10 (by cases e; first | rfl | exact ⟨rfl, rfl⟩))], rfl⟩)
set_option maxRecDepth 100000 in
set_option maxHeartbeats 4000000 in
theorem sp_sameLines {β : Bs} (A B : Option Addr) (c c' : Nat) (ls ms : List LineM) (M K : LayL) (hG : LinesAt β A ls M) (hH : LinesAt β B ms K) (hl : ls.length ≤ 16777216) (hd : ∀ i, i < ls.length → (ln ls i).data.length ≤ 1048576) :
    Spec Try.prog β 28 #[.slice A ls.length c, .slice B ms.length c'] [] (fun v l => v = .bool (decide (ls = ms)) ∧ l = []) := by
  refine Spec.enter Try.func28 rfl Try.ntmps28 (Nat.le_of_ble_eq_true rfl) (fun R => ?_)
  refine Tri.seq ?_
  refine Tri.region ?_
  refine TriL.segK (k' := 1) (fr' := [(0, .slice A (ls.length) (c)), (1, .slice B (ms.length) (c'))]) (obl := []) [o_] [0, 1] (fun _ _ => by kernel_rfl) trivial ?_
  refine TriL.nil (by kernel_rfl) ?_
  refine TriQ.next ?_
  refine Tri.seq ?_
  refine Tri.seq ?_
  refine Tri.region ?_
  refine TriL.segK (k' := 5) (fr' := [(0, .slice A (ls.length) (c)), (1, .slice B (ms.length) (c')), (10, .bool (!(decide ((((ls.length : Nat) : Int) : Int) = (((ms.length : Nat) : Int) : Int)))))]) (obl := []) [o_, o_, o_, o_, o_] [0, 1, 10] (fun _ _ => by kernel_rfl) trivial ?_
  refine TriL.nil (by kernel_rfl) ?_
  refine TriQ.next ?_
  refine Tri.condN (p := (((ls.length : Nat) : Int) : Int) = (((ms.length : Nat) : Int) : Int)) (fun _ => by kernel_rfl) (fun h10 => ?_) (fun h10 => ?_)
  · refine Tri.seq ?_
    refine Tri.region ?_
    refine TriL.segK (k' := 1) (fr' := [(4, .bool false)]) (obl := []) [o_] [4] (fun _ _ => by kernel_rfl) trivial ?_
    refine TriL.nil (by kernel_rfl) ?_
    refine TriQ.next ?_
    refine Tri.ret ?_
    refine TriQ.passRet ?_
    exact TriQ.ret (v := .bool false) (l := []) (obl := []) [] [0] (fun _ => by kernel_rfl) trivial rfl (by kernel_rfl) (⟨by rw [decide_eq_false (fun e => h10 (by rw [e]))], rfl⟩)
  · refine Tri.skip ?_
    refine TriQ.next ?_
    refine Tri.seq ?_
    refine Tri.seq ?_
    refine Tri.region ?_
    refine TriL.segK (k' := 1) (fr' := [(0, .slice A (ls.length) (c)), (1, .slice B (ms.length) (c')), (5, .int .i64 0)]) (obl := []) [o_] [0, 1, 5] (fun _ _ => by kernel_rfl) trivial ?_
    refine TriL.nil (by kernel_rfl) ?_
    refine TriQ.next ?_
    refine Tri.block ?_
    refine Tri.loop (ι := Nat) (fun (i : Nat) => (i ≤ ls.length) ∧ (∀ j, j < i → ls.getD j default = ms.getD j default)) (fun (i : Nat) => ls.length - i) (fun (i : Nat) => [(0, .slice A (ls.length) (c)), (1, .slice B (ms.length) (c')), (5, .int .i64 (((i : Nat) : Int)))]) (fun (i : Nat) => [.abs R]) 0 (idx := [0, 1, 5]) (pk := [0]) (show (0 ≤ ls.length) ∧ (∀ j, j < 0 → ls.getD j default = ms.getD j default) from ⟨Nat.zero_le _, fun j hj => absurd hj (Nat.not_lt_zero j)⟩) (fun _ => by kernel_rfl) rfl (by kernel_rfl) ?_
    rintro i ⟨hi, hall⟩
    show Tri _ _ _ _ [(0, .slice A (ls.length) (c)), (1, .slice B (ms.length) (c')), (5, .int .i64 (((i : Nat) : Int)))] [.abs R] _
    refine Tri.seq ?_
    refine Tri.seq ?_
    refine Tri.region ?_
    refine TriL.segK (k' := 4) (fr' := [(0, .slice A (ls.length) (c)), (1, .slice B (ms.length) (c')), (5, .int .i64 (((i : Nat) : Int))), (14, .bool (decide ((((i : Nat) : Int) : Int) < (((ls.length : Nat) : Int) : Int))))]) (obl := []) [o_, o_, o_, o_] [0, 1, 5, 14] (fun _ _ => by kernel_rfl) trivial ?_
    refine TriL.nil (by kernel_rfl) ?_
    refine TriQ.next ?_
    refine Tri.condP (p := (((i : Nat) : Int) : Int) < (((ls.length : Nat) : Int) : Int)) (fun _ => by kernel_rfl) (fun h14 => ?_) (fun h14 => ?_)
    · refine Tri.skip ?_
      refine TriQ.next ?_
      refine Tri.seq ?_
      refine Tri.block ?_
      refine Tri.seq ?_
      refine Tri.regionQ (by kernel_rfl) (by kernel_rfl) ?_
      refine TriLQ.seg (k' := 8) (fr' := [(0, .slice A (ls.length) (c)), (1, .slice B (ms.length) (c')), (5, .int .i64 (((i : Nat) : Int))), (20, .agg #[.string (ln ls i).path, .int .i64 ((ln ls i).kind), .int .i64 ((ln ls i).mode), .int .i64 ((ln ls i).uid), .int .i64 ((ln ls i).gid), .int .i64 ((ln ls i).sec), .int .i64 ((ln ls i).nano), .slice (M.dA i) ((ln ls i).data.length) ((M.dC i)), .string (ln ls i).target, .string (ln ls i).peer]), (24, .agg #[.string (ln ms i).path, .int .i64 ((ln ms i).kind), .int .i64 ((ln ms i).mode), .int .i64 ((ln ms i).uid), .int .i64 ((ln ms i).gid), .int .i64 ((ln ms i).sec), .int .i64 ((ln ms i).nano), .slice (K.dA i) ((ln ms i).data.length) ((K.dC i)), .string (ln ms i).target, .string (ln ms i).peer])]) (obl := [(Rd β ⟨(blkOf B), offOf B + i * 10 + 9, none⟩ (.string (ln ms i).peer)), (Rd β ⟨(blkOf B), offOf B + i * 10 + 8, none⟩ (.string (ln ms i).target)), (Rd β ⟨(blkOf B), offOf B + i * 10 + 7, none⟩ (.slice (K.dA i) ((ln ms i).data.length) ((K.dC i)))), (Rd β ⟨(blkOf B), offOf B + i * 10 + 6, none⟩ (.int .i64 ((ln ms i).nano))), (Rd β ⟨(blkOf B), offOf B + i * 10 + 5, none⟩ (.int .i64 ((ln ms i).sec))), (Rd β ⟨(blkOf B), offOf B + i * 10 + 4, none⟩ (.int .i64 ((ln ms i).gid))), (Rd β ⟨(blkOf B), offOf B + i * 10 + 3, none⟩ (.int .i64 ((ln ms i).uid))), (Rd β ⟨(blkOf B), offOf B + i * 10 + 2, none⟩ (.int .i64 ((ln ms i).mode))), (Rd β ⟨(blkOf B), offOf B + i * 10 + 1, none⟩ (.int .i64 ((ln ms i).kind))), (Rd β ⟨(blkOf B), offOf B + i * 10, none⟩ (.string (ln ms i).path)), ((i : Nat) : Int) = ((i : Nat) : Int), i < ms.length, (⟨(blkOf B), offOf B, none⟩ : Addr).spot = none, (B : Option Addr) = some ⟨(blkOf B), offOf B, none⟩, (Rd β ⟨(blkOf A), offOf A + i * 10 + 9, none⟩ (.string (ln ls i).peer)), (Rd β ⟨(blkOf A), offOf A + i * 10 + 8, none⟩ (.string (ln ls i).target)), (Rd β ⟨(blkOf A), offOf A + i * 10 + 7, none⟩ (.slice (M.dA i) ((ln ls i).data.length) ((M.dC i)))), (Rd β ⟨(blkOf A), offOf A + i * 10 + 6, none⟩ (.int .i64 ((ln ls i).nano))), (Rd β ⟨(blkOf A), offOf A + i * 10 + 5, none⟩ (.int .i64 ((ln ls i).sec))), (Rd β ⟨(blkOf A), offOf A + i * 10 + 4, none⟩ (.int .i64 ((ln ls i).gid))), (Rd β ⟨(blkOf A), offOf A + i * 10 + 3, none⟩ (.int .i64 ((ln ls i).uid))), (Rd β ⟨(blkOf A), offOf A + i * 10 + 2, none⟩ (.int .i64 ((ln ls i).mode))), (Rd β ⟨(blkOf A), offOf A + i * 10 + 1, none⟩ (.int .i64 ((ln ls i).kind))), (Rd β ⟨(blkOf A), offOf A + i * 10, none⟩ (.string (ln ls i).path)), ((i : Nat) : Int) = ((i : Nat) : Int), i < ls.length, (⟨(blkOf A), offOf A, none⟩ : Addr).spot = none, (A : Option Addr) = some ⟨(blkOf A), offOf A, none⟩]) [o_, o_, ⟨[], some i, none, some ⟨(blkOf A), offOf A, none⟩, none⟩, ⟨[.old (.string (ln ls i).path), .old (.int .i64 ((ln ls i).kind)), .old (.int .i64 ((ln ls i).mode)), .old (.int .i64 ((ln ls i).uid)), .old (.int .i64 ((ln ls i).gid)), .old (.int .i64 ((ln ls i).sec)), .old (.int .i64 ((ln ls i).nano)), .old (.slice (M.dA i) ((ln ls i).data.length) ((M.dC i))), .old (.string (ln ls i).target), .old (.string (ln ls i).peer)], none, none, none, none⟩, o_, o_, ⟨[], some i, none, some ⟨(blkOf B), offOf B, none⟩, none⟩, ⟨[.old (.string (ln ms i).path), .old (.int .i64 ((ln ms i).kind)), .old (.int .i64 ((ln ms i).mode)), .old (.int .i64 ((ln ms i).uid)), .old (.int .i64 ((ln ms i).gid)), .old (.int .i64 ((ln ms i).sec)), .old (.int .i64 ((ln ms i).nano)), .old (.slice (K.dA i) ((ln ms i).data.length) ((K.dC i))), .old (.string (ln ms i).target), .old (.string (ln ms i).peer)], none, none, none, none⟩] [0, 1, 5, 20, 24] (fun _ _ => by kernel_rfl) ⟨LinesAt.rd hH (i := i) (by omega) (j := 9) rfl, LinesAt.rd hH (i := i) (by omega) (j := 8) rfl, LinesAt.rd hH (i := i) (by omega) (j := 7) rfl, LinesAt.rd hH (i := i) (by omega) (j := 6) rfl, LinesAt.rd hH (i := i) (by omega) (j := 5) rfl, LinesAt.rd hH (i := i) (by omega) (j := 4) rfl, LinesAt.rd hH (i := i) (by omega) (j := 3) rfl, LinesAt.rd hH (i := i) (by omega) (j := 2) rfl, LinesAt.rd hH (i := i) (by omega) (j := 1) rfl, LinesAt.rd hH (i := i) (by omega) (j := 0) rfl, rfl, by omega, rfl, LinesAt.hd hH (i := i) (by omega), LinesAt.rd hG (i := i) (by omega) (j := 9) rfl, LinesAt.rd hG (i := i) (by omega) (j := 8) rfl, LinesAt.rd hG (i := i) (by omega) (j := 7) rfl, LinesAt.rd hG (i := i) (by omega) (j := 6) rfl, LinesAt.rd hG (i := i) (by omega) (j := 5) rfl, LinesAt.rd hG (i := i) (by omega) (j := 4) rfl, LinesAt.rd hG (i := i) (by omega) (j := 3) rfl, LinesAt.rd hG (i := i) (by omega) (j := 2) rfl, LinesAt.rd hG (i := i) (by omega) (j := 1) rfl, LinesAt.rd hG (i := i) (by omega) (j := 0) rfl, rfl, by omega, rfl, LinesAt.hd hG (i := i) (by omega), trivial⟩ ?_
      refine TriLQ.call (f := 49) (args := #[.agg #[.string (ln ls i).path, .int .i64 ((ln ls i).kind), .int .i64 ((ln ls i).mode), .int .i64 ((ln ls i).uid), .int .i64 ((ln ls i).gid), .int .i64 ((ln ls i).sec), .int .i64 ((ln ls i).nano), .slice (M.dA i) ((ln ls i).data.length) ((M.dC i)), .string (ln ls i).target, .string (ln ls i).peer], .agg #[.string (ln ms i).path, .int .i64 ((ln ms i).kind), .int .i64 ((ln ms i).mode), .int .i64 ((ln ms i).uid), .int .i64 ((ln ms i).gid), .int .i64 ((ln ms i).sec), .int .i64 ((ln ms i).nano), .slice (K.dA i) ((ln ms i).data.length) ((K.dC i)), .string (ln ms i).target, .string (ln ms i).peer]]) (d := (some 25)) (pre := []) (R := [.abs R]) (pk := [0]) (pk' := [0]) (v0 := .bool (decide (ln ls i = ln ms i))) (fun _ => by kernel_rfl) (sp_sameLine (ln ls i) (ln ms i) (M.dA i) (K.dA i) (M.dC i) (K.dC i) (hG.data i (by omega)) (hH.data i (by omega)) (hd i (by omega))) rfl (by kernel_rfl) rfl (by kernel_rfl) (fun _ _ h => h) ?_
      refine TriLQ.seg (k' := 10) (fr' := [(0, .slice A (ls.length) (c)), (1, .slice B (ms.length) (c')), (5, .int .i64 (((i : Nat) : Int))), (26, .bool (!(decide (ln ls i = ln ms i))))]) (obl := []) [o_] [0, 1, 5, 26] (fun _ _ => by kernel_rfl) trivial ?_
      refine TriLQ.nil (by kernel_rfl) ?_
      refine TriQ.next ?_
      refine Tri.condN (p := ln ls i = ln ms i) (fun _ => by kernel_rfl) (fun h26 => ?_) (fun h26 => ?_)
      · refine Tri.seq ?_
        refine Tri.region ?_
        refine TriL.segK (k' := 1) (fr' := [(4, .bool false)]) (obl := []) [o_] [4] (fun _ _ => by kernel_rfl) trivial ?_
        refine TriL.nil (by kernel_rfl) ?_
        refine TriQ.next ?_
        refine Tri.ret ?_
        refine TriQ.blockRet ?_
        refine TriQ.passRet ?_
        refine TriQ.passRet ?_
        refine TriQ.blockRet ?_
        refine TriQ.passRet ?_
        exact TriQ.ret (v := .bool false) (l := []) (obl := []) [] [0] (fun _ => by kernel_rfl) trivial rfl (by kernel_rfl) (⟨by rw [decide_eq_false (fun e => h26 (by rw [e]))], rfl⟩)
      · refine Tri.skip ?_
        refine TriQ.blockNormal ?_
        refine TriQ.next ?_
        refine Tri.region ?_
        refine TriL.segK (k' := 3) (fr' := [(0, .slice A (ls.length) (c)), (1, .slice B (ms.length) (c')), (5, .int .i64 (((i + 1 : Nat) : Int)))]) (obl := [(Value.int .i64 (IntKind.wrap .i64 (((i : Nat) : Int) + 1))) = (.int .i64 (((i + 1 : Nat) : Int)))]) [o_, ⟨[], none, none, none, some (.int .i64 (((i + 1 : Nat) : Int)))⟩, o_] [0, 1, 5] (fun _ _ => by kernel_rfl) ⟨wrapEq (by omega) (by omega) (by omega), trivial⟩ ?_
        refine TriL.nil (by kernel_rfl) ?_
        exact TriQ.turn ((i + 1)) (idx := [0, 1, 5]) (pk := [0]) (show (((i + 1)) ≤ ls.length) ∧ (∀ j, j < ((i + 1)) → ls.getD j default = ms.getD j default) from ⟨by omega, fun j hj => by rcases Nat.lt_succ_iff_lt_or_eq.1 hj with h | h; exact hall j h; subst h; exact h26⟩) (by show ls.length - ((i + 1)) < ls.length - i; omega) (fun _ => by kernel_rfl) rfl (by kernel_rfl)
    · refine Tri.exit ?_
      refine TriQ.passExit ?_
      refine TriQ.passExit ?_
      refine TriQ.blockHit ?_
      refine TriQ.next ?_
      refine Tri.seq ?_
      refine Tri.region ?_
      refine TriL.segK (k' := 1) (fr' := [(4, .bool true)]) (obl := []) [o_] [4] (fun _ _ => by kernel_rfl) trivial ?_
      refine TriL.nil (by kernel_rfl) ?_
      refine TriQ.next ?_
      refine Tri.ret ?_
      exact TriQ.ret (v := .bool true) (l := []) (obl := []) [] [0] (fun _ => by kernel_rfl) trivial rfl (by kernel_rfl) (⟨by rw [decide_eq_true (ext_getD (x := default) (by omega) (fun j hj => hall j (by omega)))], rfl⟩)
end Go.Proofs.Ytjpdcppdoonmdaa
