/-
  PROVED HERE: copies and comparisons of bytes, nodes, graphs
  CONDITIONS: as the theorems say. Printed by a program of this repo (wip/v).
-/
import Derived.Test.YtjpdcppdoonmdaaGT
namespace Go.Proofs.Ytjpdcppdoonmdaa
open Go.RowKit
attribute [local irreducible] TriL TriLQ Tri TriQ
set_option maxRecDepth 100000 in
set_option maxHeartbeats 4000000 in
theorem sp_sameBytes {β : Bs} (A1 A2 : Option Addr) (c1 c2 : Nat) (d1 d2 : List UInt8) (hA1 : BytesAt β A1 d1) (hA2 : BytesAt β A2 d2) (hl : d1.length ≤ 1048576) :
    Spec Try.prog β 62 #[.slice A1 d1.length c1, .slice A2 d2.length c2] [] (fun v l => v = .bool (decide (d1 = d2)) ∧ l = []) := by
  refine Spec.enter Try.func62 rfl Try.ntmps62 (Nat.le_of_ble_eq_true rfl) (fun R => ?_)
  refine Tri.seq ?_
  refine Tri.region ?_
  refine TriL.segK (k' := 1) (fr' := [(0, .slice A1 (d1.length) (c1)), (1, .slice A2 (d2.length) (c2))]) (obl := []) [o_] [0, 1] (fun _ _ => by kernel_rfl) trivial ?_
  refine TriL.nil (by kernel_rfl) ?_
  refine TriQ.next ?_
  refine Tri.seq ?_
  refine Tri.seq ?_
  refine Tri.region ?_
  refine TriL.segK (k' := 5) (fr' := [(0, .slice A1 (d1.length) (c1)), (1, .slice A2 (d2.length) (c2)), (10, .bool (!(decide ((((d1.length : Nat) : Int) : Int) = (((d2.length : Nat) : Int) : Int)))))]) (obl := []) [o_, o_, o_, o_, o_] [0, 1, 10] (fun _ _ => by kernel_rfl) trivial ?_
  refine TriL.nil (by kernel_rfl) ?_
  refine TriQ.next ?_
  refine Tri.condN (p := (((d1.length : Nat) : Int) : Int) = (((d2.length : Nat) : Int) : Int)) (fun _ => by kernel_rfl) (fun h10 => ?_) (fun h10 => ?_)
  · refine Tri.seq ?_
    refine Tri.region ?_
    refine TriL.segK (k' := 1) (fr' := [(4, .bool false)]) (obl := []) [o_] [4] (fun _ _ => by kernel_rfl) trivial ?_
    refine TriL.nil (by kernel_rfl) ?_
    refine TriQ.next ?_
    refine Tri.ret ?_
    refine TriQ.passRet ?_
    exact TriQ.ret (v := .bool false) (l := []) (obl := []) [] [0] (fun _ => by kernel_rfl) trivial rfl (by kernel_rfl) (⟨by rw [decide_eq_false (fun e => h10 (by rw [e]))], rfl⟩)
  · refine Tri.skip ?_
    refine TriQ.next ?_
    refine Tri.seq ?_
    refine Tri.seq ?_
    refine Tri.region ?_
    refine TriL.segK (k' := 1) (fr' := [(0, .slice A1 (d1.length) (c1)), (1, .slice A2 (d2.length) (c2)), (5, .int .i64 0)]) (obl := []) [o_] [0, 1, 5] (fun _ _ => by kernel_rfl) trivial ?_
    refine TriL.nil (by kernel_rfl) ?_
    refine TriQ.next ?_
    refine Tri.block ?_
    refine Tri.loop (ι := Nat) (fun (i : Nat) => (i ≤ d1.length) ∧ (∀ j, j < i → d1.getD j 0 = d2.getD j 0)) (fun (i : Nat) => d1.length - i) (fun (i : Nat) => [(0, .slice A1 (d1.length) (c1)), (1, .slice A2 (d2.length) (c2)), (5, .int .i64 (((i : Nat) : Int)))]) (fun (i : Nat) => [.abs R]) 0 (idx := [0, 1, 5]) (pk := [0]) (show (0 ≤ d1.length) ∧ (∀ j, j < 0 → d1.getD j 0 = d2.getD j 0) from ⟨Nat.zero_le _, fun j hj => absurd hj (Nat.not_lt_zero j)⟩) (fun _ => by kernel_rfl) rfl (by kernel_rfl) ?_
    rintro i ⟨hi, hall⟩
    show Tri _ _ _ _ [(0, .slice A1 (d1.length) (c1)), (1, .slice A2 (d2.length) (c2)), (5, .int .i64 (((i : Nat) : Int)))] [.abs R] _
    refine Tri.seq ?_
    refine Tri.seq ?_
    refine Tri.region ?_
    refine TriL.segK (k' := 4) (fr' := [(0, .slice A1 (d1.length) (c1)), (1, .slice A2 (d2.length) (c2)), (5, .int .i64 (((i : Nat) : Int))), (14, .bool (decide ((((i : Nat) : Int) : Int) < (((d1.length : Nat) : Int) : Int))))]) (obl := []) [o_, o_, o_, o_] [0, 1, 5, 14] (fun _ _ => by kernel_rfl) trivial ?_
    refine TriL.nil (by kernel_rfl) ?_
    refine TriQ.next ?_
    refine Tri.condP (p := (((i : Nat) : Int) : Int) < (((d1.length : Nat) : Int) : Int)) (fun _ => by kernel_rfl) (fun h14 => ?_) (fun h14 => ?_)
    · refine Tri.skip ?_
      refine TriQ.next ?_
      refine Tri.seq ?_
      refine Tri.block ?_
      refine Tri.seq ?_
      refine Tri.regionQ (by kernel_rfl) (by kernel_rfl) ?_
      refine TriLQ.seg (k' := 9) (fr' := [(0, .slice A1 (d1.length) (c1)), (1, .slice A2 (d2.length) (c2)), (5, .int .i64 (((i : Nat) : Int))), (25, .bool (!(decide (((((List.getD d1 i 0).toNat : Nat) : Int) : Int) = ((((List.getD d2 i 0).toNat : Nat) : Int) : Int)))))]) (obl := [(Rd β ⟨(blkOf A2), offOf A2 + i * 1, none⟩ (.int .u8 ((((List.getD d2 i 0).toNat : Nat) : Int)))), ((i : Nat) : Int) = ((i : Nat) : Int), i < d2.length, (⟨(blkOf A2), offOf A2, none⟩ : Addr).spot = none, (A2 : Option Addr) = some ⟨(blkOf A2), offOf A2, none⟩, (Rd β ⟨(blkOf A1), offOf A1 + i * 1, none⟩ (.int .u8 ((((List.getD d1 i 0).toNat : Nat) : Int)))), ((i : Nat) : Int) = ((i : Nat) : Int), i < d1.length, (⟨(blkOf A1), offOf A1, none⟩ : Addr).spot = none, (A1 : Option Addr) = some ⟨(blkOf A1), offOf A1, none⟩]) [o_, o_, ⟨[], some i, none, some ⟨(blkOf A1), offOf A1, none⟩, none⟩, ⟨[.old (.int .u8 ((((List.getD d1 i 0).toNat : Nat) : Int)))], none, none, none, none⟩, o_, o_, ⟨[], some i, none, some ⟨(blkOf A2), offOf A2, none⟩, none⟩, ⟨[.old (.int .u8 ((((List.getD d2 i 0).toNat : Nat) : Int)))], none, none, none, none⟩, o_] [0, 1, 5, 25] (fun _ _ => by kernel_rfl) ⟨BytesAt.rd hA2 (by omega), rfl, by omega, rfl, BytesAt.hd hA2 (j := i) (by omega), BytesAt.rd hA1 (by omega), rfl, by omega, rfl, BytesAt.hd hA1 (j := i) (by omega), trivial⟩ ?_
      refine TriLQ.nil (by kernel_rfl) ?_
      refine TriQ.next ?_
      refine Tri.condN (p := ((((List.getD d1 i 0).toNat : Nat) : Int) : Int) = ((((List.getD d2 i 0).toNat : Nat) : Int) : Int)) (fun _ => by kernel_rfl) (fun h25 => ?_) (fun h25 => ?_)
      · refine Tri.seq ?_
        refine Tri.region ?_
        refine TriL.segK (k' := 1) (fr' := [(4, .bool false)]) (obl := []) [o_] [4] (fun _ _ => by kernel_rfl) trivial ?_
        refine TriL.nil (by kernel_rfl) ?_
        refine TriQ.next ?_
        refine Tri.ret ?_
        refine TriQ.blockRet ?_
        refine TriQ.passRet ?_
        refine TriQ.passRet ?_
        refine TriQ.blockRet ?_
        refine TriQ.passRet ?_
        exact TriQ.ret (v := .bool false) (l := []) (obl := []) [] [0] (fun _ => by kernel_rfl) trivial rfl (by kernel_rfl) (⟨by rw [decide_eq_false (fun e => h25 (by rw [e]))], rfl⟩)
      · refine Tri.skip ?_
        refine TriQ.blockNormal ?_
        refine TriQ.next ?_
        refine Tri.region ?_
        refine TriL.segK (k' := 3) (fr' := [(0, .slice A1 (d1.length) (c1)), (1, .slice A2 (d2.length) (c2)), (5, .int .i64 (((i + 1 : Nat) : Int)))]) (obl := [(Value.int .i64 (IntKind.wrap .i64 (((i : Nat) : Int) + 1))) = (.int .i64 (((i + 1 : Nat) : Int)))]) [o_, ⟨[], none, none, none, some (.int .i64 (((i + 1 : Nat) : Int)))⟩, o_] [0, 1, 5] (fun _ _ => by kernel_rfl) ⟨wrapEq (by omega) (by omega) (by omega), trivial⟩ ?_
        refine TriL.nil (by kernel_rfl) ?_
        exact TriQ.turn ((i + 1)) (idx := [0, 1, 5]) (pk := [0]) (show (((i + 1)) ≤ d1.length) ∧ (∀ j, j < ((i + 1)) → d1.getD j 0 = d2.getD j 0) from ⟨by omega, fun j hj => by rcases Nat.lt_succ_iff_lt_or_eq.1 hj with h | h; exact hall j h; subst h; exact byte_eq h25⟩) (by show d1.length - ((i + 1)) < d1.length - i; omega) (fun _ => by kernel_rfl) rfl (by kernel_rfl)
    · refine Tri.exit ?_
      refine TriQ.passExit ?_
      refine TriQ.passExit ?_
      refine TriQ.blockHit ?_
      refine TriQ.next ?_
      refine Tri.seq ?_
      refine Tri.region ?_
      refine TriL.segK (k' := 1) (fr' := [(4, .bool true)]) (obl := []) [o_] [4] (fun _ _ => by kernel_rfl) trivial ?_
      refine TriL.nil (by kernel_rfl) ?_
      refine TriQ.next ?_
      refine Tri.ret ?_
      exact TriQ.ret (v := .bool true) (l := []) (obl := []) [] [0] (fun _ => by kernel_rfl) trivial rfl (by kernel_rfl) (⟨by rw [decide_eq_true (ext_getD (x := 0) (by omega) (fun j hj => hall j (by omega)))], rfl⟩)
set_option maxRecDepth 100000 in
set_option maxHeartbeats 4000000 in
theorem sp_copyBytes {β : Bs} (A : Option Addr) (c : Nat) (d : List UInt8) (hA : BytesAt β A d) (hl : d.length ≤ 1048576) :
    SpecB Try.prog β 48 #[.slice A d.length c] [] (fun β' v l => ∃ B cap, v = .slice B d.length cap ∧ l = [] ∧ BytesAt β' B d) := by
  refine SpecB.enter Try.func48 rfl Try.ntmps48 (Nat.le_of_ble_eq_true rfl) (fun hle0 R => ?_)
  refine Tri.seq ?_
  refine Tri.region ?_
  refine TriL.segK (k' := 1) (fr' := [(0, .slice A (d.length) (c))]) (obl := []) [o_] [0] (fun _ _ => by kernel_rfl) trivial ?_
  refine TriL.nil (by kernel_rfl) ?_
  refine TriQ.next ?_
  refine Tri.seq ?_
  refine Tri.region ?_
  refine TriL.segN (k' := 2) (fr' := fun b1 => [(0, .slice A (d.length) (c)), (3, .slice (some ⟨b1, 0, none⟩) (0) (0))]) (hps' := fun b1 => [.abs R, .blk b1 [] 5]) (obl := fun b1 => []) [o_, o_] [0, 3] [0, 1] (fun _ _ => by kernel_rfl) (fun b1 => trivial) (fun b1 => ?_)
  refine TriL.nil (by kernel_rfl) ?_
  refine TriQ.next ?_
  refine Tri.seq ?_
  refine Tri.region ?_
  refine TriL.mem (fun w hS => hS.toRow (i := 1) (b := b1) (cs := []) (e := 5) 1 0 (by kernel_rfl) rfl (by decide)) ?_
  refine TriL.segK (k' := 2) (fr' := [(5, .slice (some ⟨b1, 0, none⟩) (0) (0)), (6, .slice A (d.length) (c))]) (obl := []) [o_, o_] [5, 6] (fun _ _ => by kernel_rfl) trivial ?_
  refine TriL.append 1 (d := (some 7)) (t := 29) (e := 5) (z := .int .u8 0) (size := 1) (bytes := 1) (n := 0) (cap := 0) (A := some ⟨b1, 0, none⟩) (xs := []) (s := (.tmp 5)) (x := (.tmp 6)) (ats := #[29, 29]) (A' := A) (m := d.length) (c' := c) (news := (bytesV d)) (fun _ => by kernel_rfl) rfl (by kernel_rfl) (fun _ => by kernel_rfl) (fun _ => by kernel_rfl) Try.underlying29 (by kernel_rfl) rfl (by decide) (by rw [bytesV_len, Nat.mul_one]) (oneCell_bytes d) (hA.src) (by unfold maxLen; omega) (by omega) (fun A2 c3 => ?_)
  refine TriL.partEq 1 (p := .abs (RowA 5 1 A2 (0 + d.length) c3 ([] ++ (bytesV d)))) (p' := .abs (RowA 5 1 A2 d.length c3 (bytesV d))) (by kernel_rfl) (by rw [Nat.zero_add, List.nil_append]) ?_
  refine TriL.slot 7 (.slice A2 (0 + d.length) (c3)) (.slice A2 (d.length) (c3)) (fun _ => by kernel_rfl) (by rw [Nat.zero_add]) ?_
  refine TriL.segK (k' := 4) (fr' := [(3, .slice A2 (d.length) (c3))]) (obl := []) [o_] [3] (fun _ _ => by kernel_rfl) trivial ?_
  refine TriL.nil (by kernel_rfl) ?_
  refine TriQ.next ?_
  refine Tri.seq ?_
  refine Tri.region ?_
  refine TriL.rebase (Φ := fun β' => BytesAt β' A2 d) 1 [0] (hps' := [.abs R]) rfl rfl (by kernel_rfl) (fun F w h β' h1 h2 => RowB.of_row h h1 h2) (fun β1 hle_β1 hB => ?_)
  replace hA := hA.le hle_β1
  replace hle0 := hle0.trans hle_β1
  refine TriL.segK (k' := 2) (fr' := [(2, .slice A2 (d.length) (c3))]) (obl := []) [o_, o_] [2] (fun _ _ => by kernel_rfl) trivial ?_
  refine TriL.nil (by kernel_rfl) ?_
  refine TriQ.next ?_
  refine Tri.ret ?_
  exact TriQ.retB (v := .slice A2 (d.length) (c3)) (l := []) (obl := []) [] [0] hle0 (fun _ => by kernel_rfl) trivial rfl (by kernel_rfl) (⟨A2, c3, rfl, rfl, hB⟩)
set_option maxRecDepth 100000 in
set_option maxHeartbeats 4000000 in
theorem sp_copyNode {β : Bs} (n : NodeM) (dA eA : Option Addr) (dC eC : Nat) (hD : BytesAt β dA n.data) (hE : EntsAt β eA n.ents) (hl1 : n.data.length ≤ 1048576) (hl2 : n.ents.length ≤ 1048576) :
    SpecB Try.prog β 38 #[.agg #[.int .i64 (n.id), .int .i64 (n.kind), .int .i64 (n.mode), .int .i64 (n.uid), .int .i64 (n.gid), .int .i64 (n.sec), .int .i64 (n.nano), .slice dA (n.data.length) (dC), .string n.target, .slice eA (n.ents.length) (eC)]] [] (fun β' v l => ∃ dB cd eB ce, v = .agg #[.int .i64 (n.id), .int .i64 (n.kind), .int .i64 (n.mode), .int .i64 (n.uid), .int .i64 (n.gid), .int .i64 (n.sec), .int .i64 (n.nano), .slice dB (n.data.length) (cd), .string n.target, .slice eB (n.ents.length) (ce)] ∧ l = [] ∧ BytesAt β' dB n.data ∧ EntsAt β' eB n.ents) := by
  refine SpecB.enter Try.func38 rfl Try.ntmps38 (Nat.le_of_ble_eq_true rfl) (fun hle0 R => ?_)
  refine Tri.seq ?_
  refine Tri.region ?_
  refine TriL.segN (k' := 1) (fr' := fun b4 => [(1, .pointer (some ⟨b4, 0, none⟩))]) (hps' := fun b4 => [.abs R, .blk b4 [.int .i64 (n.id), .int .i64 (n.kind), .int .i64 (n.mode), .int .i64 (n.uid), .int .i64 (n.gid), .int .i64 (n.sec), .int .i64 (n.nano), .slice dA (n.data.length) (dC), .string n.target, .slice eA (n.ents.length) (eC)] 32]) (obl := fun b4 => []) [o_] [1] [0, 1] (fun _ _ => by kernel_rfl) (fun b4 => trivial) (fun b4 => ?_)
  refine TriL.segN (k' := 2) (fr' := fun b5 => [(1, .pointer (some ⟨b4, 0, none⟩)), (2, .pointer (some ⟨b5, 0, none⟩))]) (hps' := fun b5 => [.abs R, .blk b4 [.int .i64 (n.id), .int .i64 (n.kind), .int .i64 (n.mode), .int .i64 (n.uid), .int .i64 (n.gid), .int .i64 (n.sec), .int .i64 (n.nano), .slice dA (n.data.length) (dC), .string n.target, .slice eA (n.ents.length) (eC)] 32, .blk b5 [.int .i64 0, .int .i64 0, .int .i64 0, .int .i64 0, .int .i64 0, .int .i64 0, .int .i64 0, .slice none (0) (0), .string ⟨#[]⟩, .slice none (0) (0)] 32]) (obl := fun b5 => []) [o_] [1, 2] [0, 1, 2] (fun _ _ => by kernel_rfl) (fun b5 => trivial) (fun b5 => ?_)
  refine TriL.nil (by kernel_rfl) ?_
  refine TriQ.next ?_
  refine Tri.seq ?_
  refine Tri.region ?_
  refine TriL.segK (k' := 2) (fr' := [(1, .pointer (some ⟨b4, 0, none⟩)), (2, .pointer (some ⟨b5, 0, none⟩)), (5, .slice dA (n.data.length) (dC))]) (obl := [b4 = b4]) [o_, ⟨[.at 1], none, none, none, none⟩] [1, 2, 5] (fun _ _ => by kernel_rfl) ⟨rfl, trivial⟩ ?_
  refine TriL.callB (f := 48) (args := #[.slice dA (n.data.length) (dC)]) (d := (some 6)) (pre := []) (R := [.abs R, .blk b4 [.int .i64 (n.id), .int .i64 (n.kind), .int .i64 (n.mode), .int .i64 (n.uid), .int .i64 (n.gid), .int .i64 (n.sec), .int .i64 (n.nano), .slice dA (n.data.length) (dC), .string n.target, .slice eA (n.ents.length) (eC)] 32, .blk b5 [.int .i64 0, .int .i64 0, .int .i64 0, .int .i64 0, .int .i64 0, .int .i64 0, .int .i64 0, .slice none (0) (0), .string ⟨#[]⟩, .slice none (0) (0)] 32]) (pk := [0, 1, 2]) (fun _ => by kernel_rfl) (sp_copyBytes dA dC n.data hD hl1) rfl (by kernel_rfl) ?_
  rintro β1 _ _ hle_β1 ⟨B6, c7, rfl, rfl, hD1⟩
  replace hD := hD.le hle_β1
  replace hE := hE.le hle_β1
  replace hle0 := hle0.trans hle_β1
  refine TriL.seg (k' := 5) (fr' := [(1, .pointer (some ⟨b4, 0, none⟩)), (2, .pointer (some ⟨b5, 0, none⟩))]) (hps' := [.abs R, .blk b4 [.int .i64 (n.id), .int .i64 (n.kind), .int .i64 (n.mode), .int .i64 (n.uid), .int .i64 (n.gid), .int .i64 (n.sec), .int .i64 (n.nano), .slice B6 (n.data.length) (c7), .string n.target, .slice eA (n.ents.length) (eC)] 32, .blk b5 [.int .i64 0, .int .i64 0, .int .i64 0, .int .i64 0, .int .i64 0, .int .i64 0, .int .i64 0, .slice none (0) (0), .string ⟨#[]⟩, .slice none (0) (0)] 32]) (obl := [b4 = b4]) [o_, ⟨[.at 1], none, none, none, none⟩] [1, 2] [0, 1, 2] (fun _ _ => by kernel_rfl) ⟨rfl, trivial⟩ ?_
  refine TriL.nil (by kernel_rfl) ?_
  refine TriQ.next ?_
  refine Tri.seq ?_
  refine Tri.region ?_
  refine TriL.segN (k' := 2) (fr' := fun b8 => [(1, .pointer (some ⟨b4, 0, none⟩)), (2, .pointer (some ⟨b5, 0, none⟩)), (3, .slice (some ⟨b8, 0, none⟩) (0) (0))]) (hps' := fun b8 => [.abs R, .blk b4 [.int .i64 (n.id), .int .i64 (n.kind), .int .i64 (n.mode), .int .i64 (n.uid), .int .i64 (n.gid), .int .i64 (n.sec), .int .i64 (n.nano), .slice B6 (n.data.length) (c7), .string n.target, .slice eA (n.ents.length) (eC)] 32, .blk b5 [.int .i64 0, .int .i64 0, .int .i64 0, .int .i64 0, .int .i64 0, .int .i64 0, .int .i64 0, .slice none (0) (0), .string ⟨#[]⟩, .slice none (0) (0)] 32, .blk b8 [] 72]) (obl := fun b8 => []) [o_, o_] [1, 2, 3] [0, 1, 2, 3] (fun _ _ => by kernel_rfl) (fun b8 => trivial) (fun b8 => ?_)
  refine TriL.nil (by kernel_rfl) ?_
  refine TriQ.next ?_
  refine Tri.seq ?_
  refine Tri.region ?_
  refine TriL.mem (fun w hS => hS.toRow (i := 3) (b := b8) (cs := []) (e := 72) 2 0 (by kernel_rfl) rfl (by decide)) ?_
  refine TriL.segK (k' := 3) (fr' := [(1, .pointer (some ⟨b4, 0, none⟩)), (2, .pointer (some ⟨b5, 0, none⟩)), (9, .slice (some ⟨b8, 0, none⟩) (0) (0)), (11, .slice eA (n.ents.length) (eC))]) (obl := [b4 = b4]) [o_, o_, ⟨[.at 1], none, none, none, none⟩] [1, 2, 9, 11] (fun _ _ => by kernel_rfl) ⟨rfl, trivial⟩ ?_
  refine TriL.append 3 (d := (some 12)) (t := 30) (e := 72) (z := .agg #[.string ⟨#[]⟩, .int .i64 0]) (size := 2) (bytes := 24) (n := 0) (cap := 0) (A := some ⟨b8, 0, none⟩) (xs := []) (s := (.tmp 9)) (x := (.tmp 11)) (ats := #[30, 30]) (A' := eA) (m := n.ents.length) (c' := eC) (news := (entsV n.ents)) (fun _ => by kernel_rfl) rfl (by kernel_rfl) (fun _ => by kernel_rfl) (fun _ => by kernel_rfl) Try.underlying30 (by kernel_rfl) rfl (by decide) (by rw [entsV_len]) (oneCell_ents n.ents) (hE.src) (by unfold maxLen; omega) (by omega) (fun A9 c10 => ?_)
  refine TriL.partEq 3 (p := .abs (RowA 72 2 A9 (0 + n.ents.length) c10 ([] ++ (entsV n.ents)))) (p' := .abs (RowA 72 2 A9 n.ents.length c10 (entsV n.ents))) (by kernel_rfl) (by rw [Nat.zero_add, List.nil_append]) ?_
  refine TriL.slot 12 (.slice A9 (0 + n.ents.length) (c10)) (.slice A9 (n.ents.length) (c10)) (fun _ => by kernel_rfl) (by rw [Nat.zero_add]) ?_
  refine TriL.segK (k' := 5) (fr' := [(1, .pointer (some ⟨b4, 0, none⟩)), (2, .pointer (some ⟨b5, 0, none⟩)), (3, .slice A9 (n.ents.length) (c10))]) (obl := []) [o_] [1, 2, 3] (fun _ _ => by kernel_rfl) trivial ?_
  refine TriL.nil (by kernel_rfl) ?_
  refine TriQ.next ?_
  refine Tri.seq ?_
  refine Tri.region ?_
  refine TriL.rebase (Φ := fun β' => EntsAt β' A9 n.ents) 3 [0, 1, 2] (hps' := [.abs R, .blk b4 [.int .i64 (n.id), .int .i64 (n.kind), .int .i64 (n.mode), .int .i64 (n.uid), .int .i64 (n.gid), .int .i64 (n.sec), .int .i64 (n.nano), .slice B6 (n.data.length) (c7), .string n.target, .slice eA (n.ents.length) (eC)] 32, .blk b5 [.int .i64 0, .int .i64 0, .int .i64 0, .int .i64 0, .int .i64 0, .int .i64 0, .int .i64 0, .slice none (0) (0), .string ⟨#[]⟩, .slice none (0) (0)] 32]) rfl rfl (by kernel_rfl) (fun F w h β' h1 h2 => RowB.of_row h h1 h2) (fun β2 hle_β2 hE1 => ?_)
  replace hD := hD.le hle_β2
  replace hE := hE.le hle_β2
  replace hD1 := hD1.le hle_β2
  replace hle0 := hle0.trans hle_β2
  refine TriL.seg (k' := 3) (fr' := [(1, .pointer (some ⟨b4, 0, none⟩)), (2, .pointer (some ⟨b5, 0, none⟩))]) (hps' := [.abs R, .blk b4 [.int .i64 (n.id), .int .i64 (n.kind), .int .i64 (n.mode), .int .i64 (n.uid), .int .i64 (n.gid), .int .i64 (n.sec), .int .i64 (n.nano), .slice B6 (n.data.length) (c7), .string n.target, .slice A9 (n.ents.length) (c10)] 32, .blk b5 [.int .i64 0, .int .i64 0, .int .i64 0, .int .i64 0, .int .i64 0, .int .i64 0, .int .i64 0, .slice none (0) (0), .string ⟨#[]⟩, .slice none (0) (0)] 32]) (obl := [b4 = b4]) [o_, o_, ⟨[.at 1], none, none, none, none⟩] [1, 2] [0, 1, 2] (fun _ _ => by kernel_rfl) ⟨rfl, trivial⟩ ?_
  refine TriL.nil (by kernel_rfl) ?_
  refine TriQ.next ?_
  refine Tri.seq ?_
  refine Tri.region ?_
  refine TriL.seg (k' := 2) (fr' := [(2, .pointer (some ⟨b5, 0, none⟩))]) (hps' := [.abs R, .blk b4 [.int .i64 (n.id), .int .i64 (n.kind), .int .i64 (n.mode), .int .i64 (n.uid), .int .i64 (n.gid), .int .i64 (n.sec), .int .i64 (n.nano), .slice B6 (n.data.length) (c7), .string n.target, .slice A9 (n.ents.length) (c10)] 32, .blk b5 [.int .i64 (n.id), .int .i64 (n.kind), .int .i64 (n.mode), .int .i64 (n.uid), .int .i64 (n.gid), .int .i64 (n.sec), .int .i64 (n.nano), .slice B6 (n.data.length) (c7), .string n.target, .slice A9 (n.ents.length) (c10)] 32]) (obl := [b5 = b5, b5 = b5, b5 = b5, b5 = b5, b5 = b5, b5 = b5, b5 = b5, b5 = b5, b5 = b5, b5 = b5, b4 = b4, b4 = b4, b4 = b4, b4 = b4, b4 = b4, b4 = b4, b4 = b4, b4 = b4, b4 = b4, b4 = b4]) [⟨[.at 1, .at 1, .at 1, .at 1, .at 1, .at 1, .at 1, .at 1, .at 1, .at 1], none, none, none, none⟩, ⟨[.at 2, .at 2, .at 2, .at 2, .at 2, .at 2, .at 2, .at 2, .at 2, .at 2], none, none, none, none⟩] [2] [0, 1, 2] (fun _ _ => by kernel_rfl) ⟨rfl, rfl, rfl, rfl, rfl, rfl, rfl, rfl, rfl, rfl, rfl, rfl, rfl, rfl, rfl, rfl, rfl, rfl, rfl, rfl, trivial⟩ ?_
  refine TriL.nil (by kernel_rfl) ?_
  refine TriQ.next ?_
  refine Tri.ret ?_
  exact TriQ.retB (v := .agg #[.int .i64 (n.id), .int .i64 (n.kind), .int .i64 (n.mode), .int .i64 (n.uid), .int .i64 (n.gid), .int .i64 (n.sec), .int .i64 (n.nano), .slice B6 (n.data.length) (c7), .string n.target, .slice A9 (n.ents.length) (c10)]) (l := []) (obl := [b5 = b5, b5 = b5, b5 = b5, b5 = b5, b5 = b5, b5 = b5, b5 = b5, b5 = b5, b5 = b5, b5 = b5]) [.at 2, .at 2, .at 2, .at 2, .at 2, .at 2, .at 2, .at 2, .at 2, .at 2] [0] hle0 (fun _ => by kernel_rfl) ⟨rfl, rfl, rfl, rfl, rfl, rfl, rfl, rfl, rfl, rfl, trivial⟩ rfl (by kernel_rfl) (⟨B6, c7, A9, c10, rfl, rfl, hD1, hE1⟩)
set_option maxRecDepth 100000 in
set_option maxHeartbeats 4000000 in
theorem sp_copyGraph {β : Bs} (A : Option Addr) (c : Nat) (ns : List NodeM) (L : Lay) (hG : GraphAt β A ns L) (hl : ns.length ≤ 1048576) (hd : ∀ i, i < ns.length → (nd ns i).data.length ≤ 1048576 ∧ (nd ns i).ents.length ≤ 1048576) :
    SpecB Try.prog β 15 #[.agg #[.slice A ns.length c]] [] (fun β' v l => ∃ B cap L', v = .agg #[.slice B ns.length cap] ∧ l = [] ∧ GraphAt β' B ns L') := by
  refine SpecB.enter Try.func15 rfl Try.ntmps15 (Nat.le_of_ble_eq_true rfl) (fun hle0 R => ?_)
  refine Tri.seq ?_
  refine Tri.region ?_
  refine TriL.segN (k' := 1) (fr' := fun b11 => [(1, .pointer (some ⟨b11, 0, none⟩))]) (hps' := fun b11 => [.abs R, .blk b11 [.slice A (ns.length) (c)] 24]) (obl := fun b11 => []) [o_] [1] [0, 1] (fun _ _ => by kernel_rfl) (fun b11 => trivial) (fun b11 => ?_)
  refine TriL.segN (k' := 2) (fr' := fun b12 => [(1, .pointer (some ⟨b11, 0, none⟩)), (2, .pointer (some ⟨b12, 0, none⟩))]) (hps' := fun b12 => [.abs R, .blk b11 [.slice A (ns.length) (c)] 24, .blk b12 [.slice none (0) (0)] 24]) (obl := fun b12 => []) [o_] [1, 2] [0, 1, 2] (fun _ _ => by kernel_rfl) (fun b12 => trivial) (fun b12 => ?_)
  refine TriL.nil (by kernel_rfl) ?_
  refine TriQ.next ?_
  refine Tri.seq ?_
  refine Tri.region ?_
  refine TriL.segN (k' := 2) (fr' := fun b13 => [(1, .pointer (some ⟨b11, 0, none⟩)), (2, .pointer (some ⟨b12, 0, none⟩)), (3, .slice (some ⟨b13, 0, none⟩) (0) (0))]) (hps' := fun b13 => [.abs R, .blk b11 [.slice A (ns.length) (c)] 24, .blk b12 [.slice none (0) (0)] 24, .blk b13 [] 32]) (obl := fun b13 => []) [o_, o_] [1, 2, 3] [0, 1, 2, 3] (fun _ _ => by kernel_rfl) (fun b13 => trivial) (fun b13 => ?_)
  refine TriL.nil (by kernel_rfl) ?_
  refine TriQ.next ?_
  refine Tri.seq ?_
  refine Tri.seq ?_
  refine Tri.region ?_
  refine TriL.mem (fun w hS => hS.toRow (i := 3) (b := b13) (cs := []) (e := 32) 10 0 (by kernel_rfl) rfl (by decide)) ?_
  refine TriL.segK (k' := 1) (fr' := [(1, .pointer (some ⟨b11, 0, none⟩)), (2, .pointer (some ⟨b12, 0, none⟩)), (3, .slice (some ⟨b13, 0, none⟩) (0) (0)), (4, .int .i64 0)]) (obl := []) [o_] [1, 2, 3, 4] (fun _ _ => by kernel_rfl) trivial ?_
  refine TriL.nil (by kernel_rfl) ?_
  refine TriQ.next ?_
  refine Tri.block ?_
  refine Tri.loopB (ι := Nat × Bs × (Option Addr) × Nat × Lay) (fun ((k, b, Ao, cp, L') : Nat × Bs × (Option Addr) × Nat × Lay) => b) (fun ((k, b, Ao, cp, L') : Nat × Bs × (Option Addr) × Nat × Lay) => (k ≤ ns.length) ∧ (β.le b) ∧ (GraphAt b A ns L) ∧ (GraphIn b ns k L')) (fun ((k, b, Ao, cp, L') : Nat × Bs × (Option Addr) × Nat × Lay) => ns.length - k) (fun ((k, b, Ao, cp, L') : Nat × Bs × (Option Addr) × Nat × Lay) => [(1, .pointer (some ⟨b11, 0, none⟩)), (2, .pointer (some ⟨b12, 0, none⟩)), (3, .slice Ao (k) (cp)), (4, .int .i64 (((k : Nat) : Int)))]) (fun ((k, b, Ao, cp, L') : Nat × Bs × (Option Addr) × Nat × Lay) => [.blk b11 [.slice A (ns.length) (c)] 24, .blk b12 [.slice none (0) (0)] 24, .abs (RowA 32 10 Ao k cp (nodesV L' (ns.take k))), .abs R]) (0, β, some ⟨b13, 0, none⟩, 0, ⟨fun _ => none, fun _ => none, fun _ => 0, fun _ => 0⟩) rfl (idx := [1, 2, 3, 4]) (pk := [1, 2, 3, 0]) (show (0 ≤ ns.length) ∧ (β.le β) ∧ (GraphAt β A ns L) ∧ (GraphIn β ns 0 (⟨fun _ => none, fun _ => none, fun _ => 0, fun _ => 0⟩)) from ⟨Nat.zero_le _, hle0, hG, ⟨fun i hi => absurd hi (Nat.not_lt_zero _), fun i hi => absurd hi (Nat.not_lt_zero _)⟩⟩) (fun _ => by kernel_rfl) rfl (by kernel_rfl) ?_
  rintro ⟨k, b, Ao, cp, L'⟩ ⟨hk, hle0, hG, hI⟩
  show Tri _ b _ _ [(1, .pointer (some ⟨b11, 0, none⟩)), (2, .pointer (some ⟨b12, 0, none⟩)), (3, .slice Ao (k) (cp)), (4, .int .i64 (((k : Nat) : Int)))] [.blk b11 [.slice A (ns.length) (c)] 24, .blk b12 [.slice none (0) (0)] 24, .abs (RowA 32 10 Ao k cp (nodesV L' (ns.take k))), .abs R] _
  refine Tri.seq ?_
  refine Tri.seq ?_
  refine Tri.region ?_
  refine TriL.segK (k' := 5) (fr' := [(1, .pointer (some ⟨b11, 0, none⟩)), (2, .pointer (some ⟨b12, 0, none⟩)), (3, .slice Ao (k) (cp)), (4, .int .i64 (((k : Nat) : Int))), (10, .bool (decide ((((k : Nat) : Int) : Int) < (((ns.length : Nat) : Int) : Int))))]) (obl := [b11 = b11]) [o_, o_, ⟨[.at 0], none, none, none, none⟩, o_, o_] [1, 2, 3, 4, 10] (fun _ _ => by kernel_rfl) ⟨rfl, trivial⟩ ?_
  refine TriL.nil (by kernel_rfl) ?_
  refine TriQ.next ?_
  refine Tri.condP (p := (((k : Nat) : Int) : Int) < (((ns.length : Nat) : Int) : Int)) (fun _ => by kernel_rfl) (fun h10 => ?_) (fun h10 => ?_)
  · refine Tri.skip ?_
    refine TriQ.next ?_
    refine Tri.seq ?_
    refine Tri.block ?_
    refine Tri.region ?_
    refine TriL.segK (k' := 6) (fr' := [(1, .pointer (some ⟨b11, 0, none⟩)), (2, .pointer (some ⟨b12, 0, none⟩)), (4, .int .i64 (((k : Nat) : Int))), (13, .slice Ao (k) (cp)), (18, .agg #[.int .i64 ((nd ns k).id), .int .i64 ((nd ns k).kind), .int .i64 ((nd ns k).mode), .int .i64 ((nd ns k).uid), .int .i64 ((nd ns k).gid), .int .i64 ((nd ns k).sec), .int .i64 ((nd ns k).nano), .slice (L.dA k) ((nd ns k).data.length) ((L.dC k)), .string (nd ns k).target, .slice (L.eA k) ((nd ns k).ents.length) ((L.eC k))])]) (obl := [(Rd b ⟨(blkOf A), offOf A + k * 10 + 9, none⟩ (.slice (L.eA k) ((nd ns k).ents.length) ((L.eC k)))), (Rd b ⟨(blkOf A), offOf A + k * 10 + 8, none⟩ (.string (nd ns k).target)), (Rd b ⟨(blkOf A), offOf A + k * 10 + 7, none⟩ (.slice (L.dA k) ((nd ns k).data.length) ((L.dC k)))), (Rd b ⟨(blkOf A), offOf A + k * 10 + 6, none⟩ (.int .i64 ((nd ns k).nano))), (Rd b ⟨(blkOf A), offOf A + k * 10 + 5, none⟩ (.int .i64 ((nd ns k).sec))), (Rd b ⟨(blkOf A), offOf A + k * 10 + 4, none⟩ (.int .i64 ((nd ns k).gid))), (Rd b ⟨(blkOf A), offOf A + k * 10 + 3, none⟩ (.int .i64 ((nd ns k).uid))), (Rd b ⟨(blkOf A), offOf A + k * 10 + 2, none⟩ (.int .i64 ((nd ns k).mode))), (Rd b ⟨(blkOf A), offOf A + k * 10 + 1, none⟩ (.int .i64 ((nd ns k).kind))), (Rd b ⟨(blkOf A), offOf A + k * 10, none⟩ (.int .i64 ((nd ns k).id))), ((k : Nat) : Int) = ((k : Nat) : Int), k < ns.length, (⟨(blkOf A), offOf A, none⟩ : Addr).spot = none, (A : Option Addr) = some ⟨(blkOf A), offOf A, none⟩, b11 = b11]) [o_, o_, ⟨[.at 0], none, none, none, none⟩, o_, ⟨[], some k, none, some ⟨(blkOf A), offOf A, none⟩, none⟩, ⟨[.old (.int .i64 ((nd ns k).id)), .old (.int .i64 ((nd ns k).kind)), .old (.int .i64 ((nd ns k).mode)), .old (.int .i64 ((nd ns k).uid)), .old (.int .i64 ((nd ns k).gid)), .old (.int .i64 ((nd ns k).sec)), .old (.int .i64 ((nd ns k).nano)), .old (.slice (L.dA k) ((nd ns k).data.length) ((L.dC k))), .old (.string (nd ns k).target), .old (.slice (L.eA k) ((nd ns k).ents.length) ((L.eC k)))], none, none, none, none⟩] [1, 2, 4, 13, 18] (fun _ _ => by kernel_rfl) ⟨GraphAt.rd hG (i := k) (by omega) (j := 9) rfl, GraphAt.rd hG (i := k) (by omega) (j := 8) rfl, GraphAt.rd hG (i := k) (by omega) (j := 7) rfl, GraphAt.rd hG (i := k) (by omega) (j := 6) rfl, GraphAt.rd hG (i := k) (by omega) (j := 5) rfl, GraphAt.rd hG (i := k) (by omega) (j := 4) rfl, GraphAt.rd hG (i := k) (by omega) (j := 3) rfl, GraphAt.rd hG (i := k) (by omega) (j := 2) rfl, GraphAt.rd hG (i := k) (by omega) (j := 1) rfl, GraphAt.rd hG (i := k) (by omega) (j := 0) rfl, rfl, by omega, rfl, GraphAt.hd hG (i := k) (by omega), rfl, trivial⟩ ?_
    refine TriL.callB (f := 38) (args := #[.agg #[.int .i64 ((nd ns k).id), .int .i64 ((nd ns k).kind), .int .i64 ((nd ns k).mode), .int .i64 ((nd ns k).uid), .int .i64 ((nd ns k).gid), .int .i64 ((nd ns k).sec), .int .i64 ((nd ns k).nano), .slice (L.dA k) ((nd ns k).data.length) ((L.dC k)), .string (nd ns k).target, .slice (L.eA k) ((nd ns k).ents.length) ((L.eC k))]]) (d := (some 19)) (pre := []) (R := [.blk b11 [.slice A (ns.length) (c)] 24, .blk b12 [.slice none (0) (0)] 24, .abs (RowA 32 10 Ao k cp (nodesV L' (ns.take k))), .abs R]) (pk := [0, 1, 2, 3]) (fun _ => by kernel_rfl) (sp_copyNode (nd ns k) (L.dA k) (L.eA k) (L.dC k) (L.eC k) (hG.data k (by omega)) (hG.ents k (by omega)) (hd k (by omega)).1 (hd k (by omega)).2) rfl (by kernel_rfl) ?_
    rintro β18 _ _ hle_β18 ⟨dB14, cd15, eB16, ce17, rfl, rfl, hdB, heB⟩
    replace hG := hG.le hle_β18
    replace hI := hI.le hle_β18
    replace hle0 := hle0.trans hle_β18
    refine TriL.segN (k' := 8) (fr' := fun b19 => [(1, .pointer (some ⟨b11, 0, none⟩)), (2, .pointer (some ⟨b12, 0, none⟩)), (4, .int .i64 (((k : Nat) : Int))), (13, .slice Ao (k) (cp)), (20, .slice (some ⟨b19, 0, none⟩) (1) (1))]) (hps' := fun b19 => [.blk b11 [.slice A (ns.length) (c)] 24, .blk b12 [.slice none (0) (0)] 24, .abs (RowA 32 10 Ao k cp (nodesV L' (ns.take k))), .abs R, .blk b19 [.int .i64 ((nd ns k).id), .int .i64 ((nd ns k).kind), .int .i64 ((nd ns k).mode), .int .i64 ((nd ns k).uid), .int .i64 ((nd ns k).gid), .int .i64 ((nd ns k).sec), .int .i64 ((nd ns k).nano), .slice dB14 ((nd ns k).data.length) (cd15), .string (nd ns k).target, .slice eB16 ((nd ns k).ents.length) (ce17)] 32]) (obl := fun b19 => []) [o_] [1, 2, 4, 13, 20] [0, 1, 2, 3, 4] (fun _ _ => by kernel_rfl) (fun b19 => trivial) (fun b19 => ?_)
    refine TriL.append 2 (d := (some 21)) (t := 22) (e := 32) (z := .agg #[.int .i64 0, .int .i64 0, .int .i64 0, .int .i64 0, .int .i64 0, .int .i64 0, .int .i64 0, .slice none (0) (0), .string ⟨#[]⟩, .slice none (0) (0)]) (size := 10) (bytes := 120) (n := k) (cap := cp) (A := Ao) (xs := (nodesV L' (ns.take k))) (s := (.tmp 13)) (x := (.tmp 20)) (ats := #[22, 22]) (A' := some ⟨b19, 0, none⟩) (m := 1) (c' := 1) (news := [.int .i64 ((nd ns k).id), .int .i64 ((nd ns k).kind), .int .i64 ((nd ns k).mode), .int .i64 ((nd ns k).uid), .int .i64 ((nd ns k).gid), .int .i64 ((nd ns k).sec), .int .i64 ((nd ns k).nano), .slice dB14 ((nd ns k).data.length) (cd15), .string (nd ns k).target, .slice eB16 ((nd ns k).ents.length) (ce17)]) (fun _ => by kernel_rfl) rfl (by kernel_rfl) (fun _ => by kernel_rfl) (fun _ => by kernel_rfl) Try.underlying22 (by kernel_rfl) rfl (by decide) (rfl) (by simp [Value.oneCell']) (src_blk (j := 4) rfl) (by unfold maxLen; omega) (by omega) (fun A20 c21 => ?_)
    refine TriL.partEq 2 (p := .abs (RowA 32 10 A20 (k + 1) c21 ((nodesV L' (ns.take k)) ++ [.int .i64 ((nd ns k).id), .int .i64 ((nd ns k).kind), .int .i64 ((nd ns k).mode), .int .i64 ((nd ns k).uid), .int .i64 ((nd ns k).gid), .int .i64 ((nd ns k).sec), .int .i64 ((nd ns k).nano), .slice dB14 ((nd ns k).data.length) (cd15), .string (nd ns k).target, .slice eB16 ((nd ns k).ents.length) (ce17)]))) (p' := .abs (RowA 32 10 A20 (k + 1) c21 (nodesV (L'.put k dB14 cd15 eB16 ce17) (ns.take (k + 1))))) (by kernel_rfl) (by rw [nodesV_put (by omega)]) ?_
    refine TriL.segK (k' := 10) (fr' := [(1, .pointer (some ⟨b11, 0, none⟩)), (2, .pointer (some ⟨b12, 0, none⟩)), (3, .slice A20 (k + 1) (c21)), (4, .int .i64 (((k : Nat) : Int)))]) (obl := []) [o_] [1, 2, 3, 4] (fun _ _ => by kernel_rfl) trivial ?_
    refine TriL.nil (by kernel_rfl) ?_
    refine TriQ.blockNormal ?_
    refine TriQ.next ?_
    refine Tri.region ?_
    refine TriL.segK (k' := 3) (fr' := [(1, .pointer (some ⟨b11, 0, none⟩)), (2, .pointer (some ⟨b12, 0, none⟩)), (3, .slice A20 (k + 1) (c21)), (4, .int .i64 (((k + 1 : Nat) : Int)))]) (obl := [(Value.int .i64 (IntKind.wrap .i64 (((k : Nat) : Int) + 1))) = (.int .i64 (((k + 1 : Nat) : Int)))]) [o_, ⟨[], none, none, none, some (.int .i64 (((k + 1 : Nat) : Int)))⟩, o_] [1, 2, 3, 4] (fun _ _ => by kernel_rfl) ⟨wrapEq (by omega) (by omega) (by omega), trivial⟩ ?_
    refine TriL.nil (by kernel_rfl) ?_
    exact TriQ.turnB ((k + 1), β18, A20, c21, (L'.put k dB14 cd15 eB16 ce17)) (hb := rfl) (idx := [1, 2, 3, 4]) (pk := [0, 1, 2, 3]) (show (((k + 1)) ≤ ns.length) ∧ (β.le β18) ∧ (GraphAt β18 A ns L) ∧ (GraphIn β18 ns ((k + 1)) ((L'.put k dB14 cd15 eB16 ce17))) from ⟨by omega, hle0, hG, hI.put hdB heB⟩) (by show ns.length - ((k + 1)) < ns.length - k; omega) (fun _ => by kernel_rfl) rfl (by kernel_rfl)
  · refine Tri.exit ?_
    refine TriQ.passExit ?_
    refine TriQ.passExit ?_
    refine TriQ.blockHit ?_
    refine TriQ.next ?_
    refine Tri.seq ?_
    refine Tri.region ?_
    refine TriL.rebase (Φ := fun β' => RowB β' Ao (nodesV L' (ns.take k))) 2 [0, 1, 3] (hps' := [.blk b11 [.slice A (ns.length) (c)] 24, .blk b12 [.slice none (0) (0)] 24, .abs R]) rfl rfl (by kernel_rfl) (fun F w h β' h1 h2 => RowB.of_row h h1 h2) (fun βz hle_βz hR => ?_)
    replace hG := hG.le hle_βz
    replace hI := hI.le hle_βz
    replace hle0 := hle0.trans hle_βz
    refine TriL.slot 3 (.slice Ao (k) (cp)) (.slice Ao (ns.length) (cp)) (fun _ => by kernel_rfl) (by rw [show k = ns.length by omega]) ?_
    refine TriL.seg (k' := 3) (fr' := [(2, .pointer (some ⟨b12, 0, none⟩))]) (hps' := [.blk b11 [.slice A (ns.length) (c)] 24, .blk b12 [.slice Ao (ns.length) (cp)] 24, .abs R]) (obl := [b12 = b12]) [o_, o_, ⟨[.at 1], none, none, none, none⟩] [2] [0, 1, 2] (fun _ _ => by kernel_rfl) ⟨rfl, trivial⟩ ?_
    refine TriL.nil (by kernel_rfl) ?_
    refine TriQ.next ?_
    refine Tri.ret ?_
    exact TriQ.retB (v := .agg #[.slice Ao (ns.length) (cp)]) (l := []) (obl := [b12 = b12]) [.at 1] [2] hle0 (fun _ => by kernel_rfl) ⟨rfl, trivial⟩ rfl (by kernel_rfl) (⟨Ao, cp, L', rfl, rfl, GraphAt.mk' hR hI (by omega)⟩)
set_option maxRecDepth 100000 in
set_option maxHeartbeats 4000000 in
theorem sp_copyGraphOwn {β : Bs} (A : Option Addr) (c : Nat) (ns : List NodeM) (L : Lay) (hG : GraphAt β A ns L) (hl : ns.length ≤ 1048576) (hd : ∀ i, i < ns.length → (nd ns i).data.length ≤ 1048576 ∧ (nd ns i).ents.length ≤ 1048576) :
    SpecB Try.prog β 15 #[.agg #[.slice A ns.length c]] [] (fun β' v l => ∃ B cap L', v = .agg #[.slice B ns.length cap] ∧ l = [.abs (RowA 32 10 B ns.length cap (nodesV L' ns))] ∧ GraphIn β' ns ns.length L') := by
  refine SpecB.enter Try.func15 rfl Try.ntmps15 (Nat.le_of_ble_eq_true rfl) (fun hle0 R => ?_)
  refine Tri.seq ?_
  refine Tri.region ?_
  refine TriL.segN (k' := 1) (fr' := fun b22 => [(1, .pointer (some ⟨b22, 0, none⟩))]) (hps' := fun b22 => [.abs R, .blk b22 [.slice A (ns.length) (c)] 24]) (obl := fun b22 => []) [o_] [1] [0, 1] (fun _ _ => by kernel_rfl) (fun b22 => trivial) (fun b22 => ?_)
  refine TriL.segN (k' := 2) (fr' := fun b23 => [(1, .pointer (some ⟨b22, 0, none⟩)), (2, .pointer (some ⟨b23, 0, none⟩))]) (hps' := fun b23 => [.abs R, .blk b22 [.slice A (ns.length) (c)] 24, .blk b23 [.slice none (0) (0)] 24]) (obl := fun b23 => []) [o_] [1, 2] [0, 1, 2] (fun _ _ => by kernel_rfl) (fun b23 => trivial) (fun b23 => ?_)
  refine TriL.nil (by kernel_rfl) ?_
  refine TriQ.next ?_
  refine Tri.seq ?_
  refine Tri.region ?_
  refine TriL.segN (k' := 2) (fr' := fun b24 => [(1, .pointer (some ⟨b22, 0, none⟩)), (2, .pointer (some ⟨b23, 0, none⟩)), (3, .slice (some ⟨b24, 0, none⟩) (0) (0))]) (hps' := fun b24 => [.abs R, .blk b22 [.slice A (ns.length) (c)] 24, .blk b23 [.slice none (0) (0)] 24, .blk b24 [] 32]) (obl := fun b24 => []) [o_, o_] [1, 2, 3] [0, 1, 2, 3] (fun _ _ => by kernel_rfl) (fun b24 => trivial) (fun b24 => ?_)
  refine TriL.nil (by kernel_rfl) ?_
  refine TriQ.next ?_
  refine Tri.seq ?_
  refine Tri.seq ?_
  refine Tri.region ?_
  refine TriL.mem (fun w hS => hS.toRow (i := 3) (b := b24) (cs := []) (e := 32) 10 0 (by kernel_rfl) rfl (by decide)) ?_
  refine TriL.segK (k' := 1) (fr' := [(1, .pointer (some ⟨b22, 0, none⟩)), (2, .pointer (some ⟨b23, 0, none⟩)), (3, .slice (some ⟨b24, 0, none⟩) (0) (0)), (4, .int .i64 0)]) (obl := []) [o_] [1, 2, 3, 4] (fun _ _ => by kernel_rfl) trivial ?_
  refine TriL.nil (by kernel_rfl) ?_
  refine TriQ.next ?_
  refine Tri.block ?_
  refine Tri.loopB (ι := Nat × Bs × (Option Addr) × Nat × Lay) (fun ((k, b, Ao, cp, L') : Nat × Bs × (Option Addr) × Nat × Lay) => b) (fun ((k, b, Ao, cp, L') : Nat × Bs × (Option Addr) × Nat × Lay) => (k ≤ ns.length) ∧ (β.le b) ∧ (GraphAt b A ns L) ∧ (GraphIn b ns k L')) (fun ((k, b, Ao, cp, L') : Nat × Bs × (Option Addr) × Nat × Lay) => ns.length - k) (fun ((k, b, Ao, cp, L') : Nat × Bs × (Option Addr) × Nat × Lay) => [(1, .pointer (some ⟨b22, 0, none⟩)), (2, .pointer (some ⟨b23, 0, none⟩)), (3, .slice Ao (k) (cp)), (4, .int .i64 (((k : Nat) : Int)))]) (fun ((k, b, Ao, cp, L') : Nat × Bs × (Option Addr) × Nat × Lay) => [.blk b22 [.slice A (ns.length) (c)] 24, .blk b23 [.slice none (0) (0)] 24, .abs (RowA 32 10 Ao k cp (nodesV L' (ns.take k))), .abs R]) (0, β, some ⟨b24, 0, none⟩, 0, ⟨fun _ => none, fun _ => none, fun _ => 0, fun _ => 0⟩) rfl (idx := [1, 2, 3, 4]) (pk := [1, 2, 3, 0]) (show (0 ≤ ns.length) ∧ (β.le β) ∧ (GraphAt β A ns L) ∧ (GraphIn β ns 0 (⟨fun _ => none, fun _ => none, fun _ => 0, fun _ => 0⟩)) from ⟨Nat.zero_le _, hle0, hG, ⟨fun i hi => absurd hi (Nat.not_lt_zero _), fun i hi => absurd hi (Nat.not_lt_zero _)⟩⟩) (fun _ => by kernel_rfl) rfl (by kernel_rfl) ?_
  rintro ⟨k, b, Ao, cp, L'⟩ ⟨hk, hle0, hG, hI⟩
  show Tri _ b _ _ [(1, .pointer (some ⟨b22, 0, none⟩)), (2, .pointer (some ⟨b23, 0, none⟩)), (3, .slice Ao (k) (cp)), (4, .int .i64 (((k : Nat) : Int)))] [.blk b22 [.slice A (ns.length) (c)] 24, .blk b23 [.slice none (0) (0)] 24, .abs (RowA 32 10 Ao k cp (nodesV L' (ns.take k))), .abs R] _
  refine Tri.seq ?_
  refine Tri.seq ?_
  refine Tri.region ?_
  refine TriL.segK (k' := 5) (fr' := [(1, .pointer (some ⟨b22, 0, none⟩)), (2, .pointer (some ⟨b23, 0, none⟩)), (3, .slice Ao (k) (cp)), (4, .int .i64 (((k : Nat) : Int))), (10, .bool (decide ((((k : Nat) : Int) : Int) < (((ns.length : Nat) : Int) : Int))))]) (obl := [b22 = b22]) [o_, o_, ⟨[.at 0], none, none, none, none⟩, o_, o_] [1, 2, 3, 4, 10] (fun _ _ => by kernel_rfl) ⟨rfl, trivial⟩ ?_
  refine TriL.nil (by kernel_rfl) ?_
  refine TriQ.next ?_
  refine Tri.condP (p := (((k : Nat) : Int) : Int) < (((ns.length : Nat) : Int) : Int)) (fun _ => by kernel_rfl) (fun h10 => ?_) (fun h10 => ?_)
  · refine Tri.skip ?_
    refine TriQ.next ?_
    refine Tri.seq ?_
    refine Tri.block ?_
    refine Tri.region ?_
    refine TriL.segK (k' := 6) (fr' := [(1, .pointer (some ⟨b22, 0, none⟩)), (2, .pointer (some ⟨b23, 0, none⟩)), (4, .int .i64 (((k : Nat) : Int))), (13, .slice Ao (k) (cp)), (18, .agg #[.int .i64 ((nd ns k).id), .int .i64 ((nd ns k).kind), .int .i64 ((nd ns k).mode), .int .i64 ((nd ns k).uid), .int .i64 ((nd ns k).gid), .int .i64 ((nd ns k).sec), .int .i64 ((nd ns k).nano), .slice (L.dA k) ((nd ns k).data.length) ((L.dC k)), .string (nd ns k).target, .slice (L.eA k) ((nd ns k).ents.length) ((L.eC k))])]) (obl := [(Rd b ⟨(blkOf A), offOf A + k * 10 + 9, none⟩ (.slice (L.eA k) ((nd ns k).ents.length) ((L.eC k)))), (Rd b ⟨(blkOf A), offOf A + k * 10 + 8, none⟩ (.string (nd ns k).target)), (Rd b ⟨(blkOf A), offOf A + k * 10 + 7, none⟩ (.slice (L.dA k) ((nd ns k).data.length) ((L.dC k)))), (Rd b ⟨(blkOf A), offOf A + k * 10 + 6, none⟩ (.int .i64 ((nd ns k).nano))), (Rd b ⟨(blkOf A), offOf A + k * 10 + 5, none⟩ (.int .i64 ((nd ns k).sec))), (Rd b ⟨(blkOf A), offOf A + k * 10 + 4, none⟩ (.int .i64 ((nd ns k).gid))), (Rd b ⟨(blkOf A), offOf A + k * 10 + 3, none⟩ (.int .i64 ((nd ns k).uid))), (Rd b ⟨(blkOf A), offOf A + k * 10 + 2, none⟩ (.int .i64 ((nd ns k).mode))), (Rd b ⟨(blkOf A), offOf A + k * 10 + 1, none⟩ (.int .i64 ((nd ns k).kind))), (Rd b ⟨(blkOf A), offOf A + k * 10, none⟩ (.int .i64 ((nd ns k).id))), ((k : Nat) : Int) = ((k : Nat) : Int), k < ns.length, (⟨(blkOf A), offOf A, none⟩ : Addr).spot = none, (A : Option Addr) = some ⟨(blkOf A), offOf A, none⟩, b22 = b22]) [o_, o_, ⟨[.at 0], none, none, none, none⟩, o_, ⟨[], some k, none, some ⟨(blkOf A), offOf A, none⟩, none⟩, ⟨[.old (.int .i64 ((nd ns k).id)), .old (.int .i64 ((nd ns k).kind)), .old (.int .i64 ((nd ns k).mode)), .old (.int .i64 ((nd ns k).uid)), .old (.int .i64 ((nd ns k).gid)), .old (.int .i64 ((nd ns k).sec)), .old (.int .i64 ((nd ns k).nano)), .old (.slice (L.dA k) ((nd ns k).data.length) ((L.dC k))), .old (.string (nd ns k).target), .old (.slice (L.eA k) ((nd ns k).ents.length) ((L.eC k)))], none, none, none, none⟩] [1, 2, 4, 13, 18] (fun _ _ => by kernel_rfl) ⟨GraphAt.rd hG (i := k) (by omega) (j := 9) rfl, GraphAt.rd hG (i := k) (by omega) (j := 8) rfl, GraphAt.rd hG (i := k) (by omega) (j := 7) rfl, GraphAt.rd hG (i := k) (by omega) (j := 6) rfl, GraphAt.rd hG (i := k) (by omega) (j := 5) rfl, GraphAt.rd hG (i := k) (by omega) (j := 4) rfl, GraphAt.rd hG (i := k) (by omega) (j := 3) rfl, GraphAt.rd hG (i := k) (by omega) (j := 2) rfl, GraphAt.rd hG (i := k) (by omega) (j := 1) rfl, GraphAt.rd hG (i := k) (by omega) (j := 0) rfl, rfl, by omega, rfl, GraphAt.hd hG (i := k) (by omega), rfl, trivial⟩ ?_
    refine TriL.callB (f := 38) (args := #[.agg #[.int .i64 ((nd ns k).id), .int .i64 ((nd ns k).kind), .int .i64 ((nd ns k).mode), .int .i64 ((nd ns k).uid), .int .i64 ((nd ns k).gid), .int .i64 ((nd ns k).sec), .int .i64 ((nd ns k).nano), .slice (L.dA k) ((nd ns k).data.length) ((L.dC k)), .string (nd ns k).target, .slice (L.eA k) ((nd ns k).ents.length) ((L.eC k))]]) (d := (some 19)) (pre := []) (R := [.blk b22 [.slice A (ns.length) (c)] 24, .blk b23 [.slice none (0) (0)] 24, .abs (RowA 32 10 Ao k cp (nodesV L' (ns.take k))), .abs R]) (pk := [0, 1, 2, 3]) (fun _ => by kernel_rfl) (sp_copyNode (nd ns k) (L.dA k) (L.eA k) (L.dC k) (L.eC k) (hG.data k (by omega)) (hG.ents k (by omega)) (hd k (by omega)).1 (hd k (by omega)).2) rfl (by kernel_rfl) ?_
    rintro β29 _ _ hle_β29 ⟨dB25, cd26, eB27, ce28, rfl, rfl, hdB, heB⟩
    replace hG := hG.le hle_β29
    replace hI := hI.le hle_β29
    replace hle0 := hle0.trans hle_β29
    refine TriL.segN (k' := 8) (fr' := fun b30 => [(1, .pointer (some ⟨b22, 0, none⟩)), (2, .pointer (some ⟨b23, 0, none⟩)), (4, .int .i64 (((k : Nat) : Int))), (13, .slice Ao (k) (cp)), (20, .slice (some ⟨b30, 0, none⟩) (1) (1))]) (hps' := fun b30 => [.blk b22 [.slice A (ns.length) (c)] 24, .blk b23 [.slice none (0) (0)] 24, .abs (RowA 32 10 Ao k cp (nodesV L' (ns.take k))), .abs R, .blk b30 [.int .i64 ((nd ns k).id), .int .i64 ((nd ns k).kind), .int .i64 ((nd ns k).mode), .int .i64 ((nd ns k).uid), .int .i64 ((nd ns k).gid), .int .i64 ((nd ns k).sec), .int .i64 ((nd ns k).nano), .slice dB25 ((nd ns k).data.length) (cd26), .string (nd ns k).target, .slice eB27 ((nd ns k).ents.length) (ce28)] 32]) (obl := fun b30 => []) [o_] [1, 2, 4, 13, 20] [0, 1, 2, 3, 4] (fun _ _ => by kernel_rfl) (fun b30 => trivial) (fun b30 => ?_)
    refine TriL.append 2 (d := (some 21)) (t := 22) (e := 32) (z := .agg #[.int .i64 0, .int .i64 0, .int .i64 0, .int .i64 0, .int .i64 0, .int .i64 0, .int .i64 0, .slice none (0) (0), .string ⟨#[]⟩, .slice none (0) (0)]) (size := 10) (bytes := 120) (n := k) (cap := cp) (A := Ao) (xs := (nodesV L' (ns.take k))) (s := (.tmp 13)) (x := (.tmp 20)) (ats := #[22, 22]) (A' := some ⟨b30, 0, none⟩) (m := 1) (c' := 1) (news := [.int .i64 ((nd ns k).id), .int .i64 ((nd ns k).kind), .int .i64 ((nd ns k).mode), .int .i64 ((nd ns k).uid), .int .i64 ((nd ns k).gid), .int .i64 ((nd ns k).sec), .int .i64 ((nd ns k).nano), .slice dB25 ((nd ns k).data.length) (cd26), .string (nd ns k).target, .slice eB27 ((nd ns k).ents.length) (ce28)]) (fun _ => by kernel_rfl) rfl (by kernel_rfl) (fun _ => by kernel_rfl) (fun _ => by kernel_rfl) Try.underlying22 (by kernel_rfl) rfl (by decide) (rfl) (by simp [Value.oneCell']) (src_blk (j := 4) rfl) (by unfold maxLen; omega) (by omega) (fun A31 c32 => ?_)
    refine TriL.partEq 2 (p := .abs (RowA 32 10 A31 (k + 1) c32 ((nodesV L' (ns.take k)) ++ [.int .i64 ((nd ns k).id), .int .i64 ((nd ns k).kind), .int .i64 ((nd ns k).mode), .int .i64 ((nd ns k).uid), .int .i64 ((nd ns k).gid), .int .i64 ((nd ns k).sec), .int .i64 ((nd ns k).nano), .slice dB25 ((nd ns k).data.length) (cd26), .string (nd ns k).target, .slice eB27 ((nd ns k).ents.length) (ce28)]))) (p' := .abs (RowA 32 10 A31 (k + 1) c32 (nodesV (L'.put k dB25 cd26 eB27 ce28) (ns.take (k + 1))))) (by kernel_rfl) (by rw [nodesV_put (by omega)]) ?_
    refine TriL.segK (k' := 10) (fr' := [(1, .pointer (some ⟨b22, 0, none⟩)), (2, .pointer (some ⟨b23, 0, none⟩)), (3, .slice A31 (k + 1) (c32)), (4, .int .i64 (((k : Nat) : Int)))]) (obl := []) [o_] [1, 2, 3, 4] (fun _ _ => by kernel_rfl) trivial ?_
    refine TriL.nil (by kernel_rfl) ?_
    refine TriQ.blockNormal ?_
    refine TriQ.next ?_
    refine Tri.region ?_
    refine TriL.segK (k' := 3) (fr' := [(1, .pointer (some ⟨b22, 0, none⟩)), (2, .pointer (some ⟨b23, 0, none⟩)), (3, .slice A31 (k + 1) (c32)), (4, .int .i64 (((k + 1 : Nat) : Int)))]) (obl := [(Value.int .i64 (IntKind.wrap .i64 (((k : Nat) : Int) + 1))) = (.int .i64 (((k + 1 : Nat) : Int)))]) [o_, ⟨[], none, none, none, some (.int .i64 (((k + 1 : Nat) : Int)))⟩, o_] [1, 2, 3, 4] (fun _ _ => by kernel_rfl) ⟨wrapEq (by omega) (by omega) (by omega), trivial⟩ ?_
    refine TriL.nil (by kernel_rfl) ?_
    exact TriQ.turnB ((k + 1), β29, A31, c32, (L'.put k dB25 cd26 eB27 ce28)) (hb := rfl) (idx := [1, 2, 3, 4]) (pk := [0, 1, 2, 3]) (show (((k + 1)) ≤ ns.length) ∧ (β.le β29) ∧ (GraphAt β29 A ns L) ∧ (GraphIn β29 ns ((k + 1)) ((L'.put k dB25 cd26 eB27 ce28))) from ⟨by omega, hle0, hG, hI.put hdB heB⟩) (by show ns.length - ((k + 1)) < ns.length - k; omega) (fun _ => by kernel_rfl) rfl (by kernel_rfl)
  · refine Tri.exit ?_
    refine TriQ.passExit ?_
    refine TriQ.passExit ?_
    refine TriQ.blockHit ?_
    refine TriQ.next ?_
    refine Tri.seq ?_
    refine Tri.region ?_
    refine TriL.partEq 2 (p := .abs (RowA 32 10 Ao k cp (nodesV L' (ns.take k)))) (p' := .abs (RowA 32 10 Ao ns.length cp (nodesV L' ns))) (by kernel_rfl) (by rw [show k = ns.length by omega, List.take_of_length_le (Nat.le_refl _)]) ?_
    refine TriL.slot 3 (.slice Ao (k) (cp)) (.slice Ao (ns.length) (cp)) (fun _ => by kernel_rfl) (by rw [show k = ns.length by omega]) ?_
    refine TriL.seg (k' := 3) (fr' := [(2, .pointer (some ⟨b23, 0, none⟩))]) (hps' := [.blk b22 [.slice A (ns.length) (c)] 24, .blk b23 [.slice Ao (ns.length) (cp)] 24, .abs (RowA 32 10 Ao ns.length cp (nodesV L' ns)), .abs R]) (obl := [b23 = b23]) [o_, o_, ⟨[.at 1], none, none, none, none⟩] [2] [0, 1, 2, 3] (fun _ _ => by kernel_rfl) ⟨rfl, trivial⟩ ?_
    refine TriL.nil (by kernel_rfl) ?_
    refine TriQ.next ?_
    refine Tri.ret ?_
    exact TriQ.retB (v := .agg #[.slice Ao (ns.length) (cp)]) (l := [.abs (RowA 32 10 Ao ns.length cp (nodesV L' ns))]) (obl := [b23 = b23]) [.at 1] [2, 3] hle0 (fun _ => by kernel_rfl) ⟨rfl, trivial⟩ rfl (by kernel_rfl) (⟨Ao, cp, L', rfl, rfl, ⟨fun i hi => hI.data i (by omega), fun i hi => hI.ents i (by omega)⟩⟩)
set_option maxRecDepth 100000 in
set_option maxHeartbeats 4000000 in
theorem sp_sameNode {β : Bs} (n m : NodeM) (dA eA dB eB : Option Addr) (dC eC dD eD : Nat) (hD : BytesAt β dA n.data) (hE : EntsAt β eA n.ents) (hD2 : BytesAt β dB m.data) (hE2 : EntsAt β eB m.ents) (hl1 : n.data.length ≤ 1048576) (hl2 : n.ents.length ≤ 1048576) :
    Spec Try.prog β 41 #[.agg #[.int .i64 (n.id), .int .i64 (n.kind), .int .i64 (n.mode), .int .i64 (n.uid), .int .i64 (n.gid), .int .i64 (n.sec), .int .i64 (n.nano), .slice dA (n.data.length) (dC), .string n.target, .slice eA (n.ents.length) (eC)], .agg #[.int .i64 (m.id), .int .i64 (m.kind), .int .i64 (m.mode), .int .i64 (m.uid), .int .i64 (m.gid), .int .i64 (m.sec), .int .i64 (m.nano), .slice dB (m.data.length) (dD), .string m.target, .slice eB (m.ents.length) (eD)]] [] (fun v l => v = .bool (decide (n = m)) ∧ l = []) := by
  refine Spec.enter Try.func41 rfl Try.ntmps41 (Nat.le_of_ble_eq_true rfl) (fun R => ?_)
  refine Tri.seq ?_
  refine Tri.region ?_
  refine TriL.segN (k' := 1) (fr' := fun b33 => [(1, .agg #[.int .i64 (m.id), .int .i64 (m.kind), .int .i64 (m.mode), .int .i64 (m.uid), .int .i64 (m.gid), .int .i64 (m.sec), .int .i64 (m.nano), .slice dB (m.data.length) (dD), .string m.target, .slice eB (m.ents.length) (eD)]), (2, .pointer (some ⟨b33, 0, none⟩))]) (hps' := fun b33 => [.abs R, .blk b33 [.int .i64 (n.id), .int .i64 (n.kind), .int .i64 (n.mode), .int .i64 (n.uid), .int .i64 (n.gid), .int .i64 (n.sec), .int .i64 (n.nano), .slice dA (n.data.length) (dC), .string n.target, .slice eA (n.ents.length) (eC)] 32]) (obl := fun b33 => []) [o_] [1, 2] [0, 1] (fun _ _ => by kernel_rfl) (fun b33 => trivial) (fun b33 => ?_)
  refine TriL.segN (k' := 3) (fr' := fun b34 => [(2, .pointer (some ⟨b33, 0, none⟩)), (3, .pointer (some ⟨b34, 0, none⟩))]) (hps' := fun b34 => [.abs R, .blk b33 [.int .i64 (n.id), .int .i64 (n.kind), .int .i64 (n.mode), .int .i64 (n.uid), .int .i64 (n.gid), .int .i64 (n.sec), .int .i64 (n.nano), .slice dA (n.data.length) (dC), .string n.target, .slice eA (n.ents.length) (eC)] 32, .blk b34 [.int .i64 (m.id), .int .i64 (m.kind), .int .i64 (m.mode), .int .i64 (m.uid), .int .i64 (m.gid), .int .i64 (m.sec), .int .i64 (m.nano), .slice dB (m.data.length) (dD), .string m.target, .slice eB (m.ents.length) (eD)] 32]) (obl := fun b34 => []) [o_, o_] [2, 3] [0, 1, 2] (fun _ _ => by kernel_rfl) (fun b34 => trivial) (fun b34 => ?_)
  refine TriL.nil (by kernel_rfl) ?_
  refine TriQ.next ?_
  refine Tri.seq ?_
  refine Tri.seq ?_
  refine Tri.region ?_
  refine TriL.segK (k' := 6) (fr' := [(2, .pointer (some ⟨b33, 0, none⟩)), (3, .pointer (some ⟨b34, 0, none⟩)), (11, .bool (!(decide ((n.id : Int) = (m.id : Int)))))]) (obl := [b34 = b34, b33 = b33]) [o_, ⟨[.at 1], none, none, none, none⟩, o_, ⟨[.at 2], none, none, none, none⟩, o_, o_] [2, 3, 11] (fun _ _ => by kernel_rfl) ⟨rfl, rfl, trivial⟩ ?_
  refine TriL.slotN 11 ((n.id : Int) = (m.id : Int)) (fun _ => by kernel_rfl) (fun h11 => ?_) (fun h11 => ?_)
  · refine TriL.segK (k' := 64) (fr' := [(2, .pointer (some ⟨b33, 0, none⟩)), (3, .pointer (some ⟨b34, 0, none⟩)), (69, .bool true)]) (obl := []) [o_, o_, o_, o_, o_, o_, o_, o_, o_, o_, o_, o_, o_, o_, o_, o_, o_, o_, o_, o_, o_, o_, o_, o_, o_, o_, o_, o_, o_, o_, o_, o_, o_, o_, o_, o_, o_, o_, o_, o_, o_, o_, o_, o_, o_, o_, o_, o_, o_, o_, o_, o_, o_, o_, o_, o_, o_, o_] [2, 3, 69] (fun _ _ => by kernel_rfl) trivial ?_
    refine TriL.nil (by kernel_rfl) ?_
    refine TriQ.next ?_
    refine Tri.condT (fun _ => by kernel_rfl) ?_
    refine Tri.seq ?_
    refine Tri.region ?_
    refine TriL.segK (k' := 1) (fr' := [(4, .bool false)]) (obl := []) [o_] [4] (fun _ _ => by kernel_rfl) trivial ?_
    refine TriL.nil (by kernel_rfl) ?_
    refine TriQ.next ?_
    refine Tri.ret ?_
    refine TriQ.passRet ?_
    exact TriQ.ret (v := .bool false) (l := []) (obl := []) [] [0] (fun _ => by kernel_rfl) trivial rfl (by kernel_rfl) (⟨by rw [decide_eq_false (fun e => h11 (by cases e; first | rfl | exact ⟨rfl, rfl⟩))], rfl⟩)
  · refine TriL.segK (k' := 13) (fr' := [(2, .pointer (some ⟨b33, 0, none⟩)), (3, .pointer (some ⟨b34, 0, none⟩)), (18, .bool (!(decide ((n.kind : Int) = (m.kind : Int)))))]) (obl := [b34 = b34, b33 = b33]) [o_, ⟨[.at 1], none, none, none, none⟩, o_, ⟨[.at 2], none, none, none, none⟩, o_, o_, o_] [2, 3, 18] (fun _ _ => by kernel_rfl) ⟨rfl, rfl, trivial⟩ ?_
    refine TriL.slotN 18 ((n.kind : Int) = (m.kind : Int)) (fun _ => by kernel_rfl) (fun h18 => ?_) (fun h18 => ?_)
    · refine TriL.segK (k' := 64) (fr' := [(2, .pointer (some ⟨b33, 0, none⟩)), (3, .pointer (some ⟨b34, 0, none⟩)), (69, .bool true)]) (obl := []) [o_, o_, o_, o_, o_, o_, o_, o_, o_, o_, o_, o_, o_, o_, o_, o_, o_, o_, o_, o_, o_, o_, o_, o_, o_, o_, o_, o_, o_, o_, o_, o_, o_, o_, o_, o_, o_, o_, o_, o_, o_, o_, o_, o_, o_, o_, o_, o_, o_, o_, o_] [2, 3, 69] (fun _ _ => by kernel_rfl) trivial ?_
      refine TriL.nil (by kernel_rfl) ?_
      refine TriQ.next ?_
      refine Tri.condT (fun _ => by kernel_rfl) ?_
      refine Tri.seq ?_
      refine Tri.region ?_
      refine TriL.segK (k' := 1) (fr' := [(4, .bool false)]) (obl := []) [o_] [4] (fun _ _ => by kernel_rfl) trivial ?_
      refine TriL.nil (by kernel_rfl) ?_
      refine TriQ.next ?_
      refine Tri.ret ?_
      refine TriQ.passRet ?_
      exact TriQ.ret (v := .bool false) (l := []) (obl := []) [] [0] (fun _ => by kernel_rfl) trivial rfl (by kernel_rfl) (⟨by rw [decide_eq_false (fun e => h18 (by cases e; first | rfl | exact ⟨rfl, rfl⟩))], rfl⟩)
    · refine TriL.segK (k' := 20) (fr' := [(2, .pointer (some ⟨b33, 0, none⟩)), (3, .pointer (some ⟨b34, 0, none⟩)), (25, .bool (!(decide ((n.mode : Int) = (m.mode : Int)))))]) (obl := [b34 = b34, b33 = b33]) [o_, ⟨[.at 1], none, none, none, none⟩, o_, ⟨[.at 2], none, none, none, none⟩, o_, o_, o_] [2, 3, 25] (fun _ _ => by kernel_rfl) ⟨rfl, rfl, trivial⟩ ?_
      refine TriL.slotN 25 ((n.mode : Int) = (m.mode : Int)) (fun _ => by kernel_rfl) (fun h25 => ?_) (fun h25 => ?_)
      · refine TriL.segK (k' := 64) (fr' := [(2, .pointer (some ⟨b33, 0, none⟩)), (3, .pointer (some ⟨b34, 0, none⟩)), (69, .bool true)]) (obl := []) [o_, o_, o_, o_, o_, o_, o_, o_, o_, o_, o_, o_, o_, o_, o_, o_, o_, o_, o_, o_, o_, o_, o_, o_, o_, o_, o_, o_, o_, o_, o_, o_, o_, o_, o_, o_, o_, o_, o_, o_, o_, o_, o_, o_] [2, 3, 69] (fun _ _ => by kernel_rfl) trivial ?_
        refine TriL.nil (by kernel_rfl) ?_
        refine TriQ.next ?_
        refine Tri.condT (fun _ => by kernel_rfl) ?_
        refine Tri.seq ?_
        refine Tri.region ?_
        refine TriL.segK (k' := 1) (fr' := [(4, .bool false)]) (obl := []) [o_] [4] (fun _ _ => by kernel_rfl) trivial ?_
        refine TriL.nil (by kernel_rfl) ?_
        refine TriQ.next ?_
        refine Tri.ret ?_
        refine TriQ.passRet ?_
        exact TriQ.ret (v := .bool false) (l := []) (obl := []) [] [0] (fun _ => by kernel_rfl) trivial rfl (by kernel_rfl) (⟨by rw [decide_eq_false (fun e => h25 (by cases e; first | rfl | exact ⟨rfl, rfl⟩))], rfl⟩)
      · refine TriL.segK (k' := 27) (fr' := [(2, .pointer (some ⟨b33, 0, none⟩)), (3, .pointer (some ⟨b34, 0, none⟩)), (32, .bool (!(decide ((n.uid : Int) = (m.uid : Int)))))]) (obl := [b34 = b34, b33 = b33]) [o_, ⟨[.at 1], none, none, none, none⟩, o_, ⟨[.at 2], none, none, none, none⟩, o_, o_, o_] [2, 3, 32] (fun _ _ => by kernel_rfl) ⟨rfl, rfl, trivial⟩ ?_
        refine TriL.slotN 32 ((n.uid : Int) = (m.uid : Int)) (fun _ => by kernel_rfl) (fun h32 => ?_) (fun h32 => ?_)
        · refine TriL.segK (k' := 64) (fr' := [(2, .pointer (some ⟨b33, 0, none⟩)), (3, .pointer (some ⟨b34, 0, none⟩)), (69, .bool true)]) (obl := []) [o_, o_, o_, o_, o_, o_, o_, o_, o_, o_, o_, o_, o_, o_, o_, o_, o_, o_, o_, o_, o_, o_, o_, o_, o_, o_, o_, o_, o_, o_, o_, o_, o_, o_, o_, o_, o_] [2, 3, 69] (fun _ _ => by kernel_rfl) trivial ?_
          refine TriL.nil (by kernel_rfl) ?_
          refine TriQ.next ?_
          refine Tri.condT (fun _ => by kernel_rfl) ?_
          refine Tri.seq ?_
          refine Tri.region ?_
          refine TriL.segK (k' := 1) (fr' := [(4, .bool false)]) (obl := []) [o_] [4] (fun _ _ => by kernel_rfl) trivial ?_
          refine TriL.nil (by kernel_rfl) ?_
          refine TriQ.next ?_
          refine Tri.ret ?_
          refine TriQ.passRet ?_
          exact TriQ.ret (v := .bool false) (l := []) (obl := []) [] [0] (fun _ => by kernel_rfl) trivial rfl (by kernel_rfl) (⟨by rw [decide_eq_false (fun e => h32 (by cases e; first | rfl | exact ⟨rfl, rfl⟩))], rfl⟩)
        · refine TriL.segK (k' := 34) (fr' := [(2, .pointer (some ⟨b33, 0, none⟩)), (3, .pointer (some ⟨b34, 0, none⟩)), (39, .bool (!(decide ((n.gid : Int) = (m.gid : Int)))))]) (obl := [b34 = b34, b33 = b33]) [o_, ⟨[.at 1], none, none, none, none⟩, o_, ⟨[.at 2], none, none, none, none⟩, o_, o_, o_] [2, 3, 39] (fun _ _ => by kernel_rfl) ⟨rfl, rfl, trivial⟩ ?_
          refine TriL.slotN 39 ((n.gid : Int) = (m.gid : Int)) (fun _ => by kernel_rfl) (fun h39 => ?_) (fun h39 => ?_)
          · refine TriL.segK (k' := 64) (fr' := [(2, .pointer (some ⟨b33, 0, none⟩)), (3, .pointer (some ⟨b34, 0, none⟩)), (69, .bool true)]) (obl := []) [o_, o_, o_, o_, o_, o_, o_, o_, o_, o_, o_, o_, o_, o_, o_, o_, o_, o_, o_, o_, o_, o_, o_, o_, o_, o_, o_, o_, o_, o_] [2, 3, 69] (fun _ _ => by kernel_rfl) trivial ?_
            refine TriL.nil (by kernel_rfl) ?_
            refine TriQ.next ?_
            refine Tri.condT (fun _ => by kernel_rfl) ?_
            refine Tri.seq ?_
            refine Tri.region ?_
            refine TriL.segK (k' := 1) (fr' := [(4, .bool false)]) (obl := []) [o_] [4] (fun _ _ => by kernel_rfl) trivial ?_
            refine TriL.nil (by kernel_rfl) ?_
            refine TriQ.next ?_
            refine Tri.ret ?_
            refine TriQ.passRet ?_
            exact TriQ.ret (v := .bool false) (l := []) (obl := []) [] [0] (fun _ => by kernel_rfl) trivial rfl (by kernel_rfl) (⟨by rw [decide_eq_false (fun e => h39 (by cases e; first | rfl | exact ⟨rfl, rfl⟩))], rfl⟩)
          · refine TriL.segK (k' := 38) (fr' := [(2, .pointer (some ⟨b33, 0, none⟩)), (3, .pointer (some ⟨b34, 0, none⟩)), (39, .bool false), (41, .agg #[.int .i64 (n.sec), .int .i64 (n.nano)]), (43, .agg #[.int .i64 (m.sec), .int .i64 (m.nano)])]) (obl := [b34 = b34, b34 = b34, b33 = b33, b33 = b33]) [o_, ⟨[.at 1, .at 1], none, none, none, none⟩, o_, ⟨[.at 2, .at 2], none, none, none, none⟩] [2, 3, 39, 41, 43] (fun _ _ => by kernel_rfl) ⟨rfl, rfl, rfl, rfl, trivial⟩ ?_
            refine TriL.run1 (d := (some 44)) (op := .binOp .neq 28 (.tmp 41) (.tmp 43) 28) (v := .bool (!(decide ((n.sec : Int) = (m.sec : Int) ∧ (n.nano : Int) = (m.nano : Int))))) (fun _ => by kernel_rfl) (fun o junk w ho hS => ⟨w, ran_timeNeq ho (by kernel_rfl) (by kernel_rfl), hS⟩) ?_
            refine TriL.segK (k' := 41) (fr' := [(2, .pointer (some ⟨b33, 0, none⟩)), (3, .pointer (some ⟨b34, 0, none⟩)), (46, .bool (!(decide ((n.sec : Int) = (m.sec : Int) ∧ (n.nano : Int) = (m.nano : Int)))))]) (obl := []) [o_, o_] [2, 3, 46] (fun _ _ => by kernel_rfl) trivial ?_
            refine TriL.slotN 46 ((n.sec : Int) = (m.sec : Int) ∧ (n.nano : Int) = (m.nano : Int)) (fun _ => by kernel_rfl) (fun h46 => ?_) (fun h46 => ?_)
            · refine TriL.segK (k' := 64) (fr' := [(2, .pointer (some ⟨b33, 0, none⟩)), (3, .pointer (some ⟨b34, 0, none⟩)), (69, .bool true)]) (obl := []) [o_, o_, o_, o_, o_, o_, o_, o_, o_, o_, o_, o_, o_, o_, o_, o_, o_, o_, o_, o_, o_, o_, o_] [2, 3, 69] (fun _ _ => by kernel_rfl) trivial ?_
              refine TriL.nil (by kernel_rfl) ?_
              refine TriQ.next ?_
              refine Tri.condT (fun _ => by kernel_rfl) ?_
              refine Tri.seq ?_
              refine Tri.region ?_
              refine TriL.segK (k' := 1) (fr' := [(4, .bool false)]) (obl := []) [o_] [4] (fun _ _ => by kernel_rfl) trivial ?_
              refine TriL.nil (by kernel_rfl) ?_
              refine TriQ.next ?_
              refine Tri.ret ?_
              refine TriQ.passRet ?_
              exact TriQ.ret (v := .bool false) (l := []) (obl := []) [] [0] (fun _ => by kernel_rfl) trivial rfl (by kernel_rfl) (⟨by rw [decide_eq_false (fun e => h46 (by cases e; first | rfl | exact ⟨rfl, rfl⟩))], rfl⟩)
            · refine TriL.segK (k' := 48) (fr' := [(2, .pointer (some ⟨b33, 0, none⟩)), (3, .pointer (some ⟨b34, 0, none⟩)), (53, .bool (!(decide ((n.target : ByteArray) = m.target))))]) (obl := [(Value.bool (!((n.target : ByteArray).toList == (m.target : ByteArray).toList))) = (.bool (!(decide ((n.target : ByteArray) = m.target)))), b34 = b34, b33 = b33]) [o_, ⟨[.at 1], none, none, none, none⟩, o_, ⟨[.at 2], none, none, none, none⟩, ⟨[], none, none, none, some (.bool (!(decide ((n.target : ByteArray) = m.target))))⟩, o_, o_] [2, 3, 53] (fun _ _ => by kernel_rfl) ⟨strNeV _ _, rfl, rfl, trivial⟩ ?_
              refine TriL.slotN 53 ((n.target : ByteArray) = m.target) (fun _ => by kernel_rfl) (fun h53 => ?_) (fun h53 => ?_)
              · refine TriL.segK (k' := 64) (fr' := [(2, .pointer (some ⟨b33, 0, none⟩)), (3, .pointer (some ⟨b34, 0, none⟩)), (69, .bool true)]) (obl := []) [o_, o_, o_, o_, o_, o_, o_, o_, o_, o_, o_, o_, o_, o_, o_, o_] [2, 3, 69] (fun _ _ => by kernel_rfl) trivial ?_
                refine TriL.nil (by kernel_rfl) ?_
                refine TriQ.next ?_
                refine Tri.condT (fun _ => by kernel_rfl) ?_
                refine Tri.seq ?_
                refine Tri.region ?_
                refine TriL.segK (k' := 1) (fr' := [(4, .bool false)]) (obl := []) [o_] [4] (fun _ _ => by kernel_rfl) trivial ?_
                refine TriL.nil (by kernel_rfl) ?_
                refine TriQ.next ?_
                refine Tri.ret ?_
                refine TriQ.passRet ?_
                exact TriQ.ret (v := .bool false) (l := []) (obl := []) [] [0] (fun _ => by kernel_rfl) trivial rfl (by kernel_rfl) (⟨by rw [decide_eq_false (fun e => h53 (by cases e; first | rfl | exact ⟨rfl, rfl⟩))], rfl⟩)
              · refine TriL.segK (k' := 57) (fr' := [(2, .pointer (some ⟨b33, 0, none⟩)), (3, .pointer (some ⟨b34, 0, none⟩)), (62, .bool (!(decide ((((n.ents.length : Nat) : Int) : Int) = (((m.ents.length : Nat) : Int) : Int)))))]) (obl := [b34 = b34, b33 = b33]) [o_, ⟨[.at 1], none, none, none, none⟩, o_, o_, ⟨[.at 2], none, none, none, none⟩, o_, o_, o_, o_] [2, 3, 62] (fun _ _ => by kernel_rfl) ⟨rfl, rfl, trivial⟩ ?_
                refine TriL.slotN 62 ((((n.ents.length : Nat) : Int) : Int) = (((m.ents.length : Nat) : Int) : Int)) (fun _ => by kernel_rfl) (fun h62 => ?_) (fun h62 => ?_)
                · refine TriL.segK (k' := 64) (fr' := [(2, .pointer (some ⟨b33, 0, none⟩)), (3, .pointer (some ⟨b34, 0, none⟩)), (69, .bool true)]) (obl := []) [o_, o_, o_, o_, o_, o_, o_] [2, 3, 69] (fun _ _ => by kernel_rfl) trivial ?_
                  refine TriL.nil (by kernel_rfl) ?_
                  refine TriQ.next ?_
                  refine Tri.condT (fun _ => by kernel_rfl) ?_
                  refine Tri.seq ?_
                  refine Tri.region ?_
                  refine TriL.segK (k' := 1) (fr' := [(4, .bool false)]) (obl := []) [o_] [4] (fun _ _ => by kernel_rfl) trivial ?_
                  refine TriL.nil (by kernel_rfl) ?_
                  refine TriQ.next ?_
                  refine Tri.ret ?_
                  refine TriQ.passRet ?_
                  exact TriQ.ret (v := .bool false) (l := []) (obl := []) [] [0] (fun _ => by kernel_rfl) trivial rfl (by kernel_rfl) (⟨by rw [decide_eq_false (fun e => h62 (by cases e; first | rfl | exact ⟨rfl, rfl⟩))], rfl⟩)
                · refine TriL.segK (k' := 61) (fr' := [(2, .pointer (some ⟨b33, 0, none⟩)), (3, .pointer (some ⟨b34, 0, none⟩)), (62, .bool false), (64, .slice dA (n.data.length) (dC)), (66, .slice dB (m.data.length) (dD))]) (obl := [b34 = b34, b33 = b33]) [o_, ⟨[.at 1], none, none, none, none⟩, o_, ⟨[.at 2], none, none, none, none⟩] [2, 3, 62, 64, 66] (fun _ _ => by kernel_rfl) ⟨rfl, rfl, trivial⟩ ?_
                  refine TriL.call (f := 62) (args := #[.slice dA (n.data.length) (dC), .slice dB (m.data.length) (dD)]) (d := (some 67)) (pre := []) (R := [.abs R, .blk b33 [.int .i64 (n.id), .int .i64 (n.kind), .int .i64 (n.mode), .int .i64 (n.uid), .int .i64 (n.gid), .int .i64 (n.sec), .int .i64 (n.nano), .slice dA (n.data.length) (dC), .string n.target, .slice eA (n.ents.length) (eC)] 32, .blk b34 [.int .i64 (m.id), .int .i64 (m.kind), .int .i64 (m.mode), .int .i64 (m.uid), .int .i64 (m.gid), .int .i64 (m.sec), .int .i64 (m.nano), .slice dB (m.data.length) (dD), .string m.target, .slice eB (m.ents.length) (eD)] 32]) (pk := [0, 1, 2]) (fun _ => by kernel_rfl) (sp_sameBytes dA dB dC dD n.data m.data hD hD2 hl1) rfl (by kernel_rfl) ?_
                  rintro _ _ ⟨rfl, rfl⟩
                  refine TriL.segK (k' := 64) (fr' := [(2, .pointer (some ⟨b33, 0, none⟩)), (3, .pointer (some ⟨b34, 0, none⟩)), (69, .bool (!(decide (n.data = m.data))))]) (obl := []) [o_, o_] [2, 3, 69] (fun _ _ => by kernel_rfl) trivial ?_
                  refine TriL.nil (by kernel_rfl) ?_
                  refine TriQ.next ?_
                  refine Tri.condN (p := n.data = m.data) (fun _ => by kernel_rfl) (fun h69 => ?_) (fun h69 => ?_)
                  · refine Tri.seq ?_
                    refine Tri.region ?_
                    refine TriL.segK (k' := 1) (fr' := [(4, .bool false)]) (obl := []) [o_] [4] (fun _ _ => by kernel_rfl) trivial ?_
                    refine TriL.nil (by kernel_rfl) ?_
                    refine TriQ.next ?_
                    refine Tri.ret ?_
                    refine TriQ.passRet ?_
                    exact TriQ.ret (v := .bool false) (l := []) (obl := []) [] [0] (fun _ => by kernel_rfl) trivial rfl (by kernel_rfl) (⟨by rw [decide_eq_false (fun e => h69 (by cases e; first | rfl | exact ⟨rfl, rfl⟩))], rfl⟩)
                  · refine Tri.skip ?_
                    refine TriQ.next ?_
                    refine Tri.seq ?_
                    refine Tri.seq ?_
                    refine Tri.region ?_
                    refine TriL.segK (k' := 1) (fr' := [(2, .pointer (some ⟨b33, 0, none⟩)), (3, .pointer (some ⟨b34, 0, none⟩)), (5, .int .i64 0)]) (obl := []) [o_] [2, 3, 5] (fun _ _ => by kernel_rfl) trivial ?_
                    refine TriL.nil (by kernel_rfl) ?_
                    refine TriQ.next ?_
                    refine Tri.block ?_
                    refine Tri.loop (ι := Nat) (fun (i : Nat) => (i ≤ n.ents.length) ∧ (∀ j, j < i → n.ents.getD j default = m.ents.getD j default)) (fun (i : Nat) => n.ents.length - i) (fun (i : Nat) => [(2, .pointer (some ⟨b33, 0, none⟩)), (3, .pointer (some ⟨b34, 0, none⟩)), (5, .int .i64 (((i : Nat) : Int)))]) (fun (i : Nat) => [.abs R, .blk b33 [.int .i64 (n.id), .int .i64 (n.kind), .int .i64 (n.mode), .int .i64 (n.uid), .int .i64 (n.gid), .int .i64 (n.sec), .int .i64 (n.nano), .slice dA (n.data.length) (dC), .string n.target, .slice eA (n.ents.length) (eC)] 32, .blk b34 [.int .i64 (m.id), .int .i64 (m.kind), .int .i64 (m.mode), .int .i64 (m.uid), .int .i64 (m.gid), .int .i64 (m.sec), .int .i64 (m.nano), .slice dB (m.data.length) (dD), .string m.target, .slice eB (m.ents.length) (eD)] 32]) 0 (idx := [2, 3, 5]) (pk := [0, 1, 2]) (show (0 ≤ n.ents.length) ∧ (∀ j, j < 0 → n.ents.getD j default = m.ents.getD j default) from ⟨Nat.zero_le _, fun j hj => absurd hj (Nat.not_lt_zero j)⟩) (fun _ => by kernel_rfl) rfl (by kernel_rfl) ?_
                    rintro i ⟨hi, hall⟩
                    show Tri _ _ _ _ [(2, .pointer (some ⟨b33, 0, none⟩)), (3, .pointer (some ⟨b34, 0, none⟩)), (5, .int .i64 (((i : Nat) : Int)))] [.abs R, .blk b33 [.int .i64 (n.id), .int .i64 (n.kind), .int .i64 (n.mode), .int .i64 (n.uid), .int .i64 (n.gid), .int .i64 (n.sec), .int .i64 (n.nano), .slice dA (n.data.length) (dC), .string n.target, .slice eA (n.ents.length) (eC)] 32, .blk b34 [.int .i64 (m.id), .int .i64 (m.kind), .int .i64 (m.mode), .int .i64 (m.uid), .int .i64 (m.gid), .int .i64 (m.sec), .int .i64 (m.nano), .slice dB (m.data.length) (dD), .string m.target, .slice eB (m.ents.length) (eD)] 32] _
                    refine Tri.seq ?_
                    refine Tri.seq ?_
                    refine Tri.region ?_
                    refine TriL.segK (k' := 5) (fr' := [(2, .pointer (some ⟨b33, 0, none⟩)), (3, .pointer (some ⟨b34, 0, none⟩)), (5, .int .i64 (((i : Nat) : Int))), (74, .bool (decide ((((i : Nat) : Int) : Int) < (((n.ents.length : Nat) : Int) : Int))))]) (obl := [b33 = b33]) [o_, o_, ⟨[.at 1], none, none, none, none⟩, o_, o_] [2, 3, 5, 74] (fun _ _ => by kernel_rfl) ⟨rfl, trivial⟩ ?_
                    refine TriL.nil (by kernel_rfl) ?_
                    refine TriQ.next ?_
                    refine Tri.condP (p := (((i : Nat) : Int) : Int) < (((n.ents.length : Nat) : Int) : Int)) (fun _ => by kernel_rfl) (fun h74 => ?_) (fun h74 => ?_)
                    · refine Tri.skip ?_
                      refine TriQ.next ?_
                      refine Tri.seq ?_
                      refine Tri.block ?_
                      refine Tri.seq ?_
                      refine Tri.regionQ (by kernel_rfl) (by kernel_rfl) ?_
                      refine TriLQ.seg (k' := 10) (fr' := [(2, .pointer (some ⟨b33, 0, none⟩)), (3, .pointer (some ⟨b34, 0, none⟩)), (5, .int .i64 (((i : Nat) : Int))), (81, .agg #[.string (en n.ents i).name, .int .i64 ((en n.ents i).id)]), (86, .agg #[.string (en m.ents i).name, .int .i64 ((en m.ents i).id)])]) (obl := [(Rd β ⟨(blkOf eB), offOf eB + i * 2 + 1, none⟩ (.int .i64 ((en m.ents i).id))), (Rd β ⟨(blkOf eB), offOf eB + i * 2, none⟩ (.string (en m.ents i).name)), ((i : Nat) : Int) = ((i : Nat) : Int), i < m.ents.length, (⟨(blkOf eB), offOf eB, none⟩ : Addr).spot = none, (eB : Option Addr) = some ⟨(blkOf eB), offOf eB, none⟩, b34 = b34, (Rd β ⟨(blkOf eA), offOf eA + i * 2 + 1, none⟩ (.int .i64 ((en n.ents i).id))), (Rd β ⟨(blkOf eA), offOf eA + i * 2, none⟩ (.string (en n.ents i).name)), ((i : Nat) : Int) = ((i : Nat) : Int), i < n.ents.length, (⟨(blkOf eA), offOf eA, none⟩ : Addr).spot = none, (eA : Option Addr) = some ⟨(blkOf eA), offOf eA, none⟩, b33 = b33]) [o_, ⟨[.at 1], none, none, none, none⟩, o_, ⟨[], some i, none, some ⟨(blkOf eA), offOf eA, none⟩, none⟩, ⟨[.old (.string (en n.ents i).name), .old (.int .i64 ((en n.ents i).id))], none, none, none, none⟩, o_, ⟨[.at 2], none, none, none, none⟩, o_, ⟨[], some i, none, some ⟨(blkOf eB), offOf eB, none⟩, none⟩, ⟨[.old (.string (en m.ents i).name), .old (.int .i64 ((en m.ents i).id))], none, none, none, none⟩] [2, 3, 5, 81, 86] (fun _ _ => by kernel_rfl) ⟨EntsAt.rd hE2 (i := i) (by omega) (j := 1) rfl, EntsAt.rd hE2 (i := i) (by omega) (j := 0) rfl, rfl, by omega, rfl, EntsAt.hd hE2 (i := i) (by omega), rfl, EntsAt.rd hE (i := i) (by omega) (j := 1) rfl, EntsAt.rd hE (i := i) (by omega) (j := 0) rfl, rfl, by omega, rfl, EntsAt.hd hE (i := i) (by omega), rfl, trivial⟩ ?_
                      refine TriLQ.run1 (d := (some 87)) (op := .binOp .neq 72 (.tmp 81) (.tmp 86) 72) (v := .bool (!(decide ((en n.ents i).name = (en m.ents i).name ∧ ((en n.ents i).id : Int) = ((en m.ents i).id : Int))))) (fun _ => by kernel_rfl) (fun o junk w ho _ => ran_entNeq ho (by kernel_rfl) (by kernel_rfl)) ?_
                      refine TriLQ.nil (by kernel_rfl) ?_
                      refine TriQ.next ?_
                      refine Tri.condN (p := (en n.ents i).name = (en m.ents i).name ∧ ((en n.ents i).id : Int) = ((en m.ents i).id : Int)) (fun _ => by kernel_rfl) (fun h87 => ?_) (fun h87 => ?_)
                      · refine Tri.seq ?_
                        refine Tri.region ?_
                        refine TriL.segK (k' := 1) (fr' := [(4, .bool false)]) (obl := []) [o_] [4] (fun _ _ => by kernel_rfl) trivial ?_
                        refine TriL.nil (by kernel_rfl) ?_
                        refine TriQ.next ?_
                        refine Tri.ret ?_
                        refine TriQ.blockRet ?_
                        refine TriQ.passRet ?_
                        refine TriQ.passRet ?_
                        refine TriQ.blockRet ?_
                        refine TriQ.passRet ?_
                        exact TriQ.ret (v := .bool false) (l := []) (obl := []) [] [0] (fun _ => by kernel_rfl) trivial rfl (by kernel_rfl) (⟨by rw [decide_eq_false (fun e => h87 (by cases e; first | rfl | exact ⟨rfl, rfl⟩))], rfl⟩)
                      · refine Tri.skip ?_
                        refine TriQ.blockNormal ?_
                        refine TriQ.next ?_
                        refine Tri.region ?_
                        refine TriL.segK (k' := 3) (fr' := [(2, .pointer (some ⟨b33, 0, none⟩)), (3, .pointer (some ⟨b34, 0, none⟩)), (5, .int .i64 (((i + 1 : Nat) : Int)))]) (obl := [(Value.int .i64 (IntKind.wrap .i64 (((i : Nat) : Int) + 1))) = (.int .i64 (((i + 1 : Nat) : Int)))]) [o_, ⟨[], none, none, none, some (.int .i64 (((i + 1 : Nat) : Int)))⟩, o_] [2, 3, 5] (fun _ _ => by kernel_rfl) ⟨wrapEq (by omega) (by omega) (by omega), trivial⟩ ?_
                        refine TriL.nil (by kernel_rfl) ?_
                        exact TriQ.turn ((i + 1)) (idx := [2, 3, 5]) (pk := [0, 1, 2]) (show (((i + 1)) ≤ n.ents.length) ∧ (∀ j, j < ((i + 1)) → n.ents.getD j default = m.ents.getD j default) from ⟨by omega, fun j hj => by rcases Nat.lt_succ_iff_lt_or_eq.1 hj with h | h; exact hall j h; subst h; exact entEq h87⟩) (by show n.ents.length - ((i + 1)) < n.ents.length - i; omega) (fun _ => by kernel_rfl) rfl (by kernel_rfl)
                    · refine Tri.exit ?_
                      refine TriQ.passExit ?_
                      refine TriQ.passExit ?_
                      refine TriQ.blockHit ?_
                      refine TriQ.next ?_
                      refine Tri.seq ?_
                      refine Tri.region ?_
                      refine TriL.segK (k' := 1) (fr' := [(4, .bool true)]) (obl := []) [o_] [4] (fun _ _ => by kernel_rfl) trivial ?_
                      refine TriL.nil (by kernel_rfl) ?_
                      refine TriQ.next ?_
                      refine Tri.ret ?_
                      exact TriQ.ret (v := .bool true) (l := []) (obl := []) [] [0] (fun _ => by kernel_rfl) trivial rfl (by kernel_rfl) (⟨by rw [decide_eq_true (nodeEq (by omega) (by omega) (by omega) (by omega) (by omega) (by assumption) (by assumption) (by assumption) (ext_getD (x := default) (by omega) (fun j hj => hall j (by omega))))], rfl⟩)
set_option maxRecDepth 100000 in
set_option maxHeartbeats 4000000 in
theorem sp_sameGraph {β : Bs} (A B : Option Addr) (c c' : Nat) (ns ms : List NodeM) (L K : Lay) (hG : GraphAt β A ns L) (hH : GraphAt β B ms K) (hl : ns.length ≤ 1048576) (hd : ∀ i, i < ns.length → (nd ns i).data.length ≤ 1048576 ∧ (nd ns i).ents.length ≤ 1048576) :
    Spec Try.prog β 17 #[.agg #[.slice A ns.length c], .agg #[.slice B ms.length c']] [] (fun v l => v = .bool (decide (ns = ms)) ∧ l = []) := by
  refine Spec.enter Try.func17 rfl Try.ntmps17 (Nat.le_of_ble_eq_true rfl) (fun R => ?_)
  refine Tri.seq ?_
  refine Tri.region ?_
  refine TriL.segN (k' := 1) (fr' := fun b35 => [(1, .agg #[.slice B (ms.length) (c')]), (2, .pointer (some ⟨b35, 0, none⟩))]) (hps' := fun b35 => [.abs R, .blk b35 [.slice A (ns.length) (c)] 24]) (obl := fun b35 => []) [o_] [1, 2] [0, 1] (fun _ _ => by kernel_rfl) (fun b35 => trivial) (fun b35 => ?_)
  refine TriL.segN (k' := 3) (fr' := fun b36 => [(2, .pointer (some ⟨b35, 0, none⟩)), (3, .pointer (some ⟨b36, 0, none⟩))]) (hps' := fun b36 => [.abs R, .blk b35 [.slice A (ns.length) (c)] 24, .blk b36 [.slice B (ms.length) (c')] 24]) (obl := fun b36 => []) [o_, o_] [2, 3] [0, 1, 2] (fun _ _ => by kernel_rfl) (fun b36 => trivial) (fun b36 => ?_)
  refine TriL.nil (by kernel_rfl) ?_
  refine TriQ.next ?_
  refine Tri.seq ?_
  refine Tri.seq ?_
  refine Tri.region ?_
  refine TriL.segK (k' := 7) (fr' := [(2, .pointer (some ⟨b35, 0, none⟩)), (3, .pointer (some ⟨b36, 0, none⟩)), (12, .bool (!(decide ((((ns.length : Nat) : Int) : Int) = (((ms.length : Nat) : Int) : Int)))))]) (obl := [b36 = b36, b35 = b35]) [o_, ⟨[.at 1], none, none, none, none⟩, o_, o_, ⟨[.at 2], none, none, none, none⟩, o_, o_] [2, 3, 12] (fun _ _ => by kernel_rfl) ⟨rfl, rfl, trivial⟩ ?_
  refine TriL.nil (by kernel_rfl) ?_
  refine TriQ.next ?_
  refine Tri.condN (p := (((ns.length : Nat) : Int) : Int) = (((ms.length : Nat) : Int) : Int)) (fun _ => by kernel_rfl) (fun h12 => ?_) (fun h12 => ?_)
  · refine Tri.seq ?_
    refine Tri.region ?_
    refine TriL.segK (k' := 1) (fr' := [(4, .bool false)]) (obl := []) [o_] [4] (fun _ _ => by kernel_rfl) trivial ?_
    refine TriL.nil (by kernel_rfl) ?_
    refine TriQ.next ?_
    refine Tri.ret ?_
    refine TriQ.passRet ?_
    exact TriQ.ret (v := .bool false) (l := []) (obl := []) [] [0] (fun _ => by kernel_rfl) trivial rfl (by kernel_rfl) (⟨by rw [decide_eq_false (fun e => h12 (by rw [e]))], rfl⟩)
  · refine Tri.skip ?_
    refine TriQ.next ?_
    refine Tri.seq ?_
    refine Tri.seq ?_
    refine Tri.region ?_
    refine TriL.segK (k' := 1) (fr' := [(2, .pointer (some ⟨b35, 0, none⟩)), (3, .pointer (some ⟨b36, 0, none⟩)), (5, .int .i64 0)]) (obl := []) [o_] [2, 3, 5] (fun _ _ => by kernel_rfl) trivial ?_
    refine TriL.nil (by kernel_rfl) ?_
    refine TriQ.next ?_
    refine Tri.block ?_
    refine Tri.loop (ι := Nat) (fun (i : Nat) => (i ≤ ns.length) ∧ (∀ j, j < i → ns.getD j default = ms.getD j default)) (fun (i : Nat) => ns.length - i) (fun (i : Nat) => [(2, .pointer (some ⟨b35, 0, none⟩)), (3, .pointer (some ⟨b36, 0, none⟩)), (5, .int .i64 (((i : Nat) : Int)))]) (fun (i : Nat) => [.abs R, .blk b35 [.slice A (ns.length) (c)] 24, .blk b36 [.slice B (ms.length) (c')] 24]) 0 (idx := [2, 3, 5]) (pk := [0, 1, 2]) (show (0 ≤ ns.length) ∧ (∀ j, j < 0 → ns.getD j default = ms.getD j default) from ⟨Nat.zero_le _, fun j hj => absurd hj (Nat.not_lt_zero j)⟩) (fun _ => by kernel_rfl) rfl (by kernel_rfl) ?_
    rintro i ⟨hi, hall⟩
    show Tri _ _ _ _ [(2, .pointer (some ⟨b35, 0, none⟩)), (3, .pointer (some ⟨b36, 0, none⟩)), (5, .int .i64 (((i : Nat) : Int)))] [.abs R, .blk b35 [.slice A (ns.length) (c)] 24, .blk b36 [.slice B (ms.length) (c')] 24] _
    refine Tri.seq ?_
    refine Tri.seq ?_
    refine Tri.region ?_
    refine TriL.segK (k' := 5) (fr' := [(2, .pointer (some ⟨b35, 0, none⟩)), (3, .pointer (some ⟨b36, 0, none⟩)), (5, .int .i64 (((i : Nat) : Int))), (17, .bool (decide ((((i : Nat) : Int) : Int) < (((ns.length : Nat) : Int) : Int))))]) (obl := [b35 = b35]) [o_, o_, ⟨[.at 1], none, none, none, none⟩, o_, o_] [2, 3, 5, 17] (fun _ _ => by kernel_rfl) ⟨rfl, trivial⟩ ?_
    refine TriL.nil (by kernel_rfl) ?_
    refine TriQ.next ?_
    refine Tri.condP (p := (((i : Nat) : Int) : Int) < (((ns.length : Nat) : Int) : Int)) (fun _ => by kernel_rfl) (fun h17 => ?_) (fun h17 => ?_)
    · refine Tri.skip ?_
      refine TriQ.next ?_
      refine Tri.seq ?_
      refine Tri.block ?_
      refine Tri.seq ?_
      refine Tri.regionQ (by kernel_rfl) (by kernel_rfl) ?_
      refine TriLQ.seg (k' := 10) (fr' := [(2, .pointer (some ⟨b35, 0, none⟩)), (3, .pointer (some ⟨b36, 0, none⟩)), (5, .int .i64 (((i : Nat) : Int))), (24, .agg #[.int .i64 ((nd ns i).id), .int .i64 ((nd ns i).kind), .int .i64 ((nd ns i).mode), .int .i64 ((nd ns i).uid), .int .i64 ((nd ns i).gid), .int .i64 ((nd ns i).sec), .int .i64 ((nd ns i).nano), .slice (L.dA i) ((nd ns i).data.length) ((L.dC i)), .string (nd ns i).target, .slice (L.eA i) ((nd ns i).ents.length) ((L.eC i))]), (29, .agg #[.int .i64 ((nd ms i).id), .int .i64 ((nd ms i).kind), .int .i64 ((nd ms i).mode), .int .i64 ((nd ms i).uid), .int .i64 ((nd ms i).gid), .int .i64 ((nd ms i).sec), .int .i64 ((nd ms i).nano), .slice (K.dA i) ((nd ms i).data.length) ((K.dC i)), .string (nd ms i).target, .slice (K.eA i) ((nd ms i).ents.length) ((K.eC i))])]) (obl := [(Rd β ⟨(blkOf B), offOf B + i * 10 + 9, none⟩ (.slice (K.eA i) ((nd ms i).ents.length) ((K.eC i)))), (Rd β ⟨(blkOf B), offOf B + i * 10 + 8, none⟩ (.string (nd ms i).target)), (Rd β ⟨(blkOf B), offOf B + i * 10 + 7, none⟩ (.slice (K.dA i) ((nd ms i).data.length) ((K.dC i)))), (Rd β ⟨(blkOf B), offOf B + i * 10 + 6, none⟩ (.int .i64 ((nd ms i).nano))), (Rd β ⟨(blkOf B), offOf B + i * 10 + 5, none⟩ (.int .i64 ((nd ms i).sec))), (Rd β ⟨(blkOf B), offOf B + i * 10 + 4, none⟩ (.int .i64 ((nd ms i).gid))), (Rd β ⟨(blkOf B), offOf B + i * 10 + 3, none⟩ (.int .i64 ((nd ms i).uid))), (Rd β ⟨(blkOf B), offOf B + i * 10 + 2, none⟩ (.int .i64 ((nd ms i).mode))), (Rd β ⟨(blkOf B), offOf B + i * 10 + 1, none⟩ (.int .i64 ((nd ms i).kind))), (Rd β ⟨(blkOf B), offOf B + i * 10, none⟩ (.int .i64 ((nd ms i).id))), ((i : Nat) : Int) = ((i : Nat) : Int), i < ms.length, (⟨(blkOf B), offOf B, none⟩ : Addr).spot = none, (B : Option Addr) = some ⟨(blkOf B), offOf B, none⟩, b36 = b36, (Rd β ⟨(blkOf A), offOf A + i * 10 + 9, none⟩ (.slice (L.eA i) ((nd ns i).ents.length) ((L.eC i)))), (Rd β ⟨(blkOf A), offOf A + i * 10 + 8, none⟩ (.string (nd ns i).target)), (Rd β ⟨(blkOf A), offOf A + i * 10 + 7, none⟩ (.slice (L.dA i) ((nd ns i).data.length) ((L.dC i)))), (Rd β ⟨(blkOf A), offOf A + i * 10 + 6, none⟩ (.int .i64 ((nd ns i).nano))), (Rd β ⟨(blkOf A), offOf A + i * 10 + 5, none⟩ (.int .i64 ((nd ns i).sec))), (Rd β ⟨(blkOf A), offOf A + i * 10 + 4, none⟩ (.int .i64 ((nd ns i).gid))), (Rd β ⟨(blkOf A), offOf A + i * 10 + 3, none⟩ (.int .i64 ((nd ns i).uid))), (Rd β ⟨(blkOf A), offOf A + i * 10 + 2, none⟩ (.int .i64 ((nd ns i).mode))), (Rd β ⟨(blkOf A), offOf A + i * 10 + 1, none⟩ (.int .i64 ((nd ns i).kind))), (Rd β ⟨(blkOf A), offOf A + i * 10, none⟩ (.int .i64 ((nd ns i).id))), ((i : Nat) : Int) = ((i : Nat) : Int), i < ns.length, (⟨(blkOf A), offOf A, none⟩ : Addr).spot = none, (A : Option Addr) = some ⟨(blkOf A), offOf A, none⟩, b35 = b35]) [o_, ⟨[.at 1], none, none, none, none⟩, o_, ⟨[], some i, none, some ⟨(blkOf A), offOf A, none⟩, none⟩, ⟨[.old (.int .i64 ((nd ns i).id)), .old (.int .i64 ((nd ns i).kind)), .old (.int .i64 ((nd ns i).mode)), .old (.int .i64 ((nd ns i).uid)), .old (.int .i64 ((nd ns i).gid)), .old (.int .i64 ((nd ns i).sec)), .old (.int .i64 ((nd ns i).nano)), .old (.slice (L.dA i) ((nd ns i).data.length) ((L.dC i))), .old (.string (nd ns i).target), .old (.slice (L.eA i) ((nd ns i).ents.length) ((L.eC i)))], none, none, none, none⟩, o_, ⟨[.at 2], none, none, none, none⟩, o_, ⟨[], some i, none, some ⟨(blkOf B), offOf B, none⟩, none⟩, ⟨[.old (.int .i64 ((nd ms i).id)), .old (.int .i64 ((nd ms i).kind)), .old (.int .i64 ((nd ms i).mode)), .old (.int .i64 ((nd ms i).uid)), .old (.int .i64 ((nd ms i).gid)), .old (.int .i64 ((nd ms i).sec)), .old (.int .i64 ((nd ms i).nano)), .old (.slice (K.dA i) ((nd ms i).data.length) ((K.dC i))), .old (.string (nd ms i).target), .old (.slice (K.eA i) ((nd ms i).ents.length) ((K.eC i)))], none, none, none, none⟩] [2, 3, 5, 24, 29] (fun _ _ => by kernel_rfl) ⟨GraphAt.rd hH (i := i) (by omega) (j := 9) rfl, GraphAt.rd hH (i := i) (by omega) (j := 8) rfl, GraphAt.rd hH (i := i) (by omega) (j := 7) rfl, GraphAt.rd hH (i := i) (by omega) (j := 6) rfl, GraphAt.rd hH (i := i) (by omega) (j := 5) rfl, GraphAt.rd hH (i := i) (by omega) (j := 4) rfl, GraphAt.rd hH (i := i) (by omega) (j := 3) rfl, GraphAt.rd hH (i := i) (by omega) (j := 2) rfl, GraphAt.rd hH (i := i) (by omega) (j := 1) rfl, GraphAt.rd hH (i := i) (by omega) (j := 0) rfl, rfl, by omega, rfl, GraphAt.hd hH (i := i) (by omega), rfl, GraphAt.rd hG (i := i) (by omega) (j := 9) rfl, GraphAt.rd hG (i := i) (by omega) (j := 8) rfl, GraphAt.rd hG (i := i) (by omega) (j := 7) rfl, GraphAt.rd hG (i := i) (by omega) (j := 6) rfl, GraphAt.rd hG (i := i) (by omega) (j := 5) rfl, GraphAt.rd hG (i := i) (by omega) (j := 4) rfl, GraphAt.rd hG (i := i) (by omega) (j := 3) rfl, GraphAt.rd hG (i := i) (by omega) (j := 2) rfl, GraphAt.rd hG (i := i) (by omega) (j := 1) rfl, GraphAt.rd hG (i := i) (by omega) (j := 0) rfl, rfl, by omega, rfl, GraphAt.hd hG (i := i) (by omega), rfl, trivial⟩ ?_
      refine TriLQ.call (f := 41) (args := #[.agg #[.int .i64 ((nd ns i).id), .int .i64 ((nd ns i).kind), .int .i64 ((nd ns i).mode), .int .i64 ((nd ns i).uid), .int .i64 ((nd ns i).gid), .int .i64 ((nd ns i).sec), .int .i64 ((nd ns i).nano), .slice (L.dA i) ((nd ns i).data.length) ((L.dC i)), .string (nd ns i).target, .slice (L.eA i) ((nd ns i).ents.length) ((L.eC i))], .agg #[.int .i64 ((nd ms i).id), .int .i64 ((nd ms i).kind), .int .i64 ((nd ms i).mode), .int .i64 ((nd ms i).uid), .int .i64 ((nd ms i).gid), .int .i64 ((nd ms i).sec), .int .i64 ((nd ms i).nano), .slice (K.dA i) ((nd ms i).data.length) ((K.dC i)), .string (nd ms i).target, .slice (K.eA i) ((nd ms i).ents.length) ((K.eC i))]]) (d := (some 30)) (pre := []) (R := [.abs R, .blk b35 [.slice A (ns.length) (c)] 24, .blk b36 [.slice B (ms.length) (c')] 24]) (pk := [0, 1, 2]) (pk' := [0, 1, 2]) (v0 := .bool (decide (nd ns i = nd ms i))) (fun _ => by kernel_rfl) (sp_sameNode (nd ns i) (nd ms i) (L.dA i) (L.eA i) (K.dA i) (K.eA i) (L.dC i) (L.eC i) (K.dC i) (K.eC i) (hG.data i (by omega)) (hG.ents i (by omega)) (hH.data i (by omega)) (hH.ents i (by omega)) (hd i (by omega)).1 (hd i (by omega)).2) rfl (by kernel_rfl) rfl (by kernel_rfl) (fun _ _ h => h) ?_
      refine TriLQ.seg (k' := 12) (fr' := [(2, .pointer (some ⟨b35, 0, none⟩)), (3, .pointer (some ⟨b36, 0, none⟩)), (5, .int .i64 (((i : Nat) : Int))), (31, .bool (!(decide (nd ns i = nd ms i))))]) (obl := []) [o_] [2, 3, 5, 31] (fun _ _ => by kernel_rfl) trivial ?_
      refine TriLQ.nil (by kernel_rfl) ?_
      refine TriQ.next ?_
      refine Tri.condN (p := nd ns i = nd ms i) (fun _ => by kernel_rfl) (fun h31 => ?_) (fun h31 => ?_)
      · refine Tri.seq ?_
        refine Tri.region ?_
        refine TriL.segK (k' := 1) (fr' := [(4, .bool false)]) (obl := []) [o_] [4] (fun _ _ => by kernel_rfl) trivial ?_
        refine TriL.nil (by kernel_rfl) ?_
        refine TriQ.next ?_
        refine Tri.ret ?_
        refine TriQ.blockRet ?_
        refine TriQ.passRet ?_
        refine TriQ.passRet ?_
        refine TriQ.blockRet ?_
        refine TriQ.passRet ?_
        exact TriQ.ret (v := .bool false) (l := []) (obl := []) [] [0] (fun _ => by kernel_rfl) trivial rfl (by kernel_rfl) (⟨by rw [decide_eq_false (fun e => h31 (by rw [e]))], rfl⟩)
      · refine Tri.skip ?_
        refine TriQ.blockNormal ?_
        refine TriQ.next ?_
        refine Tri.region ?_
        refine TriL.segK (k' := 3) (fr' := [(2, .pointer (some ⟨b35, 0, none⟩)), (3, .pointer (some ⟨b36, 0, none⟩)), (5, .int .i64 (((i + 1 : Nat) : Int)))]) (obl := [(Value.int .i64 (IntKind.wrap .i64 (((i : Nat) : Int) + 1))) = (.int .i64 (((i + 1 : Nat) : Int)))]) [o_, ⟨[], none, none, none, some (.int .i64 (((i + 1 : Nat) : Int)))⟩, o_] [2, 3, 5] (fun _ _ => by kernel_rfl) ⟨wrapEq (by omega) (by omega) (by omega), trivial⟩ ?_
        refine TriL.nil (by kernel_rfl) ?_
        exact TriQ.turn ((i + 1)) (idx := [2, 3, 5]) (pk := [0, 1, 2]) (show (((i + 1)) ≤ ns.length) ∧ (∀ j, j < ((i + 1)) → ns.getD j default = ms.getD j default) from ⟨by omega, fun j hj => by rcases Nat.lt_succ_iff_lt_or_eq.1 hj with h | h; exact hall j h; subst h; exact h31⟩) (by show ns.length - ((i + 1)) < ns.length - i; omega) (fun _ => by kernel_rfl) rfl (by kernel_rfl)
    · refine Tri.exit ?_
      refine TriQ.passExit ?_
      refine TriQ.passExit ?_
      refine TriQ.blockHit ?_
      refine TriQ.next ?_
      refine Tri.seq ?_
      refine Tri.region ?_
      refine TriL.segK (k' := 1) (fr' := [(4, .bool true)]) (obl := []) [o_] [4] (fun _ _ => by kernel_rfl) trivial ?_
      refine TriL.nil (by kernel_rfl) ?_
      refine TriQ.next ?_
      refine Tri.ret ?_
      exact TriQ.ret (v := .bool true) (l := []) (obl := []) [] [0] (fun _ => by kernel_rfl) trivial rfl (by kernel_rfl) (⟨by rw [decide_eq_true (ext_getD (x := default) (by omega) (fun j hj => hall j (by omega)))], rfl⟩)
end Go.Proofs.Ytjpdcppdoonmdaa
