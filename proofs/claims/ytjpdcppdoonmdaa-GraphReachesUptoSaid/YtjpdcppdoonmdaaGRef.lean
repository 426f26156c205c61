/-
  PROVED HERE: the reference checks a graph
  CONDITIONS: as the theorems say. Printed by a program of this repo (wip/v).
-/
import Derived.Test.YtjpdcppdoonmdaaGP
namespace Go.Proofs.Ytjpdcppdoonmdaa
open Go.RowKit
attribute [local irreducible] TriL TriLQ Tri TriQ
set_option maxRecDepth 100000 in
set_option maxHeartbeats 4000000 in
theorem sp_refCheck {β : Bs} (A : Option Addr) (c : Nat) (ns : List NodeM) (L : Lay) (hG : GraphAt β A ns L) (hl : ns.length ≤ 1048576) (hd : ∀ i, i < ns.length → (nd ns i).data.length ≤ 1048576 ∧ (nd ns i).ents.length ≤ 1048576) (_ : ∀ i, i < ns.length → ∀ j, j < (nd ns i).ents.length → -9223372036854775808 ≤ (ent ns i j).id ∧ (ent ns i j).id ≤ 9223372036854775807) (hnm : ∀ i, i < ns.length → ∀ j, j < (nd ns i).ents.length → (ent ns i j).name.size ≤ 1048576) (ht : ∀ i, i < ns.length → (nd ns i).target.size ≤ 1048576) :
    Spec Try.prog β 16 #[.agg #[.slice A ns.length c]] [] (fun v l => v = .int .i64 (if GraphOk ns then 0 else 140) ∧ l = []) := by
  refine Spec.enter Try.func16 rfl Try.ntmps16 (Nat.le_of_ble_eq_true rfl) (fun R => ?_)
  refine Tri.seq ?_
  refine Tri.region ?_
  refine TriL.segN (k' := 2) (fr' := fun b1 => [(1, .pointer (some ⟨b1, 0, none⟩))]) (hps' := fun b1 => [.abs R, .blk b1 [.slice A (ns.length) (c)] 24]) (obl := fun b1 => []) [o_, o_] [1] [0, 1] (fun _ _ => by kernel_rfl) (fun b1 => trivial) (fun b1 => ?_)
  refine TriL.nil (by kernel_rfl) ?_
  refine TriQ.next ?_
  refine Tri.seq ?_
  refine Tri.seq ?_
  refine Tri.region ?_
  refine TriL.segK (k' := 4) (fr' := [(1, .pointer (some ⟨b1, 0, none⟩)), (18, .bool (decide ((((ns.length : Nat) : Int) : Int) > (4096 : Int))))]) (obl := [b1 = b1]) [o_, ⟨[.at 1], none, none, none, none⟩, o_, o_] [1, 18] (fun _ _ => by kernel_rfl) ⟨rfl, trivial⟩ ?_
  refine TriL.nil (by kernel_rfl) ?_
  refine TriQ.next ?_
  refine Tri.condP (p := (((ns.length : Nat) : Int) : Int) > (4096 : Int)) (fun _ => by kernel_rfl) (fun h18 => ?_) (fun h18 => ?_)
  · refine Tri.seq ?_
    refine Tri.region ?_
    refine TriL.segK (k' := 1) (fr' := [(2, .int .i64 140)]) (obl := []) [o_] [2] (fun _ _ => by kernel_rfl) trivial ?_
    refine TriL.nil (by kernel_rfl) ?_
    refine TriQ.next ?_
    refine Tri.ret ?_
    refine TriQ.passRet ?_
    exact TriQ.ret (v := .int .i64 140) (l := []) (obl := []) [] [0] (fun _ => by kernel_rfl) trivial rfl (by kernel_rfl) (⟨congrArg (Value.int .i64) (if_neg (c := GraphOk ns) (fun h => by have := h.len; omega)).symm, rfl⟩)
  · refine Tri.skip ?_
    refine TriQ.next ?_
    refine Tri.seq ?_
    refine Tri.region ?_
    refine TriL.segK (k' := 1) (fr' := [(1, .pointer (some ⟨b1, 0, none⟩)), (3, .int .i64 0)]) (obl := []) [o_] [1, 3] (fun _ _ => by kernel_rfl) trivial ?_
    refine TriL.nil (by kernel_rfl) ?_
    refine TriQ.next ?_
    refine Tri.seq ?_
    refine Tri.seq ?_
    refine Tri.region ?_
    refine TriL.segK (k' := 1) (fr' := [(1, .pointer (some ⟨b1, 0, none⟩)), (3, .int .i64 0), (4, .int .i64 0)]) (obl := []) [o_] [1, 3, 4] (fun _ _ => by kernel_rfl) trivial ?_
    refine TriL.nil (by kernel_rfl) ?_
    refine TriQ.next ?_
    refine Tri.block ?_
    refine Tri.loop (ι := Nat) (fun (k : Nat) => (k ≤ ns.length) ∧ (Upto ns k) ∧ (entSum ns k ≤ k * 1048576)) (fun (k : Nat) => ns.length - k) (fun (k : Nat) => [(1, .pointer (some ⟨b1, 0, none⟩)), (3, .int .i64 (((entSum ns k : Nat) : Int))), (4, .int .i64 (((k : Nat) : Int)))]) (fun (k : Nat) => [.blk b1 [.slice A (ns.length) (c)] 24, .abs R]) 0 (idx := [1, 3, 4]) (pk := [1, 0]) (show (0 ≤ ns.length) ∧ (Upto ns 0) ∧ (entSum ns 0 ≤ 0 * 1048576) from ⟨Nat.zero_le _, Upto.zero ns, Nat.zero_le _⟩) (fun _ => by kernel_rfl) rfl (by kernel_rfl) ?_
    rintro k ⟨hk, hu, hs⟩
    show Tri _ _ _ _ [(1, .pointer (some ⟨b1, 0, none⟩)), (3, .int .i64 (((entSum ns k : Nat) : Int))), (4, .int .i64 (((k : Nat) : Int)))] [.blk b1 [.slice A (ns.length) (c)] 24, .abs R] _
    have hk4 := (hd k)
    refine Tri.seq ?_
    refine Tri.seq ?_
    refine Tri.region ?_
    refine TriL.segK (k' := 5) (fr' := [(1, .pointer (some ⟨b1, 0, none⟩)), (3, .int .i64 (((entSum ns k : Nat) : Int))), (4, .int .i64 (((k : Nat) : Int))), (23, .bool (decide ((((k : Nat) : Int) : Int) < (((ns.length : Nat) : Int) : Int))))]) (obl := [b1 = b1]) [o_, o_, ⟨[.at 0], none, none, none, none⟩, o_, o_] [1, 3, 4, 23] (fun _ _ => by kernel_rfl) ⟨rfl, trivial⟩ ?_
    refine TriL.nil (by kernel_rfl) ?_
    refine TriQ.next ?_
    refine Tri.condP (p := (((k : Nat) : Int) : Int) < (((ns.length : Nat) : Int) : Int)) (fun _ => by kernel_rfl) (fun h23 => ?_) (fun h23 => ?_)
    · refine Tri.skip ?_
      refine TriQ.next ?_
      refine Tri.seq ?_
      refine Tri.block ?_
      refine Tri.seq ?_
      refine Tri.region ?_
      refine TriL.segN (k' := 7) (fr' := fun b2 => [(1, .pointer (some ⟨b1, 0, none⟩)), (3, .int .i64 (((entSum ns k : Nat) : Int))), (4, .int .i64 (((k : Nat) : Int))), (5, .pointer (some ⟨b2, 0, none⟩))]) (hps' := fun b2 => [.blk b1 [.slice A (ns.length) (c)] 24, .abs R, .blk b2 [.int .i64 ((nd ns k).id), .int .i64 ((nd ns k).kind), .int .i64 ((nd ns k).mode), .int .i64 ((nd ns k).uid), .int .i64 ((nd ns k).gid), .int .i64 ((nd ns k).sec), .int .i64 ((nd ns k).nano), .slice (L.dA k) ((nd ns k).data.length) ((L.dC k)), .string (nd ns k).target, .slice (L.eA k) ((nd ns k).ents.length) ((L.eC k))] 32]) (obl := fun b2 => [b2 = b2, b2 = b2, b2 = b2, b2 = b2, b2 = b2, b2 = b2, b2 = b2, b2 = b2, b2 = b2, b2 = b2, (Rd β ⟨(blkOf A), offOf A + k * 10 + 9, none⟩ (.slice (L.eA k) ((nd ns k).ents.length) ((L.eC k)))), (Rd β ⟨(blkOf A), offOf A + k * 10 + 8, none⟩ (.string (nd ns k).target)), (Rd β ⟨(blkOf A), offOf A + k * 10 + 7, none⟩ (.slice (L.dA k) ((nd ns k).data.length) ((L.dC k)))), (Rd β ⟨(blkOf A), offOf A + k * 10 + 6, none⟩ (.int .i64 ((nd ns k).nano))), (Rd β ⟨(blkOf A), offOf A + k * 10 + 5, none⟩ (.int .i64 ((nd ns k).sec))), (Rd β ⟨(blkOf A), offOf A + k * 10 + 4, none⟩ (.int .i64 ((nd ns k).gid))), (Rd β ⟨(blkOf A), offOf A + k * 10 + 3, none⟩ (.int .i64 ((nd ns k).uid))), (Rd β ⟨(blkOf A), offOf A + k * 10 + 2, none⟩ (.int .i64 ((nd ns k).mode))), (Rd β ⟨(blkOf A), offOf A + k * 10 + 1, none⟩ (.int .i64 ((nd ns k).kind))), (Rd β ⟨(blkOf A), offOf A + k * 10, none⟩ (.int .i64 ((nd ns k).id))), ((k : Nat) : Int) = ((k : Nat) : Int), k < ns.length, (⟨(blkOf A), offOf A, none⟩ : Addr).spot = none, (A : Option Addr) = some ⟨(blkOf A), offOf A, none⟩, b1 = b1]) [o_, ⟨[.at 0], none, none, none, none⟩, o_, ⟨[], some k, none, some ⟨(blkOf A), offOf A, none⟩, none⟩, ⟨[.old (.int .i64 ((nd ns k).id)), .old (.int .i64 ((nd ns k).kind)), .old (.int .i64 ((nd ns k).mode)), .old (.int .i64 ((nd ns k).uid)), .old (.int .i64 ((nd ns k).gid)), .old (.int .i64 ((nd ns k).sec)), .old (.int .i64 ((nd ns k).nano)), .old (.slice (L.dA k) ((nd ns k).data.length) ((L.dC k))), .old (.string (nd ns k).target), .old (.slice (L.eA k) ((nd ns k).ents.length) ((L.eC k)))], none, none, none, none⟩, o_, ⟨[.at 2, .at 2, .at 2, .at 2, .at 2, .at 2, .at 2, .at 2, .at 2, .at 2], none, none, none, none⟩] [1, 3, 4, 5] [0, 1, 2] (fun _ _ => by kernel_rfl) (fun b2 => ⟨rfl, rfl, rfl, rfl, rfl, rfl, rfl, rfl, rfl, rfl, GraphAt.rd hG (i := k) (by omega) (j := 9) rfl, GraphAt.rd hG (i := k) (by omega) (j := 8) rfl, GraphAt.rd hG (i := k) (by omega) (j := 7) rfl, GraphAt.rd hG (i := k) (by omega) (j := 6) rfl, GraphAt.rd hG (i := k) (by omega) (j := 5) rfl, GraphAt.rd hG (i := k) (by omega) (j := 4) rfl, GraphAt.rd hG (i := k) (by omega) (j := 3) rfl, GraphAt.rd hG (i := k) (by omega) (j := 2) rfl, GraphAt.rd hG (i := k) (by omega) (j := 1) rfl, GraphAt.rd hG (i := k) (by omega) (j := 0) rfl, rfl, by omega, rfl, GraphAt.hd hG (i := k) (by omega), rfl, trivial⟩) (fun b2 => ?_)
      refine TriL.nil (by kernel_rfl) ?_
      refine TriQ.next ?_
      refine Tri.seq ?_
      refine Tri.seq ?_
      refine Tri.regionQ (by kernel_rfl) (by kernel_rfl) ?_
      refine TriLQ.seg (k' := 4) (fr' := [(1, .pointer (some ⟨b1, 0, none⟩)), (3, .int .i64 (((entSum ns k : Nat) : Int))), (4, .int .i64 (((k : Nat) : Int))), (5, .pointer (some ⟨b2, 0, none⟩)), (34, .bool (decide (((nd ns k).id : Int) < (1 : Int))))]) (obl := [b2 = b2]) [o_, ⟨[.at 2], none, none, none, none⟩, o_, o_] [1, 3, 4, 5, 34] (fun _ _ => by kernel_rfl) ⟨rfl, trivial⟩ ?_
      refine TriLQ.slotP 34 (((nd ns k).id : Int) < (1 : Int)) (fun _ => by kernel_rfl) (fun h34 => ?_) (fun h34 => ?_)
      · refine TriLQ.seg (k' := 29) (fr' := [(1, .pointer (some ⟨b1, 0, none⟩)), (3, .int .i64 (((entSum ns k : Nat) : Int))), (4, .int .i64 (((k : Nat) : Int))), (5, .pointer (some ⟨b2, 0, none⟩)), (59, .bool true)]) (obl := []) [o_, o_, o_, o_, o_, o_, o_, o_, o_, o_, o_, o_, o_, o_, o_, o_, o_, o_, o_, o_, o_, o_, o_, o_, o_] [1, 3, 4, 5, 59] (fun _ _ => by kernel_rfl) trivial ?_
        refine TriLQ.nil (by kernel_rfl) ?_
        refine TriQ.next ?_
        refine Tri.condT (fun _ => by kernel_rfl) ?_
        refine Tri.seq ?_
        refine Tri.region ?_
        refine TriL.segK (k' := 1) (fr' := [(2, .int .i64 140)]) (obl := []) [o_] [2] (fun _ _ => by kernel_rfl) trivial ?_
        refine TriL.nil (by kernel_rfl) ?_
        refine TriQ.next ?_
        refine Tri.ret ?_
        refine TriQ.passRet ?_
        refine TriQ.blockRet ?_
        refine TriQ.passRet ?_
        refine TriQ.passRet ?_
        refine TriQ.blockRet ?_
        refine TriQ.passRet ?_
        exact TriQ.ret (v := .int .i64 140) (l := []) (obl := []) [] [1] (fun _ => by kernel_rfl) trivial rfl (by kernel_rfl) (⟨congrArg (Value.int .i64) (if_neg (c := GraphOk ns) (fun h => by have := (h.ids k (by omega)).1; omega)).symm, rfl⟩)
      · refine TriLQ.seg (k' := 9) (fr' := [(1, .pointer (some ⟨b1, 0, none⟩)), (3, .int .i64 (((entSum ns k : Nat) : Int))), (4, .int .i64 (((k : Nat) : Int))), (5, .pointer (some ⟨b2, 0, none⟩)), (39, .bool (decide (((nd ns k).id : Int) > (1099511627776 : Int))))]) (obl := [b2 = b2]) [o_, ⟨[.at 2], none, none, none, none⟩, o_, o_, o_] [1, 3, 4, 5, 39] (fun _ _ => by kernel_rfl) ⟨rfl, trivial⟩ ?_
        refine TriLQ.slotP 39 (((nd ns k).id : Int) > (1099511627776 : Int)) (fun _ => by kernel_rfl) (fun h39 => ?_) (fun h39 => ?_)
        · refine TriLQ.seg (k' := 29) (fr' := [(1, .pointer (some ⟨b1, 0, none⟩)), (3, .int .i64 (((entSum ns k : Nat) : Int))), (4, .int .i64 (((k : Nat) : Int))), (5, .pointer (some ⟨b2, 0, none⟩)), (59, .bool true)]) (obl := []) [o_, o_, o_, o_, o_, o_, o_, o_, o_, o_, o_, o_, o_, o_, o_, o_, o_, o_, o_, o_] [1, 3, 4, 5, 59] (fun _ _ => by kernel_rfl) trivial ?_
          refine TriLQ.nil (by kernel_rfl) ?_
          refine TriQ.next ?_
          refine Tri.condT (fun _ => by kernel_rfl) ?_
          refine Tri.seq ?_
          refine Tri.region ?_
          refine TriL.segK (k' := 1) (fr' := [(2, .int .i64 140)]) (obl := []) [o_] [2] (fun _ _ => by kernel_rfl) trivial ?_
          refine TriL.nil (by kernel_rfl) ?_
          refine TriQ.next ?_
          refine Tri.ret ?_
          refine TriQ.passRet ?_
          refine TriQ.blockRet ?_
          refine TriQ.passRet ?_
          refine TriQ.passRet ?_
          refine TriQ.blockRet ?_
          refine TriQ.passRet ?_
          exact TriQ.ret (v := .int .i64 140) (l := []) (obl := []) [] [1] (fun _ => by kernel_rfl) trivial rfl (by kernel_rfl) (⟨congrArg (Value.int .i64) (if_neg (c := GraphOk ns) (fun h => by have := (h.ids k (by omega)).2; omega)).symm, rfl⟩)
        · refine TriLQ.seg (k' := 12) (fr' := [(1, .pointer (some ⟨b1, 0, none⟩)), (3, .int .i64 (((entSum ns k : Nat) : Int))), (4, .int .i64 (((k : Nat) : Int))), (5, .pointer (some ⟨b2, 0, none⟩)), (39, .bool false), (42, .bool (decide ((((k : Nat) : Int) : Int) > (0 : Int))))]) (obl := []) [o_, o_, o_] [1, 3, 4, 5, 39, 42] (fun _ _ => by kernel_rfl) trivial ?_
          refine TriLQ.slotP 42 ((((k : Nat) : Int) : Int) > (0 : Int)) (fun _ => by kernel_rfl) (fun h42 => ?_) (fun h42 => ?_)
          · refine TriLQ.seg (k' := 25) (fr' := [(1, .pointer (some ⟨b1, 0, none⟩)), (3, .int .i64 (((entSum ns k : Nat) : Int))), (4, .int .i64 (((k : Nat) : Int))), (5, .pointer (some ⟨b2, 0, none⟩)), (55, .bool (decide (((nd ns k).id : Int) ≤ ((nd ns (k - 1)).id : Int))))]) (obl := [(Rd β ⟨(blkOf A), offOf A + (k - 1) * 10, none⟩ (.int .i64 ((nd ns (k - 1)).id))), (((k - 1) : Nat) : Int) = (((k - 1) : Nat) : Int), (k - 1) < ns.length, (⟨(blkOf A), offOf A, none⟩ : Addr).spot = none, (A : Option Addr) = some ⟨(blkOf A), offOf A, none⟩, (Value.int .i64 (IntKind.wrap .i64 (((k : Nat) : Int) - 1))) = (.int .i64 ((((k - 1) : Nat) : Int))), b1 = b1, b2 = b2]) [o_, ⟨[.at 2], none, none, none, none⟩, o_, ⟨[.at 0], none, none, none, none⟩, o_, ⟨[], none, none, none, some (.int .i64 ((((k - 1) : Nat) : Int)))⟩, ⟨[], some (k - 1), none, some ⟨(blkOf A), offOf A, none⟩, none⟩, o_, ⟨[.old (.int .i64 ((nd ns (k - 1)).id))], none, none, none, none⟩, o_, o_, o_, o_] [1, 3, 4, 5, 55] (fun _ _ => by kernel_rfl) ⟨GraphAt.rd hG (i := (k - 1)) (by omega) (j := 0) rfl, rfl, by omega, rfl, GraphAt.hd hG (i := (k - 1)) (by omega), wrapEq (by omega) (by omega) (by omega), rfl, rfl, trivial⟩ ?_
            refine TriLQ.slotP 55 (((nd ns k).id : Int) ≤ ((nd ns (k - 1)).id : Int)) (fun _ => by kernel_rfl) (fun h55 => ?_) (fun h55 => ?_)
            · refine TriLQ.seg (k' := 29) (fr' := [(1, .pointer (some ⟨b1, 0, none⟩)), (3, .int .i64 (((entSum ns k : Nat) : Int))), (4, .int .i64 (((k : Nat) : Int))), (5, .pointer (some ⟨b2, 0, none⟩)), (59, .bool true)]) (obl := []) [o_, o_, o_, o_] [1, 3, 4, 5, 59] (fun _ _ => by kernel_rfl) trivial ?_
              refine TriLQ.nil (by kernel_rfl) ?_
              refine TriQ.next ?_
              refine Tri.condT (fun _ => by kernel_rfl) ?_
              refine Tri.seq ?_
              refine Tri.region ?_
              refine TriL.segK (k' := 1) (fr' := [(2, .int .i64 140)]) (obl := []) [o_] [2] (fun _ _ => by kernel_rfl) trivial ?_
              refine TriL.nil (by kernel_rfl) ?_
              refine TriQ.next ?_
              refine Tri.ret ?_
              refine TriQ.passRet ?_
              refine TriQ.blockRet ?_
              refine TriQ.passRet ?_
              refine TriQ.passRet ?_
              refine TriQ.blockRet ?_
              refine TriQ.passRet ?_
              exact TriQ.ret (v := .int .i64 140) (l := []) (obl := []) [] [1] (fun _ => by kernel_rfl) trivial rfl (by kernel_rfl) (⟨congrArg (Value.int .i64) (if_neg (c := GraphOk ns) (fun h => by have := h.rise (k - 1) k (by omega) (by omega); omega)).symm, rfl⟩)
            · refine TriLQ.seg (k' := 26) (fr' := [(1, .pointer (some ⟨b1, 0, none⟩)), (3, .int .i64 (((entSum ns k : Nat) : Int))), (4, .int .i64 (((k : Nat) : Int))), (5, .pointer (some ⟨b2, 0, none⟩)), (55, .bool false), (56, .agg #[.int .i64 ((nd ns k).id), .int .i64 ((nd ns k).kind), .int .i64 ((nd ns k).mode), .int .i64 ((nd ns k).uid), .int .i64 ((nd ns k).gid), .int .i64 ((nd ns k).sec), .int .i64 ((nd ns k).nano), .slice (L.dA k) ((nd ns k).data.length) ((L.dC k)), .string (nd ns k).target, .slice (L.eA k) ((nd ns k).ents.length) ((L.eC k))])]) (obl := [b2 = b2, b2 = b2, b2 = b2, b2 = b2, b2 = b2, b2 = b2, b2 = b2, b2 = b2, b2 = b2, b2 = b2]) [⟨[.at 2, .at 2, .at 2, .at 2, .at 2, .at 2, .at 2, .at 2, .at 2, .at 2], none, none, none, none⟩] [1, 3, 4, 5, 55, 56] (fun _ _ => by kernel_rfl) ⟨rfl, rfl, rfl, rfl, rfl, rfl, rfl, rfl, rfl, rfl, trivial⟩ ?_
              refine TriLQ.call (f := 39) (args := #[.agg #[.int .i64 ((nd ns k).id), .int .i64 ((nd ns k).kind), .int .i64 ((nd ns k).mode), .int .i64 ((nd ns k).uid), .int .i64 ((nd ns k).gid), .int .i64 ((nd ns k).sec), .int .i64 ((nd ns k).nano), .slice (L.dA k) ((nd ns k).data.length) ((L.dC k)), .string (nd ns k).target, .slice (L.eA k) ((nd ns k).ents.length) ((L.eC k))]]) (d := (some 57)) (pre := []) (R := [.blk b1 [.slice A (ns.length) (c)] 24, .abs R, .blk b2 [.int .i64 ((nd ns k).id), .int .i64 ((nd ns k).kind), .int .i64 ((nd ns k).mode), .int .i64 ((nd ns k).uid), .int .i64 ((nd ns k).gid), .int .i64 ((nd ns k).sec), .int .i64 ((nd ns k).nano), .slice (L.dA k) ((nd ns k).data.length) ((L.dC k)), .string (nd ns k).target, .slice (L.eA k) ((nd ns k).ents.length) ((L.eC k))] 32]) (pk := [0, 1, 2]) (pk' := [0, 1, 2]) (v0 := .bool (decide (NodeOk (nd ns k)))) (fun _ => by kernel_rfl) (sp_plain (nd ns k) (L.dA k) (L.eA k) (L.dC k) (L.eC k) (ht k (by omega))) rfl (by kernel_rfl) rfl (by kernel_rfl) (fun _ _ h => h) ?_
              refine TriLQ.seg (k' := 29) (fr' := [(1, .pointer (some ⟨b1, 0, none⟩)), (3, .int .i64 (((entSum ns k : Nat) : Int))), (4, .int .i64 (((k : Nat) : Int))), (5, .pointer (some ⟨b2, 0, none⟩)), (59, .bool (!(decide (NodeOk (nd ns k)))))]) (obl := []) [o_, o_] [1, 3, 4, 5, 59] (fun _ _ => by kernel_rfl) trivial ?_
              refine TriLQ.nil (by kernel_rfl) ?_
              refine TriQ.next ?_
              refine Tri.condN (p := NodeOk (nd ns k)) (fun _ => by kernel_rfl) (fun h59 => ?_) (fun h59 => ?_)
              · refine Tri.seq ?_
                refine Tri.region ?_
                refine TriL.segK (k' := 1) (fr' := [(2, .int .i64 140)]) (obl := []) [o_] [2] (fun _ _ => by kernel_rfl) trivial ?_
                refine TriL.nil (by kernel_rfl) ?_
                refine TriQ.next ?_
                refine Tri.ret ?_
                refine TriQ.passRet ?_
                refine TriQ.blockRet ?_
                refine TriQ.passRet ?_
                refine TriQ.passRet ?_
                refine TriQ.blockRet ?_
                refine TriQ.passRet ?_
                exact TriQ.ret (v := .int .i64 140) (l := []) (obl := []) [] [1] (fun _ => by kernel_rfl) trivial rfl (by kernel_rfl) (⟨congrArg (Value.int .i64) (if_neg (c := GraphOk ns) (fun h => by exact h59 (h.node k (by omega)))).symm, rfl⟩)
              · refine Tri.skip ?_
                refine TriQ.next ?_
                refine Tri.region ?_
                refine TriL.segK (k' := 6) (fr' := [(1, .pointer (some ⟨b1, 0, none⟩)), (3, .int .i64 ((((entSum ns k) + ((nd ns k).ents.length) : Nat) : Int))), (4, .int .i64 (((k : Nat) : Int)))]) (obl := [(Value.int .i64 (IntKind.wrap .i64 (((entSum ns k : Nat) : Int) + (((nd ns k).ents.length : Nat) : Int)))) = (.int .i64 ((((entSum ns k) + ((nd ns k).ents.length) : Nat) : Int))), b2 = b2]) [o_, o_, ⟨[.at 2], none, none, none, none⟩, o_, ⟨[], none, none, none, some (.int .i64 ((((entSum ns k) + ((nd ns k).ents.length) : Nat) : Int)))⟩, o_] [1, 3, 4] (fun _ _ => by kernel_rfl) ⟨wrapEq (by omega) (by omega) (by omega), rfl, trivial⟩ ?_
                refine TriL.nil (by kernel_rfl) ?_
                refine TriQ.blockNormal ?_
                refine TriQ.next ?_
                refine Tri.region ?_
                refine TriL.segK (k' := 3) (fr' := [(1, .pointer (some ⟨b1, 0, none⟩)), (3, .int .i64 ((((entSum ns k) + ((nd ns k).ents.length) : Nat) : Int))), (4, .int .i64 (((k + 1 : Nat) : Int)))]) (obl := [(Value.int .i64 (IntKind.wrap .i64 (((k : Nat) : Int) + 1))) = (.int .i64 (((k + 1 : Nat) : Int)))]) [o_, ⟨[], none, none, none, some (.int .i64 (((k + 1 : Nat) : Int)))⟩, o_] [1, 3, 4] (fun _ _ => by kernel_rfl) ⟨wrapEq (by omega) (by omega) (by omega), trivial⟩ ?_
                refine TriL.nil (by kernel_rfl) ?_
                exact TriQ.turn ((k + 1)) (idx := [1, 3, 4]) (pk := [0, 1]) (show (((k + 1)) ≤ ns.length) ∧ (Upto ns ((k + 1))) ∧ (entSum ns ((k + 1)) ≤ ((k + 1)) * 1048576) from ⟨by omega, hu.step (by rw [lastId_pos (by omega)]; omega) (by omega) h59, by show entSum ns k + _ ≤ _; omega⟩) (by show ns.length - ((k + 1)) < ns.length - k; omega) (fun _ => by kernel_rfl) rfl (by kernel_rfl)
          · refine TriLQ.seg (k' := 26) (fr' := [(1, .pointer (some ⟨b1, 0, none⟩)), (3, .int .i64 (((entSum ns k : Nat) : Int))), (4, .int .i64 (((k : Nat) : Int))), (5, .pointer (some ⟨b2, 0, none⟩)), (55, .bool false), (56, .agg #[.int .i64 ((nd ns k).id), .int .i64 ((nd ns k).kind), .int .i64 ((nd ns k).mode), .int .i64 ((nd ns k).uid), .int .i64 ((nd ns k).gid), .int .i64 ((nd ns k).sec), .int .i64 ((nd ns k).nano), .slice (L.dA k) ((nd ns k).data.length) ((L.dC k)), .string (nd ns k).target, .slice (L.eA k) ((nd ns k).ents.length) ((L.eC k))])]) (obl := [b2 = b2, b2 = b2, b2 = b2, b2 = b2, b2 = b2, b2 = b2, b2 = b2, b2 = b2, b2 = b2, b2 = b2]) [o_, o_, o_, o_, o_, o_, o_, o_, o_, o_, o_, o_, o_, ⟨[.at 2, .at 2, .at 2, .at 2, .at 2, .at 2, .at 2, .at 2, .at 2, .at 2], none, none, none, none⟩] [1, 3, 4, 5, 55, 56] (fun _ _ => by kernel_rfl) ⟨rfl, rfl, rfl, rfl, rfl, rfl, rfl, rfl, rfl, rfl, trivial⟩ ?_
            refine TriLQ.call (f := 39) (args := #[.agg #[.int .i64 ((nd ns k).id), .int .i64 ((nd ns k).kind), .int .i64 ((nd ns k).mode), .int .i64 ((nd ns k).uid), .int .i64 ((nd ns k).gid), .int .i64 ((nd ns k).sec), .int .i64 ((nd ns k).nano), .slice (L.dA k) ((nd ns k).data.length) ((L.dC k)), .string (nd ns k).target, .slice (L.eA k) ((nd ns k).ents.length) ((L.eC k))]]) (d := (some 57)) (pre := []) (R := [.blk b1 [.slice A (ns.length) (c)] 24, .abs R, .blk b2 [.int .i64 ((nd ns k).id), .int .i64 ((nd ns k).kind), .int .i64 ((nd ns k).mode), .int .i64 ((nd ns k).uid), .int .i64 ((nd ns k).gid), .int .i64 ((nd ns k).sec), .int .i64 ((nd ns k).nano), .slice (L.dA k) ((nd ns k).data.length) ((L.dC k)), .string (nd ns k).target, .slice (L.eA k) ((nd ns k).ents.length) ((L.eC k))] 32]) (pk := [0, 1, 2]) (pk' := [0, 1, 2]) (v0 := .bool (decide (NodeOk (nd ns k)))) (fun _ => by kernel_rfl) (sp_plain (nd ns k) (L.dA k) (L.eA k) (L.dC k) (L.eC k) (ht k (by omega))) rfl (by kernel_rfl) rfl (by kernel_rfl) (fun _ _ h => h) ?_
            refine TriLQ.seg (k' := 29) (fr' := [(1, .pointer (some ⟨b1, 0, none⟩)), (3, .int .i64 (((entSum ns k : Nat) : Int))), (4, .int .i64 (((k : Nat) : Int))), (5, .pointer (some ⟨b2, 0, none⟩)), (59, .bool (!(decide (NodeOk (nd ns k)))))]) (obl := []) [o_, o_] [1, 3, 4, 5, 59] (fun _ _ => by kernel_rfl) trivial ?_
            refine TriLQ.nil (by kernel_rfl) ?_
            refine TriQ.next ?_
            refine Tri.condN (p := NodeOk (nd ns k)) (fun _ => by kernel_rfl) (fun h59 => ?_) (fun h59 => ?_)
            · refine Tri.seq ?_
              refine Tri.region ?_
              refine TriL.segK (k' := 1) (fr' := [(2, .int .i64 140)]) (obl := []) [o_] [2] (fun _ _ => by kernel_rfl) trivial ?_
              refine TriL.nil (by kernel_rfl) ?_
              refine TriQ.next ?_
              refine Tri.ret ?_
              refine TriQ.passRet ?_
              refine TriQ.blockRet ?_
              refine TriQ.passRet ?_
              refine TriQ.passRet ?_
              refine TriQ.blockRet ?_
              refine TriQ.passRet ?_
              exact TriQ.ret (v := .int .i64 140) (l := []) (obl := []) [] [1] (fun _ => by kernel_rfl) trivial rfl (by kernel_rfl) (⟨congrArg (Value.int .i64) (if_neg (c := GraphOk ns) (fun h => by exact h59 (h.node k (by omega)))).symm, rfl⟩)
            · refine Tri.skip ?_
              refine TriQ.next ?_
              refine Tri.region ?_
              refine TriL.segK (k' := 6) (fr' := [(1, .pointer (some ⟨b1, 0, none⟩)), (3, .int .i64 ((((entSum ns k) + ((nd ns k).ents.length) : Nat) : Int))), (4, .int .i64 (((k : Nat) : Int)))]) (obl := [(Value.int .i64 (IntKind.wrap .i64 (((entSum ns k : Nat) : Int) + (((nd ns k).ents.length : Nat) : Int)))) = (.int .i64 ((((entSum ns k) + ((nd ns k).ents.length) : Nat) : Int))), b2 = b2]) [o_, o_, ⟨[.at 2], none, none, none, none⟩, o_, ⟨[], none, none, none, some (.int .i64 ((((entSum ns k) + ((nd ns k).ents.length) : Nat) : Int)))⟩, o_] [1, 3, 4] (fun _ _ => by kernel_rfl) ⟨wrapEq (by omega) (by omega) (by omega), rfl, trivial⟩ ?_
              refine TriL.nil (by kernel_rfl) ?_
              refine TriQ.blockNormal ?_
              refine TriQ.next ?_
              refine Tri.region ?_
              refine TriL.segK (k' := 3) (fr' := [(1, .pointer (some ⟨b1, 0, none⟩)), (3, .int .i64 ((((entSum ns k) + ((nd ns k).ents.length) : Nat) : Int))), (4, .int .i64 (((k + 1 : Nat) : Int)))]) (obl := [(Value.int .i64 (IntKind.wrap .i64 (((k : Nat) : Int) + 1))) = (.int .i64 (((k + 1 : Nat) : Int)))]) [o_, ⟨[], none, none, none, some (.int .i64 (((k + 1 : Nat) : Int)))⟩, o_] [1, 3, 4] (fun _ _ => by kernel_rfl) ⟨wrapEq (by omega) (by omega) (by omega), trivial⟩ ?_
              refine TriL.nil (by kernel_rfl) ?_
              exact TriQ.turn ((k + 1)) (idx := [1, 3, 4]) (pk := [0, 1]) (show (((k + 1)) ≤ ns.length) ∧ (Upto ns ((k + 1))) ∧ (entSum ns ((k + 1)) ≤ ((k + 1)) * 1048576) from ⟨by omega, hu.step (by rw [show k = 0 by omega]; rw [show k = 0 by omega] at h34; show (0 : Int) < _; omega) (by omega) h59, by show entSum ns k + _ ≤ _; omega⟩) (by show ns.length - ((k + 1)) < ns.length - k; omega) (fun _ => by kernel_rfl) rfl (by kernel_rfl)
    · refine Tri.exit ?_
      refine TriQ.passExit ?_
      refine TriQ.passExit ?_
      refine TriQ.blockHit ?_
      refine TriQ.next ?_
      refine Tri.seq ?_
      refine Tri.seq ?_
      refine Tri.region ?_
      refine TriL.segK (k' := 2) (fr' := [(1, .pointer (some ⟨b1, 0, none⟩)), (66, .bool (decide ((((entSum ns k : Nat) : Int) : Int) > (8192 : Int))))]) (obl := []) [o_, o_] [1, 66] (fun _ _ => by kernel_rfl) trivial ?_
      refine TriL.nil (by kernel_rfl) ?_
      refine TriQ.next ?_
      refine Tri.condP (p := (((entSum ns k : Nat) : Int) : Int) > (8192 : Int)) (fun _ => by kernel_rfl) (fun h66 => ?_) (fun h66 => ?_)
      · refine Tri.seq ?_
        refine Tri.region ?_
        refine TriL.segK (k' := 1) (fr' := [(2, .int .i64 140)]) (obl := []) [o_] [2] (fun _ _ => by kernel_rfl) trivial ?_
        refine TriL.nil (by kernel_rfl) ?_
        refine TriQ.next ?_
        refine Tri.ret ?_
        refine TriQ.passRet ?_
        exact TriQ.ret (v := .int .i64 140) (l := []) (obl := []) [] [1] (fun _ => by kernel_rfl) trivial rfl (by kernel_rfl) (⟨congrArg (Value.int .i64) (if_neg (c := GraphOk ns) (fun h => by have h1 := h.sum; rw [show ns.length = k by omega] at h1; omega)).symm, rfl⟩)
      · refine Tri.skip ?_
        refine TriQ.next ?_
        refine Tri.seq ?_
        refine Tri.region ?_
        refine TriL.segK (k' := 3) (fr' := [(1, .pointer (some ⟨b1, 0, none⟩)), (69, .int .i64 (((ns.length : Nat) : Int)))]) (obl := [b1 = b1]) [o_, ⟨[.at 0], none, none, none, none⟩, o_] [1, 69] (fun _ _ => by kernel_rfl) ⟨rfl, trivial⟩ ?_
        refine TriL.makeFull (d := (some 70)) (t := 60) (e := 3) (z := .int .i64 0) (bytes := 8) (n := ns.length) (l := (.tmp 69)) (c := (.tmp 69)) (fun _ => by kernel_rfl) (fun _ => by kernel_rfl) (fun _ => by kernel_rfl) Try.underlying60 (by kernel_rfl) rfl (by omega) (by omega) (fun b3 => ?_)
        refine TriL.segK (k' := 5) (fr' := [(1, .pointer (some ⟨b1, 0, none⟩)), (6, .slice (some ⟨b3, 0, none⟩) (ns.length) (ns.length))]) (obl := []) [o_] [1, 6] (fun _ _ => by kernel_rfl) trivial ?_
        refine TriL.nil (by kernel_rfl) ?_
        refine TriQ.next ?_
        refine Tri.seq ?_
        refine Tri.seq ?_
        refine Tri.region ?_
        refine TriL.partEq 2 (p := .abs (RowA 3 1 (some ⟨b3, 0, none⟩) ns.length ns.length (List.replicate ns.length (.int .i64 0)))) (p' := .abs (RowA 3 1 (some ⟨b3, 0, none⟩) ns.length ns.length (intsV (List.replicate ns.length 0)))) (by kernel_rfl) (by rw [intsV, List.map_replicate]) ?_
        refine TriL.segK (k' := 1) (fr' := [(1, .pointer (some ⟨b1, 0, none⟩)), (6, .slice (some ⟨b3, 0, none⟩) (ns.length) (ns.length)), (7, .int .i64 0)]) (obl := []) [o_] [1, 6, 7] (fun _ _ => by kernel_rfl) trivial ?_
        refine TriL.nil (by kernel_rfl) ?_
        refine TriQ.next ?_
        refine Tri.block ?_
        refine Tri.loop (ι := Nat × (List Int)) (fun ((t, pl) : Nat × (List Int)) => (t ≤ ns.length) ∧ (pl.length = ns.length) ∧ (∀ a, a < t → pl.getD a 0 = -1)) (fun ((t, pl) : Nat × (List Int)) => ns.length - t) (fun ((t, pl) : Nat × (List Int)) => [(1, .pointer (some ⟨b1, 0, none⟩)), (6, .slice (some ⟨b3, 0, none⟩) (ns.length) (ns.length)), (7, .int .i64 (((t : Nat) : Int)))]) (fun ((t, pl) : Nat × (List Int)) => [.blk b1 [.slice A (ns.length) (c)] 24, .abs (RowA 3 1 (some ⟨b3, 0, none⟩) ns.length ns.length (intsV pl)), .abs R]) (0, (List.replicate ns.length 0)) (idx := [1, 6, 7]) (pk := [0, 2, 1]) (show (0 ≤ ns.length) ∧ (((List.replicate ns.length 0)).length = ns.length) ∧ (∀ a, a < 0 → ((List.replicate ns.length 0)).getD a 0 = -1) from ⟨Nat.zero_le _, by simp, fun a ha => absurd ha (Nat.not_lt_zero a)⟩) (fun _ => by kernel_rfl) rfl (by kernel_rfl) ?_
        rintro ⟨t, pl⟩ ⟨ht2, hpl, hpa⟩
        show Tri _ _ _ _ [(1, .pointer (some ⟨b1, 0, none⟩)), (6, .slice (some ⟨b3, 0, none⟩) (ns.length) (ns.length)), (7, .int .i64 (((t : Nat) : Int)))] [.blk b1 [.slice A (ns.length) (c)] 24, .abs (RowA 3 1 (some ⟨b3, 0, none⟩) ns.length ns.length (intsV pl)), .abs R] _
        refine Tri.seq ?_
        refine Tri.seq ?_
        refine Tri.region ?_
        refine TriL.segK (k' := 4) (fr' := [(1, .pointer (some ⟨b1, 0, none⟩)), (6, .slice (some ⟨b3, 0, none⟩) (ns.length) (ns.length)), (7, .int .i64 (((t : Nat) : Int))), (74, .bool (decide ((((t : Nat) : Int) : Int) < (((ns.length : Nat) : Int) : Int))))]) (obl := []) [o_, o_, o_, o_] [1, 6, 7, 74] (fun _ _ => by kernel_rfl) trivial ?_
        refine TriL.nil (by kernel_rfl) ?_
        refine TriQ.next ?_
        refine Tri.condP (p := (((t : Nat) : Int) : Int) < (((ns.length : Nat) : Int) : Int)) (fun _ => by kernel_rfl) (fun h74 => ?_) (fun h74 => ?_)
        · refine Tri.skip ?_
          refine TriQ.next ?_
          refine Tri.seq ?_
          refine Tri.block ?_
          refine Tri.region ?_
          refine TriL.segK (k' := 3) (fr' := [(1, .pointer (some ⟨b1, 0, none⟩)), (6, .slice (some ⟨b3, 0, none⟩) (ns.length) (ns.length)), (7, .int .i64 (((t : Nat) : Int))), (79, .pointer (some ⟨b3, t, none⟩))]) (obl := [(Value.pointer (some ⟨b3, 0 + t * 1, none⟩)) = (.pointer (some ⟨b3, t, none⟩)), ((t : Nat) : Int) = ((t : Nat) : Int), t < ns.length, (⟨b3, 0, none⟩ : Addr).spot = none]) [o_, o_, ⟨[], some t, none, none, some (.pointer (some ⟨b3, t, none⟩))⟩] [1, 6, 7, 79] (fun _ _ => by kernel_rfl) ⟨by simp, rfl, by omega, rfl, trivial⟩ ?_
          refine TriL.rowSet 1 (t) (d := none) (T := 3) (e := 3) (size := 1) (n := ns.length) (cap := ns.length) (g := b3) (xs := (intsV pl)) (u := .int .i64 (-1)) (a := (.tmp 79)) (y := (.const (.int .i64 (-1)))) (fun _ => by kernel_rfl) (by kernel_rfl) (fun _ => by kernel_rfl) (fun _ => by kernel_rfl) (by kernel_rfl) rfl (by rw [intsV, List.length_map]; omega) ?_
          refine TriL.partEq 1 (p := .abs (RowA 3 1 (some ⟨b3, 0, none⟩) ns.length ns.length ((intsV pl).set (t) (.int .i64 (-1))))) (p' := .abs (RowA 3 1 (some ⟨b3, 0, none⟩) ns.length ns.length (intsV (pl.set t (-1))))) (by kernel_rfl) (by rw [intsV_set]) ?_
          refine TriL.nil (by kernel_rfl) ?_
          refine TriQ.blockNormal ?_
          refine TriQ.next ?_
          refine Tri.region ?_
          refine TriL.segK (k' := 3) (fr' := [(1, .pointer (some ⟨b1, 0, none⟩)), (6, .slice (some ⟨b3, 0, none⟩) (ns.length) (ns.length)), (7, .int .i64 (((t + 1 : Nat) : Int)))]) (obl := [(Value.int .i64 (IntKind.wrap .i64 (((t : Nat) : Int) + 1))) = (.int .i64 (((t + 1 : Nat) : Int)))]) [o_, ⟨[], none, none, none, some (.int .i64 (((t + 1 : Nat) : Int)))⟩, o_] [1, 6, 7] (fun _ _ => by kernel_rfl) ⟨wrapEq (by omega) (by omega) (by omega), trivial⟩ ?_
          refine TriL.nil (by kernel_rfl) ?_
          exact TriQ.turn ((t + 1), (pl.set t (-1))) (idx := [1, 6, 7]) (pk := [0, 1, 2]) (show (((t + 1)) ≤ ns.length) ∧ (((pl.set t (-1))).length = ns.length) ∧ (∀ a, a < ((t + 1)) → ((pl.set t (-1))).getD a 0 = -1) from ⟨by omega, by rw [List.length_set]; exact hpl, fun a ha => (by rw [getD_set (by omega)]; by_cases e : a = t; simp [e]; rw [if_neg e]; exact hpa a (by omega))⟩) (by show ns.length - ((t + 1)) < ns.length - t; omega) (fun _ => by kernel_rfl) rfl (by kernel_rfl)
        · refine Tri.exit ?_
          refine TriQ.passExit ?_
          refine TriQ.passExit ?_
          refine TriQ.blockHit ?_
          refine TriQ.next ?_
          refine Tri.seq ?_
          refine Tri.seq ?_
          refine Tri.region ?_
          refine TriL.segK (k' := 1) (fr' := [(1, .pointer (some ⟨b1, 0, none⟩)), (6, .slice (some ⟨b3, 0, none⟩) (ns.length) (ns.length)), (8, .int .i64 0)]) (obl := []) [o_] [1, 6, 8] (fun _ _ => by kernel_rfl) trivial ?_
          refine TriL.nil (by kernel_rfl) ?_
          refine TriQ.next ?_
          refine Tri.block ?_
          have hrise : Rising ns := fun a b hab hb => hu.rise a b hab (by omega)
          have hsum : entSum ns ns.length ≤ 8192 := by rw [show ns.length = k by omega]; omega
          refine Tri.loop (ι := Nat × (List Int)) (fun ((i, pl1) : Nat × (List Int)) => (i ≤ ns.length) ∧ (∀ a, a < i → ∀ j, j < (nd ns a).ents.length → EntOk ns a j) ∧ (((allE ns i).map Prod.fst).Nodup) ∧ (Par ns.length pl1 (allE ns i))) (fun ((i, pl1) : Nat × (List Int)) => ns.length - i) (fun ((i, pl1) : Nat × (List Int)) => [(1, .pointer (some ⟨b1, 0, none⟩)), (6, .slice (some ⟨b3, 0, none⟩) (ns.length) (ns.length)), (8, .int .i64 (((i : Nat) : Int)))]) (fun ((i, pl1) : Nat × (List Int)) => [.blk b1 [.slice A (ns.length) (c)] 24, .abs (RowA 3 1 (some ⟨b3, 0, none⟩) ns.length ns.length (intsV pl1)), .abs R]) (0, pl) (idx := [1, 6, 8]) (pk := [0, 1, 2]) (show (0 ≤ ns.length) ∧ (∀ a, a < 0 → ∀ j, j < (nd ns a).ents.length → EntOk ns a j) ∧ (((allE ns 0).map Prod.fst).Nodup) ∧ (Par ns.length pl (allE ns 0)) from ⟨Nat.zero_le _, fun a ha => absurd ha (Nat.not_lt_zero a), List.nodup_nil, ⟨hpl, fun a ha => hpa a (by omega)⟩⟩) (fun _ => by kernel_rfl) rfl (by kernel_rfl) ?_
          rintro ⟨i, pl1⟩ ⟨hi, hents, hnd, hpar⟩
          show Tri _ _ _ _ [(1, .pointer (some ⟨b1, 0, none⟩)), (6, .slice (some ⟨b3, 0, none⟩) (ns.length) (ns.length)), (8, .int .i64 (((i : Nat) : Int)))] [.blk b1 [.slice A (ns.length) (c)] 24, .abs (RowA 3 1 (some ⟨b3, 0, none⟩) ns.length ns.length (intsV pl1)), .abs R] _
          refine Tri.seq ?_
          refine Tri.seq ?_
          refine Tri.region ?_
          refine TriL.segK (k' := 5) (fr' := [(1, .pointer (some ⟨b1, 0, none⟩)), (6, .slice (some ⟨b3, 0, none⟩) (ns.length) (ns.length)), (8, .int .i64 (((i : Nat) : Int))), (84, .bool (decide ((((i : Nat) : Int) : Int) < (((ns.length : Nat) : Int) : Int))))]) (obl := [b1 = b1]) [o_, o_, ⟨[.at 0], none, none, none, none⟩, o_, o_] [1, 6, 8, 84] (fun _ _ => by kernel_rfl) ⟨rfl, trivial⟩ ?_
          refine TriL.nil (by kernel_rfl) ?_
          refine TriQ.next ?_
          refine Tri.condP (p := (((i : Nat) : Int) : Int) < (((ns.length : Nat) : Int) : Int)) (fun _ => by kernel_rfl) (fun h84 => ?_) (fun h84 => ?_)
          · refine Tri.skip ?_
            refine TriQ.next ?_
            refine Tri.seq ?_
            refine Tri.block ?_
            refine Tri.seq ?_
            refine Tri.region ?_
            refine TriL.segK (k' := 1) (fr' := [(1, .pointer (some ⟨b1, 0, none⟩)), (6, .slice (some ⟨b3, 0, none⟩) (ns.length) (ns.length)), (8, .int .i64 (((i : Nat) : Int))), (9, .int .i64 0)]) (obl := []) [o_] [1, 6, 8, 9] (fun _ _ => by kernel_rfl) trivial ?_
            refine TriL.nil (by kernel_rfl) ?_
            refine TriQ.next ?_
            refine Tri.block ?_
            refine Tri.loop (ι := Nat × (List Int)) (fun ((j, pl2) : Nat × (List Int)) => (j ≤ (nd ns i).ents.length) ∧ (∀ t, t < j → EntOk ns i t) ∧ (((rowE ns i j ++ allE ns i).map Prod.fst).Nodup) ∧ (Par ns.length pl2 (rowE ns i j ++ allE ns i))) (fun ((j, pl2) : Nat × (List Int)) => (nd ns i).ents.length - j) (fun ((j, pl2) : Nat × (List Int)) => [(1, .pointer (some ⟨b1, 0, none⟩)), (6, .slice (some ⟨b3, 0, none⟩) (ns.length) (ns.length)), (8, .int .i64 (((i : Nat) : Int))), (9, .int .i64 (((j : Nat) : Int)))]) (fun ((j, pl2) : Nat × (List Int)) => [.blk b1 [.slice A (ns.length) (c)] 24, .abs (RowA 3 1 (some ⟨b3, 0, none⟩) ns.length ns.length (intsV pl2)), .abs R]) (0, pl1) (idx := [1, 6, 8, 9]) (pk := [0, 1, 2]) (show (0 ≤ (nd ns i).ents.length) ∧ (∀ t, t < 0 → EntOk ns i t) ∧ (((rowE ns i 0 ++ allE ns i).map Prod.fst).Nodup) ∧ (Par ns.length pl1 (rowE ns i 0 ++ allE ns i)) from ⟨Nat.zero_le _, fun t ht => absurd ht (Nat.not_lt_zero t), hnd, hpar⟩) (fun _ => by kernel_rfl) rfl (by kernel_rfl) ?_
            rintro ⟨j, pl2⟩ ⟨hj, hok, hnd2, hpar2⟩
            show Tri _ _ _ _ [(1, .pointer (some ⟨b1, 0, none⟩)), (6, .slice (some ⟨b3, 0, none⟩) (ns.length) (ns.length)), (8, .int .i64 (((i : Nat) : Int))), (9, .int .i64 (((j : Nat) : Int)))] [.blk b1 [.slice A (ns.length) (c)] 24, .abs (RowA 3 1 (some ⟨b3, 0, none⟩) ns.length ns.length (intsV pl2)), .abs R] _
            have hd3 := (hd i (by omega)).2
            have hln := hpar2.len
            refine Tri.seq ?_
            refine Tri.seq ?_
            refine Tri.region ?_
            refine TriL.segK (k' := 9) (fr' := [(1, .pointer (some ⟨b1, 0, none⟩)), (6, .slice (some ⟨b3, 0, none⟩) (ns.length) (ns.length)), (8, .int .i64 (((i : Nat) : Int))), (9, .int .i64 (((j : Nat) : Int))), (95, .bool (decide ((((j : Nat) : Int) : Int) < ((((nd ns i).ents.length : Nat) : Int) : Int))))]) (obl := [(Rd β ⟨(blkOf A), offOf A + i * 10 + 9, none⟩ (.slice (L.eA i) ((nd ns i).ents.length) ((L.eC i)))), ((i : Nat) : Int) = ((i : Nat) : Int), i < ns.length, (⟨(blkOf A), offOf A, none⟩ : Addr).spot = none, (A : Option Addr) = some ⟨(blkOf A), offOf A, none⟩, b1 = b1]) [o_, o_, ⟨[.at 0], none, none, none, none⟩, o_, ⟨[], some i, none, some ⟨(blkOf A), offOf A, none⟩, none⟩, o_, ⟨[.old (.slice (L.eA i) ((nd ns i).ents.length) ((L.eC i)))], none, none, none, none⟩, o_, o_] [1, 6, 8, 9, 95] (fun _ _ => by kernel_rfl) ⟨GraphAt.rd hG (i := i) (by omega) (j := 9) rfl, rfl, by omega, rfl, GraphAt.hd hG (i := i) (by omega), rfl, trivial⟩ ?_
            refine TriL.nil (by kernel_rfl) ?_
            refine TriQ.next ?_
            refine Tri.condP (p := (((j : Nat) : Int) : Int) < ((((nd ns i).ents.length : Nat) : Int) : Int)) (fun _ => by kernel_rfl) (fun h95 => ?_) (fun h95 => ?_)
            · refine Tri.skip ?_
              refine TriQ.next ?_
              refine Tri.seq ?_
              refine Tri.block ?_
              refine Tri.seq ?_
              refine Tri.region ?_
              refine TriL.segN (k' := 11) (fr' := fun b4 => [(1, .pointer (some ⟨b1, 0, none⟩)), (6, .slice (some ⟨b3, 0, none⟩) (ns.length) (ns.length)), (8, .int .i64 (((i : Nat) : Int))), (9, .int .i64 (((j : Nat) : Int))), (10, .pointer (some ⟨b4, 0, none⟩))]) (hps' := fun b4 => [.blk b1 [.slice A (ns.length) (c)] 24, .abs (RowA 3 1 (some ⟨b3, 0, none⟩) ns.length ns.length (intsV pl2)), .abs R, .blk b4 [.string (en (nd ns i).ents j).name, .int .i64 ((en (nd ns i).ents j).id)] 72]) (obl := fun b4 => [b4 = b4, b4 = b4, (Rd β ⟨(blkOf (L.eA i)), offOf (L.eA i) + j * 2 + 1, none⟩ (.int .i64 ((en (nd ns i).ents j).id))), (Rd β ⟨(blkOf (L.eA i)), offOf (L.eA i) + j * 2, none⟩ (.string (en (nd ns i).ents j).name)), ((j : Nat) : Int) = ((j : Nat) : Int), j < (nd ns i).ents.length, (⟨(blkOf (L.eA i)), offOf (L.eA i), none⟩ : Addr).spot = none, ((L.eA i) : Option Addr) = some ⟨(blkOf (L.eA i)), offOf (L.eA i), none⟩, (Rd β ⟨(blkOf A), offOf A + i * 10 + 9, none⟩ (.slice (L.eA i) ((nd ns i).ents.length) ((L.eC i)))), ((i : Nat) : Int) = ((i : Nat) : Int), i < ns.length, (⟨(blkOf A), offOf A, none⟩ : Addr).spot = none, (A : Option Addr) = some ⟨(blkOf A), offOf A, none⟩, b1 = b1]) [o_, ⟨[.at 0], none, none, none, none⟩, o_, ⟨[], some i, none, some ⟨(blkOf A), offOf A, none⟩, none⟩, o_, ⟨[.old (.slice (L.eA i) ((nd ns i).ents.length) ((L.eC i)))], none, none, none, none⟩, o_, ⟨[], some j, none, some ⟨(blkOf (L.eA i)), offOf (L.eA i), none⟩, none⟩, ⟨[.old (.string (en (nd ns i).ents j).name), .old (.int .i64 ((en (nd ns i).ents j).id))], none, none, none, none⟩, o_, ⟨[.at 3, .at 3], none, none, none, none⟩] [1, 6, 8, 9, 10] [0, 1, 2, 3] (fun _ _ => by kernel_rfl) (fun b4 => ⟨rfl, rfl, EntsAt.rd (hG.ents i (by omega)) (i := j) (by omega) (j := 1) rfl, EntsAt.rd (hG.ents i (by omega)) (i := j) (by omega) (j := 0) rfl, rfl, by omega, rfl, EntsAt.hd (hG.ents i (by omega)) (i := j) (by omega), GraphAt.rd hG (i := i) (by omega) (j := 9) rfl, rfl, by omega, rfl, GraphAt.hd hG (i := i) (by omega), rfl, trivial⟩) (fun b4 => ?_)
              refine TriL.nil (by kernel_rfl) ?_
              refine TriQ.next ?_
              refine Tri.seq ?_
              refine Tri.region ?_
              refine TriL.segK (k' := 3) (fr' := [(1, .pointer (some ⟨b1, 0, none⟩)), (6, .slice (some ⟨b3, 0, none⟩) (ns.length) (ns.length)), (8, .int .i64 (((i : Nat) : Int))), (9, .int .i64 (((j : Nat) : Int))), (10, .pointer (some ⟨b4, 0, none⟩)), (107, .agg #[.slice A (ns.length) (c)]), (109, .int .i64 ((en (nd ns i).ents j).id))]) (obl := [b4 = b4, b1 = b1]) [⟨[.at 0], none, none, none, none⟩, o_, ⟨[.at 3], none, none, none, none⟩] [1, 6, 8, 9, 10, 107, 109] (fun _ _ => by kernel_rfl) ⟨rfl, rfl, trivial⟩ ?_
              refine TriL.call (f := 29) (args := #[.agg #[.slice A (ns.length) (c)], .int .i64 ((en (nd ns i).ents j).id)]) (d := (some 110)) (pre := []) (R := [.blk b1 [.slice A (ns.length) (c)] 24, .abs (RowA 3 1 (some ⟨b3, 0, none⟩) ns.length ns.length (intsV pl2)), .abs R, .blk b4 [.string (en (nd ns i).ents j).name, .int .i64 ((en (nd ns i).ents j).id)] 72]) (pk := [0, 1, 2, 3]) (fun _ => by kernel_rfl) (sp_at A c ns L hG hrise hl (en (nd ns i).ents j).id) rfl (by kernel_rfl) ?_
              rintro _ _ ⟨rfl, rfl⟩
              refine TriL.segK (k' := 5) (fr' := [(1, .pointer (some ⟨b1, 0, none⟩)), (6, .slice (some ⟨b3, 0, none⟩) (ns.length) (ns.length)), (8, .int .i64 (((i : Nat) : Int))), (9, .int .i64 (((j : Nat) : Int))), (10, .pointer (some ⟨b4, 0, none⟩)), (11, .int .i64 (atI ns (en (nd ns i).ents j).id))]) (obl := []) [o_] [1, 6, 8, 9, 10, 11] (fun _ _ => by kernel_rfl) trivial ?_
              refine TriL.nil (by kernel_rfl) ?_
              refine TriQ.next ?_
              refine Tri.seq ?_
              refine Tri.seq ?_
              refine Tri.regionQ (by kernel_rfl) (by kernel_rfl) ?_
              refine TriLQ.seg (k' := 3) (fr' := [(1, .pointer (some ⟨b1, 0, none⟩)), (6, .slice (some ⟨b3, 0, none⟩) (ns.length) (ns.length)), (8, .int .i64 (((i : Nat) : Int))), (9, .int .i64 (((j : Nat) : Int))), (10, .pointer (some ⟨b4, 0, none⟩)), (11, .int .i64 (atI ns (en (nd ns i).ents j).id)), (113, .bool (decide ((atI ns (en (nd ns i).ents j).id : Int) < (0 : Int))))]) (obl := []) [o_, o_, o_] [1, 6, 8, 9, 10, 11, 113] (fun _ _ => by kernel_rfl) trivial ?_
              refine TriLQ.slotP 113 ((atI ns (en (nd ns i).ents j).id : Int) < (0 : Int)) (fun _ => by kernel_rfl) (fun h113 => ?_) (fun h113 => ?_)
              · refine TriLQ.seg (k' := 28) (fr' := [(1, .pointer (some ⟨b1, 0, none⟩)), (6, .slice (some ⟨b3, 0, none⟩) (ns.length) (ns.length)), (8, .int .i64 (((i : Nat) : Int))), (9, .int .i64 (((j : Nat) : Int))), (11, .int .i64 (atI ns (en (nd ns i).ents j).id)), (138, .bool true)]) (obl := []) [o_, o_, o_, o_, o_, o_, o_, o_, o_, o_, o_, o_, o_, o_, o_, o_, o_, o_, o_, o_, o_, o_, o_, o_, o_] [1, 6, 8, 9, 11, 138] (fun _ _ => by kernel_rfl) trivial ?_
                refine TriLQ.nil (by kernel_rfl) ?_
                refine TriQ.next ?_
                refine Tri.condT (fun _ => by kernel_rfl) ?_
                refine Tri.seq ?_
                refine Tri.region ?_
                refine TriL.segK (k' := 1) (fr' := [(2, .int .i64 140)]) (obl := []) [o_] [2] (fun _ _ => by kernel_rfl) trivial ?_
                refine TriL.nil (by kernel_rfl) ?_
                refine TriQ.next ?_
                refine Tri.ret ?_
                refine TriQ.passRet ?_
                refine TriQ.blockRet ?_
                refine TriQ.passRet ?_
                refine TriQ.passRet ?_
                refine TriQ.blockRet ?_
                refine TriQ.blockRet ?_
                refine TriQ.passRet ?_
                refine TriQ.passRet ?_
                refine TriQ.blockRet ?_
                refine TriQ.passRet ?_
                exact TriQ.ret (v := .int .i64 140) (l := []) (obl := []) [] [2] (fun _ => by kernel_rfl) trivial rfl (by kernel_rfl) (⟨congrArg (Value.int .i64) (if_neg (c := GraphOk ns) (fun h => by have h1 := (h.ents i (by omega) j (by omega)).at_; change 0 ≤ atI ns (en (nd ns i).ents j).id at h1; omega)).symm, rfl⟩)
              · have htl := atI_lt (Int.not_lt.1 h113)
                refine TriLQ.seg (k' := 5) (fr' := [(1, .pointer (some ⟨b1, 0, none⟩)), (6, .slice (some ⟨b3, 0, none⟩) (ns.length) (ns.length)), (8, .int .i64 (((i : Nat) : Int))), (9, .int .i64 (((j : Nat) : Int))), (10, .pointer (some ⟨b4, 0, none⟩)), (11, .int .i64 (atI ns (en (nd ns i).ents j).id)), (113, .bool false), (115, .string (en (nd ns i).ents j).name)]) (obl := [b4 = b4]) [o_, ⟨[.at 3], none, none, none, none⟩] [1, 6, 8, 9, 10, 11, 113, 115] (fun _ _ => by kernel_rfl) ⟨rfl, trivial⟩ ?_
                refine TriLQ.call (f := 40) (args := #[.string (en (nd ns i).ents j).name]) (d := (some 116)) (pre := []) (R := [.blk b1 [.slice A (ns.length) (c)] 24, .abs (RowA 3 1 (some ⟨b3, 0, none⟩) ns.length ns.length (intsV pl2)), .abs R, .blk b4 [.string (en (nd ns i).ents j).name, .int .i64 ((en (nd ns i).ents j).id)] 72]) (pk := [0, 1, 2, 3]) (pk' := [0, 1, 2, 3]) (v0 := .bool (decide (GoodName (en (nd ns i).ents j).name))) (fun _ => by kernel_rfl) (sp_refGood (en (nd ns i).ents j).name (hnm i (by omega) j (by omega))) rfl (by kernel_rfl) rfl (by kernel_rfl) (fun _ _ h => h) ?_
                refine TriLQ.seg (k' := 9) (fr' := [(1, .pointer (some ⟨b1, 0, none⟩)), (6, .slice (some ⟨b3, 0, none⟩) (ns.length) (ns.length)), (8, .int .i64 (((i : Nat) : Int))), (9, .int .i64 (((j : Nat) : Int))), (10, .pointer (some ⟨b4, 0, none⟩)), (11, .int .i64 (atI ns (en (nd ns i).ents j).id)), (119, .bool (!(decide (GoodName (en (nd ns i).ents j).name))))]) (obl := []) [o_, o_, o_] [1, 6, 8, 9, 10, 11, 119] (fun _ _ => by kernel_rfl) trivial ?_
                refine TriLQ.slotN 119 (GoodName (en (nd ns i).ents j).name) (fun _ => by kernel_rfl) (fun h119 => ?_) (fun h119 => ?_)
                · refine TriLQ.seg (k' := 28) (fr' := [(1, .pointer (some ⟨b1, 0, none⟩)), (6, .slice (some ⟨b3, 0, none⟩) (ns.length) (ns.length)), (8, .int .i64 (((i : Nat) : Int))), (9, .int .i64 (((j : Nat) : Int))), (11, .int .i64 (atI ns (en (nd ns i).ents j).id)), (138, .bool true)]) (obl := []) [o_, o_, o_, o_, o_, o_, o_, o_, o_, o_, o_, o_, o_, o_, o_, o_, o_, o_, o_] [1, 6, 8, 9, 11, 138] (fun _ _ => by kernel_rfl) trivial ?_
                  refine TriLQ.nil (by kernel_rfl) ?_
                  refine TriQ.next ?_
                  refine Tri.condT (fun _ => by kernel_rfl) ?_
                  refine Tri.seq ?_
                  refine Tri.region ?_
                  refine TriL.segK (k' := 1) (fr' := [(2, .int .i64 140)]) (obl := []) [o_] [2] (fun _ _ => by kernel_rfl) trivial ?_
                  refine TriL.nil (by kernel_rfl) ?_
                  refine TriQ.next ?_
                  refine Tri.ret ?_
                  refine TriQ.passRet ?_
                  refine TriQ.blockRet ?_
                  refine TriQ.passRet ?_
                  refine TriQ.passRet ?_
                  refine TriQ.blockRet ?_
                  refine TriQ.blockRet ?_
                  refine TriQ.passRet ?_
                  refine TriQ.passRet ?_
                  refine TriQ.blockRet ?_
                  refine TriQ.passRet ?_
                  exact TriQ.ret (v := .int .i64 140) (l := []) (obl := []) [] [2] (fun _ => by kernel_rfl) trivial rfl (by kernel_rfl) (⟨congrArg (Value.int .i64) (if_neg (c := GraphOk ns) (fun h => by exact h119 (h.ents i (by omega) j (by omega)).good)).symm, rfl⟩)
                · refine TriLQ.seg (k' := 12) (fr' := [(1, .pointer (some ⟨b1, 0, none⟩)), (6, .slice (some ⟨b3, 0, none⟩) (ns.length) (ns.length)), (8, .int .i64 (((i : Nat) : Int))), (9, .int .i64 (((j : Nat) : Int))), (10, .pointer (some ⟨b4, 0, none⟩)), (11, .int .i64 (atI ns (en (nd ns i).ents j).id)), (119, .bool false), (122, .bool (decide ((((j : Nat) : Int) : Int) > (0 : Int))))]) (obl := []) [o_, o_, o_] [1, 6, 8, 9, 10, 11, 119, 122] (fun _ _ => by kernel_rfl) trivial ?_
                  refine TriLQ.slotP 122 ((((j : Nat) : Int) : Int) > (0 : Int)) (fun _ => by kernel_rfl) (fun h122 => ?_) (fun h122 => ?_)
                  · refine TriLQ.seg (k' := 28) (fr' := [(1, .pointer (some ⟨b1, 0, none⟩)), (6, .slice (some ⟨b3, 0, none⟩) (ns.length) (ns.length)), (8, .int .i64 (((i : Nat) : Int))), (9, .int .i64 (((j : Nat) : Int))), (11, .int .i64 (atI ns (en (nd ns i).ents j).id)), (138, .bool (decide (strLe ((en (nd ns i).ents j).name) ((en (nd ns i).ents (j - 1)).name))))]) (obl := [(Value.bool (Op.bytesLess (((en (nd ns i).ents j).name) : ByteArray).toList (((en (nd ns i).ents (j - 1)).name) : ByteArray).toList || (((en (nd ns i).ents j).name) : ByteArray).toList == (((en (nd ns i).ents (j - 1)).name) : ByteArray).toList)) = (.bool (decide (strLe ((en (nd ns i).ents j).name) ((en (nd ns i).ents (j - 1)).name)))), (Rd β ⟨(blkOf (L.eA i)), offOf (L.eA i) + (j - 1) * 2, none⟩ (.string (en (nd ns i).ents (j - 1)).name)), (((j - 1) : Nat) : Int) = (((j - 1) : Nat) : Int), (j - 1) < (nd ns i).ents.length, (⟨(blkOf (L.eA i)), offOf (L.eA i), none⟩ : Addr).spot = none, ((L.eA i) : Option Addr) = some ⟨(blkOf (L.eA i)), offOf (L.eA i), none⟩, (Value.int .i64 (IntKind.wrap .i64 (((j : Nat) : Int) - 1))) = (.int .i64 ((((j - 1) : Nat) : Int))), (Rd β ⟨(blkOf A), offOf A + i * 10 + 9, none⟩ (.slice (L.eA i) ((nd ns i).ents.length) ((L.eC i)))), ((i : Nat) : Int) = ((i : Nat) : Int), i < ns.length, (⟨(blkOf A), offOf A, none⟩ : Addr).spot = none, (A : Option Addr) = some ⟨(blkOf A), offOf A, none⟩, b1 = b1, b4 = b4]) [o_, ⟨[.at 3], none, none, none, none⟩, o_, ⟨[.at 0], none, none, none, none⟩, o_, ⟨[], some i, none, some ⟨(blkOf A), offOf A, none⟩, none⟩, o_, ⟨[.old (.slice (L.eA i) ((nd ns i).ents.length) ((L.eC i)))], none, none, none, none⟩, o_, ⟨[], none, none, none, some (.int .i64 ((((j - 1) : Nat) : Int)))⟩, ⟨[], some (j - 1), none, some ⟨(blkOf (L.eA i)), offOf (L.eA i), none⟩, none⟩, o_, ⟨[.old (.string (en (nd ns i).ents (j - 1)).name)], none, none, none, none⟩, ⟨[], none, none, none, some (.bool (decide (strLe ((en (nd ns i).ents j).name) ((en (nd ns i).ents (j - 1)).name))))⟩, o_, o_] [1, 6, 8, 9, 11, 138] (fun _ _ => by kernel_rfl) ⟨strLeV _ _, EntsAt.rd (hG.ents i (by omega)) (i := (j - 1)) (by omega) (j := 0) rfl, rfl, by omega, rfl, EntsAt.hd (hG.ents i (by omega)) (i := (j - 1)) (by omega), wrapEq (by omega) (by omega) (by omega), GraphAt.rd hG (i := i) (by omega) (j := 9) rfl, rfl, by omega, rfl, GraphAt.hd hG (i := i) (by omega), rfl, rfl, trivial⟩ ?_
                    refine TriLQ.nil (by kernel_rfl) ?_
                    refine TriQ.next ?_
                    refine Tri.condP (p := strLe ((en (nd ns i).ents j).name) ((en (nd ns i).ents (j - 1)).name)) (fun _ => by kernel_rfl) (fun h138 => ?_) (fun h138 => ?_)
                    · refine Tri.seq ?_
                      refine Tri.region ?_
                      refine TriL.segK (k' := 1) (fr' := [(2, .int .i64 140)]) (obl := []) [o_] [2] (fun _ _ => by kernel_rfl) trivial ?_
                      refine TriL.nil (by kernel_rfl) ?_
                      refine TriQ.next ?_
                      refine Tri.ret ?_
                      refine TriQ.passRet ?_
                      refine TriQ.blockRet ?_
                      refine TriQ.passRet ?_
                      refine TriQ.passRet ?_
                      refine TriQ.blockRet ?_
                      refine TriQ.blockRet ?_
                      refine TriQ.passRet ?_
                      refine TriQ.passRet ?_
                      refine TriQ.blockRet ?_
                      refine TriQ.passRet ?_
                      exact TriQ.ret (v := .int .i64 140) (l := []) (obl := []) [] [2] (fun _ => by kernel_rfl) trivial rfl (by kernel_rfl) (⟨congrArg (Value.int .i64) (if_neg (c := GraphOk ns) (fun h => by have h1 := (h.ents i (by omega) j (by omega)).ord; rw [prevName_pos (by omega)] at h1; exact h1 h138)).symm, rfl⟩)
                    · refine Tri.skip ?_
                      refine TriQ.next ?_
                      refine Tri.seq ?_
                      refine Tri.region ?_
                      refine TriL.segK (k' := 7) (fr' := [(1, .pointer (some ⟨b1, 0, none⟩)), (6, .slice (some ⟨b3, 0, none⟩) (ns.length) (ns.length)), (8, .int .i64 (((i : Nat) : Int))), (9, .int .i64 (((j : Nat) : Int))), (11, .int .i64 (atI ns (en (nd ns i).ents j).id)), (145, .bool (decide (((nd ns (tgt ns (en (nd ns i).ents j).id)).kind : Int) = (2 : Int))))]) (obl := [(Rd β ⟨(blkOf A), offOf A + (tgt ns (en (nd ns i).ents j).id) * 10 + 1, none⟩ (.int .i64 ((nd ns (tgt ns (en (nd ns i).ents j).id)).kind))), atI ns (en (nd ns i).ents j).id = (((tgt ns (en (nd ns i).ents j).id) : Nat) : Int), (tgt ns (en (nd ns i).ents j).id) < ns.length, (⟨(blkOf A), offOf A, none⟩ : Addr).spot = none, (A : Option Addr) = some ⟨(blkOf A), offOf A, none⟩, b1 = b1]) [o_, ⟨[.at 0], none, none, none, none⟩, o_, ⟨[], some (tgt ns (en (nd ns i).ents j).id), none, some ⟨(blkOf A), offOf A, none⟩, none⟩, o_, ⟨[.old (.int .i64 ((nd ns (tgt ns (en (nd ns i).ents j).id)).kind))], none, none, none, none⟩, o_] [1, 6, 8, 9, 11, 145] (fun _ _ => by kernel_rfl) ⟨GraphAt.rd hG (i := (tgt ns (en (nd ns i).ents j).id)) (by omega) (j := 1) rfl, htl.2.2, by omega, rfl, GraphAt.hd hG (i := (tgt ns (en (nd ns i).ents j).id)) (by omega), rfl, trivial⟩ ?_
                      refine TriL.nil (by kernel_rfl) ?_
                      refine TriQ.next ?_
                      refine Tri.condP (p := ((nd ns (tgt ns (en (nd ns i).ents j).id)).kind : Int) = (2 : Int)) (fun _ => by kernel_rfl) (fun h145 => ?_) (fun h145 => ?_)
                      · refine Tri.seq ?_
                        refine Tri.seq ?_
                        refine Tri.region ?_
                        refine TriL.segK (k' := 5) (fr' := [(1, .pointer (some ⟨b1, 0, none⟩)), (6, .slice (some ⟨b3, 0, none⟩) (ns.length) (ns.length)), (8, .int .i64 (((i : Nat) : Int))), (9, .int .i64 (((j : Nat) : Int))), (11, .int .i64 (atI ns (en (nd ns i).ents j).id)), (150, .bool (decide (((pl2.getD (tgt ns (en (nd ns i).ents j).id) 0) : Int) ≥ (0 : Int))))]) (obl := [(∀ F w, (RowA 3 1 (some ⟨b3, 0, none⟩) ns.length ns.length (intsV pl2)).h F w → w.cell? ⟨b3, (tgt ns (en (nd ns i).ents j).id), none⟩ = some (.int .i64 ((pl2.getD (tgt ns (en (nd ns i).ents j).id) 0)))), (Value.pointer (some ⟨b3, 0 + (tgt ns (en (nd ns i).ents j).id) * 1, none⟩)) = (.pointer (some ⟨b3, (tgt ns (en (nd ns i).ents j).id), none⟩)), atI ns (en (nd ns i).ents j).id = (((tgt ns (en (nd ns i).ents j).id) : Nat) : Int), (tgt ns (en (nd ns i).ents j).id) < ns.length, (⟨b3, 0, none⟩ : Addr).spot = none]) [o_, o_, ⟨[], some (tgt ns (en (nd ns i).ents j).id), none, none, some (.pointer (some ⟨b3, (tgt ns (en (nd ns i).ents j).id), none⟩))⟩, ⟨[.view 1 (.int .i64 ((pl2.getD (tgt ns (en (nd ns i).ents j).id) 0)))], none, none, none, none⟩, o_] [1, 6, 8, 9, 11, 150] (fun _ _ => by kernel_rfl) ⟨RowA.cell (intsV_get (by omega)), by simp, htl.2.2, by omega, rfl, trivial⟩ ?_
                        refine TriL.nil (by kernel_rfl) ?_
                        refine TriQ.next ?_
                        refine Tri.condP (p := ((pl2.getD (tgt ns (en (nd ns i).ents j).id) 0) : Int) ≥ (0 : Int)) (fun _ => by kernel_rfl) (fun h150 => ?_) (fun h150 => ?_)
                        · refine Tri.seq ?_
                          refine Tri.region ?_
                          refine TriL.segK (k' := 1) (fr' := [(2, .int .i64 140)]) (obl := []) [o_] [2] (fun _ _ => by kernel_rfl) trivial ?_
                          refine TriL.nil (by kernel_rfl) ?_
                          refine TriQ.next ?_
                          refine Tri.ret ?_
                          refine TriQ.passRet ?_
                          refine TriQ.blockRet ?_
                          refine TriQ.passRet ?_
                          refine TriQ.passRet ?_
                          refine TriQ.blockRet ?_
                          refine TriQ.blockRet ?_
                          refine TriQ.passRet ?_
                          refine TriQ.passRet ?_
                          refine TriQ.blockRet ?_
                          refine TriQ.passRet ?_
                          exact TriQ.ret (v := .int .i64 140) (l := []) (obl := []) [] [2] (fun _ => by kernel_rfl) trivial rfl (by kernel_rfl) (⟨congrArg (Value.int .i64) (if_neg (c := GraphOk ns) (fun h => by have h1 : parI (rowE ns i j ++ allE ns i) (tgt ns (en (nd ns i).ents j).id) < 0 := parI_none.2 (rowOk_fresh (h.row (by omega)) (by omega) h145); rw [← hpar2.at_ (tgt ns (en (nd ns i).ents j).id) (by omega)] at h1; omega)).symm, rfl⟩)
                        · refine Tri.skip ?_
                          refine TriQ.next ?_
                          refine Tri.region ?_
                          refine TriL.segK (k' := 4) (fr' := [(1, .pointer (some ⟨b1, 0, none⟩)), (6, .slice (some ⟨b3, 0, none⟩) (ns.length) (ns.length)), (8, .int .i64 (((i : Nat) : Int))), (9, .int .i64 (((j : Nat) : Int))), (153, .int .i64 (((i : Nat) : Int))), (154, .pointer (some ⟨b3, (tgt ns (en (nd ns i).ents j).id), none⟩))]) (obl := [(Value.pointer (some ⟨b3, 0 + (tgt ns (en (nd ns i).ents j).id) * 1, none⟩)) = (.pointer (some ⟨b3, (tgt ns (en (nd ns i).ents j).id), none⟩)), atI ns (en (nd ns i).ents j).id = (((tgt ns (en (nd ns i).ents j).id) : Nat) : Int), (tgt ns (en (nd ns i).ents j).id) < ns.length, (⟨b3, 0, none⟩ : Addr).spot = none]) [o_, o_, o_, ⟨[], some (tgt ns (en (nd ns i).ents j).id), none, none, some (.pointer (some ⟨b3, (tgt ns (en (nd ns i).ents j).id), none⟩))⟩] [1, 6, 8, 9, 153, 154] (fun _ _ => by kernel_rfl) ⟨by simp, htl.2.2, by omega, rfl, trivial⟩ ?_
                          refine TriL.rowSet 1 ((tgt ns (en (nd ns i).ents j).id)) (d := none) (T := 3) (e := 3) (size := 1) (n := ns.length) (cap := ns.length) (g := b3) (xs := (intsV pl2)) (u := .int .i64 (((i : Nat) : Int))) (a := (.tmp 154)) (y := (.tmp 153)) (fun _ => by kernel_rfl) (by kernel_rfl) (fun _ => by kernel_rfl) (fun _ => by kernel_rfl) (by kernel_rfl) rfl (by rw [intsV, List.length_map]; omega) ?_
                          refine TriL.partEq 1 (p := .abs (RowA 3 1 (some ⟨b3, 0, none⟩) ns.length ns.length ((intsV pl2).set ((tgt ns (en (nd ns i).ents j).id)) (.int .i64 (((i : Nat) : Int)))))) (p' := .abs (RowA 3 1 (some ⟨b3, 0, none⟩) ns.length ns.length (intsV (pl2.set (tgt ns (en (nd ns i).ents j).id) ((i : Nat) : Int))))) (by kernel_rfl) (by rw [intsV_set]) ?_
                          refine TriL.nil (by kernel_rfl) ?_
                          refine TriQ.blockNormal ?_
                          refine TriQ.next ?_
                          refine Tri.region ?_
                          refine TriL.segK (k' := 3) (fr' := [(1, .pointer (some ⟨b1, 0, none⟩)), (6, .slice (some ⟨b3, 0, none⟩) (ns.length) (ns.length)), (8, .int .i64 (((i : Nat) : Int))), (9, .int .i64 (((j + 1 : Nat) : Int)))]) (obl := [(Value.int .i64 (IntKind.wrap .i64 (((j : Nat) : Int) + 1))) = (.int .i64 (((j + 1 : Nat) : Int)))]) [o_, ⟨[], none, none, none, some (.int .i64 (((j + 1 : Nat) : Int)))⟩, o_] [1, 6, 8, 9] (fun _ _ => by kernel_rfl) ⟨wrapEq (by omega) (by omega) (by omega), trivial⟩ ?_
                          refine TriL.nil (by kernel_rfl) ?_
                          exact TriQ.turn ((j + 1), (pl2.set (tgt ns (en (nd ns i).ents j).id) ((i : Nat) : Int))) (idx := [1, 6, 8, 9]) (pk := [0, 1, 2]) (show (((j + 1)) ≤ (nd ns i).ents.length) ∧ (∀ t, t < ((j + 1)) → EntOk ns i t) ∧ (((rowE ns i ((j + 1)) ++ allE ns i).map Prod.fst).Nodup) ∧ (Par ns.length ((pl2.set (tgt ns (en (nd ns i).ents j).id) ((i : Nat) : Int))) (rowE ns i ((j + 1)) ++ allE ns i)) from ⟨by omega, fun t ht => (by rcases Nat.lt_succ_iff_lt_or_eq.1 ht with h | h; exact hok t h; subst h; exact entOk_of (Int.not_lt.1 h113) h119 (fun _ => h138)), (by rw [rowE_dir h145, List.cons_append, List.map_cons]; exact List.nodup_cons.2 ⟨show tgt ns (en (nd ns i).ents j).id ∉ _ from parI_none.1 (by rw [← hpar2.at_ (tgt ns (en (nd ns i).ents j).id) (by omega)]; omega), hnd2⟩), (by rw [rowE_dir h145]; exact hpar2.put (by omega))⟩) (by show (nd ns i).ents.length - ((j + 1)) < (nd ns i).ents.length - j; omega) (fun _ => by kernel_rfl) rfl (by kernel_rfl)
                      · refine Tri.skip ?_
                        refine TriQ.blockNormal ?_
                        refine TriQ.next ?_
                        refine Tri.region ?_
                        refine TriL.segK (k' := 3) (fr' := [(1, .pointer (some ⟨b1, 0, none⟩)), (6, .slice (some ⟨b3, 0, none⟩) (ns.length) (ns.length)), (8, .int .i64 (((i : Nat) : Int))), (9, .int .i64 (((j + 1 : Nat) : Int)))]) (obl := [(Value.int .i64 (IntKind.wrap .i64 (((j : Nat) : Int) + 1))) = (.int .i64 (((j + 1 : Nat) : Int)))]) [o_, ⟨[], none, none, none, some (.int .i64 (((j + 1 : Nat) : Int)))⟩, o_] [1, 6, 8, 9] (fun _ _ => by kernel_rfl) ⟨wrapEq (by omega) (by omega) (by omega), trivial⟩ ?_
                        refine TriL.nil (by kernel_rfl) ?_
                        exact TriQ.turn ((j + 1), pl2) (idx := [1, 6, 8, 9]) (pk := [0, 1, 2]) (show (((j + 1)) ≤ (nd ns i).ents.length) ∧ (∀ t, t < ((j + 1)) → EntOk ns i t) ∧ (((rowE ns i ((j + 1)) ++ allE ns i).map Prod.fst).Nodup) ∧ (Par ns.length pl2 (rowE ns i ((j + 1)) ++ allE ns i)) from ⟨by omega, fun t ht => (by rcases Nat.lt_succ_iff_lt_or_eq.1 ht with h | h; exact hok t h; subst h; exact entOk_of (Int.not_lt.1 h113) h119 (fun _ => h138)), (by rw [rowE_skip h145]; exact hnd2), (by rw [rowE_skip h145]; exact hpar2)⟩) (by show (nd ns i).ents.length - ((j + 1)) < (nd ns i).ents.length - j; omega) (fun _ => by kernel_rfl) rfl (by kernel_rfl)
                  · refine TriLQ.seg (k' := 28) (fr' := [(1, .pointer (some ⟨b1, 0, none⟩)), (6, .slice (some ⟨b3, 0, none⟩) (ns.length) (ns.length)), (8, .int .i64 (((i : Nat) : Int))), (9, .int .i64 (((j : Nat) : Int))), (11, .int .i64 (atI ns (en (nd ns i).ents j).id)), (138, .bool false)]) (obl := []) [o_, o_, o_, o_, o_, o_, o_, o_, o_, o_, o_, o_, o_, o_, o_, o_] [1, 6, 8, 9, 11, 138] (fun _ _ => by kernel_rfl) trivial ?_
                    refine TriLQ.nil (by kernel_rfl) ?_
                    refine TriQ.next ?_
                    refine Tri.condF (fun _ => by kernel_rfl) ?_
                    refine Tri.skip ?_
                    refine TriQ.next ?_
                    refine Tri.seq ?_
                    refine Tri.region ?_
                    refine TriL.segK (k' := 7) (fr' := [(1, .pointer (some ⟨b1, 0, none⟩)), (6, .slice (some ⟨b3, 0, none⟩) (ns.length) (ns.length)), (8, .int .i64 (((i : Nat) : Int))), (9, .int .i64 (((j : Nat) : Int))), (11, .int .i64 (atI ns (en (nd ns i).ents j).id)), (145, .bool (decide (((nd ns (tgt ns (en (nd ns i).ents j).id)).kind : Int) = (2 : Int))))]) (obl := [(Rd β ⟨(blkOf A), offOf A + (tgt ns (en (nd ns i).ents j).id) * 10 + 1, none⟩ (.int .i64 ((nd ns (tgt ns (en (nd ns i).ents j).id)).kind))), atI ns (en (nd ns i).ents j).id = (((tgt ns (en (nd ns i).ents j).id) : Nat) : Int), (tgt ns (en (nd ns i).ents j).id) < ns.length, (⟨(blkOf A), offOf A, none⟩ : Addr).spot = none, (A : Option Addr) = some ⟨(blkOf A), offOf A, none⟩, b1 = b1]) [o_, ⟨[.at 0], none, none, none, none⟩, o_, ⟨[], some (tgt ns (en (nd ns i).ents j).id), none, some ⟨(blkOf A), offOf A, none⟩, none⟩, o_, ⟨[.old (.int .i64 ((nd ns (tgt ns (en (nd ns i).ents j).id)).kind))], none, none, none, none⟩, o_] [1, 6, 8, 9, 11, 145] (fun _ _ => by kernel_rfl) ⟨GraphAt.rd hG (i := (tgt ns (en (nd ns i).ents j).id)) (by omega) (j := 1) rfl, htl.2.2, by omega, rfl, GraphAt.hd hG (i := (tgt ns (en (nd ns i).ents j).id)) (by omega), rfl, trivial⟩ ?_
                    refine TriL.nil (by kernel_rfl) ?_
                    refine TriQ.next ?_
                    refine Tri.condP (p := ((nd ns (tgt ns (en (nd ns i).ents j).id)).kind : Int) = (2 : Int)) (fun _ => by kernel_rfl) (fun h145 => ?_) (fun h145 => ?_)
                    · refine Tri.seq ?_
                      refine Tri.seq ?_
                      refine Tri.region ?_
                      refine TriL.segK (k' := 5) (fr' := [(1, .pointer (some ⟨b1, 0, none⟩)), (6, .slice (some ⟨b3, 0, none⟩) (ns.length) (ns.length)), (8, .int .i64 (((i : Nat) : Int))), (9, .int .i64 (((j : Nat) : Int))), (11, .int .i64 (atI ns (en (nd ns i).ents j).id)), (150, .bool (decide (((pl2.getD (tgt ns (en (nd ns i).ents j).id) 0) : Int) ≥ (0 : Int))))]) (obl := [(∀ F w, (RowA 3 1 (some ⟨b3, 0, none⟩) ns.length ns.length (intsV pl2)).h F w → w.cell? ⟨b3, (tgt ns (en (nd ns i).ents j).id), none⟩ = some (.int .i64 ((pl2.getD (tgt ns (en (nd ns i).ents j).id) 0)))), (Value.pointer (some ⟨b3, 0 + (tgt ns (en (nd ns i).ents j).id) * 1, none⟩)) = (.pointer (some ⟨b3, (tgt ns (en (nd ns i).ents j).id), none⟩)), atI ns (en (nd ns i).ents j).id = (((tgt ns (en (nd ns i).ents j).id) : Nat) : Int), (tgt ns (en (nd ns i).ents j).id) < ns.length, (⟨b3, 0, none⟩ : Addr).spot = none]) [o_, o_, ⟨[], some (tgt ns (en (nd ns i).ents j).id), none, none, some (.pointer (some ⟨b3, (tgt ns (en (nd ns i).ents j).id), none⟩))⟩, ⟨[.view 1 (.int .i64 ((pl2.getD (tgt ns (en (nd ns i).ents j).id) 0)))], none, none, none, none⟩, o_] [1, 6, 8, 9, 11, 150] (fun _ _ => by kernel_rfl) ⟨RowA.cell (intsV_get (by omega)), by simp, htl.2.2, by omega, rfl, trivial⟩ ?_
                      refine TriL.nil (by kernel_rfl) ?_
                      refine TriQ.next ?_
                      refine Tri.condP (p := ((pl2.getD (tgt ns (en (nd ns i).ents j).id) 0) : Int) ≥ (0 : Int)) (fun _ => by kernel_rfl) (fun h150 => ?_) (fun h150 => ?_)
                      · refine Tri.seq ?_
                        refine Tri.region ?_
                        refine TriL.segK (k' := 1) (fr' := [(2, .int .i64 140)]) (obl := []) [o_] [2] (fun _ _ => by kernel_rfl) trivial ?_
                        refine TriL.nil (by kernel_rfl) ?_
                        refine TriQ.next ?_
                        refine Tri.ret ?_
                        refine TriQ.passRet ?_
                        refine TriQ.blockRet ?_
                        refine TriQ.passRet ?_
                        refine TriQ.passRet ?_
                        refine TriQ.blockRet ?_
                        refine TriQ.blockRet ?_
                        refine TriQ.passRet ?_
                        refine TriQ.passRet ?_
                        refine TriQ.blockRet ?_
                        refine TriQ.passRet ?_
                        exact TriQ.ret (v := .int .i64 140) (l := []) (obl := []) [] [2] (fun _ => by kernel_rfl) trivial rfl (by kernel_rfl) (⟨congrArg (Value.int .i64) (if_neg (c := GraphOk ns) (fun h => by have h1 : parI (rowE ns i j ++ allE ns i) (tgt ns (en (nd ns i).ents j).id) < 0 := parI_none.2 (rowOk_fresh (h.row (by omega)) (by omega) h145); rw [← hpar2.at_ (tgt ns (en (nd ns i).ents j).id) (by omega)] at h1; omega)).symm, rfl⟩)
                      · refine Tri.skip ?_
                        refine TriQ.next ?_
                        refine Tri.region ?_
                        refine TriL.segK (k' := 4) (fr' := [(1, .pointer (some ⟨b1, 0, none⟩)), (6, .slice (some ⟨b3, 0, none⟩) (ns.length) (ns.length)), (8, .int .i64 (((i : Nat) : Int))), (9, .int .i64 (((j : Nat) : Int))), (153, .int .i64 (((i : Nat) : Int))), (154, .pointer (some ⟨b3, (tgt ns (en (nd ns i).ents j).id), none⟩))]) (obl := [(Value.pointer (some ⟨b3, 0 + (tgt ns (en (nd ns i).ents j).id) * 1, none⟩)) = (.pointer (some ⟨b3, (tgt ns (en (nd ns i).ents j).id), none⟩)), atI ns (en (nd ns i).ents j).id = (((tgt ns (en (nd ns i).ents j).id) : Nat) : Int), (tgt ns (en (nd ns i).ents j).id) < ns.length, (⟨b3, 0, none⟩ : Addr).spot = none]) [o_, o_, o_, ⟨[], some (tgt ns (en (nd ns i).ents j).id), none, none, some (.pointer (some ⟨b3, (tgt ns (en (nd ns i).ents j).id), none⟩))⟩] [1, 6, 8, 9, 153, 154] (fun _ _ => by kernel_rfl) ⟨by simp, htl.2.2, by omega, rfl, trivial⟩ ?_
                        refine TriL.rowSet 1 ((tgt ns (en (nd ns i).ents j).id)) (d := none) (T := 3) (e := 3) (size := 1) (n := ns.length) (cap := ns.length) (g := b3) (xs := (intsV pl2)) (u := .int .i64 (((i : Nat) : Int))) (a := (.tmp 154)) (y := (.tmp 153)) (fun _ => by kernel_rfl) (by kernel_rfl) (fun _ => by kernel_rfl) (fun _ => by kernel_rfl) (by kernel_rfl) rfl (by rw [intsV, List.length_map]; omega) ?_
                        refine TriL.partEq 1 (p := .abs (RowA 3 1 (some ⟨b3, 0, none⟩) ns.length ns.length ((intsV pl2).set ((tgt ns (en (nd ns i).ents j).id)) (.int .i64 (((i : Nat) : Int)))))) (p' := .abs (RowA 3 1 (some ⟨b3, 0, none⟩) ns.length ns.length (intsV (pl2.set (tgt ns (en (nd ns i).ents j).id) ((i : Nat) : Int))))) (by kernel_rfl) (by rw [intsV_set]) ?_
                        refine TriL.nil (by kernel_rfl) ?_
                        refine TriQ.blockNormal ?_
                        refine TriQ.next ?_
                        refine Tri.region ?_
                        refine TriL.segK (k' := 3) (fr' := [(1, .pointer (some ⟨b1, 0, none⟩)), (6, .slice (some ⟨b3, 0, none⟩) (ns.length) (ns.length)), (8, .int .i64 (((i : Nat) : Int))), (9, .int .i64 (((j + 1 : Nat) : Int)))]) (obl := [(Value.int .i64 (IntKind.wrap .i64 (((j : Nat) : Int) + 1))) = (.int .i64 (((j + 1 : Nat) : Int)))]) [o_, ⟨[], none, none, none, some (.int .i64 (((j + 1 : Nat) : Int)))⟩, o_] [1, 6, 8, 9] (fun _ _ => by kernel_rfl) ⟨wrapEq (by omega) (by omega) (by omega), trivial⟩ ?_
                        refine TriL.nil (by kernel_rfl) ?_
                        exact TriQ.turn ((j + 1), (pl2.set (tgt ns (en (nd ns i).ents j).id) ((i : Nat) : Int))) (idx := [1, 6, 8, 9]) (pk := [0, 1, 2]) (show (((j + 1)) ≤ (nd ns i).ents.length) ∧ (∀ t, t < ((j + 1)) → EntOk ns i t) ∧ (((rowE ns i ((j + 1)) ++ allE ns i).map Prod.fst).Nodup) ∧ (Par ns.length ((pl2.set (tgt ns (en (nd ns i).ents j).id) ((i : Nat) : Int))) (rowE ns i ((j + 1)) ++ allE ns i)) from ⟨by omega, fun t ht => (by rcases Nat.lt_succ_iff_lt_or_eq.1 ht with h | h; exact hok t h; subst h; exact entOk_of (Int.not_lt.1 h113) h119 (fun h => absurd h (by omega))), (by rw [rowE_dir h145, List.cons_append, List.map_cons]; exact List.nodup_cons.2 ⟨show tgt ns (en (nd ns i).ents j).id ∉ _ from parI_none.1 (by rw [← hpar2.at_ (tgt ns (en (nd ns i).ents j).id) (by omega)]; omega), hnd2⟩), (by rw [rowE_dir h145]; exact hpar2.put (by omega))⟩) (by show (nd ns i).ents.length - ((j + 1)) < (nd ns i).ents.length - j; omega) (fun _ => by kernel_rfl) rfl (by kernel_rfl)
                    · refine Tri.skip ?_
                      refine TriQ.blockNormal ?_
                      refine TriQ.next ?_
                      refine Tri.region ?_
                      refine TriL.segK (k' := 3) (fr' := [(1, .pointer (some ⟨b1, 0, none⟩)), (6, .slice (some ⟨b3, 0, none⟩) (ns.length) (ns.length)), (8, .int .i64 (((i : Nat) : Int))), (9, .int .i64 (((j + 1 : Nat) : Int)))]) (obl := [(Value.int .i64 (IntKind.wrap .i64 (((j : Nat) : Int) + 1))) = (.int .i64 (((j + 1 : Nat) : Int)))]) [o_, ⟨[], none, none, none, some (.int .i64 (((j + 1 : Nat) : Int)))⟩, o_] [1, 6, 8, 9] (fun _ _ => by kernel_rfl) ⟨wrapEq (by omega) (by omega) (by omega), trivial⟩ ?_
                      refine TriL.nil (by kernel_rfl) ?_
                      exact TriQ.turn ((j + 1), pl2) (idx := [1, 6, 8, 9]) (pk := [0, 1, 2]) (show (((j + 1)) ≤ (nd ns i).ents.length) ∧ (∀ t, t < ((j + 1)) → EntOk ns i t) ∧ (((rowE ns i ((j + 1)) ++ allE ns i).map Prod.fst).Nodup) ∧ (Par ns.length pl2 (rowE ns i ((j + 1)) ++ allE ns i)) from ⟨by omega, fun t ht => (by rcases Nat.lt_succ_iff_lt_or_eq.1 ht with h | h; exact hok t h; subst h; exact entOk_of (Int.not_lt.1 h113) h119 (fun h => absurd h (by omega))), (by rw [rowE_skip h145]; exact hnd2), (by rw [rowE_skip h145]; exact hpar2)⟩) (by show (nd ns i).ents.length - ((j + 1)) < (nd ns i).ents.length - j; omega) (fun _ => by kernel_rfl) rfl (by kernel_rfl)
            · refine Tri.exit ?_
              refine TriQ.passExit ?_
              refine TriQ.passExit ?_
              refine TriQ.blockHit ?_
              refine TriQ.blockNormal ?_
              refine TriQ.next ?_
              refine Tri.region ?_
              refine TriL.segK (k' := 3) (fr' := [(1, .pointer (some ⟨b1, 0, none⟩)), (6, .slice (some ⟨b3, 0, none⟩) (ns.length) (ns.length)), (8, .int .i64 (((i + 1 : Nat) : Int)))]) (obl := [(Value.int .i64 (IntKind.wrap .i64 (((i : Nat) : Int) + 1))) = (.int .i64 (((i + 1 : Nat) : Int)))]) [o_, ⟨[], none, none, none, some (.int .i64 (((i + 1 : Nat) : Int)))⟩, o_] [1, 6, 8] (fun _ _ => by kernel_rfl) ⟨wrapEq (by omega) (by omega) (by omega), trivial⟩ ?_
              refine TriL.nil (by kernel_rfl) ?_
              exact TriQ.turn ((i + 1), pl2) (idx := [1, 6, 8]) (pk := [0, 1, 2]) (show (((i + 1)) ≤ ns.length) ∧ (∀ a, a < ((i + 1)) → ∀ j, j < (nd ns a).ents.length → EntOk ns a j) ∧ (((allE ns ((i + 1))).map Prod.fst).Nodup) ∧ (Par ns.length pl2 (allE ns ((i + 1)))) from ⟨by omega, fun a ha => (by rcases Nat.lt_succ_iff_lt_or_eq.1 ha with h | h; exact hents a h; subst h; exact fun j' hj' => hok j' (by omega)), (by have := hnd2; rwa [show j = (nd ns i).ents.length by omega] at this), (by have := hpar2; rwa [show j = (nd ns i).ents.length by omega] at this)⟩) (by show ns.length - ((i + 1)) < ns.length - i; omega) (fun _ => by kernel_rfl) rfl (by kernel_rfl)
          · refine Tri.exit ?_
            refine TriQ.passExit ?_
            refine TriQ.passExit ?_
            refine TriQ.blockHit ?_
            refine TriQ.next ?_
            refine Tri.seq ?_
            refine Tri.seq ?_
            refine Tri.region ?_
            refine TriL.segK (k' := 1) (fr' := [(6, .slice (some ⟨b3, 0, none⟩) (ns.length) (ns.length)), (12, .int .i64 0)]) (obl := []) [o_] [6, 12] (fun _ _ => by kernel_rfl) trivial ?_
            refine TriL.nil (by kernel_rfl) ?_
            refine TriQ.next ?_
            refine Tri.block ?_
            have hparN : Par ns.length pl1 (allE ns ns.length) := by have := hpar; rwa [show i = ns.length by omega] at this
            have hed := allE_fst (ns := ns) (Nat.le_refl _) (fun a ha => hents a (by omega))
            refine Tri.loop (ι := Nat) (fun (a : Nat) => (a ≤ ns.length) ∧ (∀ b, b < a → Ends ((allE ns ns.length).map (idP ns)) (nd ns b).id)) (fun (a : Nat) => ns.length - a) (fun (a : Nat) => [(6, .slice (some ⟨b3, 0, none⟩) (ns.length) (ns.length)), (12, .int .i64 (((a : Nat) : Int)))]) (fun (a : Nat) => [.abs (RowA 3 1 (some ⟨b3, 0, none⟩) ns.length ns.length (intsV pl1)), .abs R]) 0 (idx := [6, 12]) (pk := [1, 2]) (show (0 ≤ ns.length) ∧ (∀ b, b < 0 → Ends ((allE ns ns.length).map (idP ns)) (nd ns b).id) from ⟨Nat.zero_le _, fun b hb => absurd hb (Nat.not_lt_zero b)⟩) (fun _ => by kernel_rfl) rfl (by kernel_rfl) ?_
            rintro a ⟨ha, hend⟩
            show Tri _ _ _ _ [(6, .slice (some ⟨b3, 0, none⟩) (ns.length) (ns.length)), (12, .int .i64 (((a : Nat) : Int)))] [.abs (RowA 3 1 (some ⟨b3, 0, none⟩) ns.length ns.length (intsV pl1)), .abs R] _
            have hln := hpar.len
            refine Tri.seq ?_
            refine Tri.seq ?_
            refine Tri.region ?_
            refine TriL.segK (k' := 4) (fr' := [(6, .slice (some ⟨b3, 0, none⟩) (ns.length) (ns.length)), (12, .int .i64 (((a : Nat) : Int))), (158, .bool (decide ((((a : Nat) : Int) : Int) < (((ns.length : Nat) : Int) : Int))))]) (obl := []) [o_, o_, o_, o_] [6, 12, 158] (fun _ _ => by kernel_rfl) trivial ?_
            refine TriL.nil (by kernel_rfl) ?_
            refine TriQ.next ?_
            refine Tri.condP (p := (((a : Nat) : Int) : Int) < (((ns.length : Nat) : Int) : Int)) (fun _ => by kernel_rfl) (fun h158 => ?_) (fun h158 => ?_)
            · refine Tri.skip ?_
              refine TriQ.next ?_
              refine Tri.seq ?_
              refine Tri.block ?_
              refine Tri.seq ?_
              refine Tri.region ?_
              refine TriL.segK (k' := 5) (fr' := [(6, .slice (some ⟨b3, 0, none⟩) (ns.length) (ns.length)), (12, .int .i64 (((a : Nat) : Int))), (13, .int .i64 ((pl1.getD a 0)))]) (obl := [(∀ F w, (RowA 3 1 (some ⟨b3, 0, none⟩) ns.length ns.length (intsV pl1)).h F w → w.cell? ⟨b3, a, none⟩ = some (.int .i64 ((pl1.getD a 0)))), (Value.pointer (some ⟨b3, 0 + a * 1, none⟩)) = (.pointer (some ⟨b3, a, none⟩)), ((a : Nat) : Int) = ((a : Nat) : Int), a < ns.length, (⟨b3, 0, none⟩ : Addr).spot = none]) [o_, o_, ⟨[], some a, none, none, some (.pointer (some ⟨b3, a, none⟩))⟩, ⟨[.view 0 (.int .i64 ((pl1.getD a 0)))], none, none, none, none⟩, o_] [6, 12, 13] (fun _ _ => by kernel_rfl) ⟨RowA.cell (intsV_get (by omega)), by simp, rfl, by omega, rfl, trivial⟩ ?_
              refine TriL.nil (by kernel_rfl) ?_
              refine TriQ.next ?_
              refine Tri.seq ?_
              refine Tri.region ?_
              refine TriL.segK (k' := 1) (fr' := [(6, .slice (some ⟨b3, 0, none⟩) (ns.length) (ns.length)), (12, .int .i64 (((a : Nat) : Int))), (13, .int .i64 ((pl1.getD a 0))), (14, .int .i64 0)]) (obl := []) [o_] [6, 12, 13, 14] (fun _ _ => by kernel_rfl) trivial ?_
              refine TriL.nil (by kernel_rfl) ?_
              refine TriQ.next ?_
              refine Tri.block ?_
              refine Tri.loop (ι := Int × Nat × (List Int)) (fun ((at_, step, w) : Int × Nat × (List Int)) => ((at_ < 0 ∧ Ends ((allE ns ns.length).map (idP ns)) (nd ns a).id) ∨ ∃ q : Nat, at_ = (q : Int) ∧ q < ns.length ∧ Way ((allE ns ns.length).map (idP ns)) (nd ns a).id w (nd ns q).id ∧ w.length = step + 1)) (fun ((at_, step, w) : Int × Nat × (List Int)) => ns.length + 2 - step) (fun ((at_, step, w) : Int × Nat × (List Int)) => [(6, .slice (some ⟨b3, 0, none⟩) (ns.length) (ns.length)), (12, .int .i64 (((a : Nat) : Int))), (13, .int .i64 (at_)), (14, .int .i64 (((step : Nat) : Int)))]) (fun ((at_, step, w) : Int × Nat × (List Int)) => [.abs (RowA 3 1 (some ⟨b3, 0, none⟩) ns.length ns.length (intsV pl1)), .abs R]) ((pl1.getD a 0), 0, [(nd ns a).id]) (idx := [6, 12, 13, 14]) (pk := [0, 1]) (show ((((pl1.getD a 0)) < 0 ∧ Ends ((allE ns ns.length).map (idP ns)) (nd ns a).id) ∨ ∃ q : Nat, ((pl1.getD a 0)) = (q : Int) ∧ q < ns.length ∧ Way ((allE ns ns.length).map (idP ns)) (nd ns a).id ([(nd ns a).id]) (nd ns q).id ∧ ([(nd ns a).id]).length = 0 + 1) from way_next hrise hed hparN (by omega) .nil rfl) (fun _ => by kernel_rfl) rfl (by kernel_rfl) ?_
              rintro ⟨at_, step, w⟩ hst
              show Tri _ _ _ _ [(6, .slice (some ⟨b3, 0, none⟩) (ns.length) (ns.length)), (12, .int .i64 (((a : Nat) : Int))), (13, .int .i64 (at_)), (14, .int .i64 (((step : Nat) : Int)))] [.abs (RowA 3 1 (some ⟨b3, 0, none⟩) ns.length ns.length (intsV pl1)), .abs R] _
              refine Tri.seq ?_
              refine Tri.seq ?_
              refine Tri.region ?_
              refine TriL.segK (k' := 2) (fr' := [(6, .slice (some ⟨b3, 0, none⟩) (ns.length) (ns.length)), (12, .int .i64 (((a : Nat) : Int))), (13, .int .i64 (at_)), (14, .int .i64 (((step : Nat) : Int))), (166, .bool (decide ((at_ : Int) ≥ (0 : Int))))]) (obl := []) [o_, o_] [6, 12, 13, 14, 166] (fun _ _ => by kernel_rfl) trivial ?_
              refine TriL.nil (by kernel_rfl) ?_
              refine TriQ.next ?_
              refine Tri.condP (p := (at_ : Int) ≥ (0 : Int)) (fun _ => by kernel_rfl) (fun h166 => ?_) (fun h166 => ?_)
              · obtain ⟨b, hb0, hb1, hb2, hb3⟩ := hst.resolve_left (fun h => by omega)
                refine Tri.skip ?_
                refine TriQ.next ?_
                refine Tri.seq ?_
                refine Tri.block ?_
                refine Tri.seq ?_
                refine Tri.seq ?_
                refine Tri.region ?_
                refine TriL.segK (k' := 4) (fr' := [(6, .slice (some ⟨b3, 0, none⟩) (ns.length) (ns.length)), (12, .int .i64 (((a : Nat) : Int))), (13, .int .i64 (at_)), (14, .int .i64 (((step : Nat) : Int))), (172, .bool (decide ((at_ : Int) = (((a : Nat) : Int) : Int))))]) (obl := []) [o_, o_, o_, o_] [6, 12, 13, 14, 172] (fun _ _ => by kernel_rfl) trivial ?_
                refine TriL.slotP 172 ((at_ : Int) = (((a : Nat) : Int) : Int)) (fun _ => by kernel_rfl) (fun h172 => ?_) (fun h172 => ?_)
                · refine TriL.segK (k' := 9) (fr' := [(6, .slice (some ⟨b3, 0, none⟩) (ns.length) (ns.length)), (12, .int .i64 (((a : Nat) : Int))), (13, .int .i64 (at_)), (14, .int .i64 (((step : Nat) : Int))), (177, .bool true)]) (obl := []) [o_, o_, o_, o_, o_] [6, 12, 13, 14, 177] (fun _ _ => by kernel_rfl) trivial ?_
                  refine TriL.nil (by kernel_rfl) ?_
                  refine TriQ.next ?_
                  refine Tri.condT (fun _ => by kernel_rfl) ?_
                  refine Tri.seq ?_
                  refine Tri.region ?_
                  refine TriL.segK (k' := 1) (fr' := [(2, .int .i64 140)]) (obl := []) [o_] [2] (fun _ _ => by kernel_rfl) trivial ?_
                  refine TriL.nil (by kernel_rfl) ?_
                  refine TriQ.next ?_
                  refine Tri.ret ?_
                  refine TriQ.passRet ?_
                  refine TriQ.blockRet ?_
                  refine TriQ.passRet ?_
                  refine TriQ.passRet ?_
                  refine TriQ.blockRet ?_
                  refine TriQ.blockRet ?_
                  refine TriQ.passRet ?_
                  refine TriQ.passRet ?_
                  refine TriQ.blockRet ?_
                  refine TriQ.passRet ?_
                  exact TriQ.ret (v := .int .i64 140) (l := []) (obl := []) [] [1] (fun _ => by kernel_rfl) trivial rfl (by kernel_rfl) (⟨congrArg (Value.int .i64) (if_neg (c := GraphOk ns) (fun h => by rw [show b = a by omega] at hb2; exact hb2.back (by omega) (h.ends _))).symm, rfl⟩)
                · refine TriL.segK (k' := 9) (fr' := [(6, .slice (some ⟨b3, 0, none⟩) (ns.length) (ns.length)), (12, .int .i64 (((a : Nat) : Int))), (13, .int .i64 (at_)), (14, .int .i64 (((step : Nat) : Int))), (177, .bool (decide ((((step : Nat) : Int) : Int) > (((ns.length : Nat) : Int) : Int))))]) (obl := []) [o_, o_, o_, o_, o_] [6, 12, 13, 14, 177] (fun _ _ => by kernel_rfl) trivial ?_
                  refine TriL.nil (by kernel_rfl) ?_
                  refine TriQ.next ?_
                  refine Tri.condP (p := (((step : Nat) : Int) : Int) > (((ns.length : Nat) : Int) : Int)) (fun _ => by kernel_rfl) (fun h177 => ?_) (fun h177 => ?_)
                  · refine Tri.seq ?_
                    refine Tri.region ?_
                    refine TriL.segK (k' := 1) (fr' := [(2, .int .i64 140)]) (obl := []) [o_] [2] (fun _ _ => by kernel_rfl) trivial ?_
                    refine TriL.nil (by kernel_rfl) ?_
                    refine TriQ.next ?_
                    refine Tri.ret ?_
                    refine TriQ.passRet ?_
                    refine TriQ.blockRet ?_
                    refine TriQ.passRet ?_
                    refine TriQ.passRet ?_
                    refine TriQ.blockRet ?_
                    refine TriQ.blockRet ?_
                    refine TriQ.passRet ?_
                    refine TriQ.passRet ?_
                    refine TriQ.blockRet ?_
                    refine TriQ.passRet ?_
                    exact TriQ.ret (v := .int .i64 140) (l := []) (obl := []) [] [1] (fun _ => by kernel_rfl) trivial rfl (by kernel_rfl) (⟨congrArg (Value.int .i64) (if_neg (c := GraphOk ns) (fun h => by exact hb2.never (by have := h.few; omega) (h.ends _))).symm, rfl⟩)
                  · refine Tri.skip ?_
                    refine TriQ.next ?_
                    refine Tri.region ?_
                    refine TriL.segK (k' := 5) (fr' := [(6, .slice (some ⟨b3, 0, none⟩) (ns.length) (ns.length)), (12, .int .i64 (((a : Nat) : Int))), (13, .int .i64 ((pl1.getD b 0))), (14, .int .i64 (((step : Nat) : Int)))]) (obl := [(∀ F w, (RowA 3 1 (some ⟨b3, 0, none⟩) ns.length ns.length (intsV pl1)).h F w → w.cell? ⟨b3, b, none⟩ = some (.int .i64 ((pl1.getD b 0)))), (Value.pointer (some ⟨b3, 0 + b * 1, none⟩)) = (.pointer (some ⟨b3, b, none⟩)), at_ = ((b : Nat) : Int), b < ns.length, (⟨b3, 0, none⟩ : Addr).spot = none]) [o_, o_, ⟨[], some b, none, none, some (.pointer (some ⟨b3, b, none⟩))⟩, ⟨[.view 0 (.int .i64 ((pl1.getD b 0)))], none, none, none, none⟩, o_] [6, 12, 13, 14] (fun _ _ => by kernel_rfl) ⟨RowA.cell (intsV_get (by omega)), by simp, hb0, by omega, rfl, trivial⟩ ?_
                    refine TriL.nil (by kernel_rfl) ?_
                    refine TriQ.blockNormal ?_
                    refine TriQ.next ?_
                    refine Tri.region ?_
                    refine TriL.segK (k' := 3) (fr' := [(6, .slice (some ⟨b3, 0, none⟩) (ns.length) (ns.length)), (12, .int .i64 (((a : Nat) : Int))), (13, .int .i64 ((pl1.getD b 0))), (14, .int .i64 (((step + 1 : Nat) : Int)))]) (obl := [(Value.int .i64 (IntKind.wrap .i64 (((step : Nat) : Int) + 1))) = (.int .i64 (((step + 1 : Nat) : Int)))]) [o_, ⟨[], none, none, none, some (.int .i64 (((step + 1 : Nat) : Int)))⟩, o_] [6, 12, 13, 14] (fun _ _ => by kernel_rfl) ⟨wrapEq (by omega) (by omega) (by omega), trivial⟩ ?_
                    refine TriL.nil (by kernel_rfl) ?_
                    exact TriQ.turn ((pl1.getD b 0), (step + 1), (w ++ [(nd ns b).id])) (idx := [6, 12, 13, 14]) (pk := [0, 1]) (show ((((pl1.getD b 0)) < 0 ∧ Ends ((allE ns ns.length).map (idP ns)) (nd ns a).id) ∨ ∃ q : Nat, ((pl1.getD b 0)) = (q : Int) ∧ q < ns.length ∧ Way ((allE ns ns.length).map (idP ns)) (nd ns a).id ((w ++ [(nd ns b).id])) (nd ns q).id ∧ ((w ++ [(nd ns b).id])).length = ((step + 1)) + 1) from way_next hrise hed hparN hb1 hb2 hb3) (by show ns.length + 2 - ((step + 1)) < ns.length + 2 - step; omega) (fun _ => by kernel_rfl) rfl (by kernel_rfl)
              · refine Tri.exit ?_
                refine TriQ.passExit ?_
                refine TriQ.passExit ?_
                refine TriQ.blockHit ?_
                refine TriQ.blockNormal ?_
                refine TriQ.next ?_
                refine Tri.region ?_
                refine TriL.segK (k' := 3) (fr' := [(6, .slice (some ⟨b3, 0, none⟩) (ns.length) (ns.length)), (12, .int .i64 (((a + 1 : Nat) : Int)))]) (obl := [(Value.int .i64 (IntKind.wrap .i64 (((a : Nat) : Int) + 1))) = (.int .i64 (((a + 1 : Nat) : Int)))]) [o_, ⟨[], none, none, none, some (.int .i64 (((a + 1 : Nat) : Int)))⟩, o_] [6, 12] (fun _ _ => by kernel_rfl) ⟨wrapEq (by omega) (by omega) (by omega), trivial⟩ ?_
                refine TriL.nil (by kernel_rfl) ?_
                exact TriQ.turn ((a + 1)) (idx := [6, 12]) (pk := [0, 1]) (show (((a + 1)) ≤ ns.length) ∧ (∀ b, b < ((a + 1)) → Ends ((allE ns ns.length).map (idP ns)) (nd ns b).id) from ⟨by omega, fun b hb => by rcases Nat.lt_succ_iff_lt_or_eq.1 hb with h | h; exact hend b h; subst h; rcases hst with h2 | ⟨q, hq, _⟩; exact h2.2; omega⟩) (by show ns.length - ((a + 1)) < ns.length - a; omega) (fun _ => by kernel_rfl) rfl (by kernel_rfl)
            · refine Tri.exit ?_
              refine TriQ.passExit ?_
              refine TriQ.passExit ?_
              refine TriQ.blockHit ?_
              refine TriQ.next ?_
              refine Tri.seq ?_
              refine Tri.region ?_
              refine TriL.segK (k' := 1) (fr' := [(2, .int .i64 0)]) (obl := []) [o_] [2] (fun _ _ => by kernel_rfl) trivial ?_
              refine TriL.nil (by kernel_rfl) ?_
              refine TriQ.next ?_
              refine Tri.ret ?_
              exact TriQ.ret (v := .int .i64 0) (l := []) (obl := []) [] [1] (fun _ => by kernel_rfl) trivial rfl (by kernel_rfl) (⟨congrArg (Value.int .i64) (if_pos (c := GraphOk ns) ⟨by omega, fun a ha => hu.node a (by omega), fun a ha => hu.ids a (by omega), hrise, by omega, fun a ha => hents a (by omega), by have := hnd; rwa [show i = ns.length by omega] at this, allEnd_of (fun p hp => (hed p hp).1) (fun b hb => hend b (by omega))⟩).symm, rfl⟩)
end Go.Proofs.Ytjpdcppdoonmdaa
