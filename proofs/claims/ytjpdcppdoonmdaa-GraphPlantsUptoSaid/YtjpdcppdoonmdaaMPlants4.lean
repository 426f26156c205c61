/-
  PROVED HERE: lemmas and contracts of functions (texts of this repo, joined): GRef, GW, Vy, GF, GBegin, GK, GLine, Vz, GZ.
  CONDITIONS: as the theorems say.
-/
import Derived.Test.YtjpdcppdoonmdaaMPlants3
import Derived.Lib.Bytealg
import Derived.OrdersHeld
/- part GRef. PROVED HERE: the reference checks a graph CONDITIONS: as the theorems say. Printed by a program of this repo (wip/v). -/
section
namespace Go.Proofs.Ytjpdcppdoonmdaa
open Go.RowKit
attribute [local irreducible] TriL TriLQ Tri TriQ
set_option maxRecDepth 100000 in
set_option maxHeartbeats 4000000 in
theorem sp_refCheck {β : Bs} (A : Option Addr) (c : Nat) (ns : List NodeM) (L : Lay) (hG : GraphAt β A ns L) (hl : ns.length ≤ 1048576) (hd : ∀ i, i < ns.length → (nd ns i).data.length ≤ 1048576 ∧ (nd ns i).ents.length ≤ 1048576) (_ : ∀ i, i < ns.length → ∀ j, j < (nd ns i).ents.length → -9223372036854775808 ≤ (ent ns i j).id ∧ (ent ns i j).id ≤ 9223372036854775807) (hnm : ∀ i, i < ns.length → ∀ j, j < (nd ns i).ents.length → (ent ns i j).name.size ≤ 1048576) (ht : ∀ i, i < ns.length → (nd ns i).target.size ≤ 1048576) :
    Spec Try.prog β 16 #[.agg #[.slice A ns.length c]] [] (fun v l => v = .int .i64 (if GraphOk ns then 0 else 140) ∧ l = []) := by
 refine Spec.enter Try.func16 rfl Try.ntmps16 (Nat.le_of_ble_eq_true rfl) (fun R => ?_)
 refine Tri.seq (Tri.region ?_)
 refine TriL.segN (k' := 2) (fr' := fun b1 => [(1, .pointer (some ⟨b1, 0, none⟩))]) (hps' := fun b1 => [.abs R, .blk b1 [.slice A (ns.length) (c)] 24]) (obl := fun b1 => []) [o_, o_] [1] [0, 1] (fun _ _ => by kernel_rfl) (fun b1 => trivial) (fun b1 => ?_)
 refine TriL.nil (by kernel_rfl) (TriQ.next (Tri.seq (Tri.seq (Tri.region ?_))))
 refine TriL.segK (k' := 4) (fr' := [(1, .pointer (some ⟨b1, 0, none⟩)), (18, .bool (decide ((((ns.length : Nat) : Int) : Int) > (4096 : Int))))]) (obl := [b1 = b1]) [o_, ⟨[.at 1], none, none, none, none⟩, o_, o_] [1, 18] (fun _ _ => by kernel_rfl) ⟨rfl, trivial⟩ ?_
 refine TriL.nil (by kernel_rfl) (TriQ.next ?_)
 refine Tri.condP (p := (((ns.length : Nat) : Int) : Int) > (4096 : Int)) (fun _ => by kernel_rfl) (fun h18 => ?_) (fun h18 => ?_)
 ·
  refine Tri.seq (Tri.region ?_)
  refine TriL.segK (k' := 1) (fr' := [(2, .int .i64 140)]) (obl := []) [o_] [2] (fun _ _ => by kernel_rfl) trivial ?_
  refine TriL.nil (by kernel_rfl) (TriQ.next (Tri.ret (TriQ.passRet ?_)))
  exact TriQ.ret (v := .int .i64 140) (l := []) (obl := []) [] [0] (fun _ => by kernel_rfl) trivial rfl (by kernel_rfl) (⟨congrArg (Value.int .i64) (if_neg (c := GraphOk ns) (fun h => by have := h.len; omega)).symm, rfl⟩)
 ·
  refine Tri.skip (TriQ.next (Tri.seq (Tri.region ?_)))
  refine TriL.segK (k' := 1) (fr' := [(1, .pointer (some ⟨b1, 0, none⟩)), (3, .int .i64 0)]) (obl := []) [o_] [1, 3] (fun _ _ => by kernel_rfl) trivial ?_
  refine TriL.nil (by kernel_rfl) (TriQ.next (Tri.seq (Tri.seq (Tri.region ?_))))
  refine TriL.segK (k' := 1) (fr' := [(1, .pointer (some ⟨b1, 0, none⟩)), (3, .int .i64 0), (4, .int .i64 0)]) (obl := []) [o_] [1, 3, 4] (fun _ _ => by kernel_rfl) trivial ?_
  refine TriL.nil (by kernel_rfl) (TriQ.next (Tri.block ?_))
  refine Tri.loop (ι := Nat) (fun (k : Nat) => (k ≤ ns.length) ∧ (Upto ns k) ∧ (entSum ns k ≤ k * 1048576)) (fun (k : Nat) => ns.length - k) (fun (k : Nat) => [(1, .pointer (some ⟨b1, 0, none⟩)), (3, .int .i64 ↑(entSum ns k)), (4, .int .i64 ↑k)]) (fun (k : Nat) => [.blk b1 [.slice A (ns.length) (c)] 24, .abs R]) 0 (idx := [1, 3, 4]) (pk := [1, 0]) (show (0 ≤ ns.length) ∧ (Upto ns 0) ∧ (entSum ns 0 ≤ 0 * 1048576) from ⟨Nat.zero_le _, Upto.zero ns, Nat.zero_le _⟩) (fun _ => by kernel_rfl) rfl (by kernel_rfl) ?_
  rintro k ⟨hk, hu, hs⟩
  show Tri _ _ _ _ [(1, .pointer (some ⟨b1, 0, none⟩)), (3, .int .i64 ↑(entSum ns k)), (4, .int .i64 ↑k)] [.blk b1 [.slice A (ns.length) (c)] 24, .abs R] _
  have hk4 := (hd k)
  refine Tri.seq (Tri.seq (Tri.region ?_))
  refine TriL.segK (k' := 5) (fr' := [(1, .pointer (some ⟨b1, 0, none⟩)), (3, .int .i64 ↑(entSum ns k)), (4, .int .i64 ↑k), (23, .bool (decide ((((k : Nat) : Int) : Int) < (((ns.length : Nat) : Int) : Int))))]) (obl := [b1 = b1]) [o_, o_, ⟨[.at 0], none, none, none, none⟩, o_, o_] [1, 3, 4, 23] (fun _ _ => by kernel_rfl) ⟨rfl, trivial⟩ ?_
  refine TriL.nil (by kernel_rfl) (TriQ.next ?_)
  refine Tri.condP (p := (((k : Nat) : Int) : Int) < (((ns.length : Nat) : Int) : Int)) (fun _ => by kernel_rfl) (fun h23 => ?_) (fun h23 => ?_)
  ·
   refine Tri.skip (TriQ.next (Tri.seq (Tri.block (Tri.seq (Tri.region ?_)))))
   refine TriL.segN (k' := 7) (fr' := fun b2 => [(1, .pointer (some ⟨b1, 0, none⟩)), (3, .int .i64 ↑(entSum ns k)), (4, .int .i64 ↑k), (5, .pointer (some ⟨b2, 0, none⟩))]) (hps' := fun b2 => [.blk b1 [.slice A (ns.length) (c)] 24, .abs R, .blk b2 [.int .i64 ((nd ns k).id), .int .i64 ((nd ns k).kind), .int .i64 ((nd ns k).mode), .int .i64 ((nd ns k).uid), .int .i64 ((nd ns k).gid), .int .i64 ((nd ns k).sec), .int .i64 ((nd ns k).nano), .slice (L.dA k) ((nd ns k).data.length) ((L.dC k)), .string (nd ns k).target, .slice (L.eA k) ((nd ns k).ents.length) ((L.eC k))] 32]) (obl := fun b2 => [b2 = b2, b2 = b2, b2 = b2, b2 = b2, b2 = b2, b2 = b2, b2 = b2, b2 = b2, b2 = b2, b2 = b2, (Rd β ⟨(blkOf A), offOf A + k * 10 + 9, none⟩ (.slice (L.eA k) ((nd ns k).ents.length) ((L.eC k)))), (Rd β ⟨(blkOf A), offOf A + k * 10 + 8, none⟩ (.string (nd ns k).target)), (Rd β ⟨(blkOf A), offOf A + k * 10 + 7, none⟩ (.slice (L.dA k) ((nd ns k).data.length) ((L.dC k)))), (Rd β ⟨(blkOf A), offOf A + k * 10 + 6, none⟩ (.int .i64 ((nd ns k).nano))), (Rd β ⟨(blkOf A), offOf A + k * 10 + 5, none⟩ (.int .i64 ((nd ns k).sec))), (Rd β ⟨(blkOf A), offOf A + k * 10 + 4, none⟩ (.int .i64 ((nd ns k).gid))), (Rd β ⟨(blkOf A), offOf A + k * 10 + 3, none⟩ (.int .i64 ((nd ns k).uid))), (Rd β ⟨(blkOf A), offOf A + k * 10 + 2, none⟩ (.int .i64 ((nd ns k).mode))), (Rd β ⟨(blkOf A), offOf A + k * 10 + 1, none⟩ (.int .i64 ((nd ns k).kind))), (Rd β ⟨(blkOf A), offOf A + k * 10, none⟩ (.int .i64 ((nd ns k).id))), ((k : Nat) : Int) = ((k : Nat) : Int), k < ns.length, (⟨(blkOf A), offOf A, none⟩ : Addr).spot = none, (A : Option Addr) = some ⟨(blkOf A), offOf A, none⟩, b1 = b1]) [o_, ⟨[.at 0], none, none, none, none⟩, o_, ⟨[], some k, none, some ⟨(blkOf A), offOf A, none⟩, none⟩, ⟨[.old (.int .i64 ((nd ns k).id)), .old (.int .i64 ((nd ns k).kind)), .old (.int .i64 ((nd ns k).mode)), .old (.int .i64 ((nd ns k).uid)), .old (.int .i64 ((nd ns k).gid)), .old (.int .i64 ((nd ns k).sec)), .old (.int .i64 ((nd ns k).nano)), .old (.slice (L.dA k) ((nd ns k).data.length) ((L.dC k))), .old (.string (nd ns k).target), .old (.slice (L.eA k) ((nd ns k).ents.length) ((L.eC k)))], none, none, none, none⟩, o_, ⟨[.at 2, .at 2, .at 2, .at 2, .at 2, .at 2, .at 2, .at 2, .at 2, .at 2], none, none, none, none⟩] [1, 3, 4, 5] [0, 1, 2] (fun _ _ => by kernel_rfl) (fun b2 => ⟨rfl, rfl, rfl, rfl, rfl, rfl, rfl, rfl, rfl, rfl, GraphAt.rd hG (i := k) (by omega) (j := 9) rfl, GraphAt.rd hG (i := k) (by omega) (j := 8) rfl, GraphAt.rd hG (i := k) (by omega) (j := 7) rfl, GraphAt.rd hG (i := k) (by omega) (j := 6) rfl, GraphAt.rd hG (i := k) (by omega) (j := 5) rfl, GraphAt.rd hG (i := k) (by omega) (j := 4) rfl, GraphAt.rd hG (i := k) (by omega) (j := 3) rfl, GraphAt.rd hG (i := k) (by omega) (j := 2) rfl, GraphAt.rd hG (i := k) (by omega) (j := 1) rfl, GraphAt.rd hG (i := k) (by omega) (j := 0) rfl, rfl, by omega, rfl, GraphAt.hd hG (i := k) (by omega), rfl, trivial⟩) (fun b2 => ?_)
   refine TriL.nil (by kernel_rfl) (TriQ.next (Tri.seq (Tri.seq ?_)))
   refine Tri.regionQ (by kernel_rfl) (by kernel_rfl) ?_
   refine TriLQ.seg (k' := 4) (fr' := [(1, .pointer (some ⟨b1, 0, none⟩)), (3, .int .i64 ↑(entSum ns k)), (4, .int .i64 ↑k), (5, .pointer (some ⟨b2, 0, none⟩)), (34, .bool (decide (((nd ns k).id : Int) < (1 : Int))))]) (obl := [b2 = b2]) [o_, ⟨[.at 2], none, none, none, none⟩, o_, o_] [1, 3, 4, 5, 34] (fun _ _ => by kernel_rfl) ⟨rfl, trivial⟩ ?_
   refine TriLQ.slotP 34 (((nd ns k).id : Int) < (1 : Int)) (fun _ => by kernel_rfl) (fun h34 => ?_) (fun h34 => ?_)
   ·
    refine TriLQ.seg (k' := 29) (fr' := [(1, .pointer (some ⟨b1, 0, none⟩)), (3, .int .i64 ↑(entSum ns k)), (4, .int .i64 ↑k), (5, .pointer (some ⟨b2, 0, none⟩)), (59, .bool true)]) (obl := []) [o_, o_, o_, o_, o_, o_, o_, o_, o_, o_, o_, o_, o_, o_, o_, o_, o_, o_, o_, o_, o_, o_, o_, o_, o_] [1, 3, 4, 5, 59] (fun _ _ => by kernel_rfl) trivial ?_
    refine TriLQ.nil (by kernel_rfl) (TriQ.next ?_)
    refine Tri.condT (fun _ => by kernel_rfl) ?_
    refine Tri.seq (Tri.region ?_)
    refine TriL.segK (k' := 1) (fr' := [(2, .int .i64 140)]) (obl := []) [o_] [2] (fun _ _ => by kernel_rfl) trivial ?_
    refine TriL.nil (by kernel_rfl) (TriQ.next (Tri.ret (TriQ.passRet (TriQ.blockRet (TriQ.passRet (TriQ.passRet (TriQ.blockRet (TriQ.passRet ?_))))))))
    exact TriQ.ret (v := .int .i64 140) (l := []) (obl := []) [] [1] (fun _ => by kernel_rfl) trivial rfl (by kernel_rfl) (⟨congrArg (Value.int .i64) (if_neg (c := GraphOk ns) (fun h => by have := (h.ids k (by omega)).1; omega)).symm, rfl⟩)
   ·
    refine TriLQ.seg (k' := 9) (fr' := [(1, .pointer (some ⟨b1, 0, none⟩)), (3, .int .i64 ↑(entSum ns k)), (4, .int .i64 ↑k), (5, .pointer (some ⟨b2, 0, none⟩)), (39, .bool (decide (((nd ns k).id : Int) > (1099511627776 : Int))))]) (obl := [b2 = b2]) [o_, ⟨[.at 2], none, none, none, none⟩, o_, o_, o_] [1, 3, 4, 5, 39] (fun _ _ => by kernel_rfl) ⟨rfl, trivial⟩ ?_
    refine TriLQ.slotP 39 (((nd ns k).id : Int) > (1099511627776 : Int)) (fun _ => by kernel_rfl) (fun h39 => ?_) (fun h39 => ?_)
    ·
     refine TriLQ.seg (k' := 29) (fr' := [(1, .pointer (some ⟨b1, 0, none⟩)), (3, .int .i64 ↑(entSum ns k)), (4, .int .i64 ↑k), (5, .pointer (some ⟨b2, 0, none⟩)), (59, .bool true)]) (obl := []) [o_, o_, o_, o_, o_, o_, o_, o_, o_, o_, o_, o_, o_, o_, o_, o_, o_, o_, o_, o_] [1, 3, 4, 5, 59] (fun _ _ => by kernel_rfl) trivial ?_
     refine TriLQ.nil (by kernel_rfl) (TriQ.next ?_)
     refine Tri.condT (fun _ => by kernel_rfl) ?_
     refine Tri.seq (Tri.region ?_)
     refine TriL.segK (k' := 1) (fr' := [(2, .int .i64 140)]) (obl := []) [o_] [2] (fun _ _ => by kernel_rfl) trivial ?_
     refine TriL.nil (by kernel_rfl) (TriQ.next (Tri.ret (TriQ.passRet (TriQ.blockRet (TriQ.passRet (TriQ.passRet (TriQ.blockRet (TriQ.passRet ?_))))))))
     exact TriQ.ret (v := .int .i64 140) (l := []) (obl := []) [] [1] (fun _ => by kernel_rfl) trivial rfl (by kernel_rfl) (⟨congrArg (Value.int .i64) (if_neg (c := GraphOk ns) (fun h => by have := (h.ids k (by omega)).2; omega)).symm, rfl⟩)
    ·
     refine TriLQ.seg (k' := 12) (fr' := [(1, .pointer (some ⟨b1, 0, none⟩)), (3, .int .i64 ↑(entSum ns k)), (4, .int .i64 ↑k), (5, .pointer (some ⟨b2, 0, none⟩)), (39, .bool false), (42, .bool (decide ((((k : Nat) : Int) : Int) > (0 : Int))))]) (obl := []) [o_, o_, o_] [1, 3, 4, 5, 39, 42] (fun _ _ => by kernel_rfl) trivial ?_
     refine TriLQ.slotP 42 ((((k : Nat) : Int) : Int) > (0 : Int)) (fun _ => by kernel_rfl) (fun h42 => ?_) (fun h42 => ?_)
     ·
      refine TriLQ.seg (k' := 25) (fr' := [(1, .pointer (some ⟨b1, 0, none⟩)), (3, .int .i64 ↑(entSum ns k)), (4, .int .i64 ↑k), (5, .pointer (some ⟨b2, 0, none⟩)), (55, .bool (decide (((nd ns k).id : Int) ≤ ((nd ns (k - 1)).id : Int))))]) (obl := [(Rd β ⟨(blkOf A), offOf A + (k - 1) * 10, none⟩ (.int .i64 ((nd ns (k - 1)).id))), (((k - 1) : Nat) : Int) = (((k - 1) : Nat) : Int), (k - 1) < ns.length, (⟨(blkOf A), offOf A, none⟩ : Addr).spot = none, (A : Option Addr) = some ⟨(blkOf A), offOf A, none⟩, (Value.int .i64 (IntKind.wrap .i64 (((k : Nat) : Int) - 1))) = (.int .i64 ↑(k - 1)), b1 = b1, b2 = b2]) [o_, ⟨[.at 2], none, none, none, none⟩, o_, ⟨[.at 0], none, none, none, none⟩, o_, ⟨[], none, none, none, some (.int .i64 ↑(k - 1))⟩, ⟨[], some (k - 1), none, some ⟨(blkOf A), offOf A, none⟩, none⟩, o_, ⟨[.old (.int .i64 ((nd ns (k - 1)).id))], none, none, none, none⟩, o_, o_, o_, o_] [1, 3, 4, 5, 55] (fun _ _ => by kernel_rfl) ⟨GraphAt.rd hG (i := (k - 1)) (by omega) (j := 0) rfl, rfl, by omega, rfl, GraphAt.hd hG (i := (k - 1)) (by omega), wrapEq (by omega) (by omega) (by omega), rfl, rfl, trivial⟩ ?_
      refine TriLQ.slotP 55 (((nd ns k).id : Int) ≤ ((nd ns (k - 1)).id : Int)) (fun _ => by kernel_rfl) (fun h55 => ?_) (fun h55 => ?_)
      ·
       refine TriLQ.seg (k' := 29) (fr' := [(1, .pointer (some ⟨b1, 0, none⟩)), (3, .int .i64 ↑(entSum ns k)), (4, .int .i64 ↑k), (5, .pointer (some ⟨b2, 0, none⟩)), (59, .bool true)]) (obl := []) [o_, o_, o_, o_] [1, 3, 4, 5, 59] (fun _ _ => by kernel_rfl) trivial ?_
       refine TriLQ.nil (by kernel_rfl) (TriQ.next ?_)
       refine Tri.condT (fun _ => by kernel_rfl) ?_
       refine Tri.seq (Tri.region ?_)
       refine TriL.segK (k' := 1) (fr' := [(2, .int .i64 140)]) (obl := []) [o_] [2] (fun _ _ => by kernel_rfl) trivial ?_
       refine TriL.nil (by kernel_rfl) (TriQ.next (Tri.ret (TriQ.passRet (TriQ.blockRet (TriQ.passRet (TriQ.passRet (TriQ.blockRet (TriQ.passRet ?_))))))))
       exact TriQ.ret (v := .int .i64 140) (l := []) (obl := []) [] [1] (fun _ => by kernel_rfl) trivial rfl (by kernel_rfl) (⟨congrArg (Value.int .i64) (if_neg (c := GraphOk ns) (fun h => by have := h.rise (k - 1) k (by omega) (by omega); omega)).symm, rfl⟩)
      ·
       refine TriLQ.seg (k' := 26) (fr' := [(1, .pointer (some ⟨b1, 0, none⟩)), (3, .int .i64 ↑(entSum ns k)), (4, .int .i64 ↑k), (5, .pointer (some ⟨b2, 0, none⟩)), (55, .bool false), (56, .agg #[.int .i64 ((nd ns k).id), .int .i64 ((nd ns k).kind), .int .i64 ((nd ns k).mode), .int .i64 ((nd ns k).uid), .int .i64 ((nd ns k).gid), .int .i64 ((nd ns k).sec), .int .i64 ((nd ns k).nano), .slice (L.dA k) ((nd ns k).data.length) ((L.dC k)), .string (nd ns k).target, .slice (L.eA k) ((nd ns k).ents.length) ((L.eC k))])]) (obl := [b2 = b2, b2 = b2, b2 = b2, b2 = b2, b2 = b2, b2 = b2, b2 = b2, b2 = b2, b2 = b2, b2 = b2]) [⟨[.at 2, .at 2, .at 2, .at 2, .at 2, .at 2, .at 2, .at 2, .at 2, .at 2], none, none, none, none⟩] [1, 3, 4, 5, 55, 56] (fun _ _ => by kernel_rfl) ⟨rfl, rfl, rfl, rfl, rfl, rfl, rfl, rfl, rfl, rfl, trivial⟩ ?_
       refine TriLQ.call (f := 39) (args := #[.agg #[.int .i64 ((nd ns k).id), .int .i64 ((nd ns k).kind), .int .i64 ((nd ns k).mode), .int .i64 ((nd ns k).uid), .int .i64 ((nd ns k).gid), .int .i64 ((nd ns k).sec), .int .i64 ((nd ns k).nano), .slice (L.dA k) ((nd ns k).data.length) ((L.dC k)), .string (nd ns k).target, .slice (L.eA k) ((nd ns k).ents.length) ((L.eC k))]]) (d := (some 57)) (pre := []) (R := [.blk b1 [.slice A (ns.length) (c)] 24, .abs R, .blk b2 [.int .i64 ((nd ns k).id), .int .i64 ((nd ns k).kind), .int .i64 ((nd ns k).mode), .int .i64 ((nd ns k).uid), .int .i64 ((nd ns k).gid), .int .i64 ((nd ns k).sec), .int .i64 ((nd ns k).nano), .slice (L.dA k) ((nd ns k).data.length) ((L.dC k)), .string (nd ns k).target, .slice (L.eA k) ((nd ns k).ents.length) ((L.eC k))] 32]) (pk := [0, 1, 2]) (pk' := [0, 1, 2]) (v0 := .bool (decide (NodeOk (nd ns k)))) (fun _ => by kernel_rfl) (sp_plain (nd ns k) (L.dA k) (L.eA k) (L.dC k) (L.eC k) (ht k (by omega))) rfl (by kernel_rfl) rfl (by kernel_rfl) (fun _ _ h => h) ?_
       refine TriLQ.seg (k' := 29) (fr' := [(1, .pointer (some ⟨b1, 0, none⟩)), (3, .int .i64 ↑(entSum ns k)), (4, .int .i64 ↑k), (5, .pointer (some ⟨b2, 0, none⟩)), (59, .bool (!(decide (NodeOk (nd ns k)))))]) (obl := []) [o_, o_] [1, 3, 4, 5, 59] (fun _ _ => by kernel_rfl) trivial ?_
       refine TriLQ.nil (by kernel_rfl) (TriQ.next ?_)
       refine Tri.condN (p := NodeOk (nd ns k)) (fun _ => by kernel_rfl) (fun h59 => ?_) (fun h59 => ?_)
       ·
        refine Tri.seq (Tri.region ?_)
        refine TriL.segK (k' := 1) (fr' := [(2, .int .i64 140)]) (obl := []) [o_] [2] (fun _ _ => by kernel_rfl) trivial ?_
        refine TriL.nil (by kernel_rfl) (TriQ.next (Tri.ret (TriQ.passRet (TriQ.blockRet (TriQ.passRet (TriQ.passRet (TriQ.blockRet (TriQ.passRet ?_))))))))
        exact TriQ.ret (v := .int .i64 140) (l := []) (obl := []) [] [1] (fun _ => by kernel_rfl) trivial rfl (by kernel_rfl) (⟨congrArg (Value.int .i64) (if_neg (c := GraphOk ns) (fun h => by exact h59 (h.node k (by omega)))).symm, rfl⟩)
       ·
        refine Tri.skip (TriQ.next (Tri.region ?_))
        refine TriL.segK (k' := 6) (fr' := [(1, .pointer (some ⟨b1, 0, none⟩)), (3, .int .i64 ↑((entSum ns k) + ((nd ns k).ents.length))), (4, .int .i64 ↑k)]) (obl := [(Value.int .i64 (IntKind.wrap .i64 (((entSum ns k : Nat) : Int) + (((nd ns k).ents.length : Nat) : Int)))) = (.int .i64 ↑((entSum ns k) + ((nd ns k).ents.length))), b2 = b2]) [o_, o_, ⟨[.at 2], none, none, none, none⟩, o_, ⟨[], none, none, none, some (.int .i64 ↑((entSum ns k) + ((nd ns k).ents.length)))⟩, o_] [1, 3, 4] (fun _ _ => by kernel_rfl) ⟨wrapEq (by omega) (by omega) (by omega), rfl, trivial⟩ ?_
        refine TriL.nil (by kernel_rfl) (TriQ.blockNormal (TriQ.next (Tri.region ?_)))
        refine TriL.segK (k' := 3) (fr' := [(1, .pointer (some ⟨b1, 0, none⟩)), (3, .int .i64 ↑((entSum ns k) + ((nd ns k).ents.length))), (4, .int .i64 ↑(k + 1))]) (obl := [(Value.int .i64 (IntKind.wrap .i64 (((k : Nat) : Int) + 1))) = (.int .i64 ↑(k + 1))]) [o_, ⟨[], none, none, none, some (.int .i64 ↑(k + 1))⟩, o_] [1, 3, 4] (fun _ _ => by kernel_rfl) ⟨wrapEq (by omega) (by omega) (by omega), trivial⟩ ?_
        refine TriL.nil (by kernel_rfl) ?_
        exact TriQ.turn ((k + 1)) (idx := [1, 3, 4]) (pk := [0, 1]) (show (((k + 1)) ≤ ns.length) ∧ (Upto ns ((k + 1))) ∧ (entSum ns ((k + 1)) ≤ ((k + 1)) * 1048576) from ⟨by omega, hu.step (by rw [lastId_pos (by omega)]; omega) (by omega) h59, by show entSum ns k + _ ≤ _; omega⟩) (by show ns.length - ((k + 1)) < ns.length - k; omega) (fun _ => by kernel_rfl) rfl (by kernel_rfl)
     ·
      refine TriLQ.seg (k' := 26) (fr' := [(1, .pointer (some ⟨b1, 0, none⟩)), (3, .int .i64 ↑(entSum ns k)), (4, .int .i64 ↑k), (5, .pointer (some ⟨b2, 0, none⟩)), (55, .bool false), (56, .agg #[.int .i64 ((nd ns k).id), .int .i64 ((nd ns k).kind), .int .i64 ((nd ns k).mode), .int .i64 ((nd ns k).uid), .int .i64 ((nd ns k).gid), .int .i64 ((nd ns k).sec), .int .i64 ((nd ns k).nano), .slice (L.dA k) ((nd ns k).data.length) ((L.dC k)), .string (nd ns k).target, .slice (L.eA k) ((nd ns k).ents.length) ((L.eC k))])]) (obl := [b2 = b2, b2 = b2, b2 = b2, b2 = b2, b2 = b2, b2 = b2, b2 = b2, b2 = b2, b2 = b2, b2 = b2]) [o_, o_, o_, o_, o_, o_, o_, o_, o_, o_, o_, o_, o_, ⟨[.at 2, .at 2, .at 2, .at 2, .at 2, .at 2, .at 2, .at 2, .at 2, .at 2], none, none, none, none⟩] [1, 3, 4, 5, 55, 56] (fun _ _ => by kernel_rfl) ⟨rfl, rfl, rfl, rfl, rfl, rfl, rfl, rfl, rfl, rfl, trivial⟩ ?_
      refine TriLQ.call (f := 39) (args := #[.agg #[.int .i64 ((nd ns k).id), .int .i64 ((nd ns k).kind), .int .i64 ((nd ns k).mode), .int .i64 ((nd ns k).uid), .int .i64 ((nd ns k).gid), .int .i64 ((nd ns k).sec), .int .i64 ((nd ns k).nano), .slice (L.dA k) ((nd ns k).data.length) ((L.dC k)), .string (nd ns k).target, .slice (L.eA k) ((nd ns k).ents.length) ((L.eC k))]]) (d := (some 57)) (pre := []) (R := [.blk b1 [.slice A (ns.length) (c)] 24, .abs R, .blk b2 [.int .i64 ((nd ns k).id), .int .i64 ((nd ns k).kind), .int .i64 ((nd ns k).mode), .int .i64 ((nd ns k).uid), .int .i64 ((nd ns k).gid), .int .i64 ((nd ns k).sec), .int .i64 ((nd ns k).nano), .slice (L.dA k) ((nd ns k).data.length) ((L.dC k)), .string (nd ns k).target, .slice (L.eA k) ((nd ns k).ents.length) ((L.eC k))] 32]) (pk := [0, 1, 2]) (pk' := [0, 1, 2]) (v0 := .bool (decide (NodeOk (nd ns k)))) (fun _ => by kernel_rfl) (sp_plain (nd ns k) (L.dA k) (L.eA k) (L.dC k) (L.eC k) (ht k (by omega))) rfl (by kernel_rfl) rfl (by kernel_rfl) (fun _ _ h => h) ?_
      refine TriLQ.seg (k' := 29) (fr' := [(1, .pointer (some ⟨b1, 0, none⟩)), (3, .int .i64 ↑(entSum ns k)), (4, .int .i64 ↑k), (5, .pointer (some ⟨b2, 0, none⟩)), (59, .bool (!(decide (NodeOk (nd ns k)))))]) (obl := []) [o_, o_] [1, 3, 4, 5, 59] (fun _ _ => by kernel_rfl) trivial ?_
      refine TriLQ.nil (by kernel_rfl) (TriQ.next ?_)
      refine Tri.condN (p := NodeOk (nd ns k)) (fun _ => by kernel_rfl) (fun h59 => ?_) (fun h59 => ?_)
      ·
       refine Tri.seq (Tri.region ?_)
       refine TriL.segK (k' := 1) (fr' := [(2, .int .i64 140)]) (obl := []) [o_] [2] (fun _ _ => by kernel_rfl) trivial ?_
       refine TriL.nil (by kernel_rfl) (TriQ.next (Tri.ret (TriQ.passRet (TriQ.blockRet (TriQ.passRet (TriQ.passRet (TriQ.blockRet (TriQ.passRet ?_))))))))
       exact TriQ.ret (v := .int .i64 140) (l := []) (obl := []) [] [1] (fun _ => by kernel_rfl) trivial rfl (by kernel_rfl) (⟨congrArg (Value.int .i64) (if_neg (c := GraphOk ns) (fun h => by exact h59 (h.node k (by omega)))).symm, rfl⟩)
      ·
       refine Tri.skip (TriQ.next (Tri.region ?_))
       refine TriL.segK (k' := 6) (fr' := [(1, .pointer (some ⟨b1, 0, none⟩)), (3, .int .i64 ↑((entSum ns k) + ((nd ns k).ents.length))), (4, .int .i64 ↑k)]) (obl := [(Value.int .i64 (IntKind.wrap .i64 (((entSum ns k : Nat) : Int) + (((nd ns k).ents.length : Nat) : Int)))) = (.int .i64 ↑((entSum ns k) + ((nd ns k).ents.length))), b2 = b2]) [o_, o_, ⟨[.at 2], none, none, none, none⟩, o_, ⟨[], none, none, none, some (.int .i64 ↑((entSum ns k) + ((nd ns k).ents.length)))⟩, o_] [1, 3, 4] (fun _ _ => by kernel_rfl) ⟨wrapEq (by omega) (by omega) (by omega), rfl, trivial⟩ ?_
       refine TriL.nil (by kernel_rfl) (TriQ.blockNormal (TriQ.next (Tri.region ?_)))
       refine TriL.segK (k' := 3) (fr' := [(1, .pointer (some ⟨b1, 0, none⟩)), (3, .int .i64 ↑((entSum ns k) + ((nd ns k).ents.length))), (4, .int .i64 ↑(k + 1))]) (obl := [(Value.int .i64 (IntKind.wrap .i64 (((k : Nat) : Int) + 1))) = (.int .i64 ↑(k + 1))]) [o_, ⟨[], none, none, none, some (.int .i64 ↑(k + 1))⟩, o_] [1, 3, 4] (fun _ _ => by kernel_rfl) ⟨wrapEq (by omega) (by omega) (by omega), trivial⟩ ?_
       refine TriL.nil (by kernel_rfl) ?_
       exact TriQ.turn ((k + 1)) (idx := [1, 3, 4]) (pk := [0, 1]) (show (((k + 1)) ≤ ns.length) ∧ (Upto ns ((k + 1))) ∧ (entSum ns ((k + 1)) ≤ ((k + 1)) * 1048576) from ⟨by omega, hu.step (by rw [show k = 0 by omega]; rw [show k = 0 by omega] at h34; show (0 : Int) < _; omega) (by omega) h59, by show entSum ns k + _ ≤ _; omega⟩) (by show ns.length - ((k + 1)) < ns.length - k; omega) (fun _ => by kernel_rfl) rfl (by kernel_rfl)
  ·
   refine Tri.exit (TriQ.passExit (TriQ.passExit (TriQ.blockHit (TriQ.next (Tri.seq (Tri.seq (Tri.region ?_)))))))
   refine TriL.segK (k' := 2) (fr' := [(1, .pointer (some ⟨b1, 0, none⟩)), (66, .bool (decide ((((entSum ns k : Nat) : Int) : Int) > (8192 : Int))))]) (obl := []) [o_, o_] [1, 66] (fun _ _ => by kernel_rfl) trivial ?_
   refine TriL.nil (by kernel_rfl) (TriQ.next ?_)
   refine Tri.condP (p := (((entSum ns k : Nat) : Int) : Int) > (8192 : Int)) (fun _ => by kernel_rfl) (fun h66 => ?_) (fun h66 => ?_)
   ·
    refine Tri.seq (Tri.region ?_)
    refine TriL.segK (k' := 1) (fr' := [(2, .int .i64 140)]) (obl := []) [o_] [2] (fun _ _ => by kernel_rfl) trivial ?_
    refine TriL.nil (by kernel_rfl) (TriQ.next (Tri.ret (TriQ.passRet ?_)))
    exact TriQ.ret (v := .int .i64 140) (l := []) (obl := []) [] [1] (fun _ => by kernel_rfl) trivial rfl (by kernel_rfl) (⟨congrArg (Value.int .i64) (if_neg (c := GraphOk ns) (fun h => by have h1 := h.sum; rw [show ns.length = k by omega] at h1; omega)).symm, rfl⟩)
   ·
    refine Tri.skip (TriQ.next (Tri.seq (Tri.region ?_)))
    refine TriL.segK (k' := 3) (fr' := [(1, .pointer (some ⟨b1, 0, none⟩)), (69, .int .i64 ↑ns.length)]) (obl := [b1 = b1]) [o_, ⟨[.at 0], none, none, none, none⟩, o_] [1, 69] (fun _ _ => by kernel_rfl) ⟨rfl, trivial⟩ ?_
    refine TriL.makeFull (d := (some 70)) (t := 60) (e := 3) (z := .int .i64 0) (bytes := 8) (n := ns.length) (l := (.tmp 69)) (c := (.tmp 69)) (fun _ => by kernel_rfl) (fun _ => by kernel_rfl) (fun _ => by kernel_rfl) Try.underlying60 (by kernel_rfl) rfl (by omega) (by omega) (fun b3 => ?_)
    refine TriL.segK (k' := 5) (fr' := [(1, .pointer (some ⟨b1, 0, none⟩)), (6, .slice (some ⟨b3, 0, none⟩) (ns.length) (ns.length))]) (obl := []) [o_] [1, 6] (fun _ _ => by kernel_rfl) trivial ?_
    refine TriL.nil (by kernel_rfl) (TriQ.next (Tri.seq (Tri.seq (Tri.region ?_))))
    refine TriL.partEq 2 (p := .abs (RowA 3 1 (some ⟨b3, 0, none⟩) ns.length ns.length (List.replicate ns.length (.int .i64 0)))) (p' := .abs (RowA 3 1 (some ⟨b3, 0, none⟩) ns.length ns.length (intsV (List.replicate ns.length 0)))) (by kernel_rfl) (by rw [intsV, List.map_replicate]) ?_
    refine TriL.segK (k' := 1) (fr' := [(1, .pointer (some ⟨b1, 0, none⟩)), (6, .slice (some ⟨b3, 0, none⟩) (ns.length) (ns.length)), (7, .int .i64 0)]) (obl := []) [o_] [1, 6, 7] (fun _ _ => by kernel_rfl) trivial ?_
    refine TriL.nil (by kernel_rfl) (TriQ.next (Tri.block ?_))
    refine Tri.loop (ι := Nat × (List Int)) (fun ((t, pl) : Nat × (List Int)) => (t ≤ ns.length) ∧ (pl.length = ns.length) ∧ (∀ a, a < t → pl.getD a 0 = -1)) (fun ((t, pl) : Nat × (List Int)) => ns.length - t) (fun ((t, pl) : Nat × (List Int)) => [(1, .pointer (some ⟨b1, 0, none⟩)), (6, .slice (some ⟨b3, 0, none⟩) (ns.length) (ns.length)), (7, .int .i64 ↑t)]) (fun ((t, pl) : Nat × (List Int)) => [.blk b1 [.slice A (ns.length) (c)] 24, .abs (RowA 3 1 (some ⟨b3, 0, none⟩) ns.length ns.length (intsV pl)), .abs R]) (0, (List.replicate ns.length 0)) (idx := [1, 6, 7]) (pk := [0, 2, 1]) (show (0 ≤ ns.length) ∧ (((List.replicate ns.length 0)).length = ns.length) ∧ (∀ a, a < 0 → ((List.replicate ns.length 0)).getD a 0 = -1) from ⟨Nat.zero_le _, by simp, fun a ha => absurd ha (Nat.not_lt_zero a)⟩) (fun _ => by kernel_rfl) rfl (by kernel_rfl) ?_
    rintro ⟨t, pl⟩ ⟨ht2, hpl, hpa⟩
    show Tri _ _ _ _ [(1, .pointer (some ⟨b1, 0, none⟩)), (6, .slice (some ⟨b3, 0, none⟩) (ns.length) (ns.length)), (7, .int .i64 ↑t)] [.blk b1 [.slice A (ns.length) (c)] 24, .abs (RowA 3 1 (some ⟨b3, 0, none⟩) ns.length ns.length (intsV pl)), .abs R] _
    refine Tri.seq (Tri.seq (Tri.region ?_))
    refine TriL.segK (k' := 4) (fr' := [(1, .pointer (some ⟨b1, 0, none⟩)), (6, .slice (some ⟨b3, 0, none⟩) (ns.length) (ns.length)), (7, .int .i64 ↑t), (74, .bool (decide ((((t : Nat) : Int) : Int) < (((ns.length : Nat) : Int) : Int))))]) (obl := []) [o_, o_, o_, o_] [1, 6, 7, 74] (fun _ _ => by kernel_rfl) trivial ?_
    refine TriL.nil (by kernel_rfl) (TriQ.next ?_)
    refine Tri.condP (p := (((t : Nat) : Int) : Int) < (((ns.length : Nat) : Int) : Int)) (fun _ => by kernel_rfl) (fun h74 => ?_) (fun h74 => ?_)
    ·
     refine Tri.skip (TriQ.next (Tri.seq (Tri.block (Tri.region ?_))))
     refine TriL.segK (k' := 3) (fr' := [(1, .pointer (some ⟨b1, 0, none⟩)), (6, .slice (some ⟨b3, 0, none⟩) (ns.length) (ns.length)), (7, .int .i64 ↑t), (79, .pointer (some ⟨b3, t, none⟩))]) (obl := [(Value.pointer (some ⟨b3, 0 + t * 1, none⟩)) = (.pointer (some ⟨b3, t, none⟩)), ((t : Nat) : Int) = ((t : Nat) : Int), t < ns.length, (⟨b3, 0, none⟩ : Addr).spot = none]) [o_, o_, ⟨[], some t, none, none, some (.pointer (some ⟨b3, t, none⟩))⟩] [1, 6, 7, 79] (fun _ _ => by kernel_rfl) ⟨by simp, rfl, by omega, rfl, trivial⟩ ?_
     refine TriL.rowSet 1 (t) (d := none) (T := 3) (e := 3) (size := 1) (n := ns.length) (cap := ns.length) (g := b3) (xs := (intsV pl)) (u := .int .i64 (-1)) (a := (.tmp 79)) (y := (.const (.int .i64 (-1)))) (fun _ => by kernel_rfl) (by kernel_rfl) (fun _ => by kernel_rfl) (fun _ => by kernel_rfl) (by kernel_rfl) rfl (by rw [intsV, List.length_map]; omega) ?_
     refine TriL.partEq 1 (p := .abs (RowA 3 1 (some ⟨b3, 0, none⟩) ns.length ns.length ((intsV pl).set (t) (.int .i64 (-1))))) (p' := .abs (RowA 3 1 (some ⟨b3, 0, none⟩) ns.length ns.length (intsV (pl.set t (-1))))) (by kernel_rfl) (by rw [intsV_set]) ?_
     refine TriL.nil (by kernel_rfl) (TriQ.blockNormal (TriQ.next (Tri.region ?_)))
     refine TriL.segK (k' := 3) (fr' := [(1, .pointer (some ⟨b1, 0, none⟩)), (6, .slice (some ⟨b3, 0, none⟩) (ns.length) (ns.length)), (7, .int .i64 ↑(t + 1))]) (obl := [(Value.int .i64 (IntKind.wrap .i64 (((t : Nat) : Int) + 1))) = (.int .i64 ↑(t + 1))]) [o_, ⟨[], none, none, none, some (.int .i64 ↑(t + 1))⟩, o_] [1, 6, 7] (fun _ _ => by kernel_rfl) ⟨wrapEq (by omega) (by omega) (by omega), trivial⟩ ?_
     refine TriL.nil (by kernel_rfl) ?_
     exact TriQ.turn ((t + 1), (pl.set t (-1))) (idx := [1, 6, 7]) (pk := [0, 1, 2]) (show (((t + 1)) ≤ ns.length) ∧ (((pl.set t (-1))).length = ns.length) ∧ (∀ a, a < ((t + 1)) → ((pl.set t (-1))).getD a 0 = -1) from ⟨by omega, by rw [List.length_set]; exact hpl, fun a ha => (by rw [getD_set (by omega)]; by_cases e : a = t; simp [e]; rw [if_neg e]; exact hpa a (by omega))⟩) (by show ns.length - ((t + 1)) < ns.length - t; omega) (fun _ => by kernel_rfl) rfl (by kernel_rfl)
    ·
     refine Tri.exit (TriQ.passExit (TriQ.passExit (TriQ.blockHit (TriQ.next (Tri.seq (Tri.seq (Tri.region ?_)))))))
     refine TriL.segK (k' := 1) (fr' := [(1, .pointer (some ⟨b1, 0, none⟩)), (6, .slice (some ⟨b3, 0, none⟩) (ns.length) (ns.length)), (8, .int .i64 0)]) (obl := []) [o_] [1, 6, 8] (fun _ _ => by kernel_rfl) trivial ?_
     refine TriL.nil (by kernel_rfl) (TriQ.next (Tri.block ?_))
     have hrise : Rising ns := fun a b hab hb => hu.rise a b hab (by omega)
     have hsum : entSum ns ns.length ≤ 8192 := by rw [show ns.length = k by omega]; omega
     refine Tri.loop (ι := Nat × (List Int)) (fun ((i, pl1) : Nat × (List Int)) => (i ≤ ns.length) ∧ (∀ a, a < i → ∀ j, j < (nd ns a).ents.length → EntOk ns a j) ∧ (((allE ns i).map Prod.fst).Nodup) ∧ (Par ns.length pl1 (allE ns i))) (fun ((i, pl1) : Nat × (List Int)) => ns.length - i) (fun ((i, pl1) : Nat × (List Int)) => [(1, .pointer (some ⟨b1, 0, none⟩)), (6, .slice (some ⟨b3, 0, none⟩) (ns.length) (ns.length)), (8, .int .i64 ↑i)]) (fun ((i, pl1) : Nat × (List Int)) => [.blk b1 [.slice A (ns.length) (c)] 24, .abs (RowA 3 1 (some ⟨b3, 0, none⟩) ns.length ns.length (intsV pl1)), .abs R]) (0, pl) (idx := [1, 6, 8]) (pk := [0, 1, 2]) (show (0 ≤ ns.length) ∧ (∀ a, a < 0 → ∀ j, j < (nd ns a).ents.length → EntOk ns a j) ∧ (((allE ns 0).map Prod.fst).Nodup) ∧ (Par ns.length pl (allE ns 0)) from ⟨Nat.zero_le _, fun a ha => absurd ha (Nat.not_lt_zero a), List.nodup_nil, ⟨hpl, fun a ha => hpa a (by omega)⟩⟩) (fun _ => by kernel_rfl) rfl (by kernel_rfl) ?_
     rintro ⟨i, pl1⟩ ⟨hi, hents, hnd, hpar⟩
     show Tri _ _ _ _ [(1, .pointer (some ⟨b1, 0, none⟩)), (6, .slice (some ⟨b3, 0, none⟩) (ns.length) (ns.length)), (8, .int .i64 ↑i)] [.blk b1 [.slice A (ns.length) (c)] 24, .abs (RowA 3 1 (some ⟨b3, 0, none⟩) ns.length ns.length (intsV pl1)), .abs R] _
     refine Tri.seq (Tri.seq (Tri.region ?_))
     refine TriL.segK (k' := 5) (fr' := [(1, .pointer (some ⟨b1, 0, none⟩)), (6, .slice (some ⟨b3, 0, none⟩) (ns.length) (ns.length)), (8, .int .i64 ↑i), (84, .bool (decide ((((i : Nat) : Int) : Int) < (((ns.length : Nat) : Int) : Int))))]) (obl := [b1 = b1]) [o_, o_, ⟨[.at 0], none, none, none, none⟩, o_, o_] [1, 6, 8, 84] (fun _ _ => by kernel_rfl) ⟨rfl, trivial⟩ ?_
     refine TriL.nil (by kernel_rfl) (TriQ.next ?_)
     refine Tri.condP (p := (((i : Nat) : Int) : Int) < (((ns.length : Nat) : Int) : Int)) (fun _ => by kernel_rfl) (fun h84 => ?_) (fun h84 => ?_)
     ·
      refine Tri.skip (TriQ.next (Tri.seq (Tri.block (Tri.seq (Tri.region ?_)))))
      refine TriL.segK (k' := 1) (fr' := [(1, .pointer (some ⟨b1, 0, none⟩)), (6, .slice (some ⟨b3, 0, none⟩) (ns.length) (ns.length)), (8, .int .i64 ↑i), (9, .int .i64 0)]) (obl := []) [o_] [1, 6, 8, 9] (fun _ _ => by kernel_rfl) trivial ?_
      refine TriL.nil (by kernel_rfl) (TriQ.next (Tri.block ?_))
      refine Tri.loop (ι := Nat × (List Int)) (fun ((j, pl2) : Nat × (List Int)) => (j ≤ (nd ns i).ents.length) ∧ (∀ t, t < j → EntOk ns i t) ∧ (((rowE ns i j ++ allE ns i).map Prod.fst).Nodup) ∧ (Par ns.length pl2 (rowE ns i j ++ allE ns i))) (fun ((j, pl2) : Nat × (List Int)) => (nd ns i).ents.length - j) (fun ((j, pl2) : Nat × (List Int)) => [(1, .pointer (some ⟨b1, 0, none⟩)), (6, .slice (some ⟨b3, 0, none⟩) (ns.length) (ns.length)), (8, .int .i64 ↑i), (9, .int .i64 ↑j)]) (fun ((j, pl2) : Nat × (List Int)) => [.blk b1 [.slice A (ns.length) (c)] 24, .abs (RowA 3 1 (some ⟨b3, 0, none⟩) ns.length ns.length (intsV pl2)), .abs R]) (0, pl1) (idx := [1, 6, 8, 9]) (pk := [0, 1, 2]) (show (0 ≤ (nd ns i).ents.length) ∧ (∀ t, t < 0 → EntOk ns i t) ∧ (((rowE ns i 0 ++ allE ns i).map Prod.fst).Nodup) ∧ (Par ns.length pl1 (rowE ns i 0 ++ allE ns i)) from ⟨Nat.zero_le _, fun t ht => absurd ht (Nat.not_lt_zero t), hnd, hpar⟩) (fun _ => by kernel_rfl) rfl (by kernel_rfl) ?_
      rintro ⟨j, pl2⟩ ⟨hj, hok, hnd2, hpar2⟩
      show Tri _ _ _ _ [(1, .pointer (some ⟨b1, 0, none⟩)), (6, .slice (some ⟨b3, 0, none⟩) (ns.length) (ns.length)), (8, .int .i64 ↑i), (9, .int .i64 ↑j)] [.blk b1 [.slice A (ns.length) (c)] 24, .abs (RowA 3 1 (some ⟨b3, 0, none⟩) ns.length ns.length (intsV pl2)), .abs R] _
      have hd3 := (hd i (by omega)).2
      have hln := hpar2.len
      refine Tri.seq (Tri.seq (Tri.region ?_))
      refine TriL.segK (k' := 9) (fr' := [(1, .pointer (some ⟨b1, 0, none⟩)), (6, .slice (some ⟨b3, 0, none⟩) (ns.length) (ns.length)), (8, .int .i64 ↑i), (9, .int .i64 ↑j), (95, .bool (decide ((((j : Nat) : Int) : Int) < ((((nd ns i).ents.length : Nat) : Int) : Int))))]) (obl := [(Rd β ⟨(blkOf A), offOf A + i * 10 + 9, none⟩ (.slice (L.eA i) ((nd ns i).ents.length) ((L.eC i)))), ((i : Nat) : Int) = ((i : Nat) : Int), i < ns.length, (⟨(blkOf A), offOf A, none⟩ : Addr).spot = none, (A : Option Addr) = some ⟨(blkOf A), offOf A, none⟩, b1 = b1]) [o_, o_, ⟨[.at 0], none, none, none, none⟩, o_, ⟨[], some i, none, some ⟨(blkOf A), offOf A, none⟩, none⟩, o_, ⟨[.old (.slice (L.eA i) ((nd ns i).ents.length) ((L.eC i)))], none, none, none, none⟩, o_, o_] [1, 6, 8, 9, 95] (fun _ _ => by kernel_rfl) ⟨GraphAt.rd hG (i := i) (by omega) (j := 9) rfl, rfl, by omega, rfl, GraphAt.hd hG (i := i) (by omega), rfl, trivial⟩ ?_
      refine TriL.nil (by kernel_rfl) (TriQ.next ?_)
      refine Tri.condP (p := (((j : Nat) : Int) : Int) < ((((nd ns i).ents.length : Nat) : Int) : Int)) (fun _ => by kernel_rfl) (fun h95 => ?_) (fun h95 => ?_)
      ·
       refine Tri.skip (TriQ.next (Tri.seq (Tri.block (Tri.seq (Tri.region ?_)))))
       refine TriL.segN (k' := 11) (fr' := fun b4 => [(1, .pointer (some ⟨b1, 0, none⟩)), (6, .slice (some ⟨b3, 0, none⟩) (ns.length) (ns.length)), (8, .int .i64 ↑i), (9, .int .i64 ↑j), (10, .pointer (some ⟨b4, 0, none⟩))]) (hps' := fun b4 => [.blk b1 [.slice A (ns.length) (c)] 24, .abs (RowA 3 1 (some ⟨b3, 0, none⟩) ns.length ns.length (intsV pl2)), .abs R, .blk b4 [.string (en (nd ns i).ents j).name, .int .i64 ((en (nd ns i).ents j).id)] 72]) (obl := fun b4 => [b4 = b4, b4 = b4, (Rd β ⟨(blkOf (L.eA i)), offOf (L.eA i) + j * 2 + 1, none⟩ (.int .i64 ((en (nd ns i).ents j).id))), (Rd β ⟨(blkOf (L.eA i)), offOf (L.eA i) + j * 2, none⟩ (.string (en (nd ns i).ents j).name)), ((j : Nat) : Int) = ((j : Nat) : Int), j < (nd ns i).ents.length, (⟨(blkOf (L.eA i)), offOf (L.eA i), none⟩ : Addr).spot = none, ((L.eA i) : Option Addr) = some ⟨(blkOf (L.eA i)), offOf (L.eA i), none⟩, (Rd β ⟨(blkOf A), offOf A + i * 10 + 9, none⟩ (.slice (L.eA i) ((nd ns i).ents.length) ((L.eC i)))), ((i : Nat) : Int) = ((i : Nat) : Int), i < ns.length, (⟨(blkOf A), offOf A, none⟩ : Addr).spot = none, (A : Option Addr) = some ⟨(blkOf A), offOf A, none⟩, b1 = b1]) [o_, ⟨[.at 0], none, none, none, none⟩, o_, ⟨[], some i, none, some ⟨(blkOf A), offOf A, none⟩, none⟩, o_, ⟨[.old (.slice (L.eA i) ((nd ns i).ents.length) ((L.eC i)))], none, none, none, none⟩, o_, ⟨[], some j, none, some ⟨(blkOf (L.eA i)), offOf (L.eA i), none⟩, none⟩, ⟨[.old (.string (en (nd ns i).ents j).name), .old (.int .i64 ((en (nd ns i).ents j).id))], none, none, none, none⟩, o_, ⟨[.at 3, .at 3], none, none, none, none⟩] [1, 6, 8, 9, 10] [0, 1, 2, 3] (fun _ _ => by kernel_rfl) (fun b4 => ⟨rfl, rfl, EntsAt.rd (hG.ents i (by omega)) (i := j) (by omega) (j := 1) rfl, EntsAt.rd (hG.ents i (by omega)) (i := j) (by omega) (j := 0) rfl, rfl, by omega, rfl, EntsAt.hd (hG.ents i (by omega)) (i := j) (by omega), GraphAt.rd hG (i := i) (by omega) (j := 9) rfl, rfl, by omega, rfl, GraphAt.hd hG (i := i) (by omega), rfl, trivial⟩) (fun b4 => ?_)
       refine TriL.nil (by kernel_rfl) (TriQ.next (Tri.seq (Tri.region ?_)))
       refine TriL.segK (k' := 3) (fr' := [(1, .pointer (some ⟨b1, 0, none⟩)), (6, .slice (some ⟨b3, 0, none⟩) (ns.length) (ns.length)), (8, .int .i64 ↑i), (9, .int .i64 ↑j), (10, .pointer (some ⟨b4, 0, none⟩)), (107, .agg #[.slice A (ns.length) (c)]), (109, .int .i64 ((en (nd ns i).ents j).id))]) (obl := [b4 = b4, b1 = b1]) [⟨[.at 0], none, none, none, none⟩, o_, ⟨[.at 3], none, none, none, none⟩] [1, 6, 8, 9, 10, 107, 109] (fun _ _ => by kernel_rfl) ⟨rfl, rfl, trivial⟩ ?_
       refine TriL.call (f := 29) (args := #[.agg #[.slice A (ns.length) (c)], .int .i64 ((en (nd ns i).ents j).id)]) (d := (some 110)) (pre := []) (R := [.blk b1 [.slice A (ns.length) (c)] 24, .abs (RowA 3 1 (some ⟨b3, 0, none⟩) ns.length ns.length (intsV pl2)), .abs R, .blk b4 [.string (en (nd ns i).ents j).name, .int .i64 ((en (nd ns i).ents j).id)] 72]) (pk := [0, 1, 2, 3]) (fun _ => by kernel_rfl) (sp_at A c ns L hG hrise hl (en (nd ns i).ents j).id) rfl (by kernel_rfl) ?_
       rintro _ _ ⟨rfl, rfl⟩
       refine TriL.segK (k' := 5) (fr' := [(1, .pointer (some ⟨b1, 0, none⟩)), (6, .slice (some ⟨b3, 0, none⟩) (ns.length) (ns.length)), (8, .int .i64 ↑i), (9, .int .i64 ↑j), (10, .pointer (some ⟨b4, 0, none⟩)), (11, .int .i64 (atI ns (en (nd ns i).ents j).id))]) (obl := []) [o_] [1, 6, 8, 9, 10, 11] (fun _ _ => by kernel_rfl) trivial ?_
       refine TriL.nil (by kernel_rfl) (TriQ.next (Tri.seq (Tri.seq ?_)))
       refine Tri.regionQ (by kernel_rfl) (by kernel_rfl) ?_
       refine TriLQ.seg (k' := 3) (fr' := [(1, .pointer (some ⟨b1, 0, none⟩)), (6, .slice (some ⟨b3, 0, none⟩) (ns.length) (ns.length)), (8, .int .i64 ↑i), (9, .int .i64 ↑j), (10, .pointer (some ⟨b4, 0, none⟩)), (11, .int .i64 (atI ns (en (nd ns i).ents j).id)), (113, .bool (decide ((atI ns (en (nd ns i).ents j).id : Int) < (0 : Int))))]) (obl := []) [o_, o_, o_] [1, 6, 8, 9, 10, 11, 113] (fun _ _ => by kernel_rfl) trivial ?_
       refine TriLQ.slotP 113 ((atI ns (en (nd ns i).ents j).id : Int) < (0 : Int)) (fun _ => by kernel_rfl) (fun h113 => ?_) (fun h113 => ?_)
       ·
        refine TriLQ.seg (k' := 28) (fr' := [(1, .pointer (some ⟨b1, 0, none⟩)), (6, .slice (some ⟨b3, 0, none⟩) (ns.length) (ns.length)), (8, .int .i64 ↑i), (9, .int .i64 ↑j), (11, .int .i64 (atI ns (en (nd ns i).ents j).id)), (138, .bool true)]) (obl := []) [o_, o_, o_, o_, o_, o_, o_, o_, o_, o_, o_, o_, o_, o_, o_, o_, o_, o_, o_, o_, o_, o_, o_, o_, o_] [1, 6, 8, 9, 11, 138] (fun _ _ => by kernel_rfl) trivial ?_
        refine TriLQ.nil (by kernel_rfl) (TriQ.next ?_)
        refine Tri.condT (fun _ => by kernel_rfl) ?_
        refine Tri.seq (Tri.region ?_)
        refine TriL.segK (k' := 1) (fr' := [(2, .int .i64 140)]) (obl := []) [o_] [2] (fun _ _ => by kernel_rfl) trivial ?_
        refine TriL.nil (by kernel_rfl) (TriQ.next (Tri.ret (TriQ.passRet (TriQ.blockRet (TriQ.passRet (TriQ.passRet (TriQ.blockRet (TriQ.blockRet (TriQ.passRet (TriQ.passRet (TriQ.blockRet (TriQ.passRet ?_))))))))))))
        exact TriQ.ret (v := .int .i64 140) (l := []) (obl := []) [] [2] (fun _ => by kernel_rfl) trivial rfl (by kernel_rfl) (⟨congrArg (Value.int .i64) (if_neg (c := GraphOk ns) (fun h => by have h1 := (h.ents i (by omega) j (by omega)).at_; change 0 ≤ atI ns (en (nd ns i).ents j).id at h1; omega)).symm, rfl⟩)
       ·
        have htl := atI_lt (Int.not_lt.1 h113)
        refine TriLQ.seg (k' := 5) (fr' := [(1, .pointer (some ⟨b1, 0, none⟩)), (6, .slice (some ⟨b3, 0, none⟩) (ns.length) (ns.length)), (8, .int .i64 ↑i), (9, .int .i64 ↑j), (10, .pointer (some ⟨b4, 0, none⟩)), (11, .int .i64 (atI ns (en (nd ns i).ents j).id)), (113, .bool false), (115, .string (en (nd ns i).ents j).name)]) (obl := [b4 = b4]) [o_, ⟨[.at 3], none, none, none, none⟩] [1, 6, 8, 9, 10, 11, 113, 115] (fun _ _ => by kernel_rfl) ⟨rfl, trivial⟩ ?_
        refine TriLQ.call (f := 40) (args := #[.string (en (nd ns i).ents j).name]) (d := (some 116)) (pre := []) (R := [.blk b1 [.slice A (ns.length) (c)] 24, .abs (RowA 3 1 (some ⟨b3, 0, none⟩) ns.length ns.length (intsV pl2)), .abs R, .blk b4 [.string (en (nd ns i).ents j).name, .int .i64 ((en (nd ns i).ents j).id)] 72]) (pk := [0, 1, 2, 3]) (pk' := [0, 1, 2, 3]) (v0 := .bool (decide (GoodName (en (nd ns i).ents j).name))) (fun _ => by kernel_rfl) (sp_refGood (en (nd ns i).ents j).name (hnm i (by omega) j (by omega))) rfl (by kernel_rfl) rfl (by kernel_rfl) (fun _ _ h => h) ?_
        refine TriLQ.seg (k' := 9) (fr' := [(1, .pointer (some ⟨b1, 0, none⟩)), (6, .slice (some ⟨b3, 0, none⟩) (ns.length) (ns.length)), (8, .int .i64 ↑i), (9, .int .i64 ↑j), (10, .pointer (some ⟨b4, 0, none⟩)), (11, .int .i64 (atI ns (en (nd ns i).ents j).id)), (119, .bool (!(decide (GoodName (en (nd ns i).ents j).name))))]) (obl := []) [o_, o_, o_] [1, 6, 8, 9, 10, 11, 119] (fun _ _ => by kernel_rfl) trivial ?_
        refine TriLQ.slotN 119 (GoodName (en (nd ns i).ents j).name) (fun _ => by kernel_rfl) (fun h119 => ?_) (fun h119 => ?_)
        ·
         refine TriLQ.seg (k' := 28) (fr' := [(1, .pointer (some ⟨b1, 0, none⟩)), (6, .slice (some ⟨b3, 0, none⟩) (ns.length) (ns.length)), (8, .int .i64 ↑i), (9, .int .i64 ↑j), (11, .int .i64 (atI ns (en (nd ns i).ents j).id)), (138, .bool true)]) (obl := []) [o_, o_, o_, o_, o_, o_, o_, o_, o_, o_, o_, o_, o_, o_, o_, o_, o_, o_, o_] [1, 6, 8, 9, 11, 138] (fun _ _ => by kernel_rfl) trivial ?_
         refine TriLQ.nil (by kernel_rfl) (TriQ.next ?_)
         refine Tri.condT (fun _ => by kernel_rfl) ?_
         refine Tri.seq (Tri.region ?_)
         refine TriL.segK (k' := 1) (fr' := [(2, .int .i64 140)]) (obl := []) [o_] [2] (fun _ _ => by kernel_rfl) trivial ?_
         refine TriL.nil (by kernel_rfl) (TriQ.next (Tri.ret (TriQ.passRet (TriQ.blockRet (TriQ.passRet (TriQ.passRet (TriQ.blockRet (TriQ.blockRet (TriQ.passRet (TriQ.passRet (TriQ.blockRet (TriQ.passRet ?_))))))))))))
         exact TriQ.ret (v := .int .i64 140) (l := []) (obl := []) [] [2] (fun _ => by kernel_rfl) trivial rfl (by kernel_rfl) (⟨congrArg (Value.int .i64) (if_neg (c := GraphOk ns) (fun h => by exact h119 (h.ents i (by omega) j (by omega)).good)).symm, rfl⟩)
        ·
         refine TriLQ.seg (k' := 12) (fr' := [(1, .pointer (some ⟨b1, 0, none⟩)), (6, .slice (some ⟨b3, 0, none⟩) (ns.length) (ns.length)), (8, .int .i64 ↑i), (9, .int .i64 ↑j), (10, .pointer (some ⟨b4, 0, none⟩)), (11, .int .i64 (atI ns (en (nd ns i).ents j).id)), (119, .bool false), (122, .bool (decide ((((j : Nat) : Int) : Int) > (0 : Int))))]) (obl := []) [o_, o_, o_] [1, 6, 8, 9, 10, 11, 119, 122] (fun _ _ => by kernel_rfl) trivial ?_
         refine TriLQ.slotP 122 ((((j : Nat) : Int) : Int) > (0 : Int)) (fun _ => by kernel_rfl) (fun h122 => ?_) (fun h122 => ?_)
         ·
          refine TriLQ.seg (k' := 28) (fr' := [(1, .pointer (some ⟨b1, 0, none⟩)), (6, .slice (some ⟨b3, 0, none⟩) (ns.length) (ns.length)), (8, .int .i64 ↑i), (9, .int .i64 ↑j), (11, .int .i64 (atI ns (en (nd ns i).ents j).id)), (138, .bool (decide (strLe ((en (nd ns i).ents j).name) ((en (nd ns i).ents (j - 1)).name))))]) (obl := [(Value.bool (Op.bytesLess (((en (nd ns i).ents j).name) : ByteArray).toList (((en (nd ns i).ents (j - 1)).name) : ByteArray).toList || (((en (nd ns i).ents j).name) : ByteArray).toList == (((en (nd ns i).ents (j - 1)).name) : ByteArray).toList)) = (.bool (decide (strLe ((en (nd ns i).ents j).name) ((en (nd ns i).ents (j - 1)).name)))), (Rd β ⟨(blkOf (L.eA i)), offOf (L.eA i) + (j - 1) * 2, none⟩ (.string (en (nd ns i).ents (j - 1)).name)), (((j - 1) : Nat) : Int) = (((j - 1) : Nat) : Int), (j - 1) < (nd ns i).ents.length, (⟨(blkOf (L.eA i)), offOf (L.eA i), none⟩ : Addr).spot = none, ((L.eA i) : Option Addr) = some ⟨(blkOf (L.eA i)), offOf (L.eA i), none⟩, (Value.int .i64 (IntKind.wrap .i64 (((j : Nat) : Int) - 1))) = (.int .i64 ↑(j - 1)), (Rd β ⟨(blkOf A), offOf A + i * 10 + 9, none⟩ (.slice (L.eA i) ((nd ns i).ents.length) ((L.eC i)))), ((i : Nat) : Int) = ((i : Nat) : Int), i < ns.length, (⟨(blkOf A), offOf A, none⟩ : Addr).spot = none, (A : Option Addr) = some ⟨(blkOf A), offOf A, none⟩, b1 = b1, b4 = b4]) [o_, ⟨[.at 3], none, none, none, none⟩, o_, ⟨[.at 0], none, none, none, none⟩, o_, ⟨[], some i, none, some ⟨(blkOf A), offOf A, none⟩, none⟩, o_, ⟨[.old (.slice (L.eA i) ((nd ns i).ents.length) ((L.eC i)))], none, none, none, none⟩, o_, ⟨[], none, none, none, some (.int .i64 ↑(j - 1))⟩, ⟨[], some (j - 1), none, some ⟨(blkOf (L.eA i)), offOf (L.eA i), none⟩, none⟩, o_, ⟨[.old (.string (en (nd ns i).ents (j - 1)).name)], none, none, none, none⟩, ⟨[], none, none, none, some (.bool (decide (strLe ((en (nd ns i).ents j).name) ((en (nd ns i).ents (j - 1)).name))))⟩, o_, o_] [1, 6, 8, 9, 11, 138] (fun _ _ => by kernel_rfl) ⟨strLeV _ _, EntsAt.rd (hG.ents i (by omega)) (i := (j - 1)) (by omega) (j := 0) rfl, rfl, by omega, rfl, EntsAt.hd (hG.ents i (by omega)) (i := (j - 1)) (by omega), wrapEq (by omega) (by omega) (by omega), GraphAt.rd hG (i := i) (by omega) (j := 9) rfl, rfl, by omega, rfl, GraphAt.hd hG (i := i) (by omega), rfl, rfl, trivial⟩ ?_
          refine TriLQ.nil (by kernel_rfl) (TriQ.next ?_)
          refine Tri.condP (p := strLe ((en (nd ns i).ents j).name) ((en (nd ns i).ents (j - 1)).name)) (fun _ => by kernel_rfl) (fun h138 => ?_) (fun h138 => ?_)
          ·
           refine Tri.seq (Tri.region ?_)
           refine TriL.segK (k' := 1) (fr' := [(2, .int .i64 140)]) (obl := []) [o_] [2] (fun _ _ => by kernel_rfl) trivial ?_
           refine TriL.nil (by kernel_rfl) (TriQ.next (Tri.ret (TriQ.passRet (TriQ.blockRet (TriQ.passRet (TriQ.passRet (TriQ.blockRet (TriQ.blockRet (TriQ.passRet (TriQ.passRet (TriQ.blockRet (TriQ.passRet ?_))))))))))))
           exact TriQ.ret (v := .int .i64 140) (l := []) (obl := []) [] [2] (fun _ => by kernel_rfl) trivial rfl (by kernel_rfl) (⟨congrArg (Value.int .i64) (if_neg (c := GraphOk ns) (fun h => by have h1 := (h.ents i (by omega) j (by omega)).ord; rw [prevName_pos (by omega)] at h1; exact h1 h138)).symm, rfl⟩)
          ·
           refine Tri.skip (TriQ.next (Tri.seq (Tri.region ?_)))
           refine TriL.segK (k' := 7) (fr' := [(1, .pointer (some ⟨b1, 0, none⟩)), (6, .slice (some ⟨b3, 0, none⟩) (ns.length) (ns.length)), (8, .int .i64 ↑i), (9, .int .i64 ↑j), (11, .int .i64 (atI ns (en (nd ns i).ents j).id)), (145, .bool (decide (((nd ns (tgt ns (en (nd ns i).ents j).id)).kind : Int) = (2 : Int))))]) (obl := [(Rd β ⟨(blkOf A), offOf A + (tgt ns (en (nd ns i).ents j).id) * 10 + 1, none⟩ (.int .i64 ((nd ns (tgt ns (en (nd ns i).ents j).id)).kind))), atI ns (en (nd ns i).ents j).id = (((tgt ns (en (nd ns i).ents j).id) : Nat) : Int), (tgt ns (en (nd ns i).ents j).id) < ns.length, (⟨(blkOf A), offOf A, none⟩ : Addr).spot = none, (A : Option Addr) = some ⟨(blkOf A), offOf A, none⟩, b1 = b1]) [o_, ⟨[.at 0], none, none, none, none⟩, o_, ⟨[], some (tgt ns (en (nd ns i).ents j).id), none, some ⟨(blkOf A), offOf A, none⟩, none⟩, o_, ⟨[.old (.int .i64 ((nd ns (tgt ns (en (nd ns i).ents j).id)).kind))], none, none, none, none⟩, o_] [1, 6, 8, 9, 11, 145] (fun _ _ => by kernel_rfl) ⟨GraphAt.rd hG (i := (tgt ns (en (nd ns i).ents j).id)) (by omega) (j := 1) rfl, htl.2.2, by omega, rfl, GraphAt.hd hG (i := (tgt ns (en (nd ns i).ents j).id)) (by omega), rfl, trivial⟩ ?_
           refine TriL.nil (by kernel_rfl) (TriQ.next ?_)
           refine Tri.condP (p := ((nd ns (tgt ns (en (nd ns i).ents j).id)).kind : Int) = (2 : Int)) (fun _ => by kernel_rfl) (fun h145 => ?_) (fun h145 => ?_)
           ·
            refine Tri.seq (Tri.seq (Tri.region ?_))
            refine TriL.segK (k' := 5) (fr' := [(1, .pointer (some ⟨b1, 0, none⟩)), (6, .slice (some ⟨b3, 0, none⟩) (ns.length) (ns.length)), (8, .int .i64 ↑i), (9, .int .i64 ↑j), (11, .int .i64 (atI ns (en (nd ns i).ents j).id)), (150, .bool (decide (((pl2.getD (tgt ns (en (nd ns i).ents j).id) 0) : Int) ≥ (0 : Int))))]) (obl := [(∀ F w, (RowA 3 1 (some ⟨b3, 0, none⟩) ns.length ns.length (intsV pl2)).h F w → w.cell? ⟨b3, (tgt ns (en (nd ns i).ents j).id), none⟩ = some (.int .i64 ((pl2.getD (tgt ns (en (nd ns i).ents j).id) 0)))), (Value.pointer (some ⟨b3, 0 + (tgt ns (en (nd ns i).ents j).id) * 1, none⟩)) = (.pointer (some ⟨b3, (tgt ns (en (nd ns i).ents j).id), none⟩)), atI ns (en (nd ns i).ents j).id = (((tgt ns (en (nd ns i).ents j).id) : Nat) : Int), (tgt ns (en (nd ns i).ents j).id) < ns.length, (⟨b3, 0, none⟩ : Addr).spot = none]) [o_, o_, ⟨[], some (tgt ns (en (nd ns i).ents j).id), none, none, some (.pointer (some ⟨b3, (tgt ns (en (nd ns i).ents j).id), none⟩))⟩, ⟨[.view 1 (.int .i64 ((pl2.getD (tgt ns (en (nd ns i).ents j).id) 0)))], none, none, none, none⟩, o_] [1, 6, 8, 9, 11, 150] (fun _ _ => by kernel_rfl) ⟨RowA.cell (intsV_get (by omega)), by simp, htl.2.2, by omega, rfl, trivial⟩ ?_
            refine TriL.nil (by kernel_rfl) (TriQ.next ?_)
            refine Tri.condP (p := ((pl2.getD (tgt ns (en (nd ns i).ents j).id) 0) : Int) ≥ (0 : Int)) (fun _ => by kernel_rfl) (fun h150 => ?_) (fun h150 => ?_)
            ·
             refine Tri.seq (Tri.region ?_)
             refine TriL.segK (k' := 1) (fr' := [(2, .int .i64 140)]) (obl := []) [o_] [2] (fun _ _ => by kernel_rfl) trivial ?_
             refine TriL.nil (by kernel_rfl) (TriQ.next (Tri.ret (TriQ.passRet (TriQ.blockRet (TriQ.passRet (TriQ.passRet (TriQ.blockRet (TriQ.blockRet (TriQ.passRet (TriQ.passRet (TriQ.blockRet (TriQ.passRet ?_))))))))))))
             exact TriQ.ret (v := .int .i64 140) (l := []) (obl := []) [] [2] (fun _ => by kernel_rfl) trivial rfl (by kernel_rfl) (⟨congrArg (Value.int .i64) (if_neg (c := GraphOk ns) (fun h => by have h1 : parI (rowE ns i j ++ allE ns i) (tgt ns (en (nd ns i).ents j).id) < 0 := parI_none.2 (rowOk_fresh (h.row (by omega)) (by omega) h145); rw [← hpar2.at_ (tgt ns (en (nd ns i).ents j).id) (by omega)] at h1; omega)).symm, rfl⟩)
            ·
             refine Tri.skip (TriQ.next (Tri.region ?_))
             refine TriL.segK (k' := 4) (fr' := [(1, .pointer (some ⟨b1, 0, none⟩)), (6, .slice (some ⟨b3, 0, none⟩) (ns.length) (ns.length)), (8, .int .i64 ↑i), (9, .int .i64 ↑j), (153, .int .i64 ↑i), (154, .pointer (some ⟨b3, (tgt ns (en (nd ns i).ents j).id), none⟩))]) (obl := [(Value.pointer (some ⟨b3, 0 + (tgt ns (en (nd ns i).ents j).id) * 1, none⟩)) = (.pointer (some ⟨b3, (tgt ns (en (nd ns i).ents j).id), none⟩)), atI ns (en (nd ns i).ents j).id = (((tgt ns (en (nd ns i).ents j).id) : Nat) : Int), (tgt ns (en (nd ns i).ents j).id) < ns.length, (⟨b3, 0, none⟩ : Addr).spot = none]) [o_, o_, o_, ⟨[], some (tgt ns (en (nd ns i).ents j).id), none, none, some (.pointer (some ⟨b3, (tgt ns (en (nd ns i).ents j).id), none⟩))⟩] [1, 6, 8, 9, 153, 154] (fun _ _ => by kernel_rfl) ⟨by simp, htl.2.2, by omega, rfl, trivial⟩ ?_
             refine TriL.rowSet 1 ((tgt ns (en (nd ns i).ents j).id)) (d := none) (T := 3) (e := 3) (size := 1) (n := ns.length) (cap := ns.length) (g := b3) (xs := (intsV pl2)) (u := .int .i64 ↑i) (a := (.tmp 154)) (y := (.tmp 153)) (fun _ => by kernel_rfl) (by kernel_rfl) (fun _ => by kernel_rfl) (fun _ => by kernel_rfl) (by kernel_rfl) rfl (by rw [intsV, List.length_map]; omega) ?_
             refine TriL.partEq 1 (p := .abs (RowA 3 1 (some ⟨b3, 0, none⟩) ns.length ns.length ((intsV pl2).set ((tgt ns (en (nd ns i).ents j).id)) (.int .i64 ↑i)))) (p' := .abs (RowA 3 1 (some ⟨b3, 0, none⟩) ns.length ns.length (intsV (pl2.set (tgt ns (en (nd ns i).ents j).id) ((i : Nat) : Int))))) (by kernel_rfl) (by rw [intsV_set]) ?_
             refine TriL.nil (by kernel_rfl) (TriQ.blockNormal (TriQ.next (Tri.region ?_)))
             refine TriL.segK (k' := 3) (fr' := [(1, .pointer (some ⟨b1, 0, none⟩)), (6, .slice (some ⟨b3, 0, none⟩) (ns.length) (ns.length)), (8, .int .i64 ↑i), (9, .int .i64 ↑(j + 1))]) (obl := [(Value.int .i64 (IntKind.wrap .i64 (((j : Nat) : Int) + 1))) = (.int .i64 ↑(j + 1))]) [o_, ⟨[], none, none, none, some (.int .i64 ↑(j + 1))⟩, o_] [1, 6, 8, 9] (fun _ _ => by kernel_rfl) ⟨wrapEq (by omega) (by omega) (by omega), trivial⟩ ?_
             refine TriL.nil (by kernel_rfl) ?_
             exact TriQ.turn ((j + 1), (pl2.set (tgt ns (en (nd ns i).ents j).id) ((i : Nat) : Int))) (idx := [1, 6, 8, 9]) (pk := [0, 1, 2]) (show (((j + 1)) ≤ (nd ns i).ents.length) ∧ (∀ t, t < ((j + 1)) → EntOk ns i t) ∧ (((rowE ns i ((j + 1)) ++ allE ns i).map Prod.fst).Nodup) ∧ (Par ns.length ((pl2.set (tgt ns (en (nd ns i).ents j).id) ((i : Nat) : Int))) (rowE ns i ((j + 1)) ++ allE ns i)) from ⟨by omega, fun t ht => (by rcases Nat.lt_succ_iff_lt_or_eq.1 ht with h | h; exact hok t h; subst h; exact entOk_of (Int.not_lt.1 h113) h119 (fun _ => h138)), (by rw [rowE_dir h145, List.cons_append, List.map_cons]; exact List.nodup_cons.2 ⟨show tgt ns (en (nd ns i).ents j).id ∉ _ from parI_none.1 (by rw [← hpar2.at_ (tgt ns (en (nd ns i).ents j).id) (by omega)]; omega), hnd2⟩), (by rw [rowE_dir h145]; exact hpar2.put (by omega))⟩) (by show (nd ns i).ents.length - ((j + 1)) < (nd ns i).ents.length - j; omega) (fun _ => by kernel_rfl) rfl (by kernel_rfl)
           ·
            refine Tri.skip (TriQ.blockNormal (TriQ.next (Tri.region ?_)))
            refine TriL.segK (k' := 3) (fr' := [(1, .pointer (some ⟨b1, 0, none⟩)), (6, .slice (some ⟨b3, 0, none⟩) (ns.length) (ns.length)), (8, .int .i64 ↑i), (9, .int .i64 ↑(j + 1))]) (obl := [(Value.int .i64 (IntKind.wrap .i64 (((j : Nat) : Int) + 1))) = (.int .i64 ↑(j + 1))]) [o_, ⟨[], none, none, none, some (.int .i64 ↑(j + 1))⟩, o_] [1, 6, 8, 9] (fun _ _ => by kernel_rfl) ⟨wrapEq (by omega) (by omega) (by omega), trivial⟩ ?_
            refine TriL.nil (by kernel_rfl) ?_
            exact TriQ.turn ((j + 1), pl2) (idx := [1, 6, 8, 9]) (pk := [0, 1, 2]) (show (((j + 1)) ≤ (nd ns i).ents.length) ∧ (∀ t, t < ((j + 1)) → EntOk ns i t) ∧ (((rowE ns i ((j + 1)) ++ allE ns i).map Prod.fst).Nodup) ∧ (Par ns.length pl2 (rowE ns i ((j + 1)) ++ allE ns i)) from ⟨by omega, fun t ht => (by rcases Nat.lt_succ_iff_lt_or_eq.1 ht with h | h; exact hok t h; subst h; exact entOk_of (Int.not_lt.1 h113) h119 (fun _ => h138)), (by rw [rowE_skip h145]; exact hnd2), (by rw [rowE_skip h145]; exact hpar2)⟩) (by show (nd ns i).ents.length - ((j + 1)) < (nd ns i).ents.length - j; omega) (fun _ => by kernel_rfl) rfl (by kernel_rfl)
         ·
          refine TriLQ.seg (k' := 28) (fr' := [(1, .pointer (some ⟨b1, 0, none⟩)), (6, .slice (some ⟨b3, 0, none⟩) (ns.length) (ns.length)), (8, .int .i64 ↑i), (9, .int .i64 ↑j), (11, .int .i64 (atI ns (en (nd ns i).ents j).id)), (138, .bool false)]) (obl := []) [o_, o_, o_, o_, o_, o_, o_, o_, o_, o_, o_, o_, o_, o_, o_, o_] [1, 6, 8, 9, 11, 138] (fun _ _ => by kernel_rfl) trivial ?_
          refine TriLQ.nil (by kernel_rfl) (TriQ.next ?_)
          refine Tri.condF (fun _ => by kernel_rfl) ?_
          refine Tri.skip (TriQ.next (Tri.seq (Tri.region ?_)))
          refine TriL.segK (k' := 7) (fr' := [(1, .pointer (some ⟨b1, 0, none⟩)), (6, .slice (some ⟨b3, 0, none⟩) (ns.length) (ns.length)), (8, .int .i64 ↑i), (9, .int .i64 ↑j), (11, .int .i64 (atI ns (en (nd ns i).ents j).id)), (145, .bool (decide (((nd ns (tgt ns (en (nd ns i).ents j).id)).kind : Int) = (2 : Int))))]) (obl := [(Rd β ⟨(blkOf A), offOf A + (tgt ns (en (nd ns i).ents j).id) * 10 + 1, none⟩ (.int .i64 ((nd ns (tgt ns (en (nd ns i).ents j).id)).kind))), atI ns (en (nd ns i).ents j).id = (((tgt ns (en (nd ns i).ents j).id) : Nat) : Int), (tgt ns (en (nd ns i).ents j).id) < ns.length, (⟨(blkOf A), offOf A, none⟩ : Addr).spot = none, (A : Option Addr) = some ⟨(blkOf A), offOf A, none⟩, b1 = b1]) [o_, ⟨[.at 0], none, none, none, none⟩, o_, ⟨[], some (tgt ns (en (nd ns i).ents j).id), none, some ⟨(blkOf A), offOf A, none⟩, none⟩, o_, ⟨[.old (.int .i64 ((nd ns (tgt ns (en (nd ns i).ents j).id)).kind))], none, none, none, none⟩, o_] [1, 6, 8, 9, 11, 145] (fun _ _ => by kernel_rfl) ⟨GraphAt.rd hG (i := (tgt ns (en (nd ns i).ents j).id)) (by omega) (j := 1) rfl, htl.2.2, by omega, rfl, GraphAt.hd hG (i := (tgt ns (en (nd ns i).ents j).id)) (by omega), rfl, trivial⟩ ?_
          refine TriL.nil (by kernel_rfl) (TriQ.next ?_)
          refine Tri.condP (p := ((nd ns (tgt ns (en (nd ns i).ents j).id)).kind : Int) = (2 : Int)) (fun _ => by kernel_rfl) (fun h145 => ?_) (fun h145 => ?_)
          ·
           refine Tri.seq (Tri.seq (Tri.region ?_))
           refine TriL.segK (k' := 5) (fr' := [(1, .pointer (some ⟨b1, 0, none⟩)), (6, .slice (some ⟨b3, 0, none⟩) (ns.length) (ns.length)), (8, .int .i64 ↑i), (9, .int .i64 ↑j), (11, .int .i64 (atI ns (en (nd ns i).ents j).id)), (150, .bool (decide (((pl2.getD (tgt ns (en (nd ns i).ents j).id) 0) : Int) ≥ (0 : Int))))]) (obl := [(∀ F w, (RowA 3 1 (some ⟨b3, 0, none⟩) ns.length ns.length (intsV pl2)).h F w → w.cell? ⟨b3, (tgt ns (en (nd ns i).ents j).id), none⟩ = some (.int .i64 ((pl2.getD (tgt ns (en (nd ns i).ents j).id) 0)))), (Value.pointer (some ⟨b3, 0 + (tgt ns (en (nd ns i).ents j).id) * 1, none⟩)) = (.pointer (some ⟨b3, (tgt ns (en (nd ns i).ents j).id), none⟩)), atI ns (en (nd ns i).ents j).id = (((tgt ns (en (nd ns i).ents j).id) : Nat) : Int), (tgt ns (en (nd ns i).ents j).id) < ns.length, (⟨b3, 0, none⟩ : Addr).spot = none]) [o_, o_, ⟨[], some (tgt ns (en (nd ns i).ents j).id), none, none, some (.pointer (some ⟨b3, (tgt ns (en (nd ns i).ents j).id), none⟩))⟩, ⟨[.view 1 (.int .i64 ((pl2.getD (tgt ns (en (nd ns i).ents j).id) 0)))], none, none, none, none⟩, o_] [1, 6, 8, 9, 11, 150] (fun _ _ => by kernel_rfl) ⟨RowA.cell (intsV_get (by omega)), by simp, htl.2.2, by omega, rfl, trivial⟩ ?_
           refine TriL.nil (by kernel_rfl) (TriQ.next ?_)
           refine Tri.condP (p := ((pl2.getD (tgt ns (en (nd ns i).ents j).id) 0) : Int) ≥ (0 : Int)) (fun _ => by kernel_rfl) (fun h150 => ?_) (fun h150 => ?_)
           ·
            refine Tri.seq (Tri.region ?_)
            refine TriL.segK (k' := 1) (fr' := [(2, .int .i64 140)]) (obl := []) [o_] [2] (fun _ _ => by kernel_rfl) trivial ?_
            refine TriL.nil (by kernel_rfl) (TriQ.next (Tri.ret (TriQ.passRet (TriQ.blockRet (TriQ.passRet (TriQ.passRet (TriQ.blockRet (TriQ.blockRet (TriQ.passRet (TriQ.passRet (TriQ.blockRet (TriQ.passRet ?_))))))))))))
            exact TriQ.ret (v := .int .i64 140) (l := []) (obl := []) [] [2] (fun _ => by kernel_rfl) trivial rfl (by kernel_rfl) (⟨congrArg (Value.int .i64) (if_neg (c := GraphOk ns) (fun h => by have h1 : parI (rowE ns i j ++ allE ns i) (tgt ns (en (nd ns i).ents j).id) < 0 := parI_none.2 (rowOk_fresh (h.row (by omega)) (by omega) h145); rw [← hpar2.at_ (tgt ns (en (nd ns i).ents j).id) (by omega)] at h1; omega)).symm, rfl⟩)
           ·
            refine Tri.skip (TriQ.next (Tri.region ?_))
            refine TriL.segK (k' := 4) (fr' := [(1, .pointer (some ⟨b1, 0, none⟩)), (6, .slice (some ⟨b3, 0, none⟩) (ns.length) (ns.length)), (8, .int .i64 ↑i), (9, .int .i64 ↑j), (153, .int .i64 ↑i), (154, .pointer (some ⟨b3, (tgt ns (en (nd ns i).ents j).id), none⟩))]) (obl := [(Value.pointer (some ⟨b3, 0 + (tgt ns (en (nd ns i).ents j).id) * 1, none⟩)) = (.pointer (some ⟨b3, (tgt ns (en (nd ns i).ents j).id), none⟩)), atI ns (en (nd ns i).ents j).id = (((tgt ns (en (nd ns i).ents j).id) : Nat) : Int), (tgt ns (en (nd ns i).ents j).id) < ns.length, (⟨b3, 0, none⟩ : Addr).spot = none]) [o_, o_, o_, ⟨[], some (tgt ns (en (nd ns i).ents j).id), none, none, some (.pointer (some ⟨b3, (tgt ns (en (nd ns i).ents j).id), none⟩))⟩] [1, 6, 8, 9, 153, 154] (fun _ _ => by kernel_rfl) ⟨by simp, htl.2.2, by omega, rfl, trivial⟩ ?_
            refine TriL.rowSet 1 ((tgt ns (en (nd ns i).ents j).id)) (d := none) (T := 3) (e := 3) (size := 1) (n := ns.length) (cap := ns.length) (g := b3) (xs := (intsV pl2)) (u := .int .i64 ↑i) (a := (.tmp 154)) (y := (.tmp 153)) (fun _ => by kernel_rfl) (by kernel_rfl) (fun _ => by kernel_rfl) (fun _ => by kernel_rfl) (by kernel_rfl) rfl (by rw [intsV, List.length_map]; omega) ?_
            refine TriL.partEq 1 (p := .abs (RowA 3 1 (some ⟨b3, 0, none⟩) ns.length ns.length ((intsV pl2).set ((tgt ns (en (nd ns i).ents j).id)) (.int .i64 ↑i)))) (p' := .abs (RowA 3 1 (some ⟨b3, 0, none⟩) ns.length ns.length (intsV (pl2.set (tgt ns (en (nd ns i).ents j).id) ((i : Nat) : Int))))) (by kernel_rfl) (by rw [intsV_set]) ?_
            refine TriL.nil (by kernel_rfl) (TriQ.blockNormal (TriQ.next (Tri.region ?_)))
            refine TriL.segK (k' := 3) (fr' := [(1, .pointer (some ⟨b1, 0, none⟩)), (6, .slice (some ⟨b3, 0, none⟩) (ns.length) (ns.length)), (8, .int .i64 ↑i), (9, .int .i64 ↑(j + 1))]) (obl := [(Value.int .i64 (IntKind.wrap .i64 (((j : Nat) : Int) + 1))) = (.int .i64 ↑(j + 1))]) [o_, ⟨[], none, none, none, some (.int .i64 ↑(j + 1))⟩, o_] [1, 6, 8, 9] (fun _ _ => by kernel_rfl) ⟨wrapEq (by omega) (by omega) (by omega), trivial⟩ ?_
            refine TriL.nil (by kernel_rfl) ?_
            exact TriQ.turn ((j + 1), (pl2.set (tgt ns (en (nd ns i).ents j).id) ((i : Nat) : Int))) (idx := [1, 6, 8, 9]) (pk := [0, 1, 2]) (show (((j + 1)) ≤ (nd ns i).ents.length) ∧ (∀ t, t < ((j + 1)) → EntOk ns i t) ∧ (((rowE ns i ((j + 1)) ++ allE ns i).map Prod.fst).Nodup) ∧ (Par ns.length ((pl2.set (tgt ns (en (nd ns i).ents j).id) ((i : Nat) : Int))) (rowE ns i ((j + 1)) ++ allE ns i)) from ⟨by omega, fun t ht => (by rcases Nat.lt_succ_iff_lt_or_eq.1 ht with h | h; exact hok t h; subst h; exact entOk_of (Int.not_lt.1 h113) h119 (fun h => absurd h (by omega))), (by rw [rowE_dir h145, List.cons_append, List.map_cons]; exact List.nodup_cons.2 ⟨show tgt ns (en (nd ns i).ents j).id ∉ _ from parI_none.1 (by rw [← hpar2.at_ (tgt ns (en (nd ns i).ents j).id) (by omega)]; omega), hnd2⟩), (by rw [rowE_dir h145]; exact hpar2.put (by omega))⟩) (by show (nd ns i).ents.length - ((j + 1)) < (nd ns i).ents.length - j; omega) (fun _ => by kernel_rfl) rfl (by kernel_rfl)
          ·
           refine Tri.skip (TriQ.blockNormal (TriQ.next (Tri.region ?_)))
           refine TriL.segK (k' := 3) (fr' := [(1, .pointer (some ⟨b1, 0, none⟩)), (6, .slice (some ⟨b3, 0, none⟩) (ns.length) (ns.length)), (8, .int .i64 ↑i), (9, .int .i64 ↑(j + 1))]) (obl := [(Value.int .i64 (IntKind.wrap .i64 (((j : Nat) : Int) + 1))) = (.int .i64 ↑(j + 1))]) [o_, ⟨[], none, none, none, some (.int .i64 ↑(j + 1))⟩, o_] [1, 6, 8, 9] (fun _ _ => by kernel_rfl) ⟨wrapEq (by omega) (by omega) (by omega), trivial⟩ ?_
           refine TriL.nil (by kernel_rfl) ?_
           exact TriQ.turn ((j + 1), pl2) (idx := [1, 6, 8, 9]) (pk := [0, 1, 2]) (show (((j + 1)) ≤ (nd ns i).ents.length) ∧ (∀ t, t < ((j + 1)) → EntOk ns i t) ∧ (((rowE ns i ((j + 1)) ++ allE ns i).map Prod.fst).Nodup) ∧ (Par ns.length pl2 (rowE ns i ((j + 1)) ++ allE ns i)) from ⟨by omega, fun t ht => (by rcases Nat.lt_succ_iff_lt_or_eq.1 ht with h | h; exact hok t h; subst h; exact entOk_of (Int.not_lt.1 h113) h119 (fun h => absurd h (by omega))), (by rw [rowE_skip h145]; exact hnd2), (by rw [rowE_skip h145]; exact hpar2)⟩) (by show (nd ns i).ents.length - ((j + 1)) < (nd ns i).ents.length - j; omega) (fun _ => by kernel_rfl) rfl (by kernel_rfl)
      ·
       refine Tri.exit (TriQ.passExit (TriQ.passExit (TriQ.blockHit (TriQ.blockNormal (TriQ.next (Tri.region ?_))))))
       refine TriL.segK (k' := 3) (fr' := [(1, .pointer (some ⟨b1, 0, none⟩)), (6, .slice (some ⟨b3, 0, none⟩) (ns.length) (ns.length)), (8, .int .i64 ↑(i + 1))]) (obl := [(Value.int .i64 (IntKind.wrap .i64 (((i : Nat) : Int) + 1))) = (.int .i64 ↑(i + 1))]) [o_, ⟨[], none, none, none, some (.int .i64 ↑(i + 1))⟩, o_] [1, 6, 8] (fun _ _ => by kernel_rfl) ⟨wrapEq (by omega) (by omega) (by omega), trivial⟩ ?_
       refine TriL.nil (by kernel_rfl) ?_
       exact TriQ.turn ((i + 1), pl2) (idx := [1, 6, 8]) (pk := [0, 1, 2]) (show (((i + 1)) ≤ ns.length) ∧ (∀ a, a < ((i + 1)) → ∀ j, j < (nd ns a).ents.length → EntOk ns a j) ∧ (((allE ns ((i + 1))).map Prod.fst).Nodup) ∧ (Par ns.length pl2 (allE ns ((i + 1)))) from ⟨by omega, fun a ha => (by rcases Nat.lt_succ_iff_lt_or_eq.1 ha with h | h; exact hents a h; subst h; exact fun j' hj' => hok j' (by omega)), (by have := hnd2; rwa [show j = (nd ns i).ents.length by omega] at this), (by have := hpar2; rwa [show j = (nd ns i).ents.length by omega] at this)⟩) (by show ns.length - ((i + 1)) < ns.length - i; omega) (fun _ => by kernel_rfl) rfl (by kernel_rfl)
     ·
      refine Tri.exit (TriQ.passExit (TriQ.passExit (TriQ.blockHit (TriQ.next (Tri.seq (Tri.seq (Tri.region ?_)))))))
      refine TriL.segK (k' := 1) (fr' := [(6, .slice (some ⟨b3, 0, none⟩) (ns.length) (ns.length)), (12, .int .i64 0)]) (obl := []) [o_] [6, 12] (fun _ _ => by kernel_rfl) trivial ?_
      refine TriL.nil (by kernel_rfl) (TriQ.next (Tri.block ?_))
      have hparN : Par ns.length pl1 (allE ns ns.length) := by have := hpar; rwa [show i = ns.length by omega] at this
      have hed := allE_fst (ns := ns) (Nat.le_refl _) (fun a ha => hents a (by omega))
      refine Tri.loop (ι := Nat) (fun (a : Nat) => (a ≤ ns.length) ∧ (∀ b, b < a → Ends ((allE ns ns.length).map (idP ns)) (nd ns b).id)) (fun (a : Nat) => ns.length - a) (fun (a : Nat) => [(6, .slice (some ⟨b3, 0, none⟩) (ns.length) (ns.length)), (12, .int .i64 ↑a)]) (fun (a : Nat) => [.abs (RowA 3 1 (some ⟨b3, 0, none⟩) ns.length ns.length (intsV pl1)), .abs R]) 0 (idx := [6, 12]) (pk := [1, 2]) (show (0 ≤ ns.length) ∧ (∀ b, b < 0 → Ends ((allE ns ns.length).map (idP ns)) (nd ns b).id) from ⟨Nat.zero_le _, fun b hb => absurd hb (Nat.not_lt_zero b)⟩) (fun _ => by kernel_rfl) rfl (by kernel_rfl) ?_
      rintro a ⟨ha, hend⟩
      show Tri _ _ _ _ [(6, .slice (some ⟨b3, 0, none⟩) (ns.length) (ns.length)), (12, .int .i64 ↑a)] [.abs (RowA 3 1 (some ⟨b3, 0, none⟩) ns.length ns.length (intsV pl1)), .abs R] _
      have hln := hpar.len
      refine Tri.seq (Tri.seq (Tri.region ?_))
      refine TriL.segK (k' := 4) (fr' := [(6, .slice (some ⟨b3, 0, none⟩) (ns.length) (ns.length)), (12, .int .i64 ↑a), (158, .bool (decide ((((a : Nat) : Int) : Int) < (((ns.length : Nat) : Int) : Int))))]) (obl := []) [o_, o_, o_, o_] [6, 12, 158] (fun _ _ => by kernel_rfl) trivial ?_
      refine TriL.nil (by kernel_rfl) (TriQ.next ?_)
      refine Tri.condP (p := (((a : Nat) : Int) : Int) < (((ns.length : Nat) : Int) : Int)) (fun _ => by kernel_rfl) (fun h158 => ?_) (fun h158 => ?_)
      ·
       refine Tri.skip (TriQ.next (Tri.seq (Tri.block (Tri.seq (Tri.region ?_)))))
       refine TriL.segK (k' := 5) (fr' := [(6, .slice (some ⟨b3, 0, none⟩) (ns.length) (ns.length)), (12, .int .i64 ↑a), (13, .int .i64 ((pl1.getD a 0)))]) (obl := [(∀ F w, (RowA 3 1 (some ⟨b3, 0, none⟩) ns.length ns.length (intsV pl1)).h F w → w.cell? ⟨b3, a, none⟩ = some (.int .i64 ((pl1.getD a 0)))), (Value.pointer (some ⟨b3, 0 + a * 1, none⟩)) = (.pointer (some ⟨b3, a, none⟩)), ((a : Nat) : Int) = ((a : Nat) : Int), a < ns.length, (⟨b3, 0, none⟩ : Addr).spot = none]) [o_, o_, ⟨[], some a, none, none, some (.pointer (some ⟨b3, a, none⟩))⟩, ⟨[.view 0 (.int .i64 ((pl1.getD a 0)))], none, none, none, none⟩, o_] [6, 12, 13] (fun _ _ => by kernel_rfl) ⟨RowA.cell (intsV_get (by omega)), by simp, rfl, by omega, rfl, trivial⟩ ?_
       refine TriL.nil (by kernel_rfl) (TriQ.next (Tri.seq (Tri.region ?_)))
       refine TriL.segK (k' := 1) (fr' := [(6, .slice (some ⟨b3, 0, none⟩) (ns.length) (ns.length)), (12, .int .i64 ↑a), (13, .int .i64 ((pl1.getD a 0))), (14, .int .i64 0)]) (obl := []) [o_] [6, 12, 13, 14] (fun _ _ => by kernel_rfl) trivial ?_
       refine TriL.nil (by kernel_rfl) (TriQ.next (Tri.block ?_))
       refine Tri.loop (ι := Int × Nat × (List Int)) (fun ((at_, step, w) : Int × Nat × (List Int)) => ((at_ < 0 ∧ Ends ((allE ns ns.length).map (idP ns)) (nd ns a).id) ∨ ∃ q : Nat, at_ = (q : Int) ∧ q < ns.length ∧ Way ((allE ns ns.length).map (idP ns)) (nd ns a).id w (nd ns q).id ∧ w.length = step + 1)) (fun ((at_, step, w) : Int × Nat × (List Int)) => ns.length + 2 - step) (fun ((at_, step, w) : Int × Nat × (List Int)) => [(6, .slice (some ⟨b3, 0, none⟩) (ns.length) (ns.length)), (12, .int .i64 ↑a), (13, .int .i64 (at_)), (14, .int .i64 ↑step)]) (fun ((at_, step, w) : Int × Nat × (List Int)) => [.abs (RowA 3 1 (some ⟨b3, 0, none⟩) ns.length ns.length (intsV pl1)), .abs R]) ((pl1.getD a 0), 0, [(nd ns a).id]) (idx := [6, 12, 13, 14]) (pk := [0, 1]) (show ((((pl1.getD a 0)) < 0 ∧ Ends ((allE ns ns.length).map (idP ns)) (nd ns a).id) ∨ ∃ q : Nat, ((pl1.getD a 0)) = (q : Int) ∧ q < ns.length ∧ Way ((allE ns ns.length).map (idP ns)) (nd ns a).id ([(nd ns a).id]) (nd ns q).id ∧ ([(nd ns a).id]).length = 0 + 1) from way_next hrise hed hparN (by omega) .nil rfl) (fun _ => by kernel_rfl) rfl (by kernel_rfl) ?_
       rintro ⟨at_, step, w⟩ hst
       show Tri _ _ _ _ [(6, .slice (some ⟨b3, 0, none⟩) (ns.length) (ns.length)), (12, .int .i64 ↑a), (13, .int .i64 (at_)), (14, .int .i64 ↑step)] [.abs (RowA 3 1 (some ⟨b3, 0, none⟩) ns.length ns.length (intsV pl1)), .abs R] _
       refine Tri.seq (Tri.seq (Tri.region ?_))
       refine TriL.segK (k' := 2) (fr' := [(6, .slice (some ⟨b3, 0, none⟩) (ns.length) (ns.length)), (12, .int .i64 ↑a), (13, .int .i64 (at_)), (14, .int .i64 ↑step), (166, .bool (decide ((at_ : Int) ≥ (0 : Int))))]) (obl := []) [o_, o_] [6, 12, 13, 14, 166] (fun _ _ => by kernel_rfl) trivial ?_
       refine TriL.nil (by kernel_rfl) (TriQ.next ?_)
       refine Tri.condP (p := (at_ : Int) ≥ (0 : Int)) (fun _ => by kernel_rfl) (fun h166 => ?_) (fun h166 => ?_)
       ·
        obtain ⟨b, hb0, hb1, hb2, hb3⟩ := hst.resolve_left (fun h => by omega)
        refine Tri.skip (TriQ.next (Tri.seq (Tri.block (Tri.seq (Tri.seq (Tri.region ?_))))))
        refine TriL.segK (k' := 4) (fr' := [(6, .slice (some ⟨b3, 0, none⟩) (ns.length) (ns.length)), (12, .int .i64 ↑a), (13, .int .i64 (at_)), (14, .int .i64 ↑step), (172, .bool (decide ((at_ : Int) = (((a : Nat) : Int) : Int))))]) (obl := []) [o_, o_, o_, o_] [6, 12, 13, 14, 172] (fun _ _ => by kernel_rfl) trivial ?_
        refine TriL.slotP 172 ((at_ : Int) = (((a : Nat) : Int) : Int)) (fun _ => by kernel_rfl) (fun h172 => ?_) (fun h172 => ?_)
        ·
         refine TriL.segK (k' := 9) (fr' := [(6, .slice (some ⟨b3, 0, none⟩) (ns.length) (ns.length)), (12, .int .i64 ↑a), (13, .int .i64 (at_)), (14, .int .i64 ↑step), (177, .bool true)]) (obl := []) [o_, o_, o_, o_, o_] [6, 12, 13, 14, 177] (fun _ _ => by kernel_rfl) trivial ?_
         refine TriL.nil (by kernel_rfl) (TriQ.next ?_)
         refine Tri.condT (fun _ => by kernel_rfl) ?_
         refine Tri.seq (Tri.region ?_)
         refine TriL.segK (k' := 1) (fr' := [(2, .int .i64 140)]) (obl := []) [o_] [2] (fun _ _ => by kernel_rfl) trivial ?_
         refine TriL.nil (by kernel_rfl) (TriQ.next (Tri.ret (TriQ.passRet (TriQ.blockRet (TriQ.passRet (TriQ.passRet (TriQ.blockRet (TriQ.blockRet (TriQ.passRet (TriQ.passRet (TriQ.blockRet (TriQ.passRet ?_))))))))))))
         exact TriQ.ret (v := .int .i64 140) (l := []) (obl := []) [] [1] (fun _ => by kernel_rfl) trivial rfl (by kernel_rfl) (⟨congrArg (Value.int .i64) (if_neg (c := GraphOk ns) (fun h => by rw [show b = a by omega] at hb2; exact hb2.back (by omega) (h.ends _))).symm, rfl⟩)
        ·
         refine TriL.segK (k' := 9) (fr' := [(6, .slice (some ⟨b3, 0, none⟩) (ns.length) (ns.length)), (12, .int .i64 ↑a), (13, .int .i64 (at_)), (14, .int .i64 ↑step), (177, .bool (decide ((((step : Nat) : Int) : Int) > (((ns.length : Nat) : Int) : Int))))]) (obl := []) [o_, o_, o_, o_, o_] [6, 12, 13, 14, 177] (fun _ _ => by kernel_rfl) trivial ?_
         refine TriL.nil (by kernel_rfl) (TriQ.next ?_)
         refine Tri.condP (p := (((step : Nat) : Int) : Int) > (((ns.length : Nat) : Int) : Int)) (fun _ => by kernel_rfl) (fun h177 => ?_) (fun h177 => ?_)
         ·
          refine Tri.seq (Tri.region ?_)
          refine TriL.segK (k' := 1) (fr' := [(2, .int .i64 140)]) (obl := []) [o_] [2] (fun _ _ => by kernel_rfl) trivial ?_
          refine TriL.nil (by kernel_rfl) (TriQ.next (Tri.ret (TriQ.passRet (TriQ.blockRet (TriQ.passRet (TriQ.passRet (TriQ.blockRet (TriQ.blockRet (TriQ.passRet (TriQ.passRet (TriQ.blockRet (TriQ.passRet ?_))))))))))))
          exact TriQ.ret (v := .int .i64 140) (l := []) (obl := []) [] [1] (fun _ => by kernel_rfl) trivial rfl (by kernel_rfl) (⟨congrArg (Value.int .i64) (if_neg (c := GraphOk ns) (fun h => by exact hb2.never (by have := h.few; omega) (h.ends _))).symm, rfl⟩)
         ·
          refine Tri.skip (TriQ.next (Tri.region ?_))
          refine TriL.segK (k' := 5) (fr' := [(6, .slice (some ⟨b3, 0, none⟩) (ns.length) (ns.length)), (12, .int .i64 ↑a), (13, .int .i64 ((pl1.getD b 0))), (14, .int .i64 ↑step)]) (obl := [(∀ F w, (RowA 3 1 (some ⟨b3, 0, none⟩) ns.length ns.length (intsV pl1)).h F w → w.cell? ⟨b3, b, none⟩ = some (.int .i64 ((pl1.getD b 0)))), (Value.pointer (some ⟨b3, 0 + b * 1, none⟩)) = (.pointer (some ⟨b3, b, none⟩)), at_ = ((b : Nat) : Int), b < ns.length, (⟨b3, 0, none⟩ : Addr).spot = none]) [o_, o_, ⟨[], some b, none, none, some (.pointer (some ⟨b3, b, none⟩))⟩, ⟨[.view 0 (.int .i64 ((pl1.getD b 0)))], none, none, none, none⟩, o_] [6, 12, 13, 14] (fun _ _ => by kernel_rfl) ⟨RowA.cell (intsV_get (by omega)), by simp, hb0, by omega, rfl, trivial⟩ ?_
          refine TriL.nil (by kernel_rfl) (TriQ.blockNormal (TriQ.next (Tri.region ?_)))
          refine TriL.segK (k' := 3) (fr' := [(6, .slice (some ⟨b3, 0, none⟩) (ns.length) (ns.length)), (12, .int .i64 ↑a), (13, .int .i64 ((pl1.getD b 0))), (14, .int .i64 ↑(step + 1))]) (obl := [(Value.int .i64 (IntKind.wrap .i64 (((step : Nat) : Int) + 1))) = (.int .i64 ↑(step + 1))]) [o_, ⟨[], none, none, none, some (.int .i64 ↑(step + 1))⟩, o_] [6, 12, 13, 14] (fun _ _ => by kernel_rfl) ⟨wrapEq (by omega) (by omega) (by omega), trivial⟩ ?_
          refine TriL.nil (by kernel_rfl) ?_
          exact TriQ.turn ((pl1.getD b 0), (step + 1), (w ++ [(nd ns b).id])) (idx := [6, 12, 13, 14]) (pk := [0, 1]) (show ((((pl1.getD b 0)) < 0 ∧ Ends ((allE ns ns.length).map (idP ns)) (nd ns a).id) ∨ ∃ q : Nat, ((pl1.getD b 0)) = (q : Int) ∧ q < ns.length ∧ Way ((allE ns ns.length).map (idP ns)) (nd ns a).id ((w ++ [(nd ns b).id])) (nd ns q).id ∧ ((w ++ [(nd ns b).id])).length = ((step + 1)) + 1) from way_next hrise hed hparN hb1 hb2 hb3) (by show ns.length + 2 - ((step + 1)) < ns.length + 2 - step; omega) (fun _ => by kernel_rfl) rfl (by kernel_rfl)
       ·
        refine Tri.exit (TriQ.passExit (TriQ.passExit (TriQ.blockHit (TriQ.blockNormal (TriQ.next (Tri.region ?_))))))
        refine TriL.segK (k' := 3) (fr' := [(6, .slice (some ⟨b3, 0, none⟩) (ns.length) (ns.length)), (12, .int .i64 ↑(a + 1))]) (obl := [(Value.int .i64 (IntKind.wrap .i64 (((a : Nat) : Int) + 1))) = (.int .i64 ↑(a + 1))]) [o_, ⟨[], none, none, none, some (.int .i64 ↑(a + 1))⟩, o_] [6, 12] (fun _ _ => by kernel_rfl) ⟨wrapEq (by omega) (by omega) (by omega), trivial⟩ ?_
        refine TriL.nil (by kernel_rfl) ?_
        exact TriQ.turn ((a + 1)) (idx := [6, 12]) (pk := [0, 1]) (show (((a + 1)) ≤ ns.length) ∧ (∀ b, b < ((a + 1)) → Ends ((allE ns ns.length).map (idP ns)) (nd ns b).id) from ⟨by omega, fun b hb => by rcases Nat.lt_succ_iff_lt_or_eq.1 hb with h | h; exact hend b h; subst h; rcases hst with h2 | ⟨q, hq, _⟩; exact h2.2; omega⟩) (by show ns.length - ((a + 1)) < ns.length - a; omega) (fun _ => by kernel_rfl) rfl (by kernel_rfl)
      ·
       refine Tri.exit (TriQ.passExit (TriQ.passExit (TriQ.blockHit (TriQ.next (Tri.seq (Tri.region ?_))))))
       refine TriL.segK (k' := 1) (fr' := [(2, .int .i64 0)]) (obl := []) [o_] [2] (fun _ _ => by kernel_rfl) trivial ?_
       refine TriL.nil (by kernel_rfl) (TriQ.next (Tri.ret ?_))
       exact TriQ.ret (v := .int .i64 0) (l := []) (obl := []) [] [1] (fun _ => by kernel_rfl) trivial rfl (by kernel_rfl) (⟨congrArg (Value.int .i64) (if_pos (c := GraphOk ns) ⟨by omega, fun a ha => hu.node a (by omega), fun a ha => hu.ids a (by omega), hrise, by omega, fun a ha => hents a (by omega), by have := hnd; rwa [show i = ns.length by omega] at this, allEnd_of (fun p hp => (hed p hp).1) (fun b hb => hend b (by omega))⟩).symm, rfl⟩)
end Go.Proofs.Ytjpdcppdoonmdaa
end
/- part GW. PROVED HERE: what a law is told of its graph, as the contracts ask for it; the law's literals. CONDITIONS: none. -/
section
namespace Go.Proofs.Ytjpdcppdoonmdaa
open Go.RowKit
theorem B0.refl (W : World) : (B0 W).le (B0 W) := ⟨fun _ h => h, rfl, rfl, rfl, Nat.le_refl _, fun _ hk => ⟨hk, rfl⟩⟩
theorem Spec.val {P : Program} {β : Bs} {f : FuncId} {args : Array Value} {pre : List HP} {x y : Value} {l0 : List HP} (h : Spec P β f args pre (fun v l => v = x ∧ l = l0)) (e : x = y) : Spec P β f args pre (fun v l => v = y ∧ l = l0) := h.mono fun _ _ h => ⟨h.1.trans e, h.2⟩
section gb
variable {ns : List NodeM} {b : Nat}
theorem GraphB.mono {c : Nat} (h : GraphB ns b) (hb : b ≤ c) : GraphB ns c :=
  ⟨Nat.le_trans h.len hb, fun i hi => ⟨(h.node i hi).ids, Nat.le_trans (h.node i hi).data hb, Nat.le_trans (h.node i hi).target hb, Nat.le_trans (h.node i hi).ents hb, fun j hj => ⟨((h.node i hi).ent j hj).id, Nat.le_trans ((h.node i hi).ent j hj).name hb⟩⟩⟩
variable (h : GraphB ns 1048576)
include h
theorem GraphB.hl : ns.length ≤ 1048576 := by have := h.len; omega
theorem GraphB.hd : ∀ i, i < ns.length → (nd ns i).data.length ≤ 1048576 ∧ (nd ns i).ents.length ≤ 1048576 := fun i hi => by
  have h1 := (h.node i hi).data
  have h2 := (h.node i hi).ents
  omega
theorem GraphB.hwf : ∀ i, i < ns.length → ∀ j, j < (nd ns i).ents.length → -9223372036854775808 ≤ (ent ns i j).id ∧ (ent ns i j).id ≤ 9223372036854775807 := fun i hi j hj => ((h.node i hi).ent j hj).id
theorem GraphB.hnm : ∀ i, i < ns.length → ∀ j, j < (nd ns i).ents.length → (ent ns i j).name.size ≤ 1048576 := fun i hi j hj => by
  have h1 := ((h.node i hi).ent j hj).name
  unfold ent
  omega
theorem GraphB.ht : ∀ i, i < ns.length → (nd ns i).target.size ≤ 1048576 := fun i hi => by
  have h1 := (h.node i hi).target
  omega
end gb
def zeroNode : NodeM := ⟨0, 0, 0, 0, 0, 0, 0, [], ⟨#[]⟩, []⟩
def L0 : Lay := ⟨fun _ => none, fun _ => none, fun _ => 0, fun _ => 0⟩
theorem RowB.nil {β : Bs} {A : Option Addr} : RowB β A [] := fun j v hj => by simp at hj
theorem GraphAt.flat {β : Bs} {A : Option Addr} {ns : List NodeM} {L : Lay} (h : RowB β A (nodesV L ns)) (hd : ∀ i, i < ns.length → (nd ns i).data = [] ∧ (nd ns i).ents = []) : GraphAt β A ns L :=
  ⟨h, fun i hi => by rw [(hd i hi).1]; exact RowB.nil, fun i hi => by rw [(hd i hi).2]; exact RowB.nil⟩
theorem zero_bound : GraphB [zeroNode] 1048576 := by
  refine ⟨by decide, fun i hi => ?_⟩
  have : i = 0 := by simp at hi; exact hi
  subst this
  exact ⟨⟨⟨by decide, by decide⟩, ⟨by decide, by decide⟩, ⟨by decide, by decide⟩, ⟨by decide, by decide⟩, ⟨by decide, by decide⟩, ⟨by decide, by decide⟩, ⟨by decide, by decide⟩⟩, by decide, by decide, by decide, fun j hj => absurd hj (Nat.not_lt_zero j)⟩
theorem zero_flat : ∀ i, i < [zeroNode].length → (nd [zeroNode] i).data = [] ∧ (nd [zeroNode] i).ents = [] := fun i hi => by
  have : i = 0 := by simp at hi; exact hi
  subst this
  exact ⟨rfl, rfl⟩
theorem zero_bad : ¬ GraphOk [zeroNode] := fun h => by
  have := (h.ids 0 (by decide)).1
  exact absurd this (by decide)
end Go.Proofs.Ytjpdcppdoonmdaa
end
/- part Vy. PROVED HERE: small laws of unsigned numbers, shifts and the order of texts. CONDITIONS: none. No statement of the seat is proved here. -/
section
namespace Go.Proofs.Ytjpdcppdoonmdaa
open Go.RowKit
theorem u64Eq {x : Int} (h0 : 0 ≤ x) (h1 : x ≤ 18446744073709551615) : Value.int .u64 (IntKind.wrap .u64 x) = Value.int .u64 x := by
  rw [IntWalk.u64_in _ ⟨h0, h1⟩]
theorem u8Eq {x : Int} (h0 : 0 ≤ x) (h1 : x ≤ 255) : Value.int .u8 (IntKind.wrap .u8 x) = Value.int .u8 x := by
  rw [IntWalk.u8_in _ ⟨h0, h1⟩]
theorem shr1Eq {k : IntKind} {m : Nat} : Value.int k (Int.fdiv ((m : Nat) : Int) (2 ^ 1)) = Value.int k ((m / 2 : Nat) : Int) := by
  have e : ((m / 2 : Nat) : Int) = (m : Int) / 2 := by omega
  rw [e, Int.fdiv_eq_ediv_of_nonneg _ (by decide)]
  rfl
/-! ### bytes that may turn into a text -/
/-- a block whose cells are as told, whatever its mark -/
def FrozA (b : Nat) (cs : List Value) (T : TypeId) : Asn where
  h F w := (∃ fz, w.heap[b]? = some (.cells ⟨cs⟩ T fz)) ∧ ∀ k, F k ↔ k = b
  lt := by
    rintro F w ⟨⟨fz, h1⟩, h2⟩ k hk
    rw [(h2 k).1 hk]
    exact lt_of_some h1
  st := by
    rintro F w ⟨⟨fz, h1⟩, h2⟩ S w' hk hn
    exact ⟨⟨fz, (hk.block b (lt_of_some h1) (hn b ((h2 b).2 rfl))).trans h1⟩, h2⟩
theorem RowB.of_froz {β' : Bs} {b n : Nat} {cs : List Value} {T : TypeId} {F : Fp} {w : World} (h : (HP.abs (FrozA b cs T)).h F w) (h1 : ∀ k, F k → β'.O k) (h2 : β'.w0 = w) : RowB β' (some ⟨b, 0, none⟩) (cs.take n) := by
  obtain ⟨⟨fz, h3⟩, h4⟩ := h
  intro j v hj
  have hj' : cs[j]? = some v := by
    rw [List.getElem?_take] at hj
    split at hj
    · exact hj
    · cases hj
  refine ⟨rfl, h1 b ((h4 b).2 rfl), ?_⟩
  show β'.w0.cell? ⟨b, 0 + j, none⟩ = some v
  rw [h2, Nat.zero_add]
  unfold World.cell?
  rw [h3]
  simpa using hj'
section mark
variable {P : Program} {β : Bs} {N : Nat} {ops : Array Oper} {k : Nat} {fr : Fr} {hps : List HP} {Q : Post} {d : Option Tmp}
theorem TriL.markBytes (i : Nat) {t e T : TypeId} {b o n c : Nat} {cs : List Value} {x : Operand} (hop : ∀ junk, opAt N junk ops fr k = some (.convert t t x, d)) (hp : hps[i]? = some (.blk b cs T)) (hx : ∀ junk, evF N fr junk x = .slice (some ⟨b, o, none⟩) n c)
    (ht : P.underlying t = some (.slice e)) (he : P.underlying e = some (.int .u8)) (K' : TriL P β N ops (k + 1) (putF fr d (.slice (some ⟨b, o, none⟩) n c)) (hps.set i (.abs (FrozA b cs T))) Q) : TriL P β N ops k fr hps Q := by
  refine TriL.run1 hop (fun o' junk w ho hS => ?_) K'
  obtain ⟨F, hF⟩ := hS.get hp
  have hb := hF.1
  have hsz : b < w.heap.size := lt_of_some hb
  refine ⟨w.freeze ⟨b, cs.length, none⟩ 1, .inl ?_, hS.set hp (fun F hF => ?_)⟩
  · obtain ⟨dst, op, type, pos, after, guard⟩ := o'
    cases ho
    have h1 : (underlying t).run P w = .ok (.slice e) w := run_underlying ht w
    have h2 : (underlying e).run P w = .ok (.int .u8) w := run_underlying he w
    have h3 : w.shape? b = some (T, cs.length) := by unfold World.shape?; rw [hb]; rfl
    simp [execOp, convert, hx, go_sem, h1, h2, markStringish, h3]
  · refine ⟨F, ⟨⟨?_, ?_⟩, hF.2⟩, ⟨⟨rfl, rfl, rfl, ?_, ?_⟩, fun _ h => .inl h⟩⟩
    · exact (if ((0 : Nat) == 0) = true then (cs.length, cs.length + 1) else (min 0 cs.length, max 0 (cs.length + 1)))
    · simp [World.freeze, Array.getElem?_modify, hF.1]
    · simp [World.freeze]
    · intro k _ hk
      have hne : ¬ b = k := fun e => hk ((hF.2 k).2 e.symm)
      simp [World.freeze, Array.getElem?_modify, hne]
end mark
/-! ### texts put together; a row that is cut -/
section adds
variable {P : Program} {β : Bs} {N : Nat} {ops : Array Oper} {e0 k : Nat} {fr : Fr} {hps : List HP} {Q : Post} {d : Option Tmp} {t t2 : TypeId} {x y : Operand} {a b : ByteArray}
theorem ran_strAdd {w : World} {o : Oper} {ev : Operand → Value} (ho : o.op = .binOp .add t x y t2) (hx : ev x = .string a) (hy : ev y = .string b) (hs : a.size + b.size ≤ 9223372036854775807) : Ran P ev o w (.string (a ++ b)) w := by
  obtain ⟨dst, op, type, pos, after, guard⟩ := o
  cases ho
  refine .inl ?_
  simp [execOp, hx, hy, binOp, eqGuard, Op.stringOp, go_sem]
  omega
theorem TriL.strAdd (hop : ∀ junk, opAt N junk ops fr k = some (.binOp .add t x y t2, d)) (hx : ∀ junk, evF N fr junk x = .string a) (hy : ∀ junk, evF N fr junk y = .string b) (hs : a.size + b.size ≤ 9223372036854775807) (K : TriL P β N ops (k + 1) (putF fr d (.string (a ++ b))) hps Q) : TriL P β N ops k fr hps Q :=
  TriL.run1 hop (fun _ junk w ho hS => ⟨w, ran_strAdd ho (hx junk) (hy junk) hs, hS⟩) K
theorem TriLQ.strAdd (hop : ∀ junk, opAt N junk ops fr k = some (.binOp .add t x y t2, d)) (hx : ∀ junk, evF N fr junk x = .string a) (hy : ∀ junk, evF N fr junk y = .string b) (hs : a.size + b.size ≤ 9223372036854775807) (K : TriLQ P β N ops (k + 1) (putF fr d (.string (a ++ b))) hps Q) : TriLQ P β N ops k fr hps Q :=
  TriLQ.run1 hop (fun _ junk _ ho _ => ran_strAdd ho (hx junk) (hy junk) hs) K
theorem step_cut {e : TypeId} {size n m cap : Nat} {A : Option Addr} {xs : List Value} {w : World} (hm : m ≤ n) : ∀ F, (HP.abs (RowA e size A n cap xs)).h F w → ∃ F', (HP.abs (RowA e size A m cap (xs.take (m * size)))).h F' w ∧ Step F w F' w := by
  rintro F ⟨⟨h1, h2⟩, hF⟩
  refine ⟨F, ⟨⟨?_, ?_⟩, fun k => ?_⟩, Step.refl F w⟩
  · rw [List.length_take, h1]
    exact Nat.min_eq_left (Nat.mul_le_mul_right _ hm)
  · rcases h2 with ⟨e1, e2⟩ | ⟨g, cp, cur, e1, h3, h4, h5, h6, h7, h8⟩
    · cases e1
      exact .inl ⟨by rw [show m = 0 by omega], by omega⟩
    · cases e1
      refine .inr ⟨g, cap, cur, rfl, h3, h4, by omega, h6, h7, ?_⟩
      rw [← h8, List.take_take]
      congr 1
      exact (Nat.min_eq_left (Nat.mul_le_mul_right _ hm)).symm
  · rw [hF k]
    cases A <;> rfl
theorem Sat.cut {i e size n m cap : Nat} {A : Option Addr} {xs ys : List Value} {w : World} (hp : hps[i]? = some (.abs (RowA e size A n cap xs))) (hm : m ≤ n) (hy : xs.take (m * size) = ys) (h : Sat β hps w) : Sat β (hps.set i (.abs (RowA e size A m cap ys))) w := by
  subst hy
  exact h.set hp (step_cut hm)
end adds
/-- a cell of a row, by its element and place -/
theorem RowA.cellAt {e : TypeId} {A : Option Addr} {size n cap i j : Nat} {xs : List Value} {u : Value} (hi : i < n) (hj : xs[i * size + j]? = some u) : ∀ F w, (RowA e size A n cap xs).h F w → w.cell? ⟨blkOf A, offOf A + i * size + j, none⟩ = some u := by
  intro F w h
  obtain ⟨g, rfl⟩ := RowA.head h (by omega)
  have := RowA.cell hj F w h
  show w.cell? ⟨g, 0 + i * size + j, none⟩ = some u
  rw [Nat.zero_add]
  exact this
/-! ### the order of texts -/
def cmpB (a b : ByteArray) : Int := Lib.compareBytes a.data.toList b.data.toList
theorem cmpL_self : ∀ a : List UInt8, Lib.compareBytes a a = 0
  | [] => rfl
  | a :: r => by
    have h : ¬ a < a := by intro h; exact absurd h (by simp)
    simp only [Lib.compareBytes, if_neg h]
    exact cmpL_self r
theorem cmpL_zero : ∀ {a b : List UInt8}, Lib.compareBytes a b = 0 → a = b
  | [], [], _ => rfl
  | [], _ :: _, h => by simp [Lib.compareBytes] at h
  | _ :: _, [], h => by simp [Lib.compareBytes] at h
  | a :: x, b :: y, h => by
    unfold Lib.compareBytes at h
    split at h
    · cases h
    · rename_i h1
      split at h
      · cases h
      · rename_i h2
        have e : a = b := by
          apply UInt8.toNat_inj.1
          have h3 : ¬ a.toNat < b.toNat := fun h => h1 (UInt8.lt_iff_toNat_lt.2 h)
          have h4 : ¬ b.toNat < a.toNat := fun h => h2 (UInt8.lt_iff_toNat_lt.2 h)
          omega
        rw [e, cmpL_zero h]
theorem cmpL_less : ∀ {a b : List UInt8}, Lib.compareBytes a b < 0 ↔ Op.bytesLess a b = true
  | [], [] => by simp [Lib.compareBytes, Op.bytesLess]
  | [], _ :: _ => by simp [Lib.compareBytes, Op.bytesLess]
  | _ :: _, [] => by simp [Lib.compareBytes, Op.bytesLess]
  | a :: x, b :: y => by
    unfold Lib.compareBytes Op.bytesLess
    by_cases h1 : a < b
    · simp [h1]
    · by_cases h2 : b < a
      · have h3 : ¬ a = b := fun e => by subst e; exact h1 h2
        simp [h1, h2, h3]
      · have e : a = b := by
          apply UInt8.toNat_inj.1
          have h3 : ¬ a.toNat < b.toNat := fun h => h1 (UInt8.lt_iff_toNat_lt.2 h)
          have h4 : ¬ b.toNat < a.toNat := fun h => h2 (UInt8.lt_iff_toNat_lt.2 h)
          omega
        subst e
        simp only [h1, if_false, decide_false, beq_self_eq_true, Bool.true_and, Bool.false_or]
        exact cmpL_less
theorem cmpL_trans : ∀ {a b c : List UInt8}, Lib.compareBytes a b < 0 → Lib.compareBytes b c ≤ 0 → Lib.compareBytes a c < 0
  | [], [], _, h, _ => by simp [Lib.compareBytes] at h
  | [], _ :: _, [], _, h => by simp [Lib.compareBytes] at h
  | [], _ :: _, _ :: _, _, _ => by simp [Lib.compareBytes]
  | _ :: _, [], _, h, _ => by simp [Lib.compareBytes] at h
  | _ :: _, _ :: _, [], _, h => by simp [Lib.compareBytes] at h
  | a :: x, b :: y, c :: z, h, g => by
    unfold Lib.compareBytes at h g ⊢
    by_cases h1 : a < b
    · by_cases g1 : b < c
      · have : a < c := by rw [UInt8.lt_iff_toNat_lt] at *; omega
        simp [this]
      · by_cases g2 : c < b
        · simp [g1, g2] at g
        · have e : b = c := by
            apply UInt8.toNat_inj.1
            rw [UInt8.lt_iff_toNat_lt] at *
            omega
          subst e
          simp [h1]
    · by_cases h2 : b < a
      · simp [h1, h2] at h
      · have e : a = b := by
          apply UInt8.toNat_inj.1
          rw [UInt8.lt_iff_toNat_lt] at *
          omega
        subst e
        simp only [h1, if_false] at h
        by_cases g1 : a < c
        · simp [g1]
        · by_cases g2 : c < a
          · simp [g1, g2] at g
          · simp only [g1, g2, if_false] at g ⊢
            exact cmpL_trans h g
theorem cmpL_anti : ∀ {a b : List UInt8}, Lib.compareBytes b a = - Lib.compareBytes a b
  | [], [] => rfl
  | [], _ :: _ => rfl
  | _ :: _, [] => rfl
  | a :: x, b :: y => by
    unfold Lib.compareBytes
    by_cases h1 : a < b
    · have h2 : ¬ b < a := by rw [UInt8.lt_iff_toNat_lt] at *; omega
      simp [h1, h2]
    · by_cases h2 : b < a
      · simp [h1, h2]
      · simp only [h1, h2, if_false]
        exact cmpL_anti
theorem cmpB_self (a : ByteArray) : cmpB a a = 0 := cmpL_self _
theorem cmpB_zero {a b : ByteArray} : cmpB a b = 0 ↔ a = b := by
  refine ⟨fun h => ?_, fun h => by rw [h]; exact cmpB_self b⟩
  have := cmpL_zero h
  obtain ⟨⟨a⟩⟩ := a
  obtain ⟨⟨b⟩⟩ := b
  have this : a = b := this
  rw [this]
theorem cmpB_trans {a b c : ByteArray} (h : cmpB a b < 0) (g : cmpB b c ≤ 0) : cmpB a c < 0 := cmpL_trans h g
theorem cmpB_anti (a b : ByteArray) : cmpB b a = - cmpB a b := cmpL_anti
end Go.Proofs.Ytjpdcppdoonmdaa
end
/- part GF. PROVED HERE: what Find answers, as plain data; lists of texts in memory; the entries' order. CONDITIONS: none. -/
section
namespace Go.Proofs.Ytjpdcppdoonmdaa
open Go.RowKit Go.Maps
/-! ### lists of texts -/
def strsV (l : List ByteArray) : List Value := l.map Value.string
def sAt (l : List ByteArray) (i : Nat) : ByteArray := l.getD i ⟨#[]⟩
def StrsAt (β : Bs) (A : Option Addr) (l : List ByteArray) : Prop := RowB β A (strsV l)
theorem strsV_len (l : List ByteArray) : (strsV l).length = l.length := by simp [strsV]
theorem oneCell_strs (d : List ByteArray) : ∀ u ∈ strsV d, u.oneCell' = true := by
  intro u hu
  obtain ⟨b, _, rfl⟩ := List.mem_map.1 hu
  rfl
section strs
variable {β β' : Bs} {A : Option Addr} {l : List ByteArray}
theorem StrsAt.le (h : StrsAt β A l) (hle : β.le β') : StrsAt β' A l := RowB.le h hle
theorem StrsAt.get (h : StrsAt β A l) {j : Nat} (hj : j < l.length) : A = some ⟨blkOf A, offOf A, none⟩ ∧ Rd β ⟨blkOf A, offOf A + j * 1, none⟩ (.string (sAt l j)) := by
  have h1 : (strsV l)[j]? = some (.string (sAt l j)) := by
    rw [strsV, List.getElem?_map, getD_some (x := ⟨#[]⟩) hj]; rfl
  have := h j _ h1
  rw [Nat.mul_one]
  exact this
theorem StrsAt.hd (h : StrsAt β A l) {j : Nat} (hj : j < l.length) : A = some ⟨blkOf A, offOf A, none⟩ := (h.get hj).1
theorem StrsAt.rd (h : StrsAt β A l) {j : Nat} (hj : j < l.length) : Rd β ⟨blkOf A, offOf A + j * 1, none⟩ (.string (sAt l j)) := (h.get hj).2
end strs
theorem drop_sAt {l : List ByteArray} {i : Nat} (h : i < l.length) : l.drop i = sAt l i :: l.drop (i + 1) := by
  rw [List.drop_eq_getElem_cons h]
  unfold sAt
  rw [List.getD_eq_getElem?_getD, List.getElem?_eq_getElem h]
  rfl
/-! ### begin -/
noncomputable def beginC (ns : List NodeM) (root : Int) : Int :=
  if ¬ GraphOk ns then 140 else if ¬ 0 ≤ atI ns root then 141 else if ¬ (nd ns (tgt ns root)).kind = 2 then 173 else 0
theorem beginC_bad {ns : List NodeM} {root : Int} (h : ¬ GraphOk ns) : beginC ns root = 140 := if_pos h
theorem beginC_none {ns : List NodeM} {root : Int} (h : GraphOk ns) (h1 : ¬ 0 ≤ atI ns root) : beginC ns root = 141 := by
  unfold beginC; rw [if_neg (fun e => e h), if_pos h1]
theorem beginC_kind {ns : List NodeM} {root : Int} (h : GraphOk ns) (h1 : 0 ≤ atI ns root) (h2 : ¬ (nd ns (tgt ns root)).kind = 2) : beginC ns root = 173 := by
  unfold beginC; rw [if_neg (fun e => e h), if_neg (fun e => e h1), if_pos h2]
theorem beginC_ok {ns : List NodeM} {root : Int} (h : GraphOk ns) (h1 : 0 ≤ atI ns root) (h2 : (nd ns (tgt ns root)).kind = 2) : beginC ns root = 0 := by
  unfold beginC; rw [if_neg (fun e => e h), if_neg (fun e => e h1), if_neg (fun e => e h2)]
theorem beginC_zero {ns : List NodeM} {root : Int} (h : beginC ns root = 0) : GraphOk ns ∧ 0 ≤ atI ns root ∧ (nd ns (tgt ns root)).kind = 2 := by
  unfold beginC at h
  split at h
  · cases h
  · rename_i h1
    split at h
    · cases h
    · rename_i h2
      split at h
      · cases h
      · rename_i h3
        exact ⟨Classical.not_not.1 h1, Classical.not_not.1 h2, Classical.not_not.1 h3⟩
/-- what the reference's begin answers -/
noncomputable def refB (ns : List NodeM) (root : Int) : Value := if beginC ns root = 0 then .tuple #[.int .i64 ((tgt ns root : Nat) : Int), .int .i64 0] else .tuple #[.int .i64 0, .int .i64 (beginC ns root)]
theorem refB_ok {ns : List NodeM} {root : Int} (h : beginC ns root = 0) : refB ns root = .tuple #[.int .i64 ((tgt ns root : Nat) : Int), .int .i64 0] := if_pos h
theorem refB_bad {ns : List NodeM} {root : Int} (h : ¬ beginC ns root = 0) : refB ns root = .tuple #[.int .i64 0, .int .i64 (beginC ns root)] := if_neg h
/-! ### the entries' order -/
def Sorted (es : List EntM) : Prop := ∀ i j, i < j → j < es.length → cmpB (en es i).name (en es j).name < 0
theorem not_strLe {x y : ByteArray} : ¬ strLe x y ↔ cmpB y x < 0 := by
  unfold strLe
  rw [strEq', Lib.toList_data, Lib.toList_data]
  have h1 := @cmpL_less x.data.toList y.data.toList
  have h2 := @cmpB_zero x y
  have h3 := cmpB_anti x y
  unfold cmpB at h2 h3 ⊢
  rw [Bool.or_eq_true, decide_eq_true_iff, ← h1, ← h2]
  omega
theorem sorted_of {ns : List NodeM} {i : Nat} (h : ∀ j, j < (nd ns i).ents.length → EntOk ns i j) : Sorted (nd ns i).ents := by
  intro a b hab hb
  induction b with
  | zero => omega
  | succ b ih =>
    have h1 : cmpB (ent ns i b).name (ent ns i (b + 1)).name < 0 := not_strLe.1 (h (b + 1) hb).ord
    rcases Nat.lt_succ_iff_lt_or_eq.1 hab with e | e
    · exact cmpB_trans (ih e (by omega)) (by unfold ent at h1; omega)
    · rw [e]; exact h1
theorem Sorted.inj {es : List EntM} (h : Sorted es) {i j : Nat} (hi : i < es.length) (hj : j < es.length) (e : (en es i).name = (en es j).name) : i = j := by
  rcases Nat.lt_trichotomy i j with h1 | h1 | h1
  · have := h i j h1 hj; rw [e, cmpB_self] at this; omega
  · exact h1
  · have := h j i h1 hi; rw [e, cmpB_self] at this; omega
/-- the entry with a name -/
def findE (es : List EntM) (p : ByteArray) : Option Nat := es.findIdx? (fun e => decide (e.name = p))
theorem findE_some {es : List EntM} {p : ByteArray} {j : Nat} (hs : Sorted es) (hj : j < es.length) (e : (en es j).name = p) : findE es p = some j := by
  unfold findE
  rw [List.findIdx?_eq_some_iff_getElem]
  have hg : ∀ k (hk : k < es.length), en es k = es[k] := fun k hk => by
    unfold en
    rw [List.getD_eq_getElem?_getD, List.getElem?_eq_getElem hk]
    rfl
  refine ⟨hj, by rw [← hg j hj]; simpa using e, fun k hk => ?_⟩
  rw [← hg k (by omega)]
  simp only [decide_eq_true_eq]
  intro e2
  have := hs.inj (i := k) (j := j) (by omega) hj (e2.trans e.symm)
  omega
theorem findE_none {es : List EntM} {p : ByteArray} (h : ∀ j, j < es.length → ¬ (en es j).name = p) : findE es p = none := by
  unfold findE
  rw [List.findIdx?_eq_none_iff]
  intro x hx
  obtain ⟨j, hj, rfl⟩ := List.getElem_of_mem hx
  have := h j hj
  unfold en at this
  rw [List.getD_eq_getElem?_getD, List.getElem?_eq_getElem hj] at this
  simpa using this
/-- the node at the end of the parts, below place k -/
noncomputable def findM (ns : List NodeM) : Nat → List ByteArray → Int × Int
  | k, [] => ((nd ns k).id, 0)
  | k, p :: r => if (nd ns k).kind = 3 then (0, 174) else if (nd ns k).kind = 1 then (0, 173) else
    match findE (nd ns k).ents p with
    | none => (0, 170)
    | some j => findM ns (tgt ns (en (nd ns k).ents j).id) r
noncomputable def findG (ns : List NodeM) (root : Int) (ps : List ByteArray) : Int × Int := if beginC ns root = 0 then findM ns (tgt ns root) ps else (0, beginC ns root)
section find
variable {ns : List NodeM} {k i : Nat} {ps : List ByteArray}
theorem findM_end (h : ps.length ≤ i) : findM ns k (ps.drop i) = ((nd ns k).id, 0) := by
  rw [List.drop_eq_nil_of_le h]; rfl
theorem findM_sym (h : i < ps.length) (h3 : (nd ns k).kind = 3) : findM ns k (ps.drop i) = (0, 174) := by
  rw [drop_sAt h]; unfold findM; rw [if_pos h3]
theorem findM_file (h : i < ps.length) (h3 : (nd ns k).kind = 1) : findM ns k (ps.drop i) = (0, 173) := by
  rw [drop_sAt h]; unfold findM; rw [if_neg (by omega), if_pos h3]
theorem findM_none (h : i < ps.length) (h3 : ¬ (nd ns k).kind = 3) (h1 : ¬ (nd ns k).kind = 1) (hf : findE (nd ns k).ents (sAt ps i) = none) : findM ns k (ps.drop i) = (0, 170) := by
  rw [drop_sAt h]; unfold findM; rw [if_neg h3, if_neg h1, hf]
theorem findM_some {j : Nat} (h : i < ps.length) (h3 : ¬ (nd ns k).kind = 3) (h1 : ¬ (nd ns k).kind = 1) (hf : findE (nd ns k).ents (sAt ps i) = some j) : findM ns k (ps.drop i) = findM ns (tgt ns (en (nd ns k).ents j).id) (ps.drop (i + 1)) := by
  rw [drop_sAt h]
  conv => lhs; unfold findM
  rw [if_neg h3, if_neg h1, hf]
theorem findG_ok {root : Int} (h : beginC ns root = 0) : findG ns root ps = findM ns (tgt ns root) ps := if_pos h
theorem findG_bad {root : Int} (h : ¬ beginC ns root = 0) : findG ns root ps = (0, beginC ns root) := if_neg h
end find
theorem sp_compare {β : Bs} (a b : ByteArray) : Spec Try.prog β 45 #[.string a, .string b] [] (fun v l => v = .int .i64 (cmpB a b) ∧ l = []) :=
  Spec.of0 fun w _ => (Try.strings_Compare a b w).mono fun _ _ ⟨he, hw⟩ => ⟨_, he, ⟨rfl, rfl⟩, hw ▸ Keeps.refl _ _⟩
/-! ### the search -/
def Found (es : List EntM) (p : ByteArray) (v : Value) : Prop := (∃ k : Nat, k < es.length ∧ (en es k).name = p ∧ v = .tuple #[.int .i64 (k : Int), .bool true]) ∨ ((∀ j, j < es.length → ¬ (en es j).name = p) ∧ ∃ z, v = .tuple #[.int .i64 z, .bool false])
section search
variable {es : List EntM} {p : ByteArray} {i : Nat}
theorem Sorted.low (hs : Sorted es) (hi : i < es.length) (hc : cmpB (en es i).name p < 0) : ∀ t, t < i + 1 → cmpB (en es t).name p < 0 := fun t ht => by
  rcases Nat.lt_succ_iff_lt_or_eq.1 ht with h | h
  · exact cmpB_trans (hs t i h hi) (by omega)
  · rw [h]; exact hc
theorem Sorted.high (hs : Sorted es) (hc : ¬ cmpB (en es i).name p < 0) : ∀ t, i ≤ t → t < es.length → 0 ≤ cmpB (en es t).name p := fun t ht hl => by
  rcases Nat.eq_or_lt_of_le ht with h | h
  · rw [← h]; omega
  · have h1 := hs i t h hl
    apply Int.not_lt.1
    intro h2
    exact hc (cmpB_trans h1 (by omega))
theorem bs_none (hlo : ∀ t, t < i → cmpB (en es t).name p < 0) (hi : es.length ≤ i) : Found es p (.tuple #[.int .i64 ((i : Nat) : Int), .bool false]) :=
  .inr ⟨fun j hj e => by have := hlo j (by omega); rw [e, cmpB_self] at this; omega, i, rfl⟩
theorem bs_post (hs : Sorted es) (hi : i < es.length) (hlo : ∀ t, t < i → cmpB (en es t).name p < 0) (hhi : ∀ t, i ≤ t → t < es.length → 0 ≤ cmpB (en es t).name p) : Found es p (.tuple #[.int .i64 ((i : Nat) : Int), .bool (decide (cmpB (en es i).name p = 0))]) := by
  by_cases he : cmpB (en es i).name p = 0
  · exact .inl ⟨i, hi, cmpB_zero.1 he, by rw [decide_eq_true he]⟩
  · refine .inr ⟨fun j hj e => ?_, i, by rw [decide_eq_false he]⟩
    rcases Nat.lt_trichotomy j i with h | h | h
    · have := hlo j h; rw [e, cmpB_self] at this; omega
    · subst h; exact he (cmpB_zero.2 e)
    · have h1 := hs i j h hj
      rw [e] at h1
      have := hhi i (Nat.le_refl _) hi
      omega
end search
end Go.Proofs.Ytjpdcppdoonmdaa
end
/- part GBegin. PROVED HERE: the beginning of each look into a graph CONDITIONS: as the theorems say. Printed by a program of this repo (wip/v). -/
section
namespace Go.Proofs.Ytjpdcppdoonmdaa
open Go.RowKit
attribute [local irreducible] TriL TriLQ Tri TriQ
set_option maxRecDepth 100000 in
set_option maxHeartbeats 4000000 in
theorem sp_begin {β : Bs} (A : Option Addr) (c : Nat) (ns : List NodeM) (L : Lay) (hG : GraphAt β A ns L) (hB : GraphB ns 1048576) (root : Int) (hz : I64 root) :
    Spec Try.prog β 42 #[.agg #[.slice A ns.length c], .int .i64 root] [] (fun v l => (∃ mb, v = .tuple #[.map (some mb), .pointer (some ⟨(blkOf A), offOf A + (tgt ns root) * 10, none⟩), .int .i64 0] ∧ beginC ns root = 0 ∧ l = [.abs (MapA Try.prog 3 mb (mf (bf A ns ns.length)) ns.length)]) ∨ (∃ x y, v = .tuple #[x, y, .int .i64 (beginC ns root)] ∧ ¬ beginC ns root = 0 ∧ l = [])) := by
 refine Spec.enter Try.func42 rfl Try.ntmps42 (Nat.le_of_ble_eq_true rfl) (fun R => ?_)
 refine Tri.seq (Tri.region ?_)
 refine TriL.segN (k' := 4) (fr' := fun b1 => [(1, .int .i64 (root)), (2, .pointer (some ⟨b1, 0, none⟩))]) (hps' := fun b1 => [.abs R, .blk b1 [.slice A (ns.length) (c)] 24]) (obl := fun b1 => []) [o_, o_, o_, o_] [1, 2] [0, 1] (fun _ _ => by kernel_rfl) (fun b1 => trivial) (fun b1 => ?_)
 refine TriL.nil (by kernel_rfl) (TriQ.next (Tri.seq (Tri.region ?_)))
 refine TriL.segK (k' := 1) (fr' := [(1, .int .i64 (root)), (11, .agg #[.slice A (ns.length) (c)])]) (obl := [b1 = b1]) [⟨[.at 1], none, none, none, none⟩] [1, 11] (fun _ _ => by kernel_rfl) ⟨rfl, trivial⟩ ?_
 refine TriL.call (f := 37) (args := #[.agg #[.slice A (ns.length) (c)]]) (d := (some 12)) (pre := []) (R := [.abs R, .blk b1 [.slice A (ns.length) (c)] 24]) (pk := [0, 1]) (fun _ => by kernel_rfl) (sp_read A c ns L hG hB.hl hB.hd hB.hwf hB.hnm) rfl (by kernel_rfl) ?_
 rintro _ _ (⟨mb, rfl, hok, rfl⟩ | ⟨m, rfl, hok, rfl⟩)
 ·
  refine TriL.segK (k' := 7) (fr' := [(1, .int .i64 (root)), (7, .map (some mb)), (8, .bool true)]) (obl := []) [o_, o_, o_, o_, o_] [1, 7, 8] (fun _ _ => by kernel_rfl) trivial ?_
  refine TriL.nil (by kernel_rfl) (TriQ.next (Tri.seq (Tri.seq (Tri.region ?_))))
  refine TriL.segK (k' := 2) (fr' := [(1, .int .i64 (root)), (7, .map (some mb)), (16, .bool false)]) (obl := []) [o_, o_] [1, 7, 16] (fun _ _ => by kernel_rfl) trivial ?_
  refine TriL.nil (by kernel_rfl) (TriQ.next ?_)
  refine Tri.condF (fun _ => by kernel_rfl) ?_
  refine Tri.skip (TriQ.next (Tri.seq (Tri.region ?_)))
  refine TriL.segK (k' := 2) (fr' := [(7, .map (some mb)), (17, .map (some mb)), (18, .int .i64 (root))]) (obl := []) [o_, o_] [7, 17, 18] (fun _ _ => by kernel_rfl) trivial ?_
  by_cases hat : 0 ≤ atI ns root
  ·
   have htl := atI_lt hat
   refine TriL.mapLook 0 (d := (some 19)) (t := 66) (K := 3) (E := 75) (b := mb) (n := ns.length) (f := (mf (bf A ns ns.length))) (x := (.tmp 17)) (ix := (.tmp 18)) (key := .int .i64 (root)) (z := .pointer none) (kl := (.int .i64 root)) (r := (some (.pointer (some ⟨(blkOf A), offOf A + (tgt ns root) * 10, none⟩)))) (fun _ => by kernel_rfl) (by kernel_rfl) (fun _ => by kernel_rfl) (fun _ => by kernel_rfl) lawI Try.underlying66 (fun _ => by kernel_rfl) (keyI hz.1 hz.2) (bf_at hat htl.1) ?_
   refine TriL.segK (k' := 4) (fr' := [(7, .map (some mb)), (9, .pointer (some ⟨(blkOf A), offOf A + (tgt ns root) * 10, none⟩))]) (obl := []) [o_] [7, 9] (fun _ _ => by kernel_rfl) trivial ?_
   refine TriL.nil (by kernel_rfl) (TriQ.next (Tri.seq (Tri.seq (Tri.region ?_))))
   refine TriL.segK (k' := 2) (fr' := [(7, .map (some mb)), (9, .pointer (some ⟨(blkOf A), offOf A + (tgt ns root) * 10, none⟩)), (21, .bool false)]) (obl := []) [o_, o_] [7, 9, 21] (fun _ _ => by kernel_rfl) trivial ?_
   refine TriL.nil (by kernel_rfl) (TriQ.next ?_)
   refine Tri.condF (fun _ => by kernel_rfl) ?_
   refine Tri.skip (TriQ.next (Tri.seq (Tri.seq (Tri.region ?_))))
   refine TriL.segK (k' := 5) (fr' := [(7, .map (some mb)), (9, .pointer (some ⟨(blkOf A), offOf A + (tgt ns root) * 10, none⟩)), (26, .bool (!(decide (((nd ns (tgt ns root)).kind : Int) = (2 : Int)))))]) (obl := [(Rd β ⟨(blkOf A), offOf A + (tgt ns root) * 10 + 1, none⟩ (.int .i64 ((nd ns (tgt ns root)).kind)))]) [o_, o_, o_, ⟨[.old (.int .i64 ((nd ns (tgt ns root)).kind))], none, none, none, none⟩, o_] [7, 9, 26] (fun _ _ => by kernel_rfl) ⟨GraphAt.rd hG (i := (tgt ns root)) (by omega) (j := 1) rfl, trivial⟩ ?_
   refine TriL.nil (by kernel_rfl) (TriQ.next ?_)
   refine Tri.condN (p := ((nd ns (tgt ns root)).kind : Int) = (2 : Int)) (fun _ => by kernel_rfl) (fun h26 => ?_) (fun h26 => ?_)
   ·
    refine Tri.seq (Tri.region ?_)
    refine TriL.segK (k' := 3) (fr' := [(4, .map none), (5, .pointer none), (6, .int .i64 173)]) (obl := []) [o_, o_, o_] [4, 5, 6] (fun _ _ => by kernel_rfl) trivial ?_
    refine TriL.nil (by kernel_rfl) (TriQ.next (Tri.ret (TriQ.passRet ?_)))
    exact TriQ.ret (v := .tuple #[.map none, .pointer none, .int .i64 173]) (l := []) (obl := []) [] [1] (fun _ => by kernel_rfl) trivial rfl (by kernel_rfl) (.inr ⟨_, _, by rw [beginC_kind hok hat h26], by rw [beginC_kind hok hat h26]; decide, rfl⟩)
   ·
    refine Tri.skip (TriQ.next (Tri.seq (Tri.region ?_)))
    refine TriL.segK (k' := 5) (fr' := [(4, .map (some mb)), (5, .pointer (some ⟨(blkOf A), offOf A + (tgt ns root) * 10, none⟩)), (6, .int .i64 0)]) (obl := []) [o_, o_, o_, o_, o_] [4, 5, 6] (fun _ _ => by kernel_rfl) trivial ?_
    refine TriL.nil (by kernel_rfl) (TriQ.next (Tri.ret ?_))
    exact TriQ.ret (v := .tuple #[.map (some mb), .pointer (some ⟨(blkOf A), offOf A + (tgt ns root) * 10, none⟩), .int .i64 0]) (l := [.abs (MapA Try.prog 3 mb (mf (bf A ns ns.length)) ns.length)]) (obl := []) [] [0, 1] (fun _ => by kernel_rfl) trivial rfl (by kernel_rfl) (.inl ⟨mb, rfl, beginC_ok hok hat h26, rfl⟩)
  ·
   refine TriL.mapLook 0 (d := (some 19)) (t := 66) (K := 3) (E := 75) (b := mb) (n := ns.length) (f := (mf (bf A ns ns.length))) (x := (.tmp 17)) (ix := (.tmp 18)) (key := .int .i64 (root)) (z := .pointer none) (kl := (.int .i64 root)) (r := none) (fun _ => by kernel_rfl) (by kernel_rfl) (fun _ => by kernel_rfl) (fun _ => by kernel_rfl) lawI Try.underlying66 (fun _ => by kernel_rfl) (keyI hz.1 hz.2) (bf_none hat) ?_
   refine TriL.segK (k' := 4) (fr' := [(7, .map (some mb)), (9, .pointer none)]) (obl := []) [o_] [7, 9] (fun _ _ => by kernel_rfl) trivial ?_
   refine TriL.nil (by kernel_rfl) (TriQ.next (Tri.seq (Tri.seq (Tri.region ?_))))
   refine TriL.segK (k' := 2) (fr' := [(7, .map (some mb)), (9, .pointer none), (21, .bool true)]) (obl := []) [o_, o_] [7, 9, 21] (fun _ _ => by kernel_rfl) trivial ?_
   refine TriL.nil (by kernel_rfl) (TriQ.next ?_)
   refine Tri.condT (fun _ => by kernel_rfl) ?_
   refine Tri.seq (Tri.region ?_)
   refine TriL.segK (k' := 3) (fr' := [(4, .map none), (5, .pointer none), (6, .int .i64 141)]) (obl := []) [o_, o_, o_] [4, 5, 6] (fun _ _ => by kernel_rfl) trivial ?_
   refine TriL.nil (by kernel_rfl) (TriQ.next (Tri.ret (TriQ.passRet ?_)))
   exact TriQ.ret (v := .tuple #[.map none, .pointer none, .int .i64 141]) (l := []) (obl := []) [] [1] (fun _ => by kernel_rfl) trivial rfl (by kernel_rfl) (.inr ⟨_, _, by rw [beginC_none hok hat], by rw [beginC_none hok hat]; decide, rfl⟩)
 ·
  refine TriL.segK (k' := 7) (fr' := [(1, .int .i64 (root)), (7, m), (8, .bool false)]) (obl := []) [o_, o_, o_, o_, o_] [1, 7, 8] (fun _ _ => by kernel_rfl) trivial ?_
  refine TriL.nil (by kernel_rfl) (TriQ.next (Tri.seq (Tri.seq (Tri.region ?_))))
  refine TriL.segK (k' := 2) (fr' := [(1, .int .i64 (root)), (7, m), (16, .bool true)]) (obl := []) [o_, o_] [1, 7, 16] (fun _ _ => by kernel_rfl) trivial ?_
  refine TriL.nil (by kernel_rfl) (TriQ.next ?_)
  refine Tri.condT (fun _ => by kernel_rfl) ?_
  refine Tri.seq (Tri.region ?_)
  refine TriL.segK (k' := 3) (fr' := [(4, .map none), (5, .pointer none), (6, .int .i64 140)]) (obl := []) [o_, o_, o_] [4, 5, 6] (fun _ _ => by kernel_rfl) trivial ?_
  refine TriL.nil (by kernel_rfl) (TriQ.next (Tri.ret (TriQ.passRet ?_)))
  exact TriQ.ret (v := .tuple #[.map none, .pointer none, .int .i64 140]) (l := []) (obl := []) [] [0] (fun _ => by kernel_rfl) trivial rfl (by kernel_rfl) (.inr ⟨_, _, by rw [beginC_bad hok], by rw [beginC_bad hok]; decide, rfl⟩)
set_option maxRecDepth 100000 in
set_option maxHeartbeats 4000000 in
theorem sp_refBegin {β : Bs} (A : Option Addr) (c : Nat) (ns : List NodeM) (L : Lay) (hG : GraphAt β A ns L) (hB : GraphB ns 1048576) (root : Int) :
    Spec Try.prog β 46 #[.agg #[.slice A ns.length c], .int .i64 root] [] (fun v l => v = refB ns root ∧ l = []) := by
 refine Spec.enter Try.func46 rfl Try.ntmps46 (Nat.le_of_ble_eq_true rfl) (fun R => ?_)
 refine Tri.seq (Tri.region ?_)
 refine TriL.segN (k' := 3) (fr' := fun b2 => [(1, .int .i64 (root)), (2, .pointer (some ⟨b2, 0, none⟩))]) (hps' := fun b2 => [.abs R, .blk b2 [.slice A (ns.length) (c)] 24]) (obl := fun b2 => []) [o_, o_, o_] [1, 2] [0, 1] (fun _ _ => by kernel_rfl) (fun b2 => trivial) (fun b2 => ?_)
 refine TriL.nil (by kernel_rfl) (TriQ.next (Tri.seq (Tri.seq (Tri.region ?_))))
 refine TriL.segK (k' := 1) (fr' := [(1, .int .i64 (root)), (2, .pointer (some ⟨b2, 0, none⟩)), (7, .agg #[.slice A (ns.length) (c)])]) (obl := [b2 = b2]) [⟨[.at 1], none, none, none, none⟩] [1, 2, 7] (fun _ _ => by kernel_rfl) ⟨rfl, trivial⟩ ?_
 refine TriL.call (f := 16) (args := #[.agg #[.slice A (ns.length) (c)]]) (d := (some 8)) (pre := []) (R := [.abs R, .blk b2 [.slice A (ns.length) (c)] 24]) (pk := [0, 1]) (fun _ => by kernel_rfl) (sp_refCheck A c ns L hG hB.hl hB.hd hB.hwf hB.hnm hB.ht) rfl (by kernel_rfl) ?_
 rintro _ _ ⟨rfl, rfl⟩
 refine TriL.segK (k' := 3) (fr' := [(1, .int .i64 (root)), (2, .pointer (some ⟨b2, 0, none⟩)), (9, .bool (!(decide (((if GraphOk ns then 0 else 140) : Int) = (0 : Int)))))]) (obl := []) [o_] [1, 2, 9] (fun _ _ => by kernel_rfl) trivial ?_
 refine TriL.nil (by kernel_rfl) (TriQ.next ?_)
 refine Tri.condN (p := ((if GraphOk ns then 0 else 140) : Int) = (0 : Int)) (fun _ => by kernel_rfl) (fun h9 => ?_) (fun h9 => ?_)
 ·
  have hok : ¬ GraphOk ns := fun hc => h9 (if_pos hc)
  refine Tri.seq (Tri.region ?_)
  refine TriL.segK (k' := 2) (fr' := [(4, .int .i64 0), (5, .int .i64 140)]) (obl := []) [o_, o_] [4, 5] (fun _ _ => by kernel_rfl) trivial ?_
  refine TriL.nil (by kernel_rfl) (TriQ.next (Tri.ret (TriQ.passRet ?_)))
  exact TriQ.ret (v := .tuple #[.int .i64 0, .int .i64 140]) (l := []) (obl := []) [] [0] (fun _ => by kernel_rfl) trivial rfl (by kernel_rfl) (⟨by rw [refB_bad (ns := ns) (root := root) (by rw [beginC_bad hok]; decide), beginC_bad hok], rfl⟩)
 ·
  have hok : GraphOk ns := Classical.byContradiction (fun hc => absurd (h9.symm.trans (if_neg hc)) (by decide))
  refine Tri.skip (TriQ.next (Tri.seq (Tri.region ?_)))
  refine TriL.segK (k' := 2) (fr' := [(2, .pointer (some ⟨b2, 0, none⟩)), (10, .agg #[.slice A (ns.length) (c)]), (11, .int .i64 (root))]) (obl := [b2 = b2]) [⟨[.at 1], none, none, none, none⟩, o_] [2, 10, 11] (fun _ _ => by kernel_rfl) ⟨rfl, trivial⟩ ?_
  refine TriL.call (f := 29) (args := #[.agg #[.slice A (ns.length) (c)], .int .i64 (root)]) (d := (some 12)) (pre := []) (R := [.abs R, .blk b2 [.slice A (ns.length) (c)] 24]) (pk := [0, 1]) (fun _ => by kernel_rfl) (sp_at A c ns L hG hok.rise hB.hl root) rfl (by kernel_rfl) ?_
  rintro _ _ ⟨rfl, rfl⟩
  refine TriL.segK (k' := 4) (fr' := [(2, .pointer (some ⟨b2, 0, none⟩)), (6, .int .i64 (atI ns root))]) (obl := []) [o_] [2, 6] (fun _ _ => by kernel_rfl) trivial ?_
  refine TriL.nil (by kernel_rfl) (TriQ.next (Tri.seq (Tri.seq (Tri.region ?_))))
  refine TriL.segK (k' := 2) (fr' := [(2, .pointer (some ⟨b2, 0, none⟩)), (6, .int .i64 (atI ns root)), (14, .bool (decide ((atI ns root : Int) < (0 : Int))))]) (obl := []) [o_, o_] [2, 6, 14] (fun _ _ => by kernel_rfl) trivial ?_
  refine TriL.nil (by kernel_rfl) (TriQ.next ?_)
  refine Tri.condP (p := (atI ns root : Int) < (0 : Int)) (fun _ => by kernel_rfl) (fun h14 => ?_) (fun h14 => ?_)
  ·
   have hat : ¬ 0 ≤ atI ns root := by omega
   refine Tri.seq (Tri.region ?_)
   refine TriL.segK (k' := 2) (fr' := [(4, .int .i64 0), (5, .int .i64 141)]) (obl := []) [o_, o_] [4, 5] (fun _ _ => by kernel_rfl) trivial ?_
   refine TriL.nil (by kernel_rfl) (TriQ.next (Tri.ret (TriQ.passRet ?_)))
   exact TriQ.ret (v := .tuple #[.int .i64 0, .int .i64 141]) (l := []) (obl := []) [] [0] (fun _ => by kernel_rfl) trivial rfl (by kernel_rfl) (⟨by rw [refB_bad (ns := ns) (root := root) (by rw [beginC_none hok hat]; decide), beginC_none hok hat], rfl⟩)
  ·
   have hat : 0 ≤ atI ns root := by omega
   have htl := atI_lt hat
   refine Tri.skip (TriQ.next (Tri.seq (Tri.seq (Tri.region ?_))))
   refine TriL.segK (k' := 7) (fr' := [(6, .int .i64 (atI ns root)), (21, .bool (!(decide (((nd ns (tgt ns root)).kind : Int) = (2 : Int)))))]) (obl := [(Rd β ⟨(blkOf A), offOf A + (tgt ns root) * 10 + 1, none⟩ (.int .i64 ((nd ns (tgt ns root)).kind))), atI ns root = (((tgt ns root) : Nat) : Int), (tgt ns root) < ns.length, (⟨(blkOf A), offOf A, none⟩ : Addr).spot = none, (A : Option Addr) = some ⟨(blkOf A), offOf A, none⟩, b2 = b2]) [o_, ⟨[.at 1], none, none, none, none⟩, o_, ⟨[], some (tgt ns root), none, some ⟨(blkOf A), offOf A, none⟩, none⟩, o_, ⟨[.old (.int .i64 ((nd ns (tgt ns root)).kind))], none, none, none, none⟩, o_] [6, 21] (fun _ _ => by kernel_rfl) ⟨GraphAt.rd hG (i := (tgt ns root)) (by omega) (j := 1) rfl, htl.2.2, by omega, rfl, GraphAt.hd hG (i := (tgt ns root)) (by omega), rfl, trivial⟩ ?_
   refine TriL.nil (by kernel_rfl) (TriQ.next ?_)
   refine Tri.condN (p := ((nd ns (tgt ns root)).kind : Int) = (2 : Int)) (fun _ => by kernel_rfl) (fun h21 => ?_) (fun h21 => ?_)
   ·
    refine Tri.seq (Tri.region ?_)
    refine TriL.segK (k' := 2) (fr' := [(4, .int .i64 0), (5, .int .i64 173)]) (obl := []) [o_, o_] [4, 5] (fun _ _ => by kernel_rfl) trivial ?_
    refine TriL.nil (by kernel_rfl) (TriQ.next (Tri.ret (TriQ.passRet ?_)))
    exact TriQ.ret (v := .tuple #[.int .i64 0, .int .i64 173]) (l := []) (obl := []) [] [0] (fun _ => by kernel_rfl) trivial rfl (by kernel_rfl) (⟨by rw [refB_bad (ns := ns) (root := root) (by rw [beginC_kind hok hat h21]; decide), beginC_kind hok hat h21], rfl⟩)
   ·
    refine Tri.skip (TriQ.next (Tri.seq (Tri.region ?_)))
    refine TriL.segK (k' := 3) (fr' := [(4, .int .i64 (atI ns root)), (5, .int .i64 0)]) (obl := []) [o_, o_, o_] [4, 5] (fun _ _ => by kernel_rfl) trivial ?_
    refine TriL.nil (by kernel_rfl) (TriQ.next (Tri.ret ?_))
    exact TriQ.ret (v := .tuple #[.int .i64 (atI ns root), .int .i64 0]) (l := []) (obl := []) [] [0] (fun _ => by kernel_rfl) trivial rfl (by kernel_rfl) (⟨by rw [refB_ok (beginC_ok hok hat h21), htl.2.2], rfl⟩)
end Go.Proofs.Ytjpdcppdoonmdaa
end
/- part GK. PROVED HERE: lines as plain data; what Tree answers. CONDITIONS: none. -/
section
namespace Go.Proofs.Ytjpdcppdoonmdaa
open Go.RowKit Go.Maps
structure LineM where
  path : ByteArray
  kind : Int
  mode : Int
  uid : Int
  gid : Int
  sec : Int
  nano : Int
  data : List UInt8
  target : ByteArray
  peer : ByteArray
deriving Inhabited, DecidableEq
structure LayL where
  dA : Nat → Option Addr
  dC : Nat → Nat
def ln (ls : List LineM) (i : Nat) : LineM := ls.getD i default
def lineV (A : Option Addr) (c : Nat) (l : LineM) : List Value :=
  [.string l.path, .int .i64 l.kind, .int .i64 l.mode, .int .i64 l.uid, .int .i64 l.gid, .int .i64 l.sec, .int .i64 l.nano, .slice A l.data.length c, .string l.target, .string l.peer]
/-- a line of a node's, in the making -/
def lvT (n : NodeM) (p : ByteArray) (A : Option Addr) (l c : Nat) (t q : ByteArray) : List Value :=
  [.string p, .int .i64 n.kind, .int .i64 n.mode, .int .i64 n.uid, .int .i64 n.gid, .int .i64 n.sec, .int .i64 n.nano, .slice A l c, .string t, .string q]
def linesV (M : LayL) (ls : List LineM) : List Value := flatF (fun i l => lineV (M.dA i) (M.dC i) l) 0 ls
theorem linesV_len (M : LayL) (ls : List LineM) : (linesV M ls).length = ls.length * 10 := flatF_len (s := 10) (fun _ _ => rfl) ls 0
def LayL.put (M : LayL) (k : Nat) (A : Option Addr) (c : Nat) : LayL := ⟨fun i => if i = k then A else M.dA i, fun i => if i = k then c else M.dC i⟩
def LinesIn (β : Bs) (ls : List LineM) (M : LayL) : Prop := ∀ i, i < ls.length → BytesAt β (M.dA i) (ln ls i).data
structure LinesAt (β : Bs) (A : Option Addr) (ls : List LineM) (M : LayL) : Prop where
  row : RowB β A (linesV M ls)
  data : LinesIn β ls M
section lines
variable {β β' : Bs} {A : Option Addr} {ls : List LineM} {M : LayL}
theorem LinesIn.le (h : LinesIn β ls M) (hle : β.le β') : LinesIn β' ls M := fun i hi => (h i hi).le hle
theorem LinesAt.le (h : LinesAt β A ls M) (hle : β.le β') : LinesAt β' A ls M := ⟨h.row.le hle, LinesIn.le h.data hle⟩
theorem LinesIn.nil : LinesIn β [] M := fun i hi => absurd hi (Nat.not_lt_zero i)
theorem ln_last (ls : List LineM) (l : LineM) : ln (ls ++ [l]) ls.length = l := by simp [ln]
theorem ln_init {i : Nat} (ls : List LineM) (l : LineM) (h : i < ls.length) : ln (ls ++ [l]) i = ln ls i := by
  unfold ln
  rw [List.getD_eq_getElem?_getD, List.getD_eq_getElem?_getD, List.getElem?_append_left h]
theorem LinesIn.snoc (h : LinesIn β ls M) {l : LineM} {B : Option Addr} {c : Nat} (hB : BytesAt β B l.data) : LinesIn β (ls ++ [l]) (M.put ls.length B c) := fun i hi => by
  by_cases e : i = ls.length
  · subst e; rw [ln_last]; simpa [LayL.put] using hB
  · have hi : i < ls.length := by simp at hi; omega
    rw [ln_init _ _ hi]
    simpa [LayL.put, e] using h i hi
theorem linesV_snoc (l : LineM) (B : Option Addr) (c : Nat) : linesV M ls ++ lineV B c l = linesV (M.put ls.length B c) (ls ++ [l]) := by
  rw [linesV, linesV, flatF_snoc, Nat.zero_add]
  have e : flatF (fun i l => lineV ((M.put ls.length B c).dA i) ((M.put ls.length B c).dC i) l) 0 ls = flatF (fun i l => lineV (M.dA i) (M.dC i) l) 0 ls := flatF_congr _ _ (fun i a hi => by
    have := len_of_some hi
    have hne : ¬ 0 + i = ls.length := by omega
    simp only [LayL.put, if_neg hne])
  rw [e]
  simp [LayL.put]
theorem LinesAt.get (h : LinesAt β A ls M) {i : Nat} (hi : i < ls.length) {j : Nat} {v : Value} (hv : (lineV (M.dA i) (M.dC i) (ln ls i))[j]? = some v) : A = some ⟨blkOf A, offOf A, none⟩ ∧ Rd β ⟨blkOf A, offOf A + i * 10 + j, none⟩ v := by
  have hj : j < 10 := len_of_some hv
  have h1 := flatF_get (f := fun i l => lineV (M.dA i) (M.dC i) l) (s := 10) (fun _ _ => rfl) ls 0 i j _ (getD_some (x := default) hi) hj
  rw [Nat.zero_add] at h1
  have := h.row (i * 10 + j) v (h1.trans hv)
  rw [← Nat.add_assoc] at this
  exact this
theorem LinesAt.hd (h : LinesAt β A ls M) {i : Nat} (hi : i < ls.length) : A = some ⟨blkOf A, offOf A, none⟩ := (h.get hi (j := 0) rfl).1
theorem LinesAt.rd (h : LinesAt β A ls M) {i : Nat} (hi : i < ls.length) {j : Nat} {v : Value} (hv : (lineV (M.dA i) (M.dC i) (ln ls i))[j]? = some v) : Rd β ⟨blkOf A, offOf A + i * 10 + j, none⟩ v := (h.get hi hv).2
end lines
theorem ran_timeEq {w : World} {o : Oper} {ev : Operand → Value} {x y : Operand} {a b c d : Int} (ho : o.op = .binOp .eql 28 x y 28) (hx : ev x = .agg #[.int .i64 a, .int .i64 b]) (hy : ev y = .agg #[.int .i64 c, .int .i64 d]) :
    Ran Try.prog ev o w (.bool (decide (a = c ∧ b = d))) w := by
  obtain ⟨dst, op, type, pos, after, guard⟩ := o
  cases ho
  refine .inl ?_
  simp only [execOp, hx, hy]
  simp [go_sem]
  by_cases h1 : a = c <;> by_cases h2 : b = d <;> simp [h1, h2]
theorem lineEq {l m : LineM} (h1 : l.path = m.path) (h2 : l.kind = m.kind) (h3 : l.mode = m.mode) (h4 : l.uid = m.uid) (h5 : l.gid = m.gid) (h6 : l.sec = m.sec ∧ l.nano = m.nano) (h7 : l.target = m.target) (h8 : l.peer = m.peer) (h9 : l.data = m.data) : l = m := by
  cases l; cases m; simp_all
/-! ### what Tree answers -/
structure TS where
  out : List LineM
  fst : Nat → ByteArray
  sum : Nat
  cnt : Nat
def emptyB : ByteArray := ⟨#[]⟩
def lineOf (n : NodeM) (p peer : ByteArray) : LineM :=
  if peer = ⟨#[]⟩ then ⟨p, n.kind, n.mode, n.uid, n.gid, n.sec, n.nano, n.data, n.target, ⟨#[]⟩⟩ else ⟨p, n.kind, n.mode, n.uid, n.gid, n.sec, n.nano, [], ⟨#[]⟩, peer⟩
def push (ns : List NodeM) (k : Nat) (p : ByteArray) (s : TS) : TS :=
  if s.fst k = ⟨#[]⟩ then ⟨s.out ++ [lineOf (nd ns k) p (s.fst k)], fun j => if j = k then p else s.fst j, s.sum + p.size, s.cnt + 1⟩
  else ⟨s.out ++ [lineOf (nd ns k) p (s.fst k)], s.fst, s.sum + p.size, s.cnt⟩
theorem push_sum (ns : List NodeM) (k : Nat) (p : ByteArray) (s : TS) : (push ns k p s).sum = s.sum + p.size := by unfold push; split <;> rfl
theorem push_out (ns : List NodeM) (k : Nat) (p : ByteArray) (s : TS) : (push ns k p s).out = s.out ++ [lineOf (nd ns k) p (s.fst k)] := by unfold push; split <;> rfl
theorem push_len (ns : List NodeM) (k : Nat) (p : ByteArray) (s : TS) : (push ns k p s).out.length = s.out.length + 1 := by rw [push_out]; simp
def slash : ByteArray := ⟨#[47]⟩
def below (top : Nat) (p name : ByteArray) : ByteArray := if top = 0 then name else p ++ ⟨#[47]⟩ ++ name
def foldE {α : Type} (g : α → TS → Option TS) : List α → TS → Option TS
  | [], s => some s
  | e :: r, s => (g e s).bind (foldE g r)
def addF (ns : List NodeM) : Nat → Nat → ByteArray → TS → Option TS
  | 0, _, _, _ => none
  | f + 1, k, p, s => if 4194304 < s.sum + p.size then none else foldE (fun e s' => addF ns f (tgt ns e.id) (below s.out.length p e.name) s') (nd ns k).ents (push ns k p s)
theorem foldE_append {α : Type} {g : α → TS → Option TS} : ∀ {a b : List α} {s : TS}, foldE g (a ++ b) s = (foldE g a s).bind (foldE g b)
  | [], _, _ => rfl
  | e :: r, b, s => by
    rw [List.cons_append, foldE, foldE, Option.bind_assoc]
    congr 1
    funext s'
    exact foldE_append
theorem foldE_map {α γ : Type} {g : α → TS → Option TS} {h : γ → α} : ∀ {l : List γ} {s : TS}, foldE g (l.map h) s = foldE (fun e => g (h e)) l s
  | [], _ => rfl
  | e :: r, s => by
    rw [List.map_cons, foldE, foldE]
    congr 1
    funext s'
    exact foldE_map
/-- what is held of a state -/
structure TOk (s : TS) : Prop where
  out : s.out.length ≤ s.sum
  cnt : s.cnt ≤ s.out.length
  sum : s.sum ≤ 4194304
theorem TOk.push {ns : List NodeM} {k : Nat} {p : ByteArray} {s : TS} (h : TOk s) (hp : 1 ≤ p.size) (hs : ¬ 4194304 < s.sum + p.size) : TOk (push ns k p s) := by
  refine ⟨?_, ?_, ?_⟩
  · rw [push_len, push_sum]; have := h.out; omega
  · rw [push_len]
    have := h.cnt
    unfold Go.Proofs.Ytjpdcppdoonmdaa.push
    split
    · show s.cnt + 1 ≤ _; omega
    · show s.cnt ≤ _; omega
  · rw [push_sum]; omega
theorem below_size {top : Nat} {p n : ByteArray} (h : 1 ≤ n.size) : 1 ≤ (below top p n).size := by
  unfold below
  split
  · exact h
  · rw [ByteArray.size_append]; omega
/-- every entry's name has a letter -/
def Named (ns : List NodeM) : Prop := ∀ i, i < ns.length → ∀ j, j < (nd ns i).ents.length → 1 ≤ (ent ns i j).name.size ∧ (ent ns i j).name.size ≤ 255 ∧ tgt ns (ent ns i j).id < ns.length
theorem GraphOk.named {ns : List NodeM} (h : GraphOk ns) : Named ns := fun i hi j hj => ⟨(h.ents i hi j hj).good.1, (h.ents i hi j hj).good.2.1, (atI_lt (h.ents i hi j hj).at_).1⟩
theorem mem_en {es : List EntM} {e : EntM} (h : e ∈ es) : ∃ j, j < es.length ∧ e = en es j := by
  obtain ⟨j, hj, rfl⟩ := List.getElem_of_mem h
  refine ⟨j, hj, ?_⟩
  unfold en
  rw [List.getD_eq_getElem?_getD, List.getElem?_eq_getElem hj]
  rfl
theorem foldE_inv {α : Type} {g : α → TS → Option TS} {I : TS → Prop} : ∀ {l : List α} {s s' : TS}, (∀ e ∈ l, ∀ s s', I s → g e s = some s' → I s') → I s → foldE g l s = some s' → I s'
  | [], s, s', _, hi, h => by cases h; exact hi
  | e :: r, s, s', hg, hi, h => by
    rw [foldE] at h
    cases h1 : g e s with
    | none => rw [h1] at h; cases h
    | some s1 =>
      rw [h1] at h
      exact foldE_inv (fun e' he' => hg e' (List.mem_cons_of_mem _ he')) (hg e (List.mem_cons_self ..) s s1 hi h1) h
/-- a state behind another: more is told, and what was told stands -/
structure Behind (s s' : TS) : Prop where
  ok : TOk s'
  sum : s.sum ≤ s'.sum
  len : s.out.length ≤ s'.out.length
theorem Behind.trans {a b c : TS} (h : Behind a b) (g : Behind b c) : Behind a c := ⟨g.ok, Nat.le_trans h.sum g.sum, Nat.le_trans h.len g.len⟩
theorem below_le {top : Nat} {p n : ByteArray} (hp : p.size ≤ 4194304) (hn : n.size ≤ 255) : (below top p n).size ≤ 8388608 := by
  unfold below
  split
  · omega
  · rw [ByteArray.size_append, ByteArray.size_append]
    have : (⟨#[47]⟩ : ByteArray).size = 1 := rfl
    omega
theorem addF_behind {ns : List NodeM} (hn : Named ns) : ∀ (f k : Nat) (p : ByteArray) (s s' : TS), k < ns.length → 1 ≤ p.size → TOk s → addF ns f k p s = some s' → Behind s s' ∧ s.sum < s'.sum ∧ s.out.length < s'.out.length
  | 0, _, _, _, _, _, _, _, h => by cases h
  | f + 1, k, p, s, s', hk, hp, hs, h => by
    rw [addF] at h
    split at h
    · cases h
    · rename_i h0
      have hpush := hs.push (ns := ns) (k := k) hp h0
      have key := foldE_inv (I := fun x => Behind (push ns k p s) x) (fun e he a b ha hab => by
        obtain ⟨j, hj, rfl⟩ := mem_en he
        obtain ⟨h1, h2, h3⟩ := hn k hk j hj
        obtain ⟨h4, _, _⟩ := addF_behind hn f _ _ a b h3 (below_size h1) ha.ok hab
        exact ⟨h4.ok, Nat.le_trans ha.sum h4.sum, Nat.le_trans ha.len h4.len⟩) ⟨hpush, Nat.le_refl _, Nat.le_refl _⟩ h
      have h1 := key.sum
      have h2 := key.len
      rw [push_sum] at h1
      rw [push_len] at h2
      exact ⟨⟨key.ok, by omega, by omega⟩, by omega, by omega⟩
def TS0 : TS := ⟨[], fun _ => ⟨#[]⟩, 0, 0⟩
def dot : ByteArray := ⟨#[46]⟩
theorem TS0_ok : TOk TS0 := ⟨Nat.le_refl _, Nat.le_refl _, Nat.zero_le _⟩
/-- the lines, and the code -/
noncomputable def treeG (ns : List NodeM) (root : Int) : List LineM × Int :=
  if beginC ns root = 0 then match addF ns 4194305 (tgt ns root) ⟨#[46]⟩ TS0 with
    | some s => (s.out, 0)
    | none => ([], 142)
  else ([], beginC ns root)
theorem treeG_bad {ns : List NodeM} {root : Int} (h : ¬ beginC ns root = 0) : treeG ns root = ([], beginC ns root) := if_neg h
theorem treeG_some {ns : List NodeM} {root : Int} {s : TS} (h : beginC ns root = 0) (h1 : addF ns 4194305 (tgt ns root) ⟨#[46]⟩ TS0 = some s) : treeG ns root = (s.out, 0) := by unfold treeG; rw [if_pos h, h1]
theorem treeG_none {ns : List NodeM} {root : Int} (h : beginC ns root = 0) (h1 : addF ns 4194305 (tgt ns root) ⟨#[46]⟩ TS0 = none) : treeG ns root = ([], 142) := by unfold treeG; rw [if_pos h, h1]
/-! ### the program's map of paths -/
def fpath (ns : List NodeM) (fs : Nat → ByteArray) (z : Int) : Option Value := if 0 ≤ atI ns z ∧ ¬ fs (tgt ns z) = ⟨#[]⟩ then some (.agg #[.string (fs (tgt ns z))]) else none
theorem fpath_zero {ns : List NodeM} : mf (fpath ns TS0.fst) = fun _ => none := by
  rw [← mf_none]
  congr 1
  funext z
  exact if_neg (fun e => e.2 rfl)
theorem atI_self {ns : List NodeM} {k : Nat} (hr : Rising ns) (hk : k < ns.length) : atI ns (nd ns k).id = (k : Int) ∧ tgt ns (nd ns k).id = k := by
  have h := atI_some hr hk (rfl : (nd ns k).id = (nd ns k).id)
  refine ⟨h, ?_⟩
  unfold tgt
  rw [h]
  rfl
theorem fpath_at {ns : List NodeM} {fs : Nat → ByteArray} {k : Nat} (hr : Rising ns) (hk : k < ns.length) (h : ¬ fs k = ⟨#[]⟩) : mf (fpath ns fs) (.int .i64 (nd ns k).id) = some (.agg #[.string (fs k)]) := by
  obtain ⟨h1, h2⟩ := atI_self hr hk
  show fpath ns fs (nd ns k).id = _
  unfold fpath
  rw [if_pos ⟨by omega, by rw [h2]; exact h⟩, h2]
theorem fpath_none {ns : List NodeM} {fs : Nat → ByteArray} {k : Nat} (hr : Rising ns) (hk : k < ns.length) (h : fs k = ⟨#[]⟩) : mf (fpath ns fs) (.int .i64 (nd ns k).id) = none := by
  obtain ⟨h1, h2⟩ := atI_self hr hk
  show fpath ns fs (nd ns k).id = _
  unfold fpath
  rw [if_neg (fun e => e.2 (by rw [h2]; exact h))]
theorem fpath_upd {ns : List NodeM} {s : TS} {k : Nat} {p : ByteArray} (hr : Rising ns) (hk : k < ns.length) (h : s.fst k = ⟨#[]⟩) (hp : 1 ≤ p.size) :
    upd (mf (fpath ns s.fst)) (.int .i64 (nd ns k).id) (some (.agg #[.string p])) = mf (fpath ns (push ns k p s).fst) := by
  obtain ⟨h1, h2⟩ := atI_self hr hk
  rw [mf_upd]
  congr 1
  funext z
  have e : (push ns k p s).fst = fun j => if j = k then p else s.fst j := by unfold push; rw [if_pos h]
  have ek : (push ns k p s).fst k = p := by rw [e]; exact if_pos rfl
  have ej : ∀ j, ¬ j = k → (push ns k p s).fst j = s.fst j := fun j hj => by rw [e]; exact if_neg hj
  unfold fpath
  by_cases e1 : z = (nd ns k).id
  · subst e1
    rw [if_pos rfl, h2, ek, if_pos ⟨by omega, fun e => by rw [e] at hp; exact absurd hp (by decide)⟩]
  · rw [if_neg e1]
    by_cases e2 : 0 ≤ atI ns z
    · have e3 : ¬ tgt ns z = k := fun e3 => e1 (by rw [← (atI_lt e2).2.1, e3])
      rw [ej _ e3]
    · rw [if_neg (fun e => e2 e.1), if_neg (fun e => e2 e.1)]
theorem push_cnt_new {ns : List NodeM} {s : TS} {k : Nat} {p : ByteArray} (hr : Rising ns) (hk : k < ns.length) (h : s.fst k = ⟨#[]⟩) : (if ((mf (fpath ns s.fst)) (.int .i64 (nd ns k).id)).isSome then s.cnt else s.cnt + 1) = (push ns k p s).cnt := by
  rw [fpath_none hr hk h]
  unfold push
  rw [if_pos h]
  rfl
theorem push_old {ns : List NodeM} {s : TS} {k : Nat} {p : ByteArray} (h : ¬ s.fst k = ⟨#[]⟩) : (push ns k p s).fst = s.fst ∧ (push ns k p s).cnt = s.cnt := by
  unfold push; rw [if_neg h]; exact ⟨rfl, rfl⟩
theorem line_new (n : NodeM) (p : ByteArray) {x : ByteArray} (h : x = ⟨#[]⟩) : lineOf n p x = ⟨p, n.kind, n.mode, n.uid, n.gid, n.sec, n.nano, n.data, n.target, ⟨#[]⟩⟩ := if_pos h
theorem line_old (n : NodeM) (p : ByteArray) {x : ByteArray} (h : ¬ x = ⟨#[]⟩) : lineOf n p x = ⟨p, n.kind, n.mode, n.uid, n.gid, n.sec, n.nano, [], ⟨#[]⟩, x⟩ := if_neg h
theorem foldE_drop {es : List EntM} {j : Nat} {g : EntM → TS → Option TS} {s : TS} (hj : j < es.length) : foldE g (es.drop j) s = (g (en es j) s).bind (foldE g (es.drop (j + 1))) := by
  rw [List.drop_eq_getElem_cons hj, foldE]
  have : en es j = es[j] := by
    unfold en
    rw [List.getD_eq_getElem?_getD, List.getElem?_eq_getElem hj]
    rfl
  rw [this]
theorem foldE_end {es : List EntM} {j : Nat} {g : EntM → TS → Option TS} {s : TS} (hj : es.length ≤ j) : foldE g (es.drop j) s = some s := by
  rw [List.drop_eq_nil_of_le hj]; rfl
end Go.Proofs.Ytjpdcppdoonmdaa
end
/- part GLine. PROVED HERE: data are cloned, lines are compared CONDITIONS: as the theorems say. Printed by a program of this repo (wip/v). -/
section
namespace Go.Proofs.Ytjpdcppdoonmdaa
open Go.RowKit
attribute [local irreducible] TriL TriLQ Tri TriQ
set_option maxRecDepth 100000 in
set_option maxHeartbeats 4000000 in
theorem sp_cloneNil {β : Bs} (c : Nat) : SpecB Try.prog β 50 #[.slice none 0 c] [] (fun β' v l => ∃ B cap, v = .slice B 0 cap ∧ l = [] ∧ BytesAt β' B []) := by
 refine SpecB.enter Try.func50 rfl Try.ntmps50 (Nat.le_of_ble_eq_true rfl) (fun hle0 R => ?_)
 refine Tri.seq (Tri.region ?_)
 refine TriL.segK (k' := 1) (fr' := [(0, .slice none (0) (c))]) (obl := []) [o_] [0] (fun _ _ => by kernel_rfl) trivial ?_
 refine TriL.nil (by kernel_rfl) (TriQ.next (Tri.seq (Tri.seq (Tri.region ?_))))
 refine TriL.segK (k' := 2) (fr' := [(0, .slice none (0) (c)), (4, .bool true)]) (obl := []) [o_, o_] [0, 4] (fun _ _ => by kernel_rfl) trivial ?_
 refine TriL.nil (by kernel_rfl) (TriQ.next ?_)
 refine Tri.condT (fun _ => by kernel_rfl) ?_
 refine Tri.seq (Tri.region ?_)
 refine TriL.segK (k' := 1) (fr' := [(2, .slice none (0) (0))]) (obl := []) [o_] [2] (fun _ _ => by kernel_rfl) trivial ?_
 refine TriL.nil (by kernel_rfl) (TriQ.next (Tri.ret (TriQ.passRet ?_)))
 exact TriQ.retB (v := .slice none (0) (0)) (l := []) (obl := []) [] [0] hle0 (fun _ => by kernel_rfl) trivial rfl (by kernel_rfl) (⟨none, 0, rfl, rfl, RowB.nil⟩)
set_option maxRecDepth 100000 in
set_option maxHeartbeats 4000000 in
theorem sp_cloneSome {β : Bs} (a : Addr) (c : Nat) (d : List UInt8) (hA : BytesAt β (some a) d) (hl : d.length ≤ 1048576) : SpecB Try.prog β 50 #[.slice (some a) d.length c] [] (fun β' v l => ∃ B cap, v = .slice B d.length cap ∧ l = [] ∧ BytesAt β' B d) := by
 refine SpecB.enter Try.func50 rfl Try.ntmps50 (Nat.le_of_ble_eq_true rfl) (fun hle0 R => ?_)
 refine Tri.seq (Tri.region ?_)
 refine TriL.segK (k' := 1) (fr' := [(0, .slice (some a) (d.length) (c))]) (obl := []) [o_] [0] (fun _ _ => by kernel_rfl) trivial ?_
 refine TriL.nil (by kernel_rfl) (TriQ.next (Tri.seq (Tri.seq (Tri.region ?_))))
 refine TriL.segK (k' := 2) (fr' := [(0, .slice (some a) (d.length) (c)), (4, .bool false)]) (obl := []) [o_, o_] [0, 4] (fun _ _ => by kernel_rfl) trivial ?_
 refine TriL.nil (by kernel_rfl) (TriQ.next ?_)
 refine Tri.condF (fun _ => by kernel_rfl) ?_
 refine Tri.skip (TriQ.next (Tri.seq (Tri.region ?_)))
 refine TriL.segN (k' := 1) (fr' := fun b1 => [(0, .slice (some a) (d.length) (c)), (5, .slice (some ⟨b1, 0, none⟩) (0) (0))]) (hps' := fun b1 => [.abs R, .blk b1 [] 5]) (obl := fun b1 => []) [o_] [0, 5] [0, 1] (fun _ _ => by kernel_rfl) (fun b1 => trivial) (fun b1 => ?_)
 refine TriL.mem (fun w hS => hS.toRow (i := 1) (b := b1) (cs := []) (e := 5) 1 0 (by kernel_rfl) rfl (by decide)) ?_
 refine TriL.segK (k' := 2) (fr' := [(5, .slice (some ⟨b1, 0, none⟩) (0) (0)), (6, .slice (some a) (d.length) (c))]) (obl := []) [o_] [5, 6] (fun _ _ => by kernel_rfl) trivial ?_
 refine TriL.append 1 (d := (some 7)) (t := 29) (e := 5) (z := .int .u8 0) (size := 1) (bytes := 1) (n := 0) (cap := 0) (A := some ⟨b1, 0, none⟩) (xs := []) (s := (.tmp 5)) (x := (.tmp 6)) (ats := #[29, 29]) (A' := (some a)) (m := d.length) (c' := c) (news := (bytesV d)) (fun _ => by kernel_rfl) rfl (by kernel_rfl) (fun _ => by kernel_rfl) (fun _ => by kernel_rfl) Try.underlying29 (by kernel_rfl) rfl (by decide) (by rw [bytesV_len, Nat.mul_one]) (oneCell_bytes d) (hA.src) (by unfold maxLen; omega) (by omega) (fun A2 c3 => ?_)
 refine TriL.partEq 1 (p := .abs (RowA 5 1 A2 (0 + d.length) c3 ([] ++ (bytesV d)))) (p' := .abs (RowA 5 1 A2 d.length c3 (bytesV d))) (by kernel_rfl) (by rw [Nat.zero_add, List.nil_append]) ?_
 refine TriL.slot 7 (.slice A2 (0 + d.length) (c3)) (.slice A2 (d.length) (c3)) (fun _ => by kernel_rfl) (by rw [Nat.zero_add]) ?_
 refine TriL.rebase (Φ := fun β' => BytesAt β' A2 d) 1 [0] (hps' := [.abs R]) rfl rfl (by kernel_rfl) (fun F w h β' h1 h2 => RowB.of_row h h1 h2) (fun β1 hle_β1 hB => ?_)
 replace hA := hA.le hle_β1
 replace hle0 := hle0.trans hle_β1
 refine TriL.segK (k' := 4) (fr' := [(2, .slice A2 (d.length) (c3))]) (obl := []) [o_] [2] (fun _ _ => by kernel_rfl) trivial ?_
 refine TriL.nil (by kernel_rfl) (TriQ.next (Tri.ret ?_))
 exact TriQ.retB (v := .slice A2 (d.length) (c3)) (l := []) (obl := []) [] [0] hle0 (fun _ => by kernel_rfl) trivial rfl (by kernel_rfl) (⟨A2, c3, rfl, rfl, hB⟩)
theorem sp_clone {β : Bs} (A : Option Addr) (c : Nat) (d : List UInt8) (hA : BytesAt β A d) (hl : d.length ≤ 1048576) : SpecB Try.prog β 50 #[.slice A d.length c] [] (fun β' v l => ∃ B cap, v = .slice B d.length cap ∧ l = [] ∧ BytesAt β' B d) := by
  cases A with
  | some a => exact sp_cloneSome a c d hA hl
  | none =>
    cases d with
    | nil => exact sp_cloneNil c
    | cons b r => have h := BytesAt.hd hA (j := 0) (by simp); cases h
set_option maxRecDepth 100000 in
set_option maxHeartbeats 4000000 in
theorem sp_sameLine {β : Bs} (l m : LineM) (dA dB : Option Addr) (dC dD : Nat) (hD : BytesAt β dA l.data) (hD2 : BytesAt β dB m.data) (hl1 : l.data.length ≤ 1048576) :
    Spec Try.prog β 49 #[.agg #[.string l.path, .int .i64 (l.kind), .int .i64 (l.mode), .int .i64 (l.uid), .int .i64 (l.gid), .int .i64 (l.sec), .int .i64 (l.nano), .slice dA (l.data.length) (dC), .string l.target, .string l.peer], .agg #[.string m.path, .int .i64 (m.kind), .int .i64 (m.mode), .int .i64 (m.uid), .int .i64 (m.gid), .int .i64 (m.sec), .int .i64 (m.nano), .slice dB (m.data.length) (dD), .string m.target, .string m.peer]] [] (fun v k => v = .bool (decide (l = m)) ∧ k = []) := by
 refine Spec.enter Try.func49 rfl Try.ntmps49 (Nat.le_of_ble_eq_true rfl) (fun R => ?_)
 refine Tri.seq (Tri.region ?_)
 refine TriL.segN (k' := 1) (fr' := fun b4 => [(1, .agg #[.string m.path, .int .i64 (m.kind), .int .i64 (m.mode), .int .i64 (m.uid), .int .i64 (m.gid), .int .i64 (m.sec), .int .i64 (m.nano), .slice dB (m.data.length) (dD), .string m.target, .string m.peer]), (2, .pointer (some ⟨b4, 0, none⟩))]) (hps' := fun b4 => [.abs R, .blk b4 [.string l.path, .int .i64 (l.kind), .int .i64 (l.mode), .int .i64 (l.uid), .int .i64 (l.gid), .int .i64 (l.sec), .int .i64 (l.nano), .slice dA (l.data.length) (dC), .string l.target, .string l.peer] 51]) (obl := fun b4 => []) [o_] [1, 2] [0, 1] (fun _ _ => by kernel_rfl) (fun b4 => trivial) (fun b4 => ?_)
 refine TriL.segN (k' := 3) (fr' := fun b5 => [(2, .pointer (some ⟨b4, 0, none⟩)), (3, .pointer (some ⟨b5, 0, none⟩))]) (hps' := fun b5 => [.abs R, .blk b4 [.string l.path, .int .i64 (l.kind), .int .i64 (l.mode), .int .i64 (l.uid), .int .i64 (l.gid), .int .i64 (l.sec), .int .i64 (l.nano), .slice dA (l.data.length) (dC), .string l.target, .string l.peer] 51, .blk b5 [.string m.path, .int .i64 (m.kind), .int .i64 (m.mode), .int .i64 (m.uid), .int .i64 (m.gid), .int .i64 (m.sec), .int .i64 (m.nano), .slice dB (m.data.length) (dD), .string m.target, .string m.peer] 51]) (obl := fun b5 => []) [o_, o_] [2, 3] [0, 1, 2] (fun _ _ => by kernel_rfl) (fun b5 => trivial) (fun b5 => ?_)
 refine TriL.nil (by kernel_rfl) (TriQ.next (Tri.seq (Tri.region ?_)))
 refine TriL.segK (k' := 6) (fr' := [(2, .pointer (some ⟨b4, 0, none⟩)), (3, .pointer (some ⟨b5, 0, none⟩)), (10, .bool (decide ((l.path : ByteArray) = m.path)))]) (obl := [(Value.bool ((l.path : ByteArray).toList == (m.path : ByteArray).toList)) = (.bool (decide ((l.path : ByteArray) = m.path))), b5 = b5, b4 = b4]) [o_, ⟨[.at 1], none, none, none, none⟩, o_, ⟨[.at 2], none, none, none, none⟩, ⟨[], none, none, none, some (.bool (decide ((l.path : ByteArray) = m.path)))⟩, o_] [2, 3, 10] (fun _ _ => by kernel_rfl) ⟨strEqV _ _, rfl, rfl, trivial⟩ ?_
 refine TriL.slotP 10 ((l.path : ByteArray) = m.path) (fun _ => by kernel_rfl) (fun h10 => ?_) (fun h10 => ?_)
 ·
  refine TriL.segK (k' := 13) (fr' := [(2, .pointer (some ⟨b4, 0, none⟩)), (3, .pointer (some ⟨b5, 0, none⟩)), (17, .bool (decide ((l.kind : Int) = (m.kind : Int))))]) (obl := [b5 = b5, b4 = b4]) [o_, ⟨[.at 1], none, none, none, none⟩, o_, ⟨[.at 2], none, none, none, none⟩, o_, o_, o_] [2, 3, 17] (fun _ _ => by kernel_rfl) ⟨rfl, rfl, trivial⟩ ?_
  refine TriL.slotP 17 ((l.kind : Int) = (m.kind : Int)) (fun _ => by kernel_rfl) (fun h17 => ?_) (fun h17 => ?_)
  ·
   refine TriL.segK (k' := 20) (fr' := [(2, .pointer (some ⟨b4, 0, none⟩)), (3, .pointer (some ⟨b5, 0, none⟩)), (24, .bool (decide ((l.mode : Int) = (m.mode : Int))))]) (obl := [b5 = b5, b4 = b4]) [o_, ⟨[.at 1], none, none, none, none⟩, o_, ⟨[.at 2], none, none, none, none⟩, o_, o_, o_] [2, 3, 24] (fun _ _ => by kernel_rfl) ⟨rfl, rfl, trivial⟩ ?_
   refine TriL.slotP 24 ((l.mode : Int) = (m.mode : Int)) (fun _ => by kernel_rfl) (fun h24 => ?_) (fun h24 => ?_)
   ·
    refine TriL.segK (k' := 27) (fr' := [(2, .pointer (some ⟨b4, 0, none⟩)), (3, .pointer (some ⟨b5, 0, none⟩)), (31, .bool (decide ((l.uid : Int) = (m.uid : Int))))]) (obl := [b5 = b5, b4 = b4]) [o_, ⟨[.at 1], none, none, none, none⟩, o_, ⟨[.at 2], none, none, none, none⟩, o_, o_, o_] [2, 3, 31] (fun _ _ => by kernel_rfl) ⟨rfl, rfl, trivial⟩ ?_
    refine TriL.slotP 31 ((l.uid : Int) = (m.uid : Int)) (fun _ => by kernel_rfl) (fun h31 => ?_) (fun h31 => ?_)
    ·
     refine TriL.segK (k' := 34) (fr' := [(2, .pointer (some ⟨b4, 0, none⟩)), (3, .pointer (some ⟨b5, 0, none⟩)), (38, .bool (decide ((l.gid : Int) = (m.gid : Int))))]) (obl := [b5 = b5, b4 = b4]) [o_, ⟨[.at 1], none, none, none, none⟩, o_, ⟨[.at 2], none, none, none, none⟩, o_, o_, o_] [2, 3, 38] (fun _ _ => by kernel_rfl) ⟨rfl, rfl, trivial⟩ ?_
     refine TriL.slotP 38 ((l.gid : Int) = (m.gid : Int)) (fun _ => by kernel_rfl) (fun h38 => ?_) (fun h38 => ?_)
     ·
      refine TriL.segK (k' := 38) (fr' := [(2, .pointer (some ⟨b4, 0, none⟩)), (3, .pointer (some ⟨b5, 0, none⟩)), (38, .bool true), (40, .agg #[.int .i64 (l.sec), .int .i64 (l.nano)]), (42, .agg #[.int .i64 (m.sec), .int .i64 (m.nano)])]) (obl := [b5 = b5, b5 = b5, b4 = b4, b4 = b4]) [o_, ⟨[.at 1, .at 1], none, none, none, none⟩, o_, ⟨[.at 2, .at 2], none, none, none, none⟩] [2, 3, 38, 40, 42] (fun _ _ => by kernel_rfl) ⟨rfl, rfl, rfl, rfl, trivial⟩ ?_
      refine TriL.run1 (d := (some 43)) (op := .binOp .eql 28 (.tmp 40) (.tmp 42) 28) (v := .bool (decide ((l.sec : Int) = (m.sec : Int) ∧ (l.nano : Int) = (m.nano : Int)))) (fun _ => by kernel_rfl) (fun o junk w ho hS => ⟨w, ran_timeEq ho (by kernel_rfl) (by kernel_rfl), hS⟩) ?_
      refine TriL.segK (k' := 41) (fr' := [(2, .pointer (some ⟨b4, 0, none⟩)), (3, .pointer (some ⟨b5, 0, none⟩)), (45, .bool (decide ((l.sec : Int) = (m.sec : Int) ∧ (l.nano : Int) = (m.nano : Int))))]) (obl := []) [o_, o_] [2, 3, 45] (fun _ _ => by kernel_rfl) trivial ?_
      refine TriL.slotP 45 ((l.sec : Int) = (m.sec : Int) ∧ (l.nano : Int) = (m.nano : Int)) (fun _ => by kernel_rfl) (fun h45 => ?_) (fun h45 => ?_)
      ·
       refine TriL.segK (k' := 48) (fr' := [(2, .pointer (some ⟨b4, 0, none⟩)), (3, .pointer (some ⟨b5, 0, none⟩)), (52, .bool (decide ((l.target : ByteArray) = m.target)))]) (obl := [(Value.bool ((l.target : ByteArray).toList == (m.target : ByteArray).toList)) = (.bool (decide ((l.target : ByteArray) = m.target))), b5 = b5, b4 = b4]) [o_, ⟨[.at 1], none, none, none, none⟩, o_, ⟨[.at 2], none, none, none, none⟩, ⟨[], none, none, none, some (.bool (decide ((l.target : ByteArray) = m.target)))⟩, o_, o_] [2, 3, 52] (fun _ _ => by kernel_rfl) ⟨strEqV _ _, rfl, rfl, trivial⟩ ?_
       refine TriL.slotP 52 ((l.target : ByteArray) = m.target) (fun _ => by kernel_rfl) (fun h52 => ?_) (fun h52 => ?_)
       ·
        refine TriL.segK (k' := 55) (fr' := [(2, .pointer (some ⟨b4, 0, none⟩)), (3, .pointer (some ⟨b5, 0, none⟩)), (59, .bool (decide ((l.peer : ByteArray) = m.peer)))]) (obl := [(Value.bool ((l.peer : ByteArray).toList == (m.peer : ByteArray).toList)) = (.bool (decide ((l.peer : ByteArray) = m.peer))), b5 = b5, b4 = b4]) [o_, ⟨[.at 1], none, none, none, none⟩, o_, ⟨[.at 2], none, none, none, none⟩, ⟨[], none, none, none, some (.bool (decide ((l.peer : ByteArray) = m.peer)))⟩, o_, o_] [2, 3, 59] (fun _ _ => by kernel_rfl) ⟨strEqV _ _, rfl, rfl, trivial⟩ ?_
        refine TriL.slotP 59 ((l.peer : ByteArray) = m.peer) (fun _ => by kernel_rfl) (fun h59 => ?_) (fun h59 => ?_)
        ·
         refine TriL.segK (k' := 59) (fr' := [(59, .bool true), (61, .slice dA (l.data.length) (dC)), (63, .slice dB (m.data.length) (dD))]) (obl := [b5 = b5, b4 = b4]) [o_, ⟨[.at 1], none, none, none, none⟩, o_, ⟨[.at 2], none, none, none, none⟩] [59, 61, 63] (fun _ _ => by kernel_rfl) ⟨rfl, rfl, trivial⟩ ?_
         refine TriL.call (f := 62) (args := #[.slice dA (l.data.length) (dC), .slice dB (m.data.length) (dD)]) (d := (some 64)) (pre := []) (R := [.abs R, .blk b4 [.string l.path, .int .i64 (l.kind), .int .i64 (l.mode), .int .i64 (l.uid), .int .i64 (l.gid), .int .i64 (l.sec), .int .i64 (l.nano), .slice dA (l.data.length) (dC), .string l.target, .string l.peer] 51, .blk b5 [.string m.path, .int .i64 (m.kind), .int .i64 (m.mode), .int .i64 (m.uid), .int .i64 (m.gid), .int .i64 (m.sec), .int .i64 (m.nano), .slice dB (m.data.length) (dD), .string m.target, .string m.peer] 51]) (pk := [0, 1, 2]) (fun _ => by kernel_rfl) (sp_sameBytes dA dB dC dD l.data m.data hD hD2 hl1) rfl (by kernel_rfl) ?_
         rintro _ _ ⟨rfl, rfl⟩
         refine TriL.segK (k' := 62) (fr' := [(4, .bool (decide (l.data = m.data)))]) (obl := []) [o_, o_] [4] (fun _ _ => by kernel_rfl) trivial ?_
         refine TriL.nil (by kernel_rfl) (TriQ.next (Tri.ret ?_))
         exact TriQ.ret (v := .bool (decide (l.data = m.data))) (l := []) (obl := []) [] [0] (fun _ => by kernel_rfl) trivial rfl (by kernel_rfl) (⟨congrArg Value.bool (decide_eq_decide.2 ⟨fun e => lineEq (by assumption) (by assumption) (by assumption) (by assumption) (by assumption) (by assumption) (by assumption) (by assumption) e, fun e => by cases e; rfl⟩), rfl⟩)
        ·
         refine TriL.segK (k' := 62) (fr' := [(4, .bool false)]) (obl := []) [o_, o_, o_, o_, o_, o_, o_] [4] (fun _ _ => by kernel_rfl) trivial ?_
         refine TriL.nil (by kernel_rfl) (TriQ.next (Tri.ret ?_))
         exact TriQ.ret (v := .bool false) (l := []) (obl := []) [] [0] (fun _ => by kernel_rfl) trivial rfl (by kernel_rfl) (⟨by rw [decide_eq_false (fun e => h59 (by cases e; first | rfl | exact ⟨rfl, rfl⟩))], rfl⟩)
       ·
        refine TriL.segK (k' := 62) (fr' := [(4, .bool false)]) (obl := []) [o_, o_, o_, o_, o_, o_, o_, o_, o_, o_, o_, o_, o_, o_] [4] (fun _ _ => by kernel_rfl) trivial ?_
        refine TriL.nil (by kernel_rfl) (TriQ.next (Tri.ret ?_))
        exact TriQ.ret (v := .bool false) (l := []) (obl := []) [] [0] (fun _ => by kernel_rfl) trivial rfl (by kernel_rfl) (⟨by rw [decide_eq_false (fun e => h52 (by cases e; first | rfl | exact ⟨rfl, rfl⟩))], rfl⟩)
      ·
       refine TriL.segK (k' := 62) (fr' := [(4, .bool false)]) (obl := []) [o_, o_, o_, o_, o_, o_, o_, o_, o_, o_, o_, o_, o_, o_, o_, o_, o_, o_, o_, o_, o_] [4] (fun _ _ => by kernel_rfl) trivial ?_
       refine TriL.nil (by kernel_rfl) (TriQ.next (Tri.ret ?_))
       exact TriQ.ret (v := .bool false) (l := []) (obl := []) [] [0] (fun _ => by kernel_rfl) trivial rfl (by kernel_rfl) (⟨by rw [decide_eq_false (fun e => h45 (by cases e; first | rfl | exact ⟨rfl, rfl⟩))], rfl⟩)
     ·
      refine TriL.segK (k' := 62) (fr' := [(4, .bool false)]) (obl := []) [o_, o_, o_, o_, o_, o_, o_, o_, o_, o_, o_, o_, o_, o_, o_, o_, o_, o_, o_, o_, o_, o_, o_, o_, o_, o_, o_, o_] [4] (fun _ _ => by kernel_rfl) trivial ?_
      refine TriL.nil (by kernel_rfl) (TriQ.next (Tri.ret ?_))
      exact TriQ.ret (v := .bool false) (l := []) (obl := []) [] [0] (fun _ => by kernel_rfl) trivial rfl (by kernel_rfl) (⟨by rw [decide_eq_false (fun e => h38 (by cases e; first | rfl | exact ⟨rfl, rfl⟩))], rfl⟩)
    ·
     refine TriL.segK (k' := 62) (fr' := [(4, .bool false)]) (obl := []) [o_, o_, o_, o_, o_, o_, o_, o_, o_, o_, o_, o_, o_, o_, o_, o_, o_, o_, o_, o_, o_, o_, o_, o_, o_, o_, o_, o_, o_, o_, o_, o_, o_, o_, o_] [4] (fun _ _ => by kernel_rfl) trivial ?_
     refine TriL.nil (by kernel_rfl) (TriQ.next (Tri.ret ?_))
     exact TriQ.ret (v := .bool false) (l := []) (obl := []) [] [0] (fun _ => by kernel_rfl) trivial rfl (by kernel_rfl) (⟨by rw [decide_eq_false (fun e => h31 (by cases e; first | rfl | exact ⟨rfl, rfl⟩))], rfl⟩)
   ·
    refine TriL.segK (k' := 62) (fr' := [(4, .bool false)]) (obl := []) [o_, o_, o_, o_, o_, o_, o_, o_, o_, o_, o_, o_, o_, o_, o_, o_, o_, o_, o_, o_, o_, o_, o_, o_, o_, o_, o_, o_, o_, o_, o_, o_, o_, o_, o_, o_, o_, o_, o_, o_, o_, o_] [4] (fun _ _ => by kernel_rfl) trivial ?_
    refine TriL.nil (by kernel_rfl) (TriQ.next (Tri.ret ?_))
    exact TriQ.ret (v := .bool false) (l := []) (obl := []) [] [0] (fun _ => by kernel_rfl) trivial rfl (by kernel_rfl) (⟨by rw [decide_eq_false (fun e => h24 (by cases e; first | rfl | exact ⟨rfl, rfl⟩))], rfl⟩)
  ·
   refine TriL.segK (k' := 62) (fr' := [(4, .bool false)]) (obl := []) [o_, o_, o_, o_, o_, o_, o_, o_, o_, o_, o_, o_, o_, o_, o_, o_, o_, o_, o_, o_, o_, o_, o_, o_, o_, o_, o_, o_, o_, o_, o_, o_, o_, o_, o_, o_, o_, o_, o_, o_, o_, o_, o_, o_, o_, o_, o_, o_, o_] [4] (fun _ _ => by kernel_rfl) trivial ?_
   refine TriL.nil (by kernel_rfl) (TriQ.next (Tri.ret ?_))
   exact TriQ.ret (v := .bool false) (l := []) (obl := []) [] [0] (fun _ => by kernel_rfl) trivial rfl (by kernel_rfl) (⟨by rw [decide_eq_false (fun e => h17 (by cases e; first | rfl | exact ⟨rfl, rfl⟩))], rfl⟩)
 ·
  refine TriL.segK (k' := 62) (fr' := [(4, .bool false)]) (obl := []) [o_, o_, o_, o_, o_, o_, o_, o_, o_, o_, o_, o_, o_, o_, o_, o_, o_, o_, o_, o_, o_, o_, o_, o_, o_, o_, o_, o_, o_, o_, o_, o_, o_, o_, o_, o_, o_, o_, o_, o_, o_, o_, o_, o_, o_, o_, o_, o_, o_, o_, o_, o_, o_, o_, o_, o_] [4] (fun _ _ => by kernel_rfl) trivial ?_
  refine TriL.nil (by kernel_rfl) (TriQ.next (Tri.ret ?_))
  exact TriQ.ret (v := .bool false) (l := []) (obl := []) [] [0] (fun _ => by kernel_rfl) trivial rfl (by kernel_rfl) (⟨by rw [decide_eq_false (fun e => h10 (by cases e; first | rfl | exact ⟨rfl, rfl⟩))], rfl⟩)
set_option maxRecDepth 100000 in
set_option maxHeartbeats 4000000 in
theorem sp_sameLines {β : Bs} (A B : Option Addr) (c c' : Nat) (ls ms : List LineM) (M K : LayL) (hG : LinesAt β A ls M) (hH : LinesAt β B ms K) (hl : ls.length ≤ 16777216) (hd : ∀ i, i < ls.length → (ln ls i).data.length ≤ 1048576) :
    Spec Try.prog β 28 #[.slice A ls.length c, .slice B ms.length c'] [] (fun v l => v = .bool (decide (ls = ms)) ∧ l = []) := by
 refine Spec.enter Try.func28 rfl Try.ntmps28 (Nat.le_of_ble_eq_true rfl) (fun R => ?_)
 refine Tri.seq (Tri.region ?_)
 refine TriL.segK (k' := 1) (fr' := [(0, .slice A (ls.length) (c)), (1, .slice B (ms.length) (c'))]) (obl := []) [o_] [0, 1] (fun _ _ => by kernel_rfl) trivial ?_
 refine TriL.nil (by kernel_rfl) (TriQ.next (Tri.seq (Tri.seq (Tri.region ?_))))
 refine TriL.segK (k' := 5) (fr' := [(0, .slice A (ls.length) (c)), (1, .slice B (ms.length) (c')), (10, .bool (!(decide ((((ls.length : Nat) : Int) : Int) = (((ms.length : Nat) : Int) : Int)))))]) (obl := []) [o_, o_, o_, o_, o_] [0, 1, 10] (fun _ _ => by kernel_rfl) trivial ?_
 refine TriL.nil (by kernel_rfl) (TriQ.next ?_)
 refine Tri.condN (p := (((ls.length : Nat) : Int) : Int) = (((ms.length : Nat) : Int) : Int)) (fun _ => by kernel_rfl) (fun h10 => ?_) (fun h10 => ?_)
 ·
  refine Tri.seq (Tri.region ?_)
  refine TriL.segK (k' := 1) (fr' := [(4, .bool false)]) (obl := []) [o_] [4] (fun _ _ => by kernel_rfl) trivial ?_
  refine TriL.nil (by kernel_rfl) (TriQ.next (Tri.ret (TriQ.passRet ?_)))
  exact TriQ.ret (v := .bool false) (l := []) (obl := []) [] [0] (fun _ => by kernel_rfl) trivial rfl (by kernel_rfl) (⟨by rw [decide_eq_false (fun e => h10 (by rw [e]))], rfl⟩)
 ·
  refine Tri.skip (TriQ.next (Tri.seq (Tri.seq (Tri.region ?_))))
  refine TriL.segK (k' := 1) (fr' := [(0, .slice A (ls.length) (c)), (1, .slice B (ms.length) (c')), (5, .int .i64 0)]) (obl := []) [o_] [0, 1, 5] (fun _ _ => by kernel_rfl) trivial ?_
  refine TriL.nil (by kernel_rfl) (TriQ.next (Tri.block ?_))
  refine Tri.loop (ι := Nat) (fun (i : Nat) => (i ≤ ls.length) ∧ (∀ j, j < i → ls.getD j default = ms.getD j default)) (fun (i : Nat) => ls.length - i) (fun (i : Nat) => [(0, .slice A (ls.length) (c)), (1, .slice B (ms.length) (c')), (5, .int .i64 ↑i)]) (fun (i : Nat) => [.abs R]) 0 (idx := [0, 1, 5]) (pk := [0]) (show (0 ≤ ls.length) ∧ (∀ j, j < 0 → ls.getD j default = ms.getD j default) from ⟨Nat.zero_le _, fun j hj => absurd hj (Nat.not_lt_zero j)⟩) (fun _ => by kernel_rfl) rfl (by kernel_rfl) ?_
  rintro i ⟨hi, hall⟩
  show Tri _ _ _ _ [(0, .slice A (ls.length) (c)), (1, .slice B (ms.length) (c')), (5, .int .i64 ↑i)] [.abs R] _
  refine Tri.seq (Tri.seq (Tri.region ?_))
  refine TriL.segK (k' := 4) (fr' := [(0, .slice A (ls.length) (c)), (1, .slice B (ms.length) (c')), (5, .int .i64 ↑i), (14, .bool (decide ((((i : Nat) : Int) : Int) < (((ls.length : Nat) : Int) : Int))))]) (obl := []) [o_, o_, o_, o_] [0, 1, 5, 14] (fun _ _ => by kernel_rfl) trivial ?_
  refine TriL.nil (by kernel_rfl) (TriQ.next ?_)
  refine Tri.condP (p := (((i : Nat) : Int) : Int) < (((ls.length : Nat) : Int) : Int)) (fun _ => by kernel_rfl) (fun h14 => ?_) (fun h14 => ?_)
  ·
   refine Tri.skip (TriQ.next (Tri.seq (Tri.block (Tri.seq ?_))))
   refine Tri.regionQ (by kernel_rfl) (by kernel_rfl) ?_
   refine TriLQ.seg (k' := 8) (fr' := [(0, .slice A (ls.length) (c)), (1, .slice B (ms.length) (c')), (5, .int .i64 ↑i), (20, .agg #[.string (ln ls i).path, .int .i64 ((ln ls i).kind), .int .i64 ((ln ls i).mode), .int .i64 ((ln ls i).uid), .int .i64 ((ln ls i).gid), .int .i64 ((ln ls i).sec), .int .i64 ((ln ls i).nano), .slice (M.dA i) ((ln ls i).data.length) ((M.dC i)), .string (ln ls i).target, .string (ln ls i).peer]), (24, .agg #[.string (ln ms i).path, .int .i64 ((ln ms i).kind), .int .i64 ((ln ms i).mode), .int .i64 ((ln ms i).uid), .int .i64 ((ln ms i).gid), .int .i64 ((ln ms i).sec), .int .i64 ((ln ms i).nano), .slice (K.dA i) ((ln ms i).data.length) ((K.dC i)), .string (ln ms i).target, .string (ln ms i).peer])]) (obl := [(Rd β ⟨(blkOf B), offOf B + i * 10 + 9, none⟩ (.string (ln ms i).peer)), (Rd β ⟨(blkOf B), offOf B + i * 10 + 8, none⟩ (.string (ln ms i).target)), (Rd β ⟨(blkOf B), offOf B + i * 10 + 7, none⟩ (.slice (K.dA i) ((ln ms i).data.length) ((K.dC i)))), (Rd β ⟨(blkOf B), offOf B + i * 10 + 6, none⟩ (.int .i64 ((ln ms i).nano))), (Rd β ⟨(blkOf B), offOf B + i * 10 + 5, none⟩ (.int .i64 ((ln ms i).sec))), (Rd β ⟨(blkOf B), offOf B + i * 10 + 4, none⟩ (.int .i64 ((ln ms i).gid))), (Rd β ⟨(blkOf B), offOf B + i * 10 + 3, none⟩ (.int .i64 ((ln ms i).uid))), (Rd β ⟨(blkOf B), offOf B + i * 10 + 2, none⟩ (.int .i64 ((ln ms i).mode))), (Rd β ⟨(blkOf B), offOf B + i * 10 + 1, none⟩ (.int .i64 ((ln ms i).kind))), (Rd β ⟨(blkOf B), offOf B + i * 10, none⟩ (.string (ln ms i).path)), ((i : Nat) : Int) = ((i : Nat) : Int), i < ms.length, (⟨(blkOf B), offOf B, none⟩ : Addr).spot = none, (B : Option Addr) = some ⟨(blkOf B), offOf B, none⟩, (Rd β ⟨(blkOf A), offOf A + i * 10 + 9, none⟩ (.string (ln ls i).peer)), (Rd β ⟨(blkOf A), offOf A + i * 10 + 8, none⟩ (.string (ln ls i).target)), (Rd β ⟨(blkOf A), offOf A + i * 10 + 7, none⟩ (.slice (M.dA i) ((ln ls i).data.length) ((M.dC i)))), (Rd β ⟨(blkOf A), offOf A + i * 10 + 6, none⟩ (.int .i64 ((ln ls i).nano))), (Rd β ⟨(blkOf A), offOf A + i * 10 + 5, none⟩ (.int .i64 ((ln ls i).sec))), (Rd β ⟨(blkOf A), offOf A + i * 10 + 4, none⟩ (.int .i64 ((ln ls i).gid))), (Rd β ⟨(blkOf A), offOf A + i * 10 + 3, none⟩ (.int .i64 ((ln ls i).uid))), (Rd β ⟨(blkOf A), offOf A + i * 10 + 2, none⟩ (.int .i64 ((ln ls i).mode))), (Rd β ⟨(blkOf A), offOf A + i * 10 + 1, none⟩ (.int .i64 ((ln ls i).kind))), (Rd β ⟨(blkOf A), offOf A + i * 10, none⟩ (.string (ln ls i).path)), ((i : Nat) : Int) = ((i : Nat) : Int), i < ls.length, (⟨(blkOf A), offOf A, none⟩ : Addr).spot = none, (A : Option Addr) = some ⟨(blkOf A), offOf A, none⟩]) [o_, o_, ⟨[], some i, none, some ⟨(blkOf A), offOf A, none⟩, none⟩, ⟨[.old (.string (ln ls i).path), .old (.int .i64 ((ln ls i).kind)), .old (.int .i64 ((ln ls i).mode)), .old (.int .i64 ((ln ls i).uid)), .old (.int .i64 ((ln ls i).gid)), .old (.int .i64 ((ln ls i).sec)), .old (.int .i64 ((ln ls i).nano)), .old (.slice (M.dA i) ((ln ls i).data.length) ((M.dC i))), .old (.string (ln ls i).target), .old (.string (ln ls i).peer)], none, none, none, none⟩, o_, o_, ⟨[], some i, none, some ⟨(blkOf B), offOf B, none⟩, none⟩, ⟨[.old (.string (ln ms i).path), .old (.int .i64 ((ln ms i).kind)), .old (.int .i64 ((ln ms i).mode)), .old (.int .i64 ((ln ms i).uid)), .old (.int .i64 ((ln ms i).gid)), .old (.int .i64 ((ln ms i).sec)), .old (.int .i64 ((ln ms i).nano)), .old (.slice (K.dA i) ((ln ms i).data.length) ((K.dC i))), .old (.string (ln ms i).target), .old (.string (ln ms i).peer)], none, none, none, none⟩] [0, 1, 5, 20, 24] (fun _ _ => by kernel_rfl) ⟨LinesAt.rd hH (i := i) (by omega) (j := 9) rfl, LinesAt.rd hH (i := i) (by omega) (j := 8) rfl, LinesAt.rd hH (i := i) (by omega) (j := 7) rfl, LinesAt.rd hH (i := i) (by omega) (j := 6) rfl, LinesAt.rd hH (i := i) (by omega) (j := 5) rfl, LinesAt.rd hH (i := i) (by omega) (j := 4) rfl, LinesAt.rd hH (i := i) (by omega) (j := 3) rfl, LinesAt.rd hH (i := i) (by omega) (j := 2) rfl, LinesAt.rd hH (i := i) (by omega) (j := 1) rfl, LinesAt.rd hH (i := i) (by omega) (j := 0) rfl, rfl, by omega, rfl, LinesAt.hd hH (i := i) (by omega), LinesAt.rd hG (i := i) (by omega) (j := 9) rfl, LinesAt.rd hG (i := i) (by omega) (j := 8) rfl, LinesAt.rd hG (i := i) (by omega) (j := 7) rfl, LinesAt.rd hG (i := i) (by omega) (j := 6) rfl, LinesAt.rd hG (i := i) (by omega) (j := 5) rfl, LinesAt.rd hG (i := i) (by omega) (j := 4) rfl, LinesAt.rd hG (i := i) (by omega) (j := 3) rfl, LinesAt.rd hG (i := i) (by omega) (j := 2) rfl, LinesAt.rd hG (i := i) (by omega) (j := 1) rfl, LinesAt.rd hG (i := i) (by omega) (j := 0) rfl, rfl, by omega, rfl, LinesAt.hd hG (i := i) (by omega), trivial⟩ ?_
   refine TriLQ.call (f := 49) (args := #[.agg #[.string (ln ls i).path, .int .i64 ((ln ls i).kind), .int .i64 ((ln ls i).mode), .int .i64 ((ln ls i).uid), .int .i64 ((ln ls i).gid), .int .i64 ((ln ls i).sec), .int .i64 ((ln ls i).nano), .slice (M.dA i) ((ln ls i).data.length) ((M.dC i)), .string (ln ls i).target, .string (ln ls i).peer], .agg #[.string (ln ms i).path, .int .i64 ((ln ms i).kind), .int .i64 ((ln ms i).mode), .int .i64 ((ln ms i).uid), .int .i64 ((ln ms i).gid), .int .i64 ((ln ms i).sec), .int .i64 ((ln ms i).nano), .slice (K.dA i) ((ln ms i).data.length) ((K.dC i)), .string (ln ms i).target, .string (ln ms i).peer]]) (d := (some 25)) (pre := []) (R := [.abs R]) (pk := [0]) (pk' := [0]) (v0 := .bool (decide (ln ls i = ln ms i))) (fun _ => by kernel_rfl) (sp_sameLine (ln ls i) (ln ms i) (M.dA i) (K.dA i) (M.dC i) (K.dC i) (hG.data i (by omega)) (hH.data i (by omega)) (hd i (by omega))) rfl (by kernel_rfl) rfl (by kernel_rfl) (fun _ _ h => h) ?_
   refine TriLQ.seg (k' := 10) (fr' := [(0, .slice A (ls.length) (c)), (1, .slice B (ms.length) (c')), (5, .int .i64 ↑i), (26, .bool (!(decide (ln ls i = ln ms i))))]) (obl := []) [o_] [0, 1, 5, 26] (fun _ _ => by kernel_rfl) trivial ?_
   refine TriLQ.nil (by kernel_rfl) (TriQ.next ?_)
   refine Tri.condN (p := ln ls i = ln ms i) (fun _ => by kernel_rfl) (fun h26 => ?_) (fun h26 => ?_)
   ·
    refine Tri.seq (Tri.region ?_)
    refine TriL.segK (k' := 1) (fr' := [(4, .bool false)]) (obl := []) [o_] [4] (fun _ _ => by kernel_rfl) trivial ?_
    refine TriL.nil (by kernel_rfl) (TriQ.next (Tri.ret (TriQ.blockRet (TriQ.passRet (TriQ.passRet (TriQ.blockRet (TriQ.passRet ?_)))))))
    exact TriQ.ret (v := .bool false) (l := []) (obl := []) [] [0] (fun _ => by kernel_rfl) trivial rfl (by kernel_rfl) (⟨by rw [decide_eq_false (fun e => h26 (by rw [e]))], rfl⟩)
   ·
    refine Tri.skip (TriQ.blockNormal (TriQ.next (Tri.region ?_)))
    refine TriL.segK (k' := 3) (fr' := [(0, .slice A (ls.length) (c)), (1, .slice B (ms.length) (c')), (5, .int .i64 ↑(i + 1))]) (obl := [(Value.int .i64 (IntKind.wrap .i64 (((i : Nat) : Int) + 1))) = (.int .i64 ↑(i + 1))]) [o_, ⟨[], none, none, none, some (.int .i64 ↑(i + 1))⟩, o_] [0, 1, 5] (fun _ _ => by kernel_rfl) ⟨wrapEq (by omega) (by omega) (by omega), trivial⟩ ?_
    refine TriL.nil (by kernel_rfl) ?_
    exact TriQ.turn ((i + 1)) (idx := [0, 1, 5]) (pk := [0]) (show (((i + 1)) ≤ ls.length) ∧ (∀ j, j < ((i + 1)) → ls.getD j default = ms.getD j default) from ⟨by omega, fun j hj => by rcases Nat.lt_succ_iff_lt_or_eq.1 hj with h | h; exact hall j h; subst h; exact h26⟩) (by show ls.length - ((i + 1)) < ls.length - i; omega) (fun _ => by kernel_rfl) rfl (by kernel_rfl)
  ·
   refine Tri.exit (TriQ.passExit (TriQ.passExit (TriQ.blockHit (TriQ.next (Tri.seq (Tri.region ?_))))))
   refine TriL.segK (k' := 1) (fr' := [(4, .bool true)]) (obl := []) [o_] [4] (fun _ _ => by kernel_rfl) trivial ?_
   refine TriL.nil (by kernel_rfl) (TriQ.next (Tri.ret ?_))
   exact TriQ.ret (v := .bool true) (l := []) (obl := []) [] [0] (fun _ => by kernel_rfl) trivial rfl (by kernel_rfl) (⟨by rw [decide_eq_true (ext_getD (x := default) (by omega) (fun j hj => hall j (by omega)))], rfl⟩)
end Go.Proofs.Ytjpdcppdoonmdaa
end
/- part Vz. PROVED HERE: the logic's rule for a region that draws its order and both reads and changes memory: what it reads stays as it is while it changes, and its changes stand in one order. CONDITIONS: none. No statement of the seat is proved here. -/
section
namespace Go.Proofs.Ytjpdcppdoonmdaa
open Go.RowKit
/-- a post that is met at the normal end alone -/
def NP (Q : Post) : Post := fun e a w => match e with
  | .normal => Q .normal a w
  | _ => False
section order
variable {P : Program} {ops : Array Oper} {Q Q' : Post} {n : Nat} {S : World → Prop}
theorem letsOut_np (h : LetsOut (NP Q)) : False := by
  obtain ⟨a, w, h⟩ := h
  exact h
theorem wp_np {o : Oper} {a : Act} {w : World} {K : Act → World → Prop} (h : o.wp P a w K (NP Q)) : o.wp P a w K (NP Q') := by
  unfold Oper.wp at *
  generalize (execOp a.eval o).run P w = r at *
  cases r with
  | ok m w' =>
    cases m <;> simp only [Oper.upon] at h ⊢ <;>
      first
        | exact h
        | exact Calls.mono h (fun e w'' he => by cases e <;> first | exact he | exact (letsOut_np he).elim)
  | halt x w' => cases x <;> simp only [Oper.upon] at h ⊢; exact h
theorem wpOp_of_list {i : Nat} {o : Oper} {a : Act} {w : World} {K : Act → World → Prop} (hi : ops[i]? = some o) (hg : o.guard = none) (h : wpList P #[o] (NP fun _ a w => K a w) [o] a w) : wpOp P ops (NP Q) i K a w := by
  unfold wpOp
  simp only [hi]
  have hw : ∀ y, Region.wanted o y = true := fun y => by unfold Region.wanted; rw [hg]
  rw [if_pos (hw _)]
  unfold wpList at h
  rw [if_pos (hw _)] at h
  rcases h with h | ⟨_, h⟩
  · exact .inl (wp_np (Oper.wp_mono (fun a w h => h) h))
  · exact (letsOut_np h).elim
theorem wpList_np {o : Oper} {a : Act} {w : World} (hq : ∀ a w, Q .normal a w → Q' .normal a w) (h : wpList P ops (NP Q) [o] a w) : wpList P ops (NP Q') [o] a w := by
  unfold wpList at *
  split
  · rename_i hw
    rw [if_pos hw] at h
    rcases h with h | ⟨_, h⟩
    · exact .inl (wp_np (Oper.wp_mono (fun a w h => hq a w h) h))
    · exact (letsOut_np h).elim
  · rename_i hw
    rw [if_neg hw] at h
    exact hq _ _ h
/-- whatever order is picked: S holds behind every operation but n, the last one -/
def wpAnyE (P : Program) (ops : Array Oper) (Q : Post) (n : Nat) (S : World → Prop) : Nat → Array Bool → Act → World → Prop
  | 0, listed, a, w => Region.ready .any ops listed = [] ∧ Q .normal a w
  | fuel + 1, listed, a, w => (Region.ready .any ops listed = [] → Q .normal a w) ∧
    ∀ i ∈ Region.ready .any ops listed, wpOp P ops Q i (fun a' w' => (i = n ∨ S w') ∧ wpAnyE P ops Q n S fuel (listed.setIfInBounds i true) a' w') a w
theorem wpAny_of_E : ∀ (fuel : Nat) (listed : Array Bool) (a : Act) (w : World), wpAnyE P ops Q n S fuel listed a w → wpAny P .any ops Q fuel listed a w
  | 0, _, _, _, h => h
  | fuel + 1, _, _, _, h => ⟨h.1, fun i hi => wpOp_mono (fun a' w' h' => wpAny_of_E fuel _ a' w' h'.2) (h.2 i hi)⟩
/-- what has come up has all that it waits for before it -/
def Closed (ops : Array Oper) (listed : Array Bool) : Prop := ∀ j oj, ops[j]? = some oj → listed.getD j false = true → ∀ e ∈ oj.after, Region.binds .any e = true → listed.getD e.on false = true
theorem Closed.set {listed : Array Bool} {j : Nat} (h : Closed ops listed) (hj : j ∈ Region.ready .any ops listed) : Closed ops (listed.setIfInBounds j true) := by
  obtain ⟨_, oj, hoj, hall⟩ := mem_ready.1 hj
  intro k ok hk hl e he hb
  refine getD_set_true ?_
  by_cases hjk : j = k
  · subst hjk
    rw [hoj] at hk
    cases hk
    exact hall e he hb
  · rw [getD_set_ne false hjk] at hl
    exact h k ok hk hl e he hb
theorem sink_wait (hs : Region.sinkB .any ops n = true) {listed : Array Bool} (hc : Closed ops listed) : ∀ (m i : Nat), n - i ≤ m → i < n → listed.getD i false = false → n ∉ Region.ready .any ops listed
  | 0, i, hm, hi, _ => by omega
  | m + 1, i, hm, hi, hu => fun hr => by
    unfold Region.sinkB at hs
    rw [List.all_eq_true] at hs
    have h1 := hs i (List.mem_range.2 hi)
    rw [List.any_eq_true] at h1
    obtain ⟨j, hj, h2⟩ := h1
    rw [Bool.and_eq_true, decide_eq_true_iff] at h2
    have hj := List.mem_range.1 hj
    obtain ⟨oj, hoj, e, he, hb, heq⟩ := Region.waitsFor_spec h2.2
    by_cases hjn : j = n
    · subst hjn
      obtain ⟨_, oj', hoj', hall⟩ := mem_ready.1 hr
      rw [hoj] at hoj'
      cases hoj'
      have := hall e he hb
      rw [heq, hu] at this
      cases this
    · cases hl : listed.getD j false with
      | true =>
        have := hc j oj hoj hl e he hb
        rw [heq, hu] at this
        cases this
      | false => exact sink_wait (by unfold Region.sinkB; rw [List.all_eq_true]; exact hs) hc m j (by omega) (by omega) hl hr
theorem unlisted_of_ready {listed : Array Bool} {i : Nat} (h : i ∈ Region.ready .any ops listed) : listed.getD i false = false := by
  have h1 := (mem_ready.1 h).1
  rcases Nat.lt_or_ge i listed.size with h' | h'
  · simp [h'] at h1 ⊢; exact h1
  · simp [Array.getElem?_eq_none h'] at h1
/-- a reading that may come up now may be taken first -/
theorem wpAnyE_first {i : Nat} {oi : Oper} {v : Value} (hi : ops[i]? = some oi) (hsel : Region.noSelect ops = true) (hsink : Region.sinkB .any ops n = true) (hin : i < n) :
    ∀ (fuel : Nat) (listed : Array Bool) (a : Act) (w : World), Closed ops listed →
      (∀ j oj, ops[j]? = some oj → j ≠ i → listed.getD j true = false → (∀ e ∈ oj.after, Region.binds .any e = true → e.on ≠ i) → oi.apart ops oj = true) →
      i ∈ Region.ready .any ops listed → YieldsIf P ops S oi v a → S w →
      wpAnyE P ops (NP Q) n S fuel (listed.setIfInBounds i true) (a.put oi.dst v) w → wpAnyE P ops (NP Q) n S (fuel + 1) listed a w := by
  intro fuel
  induction fuel with
  | zero =>
    intro listed a w _ _ hr hy hS H
    refine ⟨fun h => (by rw [h] at hr; cases hr), fun j hj => ?_⟩
    by_cases hji : j = i
    · subst hji; exact hy.wpOp hi hS ⟨.inr hS, H⟩
    · have := ready_mono hj hji
      rw [H.1] at this
      cases this
  | succ fuel ih =>
    intro listed a w hcl hfree hr hy hS H
    refine ⟨fun h => (by rw [h] at hr; cases hr), fun j hj => ?_⟩
    by_cases hji : j = i
    · subst hji; exact hy.wpOp hi hS ⟨.inr hS, H⟩
    · have h1 := H.2 j (ready_mono hj hji)
      have hjn : j ≠ n := fun e => by
        subst e
        exact sink_wait hsink hcl _ i (Nat.le_refl _) hin (unlisted_of_ready hr) hj
      obtain ⟨hjun, oj, hoj, hall⟩ := mem_ready.1 hj
      have hnot : ∀ e ∈ oj.after, Region.binds .any e = true → e.on ≠ i := fun e he hb heq => by
        have h2 := hall e he hb
        rw [heq, unlisted_of_ready hr] at h2
        cases h2
      have h2 := wpOp_putIf (S := S) (Q := NP Q) hoj (hfree j oj hoj hji hjun hnot) (fun cs b => Region.noSelect_spec hsel i oi cs b hi) (fun cs b => Region.noSelect_spec hsel j oj cs b hoj) (fun _ _ _ h => h) hy h1
      have hfree' : ∀ k ok, ops[k]? = some ok → k ≠ i → (listed.setIfInBounds j true).getD k true = false →
          (∀ e ∈ ok.after, Region.binds .any e = true → e.on ≠ i) → oi.apart ops ok = true := fun k ok hk hki hun hno => by
        refine hfree k ok hk hki ?_ hno
        by_cases hjk : j = k
        · subst hjk; exact hjun
        · rw [getD_set_ne true hjk] at hun; exact hun
      refine wpOp_mono (fun a' w' h3 => ?_) h2
      have hS' : S w' := h3.2.1.resolve_left hjn
      refine ⟨.inr hS', ih (listed.setIfInBounds j true) a' w' (hcl.set hj) hfree' (ready_mono hr (Ne.symm hji)) h3.1 hS' ?_⟩
      rw [Array.setIfInBounds_comm _ _ hji]
      exact h3.2.2
/-- some readings, then the changes in their order -/
def wpMix (P : Program) (ops : Array Oper) (Q : Post) (S : World → Prop) : Nat → List Nat → Act → World → Prop
  | _, [], a, w => Q .normal a w
  | 0, i :: l, a, w => wpOp P ops Q i (fun a' w' => (l = [] ∨ S w') ∧ wpMix P ops Q S 0 l a' w') a w
  | r + 1, i :: l, a, w => ∃ o v, ops[i]? = some o ∧ YieldsIf P ops S o v a ∧ wpMix P ops Q S r l (a.put o.dst v) w
def mixB (ops : Array Oper) (n : Nat) : Nat → List Nat → Array Bool → Bool
  | _, [], listed => (Region.ready .any ops listed).isEmpty
  | 0, i :: l, listed => (Region.ready .any ops listed == [i]) && (!l.isEmpty || i == n) && mixB ops n 0 l (listed.setIfInBounds i true)
  | r + 1, i :: l, listed => decide (i < n) && Region.free .any ops listed i && (Region.ready .any ops listed).contains i && mixB ops n r l (listed.setIfInBounds i true)
theorem wpMix_eff (hsel : Region.noSelect ops = true) : ∀ (l : List Nat) (listed : Array Bool) (a : Act) (w : World), mixB ops n 0 l listed = true → wpMix P ops (NP Q) S 0 l a w → wpAnyE P ops (NP Q) n S l.length listed a w
  | [], listed, a, w, hb, h => ⟨List.isEmpty_iff.1 hb, h⟩
  | i :: l, listed, a, w, hb, h => by
    unfold mixB at hb
    simp only [Bool.and_eq_true, beq_iff_eq] at hb
    obtain ⟨⟨h1, h2⟩, h3⟩ := hb
    refine ⟨fun h0 => (by rw [h1] at h0; cases h0), fun j hj => ?_⟩
    rw [h1] at hj
    have hj : j = i := by simpa using hj
    subst hj
    refine wpOp_mono (fun a' w' h4 => ⟨?_, wpMix_eff hsel l _ a' w' h3 h4.2⟩) h
    rcases h4.1 with h5 | h5
    · subst h5; exact .inl (by simpa using h2)
    · exact .inr h5
theorem wpMix_E (hsel : Region.noSelect ops = true) (hsink : Region.sinkB .any ops n = true) : ∀ (r : Nat) (l : List Nat) (listed : Array Bool) (a : Act) (w : World), mixB ops n r l listed = true → Closed ops listed → S w → wpMix P ops (NP Q) S r l a w → wpAnyE P ops (NP Q) n S l.length listed a w
  | 0, l, listed, a, w, hb, _, _, h => wpMix_eff hsel l listed a w hb h
  | r + 1, [], listed, a, w, hb, _, _, h => ⟨List.isEmpty_iff.1 hb, h⟩
  | r + 1, i :: l, listed, a, w, hb, hc, hS, h => by
    unfold mixB at hb
    simp only [Bool.and_eq_true, decide_eq_true_iff] at hb
    obtain ⟨⟨⟨h1, h2⟩, h3⟩, h4⟩ := hb
    obtain ⟨o, v, ho, hy, hk⟩ := h
    have hr : i ∈ Region.ready .any ops listed := by simpa using h3
    exact wpAnyE_first ho hsel hsink h1 l.length listed a w hc (Region.free_spec ho h2) hr hy hS (wpMix_E hsel hsink r l _ _ w h4 (hc.set hr) hS hk)
def mixTop (ops : Array Oper) (perm : List Nat) (nr : Nat) : Bool :=
  Region.noSelect ops && Region.sinkB .any ops (ops.size - 1) && (perm.length == ops.size) && mixB ops (ops.size - 1) nr perm (Array.replicate ops.size false)
end order
section mix
variable {P : Program} {β : Bs} {N : Nat} {ops : Array Oper} {S : List HP} {r r' : Nat} {l l' : List Nat} {fr fr' : Fr} {hps : List HP} {Q : Post} {obl : List Prop} {d : Option Tmp} {op : Op} {v : Value} {i : Nat} {pk : List Nat}
def TriM (P : Program) (β : Bs) (N : Nat) (ops : Array Oper) (S : List HP) (r : Nat) (l : List Nat) (fr : Fr) (hps : List HP) (Q : Post) : Prop :=
  ∀ junk w, Sat β hps w → wpMix P ops (NP Q) (Sat β S) r l (mkA N fr junk) w
theorem Tri.regionMix {id : Nat} (perm : List Nat) (nr : Nat) (pk : List Nat) (hm : P.follows .mixedOrders = true) (hB : mixTop ops perm nr = true) (hn : nodupB pk = true) (hp : pickL hps pk = some S) (h : TriM P β N ops S nr perm fr hps Q) : Tri P β N (.region id ops true) fr hps Q := by
  intro junk w hS
  unfold mixTop at hB
  simp only [Bool.and_eq_true, beq_iff_eq] at hB
  obtain ⟨⟨⟨h1, h2⟩, h3⟩, h4⟩ := hB
  have hS' := hS.drewN 1
  have h5 := wpMix_E (Q := Q) h1 h2 nr perm _ _ _ h4 (fun j oj _ hl => by simp [Array.getD_eq_getD_getElem?, Array.getElem?_replicate] at hl; split at hl <;> simp at hl) (hS'.pick hn hp) (h junk (w.drewN 1) hS')
  rw [h3] at h5
  refine Code.wp_mono (fun e a w q => ?_) (wp_region_any hm (wpAny_of_E _ _ _ _ h5))
  cases e with
  | normal => exact q
  | exit id => exact q.elim
  | goto l => exact q.elim
  | ret => exact q.elim
  | panic ch => exact q.elim
  | outgrown => exact q.elim
def plainV : Value → Bool
  | .tuple a => decide (a.size ≠ 0)
  | _ => true
theorem plainV_ne {v : Value} (h : plainV v = true) : ¬ v = undef := fun e => by subst e; exact absurd h (by decide)
/-- readings, by the kernel -/
def orunsI (P : Program) (β : Bs) (N : Nat) (junk : Nat → Value) (ops : Array Oper) : List OH → List Nat → Fr → SS → Option (Fr × SS)
  | [], [], fr, S => some (fr, S)
  | h :: hs, i :: is, fr, S =>
    match ops[i]? with
    | some o =>
      match o.guard with
      | none =>
        match orun P β 0 true (evF N fr junk) o h S with
        | some (v, S') =>
          match plainV v with
          | true => orunsI P β N junk ops hs is (putF fr o.dst v) S'
          | false => none
        | none => none
      | some _ => none
    | none => none
  | _, _, _, _ => none
def readrun (P : Program) (β : Bs) (N : Nat) (junk : Nat → Value) (ops : Array Oper) (hs : List OH) (is : List Nat) (fr : Fr) (S : List HP) (idx : List Nat) : Option (Fr × List Prop) :=
  match orunsI P β N junk ops hs is fr ⟨[], S, [], true⟩ with
  | some (fr', S') => some (pickF fr' junk idx, S'.obl)
  | none => none
theorem orunsI_obl {junk : Nat → Value} : ∀ {hs : List OH} {is : List Nat} {fr fr' : Fr} {S S' : SS}, orunsI P β N junk ops hs is fr S = some (fr', S') → ∀ p, p ∈ S.obl → p ∈ S'.obl
  | [], [], fr, fr', S, S', h, p, hp => by cases h; exact hp
  | h :: hs, i :: is, fr, fr', S, S', hr, p, hp => by
    unfold orunsI at hr
    repeat' split at hr
    all_goals first | (cases hr; done) | skip
    rename_i h0 _ _
    exact orunsI_obl hr p (orun_obl h0 p hp)
  | [], _ :: _, _, _, _, _, h, _, _ => by cases h
  | _ :: _, [], _, _, _, _, h, _, _ => by cases h
theorem orunsI_sound {junk : Nat → Value} {w : World} : ∀ {hs : List OH} {is : List Nat} {fr fr' : Fr} {T T' : SS}, orunsI P β N junk ops hs is fr T = some (fr', T') → (∀ p, p ∈ T'.obl → p) → T.used = true → T.hps = S →
    wpMix P ops (NP Q) (Sat β S) r l (mkA N fr' junk) w → wpMix P ops (NP Q) (Sat β S) (is.length + r) (is ++ l) (mkA N fr junk) w
  | [], [], fr, fr', T, T', h, ho, hu, hT, hK => by cases h; simpa using hK
  | h :: hs, i :: is, fr, fr', T, T', hr, ho, hu, hT, hK => by
    unfold orunsI at hr
    repeat' split at hr
    all_goals first | (cases hr; done) | skip
    rename_i o hget _ hguard _ v T1 h0 _ hv
    obtain ⟨e1, e2⟩ := orun_ro h0
    have e : (i :: is).length + r = (is.length + r) + 1 := by simp; omega
    rw [e, List.cons_append]
    unfold wpMix
    refine ⟨o, v, hget, .inl ⟨by unfold Region.wanted; rw [hguard], fun w' hS' => ?_⟩, ?_⟩
    · rw [mkA_eval]
      obtain ⟨w2, h1, _, _, h4⟩ := orun_sound h0 (fun p hp => ho p (orunsI_obl hr p hp)) (by rw [hT]; exact hS') (fun e => by rw [hu] at e; cases e)
      obtain ⟨ew, _⟩ := h4 rfl
      rw [ew] at h1
      rcases h1 with h1 | ⟨h1, _⟩
      · exact h1
      · exact absurd h1 (plainV_ne hv)
    · rw [mkA_put]
      exact orunsI_sound hr ho (e2.trans hu) (e1.trans hT) hK
  | [], _ :: _, _, _, _, _, h, _, _, _, _ => by cases h
  | _ :: _, [], _, _, _, _, h, _, _, _, _ => by cases h
theorem TriM.reads (is : List Nat) (hs : List OH) (idx : List Nat) (h : ∀ junk, readrun P β N junk ops hs is fr S idx = some (fr', obl)) (ho : AllP obl) (hr : r' = is.length + r) (hl : l' = is ++ l) (K : TriM P β N ops S r l fr' hps Q) : TriM P β N ops S r' l' fr hps Q := by
  intro junk w hS
  subst hr hl
  have h0 := h junk
  unfold readrun at h0
  split at h0
  · rename_i fr1 S1 h1
    cases h0
    have hK := K (lk fr1 junk) w hS
    rw [← mkA_pick] at hK
    exact orunsI_sound h1 (fun p hp => ho.mem hp) rfl rfl hK
  · cases h0
def opI (ops : Array Oper) (i : Nat) : Option (Op × Option Tmp) := match ops[i]? with
  | some o => match o.guard with
    | none => some (o.op, o.dst)
    | some _ => none
  | none => none
theorem opI_spec (h : opI ops i = some (op, d)) : ∃ o, ops[i]? = some o ∧ o.guard = none ∧ o.op = op ∧ o.dst = d := by
  unfold opI at h
  repeat' split at h
  all_goals first | (cases h; done) | skip
  rename_i o h1 _ h2
  cases h
  exact ⟨o, h1, h2, rfl, rfl⟩
theorem TriM.read1 (hop : opI ops i = some (op, d)) (h : ∀ (o : Oper) junk w, o.op = op → Sat β S w → Ran P (evF N fr junk) o w v w) (hv : plainV v = true) (K : TriM P β N ops S r l (putF fr d v) hps Q) : TriM P β N ops S (r + 1) (i :: l) fr hps Q := by
  intro junk w hS
  obtain ⟨o, h1, h2, h3, rfl⟩ := opI_spec hop
  unfold wpMix
  refine ⟨o, v, h1, .inl ⟨by unfold Region.wanted; rw [h2], fun w' hS' => ?_⟩, ?_⟩
  · rw [mkA_eval]
    rcases h o junk w' h3 hS' with h4 | ⟨h4, _⟩
    · exact h4
    · exact absurd h4 (plainV_ne hv)
  · rw [mkA_put]
    exact K junk w hS
/-- an operation that changes memory: told by a family of frames and parts -/
def Mid (β : Bs) (N : Nat) {ι : Type} (fr : ι → Fr) (hp : ι → List HP) : Post := fun _ a w => ∃ i junk, a = mkA N (fr i) junk ∧ Sat β (hp i) w
theorem TriM.cut {ι : Type} {fr' : ι → Fr} {hp' : ι → List HP} {o : Oper} (pk : List Nat) (hop : ops[i]? = some o) (hg : o.guard = none) (h : TriL P β N #[o] 0 fr hps (NP (Mid β N fr' hp'))) (hn : nodupB pk = true) (hp : ∀ j, pickL (hp' j) pk = some S)
    (K : ∀ j, TriM P β N ops S 0 l (fr' j) (hp' j) Q) : TriM P β N ops S 0 (i :: l) fr hps Q := by
  intro junk w hS
  unfold wpMix
  refine wpOp_of_list hop hg ?_
  have h1 := h junk w hS
  have h2 : wpList P #[o] (NP (Mid β N fr' hp')) [o] (mkA N fr junk) w := h1
  refine wpList_np (fun a w ⟨j, junk', ha, hS'⟩ => ?_) h2
  subst ha
  exact ⟨.inr (hS'.pick hn (hp j)), K j junk' w hS'⟩
theorem TriM.last {o : Oper} (hop : ops[i]? = some o) (hg : o.guard = none) (h : TriL P β N #[o] 0 fr hps (NP Q)) : TriM P β N ops S 0 [i] fr hps Q := by
  intro junk w hS
  unfold wpMix
  refine wpOp_of_list hop hg ?_
  have h2 : wpList P #[o] (NP Q) [o] (mkA N fr junk) w := h junk w hS
  exact wpList_np (fun a w hq => ⟨.inl rfl, by unfold wpMix; exact hq⟩) h2
theorem TriQ.mid {ι : Type} {fr' : ι → Fr} {hp' : ι → List HP} (j : ι) {idx pk : List Nat} (hf : ∀ junk, pickF fr junk idx = fr' j) (hn : nodupB pk = true) (hp : pickL hps pk = some (hp' j)) : TriQ β N (NP (Mid β N fr' hp')) .normal fr hps :=
  fun junk _ hS => ⟨j, lk fr junk, by rw [mkA_pick N fr junk idx, hf junk], hS.pick hn hp⟩
theorem TriQ.np (h : TriQ β N Q .normal fr hps) : TriQ β N (NP Q) .normal fr hps := fun junk w hS => h junk w hS
section maps
open Go.Maps
variable {t K E : TypeId} {b cnt : Nat} {f : Lit → Option Value} {x ix : Operand} {key z : Value} {kl : Lit} {q : Option Value}
theorem TriM.mapLookOk (p : Nat) (hop : opI ops i = some (.lookup t x ix true, d)) (hp : S[p]? = some (.abs (MapA P K b f cnt))) (hx : ∀ junk, evF N fr junk x = .map (some b)) (hix : ∀ junk, evF N fr junk ix = key) (L : Keyed P K)
    (ht : P.underlying t = some (.map K E)) (hz : ∀ w, (zeroValue E).run P w = .ok z w) (hkey : keyOf P K key = some kl) (hr : f kl = q) (K' : TriM P β N ops S r l (putF fr d (.tuple #[q.getD z, .bool q.isSome])) hps Q) : TriM P β N ops S (r + 1) (i :: l) fr hps Q := by
  subst hr
  exact TriM.read1 hop (fun _ junk w ho hS => ran_lookOk ho (MapA.get hS hp) (hx junk) (hix junk) L ht (hz w) hkey) rfl K'
theorem TriM.mapLook (p : Nat) (hop : opI ops i = some (.lookup t x ix false, d)) (hp : S[p]? = some (.abs (MapA P K b f cnt))) (hx : ∀ junk, evF N fr junk x = .map (some b)) (hix : ∀ junk, evF N fr junk ix = key) (L : Keyed P K)
    (ht : P.underlying t = some (.map K E)) (hz : ∀ w, (zeroValue E).run P w = .ok z w) (hkey : keyOf P K key = some kl) (hr : f kl = q) (hv : plainV (q.getD z) = true) (K' : TriM P β N ops S r l (putF fr d (q.getD z)) hps Q) : TriM P β N ops S (r + 1) (i :: l) fr hps Q := by
  subst hr
  exact TriM.read1 hop (fun _ junk w ho hS => ran_look ho (MapA.get hS hp) (hx junk) (hix junk) L ht (hz w) hkey) hv K'
end maps
end mix
end Go.Proofs.Ytjpdcppdoonmdaa
end
/- part GZ. PROVED HERE: nothing of its own: lines and the mixed regions' rule together. CONDITIONS: none. -/
section

end
