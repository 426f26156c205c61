/-
  PROVED HERE: lemmas and contracts of functions (texts of this repo, joined): GRef, GW, GF, GBegin, GFind, GFindR, GYa, GY, GLit, GU.
  CONDITIONS: as the theorems say.
-/
import Derived.Test.YtjpdcppdoonmdaaMOutside3
/- part GRef. PROVED HERE: the reference checks a graph CONDITIONS: as the theorems say. Printed by a program of this repo (wip/v). -/
section
namespace Go.Proofs.Ytjpdcppdoonmdaa
open Go.RowKit
attribute [local irreducible] TriL TriLQ Tri TriQ
set_option maxRecDepth 100000 in
set_option maxHeartbeats 4000000 in
theorem sp_refCheck {β : Bs} (A : Option Addr) (c : Nat) (ns : List NodeM) (L : Lay) (hG : GraphAt β A ns L) (hl : ns.length ≤ 1048576) (hd : ∀ i, i < ns.length → (nd ns i).data.length ≤ 1048576 ∧ (nd ns i).ents.length ≤ 1048576) (_ : ∀ i, i < ns.length → ∀ j, j < (nd ns i).ents.length → -9223372036854775808 ≤ (ent ns i j).id ∧ (ent ns i j).id ≤ 9223372036854775807) (hnm : ∀ i, i < ns.length → ∀ j, j < (nd ns i).ents.length → (ent ns i j).name.size ≤ 1048576) (ht : ∀ i, i < ns.length → (nd ns i).target.size ≤ 1048576) :
    Spec Try.prog β 16 #[.agg #[.slice A ns.length c]] [] (fun v l => v = .int .i64 (if GraphOk ns then 0 else 140) ∧ l = []) := by
 refine Spec.enter Try.func16 rfl Try.ntmps16 (Nat.le_of_ble_eq_true rfl) (fun R => ?_)
 refine Tri.seq (Tri.region ?_)
 refine TriL.segN (k' := 2) (fr' := fun b1 => [(1, .pointer (some ⟨b1, 0, none⟩))]) (hps' := fun b1 => [.abs R, .blk b1 [.slice A (ns.length) (c)] 24]) (obl := fun b1 => []) [o_, o_] [1] [0, 1] (fun _ _ => by kernel_rfl) (fun b1 => trivial) (fun b1 => ?_)
 refine TriL.nil (by kernel_rfl) (TriQ.next (Tri.seq (Tri.seq (Tri.region ?_))))
 refine TriL.segK (k' := 4) (fr' := [(1, .pointer (some ⟨b1, 0, none⟩)), (18, .bool (decide ((((ns.length : Nat) : Int) : Int) > (4096 : Int))))]) (obl := [b1 = b1]) [o_, ⟨[.at 1], none, none, none, none⟩, o_, o_] [1, 18] (fun _ _ => by kernel_rfl) ⟨rfl, trivial⟩ ?_
 refine TriL.nil (by kernel_rfl) (TriQ.next ?_)
 refine Tri.condP (p := (((ns.length : Nat) : Int) : Int) > (4096 : Int)) (fun _ => by kernel_rfl) (fun h18 => ?_) (fun h18 => ?_)
 ·
  refine Tri.seq (Tri.region ?_)
  refine TriL.segK (k' := 1) (fr' := [(2, .int .i64 140)]) (obl := []) [o_] [2] (fun _ _ => by kernel_rfl) trivial ?_
  refine TriL.nil (by kernel_rfl) (TriQ.next (Tri.ret (TriQ.passRet ?_)))
  exact TriQ.ret (v := .int .i64 140) (l := []) (obl := []) [] [0] (fun _ => by kernel_rfl) trivial rfl (by kernel_rfl) (⟨congrArg (Value.int .i64) (if_neg (c := GraphOk ns) (fun h => by have := h.len; omega)).symm, rfl⟩)
 ·
  refine Tri.skip (TriQ.next (Tri.seq (Tri.region ?_)))
  refine TriL.segK (k' := 1) (fr' := [(1, .pointer (some ⟨b1, 0, none⟩)), (3, .int .i64 0)]) (obl := []) [o_] [1, 3] (fun _ _ => by kernel_rfl) trivial ?_
  refine TriL.nil (by kernel_rfl) (TriQ.next (Tri.seq (Tri.seq (Tri.region ?_))))
  refine TriL.segK (k' := 1) (fr' := [(1, .pointer (some ⟨b1, 0, none⟩)), (3, .int .i64 0), (4, .int .i64 0)]) (obl := []) [o_] [1, 3, 4] (fun _ _ => by kernel_rfl) trivial ?_
  refine TriL.nil (by kernel_rfl) (TriQ.next (Tri.block ?_))
  refine Tri.loop (ι := Nat) (fun (k : Nat) => (k ≤ ns.length) ∧ (Upto ns k) ∧ (entSum ns k ≤ k * 1048576)) (fun (k : Nat) => ns.length - k) (fun (k : Nat) => [(1, .pointer (some ⟨b1, 0, none⟩)), (3, .int .i64 ↑(entSum ns k)), (4, .int .i64 ↑k)]) (fun (k : Nat) => [.blk b1 [.slice A (ns.length) (c)] 24, .abs R]) 0 (idx := [1, 3, 4]) (pk := [1, 0]) (show (0 ≤ ns.length) ∧ (Upto ns 0) ∧ (entSum ns 0 ≤ 0 * 1048576) from ⟨Nat.zero_le _, Upto.zero ns, Nat.zero_le _⟩) (fun _ => by kernel_rfl) rfl (by kernel_rfl) ?_
  rintro k ⟨hk, hu, hs⟩
  show Tri _ _ _ _ [(1, .pointer (some ⟨b1, 0, none⟩)), (3, .int .i64 ↑(entSum ns k)), (4, .int .i64 ↑k)] [.blk b1 [.slice A (ns.length) (c)] 24, .abs R] _
  have hk4 := (hd k)
  refine Tri.seq (Tri.seq (Tri.region ?_))
  refine TriL.segK (k' := 5) (fr' := [(1, .pointer (some ⟨b1, 0, none⟩)), (3, .int .i64 ↑(entSum ns k)), (4, .int .i64 ↑k), (23, .bool (decide ((((k : Nat) : Int) : Int) < (((ns.length : Nat) : Int) : Int))))]) (obl := [b1 = b1]) [o_, o_, ⟨[.at 0], none, none, none, none⟩, o_, o_] [1, 3, 4, 23] (fun _ _ => by kernel_rfl) ⟨rfl, trivial⟩ ?_
  refine TriL.nil (by kernel_rfl) (TriQ.next ?_)
  refine Tri.condP (p := (((k : Nat) : Int) : Int) < (((ns.length : Nat) : Int) : Int)) (fun _ => by kernel_rfl) (fun h23 => ?_) (fun h23 => ?_)
  ·
   refine Tri.skip (TriQ.next (Tri.seq (Tri.block (Tri.seq (Tri.region ?_)))))
   refine TriL.segN (k' := 7) (fr' := fun b2 => [(1, .pointer (some ⟨b1, 0, none⟩)), (3, .int .i64 ↑(entSum ns k)), (4, .int .i64 ↑k), (5, .pointer (some ⟨b2, 0, none⟩))]) (hps' := fun b2 => [.blk b1 [.slice A (ns.length) (c)] 24, .abs R, .blk b2 [.int .i64 ((nd ns k).id), .int .i64 ((nd ns k).kind), .int .i64 ((nd ns k).mode), .int .i64 ((nd ns k).uid), .int .i64 ((nd ns k).gid), .int .i64 ((nd ns k).sec), .int .i64 ((nd ns k).nano), .slice (L.dA k) ((nd ns k).data.length) ((L.dC k)), .string (nd ns k).target, .slice (L.eA k) ((nd ns k).ents.length) ((L.eC k))] 32]) (obl := fun b2 => [b2 = b2, b2 = b2, b2 = b2, b2 = b2, b2 = b2, b2 = b2, b2 = b2, b2 = b2, b2 = b2, b2 = b2, (Rd β ⟨(blkOf A), offOf A + k * 10 + 9, none⟩ (.slice (L.eA k) ((nd ns k).ents.length) ((L.eC k)))), (Rd β ⟨(blkOf A), offOf A + k * 10 + 8, none⟩ (.string (nd ns k).target)), (Rd β ⟨(blkOf A), offOf A + k * 10 + 7, none⟩ (.slice (L.dA k) ((nd ns k).data.length) ((L.dC k)))), (Rd β ⟨(blkOf A), offOf A + k * 10 + 6, none⟩ (.int .i64 ((nd ns k).nano))), (Rd β ⟨(blkOf A), offOf A + k * 10 + 5, none⟩ (.int .i64 ((nd ns k).sec))), (Rd β ⟨(blkOf A), offOf A + k * 10 + 4, none⟩ (.int .i64 ((nd ns k).gid))), (Rd β ⟨(blkOf A), offOf A + k * 10 + 3, none⟩ (.int .i64 ((nd ns k).uid))), (Rd β ⟨(blkOf A), offOf A + k * 10 + 2, none⟩ (.int .i64 ((nd ns k).mode))), (Rd β ⟨(blkOf A), offOf A + k * 10 + 1, none⟩ (.int .i64 ((nd ns k).kind))), (Rd β ⟨(blkOf A), offOf A + k * 10, none⟩ (.int .i64 ((nd ns k).id))), ((k : Nat) : Int) = ((k : Nat) : Int), k < ns.length, (⟨(blkOf A), offOf A, none⟩ : Addr).spot = none, (A : Option Addr) = some ⟨(blkOf A), offOf A, none⟩, b1 = b1]) [o_, ⟨[.at 0], none, none, none, none⟩, o_, ⟨[], some k, none, some ⟨(blkOf A), offOf A, none⟩, none⟩, ⟨[.old (.int .i64 ((nd ns k).id)), .old (.int .i64 ((nd ns k).kind)), .old (.int .i64 ((nd ns k).mode)), .old (.int .i64 ((nd ns k).uid)), .old (.int .i64 ((nd ns k).gid)), .old (.int .i64 ((nd ns k).sec)), .old (.int .i64 ((nd ns k).nano)), .old (.slice (L.dA k) ((nd ns k).data.length) ((L.dC k))), .old (.string (nd ns k).target), .old (.slice (L.eA k) ((nd ns k).ents.length) ((L.eC k)))], none, none, none, none⟩, o_, ⟨[.at 2, .at 2, .at 2, .at 2, .at 2, .at 2, .at 2, .at 2, .at 2, .at 2], none, none, none, none⟩] [1, 3, 4, 5] [0, 1, 2] (fun _ _ => by kernel_rfl) (fun b2 => ⟨rfl, rfl, rfl, rfl, rfl, rfl, rfl, rfl, rfl, rfl, GraphAt.rd hG (i := k) (by omega) (j := 9) rfl, GraphAt.rd hG (i := k) (by omega) (j := 8) rfl, GraphAt.rd hG (i := k) (by omega) (j := 7) rfl, GraphAt.rd hG (i := k) (by omega) (j := 6) rfl, GraphAt.rd hG (i := k) (by omega) (j := 5) rfl, GraphAt.rd hG (i := k) (by omega) (j := 4) rfl, GraphAt.rd hG (i := k) (by omega) (j := 3) rfl, GraphAt.rd hG (i := k) (by omega) (j := 2) rfl, GraphAt.rd hG (i := k) (by omega) (j := 1) rfl, GraphAt.rd hG (i := k) (by omega) (j := 0) rfl, rfl, by omega, rfl, GraphAt.hd hG (i := k) (by omega), rfl, trivial⟩) (fun b2 => ?_)
   refine TriL.nil (by kernel_rfl) (TriQ.next (Tri.seq (Tri.seq ?_)))
   refine Tri.regionQ (by kernel_rfl) (by kernel_rfl) ?_
   refine TriLQ.seg (k' := 4) (fr' := [(1, .pointer (some ⟨b1, 0, none⟩)), (3, .int .i64 ↑(entSum ns k)), (4, .int .i64 ↑k), (5, .pointer (some ⟨b2, 0, none⟩)), (34, .bool (decide (((nd ns k).id : Int) < (1 : Int))))]) (obl := [b2 = b2]) [o_, ⟨[.at 2], none, none, none, none⟩, o_, o_] [1, 3, 4, 5, 34] (fun _ _ => by kernel_rfl) ⟨rfl, trivial⟩ ?_
   refine TriLQ.slotP 34 (((nd ns k).id : Int) < (1 : Int)) (fun _ => by kernel_rfl) (fun h34 => ?_) (fun h34 => ?_)
   ·
    refine TriLQ.seg (k' := 29) (fr' := [(1, .pointer (some ⟨b1, 0, none⟩)), (3, .int .i64 ↑(entSum ns k)), (4, .int .i64 ↑k), (5, .pointer (some ⟨b2, 0, none⟩)), (59, .bool true)]) (obl := []) [o_, o_, o_, o_, o_, o_, o_, o_, o_, o_, o_, o_, o_, o_, o_, o_, o_, o_, o_, o_, o_, o_, o_, o_, o_] [1, 3, 4, 5, 59] (fun _ _ => by kernel_rfl) trivial ?_
    refine TriLQ.nil (by kernel_rfl) (TriQ.next ?_)
    refine Tri.condT (fun _ => by kernel_rfl) ?_
    refine Tri.seq (Tri.region ?_)
    refine TriL.segK (k' := 1) (fr' := [(2, .int .i64 140)]) (obl := []) [o_] [2] (fun _ _ => by kernel_rfl) trivial ?_
    refine TriL.nil (by kernel_rfl) (TriQ.next (Tri.ret (TriQ.passRet (TriQ.blockRet (TriQ.passRet (TriQ.passRet (TriQ.blockRet (TriQ.passRet ?_))))))))
    exact TriQ.ret (v := .int .i64 140) (l := []) (obl := []) [] [1] (fun _ => by kernel_rfl) trivial rfl (by kernel_rfl) (⟨congrArg (Value.int .i64) (if_neg (c := GraphOk ns) (fun h => by have := (h.ids k (by omega)).1; omega)).symm, rfl⟩)
   ·
    refine TriLQ.seg (k' := 9) (fr' := [(1, .pointer (some ⟨b1, 0, none⟩)), (3, .int .i64 ↑(entSum ns k)), (4, .int .i64 ↑k), (5, .pointer (some ⟨b2, 0, none⟩)), (39, .bool (decide (((nd ns k).id : Int) > (1099511627776 : Int))))]) (obl := [b2 = b2]) [o_, ⟨[.at 2], none, none, none, none⟩, o_, o_, o_] [1, 3, 4, 5, 39] (fun _ _ => by kernel_rfl) ⟨rfl, trivial⟩ ?_
    refine TriLQ.slotP 39 (((nd ns k).id : Int) > (1099511627776 : Int)) (fun _ => by kernel_rfl) (fun h39 => ?_) (fun h39 => ?_)
    ·
     refine TriLQ.seg (k' := 29) (fr' := [(1, .pointer (some ⟨b1, 0, none⟩)), (3, .int .i64 ↑(entSum ns k)), (4, .int .i64 ↑k), (5, .pointer (some ⟨b2, 0, none⟩)), (59, .bool true)]) (obl := []) [o_, o_, o_, o_, o_, o_, o_, o_, o_, o_, o_, o_, o_, o_, o_, o_, o_, o_, o_, o_] [1, 3, 4, 5, 59] (fun _ _ => by kernel_rfl) trivial ?_
     refine TriLQ.nil (by kernel_rfl) (TriQ.next ?_)
     refine Tri.condT (fun _ => by kernel_rfl) ?_
     refine Tri.seq (Tri.region ?_)
     refine TriL.segK (k' := 1) (fr' := [(2, .int .i64 140)]) (obl := []) [o_] [2] (fun _ _ => by kernel_rfl) trivial ?_
     refine TriL.nil (by kernel_rfl) (TriQ.next (Tri.ret (TriQ.passRet (TriQ.blockRet (TriQ.passRet (TriQ.passRet (TriQ.blockRet (TriQ.passRet ?_))))))))
     exact TriQ.ret (v := .int .i64 140) (l := []) (obl := []) [] [1] (fun _ => by kernel_rfl) trivial rfl (by kernel_rfl) (⟨congrArg (Value.int .i64) (if_neg (c := GraphOk ns) (fun h => by have := (h.ids k (by omega)).2; omega)).symm, rfl⟩)
    ·
     refine TriLQ.seg (k' := 12) (fr' := [(1, .pointer (some ⟨b1, 0, none⟩)), (3, .int .i64 ↑(entSum ns k)), (4, .int .i64 ↑k), (5, .pointer (some ⟨b2, 0, none⟩)), (39, .bool false), (42, .bool (decide ((((k : Nat) : Int) : Int) > (0 : Int))))]) (obl := []) [o_, o_, o_] [1, 3, 4, 5, 39, 42] (fun _ _ => by kernel_rfl) trivial ?_
     refine TriLQ.slotP 42 ((((k : Nat) : Int) : Int) > (0 : Int)) (fun _ => by kernel_rfl) (fun h42 => ?_) (fun h42 => ?_)
     ·
      refine TriLQ.seg (k' := 25) (fr' := [(1, .pointer (some ⟨b1, 0, none⟩)), (3, .int .i64 ↑(entSum ns k)), (4, .int .i64 ↑k), (5, .pointer (some ⟨b2, 0, none⟩)), (55, .bool (decide (((nd ns k).id : Int) ≤ ((nd ns (k - 1)).id : Int))))]) (obl := [(Rd β ⟨(blkOf A), offOf A + (k - 1) * 10, none⟩ (.int .i64 ((nd ns (k - 1)).id))), (((k - 1) : Nat) : Int) = (((k - 1) : Nat) : Int), (k - 1) < ns.length, (⟨(blkOf A), offOf A, none⟩ : Addr).spot = none, (A : Option Addr) = some ⟨(blkOf A), offOf A, none⟩, (Value.int .i64 (IntKind.wrap .i64 (((k : Nat) : Int) - 1))) = (.int .i64 ↑(k - 1)), b1 = b1, b2 = b2]) [o_, ⟨[.at 2], none, none, none, none⟩, o_, ⟨[.at 0], none, none, none, none⟩, o_, ⟨[], none, none, none, some (.int .i64 ↑(k - 1))⟩, ⟨[], some (k - 1), none, some ⟨(blkOf A), offOf A, none⟩, none⟩, o_, ⟨[.old (.int .i64 ((nd ns (k - 1)).id))], none, none, none, none⟩, o_, o_, o_, o_] [1, 3, 4, 5, 55] (fun _ _ => by kernel_rfl) ⟨GraphAt.rd hG (i := (k - 1)) (by omega) (j := 0) rfl, rfl, by omega, rfl, GraphAt.hd hG (i := (k - 1)) (by omega), wrapEq (by omega) (by omega) (by omega), rfl, rfl, trivial⟩ ?_
      refine TriLQ.slotP 55 (((nd ns k).id : Int) ≤ ((nd ns (k - 1)).id : Int)) (fun _ => by kernel_rfl) (fun h55 => ?_) (fun h55 => ?_)
      ·
       refine TriLQ.seg (k' := 29) (fr' := [(1, .pointer (some ⟨b1, 0, none⟩)), (3, .int .i64 ↑(entSum ns k)), (4, .int .i64 ↑k), (5, .pointer (some ⟨b2, 0, none⟩)), (59, .bool true)]) (obl := []) [o_, o_, o_, o_] [1, 3, 4, 5, 59] (fun _ _ => by kernel_rfl) trivial ?_
       refine TriLQ.nil (by kernel_rfl) (TriQ.next ?_)
       refine Tri.condT (fun _ => by kernel_rfl) ?_
       refine Tri.seq (Tri.region ?_)
       refine TriL.segK (k' := 1) (fr' := [(2, .int .i64 140)]) (obl := []) [o_] [2] (fun _ _ => by kernel_rfl) trivial ?_
       refine TriL.nil (by kernel_rfl) (TriQ.next (Tri.ret (TriQ.passRet (TriQ.blockRet (TriQ.passRet (TriQ.passRet (TriQ.blockRet (TriQ.passRet ?_))))))))
       exact TriQ.ret (v := .int .i64 140) (l := []) (obl := []) [] [1] (fun _ => by kernel_rfl) trivial rfl (by kernel_rfl) (⟨congrArg (Value.int .i64) (if_neg (c := GraphOk ns) (fun h => by have := h.rise (k - 1) k (by omega) (by omega); omega)).symm, rfl⟩)
      ·
       refine TriLQ.seg (k' := 26) (fr' := [(1, .pointer (some ⟨b1, 0, none⟩)), (3, .int .i64 ↑(entSum ns k)), (4, .int .i64 ↑k), (5, .pointer (some ⟨b2, 0, none⟩)), (55, .bool false), (56, .agg #[.int .i64 ((nd ns k).id), .int .i64 ((nd ns k).kind), .int .i64 ((nd ns k).mode), .int .i64 ((nd ns k).uid), .int .i64 ((nd ns k).gid), .int .i64 ((nd ns k).sec), .int .i64 ((nd ns k).nano), .slice (L.dA k) ((nd ns k).data.length) ((L.dC k)), .string (nd ns k).target, .slice (L.eA k) ((nd ns k).ents.length) ((L.eC k))])]) (obl := [b2 = b2, b2 = b2, b2 = b2, b2 = b2, b2 = b2, b2 = b2, b2 = b2, b2 = b2, b2 = b2, b2 = b2]) [⟨[.at 2, .at 2, .at 2, .at 2, .at 2, .at 2, .at 2, .at 2, .at 2, .at 2], none, none, none, none⟩] [1, 3, 4, 5, 55, 56] (fun _ _ => by kernel_rfl) ⟨rfl, rfl, rfl, rfl, rfl, rfl, rfl, rfl, rfl, rfl, trivial⟩ ?_
       refine TriLQ.call (f := 39) (args := #[.agg #[.int .i64 ((nd ns k).id), .int .i64 ((nd ns k).kind), .int .i64 ((nd ns k).mode), .int .i64 ((nd ns k).uid), .int .i64 ((nd ns k).gid), .int .i64 ((nd ns k).sec), .int .i64 ((nd ns k).nano), .slice (L.dA k) ((nd ns k).data.length) ((L.dC k)), .string (nd ns k).target, .slice (L.eA k) ((nd ns k).ents.length) ((L.eC k))]]) (d := (some 57)) (pre := []) (R := [.blk b1 [.slice A (ns.length) (c)] 24, .abs R, .blk b2 [.int .i64 ((nd ns k).id), .int .i64 ((nd ns k).kind), .int .i64 ((nd ns k).mode), .int .i64 ((nd ns k).uid), .int .i64 ((nd ns k).gid), .int .i64 ((nd ns k).sec), .int .i64 ((nd ns k).nano), .slice (L.dA k) ((nd ns k).data.length) ((L.dC k)), .string (nd ns k).target, .slice (L.eA k) ((nd ns k).ents.length) ((L.eC k))] 32]) (pk := [0, 1, 2]) (pk' := [0, 1, 2]) (v0 := .bool (decide (NodeOk (nd ns k)))) (fun _ => by kernel_rfl) (sp_plain (nd ns k) (L.dA k) (L.eA k) (L.dC k) (L.eC k) (ht k (by omega))) rfl (by kernel_rfl) rfl (by kernel_rfl) (fun _ _ h => h) ?_
       refine TriLQ.seg (k' := 29) (fr' := [(1, .pointer (some ⟨b1, 0, none⟩)), (3, .int .i64 ↑(entSum ns k)), (4, .int .i64 ↑k), (5, .pointer (some ⟨b2, 0, none⟩)), (59, .bool (!(decide (NodeOk (nd ns k)))))]) (obl := []) [o_, o_] [1, 3, 4, 5, 59] (fun _ _ => by kernel_rfl) trivial ?_
       refine TriLQ.nil (by kernel_rfl) (TriQ.next ?_)
       refine Tri.condN (p := NodeOk (nd ns k)) (fun _ => by kernel_rfl) (fun h59 => ?_) (fun h59 => ?_)
       ·
        refine Tri.seq (Tri.region ?_)
        refine TriL.segK (k' := 1) (fr' := [(2, .int .i64 140)]) (obl := []) [o_] [2] (fun _ _ => by kernel_rfl) trivial ?_
        refine TriL.nil (by kernel_rfl) (TriQ.next (Tri.ret (TriQ.passRet (TriQ.blockRet (TriQ.passRet (TriQ.passRet (TriQ.blockRet (TriQ.passRet ?_))))))))
        exact TriQ.ret (v := .int .i64 140) (l := []) (obl := []) [] [1] (fun _ => by kernel_rfl) trivial rfl (by kernel_rfl) (⟨congrArg (Value.int .i64) (if_neg (c := GraphOk ns) (fun h => by exact h59 (h.node k (by omega)))).symm, rfl⟩)
       ·
        refine Tri.skip (TriQ.next (Tri.region ?_))
        refine TriL.segK (k' := 6) (fr' := [(1, .pointer (some ⟨b1, 0, none⟩)), (3, .int .i64 ↑((entSum ns k) + ((nd ns k).ents.length))), (4, .int .i64 ↑k)]) (obl := [(Value.int .i64 (IntKind.wrap .i64 (((entSum ns k : Nat) : Int) + (((nd ns k).ents.length : Nat) : Int)))) = (.int .i64 ↑((entSum ns k) + ((nd ns k).ents.length))), b2 = b2]) [o_, o_, ⟨[.at 2], none, none, none, none⟩, o_, ⟨[], none, none, none, some (.int .i64 ↑((entSum ns k) + ((nd ns k).ents.length)))⟩, o_] [1, 3, 4] (fun _ _ => by kernel_rfl) ⟨wrapEq (by omega) (by omega) (by omega), rfl, trivial⟩ ?_
        refine TriL.nil (by kernel_rfl) (TriQ.blockNormal (TriQ.next (Tri.region ?_)))
        refine TriL.segK (k' := 3) (fr' := [(1, .pointer (some ⟨b1, 0, none⟩)), (3, .int .i64 ↑((entSum ns k) + ((nd ns k).ents.length))), (4, .int .i64 ↑(k + 1))]) (obl := [(Value.int .i64 (IntKind.wrap .i64 (((k : Nat) : Int) + 1))) = (.int .i64 ↑(k + 1))]) [o_, ⟨[], none, none, none, some (.int .i64 ↑(k + 1))⟩, o_] [1, 3, 4] (fun _ _ => by kernel_rfl) ⟨wrapEq (by omega) (by omega) (by omega), trivial⟩ ?_
        refine TriL.nil (by kernel_rfl) ?_
        exact TriQ.turn ((k + 1)) (idx := [1, 3, 4]) (pk := [0, 1]) (show (((k + 1)) ≤ ns.length) ∧ (Upto ns ((k + 1))) ∧ (entSum ns ((k + 1)) ≤ ((k + 1)) * 1048576) from ⟨by omega, hu.step (by rw [lastId_pos (by omega)]; omega) (by omega) h59, by show entSum ns k + _ ≤ _; omega⟩) (by show ns.length - ((k + 1)) < ns.length - k; omega) (fun _ => by kernel_rfl) rfl (by kernel_rfl)
     ·
      refine TriLQ.seg (k' := 26) (fr' := [(1, .pointer (some ⟨b1, 0, none⟩)), (3, .int .i64 ↑(entSum ns k)), (4, .int .i64 ↑k), (5, .pointer (some ⟨b2, 0, none⟩)), (55, .bool false), (56, .agg #[.int .i64 ((nd ns k).id), .int .i64 ((nd ns k).kind), .int .i64 ((nd ns k).mode), .int .i64 ((nd ns k).uid), .int .i64 ((nd ns k).gid), .int .i64 ((nd ns k).sec), .int .i64 ((nd ns k).nano), .slice (L.dA k) ((nd ns k).data.length) ((L.dC k)), .string (nd ns k).target, .slice (L.eA k) ((nd ns k).ents.length) ((L.eC k))])]) (obl := [b2 = b2, b2 = b2, b2 = b2, b2 = b2, b2 = b2, b2 = b2, b2 = b2, b2 = b2, b2 = b2, b2 = b2]) [o_, o_, o_, o_, o_, o_, o_, o_, o_, o_, o_, o_, o_, ⟨[.at 2, .at 2, .at 2, .at 2, .at 2, .at 2, .at 2, .at 2, .at 2, .at 2], none, none, none, none⟩] [1, 3, 4, 5, 55, 56] (fun _ _ => by kernel_rfl) ⟨rfl, rfl, rfl, rfl, rfl, rfl, rfl, rfl, rfl, rfl, trivial⟩ ?_
      refine TriLQ.call (f := 39) (args := #[.agg #[.int .i64 ((nd ns k).id), .int .i64 ((nd ns k).kind), .int .i64 ((nd ns k).mode), .int .i64 ((nd ns k).uid), .int .i64 ((nd ns k).gid), .int .i64 ((nd ns k).sec), .int .i64 ((nd ns k).nano), .slice (L.dA k) ((nd ns k).data.length) ((L.dC k)), .string (nd ns k).target, .slice (L.eA k) ((nd ns k).ents.length) ((L.eC k))]]) (d := (some 57)) (pre := []) (R := [.blk b1 [.slice A (ns.length) (c)] 24, .abs R, .blk b2 [.int .i64 ((nd ns k).id), .int .i64 ((nd ns k).kind), .int .i64 ((nd ns k).mode), .int .i64 ((nd ns k).uid), .int .i64 ((nd ns k).gid), .int .i64 ((nd ns k).sec), .int .i64 ((nd ns k).nano), .slice (L.dA k) ((nd ns k).data.length) ((L.dC k)), .string (nd ns k).target, .slice (L.eA k) ((nd ns k).ents.length) ((L.eC k))] 32]) (pk := [0, 1, 2]) (pk' := [0, 1, 2]) (v0 := .bool (decide (NodeOk (nd ns k)))) (fun _ => by kernel_rfl) (sp_plain (nd ns k) (L.dA k) (L.eA k) (L.dC k) (L.eC k) (ht k (by omega))) rfl (by kernel_rfl) rfl (by kernel_rfl) (fun _ _ h => h) ?_
      refine TriLQ.seg (k' := 29) (fr' := [(1, .pointer (some ⟨b1, 0, none⟩)), (3, .int .i64 ↑(entSum ns k)), (4, .int .i64 ↑k), (5, .pointer (some ⟨b2, 0, none⟩)), (59, .bool (!(decide (NodeOk (nd ns k)))))]) (obl := []) [o_, o_] [1, 3, 4, 5, 59] (fun _ _ => by kernel_rfl) trivial ?_
      refine TriLQ.nil (by kernel_rfl) (TriQ.next ?_)
      refine Tri.condN (p := NodeOk (nd ns k)) (fun _ => by kernel_rfl) (fun h59 => ?_) (fun h59 => ?_)
      ·
       refine Tri.seq (Tri.region ?_)
       refine TriL.segK (k' := 1) (fr' := [(2, .int .i64 140)]) (obl := []) [o_] [2] (fun _ _ => by kernel_rfl) trivial ?_
       refine TriL.nil (by kernel_rfl) (TriQ.next (Tri.ret (TriQ.passRet (TriQ.blockRet (TriQ.passRet (TriQ.passRet (TriQ.blockRet (TriQ.passRet ?_))))))))
       exact TriQ.ret (v := .int .i64 140) (l := []) (obl := []) [] [1] (fun _ => by kernel_rfl) trivial rfl (by kernel_rfl) (⟨congrArg (Value.int .i64) (if_neg (c := GraphOk ns) (fun h => by exact h59 (h.node k (by omega)))).symm, rfl⟩)
      ·
       refine Tri.skip (TriQ.next (Tri.region ?_))
       refine TriL.segK (k' := 6) (fr' := [(1, .pointer (some ⟨b1, 0, none⟩)), (3, .int .i64 ↑((entSum ns k) + ((nd ns k).ents.length))), (4, .int .i64 ↑k)]) (obl := [(Value.int .i64 (IntKind.wrap .i64 (((entSum ns k : Nat) : Int) + (((nd ns k).ents.length : Nat) : Int)))) = (.int .i64 ↑((entSum ns k) + ((nd ns k).ents.length))), b2 = b2]) [o_, o_, ⟨[.at 2], none, none, none, none⟩, o_, ⟨[], none, none, none, some (.int .i64 ↑((entSum ns k) + ((nd ns k).ents.length)))⟩, o_] [1, 3, 4] (fun _ _ => by kernel_rfl) ⟨wrapEq (by omega) (by omega) (by omega), rfl, trivial⟩ ?_
       refine TriL.nil (by kernel_rfl) (TriQ.blockNormal (TriQ.next (Tri.region ?_)))
       refine TriL.segK (k' := 3) (fr' := [(1, .pointer (some ⟨b1, 0, none⟩)), (3, .int .i64 ↑((entSum ns k) + ((nd ns k).ents.length))), (4, .int .i64 ↑(k + 1))]) (obl := [(Value.int .i64 (IntKind.wrap .i64 (((k : Nat) : Int) + 1))) = (.int .i64 ↑(k + 1))]) [o_, ⟨[], none, none, none, some (.int .i64 ↑(k + 1))⟩, o_] [1, 3, 4] (fun _ _ => by kernel_rfl) ⟨wrapEq (by omega) (by omega) (by omega), trivial⟩ ?_
       refine TriL.nil (by kernel_rfl) ?_
       exact TriQ.turn ((k + 1)) (idx := [1, 3, 4]) (pk := [0, 1]) (show (((k + 1)) ≤ ns.length) ∧ (Upto ns ((k + 1))) ∧ (entSum ns ((k + 1)) ≤ ((k + 1)) * 1048576) from ⟨by omega, hu.step (by rw [show k = 0 by omega]; rw [show k = 0 by omega] at h34; show (0 : Int) < _; omega) (by omega) h59, by show entSum ns k + _ ≤ _; omega⟩) (by show ns.length - ((k + 1)) < ns.length - k; omega) (fun _ => by kernel_rfl) rfl (by kernel_rfl)
  ·
   refine Tri.exit (TriQ.passExit (TriQ.passExit (TriQ.blockHit (TriQ.next (Tri.seq (Tri.seq (Tri.region ?_)))))))
   refine TriL.segK (k' := 2) (fr' := [(1, .pointer (some ⟨b1, 0, none⟩)), (66, .bool (decide ((((entSum ns k : Nat) : Int) : Int) > (8192 : Int))))]) (obl := []) [o_, o_] [1, 66] (fun _ _ => by kernel_rfl) trivial ?_
   refine TriL.nil (by kernel_rfl) (TriQ.next ?_)
   refine Tri.condP (p := (((entSum ns k : Nat) : Int) : Int) > (8192 : Int)) (fun _ => by kernel_rfl) (fun h66 => ?_) (fun h66 => ?_)
   ·
    refine Tri.seq (Tri.region ?_)
    refine TriL.segK (k' := 1) (fr' := [(2, .int .i64 140)]) (obl := []) [o_] [2] (fun _ _ => by kernel_rfl) trivial ?_
    refine TriL.nil (by kernel_rfl) (TriQ.next (Tri.ret (TriQ.passRet ?_)))
    exact TriQ.ret (v := .int .i64 140) (l := []) (obl := []) [] [1] (fun _ => by kernel_rfl) trivial rfl (by kernel_rfl) (⟨congrArg (Value.int .i64) (if_neg (c := GraphOk ns) (fun h => by have h1 := h.sum; rw [show ns.length = k by omega] at h1; omega)).symm, rfl⟩)
   ·
    refine Tri.skip (TriQ.next (Tri.seq (Tri.region ?_)))
    refine TriL.segK (k' := 3) (fr' := [(1, .pointer (some ⟨b1, 0, none⟩)), (69, .int .i64 ↑ns.length)]) (obl := [b1 = b1]) [o_, ⟨[.at 0], none, none, none, none⟩, o_] [1, 69] (fun _ _ => by kernel_rfl) ⟨rfl, trivial⟩ ?_
    refine TriL.makeFull (d := (some 70)) (t := 60) (e := 3) (z := .int .i64 0) (bytes := 8) (n := ns.length) (l := (.tmp 69)) (c := (.tmp 69)) (fun _ => by kernel_rfl) (fun _ => by kernel_rfl) (fun _ => by kernel_rfl) Try.underlying60 (by kernel_rfl) rfl (by omega) (by omega) (fun b3 => ?_)
    refine TriL.segK (k' := 5) (fr' := [(1, .pointer (some ⟨b1, 0, none⟩)), (6, .slice (some ⟨b3, 0, none⟩) (ns.length) (ns.length))]) (obl := []) [o_] [1, 6] (fun _ _ => by kernel_rfl) trivial ?_
    refine TriL.nil (by kernel_rfl) (TriQ.next (Tri.seq (Tri.seq (Tri.region ?_))))
    refine TriL.partEq 2 (p := .abs (RowA 3 1 (some ⟨b3, 0, none⟩) ns.length ns.length (List.replicate ns.length (.int .i64 0)))) (p' := .abs (RowA 3 1 (some ⟨b3, 0, none⟩) ns.length ns.length (intsV (List.replicate ns.length 0)))) (by kernel_rfl) (by rw [intsV, List.map_replicate]) ?_
    refine TriL.segK (k' := 1) (fr' := [(1, .pointer (some ⟨b1, 0, none⟩)), (6, .slice (some ⟨b3, 0, none⟩) (ns.length) (ns.length)), (7, .int .i64 0)]) (obl := []) [o_] [1, 6, 7] (fun _ _ => by kernel_rfl) trivial ?_
    refine TriL.nil (by kernel_rfl) (TriQ.next (Tri.block ?_))
    refine Tri.loop (ι := Nat × (List Int)) (fun ((t, pl) : Nat × (List Int)) => (t ≤ ns.length) ∧ (pl.length = ns.length) ∧ (∀ a, a < t → pl.getD a 0 = -1)) (fun ((t, pl) : Nat × (List Int)) => ns.length - t) (fun ((t, pl) : Nat × (List Int)) => [(1, .pointer (some ⟨b1, 0, none⟩)), (6, .slice (some ⟨b3, 0, none⟩) (ns.length) (ns.length)), (7, .int .i64 ↑t)]) (fun ((t, pl) : Nat × (List Int)) => [.blk b1 [.slice A (ns.length) (c)] 24, .abs (RowA 3 1 (some ⟨b3, 0, none⟩) ns.length ns.length (intsV pl)), .abs R]) (0, (List.replicate ns.length 0)) (idx := [1, 6, 7]) (pk := [0, 2, 1]) (show (0 ≤ ns.length) ∧ (((List.replicate ns.length 0)).length = ns.length) ∧ (∀ a, a < 0 → ((List.replicate ns.length 0)).getD a 0 = -1) from ⟨Nat.zero_le _, by simp, fun a ha => absurd ha (Nat.not_lt_zero a)⟩) (fun _ => by kernel_rfl) rfl (by kernel_rfl) ?_
    rintro ⟨t, pl⟩ ⟨ht2, hpl, hpa⟩
    show Tri _ _ _ _ [(1, .pointer (some ⟨b1, 0, none⟩)), (6, .slice (some ⟨b3, 0, none⟩) (ns.length) (ns.length)), (7, .int .i64 ↑t)] [.blk b1 [.slice A (ns.length) (c)] 24, .abs (RowA 3 1 (some ⟨b3, 0, none⟩) ns.length ns.length (intsV pl)), .abs R] _
    refine Tri.seq (Tri.seq (Tri.region ?_))
    refine TriL.segK (k' := 4) (fr' := [(1, .pointer (some ⟨b1, 0, none⟩)), (6, .slice (some ⟨b3, 0, none⟩) (ns.length) (ns.length)), (7, .int .i64 ↑t), (74, .bool (decide ((((t : Nat) : Int) : Int) < (((ns.length : Nat) : Int) : Int))))]) (obl := []) [o_, o_, o_, o_] [1, 6, 7, 74] (fun _ _ => by kernel_rfl) trivial ?_
    refine TriL.nil (by kernel_rfl) (TriQ.next ?_)
    refine Tri.condP (p := (((t : Nat) : Int) : Int) < (((ns.length : Nat) : Int) : Int)) (fun _ => by kernel_rfl) (fun h74 => ?_) (fun h74 => ?_)
    ·
     refine Tri.skip (TriQ.next (Tri.seq (Tri.block (Tri.region ?_))))
     refine TriL.segK (k' := 3) (fr' := [(1, .pointer (some ⟨b1, 0, none⟩)), (6, .slice (some ⟨b3, 0, none⟩) (ns.length) (ns.length)), (7, .int .i64 ↑t), (79, .pointer (some ⟨b3, t, none⟩))]) (obl := [(Value.pointer (some ⟨b3, 0 + t * 1, none⟩)) = (.pointer (some ⟨b3, t, none⟩)), ((t : Nat) : Int) = ((t : Nat) : Int), t < ns.length, (⟨b3, 0, none⟩ : Addr).spot = none]) [o_, o_, ⟨[], some t, none, none, some (.pointer (some ⟨b3, t, none⟩))⟩] [1, 6, 7, 79] (fun _ _ => by kernel_rfl) ⟨by simp, rfl, by omega, rfl, trivial⟩ ?_
     refine TriL.rowSet 1 (t) (d := none) (T := 3) (e := 3) (size := 1) (n := ns.length) (cap := ns.length) (g := b3) (xs := (intsV pl)) (u := .int .i64 (-1)) (a := (.tmp 79)) (y := (.const (.int .i64 (-1)))) (fun _ => by kernel_rfl) (by kernel_rfl) (fun _ => by kernel_rfl) (fun _ => by kernel_rfl) (by kernel_rfl) rfl (by rw [intsV, List.length_map]; omega) ?_
     refine TriL.partEq 1 (p := .abs (RowA 3 1 (some ⟨b3, 0, none⟩) ns.length ns.length ((intsV pl).set (t) (.int .i64 (-1))))) (p' := .abs (RowA 3 1 (some ⟨b3, 0, none⟩) ns.length ns.length (intsV (pl.set t (-1))))) (by kernel_rfl) (by rw [intsV_set]) ?_
     refine TriL.nil (by kernel_rfl) (TriQ.blockNormal (TriQ.next (Tri.region ?_)))
     refine TriL.segK (k' := 3) (fr' := [(1, .pointer (some ⟨b1, 0, none⟩)), (6, .slice (some ⟨b3, 0, none⟩) (ns.length) (ns.length)), (7, .int .i64 ↑(t + 1))]) (obl := [(Value.int .i64 (IntKind.wrap .i64 (((t : Nat) : Int) + 1))) = (.int .i64 ↑(t + 1))]) [o_, ⟨[], none, none, none, some (.int .i64 ↑(t + 1))⟩, o_] [1, 6, 7] (fun _ _ => by kernel_rfl) ⟨wrapEq (by omega) (by omega) (by omega), trivial⟩ ?_
     refine TriL.nil (by kernel_rfl) ?_
     exact TriQ.turn ((t + 1), (pl.set t (-1))) (idx := [1, 6, 7]) (pk := [0, 1, 2]) (show (((t + 1)) ≤ ns.length) ∧ (((pl.set t (-1))).length = ns.length) ∧ (∀ a, a < ((t + 1)) → ((pl.set t (-1))).getD a 0 = -1) from ⟨by omega, by rw [List.length_set]; exact hpl, fun a ha => (by rw [getD_set (by omega)]; by_cases e : a = t; simp [e]; rw [if_neg e]; exact hpa a (by omega))⟩) (by show ns.length - ((t + 1)) < ns.length - t; omega) (fun _ => by kernel_rfl) rfl (by kernel_rfl)
    ·
     refine Tri.exit (TriQ.passExit (TriQ.passExit (TriQ.blockHit (TriQ.next (Tri.seq (Tri.seq (Tri.region ?_)))))))
     refine TriL.segK (k' := 1) (fr' := [(1, .pointer (some ⟨b1, 0, none⟩)), (6, .slice (some ⟨b3, 0, none⟩) (ns.length) (ns.length)), (8, .int .i64 0)]) (obl := []) [o_] [1, 6, 8] (fun _ _ => by kernel_rfl) trivial ?_
     refine TriL.nil (by kernel_rfl) (TriQ.next (Tri.block ?_))
     have hrise : Rising ns := fun a b hab hb => hu.rise a b hab (by omega)
     have hsum : entSum ns ns.length ≤ 8192 := by rw [show ns.length = k by omega]; omega
     refine Tri.loop (ι := Nat × (List Int)) (fun ((i, pl1) : Nat × (List Int)) => (i ≤ ns.length) ∧ (∀ a, a < i → ∀ j, j < (nd ns a).ents.length → EntOk ns a j) ∧ (((allE ns i).map Prod.fst).Nodup) ∧ (Par ns.length pl1 (allE ns i))) (fun ((i, pl1) : Nat × (List Int)) => ns.length - i) (fun ((i, pl1) : Nat × (List Int)) => [(1, .pointer (some ⟨b1, 0, none⟩)), (6, .slice (some ⟨b3, 0, none⟩) (ns.length) (ns.length)), (8, .int .i64 ↑i)]) (fun ((i, pl1) : Nat × (List Int)) => [.blk b1 [.slice A (ns.length) (c)] 24, .abs (RowA 3 1 (some ⟨b3, 0, none⟩) ns.length ns.length (intsV pl1)), .abs R]) (0, pl) (idx := [1, 6, 8]) (pk := [0, 1, 2]) (show (0 ≤ ns.length) ∧ (∀ a, a < 0 → ∀ j, j < (nd ns a).ents.length → EntOk ns a j) ∧ (((allE ns 0).map Prod.fst).Nodup) ∧ (Par ns.length pl (allE ns 0)) from ⟨Nat.zero_le _, fun a ha => absurd ha (Nat.not_lt_zero a), List.nodup_nil, ⟨hpl, fun a ha => hpa a (by omega)⟩⟩) (fun _ => by kernel_rfl) rfl (by kernel_rfl) ?_
     rintro ⟨i, pl1⟩ ⟨hi, hents, hnd, hpar⟩
     show Tri _ _ _ _ [(1, .pointer (some ⟨b1, 0, none⟩)), (6, .slice (some ⟨b3, 0, none⟩) (ns.length) (ns.length)), (8, .int .i64 ↑i)] [.blk b1 [.slice A (ns.length) (c)] 24, .abs (RowA 3 1 (some ⟨b3, 0, none⟩) ns.length ns.length (intsV pl1)), .abs R] _
     refine Tri.seq (Tri.seq (Tri.region ?_))
     refine TriL.segK (k' := 5) (fr' := [(1, .pointer (some ⟨b1, 0, none⟩)), (6, .slice (some ⟨b3, 0, none⟩) (ns.length) (ns.length)), (8, .int .i64 ↑i), (84, .bool (decide ((((i : Nat) : Int) : Int) < (((ns.length : Nat) : Int) : Int))))]) (obl := [b1 = b1]) [o_, o_, ⟨[.at 0], none, none, none, none⟩, o_, o_] [1, 6, 8, 84] (fun _ _ => by kernel_rfl) ⟨rfl, trivial⟩ ?_
     refine TriL.nil (by kernel_rfl) (TriQ.next ?_)
     refine Tri.condP (p := (((i : Nat) : Int) : Int) < (((ns.length : Nat) : Int) : Int)) (fun _ => by kernel_rfl) (fun h84 => ?_) (fun h84 => ?_)
     ·
      refine Tri.skip (TriQ.next (Tri.seq (Tri.block (Tri.seq (Tri.region ?_)))))
      refine TriL.segK (k' := 1) (fr' := [(1, .pointer (some ⟨b1, 0, none⟩)), (6, .slice (some ⟨b3, 0, none⟩) (ns.length) (ns.length)), (8, .int .i64 ↑i), (9, .int .i64 0)]) (obl := []) [o_] [1, 6, 8, 9] (fun _ _ => by kernel_rfl) trivial ?_
      refine TriL.nil (by kernel_rfl) (TriQ.next (Tri.block ?_))
      refine Tri.loop (ι := Nat × (List Int)) (fun ((j, pl2) : Nat × (List Int)) => (j ≤ (nd ns i).ents.length) ∧ (∀ t, t < j → EntOk ns i t) ∧ (((rowE ns i j ++ allE ns i).map Prod.fst).Nodup) ∧ (Par ns.length pl2 (rowE ns i j ++ allE ns i))) (fun ((j, pl2) : Nat × (List Int)) => (nd ns i).ents.length - j) (fun ((j, pl2) : Nat × (List Int)) => [(1, .pointer (some ⟨b1, 0, none⟩)), (6, .slice (some ⟨b3, 0, none⟩) (ns.length) (ns.length)), (8, .int .i64 ↑i), (9, .int .i64 ↑j)]) (fun ((j, pl2) : Nat × (List Int)) => [.blk b1 [.slice A (ns.length) (c)] 24, .abs (RowA 3 1 (some ⟨b3, 0, none⟩) ns.length ns.length (intsV pl2)), .abs R]) (0, pl1) (idx := [1, 6, 8, 9]) (pk := [0, 1, 2]) (show (0 ≤ (nd ns i).ents.length) ∧ (∀ t, t < 0 → EntOk ns i t) ∧ (((rowE ns i 0 ++ allE ns i).map Prod.fst).Nodup) ∧ (Par ns.length pl1 (rowE ns i 0 ++ allE ns i)) from ⟨Nat.zero_le _, fun t ht => absurd ht (Nat.not_lt_zero t), hnd, hpar⟩) (fun _ => by kernel_rfl) rfl (by kernel_rfl) ?_
      rintro ⟨j, pl2⟩ ⟨hj, hok, hnd2, hpar2⟩
      show Tri _ _ _ _ [(1, .pointer (some ⟨b1, 0, none⟩)), (6, .slice (some ⟨b3, 0, none⟩) (ns.length) (ns.length)), (8, .int .i64 ↑i), (9, .int .i64 ↑j)] [.blk b1 [.slice A (ns.length) (c)] 24, .abs (RowA 3 1 (some ⟨b3, 0, none⟩) ns.length ns.length (intsV pl2)), .abs R] _
      have hd3 := (hd i (by omega)).2
      have hln := hpar2.len
      refine Tri.seq (Tri.seq (Tri.region ?_))
      refine TriL.segK (k' := 9) (fr' := [(1, .pointer (some ⟨b1, 0, none⟩)), (6, .slice (some ⟨b3, 0, none⟩) (ns.length) (ns.length)), (8, .int .i64 ↑i), (9, .int .i64 ↑j), (95, .bool (decide ((((j : Nat) : Int) : Int) < ((((nd ns i).ents.length : Nat) : Int) : Int))))]) (obl := [(Rd β ⟨(blkOf A), offOf A + i * 10 + 9, none⟩ (.slice (L.eA i) ((nd ns i).ents.length) ((L.eC i)))), ((i : Nat) : Int) = ((i : Nat) : Int), i < ns.length, (⟨(blkOf A), offOf A, none⟩ : Addr).spot = none, (A : Option Addr) = some ⟨(blkOf A), offOf A, none⟩, b1 = b1]) [o_, o_, ⟨[.at 0], none, none, none, none⟩, o_, ⟨[], some i, none, some ⟨(blkOf A), offOf A, none⟩, none⟩, o_, ⟨[.old (.slice (L.eA i) ((nd ns i).ents.length) ((L.eC i)))], none, none, none, none⟩, o_, o_] [1, 6, 8, 9, 95] (fun _ _ => by kernel_rfl) ⟨GraphAt.rd hG (i := i) (by omega) (j := 9) rfl, rfl, by omega, rfl, GraphAt.hd hG (i := i) (by omega), rfl, trivial⟩ ?_
      refine TriL.nil (by kernel_rfl) (TriQ.next ?_)
      refine Tri.condP (p := (((j : Nat) : Int) : Int) < ((((nd ns i).ents.length : Nat) : Int) : Int)) (fun _ => by kernel_rfl) (fun h95 => ?_) (fun h95 => ?_)
      ·
       refine Tri.skip (TriQ.next (Tri.seq (Tri.block (Tri.seq (Tri.region ?_)))))
       refine TriL.segN (k' := 11) (fr' := fun b4 => [(1, .pointer (some ⟨b1, 0, none⟩)), (6, .slice (some ⟨b3, 0, none⟩) (ns.length) (ns.length)), (8, .int .i64 ↑i), (9, .int .i64 ↑j), (10, .pointer (some ⟨b4, 0, none⟩))]) (hps' := fun b4 => [.blk b1 [.slice A (ns.length) (c)] 24, .abs (RowA 3 1 (some ⟨b3, 0, none⟩) ns.length ns.length (intsV pl2)), .abs R, .blk b4 [.string (en (nd ns i).ents j).name, .int .i64 ((en (nd ns i).ents j).id)] 72]) (obl := fun b4 => [b4 = b4, b4 = b4, (Rd β ⟨(blkOf (L.eA i)), offOf (L.eA i) + j * 2 + 1, none⟩ (.int .i64 ((en (nd ns i).ents j).id))), (Rd β ⟨(blkOf (L.eA i)), offOf (L.eA i) + j * 2, none⟩ (.string (en (nd ns i).ents j).name)), ((j : Nat) : Int) = ((j : Nat) : Int), j < (nd ns i).ents.length, (⟨(blkOf (L.eA i)), offOf (L.eA i), none⟩ : Addr).spot = none, ((L.eA i) : Option Addr) = some ⟨(blkOf (L.eA i)), offOf (L.eA i), none⟩, (Rd β ⟨(blkOf A), offOf A + i * 10 + 9, none⟩ (.slice (L.eA i) ((nd ns i).ents.length) ((L.eC i)))), ((i : Nat) : Int) = ((i : Nat) : Int), i < ns.length, (⟨(blkOf A), offOf A, none⟩ : Addr).spot = none, (A : Option Addr) = some ⟨(blkOf A), offOf A, none⟩, b1 = b1]) [o_, ⟨[.at 0], none, none, none, none⟩, o_, ⟨[], some i, none, some ⟨(blkOf A), offOf A, none⟩, none⟩, o_, ⟨[.old (.slice (L.eA i) ((nd ns i).ents.length) ((L.eC i)))], none, none, none, none⟩, o_, ⟨[], some j, none, some ⟨(blkOf (L.eA i)), offOf (L.eA i), none⟩, none⟩, ⟨[.old (.string (en (nd ns i).ents j).name), .old (.int .i64 ((en (nd ns i).ents j).id))], none, none, none, none⟩, o_, ⟨[.at 3, .at 3], none, none, none, none⟩] [1, 6, 8, 9, 10] [0, 1, 2, 3] (fun _ _ => by kernel_rfl) (fun b4 => ⟨rfl, rfl, EntsAt.rd (hG.ents i (by omega)) (i := j) (by omega) (j := 1) rfl, EntsAt.rd (hG.ents i (by omega)) (i := j) (by omega) (j := 0) rfl, rfl, by omega, rfl, EntsAt.hd (hG.ents i (by omega)) (i := j) (by omega), GraphAt.rd hG (i := i) (by omega) (j := 9) rfl, rfl, by omega, rfl, GraphAt.hd hG (i := i) (by omega), rfl, trivial⟩) (fun b4 => ?_)
       refine TriL.nil (by kernel_rfl) (TriQ.next (Tri.seq (Tri.region ?_)))
       refine TriL.segK (k' := 3) (fr' := [(1, .pointer (some ⟨b1, 0, none⟩)), (6, .slice (some ⟨b3, 0, none⟩) (ns.length) (ns.length)), (8, .int .i64 ↑i), (9, .int .i64 ↑j), (10, .pointer (some ⟨b4, 0, none⟩)), (107, .agg #[.slice A (ns.length) (c)]), (109, .int .i64 ((en (nd ns i).ents j).id))]) (obl := [b4 = b4, b1 = b1]) [⟨[.at 0], none, none, none, none⟩, o_, ⟨[.at 3], none, none, none, none⟩] [1, 6, 8, 9, 10, 107, 109] (fun _ _ => by kernel_rfl) ⟨rfl, rfl, trivial⟩ ?_
       refine TriL.call (f := 29) (args := #[.agg #[.slice A (ns.length) (c)], .int .i64 ((en (nd ns i).ents j).id)]) (d := (some 110)) (pre := []) (R := [.blk b1 [.slice A (ns.length) (c)] 24, .abs (RowA 3 1 (some ⟨b3, 0, none⟩) ns.length ns.length (intsV pl2)), .abs R, .blk b4 [.string (en (nd ns i).ents j).name, .int .i64 ((en (nd ns i).ents j).id)] 72]) (pk := [0, 1, 2, 3]) (fun _ => by kernel_rfl) (sp_at A c ns L hG hrise hl (en (nd ns i).ents j).id) rfl (by kernel_rfl) ?_
       rintro _ _ ⟨rfl, rfl⟩
       refine TriL.segK (k' := 5) (fr' := [(1, .pointer (some ⟨b1, 0, none⟩)), (6, .slice (some ⟨b3, 0, none⟩) (ns.length) (ns.length)), (8, .int .i64 ↑i), (9, .int .i64 ↑j), (10, .pointer (some ⟨b4, 0, none⟩)), (11, .int .i64 (atI ns (en (nd ns i).ents j).id))]) (obl := []) [o_] [1, 6, 8, 9, 10, 11] (fun _ _ => by kernel_rfl) trivial ?_
       refine TriL.nil (by kernel_rfl) (TriQ.next (Tri.seq (Tri.seq ?_)))
       refine Tri.regionQ (by kernel_rfl) (by kernel_rfl) ?_
       refine TriLQ.seg (k' := 3) (fr' := [(1, .pointer (some ⟨b1, 0, none⟩)), (6, .slice (some ⟨b3, 0, none⟩) (ns.length) (ns.length)), (8, .int .i64 ↑i), (9, .int .i64 ↑j), (10, .pointer (some ⟨b4, 0, none⟩)), (11, .int .i64 (atI ns (en (nd ns i).ents j).id)), (113, .bool (decide ((atI ns (en (nd ns i).ents j).id : Int) < (0 : Int))))]) (obl := []) [o_, o_, o_] [1, 6, 8, 9, 10, 11, 113] (fun _ _ => by kernel_rfl) trivial ?_
       refine TriLQ.slotP 113 ((atI ns (en (nd ns i).ents j).id : Int) < (0 : Int)) (fun _ => by kernel_rfl) (fun h113 => ?_) (fun h113 => ?_)
       ·
        refine TriLQ.seg (k' := 28) (fr' := [(1, .pointer (some ⟨b1, 0, none⟩)), (6, .slice (some ⟨b3, 0, none⟩) (ns.length) (ns.length)), (8, .int .i64 ↑i), (9, .int .i64 ↑j), (11, .int .i64 (atI ns (en (nd ns i).ents j).id)), (138, .bool true)]) (obl := []) [o_, o_, o_, o_, o_, o_, o_, o_, o_, o_, o_, o_, o_, o_, o_, o_, o_, o_, o_, o_, o_, o_, o_, o_, o_] [1, 6, 8, 9, 11, 138] (fun _ _ => by kernel_rfl) trivial ?_
        refine TriLQ.nil (by kernel_rfl) (TriQ.next ?_)
        refine Tri.condT (fun _ => by kernel_rfl) ?_
        refine Tri.seq (Tri.region ?_)
        refine TriL.segK (k' := 1) (fr' := [(2, .int .i64 140)]) (obl := []) [o_] [2] (fun _ _ => by kernel_rfl) trivial ?_
        refine TriL.nil (by kernel_rfl) (TriQ.next (Tri.ret (TriQ.passRet (TriQ.blockRet (TriQ.passRet (TriQ.passRet (TriQ.blockRet (TriQ.blockRet (TriQ.passRet (TriQ.passRet (TriQ.blockRet (TriQ.passRet ?_))))))))))))
        exact TriQ.ret (v := .int .i64 140) (l := []) (obl := []) [] [2] (fun _ => by kernel_rfl) trivial rfl (by kernel_rfl) (⟨congrArg (Value.int .i64) (if_neg (c := GraphOk ns) (fun h => by have h1 := (h.ents i (by omega) j (by omega)).at_; change 0 ≤ atI ns (en (nd ns i).ents j).id at h1; omega)).symm, rfl⟩)
       ·
        have htl := atI_lt (Int.not_lt.1 h113)
        refine TriLQ.seg (k' := 5) (fr' := [(1, .pointer (some ⟨b1, 0, none⟩)), (6, .slice (some ⟨b3, 0, none⟩) (ns.length) (ns.length)), (8, .int .i64 ↑i), (9, .int .i64 ↑j), (10, .pointer (some ⟨b4, 0, none⟩)), (11, .int .i64 (atI ns (en (nd ns i).ents j).id)), (113, .bool false), (115, .string (en (nd ns i).ents j).name)]) (obl := [b4 = b4]) [o_, ⟨[.at 3], none, none, none, none⟩] [1, 6, 8, 9, 10, 11, 113, 115] (fun _ _ => by kernel_rfl) ⟨rfl, trivial⟩ ?_
        refine TriLQ.call (f := 40) (args := #[.string (en (nd ns i).ents j).name]) (d := (some 116)) (pre := []) (R := [.blk b1 [.slice A (ns.length) (c)] 24, .abs (RowA 3 1 (some ⟨b3, 0, none⟩) ns.length ns.length (intsV pl2)), .abs R, .blk b4 [.string (en (nd ns i).ents j).name, .int .i64 ((en (nd ns i).ents j).id)] 72]) (pk := [0, 1, 2, 3]) (pk' := [0, 1, 2, 3]) (v0 := .bool (decide (GoodName (en (nd ns i).ents j).name))) (fun _ => by kernel_rfl) (sp_refGood (en (nd ns i).ents j).name (hnm i (by omega) j (by omega))) rfl (by kernel_rfl) rfl (by kernel_rfl) (fun _ _ h => h) ?_
        refine TriLQ.seg (k' := 9) (fr' := [(1, .pointer (some ⟨b1, 0, none⟩)), (6, .slice (some ⟨b3, 0, none⟩) (ns.length) (ns.length)), (8, .int .i64 ↑i), (9, .int .i64 ↑j), (10, .pointer (some ⟨b4, 0, none⟩)), (11, .int .i64 (atI ns (en (nd ns i).ents j).id)), (119, .bool (!(decide (GoodName (en (nd ns i).ents j).name))))]) (obl := []) [o_, o_, o_] [1, 6, 8, 9, 10, 11, 119] (fun _ _ => by kernel_rfl) trivial ?_
        refine TriLQ.slotN 119 (GoodName (en (nd ns i).ents j).name) (fun _ => by kernel_rfl) (fun h119 => ?_) (fun h119 => ?_)
        ·
         refine TriLQ.seg (k' := 28) (fr' := [(1, .pointer (some ⟨b1, 0, none⟩)), (6, .slice (some ⟨b3, 0, none⟩) (ns.length) (ns.length)), (8, .int .i64 ↑i), (9, .int .i64 ↑j), (11, .int .i64 (atI ns (en (nd ns i).ents j).id)), (138, .bool true)]) (obl := []) [o_, o_, o_, o_, o_, o_, o_, o_, o_, o_, o_, o_, o_, o_, o_, o_, o_, o_, o_] [1, 6, 8, 9, 11, 138] (fun _ _ => by kernel_rfl) trivial ?_
         refine TriLQ.nil (by kernel_rfl) (TriQ.next ?_)
         refine Tri.condT (fun _ => by kernel_rfl) ?_
         refine Tri.seq (Tri.region ?_)
         refine TriL.segK (k' := 1) (fr' := [(2, .int .i64 140)]) (obl := []) [o_] [2] (fun _ _ => by kernel_rfl) trivial ?_
         refine TriL.nil (by kernel_rfl) (TriQ.next (Tri.ret (TriQ.passRet (TriQ.blockRet (TriQ.passRet (TriQ.passRet (TriQ.blockRet (TriQ.blockRet (TriQ.passRet (TriQ.passRet (TriQ.blockRet (TriQ.passRet ?_))))))))))))
         exact TriQ.ret (v := .int .i64 140) (l := []) (obl := []) [] [2] (fun _ => by kernel_rfl) trivial rfl (by kernel_rfl) (⟨congrArg (Value.int .i64) (if_neg (c := GraphOk ns) (fun h => by exact h119 (h.ents i (by omega) j (by omega)).good)).symm, rfl⟩)
        ·
         refine TriLQ.seg (k' := 12) (fr' := [(1, .pointer (some ⟨b1, 0, none⟩)), (6, .slice (some ⟨b3, 0, none⟩) (ns.length) (ns.length)), (8, .int .i64 ↑i), (9, .int .i64 ↑j), (10, .pointer (some ⟨b4, 0, none⟩)), (11, .int .i64 (atI ns (en (nd ns i).ents j).id)), (119, .bool false), (122, .bool (decide ((((j : Nat) : Int) : Int) > (0 : Int))))]) (obl := []) [o_, o_, o_] [1, 6, 8, 9, 10, 11, 119, 122] (fun _ _ => by kernel_rfl) trivial ?_
         refine TriLQ.slotP 122 ((((j : Nat) : Int) : Int) > (0 : Int)) (fun _ => by kernel_rfl) (fun h122 => ?_) (fun h122 => ?_)
         ·
          refine TriLQ.seg (k' := 28) (fr' := [(1, .pointer (some ⟨b1, 0, none⟩)), (6, .slice (some ⟨b3, 0, none⟩) (ns.length) (ns.length)), (8, .int .i64 ↑i), (9, .int .i64 ↑j), (11, .int .i64 (atI ns (en (nd ns i).ents j).id)), (138, .bool (decide (strLe ((en (nd ns i).ents j).name) ((en (nd ns i).ents (j - 1)).name))))]) (obl := [(Value.bool (Op.bytesLess (((en (nd ns i).ents j).name) : ByteArray).toList (((en (nd ns i).ents (j - 1)).name) : ByteArray).toList || (((en (nd ns i).ents j).name) : ByteArray).toList == (((en (nd ns i).ents (j - 1)).name) : ByteArray).toList)) = (.bool (decide (strLe ((en (nd ns i).ents j).name) ((en (nd ns i).ents (j - 1)).name)))), (Rd β ⟨(blkOf (L.eA i)), offOf (L.eA i) + (j - 1) * 2, none⟩ (.string (en (nd ns i).ents (j - 1)).name)), (((j - 1) : Nat) : Int) = (((j - 1) : Nat) : Int), (j - 1) < (nd ns i).ents.length, (⟨(blkOf (L.eA i)), offOf (L.eA i), none⟩ : Addr).spot = none, ((L.eA i) : Option Addr) = some ⟨(blkOf (L.eA i)), offOf (L.eA i), none⟩, (Value.int .i64 (IntKind.wrap .i64 (((j : Nat) : Int) - 1))) = (.int .i64 ↑(j - 1)), (Rd β ⟨(blkOf A), offOf A + i * 10 + 9, none⟩ (.slice (L.eA i) ((nd ns i).ents.length) ((L.eC i)))), ((i : Nat) : Int) = ((i : Nat) : Int), i < ns.length, (⟨(blkOf A), offOf A, none⟩ : Addr).spot = none, (A : Option Addr) = some ⟨(blkOf A), offOf A, none⟩, b1 = b1, b4 = b4]) [o_, ⟨[.at 3], none, none, none, none⟩, o_, ⟨[.at 0], none, none, none, none⟩, o_, ⟨[], some i, none, some ⟨(blkOf A), offOf A, none⟩, none⟩, o_, ⟨[.old (.slice (L.eA i) ((nd ns i).ents.length) ((L.eC i)))], none, none, none, none⟩, o_, ⟨[], none, none, none, some (.int .i64 ↑(j - 1))⟩, ⟨[], some (j - 1), none, some ⟨(blkOf (L.eA i)), offOf (L.eA i), none⟩, none⟩, o_, ⟨[.old (.string (en (nd ns i).ents (j - 1)).name)], none, none, none, none⟩, ⟨[], none, none, none, some (.bool (decide (strLe ((en (nd ns i).ents j).name) ((en (nd ns i).ents (j - 1)).name))))⟩, o_, o_] [1, 6, 8, 9, 11, 138] (fun _ _ => by kernel_rfl) ⟨strLeV _ _, EntsAt.rd (hG.ents i (by omega)) (i := (j - 1)) (by omega) (j := 0) rfl, rfl, by omega, rfl, EntsAt.hd (hG.ents i (by omega)) (i := (j - 1)) (by omega), wrapEq (by omega) (by omega) (by omega), GraphAt.rd hG (i := i) (by omega) (j := 9) rfl, rfl, by omega, rfl, GraphAt.hd hG (i := i) (by omega), rfl, rfl, trivial⟩ ?_
          refine TriLQ.nil (by kernel_rfl) (TriQ.next ?_)
          refine Tri.condP (p := strLe ((en (nd ns i).ents j).name) ((en (nd ns i).ents (j - 1)).name)) (fun _ => by kernel_rfl) (fun h138 => ?_) (fun h138 => ?_)
          ·
           refine Tri.seq (Tri.region ?_)
           refine TriL.segK (k' := 1) (fr' := [(2, .int .i64 140)]) (obl := []) [o_] [2] (fun _ _ => by kernel_rfl) trivial ?_
           refine TriL.nil (by kernel_rfl) (TriQ.next (Tri.ret (TriQ.passRet (TriQ.blockRet (TriQ.passRet (TriQ.passRet (TriQ.blockRet (TriQ.blockRet (TriQ.passRet (TriQ.passRet (TriQ.blockRet (TriQ.passRet ?_))))))))))))
           exact TriQ.ret (v := .int .i64 140) (l := []) (obl := []) [] [2] (fun _ => by kernel_rfl) trivial rfl (by kernel_rfl) (⟨congrArg (Value.int .i64) (if_neg (c := GraphOk ns) (fun h => by have h1 := (h.ents i (by omega) j (by omega)).ord; rw [prevName_pos (by omega)] at h1; exact h1 h138)).symm, rfl⟩)
          ·
           refine Tri.skip (TriQ.next (Tri.seq (Tri.region ?_)))
           refine TriL.segK (k' := 7) (fr' := [(1, .pointer (some ⟨b1, 0, none⟩)), (6, .slice (some ⟨b3, 0, none⟩) (ns.length) (ns.length)), (8, .int .i64 ↑i), (9, .int .i64 ↑j), (11, .int .i64 (atI ns (en (nd ns i).ents j).id)), (145, .bool (decide (((nd ns (tgt ns (en (nd ns i).ents j).id)).kind : Int) = (2 : Int))))]) (obl := [(Rd β ⟨(blkOf A), offOf A + (tgt ns (en (nd ns i).ents j).id) * 10 + 1, none⟩ (.int .i64 ((nd ns (tgt ns (en (nd ns i).ents j).id)).kind))), atI ns (en (nd ns i).ents j).id = (((tgt ns (en (nd ns i).ents j).id) : Nat) : Int), (tgt ns (en (nd ns i).ents j).id) < ns.length, (⟨(blkOf A), offOf A, none⟩ : Addr).spot = none, (A : Option Addr) = some ⟨(blkOf A), offOf A, none⟩, b1 = b1]) [o_, ⟨[.at 0], none, none, none, none⟩, o_, ⟨[], some (tgt ns (en (nd ns i).ents j).id), none, some ⟨(blkOf A), offOf A, none⟩, none⟩, o_, ⟨[.old (.int .i64 ((nd ns (tgt ns (en (nd ns i).ents j).id)).kind))], none, none, none, none⟩, o_] [1, 6, 8, 9, 11, 145] (fun _ _ => by kernel_rfl) ⟨GraphAt.rd hG (i := (tgt ns (en (nd ns i).ents j).id)) (by omega) (j := 1) rfl, htl.2.2, by omega, rfl, GraphAt.hd hG (i := (tgt ns (en (nd ns i).ents j).id)) (by omega), rfl, trivial⟩ ?_
           refine TriL.nil (by kernel_rfl) (TriQ.next ?_)
           refine Tri.condP (p := ((nd ns (tgt ns (en (nd ns i).ents j).id)).kind : Int) = (2 : Int)) (fun _ => by kernel_rfl) (fun h145 => ?_) (fun h145 => ?_)
           ·
            refine Tri.seq (Tri.seq (Tri.region ?_))
            refine TriL.segK (k' := 5) (fr' := [(1, .pointer (some ⟨b1, 0, none⟩)), (6, .slice (some ⟨b3, 0, none⟩) (ns.length) (ns.length)), (8, .int .i64 ↑i), (9, .int .i64 ↑j), (11, .int .i64 (atI ns (en (nd ns i).ents j).id)), (150, .bool (decide (((pl2.getD (tgt ns (en (nd ns i).ents j).id) 0) : Int) ≥ (0 : Int))))]) (obl := [(∀ F w, (RowA 3 1 (some ⟨b3, 0, none⟩) ns.length ns.length (intsV pl2)).h F w → w.cell? ⟨b3, (tgt ns (en (nd ns i).ents j).id), none⟩ = some (.int .i64 ((pl2.getD (tgt ns (en (nd ns i).ents j).id) 0)))), (Value.pointer (some ⟨b3, 0 + (tgt ns (en (nd ns i).ents j).id) * 1, none⟩)) = (.pointer (some ⟨b3, (tgt ns (en (nd ns i).ents j).id), none⟩)), atI ns (en (nd ns i).ents j).id = (((tgt ns (en (nd ns i).ents j).id) : Nat) : Int), (tgt ns (en (nd ns i).ents j).id) < ns.length, (⟨b3, 0, none⟩ : Addr).spot = none]) [o_, o_, ⟨[], some (tgt ns (en (nd ns i).ents j).id), none, none, some (.pointer (some ⟨b3, (tgt ns (en (nd ns i).ents j).id), none⟩))⟩, ⟨[.view 1 (.int .i64 ((pl2.getD (tgt ns (en (nd ns i).ents j).id) 0)))], none, none, none, none⟩, o_] [1, 6, 8, 9, 11, 150] (fun _ _ => by kernel_rfl) ⟨RowA.cell (intsV_get (by omega)), by simp, htl.2.2, by omega, rfl, trivial⟩ ?_
            refine TriL.nil (by kernel_rfl) (TriQ.next ?_)
            refine Tri.condP (p := ((pl2.getD (tgt ns (en (nd ns i).ents j).id) 0) : Int) ≥ (0 : Int)) (fun _ => by kernel_rfl) (fun h150 => ?_) (fun h150 => ?_)
            ·
             refine Tri.seq (Tri.region ?_)
             refine TriL.segK (k' := 1) (fr' := [(2, .int .i64 140)]) (obl := []) [o_] [2] (fun _ _ => by kernel_rfl) trivial ?_
             refine TriL.nil (by kernel_rfl) (TriQ.next (Tri.ret (TriQ.passRet (TriQ.blockRet (TriQ.passRet (TriQ.passRet (TriQ.blockRet (TriQ.blockRet (TriQ.passRet (TriQ.passRet (TriQ.blockRet (TriQ.passRet ?_))))))))))))
             exact TriQ.ret (v := .int .i64 140) (l := []) (obl := []) [] [2] (fun _ => by kernel_rfl) trivial rfl (by kernel_rfl) (⟨congrArg (Value.int .i64) (if_neg (c := GraphOk ns) (fun h => by have h1 : parI (rowE ns i j ++ allE ns i) (tgt ns (en (nd ns i).ents j).id) < 0 := parI_none.2 (rowOk_fresh (h.row (by omega)) (by omega) h145); rw [← hpar2.at_ (tgt ns (en (nd ns i).ents j).id) (by omega)] at h1; omega)).symm, rfl⟩)
            ·
             refine Tri.skip (TriQ.next (Tri.region ?_))
             refine TriL.segK (k' := 4) (fr' := [(1, .pointer (some ⟨b1, 0, none⟩)), (6, .slice (some ⟨b3, 0, none⟩) (ns.length) (ns.length)), (8, .int .i64 ↑i), (9, .int .i64 ↑j), (153, .int .i64 ↑i), (154, .pointer (some ⟨b3, (tgt ns (en (nd ns i).ents j).id), none⟩))]) (obl := [(Value.pointer (some ⟨b3, 0 + (tgt ns (en (nd ns i).ents j).id) * 1, none⟩)) = (.pointer (some ⟨b3, (tgt ns (en (nd ns i).ents j).id), none⟩)), atI ns (en (nd ns i).ents j).id = (((tgt ns (en (nd ns i).ents j).id) : Nat) : Int), (tgt ns (en (nd ns i).ents j).id) < ns.length, (⟨b3, 0, none⟩ : Addr).spot = none]) [o_, o_, o_, ⟨[], some (tgt ns (en (nd ns i).ents j).id), none, none, some (.pointer (some ⟨b3, (tgt ns (en (nd ns i).ents j).id), none⟩))⟩] [1, 6, 8, 9, 153, 154] (fun _ _ => by kernel_rfl) ⟨by simp, htl.2.2, by omega, rfl, trivial⟩ ?_
             refine TriL.rowSet 1 ((tgt ns (en (nd ns i).ents j).id)) (d := none) (T := 3) (e := 3) (size := 1) (n := ns.length) (cap := ns.length) (g := b3) (xs := (intsV pl2)) (u := .int .i64 ↑i) (a := (.tmp 154)) (y := (.tmp 153)) (fun _ => by kernel_rfl) (by kernel_rfl) (fun _ => by kernel_rfl) (fun _ => by kernel_rfl) (by kernel_rfl) rfl (by rw [intsV, List.length_map]; omega) ?_
             refine TriL.partEq 1 (p := .abs (RowA 3 1 (some ⟨b3, 0, none⟩) ns.length ns.length ((intsV pl2).set ((tgt ns (en (nd ns i).ents j).id)) (.int .i64 ↑i)))) (p' := .abs (RowA 3 1 (some ⟨b3, 0, none⟩) ns.length ns.length (intsV (pl2.set (tgt ns (en (nd ns i).ents j).id) ((i : Nat) : Int))))) (by kernel_rfl) (by rw [intsV_set]) ?_
             refine TriL.nil (by kernel_rfl) (TriQ.blockNormal (TriQ.next (Tri.region ?_)))
             refine TriL.segK (k' := 3) (fr' := [(1, .pointer (some ⟨b1, 0, none⟩)), (6, .slice (some ⟨b3, 0, none⟩) (ns.length) (ns.length)), (8, .int .i64 ↑i), (9, .int .i64 ↑(j + 1))]) (obl := [(Value.int .i64 (IntKind.wrap .i64 (((j : Nat) : Int) + 1))) = (.int .i64 ↑(j + 1))]) [o_, ⟨[], none, none, none, some (.int .i64 ↑(j + 1))⟩, o_] [1, 6, 8, 9] (fun _ _ => by kernel_rfl) ⟨wrapEq (by omega) (by omega) (by omega), trivial⟩ ?_
             refine TriL.nil (by kernel_rfl) ?_
             exact TriQ.turn ((j + 1), (pl2.set (tgt ns (en (nd ns i).ents j).id) ((i : Nat) : Int))) (idx := [1, 6, 8, 9]) (pk := [0, 1, 2]) (show (((j + 1)) ≤ (nd ns i).ents.length) ∧ (∀ t, t < ((j + 1)) → EntOk ns i t) ∧ (((rowE ns i ((j + 1)) ++ allE ns i).map Prod.fst).Nodup) ∧ (Par ns.length ((pl2.set (tgt ns (en (nd ns i).ents j).id) ((i : Nat) : Int))) (rowE ns i ((j + 1)) ++ allE ns i)) from ⟨by omega, fun t ht => (by rcases Nat.lt_succ_iff_lt_or_eq.1 ht with h | h; exact hok t h; subst h; exact entOk_of (Int.not_lt.1 h113) h119 (fun _ => h138)), (by rw [rowE_dir h145, List.cons_append, List.map_cons]; exact List.nodup_cons.2 ⟨show tgt ns (en (nd ns i).ents j).id ∉ _ from parI_none.1 (by rw [← hpar2.at_ (tgt ns (en (nd ns i).ents j).id) (by omega)]; omega), hnd2⟩), (by rw [rowE_dir h145]; exact hpar2.put (by omega))⟩) (by show (nd ns i).ents.length - ((j + 1)) < (nd ns i).ents.length - j; omega) (fun _ => by kernel_rfl) rfl (by kernel_rfl)
           ·
            refine Tri.skip (TriQ.blockNormal (TriQ.next (Tri.region ?_)))
            refine TriL.segK (k' := 3) (fr' := [(1, .pointer (some ⟨b1, 0, none⟩)), (6, .slice (some ⟨b3, 0, none⟩) (ns.length) (ns.length)), (8, .int .i64 ↑i), (9, .int .i64 ↑(j + 1))]) (obl := [(Value.int .i64 (IntKind.wrap .i64 (((j : Nat) : Int) + 1))) = (.int .i64 ↑(j + 1))]) [o_, ⟨[], none, none, none, some (.int .i64 ↑(j + 1))⟩, o_] [1, 6, 8, 9] (fun _ _ => by kernel_rfl) ⟨wrapEq (by omega) (by omega) (by omega), trivial⟩ ?_
            refine TriL.nil (by kernel_rfl) ?_
            exact TriQ.turn ((j + 1), pl2) (idx := [1, 6, 8, 9]) (pk := [0, 1, 2]) (show (((j + 1)) ≤ (nd ns i).ents.length) ∧ (∀ t, t < ((j + 1)) → EntOk ns i t) ∧ (((rowE ns i ((j + 1)) ++ allE ns i).map Prod.fst).Nodup) ∧ (Par ns.length pl2 (rowE ns i ((j + 1)) ++ allE ns i)) from ⟨by omega, fun t ht => (by rcases Nat.lt_succ_iff_lt_or_eq.1 ht with h | h; exact hok t h; subst h; exact entOk_of (Int.not_lt.1 h113) h119 (fun _ => h138)), (by rw [rowE_skip h145]; exact hnd2), (by rw [rowE_skip h145]; exact hpar2)⟩) (by show (nd ns i).ents.length - ((j + 1)) < (nd ns i).ents.length - j; omega) (fun _ => by kernel_rfl) rfl (by kernel_rfl)
         ·
          refine TriLQ.seg (k' := 28) (fr' := [(1, .pointer (some ⟨b1, 0, none⟩)), (6, .slice (some ⟨b3, 0, none⟩) (ns.length) (ns.length)), (8, .int .i64 ↑i), (9, .int .i64 ↑j), (11, .int .i64 (atI ns (en (nd ns i).ents j).id)), (138, .bool false)]) (obl := []) [o_, o_, o_, o_, o_, o_, o_, o_, o_, o_, o_, o_, o_, o_, o_, o_] [1, 6, 8, 9, 11, 138] (fun _ _ => by kernel_rfl) trivial ?_
          refine TriLQ.nil (by kernel_rfl) (TriQ.next ?_)
          refine Tri.condF (fun _ => by kernel_rfl) ?_
          refine Tri.skip (TriQ.next (Tri.seq (Tri.region ?_)))
          refine TriL.segK (k' := 7) (fr' := [(1, .pointer (some ⟨b1, 0, none⟩)), (6, .slice (some ⟨b3, 0, none⟩) (ns.length) (ns.length)), (8, .int .i64 ↑i), (9, .int .i64 ↑j), (11, .int .i64 (atI ns (en (nd ns i).ents j).id)), (145, .bool (decide (((nd ns (tgt ns (en (nd ns i).ents j).id)).kind : Int) = (2 : Int))))]) (obl := [(Rd β ⟨(blkOf A), offOf A + (tgt ns (en (nd ns i).ents j).id) * 10 + 1, none⟩ (.int .i64 ((nd ns (tgt ns (en (nd ns i).ents j).id)).kind))), atI ns (en (nd ns i).ents j).id = (((tgt ns (en (nd ns i).ents j).id) : Nat) : Int), (tgt ns (en (nd ns i).ents j).id) < ns.length, (⟨(blkOf A), offOf A, none⟩ : Addr).spot = none, (A : Option Addr) = some ⟨(blkOf A), offOf A, none⟩, b1 = b1]) [o_, ⟨[.at 0], none, none, none, none⟩, o_, ⟨[], some (tgt ns (en (nd ns i).ents j).id), none, some ⟨(blkOf A), offOf A, none⟩, none⟩, o_, ⟨[.old (.int .i64 ((nd ns (tgt ns (en (nd ns i).ents j).id)).kind))], none, none, none, none⟩, o_] [1, 6, 8, 9, 11, 145] (fun _ _ => by kernel_rfl) ⟨GraphAt.rd hG (i := (tgt ns (en (nd ns i).ents j).id)) (by omega) (j := 1) rfl, htl.2.2, by omega, rfl, GraphAt.hd hG (i := (tgt ns (en (nd ns i).ents j).id)) (by omega), rfl, trivial⟩ ?_
          refine TriL.nil (by kernel_rfl) (TriQ.next ?_)
          refine Tri.condP (p := ((nd ns (tgt ns (en (nd ns i).ents j).id)).kind : Int) = (2 : Int)) (fun _ => by kernel_rfl) (fun h145 => ?_) (fun h145 => ?_)
          ·
           refine Tri.seq (Tri.seq (Tri.region ?_))
           refine TriL.segK (k' := 5) (fr' := [(1, .pointer (some ⟨b1, 0, none⟩)), (6, .slice (some ⟨b3, 0, none⟩) (ns.length) (ns.length)), (8, .int .i64 ↑i), (9, .int .i64 ↑j), (11, .int .i64 (atI ns (en (nd ns i).ents j).id)), (150, .bool (decide (((pl2.getD (tgt ns (en (nd ns i).ents j).id) 0) : Int) ≥ (0 : Int))))]) (obl := [(∀ F w, (RowA 3 1 (some ⟨b3, 0, none⟩) ns.length ns.length (intsV pl2)).h F w → w.cell? ⟨b3, (tgt ns (en (nd ns i).ents j).id), none⟩ = some (.int .i64 ((pl2.getD (tgt ns (en (nd ns i).ents j).id) 0)))), (Value.pointer (some ⟨b3, 0 + (tgt ns (en (nd ns i).ents j).id) * 1, none⟩)) = (.pointer (some ⟨b3, (tgt ns (en (nd ns i).ents j).id), none⟩)), atI ns (en (nd ns i).ents j).id = (((tgt ns (en (nd ns i).ents j).id) : Nat) : Int), (tgt ns (en (nd ns i).ents j).id) < ns.length, (⟨b3, 0, none⟩ : Addr).spot = none]) [o_, o_, ⟨[], some (tgt ns (en (nd ns i).ents j).id), none, none, some (.pointer (some ⟨b3, (tgt ns (en (nd ns i).ents j).id), none⟩))⟩, ⟨[.view 1 (.int .i64 ((pl2.getD (tgt ns (en (nd ns i).ents j).id) 0)))], none, none, none, none⟩, o_] [1, 6, 8, 9, 11, 150] (fun _ _ => by kernel_rfl) ⟨RowA.cell (intsV_get (by omega)), by simp, htl.2.2, by omega, rfl, trivial⟩ ?_
           refine TriL.nil (by kernel_rfl) (TriQ.next ?_)
           refine Tri.condP (p := ((pl2.getD (tgt ns (en (nd ns i).ents j).id) 0) : Int) ≥ (0 : Int)) (fun _ => by kernel_rfl) (fun h150 => ?_) (fun h150 => ?_)
           ·
            refine Tri.seq (Tri.region ?_)
            refine TriL.segK (k' := 1) (fr' := [(2, .int .i64 140)]) (obl := []) [o_] [2] (fun _ _ => by kernel_rfl) trivial ?_
            refine TriL.nil (by kernel_rfl) (TriQ.next (Tri.ret (TriQ.passRet (TriQ.blockRet (TriQ.passRet (TriQ.passRet (TriQ.blockRet (TriQ.blockRet (TriQ.passRet (TriQ.passRet (TriQ.blockRet (TriQ.passRet ?_))))))))))))
            exact TriQ.ret (v := .int .i64 140) (l := []) (obl := []) [] [2] (fun _ => by kernel_rfl) trivial rfl (by kernel_rfl) (⟨congrArg (Value.int .i64) (if_neg (c := GraphOk ns) (fun h => by have h1 : parI (rowE ns i j ++ allE ns i) (tgt ns (en (nd ns i).ents j).id) < 0 := parI_none.2 (rowOk_fresh (h.row (by omega)) (by omega) h145); rw [← hpar2.at_ (tgt ns (en (nd ns i).ents j).id) (by omega)] at h1; omega)).symm, rfl⟩)
           ·
            refine Tri.skip (TriQ.next (Tri.region ?_))
            refine TriL.segK (k' := 4) (fr' := [(1, .pointer (some ⟨b1, 0, none⟩)), (6, .slice (some ⟨b3, 0, none⟩) (ns.length) (ns.length)), (8, .int .i64 ↑i), (9, .int .i64 ↑j), (153, .int .i64 ↑i), (154, .pointer (some ⟨b3, (tgt ns (en (nd ns i).ents j).id), none⟩))]) (obl := [(Value.pointer (some ⟨b3, 0 + (tgt ns (en (nd ns i).ents j).id) * 1, none⟩)) = (.pointer (some ⟨b3, (tgt ns (en (nd ns i).ents j).id), none⟩)), atI ns (en (nd ns i).ents j).id = (((tgt ns (en (nd ns i).ents j).id) : Nat) : Int), (tgt ns (en (nd ns i).ents j).id) < ns.length, (⟨b3, 0, none⟩ : Addr).spot = none]) [o_, o_, o_, ⟨[], some (tgt ns (en (nd ns i).ents j).id), none, none, some (.pointer (some ⟨b3, (tgt ns (en (nd ns i).ents j).id), none⟩))⟩] [1, 6, 8, 9, 153, 154] (fun _ _ => by kernel_rfl) ⟨by simp, htl.2.2, by omega, rfl, trivial⟩ ?_
            refine TriL.rowSet 1 ((tgt ns (en (nd ns i).ents j).id)) (d := none) (T := 3) (e := 3) (size := 1) (n := ns.length) (cap := ns.length) (g := b3) (xs := (intsV pl2)) (u := .int .i64 ↑i) (a := (.tmp 154)) (y := (.tmp 153)) (fun _ => by kernel_rfl) (by kernel_rfl) (fun _ => by kernel_rfl) (fun _ => by kernel_rfl) (by kernel_rfl) rfl (by rw [intsV, List.length_map]; omega) ?_
            refine TriL.partEq 1 (p := .abs (RowA 3 1 (some ⟨b3, 0, none⟩) ns.length ns.length ((intsV pl2).set ((tgt ns (en (nd ns i).ents j).id)) (.int .i64 ↑i)))) (p' := .abs (RowA 3 1 (some ⟨b3, 0, none⟩) ns.length ns.length (intsV (pl2.set (tgt ns (en (nd ns i).ents j).id) ((i : Nat) : Int))))) (by kernel_rfl) (by rw [intsV_set]) ?_
            refine TriL.nil (by kernel_rfl) (TriQ.blockNormal (TriQ.next (Tri.region ?_)))
            refine TriL.segK (k' := 3) (fr' := [(1, .pointer (some ⟨b1, 0, none⟩)), (6, .slice (some ⟨b3, 0, none⟩) (ns.length) (ns.length)), (8, .int .i64 ↑i), (9, .int .i64 ↑(j + 1))]) (obl := [(Value.int .i64 (IntKind.wrap .i64 (((j : Nat) : Int) + 1))) = (.int .i64 ↑(j + 1))]) [o_, ⟨[], none, none, none, some (.int .i64 ↑(j + 1))⟩, o_] [1, 6, 8, 9] (fun _ _ => by kernel_rfl) ⟨wrapEq (by omega) (by omega) (by omega), trivial⟩ ?_
            refine TriL.nil (by kernel_rfl) ?_
            exact TriQ.turn ((j + 1), (pl2.set (tgt ns (en (nd ns i).ents j).id) ((i : Nat) : Int))) (idx := [1, 6, 8, 9]) (pk := [0, 1, 2]) (show (((j + 1)) ≤ (nd ns i).ents.length) ∧ (∀ t, t < ((j + 1)) → EntOk ns i t) ∧ (((rowE ns i ((j + 1)) ++ allE ns i).map Prod.fst).Nodup) ∧ (Par ns.length ((pl2.set (tgt ns (en (nd ns i).ents j).id) ((i : Nat) : Int))) (rowE ns i ((j + 1)) ++ allE ns i)) from ⟨by omega, fun t ht => (by rcases Nat.lt_succ_iff_lt_or_eq.1 ht with h | h; exact hok t h; subst h; exact entOk_of (Int.not_lt.1 h113) h119 (fun h => absurd h (by omega))), (by rw [rowE_dir h145, List.cons_append, List.map_cons]; exact List.nodup_cons.2 ⟨show tgt ns (en (nd ns i).ents j).id ∉ _ from parI_none.1 (by rw [← hpar2.at_ (tgt ns (en (nd ns i).ents j).id) (by omega)]; omega), hnd2⟩), (by rw [rowE_dir h145]; exact hpar2.put (by omega))⟩) (by show (nd ns i).ents.length - ((j + 1)) < (nd ns i).ents.length - j; omega) (fun _ => by kernel_rfl) rfl (by kernel_rfl)
          ·
           refine Tri.skip (TriQ.blockNormal (TriQ.next (Tri.region ?_)))
           refine TriL.segK (k' := 3) (fr' := [(1, .pointer (some ⟨b1, 0, none⟩)), (6, .slice (some ⟨b3, 0, none⟩) (ns.length) (ns.length)), (8, .int .i64 ↑i), (9, .int .i64 ↑(j + 1))]) (obl := [(Value.int .i64 (IntKind.wrap .i64 (((j : Nat) : Int) + 1))) = (.int .i64 ↑(j + 1))]) [o_, ⟨[], none, none, none, some (.int .i64 ↑(j + 1))⟩, o_] [1, 6, 8, 9] (fun _ _ => by kernel_rfl) ⟨wrapEq (by omega) (by omega) (by omega), trivial⟩ ?_
           refine TriL.nil (by kernel_rfl) ?_
           exact TriQ.turn ((j + 1), pl2) (idx := [1, 6, 8, 9]) (pk := [0, 1, 2]) (show (((j + 1)) ≤ (nd ns i).ents.length) ∧ (∀ t, t < ((j + 1)) → EntOk ns i t) ∧ (((rowE ns i ((j + 1)) ++ allE ns i).map Prod.fst).Nodup) ∧ (Par ns.length pl2 (rowE ns i ((j + 1)) ++ allE ns i)) from ⟨by omega, fun t ht => (by rcases Nat.lt_succ_iff_lt_or_eq.1 ht with h | h; exact hok t h; subst h; exact entOk_of (Int.not_lt.1 h113) h119 (fun h => absurd h (by omega))), (by rw [rowE_skip h145]; exact hnd2), (by rw [rowE_skip h145]; exact hpar2)⟩) (by show (nd ns i).ents.length - ((j + 1)) < (nd ns i).ents.length - j; omega) (fun _ => by kernel_rfl) rfl (by kernel_rfl)
      ·
       refine Tri.exit (TriQ.passExit (TriQ.passExit (TriQ.blockHit (TriQ.blockNormal (TriQ.next (Tri.region ?_))))))
       refine TriL.segK (k' := 3) (fr' := [(1, .pointer (some ⟨b1, 0, none⟩)), (6, .slice (some ⟨b3, 0, none⟩) (ns.length) (ns.length)), (8, .int .i64 ↑(i + 1))]) (obl := [(Value.int .i64 (IntKind.wrap .i64 (((i : Nat) : Int) + 1))) = (.int .i64 ↑(i + 1))]) [o_, ⟨[], none, none, none, some (.int .i64 ↑(i + 1))⟩, o_] [1, 6, 8] (fun _ _ => by kernel_rfl) ⟨wrapEq (by omega) (by omega) (by omega), trivial⟩ ?_
       refine TriL.nil (by kernel_rfl) ?_
       exact TriQ.turn ((i + 1), pl2) (idx := [1, 6, 8]) (pk := [0, 1, 2]) (show (((i + 1)) ≤ ns.length) ∧ (∀ a, a < ((i + 1)) → ∀ j, j < (nd ns a).ents.length → EntOk ns a j) ∧ (((allE ns ((i + 1))).map Prod.fst).Nodup) ∧ (Par ns.length pl2 (allE ns ((i + 1)))) from ⟨by omega, fun a ha => (by rcases Nat.lt_succ_iff_lt_or_eq.1 ha with h | h; exact hents a h; subst h; exact fun j' hj' => hok j' (by omega)), (by have := hnd2; rwa [show j = (nd ns i).ents.length by omega] at this), (by have := hpar2; rwa [show j = (nd ns i).ents.length by omega] at this)⟩) (by show ns.length - ((i + 1)) < ns.length - i; omega) (fun _ => by kernel_rfl) rfl (by kernel_rfl)
     ·
      refine Tri.exit (TriQ.passExit (TriQ.passExit (TriQ.blockHit (TriQ.next (Tri.seq (Tri.seq (Tri.region ?_)))))))
      refine TriL.segK (k' := 1) (fr' := [(6, .slice (some ⟨b3, 0, none⟩) (ns.length) (ns.length)), (12, .int .i64 0)]) (obl := []) [o_] [6, 12] (fun _ _ => by kernel_rfl) trivial ?_
      refine TriL.nil (by kernel_rfl) (TriQ.next (Tri.block ?_))
      have hparN : Par ns.length pl1 (allE ns ns.length) := by have := hpar; rwa [show i = ns.length by omega] at this
      have hed := allE_fst (ns := ns) (Nat.le_refl _) (fun a ha => hents a (by omega))
      refine Tri.loop (ι := Nat) (fun (a : Nat) => (a ≤ ns.length) ∧ (∀ b, b < a → Ends ((allE ns ns.length).map (idP ns)) (nd ns b).id)) (fun (a : Nat) => ns.length - a) (fun (a : Nat) => [(6, .slice (some ⟨b3, 0, none⟩) (ns.length) (ns.length)), (12, .int .i64 ↑a)]) (fun (a : Nat) => [.abs (RowA 3 1 (some ⟨b3, 0, none⟩) ns.length ns.length (intsV pl1)), .abs R]) 0 (idx := [6, 12]) (pk := [1, 2]) (show (0 ≤ ns.length) ∧ (∀ b, b < 0 → Ends ((allE ns ns.length).map (idP ns)) (nd ns b).id) from ⟨Nat.zero_le _, fun b hb => absurd hb (Nat.not_lt_zero b)⟩) (fun _ => by kernel_rfl) rfl (by kernel_rfl) ?_
      rintro a ⟨ha, hend⟩
      show Tri _ _ _ _ [(6, .slice (some ⟨b3, 0, none⟩) (ns.length) (ns.length)), (12, .int .i64 ↑a)] [.abs (RowA 3 1 (some ⟨b3, 0, none⟩) ns.length ns.length (intsV pl1)), .abs R] _
      have hln := hpar.len
      refine Tri.seq (Tri.seq (Tri.region ?_))
      refine TriL.segK (k' := 4) (fr' := [(6, .slice (some ⟨b3, 0, none⟩) (ns.length) (ns.length)), (12, .int .i64 ↑a), (158, .bool (decide ((((a : Nat) : Int) : Int) < (((ns.length : Nat) : Int) : Int))))]) (obl := []) [o_, o_, o_, o_] [6, 12, 158] (fun _ _ => by kernel_rfl) trivial ?_
      refine TriL.nil (by kernel_rfl) (TriQ.next ?_)
      refine Tri.condP (p := (((a : Nat) : Int) : Int) < (((ns.length : Nat) : Int) : Int)) (fun _ => by kernel_rfl) (fun h158 => ?_) (fun h158 => ?_)
      ·
       refine Tri.skip (TriQ.next (Tri.seq (Tri.block (Tri.seq (Tri.region ?_)))))
       refine TriL.segK (k' := 5) (fr' := [(6, .slice (some ⟨b3, 0, none⟩) (ns.length) (ns.length)), (12, .int .i64 ↑a), (13, .int .i64 ((pl1.getD a 0)))]) (obl := [(∀ F w, (RowA 3 1 (some ⟨b3, 0, none⟩) ns.length ns.length (intsV pl1)).h F w → w.cell? ⟨b3, a, none⟩ = some (.int .i64 ((pl1.getD a 0)))), (Value.pointer (some ⟨b3, 0 + a * 1, none⟩)) = (.pointer (some ⟨b3, a, none⟩)), ((a : Nat) : Int) = ((a : Nat) : Int), a < ns.length, (⟨b3, 0, none⟩ : Addr).spot = none]) [o_, o_, ⟨[], some a, none, none, some (.pointer (some ⟨b3, a, none⟩))⟩, ⟨[.view 0 (.int .i64 ((pl1.getD a 0)))], none, none, none, none⟩, o_] [6, 12, 13] (fun _ _ => by kernel_rfl) ⟨RowA.cell (intsV_get (by omega)), by simp, rfl, by omega, rfl, trivial⟩ ?_
       refine TriL.nil (by kernel_rfl) (TriQ.next (Tri.seq (Tri.region ?_)))
       refine TriL.segK (k' := 1) (fr' := [(6, .slice (some ⟨b3, 0, none⟩) (ns.length) (ns.length)), (12, .int .i64 ↑a), (13, .int .i64 ((pl1.getD a 0))), (14, .int .i64 0)]) (obl := []) [o_] [6, 12, 13, 14] (fun _ _ => by kernel_rfl) trivial ?_
       refine TriL.nil (by kernel_rfl) (TriQ.next (Tri.block ?_))
       refine Tri.loop (ι := Int × Nat × (List Int)) (fun ((at_, step, w) : Int × Nat × (List Int)) => ((at_ < 0 ∧ Ends ((allE ns ns.length).map (idP ns)) (nd ns a).id) ∨ ∃ q : Nat, at_ = (q : Int) ∧ q < ns.length ∧ Way ((allE ns ns.length).map (idP ns)) (nd ns a).id w (nd ns q).id ∧ w.length = step + 1)) (fun ((at_, step, w) : Int × Nat × (List Int)) => ns.length + 2 - step) (fun ((at_, step, w) : Int × Nat × (List Int)) => [(6, .slice (some ⟨b3, 0, none⟩) (ns.length) (ns.length)), (12, .int .i64 ↑a), (13, .int .i64 (at_)), (14, .int .i64 ↑step)]) (fun ((at_, step, w) : Int × Nat × (List Int)) => [.abs (RowA 3 1 (some ⟨b3, 0, none⟩) ns.length ns.length (intsV pl1)), .abs R]) ((pl1.getD a 0), 0, [(nd ns a).id]) (idx := [6, 12, 13, 14]) (pk := [0, 1]) (show ((((pl1.getD a 0)) < 0 ∧ Ends ((allE ns ns.length).map (idP ns)) (nd ns a).id) ∨ ∃ q : Nat, ((pl1.getD a 0)) = (q : Int) ∧ q < ns.length ∧ Way ((allE ns ns.length).map (idP ns)) (nd ns a).id ([(nd ns a).id]) (nd ns q).id ∧ ([(nd ns a).id]).length = 0 + 1) from way_next hrise hed hparN (by omega) .nil rfl) (fun _ => by kernel_rfl) rfl (by kernel_rfl) ?_
       rintro ⟨at_, step, w⟩ hst
       show Tri _ _ _ _ [(6, .slice (some ⟨b3, 0, none⟩) (ns.length) (ns.length)), (12, .int .i64 ↑a), (13, .int .i64 (at_)), (14, .int .i64 ↑step)] [.abs (RowA 3 1 (some ⟨b3, 0, none⟩) ns.length ns.length (intsV pl1)), .abs R] _
       refine Tri.seq (Tri.seq (Tri.region ?_))
       refine TriL.segK (k' := 2) (fr' := [(6, .slice (some ⟨b3, 0, none⟩) (ns.length) (ns.length)), (12, .int .i64 ↑a), (13, .int .i64 (at_)), (14, .int .i64 ↑step), (166, .bool (decide ((at_ : Int) ≥ (0 : Int))))]) (obl := []) [o_, o_] [6, 12, 13, 14, 166] (fun _ _ => by kernel_rfl) trivial ?_
       refine TriL.nil (by kernel_rfl) (TriQ.next ?_)
       refine Tri.condP (p := (at_ : Int) ≥ (0 : Int)) (fun _ => by kernel_rfl) (fun h166 => ?_) (fun h166 => ?_)
       ·
        obtain ⟨b, hb0, hb1, hb2, hb3⟩ := hst.resolve_left (fun h => by omega)
        refine Tri.skip (TriQ.next (Tri.seq (Tri.block (Tri.seq (Tri.seq (Tri.region ?_))))))
        refine TriL.segK (k' := 4) (fr' := [(6, .slice (some ⟨b3, 0, none⟩) (ns.length) (ns.length)), (12, .int .i64 ↑a), (13, .int .i64 (at_)), (14, .int .i64 ↑step), (172, .bool (decide ((at_ : Int) = (((a : Nat) : Int) : Int))))]) (obl := []) [o_, o_, o_, o_] [6, 12, 13, 14, 172] (fun _ _ => by kernel_rfl) trivial ?_
        refine TriL.slotP 172 ((at_ : Int) = (((a : Nat) : Int) : Int)) (fun _ => by kernel_rfl) (fun h172 => ?_) (fun h172 => ?_)
        ·
         refine TriL.segK (k' := 9) (fr' := [(6, .slice (some ⟨b3, 0, none⟩) (ns.length) (ns.length)), (12, .int .i64 ↑a), (13, .int .i64 (at_)), (14, .int .i64 ↑step), (177, .bool true)]) (obl := []) [o_, o_, o_, o_, o_] [6, 12, 13, 14, 177] (fun _ _ => by kernel_rfl) trivial ?_
         refine TriL.nil (by kernel_rfl) (TriQ.next ?_)
         refine Tri.condT (fun _ => by kernel_rfl) ?_
         refine Tri.seq (Tri.region ?_)
         refine TriL.segK (k' := 1) (fr' := [(2, .int .i64 140)]) (obl := []) [o_] [2] (fun _ _ => by kernel_rfl) trivial ?_
         refine TriL.nil (by kernel_rfl) (TriQ.next (Tri.ret (TriQ.passRet (TriQ.blockRet (TriQ.passRet (TriQ.passRet (TriQ.blockRet (TriQ.blockRet (TriQ.passRet (TriQ.passRet (TriQ.blockRet (TriQ.passRet ?_))))))))))))
         exact TriQ.ret (v := .int .i64 140) (l := []) (obl := []) [] [1] (fun _ => by kernel_rfl) trivial rfl (by kernel_rfl) (⟨congrArg (Value.int .i64) (if_neg (c := GraphOk ns) (fun h => by rw [show b = a by omega] at hb2; exact hb2.back (by omega) (h.ends _))).symm, rfl⟩)
        ·
         refine TriL.segK (k' := 9) (fr' := [(6, .slice (some ⟨b3, 0, none⟩) (ns.length) (ns.length)), (12, .int .i64 ↑a), (13, .int .i64 (at_)), (14, .int .i64 ↑step), (177, .bool (decide ((((step : Nat) : Int) : Int) > (((ns.length : Nat) : Int) : Int))))]) (obl := []) [o_, o_, o_, o_, o_] [6, 12, 13, 14, 177] (fun _ _ => by kernel_rfl) trivial ?_
         refine TriL.nil (by kernel_rfl) (TriQ.next ?_)
         refine Tri.condP (p := (((step : Nat) : Int) : Int) > (((ns.length : Nat) : Int) : Int)) (fun _ => by kernel_rfl) (fun h177 => ?_) (fun h177 => ?_)
         ·
          refine Tri.seq (Tri.region ?_)
          refine TriL.segK (k' := 1) (fr' := [(2, .int .i64 140)]) (obl := []) [o_] [2] (fun _ _ => by kernel_rfl) trivial ?_
          refine TriL.nil (by kernel_rfl) (TriQ.next (Tri.ret (TriQ.passRet (TriQ.blockRet (TriQ.passRet (TriQ.passRet (TriQ.blockRet (TriQ.blockRet (TriQ.passRet (TriQ.passRet (TriQ.blockRet (TriQ.passRet ?_))))))))))))
          exact TriQ.ret (v := .int .i64 140) (l := []) (obl := []) [] [1] (fun _ => by kernel_rfl) trivial rfl (by kernel_rfl) (⟨congrArg (Value.int .i64) (if_neg (c := GraphOk ns) (fun h => by exact hb2.never (by have := h.few; omega) (h.ends _))).symm, rfl⟩)
         ·
          refine Tri.skip (TriQ.next (Tri.region ?_))
          refine TriL.segK (k' := 5) (fr' := [(6, .slice (some ⟨b3, 0, none⟩) (ns.length) (ns.length)), (12, .int .i64 ↑a), (13, .int .i64 ((pl1.getD b 0))), (14, .int .i64 ↑step)]) (obl := [(∀ F w, (RowA 3 1 (some ⟨b3, 0, none⟩) ns.length ns.length (intsV pl1)).h F w → w.cell? ⟨b3, b, none⟩ = some (.int .i64 ((pl1.getD b 0)))), (Value.pointer (some ⟨b3, 0 + b * 1, none⟩)) = (.pointer (some ⟨b3, b, none⟩)), at_ = ((b : Nat) : Int), b < ns.length, (⟨b3, 0, none⟩ : Addr).spot = none]) [o_, o_, ⟨[], some b, none, none, some (.pointer (some ⟨b3, b, none⟩))⟩, ⟨[.view 0 (.int .i64 ((pl1.getD b 0)))], none, none, none, none⟩, o_] [6, 12, 13, 14] (fun _ _ => by kernel_rfl) ⟨RowA.cell (intsV_get (by omega)), by simp, hb0, by omega, rfl, trivial⟩ ?_
          refine TriL.nil (by kernel_rfl) (TriQ.blockNormal (TriQ.next (Tri.region ?_)))
          refine TriL.segK (k' := 3) (fr' := [(6, .slice (some ⟨b3, 0, none⟩) (ns.length) (ns.length)), (12, .int .i64 ↑a), (13, .int .i64 ((pl1.getD b 0))), (14, .int .i64 ↑(step + 1))]) (obl := [(Value.int .i64 (IntKind.wrap .i64 (((step : Nat) : Int) + 1))) = (.int .i64 ↑(step + 1))]) [o_, ⟨[], none, none, none, some (.int .i64 ↑(step + 1))⟩, o_] [6, 12, 13, 14] (fun _ _ => by kernel_rfl) ⟨wrapEq (by omega) (by omega) (by omega), trivial⟩ ?_
          refine TriL.nil (by kernel_rfl) ?_
          exact TriQ.turn ((pl1.getD b 0), (step + 1), (w ++ [(nd ns b).id])) (idx := [6, 12, 13, 14]) (pk := [0, 1]) (show ((((pl1.getD b 0)) < 0 ∧ Ends ((allE ns ns.length).map (idP ns)) (nd ns a).id) ∨ ∃ q : Nat, ((pl1.getD b 0)) = (q : Int) ∧ q < ns.length ∧ Way ((allE ns ns.length).map (idP ns)) (nd ns a).id ((w ++ [(nd ns b).id])) (nd ns q).id ∧ ((w ++ [(nd ns b).id])).length = ((step + 1)) + 1) from way_next hrise hed hparN hb1 hb2 hb3) (by show ns.length + 2 - ((step + 1)) < ns.length + 2 - step; omega) (fun _ => by kernel_rfl) rfl (by kernel_rfl)
       ·
        refine Tri.exit (TriQ.passExit (TriQ.passExit (TriQ.blockHit (TriQ.blockNormal (TriQ.next (Tri.region ?_))))))
        refine TriL.segK (k' := 3) (fr' := [(6, .slice (some ⟨b3, 0, none⟩) (ns.length) (ns.length)), (12, .int .i64 ↑(a + 1))]) (obl := [(Value.int .i64 (IntKind.wrap .i64 (((a : Nat) : Int) + 1))) = (.int .i64 ↑(a + 1))]) [o_, ⟨[], none, none, none, some (.int .i64 ↑(a + 1))⟩, o_] [6, 12] (fun _ _ => by kernel_rfl) ⟨wrapEq (by omega) (by omega) (by omega), trivial⟩ ?_
        refine TriL.nil (by kernel_rfl) ?_
        exact TriQ.turn ((a + 1)) (idx := [6, 12]) (pk := [0, 1]) (show (((a + 1)) ≤ ns.length) ∧ (∀ b, b < ((a + 1)) → Ends ((allE ns ns.length).map (idP ns)) (nd ns b).id) from ⟨by omega, fun b hb => by rcases Nat.lt_succ_iff_lt_or_eq.1 hb with h | h; exact hend b h; subst h; rcases hst with h2 | ⟨q, hq, _⟩; exact h2.2; omega⟩) (by show ns.length - ((a + 1)) < ns.length - a; omega) (fun _ => by kernel_rfl) rfl (by kernel_rfl)
      ·
       refine Tri.exit (TriQ.passExit (TriQ.passExit (TriQ.blockHit (TriQ.next (Tri.seq (Tri.region ?_))))))
       refine TriL.segK (k' := 1) (fr' := [(2, .int .i64 0)]) (obl := []) [o_] [2] (fun _ _ => by kernel_rfl) trivial ?_
       refine TriL.nil (by kernel_rfl) (TriQ.next (Tri.ret ?_))
       exact TriQ.ret (v := .int .i64 0) (l := []) (obl := []) [] [1] (fun _ => by kernel_rfl) trivial rfl (by kernel_rfl) (⟨congrArg (Value.int .i64) (if_pos (c := GraphOk ns) ⟨by omega, fun a ha => hu.node a (by omega), fun a ha => hu.ids a (by omega), hrise, by omega, fun a ha => hents a (by omega), by have := hnd; rwa [show i = ns.length by omega] at this, allEnd_of (fun p hp => (hed p hp).1) (fun b hb => hend b (by omega))⟩).symm, rfl⟩)
end Go.Proofs.Ytjpdcppdoonmdaa
end
/- part GW. PROVED HERE: what a law is told of its graph, as the contracts ask for it; the law's literals. CONDITIONS: none. -/
section
namespace Go.Proofs.Ytjpdcppdoonmdaa
open Go.RowKit
theorem B0.refl (W : World) : (B0 W).le (B0 W) := ⟨fun _ h => h, rfl, rfl, rfl, Nat.le_refl _, fun _ hk => ⟨hk, rfl⟩⟩
theorem Spec.val {P : Program} {β : Bs} {f : FuncId} {args : Array Value} {pre : List HP} {x y : Value} {l0 : List HP} (h : Spec P β f args pre (fun v l => v = x ∧ l = l0)) (e : x = y) : Spec P β f args pre (fun v l => v = y ∧ l = l0) := h.mono fun _ _ h => ⟨h.1.trans e, h.2⟩
section gb
variable {ns : List NodeM} {b : Nat}
theorem GraphB.mono {c : Nat} (h : GraphB ns b) (hb : b ≤ c) : GraphB ns c :=
  ⟨Nat.le_trans h.len hb, fun i hi => ⟨(h.node i hi).ids, Nat.le_trans (h.node i hi).data hb, Nat.le_trans (h.node i hi).target hb, Nat.le_trans (h.node i hi).ents hb, fun j hj => ⟨((h.node i hi).ent j hj).id, Nat.le_trans ((h.node i hi).ent j hj).name hb⟩⟩⟩
variable (h : GraphB ns 1048576)
include h
theorem GraphB.hl : ns.length ≤ 1048576 := by have := h.len; omega
theorem GraphB.hd : ∀ i, i < ns.length → (nd ns i).data.length ≤ 1048576 ∧ (nd ns i).ents.length ≤ 1048576 := fun i hi => by
  have h1 := (h.node i hi).data
  have h2 := (h.node i hi).ents
  omega
theorem GraphB.hwf : ∀ i, i < ns.length → ∀ j, j < (nd ns i).ents.length → -9223372036854775808 ≤ (ent ns i j).id ∧ (ent ns i j).id ≤ 9223372036854775807 := fun i hi j hj => ((h.node i hi).ent j hj).id
theorem GraphB.hnm : ∀ i, i < ns.length → ∀ j, j < (nd ns i).ents.length → (ent ns i j).name.size ≤ 1048576 := fun i hi j hj => by
  have h1 := ((h.node i hi).ent j hj).name
  unfold ent
  omega
theorem GraphB.ht : ∀ i, i < ns.length → (nd ns i).target.size ≤ 1048576 := fun i hi => by
  have h1 := (h.node i hi).target
  omega
end gb
def zeroNode : NodeM := ⟨0, 0, 0, 0, 0, 0, 0, [], ⟨#[]⟩, []⟩
def L0 : Lay := ⟨fun _ => none, fun _ => none, fun _ => 0, fun _ => 0⟩
theorem RowB.nil {β : Bs} {A : Option Addr} : RowB β A [] := fun j v hj => by simp at hj
theorem GraphAt.flat {β : Bs} {A : Option Addr} {ns : List NodeM} {L : Lay} (h : RowB β A (nodesV L ns)) (hd : ∀ i, i < ns.length → (nd ns i).data = [] ∧ (nd ns i).ents = []) : GraphAt β A ns L :=
  ⟨h, fun i hi => by rw [(hd i hi).1]; exact RowB.nil, fun i hi => by rw [(hd i hi).2]; exact RowB.nil⟩
theorem zero_bound : GraphB [zeroNode] 1048576 := by
  refine ⟨by decide, fun i hi => ?_⟩
  have : i = 0 := by simp at hi; exact hi
  subst this
  exact ⟨⟨⟨by decide, by decide⟩, ⟨by decide, by decide⟩, ⟨by decide, by decide⟩, ⟨by decide, by decide⟩, ⟨by decide, by decide⟩, ⟨by decide, by decide⟩, ⟨by decide, by decide⟩⟩, by decide, by decide, by decide, fun j hj => absurd hj (Nat.not_lt_zero j)⟩
theorem zero_flat : ∀ i, i < [zeroNode].length → (nd [zeroNode] i).data = [] ∧ (nd [zeroNode] i).ents = [] := fun i hi => by
  have : i = 0 := by simp at hi; exact hi
  subst this
  exact ⟨rfl, rfl⟩
theorem zero_bad : ¬ GraphOk [zeroNode] := fun h => by
  have := (h.ids 0 (by decide)).1
  exact absurd this (by decide)
end Go.Proofs.Ytjpdcppdoonmdaa
end
/- part GF. PROVED HERE: what Find answers, as plain data; lists of texts in memory; the entries' order. CONDITIONS: none. -/
section
namespace Go.Proofs.Ytjpdcppdoonmdaa
open Go.RowKit Go.Maps
/-! ### lists of texts -/
def strsV (l : List ByteArray) : List Value := l.map Value.string
def sAt (l : List ByteArray) (i : Nat) : ByteArray := l.getD i ⟨#[]⟩
def StrsAt (β : Bs) (A : Option Addr) (l : List ByteArray) : Prop := RowB β A (strsV l)
theorem strsV_len (l : List ByteArray) : (strsV l).length = l.length := by simp [strsV]
theorem oneCell_strs (d : List ByteArray) : ∀ u ∈ strsV d, u.oneCell' = true := by
  intro u hu
  obtain ⟨b, _, rfl⟩ := List.mem_map.1 hu
  rfl
section strs
variable {β β' : Bs} {A : Option Addr} {l : List ByteArray}
theorem StrsAt.le (h : StrsAt β A l) (hle : β.le β') : StrsAt β' A l := RowB.le h hle
theorem StrsAt.get (h : StrsAt β A l) {j : Nat} (hj : j < l.length) : A = some ⟨blkOf A, offOf A, none⟩ ∧ Rd β ⟨blkOf A, offOf A + j * 1, none⟩ (.string (sAt l j)) := by
  have h1 : (strsV l)[j]? = some (.string (sAt l j)) := by
    rw [strsV, List.getElem?_map, getD_some (x := ⟨#[]⟩) hj]; rfl
  have := h j _ h1
  rw [Nat.mul_one]
  exact this
theorem StrsAt.hd (h : StrsAt β A l) {j : Nat} (hj : j < l.length) : A = some ⟨blkOf A, offOf A, none⟩ := (h.get hj).1
theorem StrsAt.rd (h : StrsAt β A l) {j : Nat} (hj : j < l.length) : Rd β ⟨blkOf A, offOf A + j * 1, none⟩ (.string (sAt l j)) := (h.get hj).2
end strs
theorem drop_sAt {l : List ByteArray} {i : Nat} (h : i < l.length) : l.drop i = sAt l i :: l.drop (i + 1) := by
  rw [List.drop_eq_getElem_cons h]
  unfold sAt
  rw [List.getD_eq_getElem?_getD, List.getElem?_eq_getElem h]
  rfl
/-! ### begin -/
noncomputable def beginC (ns : List NodeM) (root : Int) : Int :=
  if ¬ GraphOk ns then 140 else if ¬ 0 ≤ atI ns root then 141 else if ¬ (nd ns (tgt ns root)).kind = 2 then 173 else 0
theorem beginC_bad {ns : List NodeM} {root : Int} (h : ¬ GraphOk ns) : beginC ns root = 140 := if_pos h
theorem beginC_none {ns : List NodeM} {root : Int} (h : GraphOk ns) (h1 : ¬ 0 ≤ atI ns root) : beginC ns root = 141 := by
  unfold beginC; rw [if_neg (fun e => e h), if_pos h1]
theorem beginC_kind {ns : List NodeM} {root : Int} (h : GraphOk ns) (h1 : 0 ≤ atI ns root) (h2 : ¬ (nd ns (tgt ns root)).kind = 2) : beginC ns root = 173 := by
  unfold beginC; rw [if_neg (fun e => e h), if_neg (fun e => e h1), if_pos h2]
theorem beginC_ok {ns : List NodeM} {root : Int} (h : GraphOk ns) (h1 : 0 ≤ atI ns root) (h2 : (nd ns (tgt ns root)).kind = 2) : beginC ns root = 0 := by
  unfold beginC; rw [if_neg (fun e => e h), if_neg (fun e => e h1), if_neg (fun e => e h2)]
theorem beginC_zero {ns : List NodeM} {root : Int} (h : beginC ns root = 0) : GraphOk ns ∧ 0 ≤ atI ns root ∧ (nd ns (tgt ns root)).kind = 2 := by
  unfold beginC at h
  split at h
  · cases h
  · rename_i h1
    split at h
    · cases h
    · rename_i h2
      split at h
      · cases h
      · rename_i h3
        exact ⟨Classical.not_not.1 h1, Classical.not_not.1 h2, Classical.not_not.1 h3⟩
/-- what the reference's begin answers -/
noncomputable def refB (ns : List NodeM) (root : Int) : Value := if beginC ns root = 0 then .tuple #[.int .i64 ((tgt ns root : Nat) : Int), .int .i64 0] else .tuple #[.int .i64 0, .int .i64 (beginC ns root)]
theorem refB_ok {ns : List NodeM} {root : Int} (h : beginC ns root = 0) : refB ns root = .tuple #[.int .i64 ((tgt ns root : Nat) : Int), .int .i64 0] := if_pos h
theorem refB_bad {ns : List NodeM} {root : Int} (h : ¬ beginC ns root = 0) : refB ns root = .tuple #[.int .i64 0, .int .i64 (beginC ns root)] := if_neg h
/-! ### the entries' order -/
def Sorted (es : List EntM) : Prop := ∀ i j, i < j → j < es.length → cmpB (en es i).name (en es j).name < 0
theorem not_strLe {x y : ByteArray} : ¬ strLe x y ↔ cmpB y x < 0 := by
  unfold strLe
  rw [strEq', Lib.toList_data, Lib.toList_data]
  have h1 := @cmpL_less x.data.toList y.data.toList
  have h2 := @cmpB_zero x y
  have h3 := cmpB_anti x y
  unfold cmpB at h2 h3 ⊢
  rw [Bool.or_eq_true, decide_eq_true_iff, ← h1, ← h2]
  omega
theorem sorted_of {ns : List NodeM} {i : Nat} (h : ∀ j, j < (nd ns i).ents.length → EntOk ns i j) : Sorted (nd ns i).ents := by
  intro a b hab hb
  induction b with
  | zero => omega
  | succ b ih =>
    have h1 : cmpB (ent ns i b).name (ent ns i (b + 1)).name < 0 := not_strLe.1 (h (b + 1) hb).ord
    rcases Nat.lt_succ_iff_lt_or_eq.1 hab with e | e
    · exact cmpB_trans (ih e (by omega)) (by unfold ent at h1; omega)
    · rw [e]; exact h1
theorem Sorted.inj {es : List EntM} (h : Sorted es) {i j : Nat} (hi : i < es.length) (hj : j < es.length) (e : (en es i).name = (en es j).name) : i = j := by
  rcases Nat.lt_trichotomy i j with h1 | h1 | h1
  · have := h i j h1 hj; rw [e, cmpB_self] at this; omega
  · exact h1
  · have := h j i h1 hi; rw [e, cmpB_self] at this; omega
/-- the entry with a name -/
def findE (es : List EntM) (p : ByteArray) : Option Nat := es.findIdx? (fun e => decide (e.name = p))
theorem findE_some {es : List EntM} {p : ByteArray} {j : Nat} (hs : Sorted es) (hj : j < es.length) (e : (en es j).name = p) : findE es p = some j := by
  unfold findE
  rw [List.findIdx?_eq_some_iff_getElem]
  have hg : ∀ k (hk : k < es.length), en es k = es[k] := fun k hk => by
    unfold en
    rw [List.getD_eq_getElem?_getD, List.getElem?_eq_getElem hk]
    rfl
  refine ⟨hj, by rw [← hg j hj]; simpa using e, fun k hk => ?_⟩
  rw [← hg k (by omega)]
  simp only [decide_eq_true_eq]
  intro e2
  have := hs.inj (i := k) (j := j) (by omega) hj (e2.trans e.symm)
  omega
theorem findE_none {es : List EntM} {p : ByteArray} (h : ∀ j, j < es.length → ¬ (en es j).name = p) : findE es p = none := by
  unfold findE
  rw [List.findIdx?_eq_none_iff]
  intro x hx
  obtain ⟨j, hj, rfl⟩ := List.getElem_of_mem hx
  have := h j hj
  unfold en at this
  rw [List.getD_eq_getElem?_getD, List.getElem?_eq_getElem hj] at this
  simpa using this
/-- the node at the end of the parts, below place k -/
noncomputable def findM (ns : List NodeM) : Nat → List ByteArray → Int × Int
  | k, [] => ((nd ns k).id, 0)
  | k, p :: r => if (nd ns k).kind = 3 then (0, 174) else if (nd ns k).kind = 1 then (0, 173) else
    match findE (nd ns k).ents p with
    | none => (0, 170)
    | some j => findM ns (tgt ns (en (nd ns k).ents j).id) r
noncomputable def findG (ns : List NodeM) (root : Int) (ps : List ByteArray) : Int × Int := if beginC ns root = 0 then findM ns (tgt ns root) ps else (0, beginC ns root)
section find
variable {ns : List NodeM} {k i : Nat} {ps : List ByteArray}
theorem findM_end (h : ps.length ≤ i) : findM ns k (ps.drop i) = ((nd ns k).id, 0) := by
  rw [List.drop_eq_nil_of_le h]; rfl
theorem findM_sym (h : i < ps.length) (h3 : (nd ns k).kind = 3) : findM ns k (ps.drop i) = (0, 174) := by
  rw [drop_sAt h]; unfold findM; rw [if_pos h3]
theorem findM_file (h : i < ps.length) (h3 : (nd ns k).kind = 1) : findM ns k (ps.drop i) = (0, 173) := by
  rw [drop_sAt h]; unfold findM; rw [if_neg (by omega), if_pos h3]
theorem findM_none (h : i < ps.length) (h3 : ¬ (nd ns k).kind = 3) (h1 : ¬ (nd ns k).kind = 1) (hf : findE (nd ns k).ents (sAt ps i) = none) : findM ns k (ps.drop i) = (0, 170) := by
  rw [drop_sAt h]; unfold findM; rw [if_neg h3, if_neg h1, hf]
theorem findM_some {j : Nat} (h : i < ps.length) (h3 : ¬ (nd ns k).kind = 3) (h1 : ¬ (nd ns k).kind = 1) (hf : findE (nd ns k).ents (sAt ps i) = some j) : findM ns k (ps.drop i) = findM ns (tgt ns (en (nd ns k).ents j).id) (ps.drop (i + 1)) := by
  rw [drop_sAt h]
  conv => lhs; unfold findM
  rw [if_neg h3, if_neg h1, hf]
theorem findG_ok {root : Int} (h : beginC ns root = 0) : findG ns root ps = findM ns (tgt ns root) ps := if_pos h
theorem findG_bad {root : Int} (h : ¬ beginC ns root = 0) : findG ns root ps = (0, beginC ns root) := if_neg h
end find
theorem sp_compare {β : Bs} (a b : ByteArray) : Spec Try.prog β 45 #[.string a, .string b] [] (fun v l => v = .int .i64 (cmpB a b) ∧ l = []) :=
  Spec.of0 fun w _ => (Try.strings_Compare a b w).mono fun _ _ ⟨he, hw⟩ => ⟨_, he, ⟨rfl, rfl⟩, hw ▸ Keeps.refl _ _⟩
/-! ### the search -/
def Found (es : List EntM) (p : ByteArray) (v : Value) : Prop := (∃ k : Nat, k < es.length ∧ (en es k).name = p ∧ v = .tuple #[.int .i64 (k : Int), .bool true]) ∨ ((∀ j, j < es.length → ¬ (en es j).name = p) ∧ ∃ z, v = .tuple #[.int .i64 z, .bool false])
section search
variable {es : List EntM} {p : ByteArray} {i : Nat}
theorem Sorted.low (hs : Sorted es) (hi : i < es.length) (hc : cmpB (en es i).name p < 0) : ∀ t, t < i + 1 → cmpB (en es t).name p < 0 := fun t ht => by
  rcases Nat.lt_succ_iff_lt_or_eq.1 ht with h | h
  · exact cmpB_trans (hs t i h hi) (by omega)
  · rw [h]; exact hc
theorem Sorted.high (hs : Sorted es) (hc : ¬ cmpB (en es i).name p < 0) : ∀ t, i ≤ t → t < es.length → 0 ≤ cmpB (en es t).name p := fun t ht hl => by
  rcases Nat.eq_or_lt_of_le ht with h | h
  · rw [← h]; omega
  · have h1 := hs i t h hl
    apply Int.not_lt.1
    intro h2
    exact hc (cmpB_trans h1 (by omega))
theorem bs_none (hlo : ∀ t, t < i → cmpB (en es t).name p < 0) (hi : es.length ≤ i) : Found es p (.tuple #[.int .i64 ((i : Nat) : Int), .bool false]) :=
  .inr ⟨fun j hj e => by have := hlo j (by omega); rw [e, cmpB_self] at this; omega, i, rfl⟩
theorem bs_post (hs : Sorted es) (hi : i < es.length) (hlo : ∀ t, t < i → cmpB (en es t).name p < 0) (hhi : ∀ t, i ≤ t → t < es.length → 0 ≤ cmpB (en es t).name p) : Found es p (.tuple #[.int .i64 ((i : Nat) : Int), .bool (decide (cmpB (en es i).name p = 0))]) := by
  by_cases he : cmpB (en es i).name p = 0
  · exact .inl ⟨i, hi, cmpB_zero.1 he, by rw [decide_eq_true he]⟩
  · refine .inr ⟨fun j hj e => ?_, i, by rw [decide_eq_false he]⟩
    rcases Nat.lt_trichotomy j i with h | h | h
    · have := hlo j h; rw [e, cmpB_self] at this; omega
    · subst h; exact he (cmpB_zero.2 e)
    · have h1 := hs i j h hj
      rw [e] at h1
      have := hhi i (Nat.le_refl _) hi
      omega
end search
end Go.Proofs.Ytjpdcppdoonmdaa
end
/- part GBegin. PROVED HERE: the beginning of each look into a graph CONDITIONS: as the theorems say. Printed by a program of this repo (wip/v). -/
section
namespace Go.Proofs.Ytjpdcppdoonmdaa
open Go.RowKit
attribute [local irreducible] TriL TriLQ Tri TriQ
set_option maxRecDepth 100000 in
set_option maxHeartbeats 4000000 in
theorem sp_begin {β : Bs} (A : Option Addr) (c : Nat) (ns : List NodeM) (L : Lay) (hG : GraphAt β A ns L) (hB : GraphB ns 1048576) (root : Int) (hz : I64 root) :
    Spec Try.prog β 42 #[.agg #[.slice A ns.length c], .int .i64 root] [] (fun v l => (∃ mb, v = .tuple #[.map (some mb), .pointer (some ⟨(blkOf A), offOf A + (tgt ns root) * 10, none⟩), .int .i64 0] ∧ beginC ns root = 0 ∧ l = [.abs (MapA Try.prog 3 mb (mf (bf A ns ns.length)) ns.length)]) ∨ (∃ x y, v = .tuple #[x, y, .int .i64 (beginC ns root)] ∧ ¬ beginC ns root = 0 ∧ l = [])) := by
 refine Spec.enter Try.func42 rfl Try.ntmps42 (Nat.le_of_ble_eq_true rfl) (fun R => ?_)
 refine Tri.seq (Tri.region ?_)
 refine TriL.segN (k' := 4) (fr' := fun b1 => [(1, .int .i64 (root)), (2, .pointer (some ⟨b1, 0, none⟩))]) (hps' := fun b1 => [.abs R, .blk b1 [.slice A (ns.length) (c)] 24]) (obl := fun b1 => []) [o_, o_, o_, o_] [1, 2] [0, 1] (fun _ _ => by kernel_rfl) (fun b1 => trivial) (fun b1 => ?_)
 refine TriL.nil (by kernel_rfl) (TriQ.next (Tri.seq (Tri.region ?_)))
 refine TriL.segK (k' := 1) (fr' := [(1, .int .i64 (root)), (11, .agg #[.slice A (ns.length) (c)])]) (obl := [b1 = b1]) [⟨[.at 1], none, none, none, none⟩] [1, 11] (fun _ _ => by kernel_rfl) ⟨rfl, trivial⟩ ?_
 refine TriL.call (f := 37) (args := #[.agg #[.slice A (ns.length) (c)]]) (d := (some 12)) (pre := []) (R := [.abs R, .blk b1 [.slice A (ns.length) (c)] 24]) (pk := [0, 1]) (fun _ => by kernel_rfl) (sp_read A c ns L hG hB.hl hB.hd hB.hwf hB.hnm) rfl (by kernel_rfl) ?_
 rintro _ _ (⟨mb, rfl, hok, rfl⟩ | ⟨m, rfl, hok, rfl⟩)
 ·
  refine TriL.segK (k' := 7) (fr' := [(1, .int .i64 (root)), (7, .map (some mb)), (8, .bool true)]) (obl := []) [o_, o_, o_, o_, o_] [1, 7, 8] (fun _ _ => by kernel_rfl) trivial ?_
  refine TriL.nil (by kernel_rfl) (TriQ.next (Tri.seq (Tri.seq (Tri.region ?_))))
  refine TriL.segK (k' := 2) (fr' := [(1, .int .i64 (root)), (7, .map (some mb)), (16, .bool false)]) (obl := []) [o_, o_] [1, 7, 16] (fun _ _ => by kernel_rfl) trivial ?_
  refine TriL.nil (by kernel_rfl) (TriQ.next ?_)
  refine Tri.condF (fun _ => by kernel_rfl) ?_
  refine Tri.skip (TriQ.next (Tri.seq (Tri.region ?_)))
  refine TriL.segK (k' := 2) (fr' := [(7, .map (some mb)), (17, .map (some mb)), (18, .int .i64 (root))]) (obl := []) [o_, o_] [7, 17, 18] (fun _ _ => by kernel_rfl) trivial ?_
  by_cases hat : 0 ≤ atI ns root
  ·
   have htl := atI_lt hat
   refine TriL.mapLook 0 (d := (some 19)) (t := 66) (K := 3) (E := 75) (b := mb) (n := ns.length) (f := (mf (bf A ns ns.length))) (x := (.tmp 17)) (ix := (.tmp 18)) (key := .int .i64 (root)) (z := .pointer none) (kl := (.int .i64 root)) (r := (some (.pointer (some ⟨(blkOf A), offOf A + (tgt ns root) * 10, none⟩)))) (fun _ => by kernel_rfl) (by kernel_rfl) (fun _ => by kernel_rfl) (fun _ => by kernel_rfl) lawI Try.underlying66 (fun _ => by kernel_rfl) (keyI hz.1 hz.2) (bf_at hat htl.1) ?_
   refine TriL.segK (k' := 4) (fr' := [(7, .map (some mb)), (9, .pointer (some ⟨(blkOf A), offOf A + (tgt ns root) * 10, none⟩))]) (obl := []) [o_] [7, 9] (fun _ _ => by kernel_rfl) trivial ?_
   refine TriL.nil (by kernel_rfl) (TriQ.next (Tri.seq (Tri.seq (Tri.region ?_))))
   refine TriL.segK (k' := 2) (fr' := [(7, .map (some mb)), (9, .pointer (some ⟨(blkOf A), offOf A + (tgt ns root) * 10, none⟩)), (21, .bool false)]) (obl := []) [o_, o_] [7, 9, 21] (fun _ _ => by kernel_rfl) trivial ?_
   refine TriL.nil (by kernel_rfl) (TriQ.next ?_)
   refine Tri.condF (fun _ => by kernel_rfl) ?_
   refine Tri.skip (TriQ.next (Tri.seq (Tri.seq (Tri.region ?_))))
   refine TriL.segK (k' := 5) (fr' := [(7, .map (some mb)), (9, .pointer (some ⟨(blkOf A), offOf A + (tgt ns root) * 10, none⟩)), (26, .bool (!(decide (((nd ns (tgt ns root)).kind : Int) = (2 : Int)))))]) (obl := [(Rd β ⟨(blkOf A), offOf A + (tgt ns root) * 10 + 1, none⟩ (.int .i64 ((nd ns (tgt ns root)).kind)))]) [o_, o_, o_, ⟨[.old (.int .i64 ((nd ns (tgt ns root)).kind))], none, none, none, none⟩, o_] [7, 9, 26] (fun _ _ => by kernel_rfl) ⟨GraphAt.rd hG (i := (tgt ns root)) (by omega) (j := 1) rfl, trivial⟩ ?_
   refine TriL.nil (by kernel_rfl) (TriQ.next ?_)
   refine Tri.condN (p := ((nd ns (tgt ns root)).kind : Int) = (2 : Int)) (fun _ => by kernel_rfl) (fun h26 => ?_) (fun h26 => ?_)
   ·
    refine Tri.seq (Tri.region ?_)
    refine TriL.segK (k' := 3) (fr' := [(4, .map none), (5, .pointer none), (6, .int .i64 173)]) (obl := []) [o_, o_, o_] [4, 5, 6] (fun _ _ => by kernel_rfl) trivial ?_
    refine TriL.nil (by kernel_rfl) (TriQ.next (Tri.ret (TriQ.passRet ?_)))
    exact TriQ.ret (v := .tuple #[.map none, .pointer none, .int .i64 173]) (l := []) (obl := []) [] [1] (fun _ => by kernel_rfl) trivial rfl (by kernel_rfl) (.inr ⟨_, _, by rw [beginC_kind hok hat h26], by rw [beginC_kind hok hat h26]; decide, rfl⟩)
   ·
    refine Tri.skip (TriQ.next (Tri.seq (Tri.region ?_)))
    refine TriL.segK (k' := 5) (fr' := [(4, .map (some mb)), (5, .pointer (some ⟨(blkOf A), offOf A + (tgt ns root) * 10, none⟩)), (6, .int .i64 0)]) (obl := []) [o_, o_, o_, o_, o_] [4, 5, 6] (fun _ _ => by kernel_rfl) trivial ?_
    refine TriL.nil (by kernel_rfl) (TriQ.next (Tri.ret ?_))
    exact TriQ.ret (v := .tuple #[.map (some mb), .pointer (some ⟨(blkOf A), offOf A + (tgt ns root) * 10, none⟩), .int .i64 0]) (l := [.abs (MapA Try.prog 3 mb (mf (bf A ns ns.length)) ns.length)]) (obl := []) [] [0, 1] (fun _ => by kernel_rfl) trivial rfl (by kernel_rfl) (.inl ⟨mb, rfl, beginC_ok hok hat h26, rfl⟩)
  ·
   refine TriL.mapLook 0 (d := (some 19)) (t := 66) (K := 3) (E := 75) (b := mb) (n := ns.length) (f := (mf (bf A ns ns.length))) (x := (.tmp 17)) (ix := (.tmp 18)) (key := .int .i64 (root)) (z := .pointer none) (kl := (.int .i64 root)) (r := none) (fun _ => by kernel_rfl) (by kernel_rfl) (fun _ => by kernel_rfl) (fun _ => by kernel_rfl) lawI Try.underlying66 (fun _ => by kernel_rfl) (keyI hz.1 hz.2) (bf_none hat) ?_
   refine TriL.segK (k' := 4) (fr' := [(7, .map (some mb)), (9, .pointer none)]) (obl := []) [o_] [7, 9] (fun _ _ => by kernel_rfl) trivial ?_
   refine TriL.nil (by kernel_rfl) (TriQ.next (Tri.seq (Tri.seq (Tri.region ?_))))
   refine TriL.segK (k' := 2) (fr' := [(7, .map (some mb)), (9, .pointer none), (21, .bool true)]) (obl := []) [o_, o_] [7, 9, 21] (fun _ _ => by kernel_rfl) trivial ?_
   refine TriL.nil (by kernel_rfl) (TriQ.next ?_)
   refine Tri.condT (fun _ => by kernel_rfl) ?_
   refine Tri.seq (Tri.region ?_)
   refine TriL.segK (k' := 3) (fr' := [(4, .map none), (5, .pointer none), (6, .int .i64 141)]) (obl := []) [o_, o_, o_] [4, 5, 6] (fun _ _ => by kernel_rfl) trivial ?_
   refine TriL.nil (by kernel_rfl) (TriQ.next (Tri.ret (TriQ.passRet ?_)))
   exact TriQ.ret (v := .tuple #[.map none, .pointer none, .int .i64 141]) (l := []) (obl := []) [] [1] (fun _ => by kernel_rfl) trivial rfl (by kernel_rfl) (.inr ⟨_, _, by rw [beginC_none hok hat], by rw [beginC_none hok hat]; decide, rfl⟩)
 ·
  refine TriL.segK (k' := 7) (fr' := [(1, .int .i64 (root)), (7, m), (8, .bool false)]) (obl := []) [o_, o_, o_, o_, o_] [1, 7, 8] (fun _ _ => by kernel_rfl) trivial ?_
  refine TriL.nil (by kernel_rfl) (TriQ.next (Tri.seq (Tri.seq (Tri.region ?_))))
  refine TriL.segK (k' := 2) (fr' := [(1, .int .i64 (root)), (7, m), (16, .bool true)]) (obl := []) [o_, o_] [1, 7, 16] (fun _ _ => by kernel_rfl) trivial ?_
  refine TriL.nil (by kernel_rfl) (TriQ.next ?_)
  refine Tri.condT (fun _ => by kernel_rfl) ?_
  refine Tri.seq (Tri.region ?_)
  refine TriL.segK (k' := 3) (fr' := [(4, .map none), (5, .pointer none), (6, .int .i64 140)]) (obl := []) [o_, o_, o_] [4, 5, 6] (fun _ _ => by kernel_rfl) trivial ?_
  refine TriL.nil (by kernel_rfl) (TriQ.next (Tri.ret (TriQ.passRet ?_)))
  exact TriQ.ret (v := .tuple #[.map none, .pointer none, .int .i64 140]) (l := []) (obl := []) [] [0] (fun _ => by kernel_rfl) trivial rfl (by kernel_rfl) (.inr ⟨_, _, by rw [beginC_bad hok], by rw [beginC_bad hok]; decide, rfl⟩)
set_option maxRecDepth 100000 in
set_option maxHeartbeats 4000000 in
theorem sp_refBegin {β : Bs} (A : Option Addr) (c : Nat) (ns : List NodeM) (L : Lay) (hG : GraphAt β A ns L) (hB : GraphB ns 1048576) (root : Int) :
    Spec Try.prog β 46 #[.agg #[.slice A ns.length c], .int .i64 root] [] (fun v l => v = refB ns root ∧ l = []) := by
 refine Spec.enter Try.func46 rfl Try.ntmps46 (Nat.le_of_ble_eq_true rfl) (fun R => ?_)
 refine Tri.seq (Tri.region ?_)
 refine TriL.segN (k' := 3) (fr' := fun b2 => [(1, .int .i64 (root)), (2, .pointer (some ⟨b2, 0, none⟩))]) (hps' := fun b2 => [.abs R, .blk b2 [.slice A (ns.length) (c)] 24]) (obl := fun b2 => []) [o_, o_, o_] [1, 2] [0, 1] (fun _ _ => by kernel_rfl) (fun b2 => trivial) (fun b2 => ?_)
 refine TriL.nil (by kernel_rfl) (TriQ.next (Tri.seq (Tri.seq (Tri.region ?_))))
 refine TriL.segK (k' := 1) (fr' := [(1, .int .i64 (root)), (2, .pointer (some ⟨b2, 0, none⟩)), (7, .agg #[.slice A (ns.length) (c)])]) (obl := [b2 = b2]) [⟨[.at 1], none, none, none, none⟩] [1, 2, 7] (fun _ _ => by kernel_rfl) ⟨rfl, trivial⟩ ?_
 refine TriL.call (f := 16) (args := #[.agg #[.slice A (ns.length) (c)]]) (d := (some 8)) (pre := []) (R := [.abs R, .blk b2 [.slice A (ns.length) (c)] 24]) (pk := [0, 1]) (fun _ => by kernel_rfl) (sp_refCheck A c ns L hG hB.hl hB.hd hB.hwf hB.hnm hB.ht) rfl (by kernel_rfl) ?_
 rintro _ _ ⟨rfl, rfl⟩
 refine TriL.segK (k' := 3) (fr' := [(1, .int .i64 (root)), (2, .pointer (some ⟨b2, 0, none⟩)), (9, .bool (!(decide (((if GraphOk ns then 0 else 140) : Int) = (0 : Int)))))]) (obl := []) [o_] [1, 2, 9] (fun _ _ => by kernel_rfl) trivial ?_
 refine TriL.nil (by kernel_rfl) (TriQ.next ?_)
 refine Tri.condN (p := ((if GraphOk ns then 0 else 140) : Int) = (0 : Int)) (fun _ => by kernel_rfl) (fun h9 => ?_) (fun h9 => ?_)
 ·
  have hok : ¬ GraphOk ns := fun hc => h9 (if_pos hc)
  refine Tri.seq (Tri.region ?_)
  refine TriL.segK (k' := 2) (fr' := [(4, .int .i64 0), (5, .int .i64 140)]) (obl := []) [o_, o_] [4, 5] (fun _ _ => by kernel_rfl) trivial ?_
  refine TriL.nil (by kernel_rfl) (TriQ.next (Tri.ret (TriQ.passRet ?_)))
  exact TriQ.ret (v := .tuple #[.int .i64 0, .int .i64 140]) (l := []) (obl := []) [] [0] (fun _ => by kernel_rfl) trivial rfl (by kernel_rfl) (⟨by rw [refB_bad (ns := ns) (root := root) (by rw [beginC_bad hok]; decide), beginC_bad hok], rfl⟩)
 ·
  have hok : GraphOk ns := Classical.byContradiction (fun hc => absurd (h9.symm.trans (if_neg hc)) (by decide))
  refine Tri.skip (TriQ.next (Tri.seq (Tri.region ?_)))
  refine TriL.segK (k' := 2) (fr' := [(2, .pointer (some ⟨b2, 0, none⟩)), (10, .agg #[.slice A (ns.length) (c)]), (11, .int .i64 (root))]) (obl := [b2 = b2]) [⟨[.at 1], none, none, none, none⟩, o_] [2, 10, 11] (fun _ _ => by kernel_rfl) ⟨rfl, trivial⟩ ?_
  refine TriL.call (f := 29) (args := #[.agg #[.slice A (ns.length) (c)], .int .i64 (root)]) (d := (some 12)) (pre := []) (R := [.abs R, .blk b2 [.slice A (ns.length) (c)] 24]) (pk := [0, 1]) (fun _ => by kernel_rfl) (sp_at A c ns L hG hok.rise hB.hl root) rfl (by kernel_rfl) ?_
  rintro _ _ ⟨rfl, rfl⟩
  refine TriL.segK (k' := 4) (fr' := [(2, .pointer (some ⟨b2, 0, none⟩)), (6, .int .i64 (atI ns root))]) (obl := []) [o_] [2, 6] (fun _ _ => by kernel_rfl) trivial ?_
  refine TriL.nil (by kernel_rfl) (TriQ.next (Tri.seq (Tri.seq (Tri.region ?_))))
  refine TriL.segK (k' := 2) (fr' := [(2, .pointer (some ⟨b2, 0, none⟩)), (6, .int .i64 (atI ns root)), (14, .bool (decide ((atI ns root : Int) < (0 : Int))))]) (obl := []) [o_, o_] [2, 6, 14] (fun _ _ => by kernel_rfl) trivial ?_
  refine TriL.nil (by kernel_rfl) (TriQ.next ?_)
  refine Tri.condP (p := (atI ns root : Int) < (0 : Int)) (fun _ => by kernel_rfl) (fun h14 => ?_) (fun h14 => ?_)
  ·
   have hat : ¬ 0 ≤ atI ns root := by omega
   refine Tri.seq (Tri.region ?_)
   refine TriL.segK (k' := 2) (fr' := [(4, .int .i64 0), (5, .int .i64 141)]) (obl := []) [o_, o_] [4, 5] (fun _ _ => by kernel_rfl) trivial ?_
   refine TriL.nil (by kernel_rfl) (TriQ.next (Tri.ret (TriQ.passRet ?_)))
   exact TriQ.ret (v := .tuple #[.int .i64 0, .int .i64 141]) (l := []) (obl := []) [] [0] (fun _ => by kernel_rfl) trivial rfl (by kernel_rfl) (⟨by rw [refB_bad (ns := ns) (root := root) (by rw [beginC_none hok hat]; decide), beginC_none hok hat], rfl⟩)
  ·
   have hat : 0 ≤ atI ns root := by omega
   have htl := atI_lt hat
   refine Tri.skip (TriQ.next (Tri.seq (Tri.seq (Tri.region ?_))))
   refine TriL.segK (k' := 7) (fr' := [(6, .int .i64 (atI ns root)), (21, .bool (!(decide (((nd ns (tgt ns root)).kind : Int) = (2 : Int)))))]) (obl := [(Rd β ⟨(blkOf A), offOf A + (tgt ns root) * 10 + 1, none⟩ (.int .i64 ((nd ns (tgt ns root)).kind))), atI ns root = (((tgt ns root) : Nat) : Int), (tgt ns root) < ns.length, (⟨(blkOf A), offOf A, none⟩ : Addr).spot = none, (A : Option Addr) = some ⟨(blkOf A), offOf A, none⟩, b2 = b2]) [o_, ⟨[.at 1], none, none, none, none⟩, o_, ⟨[], some (tgt ns root), none, some ⟨(blkOf A), offOf A, none⟩, none⟩, o_, ⟨[.old (.int .i64 ((nd ns (tgt ns root)).kind))], none, none, none, none⟩, o_] [6, 21] (fun _ _ => by kernel_rfl) ⟨GraphAt.rd hG (i := (tgt ns root)) (by omega) (j := 1) rfl, htl.2.2, by omega, rfl, GraphAt.hd hG (i := (tgt ns root)) (by omega), rfl, trivial⟩ ?_
   refine TriL.nil (by kernel_rfl) (TriQ.next ?_)
   refine Tri.condN (p := ((nd ns (tgt ns root)).kind : Int) = (2 : Int)) (fun _ => by kernel_rfl) (fun h21 => ?_) (fun h21 => ?_)
   ·
    refine Tri.seq (Tri.region ?_)
    refine TriL.segK (k' := 2) (fr' := [(4, .int .i64 0), (5, .int .i64 173)]) (obl := []) [o_, o_] [4, 5] (fun _ _ => by kernel_rfl) trivial ?_
    refine TriL.nil (by kernel_rfl) (TriQ.next (Tri.ret (TriQ.passRet ?_)))
    exact TriQ.ret (v := .tuple #[.int .i64 0, .int .i64 173]) (l := []) (obl := []) [] [0] (fun _ => by kernel_rfl) trivial rfl (by kernel_rfl) (⟨by rw [refB_bad (ns := ns) (root := root) (by rw [beginC_kind hok hat h21]; decide), beginC_kind hok hat h21], rfl⟩)
   ·
    refine Tri.skip (TriQ.next (Tri.seq (Tri.region ?_)))
    refine TriL.segK (k' := 3) (fr' := [(4, .int .i64 (atI ns root)), (5, .int .i64 0)]) (obl := []) [o_, o_, o_] [4, 5] (fun _ _ => by kernel_rfl) trivial ?_
    refine TriL.nil (by kernel_rfl) (TriQ.next (Tri.ret ?_))
    exact TriQ.ret (v := .tuple #[.int .i64 (atI ns root), .int .i64 0]) (l := []) (obl := []) [] [0] (fun _ => by kernel_rfl) trivial rfl (by kernel_rfl) (⟨by rw [refB_ok (beginC_ok hok hat h21), htl.2.2], rfl⟩)
end Go.Proofs.Ytjpdcppdoonmdaa
end
/- part GFind. PROVED HERE: graph.Find CONDITIONS: as the theorems say. Printed by a program of this repo (wip/v). -/
section
namespace Go.Proofs.Ytjpdcppdoonmdaa
open Go.RowKit
attribute [local irreducible] TriL TriLQ Tri TriQ
set_option maxRecDepth 100000 in
set_option maxHeartbeats 4000000 in
theorem sp_cmpf {β : Bs} (e : EntM) (p : ByteArray) : Spec Try.prog β 44 #[.agg #[.string e.name, .int .i64 (e.id)], .string p] [] (fun v l => v = .int .i64 (cmpB e.name p) ∧ l = []) := by
 refine Spec.enter Try.func44 rfl Try.ntmps44 (Nat.le_of_ble_eq_true rfl) (fun R => ?_)
 refine Tri.seq (Tri.region ?_)
 refine TriL.segN (k' := 2) (fr' := fun b1 => [(1, .string p), (2, .pointer (some ⟨b1, 0, none⟩))]) (hps' := fun b1 => [.abs R, .blk b1 [.string e.name, .int .i64 (e.id)] 72]) (obl := fun b1 => []) [o_, o_] [1, 2] [0, 1] (fun _ _ => by kernel_rfl) (fun b1 => trivial) (fun b1 => ?_)
 refine TriL.nil (by kernel_rfl) (TriQ.next (Tri.seq (Tri.region ?_)))
 refine TriL.segK (k' := 3) (fr' := [(6, .string e.name), (7, .string p)]) (obl := [b1 = b1]) [o_, ⟨[.at 1], none, none, none, none⟩, o_] [6, 7] (fun _ _ => by kernel_rfl) ⟨rfl, trivial⟩ ?_
 refine TriL.call (f := 45) (args := #[.string e.name, .string p]) (d := (some 8)) (pre := []) (R := [.abs R, .blk b1 [.string e.name, .int .i64 (e.id)] 72]) (pk := [0, 1]) (fun _ => by kernel_rfl) (sp_compare e.name p) rfl (by kernel_rfl) ?_
 rintro _ _ ⟨rfl, rfl⟩
 refine TriL.segK (k' := 5) (fr' := [(4, .int .i64 ((cmpB e.name p)))]) (obl := []) [o_] [4] (fun _ _ => by kernel_rfl) trivial ?_
 refine TriL.nil (by kernel_rfl) (TriQ.next (Tri.ret ?_))
 exact TriQ.ret (v := .int .i64 ((cmpB e.name p))) (l := []) (obl := []) [] [0] (fun _ => by kernel_rfl) trivial rfl (by kernel_rfl) (⟨rfl, rfl⟩)
set_option maxRecDepth 100000 in
set_option maxHeartbeats 4000000 in
theorem sp_bsearch {β : Bs} (A : Option Addr) (c : Nat) (es : List EntM) (p : ByteArray) (hE : EntsAt β A es) (hl : es.length ≤ 1048576) (hs : Sorted es) :
    Spec Try.prog β 43 #[.slice A es.length c, .string p, .func (.func 44) #[] #[]] [] (fun v l => Found es p v ∧ l = []) := by
 refine Spec.enter Try.func43 rfl Try.ntmps43 (Nat.le_of_ble_eq_true rfl) (fun R => ?_)
 refine Tri.seq (Tri.region ?_)
 refine TriL.segK (k' := 2) (fr' := [(0, .slice A (es.length) (c)), (1, .string p), (2, .func (.func 44) #[] #[])]) (obl := []) [o_, o_] [0, 1, 2] (fun _ _ => by kernel_rfl) trivial ?_
 refine TriL.nil (by kernel_rfl) (TriQ.next (Tri.seq (Tri.region ?_)))
 refine TriL.segK (k' := 3) (fr' := [(0, .slice A (es.length) (c)), (1, .string p), (2, .func (.func 44) #[] #[]), (8, .int .i64 ↑es.length)]) (obl := []) [o_, o_, o_] [0, 1, 2, 8] (fun _ _ => by kernel_rfl) trivial ?_
 refine TriL.nil (by kernel_rfl) (TriQ.next (Tri.seq (Tri.region ?_)))
 refine TriL.segK (k' := 3) (fr' := [(0, .slice A (es.length) (c)), (1, .string p), (2, .func (.func 44) #[] #[]), (8, .int .i64 ↑es.length), (9, .int .i64 0), (10, .int .i64 ↑es.length)]) (obl := []) [o_, o_, o_] [0, 1, 2, 8, 9, 10] (fun _ _ => by kernel_rfl) trivial ?_
 refine TriL.nil (by kernel_rfl) (TriQ.next (Tri.seq (Tri.block ?_)))
 refine Tri.loop (ι := Nat × Nat) (fun ((i, j) : Nat × Nat) => (i ≤ j) ∧ (j ≤ es.length) ∧ (∀ t, t < i → cmpB (en es t).name p < 0) ∧ (∀ t, j ≤ t → t < es.length → 0 ≤ cmpB (en es t).name p)) (fun ((i, j) : Nat × Nat) => j - i) (fun ((i, j) : Nat × Nat) => [(0, .slice A (es.length) (c)), (1, .string p), (2, .func (.func 44) #[] #[]), (8, .int .i64 ↑es.length), (9, .int .i64 ↑i), (10, .int .i64 ↑j)]) (fun ((i, j) : Nat × Nat) => [.abs R]) (0, es.length) (idx := [0, 1, 2, 8, 9, 10]) (pk := [0]) (show (0 ≤ es.length) ∧ (es.length ≤ es.length) ∧ (∀ t, t < 0 → cmpB (en es t).name p < 0) ∧ (∀ t, es.length ≤ t → t < es.length → 0 ≤ cmpB (en es t).name p) from ⟨Nat.zero_le _, Nat.le_refl _, fun t h => absurd h (Nat.not_lt_zero t), fun t h1 h2 => by omega⟩) (fun _ => by kernel_rfl) rfl (by kernel_rfl) ?_
 rintro ⟨i, j⟩ ⟨hij, hj, hlo, hhi⟩
 show Tri _ _ _ _ [(0, .slice A (es.length) (c)), (1, .string p), (2, .func (.func 44) #[] #[]), (8, .int .i64 ↑es.length), (9, .int .i64 ↑i), (10, .int .i64 ↑j)] [.abs R] _
 refine Tri.seq (Tri.seq (Tri.region ?_))
 refine TriL.segK (k' := 3) (fr' := [(0, .slice A (es.length) (c)), (1, .string p), (2, .func (.func 44) #[] #[]), (8, .int .i64 ↑es.length), (9, .int .i64 ↑i), (10, .int .i64 ↑j), (17, .bool (decide ((((i : Nat) : Int) : Int) < (((j : Nat) : Int) : Int))))]) (obl := []) [o_, o_, o_] [0, 1, 2, 8, 9, 10, 17] (fun _ _ => by kernel_rfl) trivial ?_
 refine TriL.nil (by kernel_rfl) (TriQ.next ?_)
 refine Tri.condP (p := (((i : Nat) : Int) : Int) < (((j : Nat) : Int) : Int)) (fun _ => by kernel_rfl) (fun h17 => ?_) (fun h17 => ?_)
 ·
  refine Tri.skip (TriQ.next (Tri.block (Tri.seq (Tri.region ?_))))
  refine TriL.segK (k' := 7) (fr' := [(0, .slice A (es.length) (c)), (1, .string p), (2, .func (.func 44) #[] #[]), (8, .int .i64 ↑es.length), (9, .int .i64 ↑i), (10, .int .i64 ↑j), (11, .int .i64 ↑((i + j) / 2))]) (obl := [(Value.int .i64 (IntKind.wrap .i64 (((i + j) / 2 : Nat) : Int))) = (.int .i64 ↑((i + j) / 2)), (Value.int .u64 (Int.fdiv ((i + j : Nat) : Int) (2 ^ 1))) = (.int .u64 ((((i + j) / 2 : Nat) : Int))), (Value.int .u64 (IntKind.wrap .u64 ((i + j : Nat) : Int))) = (.int .u64 (((i + j : Nat) : Int))), (Value.int .i64 (IntKind.wrap .i64 (((i : Nat) : Int) + ((j : Nat) : Int)))) = (.int .i64 ↑(i + j))]) [o_, o_, ⟨[], none, none, none, some (.int .i64 ↑(i + j))⟩, ⟨[], none, none, none, some (.int .u64 (((i + j : Nat) : Int)))⟩, ⟨[], none, none, none, some (.int .u64 ((((i + j) / 2 : Nat) : Int)))⟩, ⟨[], none, none, none, some (.int .i64 ↑((i + j) / 2))⟩, o_] [0, 1, 2, 8, 9, 10, 11] (fun _ _ => by kernel_rfl) ⟨wrapEq rfl (by omega) (by omega), shr1Eq, u64Eq (by omega) (by omega), wrapEq (by omega) (by omega) (by omega), trivial⟩ ?_
  refine TriL.nil (by kernel_rfl) (TriQ.next (Tri.seq (Tri.region ?_)))
  refine TriL.segK (k' := 6) (fr' := [(0, .slice A (es.length) (c)), (1, .string p), (2, .func (.func 44) #[] #[]), (8, .int .i64 ↑es.length), (9, .int .i64 ↑i), (10, .int .i64 ↑j), (11, .int .i64 ↑((i + j) / 2)), (24, .func (.func 44) #[] #[]), (28, .agg #[.string (en es ((i + j) / 2)).name, .int .i64 ((en es ((i + j) / 2)).id)]), (29, .string p)]) (obl := [(Rd β ⟨(blkOf A), offOf A + ((i + j) / 2) * 2 + 1, none⟩ (.int .i64 ((en es ((i + j) / 2)).id))), (Rd β ⟨(blkOf A), offOf A + ((i + j) / 2) * 2, none⟩ (.string (en es ((i + j) / 2)).name)), (((i + j) / 2 : Nat) : Int) = (((i + j) / 2 : Nat) : Int), (i + j) / 2 < es.length, (⟨(blkOf A), offOf A, none⟩ : Addr).spot = none, (A : Option Addr) = some ⟨(blkOf A), offOf A, none⟩]) [o_, o_, o_, ⟨[], some ((i + j) / 2), none, some ⟨(blkOf A), offOf A, none⟩, none⟩, ⟨[.old (.string (en es ((i + j) / 2)).name), .old (.int .i64 ((en es ((i + j) / 2)).id))], none, none, none, none⟩, o_] [0, 1, 2, 8, 9, 10, 11, 24, 28, 29] (fun _ _ => by kernel_rfl) ⟨EntsAt.rd hE (i := (i + j) / 2) (by omega) (j := 1) rfl, EntsAt.rd hE (i := (i + j) / 2) (by omega) (j := 0) rfl, rfl, by omega, rfl, EntsAt.hd hE (i := (i + j) / 2) (by omega), trivial⟩ ?_
  refine TriL.call (f := 44) (args := #[.agg #[.string (en es ((i + j) / 2)).name, .int .i64 ((en es ((i + j) / 2)).id)], .string p]) (d := (some 30)) (pre := []) (R := [.abs R]) (pk := [0]) (fun _ => by kernel_rfl) (sp_cmpf (en es ((i + j) / 2)) p) rfl (by kernel_rfl) ?_
  rintro _ _ ⟨rfl, rfl⟩
  refine TriL.segK (k' := 8) (fr' := [(0, .slice A (es.length) (c)), (1, .string p), (2, .func (.func 44) #[] #[]), (8, .int .i64 ↑es.length), (9, .int .i64 ↑i), (10, .int .i64 ↑j), (11, .int .i64 ↑((i + j) / 2)), (31, .bool (decide (((cmpB (en es ((i + j) / 2)).name p) : Int) < (0 : Int))))]) (obl := []) [o_] [0, 1, 2, 8, 9, 10, 11, 31] (fun _ _ => by kernel_rfl) trivial ?_
  refine TriL.nil (by kernel_rfl) (TriQ.next ?_)
  refine Tri.condP (p := ((cmpB (en es ((i + j) / 2)).name p) : Int) < (0 : Int)) (fun _ => by kernel_rfl) (fun h31 => ?_) (fun h31 => ?_)
  ·
   refine Tri.region ?_
   refine TriL.segK (k' := 3) (fr' := [(0, .slice A (es.length) (c)), (1, .string p), (2, .func (.func 44) #[] #[]), (8, .int .i64 ↑es.length), (9, .int .i64 ↑(((i + j) / 2) + 1)), (10, .int .i64 ↑j)]) (obl := [(Value.int .i64 (IntKind.wrap .i64 ((((i + j) / 2 : Nat) : Int) + 1))) = (.int .i64 ↑(((i + j) / 2) + 1))]) [o_, ⟨[], none, none, none, some (.int .i64 ↑(((i + j) / 2) + 1))⟩, o_] [0, 1, 2, 8, 9, 10] (fun _ _ => by kernel_rfl) ⟨wrapEq (by omega) (by omega) (by omega), trivial⟩ ?_
   refine TriL.nil (by kernel_rfl) (TriQ.blockNormal ?_)
   exact TriQ.turn ((((i + j) / 2) + 1), j) (idx := [0, 1, 2, 8, 9, 10]) (pk := [0]) (show (((((i + j) / 2) + 1)) ≤ j) ∧ (j ≤ es.length) ∧ (∀ t, t < ((((i + j) / 2) + 1)) → cmpB (en es t).name p < 0) ∧ (∀ t, j ≤ t → t < es.length → 0 ≤ cmpB (en es t).name p) from ⟨by omega, by omega, hs.low (by omega) h31, hhi⟩) (by show j - ((((i + j) / 2) + 1)) < j - i; omega) (fun _ => by kernel_rfl) rfl (by kernel_rfl)
  ·
   refine Tri.region ?_
   refine TriL.segK (k' := 2) (fr' := [(0, .slice A (es.length) (c)), (1, .string p), (2, .func (.func 44) #[] #[]), (8, .int .i64 ↑es.length), (9, .int .i64 ↑i), (10, .int .i64 ↑((i + j) / 2))]) (obl := []) [o_, o_] [0, 1, 2, 8, 9, 10] (fun _ _ => by kernel_rfl) trivial ?_
   refine TriL.nil (by kernel_rfl) (TriQ.blockNormal ?_)
   exact TriQ.turn (i, ((i + j) / 2)) (idx := [0, 1, 2, 8, 9, 10]) (pk := [0]) (show (i ≤ (((i + j) / 2))) ∧ ((((i + j) / 2)) ≤ es.length) ∧ (∀ t, t < i → cmpB (en es t).name p < 0) ∧ (∀ t, (((i + j) / 2)) ≤ t → t < es.length → 0 ≤ cmpB (en es t).name p) from ⟨by omega, by omega, hlo, hs.high h31⟩) (by show (((i + j) / 2)) - i < j - i; omega) (fun _ => by kernel_rfl) rfl (by kernel_rfl)
 ·
  refine Tri.exit (TriQ.passExit (TriQ.passExit (TriQ.blockHit (TriQ.next (Tri.seq (Tri.region ?_))))))
  refine TriL.segK (k' := 5) (fr' := [(0, .slice A (es.length) (c)), (1, .string p), (2, .func (.func 44) #[] #[]), (9, .int .i64 ↑i), (35, .int .i64 ↑i), (39, .bool (decide ((((i : Nat) : Int) : Int) < (((es.length : Nat) : Int) : Int))))]) (obl := []) [o_, o_, o_, o_, o_] [0, 1, 2, 9, 35, 39] (fun _ _ => by kernel_rfl) trivial ?_
  refine TriL.slotP 39 ((((i : Nat) : Int) : Int) < (((es.length : Nat) : Int) : Int)) (fun _ => by kernel_rfl) (fun h39 => ?_) (fun h39 => ?_)
  ·
   refine TriL.segK (k' := 11) (fr' := [(35, .int .i64 ↑i), (39, .bool true), (40, .func (.func 44) #[] #[]), (44, .agg #[.string (en es i).name, .int .i64 ((en es i).id)]), (45, .string p)]) (obl := [(Rd β ⟨(blkOf A), offOf A + i * 2 + 1, none⟩ (.int .i64 ((en es i).id))), (Rd β ⟨(blkOf A), offOf A + i * 2, none⟩ (.string (en es i).name)), ((i : Nat) : Int) = ((i : Nat) : Int), i < es.length, (⟨(blkOf A), offOf A, none⟩ : Addr).spot = none, (A : Option Addr) = some ⟨(blkOf A), offOf A, none⟩]) [o_, o_, o_, ⟨[], some i, none, some ⟨(blkOf A), offOf A, none⟩, none⟩, ⟨[.old (.string (en es i).name), .old (.int .i64 ((en es i).id))], none, none, none, none⟩, o_] [35, 39, 40, 44, 45] (fun _ _ => by kernel_rfl) ⟨EntsAt.rd hE (i := i) (by omega) (j := 1) rfl, EntsAt.rd hE (i := i) (by omega) (j := 0) rfl, rfl, by omega, rfl, EntsAt.hd hE (i := i) (by omega), trivial⟩ ?_
   refine TriL.call (f := 44) (args := #[.agg #[.string (en es i).name, .int .i64 ((en es i).id)], .string p]) (d := (some 46)) (pre := []) (R := [.abs R]) (pk := [0]) (fun _ => by kernel_rfl) (sp_cmpf (en es i) p) rfl (by kernel_rfl) ?_
   rintro _ _ ⟨rfl, rfl⟩
   refine TriL.segK (k' := 16) (fr' := [(6, .int .i64 ↑i), (7, .bool (decide (((cmpB (en es i).name p) : Int) = (0 : Int))))]) (obl := []) [o_, o_, o_, o_] [6, 7] (fun _ _ => by kernel_rfl) trivial ?_
   refine TriL.nil (by kernel_rfl) (TriQ.next (Tri.ret ?_))
   exact TriQ.ret (v := .tuple #[.int .i64 ↑i, .bool (decide (((cmpB (en es i).name p) : Int) = (0 : Int)))]) (l := []) (obl := []) [] [0] (fun _ => by kernel_rfl) trivial rfl (by kernel_rfl) (⟨bs_post hs (by omega) hlo (fun t h1 h2 => hhi t (by omega) h2), rfl⟩)
  ·
   refine TriL.segK (k' := 16) (fr' := [(6, .int .i64 ↑i), (7, .bool false)]) (obl := []) [o_, o_, o_, o_, o_, o_, o_, o_, o_, o_, o_] [6, 7] (fun _ _ => by kernel_rfl) trivial ?_
   refine TriL.nil (by kernel_rfl) (TriQ.next (Tri.ret ?_))
   exact TriQ.ret (v := .tuple #[.int .i64 ↑i, .bool false]) (l := []) (obl := []) [] [0] (fun _ => by kernel_rfl) trivial rfl (by kernel_rfl) (⟨bs_none hlo (by omega), rfl⟩)
set_option maxRecDepth 100000 in
set_option maxHeartbeats 4000000 in
theorem sp_find {β : Bs} (A : Option Addr) (c : Nat) (ns : List NodeM) (L : Lay) (hG : GraphAt β A ns L) (hB : GraphB ns 1048576) (root : Int) (hz : I64 root) (F : Option Addr) (cF : Nat) (ps : List ByteArray) (hP : StrsAt β F ps) (hPl : ps.length ≤ 8388608) :
    Spec Try.prog β 23 #[.agg #[.slice A ns.length c], .int .i64 root, .slice F ps.length cF] [] (fun v l => v = .tuple #[.int .i64 (findG ns root ps).1, .int .i64 (findG ns root ps).2] ∧ l = []) := by
 refine Spec.enter Try.func23 rfl Try.ntmps23 (Nat.le_of_ble_eq_true rfl) (fun R => ?_)
 refine Tri.seq (Tri.region ?_)
 refine TriL.segN (k' := 3) (fr' := fun b2 => [(1, .int .i64 (root)), (2, .slice F (ps.length) (cF)), (3, .pointer (some ⟨b2, 0, none⟩))]) (hps' := fun b2 => [.abs R, .blk b2 [.slice A (ns.length) (c)] 24]) (obl := fun b2 => []) [o_, o_, o_] [1, 2, 3] [0, 1] (fun _ _ => by kernel_rfl) (fun b2 => trivial) (fun b2 => ?_)
 refine TriL.nil (by kernel_rfl) (TriQ.next (Tri.seq (Tri.region ?_)))
 refine TriL.segK (k' := 2) (fr' := [(2, .slice F (ps.length) (cF)), (16, .agg #[.slice A (ns.length) (c)]), (17, .int .i64 (root))]) (obl := [b2 = b2]) [⟨[.at 1], none, none, none, none⟩, o_] [2, 16, 17] (fun _ _ => by kernel_rfl) ⟨rfl, trivial⟩ ?_
 refine TriL.call (f := 42) (args := #[.agg #[.slice A (ns.length) (c)], .int .i64 (root)]) (d := (some 18)) (pre := []) (R := [.abs R, .blk b2 [.slice A (ns.length) (c)] 24]) (pk := [0, 1]) (fun _ => by kernel_rfl) (sp_begin A c ns L hG hB root hz) rfl (by kernel_rfl) ?_
 rintro _ _ (⟨mb, rfl, hbg, rfl⟩ | ⟨x, y, rfl, hbg, rfl⟩)
 ·
  obtain ⟨hok, hat, hkd⟩ := beginC_zero hbg
  have htl := atI_lt hat
  refine TriL.segK (k' := 10) (fr' := [(2, .slice F (ps.length) (cF)), (8, .map (some mb)), (9, .pointer (some ⟨(blkOf A), offOf A + (tgt ns root) * 10, none⟩)), (10, .int .i64 0)]) (obl := []) [o_, o_, o_, o_, o_, o_, o_] [2, 8, 9, 10] (fun _ _ => by kernel_rfl) trivial ?_
  refine TriL.nil (by kernel_rfl) (TriQ.next (Tri.seq (Tri.seq (Tri.region ?_))))
  refine TriL.segK (k' := 2) (fr' := [(2, .slice F (ps.length) (cF)), (8, .map (some mb)), (9, .pointer (some ⟨(blkOf A), offOf A + (tgt ns root) * 10, none⟩)), (10, .int .i64 0), (23, .bool false)]) (obl := []) [o_, o_] [2, 8, 9, 10, 23] (fun _ _ => by kernel_rfl) trivial ?_
  refine TriL.nil (by kernel_rfl) (TriQ.next ?_)
  refine Tri.condF (fun _ => by kernel_rfl) ?_
  refine Tri.skip (TriQ.next (Tri.seq (Tri.seq (Tri.region ?_))))
  refine TriL.segK (k' := 3) (fr' := [(8, .map (some mb)), (9, .pointer (some ⟨(blkOf A), offOf A + (tgt ns root) * 10, none⟩)), (25, .slice F (ps.length) (cF)), (26, .int .i64 ↑ps.length), (27, .int .i64 0)]) (obl := []) [o_, o_, o_] [8, 9, 25, 26, 27] (fun _ _ => by kernel_rfl) trivial ?_
  refine TriL.nil (by kernel_rfl) (TriQ.next (Tri.block ?_))
  refine Tri.loop (ι := Nat × Nat) (fun ((k, i) : Nat × Nat) => (k < ns.length) ∧ (i ≤ ps.length) ∧ (findG ns root ps = findM ns k (ps.drop i))) (fun ((k, i) : Nat × Nat) => ps.length - i) (fun ((k, i) : Nat × Nat) => [(8, .map (some mb)), (9, .pointer (some ⟨(blkOf A), offOf A + k * 10, none⟩)), (25, .slice F (ps.length) (cF)), (26, .int .i64 ↑ps.length), (27, .int .i64 ↑i)]) (fun ((k, i) : Nat × Nat) => [.abs (MapA Try.prog 3 mb (mf (bf A ns ns.length)) ns.length), .abs R]) ((tgt ns root), 0) (idx := [8, 9, 25, 26, 27]) (pk := [0, 1]) (show (((tgt ns root)) < ns.length) ∧ (0 ≤ ps.length) ∧ (findG ns root ps = findM ns ((tgt ns root)) (ps.drop 0)) from ⟨htl.1, Nat.zero_le _, findG_ok hbg⟩) (fun _ => by kernel_rfl) rfl (by kernel_rfl) ?_
  rintro ⟨k, i⟩ ⟨hk, hi, hf⟩
  show Tri _ _ _ _ [(8, .map (some mb)), (9, .pointer (some ⟨(blkOf A), offOf A + k * 10, none⟩)), (25, .slice F (ps.length) (cF)), (26, .int .i64 ↑ps.length), (27, .int .i64 ↑i)] [.abs (MapA Try.prog 3 mb (mf (bf A ns ns.length)) ns.length), .abs R] _
  refine Tri.seq (Tri.region ?_)
  refine TriL.segK (k' := 1) (fr' := [(8, .map (some mb)), (9, .pointer (some ⟨(blkOf A), offOf A + k * 10, none⟩)), (25, .slice F (ps.length) (cF)), (26, .int .i64 ↑ps.length), (27, .int .i64 ↑i), (28, .bool (decide ((((i : Nat) : Int) : Int) < (((ps.length : Nat) : Int) : Int))))]) (obl := []) [o_] [8, 9, 25, 26, 27, 28] (fun _ _ => by kernel_rfl) trivial ?_
  refine TriL.nil (by kernel_rfl) (TriQ.next (Tri.seq ?_))
  refine Tri.condP (p := (((i : Nat) : Int) : Int) < (((ps.length : Nat) : Int) : Int)) (fun _ => by kernel_rfl) (fun h28 => ?_) (fun h28 => ?_)
  ·
   refine Tri.skip (TriQ.next (Tri.seq (Tri.block (Tri.seq (Tri.region ?_)))))
   refine TriL.segK (k' := 3) (fr' := [(8, .map (some mb)), (9, .pointer (some ⟨(blkOf A), offOf A + k * 10, none⟩)), (12, .string (sAt ps i)), (25, .slice F (ps.length) (cF)), (26, .int .i64 ↑ps.length), (27, .int .i64 ↑i)]) (obl := [(Rd β ⟨(blkOf F), offOf F + i * 1, none⟩ (.string (sAt ps i))), ((i : Nat) : Int) = ((i : Nat) : Int), i < ps.length, (⟨(blkOf F), offOf F, none⟩ : Addr).spot = none, (F : Option Addr) = some ⟨(blkOf F), offOf F, none⟩]) [⟨[], some i, none, some ⟨(blkOf F), offOf F, none⟩, none⟩, ⟨[.old (.string (sAt ps i))], none, none, none, none⟩, o_] [8, 9, 12, 25, 26, 27] (fun _ _ => by kernel_rfl) ⟨StrsAt.rd hP (by omega), rfl, by omega, rfl, StrsAt.hd hP (j := i) (by omega), trivial⟩ ?_
   refine TriL.nil (by kernel_rfl) (TriQ.next (Tri.seq (Tri.seq (Tri.region ?_))))
   refine TriL.segK (k' := 4) (fr' := [(8, .map (some mb)), (9, .pointer (some ⟨(blkOf A), offOf A + k * 10, none⟩)), (12, .string (sAt ps i)), (25, .slice F (ps.length) (cF)), (26, .int .i64 ↑ps.length), (27, .int .i64 ↑i), (34, .int .i64 ((nd ns k).kind))]) (obl := [(Rd β ⟨(blkOf A), offOf A + k * 10 + 1, none⟩ (.int .i64 ((nd ns k).kind)))]) [o_, o_, o_, ⟨[.old (.int .i64 ((nd ns k).kind))], none, none, none, none⟩] [8, 9, 12, 25, 26, 27, 34] (fun _ _ => by kernel_rfl) ⟨GraphAt.rd hG (i := k) (by omega) (j := 1) rfl, trivial⟩ ?_
   refine TriL.nil (by kernel_rfl) (TriQ.next (Tri.block (Tri.seq (Tri.region ?_))))
   refine TriL.segK (k' := 2) (fr' := [(8, .map (some mb)), (9, .pointer (some ⟨(blkOf A), offOf A + k * 10, none⟩)), (12, .string (sAt ps i)), (25, .slice F (ps.length) (cF)), (26, .int .i64 ↑ps.length), (27, .int .i64 ↑i), (34, .int .i64 ((nd ns k).kind)), (35, .bool (decide (((nd ns k).kind : Int) = (3 : Int))))]) (obl := []) [o_, o_] [8, 9, 12, 25, 26, 27, 34, 35] (fun _ _ => by kernel_rfl) trivial ?_
   refine TriL.nil (by kernel_rfl) (TriQ.next ?_)
   refine Tri.condP (p := ((nd ns k).kind : Int) = (3 : Int)) (fun _ => by kernel_rfl) (fun h35 => ?_) (fun h35 => ?_)
   ·
    refine Tri.seq (Tri.region ?_)
    refine TriL.segK (k' := 2) (fr' := [(6, .int .i64 0), (7, .int .i64 174)]) (obl := []) [o_, o_] [6, 7] (fun _ _ => by kernel_rfl) trivial ?_
    refine TriL.nil (by kernel_rfl) (TriQ.next (Tri.ret (TriQ.blockRet (TriQ.passRet (TriQ.blockRet (TriQ.passRet (TriQ.passRet (TriQ.blockRet (TriQ.passRet ?_)))))))))
    exact TriQ.ret (v := .tuple #[.int .i64 0, .int .i64 174]) (l := []) (obl := []) [] [1] (fun _ => by kernel_rfl) trivial rfl (by kernel_rfl) (⟨by rw [hf, findM_sym (by omega) h35], rfl⟩)
   ·
    refine Tri.seq (Tri.region ?_)
    refine TriL.segK (k' := 2) (fr' := [(8, .map (some mb)), (9, .pointer (some ⟨(blkOf A), offOf A + k * 10, none⟩)), (12, .string (sAt ps i)), (25, .slice F (ps.length) (cF)), (26, .int .i64 ↑ps.length), (27, .int .i64 ↑i), (37, .bool (decide (((nd ns k).kind : Int) = (1 : Int))))]) (obl := []) [o_, o_] [8, 9, 12, 25, 26, 27, 37] (fun _ _ => by kernel_rfl) trivial ?_
    refine TriL.nil (by kernel_rfl) (TriQ.next ?_)
    refine Tri.condP (p := ((nd ns k).kind : Int) = (1 : Int)) (fun _ => by kernel_rfl) (fun h37 => ?_) (fun h37 => ?_)
    ·
     refine Tri.seq (Tri.region ?_)
     refine TriL.segK (k' := 2) (fr' := [(6, .int .i64 0), (7, .int .i64 173)]) (obl := []) [o_, o_] [6, 7] (fun _ _ => by kernel_rfl) trivial ?_
     refine TriL.nil (by kernel_rfl) (TriQ.next (Tri.ret (TriQ.blockRet (TriQ.passRet (TriQ.blockRet (TriQ.passRet (TriQ.passRet (TriQ.blockRet (TriQ.passRet ?_)))))))))
     exact TriQ.ret (v := .tuple #[.int .i64 0, .int .i64 173]) (l := []) (obl := []) [] [1] (fun _ => by kernel_rfl) trivial rfl (by kernel_rfl) (⟨by rw [hf, findM_file (by omega) h37], rfl⟩)
    ·
     refine Tri.skip (TriQ.blockNormal (TriQ.next (Tri.seq (Tri.region ?_))))
     refine TriL.segK (k' := 5) (fr' := [(8, .map (some mb)), (9, .pointer (some ⟨(blkOf A), offOf A + k * 10, none⟩)), (25, .slice F (ps.length) (cF)), (26, .int .i64 ↑ps.length), (27, .int .i64 ↑i), (43, .slice (L.eA k) ((nd ns k).ents.length) ((L.eC k))), (44, .string (sAt ps i))]) (obl := [(Rd β ⟨(blkOf A), offOf A + k * 10 + 9, none⟩ (.slice (L.eA k) ((nd ns k).ents.length) ((L.eC k))))]) [o_, o_, o_, ⟨[.old (.slice (L.eA k) ((nd ns k).ents.length) ((L.eC k)))], none, none, none, none⟩, o_] [8, 9, 25, 26, 27, 43, 44] (fun _ _ => by kernel_rfl) ⟨GraphAt.rd hG (i := k) (by omega) (j := 9) rfl, trivial⟩ ?_
     refine TriL.call (f := 43) (args := #[.slice (L.eA k) ((nd ns k).ents.length) ((L.eC k)), .string (sAt ps i), .func (.func 44) #[] #[]]) (d := (some 45)) (pre := []) (R := [.abs (MapA Try.prog 3 mb (mf (bf A ns ns.length)) ns.length), .abs R]) (pk := [0, 1]) (fun _ => by kernel_rfl) (sp_bsearch (L.eA k) (L.eC k) (nd ns k).ents (sAt ps i) (hG.ents k hk) (hB.hd k hk).2 (sorted_of (hok.ents k hk))) rfl (by kernel_rfl) ?_
     rintro _ _ ⟨(⟨q, hq, hqn, rfl⟩ | ⟨hno, z, rfl⟩), rfl⟩
     ·
      have hat2 := (hok.ents k hk q hq).at_
      have htl2 := atI_lt hat2
      refine TriL.segK (k' := 11) (fr' := [(8, .map (some mb)), (9, .pointer (some ⟨(blkOf A), offOf A + k * 10, none⟩)), (13, .int .i64 ↑q), (14, .bool true), (25, .slice F (ps.length) (cF)), (26, .int .i64 ↑ps.length), (27, .int .i64 ↑i)]) (obl := []) [o_, o_, o_, o_, o_] [8, 9, 13, 14, 25, 26, 27] (fun _ _ => by kernel_rfl) trivial ?_
      refine TriL.nil (by kernel_rfl) (TriQ.next (Tri.seq (Tri.seq (Tri.region ?_))))
      refine TriL.segK (k' := 2) (fr' := [(8, .map (some mb)), (9, .pointer (some ⟨(blkOf A), offOf A + k * 10, none⟩)), (13, .int .i64 ↑q), (25, .slice F (ps.length) (cF)), (26, .int .i64 ↑ps.length), (27, .int .i64 ↑i), (49, .bool false)]) (obl := []) [o_, o_] [8, 9, 13, 25, 26, 27, 49] (fun _ _ => by kernel_rfl) trivial ?_
      refine TriL.nil (by kernel_rfl) (TriQ.next ?_)
      refine Tri.condF (fun _ => by kernel_rfl) ?_
      refine Tri.skip (TriQ.next (Tri.region ?_))
      refine TriL.segK (k' := 9) (fr' := [(8, .map (some mb)), (25, .slice F (ps.length) (cF)), (26, .int .i64 ↑ps.length), (27, .int .i64 ↑i), (50, .map (some mb)), (58, .int .i64 ((en (nd ns k).ents q).id))]) (obl := [(Rd β ⟨(blkOf (L.eA k)), offOf (L.eA k) + q * 2 + 1, none⟩ (.int .i64 ((en (nd ns k).ents q).id))), ((q : Nat) : Int) = ((q : Nat) : Int), q < (nd ns k).ents.length, (⟨(blkOf (L.eA k)), offOf (L.eA k), none⟩ : Addr).spot = none, ((L.eA k) : Option Addr) = some ⟨(blkOf (L.eA k)), offOf (L.eA k), none⟩, (Rd β ⟨(blkOf A), offOf A + k * 10 + 9, none⟩ (.slice (L.eA k) ((nd ns k).ents.length) ((L.eC k))))]) [o_, o_, o_, o_, ⟨[.old (.slice (L.eA k) ((nd ns k).ents.length) ((L.eC k)))], none, none, none, none⟩, o_, ⟨[], some q, none, some ⟨(blkOf (L.eA k)), offOf (L.eA k), none⟩, none⟩, o_, ⟨[.old (.int .i64 ((en (nd ns k).ents q).id))], none, none, none, none⟩] [8, 25, 26, 27, 50, 58] (fun _ _ => by kernel_rfl) ⟨EntsAt.rd (hG.ents k (by omega)) (i := q) (by omega) (j := 1) rfl, rfl, hq, rfl, EntsAt.hd (hG.ents k (by omega)) (i := q) (by omega), GraphAt.rd hG (i := k) (by omega) (j := 9) rfl, trivial⟩ ?_
      refine TriL.mapLook 0 (d := (some 59)) (t := 66) (K := 3) (E := 75) (b := mb) (n := ns.length) (f := (mf (bf A ns ns.length))) (x := (.tmp 50)) (ix := (.tmp 58)) (key := .int .i64 ((en (nd ns k).ents q).id)) (z := .pointer none) (kl := (.int .i64 (en (nd ns k).ents q).id)) (r := (some (.pointer (some ⟨(blkOf A), offOf A + (tgt ns (en (nd ns k).ents q).id) * 10, none⟩)))) (fun _ => by kernel_rfl) (by kernel_rfl) (fun _ => by kernel_rfl) (fun _ => by kernel_rfl) lawI Try.underlying66 (fun _ => by kernel_rfl) (keyI (hB.hwf k hk q hq).1 (hB.hwf k hk q hq).2) (bf_at hat2 htl2.1) ?_
      refine TriL.segK (k' := 11) (fr' := [(8, .map (some mb)), (9, .pointer (some ⟨(blkOf A), offOf A + (tgt ns (en (nd ns k).ents q).id) * 10, none⟩)), (25, .slice F (ps.length) (cF)), (26, .int .i64 ↑ps.length), (27, .int .i64 ↑i)]) (obl := []) [o_] [8, 9, 25, 26, 27] (fun _ _ => by kernel_rfl) trivial ?_
      refine TriL.nil (by kernel_rfl) (TriQ.blockNormal (TriQ.next (Tri.region ?_)))
      refine TriL.segK (k' := 2) (fr' := [(8, .map (some mb)), (9, .pointer (some ⟨(blkOf A), offOf A + (tgt ns (en (nd ns k).ents q).id) * 10, none⟩)), (25, .slice F (ps.length) (cF)), (26, .int .i64 ↑ps.length), (27, .int .i64 ↑(i + 1))]) (obl := [(Value.int .i64 (IntKind.wrap .i64 (((i : Nat) : Int) + 1))) = (.int .i64 ↑(i + 1))]) [⟨[], none, none, none, some (.int .i64 ↑(i + 1))⟩, o_] [8, 9, 25, 26, 27] (fun _ _ => by kernel_rfl) ⟨wrapEq (by omega) (by omega) (by omega), trivial⟩ ?_
      refine TriL.nil (by kernel_rfl) ?_
      exact TriQ.turn ((tgt ns (en (nd ns k).ents q).id), (i + 1)) (idx := [8, 9, 25, 26, 27]) (pk := [0, 1]) (show (((tgt ns (en (nd ns k).ents q).id)) < ns.length) ∧ (((i + 1)) ≤ ps.length) ∧ (findG ns root ps = findM ns ((tgt ns (en (nd ns k).ents q).id)) (ps.drop ((i + 1)))) from ⟨htl2.1, by omega, by rw [hf, findM_some (by omega) h35 h37 (findE_some (sorted_of (hok.ents k hk)) hq hqn)]⟩) (by show ps.length - ((i + 1)) < ps.length - i; omega) (fun _ => by kernel_rfl) rfl (by kernel_rfl)
     ·
      refine TriL.segK (k' := 11) (fr' := [(8, .map (some mb)), (9, .pointer (some ⟨(blkOf A), offOf A + k * 10, none⟩)), (13, .int .i64 (z)), (14, .bool false), (25, .slice F (ps.length) (cF)), (26, .int .i64 ↑ps.length), (27, .int .i64 ↑i)]) (obl := []) [o_, o_, o_, o_, o_] [8, 9, 13, 14, 25, 26, 27] (fun _ _ => by kernel_rfl) trivial ?_
      refine TriL.nil (by kernel_rfl) (TriQ.next (Tri.seq (Tri.seq (Tri.region ?_))))
      refine TriL.segK (k' := 2) (fr' := [(8, .map (some mb)), (9, .pointer (some ⟨(blkOf A), offOf A + k * 10, none⟩)), (13, .int .i64 (z)), (25, .slice F (ps.length) (cF)), (26, .int .i64 ↑ps.length), (27, .int .i64 ↑i), (49, .bool true)]) (obl := []) [o_, o_] [8, 9, 13, 25, 26, 27, 49] (fun _ _ => by kernel_rfl) trivial ?_
      refine TriL.nil (by kernel_rfl) (TriQ.next ?_)
      refine Tri.condT (fun _ => by kernel_rfl) ?_
      refine Tri.seq (Tri.region ?_)
      refine TriL.segK (k' := 2) (fr' := [(6, .int .i64 0), (7, .int .i64 170)]) (obl := []) [o_, o_] [6, 7] (fun _ _ => by kernel_rfl) trivial ?_
      refine TriL.nil (by kernel_rfl) (TriQ.next (Tri.ret (TriQ.passRet (TriQ.blockRet (TriQ.passRet (TriQ.passRet (TriQ.blockRet (TriQ.passRet ?_))))))))
      exact TriQ.ret (v := .tuple #[.int .i64 0, .int .i64 170]) (l := []) (obl := []) [] [1] (fun _ => by kernel_rfl) trivial rfl (by kernel_rfl) (⟨by rw [hf, findM_none (by omega) h35 h37 (findE_none hno)], rfl⟩)
  ·
   refine Tri.exit (TriQ.passExit (TriQ.passExit (TriQ.blockHit (TriQ.next (Tri.seq (Tri.region ?_))))))
   refine TriL.segK (k' := 6) (fr' := [(6, .int .i64 ((nd ns k).id)), (7, .int .i64 0)]) (obl := [(Rd β ⟨(blkOf A), offOf A + k * 10, none⟩ (.int .i64 ((nd ns k).id)))]) [o_, o_, o_, ⟨[.old (.int .i64 ((nd ns k).id))], none, none, none, none⟩, o_, o_] [6, 7] (fun _ _ => by kernel_rfl) ⟨GraphAt.rd hG (i := k) (by omega) (j := 0) rfl, trivial⟩ ?_
   refine TriL.nil (by kernel_rfl) (TriQ.next (Tri.ret ?_))
   exact TriQ.ret (v := .tuple #[.int .i64 ((nd ns k).id), .int .i64 0]) (l := []) (obl := []) [] [1] (fun _ => by kernel_rfl) trivial rfl (by kernel_rfl) (⟨by rw [hf, findM_end (by omega)], rfl⟩)
 ·
  refine TriL.segK (k' := 10) (fr' := [(2, .slice F (ps.length) (cF)), (8, x), (9, y), (10, .int .i64 ((beginC ns root)))]) (obl := []) [o_, o_, o_, o_, o_, o_, o_] [2, 8, 9, 10] (fun _ _ => by kernel_rfl) trivial ?_
  refine TriL.nil (by kernel_rfl) (TriQ.next (Tri.seq (Tri.seq (Tri.region ?_))))
  refine TriL.segK (k' := 2) (fr' := [(2, .slice F (ps.length) (cF)), (8, x), (9, y), (10, .int .i64 ((beginC ns root))), (23, .bool (!(decide (((beginC ns root) : Int) = (0 : Int)))))]) (obl := []) [o_, o_] [2, 8, 9, 10, 23] (fun _ _ => by kernel_rfl) trivial ?_
  refine TriL.nil (by kernel_rfl) (TriQ.next ?_)
  refine Tri.condN (p := ((beginC ns root) : Int) = (0 : Int)) (fun _ => by kernel_rfl) (fun h23 => ?_) (fun h23 => ?_)
  ·
   refine Tri.seq (Tri.region ?_)
   refine TriL.segK (k' := 3) (fr' := [(6, .int .i64 0), (7, .int .i64 ((beginC ns root)))]) (obl := []) [o_, o_, o_] [6, 7] (fun _ _ => by kernel_rfl) trivial ?_
   refine TriL.nil (by kernel_rfl) (TriQ.next (Tri.ret (TriQ.passRet ?_)))
   exact TriQ.ret (v := .tuple #[.int .i64 0, .int .i64 ((beginC ns root))]) (l := []) (obl := []) [] [0] (fun _ => by kernel_rfl) trivial rfl (by kernel_rfl) (⟨by rw [findG_bad hbg], rfl⟩)
  ·
   exact absurd h23 hbg
end Go.Proofs.Ytjpdcppdoonmdaa
end
/- part GFindR. PROVED HERE: the reference finds; lists of texts are copied and compared CONDITIONS: as the theorems say. Printed by a program of this repo (wip/v). -/
section
namespace Go.Proofs.Ytjpdcppdoonmdaa
open Go.RowKit
attribute [local irreducible] TriL TriLQ Tri TriQ
set_option maxRecDepth 100000 in
set_option maxHeartbeats 4000000 in
theorem sp_refFind {β : Bs} (A : Option Addr) (c : Nat) (ns : List NodeM) (L : Lay) (hG : GraphAt β A ns L) (hB : GraphB ns 1048576) (root : Int) (F : Option Addr) (cF : Nat) (ps : List ByteArray) (hP : StrsAt β F ps) (hPl : ps.length ≤ 8388608) :
    Spec Try.prog β 24 #[.agg #[.slice A ns.length c], .int .i64 root, .slice F ps.length cF] [] (fun v l => v = .tuple #[.int .i64 (findG ns root ps).1, .int .i64 (findG ns root ps).2] ∧ l = []) := by
 refine Spec.enter Try.func24 rfl Try.ntmps24 (Nat.le_of_ble_eq_true rfl) (fun R => ?_)
 refine Tri.seq (Tri.region ?_)
 refine TriL.segN (k' := 3) (fr' := fun b1 => [(1, .int .i64 (root)), (2, .slice F (ps.length) (cF)), (3, .pointer (some ⟨b1, 0, none⟩))]) (hps' := fun b1 => [.abs R, .blk b1 [.slice A (ns.length) (c)] 24]) (obl := fun b1 => []) [o_, o_, o_] [1, 2, 3] [0, 1] (fun _ _ => by kernel_rfl) (fun b1 => trivial) (fun b1 => ?_)
 refine TriL.nil (by kernel_rfl) (TriQ.next (Tri.seq (Tri.region ?_)))
 refine TriL.segK (k' := 2) (fr' := [(2, .slice F (ps.length) (cF)), (3, .pointer (some ⟨b1, 0, none⟩)), (15, .agg #[.slice A (ns.length) (c)]), (16, .int .i64 (root))]) (obl := [b1 = b1]) [⟨[.at 1], none, none, none, none⟩, o_] [2, 3, 15, 16] (fun _ _ => by kernel_rfl) ⟨rfl, trivial⟩ ?_
 by_cases hbg : beginC ns root = 0
 ·
  obtain ⟨hok, hat, hkd⟩ := beginC_zero hbg
  have htl := atI_lt hat
  refine TriL.call (f := 46) (args := #[.agg #[.slice A (ns.length) (c)], .int .i64 (root)]) (d := (some 17)) (pre := []) (R := [.abs R, .blk b1 [.slice A (ns.length) (c)] 24]) (pk := [0, 1]) (fun _ => by kernel_rfl) ((sp_refBegin A c ns L hG hB root).val (refB_ok hbg)) rfl (by kernel_rfl) ?_
  rintro _ _ ⟨rfl, rfl⟩
  refine TriL.segK (k' := 8) (fr' := [(2, .slice F (ps.length) (cF)), (3, .pointer (some ⟨b1, 0, none⟩)), (8, .int .i64 ↑(tgt ns root)), (9, .int .i64 0)]) (obl := []) [o_, o_, o_, o_, o_] [2, 3, 8, 9] (fun _ _ => by kernel_rfl) trivial ?_
  refine TriL.nil (by kernel_rfl) (TriQ.next (Tri.seq (Tri.seq (Tri.region ?_))))
  refine TriL.segK (k' := 2) (fr' := [(2, .slice F (ps.length) (cF)), (3, .pointer (some ⟨b1, 0, none⟩)), (8, .int .i64 ↑(tgt ns root)), (9, .int .i64 0), (21, .bool false)]) (obl := []) [o_, o_] [2, 3, 8, 9, 21] (fun _ _ => by kernel_rfl) trivial ?_
  refine TriL.nil (by kernel_rfl) (TriQ.next ?_)
  refine Tri.condF (fun _ => by kernel_rfl) ?_
  refine Tri.skip (TriQ.next (Tri.seq (Tri.seq (Tri.region ?_))))
  refine TriL.segK (k' := 1) (fr' := [(2, .slice F (ps.length) (cF)), (3, .pointer (some ⟨b1, 0, none⟩)), (8, .int .i64 ↑(tgt ns root)), (10, .int .i64 0)]) (obl := []) [o_] [2, 3, 8, 10] (fun _ _ => by kernel_rfl) trivial ?_
  refine TriL.nil (by kernel_rfl) (TriQ.next (Tri.block ?_))
  refine Tri.loop (ι := Nat × Nat) (fun ((k, i) : Nat × Nat) => (k < ns.length) ∧ (i ≤ ps.length) ∧ (findG ns root ps = findM ns k (ps.drop i))) (fun ((k, i) : Nat × Nat) => ps.length - i) (fun ((k, i) : Nat × Nat) => [(2, .slice F (ps.length) (cF)), (3, .pointer (some ⟨b1, 0, none⟩)), (8, .int .i64 ↑k), (10, .int .i64 ↑i)]) (fun ((k, i) : Nat × Nat) => [.blk b1 [.slice A (ns.length) (c)] 24, .abs R]) ((tgt ns root), 0) (idx := [2, 3, 8, 10]) (pk := [1, 0]) (show (((tgt ns root)) < ns.length) ∧ (0 ≤ ps.length) ∧ (findG ns root ps = findM ns ((tgt ns root)) (ps.drop 0)) from ⟨htl.1, Nat.zero_le _, findG_ok hbg⟩) (fun _ => by kernel_rfl) rfl (by kernel_rfl) ?_
  rintro ⟨k, i⟩ ⟨hk, hi, hf⟩
  show Tri _ _ _ _ [(2, .slice F (ps.length) (cF)), (3, .pointer (some ⟨b1, 0, none⟩)), (8, .int .i64 ↑k), (10, .int .i64 ↑i)] [.blk b1 [.slice A (ns.length) (c)] 24, .abs R] _
  have hd3 := hB.hd k hk
  refine Tri.seq (Tri.seq (Tri.region ?_))
  refine TriL.segK (k' := 4) (fr' := [(2, .slice F (ps.length) (cF)), (3, .pointer (some ⟨b1, 0, none⟩)), (8, .int .i64 ↑k), (10, .int .i64 ↑i), (26, .bool (decide ((((i : Nat) : Int) : Int) < (((ps.length : Nat) : Int) : Int))))]) (obl := []) [o_, o_, o_, o_] [2, 3, 8, 10, 26] (fun _ _ => by kernel_rfl) trivial ?_
  refine TriL.nil (by kernel_rfl) (TriQ.next ?_)
  refine Tri.condP (p := (((i : Nat) : Int) : Int) < (((ps.length : Nat) : Int) : Int)) (fun _ => by kernel_rfl) (fun h26 => ?_) (fun h26 => ?_)
  ·
   refine Tri.skip (TriQ.next (Tri.seq (Tri.block (Tri.seq (Tri.region ?_)))))
   refine TriL.segN (k' := 7) (fr' := fun b2 => [(2, .slice F (ps.length) (cF)), (3, .pointer (some ⟨b1, 0, none⟩)), (10, .int .i64 ↑i), (11, .pointer (some ⟨b2, 0, none⟩))]) (hps' := fun b2 => [.blk b1 [.slice A (ns.length) (c)] 24, .abs R, .blk b2 [.int .i64 ((nd ns k).id), .int .i64 ((nd ns k).kind), .int .i64 ((nd ns k).mode), .int .i64 ((nd ns k).uid), .int .i64 ((nd ns k).gid), .int .i64 ((nd ns k).sec), .int .i64 ((nd ns k).nano), .slice (L.dA k) ((nd ns k).data.length) ((L.dC k)), .string (nd ns k).target, .slice (L.eA k) ((nd ns k).ents.length) ((L.eC k))] 32]) (obl := fun b2 => [b2 = b2, b2 = b2, b2 = b2, b2 = b2, b2 = b2, b2 = b2, b2 = b2, b2 = b2, b2 = b2, b2 = b2, (Rd β ⟨(blkOf A), offOf A + k * 10 + 9, none⟩ (.slice (L.eA k) ((nd ns k).ents.length) ((L.eC k)))), (Rd β ⟨(blkOf A), offOf A + k * 10 + 8, none⟩ (.string (nd ns k).target)), (Rd β ⟨(blkOf A), offOf A + k * 10 + 7, none⟩ (.slice (L.dA k) ((nd ns k).data.length) ((L.dC k)))), (Rd β ⟨(blkOf A), offOf A + k * 10 + 6, none⟩ (.int .i64 ((nd ns k).nano))), (Rd β ⟨(blkOf A), offOf A + k * 10 + 5, none⟩ (.int .i64 ((nd ns k).sec))), (Rd β ⟨(blkOf A), offOf A + k * 10 + 4, none⟩ (.int .i64 ((nd ns k).gid))), (Rd β ⟨(blkOf A), offOf A + k * 10 + 3, none⟩ (.int .i64 ((nd ns k).uid))), (Rd β ⟨(blkOf A), offOf A + k * 10 + 2, none⟩ (.int .i64 ((nd ns k).mode))), (Rd β ⟨(blkOf A), offOf A + k * 10 + 1, none⟩ (.int .i64 ((nd ns k).kind))), (Rd β ⟨(blkOf A), offOf A + k * 10, none⟩ (.int .i64 ((nd ns k).id))), ((k : Nat) : Int) = ((k : Nat) : Int), k < ns.length, (⟨(blkOf A), offOf A, none⟩ : Addr).spot = none, (A : Option Addr) = some ⟨(blkOf A), offOf A, none⟩, b1 = b1]) [o_, ⟨[.at 0], none, none, none, none⟩, o_, ⟨[], some k, none, some ⟨(blkOf A), offOf A, none⟩, none⟩, ⟨[.old (.int .i64 ((nd ns k).id)), .old (.int .i64 ((nd ns k).kind)), .old (.int .i64 ((nd ns k).mode)), .old (.int .i64 ((nd ns k).uid)), .old (.int .i64 ((nd ns k).gid)), .old (.int .i64 ((nd ns k).sec)), .old (.int .i64 ((nd ns k).nano)), .old (.slice (L.dA k) ((nd ns k).data.length) ((L.dC k))), .old (.string (nd ns k).target), .old (.slice (L.eA k) ((nd ns k).ents.length) ((L.eC k)))], none, none, none, none⟩, o_, ⟨[.at 2, .at 2, .at 2, .at 2, .at 2, .at 2, .at 2, .at 2, .at 2, .at 2], none, none, none, none⟩] [2, 3, 10, 11] [0, 1, 2] (fun _ _ => by kernel_rfl) (fun b2 => ⟨rfl, rfl, rfl, rfl, rfl, rfl, rfl, rfl, rfl, rfl, GraphAt.rd hG (i := k) (by omega) (j := 9) rfl, GraphAt.rd hG (i := k) (by omega) (j := 8) rfl, GraphAt.rd hG (i := k) (by omega) (j := 7) rfl, GraphAt.rd hG (i := k) (by omega) (j := 6) rfl, GraphAt.rd hG (i := k) (by omega) (j := 5) rfl, GraphAt.rd hG (i := k) (by omega) (j := 4) rfl, GraphAt.rd hG (i := k) (by omega) (j := 3) rfl, GraphAt.rd hG (i := k) (by omega) (j := 2) rfl, GraphAt.rd hG (i := k) (by omega) (j := 1) rfl, GraphAt.rd hG (i := k) (by omega) (j := 0) rfl, rfl, hk, rfl, GraphAt.hd hG (i := k) (by omega), rfl, trivial⟩) (fun b2 => ?_)
   refine TriL.nil (by kernel_rfl) (TriQ.next (Tri.seq (Tri.seq (Tri.region ?_))))
   refine TriL.segK (k' := 3) (fr' := [(2, .slice F (ps.length) (cF)), (3, .pointer (some ⟨b1, 0, none⟩)), (10, .int .i64 ↑i), (11, .pointer (some ⟨b2, 0, none⟩)), (36, .bool (decide (((nd ns k).kind : Int) = (3 : Int))))]) (obl := [b2 = b2]) [o_, ⟨[.at 2], none, none, none, none⟩, o_] [2, 3, 10, 11, 36] (fun _ _ => by kernel_rfl) ⟨rfl, trivial⟩ ?_
   refine TriL.nil (by kernel_rfl) (TriQ.next ?_)
   refine Tri.condP (p := ((nd ns k).kind : Int) = (3 : Int)) (fun _ => by kernel_rfl) (fun h36 => ?_) (fun h36 => ?_)
   ·
    refine Tri.seq (Tri.region ?_)
    refine TriL.segK (k' := 2) (fr' := [(6, .int .i64 0), (7, .int .i64 174)]) (obl := []) [o_, o_] [6, 7] (fun _ _ => by kernel_rfl) trivial ?_
    refine TriL.nil (by kernel_rfl) (TriQ.next (Tri.ret (TriQ.passRet (TriQ.blockRet (TriQ.passRet (TriQ.passRet (TriQ.blockRet (TriQ.passRet ?_))))))))
    exact TriQ.ret (v := .tuple #[.int .i64 0, .int .i64 174]) (l := []) (obl := []) [] [1] (fun _ => by kernel_rfl) trivial rfl (by kernel_rfl) (⟨by rw [hf, findM_sym (by omega) h36], rfl⟩)
   ·
    refine Tri.skip (TriQ.next (Tri.seq (Tri.seq (Tri.region ?_))))
    refine TriL.segK (k' := 3) (fr' := [(2, .slice F (ps.length) (cF)), (3, .pointer (some ⟨b1, 0, none⟩)), (10, .int .i64 ↑i), (11, .pointer (some ⟨b2, 0, none⟩)), (39, .bool (decide (((nd ns k).kind : Int) = (1 : Int))))]) (obl := [b2 = b2]) [o_, ⟨[.at 2], none, none, none, none⟩, o_] [2, 3, 10, 11, 39] (fun _ _ => by kernel_rfl) ⟨rfl, trivial⟩ ?_
    refine TriL.nil (by kernel_rfl) (TriQ.next ?_)
    refine Tri.condP (p := ((nd ns k).kind : Int) = (1 : Int)) (fun _ => by kernel_rfl) (fun h39 => ?_) (fun h39 => ?_)
    ·
     refine Tri.seq (Tri.region ?_)
     refine TriL.segK (k' := 2) (fr' := [(6, .int .i64 0), (7, .int .i64 173)]) (obl := []) [o_, o_] [6, 7] (fun _ _ => by kernel_rfl) trivial ?_
     refine TriL.nil (by kernel_rfl) (TriQ.next (Tri.ret (TriQ.passRet (TriQ.blockRet (TriQ.passRet (TriQ.passRet (TriQ.blockRet (TriQ.passRet ?_))))))))
     exact TriQ.ret (v := .tuple #[.int .i64 0, .int .i64 173]) (l := []) (obl := []) [] [1] (fun _ => by kernel_rfl) trivial rfl (by kernel_rfl) (⟨by rw [hf, findM_file (by omega) h39], rfl⟩)
    ·
     refine Tri.skip (TriQ.next (Tri.seq (Tri.region ?_)))
     refine TriL.segK (k' := 1) (fr' := [(2, .slice F (ps.length) (cF)), (3, .pointer (some ⟨b1, 0, none⟩)), (10, .int .i64 ↑i), (11, .pointer (some ⟨b2, 0, none⟩)), (12, .int .i64 (-1))]) (obl := []) [o_] [2, 3, 10, 11, 12] (fun _ _ => by kernel_rfl) trivial ?_
     refine TriL.nil (by kernel_rfl) (TriQ.next (Tri.seq (Tri.seq (Tri.region ?_))))
     refine TriL.segK (k' := 1) (fr' := [(2, .slice F (ps.length) (cF)), (3, .pointer (some ⟨b1, 0, none⟩)), (10, .int .i64 ↑i), (11, .pointer (some ⟨b2, 0, none⟩)), (12, .int .i64 (-1)), (13, .int .i64 0)]) (obl := []) [o_] [2, 3, 10, 11, 12, 13] (fun _ _ => by kernel_rfl) trivial ?_
     refine TriL.nil (by kernel_rfl) (TriQ.next (Tri.block ?_))
     refine Tri.loop (ι := Int × Nat) (fun ((nx, j) : Int × Nat) => (j ≤ (nd ns k).ents.length) ∧ ((nx = -1 ∧ ∀ t, t < j → ¬ (en (nd ns k).ents t).name = sAt ps i) ∨ ∃ q, q < j ∧ (en (nd ns k).ents q).name = sAt ps i ∧ nx = ((tgt ns (en (nd ns k).ents q).id : Nat) : Int))) (fun ((nx, j) : Int × Nat) => (nd ns k).ents.length - j) (fun ((nx, j) : Int × Nat) => [(2, .slice F (ps.length) (cF)), (3, .pointer (some ⟨b1, 0, none⟩)), (10, .int .i64 ↑i), (11, .pointer (some ⟨b2, 0, none⟩)), (12, .int .i64 (nx)), (13, .int .i64 ↑j)]) (fun ((nx, j) : Int × Nat) => [.blk b1 [.slice A (ns.length) (c)] 24, .blk b2 [.int .i64 ((nd ns k).id), .int .i64 ((nd ns k).kind), .int .i64 ((nd ns k).mode), .int .i64 ((nd ns k).uid), .int .i64 ((nd ns k).gid), .int .i64 ((nd ns k).sec), .int .i64 ((nd ns k).nano), .slice (L.dA k) ((nd ns k).data.length) ((L.dC k)), .string (nd ns k).target, .slice (L.eA k) ((nd ns k).ents.length) ((L.eC k))] 32, .abs R]) ((-1), 0) (idx := [2, 3, 10, 11, 12, 13]) (pk := [0, 2, 1]) (show (0 ≤ (nd ns k).ents.length) ∧ ((((-1)) = -1 ∧ ∀ t, t < 0 → ¬ (en (nd ns k).ents t).name = sAt ps i) ∨ ∃ q, q < 0 ∧ (en (nd ns k).ents q).name = sAt ps i ∧ ((-1)) = ((tgt ns (en (nd ns k).ents q).id : Nat) : Int)) from ⟨Nat.zero_le _, .inl ⟨rfl, fun t h => absurd h (Nat.not_lt_zero t)⟩⟩) (fun _ => by kernel_rfl) rfl (by kernel_rfl) ?_
     rintro ⟨nx, j⟩ ⟨hj, hnx⟩
     show Tri _ _ _ _ [(2, .slice F (ps.length) (cF)), (3, .pointer (some ⟨b1, 0, none⟩)), (10, .int .i64 ↑i), (11, .pointer (some ⟨b2, 0, none⟩)), (12, .int .i64 (nx)), (13, .int .i64 ↑j)] [.blk b1 [.slice A (ns.length) (c)] 24, .blk b2 [.int .i64 ((nd ns k).id), .int .i64 ((nd ns k).kind), .int .i64 ((nd ns k).mode), .int .i64 ((nd ns k).uid), .int .i64 ((nd ns k).gid), .int .i64 ((nd ns k).sec), .int .i64 ((nd ns k).nano), .slice (L.dA k) ((nd ns k).data.length) ((L.dC k)), .string (nd ns k).target, .slice (L.eA k) ((nd ns k).ents.length) ((L.eC k))] 32, .abs R] _
     refine Tri.seq (Tri.seq (Tri.region ?_))
     refine TriL.segK (k' := 5) (fr' := [(2, .slice F (ps.length) (cF)), (3, .pointer (some ⟨b1, 0, none⟩)), (10, .int .i64 ↑i), (11, .pointer (some ⟨b2, 0, none⟩)), (12, .int .i64 (nx)), (13, .int .i64 ↑j), (44, .bool (decide ((((j : Nat) : Int) : Int) < ((((nd ns k).ents.length : Nat) : Int) : Int))))]) (obl := [b2 = b2]) [o_, o_, ⟨[.at 1], none, none, none, none⟩, o_, o_] [2, 3, 10, 11, 12, 13, 44] (fun _ _ => by kernel_rfl) ⟨rfl, trivial⟩ ?_
     refine TriL.nil (by kernel_rfl) (TriQ.next ?_)
     refine Tri.condP (p := (((j : Nat) : Int) : Int) < ((((nd ns k).ents.length : Nat) : Int) : Int)) (fun _ => by kernel_rfl) (fun h44 => ?_) (fun h44 => ?_)
     ·
      refine Tri.skip (TriQ.next (Tri.seq (Tri.block (Tri.seq ?_))))
      refine Tri.regionQ (by kernel_rfl) (by kernel_rfl) ?_
      refine TriLQ.seg (k' := 11) (fr' := [(2, .slice F (ps.length) (cF)), (3, .pointer (some ⟨b1, 0, none⟩)), (10, .int .i64 ↑i), (11, .pointer (some ⟨b2, 0, none⟩)), (12, .int .i64 (nx)), (13, .int .i64 ↑j), (57, .bool (decide (((en (nd ns k).ents j).name : ByteArray) = (sAt ps i))))]) (obl := [(Value.bool (((en (nd ns k).ents j).name : ByteArray).toList == ((sAt ps i) : ByteArray).toList)) = (.bool (decide (((en (nd ns k).ents j).name : ByteArray) = (sAt ps i)))), (Rd β ⟨(blkOf F), offOf F + i * 1, none⟩ (.string (sAt ps i))), ((i : Nat) : Int) = ((i : Nat) : Int), i < ps.length, (⟨(blkOf F), offOf F, none⟩ : Addr).spot = none, (F : Option Addr) = some ⟨(blkOf F), offOf F, none⟩, (Rd β ⟨(blkOf (L.eA k)), offOf (L.eA k) + j * 2, none⟩ (.string (en (nd ns k).ents j).name)), ((j : Nat) : Int) = ((j : Nat) : Int), j < (nd ns k).ents.length, (⟨(blkOf (L.eA k)), offOf (L.eA k), none⟩ : Addr).spot = none, ((L.eA k) : Option Addr) = some ⟨(blkOf (L.eA k)), offOf (L.eA k), none⟩, b2 = b2]) [o_, ⟨[.at 1], none, none, none, none⟩, o_, ⟨[], some j, none, some ⟨(blkOf (L.eA k)), offOf (L.eA k), none⟩, none⟩, o_, ⟨[.old (.string (en (nd ns k).ents j).name)], none, none, none, none⟩, o_, o_, ⟨[], some i, none, some ⟨(blkOf F), offOf F, none⟩, none⟩, ⟨[.old (.string (sAt ps i))], none, none, none, none⟩, ⟨[], none, none, none, some (.bool (decide (((en (nd ns k).ents j).name : ByteArray) = (sAt ps i))))⟩] [2, 3, 10, 11, 12, 13, 57] (fun _ _ => by kernel_rfl) ⟨strEqV _ _, StrsAt.rd hP (by omega), rfl, by omega, rfl, StrsAt.hd hP (j := i) (by omega), EntsAt.rd (hG.ents k (by omega)) (i := j) (by omega) (j := 0) rfl, rfl, by omega, rfl, EntsAt.hd (hG.ents k (by omega)) (i := j) (by omega), rfl, trivial⟩ ?_
      refine TriLQ.nil (by kernel_rfl) (TriQ.next ?_)
      refine Tri.condP (p := ((en (nd ns k).ents j).name : ByteArray) = (sAt ps i)) (fun _ => by kernel_rfl) (fun h57 => ?_) (fun h57 => ?_)
      ·
       refine Tri.regionQ (by kernel_rfl) (by kernel_rfl) ?_
       refine TriLQ.seg (k' := 7) (fr' := [(2, .slice F (ps.length) (cF)), (3, .pointer (some ⟨b1, 0, none⟩)), (10, .int .i64 ↑i), (11, .pointer (some ⟨b2, 0, none⟩)), (13, .int .i64 ↑j), (58, .agg #[.slice A (ns.length) (c)]), (64, .int .i64 ((en (nd ns k).ents j).id))]) (obl := [(Rd β ⟨(blkOf (L.eA k)), offOf (L.eA k) + j * 2 + 1, none⟩ (.int .i64 ((en (nd ns k).ents j).id))), ((j : Nat) : Int) = ((j : Nat) : Int), j < (nd ns k).ents.length, (⟨(blkOf (L.eA k)), offOf (L.eA k), none⟩ : Addr).spot = none, ((L.eA k) : Option Addr) = some ⟨(blkOf (L.eA k)), offOf (L.eA k), none⟩, b2 = b2, b1 = b1]) [⟨[.at 0], none, none, none, none⟩, o_, ⟨[.at 1], none, none, none, none⟩, o_, ⟨[], some j, none, some ⟨(blkOf (L.eA k)), offOf (L.eA k), none⟩, none⟩, o_, ⟨[.old (.int .i64 ((en (nd ns k).ents j).id))], none, none, none, none⟩] [2, 3, 10, 11, 13, 58, 64] (fun _ _ => by kernel_rfl) ⟨EntsAt.rd (hG.ents k (by omega)) (i := j) (by omega) (j := 1) rfl, rfl, by omega, rfl, EntsAt.hd (hG.ents k (by omega)) (i := j) (by omega), rfl, rfl, trivial⟩ ?_
       refine TriLQ.call (f := 29) (args := #[.agg #[.slice A (ns.length) (c)], .int .i64 ((en (nd ns k).ents j).id)]) (d := (some 65)) (pre := []) (R := [.blk b1 [.slice A (ns.length) (c)] 24, .blk b2 [.int .i64 ((nd ns k).id), .int .i64 ((nd ns k).kind), .int .i64 ((nd ns k).mode), .int .i64 ((nd ns k).uid), .int .i64 ((nd ns k).gid), .int .i64 ((nd ns k).sec), .int .i64 ((nd ns k).nano), .slice (L.dA k) ((nd ns k).data.length) ((L.dC k)), .string (nd ns k).target, .slice (L.eA k) ((nd ns k).ents.length) ((L.eC k))] 32, .abs R]) (pk := [0, 1, 2]) (pk' := [0, 1, 2]) (v0 := .int .i64 ((atI ns (en (nd ns k).ents j).id))) (fun _ => by kernel_rfl) (sp_at A c ns L hG hok.rise hB.hl (en (nd ns k).ents j).id) rfl (by kernel_rfl) rfl (by kernel_rfl) (fun _ _ h => h) ?_
       refine TriLQ.seg (k' := 9) (fr' := [(2, .slice F (ps.length) (cF)), (3, .pointer (some ⟨b1, 0, none⟩)), (10, .int .i64 ↑i), (11, .pointer (some ⟨b2, 0, none⟩)), (12, .int .i64 ((atI ns (en (nd ns k).ents j).id))), (13, .int .i64 ↑j)]) (obl := []) [o_] [2, 3, 10, 11, 12, 13] (fun _ _ => by kernel_rfl) trivial ?_
       refine TriLQ.nil (by kernel_rfl) (TriQ.blockNormal (TriQ.next (Tri.region ?_)))
       refine TriL.segK (k' := 3) (fr' := [(2, .slice F (ps.length) (cF)), (3, .pointer (some ⟨b1, 0, none⟩)), (10, .int .i64 ↑i), (11, .pointer (some ⟨b2, 0, none⟩)), (12, .int .i64 ((atI ns (en (nd ns k).ents j).id))), (13, .int .i64 ↑(j + 1))]) (obl := [(Value.int .i64 (IntKind.wrap .i64 (((j : Nat) : Int) + 1))) = (.int .i64 ↑(j + 1))]) [o_, ⟨[], none, none, none, some (.int .i64 ↑(j + 1))⟩, o_] [2, 3, 10, 11, 12, 13] (fun _ _ => by kernel_rfl) ⟨wrapEq (by omega) (by omega) (by omega), trivial⟩ ?_
       refine TriL.nil (by kernel_rfl) ?_
       exact TriQ.turn ((atI ns (en (nd ns k).ents j).id), (j + 1)) (idx := [2, 3, 10, 11, 12, 13]) (pk := [0, 1, 2]) (show (((j + 1)) ≤ (nd ns k).ents.length) ∧ ((((atI ns (en (nd ns k).ents j).id)) = -1 ∧ ∀ t, t < ((j + 1)) → ¬ (en (nd ns k).ents t).name = sAt ps i) ∨ ∃ q, q < ((j + 1)) ∧ (en (nd ns k).ents q).name = sAt ps i ∧ ((atI ns (en (nd ns k).ents j).id)) = ((tgt ns (en (nd ns k).ents q).id : Nat) : Int)) from ⟨by omega, .inr ⟨j, by omega, h57, (atI_lt (hok.ents k hk j (by omega)).at_).2.2⟩⟩) (by show (nd ns k).ents.length - ((j + 1)) < (nd ns k).ents.length - j; omega) (fun _ => by kernel_rfl) rfl (by kernel_rfl)
      ·
       refine Tri.skip (TriQ.blockNormal (TriQ.next (Tri.region ?_)))
       refine TriL.segK (k' := 3) (fr' := [(2, .slice F (ps.length) (cF)), (3, .pointer (some ⟨b1, 0, none⟩)), (10, .int .i64 ↑i), (11, .pointer (some ⟨b2, 0, none⟩)), (12, .int .i64 (nx)), (13, .int .i64 ↑(j + 1))]) (obl := [(Value.int .i64 (IntKind.wrap .i64 (((j : Nat) : Int) + 1))) = (.int .i64 ↑(j + 1))]) [o_, ⟨[], none, none, none, some (.int .i64 ↑(j + 1))⟩, o_] [2, 3, 10, 11, 12, 13] (fun _ _ => by kernel_rfl) ⟨wrapEq (by omega) (by omega) (by omega), trivial⟩ ?_
       refine TriL.nil (by kernel_rfl) ?_
       exact TriQ.turn (nx, (j + 1)) (idx := [2, 3, 10, 11, 12, 13]) (pk := [0, 1, 2]) (show (((j + 1)) ≤ (nd ns k).ents.length) ∧ ((nx = -1 ∧ ∀ t, t < ((j + 1)) → ¬ (en (nd ns k).ents t).name = sAt ps i) ∨ ∃ q, q < ((j + 1)) ∧ (en (nd ns k).ents q).name = sAt ps i ∧ nx = ((tgt ns (en (nd ns k).ents q).id : Nat) : Int)) from ⟨by omega, hnx.elim (fun ⟨e, h⟩ => .inl ⟨e, fun t ht => (by rcases Nat.lt_succ_iff_lt_or_eq.1 ht with h1 | h1; exact h t h1; rw [h1]; exact h57)⟩) (fun ⟨q, h1, h2, h3⟩ => .inr ⟨q, by omega, h2, h3⟩)⟩) (by show (nd ns k).ents.length - ((j + 1)) < (nd ns k).ents.length - j; omega) (fun _ => by kernel_rfl) rfl (by kernel_rfl)
     ·
      refine Tri.exit (TriQ.passExit (TriQ.passExit (TriQ.blockHit (TriQ.next (Tri.seq (Tri.seq (Tri.region ?_)))))))
      refine TriL.segK (k' := 2) (fr' := [(2, .slice F (ps.length) (cF)), (3, .pointer (some ⟨b1, 0, none⟩)), (10, .int .i64 ↑i), (12, .int .i64 (nx)), (67, .bool (decide ((nx : Int) < (0 : Int))))]) (obl := []) [o_, o_] [2, 3, 10, 12, 67] (fun _ _ => by kernel_rfl) trivial ?_
      refine TriL.nil (by kernel_rfl) (TriQ.next ?_)
      refine Tri.condP (p := (nx : Int) < (0 : Int)) (fun _ => by kernel_rfl) (fun h67 => ?_) (fun h67 => ?_)
      ·
       have hno := (hnx.resolve_right (fun ⟨q, _, _, h⟩ => by omega)).2
       refine Tri.seq (Tri.region ?_)
       refine TriL.segK (k' := 2) (fr' := [(6, .int .i64 0), (7, .int .i64 170)]) (obl := []) [o_, o_] [6, 7] (fun _ _ => by kernel_rfl) trivial ?_
       refine TriL.nil (by kernel_rfl) (TriQ.next (Tri.ret (TriQ.passRet (TriQ.blockRet (TriQ.passRet (TriQ.passRet (TriQ.blockRet (TriQ.passRet ?_))))))))
       exact TriQ.ret (v := .tuple #[.int .i64 0, .int .i64 170]) (l := []) (obl := []) [] [2] (fun _ => by kernel_rfl) trivial rfl (by kernel_rfl) (⟨by rw [hf, findM_none (by omega) h36 h39 (findE_none (fun t ht => hno t (by omega)))], rfl⟩)
      ·
       obtain ⟨q, hq1, hqn, hnq⟩ := hnx.resolve_left (fun h => by omega)
       have hq : q < (nd ns k).ents.length := by omega
       have htl2 := atI_lt (hok.ents k hk q hq).at_
       refine Tri.skip (TriQ.next (Tri.region ?_))
       refine TriL.segK (k' := 2) (fr' := [(2, .slice F (ps.length) (cF)), (3, .pointer (some ⟨b1, 0, none⟩)), (8, .int .i64 ↑(tgt ns (en (nd ns k).ents q).id)), (10, .int .i64 ↑i)]) (obl := [((.int .i64 (nx) : Value)) = (.int .i64 ↑(tgt ns (en (nd ns k).ents q).id))]) [⟨[], none, none, none, some (.int .i64 ↑(tgt ns (en (nd ns k).ents q).id))⟩, o_] [2, 3, 8, 10] (fun _ _ => by kernel_rfl) ⟨congrArg (Value.int .i64) hnq, trivial⟩ ?_
       refine TriL.nil (by kernel_rfl) (TriQ.blockNormal (TriQ.next (Tri.region ?_)))
       refine TriL.segK (k' := 3) (fr' := [(2, .slice F (ps.length) (cF)), (3, .pointer (some ⟨b1, 0, none⟩)), (8, .int .i64 ↑(tgt ns (en (nd ns k).ents q).id)), (10, .int .i64 ↑(i + 1))]) (obl := [(Value.int .i64 (IntKind.wrap .i64 (((i : Nat) : Int) + 1))) = (.int .i64 ↑(i + 1))]) [o_, ⟨[], none, none, none, some (.int .i64 ↑(i + 1))⟩, o_] [2, 3, 8, 10] (fun _ _ => by kernel_rfl) ⟨wrapEq (by omega) (by omega) (by omega), trivial⟩ ?_
       refine TriL.nil (by kernel_rfl) ?_
       exact TriQ.turn ((tgt ns (en (nd ns k).ents q).id), (i + 1)) (idx := [2, 3, 8, 10]) (pk := [0, 2]) (show (((tgt ns (en (nd ns k).ents q).id)) < ns.length) ∧ (((i + 1)) ≤ ps.length) ∧ (findG ns root ps = findM ns ((tgt ns (en (nd ns k).ents q).id)) (ps.drop ((i + 1)))) from ⟨htl2.1, by omega, by rw [hf, findM_some (by omega) h36 h39 (findE_some (sorted_of (hok.ents k hk)) hq hqn)]⟩) (by show ps.length - ((i + 1)) < ps.length - i; omega) (fun _ => by kernel_rfl) rfl (by kernel_rfl)
  ·
   refine Tri.exit (TriQ.passExit (TriQ.passExit (TriQ.blockHit (TriQ.next (Tri.seq (Tri.region ?_))))))
   refine TriL.segK (k' := 8) (fr' := [(6, .int .i64 ((nd ns k).id)), (7, .int .i64 0)]) (obl := [(Rd β ⟨(blkOf A), offOf A + k * 10, none⟩ (.int .i64 ((nd ns k).id))), ((k : Nat) : Int) = ((k : Nat) : Int), k < ns.length, (⟨(blkOf A), offOf A, none⟩ : Addr).spot = none, (A : Option Addr) = some ⟨(blkOf A), offOf A, none⟩, b1 = b1]) [o_, ⟨[.at 0], none, none, none, none⟩, o_, ⟨[], some k, none, some ⟨(blkOf A), offOf A, none⟩, none⟩, o_, ⟨[.old (.int .i64 ((nd ns k).id))], none, none, none, none⟩, o_, o_] [6, 7] (fun _ _ => by kernel_rfl) ⟨GraphAt.rd hG (i := k) (by omega) (j := 0) rfl, rfl, hk, rfl, GraphAt.hd hG (i := k) (by omega), rfl, trivial⟩ ?_
   refine TriL.nil (by kernel_rfl) (TriQ.next (Tri.ret ?_))
   exact TriQ.ret (v := .tuple #[.int .i64 ((nd ns k).id), .int .i64 0]) (l := []) (obl := []) [] [1] (fun _ => by kernel_rfl) trivial rfl (by kernel_rfl) (⟨by rw [hf, findM_end (by omega)], rfl⟩)
 ·
  refine TriL.call (f := 46) (args := #[.agg #[.slice A (ns.length) (c)], .int .i64 (root)]) (d := (some 17)) (pre := []) (R := [.abs R, .blk b1 [.slice A (ns.length) (c)] 24]) (pk := [0, 1]) (fun _ => by kernel_rfl) ((sp_refBegin A c ns L hG hB root).val (refB_bad hbg)) rfl (by kernel_rfl) ?_
  rintro _ _ ⟨rfl, rfl⟩
  refine TriL.segK (k' := 8) (fr' := [(2, .slice F (ps.length) (cF)), (3, .pointer (some ⟨b1, 0, none⟩)), (8, .int .i64 0), (9, .int .i64 ((beginC ns root)))]) (obl := []) [o_, o_, o_, o_, o_] [2, 3, 8, 9] (fun _ _ => by kernel_rfl) trivial ?_
  refine TriL.nil (by kernel_rfl) (TriQ.next (Tri.seq (Tri.seq (Tri.region ?_))))
  refine TriL.segK (k' := 2) (fr' := [(2, .slice F (ps.length) (cF)), (3, .pointer (some ⟨b1, 0, none⟩)), (8, .int .i64 0), (9, .int .i64 ((beginC ns root))), (21, .bool (!(decide (((beginC ns root) : Int) = (0 : Int)))))]) (obl := []) [o_, o_] [2, 3, 8, 9, 21] (fun _ _ => by kernel_rfl) trivial ?_
  refine TriL.nil (by kernel_rfl) (TriQ.next ?_)
  refine Tri.condN (p := ((beginC ns root) : Int) = (0 : Int)) (fun _ => by kernel_rfl) (fun h21 => ?_) (fun h21 => ?_)
  ·
   refine Tri.seq (Tri.region ?_)
   refine TriL.segK (k' := 3) (fr' := [(6, .int .i64 0), (7, .int .i64 ((beginC ns root)))]) (obl := []) [o_, o_, o_] [6, 7] (fun _ _ => by kernel_rfl) trivial ?_
   refine TriL.nil (by kernel_rfl) (TriQ.next (Tri.ret (TriQ.passRet ?_)))
   exact TriQ.ret (v := .tuple #[.int .i64 0, .int .i64 ((beginC ns root))]) (l := []) (obl := []) [] [0] (fun _ => by kernel_rfl) trivial rfl (by kernel_rfl) (⟨by rw [findG_bad hbg], rfl⟩)
  ·
   exact absurd h21 hbg
set_option maxRecDepth 100000 in
set_option maxHeartbeats 4000000 in
theorem sp_copyTexts {β : Bs} (A : Option Addr) (c : Nat) (d : List ByteArray) (hA : StrsAt β A d) (hl : d.length ≤ 1048576) :
    SpecB Try.prog β 22 #[.slice A d.length c] [] (fun β' v l => ∃ B cap, v = .slice B d.length cap ∧ l = [] ∧ StrsAt β' B d) := by
 refine SpecB.enter Try.func22 rfl Try.ntmps22 (Nat.le_of_ble_eq_true rfl) (fun hle0 R => ?_)
 refine Tri.seq (Tri.region ?_)
 refine TriL.segK (k' := 1) (fr' := [(0, .slice A (d.length) (c))]) (obl := []) [o_] [0] (fun _ _ => by kernel_rfl) trivial ?_
 refine TriL.nil (by kernel_rfl) (TriQ.next (Tri.seq (Tri.region ?_)))
 refine TriL.segN (k' := 2) (fr' := fun b3 => [(0, .slice A (d.length) (c)), (3, .slice (some ⟨b3, 0, none⟩) (0) (0))]) (hps' := fun b3 => [.abs R, .blk b3 [] 9]) (obl := fun b3 => []) [o_, o_] [0, 3] [0, 1] (fun _ _ => by kernel_rfl) (fun b3 => trivial) (fun b3 => ?_)
 refine TriL.nil (by kernel_rfl) (TriQ.next (Tri.seq (Tri.region ?_)))
 refine TriL.mem (fun w hS => hS.toRow (i := 1) (b := b3) (cs := []) (e := 9) 1 0 (by kernel_rfl) rfl (by decide)) ?_
 refine TriL.segK (k' := 2) (fr' := [(5, .slice (some ⟨b3, 0, none⟩) (0) (0)), (6, .slice A (d.length) (c))]) (obl := []) [o_, o_] [5, 6] (fun _ _ => by kernel_rfl) trivial ?_
 refine TriL.append 1 (d := (some 7)) (t := 40) (e := 9) (z := .string ⟨#[]⟩) (size := 1) (bytes := 16) (n := 0) (cap := 0) (A := some ⟨b3, 0, none⟩) (xs := []) (s := (.tmp 5)) (x := (.tmp 6)) (ats := #[40, 40]) (A' := A) (m := d.length) (c' := c) (news := (strsV d)) (fun _ => by kernel_rfl) rfl (by kernel_rfl) (fun _ => by kernel_rfl) (fun _ => by kernel_rfl) Try.underlying40 (by kernel_rfl) rfl (by decide) (by rw [strsV_len, Nat.mul_one]) (oneCell_strs d) (hA.src) (by unfold maxLen; omega) (by omega) (fun A4 c5 => ?_)
 refine TriL.partEq 1 (p := .abs (RowA 9 1 A4 (0 + d.length) c5 ([] ++ (strsV d)))) (p' := .abs (RowA 9 1 A4 d.length c5 (strsV d))) (by kernel_rfl) (by rw [Nat.zero_add, List.nil_append]) ?_
 refine TriL.slot 7 (.slice A4 (0 + d.length) (c5)) (.slice A4 (d.length) (c5)) (fun _ => by kernel_rfl) (by rw [Nat.zero_add]) ?_
 refine TriL.segK (k' := 4) (fr' := [(3, .slice A4 (d.length) (c5))]) (obl := []) [o_] [3] (fun _ _ => by kernel_rfl) trivial ?_
 refine TriL.nil (by kernel_rfl) (TriQ.next (Tri.seq (Tri.region ?_)))
 refine TriL.rebase (Φ := fun β' => StrsAt β' A4 d) 1 [0] (hps' := [.abs R]) rfl rfl (by kernel_rfl) (fun F w h β' h1 h2 => RowB.of_row h h1 h2) (fun β1 hle_β1 hB => ?_)
 replace hA := hA.le hle_β1
 replace hle0 := hle0.trans hle_β1
 refine TriL.segK (k' := 2) (fr' := [(2, .slice A4 (d.length) (c5))]) (obl := []) [o_, o_] [2] (fun _ _ => by kernel_rfl) trivial ?_
 refine TriL.nil (by kernel_rfl) (TriQ.next (Tri.ret ?_))
 exact TriQ.retB (v := .slice A4 (d.length) (c5)) (l := []) (obl := []) [] [0] hle0 (fun _ => by kernel_rfl) trivial rfl (by kernel_rfl) (⟨A4, c5, rfl, rfl, hB⟩)
set_option maxRecDepth 100000 in
set_option maxHeartbeats 4000000 in
theorem sp_sameTexts {β : Bs} (A1 A2 : Option Addr) (c1 c2 : Nat) (d1 d2 : List ByteArray) (hA1 : StrsAt β A1 d1) (hA2 : StrsAt β A2 d2) (hl : d1.length ≤ 1048576) :
    Spec Try.prog β 25 #[.slice A1 d1.length c1, .slice A2 d2.length c2] [] (fun v l => v = .bool (decide (d1 = d2)) ∧ l = []) := by
 refine Spec.enter Try.func25 rfl Try.ntmps25 (Nat.le_of_ble_eq_true rfl) (fun R => ?_)
 refine Tri.seq (Tri.region ?_)
 refine TriL.segK (k' := 1) (fr' := [(0, .slice A1 (d1.length) (c1)), (1, .slice A2 (d2.length) (c2))]) (obl := []) [o_] [0, 1] (fun _ _ => by kernel_rfl) trivial ?_
 refine TriL.nil (by kernel_rfl) (TriQ.next (Tri.seq (Tri.seq (Tri.region ?_))))
 refine TriL.segK (k' := 5) (fr' := [(0, .slice A1 (d1.length) (c1)), (1, .slice A2 (d2.length) (c2)), (10, .bool (!(decide ((((d1.length : Nat) : Int) : Int) = (((d2.length : Nat) : Int) : Int)))))]) (obl := []) [o_, o_, o_, o_, o_] [0, 1, 10] (fun _ _ => by kernel_rfl) trivial ?_
 refine TriL.nil (by kernel_rfl) (TriQ.next ?_)
 refine Tri.condN (p := (((d1.length : Nat) : Int) : Int) = (((d2.length : Nat) : Int) : Int)) (fun _ => by kernel_rfl) (fun h10 => ?_) (fun h10 => ?_)
 ·
  refine Tri.seq (Tri.region ?_)
  refine TriL.segK (k' := 1) (fr' := [(4, .bool false)]) (obl := []) [o_] [4] (fun _ _ => by kernel_rfl) trivial ?_
  refine TriL.nil (by kernel_rfl) (TriQ.next (Tri.ret (TriQ.passRet ?_)))
  exact TriQ.ret (v := .bool false) (l := []) (obl := []) [] [0] (fun _ => by kernel_rfl) trivial rfl (by kernel_rfl) (⟨by rw [decide_eq_false (fun e => h10 (by rw [e]))], rfl⟩)
 ·
  refine Tri.skip (TriQ.next (Tri.seq (Tri.seq (Tri.region ?_))))
  refine TriL.segK (k' := 1) (fr' := [(0, .slice A1 (d1.length) (c1)), (1, .slice A2 (d2.length) (c2)), (5, .int .i64 0)]) (obl := []) [o_] [0, 1, 5] (fun _ _ => by kernel_rfl) trivial ?_
  refine TriL.nil (by kernel_rfl) (TriQ.next (Tri.block ?_))
  refine Tri.loop (ι := Nat) (fun (i : Nat) => (i ≤ d1.length) ∧ (∀ j, j < i → d1.getD j ⟨#[]⟩ = d2.getD j ⟨#[]⟩)) (fun (i : Nat) => d1.length - i) (fun (i : Nat) => [(0, .slice A1 (d1.length) (c1)), (1, .slice A2 (d2.length) (c2)), (5, .int .i64 ↑i)]) (fun (i : Nat) => [.abs R]) 0 (idx := [0, 1, 5]) (pk := [0]) (show (0 ≤ d1.length) ∧ (∀ j, j < 0 → d1.getD j ⟨#[]⟩ = d2.getD j ⟨#[]⟩) from ⟨Nat.zero_le _, fun j hj => absurd hj (Nat.not_lt_zero j)⟩) (fun _ => by kernel_rfl) rfl (by kernel_rfl) ?_
  rintro i ⟨hi, hall⟩
  show Tri _ _ _ _ [(0, .slice A1 (d1.length) (c1)), (1, .slice A2 (d2.length) (c2)), (5, .int .i64 ↑i)] [.abs R] _
  refine Tri.seq (Tri.seq (Tri.region ?_))
  refine TriL.segK (k' := 4) (fr' := [(0, .slice A1 (d1.length) (c1)), (1, .slice A2 (d2.length) (c2)), (5, .int .i64 ↑i), (14, .bool (decide ((((i : Nat) : Int) : Int) < (((d1.length : Nat) : Int) : Int))))]) (obl := []) [o_, o_, o_, o_] [0, 1, 5, 14] (fun _ _ => by kernel_rfl) trivial ?_
  refine TriL.nil (by kernel_rfl) (TriQ.next ?_)
  refine Tri.condP (p := (((i : Nat) : Int) : Int) < (((d1.length : Nat) : Int) : Int)) (fun _ => by kernel_rfl) (fun h14 => ?_) (fun h14 => ?_)
  ·
   refine Tri.skip (TriQ.next (Tri.seq (Tri.block (Tri.seq ?_))))
   refine Tri.regionQ (by kernel_rfl) (by kernel_rfl) ?_
   refine TriLQ.seg (k' := 9) (fr' := [(0, .slice A1 (d1.length) (c1)), (1, .slice A2 (d2.length) (c2)), (5, .int .i64 ↑i), (25, .bool (!(decide (((sAt d1 i) : ByteArray) = (sAt d2 i)))))]) (obl := [(Value.bool (!(((sAt d1 i) : ByteArray).toList == ((sAt d2 i) : ByteArray).toList))) = (.bool (!(decide (((sAt d1 i) : ByteArray) = (sAt d2 i))))), (Rd β ⟨(blkOf A2), offOf A2 + i * 1, none⟩ (.string (sAt d2 i))), ((i : Nat) : Int) = ((i : Nat) : Int), i < d2.length, (⟨(blkOf A2), offOf A2, none⟩ : Addr).spot = none, (A2 : Option Addr) = some ⟨(blkOf A2), offOf A2, none⟩, (Rd β ⟨(blkOf A1), offOf A1 + i * 1, none⟩ (.string (sAt d1 i))), ((i : Nat) : Int) = ((i : Nat) : Int), i < d1.length, (⟨(blkOf A1), offOf A1, none⟩ : Addr).spot = none, (A1 : Option Addr) = some ⟨(blkOf A1), offOf A1, none⟩]) [o_, o_, ⟨[], some i, none, some ⟨(blkOf A1), offOf A1, none⟩, none⟩, ⟨[.old (.string (sAt d1 i))], none, none, none, none⟩, o_, o_, ⟨[], some i, none, some ⟨(blkOf A2), offOf A2, none⟩, none⟩, ⟨[.old (.string (sAt d2 i))], none, none, none, none⟩, ⟨[], none, none, none, some (.bool (!(decide (((sAt d1 i) : ByteArray) = (sAt d2 i)))))⟩] [0, 1, 5, 25] (fun _ _ => by kernel_rfl) ⟨strNeV _ _, StrsAt.rd hA2 (by omega), rfl, by omega, rfl, StrsAt.hd hA2 (j := i) (by omega), StrsAt.rd hA1 (by omega), rfl, by omega, rfl, StrsAt.hd hA1 (j := i) (by omega), trivial⟩ ?_
   refine TriLQ.nil (by kernel_rfl) (TriQ.next ?_)
   refine Tri.condN (p := ((sAt d1 i) : ByteArray) = (sAt d2 i)) (fun _ => by kernel_rfl) (fun h25 => ?_) (fun h25 => ?_)
   ·
    refine Tri.seq (Tri.region ?_)
    refine TriL.segK (k' := 1) (fr' := [(4, .bool false)]) (obl := []) [o_] [4] (fun _ _ => by kernel_rfl) trivial ?_
    refine TriL.nil (by kernel_rfl) (TriQ.next (Tri.ret (TriQ.blockRet (TriQ.passRet (TriQ.passRet (TriQ.blockRet (TriQ.passRet ?_)))))))
    exact TriQ.ret (v := .bool false) (l := []) (obl := []) [] [0] (fun _ => by kernel_rfl) trivial rfl (by kernel_rfl) (⟨by rw [decide_eq_false (fun e => h25 (by rw [e]))], rfl⟩)
   ·
    refine Tri.skip (TriQ.blockNormal (TriQ.next (Tri.region ?_)))
    refine TriL.segK (k' := 3) (fr' := [(0, .slice A1 (d1.length) (c1)), (1, .slice A2 (d2.length) (c2)), (5, .int .i64 ↑(i + 1))]) (obl := [(Value.int .i64 (IntKind.wrap .i64 (((i : Nat) : Int) + 1))) = (.int .i64 ↑(i + 1))]) [o_, ⟨[], none, none, none, some (.int .i64 ↑(i + 1))⟩, o_] [0, 1, 5] (fun _ _ => by kernel_rfl) ⟨wrapEq (by omega) (by omega) (by omega), trivial⟩ ?_
    refine TriL.nil (by kernel_rfl) ?_
    exact TriQ.turn ((i + 1)) (idx := [0, 1, 5]) (pk := [0]) (show (((i + 1)) ≤ d1.length) ∧ (∀ j, j < ((i + 1)) → d1.getD j ⟨#[]⟩ = d2.getD j ⟨#[]⟩) from ⟨by omega, fun j hj => by rcases Nat.lt_succ_iff_lt_or_eq.1 hj with h | h; exact hall j h; subst h; exact h25⟩) (by show d1.length - ((i + 1)) < d1.length - i; omega) (fun _ => by kernel_rfl) rfl (by kernel_rfl)
  ·
   refine Tri.exit (TriQ.passExit (TriQ.passExit (TriQ.blockHit (TriQ.next (Tri.seq (Tri.region ?_))))))
   refine TriL.segK (k' := 1) (fr' := [(4, .bool true)]) (obl := []) [o_] [4] (fun _ _ => by kernel_rfl) trivial ?_
   refine TriL.nil (by kernel_rfl) (TriQ.next (Tri.ret ?_))
   exact TriQ.ret (v := .bool true) (l := []) (obl := []) [] [0] (fun _ => by kernel_rfl) trivial rfl (by kernel_rfl) (⟨by rw [decide_eq_true (ext_getD (x := ⟨#[]⟩) (by omega) (fun j hj => hall j (by omega)))], rfl⟩)
end Go.Proofs.Ytjpdcppdoonmdaa
end
/- part GYa. PROVED HERE: small facts: a name of one letter is good; small numbers. CONDITIONS: none. -/
section
namespace Go.Proofs.Ytjpdcppdoonmdaa
open Go.RowKit
theorem i64_small {z : Int} (h : 0 ≤ z ∧ z ≤ 1000) : I64 z := by unfold I64; omega
theorem good_one {b : UInt8} (h0 : ¬ b = 0) (h1 : ¬ b = 47) (h2 : ¬ b = 46) : GoodName ⟨#[b]⟩ := by
  refine ⟨Nat.le_refl _, (by show 1 ≤ 255; decide), fun e => h2 ?_, fun e => ?_, fun j hj => ?_⟩
  · injection e with e
    have e : [b] = [46] := congrArg Array.toList e
    injection e
  · injection e with e
    have e : [b] = [46, 46] := congrArg Array.toList e
    injection e with _ e
    cases e
  · have : j = 0 := by have hj : j < 1 := hj; omega
    subst this
    show ¬ b.toNat = 0 ∧ ¬ b.toNat = 47
    exact ⟨fun e => h0 (UInt8.toNat_inj.1 e), fun e => h1 (UInt8.toNat_inj.1 e)⟩
theorem time_zero : TimeOk 0 0 := ⟨by decide, by decide, by decide, by decide, by decide⟩
end Go.Proofs.Ytjpdcppdoonmdaa
end
/- part GY. PROVED HERE: the laws' little graph: it is well-formed, and what Find answers in it. CONDITIONS: none. -/
section
namespace Go.Proofs.Ytjpdcppdoonmdaa
open Go.RowKit Go.Maps
def ltA : ByteArray := ⟨#[97]⟩
def ltB : ByteArray := ⟨#[98]⟩
def ltC : ByteArray := ⟨#[99]⟩
def little1 : NodeM := ⟨1, 2, 0, 0, 0, 0, 0, [], ⟨#[]⟩, [⟨⟨#[97]⟩, 5⟩, ⟨⟨#[98]⟩, 7⟩]⟩
def little2 : NodeM := ⟨5, 2, 0, 0, 0, 0, 0, [], ⟨#[]⟩, [⟨⟨#[99]⟩, 7⟩]⟩
def little3 : NodeM := ⟨7, 1, 0, 0, 0, 0, 0, [120], ⟨#[]⟩, []⟩
def littleM : List NodeM := [little1, little2, little3]
def littleL (b1 b2 b3 : Nat) : Lay :=
  ⟨fun i => if i = 2 then some ⟨b3, 0, none⟩ else none, fun i => if i = 0 then some ⟨b1, 0, none⟩ else if i = 1 then some ⟨b2, 0, none⟩ else none, fun i => if i = 2 then 1 else 0, fun i => if i = 0 then 2 else if i = 1 then 1 else 0⟩
theorem three {i : Nat} (h : i < littleM.length) : i = 0 ∨ i = 1 ∨ i = 2 := by
  have : i < 3 := h
  omega
theorem GraphAt.little {β : Bs} {B : Option Addr} {b1 b2 b3 : Nat} (hR : RowB β B (nodesV (littleL b1 b2 b3) littleM)) (h1 : EntsAt β (some ⟨b1, 0, none⟩) little1.ents) (h2 : EntsAt β (some ⟨b2, 0, none⟩) little2.ents) (h3 : BytesAt β (some ⟨b3, 0, none⟩) little3.data) :
    GraphAt β B littleM (littleL b1 b2 b3) := by
  refine ⟨hR, fun i hi => ?_, fun i hi => ?_⟩
  · rcases three hi with rfl | rfl | rfl
    · exact RowB.nil
    · exact RowB.nil
    · exact h3
  · rcases three hi with rfl | rfl | rfl
    · exact h1
    · exact h2
    · exact RowB.nil
theorem little_bound : GraphB littleM 1048576 := by
  refine ⟨by decide, fun i hi => ?_⟩
  rcases three hi with rfl | rfl | rfl
  · exact ⟨⟨i64_small (by decide), i64_small (by decide), i64_small (by decide), i64_small (by decide), i64_small (by decide), i64_small (by decide), i64_small (by decide)⟩, by decide, by decide, by decide, fun j hj => by
      have hj : j < 2 := hj
      have : j = 0 ∨ j = 1 := by omega
      rcases this with rfl | rfl
      · exact ⟨i64_small (by decide), by decide⟩
      · exact ⟨i64_small (by decide), by decide⟩⟩
  · exact ⟨⟨i64_small (by decide), i64_small (by decide), i64_small (by decide), i64_small (by decide), i64_small (by decide), i64_small (by decide), i64_small (by decide)⟩, by decide, by decide, by decide, fun j hj => by
      have hj : j < 1 := hj
      have : j = 0 := by omega
      subst this
      exact ⟨i64_small (by decide), by decide⟩⟩
  · exact ⟨⟨i64_small (by decide), i64_small (by decide), i64_small (by decide), i64_small (by decide), i64_small (by decide), i64_small (by decide), i64_small (by decide)⟩, by decide, by decide, by decide, fun j hj => absurd hj (Nat.not_lt_zero j)⟩
theorem little_e0 : EntOk littleM 0 0 := ⟨by decide, good_one (by decide) (by decide) (by decide), not_strLe.2 (by decide)⟩
theorem little_e1 : EntOk littleM 0 1 := ⟨by decide, good_one (by decide) (by decide) (by decide), not_strLe.2 (by decide)⟩
theorem little_e2 : EntOk littleM 1 0 := ⟨by decide, good_one (by decide) (by decide) (by decide), not_strLe.2 (by decide)⟩
theorem little_edges : (allE littleM 3).map (idP littleM) = [(5, 1)] := by decide
theorem little_ok : GraphOk littleM := by
  refine ⟨by decide, fun i hi => ?_, fun i hi => ?_, fun i j hij hj => ?_, by decide, fun i hi j hj => ?_, by decide, fun z => ?_⟩
  · rcases three hi with rfl | rfl | rfl
    · exact ⟨by decide, by decide, by decide, by decide, time_zero, fun _ => rfl, fun h => absurd rfl h, .inl ⟨by decide, rfl⟩⟩
    · exact ⟨by decide, by decide, by decide, by decide, time_zero, fun _ => rfl, fun h => absurd rfl h, .inl ⟨by decide, rfl⟩⟩
    · exact ⟨by decide, by decide, by decide, by decide, time_zero, fun h => absurd rfl h, fun _ => rfl, .inl ⟨by decide, rfl⟩⟩
  · rcases three hi with rfl | rfl | rfl <;> exact ⟨by decide, by decide⟩
  · rcases three hj with rfl | rfl | rfl
    · omega
    · have : i = 0 := by omega
      subst this; decide
    · have : i = 0 ∨ i = 1 := by omega
      rcases this with rfl | rfl <;> decide
  · rcases three hi with rfl | rfl | rfl
    · have hj : j < 2 := hj
      have : j = 0 ∨ j = 1 := by omega
      rcases this with rfl | rfl
      · exact little_e0
      · exact little_e1
    · have hj : j < 1 := hj
      have : j = 0 := by omega
      subst this
      exact little_e2
    · exact absurd hj (Nat.not_lt_zero j)
  · have e : (allE littleM littleM.length).map (idP littleM) = [(5, 1)] := little_edges
    rw [e]
    by_cases h : z = 5
    · subst h
      exact ⟨1, 1, rfl, rfl⟩
    · refine ⟨0, ?_⟩
      show up _ z = none
      unfold up
      have : (z == 5) = false := by simp [h]
      rw [List.lookup_cons, this]
      rfl
theorem little_find : findG littleM 1 [ltA, ltC] = (7, 0) := by
  rw [findG_ok (beginC_ok little_ok (by decide) (by decide))]
  have h0 : tgt littleM 1 = 0 := by decide
  have h1 : findE (nd littleM 0).ents ltA = some 0 := by decide
  have h2 : tgt littleM (en (nd littleM 0).ents 0).id = 1 := by decide
  have h3 : findE (nd littleM 1).ents ltC = some 0 := by decide
  have h4 : tgt littleM (en (nd littleM 1).ents 0).id = 2 := by decide
  rw [h0, findM, if_neg (by decide), if_neg (by decide), h1]
  show findM littleM (tgt littleM (en (nd littleM 0).ents 0).id) [ltC] = _
  rw [h2, findM, if_neg (by decide), if_neg (by decide), h3]
  show findM littleM (tgt littleM (en (nd littleM 1).ents 0).id) [] = _
  rw [h4]
  rfl
end Go.Proofs.Ytjpdcppdoonmdaa
end
/- part GLit. PROVED HERE: the little graph is made; the laws' first look CONDITIONS: as the theorems say. Printed by a program of this repo (wip/v). -/
section
namespace Go.Proofs.Ytjpdcppdoonmdaa
open Go.RowKit
attribute [local irreducible] TriL TriLQ Tri TriQ
set_option maxRecDepth 100000 in
set_option maxHeartbeats 4000000 in
theorem sp_little {β : Bs} : SpecB Try.prog β 19 #[] [] (fun β' v l => ∃ B L', v = .agg #[.slice B 3 3] ∧ l = [] ∧ GraphAt β' B littleM L') := by
 refine SpecB.enter Try.func19 rfl Try.ntmps19 (Nat.le_of_ble_eq_true rfl) (fun hle0 R => ?_)
 refine Tri.seq (Tri.region ?_)
 refine TriL.segN (k' := 1) (fr' := fun b1 => [(0, .pointer (some ⟨b1, 0, none⟩))]) (hps' := fun b1 => [.abs R, .blk b1 [.slice none (0) (0)] 24]) (obl := fun b1 => []) [o_] [0] [0, 1] (fun _ _ => by kernel_rfl) (fun b1 => trivial) (fun b1 => ?_)
 refine TriL.nil (by kernel_rfl) (TriQ.next (Tri.seq (Tri.region ?_)))
 refine TriL.segN (k' := 5) (fr' := fun b2 => [(0, .pointer (some ⟨b1, 0, none⟩)), (4, .agg #[.int .i64 1, .int .i64 2, .int .i64 0, .int .i64 0, .int .i64 0, .int .i64 0, .int .i64 0, .slice none (0) (0), .string ⟨#[]⟩, .slice (some ⟨b2, 0, none⟩) (2) (2)]), (5, .agg #[.string ⟨#[99]⟩, .int .i64 7])]) (hps' := fun b2 => [.abs R, .blk b1 [.slice none (0) (0)] 24, .blk b2 [.string ⟨#[97]⟩, .int .i64 5, .string ⟨#[98]⟩, .int .i64 7] 72]) (obl := fun b2 => []) [o_, o_, o_, o_, o_] [0, 4, 5] [0, 1, 2] (fun _ _ => by kernel_rfl) (fun b2 => trivial) (fun b2 => ?_)
 refine TriL.segN (k' := 7) (fr' := fun b3 => [(0, .pointer (some ⟨b1, 0, none⟩)), (4, .agg #[.int .i64 1, .int .i64 2, .int .i64 0, .int .i64 0, .int .i64 0, .int .i64 0, .int .i64 0, .slice none (0) (0), .string ⟨#[]⟩, .slice (some ⟨b2, 0, none⟩) (2) (2)]), (7, .agg #[.int .i64 5, .int .i64 2, .int .i64 0, .int .i64 0, .int .i64 0, .int .i64 0, .int .i64 0, .slice none (0) (0), .string ⟨#[]⟩, .slice (some ⟨b3, 0, none⟩) (1) (1)])]) (hps' := fun b3 => [.abs R, .blk b1 [.slice none (0) (0)] 24, .blk b2 [.string ⟨#[97]⟩, .int .i64 5, .string ⟨#[98]⟩, .int .i64 7] 72, .blk b3 [.string ⟨#[99]⟩, .int .i64 7] 72]) (obl := fun b3 => []) [o_, o_] [0, 4, 7] [0, 1, 2, 3] (fun _ _ => by kernel_rfl) (fun b3 => trivial) (fun b3 => ?_)
 refine TriL.segN (k' := 8) (fr' := fun b4 => [(0, .pointer (some ⟨b1, 0, none⟩)), (4, .agg #[.int .i64 1, .int .i64 2, .int .i64 0, .int .i64 0, .int .i64 0, .int .i64 0, .int .i64 0, .slice none (0) (0), .string ⟨#[]⟩, .slice (some ⟨b2, 0, none⟩) (2) (2)]), (7, .agg #[.int .i64 5, .int .i64 2, .int .i64 0, .int .i64 0, .int .i64 0, .int .i64 0, .int .i64 0, .slice none (0) (0), .string ⟨#[]⟩, .slice (some ⟨b3, 0, none⟩) (1) (1)]), (8, .slice (some ⟨b4, 0, none⟩) (1) (1))]) (hps' := fun b4 => [.abs R, .blk b1 [.slice none (0) (0)] 24, .blk b2 [.string ⟨#[97]⟩, .int .i64 5, .string ⟨#[98]⟩, .int .i64 7] 72, .blk b3 [.string ⟨#[99]⟩, .int .i64 7] 72, .blk b4 [.int .u8 120] 5]) (obl := fun b4 => []) [o_] [0, 4, 7, 8] [0, 1, 2, 3, 4] (fun _ _ => by kernel_rfl) (fun b4 => trivial) (fun b4 => ?_)
 refine TriL.markBytes 4 (d := (some 9)) (t := 29) (e := 5) (T := 5) (b := b4) (o := 0) (n := 1) (c := 1) (cs := [.int .u8 120]) (x := (.tmp 8)) (fun _ => by kernel_rfl) (by kernel_rfl) (fun _ => by kernel_rfl) Try.underlying29 Try.underlying5 ?_
 refine TriL.segN (k' := 11) (fr' := fun b5 => [(0, .pointer (some ⟨b1, 0, none⟩)), (11, .slice (some ⟨b5, 0, none⟩) (3) (3))]) (hps' := fun b5 => [.abs R, .blk b1 [.slice none (0) (0)] 24, .blk b2 [.string ⟨#[97]⟩, .int .i64 5, .string ⟨#[98]⟩, .int .i64 7] 72, .blk b3 [.string ⟨#[99]⟩, .int .i64 7] 72, .abs (FrozA b4 [.int .u8 120] 5), .blk b5 [.int .i64 1, .int .i64 2, .int .i64 0, .int .i64 0, .int .i64 0, .int .i64 0, .int .i64 0, .slice none (0) (0), .string ⟨#[]⟩, .slice (some ⟨b2, 0, none⟩) (2) (2), .int .i64 5, .int .i64 2, .int .i64 0, .int .i64 0, .int .i64 0, .int .i64 0, .int .i64 0, .slice none (0) (0), .string ⟨#[]⟩, .slice (some ⟨b3, 0, none⟩) (1) (1), .int .i64 7, .int .i64 1, .int .i64 0, .int .i64 0, .int .i64 0, .int .i64 0, .int .i64 0, .slice (some ⟨b4, 0, none⟩) (1) (1), .string ⟨#[]⟩, .slice none (0) (0)] 32]) (obl := fun b5 => []) [o_, o_] [0, 11] [0, 1, 2, 3, 4, 5] (fun _ _ => by kernel_rfl) (fun b5 => trivial) (fun b5 => ?_)
 refine TriL.mem (fun w hS => hS.toRow (i := 2) (b := b2) (cs := [.string ⟨#[97]⟩, .int .i64 5, .string ⟨#[98]⟩, .int .i64 7]) (e := 72) 2 2 (by kernel_rfl) rfl (by decide)) ?_
 refine TriL.rebase (Φ := fun β' => EntsAt β' (some ⟨b2, 0, none⟩) little1.ents) 2 [0, 1, 3, 4, 5] (hps' := [.abs R, .blk b1 [.slice none (0) (0)] 24, .blk b3 [.string ⟨#[99]⟩, .int .i64 7] 72, .abs (FrozA b4 [.int .u8 120] 5), .blk b5 [.int .i64 1, .int .i64 2, .int .i64 0, .int .i64 0, .int .i64 0, .int .i64 0, .int .i64 0, .slice none (0) (0), .string ⟨#[]⟩, .slice (some ⟨b2, 0, none⟩) (2) (2), .int .i64 5, .int .i64 2, .int .i64 0, .int .i64 0, .int .i64 0, .int .i64 0, .int .i64 0, .slice none (0) (0), .string ⟨#[]⟩, .slice (some ⟨b3, 0, none⟩) (1) (1), .int .i64 7, .int .i64 1, .int .i64 0, .int .i64 0, .int .i64 0, .int .i64 0, .int .i64 0, .slice (some ⟨b4, 0, none⟩) (1) (1), .string ⟨#[]⟩, .slice none (0) (0)] 32]) rfl rfl (by kernel_rfl) (fun F w h β' h1 h2 => RowB.of_row h h1 h2) (fun β6 hle_β6 hE1 => ?_)
 replace hle0 := hle0.trans hle_β6
 refine TriL.mem (fun w hS => hS.toRow (i := 2) (b := b3) (cs := [.string ⟨#[99]⟩, .int .i64 7]) (e := 72) 2 1 (by kernel_rfl) rfl (by decide)) ?_
 refine TriL.rebase (Φ := fun β' => EntsAt β' (some ⟨b3, 0, none⟩) little2.ents) 2 [0, 1, 3, 4] (hps' := [.abs R, .blk b1 [.slice none (0) (0)] 24, .abs (FrozA b4 [.int .u8 120] 5), .blk b5 [.int .i64 1, .int .i64 2, .int .i64 0, .int .i64 0, .int .i64 0, .int .i64 0, .int .i64 0, .slice none (0) (0), .string ⟨#[]⟩, .slice (some ⟨b2, 0, none⟩) (2) (2), .int .i64 5, .int .i64 2, .int .i64 0, .int .i64 0, .int .i64 0, .int .i64 0, .int .i64 0, .slice none (0) (0), .string ⟨#[]⟩, .slice (some ⟨b3, 0, none⟩) (1) (1), .int .i64 7, .int .i64 1, .int .i64 0, .int .i64 0, .int .i64 0, .int .i64 0, .int .i64 0, .slice (some ⟨b4, 0, none⟩) (1) (1), .string ⟨#[]⟩, .slice none (0) (0)] 32]) rfl rfl (by kernel_rfl) (fun F w h β' h1 h2 => RowB.of_row h h1 h2) (fun β7 hle_β7 hE2 => ?_)
 replace hE1 := hE1.le hle_β7
 replace hle0 := hle0.trans hle_β7
 refine TriL.rebase (Φ := fun β' => BytesAt β' (some ⟨b4, 0, none⟩) little3.data) 2 [0, 1, 3] (hps' := [.abs R, .blk b1 [.slice none (0) (0)] 24, .blk b5 [.int .i64 1, .int .i64 2, .int .i64 0, .int .i64 0, .int .i64 0, .int .i64 0, .int .i64 0, .slice none (0) (0), .string ⟨#[]⟩, .slice (some ⟨b2, 0, none⟩) (2) (2), .int .i64 5, .int .i64 2, .int .i64 0, .int .i64 0, .int .i64 0, .int .i64 0, .int .i64 0, .slice none (0) (0), .string ⟨#[]⟩, .slice (some ⟨b3, 0, none⟩) (1) (1), .int .i64 7, .int .i64 1, .int .i64 0, .int .i64 0, .int .i64 0, .int .i64 0, .int .i64 0, .slice (some ⟨b4, 0, none⟩) (1) (1), .string ⟨#[]⟩, .slice none (0) (0)] 32]) rfl rfl (by kernel_rfl) (fun F w h β' h1 h2 => RowB.of_froz (n := 1) h h1 h2) (fun β8 hle_β8 hE3 => ?_)
 replace hE1 := hE1.le hle_β8
 replace hE2 := hE2.le hle_β8
 replace hle0 := hle0.trans hle_β8
 refine TriL.mem (fun w hS => hS.toRow (i := 2) (b := b5) (cs := [.int .i64 1, .int .i64 2, .int .i64 0, .int .i64 0, .int .i64 0, .int .i64 0, .int .i64 0, .slice none (0) (0), .string ⟨#[]⟩, .slice (some ⟨b2, 0, none⟩) (2) (2), .int .i64 5, .int .i64 2, .int .i64 0, .int .i64 0, .int .i64 0, .int .i64 0, .int .i64 0, .slice none (0) (0), .string ⟨#[]⟩, .slice (some ⟨b3, 0, none⟩) (1) (1), .int .i64 7, .int .i64 1, .int .i64 0, .int .i64 0, .int .i64 0, .int .i64 0, .int .i64 0, .slice (some ⟨b4, 0, none⟩) (1) (1), .string ⟨#[]⟩, .slice none (0) (0)]) (e := 32) 10 3 (by kernel_rfl) rfl (by decide)) ?_
 refine TriL.rebase (Φ := fun β' => RowB β' (some ⟨b5, 0, none⟩) (nodesV (littleL b2 b3 b4) littleM)) 2 [0, 1] (hps' := [.abs R, .blk b1 [.slice none (0) (0)] 24]) rfl rfl (by kernel_rfl) (fun F w h β' h1 h2 => RowB.of_row h h1 h2) (fun β9 hle_β9 hR => ?_)
 replace hE1 := hE1.le hle_β9
 replace hE2 := hE2.le hle_β9
 replace hE3 := hE3.le hle_β9
 replace hle0 := hle0.trans hle_β9
 refine TriL.seg (k' := 13) (fr' := [(0, .pointer (some ⟨b1, 0, none⟩))]) (hps' := [.abs R, .blk b1 [.slice (some ⟨b5, 0, none⟩) (3) (3)] 24]) (obl := [b1 = b1]) [o_, ⟨[.at 1], none, none, none, none⟩] [0] [0, 1] (fun _ _ => by kernel_rfl) ⟨rfl, trivial⟩ ?_
 refine TriL.nil (by kernel_rfl) (TriQ.next (Tri.ret ?_))
 exact TriQ.retB (v := .agg #[.slice (some ⟨b5, 0, none⟩) (3) (3)]) (l := []) (obl := [b1 = b1]) [.at 1] [0] hle0 (fun _ => by kernel_rfl) ⟨rfl, trivial⟩ rfl (by kernel_rfl) (⟨_, littleL b2 b3 b4, rfl, rfl, GraphAt.little hR hE1 hE2 hE3⟩)
set_option maxRecDepth 100000 in
set_option maxHeartbeats 4000000 in
theorem sp_alive {β : Bs} : SpecB Try.prog β 21 #[] [] (fun _ v l => v = .bool true ∧ l = []) := by
 refine SpecB.enter Try.func21 rfl Try.ntmps21 (Nat.le_of_ble_eq_true rfl) (fun hle0 R => ?_)
 refine Tri.seq (Tri.region ?_)
 refine TriL.segK (k' := 1) (fr' := []) (obl := []) [o_] [] (fun _ _ => by kernel_rfl) trivial ?_
 refine TriL.nil (by kernel_rfl) (TriQ.next (Tri.seq (Tri.region ?_)))
 refine TriL.callB (f := 19) (args := #[]) (d := (some 4)) (pre := []) (R := [.abs R]) (pk := [0]) (fun _ => by kernel_rfl) (sp_little) rfl (by kernel_rfl) ?_
 rintro β1 _ _ hle_β1 ⟨B, L, rfl, rfl, hG⟩
 replace hle0 := hle0.trans hle_β1
 refine TriL.segN (k' := 2) (fr' := fun b10 => [(4, .agg #[.slice B (3) (3)]), (5, .slice (some ⟨b10, 0, none⟩) (2) (2))]) (hps' := fun b10 => [.abs R, .blk b10 [.string ⟨#[97]⟩, .string ⟨#[99]⟩] 9]) (obl := fun b10 => []) [o_] [4, 5] [0, 1] (fun _ _ => by kernel_rfl) (fun b10 => trivial) (fun b10 => ?_)
 refine TriL.mem (fun w hS => hS.toRow (i := 1) (b := b10) (cs := [.string ⟨#[97]⟩, .string ⟨#[99]⟩]) (e := 9) 1 2 (by kernel_rfl) rfl (by decide)) ?_
 refine TriL.rebase (Φ := fun β' => StrsAt β' (some ⟨b10, 0, none⟩) [ltA, ltC]) 1 [0] (hps' := [.abs R]) rfl rfl (by kernel_rfl) (fun F w h β' h1 h2 => RowB.of_row h h1 h2) (fun β2 hle_β2 hS => ?_)
 replace hG := hG.le hle_β2
 replace hle0 := hle0.trans hle_β2
 refine TriL.call (f := 23) (args := #[.agg #[.slice B (3) (3)], .int .i64 1, .slice (some ⟨b10, 0, none⟩) (2) (2)]) (d := (some 6)) (pre := []) (R := [.abs R]) (pk := [0]) (fun _ => by kernel_rfl) ((sp_find B 3 littleM L hG little_bound 1 (i64_small (by decide)) (some ⟨b10, 0, none⟩) 2 [ltA, ltC] hS (by decide)).val (congrArg (fun z : Int × Int => Value.tuple #[.int .i64 z.1, .int .i64 z.2]) little_find)) rfl (by kernel_rfl) ?_
 rintro _ _ ⟨rfl, rfl⟩
 refine TriL.segK (k' := 8) (fr' := [(1, .int .i64 7), (2, .int .i64 0)]) (obl := []) [o_, o_, o_, o_, o_] [1, 2] (fun _ _ => by kernel_rfl) trivial ?_
 refine TriL.nil (by kernel_rfl) (TriQ.next (Tri.seq (Tri.region ?_)))
 refine TriL.segK (k' := 7) (fr' := [(0, .bool true)]) (obl := []) [o_, o_, o_, o_, o_, o_, o_] [0] (fun _ _ => by kernel_rfl) trivial ?_
 refine TriL.nil (by kernel_rfl) (TriQ.next (Tri.ret ?_))
 exact TriQ.retB (v := .bool true) (l := []) (obl := []) [] [0] hle0 (fun _ => by kernel_rfl) trivial rfl (by kernel_rfl) (⟨rfl, rfl⟩)
end Go.Proofs.Ytjpdcppdoonmdaa
end
/- part GU. PROVED HERE: what can be reached in a graph, as plain data, and two ways to find it. CONDITIONS: none. -/
section
namespace Go.Proofs.Ytjpdcppdoonmdaa
open Go.RowKit Go.Maps
inductive Reach (ns : List NodeM) (k : Nat) : Nat → Prop
  | refl : Reach ns k k
  | step {i : Nat} (j : Nat) : Reach ns k i → j < (nd ns i).ents.length → Reach ns k (tgt ns (ent ns i j).id)
theorem Reach.trans {ns : List NodeM} {k i j : Nat} (h : Reach ns k i) (g : Reach ns i j) : Reach ns k j := by
  induction g with
  | refl => exact h
  | step t _ ht ih => exact .step t ih ht
theorem Reach.lt {ns : List NodeM} {k i : Nat} (hok : GraphOk ns) (hk : k < ns.length) (h : Reach ns k i) : i < ns.length := by
  induction h with
  | refl => exact hk
  | step t _ ht ih => exact (atI_lt (hok.ents _ ih t ht).at_).1
noncomputable def underL (ns : List NodeM) (k : Nat) : List Int := by
  classical exact ((List.range ns.length).filter fun i => decide (Reach ns k i)).map fun i => (nd ns i).id
theorem underL_mem {ns : List NodeM} {k : Nat} {z : Int} : z ∈ underL ns k ↔ ∃ i, i < ns.length ∧ Reach ns k i ∧ (nd ns i).id = z := by
  classical
  unfold underL
  simp only [List.mem_map, List.mem_filter, List.mem_range, decide_eq_true_eq]
  exact ⟨fun ⟨i, ⟨h1, h2⟩, h3⟩ => ⟨i, h1, h2, h3⟩, fun ⟨i, h1, h2, h3⟩ => ⟨i, ⟨h1, h2⟩, h3⟩⟩
theorem range_sorted (n : Nat) : (List.range n).Pairwise (· < ·) := List.pairwise_lt_range
theorem underL_sorted {ns : List NodeM} {k : Nat} (hr : Rising ns) : (underL ns k).Pairwise (· < ·) := by
  classical
  unfold underL
  rw [List.pairwise_map]
  refine ((range_sorted ns.length).filter _).imp_of_mem (fun {a b} _ hb h => ?_)
  exact hr a b h (List.mem_range.1 (List.mem_filter.1 hb).1)
theorem sorted_ext : ∀ {l m : List Int}, l.Pairwise (· < ·) → m.Pairwise (· < ·) → (∀ z, z ∈ l ↔ z ∈ m) → l = m
  | [], [], _, _, _ => rfl
  | [], b :: m, _, _, h => by have := (h b).2 (List.mem_cons_self ..); cases this
  | a :: l, [], _, _, h => by have := (h a).1 (List.mem_cons_self ..); cases this
  | a :: l, b :: m, hl, hm, h => by
    have hl' := List.pairwise_cons.1 hl
    have hm' := List.pairwise_cons.1 hm
    have e : a = b := by
      rcases List.mem_cons.1 ((h a).1 (List.mem_cons_self ..)) with e | e
      · exact e
      · rcases List.mem_cons.1 ((h b).2 (List.mem_cons_self ..)) with e2 | e2
        · exact e2.symm
        · have := hm'.1 a e; have := hl'.1 b e2; omega
    subst e
    congr 1
    refine sorted_ext hl'.2 hm'.2 (fun z => ⟨fun hz => ?_, fun hz => ?_⟩)
    · rcases List.mem_cons.1 ((h z).1 (List.mem_cons_of_mem _ hz)) with e | e
      · have := hl'.1 z hz; omega
      · exact e
    · rcases List.mem_cons.1 ((h z).2 (List.mem_cons_of_mem _ hz)) with e | e
      · have := hm'.1 z hz; omega
      · exact e
/-! ### in whatever order, seen when taken -/
structure RInv (ns : List NodeM) (k : Nat) (seen work : List Nat) : Prop where
  start : k ∈ seen ∨ k ∈ work
  reach : ∀ i, i ∈ seen ∨ i ∈ work → Reach ns k i
  clos : ∀ i, i ∈ seen → ∀ j, j < (nd ns i).ents.length → tgt ns (ent ns i j).id ∈ seen ∨ tgt ns (ent ns i j).id ∈ work
theorem RInv.done {ns : List NodeM} {k : Nat} {seen : List Nat} (h : RInv ns k seen []) (i : Nat) : i ∈ seen ↔ Reach ns k i := by
  refine ⟨fun hi => h.reach i (.inl hi), fun hi => ?_⟩
  induction hi with
  | refl => exact h.start.resolve_right (fun h => by cases h)
  | step j _ hj ih => exact (h.clos _ ih j hj).resolve_right (fun h => by cases h)
def tgts (ns : List NodeM) (x j : Nat) : List Nat := (List.range j).map fun t => tgt ns (ent ns x t).id
theorem tgts_succ (ns : List NodeM) (x j : Nat) : tgts ns x (j + 1) = tgts ns x j ++ [tgt ns (ent ns x j).id] := by simp [tgts, List.range_succ]
theorem tgts_len (ns : List NodeM) (x j : Nat) : (tgts ns x j).length = j := by simp [tgts]
theorem RInv.old {ns : List NodeM} {k x : Nat} {seen work : List Nat} (h : RInv ns k seen (x :: work)) (hx : x ∈ seen) : RInv ns k seen work := by
  have aux : ∀ i, i ∈ seen ∨ i ∈ x :: work → i ∈ seen ∨ i ∈ work := fun i hi => by
    rcases hi with hi | hi
    · exact .inl hi
    · rcases List.mem_cons.1 hi with e | hi
      · subst e; exact .inl hx
      · exact .inr hi
  exact ⟨aux k h.start, fun i hi => h.reach i (hi.imp id (List.mem_cons_of_mem _)), fun i hi j hj => aux _ (h.clos i hi j hj)⟩
theorem RInv.new {ns : List NodeM} {k x : Nat} {seen work : List Nat} (h : RInv ns k seen (x :: work)) : RInv ns k (x :: seen) (work ++ tgts ns x (nd ns x).ents.length) := by
  have aux : ∀ i, i ∈ seen ∨ i ∈ x :: work → i ∈ x :: seen ∨ i ∈ work ++ tgts ns x (nd ns x).ents.length := fun i hi => by
    rcases hi with hi | hi
    · exact .inl (List.mem_cons_of_mem _ hi)
    · rcases List.mem_cons.1 hi with e | hi
      · subst e; exact .inl (List.mem_cons_self ..)
      · exact .inr (List.mem_append.2 (.inl hi))
  refine ⟨aux k h.start, fun i hi => ?_, fun i hi j hj => ?_⟩
  · rcases hi with hi | hi
    · rcases List.mem_cons.1 hi with e | hi
      · subst e; exact h.reach i (.inr (List.mem_cons_self ..))
      · exact h.reach i (.inl hi)
    · rcases List.mem_append.1 hi with hi | hi
      · exact h.reach i (.inr (List.mem_cons_of_mem _ hi))
      · obtain ⟨t, ht, rfl⟩ := List.mem_map.1 hi
        exact .step t (h.reach x (.inr (List.mem_cons_self ..))) (List.mem_range.1 ht)
  · rcases List.mem_cons.1 hi with e | hi
    · subst e
      exact .inr (List.mem_append.2 (.inr (List.mem_map.2 ⟨j, List.mem_range.2 hj, rfl⟩)))
    · exact aux _ (h.clos i hi j hj)
/-- the entries that were not looked at -/
def restE (ns : List NodeM) (seen : List Nat) : Nat → Nat
  | 0 => 0
  | n + 1 => restE ns seen n + (if n ∈ seen then 0 else (nd ns n).ents.length)
theorem restE_far {ns : List NodeM} {seen : List Nat} {x : Nat} : ∀ n, n ≤ x → restE ns (x :: seen) n = restE ns seen n
  | 0, _ => rfl
  | n + 1, h => by
    have : ¬ n = x := by omega
    rw [restE, restE, restE_far n (by omega)]
    simp [this]
theorem restE_new {ns : List NodeM} {seen : List Nat} {x : Nat} (hx : x ∉ seen) : ∀ n, x < n → restE ns (x :: seen) n + (nd ns x).ents.length = restE ns seen n
  | 0, h => absurd h (Nat.not_lt_zero _)
  | n + 1, h => by
    rw [restE, restE]
    by_cases e : n = x
    · subst e
      rw [restE_far n (Nat.le_refl _)]
      simp [hx]
    · have := restE_new (ns := ns) hx n (by omega)
      have h1 : (n ∈ x :: seen) = (n ∈ seen) := by simp [e]
      simp only [h1]
      omega
theorem restE_sum (ns : List NodeM) (seen : List Nat) : ∀ n, restE ns seen n ≤ entSum ns n
  | 0 => Nat.le_refl _
  | n + 1 => by
    have := restE_sum ns seen n
    rw [restE, entSum]
    split <;> omega
/-- the map of what was seen -/
def sf (ns : List NodeM) (seen : List Nat) (z : Int) : Option Value := if 0 ≤ atI ns z ∧ tgt ns z ∈ seen then some (.agg #[]) else none
theorem atI_self' {ns : List NodeM} {k : Nat} (hr : Rising ns) (hk : k < ns.length) : atI ns (nd ns k).id = (k : Int) ∧ tgt ns (nd ns k).id = k := by
  have h := atI_some hr hk (rfl : (nd ns k).id = (nd ns k).id)
  refine ⟨h, ?_⟩
  unfold tgt
  rw [h]
  rfl
theorem sf_zero {ns : List NodeM} : mf (sf ns []) = fun _ => none := by
  rw [← mf_none]
  congr 1
  funext z
  exact if_neg (fun e => by cases e.2)
theorem sf_in {ns : List NodeM} {seen : List Nat} {x : Nat} (hr : Rising ns) (hx : x < ns.length) (h : x ∈ seen) : mf (sf ns seen) (.int .i64 (nd ns x).id) = some (.agg #[]) := by
  obtain ⟨h1, h2⟩ := atI_self' hr hx
  exact if_pos ⟨by omega, by rw [h2]; exact h⟩
theorem sf_out {ns : List NodeM} {seen : List Nat} {x : Nat} (hr : Rising ns) (hx : x < ns.length) (h : x ∉ seen) : mf (sf ns seen) (.int .i64 (nd ns x).id) = none := by
  obtain ⟨h1, h2⟩ := atI_self' hr hx
  exact if_neg (fun e => h (by rw [← h2]; exact e.2))
theorem sf_upd {ns : List NodeM} {seen : List Nat} {x : Nat} (hr : Rising ns) (hx : x < ns.length) : upd (mf (sf ns seen)) (.int .i64 (nd ns x).id) (some (.agg #[])) = mf (sf ns (x :: seen)) := by
  obtain ⟨h1, h2⟩ := atI_self' hr hx
  rw [mf_upd]
  congr 1
  funext z
  unfold sf
  by_cases e : z = (nd ns x).id
  · subst e
    rw [if_pos rfl, if_pos ⟨by omega, by rw [h2]; exact List.mem_cons_self ..⟩]
  · rw [if_neg e]
    by_cases e2 : 0 ≤ atI ns z
    · have e3 : ¬ tgt ns z = x := fun e3 => e (by rw [← (atI_lt e2).2.1, e3])
      simp [e2, e3]
    · rw [if_neg (fun h => e2 h.1), if_neg (fun h => e2 h.1)]
theorem sf_cnt {ns : List NodeM} {seen : List Nat} {x : Nat} (hr : Rising ns) (hx : x < ns.length) (h : x ∉ seen) : (if ((mf (sf ns seen)) (.int .i64 (nd ns x).id)).isSome then seen.length else seen.length + 1) = (x :: seen).length := by
  rw [sf_out hr hx h]
  rfl
theorem under_keys {ns : List NodeM} {k : Nat} {seen : List Nat} {ss : List Int} (hok : GraphOk ns) (h : RInv ns k seen []) (hs : KeysOf (mf (sf ns seen)) ss) : ss = underL ns k := by
  refine sorted_ext hs.sorted (underL_sorted hok.rise) (fun z => ?_)
  rw [hs.mem, underL_mem]
  show (sf ns seen z).isSome = true ↔ _
  unfold sf
  refine ⟨fun hz => ?_, fun ⟨i, h1, h2, h3⟩ => ?_⟩
  · split at hz
    · rename_i h1
      obtain ⟨h2, h3, _⟩ := atI_lt h1.1
      exact ⟨tgt ns z, h2, (h.done _).1 h1.2, h3⟩
    · cases hz
  · obtain ⟨e1, e2⟩ := atI_self' hok.rise h1
    rw [h3] at e1 e2
    rw [if_pos ⟨by omega, by rw [e2]; exact (h.done i).2 h2⟩]
    rfl
def ptrsV (A : Option Addr) (l : List Nat) : List Value := l.map fun k => .pointer (some ⟨blkOf A, offOf A + k * 10, none⟩)
theorem ptrsV_len (A : Option Addr) (l : List Nat) : (ptrsV A l).length = l.length := by simp [ptrsV]
theorem ptrs_snoc (A : Option Addr) (l : List Nat) (k : Nat) : ptrsV A (l ++ [k]) = ptrsV A l ++ [.pointer (some ⟨blkOf A, offOf A + k * 10, none⟩)] := by simp [ptrsV]
theorem len_snoc {α : Type} (l : List α) (x : α) : (l ++ [x]).length = l.length + 1 := by simp
/-! ### marked when laid -/
def marksV (n : Nat) (mk : List Nat) : List Value := (List.range n).map fun i => .bool (decide (i ∈ mk))
theorem marksV_len (n : Nat) (mk : List Nat) : (marksV n mk).length = n := by simp [marksV]
theorem marksV_get {n : Nat} {mk : List Nat} {i : Nat} (hi : i < n) : (marksV n mk)[i]? = some (.bool (decide (i ∈ mk))) := by simp [marksV, hi]
theorem marksV_nil (n : Nat) : List.replicate n (Value.bool false) = marksV n [] := by
  apply List.ext_getElem?
  intro j
  by_cases h : j < n
  · rw [marksV_get h, List.getElem?_replicate, if_pos h]; rfl
  · rw [List.getElem?_eq_none (by simp; omega), List.getElem?_eq_none (by rw [marksV_len]; omega)]
theorem marksV_set {n : Nat} {mk : List Nat} {i : Nat} : (marksV n mk).set i (.bool true) = marksV n (i :: mk) := by
  apply List.ext_getElem?
  intro j
  by_cases h : j < n
  · rw [marksV_get h, List.getElem?_set]
    by_cases e : i = j
    · subst e
      rw [if_pos rfl, if_pos (by rw [marksV_len]; exact h)]
      simp
    · rw [if_neg e, marksV_get h]
      have : ¬ j = i := fun h => e h.symm
      simp [this]
  · rw [List.getElem?_eq_none (by rw [List.length_set, marksV_len]; omega), List.getElem?_eq_none (by rw [marksV_len]; omega)]
/-- 'now': entries below j of the node x that was taken are marked already -/
structure DInv (ns : List NodeM) (k : Nat) (mk work : List Nat) (now : Option (Nat × Nat)) : Prop where
  start : k ∈ mk
  reach : ∀ i, i ∈ mk → Reach ns k i
  lies : ∀ i, i ∈ work → i ∈ mk
  nodup : mk.Nodup
  clos : ∀ i, i ∈ mk → i ∈ work ∨ (∃ j, now = some (i, j) ∧ ∀ t, t < j → tgt ns (ent ns i t).id ∈ mk) ∨ ∀ t, t < (nd ns i).ents.length → tgt ns (ent ns i t).id ∈ mk
theorem DInv.done {ns : List NodeM} {k : Nat} {mk : List Nat} (h : DInv ns k mk [] none) (i : Nat) : i ∈ mk ↔ Reach ns k i := by
  refine ⟨h.reach i, fun hi => ?_⟩
  induction hi with
  | refl => exact h.start
  | step j _ hj ih =>
    rcases h.clos _ ih with h1 | ⟨_, h1, _⟩ | h1
    · cases h1
    · cases h1
    · exact h1 j hj
theorem DInv.pop {ns : List NodeM} {k x : Nat} {mk work : List Nat} (h : DInv ns k mk (x :: work) none) : DInv ns k mk work (some (x, 0)) := by
  refine ⟨h.start, h.reach, fun i hi => h.lies i (List.mem_cons_of_mem _ hi), h.nodup, fun i hi => ?_⟩
  rcases h.clos i hi with h1 | ⟨_, h1, _⟩ | h1
  · rcases List.mem_cons.1 h1 with e | h1
    · subst e; exact .inr (.inl ⟨0, rfl, fun t ht => absurd ht (Nat.not_lt_zero t)⟩)
    · exact .inl h1
  · cases h1
  · exact .inr (.inr h1)
theorem DInv.old {ns : List NodeM} {k x j : Nat} {mk work : List Nat} (h : DInv ns k mk work (some (x, j))) (ht : tgt ns (ent ns x j).id ∈ mk) : DInv ns k mk work (some (x, j + 1)) := by
  refine ⟨h.start, h.reach, h.lies, h.nodup, fun i hi => ?_⟩
  rcases h.clos i hi with h1 | ⟨j', h1, h2⟩ | h1
  · exact .inl h1
  · cases h1
    refine .inr (.inl ⟨j + 1, rfl, fun t htj => ?_⟩)
    rcases Nat.lt_succ_iff_lt_or_eq.1 htj with e | e
    · exact h2 t e
    · rw [e]; exact ht
  · exact .inr (.inr h1)
theorem DInv.new {ns : List NodeM} {k x j : Nat} {mk work : List Nat} (h : DInv ns k mk work (some (x, j))) (hx : x ∈ mk) (hj : j < (nd ns x).ents.length) (ht : tgt ns (ent ns x j).id ∉ mk) :
    DInv ns k (tgt ns (ent ns x j).id :: mk) (tgt ns (ent ns x j).id :: work) (some (x, j + 1)) := by
  refine ⟨List.mem_cons_of_mem _ h.start, fun i hi => ?_, fun i hi => ?_, List.nodup_cons.2 ⟨ht, h.nodup⟩, fun i hi => ?_⟩
  · rcases List.mem_cons.1 hi with e | hi
    · subst e; exact .step j (h.reach x hx) hj
    · exact h.reach i hi
  · rcases List.mem_cons.1 hi with e | hi
    · subst e; exact List.mem_cons_self ..
    · exact List.mem_cons_of_mem _ (h.lies i hi)
  · rcases List.mem_cons.1 hi with e | hi
    · subst e; exact .inl (List.mem_cons_self ..)
    · rcases h.clos i hi with h1 | ⟨j', h1, h2⟩ | h1
      · exact .inl (List.mem_cons_of_mem _ h1)
      · cases h1
        refine .inr (.inl ⟨j + 1, rfl, fun t htj => ?_⟩)
        rcases Nat.lt_succ_iff_lt_or_eq.1 htj with e | e
        · exact List.mem_cons_of_mem _ (h2 t e)
        · rw [e]; exact List.mem_cons_self ..
      · exact .inr (.inr fun t ht => List.mem_cons_of_mem _ (h1 t ht))
theorem DInv.end_ {ns : List NodeM} {k x j : Nat} {mk work : List Nat} (h : DInv ns k mk work (some (x, j))) (hj : (nd ns x).ents.length ≤ j) : DInv ns k mk work none := by
  refine ⟨h.start, h.reach, h.lies, h.nodup, fun i hi => ?_⟩
  rcases h.clos i hi with h1 | ⟨j', h1, h2⟩ | h1
  · exact .inl h1
  · cases h1
    exact .inr (.inr fun t ht => h2 t (by omega))
  · exact .inr (.inr h1)
theorem DInv.few {ns : List NodeM} {k : Nat} {mk work : List Nat} {now : Option (Nat × Nat)} (hok : GraphOk ns) (hk : k < ns.length) (h : DInv ns k mk work now) : mk.length ≤ ns.length :=
  nodup_lt ns.length mk h.nodup (fun x hx => (h.reach x hx).lt hok hk)
/-- the numbers of the first m nodes that are marked -/
def outI (ns : List NodeM) (mk : List Nat) : Nat → List Int
  | 0 => []
  | m + 1 => outI ns mk m ++ (if m ∈ mk then [(nd ns m).id] else [])
theorem outI_hit {ns : List NodeM} {mk : List Nat} {m : Nat} (h : m ∈ mk) : outI ns mk m ++ [(nd ns m).id] = outI ns mk (m + 1) := by rw [outI, if_pos h]
theorem outI_miss {ns : List NodeM} {mk : List Nat} {m : Nat} (h : m ∉ mk) : outI ns mk m = outI ns mk (m + 1) := by rw [outI, if_neg h, List.append_nil]
theorem outI_len (ns : List NodeM) (mk : List Nat) : ∀ m, (outI ns mk m).length ≤ m
  | 0 => Nat.le_refl _
  | m + 1 => by
    have := outI_len ns mk m
    rw [outI, List.length_append]
    split <;> simp <;> omega
theorem outI_all {ns : List NodeM} {k : Nat} {mk : List Nat} (h : DInv ns k mk [] none) : outI ns mk ns.length = underL ns k := by
  classical
  have aux : ∀ m, outI ns mk m = ((List.range m).filter fun i => decide (Reach ns k i)).map fun i => (nd ns i).id := by
    intro m
    induction m with
    | zero => rfl
    | succ m ih =>
      rw [outI, ih, List.range_succ, List.filter_append, List.map_append]
      congr 1
      by_cases hm : m ∈ mk
      · have := (h.done m).1 hm
        simp [hm, this]
      · have : ¬ Reach ns k m := fun e => hm ((h.done m).2 e)
        simp [hm, this]
  rw [aux]
  rfl
noncomputable def underG (ns : List NodeM) (root : Int) : List Int × Int := if beginC ns root = 0 then (underL ns (tgt ns root), 0) else ([], beginC ns root)
theorem underG_ok {ns : List NodeM} {root : Int} (h : beginC ns root = 0) : underG ns root = (underL ns (tgt ns root), 0) := if_pos h
theorem underG_bad {ns : List NodeM} {root : Int} (h : ¬ beginC ns root = 0) : underG ns root = ([], beginC ns root) := if_neg h
end Go.Proofs.Ytjpdcppdoonmdaa
end
