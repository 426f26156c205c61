/-
  PROVED HERE: a graph is read
  CONDITIONS: as the theorems say. Printed by a program of this repo (wip/v).
-/
import Derived.Test.YtjpdcppdoonmdaaGR
namespace Go.Proofs.Ytjpdcppdoonmdaa
open Go.RowKit
attribute [local irreducible] TriL TriLQ Tri TriQ
set_option maxRecDepth 100000 in
set_option maxHeartbeats 4000000 in
theorem sp_read {β : Bs} (A : Option Addr) (c : Nat) (ns : List NodeM) (L : Lay) (hG : GraphAt β A ns L) (hl : ns.length ≤ 1048576) (hd : ∀ i, i < ns.length → (nd ns i).data.length ≤ 1048576 ∧ (nd ns i).ents.length ≤ 1048576) (hwf : ∀ i, i < ns.length → ∀ j, j < (nd ns i).ents.length → -9223372036854775808 ≤ (ent ns i j).id ∧ (ent ns i j).id ≤ 9223372036854775807) (hnm : ∀ i, i < ns.length → ∀ j, j < (nd ns i).ents.length → (ent ns i j).name.size ≤ 1048576) :
    Spec Try.prog β 37 #[.agg #[.slice A ns.length c]] [] (fun v l => (∃ mb, v = .tuple #[.map (some mb), .bool true] ∧ GraphOk ns ∧ l = [.abs (MapA Try.prog 3 mb (mf (bf A ns ns.length)) ns.length)]) ∨ (∃ m, v = .tuple #[m, .bool false] ∧ ¬ GraphOk ns ∧ l = [])) := by
  refine Spec.enter Try.func37 rfl Try.ntmps37 (Nat.le_of_ble_eq_true rfl) (fun R => ?_)
  refine Tri.seq ?_
  refine Tri.region ?_
  refine TriL.segN (k' := 3) (fr' := fun b1 => [(1, .pointer (some ⟨b1, 0, none⟩))]) (hps' := fun b1 => [.abs R, .blk b1 [.slice A (ns.length) (c)] 24]) (obl := fun b1 => []) [o_, o_, o_] [1] [0, 1] (fun _ _ => by kernel_rfl) (fun b1 => trivial) (fun b1 => ?_)
  refine TriL.nil (by kernel_rfl) ?_
  refine TriQ.next ?_
  refine Tri.seq ?_
  refine Tri.seq ?_
  refine Tri.region ?_
  refine TriL.segK (k' := 4) (fr' := [(1, .pointer (some ⟨b1, 0, none⟩)), (14, .bool (decide ((((ns.length : Nat) : Int) : Int) > (4096 : Int))))]) (obl := [b1 = b1]) [o_, ⟨[.at 1], none, none, none, none⟩, o_, o_] [1, 14] (fun _ _ => by kernel_rfl) ⟨rfl, trivial⟩ ?_
  refine TriL.nil (by kernel_rfl) ?_
  refine TriQ.next ?_
  refine Tri.condP (p := (((ns.length : Nat) : Int) : Int) > (4096 : Int)) (fun _ => by kernel_rfl) (fun h14 => ?_) (fun h14 => ?_)
  · refine Tri.seq ?_
    refine Tri.region ?_
    refine TriL.segK (k' := 2) (fr' := [(2, .map none), (3, .bool false)]) (obl := []) [o_, o_] [2, 3] (fun _ _ => by kernel_rfl) trivial ?_
    refine TriL.nil (by kernel_rfl) ?_
    refine TriQ.next ?_
    refine Tri.ret ?_
    refine TriQ.passRet ?_
    exact TriQ.ret (v := .tuple #[.map none, .bool false]) (l := []) (obl := []) [] [0] (fun _ => by kernel_rfl) trivial rfl (by kernel_rfl) (.inr ⟨_, rfl, fun h => by have := h.len; omega, rfl⟩)
  · refine Tri.skip ?_
    refine TriQ.next ?_
    refine Tri.seq ?_
    refine Tri.region ?_
    refine TriL.mapMake (d := (some 15)) (t := 66) (fun _ => by kernel_rfl) Try.prog rfl 3 (fun m2 => ?_)
    refine TriL.segK (k' := 2) (fr' := [(1, .pointer (some ⟨b1, 0, none⟩)), (4, .map (some m2))]) (obl := []) [o_] [1, 4] (fun _ _ => by kernel_rfl) trivial ?_
    refine TriL.nil (by kernel_rfl) ?_
    refine TriQ.next ?_
    refine Tri.seq ?_
    refine Tri.region ?_
    refine TriL.partEq 2 (p := .abs (MapA Try.prog 3 m2 (fun _ => none) 0)) (p' := .abs (MapA Try.prog 3 m2 (mf (bf A ns 0)) 0)) (by kernel_rfl) (by rw [bf_zero]) ?_
    refine TriL.segK (k' := 2) (fr' := [(1, .pointer (some ⟨b1, 0, none⟩)), (4, .map (some m2)), (5, .int .i64 0), (6, .int .i64 0)]) (obl := []) [o_, o_] [1, 4, 5, 6] (fun _ _ => by kernel_rfl) trivial ?_
    refine TriL.nil (by kernel_rfl) ?_
    refine TriQ.next ?_
    refine Tri.seq ?_
    refine Tri.seq ?_
    refine Tri.region ?_
    refine TriL.segK (k' := 4) (fr' := [(1, .pointer (some ⟨b1, 0, none⟩)), (4, .map (some m2)), (5, .int .i64 0), (6, .int .i64 0), (18, .int .i64 (((ns.length : Nat) : Int))), (19, .int .i64 0)]) (obl := [b1 = b1]) [o_, ⟨[.at 1], none, none, none, none⟩, o_, o_] [1, 4, 5, 6, 18, 19] (fun _ _ => by kernel_rfl) ⟨rfl, trivial⟩ ?_
    refine TriL.nil (by kernel_rfl) ?_
    refine TriQ.next ?_
    refine Tri.block ?_
    refine Tri.loop (ι := Nat) (fun (k : Nat) => (k ≤ ns.length) ∧ (Upto ns k) ∧ (entSum ns k ≤ k * 1048576)) (fun (k : Nat) => ns.length - k) (fun (k : Nat) => [(1, .pointer (some ⟨b1, 0, none⟩)), (4, .map (some m2)), (5, .int .i64 (lastId ns k)), (6, .int .i64 (((entSum ns k : Nat) : Int))), (18, .int .i64 (((ns.length : Nat) : Int))), (19, .int .i64 (((k : Nat) : Int)))]) (fun (k : Nat) => [.blk b1 [.slice A (ns.length) (c)] 24, .abs (MapA Try.prog 3 m2 (mf (bf A ns k)) k), .abs R]) 0 (idx := [1, 4, 5, 6, 18, 19]) (pk := [1, 2, 0]) (show (0 ≤ ns.length) ∧ (Upto ns 0) ∧ (entSum ns 0 ≤ 0 * 1048576) from ⟨Nat.zero_le _, Upto.zero ns, Nat.zero_le _⟩) (fun _ => by kernel_rfl) rfl (by kernel_rfl) ?_
    rintro k ⟨hk, hu, hs⟩
    show Tri _ _ _ _ [(1, .pointer (some ⟨b1, 0, none⟩)), (4, .map (some m2)), (5, .int .i64 (lastId ns k)), (6, .int .i64 (((entSum ns k : Nat) : Int))), (18, .int .i64 (((ns.length : Nat) : Int))), (19, .int .i64 (((k : Nat) : Int)))] [.blk b1 [.slice A (ns.length) (c)] 24, .abs (MapA Try.prog 3 m2 (mf (bf A ns k)) k), .abs R] _
    have hk4 := (hd k)
    refine Tri.seq ?_
    refine Tri.region ?_
    refine TriL.segK (k' := 1) (fr' := [(1, .pointer (some ⟨b1, 0, none⟩)), (4, .map (some m2)), (5, .int .i64 (lastId ns k)), (6, .int .i64 (((entSum ns k : Nat) : Int))), (18, .int .i64 (((ns.length : Nat) : Int))), (19, .int .i64 (((k : Nat) : Int))), (20, .bool (decide ((((k : Nat) : Int) : Int) < (((ns.length : Nat) : Int) : Int))))]) (obl := []) [o_] [1, 4, 5, 6, 18, 19, 20] (fun _ _ => by kernel_rfl) trivial ?_
    refine TriL.nil (by kernel_rfl) ?_
    refine TriQ.next ?_
    refine Tri.seq ?_
    refine Tri.condP (p := (((k : Nat) : Int) : Int) < (((ns.length : Nat) : Int) : Int)) (fun _ => by kernel_rfl) (fun h20 => ?_) (fun h20 => ?_)
    · refine Tri.skip ?_
      refine TriQ.next ?_
      refine Tri.seq ?_
      refine Tri.block ?_
      refine Tri.seq ?_
      refine Tri.region ?_
      refine TriL.segK (k' := 2) (fr' := [(1, .pointer (some ⟨b1, 0, none⟩)), (4, .map (some m2)), (5, .int .i64 (lastId ns k)), (6, .int .i64 (((entSum ns k : Nat) : Int))), (7, .int .i64 (((k : Nat) : Int))), (18, .int .i64 (((ns.length : Nat) : Int))), (19, .int .i64 (((k : Nat) : Int)))]) (obl := []) [o_, o_] [1, 4, 5, 6, 7, 18, 19] (fun _ _ => by kernel_rfl) trivial ?_
      refine TriL.nil (by kernel_rfl) ?_
      refine TriQ.next ?_
      refine Tri.seq ?_
      refine Tri.region ?_
      refine TriL.segK (k' := 5) (fr' := [(1, .pointer (some ⟨b1, 0, none⟩)), (4, .map (some m2)), (5, .int .i64 (lastId ns k)), (6, .int .i64 (((entSum ns k : Nat) : Int))), (8, .pointer (some ⟨(blkOf A), offOf A + k * 10, none⟩)), (18, .int .i64 (((ns.length : Nat) : Int))), (19, .int .i64 (((k : Nat) : Int)))]) (obl := [((k : Nat) : Int) = ((k : Nat) : Int), k < ns.length, (⟨(blkOf A), offOf A, none⟩ : Addr).spot = none, (A : Option Addr) = some ⟨(blkOf A), offOf A, none⟩, b1 = b1]) [o_, ⟨[.at 0], none, none, none, none⟩, o_, ⟨[], some k, none, some ⟨(blkOf A), offOf A, none⟩, none⟩, o_] [1, 4, 5, 6, 8, 18, 19] (fun _ _ => by kernel_rfl) ⟨rfl, by omega, rfl, GraphAt.hd hG (i := k) (by omega), rfl, trivial⟩ ?_
      refine TriL.nil (by kernel_rfl) ?_
      refine TriQ.next ?_
      refine Tri.seq ?_
      refine Tri.seq ?_
      refine Tri.region ?_
      refine TriL.segK (k' := 7) (fr' := [(1, .pointer (some ⟨b1, 0, none⟩)), (4, .map (some m2)), (6, .int .i64 (((entSum ns k : Nat) : Int))), (8, .pointer (some ⟨(blkOf A), offOf A + k * 10, none⟩)), (18, .int .i64 (((ns.length : Nat) : Int))), (19, .int .i64 (((k : Nat) : Int))), (32, .bool (decide (((nd ns k).id : Int) ≤ (lastId ns k : Int))))]) (obl := [(Rd β ⟨(blkOf A), offOf A + k * 10, none⟩ (.int .i64 ((nd ns k).id)))]) [o_, o_, o_, ⟨[.old (.int .i64 ((nd ns k).id))], none, none, none, none⟩, o_, o_, o_] [1, 4, 6, 8, 18, 19, 32] (fun _ _ => by kernel_rfl) ⟨GraphAt.rd hG (i := k) (by omega) (j := 0) rfl, trivial⟩ ?_
      refine TriL.slotP 32 (((nd ns k).id : Int) ≤ (lastId ns k : Int)) (fun _ => by kernel_rfl) (fun h32 => ?_) (fun h32 => ?_)
      · refine TriL.segK (k' := 18) (fr' := [(1, .pointer (some ⟨b1, 0, none⟩)), (4, .map (some m2)), (6, .int .i64 (((entSum ns k : Nat) : Int))), (8, .pointer (some ⟨(blkOf A), offOf A + k * 10, none⟩)), (18, .int .i64 (((ns.length : Nat) : Int))), (19, .int .i64 (((k : Nat) : Int))), (43, .bool true)]) (obl := []) [o_, o_, o_, o_, o_, o_, o_, o_, o_, o_, o_] [1, 4, 6, 8, 18, 19, 43] (fun _ _ => by kernel_rfl) trivial ?_
        refine TriL.nil (by kernel_rfl) ?_
        refine TriQ.next ?_
        refine Tri.condT (fun _ => by kernel_rfl) ?_
        refine Tri.seq ?_
        refine Tri.region ?_
        refine TriL.segK (k' := 2) (fr' := [(2, .map none), (3, .bool false)]) (obl := []) [o_, o_] [2, 3] (fun _ _ => by kernel_rfl) trivial ?_
        refine TriL.nil (by kernel_rfl) ?_
        refine TriQ.next ?_
        refine Tri.ret ?_
        refine TriQ.passRet ?_
        refine TriQ.blockRet ?_
        refine TriQ.passRet ?_
        refine TriQ.passRet ?_
        refine TriQ.blockRet ?_
        refine TriQ.passRet ?_
        exact TriQ.ret (v := .tuple #[.map none, .bool false]) (l := []) (obl := []) [] [2] (fun _ => by kernel_rfl) trivial rfl (by kernel_rfl) (.inr ⟨_, rfl, fun h => by have := h.last (show k < ns.length by omega); omega, rfl⟩)
      · refine TriL.segK (k' := 14) (fr' := [(1, .pointer (some ⟨b1, 0, none⟩)), (4, .map (some m2)), (6, .int .i64 (((entSum ns k : Nat) : Int))), (8, .pointer (some ⟨(blkOf A), offOf A + k * 10, none⟩)), (18, .int .i64 (((ns.length : Nat) : Int))), (19, .int .i64 (((k : Nat) : Int))), (39, .bool (decide (((nd ns k).id : Int) > (1099511627776 : Int))))]) (obl := [(Rd β ⟨(blkOf A), offOf A + k * 10, none⟩ (.int .i64 ((nd ns k).id)))]) [o_, o_, o_, ⟨[.old (.int .i64 ((nd ns k).id))], none, none, none, none⟩, o_, o_, o_] [1, 4, 6, 8, 18, 19, 39] (fun _ _ => by kernel_rfl) ⟨GraphAt.rd hG (i := k) (by omega) (j := 0) rfl, trivial⟩ ?_
        refine TriL.slotP 39 (((nd ns k).id : Int) > (1099511627776 : Int)) (fun _ => by kernel_rfl) (fun h39 => ?_) (fun h39 => ?_)
        · refine TriL.segK (k' := 18) (fr' := [(1, .pointer (some ⟨b1, 0, none⟩)), (4, .map (some m2)), (6, .int .i64 (((entSum ns k : Nat) : Int))), (8, .pointer (some ⟨(blkOf A), offOf A + k * 10, none⟩)), (18, .int .i64 (((ns.length : Nat) : Int))), (19, .int .i64 (((k : Nat) : Int))), (43, .bool true)]) (obl := []) [o_, o_, o_, o_] [1, 4, 6, 8, 18, 19, 43] (fun _ _ => by kernel_rfl) trivial ?_
          refine TriL.nil (by kernel_rfl) ?_
          refine TriQ.next ?_
          refine Tri.condT (fun _ => by kernel_rfl) ?_
          refine Tri.seq ?_
          refine Tri.region ?_
          refine TriL.segK (k' := 2) (fr' := [(2, .map none), (3, .bool false)]) (obl := []) [o_, o_] [2, 3] (fun _ _ => by kernel_rfl) trivial ?_
          refine TriL.nil (by kernel_rfl) ?_
          refine TriQ.next ?_
          refine Tri.ret ?_
          refine TriQ.passRet ?_
          refine TriQ.blockRet ?_
          refine TriQ.passRet ?_
          refine TriQ.passRet ?_
          refine TriQ.blockRet ?_
          refine TriQ.passRet ?_
          exact TriQ.ret (v := .tuple #[.map none, .bool false]) (l := []) (obl := []) [] [2] (fun _ => by kernel_rfl) trivial rfl (by kernel_rfl) (.inr ⟨_, rfl, fun h => by have := (h.ids k (by omega)).2; omega, rfl⟩)
        · refine TriL.segK (k' := 15) (fr' := [(1, .pointer (some ⟨b1, 0, none⟩)), (4, .map (some m2)), (6, .int .i64 (((entSum ns k : Nat) : Int))), (8, .pointer (some ⟨(blkOf A), offOf A + k * 10, none⟩)), (18, .int .i64 (((ns.length : Nat) : Int))), (19, .int .i64 (((k : Nat) : Int))), (39, .bool false), (40, .pointer (some ⟨(blkOf A), offOf A + k * 10, none⟩))]) (obl := []) [o_] [1, 4, 6, 8, 18, 19, 39, 40] (fun _ _ => by kernel_rfl) trivial ?_
          refine TriL.call (f := 58) (args := #[.pointer (some ⟨(blkOf A), offOf A + k * 10, none⟩)]) (d := (some 41)) (pre := []) (R := [.blk b1 [.slice A (ns.length) (c)] 24, .abs (MapA Try.prog 3 m2 (mf (bf A ns k)) k), .abs R]) (pk := [0, 1, 2]) (fun _ => by kernel_rfl) (sp_sound A ns L hG k (by omega)) rfl (by kernel_rfl) ?_
          rintro _ _ ⟨rfl, rfl⟩
          refine TriL.segK (k' := 18) (fr' := [(1, .pointer (some ⟨b1, 0, none⟩)), (4, .map (some m2)), (6, .int .i64 (((entSum ns k : Nat) : Int))), (8, .pointer (some ⟨(blkOf A), offOf A + k * 10, none⟩)), (18, .int .i64 (((ns.length : Nat) : Int))), (19, .int .i64 (((k : Nat) : Int))), (43, .bool (!(decide (NodeOk (nd ns k)))))]) (obl := []) [o_, o_] [1, 4, 6, 8, 18, 19, 43] (fun _ _ => by kernel_rfl) trivial ?_
          refine TriL.nil (by kernel_rfl) ?_
          refine TriQ.next ?_
          refine Tri.condN (p := NodeOk (nd ns k)) (fun _ => by kernel_rfl) (fun h43 => ?_) (fun h43 => ?_)
          · refine Tri.seq ?_
            refine Tri.region ?_
            refine TriL.segK (k' := 2) (fr' := [(2, .map none), (3, .bool false)]) (obl := []) [o_, o_] [2, 3] (fun _ _ => by kernel_rfl) trivial ?_
            refine TriL.nil (by kernel_rfl) ?_
            refine TriQ.next ?_
            refine Tri.ret ?_
            refine TriQ.passRet ?_
            refine TriQ.blockRet ?_
            refine TriQ.passRet ?_
            refine TriQ.passRet ?_
            refine TriQ.blockRet ?_
            refine TriQ.passRet ?_
            exact TriQ.ret (v := .tuple #[.map none, .bool false]) (l := []) (obl := []) [] [2] (fun _ => by kernel_rfl) trivial rfl (by kernel_rfl) (.inr ⟨_, rfl, fun h => h43 (h.node k (by omega)), rfl⟩)
          · refine Tri.skip ?_
            refine TriQ.next ?_
            refine Tri.seq ?_
            refine Tri.region ?_
            refine TriL.segK (k' := 5) (fr' := [(1, .pointer (some ⟨b1, 0, none⟩)), (4, .map (some m2)), (5, .int .i64 ((nd ns k).id)), (6, .int .i64 (((entSum ns k : Nat) : Int))), (8, .pointer (some ⟨(blkOf A), offOf A + k * 10, none⟩)), (18, .int .i64 (((ns.length : Nat) : Int))), (19, .int .i64 (((k : Nat) : Int)))]) (obl := [(Rd β ⟨(blkOf A), offOf A + k * 10, none⟩ (.int .i64 ((nd ns k).id)))]) [o_, o_, o_, ⟨[.old (.int .i64 ((nd ns k).id))], none, none, none, none⟩, o_] [1, 4, 5, 6, 8, 18, 19] (fun _ _ => by kernel_rfl) ⟨GraphAt.rd hG (i := k) (by omega) (j := 0) rfl, trivial⟩ ?_
            refine TriL.nil (by kernel_rfl) ?_
            refine TriQ.next ?_
            refine Tri.seq ?_
            refine Tri.region ?_
            refine TriL.segK (k' := 6) (fr' := [(1, .pointer (some ⟨b1, 0, none⟩)), (4, .map (some m2)), (5, .int .i64 ((nd ns k).id)), (6, .int .i64 (((entSum ns k : Nat) : Int))), (8, .pointer (some ⟨(blkOf A), offOf A + k * 10, none⟩)), (18, .int .i64 (((ns.length : Nat) : Int))), (19, .int .i64 (((k : Nat) : Int))), (48, .map (some m2)), (52, .int .i64 ((nd ns k).id)), (53, .pointer (some ⟨(blkOf A), offOf A + k * 10, none⟩))]) (obl := [(Rd β ⟨(blkOf A), offOf A + k * 10, none⟩ (.int .i64 ((nd ns k).id)))]) [o_, o_, o_, o_, ⟨[.old (.int .i64 ((nd ns k).id))], none, none, none, none⟩, o_] [1, 4, 5, 6, 8, 18, 19, 48, 52, 53] (fun _ _ => by kernel_rfl) ⟨GraphAt.rd hG (i := k) (by omega) (j := 0) rfl, trivial⟩ ?_
            refine TriL.mapSet 1 (d := none) (t := 66) (K := 3) (E := 75) (b := m2) (n := k) (f := (mf (bf A ns k))) (x := (.tmp 48)) (ix := (.tmp 52)) (y := (.tmp 53)) (key := .int .i64 ((nd ns k).id)) (u := .pointer (some ⟨(blkOf A), offOf A + k * 10, none⟩)) (kl := (.int .i64 (nd ns k).id)) (n' := k + 1) (f' := (mf (bf A ns (k + 1)))) (fun _ => by kernel_rfl) (by kernel_rfl) (fun _ => by kernel_rfl) (fun _ => by kernel_rfl) (fun _ => by kernel_rfl) lawI Try.underlying66 (by unfold maxLen; omega) (keyI (by have := hu.last; omega) (by omega)) (bf_fresh (hu.below (by omega)) (by omega)) (bf_upd (hu.below (by omega)) (by omega)) ?_
            refine TriL.nil (by kernel_rfl) ?_
            refine TriQ.next ?_
            refine Tri.region ?_
            refine TriL.segK (k' := 8) (fr' := [(1, .pointer (some ⟨b1, 0, none⟩)), (4, .map (some m2)), (5, .int .i64 ((nd ns k).id)), (6, .int .i64 ((((entSum ns k) + ((nd ns k).ents.length) : Nat) : Int))), (18, .int .i64 (((ns.length : Nat) : Int))), (19, .int .i64 (((k : Nat) : Int)))]) (obl := [(Value.int .i64 (IntKind.wrap .i64 (((entSum ns k : Nat) : Int) + (((nd ns k).ents.length : Nat) : Int)))) = (.int .i64 ((((entSum ns k) + ((nd ns k).ents.length) : Nat) : Int))), (Rd β ⟨(blkOf A), offOf A + k * 10 + 9, none⟩ (.slice (L.eA k) ((nd ns k).ents.length) ((L.eC k))))]) [o_, o_, o_, o_, ⟨[.old (.slice (L.eA k) ((nd ns k).ents.length) ((L.eC k)))], none, none, none, none⟩, o_, ⟨[], none, none, none, some (.int .i64 ((((entSum ns k) + ((nd ns k).ents.length) : Nat) : Int)))⟩, o_] [1, 4, 5, 6, 18, 19] (fun _ _ => by kernel_rfl) ⟨wrapEq (by omega) (by omega) (by omega), GraphAt.rd hG (i := k) (by omega) (j := 9) rfl, trivial⟩ ?_
            refine TriL.nil (by kernel_rfl) ?_
            refine TriQ.blockNormal ?_
            refine TriQ.next ?_
            refine Tri.region ?_
            refine TriL.segK (k' := 2) (fr' := [(1, .pointer (some ⟨b1, 0, none⟩)), (4, .map (some m2)), (5, .int .i64 ((nd ns k).id)), (6, .int .i64 ((((entSum ns k) + ((nd ns k).ents.length) : Nat) : Int))), (18, .int .i64 (((ns.length : Nat) : Int))), (19, .int .i64 (((k + 1 : Nat) : Int)))]) (obl := [(Value.int .i64 (IntKind.wrap .i64 (((k : Nat) : Int) + 1))) = (.int .i64 (((k + 1 : Nat) : Int)))]) [⟨[], none, none, none, some (.int .i64 (((k + 1 : Nat) : Int)))⟩, o_] [1, 4, 5, 6, 18, 19] (fun _ _ => by kernel_rfl) ⟨wrapEq (by omega) (by omega) (by omega), trivial⟩ ?_
            refine TriL.nil (by kernel_rfl) ?_
            exact TriQ.turn ((k + 1)) (idx := [1, 4, 5, 6, 18, 19]) (pk := [0, 1, 2]) (show (((k + 1)) ≤ ns.length) ∧ (Upto ns ((k + 1))) ∧ (entSum ns ((k + 1)) ≤ ((k + 1)) * 1048576) from ⟨by omega, hu.step (by omega) (by omega) h43, by have := (hd k (by omega)).2; show entSum ns k + _ ≤ _; omega⟩) (by show ns.length - ((k + 1)) < ns.length - k; omega) (fun _ => by kernel_rfl) rfl (by kernel_rfl)
    · refine Tri.exit ?_
      refine TriQ.passExit ?_
      refine TriQ.passExit ?_
      refine TriQ.blockHit ?_
      refine TriQ.next ?_
      refine Tri.seq ?_
      refine Tri.seq ?_
      refine Tri.region ?_
      refine TriL.segK (k' := 2) (fr' := [(1, .pointer (some ⟨b1, 0, none⟩)), (4, .map (some m2)), (63, .bool (decide ((((entSum ns k : Nat) : Int) : Int) > (8192 : Int))))]) (obl := []) [o_, o_] [1, 4, 63] (fun _ _ => by kernel_rfl) trivial ?_
      refine TriL.nil (by kernel_rfl) ?_
      refine TriQ.next ?_
      refine Tri.condP (p := (((entSum ns k : Nat) : Int) : Int) > (8192 : Int)) (fun _ => by kernel_rfl) (fun h63 => ?_) (fun h63 => ?_)
      · refine Tri.seq ?_
        refine Tri.region ?_
        refine TriL.segK (k' := 2) (fr' := [(2, .map none), (3, .bool false)]) (obl := []) [o_, o_] [2, 3] (fun _ _ => by kernel_rfl) trivial ?_
        refine TriL.nil (by kernel_rfl) ?_
        refine TriQ.next ?_
        refine Tri.ret ?_
        refine TriQ.passRet ?_
        exact TriQ.ret (v := .tuple #[.map none, .bool false]) (l := []) (obl := []) [] [2] (fun _ => by kernel_rfl) trivial rfl (by kernel_rfl) (.inr ⟨_, rfl, fun h => by have h1 := h.sum; rw [show ns.length = k by omega] at h1; omega, rfl⟩)
      · refine Tri.skip ?_
        refine TriQ.next ?_
        refine Tri.seq ?_
        refine Tri.region ?_
        refine TriL.mapMake (d := (some 64)) (t := 107) (fun _ => by kernel_rfl) Try.prog rfl 3 (fun m3 => ?_)
        refine TriL.segK (k' := 2) (fr' := [(1, .pointer (some ⟨b1, 0, none⟩)), (4, .map (some m2)), (9, .map (some m3))]) (obl := []) [o_] [1, 4, 9] (fun _ _ => by kernel_rfl) trivial ?_
        refine TriL.nil (by kernel_rfl) ?_
        refine TriQ.next ?_
        refine Tri.seq ?_
        refine Tri.seq ?_
        refine Tri.region ?_
        refine TriL.partEq 3 (p := .abs (MapA Try.prog 3 m3 (fun _ => none) 0)) (p' := .abs (MapA Try.prog 3 m3 (mf (pf ((allE ns 0).map (idP ns)))) ((allE ns 0).length))) (by kernel_rfl) (by rw [pf_zero]; rfl) ?_
        refine TriL.partEq 1 (p := .abs (MapA Try.prog 3 m2 (mf (bf A ns k)) k)) (p' := .abs (MapA Try.prog 3 m2 (mf (bf A ns ns.length)) ns.length)) (by kernel_rfl) (by rw [show k = ns.length by omega]) ?_
        refine TriL.segK (k' := 4) (fr' := [(1, .pointer (some ⟨b1, 0, none⟩)), (4, .map (some m2)), (9, .map (some m3)), (67, .int .i64 (((ns.length : Nat) : Int))), (68, .int .i64 0)]) (obl := [b1 = b1]) [o_, ⟨[.at 0], none, none, none, none⟩, o_, o_] [1, 4, 9, 67, 68] (fun _ _ => by kernel_rfl) ⟨rfl, trivial⟩ ?_
        refine TriL.nil (by kernel_rfl) ?_
        refine TriQ.next ?_
        refine Tri.block ?_
        have hrise : Rising ns := fun a b hab hb => hu.rise a b hab (by omega)
        have hsum : entSum ns ns.length ≤ 8192 := by rw [show ns.length = k by omega]; omega
        refine Tri.loop (ι := Nat) (fun (i : Nat) => (i ≤ ns.length) ∧ (∀ a, a < i → ∀ j, j < (nd ns a).ents.length → EntOk ns a j) ∧ (((allE ns i).map Prod.fst).Nodup)) (fun (i : Nat) => ns.length - i) (fun (i : Nat) => [(1, .pointer (some ⟨b1, 0, none⟩)), (4, .map (some m2)), (9, .map (some m3)), (67, .int .i64 (((ns.length : Nat) : Int))), (68, .int .i64 (((i : Nat) : Int)))]) (fun (i : Nat) => [.blk b1 [.slice A (ns.length) (c)] 24, .abs (MapA Try.prog 3 m2 (mf (bf A ns ns.length)) ns.length), .abs (MapA Try.prog 3 m3 (mf (pf ((allE ns i).map (idP ns)))) ((allE ns i).length)), .abs R]) 0 (idx := [1, 4, 9, 67, 68]) (pk := [0, 1, 3, 2]) (show (0 ≤ ns.length) ∧ (∀ a, a < 0 → ∀ j, j < (nd ns a).ents.length → EntOk ns a j) ∧ (((allE ns 0).map Prod.fst).Nodup) from ⟨Nat.zero_le _, fun a ha => absurd ha (Nat.not_lt_zero a), List.nodup_nil⟩) (fun _ => by kernel_rfl) rfl (by kernel_rfl) ?_
        rintro i ⟨hi, hents, hnd⟩
        show Tri _ _ _ _ [(1, .pointer (some ⟨b1, 0, none⟩)), (4, .map (some m2)), (9, .map (some m3)), (67, .int .i64 (((ns.length : Nat) : Int))), (68, .int .i64 (((i : Nat) : Int)))] [.blk b1 [.slice A (ns.length) (c)] 24, .abs (MapA Try.prog 3 m2 (mf (bf A ns ns.length)) ns.length), .abs (MapA Try.prog 3 m3 (mf (pf ((allE ns i).map (idP ns)))) ((allE ns i).length)), .abs R] _
        refine Tri.seq ?_
        refine Tri.region ?_
        refine TriL.segK (k' := 1) (fr' := [(1, .pointer (some ⟨b1, 0, none⟩)), (4, .map (some m2)), (9, .map (some m3)), (67, .int .i64 (((ns.length : Nat) : Int))), (68, .int .i64 (((i : Nat) : Int))), (69, .bool (decide ((((i : Nat) : Int) : Int) < (((ns.length : Nat) : Int) : Int))))]) (obl := []) [o_] [1, 4, 9, 67, 68, 69] (fun _ _ => by kernel_rfl) trivial ?_
        refine TriL.nil (by kernel_rfl) ?_
        refine TriQ.next ?_
        refine Tri.seq ?_
        refine Tri.condP (p := (((i : Nat) : Int) : Int) < (((ns.length : Nat) : Int) : Int)) (fun _ => by kernel_rfl) (fun h69 => ?_) (fun h69 => ?_)
        · refine Tri.skip ?_
          refine TriQ.next ?_
          refine Tri.seq ?_
          refine Tri.block ?_
          refine Tri.seq ?_
          refine Tri.region ?_
          refine TriL.segK (k' := 2) (fr' := [(1, .pointer (some ⟨b1, 0, none⟩)), (4, .map (some m2)), (9, .map (some m3)), (10, .int .i64 (((i : Nat) : Int))), (67, .int .i64 (((ns.length : Nat) : Int))), (68, .int .i64 (((i : Nat) : Int)))]) (obl := []) [o_, o_] [1, 4, 9, 10, 67, 68] (fun _ _ => by kernel_rfl) trivial ?_
          refine TriL.nil (by kernel_rfl) ?_
          refine TriQ.next ?_
          refine Tri.seq ?_
          refine Tri.region ?_
          refine TriL.segK (k' := 6) (fr' := [(1, .pointer (some ⟨b1, 0, none⟩)), (4, .map (some m2)), (9, .map (some m3)), (67, .int .i64 (((ns.length : Nat) : Int))), (68, .int .i64 (((i : Nat) : Int))), (74, .pointer (some ⟨(blkOf A), offOf A + i * 10, none⟩)), (75, .map (some m2)), (76, .map (some m3))]) (obl := [((i : Nat) : Int) = ((i : Nat) : Int), i < ns.length, (⟨(blkOf A), offOf A, none⟩ : Addr).spot = none, (A : Option Addr) = some ⟨(blkOf A), offOf A, none⟩, b1 = b1]) [o_, ⟨[.at 0], none, none, none, none⟩, o_, ⟨[], some i, none, some ⟨(blkOf A), offOf A, none⟩, none⟩, o_, o_] [1, 4, 9, 67, 68, 74, 75, 76] (fun _ _ => by kernel_rfl) ⟨rfl, by omega, rfl, GraphAt.hd hG (i := i) (by omega), rfl, trivial⟩ ?_
          refine TriL.call (f := 59) (args := #[.pointer (some ⟨(blkOf A), offOf A + i * 10, none⟩), .map (some m2), .map (some m3)]) (d := (some 77)) (pre := [.abs (MapA Try.prog 3 m2 (mf (bf A ns ns.length)) ns.length), .abs (MapA Try.prog 3 m3 (mf (pf ((allE ns i).map (idP ns)))) ((allE ns i).length))]) (R := [.blk b1 [.slice A (ns.length) (c)] 24, .abs R]) (pk := [1, 2, 0, 3]) (fun _ => by kernel_rfl) (sp_enter A ns L hG hrise i (by omega) (hd i (by omega)).2 (hwf i (by omega)) (hnm i (by omega)) m2 m3 (allE ns i) (by have := allE_len ns i; have := entSum_mono (ns := ns) (show i ≤ ns.length by omega); omega) (fun p hp => (allE_fst (by omega) hents p hp).1) hnd) rfl (by kernel_rfl) ?_
          rintro _ _ (⟨rfl, hro, rfl⟩ | ⟨rfl, hro, rfl⟩)
          · refine TriL.segK (k' := 8) (fr' := [(1, .pointer (some ⟨b1, 0, none⟩)), (4, .map (some m2)), (9, .map (some m3)), (67, .int .i64 (((ns.length : Nat) : Int))), (68, .int .i64 (((i : Nat) : Int))), (78, .bool false)]) (obl := []) [o_] [1, 4, 9, 67, 68, 78] (fun _ _ => by kernel_rfl) trivial ?_
            refine TriL.nil (by kernel_rfl) ?_
            refine TriQ.next ?_
            refine Tri.condF (fun _ => by kernel_rfl) ?_
            refine Tri.skip ?_
            refine TriQ.blockNormal ?_
            refine TriQ.next ?_
            refine Tri.region ?_
            refine TriL.segK (k' := 2) (fr' := [(1, .pointer (some ⟨b1, 0, none⟩)), (4, .map (some m2)), (9, .map (some m3)), (67, .int .i64 (((ns.length : Nat) : Int))), (68, .int .i64 (((i + 1 : Nat) : Int)))]) (obl := [(Value.int .i64 (IntKind.wrap .i64 (((i : Nat) : Int) + 1))) = (.int .i64 (((i + 1 : Nat) : Int)))]) [⟨[], none, none, none, some (.int .i64 (((i + 1 : Nat) : Int)))⟩, o_] [1, 4, 9, 67, 68] (fun _ _ => by kernel_rfl) ⟨wrapEq (by omega) (by omega) (by omega), trivial⟩ ?_
            refine TriL.nil (by kernel_rfl) ?_
            exact TriQ.turn ((i + 1)) (idx := [1, 4, 9, 67, 68]) (pk := [2, 0, 1, 3]) (show (((i + 1)) ≤ ns.length) ∧ (∀ a, a < ((i + 1)) → ∀ j, j < (nd ns a).ents.length → EntOk ns a j) ∧ (((allE ns ((i + 1))).map Prod.fst).Nodup) from ⟨by omega, fun a ha => (by rcases Nat.lt_succ_iff_lt_or_eq.1 ha with h | h; exact hents a h; subst h; exact hro.ents), hro.next⟩) (by show ns.length - ((i + 1)) < ns.length - i; omega) (fun _ => by kernel_rfl) rfl (by kernel_rfl)
          · refine TriL.segK (k' := 8) (fr' := [(1, .pointer (some ⟨b1, 0, none⟩)), (4, .map (some m2)), (9, .map (some m3)), (67, .int .i64 (((ns.length : Nat) : Int))), (68, .int .i64 (((i : Nat) : Int))), (78, .bool true)]) (obl := []) [o_] [1, 4, 9, 67, 68, 78] (fun _ _ => by kernel_rfl) trivial ?_
            refine TriL.nil (by kernel_rfl) ?_
            refine TriQ.next ?_
            refine Tri.condT (fun _ => by kernel_rfl) ?_
            refine Tri.seq ?_
            refine Tri.region ?_
            refine TriL.segK (k' := 2) (fr' := [(2, .map none), (3, .bool false)]) (obl := []) [o_, o_] [2, 3] (fun _ _ => by kernel_rfl) trivial ?_
            refine TriL.nil (by kernel_rfl) ?_
            refine TriQ.next ?_
            refine Tri.ret ?_
            refine TriQ.blockRet ?_
            refine TriQ.passRet ?_
            refine TriQ.passRet ?_
            refine TriQ.blockRet ?_
            refine TriQ.passRet ?_
            exact TriQ.ret (v := .tuple #[.map none, .bool false]) (l := []) (obl := []) [] [1] (fun _ => by kernel_rfl) trivial rfl (by kernel_rfl) (.inr ⟨_, rfl, fun h => hro (h.row (by omega)), rfl⟩)
        · refine Tri.exit ?_
          refine TriQ.passExit ?_
          refine TriQ.passExit ?_
          refine TriQ.blockHit ?_
          refine TriQ.next ?_
          refine Tri.seq ?_
          refine Tri.region ?_
          refine TriL.segK (k' := 2) (fr' := [(80, .map (some m2)), (81, .map (some m3))]) (obl := []) [o_, o_] [80, 81] (fun _ _ => by kernel_rfl) trivial ?_
          refine TriL.partEq 2 (p := .abs (MapA Try.prog 3 m3 (mf (pf ((allE ns i).map (idP ns)))) ((allE ns i).length))) (p' := .abs (MapA Try.prog 3 m3 (mf (pf ((allE ns i).map (idP ns)))) (((allE ns i).map (idP ns)).length))) (by kernel_rfl) (by rw [List.length_map]) ?_
          refine TriL.call (f := 60) (args := #[.map (some m3)]) (d := (some 82)) (pre := [.abs (MapA Try.prog 3 m3 (mf (pf ((allE ns i).map (idP ns)))) (((allE ns i).map (idP ns)).length))]) (R := [.blk b1 [.slice A (ns.length) (c)] 24, .abs (MapA Try.prog 3 m2 (mf (bf A ns ns.length)) ns.length), .abs R]) (pk := [2, 0, 1, 3]) (fun _ => by kernel_rfl) ((sp_rooted m3 ((allE ns i).map (idP ns)) (by rw [List.length_map]; have := allE_len ns i; have := entSum_mono (ns := ns) (show i ≤ ns.length by omega); omega) (up_bounds (allE_fst (by omega) hents) (fun a ha => hu.ids a (by omega)))).mono (fun v l h => dec_or h)) rfl (by kernel_rfl) ?_
          rintro _ _ (⟨rfl, hae, rfl⟩ | ⟨rfl, hae, rfl⟩)
          · refine TriL.segK (k' := 5) (fr' := [(2, .map (some m2)), (3, .bool true)]) (obl := []) [o_, o_] [2, 3] (fun _ _ => by kernel_rfl) trivial ?_
            refine TriL.nil (by kernel_rfl) ?_
            refine TriQ.next ?_
            refine Tri.ret ?_
            exact TriQ.ret (v := .tuple #[.map (some m2), .bool true]) (l := [.abs (MapA Try.prog 3 m2 (mf (bf A ns ns.length)) ns.length)]) (obl := []) [] [1, 2] (fun _ => by kernel_rfl) trivial rfl (by kernel_rfl) (.inl ⟨m2, rfl, ⟨by omega, fun a ha => hu.node a (by omega), fun a ha => hu.ids a (by omega), hrise, by omega, fun a ha => hents a (by omega), by have := hnd; rwa [show i = ns.length by omega] at this, by have := hae; rwa [show i = ns.length by omega] at this⟩, rfl⟩)
          · refine TriL.segK (k' := 5) (fr' := [(2, .map (some m2)), (3, .bool false)]) (obl := []) [o_, o_] [2, 3] (fun _ _ => by kernel_rfl) trivial ?_
            refine TriL.nil (by kernel_rfl) ?_
            refine TriQ.next ?_
            refine Tri.ret ?_
            exact TriQ.ret (v := .tuple #[.map (some m2), .bool false]) (l := []) (obl := []) [] [2] (fun _ => by kernel_rfl) trivial rfl (by kernel_rfl) (.inr ⟨_, rfl, fun h => hae (by have := h.ends; rwa [show ns.length = i by omega] at this), rfl⟩)
set_option maxRecDepth 100000 in
set_option maxHeartbeats 4000000 in
theorem sp_check {β : Bs} (A : Option Addr) (c : Nat) (ns : List NodeM) (L : Lay) (hG : GraphAt β A ns L) (hl : ns.length ≤ 1048576) (hd : ∀ i, i < ns.length → (nd ns i).data.length ≤ 1048576 ∧ (nd ns i).ents.length ≤ 1048576) (hwf : ∀ i, i < ns.length → ∀ j, j < (nd ns i).ents.length → -9223372036854775808 ≤ (ent ns i j).id ∧ (ent ns i j).id ≤ 9223372036854775807) (hnm : ∀ i, i < ns.length → ∀ j, j < (nd ns i).ents.length → (ent ns i j).name.size ≤ 1048576) :
    Spec Try.prog β 14 #[.agg #[.slice A ns.length c]] [] (fun v l => v = .int .i64 (if GraphOk ns then 0 else 140) ∧ l = []) := by
  refine Spec.enter Try.func14 rfl Try.ntmps14 (Nat.le_of_ble_eq_true rfl) (fun R => ?_)
  refine Tri.seq ?_
  refine Tri.region ?_
  refine TriL.segN (k' := 2) (fr' := fun b4 => [(1, .pointer (some ⟨b4, 0, none⟩))]) (hps' := fun b4 => [.abs R, .blk b4 [.slice A (ns.length) (c)] 24]) (obl := fun b4 => []) [o_, o_] [1] [0, 1] (fun _ _ => by kernel_rfl) (fun b4 => trivial) (fun b4 => ?_)
  refine TriL.nil (by kernel_rfl) ?_
  refine TriQ.next ?_
  refine Tri.seq ?_
  refine Tri.seq ?_
  refine Tri.region ?_
  refine TriL.segK (k' := 1) (fr' := [(6, .agg #[.slice A (ns.length) (c)])]) (obl := [b4 = b4]) [⟨[.at 1], none, none, none, none⟩] [6] (fun _ _ => by kernel_rfl) ⟨rfl, trivial⟩ ?_
  refine TriL.call (f := 37) (args := #[.agg #[.slice A (ns.length) (c)]]) (d := (some 7)) (pre := []) (R := [.abs R, .blk b4 [.slice A (ns.length) (c)] 24]) (pk := [0, 1]) (fun _ => by kernel_rfl) (sp_read A c ns L hG hl hd hwf hnm) rfl (by kernel_rfl) ?_
  rintro _ _ (⟨mb, rfl, hok, rfl⟩ | ⟨m, rfl, hok, rfl⟩)
  · refine TriL.segK (k' := 7) (fr' := [(4, .bool true)]) (obl := []) [o_, o_, o_, o_, o_] [4] (fun _ _ => by kernel_rfl) trivial ?_
    refine TriL.nil (by kernel_rfl) ?_
    refine TriQ.next ?_
    refine Tri.seq ?_
    refine Tri.region ?_
    refine TriL.segK (k' := 2) (fr' := [(11, .bool false)]) (obl := []) [o_, o_] [11] (fun _ _ => by kernel_rfl) trivial ?_
    refine TriL.nil (by kernel_rfl) ?_
    refine TriQ.next ?_
    refine Tri.condF (fun _ => by kernel_rfl) ?_
    refine Tri.skip ?_
    refine TriQ.next ?_
    refine Tri.seq ?_
    refine Tri.region ?_
    refine TriL.segK (k' := 1) (fr' := [(2, .int .i64 0)]) (obl := []) [o_] [2] (fun _ _ => by kernel_rfl) trivial ?_
    refine TriL.nil (by kernel_rfl) ?_
    refine TriQ.next ?_
    refine Tri.ret ?_
    exact TriQ.ret (v := .int .i64 0) (l := []) (obl := []) [] [1] (fun _ => by kernel_rfl) trivial rfl (by kernel_rfl) (⟨congrArg (Value.int .i64) (if_pos hok).symm, rfl⟩)
  · refine TriL.segK (k' := 7) (fr' := [(4, .bool false)]) (obl := []) [o_, o_, o_, o_, o_] [4] (fun _ _ => by kernel_rfl) trivial ?_
    refine TriL.nil (by kernel_rfl) ?_
    refine TriQ.next ?_
    refine Tri.seq ?_
    refine Tri.region ?_
    refine TriL.segK (k' := 2) (fr' := [(11, .bool true)]) (obl := []) [o_, o_] [11] (fun _ _ => by kernel_rfl) trivial ?_
    refine TriL.nil (by kernel_rfl) ?_
    refine TriQ.next ?_
    refine Tri.condT (fun _ => by kernel_rfl) ?_
    refine Tri.seq ?_
    refine Tri.region ?_
    refine TriL.segK (k' := 1) (fr' := [(2, .int .i64 140)]) (obl := []) [o_] [2] (fun _ _ => by kernel_rfl) trivial ?_
    refine TriL.nil (by kernel_rfl) ?_
    refine TriQ.next ?_
    refine Tri.ret ?_
    refine TriQ.passRet ?_
    exact TriQ.ret (v := .int .i64 140) (l := []) (obl := []) [] [0] (fun _ => by kernel_rfl) trivial rfl (by kernel_rfl) (⟨congrArg (Value.int .i64) (if_neg hok).symm, rfl⟩)
end Go.Proofs.Ytjpdcppdoonmdaa
