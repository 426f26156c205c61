/-
  PROVED HERE: the reference's Under
  CONDITIONS: as the theorems say. Printed by a program of this repo (wip/v).
-/
import Derived.Test.YtjpdcppdoonmdaaGUm
namespace Go.Proofs.Ytjpdcppdoonmdaa
open Go.RowKit
attribute [local irreducible] TriL TriLQ Tri TriQ
set_option maxRecDepth 100000 in
set_option maxHeartbeats 4000000 in
theorem sp_reach {β : Bs} (A : Option Addr) (c : Nat) (ns : List NodeM) (L : Lay) (hG : GraphAt β A ns L) (hB : GraphB ns 1048576) (hok : GraphOk ns) (k : Nat) (hk : k < ns.length) :
    Spec Try.prog β 57 #[.agg #[.slice A ns.length c], .int .i64 ((k : Nat) : Int)] [] (fun v l => ∃ b mk, v = .slice (some ⟨b, 0, none⟩) ns.length ns.length ∧ DInv ns k mk [] none ∧ l = [.abs (RowA 4 1 (some ⟨b, 0, none⟩) ns.length ns.length (marksV ns.length mk))]) := by
  refine Spec.enter Try.func57 rfl Try.ntmps57 (Nat.le_of_ble_eq_true rfl) (fun R => ?_)
  refine Tri.seq ?_
  refine Tri.region ?_
  refine TriL.segN (k' := 2) (fr' := fun b1 => [(1, .int .i64 (((k : Nat) : Int))), (2, .pointer (some ⟨b1, 0, none⟩))]) (hps' := fun b1 => [.abs R, .blk b1 [.slice A (ns.length) (c)] 24]) (obl := fun b1 => []) [o_, o_] [1, 2] [0, 1] (fun _ _ => by kernel_rfl) (fun b1 => trivial) (fun b1 => ?_)
  refine TriL.nil (by kernel_rfl) ?_
  refine TriQ.next ?_
  refine Tri.seq ?_
  refine Tri.region ?_
  refine TriL.segK (k' := 3) (fr' := [(1, .int .i64 (((k : Nat) : Int))), (2, .pointer (some ⟨b1, 0, none⟩)), (12, .int .i64 (((ns.length : Nat) : Int)))]) (obl := [b1 = b1]) [o_, ⟨[.at 1], none, none, none, none⟩, o_] [1, 2, 12] (fun _ _ => by kernel_rfl) ⟨rfl, trivial⟩ ?_
  refine TriL.makeFull (d := (some 13)) (t := 104) (e := 4) (z := .bool false) (bytes := 1) (n := ns.length) (l := (.tmp 12)) (c := (.tmp 12)) (fun _ => by kernel_rfl) (fun _ => by kernel_rfl) (fun _ => by kernel_rfl) Try.underlying104 (by kernel_rfl) rfl (by have := hB.hl; omega) (by have := hB.hl; omega) (fun b2 => ?_)
  refine TriL.segK (k' := 5) (fr' := [(1, .int .i64 (((k : Nat) : Int))), (2, .pointer (some ⟨b1, 0, none⟩)), (5, .slice (some ⟨b2, 0, none⟩) (ns.length) (ns.length))]) (obl := []) [o_] [1, 2, 5] (fun _ _ => by kernel_rfl) trivial ?_
  refine TriL.nil (by kernel_rfl) ?_
  refine TriQ.next ?_
  refine Tri.seq ?_
  refine Tri.region ?_
  refine TriL.partEq 2 (p := .abs (RowA 4 1 (some ⟨b2, 0, none⟩) ns.length ns.length (List.replicate ns.length (.bool false)))) (p' := .abs (RowA 4 1 (some ⟨b2, 0, none⟩) ns.length ns.length (marksV ns.length ([] : List Nat)))) (by kernel_rfl) (by rw [marksV_nil]) ?_
  refine TriL.segK (k' := 3) (fr' := [(1, .int .i64 (((k : Nat) : Int))), (2, .pointer (some ⟨b1, 0, none⟩)), (5, .slice (some ⟨b2, 0, none⟩) (ns.length) (ns.length)), (16, .pointer (some ⟨b2, k, none⟩))]) (obl := [(Value.pointer (some ⟨b2, 0 + k * 1, none⟩)) = (.pointer (some ⟨b2, k, none⟩)), ((k : Nat) : Int) = ((k : Nat) : Int), k < ns.length, (⟨b2, 0, none⟩ : Addr).spot = none]) [o_, o_, ⟨[], some k, none, none, some (.pointer (some ⟨b2, k, none⟩))⟩] [1, 2, 5, 16] (fun _ _ => by kernel_rfl) ⟨by simp, rfl, hk, rfl, trivial⟩ ?_
  refine TriL.rowSet 2 (k) (d := none) (T := 4) (e := 4) (size := 1) (n := ns.length) (cap := ns.length) (g := b2) (xs := (marksV ns.length ([] : List Nat))) (u := .bool true) (a := (.tmp 16)) (y := (.const (.bool true))) (fun _ => by kernel_rfl) (by kernel_rfl) (fun _ => by kernel_rfl) (fun _ => by kernel_rfl) (by kernel_rfl) rfl (by rw [marksV_len]; exact hk) ?_
  refine TriL.partEq 2 (p := .abs (RowA 4 1 (some ⟨b2, 0, none⟩) ns.length ns.length ((marksV ns.length ([] : List Nat)).set (k) (.bool true)))) (p' := .abs (RowA 4 1 (some ⟨b2, 0, none⟩) ns.length ns.length (marksV ns.length [k]))) (by kernel_rfl) (by rw [marksV_set]) ?_
  refine TriL.nil (by kernel_rfl) ?_
  refine TriQ.next ?_
  refine Tri.seq ?_
  refine Tri.region ?_
  refine TriL.segN (k' := 2) (fr' := fun b3 => [(2, .pointer (some ⟨b1, 0, none⟩)), (5, .slice (some ⟨b2, 0, none⟩) (ns.length) (ns.length)), (18, .slice (some ⟨b3, 0, none⟩) (1) (1))]) (hps' := fun b3 => [.abs R, .blk b1 [.slice A (ns.length) (c)] 24, .abs (RowA 4 1 (some ⟨b2, 0, none⟩) ns.length ns.length (marksV ns.length [k])), .blk b3 [.int .i64 (((k : Nat) : Int))] 3]) (obl := fun b3 => []) [o_, o_] [2, 5, 18] [0, 1, 2, 3] (fun _ _ => by kernel_rfl) (fun b3 => trivial) (fun b3 => ?_)
  refine TriL.mem (fun w hS => hS.toRow (i := 3) (b := b3) (cs := [.int .i64 (((k : Nat) : Int))]) (e := 3) 1 1 (by kernel_rfl) rfl (by decide)) ?_
  refine TriL.partEq 3 (p := .abs (RowA 3 1 (some ⟨b3, 0, none⟩) 1 1 ([.int .i64 (((k : Nat) : Int))]))) (p' := .abs (RowA 3 1 (some ⟨b3, 0, none⟩) 1 1 (natsV ([k]).reverse))) (by kernel_rfl) (rfl) ?_
  refine TriL.segK (k' := 3) (fr' := [(2, .pointer (some ⟨b1, 0, none⟩)), (5, .slice (some ⟨b2, 0, none⟩) (ns.length) (ns.length)), (6, .slice (some ⟨b3, 0, none⟩) (1) (1))]) (obl := []) [o_] [2, 5, 6] (fun _ _ => by kernel_rfl) trivial ?_
  refine TriL.nil (by kernel_rfl) ?_
  refine TriQ.next ?_
  refine Tri.seq ?_
  refine Tri.block ?_
  refine Tri.loop (ι := (List Nat) × (List Nat) × (Option Addr) × Nat) (fun ((mk, work, Aw, cw) : (List Nat) × (List Nat) × (Option Addr) × Nat) => (DInv ns k mk work none) ∧ (2 * (ns.length - mk.length) + work.length ≤ 2 * ns.length)) (fun ((mk, work, Aw, cw) : (List Nat) × (List Nat) × (Option Addr) × Nat) => 2 * (ns.length - mk.length) + work.length) (fun ((mk, work, Aw, cw) : (List Nat) × (List Nat) × (Option Addr) × Nat) => [(2, .pointer (some ⟨b1, 0, none⟩)), (5, .slice (some ⟨b2, 0, none⟩) (ns.length) (ns.length)), (6, .slice Aw (work.length) (cw))]) (fun ((mk, work, Aw, cw) : (List Nat) × (List Nat) × (Option Addr) × Nat) => [.blk b1 [.slice A (ns.length) (c)] 24, .abs (RowA 4 1 (some ⟨b2, 0, none⟩) ns.length ns.length (marksV ns.length mk)), .abs (RowA 3 1 Aw work.length cw (natsV (work).reverse)), .abs R]) ([k], [k], some ⟨b3, 0, none⟩, 1) (idx := [2, 5, 6]) (pk := [1, 2, 3, 0]) (show (DInv ns k ([k]) ([k]) none) ∧ (2 * (ns.length - ([k]).length) + ([k]).length ≤ 2 * ns.length) from ⟨⟨List.mem_singleton.2 rfl, fun i hi => by rw [List.mem_singleton.1 hi]; exact .refl, fun i hi => hi, by simp, fun i hi => .inl hi⟩, by show 2 * (ns.length - 1) + 1 ≤ _; omega⟩) (fun _ => by kernel_rfl) rfl (by kernel_rfl) ?_
  rintro ⟨mk, work, Aw, cw⟩ ⟨hin, hmu⟩
  show Tri _ _ _ _ [(2, .pointer (some ⟨b1, 0, none⟩)), (5, .slice (some ⟨b2, 0, none⟩) (ns.length) (ns.length)), (6, .slice Aw (work.length) (cw))] [.blk b1 [.slice A (ns.length) (c)] 24, .abs (RowA 4 1 (some ⟨b2, 0, none⟩) ns.length ns.length (marksV ns.length mk)), .abs (RowA 3 1 Aw work.length cw (natsV (work).reverse)), .abs R] _
  refine Tri.seq ?_
  refine Tri.seq ?_
  refine Tri.region ?_
  refine TriL.segK (k' := 3) (fr' := [(2, .pointer (some ⟨b1, 0, none⟩)), (5, .slice (some ⟨b2, 0, none⟩) (ns.length) (ns.length)), (6, .slice Aw (work.length) (cw)), (21, .bool (decide ((((work.length : Nat) : Int) : Int) > (0 : Int))))]) (obl := []) [o_, o_, o_] [2, 5, 6, 21] (fun _ _ => by kernel_rfl) trivial ?_
  refine TriL.nil (by kernel_rfl) ?_
  refine TriQ.next ?_
  refine Tri.condP (p := (((work.length : Nat) : Int) : Int) > (0 : Int)) (fun _ => by kernel_rfl) (fun h21 => ?_) (fun h21 => ?_)
  · obtain ⟨x, rest, hw⟩ : ∃ x g2, work = x :: g2 := List.exists_cons_of_length_pos (by omega)
    have hxm : x ∈ mk := hin.lies x (by rw [hw]; exact List.mem_cons_self ..)
    have hx : x < ns.length := (hin.reach x hxm).lt hok hk
    have hwl : work.length = rest.length + 1 := by rw [hw]; rfl
    have hll := hB.hl
    have hd3 := hB.hd x hx
    have hin1 := (hw ▸ hin : DInv ns k mk (x :: rest) none).pop
    refine Tri.skip ?_
    refine TriQ.next ?_
    refine Tri.block ?_
    refine Tri.seq ?_
    refine Tri.region ?_
    refine TriL.segK (k' := 4) (fr' := [(2, .pointer (some ⟨b1, 0, none⟩)), (5, .slice (some ⟨b2, 0, none⟩) (ns.length) (ns.length)), (6, .slice Aw (work.length) (cw)), (22, .slice Aw (work.length) (cw)), (25, .int .i64 ((((work.length - 1) : Nat) : Int)))]) (obl := [(Value.int .i64 (IntKind.wrap .i64 (((work.length : Nat) : Int) - 1))) = (.int .i64 ((((work.length - 1) : Nat) : Int)))]) [o_, o_, o_, ⟨[], none, none, none, some (.int .i64 ((((work.length - 1) : Nat) : Int)))⟩] [2, 5, 6, 22, 25] (fun _ _ => by kernel_rfl) ⟨wrapEq (by omega) (by omega) (by omega), trivial⟩ ?_
    refine TriL.tell (p := (Aw = some ⟨blkOf Aw, offOf Aw, none⟩) ∧ work.length ≤ cw) (fun w hS => let ⟨F, h⟩ := hS.get (i := 2) rfl; ⟨(RowA.headB h (by omega)).1, (RowA.len h).2⟩) (fun ⟨hAw, hcw⟩ => ?_)
    refine TriL.segK (k' := 7) (fr' := [(2, .pointer (some ⟨b1, 0, none⟩)), (5, .slice (some ⟨b2, 0, none⟩) (ns.length) (ns.length)), (6, .slice Aw (work.length) (cw)), (7, .int .i64 (((x : Nat) : Int)))]) (obl := [(∀ F w, (RowA 3 1 Aw work.length cw (natsV (work).reverse)).h F w → w.cell? ⟨(blkOf Aw), offOf Aw + (work.length - 1) * 1, none⟩ = some (.int .i64 (((x : Nat) : Int)))), (((work.length - 1) : Nat) : Int) = (((work.length - 1) : Nat) : Int), (work.length - 1) < work.length, (⟨(blkOf Aw), offOf Aw, none⟩ : Addr).spot = none, (Aw : Option Addr) = some ⟨(blkOf Aw), offOf Aw, none⟩]) [⟨[], some (work.length - 1), none, some ⟨(blkOf Aw), offOf Aw, none⟩, none⟩, ⟨[.view 2 (.int .i64 (((x : Nat) : Int)))], none, none, none, none⟩, o_] [2, 5, 6, 7] (fun _ _ => by kernel_rfl) ⟨RowA.cellAt (i := work.length - 1) (j := 0) (by omega) (natsV_top hw), rfl, by omega, rfl, hAw, trivial⟩ ?_
    refine TriL.nil (by kernel_rfl) ?_
    refine TriQ.next ?_
    refine Tri.seq ?_
    refine Tri.region ?_
    refine TriL.segK (k' := 6) (fr' := [(2, .pointer (some ⟨b1, 0, none⟩)), (5, .slice (some ⟨b2, 0, none⟩) (ns.length) (ns.length)), (6, .slice Aw ((work.length - 1)) (cw)), (7, .int .i64 (((x : Nat) : Int)))]) (obl := [(((work.length - 1) : Nat) : Int) = (((work.length - 1) : Nat) : Int), (work.length - 1) ≤ cw, (Value.int .i64 (IntKind.wrap .i64 (((work.length : Nat) : Int) - 1))) = (.int .i64 ((((work.length - 1) : Nat) : Int)))]) [o_, o_, o_, ⟨[], none, none, none, some (.int .i64 ((((work.length - 1) : Nat) : Int)))⟩, ⟨[], some (work.length - 1), none, none, none⟩, o_] [2, 5, 6, 7] (fun _ _ => by kernel_rfl) ⟨rfl, by omega, wrapEq (by omega) (by omega) (by omega), trivial⟩ ?_
    refine TriL.nil (by kernel_rfl) ?_
    refine TriQ.next ?_
    refine Tri.seq ?_
    refine Tri.region ?_
    refine TriL.mem (fun w hS => hS.cut (i := 2) (m := rest.length) (ys := (natsV rest.reverse)) rfl (by omega) (natsV_cut hw)) ?_
    refine TriL.slot 6 (.slice Aw ((work.length - 1)) (cw)) (.slice Aw (rest.length) (cw)) (fun _ => by kernel_rfl) (by rw [show work.length - 1 = rest.length by omega]) ?_
    refine TriL.segK (k' := 1) (fr' := [(2, .pointer (some ⟨b1, 0, none⟩)), (5, .slice (some ⟨b2, 0, none⟩) (ns.length) (ns.length)), (6, .slice Aw (rest.length) (cw)), (7, .int .i64 (((x : Nat) : Int))), (8, .int .i64 0)]) (obl := []) [o_] [2, 5, 6, 7, 8] (fun _ _ => by kernel_rfl) trivial ?_
    refine TriL.nil (by kernel_rfl) ?_
    refine TriQ.next ?_
    refine Tri.block ?_
    refine Tri.loop (ι := Nat × (List Nat) × (List Nat) × (Option Addr) × Nat) (fun ((j, mk2, work2, Ax, cx) : Nat × (List Nat) × (List Nat) × (Option Addr) × Nat) => (j ≤ (nd ns x).ents.length) ∧ (DInv ns k mk2 work2 (some (x, j))) ∧ (x ∈ mk2) ∧ (2 * (ns.length - mk2.length) + work2.length < 2 * (ns.length - mk.length) + work.length)) (fun ((j, mk2, work2, Ax, cx) : Nat × (List Nat) × (List Nat) × (Option Addr) × Nat) => (nd ns x).ents.length - j) (fun ((j, mk2, work2, Ax, cx) : Nat × (List Nat) × (List Nat) × (Option Addr) × Nat) => [(2, .pointer (some ⟨b1, 0, none⟩)), (5, .slice (some ⟨b2, 0, none⟩) (ns.length) (ns.length)), (6, .slice Ax (work2.length) (cx)), (7, .int .i64 (((x : Nat) : Int))), (8, .int .i64 (((j : Nat) : Int)))]) (fun ((j, mk2, work2, Ax, cx) : Nat × (List Nat) × (List Nat) × (Option Addr) × Nat) => [.blk b1 [.slice A (ns.length) (c)] 24, .abs (RowA 4 1 (some ⟨b2, 0, none⟩) ns.length ns.length (marksV ns.length mk2)), .abs (RowA 3 1 Ax work2.length cx (natsV (work2).reverse)), .abs R]) (0, mk, rest, Aw, cw) (idx := [2, 5, 6, 7, 8]) (pk := [0, 1, 2, 3]) (show (0 ≤ (nd ns x).ents.length) ∧ (DInv ns k mk rest (some (x, 0))) ∧ (x ∈ mk) ∧ (2 * (ns.length - mk.length) + rest.length < 2 * (ns.length - mk.length) + work.length) from ⟨Nat.zero_le _, hin1, hxm, by omega⟩) (fun _ => by kernel_rfl) rfl (by kernel_rfl) ?_
    rintro ⟨j, mk2, work2, Ax, cx⟩ ⟨hj, hin, hxm, hmu2⟩
    show Tri _ _ _ _ [(2, .pointer (some ⟨b1, 0, none⟩)), (5, .slice (some ⟨b2, 0, none⟩) (ns.length) (ns.length)), (6, .slice Ax (work2.length) (cx)), (7, .int .i64 (((x : Nat) : Int))), (8, .int .i64 (((j : Nat) : Int)))] [.blk b1 [.slice A (ns.length) (c)] 24, .abs (RowA 4 1 (some ⟨b2, 0, none⟩) ns.length ns.length (marksV ns.length mk2)), .abs (RowA 3 1 Ax work2.length cx (natsV (work2).reverse)), .abs R] _
    refine Tri.seq ?_
    refine Tri.seq ?_
    refine Tri.region ?_
    refine TriL.segK (k' := 9) (fr' := [(2, .pointer (some ⟨b1, 0, none⟩)), (5, .slice (some ⟨b2, 0, none⟩) (ns.length) (ns.length)), (6, .slice Ax (work2.length) (cx)), (7, .int .i64 (((x : Nat) : Int))), (8, .int .i64 (((j : Nat) : Int))), (41, .bool (decide ((((j : Nat) : Int) : Int) < ((((nd ns x).ents.length : Nat) : Int) : Int))))]) (obl := [(Rd β ⟨(blkOf A), offOf A + x * 10 + 9, none⟩ (.slice (L.eA x) ((nd ns x).ents.length) ((L.eC x)))), ((x : Nat) : Int) = ((x : Nat) : Int), x < ns.length, (⟨(blkOf A), offOf A, none⟩ : Addr).spot = none, (A : Option Addr) = some ⟨(blkOf A), offOf A, none⟩, b1 = b1]) [o_, o_, ⟨[.at 0], none, none, none, none⟩, o_, ⟨[], some x, none, some ⟨(blkOf A), offOf A, none⟩, none⟩, o_, ⟨[.old (.slice (L.eA x) ((nd ns x).ents.length) ((L.eC x)))], none, none, none, none⟩, o_, o_] [2, 5, 6, 7, 8, 41] (fun _ _ => by kernel_rfl) ⟨GraphAt.rd hG (i := x) (by omega) (j := 9) rfl, rfl, hx, rfl, GraphAt.hd hG (i := x) (by omega), rfl, trivial⟩ ?_
    refine TriL.nil (by kernel_rfl) ?_
    refine TriQ.next ?_
    refine Tri.condP (p := (((j : Nat) : Int) : Int) < ((((nd ns x).ents.length : Nat) : Int) : Int)) (fun _ => by kernel_rfl) (fun h41 => ?_) (fun h41 => ?_)
    · refine Tri.skip ?_
      refine TriQ.next ?_
      refine Tri.seq ?_
      refine Tri.block ?_
      refine Tri.seq ?_
      have hat2 := (hok.ents x hx j (by omega)).at_
      have htl2 := atI_lt hat2
      refine Tri.regionQ (by kernel_rfl) (by kernel_rfl) ?_
      refine TriLQ.seg (k' := 11) (fr' := [(2, .pointer (some ⟨b1, 0, none⟩)), (5, .slice (some ⟨b2, 0, none⟩) (ns.length) (ns.length)), (6, .slice Ax (work2.length) (cx)), (7, .int .i64 (((x : Nat) : Int))), (8, .int .i64 (((j : Nat) : Int))), (44, .agg #[.slice A (ns.length) (c)]), (54, .int .i64 ((en (nd ns x).ents j).id))]) (obl := [(Rd β ⟨(blkOf (L.eA x)), offOf (L.eA x) + j * 2 + 1, none⟩ (.int .i64 ((en (nd ns x).ents j).id))), ((j : Nat) : Int) = ((j : Nat) : Int), j < (nd ns x).ents.length, (⟨(blkOf (L.eA x)), offOf (L.eA x), none⟩ : Addr).spot = none, ((L.eA x) : Option Addr) = some ⟨(blkOf (L.eA x)), offOf (L.eA x), none⟩, (Rd β ⟨(blkOf A), offOf A + x * 10 + 9, none⟩ (.slice (L.eA x) ((nd ns x).ents.length) ((L.eC x)))), ((x : Nat) : Int) = ((x : Nat) : Int), x < ns.length, (⟨(blkOf A), offOf A, none⟩ : Addr).spot = none, (A : Option Addr) = some ⟨(blkOf A), offOf A, none⟩, b1 = b1, b1 = b1]) [⟨[.at 0], none, none, none, none⟩, o_, ⟨[.at 0], none, none, none, none⟩, o_, ⟨[], some x, none, some ⟨(blkOf A), offOf A, none⟩, none⟩, o_, ⟨[.old (.slice (L.eA x) ((nd ns x).ents.length) ((L.eC x)))], none, none, none, none⟩, o_, ⟨[], some j, none, some ⟨(blkOf (L.eA x)), offOf (L.eA x), none⟩, none⟩, o_, ⟨[.old (.int .i64 ((en (nd ns x).ents j).id))], none, none, none, none⟩] [2, 5, 6, 7, 8, 44, 54] (fun _ _ => by kernel_rfl) ⟨EntsAt.rd (hG.ents x (by omega)) (i := j) (by omega) (j := 1) rfl, rfl, by omega, rfl, EntsAt.hd (hG.ents x (by omega)) (i := j) (by omega), GraphAt.rd hG (i := x) (by omega) (j := 9) rfl, rfl, hx, rfl, GraphAt.hd hG (i := x) (by omega), rfl, rfl, trivial⟩ ?_
      refine TriLQ.call (f := 29) (args := #[.agg #[.slice A (ns.length) (c)], .int .i64 ((en (nd ns x).ents j).id)]) (d := (some 55)) (pre := []) (R := [.blk b1 [.slice A (ns.length) (c)] 24, .abs (RowA 4 1 (some ⟨b2, 0, none⟩) ns.length ns.length (marksV ns.length mk2)), .abs (RowA 3 1 Ax work2.length cx (natsV (work2).reverse)), .abs R]) (pk := [0, 1, 2, 3]) (pk' := [0, 1, 2, 3]) (v0 := .int .i64 ((((tgt ns (en (nd ns x).ents j).id) : Nat) : Int))) (fun _ => by kernel_rfl) ((sp_at A c ns L hG hok.rise hB.hl (en (nd ns x).ents j).id).val (congrArg (Value.int .i64) htl2.2.2)) rfl (by kernel_rfl) rfl (by kernel_rfl) (fun _ _ h => h) ?_
      refine TriLQ.seg (k' := 13) (fr' := [(2, .pointer (some ⟨b1, 0, none⟩)), (5, .slice (some ⟨b2, 0, none⟩) (ns.length) (ns.length)), (6, .slice Ax (work2.length) (cx)), (7, .int .i64 (((x : Nat) : Int))), (8, .int .i64 (((j : Nat) : Int))), (9, .int .i64 ((((tgt ns (en (nd ns x).ents j).id) : Nat) : Int)))]) (obl := []) [o_] [2, 5, 6, 7, 8, 9] (fun _ _ => by kernel_rfl) trivial ?_
      refine TriLQ.nil (by kernel_rfl) ?_
      refine TriQ.next ?_
      refine Tri.seq ?_
      refine Tri.region ?_
      refine TriL.segK (k' := 5) (fr' := [(2, .pointer (some ⟨b1, 0, none⟩)), (5, .slice (some ⟨b2, 0, none⟩) (ns.length) (ns.length)), (6, .slice Ax (work2.length) (cx)), (7, .int .i64 (((x : Nat) : Int))), (8, .int .i64 (((j : Nat) : Int))), (9, .int .i64 ((((tgt ns (en (nd ns x).ents j).id) : Nat) : Int))), (60, .bool (!(decide ((tgt ns (en (nd ns x).ents j).id) ∈ mk2))))]) (obl := [(∀ F w, (RowA 4 1 (some ⟨b2, 0, none⟩) ns.length ns.length (marksV ns.length mk2)).h F w → w.cell? ⟨b2, (tgt ns (en (nd ns x).ents j).id), none⟩ = some (.bool (decide ((tgt ns (en (nd ns x).ents j).id) ∈ mk2)))), (Value.pointer (some ⟨b2, 0 + (tgt ns (en (nd ns x).ents j).id) * 1, none⟩)) = (.pointer (some ⟨b2, (tgt ns (en (nd ns x).ents j).id), none⟩)), (((tgt ns (en (nd ns x).ents j).id) : Nat) : Int) = (((tgt ns (en (nd ns x).ents j).id) : Nat) : Int), (tgt ns (en (nd ns x).ents j).id) < ns.length, (⟨b2, 0, none⟩ : Addr).spot = none]) [o_, o_, ⟨[], some (tgt ns (en (nd ns x).ents j).id), none, none, some (.pointer (some ⟨b2, (tgt ns (en (nd ns x).ents j).id), none⟩))⟩, ⟨[.view 1 (.bool (decide ((tgt ns (en (nd ns x).ents j).id) ∈ mk2)))], none, none, none, none⟩, o_] [2, 5, 6, 7, 8, 9, 60] (fun _ _ => by kernel_rfl) ⟨RowA.cell (marksV_get htl2.1), by simp, rfl, htl2.1, rfl, trivial⟩ ?_
      refine TriL.nil (by kernel_rfl) ?_
      refine TriQ.next ?_
      refine Tri.condN (p := (tgt ns (en (nd ns x).ents j).id) ∈ mk2) (fun _ => by kernel_rfl) (fun h60 => ?_) (fun h60 => ?_)
      · refine Tri.seq ?_
        refine Tri.region ?_
        refine TriL.segK (k' := 3) (fr' := [(2, .pointer (some ⟨b1, 0, none⟩)), (5, .slice (some ⟨b2, 0, none⟩) (ns.length) (ns.length)), (6, .slice Ax (work2.length) (cx)), (7, .int .i64 (((x : Nat) : Int))), (8, .int .i64 (((j : Nat) : Int))), (9, .int .i64 ((((tgt ns (en (nd ns x).ents j).id) : Nat) : Int))), (63, .pointer (some ⟨b2, (tgt ns (en (nd ns x).ents j).id), none⟩))]) (obl := [(Value.pointer (some ⟨b2, 0 + (tgt ns (en (nd ns x).ents j).id) * 1, none⟩)) = (.pointer (some ⟨b2, (tgt ns (en (nd ns x).ents j).id), none⟩)), (((tgt ns (en (nd ns x).ents j).id) : Nat) : Int) = (((tgt ns (en (nd ns x).ents j).id) : Nat) : Int), (tgt ns (en (nd ns x).ents j).id) < ns.length, (⟨b2, 0, none⟩ : Addr).spot = none]) [o_, o_, ⟨[], some (tgt ns (en (nd ns x).ents j).id), none, none, some (.pointer (some ⟨b2, (tgt ns (en (nd ns x).ents j).id), none⟩))⟩] [2, 5, 6, 7, 8, 9, 63] (fun _ _ => by kernel_rfl) ⟨by simp, rfl, htl2.1, rfl, trivial⟩ ?_
        refine TriL.rowSet 1 ((tgt ns (en (nd ns x).ents j).id)) (d := none) (T := 4) (e := 4) (size := 1) (n := ns.length) (cap := ns.length) (g := b2) (xs := (marksV ns.length mk2)) (u := .bool true) (a := (.tmp 63)) (y := (.const (.bool true))) (fun _ => by kernel_rfl) (by kernel_rfl) (fun _ => by kernel_rfl) (fun _ => by kernel_rfl) (by kernel_rfl) rfl (by rw [marksV_len]; exact htl2.1) ?_
        refine TriL.partEq 1 (p := .abs (RowA 4 1 (some ⟨b2, 0, none⟩) ns.length ns.length ((marksV ns.length mk2).set ((tgt ns (en (nd ns x).ents j).id)) (.bool true)))) (p' := .abs (RowA 4 1 (some ⟨b2, 0, none⟩) ns.length ns.length (marksV ns.length ((tgt ns (en (nd ns x).ents j).id) :: mk2)))) (by kernel_rfl) (by rw [marksV_set]) ?_
        refine TriL.nil (by kernel_rfl) ?_
        refine TriQ.next ?_
        refine Tri.region ?_
        refine TriL.segN (k' := 3) (fr' := fun b4 => [(2, .pointer (some ⟨b1, 0, none⟩)), (5, .slice (some ⟨b2, 0, none⟩) (ns.length) (ns.length)), (7, .int .i64 (((x : Nat) : Int))), (8, .int .i64 (((j : Nat) : Int))), (64, .slice Ax (work2.length) (cx)), (66, .slice (some ⟨b4, 0, none⟩) (1) (1))]) (hps' := fun b4 => [.blk b1 [.slice A (ns.length) (c)] 24, .abs (RowA 4 1 (some ⟨b2, 0, none⟩) ns.length ns.length (marksV ns.length ((tgt ns (en (nd ns x).ents j).id) :: mk2))), .abs (RowA 3 1 Ax work2.length cx (natsV (work2).reverse)), .abs R, .blk b4 [.int .i64 ((((tgt ns (en (nd ns x).ents j).id) : Nat) : Int))] 3]) (obl := fun b4 => []) [o_, o_, o_] [2, 5, 7, 8, 64, 66] [0, 1, 2, 3, 4] (fun _ _ => by kernel_rfl) (fun b4 => trivial) (fun b4 => ?_)
        refine TriL.append 2 (d := (some 67)) (t := 60) (e := 3) (z := .int .i64 0) (size := 1) (bytes := 8) (n := work2.length) (cap := cx) (A := Ax) (xs := (natsV (work2).reverse)) (s := (.tmp 64)) (x := (.tmp 66)) (ats := #[60, 60]) (A' := some ⟨b4, 0, none⟩) (m := 1) (c' := 1) (news := [.int .i64 ((((tgt ns (en (nd ns x).ents j).id) : Nat) : Int))]) (fun _ => by kernel_rfl) rfl (by kernel_rfl) (fun _ => by kernel_rfl) (fun _ => by kernel_rfl) Try.underlying60 (by kernel_rfl) rfl (by decide) (rfl) (by simp [Value.oneCell']) (src_blk (j := 4) rfl) (by unfold maxLen; omega) (by omega) (fun A5 c6 => ?_)
        refine TriL.partEq 2 (p := .abs (RowA 3 1 A5 (work2.length + 1) c6 ((natsV (work2).reverse) ++ [.int .i64 ((((tgt ns (en (nd ns x).ents j).id) : Nat) : Int))]))) (p' := .abs (RowA 3 1 A5 (((tgt ns (en (nd ns x).ents j).id) :: work2).length) c6 (natsV ((tgt ns (en (nd ns x).ents j).id) :: work2).reverse))) (by kernel_rfl) (by rw [List.reverse_cons, natsV_snoc]; rfl) ?_
        refine TriL.slot 67 (.slice A5 (work2.length + 1) (c6)) (.slice A5 (((tgt ns (en (nd ns x).ents j).id) :: work2).length) (c6)) (fun _ => by kernel_rfl) (rfl) ?_
        refine TriL.segK (k' := 5) (fr' := [(2, .pointer (some ⟨b1, 0, none⟩)), (5, .slice (some ⟨b2, 0, none⟩) (ns.length) (ns.length)), (6, .slice A5 (((tgt ns (en (nd ns x).ents j).id) :: work2).length) (c6)), (7, .int .i64 (((x : Nat) : Int))), (8, .int .i64 (((j : Nat) : Int)))]) (obl := []) [o_] [2, 5, 6, 7, 8] (fun _ _ => by kernel_rfl) trivial ?_
        refine TriL.nil (by kernel_rfl) ?_
        refine TriQ.blockNormal ?_
        refine TriQ.next ?_
        refine Tri.region ?_
        refine TriL.segK (k' := 3) (fr' := [(2, .pointer (some ⟨b1, 0, none⟩)), (5, .slice (some ⟨b2, 0, none⟩) (ns.length) (ns.length)), (6, .slice A5 (((tgt ns (en (nd ns x).ents j).id) :: work2).length) (c6)), (7, .int .i64 (((x : Nat) : Int))), (8, .int .i64 (((j + 1 : Nat) : Int)))]) (obl := [(Value.int .i64 (IntKind.wrap .i64 (((j : Nat) : Int) + 1))) = (.int .i64 (((j + 1 : Nat) : Int)))]) [o_, ⟨[], none, none, none, some (.int .i64 (((j + 1 : Nat) : Int)))⟩, o_] [2, 5, 6, 7, 8] (fun _ _ => by kernel_rfl) ⟨wrapEq (by omega) (by omega) (by omega), trivial⟩ ?_
        refine TriL.nil (by kernel_rfl) ?_
        exact TriQ.turn ((j + 1), ((tgt ns (en (nd ns x).ents j).id) :: mk2), ((tgt ns (en (nd ns x).ents j).id) :: work2), A5, c6) (idx := [2, 5, 6, 7, 8]) (pk := [0, 1, 2, 3]) (show (((j + 1)) ≤ (nd ns x).ents.length) ∧ (DInv ns k (((tgt ns (en (nd ns x).ents j).id) :: mk2)) (((tgt ns (en (nd ns x).ents j).id) :: work2)) (some (x, ((j + 1))))) ∧ (x ∈ (((tgt ns (en (nd ns x).ents j).id) :: mk2))) ∧ (2 * (ns.length - (((tgt ns (en (nd ns x).ents j).id) :: mk2)).length) + (((tgt ns (en (nd ns x).ents j).id) :: work2)).length < 2 * (ns.length - mk.length) + work.length) from ⟨by omega, hin.new hxm (by omega) h60, List.mem_cons_of_mem _ hxm, by have := hin.few hok hk; have h3 := (hin.new hxm (by omega) h60).few hok hk; simp only [List.length_cons] at h3 ⊢; omega⟩) (by show (nd ns x).ents.length - ((j + 1)) < (nd ns x).ents.length - j; omega) (fun _ => by kernel_rfl) rfl (by kernel_rfl)
      · refine Tri.skip ?_
        refine TriQ.blockNormal ?_
        refine TriQ.next ?_
        refine Tri.region ?_
        refine TriL.segK (k' := 3) (fr' := [(2, .pointer (some ⟨b1, 0, none⟩)), (5, .slice (some ⟨b2, 0, none⟩) (ns.length) (ns.length)), (6, .slice Ax (work2.length) (cx)), (7, .int .i64 (((x : Nat) : Int))), (8, .int .i64 (((j + 1 : Nat) : Int)))]) (obl := [(Value.int .i64 (IntKind.wrap .i64 (((j : Nat) : Int) + 1))) = (.int .i64 (((j + 1 : Nat) : Int)))]) [o_, ⟨[], none, none, none, some (.int .i64 (((j + 1 : Nat) : Int)))⟩, o_] [2, 5, 6, 7, 8] (fun _ _ => by kernel_rfl) ⟨wrapEq (by omega) (by omega) (by omega), trivial⟩ ?_
        refine TriL.nil (by kernel_rfl) ?_
        exact TriQ.turn ((j + 1), mk2, work2, Ax, cx) (idx := [2, 5, 6, 7, 8]) (pk := [0, 1, 2, 3]) (show (((j + 1)) ≤ (nd ns x).ents.length) ∧ (DInv ns k mk2 work2 (some (x, ((j + 1))))) ∧ (x ∈ mk2) ∧ (2 * (ns.length - mk2.length) + work2.length < 2 * (ns.length - mk.length) + work.length) from ⟨by omega, hin.old h60, hxm, hmu2⟩) (by show (nd ns x).ents.length - ((j + 1)) < (nd ns x).ents.length - j; omega) (fun _ => by kernel_rfl) rfl (by kernel_rfl)
    · refine Tri.exit ?_
      refine TriQ.passExit ?_
      refine TriQ.passExit ?_
      refine TriQ.blockHit ?_
      refine TriQ.blockNormal ?_
      exact TriQ.turn (mk2, work2, Ax, cx) (idx := [2, 5, 6]) (pk := [0, 1, 2, 3]) (show (DInv ns k mk2 work2 none) ∧ (2 * (ns.length - mk2.length) + work2.length ≤ 2 * ns.length) from ⟨hin.end_ (by omega), by omega⟩) (by show 2 * (ns.length - mk2.length) + work2.length < 2 * (ns.length - mk.length) + work.length; omega) (fun _ => by kernel_rfl) rfl (by kernel_rfl)
  · refine Tri.exit ?_
    refine TriQ.passExit ?_
    refine TriQ.passExit ?_
    refine TriQ.blockHit ?_
    refine TriQ.next ?_
    refine Tri.seq ?_
    refine Tri.region ?_
    have hwn : work = [] := List.eq_nil_of_length_eq_zero (by omega)
    refine TriL.segK (k' := 2) (fr' := [(4, .slice (some ⟨b2, 0, none⟩) (ns.length) (ns.length))]) (obl := []) [o_, o_] [4] (fun _ _ => by kernel_rfl) trivial ?_
    refine TriL.nil (by kernel_rfl) ?_
    refine TriQ.next ?_
    refine Tri.ret ?_
    exact TriQ.ret (v := .slice (some ⟨b2, 0, none⟩) (ns.length) (ns.length)) (l := [.abs (RowA 4 1 (some ⟨b2, 0, none⟩) ns.length ns.length (marksV ns.length mk))]) (obl := []) [] [1, 3] (fun _ => by kernel_rfl) trivial rfl (by kernel_rfl) (⟨b2, mk, rfl, hwn ▸ hin, rfl⟩)
set_option maxRecDepth 100000 in
set_option maxHeartbeats 4000000 in
theorem sp_refUnder {β : Bs} (A : Option Addr) (c : Nat) (ns : List NodeM) (L : Lay) (hG : GraphAt β A ns L) (hB : GraphB ns 1048576) (root : Int) :
    SpecB Try.prog β 35 #[.agg #[.slice A ns.length c], .int .i64 root] [] (fun β' v l => ∃ B cap, v = .tuple #[.slice B (underG ns root).1.length cap, .int .i64 (underG ns root).2] ∧ l = [] ∧ RowB β' B (intsV (underG ns root).1)) := by
  refine SpecB.enter Try.func35 rfl Try.ntmps35 (Nat.le_of_ble_eq_true rfl) (fun hle0 R => ?_)
  refine Tri.seq ?_
  refine Tri.region ?_
  refine TriL.segN (k' := 3) (fr' := fun b7 => [(1, .int .i64 (root)), (2, .pointer (some ⟨b7, 0, none⟩))]) (hps' := fun b7 => [.abs R, .blk b7 [.slice A (ns.length) (c)] 24]) (obl := fun b7 => []) [o_, o_, o_] [1, 2] [0, 1] (fun _ _ => by kernel_rfl) (fun b7 => trivial) (fun b7 => ?_)
  refine TriL.nil (by kernel_rfl) ?_
  refine TriQ.next ?_
  refine Tri.seq ?_
  refine Tri.region ?_
  refine TriL.segK (k' := 2) (fr' := [(2, .pointer (some ⟨b7, 0, none⟩)), (12, .agg #[.slice A (ns.length) (c)]), (13, .int .i64 (root))]) (obl := [b7 = b7]) [⟨[.at 1], none, none, none, none⟩, o_] [2, 12, 13] (fun _ _ => by kernel_rfl) ⟨rfl, trivial⟩ ?_
  by_cases hbg : beginC ns root = 0
  · obtain ⟨hok, hat, hkd⟩ := beginC_zero hbg
    have htl := atI_lt hat
    refine TriL.call (f := 46) (args := #[.agg #[.slice A (ns.length) (c)], .int .i64 (root)]) (d := (some 14)) (pre := []) (R := [.abs R, .blk b7 [.slice A (ns.length) (c)] 24]) (pk := [0, 1]) (fun _ => by kernel_rfl) ((sp_refBegin A c ns L hG hB root).val (refB_ok hbg)) rfl (by kernel_rfl) ?_
    rintro _ _ ⟨rfl, rfl⟩
    refine TriL.segK (k' := 8) (fr' := [(2, .pointer (some ⟨b7, 0, none⟩)), (6, .int .i64 ((((tgt ns root) : Nat) : Int))), (7, .int .i64 0)]) (obl := []) [o_, o_, o_, o_, o_] [2, 6, 7] (fun _ _ => by kernel_rfl) trivial ?_
    refine TriL.nil (by kernel_rfl) ?_
    refine TriQ.next ?_
    refine Tri.seq ?_
    refine Tri.seq ?_
    refine Tri.region ?_
    refine TriL.segK (k' := 2) (fr' := [(2, .pointer (some ⟨b7, 0, none⟩)), (6, .int .i64 ((((tgt ns root) : Nat) : Int))), (7, .int .i64 0), (18, .bool false)]) (obl := []) [o_, o_] [2, 6, 7, 18] (fun _ _ => by kernel_rfl) trivial ?_
    refine TriL.nil (by kernel_rfl) ?_
    refine TriQ.next ?_
    refine Tri.condF (fun _ => by kernel_rfl) ?_
    refine Tri.skip ?_
    refine TriQ.next ?_
    refine Tri.seq ?_
    refine Tri.region ?_
    refine TriL.segK (k' := 2) (fr' := [(2, .pointer (some ⟨b7, 0, none⟩)), (20, .agg #[.slice A (ns.length) (c)]), (21, .int .i64 ((((tgt ns root) : Nat) : Int)))]) (obl := [b7 = b7]) [⟨[.at 1], none, none, none, none⟩, o_] [2, 20, 21] (fun _ _ => by kernel_rfl) ⟨rfl, trivial⟩ ?_
    refine TriL.call (f := 57) (args := #[.agg #[.slice A (ns.length) (c)], .int .i64 ((((tgt ns root) : Nat) : Int))]) (d := (some 22)) (pre := []) (R := [.abs R, .blk b7 [.slice A (ns.length) (c)] 24]) (pk := [0, 1]) (fun _ => by kernel_rfl) (sp_reach A c ns L hG hB hok (tgt ns root) htl.1) rfl (by kernel_rfl) ?_
    rintro _ _ ⟨mb, mk, rfl, hin, rfl⟩
    refine TriL.segK (k' := 4) (fr' := [(2, .pointer (some ⟨b7, 0, none⟩)), (8, .slice (some ⟨mb, 0, none⟩) (ns.length) (ns.length))]) (obl := []) [o_] [2, 8] (fun _ _ => by kernel_rfl) trivial ?_
    refine TriL.nil (by kernel_rfl) ?_
    refine TriQ.next ?_
    refine Tri.seq ?_
    refine Tri.region ?_
    refine TriL.segN (k' := 2) (fr' := fun b8 => [(2, .pointer (some ⟨b7, 0, none⟩)), (8, .slice (some ⟨mb, 0, none⟩) (ns.length) (ns.length)), (9, .slice (some ⟨b8, 0, none⟩) (0) (0))]) (hps' := fun b8 => [.abs (RowA 4 1 (some ⟨mb, 0, none⟩) ns.length ns.length (marksV ns.length mk)), .abs R, .blk b7 [.slice A (ns.length) (c)] 24, .blk b8 [] 3]) (obl := fun b8 => []) [o_, o_] [2, 8, 9] [0, 1, 2, 3] (fun _ _ => by kernel_rfl) (fun b8 => trivial) (fun b8 => ?_)
    refine TriL.nil (by kernel_rfl) ?_
    refine TriQ.next ?_
    refine Tri.seq ?_
    refine Tri.seq ?_
    refine Tri.region ?_
    refine TriL.mem (fun w hS => hS.toRow (i := 3) (b := b8) (cs := []) (e := 3) 1 0 (by kernel_rfl) rfl (by decide)) ?_
    refine TriL.partEq 3 (p := .abs (RowA 3 1 (some ⟨b8, 0, none⟩) 0 0 ([]))) (p' := .abs (RowA 3 1 (some ⟨b8, 0, none⟩) ((outI ns mk 0).length) 0 (intsV (outI ns mk 0)))) (by kernel_rfl) (rfl) ?_
    refine TriL.slot 9 (.slice (some ⟨b8, 0, none⟩) (0) (0)) (.slice (some ⟨b8, 0, none⟩) ((outI ns mk 0).length) (0)) (fun _ => by kernel_rfl) (rfl) ?_
    refine TriL.segK (k' := 1) (fr' := [(2, .pointer (some ⟨b7, 0, none⟩)), (8, .slice (some ⟨mb, 0, none⟩) (ns.length) (ns.length)), (9, .slice (some ⟨b8, 0, none⟩) ((outI ns mk 0).length) (0)), (10, .int .i64 0)]) (obl := []) [o_] [2, 8, 9, 10] (fun _ _ => by kernel_rfl) trivial ?_
    refine TriL.nil (by kernel_rfl) ?_
    refine TriQ.next ?_
    refine Tri.block ?_
    refine Tri.loop (ι := Nat × (Option Addr) × Nat) (fun ((i, Ao, co) : Nat × (Option Addr) × Nat) => (i ≤ ns.length)) (fun ((i, Ao, co) : Nat × (Option Addr) × Nat) => ns.length - i) (fun ((i, Ao, co) : Nat × (Option Addr) × Nat) => [(2, .pointer (some ⟨b7, 0, none⟩)), (8, .slice (some ⟨mb, 0, none⟩) (ns.length) (ns.length)), (9, .slice Ao ((outI ns mk i).length) (co)), (10, .int .i64 (((i : Nat) : Int)))]) (fun ((i, Ao, co) : Nat × (Option Addr) × Nat) => [.blk b7 [.slice A (ns.length) (c)] 24, .abs (RowA 4 1 (some ⟨mb, 0, none⟩) ns.length ns.length (marksV ns.length mk)), .abs (RowA 3 1 Ao ((outI ns mk i).length) co (intsV (outI ns mk i))), .abs R]) (0, some ⟨b8, 0, none⟩, 0) (idx := [2, 8, 9, 10]) (pk := [2, 0, 3, 1]) (show (0 ≤ ns.length) from Nat.zero_le _) (fun _ => by kernel_rfl) rfl (by kernel_rfl) ?_
    rintro ⟨i, Ao, co⟩ hi
    show Tri _ _ _ _ [(2, .pointer (some ⟨b7, 0, none⟩)), (8, .slice (some ⟨mb, 0, none⟩) (ns.length) (ns.length)), (9, .slice Ao ((outI ns mk i).length) (co)), (10, .int .i64 (((i : Nat) : Int)))] [.blk b7 [.slice A (ns.length) (c)] 24, .abs (RowA 4 1 (some ⟨mb, 0, none⟩) ns.length ns.length (marksV ns.length mk)), .abs (RowA 3 1 Ao ((outI ns mk i).length) co (intsV (outI ns mk i))), .abs R] _
    have hll := hB.hl
    refine Tri.seq ?_
    refine Tri.seq ?_
    refine Tri.region ?_
    refine TriL.segK (k' := 4) (fr' := [(2, .pointer (some ⟨b7, 0, none⟩)), (8, .slice (some ⟨mb, 0, none⟩) (ns.length) (ns.length)), (9, .slice Ao ((outI ns mk i).length) (co)), (10, .int .i64 (((i : Nat) : Int))), (27, .bool (decide ((((i : Nat) : Int) : Int) < (((ns.length : Nat) : Int) : Int))))]) (obl := []) [o_, o_, o_, o_] [2, 8, 9, 10, 27] (fun _ _ => by kernel_rfl) trivial ?_
    refine TriL.nil (by kernel_rfl) ?_
    refine TriQ.next ?_
    refine Tri.condP (p := (((i : Nat) : Int) : Int) < (((ns.length : Nat) : Int) : Int)) (fun _ => by kernel_rfl) (fun h27 => ?_) (fun h27 => ?_)
    · refine Tri.skip ?_
      refine TriQ.next ?_
      refine Tri.seq ?_
      refine Tri.block ?_
      refine Tri.seq ?_
      refine Tri.region ?_
      refine TriL.segK (k' := 4) (fr' := [(2, .pointer (some ⟨b7, 0, none⟩)), (8, .slice (some ⟨mb, 0, none⟩) (ns.length) (ns.length)), (9, .slice Ao ((outI ns mk i).length) (co)), (10, .int .i64 (((i : Nat) : Int))), (33, .bool (decide (i ∈ mk)))]) (obl := [(∀ F w, (RowA 4 1 (some ⟨mb, 0, none⟩) ns.length ns.length (marksV ns.length mk)).h F w → w.cell? ⟨mb, i, none⟩ = some (.bool (decide (i ∈ mk)))), (Value.pointer (some ⟨mb, 0 + i * 1, none⟩)) = (.pointer (some ⟨mb, i, none⟩)), ((i : Nat) : Int) = ((i : Nat) : Int), i < ns.length, (⟨mb, 0, none⟩ : Addr).spot = none]) [o_, o_, ⟨[], some i, none, none, some (.pointer (some ⟨mb, i, none⟩))⟩, ⟨[.view 1 (.bool (decide (i ∈ mk)))], none, none, none, none⟩] [2, 8, 9, 10, 33] (fun _ _ => by kernel_rfl) ⟨RowA.cell (marksV_get (by omega)), by simp, rfl, by omega, rfl, trivial⟩ ?_
      refine TriL.nil (by kernel_rfl) ?_
      refine TriQ.next ?_
      refine Tri.condP (p := i ∈ mk) (fun _ => by kernel_rfl) (fun h33 => ?_) (fun h33 => ?_)
      · refine Tri.region ?_
        refine TriL.segN (k' := 8) (fr' := fun b9 => [(2, .pointer (some ⟨b7, 0, none⟩)), (8, .slice (some ⟨mb, 0, none⟩) (ns.length) (ns.length)), (10, .int .i64 (((i : Nat) : Int))), (34, .slice Ao ((outI ns mk i).length) (co)), (41, .slice (some ⟨b9, 0, none⟩) (1) (1))]) (hps' := fun b9 => [.blk b7 [.slice A (ns.length) (c)] 24, .abs (RowA 4 1 (some ⟨mb, 0, none⟩) ns.length ns.length (marksV ns.length mk)), .abs (RowA 3 1 Ao ((outI ns mk i).length) co (intsV (outI ns mk i))), .abs R, .blk b9 [.int .i64 ((nd ns i).id)] 3]) (obl := fun b9 => [(Rd β ⟨(blkOf A), offOf A + i * 10, none⟩ (.int .i64 ((nd ns i).id))), ((i : Nat) : Int) = ((i : Nat) : Int), i < ns.length, (⟨(blkOf A), offOf A, none⟩ : Addr).spot = none, (A : Option Addr) = some ⟨(blkOf A), offOf A, none⟩, b7 = b7]) [o_, o_, ⟨[.at 0], none, none, none, none⟩, o_, ⟨[], some i, none, some ⟨(blkOf A), offOf A, none⟩, none⟩, o_, ⟨[.old (.int .i64 ((nd ns i).id))], none, none, none, none⟩, o_] [2, 8, 10, 34, 41] [0, 1, 2, 3, 4] (fun _ _ => by kernel_rfl) (fun b9 => ⟨GraphAt.rd hG (i := i) (by omega) (j := 0) rfl, rfl, by omega, rfl, GraphAt.hd hG (i := i) (by omega), rfl, trivial⟩) (fun b9 => ?_)
        refine TriL.append 2 (d := (some 42)) (t := 60) (e := 3) (z := .int .i64 0) (size := 1) (bytes := 8) (n := (outI ns mk i).length) (cap := co) (A := Ao) (xs := (intsV (outI ns mk i))) (s := (.tmp 34)) (x := (.tmp 41)) (ats := #[60, 60]) (A' := some ⟨b9, 0, none⟩) (m := 1) (c' := 1) (news := [.int .i64 ((nd ns i).id)]) (fun _ => by kernel_rfl) rfl (by kernel_rfl) (fun _ => by kernel_rfl) (fun _ => by kernel_rfl) Try.underlying60 (by kernel_rfl) rfl (by decide) (rfl) (by simp [Value.oneCell']) (src_blk (j := 4) rfl) (by unfold maxLen; have := outI_len ns mk i; omega) (by have := outI_len ns mk i; omega) (fun A10 c11 => ?_)
        refine TriL.partEq 2 (p := .abs (RowA 3 1 A10 (((outI ns mk i).length) + 1) c11 ((intsV (outI ns mk i)) ++ [.int .i64 ((nd ns i).id)]))) (p' := .abs (RowA 3 1 A10 ((outI ns mk (i + 1)).length) c11 (intsV (outI ns mk (i + 1))))) (by kernel_rfl) (by rw [← outI_hit h33, intsV_snoc, len_snoc]) ?_
        refine TriL.slot 42 (.slice A10 (((outI ns mk i).length) + 1) (c11)) (.slice A10 ((outI ns mk (i + 1)).length) (c11)) (fun _ => by kernel_rfl) (by rw [← outI_hit h33, len_snoc]) ?_
        refine TriL.segK (k' := 10) (fr' := [(2, .pointer (some ⟨b7, 0, none⟩)), (8, .slice (some ⟨mb, 0, none⟩) (ns.length) (ns.length)), (9, .slice A10 ((outI ns mk (i + 1)).length) (c11)), (10, .int .i64 (((i : Nat) : Int)))]) (obl := []) [o_] [2, 8, 9, 10] (fun _ _ => by kernel_rfl) trivial ?_
        refine TriL.nil (by kernel_rfl) ?_
        refine TriQ.blockNormal ?_
        refine TriQ.next ?_
        refine Tri.region ?_
        refine TriL.segK (k' := 3) (fr' := [(2, .pointer (some ⟨b7, 0, none⟩)), (8, .slice (some ⟨mb, 0, none⟩) (ns.length) (ns.length)), (9, .slice A10 ((outI ns mk (i + 1)).length) (c11)), (10, .int .i64 (((i + 1 : Nat) : Int)))]) (obl := [(Value.int .i64 (IntKind.wrap .i64 (((i : Nat) : Int) + 1))) = (.int .i64 (((i + 1 : Nat) : Int)))]) [o_, ⟨[], none, none, none, some (.int .i64 (((i + 1 : Nat) : Int)))⟩, o_] [2, 8, 9, 10] (fun _ _ => by kernel_rfl) ⟨wrapEq (by omega) (by omega) (by omega), trivial⟩ ?_
        refine TriL.nil (by kernel_rfl) ?_
        exact TriQ.turn ((i + 1), A10, c11) (idx := [2, 8, 9, 10]) (pk := [0, 1, 2, 3]) (show (((i + 1)) ≤ ns.length) from (by omega)) (by show ns.length - ((i + 1)) < ns.length - i; omega) (fun _ => by kernel_rfl) rfl (by kernel_rfl)
      · refine Tri.skip ?_
        refine TriQ.blockNormal ?_
        refine TriQ.next ?_
        refine Tri.region ?_
        refine TriL.partEq 2 (p := .abs (RowA 3 1 Ao ((outI ns mk i).length) co (intsV (outI ns mk i)))) (p' := .abs (RowA 3 1 Ao ((outI ns mk (i + 1)).length) co (intsV (outI ns mk (i + 1))))) (by kernel_rfl) (by rw [outI_miss h33]) ?_
        refine TriL.slot 9 (.slice Ao ((outI ns mk i).length) (co)) (.slice Ao ((outI ns mk (i + 1)).length) (co)) (fun _ => by kernel_rfl) (by rw [outI_miss h33]) ?_
        refine TriL.segK (k' := 3) (fr' := [(2, .pointer (some ⟨b7, 0, none⟩)), (8, .slice (some ⟨mb, 0, none⟩) (ns.length) (ns.length)), (9, .slice Ao ((outI ns mk (i + 1)).length) (co)), (10, .int .i64 (((i + 1 : Nat) : Int)))]) (obl := [(Value.int .i64 (IntKind.wrap .i64 (((i : Nat) : Int) + 1))) = (.int .i64 (((i + 1 : Nat) : Int)))]) [o_, ⟨[], none, none, none, some (.int .i64 (((i + 1 : Nat) : Int)))⟩, o_] [2, 8, 9, 10] (fun _ _ => by kernel_rfl) ⟨wrapEq (by omega) (by omega) (by omega), trivial⟩ ?_
        refine TriL.nil (by kernel_rfl) ?_
        exact TriQ.turn ((i + 1), Ao, co) (idx := [2, 8, 9, 10]) (pk := [0, 1, 2, 3]) (show (((i + 1)) ≤ ns.length) from (by omega)) (by show ns.length - ((i + 1)) < ns.length - i; omega) (fun _ => by kernel_rfl) rfl (by kernel_rfl)
    · refine Tri.exit ?_
      refine TriQ.passExit ?_
      refine TriQ.passExit ?_
      refine TriQ.blockHit ?_
      refine TriQ.next ?_
      refine Tri.seq ?_
      refine Tri.region ?_
      have hall : outI ns mk i = underL ns (tgt ns root) := by rw [show i = ns.length by omega]; exact outI_all hin
      refine TriL.rebase (Φ := fun β' => RowB β' Ao (intsV (outI ns mk i))) 2 [0, 1, 3] (hps' := [.blk b7 [.slice A (ns.length) (c)] 24, .abs (RowA 4 1 (some ⟨mb, 0, none⟩) ns.length ns.length (marksV ns.length mk)), .abs R]) rfl rfl (by kernel_rfl) (fun F w h β' h1 h2 => RowB.of_row h h1 h2) (fun β12 hle_β12 hR => ?_)
      replace hG := hG.le hle_β12
      replace hle0 := hle0.trans hle_β12
      refine TriL.segK (k' := 3) (fr' := [(4, .slice Ao ((outI ns mk i).length) (co)), (5, .int .i64 0)]) (obl := []) [o_, o_, o_] [4, 5] (fun _ _ => by kernel_rfl) trivial ?_
      refine TriL.nil (by kernel_rfl) ?_
      refine TriQ.next ?_
      refine Tri.ret ?_
      exact TriQ.retB (v := .tuple #[.slice Ao ((outI ns mk i).length) (co), .int .i64 0]) (l := []) (obl := []) [] [2] hle0 (fun _ => by kernel_rfl) trivial rfl (by kernel_rfl) (⟨Ao, co, by rw [underG_ok hbg, ← hall], rfl, by rw [underG_ok hbg, ← hall]; exact hR⟩)
  · refine TriL.call (f := 46) (args := #[.agg #[.slice A (ns.length) (c)], .int .i64 (root)]) (d := (some 14)) (pre := []) (R := [.abs R, .blk b7 [.slice A (ns.length) (c)] 24]) (pk := [0, 1]) (fun _ => by kernel_rfl) ((sp_refBegin A c ns L hG hB root).val (refB_bad hbg)) rfl (by kernel_rfl) ?_
    rintro _ _ ⟨rfl, rfl⟩
    refine TriL.segK (k' := 8) (fr' := [(2, .pointer (some ⟨b7, 0, none⟩)), (6, .int .i64 0), (7, .int .i64 ((beginC ns root)))]) (obl := []) [o_, o_, o_, o_, o_] [2, 6, 7] (fun _ _ => by kernel_rfl) trivial ?_
    refine TriL.nil (by kernel_rfl) ?_
    refine TriQ.next ?_
    refine Tri.seq ?_
    refine Tri.seq ?_
    refine Tri.region ?_
    refine TriL.segK (k' := 2) (fr' := [(2, .pointer (some ⟨b7, 0, none⟩)), (6, .int .i64 0), (7, .int .i64 ((beginC ns root))), (18, .bool (!(decide (((beginC ns root) : Int) = (0 : Int)))))]) (obl := []) [o_, o_] [2, 6, 7, 18] (fun _ _ => by kernel_rfl) trivial ?_
    refine TriL.nil (by kernel_rfl) ?_
    refine TriQ.next ?_
    refine Tri.condN (p := ((beginC ns root) : Int) = (0 : Int)) (fun _ => by kernel_rfl) (fun h18 => ?_) (fun h18 => ?_)
    · refine Tri.seq ?_
      refine Tri.region ?_
      refine TriL.segK (k' := 3) (fr' := [(4, .slice none (0) (0)), (5, .int .i64 ((beginC ns root)))]) (obl := []) [o_, o_, o_] [4, 5] (fun _ _ => by kernel_rfl) trivial ?_
      refine TriL.nil (by kernel_rfl) ?_
      refine TriQ.next ?_
      refine Tri.ret ?_
      refine TriQ.passRet ?_
      exact TriQ.retB (v := .tuple #[.slice none (0) (0), .int .i64 ((beginC ns root))]) (l := []) (obl := []) [] [0] hle0 (fun _ => by kernel_rfl) trivial rfl (by kernel_rfl) (⟨none, 0, by rw [underG_bad hbg]; rfl, rfl, by rw [underG_bad hbg]; exact RowB.nil⟩)
    · exact absurd h18 hbg
set_option maxRecDepth 100000 in
set_option maxHeartbeats 4000000 in
theorem sp_sameInts {β : Bs} (A1 A2 : Option Addr) (c1 c2 : Nat) (d1 d2 : List Int) (hA1 : RowB β A1 (intsV d1)) (hA2 : RowB β A2 (intsV d2)) (hl : d1.length ≤ 16777216) :
    Spec Try.prog β 36 #[.slice A1 d1.length c1, .slice A2 d2.length c2] [] (fun v l => v = .bool (decide (d1 = d2)) ∧ l = []) := by
  refine Spec.enter Try.func36 rfl Try.ntmps36 (Nat.le_of_ble_eq_true rfl) (fun R => ?_)
  refine Tri.seq ?_
  refine Tri.region ?_
  refine TriL.segK (k' := 1) (fr' := [(0, .slice A1 (d1.length) (c1)), (1, .slice A2 (d2.length) (c2))]) (obl := []) [o_] [0, 1] (fun _ _ => by kernel_rfl) trivial ?_
  refine TriL.nil (by kernel_rfl) ?_
  refine TriQ.next ?_
  refine Tri.seq ?_
  refine Tri.seq ?_
  refine Tri.region ?_
  refine TriL.segK (k' := 5) (fr' := [(0, .slice A1 (d1.length) (c1)), (1, .slice A2 (d2.length) (c2)), (10, .bool (!(decide ((((d1.length : Nat) : Int) : Int) = (((d2.length : Nat) : Int) : Int)))))]) (obl := []) [o_, o_, o_, o_, o_] [0, 1, 10] (fun _ _ => by kernel_rfl) trivial ?_
  refine TriL.nil (by kernel_rfl) ?_
  refine TriQ.next ?_
  refine Tri.condN (p := (((d1.length : Nat) : Int) : Int) = (((d2.length : Nat) : Int) : Int)) (fun _ => by kernel_rfl) (fun h10 => ?_) (fun h10 => ?_)
  · refine Tri.seq ?_
    refine Tri.region ?_
    refine TriL.segK (k' := 1) (fr' := [(4, .bool false)]) (obl := []) [o_] [4] (fun _ _ => by kernel_rfl) trivial ?_
    refine TriL.nil (by kernel_rfl) ?_
    refine TriQ.next ?_
    refine Tri.ret ?_
    refine TriQ.passRet ?_
    exact TriQ.ret (v := .bool false) (l := []) (obl := []) [] [0] (fun _ => by kernel_rfl) trivial rfl (by kernel_rfl) (⟨by rw [decide_eq_false (fun e => h10 (by rw [e]))], rfl⟩)
  · refine Tri.skip ?_
    refine TriQ.next ?_
    refine Tri.seq ?_
    refine Tri.seq ?_
    refine Tri.region ?_
    refine TriL.segK (k' := 1) (fr' := [(0, .slice A1 (d1.length) (c1)), (1, .slice A2 (d2.length) (c2)), (5, .int .i64 0)]) (obl := []) [o_] [0, 1, 5] (fun _ _ => by kernel_rfl) trivial ?_
    refine TriL.nil (by kernel_rfl) ?_
    refine TriQ.next ?_
    refine Tri.block ?_
    refine Tri.loop (ι := Nat) (fun (i : Nat) => (i ≤ d1.length) ∧ (∀ j, j < i → d1.getD j 0 = d2.getD j 0)) (fun (i : Nat) => d1.length - i) (fun (i : Nat) => [(0, .slice A1 (d1.length) (c1)), (1, .slice A2 (d2.length) (c2)), (5, .int .i64 (((i : Nat) : Int)))]) (fun (i : Nat) => [.abs R]) 0 (idx := [0, 1, 5]) (pk := [0]) (show (0 ≤ d1.length) ∧ (∀ j, j < 0 → d1.getD j 0 = d2.getD j 0) from ⟨Nat.zero_le _, fun j hj => absurd hj (Nat.not_lt_zero j)⟩) (fun _ => by kernel_rfl) rfl (by kernel_rfl) ?_
    rintro i ⟨hi, hall⟩
    show Tri _ _ _ _ [(0, .slice A1 (d1.length) (c1)), (1, .slice A2 (d2.length) (c2)), (5, .int .i64 (((i : Nat) : Int)))] [.abs R] _
    refine Tri.seq ?_
    refine Tri.seq ?_
    refine Tri.region ?_
    refine TriL.segK (k' := 4) (fr' := [(0, .slice A1 (d1.length) (c1)), (1, .slice A2 (d2.length) (c2)), (5, .int .i64 (((i : Nat) : Int))), (14, .bool (decide ((((i : Nat) : Int) : Int) < (((d1.length : Nat) : Int) : Int))))]) (obl := []) [o_, o_, o_, o_] [0, 1, 5, 14] (fun _ _ => by kernel_rfl) trivial ?_
    refine TriL.nil (by kernel_rfl) ?_
    refine TriQ.next ?_
    refine Tri.condP (p := (((i : Nat) : Int) : Int) < (((d1.length : Nat) : Int) : Int)) (fun _ => by kernel_rfl) (fun h14 => ?_) (fun h14 => ?_)
    · refine Tri.skip ?_
      refine TriQ.next ?_
      refine Tri.seq ?_
      refine Tri.block ?_
      refine Tri.seq ?_
      refine Tri.regionQ (by kernel_rfl) (by kernel_rfl) ?_
      refine TriLQ.seg (k' := 9) (fr' := [(0, .slice A1 (d1.length) (c1)), (1, .slice A2 (d2.length) (c2)), (5, .int .i64 (((i : Nat) : Int))), (25, .bool (!(decide (((d1.getD i 0) : Int) = ((d2.getD i 0) : Int)))))]) (obl := [(Rd β ⟨(blkOf A2), offOf A2 + i * 1, none⟩ (.int .i64 ((d2.getD i 0)))), ((i : Nat) : Int) = ((i : Nat) : Int), i < d2.length, (⟨(blkOf A2), offOf A2, none⟩ : Addr).spot = none, (A2 : Option Addr) = some ⟨(blkOf A2), offOf A2, none⟩, (Rd β ⟨(blkOf A1), offOf A1 + i * 1, none⟩ (.int .i64 ((d1.getD i 0)))), ((i : Nat) : Int) = ((i : Nat) : Int), i < d1.length, (⟨(blkOf A1), offOf A1, none⟩ : Addr).spot = none, (A1 : Option Addr) = some ⟨(blkOf A1), offOf A1, none⟩]) [o_, o_, ⟨[], some i, none, some ⟨(blkOf A1), offOf A1, none⟩, none⟩, ⟨[.old (.int .i64 ((d1.getD i 0)))], none, none, none, none⟩, o_, o_, ⟨[], some i, none, some ⟨(blkOf A2), offOf A2, none⟩, none⟩, ⟨[.old (.int .i64 ((d2.getD i 0)))], none, none, none, none⟩, o_] [0, 1, 5, 25] (fun _ _ => by kernel_rfl) ⟨IntsAt.rd hA2 (by omega), rfl, by omega, rfl, IntsAt.hd hA2 (j := i) (by omega), IntsAt.rd hA1 (by omega), rfl, by omega, rfl, IntsAt.hd hA1 (j := i) (by omega), trivial⟩ ?_
      refine TriLQ.nil (by kernel_rfl) ?_
      refine TriQ.next ?_
      refine Tri.condN (p := ((d1.getD i 0) : Int) = ((d2.getD i 0) : Int)) (fun _ => by kernel_rfl) (fun h25 => ?_) (fun h25 => ?_)
      · refine Tri.seq ?_
        refine Tri.region ?_
        refine TriL.segK (k' := 1) (fr' := [(4, .bool false)]) (obl := []) [o_] [4] (fun _ _ => by kernel_rfl) trivial ?_
        refine TriL.nil (by kernel_rfl) ?_
        refine TriQ.next ?_
        refine Tri.ret ?_
        refine TriQ.blockRet ?_
        refine TriQ.passRet ?_
        refine TriQ.passRet ?_
        refine TriQ.blockRet ?_
        refine TriQ.passRet ?_
        exact TriQ.ret (v := .bool false) (l := []) (obl := []) [] [0] (fun _ => by kernel_rfl) trivial rfl (by kernel_rfl) (⟨by rw [decide_eq_false (fun e => h25 (by rw [e]))], rfl⟩)
      · refine Tri.skip ?_
        refine TriQ.blockNormal ?_
        refine TriQ.next ?_
        refine Tri.region ?_
        refine TriL.segK (k' := 3) (fr' := [(0, .slice A1 (d1.length) (c1)), (1, .slice A2 (d2.length) (c2)), (5, .int .i64 (((i + 1 : Nat) : Int)))]) (obl := [(Value.int .i64 (IntKind.wrap .i64 (((i : Nat) : Int) + 1))) = (.int .i64 (((i + 1 : Nat) : Int)))]) [o_, ⟨[], none, none, none, some (.int .i64 (((i + 1 : Nat) : Int)))⟩, o_] [0, 1, 5] (fun _ _ => by kernel_rfl) ⟨wrapEq (by omega) (by omega) (by omega), trivial⟩ ?_
        refine TriL.nil (by kernel_rfl) ?_
        exact TriQ.turn ((i + 1)) (idx := [0, 1, 5]) (pk := [0]) (show (((i + 1)) ≤ d1.length) ∧ (∀ j, j < ((i + 1)) → d1.getD j 0 = d2.getD j 0) from ⟨by omega, fun j hj => by rcases Nat.lt_succ_iff_lt_or_eq.1 hj with h | h; exact hall j h; subst h; exact h25⟩) (by show d1.length - ((i + 1)) < d1.length - i; omega) (fun _ => by kernel_rfl) rfl (by kernel_rfl)
    · refine Tri.exit ?_
      refine TriQ.passExit ?_
      refine TriQ.passExit ?_
      refine TriQ.blockHit ?_
      refine TriQ.next ?_
      refine Tri.seq ?_
      refine Tri.region ?_
      refine TriL.segK (k' := 1) (fr' := [(4, .bool true)]) (obl := []) [o_] [4] (fun _ _ => by kernel_rfl) trivial ?_
      refine TriL.nil (by kernel_rfl) ?_
      refine TriQ.next ?_
      refine Tri.ret ?_
      exact TriQ.ret (v := .bool true) (l := []) (obl := []) [] [0] (fun _ => by kernel_rfl) trivial rfl (by kernel_rfl) (⟨by rw [decide_eq_true (ext_getD (x := 0) (by omega) (fun j hj => hall j (by omega)))], rfl⟩)
end Go.Proofs.Ytjpdcppdoonmdaa
