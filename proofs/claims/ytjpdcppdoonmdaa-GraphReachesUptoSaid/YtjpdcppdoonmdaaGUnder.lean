/-
  PROVED HERE: graph.Under
  CONDITIONS: as the theorems say. Printed by a program of this repo (wip/v).
-/
import Derived.Test.YtjpdcppdoonmdaaGU
namespace Go.Proofs.Ytjpdcppdoonmdaa
open Go.RowKit
attribute [local irreducible] TriL TriLQ Tri TriQ
set_option maxRecDepth 100000 in
set_option maxHeartbeats 4000000 in
theorem sp_under {β : Bs} (A : Option Addr) (c : Nat) (ns : List NodeM) (L : Lay) (hG : GraphAt β A ns L) (hB : GraphB ns 1048576) (root : Int) (hz : I64 root) :
    SpecB Try.prog β 34 #[.agg #[.slice A ns.length c], .int .i64 root] [] (fun β' v l => ∃ B cap, v = .tuple #[.slice B (underG ns root).1.length cap, .int .i64 (underG ns root).2] ∧ l = [] ∧ RowB β' B (intsV (underG ns root).1)) := by
  refine SpecB.enter Try.func34 rfl Try.ntmps34 (Nat.le_of_ble_eq_true rfl) (fun hle0 R => ?_)
  refine Tri.seq ?_
  refine Tri.region ?_
  refine TriL.segN (k' := 3) (fr' := fun b1 => [(1, .int .i64 (root)), (2, .pointer (some ⟨b1, 0, none⟩))]) (hps' := fun b1 => [.abs R, .blk b1 [.slice A (ns.length) (c)] 24]) (obl := fun b1 => []) [o_, o_, o_] [1, 2] [0, 1] (fun _ _ => by kernel_rfl) (fun b1 => trivial) (fun b1 => ?_)
  refine TriL.nil (by kernel_rfl) ?_
  refine TriQ.next ?_
  refine Tri.seq ?_
  refine Tri.region ?_
  refine TriL.segK (k' := 2) (fr' := [(17, .agg #[.slice A (ns.length) (c)]), (18, .int .i64 (root))]) (obl := [b1 = b1]) [⟨[.at 1], none, none, none, none⟩, o_] [17, 18] (fun _ _ => by kernel_rfl) ⟨rfl, trivial⟩ ?_
  refine TriL.call (f := 42) (args := #[.agg #[.slice A (ns.length) (c)], .int .i64 (root)]) (d := (some 19)) (pre := []) (R := [.abs R, .blk b1 [.slice A (ns.length) (c)] 24]) (pk := [0, 1]) (fun _ => by kernel_rfl) (sp_begin A c ns L hG hB root hz) rfl (by kernel_rfl) ?_
  rintro _ _ (⟨mb, rfl, hbg, rfl⟩ | ⟨x, y, rfl, hbg, rfl⟩)
  · obtain ⟨hok, hat, hkd⟩ := beginC_zero hbg
    have htl := atI_lt hat
    refine TriL.segK (k' := 10) (fr' := [(6, .map (some mb)), (7, .pointer (some ⟨(blkOf A), offOf A + (tgt ns root) * 10, none⟩)), (8, .int .i64 0)]) (obl := []) [o_, o_, o_, o_, o_, o_, o_] [6, 7, 8] (fun _ _ => by kernel_rfl) trivial ?_
    refine TriL.nil (by kernel_rfl) ?_
    refine TriQ.next ?_
    refine Tri.seq ?_
    refine Tri.seq ?_
    refine Tri.region ?_
    refine TriL.segK (k' := 2) (fr' := [(6, .map (some mb)), (7, .pointer (some ⟨(blkOf A), offOf A + (tgt ns root) * 10, none⟩)), (8, .int .i64 0), (24, .bool false)]) (obl := []) [o_, o_] [6, 7, 8, 24] (fun _ _ => by kernel_rfl) trivial ?_
    refine TriL.nil (by kernel_rfl) ?_
    refine TriQ.next ?_
    refine Tri.condF (fun _ => by kernel_rfl) ?_
    refine Tri.skip ?_
    refine TriQ.next ?_
    refine Tri.seq ?_
    refine Tri.region ?_
    refine TriL.mapMake (d := (some 26)) (t := 96) (fun _ => by kernel_rfl) Try.prog rfl 3 (fun m2 => ?_)
    refine TriL.segK (k' := 2) (fr' := [(6, .map (some mb)), (7, .pointer (some ⟨(blkOf A), offOf A + (tgt ns root) * 10, none⟩)), (9, .map (some m2))]) (obl := []) [o_] [6, 7, 9] (fun _ _ => by kernel_rfl) trivial ?_
    refine TriL.nil (by kernel_rfl) ?_
    refine TriQ.next ?_
    refine Tri.seq ?_
    refine Tri.region ?_
    refine TriL.segN (k' := 2) (fr' := fun b3 => [(6, .map (some mb)), (9, .map (some m2)), (28, .slice (some ⟨b3, 0, none⟩) (1) (1))]) (hps' := fun b3 => [.abs (MapA Try.prog 3 mb (mf (bf A ns ns.length)) ns.length), .abs R, .blk b1 [.slice A (ns.length) (c)] 24, .abs (MapA Try.prog 3 m2 (fun _ => none) 0), .blk b3 [.pointer (some ⟨(blkOf A), offOf A + (tgt ns root) * 10, none⟩)] 75]) (obl := fun b3 => []) [o_, o_] [6, 9, 28] [0, 1, 2, 3, 4] (fun _ _ => by kernel_rfl) (fun b3 => trivial) (fun b3 => ?_)
    refine TriL.partEq 3 (p := .abs (MapA Try.prog 3 m2 (fun _ => none) 0)) (p' := .abs (MapA Try.prog 3 m2 (mf (sf ns ([] : List Nat))) (([] : List Nat).length))) (by kernel_rfl) (by rw [sf_zero]; rfl) ?_
    refine TriL.mem (fun w hS => hS.toTail (i := 4) (b := b3) (cs := [.pointer (some ⟨(blkOf A), offOf A + (tgt ns root) * 10, none⟩)]) (e := 75) 1 1 (by kernel_rfl) rfl (by decide)) ?_
    refine TriL.partEq 4 (p := .abs (TailA 75 1 (some ⟨b3, 0, none⟩) 1 1 ([.pointer (some ⟨(blkOf A), offOf A + (tgt ns root) * 10, none⟩)]))) (p' := .abs (TailA 75 1 (some ⟨b3, 0, none⟩) 1 1 (ptrsV A ([tgt ns root])))) (by kernel_rfl) (rfl) ?_
    refine TriL.segK (k' := 3) (fr' := [(6, .map (some mb)), (9, .map (some m2)), (10, .slice (some ⟨b3, 0, none⟩) (1) (1))]) (obl := []) [o_] [6, 9, 10] (fun _ _ => by kernel_rfl) trivial ?_
    refine TriL.nil (by kernel_rfl) ?_
    refine TriQ.next ?_
    refine Tri.seq ?_
    refine Tri.block ?_
    refine Tri.loop (ι := (List Nat) × (List Nat) × (Option Addr) × Nat) (fun ((seen, work, Aw, cw) : (List Nat) × (List Nat) × (Option Addr) × Nat) => (RInv ns (tgt ns root) seen work) ∧ (seen.Nodup) ∧ (work.length + restE ns seen ns.length ≤ 8193)) (fun ((seen, work, Aw, cw) : (List Nat) × (List Nat) × (Option Addr) × Nat) => work.length + restE ns seen ns.length) (fun ((seen, work, Aw, cw) : (List Nat) × (List Nat) × (Option Addr) × Nat) => [(6, .map (some mb)), (9, .map (some m2)), (10, .slice Aw (work.length) (cw))]) (fun ((seen, work, Aw, cw) : (List Nat) × (List Nat) × (Option Addr) × Nat) => [.abs (MapA Try.prog 3 mb (mf (bf A ns ns.length)) ns.length), .abs (MapA Try.prog 3 m2 (mf (sf ns seen)) seen.length), .abs (TailA 75 1 Aw work.length cw (ptrsV A work)), .abs R]) (([] : List Nat), [tgt ns root], some ⟨b3, 0, none⟩, 1) (idx := [6, 9, 10]) (pk := [0, 3, 4, 1]) (show (RInv ns (tgt ns root) (([] : List Nat)) ([tgt ns root])) ∧ ((([] : List Nat)).Nodup) ∧ (([tgt ns root]).length + restE ns (([] : List Nat)) ns.length ≤ 8193) from ⟨⟨.inr (List.mem_cons_self ..), fun i hi => by rcases hi with hi | hi; cases hi; rw [List.mem_singleton.1 hi]; exact .refl, fun i hi => by cases hi⟩, List.nodup_nil, by have := restE_sum ns [] ns.length; have := hok.sum; show 1 + _ ≤ _; omega⟩) (fun _ => by kernel_rfl) rfl (by kernel_rfl) ?_
    rintro ⟨seen, work, Aw, cw⟩ ⟨hinv, hnd, hmu⟩
    show Tri _ _ _ _ [(6, .map (some mb)), (9, .map (some m2)), (10, .slice Aw (work.length) (cw))] [.abs (MapA Try.prog 3 mb (mf (bf A ns ns.length)) ns.length), .abs (MapA Try.prog 3 m2 (mf (sf ns seen)) seen.length), .abs (TailA 75 1 Aw work.length cw (ptrsV A work)), .abs R] _
    refine Tri.seq ?_
    refine Tri.seq ?_
    refine Tri.region ?_
    refine TriL.segK (k' := 3) (fr' := [(6, .map (some mb)), (9, .map (some m2)), (10, .slice Aw (work.length) (cw)), (31, .bool (decide ((((work.length : Nat) : Int) : Int) > (0 : Int))))]) (obl := []) [o_, o_, o_] [6, 9, 10, 31] (fun _ _ => by kernel_rfl) trivial ?_
    refine TriL.nil (by kernel_rfl) ?_
    refine TriQ.next ?_
    refine Tri.condP (p := (((work.length : Nat) : Int) : Int) > (0 : Int)) (fun _ => by kernel_rfl) (fun h31 => ?_) (fun h31 => ?_)
    · obtain ⟨x, rest, hw⟩ : ∃ x g2, work = x :: g2 := List.exists_cons_of_length_pos (by omega)
      have hx : x < ns.length := (hinv.reach x (.inr (by rw [hw]; exact List.mem_cons_self ..))).lt hok htl.1
      have hwl : work.length = rest.length + 1 := by rw [hw]; rfl
      have hfew := nodup_lt ns.length seen hnd (fun i hi => (hinv.reach i (.inl hi)).lt hok htl.1)
      have hll := hB.hl
      have hd3 := hB.hd x hx
      refine Tri.skip ?_
      refine TriQ.next ?_
      refine Tri.block ?_
      refine Tri.seq ?_
      refine Tri.region ?_
      refine TriL.segK (k' := 1) (fr' := [(6, .map (some mb)), (9, .map (some m2)), (10, .slice Aw (work.length) (cw)), (32, .slice Aw (work.length) (cw))]) (obl := []) [o_] [6, 9, 10, 32] (fun _ _ => by kernel_rfl) trivial ?_
      refine TriL.tell (p := (Aw = some ⟨blkOf Aw, offOf Aw, none⟩)) (fun w hS => let ⟨F, h⟩ := hS.get (i := 2) rfl; (TailA.len h).2.2) (fun hAw => ?_)
      refine TriL.segK (k' := 4) (fr' := [(6, .map (some mb)), (9, .map (some m2)), (10, .slice Aw (work.length) (cw)), (11, .pointer (some ⟨(blkOf A), offOf A + x * 10, none⟩))]) (obl := [(∀ F w, (TailA 75 1 Aw work.length cw (ptrsV A work)).h F w → w.cell? ⟨(blkOf Aw), offOf Aw + 0 * 1, none⟩ = some (.pointer (some ⟨(blkOf A), offOf A + x * 10, none⟩))), 0 = ((0 : Nat) : Int), 0 < work.length, (⟨(blkOf Aw), offOf Aw, none⟩ : Addr).spot = none, (Aw : Option Addr) = some ⟨(blkOf Aw), offOf Aw, none⟩]) [⟨[], some 0, none, some ⟨(blkOf Aw), offOf Aw, none⟩, none⟩, ⟨[.view 2 (.pointer (some ⟨(blkOf A), offOf A + x * 10, none⟩))], none, none, none, none⟩, o_] [6, 9, 10, 11] (fun _ _ => by kernel_rfl) ⟨TailA.cellAt (i := 0) (j := 0) (by rw [hw]; rfl), rfl, by omega, rfl, hAw, trivial⟩ ?_
      refine TriL.nil (by kernel_rfl) ?_
      refine TriQ.next ?_
      refine Tri.seq ?_
      refine Tri.region ?_
      refine TriL.segK (k' := 1) (fr' := [(6, .map (some mb)), (9, .map (some m2)), (11, .pointer (some ⟨(blkOf A), offOf A + x * 10, none⟩)), (35, .slice Aw (work.length) (cw))]) (obl := []) [o_] [6, 9, 11, 35] (fun _ _ => by kernel_rfl) trivial ?_
      refine TriL.tailSlice 2 (d := (some 36)) (t := 97) (e := 75) (size := 1) (m := 1) (n := work.length) (cap := cw) (A := Aw) (xs := (ptrsV A work)) (x := (.tmp 35)) (lo := (.const (.int .i64 1))) (fun _ => by kernel_rfl) (by kernel_rfl) (fun _ => by kernel_rfl) (fun _ => by kernel_rfl) Try.underlying97 (by kernel_rfl) (by omega) (fun A4 => ?_)
      refine TriL.partEq 2 (p := .abs (TailA 75 1 A4 (work.length - 1) (cw - 1) ((ptrsV A work).drop (1 * 1)))) (p' := .abs (TailA 75 1 A4 rest.length (cw - 1) (ptrsV A rest))) (by kernel_rfl) (by rw [hw]; rfl) ?_
      refine TriL.slot 36 (.slice A4 ((work.length - 1)) ((cw - 1))) (.slice A4 (rest.length) ((cw - 1))) (fun _ => by kernel_rfl) (by rw [hw]; rfl) ?_
      refine TriL.segK (k' := 3) (fr' := [(6, .map (some mb)), (9, .map (some m2)), (10, .slice A4 (rest.length) ((cw - 1))), (11, .pointer (some ⟨(blkOf A), offOf A + x * 10, none⟩))]) (obl := []) [o_] [6, 9, 10, 11] (fun _ _ => by kernel_rfl) trivial ?_
      refine TriL.nil (by kernel_rfl) ?_
      refine TriQ.next ?_
      refine Tri.seq ?_
      refine Tri.seq ?_
      refine Tri.region ?_
      refine TriL.segK (k' := 5) (fr' := [(6, .map (some mb)), (9, .map (some m2)), (10, .slice A4 (rest.length) ((cw - 1))), (11, .pointer (some ⟨(blkOf A), offOf A + x * 10, none⟩)), (38, .map (some m2)), (42, .int .i64 ((nd ns x).id))]) (obl := [(Rd β ⟨(blkOf A), offOf A + x * 10, none⟩ (.int .i64 ((nd ns x).id)))]) [o_, o_, o_, o_, ⟨[.old (.int .i64 ((nd ns x).id))], none, none, none, none⟩] [6, 9, 10, 11, 38, 42] (fun _ _ => by kernel_rfl) ⟨GraphAt.rd hG (i := x) (by omega) (j := 0) rfl, trivial⟩ ?_
      by_cases hsn : x ∈ seen
      · refine TriL.mapLookOk 1 (d := (some 43)) (t := 96) (K := 3) (E := 98) (b := m2) (n := seen.length) (f := (mf (sf ns seen))) (x := (.tmp 38)) (ix := (.tmp 42)) (key := .int .i64 ((nd ns x).id)) (z := .agg #[]) (kl := (.int .i64 (nd ns x).id)) (r := (some (.agg #[]))) (fun _ => by kernel_rfl) (by kernel_rfl) (fun _ => by kernel_rfl) (fun _ => by kernel_rfl) lawI Try.underlying96 (fun _ => by kernel_rfl) (keyI (hB.node x hx).ids.1.1 (hB.node x hx).ids.1.2) (sf_in hok.rise hx hsn) ?_
        refine TriL.segN (k' := 12) (fr' := fun b5 => [(6, .map (some mb)), (9, .map (some m2)), (10, .slice A4 (rest.length) ((cw - 1))), (11, .pointer (some ⟨(blkOf A), offOf A + x * 10, none⟩)), (13, .bool true)]) (hps' := fun b5 => [.abs (MapA Try.prog 3 mb (mf (bf A ns ns.length)) ns.length), .abs (MapA Try.prog 3 m2 (mf (sf ns seen)) seen.length), .abs (TailA 75 1 A4 rest.length (cw - 1) (ptrsV A rest)), .abs R, .blk b5 [] 98]) (obl := fun b5 => []) [o_, o_, o_, o_, o_, o_] [6, 9, 10, 11, 13] [0, 1, 2, 3, 4] (fun _ _ => by kernel_rfl) (fun b5 => trivial) (fun b5 => ?_)
        refine TriL.nil (by kernel_rfl) ?_
        refine TriQ.next ?_
        refine Tri.seq ?_
        refine Tri.region ?_
        refine TriL.segK (k' := 1) (fr' := [(6, .map (some mb)), (9, .map (some m2)), (10, .slice A4 (rest.length) ((cw - 1))), (11, .pointer (some ⟨(blkOf A), offOf A + x * 10, none⟩)), (46, .bool true)]) (obl := []) [o_] [6, 9, 10, 11, 46] (fun _ _ => by kernel_rfl) trivial ?_
        refine TriL.nil (by kernel_rfl) ?_
        refine TriQ.next ?_
        refine Tri.condT (fun _ => by kernel_rfl) ?_
        refine Tri.exit ?_
        refine TriQ.passExit ?_
        refine TriQ.blockHit ?_
        exact TriQ.turn (seen, rest, A4, (cw - 1)) (idx := [6, 9, 10]) (pk := [0, 1, 2, 3]) (show (RInv ns (tgt ns root) seen rest) ∧ (seen.Nodup) ∧ (rest.length + restE ns seen ns.length ≤ 8193) from ⟨(hw ▸ hinv : RInv ns _ seen (x :: rest)).old hsn, hnd, by omega⟩) (by show rest.length + restE ns seen ns.length < work.length + restE ns seen ns.length; first | omega | (have hre := restE_new (ns := ns) hsn ns.length hx; rw [List.length_append, tgts_len]; omega)) (fun _ => by kernel_rfl) rfl (by kernel_rfl)
      · refine TriL.mapLookOk 1 (d := (some 43)) (t := 96) (K := 3) (E := 98) (b := m2) (n := seen.length) (f := (mf (sf ns seen))) (x := (.tmp 38)) (ix := (.tmp 42)) (key := .int .i64 ((nd ns x).id)) (z := .agg #[]) (kl := (.int .i64 (nd ns x).id)) (r := none) (fun _ => by kernel_rfl) (by kernel_rfl) (fun _ => by kernel_rfl) (fun _ => by kernel_rfl) lawI Try.underlying96 (fun _ => by kernel_rfl) (keyI (hB.node x hx).ids.1.1 (hB.node x hx).ids.1.2) (sf_out hok.rise hx hsn) ?_
        refine TriL.segN (k' := 12) (fr' := fun b6 => [(6, .map (some mb)), (9, .map (some m2)), (10, .slice A4 (rest.length) ((cw - 1))), (11, .pointer (some ⟨(blkOf A), offOf A + x * 10, none⟩)), (13, .bool false)]) (hps' := fun b6 => [.abs (MapA Try.prog 3 mb (mf (bf A ns ns.length)) ns.length), .abs (MapA Try.prog 3 m2 (mf (sf ns seen)) seen.length), .abs (TailA 75 1 A4 rest.length (cw - 1) (ptrsV A rest)), .abs R, .blk b6 [] 98]) (obl := fun b6 => []) [o_, o_, o_, o_, o_, o_] [6, 9, 10, 11, 13] [0, 1, 2, 3, 4] (fun _ _ => by kernel_rfl) (fun b6 => trivial) (fun b6 => ?_)
        refine TriL.nil (by kernel_rfl) ?_
        refine TriQ.next ?_
        refine Tri.seq ?_
        refine Tri.region ?_
        refine TriL.segK (k' := 1) (fr' := [(6, .map (some mb)), (9, .map (some m2)), (10, .slice A4 (rest.length) ((cw - 1))), (11, .pointer (some ⟨(blkOf A), offOf A + x * 10, none⟩)), (46, .bool false)]) (obl := []) [o_] [6, 9, 10, 11, 46] (fun _ _ => by kernel_rfl) trivial ?_
        refine TriL.nil (by kernel_rfl) ?_
        refine TriQ.next ?_
        refine Tri.condF (fun _ => by kernel_rfl) ?_
        refine Tri.skip ?_
        refine TriQ.next ?_
        refine Tri.seq ?_
        refine Tri.region ?_
        refine TriL.segK (k' := 6) (fr' := [(6, .map (some mb)), (9, .map (some m2)), (10, .slice A4 (rest.length) ((cw - 1))), (11, .pointer (some ⟨(blkOf A), offOf A + x * 10, none⟩)), (47, .map (some m2)), (51, .int .i64 ((nd ns x).id)), (52, .agg #[])]) (obl := [(Rd β ⟨(blkOf A), offOf A + x * 10, none⟩ (.int .i64 ((nd ns x).id)))]) [o_, o_, o_, o_, ⟨[.old (.int .i64 ((nd ns x).id))], none, none, none, none⟩, o_] [6, 9, 10, 11, 47, 51, 52] (fun _ _ => by kernel_rfl) ⟨GraphAt.rd hG (i := x) (by omega) (j := 0) rfl, trivial⟩ ?_
        refine TriL.mapSet 1 (d := none) (t := 96) (K := 3) (E := 98) (b := m2) (n := seen.length) (f := (mf (sf ns seen))) (x := (.tmp 47)) (ix := (.tmp 51)) (y := (.tmp 52)) (key := .int .i64 ((nd ns x).id)) (u := .agg #[]) (kl := (.int .i64 (nd ns x).id)) (n' := (x :: seen).length) (f' := (mf (sf ns (x :: seen)))) (fun _ => by kernel_rfl) (by kernel_rfl) (fun _ => by kernel_rfl) (fun _ => by kernel_rfl) (fun _ => by kernel_rfl) lawI Try.underlying96 (by unfold maxLen; omega) (keyI (hB.node x hx).ids.1.1 (hB.node x hx).ids.1.2) (sf_cnt hok.rise hx hsn) (sf_upd hok.rise hx) ?_
        refine TriL.nil (by kernel_rfl) ?_
        refine TriQ.next ?_
        refine Tri.seq ?_
        refine Tri.region ?_
        refine TriL.partEq 2 (p := .abs (TailA 75 1 A4 rest.length (cw - 1) (ptrsV A rest))) (p' := .abs (TailA 75 1 A4 ((rest ++ tgts ns x 0).length) (cw - 1) (ptrsV A (rest ++ tgts ns x 0)))) (by kernel_rfl) (by rw [show tgts ns x 0 = [] from rfl, List.append_nil]) ?_
        refine TriL.slot 10 (.slice A4 (rest.length) ((cw - 1))) (.slice A4 ((rest ++ tgts ns x 0).length) ((cw - 1))) (fun _ => by kernel_rfl) (by rw [show tgts ns x 0 = [] from rfl, List.append_nil]) ?_
        refine TriL.segK (k' := 6) (fr' := [(6, .map (some mb)), (9, .map (some m2)), (10, .slice A4 ((rest ++ tgts ns x 0).length) ((cw - 1))), (56, .slice (L.eA x) ((nd ns x).ents.length) ((L.eC x))), (57, .int .i64 ((((nd ns x).ents.length : Nat) : Int))), (58, .int .i64 0)]) (obl := [(Rd β ⟨(blkOf A), offOf A + x * 10 + 9, none⟩ (.slice (L.eA x) ((nd ns x).ents.length) ((L.eC x))))]) [o_, o_, o_, ⟨[.old (.slice (L.eA x) ((nd ns x).ents.length) ((L.eC x)))], none, none, none, none⟩, o_, o_] [6, 9, 10, 56, 57, 58] (fun _ _ => by kernel_rfl) ⟨GraphAt.rd hG (i := x) (by omega) (j := 9) rfl, trivial⟩ ?_
        refine TriL.nil (by kernel_rfl) ?_
        refine TriQ.next ?_
        refine Tri.block ?_
        refine Tri.loop (ι := Nat × (Option Addr) × Nat) (fun ((j, Ax, cx) : Nat × (Option Addr) × Nat) => (j ≤ (nd ns x).ents.length)) (fun ((j, Ax, cx) : Nat × (Option Addr) × Nat) => (nd ns x).ents.length - j) (fun ((j, Ax, cx) : Nat × (Option Addr) × Nat) => [(6, .map (some mb)), (9, .map (some m2)), (10, .slice Ax ((rest ++ tgts ns x j).length) (cx)), (56, .slice (L.eA x) ((nd ns x).ents.length) ((L.eC x))), (57, .int .i64 ((((nd ns x).ents.length : Nat) : Int))), (58, .int .i64 (((j : Nat) : Int)))]) (fun ((j, Ax, cx) : Nat × (Option Addr) × Nat) => [.abs (MapA Try.prog 3 mb (mf (bf A ns ns.length)) ns.length), .abs (MapA Try.prog 3 m2 (mf (sf ns (x :: seen))) ((x :: seen).length)), .abs (TailA 75 1 Ax ((rest ++ tgts ns x j).length) cx (ptrsV A (rest ++ tgts ns x j))), .abs R]) (0, A4, (cw - 1)) (idx := [6, 9, 10, 56, 57, 58]) (pk := [0, 1, 2, 3]) (show (0 ≤ (nd ns x).ents.length) from (by omega)) (fun _ => by kernel_rfl) rfl (by kernel_rfl) ?_
        rintro ⟨j, Ax, cx⟩ hj
        show Tri _ _ _ _ [(6, .map (some mb)), (9, .map (some m2)), (10, .slice Ax ((rest ++ tgts ns x j).length) (cx)), (56, .slice (L.eA x) ((nd ns x).ents.length) ((L.eC x))), (57, .int .i64 ((((nd ns x).ents.length : Nat) : Int))), (58, .int .i64 (((j : Nat) : Int)))] [.abs (MapA Try.prog 3 mb (mf (bf A ns ns.length)) ns.length), .abs (MapA Try.prog 3 m2 (mf (sf ns (x :: seen))) ((x :: seen).length)), .abs (TailA 75 1 Ax ((rest ++ tgts ns x j).length) cx (ptrsV A (rest ++ tgts ns x j))), .abs R] _
        refine Tri.seq ?_
        refine Tri.region ?_
        refine TriL.segK (k' := 1) (fr' := [(6, .map (some mb)), (9, .map (some m2)), (10, .slice Ax ((rest ++ tgts ns x j).length) (cx)), (56, .slice (L.eA x) ((nd ns x).ents.length) ((L.eC x))), (57, .int .i64 ((((nd ns x).ents.length : Nat) : Int))), (58, .int .i64 (((j : Nat) : Int))), (59, .bool (decide ((((j : Nat) : Int) : Int) < ((((nd ns x).ents.length : Nat) : Int) : Int))))]) (obl := []) [o_] [6, 9, 10, 56, 57, 58, 59] (fun _ _ => by kernel_rfl) trivial ?_
        refine TriL.nil (by kernel_rfl) ?_
        refine TriQ.next ?_
        refine Tri.seq ?_
        refine Tri.condP (p := (((j : Nat) : Int) : Int) < ((((nd ns x).ents.length : Nat) : Int) : Int)) (fun _ => by kernel_rfl) (fun h59 => ?_) (fun h59 => ?_)
        · refine Tri.skip ?_
          refine TriQ.next ?_
          refine Tri.seq ?_
          refine Tri.block ?_
          refine Tri.seq ?_
          refine Tri.region ?_
          refine TriL.segN (k' := 4) (fr' := fun b7 => [(6, .map (some mb)), (9, .map (some m2)), (10, .slice Ax ((rest ++ tgts ns x j).length) (cx)), (15, .pointer (some ⟨b7, 0, none⟩)), (56, .slice (L.eA x) ((nd ns x).ents.length) ((L.eC x))), (57, .int .i64 ((((nd ns x).ents.length : Nat) : Int))), (58, .int .i64 (((j : Nat) : Int)))]) (hps' := fun b7 => [.abs (MapA Try.prog 3 mb (mf (bf A ns ns.length)) ns.length), .abs (MapA Try.prog 3 m2 (mf (sf ns (x :: seen))) ((x :: seen).length)), .abs (TailA 75 1 Ax ((rest ++ tgts ns x j).length) cx (ptrsV A (rest ++ tgts ns x j))), .abs R, .blk b7 [.string (en (nd ns x).ents j).name, .int .i64 ((en (nd ns x).ents j).id)] 72]) (obl := fun b7 => [b7 = b7, b7 = b7, (Rd β ⟨(blkOf (L.eA x)), offOf (L.eA x) + j * 2 + 1, none⟩ (.int .i64 ((en (nd ns x).ents j).id))), (Rd β ⟨(blkOf (L.eA x)), offOf (L.eA x) + j * 2, none⟩ (.string (en (nd ns x).ents j).name)), ((j : Nat) : Int) = ((j : Nat) : Int), j < (nd ns x).ents.length, (⟨(blkOf (L.eA x)), offOf (L.eA x), none⟩ : Addr).spot = none, ((L.eA x) : Option Addr) = some ⟨(blkOf (L.eA x)), offOf (L.eA x), none⟩]) [⟨[], some j, none, some ⟨(blkOf (L.eA x)), offOf (L.eA x), none⟩, none⟩, ⟨[.old (.string (en (nd ns x).ents j).name), .old (.int .i64 ((en (nd ns x).ents j).id))], none, none, none, none⟩, o_, ⟨[.at 4, .at 4], none, none, none, none⟩] [6, 9, 10, 15, 56, 57, 58] [0, 1, 2, 3, 4] (fun _ _ => by kernel_rfl) (fun b7 => ⟨rfl, rfl, EntsAt.rd (hG.ents x (by omega)) (i := j) (by omega) (j := 1) rfl, EntsAt.rd (hG.ents x (by omega)) (i := j) (by omega) (j := 0) rfl, rfl, by omega, rfl, EntsAt.hd (hG.ents x (by omega)) (i := j) (by omega), trivial⟩) (fun b7 => ?_)
          refine TriL.nil (by kernel_rfl) ?_
          refine TriQ.next ?_
          refine Tri.region ?_
          refine TriL.segK (k' := 4) (fr' := [(6, .map (some mb)), (9, .map (some m2)), (56, .slice (L.eA x) ((nd ns x).ents.length) ((L.eC x))), (57, .int .i64 ((((nd ns x).ents.length : Nat) : Int))), (58, .int .i64 (((j : Nat) : Int))), (62, .slice Ax ((rest ++ tgts ns x j).length) (cx)), (63, .map (some mb)), (65, .int .i64 ((en (nd ns x).ents j).id))]) (obl := [b7 = b7]) [o_, o_, o_, ⟨[.at 4], none, none, none, none⟩] [6, 9, 56, 57, 58, 62, 63, 65] (fun _ _ => by kernel_rfl) ⟨rfl, trivial⟩ ?_
          have hat2 := (hok.ents x hx j (by omega)).at_
          have htl2 := atI_lt hat2
          refine TriL.mapLook 0 (d := (some 66)) (t := 66) (K := 3) (E := 75) (b := mb) (n := ns.length) (f := (mf (bf A ns ns.length))) (x := (.tmp 63)) (ix := (.tmp 65)) (key := .int .i64 ((en (nd ns x).ents j).id)) (z := .pointer none) (kl := (.int .i64 (en (nd ns x).ents j).id)) (r := (some (.pointer (some ⟨(blkOf A), offOf A + (tgt ns (en (nd ns x).ents j).id) * 10, none⟩)))) (fun _ => by kernel_rfl) (by kernel_rfl) (fun _ => by kernel_rfl) (fun _ => by kernel_rfl) lawI Try.underlying66 (fun _ => by kernel_rfl) (keyI (hB.hwf x hx j (by omega)).1 (hB.hwf x hx j (by omega)).2) (bf_at hat2 htl2.1) ?_
          refine TriL.segN (k' := 6) (fr' := fun b8 => [(6, .map (some mb)), (9, .map (some m2)), (56, .slice (L.eA x) ((nd ns x).ents.length) ((L.eC x))), (57, .int .i64 ((((nd ns x).ents.length : Nat) : Int))), (58, .int .i64 (((j : Nat) : Int))), (62, .slice Ax ((rest ++ tgts ns x j).length) (cx)), (67, .slice (some ⟨b8, 0, none⟩) (1) (1))]) (hps' := fun b8 => [.abs (MapA Try.prog 3 mb (mf (bf A ns ns.length)) ns.length), .abs (MapA Try.prog 3 m2 (mf (sf ns (x :: seen))) ((x :: seen).length)), .abs (TailA 75 1 Ax ((rest ++ tgts ns x j).length) cx (ptrsV A (rest ++ tgts ns x j))), .abs R, .blk b7 [.string (en (nd ns x).ents j).name, .int .i64 ((en (nd ns x).ents j).id)] 72, .blk b8 [.pointer (some ⟨(blkOf A), offOf A + (tgt ns (en (nd ns x).ents j).id) * 10, none⟩)] 75]) (obl := fun b8 => []) [o_] [6, 9, 56, 57, 58, 62, 67] [0, 1, 2, 3, 4, 5] (fun _ _ => by kernel_rfl) (fun b8 => trivial) (fun b8 => ?_)
          refine TriL.tailAppend 2 (d := (some 68)) (t := 97) (e := 75) (z := .pointer none) (size := 1) (bytes := 8) (n := (rest ++ tgts ns x j).length) (cap := cx) (A := Ax) (ad := ⟨b8, 0, none⟩) (xs := (ptrsV A (rest ++ tgts ns x j))) (s := (.tmp 62)) (x := (.tmp 67)) (ats := #[97, 97]) (m := 1) (c' := 1) (news := [.pointer (some ⟨(blkOf A), offOf A + (tgt ns (en (nd ns x).ents j).id) * 10, none⟩)]) (fun _ => by kernel_rfl) rfl (by kernel_rfl) (fun _ => by kernel_rfl) (fun _ => by kernel_rfl) Try.underlying97 (by kernel_rfl) rfl (by decide) (rfl) (by simp [Value.oneCell']) (src_blk1 (j := 5) rfl) (by unfold maxLen; rw [List.length_append, tgts_len]; omega) (by rw [List.length_append, tgts_len]; omega) (fun A9 c10 => ?_)
          refine TriL.partEq 2 (p := .abs (TailA 75 1 A9 (((rest ++ tgts ns x j).length) + 1) c10 ((ptrsV A (rest ++ tgts ns x j)) ++ [.pointer (some ⟨(blkOf A), offOf A + (tgt ns (en (nd ns x).ents j).id) * 10, none⟩)]))) (p' := .abs (TailA 75 1 A9 ((rest ++ tgts ns x (j + 1)).length) c10 (ptrsV A (rest ++ tgts ns x (j + 1))))) (by kernel_rfl) (by rw [tgts_succ, ← List.append_assoc, ptrs_snoc, len_snoc]; rfl) ?_
          refine TriL.slot 68 (.slice A9 (((rest ++ tgts ns x j).length) + 1) (c10)) (.slice A9 ((rest ++ tgts ns x (j + 1)).length) (c10)) (fun _ => by kernel_rfl) (by rw [tgts_succ, ← List.append_assoc, len_snoc]) ?_
          refine TriL.segK (k' := 8) (fr' := [(6, .map (some mb)), (9, .map (some m2)), (10, .slice A9 ((rest ++ tgts ns x (j + 1)).length) (c10)), (56, .slice (L.eA x) ((nd ns x).ents.length) ((L.eC x))), (57, .int .i64 ((((nd ns x).ents.length : Nat) : Int))), (58, .int .i64 (((j : Nat) : Int)))]) (obl := []) [o_] [6, 9, 10, 56, 57, 58] (fun _ _ => by kernel_rfl) trivial ?_
          refine TriL.nil (by kernel_rfl) ?_
          refine TriQ.blockNormal ?_
          refine TriQ.next ?_
          refine Tri.region ?_
          refine TriL.segK (k' := 2) (fr' := [(6, .map (some mb)), (9, .map (some m2)), (10, .slice A9 ((rest ++ tgts ns x (j + 1)).length) (c10)), (56, .slice (L.eA x) ((nd ns x).ents.length) ((L.eC x))), (57, .int .i64 ((((nd ns x).ents.length : Nat) : Int))), (58, .int .i64 (((j + 1 : Nat) : Int)))]) (obl := [(Value.int .i64 (IntKind.wrap .i64 (((j : Nat) : Int) + 1))) = (.int .i64 (((j + 1 : Nat) : Int)))]) [⟨[], none, none, none, some (.int .i64 (((j + 1 : Nat) : Int)))⟩, o_] [6, 9, 10, 56, 57, 58] (fun _ _ => by kernel_rfl) ⟨wrapEq (by omega) (by omega) (by omega), trivial⟩ ?_
          refine TriL.nil (by kernel_rfl) ?_
          exact TriQ.turn ((j + 1), A9, c10) (idx := [6, 9, 10, 56, 57, 58]) (pk := [0, 1, 2, 3]) (show (((j + 1)) ≤ (nd ns x).ents.length) from (by omega)) (by show (nd ns x).ents.length - ((j + 1)) < (nd ns x).ents.length - j; omega) (fun _ => by kernel_rfl) rfl (by kernel_rfl)
        · refine Tri.exit ?_
          refine TriQ.passExit ?_
          refine TriQ.passExit ?_
          refine TriQ.blockHit ?_
          refine TriQ.blockNormal ?_
          exact TriQ.turn ((x :: seen), (rest ++ tgts ns x j), Ax, cx) (idx := [6, 9, 10]) (pk := [0, 1, 2, 3]) (show (RInv ns (tgt ns root) ((x :: seen)) ((rest ++ tgts ns x j))) ∧ (((x :: seen)).Nodup) ∧ (((rest ++ tgts ns x j)).length + restE ns ((x :: seen)) ns.length ≤ 8193) from ⟨by rw [show j = (nd ns x).ents.length by omega]; exact (hw ▸ hinv : RInv ns _ seen (x :: rest)).new, List.nodup_cons.2 ⟨hsn, hnd⟩, by have hre := restE_new (ns := ns) hsn ns.length hx; rw [List.length_append, tgts_len]; omega⟩) (by show ((rest ++ tgts ns x j)).length + restE ns ((x :: seen)) ns.length < work.length + restE ns seen ns.length; first | omega | (have hre := restE_new (ns := ns) hsn ns.length hx; rw [List.length_append, tgts_len]; omega)) (fun _ => by kernel_rfl) rfl (by kernel_rfl)
    · have hfew := nodup_lt ns.length seen hnd (fun i hi => (hinv.reach i (.inl hi)).lt hok htl.1)
      have hll := hB.hl
      refine Tri.exit ?_
      refine TriQ.passExit ?_
      refine TriQ.passExit ?_
      refine TriQ.blockHit ?_
      refine TriQ.next ?_
      refine Tri.seq ?_
      refine Tri.region ?_
      have hwn : work = [] := List.eq_nil_of_length_eq_zero (by omega)
      refine TriL.segK (k' := 1) (fr' := [(70, .map (some m2))]) (obl := []) [o_] [70] (fun _ _ => by kernel_rfl) trivial ?_
      refine TriL.call (f := 56) (args := #[.map (some m2)]) (d := (some 71)) (pre := []) (R := [.abs (MapA Try.prog 3 mb (mf (bf A ns ns.length)) ns.length), .abs (MapA Try.prog 3 m2 (mf (sf ns seen)) seen.length), .abs (TailA 75 1 Aw work.length cw (ptrsV A work)), .abs R]) (pk := [0, 1, 2, 3]) (fun _ => by kernel_rfl) (sp_keysI (some m2)) rfl (by kernel_rfl) ?_
      rintro _ _ ⟨bk, rfl, rfl⟩
      refine TriL.call (f := 55) (args := #[keysFn bk]) (d := (some 72)) (pre := [.abs (MapA Try.prog 3 m2 (mf (sf ns seen)) seen.length), .blk bk [.map (some m2)] 96]) (R := [.abs (MapA Try.prog 3 mb (mf (bf A ns ns.length)) ns.length), .abs (TailA 75 1 Aw work.length cw (ptrsV A work)), .abs R]) (pk := [2, 0, 1, 3, 4]) (fun _ => by kernel_rfl) (sp_sortedI m2 bk seen.length (mf (sf ns seen)) (by omega)) rfl (by kernel_rfl) ?_
      rintro _ _ ⟨A5, c5, ss, rfl, hkeys, hsl, rfl⟩
      have hss : ss = underL ns (tgt ns root) := under_keys hok (hwn ▸ hinv) hkeys
      refine TriL.rebase (Φ := fun β' => RowB β' A5 (intsV ss)) 2 [0, 1, 3, 4, 5] (hps' := [.abs (MapA Try.prog 3 m2 (mf (sf ns seen)) seen.length), .blk bk [.map (some m2)] 96, .abs (MapA Try.prog 3 mb (mf (bf A ns ns.length)) ns.length), .abs (TailA 75 1 Aw work.length cw (ptrsV A work)), .abs R]) rfl rfl (by kernel_rfl) (fun F w h β' h1 h2 => RowB.of_row h h1 h2) (fun β11 hle_β11 hR => ?_)
      replace hG := hG.le hle_β11
      replace hle0 := hle0.trans hle_β11
      refine TriL.segK (k' := 5) (fr' := [(4, .slice A5 (ss.length) (c5)), (5, .int .i64 0)]) (obl := []) [o_, o_] [4, 5] (fun _ _ => by kernel_rfl) trivial ?_
      refine TriL.nil (by kernel_rfl) ?_
      refine TriQ.next ?_
      refine Tri.ret ?_
      exact TriQ.retB (v := .tuple #[.slice A5 (ss.length) (c5), .int .i64 0]) (l := []) (obl := []) [] [4] hle0 (fun _ => by kernel_rfl) trivial rfl (by kernel_rfl) (⟨A5, c5, by rw [underG_ok hbg, ← hss], rfl, by rw [underG_ok hbg, ← hss]; exact hR⟩)
  · refine TriL.segK (k' := 10) (fr' := [(6, x), (7, y), (8, .int .i64 ((beginC ns root)))]) (obl := []) [o_, o_, o_, o_, o_, o_, o_] [6, 7, 8] (fun _ _ => by kernel_rfl) trivial ?_
    refine TriL.nil (by kernel_rfl) ?_
    refine TriQ.next ?_
    refine Tri.seq ?_
    refine Tri.seq ?_
    refine Tri.region ?_
    refine TriL.segK (k' := 2) (fr' := [(6, x), (7, y), (8, .int .i64 ((beginC ns root))), (24, .bool (!(decide (((beginC ns root) : Int) = (0 : Int)))))]) (obl := []) [o_, o_] [6, 7, 8, 24] (fun _ _ => by kernel_rfl) trivial ?_
    refine TriL.nil (by kernel_rfl) ?_
    refine TriQ.next ?_
    refine Tri.condN (p := ((beginC ns root) : Int) = (0 : Int)) (fun _ => by kernel_rfl) (fun h24 => ?_) (fun h24 => ?_)
    · refine Tri.seq ?_
      refine Tri.region ?_
      refine TriL.segK (k' := 3) (fr' := [(4, .slice none (0) (0)), (5, .int .i64 ((beginC ns root)))]) (obl := []) [o_, o_, o_] [4, 5] (fun _ _ => by kernel_rfl) trivial ?_
      refine TriL.nil (by kernel_rfl) ?_
      refine TriQ.next ?_
      refine Tri.ret ?_
      refine TriQ.passRet ?_
      exact TriQ.retB (v := .tuple #[.slice none (0) (0), .int .i64 ((beginC ns root))]) (l := []) (obl := []) [] [0] hle0 (fun _ => by kernel_rfl) trivial rfl (by kernel_rfl) (⟨none, 0, by rw [underG_bad hbg]; rfl, rfl, by rw [underG_bad hbg]; exact RowB.nil⟩)
    · exact absurd h24 hbg
set_option maxRecDepth 100000 in
set_option maxHeartbeats 4000000 in
theorem sp_underOwn {β : Bs} (A : Option Addr) (c : Nat) (ns : List NodeM) (L : Lay) (hG : GraphAt β A ns L) (hB : GraphB ns 1048576) (root : Int) (hz : I64 root) :
    Spec Try.prog β 34 #[.agg #[.slice A ns.length c], .int .i64 root] [] (fun v l => ∃ B cap, v = .tuple #[.slice B (underG ns root).1.length cap, .int .i64 (underG ns root).2] ∧ l = [.abs (RowA 3 1 B (underG ns root).1.length cap (intsV (underG ns root).1))]) := by
  refine Spec.enter Try.func34 rfl Try.ntmps34 (Nat.le_of_ble_eq_true rfl) (fun R => ?_)
  refine Tri.seq ?_
  refine Tri.region ?_
  refine TriL.segN (k' := 3) (fr' := fun b12 => [(1, .int .i64 (root)), (2, .pointer (some ⟨b12, 0, none⟩))]) (hps' := fun b12 => [.abs R, .blk b12 [.slice A (ns.length) (c)] 24]) (obl := fun b12 => []) [o_, o_, o_] [1, 2] [0, 1] (fun _ _ => by kernel_rfl) (fun b12 => trivial) (fun b12 => ?_)
  refine TriL.nil (by kernel_rfl) ?_
  refine TriQ.next ?_
  refine Tri.seq ?_
  refine Tri.region ?_
  refine TriL.segK (k' := 2) (fr' := [(17, .agg #[.slice A (ns.length) (c)]), (18, .int .i64 (root))]) (obl := [b12 = b12]) [⟨[.at 1], none, none, none, none⟩, o_] [17, 18] (fun _ _ => by kernel_rfl) ⟨rfl, trivial⟩ ?_
  refine TriL.call (f := 42) (args := #[.agg #[.slice A (ns.length) (c)], .int .i64 (root)]) (d := (some 19)) (pre := []) (R := [.abs R, .blk b12 [.slice A (ns.length) (c)] 24]) (pk := [0, 1]) (fun _ => by kernel_rfl) (sp_begin A c ns L hG hB root hz) rfl (by kernel_rfl) ?_
  rintro _ _ (⟨mb, rfl, hbg, rfl⟩ | ⟨x, y, rfl, hbg, rfl⟩)
  · obtain ⟨hok, hat, hkd⟩ := beginC_zero hbg
    have htl := atI_lt hat
    refine TriL.segK (k' := 10) (fr' := [(6, .map (some mb)), (7, .pointer (some ⟨(blkOf A), offOf A + (tgt ns root) * 10, none⟩)), (8, .int .i64 0)]) (obl := []) [o_, o_, o_, o_, o_, o_, o_] [6, 7, 8] (fun _ _ => by kernel_rfl) trivial ?_
    refine TriL.nil (by kernel_rfl) ?_
    refine TriQ.next ?_
    refine Tri.seq ?_
    refine Tri.seq ?_
    refine Tri.region ?_
    refine TriL.segK (k' := 2) (fr' := [(6, .map (some mb)), (7, .pointer (some ⟨(blkOf A), offOf A + (tgt ns root) * 10, none⟩)), (8, .int .i64 0), (24, .bool false)]) (obl := []) [o_, o_] [6, 7, 8, 24] (fun _ _ => by kernel_rfl) trivial ?_
    refine TriL.nil (by kernel_rfl) ?_
    refine TriQ.next ?_
    refine Tri.condF (fun _ => by kernel_rfl) ?_
    refine Tri.skip ?_
    refine TriQ.next ?_
    refine Tri.seq ?_
    refine Tri.region ?_
    refine TriL.mapMake (d := (some 26)) (t := 96) (fun _ => by kernel_rfl) Try.prog rfl 3 (fun m13 => ?_)
    refine TriL.segK (k' := 2) (fr' := [(6, .map (some mb)), (7, .pointer (some ⟨(blkOf A), offOf A + (tgt ns root) * 10, none⟩)), (9, .map (some m13))]) (obl := []) [o_] [6, 7, 9] (fun _ _ => by kernel_rfl) trivial ?_
    refine TriL.nil (by kernel_rfl) ?_
    refine TriQ.next ?_
    refine Tri.seq ?_
    refine Tri.region ?_
    refine TriL.segN (k' := 2) (fr' := fun b14 => [(6, .map (some mb)), (9, .map (some m13)), (28, .slice (some ⟨b14, 0, none⟩) (1) (1))]) (hps' := fun b14 => [.abs (MapA Try.prog 3 mb (mf (bf A ns ns.length)) ns.length), .abs R, .blk b12 [.slice A (ns.length) (c)] 24, .abs (MapA Try.prog 3 m13 (fun _ => none) 0), .blk b14 [.pointer (some ⟨(blkOf A), offOf A + (tgt ns root) * 10, none⟩)] 75]) (obl := fun b14 => []) [o_, o_] [6, 9, 28] [0, 1, 2, 3, 4] (fun _ _ => by kernel_rfl) (fun b14 => trivial) (fun b14 => ?_)
    refine TriL.partEq 3 (p := .abs (MapA Try.prog 3 m13 (fun _ => none) 0)) (p' := .abs (MapA Try.prog 3 m13 (mf (sf ns ([] : List Nat))) (([] : List Nat).length))) (by kernel_rfl) (by rw [sf_zero]; rfl) ?_
    refine TriL.mem (fun w hS => hS.toTail (i := 4) (b := b14) (cs := [.pointer (some ⟨(blkOf A), offOf A + (tgt ns root) * 10, none⟩)]) (e := 75) 1 1 (by kernel_rfl) rfl (by decide)) ?_
    refine TriL.partEq 4 (p := .abs (TailA 75 1 (some ⟨b14, 0, none⟩) 1 1 ([.pointer (some ⟨(blkOf A), offOf A + (tgt ns root) * 10, none⟩)]))) (p' := .abs (TailA 75 1 (some ⟨b14, 0, none⟩) 1 1 (ptrsV A ([tgt ns root])))) (by kernel_rfl) (rfl) ?_
    refine TriL.segK (k' := 3) (fr' := [(6, .map (some mb)), (9, .map (some m13)), (10, .slice (some ⟨b14, 0, none⟩) (1) (1))]) (obl := []) [o_] [6, 9, 10] (fun _ _ => by kernel_rfl) trivial ?_
    refine TriL.nil (by kernel_rfl) ?_
    refine TriQ.next ?_
    refine Tri.seq ?_
    refine Tri.block ?_
    refine Tri.loop (ι := (List Nat) × (List Nat) × (Option Addr) × Nat) (fun ((seen, work, Aw, cw) : (List Nat) × (List Nat) × (Option Addr) × Nat) => (RInv ns (tgt ns root) seen work) ∧ (seen.Nodup) ∧ (work.length + restE ns seen ns.length ≤ 8193)) (fun ((seen, work, Aw, cw) : (List Nat) × (List Nat) × (Option Addr) × Nat) => work.length + restE ns seen ns.length) (fun ((seen, work, Aw, cw) : (List Nat) × (List Nat) × (Option Addr) × Nat) => [(6, .map (some mb)), (9, .map (some m13)), (10, .slice Aw (work.length) (cw))]) (fun ((seen, work, Aw, cw) : (List Nat) × (List Nat) × (Option Addr) × Nat) => [.abs (MapA Try.prog 3 mb (mf (bf A ns ns.length)) ns.length), .abs (MapA Try.prog 3 m13 (mf (sf ns seen)) seen.length), .abs (TailA 75 1 Aw work.length cw (ptrsV A work)), .abs R]) (([] : List Nat), [tgt ns root], some ⟨b14, 0, none⟩, 1) (idx := [6, 9, 10]) (pk := [0, 3, 4, 1]) (show (RInv ns (tgt ns root) (([] : List Nat)) ([tgt ns root])) ∧ ((([] : List Nat)).Nodup) ∧ (([tgt ns root]).length + restE ns (([] : List Nat)) ns.length ≤ 8193) from ⟨⟨.inr (List.mem_cons_self ..), fun i hi => by rcases hi with hi | hi; cases hi; rw [List.mem_singleton.1 hi]; exact .refl, fun i hi => by cases hi⟩, List.nodup_nil, by have := restE_sum ns [] ns.length; have := hok.sum; show 1 + _ ≤ _; omega⟩) (fun _ => by kernel_rfl) rfl (by kernel_rfl) ?_
    rintro ⟨seen, work, Aw, cw⟩ ⟨hinv, hnd, hmu⟩
    show Tri _ _ _ _ [(6, .map (some mb)), (9, .map (some m13)), (10, .slice Aw (work.length) (cw))] [.abs (MapA Try.prog 3 mb (mf (bf A ns ns.length)) ns.length), .abs (MapA Try.prog 3 m13 (mf (sf ns seen)) seen.length), .abs (TailA 75 1 Aw work.length cw (ptrsV A work)), .abs R] _
    refine Tri.seq ?_
    refine Tri.seq ?_
    refine Tri.region ?_
    refine TriL.segK (k' := 3) (fr' := [(6, .map (some mb)), (9, .map (some m13)), (10, .slice Aw (work.length) (cw)), (31, .bool (decide ((((work.length : Nat) : Int) : Int) > (0 : Int))))]) (obl := []) [o_, o_, o_] [6, 9, 10, 31] (fun _ _ => by kernel_rfl) trivial ?_
    refine TriL.nil (by kernel_rfl) ?_
    refine TriQ.next ?_
    refine Tri.condP (p := (((work.length : Nat) : Int) : Int) > (0 : Int)) (fun _ => by kernel_rfl) (fun h31 => ?_) (fun h31 => ?_)
    · obtain ⟨x, rest, hw⟩ : ∃ x g2, work = x :: g2 := List.exists_cons_of_length_pos (by omega)
      have hx : x < ns.length := (hinv.reach x (.inr (by rw [hw]; exact List.mem_cons_self ..))).lt hok htl.1
      have hwl : work.length = rest.length + 1 := by rw [hw]; rfl
      have hfew := nodup_lt ns.length seen hnd (fun i hi => (hinv.reach i (.inl hi)).lt hok htl.1)
      have hll := hB.hl
      have hd3 := hB.hd x hx
      refine Tri.skip ?_
      refine TriQ.next ?_
      refine Tri.block ?_
      refine Tri.seq ?_
      refine Tri.region ?_
      refine TriL.segK (k' := 1) (fr' := [(6, .map (some mb)), (9, .map (some m13)), (10, .slice Aw (work.length) (cw)), (32, .slice Aw (work.length) (cw))]) (obl := []) [o_] [6, 9, 10, 32] (fun _ _ => by kernel_rfl) trivial ?_
      refine TriL.tell (p := (Aw = some ⟨blkOf Aw, offOf Aw, none⟩)) (fun w hS => let ⟨F, h⟩ := hS.get (i := 2) rfl; (TailA.len h).2.2) (fun hAw => ?_)
      refine TriL.segK (k' := 4) (fr' := [(6, .map (some mb)), (9, .map (some m13)), (10, .slice Aw (work.length) (cw)), (11, .pointer (some ⟨(blkOf A), offOf A + x * 10, none⟩))]) (obl := [(∀ F w, (TailA 75 1 Aw work.length cw (ptrsV A work)).h F w → w.cell? ⟨(blkOf Aw), offOf Aw + 0 * 1, none⟩ = some (.pointer (some ⟨(blkOf A), offOf A + x * 10, none⟩))), 0 = ((0 : Nat) : Int), 0 < work.length, (⟨(blkOf Aw), offOf Aw, none⟩ : Addr).spot = none, (Aw : Option Addr) = some ⟨(blkOf Aw), offOf Aw, none⟩]) [⟨[], some 0, none, some ⟨(blkOf Aw), offOf Aw, none⟩, none⟩, ⟨[.view 2 (.pointer (some ⟨(blkOf A), offOf A + x * 10, none⟩))], none, none, none, none⟩, o_] [6, 9, 10, 11] (fun _ _ => by kernel_rfl) ⟨TailA.cellAt (i := 0) (j := 0) (by rw [hw]; rfl), rfl, by omega, rfl, hAw, trivial⟩ ?_
      refine TriL.nil (by kernel_rfl) ?_
      refine TriQ.next ?_
      refine Tri.seq ?_
      refine Tri.region ?_
      refine TriL.segK (k' := 1) (fr' := [(6, .map (some mb)), (9, .map (some m13)), (11, .pointer (some ⟨(blkOf A), offOf A + x * 10, none⟩)), (35, .slice Aw (work.length) (cw))]) (obl := []) [o_] [6, 9, 11, 35] (fun _ _ => by kernel_rfl) trivial ?_
      refine TriL.tailSlice 2 (d := (some 36)) (t := 97) (e := 75) (size := 1) (m := 1) (n := work.length) (cap := cw) (A := Aw) (xs := (ptrsV A work)) (x := (.tmp 35)) (lo := (.const (.int .i64 1))) (fun _ => by kernel_rfl) (by kernel_rfl) (fun _ => by kernel_rfl) (fun _ => by kernel_rfl) Try.underlying97 (by kernel_rfl) (by omega) (fun A15 => ?_)
      refine TriL.partEq 2 (p := .abs (TailA 75 1 A15 (work.length - 1) (cw - 1) ((ptrsV A work).drop (1 * 1)))) (p' := .abs (TailA 75 1 A15 rest.length (cw - 1) (ptrsV A rest))) (by kernel_rfl) (by rw [hw]; rfl) ?_
      refine TriL.slot 36 (.slice A15 ((work.length - 1)) ((cw - 1))) (.slice A15 (rest.length) ((cw - 1))) (fun _ => by kernel_rfl) (by rw [hw]; rfl) ?_
      refine TriL.segK (k' := 3) (fr' := [(6, .map (some mb)), (9, .map (some m13)), (10, .slice A15 (rest.length) ((cw - 1))), (11, .pointer (some ⟨(blkOf A), offOf A + x * 10, none⟩))]) (obl := []) [o_] [6, 9, 10, 11] (fun _ _ => by kernel_rfl) trivial ?_
      refine TriL.nil (by kernel_rfl) ?_
      refine TriQ.next ?_
      refine Tri.seq ?_
      refine Tri.seq ?_
      refine Tri.region ?_
      refine TriL.segK (k' := 5) (fr' := [(6, .map (some mb)), (9, .map (some m13)), (10, .slice A15 (rest.length) ((cw - 1))), (11, .pointer (some ⟨(blkOf A), offOf A + x * 10, none⟩)), (38, .map (some m13)), (42, .int .i64 ((nd ns x).id))]) (obl := [(Rd β ⟨(blkOf A), offOf A + x * 10, none⟩ (.int .i64 ((nd ns x).id)))]) [o_, o_, o_, o_, ⟨[.old (.int .i64 ((nd ns x).id))], none, none, none, none⟩] [6, 9, 10, 11, 38, 42] (fun _ _ => by kernel_rfl) ⟨GraphAt.rd hG (i := x) (by omega) (j := 0) rfl, trivial⟩ ?_
      by_cases hsn : x ∈ seen
      · refine TriL.mapLookOk 1 (d := (some 43)) (t := 96) (K := 3) (E := 98) (b := m13) (n := seen.length) (f := (mf (sf ns seen))) (x := (.tmp 38)) (ix := (.tmp 42)) (key := .int .i64 ((nd ns x).id)) (z := .agg #[]) (kl := (.int .i64 (nd ns x).id)) (r := (some (.agg #[]))) (fun _ => by kernel_rfl) (by kernel_rfl) (fun _ => by kernel_rfl) (fun _ => by kernel_rfl) lawI Try.underlying96 (fun _ => by kernel_rfl) (keyI (hB.node x hx).ids.1.1 (hB.node x hx).ids.1.2) (sf_in hok.rise hx hsn) ?_
        refine TriL.segN (k' := 12) (fr' := fun b16 => [(6, .map (some mb)), (9, .map (some m13)), (10, .slice A15 (rest.length) ((cw - 1))), (11, .pointer (some ⟨(blkOf A), offOf A + x * 10, none⟩)), (13, .bool true)]) (hps' := fun b16 => [.abs (MapA Try.prog 3 mb (mf (bf A ns ns.length)) ns.length), .abs (MapA Try.prog 3 m13 (mf (sf ns seen)) seen.length), .abs (TailA 75 1 A15 rest.length (cw - 1) (ptrsV A rest)), .abs R, .blk b16 [] 98]) (obl := fun b16 => []) [o_, o_, o_, o_, o_, o_] [6, 9, 10, 11, 13] [0, 1, 2, 3, 4] (fun _ _ => by kernel_rfl) (fun b16 => trivial) (fun b16 => ?_)
        refine TriL.nil (by kernel_rfl) ?_
        refine TriQ.next ?_
        refine Tri.seq ?_
        refine Tri.region ?_
        refine TriL.segK (k' := 1) (fr' := [(6, .map (some mb)), (9, .map (some m13)), (10, .slice A15 (rest.length) ((cw - 1))), (11, .pointer (some ⟨(blkOf A), offOf A + x * 10, none⟩)), (46, .bool true)]) (obl := []) [o_] [6, 9, 10, 11, 46] (fun _ _ => by kernel_rfl) trivial ?_
        refine TriL.nil (by kernel_rfl) ?_
        refine TriQ.next ?_
        refine Tri.condT (fun _ => by kernel_rfl) ?_
        refine Tri.exit ?_
        refine TriQ.passExit ?_
        refine TriQ.blockHit ?_
        exact TriQ.turn (seen, rest, A15, (cw - 1)) (idx := [6, 9, 10]) (pk := [0, 1, 2, 3]) (show (RInv ns (tgt ns root) seen rest) ∧ (seen.Nodup) ∧ (rest.length + restE ns seen ns.length ≤ 8193) from ⟨(hw ▸ hinv : RInv ns _ seen (x :: rest)).old hsn, hnd, by omega⟩) (by show rest.length + restE ns seen ns.length < work.length + restE ns seen ns.length; first | omega | (have hre := restE_new (ns := ns) hsn ns.length hx; rw [List.length_append, tgts_len]; omega)) (fun _ => by kernel_rfl) rfl (by kernel_rfl)
      · refine TriL.mapLookOk 1 (d := (some 43)) (t := 96) (K := 3) (E := 98) (b := m13) (n := seen.length) (f := (mf (sf ns seen))) (x := (.tmp 38)) (ix := (.tmp 42)) (key := .int .i64 ((nd ns x).id)) (z := .agg #[]) (kl := (.int .i64 (nd ns x).id)) (r := none) (fun _ => by kernel_rfl) (by kernel_rfl) (fun _ => by kernel_rfl) (fun _ => by kernel_rfl) lawI Try.underlying96 (fun _ => by kernel_rfl) (keyI (hB.node x hx).ids.1.1 (hB.node x hx).ids.1.2) (sf_out hok.rise hx hsn) ?_
        refine TriL.segN (k' := 12) (fr' := fun b17 => [(6, .map (some mb)), (9, .map (some m13)), (10, .slice A15 (rest.length) ((cw - 1))), (11, .pointer (some ⟨(blkOf A), offOf A + x * 10, none⟩)), (13, .bool false)]) (hps' := fun b17 => [.abs (MapA Try.prog 3 mb (mf (bf A ns ns.length)) ns.length), .abs (MapA Try.prog 3 m13 (mf (sf ns seen)) seen.length), .abs (TailA 75 1 A15 rest.length (cw - 1) (ptrsV A rest)), .abs R, .blk b17 [] 98]) (obl := fun b17 => []) [o_, o_, o_, o_, o_, o_] [6, 9, 10, 11, 13] [0, 1, 2, 3, 4] (fun _ _ => by kernel_rfl) (fun b17 => trivial) (fun b17 => ?_)
        refine TriL.nil (by kernel_rfl) ?_
        refine TriQ.next ?_
        refine Tri.seq ?_
        refine Tri.region ?_
        refine TriL.segK (k' := 1) (fr' := [(6, .map (some mb)), (9, .map (some m13)), (10, .slice A15 (rest.length) ((cw - 1))), (11, .pointer (some ⟨(blkOf A), offOf A + x * 10, none⟩)), (46, .bool false)]) (obl := []) [o_] [6, 9, 10, 11, 46] (fun _ _ => by kernel_rfl) trivial ?_
        refine TriL.nil (by kernel_rfl) ?_
        refine TriQ.next ?_
        refine Tri.condF (fun _ => by kernel_rfl) ?_
        refine Tri.skip ?_
        refine TriQ.next ?_
        refine Tri.seq ?_
        refine Tri.region ?_
        refine TriL.segK (k' := 6) (fr' := [(6, .map (some mb)), (9, .map (some m13)), (10, .slice A15 (rest.length) ((cw - 1))), (11, .pointer (some ⟨(blkOf A), offOf A + x * 10, none⟩)), (47, .map (some m13)), (51, .int .i64 ((nd ns x).id)), (52, .agg #[])]) (obl := [(Rd β ⟨(blkOf A), offOf A + x * 10, none⟩ (.int .i64 ((nd ns x).id)))]) [o_, o_, o_, o_, ⟨[.old (.int .i64 ((nd ns x).id))], none, none, none, none⟩, o_] [6, 9, 10, 11, 47, 51, 52] (fun _ _ => by kernel_rfl) ⟨GraphAt.rd hG (i := x) (by omega) (j := 0) rfl, trivial⟩ ?_
        refine TriL.mapSet 1 (d := none) (t := 96) (K := 3) (E := 98) (b := m13) (n := seen.length) (f := (mf (sf ns seen))) (x := (.tmp 47)) (ix := (.tmp 51)) (y := (.tmp 52)) (key := .int .i64 ((nd ns x).id)) (u := .agg #[]) (kl := (.int .i64 (nd ns x).id)) (n' := (x :: seen).length) (f' := (mf (sf ns (x :: seen)))) (fun _ => by kernel_rfl) (by kernel_rfl) (fun _ => by kernel_rfl) (fun _ => by kernel_rfl) (fun _ => by kernel_rfl) lawI Try.underlying96 (by unfold maxLen; omega) (keyI (hB.node x hx).ids.1.1 (hB.node x hx).ids.1.2) (sf_cnt hok.rise hx hsn) (sf_upd hok.rise hx) ?_
        refine TriL.nil (by kernel_rfl) ?_
        refine TriQ.next ?_
        refine Tri.seq ?_
        refine Tri.region ?_
        refine TriL.partEq 2 (p := .abs (TailA 75 1 A15 rest.length (cw - 1) (ptrsV A rest))) (p' := .abs (TailA 75 1 A15 ((rest ++ tgts ns x 0).length) (cw - 1) (ptrsV A (rest ++ tgts ns x 0)))) (by kernel_rfl) (by rw [show tgts ns x 0 = [] from rfl, List.append_nil]) ?_
        refine TriL.slot 10 (.slice A15 (rest.length) ((cw - 1))) (.slice A15 ((rest ++ tgts ns x 0).length) ((cw - 1))) (fun _ => by kernel_rfl) (by rw [show tgts ns x 0 = [] from rfl, List.append_nil]) ?_
        refine TriL.segK (k' := 6) (fr' := [(6, .map (some mb)), (9, .map (some m13)), (10, .slice A15 ((rest ++ tgts ns x 0).length) ((cw - 1))), (56, .slice (L.eA x) ((nd ns x).ents.length) ((L.eC x))), (57, .int .i64 ((((nd ns x).ents.length : Nat) : Int))), (58, .int .i64 0)]) (obl := [(Rd β ⟨(blkOf A), offOf A + x * 10 + 9, none⟩ (.slice (L.eA x) ((nd ns x).ents.length) ((L.eC x))))]) [o_, o_, o_, ⟨[.old (.slice (L.eA x) ((nd ns x).ents.length) ((L.eC x)))], none, none, none, none⟩, o_, o_] [6, 9, 10, 56, 57, 58] (fun _ _ => by kernel_rfl) ⟨GraphAt.rd hG (i := x) (by omega) (j := 9) rfl, trivial⟩ ?_
        refine TriL.nil (by kernel_rfl) ?_
        refine TriQ.next ?_
        refine Tri.block ?_
        refine Tri.loop (ι := Nat × (Option Addr) × Nat) (fun ((j, Ax, cx) : Nat × (Option Addr) × Nat) => (j ≤ (nd ns x).ents.length)) (fun ((j, Ax, cx) : Nat × (Option Addr) × Nat) => (nd ns x).ents.length - j) (fun ((j, Ax, cx) : Nat × (Option Addr) × Nat) => [(6, .map (some mb)), (9, .map (some m13)), (10, .slice Ax ((rest ++ tgts ns x j).length) (cx)), (56, .slice (L.eA x) ((nd ns x).ents.length) ((L.eC x))), (57, .int .i64 ((((nd ns x).ents.length : Nat) : Int))), (58, .int .i64 (((j : Nat) : Int)))]) (fun ((j, Ax, cx) : Nat × (Option Addr) × Nat) => [.abs (MapA Try.prog 3 mb (mf (bf A ns ns.length)) ns.length), .abs (MapA Try.prog 3 m13 (mf (sf ns (x :: seen))) ((x :: seen).length)), .abs (TailA 75 1 Ax ((rest ++ tgts ns x j).length) cx (ptrsV A (rest ++ tgts ns x j))), .abs R]) (0, A15, (cw - 1)) (idx := [6, 9, 10, 56, 57, 58]) (pk := [0, 1, 2, 3]) (show (0 ≤ (nd ns x).ents.length) from (by omega)) (fun _ => by kernel_rfl) rfl (by kernel_rfl) ?_
        rintro ⟨j, Ax, cx⟩ hj
        show Tri _ _ _ _ [(6, .map (some mb)), (9, .map (some m13)), (10, .slice Ax ((rest ++ tgts ns x j).length) (cx)), (56, .slice (L.eA x) ((nd ns x).ents.length) ((L.eC x))), (57, .int .i64 ((((nd ns x).ents.length : Nat) : Int))), (58, .int .i64 (((j : Nat) : Int)))] [.abs (MapA Try.prog 3 mb (mf (bf A ns ns.length)) ns.length), .abs (MapA Try.prog 3 m13 (mf (sf ns (x :: seen))) ((x :: seen).length)), .abs (TailA 75 1 Ax ((rest ++ tgts ns x j).length) cx (ptrsV A (rest ++ tgts ns x j))), .abs R] _
        refine Tri.seq ?_
        refine Tri.region ?_
        refine TriL.segK (k' := 1) (fr' := [(6, .map (some mb)), (9, .map (some m13)), (10, .slice Ax ((rest ++ tgts ns x j).length) (cx)), (56, .slice (L.eA x) ((nd ns x).ents.length) ((L.eC x))), (57, .int .i64 ((((nd ns x).ents.length : Nat) : Int))), (58, .int .i64 (((j : Nat) : Int))), (59, .bool (decide ((((j : Nat) : Int) : Int) < ((((nd ns x).ents.length : Nat) : Int) : Int))))]) (obl := []) [o_] [6, 9, 10, 56, 57, 58, 59] (fun _ _ => by kernel_rfl) trivial ?_
        refine TriL.nil (by kernel_rfl) ?_
        refine TriQ.next ?_
        refine Tri.seq ?_
        refine Tri.condP (p := (((j : Nat) : Int) : Int) < ((((nd ns x).ents.length : Nat) : Int) : Int)) (fun _ => by kernel_rfl) (fun h59 => ?_) (fun h59 => ?_)
        · refine Tri.skip ?_
          refine TriQ.next ?_
          refine Tri.seq ?_
          refine Tri.block ?_
          refine Tri.seq ?_
          refine Tri.region ?_
          refine TriL.segN (k' := 4) (fr' := fun b18 => [(6, .map (some mb)), (9, .map (some m13)), (10, .slice Ax ((rest ++ tgts ns x j).length) (cx)), (15, .pointer (some ⟨b18, 0, none⟩)), (56, .slice (L.eA x) ((nd ns x).ents.length) ((L.eC x))), (57, .int .i64 ((((nd ns x).ents.length : Nat) : Int))), (58, .int .i64 (((j : Nat) : Int)))]) (hps' := fun b18 => [.abs (MapA Try.prog 3 mb (mf (bf A ns ns.length)) ns.length), .abs (MapA Try.prog 3 m13 (mf (sf ns (x :: seen))) ((x :: seen).length)), .abs (TailA 75 1 Ax ((rest ++ tgts ns x j).length) cx (ptrsV A (rest ++ tgts ns x j))), .abs R, .blk b18 [.string (en (nd ns x).ents j).name, .int .i64 ((en (nd ns x).ents j).id)] 72]) (obl := fun b18 => [b18 = b18, b18 = b18, (Rd β ⟨(blkOf (L.eA x)), offOf (L.eA x) + j * 2 + 1, none⟩ (.int .i64 ((en (nd ns x).ents j).id))), (Rd β ⟨(blkOf (L.eA x)), offOf (L.eA x) + j * 2, none⟩ (.string (en (nd ns x).ents j).name)), ((j : Nat) : Int) = ((j : Nat) : Int), j < (nd ns x).ents.length, (⟨(blkOf (L.eA x)), offOf (L.eA x), none⟩ : Addr).spot = none, ((L.eA x) : Option Addr) = some ⟨(blkOf (L.eA x)), offOf (L.eA x), none⟩]) [⟨[], some j, none, some ⟨(blkOf (L.eA x)), offOf (L.eA x), none⟩, none⟩, ⟨[.old (.string (en (nd ns x).ents j).name), .old (.int .i64 ((en (nd ns x).ents j).id))], none, none, none, none⟩, o_, ⟨[.at 4, .at 4], none, none, none, none⟩] [6, 9, 10, 15, 56, 57, 58] [0, 1, 2, 3, 4] (fun _ _ => by kernel_rfl) (fun b18 => ⟨rfl, rfl, EntsAt.rd (hG.ents x (by omega)) (i := j) (by omega) (j := 1) rfl, EntsAt.rd (hG.ents x (by omega)) (i := j) (by omega) (j := 0) rfl, rfl, by omega, rfl, EntsAt.hd (hG.ents x (by omega)) (i := j) (by omega), trivial⟩) (fun b18 => ?_)
          refine TriL.nil (by kernel_rfl) ?_
          refine TriQ.next ?_
          refine Tri.region ?_
          refine TriL.segK (k' := 4) (fr' := [(6, .map (some mb)), (9, .map (some m13)), (56, .slice (L.eA x) ((nd ns x).ents.length) ((L.eC x))), (57, .int .i64 ((((nd ns x).ents.length : Nat) : Int))), (58, .int .i64 (((j : Nat) : Int))), (62, .slice Ax ((rest ++ tgts ns x j).length) (cx)), (63, .map (some mb)), (65, .int .i64 ((en (nd ns x).ents j).id))]) (obl := [b18 = b18]) [o_, o_, o_, ⟨[.at 4], none, none, none, none⟩] [6, 9, 56, 57, 58, 62, 63, 65] (fun _ _ => by kernel_rfl) ⟨rfl, trivial⟩ ?_
          have hat2 := (hok.ents x hx j (by omega)).at_
          have htl2 := atI_lt hat2
          refine TriL.mapLook 0 (d := (some 66)) (t := 66) (K := 3) (E := 75) (b := mb) (n := ns.length) (f := (mf (bf A ns ns.length))) (x := (.tmp 63)) (ix := (.tmp 65)) (key := .int .i64 ((en (nd ns x).ents j).id)) (z := .pointer none) (kl := (.int .i64 (en (nd ns x).ents j).id)) (r := (some (.pointer (some ⟨(blkOf A), offOf A + (tgt ns (en (nd ns x).ents j).id) * 10, none⟩)))) (fun _ => by kernel_rfl) (by kernel_rfl) (fun _ => by kernel_rfl) (fun _ => by kernel_rfl) lawI Try.underlying66 (fun _ => by kernel_rfl) (keyI (hB.hwf x hx j (by omega)).1 (hB.hwf x hx j (by omega)).2) (bf_at hat2 htl2.1) ?_
          refine TriL.segN (k' := 6) (fr' := fun b19 => [(6, .map (some mb)), (9, .map (some m13)), (56, .slice (L.eA x) ((nd ns x).ents.length) ((L.eC x))), (57, .int .i64 ((((nd ns x).ents.length : Nat) : Int))), (58, .int .i64 (((j : Nat) : Int))), (62, .slice Ax ((rest ++ tgts ns x j).length) (cx)), (67, .slice (some ⟨b19, 0, none⟩) (1) (1))]) (hps' := fun b19 => [.abs (MapA Try.prog 3 mb (mf (bf A ns ns.length)) ns.length), .abs (MapA Try.prog 3 m13 (mf (sf ns (x :: seen))) ((x :: seen).length)), .abs (TailA 75 1 Ax ((rest ++ tgts ns x j).length) cx (ptrsV A (rest ++ tgts ns x j))), .abs R, .blk b18 [.string (en (nd ns x).ents j).name, .int .i64 ((en (nd ns x).ents j).id)] 72, .blk b19 [.pointer (some ⟨(blkOf A), offOf A + (tgt ns (en (nd ns x).ents j).id) * 10, none⟩)] 75]) (obl := fun b19 => []) [o_] [6, 9, 56, 57, 58, 62, 67] [0, 1, 2, 3, 4, 5] (fun _ _ => by kernel_rfl) (fun b19 => trivial) (fun b19 => ?_)
          refine TriL.tailAppend 2 (d := (some 68)) (t := 97) (e := 75) (z := .pointer none) (size := 1) (bytes := 8) (n := (rest ++ tgts ns x j).length) (cap := cx) (A := Ax) (ad := ⟨b19, 0, none⟩) (xs := (ptrsV A (rest ++ tgts ns x j))) (s := (.tmp 62)) (x := (.tmp 67)) (ats := #[97, 97]) (m := 1) (c' := 1) (news := [.pointer (some ⟨(blkOf A), offOf A + (tgt ns (en (nd ns x).ents j).id) * 10, none⟩)]) (fun _ => by kernel_rfl) rfl (by kernel_rfl) (fun _ => by kernel_rfl) (fun _ => by kernel_rfl) Try.underlying97 (by kernel_rfl) rfl (by decide) (rfl) (by simp [Value.oneCell']) (src_blk1 (j := 5) rfl) (by unfold maxLen; rw [List.length_append, tgts_len]; omega) (by rw [List.length_append, tgts_len]; omega) (fun A20 c21 => ?_)
          refine TriL.partEq 2 (p := .abs (TailA 75 1 A20 (((rest ++ tgts ns x j).length) + 1) c21 ((ptrsV A (rest ++ tgts ns x j)) ++ [.pointer (some ⟨(blkOf A), offOf A + (tgt ns (en (nd ns x).ents j).id) * 10, none⟩)]))) (p' := .abs (TailA 75 1 A20 ((rest ++ tgts ns x (j + 1)).length) c21 (ptrsV A (rest ++ tgts ns x (j + 1))))) (by kernel_rfl) (by rw [tgts_succ, ← List.append_assoc, ptrs_snoc, len_snoc]; rfl) ?_
          refine TriL.slot 68 (.slice A20 (((rest ++ tgts ns x j).length) + 1) (c21)) (.slice A20 ((rest ++ tgts ns x (j + 1)).length) (c21)) (fun _ => by kernel_rfl) (by rw [tgts_succ, ← List.append_assoc, len_snoc]) ?_
          refine TriL.segK (k' := 8) (fr' := [(6, .map (some mb)), (9, .map (some m13)), (10, .slice A20 ((rest ++ tgts ns x (j + 1)).length) (c21)), (56, .slice (L.eA x) ((nd ns x).ents.length) ((L.eC x))), (57, .int .i64 ((((nd ns x).ents.length : Nat) : Int))), (58, .int .i64 (((j : Nat) : Int)))]) (obl := []) [o_] [6, 9, 10, 56, 57, 58] (fun _ _ => by kernel_rfl) trivial ?_
          refine TriL.nil (by kernel_rfl) ?_
          refine TriQ.blockNormal ?_
          refine TriQ.next ?_
          refine Tri.region ?_
          refine TriL.segK (k' := 2) (fr' := [(6, .map (some mb)), (9, .map (some m13)), (10, .slice A20 ((rest ++ tgts ns x (j + 1)).length) (c21)), (56, .slice (L.eA x) ((nd ns x).ents.length) ((L.eC x))), (57, .int .i64 ((((nd ns x).ents.length : Nat) : Int))), (58, .int .i64 (((j + 1 : Nat) : Int)))]) (obl := [(Value.int .i64 (IntKind.wrap .i64 (((j : Nat) : Int) + 1))) = (.int .i64 (((j + 1 : Nat) : Int)))]) [⟨[], none, none, none, some (.int .i64 (((j + 1 : Nat) : Int)))⟩, o_] [6, 9, 10, 56, 57, 58] (fun _ _ => by kernel_rfl) ⟨wrapEq (by omega) (by omega) (by omega), trivial⟩ ?_
          refine TriL.nil (by kernel_rfl) ?_
          exact TriQ.turn ((j + 1), A20, c21) (idx := [6, 9, 10, 56, 57, 58]) (pk := [0, 1, 2, 3]) (show (((j + 1)) ≤ (nd ns x).ents.length) from (by omega)) (by show (nd ns x).ents.length - ((j + 1)) < (nd ns x).ents.length - j; omega) (fun _ => by kernel_rfl) rfl (by kernel_rfl)
        · refine Tri.exit ?_
          refine TriQ.passExit ?_
          refine TriQ.passExit ?_
          refine TriQ.blockHit ?_
          refine TriQ.blockNormal ?_
          exact TriQ.turn ((x :: seen), (rest ++ tgts ns x j), Ax, cx) (idx := [6, 9, 10]) (pk := [0, 1, 2, 3]) (show (RInv ns (tgt ns root) ((x :: seen)) ((rest ++ tgts ns x j))) ∧ (((x :: seen)).Nodup) ∧ (((rest ++ tgts ns x j)).length + restE ns ((x :: seen)) ns.length ≤ 8193) from ⟨by rw [show j = (nd ns x).ents.length by omega]; exact (hw ▸ hinv : RInv ns _ seen (x :: rest)).new, List.nodup_cons.2 ⟨hsn, hnd⟩, by have hre := restE_new (ns := ns) hsn ns.length hx; rw [List.length_append, tgts_len]; omega⟩) (by show ((rest ++ tgts ns x j)).length + restE ns ((x :: seen)) ns.length < work.length + restE ns seen ns.length; first | omega | (have hre := restE_new (ns := ns) hsn ns.length hx; rw [List.length_append, tgts_len]; omega)) (fun _ => by kernel_rfl) rfl (by kernel_rfl)
    · have hfew := nodup_lt ns.length seen hnd (fun i hi => (hinv.reach i (.inl hi)).lt hok htl.1)
      have hll := hB.hl
      refine Tri.exit ?_
      refine TriQ.passExit ?_
      refine TriQ.passExit ?_
      refine TriQ.blockHit ?_
      refine TriQ.next ?_
      refine Tri.seq ?_
      refine Tri.region ?_
      have hwn : work = [] := List.eq_nil_of_length_eq_zero (by omega)
      refine TriL.segK (k' := 1) (fr' := [(70, .map (some m13))]) (obl := []) [o_] [70] (fun _ _ => by kernel_rfl) trivial ?_
      refine TriL.call (f := 56) (args := #[.map (some m13)]) (d := (some 71)) (pre := []) (R := [.abs (MapA Try.prog 3 mb (mf (bf A ns ns.length)) ns.length), .abs (MapA Try.prog 3 m13 (mf (sf ns seen)) seen.length), .abs (TailA 75 1 Aw work.length cw (ptrsV A work)), .abs R]) (pk := [0, 1, 2, 3]) (fun _ => by kernel_rfl) (sp_keysI (some m13)) rfl (by kernel_rfl) ?_
      rintro _ _ ⟨bk, rfl, rfl⟩
      refine TriL.call (f := 55) (args := #[keysFn bk]) (d := (some 72)) (pre := [.abs (MapA Try.prog 3 m13 (mf (sf ns seen)) seen.length), .blk bk [.map (some m13)] 96]) (R := [.abs (MapA Try.prog 3 mb (mf (bf A ns ns.length)) ns.length), .abs (TailA 75 1 Aw work.length cw (ptrsV A work)), .abs R]) (pk := [2, 0, 1, 3, 4]) (fun _ => by kernel_rfl) (sp_sortedI m13 bk seen.length (mf (sf ns seen)) (by omega)) rfl (by kernel_rfl) ?_
      rintro _ _ ⟨A5, c5, ss, rfl, hkeys, hsl, rfl⟩
      have hss : ss = underL ns (tgt ns root) := under_keys hok (hwn ▸ hinv) hkeys
      refine TriL.segK (k' := 5) (fr' := [(4, .slice A5 (ss.length) (c5)), (5, .int .i64 0)]) (obl := []) [o_, o_] [4, 5] (fun _ _ => by kernel_rfl) trivial ?_
      refine TriL.nil (by kernel_rfl) ?_
      refine TriQ.next ?_
      refine Tri.ret ?_
      exact TriQ.ret (v := .tuple #[.slice A5 (ss.length) (c5), .int .i64 0]) (l := [.abs (RowA 3 1 A5 ss.length c5 (intsV ss))]) (obl := []) [] [2, 5] (fun _ => by kernel_rfl) trivial rfl (by kernel_rfl) (⟨A5, c5, by rw [underG_ok hbg, ← hss], by rw [underG_ok hbg, ← hss]⟩)
  · refine TriL.segK (k' := 10) (fr' := [(6, x), (7, y), (8, .int .i64 ((beginC ns root)))]) (obl := []) [o_, o_, o_, o_, o_, o_, o_] [6, 7, 8] (fun _ _ => by kernel_rfl) trivial ?_
    refine TriL.nil (by kernel_rfl) ?_
    refine TriQ.next ?_
    refine Tri.seq ?_
    refine Tri.seq ?_
    refine Tri.region ?_
    refine TriL.segK (k' := 2) (fr' := [(6, x), (7, y), (8, .int .i64 ((beginC ns root))), (24, .bool (!(decide (((beginC ns root) : Int) = (0 : Int)))))]) (obl := []) [o_, o_] [6, 7, 8, 24] (fun _ _ => by kernel_rfl) trivial ?_
    refine TriL.nil (by kernel_rfl) ?_
    refine TriQ.next ?_
    refine Tri.condN (p := ((beginC ns root) : Int) = (0 : Int)) (fun _ => by kernel_rfl) (fun h24 => ?_) (fun h24 => ?_)
    · refine Tri.seq ?_
      refine Tri.region ?_
      refine TriL.mem (fun w hS => hS.rowNil (e := 3) (size := 1)) ?_
      refine TriL.segK (k' := 3) (fr' := [(4, .slice none (0) (0)), (5, .int .i64 ((beginC ns root)))]) (obl := []) [o_, o_, o_] [4, 5] (fun _ _ => by kernel_rfl) trivial ?_
      refine TriL.nil (by kernel_rfl) ?_
      refine TriQ.next ?_
      refine Tri.ret ?_
      refine TriQ.passRet ?_
      exact TriQ.ret (v := .tuple #[.slice none (0) (0), .int .i64 ((beginC ns root))]) (l := [.abs (RowA 3 1 none 0 0 ([]))]) (obl := []) [] [2, 0] (fun _ => by kernel_rfl) trivial rfl (by kernel_rfl) (⟨none, 0, by rw [underG_bad hbg]; rfl, by rw [underG_bad hbg]; rfl⟩)
    · exact absurd h24 hbg
end Go.Proofs.Ytjpdcppdoonmdaa
