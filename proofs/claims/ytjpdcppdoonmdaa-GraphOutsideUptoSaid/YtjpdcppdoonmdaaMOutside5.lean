/-
  PROVED HERE: lemmas and contracts of functions (texts of this repo, joined): GUnder, GUm, GQ, GRc, GK, GLine, GZ, GAdd, GX, GTree, GTm, GPt, GPu.
  CONDITIONS: as the theorems say.
-/
import Derived.Test.YtjpdcppdoonmdaaMOutside4
/- part GUnder. PROVED HERE: graph.Under CONDITIONS: as the theorems say. Printed by a program of this repo (wip/v). -/
section
namespace Go.Proofs.Ytjpdcppdoonmdaa
open Go.RowKit
attribute [local irreducible] TriL TriLQ Tri TriQ
set_option maxRecDepth 100000 in
set_option maxHeartbeats 4000000 in
theorem sp_under {β : Bs} (A : Option Addr) (c : Nat) (ns : List NodeM) (L : Lay) (hG : GraphAt β A ns L) (hB : GraphB ns 1048576) (root : Int) (hz : I64 root) :
    SpecB Try.prog β 34 #[.agg #[.slice A ns.length c], .int .i64 root] [] (fun β' v l => ∃ B cap, v = .tuple #[.slice B (underG ns root).1.length cap, .int .i64 (underG ns root).2] ∧ l = [] ∧ RowB β' B (intsV (underG ns root).1)) := by
 refine SpecB.enter Try.func34 rfl Try.ntmps34 (Nat.le_of_ble_eq_true rfl) (fun hle0 R => ?_)
 refine Tri.seq (Tri.region ?_)
 refine TriL.segN (k' := 3) (fr' := fun b1 => [(1, .int .i64 (root)), (2, .pointer (some ⟨b1, 0, none⟩))]) (hps' := fun b1 => [.abs R, .blk b1 [.slice A (ns.length) (c)] 24]) (obl := fun b1 => []) [o_, o_, o_] [1, 2] [0, 1] (fun _ _ => by kernel_rfl) (fun b1 => trivial) (fun b1 => ?_)
 refine TriL.nil (by kernel_rfl) (TriQ.next (Tri.seq (Tri.region ?_)))
 refine TriL.segK (k' := 2) (fr' := [(17, .agg #[.slice A (ns.length) (c)]), (18, .int .i64 (root))]) (obl := [b1 = b1]) [⟨[.at 1], none, none, none, none⟩, o_] [17, 18] (fun _ _ => by kernel_rfl) ⟨rfl, trivial⟩ ?_
 refine TriL.call (f := 42) (args := #[.agg #[.slice A (ns.length) (c)], .int .i64 (root)]) (d := (some 19)) (pre := []) (R := [.abs R, .blk b1 [.slice A (ns.length) (c)] 24]) (pk := [0, 1]) (fun _ => by kernel_rfl) (sp_begin A c ns L hG hB root hz) rfl (by kernel_rfl) ?_
 rintro _ _ (⟨mb, rfl, hbg, rfl⟩ | ⟨x, y, rfl, hbg, rfl⟩)
 ·
  obtain ⟨hok, hat, hkd⟩ := beginC_zero hbg
  have htl := atI_lt hat
  refine TriL.segK (k' := 10) (fr' := [(6, .map (some mb)), (7, .pointer (some ⟨(blkOf A), offOf A + (tgt ns root) * 10, none⟩)), (8, .int .i64 0)]) (obl := []) [o_, o_, o_, o_, o_, o_, o_] [6, 7, 8] (fun _ _ => by kernel_rfl) trivial ?_
  refine TriL.nil (by kernel_rfl) (TriQ.next (Tri.seq (Tri.seq (Tri.region ?_))))
  refine TriL.segK (k' := 2) (fr' := [(6, .map (some mb)), (7, .pointer (some ⟨(blkOf A), offOf A + (tgt ns root) * 10, none⟩)), (8, .int .i64 0), (24, .bool false)]) (obl := []) [o_, o_] [6, 7, 8, 24] (fun _ _ => by kernel_rfl) trivial ?_
  refine TriL.nil (by kernel_rfl) (TriQ.next ?_)
  refine Tri.condF (fun _ => by kernel_rfl) ?_
  refine Tri.skip (TriQ.next (Tri.seq (Tri.region ?_)))
  refine TriL.mapMake (d := (some 26)) (t := 96) (fun _ => by kernel_rfl) Try.prog rfl 3 (fun m2 => ?_)
  refine TriL.segK (k' := 2) (fr' := [(6, .map (some mb)), (7, .pointer (some ⟨(blkOf A), offOf A + (tgt ns root) * 10, none⟩)), (9, .map (some m2))]) (obl := []) [o_] [6, 7, 9] (fun _ _ => by kernel_rfl) trivial ?_
  refine TriL.nil (by kernel_rfl) (TriQ.next (Tri.seq (Tri.region ?_)))
  refine TriL.segN (k' := 2) (fr' := fun b3 => [(6, .map (some mb)), (9, .map (some m2)), (28, .slice (some ⟨b3, 0, none⟩) (1) (1))]) (hps' := fun b3 => [.abs (MapA Try.prog 3 mb (mf (bf A ns ns.length)) ns.length), .abs R, .blk b1 [.slice A (ns.length) (c)] 24, .abs (MapA Try.prog 3 m2 (fun _ => none) 0), .blk b3 [.pointer (some ⟨(blkOf A), offOf A + (tgt ns root) * 10, none⟩)] 75]) (obl := fun b3 => []) [o_, o_] [6, 9, 28] [0, 1, 2, 3, 4] (fun _ _ => by kernel_rfl) (fun b3 => trivial) (fun b3 => ?_)
  refine TriL.partEq 3 (p := .abs (MapA Try.prog 3 m2 (fun _ => none) 0)) (p' := .abs (MapA Try.prog 3 m2 (mf (sf ns ([] : List Nat))) (([] : List Nat).length))) (by kernel_rfl) (by rw [sf_zero]; rfl) ?_
  refine TriL.mem (fun w hS => hS.toTail (i := 4) (b := b3) (cs := [.pointer (some ⟨(blkOf A), offOf A + (tgt ns root) * 10, none⟩)]) (e := 75) 1 1 (by kernel_rfl) rfl (by decide)) ?_
  refine TriL.partEq 4 (p := .abs (TailA 75 1 (some ⟨b3, 0, none⟩) 1 1 ([.pointer (some ⟨(blkOf A), offOf A + (tgt ns root) * 10, none⟩)]))) (p' := .abs (TailA 75 1 (some ⟨b3, 0, none⟩) 1 1 (ptrsV A ([tgt ns root])))) (by kernel_rfl) (rfl) ?_
  refine TriL.segK (k' := 3) (fr' := [(6, .map (some mb)), (9, .map (some m2)), (10, .slice (some ⟨b3, 0, none⟩) (1) (1))]) (obl := []) [o_] [6, 9, 10] (fun _ _ => by kernel_rfl) trivial ?_
  refine TriL.nil (by kernel_rfl) (TriQ.next (Tri.seq (Tri.block ?_)))
  refine Tri.loop (ι := (List Nat) × (List Nat) × (Option Addr) × Nat) (fun ((seen, work, Aw, cw) : (List Nat) × (List Nat) × (Option Addr) × Nat) => (RInv ns (tgt ns root) seen work) ∧ (seen.Nodup) ∧ (work.length + restE ns seen ns.length ≤ 8193)) (fun ((seen, work, Aw, cw) : (List Nat) × (List Nat) × (Option Addr) × Nat) => work.length + restE ns seen ns.length) (fun ((seen, work, Aw, cw) : (List Nat) × (List Nat) × (Option Addr) × Nat) => [(6, .map (some mb)), (9, .map (some m2)), (10, .slice Aw (work.length) (cw))]) (fun ((seen, work, Aw, cw) : (List Nat) × (List Nat) × (Option Addr) × Nat) => [.abs (MapA Try.prog 3 mb (mf (bf A ns ns.length)) ns.length), .abs (MapA Try.prog 3 m2 (mf (sf ns seen)) seen.length), .abs (TailA 75 1 Aw work.length cw (ptrsV A work)), .abs R]) (([] : List Nat), [tgt ns root], some ⟨b3, 0, none⟩, 1) (idx := [6, 9, 10]) (pk := [0, 3, 4, 1]) (show (RInv ns (tgt ns root) (([] : List Nat)) ([tgt ns root])) ∧ ((([] : List Nat)).Nodup) ∧ (([tgt ns root]).length + restE ns (([] : List Nat)) ns.length ≤ 8193) from ⟨⟨.inr (List.mem_cons_self ..), fun i hi => by rcases hi with hi | hi; cases hi; rw [List.mem_singleton.1 hi]; exact .refl, fun i hi => by cases hi⟩, List.nodup_nil, by have := restE_sum ns [] ns.length; have := hok.sum; show 1 + _ ≤ _; omega⟩) (fun _ => by kernel_rfl) rfl (by kernel_rfl) ?_
  rintro ⟨seen, work, Aw, cw⟩ ⟨hinv, hnd, hmu⟩
  show Tri _ _ _ _ [(6, .map (some mb)), (9, .map (some m2)), (10, .slice Aw (work.length) (cw))] [.abs (MapA Try.prog 3 mb (mf (bf A ns ns.length)) ns.length), .abs (MapA Try.prog 3 m2 (mf (sf ns seen)) seen.length), .abs (TailA 75 1 Aw work.length cw (ptrsV A work)), .abs R] _
  refine Tri.seq (Tri.seq (Tri.region ?_))
  refine TriL.segK (k' := 3) (fr' := [(6, .map (some mb)), (9, .map (some m2)), (10, .slice Aw (work.length) (cw)), (31, .bool (decide ((((work.length : Nat) : Int) : Int) > (0 : Int))))]) (obl := []) [o_, o_, o_] [6, 9, 10, 31] (fun _ _ => by kernel_rfl) trivial ?_
  refine TriL.nil (by kernel_rfl) (TriQ.next ?_)
  refine Tri.condP (p := (((work.length : Nat) : Int) : Int) > (0 : Int)) (fun _ => by kernel_rfl) (fun h31 => ?_) (fun h31 => ?_)
  ·
   obtain ⟨x, rest, hw⟩ : ∃ x g2, work = x :: g2 := List.exists_cons_of_length_pos (by omega)
   have hx : x < ns.length := (hinv.reach x (.inr (by rw [hw]; exact List.mem_cons_self ..))).lt hok htl.1
   have hwl : work.length = rest.length + 1 := by rw [hw]; rfl
   have hfew := nodup_lt ns.length seen hnd (fun i hi => (hinv.reach i (.inl hi)).lt hok htl.1)
   have hll := hB.hl
   have hd3 := hB.hd x hx
   refine Tri.skip (TriQ.next (Tri.block (Tri.seq (Tri.region ?_))))
   refine TriL.segK (k' := 1) (fr' := [(6, .map (some mb)), (9, .map (some m2)), (10, .slice Aw (work.length) (cw)), (32, .slice Aw (work.length) (cw))]) (obl := []) [o_] [6, 9, 10, 32] (fun _ _ => by kernel_rfl) trivial ?_
   refine TriL.tell (p := (Aw = some ⟨blkOf Aw, offOf Aw, none⟩)) (fun w hS => let ⟨F, h⟩ := hS.get (i := 2) rfl; (TailA.len h).2.2) (fun hAw => ?_)
   refine TriL.segK (k' := 4) (fr' := [(6, .map (some mb)), (9, .map (some m2)), (10, .slice Aw (work.length) (cw)), (11, .pointer (some ⟨(blkOf A), offOf A + x * 10, none⟩))]) (obl := [(∀ F w, (TailA 75 1 Aw work.length cw (ptrsV A work)).h F w → w.cell? ⟨(blkOf Aw), offOf Aw + 0 * 1, none⟩ = some (.pointer (some ⟨(blkOf A), offOf A + x * 10, none⟩))), 0 = ((0 : Nat) : Int), 0 < work.length, (⟨(blkOf Aw), offOf Aw, none⟩ : Addr).spot = none, (Aw : Option Addr) = some ⟨(blkOf Aw), offOf Aw, none⟩]) [⟨[], some 0, none, some ⟨(blkOf Aw), offOf Aw, none⟩, none⟩, ⟨[.view 2 (.pointer (some ⟨(blkOf A), offOf A + x * 10, none⟩))], none, none, none, none⟩, o_] [6, 9, 10, 11] (fun _ _ => by kernel_rfl) ⟨TailA.cellAt (i := 0) (j := 0) (by rw [hw]; rfl), rfl, by omega, rfl, hAw, trivial⟩ ?_
   refine TriL.nil (by kernel_rfl) (TriQ.next (Tri.seq (Tri.region ?_)))
   refine TriL.segK (k' := 1) (fr' := [(6, .map (some mb)), (9, .map (some m2)), (11, .pointer (some ⟨(blkOf A), offOf A + x * 10, none⟩)), (35, .slice Aw (work.length) (cw))]) (obl := []) [o_] [6, 9, 11, 35] (fun _ _ => by kernel_rfl) trivial ?_
   refine TriL.tailSlice 2 (d := (some 36)) (t := 97) (e := 75) (size := 1) (m := 1) (n := work.length) (cap := cw) (A := Aw) (xs := (ptrsV A work)) (x := (.tmp 35)) (lo := (.const (.int .i64 1))) (fun _ => by kernel_rfl) (by kernel_rfl) (fun _ => by kernel_rfl) (fun _ => by kernel_rfl) Try.underlying97 (by kernel_rfl) (by omega) (fun A4 => ?_)
   refine TriL.partEq 2 (p := .abs (TailA 75 1 A4 (work.length - 1) (cw - 1) ((ptrsV A work).drop (1 * 1)))) (p' := .abs (TailA 75 1 A4 rest.length (cw - 1) (ptrsV A rest))) (by kernel_rfl) (by rw [hw]; rfl) ?_
   refine TriL.slot 36 (.slice A4 ((work.length - 1)) ((cw - 1))) (.slice A4 (rest.length) ((cw - 1))) (fun _ => by kernel_rfl) (by rw [hw]; rfl) ?_
   refine TriL.segK (k' := 3) (fr' := [(6, .map (some mb)), (9, .map (some m2)), (10, .slice A4 (rest.length) ((cw - 1))), (11, .pointer (some ⟨(blkOf A), offOf A + x * 10, none⟩))]) (obl := []) [o_] [6, 9, 10, 11] (fun _ _ => by kernel_rfl) trivial ?_
   refine TriL.nil (by kernel_rfl) (TriQ.next (Tri.seq (Tri.seq (Tri.region ?_))))
   refine TriL.segK (k' := 5) (fr' := [(6, .map (some mb)), (9, .map (some m2)), (10, .slice A4 (rest.length) ((cw - 1))), (11, .pointer (some ⟨(blkOf A), offOf A + x * 10, none⟩)), (38, .map (some m2)), (42, .int .i64 ((nd ns x).id))]) (obl := [(Rd β ⟨(blkOf A), offOf A + x * 10, none⟩ (.int .i64 ((nd ns x).id)))]) [o_, o_, o_, o_, ⟨[.old (.int .i64 ((nd ns x).id))], none, none, none, none⟩] [6, 9, 10, 11, 38, 42] (fun _ _ => by kernel_rfl) ⟨GraphAt.rd hG (i := x) (by omega) (j := 0) rfl, trivial⟩ ?_
   by_cases hsn : x ∈ seen
   ·
    refine TriL.mapLookOk 1 (d := (some 43)) (t := 96) (K := 3) (E := 98) (b := m2) (n := seen.length) (f := (mf (sf ns seen))) (x := (.tmp 38)) (ix := (.tmp 42)) (key := .int .i64 ((nd ns x).id)) (z := .agg #[]) (kl := (.int .i64 (nd ns x).id)) (r := (some (.agg #[]))) (fun _ => by kernel_rfl) (by kernel_rfl) (fun _ => by kernel_rfl) (fun _ => by kernel_rfl) lawI Try.underlying96 (fun _ => by kernel_rfl) (keyI (hB.node x hx).ids.1.1 (hB.node x hx).ids.1.2) (sf_in hok.rise hx hsn) ?_
    refine TriL.segN (k' := 12) (fr' := fun b5 => [(6, .map (some mb)), (9, .map (some m2)), (10, .slice A4 (rest.length) ((cw - 1))), (11, .pointer (some ⟨(blkOf A), offOf A + x * 10, none⟩)), (13, .bool true)]) (hps' := fun b5 => [.abs (MapA Try.prog 3 mb (mf (bf A ns ns.length)) ns.length), .abs (MapA Try.prog 3 m2 (mf (sf ns seen)) seen.length), .abs (TailA 75 1 A4 rest.length (cw - 1) (ptrsV A rest)), .abs R, .blk b5 [] 98]) (obl := fun b5 => []) [o_, o_, o_, o_, o_, o_] [6, 9, 10, 11, 13] [0, 1, 2, 3, 4] (fun _ _ => by kernel_rfl) (fun b5 => trivial) (fun b5 => ?_)
    refine TriL.nil (by kernel_rfl) (TriQ.next (Tri.seq (Tri.region ?_)))
    refine TriL.segK (k' := 1) (fr' := [(6, .map (some mb)), (9, .map (some m2)), (10, .slice A4 (rest.length) ((cw - 1))), (11, .pointer (some ⟨(blkOf A), offOf A + x * 10, none⟩)), (46, .bool true)]) (obl := []) [o_] [6, 9, 10, 11, 46] (fun _ _ => by kernel_rfl) trivial ?_
    refine TriL.nil (by kernel_rfl) (TriQ.next ?_)
    refine Tri.condT (fun _ => by kernel_rfl) ?_
    refine Tri.exit (TriQ.passExit (TriQ.blockHit ?_))
    exact TriQ.turn (seen, rest, A4, (cw - 1)) (idx := [6, 9, 10]) (pk := [0, 1, 2, 3]) (show (RInv ns (tgt ns root) seen rest) ∧ (seen.Nodup) ∧ (rest.length + restE ns seen ns.length ≤ 8193) from ⟨(hw ▸ hinv : RInv ns _ seen (x :: rest)).old hsn, hnd, by omega⟩) (by show rest.length + restE ns seen ns.length < work.length + restE ns seen ns.length; first | omega | (have hre := restE_new (ns := ns) hsn ns.length hx; rw [List.length_append, tgts_len]; omega)) (fun _ => by kernel_rfl) rfl (by kernel_rfl)
   ·
    refine TriL.mapLookOk 1 (d := (some 43)) (t := 96) (K := 3) (E := 98) (b := m2) (n := seen.length) (f := (mf (sf ns seen))) (x := (.tmp 38)) (ix := (.tmp 42)) (key := .int .i64 ((nd ns x).id)) (z := .agg #[]) (kl := (.int .i64 (nd ns x).id)) (r := none) (fun _ => by kernel_rfl) (by kernel_rfl) (fun _ => by kernel_rfl) (fun _ => by kernel_rfl) lawI Try.underlying96 (fun _ => by kernel_rfl) (keyI (hB.node x hx).ids.1.1 (hB.node x hx).ids.1.2) (sf_out hok.rise hx hsn) ?_
    refine TriL.segN (k' := 12) (fr' := fun b6 => [(6, .map (some mb)), (9, .map (some m2)), (10, .slice A4 (rest.length) ((cw - 1))), (11, .pointer (some ⟨(blkOf A), offOf A + x * 10, none⟩)), (13, .bool false)]) (hps' := fun b6 => [.abs (MapA Try.prog 3 mb (mf (bf A ns ns.length)) ns.length), .abs (MapA Try.prog 3 m2 (mf (sf ns seen)) seen.length), .abs (TailA 75 1 A4 rest.length (cw - 1) (ptrsV A rest)), .abs R, .blk b6 [] 98]) (obl := fun b6 => []) [o_, o_, o_, o_, o_, o_] [6, 9, 10, 11, 13] [0, 1, 2, 3, 4] (fun _ _ => by kernel_rfl) (fun b6 => trivial) (fun b6 => ?_)
    refine TriL.nil (by kernel_rfl) (TriQ.next (Tri.seq (Tri.region ?_)))
    refine TriL.segK (k' := 1) (fr' := [(6, .map (some mb)), (9, .map (some m2)), (10, .slice A4 (rest.length) ((cw - 1))), (11, .pointer (some ⟨(blkOf A), offOf A + x * 10, none⟩)), (46, .bool false)]) (obl := []) [o_] [6, 9, 10, 11, 46] (fun _ _ => by kernel_rfl) trivial ?_
    refine TriL.nil (by kernel_rfl) (TriQ.next ?_)
    refine Tri.condF (fun _ => by kernel_rfl) ?_
    refine Tri.skip (TriQ.next (Tri.seq (Tri.region ?_)))
    refine TriL.segK (k' := 6) (fr' := [(6, .map (some mb)), (9, .map (some m2)), (10, .slice A4 (rest.length) ((cw - 1))), (11, .pointer (some ⟨(blkOf A), offOf A + x * 10, none⟩)), (47, .map (some m2)), (51, .int .i64 ((nd ns x).id)), (52, .agg #[])]) (obl := [(Rd β ⟨(blkOf A), offOf A + x * 10, none⟩ (.int .i64 ((nd ns x).id)))]) [o_, o_, o_, o_, ⟨[.old (.int .i64 ((nd ns x).id))], none, none, none, none⟩, o_] [6, 9, 10, 11, 47, 51, 52] (fun _ _ => by kernel_rfl) ⟨GraphAt.rd hG (i := x) (by omega) (j := 0) rfl, trivial⟩ ?_
    refine TriL.mapSet 1 (d := none) (t := 96) (K := 3) (E := 98) (b := m2) (n := seen.length) (f := (mf (sf ns seen))) (x := (.tmp 47)) (ix := (.tmp 51)) (y := (.tmp 52)) (key := .int .i64 ((nd ns x).id)) (u := .agg #[]) (kl := (.int .i64 (nd ns x).id)) (n' := (x :: seen).length) (f' := (mf (sf ns (x :: seen)))) (fun _ => by kernel_rfl) (by kernel_rfl) (fun _ => by kernel_rfl) (fun _ => by kernel_rfl) (fun _ => by kernel_rfl) lawI Try.underlying96 (by unfold maxLen; omega) (keyI (hB.node x hx).ids.1.1 (hB.node x hx).ids.1.2) (sf_cnt hok.rise hx hsn) (sf_upd hok.rise hx) ?_
    refine TriL.nil (by kernel_rfl) (TriQ.next (Tri.seq (Tri.region ?_)))
    refine TriL.partEq 2 (p := .abs (TailA 75 1 A4 rest.length (cw - 1) (ptrsV A rest))) (p' := .abs (TailA 75 1 A4 ((rest ++ tgts ns x 0).length) (cw - 1) (ptrsV A (rest ++ tgts ns x 0)))) (by kernel_rfl) (by rw [show tgts ns x 0 = [] from rfl, List.append_nil]) ?_
    refine TriL.slot 10 (.slice A4 (rest.length) ((cw - 1))) (.slice A4 ((rest ++ tgts ns x 0).length) ((cw - 1))) (fun _ => by kernel_rfl) (by rw [show tgts ns x 0 = [] from rfl, List.append_nil]) ?_
    refine TriL.segK (k' := 6) (fr' := [(6, .map (some mb)), (9, .map (some m2)), (10, .slice A4 ((rest ++ tgts ns x 0).length) ((cw - 1))), (56, .slice (L.eA x) ((nd ns x).ents.length) ((L.eC x))), (57, .int .i64 ↑((nd ns x).ents.length)), (58, .int .i64 0)]) (obl := [(Rd β ⟨(blkOf A), offOf A + x * 10 + 9, none⟩ (.slice (L.eA x) ((nd ns x).ents.length) ((L.eC x))))]) [o_, o_, o_, ⟨[.old (.slice (L.eA x) ((nd ns x).ents.length) ((L.eC x)))], none, none, none, none⟩, o_, o_] [6, 9, 10, 56, 57, 58] (fun _ _ => by kernel_rfl) ⟨GraphAt.rd hG (i := x) (by omega) (j := 9) rfl, trivial⟩ ?_
    refine TriL.nil (by kernel_rfl) (TriQ.next (Tri.block ?_))
    refine Tri.loop (ι := Nat × (Option Addr) × Nat) (fun ((j, Ax, cx) : Nat × (Option Addr) × Nat) => (j ≤ (nd ns x).ents.length)) (fun ((j, Ax, cx) : Nat × (Option Addr) × Nat) => (nd ns x).ents.length - j) (fun ((j, Ax, cx) : Nat × (Option Addr) × Nat) => [(6, .map (some mb)), (9, .map (some m2)), (10, .slice Ax ((rest ++ tgts ns x j).length) (cx)), (56, .slice (L.eA x) ((nd ns x).ents.length) ((L.eC x))), (57, .int .i64 ↑((nd ns x).ents.length)), (58, .int .i64 ↑j)]) (fun ((j, Ax, cx) : Nat × (Option Addr) × Nat) => [.abs (MapA Try.prog 3 mb (mf (bf A ns ns.length)) ns.length), .abs (MapA Try.prog 3 m2 (mf (sf ns (x :: seen))) ((x :: seen).length)), .abs (TailA 75 1 Ax ((rest ++ tgts ns x j).length) cx (ptrsV A (rest ++ tgts ns x j))), .abs R]) (0, A4, (cw - 1)) (idx := [6, 9, 10, 56, 57, 58]) (pk := [0, 1, 2, 3]) (show (0 ≤ (nd ns x).ents.length) from (by omega)) (fun _ => by kernel_rfl) rfl (by kernel_rfl) ?_
    rintro ⟨j, Ax, cx⟩ hj
    show Tri _ _ _ _ [(6, .map (some mb)), (9, .map (some m2)), (10, .slice Ax ((rest ++ tgts ns x j).length) (cx)), (56, .slice (L.eA x) ((nd ns x).ents.length) ((L.eC x))), (57, .int .i64 ↑((nd ns x).ents.length)), (58, .int .i64 ↑j)] [.abs (MapA Try.prog 3 mb (mf (bf A ns ns.length)) ns.length), .abs (MapA Try.prog 3 m2 (mf (sf ns (x :: seen))) ((x :: seen).length)), .abs (TailA 75 1 Ax ((rest ++ tgts ns x j).length) cx (ptrsV A (rest ++ tgts ns x j))), .abs R] _
    refine Tri.seq (Tri.region ?_)
    refine TriL.segK (k' := 1) (fr' := [(6, .map (some mb)), (9, .map (some m2)), (10, .slice Ax ((rest ++ tgts ns x j).length) (cx)), (56, .slice (L.eA x) ((nd ns x).ents.length) ((L.eC x))), (57, .int .i64 ↑((nd ns x).ents.length)), (58, .int .i64 ↑j), (59, .bool (decide ((((j : Nat) : Int) : Int) < ((((nd ns x).ents.length : Nat) : Int) : Int))))]) (obl := []) [o_] [6, 9, 10, 56, 57, 58, 59] (fun _ _ => by kernel_rfl) trivial ?_
    refine TriL.nil (by kernel_rfl) (TriQ.next (Tri.seq ?_))
    refine Tri.condP (p := (((j : Nat) : Int) : Int) < ((((nd ns x).ents.length : Nat) : Int) : Int)) (fun _ => by kernel_rfl) (fun h59 => ?_) (fun h59 => ?_)
    ·
     refine Tri.skip (TriQ.next (Tri.seq (Tri.block (Tri.seq (Tri.region ?_)))))
     refine TriL.segN (k' := 4) (fr' := fun b7 => [(6, .map (some mb)), (9, .map (some m2)), (10, .slice Ax ((rest ++ tgts ns x j).length) (cx)), (15, .pointer (some ⟨b7, 0, none⟩)), (56, .slice (L.eA x) ((nd ns x).ents.length) ((L.eC x))), (57, .int .i64 ↑((nd ns x).ents.length)), (58, .int .i64 ↑j)]) (hps' := fun b7 => [.abs (MapA Try.prog 3 mb (mf (bf A ns ns.length)) ns.length), .abs (MapA Try.prog 3 m2 (mf (sf ns (x :: seen))) ((x :: seen).length)), .abs (TailA 75 1 Ax ((rest ++ tgts ns x j).length) cx (ptrsV A (rest ++ tgts ns x j))), .abs R, .blk b7 [.string (en (nd ns x).ents j).name, .int .i64 ((en (nd ns x).ents j).id)] 72]) (obl := fun b7 => [b7 = b7, b7 = b7, (Rd β ⟨(blkOf (L.eA x)), offOf (L.eA x) + j * 2 + 1, none⟩ (.int .i64 ((en (nd ns x).ents j).id))), (Rd β ⟨(blkOf (L.eA x)), offOf (L.eA x) + j * 2, none⟩ (.string (en (nd ns x).ents j).name)), ((j : Nat) : Int) = ((j : Nat) : Int), j < (nd ns x).ents.length, (⟨(blkOf (L.eA x)), offOf (L.eA x), none⟩ : Addr).spot = none, ((L.eA x) : Option Addr) = some ⟨(blkOf (L.eA x)), offOf (L.eA x), none⟩]) [⟨[], some j, none, some ⟨(blkOf (L.eA x)), offOf (L.eA x), none⟩, none⟩, ⟨[.old (.string (en (nd ns x).ents j).name), .old (.int .i64 ((en (nd ns x).ents j).id))], none, none, none, none⟩, o_, ⟨[.at 4, .at 4], none, none, none, none⟩] [6, 9, 10, 15, 56, 57, 58] [0, 1, 2, 3, 4] (fun _ _ => by kernel_rfl) (fun b7 => ⟨rfl, rfl, EntsAt.rd (hG.ents x (by omega)) (i := j) (by omega) (j := 1) rfl, EntsAt.rd (hG.ents x (by omega)) (i := j) (by omega) (j := 0) rfl, rfl, by omega, rfl, EntsAt.hd (hG.ents x (by omega)) (i := j) (by omega), trivial⟩) (fun b7 => ?_)
     refine TriL.nil (by kernel_rfl) (TriQ.next (Tri.region ?_))
     refine TriL.segK (k' := 4) (fr' := [(6, .map (some mb)), (9, .map (some m2)), (56, .slice (L.eA x) ((nd ns x).ents.length) ((L.eC x))), (57, .int .i64 ↑((nd ns x).ents.length)), (58, .int .i64 ↑j), (62, .slice Ax ((rest ++ tgts ns x j).length) (cx)), (63, .map (some mb)), (65, .int .i64 ((en (nd ns x).ents j).id))]) (obl := [b7 = b7]) [o_, o_, o_, ⟨[.at 4], none, none, none, none⟩] [6, 9, 56, 57, 58, 62, 63, 65] (fun _ _ => by kernel_rfl) ⟨rfl, trivial⟩ ?_
     have hat2 := (hok.ents x hx j (by omega)).at_
     have htl2 := atI_lt hat2
     refine TriL.mapLook 0 (d := (some 66)) (t := 66) (K := 3) (E := 75) (b := mb) (n := ns.length) (f := (mf (bf A ns ns.length))) (x := (.tmp 63)) (ix := (.tmp 65)) (key := .int .i64 ((en (nd ns x).ents j).id)) (z := .pointer none) (kl := (.int .i64 (en (nd ns x).ents j).id)) (r := (some (.pointer (some ⟨(blkOf A), offOf A + (tgt ns (en (nd ns x).ents j).id) * 10, none⟩)))) (fun _ => by kernel_rfl) (by kernel_rfl) (fun _ => by kernel_rfl) (fun _ => by kernel_rfl) lawI Try.underlying66 (fun _ => by kernel_rfl) (keyI (hB.hwf x hx j (by omega)).1 (hB.hwf x hx j (by omega)).2) (bf_at hat2 htl2.1) ?_
     refine TriL.segN (k' := 6) (fr' := fun b8 => [(6, .map (some mb)), (9, .map (some m2)), (56, .slice (L.eA x) ((nd ns x).ents.length) ((L.eC x))), (57, .int .i64 ↑((nd ns x).ents.length)), (58, .int .i64 ↑j), (62, .slice Ax ((rest ++ tgts ns x j).length) (cx)), (67, .slice (some ⟨b8, 0, none⟩) (1) (1))]) (hps' := fun b8 => [.abs (MapA Try.prog 3 mb (mf (bf A ns ns.length)) ns.length), .abs (MapA Try.prog 3 m2 (mf (sf ns (x :: seen))) ((x :: seen).length)), .abs (TailA 75 1 Ax ((rest ++ tgts ns x j).length) cx (ptrsV A (rest ++ tgts ns x j))), .abs R, .blk b7 [.string (en (nd ns x).ents j).name, .int .i64 ((en (nd ns x).ents j).id)] 72, .blk b8 [.pointer (some ⟨(blkOf A), offOf A + (tgt ns (en (nd ns x).ents j).id) * 10, none⟩)] 75]) (obl := fun b8 => []) [o_] [6, 9, 56, 57, 58, 62, 67] [0, 1, 2, 3, 4, 5] (fun _ _ => by kernel_rfl) (fun b8 => trivial) (fun b8 => ?_)
     refine TriL.tailAppend 2 (d := (some 68)) (t := 97) (e := 75) (z := .pointer none) (size := 1) (bytes := 8) (n := (rest ++ tgts ns x j).length) (cap := cx) (A := Ax) (ad := ⟨b8, 0, none⟩) (xs := (ptrsV A (rest ++ tgts ns x j))) (s := (.tmp 62)) (x := (.tmp 67)) (ats := #[97, 97]) (m := 1) (c' := 1) (news := [.pointer (some ⟨(blkOf A), offOf A + (tgt ns (en (nd ns x).ents j).id) * 10, none⟩)]) (fun _ => by kernel_rfl) rfl (by kernel_rfl) (fun _ => by kernel_rfl) (fun _ => by kernel_rfl) Try.underlying97 (by kernel_rfl) rfl (by decide) (rfl) (by simp [Value.oneCell']) (src_blk1 (j := 5) rfl) (by unfold maxLen; rw [List.length_append, tgts_len]; omega) (by rw [List.length_append, tgts_len]; omega) (fun A9 c10 => ?_)
     refine TriL.partEq 2 (p := .abs (TailA 75 1 A9 (((rest ++ tgts ns x j).length) + 1) c10 ((ptrsV A (rest ++ tgts ns x j)) ++ [.pointer (some ⟨(blkOf A), offOf A + (tgt ns (en (nd ns x).ents j).id) * 10, none⟩)]))) (p' := .abs (TailA 75 1 A9 ((rest ++ tgts ns x (j + 1)).length) c10 (ptrsV A (rest ++ tgts ns x (j + 1))))) (by kernel_rfl) (by rw [tgts_succ, ← List.append_assoc, ptrs_snoc, len_snoc]; rfl) ?_
     refine TriL.slot 68 (.slice A9 (((rest ++ tgts ns x j).length) + 1) (c10)) (.slice A9 ((rest ++ tgts ns x (j + 1)).length) (c10)) (fun _ => by kernel_rfl) (by rw [tgts_succ, ← List.append_assoc, len_snoc]) ?_
     refine TriL.segK (k' := 8) (fr' := [(6, .map (some mb)), (9, .map (some m2)), (10, .slice A9 ((rest ++ tgts ns x (j + 1)).length) (c10)), (56, .slice (L.eA x) ((nd ns x).ents.length) ((L.eC x))), (57, .int .i64 ↑((nd ns x).ents.length)), (58, .int .i64 ↑j)]) (obl := []) [o_] [6, 9, 10, 56, 57, 58] (fun _ _ => by kernel_rfl) trivial ?_
     refine TriL.nil (by kernel_rfl) (TriQ.blockNormal (TriQ.next (Tri.region ?_)))
     refine TriL.segK (k' := 2) (fr' := [(6, .map (some mb)), (9, .map (some m2)), (10, .slice A9 ((rest ++ tgts ns x (j + 1)).length) (c10)), (56, .slice (L.eA x) ((nd ns x).ents.length) ((L.eC x))), (57, .int .i64 ↑((nd ns x).ents.length)), (58, .int .i64 ↑(j + 1))]) (obl := [(Value.int .i64 (IntKind.wrap .i64 (((j : Nat) : Int) + 1))) = (.int .i64 ↑(j + 1))]) [⟨[], none, none, none, some (.int .i64 ↑(j + 1))⟩, o_] [6, 9, 10, 56, 57, 58] (fun _ _ => by kernel_rfl) ⟨wrapEq (by omega) (by omega) (by omega), trivial⟩ ?_
     refine TriL.nil (by kernel_rfl) ?_
     exact TriQ.turn ((j + 1), A9, c10) (idx := [6, 9, 10, 56, 57, 58]) (pk := [0, 1, 2, 3]) (show (((j + 1)) ≤ (nd ns x).ents.length) from (by omega)) (by show (nd ns x).ents.length - ((j + 1)) < (nd ns x).ents.length - j; omega) (fun _ => by kernel_rfl) rfl (by kernel_rfl)
    ·
     refine Tri.exit (TriQ.passExit (TriQ.passExit (TriQ.blockHit (TriQ.blockNormal ?_))))
     exact TriQ.turn ((x :: seen), (rest ++ tgts ns x j), Ax, cx) (idx := [6, 9, 10]) (pk := [0, 1, 2, 3]) (show (RInv ns (tgt ns root) ((x :: seen)) ((rest ++ tgts ns x j))) ∧ (((x :: seen)).Nodup) ∧ (((rest ++ tgts ns x j)).length + restE ns ((x :: seen)) ns.length ≤ 8193) from ⟨by rw [show j = (nd ns x).ents.length by omega]; exact (hw ▸ hinv : RInv ns _ seen (x :: rest)).new, List.nodup_cons.2 ⟨hsn, hnd⟩, by have hre := restE_new (ns := ns) hsn ns.length hx; rw [List.length_append, tgts_len]; omega⟩) (by show ((rest ++ tgts ns x j)).length + restE ns ((x :: seen)) ns.length < work.length + restE ns seen ns.length; first | omega | (have hre := restE_new (ns := ns) hsn ns.length hx; rw [List.length_append, tgts_len]; omega)) (fun _ => by kernel_rfl) rfl (by kernel_rfl)
  ·
   have hfew := nodup_lt ns.length seen hnd (fun i hi => (hinv.reach i (.inl hi)).lt hok htl.1)
   have hll := hB.hl
   refine Tri.exit (TriQ.passExit (TriQ.passExit (TriQ.blockHit (TriQ.next (Tri.seq (Tri.region ?_))))))
   have hwn : work = [] := List.eq_nil_of_length_eq_zero (by omega)
   refine TriL.segK (k' := 1) (fr' := [(70, .map (some m2))]) (obl := []) [o_] [70] (fun _ _ => by kernel_rfl) trivial ?_
   refine TriL.call (f := 56) (args := #[.map (some m2)]) (d := (some 71)) (pre := []) (R := [.abs (MapA Try.prog 3 mb (mf (bf A ns ns.length)) ns.length), .abs (MapA Try.prog 3 m2 (mf (sf ns seen)) seen.length), .abs (TailA 75 1 Aw work.length cw (ptrsV A work)), .abs R]) (pk := [0, 1, 2, 3]) (fun _ => by kernel_rfl) (sp_keysI (some m2)) rfl (by kernel_rfl) ?_
   rintro _ _ ⟨bk, rfl, rfl⟩
   refine TriL.call (f := 55) (args := #[keysFn bk]) (d := (some 72)) (pre := [.abs (MapA Try.prog 3 m2 (mf (sf ns seen)) seen.length), .blk bk [.map (some m2)] 96]) (R := [.abs (MapA Try.prog 3 mb (mf (bf A ns ns.length)) ns.length), .abs (TailA 75 1 Aw work.length cw (ptrsV A work)), .abs R]) (pk := [2, 0, 1, 3, 4]) (fun _ => by kernel_rfl) (sp_sortedI m2 bk seen.length (mf (sf ns seen)) (by omega)) rfl (by kernel_rfl) ?_
   rintro _ _ ⟨A5, c5, ss, rfl, hkeys, hsl, rfl⟩
   have hss : ss = underL ns (tgt ns root) := under_keys hok (hwn ▸ hinv) hkeys
   refine TriL.rebase (Φ := fun β' => RowB β' A5 (intsV ss)) 2 [0, 1, 3, 4, 5] (hps' := [.abs (MapA Try.prog 3 m2 (mf (sf ns seen)) seen.length), .blk bk [.map (some m2)] 96, .abs (MapA Try.prog 3 mb (mf (bf A ns ns.length)) ns.length), .abs (TailA 75 1 Aw work.length cw (ptrsV A work)), .abs R]) rfl rfl (by kernel_rfl) (fun F w h β' h1 h2 => RowB.of_row h h1 h2) (fun β11 hle_β11 hR => ?_)
   replace hG := hG.le hle_β11
   replace hle0 := hle0.trans hle_β11
   refine TriL.segK (k' := 5) (fr' := [(4, .slice A5 (ss.length) (c5)), (5, .int .i64 0)]) (obl := []) [o_, o_] [4, 5] (fun _ _ => by kernel_rfl) trivial ?_
   refine TriL.nil (by kernel_rfl) (TriQ.next (Tri.ret ?_))
   exact TriQ.retB (v := .tuple #[.slice A5 (ss.length) (c5), .int .i64 0]) (l := []) (obl := []) [] [4] hle0 (fun _ => by kernel_rfl) trivial rfl (by kernel_rfl) (⟨A5, c5, by rw [underG_ok hbg, ← hss], rfl, by rw [underG_ok hbg, ← hss]; exact hR⟩)
 ·
  refine TriL.segK (k' := 10) (fr' := [(6, x), (7, y), (8, .int .i64 ((beginC ns root)))]) (obl := []) [o_, o_, o_, o_, o_, o_, o_] [6, 7, 8] (fun _ _ => by kernel_rfl) trivial ?_
  refine TriL.nil (by kernel_rfl) (TriQ.next (Tri.seq (Tri.seq (Tri.region ?_))))
  refine TriL.segK (k' := 2) (fr' := [(6, x), (7, y), (8, .int .i64 ((beginC ns root))), (24, .bool (!(decide (((beginC ns root) : Int) = (0 : Int)))))]) (obl := []) [o_, o_] [6, 7, 8, 24] (fun _ _ => by kernel_rfl) trivial ?_
  refine TriL.nil (by kernel_rfl) (TriQ.next ?_)
  refine Tri.condN (p := ((beginC ns root) : Int) = (0 : Int)) (fun _ => by kernel_rfl) (fun h24 => ?_) (fun h24 => ?_)
  ·
   refine Tri.seq (Tri.region ?_)
   refine TriL.segK (k' := 3) (fr' := [(4, .slice none (0) (0)), (5, .int .i64 ((beginC ns root)))]) (obl := []) [o_, o_, o_] [4, 5] (fun _ _ => by kernel_rfl) trivial ?_
   refine TriL.nil (by kernel_rfl) (TriQ.next (Tri.ret (TriQ.passRet ?_)))
   exact TriQ.retB (v := .tuple #[.slice none (0) (0), .int .i64 ((beginC ns root))]) (l := []) (obl := []) [] [0] hle0 (fun _ => by kernel_rfl) trivial rfl (by kernel_rfl) (⟨none, 0, by rw [underG_bad hbg]; rfl, rfl, by rw [underG_bad hbg]; exact RowB.nil⟩)
  ·
   exact absurd h24 hbg
set_option maxRecDepth 100000 in
set_option maxHeartbeats 4000000 in
theorem sp_underOwn {β : Bs} (A : Option Addr) (c : Nat) (ns : List NodeM) (L : Lay) (hG : GraphAt β A ns L) (hB : GraphB ns 1048576) (root : Int) (hz : I64 root) :
    Spec Try.prog β 34 #[.agg #[.slice A ns.length c], .int .i64 root] [] (fun v l => ∃ B cap, v = .tuple #[.slice B (underG ns root).1.length cap, .int .i64 (underG ns root).2] ∧ l = [.abs (RowA 3 1 B (underG ns root).1.length cap (intsV (underG ns root).1))]) := by
 refine Spec.enter Try.func34 rfl Try.ntmps34 (Nat.le_of_ble_eq_true rfl) (fun R => ?_)
 refine Tri.seq (Tri.region ?_)
 refine TriL.segN (k' := 3) (fr' := fun b12 => [(1, .int .i64 (root)), (2, .pointer (some ⟨b12, 0, none⟩))]) (hps' := fun b12 => [.abs R, .blk b12 [.slice A (ns.length) (c)] 24]) (obl := fun b12 => []) [o_, o_, o_] [1, 2] [0, 1] (fun _ _ => by kernel_rfl) (fun b12 => trivial) (fun b12 => ?_)
 refine TriL.nil (by kernel_rfl) (TriQ.next (Tri.seq (Tri.region ?_)))
 refine TriL.segK (k' := 2) (fr' := [(17, .agg #[.slice A (ns.length) (c)]), (18, .int .i64 (root))]) (obl := [b12 = b12]) [⟨[.at 1], none, none, none, none⟩, o_] [17, 18] (fun _ _ => by kernel_rfl) ⟨rfl, trivial⟩ ?_
 refine TriL.call (f := 42) (args := #[.agg #[.slice A (ns.length) (c)], .int .i64 (root)]) (d := (some 19)) (pre := []) (R := [.abs R, .blk b12 [.slice A (ns.length) (c)] 24]) (pk := [0, 1]) (fun _ => by kernel_rfl) (sp_begin A c ns L hG hB root hz) rfl (by kernel_rfl) ?_
 rintro _ _ (⟨mb, rfl, hbg, rfl⟩ | ⟨x, y, rfl, hbg, rfl⟩)
 ·
  obtain ⟨hok, hat, hkd⟩ := beginC_zero hbg
  have htl := atI_lt hat
  refine TriL.segK (k' := 10) (fr' := [(6, .map (some mb)), (7, .pointer (some ⟨(blkOf A), offOf A + (tgt ns root) * 10, none⟩)), (8, .int .i64 0)]) (obl := []) [o_, o_, o_, o_, o_, o_, o_] [6, 7, 8] (fun _ _ => by kernel_rfl) trivial ?_
  refine TriL.nil (by kernel_rfl) (TriQ.next (Tri.seq (Tri.seq (Tri.region ?_))))
  refine TriL.segK (k' := 2) (fr' := [(6, .map (some mb)), (7, .pointer (some ⟨(blkOf A), offOf A + (tgt ns root) * 10, none⟩)), (8, .int .i64 0), (24, .bool false)]) (obl := []) [o_, o_] [6, 7, 8, 24] (fun _ _ => by kernel_rfl) trivial ?_
  refine TriL.nil (by kernel_rfl) (TriQ.next ?_)
  refine Tri.condF (fun _ => by kernel_rfl) ?_
  refine Tri.skip (TriQ.next (Tri.seq (Tri.region ?_)))
  refine TriL.mapMake (d := (some 26)) (t := 96) (fun _ => by kernel_rfl) Try.prog rfl 3 (fun m13 => ?_)
  refine TriL.segK (k' := 2) (fr' := [(6, .map (some mb)), (7, .pointer (some ⟨(blkOf A), offOf A + (tgt ns root) * 10, none⟩)), (9, .map (some m13))]) (obl := []) [o_] [6, 7, 9] (fun _ _ => by kernel_rfl) trivial ?_
  refine TriL.nil (by kernel_rfl) (TriQ.next (Tri.seq (Tri.region ?_)))
  refine TriL.segN (k' := 2) (fr' := fun b14 => [(6, .map (some mb)), (9, .map (some m13)), (28, .slice (some ⟨b14, 0, none⟩) (1) (1))]) (hps' := fun b14 => [.abs (MapA Try.prog 3 mb (mf (bf A ns ns.length)) ns.length), .abs R, .blk b12 [.slice A (ns.length) (c)] 24, .abs (MapA Try.prog 3 m13 (fun _ => none) 0), .blk b14 [.pointer (some ⟨(blkOf A), offOf A + (tgt ns root) * 10, none⟩)] 75]) (obl := fun b14 => []) [o_, o_] [6, 9, 28] [0, 1, 2, 3, 4] (fun _ _ => by kernel_rfl) (fun b14 => trivial) (fun b14 => ?_)
  refine TriL.partEq 3 (p := .abs (MapA Try.prog 3 m13 (fun _ => none) 0)) (p' := .abs (MapA Try.prog 3 m13 (mf (sf ns ([] : List Nat))) (([] : List Nat).length))) (by kernel_rfl) (by rw [sf_zero]; rfl) ?_
  refine TriL.mem (fun w hS => hS.toTail (i := 4) (b := b14) (cs := [.pointer (some ⟨(blkOf A), offOf A + (tgt ns root) * 10, none⟩)]) (e := 75) 1 1 (by kernel_rfl) rfl (by decide)) ?_
  refine TriL.partEq 4 (p := .abs (TailA 75 1 (some ⟨b14, 0, none⟩) 1 1 ([.pointer (some ⟨(blkOf A), offOf A + (tgt ns root) * 10, none⟩)]))) (p' := .abs (TailA 75 1 (some ⟨b14, 0, none⟩) 1 1 (ptrsV A ([tgt ns root])))) (by kernel_rfl) (rfl) ?_
  refine TriL.segK (k' := 3) (fr' := [(6, .map (some mb)), (9, .map (some m13)), (10, .slice (some ⟨b14, 0, none⟩) (1) (1))]) (obl := []) [o_] [6, 9, 10] (fun _ _ => by kernel_rfl) trivial ?_
  refine TriL.nil (by kernel_rfl) (TriQ.next (Tri.seq (Tri.block ?_)))
  refine Tri.loop (ι := (List Nat) × (List Nat) × (Option Addr) × Nat) (fun ((seen, work, Aw, cw) : (List Nat) × (List Nat) × (Option Addr) × Nat) => (RInv ns (tgt ns root) seen work) ∧ (seen.Nodup) ∧ (work.length + restE ns seen ns.length ≤ 8193)) (fun ((seen, work, Aw, cw) : (List Nat) × (List Nat) × (Option Addr) × Nat) => work.length + restE ns seen ns.length) (fun ((seen, work, Aw, cw) : (List Nat) × (List Nat) × (Option Addr) × Nat) => [(6, .map (some mb)), (9, .map (some m13)), (10, .slice Aw (work.length) (cw))]) (fun ((seen, work, Aw, cw) : (List Nat) × (List Nat) × (Option Addr) × Nat) => [.abs (MapA Try.prog 3 mb (mf (bf A ns ns.length)) ns.length), .abs (MapA Try.prog 3 m13 (mf (sf ns seen)) seen.length), .abs (TailA 75 1 Aw work.length cw (ptrsV A work)), .abs R]) (([] : List Nat), [tgt ns root], some ⟨b14, 0, none⟩, 1) (idx := [6, 9, 10]) (pk := [0, 3, 4, 1]) (show (RInv ns (tgt ns root) (([] : List Nat)) ([tgt ns root])) ∧ ((([] : List Nat)).Nodup) ∧ (([tgt ns root]).length + restE ns (([] : List Nat)) ns.length ≤ 8193) from ⟨⟨.inr (List.mem_cons_self ..), fun i hi => by rcases hi with hi | hi; cases hi; rw [List.mem_singleton.1 hi]; exact .refl, fun i hi => by cases hi⟩, List.nodup_nil, by have := restE_sum ns [] ns.length; have := hok.sum; show 1 + _ ≤ _; omega⟩) (fun _ => by kernel_rfl) rfl (by kernel_rfl) ?_
  rintro ⟨seen, work, Aw, cw⟩ ⟨hinv, hnd, hmu⟩
  show Tri _ _ _ _ [(6, .map (some mb)), (9, .map (some m13)), (10, .slice Aw (work.length) (cw))] [.abs (MapA Try.prog 3 mb (mf (bf A ns ns.length)) ns.length), .abs (MapA Try.prog 3 m13 (mf (sf ns seen)) seen.length), .abs (TailA 75 1 Aw work.length cw (ptrsV A work)), .abs R] _
  refine Tri.seq (Tri.seq (Tri.region ?_))
  refine TriL.segK (k' := 3) (fr' := [(6, .map (some mb)), (9, .map (some m13)), (10, .slice Aw (work.length) (cw)), (31, .bool (decide ((((work.length : Nat) : Int) : Int) > (0 : Int))))]) (obl := []) [o_, o_, o_] [6, 9, 10, 31] (fun _ _ => by kernel_rfl) trivial ?_
  refine TriL.nil (by kernel_rfl) (TriQ.next ?_)
  refine Tri.condP (p := (((work.length : Nat) : Int) : Int) > (0 : Int)) (fun _ => by kernel_rfl) (fun h31 => ?_) (fun h31 => ?_)
  ·
   obtain ⟨x, rest, hw⟩ : ∃ x g2, work = x :: g2 := List.exists_cons_of_length_pos (by omega)
   have hx : x < ns.length := (hinv.reach x (.inr (by rw [hw]; exact List.mem_cons_self ..))).lt hok htl.1
   have hwl : work.length = rest.length + 1 := by rw [hw]; rfl
   have hfew := nodup_lt ns.length seen hnd (fun i hi => (hinv.reach i (.inl hi)).lt hok htl.1)
   have hll := hB.hl
   have hd3 := hB.hd x hx
   refine Tri.skip (TriQ.next (Tri.block (Tri.seq (Tri.region ?_))))
   refine TriL.segK (k' := 1) (fr' := [(6, .map (some mb)), (9, .map (some m13)), (10, .slice Aw (work.length) (cw)), (32, .slice Aw (work.length) (cw))]) (obl := []) [o_] [6, 9, 10, 32] (fun _ _ => by kernel_rfl) trivial ?_
   refine TriL.tell (p := (Aw = some ⟨blkOf Aw, offOf Aw, none⟩)) (fun w hS => let ⟨F, h⟩ := hS.get (i := 2) rfl; (TailA.len h).2.2) (fun hAw => ?_)
   refine TriL.segK (k' := 4) (fr' := [(6, .map (some mb)), (9, .map (some m13)), (10, .slice Aw (work.length) (cw)), (11, .pointer (some ⟨(blkOf A), offOf A + x * 10, none⟩))]) (obl := [(∀ F w, (TailA 75 1 Aw work.length cw (ptrsV A work)).h F w → w.cell? ⟨(blkOf Aw), offOf Aw + 0 * 1, none⟩ = some (.pointer (some ⟨(blkOf A), offOf A + x * 10, none⟩))), 0 = ((0 : Nat) : Int), 0 < work.length, (⟨(blkOf Aw), offOf Aw, none⟩ : Addr).spot = none, (Aw : Option Addr) = some ⟨(blkOf Aw), offOf Aw, none⟩]) [⟨[], some 0, none, some ⟨(blkOf Aw), offOf Aw, none⟩, none⟩, ⟨[.view 2 (.pointer (some ⟨(blkOf A), offOf A + x * 10, none⟩))], none, none, none, none⟩, o_] [6, 9, 10, 11] (fun _ _ => by kernel_rfl) ⟨TailA.cellAt (i := 0) (j := 0) (by rw [hw]; rfl), rfl, by omega, rfl, hAw, trivial⟩ ?_
   refine TriL.nil (by kernel_rfl) (TriQ.next (Tri.seq (Tri.region ?_)))
   refine TriL.segK (k' := 1) (fr' := [(6, .map (some mb)), (9, .map (some m13)), (11, .pointer (some ⟨(blkOf A), offOf A + x * 10, none⟩)), (35, .slice Aw (work.length) (cw))]) (obl := []) [o_] [6, 9, 11, 35] (fun _ _ => by kernel_rfl) trivial ?_
   refine TriL.tailSlice 2 (d := (some 36)) (t := 97) (e := 75) (size := 1) (m := 1) (n := work.length) (cap := cw) (A := Aw) (xs := (ptrsV A work)) (x := (.tmp 35)) (lo := (.const (.int .i64 1))) (fun _ => by kernel_rfl) (by kernel_rfl) (fun _ => by kernel_rfl) (fun _ => by kernel_rfl) Try.underlying97 (by kernel_rfl) (by omega) (fun A15 => ?_)
   refine TriL.partEq 2 (p := .abs (TailA 75 1 A15 (work.length - 1) (cw - 1) ((ptrsV A work).drop (1 * 1)))) (p' := .abs (TailA 75 1 A15 rest.length (cw - 1) (ptrsV A rest))) (by kernel_rfl) (by rw [hw]; rfl) ?_
   refine TriL.slot 36 (.slice A15 ((work.length - 1)) ((cw - 1))) (.slice A15 (rest.length) ((cw - 1))) (fun _ => by kernel_rfl) (by rw [hw]; rfl) ?_
   refine TriL.segK (k' := 3) (fr' := [(6, .map (some mb)), (9, .map (some m13)), (10, .slice A15 (rest.length) ((cw - 1))), (11, .pointer (some ⟨(blkOf A), offOf A + x * 10, none⟩))]) (obl := []) [o_] [6, 9, 10, 11] (fun _ _ => by kernel_rfl) trivial ?_
   refine TriL.nil (by kernel_rfl) (TriQ.next (Tri.seq (Tri.seq (Tri.region ?_))))
   refine TriL.segK (k' := 5) (fr' := [(6, .map (some mb)), (9, .map (some m13)), (10, .slice A15 (rest.length) ((cw - 1))), (11, .pointer (some ⟨(blkOf A), offOf A + x * 10, none⟩)), (38, .map (some m13)), (42, .int .i64 ((nd ns x).id))]) (obl := [(Rd β ⟨(blkOf A), offOf A + x * 10, none⟩ (.int .i64 ((nd ns x).id)))]) [o_, o_, o_, o_, ⟨[.old (.int .i64 ((nd ns x).id))], none, none, none, none⟩] [6, 9, 10, 11, 38, 42] (fun _ _ => by kernel_rfl) ⟨GraphAt.rd hG (i := x) (by omega) (j := 0) rfl, trivial⟩ ?_
   by_cases hsn : x ∈ seen
   ·
    refine TriL.mapLookOk 1 (d := (some 43)) (t := 96) (K := 3) (E := 98) (b := m13) (n := seen.length) (f := (mf (sf ns seen))) (x := (.tmp 38)) (ix := (.tmp 42)) (key := .int .i64 ((nd ns x).id)) (z := .agg #[]) (kl := (.int .i64 (nd ns x).id)) (r := (some (.agg #[]))) (fun _ => by kernel_rfl) (by kernel_rfl) (fun _ => by kernel_rfl) (fun _ => by kernel_rfl) lawI Try.underlying96 (fun _ => by kernel_rfl) (keyI (hB.node x hx).ids.1.1 (hB.node x hx).ids.1.2) (sf_in hok.rise hx hsn) ?_
    refine TriL.segN (k' := 12) (fr' := fun b16 => [(6, .map (some mb)), (9, .map (some m13)), (10, .slice A15 (rest.length) ((cw - 1))), (11, .pointer (some ⟨(blkOf A), offOf A + x * 10, none⟩)), (13, .bool true)]) (hps' := fun b16 => [.abs (MapA Try.prog 3 mb (mf (bf A ns ns.length)) ns.length), .abs (MapA Try.prog 3 m13 (mf (sf ns seen)) seen.length), .abs (TailA 75 1 A15 rest.length (cw - 1) (ptrsV A rest)), .abs R, .blk b16 [] 98]) (obl := fun b16 => []) [o_, o_, o_, o_, o_, o_] [6, 9, 10, 11, 13] [0, 1, 2, 3, 4] (fun _ _ => by kernel_rfl) (fun b16 => trivial) (fun b16 => ?_)
    refine TriL.nil (by kernel_rfl) (TriQ.next (Tri.seq (Tri.region ?_)))
    refine TriL.segK (k' := 1) (fr' := [(6, .map (some mb)), (9, .map (some m13)), (10, .slice A15 (rest.length) ((cw - 1))), (11, .pointer (some ⟨(blkOf A), offOf A + x * 10, none⟩)), (46, .bool true)]) (obl := []) [o_] [6, 9, 10, 11, 46] (fun _ _ => by kernel_rfl) trivial ?_
    refine TriL.nil (by kernel_rfl) (TriQ.next ?_)
    refine Tri.condT (fun _ => by kernel_rfl) ?_
    refine Tri.exit (TriQ.passExit (TriQ.blockHit ?_))
    exact TriQ.turn (seen, rest, A15, (cw - 1)) (idx := [6, 9, 10]) (pk := [0, 1, 2, 3]) (show (RInv ns (tgt ns root) seen rest) ∧ (seen.Nodup) ∧ (rest.length + restE ns seen ns.length ≤ 8193) from ⟨(hw ▸ hinv : RInv ns _ seen (x :: rest)).old hsn, hnd, by omega⟩) (by show rest.length + restE ns seen ns.length < work.length + restE ns seen ns.length; first | omega | (have hre := restE_new (ns := ns) hsn ns.length hx; rw [List.length_append, tgts_len]; omega)) (fun _ => by kernel_rfl) rfl (by kernel_rfl)
   ·
    refine TriL.mapLookOk 1 (d := (some 43)) (t := 96) (K := 3) (E := 98) (b := m13) (n := seen.length) (f := (mf (sf ns seen))) (x := (.tmp 38)) (ix := (.tmp 42)) (key := .int .i64 ((nd ns x).id)) (z := .agg #[]) (kl := (.int .i64 (nd ns x).id)) (r := none) (fun _ => by kernel_rfl) (by kernel_rfl) (fun _ => by kernel_rfl) (fun _ => by kernel_rfl) lawI Try.underlying96 (fun _ => by kernel_rfl) (keyI (hB.node x hx).ids.1.1 (hB.node x hx).ids.1.2) (sf_out hok.rise hx hsn) ?_
    refine TriL.segN (k' := 12) (fr' := fun b17 => [(6, .map (some mb)), (9, .map (some m13)), (10, .slice A15 (rest.length) ((cw - 1))), (11, .pointer (some ⟨(blkOf A), offOf A + x * 10, none⟩)), (13, .bool false)]) (hps' := fun b17 => [.abs (MapA Try.prog 3 mb (mf (bf A ns ns.length)) ns.length), .abs (MapA Try.prog 3 m13 (mf (sf ns seen)) seen.length), .abs (TailA 75 1 A15 rest.length (cw - 1) (ptrsV A rest)), .abs R, .blk b17 [] 98]) (obl := fun b17 => []) [o_, o_, o_, o_, o_, o_] [6, 9, 10, 11, 13] [0, 1, 2, 3, 4] (fun _ _ => by kernel_rfl) (fun b17 => trivial) (fun b17 => ?_)
    refine TriL.nil (by kernel_rfl) (TriQ.next (Tri.seq (Tri.region ?_)))
    refine TriL.segK (k' := 1) (fr' := [(6, .map (some mb)), (9, .map (some m13)), (10, .slice A15 (rest.length) ((cw - 1))), (11, .pointer (some ⟨(blkOf A), offOf A + x * 10, none⟩)), (46, .bool false)]) (obl := []) [o_] [6, 9, 10, 11, 46] (fun _ _ => by kernel_rfl) trivial ?_
    refine TriL.nil (by kernel_rfl) (TriQ.next ?_)
    refine Tri.condF (fun _ => by kernel_rfl) ?_
    refine Tri.skip (TriQ.next (Tri.seq (Tri.region ?_)))
    refine TriL.segK (k' := 6) (fr' := [(6, .map (some mb)), (9, .map (some m13)), (10, .slice A15 (rest.length) ((cw - 1))), (11, .pointer (some ⟨(blkOf A), offOf A + x * 10, none⟩)), (47, .map (some m13)), (51, .int .i64 ((nd ns x).id)), (52, .agg #[])]) (obl := [(Rd β ⟨(blkOf A), offOf A + x * 10, none⟩ (.int .i64 ((nd ns x).id)))]) [o_, o_, o_, o_, ⟨[.old (.int .i64 ((nd ns x).id))], none, none, none, none⟩, o_] [6, 9, 10, 11, 47, 51, 52] (fun _ _ => by kernel_rfl) ⟨GraphAt.rd hG (i := x) (by omega) (j := 0) rfl, trivial⟩ ?_
    refine TriL.mapSet 1 (d := none) (t := 96) (K := 3) (E := 98) (b := m13) (n := seen.length) (f := (mf (sf ns seen))) (x := (.tmp 47)) (ix := (.tmp 51)) (y := (.tmp 52)) (key := .int .i64 ((nd ns x).id)) (u := .agg #[]) (kl := (.int .i64 (nd ns x).id)) (n' := (x :: seen).length) (f' := (mf (sf ns (x :: seen)))) (fun _ => by kernel_rfl) (by kernel_rfl) (fun _ => by kernel_rfl) (fun _ => by kernel_rfl) (fun _ => by kernel_rfl) lawI Try.underlying96 (by unfold maxLen; omega) (keyI (hB.node x hx).ids.1.1 (hB.node x hx).ids.1.2) (sf_cnt hok.rise hx hsn) (sf_upd hok.rise hx) ?_
    refine TriL.nil (by kernel_rfl) (TriQ.next (Tri.seq (Tri.region ?_)))
    refine TriL.partEq 2 (p := .abs (TailA 75 1 A15 rest.length (cw - 1) (ptrsV A rest))) (p' := .abs (TailA 75 1 A15 ((rest ++ tgts ns x 0).length) (cw - 1) (ptrsV A (rest ++ tgts ns x 0)))) (by kernel_rfl) (by rw [show tgts ns x 0 = [] from rfl, List.append_nil]) ?_
    refine TriL.slot 10 (.slice A15 (rest.length) ((cw - 1))) (.slice A15 ((rest ++ tgts ns x 0).length) ((cw - 1))) (fun _ => by kernel_rfl) (by rw [show tgts ns x 0 = [] from rfl, List.append_nil]) ?_
    refine TriL.segK (k' := 6) (fr' := [(6, .map (some mb)), (9, .map (some m13)), (10, .slice A15 ((rest ++ tgts ns x 0).length) ((cw - 1))), (56, .slice (L.eA x) ((nd ns x).ents.length) ((L.eC x))), (57, .int .i64 ↑((nd ns x).ents.length)), (58, .int .i64 0)]) (obl := [(Rd β ⟨(blkOf A), offOf A + x * 10 + 9, none⟩ (.slice (L.eA x) ((nd ns x).ents.length) ((L.eC x))))]) [o_, o_, o_, ⟨[.old (.slice (L.eA x) ((nd ns x).ents.length) ((L.eC x)))], none, none, none, none⟩, o_, o_] [6, 9, 10, 56, 57, 58] (fun _ _ => by kernel_rfl) ⟨GraphAt.rd hG (i := x) (by omega) (j := 9) rfl, trivial⟩ ?_
    refine TriL.nil (by kernel_rfl) (TriQ.next (Tri.block ?_))
    refine Tri.loop (ι := Nat × (Option Addr) × Nat) (fun ((j, Ax, cx) : Nat × (Option Addr) × Nat) => (j ≤ (nd ns x).ents.length)) (fun ((j, Ax, cx) : Nat × (Option Addr) × Nat) => (nd ns x).ents.length - j) (fun ((j, Ax, cx) : Nat × (Option Addr) × Nat) => [(6, .map (some mb)), (9, .map (some m13)), (10, .slice Ax ((rest ++ tgts ns x j).length) (cx)), (56, .slice (L.eA x) ((nd ns x).ents.length) ((L.eC x))), (57, .int .i64 ↑((nd ns x).ents.length)), (58, .int .i64 ↑j)]) (fun ((j, Ax, cx) : Nat × (Option Addr) × Nat) => [.abs (MapA Try.prog 3 mb (mf (bf A ns ns.length)) ns.length), .abs (MapA Try.prog 3 m13 (mf (sf ns (x :: seen))) ((x :: seen).length)), .abs (TailA 75 1 Ax ((rest ++ tgts ns x j).length) cx (ptrsV A (rest ++ tgts ns x j))), .abs R]) (0, A15, (cw - 1)) (idx := [6, 9, 10, 56, 57, 58]) (pk := [0, 1, 2, 3]) (show (0 ≤ (nd ns x).ents.length) from (by omega)) (fun _ => by kernel_rfl) rfl (by kernel_rfl) ?_
    rintro ⟨j, Ax, cx⟩ hj
    show Tri _ _ _ _ [(6, .map (some mb)), (9, .map (some m13)), (10, .slice Ax ((rest ++ tgts ns x j).length) (cx)), (56, .slice (L.eA x) ((nd ns x).ents.length) ((L.eC x))), (57, .int .i64 ↑((nd ns x).ents.length)), (58, .int .i64 ↑j)] [.abs (MapA Try.prog 3 mb (mf (bf A ns ns.length)) ns.length), .abs (MapA Try.prog 3 m13 (mf (sf ns (x :: seen))) ((x :: seen).length)), .abs (TailA 75 1 Ax ((rest ++ tgts ns x j).length) cx (ptrsV A (rest ++ tgts ns x j))), .abs R] _
    refine Tri.seq (Tri.region ?_)
    refine TriL.segK (k' := 1) (fr' := [(6, .map (some mb)), (9, .map (some m13)), (10, .slice Ax ((rest ++ tgts ns x j).length) (cx)), (56, .slice (L.eA x) ((nd ns x).ents.length) ((L.eC x))), (57, .int .i64 ↑((nd ns x).ents.length)), (58, .int .i64 ↑j), (59, .bool (decide ((((j : Nat) : Int) : Int) < ((((nd ns x).ents.length : Nat) : Int) : Int))))]) (obl := []) [o_] [6, 9, 10, 56, 57, 58, 59] (fun _ _ => by kernel_rfl) trivial ?_
    refine TriL.nil (by kernel_rfl) (TriQ.next (Tri.seq ?_))
    refine Tri.condP (p := (((j : Nat) : Int) : Int) < ((((nd ns x).ents.length : Nat) : Int) : Int)) (fun _ => by kernel_rfl) (fun h59 => ?_) (fun h59 => ?_)
    ·
     refine Tri.skip (TriQ.next (Tri.seq (Tri.block (Tri.seq (Tri.region ?_)))))
     refine TriL.segN (k' := 4) (fr' := fun b18 => [(6, .map (some mb)), (9, .map (some m13)), (10, .slice Ax ((rest ++ tgts ns x j).length) (cx)), (15, .pointer (some ⟨b18, 0, none⟩)), (56, .slice (L.eA x) ((nd ns x).ents.length) ((L.eC x))), (57, .int .i64 ↑((nd ns x).ents.length)), (58, .int .i64 ↑j)]) (hps' := fun b18 => [.abs (MapA Try.prog 3 mb (mf (bf A ns ns.length)) ns.length), .abs (MapA Try.prog 3 m13 (mf (sf ns (x :: seen))) ((x :: seen).length)), .abs (TailA 75 1 Ax ((rest ++ tgts ns x j).length) cx (ptrsV A (rest ++ tgts ns x j))), .abs R, .blk b18 [.string (en (nd ns x).ents j).name, .int .i64 ((en (nd ns x).ents j).id)] 72]) (obl := fun b18 => [b18 = b18, b18 = b18, (Rd β ⟨(blkOf (L.eA x)), offOf (L.eA x) + j * 2 + 1, none⟩ (.int .i64 ((en (nd ns x).ents j).id))), (Rd β ⟨(blkOf (L.eA x)), offOf (L.eA x) + j * 2, none⟩ (.string (en (nd ns x).ents j).name)), ((j : Nat) : Int) = ((j : Nat) : Int), j < (nd ns x).ents.length, (⟨(blkOf (L.eA x)), offOf (L.eA x), none⟩ : Addr).spot = none, ((L.eA x) : Option Addr) = some ⟨(blkOf (L.eA x)), offOf (L.eA x), none⟩]) [⟨[], some j, none, some ⟨(blkOf (L.eA x)), offOf (L.eA x), none⟩, none⟩, ⟨[.old (.string (en (nd ns x).ents j).name), .old (.int .i64 ((en (nd ns x).ents j).id))], none, none, none, none⟩, o_, ⟨[.at 4, .at 4], none, none, none, none⟩] [6, 9, 10, 15, 56, 57, 58] [0, 1, 2, 3, 4] (fun _ _ => by kernel_rfl) (fun b18 => ⟨rfl, rfl, EntsAt.rd (hG.ents x (by omega)) (i := j) (by omega) (j := 1) rfl, EntsAt.rd (hG.ents x (by omega)) (i := j) (by omega) (j := 0) rfl, rfl, by omega, rfl, EntsAt.hd (hG.ents x (by omega)) (i := j) (by omega), trivial⟩) (fun b18 => ?_)
     refine TriL.nil (by kernel_rfl) (TriQ.next (Tri.region ?_))
     refine TriL.segK (k' := 4) (fr' := [(6, .map (some mb)), (9, .map (some m13)), (56, .slice (L.eA x) ((nd ns x).ents.length) ((L.eC x))), (57, .int .i64 ↑((nd ns x).ents.length)), (58, .int .i64 ↑j), (62, .slice Ax ((rest ++ tgts ns x j).length) (cx)), (63, .map (some mb)), (65, .int .i64 ((en (nd ns x).ents j).id))]) (obl := [b18 = b18]) [o_, o_, o_, ⟨[.at 4], none, none, none, none⟩] [6, 9, 56, 57, 58, 62, 63, 65] (fun _ _ => by kernel_rfl) ⟨rfl, trivial⟩ ?_
     have hat2 := (hok.ents x hx j (by omega)).at_
     have htl2 := atI_lt hat2
     refine TriL.mapLook 0 (d := (some 66)) (t := 66) (K := 3) (E := 75) (b := mb) (n := ns.length) (f := (mf (bf A ns ns.length))) (x := (.tmp 63)) (ix := (.tmp 65)) (key := .int .i64 ((en (nd ns x).ents j).id)) (z := .pointer none) (kl := (.int .i64 (en (nd ns x).ents j).id)) (r := (some (.pointer (some ⟨(blkOf A), offOf A + (tgt ns (en (nd ns x).ents j).id) * 10, none⟩)))) (fun _ => by kernel_rfl) (by kernel_rfl) (fun _ => by kernel_rfl) (fun _ => by kernel_rfl) lawI Try.underlying66 (fun _ => by kernel_rfl) (keyI (hB.hwf x hx j (by omega)).1 (hB.hwf x hx j (by omega)).2) (bf_at hat2 htl2.1) ?_
     refine TriL.segN (k' := 6) (fr' := fun b19 => [(6, .map (some mb)), (9, .map (some m13)), (56, .slice (L.eA x) ((nd ns x).ents.length) ((L.eC x))), (57, .int .i64 ↑((nd ns x).ents.length)), (58, .int .i64 ↑j), (62, .slice Ax ((rest ++ tgts ns x j).length) (cx)), (67, .slice (some ⟨b19, 0, none⟩) (1) (1))]) (hps' := fun b19 => [.abs (MapA Try.prog 3 mb (mf (bf A ns ns.length)) ns.length), .abs (MapA Try.prog 3 m13 (mf (sf ns (x :: seen))) ((x :: seen).length)), .abs (TailA 75 1 Ax ((rest ++ tgts ns x j).length) cx (ptrsV A (rest ++ tgts ns x j))), .abs R, .blk b18 [.string (en (nd ns x).ents j).name, .int .i64 ((en (nd ns x).ents j).id)] 72, .blk b19 [.pointer (some ⟨(blkOf A), offOf A + (tgt ns (en (nd ns x).ents j).id) * 10, none⟩)] 75]) (obl := fun b19 => []) [o_] [6, 9, 56, 57, 58, 62, 67] [0, 1, 2, 3, 4, 5] (fun _ _ => by kernel_rfl) (fun b19 => trivial) (fun b19 => ?_)
     refine TriL.tailAppend 2 (d := (some 68)) (t := 97) (e := 75) (z := .pointer none) (size := 1) (bytes := 8) (n := (rest ++ tgts ns x j).length) (cap := cx) (A := Ax) (ad := ⟨b19, 0, none⟩) (xs := (ptrsV A (rest ++ tgts ns x j))) (s := (.tmp 62)) (x := (.tmp 67)) (ats := #[97, 97]) (m := 1) (c' := 1) (news := [.pointer (some ⟨(blkOf A), offOf A + (tgt ns (en (nd ns x).ents j).id) * 10, none⟩)]) (fun _ => by kernel_rfl) rfl (by kernel_rfl) (fun _ => by kernel_rfl) (fun _ => by kernel_rfl) Try.underlying97 (by kernel_rfl) rfl (by decide) (rfl) (by simp [Value.oneCell']) (src_blk1 (j := 5) rfl) (by unfold maxLen; rw [List.length_append, tgts_len]; omega) (by rw [List.length_append, tgts_len]; omega) (fun A20 c21 => ?_)
     refine TriL.partEq 2 (p := .abs (TailA 75 1 A20 (((rest ++ tgts ns x j).length) + 1) c21 ((ptrsV A (rest ++ tgts ns x j)) ++ [.pointer (some ⟨(blkOf A), offOf A + (tgt ns (en (nd ns x).ents j).id) * 10, none⟩)]))) (p' := .abs (TailA 75 1 A20 ((rest ++ tgts ns x (j + 1)).length) c21 (ptrsV A (rest ++ tgts ns x (j + 1))))) (by kernel_rfl) (by rw [tgts_succ, ← List.append_assoc, ptrs_snoc, len_snoc]; rfl) ?_
     refine TriL.slot 68 (.slice A20 (((rest ++ tgts ns x j).length) + 1) (c21)) (.slice A20 ((rest ++ tgts ns x (j + 1)).length) (c21)) (fun _ => by kernel_rfl) (by rw [tgts_succ, ← List.append_assoc, len_snoc]) ?_
     refine TriL.segK (k' := 8) (fr' := [(6, .map (some mb)), (9, .map (some m13)), (10, .slice A20 ((rest ++ tgts ns x (j + 1)).length) (c21)), (56, .slice (L.eA x) ((nd ns x).ents.length) ((L.eC x))), (57, .int .i64 ↑((nd ns x).ents.length)), (58, .int .i64 ↑j)]) (obl := []) [o_] [6, 9, 10, 56, 57, 58] (fun _ _ => by kernel_rfl) trivial ?_
     refine TriL.nil (by kernel_rfl) (TriQ.blockNormal (TriQ.next (Tri.region ?_)))
     refine TriL.segK (k' := 2) (fr' := [(6, .map (some mb)), (9, .map (some m13)), (10, .slice A20 ((rest ++ tgts ns x (j + 1)).length) (c21)), (56, .slice (L.eA x) ((nd ns x).ents.length) ((L.eC x))), (57, .int .i64 ↑((nd ns x).ents.length)), (58, .int .i64 ↑(j + 1))]) (obl := [(Value.int .i64 (IntKind.wrap .i64 (((j : Nat) : Int) + 1))) = (.int .i64 ↑(j + 1))]) [⟨[], none, none, none, some (.int .i64 ↑(j + 1))⟩, o_] [6, 9, 10, 56, 57, 58] (fun _ _ => by kernel_rfl) ⟨wrapEq (by omega) (by omega) (by omega), trivial⟩ ?_
     refine TriL.nil (by kernel_rfl) ?_
     exact TriQ.turn ((j + 1), A20, c21) (idx := [6, 9, 10, 56, 57, 58]) (pk := [0, 1, 2, 3]) (show (((j + 1)) ≤ (nd ns x).ents.length) from (by omega)) (by show (nd ns x).ents.length - ((j + 1)) < (nd ns x).ents.length - j; omega) (fun _ => by kernel_rfl) rfl (by kernel_rfl)
    ·
     refine Tri.exit (TriQ.passExit (TriQ.passExit (TriQ.blockHit (TriQ.blockNormal ?_))))
     exact TriQ.turn ((x :: seen), (rest ++ tgts ns x j), Ax, cx) (idx := [6, 9, 10]) (pk := [0, 1, 2, 3]) (show (RInv ns (tgt ns root) ((x :: seen)) ((rest ++ tgts ns x j))) ∧ (((x :: seen)).Nodup) ∧ (((rest ++ tgts ns x j)).length + restE ns ((x :: seen)) ns.length ≤ 8193) from ⟨by rw [show j = (nd ns x).ents.length by omega]; exact (hw ▸ hinv : RInv ns _ seen (x :: rest)).new, List.nodup_cons.2 ⟨hsn, hnd⟩, by have hre := restE_new (ns := ns) hsn ns.length hx; rw [List.length_append, tgts_len]; omega⟩) (by show ((rest ++ tgts ns x j)).length + restE ns ((x :: seen)) ns.length < work.length + restE ns seen ns.length; first | omega | (have hre := restE_new (ns := ns) hsn ns.length hx; rw [List.length_append, tgts_len]; omega)) (fun _ => by kernel_rfl) rfl (by kernel_rfl)
  ·
   have hfew := nodup_lt ns.length seen hnd (fun i hi => (hinv.reach i (.inl hi)).lt hok htl.1)
   have hll := hB.hl
   refine Tri.exit (TriQ.passExit (TriQ.passExit (TriQ.blockHit (TriQ.next (Tri.seq (Tri.region ?_))))))
   have hwn : work = [] := List.eq_nil_of_length_eq_zero (by omega)
   refine TriL.segK (k' := 1) (fr' := [(70, .map (some m13))]) (obl := []) [o_] [70] (fun _ _ => by kernel_rfl) trivial ?_
   refine TriL.call (f := 56) (args := #[.map (some m13)]) (d := (some 71)) (pre := []) (R := [.abs (MapA Try.prog 3 mb (mf (bf A ns ns.length)) ns.length), .abs (MapA Try.prog 3 m13 (mf (sf ns seen)) seen.length), .abs (TailA 75 1 Aw work.length cw (ptrsV A work)), .abs R]) (pk := [0, 1, 2, 3]) (fun _ => by kernel_rfl) (sp_keysI (some m13)) rfl (by kernel_rfl) ?_
   rintro _ _ ⟨bk, rfl, rfl⟩
   refine TriL.call (f := 55) (args := #[keysFn bk]) (d := (some 72)) (pre := [.abs (MapA Try.prog 3 m13 (mf (sf ns seen)) seen.length), .blk bk [.map (some m13)] 96]) (R := [.abs (MapA Try.prog 3 mb (mf (bf A ns ns.length)) ns.length), .abs (TailA 75 1 Aw work.length cw (ptrsV A work)), .abs R]) (pk := [2, 0, 1, 3, 4]) (fun _ => by kernel_rfl) (sp_sortedI m13 bk seen.length (mf (sf ns seen)) (by omega)) rfl (by kernel_rfl) ?_
   rintro _ _ ⟨A5, c5, ss, rfl, hkeys, hsl, rfl⟩
   have hss : ss = underL ns (tgt ns root) := under_keys hok (hwn ▸ hinv) hkeys
   refine TriL.segK (k' := 5) (fr' := [(4, .slice A5 (ss.length) (c5)), (5, .int .i64 0)]) (obl := []) [o_, o_] [4, 5] (fun _ _ => by kernel_rfl) trivial ?_
   refine TriL.nil (by kernel_rfl) (TriQ.next (Tri.ret ?_))
   exact TriQ.ret (v := .tuple #[.slice A5 (ss.length) (c5), .int .i64 0]) (l := [.abs (RowA 3 1 A5 ss.length c5 (intsV ss))]) (obl := []) [] [2, 5] (fun _ => by kernel_rfl) trivial rfl (by kernel_rfl) (⟨A5, c5, by rw [underG_ok hbg, ← hss], by rw [underG_ok hbg, ← hss]⟩)
 ·
  refine TriL.segK (k' := 10) (fr' := [(6, x), (7, y), (8, .int .i64 ((beginC ns root)))]) (obl := []) [o_, o_, o_, o_, o_, o_, o_] [6, 7, 8] (fun _ _ => by kernel_rfl) trivial ?_
  refine TriL.nil (by kernel_rfl) (TriQ.next (Tri.seq (Tri.seq (Tri.region ?_))))
  refine TriL.segK (k' := 2) (fr' := [(6, x), (7, y), (8, .int .i64 ((beginC ns root))), (24, .bool (!(decide (((beginC ns root) : Int) = (0 : Int)))))]) (obl := []) [o_, o_] [6, 7, 8, 24] (fun _ _ => by kernel_rfl) trivial ?_
  refine TriL.nil (by kernel_rfl) (TriQ.next ?_)
  refine Tri.condN (p := ((beginC ns root) : Int) = (0 : Int)) (fun _ => by kernel_rfl) (fun h24 => ?_) (fun h24 => ?_)
  ·
   refine Tri.seq (Tri.region ?_)
   refine TriL.mem (fun w hS => hS.rowNil (e := 3) (size := 1)) ?_
   refine TriL.segK (k' := 3) (fr' := [(4, .slice none (0) (0)), (5, .int .i64 ((beginC ns root)))]) (obl := []) [o_, o_, o_] [4, 5] (fun _ _ => by kernel_rfl) trivial ?_
   refine TriL.nil (by kernel_rfl) (TriQ.next (Tri.ret (TriQ.passRet ?_)))
   exact TriQ.ret (v := .tuple #[.slice none (0) (0), .int .i64 ((beginC ns root))]) (l := [.abs (RowA 3 1 none 0 0 ([]))]) (obl := []) [] [2, 0] (fun _ => by kernel_rfl) trivial rfl (by kernel_rfl) (⟨none, 0, by rw [underG_bad hbg]; rfl, by rw [underG_bad hbg]; rfl⟩)
  ·
   exact absurd h24 hbg
end Go.Proofs.Ytjpdcppdoonmdaa
end
/- part GUm. PROVED HERE: lists of numbers in memory; bounds of what Under answers. CONDITIONS: none. -/
section
namespace Go.Proofs.Ytjpdcppdoonmdaa
open Go.RowKit Go.Maps
def natsV (l : List Nat) : List Value := l.map fun k => .int .i64 ((k : Nat) : Int)
theorem natsV_snoc (l : List Nat) (k : Nat) : natsV (l ++ [k]) = natsV l ++ [.int .i64 ((k : Nat) : Int)] := by simp [natsV]
theorem intsV_snoc (l : List Int) (k : Int) : intsV (l ++ [k]) = intsV l ++ [.int .i64 k] := by simp [intsV]
theorem natsV_top {work rest : List Nat} {x : Nat} (hw : work = x :: rest) : (natsV work.reverse)[(work.length - 1) * 1 + 0]? = some (.int .i64 ((x : Nat) : Int)) := by
  subst hw
  rw [List.reverse_cons, natsV_snoc, List.getElem?_append_right (by simp [natsV])]
  simp [natsV]
theorem natsV_cut {work rest : List Nat} {x : Nat} (hw : work = x :: rest) : (natsV work.reverse).take (rest.length * 1) = natsV rest.reverse := by
  subst hw
  rw [List.reverse_cons, natsV_snoc, List.take_append_of_le_length (by simp [natsV]), List.take_of_length_le (by simp [natsV])]
section ints
variable {β : Bs} {A : Option Addr} {l : List Int}
theorem IntsAt.get (h : RowB β A (intsV l)) {j : Nat} (hj : j < l.length) : A = some ⟨blkOf A, offOf A, none⟩ ∧ Rd β ⟨blkOf A, offOf A + j * 1, none⟩ (.int .i64 (l.getD j 0)) := by
  have := h j _ (intsV_get hj)
  rw [Nat.mul_one]
  exact this
theorem IntsAt.hd (h : RowB β A (intsV l)) {j : Nat} (hj : j < l.length) : A = some ⟨blkOf A, offOf A, none⟩ := (IntsAt.get h hj).1
theorem IntsAt.rd (h : RowB β A (intsV l)) {j : Nat} (hj : j < l.length) : Rd β ⟨blkOf A, offOf A + j * 1, none⟩ (.int .i64 (l.getD j 0)) := (IntsAt.get h hj).2
end ints
theorem underG_len (ns : List NodeM) (root : Int) : (underG ns root).1.length ≤ ns.length := by
  classical
  by_cases h : beginC ns root = 0
  · rw [underG_ok h]
    show (underL ns (tgt ns root)).length ≤ _
    unfold underL
    rw [List.length_map]
    exact Nat.le_trans (List.length_filter_le _ _) (by simp)
  · rw [underG_bad h]; exact Nat.zero_le _
end Go.Proofs.Ytjpdcppdoonmdaa
end
/- part GQ. PROVED HERE: a list of texts, as the row hands it over, lies in memory as StrsAt says. CONDITIONS: none. -/
section
namespace Go.Proofs.Ytjpdcppdoonmdaa
open Go.RowKit Go.WideShapes Go.ChangeShapes Go.ChangeAt Go.Deep
structure StrsB (l : List ByteArray) (b : Nat) : Prop where
  len : l.length + 1 ≤ b
  size : ∀ i, i < l.length → (sAt l i).size + 1 ≤ b
theorem StrsB.mono {l : List ByteArray} {b c : Nat} (h : StrsB l b) (hb : b ≤ c) : StrsB l c := ⟨Nat.le_trans h.len hb, fun i hi => Nat.le_trans (h.size i hi) hb⟩
theorem strs_flat : ∀ (d : List ByteArray) (k : Nat), flatF (fun _ s => [Value.string s]) k d = strsV d
  | [], _ => rfl
  | b :: r, k => by rw [flatF, strs_flat r (k + 1)]; rfl
section
variable {H : Type} {enc : TypeId × Value → H} {W : World} {sp : Nat → Bool}
theorem cells_one {P : Program} {t : TypeId} {n : Nat} {cs : List Value} {x : DataW H × List MemPlace} (ht : P.underlying t = some .string) (h : DataW.trod enc P W 0 sp true n t cs = some x) : ∃ s : ByteArray, cs = [Value.string s] ∧ s.size + 1 ≤ Rows.uptoBulk x.1 := by
  obtain ⟨s, h1, h2, _⟩ := DataW.trod_string ht h
  refine ⟨s, h1, ?_⟩
  rw [h2]
  simp only [Rows.uptoBulk, Array.length_toList]
  exact Nat.le_refl _
set_option maxRecDepth 100000 in
theorem open_strs {v : Value} {d : DataW H} {ps : List MemPlace} {r : Go.Reach} {b0 : Nat} (hval : Value.okWide Try.prog W r b0 40 v) (h : DataW.Trod enc Try.prog W 0 sp true 40 v d ps) :
    ∃ A cp, ∃ ss : List ByteArray, v = .slice A ss.length cp ∧ StrsAt (B0 W) A ss ∧ StrsB ss (Rows.uptoBulk d) := by
  obtain ⟨a, n, c, rfl⟩ := okWide_slice Try.underlying40 hval
  obtain ⟨fuel, h⟩ := h
  obtain ⟨A, cp, xs, D, h1, _, _, h2, h4, h3⟩ := open_row (α := ByteArray) (f := fun s => [Value.string s]) (Q := fun s d => s.size + 1 ≤ Rows.uptoBulk d) Try.underlying40 (size := 1) (by kernel_rfl) (by decide) (fun n cs x h => cells_one Try.underlying9 h) (fun _ => rfl) h
  have h1 : [Value.slice a n c] = [Value.slice A xs.length cp] := h1
  cases h1
  rw [strs_flat] at h2
  have h5 := bulk_len ((List.range xs.length).map D)
  refine ⟨_, _, xs, rfl, h2, by simp at h5; have h3 := h3; simp only at h3; omega, fun i hi => ?_⟩
  have h6 := h4 i hi
  have h7 := bulk_get (D := D) hi
  simp only at h3
  have e : sAt xs i = xs.getD i default := rfl
  rw [e]
  omega
end
end Go.Proofs.Ytjpdcppdoonmdaa
end
/- part GRc. PROVED HERE: what Find comes to lies among what can be reached. CONDITIONS: none. -/
section
namespace Go.Proofs.Ytjpdcppdoonmdaa
open Go.RowKit
theorem findM_reach {ns : List NodeM} (hok : GraphOk ns) : ∀ (ps : List ByteArray) (k : Nat), k < ns.length → (findM ns k ps).2 = 0 → ∃ i, Reach ns k i ∧ i < ns.length ∧ (findM ns k ps).1 = (nd ns i).id
  | [], k, hk, _ => ⟨k, .refl, hk, rfl⟩
  | p :: r, k, hk, h => by
    unfold findM at h ⊢
    split at h
    · cases h
    · rename_i h1
      split at h
      · cases h
      · rename_i h2
        rw [if_neg h1, if_neg h2]
        cases hf : findE (nd ns k).ents p with
        | none => rw [hf] at h; cases h
        | some j =>
          rw [hf] at h
          have hj : j < (nd ns k).ents.length := by
            unfold findE at hf
            rw [List.findIdx?_eq_some_iff_getElem] at hf
            exact hf.1
          have ht := (atI_lt (hok.ents k hk j hj).at_).1
          obtain ⟨i, h3, h4, h5⟩ := findM_reach hok r (tgt ns (ent ns k j).id) ht h
          exact ⟨i, (Reach.step j .refl hj).trans h3, h4, h5⟩
theorem findM_zero {ns : List NodeM} : ∀ (ps : List ByteArray) (k : Nat), ¬ (findM ns k ps).2 = 0 → (findM ns k ps).1 = 0
  | [], k, h => absurd rfl h
  | p :: r, k, h => by
    unfold findM at h ⊢
    split
    · rfl
    · rename_i h1
      rw [if_neg h1] at h
      split
      · rfl
      · rename_i h2
        rw [if_neg h2] at h
        split
        · rfl
        · rename_i j hj
          rw [hj] at h
          exact findM_zero r _ h
theorem findG_zero {ns : List NodeM} {root : Int} {ps : List ByteArray} (h : ¬ (findG ns root ps).2 = 0) : (findG ns root ps).1 = 0 := by
  by_cases hb : beginC ns root = 0
  · rw [findG_ok hb] at h ⊢; exact findM_zero _ _ h
  · rw [findG_bad hb]
theorem findG_begin {ns : List NodeM} {root : Int} {ps : List ByteArray} (h : (findG ns root ps).2 = 0) : beginC ns root = 0 := by
  apply Classical.byContradiction
  intro hb
  rw [findG_bad hb] at h
  exact hb h
/-- what lies below what was found, and it itself, lies below the root -/
theorem reaches {ns : List NodeM} {root : Int} {ps : List ByteArray} (h : (findG ns root ps).2 = 0) : ∀ z, z ∈ (underG ns (findG ns root ps).1).1 ++ [(findG ns root ps).1] → z ∈ (underG ns root).1 := by
  have hb := findG_begin h
  obtain ⟨hok, hat, _⟩ := beginC_zero hb
  have htl := atI_lt hat
  rw [findG_ok hb] at h ⊢
  obtain ⟨i, h1, h2, h3⟩ := findM_reach hok ps _ htl.1 h
  rw [underG_ok hb, h3]
  intro z hz
  have hself := atI_self' hok.rise h2
  rcases List.mem_append.1 hz with hz | hz
  · by_cases hb2 : beginC ns (nd ns i).id = 0
    · rw [underG_ok hb2] at hz
      have hz : z ∈ underL ns (tgt ns (nd ns i).id) := hz
      rw [hself.2] at hz
      obtain ⟨j, h4, h5, h6⟩ := underL_mem.1 hz
      exact underL_mem.2 ⟨j, h4, h1.trans h5, h6⟩
    · rw [underG_bad hb2] at hz; cases hz
  · rw [List.mem_singleton.1 hz]
    exact underL_mem.2 ⟨i, h2, h1, rfl⟩
theorem findG_i64 {ns : List NodeM} {root : Int} {ps : List ByteArray} (hB : GraphB ns 1048576) : I64 (findG ns root ps).1 := by
  by_cases h : (findG ns root ps).2 = 0
  · have hb := findG_begin h
    obtain ⟨hok, hat, _⟩ := beginC_zero hb
    rw [findG_ok hb] at h ⊢
    obtain ⟨i, _, h2, h3⟩ := findM_reach hok ps _ (atI_lt hat).1 h
    rw [h3]
    exact (hB.node i h2).ids.1
  · rw [findG_zero h]; exact ⟨by decide, by decide⟩
theorem mem_getD {l : List Int} {z : Int} (h : z ∈ l) : ∃ j, j < l.length ∧ l.getD j 0 = z := by
  obtain ⟨j, hj, rfl⟩ := List.getElem_of_mem h
  exact ⟨j, hj, by rw [List.getD_eq_getElem?_getD, List.getElem?_eq_getElem hj]; rfl⟩
theorem getD_mem' {l : List Int} {j : Nat} (h : j < l.length) : l.getD j 0 ∈ l := by
  rw [List.getD_eq_getElem?_getD, List.getElem?_eq_getElem h]
  exact List.getElem_mem h
/-- a flag that tells whether a number has come -/
def Come (l : List Int) (z : Int) (j : Nat) (fl : Bool) : Prop := fl = true ↔ ∃ t, t < j ∧ l.getD t 0 = z
theorem Come.zero (l : List Int) (z : Int) : Come l z 0 false := ⟨fun h => (by cases h), fun ⟨_, h, _⟩ => absurd h (Nat.not_lt_zero _)⟩
theorem Come.hit {l : List Int} {z : Int} {j : Nat} (h : l.getD j 0 = z) : Come l z (j + 1) true := ⟨fun _ => ⟨j, Nat.lt_succ_self j, h⟩, fun _ => rfl⟩
theorem Come.miss {l : List Int} {z : Int} {j : Nat} {fl : Bool} (c : Come l z j fl) (h : ¬ l.getD j 0 = z) : Come l z (j + 1) fl := by
  refine ⟨fun e => (c.1 e).imp fun t ⟨h1, h2⟩ => ⟨by omega, h2⟩, fun ⟨t, h1, h2⟩ => c.2 ⟨t, ?_, h2⟩⟩
  rcases Nat.lt_succ_iff_lt_or_eq.1 h1 with h3 | h3
  · exact h3
  · rw [h3] at h2; exact absurd h2 h
theorem Come.all {l : List Int} {z : Int} {fl : Bool} (c : Come l z l.length fl) (h : z ∈ l) : fl = true := by
  obtain ⟨j, hj, hz⟩ := mem_getD h
  exact c.2 ⟨j, hj, hz⟩
end Go.Proofs.Ytjpdcppdoonmdaa
end
/- part GK. PROVED HERE: lines as plain data; what Tree answers. CONDITIONS: none. -/
section
namespace Go.Proofs.Ytjpdcppdoonmdaa
open Go.RowKit Go.Maps
structure LineM where
  path : ByteArray
  kind : Int
  mode : Int
  uid : Int
  gid : Int
  sec : Int
  nano : Int
  data : List UInt8
  target : ByteArray
  peer : ByteArray
deriving Inhabited, DecidableEq
structure LayL where
  dA : Nat → Option Addr
  dC : Nat → Nat
def ln (ls : List LineM) (i : Nat) : LineM := ls.getD i default
def lineV (A : Option Addr) (c : Nat) (l : LineM) : List Value :=
  [.string l.path, .int .i64 l.kind, .int .i64 l.mode, .int .i64 l.uid, .int .i64 l.gid, .int .i64 l.sec, .int .i64 l.nano, .slice A l.data.length c, .string l.target, .string l.peer]
/-- a line of a node's, in the making -/
def lvT (n : NodeM) (p : ByteArray) (A : Option Addr) (l c : Nat) (t q : ByteArray) : List Value :=
  [.string p, .int .i64 n.kind, .int .i64 n.mode, .int .i64 n.uid, .int .i64 n.gid, .int .i64 n.sec, .int .i64 n.nano, .slice A l c, .string t, .string q]
def linesV (M : LayL) (ls : List LineM) : List Value := flatF (fun i l => lineV (M.dA i) (M.dC i) l) 0 ls
theorem linesV_len (M : LayL) (ls : List LineM) : (linesV M ls).length = ls.length * 10 := flatF_len (s := 10) (fun _ _ => rfl) ls 0
def LayL.put (M : LayL) (k : Nat) (A : Option Addr) (c : Nat) : LayL := ⟨fun i => if i = k then A else M.dA i, fun i => if i = k then c else M.dC i⟩
def LinesIn (β : Bs) (ls : List LineM) (M : LayL) : Prop := ∀ i, i < ls.length → BytesAt β (M.dA i) (ln ls i).data
structure LinesAt (β : Bs) (A : Option Addr) (ls : List LineM) (M : LayL) : Prop where
  row : RowB β A (linesV M ls)
  data : LinesIn β ls M
section lines
variable {β β' : Bs} {A : Option Addr} {ls : List LineM} {M : LayL}
theorem LinesIn.le (h : LinesIn β ls M) (hle : β.le β') : LinesIn β' ls M := fun i hi => (h i hi).le hle
theorem LinesAt.le (h : LinesAt β A ls M) (hle : β.le β') : LinesAt β' A ls M := ⟨h.row.le hle, LinesIn.le h.data hle⟩
theorem LinesIn.nil : LinesIn β [] M := fun i hi => absurd hi (Nat.not_lt_zero i)
theorem ln_last (ls : List LineM) (l : LineM) : ln (ls ++ [l]) ls.length = l := by simp [ln]
theorem ln_init {i : Nat} (ls : List LineM) (l : LineM) (h : i < ls.length) : ln (ls ++ [l]) i = ln ls i := by
  unfold ln
  rw [List.getD_eq_getElem?_getD, List.getD_eq_getElem?_getD, List.getElem?_append_left h]
theorem LinesIn.snoc (h : LinesIn β ls M) {l : LineM} {B : Option Addr} {c : Nat} (hB : BytesAt β B l.data) : LinesIn β (ls ++ [l]) (M.put ls.length B c) := fun i hi => by
  by_cases e : i = ls.length
  · subst e; rw [ln_last]; simpa [LayL.put] using hB
  · have hi : i < ls.length := by simp at hi; omega
    rw [ln_init _ _ hi]
    simpa [LayL.put, e] using h i hi
theorem linesV_snoc (l : LineM) (B : Option Addr) (c : Nat) : linesV M ls ++ lineV B c l = linesV (M.put ls.length B c) (ls ++ [l]) := by
  rw [linesV, linesV, flatF_snoc, Nat.zero_add]
  have e : flatF (fun i l => lineV ((M.put ls.length B c).dA i) ((M.put ls.length B c).dC i) l) 0 ls = flatF (fun i l => lineV (M.dA i) (M.dC i) l) 0 ls := flatF_congr _ _ (fun i a hi => by
    have := len_of_some hi
    have hne : ¬ 0 + i = ls.length := by omega
    simp only [LayL.put, if_neg hne])
  rw [e]
  simp [LayL.put]
theorem LinesAt.get (h : LinesAt β A ls M) {i : Nat} (hi : i < ls.length) {j : Nat} {v : Value} (hv : (lineV (M.dA i) (M.dC i) (ln ls i))[j]? = some v) : A = some ⟨blkOf A, offOf A, none⟩ ∧ Rd β ⟨blkOf A, offOf A + i * 10 + j, none⟩ v := by
  have hj : j < 10 := len_of_some hv
  have h1 := flatF_get (f := fun i l => lineV (M.dA i) (M.dC i) l) (s := 10) (fun _ _ => rfl) ls 0 i j _ (getD_some (x := default) hi) hj
  rw [Nat.zero_add] at h1
  have := h.row (i * 10 + j) v (h1.trans hv)
  rw [← Nat.add_assoc] at this
  exact this
theorem LinesAt.hd (h : LinesAt β A ls M) {i : Nat} (hi : i < ls.length) : A = some ⟨blkOf A, offOf A, none⟩ := (h.get hi (j := 0) rfl).1
theorem LinesAt.rd (h : LinesAt β A ls M) {i : Nat} (hi : i < ls.length) {j : Nat} {v : Value} (hv : (lineV (M.dA i) (M.dC i) (ln ls i))[j]? = some v) : Rd β ⟨blkOf A, offOf A + i * 10 + j, none⟩ v := (h.get hi hv).2
end lines
theorem ran_timeEq {w : World} {o : Oper} {ev : Operand → Value} {x y : Operand} {a b c d : Int} (ho : o.op = .binOp .eql 28 x y 28) (hx : ev x = .agg #[.int .i64 a, .int .i64 b]) (hy : ev y = .agg #[.int .i64 c, .int .i64 d]) :
    Ran Try.prog ev o w (.bool (decide (a = c ∧ b = d))) w := by
  obtain ⟨dst, op, type, pos, after, guard⟩ := o
  cases ho
  refine .inl ?_
  simp only [execOp, hx, hy]
  simp [go_sem]
  by_cases h1 : a = c <;> by_cases h2 : b = d <;> simp [h1, h2]
theorem lineEq {l m : LineM} (h1 : l.path = m.path) (h2 : l.kind = m.kind) (h3 : l.mode = m.mode) (h4 : l.uid = m.uid) (h5 : l.gid = m.gid) (h6 : l.sec = m.sec ∧ l.nano = m.nano) (h7 : l.target = m.target) (h8 : l.peer = m.peer) (h9 : l.data = m.data) : l = m := by
  cases l; cases m; simp_all
/-! ### what Tree answers -/
structure TS where
  out : List LineM
  fst : Nat → ByteArray
  sum : Nat
  cnt : Nat
def emptyB : ByteArray := ⟨#[]⟩
def lineOf (n : NodeM) (p peer : ByteArray) : LineM :=
  if peer = ⟨#[]⟩ then ⟨p, n.kind, n.mode, n.uid, n.gid, n.sec, n.nano, n.data, n.target, ⟨#[]⟩⟩ else ⟨p, n.kind, n.mode, n.uid, n.gid, n.sec, n.nano, [], ⟨#[]⟩, peer⟩
def push (ns : List NodeM) (k : Nat) (p : ByteArray) (s : TS) : TS :=
  if s.fst k = ⟨#[]⟩ then ⟨s.out ++ [lineOf (nd ns k) p (s.fst k)], fun j => if j = k then p else s.fst j, s.sum + p.size, s.cnt + 1⟩
  else ⟨s.out ++ [lineOf (nd ns k) p (s.fst k)], s.fst, s.sum + p.size, s.cnt⟩
theorem push_sum (ns : List NodeM) (k : Nat) (p : ByteArray) (s : TS) : (push ns k p s).sum = s.sum + p.size := by unfold push; split <;> rfl
theorem push_out (ns : List NodeM) (k : Nat) (p : ByteArray) (s : TS) : (push ns k p s).out = s.out ++ [lineOf (nd ns k) p (s.fst k)] := by unfold push; split <;> rfl
theorem push_len (ns : List NodeM) (k : Nat) (p : ByteArray) (s : TS) : (push ns k p s).out.length = s.out.length + 1 := by rw [push_out]; simp
def slash : ByteArray := ⟨#[47]⟩
def below (top : Nat) (p name : ByteArray) : ByteArray := if top = 0 then name else p ++ ⟨#[47]⟩ ++ name
def foldE {α : Type} (g : α → TS → Option TS) : List α → TS → Option TS
  | [], s => some s
  | e :: r, s => (g e s).bind (foldE g r)
def addF (ns : List NodeM) : Nat → Nat → ByteArray → TS → Option TS
  | 0, _, _, _ => none
  | f + 1, k, p, s => if 4194304 < s.sum + p.size then none else foldE (fun e s' => addF ns f (tgt ns e.id) (below s.out.length p e.name) s') (nd ns k).ents (push ns k p s)
theorem foldE_append {α : Type} {g : α → TS → Option TS} : ∀ {a b : List α} {s : TS}, foldE g (a ++ b) s = (foldE g a s).bind (foldE g b)
  | [], _, _ => rfl
  | e :: r, b, s => by
    rw [List.cons_append, foldE, foldE, Option.bind_assoc]
    congr 1
    funext s'
    exact foldE_append
theorem foldE_map {α γ : Type} {g : α → TS → Option TS} {h : γ → α} : ∀ {l : List γ} {s : TS}, foldE g (l.map h) s = foldE (fun e => g (h e)) l s
  | [], _ => rfl
  | e :: r, s => by
    rw [List.map_cons, foldE, foldE]
    congr 1
    funext s'
    exact foldE_map
/-- what is held of a state -/
structure TOk (s : TS) : Prop where
  out : s.out.length ≤ s.sum
  cnt : s.cnt ≤ s.out.length
  sum : s.sum ≤ 4194304
theorem TOk.push {ns : List NodeM} {k : Nat} {p : ByteArray} {s : TS} (h : TOk s) (hp : 1 ≤ p.size) (hs : ¬ 4194304 < s.sum + p.size) : TOk (push ns k p s) := by
  refine ⟨?_, ?_, ?_⟩
  · rw [push_len, push_sum]; have := h.out; omega
  · rw [push_len]
    have := h.cnt
    unfold Go.Proofs.Ytjpdcppdoonmdaa.push
    split
    · show s.cnt + 1 ≤ _; omega
    · show s.cnt ≤ _; omega
  · rw [push_sum]; omega
theorem below_size {top : Nat} {p n : ByteArray} (h : 1 ≤ n.size) : 1 ≤ (below top p n).size := by
  unfold below
  split
  · exact h
  · rw [ByteArray.size_append]; omega
/-- every entry's name has a letter -/
def Named (ns : List NodeM) : Prop := ∀ i, i < ns.length → ∀ j, j < (nd ns i).ents.length → 1 ≤ (ent ns i j).name.size ∧ (ent ns i j).name.size ≤ 255 ∧ tgt ns (ent ns i j).id < ns.length
theorem GraphOk.named {ns : List NodeM} (h : GraphOk ns) : Named ns := fun i hi j hj => ⟨(h.ents i hi j hj).good.1, (h.ents i hi j hj).good.2.1, (atI_lt (h.ents i hi j hj).at_).1⟩
theorem mem_en {es : List EntM} {e : EntM} (h : e ∈ es) : ∃ j, j < es.length ∧ e = en es j := by
  obtain ⟨j, hj, rfl⟩ := List.getElem_of_mem h
  refine ⟨j, hj, ?_⟩
  unfold en
  rw [List.getD_eq_getElem?_getD, List.getElem?_eq_getElem hj]
  rfl
theorem foldE_inv {α : Type} {g : α → TS → Option TS} {I : TS → Prop} : ∀ {l : List α} {s s' : TS}, (∀ e ∈ l, ∀ s s', I s → g e s = some s' → I s') → I s → foldE g l s = some s' → I s'
  | [], s, s', _, hi, h => by cases h; exact hi
  | e :: r, s, s', hg, hi, h => by
    rw [foldE] at h
    cases h1 : g e s with
    | none => rw [h1] at h; cases h
    | some s1 =>
      rw [h1] at h
      exact foldE_inv (fun e' he' => hg e' (List.mem_cons_of_mem _ he')) (hg e (List.mem_cons_self ..) s s1 hi h1) h
/-- a state behind another: more is told, and what was told stands -/
structure Behind (s s' : TS) : Prop where
  ok : TOk s'
  sum : s.sum ≤ s'.sum
  len : s.out.length ≤ s'.out.length
theorem Behind.trans {a b c : TS} (h : Behind a b) (g : Behind b c) : Behind a c := ⟨g.ok, Nat.le_trans h.sum g.sum, Nat.le_trans h.len g.len⟩
theorem below_le {top : Nat} {p n : ByteArray} (hp : p.size ≤ 4194304) (hn : n.size ≤ 255) : (below top p n).size ≤ 8388608 := by
  unfold below
  split
  · omega
  · rw [ByteArray.size_append, ByteArray.size_append]
    have : (⟨#[47]⟩ : ByteArray).size = 1 := rfl
    omega
theorem addF_behind {ns : List NodeM} (hn : Named ns) : ∀ (f k : Nat) (p : ByteArray) (s s' : TS), k < ns.length → 1 ≤ p.size → TOk s → addF ns f k p s = some s' → Behind s s' ∧ s.sum < s'.sum ∧ s.out.length < s'.out.length
  | 0, _, _, _, _, _, _, _, h => by cases h
  | f + 1, k, p, s, s', hk, hp, hs, h => by
    rw [addF] at h
    split at h
    · cases h
    · rename_i h0
      have hpush := hs.push (ns := ns) (k := k) hp h0
      have key := foldE_inv (I := fun x => Behind (push ns k p s) x) (fun e he a b ha hab => by
        obtain ⟨j, hj, rfl⟩ := mem_en he
        obtain ⟨h1, h2, h3⟩ := hn k hk j hj
        obtain ⟨h4, _, _⟩ := addF_behind hn f _ _ a b h3 (below_size h1) ha.ok hab
        exact ⟨h4.ok, Nat.le_trans ha.sum h4.sum, Nat.le_trans ha.len h4.len⟩) ⟨hpush, Nat.le_refl _, Nat.le_refl _⟩ h
      have h1 := key.sum
      have h2 := key.len
      rw [push_sum] at h1
      rw [push_len] at h2
      exact ⟨⟨key.ok, by omega, by omega⟩, by omega, by omega⟩
def TS0 : TS := ⟨[], fun _ => ⟨#[]⟩, 0, 0⟩
def dot : ByteArray := ⟨#[46]⟩
theorem TS0_ok : TOk TS0 := ⟨Nat.le_refl _, Nat.le_refl _, Nat.zero_le _⟩
/-- the lines, and the code -/
noncomputable def treeG (ns : List NodeM) (root : Int) : List LineM × Int :=
  if beginC ns root = 0 then match addF ns 4194305 (tgt ns root) ⟨#[46]⟩ TS0 with
    | some s => (s.out, 0)
    | none => ([], 142)
  else ([], beginC ns root)
theorem treeG_bad {ns : List NodeM} {root : Int} (h : ¬ beginC ns root = 0) : treeG ns root = ([], beginC ns root) := if_neg h
theorem treeG_some {ns : List NodeM} {root : Int} {s : TS} (h : beginC ns root = 0) (h1 : addF ns 4194305 (tgt ns root) ⟨#[46]⟩ TS0 = some s) : treeG ns root = (s.out, 0) := by unfold treeG; rw [if_pos h, h1]
theorem treeG_none {ns : List NodeM} {root : Int} (h : beginC ns root = 0) (h1 : addF ns 4194305 (tgt ns root) ⟨#[46]⟩ TS0 = none) : treeG ns root = ([], 142) := by unfold treeG; rw [if_pos h, h1]
/-! ### the program's map of paths -/
def fpath (ns : List NodeM) (fs : Nat → ByteArray) (z : Int) : Option Value := if 0 ≤ atI ns z ∧ ¬ fs (tgt ns z) = ⟨#[]⟩ then some (.agg #[.string (fs (tgt ns z))]) else none
theorem fpath_zero {ns : List NodeM} : mf (fpath ns TS0.fst) = fun _ => none := by
  rw [← mf_none]
  congr 1
  funext z
  exact if_neg (fun e => e.2 rfl)
theorem atI_self {ns : List NodeM} {k : Nat} (hr : Rising ns) (hk : k < ns.length) : atI ns (nd ns k).id = (k : Int) ∧ tgt ns (nd ns k).id = k := by
  have h := atI_some hr hk (rfl : (nd ns k).id = (nd ns k).id)
  refine ⟨h, ?_⟩
  unfold tgt
  rw [h]
  rfl
theorem fpath_at {ns : List NodeM} {fs : Nat → ByteArray} {k : Nat} (hr : Rising ns) (hk : k < ns.length) (h : ¬ fs k = ⟨#[]⟩) : mf (fpath ns fs) (.int .i64 (nd ns k).id) = some (.agg #[.string (fs k)]) := by
  obtain ⟨h1, h2⟩ := atI_self hr hk
  show fpath ns fs (nd ns k).id = _
  unfold fpath
  rw [if_pos ⟨by omega, by rw [h2]; exact h⟩, h2]
theorem fpath_none {ns : List NodeM} {fs : Nat → ByteArray} {k : Nat} (hr : Rising ns) (hk : k < ns.length) (h : fs k = ⟨#[]⟩) : mf (fpath ns fs) (.int .i64 (nd ns k).id) = none := by
  obtain ⟨h1, h2⟩ := atI_self hr hk
  show fpath ns fs (nd ns k).id = _
  unfold fpath
  rw [if_neg (fun e => e.2 (by rw [h2]; exact h))]
theorem fpath_upd {ns : List NodeM} {s : TS} {k : Nat} {p : ByteArray} (hr : Rising ns) (hk : k < ns.length) (h : s.fst k = ⟨#[]⟩) (hp : 1 ≤ p.size) :
    upd (mf (fpath ns s.fst)) (.int .i64 (nd ns k).id) (some (.agg #[.string p])) = mf (fpath ns (push ns k p s).fst) := by
  obtain ⟨h1, h2⟩ := atI_self hr hk
  rw [mf_upd]
  congr 1
  funext z
  have e : (push ns k p s).fst = fun j => if j = k then p else s.fst j := by unfold push; rw [if_pos h]
  have ek : (push ns k p s).fst k = p := by rw [e]; exact if_pos rfl
  have ej : ∀ j, ¬ j = k → (push ns k p s).fst j = s.fst j := fun j hj => by rw [e]; exact if_neg hj
  unfold fpath
  by_cases e1 : z = (nd ns k).id
  · subst e1
    rw [if_pos rfl, h2, ek, if_pos ⟨by omega, fun e => by rw [e] at hp; exact absurd hp (by decide)⟩]
  · rw [if_neg e1]
    by_cases e2 : 0 ≤ atI ns z
    · have e3 : ¬ tgt ns z = k := fun e3 => e1 (by rw [← (atI_lt e2).2.1, e3])
      rw [ej _ e3]
    · rw [if_neg (fun e => e2 e.1), if_neg (fun e => e2 e.1)]
theorem push_cnt_new {ns : List NodeM} {s : TS} {k : Nat} {p : ByteArray} (hr : Rising ns) (hk : k < ns.length) (h : s.fst k = ⟨#[]⟩) : (if ((mf (fpath ns s.fst)) (.int .i64 (nd ns k).id)).isSome then s.cnt else s.cnt + 1) = (push ns k p s).cnt := by
  rw [fpath_none hr hk h]
  unfold push
  rw [if_pos h]
  rfl
theorem push_old {ns : List NodeM} {s : TS} {k : Nat} {p : ByteArray} (h : ¬ s.fst k = ⟨#[]⟩) : (push ns k p s).fst = s.fst ∧ (push ns k p s).cnt = s.cnt := by
  unfold push; rw [if_neg h]; exact ⟨rfl, rfl⟩
theorem line_new (n : NodeM) (p : ByteArray) {x : ByteArray} (h : x = ⟨#[]⟩) : lineOf n p x = ⟨p, n.kind, n.mode, n.uid, n.gid, n.sec, n.nano, n.data, n.target, ⟨#[]⟩⟩ := if_pos h
theorem line_old (n : NodeM) (p : ByteArray) {x : ByteArray} (h : ¬ x = ⟨#[]⟩) : lineOf n p x = ⟨p, n.kind, n.mode, n.uid, n.gid, n.sec, n.nano, [], ⟨#[]⟩, x⟩ := if_neg h
theorem foldE_drop {es : List EntM} {j : Nat} {g : EntM → TS → Option TS} {s : TS} (hj : j < es.length) : foldE g (es.drop j) s = (g (en es j) s).bind (foldE g (es.drop (j + 1))) := by
  rw [List.drop_eq_getElem_cons hj, foldE]
  have : en es j = es[j] := by
    unfold en
    rw [List.getD_eq_getElem?_getD, List.getElem?_eq_getElem hj]
    rfl
  rw [this]
theorem foldE_end {es : List EntM} {j : Nat} {g : EntM → TS → Option TS} {s : TS} (hj : es.length ≤ j) : foldE g (es.drop j) s = some s := by
  rw [List.drop_eq_nil_of_le hj]; rfl
end Go.Proofs.Ytjpdcppdoonmdaa
end
/- part GLine. PROVED HERE: data are cloned, lines are compared CONDITIONS: as the theorems say. Printed by a program of this repo (wip/v). -/
section
namespace Go.Proofs.Ytjpdcppdoonmdaa
open Go.RowKit
attribute [local irreducible] TriL TriLQ Tri TriQ
set_option maxRecDepth 100000 in
set_option maxHeartbeats 4000000 in
theorem sp_cloneNil {β : Bs} (c : Nat) : SpecB Try.prog β 50 #[.slice none 0 c] [] (fun β' v l => ∃ B cap, v = .slice B 0 cap ∧ l = [] ∧ BytesAt β' B []) := by
 refine SpecB.enter Try.func50 rfl Try.ntmps50 (Nat.le_of_ble_eq_true rfl) (fun hle0 R => ?_)
 refine Tri.seq (Tri.region ?_)
 refine TriL.segK (k' := 1) (fr' := [(0, .slice none (0) (c))]) (obl := []) [o_] [0] (fun _ _ => by kernel_rfl) trivial ?_
 refine TriL.nil (by kernel_rfl) (TriQ.next (Tri.seq (Tri.seq (Tri.region ?_))))
 refine TriL.segK (k' := 2) (fr' := [(0, .slice none (0) (c)), (4, .bool true)]) (obl := []) [o_, o_] [0, 4] (fun _ _ => by kernel_rfl) trivial ?_
 refine TriL.nil (by kernel_rfl) (TriQ.next ?_)
 refine Tri.condT (fun _ => by kernel_rfl) ?_
 refine Tri.seq (Tri.region ?_)
 refine TriL.segK (k' := 1) (fr' := [(2, .slice none (0) (0))]) (obl := []) [o_] [2] (fun _ _ => by kernel_rfl) trivial ?_
 refine TriL.nil (by kernel_rfl) (TriQ.next (Tri.ret (TriQ.passRet ?_)))
 exact TriQ.retB (v := .slice none (0) (0)) (l := []) (obl := []) [] [0] hle0 (fun _ => by kernel_rfl) trivial rfl (by kernel_rfl) (⟨none, 0, rfl, rfl, RowB.nil⟩)
set_option maxRecDepth 100000 in
set_option maxHeartbeats 4000000 in
theorem sp_cloneSome {β : Bs} (a : Addr) (c : Nat) (d : List UInt8) (hA : BytesAt β (some a) d) (hl : d.length ≤ 1048576) : SpecB Try.prog β 50 #[.slice (some a) d.length c] [] (fun β' v l => ∃ B cap, v = .slice B d.length cap ∧ l = [] ∧ BytesAt β' B d) := by
 refine SpecB.enter Try.func50 rfl Try.ntmps50 (Nat.le_of_ble_eq_true rfl) (fun hle0 R => ?_)
 refine Tri.seq (Tri.region ?_)
 refine TriL.segK (k' := 1) (fr' := [(0, .slice (some a) (d.length) (c))]) (obl := []) [o_] [0] (fun _ _ => by kernel_rfl) trivial ?_
 refine TriL.nil (by kernel_rfl) (TriQ.next (Tri.seq (Tri.seq (Tri.region ?_))))
 refine TriL.segK (k' := 2) (fr' := [(0, .slice (some a) (d.length) (c)), (4, .bool false)]) (obl := []) [o_, o_] [0, 4] (fun _ _ => by kernel_rfl) trivial ?_
 refine TriL.nil (by kernel_rfl) (TriQ.next ?_)
 refine Tri.condF (fun _ => by kernel_rfl) ?_
 refine Tri.skip (TriQ.next (Tri.seq (Tri.region ?_)))
 refine TriL.segN (k' := 1) (fr' := fun b1 => [(0, .slice (some a) (d.length) (c)), (5, .slice (some ⟨b1, 0, none⟩) (0) (0))]) (hps' := fun b1 => [.abs R, .blk b1 [] 5]) (obl := fun b1 => []) [o_] [0, 5] [0, 1] (fun _ _ => by kernel_rfl) (fun b1 => trivial) (fun b1 => ?_)
 refine TriL.mem (fun w hS => hS.toRow (i := 1) (b := b1) (cs := []) (e := 5) 1 0 (by kernel_rfl) rfl (by decide)) ?_
 refine TriL.segK (k' := 2) (fr' := [(5, .slice (some ⟨b1, 0, none⟩) (0) (0)), (6, .slice (some a) (d.length) (c))]) (obl := []) [o_] [5, 6] (fun _ _ => by kernel_rfl) trivial ?_
 refine TriL.append 1 (d := (some 7)) (t := 29) (e := 5) (z := .int .u8 0) (size := 1) (bytes := 1) (n := 0) (cap := 0) (A := some ⟨b1, 0, none⟩) (xs := []) (s := (.tmp 5)) (x := (.tmp 6)) (ats := #[29, 29]) (A' := (some a)) (m := d.length) (c' := c) (news := (bytesV d)) (fun _ => by kernel_rfl) rfl (by kernel_rfl) (fun _ => by kernel_rfl) (fun _ => by kernel_rfl) Try.underlying29 (by kernel_rfl) rfl (by decide) (by rw [bytesV_len, Nat.mul_one]) (oneCell_bytes d) (hA.src) (by unfold maxLen; omega) (by omega) (fun A2 c3 => ?_)
 refine TriL.partEq 1 (p := .abs (RowA 5 1 A2 (0 + d.length) c3 ([] ++ (bytesV d)))) (p' := .abs (RowA 5 1 A2 d.length c3 (bytesV d))) (by kernel_rfl) (by rw [Nat.zero_add, List.nil_append]) ?_
 refine TriL.slot 7 (.slice A2 (0 + d.length) (c3)) (.slice A2 (d.length) (c3)) (fun _ => by kernel_rfl) (by rw [Nat.zero_add]) ?_
 refine TriL.rebase (Φ := fun β' => BytesAt β' A2 d) 1 [0] (hps' := [.abs R]) rfl rfl (by kernel_rfl) (fun F w h β' h1 h2 => RowB.of_row h h1 h2) (fun β1 hle_β1 hB => ?_)
 replace hA := hA.le hle_β1
 replace hle0 := hle0.trans hle_β1
 refine TriL.segK (k' := 4) (fr' := [(2, .slice A2 (d.length) (c3))]) (obl := []) [o_] [2] (fun _ _ => by kernel_rfl) trivial ?_
 refine TriL.nil (by kernel_rfl) (TriQ.next (Tri.ret ?_))
 exact TriQ.retB (v := .slice A2 (d.length) (c3)) (l := []) (obl := []) [] [0] hle0 (fun _ => by kernel_rfl) trivial rfl (by kernel_rfl) (⟨A2, c3, rfl, rfl, hB⟩)
theorem sp_clone {β : Bs} (A : Option Addr) (c : Nat) (d : List UInt8) (hA : BytesAt β A d) (hl : d.length ≤ 1048576) : SpecB Try.prog β 50 #[.slice A d.length c] [] (fun β' v l => ∃ B cap, v = .slice B d.length cap ∧ l = [] ∧ BytesAt β' B d) := by
  cases A with
  | some a => exact sp_cloneSome a c d hA hl
  | none =>
    cases d with
    | nil => exact sp_cloneNil c
    | cons b r => have h := BytesAt.hd hA (j := 0) (by simp); cases h
set_option maxRecDepth 100000 in
set_option maxHeartbeats 4000000 in
theorem sp_sameLine {β : Bs} (l m : LineM) (dA dB : Option Addr) (dC dD : Nat) (hD : BytesAt β dA l.data) (hD2 : BytesAt β dB m.data) (hl1 : l.data.length ≤ 1048576) :
    Spec Try.prog β 49 #[.agg #[.string l.path, .int .i64 (l.kind), .int .i64 (l.mode), .int .i64 (l.uid), .int .i64 (l.gid), .int .i64 (l.sec), .int .i64 (l.nano), .slice dA (l.data.length) (dC), .string l.target, .string l.peer], .agg #[.string m.path, .int .i64 (m.kind), .int .i64 (m.mode), .int .i64 (m.uid), .int .i64 (m.gid), .int .i64 (m.sec), .int .i64 (m.nano), .slice dB (m.data.length) (dD), .string m.target, .string m.peer]] [] (fun v k => v = .bool (decide (l = m)) ∧ k = []) := by
 refine Spec.enter Try.func49 rfl Try.ntmps49 (Nat.le_of_ble_eq_true rfl) (fun R => ?_)
 refine Tri.seq (Tri.region ?_)
 refine TriL.segN (k' := 1) (fr' := fun b4 => [(1, .agg #[.string m.path, .int .i64 (m.kind), .int .i64 (m.mode), .int .i64 (m.uid), .int .i64 (m.gid), .int .i64 (m.sec), .int .i64 (m.nano), .slice dB (m.data.length) (dD), .string m.target, .string m.peer]), (2, .pointer (some ⟨b4, 0, none⟩))]) (hps' := fun b4 => [.abs R, .blk b4 [.string l.path, .int .i64 (l.kind), .int .i64 (l.mode), .int .i64 (l.uid), .int .i64 (l.gid), .int .i64 (l.sec), .int .i64 (l.nano), .slice dA (l.data.length) (dC), .string l.target, .string l.peer] 51]) (obl := fun b4 => []) [o_] [1, 2] [0, 1] (fun _ _ => by kernel_rfl) (fun b4 => trivial) (fun b4 => ?_)
 refine TriL.segN (k' := 3) (fr' := fun b5 => [(2, .pointer (some ⟨b4, 0, none⟩)), (3, .pointer (some ⟨b5, 0, none⟩))]) (hps' := fun b5 => [.abs R, .blk b4 [.string l.path, .int .i64 (l.kind), .int .i64 (l.mode), .int .i64 (l.uid), .int .i64 (l.gid), .int .i64 (l.sec), .int .i64 (l.nano), .slice dA (l.data.length) (dC), .string l.target, .string l.peer] 51, .blk b5 [.string m.path, .int .i64 (m.kind), .int .i64 (m.mode), .int .i64 (m.uid), .int .i64 (m.gid), .int .i64 (m.sec), .int .i64 (m.nano), .slice dB (m.data.length) (dD), .string m.target, .string m.peer] 51]) (obl := fun b5 => []) [o_, o_] [2, 3] [0, 1, 2] (fun _ _ => by kernel_rfl) (fun b5 => trivial) (fun b5 => ?_)
 refine TriL.nil (by kernel_rfl) (TriQ.next (Tri.seq (Tri.region ?_)))
 refine TriL.segK (k' := 6) (fr' := [(2, .pointer (some ⟨b4, 0, none⟩)), (3, .pointer (some ⟨b5, 0, none⟩)), (10, .bool (decide ((l.path : ByteArray) = m.path)))]) (obl := [(Value.bool ((l.path : ByteArray).toList == (m.path : ByteArray).toList)) = (.bool (decide ((l.path : ByteArray) = m.path))), b5 = b5, b4 = b4]) [o_, ⟨[.at 1], none, none, none, none⟩, o_, ⟨[.at 2], none, none, none, none⟩, ⟨[], none, none, none, some (.bool (decide ((l.path : ByteArray) = m.path)))⟩, o_] [2, 3, 10] (fun _ _ => by kernel_rfl) ⟨strEqV _ _, rfl, rfl, trivial⟩ ?_
 refine TriL.slotP 10 ((l.path : ByteArray) = m.path) (fun _ => by kernel_rfl) (fun h10 => ?_) (fun h10 => ?_)
 ·
  refine TriL.segK (k' := 13) (fr' := [(2, .pointer (some ⟨b4, 0, none⟩)), (3, .pointer (some ⟨b5, 0, none⟩)), (17, .bool (decide ((l.kind : Int) = (m.kind : Int))))]) (obl := [b5 = b5, b4 = b4]) [o_, ⟨[.at 1], none, none, none, none⟩, o_, ⟨[.at 2], none, none, none, none⟩, o_, o_, o_] [2, 3, 17] (fun _ _ => by kernel_rfl) ⟨rfl, rfl, trivial⟩ ?_
  refine TriL.slotP 17 ((l.kind : Int) = (m.kind : Int)) (fun _ => by kernel_rfl) (fun h17 => ?_) (fun h17 => ?_)
  ·
   refine TriL.segK (k' := 20) (fr' := [(2, .pointer (some ⟨b4, 0, none⟩)), (3, .pointer (some ⟨b5, 0, none⟩)), (24, .bool (decide ((l.mode : Int) = (m.mode : Int))))]) (obl := [b5 = b5, b4 = b4]) [o_, ⟨[.at 1], none, none, none, none⟩, o_, ⟨[.at 2], none, none, none, none⟩, o_, o_, o_] [2, 3, 24] (fun _ _ => by kernel_rfl) ⟨rfl, rfl, trivial⟩ ?_
   refine TriL.slotP 24 ((l.mode : Int) = (m.mode : Int)) (fun _ => by kernel_rfl) (fun h24 => ?_) (fun h24 => ?_)
   ·
    refine TriL.segK (k' := 27) (fr' := [(2, .pointer (some ⟨b4, 0, none⟩)), (3, .pointer (some ⟨b5, 0, none⟩)), (31, .bool (decide ((l.uid : Int) = (m.uid : Int))))]) (obl := [b5 = b5, b4 = b4]) [o_, ⟨[.at 1], none, none, none, none⟩, o_, ⟨[.at 2], none, none, none, none⟩, o_, o_, o_] [2, 3, 31] (fun _ _ => by kernel_rfl) ⟨rfl, rfl, trivial⟩ ?_
    refine TriL.slotP 31 ((l.uid : Int) = (m.uid : Int)) (fun _ => by kernel_rfl) (fun h31 => ?_) (fun h31 => ?_)
    ·
     refine TriL.segK (k' := 34) (fr' := [(2, .pointer (some ⟨b4, 0, none⟩)), (3, .pointer (some ⟨b5, 0, none⟩)), (38, .bool (decide ((l.gid : Int) = (m.gid : Int))))]) (obl := [b5 = b5, b4 = b4]) [o_, ⟨[.at 1], none, none, none, none⟩, o_, ⟨[.at 2], none, none, none, none⟩, o_, o_, o_] [2, 3, 38] (fun _ _ => by kernel_rfl) ⟨rfl, rfl, trivial⟩ ?_
     refine TriL.slotP 38 ((l.gid : Int) = (m.gid : Int)) (fun _ => by kernel_rfl) (fun h38 => ?_) (fun h38 => ?_)
     ·
      refine TriL.segK (k' := 38) (fr' := [(2, .pointer (some ⟨b4, 0, none⟩)), (3, .pointer (some ⟨b5, 0, none⟩)), (38, .bool true), (40, .agg #[.int .i64 (l.sec), .int .i64 (l.nano)]), (42, .agg #[.int .i64 (m.sec), .int .i64 (m.nano)])]) (obl := [b5 = b5, b5 = b5, b4 = b4, b4 = b4]) [o_, ⟨[.at 1, .at 1], none, none, none, none⟩, o_, ⟨[.at 2, .at 2], none, none, none, none⟩] [2, 3, 38, 40, 42] (fun _ _ => by kernel_rfl) ⟨rfl, rfl, rfl, rfl, trivial⟩ ?_
      refine TriL.run1 (d := (some 43)) (op := .binOp .eql 28 (.tmp 40) (.tmp 42) 28) (v := .bool (decide ((l.sec : Int) = (m.sec : Int) ∧ (l.nano : Int) = (m.nano : Int)))) (fun _ => by kernel_rfl) (fun o junk w ho hS => ⟨w, ran_timeEq ho (by kernel_rfl) (by kernel_rfl), hS⟩) ?_
      refine TriL.segK (k' := 41) (fr' := [(2, .pointer (some ⟨b4, 0, none⟩)), (3, .pointer (some ⟨b5, 0, none⟩)), (45, .bool (decide ((l.sec : Int) = (m.sec : Int) ∧ (l.nano : Int) = (m.nano : Int))))]) (obl := []) [o_, o_] [2, 3, 45] (fun _ _ => by kernel_rfl) trivial ?_
      refine TriL.slotP 45 ((l.sec : Int) = (m.sec : Int) ∧ (l.nano : Int) = (m.nano : Int)) (fun _ => by kernel_rfl) (fun h45 => ?_) (fun h45 => ?_)
      ·
       refine TriL.segK (k' := 48) (fr' := [(2, .pointer (some ⟨b4, 0, none⟩)), (3, .pointer (some ⟨b5, 0, none⟩)), (52, .bool (decide ((l.target : ByteArray) = m.target)))]) (obl := [(Value.bool ((l.target : ByteArray).toList == (m.target : ByteArray).toList)) = (.bool (decide ((l.target : ByteArray) = m.target))), b5 = b5, b4 = b4]) [o_, ⟨[.at 1], none, none, none, none⟩, o_, ⟨[.at 2], none, none, none, none⟩, ⟨[], none, none, none, some (.bool (decide ((l.target : ByteArray) = m.target)))⟩, o_, o_] [2, 3, 52] (fun _ _ => by kernel_rfl) ⟨strEqV _ _, rfl, rfl, trivial⟩ ?_
       refine TriL.slotP 52 ((l.target : ByteArray) = m.target) (fun _ => by kernel_rfl) (fun h52 => ?_) (fun h52 => ?_)
       ·
        refine TriL.segK (k' := 55) (fr' := [(2, .pointer (some ⟨b4, 0, none⟩)), (3, .pointer (some ⟨b5, 0, none⟩)), (59, .bool (decide ((l.peer : ByteArray) = m.peer)))]) (obl := [(Value.bool ((l.peer : ByteArray).toList == (m.peer : ByteArray).toList)) = (.bool (decide ((l.peer : ByteArray) = m.peer))), b5 = b5, b4 = b4]) [o_, ⟨[.at 1], none, none, none, none⟩, o_, ⟨[.at 2], none, none, none, none⟩, ⟨[], none, none, none, some (.bool (decide ((l.peer : ByteArray) = m.peer)))⟩, o_, o_] [2, 3, 59] (fun _ _ => by kernel_rfl) ⟨strEqV _ _, rfl, rfl, trivial⟩ ?_
        refine TriL.slotP 59 ((l.peer : ByteArray) = m.peer) (fun _ => by kernel_rfl) (fun h59 => ?_) (fun h59 => ?_)
        ·
         refine TriL.segK (k' := 59) (fr' := [(59, .bool true), (61, .slice dA (l.data.length) (dC)), (63, .slice dB (m.data.length) (dD))]) (obl := [b5 = b5, b4 = b4]) [o_, ⟨[.at 1], none, none, none, none⟩, o_, ⟨[.at 2], none, none, none, none⟩] [59, 61, 63] (fun _ _ => by kernel_rfl) ⟨rfl, rfl, trivial⟩ ?_
         refine TriL.call (f := 62) (args := #[.slice dA (l.data.length) (dC), .slice dB (m.data.length) (dD)]) (d := (some 64)) (pre := []) (R := [.abs R, .blk b4 [.string l.path, .int .i64 (l.kind), .int .i64 (l.mode), .int .i64 (l.uid), .int .i64 (l.gid), .int .i64 (l.sec), .int .i64 (l.nano), .slice dA (l.data.length) (dC), .string l.target, .string l.peer] 51, .blk b5 [.string m.path, .int .i64 (m.kind), .int .i64 (m.mode), .int .i64 (m.uid), .int .i64 (m.gid), .int .i64 (m.sec), .int .i64 (m.nano), .slice dB (m.data.length) (dD), .string m.target, .string m.peer] 51]) (pk := [0, 1, 2]) (fun _ => by kernel_rfl) (sp_sameBytes dA dB dC dD l.data m.data hD hD2 hl1) rfl (by kernel_rfl) ?_
         rintro _ _ ⟨rfl, rfl⟩
         refine TriL.segK (k' := 62) (fr' := [(4, .bool (decide (l.data = m.data)))]) (obl := []) [o_, o_] [4] (fun _ _ => by kernel_rfl) trivial ?_
         refine TriL.nil (by kernel_rfl) (TriQ.next (Tri.ret ?_))
         exact TriQ.ret (v := .bool (decide (l.data = m.data))) (l := []) (obl := []) [] [0] (fun _ => by kernel_rfl) trivial rfl (by kernel_rfl) (⟨congrArg Value.bool (decide_eq_decide.2 ⟨fun e => lineEq (by assumption) (by assumption) (by assumption) (by assumption) (by assumption) (by assumption) (by assumption) (by assumption) e, fun e => by cases e; rfl⟩), rfl⟩)
        ·
         refine TriL.segK (k' := 62) (fr' := [(4, .bool false)]) (obl := []) [o_, o_, o_, o_, o_, o_, o_] [4] (fun _ _ => by kernel_rfl) trivial ?_
         refine TriL.nil (by kernel_rfl) (TriQ.next (Tri.ret ?_))
         exact TriQ.ret (v := .bool false) (l := []) (obl := []) [] [0] (fun _ => by kernel_rfl) trivial rfl (by kernel_rfl) (⟨by rw [decide_eq_false (fun e => h59 (by cases e; first | rfl | exact ⟨rfl, rfl⟩))], rfl⟩)
       ·
        refine TriL.segK (k' := 62) (fr' := [(4, .bool false)]) (obl := []) [o_, o_, o_, o_, o_, o_, o_, o_, o_, o_, o_, o_, o_, o_] [4] (fun _ _ => by kernel_rfl) trivial ?_
        refine TriL.nil (by kernel_rfl) (TriQ.next (Tri.ret ?_))
        exact TriQ.ret (v := .bool false) (l := []) (obl := []) [] [0] (fun _ => by kernel_rfl) trivial rfl (by kernel_rfl) (⟨by rw [decide_eq_false (fun e => h52 (by cases e; first | rfl | exact ⟨rfl, rfl⟩))], rfl⟩)
      ·
       refine TriL.segK (k' := 62) (fr' := [(4, .bool false)]) (obl := []) [o_, o_, o_, o_, o_, o_, o_, o_, o_, o_, o_, o_, o_, o_, o_, o_, o_, o_, o_, o_, o_] [4] (fun _ _ => by kernel_rfl) trivial ?_
       refine TriL.nil (by kernel_rfl) (TriQ.next (Tri.ret ?_))
       exact TriQ.ret (v := .bool false) (l := []) (obl := []) [] [0] (fun _ => by kernel_rfl) trivial rfl (by kernel_rfl) (⟨by rw [decide_eq_false (fun e => h45 (by cases e; first | rfl | exact ⟨rfl, rfl⟩))], rfl⟩)
     ·
      refine TriL.segK (k' := 62) (fr' := [(4, .bool false)]) (obl := []) [o_, o_, o_, o_, o_, o_, o_, o_, o_, o_, o_, o_, o_, o_, o_, o_, o_, o_, o_, o_, o_, o_, o_, o_, o_, o_, o_, o_] [4] (fun _ _ => by kernel_rfl) trivial ?_
      refine TriL.nil (by kernel_rfl) (TriQ.next (Tri.ret ?_))
      exact TriQ.ret (v := .bool false) (l := []) (obl := []) [] [0] (fun _ => by kernel_rfl) trivial rfl (by kernel_rfl) (⟨by rw [decide_eq_false (fun e => h38 (by cases e; first | rfl | exact ⟨rfl, rfl⟩))], rfl⟩)
    ·
     refine TriL.segK (k' := 62) (fr' := [(4, .bool false)]) (obl := []) [o_, o_, o_, o_, o_, o_, o_, o_, o_, o_, o_, o_, o_, o_, o_, o_, o_, o_, o_, o_, o_, o_, o_, o_, o_, o_, o_, o_, o_, o_, o_, o_, o_, o_, o_] [4] (fun _ _ => by kernel_rfl) trivial ?_
     refine TriL.nil (by kernel_rfl) (TriQ.next (Tri.ret ?_))
     exact TriQ.ret (v := .bool false) (l := []) (obl := []) [] [0] (fun _ => by kernel_rfl) trivial rfl (by kernel_rfl) (⟨by rw [decide_eq_false (fun e => h31 (by cases e; first | rfl | exact ⟨rfl, rfl⟩))], rfl⟩)
   ·
    refine TriL.segK (k' := 62) (fr' := [(4, .bool false)]) (obl := []) [o_, o_, o_, o_, o_, o_, o_, o_, o_, o_, o_, o_, o_, o_, o_, o_, o_, o_, o_, o_, o_, o_, o_, o_, o_, o_, o_, o_, o_, o_, o_, o_, o_, o_, o_, o_, o_, o_, o_, o_, o_, o_] [4] (fun _ _ => by kernel_rfl) trivial ?_
    refine TriL.nil (by kernel_rfl) (TriQ.next (Tri.ret ?_))
    exact TriQ.ret (v := .bool false) (l := []) (obl := []) [] [0] (fun _ => by kernel_rfl) trivial rfl (by kernel_rfl) (⟨by rw [decide_eq_false (fun e => h24 (by cases e; first | rfl | exact ⟨rfl, rfl⟩))], rfl⟩)
  ·
   refine TriL.segK (k' := 62) (fr' := [(4, .bool false)]) (obl := []) [o_, o_, o_, o_, o_, o_, o_, o_, o_, o_, o_, o_, o_, o_, o_, o_, o_, o_, o_, o_, o_, o_, o_, o_, o_, o_, o_, o_, o_, o_, o_, o_, o_, o_, o_, o_, o_, o_, o_, o_, o_, o_, o_, o_, o_, o_, o_, o_, o_] [4] (fun _ _ => by kernel_rfl) trivial ?_
   refine TriL.nil (by kernel_rfl) (TriQ.next (Tri.ret ?_))
   exact TriQ.ret (v := .bool false) (l := []) (obl := []) [] [0] (fun _ => by kernel_rfl) trivial rfl (by kernel_rfl) (⟨by rw [decide_eq_false (fun e => h17 (by cases e; first | rfl | exact ⟨rfl, rfl⟩))], rfl⟩)
 ·
  refine TriL.segK (k' := 62) (fr' := [(4, .bool false)]) (obl := []) [o_, o_, o_, o_, o_, o_, o_, o_, o_, o_, o_, o_, o_, o_, o_, o_, o_, o_, o_, o_, o_, o_, o_, o_, o_, o_, o_, o_, o_, o_, o_, o_, o_, o_, o_, o_, o_, o_, o_, o_, o_, o_, o_, o_, o_, o_, o_, o_, o_, o_, o_, o_, o_, o_, o_, o_] [4] (fun _ _ => by kernel_rfl) trivial ?_
  refine TriL.nil (by kernel_rfl) (TriQ.next (Tri.ret ?_))
  exact TriQ.ret (v := .bool false) (l := []) (obl := []) [] [0] (fun _ => by kernel_rfl) trivial rfl (by kernel_rfl) (⟨by rw [decide_eq_false (fun e => h10 (by cases e; first | rfl | exact ⟨rfl, rfl⟩))], rfl⟩)
set_option maxRecDepth 100000 in
set_option maxHeartbeats 4000000 in
theorem sp_sameLines {β : Bs} (A B : Option Addr) (c c' : Nat) (ls ms : List LineM) (M K : LayL) (hG : LinesAt β A ls M) (hH : LinesAt β B ms K) (hl : ls.length ≤ 16777216) (hd : ∀ i, i < ls.length → (ln ls i).data.length ≤ 1048576) :
    Spec Try.prog β 28 #[.slice A ls.length c, .slice B ms.length c'] [] (fun v l => v = .bool (decide (ls = ms)) ∧ l = []) := by
 refine Spec.enter Try.func28 rfl Try.ntmps28 (Nat.le_of_ble_eq_true rfl) (fun R => ?_)
 refine Tri.seq (Tri.region ?_)
 refine TriL.segK (k' := 1) (fr' := [(0, .slice A (ls.length) (c)), (1, .slice B (ms.length) (c'))]) (obl := []) [o_] [0, 1] (fun _ _ => by kernel_rfl) trivial ?_
 refine TriL.nil (by kernel_rfl) (TriQ.next (Tri.seq (Tri.seq (Tri.region ?_))))
 refine TriL.segK (k' := 5) (fr' := [(0, .slice A (ls.length) (c)), (1, .slice B (ms.length) (c')), (10, .bool (!(decide ((((ls.length : Nat) : Int) : Int) = (((ms.length : Nat) : Int) : Int)))))]) (obl := []) [o_, o_, o_, o_, o_] [0, 1, 10] (fun _ _ => by kernel_rfl) trivial ?_
 refine TriL.nil (by kernel_rfl) (TriQ.next ?_)
 refine Tri.condN (p := (((ls.length : Nat) : Int) : Int) = (((ms.length : Nat) : Int) : Int)) (fun _ => by kernel_rfl) (fun h10 => ?_) (fun h10 => ?_)
 ·
  refine Tri.seq (Tri.region ?_)
  refine TriL.segK (k' := 1) (fr' := [(4, .bool false)]) (obl := []) [o_] [4] (fun _ _ => by kernel_rfl) trivial ?_
  refine TriL.nil (by kernel_rfl) (TriQ.next (Tri.ret (TriQ.passRet ?_)))
  exact TriQ.ret (v := .bool false) (l := []) (obl := []) [] [0] (fun _ => by kernel_rfl) trivial rfl (by kernel_rfl) (⟨by rw [decide_eq_false (fun e => h10 (by rw [e]))], rfl⟩)
 ·
  refine Tri.skip (TriQ.next (Tri.seq (Tri.seq (Tri.region ?_))))
  refine TriL.segK (k' := 1) (fr' := [(0, .slice A (ls.length) (c)), (1, .slice B (ms.length) (c')), (5, .int .i64 0)]) (obl := []) [o_] [0, 1, 5] (fun _ _ => by kernel_rfl) trivial ?_
  refine TriL.nil (by kernel_rfl) (TriQ.next (Tri.block ?_))
  refine Tri.loop (ι := Nat) (fun (i : Nat) => (i ≤ ls.length) ∧ (∀ j, j < i → ls.getD j default = ms.getD j default)) (fun (i : Nat) => ls.length - i) (fun (i : Nat) => [(0, .slice A (ls.length) (c)), (1, .slice B (ms.length) (c')), (5, .int .i64 ↑i)]) (fun (i : Nat) => [.abs R]) 0 (idx := [0, 1, 5]) (pk := [0]) (show (0 ≤ ls.length) ∧ (∀ j, j < 0 → ls.getD j default = ms.getD j default) from ⟨Nat.zero_le _, fun j hj => absurd hj (Nat.not_lt_zero j)⟩) (fun _ => by kernel_rfl) rfl (by kernel_rfl) ?_
  rintro i ⟨hi, hall⟩
  show Tri _ _ _ _ [(0, .slice A (ls.length) (c)), (1, .slice B (ms.length) (c')), (5, .int .i64 ↑i)] [.abs R] _
  refine Tri.seq (Tri.seq (Tri.region ?_))
  refine TriL.segK (k' := 4) (fr' := [(0, .slice A (ls.length) (c)), (1, .slice B (ms.length) (c')), (5, .int .i64 ↑i), (14, .bool (decide ((((i : Nat) : Int) : Int) < (((ls.length : Nat) : Int) : Int))))]) (obl := []) [o_, o_, o_, o_] [0, 1, 5, 14] (fun _ _ => by kernel_rfl) trivial ?_
  refine TriL.nil (by kernel_rfl) (TriQ.next ?_)
  refine Tri.condP (p := (((i : Nat) : Int) : Int) < (((ls.length : Nat) : Int) : Int)) (fun _ => by kernel_rfl) (fun h14 => ?_) (fun h14 => ?_)
  ·
   refine Tri.skip (TriQ.next (Tri.seq (Tri.block (Tri.seq ?_))))
   refine Tri.regionQ (by kernel_rfl) (by kernel_rfl) ?_
   refine TriLQ.seg (k' := 8) (fr' := [(0, .slice A (ls.length) (c)), (1, .slice B (ms.length) (c')), (5, .int .i64 ↑i), (20, .agg #[.string (ln ls i).path, .int .i64 ((ln ls i).kind), .int .i64 ((ln ls i).mode), .int .i64 ((ln ls i).uid), .int .i64 ((ln ls i).gid), .int .i64 ((ln ls i).sec), .int .i64 ((ln ls i).nano), .slice (M.dA i) ((ln ls i).data.length) ((M.dC i)), .string (ln ls i).target, .string (ln ls i).peer]), (24, .agg #[.string (ln ms i).path, .int .i64 ((ln ms i).kind), .int .i64 ((ln ms i).mode), .int .i64 ((ln ms i).uid), .int .i64 ((ln ms i).gid), .int .i64 ((ln ms i).sec), .int .i64 ((ln ms i).nano), .slice (K.dA i) ((ln ms i).data.length) ((K.dC i)), .string (ln ms i).target, .string (ln ms i).peer])]) (obl := [(Rd β ⟨(blkOf B), offOf B + i * 10 + 9, none⟩ (.string (ln ms i).peer)), (Rd β ⟨(blkOf B), offOf B + i * 10 + 8, none⟩ (.string (ln ms i).target)), (Rd β ⟨(blkOf B), offOf B + i * 10 + 7, none⟩ (.slice (K.dA i) ((ln ms i).data.length) ((K.dC i)))), (Rd β ⟨(blkOf B), offOf B + i * 10 + 6, none⟩ (.int .i64 ((ln ms i).nano))), (Rd β ⟨(blkOf B), offOf B + i * 10 + 5, none⟩ (.int .i64 ((ln ms i).sec))), (Rd β ⟨(blkOf B), offOf B + i * 10 + 4, none⟩ (.int .i64 ((ln ms i).gid))), (Rd β ⟨(blkOf B), offOf B + i * 10 + 3, none⟩ (.int .i64 ((ln ms i).uid))), (Rd β ⟨(blkOf B), offOf B + i * 10 + 2, none⟩ (.int .i64 ((ln ms i).mode))), (Rd β ⟨(blkOf B), offOf B + i * 10 + 1, none⟩ (.int .i64 ((ln ms i).kind))), (Rd β ⟨(blkOf B), offOf B + i * 10, none⟩ (.string (ln ms i).path)), ((i : Nat) : Int) = ((i : Nat) : Int), i < ms.length, (⟨(blkOf B), offOf B, none⟩ : Addr).spot = none, (B : Option Addr) = some ⟨(blkOf B), offOf B, none⟩, (Rd β ⟨(blkOf A), offOf A + i * 10 + 9, none⟩ (.string (ln ls i).peer)), (Rd β ⟨(blkOf A), offOf A + i * 10 + 8, none⟩ (.string (ln ls i).target)), (Rd β ⟨(blkOf A), offOf A + i * 10 + 7, none⟩ (.slice (M.dA i) ((ln ls i).data.length) ((M.dC i)))), (Rd β ⟨(blkOf A), offOf A + i * 10 + 6, none⟩ (.int .i64 ((ln ls i).nano))), (Rd β ⟨(blkOf A), offOf A + i * 10 + 5, none⟩ (.int .i64 ((ln ls i).sec))), (Rd β ⟨(blkOf A), offOf A + i * 10 + 4, none⟩ (.int .i64 ((ln ls i).gid))), (Rd β ⟨(blkOf A), offOf A + i * 10 + 3, none⟩ (.int .i64 ((ln ls i).uid))), (Rd β ⟨(blkOf A), offOf A + i * 10 + 2, none⟩ (.int .i64 ((ln ls i).mode))), (Rd β ⟨(blkOf A), offOf A + i * 10 + 1, none⟩ (.int .i64 ((ln ls i).kind))), (Rd β ⟨(blkOf A), offOf A + i * 10, none⟩ (.string (ln ls i).path)), ((i : Nat) : Int) = ((i : Nat) : Int), i < ls.length, (⟨(blkOf A), offOf A, none⟩ : Addr).spot = none, (A : Option Addr) = some ⟨(blkOf A), offOf A, none⟩]) [o_, o_, ⟨[], some i, none, some ⟨(blkOf A), offOf A, none⟩, none⟩, ⟨[.old (.string (ln ls i).path), .old (.int .i64 ((ln ls i).kind)), .old (.int .i64 ((ln ls i).mode)), .old (.int .i64 ((ln ls i).uid)), .old (.int .i64 ((ln ls i).gid)), .old (.int .i64 ((ln ls i).sec)), .old (.int .i64 ((ln ls i).nano)), .old (.slice (M.dA i) ((ln ls i).data.length) ((M.dC i))), .old (.string (ln ls i).target), .old (.string (ln ls i).peer)], none, none, none, none⟩, o_, o_, ⟨[], some i, none, some ⟨(blkOf B), offOf B, none⟩, none⟩, ⟨[.old (.string (ln ms i).path), .old (.int .i64 ((ln ms i).kind)), .old (.int .i64 ((ln ms i).mode)), .old (.int .i64 ((ln ms i).uid)), .old (.int .i64 ((ln ms i).gid)), .old (.int .i64 ((ln ms i).sec)), .old (.int .i64 ((ln ms i).nano)), .old (.slice (K.dA i) ((ln ms i).data.length) ((K.dC i))), .old (.string (ln ms i).target), .old (.string (ln ms i).peer)], none, none, none, none⟩] [0, 1, 5, 20, 24] (fun _ _ => by kernel_rfl) ⟨LinesAt.rd hH (i := i) (by omega) (j := 9) rfl, LinesAt.rd hH (i := i) (by omega) (j := 8) rfl, LinesAt.rd hH (i := i) (by omega) (j := 7) rfl, LinesAt.rd hH (i := i) (by omega) (j := 6) rfl, LinesAt.rd hH (i := i) (by omega) (j := 5) rfl, LinesAt.rd hH (i := i) (by omega) (j := 4) rfl, LinesAt.rd hH (i := i) (by omega) (j := 3) rfl, LinesAt.rd hH (i := i) (by omega) (j := 2) rfl, LinesAt.rd hH (i := i) (by omega) (j := 1) rfl, LinesAt.rd hH (i := i) (by omega) (j := 0) rfl, rfl, by omega, rfl, LinesAt.hd hH (i := i) (by omega), LinesAt.rd hG (i := i) (by omega) (j := 9) rfl, LinesAt.rd hG (i := i) (by omega) (j := 8) rfl, LinesAt.rd hG (i := i) (by omega) (j := 7) rfl, LinesAt.rd hG (i := i) (by omega) (j := 6) rfl, LinesAt.rd hG (i := i) (by omega) (j := 5) rfl, LinesAt.rd hG (i := i) (by omega) (j := 4) rfl, LinesAt.rd hG (i := i) (by omega) (j := 3) rfl, LinesAt.rd hG (i := i) (by omega) (j := 2) rfl, LinesAt.rd hG (i := i) (by omega) (j := 1) rfl, LinesAt.rd hG (i := i) (by omega) (j := 0) rfl, rfl, by omega, rfl, LinesAt.hd hG (i := i) (by omega), trivial⟩ ?_
   refine TriLQ.call (f := 49) (args := #[.agg #[.string (ln ls i).path, .int .i64 ((ln ls i).kind), .int .i64 ((ln ls i).mode), .int .i64 ((ln ls i).uid), .int .i64 ((ln ls i).gid), .int .i64 ((ln ls i).sec), .int .i64 ((ln ls i).nano), .slice (M.dA i) ((ln ls i).data.length) ((M.dC i)), .string (ln ls i).target, .string (ln ls i).peer], .agg #[.string (ln ms i).path, .int .i64 ((ln ms i).kind), .int .i64 ((ln ms i).mode), .int .i64 ((ln ms i).uid), .int .i64 ((ln ms i).gid), .int .i64 ((ln ms i).sec), .int .i64 ((ln ms i).nano), .slice (K.dA i) ((ln ms i).data.length) ((K.dC i)), .string (ln ms i).target, .string (ln ms i).peer]]) (d := (some 25)) (pre := []) (R := [.abs R]) (pk := [0]) (pk' := [0]) (v0 := .bool (decide (ln ls i = ln ms i))) (fun _ => by kernel_rfl) (sp_sameLine (ln ls i) (ln ms i) (M.dA i) (K.dA i) (M.dC i) (K.dC i) (hG.data i (by omega)) (hH.data i (by omega)) (hd i (by omega))) rfl (by kernel_rfl) rfl (by kernel_rfl) (fun _ _ h => h) ?_
   refine TriLQ.seg (k' := 10) (fr' := [(0, .slice A (ls.length) (c)), (1, .slice B (ms.length) (c')), (5, .int .i64 ↑i), (26, .bool (!(decide (ln ls i = ln ms i))))]) (obl := []) [o_] [0, 1, 5, 26] (fun _ _ => by kernel_rfl) trivial ?_
   refine TriLQ.nil (by kernel_rfl) (TriQ.next ?_)
   refine Tri.condN (p := ln ls i = ln ms i) (fun _ => by kernel_rfl) (fun h26 => ?_) (fun h26 => ?_)
   ·
    refine Tri.seq (Tri.region ?_)
    refine TriL.segK (k' := 1) (fr' := [(4, .bool false)]) (obl := []) [o_] [4] (fun _ _ => by kernel_rfl) trivial ?_
    refine TriL.nil (by kernel_rfl) (TriQ.next (Tri.ret (TriQ.blockRet (TriQ.passRet (TriQ.passRet (TriQ.blockRet (TriQ.passRet ?_)))))))
    exact TriQ.ret (v := .bool false) (l := []) (obl := []) [] [0] (fun _ => by kernel_rfl) trivial rfl (by kernel_rfl) (⟨by rw [decide_eq_false (fun e => h26 (by rw [e]))], rfl⟩)
   ·
    refine Tri.skip (TriQ.blockNormal (TriQ.next (Tri.region ?_)))
    refine TriL.segK (k' := 3) (fr' := [(0, .slice A (ls.length) (c)), (1, .slice B (ms.length) (c')), (5, .int .i64 ↑(i + 1))]) (obl := [(Value.int .i64 (IntKind.wrap .i64 (((i : Nat) : Int) + 1))) = (.int .i64 ↑(i + 1))]) [o_, ⟨[], none, none, none, some (.int .i64 ↑(i + 1))⟩, o_] [0, 1, 5] (fun _ _ => by kernel_rfl) ⟨wrapEq (by omega) (by omega) (by omega), trivial⟩ ?_
    refine TriL.nil (by kernel_rfl) ?_
    exact TriQ.turn ((i + 1)) (idx := [0, 1, 5]) (pk := [0]) (show (((i + 1)) ≤ ls.length) ∧ (∀ j, j < ((i + 1)) → ls.getD j default = ms.getD j default) from ⟨by omega, fun j hj => by rcases Nat.lt_succ_iff_lt_or_eq.1 hj with h | h; exact hall j h; subst h; exact h26⟩) (by show ls.length - ((i + 1)) < ls.length - i; omega) (fun _ => by kernel_rfl) rfl (by kernel_rfl)
  ·
   refine Tri.exit (TriQ.passExit (TriQ.passExit (TriQ.blockHit (TriQ.next (Tri.seq (Tri.region ?_))))))
   refine TriL.segK (k' := 1) (fr' := [(4, .bool true)]) (obl := []) [o_] [4] (fun _ _ => by kernel_rfl) trivial ?_
   refine TriL.nil (by kernel_rfl) (TriQ.next (Tri.ret ?_))
   exact TriQ.ret (v := .bool true) (l := []) (obl := []) [] [0] (fun _ => by kernel_rfl) trivial rfl (by kernel_rfl) (⟨by rw [decide_eq_true (ext_getD (x := default) (by omega) (fun j hj => hall j (by omega)))], rfl⟩)
end Go.Proofs.Ytjpdcppdoonmdaa
end
/- part GZ. PROVED HERE: nothing of its own: lines and the mixed regions' rule together. CONDITIONS: none. -/
section

end
/- part GAdd. PROVED HERE: lister.add CONDITIONS: as the theorems say. Printed by a program of this repo (wip/v). -/
section
namespace Go.Proofs.Ytjpdcppdoonmdaa
open Go.RowKit
attribute [local irreducible] TriL TriLQ Tri TriQ
/-- what lister.add does, with fuel f -/
def AddOk (f : Nat) : Prop := ∀ (β : Bs) (A : Option Addr) (ns : List NodeM) (L : Lay) (M : LayL) (s : TS) (k : Nat) (p : ByteArray) (lst mb mp : Nat) (Ao : Option Addr) (co : Nat), GraphAt β A ns L → GraphB ns 1048576 → GraphOk ns → LinesIn β s.out M → k < ns.length → 1 ≤ p.size → p.size ≤ 8388608 → TOk s → 4194304 - s.sum < f →
  SpecB Try.prog β 47 #[.pointer (some ⟨lst, 0, none⟩), .pointer (some ⟨(blkOf A), offOf A + k * 10, none⟩), .string p] [.blk lst [.map (some mb), .slice Ao (s.out.length) (co), .map (some mp), .int .i64 (((s.sum : Nat) : Int))] 84, .abs (MapA Try.prog 3 mb (mf (bf A ns ns.length)) ns.length), .abs (MapA Try.prog 3 mp (mf (fpath ns s.fst)) s.cnt), .abs (RowA 51 10 Ao s.out.length co (linesV M s.out))] (fun β' v l => (∃ s' Ao' co' M', addF ns f k p s = some s' ∧ v = .bool true ∧ LinesIn β' s'.out M' ∧ l = [.blk lst [.map (some mb), .slice Ao' (s'.out.length) (co'), .map (some mp), .int .i64 (((s'.sum : Nat) : Int))] 84, .abs (MapA Try.prog 3 mb (mf (bf A ns ns.length)) ns.length), .abs (MapA Try.prog 3 mp (mf (fpath ns s'.fst)) s'.cnt), .abs (RowA 51 10 Ao' s'.out.length co' (linesV M' s'.out))]) ∨ (addF ns f k p s = none ∧ v = .bool false ∧ l = []))
set_option maxRecDepth 100000 in
set_option maxHeartbeats 4000000 in
theorem sp_addStep (f : Nat) (IH : AddOk f) : AddOk (f + 1) := by
 intro β A ns L M s k p lst mb mp Ao co hG hB hok hLI hk hp hpl hs hf
 have hso := hs.out
 have hsc := hs.cnt
 have hss := hs.sum
 refine SpecB.enter Try.func47 rfl Try.ntmps47 (Nat.le_of_ble_eq_true rfl) (fun hle0 R => ?_)
 refine Tri.seq (Tri.region ?_)
 refine TriL.segK (k' := 1) (fr' := [(0, .pointer (some ⟨lst, 0, none⟩)), (1, .pointer (some ⟨(blkOf A), offOf A + k * 10, none⟩)), (2, .string p)]) (obl := []) [o_] [0, 1, 2] (fun _ _ => by kernel_rfl) trivial ?_
 refine TriL.nil (by kernel_rfl) (TriQ.next (Tri.seq (Tri.region ?_)))
 refine TriL.seg (k' := 10) (fr' := [(0, .pointer (some ⟨lst, 0, none⟩)), (1, .pointer (some ⟨(blkOf A), offOf A + k * 10, none⟩)), (2, .string p)]) (hps' := [.blk lst [.map (some mb), .slice Ao (s.out.length) (co), .map (some mp), .int .i64 ↑(s.sum + ((p : ByteArray).size))] 84, .abs (MapA Try.prog 3 mb (mf (bf A ns ns.length)) ns.length), .abs (MapA Try.prog 3 mp (mf (fpath ns s.fst)) s.cnt), .abs (RowA 51 10 Ao s.out.length co (linesV M s.out)), .abs R]) (obl := [lst = lst, (Value.int .i64 (IntKind.wrap .i64 (((s.sum : Nat) : Int) + (((p : ByteArray).size : Nat) : Int)))) = (.int .i64 ↑(s.sum + ((p : ByteArray).size))), lst = lst]) [o_, o_, o_, ⟨[.at 0], none, none, none, none⟩, o_, o_, ⟨[], none, none, none, some (.int .i64 ↑(s.sum + ((p : ByteArray).size)))⟩, o_, o_, ⟨[.at 0], none, none, none, none⟩] [0, 1, 2] [0, 1, 2, 3, 4] (fun _ _ => by kernel_rfl) ⟨rfl, wrapEq (by omega) (by omega) (by omega), rfl, trivial⟩ ?_
 refine TriL.nil (by kernel_rfl) (TriQ.next (Tri.seq (Tri.seq (Tri.region ?_))))
 refine TriL.segK (k' := 5) (fr' := [(0, .pointer (some ⟨lst, 0, none⟩)), (1, .pointer (some ⟨(blkOf A), offOf A + k * 10, none⟩)), (2, .string p), (25, .bool (decide ((((s.sum + ((p : ByteArray).size) : Nat) : Int) : Int) > (4194304 : Int))))]) (obl := [lst = lst]) [o_, o_, o_, ⟨[.at 0], none, none, none, none⟩, o_] [0, 1, 2, 25] (fun _ _ => by kernel_rfl) ⟨rfl, trivial⟩ ?_
 refine TriL.nil (by kernel_rfl) (TriQ.next ?_)
 refine Tri.condP (p := (((s.sum + ((p : ByteArray).size) : Nat) : Int) : Int) > (4194304 : Int)) (fun _ => by kernel_rfl) (fun h25 => ?_) (fun h25 => ?_)
 ·
  refine Tri.seq (Tri.region ?_)
  refine TriL.segK (k' := 1) (fr' := [(6, .bool false)]) (obl := []) [o_] [6] (fun _ _ => by kernel_rfl) trivial ?_
  refine TriL.nil (by kernel_rfl) (TriQ.next (Tri.ret (TriQ.passRet ?_)))
  exact TriQ.retB (v := .bool false) (l := []) (obl := []) [] [4] hle0 (fun _ => by kernel_rfl) trivial rfl (by kernel_rfl) (.inr ⟨by rw [addF, if_pos (by omega)], rfl, rfl⟩)
 ·
  have hst : addF ns (f + 1) k p s = foldE (fun e s' => addF ns f (tgt ns e.id) (below s.out.length p e.name) s') (nd ns k).ents (push ns k p s) := by rw [addF, if_neg (by omega)]
  refine Tri.skip (TriQ.next (Tri.seq ?_))
  by_cases hfk : s.fst k = ⟨#[]⟩
  ·
   refine Tri.regionMix (S := [.blk lst [.map (some mb), .slice Ao (s.out.length) (co), .map (some mp), .int .i64 ↑(s.sum + ((p : ByteArray).size))] 84, .abs (MapA Try.prog 3 mb (mf (bf A ns ns.length)) ns.length), .abs (MapA Try.prog 3 mp (mf (fpath ns s.fst)) s.cnt)]) [0, 1, 2, 3, 4, 5, 6, 7, 8, 9, 10, 11, 12, 13, 14, 15, 16, 17, 18, 19, 20, 21, 22, 23, 24, 25, 26, 27, 28, 29, 30, 31, 32, 33] 32 [0, 1, 2] (by kernel_rfl) (by kernel_rfl) rfl (by kernel_rfl) ?_
   refine TriM.reads (r := 3) (l := [29, 30, 31, 32, 33]) (fr' := [(0, .pointer (some ⟨lst, 0, none⟩)), (1, .pointer (some ⟨(blkOf A), offOf A + k * 10, none⟩)), (2, .string p), (26, .string p), (30, .int .i64 ((nd ns k).kind)), (34, .int .i64 ((nd ns k).mode)), (38, .int .i64 ((nd ns k).uid)), (42, .int .i64 ((nd ns k).gid)), (46, .agg #[.int .i64 ((nd ns k).sec), .int .i64 ((nd ns k).nano)]), (50, .map (some mp)), (54, .int .i64 ((nd ns k).id))]) (obl := [(Rd β ⟨(blkOf A), offOf A + k * 10, none⟩ (.int .i64 ((nd ns k).id))), lst = lst, (Rd β ⟨(blkOf A), offOf A + k * 10 + 5 + 1, none⟩ (.int .i64 ((nd ns k).nano))), (Rd β ⟨(blkOf A), offOf A + k * 10 + 5, none⟩ (.int .i64 ((nd ns k).sec))), (Rd β ⟨(blkOf A), offOf A + k * 10 + 4, none⟩ (.int .i64 ((nd ns k).gid))), (Rd β ⟨(blkOf A), offOf A + k * 10 + 3, none⟩ (.int .i64 ((nd ns k).uid))), (Rd β ⟨(blkOf A), offOf A + k * 10 + 2, none⟩ (.int .i64 ((nd ns k).mode))), (Rd β ⟨(blkOf A), offOf A + k * 10 + 1, none⟩ (.int .i64 ((nd ns k).kind)))]) [0, 1, 2, 3, 4, 5, 6, 7, 8, 9, 10, 11, 12, 13, 14, 15, 16, 17, 18, 19, 20, 21, 22, 23, 24, 25, 26, 27, 28] [o_, o_, o_, o_, ⟨[.old (.int .i64 ((nd ns k).kind))], none, none, none, none⟩, o_, o_, o_, ⟨[.old (.int .i64 ((nd ns k).mode))], none, none, none, none⟩, o_, o_, o_, ⟨[.old (.int .i64 ((nd ns k).uid))], none, none, none, none⟩, o_, o_, o_, ⟨[.old (.int .i64 ((nd ns k).gid))], none, none, none, none⟩, o_, o_, o_, ⟨[.old (.int .i64 ((nd ns k).sec)), .old (.int .i64 ((nd ns k).nano))], none, none, none, none⟩, o_, o_, o_, ⟨[.at 0], none, none, none, none⟩, o_, o_, o_, ⟨[.old (.int .i64 ((nd ns k).id))], none, none, none, none⟩] [0, 1, 2, 26, 30, 34, 38, 42, 46, 50, 54] (fun _ => by kernel_rfl) ⟨GraphAt.rd hG (i := k) (by omega) (j := 0) rfl, rfl, GraphAt.rd hG (i := k) (by omega) (j := 6) rfl, GraphAt.rd hG (i := k) (by omega) (j := 5) rfl, GraphAt.rd hG (i := k) (by omega) (j := 4) rfl, GraphAt.rd hG (i := k) (by omega) (j := 3) rfl, GraphAt.rd hG (i := k) (by omega) (j := 2) rfl, GraphAt.rd hG (i := k) (by omega) (j := 1) rfl, trivial⟩ rfl rfl ?_
   refine TriM.mapLook 2 (d := (some 55)) (t := 82) (K := 3) (E := 115) (b := mp) (cnt := s.cnt) (f := (mf (fpath ns s.fst))) (x := (.tmp 50)) (ix := (.tmp 54)) (key := .int .i64 ((nd ns k).id)) (z := .agg #[.string ⟨#[]⟩]) (kl := (.int .i64 (nd ns k).id)) (q := none) (by kernel_rfl) (by kernel_rfl) (fun _ => by kernel_rfl) (fun _ => by kernel_rfl) lawI Try.underlying82 (fun _ => by kernel_rfl) (keyI (hB.node k hk).ids.1.1 (hB.node k hk).ids.1.2) (fpath_none hok.rise hk hfk) (by kernel_rfl) ?_
   refine TriM.reads (r := 0) (l := [32, 33]) (fr' := [(0, .pointer (some ⟨lst, 0, none⟩)), (1, .pointer (some ⟨(blkOf A), offOf A + k * 10, none⟩)), (2, .string p), (57, .agg #[.string p, .int .i64 ((nd ns k).kind), .int .i64 ((nd ns k).mode), .int .i64 ((nd ns k).uid), .int .i64 ((nd ns k).gid), .int .i64 ((nd ns k).sec), .int .i64 ((nd ns k).nano), .slice none (0) (0), .string ⟨#[]⟩, .string ⟨#[]⟩])]) (obl := []) [30, 31] [o_, o_] [0, 1, 2, 57] (fun _ => by kernel_rfl) trivial rfl rfl ?_
   refine TriM.cut (ι := Nat) (fr' := fun (b1 : Nat) => [(0, .pointer (some ⟨lst, 0, none⟩)), (1, .pointer (some ⟨(blkOf A), offOf A + k * 10, none⟩)), (2, .string p), (7, .pointer (some ⟨b1, 0, none⟩)), (57, .agg #[.string p, .int .i64 ((nd ns k).kind), .int .i64 ((nd ns k).mode), .int .i64 ((nd ns k).uid), .int .i64 ((nd ns k).gid), .int .i64 ((nd ns k).sec), .int .i64 ((nd ns k).nano), .slice none (0) (0), .string ⟨#[]⟩, .string ⟨#[]⟩])]) (hp' := fun (b1 : Nat) => [.blk lst [.map (some mb), .slice Ao (s.out.length) (co), .map (some mp), .int .i64 ↑(s.sum + ((p : ByteArray).size))] 84, .abs (MapA Try.prog 3 mb (mf (bf A ns ns.length)) ns.length), .abs (MapA Try.prog 3 mp (mf (fpath ns s.fst)) s.cnt), .abs (RowA 51 10 Ao s.out.length co (linesV M s.out)), .abs R, .blk b1 [.string ⟨#[]⟩, .int .i64 0, .int .i64 0, .int .i64 0, .int .i64 0, .int .i64 0, .int .i64 0, .slice none (0) (0), .string ⟨#[]⟩, .string ⟨#[]⟩] 51]) [0, 1, 2] rfl rfl ?_ rfl (fun _ => by kernel_rfl) ?_
   ·
    refine TriL.segN (k' := 1) (fr' := fun b1 => [(0, .pointer (some ⟨lst, 0, none⟩)), (1, .pointer (some ⟨(blkOf A), offOf A + k * 10, none⟩)), (2, .string p), (7, .pointer (some ⟨b1, 0, none⟩)), (57, .agg #[.string p, .int .i64 ((nd ns k).kind), .int .i64 ((nd ns k).mode), .int .i64 ((nd ns k).uid), .int .i64 ((nd ns k).gid), .int .i64 ((nd ns k).sec), .int .i64 ((nd ns k).nano), .slice none (0) (0), .string ⟨#[]⟩, .string ⟨#[]⟩])]) (hps' := fun b1 => [.blk lst [.map (some mb), .slice Ao (s.out.length) (co), .map (some mp), .int .i64 ↑(s.sum + ((p : ByteArray).size))] 84, .abs (MapA Try.prog 3 mb (mf (bf A ns ns.length)) ns.length), .abs (MapA Try.prog 3 mp (mf (fpath ns s.fst)) s.cnt), .abs (RowA 51 10 Ao s.out.length co (linesV M s.out)), .abs R, .blk b1 [.string ⟨#[]⟩, .int .i64 0, .int .i64 0, .int .i64 0, .int .i64 0, .int .i64 0, .int .i64 0, .slice none (0) (0), .string ⟨#[]⟩, .string ⟨#[]⟩] 51]) (obl := fun b1 => []) [o_] [0, 1, 2, 7, 57] [0, 1, 2, 3, 4, 5] (fun _ _ => by kernel_rfl) (fun b1 => trivial) (fun b1 => ?_)
    refine TriL.nil (by kernel_rfl) ?_
    exact TriQ.mid b1 (idx := [0, 1, 2, 7, 57]) (pk := [0, 1, 2, 3, 4, 5]) (fun _ => by kernel_rfl) rfl (by kernel_rfl)
   rintro b1
   refine TriM.last rfl rfl ?_
   refine TriL.seg (k' := 1) (fr' := [(0, .pointer (some ⟨lst, 0, none⟩)), (1, .pointer (some ⟨(blkOf A), offOf A + k * 10, none⟩)), (2, .string p), (7, .pointer (some ⟨b1, 0, none⟩))]) (hps' := [.blk lst [.map (some mb), .slice Ao (s.out.length) (co), .map (some mp), .int .i64 ↑(s.sum + ((p : ByteArray).size))] 84, .abs (MapA Try.prog 3 mb (mf (bf A ns ns.length)) ns.length), .abs (MapA Try.prog 3 mp (mf (fpath ns s.fst)) s.cnt), .abs (RowA 51 10 Ao s.out.length co (linesV M s.out)), .abs R, .blk b1 (lvT (nd ns k) p none (0) 0 (⟨#[]⟩) ⟨#[]⟩) 51]) (obl := [b1 = b1, b1 = b1, b1 = b1, b1 = b1, b1 = b1, b1 = b1, b1 = b1, b1 = b1, b1 = b1, b1 = b1]) [⟨[.at 5, .at 5, .at 5, .at 5, .at 5, .at 5, .at 5, .at 5, .at 5, .at 5], none, none, none, none⟩] [0, 1, 2, 7] [0, 1, 2, 3, 4, 5] (fun _ _ => by kernel_rfl) ⟨rfl, rfl, rfl, rfl, rfl, rfl, rfl, rfl, rfl, rfl, trivial⟩ ?_
   refine TriL.nil (by kernel_rfl) (TriQ.np (TriQ.next (Tri.seq (Tri.seq (Tri.region ?_)))))
   refine TriL.segK (k' := 3) (fr' := [(0, .pointer (some ⟨lst, 0, none⟩)), (1, .pointer (some ⟨(blkOf A), offOf A + k * 10, none⟩)), (2, .string p), (7, .pointer (some ⟨b1, 0, none⟩)), (60, .bool true)]) (obl := [(Value.bool ((⟨#[]⟩ : ByteArray).toList == (⟨#[]⟩ : ByteArray).toList)) = (.bool true), b1 = b1]) [o_, ⟨[.at 5], none, none, none, none⟩, ⟨[], none, none, none, some (.bool true)⟩] [0, 1, 2, 7, 60] (fun _ _ => by kernel_rfl) ⟨by simp, rfl, trivial⟩ ?_
   refine TriL.nil (by kernel_rfl) (TriQ.next ?_)
   refine Tri.condT (fun _ => by kernel_rfl) ?_
   refine Tri.seq ?_
   refine Tri.regionStill 10 (by kernel_rfl) (by kernel_rfl) ?_
   refine TriLS.seg (k' := 10) (fr' := [(0, .pointer (some ⟨lst, 0, none⟩)), (1, .pointer (some ⟨(blkOf A), offOf A + k * 10, none⟩)), (2, .string p), (7, .pointer (some ⟨b1, 0, none⟩)), (64, .map (some mp)), (68, .int .i64 ((nd ns k).id)), (70, .agg #[.string p])]) (obl := [(Rd β ⟨(blkOf A), offOf A + k * 10, none⟩ (.int .i64 ((nd ns k).id))), lst = lst]) [o_, o_, o_, ⟨[.at 0], none, none, none, none⟩, o_, o_, o_, ⟨[.old (.int .i64 ((nd ns k).id))], none, none, none, none⟩, o_, o_] [0, 1, 2, 7, 64, 68, 70] (fun _ _ => by kernel_rfl) ⟨GraphAt.rd hG (i := k) (by omega) (j := 0) rfl, rfl, trivial⟩ (by decide) ?_
   refine TriLS.done rfl ?_
   refine TriL.mapSet 2 (d := none) (t := 82) (K := 3) (E := 115) (b := mp) (n := s.cnt) (f := (mf (fpath ns s.fst))) (x := (.tmp 64)) (ix := (.tmp 68)) (y := (.tmp 70)) (key := .int .i64 ((nd ns k).id)) (u := .agg #[.string p]) (kl := (.int .i64 (nd ns k).id)) (n' := (push ns k p s).cnt) (f' := (mf (fpath ns (push ns k p s).fst))) (fun _ => by kernel_rfl) (by kernel_rfl) (fun _ => by kernel_rfl) (fun _ => by kernel_rfl) (fun _ => by kernel_rfl) lawI Try.underlying82 (by unfold maxLen; omega) (keyI (hB.node k hk).ids.1.1 (hB.node k hk).ids.1.2) (push_cnt_new hok.rise hk hfk) (fpath_upd hok.rise hk hfk hp) ?_
   refine TriL.nil (by kernel_rfl) (TriQ.next (Tri.seq (Tri.region ?_)))
   refine TriL.segK (k' := 4) (fr' := [(0, .pointer (some ⟨lst, 0, none⟩)), (1, .pointer (some ⟨(blkOf A), offOf A + k * 10, none⟩)), (2, .string p), (7, .pointer (some ⟨b1, 0, none⟩)), (74, .slice (L.dA k) ((nd ns k).data.length) ((L.dC k)))]) (obl := [(Rd β ⟨(blkOf A), offOf A + k * 10 + 7, none⟩ (.slice (L.dA k) ((nd ns k).data.length) ((L.dC k))))]) [o_, o_, o_, ⟨[.old (.slice (L.dA k) ((nd ns k).data.length) ((L.dC k)))], none, none, none, none⟩] [0, 1, 2, 7, 74] (fun _ _ => by kernel_rfl) ⟨GraphAt.rd hG (i := k) (by omega) (j := 7) rfl, trivial⟩ ?_
   refine TriL.callB (f := 50) (args := #[.slice (L.dA k) ((nd ns k).data.length) ((L.dC k))]) (d := (some 75)) (pre := []) (R := [.blk lst [.map (some mb), .slice Ao (s.out.length) (co), .map (some mp), .int .i64 ↑(s.sum + ((p : ByteArray).size))] 84, .abs (MapA Try.prog 3 mb (mf (bf A ns ns.length)) ns.length), .abs (MapA Try.prog 3 mp (mf (fpath ns (push ns k p s).fst)) ((push ns k p s).cnt)), .abs (RowA 51 10 Ao s.out.length co (linesV M s.out)), .abs R, .blk b1 (lvT (nd ns k) p none (0) 0 (⟨#[]⟩) ⟨#[]⟩) 51]) (pk := [0, 1, 2, 3, 4, 5]) (fun _ => by kernel_rfl) (sp_clone (L.dA k) (L.dC k) (nd ns k).data (hG.data k hk) (hB.hd k hk).1) rfl (by kernel_rfl) ?_
   rintro βc _ _ hle_βc ⟨dB, dcB, rfl, rfl, hdB⟩
   replace hG := hG.le hle_βc
   replace hLI := hLI.le hle_βc
   replace hle0 := hle0.trans hle_βc
   refine TriL.seg (k' := 7) (fr' := [(0, .pointer (some ⟨lst, 0, none⟩)), (1, .pointer (some ⟨(blkOf A), offOf A + k * 10, none⟩)), (2, .string p), (7, .pointer (some ⟨b1, 0, none⟩))]) (hps' := [.blk lst [.map (some mb), .slice Ao (s.out.length) (co), .map (some mp), .int .i64 ↑(s.sum + ((p : ByteArray).size))] 84, .abs (MapA Try.prog 3 mb (mf (bf A ns ns.length)) ns.length), .abs (MapA Try.prog 3 mp (mf (fpath ns (push ns k p s).fst)) ((push ns k p s).cnt)), .abs (RowA 51 10 Ao s.out.length co (linesV M s.out)), .abs R, .blk b1 (lvT (nd ns k) p dB ((nd ns k).data.length) dcB (⟨#[]⟩) ⟨#[]⟩) 51]) (obl := [b1 = b1]) [o_, ⟨[.at 5], none, none, none, none⟩] [0, 1, 2, 7] [0, 1, 2, 3, 4, 5] (fun _ _ => by kernel_rfl) ⟨rfl, trivial⟩ ?_
   refine TriL.nil (by kernel_rfl) (TriQ.next (Tri.region ?_))
   refine TriL.seg (k' := 6) (fr' := [(0, .pointer (some ⟨lst, 0, none⟩)), (1, .pointer (some ⟨(blkOf A), offOf A + k * 10, none⟩)), (2, .string p), (7, .pointer (some ⟨b1, 0, none⟩))]) (hps' := [.blk lst [.map (some mb), .slice Ao (s.out.length) (co), .map (some mp), .int .i64 ↑(s.sum + ((p : ByteArray).size))] 84, .abs (MapA Try.prog 3 mb (mf (bf A ns ns.length)) ns.length), .abs (MapA Try.prog 3 mp (mf (fpath ns (push ns k p s).fst)) ((push ns k p s).cnt)), .abs (RowA 51 10 Ao s.out.length co (linesV M s.out)), .abs R, .blk b1 (lvT (nd ns k) p dB ((nd ns k).data.length) dcB ((nd ns k).target) ⟨#[]⟩) 51]) (obl := [b1 = b1, (Rd βc ⟨(blkOf A), offOf A + k * 10 + 8, none⟩ (.string (nd ns k).target))]) [o_, o_, o_, ⟨[.old (.string (nd ns k).target)], none, none, none, none⟩, o_, ⟨[.at 5], none, none, none, none⟩] [0, 1, 2, 7] [0, 1, 2, 3, 4, 5] (fun _ _ => by kernel_rfl) ⟨rfl, GraphAt.rd hG (i := k) (by omega) (j := 8) rfl, trivial⟩ ?_
   refine TriL.nil (by kernel_rfl) (TriQ.next (Tri.seq (Tri.region ?_)))
   refine TriL.segK (k' := 7) (fr' := [(0, .pointer (some ⟨lst, 0, none⟩)), (1, .pointer (some ⟨(blkOf A), offOf A + k * 10, none⟩)), (2, .string p), (7, .pointer (some ⟨b1, 0, none⟩)), (8, .bool (decide ((((s.out.length : Nat) : Int) : Int) = (0 : Int))))]) (obl := [lst = lst]) [o_, o_, o_, ⟨[.at 0], none, none, none, none⟩, o_, o_, o_] [0, 1, 2, 7, 8] (fun _ _ => by kernel_rfl) ⟨rfl, trivial⟩ ?_
   refine TriL.nil (by kernel_rfl) (TriQ.next (Tri.seq ?_))
   refine Tri.regionMix (S := [.blk lst [.map (some mb), .slice Ao (s.out.length) (co), .map (some mp), .int .i64 ↑(s.sum + ((p : ByteArray).size))] 84, .blk b1 (lvT (nd ns k) p dB ((nd ns k).data.length) dcB ((nd ns k).target) ⟨#[]⟩) 51]) [0, 1, 2, 3, 4, 5, 6, 7, 8, 9, 10] 6 [0, 5] (by kernel_rfl) (by kernel_rfl) rfl (by kernel_rfl) ?_
   refine TriM.reads (r := 0) (l := [6, 7, 8, 9, 10]) (fr' := [(0, .pointer (some ⟨lst, 0, none⟩)), (1, .pointer (some ⟨(blkOf A), offOf A + k * 10, none⟩)), (2, .string p), (8, .bool (decide ((((s.out.length : Nat) : Int) : Int) = (0 : Int)))), (88, .pointer (some ⟨lst, 0, none⟩)), (92, .slice Ao (s.out.length) (co)), (93, .agg #[.string p, .int .i64 ((nd ns k).kind), .int .i64 ((nd ns k).mode), .int .i64 ((nd ns k).uid), .int .i64 ((nd ns k).gid), .int .i64 ((nd ns k).sec), .int .i64 ((nd ns k).nano), .slice dB ((nd ns k).data.length) (dcB), .string (nd ns k).target, .string ⟨#[]⟩])]) (obl := [b1 = b1, b1 = b1, b1 = b1, b1 = b1, b1 = b1, b1 = b1, b1 = b1, b1 = b1, b1 = b1, b1 = b1, lst = lst]) [0, 1, 2, 3, 4, 5] [o_, o_, o_, o_, ⟨[.at 0], none, none, none, none⟩, ⟨[.at 1, .at 1, .at 1, .at 1, .at 1, .at 1, .at 1, .at 1, .at 1, .at 1], none, none, none, none⟩] [0, 1, 2, 8, 88, 92, 93] (fun _ => by kernel_rfl) ⟨rfl, rfl, rfl, rfl, rfl, rfl, rfl, rfl, rfl, rfl, rfl, trivial⟩ rfl rfl ?_
   refine TriM.cut (ι := Nat) (fr' := fun (b2 : Nat) => [(0, .pointer (some ⟨lst, 0, none⟩)), (1, .pointer (some ⟨(blkOf A), offOf A + k * 10, none⟩)), (2, .string p), (8, .bool (decide ((((s.out.length : Nat) : Int) : Int) = (0 : Int)))), (88, .pointer (some ⟨lst, 0, none⟩)), (92, .slice Ao (s.out.length) (co)), (94, .slice (some ⟨b2, 0, none⟩) (1) (1))]) (hp' := fun (b2 : Nat) => [.blk lst [.map (some mb), .slice Ao (s.out.length) (co), .map (some mp), .int .i64 ↑(s.sum + ((p : ByteArray).size))] 84, .abs (MapA Try.prog 3 mb (mf (bf A ns ns.length)) ns.length), .abs (MapA Try.prog 3 mp (mf (fpath ns (push ns k p s).fst)) ((push ns k p s).cnt)), .abs (RowA 51 10 Ao s.out.length co (linesV M s.out)), .abs R, .blk b1 (lvT (nd ns k) p dB ((nd ns k).data.length) dcB ((nd ns k).target) ⟨#[]⟩) 51, .blk b2 (lvT (nd ns k) p dB ((nd ns k).data.length) dcB ((nd ns k).target) ⟨#[]⟩) 51]) [0, 5] rfl rfl ?_ rfl (fun _ => by kernel_rfl) ?_
   ·
    refine TriL.segN (k' := 1) (fr' := fun b2 => [(0, .pointer (some ⟨lst, 0, none⟩)), (1, .pointer (some ⟨(blkOf A), offOf A + k * 10, none⟩)), (2, .string p), (8, .bool (decide ((((s.out.length : Nat) : Int) : Int) = (0 : Int)))), (88, .pointer (some ⟨lst, 0, none⟩)), (92, .slice Ao (s.out.length) (co)), (94, .slice (some ⟨b2, 0, none⟩) (1) (1))]) (hps' := fun b2 => [.blk lst [.map (some mb), .slice Ao (s.out.length) (co), .map (some mp), .int .i64 ↑(s.sum + ((p : ByteArray).size))] 84, .abs (MapA Try.prog 3 mb (mf (bf A ns ns.length)) ns.length), .abs (MapA Try.prog 3 mp (mf (fpath ns (push ns k p s).fst)) ((push ns k p s).cnt)), .abs (RowA 51 10 Ao s.out.length co (linesV M s.out)), .abs R, .blk b1 (lvT (nd ns k) p dB ((nd ns k).data.length) dcB ((nd ns k).target) ⟨#[]⟩) 51, .blk b2 (lvT (nd ns k) p dB ((nd ns k).data.length) dcB ((nd ns k).target) ⟨#[]⟩) 51]) (obl := fun b2 => []) [o_] [0, 1, 2, 8, 88, 92, 94] [0, 1, 2, 3, 4, 5, 6] (fun _ _ => by kernel_rfl) (fun b2 => trivial) (fun b2 => ?_)
    refine TriL.nil (by kernel_rfl) ?_
    exact TriQ.mid b2 (idx := [0, 1, 2, 8, 88, 92, 94]) (pk := [0, 1, 2, 3, 4, 5, 6]) (fun _ => by kernel_rfl) rfl (by kernel_rfl)
   rintro b2
   refine TriM.cut (ι := (Option Addr) × Nat) (fr' := fun ((A3, c4) : (Option Addr) × Nat) => [(0, .pointer (some ⟨lst, 0, none⟩)), (1, .pointer (some ⟨(blkOf A), offOf A + k * 10, none⟩)), (2, .string p), (8, .bool (decide ((((s.out.length : Nat) : Int) : Int) = (0 : Int)))), (88, .pointer (some ⟨lst, 0, none⟩)), (95, .slice A3 ((push ns k p s).out.length) (c4))]) (hp' := fun ((A3, c4) : (Option Addr) × Nat) => [.blk lst [.map (some mb), .slice Ao (s.out.length) (co), .map (some mp), .int .i64 ↑(s.sum + ((p : ByteArray).size))] 84, .abs (MapA Try.prog 3 mb (mf (bf A ns ns.length)) ns.length), .abs (MapA Try.prog 3 mp (mf (fpath ns (push ns k p s).fst)) ((push ns k p s).cnt)), .abs (RowA 51 10 A3 ((push ns k p s).out.length) c4 (linesV (M.put s.out.length dB dcB) (push ns k p s).out)), .abs R, .blk b1 (lvT (nd ns k) p dB ((nd ns k).data.length) dcB ((nd ns k).target) ⟨#[]⟩) 51, .blk b2 (lvT (nd ns k) p dB ((nd ns k).data.length) dcB ((nd ns k).target) ⟨#[]⟩) 51]) [0, 5] rfl rfl ?_ rfl (fun _ => by kernel_rfl) ?_
   ·
    refine TriL.append 3 (d := (some 95)) (t := 46) (e := 51) (z := .agg #[.string ⟨#[]⟩, .int .i64 0, .int .i64 0, .int .i64 0, .int .i64 0, .int .i64 0, .int .i64 0, .slice none (0) (0), .string ⟨#[]⟩, .string ⟨#[]⟩]) (size := 10) (bytes := 120) (n := s.out.length) (cap := co) (A := Ao) (xs := (linesV M s.out)) (s := (.tmp 92)) (x := (.tmp 94)) (ats := #[46, 46]) (A' := some ⟨b2, 0, none⟩) (m := 1) (c' := 1) (news := (lvT (nd ns k) p dB ((nd ns k).data.length) dcB ((nd ns k).target) ⟨#[]⟩)) (fun _ => by kernel_rfl) rfl (by kernel_rfl) (fun _ => by kernel_rfl) (fun _ => by kernel_rfl) Try.underlying46 (by kernel_rfl) rfl (by decide) (rfl) (by simp [lvT, Value.oneCell']) (src_blk (j := 6) rfl) (by unfold maxLen; omega) (by omega) (fun A3 c4 => ?_)
    refine TriL.partEq 3 (p := .abs (RowA 51 10 A3 (s.out.length + 1) c4 ((linesV M s.out) ++ (lvT (nd ns k) p dB ((nd ns k).data.length) dcB ((nd ns k).target) ⟨#[]⟩)))) (p' := .abs (RowA 51 10 A3 ((push ns k p s).out.length) c4 (linesV (M.put s.out.length dB dcB) (push ns k p s).out))) (by kernel_rfl) (by rw [push_len, push_out, ← linesV_snoc, line_new _ _ hfk]; rfl) ?_
    refine TriL.slot 95 (.slice A3 (s.out.length + 1) (c4)) (.slice A3 ((push ns k p s).out.length) (c4)) (fun _ => by kernel_rfl) (by rw [push_len]) ?_
    refine TriL.nil (by kernel_rfl) ?_
    exact TriQ.mid (A3, c4) (idx := [0, 1, 2, 8, 88, 95]) (pk := [0, 1, 2, 3, 4, 5, 6]) (fun _ => by kernel_rfl) rfl (by kernel_rfl)
   rintro ⟨A3, c4⟩
   refine TriM.cut (ι := Unit) (fr' := fun (_ : Unit) => [(0, .pointer (some ⟨lst, 0, none⟩)), (1, .pointer (some ⟨(blkOf A), offOf A + k * 10, none⟩)), (2, .string p), (8, .bool (decide ((((s.out.length : Nat) : Int) : Int) = (0 : Int)))), (95, .slice A3 ((push ns k p s).out.length) (c4)), (96, .pointer (some ⟨lst, 0, none⟩))]) (hp' := fun (_ : Unit) => [.blk lst [.map (some mb), .slice Ao (s.out.length) (co), .map (some mp), .int .i64 ↑(s.sum + ((p : ByteArray).size))] 84, .abs (MapA Try.prog 3 mb (mf (bf A ns ns.length)) ns.length), .abs (MapA Try.prog 3 mp (mf (fpath ns (push ns k p s).fst)) ((push ns k p s).cnt)), .abs (RowA 51 10 A3 ((push ns k p s).out.length) c4 (linesV (M.put s.out.length dB dcB) (push ns k p s).out)), .abs R, .blk b1 (lvT (nd ns k) p dB ((nd ns k).data.length) dcB ((nd ns k).target) ⟨#[]⟩) 51, .blk b2 (lvT (nd ns k) p dB ((nd ns k).data.length) dcB ((nd ns k).target) ⟨#[]⟩) 51]) [0, 5] rfl rfl ?_ rfl (fun _ => by kernel_rfl) ?_
   ·
    refine TriL.segK (k' := 1) (fr' := [(0, .pointer (some ⟨lst, 0, none⟩)), (1, .pointer (some ⟨(blkOf A), offOf A + k * 10, none⟩)), (2, .string p), (8, .bool (decide ((((s.out.length : Nat) : Int) : Int) = (0 : Int)))), (95, .slice A3 ((push ns k p s).out.length) (c4)), (96, .pointer (some ⟨lst, 0, none⟩))]) (obl := []) [o_] [0, 1, 2, 8, 95, 96] (fun _ _ => by kernel_rfl) trivial ?_
    refine TriL.nil (by kernel_rfl) ?_
    exact TriQ.mid () (idx := [0, 1, 2, 8, 95, 96]) (pk := [0, 1, 2, 3, 4, 5, 6]) (fun _ => by kernel_rfl) rfl (by kernel_rfl)
   rintro _
   refine TriM.cut (ι := Unit) (fr' := fun (_ : Unit) => [(0, .pointer (some ⟨lst, 0, none⟩)), (1, .pointer (some ⟨(blkOf A), offOf A + k * 10, none⟩)), (2, .string p), (8, .bool (decide ((((s.out.length : Nat) : Int) : Int) = (0 : Int)))), (95, .slice A3 ((push ns k p s).out.length) (c4)), (97, .pointer (some ⟨lst, 1, none⟩))]) (hp' := fun (_ : Unit) => [.blk lst [.map (some mb), .slice Ao (s.out.length) (co), .map (some mp), .int .i64 ↑(s.sum + ((p : ByteArray).size))] 84, .abs (MapA Try.prog 3 mb (mf (bf A ns ns.length)) ns.length), .abs (MapA Try.prog 3 mp (mf (fpath ns (push ns k p s).fst)) ((push ns k p s).cnt)), .abs (RowA 51 10 A3 ((push ns k p s).out.length) c4 (linesV (M.put s.out.length dB dcB) (push ns k p s).out)), .abs R, .blk b1 (lvT (nd ns k) p dB ((nd ns k).data.length) dcB ((nd ns k).target) ⟨#[]⟩) 51, .blk b2 (lvT (nd ns k) p dB ((nd ns k).data.length) dcB ((nd ns k).target) ⟨#[]⟩) 51]) [0, 5] rfl rfl ?_ rfl (fun _ => by kernel_rfl) ?_
   ·
    refine TriL.segK (k' := 1) (fr' := [(0, .pointer (some ⟨lst, 0, none⟩)), (1, .pointer (some ⟨(blkOf A), offOf A + k * 10, none⟩)), (2, .string p), (8, .bool (decide ((((s.out.length : Nat) : Int) : Int) = (0 : Int)))), (95, .slice A3 ((push ns k p s).out.length) (c4)), (97, .pointer (some ⟨lst, 1, none⟩))]) (obl := []) [o_] [0, 1, 2, 8, 95, 97] (fun _ _ => by kernel_rfl) trivial ?_
    refine TriL.nil (by kernel_rfl) ?_
    exact TriQ.mid () (idx := [0, 1, 2, 8, 95, 97]) (pk := [0, 1, 2, 3, 4, 5, 6]) (fun _ => by kernel_rfl) rfl (by kernel_rfl)
   rintro _
   refine TriM.last rfl rfl ?_
   refine TriL.seg (k' := 1) (fr' := [(0, .pointer (some ⟨lst, 0, none⟩)), (1, .pointer (some ⟨(blkOf A), offOf A + k * 10, none⟩)), (2, .string p), (8, .bool (decide ((((s.out.length : Nat) : Int) : Int) = (0 : Int))))]) (hps' := [.blk lst [.map (some mb), .slice A3 ((push ns k p s).out.length) (c4), .map (some mp), .int .i64 ↑(s.sum + ((p : ByteArray).size))] 84, .abs (MapA Try.prog 3 mb (mf (bf A ns ns.length)) ns.length), .abs (MapA Try.prog 3 mp (mf (fpath ns (push ns k p s).fst)) ((push ns k p s).cnt)), .abs (RowA 51 10 A3 ((push ns k p s).out.length) c4 (linesV (M.put s.out.length dB dcB) (push ns k p s).out)), .abs R, .blk b1 (lvT (nd ns k) p dB ((nd ns k).data.length) dcB ((nd ns k).target) ⟨#[]⟩) 51, .blk b2 (lvT (nd ns k) p dB ((nd ns k).data.length) dcB ((nd ns k).target) ⟨#[]⟩) 51]) (obl := [lst = lst]) [⟨[.at 0], none, none, none, none⟩] [0, 1, 2, 8] [0, 1, 2, 3, 4, 5, 6] (fun _ _ => by kernel_rfl) ⟨rfl, trivial⟩ ?_
   refine TriL.nil (by kernel_rfl) (TriQ.np (TriQ.next (Tri.seq (Tri.seq (Tri.region ?_)))))
   refine TriL.partEq 0 (p := .blk lst [.map (some mb), .slice A3 ((push ns k p s).out.length) (c4), .map (some mp), .int .i64 ↑(s.sum + ((p : ByteArray).size))] 84) (p' := .blk lst [.map (some mb), .slice A3 ((push ns k p s).out.length) (c4), .map (some mp), .int .i64 ↑((push ns k p s).sum)] 84) (by kernel_rfl) (by rw [push_sum]) ?_
   refine TriL.segK (k' := 6) (fr' := [(0, .pointer (some ⟨lst, 0, none⟩)), (2, .string p), (8, .bool (decide ((((s.out.length : Nat) : Int) : Int) = (0 : Int)))), (101, .slice (L.eA k) ((nd ns k).ents.length) ((L.eC k))), (102, .int .i64 ↑((nd ns k).ents.length)), (103, .int .i64 0)]) (obl := [(Rd βc ⟨(blkOf A), offOf A + k * 10 + 9, none⟩ (.slice (L.eA k) ((nd ns k).ents.length) ((L.eC k))))]) [o_, o_, o_, ⟨[.old (.slice (L.eA k) ((nd ns k).ents.length) ((L.eC k)))], none, none, none, none⟩, o_, o_] [0, 2, 8, 101, 102, 103] (fun _ _ => by kernel_rfl) ⟨GraphAt.rd hG (i := k) (by omega) (j := 9) rfl, trivial⟩ ?_
   refine TriL.nil (by kernel_rfl) (TriQ.next (Tri.block ?_))
   refine Tri.loopB (ι := Nat × Bs × TS × (Option Addr) × Nat × LayL) (fun ((j, b, s2, Ao2, co2, M2) : Nat × Bs × TS × (Option Addr) × Nat × LayL) => b) (fun ((j, b, s2, Ao2, co2, M2) : Nat × Bs × TS × (Option Addr) × Nat × LayL) => (j ≤ (nd ns k).ents.length) ∧ (β.le b) ∧ (GraphAt b A ns L) ∧ (LinesIn b s2.out M2) ∧ (Behind (push ns k p s) s2) ∧ (foldE (fun e s' => addF ns f (tgt ns e.id) (below s.out.length p e.name) s') (nd ns k).ents (push ns k p s) = foldE (fun e s' => addF ns f (tgt ns e.id) (below s.out.length p e.name) s') ((nd ns k).ents.drop j) s2)) (fun ((j, b, s2, Ao2, co2, M2) : Nat × Bs × TS × (Option Addr) × Nat × LayL) => (nd ns k).ents.length - j) (fun ((j, b, s2, Ao2, co2, M2) : Nat × Bs × TS × (Option Addr) × Nat × LayL) => [(0, .pointer (some ⟨lst, 0, none⟩)), (2, .string p), (8, .bool (decide ((((s.out.length : Nat) : Int) : Int) = (0 : Int)))), (101, .slice (L.eA k) ((nd ns k).ents.length) ((L.eC k))), (102, .int .i64 ↑((nd ns k).ents.length)), (103, .int .i64 ↑j)]) (fun ((j, b, s2, Ao2, co2, M2) : Nat × Bs × TS × (Option Addr) × Nat × LayL) => [.blk lst [.map (some mb), .slice Ao2 (s2.out.length) (co2), .map (some mp), .int .i64 ↑s2.sum] 84, .abs (MapA Try.prog 3 mb (mf (bf A ns ns.length)) ns.length), .abs (MapA Try.prog 3 mp (mf (fpath ns s2.fst)) s2.cnt), .abs (RowA 51 10 Ao2 s2.out.length co2 (linesV M2 s2.out)), .abs R]) (0, βc, (push ns k p s), A3, c4, (M.put s.out.length dB dcB)) rfl (idx := [0, 2, 8, 101, 102, 103]) (pk := [0, 1, 2, 3, 4]) (show (0 ≤ (nd ns k).ents.length) ∧ (β.le βc) ∧ (GraphAt βc A ns L) ∧ (LinesIn βc ((push ns k p s)).out ((M.put s.out.length dB dcB))) ∧ (Behind (push ns k p s) ((push ns k p s))) ∧ (foldE (fun e s' => addF ns f (tgt ns e.id) (below s.out.length p e.name) s') (nd ns k).ents (push ns k p s) = foldE (fun e s' => addF ns f (tgt ns e.id) (below s.out.length p e.name) s') ((nd ns k).ents.drop 0) ((push ns k p s))) from ⟨Nat.zero_le _, hle0, hG, by rw [push_out]; exact LinesIn.snoc hLI (by rw [line_new _ _ hfk]; exact hdB), ⟨hs.push hp (by omega), Nat.le_refl _, Nat.le_refl _⟩, rfl⟩) (fun _ => by kernel_rfl) rfl (by kernel_rfl) ?_
   rintro ⟨j, b, s2, Ao2, co2, M2⟩ ⟨hj, hle0, hG, hLI, hbh, hfold⟩
   show Tri _ b _ _ [(0, .pointer (some ⟨lst, 0, none⟩)), (2, .string p), (8, .bool (decide ((((s.out.length : Nat) : Int) : Int) = (0 : Int)))), (101, .slice (L.eA k) ((nd ns k).ents.length) ((L.eC k))), (102, .int .i64 ↑((nd ns k).ents.length)), (103, .int .i64 ↑j)] [.blk lst [.map (some mb), .slice Ao2 (s2.out.length) (co2), .map (some mp), .int .i64 ↑s2.sum] 84, .abs (MapA Try.prog 3 mb (mf (bf A ns ns.length)) ns.length), .abs (MapA Try.prog 3 mp (mf (fpath ns s2.fst)) s2.cnt), .abs (RowA 51 10 Ao2 s2.out.length co2 (linesV M2 s2.out)), .abs R] _
   have hd3 := hB.hd k hk
   have hnl := hok.named k hk
   refine Tri.seq (Tri.region ?_)
   refine TriL.segK (k' := 1) (fr' := [(0, .pointer (some ⟨lst, 0, none⟩)), (2, .string p), (8, .bool (decide ((((s.out.length : Nat) : Int) : Int) = (0 : Int)))), (101, .slice (L.eA k) ((nd ns k).ents.length) ((L.eC k))), (102, .int .i64 ↑((nd ns k).ents.length)), (103, .int .i64 ↑j), (104, .bool (decide ((((j : Nat) : Int) : Int) < ((((nd ns k).ents.length : Nat) : Int) : Int))))]) (obl := []) [o_] [0, 2, 8, 101, 102, 103, 104] (fun _ _ => by kernel_rfl) trivial ?_
   refine TriL.nil (by kernel_rfl) (TriQ.next (Tri.seq ?_))
   refine Tri.condP (p := (((j : Nat) : Int) : Int) < ((((nd ns k).ents.length : Nat) : Int) : Int)) (fun _ => by kernel_rfl) (fun h104 => ?_) (fun h104 => ?_)
   ·
    refine Tri.skip (TriQ.next (Tri.seq (Tri.block (Tri.seq (Tri.region ?_)))))
    refine TriL.segN (k' := 4) (fr' := fun b5 => [(0, .pointer (some ⟨lst, 0, none⟩)), (2, .string p), (8, .bool (decide ((((s.out.length : Nat) : Int) : Int) = (0 : Int)))), (10, .pointer (some ⟨b5, 0, none⟩)), (101, .slice (L.eA k) ((nd ns k).ents.length) ((L.eC k))), (102, .int .i64 ↑((nd ns k).ents.length)), (103, .int .i64 ↑j)]) (hps' := fun b5 => [.blk lst [.map (some mb), .slice Ao2 (s2.out.length) (co2), .map (some mp), .int .i64 ↑s2.sum] 84, .abs (MapA Try.prog 3 mb (mf (bf A ns ns.length)) ns.length), .abs (MapA Try.prog 3 mp (mf (fpath ns s2.fst)) s2.cnt), .abs (RowA 51 10 Ao2 s2.out.length co2 (linesV M2 s2.out)), .abs R, .blk b5 [.string (en (nd ns k).ents j).name, .int .i64 ((en (nd ns k).ents j).id)] 72]) (obl := fun b5 => [b5 = b5, b5 = b5, (Rd b ⟨(blkOf (L.eA k)), offOf (L.eA k) + j * 2 + 1, none⟩ (.int .i64 ((en (nd ns k).ents j).id))), (Rd b ⟨(blkOf (L.eA k)), offOf (L.eA k) + j * 2, none⟩ (.string (en (nd ns k).ents j).name)), ((j : Nat) : Int) = ((j : Nat) : Int), j < (nd ns k).ents.length, (⟨(blkOf (L.eA k)), offOf (L.eA k), none⟩ : Addr).spot = none, ((L.eA k) : Option Addr) = some ⟨(blkOf (L.eA k)), offOf (L.eA k), none⟩]) [⟨[], some j, none, some ⟨(blkOf (L.eA k)), offOf (L.eA k), none⟩, none⟩, ⟨[.old (.string (en (nd ns k).ents j).name), .old (.int .i64 ((en (nd ns k).ents j).id))], none, none, none, none⟩, o_, ⟨[.at 5, .at 5], none, none, none, none⟩] [0, 2, 8, 10, 101, 102, 103] [0, 1, 2, 3, 4, 5] (fun _ _ => by kernel_rfl) (fun b5 => ⟨rfl, rfl, EntsAt.rd (hG.ents k (by omega)) (i := j) (by omega) (j := 1) rfl, EntsAt.rd (hG.ents k (by omega)) (i := j) (by omega) (j := 0) rfl, rfl, by omega, rfl, EntsAt.hd (hG.ents k (by omega)) (i := j) (by omega), trivial⟩) (fun b5 => ?_)
    refine TriL.nil (by kernel_rfl) (TriQ.next (Tri.seq (Tri.region ?_)))
    refine TriL.segK (k' := 3) (fr' := [(0, .pointer (some ⟨lst, 0, none⟩)), (2, .string p), (8, .bool (decide ((((s.out.length : Nat) : Int) : Int) = (0 : Int)))), (10, .pointer (some ⟨b5, 0, none⟩)), (11, .string (en (nd ns k).ents j).name), (101, .slice (L.eA k) ((nd ns k).ents.length) ((L.eC k))), (102, .int .i64 ↑((nd ns k).ents.length)), (103, .int .i64 ↑j)]) (obl := [b5 = b5]) [o_, ⟨[.at 5], none, none, none, none⟩, o_] [0, 2, 8, 10, 11, 101, 102, 103] (fun _ _ => by kernel_rfl) ⟨rfl, trivial⟩ ?_
    refine TriL.nil (by kernel_rfl) (TriQ.next (Tri.seq (Tri.seq (Tri.region ?_))))
    refine TriL.segK (k' := 2) (fr' := [(0, .pointer (some ⟨lst, 0, none⟩)), (2, .string p), (8, .bool (decide ((((s.out.length : Nat) : Int) : Int) = (0 : Int)))), (10, .pointer (some ⟨b5, 0, none⟩)), (11, .string (en (nd ns k).ents j).name), (101, .slice (L.eA k) ((nd ns k).ents.length) ((L.eC k))), (102, .int .i64 ↑((nd ns k).ents.length)), (103, .int .i64 ↑j), (110, .bool (!(decide ((((s.out.length : Nat) : Int) : Int) = (0 : Int)))))]) (obl := []) [o_, o_] [0, 2, 8, 10, 11, 101, 102, 103, 110] (fun _ _ => by kernel_rfl) trivial ?_
    refine TriL.nil (by kernel_rfl) (TriQ.next ?_)
    refine Tri.condN (p := (((s.out.length : Nat) : Int) : Int) = (0 : Int)) (fun _ => by kernel_rfl) (fun h110 => ?_) (fun h110 => ?_)
    ·
     have hbel : below s.out.length p (en (nd ns k).ents j).name = p ++ ⟨#[47]⟩ ++ (en (nd ns k).ents j).name := if_neg (by omega)
     refine Tri.region ?_
     refine TriL.segK (k' := 1) (fr' := [(0, .pointer (some ⟨lst, 0, none⟩)), (2, .string p), (8, .bool (decide ((((s.out.length : Nat) : Int) : Int) = (0 : Int)))), (10, .pointer (some ⟨b5, 0, none⟩)), (101, .slice (L.eA k) ((nd ns k).ents.length) ((L.eC k))), (102, .int .i64 ↑((nd ns k).ents.length)), (103, .int .i64 ↑j), (111, .string p)]) (obl := []) [o_] [0, 2, 8, 10, 101, 102, 103, 111] (fun _ _ => by kernel_rfl) trivial ?_
     refine TriL.strAdd (d := (some 112)) (t := 9) (t2 := 9) (x := (.tmp 111)) (y := (.const (.string ⟨#[47]⟩))) (a := p) (b := ⟨#[47]⟩) (fun _ => by kernel_rfl) (fun _ => by kernel_rfl) (fun _ => by kernel_rfl) (by have h47 : (⟨#[47]⟩ : ByteArray).size = 1 := rfl; omega) ?_
     refine TriL.segK (k' := 4) (fr' := [(0, .pointer (some ⟨lst, 0, none⟩)), (2, .string p), (8, .bool (decide ((((s.out.length : Nat) : Int) : Int) = (0 : Int)))), (10, .pointer (some ⟨b5, 0, none⟩)), (101, .slice (L.eA k) ((nd ns k).ents.length) ((L.eC k))), (102, .int .i64 ↑((nd ns k).ents.length)), (103, .int .i64 ↑j), (112, .string (p ++ ⟨#[47]⟩)), (114, .string (en (nd ns k).ents j).name)]) (obl := [b5 = b5]) [o_, ⟨[.at 5], none, none, none, none⟩] [0, 2, 8, 10, 101, 102, 103, 112, 114] (fun _ _ => by kernel_rfl) ⟨rfl, trivial⟩ ?_
     refine TriL.strAdd (d := (some 115)) (t := 9) (t2 := 9) (x := (.tmp 112)) (y := (.tmp 114)) (a := (p ++ ⟨#[47]⟩)) (b := (en (nd ns k).ents j).name) (fun _ => by kernel_rfl) (fun _ => by kernel_rfl) (fun _ => by kernel_rfl) (by have h47 : (⟨#[47]⟩ : ByteArray).size = 1 := rfl; have hnz : (en (nd ns k).ents j).name.size ≤ 255 := (hnl j (by omega)).2.1; rw [ByteArray.size_append]; omega) ?_
     refine TriL.segK (k' := 6) (fr' := [(0, .pointer (some ⟨lst, 0, none⟩)), (2, .string p), (8, .bool (decide ((((s.out.length : Nat) : Int) : Int) = (0 : Int)))), (10, .pointer (some ⟨b5, 0, none⟩)), (11, .string ((p ++ ⟨#[47]⟩) ++ (en (nd ns k).ents j).name)), (101, .slice (L.eA k) ((nd ns k).ents.length) ((L.eC k))), (102, .int .i64 ↑((nd ns k).ents.length)), (103, .int .i64 ↑j)]) (obl := []) [o_] [0, 2, 8, 10, 11, 101, 102, 103] (fun _ _ => by kernel_rfl) trivial ?_
     refine TriL.nil (by kernel_rfl) (TriQ.next (Tri.seq ?_))
     refine Tri.regionStill 9 (by kernel_rfl) (by kernel_rfl) ?_
     refine TriLS.seg (k' := 7) (fr' := [(0, .pointer (some ⟨lst, 0, none⟩)), (2, .string p), (8, .bool (decide ((((s.out.length : Nat) : Int) : Int) = (0 : Int)))), (11, .string ((p ++ ⟨#[47]⟩) ++ (en (nd ns k).ents j).name)), (101, .slice (L.eA k) ((nd ns k).ents.length) ((L.eC k))), (102, .int .i64 ↑((nd ns k).ents.length)), (103, .int .i64 ↑j), (116, .pointer (some ⟨lst, 0, none⟩)), (120, .map (some mb)), (122, .int .i64 ((en (nd ns k).ents j).id))]) (obl := [b5 = b5, lst = lst]) [o_, o_, o_, o_, ⟨[.at 0], none, none, none, none⟩, o_, ⟨[.at 5], none, none, none, none⟩] [0, 2, 8, 11, 101, 102, 103, 116, 120, 122] (fun _ _ => by kernel_rfl) ⟨rfl, rfl, trivial⟩ (by decide) ?_
     have hat := (hok.ents k hk j (by omega)).at_
     have htl := atI_lt hat
     have hnm := hok.named k hk j (by omega)
     refine TriLS.mapLook 1 (d := (some 123)) (t := 66) (K := 3) (E := 75) (b := mb) (cnt := ns.length) (f := (mf (bf A ns ns.length))) (x := (.tmp 120)) (ix := (.tmp 122)) (key := .int .i64 ((en (nd ns k).ents j).id)) (z := .pointer none) (kl := (.int .i64 (en (nd ns k).ents j).id)) (r := (some (.pointer (some ⟨(blkOf A), offOf A + (tgt ns (en (nd ns k).ents j).id) * 10, none⟩)))) (fun _ => by kernel_rfl) (by kernel_rfl) (fun _ => by kernel_rfl) (fun _ => by kernel_rfl) lawI Try.underlying66 (fun _ => by kernel_rfl) (keyI (hB.hwf k hk j (by omega)).1 (hB.hwf k hk j (by omega)).2) (bf_at hat htl.1) (by decide) ?_
     refine TriLS.seg (k' := 9) (fr' := [(0, .pointer (some ⟨lst, 0, none⟩)), (2, .string p), (8, .bool (decide ((((s.out.length : Nat) : Int) : Int) = (0 : Int)))), (101, .slice (L.eA k) ((nd ns k).ents.length) ((L.eC k))), (102, .int .i64 ↑((nd ns k).ents.length)), (103, .int .i64 ↑j), (116, .pointer (some ⟨lst, 0, none⟩)), (123, .pointer (some ⟨(blkOf A), offOf A + (tgt ns (en (nd ns k).ents j).id) * 10, none⟩)), (124, .string ((p ++ ⟨#[47]⟩) ++ (en (nd ns k).ents j).name))]) (obl := []) [o_] [0, 2, 8, 101, 102, 103, 116, 123, 124] (fun _ _ => by kernel_rfl) trivial (by decide) ?_
     refine TriLS.done rfl ?_
     have hq0 : (tgt ns (en (nd ns k).ents j).id) < ns.length := htl.1
     have hq1 : 1 ≤ (((p ++ ⟨#[47]⟩) ++ (en (nd ns k).ents j).name) : ByteArray).size := by rw [← hbel]; exact below_size hnm.1
     have hq2 : (((p ++ ⟨#[47]⟩) ++ (en (nd ns k).ents j).name) : ByteArray).size ≤ 8388608 := by rw [← hbel]; exact below_le (by omega) hnm.2.1
     have hq3 : 4194304 - s2.sum < f := by have := hbh.sum; rw [push_sum] at this; omega
     have hcall7 := IH _ A ns L M2 s2 (tgt ns (en (nd ns k).ents j).id) ((p ++ ⟨#[47]⟩) ++ (en (nd ns k).ents j).name) lst mb mp Ao2 co2 hG hB hok hLI hq0 hq1 hq2 hbh.ok hq3
     refine TriL.callB (d := (some 125)) (R := [.abs R, .blk b5 [.string (en (nd ns k).ents j).name, .int .i64 ((en (nd ns k).ents j).id)] 72]) (pk := [0, 1, 2, 3, 4, 5]) (fun _ => by kernel_rfl) hcall7 rfl (by kernel_rfl) ?_
     rintro β6 _ _ hle_β6 (⟨s3, Ao3, co3, M3, hadd, rfl, hLI3, rfl⟩ | ⟨hadd, rfl, rfl⟩)
     ·
      replace hG := hG.le hle_β6
      replace hLI := hLI.le hle_β6
      replace hle0 := hle0.trans hle_β6
      refine TriL.segK (k' := 11) (fr' := [(0, .pointer (some ⟨lst, 0, none⟩)), (2, .string p), (8, .bool (decide ((((s.out.length : Nat) : Int) : Int) = (0 : Int)))), (101, .slice (L.eA k) ((nd ns k).ents.length) ((L.eC k))), (102, .int .i64 ↑((nd ns k).ents.length)), (103, .int .i64 ↑j), (126, .bool false)]) (obl := []) [o_] [0, 2, 8, 101, 102, 103, 126] (fun _ _ => by kernel_rfl) trivial ?_
      refine TriL.nil (by kernel_rfl) (TriQ.next ?_)
      refine Tri.condF (fun _ => by kernel_rfl) ?_
      refine Tri.skip (TriQ.blockNormal (TriQ.next (Tri.region ?_)))
      refine TriL.segK (k' := 2) (fr' := [(0, .pointer (some ⟨lst, 0, none⟩)), (2, .string p), (8, .bool (decide ((((s.out.length : Nat) : Int) : Int) = (0 : Int)))), (101, .slice (L.eA k) ((nd ns k).ents.length) ((L.eC k))), (102, .int .i64 ↑((nd ns k).ents.length)), (103, .int .i64 ↑(j + 1))]) (obl := [(Value.int .i64 (IntKind.wrap .i64 (((j : Nat) : Int) + 1))) = (.int .i64 ↑(j + 1))]) [⟨[], none, none, none, some (.int .i64 ↑(j + 1))⟩, o_] [0, 2, 8, 101, 102, 103] (fun _ _ => by kernel_rfl) ⟨wrapEq (by omega) (by omega) (by omega), trivial⟩ ?_
      refine TriL.nil (by kernel_rfl) ?_
      exact TriQ.turnB ((j + 1), β6, s3, Ao3, co3, M3) (hb := rfl) (idx := [0, 2, 8, 101, 102, 103]) (pk := [0, 1, 2, 3, 4]) (show (((j + 1)) ≤ (nd ns k).ents.length) ∧ (β.le β6) ∧ (GraphAt β6 A ns L) ∧ (LinesIn β6 s3.out M3) ∧ (Behind (push ns k p s) s3) ∧ (foldE (fun e s' => addF ns f (tgt ns e.id) (below s.out.length p e.name) s') (nd ns k).ents (push ns k p s) = foldE (fun e s' => addF ns f (tgt ns e.id) (below s.out.length p e.name) s') ((nd ns k).ents.drop ((j + 1))) s3) from ⟨by omega, hle0, hG, hLI3, Behind.trans hbh (addF_behind hok.named f _ _ _ _ htl.1 (by rw [← hbel]; exact below_size hnm.1) hbh.ok hadd).1, by rw [hfold, foldE_drop (by omega), hbel, hadd]; rfl⟩) (by show (nd ns k).ents.length - ((j + 1)) < (nd ns k).ents.length - j; omega) (fun _ => by kernel_rfl) rfl (by kernel_rfl)
     ·
      replace hG := hG.le hle_β6
      replace hLI := hLI.le hle_β6
      replace hle0 := hle0.trans hle_β6
      refine TriL.segK (k' := 11) (fr' := [(0, .pointer (some ⟨lst, 0, none⟩)), (2, .string p), (8, .bool (decide ((((s.out.length : Nat) : Int) : Int) = (0 : Int)))), (101, .slice (L.eA k) ((nd ns k).ents.length) ((L.eC k))), (102, .int .i64 ↑((nd ns k).ents.length)), (103, .int .i64 ↑j), (126, .bool true)]) (obl := []) [o_] [0, 2, 8, 101, 102, 103, 126] (fun _ _ => by kernel_rfl) trivial ?_
      refine TriL.nil (by kernel_rfl) (TriQ.next ?_)
      refine Tri.condT (fun _ => by kernel_rfl) ?_
      refine Tri.seq (Tri.region ?_)
      refine TriL.segK (k' := 1) (fr' := [(6, .bool false)]) (obl := []) [o_] [6] (fun _ _ => by kernel_rfl) trivial ?_
      refine TriL.nil (by kernel_rfl) (TriQ.next (Tri.ret (TriQ.blockRet (TriQ.passRet (TriQ.passRet (TriQ.blockRet (TriQ.passRet ?_)))))))
      exact TriQ.retB (v := .bool false) (l := []) (obl := []) [] [0] hle0 (fun _ => by kernel_rfl) trivial rfl (by kernel_rfl) (.inr ⟨by rw [hst, hfold, foldE_drop (by omega), hbel, hadd]; rfl, rfl, rfl⟩)
    ·
     have hbel : below s.out.length p (en (nd ns k).ents j).name = (en (nd ns k).ents j).name := if_pos (by omega)
     refine Tri.skip (TriQ.next (Tri.seq ?_))
     refine Tri.regionStill 9 (by kernel_rfl) (by kernel_rfl) ?_
     refine TriLS.seg (k' := 7) (fr' := [(0, .pointer (some ⟨lst, 0, none⟩)), (2, .string p), (8, .bool (decide ((((s.out.length : Nat) : Int) : Int) = (0 : Int)))), (11, .string (en (nd ns k).ents j).name), (101, .slice (L.eA k) ((nd ns k).ents.length) ((L.eC k))), (102, .int .i64 ↑((nd ns k).ents.length)), (103, .int .i64 ↑j), (116, .pointer (some ⟨lst, 0, none⟩)), (120, .map (some mb)), (122, .int .i64 ((en (nd ns k).ents j).id))]) (obl := [b5 = b5, lst = lst]) [o_, o_, o_, o_, ⟨[.at 0], none, none, none, none⟩, o_, ⟨[.at 5], none, none, none, none⟩] [0, 2, 8, 11, 101, 102, 103, 116, 120, 122] (fun _ _ => by kernel_rfl) ⟨rfl, rfl, trivial⟩ (by decide) ?_
     have hat := (hok.ents k hk j (by omega)).at_
     have htl := atI_lt hat
     have hnm := hok.named k hk j (by omega)
     refine TriLS.mapLook 1 (d := (some 123)) (t := 66) (K := 3) (E := 75) (b := mb) (cnt := ns.length) (f := (mf (bf A ns ns.length))) (x := (.tmp 120)) (ix := (.tmp 122)) (key := .int .i64 ((en (nd ns k).ents j).id)) (z := .pointer none) (kl := (.int .i64 (en (nd ns k).ents j).id)) (r := (some (.pointer (some ⟨(blkOf A), offOf A + (tgt ns (en (nd ns k).ents j).id) * 10, none⟩)))) (fun _ => by kernel_rfl) (by kernel_rfl) (fun _ => by kernel_rfl) (fun _ => by kernel_rfl) lawI Try.underlying66 (fun _ => by kernel_rfl) (keyI (hB.hwf k hk j (by omega)).1 (hB.hwf k hk j (by omega)).2) (bf_at hat htl.1) (by decide) ?_
     refine TriLS.seg (k' := 9) (fr' := [(0, .pointer (some ⟨lst, 0, none⟩)), (2, .string p), (8, .bool (decide ((((s.out.length : Nat) : Int) : Int) = (0 : Int)))), (101, .slice (L.eA k) ((nd ns k).ents.length) ((L.eC k))), (102, .int .i64 ↑((nd ns k).ents.length)), (103, .int .i64 ↑j), (116, .pointer (some ⟨lst, 0, none⟩)), (123, .pointer (some ⟨(blkOf A), offOf A + (tgt ns (en (nd ns k).ents j).id) * 10, none⟩)), (124, .string (en (nd ns k).ents j).name)]) (obl := []) [o_] [0, 2, 8, 101, 102, 103, 116, 123, 124] (fun _ _ => by kernel_rfl) trivial (by decide) ?_
     refine TriLS.done rfl ?_
     have hq0 : (tgt ns (en (nd ns k).ents j).id) < ns.length := htl.1
     have hq1 : 1 ≤ ((en (nd ns k).ents j).name : ByteArray).size := by rw [← hbel]; exact below_size hnm.1
     have hq2 : ((en (nd ns k).ents j).name : ByteArray).size ≤ 8388608 := by rw [← hbel]; exact below_le (by omega) hnm.2.1
     have hq3 : 4194304 - s2.sum < f := by have := hbh.sum; rw [push_sum] at this; omega
     have hcall9 := IH _ A ns L M2 s2 (tgt ns (en (nd ns k).ents j).id) (en (nd ns k).ents j).name lst mb mp Ao2 co2 hG hB hok hLI hq0 hq1 hq2 hbh.ok hq3
     refine TriL.callB (d := (some 125)) (R := [.abs R, .blk b5 [.string (en (nd ns k).ents j).name, .int .i64 ((en (nd ns k).ents j).id)] 72]) (pk := [0, 1, 2, 3, 4, 5]) (fun _ => by kernel_rfl) hcall9 rfl (by kernel_rfl) ?_
     rintro β8 _ _ hle_β8 (⟨s3, Ao3, co3, M3, hadd, rfl, hLI3, rfl⟩ | ⟨hadd, rfl, rfl⟩)
     ·
      replace hG := hG.le hle_β8
      replace hLI := hLI.le hle_β8
      replace hle0 := hle0.trans hle_β8
      refine TriL.segK (k' := 11) (fr' := [(0, .pointer (some ⟨lst, 0, none⟩)), (2, .string p), (8, .bool (decide ((((s.out.length : Nat) : Int) : Int) = (0 : Int)))), (101, .slice (L.eA k) ((nd ns k).ents.length) ((L.eC k))), (102, .int .i64 ↑((nd ns k).ents.length)), (103, .int .i64 ↑j), (126, .bool false)]) (obl := []) [o_] [0, 2, 8, 101, 102, 103, 126] (fun _ _ => by kernel_rfl) trivial ?_
      refine TriL.nil (by kernel_rfl) (TriQ.next ?_)
      refine Tri.condF (fun _ => by kernel_rfl) ?_
      refine Tri.skip (TriQ.blockNormal (TriQ.next (Tri.region ?_)))
      refine TriL.segK (k' := 2) (fr' := [(0, .pointer (some ⟨lst, 0, none⟩)), (2, .string p), (8, .bool (decide ((((s.out.length : Nat) : Int) : Int) = (0 : Int)))), (101, .slice (L.eA k) ((nd ns k).ents.length) ((L.eC k))), (102, .int .i64 ↑((nd ns k).ents.length)), (103, .int .i64 ↑(j + 1))]) (obl := [(Value.int .i64 (IntKind.wrap .i64 (((j : Nat) : Int) + 1))) = (.int .i64 ↑(j + 1))]) [⟨[], none, none, none, some (.int .i64 ↑(j + 1))⟩, o_] [0, 2, 8, 101, 102, 103] (fun _ _ => by kernel_rfl) ⟨wrapEq (by omega) (by omega) (by omega), trivial⟩ ?_
      refine TriL.nil (by kernel_rfl) ?_
      exact TriQ.turnB ((j + 1), β8, s3, Ao3, co3, M3) (hb := rfl) (idx := [0, 2, 8, 101, 102, 103]) (pk := [0, 1, 2, 3, 4]) (show (((j + 1)) ≤ (nd ns k).ents.length) ∧ (β.le β8) ∧ (GraphAt β8 A ns L) ∧ (LinesIn β8 s3.out M3) ∧ (Behind (push ns k p s) s3) ∧ (foldE (fun e s' => addF ns f (tgt ns e.id) (below s.out.length p e.name) s') (nd ns k).ents (push ns k p s) = foldE (fun e s' => addF ns f (tgt ns e.id) (below s.out.length p e.name) s') ((nd ns k).ents.drop ((j + 1))) s3) from ⟨by omega, hle0, hG, hLI3, Behind.trans hbh (addF_behind hok.named f _ _ _ _ htl.1 (by rw [← hbel]; exact below_size hnm.1) hbh.ok hadd).1, by rw [hfold, foldE_drop (by omega), hbel, hadd]; rfl⟩) (by show (nd ns k).ents.length - ((j + 1)) < (nd ns k).ents.length - j; omega) (fun _ => by kernel_rfl) rfl (by kernel_rfl)
     ·
      replace hG := hG.le hle_β8
      replace hLI := hLI.le hle_β8
      replace hle0 := hle0.trans hle_β8
      refine TriL.segK (k' := 11) (fr' := [(0, .pointer (some ⟨lst, 0, none⟩)), (2, .string p), (8, .bool (decide ((((s.out.length : Nat) : Int) : Int) = (0 : Int)))), (101, .slice (L.eA k) ((nd ns k).ents.length) ((L.eC k))), (102, .int .i64 ↑((nd ns k).ents.length)), (103, .int .i64 ↑j), (126, .bool true)]) (obl := []) [o_] [0, 2, 8, 101, 102, 103, 126] (fun _ _ => by kernel_rfl) trivial ?_
      refine TriL.nil (by kernel_rfl) (TriQ.next ?_)
      refine Tri.condT (fun _ => by kernel_rfl) ?_
      refine Tri.seq (Tri.region ?_)
      refine TriL.segK (k' := 1) (fr' := [(6, .bool false)]) (obl := []) [o_] [6] (fun _ _ => by kernel_rfl) trivial ?_
      refine TriL.nil (by kernel_rfl) (TriQ.next (Tri.ret (TriQ.blockRet (TriQ.passRet (TriQ.passRet (TriQ.blockRet (TriQ.passRet ?_)))))))
      exact TriQ.retB (v := .bool false) (l := []) (obl := []) [] [0] hle0 (fun _ => by kernel_rfl) trivial rfl (by kernel_rfl) (.inr ⟨by rw [hst, hfold, foldE_drop (by omega), hbel, hadd]; rfl, rfl, rfl⟩)
   ·
    refine Tri.exit (TriQ.passExit (TriQ.passExit (TriQ.blockHit (TriQ.next (Tri.seq (Tri.region ?_))))))
    refine TriL.segK (k' := 1) (fr' := [(6, .bool true)]) (obl := []) [o_] [6] (fun _ _ => by kernel_rfl) trivial ?_
    refine TriL.nil (by kernel_rfl) (TriQ.next (Tri.ret ?_))
    exact TriQ.retB (v := .bool true) (l := [.blk lst [.map (some mb), .slice Ao2 (s2.out.length) (co2), .map (some mp), .int .i64 ↑s2.sum] 84, .abs (MapA Try.prog 3 mb (mf (bf A ns ns.length)) ns.length), .abs (MapA Try.prog 3 mp (mf (fpath ns s2.fst)) s2.cnt), .abs (RowA 51 10 Ao2 s2.out.length co2 (linesV M2 s2.out))]) (obl := []) [] [0, 1, 2, 3, 4] hle0 (fun _ => by kernel_rfl) trivial rfl (by kernel_rfl) (.inl ⟨s2, Ao2, co2, M2, by rw [hst, hfold, foldE_end (by omega)], rfl, hLI, rfl⟩)
  ·
   refine Tri.regionMix (S := [.blk lst [.map (some mb), .slice Ao (s.out.length) (co), .map (some mp), .int .i64 ↑(s.sum + ((p : ByteArray).size))] 84, .abs (MapA Try.prog 3 mb (mf (bf A ns ns.length)) ns.length), .abs (MapA Try.prog 3 mp (mf (fpath ns s.fst)) s.cnt)]) [0, 1, 2, 3, 4, 5, 6, 7, 8, 9, 10, 11, 12, 13, 14, 15, 16, 17, 18, 19, 20, 21, 22, 23, 24, 25, 26, 27, 28, 29, 30, 31, 32, 33] 32 [0, 1, 2] (by kernel_rfl) (by kernel_rfl) rfl (by kernel_rfl) ?_
   refine TriM.reads (r := 3) (l := [29, 30, 31, 32, 33]) (fr' := [(0, .pointer (some ⟨lst, 0, none⟩)), (1, .pointer (some ⟨(blkOf A), offOf A + k * 10, none⟩)), (2, .string p), (26, .string p), (30, .int .i64 ((nd ns k).kind)), (34, .int .i64 ((nd ns k).mode)), (38, .int .i64 ((nd ns k).uid)), (42, .int .i64 ((nd ns k).gid)), (46, .agg #[.int .i64 ((nd ns k).sec), .int .i64 ((nd ns k).nano)]), (50, .map (some mp)), (54, .int .i64 ((nd ns k).id))]) (obl := [(Rd β ⟨(blkOf A), offOf A + k * 10, none⟩ (.int .i64 ((nd ns k).id))), lst = lst, (Rd β ⟨(blkOf A), offOf A + k * 10 + 5 + 1, none⟩ (.int .i64 ((nd ns k).nano))), (Rd β ⟨(blkOf A), offOf A + k * 10 + 5, none⟩ (.int .i64 ((nd ns k).sec))), (Rd β ⟨(blkOf A), offOf A + k * 10 + 4, none⟩ (.int .i64 ((nd ns k).gid))), (Rd β ⟨(blkOf A), offOf A + k * 10 + 3, none⟩ (.int .i64 ((nd ns k).uid))), (Rd β ⟨(blkOf A), offOf A + k * 10 + 2, none⟩ (.int .i64 ((nd ns k).mode))), (Rd β ⟨(blkOf A), offOf A + k * 10 + 1, none⟩ (.int .i64 ((nd ns k).kind)))]) [0, 1, 2, 3, 4, 5, 6, 7, 8, 9, 10, 11, 12, 13, 14, 15, 16, 17, 18, 19, 20, 21, 22, 23, 24, 25, 26, 27, 28] [o_, o_, o_, o_, ⟨[.old (.int .i64 ((nd ns k).kind))], none, none, none, none⟩, o_, o_, o_, ⟨[.old (.int .i64 ((nd ns k).mode))], none, none, none, none⟩, o_, o_, o_, ⟨[.old (.int .i64 ((nd ns k).uid))], none, none, none, none⟩, o_, o_, o_, ⟨[.old (.int .i64 ((nd ns k).gid))], none, none, none, none⟩, o_, o_, o_, ⟨[.old (.int .i64 ((nd ns k).sec)), .old (.int .i64 ((nd ns k).nano))], none, none, none, none⟩, o_, o_, o_, ⟨[.at 0], none, none, none, none⟩, o_, o_, o_, ⟨[.old (.int .i64 ((nd ns k).id))], none, none, none, none⟩] [0, 1, 2, 26, 30, 34, 38, 42, 46, 50, 54] (fun _ => by kernel_rfl) ⟨GraphAt.rd hG (i := k) (by omega) (j := 0) rfl, rfl, GraphAt.rd hG (i := k) (by omega) (j := 6) rfl, GraphAt.rd hG (i := k) (by omega) (j := 5) rfl, GraphAt.rd hG (i := k) (by omega) (j := 4) rfl, GraphAt.rd hG (i := k) (by omega) (j := 3) rfl, GraphAt.rd hG (i := k) (by omega) (j := 2) rfl, GraphAt.rd hG (i := k) (by omega) (j := 1) rfl, trivial⟩ rfl rfl ?_
   refine TriM.mapLook 2 (d := (some 55)) (t := 82) (K := 3) (E := 115) (b := mp) (cnt := s.cnt) (f := (mf (fpath ns s.fst))) (x := (.tmp 50)) (ix := (.tmp 54)) (key := .int .i64 ((nd ns k).id)) (z := .agg #[.string ⟨#[]⟩]) (kl := (.int .i64 (nd ns k).id)) (q := (some (.agg #[.string (s.fst k)]))) (by kernel_rfl) (by kernel_rfl) (fun _ => by kernel_rfl) (fun _ => by kernel_rfl) lawI Try.underlying82 (fun _ => by kernel_rfl) (keyI (hB.node k hk).ids.1.1 (hB.node k hk).ids.1.2) (fpath_at hok.rise hk hfk) (by kernel_rfl) ?_
   refine TriM.reads (r := 0) (l := [32, 33]) (fr' := [(0, .pointer (some ⟨lst, 0, none⟩)), (1, .pointer (some ⟨(blkOf A), offOf A + k * 10, none⟩)), (2, .string p), (57, .agg #[.string p, .int .i64 ((nd ns k).kind), .int .i64 ((nd ns k).mode), .int .i64 ((nd ns k).uid), .int .i64 ((nd ns k).gid), .int .i64 ((nd ns k).sec), .int .i64 ((nd ns k).nano), .slice none (0) (0), .string ⟨#[]⟩, .string (s.fst k)])]) (obl := []) [30, 31] [o_, o_] [0, 1, 2, 57] (fun _ => by kernel_rfl) trivial rfl rfl ?_
   refine TriM.cut (ι := Nat) (fr' := fun (b10 : Nat) => [(0, .pointer (some ⟨lst, 0, none⟩)), (1, .pointer (some ⟨(blkOf A), offOf A + k * 10, none⟩)), (2, .string p), (7, .pointer (some ⟨b10, 0, none⟩)), (57, .agg #[.string p, .int .i64 ((nd ns k).kind), .int .i64 ((nd ns k).mode), .int .i64 ((nd ns k).uid), .int .i64 ((nd ns k).gid), .int .i64 ((nd ns k).sec), .int .i64 ((nd ns k).nano), .slice none (0) (0), .string ⟨#[]⟩, .string (s.fst k)])]) (hp' := fun (b10 : Nat) => [.blk lst [.map (some mb), .slice Ao (s.out.length) (co), .map (some mp), .int .i64 ↑(s.sum + ((p : ByteArray).size))] 84, .abs (MapA Try.prog 3 mb (mf (bf A ns ns.length)) ns.length), .abs (MapA Try.prog 3 mp (mf (fpath ns s.fst)) s.cnt), .abs (RowA 51 10 Ao s.out.length co (linesV M s.out)), .abs R, .blk b10 [.string ⟨#[]⟩, .int .i64 0, .int .i64 0, .int .i64 0, .int .i64 0, .int .i64 0, .int .i64 0, .slice none (0) (0), .string ⟨#[]⟩, .string ⟨#[]⟩] 51]) [0, 1, 2] rfl rfl ?_ rfl (fun _ => by kernel_rfl) ?_
   ·
    refine TriL.segN (k' := 1) (fr' := fun b10 => [(0, .pointer (some ⟨lst, 0, none⟩)), (1, .pointer (some ⟨(blkOf A), offOf A + k * 10, none⟩)), (2, .string p), (7, .pointer (some ⟨b10, 0, none⟩)), (57, .agg #[.string p, .int .i64 ((nd ns k).kind), .int .i64 ((nd ns k).mode), .int .i64 ((nd ns k).uid), .int .i64 ((nd ns k).gid), .int .i64 ((nd ns k).sec), .int .i64 ((nd ns k).nano), .slice none (0) (0), .string ⟨#[]⟩, .string (s.fst k)])]) (hps' := fun b10 => [.blk lst [.map (some mb), .slice Ao (s.out.length) (co), .map (some mp), .int .i64 ↑(s.sum + ((p : ByteArray).size))] 84, .abs (MapA Try.prog 3 mb (mf (bf A ns ns.length)) ns.length), .abs (MapA Try.prog 3 mp (mf (fpath ns s.fst)) s.cnt), .abs (RowA 51 10 Ao s.out.length co (linesV M s.out)), .abs R, .blk b10 [.string ⟨#[]⟩, .int .i64 0, .int .i64 0, .int .i64 0, .int .i64 0, .int .i64 0, .int .i64 0, .slice none (0) (0), .string ⟨#[]⟩, .string ⟨#[]⟩] 51]) (obl := fun b10 => []) [o_] [0, 1, 2, 7, 57] [0, 1, 2, 3, 4, 5] (fun _ _ => by kernel_rfl) (fun b10 => trivial) (fun b10 => ?_)
    refine TriL.nil (by kernel_rfl) ?_
    exact TriQ.mid b10 (idx := [0, 1, 2, 7, 57]) (pk := [0, 1, 2, 3, 4, 5]) (fun _ => by kernel_rfl) rfl (by kernel_rfl)
   rintro b10
   refine TriM.last rfl rfl ?_
   refine TriL.seg (k' := 1) (fr' := [(0, .pointer (some ⟨lst, 0, none⟩)), (1, .pointer (some ⟨(blkOf A), offOf A + k * 10, none⟩)), (2, .string p), (7, .pointer (some ⟨b10, 0, none⟩))]) (hps' := [.blk lst [.map (some mb), .slice Ao (s.out.length) (co), .map (some mp), .int .i64 ↑(s.sum + ((p : ByteArray).size))] 84, .abs (MapA Try.prog 3 mb (mf (bf A ns ns.length)) ns.length), .abs (MapA Try.prog 3 mp (mf (fpath ns s.fst)) s.cnt), .abs (RowA 51 10 Ao s.out.length co (linesV M s.out)), .abs R, .blk b10 (lvT (nd ns k) p none (0) 0 (⟨#[]⟩) (s.fst k)) 51]) (obl := [b10 = b10, b10 = b10, b10 = b10, b10 = b10, b10 = b10, b10 = b10, b10 = b10, b10 = b10, b10 = b10, b10 = b10]) [⟨[.at 5, .at 5, .at 5, .at 5, .at 5, .at 5, .at 5, .at 5, .at 5, .at 5], none, none, none, none⟩] [0, 1, 2, 7] [0, 1, 2, 3, 4, 5] (fun _ _ => by kernel_rfl) ⟨rfl, rfl, rfl, rfl, rfl, rfl, rfl, rfl, rfl, rfl, trivial⟩ ?_
   refine TriL.nil (by kernel_rfl) (TriQ.np (TriQ.next (Tri.seq (Tri.seq (Tri.region ?_)))))
   refine TriL.segK (k' := 3) (fr' := [(0, .pointer (some ⟨lst, 0, none⟩)), (1, .pointer (some ⟨(blkOf A), offOf A + k * 10, none⟩)), (2, .string p), (7, .pointer (some ⟨b10, 0, none⟩)), (60, .bool (decide (((s.fst k) : ByteArray) = ⟨#[]⟩)))]) (obl := [(Value.bool (((s.fst k) : ByteArray).toList == (⟨#[]⟩ : ByteArray).toList)) = (.bool (decide (((s.fst k) : ByteArray) = ⟨#[]⟩))), b10 = b10]) [o_, ⟨[.at 5], none, none, none, none⟩, ⟨[], none, none, none, some (.bool (decide (((s.fst k) : ByteArray) = ⟨#[]⟩)))⟩] [0, 1, 2, 7, 60] (fun _ _ => by kernel_rfl) ⟨strEqV _ _, rfl, trivial⟩ ?_
   refine TriL.nil (by kernel_rfl) (TriQ.next ?_)
   refine Tri.condP (p := ((s.fst k) : ByteArray) = ⟨#[]⟩) (fun _ => by kernel_rfl) (fun h60 => ?_) (fun h60 => ?_)
   ·
    exact absurd h60 hfk
   ·
    refine Tri.skip (TriQ.next (Tri.seq (Tri.region ?_)))
    refine TriL.partEq 2 (p := .abs (MapA Try.prog 3 mp (mf (fpath ns s.fst)) s.cnt)) (p' := .abs (MapA Try.prog 3 mp (mf (fpath ns (push ns k p s).fst)) ((push ns k p s).cnt))) (by kernel_rfl) (by rw [(push_old hfk).1, (push_old hfk).2]) ?_
    refine TriL.segK (k' := 7) (fr' := [(0, .pointer (some ⟨lst, 0, none⟩)), (1, .pointer (some ⟨(blkOf A), offOf A + k * 10, none⟩)), (2, .string p), (7, .pointer (some ⟨b10, 0, none⟩)), (8, .bool (decide ((((s.out.length : Nat) : Int) : Int) = (0 : Int))))]) (obl := [lst = lst]) [o_, o_, o_, ⟨[.at 0], none, none, none, none⟩, o_, o_, o_] [0, 1, 2, 7, 8] (fun _ _ => by kernel_rfl) ⟨rfl, trivial⟩ ?_
    refine TriL.nil (by kernel_rfl) (TriQ.next (Tri.seq ?_))
    refine Tri.regionMix (S := [.blk lst [.map (some mb), .slice Ao (s.out.length) (co), .map (some mp), .int .i64 ↑(s.sum + ((p : ByteArray).size))] 84, .blk b10 (lvT (nd ns k) p none (0) 0 (⟨#[]⟩) (s.fst k)) 51]) [0, 1, 2, 3, 4, 5, 6, 7, 8, 9, 10] 6 [0, 5] (by kernel_rfl) (by kernel_rfl) rfl (by kernel_rfl) ?_
    refine TriM.reads (r := 0) (l := [6, 7, 8, 9, 10]) (fr' := [(0, .pointer (some ⟨lst, 0, none⟩)), (1, .pointer (some ⟨(blkOf A), offOf A + k * 10, none⟩)), (2, .string p), (8, .bool (decide ((((s.out.length : Nat) : Int) : Int) = (0 : Int)))), (88, .pointer (some ⟨lst, 0, none⟩)), (92, .slice Ao (s.out.length) (co)), (93, .agg #[.string p, .int .i64 ((nd ns k).kind), .int .i64 ((nd ns k).mode), .int .i64 ((nd ns k).uid), .int .i64 ((nd ns k).gid), .int .i64 ((nd ns k).sec), .int .i64 ((nd ns k).nano), .slice none (0) (0), .string ⟨#[]⟩, .string (s.fst k)])]) (obl := [b10 = b10, b10 = b10, b10 = b10, b10 = b10, b10 = b10, b10 = b10, b10 = b10, b10 = b10, b10 = b10, b10 = b10, lst = lst]) [0, 1, 2, 3, 4, 5] [o_, o_, o_, o_, ⟨[.at 0], none, none, none, none⟩, ⟨[.at 1, .at 1, .at 1, .at 1, .at 1, .at 1, .at 1, .at 1, .at 1, .at 1], none, none, none, none⟩] [0, 1, 2, 8, 88, 92, 93] (fun _ => by kernel_rfl) ⟨rfl, rfl, rfl, rfl, rfl, rfl, rfl, rfl, rfl, rfl, rfl, trivial⟩ rfl rfl ?_
    refine TriM.cut (ι := Nat) (fr' := fun (b11 : Nat) => [(0, .pointer (some ⟨lst, 0, none⟩)), (1, .pointer (some ⟨(blkOf A), offOf A + k * 10, none⟩)), (2, .string p), (8, .bool (decide ((((s.out.length : Nat) : Int) : Int) = (0 : Int)))), (88, .pointer (some ⟨lst, 0, none⟩)), (92, .slice Ao (s.out.length) (co)), (94, .slice (some ⟨b11, 0, none⟩) (1) (1))]) (hp' := fun (b11 : Nat) => [.blk lst [.map (some mb), .slice Ao (s.out.length) (co), .map (some mp), .int .i64 ↑(s.sum + ((p : ByteArray).size))] 84, .abs (MapA Try.prog 3 mb (mf (bf A ns ns.length)) ns.length), .abs (MapA Try.prog 3 mp (mf (fpath ns (push ns k p s).fst)) ((push ns k p s).cnt)), .abs (RowA 51 10 Ao s.out.length co (linesV M s.out)), .abs R, .blk b10 (lvT (nd ns k) p none (0) 0 (⟨#[]⟩) (s.fst k)) 51, .blk b11 (lvT (nd ns k) p none (0) 0 (⟨#[]⟩) (s.fst k)) 51]) [0, 5] rfl rfl ?_ rfl (fun _ => by kernel_rfl) ?_
    ·
     refine TriL.segN (k' := 1) (fr' := fun b11 => [(0, .pointer (some ⟨lst, 0, none⟩)), (1, .pointer (some ⟨(blkOf A), offOf A + k * 10, none⟩)), (2, .string p), (8, .bool (decide ((((s.out.length : Nat) : Int) : Int) = (0 : Int)))), (88, .pointer (some ⟨lst, 0, none⟩)), (92, .slice Ao (s.out.length) (co)), (94, .slice (some ⟨b11, 0, none⟩) (1) (1))]) (hps' := fun b11 => [.blk lst [.map (some mb), .slice Ao (s.out.length) (co), .map (some mp), .int .i64 ↑(s.sum + ((p : ByteArray).size))] 84, .abs (MapA Try.prog 3 mb (mf (bf A ns ns.length)) ns.length), .abs (MapA Try.prog 3 mp (mf (fpath ns (push ns k p s).fst)) ((push ns k p s).cnt)), .abs (RowA 51 10 Ao s.out.length co (linesV M s.out)), .abs R, .blk b10 (lvT (nd ns k) p none (0) 0 (⟨#[]⟩) (s.fst k)) 51, .blk b11 (lvT (nd ns k) p none (0) 0 (⟨#[]⟩) (s.fst k)) 51]) (obl := fun b11 => []) [o_] [0, 1, 2, 8, 88, 92, 94] [0, 1, 2, 3, 4, 5, 6] (fun _ _ => by kernel_rfl) (fun b11 => trivial) (fun b11 => ?_)
     refine TriL.nil (by kernel_rfl) ?_
     exact TriQ.mid b11 (idx := [0, 1, 2, 8, 88, 92, 94]) (pk := [0, 1, 2, 3, 4, 5, 6]) (fun _ => by kernel_rfl) rfl (by kernel_rfl)
    rintro b11
    refine TriM.cut (ι := (Option Addr) × Nat) (fr' := fun ((A12, c13) : (Option Addr) × Nat) => [(0, .pointer (some ⟨lst, 0, none⟩)), (1, .pointer (some ⟨(blkOf A), offOf A + k * 10, none⟩)), (2, .string p), (8, .bool (decide ((((s.out.length : Nat) : Int) : Int) = (0 : Int)))), (88, .pointer (some ⟨lst, 0, none⟩)), (95, .slice A12 ((push ns k p s).out.length) (c13))]) (hp' := fun ((A12, c13) : (Option Addr) × Nat) => [.blk lst [.map (some mb), .slice Ao (s.out.length) (co), .map (some mp), .int .i64 ↑(s.sum + ((p : ByteArray).size))] 84, .abs (MapA Try.prog 3 mb (mf (bf A ns ns.length)) ns.length), .abs (MapA Try.prog 3 mp (mf (fpath ns (push ns k p s).fst)) ((push ns k p s).cnt)), .abs (RowA 51 10 A12 ((push ns k p s).out.length) c13 (linesV (M.put s.out.length none 0) (push ns k p s).out)), .abs R, .blk b10 (lvT (nd ns k) p none (0) 0 (⟨#[]⟩) (s.fst k)) 51, .blk b11 (lvT (nd ns k) p none (0) 0 (⟨#[]⟩) (s.fst k)) 51]) [0, 5] rfl rfl ?_ rfl (fun _ => by kernel_rfl) ?_
    ·
     refine TriL.append 3 (d := (some 95)) (t := 46) (e := 51) (z := .agg #[.string ⟨#[]⟩, .int .i64 0, .int .i64 0, .int .i64 0, .int .i64 0, .int .i64 0, .int .i64 0, .slice none (0) (0), .string ⟨#[]⟩, .string ⟨#[]⟩]) (size := 10) (bytes := 120) (n := s.out.length) (cap := co) (A := Ao) (xs := (linesV M s.out)) (s := (.tmp 92)) (x := (.tmp 94)) (ats := #[46, 46]) (A' := some ⟨b11, 0, none⟩) (m := 1) (c' := 1) (news := (lvT (nd ns k) p none (0) 0 (⟨#[]⟩) (s.fst k))) (fun _ => by kernel_rfl) rfl (by kernel_rfl) (fun _ => by kernel_rfl) (fun _ => by kernel_rfl) Try.underlying46 (by kernel_rfl) rfl (by decide) (rfl) (by simp [lvT, Value.oneCell']) (src_blk (j := 6) rfl) (by unfold maxLen; omega) (by omega) (fun A12 c13 => ?_)
     refine TriL.partEq 3 (p := .abs (RowA 51 10 A12 (s.out.length + 1) c13 ((linesV M s.out) ++ (lvT (nd ns k) p none (0) 0 (⟨#[]⟩) (s.fst k))))) (p' := .abs (RowA 51 10 A12 ((push ns k p s).out.length) c13 (linesV (M.put s.out.length none 0) (push ns k p s).out))) (by kernel_rfl) (by rw [push_len, push_out, ← linesV_snoc, line_old _ _ hfk]; rfl) ?_
     refine TriL.slot 95 (.slice A12 (s.out.length + 1) (c13)) (.slice A12 ((push ns k p s).out.length) (c13)) (fun _ => by kernel_rfl) (by rw [push_len]) ?_
     refine TriL.nil (by kernel_rfl) ?_
     exact TriQ.mid (A12, c13) (idx := [0, 1, 2, 8, 88, 95]) (pk := [0, 1, 2, 3, 4, 5, 6]) (fun _ => by kernel_rfl) rfl (by kernel_rfl)
    rintro ⟨A12, c13⟩
    refine TriM.cut (ι := Unit) (fr' := fun (_ : Unit) => [(0, .pointer (some ⟨lst, 0, none⟩)), (1, .pointer (some ⟨(blkOf A), offOf A + k * 10, none⟩)), (2, .string p), (8, .bool (decide ((((s.out.length : Nat) : Int) : Int) = (0 : Int)))), (95, .slice A12 ((push ns k p s).out.length) (c13)), (96, .pointer (some ⟨lst, 0, none⟩))]) (hp' := fun (_ : Unit) => [.blk lst [.map (some mb), .slice Ao (s.out.length) (co), .map (some mp), .int .i64 ↑(s.sum + ((p : ByteArray).size))] 84, .abs (MapA Try.prog 3 mb (mf (bf A ns ns.length)) ns.length), .abs (MapA Try.prog 3 mp (mf (fpath ns (push ns k p s).fst)) ((push ns k p s).cnt)), .abs (RowA 51 10 A12 ((push ns k p s).out.length) c13 (linesV (M.put s.out.length none 0) (push ns k p s).out)), .abs R, .blk b10 (lvT (nd ns k) p none (0) 0 (⟨#[]⟩) (s.fst k)) 51, .blk b11 (lvT (nd ns k) p none (0) 0 (⟨#[]⟩) (s.fst k)) 51]) [0, 5] rfl rfl ?_ rfl (fun _ => by kernel_rfl) ?_
    ·
     refine TriL.segK (k' := 1) (fr' := [(0, .pointer (some ⟨lst, 0, none⟩)), (1, .pointer (some ⟨(blkOf A), offOf A + k * 10, none⟩)), (2, .string p), (8, .bool (decide ((((s.out.length : Nat) : Int) : Int) = (0 : Int)))), (95, .slice A12 ((push ns k p s).out.length) (c13)), (96, .pointer (some ⟨lst, 0, none⟩))]) (obl := []) [o_] [0, 1, 2, 8, 95, 96] (fun _ _ => by kernel_rfl) trivial ?_
     refine TriL.nil (by kernel_rfl) ?_
     exact TriQ.mid () (idx := [0, 1, 2, 8, 95, 96]) (pk := [0, 1, 2, 3, 4, 5, 6]) (fun _ => by kernel_rfl) rfl (by kernel_rfl)
    rintro _
    refine TriM.cut (ι := Unit) (fr' := fun (_ : Unit) => [(0, .pointer (some ⟨lst, 0, none⟩)), (1, .pointer (some ⟨(blkOf A), offOf A + k * 10, none⟩)), (2, .string p), (8, .bool (decide ((((s.out.length : Nat) : Int) : Int) = (0 : Int)))), (95, .slice A12 ((push ns k p s).out.length) (c13)), (97, .pointer (some ⟨lst, 1, none⟩))]) (hp' := fun (_ : Unit) => [.blk lst [.map (some mb), .slice Ao (s.out.length) (co), .map (some mp), .int .i64 ↑(s.sum + ((p : ByteArray).size))] 84, .abs (MapA Try.prog 3 mb (mf (bf A ns ns.length)) ns.length), .abs (MapA Try.prog 3 mp (mf (fpath ns (push ns k p s).fst)) ((push ns k p s).cnt)), .abs (RowA 51 10 A12 ((push ns k p s).out.length) c13 (linesV (M.put s.out.length none 0) (push ns k p s).out)), .abs R, .blk b10 (lvT (nd ns k) p none (0) 0 (⟨#[]⟩) (s.fst k)) 51, .blk b11 (lvT (nd ns k) p none (0) 0 (⟨#[]⟩) (s.fst k)) 51]) [0, 5] rfl rfl ?_ rfl (fun _ => by kernel_rfl) ?_
    ·
     refine TriL.segK (k' := 1) (fr' := [(0, .pointer (some ⟨lst, 0, none⟩)), (1, .pointer (some ⟨(blkOf A), offOf A + k * 10, none⟩)), (2, .string p), (8, .bool (decide ((((s.out.length : Nat) : Int) : Int) = (0 : Int)))), (95, .slice A12 ((push ns k p s).out.length) (c13)), (97, .pointer (some ⟨lst, 1, none⟩))]) (obl := []) [o_] [0, 1, 2, 8, 95, 97] (fun _ _ => by kernel_rfl) trivial ?_
     refine TriL.nil (by kernel_rfl) ?_
     exact TriQ.mid () (idx := [0, 1, 2, 8, 95, 97]) (pk := [0, 1, 2, 3, 4, 5, 6]) (fun _ => by kernel_rfl) rfl (by kernel_rfl)
    rintro _
    refine TriM.last rfl rfl ?_
    refine TriL.seg (k' := 1) (fr' := [(0, .pointer (some ⟨lst, 0, none⟩)), (1, .pointer (some ⟨(blkOf A), offOf A + k * 10, none⟩)), (2, .string p), (8, .bool (decide ((((s.out.length : Nat) : Int) : Int) = (0 : Int))))]) (hps' := [.blk lst [.map (some mb), .slice A12 ((push ns k p s).out.length) (c13), .map (some mp), .int .i64 ↑(s.sum + ((p : ByteArray).size))] 84, .abs (MapA Try.prog 3 mb (mf (bf A ns ns.length)) ns.length), .abs (MapA Try.prog 3 mp (mf (fpath ns (push ns k p s).fst)) ((push ns k p s).cnt)), .abs (RowA 51 10 A12 ((push ns k p s).out.length) c13 (linesV (M.put s.out.length none 0) (push ns k p s).out)), .abs R, .blk b10 (lvT (nd ns k) p none (0) 0 (⟨#[]⟩) (s.fst k)) 51, .blk b11 (lvT (nd ns k) p none (0) 0 (⟨#[]⟩) (s.fst k)) 51]) (obl := [lst = lst]) [⟨[.at 0], none, none, none, none⟩] [0, 1, 2, 8] [0, 1, 2, 3, 4, 5, 6] (fun _ _ => by kernel_rfl) ⟨rfl, trivial⟩ ?_
    refine TriL.nil (by kernel_rfl) (TriQ.np (TriQ.next (Tri.seq (Tri.seq (Tri.region ?_)))))
    refine TriL.partEq 0 (p := .blk lst [.map (some mb), .slice A12 ((push ns k p s).out.length) (c13), .map (some mp), .int .i64 ↑(s.sum + ((p : ByteArray).size))] 84) (p' := .blk lst [.map (some mb), .slice A12 ((push ns k p s).out.length) (c13), .map (some mp), .int .i64 ↑((push ns k p s).sum)] 84) (by kernel_rfl) (by rw [push_sum]) ?_
    refine TriL.segK (k' := 6) (fr' := [(0, .pointer (some ⟨lst, 0, none⟩)), (2, .string p), (8, .bool (decide ((((s.out.length : Nat) : Int) : Int) = (0 : Int)))), (101, .slice (L.eA k) ((nd ns k).ents.length) ((L.eC k))), (102, .int .i64 ↑((nd ns k).ents.length)), (103, .int .i64 0)]) (obl := [(Rd β ⟨(blkOf A), offOf A + k * 10 + 9, none⟩ (.slice (L.eA k) ((nd ns k).ents.length) ((L.eC k))))]) [o_, o_, o_, ⟨[.old (.slice (L.eA k) ((nd ns k).ents.length) ((L.eC k)))], none, none, none, none⟩, o_, o_] [0, 2, 8, 101, 102, 103] (fun _ _ => by kernel_rfl) ⟨GraphAt.rd hG (i := k) (by omega) (j := 9) rfl, trivial⟩ ?_
    refine TriL.nil (by kernel_rfl) (TriQ.next (Tri.block ?_))
    refine Tri.loopB (ι := Nat × Bs × TS × (Option Addr) × Nat × LayL) (fun ((j, b, s2, Ao2, co2, M2) : Nat × Bs × TS × (Option Addr) × Nat × LayL) => b) (fun ((j, b, s2, Ao2, co2, M2) : Nat × Bs × TS × (Option Addr) × Nat × LayL) => (j ≤ (nd ns k).ents.length) ∧ (β.le b) ∧ (GraphAt b A ns L) ∧ (LinesIn b s2.out M2) ∧ (Behind (push ns k p s) s2) ∧ (foldE (fun e s' => addF ns f (tgt ns e.id) (below s.out.length p e.name) s') (nd ns k).ents (push ns k p s) = foldE (fun e s' => addF ns f (tgt ns e.id) (below s.out.length p e.name) s') ((nd ns k).ents.drop j) s2)) (fun ((j, b, s2, Ao2, co2, M2) : Nat × Bs × TS × (Option Addr) × Nat × LayL) => (nd ns k).ents.length - j) (fun ((j, b, s2, Ao2, co2, M2) : Nat × Bs × TS × (Option Addr) × Nat × LayL) => [(0, .pointer (some ⟨lst, 0, none⟩)), (2, .string p), (8, .bool (decide ((((s.out.length : Nat) : Int) : Int) = (0 : Int)))), (101, .slice (L.eA k) ((nd ns k).ents.length) ((L.eC k))), (102, .int .i64 ↑((nd ns k).ents.length)), (103, .int .i64 ↑j)]) (fun ((j, b, s2, Ao2, co2, M2) : Nat × Bs × TS × (Option Addr) × Nat × LayL) => [.blk lst [.map (some mb), .slice Ao2 (s2.out.length) (co2), .map (some mp), .int .i64 ↑s2.sum] 84, .abs (MapA Try.prog 3 mb (mf (bf A ns ns.length)) ns.length), .abs (MapA Try.prog 3 mp (mf (fpath ns s2.fst)) s2.cnt), .abs (RowA 51 10 Ao2 s2.out.length co2 (linesV M2 s2.out)), .abs R]) (0, β, (push ns k p s), A12, c13, (M.put s.out.length none 0)) rfl (idx := [0, 2, 8, 101, 102, 103]) (pk := [0, 1, 2, 3, 4]) (show (0 ≤ (nd ns k).ents.length) ∧ (β.le β) ∧ (GraphAt β A ns L) ∧ (LinesIn β ((push ns k p s)).out ((M.put s.out.length none 0))) ∧ (Behind (push ns k p s) ((push ns k p s))) ∧ (foldE (fun e s' => addF ns f (tgt ns e.id) (below s.out.length p e.name) s') (nd ns k).ents (push ns k p s) = foldE (fun e s' => addF ns f (tgt ns e.id) (below s.out.length p e.name) s') ((nd ns k).ents.drop 0) ((push ns k p s))) from ⟨Nat.zero_le _, hle0, hG, by rw [push_out]; exact LinesIn.snoc hLI (by rw [line_old _ _ hfk]; exact RowB.nil), ⟨hs.push hp (by omega), Nat.le_refl _, Nat.le_refl _⟩, rfl⟩) (fun _ => by kernel_rfl) rfl (by kernel_rfl) ?_
    rintro ⟨j, b, s2, Ao2, co2, M2⟩ ⟨hj, hle0, hG, hLI, hbh, hfold⟩
    show Tri _ b _ _ [(0, .pointer (some ⟨lst, 0, none⟩)), (2, .string p), (8, .bool (decide ((((s.out.length : Nat) : Int) : Int) = (0 : Int)))), (101, .slice (L.eA k) ((nd ns k).ents.length) ((L.eC k))), (102, .int .i64 ↑((nd ns k).ents.length)), (103, .int .i64 ↑j)] [.blk lst [.map (some mb), .slice Ao2 (s2.out.length) (co2), .map (some mp), .int .i64 ↑s2.sum] 84, .abs (MapA Try.prog 3 mb (mf (bf A ns ns.length)) ns.length), .abs (MapA Try.prog 3 mp (mf (fpath ns s2.fst)) s2.cnt), .abs (RowA 51 10 Ao2 s2.out.length co2 (linesV M2 s2.out)), .abs R] _
    have hd3 := hB.hd k hk
    have hnl := hok.named k hk
    refine Tri.seq (Tri.region ?_)
    refine TriL.segK (k' := 1) (fr' := [(0, .pointer (some ⟨lst, 0, none⟩)), (2, .string p), (8, .bool (decide ((((s.out.length : Nat) : Int) : Int) = (0 : Int)))), (101, .slice (L.eA k) ((nd ns k).ents.length) ((L.eC k))), (102, .int .i64 ↑((nd ns k).ents.length)), (103, .int .i64 ↑j), (104, .bool (decide ((((j : Nat) : Int) : Int) < ((((nd ns k).ents.length : Nat) : Int) : Int))))]) (obl := []) [o_] [0, 2, 8, 101, 102, 103, 104] (fun _ _ => by kernel_rfl) trivial ?_
    refine TriL.nil (by kernel_rfl) (TriQ.next (Tri.seq ?_))
    refine Tri.condP (p := (((j : Nat) : Int) : Int) < ((((nd ns k).ents.length : Nat) : Int) : Int)) (fun _ => by kernel_rfl) (fun h104 => ?_) (fun h104 => ?_)
    ·
     refine Tri.skip (TriQ.next (Tri.seq (Tri.block (Tri.seq (Tri.region ?_)))))
     refine TriL.segN (k' := 4) (fr' := fun b14 => [(0, .pointer (some ⟨lst, 0, none⟩)), (2, .string p), (8, .bool (decide ((((s.out.length : Nat) : Int) : Int) = (0 : Int)))), (10, .pointer (some ⟨b14, 0, none⟩)), (101, .slice (L.eA k) ((nd ns k).ents.length) ((L.eC k))), (102, .int .i64 ↑((nd ns k).ents.length)), (103, .int .i64 ↑j)]) (hps' := fun b14 => [.blk lst [.map (some mb), .slice Ao2 (s2.out.length) (co2), .map (some mp), .int .i64 ↑s2.sum] 84, .abs (MapA Try.prog 3 mb (mf (bf A ns ns.length)) ns.length), .abs (MapA Try.prog 3 mp (mf (fpath ns s2.fst)) s2.cnt), .abs (RowA 51 10 Ao2 s2.out.length co2 (linesV M2 s2.out)), .abs R, .blk b14 [.string (en (nd ns k).ents j).name, .int .i64 ((en (nd ns k).ents j).id)] 72]) (obl := fun b14 => [b14 = b14, b14 = b14, (Rd b ⟨(blkOf (L.eA k)), offOf (L.eA k) + j * 2 + 1, none⟩ (.int .i64 ((en (nd ns k).ents j).id))), (Rd b ⟨(blkOf (L.eA k)), offOf (L.eA k) + j * 2, none⟩ (.string (en (nd ns k).ents j).name)), ((j : Nat) : Int) = ((j : Nat) : Int), j < (nd ns k).ents.length, (⟨(blkOf (L.eA k)), offOf (L.eA k), none⟩ : Addr).spot = none, ((L.eA k) : Option Addr) = some ⟨(blkOf (L.eA k)), offOf (L.eA k), none⟩]) [⟨[], some j, none, some ⟨(blkOf (L.eA k)), offOf (L.eA k), none⟩, none⟩, ⟨[.old (.string (en (nd ns k).ents j).name), .old (.int .i64 ((en (nd ns k).ents j).id))], none, none, none, none⟩, o_, ⟨[.at 5, .at 5], none, none, none, none⟩] [0, 2, 8, 10, 101, 102, 103] [0, 1, 2, 3, 4, 5] (fun _ _ => by kernel_rfl) (fun b14 => ⟨rfl, rfl, EntsAt.rd (hG.ents k (by omega)) (i := j) (by omega) (j := 1) rfl, EntsAt.rd (hG.ents k (by omega)) (i := j) (by omega) (j := 0) rfl, rfl, by omega, rfl, EntsAt.hd (hG.ents k (by omega)) (i := j) (by omega), trivial⟩) (fun b14 => ?_)
     refine TriL.nil (by kernel_rfl) (TriQ.next (Tri.seq (Tri.region ?_)))
     refine TriL.segK (k' := 3) (fr' := [(0, .pointer (some ⟨lst, 0, none⟩)), (2, .string p), (8, .bool (decide ((((s.out.length : Nat) : Int) : Int) = (0 : Int)))), (10, .pointer (some ⟨b14, 0, none⟩)), (11, .string (en (nd ns k).ents j).name), (101, .slice (L.eA k) ((nd ns k).ents.length) ((L.eC k))), (102, .int .i64 ↑((nd ns k).ents.length)), (103, .int .i64 ↑j)]) (obl := [b14 = b14]) [o_, ⟨[.at 5], none, none, none, none⟩, o_] [0, 2, 8, 10, 11, 101, 102, 103] (fun _ _ => by kernel_rfl) ⟨rfl, trivial⟩ ?_
     refine TriL.nil (by kernel_rfl) (TriQ.next (Tri.seq (Tri.seq (Tri.region ?_))))
     refine TriL.segK (k' := 2) (fr' := [(0, .pointer (some ⟨lst, 0, none⟩)), (2, .string p), (8, .bool (decide ((((s.out.length : Nat) : Int) : Int) = (0 : Int)))), (10, .pointer (some ⟨b14, 0, none⟩)), (11, .string (en (nd ns k).ents j).name), (101, .slice (L.eA k) ((nd ns k).ents.length) ((L.eC k))), (102, .int .i64 ↑((nd ns k).ents.length)), (103, .int .i64 ↑j), (110, .bool (!(decide ((((s.out.length : Nat) : Int) : Int) = (0 : Int)))))]) (obl := []) [o_, o_] [0, 2, 8, 10, 11, 101, 102, 103, 110] (fun _ _ => by kernel_rfl) trivial ?_
     refine TriL.nil (by kernel_rfl) (TriQ.next ?_)
     refine Tri.condN (p := (((s.out.length : Nat) : Int) : Int) = (0 : Int)) (fun _ => by kernel_rfl) (fun h110 => ?_) (fun h110 => ?_)
     ·
      have hbel : below s.out.length p (en (nd ns k).ents j).name = p ++ ⟨#[47]⟩ ++ (en (nd ns k).ents j).name := if_neg (by omega)
      refine Tri.region ?_
      refine TriL.segK (k' := 1) (fr' := [(0, .pointer (some ⟨lst, 0, none⟩)), (2, .string p), (8, .bool (decide ((((s.out.length : Nat) : Int) : Int) = (0 : Int)))), (10, .pointer (some ⟨b14, 0, none⟩)), (101, .slice (L.eA k) ((nd ns k).ents.length) ((L.eC k))), (102, .int .i64 ↑((nd ns k).ents.length)), (103, .int .i64 ↑j), (111, .string p)]) (obl := []) [o_] [0, 2, 8, 10, 101, 102, 103, 111] (fun _ _ => by kernel_rfl) trivial ?_
      refine TriL.strAdd (d := (some 112)) (t := 9) (t2 := 9) (x := (.tmp 111)) (y := (.const (.string ⟨#[47]⟩))) (a := p) (b := ⟨#[47]⟩) (fun _ => by kernel_rfl) (fun _ => by kernel_rfl) (fun _ => by kernel_rfl) (by have h47 : (⟨#[47]⟩ : ByteArray).size = 1 := rfl; omega) ?_
      refine TriL.segK (k' := 4) (fr' := [(0, .pointer (some ⟨lst, 0, none⟩)), (2, .string p), (8, .bool (decide ((((s.out.length : Nat) : Int) : Int) = (0 : Int)))), (10, .pointer (some ⟨b14, 0, none⟩)), (101, .slice (L.eA k) ((nd ns k).ents.length) ((L.eC k))), (102, .int .i64 ↑((nd ns k).ents.length)), (103, .int .i64 ↑j), (112, .string (p ++ ⟨#[47]⟩)), (114, .string (en (nd ns k).ents j).name)]) (obl := [b14 = b14]) [o_, ⟨[.at 5], none, none, none, none⟩] [0, 2, 8, 10, 101, 102, 103, 112, 114] (fun _ _ => by kernel_rfl) ⟨rfl, trivial⟩ ?_
      refine TriL.strAdd (d := (some 115)) (t := 9) (t2 := 9) (x := (.tmp 112)) (y := (.tmp 114)) (a := (p ++ ⟨#[47]⟩)) (b := (en (nd ns k).ents j).name) (fun _ => by kernel_rfl) (fun _ => by kernel_rfl) (fun _ => by kernel_rfl) (by have h47 : (⟨#[47]⟩ : ByteArray).size = 1 := rfl; have hnz : (en (nd ns k).ents j).name.size ≤ 255 := (hnl j (by omega)).2.1; rw [ByteArray.size_append]; omega) ?_
      refine TriL.segK (k' := 6) (fr' := [(0, .pointer (some ⟨lst, 0, none⟩)), (2, .string p), (8, .bool (decide ((((s.out.length : Nat) : Int) : Int) = (0 : Int)))), (10, .pointer (some ⟨b14, 0, none⟩)), (11, .string ((p ++ ⟨#[47]⟩) ++ (en (nd ns k).ents j).name)), (101, .slice (L.eA k) ((nd ns k).ents.length) ((L.eC k))), (102, .int .i64 ↑((nd ns k).ents.length)), (103, .int .i64 ↑j)]) (obl := []) [o_] [0, 2, 8, 10, 11, 101, 102, 103] (fun _ _ => by kernel_rfl) trivial ?_
      refine TriL.nil (by kernel_rfl) (TriQ.next (Tri.seq ?_))
      refine Tri.regionStill 9 (by kernel_rfl) (by kernel_rfl) ?_
      refine TriLS.seg (k' := 7) (fr' := [(0, .pointer (some ⟨lst, 0, none⟩)), (2, .string p), (8, .bool (decide ((((s.out.length : Nat) : Int) : Int) = (0 : Int)))), (11, .string ((p ++ ⟨#[47]⟩) ++ (en (nd ns k).ents j).name)), (101, .slice (L.eA k) ((nd ns k).ents.length) ((L.eC k))), (102, .int .i64 ↑((nd ns k).ents.length)), (103, .int .i64 ↑j), (116, .pointer (some ⟨lst, 0, none⟩)), (120, .map (some mb)), (122, .int .i64 ((en (nd ns k).ents j).id))]) (obl := [b14 = b14, lst = lst]) [o_, o_, o_, o_, ⟨[.at 0], none, none, none, none⟩, o_, ⟨[.at 5], none, none, none, none⟩] [0, 2, 8, 11, 101, 102, 103, 116, 120, 122] (fun _ _ => by kernel_rfl) ⟨rfl, rfl, trivial⟩ (by decide) ?_
      have hat := (hok.ents k hk j (by omega)).at_
      have htl := atI_lt hat
      have hnm := hok.named k hk j (by omega)
      refine TriLS.mapLook 1 (d := (some 123)) (t := 66) (K := 3) (E := 75) (b := mb) (cnt := ns.length) (f := (mf (bf A ns ns.length))) (x := (.tmp 120)) (ix := (.tmp 122)) (key := .int .i64 ((en (nd ns k).ents j).id)) (z := .pointer none) (kl := (.int .i64 (en (nd ns k).ents j).id)) (r := (some (.pointer (some ⟨(blkOf A), offOf A + (tgt ns (en (nd ns k).ents j).id) * 10, none⟩)))) (fun _ => by kernel_rfl) (by kernel_rfl) (fun _ => by kernel_rfl) (fun _ => by kernel_rfl) lawI Try.underlying66 (fun _ => by kernel_rfl) (keyI (hB.hwf k hk j (by omega)).1 (hB.hwf k hk j (by omega)).2) (bf_at hat htl.1) (by decide) ?_
      refine TriLS.seg (k' := 9) (fr' := [(0, .pointer (some ⟨lst, 0, none⟩)), (2, .string p), (8, .bool (decide ((((s.out.length : Nat) : Int) : Int) = (0 : Int)))), (101, .slice (L.eA k) ((nd ns k).ents.length) ((L.eC k))), (102, .int .i64 ↑((nd ns k).ents.length)), (103, .int .i64 ↑j), (116, .pointer (some ⟨lst, 0, none⟩)), (123, .pointer (some ⟨(blkOf A), offOf A + (tgt ns (en (nd ns k).ents j).id) * 10, none⟩)), (124, .string ((p ++ ⟨#[47]⟩) ++ (en (nd ns k).ents j).name))]) (obl := []) [o_] [0, 2, 8, 101, 102, 103, 116, 123, 124] (fun _ _ => by kernel_rfl) trivial (by decide) ?_
      refine TriLS.done rfl ?_
      have hq0 : (tgt ns (en (nd ns k).ents j).id) < ns.length := htl.1
      have hq1 : 1 ≤ (((p ++ ⟨#[47]⟩) ++ (en (nd ns k).ents j).name) : ByteArray).size := by rw [← hbel]; exact below_size hnm.1
      have hq2 : (((p ++ ⟨#[47]⟩) ++ (en (nd ns k).ents j).name) : ByteArray).size ≤ 8388608 := by rw [← hbel]; exact below_le (by omega) hnm.2.1
      have hq3 : 4194304 - s2.sum < f := by have := hbh.sum; rw [push_sum] at this; omega
      have hcall16 := IH _ A ns L M2 s2 (tgt ns (en (nd ns k).ents j).id) ((p ++ ⟨#[47]⟩) ++ (en (nd ns k).ents j).name) lst mb mp Ao2 co2 hG hB hok hLI hq0 hq1 hq2 hbh.ok hq3
      refine TriL.callB (d := (some 125)) (R := [.abs R, .blk b14 [.string (en (nd ns k).ents j).name, .int .i64 ((en (nd ns k).ents j).id)] 72]) (pk := [0, 1, 2, 3, 4, 5]) (fun _ => by kernel_rfl) hcall16 rfl (by kernel_rfl) ?_
      rintro β15 _ _ hle_β15 (⟨s3, Ao3, co3, M3, hadd, rfl, hLI3, rfl⟩ | ⟨hadd, rfl, rfl⟩)
      ·
       replace hG := hG.le hle_β15
       replace hLI := hLI.le hle_β15
       replace hle0 := hle0.trans hle_β15
       refine TriL.segK (k' := 11) (fr' := [(0, .pointer (some ⟨lst, 0, none⟩)), (2, .string p), (8, .bool (decide ((((s.out.length : Nat) : Int) : Int) = (0 : Int)))), (101, .slice (L.eA k) ((nd ns k).ents.length) ((L.eC k))), (102, .int .i64 ↑((nd ns k).ents.length)), (103, .int .i64 ↑j), (126, .bool false)]) (obl := []) [o_] [0, 2, 8, 101, 102, 103, 126] (fun _ _ => by kernel_rfl) trivial ?_
       refine TriL.nil (by kernel_rfl) (TriQ.next ?_)
       refine Tri.condF (fun _ => by kernel_rfl) ?_
       refine Tri.skip (TriQ.blockNormal (TriQ.next (Tri.region ?_)))
       refine TriL.segK (k' := 2) (fr' := [(0, .pointer (some ⟨lst, 0, none⟩)), (2, .string p), (8, .bool (decide ((((s.out.length : Nat) : Int) : Int) = (0 : Int)))), (101, .slice (L.eA k) ((nd ns k).ents.length) ((L.eC k))), (102, .int .i64 ↑((nd ns k).ents.length)), (103, .int .i64 ↑(j + 1))]) (obl := [(Value.int .i64 (IntKind.wrap .i64 (((j : Nat) : Int) + 1))) = (.int .i64 ↑(j + 1))]) [⟨[], none, none, none, some (.int .i64 ↑(j + 1))⟩, o_] [0, 2, 8, 101, 102, 103] (fun _ _ => by kernel_rfl) ⟨wrapEq (by omega) (by omega) (by omega), trivial⟩ ?_
       refine TriL.nil (by kernel_rfl) ?_
       exact TriQ.turnB ((j + 1), β15, s3, Ao3, co3, M3) (hb := rfl) (idx := [0, 2, 8, 101, 102, 103]) (pk := [0, 1, 2, 3, 4]) (show (((j + 1)) ≤ (nd ns k).ents.length) ∧ (β.le β15) ∧ (GraphAt β15 A ns L) ∧ (LinesIn β15 s3.out M3) ∧ (Behind (push ns k p s) s3) ∧ (foldE (fun e s' => addF ns f (tgt ns e.id) (below s.out.length p e.name) s') (nd ns k).ents (push ns k p s) = foldE (fun e s' => addF ns f (tgt ns e.id) (below s.out.length p e.name) s') ((nd ns k).ents.drop ((j + 1))) s3) from ⟨by omega, hle0, hG, hLI3, Behind.trans hbh (addF_behind hok.named f _ _ _ _ htl.1 (by rw [← hbel]; exact below_size hnm.1) hbh.ok hadd).1, by rw [hfold, foldE_drop (by omega), hbel, hadd]; rfl⟩) (by show (nd ns k).ents.length - ((j + 1)) < (nd ns k).ents.length - j; omega) (fun _ => by kernel_rfl) rfl (by kernel_rfl)
      ·
       replace hG := hG.le hle_β15
       replace hLI := hLI.le hle_β15
       replace hle0 := hle0.trans hle_β15
       refine TriL.segK (k' := 11) (fr' := [(0, .pointer (some ⟨lst, 0, none⟩)), (2, .string p), (8, .bool (decide ((((s.out.length : Nat) : Int) : Int) = (0 : Int)))), (101, .slice (L.eA k) ((nd ns k).ents.length) ((L.eC k))), (102, .int .i64 ↑((nd ns k).ents.length)), (103, .int .i64 ↑j), (126, .bool true)]) (obl := []) [o_] [0, 2, 8, 101, 102, 103, 126] (fun _ _ => by kernel_rfl) trivial ?_
       refine TriL.nil (by kernel_rfl) (TriQ.next ?_)
       refine Tri.condT (fun _ => by kernel_rfl) ?_
       refine Tri.seq (Tri.region ?_)
       refine TriL.segK (k' := 1) (fr' := [(6, .bool false)]) (obl := []) [o_] [6] (fun _ _ => by kernel_rfl) trivial ?_
       refine TriL.nil (by kernel_rfl) (TriQ.next (Tri.ret (TriQ.blockRet (TriQ.passRet (TriQ.passRet (TriQ.blockRet (TriQ.passRet ?_)))))))
       exact TriQ.retB (v := .bool false) (l := []) (obl := []) [] [0] hle0 (fun _ => by kernel_rfl) trivial rfl (by kernel_rfl) (.inr ⟨by rw [hst, hfold, foldE_drop (by omega), hbel, hadd]; rfl, rfl, rfl⟩)
     ·
      have hbel : below s.out.length p (en (nd ns k).ents j).name = (en (nd ns k).ents j).name := if_pos (by omega)
      refine Tri.skip (TriQ.next (Tri.seq ?_))
      refine Tri.regionStill 9 (by kernel_rfl) (by kernel_rfl) ?_
      refine TriLS.seg (k' := 7) (fr' := [(0, .pointer (some ⟨lst, 0, none⟩)), (2, .string p), (8, .bool (decide ((((s.out.length : Nat) : Int) : Int) = (0 : Int)))), (11, .string (en (nd ns k).ents j).name), (101, .slice (L.eA k) ((nd ns k).ents.length) ((L.eC k))), (102, .int .i64 ↑((nd ns k).ents.length)), (103, .int .i64 ↑j), (116, .pointer (some ⟨lst, 0, none⟩)), (120, .map (some mb)), (122, .int .i64 ((en (nd ns k).ents j).id))]) (obl := [b14 = b14, lst = lst]) [o_, o_, o_, o_, ⟨[.at 0], none, none, none, none⟩, o_, ⟨[.at 5], none, none, none, none⟩] [0, 2, 8, 11, 101, 102, 103, 116, 120, 122] (fun _ _ => by kernel_rfl) ⟨rfl, rfl, trivial⟩ (by decide) ?_
      have hat := (hok.ents k hk j (by omega)).at_
      have htl := atI_lt hat
      have hnm := hok.named k hk j (by omega)
      refine TriLS.mapLook 1 (d := (some 123)) (t := 66) (K := 3) (E := 75) (b := mb) (cnt := ns.length) (f := (mf (bf A ns ns.length))) (x := (.tmp 120)) (ix := (.tmp 122)) (key := .int .i64 ((en (nd ns k).ents j).id)) (z := .pointer none) (kl := (.int .i64 (en (nd ns k).ents j).id)) (r := (some (.pointer (some ⟨(blkOf A), offOf A + (tgt ns (en (nd ns k).ents j).id) * 10, none⟩)))) (fun _ => by kernel_rfl) (by kernel_rfl) (fun _ => by kernel_rfl) (fun _ => by kernel_rfl) lawI Try.underlying66 (fun _ => by kernel_rfl) (keyI (hB.hwf k hk j (by omega)).1 (hB.hwf k hk j (by omega)).2) (bf_at hat htl.1) (by decide) ?_
      refine TriLS.seg (k' := 9) (fr' := [(0, .pointer (some ⟨lst, 0, none⟩)), (2, .string p), (8, .bool (decide ((((s.out.length : Nat) : Int) : Int) = (0 : Int)))), (101, .slice (L.eA k) ((nd ns k).ents.length) ((L.eC k))), (102, .int .i64 ↑((nd ns k).ents.length)), (103, .int .i64 ↑j), (116, .pointer (some ⟨lst, 0, none⟩)), (123, .pointer (some ⟨(blkOf A), offOf A + (tgt ns (en (nd ns k).ents j).id) * 10, none⟩)), (124, .string (en (nd ns k).ents j).name)]) (obl := []) [o_] [0, 2, 8, 101, 102, 103, 116, 123, 124] (fun _ _ => by kernel_rfl) trivial (by decide) ?_
      refine TriLS.done rfl ?_
      have hq0 : (tgt ns (en (nd ns k).ents j).id) < ns.length := htl.1
      have hq1 : 1 ≤ ((en (nd ns k).ents j).name : ByteArray).size := by rw [← hbel]; exact below_size hnm.1
      have hq2 : ((en (nd ns k).ents j).name : ByteArray).size ≤ 8388608 := by rw [← hbel]; exact below_le (by omega) hnm.2.1
      have hq3 : 4194304 - s2.sum < f := by have := hbh.sum; rw [push_sum] at this; omega
      have hcall18 := IH _ A ns L M2 s2 (tgt ns (en (nd ns k).ents j).id) (en (nd ns k).ents j).name lst mb mp Ao2 co2 hG hB hok hLI hq0 hq1 hq2 hbh.ok hq3
      refine TriL.callB (d := (some 125)) (R := [.abs R, .blk b14 [.string (en (nd ns k).ents j).name, .int .i64 ((en (nd ns k).ents j).id)] 72]) (pk := [0, 1, 2, 3, 4, 5]) (fun _ => by kernel_rfl) hcall18 rfl (by kernel_rfl) ?_
      rintro β17 _ _ hle_β17 (⟨s3, Ao3, co3, M3, hadd, rfl, hLI3, rfl⟩ | ⟨hadd, rfl, rfl⟩)
      ·
       replace hG := hG.le hle_β17
       replace hLI := hLI.le hle_β17
       replace hle0 := hle0.trans hle_β17
       refine TriL.segK (k' := 11) (fr' := [(0, .pointer (some ⟨lst, 0, none⟩)), (2, .string p), (8, .bool (decide ((((s.out.length : Nat) : Int) : Int) = (0 : Int)))), (101, .slice (L.eA k) ((nd ns k).ents.length) ((L.eC k))), (102, .int .i64 ↑((nd ns k).ents.length)), (103, .int .i64 ↑j), (126, .bool false)]) (obl := []) [o_] [0, 2, 8, 101, 102, 103, 126] (fun _ _ => by kernel_rfl) trivial ?_
       refine TriL.nil (by kernel_rfl) (TriQ.next ?_)
       refine Tri.condF (fun _ => by kernel_rfl) ?_
       refine Tri.skip (TriQ.blockNormal (TriQ.next (Tri.region ?_)))
       refine TriL.segK (k' := 2) (fr' := [(0, .pointer (some ⟨lst, 0, none⟩)), (2, .string p), (8, .bool (decide ((((s.out.length : Nat) : Int) : Int) = (0 : Int)))), (101, .slice (L.eA k) ((nd ns k).ents.length) ((L.eC k))), (102, .int .i64 ↑((nd ns k).ents.length)), (103, .int .i64 ↑(j + 1))]) (obl := [(Value.int .i64 (IntKind.wrap .i64 (((j : Nat) : Int) + 1))) = (.int .i64 ↑(j + 1))]) [⟨[], none, none, none, some (.int .i64 ↑(j + 1))⟩, o_] [0, 2, 8, 101, 102, 103] (fun _ _ => by kernel_rfl) ⟨wrapEq (by omega) (by omega) (by omega), trivial⟩ ?_
       refine TriL.nil (by kernel_rfl) ?_
       exact TriQ.turnB ((j + 1), β17, s3, Ao3, co3, M3) (hb := rfl) (idx := [0, 2, 8, 101, 102, 103]) (pk := [0, 1, 2, 3, 4]) (show (((j + 1)) ≤ (nd ns k).ents.length) ∧ (β.le β17) ∧ (GraphAt β17 A ns L) ∧ (LinesIn β17 s3.out M3) ∧ (Behind (push ns k p s) s3) ∧ (foldE (fun e s' => addF ns f (tgt ns e.id) (below s.out.length p e.name) s') (nd ns k).ents (push ns k p s) = foldE (fun e s' => addF ns f (tgt ns e.id) (below s.out.length p e.name) s') ((nd ns k).ents.drop ((j + 1))) s3) from ⟨by omega, hle0, hG, hLI3, Behind.trans hbh (addF_behind hok.named f _ _ _ _ htl.1 (by rw [← hbel]; exact below_size hnm.1) hbh.ok hadd).1, by rw [hfold, foldE_drop (by omega), hbel, hadd]; rfl⟩) (by show (nd ns k).ents.length - ((j + 1)) < (nd ns k).ents.length - j; omega) (fun _ => by kernel_rfl) rfl (by kernel_rfl)
      ·
       replace hG := hG.le hle_β17
       replace hLI := hLI.le hle_β17
       replace hle0 := hle0.trans hle_β17
       refine TriL.segK (k' := 11) (fr' := [(0, .pointer (some ⟨lst, 0, none⟩)), (2, .string p), (8, .bool (decide ((((s.out.length : Nat) : Int) : Int) = (0 : Int)))), (101, .slice (L.eA k) ((nd ns k).ents.length) ((L.eC k))), (102, .int .i64 ↑((nd ns k).ents.length)), (103, .int .i64 ↑j), (126, .bool true)]) (obl := []) [o_] [0, 2, 8, 101, 102, 103, 126] (fun _ _ => by kernel_rfl) trivial ?_
       refine TriL.nil (by kernel_rfl) (TriQ.next ?_)
       refine Tri.condT (fun _ => by kernel_rfl) ?_
       refine Tri.seq (Tri.region ?_)
       refine TriL.segK (k' := 1) (fr' := [(6, .bool false)]) (obl := []) [o_] [6] (fun _ _ => by kernel_rfl) trivial ?_
       refine TriL.nil (by kernel_rfl) (TriQ.next (Tri.ret (TriQ.blockRet (TriQ.passRet (TriQ.passRet (TriQ.blockRet (TriQ.passRet ?_)))))))
       exact TriQ.retB (v := .bool false) (l := []) (obl := []) [] [0] hle0 (fun _ => by kernel_rfl) trivial rfl (by kernel_rfl) (.inr ⟨by rw [hst, hfold, foldE_drop (by omega), hbel, hadd]; rfl, rfl, rfl⟩)
    ·
     refine Tri.exit (TriQ.passExit (TriQ.passExit (TriQ.blockHit (TriQ.next (Tri.seq (Tri.region ?_))))))
     refine TriL.segK (k' := 1) (fr' := [(6, .bool true)]) (obl := []) [o_] [6] (fun _ _ => by kernel_rfl) trivial ?_
     refine TriL.nil (by kernel_rfl) (TriQ.next (Tri.ret ?_))
     exact TriQ.retB (v := .bool true) (l := [.blk lst [.map (some mb), .slice Ao2 (s2.out.length) (co2), .map (some mp), .int .i64 ↑s2.sum] 84, .abs (MapA Try.prog 3 mb (mf (bf A ns ns.length)) ns.length), .abs (MapA Try.prog 3 mp (mf (fpath ns s2.fst)) s2.cnt), .abs (RowA 51 10 Ao2 s2.out.length co2 (linesV M2 s2.out))]) (obl := []) [] [0, 1, 2, 3, 4] hle0 (fun _ => by kernel_rfl) trivial rfl (by kernel_rfl) (.inl ⟨s2, Ao2, co2, M2, by rw [hst, hfold, foldE_end (by omega)], rfl, hLI, rfl⟩)
end Go.Proofs.Ytjpdcppdoonmdaa
end
/- part GX. PROVED HERE: lister.add for every fuel; the reference's stack as plain data. CONDITIONS: none. -/
section
namespace Go.Proofs.Ytjpdcppdoonmdaa
open Go.RowKit Go.Maps
theorem sp_addAll : ∀ f, AddOk f
  | 0 => fun _ _ _ _ _ _ _ _ _ _ _ _ _ _ _ _ _ _ _ _ _ h => absurd h (Nat.not_lt_zero _)
  | f + 1 => sp_addStep f (sp_addAll f)
abbrev Item := Nat × Nat × ByteArray
def runS (ns : List NodeM) : List Item → TS → Option TS := foldE (fun x s => addF ns x.1 x.2.1 x.2.2 s)
def kids (ns : List NodeM) (f top : Nat) (p : ByteArray) (es : List EntM) : List Item := es.map fun e => (f, tgt ns e.id, below top p e.name)
theorem runS_nil {ns : List NodeM} {s : TS} : runS ns [] s = some s := rfl
theorem runS_big {ns : List NodeM} {f k : Nat} {p : ByteArray} {g : List Item} {s : TS} (h : 4194304 < s.sum + p.size) : runS ns ((f + 1, k, p) :: g) s = none := by
  unfold runS
  rw [foldE, addF, if_pos h]
  rfl
theorem runS_pop {ns : List NodeM} {f k : Nat} {p : ByteArray} {g : List Item} {s : TS} (h : ¬ 4194304 < s.sum + p.size) : runS ns ((f + 1, k, p) :: g) s = runS ns (kids ns f s.out.length p (nd ns k).ents ++ g) (push ns k p s) := by
  unfold runS kids
  rw [foldE_append, foldE_map, foldE, addF, if_neg h]
structure ItemsOk (ns : List NodeM) (g : List Item) (s : TS) : Prop where
  at_ : ∀ x, x ∈ g → x.2.1 < ns.length ∧ 1 ≤ x.2.2.size ∧ x.2.2.size ≤ 8388608 ∧ 4194304 - s.sum < x.1
  dot : s.out.length = 0 → ∀ x, x ∈ g → x.2.2 = ⟨#[46]⟩
theorem ItemsOk.pop {ns : List NodeM} {f k : Nat} {p : ByteArray} {g : List Item} {s : TS} (hn : Named ns) (h : ItemsOk ns ((f + 1, k, p) :: g) s) (hs : ¬ 4194304 < s.sum + p.size) : ItemsOk ns (kids ns f s.out.length p (nd ns k).ents ++ g) (push ns k p s) := by
  have h0 := h.at_ _ (List.mem_cons_self ..)
  simp only at h0
  refine ⟨fun x hx => ?_, fun h1 => by rw [push_len] at h1; omega⟩
  rw [push_sum]
  rcases List.mem_append.1 hx with hx | hx
  · obtain ⟨e, he, rfl⟩ := List.mem_map.1 hx
    obtain ⟨j, hj, rfl⟩ := mem_en he
    obtain ⟨h1, h2, h3⟩ := hn k h0.1 j hj
    exact ⟨h3, below_size h1, below_le (by omega) h2, by show _ < f; omega⟩
  · have := h.at_ x (List.mem_cons_of_mem _ hx)
    exact ⟨this.1, this.2.1, this.2.2.1, by omega⟩
def itemV (x : Item) : List Value := [.int .i64 ((x.2.1 : Nat) : Int), .string x.2.2]
def stackV (g : List Item) : List Value := flatF (fun _ x => itemV x) 0 g.reverse
theorem stackV_cons (x : Item) (g : List Item) : stackV (x :: g) = stackV g ++ itemV x := by
  unfold stackV
  rw [List.reverse_cons, flatF_snoc]
theorem stackV_len (g : List Item) : (stackV g).length = g.length * 2 := by
  unfold stackV
  rw [flatF_len (s := 2) (fun _ _ => rfl), List.length_reverse]
theorem stackV_top {g g2 : List Item} {x : Item} (hg : g = x :: g2) {j : Nat} {u : Value} (hu : (itemV x)[j]? = some u) : (stackV g)[(g.length - 1) * 2 + j]? = some u := by
  subst hg
  rw [stackV_cons, List.length_cons, Nat.add_sub_cancel, List.getElem?_append_right (by rw [stackV_len]; omega), stackV_len, Nat.add_sub_cancel_left]
  exact hu
theorem stackV_cut {g g2 : List Item} {x : Item} (hg : g = x :: g2) : (stackV g).take (g2.length * 2) = stackV g2 := by
  subst hg
  rw [stackV_cons, List.take_append_of_le_length (by rw [stackV_len]; omega), List.take_of_length_le (by rw [stackV_len]; omega)]
def fstL (ns : List NodeM) (s : TS) : List ByteArray := (List.range ns.length).map s.fst
theorem fstL_len (ns : List NodeM) (s : TS) : (strsV (fstL ns s)).length = ns.length := by simp [strsV, fstL]
theorem fstL_get {ns : List NodeM} {s : TS} {k : Nat} (hk : k < ns.length) : (strsV (fstL ns s))[k]? = some (.string (s.fst k)) := by simp [strsV, fstL, hk]
theorem fstL_zero (ns : List NodeM) : List.replicate ns.length (Value.string ⟨#[]⟩) = strsV (fstL ns TS0) := by
  apply List.ext_getElem?
  intro j
  by_cases h : j < ns.length
  · rw [fstL_get h, List.getElem?_replicate, if_pos h]; rfl
  · rw [List.getElem?_eq_none (by simp; omega), List.getElem?_eq_none (by rw [fstL_len]; omega)]
theorem fstL_new {ns : List NodeM} {s : TS} {k : Nat} {p : ByteArray} (h : s.fst k = ⟨#[]⟩) : (strsV (fstL ns s)).set k (.string p) = strsV (fstL ns (push ns k p s)) := by
  have e : (push ns k p s).fst = fun j => if j = k then p else s.fst j := by unfold push; rw [if_pos h]
  apply List.ext_getElem?
  intro j
  by_cases hj : j < ns.length
  · rw [fstL_get hj, List.getElem?_set]
    by_cases h1 : k = j
    · subst h1
      rw [if_pos rfl, if_pos (by rw [fstL_len]; exact hj), e]
      simp
    · rw [if_neg h1, fstL_get hj, e]
      have : ¬ j = k := fun e => h1 e.symm
      simp [this]
  · rw [List.getElem?_eq_none (by rw [List.length_set, fstL_len]; omega), List.getElem?_eq_none (by rw [fstL_len]; omega)]
theorem fstL_old {ns : List NodeM} {s : TS} {k : Nat} {p : ByteArray} (h : ¬ s.fst k = ⟨#[]⟩) : fstL ns s = fstL ns (push ns k p s) := by
  unfold fstL
  rw [(push_old h).1]
theorem kids_drop {ns : List NodeM} {f top j : Nat} {p : ByteArray} {es : List EntM} (hj : j < es.length) : kids ns f top p (es.drop j) = (f, tgt ns (en es j).id, below top p (en es j).name) :: kids ns f top p (es.drop (j + 1)) := by
  unfold kids
  rw [List.drop_eq_getElem_cons hj, List.map_cons]
  have : en es j = es[j] := by
    unfold en
    rw [List.getD_eq_getElem?_getD, List.getElem?_eq_getElem hj]
    rfl
  rw [this]
theorem ents_le {ns : List NodeM} {k : Nat} (h : GraphOk ns) (hk : k < ns.length) : (nd ns k).ents.length ≤ 8192 := by
  have h1 := h.sum
  have h2 := entSum_mono (ns := ns) (show k + 1 ≤ ns.length from hk)
  rw [entSum] at h2
  omega
theorem kids_len {ns : List NodeM} {f top : Nat} {p : ByteArray} {es : List EntM} : (kids ns f top p es).length = es.length := by simp [kids]
end Go.Proofs.Ytjpdcppdoonmdaa
end
/- part GTree. PROVED HERE: graph.Tree CONDITIONS: as the theorems say. Printed by a program of this repo (wip/v). -/
section
namespace Go.Proofs.Ytjpdcppdoonmdaa
open Go.RowKit
attribute [local irreducible] TriL TriLQ Tri TriQ
set_option maxRecDepth 100000 in
set_option maxHeartbeats 4000000 in
theorem sp_tree {β : Bs} (A : Option Addr) (c : Nat) (ns : List NodeM) (L : Lay) (hG : GraphAt β A ns L) (hB : GraphB ns 1048576) (root : Int) (hz : I64 root) :
    SpecB Try.prog β 26 #[.agg #[.slice A ns.length c], .int .i64 root] [] (fun β' v l => ∃ B cap M', v = .tuple #[.slice B (treeG ns root).1.length cap, .int .i64 (treeG ns root).2] ∧ l = [] ∧ LinesAt β' B (treeG ns root).1 M') := by
 refine SpecB.enter Try.func26 rfl Try.ntmps26 (Nat.le_of_ble_eq_true rfl) (fun hle0 R => ?_)
 refine Tri.seq (Tri.region ?_)
 refine TriL.segN (k' := 3) (fr' := fun b1 => [(1, .int .i64 (root)), (2, .pointer (some ⟨b1, 0, none⟩))]) (hps' := fun b1 => [.abs R, .blk b1 [.slice A (ns.length) (c)] 24]) (obl := fun b1 => []) [o_, o_, o_] [1, 2] [0, 1] (fun _ _ => by kernel_rfl) (fun b1 => trivial) (fun b1 => ?_)
 refine TriL.nil (by kernel_rfl) (TriQ.next (Tri.seq (Tri.region ?_)))
 refine TriL.segK (k' := 2) (fr' := [(11, .agg #[.slice A (ns.length) (c)]), (12, .int .i64 (root))]) (obl := [b1 = b1]) [⟨[.at 1], none, none, none, none⟩, o_] [11, 12] (fun _ _ => by kernel_rfl) ⟨rfl, trivial⟩ ?_
 refine TriL.call (f := 42) (args := #[.agg #[.slice A (ns.length) (c)], .int .i64 (root)]) (d := (some 13)) (pre := []) (R := [.abs R, .blk b1 [.slice A (ns.length) (c)] 24]) (pk := [0, 1]) (fun _ => by kernel_rfl) (sp_begin A c ns L hG hB root hz) rfl (by kernel_rfl) ?_
 rintro _ _ (⟨mb, rfl, hbg, rfl⟩ | ⟨x, y, rfl, hbg, rfl⟩)
 ·
  obtain ⟨hok, hat, hkd⟩ := beginC_zero hbg
  have htl := atI_lt hat
  refine TriL.segK (k' := 10) (fr' := [(6, .map (some mb)), (7, .pointer (some ⟨(blkOf A), offOf A + (tgt ns root) * 10, none⟩)), (8, .int .i64 0)]) (obl := []) [o_, o_, o_, o_, o_, o_, o_] [6, 7, 8] (fun _ _ => by kernel_rfl) trivial ?_
  refine TriL.nil (by kernel_rfl) (TriQ.next (Tri.seq (Tri.seq (Tri.region ?_))))
  refine TriL.segK (k' := 2) (fr' := [(6, .map (some mb)), (7, .pointer (some ⟨(blkOf A), offOf A + (tgt ns root) * 10, none⟩)), (8, .int .i64 0), (18, .bool false)]) (obl := []) [o_, o_] [6, 7, 8, 18] (fun _ _ => by kernel_rfl) trivial ?_
  refine TriL.nil (by kernel_rfl) (TriQ.next ?_)
  refine Tri.condF (fun _ => by kernel_rfl) ?_
  refine Tri.skip (TriQ.next (Tri.seq (Tri.region ?_)))
  refine TriL.segK (k' := 1) (fr' := [(7, .pointer (some ⟨(blkOf A), offOf A + (tgt ns root) * 10, none⟩)), (20, .map (some mb))]) (obl := []) [o_] [7, 20] (fun _ _ => by kernel_rfl) trivial ?_
  refine TriL.mapMake (d := (some 21)) (t := 82) (fun _ => by kernel_rfl) Try.prog rfl 3 (fun m2 => ?_)
  refine TriL.segN (k' := 5) (fr' := fun b3 => [(7, .pointer (some ⟨(blkOf A), offOf A + (tgt ns root) * 10, none⟩)), (9, .pointer (some ⟨b3, 0, none⟩))]) (hps' := fun b3 => [.abs (MapA Try.prog 3 mb (mf (bf A ns ns.length)) ns.length), .abs R, .blk b1 [.slice A (ns.length) (c)] 24, .abs (MapA Try.prog 3 m2 (fun _ => none) 0), .blk b3 [.map (some mb), .slice none (0) (0), .map (some m2), .int .i64 0] 84]) (obl := fun b3 => [b3 = b3, b3 = b3, b3 = b3, b3 = b3]) [o_, o_, ⟨[.at 4, .at 4, .at 4, .at 4], none, none, none, none⟩] [7, 9] [0, 1, 2, 3, 4] (fun _ _ => by kernel_rfl) (fun b3 => ⟨rfl, rfl, rfl, rfl, trivial⟩) (fun b3 => ?_)
  refine TriL.nil (by kernel_rfl) (TriQ.next (Tri.seq (Tri.seq (Tri.region ?_))))
  refine TriL.segK (k' := 1) (fr' := [(9, .pointer (some ⟨b3, 0, none⟩)), (23, .pointer (some ⟨(blkOf A), offOf A + (tgt ns root) * 10, none⟩))]) (obl := []) [o_] [9, 23] (fun _ _ => by kernel_rfl) trivial ?_
  refine TriL.partEq 3 (p := .abs (MapA Try.prog 3 m2 (fun _ => none) 0)) (p' := .abs (MapA Try.prog 3 m2 (mf (fpath ns TS0.fst)) 0)) (by kernel_rfl) (by rw [fpath_zero]) ?_
  refine TriL.mem (fun w hS => hS.rowNil (e := 51) (size := 10)) ?_
  have hcall5 := sp_addAll 4194305 _ A ns L ⟨fun _ => none, fun _ => 0⟩ TS0 (tgt ns root) ⟨#[46]⟩ b3 mb m2 none 0 hG hB hok LinesIn.nil htl.1 (by decide) (by decide) TS0_ok (by decide)
  refine TriL.callB (d := (some 24)) (R := [.abs R, .blk b1 [.slice A (ns.length) (c)] 24]) (pk := [4, 0, 3, 5, 1, 2]) (fun _ => by kernel_rfl) hcall5 rfl (by kernel_rfl) ?_
  rintro β4 _ _ hle_β4 (⟨s3, Ao3, co3, M3, hadd, rfl, hLI3, rfl⟩ | ⟨hadd, rfl, rfl⟩)
  ·
   replace hG := hG.le hle_β4
   replace hle0 := hle0.trans hle_β4
   refine TriL.segK (k' := 3) (fr' := [(9, .pointer (some ⟨b3, 0, none⟩)), (25, .bool false)]) (obl := []) [o_] [9, 25] (fun _ _ => by kernel_rfl) trivial ?_
   refine TriL.nil (by kernel_rfl) (TriQ.next ?_)
   refine Tri.condF (fun _ => by kernel_rfl) ?_
   refine Tri.skip (TriQ.next (Tri.seq (Tri.region ?_)))
   refine TriL.rebase (Φ := fun β' => RowB β' Ao3 (linesV M3 s3.out)) 3 [0, 1, 2, 4, 5] (hps' := [.blk b3 [.map (some mb), .slice Ao3 (s3.out.length) (co3), .map (some m2), .int .i64 ↑s3.sum] 84, .abs (MapA Try.prog 3 mb (mf (bf A ns ns.length)) ns.length), .abs (MapA Try.prog 3 m2 (mf (fpath ns s3.fst)) s3.cnt), .abs R, .blk b1 [.slice A (ns.length) (c)] 24]) rfl rfl (by kernel_rfl) (fun F w h β' h1 h2 => RowB.of_row h h1 h2) (fun β6 hle_β6 hR => ?_)
   replace hG := hG.le hle_β6
   replace hLI3 := hLI3.le hle_β6
   replace hle0 := hle0.trans hle_β6
   refine TriL.segK (k' := 4) (fr' := [(4, .slice Ao3 (s3.out.length) (co3)), (5, .int .i64 0)]) (obl := [b3 = b3]) [o_, ⟨[.at 0], none, none, none, none⟩, o_, o_] [4, 5] (fun _ _ => by kernel_rfl) ⟨rfl, trivial⟩ ?_
   refine TriL.nil (by kernel_rfl) (TriQ.next (Tri.ret ?_))
   exact TriQ.retB (v := .tuple #[.slice Ao3 (s3.out.length) (co3), .int .i64 0]) (l := []) (obl := []) [] [3] hle0 (fun _ => by kernel_rfl) trivial rfl (by kernel_rfl) (⟨Ao3, co3, M3, by rw [treeG_some hbg hadd], rfl, by rw [treeG_some hbg hadd]; exact ⟨hR, hLI3⟩⟩)
  ·
   replace hG := hG.le hle_β4
   replace hle0 := hle0.trans hle_β4
   refine TriL.segK (k' := 3) (fr' := [(9, .pointer (some ⟨b3, 0, none⟩)), (25, .bool true)]) (obl := []) [o_] [9, 25] (fun _ _ => by kernel_rfl) trivial ?_
   refine TriL.nil (by kernel_rfl) (TriQ.next ?_)
   refine Tri.condT (fun _ => by kernel_rfl) ?_
   refine Tri.seq (Tri.region ?_)
   refine TriL.segK (k' := 2) (fr' := [(4, .slice none (0) (0)), (5, .int .i64 142)]) (obl := []) [o_, o_] [4, 5] (fun _ _ => by kernel_rfl) trivial ?_
   refine TriL.nil (by kernel_rfl) (TriQ.next (Tri.ret (TriQ.passRet ?_)))
   exact TriQ.retB (v := .tuple #[.slice none (0) (0), .int .i64 142]) (l := []) (obl := []) [] [0] hle0 (fun _ => by kernel_rfl) trivial rfl (by kernel_rfl) (⟨none, 0, ⟨fun _ => none, fun _ => 0⟩, by rw [treeG_none hbg hadd]; rfl, rfl, by rw [treeG_none hbg hadd]; exact ⟨RowB.nil, LinesIn.nil⟩⟩)
 ·
  refine TriL.segK (k' := 10) (fr' := [(6, x), (7, y), (8, .int .i64 ((beginC ns root)))]) (obl := []) [o_, o_, o_, o_, o_, o_, o_] [6, 7, 8] (fun _ _ => by kernel_rfl) trivial ?_
  refine TriL.nil (by kernel_rfl) (TriQ.next (Tri.seq (Tri.seq (Tri.region ?_))))
  refine TriL.segK (k' := 2) (fr' := [(6, x), (7, y), (8, .int .i64 ((beginC ns root))), (18, .bool (!(decide (((beginC ns root) : Int) = (0 : Int)))))]) (obl := []) [o_, o_] [6, 7, 8, 18] (fun _ _ => by kernel_rfl) trivial ?_
  refine TriL.nil (by kernel_rfl) (TriQ.next ?_)
  refine Tri.condN (p := ((beginC ns root) : Int) = (0 : Int)) (fun _ => by kernel_rfl) (fun h18 => ?_) (fun h18 => ?_)
  ·
   refine Tri.seq (Tri.region ?_)
   refine TriL.segK (k' := 3) (fr' := [(4, .slice none (0) (0)), (5, .int .i64 ((beginC ns root)))]) (obl := []) [o_, o_, o_] [4, 5] (fun _ _ => by kernel_rfl) trivial ?_
   refine TriL.nil (by kernel_rfl) (TriQ.next (Tri.ret (TriQ.passRet ?_)))
   exact TriQ.retB (v := .tuple #[.slice none (0) (0), .int .i64 ((beginC ns root))]) (l := []) (obl := []) [] [0] hle0 (fun _ => by kernel_rfl) trivial rfl (by kernel_rfl) (⟨none, 0, ⟨fun _ => none, fun _ => 0⟩, by rw [treeG_bad hbg]; rfl, rfl, by rw [treeG_bad hbg]; exact ⟨RowB.nil, LinesIn.nil⟩⟩)
  ·
   exact absurd h18 hbg
end Go.Proofs.Ytjpdcppdoonmdaa
end
/- part GTm. PROVED HERE: the bounds of what Tree answers. CONDITIONS: none. -/
section
namespace Go.Proofs.Ytjpdcppdoonmdaa
open Go.RowKit
/-- every line's data are those of a node, or none -/
def LinesOf (ls : List LineM) : Prop := ∀ i, i < ls.length → (ln ls i).data.length ≤ 1048576
theorem LinesOf.push {ns : List NodeM} {k : Nat} {p : ByteArray} {s : TS} (hd : ∀ i, i < ns.length → (nd ns i).data.length ≤ 1048576 ∧ (nd ns i).ents.length ≤ 1048576) (hk : k < ns.length) (h : LinesOf s.out) : LinesOf (push ns k p s).out := by
  intro i hi
  rw [push_out] at hi ⊢
  by_cases e : i = s.out.length
  · subst e
    rw [ln_last]
    unfold lineOf
    split
    · exact (hd k hk).1
    · exact Nat.zero_le _
  · have hi : i < s.out.length := by simp at hi; omega
    rw [ln_init _ _ hi]
    exact h i hi
theorem addF_lines {ns : List NodeM} (hn : Named ns) (hd : ∀ i, i < ns.length → (nd ns i).data.length ≤ 1048576 ∧ (nd ns i).ents.length ≤ 1048576) : ∀ (f k : Nat) (p : ByteArray) (s s' : TS), k < ns.length → LinesOf s.out → addF ns f k p s = some s' → LinesOf s'.out
  | 0, _, _, _, _, _, _, h => by cases h
  | f + 1, k, p, s, s', hk, hs, h => by
    rw [addF] at h
    split at h
    · cases h
    · exact foldE_inv (I := fun x => LinesOf x.out) (fun e he a b ha hab => by
        obtain ⟨j, hj, rfl⟩ := mem_en he
        exact addF_lines hn hd f _ _ a b (hn k hk j hj).2.2 ha hab) (hs.push hd hk) h
theorem treeG_small {ns : List NodeM} {root : Int} (hB : GraphB ns 1048576) : (treeG ns root).1.length ≤ 16777216 ∧ ∀ i, i < (treeG ns root).1.length → (ln (treeG ns root).1 i).data.length ≤ 1048576 := by
  by_cases hbg : beginC ns root = 0
  · obtain ⟨hok, hat, _⟩ := beginC_zero hbg
    cases h : addF ns 4194305 (tgt ns root) ⟨#[46]⟩ TS0 with
    | none => rw [treeG_none hbg h]; exact ⟨Nat.zero_le _, fun i hi => absurd hi (Nat.not_lt_zero i)⟩
    | some s =>
      rw [treeG_some hbg h]
      have h1 := (addF_behind hok.named 4194305 (tgt ns root) ⟨#[46]⟩ TS0 s (atI_lt hat).1 (show (1 : Nat) ≤ 1 by decide) TS0_ok h).1.ok
      have h2 := h1.out
      have h3 := h1.sum
      exact ⟨by show s.out.length ≤ _; omega, addF_lines hok.named hB.hd 4194305 (tgt ns root) ⟨#[46]⟩ TS0 s (atI_lt hat).1 (fun i hi => absurd hi (Nat.not_lt_zero i)) h⟩
  · rw [treeG_bad hbg]; exact ⟨Nat.zero_le _, fun i hi => absurd hi (Nat.not_lt_zero i)⟩
end Go.Proofs.Ytjpdcppdoonmdaa
end
/- part GPt. PROVED HERE: the path of a tree's line, cut at its strokes, leads to the line's node. CONDITIONS: none. -/
section
namespace Go.Proofs.Ytjpdcppdoonmdaa
open Go.RowKit Go.Maps
/-- a path's parts, up to a letter, and where the next part begins -/
def cuts (p : ByteArray) : Nat → List ByteArray × Nat
  | 0 => ([], 0)
  | j + 1 => if j = p.size ∨ byteAt p j = 47 then ((cuts p j).1 ++ [p.extract (cuts p j).2 j], j + 1) else cuts p j
theorem cuts_hit {p : ByteArray} {j : Nat} (h : j = p.size ∨ byteAt p j = 47) : cuts p (j + 1) = ((cuts p j).1 ++ [p.extract (cuts p j).2 j], j + 1) := if_pos h
theorem cuts_miss {p : ByteArray} {j : Nat} (h : ¬ j = p.size) (h2 : ¬ byteAt p j = 47) : cuts p (j + 1) = cuts p j := if_neg (fun e => e.elim h h2)
theorem cuts_le (p : ByteArray) : ∀ j, (cuts p j).2 ≤ j ∧ (cuts p j).1.length ≤ j
  | 0 => ⟨Nat.le_refl _, Nat.le_refl _⟩
  | j + 1 => by
    have := cuts_le p j
    rw [cuts]
    split
    · exact ⟨Nat.le_refl _, by simp; omega⟩
    · omega
theorem byteAt_left {a b : ByteArray} {j : Nat} (h : j < a.size) : byteAt (a ++ b) j = byteAt a j := by
  unfold byteAt
  rw [ByteArray.data_append, Array.getD_eq_getD_getElem?, Array.getD_eq_getD_getElem?, Array.getElem?_append_left h]
theorem byteAt_right {a b : ByteArray} {j : Nat} (h : a.size ≤ j) : byteAt (a ++ b) j = byteAt b (j - a.size) := by
  unfold byteAt
  rw [ByteArray.data_append, Array.getD_eq_getD_getElem?, Array.getD_eq_getD_getElem?, Array.getElem?_append_right h]
  rfl
theorem cuts_left {a b : ByteArray} : ∀ {j : Nat}, j ≤ a.size → b.size ≠ 0 → cuts (a ++ b) j = cuts a j
  | 0, _, _ => rfl
  | j + 1, h, hb => by
    have e := cuts_left (a := a) (b := b) (j := j) (by omega) hb
    have hl := cuts_le a j
    rw [cuts, cuts, e, byteAt_left h, ByteArray.size_append]
    have h1 : ¬ j = a.size + b.size := by omega
    have h2 : ¬ j = a.size := by omega
    have h3 : (a ++ b).extract (cuts a j).2 j = a.extract (cuts a j).2 j := by
      rw [ByteArray.extract_append, show j - a.size = 0 by omega]
      apply ByteArray.ext
      simp
    rw [h3]
    simp only [h1, h2, false_or]
theorem cuts_flat {p : ByteArray} {k : Nat} : ∀ {t : Nat}, k + t ≤ p.size → (∀ j, k ≤ j → j < p.size → ¬ byteAt p j = 47) → cuts p (k + t) = cuts p k
  | 0, _, _ => rfl
  | t + 1, h, hb => by
    rw [← Nat.add_assoc, cuts_miss (by omega) (hb _ (by omega) (by omega))]
    exact cuts_flat (by omega) hb
def Free (n : ByteArray) : Prop := ∀ j, j < n.size → ¬ byteAt n j = 47
/-- a path of names -/
inductive Path : List ByteArray → ByteArray → Prop
  | one {n : ByteArray} : GoodName n → Path [n] n
  | more {l : List ByteArray} {p n : ByteArray} : Path l p → GoodName n → Path (l ++ [n]) (p ++ ⟨#[47]⟩ ++ n)
theorem Path.size {l : List ByteArray} {p : ByteArray} (h : Path l p) : 1 ≤ p.size := by
  cases h with
  | one h => exact h.1
  | more h hn => rw [ByteArray.size_append]; have := hn.1; omega
theorem Path.cuts {l : List ByteArray} {p : ByteArray} (h : Path l p) : (cuts p (p.size + 1)).1 = l := by
  induction h with
  | @one n h =>
    have h1 := cuts_flat (p := n) (k := 0) (t := n.size) (by omega) (fun j _ hj => (h.2.2.2.2 j hj).2)
    rw [Nat.zero_add] at h1
    rw [cuts_hit (.inl rfl), h1]
    show [] ++ [n.extract 0 n.size] = [n]
    rw [List.nil_append]
    congr 1
    apply ByteArray.ext
    simp
  | @more l p n h hn ih =>
    have e1 : (⟨#[47]⟩ : ByteArray).size = 1 := rfl
    have hs : (p ++ ⟨#[47]⟩ ++ n).size = p.size + 1 + n.size := by rw [ByteArray.size_append, ByteArray.size_append, e1]
    have hb : byteAt (p ++ ⟨#[47]⟩ ++ n) p.size = 47 := by
      rw [ByteArray.append_assoc, byteAt_right (Nat.le_refl _), Nat.sub_self, byteAt_left (by rw [e1]; decide)]
      rfl
    have h0 : Proofs.Ytjpdcppdoonmdaa.cuts (p ++ ⟨#[47]⟩ ++ n) p.size = Proofs.Ytjpdcppdoonmdaa.cuts p p.size := by
      rw [ByteArray.append_assoc]
      exact cuts_left (Nat.le_refl _) (by rw [ByteArray.size_append, e1]; omega)
    have hx : ∀ a, a ≤ p.size → (p ++ ⟨#[47]⟩ ++ n).extract a p.size = p.extract a p.size := fun a _ => by
      rw [ByteArray.append_assoc, ByteArray.extract_append_size_left]
    have h1 : Proofs.Ytjpdcppdoonmdaa.cuts (p ++ ⟨#[47]⟩ ++ n) (p.size + 1) = Proofs.Ytjpdcppdoonmdaa.cuts p (p.size + 1) := by
      rw [cuts_hit (.inr hb), cuts_hit (p := p) (.inl rfl), h0, hx _ (cuts_le p p.size).1]
    have h2 := cuts_flat (p := p ++ ⟨#[47]⟩ ++ n) (k := p.size + 1) (t := n.size) (by omega) (fun j h1 h2 => by
      rw [byteAt_right (by rw [ByteArray.size_append, e1]; exact h1), ByteArray.size_append, e1]
      exact (hn.2.2.2.2 _ (by omega)).2)
    rw [cuts_hit (.inl rfl), hs, h2, h1, ih]
    show l ++ [_] = _
    congr 2
    rw [cuts_hit (p := p) (.inl rfl)]
    exact ByteArray.extract_append_eq_right (by rw [ByteArray.size_append, e1]) (by rw [ByteArray.size_append, e1])
theorem Path.ne {l : List ByteArray} {p : ByteArray} (h : Path l p) : ¬ l = [] := by cases h <;> simp
theorem Path.good {l : List ByteArray} {p : ByteArray} (h : Path l p) : ∀ n ∈ l, GoodName n := by
  induction h with
  | one h => intro n hn; rw [List.mem_singleton.1 hn]; exact h
  | more h hn ih =>
    intro n hm
    rcases List.mem_append.1 hm with hm | hm
    · exact ih n hm
    · rw [List.mem_singleton.1 hm]; exact hn
theorem Path.inj {l m : List ByteArray} {p : ByteArray} (h : Path l p) (h2 : Path m p) : l = m := by rw [← h.cuts, ← h2.cuts]
theorem Path.not_dot {l : List ByteArray} (h : Path l ⟨#[46]⟩) : False := by
  have h1 := h.cuts
  have h2 : (Proofs.Ytjpdcppdoonmdaa.cuts ⟨#[46]⟩ ((⟨#[46]⟩ : ByteArray).size + 1)).1 = [⟨#[46]⟩] := by decide +kernel
  rw [h2] at h1
  exact (h.good _ (by rw [← h1]; simp)).2.2.1 rfl
def IsPath (l : List ByteArray) (p : ByteArray) : Prop := (l = [] ∧ p = ⟨#[46]⟩) ∨ Path l p
theorem IsPath.below {l : List ByteArray} {p n : ByteArray} {top : Nat} (h : IsPath l p) (ht : top = 0 ↔ l = []) (hn : GoodName n) : Path (l ++ [n]) (below top p n) := by
  unfold Proofs.Ytjpdcppdoonmdaa.below
  rcases h with ⟨h1, h2⟩ | h
  · rw [if_pos (ht.2 h1), h1]; exact .one hn
  · rw [if_neg (fun e => h.ne (ht.1 e))]; exact .more h hn
/-- a way from a place along names -/
def WayTo (ns : List NodeM) (r : Nat) (l : List ByteArray) (z : Nat) : Prop := ∀ rest, findM ns r (l ++ rest) = findM ns z rest
theorem WayTo.step {ns : List NodeM} {r z j : Nat} {l : List ByteArray} (h : WayTo ns r l z) (hok : GraphOk ns) (hz : z < ns.length) (hj : j < (nd ns z).ents.length) : WayTo ns r (l ++ [(en (nd ns z).ents j).name]) (tgt ns (en (nd ns z).ents j).id) := by
  intro rest
  rw [List.append_assoc, h]
  have hk : (nd ns z).kind = 2 := by
    apply Classical.byContradiction
    intro hk
    have := (hok.node z hz).ents hk
    omega
  show findM ns z ((en (nd ns z).ents j).name :: rest) = _
  conv => lhs; unfold findM
  rw [if_neg (by omega), if_neg (by omega), findE_some (sorted_of (hok.ents z hz)) hj rfl]
def lastP (out : List LineM) : ByteArray := (ln out (out.length - 1)).path
structure LineOk (ns : List NodeM) (r : Nat) (out : List LineM) (i : Nat) : Prop where
  way : ∃ l z, IsPath l (ln out i).path ∧ (l = [] ↔ i = 0) ∧ WayTo ns r l z ∧ z < ns.length ∧ (ln out i).kind = (nd ns z).kind ∧ (ln out i).mode = (nd ns z).mode
  size : (ln out i).path.size ≤ 4194304
  new : 0 < i → ¬ (ln out i).path = (ln out (i - 1)).path
def Told (ns : List NodeM) (r : Nat) (out : List LineM) : Prop := ∀ i, i < out.length → LineOk ns r out i
theorem lineOf_path (n : NodeM) (p x : ByteArray) : (lineOf n p x).path = p ∧ (lineOf n p x).kind = n.kind ∧ (lineOf n p x).mode = n.mode := by
  unfold lineOf; split <;> exact ⟨rfl, rfl, rfl⟩
theorem Told.push {ns : List NodeM} {r k : Nat} {p : ByteArray} {l : List ByteArray} {s : TS} (h : Told ns r s.out) (hp : IsPath l p) (ht : s.out.length = 0 ↔ l = []) (hw : WayTo ns r l k) (hk : k < ns.length) (hs : p.size ≤ 4194304)
    (hl : s.out.length ≠ 0 → ¬ lastP s.out = p) : Told ns r (push ns k p s).out ∧ lastP (push ns k p s).out = p := by
  rw [push_out]
  obtain ⟨e1, e2, e3⟩ := lineOf_path (nd ns k) p (s.fst k)
  refine ⟨fun i hi => ?_, by unfold lastP; rw [List.length_append, List.length_singleton, Nat.add_sub_cancel, ln_last, e1]⟩
  by_cases e : i = s.out.length
  · subst e
    refine ⟨?_, ?_, fun h0 => ?_⟩
    · rw [ln_last, e1, e2, e3]; exact ⟨l, k, hp, ht.symm, hw, hk, rfl, rfl⟩
    · rw [ln_last, e1]; exact hs
    · rw [ln_last, e1, ln_init _ _ (by omega)]
      exact fun e => hl (by omega) e.symm
  · have hi : i < s.out.length := by simp at hi; omega
    obtain ⟨h1, h2, h3⟩ := h i hi
    refine ⟨?_, ?_, fun h0 => ?_⟩
    · rw [ln_init _ _ hi]; exact h1
    · rw [ln_init _ _ hi]; exact h2
    · rw [ln_init _ _ hi, ln_init _ _ (by omega)]; exact h3 h0
def LastIn (out : List LineM) (l : List ByteArray) (es : List EntM) (j : Nat) : Prop := out.length ≠ 0 ∧ ∃ t, IsPath (l ++ t) (lastP out) ∧ (t = [] ∨ ∃ i t', i < j ∧ t = (en es i).name :: t')
theorem addF_told {ns : List NodeM} (hok : GraphOk ns) {r : Nat} : ∀ (f k : Nat) (p : ByteArray) (l : List ByteArray) (s s' : TS), k < ns.length → WayTo ns r l k → IsPath l p → (s.out.length = 0 ↔ l = []) → Told ns r s.out → (s.out.length ≠ 0 → ¬ lastP s.out = p) → addF ns f k p s = some s' →
    Told ns r s'.out ∧ s'.out.length ≠ 0 ∧ ∃ t, IsPath (l ++ t) (lastP s'.out)
  | 0, _, _, _, _, _, _, _, _, _, _, _, h => by cases h
  | f + 1, k, p, l, s, s', hk, hw, hp, ht, hs, hl, h => by
    rw [addF] at h
    split at h
    · cases h
    · rename_i h0
      obtain ⟨h1, h2⟩ := hs.push (ns := ns) (k := k) hp ht hw hk (by omega) hl
      have key : ∀ n j, n + j = (nd ns k).ents.length → ∀ a, Told ns r a.out → LastIn a.out l (nd ns k).ents j → foldE (fun e s' => addF ns f (tgt ns e.id) (below s.out.length p e.name) s') ((nd ns k).ents.drop j) a = some s' → Told ns r s'.out ∧ s'.out.length ≠ 0 ∧ ∃ t, IsPath (l ++ t) (lastP s'.out) := by
        intro n
        induction n with
        | zero =>
          intro j hj a ha hla hf
          rw [foldE_end (by omega)] at hf
          cases hf
          obtain ⟨hn0, t, h3, _⟩ := hla
          exact ⟨ha, hn0, t, h3⟩
        | succ n ih =>
          intro j hj a ha hla hf
          rw [foldE_drop (by omega)] at hf
          cases h4 : addF ns f (tgt ns (en (nd ns k).ents j).id) (below s.out.length p (en (nd ns k).ents j).name) a with
          | none => rw [h4] at hf; cases hf
          | some b =>
            rw [h4] at hf
            have hjl : j < (nd ns k).ents.length := by omega
            have hg : GoodName (en (nd ns k).ents j).name := (hok.ents k hk j hjl).good
            have hbp := hp.below ht hg
            obtain ⟨hn0, t, h5, h6⟩ := hla
            obtain ⟨h7, h8, t2, h9⟩ := addF_told hok f _ _ (l ++ [(en (nd ns k).ents j).name]) a b (hok.named k hk j hjl).2.2 (hw.step hok hk hjl) (.inr hbp) ⟨fun e => absurd e hn0, fun e => absurd e (by simp)⟩ ha (fun _ e => by
              rw [e] at h5
              rcases h5 with ⟨_, h5⟩ | h5
              · rw [h5] at hbp; exact hbp.not_dot
              · have h10 := List.append_cancel_left (h5.inj hbp)
                rcases h6 with h6 | ⟨i, t', hi, h6⟩
                · rw [h6] at h10; cases h10
                · rw [h6] at h10
                  have := (sorted_of (hok.ents k hk)).inj (i := i) (j := j) (by omega) hjl (by injection h10)
                  omega) h4
            exact ih (j + 1) (by omega) b h7 ⟨h8, (en (nd ns k).ents j).name :: t2, by rw [List.append_assoc] at h9; exact h9, .inr ⟨j, t2, Nat.lt_succ_self j, rfl⟩⟩ hf
      have h3 := key _ 0 rfl (Proofs.Ytjpdcppdoonmdaa.push ns k p s) h1 ⟨by rw [push_len]; omega, [], by rw [List.append_nil, h2]; exact hp, .inl rfl⟩
      rw [List.drop_zero] at h3
      exact h3 h
theorem treeG_ok {ns : List NodeM} {root : Int} (h : (treeG ns root).2 = 0) : beginC ns root = 0 ∧ ∃ s, addF ns 4194305 (tgt ns root) ⟨#[46]⟩ TS0 = some s ∧ treeG ns root = (s.out, 0) := by
  by_cases hb : beginC ns root = 0
  · cases h1 : addF ns 4194305 (tgt ns root) ⟨#[46]⟩ TS0 with
    | none => rw [treeG_none hb h1] at h; exact absurd h (by decide)
    | some s => exact ⟨hb, s, rfl, treeG_some hb h1⟩
  · rw [treeG_bad hb] at h; exact absurd h hb
theorem treeG_nil {ns : List NodeM} {root : Int} (h : ¬ (treeG ns root).2 = 0) : (treeG ns root).1.length = 0 := by
  by_cases hb : beginC ns root = 0
  · cases h1 : addF ns 4194305 (tgt ns root) ⟨#[46]⟩ TS0 with
    | none => rw [treeG_none hb h1]; rfl
    | some s => rw [treeG_some hb h1] at h; exact absurd rfl h
  · rw [treeG_bad hb]; rfl
/-- where the cutting of line i ends -/
def stop (i : Nat) (p : ByteArray) : Nat := if i = 0 then 0 else p.size + 1
structure Leads (ns : List NodeM) (root : Int) (i : Nat) (l : LineM) (z : Nat) : Prop where
  at_ : z < ns.length
  find : findG ns root (cuts l.path (stop i l.path)).1 = ((nd ns z).id, 0)
  place : atI ns (nd ns z).id = (z : Int)
  kind : (nd ns z).kind = l.kind
  mode : (nd ns z).mode = l.mode
  first : i = 0 → (nd ns z).id = root ∧ l.path = ⟨#[46]⟩
theorem tree_leads {ns : List NodeM} {root : Int} (h : (treeG ns root).2 = 0) {i : Nat} (hi : i < (treeG ns root).1.length) : (∃ z, Leads ns root i (ln (treeG ns root).1 i) z) ∧ (ln (treeG ns root).1 i).path.size ≤ 4194304 ∧ (0 < i → ¬ (ln (treeG ns root).1 i).path = (ln (treeG ns root).1 (i - 1)).path) := by
  obtain ⟨hb, s, h1, h2⟩ := treeG_ok h
  obtain ⟨hok, hat, _⟩ := beginC_zero hb
  have htl := atI_lt hat
  rw [h2] at hi ⊢
  obtain ⟨h3, _⟩ := addF_told hok (r := tgt ns root) 4194305 (tgt ns root) ⟨#[46]⟩ [] TS0 s htl.1 (fun _ => rfl) (.inl ⟨rfl, rfl⟩) ⟨fun _ => rfl, fun _ => rfl⟩ (fun i hi => absurd hi (Nat.not_lt_zero i)) (fun e => absurd rfl e) h1
  obtain ⟨⟨l, z, h4, h5, h6, h7, h8, h9⟩, h10, h11⟩ := h3 i hi
  have hz := h6 []
  rw [List.append_nil] at hz
  refine ⟨⟨z, h7, ?_, (atI_self hok.rise h7).1, h8.symm, h9.symm, fun h0 => ?_⟩, h10, h11⟩
  · rw [findG_ok hb]
    have e : (cuts (ln s.out i).path (stop i (ln s.out i).path)).1 = l := by
      unfold stop
      rcases h4 with ⟨h4, _⟩ | h4
      · rw [if_pos (h5.1 h4), h4]; rfl
      · rw [if_neg (fun e => h4.ne (h5.2 e)), h4.cuts]
    rw [e, hz]
    rfl
  · have e := h5.2 h0
    rw [e] at hz h4
    have hz : ((nd ns (tgt ns root)).id, (0 : Int)) = ((nd ns z).id, 0) := hz
    refine ⟨?_, ?_⟩
    · rw [← (Prod.mk.inj hz).1]; exact htl.2.1
    · rcases h4 with ⟨_, h4⟩ | h4
      · exact h4
      · exact absurd rfl h4.ne
end Go.Proofs.Ytjpdcppdoonmdaa
end
/- part GPu. PROVED HERE: the paths of a tree's lines are all unlike; the first is the dot, the others are paths of names. CONDITIONS: none. -/
section
namespace Go.Proofs.Ytjpdcppdoonmdaa
open Go.RowKit Go.Maps
theorem IsPath.inj {a b : List ByteArray} {p : ByteArray} (h : IsPath a p) (g : IsPath b p) : a = b := by
  rcases h with ⟨h1, h2⟩ | h
  · rcases g with ⟨g1, _⟩ | g
    · rw [h1, g1]
    · rw [h2] at g; exact g.not_dot.elim
  · rcases g with ⟨_, g2⟩ | g
    · rw [g2] at h; exact h.not_dot.elim
    · exact h.inj g
/-- lines that were told below names l: their paths begin with l, and are all unlike -/
structure News (l : List ByteArray) (es : List EntM) (j : Nat) (new : List LineM) : Prop where
  nodup : (new.map LineM.path).Nodup
  below : ∀ x, x ∈ new → ∃ t, IsPath (l ++ t) x.path ∧ (t = [] ∨ ∃ i t', i < j ∧ t = (en es i).name :: t')
theorem addF_news {ns : List NodeM} (hok : GraphOk ns) : ∀ (f k : Nat) (p : ByteArray) (l : List ByteArray) (s s' : TS), k < ns.length → IsPath l p → (s.out.length = 0 ↔ l = []) → addF ns f k p s = some s' →
    ∃ new, s'.out = s.out ++ lineOf (nd ns k) p (s.fst k) :: new ∧ News l (nd ns k).ents (nd ns k).ents.length (lineOf (nd ns k) p (s.fst k) :: new)
  | 0, _, _, _, _, _, _, _, _, h => by cases h
  | f + 1, k, p, l, s, s', hk, hp, ht, h => by
    rw [addF] at h
    split at h
    · cases h
    · obtain ⟨e1, _, _⟩ := lineOf_path (nd ns k) p (s.fst k)
      have key : ∀ n j, n + j = (nd ns k).ents.length → ∀ a new, a.out = s.out ++ lineOf (nd ns k) p (s.fst k) :: new → News l (nd ns k).ents j (lineOf (nd ns k) p (s.fst k) :: new) → foldE (fun e s' => addF ns f (tgt ns e.id) (below s.out.length p e.name) s') ((nd ns k).ents.drop j) a = some s' →
          ∃ new, s'.out = s.out ++ lineOf (nd ns k) p (s.fst k) :: new ∧ News l (nd ns k).ents (nd ns k).ents.length (lineOf (nd ns k) p (s.fst k) :: new) := by
        intro n
        induction n with
        | zero =>
          intro j hj a new ha hN hf
          rw [foldE_end (by omega)] at hf
          cases hf
          rw [Nat.zero_add] at hj
          exact ⟨new, ha, hj ▸ hN⟩
        | succ n ih =>
          intro j hj a new ha hN hf
          rw [foldE_drop (by omega)] at hf
          cases h4 : addF ns f (tgt ns (en (nd ns k).ents j).id) (below s.out.length p (en (nd ns k).ents j).name) a with
          | none => rw [h4] at hf; cases hf
          | some b =>
            rw [h4] at hf
            have hjl : j < (nd ns k).ents.length := by omega
            have hbp := hp.below ht (hok.ents k hk j hjl).good
            obtain ⟨new2, g1, g2⟩ := addF_news hok f _ _ (l ++ [(en (nd ns k).ents j).name]) a b (hok.named k hk j hjl).2.2 (.inr hbp) ⟨fun e => by rw [ha] at e; simp at e, fun e => absurd e (by simp)⟩ h4
            have g3 : ∀ x, x ∈ lineOf (nd ns (tgt ns (en (nd ns k).ents j).id)) (below s.out.length p (en (nd ns k).ents j).name) (a.fst (tgt ns (en (nd ns k).ents j).id)) :: new2 → ∃ t, IsPath (l ++ (en (nd ns k).ents j).name :: t) x.path := fun x hx => by
              obtain ⟨t, h5, _⟩ := g2.below x hx
              exact ⟨t, by rw [List.append_assoc] at h5; exact h5⟩
            refine ih (j + 1) (by omega) b (new ++ _ :: new2) (by rw [g1, ha, List.append_assoc]; rfl) ⟨?_, fun x hx => ?_⟩ hf
            · rw [← List.cons_append, List.map_append]
              refine List.nodup_append.2 ⟨hN.nodup, g2.nodup, fun y hy z hz e => ?_⟩
              obtain ⟨x, hx, rfl⟩ := List.mem_map.1 hy
              obtain ⟨x2, hx2, rfl⟩ := List.mem_map.1 hz
              obtain ⟨t, h5, h6⟩ := hN.below x hx
              obtain ⟨t2, h7⟩ := g3 x2 hx2
              rw [e] at h5
              have h8 := List.append_cancel_left (h5.inj h7)
              rcases h6 with h6 | ⟨i, t', hi, h6⟩
              · rw [h6] at h8; cases h8
              · rw [h6] at h8
                have := (sorted_of (hok.ents k hk)).inj (i := i) (j := j) (by omega) hjl (by injection h8)
                omega
            · rw [← List.cons_append] at hx
              rcases List.mem_append.1 hx with hx | hx
              · obtain ⟨t, h5, h6⟩ := hN.below x hx
                exact ⟨t, h5, h6.imp id fun ⟨i, t', hi, h6⟩ => ⟨i, t', by omega, h6⟩⟩
              · obtain ⟨t, h5⟩ := g3 x hx
                exact ⟨_, h5, .inr ⟨j, t, Nat.lt_succ_self j, rfl⟩⟩
      have h3 := key _ 0 rfl (push ns k p s) [] (push_out ns k p s) ⟨by simp, fun x hx => by rw [List.mem_singleton.1 hx]; exact ⟨[], by rw [List.append_nil, e1]; exact hp, .inl rfl⟩⟩
      rw [List.drop_zero] at h3
      exact h3 h
/-- the paths of lines: all unlike, the first a dot, the others of names -/
structure GoodLines (ls : List LineM) : Prop where
  nodup : ∀ i j, i < j → j < ls.length → ¬ (ln ls i).path = (ln ls j).path
  first : 0 < ls.length → (ln ls 0).path = ⟨#[46]⟩
  path : ∀ i, 0 < i → i < ls.length → ∃ l, Path l (ln ls i).path
theorem tree_good {ns : List NodeM} {root : Int} (h : (treeG ns root).2 = 0) : GoodLines (treeG ns root).1 := by
  obtain ⟨hb, s, h1, h2⟩ := treeG_ok h
  obtain ⟨hok, hat, _⟩ := beginC_zero hb
  have htl := atI_lt hat
  rw [h2]
  obtain ⟨new, h3, h4⟩ := addF_news hok 4194305 (tgt ns root) ⟨#[46]⟩ [] TS0 s htl.1 (.inl ⟨rfl, rfl⟩) ⟨fun _ => rfl, fun _ => rfl⟩ h1
  have hout : s.out = lineOf (nd ns (tgt ns root)) ⟨#[46]⟩ (TS0.fst (tgt ns root)) :: new := h3
  obtain ⟨e1, _, _⟩ := lineOf_path (nd ns (tgt ns root)) ⟨#[46]⟩ (TS0.fst (tgt ns root))
  have hnd : ∀ i j, i < j → j < s.out.length → ¬ (ln s.out i).path = (ln s.out j).path := fun i j hij hj e => by
    have h5 := h4.nodup
    rw [← hout] at h5
    have h6 := List.pairwise_iff_getElem.1 h5 i j (by simp; omega) (by simpa using hj) hij
    have hg : ∀ x (hx : x < s.out.length), ln s.out x = s.out[x] := fun x hx => by
      unfold ln; rw [List.getD_eq_getElem?_getD, List.getElem?_eq_getElem hx]; rfl
    rw [hg i (by omega), hg j hj] at e
    exact h6 (by simpa using e)
  have hf : (ln s.out 0).path = ⟨#[46]⟩ := by rw [hout]; exact e1
  refine ⟨hnd, fun _ => hf, fun i h0 hi => ?_⟩
  have hm : ln s.out i ∈ s.out := by
    unfold ln; rw [List.getD_eq_getElem?_getD, List.getElem?_eq_getElem hi]; exact List.getElem_mem hi
  rw [hout] at hm
  obtain ⟨t, h5, _⟩ := h4.below _ hm
  rcases h5 with ⟨_, h5⟩ | h5
  · exact absurd (by rw [← hout] at h5; rw [hf, h5]) (hnd 0 i h0 hi)
  · exact ⟨_, by rw [← hout] at h5; exact h5⟩
end Go.Proofs.Ytjpdcppdoonmdaa
end
