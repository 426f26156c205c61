/-
  PROVED HERE: lemmas and contracts of functions (texts of this repo, joined): GLit, GU, GSq, GPlB, GPb, GRd, LawR.
  CONDITIONS: as the theorems say.
-/
import Derived.Test.YtjpdcppdoonmdaaMRound5
/- part GLit. PROVED HERE: the little graph is made; the laws' first look CONDITIONS: as the theorems say. Printed by a program of this repo (wip/v). -/
section
namespace Go.Proofs.Ytjpdcppdoonmdaa
open Go.RowKit
attribute [local irreducible] TriL TriLQ Tri TriQ
set_option maxRecDepth 100000 in
set_option maxHeartbeats 4000000 in
theorem sp_little {β : Bs} : SpecB Try.prog β 19 #[] [] (fun β' v l => ∃ B L', v = .agg #[.slice B 3 3] ∧ l = [] ∧ GraphAt β' B littleM L') := by
 refine SpecB.enter Try.func19 rfl Try.ntmps19 (Nat.le_of_ble_eq_true rfl) (fun hle0 R => ?_)
 refine Tri.seq (Tri.region ?_)
 refine TriL.segN (k' := 1) (fr' := fun b1 => [(0, .pointer (some ⟨b1, 0, none⟩))]) (hps' := fun b1 => [.abs R, .blk b1 [.slice none (0) (0)] 24]) (obl := fun b1 => []) [o_] [0] [0, 1] (fun _ _ => by kernel_rfl) (fun b1 => trivial) (fun b1 => ?_)
 refine TriL.nil (by kernel_rfl) (TriQ.next (Tri.seq (Tri.region ?_)))
 refine TriL.segN (k' := 5) (fr' := fun b2 => [(0, .pointer (some ⟨b1, 0, none⟩)), (4, .agg #[.int .i64 1, .int .i64 2, .int .i64 0, .int .i64 0, .int .i64 0, .int .i64 0, .int .i64 0, .slice none (0) (0), .string ⟨#[]⟩, .slice (some ⟨b2, 0, none⟩) (2) (2)]), (5, .agg #[.string ⟨#[99]⟩, .int .i64 7])]) (hps' := fun b2 => [.abs R, .blk b1 [.slice none (0) (0)] 24, .blk b2 [.string ⟨#[97]⟩, .int .i64 5, .string ⟨#[98]⟩, .int .i64 7] 72]) (obl := fun b2 => []) [o_, o_, o_, o_, o_] [0, 4, 5] [0, 1, 2] (fun _ _ => by kernel_rfl) (fun b2 => trivial) (fun b2 => ?_)
 refine TriL.segN (k' := 7) (fr' := fun b3 => [(0, .pointer (some ⟨b1, 0, none⟩)), (4, .agg #[.int .i64 1, .int .i64 2, .int .i64 0, .int .i64 0, .int .i64 0, .int .i64 0, .int .i64 0, .slice none (0) (0), .string ⟨#[]⟩, .slice (some ⟨b2, 0, none⟩) (2) (2)]), (7, .agg #[.int .i64 5, .int .i64 2, .int .i64 0, .int .i64 0, .int .i64 0, .int .i64 0, .int .i64 0, .slice none (0) (0), .string ⟨#[]⟩, .slice (some ⟨b3, 0, none⟩) (1) (1)])]) (hps' := fun b3 => [.abs R, .blk b1 [.slice none (0) (0)] 24, .blk b2 [.string ⟨#[97]⟩, .int .i64 5, .string ⟨#[98]⟩, .int .i64 7] 72, .blk b3 [.string ⟨#[99]⟩, .int .i64 7] 72]) (obl := fun b3 => []) [o_, o_] [0, 4, 7] [0, 1, 2, 3] (fun _ _ => by kernel_rfl) (fun b3 => trivial) (fun b3 => ?_)
 refine TriL.segN (k' := 8) (fr' := fun b4 => [(0, .pointer (some ⟨b1, 0, none⟩)), (4, .agg #[.int .i64 1, .int .i64 2, .int .i64 0, .int .i64 0, .int .i64 0, .int .i64 0, .int .i64 0, .slice none (0) (0), .string ⟨#[]⟩, .slice (some ⟨b2, 0, none⟩) (2) (2)]), (7, .agg #[.int .i64 5, .int .i64 2, .int .i64 0, .int .i64 0, .int .i64 0, .int .i64 0, .int .i64 0, .slice none (0) (0), .string ⟨#[]⟩, .slice (some ⟨b3, 0, none⟩) (1) (1)]), (8, .slice (some ⟨b4, 0, none⟩) (1) (1))]) (hps' := fun b4 => [.abs R, .blk b1 [.slice none (0) (0)] 24, .blk b2 [.string ⟨#[97]⟩, .int .i64 5, .string ⟨#[98]⟩, .int .i64 7] 72, .blk b3 [.string ⟨#[99]⟩, .int .i64 7] 72, .blk b4 [.int .u8 120] 5]) (obl := fun b4 => []) [o_] [0, 4, 7, 8] [0, 1, 2, 3, 4] (fun _ _ => by kernel_rfl) (fun b4 => trivial) (fun b4 => ?_)
 refine TriL.markBytes 4 (d := (some 9)) (t := 29) (e := 5) (T := 5) (b := b4) (o := 0) (n := 1) (c := 1) (cs := [.int .u8 120]) (x := (.tmp 8)) (fun _ => by kernel_rfl) (by kernel_rfl) (fun _ => by kernel_rfl) Try.underlying29 Try.underlying5 ?_
 refine TriL.segN (k' := 11) (fr' := fun b5 => [(0, .pointer (some ⟨b1, 0, none⟩)), (11, .slice (some ⟨b5, 0, none⟩) (3) (3))]) (hps' := fun b5 => [.abs R, .blk b1 [.slice none (0) (0)] 24, .blk b2 [.string ⟨#[97]⟩, .int .i64 5, .string ⟨#[98]⟩, .int .i64 7] 72, .blk b3 [.string ⟨#[99]⟩, .int .i64 7] 72, .abs (FrozA b4 [.int .u8 120] 5), .blk b5 [.int .i64 1, .int .i64 2, .int .i64 0, .int .i64 0, .int .i64 0, .int .i64 0, .int .i64 0, .slice none (0) (0), .string ⟨#[]⟩, .slice (some ⟨b2, 0, none⟩) (2) (2), .int .i64 5, .int .i64 2, .int .i64 0, .int .i64 0, .int .i64 0, .int .i64 0, .int .i64 0, .slice none (0) (0), .string ⟨#[]⟩, .slice (some ⟨b3, 0, none⟩) (1) (1), .int .i64 7, .int .i64 1, .int .i64 0, .int .i64 0, .int .i64 0, .int .i64 0, .int .i64 0, .slice (some ⟨b4, 0, none⟩) (1) (1), .string ⟨#[]⟩, .slice none (0) (0)] 32]) (obl := fun b5 => []) [o_, o_] [0, 11] [0, 1, 2, 3, 4, 5] (fun _ _ => by kernel_rfl) (fun b5 => trivial) (fun b5 => ?_)
 refine TriL.mem (fun w hS => hS.toRow (i := 2) (b := b2) (cs := [.string ⟨#[97]⟩, .int .i64 5, .string ⟨#[98]⟩, .int .i64 7]) (e := 72) 2 2 (by kernel_rfl) rfl (by decide)) ?_
 refine TriL.rebase (Φ := fun β' => EntsAt β' (some ⟨b2, 0, none⟩) little1.ents) 2 [0, 1, 3, 4, 5] (hps' := [.abs R, .blk b1 [.slice none (0) (0)] 24, .blk b3 [.string ⟨#[99]⟩, .int .i64 7] 72, .abs (FrozA b4 [.int .u8 120] 5), .blk b5 [.int .i64 1, .int .i64 2, .int .i64 0, .int .i64 0, .int .i64 0, .int .i64 0, .int .i64 0, .slice none (0) (0), .string ⟨#[]⟩, .slice (some ⟨b2, 0, none⟩) (2) (2), .int .i64 5, .int .i64 2, .int .i64 0, .int .i64 0, .int .i64 0, .int .i64 0, .int .i64 0, .slice none (0) (0), .string ⟨#[]⟩, .slice (some ⟨b3, 0, none⟩) (1) (1), .int .i64 7, .int .i64 1, .int .i64 0, .int .i64 0, .int .i64 0, .int .i64 0, .int .i64 0, .slice (some ⟨b4, 0, none⟩) (1) (1), .string ⟨#[]⟩, .slice none (0) (0)] 32]) rfl rfl (by kernel_rfl) (fun F w h β' h1 h2 => RowB.of_row h h1 h2) (fun β6 hle_β6 hE1 => ?_)
 replace hle0 := hle0.trans hle_β6
 refine TriL.mem (fun w hS => hS.toRow (i := 2) (b := b3) (cs := [.string ⟨#[99]⟩, .int .i64 7]) (e := 72) 2 1 (by kernel_rfl) rfl (by decide)) ?_
 refine TriL.rebase (Φ := fun β' => EntsAt β' (some ⟨b3, 0, none⟩) little2.ents) 2 [0, 1, 3, 4] (hps' := [.abs R, .blk b1 [.slice none (0) (0)] 24, .abs (FrozA b4 [.int .u8 120] 5), .blk b5 [.int .i64 1, .int .i64 2, .int .i64 0, .int .i64 0, .int .i64 0, .int .i64 0, .int .i64 0, .slice none (0) (0), .string ⟨#[]⟩, .slice (some ⟨b2, 0, none⟩) (2) (2), .int .i64 5, .int .i64 2, .int .i64 0, .int .i64 0, .int .i64 0, .int .i64 0, .int .i64 0, .slice none (0) (0), .string ⟨#[]⟩, .slice (some ⟨b3, 0, none⟩) (1) (1), .int .i64 7, .int .i64 1, .int .i64 0, .int .i64 0, .int .i64 0, .int .i64 0, .int .i64 0, .slice (some ⟨b4, 0, none⟩) (1) (1), .string ⟨#[]⟩, .slice none (0) (0)] 32]) rfl rfl (by kernel_rfl) (fun F w h β' h1 h2 => RowB.of_row h h1 h2) (fun β7 hle_β7 hE2 => ?_)
 replace hE1 := hE1.le hle_β7
 replace hle0 := hle0.trans hle_β7
 refine TriL.rebase (Φ := fun β' => BytesAt β' (some ⟨b4, 0, none⟩) little3.data) 2 [0, 1, 3] (hps' := [.abs R, .blk b1 [.slice none (0) (0)] 24, .blk b5 [.int .i64 1, .int .i64 2, .int .i64 0, .int .i64 0, .int .i64 0, .int .i64 0, .int .i64 0, .slice none (0) (0), .string ⟨#[]⟩, .slice (some ⟨b2, 0, none⟩) (2) (2), .int .i64 5, .int .i64 2, .int .i64 0, .int .i64 0, .int .i64 0, .int .i64 0, .int .i64 0, .slice none (0) (0), .string ⟨#[]⟩, .slice (some ⟨b3, 0, none⟩) (1) (1), .int .i64 7, .int .i64 1, .int .i64 0, .int .i64 0, .int .i64 0, .int .i64 0, .int .i64 0, .slice (some ⟨b4, 0, none⟩) (1) (1), .string ⟨#[]⟩, .slice none (0) (0)] 32]) rfl rfl (by kernel_rfl) (fun F w h β' h1 h2 => RowB.of_froz (n := 1) h h1 h2) (fun β8 hle_β8 hE3 => ?_)
 replace hE1 := hE1.le hle_β8
 replace hE2 := hE2.le hle_β8
 replace hle0 := hle0.trans hle_β8
 refine TriL.mem (fun w hS => hS.toRow (i := 2) (b := b5) (cs := [.int .i64 1, .int .i64 2, .int .i64 0, .int .i64 0, .int .i64 0, .int .i64 0, .int .i64 0, .slice none (0) (0), .string ⟨#[]⟩, .slice (some ⟨b2, 0, none⟩) (2) (2), .int .i64 5, .int .i64 2, .int .i64 0, .int .i64 0, .int .i64 0, .int .i64 0, .int .i64 0, .slice none (0) (0), .string ⟨#[]⟩, .slice (some ⟨b3, 0, none⟩) (1) (1), .int .i64 7, .int .i64 1, .int .i64 0, .int .i64 0, .int .i64 0, .int .i64 0, .int .i64 0, .slice (some ⟨b4, 0, none⟩) (1) (1), .string ⟨#[]⟩, .slice none (0) (0)]) (e := 32) 10 3 (by kernel_rfl) rfl (by decide)) ?_
 refine TriL.rebase (Φ := fun β' => RowB β' (some ⟨b5, 0, none⟩) (nodesV (littleL b2 b3 b4) littleM)) 2 [0, 1] (hps' := [.abs R, .blk b1 [.slice none (0) (0)] 24]) rfl rfl (by kernel_rfl) (fun F w h β' h1 h2 => RowB.of_row h h1 h2) (fun β9 hle_β9 hR => ?_)
 replace hE1 := hE1.le hle_β9
 replace hE2 := hE2.le hle_β9
 replace hE3 := hE3.le hle_β9
 replace hle0 := hle0.trans hle_β9
 refine TriL.seg (k' := 13) (fr' := [(0, .pointer (some ⟨b1, 0, none⟩))]) (hps' := [.abs R, .blk b1 [.slice (some ⟨b5, 0, none⟩) (3) (3)] 24]) (obl := [b1 = b1]) [o_, ⟨[.at 1], none, none, none, none⟩] [0] [0, 1] (fun _ _ => by kernel_rfl) ⟨rfl, trivial⟩ ?_
 refine TriL.nil (by kernel_rfl) (TriQ.next (Tri.ret ?_))
 exact TriQ.retB (v := .agg #[.slice (some ⟨b5, 0, none⟩) (3) (3)]) (l := []) (obl := [b1 = b1]) [.at 1] [0] hle0 (fun _ => by kernel_rfl) ⟨rfl, trivial⟩ rfl (by kernel_rfl) (⟨_, littleL b2 b3 b4, rfl, rfl, GraphAt.little hR hE1 hE2 hE3⟩)
set_option maxRecDepth 100000 in
set_option maxHeartbeats 4000000 in
theorem sp_alive {β : Bs} : SpecB Try.prog β 21 #[] [] (fun _ v l => v = .bool true ∧ l = []) := by
 refine SpecB.enter Try.func21 rfl Try.ntmps21 (Nat.le_of_ble_eq_true rfl) (fun hle0 R => ?_)
 refine Tri.seq (Tri.region ?_)
 refine TriL.segK (k' := 1) (fr' := []) (obl := []) [o_] [] (fun _ _ => by kernel_rfl) trivial ?_
 refine TriL.nil (by kernel_rfl) (TriQ.next (Tri.seq (Tri.region ?_)))
 refine TriL.callB (f := 19) (args := #[]) (d := (some 4)) (pre := []) (R := [.abs R]) (pk := [0]) (fun _ => by kernel_rfl) (sp_little) rfl (by kernel_rfl) ?_
 rintro β1 _ _ hle_β1 ⟨B, L, rfl, rfl, hG⟩
 replace hle0 := hle0.trans hle_β1
 refine TriL.segN (k' := 2) (fr' := fun b10 => [(4, .agg #[.slice B (3) (3)]), (5, .slice (some ⟨b10, 0, none⟩) (2) (2))]) (hps' := fun b10 => [.abs R, .blk b10 [.string ⟨#[97]⟩, .string ⟨#[99]⟩] 9]) (obl := fun b10 => []) [o_] [4, 5] [0, 1] (fun _ _ => by kernel_rfl) (fun b10 => trivial) (fun b10 => ?_)
 refine TriL.mem (fun w hS => hS.toRow (i := 1) (b := b10) (cs := [.string ⟨#[97]⟩, .string ⟨#[99]⟩]) (e := 9) 1 2 (by kernel_rfl) rfl (by decide)) ?_
 refine TriL.rebase (Φ := fun β' => StrsAt β' (some ⟨b10, 0, none⟩) [ltA, ltC]) 1 [0] (hps' := [.abs R]) rfl rfl (by kernel_rfl) (fun F w h β' h1 h2 => RowB.of_row h h1 h2) (fun β2 hle_β2 hS => ?_)
 replace hG := hG.le hle_β2
 replace hle0 := hle0.trans hle_β2
 refine TriL.call (f := 23) (args := #[.agg #[.slice B (3) (3)], .int .i64 1, .slice (some ⟨b10, 0, none⟩) (2) (2)]) (d := (some 6)) (pre := []) (R := [.abs R]) (pk := [0]) (fun _ => by kernel_rfl) ((sp_find B 3 littleM L hG little_bound 1 (i64_small (by decide)) (some ⟨b10, 0, none⟩) 2 [ltA, ltC] hS (by decide)).val (congrArg (fun z : Int × Int => Value.tuple #[.int .i64 z.1, .int .i64 z.2]) little_find)) rfl (by kernel_rfl) ?_
 rintro _ _ ⟨rfl, rfl⟩
 refine TriL.segK (k' := 8) (fr' := [(1, .int .i64 7), (2, .int .i64 0)]) (obl := []) [o_, o_, o_, o_, o_] [1, 2] (fun _ _ => by kernel_rfl) trivial ?_
 refine TriL.nil (by kernel_rfl) (TriQ.next (Tri.seq (Tri.region ?_)))
 refine TriL.segK (k' := 7) (fr' := [(0, .bool true)]) (obl := []) [o_, o_, o_, o_, o_, o_, o_] [0] (fun _ _ => by kernel_rfl) trivial ?_
 refine TriL.nil (by kernel_rfl) (TriQ.next (Tri.ret ?_))
 exact TriQ.retB (v := .bool true) (l := []) (obl := []) [] [0] hle0 (fun _ => by kernel_rfl) trivial rfl (by kernel_rfl) (⟨rfl, rfl⟩)
end Go.Proofs.Ytjpdcppdoonmdaa
end
/- part GU. PROVED HERE: what can be reached in a graph, as plain data, and two ways to find it. CONDITIONS: none. -/
section
namespace Go.Proofs.Ytjpdcppdoonmdaa
open Go.RowKit Go.Maps
inductive Reach (ns : List NodeM) (k : Nat) : Nat → Prop
  | refl : Reach ns k k
  | step {i : Nat} (j : Nat) : Reach ns k i → j < (nd ns i).ents.length → Reach ns k (tgt ns (ent ns i j).id)
theorem Reach.trans {ns : List NodeM} {k i j : Nat} (h : Reach ns k i) (g : Reach ns i j) : Reach ns k j := by
  induction g with
  | refl => exact h
  | step t _ ht ih => exact .step t ih ht
theorem Reach.lt {ns : List NodeM} {k i : Nat} (hok : GraphOk ns) (hk : k < ns.length) (h : Reach ns k i) : i < ns.length := by
  induction h with
  | refl => exact hk
  | step t _ ht ih => exact (atI_lt (hok.ents _ ih t ht).at_).1
noncomputable def underL (ns : List NodeM) (k : Nat) : List Int := by
  classical exact ((List.range ns.length).filter fun i => decide (Reach ns k i)).map fun i => (nd ns i).id
theorem underL_mem {ns : List NodeM} {k : Nat} {z : Int} : z ∈ underL ns k ↔ ∃ i, i < ns.length ∧ Reach ns k i ∧ (nd ns i).id = z := by
  classical
  unfold underL
  simp only [List.mem_map, List.mem_filter, List.mem_range, decide_eq_true_eq]
  exact ⟨fun ⟨i, ⟨h1, h2⟩, h3⟩ => ⟨i, h1, h2, h3⟩, fun ⟨i, h1, h2, h3⟩ => ⟨i, ⟨h1, h2⟩, h3⟩⟩
theorem range_sorted (n : Nat) : (List.range n).Pairwise (· < ·) := List.pairwise_lt_range
theorem underL_sorted {ns : List NodeM} {k : Nat} (hr : Rising ns) : (underL ns k).Pairwise (· < ·) := by
  classical
  unfold underL
  rw [List.pairwise_map]
  refine ((range_sorted ns.length).filter _).imp_of_mem (fun {a b} _ hb h => ?_)
  exact hr a b h (List.mem_range.1 (List.mem_filter.1 hb).1)
theorem sorted_ext : ∀ {l m : List Int}, l.Pairwise (· < ·) → m.Pairwise (· < ·) → (∀ z, z ∈ l ↔ z ∈ m) → l = m
  | [], [], _, _, _ => rfl
  | [], b :: m, _, _, h => by have := (h b).2 (List.mem_cons_self ..); cases this
  | a :: l, [], _, _, h => by have := (h a).1 (List.mem_cons_self ..); cases this
  | a :: l, b :: m, hl, hm, h => by
    have hl' := List.pairwise_cons.1 hl
    have hm' := List.pairwise_cons.1 hm
    have e : a = b := by
      rcases List.mem_cons.1 ((h a).1 (List.mem_cons_self ..)) with e | e
      · exact e
      · rcases List.mem_cons.1 ((h b).2 (List.mem_cons_self ..)) with e2 | e2
        · exact e2.symm
        · have := hm'.1 a e; have := hl'.1 b e2; omega
    subst e
    congr 1
    refine sorted_ext hl'.2 hm'.2 (fun z => ⟨fun hz => ?_, fun hz => ?_⟩)
    · rcases List.mem_cons.1 ((h z).1 (List.mem_cons_of_mem _ hz)) with e | e
      · have := hl'.1 z hz; omega
      · exact e
    · rcases List.mem_cons.1 ((h z).2 (List.mem_cons_of_mem _ hz)) with e | e
      · have := hm'.1 z hz; omega
      · exact e
/-! ### in whatever order, seen when taken -/
structure RInv (ns : List NodeM) (k : Nat) (seen work : List Nat) : Prop where
  start : k ∈ seen ∨ k ∈ work
  reach : ∀ i, i ∈ seen ∨ i ∈ work → Reach ns k i
  clos : ∀ i, i ∈ seen → ∀ j, j < (nd ns i).ents.length → tgt ns (ent ns i j).id ∈ seen ∨ tgt ns (ent ns i j).id ∈ work
theorem RInv.done {ns : List NodeM} {k : Nat} {seen : List Nat} (h : RInv ns k seen []) (i : Nat) : i ∈ seen ↔ Reach ns k i := by
  refine ⟨fun hi => h.reach i (.inl hi), fun hi => ?_⟩
  induction hi with
  | refl => exact h.start.resolve_right (fun h => by cases h)
  | step j _ hj ih => exact (h.clos _ ih j hj).resolve_right (fun h => by cases h)
def tgts (ns : List NodeM) (x j : Nat) : List Nat := (List.range j).map fun t => tgt ns (ent ns x t).id
theorem tgts_succ (ns : List NodeM) (x j : Nat) : tgts ns x (j + 1) = tgts ns x j ++ [tgt ns (ent ns x j).id] := by simp [tgts, List.range_succ]
theorem tgts_len (ns : List NodeM) (x j : Nat) : (tgts ns x j).length = j := by simp [tgts]
theorem RInv.old {ns : List NodeM} {k x : Nat} {seen work : List Nat} (h : RInv ns k seen (x :: work)) (hx : x ∈ seen) : RInv ns k seen work := by
  have aux : ∀ i, i ∈ seen ∨ i ∈ x :: work → i ∈ seen ∨ i ∈ work := fun i hi => by
    rcases hi with hi | hi
    · exact .inl hi
    · rcases List.mem_cons.1 hi with e | hi
      · subst e; exact .inl hx
      · exact .inr hi
  exact ⟨aux k h.start, fun i hi => h.reach i (hi.imp id (List.mem_cons_of_mem _)), fun i hi j hj => aux _ (h.clos i hi j hj)⟩
theorem RInv.new {ns : List NodeM} {k x : Nat} {seen work : List Nat} (h : RInv ns k seen (x :: work)) : RInv ns k (x :: seen) (work ++ tgts ns x (nd ns x).ents.length) := by
  have aux : ∀ i, i ∈ seen ∨ i ∈ x :: work → i ∈ x :: seen ∨ i ∈ work ++ tgts ns x (nd ns x).ents.length := fun i hi => by
    rcases hi with hi | hi
    · exact .inl (List.mem_cons_of_mem _ hi)
    · rcases List.mem_cons.1 hi with e | hi
      · subst e; exact .inl (List.mem_cons_self ..)
      · exact .inr (List.mem_append.2 (.inl hi))
  refine ⟨aux k h.start, fun i hi => ?_, fun i hi j hj => ?_⟩
  · rcases hi with hi | hi
    · rcases List.mem_cons.1 hi with e | hi
      · subst e; exact h.reach i (.inr (List.mem_cons_self ..))
      · exact h.reach i (.inl hi)
    · rcases List.mem_append.1 hi with hi | hi
      · exact h.reach i (.inr (List.mem_cons_of_mem _ hi))
      · obtain ⟨t, ht, rfl⟩ := List.mem_map.1 hi
        exact .step t (h.reach x (.inr (List.mem_cons_self ..))) (List.mem_range.1 ht)
  · rcases List.mem_cons.1 hi with e | hi
    · subst e
      exact .inr (List.mem_append.2 (.inr (List.mem_map.2 ⟨j, List.mem_range.2 hj, rfl⟩)))
    · exact aux _ (h.clos i hi j hj)
/-- the entries that were not looked at -/
def restE (ns : List NodeM) (seen : List Nat) : Nat → Nat
  | 0 => 0
  | n + 1 => restE ns seen n + (if n ∈ seen then 0 else (nd ns n).ents.length)
theorem restE_far {ns : List NodeM} {seen : List Nat} {x : Nat} : ∀ n, n ≤ x → restE ns (x :: seen) n = restE ns seen n
  | 0, _ => rfl
  | n + 1, h => by
    have : ¬ n = x := by omega
    rw [restE, restE, restE_far n (by omega)]
    simp [this]
theorem restE_new {ns : List NodeM} {seen : List Nat} {x : Nat} (hx : x ∉ seen) : ∀ n, x < n → restE ns (x :: seen) n + (nd ns x).ents.length = restE ns seen n
  | 0, h => absurd h (Nat.not_lt_zero _)
  | n + 1, h => by
    rw [restE, restE]
    by_cases e : n = x
    · subst e
      rw [restE_far n (Nat.le_refl _)]
      simp [hx]
    · have := restE_new (ns := ns) hx n (by omega)
      have h1 : (n ∈ x :: seen) = (n ∈ seen) := by simp [e]
      simp only [h1]
      omega
theorem restE_sum (ns : List NodeM) (seen : List Nat) : ∀ n, restE ns seen n ≤ entSum ns n
  | 0 => Nat.le_refl _
  | n + 1 => by
    have := restE_sum ns seen n
    rw [restE, entSum]
    split <;> omega
/-- the map of what was seen -/
def sf (ns : List NodeM) (seen : List Nat) (z : Int) : Option Value := if 0 ≤ atI ns z ∧ tgt ns z ∈ seen then some (.agg #[]) else none
theorem atI_self' {ns : List NodeM} {k : Nat} (hr : Rising ns) (hk : k < ns.length) : atI ns (nd ns k).id = (k : Int) ∧ tgt ns (nd ns k).id = k := by
  have h := atI_some hr hk (rfl : (nd ns k).id = (nd ns k).id)
  refine ⟨h, ?_⟩
  unfold tgt
  rw [h]
  rfl
theorem sf_zero {ns : List NodeM} : mf (sf ns []) = fun _ => none := by
  rw [← mf_none]
  congr 1
  funext z
  exact if_neg (fun e => by cases e.2)
theorem sf_in {ns : List NodeM} {seen : List Nat} {x : Nat} (hr : Rising ns) (hx : x < ns.length) (h : x ∈ seen) : mf (sf ns seen) (.int .i64 (nd ns x).id) = some (.agg #[]) := by
  obtain ⟨h1, h2⟩ := atI_self' hr hx
  exact if_pos ⟨by omega, by rw [h2]; exact h⟩
theorem sf_out {ns : List NodeM} {seen : List Nat} {x : Nat} (hr : Rising ns) (hx : x < ns.length) (h : x ∉ seen) : mf (sf ns seen) (.int .i64 (nd ns x).id) = none := by
  obtain ⟨h1, h2⟩ := atI_self' hr hx
  exact if_neg (fun e => h (by rw [← h2]; exact e.2))
theorem sf_upd {ns : List NodeM} {seen : List Nat} {x : Nat} (hr : Rising ns) (hx : x < ns.length) : upd (mf (sf ns seen)) (.int .i64 (nd ns x).id) (some (.agg #[])) = mf (sf ns (x :: seen)) := by
  obtain ⟨h1, h2⟩ := atI_self' hr hx
  rw [mf_upd]
  congr 1
  funext z
  unfold sf
  by_cases e : z = (nd ns x).id
  · subst e
    rw [if_pos rfl, if_pos ⟨by omega, by rw [h2]; exact List.mem_cons_self ..⟩]
  · rw [if_neg e]
    by_cases e2 : 0 ≤ atI ns z
    · have e3 : ¬ tgt ns z = x := fun e3 => e (by rw [← (atI_lt e2).2.1, e3])
      simp [e2, e3]
    · rw [if_neg (fun h => e2 h.1), if_neg (fun h => e2 h.1)]
theorem sf_cnt {ns : List NodeM} {seen : List Nat} {x : Nat} (hr : Rising ns) (hx : x < ns.length) (h : x ∉ seen) : (if ((mf (sf ns seen)) (.int .i64 (nd ns x).id)).isSome then seen.length else seen.length + 1) = (x :: seen).length := by
  rw [sf_out hr hx h]
  rfl
theorem under_keys {ns : List NodeM} {k : Nat} {seen : List Nat} {ss : List Int} (hok : GraphOk ns) (h : RInv ns k seen []) (hs : KeysOf (mf (sf ns seen)) ss) : ss = underL ns k := by
  refine sorted_ext hs.sorted (underL_sorted hok.rise) (fun z => ?_)
  rw [hs.mem, underL_mem]
  show (sf ns seen z).isSome = true ↔ _
  unfold sf
  refine ⟨fun hz => ?_, fun ⟨i, h1, h2, h3⟩ => ?_⟩
  · split at hz
    · rename_i h1
      obtain ⟨h2, h3, _⟩ := atI_lt h1.1
      exact ⟨tgt ns z, h2, (h.done _).1 h1.2, h3⟩
    · cases hz
  · obtain ⟨e1, e2⟩ := atI_self' hok.rise h1
    rw [h3] at e1 e2
    rw [if_pos ⟨by omega, by rw [e2]; exact (h.done i).2 h2⟩]
    rfl
def ptrsV (A : Option Addr) (l : List Nat) : List Value := l.map fun k => .pointer (some ⟨blkOf A, offOf A + k * 10, none⟩)
theorem ptrsV_len (A : Option Addr) (l : List Nat) : (ptrsV A l).length = l.length := by simp [ptrsV]
theorem ptrs_snoc (A : Option Addr) (l : List Nat) (k : Nat) : ptrsV A (l ++ [k]) = ptrsV A l ++ [.pointer (some ⟨blkOf A, offOf A + k * 10, none⟩)] := by simp [ptrsV]
theorem len_snoc {α : Type} (l : List α) (x : α) : (l ++ [x]).length = l.length + 1 := by simp
/-! ### marked when laid -/
def marksV (n : Nat) (mk : List Nat) : List Value := (List.range n).map fun i => .bool (decide (i ∈ mk))
theorem marksV_len (n : Nat) (mk : List Nat) : (marksV n mk).length = n := by simp [marksV]
theorem marksV_get {n : Nat} {mk : List Nat} {i : Nat} (hi : i < n) : (marksV n mk)[i]? = some (.bool (decide (i ∈ mk))) := by simp [marksV, hi]
theorem marksV_nil (n : Nat) : List.replicate n (Value.bool false) = marksV n [] := by
  apply List.ext_getElem?
  intro j
  by_cases h : j < n
  · rw [marksV_get h, List.getElem?_replicate, if_pos h]; rfl
  · rw [List.getElem?_eq_none (by simp; omega), List.getElem?_eq_none (by rw [marksV_len]; omega)]
theorem marksV_set {n : Nat} {mk : List Nat} {i : Nat} : (marksV n mk).set i (.bool true) = marksV n (i :: mk) := by
  apply List.ext_getElem?
  intro j
  by_cases h : j < n
  · rw [marksV_get h, List.getElem?_set]
    by_cases e : i = j
    · subst e
      rw [if_pos rfl, if_pos (by rw [marksV_len]; exact h)]
      simp
    · rw [if_neg e, marksV_get h]
      have : ¬ j = i := fun h => e h.symm
      simp [this]
  · rw [List.getElem?_eq_none (by rw [List.length_set, marksV_len]; omega), List.getElem?_eq_none (by rw [marksV_len]; omega)]
/-- 'now': entries below j of the node x that was taken are marked already -/
structure DInv (ns : List NodeM) (k : Nat) (mk work : List Nat) (now : Option (Nat × Nat)) : Prop where
  start : k ∈ mk
  reach : ∀ i, i ∈ mk → Reach ns k i
  lies : ∀ i, i ∈ work → i ∈ mk
  nodup : mk.Nodup
  clos : ∀ i, i ∈ mk → i ∈ work ∨ (∃ j, now = some (i, j) ∧ ∀ t, t < j → tgt ns (ent ns i t).id ∈ mk) ∨ ∀ t, t < (nd ns i).ents.length → tgt ns (ent ns i t).id ∈ mk
theorem DInv.done {ns : List NodeM} {k : Nat} {mk : List Nat} (h : DInv ns k mk [] none) (i : Nat) : i ∈ mk ↔ Reach ns k i := by
  refine ⟨h.reach i, fun hi => ?_⟩
  induction hi with
  | refl => exact h.start
  | step j _ hj ih =>
    rcases h.clos _ ih with h1 | ⟨_, h1, _⟩ | h1
    · cases h1
    · cases h1
    · exact h1 j hj
theorem DInv.pop {ns : List NodeM} {k x : Nat} {mk work : List Nat} (h : DInv ns k mk (x :: work) none) : DInv ns k mk work (some (x, 0)) := by
  refine ⟨h.start, h.reach, fun i hi => h.lies i (List.mem_cons_of_mem _ hi), h.nodup, fun i hi => ?_⟩
  rcases h.clos i hi with h1 | ⟨_, h1, _⟩ | h1
  · rcases List.mem_cons.1 h1 with e | h1
    · subst e; exact .inr (.inl ⟨0, rfl, fun t ht => absurd ht (Nat.not_lt_zero t)⟩)
    · exact .inl h1
  · cases h1
  · exact .inr (.inr h1)
theorem DInv.old {ns : List NodeM} {k x j : Nat} {mk work : List Nat} (h : DInv ns k mk work (some (x, j))) (ht : tgt ns (ent ns x j).id ∈ mk) : DInv ns k mk work (some (x, j + 1)) := by
  refine ⟨h.start, h.reach, h.lies, h.nodup, fun i hi => ?_⟩
  rcases h.clos i hi with h1 | ⟨j', h1, h2⟩ | h1
  · exact .inl h1
  · cases h1
    refine .inr (.inl ⟨j + 1, rfl, fun t htj => ?_⟩)
    rcases Nat.lt_succ_iff_lt_or_eq.1 htj with e | e
    · exact h2 t e
    · rw [e]; exact ht
  · exact .inr (.inr h1)
theorem DInv.new {ns : List NodeM} {k x j : Nat} {mk work : List Nat} (h : DInv ns k mk work (some (x, j))) (hx : x ∈ mk) (hj : j < (nd ns x).ents.length) (ht : tgt ns (ent ns x j).id ∉ mk) :
    DInv ns k (tgt ns (ent ns x j).id :: mk) (tgt ns (ent ns x j).id :: work) (some (x, j + 1)) := by
  refine ⟨List.mem_cons_of_mem _ h.start, fun i hi => ?_, fun i hi => ?_, List.nodup_cons.2 ⟨ht, h.nodup⟩, fun i hi => ?_⟩
  · rcases List.mem_cons.1 hi with e | hi
    · subst e; exact .step j (h.reach x hx) hj
    · exact h.reach i hi
  · rcases List.mem_cons.1 hi with e | hi
    · subst e; exact List.mem_cons_self ..
    · exact List.mem_cons_of_mem _ (h.lies i hi)
  · rcases List.mem_cons.1 hi with e | hi
    · subst e; exact .inl (List.mem_cons_self ..)
    · rcases h.clos i hi with h1 | ⟨j', h1, h2⟩ | h1
      · exact .inl (List.mem_cons_of_mem _ h1)
      · cases h1
        refine .inr (.inl ⟨j + 1, rfl, fun t htj => ?_⟩)
        rcases Nat.lt_succ_iff_lt_or_eq.1 htj with e | e
        · exact List.mem_cons_of_mem _ (h2 t e)
        · rw [e]; exact List.mem_cons_self ..
      · exact .inr (.inr fun t ht => List.mem_cons_of_mem _ (h1 t ht))
theorem DInv.end_ {ns : List NodeM} {k x j : Nat} {mk work : List Nat} (h : DInv ns k mk work (some (x, j))) (hj : (nd ns x).ents.length ≤ j) : DInv ns k mk work none := by
  refine ⟨h.start, h.reach, h.lies, h.nodup, fun i hi => ?_⟩
  rcases h.clos i hi with h1 | ⟨j', h1, h2⟩ | h1
  · exact .inl h1
  · cases h1
    exact .inr (.inr fun t ht => h2 t (by omega))
  · exact .inr (.inr h1)
theorem DInv.few {ns : List NodeM} {k : Nat} {mk work : List Nat} {now : Option (Nat × Nat)} (hok : GraphOk ns) (hk : k < ns.length) (h : DInv ns k mk work now) : mk.length ≤ ns.length :=
  nodup_lt ns.length mk h.nodup (fun x hx => (h.reach x hx).lt hok hk)
/-- the numbers of the first m nodes that are marked -/
def outI (ns : List NodeM) (mk : List Nat) : Nat → List Int
  | 0 => []
  | m + 1 => outI ns mk m ++ (if m ∈ mk then [(nd ns m).id] else [])
theorem outI_hit {ns : List NodeM} {mk : List Nat} {m : Nat} (h : m ∈ mk) : outI ns mk m ++ [(nd ns m).id] = outI ns mk (m + 1) := by rw [outI, if_pos h]
theorem outI_miss {ns : List NodeM} {mk : List Nat} {m : Nat} (h : m ∉ mk) : outI ns mk m = outI ns mk (m + 1) := by rw [outI, if_neg h, List.append_nil]
theorem outI_len (ns : List NodeM) (mk : List Nat) : ∀ m, (outI ns mk m).length ≤ m
  | 0 => Nat.le_refl _
  | m + 1 => by
    have := outI_len ns mk m
    rw [outI, List.length_append]
    split <;> simp <;> omega
theorem outI_all {ns : List NodeM} {k : Nat} {mk : List Nat} (h : DInv ns k mk [] none) : outI ns mk ns.length = underL ns k := by
  classical
  have aux : ∀ m, outI ns mk m = ((List.range m).filter fun i => decide (Reach ns k i)).map fun i => (nd ns i).id := by
    intro m
    induction m with
    | zero => rfl
    | succ m ih =>
      rw [outI, ih, List.range_succ, List.filter_append, List.map_append]
      congr 1
      by_cases hm : m ∈ mk
      · have := (h.done m).1 hm
        simp [hm, this]
      · have : ¬ Reach ns k m := fun e => hm ((h.done m).2 e)
        simp [hm, this]
  rw [aux]
  rfl
noncomputable def underG (ns : List NodeM) (root : Int) : List Int × Int := if beginC ns root = 0 then (underL ns (tgt ns root), 0) else ([], beginC ns root)
theorem underG_ok {ns : List NodeM} {root : Int} (h : beginC ns root = 0) : underG ns root = (underL ns (tgt ns root), 0) := if_pos h
theorem underG_bad {ns : List NodeM} {root : Int} (h : ¬ beginC ns root = 0) : underG ns root = ([], beginC ns root) := if_neg h
end Go.Proofs.Ytjpdcppdoonmdaa
end
/- part GSq. PROVED HERE: the planted graph is well-formed, and its tree is the lines. CONDITIONS: none. -/
section
namespace Go.Proofs.Ytjpdcppdoonmdaa
open Go.RowKit Go.Maps
/-- N is the part of ns that ρ numbers -/
structure Ren (ns N : List NodeM) (r : Nat) (ρ : Nat → Nat) : Prop where
  root : ρ r = 1
  lt : ∀ k, ρ k ≠ 0 → k < ns.length ∧ ρ k ≤ N.length
  inj : ∀ k k', ρ k ≠ 0 → ρ k = ρ k' → k = k'
  sur : ∀ j, j < N.length → ∃ k, ρ k = j + 1
  node : ∀ k, ρ k ≠ 0 → nd N (ρ k - 1) = newNode ns ρ k (nd ns k).ents.length
  all : ∀ k, ρ k ≠ 0 → ∀ j, j < (nd ns k).ents.length → ρ (tgt ns (ent ns k j).id) ≠ 0
section
variable {ns N : List NodeM} {r : Nat} {ρ : Nat → Nat}
theorem newNode_ents (k : Nat) : (newNode ns ρ k (nd ns k).ents.length).ents = (nd ns k).ents.map fun e => ⟨e.name, ((ρ (tgt ns e.id) : Nat) : Int)⟩ := by
  unfold newNode
  rw [List.take_of_length_le (Nat.le_refl _)]
theorem Ren.at_ (h : Ren ns N r ρ) {j : Nat} (hj : j < N.length) : ∃ k, ρ k = j + 1 ∧ k < ns.length ∧ nd N j = newNode ns ρ k (nd ns k).ents.length := by
  obtain ⟨k, hk⟩ := h.sur j hj
  have h0 : ρ k ≠ 0 := by omega
  have := h.node k h0
  rw [hk, Nat.add_sub_cancel] at this
  exact ⟨k, hk, (h.lt k h0).1, this⟩
theorem Ren.id (h : Ren ns N r ρ) {j : Nat} (hj : j < N.length) : (nd N j).id = ((j + 1 : Nat) : Int) := by
  obtain ⟨k, hk, _, e⟩ := h.at_ hj
  rw [e]
  show ((ρ k : Nat) : Int) = _
  rw [hk]
theorem Ren.rise (h : Ren ns N r ρ) : Rising N := fun i j hij hj => by
  rw [h.id hj, h.id (by omega)]; omega
theorem Ren.tgt (h : Ren ns N r ρ) {x : Nat} (hx : ρ x ≠ 0) : atI N ((ρ x : Nat) : Int) = ((ρ x - 1 : Nat) : Int) ∧ Proofs.Ytjpdcppdoonmdaa.tgt N ((ρ x : Nat) : Int) = ρ x - 1 := by
  have h1 := (h.lt x hx).2
  have h2 := atI_self' h.rise (k := ρ x - 1) (by omega)
  rw [h.id (by omega), show ρ x - 1 + 1 = ρ x by omega] at h2
  exact h2
theorem Ren.ents (h : Ren ns N r ρ) {k : Nat} (hk : ρ k ≠ 0) : (nd N (ρ k - 1)).ents = (nd ns k).ents.map fun e => ⟨e.name, ((ρ (Proofs.Ytjpdcppdoonmdaa.tgt ns e.id) : Nat) : Int)⟩ := by
  rw [h.node k hk, newNode_ents]
theorem Ren.ent (h : Ren ns N r ρ) {k j : Nat} (hk : ρ k ≠ 0) (hj : j < (nd ns k).ents.length) : Proofs.Ytjpdcppdoonmdaa.ent N (ρ k - 1) j = ⟨(Proofs.Ytjpdcppdoonmdaa.ent ns k j).name, ((ρ (Proofs.Ytjpdcppdoonmdaa.tgt ns (Proofs.Ytjpdcppdoonmdaa.ent ns k j).id) : Nat) : Int)⟩ := by
  unfold Proofs.Ytjpdcppdoonmdaa.ent en
  rw [h.ents hk, List.getD_eq_getElem?_getD, List.getElem?_map, List.getD_eq_getElem?_getD, List.getElem?_eq_getElem hj]
  rfl
theorem Ren.len (h : Ren ns N r ρ) {k : Nat} (hk : ρ k ≠ 0) : (nd N (ρ k - 1)).ents.length = (nd ns k).ents.length := by
  rw [h.ents hk, List.length_map]
/-! the sum of the entries -/
theorem sum_part (κ : Nat → Nat) (n : Nat) : ∀ m, (∀ j, j < m → κ j < n ∧ (nd N j).ents.length = (nd ns (κ j)).ents.length) → (∀ i j, i < j → j < m → ¬ κ i = κ j) →
    ∃ seen : List Nat, (∀ x, x ∈ seen ↔ ∃ j, j < m ∧ κ j = x) ∧ entSum N m + restE ns seen n = restE ns [] n
  | 0, _, _ => ⟨[], fun x => by simp, by rw [entSum]; omega⟩
  | m + 1, h, hi => by
    obtain ⟨seen, h1, h2⟩ := sum_part κ n m (fun j hj => h j (by omega)) (fun i j hij hj => hi i j hij (by omega))
    have hm := h m (Nat.lt_succ_self m)
    have hn : κ m ∉ seen := fun hs => by
      obtain ⟨j, hj, e⟩ := (h1 _).1 hs
      exact hi j m hj (Nat.lt_succ_self m) e
    refine ⟨κ m :: seen, fun x => ?_, ?_⟩
    · rw [List.mem_cons, h1]
      refine ⟨fun hx => ?_, fun ⟨j, hj, e⟩ => ?_⟩
      · rcases hx with rfl | ⟨j, hj, e⟩
        · exact ⟨m, Nat.lt_succ_self m, rfl⟩
        · exact ⟨j, by omega, e⟩
      · rcases Nat.lt_succ_iff_lt_or_eq.1 hj with e2 | e2
        · exact .inr ⟨j, e2, e⟩
        · subst e2; exact .inl e.symm
    · have := restE_new (ns := ns) hn n hm.1
      rw [entSum, hm.2]
      omega
theorem Ren.ok (h : Ren ns N r ρ) (hok : GraphOk ns) : GraphOk N := by
  obtain ⟨d, hd⟩ := hok.deep
  have hch : ∀ j, ∃ k, j < N.length → ρ k = j + 1 ∧ k < ns.length := fun j => by
    by_cases hj : j < N.length
    · obtain ⟨k, h1, h2, _⟩ := h.at_ hj
      exact ⟨k, fun _ => ⟨h1, h2⟩⟩
    · exact ⟨0, fun e => absurd e hj⟩
  obtain ⟨κ, hκ⟩ : ∃ κ : Nat → Nat, ∀ j, j < N.length → ρ (κ j) = j + 1 ∧ κ j < ns.length := ⟨fun j => Classical.choose (hch j), fun j => Classical.choose_spec (hch j)⟩
  have hne : ∀ j, j < N.length → ρ (κ j) ≠ 0 := fun j hj => by have := (hκ j hj).1; omega
  have hpl : ∀ j, j < N.length → ρ (κ j) - 1 = j := fun j hj => by have := (hκ j hj).1; omega
  have hnode : ∀ j, j < N.length → nd N j = newNode ns ρ (κ j) (nd ns (κ j)).ents.length := fun j hj => by have := h.node (κ j) (hne j hj); rwa [hpl j hj] at this
  have hent : ∀ j, j < N.length → (nd N j).ents.length = (nd ns (κ j)).ents.length := fun j hj => by have := h.len (hne j hj); rwa [hpl j hj] at this
  have henp : ∀ j i, j < N.length → i < (nd ns (κ j)).ents.length → Proofs.Ytjpdcppdoonmdaa.ent N j i = ⟨(Proofs.Ytjpdcppdoonmdaa.ent ns (κ j) i).name, ((ρ (Proofs.Ytjpdcppdoonmdaa.tgt ns (Proofs.Ytjpdcppdoonmdaa.ent ns (κ j) i).id) : Nat) : Int)⟩ := fun j i hj hi => by have := h.ent (hne j hj) hi; rwa [hpl j hj] at this
  have hinj : ∀ i j, i < j → j < N.length → ¬ κ i = κ j := fun i j hij hj e => by
    have h1 := (hκ i (by omega)).1; have h2 := (hκ j hj).1; rw [e] at h1; omega
  have htg : ∀ j i, j < N.length → i < (nd N j).ents.length → Proofs.Ytjpdcppdoonmdaa.tgt N (Proofs.Ytjpdcppdoonmdaa.ent N j i).id = ρ (Proofs.Ytjpdcppdoonmdaa.tgt ns (Proofs.Ytjpdcppdoonmdaa.ent ns (κ j) i).id) - 1 ∧ 0 ≤ atI N (Proofs.Ytjpdcppdoonmdaa.ent N j i).id ∧ ρ (Proofs.Ytjpdcppdoonmdaa.tgt ns (Proofs.Ytjpdcppdoonmdaa.ent ns (κ j) i).id) ≠ 0 := fun j i hj hi => by
    rw [hent j hj] at hi
    have h1 := h.all (κ j) (hne j hj) i hi
    have h2 := h.tgt h1
    rw [henp j i hj hi]
    exact ⟨h2.2, by show 0 ≤ atI N ((ρ _ : Nat) : Int); rw [h2.1]; omega, h1⟩
  have hkind : ∀ x, ρ x ≠ 0 → (nd N (ρ x - 1)).kind = (nd ns x).kind := fun x hx => by rw [h.node x hx]; rfl
  have hdir : ∀ j i, DirE N j i → DirE ns (κ j) i := fun j i g => by
    have h1 := htg j i g.lti g.ltj
    have h2 := g.dir
    rw [h1.1, hkind _ h1.2.2] at h2
    exact ⟨(hκ j g.lti).2, by have := g.ltj; rwa [hent j g.lti] at this, h2⟩
  have hlen : N.length ≤ ns.length := by
    have := nodup_lt ns.length ((List.range N.length).map κ) (by
      rw [List.nodup_iff_pairwise_ne, List.pairwise_map]
      exact (List.pairwise_lt_range (n := N.length)).imp_of_mem (fun ha hb hab e => hinj _ _ hab (List.mem_range.1 hb) e)) (fun x hx => by
      obtain ⟨j, hj, rfl⟩ := List.mem_map.1 hx
      exact (hκ j (List.mem_range.1 hj)).2)
    simpa using this
  refine GraphOk.of_deep (d := fun j => d (κ j)) (Nat.le_trans hlen hok.len) (fun j hj => ?_) (fun j hj => ?_) h.rise ?_ (fun j hj i hi => ?_) (fun j i j' i' g g' _ _ e => ?_) (fun j i g => ?_)
  · have hn := hok.node (κ j) (hκ j hj).2
    rw [hnode j hj]
    exact ⟨hn.kind, hn.mode, hn.uid, hn.gid, hn.time, hn.data, fun hk => by rw [newNode_ents, List.length_map]; exact hn.ents hk, hn.target⟩
  · rw [h.id hj]
    have := hok.len
    omega
  · obtain ⟨seen, _, h2⟩ := sum_part (ns := ns) (N := N) κ ns.length N.length (fun j hj => ⟨(hκ j hj).2, hent j hj⟩) hinj
    have h3 := restE_sum ns [] ns.length
    have h4 := hok.sum
    omega
  · have hi2 : i < (nd ns (κ j)).ents.length := by rwa [hent j hj] at hi
    have hE := hok.ents (κ j) (hκ j hj).2 i hi2
    refine ⟨(htg j i hj hi).2.1, by rw [henp j i hj hi2]; exact hE.good, ?_⟩
    rw [henp j i hj hi2]
    have hpn : prevName N j i = prevName ns (κ j) i := by
      cases i with
      | zero => rfl
      | succ i =>
        show (Proofs.Ytjpdcppdoonmdaa.ent N j i).name = (Proofs.Ytjpdcppdoonmdaa.ent ns (κ j) i).name
        rw [henp j i hj (by omega)]
    rw [hpn]
    exact hE.ord
  · have h1 := htg j i g.lti g.ltj
    have h2 := htg j' i' g'.lti g'.ltj
    rw [h1.1, h2.1] at e
    have h3 := h.inj (Proofs.Ytjpdcppdoonmdaa.tgt ns (Proofs.Ytjpdcppdoonmdaa.ent ns (κ j) i).id) (Proofs.Ytjpdcppdoonmdaa.tgt ns (Proofs.Ytjpdcppdoonmdaa.ent ns (κ j') i').id) h1.2.2 (by have := h1.2.2; have := h2.2.2; omega)
    obtain ⟨e1, e2⟩ := hok.uniq _ _ _ _ (hdir j i g) (hdir j' i' g') (hκ j g.lti).2 (hκ j' g'.lti).2 h3
    refine ⟨?_, e2⟩
    rcases Nat.lt_trichotomy j j' with h4 | h4 | h4
    · exact absurd e1 (hinj _ _ h4 g'.lti)
    · exact h4
    · exact absurd e1.symm (hinj _ _ h4 g.lti)
  · have h1 := htg j i g.lti g.ltj
    have h2 := hd _ _ (hdir j i g)
    have h3 : κ (Proofs.Ytjpdcppdoonmdaa.tgt N (Proofs.Ytjpdcppdoonmdaa.ent N j i).id) = Proofs.Ytjpdcppdoonmdaa.tgt ns (Proofs.Ytjpdcppdoonmdaa.ent ns (κ j) i).id := by
      rw [h1.1]
      have h4 := (h.lt _ h1.2.2).2
      have h5 := (hκ (ρ (Proofs.Ytjpdcppdoonmdaa.tgt ns (Proofs.Ytjpdcppdoonmdaa.ent ns (κ j) i).id) - 1) (by omega)).1
      exact h.inj _ _ (by omega) (by omega)
    show d (κ j) < d (κ _)
    rw [h3]
    exact h2
/-! ### the same lines -/
structure Same (ρ : Nat → Nat) (s a : TS) : Prop where
  out : a.out = s.out
  sum : a.sum = s.sum
  fst : ∀ x, ρ x ≠ 0 → a.fst (ρ x - 1) = s.fst x
theorem lineOf_new (k : Nat) (p x : ByteArray) (m : Nat) : lineOf (newNode ns ρ k m) p x = lineOf (nd ns k) p x := rfl
theorem Same.push (h : Ren ns N r ρ) {s a : TS} (hs : Same ρ s a) {k : Nat} {p : ByteArray} (hk : ρ k ≠ 0) : Same ρ (push ns k p s) (push N (ρ k - 1) p a) := by
  refine ⟨?_, ?_, fun x hx => ?_⟩
  · rw [push_out, push_out, hs.out, hs.fst k hk, h.node k hk, lineOf_new]
  · rw [push_sum, push_sum, hs.sum]
  · have e : (ρ x - 1 = ρ k - 1) ↔ x = k := ⟨fun e => h.inj x k hx (by omega), fun e => by rw [e]⟩
    by_cases hf : s.fst k = ⟨#[]⟩
    · have hf2 : a.fst (ρ k - 1) = ⟨#[]⟩ := by rw [hs.fst k hk]; exact hf
      by_cases e2 : x = k
      · subst e2; rw [push_fst_new hf, push_fst_new hf2]
      · rw [push_fst_other e2, push_fst_other (fun e3 => e2 (e.1 e3)), hs.fst x hx]
    · have hf2 : ¬ a.fst (ρ k - 1) = ⟨#[]⟩ := by rw [hs.fst k hk]; exact hf
      have h1 : (Proofs.Ytjpdcppdoonmdaa.push ns k p s).fst = s.fst := (push_old hf).1
      have h2 : (Proofs.Ytjpdcppdoonmdaa.push N (ρ k - 1) p a).fst = a.fst := (push_old hf2).1
      rw [h1, h2, hs.fst x hx]
theorem foldE_same {α : Type} {g g' : α → TS → Option TS} : ∀ {l : List α} {s s' a : TS}, (∀ e ∈ l, ∀ s s' a, Same ρ s a → g e s = some s' → ∃ a', g' e a = some a' ∧ Same ρ s' a') → Same ρ s a → foldE g l s = some s' → ∃ a', foldE g' l a = some a' ∧ Same ρ s' a'
  | [], s, s', a, _, hs, h => by cases h; exact ⟨a, rfl, hs⟩
  | e :: l, s, s', a, hg, hs, h => by
    rw [foldE] at h
    cases h1 : g e s with
    | none => rw [h1] at h; cases h
    | some b =>
      rw [h1] at h
      obtain ⟨a1, h2, h3⟩ := hg e (List.mem_cons_self ..) s b a hs h1
      obtain ⟨a2, h4, h5⟩ := foldE_same (fun e he => hg e (List.mem_cons_of_mem _ he)) h3 h
      exact ⟨a2, by rw [foldE, h2]; exact h4, h5⟩
theorem addF_same (h : Ren ns N r ρ) : ∀ (f k : Nat) (p : ByteArray) (s s' a : TS), ρ k ≠ 0 → addF ns f k p s = some s' → Same ρ s a → ∃ a', addF N f (ρ k - 1) p a = some a' ∧ Same ρ s' a'
  | 0, _, _, _, _, _, _, h, _ => by cases h
  | f + 1, k, p, s, s', a, hk, hf, hs => by
    rw [addF] at hf ⊢
    rw [hs.sum, hs.out, h.ents hk, foldE_map]
    split at hf
    · cases hf
    · rename_i h0
      rw [if_neg h0]
      refine foldE_same (fun e he s1 s2 a1 h1 h2 => ?_) (hs.push h hk) hf
      obtain ⟨j, hj, hje⟩ := List.getElem_of_mem he
      have e2 : e = Proofs.Ytjpdcppdoonmdaa.ent ns k j := by
        unfold Proofs.Ytjpdcppdoonmdaa.ent en
        rw [List.getD_eq_getElem?_getD, List.getElem?_eq_getElem hj, ← hje]; rfl
      have hz := h.all k hk j hj
      rw [← e2] at hz
      have h3 := addF_same h f _ _ s1 s2 a1 hz h2 h1
      have h4 := (h.tgt hz).2
      show ∃ a', addF N f (Proofs.Ytjpdcppdoonmdaa.tgt N ((ρ (Proofs.Ytjpdcppdoonmdaa.tgt ns e.id) : Nat) : Int)) (below s.out.length p e.name) a1 = some a' ∧ _
      rw [h4]
      exact h3
end
/-- lines of a tree are planted, and are the new graph's tree -/
theorem tree_plants {ns : List NodeM} {root : Int} {ls : List LineM} (h : treeG ns root = (ls, 0)) : ∃ t, foldS stepP ls ls.length = some t ∧ treeG t.ns 1 = (ls, 0) ∧ t.ns.length ≤ ns.length ∧
    ∀ j, j < t.ns.length → ∃ k ρ, k < ns.length ∧ nd t.ns j = newNode ns ρ k (nd ns k).ents.length ∧ (∀ x, ρ x ≤ t.ns.length) := by
  have h2 : (treeG ns root).2 = 0 := by rw [h]
  have hg : GoodLines ls := by have := tree_good h2; rwa [h] at this
  obtain ⟨hb, s, h1, h3⟩ := treeG_ok h2
  have hout : s.out = ls := by rw [h3] at h; injection h
  obtain ⟨hok, hat, hkd⟩ := beginC_zero hb
  have htl := atI_lt hat
  obtain ⟨t, ρ, dn, hS, hx, hr⟩ := addF_sim (r := tgt ns root) (ls := ls) hok hg 4194305 (tgt ns root) ⟨#[46]⟩ [] TS0 s PS0 (fun _ => 0) (fun _ => 0) none h1 ⟨[], by rw [hout, List.append_nil]⟩ (Sim.zero _ _ _) htl.1 (.inl ⟨rfl, rfl⟩) .nil ⟨fun _ => rfl, fun _ => rfl⟩ ⟨rfl, rfl⟩
  have hne : s.out.length ≠ 0 := by obtain ⟨_, i, hi, _⟩ := hS.path _ hr; omega
  have hdn : ∀ x, ρ x ≠ 0 → dn x = (nd ns x).ents.length := fun x hx' => hx.dn_new x rfl hx'
  have hR : Ren ns t.ns (tgt ns root) ρ := ⟨hS.root hne, hS.lt, hS.inj, hS.sur, fun k hk => by rw [← hdn k hk]; exact hS.node k hk, fun k hk j hj => (hS.done k hk).2 j (by rw [hdn k hk]; exact hj)⟩
  have hN := hR.ok hok
  have hr1 : ρ (tgt ns root) - 1 = 0 := by rw [hR.root]
  have ht := hR.tgt hr
  rw [hR.root] at ht
  have hat1 : 0 ≤ atI t.ns 1 := by have := ht.1; show 0 ≤ atI t.ns ((1 : Nat) : Int); rw [this]; exact Int.natCast_nonneg _
  have htg1 : tgt t.ns 1 = 0 := ht.2
  have hb1 : beginC t.ns 1 = 0 := beginC_ok hN hat1 (by
    rw [htg1, ← hr1, hR.node _ hr]; exact hkd)
  obtain ⟨a, ha, hsa⟩ := addF_same hR 4194305 (tgt ns root) ⟨#[46]⟩ TS0 s TS0 hr h1 ⟨rfl, rfl, fun _ _ => rfl⟩
  rw [hr1] at ha
  refine ⟨t, by have := hS.fold; rwa [hout] at this, ?_, ?_, fun j hj => ?_⟩
  · rw [treeG_some hb1 (by rw [htg1]; exact ha), hsa.out, hout]
  · have := hN.len
    have hch : ∀ j, ∃ k, j < t.ns.length → ρ k = j + 1 ∧ k < ns.length := fun j => by
      by_cases hj : j < t.ns.length
      · obtain ⟨k, h1, h2, _⟩ := hR.at_ hj
        exact ⟨k, fun _ => ⟨h1, h2⟩⟩
      · exact ⟨0, fun e => absurd e hj⟩
    have := nodup_lt ns.length ((List.range t.ns.length).map fun j => Classical.choose (hch j)) (by
      rw [List.nodup_iff_pairwise_ne, List.pairwise_map]
      exact (List.pairwise_lt_range (n := t.ns.length)).imp_of_mem (fun {i j} hi hj hij e => by
        have g1 := (Classical.choose_spec (hch i) (List.mem_range.1 hi)).1
        have g2 := (Classical.choose_spec (hch j) (List.mem_range.1 hj)).1
        rw [e] at g1
        omega)) (fun x hx => by
      obtain ⟨j, hj, rfl⟩ := List.mem_map.1 hx
      exact (Classical.choose_spec (hch j) (List.mem_range.1 hj)).2)
    simpa using this
  · obtain ⟨k, _, h4, h5⟩ := hR.at_ hj
    refine ⟨k, ρ, h4, h5, fun x => ?_⟩
    by_cases h0 : ρ x = 0
    · omega
    · exact (hR.lt x h0).2
end Go.Proofs.Ytjpdcppdoonmdaa
end
/- part GPlB. PROVED HERE: Plant CONDITIONS: as the theorems say. Printed by a program of this repo (wip/v). -/
section
namespace Go.Proofs.Ytjpdcppdoonmdaa
open Go.RowKit
attribute [local irreducible] TriL TriLQ Tri TriQ
set_option maxRecDepth 100000 in
set_option maxHeartbeats 4000000 in
theorem sp_cloneOwnNil {β : Bs} (c : Nat) : Spec Try.prog β 50 #[.slice none 0 c] [] (fun v l => ∃ B cap, v = .slice B 0 cap ∧ l = [.abs (RowA 5 1 B 0 cap [])]) := by
 refine Spec.enter Try.func50 rfl Try.ntmps50 (Nat.le_of_ble_eq_true rfl) (fun R => ?_)
 refine Tri.seq (Tri.region ?_)
 refine TriL.segK (k' := 1) (fr' := [(0, .slice none (0) (c))]) (obl := []) [o_] [0] (fun _ _ => by kernel_rfl) trivial ?_
 refine TriL.nil (by kernel_rfl) (TriQ.next (Tri.seq (Tri.seq (Tri.region ?_))))
 refine TriL.segK (k' := 2) (fr' := [(0, .slice none (0) (c)), (4, .bool true)]) (obl := []) [o_, o_] [0, 4] (fun _ _ => by kernel_rfl) trivial ?_
 refine TriL.nil (by kernel_rfl) (TriQ.next ?_)
 refine Tri.condT (fun _ => by kernel_rfl) ?_
 refine Tri.seq (Tri.region ?_)
 refine TriL.segK (k' := 1) (fr' := [(2, .slice none (0) (0))]) (obl := []) [o_] [2] (fun _ _ => by kernel_rfl) trivial ?_
 refine TriL.nil (by kernel_rfl) (TriQ.next (Tri.ret (TriQ.passRet ?_)))
 refine TriQ.mem (fun w hS => (hS.rowNil (e := 5) (size := 1)).pick (idx := [1, 0]) (l' := [.abs (RowA 5 1 none 0 0 ([])), .abs R]) rfl (by kernel_rfl)) ?_
 exact TriQ.ret (v := .slice none (0) (0)) (l := [.abs (RowA 5 1 none 0 0 ([]))]) (obl := []) [] [0, 1] (fun _ => by kernel_rfl) trivial rfl (by kernel_rfl) (⟨none, 0, rfl, rfl⟩)
set_option maxRecDepth 100000 in
set_option maxHeartbeats 4000000 in
theorem sp_cloneOwnSome {β : Bs} (a : Addr) (c : Nat) (d : List UInt8) (hA : BytesAt β (some a) d) (hl : d.length ≤ 1048576) : Spec Try.prog β 50 #[.slice (some a) d.length c] [] (fun v l => ∃ B cap, v = .slice B d.length cap ∧ l = [.abs (RowA 5 1 B d.length cap (bytesV d))]) := by
 refine Spec.enter Try.func50 rfl Try.ntmps50 (Nat.le_of_ble_eq_true rfl) (fun R => ?_)
 refine Tri.seq (Tri.region ?_)
 refine TriL.segK (k' := 1) (fr' := [(0, .slice (some a) (d.length) (c))]) (obl := []) [o_] [0] (fun _ _ => by kernel_rfl) trivial ?_
 refine TriL.nil (by kernel_rfl) (TriQ.next (Tri.seq (Tri.seq (Tri.region ?_))))
 refine TriL.segK (k' := 2) (fr' := [(0, .slice (some a) (d.length) (c)), (4, .bool false)]) (obl := []) [o_, o_] [0, 4] (fun _ _ => by kernel_rfl) trivial ?_
 refine TriL.nil (by kernel_rfl) (TriQ.next ?_)
 refine Tri.condF (fun _ => by kernel_rfl) ?_
 refine Tri.skip (TriQ.next (Tri.seq (Tri.region ?_)))
 refine TriL.segN (k' := 1) (fr' := fun b1 => [(0, .slice (some a) (d.length) (c)), (5, .slice (some ⟨b1, 0, none⟩) (0) (0))]) (hps' := fun b1 => [.abs R, .blk b1 [] 5]) (obl := fun b1 => []) [o_] [0, 5] [0, 1] (fun _ _ => by kernel_rfl) (fun b1 => trivial) (fun b1 => ?_)
 refine TriL.mem (fun w hS => hS.toRow (i := 1) (b := b1) (cs := []) (e := 5) 1 0 (by kernel_rfl) rfl (by decide)) ?_
 refine TriL.segK (k' := 2) (fr' := [(5, .slice (some ⟨b1, 0, none⟩) (0) (0)), (6, .slice (some a) (d.length) (c))]) (obl := []) [o_] [5, 6] (fun _ _ => by kernel_rfl) trivial ?_
 refine TriL.append 1 (d := (some 7)) (t := 29) (e := 5) (z := .int .u8 0) (size := 1) (bytes := 1) (n := 0) (cap := 0) (A := some ⟨b1, 0, none⟩) (xs := []) (s := (.tmp 5)) (x := (.tmp 6)) (ats := #[29, 29]) (A' := (some a)) (m := d.length) (c' := c) (news := (bytesV d)) (fun _ => by kernel_rfl) rfl (by kernel_rfl) (fun _ => by kernel_rfl) (fun _ => by kernel_rfl) Try.underlying29 (by kernel_rfl) rfl (by decide) (by rw [bytesV_len, Nat.mul_one]) (oneCell_bytes d) (hA.src) (by unfold maxLen; omega) (by omega) (fun A2 c3 => ?_)
 refine TriL.partEq 1 (p := .abs (RowA 5 1 A2 (0 + d.length) c3 ([] ++ (bytesV d)))) (p' := .abs (RowA 5 1 A2 d.length c3 (bytesV d))) (by kernel_rfl) (by rw [Nat.zero_add, List.nil_append]) ?_
 refine TriL.slot 7 (.slice A2 (0 + d.length) (c3)) (.slice A2 (d.length) (c3)) (fun _ => by kernel_rfl) (by rw [Nat.zero_add]) ?_
 refine TriL.segK (k' := 4) (fr' := [(2, .slice A2 (d.length) (c3))]) (obl := []) [o_] [2] (fun _ _ => by kernel_rfl) trivial ?_
 refine TriL.nil (by kernel_rfl) (TriQ.next (Tri.ret ?_))
 exact TriQ.ret (v := .slice A2 (d.length) (c3)) (l := [.abs (RowA 5 1 A2 d.length c3 (bytesV d))]) (obl := []) [] [1, 0] (fun _ => by kernel_rfl) trivial rfl (by kernel_rfl) (⟨A2, c3, rfl, rfl⟩)
theorem sp_cloneOwn {β : Bs} (A : Option Addr) (c : Nat) (d : List UInt8) (hA : BytesAt β A d) (hl : d.length ≤ 1048576) : Spec Try.prog β 50 #[.slice A d.length c] [] (fun v l => ∃ B cap, v = .slice B d.length cap ∧ l = [.abs (RowA 5 1 B d.length cap (bytesV d))]) := by
  cases A with
  | some a => exact sp_cloneOwnSome a c d hA hl
  | none =>
    cases d with
    | nil => exact sp_cloneOwnNil c
    | cons b r => have h := BytesAt.hd hA (j := 0) (by simp); cases h
set_option maxRecDepth 100000 in
set_option maxHeartbeats 4000000 in
theorem sp_plant {β : Bs} (A : Option Addr) (c : Nat) (ls : List LineM) (M : LayL) (hG : LinesAt β A ls M) (hC : LinesC ls) (hPB : PlantB ls) :
    Spec Try.prog β 30 #[.slice A ls.length c] [] (fun v l => ∃ B cp L, v = .tuple #[.agg #[.slice B (plantG ls).1.length cp], .int .i64 (plantG ls).2] ∧ l = ownG B cp (plantG ls).1 L) := by
 refine Spec.enter Try.func30 rfl Try.ntmps30 (Nat.le_of_ble_eq_true rfl) (fun R => ?_)
 refine Tri.seq (Tri.region ?_)
 refine TriL.segN (k' := 2) (fr' := fun b4 => [(0, .slice A (ls.length) (c)), (2, .pointer (some ⟨b4, 0, none⟩))]) (hps' := fun b4 => [.abs R, .blk b4 [.slice none (0) (0)] 24]) (obl := fun b4 => []) [o_, o_] [0, 2] [0, 1] (fun _ _ => by kernel_rfl) (fun b4 => trivial) (fun b4 => ?_)
 refine TriL.nil (by kernel_rfl) (TriQ.next (Tri.seq (Tri.region ?_)))
 refine TriL.segN (k' := 1) (fr' := fun b5 => [(0, .slice A (ls.length) (c)), (2, .pointer (some ⟨b4, 0, none⟩)), (4, .pointer (some ⟨b5, 0, none⟩))]) (hps' := fun b5 => [.abs R, .blk b4 [.slice none (0) (0)] 24, .blk b5 [.slice none (0) (0)] 24]) (obl := fun b5 => []) [o_] [0, 2, 4] [0, 1, 2] (fun _ _ => by kernel_rfl) (fun b5 => trivial) (fun b5 => ?_)
 refine TriL.nil (by kernel_rfl) (TriQ.next (Tri.seq (Tri.region ?_)))
 refine TriL.mapMake (d := (some 17)) (t := 91) (fun _ => by kernel_rfl) Try.prog rfl 9 (fun m6 => ?_)
 refine TriL.segK (k' := 2) (fr' := [(0, .slice A (ls.length) (c)), (2, .pointer (some ⟨b4, 0, none⟩)), (4, .pointer (some ⟨b5, 0, none⟩)), (5, .map (some m6))]) (obl := []) [o_] [0, 2, 4, 5] (fun _ _ => by kernel_rfl) trivial ?_
 refine TriL.nil (by kernel_rfl) (TriQ.next (Tri.seq (Tri.seq (Tri.region ?_))))
 refine TriL.mem (fun w hS => hS.rowNil (e := 32) (size := 10)) ?_
 refine TriL.mem (hps' := [.abs R, .blk b4 [.slice none (0) (0)] 24, .blk b5 [.slice none (0) (0)] 24, .abs (MapA Try.prog 9 m6 (fun _ => none) 0), .abs (RowA 32 10 none 0 0 ([])), .abs (FamA (entF [] layN) 0)]) (fun w hS => hS.famNil (entF [] layN)) ?_
 refine TriL.mem (hps' := [.abs R, .blk b4 [.slice none (0) (0)] 24, .blk b5 [.slice none (0) (0)] 24, .abs (MapA Try.prog 9 m6 (fun _ => none) 0), .abs (RowA 32 10 none 0 0 ([])), .abs (FamA (entF [] layN) 0), .abs (FamA (datF [] layN) 0)]) (fun w hS => hS.famNil (datF [] layN)) ?_
 refine TriL.partEq 3 (p := .abs (MapA Try.prog 9 m6 (fun _ => none) 0)) (p' := .abs (MapA Try.prog 9 m6 (mS (idv ls [] 0)) 0)) (by kernel_rfl) (by rw [idv_zero]) ?_
 refine TriL.segK (k' := 3) (fr' := [(0, .slice A (ls.length) (c)), (2, .pointer (some ⟨b4, 0, none⟩)), (4, .pointer (some ⟨b5, 0, none⟩)), (5, .map (some m6)), (18, .slice A (ls.length) (c)), (19, .int .i64 ↑ls.length), (20, .int .i64 0)]) (obl := []) [o_, o_, o_] [0, 2, 4, 5, 18, 19, 20] (fun _ _ => by kernel_rfl) trivial ?_
 refine TriL.nil (by kernel_rfl) (TriQ.next (Tri.block ?_))
 refine Tri.loop (ι := Nat × PS × Lay × (Option Addr) × Nat) (fun ((i, s, L, An, cn) : Nat × PS × Lay × (Option Addr) × Nat) => (i ≤ ls.length) ∧ (PHold ls s i)) (fun ((i, s, L, An, cn) : Nat × PS × Lay × (Option Addr) × Nat) => ls.length - i) (fun ((i, s, L, An, cn) : Nat × PS × Lay × (Option Addr) × Nat) => [(0, .slice A (ls.length) (c)), (2, .pointer (some ⟨b4, 0, none⟩)), (4, .pointer (some ⟨b5, 0, none⟩)), (5, .map (some m6)), (18, .slice A (ls.length) (c)), (19, .int .i64 ↑ls.length), (20, .int .i64 ↑i)]) (fun ((i, s, L, An, cn) : Nat × PS × Lay × (Option Addr) × Nat) => [.blk b5 [.slice An (s.ns.length) (cn)] 24, .abs (RowA 32 10 An s.ns.length cn (nodesV L s.ns)), .abs (FamA (entF s.ns L) s.ns.length), .abs (FamA (datF s.ns L) s.ns.length), .abs (MapA Try.prog 9 m6 (mS (idv ls s.ids i)) i), .blk b4 [.slice none (0) (0)] 24, .abs R]) (0, PS0, layN, none, 0) (idx := [0, 2, 4, 5, 18, 19, 20]) (pk := [2, 4, 5, 6, 3, 1, 0]) (show (0 ≤ ls.length) ∧ (PHold ls PS0 0) from ⟨Nat.zero_le _, PHold.zero ls⟩) (fun _ => by kernel_rfl) rfl (by kernel_rfl) ?_
 rintro ⟨i, s, L, An, cn⟩ ⟨hi, hP⟩
 show Tri _ _ _ _ [(0, .slice A (ls.length) (c)), (2, .pointer (some ⟨b4, 0, none⟩)), (4, .pointer (some ⟨b5, 0, none⟩)), (5, .map (some m6)), (18, .slice A (ls.length) (c)), (19, .int .i64 ↑ls.length), (20, .int .i64 ↑i)] [.blk b5 [.slice An (s.ns.length) (cn)] 24, .abs (RowA 32 10 An s.ns.length cn (nodesV L s.ns)), .abs (FamA (entF s.ns L) s.ns.length), .abs (FamA (datF s.ns L) s.ns.length), .abs (MapA Try.prog 9 m6 (mS (idv ls s.ids i)) i), .blk b4 [.slice none (0) (0)] 24, .abs R] _
 have hll := hC.len
 have hnl := hP.inv.nsl
 refine Tri.seq (Tri.region ?_)
 refine TriL.segK (k' := 1) (fr' := [(0, .slice A (ls.length) (c)), (2, .pointer (some ⟨b4, 0, none⟩)), (4, .pointer (some ⟨b5, 0, none⟩)), (5, .map (some m6)), (18, .slice A (ls.length) (c)), (19, .int .i64 ↑ls.length), (20, .int .i64 ↑i), (21, .bool (decide ((((i : Nat) : Int) : Int) < (((ls.length : Nat) : Int) : Int))))]) (obl := []) [o_] [0, 2, 4, 5, 18, 19, 20, 21] (fun _ _ => by kernel_rfl) trivial ?_
 refine TriL.nil (by kernel_rfl) (TriQ.next (Tri.seq ?_))
 refine Tri.condP (p := (((i : Nat) : Int) : Int) < (((ls.length : Nat) : Int) : Int)) (fun _ => by kernel_rfl) (fun h21 => ?_) (fun h21 => ?_)
 ·
  have hi2 : i < ls.length := by omega
  have hpa := hC.path i hi2
  have hpe := hC.peer i hi2
  refine Tri.skip (TriQ.next (Tri.seq (Tri.block (Tri.seq (Tri.region ?_)))))
  refine TriL.segN (k' := 6) (fr' := fun b7 => [(0, .slice A (ls.length) (c)), (2, .pointer (some ⟨b4, 0, none⟩)), (4, .pointer (some ⟨b5, 0, none⟩)), (5, .map (some m6)), (6, .int .i64 ↑i), (7, .pointer (some ⟨b7, 0, none⟩)), (18, .slice A (ls.length) (c)), (19, .int .i64 ↑ls.length), (20, .int .i64 ↑i)]) (hps' := fun b7 => [.blk b5 [.slice An (s.ns.length) (cn)] 24, .abs (RowA 32 10 An s.ns.length cn (nodesV L s.ns)), .abs (FamA (entF s.ns L) s.ns.length), .abs (FamA (datF s.ns L) s.ns.length), .abs (MapA Try.prog 9 m6 (mS (idv ls s.ids i)) i), .blk b4 [.slice none (0) (0)] 24, .abs R, .blk b7 (lineV (M.dA i) (M.dC i) (ln ls i)) 51]) (obl := fun b7 => [b7 = b7, b7 = b7, b7 = b7, b7 = b7, b7 = b7, b7 = b7, b7 = b7, b7 = b7, b7 = b7, b7 = b7, (Rd β ⟨(blkOf A), offOf A + i * 10 + 9, none⟩ (.string (ln ls i).peer)), (Rd β ⟨(blkOf A), offOf A + i * 10 + 8, none⟩ (.string (ln ls i).target)), (Rd β ⟨(blkOf A), offOf A + i * 10 + 7, none⟩ (.slice (M.dA i) ((ln ls i).data.length) ((M.dC i)))), (Rd β ⟨(blkOf A), offOf A + i * 10 + 6, none⟩ (.int .i64 ((ln ls i).nano))), (Rd β ⟨(blkOf A), offOf A + i * 10 + 5, none⟩ (.int .i64 ((ln ls i).sec))), (Rd β ⟨(blkOf A), offOf A + i * 10 + 4, none⟩ (.int .i64 ((ln ls i).gid))), (Rd β ⟨(blkOf A), offOf A + i * 10 + 3, none⟩ (.int .i64 ((ln ls i).uid))), (Rd β ⟨(blkOf A), offOf A + i * 10 + 2, none⟩ (.int .i64 ((ln ls i).mode))), (Rd β ⟨(blkOf A), offOf A + i * 10 + 1, none⟩ (.int .i64 ((ln ls i).kind))), (Rd β ⟨(blkOf A), offOf A + i * 10, none⟩ (.string (ln ls i).path)), ((i : Nat) : Int) = ((i : Nat) : Int), i < ls.length, (⟨(blkOf A), offOf A, none⟩ : Addr).spot = none, (A : Option Addr) = some ⟨(blkOf A), offOf A, none⟩]) [o_, ⟨[], some i, none, some ⟨(blkOf A), offOf A, none⟩, none⟩, ⟨[.old (.string (ln ls i).path), .old (.int .i64 ((ln ls i).kind)), .old (.int .i64 ((ln ls i).mode)), .old (.int .i64 ((ln ls i).uid)), .old (.int .i64 ((ln ls i).gid)), .old (.int .i64 ((ln ls i).sec)), .old (.int .i64 ((ln ls i).nano)), .old (.slice (M.dA i) ((ln ls i).data.length) ((M.dC i))), .old (.string (ln ls i).target), .old (.string (ln ls i).peer)], none, none, none, none⟩, o_, o_, ⟨[.at 7, .at 7, .at 7, .at 7, .at 7, .at 7, .at 7, .at 7, .at 7, .at 7], none, none, none, none⟩] [0, 2, 4, 5, 6, 7, 18, 19, 20] [0, 1, 2, 3, 4, 5, 6, 7] (fun _ _ => by kernel_rfl) (fun b7 => ⟨rfl, rfl, rfl, rfl, rfl, rfl, rfl, rfl, rfl, rfl, LinesAt.rd hG (i := i) (by omega) (j := 9) rfl, LinesAt.rd hG (i := i) (by omega) (j := 8) rfl, LinesAt.rd hG (i := i) (by omega) (j := 7) rfl, LinesAt.rd hG (i := i) (by omega) (j := 6) rfl, LinesAt.rd hG (i := i) (by omega) (j := 5) rfl, LinesAt.rd hG (i := i) (by omega) (j := 4) rfl, LinesAt.rd hG (i := i) (by omega) (j := 3) rfl, LinesAt.rd hG (i := i) (by omega) (j := 2) rfl, LinesAt.rd hG (i := i) (by omega) (j := 1) rfl, LinesAt.rd hG (i := i) (by omega) (j := 0) rfl, rfl, by omega, rfl, LinesAt.hd hG (i := i) (by omega), trivial⟩) (fun b7 => ?_)
  refine TriL.nil (by kernel_rfl) (TriQ.next (Tri.seq (Tri.region ?_)))
  refine TriL.segK (k' := 3) (fr' := [(0, .slice A (ls.length) (c)), (2, .pointer (some ⟨b4, 0, none⟩)), (4, .pointer (some ⟨b5, 0, none⟩)), (5, .map (some m6)), (6, .int .i64 ↑i), (7, .pointer (some ⟨b7, 0, none⟩)), (18, .slice A (ls.length) (c)), (19, .int .i64 ↑ls.length), (20, .int .i64 ↑i), (25, .map (some m6)), (27, .string (ln ls i).peer)]) (obl := [b7 = b7]) [o_, o_, ⟨[.at 7], none, none, none, none⟩] [0, 2, 4, 5, 6, 7, 18, 19, 20, 25, 27] (fun _ _ => by kernel_rfl) ⟨rfl, trivial⟩ ?_
  refine TriL.mapLook 4 (d := (some 28)) (t := 91) (K := 9) (E := 3) (b := m6) (n := i) (f := (mS (idv ls s.ids i))) (x := (.tmp 25)) (ix := (.tmp 27)) (key := .string (ln ls i).peer) (z := .int .i64 0) (kl := (.string (ln ls i).peer.data.toList)) (r := (idv ls s.ids i (ln ls i).peer)) (fun _ => by kernel_rfl) (by kernel_rfl) (fun _ => by kernel_rfl) (fun _ => by kernel_rfl) lawS Try.underlying91 (fun _ => by kernel_rfl) (keyS (by omega)) (mS_at _ _) ?_
  refine TriL.slot 28 (((idv ls s.ids i (ln ls i).peer).getD (.int .i64 0))) (.int .i64 ↑(idOf ls s.ids (ln ls i).peer i)) (fun _ => by kernel_rfl) (idv_get _ _ _ _) ?_
  refine TriL.segK (k' := 5) (fr' := [(0, .slice A (ls.length) (c)), (2, .pointer (some ⟨b4, 0, none⟩)), (4, .pointer (some ⟨b5, 0, none⟩)), (5, .map (some m6)), (6, .int .i64 ↑i), (7, .pointer (some ⟨b7, 0, none⟩)), (8, .int .i64 ↑(idOf ls s.ids (ln ls i).peer i)), (18, .slice A (ls.length) (c)), (19, .int .i64 ↑ls.length), (20, .int .i64 ↑i)]) (obl := []) [o_] [0, 2, 4, 5, 6, 7, 8, 18, 19, 20] (fun _ _ => by kernel_rfl) trivial ?_
  refine TriL.nil (by kernel_rfl) (TriQ.next ?_)
  refine Tri.join (ι := Lay × (Option Addr) × Nat) (fun ((L2, An2, cn2) : Lay × (Option Addr) × Nat) => True) (fun ((L2, An2, cn2) : Lay × (Option Addr) × Nat) => [(0, .slice A (ls.length) (c)), (2, .pointer (some ⟨b4, 0, none⟩)), (4, .pointer (some ⟨b5, 0, none⟩)), (5, .map (some m6)), (6, .int .i64 ↑i), (7, .pointer (some ⟨b7, 0, none⟩)), (8, .int .i64 ↑(newId ls s i)), (18, .slice A (ls.length) (c)), (19, .int .i64 ↑ls.length), (20, .int .i64 ↑i)]) (fun ((L2, An2, cn2) : Lay × (Option Addr) × Nat) => [.abs (MapA Try.prog 9 m6 (mS (idv ls s.ids i)) i), .blk b4 [.slice none (0) (0)] 24, .blk b7 (lineV (M.dA i) (M.dC i) (ln ls i)) 51, .blk b5 [.slice An2 ((newNs ls s i).length) (cn2)] 24, .abs (RowA 32 10 An2 ((newNs ls s i).length) cn2 (nodesV L2 (newNs ls s i))), .abs (FamA (entF (newNs ls s i) L2) ((newNs ls s i).length)), .abs (FamA (datF (newNs ls s i) L2) ((newNs ls s i).length)), .abs R]) ?_ ?_
  ·
   rintro ⟨L2, An2, cn2⟩ _
   show Tri _ _ _ _ [(0, .slice A (ls.length) (c)), (2, .pointer (some ⟨b4, 0, none⟩)), (4, .pointer (some ⟨b5, 0, none⟩)), (5, .map (some m6)), (6, .int .i64 ↑i), (7, .pointer (some ⟨b7, 0, none⟩)), (8, .int .i64 ↑(newId ls s i)), (18, .slice A (ls.length) (c)), (19, .int .i64 ↑ls.length), (20, .int .i64 ↑i)] [.abs (MapA Try.prog 9 m6 (mS (idv ls s.ids i)) i), .blk b4 [.slice none (0) (0)] 24, .blk b7 (lineV (M.dA i) (M.dC i) (ln ls i)) 51, .blk b5 [.slice An2 ((newNs ls s i).length) (cn2)] 24, .abs (RowA 32 10 An2 ((newNs ls s i).length) cn2 (nodesV L2 (newNs ls s i))), .abs (FamA (entF (newNs ls s i) L2) ((newNs ls s i).length)), .abs (FamA (datF (newNs ls s i) L2) ((newNs ls s i).length)), .abs R] _
   refine Tri.seq (Tri.seq ?_)
   by_cases hid : idOf ls s.ids (ln ls i).path i = 0
   ·
    refine Tri.region ?_
    refine TriL.segK (k' := 3) (fr' := [(0, .slice A (ls.length) (c)), (2, .pointer (some ⟨b4, 0, none⟩)), (4, .pointer (some ⟨b5, 0, none⟩)), (5, .map (some m6)), (6, .int .i64 ↑i), (7, .pointer (some ⟨b7, 0, none⟩)), (8, .int .i64 ↑(newId ls s i)), (18, .slice A (ls.length) (c)), (19, .int .i64 ↑ls.length), (20, .int .i64 ↑i), (59, .map (some m6)), (61, .string (ln ls i).path)]) (obl := [b7 = b7]) [o_, o_, ⟨[.at 2], none, none, none, none⟩] [0, 2, 4, 5, 6, 7, 8, 18, 19, 20, 59, 61] (fun _ _ => by kernel_rfl) ⟨rfl, trivial⟩ ?_
    refine TriL.mapLookOk 0 (d := (some 62)) (t := 91) (K := 9) (E := 3) (b := m6) (n := i) (f := (mS (idv ls s.ids i))) (x := (.tmp 59)) (ix := (.tmp 61)) (key := .string (ln ls i).path) (z := .int .i64 0) (kl := (.string (ln ls i).path.data.toList)) (r := none) (fun _ => by kernel_rfl) (by kernel_rfl) (fun _ => by kernel_rfl) (fun _ => by kernel_rfl) lawS Try.underlying91 (fun _ => by kernel_rfl) (keyS (by omega)) (idv_none hid) ?_
    refine TriL.segK (k' := 9) (fr' := [(0, .slice A (ls.length) (c)), (2, .pointer (some ⟨b4, 0, none⟩)), (4, .pointer (some ⟨b5, 0, none⟩)), (5, .map (some m6)), (6, .int .i64 ↑i), (7, .pointer (some ⟨b7, 0, none⟩)), (8, .int .i64 ↑(newId ls s i)), (10, .bool false), (18, .slice A (ls.length) (c)), (19, .int .i64 ↑ls.length), (20, .int .i64 ↑i)]) (obl := []) [o_, o_, o_, o_, o_] [0, 2, 4, 5, 6, 7, 8, 10, 18, 19, 20] (fun _ _ => by kernel_rfl) trivial ?_
    refine TriL.nil (by kernel_rfl) (TriQ.next (Tri.seq (Tri.region ?_)))
    refine TriL.segK (k' := 5) (fr' := [(0, .slice A (ls.length) (c)), (2, .pointer (some ⟨b4, 0, none⟩)), (4, .pointer (some ⟨b5, 0, none⟩)), (5, .map (some m6)), (6, .int .i64 ↑i), (7, .pointer (some ⟨b7, 0, none⟩)), (8, .int .i64 ↑(newId ls s i)), (18, .slice A (ls.length) (c)), (19, .int .i64 ↑ls.length), (20, .int .i64 ↑i), (69, .bool (decide (((((newId ls s i) : Nat) : Int) : Int) = (0 : Int))))]) (obl := []) [o_, o_, o_, o_, o_] [0, 2, 4, 5, 6, 7, 8, 18, 19, 20, 69] (fun _ _ => by kernel_rfl) trivial ?_
    refine TriL.nil (by kernel_rfl) (TriQ.next ?_)
    refine Tri.condP (p := ((((newId ls s i) : Nat) : Int) : Int) = (0 : Int)) (fun _ => by kernel_rfl) (fun h69 => ?_) (fun h69 => ?_)
    ·
     refine Tri.seq (Tri.region ?_)
     refine TriL.seg (k' := 3) (fr' := [(2, .pointer (some ⟨b4, 0, none⟩)), (3, .int .i64 151)]) (hps' := [.abs (MapA Try.prog 9 m6 (mS (idv ls s.ids i)) i), .blk b4 [.slice none (0) (0)] 24, .blk b7 (lineV (M.dA i) (M.dC i) (ln ls i)) 51, .blk b5 [.slice An2 ((newNs ls s i).length) (cn2)] 24, .abs (RowA 32 10 An2 ((newNs ls s i).length) cn2 (nodesV L2 (newNs ls s i))), .abs (FamA (entF (newNs ls s i) L2) ((newNs ls s i).length)), .abs (FamA (datF (newNs ls s i) L2) ((newNs ls s i).length)), .abs R]) (obl := [b4 = b4]) [o_, ⟨[.at 1], none, none, none, none⟩, o_] [2, 3] [0, 1, 2, 3, 4, 5, 6, 7] (fun _ _ => by kernel_rfl) ⟨rfl, trivial⟩ ?_
     refine TriL.nil (by kernel_rfl) (TriQ.next (Tri.ret (TriQ.passRet (TriQ.blockRet (TriQ.passRet (TriQ.passRet (TriQ.blockRet (TriQ.passRet ?_))))))))
     refine TriQ.mem (hps' := [.abs (MapA Try.prog 9 m6 (mS (idv ls s.ids i)) i), .blk b4 [.slice none (0) (0)] 24, .blk b7 (lineV (M.dA i) (M.dC i) (ln ls i)) 51, .blk b5 [.slice An2 ((newNs ls s i).length) (cn2)] 24, .abs (RowA 32 10 An2 ((newNs ls s i).length) cn2 (nodesV L2 (newNs ls s i))), .abs (FamA (entF (newNs ls s i) L2) ((newNs ls s i).length)), .abs (FamA (datF (newNs ls s i) L2) ((newNs ls s i).length)), .abs R, .abs (RowA 32 10 none 0 0 ([])), .abs (FamA (entF [] layN) 0), .abs (FamA (datF [] layN) 0)]) (fun w hS => ((hS.rowNil (e := 32) (size := 10)).famNil (entF [] layN)).famNil (datF [] layN)) ?_
     exact TriQ.ret (v := .tuple #[.agg #[.slice none (0) (0)], .int .i64 151]) (l := [.abs (RowA 32 10 none 0 0 ([])), .abs (FamA (entF [] layN) 0), .abs (FamA (datF [] layN) 0)]) (obl := [b4 = b4]) [.at 1] [8, 9, 10, 7] (fun _ => by kernel_rfl) ⟨rfl, trivial⟩ rfl (by kernel_rfl) (⟨none, 0, layN, by rw [plantG_none (hP.stop hi2 (stepP_noid (by omega)))]; rfl, by rw [plantG_none (hP.stop hi2 (stepP_noid (by omega)))]; rfl⟩)
    ·
     refine Tri.skip (TriQ.next (Tri.seq (Tri.seq (Tri.region ?_))))
     refine TriL.segK (k' := 2) (fr' := [(0, .slice A (ls.length) (c)), (2, .pointer (some ⟨b4, 0, none⟩)), (4, .pointer (some ⟨b5, 0, none⟩)), (5, .map (some m6)), (7, .pointer (some ⟨b7, 0, none⟩)), (8, .int .i64 ↑(newId ls s i)), (18, .slice A (ls.length) (c)), (19, .int .i64 ↑ls.length), (20, .int .i64 ↑i), (72, .bool (decide ((((i : Nat) : Int) : Int) > (0 : Int))))]) (obl := []) [o_, o_] [0, 2, 4, 5, 7, 8, 18, 19, 20, 72] (fun _ _ => by kernel_rfl) trivial ?_
     refine TriL.nil (by kernel_rfl) (TriQ.next ?_)
     refine Tri.condP (p := (((i : Nat) : Int) : Int) > (0 : Int)) (fun _ => by kernel_rfl) (fun h72 => ?_) (fun h72 => ?_)
     ·
      refine Tri.seq ?_
      refine Tri.regionQ (by kernel_rfl) (by kernel_rfl) ?_
      refine TriLQ.seg (k' := 4) (fr' := [(0, .slice A (ls.length) (c)), (2, .pointer (some ⟨b4, 0, none⟩)), (4, .pointer (some ⟨b5, 0, none⟩)), (5, .map (some m6)), (7, .pointer (some ⟨b7, 0, none⟩)), (8, .int .i64 ↑(newId ls s i)), (11, .int .i64 1), (12, .string (ln ls i).path), (18, .slice A (ls.length) (c)), (19, .int .i64 ↑ls.length), (20, .int .i64 ↑i)]) (obl := [b7 = b7]) [o_, ⟨[.at 2], none, none, none, none⟩, o_, o_] [0, 2, 4, 5, 7, 8, 11, 12, 18, 19, 20] (fun _ _ => by kernel_rfl) ⟨rfl, trivial⟩ ?_
      refine TriLQ.nil (by kernel_rfl) (TriQ.next ?_)
      refine Tri.join (ι := Unit) (fun (u : Unit) => True) (fun (u : Unit) => [(0, .slice A (ls.length) (c)), (2, .pointer (some ⟨b4, 0, none⟩)), (4, .pointer (some ⟨b5, 0, none⟩)), (5, .map (some m6)), (7, .pointer (some ⟨b7, 0, none⟩)), (8, .int .i64 ↑(newId ls s i)), (11, .int .i64 ↑(parP ls s i)), (12, .string (nameOf (ln ls i).path)), (18, .slice A (ls.length) (c)), (19, .int .i64 ↑ls.length), (20, .int .i64 ↑i)]) (fun (u : Unit) => [.abs (MapA Try.prog 9 m6 (mS (idv ls s.ids i)) i), .blk b4 [.slice none (0) (0)] 24, .blk b7 (lineV (M.dA i) (M.dC i) (ln ls i)) 51, .blk b5 [.slice An2 ((newNs ls s i).length) (cn2)] 24, .abs (RowA 32 10 An2 ((newNs ls s i).length) cn2 (nodesV L2 (newNs ls s i))), .abs (FamA (entF (newNs ls s i) L2) ((newNs ls s i).length)), .abs (FamA (datF (newNs ls s i) L2) ((newNs ls s i).length)), .abs R]) ?_ ?_
      ·
       rintro u _
       show Tri _ _ _ _ [(0, .slice A (ls.length) (c)), (2, .pointer (some ⟨b4, 0, none⟩)), (4, .pointer (some ⟨b5, 0, none⟩)), (5, .map (some m6)), (7, .pointer (some ⟨b7, 0, none⟩)), (8, .int .i64 ↑(newId ls s i)), (11, .int .i64 ↑(parP ls s i)), (12, .string (nameOf (ln ls i).path)), (18, .slice A (ls.length) (c)), (19, .int .i64 ↑ls.length), (20, .int .i64 ↑i)] [.abs (MapA Try.prog 9 m6 (mS (idv ls s.ids i)) i), .blk b4 [.slice none (0) (0)] 24, .blk b7 (lineV (M.dA i) (M.dC i) (ln ls i)) 51, .blk b5 [.slice An2 ((newNs ls s i).length) (cn2)] 24, .abs (RowA 32 10 An2 ((newNs ls s i).length) cn2 (nodesV L2 (newNs ls s i))), .abs (FamA (entF (newNs ls s i) L2) ((newNs ls s i).length)), .abs (FamA (datF (newNs ls s i) L2) ((newNs ls s i).length)), .abs R] _
       refine Tri.seq (Tri.seq (Tri.region ?_))
       refine TriL.segK (k' := 2) (fr' := [(0, .slice A (ls.length) (c)), (2, .pointer (some ⟨b4, 0, none⟩)), (4, .pointer (some ⟨b5, 0, none⟩)), (5, .map (some m6)), (7, .pointer (some ⟨b7, 0, none⟩)), (8, .int .i64 ↑(newId ls s i)), (11, .int .i64 ↑(parP ls s i)), (12, .string (nameOf (ln ls i).path)), (18, .slice A (ls.length) (c)), (19, .int .i64 ↑ls.length), (20, .int .i64 ↑i), (92, .bool (decide (((((parP ls s i) : Nat) : Int) : Int) = (0 : Int))))]) (obl := []) [o_, o_] [0, 2, 4, 5, 7, 8, 11, 12, 18, 19, 20, 92] (fun _ _ => by kernel_rfl) trivial ?_
       refine TriL.nil (by kernel_rfl) (TriQ.next ?_)
       refine Tri.condP (p := ((((parP ls s i) : Nat) : Int) : Int) = (0 : Int)) (fun _ => by kernel_rfl) (fun h92 => ?_) (fun h92 => ?_)
       ·
        refine Tri.seq (Tri.region ?_)
        refine TriL.seg (k' := 3) (fr' := [(2, .pointer (some ⟨b4, 0, none⟩)), (3, .int .i64 151)]) (hps' := [.abs (MapA Try.prog 9 m6 (mS (idv ls s.ids i)) i), .blk b4 [.slice none (0) (0)] 24, .blk b7 (lineV (M.dA i) (M.dC i) (ln ls i)) 51, .blk b5 [.slice An2 ((newNs ls s i).length) (cn2)] 24, .abs (RowA 32 10 An2 ((newNs ls s i).length) cn2 (nodesV L2 (newNs ls s i))), .abs (FamA (entF (newNs ls s i) L2) ((newNs ls s i).length)), .abs (FamA (datF (newNs ls s i) L2) ((newNs ls s i).length)), .abs R]) (obl := [b4 = b4]) [o_, ⟨[.at 1], none, none, none, none⟩, o_] [2, 3] [0, 1, 2, 3, 4, 5, 6, 7] (fun _ _ => by kernel_rfl) ⟨rfl, trivial⟩ ?_
        refine TriL.nil (by kernel_rfl) (TriQ.next (Tri.ret (TriQ.passRet (TriQ.passRet (TriQ.blockRet (TriQ.passRet (TriQ.passRet (TriQ.blockRet (TriQ.passRet ?_)))))))))
        refine TriQ.mem (hps' := [.abs (MapA Try.prog 9 m6 (mS (idv ls s.ids i)) i), .blk b4 [.slice none (0) (0)] 24, .blk b7 (lineV (M.dA i) (M.dC i) (ln ls i)) 51, .blk b5 [.slice An2 ((newNs ls s i).length) (cn2)] 24, .abs (RowA 32 10 An2 ((newNs ls s i).length) cn2 (nodesV L2 (newNs ls s i))), .abs (FamA (entF (newNs ls s i) L2) ((newNs ls s i).length)), .abs (FamA (datF (newNs ls s i) L2) ((newNs ls s i).length)), .abs R, .abs (RowA 32 10 none 0 0 ([])), .abs (FamA (entF [] layN) 0), .abs (FamA (datF [] layN) 0)]) (fun w hS => ((hS.rowNil (e := 32) (size := 10)).famNil (entF [] layN)).famNil (datF [] layN)) ?_
        exact TriQ.ret (v := .tuple #[.agg #[.slice none (0) (0)], .int .i64 151]) (l := [.abs (RowA 32 10 none 0 0 ([])), .abs (FamA (entF [] layN) 0), .abs (FamA (datF [] layN) 0)]) (obl := [b4 = b4]) [.at 1] [8, 9, 10, 7] (fun _ => by kernel_rfl) ⟨rfl, trivial⟩ rfl (by kernel_rfl) (⟨none, 0, layN, by rw [plantG_none (hP.stop hi2 (stepP_noparent hid (by omega) (by omega) (by omega)))]; rfl, by rw [plantG_none (hP.stop hi2 (stepP_noparent hid (by omega) (by omega) (by omega)))]; rfl⟩)
       ·
        refine Tri.skip (TriQ.next (Tri.seq (Tri.region ?_)))
        have hp0 : 0 < i := by omega
        have hp1 := parP_le hP.inv hp0
        have hp2 := newNs_ge (ls := ls) (s := s) (i := i)
        have hp3 : ((parP ls s i) - 1) < (newNs ls s i).length := by omega
        have hel := (EntsLe.new (ls := ls) hP.ents) ((parP ls s i) - 1) hp3
        refine TriL.tell (p := ∃ g, An2 = some ⟨g, 0, none⟩) (fun w hS => let ⟨F, h⟩ := hS.get (i := 4) rfl; RowA.head h (by omega)) (fun ⟨g8, hg⟩ => ?_)
        subst hg
        refine TriL.segK (k' := 7) (fr' := [(0, .slice A (ls.length) (c)), (2, .pointer (some ⟨b4, 0, none⟩)), (4, .pointer (some ⟨b5, 0, none⟩)), (5, .map (some m6)), (7, .pointer (some ⟨b7, 0, none⟩)), (8, .int .i64 ↑(newId ls s i)), (12, .string (nameOf (ln ls i).path)), (14, .pointer (some ⟨g8, ((parP ls s i) - 1) * 10 + 9, none⟩)), (18, .slice A (ls.length) (c)), (19, .int .i64 ↑ls.length), (20, .int .i64 ↑i)]) (obl := [(Value.pointer (some ⟨g8, 0 + ((parP ls s i) - 1) * 10, none⟩)) = (.pointer (some ⟨g8, ((parP ls s i) - 1) * 10, none⟩)), ((((parP ls s i) - 1) : Nat) : Int) = ((((parP ls s i) - 1) : Nat) : Int), ((parP ls s i) - 1) < (newNs ls s i).length, (⟨g8, 0, none⟩ : Addr).spot = none, (Value.int .i64 (IntKind.wrap .i64 ((((parP ls s i) : Nat) : Int) - 1))) = (.int .i64 ↑((parP ls s i) - 1)), b5 = b5]) [o_, ⟨[.at 3], none, none, none, none⟩, o_, ⟨[], none, none, none, some (.int .i64 ↑((parP ls s i) - 1))⟩, ⟨[], some ((parP ls s i) - 1), none, none, some (.pointer (some ⟨g8, ((parP ls s i) - 1) * 10, none⟩))⟩, o_, o_] [0, 2, 4, 5, 7, 8, 12, 14, 18, 19, 20] (fun _ _ => by kernel_rfl) ⟨by simp, rfl, by omega, rfl, wrapEq (by omega) (by omega) (by omega), rfl, trivial⟩ ?_
        refine TriL.nil (by kernel_rfl) (TriQ.next (Tri.region ?_))
        refine TriL.segN (k' := 8) (fr' := fun b9 => [(0, .slice A (ls.length) (c)), (2, .pointer (some ⟨b4, 0, none⟩)), (4, .pointer (some ⟨b5, 0, none⟩)), (5, .map (some m6)), (7, .pointer (some ⟨b7, 0, none⟩)), (8, .int .i64 ↑(newId ls s i)), (18, .slice A (ls.length) (c)), (19, .int .i64 ↑ls.length), (20, .int .i64 ↑i), (100, .pointer (some ⟨g8, ((parP ls s i) - 1) * 10 + 9, none⟩)), (103, .slice (L2.eA ((parP ls s i) - 1)) ((nd (newNs ls s i) ((parP ls s i) - 1)).ents.length) ((L2.eC ((parP ls s i) - 1)))), (107, .slice (some ⟨b9, 0, none⟩) (1) (1))]) (hps' := fun b9 => [.abs (MapA Try.prog 9 m6 (mS (idv ls s.ids i)) i), .blk b4 [.slice none (0) (0)] 24, .blk b7 (lineV (M.dA i) (M.dC i) (ln ls i)) 51, .blk b5 [.slice (some ⟨g8, 0, none⟩) ((newNs ls s i).length) (cn2)] 24, .abs (RowA 32 10 (some ⟨g8, 0, none⟩) ((newNs ls s i).length) cn2 (nodesV L2 (newNs ls s i))), .abs (FamA (entF (newNs ls s i) L2) ((newNs ls s i).length)), .abs (FamA (datF (newNs ls s i) L2) ((newNs ls s i).length)), .abs R, .blk b9 [.string (nameOf (ln ls i).path), .int .i64 ↑(newId ls s i)] 72]) (obl := fun b9 => [(∀ F w, (RowA 32 10 (some ⟨g8, 0, none⟩) ((newNs ls s i).length) cn2 (nodesV L2 (newNs ls s i))).h F w → w.cell? ⟨g8, ((parP ls s i) - 1) * 10 + 9, none⟩ = some (.slice (L2.eA ((parP ls s i) - 1)) ((nd (newNs ls s i) ((parP ls s i) - 1)).ents.length) ((L2.eC ((parP ls s i) - 1)))))]) [o_, o_, o_, ⟨[.view 4 (.slice (L2.eA ((parP ls s i) - 1)) ((nd (newNs ls s i) ((parP ls s i) - 1)).ents.length) ((L2.eC ((parP ls s i) - 1))))], none, none, none, none⟩, o_, o_, o_, o_] [0, 2, 4, 5, 7, 8, 18, 19, 20, 100, 103, 107] [0, 1, 2, 3, 4, 5, 6, 7, 8] (fun _ _ => by kernel_rfl) (fun b9 => ⟨RowA.cell (nodesV_get (k := ((parP ls s i) - 1)) (j := 9) (by omega) rfl), trivial⟩) (fun b9 => ?_)
        refine TriL.mem (hps' := [.abs (MapA Try.prog 9 m6 (mS (idv ls s.ids i)) i), .blk b4 [.slice none (0) (0)] 24, .blk b7 (lineV (M.dA i) (M.dC i) (ln ls i)) 51, .blk b5 [.slice (some ⟨g8, 0, none⟩) ((newNs ls s i).length) (cn2)] 24, .abs (RowA 32 10 (some ⟨g8, 0, none⟩) ((newNs ls s i).length) cn2 (nodesV L2 (newNs ls s i))), .abs (FamA (updR (entF (newNs ls s i) L2) ((parP ls s i) - 1) Asn.none) ((newNs ls s i).length)), .abs (FamA (datF (newNs ls s i) L2) ((newNs ls s i).length)), .abs R, .blk b9 [.string (nameOf (ln ls i).path), .int .i64 ↑(newId ls s i)] 72, .abs (RowA 72 2 (L2.eA ((parP ls s i) - 1)) ((nd (newNs ls s i) ((parP ls s i) - 1)).ents.length) (L2.eC ((parP ls s i) - 1)) (entsV (nd (newNs ls s i) ((parP ls s i) - 1)).ents))]) (fun w hS => hS.famTake (i := 5) (k := ((parP ls s i) - 1)) rfl (hp3)) ?_
        refine TriL.append 9 (d := (some 108)) (t := 30) (e := 72) (z := .agg #[.string ⟨#[]⟩, .int .i64 0]) (size := 2) (bytes := 24) (n := (nd (newNs ls s i) ((parP ls s i) - 1)).ents.length) (cap := (L2.eC ((parP ls s i) - 1))) (A := (L2.eA ((parP ls s i) - 1))) (xs := (entsV (nd (newNs ls s i) ((parP ls s i) - 1)).ents)) (s := (.tmp 103)) (x := (.tmp 107)) (ats := #[30, 30]) (A' := some ⟨b9, 0, none⟩) (m := 1) (c' := 1) (news := [.string (nameOf (ln ls i).path), .int .i64 ↑(newId ls s i)]) (fun _ => by kernel_rfl) rfl (by kernel_rfl) (fun _ => by kernel_rfl) (fun _ => by kernel_rfl) Try.underlying30 (by kernel_rfl) rfl (by decide) (by simp) (by simp [Value.oneCell']) (src_blk (j := 8) rfl) (by unfold maxLen; omega) (by omega) (fun A10 c11 => ?_)
        refine TriL.mem (hps' := [.abs (FamA (entF (addEnt (newNs ls s i) ((parP ls s i) - 1) (⟨nameOf (ln ls i).path, (((newId ls s i) : Nat) : Int)⟩ : EntM)) (L2.ent ((parP ls s i) - 1) A10 c11)) ((newNs ls s i).length)), .abs (MapA Try.prog 9 m6 (mS (idv ls s.ids i)) i), .blk b4 [.slice none (0) (0)] 24, .blk b7 (lineV (M.dA i) (M.dC i) (ln ls i)) 51, .blk b5 [.slice (some ⟨g8, 0, none⟩) ((newNs ls s i).length) (cn2)] 24, .abs (RowA 32 10 (some ⟨g8, 0, none⟩) ((newNs ls s i).length) cn2 (nodesV L2 (newNs ls s i))), .abs (FamA (datF (newNs ls s i) L2) ((newNs ls s i).length)), .abs R, .blk b9 [.string (nameOf (ln ls i).path), .int .i64 ↑(newId ls s i)] 72]) (fun w hS => hS.famPut (R' := (entF (addEnt (newNs ls s i) ((parP ls s i) - 1) (⟨nameOf (ln ls i).path, (((newId ls s i) : Nat) : Int)⟩ : EntM)) (L2.ent ((parP ls s i) - 1) A10 c11))) (i := 5) (j := 9) (idx := [0, 1, 2, 3, 4, 6, 7, 8]) (k := ((parP ls s i) - 1)) rfl rfl (by kernel_rfl) rfl (hp3) ((entF_ent hp3).1) ((entF_ent hp3).2)) ?_
        refine TriL.segK (k' := 10) (fr' := [(0, .slice A (ls.length) (c)), (2, .pointer (some ⟨b4, 0, none⟩)), (4, .pointer (some ⟨b5, 0, none⟩)), (5, .map (some m6)), (7, .pointer (some ⟨b7, 0, none⟩)), (8, .int .i64 ↑(newId ls s i)), (18, .slice A (ls.length) (c)), (19, .int .i64 ↑ls.length), (20, .int .i64 ↑i), (108, .slice A10 (((nd (newNs ls s i) ((parP ls s i) - 1)).ents.length) + 1) (c11)), (109, .pointer (some ⟨g8, ((parP ls s i) - 1) * 10 + 9, none⟩))]) (obl := []) [o_] [0, 2, 4, 5, 7, 8, 18, 19, 20, 108, 109] (fun _ _ => by kernel_rfl) trivial ?_
        refine TriL.rowSet 5 (((parP ls s i) - 1) * 10 + 9) (d := none) (T := 30) (e := 32) (size := 10) (n := (newNs ls s i).length) (cap := cn2) (g := g8) (xs := (nodesV L2 (newNs ls s i))) (u := .slice A10 (((nd (newNs ls s i) ((parP ls s i) - 1)).ents.length) + 1) (c11)) (a := (.tmp 109)) (y := (.tmp 108)) (fun _ => by kernel_rfl) (by kernel_rfl) (fun _ => by kernel_rfl) (fun _ => by kernel_rfl) (by kernel_rfl) rfl (by rw [nodesV_len]; omega) ?_
        refine TriL.partEq 5 (p := .abs (RowA 32 10 (some ⟨g8, 0, none⟩) ((newNs ls s i).length) cn2 ((nodesV L2 (newNs ls s i)).set (((parP ls s i) - 1) * 10 + 9) (.slice A10 (((nd (newNs ls s i) ((parP ls s i) - 1)).ents.length) + 1) (c11))))) (p' := .abs (RowA 32 10 (some ⟨g8, 0, none⟩) ((newNs ls s i).length) cn2 (nodesV (L2.ent ((parP ls s i) - 1) A10 c11) (addEnt (newNs ls s i) ((parP ls s i) - 1) (⟨nameOf (ln ls i).path, (((newId ls s i) : Nat) : Int)⟩ : EntM))))) (by kernel_rfl) (by rw [nodesV_ent hp3]) ?_
        refine TriL.nil (by kernel_rfl) (TriQ.next (Tri.region ?_))
        refine TriL.partEq 5 (p := .abs (RowA 32 10 (some ⟨g8, 0, none⟩) ((newNs ls s i).length) cn2 (nodesV (L2.ent ((parP ls s i) - 1) A10 c11) (addEnt (newNs ls s i) ((parP ls s i) - 1) (⟨nameOf (ln ls i).path, (((newId ls s i) : Nat) : Int)⟩ : EntM))))) (p' := .abs (RowA 32 10 (some ⟨g8, 0, none⟩) ((addEnt (newNs ls s i) ((parP ls s i) - 1) (⟨nameOf (ln ls i).path, (((newId ls s i) : Nat) : Int)⟩ : EntM)).length) cn2 (nodesV (L2.ent ((parP ls s i) - 1) A10 c11) (addEnt (newNs ls s i) ((parP ls s i) - 1) (⟨nameOf (ln ls i).path, (((newId ls s i) : Nat) : Int)⟩ : EntM))))) (by kernel_rfl) (by rw [addEnt_len]) ?_
        refine TriL.partEq 0 (p := .abs (FamA (entF (addEnt (newNs ls s i) ((parP ls s i) - 1) (⟨nameOf (ln ls i).path, (((newId ls s i) : Nat) : Int)⟩ : EntM)) (L2.ent ((parP ls s i) - 1) A10 c11)) ((newNs ls s i).length))) (p' := .abs (FamA (entF (addEnt (newNs ls s i) ((parP ls s i) - 1) (⟨nameOf (ln ls i).path, (((newId ls s i) : Nat) : Int)⟩ : EntM)) (L2.ent ((parP ls s i) - 1) A10 c11)) ((addEnt (newNs ls s i) ((parP ls s i) - 1) (⟨nameOf (ln ls i).path, (((newId ls s i) : Nat) : Int)⟩ : EntM)).length))) (by kernel_rfl) (by rw [addEnt_len]) ?_
        refine TriL.partEq 6 (p := .abs (FamA (datF (newNs ls s i) L2) ((newNs ls s i).length))) (p' := .abs (FamA (datF (addEnt (newNs ls s i) ((parP ls s i) - 1) (⟨nameOf (ln ls i).path, (((newId ls s i) : Nat) : Int)⟩ : EntM)) (L2.ent ((parP ls s i) - 1) A10 c11)) ((addEnt (newNs ls s i) ((parP ls s i) - 1) (⟨nameOf (ln ls i).path, (((newId ls s i) : Nat) : Int)⟩ : EntM)).length))) (by kernel_rfl) (by rw [datF_ent hp3, addEnt_len]) ?_
        refine TriL.partEq 4 (p := .blk b5 [.slice (some ⟨g8, 0, none⟩) ((newNs ls s i).length) (cn2)] 24) (p' := .blk b5 [.slice (some ⟨g8, 0, none⟩) ((addEnt (newNs ls s i) ((parP ls s i) - 1) (⟨nameOf (ln ls i).path, (((newId ls s i) : Nat) : Int)⟩ : EntM)).length) (cn2)] 24) (by kernel_rfl) (by rw [addEnt_len]) ?_
        refine TriL.segK (k' := 4) (fr' := [(0, .slice A (ls.length) (c)), (2, .pointer (some ⟨b4, 0, none⟩)), (4, .pointer (some ⟨b5, 0, none⟩)), (5, .map (some m6)), (18, .slice A (ls.length) (c)), (19, .int .i64 ↑ls.length), (20, .int .i64 ↑i), (110, .map (some m6)), (112, .string (ln ls i).path), (113, .int .i64 ↑(newId ls s i))]) (obl := [b7 = b7]) [o_, o_, ⟨[.at 3], none, none, none, none⟩, o_] [0, 2, 4, 5, 18, 19, 20, 110, 112, 113] (fun _ _ => by kernel_rfl) ⟨rfl, trivial⟩ ?_
        refine TriL.mapSet 1 (d := none) (t := 91) (K := 9) (E := 3) (b := m6) (n := i) (f := (mS (idv ls s.ids i))) (x := (.tmp 110)) (ix := (.tmp 112)) (y := (.tmp 113)) (key := .string (ln ls i).path) (u := .int .i64 ↑(newId ls s i)) (kl := (.string (ln ls i).path.data.toList)) (n' := (i + 1)) (f' := (mS (idv ls (s.ids ++ [newId ls s i]) (i + 1)))) (fun _ => by kernel_rfl) (by kernel_rfl) (fun _ => by kernel_rfl) (fun _ => by kernel_rfl) (fun _ => by kernel_rfl) lawS Try.underlying91 (by unfold maxLen; omega) (keyS (by omega)) (idv_cnt hid) (idv_upd hP.inv.idl (by omega) hid) ?_
        refine TriL.nil (by kernel_rfl) (TriQ.blockNormal (TriQ.next (Tri.region ?_)))
        refine TriL.segK (k' := 2) (fr' := [(0, .slice A (ls.length) (c)), (2, .pointer (some ⟨b4, 0, none⟩)), (4, .pointer (some ⟨b5, 0, none⟩)), (5, .map (some m6)), (18, .slice A (ls.length) (c)), (19, .int .i64 ↑ls.length), (20, .int .i64 ↑(i + 1))]) (obl := [(Value.int .i64 (IntKind.wrap .i64 (((i : Nat) : Int) + 1))) = (.int .i64 ↑(i + 1))]) [⟨[], none, none, none, some (.int .i64 ↑(i + 1))⟩, o_] [0, 2, 4, 5, 18, 19, 20] (fun _ _ => by kernel_rfl) ⟨wrapEq (by omega) (by omega) (by omega), trivial⟩ ?_
        refine TriL.nil (by kernel_rfl) ?_
        exact TriQ.turn ((i + 1), ⟨(addEnt (newNs ls s i) ((parP ls s i) - 1) (⟨nameOf (ln ls i).path, (((newId ls s i) : Nat) : Int)⟩ : EntM)), (s.ids ++ [newId ls s i])⟩, (L2.ent ((parP ls s i) - 1) A10 c11), some ⟨g8, 0, none⟩, cn2) (idx := [0, 2, 4, 5, 18, 19, 20]) (pk := [4, 5, 0, 6, 1, 2, 7]) (show (((i + 1)) ≤ ls.length) ∧ (PHold ls (⟨(addEnt (newNs ls s i) ((parP ls s i) - 1) (⟨nameOf (ln ls i).path, (((newId ls s i) : Nat) : Int)⟩ : EntM)), (s.ids ++ [newId ls s i])⟩) ((i + 1))) from ⟨by omega, hP.next (stepP_more hid (by omega) (by omega) (by omega)) ((EntsLe.new hP.ents).ent hp3)⟩) (by show ls.length - ((i + 1)) < ls.length - i; omega) (fun _ => by kernel_rfl) rfl (by kernel_rfl)
      ·
       refine Tri.seq (Tri.region ?_)
       refine TriL.segK (k' := 2) (fr' := [(0, .slice A (ls.length) (c)), (2, .pointer (some ⟨b4, 0, none⟩)), (4, .pointer (some ⟨b5, 0, none⟩)), (5, .map (some m6)), (7, .pointer (some ⟨b7, 0, none⟩)), (8, .int .i64 ↑(newId ls s i)), (11, .int .i64 1), (12, .string (ln ls i).path), (18, .slice A (ls.length) (c)), (19, .int .i64 ↑ls.length), (20, .int .i64 ↑i), (76, .string (ln ls i).path)]) (obl := [b7 = b7]) [o_, ⟨[.at 2], none, none, none, none⟩] [0, 2, 4, 5, 7, 8, 11, 12, 18, 19, 20, 76] (fun _ _ => by kernel_rfl) ⟨rfl, trivial⟩ ?_
       refine TriL.call (f := 51) (args := #[.string (ln ls i).path, .int .u8 47]) (d := (some 77)) (pre := []) (R := [.abs (MapA Try.prog 9 m6 (mS (idv ls s.ids i)) i), .blk b4 [.slice none (0) (0)] 24, .blk b7 (lineV (M.dA i) (M.dC i) (ln ls i)) 51, .blk b5 [.slice An2 ((newNs ls s i).length) (cn2)] 24, .abs (RowA 32 10 An2 ((newNs ls s i).length) cn2 (nodesV L2 (newNs ls s i))), .abs (FamA (entF (newNs ls s i) L2) ((newNs ls s i).length)), .abs (FamA (datF (newNs ls s i) L2) ((newNs ls s i).length)), .abs R]) (pk := [0, 1, 2, 3, 4, 5, 6, 7]) (fun _ => by kernel_rfl) (Spec.quiet (fun w => Try.strings_LastIndexByte (ln ls i).path 47 (by omega) w)) rfl (by kernel_rfl) ?_
       rintro _ _ ⟨rfl, rfl⟩
       refine TriL.segK (k' := 4) (fr' := [(0, .slice A (ls.length) (c)), (2, .pointer (some ⟨b4, 0, none⟩)), (4, .pointer (some ⟨b5, 0, none⟩)), (5, .map (some m6)), (7, .pointer (some ⟨b7, 0, none⟩)), (8, .int .i64 ↑(newId ls s i)), (11, .int .i64 1), (12, .string (ln ls i).path), (13, .int .i64 ((cutAt (ln ls i).path))), (18, .slice A (ls.length) (c)), (19, .int .i64 ↑ls.length), (20, .int .i64 ↑i)]) (obl := []) [o_] [0, 2, 4, 5, 7, 8, 11, 12, 13, 18, 19, 20] (fun _ _ => by kernel_rfl) trivial ?_
       refine TriL.nil (by kernel_rfl) (TriQ.next (Tri.seq (Tri.region ?_)))
       refine TriL.segK (k' := 2) (fr' := [(0, .slice A (ls.length) (c)), (2, .pointer (some ⟨b4, 0, none⟩)), (4, .pointer (some ⟨b5, 0, none⟩)), (5, .map (some m6)), (7, .pointer (some ⟨b7, 0, none⟩)), (8, .int .i64 ↑(newId ls s i)), (11, .int .i64 1), (12, .string (ln ls i).path), (13, .int .i64 ((cutAt (ln ls i).path))), (18, .slice A (ls.length) (c)), (19, .int .i64 ↑ls.length), (20, .int .i64 ↑i), (79, .bool (decide (((cutAt (ln ls i).path) : Int) ≥ (0 : Int))))]) (obl := []) [o_, o_] [0, 2, 4, 5, 7, 8, 11, 12, 13, 18, 19, 20, 79] (fun _ _ => by kernel_rfl) trivial ?_
       refine TriL.nil (by kernel_rfl) (TriQ.next ?_)
       refine Tri.condP (p := ((cutAt (ln ls i).path) : Int) ≥ (0 : Int)) (fun _ => by kernel_rfl) (fun h79 => ?_) (fun h79 => ?_)
       ·
        refine Tri.regionQ (by kernel_rfl) (by kernel_rfl) ?_
        refine TriLQ.seg (k' := 5) (fr' := [(0, .slice A (ls.length) (c)), (2, .pointer (some ⟨b4, 0, none⟩)), (4, .pointer (some ⟨b5, 0, none⟩)), (5, .map (some m6)), (7, .pointer (some ⟨b7, 0, none⟩)), (8, .int .i64 ↑(newId ls s i)), (13, .int .i64 ((cutAt (ln ls i).path))), (18, .slice A (ls.length) (c)), (19, .int .i64 ↑ls.length), (20, .int .i64 ↑i), (80, .map (some m6)), (84, .string (((ln ls i).path : ByteArray).extract 0 ((cutAt (ln ls i).path).toNat)))]) (obl := [(cutAt (ln ls i).path) = (((cutAt (ln ls i).path).toNat : Nat) : Int), (cutAt (ln ls i).path).toNat ≤ ((ln ls i).path : ByteArray).size, b7 = b7]) [o_, o_, ⟨[.at 2], none, none, none, none⟩, o_, ⟨[], some ((cutAt (ln ls i).path).toNat), none, none, none⟩] [0, 2, 4, 5, 7, 8, 13, 18, 19, 20, 80, 84] (fun _ _ => by kernel_rfl) ⟨by omega, by have := (cutAt_le (ln ls i).path).1; omega, rfl, trivial⟩ ?_
        refine TriLQ.mapLook 0 (d := (some 85)) (t := 91) (K := 9) (E := 3) (b := m6) (n := i) (f := (mS (idv ls s.ids i))) (x := (.tmp 80)) (ix := (.tmp 84)) (key := .string (((ln ls i).path : ByteArray).extract 0 ((cutAt (ln ls i).path).toNat))) (z := .int .i64 0) (kl := (.string (aboveOf (ln ls i).path).data.toList)) (r := (idv ls s.ids i (aboveOf (ln ls i).path))) (fun _ => by kernel_rfl) (by kernel_rfl) (fun _ => by kernel_rfl) (fun _ => by kernel_rfl) lawS Try.underlying91 (fun _ => by kernel_rfl) (keyS (p := aboveOf (ln ls i).path) (by have := above_le (p := (ln ls i).path); omega)) (mS_at _ _) ?_
        refine TriLQ.slot 85 (((idv ls s.ids i (aboveOf (ln ls i).path)).getD (.int .i64 0))) (.int .i64 ↑(idOf ls s.ids (aboveOf (ln ls i).path) i)) (fun _ => by kernel_rfl) (idv_get _ _ _ _) ?_
        refine TriLQ.seg (k' := 13) (fr' := [(0, .slice A (ls.length) (c)), (2, .pointer (some ⟨b4, 0, none⟩)), (4, .pointer (some ⟨b5, 0, none⟩)), (5, .map (some m6)), (7, .pointer (some ⟨b7, 0, none⟩)), (8, .int .i64 ↑(newId ls s i)), (11, .int .i64 ↑(idOf ls s.ids (aboveOf (ln ls i).path) i)), (12, .string (((ln ls i).path : ByteArray).extract ((cutAt (ln ls i).path).toNat + 1) ((ln ls i).path : ByteArray).size)), (18, .slice A (ls.length) (c)), (19, .int .i64 ↑ls.length), (20, .int .i64 ↑i)]) (obl := [(cutAt (ln ls i).path + 1) = ((((cutAt (ln ls i).path).toNat + 1) : Nat) : Int), ((cutAt (ln ls i).path).toNat + 1) ≤ ((ln ls i).path : ByteArray).size, (Value.int .i64 (IntKind.wrap .i64 ((cutAt (ln ls i).path) + 1))) = (.int .i64 ((cutAt (ln ls i).path + 1))), b7 = b7]) [o_, ⟨[.at 2], none, none, none, none⟩, o_, ⟨[], none, none, none, some (.int .i64 ((cutAt (ln ls i).path + 1)))⟩, ⟨[], some ((cutAt (ln ls i).path).toNat + 1), none, none, none⟩, o_, o_] [0, 2, 4, 5, 7, 8, 11, 12, 18, 19, 20] (fun _ _ => by kernel_rfl) ⟨by omega, by have := (cutAt_le (ln ls i).path).1; omega, wrapEq rfl (by have := cutAt_le (ln ls i).path; omega) (by have := cutAt_le (ln ls i).path; omega), rfl, trivial⟩ ?_
        refine TriLQ.nil (by kernel_rfl) ?_
        refine TriQ.slot 11 (.int .i64 ↑(idOf ls s.ids (aboveOf (ln ls i).path) i)) (.int .i64 ↑(parP ls s i)) (fun _ => by kernel_rfl) (by unfold parP; rw [if_pos h79] <;> rfl) ?_
        refine TriQ.slot 12 (.string (((ln ls i).path : ByteArray).extract ((cutAt (ln ls i).path).toNat + 1) ((ln ls i).path : ByteArray).size)) (.string (nameOf (ln ls i).path)) (fun _ => by kernel_rfl) (by unfold nameOf; rw [if_pos h79]) ?_
        exact TriQ.meet () (idx := [0, 2, 4, 5, 7, 8, 11, 12, 18, 19, 20]) (pk := [0, 1, 2, 3, 4, 5, 6, 7]) (show True from trivial) (fun _ => by kernel_rfl) rfl (by kernel_rfl)
       ·
        refine Tri.skip ?_
        refine TriQ.slot 11 (.int .i64 1) (.int .i64 ↑(parP ls s i)) (fun _ => by kernel_rfl) (by unfold parP; rw [if_neg h79] <;> rfl) ?_
        refine TriQ.slot 12 (.string (ln ls i).path) (.string (nameOf (ln ls i).path)) (fun _ => by kernel_rfl) (by unfold nameOf; rw [if_neg h79]) ?_
        exact TriQ.meet () (idx := [0, 2, 4, 5, 7, 8, 11, 12, 18, 19, 20]) (pk := [0, 1, 2, 3, 4, 5, 6, 7]) (show True from trivial) (fun _ => by kernel_rfl) rfl (by kernel_rfl)
     ·
      refine Tri.skip (TriQ.next (Tri.region ?_))
      refine TriL.segK (k' := 4) (fr' := [(0, .slice A (ls.length) (c)), (2, .pointer (some ⟨b4, 0, none⟩)), (4, .pointer (some ⟨b5, 0, none⟩)), (5, .map (some m6)), (18, .slice A (ls.length) (c)), (19, .int .i64 ↑ls.length), (20, .int .i64 ↑i), (110, .map (some m6)), (112, .string (ln ls i).path), (113, .int .i64 ↑(newId ls s i))]) (obl := [b7 = b7]) [o_, o_, ⟨[.at 2], none, none, none, none⟩, o_] [0, 2, 4, 5, 18, 19, 20, 110, 112, 113] (fun _ _ => by kernel_rfl) ⟨rfl, trivial⟩ ?_
      refine TriL.mapSet 0 (d := none) (t := 91) (K := 9) (E := 3) (b := m6) (n := i) (f := (mS (idv ls s.ids i))) (x := (.tmp 110)) (ix := (.tmp 112)) (y := (.tmp 113)) (key := .string (ln ls i).path) (u := .int .i64 ↑(newId ls s i)) (kl := (.string (ln ls i).path.data.toList)) (n' := (i + 1)) (f' := (mS (idv ls (s.ids ++ [newId ls s i]) (i + 1)))) (fun _ => by kernel_rfl) (by kernel_rfl) (fun _ => by kernel_rfl) (fun _ => by kernel_rfl) (fun _ => by kernel_rfl) lawS Try.underlying91 (by unfold maxLen; omega) (keyS (by omega)) (idv_cnt hid) (idv_upd hP.inv.idl (by omega) hid) ?_
      refine TriL.nil (by kernel_rfl) (TriQ.blockNormal (TriQ.next (Tri.region ?_)))
      refine TriL.segK (k' := 2) (fr' := [(0, .slice A (ls.length) (c)), (2, .pointer (some ⟨b4, 0, none⟩)), (4, .pointer (some ⟨b5, 0, none⟩)), (5, .map (some m6)), (18, .slice A (ls.length) (c)), (19, .int .i64 ↑ls.length), (20, .int .i64 ↑(i + 1))]) (obl := [(Value.int .i64 (IntKind.wrap .i64 (((i : Nat) : Int) + 1))) = (.int .i64 ↑(i + 1))]) [⟨[], none, none, none, some (.int .i64 ↑(i + 1))⟩, o_] [0, 2, 4, 5, 18, 19, 20] (fun _ _ => by kernel_rfl) ⟨wrapEq (by omega) (by omega) (by omega), trivial⟩ ?_
      refine TriL.nil (by kernel_rfl) ?_
      exact TriQ.turn ((i + 1), ⟨(newNs ls s i), (s.ids ++ [newId ls s i])⟩, L2, An2, cn2) (idx := [0, 2, 4, 5, 18, 19, 20]) (pk := [3, 4, 5, 6, 0, 1, 7]) (show (((i + 1)) ≤ ls.length) ∧ (PHold ls (⟨(newNs ls s i), (s.ids ++ [newId ls s i])⟩) ((i + 1))) from ⟨by omega, hP.next (stepP_first hid (by omega) (by omega)) (EntsLe.new hP.ents).up⟩) (by show ls.length - ((i + 1)) < ls.length - i; omega) (fun _ => by kernel_rfl) rfl (by kernel_rfl)
   ·
    refine Tri.region ?_
    refine TriL.segK (k' := 3) (fr' := [(0, .slice A (ls.length) (c)), (2, .pointer (some ⟨b4, 0, none⟩)), (4, .pointer (some ⟨b5, 0, none⟩)), (5, .map (some m6)), (6, .int .i64 ↑i), (7, .pointer (some ⟨b7, 0, none⟩)), (8, .int .i64 ↑(newId ls s i)), (18, .slice A (ls.length) (c)), (19, .int .i64 ↑ls.length), (20, .int .i64 ↑i), (59, .map (some m6)), (61, .string (ln ls i).path)]) (obl := [b7 = b7]) [o_, o_, ⟨[.at 2], none, none, none, none⟩] [0, 2, 4, 5, 6, 7, 8, 18, 19, 20, 59, 61] (fun _ _ => by kernel_rfl) ⟨rfl, trivial⟩ ?_
    refine TriL.mapLookOk 0 (d := (some 62)) (t := 91) (K := 9) (E := 3) (b := m6) (n := i) (f := (mS (idv ls s.ids i))) (x := (.tmp 59)) (ix := (.tmp 61)) (key := .string (ln ls i).path) (z := .int .i64 0) (kl := (.string (ln ls i).path.data.toList)) (r := (some (.int .i64 ((idOf ls s.ids (ln ls i).path i : Nat) : Int)))) (fun _ => by kernel_rfl) (by kernel_rfl) (fun _ => by kernel_rfl) (fun _ => by kernel_rfl) lawS Try.underlying91 (fun _ => by kernel_rfl) (keyS (by omega)) (idv_some hid) ?_
    refine TriL.segK (k' := 9) (fr' := [(0, .slice A (ls.length) (c)), (2, .pointer (some ⟨b4, 0, none⟩)), (4, .pointer (some ⟨b5, 0, none⟩)), (5, .map (some m6)), (6, .int .i64 ↑i), (7, .pointer (some ⟨b7, 0, none⟩)), (8, .int .i64 ↑(newId ls s i)), (10, .bool true), (18, .slice A (ls.length) (c)), (19, .int .i64 ↑ls.length), (20, .int .i64 ↑i)]) (obl := []) [o_, o_, o_, o_, o_] [0, 2, 4, 5, 6, 7, 8, 10, 18, 19, 20] (fun _ _ => by kernel_rfl) trivial ?_
    refine TriL.nil (by kernel_rfl) (TriQ.next (Tri.seq (Tri.region ?_)))
    refine TriL.segK (k' := 5) (fr' := [(0, .slice A (ls.length) (c)), (2, .pointer (some ⟨b4, 0, none⟩)), (4, .pointer (some ⟨b5, 0, none⟩)), (5, .map (some m6)), (6, .int .i64 ↑i), (7, .pointer (some ⟨b7, 0, none⟩)), (8, .int .i64 ↑(newId ls s i)), (18, .slice A (ls.length) (c)), (19, .int .i64 ↑ls.length), (20, .int .i64 ↑i), (69, .bool true)]) (obl := []) [o_, o_, o_, o_, o_] [0, 2, 4, 5, 6, 7, 8, 18, 19, 20, 69] (fun _ _ => by kernel_rfl) trivial ?_
    refine TriL.nil (by kernel_rfl) (TriQ.next ?_)
    refine Tri.condT (fun _ => by kernel_rfl) ?_
    refine Tri.seq (Tri.region ?_)
    refine TriL.seg (k' := 3) (fr' := [(2, .pointer (some ⟨b4, 0, none⟩)), (3, .int .i64 151)]) (hps' := [.abs (MapA Try.prog 9 m6 (mS (idv ls s.ids i)) i), .blk b4 [.slice none (0) (0)] 24, .blk b7 (lineV (M.dA i) (M.dC i) (ln ls i)) 51, .blk b5 [.slice An2 ((newNs ls s i).length) (cn2)] 24, .abs (RowA 32 10 An2 ((newNs ls s i).length) cn2 (nodesV L2 (newNs ls s i))), .abs (FamA (entF (newNs ls s i) L2) ((newNs ls s i).length)), .abs (FamA (datF (newNs ls s i) L2) ((newNs ls s i).length)), .abs R]) (obl := [b4 = b4]) [o_, ⟨[.at 1], none, none, none, none⟩, o_] [2, 3] [0, 1, 2, 3, 4, 5, 6, 7] (fun _ _ => by kernel_rfl) ⟨rfl, trivial⟩ ?_
    refine TriL.nil (by kernel_rfl) (TriQ.next (Tri.ret (TriQ.passRet (TriQ.blockRet (TriQ.passRet (TriQ.passRet (TriQ.blockRet (TriQ.passRet ?_))))))))
    refine TriQ.mem (hps' := [.abs (MapA Try.prog 9 m6 (mS (idv ls s.ids i)) i), .blk b4 [.slice none (0) (0)] 24, .blk b7 (lineV (M.dA i) (M.dC i) (ln ls i)) 51, .blk b5 [.slice An2 ((newNs ls s i).length) (cn2)] 24, .abs (RowA 32 10 An2 ((newNs ls s i).length) cn2 (nodesV L2 (newNs ls s i))), .abs (FamA (entF (newNs ls s i) L2) ((newNs ls s i).length)), .abs (FamA (datF (newNs ls s i) L2) ((newNs ls s i).length)), .abs R, .abs (RowA 32 10 none 0 0 ([])), .abs (FamA (entF [] layN) 0), .abs (FamA (datF [] layN) 0)]) (fun w hS => ((hS.rowNil (e := 32) (size := 10)).famNil (entF [] layN)).famNil (datF [] layN)) ?_
    exact TriQ.ret (v := .tuple #[.agg #[.slice none (0) (0)], .int .i64 151]) (l := [.abs (RowA 32 10 none 0 0 ([])), .abs (FamA (entF [] layN) 0), .abs (FamA (datF [] layN) 0)]) (obl := [b4 = b4]) [.at 1] [8, 9, 10, 7] (fun _ => by kernel_rfl) ⟨rfl, trivial⟩ rfl (by kernel_rfl) (⟨none, 0, layN, by rw [plantG_none (hP.stop hi2 (stepP_dup hid))]; rfl, by rw [plantG_none (hP.stop hi2 (stepP_dup hid))]; rfl⟩)
  ·
   refine Tri.seq (Tri.region ?_)
   refine TriL.segK (k' := 3) (fr' := [(0, .slice A (ls.length) (c)), (2, .pointer (some ⟨b4, 0, none⟩)), (4, .pointer (some ⟨b5, 0, none⟩)), (5, .map (some m6)), (6, .int .i64 ↑i), (7, .pointer (some ⟨b7, 0, none⟩)), (8, .int .i64 ↑(idOf ls s.ids (ln ls i).peer i)), (18, .slice A (ls.length) (c)), (19, .int .i64 ↑ls.length), (20, .int .i64 ↑i), (31, .bool (decide (((ln ls i).peer : ByteArray) = ⟨#[]⟩)))]) (obl := [(Value.bool (((ln ls i).peer : ByteArray).toList == (⟨#[]⟩ : ByteArray).toList)) = (.bool (decide (((ln ls i).peer : ByteArray) = ⟨#[]⟩))), b7 = b7]) [o_, ⟨[.at 7], none, none, none, none⟩, ⟨[], none, none, none, some (.bool (decide (((ln ls i).peer : ByteArray) = ⟨#[]⟩)))⟩] [0, 2, 4, 5, 6, 7, 8, 18, 19, 20, 31] (fun _ _ => by kernel_rfl) ⟨strEqV _ _, rfl, trivial⟩ ?_
   refine TriL.nil (by kernel_rfl) (TriQ.next ?_)
   refine Tri.condP (p := ((ln ls i).peer : ByteArray) = ⟨#[]⟩) (fun _ => by kernel_rfl) (fun h31 => ?_) (fun h31 => ?_)
   ·
    refine Tri.seq (Tri.region ?_)
    refine TriL.segK (k' := 5) (fr' := [(0, .slice A (ls.length) (c)), (2, .pointer (some ⟨b4, 0, none⟩)), (4, .pointer (some ⟨b5, 0, none⟩)), (5, .map (some m6)), (6, .int .i64 ↑i), (7, .pointer (some ⟨b7, 0, none⟩)), (8, .int .i64 ↑(s.ns.length + 1)), (18, .slice A (ls.length) (c)), (19, .int .i64 ↑ls.length), (20, .int .i64 ↑i)]) (obl := [(Value.int .i64 (IntKind.wrap .i64 (((s.ns.length : Nat) : Int) + 1))) = (.int .i64 ↑(s.ns.length + 1)), b5 = b5]) [o_, ⟨[.at 0], none, none, none, none⟩, o_, ⟨[], none, none, none, some (.int .i64 ↑(s.ns.length + 1))⟩, o_] [0, 2, 4, 5, 6, 7, 8, 18, 19, 20] (fun _ _ => by kernel_rfl) ⟨wrapEq (by omega) (by omega) (by omega), rfl, trivial⟩ ?_
    refine TriL.nil (by kernel_rfl) (TriQ.next ?_)
    refine Tri.regionMix (S := [.blk b5 [.slice An (s.ns.length) (cn)] 24, .abs (FamA (entF s.ns L) s.ns.length), .abs (FamA (datF s.ns L) s.ns.length), .abs (MapA Try.prog 9 m6 (mS (idv ls s.ids i)) i), .blk b4 [.slice none (0) (0)] 24, .abs R, .blk b7 (lineV (M.dA i) (M.dC i) (ln ls i)) 51]) [0, 1, 2, 3, 4, 5, 6, 7, 8, 9, 10, 11, 12, 13, 14, 16, 17, 15, 18, 19, 20, 21, 22] 17 [0, 2, 3, 4, 5, 6, 7] (by kernel_rfl) (by kernel_rfl) rfl (by kernel_rfl) ?_
    refine TriM.reads (r := 0) (l := [15, 18, 19, 20, 21, 22]) (fr' := [(0, .slice A (ls.length) (c)), (2, .pointer (some ⟨b4, 0, none⟩)), (4, .pointer (some ⟨b5, 0, none⟩)), (5, .map (some m6)), (6, .int .i64 ↑i), (7, .pointer (some ⟨b7, 0, none⟩)), (8, .int .i64 ↑(s.ns.length + 1)), (18, .slice A (ls.length) (c)), (19, .int .i64 ↑ls.length), (20, .int .i64 ↑i), (37, .slice An (s.ns.length) (cn)), (38, .int .i64 ↑(s.ns.length + 1)), (40, .int .i64 ((ln ls i).kind)), (42, .int .i64 ((ln ls i).mode)), (44, .int .i64 ((ln ls i).uid)), (46, .int .i64 ((ln ls i).gid)), (48, .agg #[.int .i64 ((ln ls i).sec), .int .i64 ((ln ls i).nano)]), (50, .slice (M.dA i) ((ln ls i).data.length) ((M.dC i))), (53, .string (ln ls i).target)]) (obl := [b7 = b7, b7 = b7, b7 = b7, b7 = b7, b7 = b7, b7 = b7, b7 = b7, b7 = b7, b5 = b5]) [0, 1, 2, 3, 4, 5, 6, 7, 8, 9, 10, 11, 12, 13, 14, 16, 17] [o_, ⟨[.at 0], none, none, none, none⟩, o_, o_, ⟨[.at 6], none, none, none, none⟩, o_, ⟨[.at 6], none, none, none, none⟩, o_, ⟨[.at 6], none, none, none, none⟩, o_, ⟨[.at 6], none, none, none, none⟩, o_, ⟨[.at 6, .at 6], none, none, none, none⟩, o_, ⟨[.at 6], none, none, none, none⟩, o_, ⟨[.at 6], none, none, none, none⟩] [0, 2, 4, 5, 6, 7, 8, 18, 19, 20, 37, 38, 40, 42, 44, 46, 48, 50, 53] (fun _ => by kernel_rfl) ⟨rfl, rfl, rfl, rfl, rfl, rfl, rfl, rfl, rfl, trivial⟩ rfl rfl ?_
    refine TriM.cut (ι := (Option Addr) × Nat) (fr' := fun ((A12, c13) : (Option Addr) × Nat) => [(0, .slice A (ls.length) (c)), (2, .pointer (some ⟨b4, 0, none⟩)), (4, .pointer (some ⟨b5, 0, none⟩)), (5, .map (some m6)), (6, .int .i64 ↑i), (7, .pointer (some ⟨b7, 0, none⟩)), (8, .int .i64 ↑(s.ns.length + 1)), (18, .slice A (ls.length) (c)), (19, .int .i64 ↑ls.length), (20, .int .i64 ↑i), (37, .slice An (s.ns.length) (cn)), (38, .int .i64 ↑(s.ns.length + 1)), (40, .int .i64 ((ln ls i).kind)), (42, .int .i64 ((ln ls i).mode)), (44, .int .i64 ((ln ls i).uid)), (46, .int .i64 ((ln ls i).gid)), (48, .agg #[.int .i64 ((ln ls i).sec), .int .i64 ((ln ls i).nano)]), (51, .slice A12 ((ln ls i).data.length) (c13)), (53, .string (ln ls i).target)]) (hp' := fun ((A12, c13) : (Option Addr) × Nat) => [.abs (RowA 5 1 A12 ((ln ls i).data.length) c13 (bytesV (ln ls i).data)), .blk b5 [.slice An (s.ns.length) (cn)] 24, .abs (RowA 32 10 An s.ns.length cn (nodesV L s.ns)), .abs (FamA (entF s.ns L) s.ns.length), .abs (FamA (datF s.ns L) s.ns.length), .abs (MapA Try.prog 9 m6 (mS (idv ls s.ids i)) i), .blk b4 [.slice none (0) (0)] 24, .abs R, .blk b7 (lineV (M.dA i) (M.dC i) (ln ls i)) 51]) [1, 3, 4, 5, 6, 7, 8] rfl rfl ?_ rfl (fun _ => by kernel_rfl) ?_
    ·
     refine TriL.call (f := 50) (args := #[.slice (M.dA i) ((ln ls i).data.length) ((M.dC i))]) (d := (some 51)) (pre := []) (R := [.blk b5 [.slice An (s.ns.length) (cn)] 24, .abs (RowA 32 10 An s.ns.length cn (nodesV L s.ns)), .abs (FamA (entF s.ns L) s.ns.length), .abs (FamA (datF s.ns L) s.ns.length), .abs (MapA Try.prog 9 m6 (mS (idv ls s.ids i)) i), .blk b4 [.slice none (0) (0)] 24, .abs R, .blk b7 (lineV (M.dA i) (M.dC i) (ln ls i)) 51]) (pk := [0, 1, 2, 3, 4, 5, 6, 7]) (fun _ => by kernel_rfl) (sp_cloneOwn (M.dA i) (M.dC i) (ln ls i).data (hG.data i (by omega)) (hC.data i (by omega))) rfl (by kernel_rfl) ?_
     rintro _ _ ⟨A12, c13, rfl, rfl⟩
     refine TriL.nil (by kernel_rfl) ?_
     exact TriQ.mid (A12, c13) (idx := [0, 2, 4, 5, 6, 7, 8, 18, 19, 20, 37, 38, 40, 42, 44, 46, 48, 51, 53]) (pk := [0, 1, 2, 3, 4, 5, 6, 7, 8]) (fun _ => by kernel_rfl) rfl (by kernel_rfl)
    rintro ⟨A12, c13⟩
    refine TriM.cut (ι := Unit) (fr' := fun (_ : Unit) => [(0, .slice A (ls.length) (c)), (2, .pointer (some ⟨b4, 0, none⟩)), (4, .pointer (some ⟨b5, 0, none⟩)), (5, .map (some m6)), (6, .int .i64 ↑i), (7, .pointer (some ⟨b7, 0, none⟩)), (8, .int .i64 ↑(s.ns.length + 1)), (18, .slice A (ls.length) (c)), (19, .int .i64 ↑ls.length), (20, .int .i64 ↑i), (37, .slice An (s.ns.length) (cn)), (54, .agg #[.int .i64 ↑(s.ns.length + 1), .int .i64 ((ln ls i).kind), .int .i64 ((ln ls i).mode), .int .i64 ((ln ls i).uid), .int .i64 ((ln ls i).gid), .int .i64 ((ln ls i).sec), .int .i64 ((ln ls i).nano), .slice A12 ((ln ls i).data.length) (c13), .string (ln ls i).target, .slice none (0) (0)])]) (hp' := fun (_ : Unit) => [.abs (RowA 5 1 A12 ((ln ls i).data.length) c13 (bytesV (ln ls i).data)), .blk b5 [.slice An (s.ns.length) (cn)] 24, .abs (RowA 32 10 An s.ns.length cn (nodesV L s.ns)), .abs (FamA (entF s.ns L) s.ns.length), .abs (FamA (datF s.ns L) s.ns.length), .abs (MapA Try.prog 9 m6 (mS (idv ls s.ids i)) i), .blk b4 [.slice none (0) (0)] 24, .abs R, .blk b7 (lineV (M.dA i) (M.dC i) (ln ls i)) 51]) [1, 3, 4, 5, 6, 7, 8] rfl rfl ?_ rfl (fun _ => by kernel_rfl) ?_
    ·
     refine TriL.segK (k' := 1) (fr' := [(0, .slice A (ls.length) (c)), (2, .pointer (some ⟨b4, 0, none⟩)), (4, .pointer (some ⟨b5, 0, none⟩)), (5, .map (some m6)), (6, .int .i64 ↑i), (7, .pointer (some ⟨b7, 0, none⟩)), (8, .int .i64 ↑(s.ns.length + 1)), (18, .slice A (ls.length) (c)), (19, .int .i64 ↑ls.length), (20, .int .i64 ↑i), (37, .slice An (s.ns.length) (cn)), (54, .agg #[.int .i64 ↑(s.ns.length + 1), .int .i64 ((ln ls i).kind), .int .i64 ((ln ls i).mode), .int .i64 ((ln ls i).uid), .int .i64 ((ln ls i).gid), .int .i64 ((ln ls i).sec), .int .i64 ((ln ls i).nano), .slice A12 ((ln ls i).data.length) (c13), .string (ln ls i).target, .slice none (0) (0)])]) (obl := []) [o_] [0, 2, 4, 5, 6, 7, 8, 18, 19, 20, 37, 54] (fun _ _ => by kernel_rfl) trivial ?_
     refine TriL.nil (by kernel_rfl) ?_
     exact TriQ.mid () (idx := [0, 2, 4, 5, 6, 7, 8, 18, 19, 20, 37, 54]) (pk := [0, 1, 2, 3, 4, 5, 6, 7, 8]) (fun _ => by kernel_rfl) rfl (by kernel_rfl)
    rintro _
    refine TriM.cut (ι := Nat) (fr' := fun (b14 : Nat) => [(0, .slice A (ls.length) (c)), (2, .pointer (some ⟨b4, 0, none⟩)), (4, .pointer (some ⟨b5, 0, none⟩)), (5, .map (some m6)), (6, .int .i64 ↑i), (7, .pointer (some ⟨b7, 0, none⟩)), (8, .int .i64 ↑(s.ns.length + 1)), (18, .slice A (ls.length) (c)), (19, .int .i64 ↑ls.length), (20, .int .i64 ↑i), (37, .slice An (s.ns.length) (cn)), (55, .slice (some ⟨b14, 0, none⟩) (1) (1))]) (hp' := fun (b14 : Nat) => [.abs (RowA 5 1 A12 ((ln ls i).data.length) c13 (bytesV (ln ls i).data)), .blk b5 [.slice An (s.ns.length) (cn)] 24, .abs (RowA 32 10 An s.ns.length cn (nodesV L s.ns)), .abs (FamA (entF s.ns L) s.ns.length), .abs (FamA (datF s.ns L) s.ns.length), .abs (MapA Try.prog 9 m6 (mS (idv ls s.ids i)) i), .blk b4 [.slice none (0) (0)] 24, .abs R, .blk b7 (lineV (M.dA i) (M.dC i) (ln ls i)) 51, .blk b14 [.int .i64 ↑(s.ns.length + 1), .int .i64 ((ln ls i).kind), .int .i64 ((ln ls i).mode), .int .i64 ((ln ls i).uid), .int .i64 ((ln ls i).gid), .int .i64 ((ln ls i).sec), .int .i64 ((ln ls i).nano), .slice A12 ((ln ls i).data.length) (c13), .string (ln ls i).target, .slice none (0) (0)] 32]) [1, 3, 4, 5, 6, 7, 8] rfl rfl ?_ rfl (fun _ => by kernel_rfl) ?_
    ·
     refine TriL.segN (k' := 1) (fr' := fun b14 => [(0, .slice A (ls.length) (c)), (2, .pointer (some ⟨b4, 0, none⟩)), (4, .pointer (some ⟨b5, 0, none⟩)), (5, .map (some m6)), (6, .int .i64 ↑i), (7, .pointer (some ⟨b7, 0, none⟩)), (8, .int .i64 ↑(s.ns.length + 1)), (18, .slice A (ls.length) (c)), (19, .int .i64 ↑ls.length), (20, .int .i64 ↑i), (37, .slice An (s.ns.length) (cn)), (55, .slice (some ⟨b14, 0, none⟩) (1) (1))]) (hps' := fun b14 => [.abs (RowA 5 1 A12 ((ln ls i).data.length) c13 (bytesV (ln ls i).data)), .blk b5 [.slice An (s.ns.length) (cn)] 24, .abs (RowA 32 10 An s.ns.length cn (nodesV L s.ns)), .abs (FamA (entF s.ns L) s.ns.length), .abs (FamA (datF s.ns L) s.ns.length), .abs (MapA Try.prog 9 m6 (mS (idv ls s.ids i)) i), .blk b4 [.slice none (0) (0)] 24, .abs R, .blk b7 (lineV (M.dA i) (M.dC i) (ln ls i)) 51, .blk b14 [.int .i64 ↑(s.ns.length + 1), .int .i64 ((ln ls i).kind), .int .i64 ((ln ls i).mode), .int .i64 ((ln ls i).uid), .int .i64 ((ln ls i).gid), .int .i64 ((ln ls i).sec), .int .i64 ((ln ls i).nano), .slice A12 ((ln ls i).data.length) (c13), .string (ln ls i).target, .slice none (0) (0)] 32]) (obl := fun b14 => []) [o_] [0, 2, 4, 5, 6, 7, 8, 18, 19, 20, 37, 55] [0, 1, 2, 3, 4, 5, 6, 7, 8, 9] (fun _ _ => by kernel_rfl) (fun b14 => trivial) (fun b14 => ?_)
     refine TriL.nil (by kernel_rfl) ?_
     exact TriQ.mid b14 (idx := [0, 2, 4, 5, 6, 7, 8, 18, 19, 20, 37, 55]) (pk := [0, 1, 2, 3, 4, 5, 6, 7, 8, 9]) (fun _ => by kernel_rfl) rfl (by kernel_rfl)
    rintro b14
    refine TriM.cut (ι := (Option Addr) × Nat) (fr' := fun ((A15, c16) : (Option Addr) × Nat) => [(0, .slice A (ls.length) (c)), (2, .pointer (some ⟨b4, 0, none⟩)), (4, .pointer (some ⟨b5, 0, none⟩)), (5, .map (some m6)), (6, .int .i64 ↑i), (7, .pointer (some ⟨b7, 0, none⟩)), (8, .int .i64 ↑(s.ns.length + 1)), (18, .slice A (ls.length) (c)), (19, .int .i64 ↑ls.length), (20, .int .i64 ↑i), (56, .slice A15 ((s.ns ++ [lineNode (ln ls i) s.ns.length]).length) (c16))]) (hp' := fun ((A15, c16) : (Option Addr) × Nat) => [.abs (RowA 5 1 A12 ((ln ls i).data.length) c13 (bytesV (ln ls i).data)), .blk b5 [.slice An (s.ns.length) (cn)] 24, .abs (RowA 32 10 A15 ((s.ns ++ [lineNode (ln ls i) s.ns.length]).length) c16 (nodesV (L.put s.ns.length A12 c13 none 0) (s.ns ++ [lineNode (ln ls i) s.ns.length]))), .abs (FamA (entF s.ns L) s.ns.length), .abs (FamA (datF s.ns L) s.ns.length), .abs (MapA Try.prog 9 m6 (mS (idv ls s.ids i)) i), .blk b4 [.slice none (0) (0)] 24, .abs R, .blk b7 (lineV (M.dA i) (M.dC i) (ln ls i)) 51, .blk b14 [.int .i64 ↑(s.ns.length + 1), .int .i64 ((ln ls i).kind), .int .i64 ((ln ls i).mode), .int .i64 ((ln ls i).uid), .int .i64 ((ln ls i).gid), .int .i64 ((ln ls i).sec), .int .i64 ((ln ls i).nano), .slice A12 ((ln ls i).data.length) (c13), .string (ln ls i).target, .slice none (0) (0)] 32]) [1, 3, 4, 5, 6, 7, 8] rfl rfl ?_ rfl (fun _ => by kernel_rfl) ?_
    ·
     refine TriL.append 2 (d := (some 56)) (t := 22) (e := 32) (z := .agg #[.int .i64 0, .int .i64 0, .int .i64 0, .int .i64 0, .int .i64 0, .int .i64 0, .int .i64 0, .slice none (0) (0), .string ⟨#[]⟩, .slice none (0) (0)]) (size := 10) (bytes := 120) (n := s.ns.length) (cap := cn) (A := An) (xs := (nodesV L s.ns)) (s := (.tmp 37)) (x := (.tmp 55)) (ats := #[22, 22]) (A' := some ⟨b14, 0, none⟩) (m := 1) (c' := 1) (news := [.int .i64 ↑(s.ns.length + 1), .int .i64 ((ln ls i).kind), .int .i64 ((ln ls i).mode), .int .i64 ((ln ls i).uid), .int .i64 ((ln ls i).gid), .int .i64 ((ln ls i).sec), .int .i64 ((ln ls i).nano), .slice A12 ((ln ls i).data.length) (c13), .string (ln ls i).target, .slice none (0) (0)]) (fun _ => by kernel_rfl) rfl (by kernel_rfl) (fun _ => by kernel_rfl) (fun _ => by kernel_rfl) Try.underlying22 (by kernel_rfl) rfl (by decide) (rfl) (by simp [Value.oneCell']) (src_blk (j := 9) rfl) (by unfold maxLen; omega) (by omega) (fun A15 c16 => ?_)
     refine TriL.partEq 2 (p := .abs (RowA 32 10 A15 (s.ns.length + 1) c16 ((nodesV L s.ns) ++ [.int .i64 ↑(s.ns.length + 1), .int .i64 ((ln ls i).kind), .int .i64 ((ln ls i).mode), .int .i64 ((ln ls i).uid), .int .i64 ((ln ls i).gid), .int .i64 ((ln ls i).sec), .int .i64 ((ln ls i).nano), .slice A12 ((ln ls i).data.length) (c13), .string (ln ls i).target, .slice none (0) (0)]))) (p' := .abs (RowA 32 10 A15 ((s.ns ++ [lineNode (ln ls i) s.ns.length]).length) c16 (nodesV (L.put s.ns.length A12 c13 none 0) (s.ns ++ [lineNode (ln ls i) s.ns.length])))) (by kernel_rfl) (by rw [List.length_append]; exact congrArg (fun x => HP.abs (RowA 32 10 _ _ _ x)) (nodesV_more (ns := s.ns) (n := lineNode (ln ls i) s.ns.length))) ?_
     refine TriL.slot 56 (.slice A15 (s.ns.length + 1) (c16)) (.slice A15 ((s.ns ++ [lineNode (ln ls i) s.ns.length]).length) (c16)) (fun _ => by kernel_rfl) (by rw [List.length_append]; rfl) ?_
     refine TriL.nil (by kernel_rfl) ?_
     exact TriQ.mid (A15, c16) (idx := [0, 2, 4, 5, 6, 7, 8, 18, 19, 20, 56]) (pk := [0, 1, 2, 3, 4, 5, 6, 7, 8, 9]) (fun _ => by kernel_rfl) rfl (by kernel_rfl)
    rintro ⟨A15, c16⟩
    refine TriM.cut (ι := Unit) (fr' := fun (_ : Unit) => [(0, .slice A (ls.length) (c)), (2, .pointer (some ⟨b4, 0, none⟩)), (4, .pointer (some ⟨b5, 0, none⟩)), (5, .map (some m6)), (6, .int .i64 ↑i), (7, .pointer (some ⟨b7, 0, none⟩)), (8, .int .i64 ↑(s.ns.length + 1)), (18, .slice A (ls.length) (c)), (19, .int .i64 ↑ls.length), (20, .int .i64 ↑i), (56, .slice A15 ((s.ns ++ [lineNode (ln ls i) s.ns.length]).length) (c16)), (57, .pointer (some ⟨b5, 0, none⟩))]) (hp' := fun (_ : Unit) => [.abs (RowA 5 1 A12 ((ln ls i).data.length) c13 (bytesV (ln ls i).data)), .blk b5 [.slice An (s.ns.length) (cn)] 24, .abs (RowA 32 10 A15 ((s.ns ++ [lineNode (ln ls i) s.ns.length]).length) c16 (nodesV (L.put s.ns.length A12 c13 none 0) (s.ns ++ [lineNode (ln ls i) s.ns.length]))), .abs (FamA (entF s.ns L) s.ns.length), .abs (FamA (datF s.ns L) s.ns.length), .abs (MapA Try.prog 9 m6 (mS (idv ls s.ids i)) i), .blk b4 [.slice none (0) (0)] 24, .abs R, .blk b7 (lineV (M.dA i) (M.dC i) (ln ls i)) 51, .blk b14 [.int .i64 ↑(s.ns.length + 1), .int .i64 ((ln ls i).kind), .int .i64 ((ln ls i).mode), .int .i64 ((ln ls i).uid), .int .i64 ((ln ls i).gid), .int .i64 ((ln ls i).sec), .int .i64 ((ln ls i).nano), .slice A12 ((ln ls i).data.length) (c13), .string (ln ls i).target, .slice none (0) (0)] 32]) [1, 3, 4, 5, 6, 7, 8] rfl rfl ?_ rfl (fun _ => by kernel_rfl) ?_
    ·
     refine TriL.segK (k' := 1) (fr' := [(0, .slice A (ls.length) (c)), (2, .pointer (some ⟨b4, 0, none⟩)), (4, .pointer (some ⟨b5, 0, none⟩)), (5, .map (some m6)), (6, .int .i64 ↑i), (7, .pointer (some ⟨b7, 0, none⟩)), (8, .int .i64 ↑(s.ns.length + 1)), (18, .slice A (ls.length) (c)), (19, .int .i64 ↑ls.length), (20, .int .i64 ↑i), (56, .slice A15 ((s.ns ++ [lineNode (ln ls i) s.ns.length]).length) (c16)), (57, .pointer (some ⟨b5, 0, none⟩))]) (obl := []) [o_] [0, 2, 4, 5, 6, 7, 8, 18, 19, 20, 56, 57] (fun _ _ => by kernel_rfl) trivial ?_
     refine TriL.nil (by kernel_rfl) ?_
     exact TriQ.mid () (idx := [0, 2, 4, 5, 6, 7, 8, 18, 19, 20, 56, 57]) (pk := [0, 1, 2, 3, 4, 5, 6, 7, 8, 9]) (fun _ => by kernel_rfl) rfl (by kernel_rfl)
    rintro _
    refine TriM.last rfl rfl ?_
    refine TriL.seg (k' := 1) (fr' := [(0, .slice A (ls.length) (c)), (2, .pointer (some ⟨b4, 0, none⟩)), (4, .pointer (some ⟨b5, 0, none⟩)), (5, .map (some m6)), (6, .int .i64 ↑i), (7, .pointer (some ⟨b7, 0, none⟩)), (8, .int .i64 ↑(s.ns.length + 1)), (18, .slice A (ls.length) (c)), (19, .int .i64 ↑ls.length), (20, .int .i64 ↑i)]) (hps' := [.abs (RowA 5 1 A12 ((ln ls i).data.length) c13 (bytesV (ln ls i).data)), .blk b5 [.slice A15 ((s.ns ++ [lineNode (ln ls i) s.ns.length]).length) (c16)] 24, .abs (RowA 32 10 A15 ((s.ns ++ [lineNode (ln ls i) s.ns.length]).length) c16 (nodesV (L.put s.ns.length A12 c13 none 0) (s.ns ++ [lineNode (ln ls i) s.ns.length]))), .abs (FamA (entF s.ns L) s.ns.length), .abs (FamA (datF s.ns L) s.ns.length), .abs (MapA Try.prog 9 m6 (mS (idv ls s.ids i)) i), .blk b4 [.slice none (0) (0)] 24, .abs R, .blk b7 (lineV (M.dA i) (M.dC i) (ln ls i)) 51, .blk b14 [.int .i64 ↑(s.ns.length + 1), .int .i64 ((ln ls i).kind), .int .i64 ((ln ls i).mode), .int .i64 ((ln ls i).uid), .int .i64 ((ln ls i).gid), .int .i64 ((ln ls i).sec), .int .i64 ((ln ls i).nano), .slice A12 ((ln ls i).data.length) (c13), .string (ln ls i).target, .slice none (0) (0)] 32]) (obl := [b5 = b5]) [⟨[.at 1], none, none, none, none⟩] [0, 2, 4, 5, 6, 7, 8, 18, 19, 20] [0, 1, 2, 3, 4, 5, 6, 7, 8, 9] (fun _ _ => by kernel_rfl) ⟨rfl, trivial⟩ ?_
    refine TriL.nil (by kernel_rfl) (TriQ.np ?_)
    refine TriQ.mem (hps' := [.abs (FamA (datF (s.ns ++ [lineNode (ln ls i) s.ns.length]) (L.put s.ns.length A12 c13 none 0)) (s.ns.length + 1)), .blk b5 [.slice A15 ((s.ns ++ [lineNode (ln ls i) s.ns.length]).length) (c16)] 24, .abs (RowA 32 10 A15 ((s.ns ++ [lineNode (ln ls i) s.ns.length]).length) c16 (nodesV (L.put s.ns.length A12 c13 none 0) (s.ns ++ [lineNode (ln ls i) s.ns.length]))), .abs (FamA (entF s.ns L) s.ns.length), .abs (MapA Try.prog 9 m6 (mS (idv ls s.ids i)) i), .blk b4 [.slice none (0) (0)] 24, .abs R, .blk b7 (lineV (M.dA i) (M.dC i) (ln ls i)) 51, .blk b14 [.int .i64 ↑(s.ns.length + 1), .int .i64 ((ln ls i).kind), .int .i64 ((ln ls i).mode), .int .i64 ((ln ls i).uid), .int .i64 ((ln ls i).gid), .int .i64 ((ln ls i).sec), .int .i64 ((ln ls i).nano), .slice A12 ((ln ls i).data.length) (c13), .string (ln ls i).target, .slice none (0) (0)] 32]) (fun w hS => hS.famPush (R' := (datF (s.ns ++ [lineNode (ln ls i) s.ns.length]) (L.put s.ns.length A12 c13 none 0))) (i := 4) (j := 0) (idx := [1, 2, 3, 5, 6, 7, 8, 9]) rfl rfl (by kernel_rfl) rfl (fun x hx => datF_more.1 x hx) (datF_more.2)) ?_
    refine TriQ.mem (hps' := [.abs (FamA (datF (s.ns ++ [lineNode (ln ls i) s.ns.length]) (L.put s.ns.length A12 c13 none 0)) (s.ns.length + 1)), .blk b5 [.slice A15 ((s.ns ++ [lineNode (ln ls i) s.ns.length]).length) (c16)] 24, .abs (RowA 32 10 A15 ((s.ns ++ [lineNode (ln ls i) s.ns.length]).length) c16 (nodesV (L.put s.ns.length A12 c13 none 0) (s.ns ++ [lineNode (ln ls i) s.ns.length]))), .abs (FamA (entF s.ns L) s.ns.length), .abs (MapA Try.prog 9 m6 (mS (idv ls s.ids i)) i), .blk b4 [.slice none (0) (0)] 24, .abs R, .blk b7 (lineV (M.dA i) (M.dC i) (ln ls i)) 51, .blk b14 [.int .i64 ↑(s.ns.length + 1), .int .i64 ((ln ls i).kind), .int .i64 ((ln ls i).mode), .int .i64 ((ln ls i).uid), .int .i64 ((ln ls i).gid), .int .i64 ((ln ls i).sec), .int .i64 ((ln ls i).nano), .slice A12 ((ln ls i).data.length) (c13), .string (ln ls i).target, .slice none (0) (0)] 32, .abs (RowA 72 2 none 0 0 ([]))]) (fun w hS => hS.rowNil (e := 72) (size := 2)) ?_
    refine TriQ.mem (hps' := [.abs (FamA (entF (s.ns ++ [lineNode (ln ls i) s.ns.length]) (L.put s.ns.length A12 c13 none 0)) (s.ns.length + 1)), .abs (FamA (datF (s.ns ++ [lineNode (ln ls i) s.ns.length]) (L.put s.ns.length A12 c13 none 0)) (s.ns.length + 1)), .blk b5 [.slice A15 ((s.ns ++ [lineNode (ln ls i) s.ns.length]).length) (c16)] 24, .abs (RowA 32 10 A15 ((s.ns ++ [lineNode (ln ls i) s.ns.length]).length) c16 (nodesV (L.put s.ns.length A12 c13 none 0) (s.ns ++ [lineNode (ln ls i) s.ns.length]))), .abs (MapA Try.prog 9 m6 (mS (idv ls s.ids i)) i), .blk b4 [.slice none (0) (0)] 24, .abs R, .blk b7 (lineV (M.dA i) (M.dC i) (ln ls i)) 51, .blk b14 [.int .i64 ↑(s.ns.length + 1), .int .i64 ((ln ls i).kind), .int .i64 ((ln ls i).mode), .int .i64 ((ln ls i).uid), .int .i64 ((ln ls i).gid), .int .i64 ((ln ls i).sec), .int .i64 ((ln ls i).nano), .slice A12 ((ln ls i).data.length) (c13), .string (ln ls i).target, .slice none (0) (0)] 32]) (fun w hS => hS.famPush (R' := (entF (s.ns ++ [lineNode (ln ls i) s.ns.length]) (L.put s.ns.length A12 c13 none 0))) (i := 3) (j := 9) (idx := [0, 1, 2, 4, 5, 6, 7, 8]) rfl rfl (by kernel_rfl) rfl (fun x hx => (entF_more rfl).1 x hx) ((entF_more rfl).2)) ?_
    refine TriQ.slot 8 (.int .i64 ↑(s.ns.length + 1)) (.int .i64 ↑(newId ls s i)) (fun _ => by kernel_rfl) (by rw [(newNs_at h31).2]) ?_
    refine TriQ.mem (hps' := [.abs (FamA (entF (newNs ls s i) (L.put s.ns.length A12 c13 none 0)) ((newNs ls s i).length)), .abs (FamA (datF (newNs ls s i) (L.put s.ns.length A12 c13 none 0)) ((newNs ls s i).length)), .blk b5 [.slice A15 ((newNs ls s i).length) (c16)] 24, .abs (RowA 32 10 A15 ((newNs ls s i).length) c16 (nodesV (L.put s.ns.length A12 c13 none 0) (newNs ls s i))), .abs (MapA Try.prog 9 m6 (mS (idv ls s.ids i)) i), .blk b4 [.slice none (0) (0)] 24, .abs R, .blk b7 (lineV (M.dA i) (M.dC i) (ln ls i)) 51, .blk b14 [.int .i64 ↑(s.ns.length + 1), .int .i64 ((ln ls i).kind), .int .i64 ((ln ls i).mode), .int .i64 ((ln ls i).uid), .int .i64 ((ln ls i).gid), .int .i64 ((ln ls i).sec), .int .i64 ((ln ls i).nano), .slice A12 ((ln ls i).data.length) (c13), .string (ln ls i).target, .slice none (0) (0)] 32]) (fun w hS => by have e : (s.ns ++ [lineNode (ln ls i) s.ns.length]).length = s.ns.length + 1 := List.length_append; rw [e] at hS; rw [(newNs_at h31).1, e]; exact hS) ?_
    exact TriQ.meet ((L.put s.ns.length A12 c13 none 0), A15, c16) (idx := [0, 2, 4, 5, 6, 7, 8, 18, 19, 20]) (pk := [4, 5, 7, 2, 3, 0, 1, 6]) (show True from trivial) (fun _ => by kernel_rfl) rfl (by kernel_rfl)
   ·
    refine Tri.skip ?_
    refine TriQ.slot 8 (.int .i64 ↑(idOf ls s.ids (ln ls i).peer i)) (.int .i64 ↑(newId ls s i)) (fun _ => by kernel_rfl) (by rw [(newNs_no h31).2]) ?_
    refine TriQ.mem (hps' := [.blk b5 [.slice An ((newNs ls s i).length) (cn)] 24, .abs (RowA 32 10 An ((newNs ls s i).length) cn (nodesV L (newNs ls s i))), .abs (FamA (entF (newNs ls s i) L) ((newNs ls s i).length)), .abs (FamA (datF (newNs ls s i) L) ((newNs ls s i).length)), .abs (MapA Try.prog 9 m6 (mS (idv ls s.ids i)) i), .blk b4 [.slice none (0) (0)] 24, .abs R, .blk b7 (lineV (M.dA i) (M.dC i) (ln ls i)) 51]) (fun w hS => by rw [(newNs_no h31).1]; exact hS) ?_
    exact TriQ.meet (L, An, cn) (idx := [0, 2, 4, 5, 6, 7, 8, 18, 19, 20]) (pk := [4, 5, 7, 0, 1, 2, 3, 6]) (show True from trivial) (fun _ => by kernel_rfl) rfl (by kernel_rfl)
 ·
  refine Tri.exit (TriQ.passExit (TriQ.passExit (TriQ.blockHit (TriQ.next (Tri.seq (Tri.region ?_))))))
  have hfo : foldS stepP ls ls.length = some s := by have := hP.fold; rwa [show i = ls.length by omega] at this
  have hgb := hPB s hfo
  have hG_lent18 := hG
  refine TriL.lend (l := [.blk b5 [.slice An (s.ns.length) (cn)] 24, .abs (MapA Try.prog 9 m6 (mS (idv ls s.ids i)) i), .blk b4 [.slice none (0) (0)] 24, .abs R]) [.abs (RowA 32 10 An s.ns.length cn (nodesV L s.ns)), .abs (FamA (entF s.ns L) s.ns.length), .abs (FamA (datF s.ns L) s.ns.length)] [0, 4, 5, 6, 1, 2, 3] rfl (by kernel_rfl) (fun β17 hle_β17 hle0 lent18 => ?_)
  replace hG := hG.le hle_β17
  have hg := Lent.graph (A := An) (c := cn) lent18
  refine TriL.segK (k' := 1) (fr' := [(0, .slice A (ls.length) (c)), (2, .pointer (some ⟨b4, 0, none⟩)), (4, .pointer (some ⟨b5, 0, none⟩)), (116, .agg #[.slice An (s.ns.length) (cn)])]) (obl := [b5 = b5]) [⟨[.at 0], none, none, none, none⟩] [0, 2, 4, 116] (fun _ _ => by kernel_rfl) ⟨rfl, trivial⟩ ?_
  refine TriL.callB (f := 26) (args := #[.agg #[.slice An (s.ns.length) (cn)], .int .i64 1]) (d := (some 117)) (pre := []) (R := [.blk b5 [.slice An (s.ns.length) (cn)] 24, .abs (MapA Try.prog 9 m6 (mS (idv ls s.ids i)) i), .blk b4 [.slice none (0) (0)] 24, .abs R]) (pk := [0, 1, 2, 3]) (fun _ => by kernel_rfl) (sp_tree An cn s.ns L hg hgb 1 (by unfold I64; decide)) rfl (by kernel_rfl) ?_
  rintro β19 _ _ hle_β19 ⟨B, cB, MB, rfl, rfl, hT⟩
  replace hG := hG.le hle_β19
  replace hg := hg.le hle_β19
  replace hle0 := hle0.trans hle_β19
  refine TriL.segK (k' := 7) (fr' := [(0, .slice A (ls.length) (c)), (2, .pointer (some ⟨b4, 0, none⟩)), (4, .pointer (some ⟨b5, 0, none⟩)), (15, .slice B ((treeG s.ns 1).1.length) (cB)), (16, .int .i64 ((treeG s.ns 1).2))]) (obl := []) [o_, o_, o_, o_, o_] [0, 2, 4, 15, 16] (fun _ _ => by kernel_rfl) trivial ?_
  refine TriL.nil (by kernel_rfl) (TriQ.next (Tri.seq (Tri.seq (Tri.region ?_))))
  refine TriL.segK (k' := 3) (fr' := [(0, .slice A (ls.length) (c)), (2, .pointer (some ⟨b4, 0, none⟩)), (4, .pointer (some ⟨b5, 0, none⟩)), (15, .slice B ((treeG s.ns 1).1.length) (cB)), (122, .bool (!(decide (((treeG s.ns 1).2 : Int) = (0 : Int)))))]) (obl := []) [o_, o_, o_] [0, 2, 4, 15, 122] (fun _ _ => by kernel_rfl) trivial ?_
  refine TriL.slotN 122 (((treeG s.ns 1).2 : Int) = (0 : Int)) (fun _ => by kernel_rfl) (fun h122 => ?_) (fun h122 => ?_)
  ·
   refine TriL.segK (k' := 8) (fr' := [(2, .pointer (some ⟨b4, 0, none⟩)), (4, .pointer (some ⟨b5, 0, none⟩)), (127, .bool true)]) (obl := []) [o_, o_, o_, o_, o_] [2, 4, 127] (fun _ _ => by kernel_rfl) trivial ?_
   refine TriL.nil (by kernel_rfl) (TriQ.next ?_)
   refine Tri.condT (fun _ => by kernel_rfl) ?_
   refine Tri.seq (Tri.region ?_)
   refine TriL.back (hps := [.blk b5 [.slice An (s.ns.length) (cn)] 24, .abs (MapA Try.prog 9 m6 (mS (idv ls s.ids i)) i), .blk b4 [.slice none (0) (0)] 24, .abs R]) lent18 hle0 ?_
   show TriL _ _ _ _ _ _ [.blk b5 [.slice An (s.ns.length) (cn)] 24, .abs (MapA Try.prog 9 m6 (mS (idv ls s.ids i)) i), .blk b4 [.slice none (0) (0)] 24, .abs R, .abs (RowA 32 10 An s.ns.length cn (nodesV L s.ns)), .abs (FamA (entF s.ns L) s.ns.length), .abs (FamA (datF s.ns L) s.ns.length)] _
   have hG := hG_lent18
   refine TriL.seg (k' := 3) (fr' := [(2, .pointer (some ⟨b4, 0, none⟩)), (3, .int .i64 151)]) (hps' := [.blk b5 [.slice An (s.ns.length) (cn)] 24, .abs (MapA Try.prog 9 m6 (mS (idv ls s.ids i)) i), .blk b4 [.slice none (0) (0)] 24, .abs R, .abs (RowA 32 10 An s.ns.length cn (nodesV L s.ns)), .abs (FamA (entF s.ns L) s.ns.length), .abs (FamA (datF s.ns L) s.ns.length)]) (obl := [b4 = b4]) [o_, ⟨[.at 2], none, none, none, none⟩, o_] [2, 3] [0, 1, 2, 3, 4, 5, 6] (fun _ _ => by kernel_rfl) ⟨rfl, trivial⟩ ?_
   refine TriL.nil (by kernel_rfl) (TriQ.next (Tri.ret (TriQ.passRet ?_)))
   refine TriQ.mem (hps' := [.blk b5 [.slice An (s.ns.length) (cn)] 24, .abs (MapA Try.prog 9 m6 (mS (idv ls s.ids i)) i), .blk b4 [.slice none (0) (0)] 24, .abs R, .abs (RowA 32 10 An s.ns.length cn (nodesV L s.ns)), .abs (FamA (entF s.ns L) s.ns.length), .abs (FamA (datF s.ns L) s.ns.length), .abs (RowA 32 10 none 0 0 ([])), .abs (FamA (entF [] layN) 0), .abs (FamA (datF [] layN) 0)]) (fun w hS => ((hS.rowNil (e := 32) (size := 10)).famNil (entF [] layN)).famNil (datF [] layN)) ?_
   exact TriQ.ret (v := .tuple #[.agg #[.slice none (0) (0)], .int .i64 151]) (l := [.abs (RowA 32 10 none 0 0 ([])), .abs (FamA (entF [] layN) 0), .abs (FamA (datF [] layN) 0)]) (obl := [b4 = b4]) [.at 2] [7, 8, 9, 3] (fun _ => by kernel_rfl) ⟨rfl, trivial⟩ rfl (by kernel_rfl) (⟨none, 0, layN, by rw [plantG_bad hfo (fun e => h122 (by rw [e]))]; rfl, by rw [plantG_bad hfo (fun e => h122 (by rw [e]))]; rfl⟩)
  ·
   refine TriL.segK (k' := 5) (fr' := [(2, .pointer (some ⟨b4, 0, none⟩)), (4, .pointer (some ⟨b5, 0, none⟩)), (122, .bool false), (123, .slice B ((treeG s.ns 1).1.length) (cB)), (124, .slice A (ls.length) (c))]) (obl := []) [o_, o_] [2, 4, 122, 123, 124] (fun _ _ => by kernel_rfl) trivial ?_
   refine TriL.call (f := 52) (args := #[.slice B ((treeG s.ns 1).1.length) (cB), .slice A (ls.length) (c), .func (.func 53) #[] #[]]) (d := (some 125)) (pre := []) (R := [.blk b5 [.slice An (s.ns.length) (cn)] 24, .abs (MapA Try.prog 9 m6 (mS (idv ls s.ids i)) i), .blk b4 [.slice none (0) (0)] 24, .abs R]) (pk := [0, 1, 2, 3]) (fun _ => by kernel_rfl) (sp_eqLines B A cB c (treeG s.ns 1).1 ls MB M hT hG (treeG_small hgb).1 (treeG_small hgb).2) rfl (by kernel_rfl) ?_
   rintro _ _ ⟨rfl, rfl⟩
   refine TriL.segK (k' := 8) (fr' := [(2, .pointer (some ⟨b4, 0, none⟩)), (4, .pointer (some ⟨b5, 0, none⟩)), (127, .bool (!(decide ((treeG s.ns 1).1 = ls))))]) (obl := []) [o_, o_] [2, 4, 127] (fun _ _ => by kernel_rfl) trivial ?_
   refine TriL.nil (by kernel_rfl) (TriQ.next ?_)
   refine Tri.condN (p := (treeG s.ns 1).1 = ls) (fun _ => by kernel_rfl) (fun h127 => ?_) (fun h127 => ?_)
   ·
    refine Tri.seq (Tri.region ?_)
    refine TriL.back (hps := [.blk b5 [.slice An (s.ns.length) (cn)] 24, .abs (MapA Try.prog 9 m6 (mS (idv ls s.ids i)) i), .blk b4 [.slice none (0) (0)] 24, .abs R]) lent18 hle0 ?_
    show TriL _ _ _ _ _ _ [.blk b5 [.slice An (s.ns.length) (cn)] 24, .abs (MapA Try.prog 9 m6 (mS (idv ls s.ids i)) i), .blk b4 [.slice none (0) (0)] 24, .abs R, .abs (RowA 32 10 An s.ns.length cn (nodesV L s.ns)), .abs (FamA (entF s.ns L) s.ns.length), .abs (FamA (datF s.ns L) s.ns.length)] _
    have hG := hG_lent18
    refine TriL.seg (k' := 3) (fr' := [(2, .pointer (some ⟨b4, 0, none⟩)), (3, .int .i64 151)]) (hps' := [.blk b5 [.slice An (s.ns.length) (cn)] 24, .abs (MapA Try.prog 9 m6 (mS (idv ls s.ids i)) i), .blk b4 [.slice none (0) (0)] 24, .abs R, .abs (RowA 32 10 An s.ns.length cn (nodesV L s.ns)), .abs (FamA (entF s.ns L) s.ns.length), .abs (FamA (datF s.ns L) s.ns.length)]) (obl := [b4 = b4]) [o_, ⟨[.at 2], none, none, none, none⟩, o_] [2, 3] [0, 1, 2, 3, 4, 5, 6] (fun _ _ => by kernel_rfl) ⟨rfl, trivial⟩ ?_
    refine TriL.nil (by kernel_rfl) (TriQ.next (Tri.ret (TriQ.passRet ?_)))
    refine TriQ.mem (hps' := [.blk b5 [.slice An (s.ns.length) (cn)] 24, .abs (MapA Try.prog 9 m6 (mS (idv ls s.ids i)) i), .blk b4 [.slice none (0) (0)] 24, .abs R, .abs (RowA 32 10 An s.ns.length cn (nodesV L s.ns)), .abs (FamA (entF s.ns L) s.ns.length), .abs (FamA (datF s.ns L) s.ns.length), .abs (RowA 32 10 none 0 0 ([])), .abs (FamA (entF [] layN) 0), .abs (FamA (datF [] layN) 0)]) (fun w hS => ((hS.rowNil (e := 32) (size := 10)).famNil (entF [] layN)).famNil (datF [] layN)) ?_
    exact TriQ.ret (v := .tuple #[.agg #[.slice none (0) (0)], .int .i64 151]) (l := [.abs (RowA 32 10 none 0 0 ([])), .abs (FamA (entF [] layN) 0), .abs (FamA (datF [] layN) 0)]) (obl := [b4 = b4]) [.at 2] [7, 8, 9, 3] (fun _ => by kernel_rfl) ⟨rfl, trivial⟩ rfl (by kernel_rfl) (⟨none, 0, layN, by rw [plantG_bad hfo (fun e => h127 (by rw [e]))]; rfl, by rw [plantG_bad hfo (fun e => h127 (by rw [e]))]; rfl⟩)
   ·
    refine Tri.skip (TriQ.next (Tri.seq (Tri.region ?_)))
    refine TriL.back (hps := [.blk b5 [.slice An (s.ns.length) (cn)] 24, .abs (MapA Try.prog 9 m6 (mS (idv ls s.ids i)) i), .blk b4 [.slice none (0) (0)] 24, .abs R]) lent18 hle0 ?_
    show TriL _ _ _ _ _ _ [.blk b5 [.slice An (s.ns.length) (cn)] 24, .abs (MapA Try.prog 9 m6 (mS (idv ls s.ids i)) i), .blk b4 [.slice none (0) (0)] 24, .abs R, .abs (RowA 32 10 An s.ns.length cn (nodesV L s.ns)), .abs (FamA (entF s.ns L) s.ns.length), .abs (FamA (datF s.ns L) s.ns.length)] _
    have hG := hG_lent18
    refine TriL.seg (k' := 3) (fr' := [(2, .pointer (some ⟨b4, 0, none⟩)), (3, .int .i64 0)]) (hps' := [.blk b5 [.slice An (s.ns.length) (cn)] 24, .abs (MapA Try.prog 9 m6 (mS (idv ls s.ids i)) i), .blk b4 [.slice An (s.ns.length) (cn)] 24, .abs R, .abs (RowA 32 10 An s.ns.length cn (nodesV L s.ns)), .abs (FamA (entF s.ns L) s.ns.length), .abs (FamA (datF s.ns L) s.ns.length)]) (obl := [b4 = b4, b5 = b5]) [⟨[.at 0], none, none, none, none⟩, ⟨[.at 2], none, none, none, none⟩, o_] [2, 3] [0, 1, 2, 3, 4, 5, 6] (fun _ _ => by kernel_rfl) ⟨rfl, rfl, trivial⟩ ?_
    refine TriL.nil (by kernel_rfl) (TriQ.next (Tri.ret ?_))
    exact TriQ.ret (v := .tuple #[.agg #[.slice An (s.ns.length) (cn)], .int .i64 0]) (l := [.abs (RowA 32 10 An s.ns.length cn (nodesV L s.ns)), .abs (FamA (entF s.ns L) s.ns.length), .abs (FamA (datF s.ns L) s.ns.length)]) (obl := [b4 = b4]) [.at 2] [4, 5, 6, 3] (fun _ => by kernel_rfl) ⟨rfl, trivial⟩ rfl (by kernel_rfl) (⟨An, cn, L, by rw [plantG_good hfo (Prod.ext h127 h122)], by rw [plantG_good hfo (Prod.ext h127 h122)]; rfl⟩)
end Go.Proofs.Ytjpdcppdoonmdaa
end
/- part GPb. PROVED HERE: bounds of what Plant builds; Plant's answers laid to the base; lines as the row hands them over; the two lines of the law's first look. CONDITIONS: none. -/
section
namespace Go.Proofs.Ytjpdcppdoonmdaa
open Go.RowKit Go.WideShapes Go.ChangeShapes Go.ChangeAt Go.Deep
structure LineB (l : LineM) (b : Nat) : Prop where
  ids : I64 l.kind ∧ I64 l.mode ∧ I64 l.uid ∧ I64 l.gid ∧ I64 l.sec ∧ I64 l.nano
  path : l.path.size + 1 ≤ b
  data : l.data.length + 1 ≤ b
  target : l.target.size + 1 ≤ b
  peer : l.peer.size + 1 ≤ b
structure LinesB (ls : List LineM) (b : Nat) : Prop where
  len : ls.length + 1 ≤ b
  line : ∀ i, i < ls.length → LineB (ln ls i) b
theorem LinesB.mono {ls : List LineM} {b c : Nat} (h : LinesB ls b) (hb : b ≤ c) : LinesB ls c := ⟨Nat.le_trans h.len hb, fun i hi => ⟨(h.line i hi).ids, Nat.le_trans (h.line i hi).path hb, Nat.le_trans (h.line i hi).data hb, Nat.le_trans (h.line i hi).target hb, Nat.le_trans (h.line i hi).peer hb⟩⟩
theorem LinesB.c {ls : List LineM} (h : LinesB ls 1048576) : LinesC ls := ⟨by have := h.len; omega, fun i hi => by have := (h.line i hi).path; omega, fun i hi => by have := (h.line i hi).peer; omega, fun i hi => by have := (h.line i hi).data; omega⟩
structure LineL where
  l : LineM
  dA : Option Addr
  dC : Nat
deriving Inhabited
def llV (a : LineL) : List Value := lineV a.dA a.dC a.l
structure LineQ (W : World) (a : LineL) (b : Nat) : Prop where
  nb : LineB a.l b
  data : BytesAt (B0 W) a.dA a.l.data
section open_
variable {H : Type} {enc : TypeId × Value → H} {W : World} {sp : Nat → Bool}
set_option maxRecDepth 100000 in
theorem open_line {n : Nat} {cs : List Value} {x : DataW H × List MemPlace} (h : DataW.trod enc Try.prog W 0 sp true n 51 cs = some x) : ∃ a : LineL, cs = llV a ∧ LineQ W a (Rows.uptoBulk x.1) := by
  obtain ⟨ys, m, _, hx, hl, hyl, hf⟩ := DataW.trod_struct Try.underlying51 h
  have hC : Try.prog.cellsOf 51 = 10 := by kernel_rfl
  rw [hC] at hl
  match cs, hl with
  | [c0, c1, c2, c3, c4, c5, c6, c7, c8, c9], _ =>
    obtain ⟨h0, b0⟩ := trod_field (hf 0 _ rfl) (by rw [hyl]; decide)
    obtain ⟨h1, _⟩ := trod_field (hf 1 _ rfl) (by rw [hyl]; decide)
    obtain ⟨h2, _⟩ := trod_field (hf 2 _ rfl) (by rw [hyl]; decide)
    obtain ⟨h3, _⟩ := trod_field (hf 3 _ rfl) (by rw [hyl]; decide)
    obtain ⟨h4, _⟩ := trod_field (hf 4 _ rfl) (by rw [hyl]; decide)
    obtain ⟨h5, _⟩ := trod_field (hf 5 _ rfl) (by rw [hyl]; decide)
    obtain ⟨h6, b6⟩ := trod_field (hf 6 _ rfl) (by rw [hyl]; decide)
    obtain ⟨h7, b7⟩ := trod_field (hf 7 _ rfl) (by rw [hyl]; decide)
    obtain ⟨h8, b8⟩ := trod_field (hf 8 _ rfl) (by rw [hyl]; decide)
    obtain ⟨s0, rfl, l0⟩ := open_str (c := c0) Try.underlying9 h0
    obtain ⟨z1, rfl, w1⟩ := open_i64 Try.underlying3 h1
    obtain ⟨z2, rfl, w2⟩ := open_i64 Try.underlying3 h2
    obtain ⟨z3, rfl, w3⟩ := open_i64 Try.underlying3 h3
    obtain ⟨z4, rfl, w4⟩ := open_i64 Try.underlying3 h4
    obtain ⟨us, _, _, _, _, hul, hu⟩ := DataW.trod_struct Try.underlying28 h5
    obtain ⟨g0, _⟩ := trod_field (hu 0 _ rfl) (by rw [hul]; decide)
    obtain ⟨g1, _⟩ := trod_field (hu 1 _ rfl) (by rw [hul]; decide)
    obtain ⟨z5, rfl, w5⟩ := open_i64 (c := c5) Try.underlying3 g0
    obtain ⟨z6, rfl, w6⟩ := open_i64 (c := c6) Try.underlying3 g1
    obtain ⟨A7, p7, d7, rfl, q7, l7⟩ := open_bytes (c := c7) h6
    obtain ⟨s8, rfl, l8⟩ := open_str (c := c8) Try.underlying9 h7
    obtain ⟨s9, rfl, l9⟩ := open_str (c := c9) Try.underlying9 h8
    rw [hx]
    exact ⟨⟨⟨s0, z1, z2, z3, z4, z5, z6, d7, s8, s9⟩, A7, p7⟩, rfl, ⟨⟨w1, w2, w3, w4, w5, w6⟩, Nat.le_trans l0 b0, Nat.le_trans l7 b6, Nat.le_trans l8 b7, Nat.le_trans l9 b8⟩, q7⟩
theorem lines_flat (M : LayL) : ∀ (xs : List LineL) (k : Nat), (∀ i, i < xs.length → M.dA (k + i) = (xs.getD i default).dA ∧ M.dC (k + i) = (xs.getD i default).dC) → flatF (fun _ a => llV a) k xs = flatF (fun i l => lineV (M.dA i) (M.dC i) l) k (xs.map (·.l))
  | [], _, _ => rfl
  | a :: r, k, h => by
    obtain ⟨h1, h2⟩ := h 0 (by simp)
    simp only [Nat.add_zero, List.getD_cons_zero] at h1 h2
    rw [flatF, List.map_cons, flatF, lines_flat M r (k + 1) (fun i hi => by
      have := h (i + 1) (by simp; omega)
      rw [List.getD_cons_succ] at this
      have e : k + (i + 1) = k + 1 + i := by omega
      rw [e] at this
      exact this), h1, h2]
    rfl
set_option maxRecDepth 100000 in
theorem open_lines {v : Value} {d : DataW H} {ps : List MemPlace} {r : Go.Reach} {b0 : Nat} (hval : Value.okWide Try.prog W r b0 46 v) (h : DataW.Trod enc Try.prog W 0 sp true 46 v d ps) :
    ∃ A cp, ∃ ls : List LineM, ∃ M : LayL, v = .slice A ls.length cp ∧ LinesAt (B0 W) A ls M ∧ LinesB ls (Rows.uptoBulk d) := by
  obtain ⟨a, n, c, rfl⟩ := okWide_slice Try.underlying46 hval
  obtain ⟨fuel, h⟩ := h
  obtain ⟨A, cp, xs, D, h1, _, _, h2, h4, h3⟩ := open_row (α := LineL) (f := llV) (Q := fun a d => LineQ W a (Rows.uptoBulk d)) Try.underlying46 (size := 10) (by kernel_rfl) (by decide) (fun n cs x h => open_line h) (fun _ => rfl) h
  have h1 : [Value.slice a n c] = [Value.slice A xs.length cp] := h1
  cases h1
  have h5 := bulk_len ((List.range xs.length).map D)
  have e : (xs.map (·.l)).length = xs.length := by simp
  have hln : ∀ i, i < xs.length → ln (xs.map (·.l)) i = (xs.getD i default).l := fun i hi => by
    simp [ln, List.getD_eq_getElem?_getD, hi]
  have h3 : Rows.uptoBulkAll ((List.range xs.length).map D) + 1 ≤ Rows.uptoBulk d := h3
  refine ⟨_, _, xs.map (·.l), ⟨fun i => (xs.getD i default).dA, fun i => (xs.getD i default).dC⟩, by rw [e], ⟨?_, fun i hi => ?_⟩, by simp at h5; rw [e]; omega, fun i hi => ?_⟩
  · rw [lines_flat ⟨fun i => (xs.getD i default).dA, fun i => (xs.getD i default).dC⟩ xs 0 (fun i _ => by rw [Nat.zero_add]; exact ⟨rfl, rfl⟩)] at h2
    exact h2
  · rw [e] at hi
    rw [hln i hi]
    exact (h4 i hi).data
  · rw [e] at hi
    rw [hln i hi]
    have h7 := bulk_get (D := D) hi
    have h8 := (h4 i hi).nb
    exact ⟨h8.ids, by have := h8.path; omega, by have := h8.data; omega, by have := h8.target; omega, by have := h8.peer; omega⟩
end open_
/-! ### bounds of what is built -/
structure NsB (ns : List NodeM) (i b : Nat) : Prop where
  ids : ∀ k, k < ns.length → I64 (nd ns k).id ∧ I64 (nd ns k).kind ∧ I64 (nd ns k).mode ∧ I64 (nd ns k).uid ∧ I64 (nd ns k).gid ∧ I64 (nd ns k).sec ∧ I64 (nd ns k).nano
  data : ∀ k, k < ns.length → (nd ns k).data.length + 1 ≤ b ∧ (nd ns k).target.size + 1 ≤ b
  ents : ∀ k, k < ns.length → (nd ns k).ents.length ≤ i
  ent : ∀ k, k < ns.length → ∀ j, j < (nd ns k).ents.length → EntB (en (nd ns k).ents j) b
theorem NsB.nil {i b : Nat} : NsB [] i b := ⟨fun _ h => absurd h (Nat.not_lt_zero _), fun _ h => absurd h (Nat.not_lt_zero _), fun _ h => absurd h (Nat.not_lt_zero _), fun _ h => absurd h (Nat.not_lt_zero _)⟩
section nsb
variable {ns : List NodeM} {i b : Nat}
theorem last_or {n : NodeM} {k : Nat} (hk : k < (ns ++ [n]).length) : (k < ns.length ∧ nd (ns ++ [n]) k = nd ns k) ∨ (nd (ns ++ [n]) k = n) := by
  by_cases e : k < ns.length
  · exact .inl ⟨e, nd_snoc e⟩
  · have : k = ns.length := by simp at hk; omega
    subst this; exact .inr nd_last
theorem NsB.up (h : NsB ns i b) : NsB ns (i + 1) b := ⟨h.ids, h.data, fun k hk => Nat.le_succ_of_le (h.ents k hk), h.ent⟩
theorem NsB.more (h : NsB ns i b) {l : LineM} (hl : LineB l b) (hn : ns.length ≤ 1048576) : NsB (ns ++ [lineNode l ns.length]) i b := by
  refine ⟨fun k hk => ?_, fun k hk => ?_, fun k hk => ?_, fun k hk => ?_⟩
  · rcases last_or hk with ⟨h1, h2⟩ | h2
    · rw [h2]; exact h.ids k h1
    · rw [h2]; exact ⟨by show I64 ((ns.length + 1 : Nat) : Int); unfold I64; omega, hl.ids⟩
  · rcases last_or hk with ⟨h1, h2⟩ | h2
    · rw [h2]; exact h.data k h1
    · rw [h2]; exact ⟨hl.data, hl.target⟩
  · rcases last_or hk with ⟨h1, h2⟩ | h2
    · rw [h2]; exact h.ents k h1
    · rw [h2]; exact Nat.zero_le _
  · rcases last_or hk with ⟨h1, h2⟩ | h2
    · rw [h2]; exact h.ent k h1
    · rw [h2]; exact fun j hj => absurd hj (Nat.not_lt_zero _)
theorem en_snoc {es : List EntM} {e : EntM} {j : Nat} (hj : j < (es ++ [e]).length) : (j < es.length ∧ en (es ++ [e]) j = en es j) ∨ en (es ++ [e]) j = e := by
  unfold en
  rw [List.getD_eq_getElem?_getD, List.getD_eq_getElem?_getD]
  by_cases h : j < es.length
  · rw [List.getElem?_append_left h]; exact .inl ⟨h, rfl⟩
  · have : j = es.length := by simp at hj; omega
    subst this; rw [List.getElem?_append_right (Nat.le_refl _)]; right; simp
theorem NsB.ent' (h : NsB ns i b) {k : Nat} {e : EntM} (hk : k < ns.length) (he : EntB e b) : NsB (addEnt ns k e) (i + 1) b := by
  refine ⟨fun j hj => ?_, fun j hj => ?_, fun j hj => ?_, fun j hj => ?_⟩ <;> rw [addEnt_len] at hj <;> rw [nd_addEnt hk] <;> split
  · exact h.ids k hk
  · exact h.ids j hj
  · exact h.data k hk
  · exact h.data j hj
  · simp only [List.length_append, List.length_singleton]; have := h.ents k hk; omega
  · have := h.ents j hj; omega
  · intro t ht
    rcases en_snoc ht with ⟨h1, h2⟩ | h2
    · show EntB (en ((nd ns k).ents ++ [e]) t) b
      rw [h2]; exact h.ent k hk t h1
    · show EntB (en ((nd ns k).ents ++ [e]) t) b
      rw [h2]; exact he
  · exact h.ent j hj
end nsb
theorem nameOf_le (p : ByteArray) : (nameOf p).size ≤ p.size := by
  unfold nameOf
  split
  · rw [ByteArray.size_extract]; omega
  · exact Nat.le_refl _
section folds
variable {ls : List LineM}
theorem NsB.newNs {s : PS} {i : Nat} (hB : LinesB ls 1048576) (hi : i < ls.length) (h : PInv ls s i) (hN : NsB s.ns i 1048576) : NsB (newNs ls s i) i 1048576 := by
  have h1 := h.nsl
  have h2 := hB.len
  unfold Go.Proofs.Ytjpdcppdoonmdaa.newNs
  split
  · exact hN.more (hB.line i hi) (by omega)
  · exact hN
theorem entB_new {s : PS} {i : Nat} (hB : LinesB ls 1048576) (hi : i < ls.length) (h : PInv ls s i) : EntB ⟨nameOf (ln ls i).path, ((newId ls s i : Nat) : Int)⟩ 1048576 := by
  have h1 := h.nsl
  have h2 := hB.len
  have h3 := newId_le h
  have h4 := newNs_le (ls := ls) (s := s) (i := i)
  have h5 := nameOf_le (ln ls i).path
  have h6 := (hB.line i hi).path
  exact ⟨by show I64 ((newId ls s i : Nat) : Int); unfold I64; omega, by show (nameOf (ln ls i).path).size + 1 ≤ _; omega⟩
theorem foldP_B (hB : LinesB ls 1048576) : ∀ {i : Nat} {s : PS}, i ≤ ls.length → foldS stepP ls i = some s → NsB s.ns i 1048576
  | 0, s, _, h => by cases h; exact NsB.nil
  | i + 1, s, hi, h => by
    rw [foldS] at h
    cases h1 : foldS stepP ls i with
    | none => rw [h1] at h; cases h
    | some s1 =>
      rw [h1] at h
      have hv := fold_inv h1
      have ih := (foldP_B hB (by omega) h1).newNs hB (by omega) hv
      have h5 := newNs_ge (ls := ls) (s := s1) (i := i)
      have h : stepP ls s1 i = some s := h
      unfold stepP at h
      split at h
      · cases h
      · split at h
        · cases h; exact ih.up
        · split at h
          · cases h
          · cases h; have h4 := parP_le hv (by omega); exact ih.ent' (by omega) (entB_new hB (by omega) hv)
theorem NsB.graph {ns : List NodeM} {i : Nat} (h : NsB ns i 1048576) (hl : ns.length ≤ i) (hi : i + 1 ≤ 1048576) : GraphB ns 1048576 :=
  ⟨by omega, fun k hk => ⟨h.ids k hk, (h.data k hk).1, (h.data k hk).2, by have := h.ents k hk; omega, h.ent k hk⟩⟩
theorem LinesB.p (hB : LinesB ls 1048576) : PlantB ls := fun _ h => (foldP_B hB (Nat.le_refl _) h).graph (fold_inv h).nsl hB.len
theorem graphB_nil : GraphB [] 1048576 := ⟨by decide, fun _ h => absurd h (Nat.not_lt_zero _)⟩
theorem plantG_B (h : PlantB ls) : GraphB (plantG ls).1 1048576 := by
  cases h1 : foldS stepP ls ls.length with
  | none => rw [plantG_none h1]; exact graphB_nil
  | some s =>
    by_cases h2 : treeG s.ns 1 = (ls, 0)
    · rw [plantG_good h1 h2]; exact h s h1
    · rw [plantG_bad h1 h2]; exact graphB_nil
end folds
theorem sp_plantB {β : Bs} (A : Option Addr) (c : Nat) (ls : List LineM) (M : LayL) (hG : LinesAt β A ls M) (hC : LinesC ls) (hPB : PlantB ls) :
    SpecB Try.prog β 30 #[.slice A ls.length c] [] (fun β' v l => ∃ B cp L, v = .tuple #[.agg #[.slice B (plantG ls).1.length cp], .int .i64 (plantG ls).2] ∧ l = [] ∧ GraphAt β' B (plantG ls).1 L) :=
  ((sp_plant A c ls M hG hC hPB).base (Φ := fun β' v => ∃ B cp L, v = .tuple #[.agg #[.slice B (plantG ls).1.length cp], .int .i64 (plantG ls).2] ∧ GraphAt β' B (plantG ls).1 L)
    (fun _ _ ⟨B, cp, L, h1, h2⟩ _ hL => ⟨B, cp, L, h1, (h2 ▸ hL).graph⟩)).mono fun _ _ _ _ ⟨h1, B, cp, L, h2, h3⟩ => ⟨B, cp, L, h2, h1, h3⟩
/-! ### two lines -/
def two1 : LineM := ⟨⟨#[46]⟩, 2, 0, 0, 0, 0, 0, [], ⟨#[]⟩, ⟨#[]⟩⟩
def two2 : LineM := ⟨⟨#[97]⟩, 1, 0, 0, 0, 0, 0, [], ⟨#[]⟩, ⟨#[]⟩⟩
def twoL : List LineM := [two1, two2]
def twoN1 : NodeM := ⟨1, 2, 0, 0, 0, 0, 0, [], ⟨#[]⟩, [⟨⟨#[97]⟩, 2⟩]⟩
def twoN2 : NodeM := ⟨2, 1, 0, 0, 0, 0, 0, [], ⟨#[]⟩, []⟩
def twoN : List NodeM := [twoN1, twoN2]
theorem twoC {i : Nat} (h : i < twoN.length) : i = 0 ∨ i = 1 := by
  have h : i < 2 := h
  omega
theorem two_ok : GraphOk twoN := by
  refine ⟨by decide, fun i hi => ?_, fun i hi => ?_, fun i j hij hj => ?_, by decide, fun i hi j hj => ?_, by decide, fun z => ?_⟩
  · rcases twoC hi with rfl | rfl
    · exact ⟨by decide, by decide, by decide, by decide, time_zero, fun _ => rfl, fun h => absurd rfl h, .inl ⟨by decide, rfl⟩⟩
    · exact ⟨by decide, by decide, by decide, by decide, time_zero, fun h => absurd rfl h, fun _ => rfl, .inl ⟨by decide, rfl⟩⟩
  · rcases twoC hi with rfl | rfl <;> exact ⟨by decide, by decide⟩
  · rcases twoC hj with rfl | rfl
    · omega
    · have : i = 0 := by omega
      subst this; decide
  · rcases twoC hi with rfl | rfl
    · have hj : j < 1 := hj
      have : j = 0 := by omega
      subst this
      exact ⟨by decide, good_one (by decide) (by decide) (by decide), not_strLe.2 (by decide)⟩
    · exact absurd hj (Nat.not_lt_zero j)
  · have e : (allE twoN twoN.length).map (idP twoN) = [] := by decide
    rw [e]
    exact ⟨0, rfl⟩
theorem two_fold : foldS stepP twoL 2 = some ⟨twoN, [1, 2]⟩ := by
  have h0 : foldS stepP twoL 1 = some ⟨[⟨1, 2, 0, 0, 0, 0, 0, [], ⟨#[]⟩, []⟩], [1]⟩ := by
    rw [foldS]
    show stepP twoL PS0 0 = _
    exact stepP_first (ls := twoL) (s := PS0) (i := 0) rfl (by decide) rfl
  rw [foldS, h0]
  show stepP twoL ⟨[⟨1, 2, 0, 0, 0, 0, 0, [], ⟨#[]⟩, []⟩], [1]⟩ 1 = _
  have hc : cutAt (ln twoL 1).path = -1 := by
    rcases cutAt_spec (ln twoL 1).path with ⟨h, _⟩ | ⟨i, h1, _, h3, _⟩
    · exact h
    · have : i = 0 := by have h1 : i < 1 := h1; omega
      subst this
      exact absurd h3 (by decide)
  have hp : parP twoL ⟨[⟨1, 2, 0, 0, 0, 0, 0, [], ⟨#[]⟩, []⟩], [1]⟩ 1 = 1 := by
    unfold parP; rw [hc]; rfl
  have hn : nameOf (ln twoL 1).path = ⟨#[97]⟩ := by
    unfold nameOf; rw [hc]; rfl
  rw [stepP_more (by decide) (by decide) (by decide) (by rw [hp]; decide), hp, hn]
  rfl
theorem two_tree : treeG twoN 1 = (twoL, 0) := by
  have hb : beginC twoN 1 = 0 := beginC_ok two_ok (by decide) (by decide)
  have h0 : tgt twoN 1 = 0 := by decide
  have h1 : tgt twoN 2 = 1 := by decide
  have h2 : addF twoN 4194305 (tgt twoN 1) ⟨#[46]⟩ TS0 = some (push twoN 1 ⟨#[97]⟩ (push twoN 0 ⟨#[46]⟩ TS0)) := by
    rw [h0, addF, if_neg (by decide)]
    show foldE _ ([⟨⟨#[97]⟩, 2⟩] : List EntM) _ = _
    rw [foldE]
    show (addF twoN 4194304 (tgt twoN 2) ⟨#[97]⟩ (push twoN 0 ⟨#[46]⟩ TS0)).bind _ = _
    rw [h1, addF, if_neg (by decide)]
    rfl
  rw [treeG_some hb h2, push_out, push_out]
  rfl
theorem two_plant : plantG twoL = (twoN, 0) := plantG_good (s := ⟨twoN, [1, 2]⟩) two_fold two_tree
theorem two_bound : LinesB twoL 1048576 := ⟨by decide, fun i hi => by
  have h : i = 0 ∨ i = 1 := by have h : i < 2 := hi; omega
  rcases h with rfl | rfl <;> exact ⟨⟨i64_small (by decide), i64_small (by decide), i64_small (by decide), i64_small (by decide), i64_small (by decide), i64_small (by decide)⟩, by decide, by decide, by decide, by decide⟩⟩
theorem two_at {β : Bs} {A : Option Addr} (h : RowB β A (linesV ⟨fun _ => none, fun _ => 0⟩ twoL)) : LinesAt β A twoL ⟨fun _ => none, fun _ => 0⟩ := ⟨h, fun i hi => by
  have h : i = 0 ∨ i = 1 := by have h : i < 2 := hi; omega
  rcases h with rfl | rfl <;> exact RowB.nil⟩
end Go.Proofs.Ytjpdcppdoonmdaa
end
/- part GRd. PROVED HERE: what GraphRound asks: bounds of a tree's lines and of what they are planted to. CONDITIONS: none. -/
section
namespace Go.Proofs.Ytjpdcppdoonmdaa
open Go.RowKit Go.Maps
/-- paths and peers are short -/
structure Short (s : TS) : Prop where
  fst : ∀ k, (s.fst k).size ≤ 4194304
  out : ∀ l, l ∈ s.out → l.path.size ≤ 4194304 ∧ l.peer.size ≤ 4194304
theorem Short.push {ns : List NodeM} {k : Nat} {p : ByteArray} {s : TS} (h : Short s) (hp : p.size ≤ 4194304) : Short (push ns k p s) := by
  refine ⟨fun j => ?_, fun l hl => ?_⟩
  · unfold Proofs.Ytjpdcppdoonmdaa.push
    split
    · show (if j = k then p else s.fst j).size ≤ _
      split
      · exact hp
      · exact h.fst j
    · exact h.fst j
  · rw [push_out] at hl
    rcases List.mem_append.1 hl with hl | hl
    · exact h.out l hl
    · rw [List.mem_singleton.1 hl, (lineOf_path _ _ _).1, lineOf_peer]
      exact ⟨hp, h.fst k⟩
theorem addF_short {ns : List NodeM} : ∀ (f k : Nat) (p : ByteArray) (s s' : TS), Short s → addF ns f k p s = some s' → Short s'
  | 0, _, _, _, _, _, h => by cases h
  | f + 1, k, p, s, s', hs, h => by
    rw [addF] at h
    split at h
    · cases h
    · exact foldE_inv (fun e _ a b ha hab => addF_short f _ _ a b ha hab) (hs.push (by omega)) h
theorem Short.zero : Short TS0 := ⟨fun _ => (by show (0 : Nat) ≤ 4194304; decide), fun l hl => by cases hl⟩
theorem tree_c {ns : List NodeM} {root : Int} (hB : GraphB ns 1048576) (h : (treeG ns root).2 = 0) : LinesC (treeG ns root).1 := by
  obtain ⟨hb, s, h1, h2⟩ := treeG_ok h
  obtain ⟨hok, hat, _⟩ := beginC_zero hb
  have htl := atI_lt hat
  have h3 := (addF_behind hok.named 4194305 (tgt ns root) ⟨#[46]⟩ TS0 s htl.1 (by decide) TS0_ok h1).1.ok
  have h4 := addF_short _ _ _ _ _ Short.zero h1
  have h5 := (treeG_small (root := root) hB).2
  have hm : ∀ i, i < s.out.length → ln s.out i ∈ s.out := fun i hi => by
    unfold ln; rw [List.getD_eq_getElem?_getD, List.getElem?_eq_getElem hi]; exact List.getElem_mem hi
  rw [h2] at h5 ⊢
  have := h3.out; have := h3.sum
  exact ⟨by show s.out.length ≤ _; omega, fun i hi => Nat.le_trans (h4.out _ (hm i hi)).1 (by decide), fun i hi => Nat.le_trans (h4.out _ (hm i hi)).2 (by decide), h5⟩
theorem tree_p {ns : List NodeM} {root : Int} (hB : GraphB ns 1048576) (h : (treeG ns root).2 = 0) : PlantB (treeG ns root).1 := by
  intro s hs
  obtain ⟨t, h1, _, h3, h4⟩ := tree_plants (ns := ns) (root := root) (ls := (treeG ns root).1) (by rw [← h])
  rw [h1] at hs
  cases hs
  have hl := hB.len
  refine ⟨by omega, fun j hj => ?_⟩
  obtain ⟨k, ρ, hk, e, hr⟩ := h4 j hj
  have hn := hB.node k hk
  have hI : ∀ x, I64 ((ρ x : Nat) : Int) := fun x => by have := hr x; unfold I64; omega
  rw [e]
  refine ⟨⟨hI k, hn.ids.2⟩, hn.data, hn.target, by rw [newNode_ents, List.length_map]; exact hn.ents, fun i hi => ?_⟩
  rw [newNode_ents, List.length_map] at hi
  have h6 := hn.ent i hi
  have e2 : en (newNode ns ρ k (nd ns k).ents.length).ents i = ⟨(en (nd ns k).ents i).name, ((ρ (tgt ns (en (nd ns k).ents i).id) : Nat) : Int)⟩ := by
    unfold en
    rw [newNode_ents, List.getD_eq_getElem?_getD, List.getElem?_map, List.getD_eq_getElem?_getD, List.getElem?_eq_getElem hi]; rfl
  rw [e2]
  exact ⟨hI _, h6.name⟩
/-- what was planted tells the same lines -/
theorem plant_tree {ns : List NodeM} {root : Int} (h : (treeG ns root).2 = 0) : (plantG (treeG ns root).1).2 = 0 ∧ treeG (plantG (treeG ns root).1).1 1 = ((treeG ns root).1, 0) ∧ GraphOk (plantG (treeG ns root).1).1 := by
  obtain ⟨t, h1, h2, _, _⟩ := tree_plants (ns := ns) (root := root) (ls := (treeG ns root).1) (by rw [← h])
  have h3 := plantG_good h1 h2
  rw [h3]
  refine ⟨rfl, h2, ?_⟩
  have h4 := treeG_ok (ns := t.ns) (root := 1) (by rw [h2])
  exact (beginC_zero h4.1).1
theorem plantG_err {ls : List LineM} (h : ¬ (plantG ls).2 = 0) : plantG ls = ([], 151) := by
  cases h1 : foldS stepP ls ls.length with
  | none => exact plantG_none h1
  | some s =>
    by_cases h2 : treeG s.ns 1 = (ls, 0)
    · rw [plantG_good h1 h2] at h; exact absurd rfl h
    · exact plantG_bad h1 h2
theorem plantG_back {ls : List LineM} (h : (plantG ls).2 = 0) : treeG (plantG ls).1 1 = (ls, 0) := by
  cases h1 : foldS stepP ls ls.length with
  | none => rw [plantG_none h1] at h; exact absurd h (by decide)
  | some s =>
    by_cases h2 : treeG s.ns 1 = (ls, 0)
    · rw [plantG_good h1 h2]; exact h2
    · rw [plantG_bad h1 h2] at h; exact absurd h (by decide)
end Go.Proofs.Ytjpdcppdoonmdaa
end
/- part LawR. PROVED HERE: the law GraphRound CONDITIONS: as the theorems say. Printed by a program of this repo (wip/v). -/
section
namespace Go.Proofs.Ytjpdcppdoonmdaa
open Go.RowKit
attribute [local irreducible] TriL TriLQ Tri TriQ
set_option maxRecDepth 100000 in
set_option maxHeartbeats 4000000 in
theorem law_round (W : World) (A : Option Addr) (c : Nat) (ns : List NodeM) (L : Lay) (hG : GraphAt (B0 W) A ns L) (hB : GraphB ns 1048576) (root : Int) (hz : I64 root) (A2 : Option Addr) (c2 : Nat) (ls : List LineM) (M2 : LayL) (hL : LinesAt (B0 W) A2 ls M2) (hB2 : LinesB ls 1048576) :
    Spec Try.prog (B0 W) 10 #[.agg #[.slice A (ns.length) (c)], .int .i64 (root), .slice A2 (ls.length) (c2)] [] (fun v _ => v = .bool true) := by
 have hle0 := B0.refl W
 refine Spec.enter Try.func10 rfl Try.ntmps10 (Nat.le_of_ble_eq_true rfl) (fun R => ?_)
 refine Tri.seq (Tri.region ?_)
 refine TriL.segN (k' := 2) (fr' := fun b1 => [(1, .int .i64 (root)), (2, .slice A2 (ls.length) (c2)), (3, .pointer (some ⟨b1, 0, none⟩))]) (hps' := fun b1 => [.abs R, .blk b1 [.slice A (ns.length) (c)] 24]) (obl := fun b1 => []) [o_, o_] [1, 2, 3] [0, 1] (fun _ _ => by kernel_rfl) (fun b1 => trivial) (fun b1 => ?_)
 refine TriL.nil (by kernel_rfl) (TriQ.next (Tri.seq (Tri.seq (Tri.region ?_))))
 refine TriL.callB (f := 21) (args := #[]) (d := (some 14)) (pre := []) (R := [.abs R, .blk b1 [.slice A (ns.length) (c)] 24]) (pk := [0, 1]) (fun _ => by kernel_rfl) (sp_alive) rfl (by kernel_rfl) ?_
 rintro β2 _ _ hle_β2 ⟨rfl, rfl⟩
 replace hG := hG.le hle_β2
 replace hL := hL.le hle_β2
 replace hle0 := hle0.trans hle_β2
 refine TriL.segK (k' := 2) (fr' := [(1, .int .i64 (root)), (2, .slice A2 (ls.length) (c2)), (3, .pointer (some ⟨b1, 0, none⟩)), (15, .bool false)]) (obl := []) [o_] [1, 2, 3, 15] (fun _ _ => by kernel_rfl) trivial ?_
 refine TriL.nil (by kernel_rfl) (TriQ.next ?_)
 refine Tri.condF (fun _ => by kernel_rfl) ?_
 refine Tri.skip (TriQ.next (Tri.seq (Tri.region ?_)))
 refine TriL.segK (k' := 1) (fr' := [(1, .int .i64 (root)), (2, .slice A2 (ls.length) (c2)), (17, .agg #[.slice A (ns.length) (c)])]) (obl := [b1 = b1]) [⟨[.at 1], none, none, none, none⟩] [1, 2, 17] (fun _ _ => by kernel_rfl) ⟨rfl, trivial⟩ ?_
 refine TriL.callB (f := 15) (args := #[.agg #[.slice A (ns.length) (c)]]) (d := (some 18)) (pre := []) (R := [.abs R, .blk b1 [.slice A (ns.length) (c)] 24]) (pk := [0, 1]) (fun _ => by kernel_rfl) (sp_copyGraph A c ns L hG hB.hl hB.hd) rfl (by kernel_rfl) ?_
 rintro β7 _ _ hle_β7 ⟨B3, c4, L5, rfl, rfl, hG6⟩
 replace hG := hG.le hle_β7
 replace hL := hL.le hle_β7
 replace hle0 := hle0.trans hle_β7
 refine TriL.segK (k' := 3) (fr' := [(2, .slice A2 (ls.length) (c2)), (18, .agg #[.slice B3 (ns.length) (c4)]), (19, .int .i64 (root))]) (obl := []) [o_] [2, 18, 19] (fun _ _ => by kernel_rfl) trivial ?_
 refine TriL.callB (f := 26) (args := #[.agg #[.slice B3 (ns.length) (c4)], .int .i64 (root)]) (d := (some 20)) (pre := []) (R := [.abs R, .blk b1 [.slice A (ns.length) (c)] 24]) (pk := [0, 1]) (fun _ => by kernel_rfl) (sp_tree B3 c4 ns L5 hG6 hB root hz) rfl (by kernel_rfl) ?_
 rintro β12 _ _ hle_β12 ⟨B8, c9, M10, rfl, rfl, hT11⟩
 replace hG := hG.le hle_β12
 replace hL := hL.le hle_β12
 replace hG6 := hG6.le hle_β12
 replace hle0 := hle0.trans hle_β12
 refine TriL.segK (k' := 9) (fr' := [(2, .slice A2 (ls.length) (c2)), (7, .slice B8 ((treeG ns root).1.length) (c9)), (8, .int .i64 ((treeG ns root).2))]) (obl := []) [o_, o_, o_, o_, o_] [2, 7, 8] (fun _ _ => by kernel_rfl) trivial ?_
 refine TriL.nil (by kernel_rfl) (TriQ.next (Tri.seq (Tri.seq (Tri.region ?_))))
 refine TriL.segK (k' := 2) (fr' := [(2, .slice A2 (ls.length) (c2)), (7, .slice B8 ((treeG ns root).1.length) (c9)), (24, .bool (decide (((treeG ns root).2 : Int) = (0 : Int))))]) (obl := []) [o_, o_] [2, 7, 24] (fun _ _ => by kernel_rfl) trivial ?_
 refine TriL.nil (by kernel_rfl) (TriQ.next ?_)
 refine Tri.condP (p := ((treeG ns root).2 : Int) = (0 : Int)) (fun _ => by kernel_rfl) (fun h24 => ?_) (fun h24 => ?_)
 ·
  have hpt := plant_tree h24
  refine Tri.seq (Tri.region ?_)
  refine TriL.segK (k' := 1) (fr' := [(2, .slice A2 (ls.length) (c2)), (7, .slice B8 ((treeG ns root).1.length) (c9)), (26, .slice B8 ((treeG ns root).1.length) (c9))]) (obl := []) [o_] [2, 7, 26] (fun _ _ => by kernel_rfl) trivial ?_
  refine TriL.callB (f := 31) (args := #[.slice B8 ((treeG ns root).1.length) (c9)]) (d := (some 27)) (pre := []) (R := [.abs R, .blk b1 [.slice A (ns.length) (c)] 24]) (pk := [0, 1]) (fun _ => by kernel_rfl) (sp_copyLines B8 c9 (treeG ns root).1 M10 hT11 (treeG_small hB).1 (treeG_small hB).2) rfl (by kernel_rfl) ?_
  rintro β17 _ _ hle_β17 ⟨B13, c14, M15, rfl, rfl, hO16⟩
  replace hG := hG.le hle_β17
  replace hL := hL.le hle_β17
  replace hG6 := hG6.le hle_β17
  replace hT11 := hT11.le hle_β17
  replace hle0 := hle0.trans hle_β17
  refine TriL.callB (f := 30) (args := #[.slice B13 ((treeG ns root).1.length) (c14)]) (d := (some 28)) (pre := []) (R := [.abs R, .blk b1 [.slice A (ns.length) (c)] 24]) (pk := [0, 1]) (fun _ => by kernel_rfl) (sp_plantB B13 c14 (treeG ns root).1 M15 hO16 (tree_c hB h24) (tree_p hB h24)) rfl (by kernel_rfl) ?_
  rintro β22 _ _ hle_β22 ⟨B18, c19, L20, rfl, rfl, hP21⟩
  replace hG := hG.le hle_β22
  replace hL := hL.le hle_β22
  replace hG6 := hG6.le hle_β22
  replace hT11 := hT11.le hle_β22
  replace hO16 := hO16.le hle_β22
  replace hle0 := hle0.trans hle_β22
  refine TriL.segN (k' := 9) (fr' := fun b23 => [(2, .slice A2 (ls.length) (c2)), (7, .slice B8 ((treeG ns root).1.length) (c9)), (9, .pointer (some ⟨b23, 0, none⟩)), (10, .int .i64 ((plantG (treeG ns root).1).2))]) (hps' := fun b23 => [.abs R, .blk b1 [.slice A (ns.length) (c)] 24, .blk b23 [.slice B18 ((plantG (treeG ns root).1).1.length) (c19)] 24]) (obl := fun b23 => [b23 = b23]) [o_, o_, o_, o_, ⟨[.at 2], none, none, none, none⟩, o_] [2, 7, 9, 10] [0, 1, 2] (fun _ _ => by kernel_rfl) (fun b23 => ⟨rfl, trivial⟩) (fun b23 => ?_)
  refine TriL.nil (by kernel_rfl) (TriQ.next (Tri.seq (Tri.seq (Tri.region ?_))))
  refine TriL.segK (k' := 3) (fr' := [(2, .slice A2 (ls.length) (c2)), (7, .slice B8 ((treeG ns root).1.length) (c9)), (9, .pointer (some ⟨b23, 0, none⟩)), (33, .bool (!(decide (((plantG (treeG ns root).1).2 : Int) = (0 : Int)))))]) (obl := []) [o_, o_, o_] [2, 7, 9, 33] (fun _ _ => by kernel_rfl) trivial ?_
  refine TriL.slotN 33 (((plantG (treeG ns root).1).2 : Int) = (0 : Int)) (fun _ => by kernel_rfl) (fun h33 => ?_) (fun h33 => ?_)
  ·
   exact absurd hpt.1 h33
  ·
   refine TriL.segK (k' := 4) (fr' := [(2, .slice A2 (ls.length) (c2)), (7, .slice B8 ((treeG ns root).1.length) (c9)), (9, .pointer (some ⟨b23, 0, none⟩)), (33, .bool false), (34, .agg #[.slice B18 ((plantG (treeG ns root).1).1.length) (c19)])]) (obl := [b23 = b23]) [⟨[.at 2], none, none, none, none⟩] [2, 7, 9, 33, 34] (fun _ _ => by kernel_rfl) ⟨rfl, trivial⟩ ?_
   refine TriL.call (f := 14) (args := #[.agg #[.slice B18 ((plantG (treeG ns root).1).1.length) (c19)]]) (d := (some 35)) (pre := []) (R := [.abs R, .blk b1 [.slice A (ns.length) (c)] 24, .blk b23 [.slice B18 ((plantG (treeG ns root).1).1.length) (c19)] 24]) (pk := [0, 1, 2]) (fun _ => by kernel_rfl) ((sp_check B18 c19 (plantG (treeG ns root).1).1 L20 hP21 (plantG_B (tree_p hB h24)).hl (plantG_B (tree_p hB h24)).hd (plantG_B (tree_p hB h24)).hwf (plantG_B (tree_p hB h24)).hnm).val (congrArg (Value.int .i64) (if_pos hpt.2.2))) rfl (by kernel_rfl) ?_
   rintro _ _ ⟨rfl, rfl⟩
   refine TriL.segK (k' := 7) (fr' := [(2, .slice A2 (ls.length) (c2)), (7, .slice B8 ((treeG ns root).1.length) (c9)), (9, .pointer (some ⟨b23, 0, none⟩)), (37, .bool false)]) (obl := []) [o_, o_] [2, 7, 9, 37] (fun _ _ => by kernel_rfl) trivial ?_
   refine TriL.nil (by kernel_rfl) (TriQ.next ?_)
   refine Tri.condF (fun _ => by kernel_rfl) ?_
   refine Tri.skip (TriQ.next (Tri.seq (Tri.region ?_)))
   refine TriL.segK (k' := 1) (fr' := [(2, .slice A2 (ls.length) (c2)), (7, .slice B8 ((treeG ns root).1.length) (c9)), (39, .agg #[.slice B18 ((plantG (treeG ns root).1).1.length) (c19)])]) (obl := [b23 = b23]) [⟨[.at 2], none, none, none, none⟩] [2, 7, 39] (fun _ _ => by kernel_rfl) ⟨rfl, trivial⟩ ?_
   have hc28 := sp_tree B18 c19 (plantG (treeG ns root).1).1 L20 hP21 (plantG_B (tree_p hB h24)) 1 (by unfold I64; decide)
   rw [hpt.2.1] at hc28
   refine TriL.callB (f := 26) (args := #[.agg #[.slice B18 ((plantG (treeG ns root).1).1.length) (c19)], .int .i64 1]) (d := (some 40)) (pre := []) (R := [.abs R, .blk b1 [.slice A (ns.length) (c)] 24, .blk b23 [.slice B18 ((plantG (treeG ns root).1).1.length) (c19)] 24]) (pk := [0, 1, 2]) (fun _ => by kernel_rfl) (hc28) rfl (by kernel_rfl) ?_
   rintro β29 _ _ hle_β29 ⟨B24, c25, M26, rfl, rfl, hT27⟩
   replace hG := hG.le hle_β29
   replace hL := hL.le hle_β29
   replace hG6 := hG6.le hle_β29
   replace hT11 := hT11.le hle_β29
   replace hO16 := hO16.le hle_β29
   replace hP21 := hP21.le hle_β29
   replace hle0 := hle0.trans hle_β29
   refine TriL.segK (k' := 7) (fr' := [(2, .slice A2 (ls.length) (c2)), (7, .slice B8 ((treeG ns root).1.length) (c9)), (10, .int .i64 0), (11, .slice B24 ((treeG ns root).1.length) (c25))]) (obl := []) [o_, o_, o_, o_, o_] [2, 7, 10, 11] (fun _ _ => by kernel_rfl) trivial ?_
   refine TriL.nil (by kernel_rfl) (TriQ.next (Tri.seq (Tri.region ?_)))
   refine TriL.segK (k' := 5) (fr' := [(2, .slice A2 (ls.length) (c2)), (45, .bool false), (46, .slice B8 ((treeG ns root).1.length) (c9)), (47, .slice B24 ((treeG ns root).1.length) (c25))]) (obl := []) [o_, o_, o_, o_, o_] [2, 45, 46, 47] (fun _ _ => by kernel_rfl) trivial ?_
   refine TriL.call (f := 28) (args := #[.slice B8 ((treeG ns root).1.length) (c9), .slice B24 ((treeG ns root).1.length) (c25)]) (d := (some 48)) (pre := []) (R := [.abs R, .blk b1 [.slice A (ns.length) (c)] 24, .blk b23 [.slice B18 ((plantG (treeG ns root).1).1.length) (c19)] 24]) (pk := [0, 1, 2]) (fun _ => by kernel_rfl) ((sp_sameLines B8 B24 c9 c25 (treeG ns root).1 (treeG ns root).1 M10 M26 hT11 hT27 (treeG_small hB).1 (treeG_small hB).2).val (congrArg Value.bool (decide_eq_true rfl))) rfl (by kernel_rfl) ?_
   rintro _ _ ⟨rfl, rfl⟩
   refine TriL.segK (k' := 8) (fr' := [(2, .slice A2 (ls.length) (c2)), (50, .bool false)]) (obl := []) [o_, o_] [2, 50] (fun _ _ => by kernel_rfl) trivial ?_
   refine TriL.nil (by kernel_rfl) (TriQ.next ?_)
   refine Tri.condF (fun _ => by kernel_rfl) ?_
   refine Tri.skip (TriQ.next (Tri.seq (Tri.region ?_)))
   refine TriL.segK (k' := 1) (fr' := [(2, .slice A2 (ls.length) (c2)), (52, .slice A2 (ls.length) (c2))]) (obl := []) [o_] [2, 52] (fun _ _ => by kernel_rfl) trivial ?_
   refine TriL.callB (f := 31) (args := #[.slice A2 (ls.length) (c2)]) (d := (some 53)) (pre := []) (R := [.abs R, .blk b1 [.slice A (ns.length) (c)] 24, .blk b23 [.slice B18 ((plantG (treeG ns root).1).1.length) (c19)] 24]) (pk := [0, 1, 2]) (fun _ => by kernel_rfl) (sp_copyLines A2 c2 ls M2 hL (by have := hB2.len; omega) (fun i hi => hB2.c.data i hi)) rfl (by kernel_rfl) ?_
   rintro β34 _ _ hle_β34 ⟨B30, c31, M32, rfl, rfl, hO33⟩
   replace hG := hG.le hle_β34
   replace hL := hL.le hle_β34
   replace hG6 := hG6.le hle_β34
   replace hT11 := hT11.le hle_β34
   replace hO16 := hO16.le hle_β34
   replace hP21 := hP21.le hle_β34
   replace hT27 := hT27.le hle_β34
   replace hle0 := hle0.trans hle_β34
   refine TriL.callB (f := 30) (args := #[.slice B30 (ls.length) (c31)]) (d := (some 54)) (pre := []) (R := [.abs R, .blk b1 [.slice A (ns.length) (c)] 24, .blk b23 [.slice B18 ((plantG (treeG ns root).1).1.length) (c19)] 24]) (pk := [0, 1, 2]) (fun _ => by kernel_rfl) (sp_plantB B30 c31 ls M32 hO33 hB2.c hB2.p) rfl (by kernel_rfl) ?_
   rintro β39 _ _ hle_β39 ⟨B35, c36, L37, rfl, rfl, hP38⟩
   replace hG := hG.le hle_β39
   replace hL := hL.le hle_β39
   replace hG6 := hG6.le hle_β39
   replace hT11 := hT11.le hle_β39
   replace hO16 := hO16.le hle_β39
   replace hP21 := hP21.le hle_β39
   replace hT27 := hT27.le hle_β39
   replace hO33 := hO33.le hle_β39
   replace hle0 := hle0.trans hle_β39
   refine TriL.segN (k' := 9) (fr' := fun b40 => [(2, .slice A2 (ls.length) (c2)), (8, .int .i64 ((plantG ls).2)), (12, .pointer (some ⟨b40, 0, none⟩))]) (hps' := fun b40 => [.abs R, .blk b1 [.slice A (ns.length) (c)] 24, .blk b23 [.slice B18 ((plantG (treeG ns root).1).1.length) (c19)] 24, .blk b40 [.slice B35 ((plantG ls).1.length) (c36)] 24]) (obl := fun b40 => [b40 = b40]) [o_, o_, o_, o_, ⟨[.at 3], none, none, none, none⟩, o_] [2, 8, 12] [0, 1, 2, 3] (fun _ _ => by kernel_rfl) (fun b40 => ⟨rfl, trivial⟩) (fun b40 => ?_)
   refine TriL.nil (by kernel_rfl) (TriQ.next (Tri.seq (Tri.seq (Tri.region ?_))))
   refine TriL.segK (k' := 2) (fr' := [(2, .slice A2 (ls.length) (c2)), (8, .int .i64 ((plantG ls).2)), (12, .pointer (some ⟨b40, 0, none⟩)), (58, .bool (!(decide (((plantG ls).2 : Int) = (0 : Int)))))]) (obl := []) [o_, o_] [2, 8, 12, 58] (fun _ _ => by kernel_rfl) trivial ?_
   refine TriL.nil (by kernel_rfl) (TriQ.next ?_)
   refine Tri.condN (p := ((plantG ls).2 : Int) = (0 : Int)) (fun _ => by kernel_rfl) (fun h58 => ?_) (fun h58 => ?_)
   ·
    refine Tri.seq (Tri.region ?_)
    refine TriL.segK (k' := 3) (fr' := [(12, .pointer (some ⟨b40, 0, none⟩)), (61, .bool (decide (((plantG ls).2 : Int) = (151 : Int))))]) (obl := []) [o_, o_, o_] [12, 61] (fun _ _ => by kernel_rfl) trivial ?_
    refine TriL.slotP 61 (((plantG ls).2 : Int) = (151 : Int)) (fun _ => by kernel_rfl) (fun h61 => ?_) (fun h61 => ?_)
    ·
     refine TriL.segK (k' := 9) (fr' := [(6, .bool (decide (((((plantG ls).1.length : Nat) : Int) : Int) = (0 : Int))))]) (obl := [b40 = b40]) [o_, ⟨[.at 3], none, none, none, none⟩, o_, o_, o_, o_] [6] (fun _ _ => by kernel_rfl) ⟨rfl, trivial⟩ ?_
     refine TriL.nil (by kernel_rfl) (TriQ.next (Tri.ret (TriQ.passRet ?_)))
     exact TriQ.retU (v := .bool (decide (((((plantG ls).1.length : Nat) : Int) : Int) = (0 : Int)))) (l := []) (obl := []) [] [0] hle0 (fun _ => by kernel_rfl) trivial rfl (by kernel_rfl) (congrArg Value.bool (decide_eq_true (by rw [plantG_err h58]; rfl)))
    ·
     exact absurd (by rw [plantG_err h58]) h61
   ·
    refine Tri.skip (TriQ.next (Tri.seq (Tri.region ?_)))
    refine TriL.segK (k' := 1) (fr' := [(2, .slice A2 (ls.length) (c2)), (68, .agg #[.slice B35 ((plantG ls).1.length) (c36)])]) (obl := [b40 = b40]) [⟨[.at 3], none, none, none, none⟩] [2, 68] (fun _ _ => by kernel_rfl) ⟨rfl, trivial⟩ ?_
    have hc45 := sp_tree B35 c36 (plantG ls).1 L37 hP38 (plantG_B hB2.p) 1 (by unfold I64; decide)
    rw [(plantG_back h58)] at hc45
    refine TriL.callB (f := 26) (args := #[.agg #[.slice B35 ((plantG ls).1.length) (c36)], .int .i64 1]) (d := (some 69)) (pre := []) (R := [.abs R, .blk b1 [.slice A (ns.length) (c)] 24, .blk b23 [.slice B18 ((plantG (treeG ns root).1).1.length) (c19)] 24, .blk b40 [.slice B35 ((plantG ls).1.length) (c36)] 24]) (pk := [0, 1, 2, 3]) (fun _ => by kernel_rfl) (hc45) rfl (by kernel_rfl) ?_
    rintro β46 _ _ hle_β46 ⟨B41, c42, M43, rfl, rfl, hT44⟩
    replace hG := hG.le hle_β46
    replace hL := hL.le hle_β46
    replace hG6 := hG6.le hle_β46
    replace hT11 := hT11.le hle_β46
    replace hO16 := hO16.le hle_β46
    replace hP21 := hP21.le hle_β46
    replace hT27 := hT27.le hle_β46
    replace hO33 := hO33.le hle_β46
    replace hP38 := hP38.le hle_β46
    replace hle0 := hle0.trans hle_β46
    refine TriL.segK (k' := 7) (fr' := [(2, .slice A2 (ls.length) (c2)), (8, .int .i64 0), (13, .slice B41 (ls.length) (c42))]) (obl := []) [o_, o_, o_, o_, o_] [2, 8, 13] (fun _ _ => by kernel_rfl) trivial ?_
    refine TriL.nil (by kernel_rfl) (TriQ.next (Tri.seq (Tri.region ?_)))
    refine TriL.segK (k' := 5) (fr' := [(74, .bool true), (75, .slice B41 (ls.length) (c42)), (76, .slice A2 (ls.length) (c2))]) (obl := []) [o_, o_, o_, o_, o_] [74, 75, 76] (fun _ _ => by kernel_rfl) trivial ?_
    refine TriL.call (f := 28) (args := #[.slice B41 (ls.length) (c42), .slice A2 (ls.length) (c2)]) (d := (some 77)) (pre := []) (R := [.abs R, .blk b1 [.slice A (ns.length) (c)] 24, .blk b23 [.slice B18 ((plantG (treeG ns root).1).1.length) (c19)] 24, .blk b40 [.slice B35 ((plantG ls).1.length) (c36)] 24]) (pk := [0, 1, 2, 3]) (fun _ => by kernel_rfl) ((sp_sameLines B41 A2 c42 c2 ls ls M43 M2 hT44 hL (by have := hB2.len; omega) (fun i hi => hB2.c.data i hi)).val (congrArg Value.bool (decide_eq_true rfl))) rfl (by kernel_rfl) ?_
    rintro _ _ ⟨rfl, rfl⟩
    refine TriL.segK (k' := 8) (fr' := [(6, .bool true)]) (obl := []) [o_, o_] [6] (fun _ _ => by kernel_rfl) trivial ?_
    refine TriL.nil (by kernel_rfl) (TriQ.next (Tri.ret ?_))
    exact TriQ.retU (v := .bool true) (l := []) (obl := []) [] [0] hle0 (fun _ => by kernel_rfl) trivial rfl (by kernel_rfl) (rfl)
 ·
  refine Tri.skip (TriQ.next (Tri.seq (Tri.region ?_)))
  refine TriL.segK (k' := 1) (fr' := [(2, .slice A2 (ls.length) (c2)), (52, .slice A2 (ls.length) (c2))]) (obl := []) [o_] [2, 52] (fun _ _ => by kernel_rfl) trivial ?_
  refine TriL.callB (f := 31) (args := #[.slice A2 (ls.length) (c2)]) (d := (some 53)) (pre := []) (R := [.abs R, .blk b1 [.slice A (ns.length) (c)] 24]) (pk := [0, 1]) (fun _ => by kernel_rfl) (sp_copyLines A2 c2 ls M2 hL (by have := hB2.len; omega) (fun i hi => hB2.c.data i hi)) rfl (by kernel_rfl) ?_
  rintro β51 _ _ hle_β51 ⟨B47, c48, M49, rfl, rfl, hO50⟩
  replace hG := hG.le hle_β51
  replace hL := hL.le hle_β51
  replace hG6 := hG6.le hle_β51
  replace hT11 := hT11.le hle_β51
  replace hle0 := hle0.trans hle_β51
  refine TriL.callB (f := 30) (args := #[.slice B47 (ls.length) (c48)]) (d := (some 54)) (pre := []) (R := [.abs R, .blk b1 [.slice A (ns.length) (c)] 24]) (pk := [0, 1]) (fun _ => by kernel_rfl) (sp_plantB B47 c48 ls M49 hO50 hB2.c hB2.p) rfl (by kernel_rfl) ?_
  rintro β56 _ _ hle_β56 ⟨B52, c53, L54, rfl, rfl, hP55⟩
  replace hG := hG.le hle_β56
  replace hL := hL.le hle_β56
  replace hG6 := hG6.le hle_β56
  replace hT11 := hT11.le hle_β56
  replace hO50 := hO50.le hle_β56
  replace hle0 := hle0.trans hle_β56
  refine TriL.segN (k' := 9) (fr' := fun b57 => [(2, .slice A2 (ls.length) (c2)), (8, .int .i64 ((plantG ls).2)), (12, .pointer (some ⟨b57, 0, none⟩))]) (hps' := fun b57 => [.abs R, .blk b1 [.slice A (ns.length) (c)] 24, .blk b57 [.slice B52 ((plantG ls).1.length) (c53)] 24]) (obl := fun b57 => [b57 = b57]) [o_, o_, o_, o_, ⟨[.at 2], none, none, none, none⟩, o_] [2, 8, 12] [0, 1, 2] (fun _ _ => by kernel_rfl) (fun b57 => ⟨rfl, trivial⟩) (fun b57 => ?_)
  refine TriL.nil (by kernel_rfl) (TriQ.next (Tri.seq (Tri.seq (Tri.region ?_))))
  refine TriL.segK (k' := 2) (fr' := [(2, .slice A2 (ls.length) (c2)), (8, .int .i64 ((plantG ls).2)), (12, .pointer (some ⟨b57, 0, none⟩)), (58, .bool (!(decide (((plantG ls).2 : Int) = (0 : Int)))))]) (obl := []) [o_, o_] [2, 8, 12, 58] (fun _ _ => by kernel_rfl) trivial ?_
  refine TriL.nil (by kernel_rfl) (TriQ.next ?_)
  refine Tri.condN (p := ((plantG ls).2 : Int) = (0 : Int)) (fun _ => by kernel_rfl) (fun h58 => ?_) (fun h58 => ?_)
  ·
   refine Tri.seq (Tri.region ?_)
   refine TriL.segK (k' := 3) (fr' := [(12, .pointer (some ⟨b57, 0, none⟩)), (61, .bool (decide (((plantG ls).2 : Int) = (151 : Int))))]) (obl := []) [o_, o_, o_] [12, 61] (fun _ _ => by kernel_rfl) trivial ?_
   refine TriL.slotP 61 (((plantG ls).2 : Int) = (151 : Int)) (fun _ => by kernel_rfl) (fun h61 => ?_) (fun h61 => ?_)
   ·
    refine TriL.segK (k' := 9) (fr' := [(6, .bool (decide (((((plantG ls).1.length : Nat) : Int) : Int) = (0 : Int))))]) (obl := [b57 = b57]) [o_, ⟨[.at 2], none, none, none, none⟩, o_, o_, o_, o_] [6] (fun _ _ => by kernel_rfl) ⟨rfl, trivial⟩ ?_
    refine TriL.nil (by kernel_rfl) (TriQ.next (Tri.ret (TriQ.passRet ?_)))
    exact TriQ.retU (v := .bool (decide (((((plantG ls).1.length : Nat) : Int) : Int) = (0 : Int)))) (l := []) (obl := []) [] [0] hle0 (fun _ => by kernel_rfl) trivial rfl (by kernel_rfl) (congrArg Value.bool (decide_eq_true (by rw [plantG_err h58]; rfl)))
   ·
    exact absurd (by rw [plantG_err h58]) h61
  ·
   refine Tri.skip (TriQ.next (Tri.seq (Tri.region ?_)))
   refine TriL.segK (k' := 1) (fr' := [(2, .slice A2 (ls.length) (c2)), (68, .agg #[.slice B52 ((plantG ls).1.length) (c53)])]) (obl := [b57 = b57]) [⟨[.at 2], none, none, none, none⟩] [2, 68] (fun _ _ => by kernel_rfl) ⟨rfl, trivial⟩ ?_
   have hc62 := sp_tree B52 c53 (plantG ls).1 L54 hP55 (plantG_B hB2.p) 1 (by unfold I64; decide)
   rw [(plantG_back h58)] at hc62
   refine TriL.callB (f := 26) (args := #[.agg #[.slice B52 ((plantG ls).1.length) (c53)], .int .i64 1]) (d := (some 69)) (pre := []) (R := [.abs R, .blk b1 [.slice A (ns.length) (c)] 24, .blk b57 [.slice B52 ((plantG ls).1.length) (c53)] 24]) (pk := [0, 1, 2]) (fun _ => by kernel_rfl) (hc62) rfl (by kernel_rfl) ?_
   rintro β63 _ _ hle_β63 ⟨B58, c59, M60, rfl, rfl, hT61⟩
   replace hG := hG.le hle_β63
   replace hL := hL.le hle_β63
   replace hG6 := hG6.le hle_β63
   replace hT11 := hT11.le hle_β63
   replace hO50 := hO50.le hle_β63
   replace hP55 := hP55.le hle_β63
   replace hle0 := hle0.trans hle_β63
   refine TriL.segK (k' := 7) (fr' := [(2, .slice A2 (ls.length) (c2)), (8, .int .i64 0), (13, .slice B58 (ls.length) (c59))]) (obl := []) [o_, o_, o_, o_, o_] [2, 8, 13] (fun _ _ => by kernel_rfl) trivial ?_
   refine TriL.nil (by kernel_rfl) (TriQ.next (Tri.seq (Tri.region ?_)))
   refine TriL.segK (k' := 5) (fr' := [(74, .bool true), (75, .slice B58 (ls.length) (c59)), (76, .slice A2 (ls.length) (c2))]) (obl := []) [o_, o_, o_, o_, o_] [74, 75, 76] (fun _ _ => by kernel_rfl) trivial ?_
   refine TriL.call (f := 28) (args := #[.slice B58 (ls.length) (c59), .slice A2 (ls.length) (c2)]) (d := (some 77)) (pre := []) (R := [.abs R, .blk b1 [.slice A (ns.length) (c)] 24, .blk b57 [.slice B52 ((plantG ls).1.length) (c53)] 24]) (pk := [0, 1, 2]) (fun _ => by kernel_rfl) ((sp_sameLines B58 A2 c59 c2 ls ls M60 M2 hT61 hL (by have := hB2.len; omega) (fun i hi => hB2.c.data i hi)).val (congrArg Value.bool (decide_eq_true rfl))) rfl (by kernel_rfl) ?_
   rintro _ _ ⟨rfl, rfl⟩
   refine TriL.segK (k' := 8) (fr' := [(6, .bool true)]) (obl := []) [o_, o_] [6] (fun _ _ => by kernel_rfl) trivial ?_
   refine TriL.nil (by kernel_rfl) (TriQ.next (Tri.ret ?_))
   exact TriQ.retU (v := .bool true) (l := []) (obl := []) [] [0] hle0 (fun _ => by kernel_rfl) trivial rfl (by kernel_rfl) (rfl)
end Go.Proofs.Ytjpdcppdoonmdaa
end
