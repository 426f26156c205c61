/-
  PROVED HERE: the little graph is made; the laws' first look
  CONDITIONS: as the theorems say. Printed by a program of this repo (wip/v).
-/
import Derived.Test.YtjpdcppdoonmdaaGY
namespace Go.Proofs.Ytjpdcppdoonmdaa
open Go.RowKit
attribute [local irreducible] TriL TriLQ Tri TriQ
set_option maxRecDepth 100000 in
set_option maxHeartbeats 4000000 in
theorem sp_little {β : Bs} : SpecB Try.prog β 19 #[] [] (fun β' v l => ∃ B L', v = .agg #[.slice B 3 3] ∧ l = [] ∧ GraphAt β' B littleM L') := by
  refine SpecB.enter Try.func19 rfl Try.ntmps19 (Nat.le_of_ble_eq_true rfl) (fun hle0 R => ?_)
  refine Tri.seq ?_
  refine Tri.region ?_
  refine TriL.segN (k' := 1) (fr' := fun b1 => [(0, .pointer (some ⟨b1, 0, none⟩))]) (hps' := fun b1 => [.abs R, .blk b1 [.slice none (0) (0)] 24]) (obl := fun b1 => []) [o_] [0] [0, 1] (fun _ _ => by kernel_rfl) (fun b1 => trivial) (fun b1 => ?_)
  refine TriL.nil (by kernel_rfl) ?_
  refine TriQ.next ?_
  refine Tri.seq ?_
  refine Tri.region ?_
  refine TriL.segN (k' := 5) (fr' := fun b2 => [(0, .pointer (some ⟨b1, 0, none⟩)), (4, .agg #[.int .i64 1, .int .i64 2, .int .i64 0, .int .i64 0, .int .i64 0, .int .i64 0, .int .i64 0, .slice none (0) (0), .string ⟨#[]⟩, .slice (some ⟨b2, 0, none⟩) (2) (2)]), (5, .agg #[.string ⟨#[99]⟩, .int .i64 7])]) (hps' := fun b2 => [.abs R, .blk b1 [.slice none (0) (0)] 24, .blk b2 [.string ⟨#[97]⟩, .int .i64 5, .string ⟨#[98]⟩, .int .i64 7] 72]) (obl := fun b2 => []) [o_, o_, o_, o_, o_] [0, 4, 5] [0, 1, 2] (fun _ _ => by kernel_rfl) (fun b2 => trivial) (fun b2 => ?_)
  refine TriL.segN (k' := 7) (fr' := fun b3 => [(0, .pointer (some ⟨b1, 0, none⟩)), (4, .agg #[.int .i64 1, .int .i64 2, .int .i64 0, .int .i64 0, .int .i64 0, .int .i64 0, .int .i64 0, .slice none (0) (0), .string ⟨#[]⟩, .slice (some ⟨b2, 0, none⟩) (2) (2)]), (7, .agg #[.int .i64 5, .int .i64 2, .int .i64 0, .int .i64 0, .int .i64 0, .int .i64 0, .int .i64 0, .slice none (0) (0), .string ⟨#[]⟩, .slice (some ⟨b3, 0, none⟩) (1) (1)])]) (hps' := fun b3 => [.abs R, .blk b1 [.slice none (0) (0)] 24, .blk b2 [.string ⟨#[97]⟩, .int .i64 5, .string ⟨#[98]⟩, .int .i64 7] 72, .blk b3 [.string ⟨#[99]⟩, .int .i64 7] 72]) (obl := fun b3 => []) [o_, o_] [0, 4, 7] [0, 1, 2, 3] (fun _ _ => by kernel_rfl) (fun b3 => trivial) (fun b3 => ?_)
  refine TriL.segN (k' := 8) (fr' := fun b4 => [(0, .pointer (some ⟨b1, 0, none⟩)), (4, .agg #[.int .i64 1, .int .i64 2, .int .i64 0, .int .i64 0, .int .i64 0, .int .i64 0, .int .i64 0, .slice none (0) (0), .string ⟨#[]⟩, .slice (some ⟨b2, 0, none⟩) (2) (2)]), (7, .agg #[.int .i64 5, .int .i64 2, .int .i64 0, .int .i64 0, .int .i64 0, .int .i64 0, .int .i64 0, .slice none (0) (0), .string ⟨#[]⟩, .slice (some ⟨b3, 0, none⟩) (1) (1)]), (8, .slice (some ⟨b4, 0, none⟩) (1) (1))]) (hps' := fun b4 => [.abs R, .blk b1 [.slice none (0) (0)] 24, .blk b2 [.string ⟨#[97]⟩, .int .i64 5, .string ⟨#[98]⟩, .int .i64 7] 72, .blk b3 [.string ⟨#[99]⟩, .int .i64 7] 72, .blk b4 [.int .u8 120] 5]) (obl := fun b4 => []) [o_] [0, 4, 7, 8] [0, 1, 2, 3, 4] (fun _ _ => by kernel_rfl) (fun b4 => trivial) (fun b4 => ?_)
  refine TriL.markBytes 4 (d := (some 9)) (t := 29) (e := 5) (T := 5) (b := b4) (o := 0) (n := 1) (c := 1) (cs := [.int .u8 120]) (x := (.tmp 8)) (fun _ => by kernel_rfl) (by kernel_rfl) (fun _ => by kernel_rfl) Try.underlying29 Try.underlying5 ?_
  refine TriL.segN (k' := 11) (fr' := fun b5 => [(0, .pointer (some ⟨b1, 0, none⟩)), (11, .slice (some ⟨b5, 0, none⟩) (3) (3))]) (hps' := fun b5 => [.abs R, .blk b1 [.slice none (0) (0)] 24, .blk b2 [.string ⟨#[97]⟩, .int .i64 5, .string ⟨#[98]⟩, .int .i64 7] 72, .blk b3 [.string ⟨#[99]⟩, .int .i64 7] 72, .abs (FrozA b4 [.int .u8 120] 5), .blk b5 [.int .i64 1, .int .i64 2, .int .i64 0, .int .i64 0, .int .i64 0, .int .i64 0, .int .i64 0, .slice none (0) (0), .string ⟨#[]⟩, .slice (some ⟨b2, 0, none⟩) (2) (2), .int .i64 5, .int .i64 2, .int .i64 0, .int .i64 0, .int .i64 0, .int .i64 0, .int .i64 0, .slice none (0) (0), .string ⟨#[]⟩, .slice (some ⟨b3, 0, none⟩) (1) (1), .int .i64 7, .int .i64 1, .int .i64 0, .int .i64 0, .int .i64 0, .int .i64 0, .int .i64 0, .slice (some ⟨b4, 0, none⟩) (1) (1), .string ⟨#[]⟩, .slice none (0) (0)] 32]) (obl := fun b5 => []) [o_, o_] [0, 11] [0, 1, 2, 3, 4, 5] (fun _ _ => by kernel_rfl) (fun b5 => trivial) (fun b5 => ?_)
  refine TriL.mem (fun w hS => hS.toRow (i := 2) (b := b2) (cs := [.string ⟨#[97]⟩, .int .i64 5, .string ⟨#[98]⟩, .int .i64 7]) (e := 72) 2 2 (by kernel_rfl) rfl (by decide)) ?_
  refine TriL.rebase (Φ := fun β' => EntsAt β' (some ⟨b2, 0, none⟩) little1.ents) 2 [0, 1, 3, 4, 5] (hps' := [.abs R, .blk b1 [.slice none (0) (0)] 24, .blk b3 [.string ⟨#[99]⟩, .int .i64 7] 72, .abs (FrozA b4 [.int .u8 120] 5), .blk b5 [.int .i64 1, .int .i64 2, .int .i64 0, .int .i64 0, .int .i64 0, .int .i64 0, .int .i64 0, .slice none (0) (0), .string ⟨#[]⟩, .slice (some ⟨b2, 0, none⟩) (2) (2), .int .i64 5, .int .i64 2, .int .i64 0, .int .i64 0, .int .i64 0, .int .i64 0, .int .i64 0, .slice none (0) (0), .string ⟨#[]⟩, .slice (some ⟨b3, 0, none⟩) (1) (1), .int .i64 7, .int .i64 1, .int .i64 0, .int .i64 0, .int .i64 0, .int .i64 0, .int .i64 0, .slice (some ⟨b4, 0, none⟩) (1) (1), .string ⟨#[]⟩, .slice none (0) (0)] 32]) rfl rfl (by kernel_rfl) (fun F w h β' h1 h2 => RowB.of_row h h1 h2) (fun β6 hle_β6 hE1 => ?_)
  replace hle0 := hle0.trans hle_β6
  refine TriL.mem (fun w hS => hS.toRow (i := 2) (b := b3) (cs := [.string ⟨#[99]⟩, .int .i64 7]) (e := 72) 2 1 (by kernel_rfl) rfl (by decide)) ?_
  refine TriL.rebase (Φ := fun β' => EntsAt β' (some ⟨b3, 0, none⟩) little2.ents) 2 [0, 1, 3, 4] (hps' := [.abs R, .blk b1 [.slice none (0) (0)] 24, .abs (FrozA b4 [.int .u8 120] 5), .blk b5 [.int .i64 1, .int .i64 2, .int .i64 0, .int .i64 0, .int .i64 0, .int .i64 0, .int .i64 0, .slice none (0) (0), .string ⟨#[]⟩, .slice (some ⟨b2, 0, none⟩) (2) (2), .int .i64 5, .int .i64 2, .int .i64 0, .int .i64 0, .int .i64 0, .int .i64 0, .int .i64 0, .slice none (0) (0), .string ⟨#[]⟩, .slice (some ⟨b3, 0, none⟩) (1) (1), .int .i64 7, .int .i64 1, .int .i64 0, .int .i64 0, .int .i64 0, .int .i64 0, .int .i64 0, .slice (some ⟨b4, 0, none⟩) (1) (1), .string ⟨#[]⟩, .slice none (0) (0)] 32]) rfl rfl (by kernel_rfl) (fun F w h β' h1 h2 => RowB.of_row h h1 h2) (fun β7 hle_β7 hE2 => ?_)
  replace hE1 := hE1.le hle_β7
  replace hle0 := hle0.trans hle_β7
  refine TriL.rebase (Φ := fun β' => BytesAt β' (some ⟨b4, 0, none⟩) little3.data) 2 [0, 1, 3] (hps' := [.abs R, .blk b1 [.slice none (0) (0)] 24, .blk b5 [.int .i64 1, .int .i64 2, .int .i64 0, .int .i64 0, .int .i64 0, .int .i64 0, .int .i64 0, .slice none (0) (0), .string ⟨#[]⟩, .slice (some ⟨b2, 0, none⟩) (2) (2), .int .i64 5, .int .i64 2, .int .i64 0, .int .i64 0, .int .i64 0, .int .i64 0, .int .i64 0, .slice none (0) (0), .string ⟨#[]⟩, .slice (some ⟨b3, 0, none⟩) (1) (1), .int .i64 7, .int .i64 1, .int .i64 0, .int .i64 0, .int .i64 0, .int .i64 0, .int .i64 0, .slice (some ⟨b4, 0, none⟩) (1) (1), .string ⟨#[]⟩, .slice none (0) (0)] 32]) rfl rfl (by kernel_rfl) (fun F w h β' h1 h2 => RowB.of_froz (n := 1) h h1 h2) (fun β8 hle_β8 hE3 => ?_)
  replace hE1 := hE1.le hle_β8
  replace hE2 := hE2.le hle_β8
  replace hle0 := hle0.trans hle_β8
  refine TriL.mem (fun w hS => hS.toRow (i := 2) (b := b5) (cs := [.int .i64 1, .int .i64 2, .int .i64 0, .int .i64 0, .int .i64 0, .int .i64 0, .int .i64 0, .slice none (0) (0), .string ⟨#[]⟩, .slice (some ⟨b2, 0, none⟩) (2) (2), .int .i64 5, .int .i64 2, .int .i64 0, .int .i64 0, .int .i64 0, .int .i64 0, .int .i64 0, .slice none (0) (0), .string ⟨#[]⟩, .slice (some ⟨b3, 0, none⟩) (1) (1), .int .i64 7, .int .i64 1, .int .i64 0, .int .i64 0, .int .i64 0, .int .i64 0, .int .i64 0, .slice (some ⟨b4, 0, none⟩) (1) (1), .string ⟨#[]⟩, .slice none (0) (0)]) (e := 32) 10 3 (by kernel_rfl) rfl (by decide)) ?_
  refine TriL.rebase (Φ := fun β' => RowB β' (some ⟨b5, 0, none⟩) (nodesV (littleL b2 b3 b4) littleM)) 2 [0, 1] (hps' := [.abs R, .blk b1 [.slice none (0) (0)] 24]) rfl rfl (by kernel_rfl) (fun F w h β' h1 h2 => RowB.of_row h h1 h2) (fun β9 hle_β9 hR => ?_)
  replace hE1 := hE1.le hle_β9
  replace hE2 := hE2.le hle_β9
  replace hE3 := hE3.le hle_β9
  replace hle0 := hle0.trans hle_β9
  refine TriL.seg (k' := 13) (fr' := [(0, .pointer (some ⟨b1, 0, none⟩))]) (hps' := [.abs R, .blk b1 [.slice (some ⟨b5, 0, none⟩) (3) (3)] 24]) (obl := [b1 = b1]) [o_, ⟨[.at 1], none, none, none, none⟩] [0] [0, 1] (fun _ _ => by kernel_rfl) ⟨rfl, trivial⟩ ?_
  refine TriL.nil (by kernel_rfl) ?_
  refine TriQ.next ?_
  refine Tri.ret ?_
  exact TriQ.retB (v := .agg #[.slice (some ⟨b5, 0, none⟩) (3) (3)]) (l := []) (obl := [b1 = b1]) [.at 1] [0] hle0 (fun _ => by kernel_rfl) ⟨rfl, trivial⟩ rfl (by kernel_rfl) (⟨_, littleL b2 b3 b4, rfl, rfl, GraphAt.little hR hE1 hE2 hE3⟩)
set_option maxRecDepth 100000 in
set_option maxHeartbeats 4000000 in
theorem sp_alive {β : Bs} : SpecB Try.prog β 21 #[] [] (fun _ v l => v = .bool true ∧ l = []) := by
  refine SpecB.enter Try.func21 rfl Try.ntmps21 (Nat.le_of_ble_eq_true rfl) (fun hle0 R => ?_)
  refine Tri.seq ?_
  refine Tri.region ?_
  refine TriL.segK (k' := 1) (fr' := []) (obl := []) [o_] [] (fun _ _ => by kernel_rfl) trivial ?_
  refine TriL.nil (by kernel_rfl) ?_
  refine TriQ.next ?_
  refine Tri.seq ?_
  refine Tri.region ?_
  refine TriL.callB (f := 19) (args := #[]) (d := (some 4)) (pre := []) (R := [.abs R]) (pk := [0]) (fun _ => by kernel_rfl) (sp_little) rfl (by kernel_rfl) ?_
  rintro β1 _ _ hle_β1 ⟨B, L, rfl, rfl, hG⟩
  replace hle0 := hle0.trans hle_β1
  refine TriL.segN (k' := 2) (fr' := fun b10 => [(4, .agg #[.slice B (3) (3)]), (5, .slice (some ⟨b10, 0, none⟩) (2) (2))]) (hps' := fun b10 => [.abs R, .blk b10 [.string ⟨#[97]⟩, .string ⟨#[99]⟩] 9]) (obl := fun b10 => []) [o_] [4, 5] [0, 1] (fun _ _ => by kernel_rfl) (fun b10 => trivial) (fun b10 => ?_)
  refine TriL.mem (fun w hS => hS.toRow (i := 1) (b := b10) (cs := [.string ⟨#[97]⟩, .string ⟨#[99]⟩]) (e := 9) 1 2 (by kernel_rfl) rfl (by decide)) ?_
  refine TriL.rebase (Φ := fun β' => StrsAt β' (some ⟨b10, 0, none⟩) [ltA, ltC]) 1 [0] (hps' := [.abs R]) rfl rfl (by kernel_rfl) (fun F w h β' h1 h2 => RowB.of_row h h1 h2) (fun β2 hle_β2 hS => ?_)
  replace hG := hG.le hle_β2
  replace hle0 := hle0.trans hle_β2
  refine TriL.call (f := 23) (args := #[.agg #[.slice B (3) (3)], .int .i64 1, .slice (some ⟨b10, 0, none⟩) (2) (2)]) (d := (some 6)) (pre := []) (R := [.abs R]) (pk := [0]) (fun _ => by kernel_rfl) ((sp_find B 3 littleM L hG little_bound 1 (i64_small (by decide)) (some ⟨b10, 0, none⟩) 2 [ltA, ltC] hS (by decide)).val (congrArg (fun z : Int × Int => Value.tuple #[.int .i64 z.1, .int .i64 z.2]) little_find)) rfl (by kernel_rfl) ?_
  rintro _ _ ⟨rfl, rfl⟩
  refine TriL.segK (k' := 8) (fr' := [(1, .int .i64 7), (2, .int .i64 0)]) (obl := []) [o_, o_, o_, o_, o_] [1, 2] (fun _ _ => by kernel_rfl) trivial ?_
  refine TriL.nil (by kernel_rfl) ?_
  refine TriQ.next ?_
  refine Tri.seq ?_
  refine Tri.region ?_
  refine TriL.segK (k' := 7) (fr' := [(0, .bool true)]) (obl := []) [o_, o_, o_, o_, o_, o_, o_] [0] (fun _ _ => by kernel_rfl) trivial ?_
  refine TriL.nil (by kernel_rfl) ?_
  refine TriQ.next ?_
  refine Tri.ret ?_
  exact TriQ.retB (v := .bool true) (l := []) (obl := []) [] [0] hle0 (fun _ => by kernel_rfl) trivial rfl (by kernel_rfl) (⟨rfl, rfl⟩)
end Go.Proofs.Ytjpdcppdoonmdaa
