/-
  PROVED HERE: the law GraphChecks, in the logic
  CONDITIONS: as the theorems say. Printed by a program of this repo (wip/v).
-/
import Derived.Test.YtjpdcppdoonmdaaGW
namespace Go.Proofs.Ytjpdcppdoonmdaa
open Go.RowKit
attribute [local irreducible] TriL TriLQ Tri TriQ
set_option maxRecDepth 100000 in
set_option maxHeartbeats 4000000 in
theorem law_checks (W : World) (A : Option Addr) (c : Nat) (ns : List NodeM) (L : Lay) (hG : GraphAt (B0 W) A ns L) (hB : GraphB ns 1048576) :
    Spec Try.prog (B0 W) 3 #[.agg #[.slice A (ns.length) (c)]] [] (fun v _ => v = .bool true) := by
  have hle0 := B0.refl W
  refine Spec.enter Try.func3 rfl Try.ntmps3 (Nat.le_of_ble_eq_true rfl) (fun R => ?_)
  refine Tri.seq ?_
  refine Tri.region ?_
  refine TriL.segN (k' := 2) (fr' := fun b1 => [(1, .pointer (some ⟨b1, 0, none⟩))]) (hps' := fun b1 => [.abs R, .blk b1 [.slice A (ns.length) (c)] 24]) (obl := fun b1 => []) [o_, o_] [1] [0, 1] (fun _ _ => by kernel_rfl) (fun b1 => trivial) (fun b1 => ?_)
  show TriL _ _ _ _ _ [(1, .pointer (some ⟨b1, 0, none⟩))] [.abs R, .blk b1 [.slice A (ns.length) (c)] 24] _
  refine TriL.nil (by kernel_rfl) ?_
  refine TriQ.next ?_
  refine Tri.seq ?_
  refine Tri.seq ?_
  refine Tri.region ?_
  refine TriL.segN (k' := 3) (fr' := fun b2 => [(1, .pointer (some ⟨b1, 0, none⟩)), (6, .agg #[.slice (some ⟨b2, 0, none⟩) (1) (1)])]) (hps' := fun b2 => [.abs R, .blk b1 [.slice A (ns.length) (c)] 24, .blk b2 [.int .i64 0, .int .i64 0, .int .i64 0, .int .i64 0, .int .i64 0, .int .i64 0, .int .i64 0, .slice none (0) (0), .string ⟨#[]⟩, .slice none (0) (0)] 32]) (obl := fun b2 => []) [o_, o_, o_] [1, 6] [0, 1, 2] (fun _ _ => by kernel_rfl) (fun b2 => trivial) (fun b2 => ?_)
  show TriL _ _ _ _ _ [(1, .pointer (some ⟨b1, 0, none⟩)), (6, .agg #[.slice (some ⟨b2, 0, none⟩) (1) (1)])] [.abs R, .blk b1 [.slice A (ns.length) (c)] 24, .blk b2 [.int .i64 0, .int .i64 0, .int .i64 0, .int .i64 0, .int .i64 0, .int .i64 0, .int .i64 0, .slice none (0) (0), .string ⟨#[]⟩, .slice none (0) (0)] 32] _
  refine TriL.mem (fun w hS => hS.toRow (i := 2) (b := b2) (cs := [.int .i64 0, .int .i64 0, .int .i64 0, .int .i64 0, .int .i64 0, .int .i64 0, .int .i64 0, .slice none (0) (0), .string ⟨#[]⟩, .slice none (0) (0)]) (e := 32) 10 1 (by kernel_rfl) rfl (by decide)) ?_
  refine TriL.rebase (Φ := fun β' => GraphAt β' (some ⟨b2, 0, none⟩) [zeroNode] L0) 2 [0, 1] (hps' := [.abs R, .blk b1 [.slice A (ns.length) (c)] 24]) rfl rfl (by kernel_rfl) (fun F w h β' h1 h2 => GraphAt.flat (RowB.of_row h h1 h2) zero_flat) (fun β3 hle_β3 hZ => ?_)
  replace hG := hG.le hle_β3
  replace hle0 := hle0.trans hle_β3
  refine TriL.call (f := 14) (args := #[.agg #[.slice (some ⟨b2, 0, none⟩) (1) (1)]]) (d := (some 7)) (pre := []) (R := [.abs R, .blk b1 [.slice A (ns.length) (c)] 24]) (pk := [0, 1]) (fun _ => by kernel_rfl) ((sp_check (some ⟨b2, 0, none⟩) 1 [zeroNode] L0 hZ zero_bound.hl zero_bound.hd zero_bound.hwf zero_bound.hnm).val (congrArg (Value.int .i64) (if_neg zero_bad))) rfl (by kernel_rfl) ?_
  rintro _ _ ⟨rfl, rfl⟩
  refine TriL.seg (k' := 5) (fr' := [(1, .pointer (some ⟨b1, 0, none⟩)), (8, .bool false)]) (hps' := [.abs R, .blk b1 [.slice A (ns.length) (c)] 24]) (obl := []) [o_] [1, 8] [0, 1] (fun _ _ => by kernel_rfl) trivial ?_
  refine TriL.nil (by kernel_rfl) ?_
  refine TriQ.next ?_
  refine Tri.condF (fun _ => by kernel_rfl) ?_
  refine Tri.skip ?_
  refine TriQ.next ?_
  refine Tri.seq ?_
  refine Tri.region ?_
  refine TriL.seg (k' := 1) (fr' := [(1, .pointer (some ⟨b1, 0, none⟩)), (9, .agg #[.slice A (ns.length) (c)])]) (hps' := [.abs R, .blk b1 [.slice A (ns.length) (c)] 24]) (obl := [b1 = b1]) [⟨[.at 1], none, none, none, none⟩] [1, 9] [0, 1] (fun _ _ => by kernel_rfl) ⟨rfl, trivial⟩ ?_
  refine TriL.callB (f := 15) (args := #[.agg #[.slice A (ns.length) (c)]]) (d := (some 10)) (pre := []) (R := [.abs R, .blk b1 [.slice A (ns.length) (c)] 24]) (pk := [0, 1]) (fun _ => by kernel_rfl) (sp_copyGraph A c ns L hG hB.hl hB.hd) rfl (by kernel_rfl) ?_
  rintro β8 _ _ hle_β8 ⟨B4, c5, L6, rfl, rfl, hG7⟩
  replace hG := hG.le hle_β8
  replace hZ := hZ.le hle_β8
  replace hle0 := hle0.trans hle_β8
  refine TriL.segN (k' := 4) (fr' := fun b9 => [(1, .pointer (some ⟨b1, 0, none⟩)), (3, .pointer (some ⟨b9, 0, none⟩))]) (hps' := fun b9 => [.abs R, .blk b1 [.slice A (ns.length) (c)] 24, .blk b9 [.slice B4 (ns.length) (c5)] 24]) (obl := fun b9 => [b9 = b9]) [o_, ⟨[.at 2], none, none, none, none⟩] [1, 3] [0, 1, 2] (fun _ _ => by kernel_rfl) (fun b9 => ⟨rfl, trivial⟩) (fun b9 => ?_)
  show TriL _ _ _ _ _ [(1, .pointer (some ⟨b1, 0, none⟩)), (3, .pointer (some ⟨b9, 0, none⟩))] [.abs R, .blk b1 [.slice A (ns.length) (c)] 24, .blk b9 [.slice B4 (ns.length) (c5)] 24] _
  refine TriL.nil (by kernel_rfl) ?_
  refine TriQ.next ?_
  refine Tri.seq ?_
  refine Tri.regionQ (by kernel_rfl) (by kernel_rfl) ?_
  refine TriLQ.seg (k' := 1) (fr' := [(1, .pointer (some ⟨b1, 0, none⟩)), (3, .pointer (some ⟨b9, 0, none⟩)), (11, .agg #[.slice B4 (ns.length) (c5)])]) (obl := [b9 = b9]) [⟨[.at 2], none, none, none, none⟩] [1, 3, 11] (fun _ _ => by kernel_rfl) ⟨rfl, trivial⟩ ?_
  refine TriLQ.call (f := 14) (args := #[.agg #[.slice B4 (ns.length) (c5)]]) (d := (some 12)) (pre := []) (R := [.abs R, .blk b1 [.slice A (ns.length) (c)] 24, .blk b9 [.slice B4 (ns.length) (c5)] 24]) (pk := [0, 1, 2]) (pk' := [0, 1, 2]) (v0 := .int .i64 ((if GraphOk ns then 0 else 140))) (fun _ => by kernel_rfl) (sp_check B4 c5 ns L6 hG7 hB.hl hB.hd hB.hwf hB.hnm) rfl (by kernel_rfl) rfl (by kernel_rfl) (fun _ _ h => h) ?_
  refine TriLQ.seg (k' := 3) (fr' := [(1, .pointer (some ⟨b1, 0, none⟩)), (3, .pointer (some ⟨b9, 0, none⟩)), (12, .int .i64 ((if GraphOk ns then 0 else 140))), (13, .agg #[.slice A (ns.length) (c)])]) (obl := [b1 = b1]) [⟨[.at 1], none, none, none, none⟩] [1, 3, 12, 13] (fun _ _ => by kernel_rfl) ⟨rfl, trivial⟩ ?_
  refine TriLQ.call (f := 16) (args := #[.agg #[.slice A (ns.length) (c)]]) (d := (some 14)) (pre := []) (R := [.abs R, .blk b1 [.slice A (ns.length) (c)] 24, .blk b9 [.slice B4 (ns.length) (c5)] 24]) (pk := [0, 1, 2]) (pk' := [0, 1, 2]) (v0 := .int .i64 ((if GraphOk ns then 0 else 140))) (fun _ => by kernel_rfl) (sp_refCheck A c ns L hG hB.hl hB.hd hB.hwf hB.hnm hB.ht) rfl (by kernel_rfl) rfl (by kernel_rfl) (fun _ _ h => h) ?_
  refine TriLQ.seg (k' := 8) (fr' := [(16, .bool true), (17, .agg #[.slice B4 (ns.length) (c5)]), (18, .agg #[.slice A (ns.length) (c)])]) (obl := [b1 = b1, b9 = b9, (Value.bool (decide (((if GraphOk ns then 0 else 140) : Int) = ((if GraphOk ns then 0 else 140) : Int)))) = (.bool true)]) [⟨[], none, none, none, some (.bool true)⟩, o_, ⟨[.at 2], none, none, none, none⟩, ⟨[.at 1], none, none, none, none⟩] [16, 17, 18] (fun _ _ => by kernel_rfl) ⟨rfl, rfl, by simp, trivial⟩ ?_
  refine TriLQ.call (f := 17) (args := #[.agg #[.slice B4 (ns.length) (c5)], .agg #[.slice A (ns.length) (c)]]) (d := (some 19)) (pre := []) (R := [.abs R, .blk b1 [.slice A (ns.length) (c)] 24, .blk b9 [.slice B4 (ns.length) (c5)] 24]) (pk := [0, 1, 2]) (pk' := [0, 1, 2]) (v0 := .bool true) (fun _ => by kernel_rfl) ((sp_sameGraph B4 A c5 c ns ns L6 L hG7 hG hB.hl hB.hd).val (congrArg Value.bool (decide_eq_true rfl))) rfl (by kernel_rfl) rfl (by kernel_rfl) (fun _ _ h => h) ?_
  refine TriLQ.seg (k' := 11) (fr' := [(2, .bool true)]) (obl := []) [o_, o_] [2] (fun _ _ => by kernel_rfl) trivial ?_
  refine TriLQ.nil (by kernel_rfl) ?_
  refine TriQ.next ?_
  refine Tri.ret ?_
  exact TriQ.retU (v := .bool true) (l := []) (obl := []) [] [0] hle0 (fun _ => by kernel_rfl) trivial rfl (by kernel_rfl) (rfl)
end Go.Proofs.Ytjpdcppdoonmdaa
