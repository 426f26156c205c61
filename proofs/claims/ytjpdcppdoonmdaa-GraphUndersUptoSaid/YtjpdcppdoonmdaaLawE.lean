/-
  PROVED HERE: the law GraphUnders
  CONDITIONS: as the theorems say. Printed by a program of this repo (wip/v).
-/
import Derived.Test.YtjpdcppdoonmdaaGUnderR
namespace Go.Proofs.Ytjpdcppdoonmdaa
open Go.RowKit
attribute [local irreducible] TriL TriLQ Tri TriQ
set_option maxRecDepth 100000 in
set_option maxHeartbeats 4000000 in
theorem law_unders (W : World) (A : Option Addr) (c : Nat) (ns : List NodeM) (L : Lay) (hG : GraphAt (B0 W) A ns L) (hB : GraphB ns 1048576) (root : Int) (hz : I64 root) :
    Spec Try.prog (B0 W) 11 #[.agg #[.slice A (ns.length) (c)], .int .i64 (root)] [] (fun v _ => v = .bool true) := by
  have hle0 := B0.refl W
  refine Spec.enter Try.func11 rfl Try.ntmps11 (Nat.le_of_ble_eq_true rfl) (fun R => ?_)
  refine Tri.seq ?_
  refine Tri.region ?_
  refine TriL.segN (k' := 2) (fr' := fun b1 => [(1, .int .i64 (root)), (2, .pointer (some ⟨b1, 0, none⟩))]) (hps' := fun b1 => [.abs R, .blk b1 [.slice A (ns.length) (c)] 24]) (obl := fun b1 => []) [o_, o_] [1, 2] [0, 1] (fun _ _ => by kernel_rfl) (fun b1 => trivial) (fun b1 => ?_)
  refine TriL.nil (by kernel_rfl) ?_
  refine TriQ.next ?_
  refine Tri.seq ?_
  refine Tri.seq ?_
  refine Tri.region ?_
  refine TriL.callB (f := 21) (args := #[]) (d := (some 10)) (pre := []) (R := [.abs R, .blk b1 [.slice A (ns.length) (c)] 24]) (pk := [0, 1]) (fun _ => by kernel_rfl) (sp_alive) rfl (by kernel_rfl) ?_
  rintro β2 _ _ hle_β2 ⟨rfl, rfl⟩
  replace hG := hG.le hle_β2
  replace hle0 := hle0.trans hle_β2
  refine TriL.segK (k' := 2) (fr' := [(1, .int .i64 (root)), (2, .pointer (some ⟨b1, 0, none⟩)), (11, .bool false)]) (obl := []) [o_] [1, 2, 11] (fun _ _ => by kernel_rfl) trivial ?_
  refine TriL.nil (by kernel_rfl) ?_
  refine TriQ.next ?_
  refine Tri.condF (fun _ => by kernel_rfl) ?_
  refine Tri.skip ?_
  refine TriQ.next ?_
  refine Tri.seq ?_
  refine Tri.region ?_
  refine TriL.segK (k' := 1) (fr' := [(1, .int .i64 (root)), (2, .pointer (some ⟨b1, 0, none⟩)), (12, .agg #[.slice A (ns.length) (c)])]) (obl := [b1 = b1]) [⟨[.at 1], none, none, none, none⟩] [1, 2, 12] (fun _ _ => by kernel_rfl) ⟨rfl, trivial⟩ ?_
  refine TriL.callB (f := 15) (args := #[.agg #[.slice A (ns.length) (c)]]) (d := (some 13)) (pre := []) (R := [.abs R, .blk b1 [.slice A (ns.length) (c)] 24]) (pk := [0, 1]) (fun _ => by kernel_rfl) (sp_copyGraph A c ns L hG hB.hl hB.hd) rfl (by kernel_rfl) ?_
  rintro β7 _ _ hle_β7 ⟨B3, c4, L5, rfl, rfl, hG6⟩
  replace hG := hG.le hle_β7
  replace hle0 := hle0.trans hle_β7
  refine TriL.segN (k' := 4) (fr' := fun b8 => [(1, .int .i64 (root)), (2, .pointer (some ⟨b1, 0, none⟩)), (5, .pointer (some ⟨b8, 0, none⟩))]) (hps' := fun b8 => [.abs R, .blk b1 [.slice A (ns.length) (c)] 24, .blk b8 [.slice B3 (ns.length) (c4)] 24]) (obl := fun b8 => [b8 = b8]) [o_, ⟨[.at 2], none, none, none, none⟩] [1, 2, 5] [0, 1, 2] (fun _ _ => by kernel_rfl) (fun b8 => ⟨rfl, trivial⟩) (fun b8 => ?_)
  refine TriL.nil (by kernel_rfl) ?_
  refine TriQ.next ?_
  refine Tri.seq ?_
  refine Tri.region ?_
  refine TriL.segK (k' := 2) (fr' := [(1, .int .i64 (root)), (2, .pointer (some ⟨b1, 0, none⟩)), (5, .pointer (some ⟨b8, 0, none⟩)), (15, .agg #[.slice B3 (ns.length) (c4)]), (16, .int .i64 (root))]) (obl := [b8 = b8]) [⟨[.at 2], none, none, none, none⟩, o_] [1, 2, 5, 15, 16] (fun _ _ => by kernel_rfl) ⟨rfl, trivial⟩ ?_
  refine TriL.callB (f := 34) (args := #[.agg #[.slice B3 (ns.length) (c4)], .int .i64 (root)]) (d := (some 17)) (pre := []) (R := [.abs R, .blk b1 [.slice A (ns.length) (c)] 24, .blk b8 [.slice B3 (ns.length) (c4)] 24]) (pk := [0, 1, 2]) (fun _ => by kernel_rfl) (sp_under B3 c4 ns L5 hG6 hB root hz) rfl (by kernel_rfl) ?_
  rintro β12 _ _ hle_β12 ⟨B9, c10, rfl, rfl, hU11⟩
  replace hG := hG.le hle_β12
  replace hG6 := hG6.le hle_β12
  replace hle0 := hle0.trans hle_β12
  refine TriL.segK (k' := 8) (fr' := [(1, .int .i64 (root)), (2, .pointer (some ⟨b1, 0, none⟩)), (5, .pointer (some ⟨b8, 0, none⟩)), (6, .slice B9 ((underG ns root).1.length) (c10)), (7, .int .i64 ((underG ns root).2))]) (obl := []) [o_, o_, o_, o_, o_] [1, 2, 5, 6, 7] (fun _ _ => by kernel_rfl) trivial ?_
  refine TriL.nil (by kernel_rfl) ?_
  refine TriQ.next ?_
  refine Tri.seq ?_
  refine Tri.region ?_
  refine TriL.segK (k' := 2) (fr' := [(2, .pointer (some ⟨b1, 0, none⟩)), (5, .pointer (some ⟨b8, 0, none⟩)), (6, .slice B9 ((underG ns root).1.length) (c10)), (7, .int .i64 ((underG ns root).2)), (21, .agg #[.slice A (ns.length) (c)]), (22, .int .i64 (root))]) (obl := [b1 = b1]) [⟨[.at 1], none, none, none, none⟩, o_] [2, 5, 6, 7, 21, 22] (fun _ _ => by kernel_rfl) ⟨rfl, trivial⟩ ?_
  refine TriL.callB (f := 35) (args := #[.agg #[.slice A (ns.length) (c)], .int .i64 (root)]) (d := (some 23)) (pre := []) (R := [.abs R, .blk b1 [.slice A (ns.length) (c)] 24, .blk b8 [.slice B3 (ns.length) (c4)] 24]) (pk := [0, 1, 2]) (fun _ => by kernel_rfl) (sp_refUnder A c ns L hG hB root) rfl (by kernel_rfl) ?_
  rintro β16 _ _ hle_β16 ⟨B13, c14, rfl, rfl, hU15⟩
  replace hG := hG.le hle_β16
  replace hG6 := hG6.le hle_β16
  replace hU11 := hU11.le hle_β16
  replace hle0 := hle0.trans hle_β16
  refine TriL.segK (k' := 8) (fr' := [(2, .pointer (some ⟨b1, 0, none⟩)), (5, .pointer (some ⟨b8, 0, none⟩)), (6, .slice B9 ((underG ns root).1.length) (c10)), (7, .int .i64 ((underG ns root).2)), (8, .slice B13 ((underG ns root).1.length) (c14)), (9, .int .i64 ((underG ns root).2))]) (obl := []) [o_, o_, o_, o_, o_] [2, 5, 6, 7, 8, 9] (fun _ _ => by kernel_rfl) trivial ?_
  refine TriL.nil (by kernel_rfl) ?_
  refine TriQ.next ?_
  refine Tri.seq ?_
  refine Tri.region ?_
  refine TriL.segK (k' := 2) (fr' := [(2, .pointer (some ⟨b1, 0, none⟩)), (5, .pointer (some ⟨b8, 0, none⟩)), (7, .int .i64 ((underG ns root).2)), (9, .int .i64 ((underG ns root).2)), (26, .slice B9 ((underG ns root).1.length) (c10)), (27, .slice B13 ((underG ns root).1.length) (c14))]) (obl := []) [o_, o_] [2, 5, 7, 9, 26, 27] (fun _ _ => by kernel_rfl) trivial ?_
  refine TriL.call (f := 36) (args := #[.slice B9 ((underG ns root).1.length) (c10), .slice B13 ((underG ns root).1.length) (c14)]) (d := (some 28)) (pre := []) (R := [.abs R, .blk b1 [.slice A (ns.length) (c)] 24, .blk b8 [.slice B3 (ns.length) (c4)] 24]) (pk := [0, 1, 2]) (fun _ => by kernel_rfl) ((sp_sameInts B9 B13 c10 c14 _ _ hU11 hU15 (by have := underG_len ns root; have := hB.hl; omega)).val (congrArg Value.bool (decide_eq_true rfl))) rfl (by kernel_rfl) ?_
  rintro _ _ ⟨rfl, rfl⟩
  refine TriL.segK (k' := 11) (fr' := [(34, .bool true), (35, .agg #[.slice B3 (ns.length) (c4)]), (36, .agg #[.slice A (ns.length) (c)])]) (obl := [b1 = b1, b8 = b8, (Value.bool (decide (((underG ns root).2 : Int) = ((underG ns root).2 : Int)))) = (.bool true)]) [o_, o_, o_, ⟨[], none, none, none, some (.bool true)⟩, o_, o_, ⟨[.at 2], none, none, none, none⟩, ⟨[.at 1], none, none, none, none⟩] [34, 35, 36] (fun _ _ => by kernel_rfl) ⟨rfl, rfl, by simp, trivial⟩ ?_
  refine TriL.call (f := 17) (args := #[.agg #[.slice B3 (ns.length) (c4)], .agg #[.slice A (ns.length) (c)]]) (d := (some 37)) (pre := []) (R := [.abs R, .blk b1 [.slice A (ns.length) (c)] 24, .blk b8 [.slice B3 (ns.length) (c4)] 24]) (pk := [0, 1, 2]) (fun _ => by kernel_rfl) ((sp_sameGraph B3 A c4 c ns ns L5 L hG6 hG hB.hl hB.hd).val (congrArg Value.bool (decide_eq_true rfl))) rfl (by kernel_rfl) ?_
  rintro _ _ ⟨rfl, rfl⟩
  refine TriL.segK (k' := 14) (fr' := [(4, .bool true)]) (obl := []) [o_, o_] [4] (fun _ _ => by kernel_rfl) trivial ?_
  refine TriL.nil (by kernel_rfl) ?_
  refine TriQ.next ?_
  refine Tri.ret ?_
  exact TriQ.retU (v := .bool true) (l := []) (obl := []) [] [0] hle0 (fun _ => by kernel_rfl) trivial rfl (by kernel_rfl) (rfl)
end Go.Proofs.Ytjpdcppdoonmdaa
