/-
  PROVED HERE: graph.Tree
  CONDITIONS: as the theorems say. Printed by a program of this repo (wip/v).
-/
import Derived.Test.YtjpdcppdoonmdaaGX
namespace Go.Proofs.Ytjpdcppdoonmdaa
open Go.RowKit
attribute [local irreducible] TriL TriLQ Tri TriQ
set_option maxRecDepth 100000 in
set_option maxHeartbeats 4000000 in
theorem sp_tree {β : Bs} (A : Option Addr) (c : Nat) (ns : List NodeM) (L : Lay) (hG : GraphAt β A ns L) (hB : GraphB ns 1048576) (root : Int) (hz : I64 root) :
    SpecB Try.prog β 26 #[.agg #[.slice A ns.length c], .int .i64 root] [] (fun β' v l => ∃ B cap M', v = .tuple #[.slice B (treeG ns root).1.length cap, .int .i64 (treeG ns root).2] ∧ l = [] ∧ LinesAt β' B (treeG ns root).1 M') := by
  refine SpecB.enter Try.func26 rfl Try.ntmps26 (Nat.le_of_ble_eq_true rfl) (fun hle0 R => ?_)
  refine Tri.seq ?_
  refine Tri.region ?_
  refine TriL.segN (k' := 3) (fr' := fun b1 => [(1, .int .i64 (root)), (2, .pointer (some ⟨b1, 0, none⟩))]) (hps' := fun b1 => [.abs R, .blk b1 [.slice A (ns.length) (c)] 24]) (obl := fun b1 => []) [o_, o_, o_] [1, 2] [0, 1] (fun _ _ => by kernel_rfl) (fun b1 => trivial) (fun b1 => ?_)
  refine TriL.nil (by kernel_rfl) ?_
  refine TriQ.next ?_
  refine Tri.seq ?_
  refine Tri.region ?_
  refine TriL.segK (k' := 2) (fr' := [(11, .agg #[.slice A (ns.length) (c)]), (12, .int .i64 (root))]) (obl := [b1 = b1]) [⟨[.at 1], none, none, none, none⟩, o_] [11, 12] (fun _ _ => by kernel_rfl) ⟨rfl, trivial⟩ ?_
  refine TriL.call (f := 42) (args := #[.agg #[.slice A (ns.length) (c)], .int .i64 (root)]) (d := (some 13)) (pre := []) (R := [.abs R, .blk b1 [.slice A (ns.length) (c)] 24]) (pk := [0, 1]) (fun _ => by kernel_rfl) (sp_begin A c ns L hG hB root hz) rfl (by kernel_rfl) ?_
  rintro _ _ (⟨mb, rfl, hbg, rfl⟩ | ⟨x, y, rfl, hbg, rfl⟩)
  · obtain ⟨hok, hat, hkd⟩ := beginC_zero hbg
    have htl := atI_lt hat
    refine TriL.segK (k' := 10) (fr' := [(6, .map (some mb)), (7, .pointer (some ⟨(blkOf A), offOf A + (tgt ns root) * 10, none⟩)), (8, .int .i64 0)]) (obl := []) [o_, o_, o_, o_, o_, o_, o_] [6, 7, 8] (fun _ _ => by kernel_rfl) trivial ?_
    refine TriL.nil (by kernel_rfl) ?_
    refine TriQ.next ?_
    refine Tri.seq ?_
    refine Tri.seq ?_
    refine Tri.region ?_
    refine TriL.segK (k' := 2) (fr' := [(6, .map (some mb)), (7, .pointer (some ⟨(blkOf A), offOf A + (tgt ns root) * 10, none⟩)), (8, .int .i64 0), (18, .bool false)]) (obl := []) [o_, o_] [6, 7, 8, 18] (fun _ _ => by kernel_rfl) trivial ?_
    refine TriL.nil (by kernel_rfl) ?_
    refine TriQ.next ?_
    refine Tri.condF (fun _ => by kernel_rfl) ?_
    refine Tri.skip ?_
    refine TriQ.next ?_
    refine Tri.seq ?_
    refine Tri.region ?_
    refine TriL.segK (k' := 1) (fr' := [(7, .pointer (some ⟨(blkOf A), offOf A + (tgt ns root) * 10, none⟩)), (20, .map (some mb))]) (obl := []) [o_] [7, 20] (fun _ _ => by kernel_rfl) trivial ?_
    refine TriL.mapMake (d := (some 21)) (t := 82) (fun _ => by kernel_rfl) Try.prog rfl 3 (fun m2 => ?_)
    refine TriL.segN (k' := 5) (fr' := fun b3 => [(7, .pointer (some ⟨(blkOf A), offOf A + (tgt ns root) * 10, none⟩)), (9, .pointer (some ⟨b3, 0, none⟩))]) (hps' := fun b3 => [.abs (MapA Try.prog 3 mb (mf (bf A ns ns.length)) ns.length), .abs R, .blk b1 [.slice A (ns.length) (c)] 24, .abs (MapA Try.prog 3 m2 (fun _ => none) 0), .blk b3 [.map (some mb), .slice none (0) (0), .map (some m2), .int .i64 0] 84]) (obl := fun b3 => [b3 = b3, b3 = b3, b3 = b3, b3 = b3]) [o_, o_, ⟨[.at 4, .at 4, .at 4, .at 4], none, none, none, none⟩] [7, 9] [0, 1, 2, 3, 4] (fun _ _ => by kernel_rfl) (fun b3 => ⟨rfl, rfl, rfl, rfl, trivial⟩) (fun b3 => ?_)
    refine TriL.nil (by kernel_rfl) ?_
    refine TriQ.next ?_
    refine Tri.seq ?_
    refine Tri.seq ?_
    refine Tri.region ?_
    refine TriL.segK (k' := 1) (fr' := [(9, .pointer (some ⟨b3, 0, none⟩)), (23, .pointer (some ⟨(blkOf A), offOf A + (tgt ns root) * 10, none⟩))]) (obl := []) [o_] [9, 23] (fun _ _ => by kernel_rfl) trivial ?_
    refine TriL.partEq 3 (p := .abs (MapA Try.prog 3 m2 (fun _ => none) 0)) (p' := .abs (MapA Try.prog 3 m2 (mf (fpath ns TS0.fst)) 0)) (by kernel_rfl) (by rw [fpath_zero]) ?_
    refine TriL.mem (fun w hS => hS.rowNil (e := 51) (size := 10)) ?_
    have hcall5 := sp_addAll 4194305 _ A ns L ⟨fun _ => none, fun _ => 0⟩ TS0 (tgt ns root) ⟨#[46]⟩ b3 mb m2 none 0 hG hB hok LinesIn.nil htl.1 (by decide) (by decide) TS0_ok (by decide)
    refine TriL.callB (d := (some 24)) (R := [.abs R, .blk b1 [.slice A (ns.length) (c)] 24]) (pk := [4, 0, 3, 5, 1, 2]) (fun _ => by kernel_rfl) hcall5 rfl (by kernel_rfl) ?_
    rintro β4 _ _ hle_β4 (⟨s3, Ao3, co3, M3, hadd, rfl, hLI3, rfl⟩ | ⟨hadd, rfl, rfl⟩)
    · replace hG := hG.le hle_β4
      replace hle0 := hle0.trans hle_β4
      refine TriL.segK (k' := 3) (fr' := [(9, .pointer (some ⟨b3, 0, none⟩)), (25, .bool false)]) (obl := []) [o_] [9, 25] (fun _ _ => by kernel_rfl) trivial ?_
      refine TriL.nil (by kernel_rfl) ?_
      refine TriQ.next ?_
      refine Tri.condF (fun _ => by kernel_rfl) ?_
      refine Tri.skip ?_
      refine TriQ.next ?_
      refine Tri.seq ?_
      refine Tri.region ?_
      refine TriL.rebase (Φ := fun β' => RowB β' Ao3 (linesV M3 s3.out)) 3 [0, 1, 2, 4, 5] (hps' := [.blk b3 [.map (some mb), .slice Ao3 (s3.out.length) (co3), .map (some m2), .int .i64 (((s3.sum : Nat) : Int))] 84, .abs (MapA Try.prog 3 mb (mf (bf A ns ns.length)) ns.length), .abs (MapA Try.prog 3 m2 (mf (fpath ns s3.fst)) s3.cnt), .abs R, .blk b1 [.slice A (ns.length) (c)] 24]) rfl rfl (by kernel_rfl) (fun F w h β' h1 h2 => RowB.of_row h h1 h2) (fun β6 hle_β6 hR => ?_)
      replace hG := hG.le hle_β6
      replace hLI3 := hLI3.le hle_β6
      replace hle0 := hle0.trans hle_β6
      refine TriL.segK (k' := 4) (fr' := [(4, .slice Ao3 (s3.out.length) (co3)), (5, .int .i64 0)]) (obl := [b3 = b3]) [o_, ⟨[.at 0], none, none, none, none⟩, o_, o_] [4, 5] (fun _ _ => by kernel_rfl) ⟨rfl, trivial⟩ ?_
      refine TriL.nil (by kernel_rfl) ?_
      refine TriQ.next ?_
      refine Tri.ret ?_
      exact TriQ.retB (v := .tuple #[.slice Ao3 (s3.out.length) (co3), .int .i64 0]) (l := []) (obl := []) [] [3] hle0 (fun _ => by kernel_rfl) trivial rfl (by kernel_rfl) (⟨Ao3, co3, M3, by rw [treeG_some hbg hadd], rfl, by rw [treeG_some hbg hadd]; exact ⟨hR, hLI3⟩⟩)
    · replace hG := hG.le hle_β4
      replace hle0 := hle0.trans hle_β4
      refine TriL.segK (k' := 3) (fr' := [(9, .pointer (some ⟨b3, 0, none⟩)), (25, .bool true)]) (obl := []) [o_] [9, 25] (fun _ _ => by kernel_rfl) trivial ?_
      refine TriL.nil (by kernel_rfl) ?_
      refine TriQ.next ?_
      refine Tri.condT (fun _ => by kernel_rfl) ?_
      refine Tri.seq ?_
      refine Tri.region ?_
      refine TriL.segK (k' := 2) (fr' := [(4, .slice none (0) (0)), (5, .int .i64 142)]) (obl := []) [o_, o_] [4, 5] (fun _ _ => by kernel_rfl) trivial ?_
      refine TriL.nil (by kernel_rfl) ?_
      refine TriQ.next ?_
      refine Tri.ret ?_
      refine TriQ.passRet ?_
      exact TriQ.retB (v := .tuple #[.slice none (0) (0), .int .i64 142]) (l := []) (obl := []) [] [0] hle0 (fun _ => by kernel_rfl) trivial rfl (by kernel_rfl) (⟨none, 0, ⟨fun _ => none, fun _ => 0⟩, by rw [treeG_none hbg hadd]; rfl, rfl, by rw [treeG_none hbg hadd]; exact ⟨RowB.nil, LinesIn.nil⟩⟩)
  · refine TriL.segK (k' := 10) (fr' := [(6, x), (7, y), (8, .int .i64 ((beginC ns root)))]) (obl := []) [o_, o_, o_, o_, o_, o_, o_] [6, 7, 8] (fun _ _ => by kernel_rfl) trivial ?_
    refine TriL.nil (by kernel_rfl) ?_
    refine TriQ.next ?_
    refine Tri.seq ?_
    refine Tri.seq ?_
    refine Tri.region ?_
    refine TriL.segK (k' := 2) (fr' := [(6, x), (7, y), (8, .int .i64 ((beginC ns root))), (18, .bool (!(decide (((beginC ns root) : Int) = (0 : Int)))))]) (obl := []) [o_, o_] [6, 7, 8, 18] (fun _ _ => by kernel_rfl) trivial ?_
    refine TriL.nil (by kernel_rfl) ?_
    refine TriQ.next ?_
    refine Tri.condN (p := ((beginC ns root) : Int) = (0 : Int)) (fun _ => by kernel_rfl) (fun h18 => ?_) (fun h18 => ?_)
    · refine Tri.seq ?_
      refine Tri.region ?_
      refine TriL.segK (k' := 3) (fr' := [(4, .slice none (0) (0)), (5, .int .i64 ((beginC ns root)))]) (obl := []) [o_, o_, o_] [4, 5] (fun _ _ => by kernel_rfl) trivial ?_
      refine TriL.nil (by kernel_rfl) ?_
      refine TriQ.next ?_
      refine Tri.ret ?_
      refine TriQ.passRet ?_
      exact TriQ.retB (v := .tuple #[.slice none (0) (0), .int .i64 ((beginC ns root))]) (l := []) (obl := []) [] [0] hle0 (fun _ => by kernel_rfl) trivial rfl (by kernel_rfl) (⟨none, 0, ⟨fun _ => none, fun _ => 0⟩, by rw [treeG_bad hbg]; rfl, rfl, by rw [treeG_bad hbg]; exact ⟨RowB.nil, LinesIn.nil⟩⟩)
    · exact absurd h18 hbg
end Go.Proofs.Ytjpdcppdoonmdaa
