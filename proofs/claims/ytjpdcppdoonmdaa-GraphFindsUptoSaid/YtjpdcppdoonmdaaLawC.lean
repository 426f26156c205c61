/-
  PROVED HERE: the law GraphFinds
  CONDITIONS: as the theorems say. Printed by a program of this repo (wip/v).
-/
import Derived.Test.YtjpdcppdoonmdaaGQ
namespace Go.Proofs.Ytjpdcppdoonmdaa
open Go.RowKit
attribute [local irreducible] TriL TriLQ Tri TriQ
set_option maxRecDepth 100000 in
set_option maxHeartbeats 4000000 in
theorem law_finds (W : World) (A : Option Addr) (c : Nat) (ns : List NodeM) (L : Lay) (hG : GraphAt (B0 W) A ns L) (hB : GraphB ns 1048576) (root : Int) (hz : I64 root) (F : Option Addr) (cF : Nat) (ps : List ByteArray) (hP : StrsAt (B0 W) F ps) (hPl : ps.length ≤ 1048576) :
    Spec Try.prog (B0 W) 5 #[.agg #[.slice A (ns.length) (c)], .int .i64 (root), .slice F (ps.length) (cF)] [] (fun v _ => v = .bool true) := by
  have hle0 := B0.refl W
  refine Spec.enter Try.func5 rfl Try.ntmps5 (Nat.le_of_ble_eq_true rfl) (fun R => ?_)
  refine Tri.seq ?_
  refine Tri.region ?_
  refine TriL.segN (k' := 2) (fr' := fun b1 => [(1, .int .i64 (root)), (2, .slice F (ps.length) (cF)), (3, .pointer (some ⟨b1, 0, none⟩))]) (hps' := fun b1 => [.abs R, .blk b1 [.slice A (ns.length) (c)] 24]) (obl := fun b1 => []) [o_, o_] [1, 2, 3] [0, 1] (fun _ _ => by kernel_rfl) (fun b1 => trivial) (fun b1 => ?_)
  show TriL _ _ _ _ _ [(1, .int .i64 (root)), (2, .slice F (ps.length) (cF)), (3, .pointer (some ⟨b1, 0, none⟩))] [.abs R, .blk b1 [.slice A (ns.length) (c)] 24] _
  refine TriL.nil (by kernel_rfl) ?_
  refine TriQ.next ?_
  refine Tri.seq ?_
  refine Tri.seq ?_
  refine Tri.region ?_
  refine TriL.callB (f := 21) (args := #[]) (d := (some 13)) (pre := []) (R := [.abs R, .blk b1 [.slice A (ns.length) (c)] 24]) (pk := [0, 1]) (fun _ => by kernel_rfl) (sp_alive) rfl (by kernel_rfl) ?_
  rintro β2 _ _ hle_β2 ⟨rfl, rfl⟩
  replace hG := hG.le hle_β2
  replace hP := hP.le hle_β2
  replace hle0 := hle0.trans hle_β2
  refine TriL.seg (k' := 2) (fr' := [(1, .int .i64 (root)), (2, .slice F (ps.length) (cF)), (3, .pointer (some ⟨b1, 0, none⟩)), (14, .bool false)]) (hps' := [.abs R, .blk b1 [.slice A (ns.length) (c)] 24]) (obl := []) [o_] [1, 2, 3, 14] [0, 1] (fun _ _ => by kernel_rfl) trivial ?_
  refine TriL.nil (by kernel_rfl) ?_
  refine TriQ.next ?_
  refine Tri.condF (fun _ => by kernel_rfl) ?_
  refine Tri.skip ?_
  refine TriQ.next ?_
  refine Tri.seq ?_
  refine Tri.region ?_
  refine TriL.seg (k' := 1) (fr' := [(1, .int .i64 (root)), (2, .slice F (ps.length) (cF)), (3, .pointer (some ⟨b1, 0, none⟩)), (15, .agg #[.slice A (ns.length) (c)])]) (hps' := [.abs R, .blk b1 [.slice A (ns.length) (c)] 24]) (obl := [b1 = b1]) [⟨[.at 1], none, none, none, none⟩] [1, 2, 3, 15] [0, 1] (fun _ _ => by kernel_rfl) ⟨rfl, trivial⟩ ?_
  refine TriL.callB (f := 15) (args := #[.agg #[.slice A (ns.length) (c)]]) (d := (some 16)) (pre := []) (R := [.abs R, .blk b1 [.slice A (ns.length) (c)] 24]) (pk := [0, 1]) (fun _ => by kernel_rfl) (sp_copyGraph A c ns L hG hB.hl hB.hd) rfl (by kernel_rfl) ?_
  rintro β7 _ _ hle_β7 ⟨B3, c4, L5, rfl, rfl, hG6⟩
  replace hG := hG.le hle_β7
  replace hP := hP.le hle_β7
  replace hle0 := hle0.trans hle_β7
  refine TriL.segN (k' := 4) (fr' := fun b8 => [(1, .int .i64 (root)), (2, .slice F (ps.length) (cF)), (3, .pointer (some ⟨b1, 0, none⟩)), (7, .pointer (some ⟨b8, 0, none⟩))]) (hps' := fun b8 => [.abs R, .blk b1 [.slice A (ns.length) (c)] 24, .blk b8 [.slice B3 (ns.length) (c4)] 24]) (obl := fun b8 => [b8 = b8]) [o_, ⟨[.at 2], none, none, none, none⟩] [1, 2, 3, 7] [0, 1, 2] (fun _ _ => by kernel_rfl) (fun b8 => ⟨rfl, trivial⟩) (fun b8 => ?_)
  show TriL _ _ _ _ _ [(1, .int .i64 (root)), (2, .slice F (ps.length) (cF)), (3, .pointer (some ⟨b1, 0, none⟩)), (7, .pointer (some ⟨b8, 0, none⟩))] [.abs R, .blk b1 [.slice A (ns.length) (c)] 24, .blk b8 [.slice B3 (ns.length) (c4)] 24] _
  refine TriL.nil (by kernel_rfl) ?_
  refine TriQ.next ?_
  refine Tri.seq ?_
  refine Tri.region ?_
  refine TriL.seg (k' := 1) (fr' := [(1, .int .i64 (root)), (2, .slice F (ps.length) (cF)), (3, .pointer (some ⟨b1, 0, none⟩)), (7, .pointer (some ⟨b8, 0, none⟩)), (17, .slice F (ps.length) (cF))]) (hps' := [.abs R, .blk b1 [.slice A (ns.length) (c)] 24, .blk b8 [.slice B3 (ns.length) (c4)] 24]) (obl := []) [o_] [1, 2, 3, 7, 17] [0, 1, 2] (fun _ _ => by kernel_rfl) trivial ?_
  refine TriL.callB (f := 22) (args := #[.slice F (ps.length) (cF)]) (d := (some 18)) (pre := []) (R := [.abs R, .blk b1 [.slice A (ns.length) (c)] 24, .blk b8 [.slice B3 (ns.length) (c4)] 24]) (pk := [0, 1, 2]) (fun _ => by kernel_rfl) (sp_copyTexts F cF ps hP hPl) rfl (by kernel_rfl) ?_
  rintro β9 _ _ hle_β9 ⟨F2, c2, rfl, rfl, hP2⟩
  replace hG := hG.le hle_β9
  replace hP := hP.le hle_β9
  replace hG6 := hG6.le hle_β9
  replace hle0 := hle0.trans hle_β9
  refine TriL.seg (k' := 3) (fr' := [(1, .int .i64 (root)), (2, .slice F (ps.length) (cF)), (3, .pointer (some ⟨b1, 0, none⟩)), (7, .pointer (some ⟨b8, 0, none⟩)), (8, .slice F2 (ps.length) (c2))]) (hps' := [.abs R, .blk b1 [.slice A (ns.length) (c)] 24, .blk b8 [.slice B3 (ns.length) (c4)] 24]) (obl := []) [o_] [1, 2, 3, 7, 8] [0, 1, 2] (fun _ _ => by kernel_rfl) trivial ?_
  refine TriL.nil (by kernel_rfl) ?_
  refine TriQ.next ?_
  refine Tri.seq ?_
  refine Tri.region ?_
  refine TriL.seg (k' := 3) (fr' := [(1, .int .i64 (root)), (2, .slice F (ps.length) (cF)), (3, .pointer (some ⟨b1, 0, none⟩)), (7, .pointer (some ⟨b8, 0, none⟩)), (8, .slice F2 (ps.length) (c2)), (20, .agg #[.slice B3 (ns.length) (c4)]), (21, .int .i64 (root)), (22, .slice F2 (ps.length) (c2))]) (hps' := [.abs R, .blk b1 [.slice A (ns.length) (c)] 24, .blk b8 [.slice B3 (ns.length) (c4)] 24]) (obl := [b8 = b8]) [⟨[.at 2], none, none, none, none⟩, o_, o_] [1, 2, 3, 7, 8, 20, 21, 22] [0, 1, 2] (fun _ _ => by kernel_rfl) ⟨rfl, trivial⟩ ?_
  refine TriL.call (f := 23) (args := #[.agg #[.slice B3 (ns.length) (c4)], .int .i64 (root), .slice F2 (ps.length) (c2)]) (d := (some 23)) (pre := []) (R := [.abs R, .blk b1 [.slice A (ns.length) (c)] 24, .blk b8 [.slice B3 (ns.length) (c4)] 24]) (pk := [0, 1, 2]) (fun _ => by kernel_rfl) (sp_find B3 c4 ns L5 hG6 hB root hz F2 c2 ps hP2 hPl) rfl (by kernel_rfl) ?_
  rintro _ _ ⟨rfl, rfl⟩
  refine TriL.seg (k' := 9) (fr' := [(1, .int .i64 (root)), (2, .slice F (ps.length) (cF)), (3, .pointer (some ⟨b1, 0, none⟩)), (7, .pointer (some ⟨b8, 0, none⟩)), (8, .slice F2 (ps.length) (c2)), (9, .int .i64 ((findG ns root ps).1)), (10, .int .i64 ((findG ns root ps).2))]) (hps' := [.abs R, .blk b1 [.slice A (ns.length) (c)] 24, .blk b8 [.slice B3 (ns.length) (c4)] 24]) (obl := []) [o_, o_, o_, o_, o_] [1, 2, 3, 7, 8, 9, 10] [0, 1, 2] (fun _ _ => by kernel_rfl) trivial ?_
  refine TriL.nil (by kernel_rfl) ?_
  refine TriQ.next ?_
  refine Tri.seq ?_
  refine Tri.region ?_
  refine TriL.seg (k' := 3) (fr' := [(2, .slice F (ps.length) (cF)), (3, .pointer (some ⟨b1, 0, none⟩)), (7, .pointer (some ⟨b8, 0, none⟩)), (8, .slice F2 (ps.length) (c2)), (9, .int .i64 ((findG ns root ps).1)), (10, .int .i64 ((findG ns root ps).2)), (27, .agg #[.slice A (ns.length) (c)]), (28, .int .i64 (root)), (29, .slice F (ps.length) (cF))]) (hps' := [.abs R, .blk b1 [.slice A (ns.length) (c)] 24, .blk b8 [.slice B3 (ns.length) (c4)] 24]) (obl := [b1 = b1]) [⟨[.at 1], none, none, none, none⟩, o_, o_] [2, 3, 7, 8, 9, 10, 27, 28, 29] [0, 1, 2] (fun _ _ => by kernel_rfl) ⟨rfl, trivial⟩ ?_
  refine TriL.call (f := 24) (args := #[.agg #[.slice A (ns.length) (c)], .int .i64 (root), .slice F (ps.length) (cF)]) (d := (some 30)) (pre := []) (R := [.abs R, .blk b1 [.slice A (ns.length) (c)] 24, .blk b8 [.slice B3 (ns.length) (c4)] 24]) (pk := [0, 1, 2]) (fun _ => by kernel_rfl) (sp_refFind A c ns L hG hB root F cF ps hP hPl) rfl (by kernel_rfl) ?_
  rintro _ _ ⟨rfl, rfl⟩
  refine TriL.seg (k' := 9) (fr' := [(2, .slice F (ps.length) (cF)), (3, .pointer (some ⟨b1, 0, none⟩)), (7, .pointer (some ⟨b8, 0, none⟩)), (8, .slice F2 (ps.length) (c2)), (9, .int .i64 ((findG ns root ps).1)), (10, .int .i64 ((findG ns root ps).2)), (11, .int .i64 ((findG ns root ps).1)), (12, .int .i64 ((findG ns root ps).2))]) (hps' := [.abs R, .blk b1 [.slice A (ns.length) (c)] 24, .blk b8 [.slice B3 (ns.length) (c4)] 24]) (obl := []) [o_, o_, o_, o_, o_] [2, 3, 7, 8, 9, 10, 11, 12] [0, 1, 2] (fun _ _ => by kernel_rfl) trivial ?_
  refine TriL.nil (by kernel_rfl) ?_
  refine TriQ.next ?_
  refine Tri.seq ?_
  refine Tri.region ?_
  refine TriL.seg (k' := 11) (fr' := [(2, .slice F (ps.length) (cF)), (8, .slice F2 (ps.length) (c2)), (41, .bool true), (42, .agg #[.slice B3 (ns.length) (c4)]), (43, .agg #[.slice A (ns.length) (c)])]) (hps' := [.abs R, .blk b1 [.slice A (ns.length) (c)] 24, .blk b8 [.slice B3 (ns.length) (c4)] 24]) (obl := [b1 = b1, b8 = b8, (Value.bool (decide (((findG ns root ps).2 : Int) = ((findG ns root ps).2 : Int)))) = (.bool true), (Value.bool (decide (((findG ns root ps).1 : Int) = ((findG ns root ps).1 : Int)))) = (.bool true)]) [o_, o_, ⟨[], none, none, none, some (.bool true)⟩, o_, o_, o_, ⟨[], none, none, none, some (.bool true)⟩, o_, o_, ⟨[.at 2], none, none, none, none⟩, ⟨[.at 1], none, none, none, none⟩] [2, 8, 41, 42, 43] [0, 1, 2] (fun _ _ => by kernel_rfl) ⟨rfl, rfl, by simp, by simp, trivial⟩ ?_
  refine TriL.call (f := 17) (args := #[.agg #[.slice B3 (ns.length) (c4)], .agg #[.slice A (ns.length) (c)]]) (d := (some 44)) (pre := []) (R := [.abs R, .blk b1 [.slice A (ns.length) (c)] 24, .blk b8 [.slice B3 (ns.length) (c4)] 24]) (pk := [0, 1, 2]) (fun _ => by kernel_rfl) ((sp_sameGraph B3 A c4 c ns ns L5 L hG6 hG hB.hl hB.hd).val (congrArg Value.bool (decide_eq_true rfl))) rfl (by kernel_rfl) ?_
  rintro _ _ ⟨rfl, rfl⟩
  refine TriL.seg (k' := 16) (fr' := [(46, .bool true), (47, .slice F2 (ps.length) (c2)), (48, .slice F (ps.length) (cF))]) (hps' := [.abs R, .blk b1 [.slice A (ns.length) (c)] 24, .blk b8 [.slice B3 (ns.length) (c4)] 24]) (obl := []) [o_, o_, o_, o_] [46, 47, 48] [0, 1, 2] (fun _ _ => by kernel_rfl) trivial ?_
  refine TriL.call (f := 25) (args := #[.slice F2 (ps.length) (c2), .slice F (ps.length) (cF)]) (d := (some 49)) (pre := []) (R := [.abs R, .blk b1 [.slice A (ns.length) (c)] 24, .blk b8 [.slice B3 (ns.length) (c4)] 24]) (pk := [0, 1, 2]) (fun _ => by kernel_rfl) ((sp_sameTexts F2 F c2 cF ps ps hP2 hP hPl).val (congrArg Value.bool (decide_eq_true rfl))) rfl (by kernel_rfl) ?_
  rintro _ _ ⟨rfl, rfl⟩
  refine TriL.seg (k' := 19) (fr' := [(6, .bool true)]) (hps' := [.abs R, .blk b1 [.slice A (ns.length) (c)] 24, .blk b8 [.slice B3 (ns.length) (c4)] 24]) (obl := []) [o_, o_] [6] [0, 1, 2] (fun _ _ => by kernel_rfl) trivial ?_
  refine TriL.nil (by kernel_rfl) ?_
  refine TriQ.next ?_
  refine Tri.ret ?_
  exact TriQ.retU (v := .bool true) (l := []) (obl := []) [] [0] hle0 (fun _ => by kernel_rfl) trivial rfl (by kernel_rfl) (rfl)
end Go.Proofs.Ytjpdcppdoonmdaa
