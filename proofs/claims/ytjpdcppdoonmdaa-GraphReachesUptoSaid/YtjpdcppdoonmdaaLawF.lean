/-
  PROVED HERE: the law GraphReaches
  CONDITIONS: as the theorems say. Printed by a program of this repo (wip/v).
-/
import Derived.Test.YtjpdcppdoonmdaaGRc
namespace Go.Proofs.Ytjpdcppdoonmdaa
open Go.RowKit
attribute [local irreducible] TriL TriLQ Tri TriQ
set_option maxRecDepth 100000 in
set_option maxHeartbeats 4000000 in
theorem law_reaches (W : World) (A : Option Addr) (c : Nat) (ns : List NodeM) (L : Lay) (hG : GraphAt (B0 W) A ns L) (hB : GraphB ns 1048576) (root : Int) (hz : I64 root) (F : Option Addr) (cF : Nat) (ps : List ByteArray) (hP : StrsAt (B0 W) F ps) (hPl : ps.length ≤ 1048576) :
    Spec Try.prog (B0 W) 12 #[.agg #[.slice A (ns.length) (c)], .int .i64 (root), .slice F (ps.length) (cF)] [] (fun v _ => v = .bool true) := by
  have hle0 := B0.refl W
  refine Spec.enter Try.func12 rfl Try.ntmps12 (Nat.le_of_ble_eq_true rfl) (fun R => ?_)
  refine Tri.seq ?_
  refine Tri.region ?_
  refine TriL.segN (k' := 2) (fr' := fun b1 => [(1, .int .i64 (root)), (2, .slice F (ps.length) (cF)), (3, .pointer (some ⟨b1, 0, none⟩))]) (hps' := fun b1 => [.abs R, .blk b1 [.slice A (ns.length) (c)] 24]) (obl := fun b1 => []) [o_, o_] [1, 2, 3] [0, 1] (fun _ _ => by kernel_rfl) (fun b1 => trivial) (fun b1 => ?_)
  refine TriL.nil (by kernel_rfl) ?_
  refine TriQ.next ?_
  refine Tri.seq ?_
  refine Tri.seq ?_
  refine Tri.region ?_
  refine TriL.callB (f := 21) (args := #[]) (d := (some 16)) (pre := []) (R := [.abs R, .blk b1 [.slice A (ns.length) (c)] 24]) (pk := [0, 1]) (fun _ => by kernel_rfl) (sp_alive) rfl (by kernel_rfl) ?_
  rintro β2 _ _ hle_β2 ⟨rfl, rfl⟩
  replace hG := hG.le hle_β2
  replace hP := hP.le hle_β2
  replace hle0 := hle0.trans hle_β2
  refine TriL.segK (k' := 2) (fr' := [(1, .int .i64 (root)), (2, .slice F (ps.length) (cF)), (3, .pointer (some ⟨b1, 0, none⟩)), (17, .bool false)]) (obl := []) [o_] [1, 2, 3, 17] (fun _ _ => by kernel_rfl) trivial ?_
  refine TriL.nil (by kernel_rfl) ?_
  refine TriQ.next ?_
  refine Tri.condF (fun _ => by kernel_rfl) ?_
  refine Tri.skip ?_
  refine TriQ.next ?_
  refine Tri.seq ?_
  refine Tri.region ?_
  refine TriL.segK (k' := 1) (fr' := [(1, .int .i64 (root)), (2, .slice F (ps.length) (cF)), (3, .pointer (some ⟨b1, 0, none⟩)), (19, .agg #[.slice A (ns.length) (c)])]) (obl := [b1 = b1]) [⟨[.at 1], none, none, none, none⟩] [1, 2, 3, 19] (fun _ _ => by kernel_rfl) ⟨rfl, trivial⟩ ?_
  refine TriL.callB (f := 15) (args := #[.agg #[.slice A (ns.length) (c)]]) (d := (some 20)) (pre := []) (R := [.abs R, .blk b1 [.slice A (ns.length) (c)] 24]) (pk := [0, 1]) (fun _ => by kernel_rfl) (sp_copyGraph A c ns L hG hB.hl hB.hd) rfl (by kernel_rfl) ?_
  rintro β7 _ _ hle_β7 ⟨B3, c4, L5, rfl, rfl, hG6⟩
  replace hG := hG.le hle_β7
  replace hP := hP.le hle_β7
  replace hle0 := hle0.trans hle_β7
  refine TriL.segK (k' := 4) (fr' := [(1, .int .i64 (root)), (3, .pointer (some ⟨b1, 0, none⟩)), (20, .agg #[.slice B3 (ns.length) (c4)]), (21, .int .i64 (root)), (22, .slice F (ps.length) (cF))]) (obl := []) [o_, o_] [1, 3, 20, 21, 22] (fun _ _ => by kernel_rfl) trivial ?_
  refine TriL.callB (f := 22) (args := #[.slice F (ps.length) (cF)]) (d := (some 23)) (pre := []) (R := [.abs R, .blk b1 [.slice A (ns.length) (c)] 24]) (pk := [0, 1]) (fun _ => by kernel_rfl) (sp_copyTexts F cF ps hP hPl) rfl (by kernel_rfl) ?_
  rintro β8 _ _ hle_β8 ⟨F2, c2, rfl, rfl, hP2⟩
  replace hG := hG.le hle_β8
  replace hP := hP.le hle_β8
  replace hG6 := hG6.le hle_β8
  replace hle0 := hle0.trans hle_β8
  refine TriL.call (f := 23) (args := #[.agg #[.slice B3 (ns.length) (c4)], .int .i64 (root), .slice F2 (ps.length) (c2)]) (d := (some 24)) (pre := []) (R := [.abs R, .blk b1 [.slice A (ns.length) (c)] 24]) (pk := [0, 1]) (fun _ => by kernel_rfl) (sp_find B3 c4 ns L5 hG6 hB root hz F2 c2 ps hP2 hPl) rfl (by kernel_rfl) ?_
  rintro _ _ ⟨rfl, rfl⟩
  refine TriL.segK (k' := 11) (fr' := [(1, .int .i64 (root)), (3, .pointer (some ⟨b1, 0, none⟩)), (7, .int .i64 ((findG ns root ps).1)), (8, .int .i64 ((findG ns root ps).2))]) (obl := []) [o_, o_, o_, o_, o_] [1, 3, 7, 8] (fun _ _ => by kernel_rfl) trivial ?_
  refine TriL.nil (by kernel_rfl) ?_
  refine TriQ.next ?_
  refine Tri.seq ?_
  refine Tri.region ?_
  refine TriL.segK (k' := 1) (fr' := [(1, .int .i64 (root)), (3, .pointer (some ⟨b1, 0, none⟩)), (7, .int .i64 ((findG ns root ps).1)), (8, .int .i64 ((findG ns root ps).2)), (28, .agg #[.slice A (ns.length) (c)])]) (obl := [b1 = b1]) [⟨[.at 1], none, none, none, none⟩] [1, 3, 7, 8, 28] (fun _ _ => by kernel_rfl) ⟨rfl, trivial⟩ ?_
  refine TriL.callB (f := 15) (args := #[.agg #[.slice A (ns.length) (c)]]) (d := (some 29)) (pre := []) (R := [.abs R, .blk b1 [.slice A (ns.length) (c)] 24]) (pk := [0, 1]) (fun _ => by kernel_rfl) (sp_copyGraph A c ns L hG hB.hl hB.hd) rfl (by kernel_rfl) ?_
  rintro β13 _ _ hle_β13 ⟨B9, c10, L11, rfl, rfl, hG12⟩
  replace hG := hG.le hle_β13
  replace hP := hP.le hle_β13
  replace hG6 := hG6.le hle_β13
  replace hP2 := hP2.le hle_β13
  replace hle0 := hle0.trans hle_β13
  refine TriL.segK (k' := 3) (fr' := [(3, .pointer (some ⟨b1, 0, none⟩)), (7, .int .i64 ((findG ns root ps).1)), (8, .int .i64 ((findG ns root ps).2)), (29, .agg #[.slice B9 (ns.length) (c10)]), (30, .int .i64 (root))]) (obl := []) [o_] [3, 7, 8, 29, 30] (fun _ _ => by kernel_rfl) trivial ?_
  refine TriL.callB (f := 34) (args := #[.agg #[.slice B9 (ns.length) (c10)], .int .i64 (root)]) (d := (some 31)) (pre := []) (R := [.abs R, .blk b1 [.slice A (ns.length) (c)] 24]) (pk := [0, 1]) (fun _ => by kernel_rfl) (sp_under B9 c10 ns L11 hG12 hB root hz) rfl (by kernel_rfl) ?_
  rintro β17 _ _ hle_β17 ⟨B14, c15, rfl, rfl, hU16⟩
  replace hG := hG.le hle_β17
  replace hP := hP.le hle_β17
  replace hG6 := hG6.le hle_β17
  replace hP2 := hP2.le hle_β17
  replace hG12 := hG12.le hle_β17
  replace hle0 := hle0.trans hle_β17
  refine TriL.segK (k' := 9) (fr' := [(3, .pointer (some ⟨b1, 0, none⟩)), (7, .int .i64 ((findG ns root ps).1)), (8, .int .i64 ((findG ns root ps).2)), (9, .slice B14 ((underG ns root).1.length) (c15)), (10, .int .i64 ((underG ns root).2))]) (obl := []) [o_, o_, o_, o_, o_] [3, 7, 8, 9, 10] (fun _ _ => by kernel_rfl) trivial ?_
  refine TriL.nil (by kernel_rfl) ?_
  refine TriQ.next ?_
  refine Tri.seq ?_
  refine Tri.seq ?_
  refine Tri.region ?_
  refine TriL.segK (k' := 2) (fr' := [(3, .pointer (some ⟨b1, 0, none⟩)), (7, .int .i64 ((findG ns root ps).1)), (9, .slice B14 ((underG ns root).1.length) (c15)), (10, .int .i64 ((underG ns root).2)), (35, .bool (!(decide (((findG ns root ps).2 : Int) = (0 : Int)))))]) (obl := []) [o_, o_] [3, 7, 9, 10, 35] (fun _ _ => by kernel_rfl) trivial ?_
  refine TriL.nil (by kernel_rfl) ?_
  refine TriQ.next ?_
  refine Tri.condN (p := ((findG ns root ps).2 : Int) = (0 : Int)) (fun _ => by kernel_rfl) (fun h35 => ?_) (fun h35 => ?_)
  · refine Tri.seq ?_
    refine Tri.region ?_
    refine TriL.segK (k' := 3) (fr' := [(6, .bool (decide (((findG ns root ps).1 : Int) = (0 : Int))))]) (obl := []) [o_, o_, o_] [6] (fun _ _ => by kernel_rfl) trivial ?_
    refine TriL.nil (by kernel_rfl) ?_
    refine TriQ.next ?_
    refine Tri.ret ?_
    refine TriQ.passRet ?_
    exact TriQ.retU (v := .bool (decide (((findG ns root ps).1 : Int) = (0 : Int)))) (l := []) (obl := []) [] [0] hle0 (fun _ => by kernel_rfl) trivial rfl (by kernel_rfl) (congrArg Value.bool (decide_eq_true (findG_zero h35)))
  · refine Tri.skip ?_
    refine TriQ.next ?_
    refine Tri.seq ?_
    refine Tri.seq ?_
    refine Tri.region ?_
    refine TriL.segK (k' := 2) (fr' := [(3, .pointer (some ⟨b1, 0, none⟩)), (7, .int .i64 ((findG ns root ps).1)), (9, .slice B14 ((underG ns root).1.length) (c15)), (39, .bool (!(decide (((underG ns root).2 : Int) = (0 : Int)))))]) (obl := []) [o_, o_] [3, 7, 9, 39] (fun _ _ => by kernel_rfl) trivial ?_
    refine TriL.nil (by kernel_rfl) ?_
    refine TriQ.next ?_
    refine Tri.condN (p := ((underG ns root).2 : Int) = (0 : Int)) (fun _ => by kernel_rfl) (fun h39 => ?_) (fun h39 => ?_)
    · exact absurd (by rw [underG_ok (findG_begin h35)]) h39
    · refine Tri.skip ?_
      refine TriQ.next ?_
      refine Tri.seq ?_
      refine Tri.region ?_
      refine TriL.segK (k' := 1) (fr' := [(7, .int .i64 ((findG ns root ps).1)), (9, .slice B14 ((underG ns root).1.length) (c15)), (41, .agg #[.slice A (ns.length) (c)])]) (obl := [b1 = b1]) [⟨[.at 1], none, none, none, none⟩] [7, 9, 41] (fun _ _ => by kernel_rfl) ⟨rfl, trivial⟩ ?_
      refine TriL.callB (f := 15) (args := #[.agg #[.slice A (ns.length) (c)]]) (d := (some 42)) (pre := []) (R := [.abs R, .blk b1 [.slice A (ns.length) (c)] 24]) (pk := [0, 1]) (fun _ => by kernel_rfl) (sp_copyGraph A c ns L hG hB.hl hB.hd) rfl (by kernel_rfl) ?_
      rintro β22 _ _ hle_β22 ⟨B18, c19, L20, rfl, rfl, hG21⟩
      replace hG := hG.le hle_β22
      replace hP := hP.le hle_β22
      replace hG6 := hG6.le hle_β22
      replace hP2 := hP2.le hle_β22
      replace hG12 := hG12.le hle_β22
      replace hU16 := hU16.le hle_β22
      replace hle0 := hle0.trans hle_β22
      refine TriL.segK (k' := 3) (fr' := [(7, .int .i64 ((findG ns root ps).1)), (9, .slice B14 ((underG ns root).1.length) (c15)), (42, .agg #[.slice B18 (ns.length) (c19)]), (43, .int .i64 ((findG ns root ps).1))]) (obl := []) [o_] [7, 9, 42, 43] (fun _ _ => by kernel_rfl) trivial ?_
      refine TriL.call (f := 34) (args := #[.agg #[.slice B18 (ns.length) (c19)], .int .i64 ((findG ns root ps).1)]) (d := (some 44)) (pre := []) (R := [.abs R, .blk b1 [.slice A (ns.length) (c)] 24]) (pk := [0, 1]) (fun _ => by kernel_rfl) (sp_underOwn B18 c19 ns L20 hG21 hB (findG ns root ps).1 (findG_i64 hB)) rfl (by kernel_rfl) ?_
      rintro _ _ ⟨B23, c24, rfl, rfl⟩
      refine TriL.segK (k' := 9) (fr' := [(7, .int .i64 ((findG ns root ps).1)), (9, .slice B14 ((underG ns root).1.length) (c15)), (11, .slice B23 ((underG ns (findG ns root ps).1).1.length) (c24))]) (obl := []) [o_, o_, o_, o_, o_] [7, 9, 11] (fun _ _ => by kernel_rfl) trivial ?_
      refine TriL.nil (by kernel_rfl) ?_
      refine TriQ.next ?_
      refine Tri.seq ?_
      refine Tri.region ?_
      refine TriL.segN (k' := 3) (fr' := fun b25 => [(9, .slice B14 ((underG ns root).1.length) (c15)), (47, .slice B23 ((underG ns (findG ns root ps).1).1.length) (c24)), (49, .slice (some ⟨b25, 0, none⟩) (1) (1))]) (hps' := fun b25 => [.abs (RowA 3 1 B23 ((underG ns (findG ns root ps).1).1.length) c24 (intsV (underG ns (findG ns root ps).1).1)), .abs R, .blk b1 [.slice A (ns.length) (c)] 24, .blk b25 [.int .i64 ((findG ns root ps).1)] 3]) (obl := fun b25 => []) [o_, o_, o_] [9, 47, 49] [0, 1, 2, 3] (fun _ _ => by kernel_rfl) (fun b25 => trivial) (fun b25 => ?_)
      refine TriL.append 0 (d := (some 50)) (t := 60) (e := 3) (z := .int .i64 0) (size := 1) (bytes := 8) (n := (underG ns (findG ns root ps).1).1.length) (cap := c24) (A := B23) (xs := (intsV (underG ns (findG ns root ps).1).1)) (s := (.tmp 47)) (x := (.tmp 49)) (ats := #[60, 60]) (A' := some ⟨b25, 0, none⟩) (m := 1) (c' := 1) (news := [.int .i64 ((findG ns root ps).1)]) (fun _ => by kernel_rfl) rfl (by kernel_rfl) (fun _ => by kernel_rfl) (fun _ => by kernel_rfl) Try.underlying60 (by kernel_rfl) rfl (by decide) (rfl) (by simp [Value.oneCell']) (src_blk (j := 3) rfl) (by unfold maxLen; have := underG_len ns (findG ns root ps).1; have := hB.hl; omega) (by have := underG_len ns (findG ns root ps).1; have := hB.hl; omega) (fun A26 c27 => ?_)
      refine TriL.partEq 0 (p := .abs (RowA 3 1 A26 (((underG ns (findG ns root ps).1).1.length) + 1) c27 ((intsV (underG ns (findG ns root ps).1).1) ++ [.int .i64 ((findG ns root ps).1)]))) (p' := .abs (RowA 3 1 A26 (((underG ns (findG ns root ps).1).1 ++ [(findG ns root ps).1]).length) c27 (intsV ((underG ns (findG ns root ps).1).1 ++ [(findG ns root ps).1])))) (by kernel_rfl) (by rw [intsV_snoc, len_snoc]) ?_
      refine TriL.slot 50 (.slice A26 (((underG ns (findG ns root ps).1).1.length) + 1) (c27)) (.slice A26 (((underG ns (findG ns root ps).1).1 ++ [(findG ns root ps).1]).length) (c27)) (fun _ => by kernel_rfl) (by rw [len_snoc]) ?_
      refine TriL.segK (k' := 5) (fr' := [(9, .slice B14 ((underG ns root).1.length) (c15)), (11, .slice A26 (((underG ns (findG ns root ps).1).1 ++ [(findG ns root ps).1]).length) (c27))]) (obl := []) [o_] [9, 11] (fun _ _ => by kernel_rfl) trivial ?_
      refine TriL.nil (by kernel_rfl) ?_
      refine TriQ.next ?_
      refine Tri.seq ?_
      refine Tri.seq ?_
      refine Tri.region ?_
      refine TriL.tell (p := (A26 = some ⟨blkOf A26, offOf A26, none⟩)) (fun w hS => let ⟨F, h⟩ := hS.get (i := 0) rfl; (RowA.headB h (by rw [len_snoc]; omega)).1) (fun hAb => ?_)
      have hul := underG_len ns root
      have hll := hB.hl
      have hbl : ((underG ns (findG ns root ps).1).1 ++ [(findG ns root ps).1]).length = (underG ns (findG ns root ps).1).1.length + 1 := len_snoc _ _
      have hul2 := underG_len ns (findG ns root ps).1
      have hrc := reaches h35
      refine TriL.segK (k' := 1) (fr' := [(9, .slice B14 ((underG ns root).1.length) (c15)), (11, .slice A26 (((underG ns (findG ns root ps).1).1 ++ [(findG ns root ps).1]).length) (c27)), (13, .int .i64 0)]) (obl := []) [o_] [9, 11, 13] (fun _ _ => by kernel_rfl) trivial ?_
      refine TriL.nil (by kernel_rfl) ?_
      refine TriQ.next ?_
      refine Tri.block ?_
      refine Tri.loop (ι := Nat) (fun (i : Nat) => (i ≤ ((underG ns (findG ns root ps).1).1 ++ [(findG ns root ps).1]).length)) (fun (i : Nat) => ((underG ns (findG ns root ps).1).1 ++ [(findG ns root ps).1]).length - i) (fun (i : Nat) => [(9, .slice B14 ((underG ns root).1.length) (c15)), (11, .slice A26 (((underG ns (findG ns root ps).1).1 ++ [(findG ns root ps).1]).length) (c27)), (13, .int .i64 (((i : Nat) : Int)))]) (fun (i : Nat) => [.abs (RowA 3 1 A26 (((underG ns (findG ns root ps).1).1 ++ [(findG ns root ps).1]).length) c27 (intsV ((underG ns (findG ns root ps).1).1 ++ [(findG ns root ps).1]))), .abs R]) 0 (idx := [9, 11, 13]) (pk := [0, 1]) (show (0 ≤ ((underG ns (findG ns root ps).1).1 ++ [(findG ns root ps).1]).length) from Nat.zero_le _) (fun _ => by kernel_rfl) rfl (by kernel_rfl) ?_
      rintro i hi
      show Tri _ _ _ _ [(9, .slice B14 ((underG ns root).1.length) (c15)), (11, .slice A26 (((underG ns (findG ns root ps).1).1 ++ [(findG ns root ps).1]).length) (c27)), (13, .int .i64 (((i : Nat) : Int)))] [.abs (RowA 3 1 A26 (((underG ns (findG ns root ps).1).1 ++ [(findG ns root ps).1]).length) c27 (intsV ((underG ns (findG ns root ps).1).1 ++ [(findG ns root ps).1]))), .abs R] _
      refine Tri.seq ?_
      refine Tri.seq ?_
      refine Tri.region ?_
      refine TriL.segK (k' := 4) (fr' := [(9, .slice B14 ((underG ns root).1.length) (c15)), (11, .slice A26 (((underG ns (findG ns root ps).1).1 ++ [(findG ns root ps).1]).length) (c27)), (13, .int .i64 (((i : Nat) : Int))), (54, .bool (decide ((((i : Nat) : Int) : Int) < (((((underG ns (findG ns root ps).1).1 ++ [(findG ns root ps).1]).length : Nat) : Int) : Int))))]) (obl := []) [o_, o_, o_, o_] [9, 11, 13, 54] (fun _ _ => by kernel_rfl) trivial ?_
      refine TriL.nil (by kernel_rfl) ?_
      refine TriQ.next ?_
      refine Tri.condP (p := (((i : Nat) : Int) : Int) < (((((underG ns (findG ns root ps).1).1 ++ [(findG ns root ps).1]).length : Nat) : Int) : Int)) (fun _ => by kernel_rfl) (fun h54 => ?_) (fun h54 => ?_)
      · refine Tri.skip ?_
        refine TriQ.next ?_
        refine Tri.seq ?_
        refine Tri.block ?_
        refine Tri.seq ?_
        refine Tri.region ?_
        refine TriL.segK (k' := 1) (fr' := [(9, .slice B14 ((underG ns root).1.length) (c15)), (11, .slice A26 (((underG ns (findG ns root ps).1).1 ++ [(findG ns root ps).1]).length) (c27)), (13, .int .i64 (((i : Nat) : Int))), (14, .bool false)]) (obl := []) [o_] [9, 11, 13, 14] (fun _ _ => by kernel_rfl) trivial ?_
        refine TriL.nil (by kernel_rfl) ?_
        refine TriQ.next ?_
        refine Tri.seq ?_
        refine Tri.seq ?_
        refine Tri.region ?_
        refine TriL.segK (k' := 1) (fr' := [(9, .slice B14 ((underG ns root).1.length) (c15)), (11, .slice A26 (((underG ns (findG ns root ps).1).1 ++ [(findG ns root ps).1]).length) (c27)), (13, .int .i64 (((i : Nat) : Int))), (14, .bool false), (15, .int .i64 0)]) (obl := []) [o_] [9, 11, 13, 14, 15] (fun _ _ => by kernel_rfl) trivial ?_
        refine TriL.nil (by kernel_rfl) ?_
        refine TriQ.next ?_
        refine Tri.block ?_
        refine Tri.loop (ι := Nat × Bool) (fun ((j, fl) : Nat × Bool) => (j ≤ (underG ns root).1.length) ∧ (Come (underG ns root).1 (((underG ns (findG ns root ps).1).1 ++ [(findG ns root ps).1]).getD i 0) j fl)) (fun ((j, fl) : Nat × Bool) => (underG ns root).1.length - j) (fun ((j, fl) : Nat × Bool) => [(9, .slice B14 ((underG ns root).1.length) (c15)), (11, .slice A26 (((underG ns (findG ns root ps).1).1 ++ [(findG ns root ps).1]).length) (c27)), (13, .int .i64 (((i : Nat) : Int))), (14, .bool fl), (15, .int .i64 (((j : Nat) : Int)))]) (fun ((j, fl) : Nat × Bool) => [.abs (RowA 3 1 A26 (((underG ns (findG ns root ps).1).1 ++ [(findG ns root ps).1]).length) c27 (intsV ((underG ns (findG ns root ps).1).1 ++ [(findG ns root ps).1]))), .abs R]) (0, false) (idx := [9, 11, 13, 14, 15]) (pk := [0, 1]) (show (0 ≤ (underG ns root).1.length) ∧ (Come (underG ns root).1 (((underG ns (findG ns root ps).1).1 ++ [(findG ns root ps).1]).getD i 0) 0 false) from ⟨Nat.zero_le _, Come.zero _ _⟩) (fun _ => by kernel_rfl) rfl (by kernel_rfl) ?_
        rintro ⟨j, fl⟩ ⟨hj, hcm⟩
        show Tri _ _ _ _ [(9, .slice B14 ((underG ns root).1.length) (c15)), (11, .slice A26 (((underG ns (findG ns root ps).1).1 ++ [(findG ns root ps).1]).length) (c27)), (13, .int .i64 (((i : Nat) : Int))), (14, .bool fl), (15, .int .i64 (((j : Nat) : Int)))] [.abs (RowA 3 1 A26 (((underG ns (findG ns root ps).1).1 ++ [(findG ns root ps).1]).length) c27 (intsV ((underG ns (findG ns root ps).1).1 ++ [(findG ns root ps).1]))), .abs R] _
        refine Tri.seq ?_
        refine Tri.seq ?_
        refine Tri.region ?_
        refine TriL.segK (k' := 4) (fr' := [(9, .slice B14 ((underG ns root).1.length) (c15)), (11, .slice A26 (((underG ns (findG ns root ps).1).1 ++ [(findG ns root ps).1]).length) (c27)), (13, .int .i64 (((i : Nat) : Int))), (14, .bool fl), (15, .int .i64 (((j : Nat) : Int))), (60, .bool (decide ((((j : Nat) : Int) : Int) < ((((underG ns root).1.length : Nat) : Int) : Int))))]) (obl := []) [o_, o_, o_, o_] [9, 11, 13, 14, 15, 60] (fun _ _ => by kernel_rfl) trivial ?_
        refine TriL.nil (by kernel_rfl) ?_
        refine TriQ.next ?_
        refine Tri.condP (p := (((j : Nat) : Int) : Int) < ((((underG ns root).1.length : Nat) : Int) : Int)) (fun _ => by kernel_rfl) (fun h60 => ?_) (fun h60 => ?_)
        · refine Tri.skip ?_
          refine TriQ.next ?_
          refine Tri.seq ?_
          refine Tri.block ?_
          refine Tri.seq ?_
          refine Tri.regionQ (by kernel_rfl) (by kernel_rfl) ?_
          refine TriLQ.seg (k' := 9) (fr' := [(9, .slice B14 ((underG ns root).1.length) (c15)), (11, .slice A26 (((underG ns (findG ns root ps).1).1 ++ [(findG ns root ps).1]).length) (c27)), (13, .int .i64 (((i : Nat) : Int))), (14, .bool fl), (15, .int .i64 (((j : Nat) : Int))), (71, .bool (decide ((((underG ns root).1.getD j 0) : Int) = ((((underG ns (findG ns root ps).1).1 ++ [(findG ns root ps).1]).getD i 0) : Int))))]) (obl := [(∀ F w, (RowA 3 1 A26 (((underG ns (findG ns root ps).1).1 ++ [(findG ns root ps).1]).length) c27 (intsV ((underG ns (findG ns root ps).1).1 ++ [(findG ns root ps).1]))).h F w → w.cell? ⟨(blkOf A26), offOf A26 + i * 1, none⟩ = some (.int .i64 ((((underG ns (findG ns root ps).1).1 ++ [(findG ns root ps).1]).getD i 0)))), ((i : Nat) : Int) = ((i : Nat) : Int), i < ((underG ns (findG ns root ps).1).1 ++ [(findG ns root ps).1]).length, (⟨(blkOf A26), offOf A26, none⟩ : Addr).spot = none, (A26 : Option Addr) = some ⟨(blkOf A26), offOf A26, none⟩, (Rd β22 ⟨(blkOf B14), offOf B14 + j * 1, none⟩ (.int .i64 (((underG ns root).1.getD j 0)))), ((j : Nat) : Int) = ((j : Nat) : Int), j < (underG ns root).1.length, (⟨(blkOf B14), offOf B14, none⟩ : Addr).spot = none, (B14 : Option Addr) = some ⟨(blkOf B14), offOf B14, none⟩]) [o_, o_, ⟨[], some j, none, some ⟨(blkOf B14), offOf B14, none⟩, none⟩, ⟨[.old (.int .i64 (((underG ns root).1.getD j 0)))], none, none, none, none⟩, o_, o_, ⟨[], some i, none, some ⟨(blkOf A26), offOf A26, none⟩, none⟩, ⟨[.view 0 (.int .i64 ((((underG ns (findG ns root ps).1).1 ++ [(findG ns root ps).1]).getD i 0)))], none, none, none, none⟩, o_] [9, 11, 13, 14, 15, 71] (fun _ _ => by kernel_rfl) ⟨RowA.cellI (by omega), rfl, by omega, rfl, hAb, IntsAt.rd hU16 (by omega), rfl, by omega, rfl, IntsAt.hd hU16 (j := j) (by omega), trivial⟩ ?_
          refine TriLQ.nil (by kernel_rfl) ?_
          refine TriQ.next ?_
          refine Tri.condP (p := (((underG ns root).1.getD j 0) : Int) = ((((underG ns (findG ns root ps).1).1 ++ [(findG ns root ps).1]).getD i 0) : Int)) (fun _ => by kernel_rfl) (fun h71 => ?_) (fun h71 => ?_)
          · refine Tri.region ?_
            refine TriL.segK (k' := 1) (fr' := [(9, .slice B14 ((underG ns root).1.length) (c15)), (11, .slice A26 (((underG ns (findG ns root ps).1).1 ++ [(findG ns root ps).1]).length) (c27)), (13, .int .i64 (((i : Nat) : Int))), (14, .bool true), (15, .int .i64 (((j : Nat) : Int)))]) (obl := []) [o_] [9, 11, 13, 14, 15] (fun _ _ => by kernel_rfl) trivial ?_
            refine TriL.nil (by kernel_rfl) ?_
            refine TriQ.blockNormal ?_
            refine TriQ.next ?_
            refine Tri.region ?_
            refine TriL.segK (k' := 3) (fr' := [(9, .slice B14 ((underG ns root).1.length) (c15)), (11, .slice A26 (((underG ns (findG ns root ps).1).1 ++ [(findG ns root ps).1]).length) (c27)), (13, .int .i64 (((i : Nat) : Int))), (14, .bool true), (15, .int .i64 (((j + 1 : Nat) : Int)))]) (obl := [(Value.int .i64 (IntKind.wrap .i64 (((j : Nat) : Int) + 1))) = (.int .i64 (((j + 1 : Nat) : Int)))]) [o_, ⟨[], none, none, none, some (.int .i64 (((j + 1 : Nat) : Int)))⟩, o_] [9, 11, 13, 14, 15] (fun _ _ => by kernel_rfl) ⟨wrapEq (by omega) (by omega) (by omega), trivial⟩ ?_
            refine TriL.nil (by kernel_rfl) ?_
            exact TriQ.turn ((j + 1), true) (idx := [9, 11, 13, 14, 15]) (pk := [0, 1]) (show (((j + 1)) ≤ (underG ns root).1.length) ∧ (Come (underG ns root).1 (((underG ns (findG ns root ps).1).1 ++ [(findG ns root ps).1]).getD i 0) ((j + 1)) true) from ⟨by omega, Come.hit h71⟩) (by show (underG ns root).1.length - ((j + 1)) < (underG ns root).1.length - j; omega) (fun _ => by kernel_rfl) rfl (by kernel_rfl)
          · refine Tri.skip ?_
            refine TriQ.blockNormal ?_
            refine TriQ.next ?_
            refine Tri.region ?_
            refine TriL.segK (k' := 3) (fr' := [(9, .slice B14 ((underG ns root).1.length) (c15)), (11, .slice A26 (((underG ns (findG ns root ps).1).1 ++ [(findG ns root ps).1]).length) (c27)), (13, .int .i64 (((i : Nat) : Int))), (14, .bool fl), (15, .int .i64 (((j + 1 : Nat) : Int)))]) (obl := [(Value.int .i64 (IntKind.wrap .i64 (((j : Nat) : Int) + 1))) = (.int .i64 (((j + 1 : Nat) : Int)))]) [o_, ⟨[], none, none, none, some (.int .i64 (((j + 1 : Nat) : Int)))⟩, o_] [9, 11, 13, 14, 15] (fun _ _ => by kernel_rfl) ⟨wrapEq (by omega) (by omega) (by omega), trivial⟩ ?_
            refine TriL.nil (by kernel_rfl) ?_
            exact TriQ.turn ((j + 1), fl) (idx := [9, 11, 13, 14, 15]) (pk := [0, 1]) (show (((j + 1)) ≤ (underG ns root).1.length) ∧ (Come (underG ns root).1 (((underG ns (findG ns root ps).1).1 ++ [(findG ns root ps).1]).getD i 0) ((j + 1)) fl) from ⟨by omega, hcm.miss h71⟩) (by show (underG ns root).1.length - ((j + 1)) < (underG ns root).1.length - j; omega) (fun _ => by kernel_rfl) rfl (by kernel_rfl)
        · refine Tri.exit ?_
          refine TriQ.passExit ?_
          refine TriQ.passExit ?_
          refine TriQ.blockHit ?_
          refine TriQ.next ?_
          refine Tri.seq ?_
          refine Tri.region ?_
          refine TriL.segK (k' := 2) (fr' := [(9, .slice B14 ((underG ns root).1.length) (c15)), (11, .slice A26 (((underG ns (findG ns root ps).1).1 ++ [(findG ns root ps).1]).length) (c27)), (13, .int .i64 (((i : Nat) : Int))), (73, .bool (!fl))]) (obl := []) [o_, o_] [9, 11, 13, 73] (fun _ _ => by kernel_rfl) trivial ?_
          refine TriL.nil (by kernel_rfl) ?_
          refine TriQ.next ?_
          refine Tri.cond (b := (!fl)) (fun _ => by kernel_rfl) (fun h73 => ?_) (fun h73 => ?_)
          · exact absurd ((show Come (underG ns root).1 (((underG ns (findG ns root ps).1).1 ++ [(findG ns root ps).1]).getD i 0) (underG ns root).1.length fl by rw [show (underG ns root).1.length = j by omega]; exact hcm).all (hrc _ (getD_mem' (by omega)))) (by revert h73; cases fl <;> decide)
          · refine Tri.skip ?_
            refine TriQ.blockNormal ?_
            refine TriQ.next ?_
            refine Tri.region ?_
            refine TriL.segK (k' := 3) (fr' := [(9, .slice B14 ((underG ns root).1.length) (c15)), (11, .slice A26 (((underG ns (findG ns root ps).1).1 ++ [(findG ns root ps).1]).length) (c27)), (13, .int .i64 (((i + 1 : Nat) : Int)))]) (obl := [(Value.int .i64 (IntKind.wrap .i64 (((i : Nat) : Int) + 1))) = (.int .i64 (((i + 1 : Nat) : Int)))]) [o_, ⟨[], none, none, none, some (.int .i64 (((i + 1 : Nat) : Int)))⟩, o_] [9, 11, 13] (fun _ _ => by kernel_rfl) ⟨wrapEq (by omega) (by omega) (by omega), trivial⟩ ?_
            refine TriL.nil (by kernel_rfl) ?_
            exact TriQ.turn ((i + 1)) (idx := [9, 11, 13]) (pk := [0, 1]) (show (((i + 1)) ≤ ((underG ns (findG ns root ps).1).1 ++ [(findG ns root ps).1]).length) from (by omega)) (by show ((underG ns (findG ns root ps).1).1 ++ [(findG ns root ps).1]).length - ((i + 1)) < ((underG ns (findG ns root ps).1).1 ++ [(findG ns root ps).1]).length - i; omega) (fun _ => by kernel_rfl) rfl (by kernel_rfl)
      · refine Tri.exit ?_
        refine TriQ.passExit ?_
        refine TriQ.passExit ?_
        refine TriQ.blockHit ?_
        refine TriQ.next ?_
        refine Tri.seq ?_
        refine Tri.region ?_
        refine TriL.segK (k' := 1) (fr' := [(6, .bool true)]) (obl := []) [o_] [6] (fun _ _ => by kernel_rfl) trivial ?_
        refine TriL.nil (by kernel_rfl) ?_
        refine TriQ.next ?_
        refine Tri.ret ?_
        exact TriQ.retU (v := .bool true) (l := []) (obl := []) [] [1] hle0 (fun _ => by kernel_rfl) trivial rfl (by kernel_rfl) (rfl)
end Go.Proofs.Ytjpdcppdoonmdaa
