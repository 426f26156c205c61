/-
  PROVED HERE: lemmas and contracts of functions (texts of this repo, joined): LawP.
  CONDITIONS: as the theorems say.
-/
import Derived.Test.YtjpdcppdoonmdaaMPaths5
/- part LawP. PROVED HERE: the law GraphPaths CONDITIONS: as the theorems say. Printed by a program of this repo (wip/v). -/
section
namespace Go.Proofs.Ytjpdcppdoonmdaa
open Go.RowKit
attribute [local irreducible] TriL TriLQ Tri TriQ
set_option maxRecDepth 100000 in
set_option maxHeartbeats 4000000 in
theorem law_paths (W : World) (A : Option Addr) (c : Nat) (ns : List NodeM) (L : Lay) (hG : GraphAt (B0 W) A ns L) (hB : GraphB ns 1048576) (root : Int) (hz : I64 root) :
    Spec Try.prog (B0 W) 7 #[.agg #[.slice A (ns.length) (c)], .int .i64 (root)] [] (fun v _ => v = .bool true) := by
  have hle0 := B0.refl W
  refine Spec.enter Try.func7 rfl Try.ntmps7 (Nat.le_of_ble_eq_true rfl) (fun R => ?_)
  refine Tri.seq ?_
  refine Tri.region ?_
  refine TriL.segN (k' := 2) (fr' := fun b1 => [(1, .int .i64 (root)), (2, .pointer (some ⟨b1, 0, none⟩))]) (hps' := fun b1 => [.abs R, .blk b1 [.slice A (ns.length) (c)] 24]) (obl := fun b1 => []) [o_, o_] [1, 2] [0, 1] (fun _ _ => by kernel_rfl) (fun b1 => trivial) (fun b1 => ?_)
  refine TriL.nil (by kernel_rfl) ?_
  refine TriQ.next ?_
  refine Tri.seq ?_
  refine Tri.seq ?_
  refine Tri.region ?_
  refine TriL.callB (f := 21) (args := #[]) (d := (some 15)) (pre := []) (R := [.abs R, .blk b1 [.slice A (ns.length) (c)] 24]) (pk := [0, 1]) (fun _ => by kernel_rfl) (sp_alive) rfl (by kernel_rfl) ?_
  rintro β2 _ _ hle_β2 ⟨rfl, rfl⟩
  replace hG := hG.le hle_β2
  replace hle0 := hle0.trans hle_β2
  refine TriL.segK (k' := 2) (fr' := [(1, .int .i64 (root)), (2, .pointer (some ⟨b1, 0, none⟩)), (16, .bool false)]) (obl := []) [o_] [1, 2, 16] (fun _ _ => by kernel_rfl) trivial ?_
  refine TriL.nil (by kernel_rfl) ?_
  refine TriQ.next ?_
  refine Tri.condF (fun _ => by kernel_rfl) ?_
  refine Tri.skip ?_
  refine TriQ.next ?_
  refine Tri.seq ?_
  refine Tri.region ?_
  refine TriL.segK (k' := 1) (fr' := [(1, .int .i64 (root)), (2, .pointer (some ⟨b1, 0, none⟩)), (18, .agg #[.slice A (ns.length) (c)])]) (obl := [b1 = b1]) [⟨[.at 1], none, none, none, none⟩] [1, 2, 18] (fun _ _ => by kernel_rfl) ⟨rfl, trivial⟩ ?_
  refine TriL.callB (f := 15) (args := #[.agg #[.slice A (ns.length) (c)]]) (d := (some 19)) (pre := []) (R := [.abs R, .blk b1 [.slice A (ns.length) (c)] 24]) (pk := [0, 1]) (fun _ => by kernel_rfl) (sp_copyGraph A c ns L hG hB.hl hB.hd) rfl (by kernel_rfl) ?_
  rintro β7 _ _ hle_β7 ⟨B3, c4, L5, rfl, rfl, hG6⟩
  replace hG := hG.le hle_β7
  replace hle0 := hle0.trans hle_β7
  refine TriL.segK (k' := 3) (fr' := [(1, .int .i64 (root)), (2, .pointer (some ⟨b1, 0, none⟩)), (19, .agg #[.slice B3 (ns.length) (c4)]), (20, .int .i64 (root))]) (obl := []) [o_] [1, 2, 19, 20] (fun _ _ => by kernel_rfl) trivial ?_
  refine TriL.callB (f := 26) (args := #[.agg #[.slice B3 (ns.length) (c4)], .int .i64 (root)]) (d := (some 21)) (pre := []) (R := [.abs R, .blk b1 [.slice A (ns.length) (c)] 24]) (pk := [0, 1]) (fun _ => by kernel_rfl) (sp_tree B3 c4 ns L5 hG6 hB root hz) rfl (by kernel_rfl) ?_
  rintro β12 _ _ hle_β12 ⟨B8, c9, M10, rfl, rfl, hT11⟩
  replace hG := hG.le hle_β12
  replace hG6 := hG6.le hle_β12
  replace hle0 := hle0.trans hle_β12
  have hT := hT11
  refine TriL.segK (k' := 9) (fr' := [(1, .int .i64 (root)), (2, .pointer (some ⟨b1, 0, none⟩)), (5, .slice B8 ((treeG ns root).1.length) (c9)), (6, .int .i64 ((treeG ns root).2))]) (obl := []) [o_, o_, o_, o_, o_] [1, 2, 5, 6] (fun _ _ => by kernel_rfl) trivial ?_
  refine TriL.nil (by kernel_rfl) ?_
  refine TriQ.next ?_
  refine Tri.seq ?_
  refine Tri.seq ?_
  refine Tri.region ?_
  refine TriL.segK (k' := 2) (fr' := [(1, .int .i64 (root)), (2, .pointer (some ⟨b1, 0, none⟩)), (5, .slice B8 ((treeG ns root).1.length) (c9)), (25, .bool (!(decide (((treeG ns root).2 : Int) = (0 : Int)))))]) (obl := []) [o_, o_] [1, 2, 5, 25] (fun _ _ => by kernel_rfl) trivial ?_
  refine TriL.nil (by kernel_rfl) ?_
  refine TriQ.next ?_
  refine Tri.condN (p := ((treeG ns root).2 : Int) = (0 : Int)) (fun _ => by kernel_rfl) (fun h25 => ?_) (fun h25 => ?_)
  · refine Tri.seq ?_
    refine Tri.region ?_
    refine TriL.segK (k' := 4) (fr' := [(4, .bool (decide (((((treeG ns root).1.length : Nat) : Int) : Int) = (0 : Int))))]) (obl := []) [o_, o_, o_, o_] [4] (fun _ _ => by kernel_rfl) trivial ?_
    refine TriL.nil (by kernel_rfl) ?_
    refine TriQ.next ?_
    refine Tri.ret ?_
    refine TriQ.passRet ?_
    exact TriQ.retU (v := .bool (decide (((((treeG ns root).1.length : Nat) : Int) : Int) = (0 : Int)))) (l := []) (obl := []) [] [0] hle0 (fun _ => by kernel_rfl) trivial rfl (by kernel_rfl) (congrArg Value.bool (decide_eq_true (by have := treeG_nil h25; omega)))
  · obtain ⟨hok, hat, _⟩ := beginC_zero (treeG_ok h25).1
    have hTs := (treeG_small (root := root) hB).1
    refine Tri.skip ?_
    refine TriQ.next ?_
    refine Tri.seq ?_
    refine Tri.seq ?_
    refine Tri.region ?_
    refine TriL.segK (k' := 1) (fr' := [(1, .int .i64 (root)), (2, .pointer (some ⟨b1, 0, none⟩)), (5, .slice B8 ((treeG ns root).1.length) (c9)), (7, .int .i64 0)]) (obl := []) [o_] [1, 2, 5, 7] (fun _ _ => by kernel_rfl) trivial ?_
    refine TriL.nil (by kernel_rfl) ?_
    refine TriQ.next ?_
    refine Tri.block ?_
    refine Tri.loopB (ι := Nat × Bs) (fun ((i, b) : Nat × Bs) => b) (fun ((i, b) : Nat × Bs) => (i ≤ (treeG ns root).1.length) ∧ ((B0 W).le b) ∧ (GraphAt b A ns L) ∧ (LinesAt b B8 (treeG ns root).1 M10)) (fun ((i, b) : Nat × Bs) => (treeG ns root).1.length - i) (fun ((i, b) : Nat × Bs) => [(1, .int .i64 (root)), (2, .pointer (some ⟨b1, 0, none⟩)), (5, .slice B8 ((treeG ns root).1.length) (c9)), (7, .int .i64 (((i : Nat) : Int)))]) (fun ((i, b) : Nat × Bs) => [.blk b1 [.slice A (ns.length) (c)] 24, .abs R]) (0, β12) rfl (idx := [1, 2, 5, 7]) (pk := [1, 0]) (show (0 ≤ (treeG ns root).1.length) ∧ ((B0 W).le β12) ∧ (GraphAt β12 A ns L) ∧ (LinesAt β12 B8 (treeG ns root).1 M10) from ⟨Nat.zero_le _, hle0, hG, hT⟩) (fun _ => by kernel_rfl) rfl (by kernel_rfl) ?_
    rintro ⟨i, b⟩ ⟨hi, hle0, hG, hT⟩
    show Tri _ b _ _ [(1, .int .i64 (root)), (2, .pointer (some ⟨b1, 0, none⟩)), (5, .slice B8 ((treeG ns root).1.length) (c9)), (7, .int .i64 (((i : Nat) : Int)))] [.blk b1 [.slice A (ns.length) (c)] 24, .abs R] _
    refine Tri.seq ?_
    refine Tri.seq ?_
    refine Tri.region ?_
    refine TriL.segK (k' := 4) (fr' := [(1, .int .i64 (root)), (2, .pointer (some ⟨b1, 0, none⟩)), (5, .slice B8 ((treeG ns root).1.length) (c9)), (7, .int .i64 (((i : Nat) : Int))), (32, .bool (decide ((((i : Nat) : Int) : Int) < ((((treeG ns root).1.length : Nat) : Int) : Int))))]) (obl := []) [o_, o_, o_, o_] [1, 2, 5, 7, 32] (fun _ _ => by kernel_rfl) trivial ?_
    refine TriL.nil (by kernel_rfl) ?_
    refine TriQ.next ?_
    refine Tri.condP (p := (((i : Nat) : Int) : Int) < ((((treeG ns root).1.length : Nat) : Int) : Int)) (fun _ => by kernel_rfl) (fun h32 => ?_) (fun h32 => ?_)
    · obtain ⟨⟨z, hzz⟩, hps, hnew⟩ := tree_leads h25 (i := i) (by omega)
      have hzl := hzz.at_
      refine Tri.skip ?_
      refine TriQ.next ?_
      refine Tri.seq ?_
      refine Tri.block ?_
      refine Tri.seq ?_
      refine Tri.region ?_
      refine TriL.segN (k' := 2) (fr' := fun b13 => [(1, .int .i64 (root)), (2, .pointer (some ⟨b1, 0, none⟩)), (5, .slice B8 ((treeG ns root).1.length) (c9)), (7, .int .i64 (((i : Nat) : Int))), (8, .slice (some ⟨b13, 0, none⟩) (0) (0))]) (hps' := fun b13 => [.blk b1 [.slice A (ns.length) (c)] 24, .abs R, .blk b13 [] 9]) (obl := fun b13 => []) [o_, o_] [1, 2, 5, 7, 8] [0, 1, 2] (fun _ _ => by kernel_rfl) (fun b13 => trivial) (fun b13 => ?_)
      refine TriL.nil (by kernel_rfl) ?_
      refine TriQ.next ?_
      refine Tri.seq ?_
      refine Tri.region ?_
      refine TriL.mem (fun w hS => hS.toRow (i := 2) (b := b13) (cs := []) (e := 9) 1 0 (by kernel_rfl) rfl (by decide)) ?_
      refine TriL.segK (k' := 1) (fr' := [(1, .int .i64 (root)), (2, .pointer (some ⟨b1, 0, none⟩)), (5, .slice B8 ((treeG ns root).1.length) (c9)), (7, .int .i64 (((i : Nat) : Int))), (8, .slice (some ⟨b13, 0, none⟩) (0) (0)), (9, .int .i64 0)]) (obl := []) [o_] [1, 2, 5, 7, 8, 9] (fun _ _ => by kernel_rfl) trivial ?_
      refine TriL.nil (by kernel_rfl) ?_
      refine TriQ.next ?_
      refine Tri.seq ?_
      refine Tri.region ?_
      refine TriL.segK (k' := 6) (fr' := [(1, .int .i64 (root)), (2, .pointer (some ⟨b1, 0, none⟩)), (5, .slice B8 ((treeG ns root).1.length) (c9)), (7, .int .i64 (((i : Nat) : Int))), (8, .slice (some ⟨b13, 0, none⟩) (0) (0)), (9, .int .i64 0), (10, .string (ln (treeG ns root).1 i).path)]) (obl := [(Rd b ⟨(blkOf B8), offOf B8 + i * 10, none⟩ (.string (ln (treeG ns root).1 i).path)), ((i : Nat) : Int) = ((i : Nat) : Int), i < (treeG ns root).1.length, (⟨(blkOf B8), offOf B8, none⟩ : Addr).spot = none, (B8 : Option Addr) = some ⟨(blkOf B8), offOf B8, none⟩]) [o_, o_, ⟨[], some i, none, some ⟨(blkOf B8), offOf B8, none⟩, none⟩, o_, ⟨[.old (.string (ln (treeG ns root).1 i).path)], none, none, none, none⟩, o_] [1, 2, 5, 7, 8, 9, 10] (fun _ _ => by kernel_rfl) ⟨LinesAt.rd hT (i := i) (by omega) (j := 0) rfl, rfl, by omega, rfl, LinesAt.hd hT (i := i) (by omega), trivial⟩ ?_
      refine TriL.nil (by kernel_rfl) ?_
      refine TriQ.next ?_
      refine Tri.seq ?_
      refine Tri.seq ?_
      refine Tri.region ?_
      refine TriL.segK (k' := 1) (fr' := [(1, .int .i64 (root)), (2, .pointer (some ⟨b1, 0, none⟩)), (5, .slice B8 ((treeG ns root).1.length) (c9)), (7, .int .i64 (((i : Nat) : Int))), (8, .slice (some ⟨b13, 0, none⟩) (0) (0)), (9, .int .i64 0), (10, .string (ln (treeG ns root).1 i).path), (11, .int .i64 0)]) (obl := []) [o_] [1, 2, 5, 7, 8, 9, 10, 11] (fun _ _ => by kernel_rfl) trivial ?_
      refine TriL.nil (by kernel_rfl) ?_
      refine TriQ.next ?_
      refine Tri.block ?_
      refine Tri.loop (ι := Nat × (Option Addr) × Nat × (List ByteArray) × Nat) (fun ((j, A8, c8, ps, fr) : Nat × (Option Addr) × Nat × (List ByteArray) × Nat) => (j ≤ (ln (treeG ns root).1 i).path.size + 1) ∧ (i = 0 → j = 0) ∧ (cuts (ln (treeG ns root).1 i).path j = (ps, fr)) ∧ (ps.length ≤ j) ∧ (fr ≤ j)) (fun ((j, A8, c8, ps, fr) : Nat × (Option Addr) × Nat × (List ByteArray) × Nat) => (ln (treeG ns root).1 i).path.size + 2 - j) (fun ((j, A8, c8, ps, fr) : Nat × (Option Addr) × Nat × (List ByteArray) × Nat) => [(1, .int .i64 (root)), (2, .pointer (some ⟨b1, 0, none⟩)), (5, .slice B8 ((treeG ns root).1.length) (c9)), (7, .int .i64 (((i : Nat) : Int))), (8, .slice A8 (ps.length) (c8)), (9, .int .i64 (((fr : Nat) : Int))), (10, .string (ln (treeG ns root).1 i).path), (11, .int .i64 (((j : Nat) : Int)))]) (fun ((j, A8, c8, ps, fr) : Nat × (Option Addr) × Nat × (List ByteArray) × Nat) => [.blk b1 [.slice A (ns.length) (c)] 24, .abs (RowA 9 1 A8 ps.length c8 (strsV ps)), .abs R]) (0, some ⟨b13, 0, none⟩, 0, [], 0) (idx := [1, 2, 5, 7, 8, 9, 10, 11]) (pk := [0, 2, 1]) (show (0 ≤ (ln (treeG ns root).1 i).path.size + 1) ∧ (i = 0 → 0 = 0) ∧ (cuts (ln (treeG ns root).1 i).path 0 = (([]), 0)) ∧ (([]).length ≤ 0) ∧ (0 ≤ 0) from ⟨Nat.zero_le _, fun _ => rfl, rfl, Nat.le_refl _, Nat.le_refl _⟩) (fun _ => by kernel_rfl) rfl (by kernel_rfl) ?_
      rintro ⟨j, A8, c8, ps, fr⟩ ⟨hj, hij, hcu, hpl, hfr⟩
      show Tri _ _ _ _ [(1, .int .i64 (root)), (2, .pointer (some ⟨b1, 0, none⟩)), (5, .slice B8 ((treeG ns root).1.length) (c9)), (7, .int .i64 (((i : Nat) : Int))), (8, .slice A8 (ps.length) (c8)), (9, .int .i64 (((fr : Nat) : Int))), (10, .string (ln (treeG ns root).1 i).path), (11, .int .i64 (((j : Nat) : Int)))] [.blk b1 [.slice A (ns.length) (c)] 24, .abs (RowA 9 1 A8 ps.length c8 (strsV ps)), .abs R] _
      refine Tri.seq ?_
      refine Tri.seq ?_
      refine Tri.region ?_
      refine TriL.segK (k' := 5) (fr' := [(1, .int .i64 (root)), (2, .pointer (some ⟨b1, 0, none⟩)), (5, .slice B8 ((treeG ns root).1.length) (c9)), (7, .int .i64 (((i : Nat) : Int))), (8, .slice A8 (ps.length) (c8)), (9, .int .i64 (((fr : Nat) : Int))), (10, .string (ln (treeG ns root).1 i).path), (11, .int .i64 (((j : Nat) : Int))), (45, .bool (decide ((((j : Nat) : Int) : Int) ≤ (((((ln (treeG ns root).1 i).path : ByteArray).size : Nat) : Int) : Int))))]) (obl := []) [o_, o_, o_, o_, o_] [1, 2, 5, 7, 8, 9, 10, 11, 45] (fun _ _ => by kernel_rfl) trivial ?_
      refine TriL.slotP 45 ((((j : Nat) : Int) : Int) ≤ (((((ln (treeG ns root).1 i).path : ByteArray).size : Nat) : Int) : Int)) (fun _ => by kernel_rfl) (fun h45 => ?_) (fun h45 => ?_)
      · refine TriL.segK (k' := 8) (fr' := [(1, .int .i64 (root)), (2, .pointer (some ⟨b1, 0, none⟩)), (5, .slice B8 ((treeG ns root).1.length) (c9)), (7, .int .i64 (((i : Nat) : Int))), (8, .slice A8 (ps.length) (c8)), (9, .int .i64 (((fr : Nat) : Int))), (10, .string (ln (treeG ns root).1 i).path), (11, .int .i64 (((j : Nat) : Int))), (48, .bool (decide ((((i : Nat) : Int) : Int) > (0 : Int))))]) (obl := []) [o_, o_, o_] [1, 2, 5, 7, 8, 9, 10, 11, 48] (fun _ _ => by kernel_rfl) trivial ?_
        refine TriL.nil (by kernel_rfl) ?_
        refine TriQ.next ?_
        refine Tri.condP (p := (((i : Nat) : Int) : Int) > (0 : Int)) (fun _ => by kernel_rfl) (fun h48 => ?_) (fun h48 => ?_)
        · refine Tri.skip ?_
          refine TriQ.next ?_
          refine Tri.seq ?_
          refine Tri.block ?_
          refine Tri.seq ?_
          refine Tri.region ?_
          refine TriL.segK (k' := 5) (fr' := [(1, .int .i64 (root)), (2, .pointer (some ⟨b1, 0, none⟩)), (5, .slice B8 ((treeG ns root).1.length) (c9)), (7, .int .i64 (((i : Nat) : Int))), (8, .slice A8 (ps.length) (c8)), (9, .int .i64 (((fr : Nat) : Int))), (10, .string (ln (treeG ns root).1 i).path), (11, .int .i64 (((j : Nat) : Int))), (55, .bool (decide ((((j : Nat) : Int) : Int) = (((((ln (treeG ns root).1 i).path : ByteArray).size : Nat) : Int) : Int))))]) (obl := []) [o_, o_, o_, o_, o_] [1, 2, 5, 7, 8, 9, 10, 11, 55] (fun _ _ => by kernel_rfl) trivial ?_
          refine TriL.slotP 55 ((((j : Nat) : Int) : Int) = (((((ln (treeG ns root).1 i).path : ByteArray).size : Nat) : Int) : Int)) (fun _ => by kernel_rfl) (fun h55 => ?_) (fun h55 => ?_)
          · refine TriL.segK (k' := 10) (fr' := [(1, .int .i64 (root)), (2, .pointer (some ⟨b1, 0, none⟩)), (5, .slice B8 ((treeG ns root).1.length) (c9)), (7, .int .i64 (((i : Nat) : Int))), (8, .slice A8 (ps.length) (c8)), (9, .int .i64 (((fr : Nat) : Int))), (10, .string (ln (treeG ns root).1 i).path), (11, .int .i64 (((j : Nat) : Int))), (60, .bool true)]) (obl := []) [o_, o_, o_, o_, o_] [1, 2, 5, 7, 8, 9, 10, 11, 60] (fun _ _ => by kernel_rfl) trivial ?_
            refine TriL.nil (by kernel_rfl) ?_
            refine TriQ.next ?_
            refine Tri.condT (fun _ => by kernel_rfl) ?_
            refine Tri.seq ?_
            refine Tri.region ?_
            refine TriL.segN (k' := 6) (fr' := fun b14 => [(1, .int .i64 (root)), (2, .pointer (some ⟨b1, 0, none⟩)), (5, .slice B8 ((treeG ns root).1.length) (c9)), (7, .int .i64 (((i : Nat) : Int))), (10, .string (ln (treeG ns root).1 i).path), (11, .int .i64 (((j : Nat) : Int))), (61, .slice A8 (ps.length) (c8)), (66, .slice (some ⟨b14, 0, none⟩) (1) (1))]) (hps' := fun b14 => [.blk b1 [.slice A (ns.length) (c)] 24, .abs (RowA 9 1 A8 ps.length c8 (strsV ps)), .abs R, .blk b14 [.string (((ln (treeG ns root).1 i).path : ByteArray).extract fr j)] 9]) (obl := fun b14 => [((j : Nat) : Int) = ((j : Nat) : Int), ((fr : Nat) : Int) = ((fr : Nat) : Int), j ≤ ((ln (treeG ns root).1 i).path : ByteArray).size, fr ≤ j]) [o_, o_, o_, o_, ⟨[], some j, some fr, none, none⟩, o_] [1, 2, 5, 7, 10, 11, 61, 66] [0, 1, 2, 3] (fun _ _ => by kernel_rfl) (fun b14 => ⟨rfl, rfl, by omega, by omega, trivial⟩) (fun b14 => ?_)
            refine TriL.append 1 (d := (some 67)) (t := 40) (e := 9) (z := .string ⟨#[]⟩) (size := 1) (bytes := 16) (n := ps.length) (cap := c8) (A := A8) (xs := (strsV ps)) (s := (.tmp 61)) (x := (.tmp 66)) (ats := #[40, 40]) (A' := some ⟨b14, 0, none⟩) (m := 1) (c' := 1) (news := [.string (((ln (treeG ns root).1 i).path : ByteArray).extract fr j)]) (fun _ => by kernel_rfl) rfl (by kernel_rfl) (fun _ => by kernel_rfl) (fun _ => by kernel_rfl) Try.underlying40 (by kernel_rfl) rfl (by decide) (rfl) (by simp [Value.oneCell']) (src_blk (j := 3) rfl) (by unfold maxLen; omega) (by omega) (fun A15 c16 => ?_)
            refine TriL.partEq 1 (p := .abs (RowA 9 1 A15 (ps.length + 1) c16 ((strsV ps) ++ [.string (((ln (treeG ns root).1 i).path : ByteArray).extract fr j)]))) (p' := .abs (RowA 9 1 A15 ((ps ++ [((ln (treeG ns root).1 i).path : ByteArray).extract fr j]).length) c16 (strsV (ps ++ [((ln (treeG ns root).1 i).path : ByteArray).extract fr j])))) (by kernel_rfl) (by simp [strsV]) ?_
            refine TriL.slot 67 (.slice A15 (ps.length + 1) (c16)) (.slice A15 ((ps ++ [((ln (treeG ns root).1 i).path : ByteArray).extract fr j]).length) (c16)) (fun _ => by kernel_rfl) (by simp) ?_
            refine TriL.segK (k' := 8) (fr' := [(1, .int .i64 (root)), (2, .pointer (some ⟨b1, 0, none⟩)), (5, .slice B8 ((treeG ns root).1.length) (c9)), (7, .int .i64 (((i : Nat) : Int))), (8, .slice A15 ((ps ++ [((ln (treeG ns root).1 i).path : ByteArray).extract fr j]).length) (c16)), (10, .string (ln (treeG ns root).1 i).path), (11, .int .i64 (((j : Nat) : Int)))]) (obl := []) [o_] [1, 2, 5, 7, 8, 10, 11] (fun _ _ => by kernel_rfl) trivial ?_
            refine TriL.nil (by kernel_rfl) ?_
            refine TriQ.next ?_
            refine Tri.region ?_
            refine TriL.segK (k' := 3) (fr' := [(1, .int .i64 (root)), (2, .pointer (some ⟨b1, 0, none⟩)), (5, .slice B8 ((treeG ns root).1.length) (c9)), (7, .int .i64 (((i : Nat) : Int))), (8, .slice A15 ((ps ++ [((ln (treeG ns root).1 i).path : ByteArray).extract fr j]).length) (c16)), (9, .int .i64 (((j + 1 : Nat) : Int))), (10, .string (ln (treeG ns root).1 i).path), (11, .int .i64 (((j : Nat) : Int)))]) (obl := [(Value.int .i64 (IntKind.wrap .i64 (((j : Nat) : Int) + 1))) = (.int .i64 (((j + 1 : Nat) : Int)))]) [o_, ⟨[], none, none, none, some (.int .i64 (((j + 1 : Nat) : Int)))⟩, o_] [1, 2, 5, 7, 8, 9, 10, 11] (fun _ _ => by kernel_rfl) ⟨wrapEq (by omega) (by omega) (by omega), trivial⟩ ?_
            refine TriL.nil (by kernel_rfl) ?_
            refine TriQ.blockNormal ?_
            refine TriQ.next ?_
            refine Tri.region ?_
            refine TriL.segK (k' := 3) (fr' := [(1, .int .i64 (root)), (2, .pointer (some ⟨b1, 0, none⟩)), (5, .slice B8 ((treeG ns root).1.length) (c9)), (7, .int .i64 (((i : Nat) : Int))), (8, .slice A15 ((ps ++ [((ln (treeG ns root).1 i).path : ByteArray).extract fr j]).length) (c16)), (9, .int .i64 (((j + 1 : Nat) : Int))), (10, .string (ln (treeG ns root).1 i).path), (11, .int .i64 (((j + 1 : Nat) : Int)))]) (obl := [(Value.int .i64 (IntKind.wrap .i64 (((j : Nat) : Int) + 1))) = (.int .i64 (((j + 1 : Nat) : Int)))]) [o_, ⟨[], none, none, none, some (.int .i64 (((j + 1 : Nat) : Int)))⟩, o_] [1, 2, 5, 7, 8, 9, 10, 11] (fun _ _ => by kernel_rfl) ⟨wrapEq (by omega) (by omega) (by omega), trivial⟩ ?_
            refine TriL.nil (by kernel_rfl) ?_
            exact TriQ.turn ((j + 1), A15, c16, (ps ++ [((ln (treeG ns root).1 i).path : ByteArray).extract fr j]), (j + 1)) (idx := [1, 2, 5, 7, 8, 9, 10, 11]) (pk := [0, 1, 2]) (show (((j + 1)) ≤ (ln (treeG ns root).1 i).path.size + 1) ∧ (i = 0 → ((j + 1)) = 0) ∧ (cuts (ln (treeG ns root).1 i).path ((j + 1)) = (((ps ++ [((ln (treeG ns root).1 i).path : ByteArray).extract fr j])), ((j + 1)))) ∧ (((ps ++ [((ln (treeG ns root).1 i).path : ByteArray).extract fr j])).length ≤ ((j + 1))) ∧ (((j + 1)) ≤ ((j + 1))) from ⟨by omega, by omega, by rw [cuts_hit (.inl (by omega)), hcu], by simp; omega, by omega⟩) (by show (ln (treeG ns root).1 i).path.size + 2 - ((j + 1)) < (ln (treeG ns root).1 i).path.size + 2 - j; omega) (fun _ => by kernel_rfl) rfl (by kernel_rfl)
          · refine TriL.segK (k' := 10) (fr' := [(1, .int .i64 (root)), (2, .pointer (some ⟨b1, 0, none⟩)), (5, .slice B8 ((treeG ns root).1.length) (c9)), (7, .int .i64 (((i : Nat) : Int))), (8, .slice A8 (ps.length) (c8)), (9, .int .i64 (((fr : Nat) : Int))), (10, .string (ln (treeG ns root).1 i).path), (11, .int .i64 (((j : Nat) : Int))), (60, .bool (decide (((((((ln (treeG ns root).1 i).path : ByteArray).data.getD (j) 0).toNat : Nat) : Int) : Int) = (47 : Int))))]) (obl := [((j : Nat) : Int) = ((j : Nat) : Int), j < ((ln (treeG ns root).1 i).path : ByteArray).size]) [o_, o_, ⟨[], some j, none, none, none⟩, o_, o_] [1, 2, 5, 7, 8, 9, 10, 11, 60] (fun _ _ => by kernel_rfl) ⟨rfl, by omega, trivial⟩ ?_
            refine TriL.nil (by kernel_rfl) ?_
            refine TriQ.next ?_
            refine Tri.condP (p := ((((((ln (treeG ns root).1 i).path : ByteArray).data.getD (j) 0).toNat : Nat) : Int) : Int) = (47 : Int)) (fun _ => by kernel_rfl) (fun h60 => ?_) (fun h60 => ?_)
            · refine Tri.seq ?_
              refine Tri.region ?_
              refine TriL.segN (k' := 6) (fr' := fun b17 => [(1, .int .i64 (root)), (2, .pointer (some ⟨b1, 0, none⟩)), (5, .slice B8 ((treeG ns root).1.length) (c9)), (7, .int .i64 (((i : Nat) : Int))), (10, .string (ln (treeG ns root).1 i).path), (11, .int .i64 (((j : Nat) : Int))), (61, .slice A8 (ps.length) (c8)), (66, .slice (some ⟨b17, 0, none⟩) (1) (1))]) (hps' := fun b17 => [.blk b1 [.slice A (ns.length) (c)] 24, .abs (RowA 9 1 A8 ps.length c8 (strsV ps)), .abs R, .blk b17 [.string (((ln (treeG ns root).1 i).path : ByteArray).extract fr j)] 9]) (obl := fun b17 => [((j : Nat) : Int) = ((j : Nat) : Int), ((fr : Nat) : Int) = ((fr : Nat) : Int), j ≤ ((ln (treeG ns root).1 i).path : ByteArray).size, fr ≤ j]) [o_, o_, o_, o_, ⟨[], some j, some fr, none, none⟩, o_] [1, 2, 5, 7, 10, 11, 61, 66] [0, 1, 2, 3] (fun _ _ => by kernel_rfl) (fun b17 => ⟨rfl, rfl, by omega, by omega, trivial⟩) (fun b17 => ?_)
              refine TriL.append 1 (d := (some 67)) (t := 40) (e := 9) (z := .string ⟨#[]⟩) (size := 1) (bytes := 16) (n := ps.length) (cap := c8) (A := A8) (xs := (strsV ps)) (s := (.tmp 61)) (x := (.tmp 66)) (ats := #[40, 40]) (A' := some ⟨b17, 0, none⟩) (m := 1) (c' := 1) (news := [.string (((ln (treeG ns root).1 i).path : ByteArray).extract fr j)]) (fun _ => by kernel_rfl) rfl (by kernel_rfl) (fun _ => by kernel_rfl) (fun _ => by kernel_rfl) Try.underlying40 (by kernel_rfl) rfl (by decide) (rfl) (by simp [Value.oneCell']) (src_blk (j := 3) rfl) (by unfold maxLen; omega) (by omega) (fun A18 c19 => ?_)
              refine TriL.partEq 1 (p := .abs (RowA 9 1 A18 (ps.length + 1) c19 ((strsV ps) ++ [.string (((ln (treeG ns root).1 i).path : ByteArray).extract fr j)]))) (p' := .abs (RowA 9 1 A18 ((ps ++ [((ln (treeG ns root).1 i).path : ByteArray).extract fr j]).length) c19 (strsV (ps ++ [((ln (treeG ns root).1 i).path : ByteArray).extract fr j])))) (by kernel_rfl) (by simp [strsV]) ?_
              refine TriL.slot 67 (.slice A18 (ps.length + 1) (c19)) (.slice A18 ((ps ++ [((ln (treeG ns root).1 i).path : ByteArray).extract fr j]).length) (c19)) (fun _ => by kernel_rfl) (by simp) ?_
              refine TriL.segK (k' := 8) (fr' := [(1, .int .i64 (root)), (2, .pointer (some ⟨b1, 0, none⟩)), (5, .slice B8 ((treeG ns root).1.length) (c9)), (7, .int .i64 (((i : Nat) : Int))), (8, .slice A18 ((ps ++ [((ln (treeG ns root).1 i).path : ByteArray).extract fr j]).length) (c19)), (10, .string (ln (treeG ns root).1 i).path), (11, .int .i64 (((j : Nat) : Int)))]) (obl := []) [o_] [1, 2, 5, 7, 8, 10, 11] (fun _ _ => by kernel_rfl) trivial ?_
              refine TriL.nil (by kernel_rfl) ?_
              refine TriQ.next ?_
              refine Tri.region ?_
              refine TriL.segK (k' := 3) (fr' := [(1, .int .i64 (root)), (2, .pointer (some ⟨b1, 0, none⟩)), (5, .slice B8 ((treeG ns root).1.length) (c9)), (7, .int .i64 (((i : Nat) : Int))), (8, .slice A18 ((ps ++ [((ln (treeG ns root).1 i).path : ByteArray).extract fr j]).length) (c19)), (9, .int .i64 (((j + 1 : Nat) : Int))), (10, .string (ln (treeG ns root).1 i).path), (11, .int .i64 (((j : Nat) : Int)))]) (obl := [(Value.int .i64 (IntKind.wrap .i64 (((j : Nat) : Int) + 1))) = (.int .i64 (((j + 1 : Nat) : Int)))]) [o_, ⟨[], none, none, none, some (.int .i64 (((j + 1 : Nat) : Int)))⟩, o_] [1, 2, 5, 7, 8, 9, 10, 11] (fun _ _ => by kernel_rfl) ⟨wrapEq (by omega) (by omega) (by omega), trivial⟩ ?_
              refine TriL.nil (by kernel_rfl) ?_
              refine TriQ.blockNormal ?_
              refine TriQ.next ?_
              refine Tri.region ?_
              refine TriL.segK (k' := 3) (fr' := [(1, .int .i64 (root)), (2, .pointer (some ⟨b1, 0, none⟩)), (5, .slice B8 ((treeG ns root).1.length) (c9)), (7, .int .i64 (((i : Nat) : Int))), (8, .slice A18 ((ps ++ [((ln (treeG ns root).1 i).path : ByteArray).extract fr j]).length) (c19)), (9, .int .i64 (((j + 1 : Nat) : Int))), (10, .string (ln (treeG ns root).1 i).path), (11, .int .i64 (((j + 1 : Nat) : Int)))]) (obl := [(Value.int .i64 (IntKind.wrap .i64 (((j : Nat) : Int) + 1))) = (.int .i64 (((j + 1 : Nat) : Int)))]) [o_, ⟨[], none, none, none, some (.int .i64 (((j + 1 : Nat) : Int)))⟩, o_] [1, 2, 5, 7, 8, 9, 10, 11] (fun _ _ => by kernel_rfl) ⟨wrapEq (by omega) (by omega) (by omega), trivial⟩ ?_
              refine TriL.nil (by kernel_rfl) ?_
              exact TriQ.turn ((j + 1), A18, c19, (ps ++ [((ln (treeG ns root).1 i).path : ByteArray).extract fr j]), (j + 1)) (idx := [1, 2, 5, 7, 8, 9, 10, 11]) (pk := [0, 1, 2]) (show (((j + 1)) ≤ (ln (treeG ns root).1 i).path.size + 1) ∧ (i = 0 → ((j + 1)) = 0) ∧ (cuts (ln (treeG ns root).1 i).path ((j + 1)) = (((ps ++ [((ln (treeG ns root).1 i).path : ByteArray).extract fr j])), ((j + 1)))) ∧ (((ps ++ [((ln (treeG ns root).1 i).path : ByteArray).extract fr j])).length ≤ ((j + 1))) ∧ (((j + 1)) ≤ ((j + 1))) from ⟨by omega, by omega, by rw [cuts_hit (.inr (show byteAt _ j = 47 by unfold byteAt; omega)), hcu], by simp; omega, by omega⟩) (by show (ln (treeG ns root).1 i).path.size + 2 - ((j + 1)) < (ln (treeG ns root).1 i).path.size + 2 - j; omega) (fun _ => by kernel_rfl) rfl (by kernel_rfl)
            · refine Tri.skip ?_
              refine TriQ.blockNormal ?_
              refine TriQ.next ?_
              refine Tri.region ?_
              refine TriL.segK (k' := 3) (fr' := [(1, .int .i64 (root)), (2, .pointer (some ⟨b1, 0, none⟩)), (5, .slice B8 ((treeG ns root).1.length) (c9)), (7, .int .i64 (((i : Nat) : Int))), (8, .slice A8 (ps.length) (c8)), (9, .int .i64 (((fr : Nat) : Int))), (10, .string (ln (treeG ns root).1 i).path), (11, .int .i64 (((j + 1 : Nat) : Int)))]) (obl := [(Value.int .i64 (IntKind.wrap .i64 (((j : Nat) : Int) + 1))) = (.int .i64 (((j + 1 : Nat) : Int)))]) [o_, ⟨[], none, none, none, some (.int .i64 (((j + 1 : Nat) : Int)))⟩, o_] [1, 2, 5, 7, 8, 9, 10, 11] (fun _ _ => by kernel_rfl) ⟨wrapEq (by omega) (by omega) (by omega), trivial⟩ ?_
              refine TriL.nil (by kernel_rfl) ?_
              exact TriQ.turn ((j + 1), A8, c8, ps, fr) (idx := [1, 2, 5, 7, 8, 9, 10, 11]) (pk := [0, 1, 2]) (show (((j + 1)) ≤ (ln (treeG ns root).1 i).path.size + 1) ∧ (i = 0 → ((j + 1)) = 0) ∧ (cuts (ln (treeG ns root).1 i).path ((j + 1)) = (ps, fr)) ∧ (ps.length ≤ ((j + 1))) ∧ (fr ≤ ((j + 1))) from ⟨by omega, by omega, by rw [cuts_miss (by omega) (show ¬ byteAt _ j = 47 by unfold byteAt; omega), hcu], by omega, by omega⟩) (by show (ln (treeG ns root).1 i).path.size + 2 - ((j + 1)) < (ln (treeG ns root).1 i).path.size + 2 - j; omega) (fun _ => by kernel_rfl) rfl (by kernel_rfl)
        · refine Tri.exit ?_
          refine TriQ.passExit ?_
          refine TriQ.passExit ?_
          refine TriQ.blockHit ?_
          refine TriQ.next ?_
          refine Tri.seq ?_
          refine Tri.region ?_
          have hstop : j = stop i (ln (treeG ns root).1 i).path := by unfold stop; split <;> omega
          have hfind : findG ns root ps = ((nd ns z).id, 0) := by rw [← hzz.find, ← hstop, hcu]
          refine TriL.rebase (Φ := fun β' => StrsAt β' A8 ps) 1 [0, 2] (hps' := [.blk b1 [.slice A (ns.length) (c)] 24, .abs R]) rfl rfl (by kernel_rfl) (fun F w h β' h1 h2 => RowB.of_row h h1 h2) (fun β20 hle_β20 hP2 => ?_)
          replace hG := hG.le hle_β20
          replace hT := hT.le hle_β20
          replace hle0 := hle0.trans hle_β20
          refine TriL.segK (k' := 1) (fr' := [(1, .int .i64 (root)), (2, .pointer (some ⟨b1, 0, none⟩)), (5, .slice B8 ((treeG ns root).1.length) (c9)), (7, .int .i64 (((i : Nat) : Int))), (8, .slice A8 (ps.length) (c8)), (10, .string (ln (treeG ns root).1 i).path), (71, .agg #[.slice A (ns.length) (c)])]) (obl := [b1 = b1]) [⟨[.at 0], none, none, none, none⟩] [1, 2, 5, 7, 8, 10, 71] (fun _ _ => by kernel_rfl) ⟨rfl, trivial⟩ ?_
          refine TriL.callB (f := 15) (args := #[.agg #[.slice A (ns.length) (c)]]) (d := (some 72)) (pre := []) (R := [.blk b1 [.slice A (ns.length) (c)] 24, .abs R]) (pk := [0, 1]) (fun _ => by kernel_rfl) (sp_copyGraph A c ns L hG hB.hl hB.hd) rfl (by kernel_rfl) ?_
          rintro β25 _ _ hle_β25 ⟨B21, c22, L23, rfl, rfl, hG24⟩
          replace hG := hG.le hle_β25
          replace hT := hT.le hle_β25
          replace hP2 := hP2.le hle_β25
          replace hle0 := hle0.trans hle_β25
          refine TriL.segK (k' := 4) (fr' := [(1, .int .i64 (root)), (2, .pointer (some ⟨b1, 0, none⟩)), (5, .slice B8 ((treeG ns root).1.length) (c9)), (7, .int .i64 (((i : Nat) : Int))), (10, .string (ln (treeG ns root).1 i).path), (72, .agg #[.slice B21 (ns.length) (c22)]), (73, .int .i64 (root)), (74, .slice A8 (ps.length) (c8))]) (obl := []) [o_, o_] [1, 2, 5, 7, 10, 72, 73, 74] (fun _ _ => by kernel_rfl) trivial ?_
          refine TriL.call (f := 23) (args := #[.agg #[.slice B21 (ns.length) (c22)], .int .i64 (root), .slice A8 (ps.length) (c8)]) (d := (some 75)) (pre := []) (R := [.blk b1 [.slice A (ns.length) (c)] 24, .abs R]) (pk := [0, 1]) (fun _ => by kernel_rfl) ((sp_find B21 c22 ns L23 hG24 hB root hz A8 c8 ps hP2 (by omega)).val (congrArg (fun z : Int × Int => Value.tuple #[.int .i64 z.1, .int .i64 z.2]) hfind)) rfl (by kernel_rfl) ?_
          rintro _ _ ⟨rfl, rfl⟩
          refine TriL.segK (k' := 10) (fr' := [(1, .int .i64 (root)), (2, .pointer (some ⟨b1, 0, none⟩)), (5, .slice B8 ((treeG ns root).1.length) (c9)), (7, .int .i64 (((i : Nat) : Int))), (10, .string (ln (treeG ns root).1 i).path), (12, .int .i64 ((nd ns z).id)), (13, .int .i64 0)]) (obl := []) [o_, o_, o_, o_, o_] [1, 2, 5, 7, 10, 12, 13] (fun _ _ => by kernel_rfl) trivial ?_
          refine TriL.nil (by kernel_rfl) ?_
          refine TriQ.next ?_
          refine Tri.seq ?_
          refine Tri.region ?_
          refine TriL.segK (k' := 2) (fr' := [(1, .int .i64 (root)), (2, .pointer (some ⟨b1, 0, none⟩)), (5, .slice B8 ((treeG ns root).1.length) (c9)), (7, .int .i64 (((i : Nat) : Int))), (10, .string (ln (treeG ns root).1 i).path), (12, .int .i64 ((nd ns z).id)), (13, .int .i64 0), (78, .agg #[.slice A (ns.length) (c)]), (79, .int .i64 ((nd ns z).id))]) (obl := [b1 = b1]) [⟨[.at 0], none, none, none, none⟩, o_] [1, 2, 5, 7, 10, 12, 13, 78, 79] (fun _ _ => by kernel_rfl) ⟨rfl, trivial⟩ ?_
          refine TriL.call (f := 29) (args := #[.agg #[.slice A (ns.length) (c)], .int .i64 ((nd ns z).id)]) (d := (some 80)) (pre := []) (R := [.blk b1 [.slice A (ns.length) (c)] 24, .abs R]) (pk := [0, 1]) (fun _ => by kernel_rfl) ((sp_at A c ns L hG hok.rise hB.hl (nd ns z).id).val (congrArg (Value.int .i64) hzz.place)) rfl (by kernel_rfl) ?_
          rintro _ _ ⟨rfl, rfl⟩
          refine TriL.segK (k' := 4) (fr' := [(1, .int .i64 (root)), (2, .pointer (some ⟨b1, 0, none⟩)), (5, .slice B8 ((treeG ns root).1.length) (c9)), (7, .int .i64 (((i : Nat) : Int))), (10, .string (ln (treeG ns root).1 i).path), (12, .int .i64 ((nd ns z).id)), (13, .int .i64 0), (14, .int .i64 (((z : Nat) : Int)))]) (obl := []) [o_] [1, 2, 5, 7, 10, 12, 13, 14] (fun _ _ => by kernel_rfl) trivial ?_
          refine TriL.nil (by kernel_rfl) ?_
          refine TriQ.next ?_
          refine Tri.seq ?_
          refine Tri.seq ?_
          refine Tri.regionQ (by kernel_rfl) (by kernel_rfl) ?_
          refine TriLQ.seg (k' := 21) (fr' := [(1, .int .i64 (root)), (2, .pointer (some ⟨b1, 0, none⟩)), (5, .slice B8 ((treeG ns root).1.length) (c9)), (7, .int .i64 (((i : Nat) : Int))), (10, .string (ln (treeG ns root).1 i).path), (12, .int .i64 ((nd ns z).id)), (14, .int .i64 (((z : Nat) : Int))), (101, .bool (!(decide (((nd ns z).kind : Int) = ((ln (treeG ns root).1 i).kind : Int)))))]) (obl := [(Rd β25 ⟨(blkOf B8), offOf B8 + i * 10 + 1, none⟩ (.int .i64 ((ln (treeG ns root).1 i).kind))), ((i : Nat) : Int) = ((i : Nat) : Int), i < (treeG ns root).1.length, (⟨(blkOf B8), offOf B8, none⟩ : Addr).spot = none, (B8 : Option Addr) = some ⟨(blkOf B8), offOf B8, none⟩, (Rd β25 ⟨(blkOf A), offOf A + z * 10 + 1, none⟩ (.int .i64 ((nd ns z).kind))), ((z : Nat) : Int) = ((z : Nat) : Int), z < ns.length, (⟨(blkOf A), offOf A, none⟩ : Addr).spot = none, (A : Option Addr) = some ⟨(blkOf A), offOf A, none⟩, b1 = b1, (Value.bool (decide ((((z : Nat) : Int) : Int) < (0 : Int)))) = (.bool false)]) [o_, o_, o_, o_, ⟨[], none, none, none, some (.bool false)⟩, o_, o_, o_, ⟨[.at 0], none, none, none, none⟩, o_, ⟨[], some z, none, some ⟨(blkOf A), offOf A, none⟩, none⟩, o_, ⟨[.old (.int .i64 ((nd ns z).kind))], none, none, none, none⟩, o_, o_, ⟨[], some i, none, some ⟨(blkOf B8), offOf B8, none⟩, none⟩, o_, ⟨[.old (.int .i64 ((ln (treeG ns root).1 i).kind))], none, none, none, none⟩, o_, o_, o_] [1, 2, 5, 7, 10, 12, 14, 101] (fun _ _ => by kernel_rfl) ⟨LinesAt.rd hT (i := i) (by omega) (j := 1) rfl, rfl, by omega, rfl, LinesAt.hd hT (i := i) (by omega), GraphAt.rd hG (i := z) (by omega) (j := 1) rfl, rfl, hzz.at_, rfl, GraphAt.hd hG (i := z) (by omega), rfl, congrArg Value.bool (decide_eq_false (by omega)), trivial⟩ ?_
          refine TriLQ.slotN 101 (((nd ns z).kind : Int) = ((ln (treeG ns root).1 i).kind : Int)) (fun _ => by kernel_rfl) (fun h101 => ?_) (fun h101 => ?_)
          · exact absurd hzz.kind h101
          · refine TriLQ.seg (k' := 35) (fr' := [(1, .int .i64 (root)), (2, .pointer (some ⟨b1, 0, none⟩)), (5, .slice B8 ((treeG ns root).1.length) (c9)), (7, .int .i64 (((i : Nat) : Int))), (10, .string (ln (treeG ns root).1 i).path), (12, .int .i64 ((nd ns z).id)), (115, .bool (!(decide (((nd ns z).mode : Int) = ((ln (treeG ns root).1 i).mode : Int)))))]) (obl := [(Rd β25 ⟨(blkOf B8), offOf B8 + i * 10 + 2, none⟩ (.int .i64 ((ln (treeG ns root).1 i).mode))), ((i : Nat) : Int) = ((i : Nat) : Int), i < (treeG ns root).1.length, (⟨(blkOf B8), offOf B8, none⟩ : Addr).spot = none, (B8 : Option Addr) = some ⟨(blkOf B8), offOf B8, none⟩, (Rd β25 ⟨(blkOf A), offOf A + z * 10 + 2, none⟩ (.int .i64 ((nd ns z).mode))), ((z : Nat) : Int) = ((z : Nat) : Int), z < ns.length, (⟨(blkOf A), offOf A, none⟩ : Addr).spot = none, (A : Option Addr) = some ⟨(blkOf A), offOf A, none⟩, b1 = b1]) [o_, ⟨[.at 0], none, none, none, none⟩, o_, ⟨[], some z, none, some ⟨(blkOf A), offOf A, none⟩, none⟩, o_, ⟨[.old (.int .i64 ((nd ns z).mode))], none, none, none, none⟩, o_, o_, ⟨[], some i, none, some ⟨(blkOf B8), offOf B8, none⟩, none⟩, o_, ⟨[.old (.int .i64 ((ln (treeG ns root).1 i).mode))], none, none, none, none⟩, o_, o_, o_] [1, 2, 5, 7, 10, 12, 115] (fun _ _ => by kernel_rfl) ⟨LinesAt.rd hT (i := i) (by omega) (j := 2) rfl, rfl, by omega, rfl, LinesAt.hd hT (i := i) (by omega), GraphAt.rd hG (i := z) (by omega) (j := 2) rfl, rfl, hzz.at_, rfl, GraphAt.hd hG (i := z) (by omega), rfl, trivial⟩ ?_
            refine TriLQ.slotN 115 (((nd ns z).mode : Int) = ((ln (treeG ns root).1 i).mode : Int)) (fun _ => by kernel_rfl) (fun h115 => ?_) (fun h115 => ?_)
            · exact absurd hzz.mode h115
            · refine TriLQ.seg (k' := 38) (fr' := [(1, .int .i64 (root)), (2, .pointer (some ⟨b1, 0, none⟩)), (5, .slice B8 ((treeG ns root).1.length) (c9)), (7, .int .i64 (((i : Nat) : Int))), (10, .string (ln (treeG ns root).1 i).path), (12, .int .i64 ((nd ns z).id)), (115, .bool false), (118, .bool (decide ((((i : Nat) : Int) : Int) > (0 : Int))))]) (obl := []) [o_, o_, o_] [1, 2, 5, 7, 10, 12, 115, 118] (fun _ _ => by kernel_rfl) trivial ?_
              refine TriLQ.slotP 118 ((((i : Nat) : Int) : Int) > (0 : Int)) (fun _ => by kernel_rfl) (fun h118 => ?_) (fun h118 => ?_)
              · refine TriLQ.seg (k' := 48) (fr' := [(1, .int .i64 (root)), (2, .pointer (some ⟨b1, 0, none⟩)), (5, .slice B8 ((treeG ns root).1.length) (c9)), (7, .int .i64 (((i : Nat) : Int))), (10, .string (ln (treeG ns root).1 i).path), (12, .int .i64 ((nd ns z).id)), (128, .bool (decide (((ln (treeG ns root).1 i).path : ByteArray) = (ln (treeG ns root).1 (i - 1)).path)))]) (obl := [(Value.bool (((ln (treeG ns root).1 i).path : ByteArray).toList == ((ln (treeG ns root).1 (i - 1)).path : ByteArray).toList)) = (.bool (decide (((ln (treeG ns root).1 i).path : ByteArray) = (ln (treeG ns root).1 (i - 1)).path))), (Rd β25 ⟨(blkOf B8), offOf B8 + (i - 1) * 10, none⟩ (.string (ln (treeG ns root).1 (i - 1)).path)), (((i - 1) : Nat) : Int) = (((i - 1) : Nat) : Int), (i - 1) < (treeG ns root).1.length, (⟨(blkOf B8), offOf B8, none⟩ : Addr).spot = none, (B8 : Option Addr) = some ⟨(blkOf B8), offOf B8, none⟩, (Value.int .i64 (IntKind.wrap .i64 (((i : Nat) : Int) - 1))) = (.int .i64 ((((i - 1) : Nat) : Int)))]) [o_, o_, o_, ⟨[], none, none, none, some (.int .i64 ((((i - 1) : Nat) : Int)))⟩, ⟨[], some (i - 1), none, some ⟨(blkOf B8), offOf B8, none⟩, none⟩, o_, ⟨[.old (.string (ln (treeG ns root).1 (i - 1)).path)], none, none, none, none⟩, ⟨[], none, none, none, some (.bool (decide (((ln (treeG ns root).1 i).path : ByteArray) = (ln (treeG ns root).1 (i - 1)).path)))⟩, o_, o_] [1, 2, 5, 7, 10, 12, 128] (fun _ _ => by kernel_rfl) ⟨strEqV _ _, LinesAt.rd hT (i := (i - 1)) (by omega) (j := 0) rfl, rfl, by omega, rfl, LinesAt.hd hT (i := (i - 1)) (by omega), wrapEq (by omega) (by omega) (by omega), trivial⟩ ?_
                refine TriLQ.nil (by kernel_rfl) ?_
                refine TriQ.next ?_
                refine Tri.condP (p := ((ln (treeG ns root).1 i).path : ByteArray) = (ln (treeG ns root).1 (i - 1)).path) (fun _ => by kernel_rfl) (fun h128 => ?_) (fun h128 => ?_)
                · exact absurd h128 (hnew (by omega))
                · refine Tri.skip ?_
                  refine TriQ.next ?_
                  refine Tri.seq ?_
                  refine Tri.region ?_
                  refine TriL.segK (k' := 3) (fr' := [(1, .int .i64 (root)), (2, .pointer (some ⟨b1, 0, none⟩)), (5, .slice B8 ((treeG ns root).1.length) (c9)), (7, .int .i64 (((i : Nat) : Int))), (10, .string (ln (treeG ns root).1 i).path), (12, .int .i64 ((nd ns z).id)), (131, .bool (decide ((((i : Nat) : Int) : Int) = (0 : Int))))]) (obl := []) [o_, o_, o_] [1, 2, 5, 7, 10, 12, 131] (fun _ _ => by kernel_rfl) trivial ?_
                  refine TriL.slotP 131 ((((i : Nat) : Int) : Int) = (0 : Int)) (fun _ => by kernel_rfl) (fun h131 => ?_) (fun h131 => ?_)
                  · refine TriL.segK (k' := 7) (fr' := [(1, .int .i64 (root)), (2, .pointer (some ⟨b1, 0, none⟩)), (5, .slice B8 ((treeG ns root).1.length) (c9)), (7, .int .i64 (((i : Nat) : Int))), (10, .string (ln (treeG ns root).1 i).path), (131, .bool true), (135, .bool (!(decide (((nd ns z).id : Int) = (root : Int)))))]) (obl := []) [o_, o_, o_, o_] [1, 2, 5, 7, 10, 131, 135] (fun _ _ => by kernel_rfl) trivial ?_
                    refine TriL.slotN 135 (((nd ns z).id : Int) = (root : Int)) (fun _ => by kernel_rfl) (fun h135 => ?_) (fun h135 => ?_)
                    · exact absurd (hzz.first (by omega)).1 h135
                    · refine TriL.segK (k' := 11) (fr' := [(1, .int .i64 (root)), (2, .pointer (some ⟨b1, 0, none⟩)), (5, .slice B8 ((treeG ns root).1.length) (c9)), (7, .int .i64 (((i : Nat) : Int))), (139, .bool (!(decide (((ln (treeG ns root).1 i).path : ByteArray) = ⟨#[46]⟩))))]) (obl := [(Value.bool (!(((ln (treeG ns root).1 i).path : ByteArray).toList == (⟨#[46]⟩ : ByteArray).toList))) = (.bool (!(decide (((ln (treeG ns root).1 i).path : ByteArray) = ⟨#[46]⟩))))]) [o_, ⟨[], none, none, none, some (.bool (!(decide (((ln (treeG ns root).1 i).path : ByteArray) = ⟨#[46]⟩))))⟩, o_, o_] [1, 2, 5, 7, 139] (fun _ _ => by kernel_rfl) ⟨strNeV _ _, trivial⟩ ?_
                      refine TriL.nil (by kernel_rfl) ?_
                      refine TriQ.next ?_
                      refine Tri.condN (p := ((ln (treeG ns root).1 i).path : ByteArray) = ⟨#[46]⟩) (fun _ => by kernel_rfl) (fun h139 => ?_) (fun h139 => ?_)
                      · exact absurd (hzz.first (by omega)).2 h139
                      · refine Tri.skip ?_
                        refine TriQ.blockNormal ?_
                        refine TriQ.next ?_
                        refine Tri.region ?_
                        refine TriL.segK (k' := 3) (fr' := [(1, .int .i64 (root)), (2, .pointer (some ⟨b1, 0, none⟩)), (5, .slice B8 ((treeG ns root).1.length) (c9)), (7, .int .i64 (((i + 1 : Nat) : Int)))]) (obl := [(Value.int .i64 (IntKind.wrap .i64 (((i : Nat) : Int) + 1))) = (.int .i64 (((i + 1 : Nat) : Int)))]) [o_, ⟨[], none, none, none, some (.int .i64 (((i + 1 : Nat) : Int)))⟩, o_] [1, 2, 5, 7] (fun _ _ => by kernel_rfl) ⟨wrapEq (by omega) (by omega) (by omega), trivial⟩ ?_
                        refine TriL.nil (by kernel_rfl) ?_
                        exact TriQ.turnB ((i + 1), β25) (hb := rfl) (idx := [1, 2, 5, 7]) (pk := [0, 1]) (show (((i + 1)) ≤ (treeG ns root).1.length) ∧ ((B0 W).le β25) ∧ (GraphAt β25 A ns L) ∧ (LinesAt β25 B8 (treeG ns root).1 M10) from ⟨by omega, hle0, hG, hT⟩) (by show (treeG ns root).1.length - ((i + 1)) < (treeG ns root).1.length - i; omega) (fun _ => by kernel_rfl) rfl (by kernel_rfl)
                  · refine TriL.segK (k' := 11) (fr' := [(1, .int .i64 (root)), (2, .pointer (some ⟨b1, 0, none⟩)), (5, .slice B8 ((treeG ns root).1.length) (c9)), (7, .int .i64 (((i : Nat) : Int))), (139, .bool false)]) (obl := []) [o_, o_, o_, o_, o_, o_, o_, o_] [1, 2, 5, 7, 139] (fun _ _ => by kernel_rfl) trivial ?_
                    refine TriL.nil (by kernel_rfl) ?_
                    refine TriQ.next ?_
                    refine Tri.condF (fun _ => by kernel_rfl) ?_
                    refine Tri.skip ?_
                    refine TriQ.blockNormal ?_
                    refine TriQ.next ?_
                    refine Tri.region ?_
                    refine TriL.segK (k' := 3) (fr' := [(1, .int .i64 (root)), (2, .pointer (some ⟨b1, 0, none⟩)), (5, .slice B8 ((treeG ns root).1.length) (c9)), (7, .int .i64 (((i + 1 : Nat) : Int)))]) (obl := [(Value.int .i64 (IntKind.wrap .i64 (((i : Nat) : Int) + 1))) = (.int .i64 (((i + 1 : Nat) : Int)))]) [o_, ⟨[], none, none, none, some (.int .i64 (((i + 1 : Nat) : Int)))⟩, o_] [1, 2, 5, 7] (fun _ _ => by kernel_rfl) ⟨wrapEq (by omega) (by omega) (by omega), trivial⟩ ?_
                    refine TriL.nil (by kernel_rfl) ?_
                    exact TriQ.turnB ((i + 1), β25) (hb := rfl) (idx := [1, 2, 5, 7]) (pk := [0, 1]) (show (((i + 1)) ≤ (treeG ns root).1.length) ∧ ((B0 W).le β25) ∧ (GraphAt β25 A ns L) ∧ (LinesAt β25 B8 (treeG ns root).1 M10) from ⟨by omega, hle0, hG, hT⟩) (by show (treeG ns root).1.length - ((i + 1)) < (treeG ns root).1.length - i; omega) (fun _ => by kernel_rfl) rfl (by kernel_rfl)
              · refine TriLQ.seg (k' := 48) (fr' := [(1, .int .i64 (root)), (2, .pointer (some ⟨b1, 0, none⟩)), (5, .slice B8 ((treeG ns root).1.length) (c9)), (7, .int .i64 (((i : Nat) : Int))), (10, .string (ln (treeG ns root).1 i).path), (12, .int .i64 ((nd ns z).id)), (128, .bool false)]) (obl := []) [o_, o_, o_, o_, o_, o_, o_, o_, o_, o_] [1, 2, 5, 7, 10, 12, 128] (fun _ _ => by kernel_rfl) trivial ?_
                refine TriLQ.nil (by kernel_rfl) ?_
                refine TriQ.next ?_
                refine Tri.condF (fun _ => by kernel_rfl) ?_
                refine Tri.skip ?_
                refine TriQ.next ?_
                refine Tri.seq ?_
                refine Tri.region ?_
                refine TriL.segK (k' := 3) (fr' := [(1, .int .i64 (root)), (2, .pointer (some ⟨b1, 0, none⟩)), (5, .slice B8 ((treeG ns root).1.length) (c9)), (7, .int .i64 (((i : Nat) : Int))), (10, .string (ln (treeG ns root).1 i).path), (12, .int .i64 ((nd ns z).id)), (131, .bool (decide ((((i : Nat) : Int) : Int) = (0 : Int))))]) (obl := []) [o_, o_, o_] [1, 2, 5, 7, 10, 12, 131] (fun _ _ => by kernel_rfl) trivial ?_
                refine TriL.slotP 131 ((((i : Nat) : Int) : Int) = (0 : Int)) (fun _ => by kernel_rfl) (fun h131 => ?_) (fun h131 => ?_)
                · refine TriL.segK (k' := 7) (fr' := [(1, .int .i64 (root)), (2, .pointer (some ⟨b1, 0, none⟩)), (5, .slice B8 ((treeG ns root).1.length) (c9)), (7, .int .i64 (((i : Nat) : Int))), (10, .string (ln (treeG ns root).1 i).path), (131, .bool true), (135, .bool (!(decide (((nd ns z).id : Int) = (root : Int)))))]) (obl := []) [o_, o_, o_, o_] [1, 2, 5, 7, 10, 131, 135] (fun _ _ => by kernel_rfl) trivial ?_
                  refine TriL.slotN 135 (((nd ns z).id : Int) = (root : Int)) (fun _ => by kernel_rfl) (fun h135 => ?_) (fun h135 => ?_)
                  · exact absurd (hzz.first (by omega)).1 h135
                  · refine TriL.segK (k' := 11) (fr' := [(1, .int .i64 (root)), (2, .pointer (some ⟨b1, 0, none⟩)), (5, .slice B8 ((treeG ns root).1.length) (c9)), (7, .int .i64 (((i : Nat) : Int))), (139, .bool (!(decide (((ln (treeG ns root).1 i).path : ByteArray) = ⟨#[46]⟩))))]) (obl := [(Value.bool (!(((ln (treeG ns root).1 i).path : ByteArray).toList == (⟨#[46]⟩ : ByteArray).toList))) = (.bool (!(decide (((ln (treeG ns root).1 i).path : ByteArray) = ⟨#[46]⟩))))]) [o_, ⟨[], none, none, none, some (.bool (!(decide (((ln (treeG ns root).1 i).path : ByteArray) = ⟨#[46]⟩))))⟩, o_, o_] [1, 2, 5, 7, 139] (fun _ _ => by kernel_rfl) ⟨strNeV _ _, trivial⟩ ?_
                    refine TriL.nil (by kernel_rfl) ?_
                    refine TriQ.next ?_
                    refine Tri.condN (p := ((ln (treeG ns root).1 i).path : ByteArray) = ⟨#[46]⟩) (fun _ => by kernel_rfl) (fun h139 => ?_) (fun h139 => ?_)
                    · exact absurd (hzz.first (by omega)).2 h139
                    · refine Tri.skip ?_
                      refine TriQ.blockNormal ?_
                      refine TriQ.next ?_
                      refine Tri.region ?_
                      refine TriL.segK (k' := 3) (fr' := [(1, .int .i64 (root)), (2, .pointer (some ⟨b1, 0, none⟩)), (5, .slice B8 ((treeG ns root).1.length) (c9)), (7, .int .i64 (((i + 1 : Nat) : Int)))]) (obl := [(Value.int .i64 (IntKind.wrap .i64 (((i : Nat) : Int) + 1))) = (.int .i64 (((i + 1 : Nat) : Int)))]) [o_, ⟨[], none, none, none, some (.int .i64 (((i + 1 : Nat) : Int)))⟩, o_] [1, 2, 5, 7] (fun _ _ => by kernel_rfl) ⟨wrapEq (by omega) (by omega) (by omega), trivial⟩ ?_
                      refine TriL.nil (by kernel_rfl) ?_
                      exact TriQ.turnB ((i + 1), β25) (hb := rfl) (idx := [1, 2, 5, 7]) (pk := [0, 1]) (show (((i + 1)) ≤ (treeG ns root).1.length) ∧ ((B0 W).le β25) ∧ (GraphAt β25 A ns L) ∧ (LinesAt β25 B8 (treeG ns root).1 M10) from ⟨by omega, hle0, hG, hT⟩) (by show (treeG ns root).1.length - ((i + 1)) < (treeG ns root).1.length - i; omega) (fun _ => by kernel_rfl) rfl (by kernel_rfl)
                · refine TriL.segK (k' := 11) (fr' := [(1, .int .i64 (root)), (2, .pointer (some ⟨b1, 0, none⟩)), (5, .slice B8 ((treeG ns root).1.length) (c9)), (7, .int .i64 (((i : Nat) : Int))), (139, .bool false)]) (obl := []) [o_, o_, o_, o_, o_, o_, o_, o_] [1, 2, 5, 7, 139] (fun _ _ => by kernel_rfl) trivial ?_
                  refine TriL.nil (by kernel_rfl) ?_
                  refine TriQ.next ?_
                  refine Tri.condF (fun _ => by kernel_rfl) ?_
                  refine Tri.skip ?_
                  refine TriQ.blockNormal ?_
                  refine TriQ.next ?_
                  refine Tri.region ?_
                  refine TriL.segK (k' := 3) (fr' := [(1, .int .i64 (root)), (2, .pointer (some ⟨b1, 0, none⟩)), (5, .slice B8 ((treeG ns root).1.length) (c9)), (7, .int .i64 (((i + 1 : Nat) : Int)))]) (obl := [(Value.int .i64 (IntKind.wrap .i64 (((i : Nat) : Int) + 1))) = (.int .i64 (((i + 1 : Nat) : Int)))]) [o_, ⟨[], none, none, none, some (.int .i64 (((i + 1 : Nat) : Int)))⟩, o_] [1, 2, 5, 7] (fun _ _ => by kernel_rfl) ⟨wrapEq (by omega) (by omega) (by omega), trivial⟩ ?_
                  refine TriL.nil (by kernel_rfl) ?_
                  exact TriQ.turnB ((i + 1), β25) (hb := rfl) (idx := [1, 2, 5, 7]) (pk := [0, 1]) (show (((i + 1)) ≤ (treeG ns root).1.length) ∧ ((B0 W).le β25) ∧ (GraphAt β25 A ns L) ∧ (LinesAt β25 B8 (treeG ns root).1 M10) from ⟨by omega, hle0, hG, hT⟩) (by show (treeG ns root).1.length - ((i + 1)) < (treeG ns root).1.length - i; omega) (fun _ => by kernel_rfl) rfl (by kernel_rfl)
      · refine TriL.segK (k' := 8) (fr' := [(1, .int .i64 (root)), (2, .pointer (some ⟨b1, 0, none⟩)), (5, .slice B8 ((treeG ns root).1.length) (c9)), (7, .int .i64 (((i : Nat) : Int))), (8, .slice A8 (ps.length) (c8)), (9, .int .i64 (((fr : Nat) : Int))), (10, .string (ln (treeG ns root).1 i).path), (11, .int .i64 (((j : Nat) : Int))), (48, .bool false)]) (obl := []) [o_, o_, o_] [1, 2, 5, 7, 8, 9, 10, 11, 48] (fun _ _ => by kernel_rfl) trivial ?_
        refine TriL.nil (by kernel_rfl) ?_
        refine TriQ.next ?_
        refine Tri.condF (fun _ => by kernel_rfl) ?_
        refine Tri.exit ?_
        refine TriQ.passExit ?_
        refine TriQ.passExit ?_
        refine TriQ.blockHit ?_
        refine TriQ.next ?_
        refine Tri.seq ?_
        refine Tri.region ?_
        have hstop : j = stop i (ln (treeG ns root).1 i).path := by unfold stop; split <;> omega
        have hfind : findG ns root ps = ((nd ns z).id, 0) := by rw [← hzz.find, ← hstop, hcu]
        refine TriL.rebase (Φ := fun β' => StrsAt β' A8 ps) 1 [0, 2] (hps' := [.blk b1 [.slice A (ns.length) (c)] 24, .abs R]) rfl rfl (by kernel_rfl) (fun F w h β' h1 h2 => RowB.of_row h h1 h2) (fun β26 hle_β26 hP2 => ?_)
        replace hG := hG.le hle_β26
        replace hT := hT.le hle_β26
        replace hle0 := hle0.trans hle_β26
        refine TriL.segK (k' := 1) (fr' := [(1, .int .i64 (root)), (2, .pointer (some ⟨b1, 0, none⟩)), (5, .slice B8 ((treeG ns root).1.length) (c9)), (7, .int .i64 (((i : Nat) : Int))), (8, .slice A8 (ps.length) (c8)), (10, .string (ln (treeG ns root).1 i).path), (71, .agg #[.slice A (ns.length) (c)])]) (obl := [b1 = b1]) [⟨[.at 0], none, none, none, none⟩] [1, 2, 5, 7, 8, 10, 71] (fun _ _ => by kernel_rfl) ⟨rfl, trivial⟩ ?_
        refine TriL.callB (f := 15) (args := #[.agg #[.slice A (ns.length) (c)]]) (d := (some 72)) (pre := []) (R := [.blk b1 [.slice A (ns.length) (c)] 24, .abs R]) (pk := [0, 1]) (fun _ => by kernel_rfl) (sp_copyGraph A c ns L hG hB.hl hB.hd) rfl (by kernel_rfl) ?_
        rintro β31 _ _ hle_β31 ⟨B27, c28, L29, rfl, rfl, hG30⟩
        replace hG := hG.le hle_β31
        replace hT := hT.le hle_β31
        replace hP2 := hP2.le hle_β31
        replace hle0 := hle0.trans hle_β31
        refine TriL.segK (k' := 4) (fr' := [(1, .int .i64 (root)), (2, .pointer (some ⟨b1, 0, none⟩)), (5, .slice B8 ((treeG ns root).1.length) (c9)), (7, .int .i64 (((i : Nat) : Int))), (10, .string (ln (treeG ns root).1 i).path), (72, .agg #[.slice B27 (ns.length) (c28)]), (73, .int .i64 (root)), (74, .slice A8 (ps.length) (c8))]) (obl := []) [o_, o_] [1, 2, 5, 7, 10, 72, 73, 74] (fun _ _ => by kernel_rfl) trivial ?_
        refine TriL.call (f := 23) (args := #[.agg #[.slice B27 (ns.length) (c28)], .int .i64 (root), .slice A8 (ps.length) (c8)]) (d := (some 75)) (pre := []) (R := [.blk b1 [.slice A (ns.length) (c)] 24, .abs R]) (pk := [0, 1]) (fun _ => by kernel_rfl) ((sp_find B27 c28 ns L29 hG30 hB root hz A8 c8 ps hP2 (by omega)).val (congrArg (fun z : Int × Int => Value.tuple #[.int .i64 z.1, .int .i64 z.2]) hfind)) rfl (by kernel_rfl) ?_
        rintro _ _ ⟨rfl, rfl⟩
        refine TriL.segK (k' := 10) (fr' := [(1, .int .i64 (root)), (2, .pointer (some ⟨b1, 0, none⟩)), (5, .slice B8 ((treeG ns root).1.length) (c9)), (7, .int .i64 (((i : Nat) : Int))), (10, .string (ln (treeG ns root).1 i).path), (12, .int .i64 ((nd ns z).id)), (13, .int .i64 0)]) (obl := []) [o_, o_, o_, o_, o_] [1, 2, 5, 7, 10, 12, 13] (fun _ _ => by kernel_rfl) trivial ?_
        refine TriL.nil (by kernel_rfl) ?_
        refine TriQ.next ?_
        refine Tri.seq ?_
        refine Tri.region ?_
        refine TriL.segK (k' := 2) (fr' := [(1, .int .i64 (root)), (2, .pointer (some ⟨b1, 0, none⟩)), (5, .slice B8 ((treeG ns root).1.length) (c9)), (7, .int .i64 (((i : Nat) : Int))), (10, .string (ln (treeG ns root).1 i).path), (12, .int .i64 ((nd ns z).id)), (13, .int .i64 0), (78, .agg #[.slice A (ns.length) (c)]), (79, .int .i64 ((nd ns z).id))]) (obl := [b1 = b1]) [⟨[.at 0], none, none, none, none⟩, o_] [1, 2, 5, 7, 10, 12, 13, 78, 79] (fun _ _ => by kernel_rfl) ⟨rfl, trivial⟩ ?_
        refine TriL.call (f := 29) (args := #[.agg #[.slice A (ns.length) (c)], .int .i64 ((nd ns z).id)]) (d := (some 80)) (pre := []) (R := [.blk b1 [.slice A (ns.length) (c)] 24, .abs R]) (pk := [0, 1]) (fun _ => by kernel_rfl) ((sp_at A c ns L hG hok.rise hB.hl (nd ns z).id).val (congrArg (Value.int .i64) hzz.place)) rfl (by kernel_rfl) ?_
        rintro _ _ ⟨rfl, rfl⟩
        refine TriL.segK (k' := 4) (fr' := [(1, .int .i64 (root)), (2, .pointer (some ⟨b1, 0, none⟩)), (5, .slice B8 ((treeG ns root).1.length) (c9)), (7, .int .i64 (((i : Nat) : Int))), (10, .string (ln (treeG ns root).1 i).path), (12, .int .i64 ((nd ns z).id)), (13, .int .i64 0), (14, .int .i64 (((z : Nat) : Int)))]) (obl := []) [o_] [1, 2, 5, 7, 10, 12, 13, 14] (fun _ _ => by kernel_rfl) trivial ?_
        refine TriL.nil (by kernel_rfl) ?_
        refine TriQ.next ?_
        refine Tri.seq ?_
        refine Tri.seq ?_
        refine Tri.regionQ (by kernel_rfl) (by kernel_rfl) ?_
        refine TriLQ.seg (k' := 21) (fr' := [(1, .int .i64 (root)), (2, .pointer (some ⟨b1, 0, none⟩)), (5, .slice B8 ((treeG ns root).1.length) (c9)), (7, .int .i64 (((i : Nat) : Int))), (10, .string (ln (treeG ns root).1 i).path), (12, .int .i64 ((nd ns z).id)), (14, .int .i64 (((z : Nat) : Int))), (101, .bool (!(decide (((nd ns z).kind : Int) = ((ln (treeG ns root).1 i).kind : Int)))))]) (obl := [(Rd β31 ⟨(blkOf B8), offOf B8 + i * 10 + 1, none⟩ (.int .i64 ((ln (treeG ns root).1 i).kind))), ((i : Nat) : Int) = ((i : Nat) : Int), i < (treeG ns root).1.length, (⟨(blkOf B8), offOf B8, none⟩ : Addr).spot = none, (B8 : Option Addr) = some ⟨(blkOf B8), offOf B8, none⟩, (Rd β31 ⟨(blkOf A), offOf A + z * 10 + 1, none⟩ (.int .i64 ((nd ns z).kind))), ((z : Nat) : Int) = ((z : Nat) : Int), z < ns.length, (⟨(blkOf A), offOf A, none⟩ : Addr).spot = none, (A : Option Addr) = some ⟨(blkOf A), offOf A, none⟩, b1 = b1, (Value.bool (decide ((((z : Nat) : Int) : Int) < (0 : Int)))) = (.bool false)]) [o_, o_, o_, o_, ⟨[], none, none, none, some (.bool false)⟩, o_, o_, o_, ⟨[.at 0], none, none, none, none⟩, o_, ⟨[], some z, none, some ⟨(blkOf A), offOf A, none⟩, none⟩, o_, ⟨[.old (.int .i64 ((nd ns z).kind))], none, none, none, none⟩, o_, o_, ⟨[], some i, none, some ⟨(blkOf B8), offOf B8, none⟩, none⟩, o_, ⟨[.old (.int .i64 ((ln (treeG ns root).1 i).kind))], none, none, none, none⟩, o_, o_, o_] [1, 2, 5, 7, 10, 12, 14, 101] (fun _ _ => by kernel_rfl) ⟨LinesAt.rd hT (i := i) (by omega) (j := 1) rfl, rfl, by omega, rfl, LinesAt.hd hT (i := i) (by omega), GraphAt.rd hG (i := z) (by omega) (j := 1) rfl, rfl, hzz.at_, rfl, GraphAt.hd hG (i := z) (by omega), rfl, congrArg Value.bool (decide_eq_false (by omega)), trivial⟩ ?_
        refine TriLQ.slotN 101 (((nd ns z).kind : Int) = ((ln (treeG ns root).1 i).kind : Int)) (fun _ => by kernel_rfl) (fun h101 => ?_) (fun h101 => ?_)
        · exact absurd hzz.kind h101
        · refine TriLQ.seg (k' := 35) (fr' := [(1, .int .i64 (root)), (2, .pointer (some ⟨b1, 0, none⟩)), (5, .slice B8 ((treeG ns root).1.length) (c9)), (7, .int .i64 (((i : Nat) : Int))), (10, .string (ln (treeG ns root).1 i).path), (12, .int .i64 ((nd ns z).id)), (115, .bool (!(decide (((nd ns z).mode : Int) = ((ln (treeG ns root).1 i).mode : Int)))))]) (obl := [(Rd β31 ⟨(blkOf B8), offOf B8 + i * 10 + 2, none⟩ (.int .i64 ((ln (treeG ns root).1 i).mode))), ((i : Nat) : Int) = ((i : Nat) : Int), i < (treeG ns root).1.length, (⟨(blkOf B8), offOf B8, none⟩ : Addr).spot = none, (B8 : Option Addr) = some ⟨(blkOf B8), offOf B8, none⟩, (Rd β31 ⟨(blkOf A), offOf A + z * 10 + 2, none⟩ (.int .i64 ((nd ns z).mode))), ((z : Nat) : Int) = ((z : Nat) : Int), z < ns.length, (⟨(blkOf A), offOf A, none⟩ : Addr).spot = none, (A : Option Addr) = some ⟨(blkOf A), offOf A, none⟩, b1 = b1]) [o_, ⟨[.at 0], none, none, none, none⟩, o_, ⟨[], some z, none, some ⟨(blkOf A), offOf A, none⟩, none⟩, o_, ⟨[.old (.int .i64 ((nd ns z).mode))], none, none, none, none⟩, o_, o_, ⟨[], some i, none, some ⟨(blkOf B8), offOf B8, none⟩, none⟩, o_, ⟨[.old (.int .i64 ((ln (treeG ns root).1 i).mode))], none, none, none, none⟩, o_, o_, o_] [1, 2, 5, 7, 10, 12, 115] (fun _ _ => by kernel_rfl) ⟨LinesAt.rd hT (i := i) (by omega) (j := 2) rfl, rfl, by omega, rfl, LinesAt.hd hT (i := i) (by omega), GraphAt.rd hG (i := z) (by omega) (j := 2) rfl, rfl, hzz.at_, rfl, GraphAt.hd hG (i := z) (by omega), rfl, trivial⟩ ?_
          refine TriLQ.slotN 115 (((nd ns z).mode : Int) = ((ln (treeG ns root).1 i).mode : Int)) (fun _ => by kernel_rfl) (fun h115 => ?_) (fun h115 => ?_)
          · exact absurd hzz.mode h115
          · refine TriLQ.seg (k' := 38) (fr' := [(1, .int .i64 (root)), (2, .pointer (some ⟨b1, 0, none⟩)), (5, .slice B8 ((treeG ns root).1.length) (c9)), (7, .int .i64 (((i : Nat) : Int))), (10, .string (ln (treeG ns root).1 i).path), (12, .int .i64 ((nd ns z).id)), (115, .bool false), (118, .bool (decide ((((i : Nat) : Int) : Int) > (0 : Int))))]) (obl := []) [o_, o_, o_] [1, 2, 5, 7, 10, 12, 115, 118] (fun _ _ => by kernel_rfl) trivial ?_
            refine TriLQ.slotP 118 ((((i : Nat) : Int) : Int) > (0 : Int)) (fun _ => by kernel_rfl) (fun h118 => ?_) (fun h118 => ?_)
            · refine TriLQ.seg (k' := 48) (fr' := [(1, .int .i64 (root)), (2, .pointer (some ⟨b1, 0, none⟩)), (5, .slice B8 ((treeG ns root).1.length) (c9)), (7, .int .i64 (((i : Nat) : Int))), (10, .string (ln (treeG ns root).1 i).path), (12, .int .i64 ((nd ns z).id)), (128, .bool (decide (((ln (treeG ns root).1 i).path : ByteArray) = (ln (treeG ns root).1 (i - 1)).path)))]) (obl := [(Value.bool (((ln (treeG ns root).1 i).path : ByteArray).toList == ((ln (treeG ns root).1 (i - 1)).path : ByteArray).toList)) = (.bool (decide (((ln (treeG ns root).1 i).path : ByteArray) = (ln (treeG ns root).1 (i - 1)).path))), (Rd β31 ⟨(blkOf B8), offOf B8 + (i - 1) * 10, none⟩ (.string (ln (treeG ns root).1 (i - 1)).path)), (((i - 1) : Nat) : Int) = (((i - 1) : Nat) : Int), (i - 1) < (treeG ns root).1.length, (⟨(blkOf B8), offOf B8, none⟩ : Addr).spot = none, (B8 : Option Addr) = some ⟨(blkOf B8), offOf B8, none⟩, (Value.int .i64 (IntKind.wrap .i64 (((i : Nat) : Int) - 1))) = (.int .i64 ((((i - 1) : Nat) : Int)))]) [o_, o_, o_, ⟨[], none, none, none, some (.int .i64 ((((i - 1) : Nat) : Int)))⟩, ⟨[], some (i - 1), none, some ⟨(blkOf B8), offOf B8, none⟩, none⟩, o_, ⟨[.old (.string (ln (treeG ns root).1 (i - 1)).path)], none, none, none, none⟩, ⟨[], none, none, none, some (.bool (decide (((ln (treeG ns root).1 i).path : ByteArray) = (ln (treeG ns root).1 (i - 1)).path)))⟩, o_, o_] [1, 2, 5, 7, 10, 12, 128] (fun _ _ => by kernel_rfl) ⟨strEqV _ _, LinesAt.rd hT (i := (i - 1)) (by omega) (j := 0) rfl, rfl, by omega, rfl, LinesAt.hd hT (i := (i - 1)) (by omega), wrapEq (by omega) (by omega) (by omega), trivial⟩ ?_
              refine TriLQ.nil (by kernel_rfl) ?_
              refine TriQ.next ?_
              refine Tri.condP (p := ((ln (treeG ns root).1 i).path : ByteArray) = (ln (treeG ns root).1 (i - 1)).path) (fun _ => by kernel_rfl) (fun h128 => ?_) (fun h128 => ?_)
              · exact absurd h128 (hnew (by omega))
              · refine Tri.skip ?_
                refine TriQ.next ?_
                refine Tri.seq ?_
                refine Tri.region ?_
                refine TriL.segK (k' := 3) (fr' := [(1, .int .i64 (root)), (2, .pointer (some ⟨b1, 0, none⟩)), (5, .slice B8 ((treeG ns root).1.length) (c9)), (7, .int .i64 (((i : Nat) : Int))), (10, .string (ln (treeG ns root).1 i).path), (12, .int .i64 ((nd ns z).id)), (131, .bool (decide ((((i : Nat) : Int) : Int) = (0 : Int))))]) (obl := []) [o_, o_, o_] [1, 2, 5, 7, 10, 12, 131] (fun _ _ => by kernel_rfl) trivial ?_
                refine TriL.slotP 131 ((((i : Nat) : Int) : Int) = (0 : Int)) (fun _ => by kernel_rfl) (fun h131 => ?_) (fun h131 => ?_)
                · refine TriL.segK (k' := 7) (fr' := [(1, .int .i64 (root)), (2, .pointer (some ⟨b1, 0, none⟩)), (5, .slice B8 ((treeG ns root).1.length) (c9)), (7, .int .i64 (((i : Nat) : Int))), (10, .string (ln (treeG ns root).1 i).path), (131, .bool true), (135, .bool (!(decide (((nd ns z).id : Int) = (root : Int)))))]) (obl := []) [o_, o_, o_, o_] [1, 2, 5, 7, 10, 131, 135] (fun _ _ => by kernel_rfl) trivial ?_
                  refine TriL.slotN 135 (((nd ns z).id : Int) = (root : Int)) (fun _ => by kernel_rfl) (fun h135 => ?_) (fun h135 => ?_)
                  · exact absurd (hzz.first (by omega)).1 h135
                  · refine TriL.segK (k' := 11) (fr' := [(1, .int .i64 (root)), (2, .pointer (some ⟨b1, 0, none⟩)), (5, .slice B8 ((treeG ns root).1.length) (c9)), (7, .int .i64 (((i : Nat) : Int))), (139, .bool (!(decide (((ln (treeG ns root).1 i).path : ByteArray) = ⟨#[46]⟩))))]) (obl := [(Value.bool (!(((ln (treeG ns root).1 i).path : ByteArray).toList == (⟨#[46]⟩ : ByteArray).toList))) = (.bool (!(decide (((ln (treeG ns root).1 i).path : ByteArray) = ⟨#[46]⟩))))]) [o_, ⟨[], none, none, none, some (.bool (!(decide (((ln (treeG ns root).1 i).path : ByteArray) = ⟨#[46]⟩))))⟩, o_, o_] [1, 2, 5, 7, 139] (fun _ _ => by kernel_rfl) ⟨strNeV _ _, trivial⟩ ?_
                    refine TriL.nil (by kernel_rfl) ?_
                    refine TriQ.next ?_
                    refine Tri.condN (p := ((ln (treeG ns root).1 i).path : ByteArray) = ⟨#[46]⟩) (fun _ => by kernel_rfl) (fun h139 => ?_) (fun h139 => ?_)
                    · exact absurd (hzz.first (by omega)).2 h139
                    · refine Tri.skip ?_
                      refine TriQ.blockNormal ?_
                      refine TriQ.next ?_
                      refine Tri.region ?_
                      refine TriL.segK (k' := 3) (fr' := [(1, .int .i64 (root)), (2, .pointer (some ⟨b1, 0, none⟩)), (5, .slice B8 ((treeG ns root).1.length) (c9)), (7, .int .i64 (((i + 1 : Nat) : Int)))]) (obl := [(Value.int .i64 (IntKind.wrap .i64 (((i : Nat) : Int) + 1))) = (.int .i64 (((i + 1 : Nat) : Int)))]) [o_, ⟨[], none, none, none, some (.int .i64 (((i + 1 : Nat) : Int)))⟩, o_] [1, 2, 5, 7] (fun _ _ => by kernel_rfl) ⟨wrapEq (by omega) (by omega) (by omega), trivial⟩ ?_
                      refine TriL.nil (by kernel_rfl) ?_
                      exact TriQ.turnB ((i + 1), β31) (hb := rfl) (idx := [1, 2, 5, 7]) (pk := [0, 1]) (show (((i + 1)) ≤ (treeG ns root).1.length) ∧ ((B0 W).le β31) ∧ (GraphAt β31 A ns L) ∧ (LinesAt β31 B8 (treeG ns root).1 M10) from ⟨by omega, hle0, hG, hT⟩) (by show (treeG ns root).1.length - ((i + 1)) < (treeG ns root).1.length - i; omega) (fun _ => by kernel_rfl) rfl (by kernel_rfl)
                · refine TriL.segK (k' := 11) (fr' := [(1, .int .i64 (root)), (2, .pointer (some ⟨b1, 0, none⟩)), (5, .slice B8 ((treeG ns root).1.length) (c9)), (7, .int .i64 (((i : Nat) : Int))), (139, .bool false)]) (obl := []) [o_, o_, o_, o_, o_, o_, o_, o_] [1, 2, 5, 7, 139] (fun _ _ => by kernel_rfl) trivial ?_
                  refine TriL.nil (by kernel_rfl) ?_
                  refine TriQ.next ?_
                  refine Tri.condF (fun _ => by kernel_rfl) ?_
                  refine Tri.skip ?_
                  refine TriQ.blockNormal ?_
                  refine TriQ.next ?_
                  refine Tri.region ?_
                  refine TriL.segK (k' := 3) (fr' := [(1, .int .i64 (root)), (2, .pointer (some ⟨b1, 0, none⟩)), (5, .slice B8 ((treeG ns root).1.length) (c9)), (7, .int .i64 (((i + 1 : Nat) : Int)))]) (obl := [(Value.int .i64 (IntKind.wrap .i64 (((i : Nat) : Int) + 1))) = (.int .i64 (((i + 1 : Nat) : Int)))]) [o_, ⟨[], none, none, none, some (.int .i64 (((i + 1 : Nat) : Int)))⟩, o_] [1, 2, 5, 7] (fun _ _ => by kernel_rfl) ⟨wrapEq (by omega) (by omega) (by omega), trivial⟩ ?_
                  refine TriL.nil (by kernel_rfl) ?_
                  exact TriQ.turnB ((i + 1), β31) (hb := rfl) (idx := [1, 2, 5, 7]) (pk := [0, 1]) (show (((i + 1)) ≤ (treeG ns root).1.length) ∧ ((B0 W).le β31) ∧ (GraphAt β31 A ns L) ∧ (LinesAt β31 B8 (treeG ns root).1 M10) from ⟨by omega, hle0, hG, hT⟩) (by show (treeG ns root).1.length - ((i + 1)) < (treeG ns root).1.length - i; omega) (fun _ => by kernel_rfl) rfl (by kernel_rfl)
            · refine TriLQ.seg (k' := 48) (fr' := [(1, .int .i64 (root)), (2, .pointer (some ⟨b1, 0, none⟩)), (5, .slice B8 ((treeG ns root).1.length) (c9)), (7, .int .i64 (((i : Nat) : Int))), (10, .string (ln (treeG ns root).1 i).path), (12, .int .i64 ((nd ns z).id)), (128, .bool false)]) (obl := []) [o_, o_, o_, o_, o_, o_, o_, o_, o_, o_] [1, 2, 5, 7, 10, 12, 128] (fun _ _ => by kernel_rfl) trivial ?_
              refine TriLQ.nil (by kernel_rfl) ?_
              refine TriQ.next ?_
              refine Tri.condF (fun _ => by kernel_rfl) ?_
              refine Tri.skip ?_
              refine TriQ.next ?_
              refine Tri.seq ?_
              refine Tri.region ?_
              refine TriL.segK (k' := 3) (fr' := [(1, .int .i64 (root)), (2, .pointer (some ⟨b1, 0, none⟩)), (5, .slice B8 ((treeG ns root).1.length) (c9)), (7, .int .i64 (((i : Nat) : Int))), (10, .string (ln (treeG ns root).1 i).path), (12, .int .i64 ((nd ns z).id)), (131, .bool (decide ((((i : Nat) : Int) : Int) = (0 : Int))))]) (obl := []) [o_, o_, o_] [1, 2, 5, 7, 10, 12, 131] (fun _ _ => by kernel_rfl) trivial ?_
              refine TriL.slotP 131 ((((i : Nat) : Int) : Int) = (0 : Int)) (fun _ => by kernel_rfl) (fun h131 => ?_) (fun h131 => ?_)
              · refine TriL.segK (k' := 7) (fr' := [(1, .int .i64 (root)), (2, .pointer (some ⟨b1, 0, none⟩)), (5, .slice B8 ((treeG ns root).1.length) (c9)), (7, .int .i64 (((i : Nat) : Int))), (10, .string (ln (treeG ns root).1 i).path), (131, .bool true), (135, .bool (!(decide (((nd ns z).id : Int) = (root : Int)))))]) (obl := []) [o_, o_, o_, o_] [1, 2, 5, 7, 10, 131, 135] (fun _ _ => by kernel_rfl) trivial ?_
                refine TriL.slotN 135 (((nd ns z).id : Int) = (root : Int)) (fun _ => by kernel_rfl) (fun h135 => ?_) (fun h135 => ?_)
                · exact absurd (hzz.first (by omega)).1 h135
                · refine TriL.segK (k' := 11) (fr' := [(1, .int .i64 (root)), (2, .pointer (some ⟨b1, 0, none⟩)), (5, .slice B8 ((treeG ns root).1.length) (c9)), (7, .int .i64 (((i : Nat) : Int))), (139, .bool (!(decide (((ln (treeG ns root).1 i).path : ByteArray) = ⟨#[46]⟩))))]) (obl := [(Value.bool (!(((ln (treeG ns root).1 i).path : ByteArray).toList == (⟨#[46]⟩ : ByteArray).toList))) = (.bool (!(decide (((ln (treeG ns root).1 i).path : ByteArray) = ⟨#[46]⟩))))]) [o_, ⟨[], none, none, none, some (.bool (!(decide (((ln (treeG ns root).1 i).path : ByteArray) = ⟨#[46]⟩))))⟩, o_, o_] [1, 2, 5, 7, 139] (fun _ _ => by kernel_rfl) ⟨strNeV _ _, trivial⟩ ?_
                  refine TriL.nil (by kernel_rfl) ?_
                  refine TriQ.next ?_
                  refine Tri.condN (p := ((ln (treeG ns root).1 i).path : ByteArray) = ⟨#[46]⟩) (fun _ => by kernel_rfl) (fun h139 => ?_) (fun h139 => ?_)
                  · exact absurd (hzz.first (by omega)).2 h139
                  · refine Tri.skip ?_
                    refine TriQ.blockNormal ?_
                    refine TriQ.next ?_
                    refine Tri.region ?_
                    refine TriL.segK (k' := 3) (fr' := [(1, .int .i64 (root)), (2, .pointer (some ⟨b1, 0, none⟩)), (5, .slice B8 ((treeG ns root).1.length) (c9)), (7, .int .i64 (((i + 1 : Nat) : Int)))]) (obl := [(Value.int .i64 (IntKind.wrap .i64 (((i : Nat) : Int) + 1))) = (.int .i64 (((i + 1 : Nat) : Int)))]) [o_, ⟨[], none, none, none, some (.int .i64 (((i + 1 : Nat) : Int)))⟩, o_] [1, 2, 5, 7] (fun _ _ => by kernel_rfl) ⟨wrapEq (by omega) (by omega) (by omega), trivial⟩ ?_
                    refine TriL.nil (by kernel_rfl) ?_
                    exact TriQ.turnB ((i + 1), β31) (hb := rfl) (idx := [1, 2, 5, 7]) (pk := [0, 1]) (show (((i + 1)) ≤ (treeG ns root).1.length) ∧ ((B0 W).le β31) ∧ (GraphAt β31 A ns L) ∧ (LinesAt β31 B8 (treeG ns root).1 M10) from ⟨by omega, hle0, hG, hT⟩) (by show (treeG ns root).1.length - ((i + 1)) < (treeG ns root).1.length - i; omega) (fun _ => by kernel_rfl) rfl (by kernel_rfl)
              · refine TriL.segK (k' := 11) (fr' := [(1, .int .i64 (root)), (2, .pointer (some ⟨b1, 0, none⟩)), (5, .slice B8 ((treeG ns root).1.length) (c9)), (7, .int .i64 (((i : Nat) : Int))), (139, .bool false)]) (obl := []) [o_, o_, o_, o_, o_, o_, o_, o_] [1, 2, 5, 7, 139] (fun _ _ => by kernel_rfl) trivial ?_
                refine TriL.nil (by kernel_rfl) ?_
                refine TriQ.next ?_
                refine Tri.condF (fun _ => by kernel_rfl) ?_
                refine Tri.skip ?_
                refine TriQ.blockNormal ?_
                refine TriQ.next ?_
                refine Tri.region ?_
                refine TriL.segK (k' := 3) (fr' := [(1, .int .i64 (root)), (2, .pointer (some ⟨b1, 0, none⟩)), (5, .slice B8 ((treeG ns root).1.length) (c9)), (7, .int .i64 (((i + 1 : Nat) : Int)))]) (obl := [(Value.int .i64 (IntKind.wrap .i64 (((i : Nat) : Int) + 1))) = (.int .i64 (((i + 1 : Nat) : Int)))]) [o_, ⟨[], none, none, none, some (.int .i64 (((i + 1 : Nat) : Int)))⟩, o_] [1, 2, 5, 7] (fun _ _ => by kernel_rfl) ⟨wrapEq (by omega) (by omega) (by omega), trivial⟩ ?_
                refine TriL.nil (by kernel_rfl) ?_
                exact TriQ.turnB ((i + 1), β31) (hb := rfl) (idx := [1, 2, 5, 7]) (pk := [0, 1]) (show (((i + 1)) ≤ (treeG ns root).1.length) ∧ ((B0 W).le β31) ∧ (GraphAt β31 A ns L) ∧ (LinesAt β31 B8 (treeG ns root).1 M10) from ⟨by omega, hle0, hG, hT⟩) (by show (treeG ns root).1.length - ((i + 1)) < (treeG ns root).1.length - i; omega) (fun _ => by kernel_rfl) rfl (by kernel_rfl)
    · refine Tri.exit ?_
      refine TriQ.passExit ?_
      refine TriQ.passExit ?_
      refine TriQ.blockHit ?_
      refine TriQ.next ?_
      refine Tri.seq ?_
      refine Tri.region ?_
      refine TriL.segK (k' := 1) (fr' := [(4, .bool true)]) (obl := []) [o_] [4] (fun _ _ => by kernel_rfl) trivial ?_
      refine TriL.nil (by kernel_rfl) ?_
      refine TriQ.next ?_
      refine Tri.ret ?_
      exact TriQ.retU (v := .bool true) (l := []) (obl := []) [] [1] hle0 (fun _ => by kernel_rfl) trivial rfl (by kernel_rfl) (rfl)
end Go.Proofs.Ytjpdcppdoonmdaa
end
