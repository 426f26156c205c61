/-
  PROVED HERE: the entries of a node
  CONDITIONS: as the theorems say. Printed by a program of this repo (wip/v).
-/
import Derived.Test.YtjpdcppdoonmdaaGE
namespace Go.Proofs.Ytjpdcppdoonmdaa
open Go.RowKit
attribute [local irreducible] TriL TriLQ Tri TriQ
set_option maxRecDepth 100000 in
set_option maxHeartbeats 4000000 in
theorem sp_enter {β : Bs} (A : Option Addr) (ns : List NodeM) (L : Lay) (hG : GraphAt β A ns L) (hr : Rising ns) (i : Nat) (hi : i < ns.length) (hel : (nd ns i).ents.length ≤ 1048576) (hwf : ∀ j, j < (nd ns i).ents.length → -9223372036854775808 ≤ (ent ns i j).id ∧ (ent ns i j).id ≤ 9223372036854775807) (hnm : ∀ j, j < (nd ns i).ents.length → (ent ns i j).name.size ≤ 1048576)
    (mb mp : Nat) (ps : List (Nat × Nat)) (hpl : ps.length ≤ 16777216) (hps : ∀ p, p ∈ ps → p.1 < ns.length) (hnp : (ps.map Prod.fst).Nodup) :
    Spec Try.prog β 59 #[.pointer (some ⟨(blkOf A), offOf A + i * 10, none⟩), .map (some mb), .map (some mp)] [.abs (MapA Try.prog 3 mb (mf (bf A ns ns.length)) ns.length), .abs (MapA Try.prog 3 mp (mf (pf ((ps).map (idP ns)))) ((ps).length))] (fun v l => (v = .bool true ∧ RowOk ns i ps ∧ l = [.abs (MapA Try.prog 3 mb (mf (bf A ns ns.length)) ns.length), .abs (MapA Try.prog 3 mp (mf (pf ((rowE ns i (nd ns i).ents.length ++ ps).map (idP ns)))) ((rowE ns i (nd ns i).ents.length ++ ps).length))]) ∨ (v = .bool false ∧ ¬ RowOk ns i ps ∧ l = [])) := by
  refine Spec.enter Try.func59 rfl Try.ntmps59 (Nat.le_of_ble_eq_true rfl) (fun R => ?_)
  refine Tri.seq ?_
  refine Tri.region ?_
  refine TriL.segK (k' := 1) (fr' := [(0, .pointer (some ⟨(blkOf A), offOf A + i * 10, none⟩)), (1, .map (some mb)), (2, .map (some mp))]) (obl := []) [o_] [0, 1, 2] (fun _ _ => by kernel_rfl) trivial ?_
  refine TriL.nil (by kernel_rfl) ?_
  refine TriQ.next ?_
  refine Tri.seq ?_
  refine Tri.region ?_
  refine TriL.segK (k' := 1) (fr' := [(0, .pointer (some ⟨(blkOf A), offOf A + i * 10, none⟩)), (1, .map (some mb)), (2, .map (some mp)), (7, .string ⟨#[]⟩)]) (obl := []) [o_] [0, 1, 2, 7] (fun _ _ => by kernel_rfl) trivial ?_
  refine TriL.nil (by kernel_rfl) ?_
  refine TriQ.next ?_
  refine Tri.seq ?_
  refine Tri.seq ?_
  refine Tri.region ?_
  refine TriL.segK (k' := 6) (fr' := [(0, .pointer (some ⟨(blkOf A), offOf A + i * 10, none⟩)), (1, .map (some mb)), (2, .map (some mp)), (7, .string ⟨#[]⟩), (16, .slice (L.eA i) ((nd ns i).ents.length) ((L.eC i))), (17, .int .i64 ((((nd ns i).ents.length : Nat) : Int))), (18, .int .i64 0)]) (obl := [(Rd β ⟨(blkOf A), offOf A + i * 10 + 9, none⟩ (.slice (L.eA i) ((nd ns i).ents.length) ((L.eC i))))]) [o_, o_, o_, ⟨[.old (.slice (L.eA i) ((nd ns i).ents.length) ((L.eC i)))], none, none, none, none⟩, o_, o_] [0, 1, 2, 7, 16, 17, 18] (fun _ _ => by kernel_rfl) ⟨GraphAt.rd hG (i := i) (by omega) (j := 9) rfl, trivial⟩ ?_
  refine TriL.nil (by kernel_rfl) ?_
  refine TriQ.next ?_
  refine Tri.block ?_
  refine Tri.loop (ι := Nat) (fun (j : Nat) => (j ≤ (nd ns i).ents.length) ∧ (∀ t, t < j → EntOk ns i t) ∧ (((rowE ns i j ++ ps).map Prod.fst).Nodup)) (fun (j : Nat) => (nd ns i).ents.length - j) (fun (j : Nat) => [(0, .pointer (some ⟨(blkOf A), offOf A + i * 10, none⟩)), (1, .map (some mb)), (2, .map (some mp)), (7, .string (prevName ns i j)), (16, .slice (L.eA i) ((nd ns i).ents.length) ((L.eC i))), (17, .int .i64 ((((nd ns i).ents.length : Nat) : Int))), (18, .int .i64 (((j : Nat) : Int)))]) (fun (j : Nat) => [.abs (MapA Try.prog 3 mb (mf (bf A ns ns.length)) ns.length), .abs (MapA Try.prog 3 mp (mf (pf ((rowE ns i j ++ ps).map (idP ns)))) ((rowE ns i j ++ ps).length)), .abs R]) 0 (idx := [0, 1, 2, 7, 16, 17, 18]) (pk := [0, 1, 2]) (show (0 ≤ (nd ns i).ents.length) ∧ (∀ t, t < 0 → EntOk ns i t) ∧ (((rowE ns i 0 ++ ps).map Prod.fst).Nodup) from ⟨Nat.zero_le _, fun t ht => absurd ht (Nat.not_lt_zero t), hnp⟩) (fun _ => by kernel_rfl) rfl (by kernel_rfl) ?_
  rintro j ⟨hj, hok, hnd⟩
  show Tri _ _ _ _ [(0, .pointer (some ⟨(blkOf A), offOf A + i * 10, none⟩)), (1, .map (some mb)), (2, .map (some mp)), (7, .string (prevName ns i j)), (16, .slice (L.eA i) ((nd ns i).ents.length) ((L.eC i))), (17, .int .i64 ((((nd ns i).ents.length : Nat) : Int))), (18, .int .i64 (((j : Nat) : Int)))] [.abs (MapA Try.prog 3 mb (mf (bf A ns ns.length)) ns.length), .abs (MapA Try.prog 3 mp (mf (pf ((rowE ns i j ++ ps).map (idP ns)))) ((rowE ns i j ++ ps).length)), .abs R] _
  refine Tri.seq ?_
  refine Tri.region ?_
  refine TriL.segK (k' := 1) (fr' := [(0, .pointer (some ⟨(blkOf A), offOf A + i * 10, none⟩)), (1, .map (some mb)), (2, .map (some mp)), (7, .string (prevName ns i j)), (16, .slice (L.eA i) ((nd ns i).ents.length) ((L.eC i))), (17, .int .i64 ((((nd ns i).ents.length : Nat) : Int))), (18, .int .i64 (((j : Nat) : Int))), (19, .bool (decide ((((j : Nat) : Int) : Int) < ((((nd ns i).ents.length : Nat) : Int) : Int))))]) (obl := []) [o_] [0, 1, 2, 7, 16, 17, 18, 19] (fun _ _ => by kernel_rfl) trivial ?_
  refine TriL.nil (by kernel_rfl) ?_
  refine TriQ.next ?_
  refine Tri.seq ?_
  refine Tri.condP (p := (((j : Nat) : Int) : Int) < ((((nd ns i).ents.length : Nat) : Int) : Int)) (fun _ => by kernel_rfl) (fun h19 => ?_) (fun h19 => ?_)
  · refine Tri.skip ?_
    refine TriQ.next ?_
    refine Tri.seq ?_
    refine Tri.block ?_
    refine Tri.seq ?_
    refine Tri.region ?_
    refine TriL.segN (k' := 4) (fr' := fun b1 => [(0, .pointer (some ⟨(blkOf A), offOf A + i * 10, none⟩)), (1, .map (some mb)), (2, .map (some mp)), (7, .string (prevName ns i j)), (9, .pointer (some ⟨b1, 0, none⟩)), (16, .slice (L.eA i) ((nd ns i).ents.length) ((L.eC i))), (17, .int .i64 ((((nd ns i).ents.length : Nat) : Int))), (18, .int .i64 (((j : Nat) : Int)))]) (hps' := fun b1 => [.abs (MapA Try.prog 3 mb (mf (bf A ns ns.length)) ns.length), .abs (MapA Try.prog 3 mp (mf (pf ((rowE ns i j ++ ps).map (idP ns)))) ((rowE ns i j ++ ps).length)), .abs R, .blk b1 [.string (en (nd ns i).ents j).name, .int .i64 ((en (nd ns i).ents j).id)] 72]) (obl := fun b1 => [b1 = b1, b1 = b1, (Rd β ⟨(blkOf (L.eA i)), offOf (L.eA i) + j * 2 + 1, none⟩ (.int .i64 ((en (nd ns i).ents j).id))), (Rd β ⟨(blkOf (L.eA i)), offOf (L.eA i) + j * 2, none⟩ (.string (en (nd ns i).ents j).name)), ((j : Nat) : Int) = ((j : Nat) : Int), j < (nd ns i).ents.length, (⟨(blkOf (L.eA i)), offOf (L.eA i), none⟩ : Addr).spot = none, ((L.eA i) : Option Addr) = some ⟨(blkOf (L.eA i)), offOf (L.eA i), none⟩]) [⟨[], some j, none, some ⟨(blkOf (L.eA i)), offOf (L.eA i), none⟩, none⟩, ⟨[.old (.string (en (nd ns i).ents j).name), .old (.int .i64 ((en (nd ns i).ents j).id))], none, none, none, none⟩, o_, ⟨[.at 3, .at 3], none, none, none, none⟩] [0, 1, 2, 7, 9, 16, 17, 18] [0, 1, 2, 3] (fun _ _ => by kernel_rfl) (fun b1 => ⟨rfl, rfl, EntsAt.rd (hG.ents i (by omega)) (i := j) (by omega) (j := 1) rfl, EntsAt.rd (hG.ents i (by omega)) (i := j) (by omega) (j := 0) rfl, rfl, by omega, rfl, EntsAt.hd (hG.ents i (by omega)) (i := j) (by omega), trivial⟩) (fun b1 => ?_)
    refine TriL.nil (by kernel_rfl) ?_
    refine TriQ.next ?_
    refine Tri.seq ?_
    refine Tri.region ?_
    refine TriL.segK (k' := 3) (fr' := [(0, .pointer (some ⟨(blkOf A), offOf A + i * 10, none⟩)), (1, .map (some mb)), (2, .map (some mp)), (7, .string (prevName ns i j)), (9, .pointer (some ⟨b1, 0, none⟩)), (16, .slice (L.eA i) ((nd ns i).ents.length) ((L.eC i))), (17, .int .i64 ((((nd ns i).ents.length : Nat) : Int))), (18, .int .i64 (((j : Nat) : Int))), (22, .map (some mb)), (24, .int .i64 ((en (nd ns i).ents j).id))]) (obl := [b1 = b1]) [o_, o_, ⟨[.at 3], none, none, none, none⟩] [0, 1, 2, 7, 9, 16, 17, 18, 22, 24] (fun _ _ => by kernel_rfl) ⟨rfl, trivial⟩ ?_
    by_cases hat : 0 ≤ atI ns (en (nd ns i).ents j).id
    · have htl := atI_lt hat
      refine TriL.mapLook 0 (d := (some 25)) (t := 66) (K := 3) (E := 75) (b := mb) (n := ns.length) (f := (mf (bf A ns ns.length))) (x := (.tmp 22)) (ix := (.tmp 24)) (key := .int .i64 ((en (nd ns i).ents j).id)) (z := .pointer none) (kl := (.int .i64 (en (nd ns i).ents j).id)) (r := (some (.pointer (some ⟨(blkOf A), offOf A + (tgt ns (en (nd ns i).ents j).id) * 10, none⟩)))) (fun _ => by kernel_rfl) (by kernel_rfl) (fun _ => by kernel_rfl) (fun _ => by kernel_rfl) lawI Try.underlying66 (fun _ => by kernel_rfl) (keyI (hwf j (by omega)).1 (hwf j (by omega)).2) (bf_at hat htl.1) ?_
      refine TriL.segK (k' := 5) (fr' := [(0, .pointer (some ⟨(blkOf A), offOf A + i * 10, none⟩)), (1, .map (some mb)), (2, .map (some mp)), (7, .string (prevName ns i j)), (9, .pointer (some ⟨b1, 0, none⟩)), (10, .pointer (some ⟨(blkOf A), offOf A + (tgt ns (en (nd ns i).ents j).id) * 10, none⟩)), (16, .slice (L.eA i) ((nd ns i).ents.length) ((L.eC i))), (17, .int .i64 ((((nd ns i).ents.length : Nat) : Int))), (18, .int .i64 (((j : Nat) : Int)))]) (obl := []) [o_] [0, 1, 2, 7, 9, 10, 16, 17, 18] (fun _ _ => by kernel_rfl) trivial ?_
      refine TriL.nil (by kernel_rfl) ?_
      refine TriQ.next ?_
      refine Tri.seq ?_
      refine Tri.seq ?_
      refine Tri.region ?_
      refine TriL.segK (k' := 5) (fr' := [(0, .pointer (some ⟨(blkOf A), offOf A + i * 10, none⟩)), (1, .map (some mb)), (2, .map (some mp)), (7, .string (prevName ns i j)), (9, .pointer (some ⟨b1, 0, none⟩)), (10, .pointer (some ⟨(blkOf A), offOf A + (tgt ns (en (nd ns i).ents j).id) * 10, none⟩)), (16, .slice (L.eA i) ((nd ns i).ents.length) ((L.eC i))), (17, .int .i64 ((((nd ns i).ents.length : Nat) : Int))), (18, .int .i64 (((j : Nat) : Int))), (28, .bool false), (30, .string (en (nd ns i).ents j).name)]) (obl := [b1 = b1]) [o_, o_, o_, o_, ⟨[.at 3], none, none, none, none⟩] [0, 1, 2, 7, 9, 10, 16, 17, 18, 28, 30] (fun _ _ => by kernel_rfl) ⟨rfl, trivial⟩ ?_
      refine TriL.call (f := 72) (args := #[.string (en (nd ns i).ents j).name]) (d := (some 31)) (pre := []) (R := [.abs (MapA Try.prog 3 mb (mf (bf A ns ns.length)) ns.length), .abs (MapA Try.prog 3 mp (mf (pf ((rowE ns i j ++ ps).map (idP ns)))) ((rowE ns i j ++ ps).length)), .abs R, .blk b1 [.string (en (nd ns i).ents j).name, .int .i64 ((en (nd ns i).ents j).id)] 72]) (pk := [0, 1, 2, 3]) (fun _ => by kernel_rfl) (sp_routeGood (en (nd ns i).ents j).name (hnm j (by omega))) rfl (by kernel_rfl) ?_
      rintro _ _ ⟨rfl, rfl⟩
      refine TriL.segK (k' := 9) (fr' := [(0, .pointer (some ⟨(blkOf A), offOf A + i * 10, none⟩)), (1, .map (some mb)), (2, .map (some mp)), (7, .string (prevName ns i j)), (9, .pointer (some ⟨b1, 0, none⟩)), (10, .pointer (some ⟨(blkOf A), offOf A + (tgt ns (en (nd ns i).ents j).id) * 10, none⟩)), (16, .slice (L.eA i) ((nd ns i).ents.length) ((L.eC i))), (17, .int .i64 ((((nd ns i).ents.length : Nat) : Int))), (18, .int .i64 (((j : Nat) : Int))), (34, .bool (!(decide (GoodName (en (nd ns i).ents j).name))))]) (obl := []) [o_, o_, o_] [0, 1, 2, 7, 9, 10, 16, 17, 18, 34] (fun _ _ => by kernel_rfl) trivial ?_
      refine TriL.slotN 34 (GoodName (en (nd ns i).ents j).name) (fun _ => by kernel_rfl) (fun h34 => ?_) (fun h34 => ?_)
      · refine TriL.segK (k' := 14) (fr' := [(0, .pointer (some ⟨(blkOf A), offOf A + i * 10, none⟩)), (1, .map (some mb)), (2, .map (some mp)), (9, .pointer (some ⟨b1, 0, none⟩)), (10, .pointer (some ⟨(blkOf A), offOf A + (tgt ns (en (nd ns i).ents j).id) * 10, none⟩)), (16, .slice (L.eA i) ((nd ns i).ents.length) ((L.eC i))), (17, .int .i64 ((((nd ns i).ents.length : Nat) : Int))), (18, .int .i64 (((j : Nat) : Int))), (39, .bool true)]) (obl := []) [o_, o_, o_, o_, o_] [0, 1, 2, 9, 10, 16, 17, 18, 39] (fun _ _ => by kernel_rfl) trivial ?_
        refine TriL.nil (by kernel_rfl) ?_
        refine TriQ.next ?_
        refine Tri.condT (fun _ => by kernel_rfl) ?_
        refine Tri.seq ?_
        refine Tri.region ?_
        refine TriL.segK (k' := 1) (fr' := [(6, .bool false)]) (obl := []) [o_] [6] (fun _ _ => by kernel_rfl) trivial ?_
        refine TriL.nil (by kernel_rfl) ?_
        refine TriQ.next ?_
        refine Tri.ret ?_
        refine TriQ.passRet ?_
        refine TriQ.blockRet ?_
        refine TriQ.passRet ?_
        refine TriQ.passRet ?_
        refine TriQ.blockRet ?_
        refine TriQ.passRet ?_
        exact TriQ.ret (v := .bool false) (l := []) (obl := []) [] [2] (fun _ => by kernel_rfl) trivial rfl (by kernel_rfl) (.inr ⟨rfl, fun h => h34 (h.ents j (by omega)).good, rfl⟩)
      · refine TriL.segK (k' := 14) (fr' := [(0, .pointer (some ⟨(blkOf A), offOf A + i * 10, none⟩)), (1, .map (some mb)), (2, .map (some mp)), (9, .pointer (some ⟨b1, 0, none⟩)), (10, .pointer (some ⟨(blkOf A), offOf A + (tgt ns (en (nd ns i).ents j).id) * 10, none⟩)), (16, .slice (L.eA i) ((nd ns i).ents.length) ((L.eC i))), (17, .int .i64 ((((nd ns i).ents.length : Nat) : Int))), (18, .int .i64 (((j : Nat) : Int))), (39, .bool (decide (strLe ((en (nd ns i).ents j).name) (prevName ns i j))))]) (obl := [(Value.bool (Op.bytesLess (((en (nd ns i).ents j).name) : ByteArray).toList (((prevName ns i j)) : ByteArray).toList || (((en (nd ns i).ents j).name) : ByteArray).toList == (((prevName ns i j)) : ByteArray).toList)) = (.bool (decide (strLe ((en (nd ns i).ents j).name) (prevName ns i j)))), b1 = b1]) [o_, ⟨[.at 3], none, none, none, none⟩, o_, ⟨[], none, none, none, some (.bool (decide (strLe ((en (nd ns i).ents j).name) (prevName ns i j))))⟩, o_] [0, 1, 2, 9, 10, 16, 17, 18, 39] (fun _ _ => by kernel_rfl) ⟨strLeV _ _, rfl, trivial⟩ ?_
        refine TriL.nil (by kernel_rfl) ?_
        refine TriQ.next ?_
        refine Tri.condP (p := strLe ((en (nd ns i).ents j).name) (prevName ns i j)) (fun _ => by kernel_rfl) (fun h39 => ?_) (fun h39 => ?_)
        · refine Tri.seq ?_
          refine Tri.region ?_
          refine TriL.segK (k' := 1) (fr' := [(6, .bool false)]) (obl := []) [o_] [6] (fun _ _ => by kernel_rfl) trivial ?_
          refine TriL.nil (by kernel_rfl) ?_
          refine TriQ.next ?_
          refine Tri.ret ?_
          refine TriQ.passRet ?_
          refine TriQ.blockRet ?_
          refine TriQ.passRet ?_
          refine TriQ.passRet ?_
          refine TriQ.blockRet ?_
          refine TriQ.passRet ?_
          exact TriQ.ret (v := .bool false) (l := []) (obl := []) [] [2] (fun _ => by kernel_rfl) trivial rfl (by kernel_rfl) (.inr ⟨rfl, fun h => (h.ents j (by omega)).ord h39, rfl⟩)
        · refine Tri.skip ?_
          refine TriQ.next ?_
          refine Tri.seq ?_
          refine Tri.region ?_
          refine TriL.segK (k' := 3) (fr' := [(0, .pointer (some ⟨(blkOf A), offOf A + i * 10, none⟩)), (1, .map (some mb)), (2, .map (some mp)), (7, .string (en (nd ns i).ents j).name), (9, .pointer (some ⟨b1, 0, none⟩)), (10, .pointer (some ⟨(blkOf A), offOf A + (tgt ns (en (nd ns i).ents j).id) * 10, none⟩)), (16, .slice (L.eA i) ((nd ns i).ents.length) ((L.eC i))), (17, .int .i64 ((((nd ns i).ents.length : Nat) : Int))), (18, .int .i64 (((j : Nat) : Int)))]) (obl := [b1 = b1]) [o_, ⟨[.at 3], none, none, none, none⟩, o_] [0, 1, 2, 7, 9, 10, 16, 17, 18] (fun _ _ => by kernel_rfl) ⟨rfl, trivial⟩ ?_
          refine TriL.nil (by kernel_rfl) ?_
          refine TriQ.next ?_
          refine Tri.seq ?_
          refine Tri.seq ?_
          refine Tri.region ?_
          refine TriL.segK (k' := 5) (fr' := [(0, .pointer (some ⟨(blkOf A), offOf A + i * 10, none⟩)), (1, .map (some mb)), (2, .map (some mp)), (7, .string (en (nd ns i).ents j).name), (9, .pointer (some ⟨b1, 0, none⟩)), (16, .slice (L.eA i) ((nd ns i).ents.length) ((L.eC i))), (17, .int .i64 ((((nd ns i).ents.length : Nat) : Int))), (18, .int .i64 (((j : Nat) : Int))), (46, .bool (!(decide (((nd ns (tgt ns (en (nd ns i).ents j).id)).kind : Int) = (2 : Int)))))]) (obl := [(Rd β ⟨(blkOf A), offOf A + (tgt ns (en (nd ns i).ents j).id) * 10 + 1, none⟩ (.int .i64 ((nd ns (tgt ns (en (nd ns i).ents j).id)).kind)))]) [o_, o_, o_, ⟨[.old (.int .i64 ((nd ns (tgt ns (en (nd ns i).ents j).id)).kind))], none, none, none, none⟩, o_] [0, 1, 2, 7, 9, 16, 17, 18, 46] (fun _ _ => by kernel_rfl) ⟨GraphAt.rd hG (i := (tgt ns (en (nd ns i).ents j).id)) (by omega) (j := 1) rfl, trivial⟩ ?_
          refine TriL.nil (by kernel_rfl) ?_
          refine TriQ.next ?_
          refine Tri.condN (p := ((nd ns (tgt ns (en (nd ns i).ents j).id)).kind : Int) = (2 : Int)) (fun _ => by kernel_rfl) (fun h46 => ?_) (fun h46 => ?_)
          · refine Tri.exit ?_
            refine TriQ.passExit ?_
            refine TriQ.blockHit ?_
            refine TriQ.next ?_
            refine Tri.region ?_
            refine TriL.partEq 1 (p := .abs (MapA Try.prog 3 mp (mf (pf ((rowE ns i j ++ ps).map (idP ns)))) ((rowE ns i j ++ ps).length))) (p' := .abs (MapA Try.prog 3 mp (mf (pf ((rowE ns i (j + 1) ++ ps).map (idP ns)))) ((rowE ns i (j + 1) ++ ps).length))) (by kernel_rfl) (by rw [rowE_skip h46]) ?_
            refine TriL.segK (k' := 2) (fr' := [(0, .pointer (some ⟨(blkOf A), offOf A + i * 10, none⟩)), (1, .map (some mb)), (2, .map (some mp)), (7, .string (en (nd ns i).ents j).name), (16, .slice (L.eA i) ((nd ns i).ents.length) ((L.eC i))), (17, .int .i64 ((((nd ns i).ents.length : Nat) : Int))), (18, .int .i64 (((j + 1 : Nat) : Int)))]) (obl := [(Value.int .i64 (IntKind.wrap .i64 (((j : Nat) : Int) + 1))) = (.int .i64 (((j + 1 : Nat) : Int)))]) [⟨[], none, none, none, some (.int .i64 (((j + 1 : Nat) : Int)))⟩, o_] [0, 1, 2, 7, 16, 17, 18] (fun _ _ => by kernel_rfl) ⟨wrapEq (by omega) (by omega) (by omega), trivial⟩ ?_
            refine TriL.nil (by kernel_rfl) ?_
            exact TriQ.turn ((j + 1)) (idx := [0, 1, 2, 7, 16, 17, 18]) (pk := [0, 1, 2]) (show (((j + 1)) ≤ (nd ns i).ents.length) ∧ (∀ t, t < ((j + 1)) → EntOk ns i t) ∧ (((rowE ns i ((j + 1)) ++ ps).map Prod.fst).Nodup) from ⟨by omega, fun t ht => (by rcases Nat.lt_succ_iff_lt_or_eq.1 ht with h | h; exact hok t h; subst h; exact ⟨hat, h34, h39⟩), (by rw [rowE_skip h46]; exact hnd)⟩) (by show (nd ns i).ents.length - ((j + 1)) < (nd ns i).ents.length - j; omega) (fun _ => by kernel_rfl) rfl (by kernel_rfl)
          · refine Tri.skip ?_
            refine TriQ.next ?_
            refine Tri.seq ?_
            refine Tri.seq ?_
            refine Tri.region ?_
            refine TriL.segK (k' := 3) (fr' := [(0, .pointer (some ⟨(blkOf A), offOf A + i * 10, none⟩)), (1, .map (some mb)), (2, .map (some mp)), (7, .string (en (nd ns i).ents j).name), (9, .pointer (some ⟨b1, 0, none⟩)), (16, .slice (L.eA i) ((nd ns i).ents.length) ((L.eC i))), (17, .int .i64 ((((nd ns i).ents.length : Nat) : Int))), (18, .int .i64 (((j : Nat) : Int))), (48, .map (some mp)), (50, .int .i64 ((en (nd ns i).ents j).id))]) (obl := [b1 = b1]) [o_, o_, ⟨[.at 3], none, none, none, none⟩] [0, 1, 2, 7, 9, 16, 17, 18, 48, 50] (fun _ _ => by kernel_rfl) ⟨rfl, trivial⟩ ?_
            rcases hup : up ((rowE ns i j ++ ps).map (idP ns)) (en (nd ns i).ents j).id with _ | y
            · refine TriL.mapLookOk 1 (d := (some 51)) (t := 107) (K := 3) (E := 3) (b := mp) (n := (rowE ns i j ++ ps).length) (f := (mf (pf ((rowE ns i j ++ ps).map (idP ns))))) (x := (.tmp 48)) (ix := (.tmp 50)) (key := .int .i64 ((en (nd ns i).ents j).id)) (z := .int .i64 0) (kl := (.int .i64 (en (nd ns i).ents j).id)) (r := none) (fun _ => by kernel_rfl) (by kernel_rfl) (fun _ => by kernel_rfl) (fun _ => by kernel_rfl) lawI Try.underlying107 (fun _ => by kernel_rfl) (keyI (hwf j (by omega)).1 (hwf j (by omega)).2) (pf_at_none hup) ?_
              refine TriL.segK (k' := 9) (fr' := [(0, .pointer (some ⟨(blkOf A), offOf A + i * 10, none⟩)), (1, .map (some mb)), (2, .map (some mp)), (7, .string (en (nd ns i).ents j).name), (9, .pointer (some ⟨b1, 0, none⟩)), (12, .bool false), (16, .slice (L.eA i) ((nd ns i).ents.length) ((L.eC i))), (17, .int .i64 ((((nd ns i).ents.length : Nat) : Int))), (18, .int .i64 (((j : Nat) : Int)))]) (obl := []) [o_, o_, o_, o_, o_] [0, 1, 2, 7, 9, 12, 16, 17, 18] (fun _ _ => by kernel_rfl) trivial ?_
              refine TriL.nil (by kernel_rfl) ?_
              refine TriQ.next ?_
              refine Tri.seq ?_
              refine Tri.region ?_
              refine TriL.segK (k' := 1) (fr' := [(0, .pointer (some ⟨(blkOf A), offOf A + i * 10, none⟩)), (1, .map (some mb)), (2, .map (some mp)), (7, .string (en (nd ns i).ents j).name), (9, .pointer (some ⟨b1, 0, none⟩)), (16, .slice (L.eA i) ((nd ns i).ents.length) ((L.eC i))), (17, .int .i64 ((((nd ns i).ents.length : Nat) : Int))), (18, .int .i64 (((j : Nat) : Int))), (54, .bool false)]) (obl := []) [o_] [0, 1, 2, 7, 9, 16, 17, 18, 54] (fun _ _ => by kernel_rfl) trivial ?_
              refine TriL.nil (by kernel_rfl) ?_
              refine TriQ.next ?_
              refine Tri.condF (fun _ => by kernel_rfl) ?_
              refine Tri.skip ?_
              refine TriQ.next ?_
              refine Tri.regionStill 7 (by kernel_rfl) (by kernel_rfl) ?_
              refine TriLS.seg (k' := 7) (fr' := [(0, .pointer (some ⟨(blkOf A), offOf A + i * 10, none⟩)), (1, .map (some mb)), (2, .map (some mp)), (7, .string (en (nd ns i).ents j).name), (16, .slice (L.eA i) ((nd ns i).ents.length) ((L.eC i))), (17, .int .i64 ((((nd ns i).ents.length : Nat) : Int))), (18, .int .i64 (((j : Nat) : Int))), (55, .map (some mp)), (57, .int .i64 ((en (nd ns i).ents j).id)), (61, .int .i64 ((nd ns i).id))]) (obl := [(Rd β ⟨(blkOf A), offOf A + i * 10, none⟩ (.int .i64 ((nd ns i).id))), b1 = b1]) [o_, o_, ⟨[.at 3], none, none, none, none⟩, o_, o_, o_, ⟨[.old (.int .i64 ((nd ns i).id))], none, none, none, none⟩] [0, 1, 2, 7, 16, 17, 18, 55, 57, 61] (fun _ _ => by kernel_rfl) ⟨GraphAt.rd hG (i := i) (by omega) (j := 0) rfl, rfl, trivial⟩ (by decide) ?_
              refine TriLS.done rfl ?_
              refine TriL.mapSet 1 (d := none) (t := 107) (K := 3) (E := 3) (b := mp) (n := (rowE ns i j ++ ps).length) (f := (mf (pf ((rowE ns i j ++ ps).map (idP ns))))) (x := (.tmp 55)) (ix := (.tmp 57)) (y := (.tmp 61)) (key := .int .i64 ((en (nd ns i).ents j).id)) (u := .int .i64 ((nd ns i).id)) (kl := (.int .i64 (en (nd ns i).ents j).id)) (n' := (rowE ns i (j + 1) ++ ps).length) (f' := (mf (pf ((rowE ns i (j + 1) ++ ps).map (idP ns))))) (fun _ => by kernel_rfl) (by kernel_rfl) (fun _ => by kernel_rfl) (fun _ => by kernel_rfl) (fun _ => by kernel_rfl) lawI Try.underlying107 (by have := rowE_len ns i j; rw [List.length_append]; unfold maxLen; omega) (keyI (hwf j (by omega)).1 (hwf j (by omega)).2) (len_edge (pf_at_none hup) h46) (upd_edge hat h46) ?_
              refine TriL.nil (by kernel_rfl) ?_
              refine TriQ.blockNormal ?_
              refine TriQ.next ?_
              refine Tri.region ?_
              refine TriL.segK (k' := 2) (fr' := [(0, .pointer (some ⟨(blkOf A), offOf A + i * 10, none⟩)), (1, .map (some mb)), (2, .map (some mp)), (7, .string (en (nd ns i).ents j).name), (16, .slice (L.eA i) ((nd ns i).ents.length) ((L.eC i))), (17, .int .i64 ((((nd ns i).ents.length : Nat) : Int))), (18, .int .i64 (((j + 1 : Nat) : Int)))]) (obl := [(Value.int .i64 (IntKind.wrap .i64 (((j : Nat) : Int) + 1))) = (.int .i64 (((j + 1 : Nat) : Int)))]) [⟨[], none, none, none, some (.int .i64 (((j + 1 : Nat) : Int)))⟩, o_] [0, 1, 2, 7, 16, 17, 18] (fun _ _ => by kernel_rfl) ⟨wrapEq (by omega) (by omega) (by omega), trivial⟩ ?_
              refine TriL.nil (by kernel_rfl) ?_
              exact TriQ.turn ((j + 1)) (idx := [0, 1, 2, 7, 16, 17, 18]) (pk := [0, 1, 2]) (show (((j + 1)) ≤ (nd ns i).ents.length) ∧ (∀ t, t < ((j + 1)) → EntOk ns i t) ∧ (((rowE ns i ((j + 1)) ++ ps).map Prod.fst).Nodup) from ⟨by omega, fun t ht => (by rcases Nat.lt_succ_iff_lt_or_eq.1 ht with h | h; exact hok t h; subst h; exact ⟨hat, h34, h39⟩), (nodup_edge hat h46 hup hnd)⟩) (by show (nd ns i).ents.length - ((j + 1)) < (nd ns i).ents.length - j; omega) (fun _ => by kernel_rfl) rfl (by kernel_rfl)
            · refine TriL.mapLookOk 1 (d := (some 51)) (t := 107) (K := 3) (E := 3) (b := mp) (n := (rowE ns i j ++ ps).length) (f := (mf (pf ((rowE ns i j ++ ps).map (idP ns))))) (x := (.tmp 48)) (ix := (.tmp 50)) (key := .int .i64 ((en (nd ns i).ents j).id)) (z := .int .i64 0) (kl := (.int .i64 (en (nd ns i).ents j).id)) (r := (some (.int .i64 y))) (fun _ => by kernel_rfl) (by kernel_rfl) (fun _ => by kernel_rfl) (fun _ => by kernel_rfl) lawI Try.underlying107 (fun _ => by kernel_rfl) (keyI (hwf j (by omega)).1 (hwf j (by omega)).2) (pf_at hup) ?_
              refine TriL.segK (k' := 9) (fr' := [(0, .pointer (some ⟨(blkOf A), offOf A + i * 10, none⟩)), (1, .map (some mb)), (2, .map (some mp)), (7, .string (en (nd ns i).ents j).name), (9, .pointer (some ⟨b1, 0, none⟩)), (12, .bool true), (16, .slice (L.eA i) ((nd ns i).ents.length) ((L.eC i))), (17, .int .i64 ((((nd ns i).ents.length : Nat) : Int))), (18, .int .i64 (((j : Nat) : Int)))]) (obl := []) [o_, o_, o_, o_, o_] [0, 1, 2, 7, 9, 12, 16, 17, 18] (fun _ _ => by kernel_rfl) trivial ?_
              refine TriL.nil (by kernel_rfl) ?_
              refine TriQ.next ?_
              refine Tri.seq ?_
              refine Tri.region ?_
              refine TriL.segK (k' := 1) (fr' := [(0, .pointer (some ⟨(blkOf A), offOf A + i * 10, none⟩)), (1, .map (some mb)), (2, .map (some mp)), (7, .string (en (nd ns i).ents j).name), (9, .pointer (some ⟨b1, 0, none⟩)), (16, .slice (L.eA i) ((nd ns i).ents.length) ((L.eC i))), (17, .int .i64 ((((nd ns i).ents.length : Nat) : Int))), (18, .int .i64 (((j : Nat) : Int))), (54, .bool true)]) (obl := []) [o_] [0, 1, 2, 7, 9, 16, 17, 18, 54] (fun _ _ => by kernel_rfl) trivial ?_
              refine TriL.nil (by kernel_rfl) ?_
              refine TriQ.next ?_
              refine Tri.condT (fun _ => by kernel_rfl) ?_
              refine Tri.seq ?_
              refine Tri.region ?_
              refine TriL.segK (k' := 1) (fr' := [(6, .bool false)]) (obl := []) [o_] [6] (fun _ _ => by kernel_rfl) trivial ?_
              refine TriL.nil (by kernel_rfl) ?_
              refine TriQ.next ?_
              refine Tri.ret ?_
              refine TriQ.passRet ?_
              refine TriQ.blockRet ?_
              refine TriQ.passRet ?_
              refine TriQ.passRet ?_
              refine TriQ.blockRet ?_
              refine TriQ.passRet ?_
              exact TriQ.ret (v := .bool false) (l := []) (obl := []) [] [2] (fun _ => by kernel_rfl) trivial rfl (by kernel_rfl) (.inr ⟨rfl, rowOk_twice hr hps hok hat h46 hup (by omega), rfl⟩)
    · refine TriL.mapLook 0 (d := (some 25)) (t := 66) (K := 3) (E := 75) (b := mb) (n := ns.length) (f := (mf (bf A ns ns.length))) (x := (.tmp 22)) (ix := (.tmp 24)) (key := .int .i64 ((en (nd ns i).ents j).id)) (z := .pointer none) (kl := (.int .i64 (en (nd ns i).ents j).id)) (r := none) (fun _ => by kernel_rfl) (by kernel_rfl) (fun _ => by kernel_rfl) (fun _ => by kernel_rfl) lawI Try.underlying66 (fun _ => by kernel_rfl) (keyI (hwf j (by omega)).1 (hwf j (by omega)).2) (bf_none hat) ?_
      refine TriL.segK (k' := 5) (fr' := [(0, .pointer (some ⟨(blkOf A), offOf A + i * 10, none⟩)), (1, .map (some mb)), (2, .map (some mp)), (7, .string (prevName ns i j)), (9, .pointer (some ⟨b1, 0, none⟩)), (10, .pointer none), (16, .slice (L.eA i) ((nd ns i).ents.length) ((L.eC i))), (17, .int .i64 ((((nd ns i).ents.length : Nat) : Int))), (18, .int .i64 (((j : Nat) : Int)))]) (obl := []) [o_] [0, 1, 2, 7, 9, 10, 16, 17, 18] (fun _ _ => by kernel_rfl) trivial ?_
      refine TriL.nil (by kernel_rfl) ?_
      refine TriQ.next ?_
      refine Tri.seq ?_
      refine Tri.seq ?_
      refine Tri.region ?_
      refine TriL.segK (k' := 14) (fr' := [(0, .pointer (some ⟨(blkOf A), offOf A + i * 10, none⟩)), (1, .map (some mb)), (2, .map (some mp)), (9, .pointer (some ⟨b1, 0, none⟩)), (10, .pointer none), (16, .slice (L.eA i) ((nd ns i).ents.length) ((L.eC i))), (17, .int .i64 ((((nd ns i).ents.length : Nat) : Int))), (18, .int .i64 (((j : Nat) : Int))), (39, .bool true)]) (obl := []) [o_, o_, o_, o_, o_, o_, o_, o_, o_, o_, o_, o_, o_, o_] [0, 1, 2, 9, 10, 16, 17, 18, 39] (fun _ _ => by kernel_rfl) trivial ?_
      refine TriL.nil (by kernel_rfl) ?_
      refine TriQ.next ?_
      refine Tri.condT (fun _ => by kernel_rfl) ?_
      refine Tri.seq ?_
      refine Tri.region ?_
      refine TriL.segK (k' := 1) (fr' := [(6, .bool false)]) (obl := []) [o_] [6] (fun _ _ => by kernel_rfl) trivial ?_
      refine TriL.nil (by kernel_rfl) ?_
      refine TriQ.next ?_
      refine Tri.ret ?_
      refine TriQ.passRet ?_
      refine TriQ.blockRet ?_
      refine TriQ.passRet ?_
      refine TriQ.passRet ?_
      refine TriQ.blockRet ?_
      refine TriQ.passRet ?_
      exact TriQ.ret (v := .bool false) (l := []) (obl := []) [] [2] (fun _ => by kernel_rfl) trivial rfl (by kernel_rfl) (.inr ⟨rfl, fun h => hat (h.ents j (by omega)).at_, rfl⟩)
  · refine Tri.exit ?_
    refine TriQ.passExit ?_
    refine TriQ.passExit ?_
    refine TriQ.blockHit ?_
    refine TriQ.next ?_
    refine Tri.seq ?_
    refine Tri.region ?_
    refine TriL.segK (k' := 1) (fr' := [(6, .bool true)]) (obl := []) [o_] [6] (fun _ _ => by kernel_rfl) trivial ?_
    refine TriL.nil (by kernel_rfl) ?_
    refine TriQ.next ?_
    refine Tri.ret ?_
    exact TriQ.ret (v := .bool true) (l := [.abs (MapA Try.prog 3 mb (mf (bf A ns ns.length)) ns.length), .abs (MapA Try.prog 3 mp (mf (pf ((rowE ns i j ++ ps).map (idP ns)))) ((rowE ns i j ++ ps).length))]) (obl := []) [] [0, 1, 2] (fun _ => by kernel_rfl) trivial rfl (by kernel_rfl) (.inl ⟨rfl, ⟨fun t ht => hok t (by omega), by have := hnd; rwa [show j = (nd ns i).ents.length by omega] at this⟩, by rw [show j = (nd ns i).ents.length by omega]⟩)
end Go.Proofs.Ytjpdcppdoonmdaa
