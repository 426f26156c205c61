/-
  PROVED HERE: lemmas and contracts of functions (texts of this repo, joined): GPlC, GYa, GPb, LawH.
  CONDITIONS: as the theorems say.
-/
import Derived.Test.YtjpdcppdoonmdaaMPlants7
/- part GPlC. PROVED HERE: the reference's Plant CONDITIONS: as the theorems say. Printed by a program of this repo (wip/v). -/
section
namespace Go.Proofs.Ytjpdcppdoonmdaa
open Go.RowKit
attribute [local irreducible] TriL TriLQ Tri TriQ
set_option maxRecDepth 100000 in
set_option maxHeartbeats 4000000 in
theorem sp_copyBytesOwn {β : Bs} (A : Option Addr) (c : Nat) (d : List UInt8) (hA : BytesAt β A d) (hl : d.length ≤ 1048576) :
    Spec Try.prog β 48 #[.slice A d.length c] [] (fun v l => ∃ B cap, v = .slice B d.length cap ∧ l = [.abs (RowA 5 1 B d.length cap (bytesV d))]) := by
 refine Spec.enter Try.func48 rfl Try.ntmps48 (Nat.le_of_ble_eq_true rfl) (fun R => ?_)
 refine Tri.seq (Tri.region ?_)
 refine TriL.segK (k' := 1) (fr' := [(0, .slice A (d.length) (c))]) (obl := []) [o_] [0] (fun _ _ => by kernel_rfl) trivial ?_
 refine TriL.nil (by kernel_rfl) (TriQ.next (Tri.seq (Tri.region ?_)))
 refine TriL.segN (k' := 2) (fr' := fun b1 => [(0, .slice A (d.length) (c)), (3, .slice (some ⟨b1, 0, none⟩) (0) (0))]) (hps' := fun b1 => [.abs R, .blk b1 [] 5]) (obl := fun b1 => []) [o_, o_] [0, 3] [0, 1] (fun _ _ => by kernel_rfl) (fun b1 => trivial) (fun b1 => ?_)
 refine TriL.nil (by kernel_rfl) (TriQ.next (Tri.seq (Tri.region ?_)))
 refine TriL.mem (fun w hS => hS.toRow (i := 1) (b := b1) (cs := []) (e := 5) 1 0 (by kernel_rfl) rfl (by decide)) ?_
 refine TriL.segK (k' := 2) (fr' := [(5, .slice (some ⟨b1, 0, none⟩) (0) (0)), (6, .slice A (d.length) (c))]) (obl := []) [o_, o_] [5, 6] (fun _ _ => by kernel_rfl) trivial ?_
 refine TriL.append 1 (d := (some 7)) (t := 29) (e := 5) (z := .int .u8 0) (size := 1) (bytes := 1) (n := 0) (cap := 0) (A := some ⟨b1, 0, none⟩) (xs := []) (s := (.tmp 5)) (x := (.tmp 6)) (ats := #[29, 29]) (A' := A) (m := d.length) (c' := c) (news := (bytesV d)) (fun _ => by kernel_rfl) rfl (by kernel_rfl) (fun _ => by kernel_rfl) (fun _ => by kernel_rfl) Try.underlying29 (by kernel_rfl) rfl (by decide) (by rw [bytesV_len, Nat.mul_one]) (oneCell_bytes d) (hA.src) (by unfold maxLen; omega) (by omega) (fun A2 c3 => ?_)
 refine TriL.partEq 1 (p := .abs (RowA 5 1 A2 (0 + d.length) c3 ([] ++ (bytesV d)))) (p' := .abs (RowA 5 1 A2 d.length c3 (bytesV d))) (by kernel_rfl) (by rw [Nat.zero_add, List.nil_append]) ?_
 refine TriL.slot 7 (.slice A2 (0 + d.length) (c3)) (.slice A2 (d.length) (c3)) (fun _ => by kernel_rfl) (by rw [Nat.zero_add]) ?_
 refine TriL.segK (k' := 4) (fr' := [(3, .slice A2 (d.length) (c3))]) (obl := []) [o_] [3] (fun _ _ => by kernel_rfl) trivial ?_
 refine TriL.nil (by kernel_rfl) (TriQ.next (Tri.seq (Tri.region ?_)))
 refine TriL.segK (k' := 2) (fr' := [(2, .slice A2 (d.length) (c3))]) (obl := []) [o_, o_] [2] (fun _ _ => by kernel_rfl) trivial ?_
 refine TriL.nil (by kernel_rfl) (TriQ.next (Tri.ret ?_))
 exact TriQ.ret (v := .slice A2 (d.length) (c3)) (l := [.abs (RowA 5 1 A2 d.length c3 (bytesV d))]) (obl := []) [] [1, 0] (fun _ => by kernel_rfl) trivial rfl (by kernel_rfl) (⟨A2, c3, rfl, rfl⟩)
set_option maxRecDepth 100000 in
set_option maxHeartbeats 4000000 in
theorem sp_refPlant {β : Bs} (A : Option Addr) (c : Nat) (ls : List LineM) (M : LayL) (hG : LinesAt β A ls M) (hC : LinesC ls) (hPB : PlantBR ls) :
    Spec Try.prog β 32 #[.slice A ls.length c] [] (fun v l => ∃ B cp L, v = .tuple #[.agg #[.slice B (plantR ls).1.length cp], .int .i64 (plantR ls).2] ∧ l = ownG B cp (plantR ls).1 L) := by
 refine Spec.enter Try.func32 rfl Try.ntmps32 (Nat.le_of_ble_eq_true rfl) (fun R => ?_)
 refine Tri.seq (Tri.region ?_)
 refine TriL.segN (k' := 2) (fr' := fun b4 => [(0, .slice A (ls.length) (c)), (2, .pointer (some ⟨b4, 0, none⟩))]) (hps' := fun b4 => [.abs R, .blk b4 [.slice none (0) (0)] 24]) (obl := fun b4 => []) [o_, o_] [0, 2] [0, 1] (fun _ _ => by kernel_rfl) (fun b4 => trivial) (fun b4 => ?_)
 refine TriL.nil (by kernel_rfl) (TriQ.next (Tri.seq (Tri.region ?_)))
 refine TriL.segN (k' := 3) (fr' := fun b5 => [(0, .slice A (ls.length) (c)), (2, .pointer (some ⟨b4, 0, none⟩)), (4, .pointer (some ⟨b5, 0, none⟩))]) (hps' := fun b5 => [.abs R, .blk b4 [.slice none (0) (0)] 24, .blk b5 [.slice none (0) (0)] 24]) (obl := fun b5 => [b5 = b5]) [o_, o_, ⟨[.at 2], none, none, none, none⟩] [0, 2, 4] [0, 1, 2] (fun _ _ => by kernel_rfl) (fun b5 => ⟨rfl, trivial⟩) (fun b5 => ?_)
 refine TriL.nil (by kernel_rfl) (TriQ.next (Tri.seq (Tri.region ?_)))
 refine TriL.segK (k' := 2) (fr' := [(0, .slice A (ls.length) (c)), (2, .pointer (some ⟨b4, 0, none⟩)), (4, .pointer (some ⟨b5, 0, none⟩)), (16, .int .i64 ↑ls.length)]) (obl := []) [o_, o_] [0, 2, 4, 16] (fun _ _ => by kernel_rfl) trivial ?_
 refine TriL.makeFull (d := (some 17)) (t := 60) (e := 3) (z := .int .i64 0) (bytes := 8) (n := ls.length) (l := (.tmp 16)) (c := (.tmp 16)) (fun _ => by kernel_rfl) (fun _ => by kernel_rfl) (fun _ => by kernel_rfl) Try.underlying60 (by kernel_rfl) rfl (by have := hC.len; omega) (by have := hC.len; omega) (fun b6 => ?_)
 refine TriL.segK (k' := 4) (fr' := [(0, .slice A (ls.length) (c)), (2, .pointer (some ⟨b4, 0, none⟩)), (4, .pointer (some ⟨b5, 0, none⟩)), (5, .slice (some ⟨b6, 0, none⟩) (ls.length) (ls.length))]) (obl := []) [o_] [0, 2, 4, 5] (fun _ _ => by kernel_rfl) trivial ?_
 refine TriL.nil (by kernel_rfl) (TriQ.next (Tri.seq (Tri.seq (Tri.region ?_))))
 refine TriL.partEq 3 (p := .abs (RowA 3 1 (some ⟨b6, 0, none⟩) ls.length ls.length (List.replicate ls.length (.int .i64 0)))) (p' := .abs (RowA 3 1 (some ⟨b6, 0, none⟩) ls.length ls.length (idsL [] 0 ls.length))) (by kernel_rfl) (by rw [idsL_zero]) ?_
 refine TriL.mem (fun w hS => hS.rowNil (e := 32) (size := 10)) ?_
 refine TriL.mem (hps' := [.abs R, .blk b4 [.slice none (0) (0)] 24, .blk b5 [.slice none (0) (0)] 24, .abs (RowA 3 1 (some ⟨b6, 0, none⟩) ls.length ls.length (idsL [] 0 ls.length)), .abs (RowA 32 10 none 0 0 ([])), .abs (FamA (entF [] layN) 0)]) (fun w hS => hS.famNil (entF [] layN)) ?_
 refine TriL.mem (hps' := [.abs R, .blk b4 [.slice none (0) (0)] 24, .blk b5 [.slice none (0) (0)] 24, .abs (RowA 3 1 (some ⟨b6, 0, none⟩) ls.length ls.length (idsL [] 0 ls.length)), .abs (RowA 32 10 none 0 0 ([])), .abs (FamA (entF [] layN) 0), .abs (FamA (datF [] layN) 0)]) (fun w hS => hS.famNil (datF [] layN)) ?_
 refine TriL.segK (k' := 1) (fr' := [(0, .slice A (ls.length) (c)), (2, .pointer (some ⟨b4, 0, none⟩)), (4, .pointer (some ⟨b5, 0, none⟩)), (5, .slice (some ⟨b6, 0, none⟩) (ls.length) (ls.length)), (6, .int .i64 0)]) (obl := []) [o_] [0, 2, 4, 5, 6] (fun _ _ => by kernel_rfl) trivial ?_
 refine TriL.nil (by kernel_rfl) (TriQ.next (Tri.block ?_))
 refine Tri.loop (ι := Nat × PS × Lay × (Option Addr) × Nat) (fun ((i, s, L, An, cn) : Nat × PS × Lay × (Option Addr) × Nat) => (i ≤ ls.length) ∧ (PHoldR ls s i)) (fun ((i, s, L, An, cn) : Nat × PS × Lay × (Option Addr) × Nat) => ls.length - i) (fun ((i, s, L, An, cn) : Nat × PS × Lay × (Option Addr) × Nat) => [(0, .slice A (ls.length) (c)), (2, .pointer (some ⟨b4, 0, none⟩)), (4, .pointer (some ⟨b5, 0, none⟩)), (5, .slice (some ⟨b6, 0, none⟩) (ls.length) (ls.length)), (6, .int .i64 ↑i)]) (fun ((i, s, L, An, cn) : Nat × PS × Lay × (Option Addr) × Nat) => [.blk b5 [.slice An (s.ns.length) (cn)] 24, .abs (RowA 32 10 An s.ns.length cn (nodesV L s.ns)), .abs (FamA (entF s.ns L) s.ns.length), .abs (FamA (datF s.ns L) s.ns.length), .abs (RowA 3 1 (some ⟨b6, 0, none⟩) ls.length ls.length (idsL s.ids 0 ls.length)), .blk b4 [.slice none (0) (0)] 24, .abs R]) (0, PS0, layN, none, 0) (idx := [0, 2, 4, 5, 6]) (pk := [2, 4, 5, 6, 3, 1, 0]) (show (0 ≤ ls.length) ∧ (PHoldR ls PS0 0) from ⟨Nat.zero_le _, PHoldR.zero ls⟩) (fun _ => by kernel_rfl) rfl (by kernel_rfl) ?_
 rintro ⟨i, s, L, An, cn⟩ ⟨hi, hP⟩
 show Tri _ _ _ _ [(0, .slice A (ls.length) (c)), (2, .pointer (some ⟨b4, 0, none⟩)), (4, .pointer (some ⟨b5, 0, none⟩)), (5, .slice (some ⟨b6, 0, none⟩) (ls.length) (ls.length)), (6, .int .i64 ↑i)] [.blk b5 [.slice An (s.ns.length) (cn)] 24, .abs (RowA 32 10 An s.ns.length cn (nodesV L s.ns)), .abs (FamA (entF s.ns L) s.ns.length), .abs (FamA (datF s.ns L) s.ns.length), .abs (RowA 3 1 (some ⟨b6, 0, none⟩) ls.length ls.length (idsL s.ids 0 ls.length)), .blk b4 [.slice none (0) (0)] 24, .abs R] _
 have hll := hC.len
 have hnl := hP.inv.nsl
 have hidl := hP.inv.idl
 refine Tri.seq (Tri.seq (Tri.region ?_))
 refine TriL.segK (k' := 4) (fr' := [(0, .slice A (ls.length) (c)), (2, .pointer (some ⟨b4, 0, none⟩)), (4, .pointer (some ⟨b5, 0, none⟩)), (5, .slice (some ⟨b6, 0, none⟩) (ls.length) (ls.length)), (6, .int .i64 ↑i), (21, .bool (decide ((((i : Nat) : Int) : Int) < (((ls.length : Nat) : Int) : Int))))]) (obl := []) [o_, o_, o_, o_] [0, 2, 4, 5, 6, 21] (fun _ _ => by kernel_rfl) trivial ?_
 refine TriL.nil (by kernel_rfl) (TriQ.next ?_)
 refine Tri.condP (p := (((i : Nat) : Int) : Int) < (((ls.length : Nat) : Int) : Int)) (fun _ => by kernel_rfl) (fun h21 => ?_) (fun h21 => ?_)
 ·
  have hi2 : i < ls.length := by omega
  have hpa := hC.path i hi2
  have hpe := hC.peer i hi2
  refine Tri.skip (TriQ.next (Tri.seq (Tri.block (Tri.seq (Tri.region ?_)))))
  refine TriL.segN (k' := 6) (fr' := fun b7 => [(0, .slice A (ls.length) (c)), (2, .pointer (some ⟨b4, 0, none⟩)), (4, .pointer (some ⟨b5, 0, none⟩)), (5, .slice (some ⟨b6, 0, none⟩) (ls.length) (ls.length)), (6, .int .i64 ↑i), (7, .pointer (some ⟨b7, 0, none⟩))]) (hps' := fun b7 => [.blk b5 [.slice An (s.ns.length) (cn)] 24, .abs (RowA 32 10 An s.ns.length cn (nodesV L s.ns)), .abs (FamA (entF s.ns L) s.ns.length), .abs (FamA (datF s.ns L) s.ns.length), .abs (RowA 3 1 (some ⟨b6, 0, none⟩) ls.length ls.length (idsL s.ids 0 ls.length)), .blk b4 [.slice none (0) (0)] 24, .abs R, .blk b7 (lineV (M.dA i) (M.dC i) (ln ls i)) 51]) (obl := fun b7 => [b7 = b7, b7 = b7, b7 = b7, b7 = b7, b7 = b7, b7 = b7, b7 = b7, b7 = b7, b7 = b7, b7 = b7, (Rd β ⟨(blkOf A), offOf A + i * 10 + 9, none⟩ (.string (ln ls i).peer)), (Rd β ⟨(blkOf A), offOf A + i * 10 + 8, none⟩ (.string (ln ls i).target)), (Rd β ⟨(blkOf A), offOf A + i * 10 + 7, none⟩ (.slice (M.dA i) ((ln ls i).data.length) ((M.dC i)))), (Rd β ⟨(blkOf A), offOf A + i * 10 + 6, none⟩ (.int .i64 ((ln ls i).nano))), (Rd β ⟨(blkOf A), offOf A + i * 10 + 5, none⟩ (.int .i64 ((ln ls i).sec))), (Rd β ⟨(blkOf A), offOf A + i * 10 + 4, none⟩ (.int .i64 ((ln ls i).gid))), (Rd β ⟨(blkOf A), offOf A + i * 10 + 3, none⟩ (.int .i64 ((ln ls i).uid))), (Rd β ⟨(blkOf A), offOf A + i * 10 + 2, none⟩ (.int .i64 ((ln ls i).mode))), (Rd β ⟨(blkOf A), offOf A + i * 10 + 1, none⟩ (.int .i64 ((ln ls i).kind))), (Rd β ⟨(blkOf A), offOf A + i * 10, none⟩ (.string (ln ls i).path)), ((i : Nat) : Int) = ((i : Nat) : Int), i < ls.length, (⟨(blkOf A), offOf A, none⟩ : Addr).spot = none, (A : Option Addr) = some ⟨(blkOf A), offOf A, none⟩]) [o_, o_, ⟨[], some i, none, some ⟨(blkOf A), offOf A, none⟩, none⟩, ⟨[.old (.string (ln ls i).path), .old (.int .i64 ((ln ls i).kind)), .old (.int .i64 ((ln ls i).mode)), .old (.int .i64 ((ln ls i).uid)), .old (.int .i64 ((ln ls i).gid)), .old (.int .i64 ((ln ls i).sec)), .old (.int .i64 ((ln ls i).nano)), .old (.slice (M.dA i) ((ln ls i).data.length) ((M.dC i))), .old (.string (ln ls i).target), .old (.string (ln ls i).peer)], none, none, none, none⟩, o_, ⟨[.at 7, .at 7, .at 7, .at 7, .at 7, .at 7, .at 7, .at 7, .at 7, .at 7], none, none, none, none⟩] [0, 2, 4, 5, 6, 7] [0, 1, 2, 3, 4, 5, 6, 7] (fun _ _ => by kernel_rfl) (fun b7 => ⟨rfl, rfl, rfl, rfl, rfl, rfl, rfl, rfl, rfl, rfl, LinesAt.rd hG (i := i) (by omega) (j := 9) rfl, LinesAt.rd hG (i := i) (by omega) (j := 8) rfl, LinesAt.rd hG (i := i) (by omega) (j := 7) rfl, LinesAt.rd hG (i := i) (by omega) (j := 6) rfl, LinesAt.rd hG (i := i) (by omega) (j := 5) rfl, LinesAt.rd hG (i := i) (by omega) (j := 4) rfl, LinesAt.rd hG (i := i) (by omega) (j := 3) rfl, LinesAt.rd hG (i := i) (by omega) (j := 2) rfl, LinesAt.rd hG (i := i) (by omega) (j := 1) rfl, LinesAt.rd hG (i := i) (by omega) (j := 0) rfl, rfl, by omega, rfl, LinesAt.hd hG (i := i) (by omega), trivial⟩) (fun b7 => ?_)
  refine TriL.nil (by kernel_rfl) (TriQ.next ?_)
  refine Tri.join (ι := Lay × (Option Addr) × Nat) (fun ((L2, An2, cn2) : Lay × (Option Addr) × Nat) => (¬ (newId ls s i) = 0)) (fun ((L2, An2, cn2) : Lay × (Option Addr) × Nat) => [(0, .slice A (ls.length) (c)), (2, .pointer (some ⟨b4, 0, none⟩)), (4, .pointer (some ⟨b5, 0, none⟩)), (5, .slice (some ⟨b6, 0, none⟩) (ls.length) (ls.length)), (6, .int .i64 ↑i), (7, .pointer (some ⟨b7, 0, none⟩))]) (fun ((L2, An2, cn2) : Lay × (Option Addr) × Nat) => [.blk b4 [.slice none (0) (0)] 24, .blk b7 (lineV (M.dA i) (M.dC i) (ln ls i)) 51, .blk b5 [.slice An2 ((newNs ls s i).length) (cn2)] 24, .abs (RowA 32 10 An2 ((newNs ls s i).length) cn2 (nodesV L2 (newNs ls s i))), .abs (FamA (entF (newNs ls s i) L2) ((newNs ls s i).length)), .abs (FamA (datF (newNs ls s i) L2) ((newNs ls s i).length)), .abs (RowA 3 1 (some ⟨b6, 0, none⟩) ls.length ls.length (idsL s.ids (newId ls s i) ls.length)), .abs R]) ?_ ?_
  ·
   rintro ⟨L2, An2, cn2⟩ hid0
   show Tri _ _ _ _ [(0, .slice A (ls.length) (c)), (2, .pointer (some ⟨b4, 0, none⟩)), (4, .pointer (some ⟨b5, 0, none⟩)), (5, .slice (some ⟨b6, 0, none⟩) (ls.length) (ls.length)), (6, .int .i64 ↑i), (7, .pointer (some ⟨b7, 0, none⟩))] [.blk b4 [.slice none (0) (0)] 24, .blk b7 (lineV (M.dA i) (M.dC i) (ln ls i)) 51, .blk b5 [.slice An2 ((newNs ls s i).length) (cn2)] 24, .abs (RowA 32 10 An2 ((newNs ls s i).length) cn2 (nodesV L2 (newNs ls s i))), .abs (FamA (entF (newNs ls s i) L2) ((newNs ls s i).length)), .abs (FamA (datF (newNs ls s i) L2) ((newNs ls s i).length)), .abs (RowA 3 1 (some ⟨b6, 0, none⟩) ls.length ls.length (idsL s.ids (newId ls s i) ls.length)), .abs R] _
   refine Tri.seq (Tri.seq (Tri.region ?_))
   refine TriL.segK (k' := 2) (fr' := [(0, .slice A (ls.length) (c)), (2, .pointer (some ⟨b4, 0, none⟩)), (4, .pointer (some ⟨b5, 0, none⟩)), (5, .slice (some ⟨b6, 0, none⟩) (ls.length) (ls.length)), (6, .int .i64 ↑i), (7, .pointer (some ⟨b7, 0, none⟩)), (96, .bool (decide ((((i : Nat) : Int) : Int) = (0 : Int))))]) (obl := []) [o_, o_] [0, 2, 4, 5, 6, 7, 96] (fun _ _ => by kernel_rfl) trivial ?_
   refine TriL.nil (by kernel_rfl) (TriQ.next ?_)
   refine Tri.condP (p := (((i : Nat) : Int) : Int) = (0 : Int)) (fun _ => by kernel_rfl) (fun h96 => ?_) (fun h96 => ?_)
   ·
    refine Tri.exit (TriQ.passExit (TriQ.blockHit (TriQ.next (Tri.region ?_))))
    refine TriL.partEq 6 (p := .abs (RowA 3 1 (some ⟨b6, 0, none⟩) ls.length ls.length (idsL s.ids (newId ls s i) ls.length))) (p' := .abs (RowA 3 1 (some ⟨b6, 0, none⟩) ls.length ls.length (idsL (s.ids ++ [newId ls s i]) 0 ls.length))) (by kernel_rfl) (by rw [idsL_next]) ?_
    refine TriL.segK (k' := 3) (fr' := [(0, .slice A (ls.length) (c)), (2, .pointer (some ⟨b4, 0, none⟩)), (4, .pointer (some ⟨b5, 0, none⟩)), (5, .slice (some ⟨b6, 0, none⟩) (ls.length) (ls.length)), (6, .int .i64 ↑(i + 1))]) (obl := [(Value.int .i64 (IntKind.wrap .i64 (((i : Nat) : Int) + 1))) = (.int .i64 ↑(i + 1))]) [o_, ⟨[], none, none, none, some (.int .i64 ↑(i + 1))⟩, o_] [0, 2, 4, 5, 6] (fun _ _ => by kernel_rfl) ⟨wrapEq (by omega) (by omega) (by omega), trivial⟩ ?_
    refine TriL.nil (by kernel_rfl) ?_
    exact TriQ.turn ((i + 1), ⟨(newNs ls s i), (s.ids ++ [newId ls s i])⟩, L2, An2, cn2) (idx := [0, 2, 4, 5, 6]) (pk := [2, 3, 4, 5, 6, 0, 7]) (show (((i + 1)) ≤ ls.length) ∧ (PHoldR ls (⟨(newNs ls s i), (s.ids ++ [newId ls s i])⟩) ((i + 1))) from ⟨by omega, hP.next (stepR_first hid0 (by omega)) (EntsLe.new hP.ents).up⟩) (by show ls.length - ((i + 1)) < ls.length - i; omega) (fun _ => by kernel_rfl) rfl (by kernel_rfl)
   ·
    refine Tri.skip (TriQ.next (Tri.seq (Tri.region ?_)))
    refine TriL.segK (k' := 5) (fr' := [(0, .slice A (ls.length) (c)), (2, .pointer (some ⟨b4, 0, none⟩)), (4, .pointer (some ⟨b5, 0, none⟩)), (5, .slice (some ⟨b6, 0, none⟩) (ls.length) (ls.length)), (6, .int .i64 ↑i), (7, .pointer (some ⟨b7, 0, none⟩)), (9, .int .i64 ((((((ln ls i).path).size : Nat) : Int) - 1)))]) (obl := [(Value.int .i64 (IntKind.wrap .i64 (((((ln ls i).path : ByteArray).size : Nat) : Int) - 1))) = (.int .i64 ((((((ln ls i).path).size : Nat) : Int) - 1))), b7 = b7]) [o_, ⟨[.at 1], none, none, none, none⟩, o_, ⟨[], none, none, none, some (.int .i64 ((((((ln ls i).path).size : Nat) : Int) - 1)))⟩, o_] [0, 2, 4, 5, 6, 7, 9] (fun _ _ => by kernel_rfl) ⟨wrapEq rfl (by omega) (by omega), rfl, trivial⟩ ?_
    refine TriL.nil (by kernel_rfl) (TriQ.next ?_)
    refine Tri.join (ι := Unit) (fun (u : Unit) => True) (fun (u : Unit) => [(0, .slice A (ls.length) (c)), (2, .pointer (some ⟨b4, 0, none⟩)), (4, .pointer (some ⟨b5, 0, none⟩)), (5, .slice (some ⟨b6, 0, none⟩) (ls.length) (ls.length)), (6, .int .i64 ↑i), (7, .pointer (some ⟨b7, 0, none⟩)), (9, .int .i64 ((cutAt (ln ls i).path)))]) (fun (u : Unit) => [.blk b4 [.slice none (0) (0)] 24, .blk b7 (lineV (M.dA i) (M.dC i) (ln ls i)) 51, .blk b5 [.slice An2 ((newNs ls s i).length) (cn2)] 24, .abs (RowA 32 10 An2 ((newNs ls s i).length) cn2 (nodesV L2 (newNs ls s i))), .abs (FamA (entF (newNs ls s i) L2) ((newNs ls s i).length)), .abs (FamA (datF (newNs ls s i) L2) ((newNs ls s i).length)), .abs (RowA 3 1 (some ⟨b6, 0, none⟩) ls.length ls.length (idsL s.ids (newId ls s i) ls.length)), .abs R]) ?_ ?_
    ·
     rintro u _
     show Tri _ _ _ _ [(0, .slice A (ls.length) (c)), (2, .pointer (some ⟨b4, 0, none⟩)), (4, .pointer (some ⟨b5, 0, none⟩)), (5, .slice (some ⟨b6, 0, none⟩) (ls.length) (ls.length)), (6, .int .i64 ↑i), (7, .pointer (some ⟨b7, 0, none⟩)), (9, .int .i64 ((cutAt (ln ls i).path)))] [.blk b4 [.slice none (0) (0)] 24, .blk b7 (lineV (M.dA i) (M.dC i) (ln ls i)) 51, .blk b5 [.slice An2 ((newNs ls s i).length) (cn2)] 24, .abs (RowA 32 10 An2 ((newNs ls s i).length) cn2 (nodesV L2 (newNs ls s i))), .abs (FamA (entF (newNs ls s i) L2) ((newNs ls s i).length)), .abs (FamA (datF (newNs ls s i) L2) ((newNs ls s i).length)), .abs (RowA 3 1 (some ⟨b6, 0, none⟩) ls.length ls.length (idsL s.ids (newId ls s i) ls.length)), .abs R] _
     refine Tri.seq (Tri.region ?_)
     refine TriL.segK (k' := 1) (fr' := [(0, .slice A (ls.length) (c)), (2, .pointer (some ⟨b4, 0, none⟩)), (4, .pointer (some ⟨b5, 0, none⟩)), (5, .slice (some ⟨b6, 0, none⟩) (ls.length) (ls.length)), (6, .int .i64 ↑i), (7, .pointer (some ⟨b7, 0, none⟩)), (9, .int .i64 ((cutAt (ln ls i).path))), (10, .int .i64 0)]) (obl := []) [o_] [0, 2, 4, 5, 6, 7, 9, 10] (fun _ _ => by kernel_rfl) trivial ?_
     refine TriL.nil (by kernel_rfl) (TriQ.next ?_)
     refine Tri.join (ι := Unit) (fun (u : Unit) => True) (fun (u : Unit) => [(0, .slice A (ls.length) (c)), (2, .pointer (some ⟨b4, 0, none⟩)), (4, .pointer (some ⟨b5, 0, none⟩)), (5, .slice (some ⟨b6, 0, none⟩) (ls.length) (ls.length)), (6, .int .i64 ↑i), (7, .pointer (some ⟨b7, 0, none⟩)), (9, .int .i64 ((cutAt (ln ls i).path))), (10, .int .i64 ((parR ls s i)))]) (fun (u : Unit) => [.blk b4 [.slice none (0) (0)] 24, .blk b7 (lineV (M.dA i) (M.dC i) (ln ls i)) 51, .blk b5 [.slice An2 ((newNs ls s i).length) (cn2)] 24, .abs (RowA 32 10 An2 ((newNs ls s i).length) cn2 (nodesV L2 (newNs ls s i))), .abs (FamA (entF (newNs ls s i) L2) ((newNs ls s i).length)), .abs (FamA (datF (newNs ls s i) L2) ((newNs ls s i).length)), .abs (RowA 3 1 (some ⟨b6, 0, none⟩) ls.length ls.length (idsL s.ids (newId ls s i) ls.length)), .abs R]) ?_ ?_
     ·
      rintro u _
      show Tri _ _ _ _ [(0, .slice A (ls.length) (c)), (2, .pointer (some ⟨b4, 0, none⟩)), (4, .pointer (some ⟨b5, 0, none⟩)), (5, .slice (some ⟨b6, 0, none⟩) (ls.length) (ls.length)), (6, .int .i64 ↑i), (7, .pointer (some ⟨b7, 0, none⟩)), (9, .int .i64 ((cutAt (ln ls i).path))), (10, .int .i64 ((parR ls s i)))] [.blk b4 [.slice none (0) (0)] 24, .blk b7 (lineV (M.dA i) (M.dC i) (ln ls i)) 51, .blk b5 [.slice An2 ((newNs ls s i).length) (cn2)] 24, .abs (RowA 32 10 An2 ((newNs ls s i).length) cn2 (nodesV L2 (newNs ls s i))), .abs (FamA (entF (newNs ls s i) L2) ((newNs ls s i).length)), .abs (FamA (datF (newNs ls s i) L2) ((newNs ls s i).length)), .abs (RowA 3 1 (some ⟨b6, 0, none⟩) ls.length ls.length (idsL s.ids (newId ls s i) ls.length)), .abs R] _
      refine Tri.seq (Tri.seq (Tri.region ?_))
      have hp0 : 0 < i := by omega
      have hp1 := parR_lt hP.inv hp0
      have hp2 := newNs_ge (ls := ls) (s := s) (i := i)
      have hp4 := hP.inv.ns1 hp0
      have hp3 : (parR ls s i).toNat < (newNs ls s i).length := by omega
      have hel := (EntsLe.new (ls := ls) hP.ents) (parR ls s i).toNat hp3
      have hcu := cutAt_le (ln ls i).path
      refine TriL.tell (p := ∃ g, An2 = some ⟨g, 0, none⟩) (fun w hS => let ⟨F, h⟩ := hS.get (i := 3) rfl; RowA.head h (by omega)) (fun ⟨g8, hg⟩ => ?_)
      subst hg
      refine TriL.segK (k' := 2) (fr' := [(0, .slice A (ls.length) (c)), (2, .pointer (some ⟨b4, 0, none⟩)), (4, .pointer (some ⟨b5, 0, none⟩)), (5, .slice (some ⟨b6, 0, none⟩) (ls.length) (ls.length)), (6, .int .i64 ↑i), (7, .pointer (some ⟨b7, 0, none⟩)), (9, .int .i64 ((cutAt (ln ls i).path))), (10, .int .i64 ((parR ls s i))), (135, .bool (decide (((parR ls s i) : Int) < (0 : Int))))]) (obl := []) [o_, o_] [0, 2, 4, 5, 6, 7, 9, 10, 135] (fun _ _ => by kernel_rfl) trivial ?_
      refine TriL.nil (by kernel_rfl) (TriQ.next ?_)
      refine Tri.condP (p := ((parR ls s i) : Int) < (0 : Int)) (fun _ => by kernel_rfl) (fun h135 => ?_) (fun h135 => ?_)
      ·
       refine Tri.seq (Tri.region ?_)
       refine TriL.seg (k' := 3) (fr' := [(2, .pointer (some ⟨b4, 0, none⟩)), (3, .int .i64 151)]) (hps' := [.blk b4 [.slice none (0) (0)] 24, .blk b7 (lineV (M.dA i) (M.dC i) (ln ls i)) 51, .blk b5 [.slice (some ⟨g8, 0, none⟩) ((newNs ls s i).length) (cn2)] 24, .abs (RowA 32 10 (some ⟨g8, 0, none⟩) ((newNs ls s i).length) cn2 (nodesV L2 (newNs ls s i))), .abs (FamA (entF (newNs ls s i) L2) ((newNs ls s i).length)), .abs (FamA (datF (newNs ls s i) L2) ((newNs ls s i).length)), .abs (RowA 3 1 (some ⟨b6, 0, none⟩) ls.length ls.length (idsL s.ids (newId ls s i) ls.length)), .abs R]) (obl := [b4 = b4]) [o_, ⟨[.at 0], none, none, none, none⟩, o_] [2, 3] [0, 1, 2, 3, 4, 5, 6, 7] (fun _ _ => by kernel_rfl) ⟨rfl, trivial⟩ ?_
       refine TriL.nil (by kernel_rfl) (TriQ.next (Tri.ret (TriQ.passRet (TriQ.blockRet (TriQ.passRet (TriQ.passRet (TriQ.blockRet (TriQ.passRet ?_))))))))
       refine TriQ.mem (hps' := [.blk b4 [.slice none (0) (0)] 24, .blk b7 (lineV (M.dA i) (M.dC i) (ln ls i)) 51, .blk b5 [.slice (some ⟨g8, 0, none⟩) ((newNs ls s i).length) (cn2)] 24, .abs (RowA 32 10 (some ⟨g8, 0, none⟩) ((newNs ls s i).length) cn2 (nodesV L2 (newNs ls s i))), .abs (FamA (entF (newNs ls s i) L2) ((newNs ls s i).length)), .abs (FamA (datF (newNs ls s i) L2) ((newNs ls s i).length)), .abs (RowA 3 1 (some ⟨b6, 0, none⟩) ls.length ls.length (idsL s.ids (newId ls s i) ls.length)), .abs R, .abs (RowA 32 10 none 0 0 ([])), .abs (FamA (entF [] layN) 0), .abs (FamA (datF [] layN) 0)]) (fun w hS => ((hS.rowNil (e := 32) (size := 10)).famNil (entF [] layN)).famNil (datF [] layN)) ?_
       exact TriQ.ret (v := .tuple #[.agg #[.slice none (0) (0)], .int .i64 151]) (l := [.abs (RowA 32 10 none 0 0 ([])), .abs (FamA (entF [] layN) 0), .abs (FamA (datF [] layN) 0)]) (obl := [b4 = b4]) [.at 0] [8, 9, 10, 7] (fun _ => by kernel_rfl) ⟨rfl, trivial⟩ rfl (by kernel_rfl) (⟨none, 0, layN, by rw [plantR_none (hP.stop hi2 (stepR_noparent hid0 (by omega) (by omega)))]; rfl, by rw [plantR_none (hP.stop hi2 (stepR_noparent hid0 (by omega) (by omega)))]; rfl⟩)
      ·
       refine Tri.skip (TriQ.next ?_)
       refine Tri.regionMix (S := [.blk b7 (lineV (M.dA i) (M.dC i) (ln ls i)) 51, .blk b5 [.slice (some ⟨g8, 0, none⟩) ((newNs ls s i).length) (cn2)] 24, .abs (RowA 32 10 (some ⟨g8, 0, none⟩) ((newNs ls s i).length) cn2 (nodesV L2 (newNs ls s i))), .abs (RowA 3 1 (some ⟨b6, 0, none⟩) ls.length ls.length (idsL s.ids (newId ls s i) ls.length))]) [0, 1, 2, 3, 4, 5, 6, 7, 8, 9, 10, 11, 12, 13, 14, 15, 16, 17, 18, 19, 20, 21, 22, 23] 19 [1, 2, 3, 6] (by kernel_rfl) (by kernel_rfl) rfl (by kernel_rfl) ?_
       refine TriM.reads (r := 0) (l := [19, 20, 21, 22, 23]) (fr' := [(0, .slice A (ls.length) (c)), (2, .pointer (some ⟨b4, 0, none⟩)), (4, .pointer (some ⟨b5, 0, none⟩)), (5, .slice (some ⟨b6, 0, none⟩) (ls.length) (ls.length)), (6, .int .i64 ↑i), (138, .slice (some ⟨g8, 0, none⟩) ((newNs ls s i).length) (cn2)), (139, .int .i64 ((parR ls s i))), (145, .slice (L2.eA (parR ls s i).toNat) ((nd (newNs ls s i) (parR ls s i).toNat).ents.length) ((L2.eC (parR ls s i).toNat))), (155, .agg #[.string (nameOf (ln ls i).path), .int .i64 ↑(newId ls s i)])]) (obl := [(∀ F w, (RowA 3 1 (some ⟨b6, 0, none⟩) ls.length ls.length (idsL s.ids (newId ls s i) ls.length)).h F w → w.cell? ⟨b6, i, none⟩ = some (.int .i64 ↑(newId ls s i))), (Value.pointer (some ⟨b6, 0 + i * 1, none⟩)) = (.pointer (some ⟨b6, i, none⟩)), ((i : Nat) : Int) = ((i : Nat) : Int), i < ls.length, (⟨b6, 0, none⟩ : Addr).spot = none, ((.string (((ln ls i).path : ByteArray).extract ((cutAt (ln ls i).path + 1).toNat) ((ln ls i).path : ByteArray).size) : Value)) = (.string (nameOf (ln ls i).path)), (cutAt (ln ls i).path + 1) = (((cutAt (ln ls i).path + 1).toNat : Nat) : Int), (cutAt (ln ls i).path + 1).toNat ≤ ((ln ls i).path : ByteArray).size, (Value.int .i64 (IntKind.wrap .i64 ((cutAt (ln ls i).path) + 1))) = (.int .i64 ((cutAt (ln ls i).path + 1))), b7 = b7, (∀ F w, (RowA 32 10 (some ⟨g8, 0, none⟩) ((newNs ls s i).length) cn2 (nodesV L2 (newNs ls s i))).h F w → w.cell? ⟨g8, ((parR ls s i).toNat) * 10 + 9, none⟩ = some (.slice (L2.eA (parR ls s i).toNat) ((nd (newNs ls s i) (parR ls s i).toNat).ents.length) ((L2.eC (parR ls s i).toNat)))), (Value.pointer (some ⟨g8, 0 + ((parR ls s i).toNat) * 10, none⟩)) = (.pointer (some ⟨g8, ((parR ls s i).toNat) * 10, none⟩)), (parR ls s i) = (((parR ls s i).toNat : Nat) : Int), (parR ls s i).toNat < (newNs ls s i).length, (⟨g8, 0, none⟩ : Addr).spot = none, b5 = b5, b5 = b5]) [0, 1, 2, 3, 4, 5, 6, 7, 8, 9, 10, 11, 12, 13, 14, 15, 16, 17, 18] [o_, ⟨[.at 1], none, none, none, none⟩, o_, o_, ⟨[.at 1], none, none, none, none⟩, o_, ⟨[], some ((parR ls s i).toNat), none, none, some (.pointer (some ⟨g8, ((parR ls s i).toNat) * 10, none⟩))⟩, o_, ⟨[.view 2 (.slice (L2.eA (parR ls s i).toNat) ((nd (newNs ls s i) (parR ls s i).toNat).ents.length) ((L2.eC (parR ls s i).toNat)))], none, none, none, none⟩, o_, ⟨[.at 0], none, none, none, none⟩, o_, ⟨[], none, none, none, some (.int .i64 ((cutAt (ln ls i).path + 1)))⟩, ⟨[], some ((cutAt (ln ls i).path + 1).toNat), none, none, some (.string (nameOf (ln ls i).path))⟩, o_, o_, ⟨[], some i, none, none, some (.pointer (some ⟨b6, i, none⟩))⟩, ⟨[.view 3 (.int .i64 ↑(newId ls s i))], none, none, none, none⟩, o_] [0, 2, 4, 5, 6, 138, 139, 145, 155] (fun _ => by kernel_rfl) ⟨RowA.cell (idsL_at (by omega) (by omega)), by simp, rfl, by omega, rfl, congrArg Value.string (name_cut _), by omega, by omega, wrapEq rfl (by omega) (by omega), rfl, RowA.cell (nodesV_get (k := (parR ls s i).toNat) (j := 9) (by omega) rfl), by simp, by omega, by omega, rfl, rfl, rfl, trivial⟩ rfl rfl ?_
       refine TriM.cut (ι := Nat) (fr' := fun (b9 : Nat) => [(0, .slice A (ls.length) (c)), (2, .pointer (some ⟨b4, 0, none⟩)), (4, .pointer (some ⟨b5, 0, none⟩)), (5, .slice (some ⟨b6, 0, none⟩) (ls.length) (ls.length)), (6, .int .i64 ↑i), (138, .slice (some ⟨g8, 0, none⟩) ((newNs ls s i).length) (cn2)), (139, .int .i64 ((parR ls s i))), (145, .slice (L2.eA (parR ls s i).toNat) ((nd (newNs ls s i) (parR ls s i).toNat).ents.length) ((L2.eC (parR ls s i).toNat))), (156, .slice (some ⟨b9, 0, none⟩) (1) (1))]) (hp' := fun (b9 : Nat) => [.blk b4 [.slice none (0) (0)] 24, .blk b7 (lineV (M.dA i) (M.dC i) (ln ls i)) 51, .blk b5 [.slice (some ⟨g8, 0, none⟩) ((newNs ls s i).length) (cn2)] 24, .abs (RowA 32 10 (some ⟨g8, 0, none⟩) ((newNs ls s i).length) cn2 (nodesV L2 (newNs ls s i))), .abs (FamA (entF (newNs ls s i) L2) ((newNs ls s i).length)), .abs (FamA (datF (newNs ls s i) L2) ((newNs ls s i).length)), .abs (RowA 3 1 (some ⟨b6, 0, none⟩) ls.length ls.length (idsL s.ids (newId ls s i) ls.length)), .abs R, .blk b9 [.string (nameOf (ln ls i).path), .int .i64 ↑(newId ls s i)] 72]) [1, 2, 3, 6] rfl rfl ?_ rfl (fun _ => by kernel_rfl) ?_
       ·
        refine TriL.segN (k' := 1) (fr' := fun b9 => [(0, .slice A (ls.length) (c)), (2, .pointer (some ⟨b4, 0, none⟩)), (4, .pointer (some ⟨b5, 0, none⟩)), (5, .slice (some ⟨b6, 0, none⟩) (ls.length) (ls.length)), (6, .int .i64 ↑i), (138, .slice (some ⟨g8, 0, none⟩) ((newNs ls s i).length) (cn2)), (139, .int .i64 ((parR ls s i))), (145, .slice (L2.eA (parR ls s i).toNat) ((nd (newNs ls s i) (parR ls s i).toNat).ents.length) ((L2.eC (parR ls s i).toNat))), (156, .slice (some ⟨b9, 0, none⟩) (1) (1))]) (hps' := fun b9 => [.blk b4 [.slice none (0) (0)] 24, .blk b7 (lineV (M.dA i) (M.dC i) (ln ls i)) 51, .blk b5 [.slice (some ⟨g8, 0, none⟩) ((newNs ls s i).length) (cn2)] 24, .abs (RowA 32 10 (some ⟨g8, 0, none⟩) ((newNs ls s i).length) cn2 (nodesV L2 (newNs ls s i))), .abs (FamA (entF (newNs ls s i) L2) ((newNs ls s i).length)), .abs (FamA (datF (newNs ls s i) L2) ((newNs ls s i).length)), .abs (RowA 3 1 (some ⟨b6, 0, none⟩) ls.length ls.length (idsL s.ids (newId ls s i) ls.length)), .abs R, .blk b9 [.string (nameOf (ln ls i).path), .int .i64 ↑(newId ls s i)] 72]) (obl := fun b9 => []) [o_] [0, 2, 4, 5, 6, 138, 139, 145, 156] [0, 1, 2, 3, 4, 5, 6, 7, 8] (fun _ _ => by kernel_rfl) (fun b9 => trivial) (fun b9 => ?_)
        refine TriL.nil (by kernel_rfl) ?_
        exact TriQ.mid b9 (idx := [0, 2, 4, 5, 6, 138, 139, 145, 156]) (pk := [0, 1, 2, 3, 4, 5, 6, 7, 8]) (fun _ => by kernel_rfl) rfl (by kernel_rfl)
       rintro b9
       refine TriM.cut (ι := (Option Addr) × Nat) (fr' := fun ((A10, c11) : (Option Addr) × Nat) => [(0, .slice A (ls.length) (c)), (2, .pointer (some ⟨b4, 0, none⟩)), (4, .pointer (some ⟨b5, 0, none⟩)), (5, .slice (some ⟨b6, 0, none⟩) (ls.length) (ls.length)), (6, .int .i64 ↑i), (138, .slice (some ⟨g8, 0, none⟩) ((newNs ls s i).length) (cn2)), (139, .int .i64 ((parR ls s i))), (157, .slice A10 (((nd (newNs ls s i) (parR ls s i).toNat).ents.length) + 1) (c11))]) (hp' := fun ((A10, c11) : (Option Addr) × Nat) => [.blk b4 [.slice none (0) (0)] 24, .blk b7 (lineV (M.dA i) (M.dC i) (ln ls i)) 51, .blk b5 [.slice (some ⟨g8, 0, none⟩) ((newNs ls s i).length) (cn2)] 24, .abs (RowA 32 10 (some ⟨g8, 0, none⟩) ((newNs ls s i).length) cn2 (nodesV L2 (newNs ls s i))), .abs (FamA (updR (entF (newNs ls s i) L2) ((parR ls s i).toNat) Asn.none) ((newNs ls s i).length)), .abs (FamA (datF (newNs ls s i) L2) ((newNs ls s i).length)), .abs (RowA 3 1 (some ⟨b6, 0, none⟩) ls.length ls.length (idsL s.ids (newId ls s i) ls.length)), .abs R, .blk b9 [.string (nameOf (ln ls i).path), .int .i64 ↑(newId ls s i)] 72, .abs (RowA 72 2 A10 (((nd (newNs ls s i) (parR ls s i).toNat).ents.length) + 1) c11 ((entsV (nd (newNs ls s i) (parR ls s i).toNat).ents) ++ [.string (nameOf (ln ls i).path), .int .i64 ↑(newId ls s i)]))]) [1, 2, 3, 6] rfl rfl ?_ rfl (fun _ => by kernel_rfl) ?_
       ·
        refine TriL.mem (hps' := [.blk b4 [.slice none (0) (0)] 24, .blk b7 (lineV (M.dA i) (M.dC i) (ln ls i)) 51, .blk b5 [.slice (some ⟨g8, 0, none⟩) ((newNs ls s i).length) (cn2)] 24, .abs (RowA 32 10 (some ⟨g8, 0, none⟩) ((newNs ls s i).length) cn2 (nodesV L2 (newNs ls s i))), .abs (FamA (updR (entF (newNs ls s i) L2) ((parR ls s i).toNat) Asn.none) ((newNs ls s i).length)), .abs (FamA (datF (newNs ls s i) L2) ((newNs ls s i).length)), .abs (RowA 3 1 (some ⟨b6, 0, none⟩) ls.length ls.length (idsL s.ids (newId ls s i) ls.length)), .abs R, .blk b9 [.string (nameOf (ln ls i).path), .int .i64 ↑(newId ls s i)] 72, .abs (RowA 72 2 (L2.eA (parR ls s i).toNat) ((nd (newNs ls s i) (parR ls s i).toNat).ents.length) (L2.eC (parR ls s i).toNat) (entsV (nd (newNs ls s i) (parR ls s i).toNat).ents))]) (fun w hS => hS.famTake (i := 4) (k := (parR ls s i).toNat) rfl (hp3)) ?_
        refine TriL.append 9 (d := (some 157)) (t := 30) (e := 72) (z := .agg #[.string ⟨#[]⟩, .int .i64 0]) (size := 2) (bytes := 24) (n := (nd (newNs ls s i) (parR ls s i).toNat).ents.length) (cap := (L2.eC (parR ls s i).toNat)) (A := (L2.eA (parR ls s i).toNat)) (xs := (entsV (nd (newNs ls s i) (parR ls s i).toNat).ents)) (s := (.tmp 145)) (x := (.tmp 156)) (ats := #[30, 30]) (A' := some ⟨b9, 0, none⟩) (m := 1) (c' := 1) (news := [.string (nameOf (ln ls i).path), .int .i64 ↑(newId ls s i)]) (fun _ => by kernel_rfl) rfl (by kernel_rfl) (fun _ => by kernel_rfl) (fun _ => by kernel_rfl) Try.underlying30 (by kernel_rfl) rfl (by decide) (by simp) (by simp [Value.oneCell']) (src_blk (j := 8) rfl) (by unfold maxLen; omega) (by omega) (fun A10 c11 => ?_)
        refine TriL.nil (by kernel_rfl) ?_
        exact TriQ.mid (A10, c11) (idx := [0, 2, 4, 5, 6, 138, 139, 157]) (pk := [0, 1, 2, 3, 4, 5, 6, 7, 8, 9]) (fun _ => by kernel_rfl) rfl (by kernel_rfl)
       rintro ⟨A10, c11⟩
       refine TriM.cut (ι := Unit) (fr' := fun (_ : Unit) => [(0, .slice A (ls.length) (c)), (2, .pointer (some ⟨b4, 0, none⟩)), (4, .pointer (some ⟨b5, 0, none⟩)), (5, .slice (some ⟨b6, 0, none⟩) (ls.length) (ls.length)), (6, .int .i64 ↑i), (157, .slice A10 (((nd (newNs ls s i) (parR ls s i).toNat).ents.length) + 1) (c11)), (158, .pointer (some ⟨g8, ((parR ls s i).toNat) * 10, none⟩))]) (hp' := fun (_ : Unit) => [.blk b4 [.slice none (0) (0)] 24, .blk b7 (lineV (M.dA i) (M.dC i) (ln ls i)) 51, .blk b5 [.slice (some ⟨g8, 0, none⟩) ((newNs ls s i).length) (cn2)] 24, .abs (RowA 32 10 (some ⟨g8, 0, none⟩) ((newNs ls s i).length) cn2 (nodesV L2 (newNs ls s i))), .abs (FamA (updR (entF (newNs ls s i) L2) ((parR ls s i).toNat) Asn.none) ((newNs ls s i).length)), .abs (FamA (datF (newNs ls s i) L2) ((newNs ls s i).length)), .abs (RowA 3 1 (some ⟨b6, 0, none⟩) ls.length ls.length (idsL s.ids (newId ls s i) ls.length)), .abs R, .blk b9 [.string (nameOf (ln ls i).path), .int .i64 ↑(newId ls s i)] 72, .abs (RowA 72 2 A10 (((nd (newNs ls s i) (parR ls s i).toNat).ents.length) + 1) c11 ((entsV (nd (newNs ls s i) (parR ls s i).toNat).ents) ++ [.string (nameOf (ln ls i).path), .int .i64 ↑(newId ls s i)]))]) [1, 2, 3, 6] rfl rfl ?_ rfl (fun _ => by kernel_rfl) ?_
       ·
        refine TriL.segK (k' := 1) (fr' := [(0, .slice A (ls.length) (c)), (2, .pointer (some ⟨b4, 0, none⟩)), (4, .pointer (some ⟨b5, 0, none⟩)), (5, .slice (some ⟨b6, 0, none⟩) (ls.length) (ls.length)), (6, .int .i64 ↑i), (157, .slice A10 (((nd (newNs ls s i) (parR ls s i).toNat).ents.length) + 1) (c11)), (158, .pointer (some ⟨g8, ((parR ls s i).toNat) * 10, none⟩))]) (obl := [(Value.pointer (some ⟨g8, 0 + ((parR ls s i).toNat) * 10, none⟩)) = (.pointer (some ⟨g8, ((parR ls s i).toNat) * 10, none⟩)), (parR ls s i) = (((parR ls s i).toNat : Nat) : Int), (parR ls s i).toNat < (newNs ls s i).length, (⟨g8, 0, none⟩ : Addr).spot = none]) [⟨[], some ((parR ls s i).toNat), none, none, some (.pointer (some ⟨g8, ((parR ls s i).toNat) * 10, none⟩))⟩] [0, 2, 4, 5, 6, 157, 158] (fun _ _ => by kernel_rfl) ⟨by simp, by omega, by omega, rfl, trivial⟩ ?_
        refine TriL.nil (by kernel_rfl) ?_
        exact TriQ.mid () (idx := [0, 2, 4, 5, 6, 157, 158]) (pk := [0, 1, 2, 3, 4, 5, 6, 7, 8, 9]) (fun _ => by kernel_rfl) rfl (by kernel_rfl)
       rintro _
       refine TriM.cut (ι := Unit) (fr' := fun (_ : Unit) => [(0, .slice A (ls.length) (c)), (2, .pointer (some ⟨b4, 0, none⟩)), (4, .pointer (some ⟨b5, 0, none⟩)), (5, .slice (some ⟨b6, 0, none⟩) (ls.length) (ls.length)), (6, .int .i64 ↑i), (157, .slice A10 (((nd (newNs ls s i) (parR ls s i).toNat).ents.length) + 1) (c11)), (159, .pointer (some ⟨g8, ((parR ls s i).toNat) * 10 + 9, none⟩))]) (hp' := fun (_ : Unit) => [.blk b4 [.slice none (0) (0)] 24, .blk b7 (lineV (M.dA i) (M.dC i) (ln ls i)) 51, .blk b5 [.slice (some ⟨g8, 0, none⟩) ((newNs ls s i).length) (cn2)] 24, .abs (RowA 32 10 (some ⟨g8, 0, none⟩) ((newNs ls s i).length) cn2 (nodesV L2 (newNs ls s i))), .abs (FamA (updR (entF (newNs ls s i) L2) ((parR ls s i).toNat) Asn.none) ((newNs ls s i).length)), .abs (FamA (datF (newNs ls s i) L2) ((newNs ls s i).length)), .abs (RowA 3 1 (some ⟨b6, 0, none⟩) ls.length ls.length (idsL s.ids (newId ls s i) ls.length)), .abs R, .blk b9 [.string (nameOf (ln ls i).path), .int .i64 ↑(newId ls s i)] 72, .abs (RowA 72 2 A10 (((nd (newNs ls s i) (parR ls s i).toNat).ents.length) + 1) c11 ((entsV (nd (newNs ls s i) (parR ls s i).toNat).ents) ++ [.string (nameOf (ln ls i).path), .int .i64 ↑(newId ls s i)]))]) [1, 2, 3, 6] rfl rfl ?_ rfl (fun _ => by kernel_rfl) ?_
       ·
        refine TriL.segK (k' := 1) (fr' := [(0, .slice A (ls.length) (c)), (2, .pointer (some ⟨b4, 0, none⟩)), (4, .pointer (some ⟨b5, 0, none⟩)), (5, .slice (some ⟨b6, 0, none⟩) (ls.length) (ls.length)), (6, .int .i64 ↑i), (157, .slice A10 (((nd (newNs ls s i) (parR ls s i).toNat).ents.length) + 1) (c11)), (159, .pointer (some ⟨g8, ((parR ls s i).toNat) * 10 + 9, none⟩))]) (obl := []) [o_] [0, 2, 4, 5, 6, 157, 159] (fun _ _ => by kernel_rfl) trivial ?_
        refine TriL.nil (by kernel_rfl) ?_
        exact TriQ.mid () (idx := [0, 2, 4, 5, 6, 157, 159]) (pk := [0, 1, 2, 3, 4, 5, 6, 7, 8, 9]) (fun _ => by kernel_rfl) rfl (by kernel_rfl)
       rintro _
       refine TriM.last rfl rfl ?_
       refine TriL.mem (hps' := [.abs (FamA (entF (addEnt (newNs ls s i) (parR ls s i).toNat (⟨nameOf (ln ls i).path, (((newId ls s i) : Nat) : Int)⟩ : EntM)) (L2.ent (parR ls s i).toNat A10 c11)) ((newNs ls s i).length)), .blk b4 [.slice none (0) (0)] 24, .blk b7 (lineV (M.dA i) (M.dC i) (ln ls i)) 51, .blk b5 [.slice (some ⟨g8, 0, none⟩) ((newNs ls s i).length) (cn2)] 24, .abs (RowA 32 10 (some ⟨g8, 0, none⟩) ((newNs ls s i).length) cn2 (nodesV L2 (newNs ls s i))), .abs (FamA (datF (newNs ls s i) L2) ((newNs ls s i).length)), .abs (RowA 3 1 (some ⟨b6, 0, none⟩) ls.length ls.length (idsL s.ids (newId ls s i) ls.length)), .abs R, .blk b9 [.string (nameOf (ln ls i).path), .int .i64 ↑(newId ls s i)] 72]) (fun w hS => hS.famPut (R' := (entF (addEnt (newNs ls s i) (parR ls s i).toNat (⟨nameOf (ln ls i).path, (((newId ls s i) : Nat) : Int)⟩ : EntM)) (L2.ent (parR ls s i).toNat A10 c11))) (i := 4) (j := 9) (idx := [0, 1, 2, 3, 5, 6, 7, 8]) (k := (parR ls s i).toNat) rfl rfl (by kernel_rfl) rfl (hp3) ((entF_ent hp3).1) ((entF_ent hp3).2)) ?_
       refine TriL.rowSet 4 ((parR ls s i).toNat * 10 + 9) (d := none) (T := 30) (e := 32) (size := 10) (n := (newNs ls s i).length) (cap := cn2) (g := g8) (xs := (nodesV L2 (newNs ls s i))) (u := .slice A10 (((nd (newNs ls s i) (parR ls s i).toNat).ents.length) + 1) (c11)) (a := (.tmp 159)) (y := (.tmp 157)) (fun _ => by kernel_rfl) (by kernel_rfl) (fun _ => by kernel_rfl) (fun _ => by kernel_rfl) (by kernel_rfl) rfl (by rw [nodesV_len]; omega) ?_
       refine TriL.partEq 4 (p := .abs (RowA 32 10 (some ⟨g8, 0, none⟩) ((newNs ls s i).length) cn2 ((nodesV L2 (newNs ls s i)).set ((parR ls s i).toNat * 10 + 9) (.slice A10 (((nd (newNs ls s i) (parR ls s i).toNat).ents.length) + 1) (c11))))) (p' := .abs (RowA 32 10 (some ⟨g8, 0, none⟩) ((newNs ls s i).length) cn2 (nodesV (L2.ent (parR ls s i).toNat A10 c11) (addEnt (newNs ls s i) (parR ls s i).toNat (⟨nameOf (ln ls i).path, (((newId ls s i) : Nat) : Int)⟩ : EntM))))) (by kernel_rfl) (by rw [nodesV_ent hp3]) ?_
       refine TriL.nil (by kernel_rfl) (TriQ.np (TriQ.blockNormal (TriQ.next (Tri.region ?_))))
       refine TriL.partEq 6 (p := .abs (RowA 3 1 (some ⟨b6, 0, none⟩) ls.length ls.length (idsL s.ids (newId ls s i) ls.length))) (p' := .abs (RowA 3 1 (some ⟨b6, 0, none⟩) ls.length ls.length (idsL (s.ids ++ [newId ls s i]) 0 ls.length))) (by kernel_rfl) (by rw [idsL_next]) ?_
       refine TriL.partEq 4 (p := .abs (RowA 32 10 (some ⟨g8, 0, none⟩) ((newNs ls s i).length) cn2 (nodesV (L2.ent (parR ls s i).toNat A10 c11) (addEnt (newNs ls s i) (parR ls s i).toNat (⟨nameOf (ln ls i).path, (((newId ls s i) : Nat) : Int)⟩ : EntM))))) (p' := .abs (RowA 32 10 (some ⟨g8, 0, none⟩) ((addEnt (newNs ls s i) (parR ls s i).toNat (⟨nameOf (ln ls i).path, (((newId ls s i) : Nat) : Int)⟩ : EntM)).length) cn2 (nodesV (L2.ent (parR ls s i).toNat A10 c11) (addEnt (newNs ls s i) (parR ls s i).toNat (⟨nameOf (ln ls i).path, (((newId ls s i) : Nat) : Int)⟩ : EntM))))) (by kernel_rfl) (by rw [addEnt_len]) ?_
       refine TriL.partEq 0 (p := .abs (FamA (entF (addEnt (newNs ls s i) (parR ls s i).toNat (⟨nameOf (ln ls i).path, (((newId ls s i) : Nat) : Int)⟩ : EntM)) (L2.ent (parR ls s i).toNat A10 c11)) ((newNs ls s i).length))) (p' := .abs (FamA (entF (addEnt (newNs ls s i) (parR ls s i).toNat (⟨nameOf (ln ls i).path, (((newId ls s i) : Nat) : Int)⟩ : EntM)) (L2.ent (parR ls s i).toNat A10 c11)) ((addEnt (newNs ls s i) (parR ls s i).toNat (⟨nameOf (ln ls i).path, (((newId ls s i) : Nat) : Int)⟩ : EntM)).length))) (by kernel_rfl) (by rw [addEnt_len]) ?_
       refine TriL.partEq 5 (p := .abs (FamA (datF (newNs ls s i) L2) ((newNs ls s i).length))) (p' := .abs (FamA (datF (addEnt (newNs ls s i) (parR ls s i).toNat (⟨nameOf (ln ls i).path, (((newId ls s i) : Nat) : Int)⟩ : EntM)) (L2.ent (parR ls s i).toNat A10 c11)) ((addEnt (newNs ls s i) (parR ls s i).toNat (⟨nameOf (ln ls i).path, (((newId ls s i) : Nat) : Int)⟩ : EntM)).length))) (by kernel_rfl) (by rw [datF_ent hp3, addEnt_len]) ?_
       refine TriL.partEq 3 (p := .blk b5 [.slice (some ⟨g8, 0, none⟩) ((newNs ls s i).length) (cn2)] 24) (p' := .blk b5 [.slice (some ⟨g8, 0, none⟩) ((addEnt (newNs ls s i) (parR ls s i).toNat (⟨nameOf (ln ls i).path, (((newId ls s i) : Nat) : Int)⟩ : EntM)).length) (cn2)] 24) (by kernel_rfl) (by rw [addEnt_len]) ?_
       refine TriL.segK (k' := 3) (fr' := [(0, .slice A (ls.length) (c)), (2, .pointer (some ⟨b4, 0, none⟩)), (4, .pointer (some ⟨b5, 0, none⟩)), (5, .slice (some ⟨b6, 0, none⟩) (ls.length) (ls.length)), (6, .int .i64 ↑(i + 1))]) (obl := [(Value.int .i64 (IntKind.wrap .i64 (((i : Nat) : Int) + 1))) = (.int .i64 ↑(i + 1))]) [o_, ⟨[], none, none, none, some (.int .i64 ↑(i + 1))⟩, o_] [0, 2, 4, 5, 6] (fun _ _ => by kernel_rfl) ⟨wrapEq (by omega) (by omega) (by omega), trivial⟩ ?_
       refine TriL.nil (by kernel_rfl) ?_
       exact TriQ.turn ((i + 1), ⟨(addEnt (newNs ls s i) (parR ls s i).toNat (⟨nameOf (ln ls i).path, (((newId ls s i) : Nat) : Int)⟩ : EntM)), (s.ids ++ [newId ls s i])⟩, (L2.ent (parR ls s i).toNat A10 c11), some ⟨g8, 0, none⟩, cn2) (idx := [0, 2, 4, 5, 6]) (pk := [3, 4, 0, 5, 6, 1, 7]) (show (((i + 1)) ≤ ls.length) ∧ (PHoldR ls (⟨(addEnt (newNs ls s i) (parR ls s i).toNat (⟨nameOf (ln ls i).path, (((newId ls s i) : Nat) : Int)⟩ : EntM)), (s.ids ++ [newId ls s i])⟩) ((i + 1))) from ⟨by omega, hP.next (stepR_more hid0 (by omega) (by omega)) ((EntsLe.new hP.ents).ent hp3)⟩) (by show ls.length - ((i + 1)) < ls.length - i; omega) (fun _ => by kernel_rfl) rfl (by kernel_rfl)
     ·
      refine Tri.seq (Tri.region ?_)
      refine TriL.segK (k' := 2) (fr' := [(0, .slice A (ls.length) (c)), (2, .pointer (some ⟨b4, 0, none⟩)), (4, .pointer (some ⟨b5, 0, none⟩)), (5, .slice (some ⟨b6, 0, none⟩) (ls.length) (ls.length)), (6, .int .i64 ↑i), (7, .pointer (some ⟨b7, 0, none⟩)), (9, .int .i64 ((cutAt (ln ls i).path))), (10, .int .i64 0), (113, .bool (decide (((cutAt (ln ls i).path) : Int) ≥ (0 : Int))))]) (obl := []) [o_, o_] [0, 2, 4, 5, 6, 7, 9, 10, 113] (fun _ _ => by kernel_rfl) trivial ?_
      refine TriL.nil (by kernel_rfl) (TriQ.next ?_)
      refine Tri.condP (p := ((cutAt (ln ls i).path) : Int) ≥ (0 : Int)) (fun _ => by kernel_rfl) (fun h113 => ?_) (fun h113 => ?_)
      ·
       refine Tri.seq (Tri.region ?_)
       refine TriL.segK (k' := 1) (fr' := [(0, .slice A (ls.length) (c)), (2, .pointer (some ⟨b4, 0, none⟩)), (4, .pointer (some ⟨b5, 0, none⟩)), (5, .slice (some ⟨b6, 0, none⟩) (ls.length) (ls.length)), (6, .int .i64 ↑i), (7, .pointer (some ⟨b7, 0, none⟩)), (9, .int .i64 ((cutAt (ln ls i).path))), (10, .int .i64 (-1))]) (obl := []) [o_] [0, 2, 4, 5, 6, 7, 9, 10] (fun _ _ => by kernel_rfl) trivial ?_
       refine TriL.nil (by kernel_rfl) (TriQ.next (Tri.seq (Tri.region ?_)))
       refine TriL.slot 10 (.int .i64 (-1)) (.int .i64 ((lastOf ls s.ids (aboveOf (ln ls i).path) 1))) (fun _ => by kernel_rfl) (by rw [lastOf_one]) ?_
       refine TriL.segK (k' := 1) (fr' := [(0, .slice A (ls.length) (c)), (2, .pointer (some ⟨b4, 0, none⟩)), (4, .pointer (some ⟨b5, 0, none⟩)), (5, .slice (some ⟨b6, 0, none⟩) (ls.length) (ls.length)), (6, .int .i64 ↑i), (7, .pointer (some ⟨b7, 0, none⟩)), (9, .int .i64 ((cutAt (ln ls i).path))), (10, .int .i64 ((lastOf ls s.ids (aboveOf (ln ls i).path) 1))), (11, .int .i64 1)]) (obl := []) [o_] [0, 2, 4, 5, 6, 7, 9, 10, 11] (fun _ _ => by kernel_rfl) trivial ?_
       refine TriL.nil (by kernel_rfl) (TriQ.next (Tri.block ?_))
       refine Tri.loop (ι := Nat) (fun (j : Nat) => (1 ≤ j) ∧ (j ≤ i)) (fun (j : Nat) => i - j) (fun (j : Nat) => [(0, .slice A (ls.length) (c)), (2, .pointer (some ⟨b4, 0, none⟩)), (4, .pointer (some ⟨b5, 0, none⟩)), (5, .slice (some ⟨b6, 0, none⟩) (ls.length) (ls.length)), (6, .int .i64 ↑i), (7, .pointer (some ⟨b7, 0, none⟩)), (9, .int .i64 ((cutAt (ln ls i).path))), (10, .int .i64 ((lastOf ls s.ids (aboveOf (ln ls i).path) j))), (11, .int .i64 ↑j)]) (fun (j : Nat) => [.blk b4 [.slice none (0) (0)] 24, .blk b7 (lineV (M.dA i) (M.dC i) (ln ls i)) 51, .blk b5 [.slice An2 ((newNs ls s i).length) (cn2)] 24, .abs (RowA 32 10 An2 ((newNs ls s i).length) cn2 (nodesV L2 (newNs ls s i))), .abs (FamA (entF (newNs ls s i) L2) ((newNs ls s i).length)), .abs (FamA (datF (newNs ls s i) L2) ((newNs ls s i).length)), .abs (RowA 3 1 (some ⟨b6, 0, none⟩) ls.length ls.length (idsL s.ids (newId ls s i) ls.length)), .abs R]) 1 (idx := [0, 2, 4, 5, 6, 7, 9, 10, 11]) (pk := [0, 1, 2, 3, 4, 5, 6, 7]) (show (1 ≤ 1) ∧ (1 ≤ i) from ⟨Nat.le_refl _, by omega⟩) (fun _ => by kernel_rfl) rfl (by kernel_rfl) ?_
       rintro j ⟨hj1, hj⟩
       show Tri _ _ _ _ [(0, .slice A (ls.length) (c)), (2, .pointer (some ⟨b4, 0, none⟩)), (4, .pointer (some ⟨b5, 0, none⟩)), (5, .slice (some ⟨b6, 0, none⟩) (ls.length) (ls.length)), (6, .int .i64 ↑i), (7, .pointer (some ⟨b7, 0, none⟩)), (9, .int .i64 ((cutAt (ln ls i).path))), (10, .int .i64 ((lastOf ls s.ids (aboveOf (ln ls i).path) j))), (11, .int .i64 ↑j)] [.blk b4 [.slice none (0) (0)] 24, .blk b7 (lineV (M.dA i) (M.dC i) (ln ls i)) 51, .blk b5 [.slice An2 ((newNs ls s i).length) (cn2)] 24, .abs (RowA 32 10 An2 ((newNs ls s i).length) cn2 (nodesV L2 (newNs ls s i))), .abs (FamA (entF (newNs ls s i) L2) ((newNs ls s i).length)), .abs (FamA (datF (newNs ls s i) L2) ((newNs ls s i).length)), .abs (RowA 3 1 (some ⟨b6, 0, none⟩) ls.length ls.length (idsL s.ids (newId ls s i) ls.length)), .abs R] _
       refine Tri.seq (Tri.seq (Tri.region ?_))
       refine TriL.segK (k' := 3) (fr' := [(0, .slice A (ls.length) (c)), (2, .pointer (some ⟨b4, 0, none⟩)), (4, .pointer (some ⟨b5, 0, none⟩)), (5, .slice (some ⟨b6, 0, none⟩) (ls.length) (ls.length)), (6, .int .i64 ↑i), (7, .pointer (some ⟨b7, 0, none⟩)), (9, .int .i64 ((cutAt (ln ls i).path))), (10, .int .i64 ((lastOf ls s.ids (aboveOf (ln ls i).path) j))), (11, .int .i64 ↑j), (116, .bool (decide ((((j : Nat) : Int) : Int) < (((i : Nat) : Int) : Int))))]) (obl := []) [o_, o_, o_] [0, 2, 4, 5, 6, 7, 9, 10, 11, 116] (fun _ _ => by kernel_rfl) trivial ?_
       refine TriL.nil (by kernel_rfl) (TriQ.next ?_)
       refine Tri.condP (p := (((j : Nat) : Int) : Int) < (((i : Nat) : Int) : Int)) (fun _ => by kernel_rfl) (fun h116 => ?_) (fun h116 => ?_)
       ·
        refine Tri.skip (TriQ.next (Tri.seq (Tri.block (Tri.seq ?_))))
        refine Tri.regionQ (by kernel_rfl) (by kernel_rfl) ?_
        refine TriLQ.seg (k' := 10) (fr' := [(0, .slice A (ls.length) (c)), (2, .pointer (some ⟨b4, 0, none⟩)), (4, .pointer (some ⟨b5, 0, none⟩)), (5, .slice (some ⟨b6, 0, none⟩) (ls.length) (ls.length)), (6, .int .i64 ↑i), (7, .pointer (some ⟨b7, 0, none⟩)), (9, .int .i64 ((cutAt (ln ls i).path))), (10, .int .i64 ((lastOf ls s.ids (aboveOf (ln ls i).path) j))), (11, .int .i64 ↑j), (128, .bool (decide (((ln ls j).path : ByteArray) = (((ln ls i).path : ByteArray).extract 0 ((cutAt (ln ls i).path).toNat)))))]) (obl := [(Value.bool (((ln ls j).path : ByteArray).toList == ((((ln ls i).path : ByteArray).extract 0 ((cutAt (ln ls i).path).toNat)) : ByteArray).toList)) = (.bool (decide (((ln ls j).path : ByteArray) = (((ln ls i).path : ByteArray).extract 0 ((cutAt (ln ls i).path).toNat))))), (cutAt (ln ls i).path) = (((cutAt (ln ls i).path).toNat : Nat) : Int), (cutAt (ln ls i).path).toNat ≤ ((ln ls i).path : ByteArray).size, b7 = b7, (Rd β ⟨(blkOf A), offOf A + j * 10, none⟩ (.string (ln ls j).path)), ((j : Nat) : Int) = ((j : Nat) : Int), j < ls.length, (⟨(blkOf A), offOf A, none⟩ : Addr).spot = none, (A : Option Addr) = some ⟨(blkOf A), offOf A, none⟩]) [o_, o_, ⟨[], some j, none, some ⟨(blkOf A), offOf A, none⟩, none⟩, o_, ⟨[.old (.string (ln ls j).path)], none, none, none, none⟩, o_, ⟨[.at 1], none, none, none, none⟩, o_, ⟨[], some ((cutAt (ln ls i).path).toNat), none, none, none⟩, ⟨[], none, none, none, some (.bool (decide (((ln ls j).path : ByteArray) = (((ln ls i).path : ByteArray).extract 0 ((cutAt (ln ls i).path).toNat)))))⟩] [0, 2, 4, 5, 6, 7, 9, 10, 11, 128] (fun _ _ => by kernel_rfl) ⟨strEqV _ _, by omega, by have := (cutAt_le (ln ls i).path).1; omega, rfl, LinesAt.rd hG (i := j) (by omega) (j := 0) rfl, rfl, by omega, rfl, LinesAt.hd hG (i := j) (by omega), trivial⟩ ?_
        refine TriLQ.nil (by kernel_rfl) (TriQ.next ?_)
        refine Tri.condP (p := ((ln ls j).path : ByteArray) = (((ln ls i).path : ByteArray).extract 0 ((cutAt (ln ls i).path).toNat))) (fun _ => by kernel_rfl) (fun h128 => ?_) (fun h128 => ?_)
        ·
         have hib := hP.inv.idb j (by omega)
         refine Tri.region ?_
         refine TriL.segK (k' := 6) (fr' := [(0, .slice A (ls.length) (c)), (2, .pointer (some ⟨b4, 0, none⟩)), (4, .pointer (some ⟨b5, 0, none⟩)), (5, .slice (some ⟨b6, 0, none⟩) (ls.length) (ls.length)), (6, .int .i64 ↑i), (7, .pointer (some ⟨b7, 0, none⟩)), (9, .int .i64 ((cutAt (ln ls i).path))), (10, .int .i64 ((lastOf ls s.ids (aboveOf (ln ls i).path) (j + 1)))), (11, .int .i64 ↑j)]) (obl := [(Value.int .i64 (IntKind.wrap .i64 ((((s.ids.getD j 0) : Nat) : Int) - 1))) = (.int .i64 ((lastOf ls s.ids (aboveOf (ln ls i).path) (j + 1)))), (∀ F w, (RowA 3 1 (some ⟨b6, 0, none⟩) ls.length ls.length (idsL s.ids (newId ls s i) ls.length)).h F w → w.cell? ⟨b6, j, none⟩ = some (.int .i64 ↑(s.ids.getD j 0))), (Value.pointer (some ⟨b6, 0 + j * 1, none⟩)) = (.pointer (some ⟨b6, j, none⟩)), ((j : Nat) : Int) = ((j : Nat) : Int), j < ls.length, (⟨b6, 0, none⟩ : Addr).spot = none]) [o_, o_, ⟨[], some j, none, none, some (.pointer (some ⟨b6, j, none⟩))⟩, ⟨[.view 6 (.int .i64 ↑(s.ids.getD j 0))], none, none, none, none⟩, ⟨[], none, none, none, some (.int .i64 ((lastOf ls s.ids (aboveOf (ln ls i).path) (j + 1))))⟩, o_] [0, 2, 4, 5, 6, 7, 9, 10, 11] (fun _ _ => by kernel_rfl) ⟨by rw [lastOf_hit (p := (aboveOf (ln ls i).path)) hj1 h128]; exact wrapEq rfl (by omega) (by omega), RowA.cell (idsL_old (by omega) (by omega)), by simp, rfl, by omega, rfl, trivial⟩ ?_
         refine TriL.nil (by kernel_rfl) (TriQ.blockNormal (TriQ.next (Tri.region ?_)))
         refine TriL.segK (k' := 3) (fr' := [(0, .slice A (ls.length) (c)), (2, .pointer (some ⟨b4, 0, none⟩)), (4, .pointer (some ⟨b5, 0, none⟩)), (5, .slice (some ⟨b6, 0, none⟩) (ls.length) (ls.length)), (6, .int .i64 ↑i), (7, .pointer (some ⟨b7, 0, none⟩)), (9, .int .i64 ((cutAt (ln ls i).path))), (10, .int .i64 ((lastOf ls s.ids (aboveOf (ln ls i).path) (j + 1)))), (11, .int .i64 ↑(j + 1))]) (obl := [(Value.int .i64 (IntKind.wrap .i64 (((j : Nat) : Int) + 1))) = (.int .i64 ↑(j + 1))]) [o_, ⟨[], none, none, none, some (.int .i64 ↑(j + 1))⟩, o_] [0, 2, 4, 5, 6, 7, 9, 10, 11] (fun _ _ => by kernel_rfl) ⟨wrapEq (by omega) (by omega) (by omega), trivial⟩ ?_
         refine TriL.nil (by kernel_rfl) ?_
         exact TriQ.turn ((j + 1)) (idx := [0, 2, 4, 5, 6, 7, 9, 10, 11]) (pk := [0, 1, 2, 3, 4, 5, 6, 7]) (show (1 ≤ ((j + 1))) ∧ (((j + 1)) ≤ i) from ⟨by omega, by omega⟩) (by show i - ((j + 1)) < i - j; omega) (fun _ => by kernel_rfl) rfl (by kernel_rfl)
        ·
         refine Tri.skip (TriQ.blockNormal (TriQ.next (Tri.region ?_)))
         refine TriL.segK (k' := 3) (fr' := [(0, .slice A (ls.length) (c)), (2, .pointer (some ⟨b4, 0, none⟩)), (4, .pointer (some ⟨b5, 0, none⟩)), (5, .slice (some ⟨b6, 0, none⟩) (ls.length) (ls.length)), (6, .int .i64 ↑i), (7, .pointer (some ⟨b7, 0, none⟩)), (9, .int .i64 ((cutAt (ln ls i).path))), (10, .int .i64 ((lastOf ls s.ids (aboveOf (ln ls i).path) j))), (11, .int .i64 ↑(j + 1))]) (obl := [(Value.int .i64 (IntKind.wrap .i64 (((j : Nat) : Int) + 1))) = (.int .i64 ↑(j + 1))]) [o_, ⟨[], none, none, none, some (.int .i64 ↑(j + 1))⟩, o_] [0, 2, 4, 5, 6, 7, 9, 10, 11] (fun _ _ => by kernel_rfl) ⟨wrapEq (by omega) (by omega) (by omega), trivial⟩ ?_
         refine TriL.nil (by kernel_rfl) ?_
         refine TriQ.slot 10 (.int .i64 ((lastOf ls s.ids (aboveOf (ln ls i).path) j))) (.int .i64 ((lastOf ls s.ids (aboveOf (ln ls i).path) (j + 1)))) (fun _ => by kernel_rfl) (by rw [lastOf_miss (p := aboveOf (ln ls i).path) h128]) ?_
         exact TriQ.turn ((j + 1)) (idx := [0, 2, 4, 5, 6, 7, 9, 10, 11]) (pk := [0, 1, 2, 3, 4, 5, 6, 7]) (show (1 ≤ ((j + 1))) ∧ (((j + 1)) ≤ i) from ⟨by omega, by omega⟩) (by show i - ((j + 1)) < i - j; omega) (fun _ => by kernel_rfl) rfl (by kernel_rfl)
       ·
        refine Tri.exit (TriQ.passExit (TriQ.passExit (TriQ.blockHit ?_)))
        refine TriQ.slot 10 (.int .i64 ((lastOf ls s.ids (aboveOf (ln ls i).path) j))) (.int .i64 ((parR ls s i))) (fun _ => by kernel_rfl) (by unfold parR; rw [if_pos h113, show j = i by omega]) ?_
        exact TriQ.meet () (idx := [0, 2, 4, 5, 6, 7, 9, 10]) (pk := [0, 1, 2, 3, 4, 5, 6, 7]) (show True from trivial) (fun _ => by kernel_rfl) rfl (by kernel_rfl)
      ·
       refine Tri.skip ?_
       refine TriQ.slot 10 (.int .i64 0) (.int .i64 ((parR ls s i))) (fun _ => by kernel_rfl) (by unfold parR; rw [if_neg h113]) ?_
       exact TriQ.meet () (idx := [0, 2, 4, 5, 6, 7, 9, 10]) (pk := [0, 1, 2, 3, 4, 5, 6, 7]) (show True from trivial) (fun _ => by kernel_rfl) rfl (by kernel_rfl)
    ·
     refine Tri.block ?_
     refine Tri.loop (ι := Nat) (fun (q : Nat) => (q ≤ (ln ls i).path.size) ∧ (∀ t, q ≤ t → t < (ln ls i).path.size → ¬ byteAt (ln ls i).path t = 47)) (fun (q : Nat) => q) (fun (q : Nat) => [(0, .slice A (ls.length) (c)), (2, .pointer (some ⟨b4, 0, none⟩)), (4, .pointer (some ⟨b5, 0, none⟩)), (5, .slice (some ⟨b6, 0, none⟩) (ls.length) (ls.length)), (6, .int .i64 ↑i), (7, .pointer (some ⟨b7, 0, none⟩)), (9, .int .i64 ((((q : Nat) : Int) - 1)))]) (fun (q : Nat) => [.blk b4 [.slice none (0) (0)] 24, .blk b7 (lineV (M.dA i) (M.dC i) (ln ls i)) 51, .blk b5 [.slice An2 ((newNs ls s i).length) (cn2)] 24, .abs (RowA 32 10 An2 ((newNs ls s i).length) cn2 (nodesV L2 (newNs ls s i))), .abs (FamA (entF (newNs ls s i) L2) ((newNs ls s i).length)), .abs (FamA (datF (newNs ls s i) L2) ((newNs ls s i).length)), .abs (RowA 3 1 (some ⟨b6, 0, none⟩) ls.length ls.length (idsL s.ids (newId ls s i) ls.length)), .abs R]) ((ln ls i).path.size) (idx := [0, 2, 4, 5, 6, 7, 9]) (pk := [0, 1, 2, 3, 4, 5, 6, 7]) (show (((ln ls i).path.size) ≤ (ln ls i).path.size) ∧ (∀ t, ((ln ls i).path.size) ≤ t → t < (ln ls i).path.size → ¬ byteAt (ln ls i).path t = 47) from ⟨Nat.le_refl _, fun t h1 h2 => absurd h1 (by omega)⟩) (fun _ => by kernel_rfl) rfl (by kernel_rfl) ?_
     rintro q ⟨hq, hno⟩
     show Tri _ _ _ _ [(0, .slice A (ls.length) (c)), (2, .pointer (some ⟨b4, 0, none⟩)), (4, .pointer (some ⟨b5, 0, none⟩)), (5, .slice (some ⟨b6, 0, none⟩) (ls.length) (ls.length)), (6, .int .i64 ↑i), (7, .pointer (some ⟨b7, 0, none⟩)), (9, .int .i64 ((((q : Nat) : Int) - 1)))] [.blk b4 [.slice none (0) (0)] 24, .blk b7 (lineV (M.dA i) (M.dC i) (ln ls i)) 51, .blk b5 [.slice An2 ((newNs ls s i).length) (cn2)] 24, .abs (RowA 32 10 An2 ((newNs ls s i).length) cn2 (nodesV L2 (newNs ls s i))), .abs (FamA (entF (newNs ls s i) L2) ((newNs ls s i).length)), .abs (FamA (datF (newNs ls s i) L2) ((newNs ls s i).length)), .abs (RowA 3 1 (some ⟨b6, 0, none⟩) ls.length ls.length (idsL s.ids (newId ls s i) ls.length)), .abs R] _
     refine Tri.seq (Tri.seq (Tri.region ?_))
     refine TriL.segK (k' := 3) (fr' := [(0, .slice A (ls.length) (c)), (2, .pointer (some ⟨b4, 0, none⟩)), (4, .pointer (some ⟨b5, 0, none⟩)), (5, .slice (some ⟨b6, 0, none⟩) (ls.length) (ls.length)), (6, .int .i64 ↑i), (7, .pointer (some ⟨b7, 0, none⟩)), (9, .int .i64 ((((q : Nat) : Int) - 1))), (103, .bool (decide (((((q : Nat) : Int) - 1) : Int) ≥ (0 : Int))))]) (obl := []) [o_, o_, o_] [0, 2, 4, 5, 6, 7, 9, 103] (fun _ _ => by kernel_rfl) trivial ?_
     refine TriL.slotP 103 (((((q : Nat) : Int) - 1) : Int) ≥ (0 : Int)) (fun _ => by kernel_rfl) (fun h103 => ?_) (fun h103 => ?_)
     ·
      refine TriL.segK (k' := 9) (fr' := [(0, .slice A (ls.length) (c)), (2, .pointer (some ⟨b4, 0, none⟩)), (4, .pointer (some ⟨b5, 0, none⟩)), (5, .slice (some ⟨b6, 0, none⟩) (ls.length) (ls.length)), (6, .int .i64 ↑i), (7, .pointer (some ⟨b7, 0, none⟩)), (9, .int .i64 ((((q : Nat) : Int) - 1))), (109, .bool (!(decide (((((((ln ls i).path : ByteArray).data.getD ((q - 1)) 0).toNat : Nat) : Int) : Int) = (47 : Int)))))]) (obl := [(((q : Nat) : Int) - 1) = (((q - 1) : Nat) : Int), (q - 1) < ((ln ls i).path : ByteArray).size, b7 = b7]) [o_, ⟨[.at 1], none, none, none, none⟩, o_, ⟨[], some (q - 1), none, none, none⟩, o_, o_] [0, 2, 4, 5, 6, 7, 9, 109] (fun _ _ => by kernel_rfl) ⟨by omega, by omega, rfl, trivial⟩ ?_
      refine TriL.nil (by kernel_rfl) (TriQ.next ?_)
      refine Tri.condN (p := ((((((ln ls i).path : ByteArray).data.getD ((q - 1)) 0).toNat : Nat) : Int) : Int) = (47 : Int)) (fun _ => by kernel_rfl) (fun h109 => ?_) (fun h109 => ?_)
      ·
       refine Tri.skip (TriQ.next (Tri.block (Tri.region ?_)))
       refine TriL.segK (k' := 3) (fr' := [(0, .slice A (ls.length) (c)), (2, .pointer (some ⟨b4, 0, none⟩)), (4, .pointer (some ⟨b5, 0, none⟩)), (5, .slice (some ⟨b6, 0, none⟩) (ls.length) (ls.length)), (6, .int .i64 ↑i), (7, .pointer (some ⟨b7, 0, none⟩)), (9, .int .i64 ((((q - 1 : Nat) : Int) - 1)))]) (obl := [(Value.int .i64 (IntKind.wrap .i64 ((((q : Nat) : Int) - 1) - 1))) = (.int .i64 ((((q - 1 : Nat) : Int) - 1)))]) [o_, ⟨[], none, none, none, some (.int .i64 ((((q - 1 : Nat) : Int) - 1)))⟩, o_] [0, 2, 4, 5, 6, 7, 9] (fun _ _ => by kernel_rfl) ⟨wrapEq (by omega) (by omega) (by omega), trivial⟩ ?_
       refine TriL.nil (by kernel_rfl) (TriQ.blockNormal ?_)
       exact TriQ.turn ((q - 1)) (idx := [0, 2, 4, 5, 6, 7, 9]) (pk := [0, 1, 2, 3, 4, 5, 6, 7]) (show (((q - 1)) ≤ (ln ls i).path.size) ∧ (∀ t, ((q - 1)) ≤ t → t < (ln ls i).path.size → ¬ byteAt (ln ls i).path t = 47) from ⟨by omega, fun t h1 h2 => (Nat.lt_or_ge t q).elim (fun h3 => by rw [show t = q - 1 by omega]; unfold byteAt; omega) (fun h3 => hno t h3 h2)⟩) (by show ((q - 1)) < q; omega) (fun _ => by kernel_rfl) rfl (by kernel_rfl)
      ·
       refine Tri.exit (TriQ.passExit (TriQ.passExit (TriQ.blockHit ?_)))
       have hcut : cutAt (ln ls i).path = ((q : Nat) : Int) - 1 := cutAt_at hno hq (.inr (by unfold byteAt; omega))
       refine TriQ.slot 9 (.int .i64 ((((q : Nat) : Int) - 1))) (.int .i64 ((cutAt (ln ls i).path))) (fun _ => by kernel_rfl) (by rw [hcut]) ?_
       exact TriQ.meet () (idx := [0, 2, 4, 5, 6, 7, 9]) (pk := [0, 1, 2, 3, 4, 5, 6, 7]) (show True from trivial) (fun _ => by kernel_rfl) rfl (by kernel_rfl)
     ·
      refine TriL.segK (k' := 9) (fr' := [(0, .slice A (ls.length) (c)), (2, .pointer (some ⟨b4, 0, none⟩)), (4, .pointer (some ⟨b5, 0, none⟩)), (5, .slice (some ⟨b6, 0, none⟩) (ls.length) (ls.length)), (6, .int .i64 ↑i), (7, .pointer (some ⟨b7, 0, none⟩)), (9, .int .i64 ((((q : Nat) : Int) - 1))), (109, .bool false)]) (obl := []) [o_, o_, o_, o_, o_, o_] [0, 2, 4, 5, 6, 7, 9, 109] (fun _ _ => by kernel_rfl) trivial ?_
      refine TriL.nil (by kernel_rfl) (TriQ.next ?_)
      refine Tri.condF (fun _ => by kernel_rfl) ?_
      refine Tri.exit (TriQ.passExit (TriQ.passExit (TriQ.blockHit ?_)))
      have hcut : cutAt (ln ls i).path = ((q : Nat) : Int) - 1 := cutAt_at hno hq (.inl (by omega))
      refine TriQ.slot 9 (.int .i64 ((((q : Nat) : Int) - 1))) (.int .i64 ((cutAt (ln ls i).path))) (fun _ => by kernel_rfl) (by rw [hcut]) ?_
      exact TriQ.meet () (idx := [0, 2, 4, 5, 6, 7, 9]) (pk := [0, 1, 2, 3, 4, 5, 6, 7]) (show True from trivial) (fun _ => by kernel_rfl) rfl (by kernel_rfl)
  ·
   refine Tri.seq (Tri.region ?_)
   refine TriL.segK (k' := 3) (fr' := [(0, .slice A (ls.length) (c)), (2, .pointer (some ⟨b4, 0, none⟩)), (4, .pointer (some ⟨b5, 0, none⟩)), (5, .slice (some ⟨b6, 0, none⟩) (ls.length) (ls.length)), (6, .int .i64 ↑i), (7, .pointer (some ⟨b7, 0, none⟩)), (30, .bool (decide (((ln ls i).peer : ByteArray) = ⟨#[]⟩)))]) (obl := [(Value.bool (((ln ls i).peer : ByteArray).toList == (⟨#[]⟩ : ByteArray).toList)) = (.bool (decide (((ln ls i).peer : ByteArray) = ⟨#[]⟩))), b7 = b7]) [o_, ⟨[.at 7], none, none, none, none⟩, ⟨[], none, none, none, some (.bool (decide (((ln ls i).peer : ByteArray) = ⟨#[]⟩)))⟩] [0, 2, 4, 5, 6, 7, 30] (fun _ _ => by kernel_rfl) ⟨strEqV _ _, rfl, trivial⟩ ?_
   refine TriL.nil (by kernel_rfl) (TriQ.next ?_)
   refine Tri.condP (p := ((ln ls i).peer : ByteArray) = ⟨#[]⟩) (fun _ => by kernel_rfl) (fun h30 => ?_) (fun h30 => ?_)
   ·
    refine Tri.seq ?_
    refine Tri.regionMix (S := [.blk b5 [.slice An (s.ns.length) (cn)] 24, .blk b7 (lineV (M.dA i) (M.dC i) (ln ls i)) 51]) [0, 1, 2, 3, 4, 5, 6, 7, 8, 9, 10, 11, 12, 13, 14, 15, 16, 17, 19, 20, 18, 21, 22, 23, 24, 25] 20 [0, 7] (by kernel_rfl) (by kernel_rfl) rfl (by kernel_rfl) ?_
    refine TriM.reads (r := 0) (l := [18, 21, 22, 23, 24, 25]) (fr' := [(0, .slice A (ls.length) (c)), (2, .pointer (some ⟨b4, 0, none⟩)), (4, .pointer (some ⟨b5, 0, none⟩)), (5, .slice (some ⟨b6, 0, none⟩) (ls.length) (ls.length)), (6, .int .i64 ↑i), (7, .pointer (some ⟨b7, 0, none⟩)), (32, .slice An (s.ns.length) (cn)), (36, .int .i64 ↑(s.ns.length + 1)), (38, .int .i64 ((ln ls i).kind)), (40, .int .i64 ((ln ls i).mode)), (42, .int .i64 ((ln ls i).uid)), (44, .int .i64 ((ln ls i).gid)), (46, .agg #[.int .i64 ((ln ls i).sec), .int .i64 ((ln ls i).nano)]), (48, .slice (M.dA i) ((ln ls i).data.length) ((M.dC i))), (51, .string (ln ls i).target)]) (obl := [b7 = b7, b7 = b7, b7 = b7, b7 = b7, b7 = b7, b7 = b7, b7 = b7, b7 = b7, (Value.int .i64 (IntKind.wrap .i64 (((s.ns.length : Nat) : Int) + 1))) = (.int .i64 ↑(s.ns.length + 1)), b5 = b5, b5 = b5]) [0, 1, 2, 3, 4, 5, 6, 7, 8, 9, 10, 11, 12, 13, 14, 15, 16, 17, 19, 20] [o_, ⟨[.at 0], none, none, none, none⟩, o_, ⟨[.at 0], none, none, none, none⟩, o_, ⟨[], none, none, none, some (.int .i64 ↑(s.ns.length + 1))⟩, o_, ⟨[.at 1], none, none, none, none⟩, o_, ⟨[.at 1], none, none, none, none⟩, o_, ⟨[.at 1], none, none, none, none⟩, o_, ⟨[.at 1], none, none, none, none⟩, o_, ⟨[.at 1, .at 1], none, none, none, none⟩, o_, ⟨[.at 1], none, none, none, none⟩, o_, ⟨[.at 1], none, none, none, none⟩] [0, 2, 4, 5, 6, 7, 32, 36, 38, 40, 42, 44, 46, 48, 51] (fun _ => by kernel_rfl) ⟨rfl, rfl, rfl, rfl, rfl, rfl, rfl, rfl, wrapEq (by omega) (by omega) (by omega), rfl, rfl, trivial⟩ rfl rfl ?_
    refine TriM.cut (ι := (Option Addr) × Nat) (fr' := fun ((A12, c13) : (Option Addr) × Nat) => [(0, .slice A (ls.length) (c)), (2, .pointer (some ⟨b4, 0, none⟩)), (4, .pointer (some ⟨b5, 0, none⟩)), (5, .slice (some ⟨b6, 0, none⟩) (ls.length) (ls.length)), (6, .int .i64 ↑i), (7, .pointer (some ⟨b7, 0, none⟩)), (32, .slice An (s.ns.length) (cn)), (36, .int .i64 ↑(s.ns.length + 1)), (38, .int .i64 ((ln ls i).kind)), (40, .int .i64 ((ln ls i).mode)), (42, .int .i64 ((ln ls i).uid)), (44, .int .i64 ((ln ls i).gid)), (46, .agg #[.int .i64 ((ln ls i).sec), .int .i64 ((ln ls i).nano)]), (49, .slice A12 ((ln ls i).data.length) (c13)), (51, .string (ln ls i).target)]) (hp' := fun ((A12, c13) : (Option Addr) × Nat) => [.abs (RowA 5 1 A12 ((ln ls i).data.length) c13 (bytesV (ln ls i).data)), .blk b5 [.slice An (s.ns.length) (cn)] 24, .abs (RowA 32 10 An s.ns.length cn (nodesV L s.ns)), .abs (FamA (entF s.ns L) s.ns.length), .abs (FamA (datF s.ns L) s.ns.length), .abs (RowA 3 1 (some ⟨b6, 0, none⟩) ls.length ls.length (idsL s.ids 0 ls.length)), .blk b4 [.slice none (0) (0)] 24, .abs R, .blk b7 (lineV (M.dA i) (M.dC i) (ln ls i)) 51]) [1, 8] rfl rfl ?_ rfl (fun _ => by kernel_rfl) ?_
    ·
     refine TriL.call (f := 48) (args := #[.slice (M.dA i) ((ln ls i).data.length) ((M.dC i))]) (d := (some 49)) (pre := []) (R := [.blk b5 [.slice An (s.ns.length) (cn)] 24, .abs (RowA 32 10 An s.ns.length cn (nodesV L s.ns)), .abs (FamA (entF s.ns L) s.ns.length), .abs (FamA (datF s.ns L) s.ns.length), .abs (RowA 3 1 (some ⟨b6, 0, none⟩) ls.length ls.length (idsL s.ids 0 ls.length)), .blk b4 [.slice none (0) (0)] 24, .abs R, .blk b7 (lineV (M.dA i) (M.dC i) (ln ls i)) 51]) (pk := [0, 1, 2, 3, 4, 5, 6, 7]) (fun _ => by kernel_rfl) (sp_copyBytesOwn (M.dA i) (M.dC i) (ln ls i).data (hG.data i (by omega)) (hC.data i (by omega))) rfl (by kernel_rfl) ?_
     rintro _ _ ⟨A12, c13, rfl, rfl⟩
     refine TriL.nil (by kernel_rfl) ?_
     exact TriQ.mid (A12, c13) (idx := [0, 2, 4, 5, 6, 7, 32, 36, 38, 40, 42, 44, 46, 49, 51]) (pk := [0, 1, 2, 3, 4, 5, 6, 7, 8]) (fun _ => by kernel_rfl) rfl (by kernel_rfl)
    rintro ⟨A12, c13⟩
    refine TriM.cut (ι := Unit) (fr' := fun (_ : Unit) => [(0, .slice A (ls.length) (c)), (2, .pointer (some ⟨b4, 0, none⟩)), (4, .pointer (some ⟨b5, 0, none⟩)), (5, .slice (some ⟨b6, 0, none⟩) (ls.length) (ls.length)), (6, .int .i64 ↑i), (7, .pointer (some ⟨b7, 0, none⟩)), (32, .slice An (s.ns.length) (cn)), (52, .agg #[.int .i64 ↑(s.ns.length + 1), .int .i64 ((ln ls i).kind), .int .i64 ((ln ls i).mode), .int .i64 ((ln ls i).uid), .int .i64 ((ln ls i).gid), .int .i64 ((ln ls i).sec), .int .i64 ((ln ls i).nano), .slice A12 ((ln ls i).data.length) (c13), .string (ln ls i).target, .slice none (0) (0)])]) (hp' := fun (_ : Unit) => [.abs (RowA 5 1 A12 ((ln ls i).data.length) c13 (bytesV (ln ls i).data)), .blk b5 [.slice An (s.ns.length) (cn)] 24, .abs (RowA 32 10 An s.ns.length cn (nodesV L s.ns)), .abs (FamA (entF s.ns L) s.ns.length), .abs (FamA (datF s.ns L) s.ns.length), .abs (RowA 3 1 (some ⟨b6, 0, none⟩) ls.length ls.length (idsL s.ids 0 ls.length)), .blk b4 [.slice none (0) (0)] 24, .abs R, .blk b7 (lineV (M.dA i) (M.dC i) (ln ls i)) 51]) [1, 8] rfl rfl ?_ rfl (fun _ => by kernel_rfl) ?_
    ·
     refine TriL.segK (k' := 1) (fr' := [(0, .slice A (ls.length) (c)), (2, .pointer (some ⟨b4, 0, none⟩)), (4, .pointer (some ⟨b5, 0, none⟩)), (5, .slice (some ⟨b6, 0, none⟩) (ls.length) (ls.length)), (6, .int .i64 ↑i), (7, .pointer (some ⟨b7, 0, none⟩)), (32, .slice An (s.ns.length) (cn)), (52, .agg #[.int .i64 ↑(s.ns.length + 1), .int .i64 ((ln ls i).kind), .int .i64 ((ln ls i).mode), .int .i64 ((ln ls i).uid), .int .i64 ((ln ls i).gid), .int .i64 ((ln ls i).sec), .int .i64 ((ln ls i).nano), .slice A12 ((ln ls i).data.length) (c13), .string (ln ls i).target, .slice none (0) (0)])]) (obl := []) [o_] [0, 2, 4, 5, 6, 7, 32, 52] (fun _ _ => by kernel_rfl) trivial ?_
     refine TriL.nil (by kernel_rfl) ?_
     exact TriQ.mid () (idx := [0, 2, 4, 5, 6, 7, 32, 52]) (pk := [0, 1, 2, 3, 4, 5, 6, 7, 8]) (fun _ => by kernel_rfl) rfl (by kernel_rfl)
    rintro _
    refine TriM.cut (ι := Nat) (fr' := fun (b14 : Nat) => [(0, .slice A (ls.length) (c)), (2, .pointer (some ⟨b4, 0, none⟩)), (4, .pointer (some ⟨b5, 0, none⟩)), (5, .slice (some ⟨b6, 0, none⟩) (ls.length) (ls.length)), (6, .int .i64 ↑i), (7, .pointer (some ⟨b7, 0, none⟩)), (32, .slice An (s.ns.length) (cn)), (53, .slice (some ⟨b14, 0, none⟩) (1) (1))]) (hp' := fun (b14 : Nat) => [.abs (RowA 5 1 A12 ((ln ls i).data.length) c13 (bytesV (ln ls i).data)), .blk b5 [.slice An (s.ns.length) (cn)] 24, .abs (RowA 32 10 An s.ns.length cn (nodesV L s.ns)), .abs (FamA (entF s.ns L) s.ns.length), .abs (FamA (datF s.ns L) s.ns.length), .abs (RowA 3 1 (some ⟨b6, 0, none⟩) ls.length ls.length (idsL s.ids 0 ls.length)), .blk b4 [.slice none (0) (0)] 24, .abs R, .blk b7 (lineV (M.dA i) (M.dC i) (ln ls i)) 51, .blk b14 [.int .i64 ↑(s.ns.length + 1), .int .i64 ((ln ls i).kind), .int .i64 ((ln ls i).mode), .int .i64 ((ln ls i).uid), .int .i64 ((ln ls i).gid), .int .i64 ((ln ls i).sec), .int .i64 ((ln ls i).nano), .slice A12 ((ln ls i).data.length) (c13), .string (ln ls i).target, .slice none (0) (0)] 32]) [1, 8] rfl rfl ?_ rfl (fun _ => by kernel_rfl) ?_
    ·
     refine TriL.segN (k' := 1) (fr' := fun b14 => [(0, .slice A (ls.length) (c)), (2, .pointer (some ⟨b4, 0, none⟩)), (4, .pointer (some ⟨b5, 0, none⟩)), (5, .slice (some ⟨b6, 0, none⟩) (ls.length) (ls.length)), (6, .int .i64 ↑i), (7, .pointer (some ⟨b7, 0, none⟩)), (32, .slice An (s.ns.length) (cn)), (53, .slice (some ⟨b14, 0, none⟩) (1) (1))]) (hps' := fun b14 => [.abs (RowA 5 1 A12 ((ln ls i).data.length) c13 (bytesV (ln ls i).data)), .blk b5 [.slice An (s.ns.length) (cn)] 24, .abs (RowA 32 10 An s.ns.length cn (nodesV L s.ns)), .abs (FamA (entF s.ns L) s.ns.length), .abs (FamA (datF s.ns L) s.ns.length), .abs (RowA 3 1 (some ⟨b6, 0, none⟩) ls.length ls.length (idsL s.ids 0 ls.length)), .blk b4 [.slice none (0) (0)] 24, .abs R, .blk b7 (lineV (M.dA i) (M.dC i) (ln ls i)) 51, .blk b14 [.int .i64 ↑(s.ns.length + 1), .int .i64 ((ln ls i).kind), .int .i64 ((ln ls i).mode), .int .i64 ((ln ls i).uid), .int .i64 ((ln ls i).gid), .int .i64 ((ln ls i).sec), .int .i64 ((ln ls i).nano), .slice A12 ((ln ls i).data.length) (c13), .string (ln ls i).target, .slice none (0) (0)] 32]) (obl := fun b14 => []) [o_] [0, 2, 4, 5, 6, 7, 32, 53] [0, 1, 2, 3, 4, 5, 6, 7, 8, 9] (fun _ _ => by kernel_rfl) (fun b14 => trivial) (fun b14 => ?_)
     refine TriL.nil (by kernel_rfl) ?_
     exact TriQ.mid b14 (idx := [0, 2, 4, 5, 6, 7, 32, 53]) (pk := [0, 1, 2, 3, 4, 5, 6, 7, 8, 9]) (fun _ => by kernel_rfl) rfl (by kernel_rfl)
    rintro b14
    refine TriM.cut (ι := (Option Addr) × Nat) (fr' := fun ((A15, c16) : (Option Addr) × Nat) => [(0, .slice A (ls.length) (c)), (2, .pointer (some ⟨b4, 0, none⟩)), (4, .pointer (some ⟨b5, 0, none⟩)), (5, .slice (some ⟨b6, 0, none⟩) (ls.length) (ls.length)), (6, .int .i64 ↑i), (7, .pointer (some ⟨b7, 0, none⟩)), (54, .slice A15 ((s.ns ++ [lineNode (ln ls i) s.ns.length]).length) (c16))]) (hp' := fun ((A15, c16) : (Option Addr) × Nat) => [.abs (RowA 5 1 A12 ((ln ls i).data.length) c13 (bytesV (ln ls i).data)), .blk b5 [.slice An (s.ns.length) (cn)] 24, .abs (RowA 32 10 A15 ((s.ns ++ [lineNode (ln ls i) s.ns.length]).length) c16 (nodesV (L.put s.ns.length A12 c13 none 0) (s.ns ++ [lineNode (ln ls i) s.ns.length]))), .abs (FamA (entF s.ns L) s.ns.length), .abs (FamA (datF s.ns L) s.ns.length), .abs (RowA 3 1 (some ⟨b6, 0, none⟩) ls.length ls.length (idsL s.ids 0 ls.length)), .blk b4 [.slice none (0) (0)] 24, .abs R, .blk b7 (lineV (M.dA i) (M.dC i) (ln ls i)) 51, .blk b14 [.int .i64 ↑(s.ns.length + 1), .int .i64 ((ln ls i).kind), .int .i64 ((ln ls i).mode), .int .i64 ((ln ls i).uid), .int .i64 ((ln ls i).gid), .int .i64 ((ln ls i).sec), .int .i64 ((ln ls i).nano), .slice A12 ((ln ls i).data.length) (c13), .string (ln ls i).target, .slice none (0) (0)] 32]) [1, 8] rfl rfl ?_ rfl (fun _ => by kernel_rfl) ?_
    ·
     refine TriL.append 2 (d := (some 54)) (t := 22) (e := 32) (z := .agg #[.int .i64 0, .int .i64 0, .int .i64 0, .int .i64 0, .int .i64 0, .int .i64 0, .int .i64 0, .slice none (0) (0), .string ⟨#[]⟩, .slice none (0) (0)]) (size := 10) (bytes := 120) (n := s.ns.length) (cap := cn) (A := An) (xs := (nodesV L s.ns)) (s := (.tmp 32)) (x := (.tmp 53)) (ats := #[22, 22]) (A' := some ⟨b14, 0, none⟩) (m := 1) (c' := 1) (news := [.int .i64 ↑(s.ns.length + 1), .int .i64 ((ln ls i).kind), .int .i64 ((ln ls i).mode), .int .i64 ((ln ls i).uid), .int .i64 ((ln ls i).gid), .int .i64 ((ln ls i).sec), .int .i64 ((ln ls i).nano), .slice A12 ((ln ls i).data.length) (c13), .string (ln ls i).target, .slice none (0) (0)]) (fun _ => by kernel_rfl) rfl (by kernel_rfl) (fun _ => by kernel_rfl) (fun _ => by kernel_rfl) Try.underlying22 (by kernel_rfl) rfl (by decide) (rfl) (by simp [Value.oneCell']) (src_blk (j := 9) rfl) (by unfold maxLen; omega) (by omega) (fun A15 c16 => ?_)
     refine TriL.partEq 2 (p := .abs (RowA 32 10 A15 (s.ns.length + 1) c16 ((nodesV L s.ns) ++ [.int .i64 ↑(s.ns.length + 1), .int .i64 ((ln ls i).kind), .int .i64 ((ln ls i).mode), .int .i64 ((ln ls i).uid), .int .i64 ((ln ls i).gid), .int .i64 ((ln ls i).sec), .int .i64 ((ln ls i).nano), .slice A12 ((ln ls i).data.length) (c13), .string (ln ls i).target, .slice none (0) (0)]))) (p' := .abs (RowA 32 10 A15 ((s.ns ++ [lineNode (ln ls i) s.ns.length]).length) c16 (nodesV (L.put s.ns.length A12 c13 none 0) (s.ns ++ [lineNode (ln ls i) s.ns.length])))) (by kernel_rfl) (by rw [List.length_append]; exact congrArg (fun x => HP.abs (RowA 32 10 _ _ _ x)) (nodesV_more (ns := s.ns) (n := lineNode (ln ls i) s.ns.length))) ?_
     refine TriL.slot 54 (.slice A15 (s.ns.length + 1) (c16)) (.slice A15 ((s.ns ++ [lineNode (ln ls i) s.ns.length]).length) (c16)) (fun _ => by kernel_rfl) (by rw [List.length_append]; rfl) ?_
     refine TriL.nil (by kernel_rfl) ?_
     exact TriQ.mid (A15, c16) (idx := [0, 2, 4, 5, 6, 7, 54]) (pk := [0, 1, 2, 3, 4, 5, 6, 7, 8, 9]) (fun _ => by kernel_rfl) rfl (by kernel_rfl)
    rintro ⟨A15, c16⟩
    refine TriM.cut (ι := Unit) (fr' := fun (_ : Unit) => [(0, .slice A (ls.length) (c)), (2, .pointer (some ⟨b4, 0, none⟩)), (4, .pointer (some ⟨b5, 0, none⟩)), (5, .slice (some ⟨b6, 0, none⟩) (ls.length) (ls.length)), (6, .int .i64 ↑i), (7, .pointer (some ⟨b7, 0, none⟩)), (54, .slice A15 ((s.ns ++ [lineNode (ln ls i) s.ns.length]).length) (c16)), (55, .pointer (some ⟨b5, 0, none⟩))]) (hp' := fun (_ : Unit) => [.abs (RowA 5 1 A12 ((ln ls i).data.length) c13 (bytesV (ln ls i).data)), .blk b5 [.slice An (s.ns.length) (cn)] 24, .abs (RowA 32 10 A15 ((s.ns ++ [lineNode (ln ls i) s.ns.length]).length) c16 (nodesV (L.put s.ns.length A12 c13 none 0) (s.ns ++ [lineNode (ln ls i) s.ns.length]))), .abs (FamA (entF s.ns L) s.ns.length), .abs (FamA (datF s.ns L) s.ns.length), .abs (RowA 3 1 (some ⟨b6, 0, none⟩) ls.length ls.length (idsL s.ids 0 ls.length)), .blk b4 [.slice none (0) (0)] 24, .abs R, .blk b7 (lineV (M.dA i) (M.dC i) (ln ls i)) 51, .blk b14 [.int .i64 ↑(s.ns.length + 1), .int .i64 ((ln ls i).kind), .int .i64 ((ln ls i).mode), .int .i64 ((ln ls i).uid), .int .i64 ((ln ls i).gid), .int .i64 ((ln ls i).sec), .int .i64 ((ln ls i).nano), .slice A12 ((ln ls i).data.length) (c13), .string (ln ls i).target, .slice none (0) (0)] 32]) [1, 8] rfl rfl ?_ rfl (fun _ => by kernel_rfl) ?_
    ·
     refine TriL.segK (k' := 1) (fr' := [(0, .slice A (ls.length) (c)), (2, .pointer (some ⟨b4, 0, none⟩)), (4, .pointer (some ⟨b5, 0, none⟩)), (5, .slice (some ⟨b6, 0, none⟩) (ls.length) (ls.length)), (6, .int .i64 ↑i), (7, .pointer (some ⟨b7, 0, none⟩)), (54, .slice A15 ((s.ns ++ [lineNode (ln ls i) s.ns.length]).length) (c16)), (55, .pointer (some ⟨b5, 0, none⟩))]) (obl := []) [o_] [0, 2, 4, 5, 6, 7, 54, 55] (fun _ _ => by kernel_rfl) trivial ?_
     refine TriL.nil (by kernel_rfl) ?_
     exact TriQ.mid () (idx := [0, 2, 4, 5, 6, 7, 54, 55]) (pk := [0, 1, 2, 3, 4, 5, 6, 7, 8, 9]) (fun _ => by kernel_rfl) rfl (by kernel_rfl)
    rintro _
    refine TriM.last rfl rfl ?_
    refine TriL.seg (k' := 1) (fr' := [(0, .slice A (ls.length) (c)), (2, .pointer (some ⟨b4, 0, none⟩)), (4, .pointer (some ⟨b5, 0, none⟩)), (5, .slice (some ⟨b6, 0, none⟩) (ls.length) (ls.length)), (6, .int .i64 ↑i), (7, .pointer (some ⟨b7, 0, none⟩))]) (hps' := [.abs (RowA 5 1 A12 ((ln ls i).data.length) c13 (bytesV (ln ls i).data)), .blk b5 [.slice A15 ((s.ns ++ [lineNode (ln ls i) s.ns.length]).length) (c16)] 24, .abs (RowA 32 10 A15 ((s.ns ++ [lineNode (ln ls i) s.ns.length]).length) c16 (nodesV (L.put s.ns.length A12 c13 none 0) (s.ns ++ [lineNode (ln ls i) s.ns.length]))), .abs (FamA (entF s.ns L) s.ns.length), .abs (FamA (datF s.ns L) s.ns.length), .abs (RowA 3 1 (some ⟨b6, 0, none⟩) ls.length ls.length (idsL s.ids 0 ls.length)), .blk b4 [.slice none (0) (0)] 24, .abs R, .blk b7 (lineV (M.dA i) (M.dC i) (ln ls i)) 51, .blk b14 [.int .i64 ↑(s.ns.length + 1), .int .i64 ((ln ls i).kind), .int .i64 ((ln ls i).mode), .int .i64 ((ln ls i).uid), .int .i64 ((ln ls i).gid), .int .i64 ((ln ls i).sec), .int .i64 ((ln ls i).nano), .slice A12 ((ln ls i).data.length) (c13), .string (ln ls i).target, .slice none (0) (0)] 32]) (obl := [b5 = b5]) [⟨[.at 1], none, none, none, none⟩] [0, 2, 4, 5, 6, 7] [0, 1, 2, 3, 4, 5, 6, 7, 8, 9] (fun _ _ => by kernel_rfl) ⟨rfl, trivial⟩ ?_
    refine TriL.nil (by kernel_rfl) (TriQ.np (TriQ.next (Tri.region ?_)))
    refine TriL.segK (k' := 6) (fr' := [(0, .slice A (ls.length) (c)), (2, .pointer (some ⟨b4, 0, none⟩)), (4, .pointer (some ⟨b5, 0, none⟩)), (5, .slice (some ⟨b6, 0, none⟩) (ls.length) (ls.length)), (6, .int .i64 ↑i), (7, .pointer (some ⟨b7, 0, none⟩)), (60, .int .i64 ↑((s.ns ++ [lineNode (ln ls i) s.ns.length]).length)), (61, .pointer (some ⟨b6, i, none⟩))]) (obl := [(Value.pointer (some ⟨b6, 0 + i * 1, none⟩)) = (.pointer (some ⟨b6, i, none⟩)), ((i : Nat) : Int) = ((i : Nat) : Int), i < ls.length, (⟨b6, 0, none⟩ : Addr).spot = none, b5 = b5]) [o_, o_, o_, ⟨[.at 1], none, none, none, none⟩, o_, ⟨[], some i, none, none, some (.pointer (some ⟨b6, i, none⟩))⟩] [0, 2, 4, 5, 6, 7, 60, 61] (fun _ _ => by kernel_rfl) ⟨by simp, rfl, by omega, rfl, rfl, trivial⟩ ?_
    refine TriL.rowSet 5 (i) (d := none) (T := 3) (e := 3) (size := 1) (n := ls.length) (cap := ls.length) (g := b6) (xs := (idsL s.ids 0 ls.length)) (u := .int .i64 ↑((s.ns ++ [lineNode (ln ls i) s.ns.length]).length)) (a := (.tmp 61)) (y := (.tmp 60)) (fun _ => by kernel_rfl) (by kernel_rfl) (fun _ => by kernel_rfl) (fun _ => by kernel_rfl) (by kernel_rfl) rfl (by rw [idsL_len]; omega) ?_
    refine TriL.partEq 5 (p := .abs (RowA 3 1 (some ⟨b6, 0, none⟩) ls.length ls.length ((idsL s.ids 0 ls.length).set (i) (.int .i64 ↑((s.ns ++ [lineNode (ln ls i) s.ns.length]).length))))) (p' := .abs (RowA 3 1 (some ⟨b6, 0, none⟩) ls.length ls.length (idsL s.ids (newId ls s i) ls.length))) (by kernel_rfl) (by rw [idsL_set hP.inv.idl.symm, (newNs_at h30).2, List.length_append]; rfl) ?_
    refine TriL.nil (by kernel_rfl) ?_
    refine TriQ.mem (hps' := [.abs (FamA (datF (s.ns ++ [lineNode (ln ls i) s.ns.length]) (L.put s.ns.length A12 c13 none 0)) (s.ns.length + 1)), .blk b5 [.slice A15 ((s.ns ++ [lineNode (ln ls i) s.ns.length]).length) (c16)] 24, .abs (RowA 32 10 A15 ((s.ns ++ [lineNode (ln ls i) s.ns.length]).length) c16 (nodesV (L.put s.ns.length A12 c13 none 0) (s.ns ++ [lineNode (ln ls i) s.ns.length]))), .abs (FamA (entF s.ns L) s.ns.length), .abs (RowA 3 1 (some ⟨b6, 0, none⟩) ls.length ls.length (idsL s.ids (newId ls s i) ls.length)), .blk b4 [.slice none (0) (0)] 24, .abs R, .blk b7 (lineV (M.dA i) (M.dC i) (ln ls i)) 51, .blk b14 [.int .i64 ↑(s.ns.length + 1), .int .i64 ((ln ls i).kind), .int .i64 ((ln ls i).mode), .int .i64 ((ln ls i).uid), .int .i64 ((ln ls i).gid), .int .i64 ((ln ls i).sec), .int .i64 ((ln ls i).nano), .slice A12 ((ln ls i).data.length) (c13), .string (ln ls i).target, .slice none (0) (0)] 32]) (fun w hS => hS.famPush (R' := (datF (s.ns ++ [lineNode (ln ls i) s.ns.length]) (L.put s.ns.length A12 c13 none 0))) (i := 4) (j := 0) (idx := [1, 2, 3, 5, 6, 7, 8, 9]) rfl rfl (by kernel_rfl) rfl (fun x hx => datF_more.1 x hx) (datF_more.2)) ?_
    refine TriQ.mem (hps' := [.abs (FamA (datF (s.ns ++ [lineNode (ln ls i) s.ns.length]) (L.put s.ns.length A12 c13 none 0)) (s.ns.length + 1)), .blk b5 [.slice A15 ((s.ns ++ [lineNode (ln ls i) s.ns.length]).length) (c16)] 24, .abs (RowA 32 10 A15 ((s.ns ++ [lineNode (ln ls i) s.ns.length]).length) c16 (nodesV (L.put s.ns.length A12 c13 none 0) (s.ns ++ [lineNode (ln ls i) s.ns.length]))), .abs (FamA (entF s.ns L) s.ns.length), .abs (RowA 3 1 (some ⟨b6, 0, none⟩) ls.length ls.length (idsL s.ids (newId ls s i) ls.length)), .blk b4 [.slice none (0) (0)] 24, .abs R, .blk b7 (lineV (M.dA i) (M.dC i) (ln ls i)) 51, .blk b14 [.int .i64 ↑(s.ns.length + 1), .int .i64 ((ln ls i).kind), .int .i64 ((ln ls i).mode), .int .i64 ((ln ls i).uid), .int .i64 ((ln ls i).gid), .int .i64 ((ln ls i).sec), .int .i64 ((ln ls i).nano), .slice A12 ((ln ls i).data.length) (c13), .string (ln ls i).target, .slice none (0) (0)] 32, .abs (RowA 72 2 none 0 0 ([]))]) (fun w hS => hS.rowNil (e := 72) (size := 2)) ?_
    refine TriQ.mem (hps' := [.abs (FamA (entF (s.ns ++ [lineNode (ln ls i) s.ns.length]) (L.put s.ns.length A12 c13 none 0)) (s.ns.length + 1)), .abs (FamA (datF (s.ns ++ [lineNode (ln ls i) s.ns.length]) (L.put s.ns.length A12 c13 none 0)) (s.ns.length + 1)), .blk b5 [.slice A15 ((s.ns ++ [lineNode (ln ls i) s.ns.length]).length) (c16)] 24, .abs (RowA 32 10 A15 ((s.ns ++ [lineNode (ln ls i) s.ns.length]).length) c16 (nodesV (L.put s.ns.length A12 c13 none 0) (s.ns ++ [lineNode (ln ls i) s.ns.length]))), .abs (RowA 3 1 (some ⟨b6, 0, none⟩) ls.length ls.length (idsL s.ids (newId ls s i) ls.length)), .blk b4 [.slice none (0) (0)] 24, .abs R, .blk b7 (lineV (M.dA i) (M.dC i) (ln ls i)) 51, .blk b14 [.int .i64 ↑(s.ns.length + 1), .int .i64 ((ln ls i).kind), .int .i64 ((ln ls i).mode), .int .i64 ((ln ls i).uid), .int .i64 ((ln ls i).gid), .int .i64 ((ln ls i).sec), .int .i64 ((ln ls i).nano), .slice A12 ((ln ls i).data.length) (c13), .string (ln ls i).target, .slice none (0) (0)] 32]) (fun w hS => hS.famPush (R' := (entF (s.ns ++ [lineNode (ln ls i) s.ns.length]) (L.put s.ns.length A12 c13 none 0))) (i := 3) (j := 9) (idx := [0, 1, 2, 4, 5, 6, 7, 8]) rfl rfl (by kernel_rfl) rfl (fun x hx => (entF_more rfl).1 x hx) ((entF_more rfl).2)) ?_
    refine TriQ.mem (hps' := [.abs (FamA (entF (newNs ls s i) (L.put s.ns.length A12 c13 none 0)) ((newNs ls s i).length)), .abs (FamA (datF (newNs ls s i) (L.put s.ns.length A12 c13 none 0)) ((newNs ls s i).length)), .blk b5 [.slice A15 ((newNs ls s i).length) (c16)] 24, .abs (RowA 32 10 A15 ((newNs ls s i).length) c16 (nodesV (L.put s.ns.length A12 c13 none 0) (newNs ls s i))), .abs (RowA 3 1 (some ⟨b6, 0, none⟩) ls.length ls.length (idsL s.ids (newId ls s i) ls.length)), .blk b4 [.slice none (0) (0)] 24, .abs R, .blk b7 (lineV (M.dA i) (M.dC i) (ln ls i)) 51, .blk b14 [.int .i64 ↑(s.ns.length + 1), .int .i64 ((ln ls i).kind), .int .i64 ((ln ls i).mode), .int .i64 ((ln ls i).uid), .int .i64 ((ln ls i).gid), .int .i64 ((ln ls i).sec), .int .i64 ((ln ls i).nano), .slice A12 ((ln ls i).data.length) (c13), .string (ln ls i).target, .slice none (0) (0)] 32]) (fun w hS => by have e : (s.ns ++ [lineNode (ln ls i) s.ns.length]).length = s.ns.length + 1 := List.length_append; rw [e] at hS; rw [(newNs_at h30).1, e]; exact hS) ?_
    exact TriQ.meet ((L.put s.ns.length A12 c13 none 0), A15, c16) (idx := [0, 2, 4, 5, 6, 7]) (pk := [5, 7, 2, 3, 0, 1, 4, 6]) (show (¬ (newId ls s i) = 0) from (by rw [(newNs_at h30).2]; exact Nat.succ_ne_zero _)) (fun _ => by kernel_rfl) rfl (by kernel_rfl)
   ·
    refine Tri.seq (Tri.seq (Tri.region ?_))
    refine TriL.segK (k' := 1) (fr' := [(0, .slice A (ls.length) (c)), (2, .pointer (some ⟨b4, 0, none⟩)), (4, .pointer (some ⟨b5, 0, none⟩)), (5, .slice (some ⟨b6, 0, none⟩) (ls.length) (ls.length)), (6, .int .i64 ↑i), (7, .pointer (some ⟨b7, 0, none⟩)), (8, .int .i64 0)]) (obl := []) [o_] [0, 2, 4, 5, 6, 7, 8] (fun _ _ => by kernel_rfl) trivial ?_
    refine TriL.nil (by kernel_rfl) (TriQ.next (Tri.block ?_))
    refine Tri.loop (ι := Nat) (fun (j : Nat) => (j ≤ i)) (fun (j : Nat) => i - j) (fun (j : Nat) => [(0, .slice A (ls.length) (c)), (2, .pointer (some ⟨b4, 0, none⟩)), (4, .pointer (some ⟨b5, 0, none⟩)), (5, .slice (some ⟨b6, 0, none⟩) (ls.length) (ls.length)), (6, .int .i64 ↑i), (7, .pointer (some ⟨b7, 0, none⟩)), (8, .int .i64 ↑j)]) (fun (j : Nat) => [.blk b5 [.slice An (s.ns.length) (cn)] 24, .abs (RowA 32 10 An s.ns.length cn (nodesV L s.ns)), .abs (FamA (entF s.ns L) s.ns.length), .abs (FamA (datF s.ns L) s.ns.length), .blk b4 [.slice none (0) (0)] 24, .blk b7 (lineV (M.dA i) (M.dC i) (ln ls i)) 51, .abs (RowA 3 1 (some ⟨b6, 0, none⟩) ls.length ls.length (idsL s.ids (idOf ls s.ids (ln ls i).peer j) ls.length)), .abs R]) 0 (idx := [0, 2, 4, 5, 6, 7, 8]) (pk := [0, 1, 2, 3, 5, 7, 4, 6]) (show (0 ≤ i) from Nat.zero_le _) (fun _ => by kernel_rfl) rfl (by kernel_rfl) ?_
    rintro j hj
    show Tri _ _ _ _ [(0, .slice A (ls.length) (c)), (2, .pointer (some ⟨b4, 0, none⟩)), (4, .pointer (some ⟨b5, 0, none⟩)), (5, .slice (some ⟨b6, 0, none⟩) (ls.length) (ls.length)), (6, .int .i64 ↑i), (7, .pointer (some ⟨b7, 0, none⟩)), (8, .int .i64 ↑j)] [.blk b5 [.slice An (s.ns.length) (cn)] 24, .abs (RowA 32 10 An s.ns.length cn (nodesV L s.ns)), .abs (FamA (entF s.ns L) s.ns.length), .abs (FamA (datF s.ns L) s.ns.length), .blk b4 [.slice none (0) (0)] 24, .blk b7 (lineV (M.dA i) (M.dC i) (ln ls i)) 51, .abs (RowA 3 1 (some ⟨b6, 0, none⟩) ls.length ls.length (idsL s.ids (idOf ls s.ids (ln ls i).peer j) ls.length)), .abs R] _
    refine Tri.seq (Tri.seq (Tri.region ?_))
    refine TriL.segK (k' := 3) (fr' := [(0, .slice A (ls.length) (c)), (2, .pointer (some ⟨b4, 0, none⟩)), (4, .pointer (some ⟨b5, 0, none⟩)), (5, .slice (some ⟨b6, 0, none⟩) (ls.length) (ls.length)), (6, .int .i64 ↑i), (7, .pointer (some ⟨b7, 0, none⟩)), (8, .int .i64 ↑j), (64, .bool (decide ((((j : Nat) : Int) : Int) < (((i : Nat) : Int) : Int))))]) (obl := []) [o_, o_, o_] [0, 2, 4, 5, 6, 7, 8, 64] (fun _ _ => by kernel_rfl) trivial ?_
    refine TriL.nil (by kernel_rfl) (TriQ.next ?_)
    refine Tri.condP (p := (((j : Nat) : Int) : Int) < (((i : Nat) : Int) : Int)) (fun _ => by kernel_rfl) (fun h64 => ?_) (fun h64 => ?_)
    ·
     refine Tri.skip (TriQ.next (Tri.seq (Tri.block (Tri.seq ?_))))
     refine Tri.regionQ (by kernel_rfl) (by kernel_rfl) ?_
     refine TriLQ.seg (k' := 9) (fr' := [(0, .slice A (ls.length) (c)), (2, .pointer (some ⟨b4, 0, none⟩)), (4, .pointer (some ⟨b5, 0, none⟩)), (5, .slice (some ⟨b6, 0, none⟩) (ls.length) (ls.length)), (6, .int .i64 ↑i), (7, .pointer (some ⟨b7, 0, none⟩)), (8, .int .i64 ↑j), (75, .bool (decide (((ln ls j).path : ByteArray) = (ln ls i).peer)))]) (obl := [(Value.bool (((ln ls j).path : ByteArray).toList == ((ln ls i).peer : ByteArray).toList)) = (.bool (decide (((ln ls j).path : ByteArray) = (ln ls i).peer))), b7 = b7, (Rd β ⟨(blkOf A), offOf A + j * 10, none⟩ (.string (ln ls j).path)), ((j : Nat) : Int) = ((j : Nat) : Int), j < ls.length, (⟨(blkOf A), offOf A, none⟩ : Addr).spot = none, (A : Option Addr) = some ⟨(blkOf A), offOf A, none⟩]) [o_, o_, ⟨[], some j, none, some ⟨(blkOf A), offOf A, none⟩, none⟩, o_, ⟨[.old (.string (ln ls j).path)], none, none, none, none⟩, o_, ⟨[.at 5], none, none, none, none⟩, ⟨[], none, none, none, some (.bool (decide (((ln ls j).path : ByteArray) = (ln ls i).peer)))⟩, o_] [0, 2, 4, 5, 6, 7, 8, 75] (fun _ _ => by kernel_rfl) ⟨strEqV _ _, rfl, LinesAt.rd hG (i := j) (by omega) (j := 0) rfl, rfl, by omega, rfl, LinesAt.hd hG (i := j) (by omega), trivial⟩ ?_
     refine TriLQ.slotP 75 (((ln ls j).path : ByteArray) = (ln ls i).peer) (fun _ => by kernel_rfl) (fun h75 => ?_) (fun h75 => ?_)
     ·
      refine TriLQ.seg (k' := 15) (fr' := [(0, .slice A (ls.length) (c)), (2, .pointer (some ⟨b4, 0, none⟩)), (4, .pointer (some ⟨b5, 0, none⟩)), (5, .slice (some ⟨b6, 0, none⟩) (ls.length) (ls.length)), (6, .int .i64 ↑i), (7, .pointer (some ⟨b7, 0, none⟩)), (8, .int .i64 ↑j), (81, .bool (decide (((((idOf ls s.ids (ln ls i).peer j) : Nat) : Int) : Int) = (0 : Int))))]) (obl := [(∀ F w, (RowA 3 1 (some ⟨b6, 0, none⟩) ls.length ls.length (idsL s.ids (idOf ls s.ids (ln ls i).peer j) ls.length)).h F w → w.cell? ⟨b6, i, none⟩ = some (.int .i64 ↑(idOf ls s.ids (ln ls i).peer j))), (Value.pointer (some ⟨b6, 0 + i * 1, none⟩)) = (.pointer (some ⟨b6, i, none⟩)), ((i : Nat) : Int) = ((i : Nat) : Int), i < ls.length, (⟨b6, 0, none⟩ : Addr).spot = none]) [o_, o_, ⟨[], some i, none, none, some (.pointer (some ⟨b6, i, none⟩))⟩, ⟨[.view 6 (.int .i64 ↑(idOf ls s.ids (ln ls i).peer j))], none, none, none, none⟩, o_, o_] [0, 2, 4, 5, 6, 7, 8, 81] (fun _ _ => by kernel_rfl) ⟨RowA.cell (idsL_at (by omega) (by omega)), by simp, rfl, by omega, rfl, trivial⟩ ?_
      refine TriLQ.nil (by kernel_rfl) (TriQ.next ?_)
      refine Tri.condP (p := ((((idOf ls s.ids (ln ls i).peer j) : Nat) : Int) : Int) = (0 : Int)) (fun _ => by kernel_rfl) (fun h81 => ?_) (fun h81 => ?_)
      ·
       refine Tri.region ?_
       refine TriL.segK (k' := 7) (fr' := [(0, .slice A (ls.length) (c)), (2, .pointer (some ⟨b4, 0, none⟩)), (4, .pointer (some ⟨b5, 0, none⟩)), (5, .slice (some ⟨b6, 0, none⟩) (ls.length) (ls.length)), (6, .int .i64 ↑i), (7, .pointer (some ⟨b7, 0, none⟩)), (8, .int .i64 ↑j), (87, .int .i64 ↑(s.ids.getD j 0)), (88, .pointer (some ⟨b6, i, none⟩))]) (obl := [(Value.pointer (some ⟨b6, 0 + i * 1, none⟩)) = (.pointer (some ⟨b6, i, none⟩)), ((i : Nat) : Int) = ((i : Nat) : Int), i < ls.length, (⟨b6, 0, none⟩ : Addr).spot = none, (∀ F w, (RowA 3 1 (some ⟨b6, 0, none⟩) ls.length ls.length (idsL s.ids (idOf ls s.ids (ln ls i).peer j) ls.length)).h F w → w.cell? ⟨b6, j, none⟩ = some (.int .i64 ↑(s.ids.getD j 0))), (Value.pointer (some ⟨b6, 0 + j * 1, none⟩)) = (.pointer (some ⟨b6, j, none⟩)), ((j : Nat) : Int) = ((j : Nat) : Int), j < ls.length, (⟨b6, 0, none⟩ : Addr).spot = none]) [o_, o_, o_, o_, ⟨[], some j, none, none, some (.pointer (some ⟨b6, j, none⟩))⟩, ⟨[.view 6 (.int .i64 ↑(s.ids.getD j 0))], none, none, none, none⟩, ⟨[], some i, none, none, some (.pointer (some ⟨b6, i, none⟩))⟩] [0, 2, 4, 5, 6, 7, 8, 87, 88] (fun _ _ => by kernel_rfl) ⟨by simp, rfl, by omega, rfl, RowA.cell (idsL_old (by omega) (by omega)), by simp, rfl, by omega, rfl, trivial⟩ ?_
       refine TriL.rowSet 6 (i) (d := none) (T := 3) (e := 3) (size := 1) (n := ls.length) (cap := ls.length) (g := b6) (xs := (idsL s.ids (idOf ls s.ids (ln ls i).peer j) ls.length)) (u := .int .i64 ↑(s.ids.getD j 0)) (a := (.tmp 88)) (y := (.tmp 87)) (fun _ => by kernel_rfl) (by kernel_rfl) (fun _ => by kernel_rfl) (fun _ => by kernel_rfl) (by kernel_rfl) rfl (by rw [idsL_len]; omega) ?_
       refine TriL.partEq 6 (p := .abs (RowA 3 1 (some ⟨b6, 0, none⟩) ls.length ls.length ((idsL s.ids (idOf ls s.ids (ln ls i).peer j) ls.length).set (i) (.int .i64 ↑(s.ids.getD j 0))))) (p' := .abs (RowA 3 1 (some ⟨b6, 0, none⟩) ls.length ls.length (idsL s.ids (idOf ls s.ids (ln ls i).peer (j + 1)) ls.length))) (by kernel_rfl) (by rw [idsL_set hP.inv.idl.symm, idOf_hit h75 (by omega)]) ?_
       refine TriL.nil (by kernel_rfl) (TriQ.blockNormal (TriQ.next (Tri.region ?_)))
       refine TriL.segK (k' := 3) (fr' := [(0, .slice A (ls.length) (c)), (2, .pointer (some ⟨b4, 0, none⟩)), (4, .pointer (some ⟨b5, 0, none⟩)), (5, .slice (some ⟨b6, 0, none⟩) (ls.length) (ls.length)), (6, .int .i64 ↑i), (7, .pointer (some ⟨b7, 0, none⟩)), (8, .int .i64 ↑(j + 1))]) (obl := [(Value.int .i64 (IntKind.wrap .i64 (((j : Nat) : Int) + 1))) = (.int .i64 ↑(j + 1))]) [o_, ⟨[], none, none, none, some (.int .i64 ↑(j + 1))⟩, o_] [0, 2, 4, 5, 6, 7, 8] (fun _ _ => by kernel_rfl) ⟨wrapEq (by omega) (by omega) (by omega), trivial⟩ ?_
       refine TriL.nil (by kernel_rfl) ?_
       exact TriQ.turn ((j + 1)) (idx := [0, 2, 4, 5, 6, 7, 8]) (pk := [0, 1, 2, 3, 4, 5, 6, 7]) (show (((j + 1)) ≤ i) from (by omega)) (by show i - ((j + 1)) < i - j; omega) (fun _ => by kernel_rfl) rfl (by kernel_rfl)
      ·
       refine Tri.skip (TriQ.blockNormal (TriQ.next (Tri.region ?_)))
       refine TriL.partEq 6 (p := .abs (RowA 3 1 (some ⟨b6, 0, none⟩) ls.length ls.length (idsL s.ids (idOf ls s.ids (ln ls i).peer j) ls.length))) (p' := .abs (RowA 3 1 (some ⟨b6, 0, none⟩) ls.length ls.length (idsL s.ids (idOf ls s.ids (ln ls i).peer (j + 1)) ls.length))) (by kernel_rfl) (by rw [idOf_miss (fun e => h81 (by have := e.1; omega))]) ?_
       refine TriL.segK (k' := 3) (fr' := [(0, .slice A (ls.length) (c)), (2, .pointer (some ⟨b4, 0, none⟩)), (4, .pointer (some ⟨b5, 0, none⟩)), (5, .slice (some ⟨b6, 0, none⟩) (ls.length) (ls.length)), (6, .int .i64 ↑i), (7, .pointer (some ⟨b7, 0, none⟩)), (8, .int .i64 ↑(j + 1))]) (obl := [(Value.int .i64 (IntKind.wrap .i64 (((j : Nat) : Int) + 1))) = (.int .i64 ↑(j + 1))]) [o_, ⟨[], none, none, none, some (.int .i64 ↑(j + 1))⟩, o_] [0, 2, 4, 5, 6, 7, 8] (fun _ _ => by kernel_rfl) ⟨wrapEq (by omega) (by omega) (by omega), trivial⟩ ?_
       refine TriL.nil (by kernel_rfl) ?_
       exact TriQ.turn ((j + 1)) (idx := [0, 2, 4, 5, 6, 7, 8]) (pk := [0, 1, 2, 3, 4, 5, 6, 7]) (show (((j + 1)) ≤ i) from (by omega)) (by show i - ((j + 1)) < i - j; omega) (fun _ => by kernel_rfl) rfl (by kernel_rfl)
     ·
      refine TriLQ.seg (k' := 15) (fr' := [(0, .slice A (ls.length) (c)), (2, .pointer (some ⟨b4, 0, none⟩)), (4, .pointer (some ⟨b5, 0, none⟩)), (5, .slice (some ⟨b6, 0, none⟩) (ls.length) (ls.length)), (6, .int .i64 ↑i), (7, .pointer (some ⟨b7, 0, none⟩)), (8, .int .i64 ↑j), (81, .bool false)]) (obl := []) [o_, o_, o_, o_, o_, o_] [0, 2, 4, 5, 6, 7, 8, 81] (fun _ _ => by kernel_rfl) trivial ?_
      refine TriLQ.nil (by kernel_rfl) (TriQ.next ?_)
      refine Tri.condF (fun _ => by kernel_rfl) ?_
      refine Tri.skip (TriQ.blockNormal (TriQ.next (Tri.region ?_)))
      refine TriL.partEq 6 (p := .abs (RowA 3 1 (some ⟨b6, 0, none⟩) ls.length ls.length (idsL s.ids (idOf ls s.ids (ln ls i).peer j) ls.length))) (p' := .abs (RowA 3 1 (some ⟨b6, 0, none⟩) ls.length ls.length (idsL s.ids (idOf ls s.ids (ln ls i).peer (j + 1)) ls.length))) (by kernel_rfl) (by rw [idOf_miss (fun e => h75 e.2)]) ?_
      refine TriL.segK (k' := 3) (fr' := [(0, .slice A (ls.length) (c)), (2, .pointer (some ⟨b4, 0, none⟩)), (4, .pointer (some ⟨b5, 0, none⟩)), (5, .slice (some ⟨b6, 0, none⟩) (ls.length) (ls.length)), (6, .int .i64 ↑i), (7, .pointer (some ⟨b7, 0, none⟩)), (8, .int .i64 ↑(j + 1))]) (obl := [(Value.int .i64 (IntKind.wrap .i64 (((j : Nat) : Int) + 1))) = (.int .i64 ↑(j + 1))]) [o_, ⟨[], none, none, none, some (.int .i64 ↑(j + 1))⟩, o_] [0, 2, 4, 5, 6, 7, 8] (fun _ _ => by kernel_rfl) ⟨wrapEq (by omega) (by omega) (by omega), trivial⟩ ?_
      refine TriL.nil (by kernel_rfl) ?_
      exact TriQ.turn ((j + 1)) (idx := [0, 2, 4, 5, 6, 7, 8]) (pk := [0, 1, 2, 3, 4, 5, 6, 7]) (show (((j + 1)) ≤ i) from (by omega)) (by show i - ((j + 1)) < i - j; omega) (fun _ => by kernel_rfl) rfl (by kernel_rfl)
    ·
     refine Tri.exit (TriQ.passExit (TriQ.passExit (TriQ.blockHit (TriQ.next (Tri.seq (Tri.region ?_))))))
     have ej : j = i := by omega
     refine TriL.partEq 6 (p := .abs (RowA 3 1 (some ⟨b6, 0, none⟩) ls.length ls.length (idsL s.ids (idOf ls s.ids (ln ls i).peer j) ls.length))) (p' := .abs (RowA 3 1 (some ⟨b6, 0, none⟩) ls.length ls.length (idsL s.ids (idOf ls s.ids (ln ls i).peer i) ls.length))) (by kernel_rfl) (by rw [ej]) ?_
     refine TriL.segK (k' := 5) (fr' := [(0, .slice A (ls.length) (c)), (2, .pointer (some ⟨b4, 0, none⟩)), (4, .pointer (some ⟨b5, 0, none⟩)), (5, .slice (some ⟨b6, 0, none⟩) (ls.length) (ls.length)), (6, .int .i64 ↑i), (7, .pointer (some ⟨b7, 0, none⟩)), (93, .bool (decide (((((idOf ls s.ids (ln ls i).peer i) : Nat) : Int) : Int) = (0 : Int))))]) (obl := [(∀ F w, (RowA 3 1 (some ⟨b6, 0, none⟩) ls.length ls.length (idsL s.ids (idOf ls s.ids (ln ls i).peer i) ls.length)).h F w → w.cell? ⟨b6, i, none⟩ = some (.int .i64 ↑(idOf ls s.ids (ln ls i).peer i))), (Value.pointer (some ⟨b6, 0 + i * 1, none⟩)) = (.pointer (some ⟨b6, i, none⟩)), ((i : Nat) : Int) = ((i : Nat) : Int), i < ls.length, (⟨b6, 0, none⟩ : Addr).spot = none]) [o_, o_, ⟨[], some i, none, none, some (.pointer (some ⟨b6, i, none⟩))⟩, ⟨[.view 6 (.int .i64 ↑(idOf ls s.ids (ln ls i).peer i))], none, none, none, none⟩, o_] [0, 2, 4, 5, 6, 7, 93] (fun _ _ => by kernel_rfl) ⟨RowA.cell (idsL_at (by omega) (by omega)), by simp, rfl, by omega, rfl, trivial⟩ ?_
     refine TriL.nil (by kernel_rfl) (TriQ.next ?_)
     refine Tri.condP (p := ((((idOf ls s.ids (ln ls i).peer i) : Nat) : Int) : Int) = (0 : Int)) (fun _ => by kernel_rfl) (fun h93 => ?_) (fun h93 => ?_)
     ·
      refine Tri.seq (Tri.region ?_)
      refine TriL.seg (k' := 3) (fr' := [(2, .pointer (some ⟨b4, 0, none⟩)), (3, .int .i64 151)]) (hps' := [.blk b5 [.slice An (s.ns.length) (cn)] 24, .abs (RowA 32 10 An s.ns.length cn (nodesV L s.ns)), .abs (FamA (entF s.ns L) s.ns.length), .abs (FamA (datF s.ns L) s.ns.length), .blk b4 [.slice none (0) (0)] 24, .blk b7 (lineV (M.dA i) (M.dC i) (ln ls i)) 51, .abs (RowA 3 1 (some ⟨b6, 0, none⟩) ls.length ls.length (idsL s.ids (idOf ls s.ids (ln ls i).peer i) ls.length)), .abs R]) (obl := [b4 = b4]) [o_, ⟨[.at 4], none, none, none, none⟩, o_] [2, 3] [0, 1, 2, 3, 4, 5, 6, 7] (fun _ _ => by kernel_rfl) ⟨rfl, trivial⟩ ?_
      refine TriL.nil (by kernel_rfl) (TriQ.next (Tri.ret (TriQ.passRet (TriQ.blockRet (TriQ.passRet (TriQ.passRet (TriQ.blockRet (TriQ.passRet ?_))))))))
      refine TriQ.mem (hps' := [.blk b5 [.slice An (s.ns.length) (cn)] 24, .abs (RowA 32 10 An s.ns.length cn (nodesV L s.ns)), .abs (FamA (entF s.ns L) s.ns.length), .abs (FamA (datF s.ns L) s.ns.length), .blk b4 [.slice none (0) (0)] 24, .blk b7 (lineV (M.dA i) (M.dC i) (ln ls i)) 51, .abs (RowA 3 1 (some ⟨b6, 0, none⟩) ls.length ls.length (idsL s.ids (idOf ls s.ids (ln ls i).peer i) ls.length)), .abs R, .abs (RowA 32 10 none 0 0 ([])), .abs (FamA (entF [] layN) 0), .abs (FamA (datF [] layN) 0)]) (fun w hS => ((hS.rowNil (e := 32) (size := 10)).famNil (entF [] layN)).famNil (datF [] layN)) ?_
      exact TriQ.ret (v := .tuple #[.agg #[.slice none (0) (0)], .int .i64 151]) (l := [.abs (RowA 32 10 none 0 0 ([])), .abs (FamA (entF [] layN) 0), .abs (FamA (datF [] layN) 0)]) (obl := [b4 = b4]) [.at 4] [8, 9, 10, 7] (fun _ => by kernel_rfl) ⟨rfl, trivial⟩ rfl (by kernel_rfl) (⟨none, 0, layN, by rw [plantR_none (hP.stop hi2 (stepR_noid (by rw [(newNs_no h30).2]; omega)))]; rfl, by rw [plantR_none (hP.stop hi2 (stepR_noid (by rw [(newNs_no h30).2]; omega)))]; rfl⟩)
     ·
      refine Tri.skip ?_
      refine TriQ.mem (hps' := [.blk b5 [.slice An ((newNs ls s i).length) (cn)] 24, .abs (RowA 32 10 An ((newNs ls s i).length) cn (nodesV L (newNs ls s i))), .abs (FamA (entF (newNs ls s i) L) ((newNs ls s i).length)), .abs (FamA (datF (newNs ls s i) L) ((newNs ls s i).length)), .blk b4 [.slice none (0) (0)] 24, .blk b7 (lineV (M.dA i) (M.dC i) (ln ls i)) 51, .abs (RowA 3 1 (some ⟨b6, 0, none⟩) ls.length ls.length (idsL s.ids (newId ls s i) ls.length)), .abs R]) (fun w hS => by rw [(newNs_no h30).1, (newNs_no h30).2]; exact hS) ?_
      exact TriQ.meet (L, An, cn) (idx := [0, 2, 4, 5, 6, 7]) (pk := [4, 5, 0, 1, 2, 3, 6, 7]) (show (¬ (newId ls s i) = 0) from (by rw [(newNs_no h30).2]; omega)) (fun _ => by kernel_rfl) rfl (by kernel_rfl)
 ·
  refine Tri.exit (TriQ.passExit (TriQ.passExit (TriQ.blockHit (TriQ.next (Tri.seq (Tri.region ?_))))))
  have hfo : foldS stepR ls ls.length = some s := by have := hP.fold; rwa [show i = ls.length by omega] at this
  have hgb := hPB s hfo
  have hG_lent18 := hG
  refine TriL.lend (l := [.blk b5 [.slice An (s.ns.length) (cn)] 24, .abs (RowA 3 1 (some ⟨b6, 0, none⟩) ls.length ls.length (idsL s.ids 0 ls.length)), .blk b4 [.slice none (0) (0)] 24, .abs R]) [.abs (RowA 32 10 An s.ns.length cn (nodesV L s.ns)), .abs (FamA (entF s.ns L) s.ns.length), .abs (FamA (datF s.ns L) s.ns.length)] [0, 4, 5, 6, 1, 2, 3] rfl (by kernel_rfl) (fun β17 hle_β17 hle0 lent18 => ?_)
  replace hG := hG.le hle_β17
  have hg := Lent.graph (A := An) (c := cn) lent18
  refine TriL.segK (k' := 1) (fr' := [(0, .slice A (ls.length) (c)), (2, .pointer (some ⟨b4, 0, none⟩)), (4, .pointer (some ⟨b5, 0, none⟩)), (161, .agg #[.slice An (s.ns.length) (cn)])]) (obl := [b5 = b5]) [⟨[.at 0], none, none, none, none⟩] [0, 2, 4, 161] (fun _ _ => by kernel_rfl) ⟨rfl, trivial⟩ ?_
  refine TriL.callB (f := 27) (args := #[.agg #[.slice An (s.ns.length) (cn)], .int .i64 1]) (d := (some 162)) (pre := []) (R := [.blk b5 [.slice An (s.ns.length) (cn)] 24, .abs (RowA 3 1 (some ⟨b6, 0, none⟩) ls.length ls.length (idsL s.ids 0 ls.length)), .blk b4 [.slice none (0) (0)] 24, .abs R]) (pk := [0, 1, 2, 3]) (fun _ => by kernel_rfl) (sp_refTree An cn s.ns L hg hgb 1) rfl (by kernel_rfl) ?_
  rintro β19 _ _ hle_β19 ⟨B, cB, MB, rfl, rfl, hT⟩
  replace hG := hG.le hle_β19
  replace hg := hg.le hle_β19
  replace hle0 := hle0.trans hle_β19
  refine TriL.segK (k' := 7) (fr' := [(0, .slice A (ls.length) (c)), (2, .pointer (some ⟨b4, 0, none⟩)), (4, .pointer (some ⟨b5, 0, none⟩)), (12, .slice B ((treeG s.ns 1).1.length) (cB)), (13, .int .i64 ((treeG s.ns 1).2))]) (obl := []) [o_, o_, o_, o_, o_] [0, 2, 4, 12, 13] (fun _ _ => by kernel_rfl) trivial ?_
  refine TriL.nil (by kernel_rfl) (TriQ.next (Tri.seq (Tri.seq (Tri.region ?_))))
  refine TriL.segK (k' := 3) (fr' := [(0, .slice A (ls.length) (c)), (2, .pointer (some ⟨b4, 0, none⟩)), (4, .pointer (some ⟨b5, 0, none⟩)), (12, .slice B ((treeG s.ns 1).1.length) (cB)), (167, .bool (!(decide (((treeG s.ns 1).2 : Int) = (0 : Int)))))]) (obl := []) [o_, o_, o_] [0, 2, 4, 12, 167] (fun _ _ => by kernel_rfl) trivial ?_
  refine TriL.slotN 167 (((treeG s.ns 1).2 : Int) = (0 : Int)) (fun _ => by kernel_rfl) (fun h167 => ?_) (fun h167 => ?_)
  ·
   refine TriL.segK (k' := 8) (fr' := [(2, .pointer (some ⟨b4, 0, none⟩)), (4, .pointer (some ⟨b5, 0, none⟩)), (172, .bool true)]) (obl := []) [o_, o_, o_, o_, o_] [2, 4, 172] (fun _ _ => by kernel_rfl) trivial ?_
   refine TriL.nil (by kernel_rfl) (TriQ.next ?_)
   refine Tri.condT (fun _ => by kernel_rfl) ?_
   refine Tri.seq (Tri.region ?_)
   refine TriL.back (hps := [.blk b5 [.slice An (s.ns.length) (cn)] 24, .abs (RowA 3 1 (some ⟨b6, 0, none⟩) ls.length ls.length (idsL s.ids 0 ls.length)), .blk b4 [.slice none (0) (0)] 24, .abs R]) lent18 hle0 ?_
   show TriL _ _ _ _ _ _ [.blk b5 [.slice An (s.ns.length) (cn)] 24, .abs (RowA 3 1 (some ⟨b6, 0, none⟩) ls.length ls.length (idsL s.ids 0 ls.length)), .blk b4 [.slice none (0) (0)] 24, .abs R, .abs (RowA 32 10 An s.ns.length cn (nodesV L s.ns)), .abs (FamA (entF s.ns L) s.ns.length), .abs (FamA (datF s.ns L) s.ns.length)] _
   have hG := hG_lent18
   refine TriL.seg (k' := 3) (fr' := [(2, .pointer (some ⟨b4, 0, none⟩)), (3, .int .i64 151)]) (hps' := [.blk b5 [.slice An (s.ns.length) (cn)] 24, .abs (RowA 3 1 (some ⟨b6, 0, none⟩) ls.length ls.length (idsL s.ids 0 ls.length)), .blk b4 [.slice none (0) (0)] 24, .abs R, .abs (RowA 32 10 An s.ns.length cn (nodesV L s.ns)), .abs (FamA (entF s.ns L) s.ns.length), .abs (FamA (datF s.ns L) s.ns.length)]) (obl := [b4 = b4]) [o_, ⟨[.at 2], none, none, none, none⟩, o_] [2, 3] [0, 1, 2, 3, 4, 5, 6] (fun _ _ => by kernel_rfl) ⟨rfl, trivial⟩ ?_
   refine TriL.nil (by kernel_rfl) (TriQ.next (Tri.ret (TriQ.passRet ?_)))
   refine TriQ.mem (hps' := [.blk b5 [.slice An (s.ns.length) (cn)] 24, .abs (RowA 3 1 (some ⟨b6, 0, none⟩) ls.length ls.length (idsL s.ids 0 ls.length)), .blk b4 [.slice none (0) (0)] 24, .abs R, .abs (RowA 32 10 An s.ns.length cn (nodesV L s.ns)), .abs (FamA (entF s.ns L) s.ns.length), .abs (FamA (datF s.ns L) s.ns.length), .abs (RowA 32 10 none 0 0 ([])), .abs (FamA (entF [] layN) 0), .abs (FamA (datF [] layN) 0)]) (fun w hS => ((hS.rowNil (e := 32) (size := 10)).famNil (entF [] layN)).famNil (datF [] layN)) ?_
   exact TriQ.ret (v := .tuple #[.agg #[.slice none (0) (0)], .int .i64 151]) (l := [.abs (RowA 32 10 none 0 0 ([])), .abs (FamA (entF [] layN) 0), .abs (FamA (datF [] layN) 0)]) (obl := [b4 = b4]) [.at 2] [7, 8, 9, 3] (fun _ => by kernel_rfl) ⟨rfl, trivial⟩ rfl (by kernel_rfl) (⟨none, 0, layN, by rw [plantR_bad hfo (fun e => h167 (by rw [e]))]; rfl, by rw [plantR_bad hfo (fun e => h167 (by rw [e]))]; rfl⟩)
  ·
   refine TriL.segK (k' := 5) (fr' := [(2, .pointer (some ⟨b4, 0, none⟩)), (4, .pointer (some ⟨b5, 0, none⟩)), (167, .bool false), (168, .slice B ((treeG s.ns 1).1.length) (cB)), (169, .slice A (ls.length) (c))]) (obl := []) [o_, o_] [2, 4, 167, 168, 169] (fun _ _ => by kernel_rfl) trivial ?_
   refine TriL.call (f := 28) (args := #[.slice B ((treeG s.ns 1).1.length) (cB), .slice A (ls.length) (c)]) (d := (some 170)) (pre := []) (R := [.blk b5 [.slice An (s.ns.length) (cn)] 24, .abs (RowA 3 1 (some ⟨b6, 0, none⟩) ls.length ls.length (idsL s.ids 0 ls.length)), .blk b4 [.slice none (0) (0)] 24, .abs R]) (pk := [0, 1, 2, 3]) (fun _ => by kernel_rfl) (sp_sameLines B A cB c (treeG s.ns 1).1 ls MB M hT hG (treeG_small hgb).1 (treeG_small hgb).2) rfl (by kernel_rfl) ?_
   rintro _ _ ⟨rfl, rfl⟩
   refine TriL.segK (k' := 8) (fr' := [(2, .pointer (some ⟨b4, 0, none⟩)), (4, .pointer (some ⟨b5, 0, none⟩)), (172, .bool (!(decide ((treeG s.ns 1).1 = ls))))]) (obl := []) [o_, o_] [2, 4, 172] (fun _ _ => by kernel_rfl) trivial ?_
   refine TriL.nil (by kernel_rfl) (TriQ.next ?_)
   refine Tri.condN (p := (treeG s.ns 1).1 = ls) (fun _ => by kernel_rfl) (fun h172 => ?_) (fun h172 => ?_)
   ·
    refine Tri.seq (Tri.region ?_)
    refine TriL.back (hps := [.blk b5 [.slice An (s.ns.length) (cn)] 24, .abs (RowA 3 1 (some ⟨b6, 0, none⟩) ls.length ls.length (idsL s.ids 0 ls.length)), .blk b4 [.slice none (0) (0)] 24, .abs R]) lent18 hle0 ?_
    show TriL _ _ _ _ _ _ [.blk b5 [.slice An (s.ns.length) (cn)] 24, .abs (RowA 3 1 (some ⟨b6, 0, none⟩) ls.length ls.length (idsL s.ids 0 ls.length)), .blk b4 [.slice none (0) (0)] 24, .abs R, .abs (RowA 32 10 An s.ns.length cn (nodesV L s.ns)), .abs (FamA (entF s.ns L) s.ns.length), .abs (FamA (datF s.ns L) s.ns.length)] _
    have hG := hG_lent18
    refine TriL.seg (k' := 3) (fr' := [(2, .pointer (some ⟨b4, 0, none⟩)), (3, .int .i64 151)]) (hps' := [.blk b5 [.slice An (s.ns.length) (cn)] 24, .abs (RowA 3 1 (some ⟨b6, 0, none⟩) ls.length ls.length (idsL s.ids 0 ls.length)), .blk b4 [.slice none (0) (0)] 24, .abs R, .abs (RowA 32 10 An s.ns.length cn (nodesV L s.ns)), .abs (FamA (entF s.ns L) s.ns.length), .abs (FamA (datF s.ns L) s.ns.length)]) (obl := [b4 = b4]) [o_, ⟨[.at 2], none, none, none, none⟩, o_] [2, 3] [0, 1, 2, 3, 4, 5, 6] (fun _ _ => by kernel_rfl) ⟨rfl, trivial⟩ ?_
    refine TriL.nil (by kernel_rfl) (TriQ.next (Tri.ret (TriQ.passRet ?_)))
    refine TriQ.mem (hps' := [.blk b5 [.slice An (s.ns.length) (cn)] 24, .abs (RowA 3 1 (some ⟨b6, 0, none⟩) ls.length ls.length (idsL s.ids 0 ls.length)), .blk b4 [.slice none (0) (0)] 24, .abs R, .abs (RowA 32 10 An s.ns.length cn (nodesV L s.ns)), .abs (FamA (entF s.ns L) s.ns.length), .abs (FamA (datF s.ns L) s.ns.length), .abs (RowA 32 10 none 0 0 ([])), .abs (FamA (entF [] layN) 0), .abs (FamA (datF [] layN) 0)]) (fun w hS => ((hS.rowNil (e := 32) (size := 10)).famNil (entF [] layN)).famNil (datF [] layN)) ?_
    exact TriQ.ret (v := .tuple #[.agg #[.slice none (0) (0)], .int .i64 151]) (l := [.abs (RowA 32 10 none 0 0 ([])), .abs (FamA (entF [] layN) 0), .abs (FamA (datF [] layN) 0)]) (obl := [b4 = b4]) [.at 2] [7, 8, 9, 3] (fun _ => by kernel_rfl) ⟨rfl, trivial⟩ rfl (by kernel_rfl) (⟨none, 0, layN, by rw [plantR_bad hfo (fun e => h172 (by rw [e]))]; rfl, by rw [plantR_bad hfo (fun e => h172 (by rw [e]))]; rfl⟩)
   ·
    refine Tri.skip (TriQ.next (Tri.seq (Tri.region ?_)))
    refine TriL.back (hps := [.blk b5 [.slice An (s.ns.length) (cn)] 24, .abs (RowA 3 1 (some ⟨b6, 0, none⟩) ls.length ls.length (idsL s.ids 0 ls.length)), .blk b4 [.slice none (0) (0)] 24, .abs R]) lent18 hle0 ?_
    show TriL _ _ _ _ _ _ [.blk b5 [.slice An (s.ns.length) (cn)] 24, .abs (RowA 3 1 (some ⟨b6, 0, none⟩) ls.length ls.length (idsL s.ids 0 ls.length)), .blk b4 [.slice none (0) (0)] 24, .abs R, .abs (RowA 32 10 An s.ns.length cn (nodesV L s.ns)), .abs (FamA (entF s.ns L) s.ns.length), .abs (FamA (datF s.ns L) s.ns.length)] _
    have hG := hG_lent18
    refine TriL.seg (k' := 3) (fr' := [(2, .pointer (some ⟨b4, 0, none⟩)), (3, .int .i64 0)]) (hps' := [.blk b5 [.slice An (s.ns.length) (cn)] 24, .abs (RowA 3 1 (some ⟨b6, 0, none⟩) ls.length ls.length (idsL s.ids 0 ls.length)), .blk b4 [.slice An (s.ns.length) (cn)] 24, .abs R, .abs (RowA 32 10 An s.ns.length cn (nodesV L s.ns)), .abs (FamA (entF s.ns L) s.ns.length), .abs (FamA (datF s.ns L) s.ns.length)]) (obl := [b4 = b4, b5 = b5]) [⟨[.at 0], none, none, none, none⟩, ⟨[.at 2], none, none, none, none⟩, o_] [2, 3] [0, 1, 2, 3, 4, 5, 6] (fun _ _ => by kernel_rfl) ⟨rfl, rfl, trivial⟩ ?_
    refine TriL.nil (by kernel_rfl) (TriQ.next (Tri.ret ?_))
    exact TriQ.ret (v := .tuple #[.agg #[.slice An (s.ns.length) (cn)], .int .i64 0]) (l := [.abs (RowA 32 10 An s.ns.length cn (nodesV L s.ns)), .abs (FamA (entF s.ns L) s.ns.length), .abs (FamA (datF s.ns L) s.ns.length)]) (obl := [b4 = b4]) [.at 2] [4, 5, 6, 3] (fun _ => by kernel_rfl) ⟨rfl, trivial⟩ rfl (by kernel_rfl) (⟨An, cn, L, by rw [plantR_good hfo (Prod.ext h172 h167)], by rw [plantR_good hfo (Prod.ext h172 h167)]; rfl⟩)
end Go.Proofs.Ytjpdcppdoonmdaa
end
/- part GYa. PROVED HERE: small facts: a name of one letter is good; small numbers. CONDITIONS: none. -/
section
namespace Go.Proofs.Ytjpdcppdoonmdaa
open Go.RowKit
theorem i64_small {z : Int} (h : 0 ≤ z ∧ z ≤ 1000) : I64 z := by unfold I64; omega
theorem good_one {b : UInt8} (h0 : ¬ b = 0) (h1 : ¬ b = 47) (h2 : ¬ b = 46) : GoodName ⟨#[b]⟩ := by
  refine ⟨Nat.le_refl _, (by show 1 ≤ 255; decide), fun e => h2 ?_, fun e => ?_, fun j hj => ?_⟩
  · injection e with e
    have e : [b] = [46] := congrArg Array.toList e
    injection e
  · injection e with e
    have e : [b] = [46, 46] := congrArg Array.toList e
    injection e with _ e
    cases e
  · have : j = 0 := by have hj : j < 1 := hj; omega
    subst this
    show ¬ b.toNat = 0 ∧ ¬ b.toNat = 47
    exact ⟨fun e => h0 (UInt8.toNat_inj.1 e), fun e => h1 (UInt8.toNat_inj.1 e)⟩
theorem time_zero : TimeOk 0 0 := ⟨by decide, by decide, by decide, by decide, by decide⟩
end Go.Proofs.Ytjpdcppdoonmdaa
end
/- part GPb. PROVED HERE: bounds of what Plant builds; Plant's answers laid to the base; lines as the row hands them over; the two lines of the law's first look. CONDITIONS: none. -/
section
namespace Go.Proofs.Ytjpdcppdoonmdaa
open Go.RowKit Go.WideShapes Go.ChangeShapes Go.ChangeAt Go.Deep
structure LineB (l : LineM) (b : Nat) : Prop where
  ids : I64 l.kind ∧ I64 l.mode ∧ I64 l.uid ∧ I64 l.gid ∧ I64 l.sec ∧ I64 l.nano
  path : l.path.size + 1 ≤ b
  data : l.data.length + 1 ≤ b
  target : l.target.size + 1 ≤ b
  peer : l.peer.size + 1 ≤ b
structure LinesB (ls : List LineM) (b : Nat) : Prop where
  len : ls.length + 1 ≤ b
  line : ∀ i, i < ls.length → LineB (ln ls i) b
theorem LinesB.mono {ls : List LineM} {b c : Nat} (h : LinesB ls b) (hb : b ≤ c) : LinesB ls c := ⟨Nat.le_trans h.len hb, fun i hi => ⟨(h.line i hi).ids, Nat.le_trans (h.line i hi).path hb, Nat.le_trans (h.line i hi).data hb, Nat.le_trans (h.line i hi).target hb, Nat.le_trans (h.line i hi).peer hb⟩⟩
theorem LinesB.c {ls : List LineM} (h : LinesB ls 1048576) : LinesC ls := ⟨by have := h.len; omega, fun i hi => by have := (h.line i hi).path; omega, fun i hi => by have := (h.line i hi).peer; omega, fun i hi => by have := (h.line i hi).data; omega⟩
structure LineL where
  l : LineM
  dA : Option Addr
  dC : Nat
deriving Inhabited
def llV (a : LineL) : List Value := lineV a.dA a.dC a.l
structure LineQ (W : World) (a : LineL) (b : Nat) : Prop where
  nb : LineB a.l b
  data : BytesAt (B0 W) a.dA a.l.data
section open_
variable {H : Type} {enc : TypeId × Value → H} {W : World} {sp : Nat → Bool}
set_option maxRecDepth 100000 in
theorem open_line {n : Nat} {cs : List Value} {x : DataW H × List MemPlace} (h : DataW.trod enc Try.prog W 0 sp true n 51 cs = some x) : ∃ a : LineL, cs = llV a ∧ LineQ W a (Rows.uptoBulk x.1) := by
  obtain ⟨ys, m, _, hx, hl, hyl, hf⟩ := DataW.trod_struct Try.underlying51 h
  have hC : Try.prog.cellsOf 51 = 10 := by kernel_rfl
  rw [hC] at hl
  match cs, hl with
  | [c0, c1, c2, c3, c4, c5, c6, c7, c8, c9], _ =>
    obtain ⟨h0, b0⟩ := trod_field (hf 0 _ rfl) (by rw [hyl]; decide)
    obtain ⟨h1, _⟩ := trod_field (hf 1 _ rfl) (by rw [hyl]; decide)
    obtain ⟨h2, _⟩ := trod_field (hf 2 _ rfl) (by rw [hyl]; decide)
    obtain ⟨h3, _⟩ := trod_field (hf 3 _ rfl) (by rw [hyl]; decide)
    obtain ⟨h4, _⟩ := trod_field (hf 4 _ rfl) (by rw [hyl]; decide)
    obtain ⟨h5, _⟩ := trod_field (hf 5 _ rfl) (by rw [hyl]; decide)
    obtain ⟨h6, b6⟩ := trod_field (hf 6 _ rfl) (by rw [hyl]; decide)
    obtain ⟨h7, b7⟩ := trod_field (hf 7 _ rfl) (by rw [hyl]; decide)
    obtain ⟨h8, b8⟩ := trod_field (hf 8 _ rfl) (by rw [hyl]; decide)
    obtain ⟨s0, rfl, l0⟩ := open_str (c := c0) Try.underlying9 h0
    obtain ⟨z1, rfl, w1⟩ := open_i64 Try.underlying3 h1
    obtain ⟨z2, rfl, w2⟩ := open_i64 Try.underlying3 h2
    obtain ⟨z3, rfl, w3⟩ := open_i64 Try.underlying3 h3
    obtain ⟨z4, rfl, w4⟩ := open_i64 Try.underlying3 h4
    obtain ⟨us, _, _, _, _, hul, hu⟩ := DataW.trod_struct Try.underlying28 h5
    obtain ⟨g0, _⟩ := trod_field (hu 0 _ rfl) (by rw [hul]; decide)
    obtain ⟨g1, _⟩ := trod_field (hu 1 _ rfl) (by rw [hul]; decide)
    obtain ⟨z5, rfl, w5⟩ := open_i64 (c := c5) Try.underlying3 g0
    obtain ⟨z6, rfl, w6⟩ := open_i64 (c := c6) Try.underlying3 g1
    obtain ⟨A7, p7, d7, rfl, q7, l7⟩ := open_bytes (c := c7) h6
    obtain ⟨s8, rfl, l8⟩ := open_str (c := c8) Try.underlying9 h7
    obtain ⟨s9, rfl, l9⟩ := open_str (c := c9) Try.underlying9 h8
    rw [hx]
    exact ⟨⟨⟨s0, z1, z2, z3, z4, z5, z6, d7, s8, s9⟩, A7, p7⟩, rfl, ⟨⟨w1, w2, w3, w4, w5, w6⟩, Nat.le_trans l0 b0, Nat.le_trans l7 b6, Nat.le_trans l8 b7, Nat.le_trans l9 b8⟩, q7⟩
theorem lines_flat (M : LayL) : ∀ (xs : List LineL) (k : Nat), (∀ i, i < xs.length → M.dA (k + i) = (xs.getD i default).dA ∧ M.dC (k + i) = (xs.getD i default).dC) → flatF (fun _ a => llV a) k xs = flatF (fun i l => lineV (M.dA i) (M.dC i) l) k (xs.map (·.l))
  | [], _, _ => rfl
  | a :: r, k, h => by
    obtain ⟨h1, h2⟩ := h 0 (by simp)
    simp only [Nat.add_zero, List.getD_cons_zero] at h1 h2
    rw [flatF, List.map_cons, flatF, lines_flat M r (k + 1) (fun i hi => by
      have := h (i + 1) (by simp; omega)
      rw [List.getD_cons_succ] at this
      have e : k + (i + 1) = k + 1 + i := by omega
      rw [e] at this
      exact this), h1, h2]
    rfl
set_option maxRecDepth 100000 in
theorem open_lines {v : Value} {d : DataW H} {ps : List MemPlace} {r : Reach} {b0 : Nat} (hval : Value.okWide Try.prog W r b0 46 v) (h : DataW.Trod enc Try.prog W 0 sp true 46 v d ps) :
    ∃ A cp, ∃ ls : List LineM, ∃ M : LayL, v = .slice A ls.length cp ∧ LinesAt (B0 W) A ls M ∧ LinesB ls (Rows.uptoBulk d) := by
  obtain ⟨a, n, c, rfl⟩ := okWide_slice Try.underlying46 hval
  obtain ⟨fuel, h⟩ := h
  obtain ⟨A, cp, xs, D, h1, _, _, h2, h4, h3⟩ := open_row (α := LineL) (f := llV) (Q := fun a d => LineQ W a (Rows.uptoBulk d)) Try.underlying46 (size := 10) (by kernel_rfl) (by decide) (fun n cs x h => open_line h) (fun _ => rfl) h
  have h1 : [Value.slice a n c] = [Value.slice A xs.length cp] := h1
  cases h1
  have h5 := bulk_len ((List.range xs.length).map D)
  have e : (xs.map (·.l)).length = xs.length := by simp
  have hln : ∀ i, i < xs.length → ln (xs.map (·.l)) i = (xs.getD i default).l := fun i hi => by
    simp [ln, List.getD_eq_getElem?_getD, hi]
  have h3 : Rows.uptoBulkAll ((List.range xs.length).map D) + 1 ≤ Rows.uptoBulk d := h3
  refine ⟨_, _, xs.map (·.l), ⟨fun i => (xs.getD i default).dA, fun i => (xs.getD i default).dC⟩, by rw [e], ⟨?_, fun i hi => ?_⟩, by simp at h5; rw [e]; omega, fun i hi => ?_⟩
  · rw [lines_flat ⟨fun i => (xs.getD i default).dA, fun i => (xs.getD i default).dC⟩ xs 0 (fun i _ => by rw [Nat.zero_add]; exact ⟨rfl, rfl⟩)] at h2
    exact h2
  · rw [e] at hi
    rw [hln i hi]
    exact (h4 i hi).data
  · rw [e] at hi
    rw [hln i hi]
    have h7 := bulk_get (D := D) hi
    have h8 := (h4 i hi).nb
    exact ⟨h8.ids, by have := h8.path; omega, by have := h8.data; omega, by have := h8.target; omega, by have := h8.peer; omega⟩
end open_
/-! ### bounds of what is built -/
structure NsB (ns : List NodeM) (i b : Nat) : Prop where
  ids : ∀ k, k < ns.length → I64 (nd ns k).id ∧ I64 (nd ns k).kind ∧ I64 (nd ns k).mode ∧ I64 (nd ns k).uid ∧ I64 (nd ns k).gid ∧ I64 (nd ns k).sec ∧ I64 (nd ns k).nano
  data : ∀ k, k < ns.length → (nd ns k).data.length + 1 ≤ b ∧ (nd ns k).target.size + 1 ≤ b
  ents : ∀ k, k < ns.length → (nd ns k).ents.length ≤ i
  ent : ∀ k, k < ns.length → ∀ j, j < (nd ns k).ents.length → EntB (en (nd ns k).ents j) b
theorem NsB.nil {i b : Nat} : NsB [] i b := ⟨fun _ h => absurd h (Nat.not_lt_zero _), fun _ h => absurd h (Nat.not_lt_zero _), fun _ h => absurd h (Nat.not_lt_zero _), fun _ h => absurd h (Nat.not_lt_zero _)⟩
section nsb
variable {ns : List NodeM} {i b : Nat}
theorem last_or {n : NodeM} {k : Nat} (hk : k < (ns ++ [n]).length) : (k < ns.length ∧ nd (ns ++ [n]) k = nd ns k) ∨ (nd (ns ++ [n]) k = n) := by
  by_cases e : k < ns.length
  · exact .inl ⟨e, nd_snoc e⟩
  · have : k = ns.length := by simp at hk; omega
    subst this; exact .inr nd_last
theorem NsB.up (h : NsB ns i b) : NsB ns (i + 1) b := ⟨h.ids, h.data, fun k hk => Nat.le_succ_of_le (h.ents k hk), h.ent⟩
theorem NsB.more (h : NsB ns i b) {l : LineM} (hl : LineB l b) (hn : ns.length ≤ 1048576) : NsB (ns ++ [lineNode l ns.length]) i b := by
  refine ⟨fun k hk => ?_, fun k hk => ?_, fun k hk => ?_, fun k hk => ?_⟩
  · rcases last_or hk with ⟨h1, h2⟩ | h2
    · rw [h2]; exact h.ids k h1
    · rw [h2]; exact ⟨by show I64 ((ns.length + 1 : Nat) : Int); unfold I64; omega, hl.ids⟩
  · rcases last_or hk with ⟨h1, h2⟩ | h2
    · rw [h2]; exact h.data k h1
    · rw [h2]; exact ⟨hl.data, hl.target⟩
  · rcases last_or hk with ⟨h1, h2⟩ | h2
    · rw [h2]; exact h.ents k h1
    · rw [h2]; exact Nat.zero_le _
  · rcases last_or hk with ⟨h1, h2⟩ | h2
    · rw [h2]; exact h.ent k h1
    · rw [h2]; exact fun j hj => absurd hj (Nat.not_lt_zero _)
theorem en_snoc {es : List EntM} {e : EntM} {j : Nat} (hj : j < (es ++ [e]).length) : (j < es.length ∧ en (es ++ [e]) j = en es j) ∨ en (es ++ [e]) j = e := by
  unfold en
  rw [List.getD_eq_getElem?_getD, List.getD_eq_getElem?_getD]
  by_cases h : j < es.length
  · rw [List.getElem?_append_left h]; exact .inl ⟨h, rfl⟩
  · have : j = es.length := by simp at hj; omega
    subst this; rw [List.getElem?_append_right (Nat.le_refl _)]; right; simp
theorem NsB.ent' (h : NsB ns i b) {k : Nat} {e : EntM} (hk : k < ns.length) (he : EntB e b) : NsB (addEnt ns k e) (i + 1) b := by
  refine ⟨fun j hj => ?_, fun j hj => ?_, fun j hj => ?_, fun j hj => ?_⟩ <;> rw [addEnt_len] at hj <;> rw [nd_addEnt hk] <;> split
  · exact h.ids k hk
  · exact h.ids j hj
  · exact h.data k hk
  · exact h.data j hj
  · simp only [List.length_append, List.length_singleton]; have := h.ents k hk; omega
  · have := h.ents j hj; omega
  · intro t ht
    rcases en_snoc ht with ⟨h1, h2⟩ | h2
    · show EntB (en ((nd ns k).ents ++ [e]) t) b
      rw [h2]; exact h.ent k hk t h1
    · show EntB (en ((nd ns k).ents ++ [e]) t) b
      rw [h2]; exact he
  · exact h.ent j hj
end nsb
theorem nameOf_le (p : ByteArray) : (nameOf p).size ≤ p.size := by
  unfold nameOf
  split
  · rw [ByteArray.size_extract]; omega
  · exact Nat.le_refl _
section folds
variable {ls : List LineM}
theorem NsB.newNs {s : PS} {i : Nat} (hB : LinesB ls 1048576) (hi : i < ls.length) (h : PInv ls s i) (hN : NsB s.ns i 1048576) : NsB (newNs ls s i) i 1048576 := by
  have h1 := h.nsl
  have h2 := hB.len
  unfold Go.Proofs.Ytjpdcppdoonmdaa.newNs
  split
  · exact hN.more (hB.line i hi) (by omega)
  · exact hN
theorem entB_new {s : PS} {i : Nat} (hB : LinesB ls 1048576) (hi : i < ls.length) (h : PInv ls s i) : EntB ⟨nameOf (ln ls i).path, ((newId ls s i : Nat) : Int)⟩ 1048576 := by
  have h1 := h.nsl
  have h2 := hB.len
  have h3 := newId_le h
  have h4 := newNs_le (ls := ls) (s := s) (i := i)
  have h5 := nameOf_le (ln ls i).path
  have h6 := (hB.line i hi).path
  exact ⟨by show I64 ((newId ls s i : Nat) : Int); unfold I64; omega, by show (nameOf (ln ls i).path).size + 1 ≤ _; omega⟩
theorem foldP_B (hB : LinesB ls 1048576) : ∀ {i : Nat} {s : PS}, i ≤ ls.length → foldS stepP ls i = some s → NsB s.ns i 1048576
  | 0, s, _, h => by cases h; exact NsB.nil
  | i + 1, s, hi, h => by
    rw [foldS] at h
    cases h1 : foldS stepP ls i with
    | none => rw [h1] at h; cases h
    | some s1 =>
      rw [h1] at h
      have hv := fold_inv h1
      have ih := (foldP_B hB (by omega) h1).newNs hB (by omega) hv
      have h5 := newNs_ge (ls := ls) (s := s1) (i := i)
      have h : stepP ls s1 i = some s := h
      unfold stepP at h
      split at h
      · cases h
      · split at h
        · cases h; exact ih.up
        · split at h
          · cases h
          · cases h; have h4 := parP_le hv (by omega); exact ih.ent' (by omega) (entB_new hB (by omega) hv)
theorem foldR_B (hB : LinesB ls 1048576) : ∀ {i : Nat} {s : PS}, i ≤ ls.length → foldS stepR ls i = some s → PInv ls s i ∧ NsB s.ns i 1048576
  | 0, s, _, h => by cases h; exact ⟨PInv.zero ls, NsB.nil⟩
  | i + 1, s, hi, h => by
    rw [foldS] at h
    cases h1 : foldS stepR ls i with
    | none => rw [h1] at h; cases h
    | some s1 =>
      rw [h1] at h
      obtain ⟨hv, h2⟩ := foldR_B hB (by omega) h1
      have ih := h2.newNs hB (by omega) hv
      have h5 := newNs_ge (ls := ls) (s := s1) (i := i)
      have h : stepR ls s1 i = some s := h
      refine ⟨stepR_inv hv h, ?_⟩
      unfold stepR at h
      split at h
      · cases h
      · split at h
        · cases h; exact ih.up
        · split at h
          · cases h
          · cases h; have h4 := (parR_lt hv (by omega)).1; exact ih.ent' (by omega) (entB_new hB (by omega) hv)
theorem NsB.graph {ns : List NodeM} {i : Nat} (h : NsB ns i 1048576) (hl : ns.length ≤ i) (hi : i + 1 ≤ 1048576) : GraphB ns 1048576 :=
  ⟨by omega, fun k hk => ⟨h.ids k hk, (h.data k hk).1, (h.data k hk).2, by have := h.ents k hk; omega, h.ent k hk⟩⟩
theorem LinesB.p (hB : LinesB ls 1048576) : PlantB ls := fun _ h => (foldP_B hB (Nat.le_refl _) h).graph (fold_inv h).nsl hB.len
theorem LinesB.r (hB : LinesB ls 1048576) : PlantBR ls := fun _ h => let ⟨h1, h2⟩ := foldR_B hB (Nat.le_refl _) h; h2.graph h1.nsl hB.len
theorem graphB_nil : GraphB [] 1048576 := ⟨by decide, fun _ h => absurd h (Nat.not_lt_zero _)⟩
theorem plantG_B (h : PlantB ls) : GraphB (plantG ls).1 1048576 := by
  cases h1 : foldS stepP ls ls.length with
  | none => rw [plantG_none h1]; exact graphB_nil
  | some s =>
    by_cases h2 : treeG s.ns 1 = (ls, 0)
    · rw [plantG_good h1 h2]; exact h s h1
    · rw [plantG_bad h1 h2]; exact graphB_nil
end folds
theorem sp_plantB {β : Bs} (A : Option Addr) (c : Nat) (ls : List LineM) (M : LayL) (hG : LinesAt β A ls M) (hC : LinesC ls) (hPB : PlantB ls) :
    SpecB Try.prog β 30 #[.slice A ls.length c] [] (fun β' v l => ∃ B cp L, v = .tuple #[.agg #[.slice B (plantG ls).1.length cp], .int .i64 (plantG ls).2] ∧ l = [] ∧ GraphAt β' B (plantG ls).1 L) :=
  ((sp_plant A c ls M hG hC hPB).base (Φ := fun β' v => ∃ B cp L, v = .tuple #[.agg #[.slice B (plantG ls).1.length cp], .int .i64 (plantG ls).2] ∧ GraphAt β' B (plantG ls).1 L)
    (fun _ _ ⟨B, cp, L, h1, h2⟩ _ hL => ⟨B, cp, L, h1, (h2 ▸ hL).graph⟩)).mono fun _ _ _ _ ⟨h1, B, cp, L, h2, h3⟩ => ⟨B, cp, L, h2, h1, h3⟩
theorem sp_refPlantB {β : Bs} (A : Option Addr) (c : Nat) (ls : List LineM) (M : LayL) (hG : LinesAt β A ls M) (hC : LinesC ls) (hPB : PlantBR ls) :
    SpecB Try.prog β 32 #[.slice A ls.length c] [] (fun β' v l => ∃ B cp L, v = .tuple #[.agg #[.slice B (plantG ls).1.length cp], .int .i64 (plantG ls).2] ∧ l = [] ∧ GraphAt β' B (plantG ls).1 L) := by
  have h := sp_refPlant A c ls M hG hC hPB
  rw [plant_eq] at h
  exact (h.base (Φ := fun β' v => ∃ B cp L, v = .tuple #[.agg #[.slice B (plantG ls).1.length cp], .int .i64 (plantG ls).2] ∧ GraphAt β' B (plantG ls).1 L)
    (fun _ _ ⟨B, cp, L, h1, h2⟩ _ hL => ⟨B, cp, L, h1, (h2 ▸ hL).graph⟩)).mono fun _ _ _ _ ⟨h1, B, cp, L, h2, h3⟩ => ⟨B, cp, L, h2, h1, h3⟩
/-! ### two lines -/
def two1 : LineM := ⟨⟨#[46]⟩, 2, 0, 0, 0, 0, 0, [], ⟨#[]⟩, ⟨#[]⟩⟩
def two2 : LineM := ⟨⟨#[97]⟩, 1, 0, 0, 0, 0, 0, [], ⟨#[]⟩, ⟨#[]⟩⟩
def twoL : List LineM := [two1, two2]
def twoN1 : NodeM := ⟨1, 2, 0, 0, 0, 0, 0, [], ⟨#[]⟩, [⟨⟨#[97]⟩, 2⟩]⟩
def twoN2 : NodeM := ⟨2, 1, 0, 0, 0, 0, 0, [], ⟨#[]⟩, []⟩
def twoN : List NodeM := [twoN1, twoN2]
theorem twoC {i : Nat} (h : i < twoN.length) : i = 0 ∨ i = 1 := by
  have h : i < 2 := h
  omega
theorem two_ok : GraphOk twoN := by
  refine ⟨by decide, fun i hi => ?_, fun i hi => ?_, fun i j hij hj => ?_, by decide, fun i hi j hj => ?_, by decide, fun z => ?_⟩
  · rcases twoC hi with rfl | rfl
    · exact ⟨by decide, by decide, by decide, by decide, time_zero, fun _ => rfl, fun h => absurd rfl h, .inl ⟨by decide, rfl⟩⟩
    · exact ⟨by decide, by decide, by decide, by decide, time_zero, fun h => absurd rfl h, fun _ => rfl, .inl ⟨by decide, rfl⟩⟩
  · rcases twoC hi with rfl | rfl <;> exact ⟨by decide, by decide⟩
  · rcases twoC hj with rfl | rfl
    · omega
    · have : i = 0 := by omega
      subst this; decide
  · rcases twoC hi with rfl | rfl
    · have hj : j < 1 := hj
      have : j = 0 := by omega
      subst this
      exact ⟨by decide, good_one (by decide) (by decide) (by decide), not_strLe.2 (by decide)⟩
    · exact absurd hj (Nat.not_lt_zero j)
  · have e : (allE twoN twoN.length).map (idP twoN) = [] := by decide
    rw [e]
    exact ⟨0, rfl⟩
theorem two_fold : foldS stepP twoL 2 = some ⟨twoN, [1, 2]⟩ := by
  have h0 : foldS stepP twoL 1 = some ⟨[⟨1, 2, 0, 0, 0, 0, 0, [], ⟨#[]⟩, []⟩], [1]⟩ := by
    rw [foldS]
    show stepP twoL PS0 0 = _
    exact stepP_first (ls := twoL) (s := PS0) (i := 0) rfl (by decide) rfl
  rw [foldS, h0]
  show stepP twoL ⟨[⟨1, 2, 0, 0, 0, 0, 0, [], ⟨#[]⟩, []⟩], [1]⟩ 1 = _
  have hc : cutAt (ln twoL 1).path = -1 := by
    rcases cutAt_spec (ln twoL 1).path with ⟨h, _⟩ | ⟨i, h1, _, h3, _⟩
    · exact h
    · have : i = 0 := by have h1 : i < 1 := h1; omega
      subst this
      exact absurd h3 (by decide)
  have hp : parP twoL ⟨[⟨1, 2, 0, 0, 0, 0, 0, [], ⟨#[]⟩, []⟩], [1]⟩ 1 = 1 := by
    unfold parP; rw [hc]; rfl
  have hn : nameOf (ln twoL 1).path = ⟨#[97]⟩ := by
    unfold nameOf; rw [hc]; rfl
  rw [stepP_more (by decide) (by decide) (by decide) (by rw [hp]; decide), hp, hn]
  rfl
theorem two_tree : treeG twoN 1 = (twoL, 0) := by
  have hb : beginC twoN 1 = 0 := beginC_ok two_ok (by decide) (by decide)
  have h0 : tgt twoN 1 = 0 := by decide
  have h1 : tgt twoN 2 = 1 := by decide
  have h2 : addF twoN 4194305 (tgt twoN 1) ⟨#[46]⟩ TS0 = some (push twoN 1 ⟨#[97]⟩ (push twoN 0 ⟨#[46]⟩ TS0)) := by
    rw [h0, addF, if_neg (by decide)]
    show foldE _ ([⟨⟨#[97]⟩, 2⟩] : List EntM) _ = _
    rw [foldE]
    show (addF twoN 4194304 (tgt twoN 2) ⟨#[97]⟩ (push twoN 0 ⟨#[46]⟩ TS0)).bind _ = _
    rw [h1, addF, if_neg (by decide)]
    rfl
  rw [treeG_some hb h2, push_out, push_out]
  rfl
theorem two_plant : plantG twoL = (twoN, 0) := plantG_good (s := ⟨twoN, [1, 2]⟩) two_fold two_tree
theorem two_bound : LinesB twoL 1048576 := ⟨by decide, fun i hi => by
  have h : i = 0 ∨ i = 1 := by have h : i < 2 := hi; omega
  rcases h with rfl | rfl <;> exact ⟨⟨i64_small (by decide), i64_small (by decide), i64_small (by decide), i64_small (by decide), i64_small (by decide), i64_small (by decide)⟩, by decide, by decide, by decide, by decide⟩⟩
theorem two_at {β : Bs} {A : Option Addr} (h : RowB β A (linesV ⟨fun _ => none, fun _ => 0⟩ twoL)) : LinesAt β A twoL ⟨fun _ => none, fun _ => 0⟩ := ⟨h, fun i hi => by
  have h : i = 0 ∨ i = 1 := by have h : i < 2 := hi; omega
  rcases h with rfl | rfl <;> exact RowB.nil⟩
end Go.Proofs.Ytjpdcppdoonmdaa
end
/- part LawH. PROVED HERE: the law GraphPlants CONDITIONS: as the theorems say. Printed by a program of this repo (wip/v). -/
section
namespace Go.Proofs.Ytjpdcppdoonmdaa
open Go.RowKit
attribute [local irreducible] TriL TriLQ Tri TriQ
set_option maxRecDepth 100000 in
set_option maxHeartbeats 4000000 in
theorem law_plants (W : World) (A : Option Addr) (c : Nat) (ls : List LineM) (M : LayL) (hG : LinesAt (B0 W) A ls M) (hB : LinesB ls 1048576) :
    Spec Try.prog (B0 W) 8 #[.slice A (ls.length) (c)] [] (fun v _ => v = .bool true) := by
 have hle0 := B0.refl W
 refine Spec.enter Try.func8 rfl Try.ntmps8 (Nat.le_of_ble_eq_true rfl) (fun R => ?_)
 refine Tri.seq (Tri.region ?_)
 refine TriL.segK (k' := 1) (fr' := [(0, .slice A (ls.length) (c))]) (obl := []) [o_] [0] (fun _ _ => by kernel_rfl) trivial ?_
 refine TriL.nil (by kernel_rfl) (TriQ.next (Tri.seq (Tri.region ?_)))
 refine TriL.segN (k' := 3) (fr' := fun b1 => [(0, .slice A (ls.length) (c)), (11, .slice (some ⟨b1, 0, none⟩) (2) (2))]) (hps' := fun b1 => [.abs R, .blk b1 [.string ⟨#[46]⟩, .int .i64 2, .int .i64 0, .int .i64 0, .int .i64 0, .int .i64 0, .int .i64 0, .slice none (0) (0), .string ⟨#[]⟩, .string ⟨#[]⟩, .string ⟨#[97]⟩, .int .i64 1, .int .i64 0, .int .i64 0, .int .i64 0, .int .i64 0, .int .i64 0, .slice none (0) (0), .string ⟨#[]⟩, .string ⟨#[]⟩] 51]) (obl := fun b1 => []) [o_, o_, o_] [0, 11] [0, 1] (fun _ _ => by kernel_rfl) (fun b1 => trivial) (fun b1 => ?_)
 refine TriL.mem (fun w hS => hS.toRow (i := 1) (b := b1) (cs := [.string ⟨#[46]⟩, .int .i64 2, .int .i64 0, .int .i64 0, .int .i64 0, .int .i64 0, .int .i64 0, .slice none (0) (0), .string ⟨#[]⟩, .string ⟨#[]⟩, .string ⟨#[97]⟩, .int .i64 1, .int .i64 0, .int .i64 0, .int .i64 0, .int .i64 0, .int .i64 0, .slice none (0) (0), .string ⟨#[]⟩, .string ⟨#[]⟩]) (e := 51) 10 2 (by kernel_rfl) rfl (by decide)) ?_
 refine TriL.rebase (Φ := fun β' => LinesAt β' (some ⟨b1, 0, none⟩) twoL ⟨fun _ => none, fun _ => 0⟩) 1 [0] (hps' := [.abs R]) rfl rfl (by kernel_rfl) (fun F w h β' h1 h2 => two_at (RowB.of_row h h1 h2)) (fun β6 hle_β6 hZ => ?_)
 replace hG := hG.le hle_β6
 replace hle0 := hle0.trans hle_β6
 have hpz := sp_plantB (some ⟨b1, 0, none⟩) 2 twoL ⟨fun _ => none, fun _ => 0⟩ hZ two_bound.c two_bound.p
 rw [two_plant] at hpz
 refine TriL.callB (f := 30) (args := #[.slice (some ⟨b1, 0, none⟩) (2) (2)]) (d := (some 12)) (pre := []) (R := [.abs R]) (pk := [0]) (fun _ => by kernel_rfl) (hpz) rfl (by kernel_rfl) ?_
 rintro β7 _ _ hle_β7 ⟨B2, c3, L4, rfl, rfl, hP5⟩
 replace hG := hG.le hle_β7
 replace hZ := hZ.le hle_β7
 replace hle0 := hle0.trans hle_β7
 have htn : 0 < twoN.length := by decide
 refine TriL.segN (k' := 10) (fr' := fun b8 => [(0, .slice A (ls.length) (c)), (3, .pointer (some ⟨b8, 0, none⟩)), (4, .int .i64 0)]) (hps' := fun b8 => [.abs R, .blk b8 [.slice B2 (2) (c3)] 24]) (obl := fun b8 => [b8 = b8]) [o_, o_, o_, o_, ⟨[.at 1], none, none, none, none⟩, o_] [0, 3, 4] [0, 1] (fun _ _ => by kernel_rfl) (fun b8 => ⟨rfl, trivial⟩) (fun b8 => ?_)
 refine TriL.nil (by kernel_rfl) (TriQ.next (Tri.seq (Tri.seq (Tri.region ?_))))
 refine TriL.segK (k' := 17) (fr' := [(0, .slice A (ls.length) (c)), (3, .pointer (some ⟨b8, 0, none⟩)), (31, .bool false)]) (obl := [((.int .i64 ↑((nd twoN 0).ents.length) : Value)) = (.int .i64 1), (Rd β7 ⟨(blkOf B2), offOf B2 + 0 * 10 + 9, none⟩ (.slice (L4.eA 0) ((nd twoN 0).ents.length) ((L4.eC 0)))), 0 = ((0 : Nat) : Int), 0 < 2, (⟨(blkOf B2), offOf B2, none⟩ : Addr).spot = none, (B2 : Option Addr) = some ⟨(blkOf B2), offOf B2, none⟩, b8 = b8, ((.int .i64 (((2 : Nat) : Int)) : Value)) = (.int .i64 2), b8 = b8]) [o_, o_, o_, o_, ⟨[.at 1], none, none, none, none⟩, ⟨[], none, none, none, some (.int .i64 2)⟩, o_, o_, o_, o_, ⟨[.at 1], none, none, none, none⟩, ⟨[], some 0, none, some ⟨(blkOf B2), offOf B2, none⟩, none⟩, o_, ⟨[.old (.slice (L4.eA 0) ((nd twoN 0).ents.length) ((L4.eC 0)))], none, none, none, none⟩, ⟨[], none, none, none, some (.int .i64 1)⟩, o_, o_] [0, 3, 31] (fun _ _ => by kernel_rfl) ⟨rfl, GraphAt.rd hP5 (i := 0) (by omega) (j := 9) rfl, rfl, by decide, rfl, GraphAt.hd hP5 (i := 0) (by omega), rfl, rfl, rfl, trivial⟩ ?_
 refine TriL.nil (by kernel_rfl) (TriQ.next ?_)
 refine Tri.condF (fun _ => by kernel_rfl) ?_
 refine Tri.skip (TriQ.next (Tri.seq (Tri.region ?_)))
 refine TriL.segK (k' := 1) (fr' := [(0, .slice A (ls.length) (c)), (3, .pointer (some ⟨b8, 0, none⟩)), (32, .slice A (ls.length) (c))]) (obl := []) [o_] [0, 3, 32] (fun _ _ => by kernel_rfl) trivial ?_
 refine TriL.callB (f := 31) (args := #[.slice A (ls.length) (c)]) (d := (some 33)) (pre := []) (R := [.abs R, .blk b8 [.slice B2 (2) (c3)] 24]) (pk := [0, 1]) (fun _ => by kernel_rfl) (sp_copyLines A c ls M hG (by have := hB.len; omega) (fun i hi => hB.c.data i hi)) rfl (by kernel_rfl) ?_
 rintro β13 _ _ hle_β13 ⟨B9, c10, M11, rfl, rfl, hO12⟩
 replace hG := hG.le hle_β13
 replace hZ := hZ.le hle_β13
 replace hP5 := hP5.le hle_β13
 replace hle0 := hle0.trans hle_β13
 refine TriL.segK (k' := 3) (fr' := [(0, .slice A (ls.length) (c)), (3, .pointer (some ⟨b8, 0, none⟩)), (5, .slice B9 (ls.length) (c10))]) (obl := []) [o_] [0, 3, 5] (fun _ _ => by kernel_rfl) trivial ?_
 refine TriL.nil (by kernel_rfl) (TriQ.next (Tri.seq (Tri.region ?_)))
 refine TriL.segK (k' := 1) (fr' := [(0, .slice A (ls.length) (c)), (3, .pointer (some ⟨b8, 0, none⟩)), (5, .slice B9 (ls.length) (c10)), (35, .slice B9 (ls.length) (c10))]) (obl := []) [o_] [0, 3, 5, 35] (fun _ _ => by kernel_rfl) trivial ?_
 refine TriL.callB (f := 30) (args := #[.slice B9 (ls.length) (c10)]) (d := (some 36)) (pre := []) (R := [.abs R, .blk b8 [.slice B2 (2) (c3)] 24]) (pk := [0, 1]) (fun _ => by kernel_rfl) (sp_plantB B9 c10 ls M11 hO12 hB.c hB.p) rfl (by kernel_rfl) ?_
 rintro β18 _ _ hle_β18 ⟨B14, c15, L16, rfl, rfl, hP17⟩
 replace hG := hG.le hle_β18
 replace hZ := hZ.le hle_β18
 replace hP5 := hP5.le hle_β18
 replace hO12 := hO12.le hle_β18
 replace hle0 := hle0.trans hle_β18
 refine TriL.seg (k' := 7) (fr' := [(0, .slice A (ls.length) (c)), (3, .pointer (some ⟨b8, 0, none⟩)), (4, .int .i64 ((plantG ls).2)), (5, .slice B9 (ls.length) (c10))]) (hps' := [.abs R, .blk b8 [.slice B14 ((plantG ls).1.length) (c15)] 24]) (obl := [b8 = b8]) [o_, o_, o_, ⟨[.at 1], none, none, none, none⟩, o_] [0, 3, 4, 5] [0, 1] (fun _ _ => by kernel_rfl) ⟨rfl, trivial⟩ ?_
 refine TriL.nil (by kernel_rfl) (TriQ.next (Tri.seq (Tri.region ?_)))
 refine TriL.segK (k' := 1) (fr' := [(0, .slice A (ls.length) (c)), (3, .pointer (some ⟨b8, 0, none⟩)), (4, .int .i64 ((plantG ls).2)), (5, .slice B9 (ls.length) (c10)), (40, .slice A (ls.length) (c))]) (obl := []) [o_] [0, 3, 4, 5, 40] (fun _ _ => by kernel_rfl) trivial ?_
 refine TriL.callB (f := 32) (args := #[.slice A (ls.length) (c)]) (d := (some 41)) (pre := []) (R := [.abs R, .blk b8 [.slice B14 ((plantG ls).1.length) (c15)] 24]) (pk := [0, 1]) (fun _ => by kernel_rfl) (sp_refPlantB A c ls M hG hB.c hB.r) rfl (by kernel_rfl) ?_
 rintro β23 _ _ hle_β23 ⟨B19, c20, L21, rfl, rfl, hP22⟩
 replace hG := hG.le hle_β23
 replace hZ := hZ.le hle_β23
 replace hP5 := hP5.le hle_β23
 replace hO12 := hO12.le hle_β23
 replace hP17 := hP17.le hle_β23
 replace hle0 := hle0.trans hle_β23
 refine TriL.segN (k' := 8) (fr' := fun b24 => [(0, .slice A (ls.length) (c)), (3, .pointer (some ⟨b8, 0, none⟩)), (4, .int .i64 ((plantG ls).2)), (5, .slice B9 (ls.length) (c10)), (6, .pointer (some ⟨b24, 0, none⟩)), (7, .int .i64 ((plantG ls).2))]) (hps' := fun b24 => [.abs R, .blk b8 [.slice B14 ((plantG ls).1.length) (c15)] 24, .blk b24 [.slice B19 ((plantG ls).1.length) (c20)] 24]) (obl := fun b24 => [b24 = b24]) [o_, o_, o_, o_, ⟨[.at 2], none, none, none, none⟩, o_] [0, 3, 4, 5, 6, 7] [0, 1, 2] (fun _ _ => by kernel_rfl) (fun b24 => ⟨rfl, trivial⟩) (fun b24 => ?_)
 refine TriL.nil (by kernel_rfl) (TriQ.next (Tri.seq (Tri.region ?_)))
 refine TriL.segK (k' := 2) (fr' := [(0, .slice A (ls.length) (c)), (4, .int .i64 ((plantG ls).2)), (5, .slice B9 (ls.length) (c10)), (7, .int .i64 ((plantG ls).2)), (44, .agg #[.slice B14 ((plantG ls).1.length) (c15)]), (45, .agg #[.slice B19 ((plantG ls).1.length) (c20)])]) (obl := [b24 = b24, b8 = b8]) [⟨[.at 1], none, none, none, none⟩, ⟨[.at 2], none, none, none, none⟩] [0, 4, 5, 7, 44, 45] (fun _ _ => by kernel_rfl) ⟨rfl, rfl, trivial⟩ ?_
 refine TriL.call (f := 17) (args := #[.agg #[.slice B14 ((plantG ls).1.length) (c15)], .agg #[.slice B19 ((plantG ls).1.length) (c20)]]) (d := (some 46)) (pre := []) (R := [.abs R, .blk b8 [.slice B14 ((plantG ls).1.length) (c15)] 24, .blk b24 [.slice B19 ((plantG ls).1.length) (c20)] 24]) (pk := [0, 1, 2]) (fun _ => by kernel_rfl) ((sp_sameGraph B14 B19 c15 c20 (plantG ls).1 (plantG ls).1 L16 L21 hP17 hP22 (plantG_B hB.p).hl (plantG_B hB.p).hd).val (congrArg Value.bool (decide_eq_true rfl))) rfl (by kernel_rfl) ?_
 rintro _ _ ⟨rfl, rfl⟩
 refine TriL.segK (k' := 11) (fr' := [(52, .bool true), (53, .slice B9 (ls.length) (c10)), (54, .slice A (ls.length) (c))]) (obl := [(Value.bool (decide (((plantG ls).2 : Int) = ((plantG ls).2 : Int)))) = (.bool true)]) [o_, o_, o_, ⟨[], none, none, none, some (.bool true)⟩, o_, o_, o_, o_] [52, 53, 54] (fun _ _ => by kernel_rfl) ⟨by simp, trivial⟩ ?_
 refine TriL.call (f := 28) (args := #[.slice B9 (ls.length) (c10), .slice A (ls.length) (c)]) (d := (some 55)) (pre := []) (R := [.abs R, .blk b8 [.slice B14 ((plantG ls).1.length) (c15)] 24, .blk b24 [.slice B19 ((plantG ls).1.length) (c20)] 24]) (pk := [0, 1, 2]) (fun _ => by kernel_rfl) ((sp_sameLines B9 A c10 c ls ls M11 M hO12 hG (by have := hB.len; omega) (fun i hi => hB.c.data i hi)).val (congrArg Value.bool (decide_eq_true rfl))) rfl (by kernel_rfl) ?_
 rintro _ _ ⟨rfl, rfl⟩
 refine TriL.segK (k' := 14) (fr' := [(2, .bool true)]) (obl := []) [o_, o_] [2] (fun _ _ => by kernel_rfl) trivial ?_
 refine TriL.nil (by kernel_rfl) (TriQ.next (Tri.ret ?_))
 exact TriQ.retU (v := .bool true) (l := []) (obl := []) [] [0] hle0 (fun _ => by kernel_rfl) trivial rfl (by kernel_rfl) (rfl)
end Go.Proofs.Ytjpdcppdoonmdaa
end
