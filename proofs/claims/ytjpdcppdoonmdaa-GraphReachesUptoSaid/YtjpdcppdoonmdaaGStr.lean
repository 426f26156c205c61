/-
  PROVED HERE: what the two bytes of a path are looked for in a name by
  CONDITIONS: as the theorems say. Printed by a program of this repo (wip/v).
-/
import Derived.Test.YtjpdcppdoonmdaaGS
namespace Go.Proofs.Ytjpdcppdoonmdaa
open Go.RowKit
attribute [local irreducible] TriL TriLQ Tri TriQ
set_option maxRecDepth 100000 in
set_option maxHeartbeats 4000000 in
theorem sp_indexRune_high {β : Bs} (c : Nat) (h128 : 128 ≤ c) (hv : c < 55296 ∨ (57343 < c ∧ c ≤ 1114111)) :
    Spec Try.prog β 99 #[.string cut2, .int .i32 ((c : Nat) : Int)] [] (fun v l => v = .int .i64 (-1) ∧ l = []) := by
  have he := enc_last h128 hv
  refine Spec.enter Try.func99 rfl Try.ntmps99 (Nat.le_of_ble_eq_true rfl) (fun R => ?_)
  refine Tri.seq ?_
  refine Tri.region ?_
  refine TriL.segK (k' := 1) (fr' := [(0, .string cut2), (1, .int .i32 (((c : Nat) : Int)))]) (obl := []) [o_] [0, 1] (fun _ _ => by kernel_rfl) trivial ?_
  refine TriL.nil (by kernel_rfl) ?_
  refine TriQ.next ?_
  refine Tri.block ?_
  refine Tri.seq ?_
  refine Tri.region ?_
  refine TriL.segK (k' := 3) (fr' := [(0, .string cut2), (1, .int .i32 (((c : Nat) : Int))), (163, .bool (decide ((0 : Int) ≤ (((c : Nat) : Int) : Int))))]) (obl := []) [o_, o_, o_] [0, 1, 163] (fun _ _ => by kernel_rfl) trivial ?_
  refine TriL.slotP 163 ((0 : Int) ≤ (((c : Nat) : Int) : Int)) (fun _ => by kernel_rfl) (fun h163 => ?_) (fun h163 => ?_)
  · refine TriL.segK (k' := 7) (fr' := [(0, .string cut2), (1, .int .i32 (((c : Nat) : Int))), (160, .bool (decide ((((c : Nat) : Int) : Int) < (128 : Int))))]) (obl := []) [o_, o_, o_, o_] [0, 1, 160] (fun _ _ => by kernel_rfl) trivial ?_
    refine TriL.nil (by kernel_rfl) ?_
    refine TriQ.next ?_
    refine Tri.condP (p := (((c : Nat) : Int) : Int) < (128 : Int)) (fun _ => by kernel_rfl) (fun h160 => ?_) (fun h160 => ?_)
    · exact absurd h160 (by omega)
    · refine Tri.seq ?_
      refine Tri.region ?_
      refine TriL.segK (k' := 3) (fr' := [(0, .string cut2), (1, .int .i32 (((c : Nat) : Int))), (171, .bool (decide ((((c : Nat) : Int) : Int) = (65533 : Int))))]) (obl := []) [o_, o_, o_] [0, 1, 171] (fun _ _ => by kernel_rfl) trivial ?_
      refine TriL.nil (by kernel_rfl) ?_
      refine TriQ.next ?_
      refine Tri.condP (p := (((c : Nat) : Int) : Int) = (65533 : Int)) (fun _ => by kernel_rfl) (fun h171 => ?_) (fun h171 => ?_)
      · refine Tri.seq ?_
        refine Tri.seq ?_
        refine Tri.region ?_
        refine TriL.segK (k' := 1) (fr' := [(174, .string cut2)]) (obl := []) [o_] [174] (fun _ _ => by kernel_rfl) trivial ?_
        refine TriL.strRange (d := (some 175)) (t := 9) (x := (.tmp 174)) (s := cut2) (fun _ => by kernel_rfl) (fun _ => by kernel_rfl) Try.underlying9 (fun r1 => ?_)
        refine TriL.nil (by kernel_rfl) ?_
        refine TriQ.next ?_
        refine Tri.block ?_
        refine Tri.loop (ι := Nat) (fun (pos : Nat) => (pos ≤ 2)) (fun (pos : Nat) => 2 - pos) (fun (pos : Nat) => [(175, .pointer (some ⟨r1, 0, none⟩))]) (fun (pos : Nat) => [.abs (IterS r1 cut2 pos), .abs R]) 0 (idx := [175]) (pk := [1, 0]) (show (0 ≤ 2) from Nat.zero_le _) (fun _ => by kernel_rfl) rfl (by kernel_rfl) ?_
        rintro pos hp
        show Tri _ _ _ _ [(175, .pointer (some ⟨r1, 0, none⟩))] [.abs (IterS r1 cut2 pos), .abs R] _
        refine Tri.seq ?_
        refine Tri.region ?_
        rcases Nat.lt_or_ge pos ((cut2 : ByteArray).size) with hpos | hpos
        · refine TriL.strMore 0 (d := (some 176)) (r := r1) (s := cut2) (pos := pos) (x := (.tmp 175)) (fun _ => by kernel_rfl) (by kernel_rfl) (fun _ => by kernel_rfl) hpos ?_
          refine TriL.segK (k' := 2) (fr' := [(175, .pointer (some ⟨r1, 0, none⟩)), (176, .tuple #[.bool true, .int .i64 (((pos : Nat) : Int)), .int .i32 ((((Utf8.decode cut2 pos).1 : Nat) : Int))]), (177, .bool true)]) (obl := []) [o_] [175, 176, 177] (fun _ _ => by kernel_rfl) trivial ?_
          refine TriL.nil (by kernel_rfl) ?_
          refine TriQ.next ?_
          refine Tri.seq ?_
          refine Tri.condT (fun _ => by kernel_rfl) ?_
          refine Tri.skip ?_
          refine TriQ.next ?_
          refine Tri.block ?_
          refine Tri.seq ?_
          refine Tri.region ?_
          refine TriL.segK (k' := 4) (fr' := [(5, .int .i64 (((pos : Nat) : Int))), (6, .int .i32 ((((Utf8.decode cut2 pos).1 : Nat) : Int))), (175, .pointer (some ⟨r1, 0, none⟩))]) (obl := []) [o_, o_, o_, o_] [5, 6, 175] (fun _ _ => by kernel_rfl) trivial ?_
          refine TriL.nil (by kernel_rfl) ?_
          refine TriQ.next ?_
          refine Tri.seq ?_
          refine Tri.region ?_
          refine TriL.segK (k' := 2) (fr' := [(5, .int .i64 (((pos : Nat) : Int))), (175, .pointer (some ⟨r1, 0, none⟩)), (181, .bool (decide (((((Utf8.decode cut2 pos).1 : Nat) : Int) : Int) = (65533 : Int))))]) (obl := []) [o_, o_] [5, 175, 181] (fun _ _ => by kernel_rfl) trivial ?_
          refine TriL.nil (by kernel_rfl) ?_
          refine TriQ.next ?_
          refine Tri.condP (p := ((((Utf8.decode cut2 pos).1 : Nat) : Int) : Int) = (65533 : Int)) (fun _ => by kernel_rfl) (fun h181 => ?_) (fun h181 => ?_)
          · exact absurd h181 (by have := cut2_lo hpos; omega)
          · refine Tri.skip ?_
            refine TriQ.blockNormal ?_
            exact TriQ.turn (pos + (Utf8.decode cut2 pos).2) (idx := [175]) (pk := [0, 1]) (show ((pos + (Utf8.decode cut2 pos).2) ≤ 2) from (by have := (dec_step (s := cut2) hpos).2.1; have : cut2.size = 2 := rfl; omega)) (by show 2 - (pos + (Utf8.decode cut2 pos).2) < 2 - pos; have h1 := (dec_step (s := cut2) hpos).1; have h2 : cut2.size = 2 := rfl; omega) (fun _ => by kernel_rfl) rfl (by kernel_rfl)
        · refine TriL.strEnd 0 (d := (some 176)) (r := r1) (s := cut2) (pos := pos) (x := (.tmp 175)) (fun _ => by kernel_rfl) (by kernel_rfl) (fun _ => by kernel_rfl) (Nat.not_lt.2 hpos) ?_
          refine TriL.segK (k' := 2) (fr' := [(175, .pointer (some ⟨r1, 0, none⟩)), (176, .tuple #[.bool false]), (177, .bool false)]) (obl := []) [o_] [175, 176, 177] (fun _ _ => by kernel_rfl) trivial ?_
          refine TriL.nil (by kernel_rfl) ?_
          refine TriQ.next ?_
          refine Tri.seq ?_
          refine Tri.condF (fun _ => by kernel_rfl) ?_
          refine Tri.exit ?_
          refine TriQ.passExit ?_
          refine TriQ.passExit ?_
          refine TriQ.blockHit ?_
          refine TriQ.next ?_
          refine Tri.seq ?_
          refine Tri.region ?_
          refine TriL.segK (k' := 1) (fr' := [(4, .int .i64 (-1))]) (obl := []) [o_] [4] (fun _ _ => by kernel_rfl) trivial ?_
          refine TriL.nil (by kernel_rfl) ?_
          refine TriQ.next ?_
          refine Tri.ret ?_
          refine TriQ.blockRet ?_
          exact TriQ.ret (v := .int .i64 (-1)) (l := []) (obl := []) [] [1] (fun _ => by kernel_rfl) trivial rfl (by kernel_rfl) (⟨rfl, rfl⟩)
      · refine Tri.seq ?_
        refine Tri.region ?_
        refine TriL.segK (k' := 1) (fr' := [(0, .string cut2), (1, .int .i32 (((c : Nat) : Int))), (184, .int .i32 (((c : Nat) : Int)))]) (obl := []) [o_] [0, 1, 184] (fun _ _ => by kernel_rfl) trivial ?_
        refine TriL.call (f := 104) (args := #[.int .i32 (((c : Nat) : Int))]) (d := (some 185)) (pre := []) (R := [.abs R]) (pk := [0]) (fun _ => by kernel_rfl) (sp_validRune hv) rfl (by kernel_rfl) ?_
        rintro _ _ ⟨rfl, rfl⟩
        refine TriL.segK (k' := 4) (fr' := [(0, .string cut2), (1, .int .i32 (((c : Nat) : Int))), (183, .bool false)]) (obl := []) [o_, o_] [0, 1, 183] (fun _ _ => by kernel_rfl) trivial ?_
        refine TriL.nil (by kernel_rfl) ?_
        refine TriQ.next ?_
        refine Tri.condF (fun _ => by kernel_rfl) ?_
        refine Tri.scope ?_
        refine Tri.seq ?_
        refine Tri.region ?_
        refine TriL.segK (k' := 3) (fr' := [(0, .string cut2), (7, .string (Utf8.encode ((c : Nat) : Int)))]) (obl := []) [o_, o_, o_] [0, 7] (fun _ _ => by kernel_rfl) trivial ?_
        refine TriL.nil (by kernel_rfl) ?_
        refine TriQ.next ?_
        refine Tri.seq ?_
        refine Tri.region ?_
        refine TriL.segK (k' := 4) (fr' := [(0, .string cut2), (7, .string (Utf8.encode ((c : Nat) : Int))), (8, .int .i64 (((((Utf8.encode ((c : Nat) : Int)).size - 1) : Nat) : Int)))]) (obl := [(Value.int .i64 (IntKind.wrap .i64 (((((Utf8.encode ((c : Nat) : Int)) : ByteArray).size : Nat) : Int) - 1))) = (.int .i64 (((((Utf8.encode ((c : Nat) : Int)).size - 1) : Nat) : Int)))]) [o_, o_, ⟨[], none, none, none, some (.int .i64 (((((Utf8.encode ((c : Nat) : Int)).size - 1) : Nat) : Int)))⟩, o_] [0, 7, 8] (fun _ _ => by kernel_rfl) ⟨wrapEq (by omega) (by omega) (by omega), trivial⟩ ?_
        refine TriL.nil (by kernel_rfl) ?_
        refine TriQ.next ?_
        refine Tri.seq ?_
        refine Tri.region ?_
        refine TriL.segK (k' := 2) (fr' := [(0, .string cut2), (7, .string (Utf8.encode ((c : Nat) : Int))), (8, .int .i64 (((((Utf8.encode ((c : Nat) : Int)).size - 1) : Nat) : Int))), (9, .int .i64 (((((Utf8.encode ((c : Nat) : Int)).size - 1) : Nat) : Int)))]) (obl := []) [o_, o_] [0, 7, 8, 9] (fun _ _ => by kernel_rfl) trivial ?_
        refine TriL.nil (by kernel_rfl) ?_
        refine TriQ.next ?_
        refine Tri.seq ?_
        refine Tri.region ?_
        refine TriL.segK (k' := 1) (fr' := [(0, .string cut2), (7, .string (Utf8.encode ((c : Nat) : Int))), (8, .int .i64 (((((Utf8.encode ((c : Nat) : Int)).size - 1) : Nat) : Int))), (9, .int .i64 (((((Utf8.encode ((c : Nat) : Int)).size - 1) : Nat) : Int)))]) (obl := []) [o_] [0, 7, 8, 9] (fun _ _ => by kernel_rfl) trivial ?_
        refine TriL.nil (by kernel_rfl) ?_
        refine TriQ.next ?_
        refine Tri.seq ?_
        refine Tri.block ?_
        refine Tri.loop (ι := Nat) (fun (i : Nat) => (i = (Utf8.encode ((c : Nat) : Int)).size - 1)) (fun (i : Nat) => 0) (fun (i : Nat) => [(0, .string cut2), (7, .string (Utf8.encode ((c : Nat) : Int))), (8, .int .i64 (((((Utf8.encode ((c : Nat) : Int)).size - 1) : Nat) : Int))), (9, .int .i64 (((i : Nat) : Int)))]) (fun (i : Nat) => [.abs R]) (((Utf8.encode ((c : Nat) : Int)).size - 1)) (idx := [0, 7, 8, 9]) (pk := [0]) (show ((((Utf8.encode ((c : Nat) : Int)).size - 1)) = (Utf8.encode ((c : Nat) : Int)).size - 1) from rfl) (fun _ => by kernel_rfl) rfl (by kernel_rfl) ?_
        rintro i hi
        show Tri _ _ _ _ [(0, .string cut2), (7, .string (Utf8.encode ((c : Nat) : Int))), (8, .int .i64 (((((Utf8.encode ((c : Nat) : Int)).size - 1) : Nat) : Int))), (9, .int .i64 (((i : Nat) : Int)))] [.abs R] _
        refine Tri.seq ?_
        refine Tri.seq ?_
        refine Tri.region ?_
        refine TriL.segK (k' := 4) (fr' := [(0, .string cut2), (7, .string (Utf8.encode ((c : Nat) : Int))), (8, .int .i64 (((((Utf8.encode ((c : Nat) : Int)).size - 1) : Nat) : Int))), (9, .int .i64 (((i : Nat) : Int))), (26, .bool (decide ((((i : Nat) : Int) : Int) < ((((cut2 : ByteArray).size : Nat) : Int) : Int))))]) (obl := []) [o_, o_, o_, o_] [0, 7, 8, 9, 26] (fun _ _ => by kernel_rfl) trivial ?_
        refine TriL.nil (by kernel_rfl) ?_
        refine TriQ.next ?_
        refine Tri.condP (p := (((i : Nat) : Int) : Int) < ((((cut2 : ByteArray).size : Nat) : Int) : Int)) (fun _ => by kernel_rfl) (fun h26 => ?_) (fun h26 => ?_)
        · refine Tri.skip ?_
          refine TriQ.next ?_
          refine Tri.block ?_
          refine Tri.scope ?_
          refine Tri.seq ?_
          refine Tri.seq ?_
          refine Tri.regionQ (by kernel_rfl) (by kernel_rfl) ?_
          refine TriLQ.seg (k' := 7) (fr' := [(0, .string cut2), (7, .string (Utf8.encode ((c : Nat) : Int))), (8, .int .i64 (((((Utf8.encode ((c : Nat) : Int)).size - 1) : Nat) : Int))), (9, .int .i64 (((i : Nat) : Int))), (33, .bool (!(decide ((((((cut2 : ByteArray).data.getD (i) 0).toNat : Nat) : Int) : Int) = ((((((Utf8.encode ((c : Nat) : Int)) : ByteArray).data.getD (((Utf8.encode ((c : Nat) : Int)).size - 1)) 0).toNat : Nat) : Int) : Int)))))]) (obl := [((((Utf8.encode ((c : Nat) : Int)).size - 1) : Nat) : Int) = ((((Utf8.encode ((c : Nat) : Int)).size - 1) : Nat) : Int), ((Utf8.encode ((c : Nat) : Int)).size - 1) < ((Utf8.encode ((c : Nat) : Int)) : ByteArray).size, ((i : Nat) : Int) = ((i : Nat) : Int), i < (cut2 : ByteArray).size]) [o_, o_, ⟨[], some i, none, none, none⟩, o_, o_, ⟨[], some ((Utf8.encode ((c : Nat) : Int)).size - 1), none, none, none⟩, o_] [0, 7, 8, 9, 33] (fun _ _ => by kernel_rfl) ⟨rfl, by omega, rfl, by omega, trivial⟩ ?_
          refine TriLQ.nil (by kernel_rfl) ?_
          refine TriQ.next ?_
          refine Tri.condN (p := (((((cut2 : ByteArray).data.getD (i) 0).toNat : Nat) : Int) : Int) = ((((((Utf8.encode ((c : Nat) : Int)) : ByteArray).data.getD (((Utf8.encode ((c : Nat) : Int)).size - 1)) 0).toNat : Nat) : Int) : Int)) (fun _ => by kernel_rfl) (fun h33 => ?_) (fun h33 => ?_)
          · refine Tri.seq ?_
            refine Tri.regionQ (by kernel_rfl) (by kernel_rfl) ?_
            refine TriLQ.seg (k' := 7) (fr' := [(0, .string cut2), (7, .string (Utf8.encode ((c : Nat) : Int))), (8, .int .i64 (((((Utf8.encode ((c : Nat) : Int)).size - 1) : Nat) : Int))), (9, .int .i64 (((i : Nat) : Int))), (37, .string ((cut2 : ByteArray).extract (i + 1) (cut2 : ByteArray).size)), (40, .int .u8 ((((((Utf8.encode ((c : Nat) : Int)) : ByteArray).data.getD (((Utf8.encode ((c : Nat) : Int)).size - 1)) 0).toNat : Nat) : Int)))]) (obl := [((((Utf8.encode ((c : Nat) : Int)).size - 1) : Nat) : Int) = ((((Utf8.encode ((c : Nat) : Int)).size - 1) : Nat) : Int), ((Utf8.encode ((c : Nat) : Int)).size - 1) < ((Utf8.encode ((c : Nat) : Int)) : ByteArray).size, ((i + 1 : Nat) : Int) = ((i + 1 : Nat) : Int), i + 1 ≤ (cut2 : ByteArray).size, (Value.int .i64 (IntKind.wrap .i64 (((i : Nat) : Int) + 1))) = (.int .i64 (((i + 1 : Nat) : Int)))]) [o_, o_, ⟨[], none, none, none, some (.int .i64 (((i + 1 : Nat) : Int)))⟩, ⟨[], some (i + 1), none, none, none⟩, o_, o_, ⟨[], some ((Utf8.encode ((c : Nat) : Int)).size - 1), none, none, none⟩] [0, 7, 8, 9, 37, 40] (fun _ _ => by kernel_rfl) ⟨rfl, by omega, rfl, by omega, wrapEq (by omega) (by omega) (by omega), trivial⟩ ?_
            refine TriLQ.call (f := 77) (args := #[.string ((cut2 : ByteArray).extract (i + 1) (cut2 : ByteArray).size), .int .u8 ((((((Utf8.encode ((c : Nat) : Int)) : ByteArray).data.getD (((Utf8.encode ((c : Nat) : Int)).size - 1)) 0).toNat : Nat) : Int))]) (d := (some 41)) (pre := []) (R := [.abs R]) (pk := [0]) (pk' := [0]) (v0 := .int .i64 (-1)) (fun _ => by kernel_rfl) (sp_indexByte_nil (i := i) (by have : cut2.size = 2 := rfl; omega) (((((Utf8.encode ((c : Nat) : Int)) : ByteArray).data.getD (((Utf8.encode ((c : Nat) : Int)).size - 1)) 0).toNat : Nat) : Int)) rfl (by kernel_rfl) rfl (by kernel_rfl) (fun _ _ h => h) ?_
            refine TriLQ.seg (k' := 9) (fr' := [(0, .string cut2), (7, .string (Utf8.encode ((c : Nat) : Int))), (8, .int .i64 (((((Utf8.encode ((c : Nat) : Int)).size - 1) : Nat) : Int))), (9, .int .i64 (((i : Nat) : Int))), (11, .int .i64 (-1))]) (obl := []) [o_] [0, 7, 8, 9, 11] (fun _ _ => by kernel_rfl) trivial ?_
            refine TriLQ.nil (by kernel_rfl) ?_
            refine TriQ.next ?_
            refine Tri.seq ?_
            refine Tri.seq ?_
            refine Tri.region ?_
            refine TriL.segK (k' := 2) (fr' := [(0, .string cut2), (7, .string (Utf8.encode ((c : Nat) : Int))), (8, .int .i64 (((((Utf8.encode ((c : Nat) : Int)).size - 1) : Nat) : Int))), (9, .int .i64 (((i : Nat) : Int))), (11, .int .i64 (-1)), (43, .bool true)]) (obl := []) [o_, o_] [0, 7, 8, 9, 11, 43] (fun _ _ => by kernel_rfl) trivial ?_
            refine TriL.nil (by kernel_rfl) ?_
            refine TriQ.next ?_
            refine Tri.condT (fun _ => by kernel_rfl) ?_
            refine Tri.seq ?_
            refine Tri.region ?_
            refine TriL.segK (k' := 1) (fr' := [(4, .int .i64 (-1))]) (obl := []) [o_] [4] (fun _ _ => by kernel_rfl) trivial ?_
            refine TriL.nil (by kernel_rfl) ?_
            refine TriQ.next ?_
            refine Tri.ret ?_
            refine TriQ.passRet ?_
            refine TriQ.passRet ?_
            refine TriQ.scopeRet ?_
            refine TriQ.blockRet ?_
            refine TriQ.passRet ?_
            refine TriQ.blockRet ?_
            refine TriQ.passRet ?_
            refine TriQ.scopeRet ?_
            refine TriQ.blockRet ?_
            exact TriQ.ret (v := .int .i64 (-1)) (l := []) (obl := []) [] [0] (fun _ => by kernel_rfl) trivial rfl (by kernel_rfl) (⟨rfl, rfl⟩)
          · exact absurd h33 (by have h1 := cut2_byte i; have h2 := he.2.2; unfold byteAt at h1 h2; omega)
        · refine Tri.exit ?_
          refine TriQ.passExit ?_
          refine TriQ.passExit ?_
          refine TriQ.blockHit ?_
          refine TriQ.next ?_
          refine Tri.seq ?_
          refine Tri.seq ?_
          refine Tri.region ?_
          refine TriL.segK (k' := 1) (fr' := [(4, .int .i64 (-1))]) (obl := []) [o_] [4] (fun _ _ => by kernel_rfl) trivial ?_
          refine TriL.nil (by kernel_rfl) ?_
          refine TriQ.next ?_
          refine Tri.ret ?_
          refine TriQ.passRet ?_
          refine TriQ.scopeRet ?_
          refine TriQ.blockRet ?_
          exact TriQ.ret (v := .int .i64 (-1)) (l := []) (obl := []) [] [0] (fun _ => by kernel_rfl) trivial rfl (by kernel_rfl) (⟨rfl, rfl⟩)
  · exact absurd h163 (by omega)
theorem sp_indexRune {β : Bs} (c : Nat) (hv : c < 55296 ∨ (57343 < c ∧ c ≤ 1114111)) :
    Spec Try.prog β 99 #[.string cut2, .int .i32 ((c : Nat) : Int)] [] (fun v l => v = .int .i64 (ixR c) ∧ l = []) := by
  rcases Nat.lt_or_ge c 128 with h | h
  · exact sp_indexRune_low h
  · rw [ixR_high h]
    exact sp_indexRune_high c h hv
set_option maxRecDepth 100000 in
set_option maxHeartbeats 4000000 in
theorem sp_indexAny_short {β : Bs} (s : ByteArray) (h8 : s.size ≤ 8) :
    Spec Try.prog β 91 #[.string s, .string cut2] [] (fun v l => (∃ x : Int, v = .int .i64 x ∧ (0 ≤ x ↔ ¬ Clean s)) ∧ l = []) := by
  refine Spec.enter Try.func91 rfl Try.ntmps91 (Nat.le_of_ble_eq_true rfl) (fun R => ?_)
  refine Tri.seq ?_
  refine Tri.region ?_
  refine TriL.segK (k' := 1) (fr' := [(0, .string s), (1, .string cut2)]) (obl := []) [o_] [0, 1] (fun _ _ => by kernel_rfl) trivial ?_
  refine TriL.nil (by kernel_rfl) ?_
  refine TriQ.next ?_
  refine Tri.seq ?_
  refine Tri.seq ?_
  refine Tri.region ?_
  refine TriL.segK (k' := 2) (fr' := [(0, .string s), (1, .string cut2), (12, .bool (decide ((cut2 : ByteArray) = ⟨#[]⟩)))]) (obl := [(Value.bool ((cut2 : ByteArray).toList == (⟨#[]⟩ : ByteArray).toList)) = (.bool (decide ((cut2 : ByteArray) = ⟨#[]⟩)))]) [o_, ⟨[], none, none, none, some (.bool (decide ((cut2 : ByteArray) = ⟨#[]⟩)))⟩] [0, 1, 12] (fun _ _ => by kernel_rfl) ⟨strEqV _ _, trivial⟩ ?_
  refine TriL.nil (by kernel_rfl) ?_
  refine TriQ.next ?_
  refine Tri.condP (p := (cut2 : ByteArray) = ⟨#[]⟩) (fun _ => by kernel_rfl) (fun h12 => ?_) (fun h12 => ?_)
  · exact absurd h12 (by decide)
  · refine Tri.skip ?_
    refine TriQ.next ?_
    refine Tri.seq ?_
    refine Tri.seq ?_
    refine Tri.region ?_
    refine TriL.segK (k' := 3) (fr' := [(0, .string s), (1, .string cut2), (15, .bool (decide (((((cut2 : ByteArray).size : Nat) : Int) : Int) = (1 : Int))))]) (obl := []) [o_, o_, o_] [0, 1, 15] (fun _ _ => by kernel_rfl) trivial ?_
    refine TriL.nil (by kernel_rfl) ?_
    refine TriQ.next ?_
    refine Tri.condP (p := ((((cut2 : ByteArray).size : Nat) : Int) : Int) = (1 : Int)) (fun _ => by kernel_rfl) (fun h15 => ?_) (fun h15 => ?_)
    · exact absurd h15 (by decide)
    · refine Tri.skip ?_
      refine TriQ.next ?_
      refine Tri.seq ?_
      refine Tri.seq ?_
      refine Tri.region ?_
      refine TriL.segK (k' := 2) (fr' := [(0, .string s), (1, .string cut2), (25, .int .i64 ((((s : ByteArray).size : Nat) : Int)))]) (obl := []) [o_, o_] [0, 1, 25] (fun _ _ => by kernel_rfl) trivial ?_
      refine TriL.call (f := 100) (args := #[.int .i64 ((((s : ByteArray).size : Nat) : Int))]) (d := (some 26)) (pre := []) (R := [.abs R]) (pk := [0]) (fun _ => by kernel_rfl) (Spec.quiet (fun w => Try.strings_shouldUseASCIISet ((s.size : Nat) : Int) w)) rfl (by kernel_rfl) ?_
      rintro _ _ ⟨rfl, rfl⟩
      refine TriL.nil (by kernel_rfl) ?_
      refine TriQ.next ?_
      refine Tri.condP (p := (8 : Int) < ((s.size : Nat) : Int)) (fun _ => by kernel_rfl) (fun h26 => ?_) (fun h26 => ?_)
      · exact absurd h26 (by omega)
      · refine Tri.skip ?_
        refine TriQ.next ?_
        refine Tri.seq ?_
        refine Tri.seq ?_
        refine Tri.region ?_
        refine TriL.segK (k' := 1) (fr' := [(1, .string cut2), (44, .string s)]) (obl := []) [o_] [1, 44] (fun _ _ => by kernel_rfl) trivial ?_
        refine TriL.strRange (d := (some 45)) (t := 9) (x := (.tmp 44)) (s := s) (fun _ => by kernel_rfl) (fun _ => by kernel_rfl) Try.underlying9 (fun r2 => ?_)
        refine TriL.nil (by kernel_rfl) ?_
        refine TriQ.next ?_
        refine Tri.block ?_
        refine Tri.loop (ι := Nat) (fun (pos : Nat) => (pos ≤ s.size) ∧ (∀ j, j < pos → ¬ byteAt s j = 0 ∧ ¬ byteAt s j = 47)) (fun (pos : Nat) => s.size - pos) (fun (pos : Nat) => [(1, .string cut2), (45, .pointer (some ⟨r2, 0, none⟩))]) (fun (pos : Nat) => [.abs (IterS r2 s pos), .abs R]) 0 (idx := [1, 45]) (pk := [1, 0]) (show (0 ≤ s.size) ∧ (∀ j, j < 0 → ¬ byteAt s j = 0 ∧ ¬ byteAt s j = 47) from ⟨Nat.zero_le _, fun j hj => absurd hj (Nat.not_lt_zero j)⟩) (fun _ => by kernel_rfl) rfl (by kernel_rfl) ?_
        rintro pos ⟨hp, hno⟩
        show Tri _ _ _ _ [(1, .string cut2), (45, .pointer (some ⟨r2, 0, none⟩))] [.abs (IterS r2 s pos), .abs R] _
        refine Tri.seq ?_
        refine Tri.region ?_
        rcases Nat.lt_or_ge pos ((s : ByteArray).size) with hpos | hpos
        · refine TriL.strMore 0 (d := (some 46)) (r := r2) (s := s) (pos := pos) (x := (.tmp 45)) (fun _ => by kernel_rfl) (by kernel_rfl) (fun _ => by kernel_rfl) hpos ?_
          refine TriL.segK (k' := 2) (fr' := [(1, .string cut2), (45, .pointer (some ⟨r2, 0, none⟩)), (46, .tuple #[.bool true, .int .i64 (((pos : Nat) : Int)), .int .i32 ((((Utf8.decode s pos).1 : Nat) : Int))]), (47, .bool true)]) (obl := []) [o_] [1, 45, 46, 47] (fun _ _ => by kernel_rfl) trivial ?_
          refine TriL.nil (by kernel_rfl) ?_
          refine TriQ.next ?_
          refine Tri.seq ?_
          refine Tri.condT (fun _ => by kernel_rfl) ?_
          refine Tri.skip ?_
          refine TriQ.next ?_
          refine Tri.block ?_
          refine Tri.seq ?_
          refine Tri.region ?_
          refine TriL.segK (k' := 4) (fr' := [(1, .string cut2), (9, .int .i64 (((pos : Nat) : Int))), (10, .int .i32 ((((Utf8.decode s pos).1 : Nat) : Int))), (45, .pointer (some ⟨r2, 0, none⟩))]) (obl := []) [o_, o_, o_, o_] [1, 9, 10, 45] (fun _ _ => by kernel_rfl) trivial ?_
          refine TriL.nil (by kernel_rfl) ?_
          refine TriQ.next ?_
          refine Tri.seq ?_
          refine Tri.region ?_
          refine TriL.segK (k' := 2) (fr' := [(1, .string cut2), (9, .int .i64 (((pos : Nat) : Int))), (45, .pointer (some ⟨r2, 0, none⟩)), (50, .string cut2), (51, .int .i32 ((((Utf8.decode s pos).1 : Nat) : Int)))]) (obl := []) [o_, o_] [1, 9, 45, 50, 51] (fun _ _ => by kernel_rfl) trivial ?_
          refine TriL.call (f := 99) (args := #[.string cut2, .int .i32 ((((Utf8.decode s pos).1 : Nat) : Int))]) (d := (some 52)) (pre := []) (R := [.abs (IterS r2 s (pos + (Utf8.decode s pos).2)), .abs R]) (pk := [0, 1]) (fun _ => by kernel_rfl) (sp_indexRune (Utf8.decode s pos).1 (dec_step hpos).2.2.2.2) rfl (by kernel_rfl) ?_
          rintro _ _ ⟨rfl, rfl⟩
          refine TriL.segK (k' := 4) (fr' := [(1, .string cut2), (9, .int .i64 (((pos : Nat) : Int))), (45, .pointer (some ⟨r2, 0, none⟩)), (53, .bool (decide ((ixR (Utf8.decode s pos).1 : Int) ≥ (0 : Int))))]) (obl := []) [o_] [1, 9, 45, 53] (fun _ _ => by kernel_rfl) trivial ?_
          refine TriL.nil (by kernel_rfl) ?_
          refine TriQ.next ?_
          refine Tri.condP (p := (ixR (Utf8.decode s pos).1 : Int) ≥ (0 : Int)) (fun _ => by kernel_rfl) (fun h53 => ?_) (fun h53 => ?_)
          · refine Tri.seq ?_
            refine Tri.region ?_
            refine TriL.segK (k' := 2) (fr' := [(4, .int .i64 (((pos : Nat) : Int)))]) (obl := []) [o_, o_] [4] (fun _ _ => by kernel_rfl) trivial ?_
            refine TriL.nil (by kernel_rfl) ?_
            refine TriQ.next ?_
            refine Tri.ret ?_
            refine TriQ.blockRet ?_
            refine TriQ.passRet ?_
            refine TriQ.blockRet ?_
            refine TriQ.passRet ?_
            exact TriQ.ret (v := .int .i64 (((pos : Nat) : Int))) (l := []) (obl := []) [] [1] (fun _ => by kernel_rfl) trivial rfl (by kernel_rfl) (⟨⟨_, rfl, ⟨fun _ hc => by have h1 := ixR_ge.1 h53; have h2 := (dec_step hpos).2.2.1.1 h1; have := hc pos hpos; omega, fun _ => Int.natCast_nonneg _⟩⟩, rfl⟩)
          · refine Tri.skip ?_
            refine TriQ.blockNormal ?_
            exact TriQ.turn (pos + (Utf8.decode s pos).2) (idx := [1, 45]) (pk := [0, 1]) (show ((pos + (Utf8.decode s pos).2) ≤ s.size) ∧ (∀ j, j < (pos + (Utf8.decode s pos).2) → ¬ byteAt s j = 0 ∧ ¬ byteAt s j = 47) from ⟨(dec_step hpos).2.1, fun j hj => by rcases Nat.lt_trichotomy j pos with h | h | h; exact hno j h; subst h; have h1 := mt ixR_ge.2 h53; have := mt (dec_step hpos).2.2.1.2 h1; omega; have := (dec_step hpos).2.2.2.1 j h hj; omega⟩) (by show s.size - (pos + (Utf8.decode s pos).2) < s.size - pos; have := (dec_step hpos).1; omega) (fun _ => by kernel_rfl) rfl (by kernel_rfl)
        · refine TriL.strEnd 0 (d := (some 46)) (r := r2) (s := s) (pos := pos) (x := (.tmp 45)) (fun _ => by kernel_rfl) (by kernel_rfl) (fun _ => by kernel_rfl) (Nat.not_lt.2 hpos) ?_
          refine TriL.segK (k' := 2) (fr' := [(1, .string cut2), (45, .pointer (some ⟨r2, 0, none⟩)), (46, .tuple #[.bool false]), (47, .bool false)]) (obl := []) [o_] [1, 45, 46, 47] (fun _ _ => by kernel_rfl) trivial ?_
          refine TriL.nil (by kernel_rfl) ?_
          refine TriQ.next ?_
          refine Tri.seq ?_
          refine Tri.condF (fun _ => by kernel_rfl) ?_
          refine Tri.exit ?_
          refine TriQ.passExit ?_
          refine TriQ.passExit ?_
          refine TriQ.blockHit ?_
          refine TriQ.next ?_
          refine Tri.seq ?_
          refine Tri.region ?_
          refine TriL.segK (k' := 1) (fr' := [(4, .int .i64 (-1))]) (obl := []) [o_] [4] (fun _ _ => by kernel_rfl) trivial ?_
          refine TriL.nil (by kernel_rfl) ?_
          refine TriQ.next ?_
          refine Tri.ret ?_
          exact TriQ.ret (v := .int .i64 (-1)) (l := []) (obl := []) [] [1] (fun _ => by kernel_rfl) trivial rfl (by kernel_rfl) (⟨⟨_, rfl, ⟨fun h => absurd h (by decide), fun h => absurd (fun j hj => hno j (by omega)) h⟩⟩, rfl⟩)
theorem sp_indexAny {β : Bs} (s : ByteArray) (hs : s.size ≤ 1048576) :
    Spec Try.prog β 91 #[.string s, .string cut2] [] (fun v l => (∃ x : Int, v = .int .i64 x ∧ (0 ≤ x ↔ ¬ Clean s)) ∧ l = []) := by
  rcases Nat.lt_or_ge 8 s.size with h | h
  · exact sp_indexAny_long s h hs
  · exact sp_indexAny_short s h
set_option maxRecDepth 100000 in
set_option maxHeartbeats 4000000 in
theorem sp_containsAny {β : Bs} (s : ByteArray) (hs : s.size ≤ 1048576) :
    Spec Try.prog β 78 #[.string s, .string cut2] [] (fun v l => v = .bool (decide (¬ Clean s)) ∧ l = []) := by
  refine Spec.enter Try.func78 rfl Try.ntmps78 (Nat.le_of_ble_eq_true rfl) (fun R => ?_)
  refine Tri.seq ?_
  refine Tri.region ?_
  refine TriL.segK (k' := 1) (fr' := [(0, .string s), (1, .string cut2)]) (obl := []) [o_] [0, 1] (fun _ _ => by kernel_rfl) trivial ?_
  refine TriL.nil (by kernel_rfl) ?_
  refine TriQ.next ?_
  refine Tri.seq ?_
  refine Tri.region ?_
  refine TriL.segK (k' := 2) (fr' := [(5, .string s), (6, .string cut2)]) (obl := []) [o_, o_] [5, 6] (fun _ _ => by kernel_rfl) trivial ?_
  refine TriL.call (f := 91) (args := #[.string s, .string cut2]) (d := (some 7)) (pre := []) (R := [.abs R]) (pk := [0]) (fun _ => by kernel_rfl) (sp_indexAny s hs) rfl (by kernel_rfl) ?_
  rintro _ _ ⟨⟨x, rfl, hx⟩, rfl⟩
  refine TriL.segK (k' := 5) (fr' := [(4, .bool (decide ((x : Int) ≥ (0 : Int))))]) (obl := []) [o_, o_] [4] (fun _ _ => by kernel_rfl) trivial ?_
  refine TriL.nil (by kernel_rfl) ?_
  refine TriQ.next ?_
  refine Tri.ret ?_
  exact TriQ.ret (v := .bool (decide ((x : Int) ≥ (0 : Int)))) (l := []) (obl := []) [] [0] (fun _ => by kernel_rfl) trivial rfl (by kernel_rfl) (⟨congrArg Value.bool (decide_eq_decide.2 (by exact hx)), rfl⟩)
set_option maxRecDepth 100000 in
set_option maxHeartbeats 4000000 in
theorem sp_routeGood {β : Bs} (s : ByteArray) (hs : s.size ≤ 1048576) :
    Spec Try.prog β 72 #[.string s] [] (fun v l => v = .bool (decide (GoodName s)) ∧ l = []) := by
  refine Spec.enter Try.func72 rfl Try.ntmps72 (Nat.le_of_ble_eq_true rfl) (fun R => ?_)
  refine Tri.seq ?_
  refine Tri.region ?_
  refine TriL.segK (k' := 1) (fr' := [(0, .string s)]) (obl := []) [o_] [0] (fun _ _ => by kernel_rfl) trivial ?_
  refine TriL.nil (by kernel_rfl) ?_
  refine TriQ.next ?_
  refine Tri.seq ?_
  refine Tri.seq ?_
  refine Tri.region ?_
  refine TriL.segK (k' := 1) (fr' := [(0, .string s), (3, .string s)]) (obl := []) [o_] [0, 3] (fun _ _ => by kernel_rfl) trivial ?_
  refine TriL.nil (by kernel_rfl) ?_
  refine TriQ.next ?_
  refine Tri.block ?_
  refine Tri.seq ?_
  refine Tri.seq ?_
  refine Tri.region ?_
  refine TriL.segK (k' := 2) (fr' := [(0, .string s), (3, .string s), (4, .bool (decide ((s : ByteArray) = ⟨#[]⟩)))]) (obl := [(Value.bool ((s : ByteArray).toList == (⟨#[]⟩ : ByteArray).toList)) = (.bool (decide ((s : ByteArray) = ⟨#[]⟩)))]) [⟨[], none, none, none, some (.bool (decide ((s : ByteArray) = ⟨#[]⟩)))⟩, o_] [0, 3, 4] (fun _ _ => by kernel_rfl) ⟨strEqV _ _, trivial⟩ ?_
  refine TriL.nil (by kernel_rfl) ?_
  refine TriQ.next ?_
  refine Tri.condP (p := (s : ByteArray) = ⟨#[]⟩) (fun _ => by kernel_rfl) (fun h4 => ?_) (fun h4 => ?_)
  · refine Tri.skip ?_
    refine TriQ.next ?_
    refine Tri.condP (p := (s : ByteArray) = ⟨#[]⟩) (fun _ => by kernel_rfl) (fun h4 => ?_) (fun h4 => ?_)
    · refine Tri.seq ?_
      refine Tri.region ?_
      refine TriL.segK (k' := 1) (fr' := [(2, .bool false)]) (obl := []) [o_] [2] (fun _ _ => by kernel_rfl) trivial ?_
      refine TriL.nil (by kernel_rfl) ?_
      refine TriQ.next ?_
      refine Tri.ret ?_
      refine TriQ.blockRet ?_
      refine TriQ.passRet ?_
      exact TriQ.ret (v := .bool false) (l := []) (obl := []) [] [0] (fun _ => by kernel_rfl) trivial rfl (by kernel_rfl) (⟨congrArg Value.bool (decide_eq_false (by have h0 := size0 (s := s); rw [goodName_iff]; grind)).symm, rfl⟩)
    · refine Tri.skip ?_
      refine TriQ.blockNormal ?_
      refine TriQ.next ?_
      refine Tri.seq ?_
      refine Tri.region ?_
      refine TriL.segK (k' := 4) (fr' := [(0, .string s), (11, .bool (decide (((((s : ByteArray).size : Nat) : Int) : Int) ≤ (255 : Int))))]) (obl := []) [o_, o_, o_, o_] [0, 11] (fun _ _ => by kernel_rfl) trivial ?_
      refine TriL.slotP 11 (((((s : ByteArray).size : Nat) : Int) : Int) ≤ (255 : Int)) (fun _ => by kernel_rfl) (fun h11 => ?_) (fun h11 => ?_)
      · refine TriL.segK (k' := 5) (fr' := [(11, .bool true), (12, .string s)]) (obl := []) [o_] [11, 12] (fun _ _ => by kernel_rfl) trivial ?_
        refine TriL.call (f := 78) (args := #[.string s, .string ⟨#[47, 0]⟩]) (d := (some 13)) (pre := []) (R := [.abs R]) (pk := [0]) (fun _ => by kernel_rfl) (sp_containsAny s hs) rfl (by kernel_rfl) ?_
        rintro _ _ ⟨rfl, rfl⟩
        refine TriL.segK (k' := 9) (fr' := [(2, .bool (!(decide (¬ Clean s))))]) (obl := []) [o_, o_, o_] [2] (fun _ _ => by kernel_rfl) trivial ?_
        refine TriL.nil (by kernel_rfl) ?_
        refine TriQ.next ?_
        refine Tri.ret ?_
        exact TriQ.ret (v := .bool (!(decide (¬ Clean s)))) (l := []) (obl := []) [] [0] (fun _ => by kernel_rfl) trivial rfl (by kernel_rfl) (⟨congrArg Value.bool (notDec (by have h0 := size0 (s := s); rw [goodName_iff]; grind)), rfl⟩)
      · refine TriL.segK (k' := 9) (fr' := [(2, .bool false)]) (obl := []) [o_, o_, o_, o_, o_] [2] (fun _ _ => by kernel_rfl) trivial ?_
        refine TriL.nil (by kernel_rfl) ?_
        refine TriQ.next ?_
        refine Tri.ret ?_
        exact TriQ.ret (v := .bool false) (l := []) (obl := []) [] [0] (fun _ => by kernel_rfl) trivial rfl (by kernel_rfl) (⟨congrArg Value.bool (decide_eq_false (by have h0 := size0 (s := s); rw [goodName_iff]; grind)).symm, rfl⟩)
  · refine Tri.seq ?_
    refine Tri.region ?_
    refine TriL.segK (k' := 2) (fr' := [(0, .string s), (3, .string s), (4, .bool (decide ((s : ByteArray) = ⟨#[46]⟩)))]) (obl := [(Value.bool ((s : ByteArray).toList == (⟨#[46]⟩ : ByteArray).toList)) = (.bool (decide ((s : ByteArray) = ⟨#[46]⟩)))]) [⟨[], none, none, none, some (.bool (decide ((s : ByteArray) = ⟨#[46]⟩)))⟩, o_] [0, 3, 4] (fun _ _ => by kernel_rfl) ⟨strEqV _ _, trivial⟩ ?_
    refine TriL.nil (by kernel_rfl) ?_
    refine TriQ.next ?_
    refine Tri.condP (p := (s : ByteArray) = ⟨#[46]⟩) (fun _ => by kernel_rfl) (fun h4 => ?_) (fun h4 => ?_)
    · refine Tri.skip ?_
      refine TriQ.next ?_
      refine Tri.condP (p := (s : ByteArray) = ⟨#[46]⟩) (fun _ => by kernel_rfl) (fun h4 => ?_) (fun h4 => ?_)
      · refine Tri.seq ?_
        refine Tri.region ?_
        refine TriL.segK (k' := 1) (fr' := [(2, .bool false)]) (obl := []) [o_] [2] (fun _ _ => by kernel_rfl) trivial ?_
        refine TriL.nil (by kernel_rfl) ?_
        refine TriQ.next ?_
        refine Tri.ret ?_
        refine TriQ.blockRet ?_
        refine TriQ.passRet ?_
        exact TriQ.ret (v := .bool false) (l := []) (obl := []) [] [0] (fun _ => by kernel_rfl) trivial rfl (by kernel_rfl) (⟨congrArg Value.bool (decide_eq_false (by have h0 := size0 (s := s); rw [goodName_iff]; grind)).symm, rfl⟩)
      · refine Tri.skip ?_
        refine TriQ.blockNormal ?_
        refine TriQ.next ?_
        refine Tri.seq ?_
        refine Tri.region ?_
        refine TriL.segK (k' := 4) (fr' := [(0, .string s), (11, .bool (decide (((((s : ByteArray).size : Nat) : Int) : Int) ≤ (255 : Int))))]) (obl := []) [o_, o_, o_, o_] [0, 11] (fun _ _ => by kernel_rfl) trivial ?_
        refine TriL.slotP 11 (((((s : ByteArray).size : Nat) : Int) : Int) ≤ (255 : Int)) (fun _ => by kernel_rfl) (fun h11 => ?_) (fun h11 => ?_)
        · refine TriL.segK (k' := 5) (fr' := [(11, .bool true), (12, .string s)]) (obl := []) [o_] [11, 12] (fun _ _ => by kernel_rfl) trivial ?_
          refine TriL.call (f := 78) (args := #[.string s, .string ⟨#[47, 0]⟩]) (d := (some 13)) (pre := []) (R := [.abs R]) (pk := [0]) (fun _ => by kernel_rfl) (sp_containsAny s hs) rfl (by kernel_rfl) ?_
          rintro _ _ ⟨rfl, rfl⟩
          refine TriL.segK (k' := 9) (fr' := [(2, .bool (!(decide (¬ Clean s))))]) (obl := []) [o_, o_, o_] [2] (fun _ _ => by kernel_rfl) trivial ?_
          refine TriL.nil (by kernel_rfl) ?_
          refine TriQ.next ?_
          refine Tri.ret ?_
          exact TriQ.ret (v := .bool (!(decide (¬ Clean s)))) (l := []) (obl := []) [] [0] (fun _ => by kernel_rfl) trivial rfl (by kernel_rfl) (⟨congrArg Value.bool (notDec (by have h0 := size0 (s := s); rw [goodName_iff]; grind)), rfl⟩)
        · refine TriL.segK (k' := 9) (fr' := [(2, .bool false)]) (obl := []) [o_, o_, o_, o_, o_] [2] (fun _ _ => by kernel_rfl) trivial ?_
          refine TriL.nil (by kernel_rfl) ?_
          refine TriQ.next ?_
          refine Tri.ret ?_
          exact TriQ.ret (v := .bool false) (l := []) (obl := []) [] [0] (fun _ => by kernel_rfl) trivial rfl (by kernel_rfl) (⟨congrArg Value.bool (decide_eq_false (by have h0 := size0 (s := s); rw [goodName_iff]; grind)).symm, rfl⟩)
    · refine Tri.region ?_
      refine TriL.segK (k' := 2) (fr' := [(0, .string s), (4, .bool (decide ((s : ByteArray) = ⟨#[46, 46]⟩)))]) (obl := [(Value.bool ((s : ByteArray).toList == (⟨#[46, 46]⟩ : ByteArray).toList)) = (.bool (decide ((s : ByteArray) = ⟨#[46, 46]⟩)))]) [⟨[], none, none, none, some (.bool (decide ((s : ByteArray) = ⟨#[46, 46]⟩)))⟩, o_] [0, 4] (fun _ _ => by kernel_rfl) ⟨strEqV _ _, trivial⟩ ?_
      refine TriL.nil (by kernel_rfl) ?_
      refine TriQ.next ?_
      refine Tri.condP (p := (s : ByteArray) = ⟨#[46, 46]⟩) (fun _ => by kernel_rfl) (fun h4 => ?_) (fun h4 => ?_)
      · refine Tri.seq ?_
        refine Tri.region ?_
        refine TriL.segK (k' := 1) (fr' := [(2, .bool false)]) (obl := []) [o_] [2] (fun _ _ => by kernel_rfl) trivial ?_
        refine TriL.nil (by kernel_rfl) ?_
        refine TriQ.next ?_
        refine Tri.ret ?_
        refine TriQ.blockRet ?_
        refine TriQ.passRet ?_
        exact TriQ.ret (v := .bool false) (l := []) (obl := []) [] [0] (fun _ => by kernel_rfl) trivial rfl (by kernel_rfl) (⟨congrArg Value.bool (decide_eq_false (by have h0 := size0 (s := s); rw [goodName_iff]; grind)).symm, rfl⟩)
      · refine Tri.skip ?_
        refine TriQ.blockNormal ?_
        refine TriQ.next ?_
        refine Tri.seq ?_
        refine Tri.region ?_
        refine TriL.segK (k' := 4) (fr' := [(0, .string s), (11, .bool (decide (((((s : ByteArray).size : Nat) : Int) : Int) ≤ (255 : Int))))]) (obl := []) [o_, o_, o_, o_] [0, 11] (fun _ _ => by kernel_rfl) trivial ?_
        refine TriL.slotP 11 (((((s : ByteArray).size : Nat) : Int) : Int) ≤ (255 : Int)) (fun _ => by kernel_rfl) (fun h11 => ?_) (fun h11 => ?_)
        · refine TriL.segK (k' := 5) (fr' := [(11, .bool true), (12, .string s)]) (obl := []) [o_] [11, 12] (fun _ _ => by kernel_rfl) trivial ?_
          refine TriL.call (f := 78) (args := #[.string s, .string ⟨#[47, 0]⟩]) (d := (some 13)) (pre := []) (R := [.abs R]) (pk := [0]) (fun _ => by kernel_rfl) (sp_containsAny s hs) rfl (by kernel_rfl) ?_
          rintro _ _ ⟨rfl, rfl⟩
          refine TriL.segK (k' := 9) (fr' := [(2, .bool (!(decide (¬ Clean s))))]) (obl := []) [o_, o_, o_] [2] (fun _ _ => by kernel_rfl) trivial ?_
          refine TriL.nil (by kernel_rfl) ?_
          refine TriQ.next ?_
          refine Tri.ret ?_
          exact TriQ.ret (v := .bool (!(decide (¬ Clean s)))) (l := []) (obl := []) [] [0] (fun _ => by kernel_rfl) trivial rfl (by kernel_rfl) (⟨congrArg Value.bool (notDec (by have h0 := size0 (s := s); rw [goodName_iff]; grind)), rfl⟩)
        · refine TriL.segK (k' := 9) (fr' := [(2, .bool false)]) (obl := []) [o_, o_, o_, o_, o_] [2] (fun _ _ => by kernel_rfl) trivial ?_
          refine TriL.nil (by kernel_rfl) ?_
          refine TriQ.next ?_
          refine Tri.ret ?_
          exact TriQ.ret (v := .bool false) (l := []) (obl := []) [] [0] (fun _ => by kernel_rfl) trivial rfl (by kernel_rfl) (⟨congrArg Value.bool (decide_eq_false (by have h0 := size0 (s := s); rw [goodName_iff]; grind)).symm, rfl⟩)
end Go.Proofs.Ytjpdcppdoonmdaa
