/-
  PROVED HERE: contracts of resolve.Reason at nil, at an Errno and at a *Fail, and the walk of the law ResolveReasons.
  CONDITIONS: errors.errorType holds the handle of 'error' (the row lists it).
-/
import Derived.Test.YtalknpihidcnmabDoorAsw
import Derived.Test.YtalknpihidcnmabDoorAsm
import Derived.Lib.IfaceEq
import Derived.Lib.Hide
import Derived.Deep.QuietTactic
import Derived.BigQuiet
import Derived.Outline
namespace Go.Proofs.YtalknpihidcnmabDoor
open Go.RowKit

theorem below_drewN {B : Nat} {a w : World} (h : Below B a w) (n : Nat) : Below B a (w.drewN n) := ⟨h.os, h.tape, h.output, h.size, h.block⟩

theorem ErrTy.below {w w' : World} (h : ErrTy w) (hb : Below w.heap.size w w') : ErrTy w' := by
  unfold ErrTy at *
  rw [hb.cell (p := ⟨0, 0, none⟩) ?_]
  · exact h
  · rcases Nat.eq_zero_or_pos w.heap.size with h0 | h1
    · simp [World.cell?, h0] at h
    · exact h1

theorem reason_nil (w : World) : Calls Tryd.prog 4 #[.nilIface] w fun e w' => e = .returned (.tuple #[.int .i64 0, .int .i64 0]) ∧ w = w' := by
  go_enter Tryd.func4, Tryd.ntmps4
  go_wp2_with fail
  go_ret2
  exact ⟨rfl, rfl⟩

set_option maxHeartbeats 1000000 in
theorem reason_errno (n : Int) (w : World) (hg : ErrTy w) : Calls Tryd.prog 4 #[.iface 22 (.int .i64 n)] w fun e w' => e = .returned (.tuple #[.int .i64 n, .int .i64 0]) ∧ Below w.heap.size w w' := by
  have G1 : ErrTy (w.alloc (.cells #[.pointer none] 27)) := hg.below ((Below.refl _ _).alloc (Nat.le_refl _) _)
  have HG := Lib.hid hg
  clear hg
  go_enter Tryd.func4, Tryd.ntmps4
  go_wp2_with fail
  refine (as_miss n _ _ G1).mono ?_
  rintro e w' ⟨rfl, hw⟩
  have hb : Below w.heap.size w w' := by
    rw [hw]
    exact ((((Below.refl _ _).alloc (Nat.le_refl _) _).alloc (by simp) _).alloc (by simp; omega) _).alloc (by simp; omega) _
  clear hw
  have hs := hb.size
  have G2 : ErrTy (w'.alloc (.cells #[.int .i64 0] 22)) := by
    refine HG.out.below (hb.alloc hs _)
  have HB := Lib.hid hb
  clear hb G1
  go_wp2_with fail
  refine (as_errno n ⟨w'.heap.size, 0, none⟩ (.int .i64 0) _ G2 (by simp) (by simp)).mono ?_
  rintro e w2 ⟨rfl, hw2⟩
  have hc2 : w2.cell? ⟨w'.heap.size, 0, none⟩ = some (.int .i64 n) := by
    rw [hw2]
    refine World.cell?_setCell_same (u := .int .i64 0) _ _ _ ?_
    rw [World.cell?_alloc_lt _ _ ⟨w'.heap.size, 0, none⟩ (by simp; omega), World.cell?_alloc_lt _ _ ⟨w'.heap.size, 0, none⟩ (by simp; omega), World.cell?_alloc_lt _ _ ⟨w'.heap.size, 0, none⟩ (by simp; omega), World.cell?_alloc_lt _ _ ⟨w'.heap.size, 0, none⟩ (by simp)]
    simp
  have hb2 : Below w.heap.size w w2 := by
    rw [hw2]
    exact (((((HB.out.alloc hs _).alloc (by simp; omega) _).alloc (by simp; omega) _).alloc (by simp; omega) _).alloc (by simp; omega) _).setCell (p := ⟨w'.heap.size, 0, none⟩) hs _
  clear hw2
  go_wp2_with fail
  go_ret2
  exact ⟨rfl, hb2⟩

set_option maxHeartbeats 1000000 in
theorem reason_fail (b : Nat) (x0 x2 : Value) (w : World) (hg : ErrTy w) (h0 : w.cell? ⟨b, 0, none⟩ = some x0) (h2 : w.cell? ⟨b, 2, none⟩ = some x2) :
    Calls Tryd.prog 4 #[.iface 27 (.pointer (some ⟨b, 0, none⟩))] w fun ev w' => ev = .returned (.tuple #[x2, x0]) ∧ Below w.heap.size w w' := by
  have G1 : ErrTy (w.alloc (.cells #[.pointer none] 27)) := hg.below ((Below.refl _ _).alloc (Nat.le_refl _) _)
  have HG := Lib.hid hg
  clear hg
  have hlt : b < w.heap.size := by
    rcases Nat.lt_or_ge b w.heap.size with h | h
    · exact h
    · simp [World.cell?, Array.getElem?_eq_none h] at h0
  go_enter Tryd.func4, Tryd.ntmps4
  go_wp2_with fail
  refine (as_fail ⟨b, 0, none⟩ ⟨w.heap.size, 0, none⟩ (.pointer none) _ G1 (by simp) (by simp)).mono ?_
  rintro ev w2 ⟨rfl, hw2⟩
  have hc2 : w2.cell? ⟨w.heap.size, 0, none⟩ = some (.pointer (some ⟨b, 0, none⟩)) := by
    rw [hw2]
    refine World.cell?_setCell_same (u := .pointer none) _ _ _ ?_
    rw [World.cell?_alloc_lt _ _ ⟨w.heap.size, 0, none⟩ (by simp; omega), World.cell?_alloc_lt _ _ ⟨w.heap.size, 0, none⟩ (by simp; omega), World.cell?_alloc_lt _ _ ⟨w.heap.size, 0, none⟩ (by simp; omega), World.cell?_alloc_lt _ _ ⟨w.heap.size, 0, none⟩ (by simp)]
    simp
  have hb2 : Below w.heap.size w w2 := by
    rw [hw2]
    exact ((((((Below.refl _ _).alloc (Nat.le_refl _) _).alloc (by simp) _).alloc (by simp; omega) _).alloc (by simp; omega) _).alloc (by simp; omega) _).setCell (p := ⟨w.heap.size, 0, none⟩) (Nat.le_refl _) _
  clear hw2
  have k0 : w2.cell? ⟨b, 0, none⟩ = some x0 := (hb2.cell (p := ⟨b, 0, none⟩) hlt).trans h0
  have k2 : w2.cell? ⟨b, 2, none⟩ = some x2 := (hb2.cell (p := ⟨b, 2, none⟩) hlt).trans h2
  clear h0 h2
  go_wp2_with fail
  go_quiet (fail)
  go_wp2_with fail
  go_ret2
  exact ⟨rfl, below_drewN hb2 _⟩

theorem unwrap_any (b : Nat) (n : Int) (w : World) (h2 : w.cell? ⟨b, 2, none⟩ = some (.int .i64 n)) :
    Calls Tryd.prog 5 #[.pointer (some ⟨b, 0, none⟩)] w fun e w' => e = .returned (.iface 22 (.int .i64 n)) ∧ w' = w := by
  go_enter Tryd.func5, Tryd.ntmps5
  go_wp2_with fail
  go_ret
  exact ⟨rfl, rfl⟩

set_option maxHeartbeats 2000000 in
theorem law_walk (at_ err code : Int) (name : ByteArray) (w : World) (hg : ErrTy w) :
    Calls Tryd.prog 3 #[.agg #[.int .i64 at_, .string name, .int .i64 err], .int .i64 code] w fun e w' => e = .returned (.bool true) ∧ Below w.heap.size w w' := by
  have G1 : ErrTy (w.alloc (.cells #[.int .i64 at_, .string name, .int .i64 err] 24)) := hg.below ((Below.refl _ _).alloc (Nat.le_refl _) _)
  clear hg
  go_enter Tryd.func3, Tryd.ntmps3
  go_wp2_with fail
  refine (reason_nil _).mono ?_
  rintro e w' ⟨rfl, rfl⟩
  go_wp2_with fail
  refine (reason_errno _ _ G1).mono ?_
  rintro e w' ⟨rfl, hb⟩
  have G2 : ErrTy w' := G1.below hb
  have k0 : w'.cell? ⟨w.heap.size, 0, none⟩ = some (.int .i64 at_) := by rw [hb.cell (p := ⟨w.heap.size, 0, none⟩) (by simp)]; simp
  have k1 : w'.cell? ⟨w.heap.size, 1, none⟩ = some (.string name) := by rw [hb.cell (p := ⟨w.heap.size, 1, none⟩) (by simp)]; simp
  have k2 : w'.cell? ⟨w.heap.size, 2, none⟩ = some (.int .i64 err) := by rw [hb.cell (p := ⟨w.heap.size, 2, none⟩) (by simp)]; simp
  have hb' : Below w.heap.size w w' := ((Below.refl _ _).alloc (Nat.le_refl _) _).trans (hb.mono (by simp))
  have hs : w.heap.size < w'.heap.size := by have := hb.size; simp at this; omega
  clear hb G1
  go_wp2_with fail
  have G3 : ErrTy (w'.alloc (.cells #[.int .i64 at_, .string name, .int .i64 err] 24)) := G2.below ((Below.refl _ _).alloc (Nat.le_refl _) _)
  clear G2
  refine (reason_fail w'.heap.size (.int .i64 at_) (.int .i64 err) _ G3 (by simp) (by simp)).mono ?_
  rintro e w2 ⟨rfl, hb⟩
  have j0 : w2.cell? ⟨w'.heap.size, 0, none⟩ = some (.int .i64 at_) := by rw [hb.cell (p := ⟨w'.heap.size, 0, none⟩) (by simp)]; simp
  have j1 : w2.cell? ⟨w'.heap.size, 1, none⟩ = some (.string name) := by rw [hb.cell (p := ⟨w'.heap.size, 1, none⟩) (by simp)]; simp
  have j2 : w2.cell? ⟨w'.heap.size, 2, none⟩ = some (.int .i64 err) := by rw [hb.cell (p := ⟨w'.heap.size, 2, none⟩) (by simp)]; simp
  have hb1 : Below w'.heap.size w' w2 := ((Below.refl _ _).alloc (Nat.le_refl _) _).trans (hb.mono (by simp))
  have hb2 : Below w.heap.size w w2 := hb'.trans (hb1.mono (by omega))
  have i0 : w2.cell? ⟨w.heap.size, 0, none⟩ = some (.int .i64 at_) := (hb1.cell (p := ⟨w.heap.size, 0, none⟩) hs).trans k0
  have i1 : w2.cell? ⟨w.heap.size, 1, none⟩ = some (.string name) := (hb1.cell (p := ⟨w.heap.size, 1, none⟩) hs).trans k1
  have i2 : w2.cell? ⟨w.heap.size, 2, none⟩ = some (.int .i64 err) := (hb1.cell (p := ⟨w.heap.size, 2, none⟩) hs).trans k2
  clear hb k0 k1 k2 hb' hb1 G3 hs
  have HB := Lib.hid hb2
  clear hb2
  have hif := fun (W : World) (a b : Int) => Lib.run_eql_iface_int (P := Tryd.prog) W (k := .i64) a b Tryd.underlying29 (by kernel_rfl : (Tryd.prog.info? 22).map (·.comparable) = some true) Tryd.underlying22
  go_wp2_with fail
  go_quiet ((go_at_call 5; exact Calls.quiet_of_same (unwrap_any _ _ _ (by assumption))))
  go_wp2_with fail
  go_ret
  exact ⟨rfl, below_drewN HB.out _⟩
end Go.Proofs.YtalknpihidcnmabDoor
