/-
  PROVED HERE: contracts of the reference's table (valiseref13): New, At, Put, Drop, over the list of pairs of TabMath.
  CONDITIONS: as the theorems say.
-/
import Derived.Test.YtejnhhpjlajngaaTab
import Derived.Deep.RegionHeld3
namespace Go.Proofs.Ytejnhhpjlajngaa
open Go.RowKit HeapM TabM Go.Maps

/-- the slice at A reads as ks, in blocks below B -/
def RdI (w : World) (B : Nat) (A : Option Addr) (ks : List Int) : Prop := ∀ k, k < ks.length → ∃ g, A = some ⟨g, 0, none⟩ ∧ g < B ∧ w.cell? ⟨g, k, none⟩ = some (.int .i64 (at_ ks k))

theorem RdI.keeps {w w' : World} {B : Nat} {A : Option Addr} {ks : List Int} {S : Nat → Prop} (h : RdI w B A ks) (k : Keeps S w w') (hB : B ≤ w.heap.size) (hS : ∀ g, A = some ⟨g, 0, none⟩ → g < B → ¬ S g) : RdI w' B A ks := by
  intro i hi
  obtain ⟨g, e, hg, hc⟩ := h i hi
  exact ⟨g, e, hg, (k.cell (p := ⟨g, i, none⟩) (by show g < _; omega) (hS g e hg)).trans hc⟩
theorem RdI.of_own {w : World} {base : Nat} {A : Option Addr} {c : Nat} {ks : List Int} (h : w.ownsRow base 3 1 (.slice A ks.length c) ks.length (ints ks)) : RdI w w.heap.size A ks := by
  intro k hk
  obtain ⟨g, cap, e, _, hlt⟩ := World.ownsRow.form h (by omega)
  injection e with e1 e2 e3
  subst e1
  exact ⟨g, rfl, hlt, by rw [h.cellAt k (by omega)]; exact ints_get hk⟩

/-- the place of h in ks, -1: there is none -/
def idx (ks : List Int) (h : Int) : Int := match ks.findIdx? (· == h) with | some i => i | none => -1
theorem idx_hit {ks : List Int} {h : Int} {k : Nat} (hk : k < ks.length) (he : at_ ks k = h) (hn : ∀ j, j < k → at_ ks j ≠ h) : idx ks h = k := by
  unfold idx
  have : ks.findIdx? (· == h) = some k := by
    rw [List.findIdx?_eq_some_iff_getElem]
    refine ⟨hk, by simpa [at_, List.getD_eq_getElem?_getD, hk] using he, fun j hj => ?_⟩
    have := hn j hj
    simpa [at_, List.getD_eq_getElem?_getD, Nat.lt_trans hj hk] using this
  rw [this]
theorem idx_miss {ks : List Int} {h : Int} (hn : ∀ j, j < ks.length → at_ ks j ≠ h) : idx ks h = -1 := by
  unfold idx
  have : ks.findIdx? (· == h) = none := by
    rw [List.findIdx?_eq_none_iff]
    intro x hx
    obtain ⟨k, hk, e⟩ := mem_at.1 hx
    have := hn k hk
    simpa [e] using this
  rw [this]

set_option maxRecDepth 100000 in
set_option maxHeartbeats 1000000 in
theorem ref_at (most peak : Value) (A : Option Addr) (c : Nat) (vs : Value) (ks : List Int) (h : Int) (w : World) (hr : RdI w w.heap.size A ks) (hl : ks.length ≤ 1048576) :
    Calls Try.prog 18 #[.agg #[most, peak, .slice A ks.length c, vs], .int .i64 h] w fun e w' => e = .returned (.int .i64 (idx ks h)) ∧ w' = w.alloc (.cells #[most, peak, .slice A ks.length c, vs] 32) := by
  have hr' := hr.keeps ((Keeps.refl (fun _ => False) w).alloc (.cells #[most, peak, .slice A ks.length c, vs] 32)) (Nat.le_refl _) (fun _ _ _ h => h)
  have HR := Lib.hid hr'
  clear hr'
  go_enter Try.func18, Try.ntmps18
  go_wp2_with fail
  go_loop [5] (fun v => ∃ k : Nat, v = .int .i64 k ∧ k ≤ ks.length ∧ Hid (∀ j, j < k → at_ ks j ≠ h)) (fun v => ks.length - (intOf v).toNat)
  case atStart => exact ⟨0, rfl, Nat.zero_le _, Lib.hid (fun j hj => by omega)⟩
  case round =>
    obtain ⟨k, rfl, hk, hn⟩ := hrel
    by_cases hlt : k < ks.length
    · obtain ⟨g, rfl, hg, hc⟩ := HR.out k hlt
      have hlt' : (k : Int) < (ks.length : Int) := by omega
      by_cases he : at_ ks k = h
      · have he' : (at_ ks k == h) = true := by simpa using he
        have HE := Lib.hid he
        clear he
        go_wp2_with fail
        go_ret
        exact ⟨by show Ending.returned (.int .i64 (k : Int)) = _; rw [idx_hit hlt HE.out hn.out], rfl⟩
      · have he' : (at_ ks k == h) = false := by simpa using he
        go_wp2_with fail
        go_round
        case rel => exact ⟨k + 1, by go_num, by omega, Lib.hid (fun j hj => by
          rcases Nat.lt_or_ge j k with h1 | h1
          · exact hn.out j h1
          · obtain rfl : j = k := by omega
            exact he)⟩
        case measure => simp [intOf]; omega
    · have hlt' : decide ((k : Int) < (ks.length : Int)) = false := by simp; omega
      go_wp2_with fail
      go_ret
      exact ⟨by show Ending.returned (.int .i64 (-1)) = _; rw [idx_miss (fun j hj => hn.out j (by omega))], rfl⟩
end Go.Proofs.Ytejnhhpjlajngaa
