/-
  PROVED HERE: contracts of container/heap's up, down, Push and Pop at a *slots.free.
  CONDITIONS: as the theorems say: the pointer's cell holds a slice that owns its row; the numbers are a heap; at most 1048576 of them.
-/
import Derived.Test.YtejnhhpjlajngaaFree
import Derived.Test.YtejnhhpjlajngaaHeapMath
import Derived.LoopTactic
namespace Go.Proofs.Ytejnhhpjlajngaa
open Go.RowKit HeapM

def ints (l : List Int) : List Value := l.map (Value.int .i64)

theorem free_less_i (g n c a b : Nat) (i j : Int) (hi : i = (a : Int)) (hj : j = (b : Int)) (x y : Int) (w : World) (ha : a < n) (hb : b < n) (ci : w.cell? ⟨g, a, none⟩ = some (.int .i64 x)) (cj : w.cell? ⟨g, b, none⟩ = some (.int .i64 y)) :
    Calls Try.prog 86 #[.slice (some ⟨g, 0, none⟩) n c, .int .i64 i, .int .i64 j] w fun e w' => e = .returned (.bool (decide (x < y))) ∧ ∃ m, w' = w.drewN m := by
  subst hi hj; exact free_less g n c a b x y w ha hb ci cj

/-- the world of the heap: the cell that holds the slice, the row -/
structure HW (t o g c base : Nat) (l : List Int) (w : World) : Prop where
  cell : w.cell? ⟨t, o, none⟩ = some (.slice (some ⟨g, 0, none⟩) l.length c)
  own : w.ownsRow base 3 1 (.slice (some ⟨g, 0, none⟩) l.length c) l.length (ints l)
  ne : t ≠ g
  lt : t < w.heap.size

theorem ints_get {l : List Int} {k : Nat} (hk : k < l.length) : (ints l)[k]? = some (.int .i64 (at_ l k)) := by
  simp [ints, at_, List.getD_eq_getElem?_getD, hk]

section hw
variable {t o g c base : Nat} {l : List Int} {w : World}
theorem HW.at (h : HW t o g c base l w) {k : Nat} (hk : k < l.length) : w.cell? ⟨g, k, none⟩ = some (.int .i64 (at_ l k)) := by
  rw [h.own.cellAt k (by omega)]
  exact ints_get hk
theorem HW.drewN (h : HW t o g c base l w) (m : Nat) : HW t o g c base l (w.drewN m) := ⟨h.cell, h.own, h.ne, h.lt⟩
theorem HW.glt (h : HW t o g c base l w) : g < w.heap.size := (h.own.lt g rfl).2
theorem HW.swap (h : HW t o g c base l w) (i j : Nat) :
    HW t o g c base (swp l i j) ((w.setCell ⟨g, i, none⟩ (.int .i64 (at_ l j))).setCell ⟨g, j, none⟩ (.int .i64 (at_ l i))) := by
  have e1 : ints (swp l i j) = ((ints l).set i (.int .i64 (at_ l j))).set j (.int .i64 (at_ l i)) := by
    simp [ints, swp, List.map_set]
  refine ⟨?_, ?_, h.ne, by simpa [World.setCell] using h.lt⟩
  · rw [len_swp, World.cell?_setCell_other _ _ _ _ (fun e => h.ne (by injection e with e; exact e.symm)), World.cell?_setCell_other _ _ _ _ (fun e => h.ne (by injection e with e; exact e.symm))]
    exact h.cell
  · rw [len_swp, e1]
    exact ((h.own.stored i _).1.stored j _).1
end hw

theorem free_swap_i (t o g c base : Nat) (l : List Int) (a b : Nat) (i j : Int) (hi : i = (a : Int)) (hj : j = (b : Int)) (w : World) (h : HW t o g c base l w) (ha : a < l.length) (hb : b < l.length) (hne : a ≠ b) :
    Calls Try.prog 87 #[.slice (some ⟨g, 0, none⟩) l.length c, .int .i64 i, .int .i64 j] w fun e w' => e = .returned (.tuple #[]) ∧ HW t o g c base (swp l a b) w' ∧ Keeps (· = g) w w' := by
  subst hi hj
  refine (free_swap g l.length c a b (at_ l a) (at_ l b) w ha hb hne (h.at ha) (h.at hb) (h.own.frozenAt a) (h.own.frozenAt b)).mono fun e w' ⟨he, m, hw⟩ => ⟨he, ?_, ?_⟩
  · rw [hw]; exact (h.swap a b).drewN m
  · rw [hw]; exact (((Keeps.refl (· = g) w).setCell (p := ⟨g, a, none⟩) (.inr rfl) _).setCell (p := ⟨g, b, none⟩) (.inr rfl) _).drewN m

/-- the look-ups through the interface, at the slice that the cell holds -/
structure Looks (a : Addr) (V : Value) : Prop where
  less : ∀ w : World, w.cell? a = some V → (Go.method 227 66 (.pointer (some a)) "Less").run Try.prog w = .ok (86, V) w
  swap : ∀ w : World, w.cell? a = some V → (Go.method 227 66 (.pointer (some a)) "Swap").run Try.prog w = .ok (87, V) w
  len : ∀ w : World, w.cell? a = some V → (Go.method 227 66 (.pointer (some a)) "Len").run Try.prog w = .ok (85, V) w
theorem looks (a : Addr) (V : Value) : Looks a V := ⟨m_less a V, m_swap a V, m_len a V⟩

set_option maxHeartbeats 1000000 in
theorem heap_up (t o g c base : Nat) (l : List Int) (j : Nat) (w : World) (h : HW t o g c base l w) (hj : j < l.length) (hu : UpAt l j) (hm : l.length ≤ 1048576) :
    Calls Try.prog 36 #[.iface 66 (.pointer (some ⟨t, o, none⟩)), .int .i64 j] w fun e w' => e = .returned (.tuple #[]) ∧
      ∃ l', Same l l' ∧ Hp l'.length l' ∧ HW t o g c base l' w' ∧ Keeps (· = g) w w' := by
  have L := looks ⟨t, o, none⟩ (.slice (some ⟨g, 0, none⟩) l.length c)
  have nl := n_less ⟨t, o, none⟩
  have ns := n_swap ⟨t, o, none⟩
  go_enter Try.func36, Try.ntmps36
  go_wp2_with fail
  go_loopw [1] (fun v wr => ∃ (j : Nat) (l' : List Int), v = .int .i64 j ∧ j < l'.length ∧ Same l l' ∧ UpAt l' j ∧ HW t o g c base l' wr ∧ Keeps (· = g) w wr) (fun v _ => (intOf v).toNat)
  case atStart => exact ⟨j, l, rfl, hj, Same.refl l, hu, h, Keeps.refl _ _⟩
  case round =>
    obtain ⟨j, l', rfl, hj', hs, hu', hw, hk⟩ := hrel
    have hc := hw.cell
    rw [hs.len] at hc
    have LL := L.less wr hc
    by_cases h0 : j = 0
    · subst h0
      have HU := Lib.hid hu'
      clear hu'
      go_wp2_with fail
      go_end0
      exact ⟨rfl, l', hs, up_end HU.out (.inl rfl), hw, hk⟩
    · have hj1 : 1 ≤ j := by omega
      have hj2 : j ≤ 1048576 := by have := hs.len; omega
      have hi1 : (j - 1) / 2 < l'.length := by omega
      have hjn : ((((j : Int) - 1) / 2) == (j : Int)) = false := by rw [beq_eq_false_iff_ne]; omega
      have HU := Lib.hid hu'
      clear hu'
      go_wp2_with fail
      refine (free_less_i g l.length c j ((j - 1) / 2) _ _ rfl (by omega) (at_ l' j) (at_ l' ((j - 1) / 2)) _ (by rw [← hs.len]; exact hj') (by rw [← hs.len]; exact hi1) (hw.at hj') (hw.at hi1)).mono ?_
      rintro e w1 ⟨rfl, m, rfl⟩
      have hw1 := hw.drewN m
      by_cases hlt : at_ l' j < at_ l' ((j - 1) / 2)
      · have LS := L.swap (wr.drewN m) hc
        go_wp2_with fail
        have HL := Lib.hid hs.len
        have sw := free_swap_i t o g c base l' ((j - 1) / 2) j
        rw [hs.len] at sw
        refine (sw _ _ (by omega) rfl _ hw1 (by have := HL.out; omega) (by have := HL.out; omega) (by omega)).mono ?_
        rintro e w2 ⟨rfl, hw2, hk2⟩
        clear sw
        go_wp2_with fail
        go_roundw
        case rel => exact ⟨(j - 1) / 2, _, by go_num, by rw [len_swp]; exact hi1, hs.trans (Same.swp hi1 hj'), up_step HU.out hj1 hj' hlt, hw2, (hk.drewN m).trans hk2⟩
        case measure => simp [intOf]; omega
      · have hnl : decide (at_ l' j < at_ l' ((j - 1) / 2)) = false := by simpa using hlt
        go_wp2_with fail
        go_end0
        exact ⟨rfl, l', hs, up_end HU.out (.inr (by omega)), hw1, hk.drewN m⟩
end Go.Proofs.Ytejnhhpjlajngaa
