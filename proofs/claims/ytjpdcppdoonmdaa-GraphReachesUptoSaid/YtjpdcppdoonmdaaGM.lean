/-
  PROVED HERE: maps of numbers as functions; the ways upwards in a map of parents.
  CONDITIONS: none. No statement of the seat is proved here.
-/
import Derived.Test.YtjpdcppdoonmdaaGC
import Derived.Test.YtjpdcppdoonmdaaVi
namespace Go.Proofs.Ytjpdcppdoonmdaa
open Go.RowKit Go.Maps
theorem lawI : Keyed Try.prog 3 := int_keyed Try.underlying3
theorem keyI {z : Int} (lo : -9223372036854775808 ≤ z) (hi : z ≤ 9223372036854775807) : keyOf Try.prog 3 (.int .i64 z) = some (.int .i64 z) :=
  keyOf_int_mk Try.underlying3 (WalkArith.wf_i64 (by omega))
/-- a map of numbers as a function of the key's datum -/
def mf (g : Int → Option Value) : Lit → Option Value
  | .int .i64 h => g h
  | _ => none
theorem mf_upd (g : Int → Option Value) (h : Int) (v : Option Value) : upd (mf g) (.int .i64 h) v = mf (fun z => if z = h then v else g z) := by
  funext x
  unfold upd mf
  cases x with
  | int k n =>
    by_cases hk : k = .i64
    · subst hk
      by_cases e : n = h
      · simp [Lit.sameKey, e]
      · simp [Lit.sameKey, e]
    · have e : (Lit.int k n).sameKey (.int .i64 h) = false := by simp [Lit.sameKey, hk]
      rw [e]
      cases k <;> first | rfl | exact absurd rfl hk
  | _ => rfl
theorem mf_none : mf (fun _ => none) = fun _ => none := by
  funext x
  unfold mf
  split <;> rfl
/-- the parents -/
def up (ps : List (Int × Int)) (z : Int) : Option Int := ps.lookup z
def pf (ps : List (Int × Int)) (z : Int) : Option Value := (up ps z).map (Value.int .i64)
theorem pf_some {ps : List (Int × Int)} {z : Int} {u : Value} (h : mf (pf ps) (.int .i64 z) = some u) : ∃ y, up ps z = some y ∧ u = .int .i64 y := by
  have h : (up ps z).map (Value.int .i64) = some u := h
  cases hu : up ps z with
  | none => rw [hu] at h; cases h
  | some y => rw [hu] at h; cases h; exact ⟨y, rfl, rfl⟩
theorem pf_cons {ps : List (Int × Int)} {a b : Int} : mf (fun z => if z = a then some (.int .i64 b) else pf ps z) = mf (pf ((a, b) :: ps)) := by
  congr 1
  funext z
  unfold pf up
  by_cases e : z = a
  · simp [e]
  · have : (z == a) = false := by simp [e]
    rw [if_neg e, List.lookup_cons, this]
def EndsIn (ps : List (Int × Int)) : Nat → Int → Prop
  | 0, z => up ps z = none
  | k + 1, z => ∃ y, up ps z = some y ∧ EndsIn ps k y
def Ends (ps : List (Int × Int)) (z : Int) : Prop := ∃ k, EndsIn ps k z
theorem EndsIn.uniq {ps : List (Int × Int)} : ∀ {k j : Nat} {z : Int}, EndsIn ps k z → EndsIn ps j z → k = j
  | 0, 0, _, _, _ => rfl
  | 0, j + 1, z, h, h' => by
    obtain ⟨y, hy, _⟩ := h'
    have h : up ps z = none := h
    rw [h] at hy
    cases hy
  | k + 1, 0, z, h', h => by
    obtain ⟨y, hy, _⟩ := h'
    have h : up ps z = none := h
    rw [h] at hy
    cases hy
  | k + 1, j + 1, z, ⟨y, hy, h⟩, ⟨y', hy', h'⟩ => by
    rw [hy] at hy'
    cases hy'
    rw [EndsIn.uniq h h']
theorem up_filter {ps : List (Int × Int)} {z x : Int} (h : ¬ x = z) : up (ps.filter (fun p => !(p.1 == z))) x = up ps x := by
  unfold up
  induction ps with
  | nil => rfl
  | cons p ps ih =>
    obtain ⟨a, b⟩ := p
    by_cases e : a = z
    · subst e
      have h1 : (x == a) = false := by simp [h]
      simp only [List.filter_cons, beq_self_eq_true, Bool.not_true, Bool.false_eq_true, if_false, List.lookup_cons, h1]
      exact ih
    · have h1 : (a == z) = false := by simp [e]
      simp only [List.filter_cons, h1, Bool.not_false, if_true, List.lookup_cons]
      rw [ih]
theorem EndsIn.le : ∀ (k : Nat) {ps : List (Int × Int)} {z : Int}, EndsIn ps k z → k ≤ ps.length
  | 0, _, _, _ => Nat.zero_le _
  | k + 1, ps, z, h => by
    have h0 := h
    obtain ⟨y, hy, hk⟩ := h0
    have hl : (ps.filter (fun p => !(p.1 == z))).length + 1 ≤ ps.length := by
      have hm : ∃ b, (z, b) ∈ ps := by
        unfold up at hy
        clear hk h
        induction ps with
        | nil => cases hy
        | cons p ps ih =>
          obtain ⟨a, b⟩ := p
          rw [List.lookup_cons] at hy
          by_cases e : z = a
          · subst e; exact ⟨b, List.mem_cons_self ..⟩
          · have h1 : (z == a) = false := by simp [e]
            rw [h1] at hy
            obtain ⟨c, hc⟩ := ih hy
            exact ⟨c, List.mem_cons_of_mem _ hc⟩
      obtain ⟨b, hb⟩ := hm
      have h1 : (ps.filter (fun p => !(p.1 == z))).length < ps.length := by
        rw [List.length_filter_lt_length_iff_exists]
        exact ⟨(z, b), hb, by simp⟩
      omega
    have aux : ∀ (j : Nat) (x : Int), j ≤ k → EndsIn ps j x → EndsIn (ps.filter (fun p => !(p.1 == z))) j x := by
      intro j
      induction j with
      | zero =>
        intro x _ hx
        have hx' : up ps x = none := hx
        have : ¬ x = z := fun e => by subst e; rw [hx'] at hy; cases hy
        show up _ x = none
        rw [up_filter this]
        exact hx'
      | succ j ih =>
        intro x hj hx
        have : ¬ x = z := fun e => by
          subst e
          have := EndsIn.uniq hx h
          omega
        obtain ⟨u, hu, hx'⟩ := hx
        exact ⟨u, by rw [up_filter this]; exact hu, ih u (by omega) hx'⟩
    have := EndsIn.le k (aux k y (Nat.le_refl _) hk)
    omega
/-- a way upwards -/
inductive Way (ps : List (Int × Int)) (z0 : Int) : List Int → Int → Prop
  | nil : Way ps z0 [] z0
  | snoc {w : List Int} {x y : Int} : Way ps z0 w x → up ps x = some y → Way ps z0 (w ++ [x]) y
theorem Ends.step {ps : List (Int × Int)} {x y : Int} (h : up ps x = some y) (hy : Ends ps y) : Ends ps x := let ⟨k, hk⟩ := hy; ⟨k + 1, y, h, hk⟩
theorem Way.ends {ps : List (Int × Int)} {z0 y : Int} {w : List Int} (h : Way ps z0 w y) (hy : Ends ps y) : Ends ps z0 ∧ ∀ x, x ∈ w → Ends ps x := by
  induction h with
  | nil => exact ⟨hy, fun x hx => by cases hx⟩
  | snoc hw hu ih =>
    obtain ⟨h1, h2⟩ := ih (Ends.step hu hy)
    refine ⟨h1, fun x hx => ?_⟩
    rcases List.mem_append.1 hx with hx | hx
    · exact h2 x hx
    · rw [List.mem_singleton.1 hx]; exact Ends.step hu hy
theorem Way.long {ps : List (Int × Int)} {z0 y : Int} {w : List Int} (h : Way ps z0 w y) : ∀ {k : Nat}, EndsIn ps k z0 → ∃ j, k = w.length + j ∧ EndsIn ps j y := by
  induction h with
  | nil => intro k hk; exact ⟨k, by simp, hk⟩
  | snoc hw hu ih =>
    intro k hk
    obtain ⟨j, hj, h⟩ := ih hk
    cases j with
    | zero =>
      have h : up ps _ = none := h
      rw [hu] at h
      cases h
    | succ j =>
      obtain ⟨y', hy', h⟩ := h
      rw [hu] at hy'
      cases hy'
      exact ⟨j, by simp; omega, h⟩
theorem Way.never {ps : List (Int × Int)} {z0 y : Int} {w : List Int} (h : Way ps z0 w y) (hl : ps.length < w.length) : ¬ Ends ps z0 := fun ⟨k, hk⟩ => by
  obtain ⟨j, hj, _⟩ := h.long hk
  have := EndsIn.le k hk
  omega
def AllEnd (ps : List (Int × Int)) : Prop := ∀ z, Ends ps z
noncomputable instance (ps : List (Int × Int)) : Decidable (AllEnd ps) := Classical.propDecidable _
def intsV (w : List Int) : List Value := w.map (Value.int .i64)
theorem RowA.cellI {e : TypeId} {A : Option Addr} {n cap : Nat} {w2 : List Int} {j : Nat} (hj : j < w2.length) : ∀ F w, (RowA e 1 A n cap (intsV w2)).h F w → w.cell? ⟨blkOf A, offOf A + j * 1, none⟩ = some (.int .i64 (w2.getD j 0)) := by
  intro F w h
  have hl := (RowA.len h).1
  have hx : (intsV w2)[j]? = some (.int .i64 (w2.getD j 0)) := by
    rw [intsV, List.getElem?_map, getD_some (x := 0) hj]; rfl
  obtain ⟨g, rfl⟩ := RowA.head h (by rw [intsV, List.length_map] at hl; omega)
  have := RowA.cell hx F w h
  rw [Nat.mul_one]
  show w.cell? ⟨g, 0 + j, none⟩ = _
  rw [Nat.zero_add]
  exact this
/-- a set of numbers as a map's function -/
def ff (fs : List Int) (z : Int) : Option Value := if z ∈ fs then some (.int .i64 1) else none
theorem ff_nil : mf (ff []) = fun _ => none := by
  rw [← mf_none]
  congr 1
theorem ff_upd (fs : List Int) (h : Int) : upd (mf (ff fs)) (.int .i64 h) (some (.int .i64 1)) = mf (ff (h :: fs)) := by
  rw [mf_upd]
  congr 1
  funext z
  unfold ff
  by_cases e : z = h
  · simp [e]
  · simp [e]
theorem range_left {ps : List (Int × Int)} {left : Lit → Bool} {z : Int} (hd : ∀ x y, up ps x = some y → left (.int .i64 x) = false → Ends ps x) (hz : Ends ps z) :
    ∀ x y, up ps x = some y → (left (.int .i64 x) && !(Lit.int .i64 x).sameKey (.int .i64 z)) = false → Ends ps x := by
  intro x y hx h
  by_cases e : x = z
  · rw [e]; exact hz
  · refine hd x y hx ?_
    simpa [Lit.sameKey, e] using h
theorem fn_bound {fn fn2 m L cnt cnt' : Nat} (h : fn ≤ (L - cnt) * (L + 2)) (h2 : fn2 ≤ fn + m) (hm : m ≤ L + 1) (hc : cnt' < cnt) (hL : cnt ≤ L) : fn2 ≤ (L - cnt') * (L + 2) := by
  have h1 : (L - cnt + 1) * (L + 2) ≤ (L - cnt') * (L + 2) := Nat.mul_le_mul_right _ (by omega)
  rw [Nat.add_mul, Nat.one_mul] at h1
  omega
theorem pf_at {ps : List (Int × Int)} {z y : Int} (h : up ps z = some y) : mf (pf ps) (.int .i64 z) = some (.int .i64 y) := by
  show (up ps z).map (Value.int .i64) = _
  rw [h]; rfl
theorem pf_at_none {ps : List (Int × Int)} {z : Int} (h : up ps z = none) : mf (pf ps) (.int .i64 z) = none := by
  show (up ps z).map (Value.int .i64) = _
  rw [h]; rfl
theorem wb_snoc {w : List Int} {x lo hi : Int} (h : ∀ y, y ∈ w → lo ≤ y ∧ y ≤ hi) (hx : lo ≤ x ∧ x ≤ hi) : ∀ y, y ∈ w ++ [x] → lo ≤ y ∧ y ≤ hi := by
  intro y hy
  rcases List.mem_append.1 hy with hy | hy
  · exact h y hy
  · rw [List.mem_singleton.1 hy]; exact hx
theorem way_root {ps : List (Int × Int)} {z0 x : Int} {w : List Int} (h : Way ps z0 w x) (hu : up ps x = none) : Ends ps z0 ∧ ∀ y, y ∈ w ++ [x] → Ends ps y := by
  have hx : Ends ps x := ⟨0, hu⟩
  obtain ⟨h1, h2⟩ := h.ends hx
  refine ⟨h1, fun y hy => ?_⟩
  rcases List.mem_append.1 hy with hy | hy
  · exact h2 y hy
  · rw [List.mem_singleton.1 hy]; exact hx
theorem getD_mem {w : List Int} {j : Nat} (h : j < w.length) : w.getD j 0 ∈ w := by
  rw [List.getD_eq_getElem?_getD, List.getElem?_eq_getElem h]
  exact List.getElem_mem h
end Go.Proofs.Ytjpdcppdoonmdaa
