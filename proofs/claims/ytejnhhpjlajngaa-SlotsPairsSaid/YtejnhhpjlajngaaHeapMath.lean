/-
  PROVED HERE: plain lemmas on binary heaps of integers in a list (sift up, sift down). No program.
  CONDITIONS: none.
-/
namespace Go.Proofs.Ytejnhhpjlajngaa.HeapM

def at_ (l : List Int) (i : Nat) : Int := l.getD i 0
def swp (l : List Int) (i j : Nat) : List Int := (l.set i (at_ l j)).set j (at_ l i)
def Hp (n : Nat) (l : List Int) : Prop := ∀ i, 0 < i → i < n → at_ l ((i - 1) / 2) ≤ at_ l i
def Inj (l : List Int) : Prop := ∀ a b, a < l.length → b < l.length → at_ l a = at_ l b → a = b
def UpAt (l : List Int) (j : Nat) : Prop :=
  (∀ i, 0 < i → i < l.length → i ≠ j → at_ l ((i - 1) / 2) ≤ at_ l i) ∧ (∀ i, 0 < i → i < l.length → (i - 1) / 2 = j → 0 < j → at_ l ((j - 1) / 2) ≤ at_ l i)
def DownAt (n : Nat) (l : List Int) (i : Nat) : Prop :=
  (∀ k, 0 < k → k < n → (k - 1) / 2 ≠ i → at_ l ((k - 1) / 2) ≤ at_ l k) ∧ (∀ k, 0 < k → k < n → (k - 1) / 2 = i → 0 < i → at_ l ((i - 1) / 2) ≤ at_ l k)
/-- the same numbers -/
structure Same (l l' : List Int) : Prop where
  len : l'.length = l.length
  mem : ∀ x, x ∈ l' ↔ x ∈ l
  inj : Inj l → Inj l'

theorem mem_at {l : List Int} {x : Int} : x ∈ l ↔ ∃ k, k < l.length ∧ at_ l k = x := by
  rw [List.mem_iff_getElem]
  constructor
  · rintro ⟨i, h, e⟩
    exact ⟨i, h, by simp [at_, List.getD_eq_getElem?_getD, h, e]⟩
  · rintro ⟨i, h, e⟩
    exact ⟨i, h, by simpa [at_, List.getD_eq_getElem?_getD, h] using e⟩
theorem len_swp (l : List Int) (i j : Nat) : (swp l i j).length = l.length := by simp [swp]
def sw (i j k : Nat) : Nat := if k = j then i else if k = i then j else k
theorem at_swp {l : List Int} {i j : Nat} (hi : i < l.length) (hj : j < l.length) (k : Nat) : at_ (swp l i j) k = at_ l (sw i j k) := by
  unfold swp at_ sw
  simp only [List.getD_eq_getElem?_getD, List.getElem?_set, List.length_set]
  by_cases h1 : j = k
  · subst h1; simp [hj]
  · by_cases h2 : i = k
    · subst h2; simp [h1, hi, Ne.symm h1]
    · simp [h1, h2, Ne.symm h1, Ne.symm h2]
theorem sw_sw (i j k : Nat) : sw i j (sw i j k) = k := by unfold sw; (repeat' split) <;> omega
theorem sw_lt {i j k n : Nat} (hi : i < n) (hj : j < n) (hk : k < n) : sw i j k < n := by unfold sw; (repeat' split) <;> omega
theorem Same.refl (l : List Int) : Same l l := ⟨rfl, fun _ => Iff.rfl, fun h => h⟩
theorem Same.trans {l l' l'' : List Int} (h : Same l l') (k : Same l' l'') : Same l l'' := ⟨k.len.trans h.len, fun x => (k.mem x).trans (h.mem x), fun i => k.inj (h.inj i)⟩
theorem Same.swp {l : List Int} {i j : Nat} (hi : i < l.length) (hj : j < l.length) : Same l (swp l i j) := by
  refine ⟨len_swp l i j, fun x => ?_, fun inj a b ha hb e => ?_⟩
  · rw [mem_at, mem_at, len_swp]
    constructor
    · rintro ⟨k, hk, e⟩
      exact ⟨sw i j k, sw_lt hi hj hk, by rw [← at_swp hi hj]; exact e⟩
    · rintro ⟨k, hk, e⟩
      exact ⟨sw i j k, sw_lt hi hj hk, by rw [at_swp hi hj, sw_sw]; exact e⟩
  · rw [len_swp] at ha hb
    rw [at_swp hi hj, at_swp hi hj] at e
    have := inj _ _ (sw_lt hi hj ha) (sw_lt hi hj hb) e
    rw [← sw_sw i j a, this, sw_sw]
/-! ### up -/
theorem up_end {l : List Int} {j : Nat} (h : UpAt l j) (he : j = 0 ∨ at_ l ((j - 1) / 2) ≤ at_ l j) : Hp l.length l := by
  intro i h0 hi
  by_cases e : i = j
  · subst e
    rcases he with he | he
    · omega
    · exact he
  · exact h.1 i h0 hi e
theorem up_step {l : List Int} {j : Nat} (h : UpAt l j) (h0 : 0 < j) (hj : j < l.length) (hlt : at_ l j < at_ l ((j - 1) / 2)) : UpAt (swp l ((j - 1) / 2) j) ((j - 1) / 2) := by
  have hp : (j - 1) / 2 < l.length := by omega
  have hne : (j - 1) / 2 ≠ j := by omega
  refine ⟨fun i i0 il ine => ?_, fun i i0 il ip p0 => ?_⟩
  · rw [len_swp] at il
    rw [at_swp hp hj, at_swp hp hj]
    by_cases e1 : i = j
    · subst e1
      rw [show sw ((i - 1) / 2) i ((i - 1) / 2) = i by unfold sw; rw [if_neg hne, if_pos rfl], show sw ((i - 1) / 2) i i = (i - 1) / 2 by unfold sw; rw [if_pos rfl]]
      omega
    · rw [show sw ((j - 1) / 2) j i = i by unfold sw; rw [if_neg e1, if_neg ine]]
      by_cases e2 : (i - 1) / 2 = j
      · rw [show sw ((j - 1) / 2) j ((i - 1) / 2) = (j - 1) / 2 by unfold sw; rw [if_pos e2]]
        exact h.2 i i0 il e2 h0
      · by_cases e3 : (i - 1) / 2 = (j - 1) / 2
        · rw [show sw ((j - 1) / 2) j ((i - 1) / 2) = j by unfold sw; rw [if_neg e2, if_pos e3]]
          have := h.1 i i0 il e1
          rw [e3] at this
          omega
        · rw [show sw ((j - 1) / 2) j ((i - 1) / 2) = (i - 1) / 2 by unfold sw; rw [if_neg e2, if_neg e3]]
          exact h.1 i i0 il e1
  · rw [len_swp] at il
    rw [at_swp hp hj, at_swp hp hj]
    have a1 := h.1 ((j - 1) / 2) p0 hp hne
    rw [show sw ((j - 1) / 2) j (((j - 1) / 2 - 1) / 2) = ((j - 1) / 2 - 1) / 2 by unfold sw; rw [if_neg (by omega), if_neg (by omega)]]
    by_cases e1 : i = j
    · subst e1
      rw [show sw ((i - 1) / 2) i i = (i - 1) / 2 by unfold sw; rw [if_pos rfl]]
      exact a1
    · have a2 := h.1 i i0 il e1
      rw [show sw ((j - 1) / 2) j i = i by unfold sw; rw [if_neg e1, if_neg (by omega)]]
      rw [ip] at a2
      omega
/-! ### down -/
theorem down_end {n : Nat} {l : List Int} {i : Nat} (h : DownAt n l i) (h1 : 2 * i + 1 < n → at_ l i ≤ at_ l (2 * i + 1)) (h2 : 2 * i + 2 < n → at_ l i ≤ at_ l (2 * i + 2)) : Hp n l := by
  intro k k0 kn
  by_cases e : (k - 1) / 2 = i
  · rw [e]
    rcases (show k = 2 * i + 1 ∨ k = 2 * i + 2 by omega) with e1 | e1
    · rw [e1]; exact h1 (by omega)
    · rw [e1]; exact h2 (by omega)
  · exact h.1 k k0 kn e
theorem down_step {n : Nat} {l : List Int} {i j : Nat} (h : DownAt n l i) (hj : j = 2 * i + 1 ∨ j = 2 * i + 2) (hjn : j < n) (hn : n ≤ l.length)
    (h1 : at_ l j ≤ at_ l (2 * i + 1)) (h2 : 2 * i + 2 < n → at_ l j ≤ at_ l (2 * i + 2)) (hlt : at_ l j < at_ l i) : DownAt n (swp l i j) j := by
  have hi : i < l.length := by omega
  have hjl : j < l.length := by omega
  refine ⟨fun k k0 kn kne => ?_, fun k k0 kn ke j0 => ?_⟩
  · rw [at_swp hi hjl, at_swp hi hjl]
    by_cases e1 : (k - 1) / 2 = i
    · rw [e1, show sw i j i = j by unfold sw; rw [if_neg (by omega), if_pos rfl]]
      by_cases e2 : k = j
      · rw [e2, show sw i j j = i by unfold sw; rw [if_pos rfl]]; omega
      · rw [show sw i j k = k by unfold sw; rw [if_neg e2, if_neg (by omega)]]
        rcases (show k = 2 * i + 1 ∨ k = 2 * i + 2 by omega) with e3 | e3
        · rw [e3]; exact h1
        · rw [e3]; exact h2 (by omega)
    · rw [show sw i j ((k - 1) / 2) = (k - 1) / 2 by unfold sw; rw [if_neg kne, if_neg e1]]
      by_cases e2 : k = i
      · rw [e2, show sw i j i = j by unfold sw; rw [if_neg (by omega), if_pos rfl], ← e2]
        have hjk : (j - 1) / 2 = i := by omega
        rw [e2]
        exact h.2 j (by omega) hjn hjk (by omega)
      · rw [show sw i j k = k by unfold sw; rw [if_neg (by omega), if_neg e2]]
        exact h.1 k k0 kn e1
  · rw [at_swp hi hjl, at_swp hi hjl]
    rw [show (j - 1) / 2 = i by omega, show sw i j i = j by unfold sw; rw [if_neg (by omega), if_pos rfl], show sw i j k = k by unfold sw; rw [if_neg (by omega), if_neg (by omega)]]
    have := h.1 k k0 kn (by omega)
    rw [ke] at this
    exact this
theorem least {n : Nat} {l : List Int} (h : Hp n l) : ∀ k, k < n → at_ l 0 ≤ at_ l k := by
  intro k
  induction k using Nat.strongRecOn with
  | _ k ih =>
    intro hk
    rcases Nat.eq_zero_or_pos k with e | e
    · rw [e]; omega
    · have a1 := ih ((k - 1) / 2) (by omega) (by omega)
      have a2 := h k e hk
      omega
theorem down_begin {n : Nat} {l : List Int} (h : Hp (n + 1) l) (hl : l.length = n + 1) : DownAt n (swp l 0 n) 0 := by
  refine ⟨fun k k0 kn kne => ?_, fun k _ _ _ h0 => by omega⟩
  rw [at_swp (by omega) (by omega), at_swp (by omega) (by omega)]
  rw [show sw 0 n ((k - 1) / 2) = (k - 1) / 2 by unfold sw; rw [if_neg (by omega), if_neg kne], show sw 0 n k = k by unfold sw; rw [if_neg (by omega), if_neg (by omega)]]
  exact h k k0 (by omega)
theorem up_begin {l : List Int} (h : Hp l.length l) (x : Int) : UpAt (l ++ [x]) l.length := by
  have e : ∀ k, k < l.length → at_ (l ++ [x]) k = at_ l k := fun k hk => by
    unfold at_
    rw [List.getD_eq_getElem?_getD, List.getD_eq_getElem?_getD, List.getElem?_append_left hk]
  refine ⟨fun i i0 il ine => ?_, fun i i0 il ip => ?_⟩
  · rw [List.length_append, List.length_singleton] at il
    rw [e _ (by omega), e _ (by omega)]
    exact h i i0 (by omega)
  · rw [List.length_append, List.length_singleton] at il
    omega
/-- what is left when the last is taken away -/
theorem pop_mem {l : List Int} {n : Nat} (hl : l.length = n + 1) (hi : Inj l) (x : Int) : x ∈ l.take n ↔ x ∈ l ∧ x ≠ at_ l n := by
  constructor
  · intro h
    refine ⟨List.mem_of_mem_take h, ?_⟩
    rintro rfl
    obtain ⟨k, hk, e⟩ := List.mem_iff_getElem.1 h
    simp at hk e
    have := hi k n (by omega) (by omega) (by simp [at_, List.getD_eq_getElem?_getD, show k < l.length by omega, e])
    omega
  · rintro ⟨h, hne⟩
    obtain ⟨k, hk, e⟩ := mem_at.1 h
    have : k ≠ n := by rintro rfl; exact hne e.symm
    refine List.mem_iff_getElem.2 ⟨k, by simp; omega, ?_⟩
    simp only [at_, List.getD_eq_getElem?_getD, hk, List.getElem?_eq_getElem, Option.getD_some] at e
    simpa using e
theorem at_take {l : List Int} {n k : Nat} (hk : k < n) : at_ (l.take n) k = at_ l k := by simp [at_, List.getD_eq_getElem?_getD, hk]
theorem hp_take {l : List Int} {n : Nat} (h : Hp n l) : Hp n (l.take n) := fun i i0 hi => by rw [at_take hi, at_take (by omega)]; exact h i i0 hi
theorem inj_take {l : List Int} {n : Nat} (h : Inj l) : Inj (l.take n) := fun a b ha hb e => by
  simp at ha hb
  rw [at_take (by omega), at_take (by omega)] at e
  exact h a b (by omega) (by omega) e
end Go.Proofs.Ytejnhhpjlajngaa.HeapM
