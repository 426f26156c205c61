/-
  PROVED HERE: plain laws of the array of parents.
  CONDITIONS: none. No statement of the seat is proved here.
-/
import Derived.Test.YtjpdcppdoonmdaaGRead
import Derived.Test.YtjpdcppdoonmdaaVw
namespace Go.Proofs.Ytjpdcppdoonmdaa
open Go.RowKit Go.Maps
def parI (ed : List (Nat × Nat)) (k : Nat) : Int := match ed.lookup k with | some a => (a : Int) | none => -1
structure Par (n : Nat) (pl : List Int) (ed : List (Nat × Nat)) : Prop where
  len : pl.length = n
  at_ : ∀ k, k < n → pl.getD k 0 = parI ed k
theorem intsV_get {w : List Int} {j : Nat} (hj : j < w.length) : (intsV w)[j]? = some (.int .i64 (w.getD j 0)) := by
  rw [intsV, List.getElem?_map, getD_some (x := 0) hj]; rfl
theorem intsV_set (pl : List Int) (k : Nat) (x : Int) : (intsV pl).set k (.int .i64 x) = intsV (pl.set k x) := by
  unfold intsV
  rw [List.map_set]
theorem getD_set {pl : List Int} {k j : Nat} {x : Int} (hk : k < pl.length) : (pl.set k x).getD j 0 = if j = k then x else pl.getD j 0 := by
  rw [List.getD_eq_getElem?_getD, List.getD_eq_getElem?_getD, List.getElem?_set]
  by_cases e : k = j
  · subst e; simp [hk]
  · have : ¬ j = k := fun h => e h.symm
    simp [e, this]
theorem Par.put {n : Nat} {pl : List Int} {ed : List (Nat × Nat)} (h : Par n pl ed) {k a : Nat} (hk : k < n) : Par n (pl.set k (a : Int)) ((k, a) :: ed) := by
  refine ⟨by rw [List.length_set]; exact h.len, fun j hj => ?_⟩
  rw [getD_set (by rw [h.len]; exact hk)]
  unfold parI
  rw [List.lookup_cons]
  by_cases e : j = k
  · subst e; simp
  · have : (j == k) = false := by simp [e]
    rw [if_neg e, this, h.at_ j hj]
    rfl
theorem parI_none {ed : List (Nat × Nat)} {k : Nat} : parI ed k < 0 ↔ k ∉ ed.map Prod.fst := by
  unfold parI
  induction ed with
  | nil => simp
  | cons p ed ih =>
    obtain ⟨a, b⟩ := p
    rw [List.lookup_cons]
    by_cases e : k = a
    · subst e
      simp
    · have h1 : (k == a) = false := by simp [e]
      rw [h1]
      simp only [List.map_cons, List.mem_cons, not_or]
      exact ih.trans ⟨fun h => ⟨e, h⟩, fun h => h.2⟩
theorem parI_up {ns : List NodeM} {ed : List (Nat × Nat)} {k : Nat} (hr : Rising ns) (hk : k < ns.length) (hp : ∀ p, p ∈ ed → p.1 < ns.length) :
    (parI ed k < 0 ∧ up (ed.map (idP ns)) (nd ns k).id = none) ∨ ∃ a : Nat, parI ed k = (a : Int) ∧ (k, a) ∈ ed ∧ up (ed.map (idP ns)) (nd ns k).id = some (nd ns a).id := by
  unfold parI up
  induction ed with
  | nil => exact .inl ⟨by simp, rfl⟩
  | cons p ed ih =>
    obtain ⟨a, b⟩ := p
    rw [List.map_cons, idP, List.lookup_cons, List.lookup_cons]
    by_cases e : k = a
    · subst e
      exact .inr ⟨b, by simp, List.mem_cons_self .., by simp⟩
    · have h1 : (k == a) = false := by simp [e]
      have h2 : ((nd ns k).id == (nd ns a).id) = false := by
        simp
        exact fun h => e (hr.inj hk (hp (a, b) (List.mem_cons_self ..)) h)
      rw [h1, h2]
      rcases ih (fun p hp' => hp p (List.mem_cons_of_mem _ hp')) with h | ⟨c, h3, h4, h5⟩
      · exact .inl h
      · exact .inr ⟨c, h3, List.mem_cons_of_mem _ h4, h5⟩
theorem Way.back {ps : List (Int × Int)} {z0 : Int} {w : List Int} (h : Way ps z0 w z0) (hl : 0 < w.length) : ¬ Ends ps z0 := fun ⟨k, hk⟩ => by
  obtain ⟨j, hj, h2⟩ := h.long hk
  have := EndsIn.uniq hk h2
  omega
theorem nodup_lt : ∀ (n : Nat) (l : List Nat), l.Nodup → (∀ x, x ∈ l → x < n) → l.length ≤ n
  | 0, [], _, _ => Nat.le_refl _
  | 0, a :: l, _, h => absurd (h a (List.mem_cons_self ..)) (Nat.not_lt_zero a)
  | n + 1, l, hn, h => by
    have h1 := nodup_lt n (l.erase n) (hn.erase n) (fun x hx => by
      have h2 := (List.Nodup.mem_erase_iff hn).1 hx
      have := h x h2.2
      omega)
    by_cases hm : n ∈ l
    · have := List.length_erase_of_mem hm
      omega
    · rw [List.erase_of_not_mem hm] at h1
      omega
theorem allEnd_of {ns : List NodeM} {ed : List (Nat × Nat)} (hp : ∀ p, p ∈ ed → p.1 < ns.length) (h : ∀ i, i < ns.length → Ends (ed.map (idP ns)) (nd ns i).id) : AllEnd (ed.map (idP ns)) := by
  intro z
  cases hu : up (ed.map (idP ns)) z with
  | none => exact ⟨0, hu⟩
  | some y =>
    have : ∃ p, p ∈ ed ∧ z = (nd ns p.1).id := by
      unfold up at hu
      clear h
      induction ed with
      | nil => cases hu
      | cons p ed ih =>
        rw [List.map_cons, idP, List.lookup_cons] at hu
        by_cases e : (z == (nd ns p.1).id) = true
        · exact ⟨p, List.mem_cons_self .., by simpa using e⟩
        · have e : (z == (nd ns p.1).id) = false := by simpa using e
          rw [e] at hu
          obtain ⟨q, hq, h2⟩ := ih (fun p hp' => hp p (List.mem_cons_of_mem _ hp')) hu
          exact ⟨q, List.mem_cons_of_mem _ hq, h2⟩
    obtain ⟨p, h1, rfl⟩ := this
    exact h p.1 (hp p h1)
theorem way_next {ns : List NodeM} {ed : List (Nat × Nat)} {pl : List Int} {z : Int} {b m : Nat} {w : List Int} (hr : Rising ns) (hp : ∀ p, p ∈ ed → p.1 < ns.length ∧ p.2 < ns.length) (hpar : Par ns.length pl ed) (hb : b < ns.length) (hw : Way (ed.map (idP ns)) z w (nd ns b).id) (hm : w.length = m) :
    (pl.getD b 0 < 0 ∧ Ends (ed.map (idP ns)) z) ∨ ∃ q : Nat, pl.getD b 0 = (q : Int) ∧ q < ns.length ∧ Way (ed.map (idP ns)) z (w ++ [(nd ns b).id]) (nd ns q).id ∧ (w ++ [(nd ns b).id]).length = m + 1 := by
  rw [hpar.at_ b hb]
  rcases parI_up hr hb (fun p h => (hp p h).1) with ⟨h1, h2⟩ | ⟨a, h1, h2, h3⟩
  · exact .inl ⟨h1, (hw.ends ⟨0, h2⟩).1⟩
  · exact .inr ⟨a, h1, (hp _ h2).2, hw.snoc h3, by simp; omega⟩
theorem entOk_of {ns : List NodeM} {i j : Nat} (h1 : 0 ≤ atI ns (ent ns i j).id) (h2 : GoodName (ent ns i j).name) (h3 : 0 < j → ¬ strLe (ent ns i j).name (ent ns i (j - 1)).name) : EntOk ns i j := by
  refine ⟨h1, h2, ?_⟩
  cases j with
  | zero =>
    intro h
    have := strLe_empty.1 h
    have h4 := h2.1
    rw [this] at h4
    exact absurd h4 (by decide)
  | succ j => exact h3 (Nat.succ_pos j)
theorem lastId_pos {ns : List NodeM} {k : Nat} (h : 0 < k) : lastId ns k = (nd ns (k - 1)).id := by
  cases k with
  | zero => omega
  | succ k => rfl
theorem prevName_pos {ns : List NodeM} {i j : Nat} (h : 0 < j) : prevName ns i j = (ent ns i (j - 1)).name := by
  cases j with
  | zero => omega
  | succ j => rfl
theorem GraphOk.few {ns : List NodeM} (h : GraphOk ns) : ((allE ns ns.length).map (idP ns)).length ≤ ns.length := by
  rw [List.length_map]
  have h1 := allE_fst (ns := ns) (Nat.le_refl _) h.ents
  have h2 := nodup_lt ns.length ((allE ns ns.length).map Prod.fst) h.nodup (fun x hx => by
    obtain ⟨p, hp, rfl⟩ := List.mem_map.1 hx
    exact (h1 p hp).1)
  rwa [List.length_map] at h2
end Go.Proofs.Ytjpdcppdoonmdaa
