/-
  PROVED HERE: plain lemmas on a table of handles as a list of pairs by rising handle: the least handle that is free, putting in, taking out, and how they go with a list of numbers given back and a counter. No program.
  CONDITIONS: none.
-/
import Derived.Test.YtejnhhpjlajngaaHeapMath
namespace Go.Proofs.Ytejnhhpjlajngaa.TabM
open HeapM
variable {V U : Type}

/-- the handles in use, with what they stand for, by rising handle -/
abbrev Used (V : Type) := List (Int × V)
def keys (us : Used V) : List Int := us.map (·.1)
def get (us : Used V) (h : Int) : Option V := (us.find? (fun p => p.1 == h)).map (·.2)
def Rising : List Int → Prop := List.Pairwise (· < ·)
def leastFrom : Int → List Int → Int
  | h, [] => h
  | h, k :: r => if k = h then leastFrom (h + 1) r else h
def least (us : Used V) : Int := leastFrom 1 (keys us)
def ins (h : Int) (v : V) : Used V → Used V
  | [] => [(h, v)]
  | p :: r => if h < p.1 then (h, v) :: p :: r else p :: ins h v r
def del (h : Int) (us : Used V) : Used V := us.filter (fun p => p.1 != h)
def set_ (h : Int) (v : V) (us : Used V) : Used V := us.map (fun p => if p.1 == h then (h, v) else p)

/-- what a table's counter 'next' and the numbers given back 'l' are to the handles in use -/
structure TI (next : Int) (l : List Int) (us : Used V) : Prop where
  rise : Rising (keys us)
  pos : ∀ h ∈ keys us, 1 ≤ h ∧ h < next
  back : ∀ h ∈ l, 1 ≤ h ∧ h < next ∧ h ∉ keys us
  all : ∀ h, 1 ≤ h → h < next → h ∈ keys us ∨ h ∈ l
  count : (us.length : Int) + l.length = next - 1
  heap : Hp l.length l
  inj : Inj l

theorem keys_nil : keys ([] : Used V) = [] := rfl
theorem keys_cons (p : Int × V) (us : Used V) : keys (p :: us) = p.1 :: keys us := rfl
theorem keys_map (f : V → U) (us : Used V) : keys (us.map fun p => (p.1, f p.2)) = keys us := by simp [keys]
theorem get_none {us : Used V} {h : Int} : get us h = none ↔ h ∉ keys us := by
  unfold get keys
  rw [Option.map_eq_none_iff, List.find?_eq_none]
  simp only [List.mem_map, not_exists, not_and, beq_iff_eq]
theorem get_some {us : Used V} {h : Int} {v : V} (e : get us h = some v) : h ∈ keys us := by
  apply Classical.byContradiction
  intro hn
  rw [get_none.2 hn] at e; cases e
theorem get_map (f : V → U) (us : Used V) (h : Int) : get (us.map fun p => (p.1, f p.2)) h = (get us h).map f := by
  unfold get
  rw [List.find?_map]
  simp only [Function.comp_def, Option.map_map]
theorem keys_ins (h : Int) (v : V) (us : Used V) (x : Int) : x ∈ keys (ins h v us) ↔ x = h ∨ x ∈ keys us := by
  induction us with
  | nil => simp [ins, keys]
  | cons p r ih =>
    unfold ins
    split
    · simp [keys]
    · rw [keys_cons, keys_cons, List.mem_cons, List.mem_cons, ih]
      constructor
      · rintro (h1 | h1 | h1)
        · exact .inr (.inl h1)
        · exact .inl h1
        · exact .inr (.inr h1)
      · rintro (h1 | h1 | h1)
        · exact .inr (.inl h1)
        · exact .inl h1
        · exact .inr (.inr h1)
theorem rise_ins {h : Int} {v : V} {us : Used V} (hr : Rising (keys us)) (hn : h ∉ keys us) : Rising (keys (ins h v us)) := by
  induction us with
  | nil => simp [ins, keys, Rising]
  | cons p r ih =>
    unfold Rising at *
    rw [keys_cons, List.pairwise_cons] at hr
    rw [keys_cons, List.mem_cons, not_or] at hn
    unfold ins
    split
    · rename_i hlt
      rw [keys_cons, keys_cons, List.pairwise_cons, List.pairwise_cons]
      refine ⟨?_, hr⟩
      intro x hx
      rcases List.mem_cons.1 hx with e | e
      · rw [e]; exact hlt
      · have := hr.1 x e; show h < x; omega
    · rename_i hlt
      rw [keys_cons, List.pairwise_cons]
      refine ⟨fun x hx => ?_, ih hr.2 hn.2⟩
      rcases (keys_ins h v r x).1 hx with e | e
      · rw [e]; have := hn.1; omega
      · exact hr.1 x e
theorem get_ins {h : Int} {v : V} {us : Used V} (hn : h ∉ keys us) (x : Int) : get (ins h v us) x = if x = h then some v else get us x := by
  induction us with
  | nil =>
    by_cases e : x = h
    · subst e; simp [ins, get]
    · simp [ins, get, e, Ne.symm e]
  | cons p r ih =>
    rw [keys_cons, List.mem_cons, not_or] at hn
    unfold ins
    split
    · unfold get
      by_cases e : x = h
      · subst e; simp
      · simp [e, Ne.symm e]
    · have ih' := ih hn.2
      unfold get at ih' ⊢
      rw [List.find?_cons, List.find?_cons]
      by_cases e : p.1 = x
      · have : x ≠ h := by rintro rfl; exact hn.1 e.symm
        simp [e, this]
      · simp only [show (p.1 == x) = false by simpa using e]
        exact ih'
theorem len_ins (h : Int) (v : V) (us : Used V) : (ins h v us).length = us.length + 1 := by
  induction us with
  | nil => rfl
  | cons p r ih => unfold ins; split <;> simp [ih]
theorem ins_last {h : Int} {v : V} {us : Used V} (hl : ∀ x ∈ keys us, x < h) : ins h v us = us ++ [(h, v)] := by
  induction us with
  | nil => rfl
  | cons p r ih =>
    rw [keys_cons] at hl
    have h1 := hl p.1 (by simp)
    unfold ins
    rw [if_neg (by omega), ih (fun x hx => hl x (by simp [hx]))]
    rfl
theorem ins_map (f : V → U) (h : Int) (v : V) (us : Used V) : (ins h v us).map (fun p => (p.1, f p.2)) = ins h (f v) (us.map fun p => (p.1, f p.2)) := by
  induction us with
  | nil => rfl
  | cons p r ih => unfold ins; simp only [List.map_cons]; split <;> simp_all
theorem del_map (f : V → U) (h : Int) (us : Used V) : (del h us).map (fun p => (p.1, f p.2)) = del h (us.map fun p => (p.1, f p.2)) := by
  unfold del; rw [List.filter_map]; rfl
theorem set_map (f : V → U) (h : Int) (v : V) (us : Used V) : (set_ h v us).map (fun p => (p.1, f p.2)) = set_ h (f v) (us.map fun p => (p.1, f p.2)) := by
  unfold set_
  rw [List.map_map, List.map_map]
  apply List.map_congr_left
  intro p _
  simp only [Function.comp_def]
  split <;> rfl
theorem keys_del (h : Int) (us : Used V) : keys (del h us) = (keys us).filter (· != h) := by
  unfold keys del; rw [List.filter_map]; rfl
theorem keys_set (h : Int) (v : V) (us : Used V) : keys (set_ h v us) = keys us := by
  unfold keys set_
  rw [List.map_map]
  apply List.map_congr_left
  intro p _
  simp only [Function.comp_def]
  split
  · rename_i e; simpa using (by simpa using e : p.1 = h).symm
  · rfl
theorem get_del (h : Int) (us : Used V) (x : Int) : get (del h us) x = if x = h then none else get us x := by
  by_cases e : x = h
  · subst e
    rw [if_pos rfl, get_none, keys_del]
    simp
  · rw [if_neg e]
    unfold get del
    rw [List.find?_filter]
    congr 2
    funext p
    by_cases e2 : p.1 = x
    · simp [e2, e]
    · simp [e2]
theorem get_set {h : Int} {v : V} {us : Used V} (x : Int) : get (set_ h v us) x = if x = h ∧ h ∈ keys us then some v else get us x := by
  induction us with
  | nil => simp [set_, get, keys]
  | cons p r ih =>
    unfold get set_ at ih ⊢
    rw [List.map_cons, List.find?_cons, List.find?_cons, keys_cons]
    by_cases e1 : p.1 = h
    · by_cases e2 : x = h
      · subst e2; simp [e1]
      · simp only [e1, beq_self_eq_true, if_true, show (h == x) = false by simpa using Ne.symm e2]
        rw [ih, if_neg (fun h => e2 h.1), if_neg (fun h => e2 h.1)]
    · by_cases e3 : p.1 = x
      · have : x ≠ h := by rintro rfl; exact e1 e3
        simp [e3, this]
      · simp only [show (p.1 == h) = false by simpa using e1, show (p.1 == x) = false by simpa using e3, Bool.false_eq_true, if_false]
        rw [ih]
        by_cases e2 : x = h
        · simp [e2, Ne.symm e1]
        · simp [e2]
theorem len_del {h : Int} {us : Used V} (hr : Rising (keys us)) (hm : h ∈ keys us) : (del h us).length + 1 = us.length := by
  induction us with
  | nil => simp [keys] at hm
  | cons p r ih =>
    unfold Rising at *
    rw [keys_cons, List.pairwise_cons] at hr
    unfold del at ih ⊢
    rw [List.filter_cons]
    by_cases e : p.1 = h
    · have : r.filter (fun q => q.1 != h) = r := by
        rw [List.filter_eq_self]
        intro q hq
        have := hr.1 q.1 (List.mem_map_of_mem hq)
        simp; omega
      simp [e, this]
    · rw [keys_cons, List.mem_cons] at hm
      have := ih hr.2 (hm.resolve_left (Ne.symm e))
      simp [e]; omega
theorem leastFrom_spec : ∀ (ks : List Int) (h : Int), Rising ks → (∀ x ∈ ks, h ≤ x) → h ≤ leastFrom h ks ∧ leastFrom h ks ∉ ks ∧ ∀ x, h ≤ x → x < leastFrom h ks → x ∈ ks
  | [], h, _, _ => ⟨Int.le_refl _, by simp [leastFrom], fun x h1 h2 => by simp [leastFrom] at h2; omega⟩
  | k :: r, h, hr, hge => by
    unfold Rising at hr
    rw [List.pairwise_cons] at hr
    unfold leastFrom
    by_cases e : k = h
    · rw [if_pos e]
      obtain ⟨i1, i2, i3⟩ := leastFrom_spec r (h + 1) hr.2 (fun x hx => by have := hr.1 x hx; omega)
      refine ⟨by omega, ?_, fun x h1 h2 => ?_⟩
      · rw [List.mem_cons, not_or]; exact ⟨by omega, i2⟩
      · by_cases e2 : x = h
        · rw [e2, ← e]; simp
        · exact List.mem_cons_of_mem _ (i3 x (by omega) h2)
    · rw [if_neg e]
      refine ⟨Int.le_refl _, ?_, fun x h1 h2 => by omega⟩
      rw [List.mem_cons, not_or]
      refine ⟨Ne.symm e, fun hm => ?_⟩
      have h1 := hr.1 h hm
      have h2 := hge k (by simp)
      omega
theorem least_unique {us : Used V} (hr : Rising (keys us)) (hp : ∀ x ∈ keys us, 1 ≤ x) {h : Int} (h1 : 1 ≤ h) (hn : h ∉ keys us) (hall : ∀ x, 1 ≤ x → x < h → x ∈ keys us) : least us = h := by
  obtain ⟨i1, i2, i3⟩ := leastFrom_spec (keys us) 1 hr hp
  unfold least
  rcases Int.lt_trichotomy (leastFrom 1 (keys us)) h with hlt | he | hgt
  · exact absurd (hall _ i1 hlt) i2
  · exact he
  · exact absurd (i3 h h1 hgt) hn

/-! ### the counter and the numbers given back -/
theorem TI.empty : TI 1 [] ([] : Used V) :=
  ⟨List.Pairwise.nil, by simp [keys], by simp, fun h h1 h2 => by omega, rfl, fun i h1 h2 => by simp at h2, fun a b h1 => by simp at h1⟩
/-- none was given back: the least is the counter -/
theorem TI.least_next {next : Int} {us : Used V} (h : TI next [] us) : least us = next := by
  have hc := h.count
  simp at hc
  refine least_unique h.rise (fun x hx => (h.pos x hx).1) (by omega) (fun hm => ?_) (fun x h1 h2 => (h.all x h1 h2).resolve_right (by simp))
  have := (h.pos _ hm).2; omega
theorem TI.put_next {next : Int} {us : Used V} (h : TI next [] us) (v : V) : TI (next + 1) [] (ins next v us) := by
  have hc := h.count
  simp at hc
  have hn : next ∉ keys us := fun hm => by have := (h.pos _ hm).2; omega
  refine ⟨rise_ins h.rise hn, fun x hx => ?_, by simp, fun x h1 h2 => ?_, by rw [len_ins]; simp; omega, fun i h1 h2 => by simp at h2, fun a b h1 => by simp at h1⟩
  · rcases (keys_ins next v us x).1 hx with e | e
    · omega
    · have := h.pos x e; omega
  · by_cases e : x = next
    · exact .inl ((keys_ins next v us x).2 (.inl e))
    · exact .inl ((keys_ins next v us x).2 (.inr ((h.all x h1 (by omega)).resolve_right (by simp))))
/-- some were given back: the least is the heap's top -/
theorem TI.least_back {next : Int} {l : List Int} {us : Used V} (h : TI next l us) (hl : 0 < l.length) : least us = at_ l 0 := by
  have hm : at_ l 0 ∈ l := mem_at.2 ⟨0, hl, rfl⟩
  obtain ⟨b1, b2, b3⟩ := h.back _ hm
  refine least_unique h.rise (fun x hx => (h.pos x hx).1) b1 b3 (fun x h1 h2 => (h.all x h1 (by omega)).resolve_right (fun hx => ?_))
  obtain ⟨k, hk, e⟩ := mem_at.1 hx
  have := HeapM.least h.heap k hk
  omega
theorem TI.put_back {next : Int} {l l' : List Int} {us : Used V} (h : TI next l us) (hl : 0 < l.length) (v : V) (hlen : l'.length + 1 = l.length) (hp : Hp l'.length l') (hi : Inj l') (hm : ∀ x, x ∈ l' ↔ x ∈ l ∧ x ≠ at_ l 0) :
    TI next l' (ins (at_ l 0) v us) := by
  have h0 : at_ l 0 ∈ l := mem_at.2 ⟨0, hl, rfl⟩
  obtain ⟨b1, b2, b3⟩ := h.back _ h0
  have hc := h.count
  refine ⟨rise_ins h.rise b3, fun x hx => ?_, fun x hx => ?_, fun x h1 h2 => ?_, by rw [len_ins]; push_cast; omega, hp, hi⟩
  · rcases (keys_ins _ v us x).1 hx with e | e
    · omega
    · exact h.pos x e
  · have hx' := (hm x).1 hx
    have := h.back x hx'.1
    refine ⟨this.1, this.2.1, fun hk => ?_⟩
    rcases (keys_ins _ v us x).1 hk with e | e
    · exact hx'.2 e
    · exact this.2.2 e
  · by_cases e : x = at_ l 0
    · exact .inl ((keys_ins _ v us x).2 (.inl e))
    · rcases h.all x h1 h2 with h3 | h3
      · exact .inl ((keys_ins _ v us x).2 (.inr h3))
      · exact .inr ((hm x).2 ⟨h3, e⟩)
theorem TI.drop {next h0 : Int} {l l' : List Int} {us : Used V} (h : TI next l us) (hm : h0 ∈ keys us) (hs : Same (l ++ [h0]) l') (hp : Hp l'.length l') : TI next l' (del h0 us) := by
  obtain ⟨p1, p2⟩ := h.pos _ hm
  have hn : h0 ∉ l := fun hx => (h.back _ hx).2.2 hm
  have hlen := hs.len
  rw [List.length_append, List.length_singleton] at hlen
  have hc := h.count
  have hd := len_del h.rise hm
  refine ⟨?_, fun x hx => ?_, fun x hx => ?_, fun x h1 h2 => ?_, by omega, hp, hs.inj ?_⟩
  · rw [keys_del]; exact List.Pairwise.filter _ h.rise
  · rw [keys_del, List.mem_filter] at hx
    exact h.pos x hx.1
  · rw [hs.mem, List.mem_append, List.mem_singleton] at hx
    rw [keys_del, List.mem_filter]
    rcases hx with hx | hx
    · have := h.back x hx
      exact ⟨this.1, this.2.1, fun hk => this.2.2 hk.1⟩
    · subst hx
      exact ⟨p1, p2, fun hk => by simp at hk⟩
  · rw [keys_del, List.mem_filter, hs.mem, List.mem_append, List.mem_singleton]
    rcases h.all x h1 h2 with h3 | h3
    · by_cases e : x = h0
      · exact .inr (.inr e)
      · exact .inl ⟨h3, by simpa using e⟩
    · exact .inr (.inl h3)
  · intro a b ha hb e
    rw [List.length_append, List.length_singleton] at ha hb
    have g : ∀ k, k < l.length → at_ (l ++ [h0]) k = at_ l k := fun k hk => by
      unfold at_; rw [List.getD_eq_getElem?_getD, List.getD_eq_getElem?_getD, List.getElem?_append_left hk]
    have g2 : at_ (l ++ [h0]) l.length = h0 := by unfold at_; simp [List.getD_eq_getElem?_getD]
    have inl : ∀ k, k < l.length → at_ l k ≠ h0 := fun k hk e => hn (e ▸ mem_at.2 ⟨k, hk, rfl⟩)
    by_cases ha' : a < l.length
    · by_cases hb' : b < l.length
      · rw [g a ha', g b hb'] at e; exact h.inj a b ha' hb' e
      · obtain rfl : b = l.length := by omega
        rw [g a ha', g2] at e; exact absurd e (inl a ha')
    · obtain rfl : a = l.length := by omega
      by_cases hb' : b < l.length
      · rw [g b hb', g2] at e; exact absurd e.symm (inl b hb')
      · omega
theorem TI.set {next h0 : Int} {l : List Int} {us : Used V} (h : TI next l us) (v : V) : TI next l (set_ h0 v us) := by
  refine ⟨by rw [keys_set]; exact h.rise, by rw [keys_set]; exact h.pos, by rw [keys_set]; exact h.back, by rw [keys_set]; exact h.all, ?_, h.heap, h.inj⟩
  have := h.count
  simp only [set_, List.length_map]
  exact this
end Go.Proofs.Ytejnhhpjlajngaa.TabM
