/-
  PROVED HERE: what a well-formed graph is; plain laws for the walk through its nodes.
  CONDITIONS: none. No statement of the seat is proved here.
-/
import Derived.Test.YtjpdcppdoonmdaaGEnter
namespace Go.Proofs.Ytjpdcppdoonmdaa
open Go.RowKit Go.Maps
def entSum (ns : List NodeM) : Nat → Nat
  | 0 => 0
  | k + 1 => entSum ns k + (nd ns k).ents.length
def lastId (ns : List NodeM) : Nat → Int
  | 0 => 0
  | k + 1 => (nd ns k).id
structure GraphOk (ns : List NodeM) : Prop where
  len : ns.length ≤ 4096
  node : ∀ i, i < ns.length → NodeOk (nd ns i)
  ids : ∀ i, i < ns.length → 1 ≤ (nd ns i).id ∧ (nd ns i).id ≤ 1099511627776
  rise : Rising ns
  sum : entSum ns ns.length ≤ 8192
  ents : ∀ i, i < ns.length → ∀ j, j < (nd ns i).ents.length → EntOk ns i j
  nodup : ((allE ns ns.length).map Prod.fst).Nodup
  ends : AllEnd ((allE ns ns.length).map (idP ns))
noncomputable instance (ns : List NodeM) : Decidable (GraphOk ns) := Classical.propDecidable _
theorem GraphOk.last {ns : List NodeM} (h : GraphOk ns) {k : Nat} (hk : k < ns.length) : lastId ns k < (nd ns k).id := by
  cases k with
  | zero => have := (h.ids 0 hk).1; show (0 : Int) < _; omega
  | succ k => exact h.rise k (k + 1) (Nat.lt_succ_self k) hk
/-- the first k nodes' numbers rise, and lie in their bounds -/
structure Upto (ns : List NodeM) (k : Nat) : Prop where
  node : ∀ i, i < k → NodeOk (nd ns i)
  ids : ∀ i, i < k → 1 ≤ (nd ns i).id ∧ (nd ns i).id ≤ 1099511627776
  rise : ∀ i j, i < j → j < k → (nd ns i).id < (nd ns j).id
theorem Upto.zero (ns : List NodeM) : Upto ns 0 := ⟨fun i h => absurd h (Nat.not_lt_zero i), fun i h => absurd h (Nat.not_lt_zero i), fun _ j _ h => absurd h (Nat.not_lt_zero j)⟩
theorem Upto.last {ns : List NodeM} {k : Nat} (h : Upto ns k) : 0 ≤ lastId ns k ∧ lastId ns k ≤ 1099511627776 := by
  cases k with
  | zero => exact ⟨Int.le_refl _, by show (0 : Int) ≤ 1099511627776; decide⟩
  | succ k => have := h.ids k (Nat.lt_succ_self k); exact ⟨by show 0 ≤ (nd ns k).id; omega, this.2⟩
theorem Upto.step {ns : List NodeM} {k : Nat} (h : Upto ns k) (h1 : lastId ns k < (nd ns k).id) (h2 : (nd ns k).id ≤ 1099511627776) (h3 : NodeOk (nd ns k)) : Upto ns (k + 1) := by
  have hl := h.last
  refine ⟨fun i hi => ?_, fun i hi => ?_, fun i j hij hj => ?_⟩
  · rcases Nat.lt_succ_iff_lt_or_eq.1 hi with e | e
    · exact h.node i e
    · rw [e]; exact h3
  · rcases Nat.lt_succ_iff_lt_or_eq.1 hi with e | e
    · exact h.ids i e
    · rw [e]; omega
  · rcases Nat.lt_succ_iff_lt_or_eq.1 hj with e | e
    · exact h.rise i j hij e
    · subst e
      cases j with
      | zero => omega
      | succ m =>
        have h4 : (nd ns m).id < (nd ns (m + 1)).id := h1
        rcases Nat.lt_succ_iff_lt_or_eq.1 hij with e | e
        · have := h.rise i m e (Nat.lt_succ_self m); omega
        · rw [e]; exact h4
theorem atI_upto {ns : List NodeM} {k : Nat} (h : ∀ i, i < k → (nd ns i).id < (nd ns k).id) (hk : k < ns.length) : atI ns (nd ns k).id = (k : Int) := by
  unfold atI
  have hg : ∀ j (hj : j < ns.length), nd ns j = ns[j] := fun j hj => by
    unfold nd
    rw [List.getD_eq_getElem?_getD, List.getElem?_eq_getElem hj]
    rfl
  have : ns.findIdx? (fun n => n.id == (nd ns k).id) = some k := by
    rw [List.findIdx?_eq_some_iff_getElem]
    refine ⟨hk, by rw [← hg k hk]; simp, fun j hj => ?_⟩
    have := h j hj
    rw [← hg j (by omega)]
    simp
    omega
  rw [this]
theorem bf_upd {A : Option Addr} {ns : List NodeM} {k : Nat} (h : ∀ i, i < k → (nd ns i).id < (nd ns k).id) (hk : k < ns.length) :
    upd (mf (bf A ns k)) (.int .i64 (nd ns k).id) (some (.pointer (some ⟨blkOf A, offOf A + k * 10, none⟩))) = mf (bf A ns (k + 1)) := by
  have ha := atI_upto h hk
  rw [mf_upd]
  congr 1
  funext z
  unfold bf
  by_cases e : z = (nd ns k).id
  · subst e
    rw [if_pos rfl, if_pos ⟨by omega, by omega⟩]
    unfold tgt
    rw [ha]
    rfl
  · rw [if_neg e]
    by_cases e1 : 0 ≤ atI ns z ∧ atI ns z < (k : Int)
    · rw [if_pos e1, if_pos ⟨e1.1, by omega⟩]
    · rw [if_neg e1, if_neg (fun e2 => ?_)]
      have e3 : atI ns z = (k : Int) := by omega
      have e4 := (atI_lt e2.1).2
      rw [e4.2] at e3
      have e5 : tgt ns z = k := by omega
      rw [e5] at e4
      exact e e4.1.symm
theorem bf_fresh {A : Option Addr} {ns : List NodeM} {k : Nat} (h : ∀ i, i < k → (nd ns i).id < (nd ns k).id) (hk : k < ns.length) : (if ((mf (bf A ns k)) (.int .i64 (nd ns k).id)).isSome then k else k + 1) = k + 1 := by
  have ha := atI_upto h hk
  have : mf (bf A ns k) (.int .i64 (nd ns k).id) = none := if_neg (fun e => by omega)
  rw [this]
  rfl
theorem Upto.below {ns : List NodeM} {k : Nat} (h : Upto ns k) (h1 : lastId ns k < (nd ns k).id) : ∀ i, i < k → (nd ns i).id < (nd ns k).id := by
  intro i hi
  cases k with
  | zero => omega
  | succ m =>
    have h1 : (nd ns m).id < (nd ns (m + 1)).id := h1
    rcases Nat.lt_succ_iff_lt_or_eq.1 hi with e | e
    · have := h.rise i m e (Nat.lt_succ_self m); omega
    · rw [e]; exact h1
theorem bf_zero {A : Option Addr} {ns : List NodeM} : mf (bf A ns 0) = fun _ => none := by
  rw [← mf_none]
  congr 1
  funext z
  exact if_neg (fun e => by omega)
theorem pf_zero {ns : List NodeM} : mf (pf ((allE ns 0).map (idP ns))) = fun _ => none := by
  rw [← mf_none]
  congr 1
theorem allE_fst {ns : List NodeM} {i : Nat} (hi : i ≤ ns.length) (h : ∀ a, a < i → ∀ j, j < (nd ns a).ents.length → EntOk ns a j) : ∀ p, p ∈ allE ns i → p.1 < ns.length ∧ p.2 < ns.length := by
  induction i with
  | zero => intro p hp; cases hp
  | succ i ih =>
    intro p hp
    rw [allE] at hp
    rcases List.mem_append.1 hp with hp | hp
    · have := rowE_fst (h i (Nat.lt_succ_self i)) p hp
      exact ⟨this.1, by omega⟩
    · exact ih (by omega) (fun a ha => h a (by omega)) p hp
theorem allE_len (ns : List NodeM) (i : Nat) : (allE ns i).length ≤ entSum ns i := by
  induction i with
  | zero => exact Nat.le_refl _
  | succ i ih =>
    rw [allE, entSum, List.length_append]
    have := rowE_len ns i (nd ns i).ents.length
    omega
theorem entSum_mono {ns : List NodeM} {i m : Nat} (h : i ≤ m) : entSum ns i ≤ entSum ns m := by
  induction m with
  | zero => rw [Nat.le_zero.1 h]; exact Nat.le_refl _
  | succ m ih =>
    rcases Nat.lt_or_ge m i with h1 | h1
    · have : i = m + 1 := by omega
      subst this
      exact Nat.le_refl _
    · have := ih h1
      rw [entSum]
      omega
theorem up_bounds {ns : List NodeM} {ps : List (Nat × Nat)} (hp : ∀ p, p ∈ ps → p.1 < ns.length ∧ p.2 < ns.length) (hid : ∀ i, i < ns.length → 1 ≤ (nd ns i).id ∧ (nd ns i).id ≤ 1099511627776) :
    ∀ z y, up (ps.map (idP ns)) z = some y → (-9223372036854775808 ≤ z ∧ z ≤ 9223372036854775807) ∧ (-9223372036854775808 ≤ y ∧ y ≤ 9223372036854775807) := by
  intro z y h
  unfold up at h
  induction ps with
  | nil => cases h
  | cons p ps ih =>
    obtain ⟨a, b⟩ := p
    rw [List.map_cons, idP, List.lookup_cons] at h
    by_cases e : (z == (nd ns a).id) = true
    · rw [e] at h
      cases h
      have h1 := hp (a, b) (List.mem_cons_self ..)
      have h2 := hid a h1.1
      have h3 := hid b h1.2
      have : z = (nd ns a).id := by simpa using e
      show (_ ∧ _) ∧ (-9223372036854775808 ≤ (nd ns b).id ∧ (nd ns b).id ≤ 9223372036854775807)
      omega
    · have e : (z == (nd ns a).id) = false := by simpa using e
      rw [e] at h
      exact ih (fun p hp' => hp p (List.mem_cons_of_mem _ hp')) h
theorem dec_or {p : Prop} [Decidable p] {v : Value} {l : List HP} (h : v = .bool (decide p) ∧ l = []) : (v = .bool true ∧ p ∧ l = []) ∨ (v = .bool false ∧ ¬ p ∧ l = []) := by
  by_cases hp : p
  · exact .inl ⟨by rw [h.1, decide_eq_true hp], hp, h.2⟩
  · exact .inr ⟨by rw [h.1, decide_eq_false hp], hp, h.2⟩
theorem RowOk.next {ns : List NodeM} {i : Nat} (h : RowOk ns i (allE ns i)) : ((allE ns (i + 1)).map Prod.fst).Nodup := h.nodup
theorem GraphOk.row {ns : List NodeM} (h : GraphOk ns) {i : Nat} (hi : i < ns.length) : RowOk ns i (allE ns i) := by
  refine ⟨h.ents i hi, ?_⟩
  obtain ⟨l, hl⟩ := allE_mono (ns := ns) (show i + 1 ≤ ns.length from hi)
  have := h.nodup
  rw [hl] at this
  exact nodup_suffix this
end Go.Proofs.Ytjpdcppdoonmdaa
