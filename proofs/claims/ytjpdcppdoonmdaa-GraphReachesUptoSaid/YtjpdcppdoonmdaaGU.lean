/-
  PROVED HERE: what can be reached in a graph, as plain data, and two ways to find it.
  CONDITIONS: none.
-/
import Derived.Test.YtjpdcppdoonmdaaVq
import Derived.Test.YtjpdcppdoonmdaaVz
import Derived.Test.YtjpdcppdoonmdaaGKs
import Derived.Test.YtjpdcppdoonmdaaGLit
namespace Go.Proofs.Ytjpdcppdoonmdaa
open Go.RowKit Go.Maps
inductive Reach (ns : List NodeM) (k : Nat) : Nat → Prop
  | refl : Reach ns k k
  | step {i : Nat} (j : Nat) : Reach ns k i → j < (nd ns i).ents.length → Reach ns k (tgt ns (ent ns i j).id)
theorem Reach.trans {ns : List NodeM} {k i j : Nat} (h : Reach ns k i) (g : Reach ns i j) : Reach ns k j := by
  induction g with
  | refl => exact h
  | step t _ ht ih => exact .step t ih ht
theorem Reach.lt {ns : List NodeM} {k i : Nat} (hok : GraphOk ns) (hk : k < ns.length) (h : Reach ns k i) : i < ns.length := by
  induction h with
  | refl => exact hk
  | step t _ ht ih => exact (atI_lt (hok.ents _ ih t ht).at_).1
noncomputable def underL (ns : List NodeM) (k : Nat) : List Int := by
  classical exact ((List.range ns.length).filter fun i => decide (Reach ns k i)).map fun i => (nd ns i).id
theorem underL_mem {ns : List NodeM} {k : Nat} {z : Int} : z ∈ underL ns k ↔ ∃ i, i < ns.length ∧ Reach ns k i ∧ (nd ns i).id = z := by
  classical
  unfold underL
  simp only [List.mem_map, List.mem_filter, List.mem_range, decide_eq_true_eq]
  exact ⟨fun ⟨i, ⟨h1, h2⟩, h3⟩ => ⟨i, h1, h2, h3⟩, fun ⟨i, h1, h2, h3⟩ => ⟨i, ⟨h1, h2⟩, h3⟩⟩
theorem range_sorted (n : Nat) : (List.range n).Pairwise (· < ·) := List.pairwise_lt_range
theorem underL_sorted {ns : List NodeM} {k : Nat} (hr : Rising ns) : (underL ns k).Pairwise (· < ·) := by
  classical
  unfold underL
  rw [List.pairwise_map]
  refine ((range_sorted ns.length).filter _).imp_of_mem (fun {a b} _ hb h => ?_)
  exact hr a b h (List.mem_range.1 (List.mem_filter.1 hb).1)
theorem sorted_ext : ∀ {l m : List Int}, l.Pairwise (· < ·) → m.Pairwise (· < ·) → (∀ z, z ∈ l ↔ z ∈ m) → l = m
  | [], [], _, _, _ => rfl
  | [], b :: m, _, _, h => by have := (h b).2 (List.mem_cons_self ..); cases this
  | a :: l, [], _, _, h => by have := (h a).1 (List.mem_cons_self ..); cases this
  | a :: l, b :: m, hl, hm, h => by
    have hl' := List.pairwise_cons.1 hl
    have hm' := List.pairwise_cons.1 hm
    have e : a = b := by
      rcases List.mem_cons.1 ((h a).1 (List.mem_cons_self ..)) with e | e
      · exact e
      · rcases List.mem_cons.1 ((h b).2 (List.mem_cons_self ..)) with e2 | e2
        · exact e2.symm
        · have := hm'.1 a e; have := hl'.1 b e2; omega
    subst e
    congr 1
    refine sorted_ext hl'.2 hm'.2 (fun z => ⟨fun hz => ?_, fun hz => ?_⟩)
    · rcases List.mem_cons.1 ((h z).1 (List.mem_cons_of_mem _ hz)) with e | e
      · have := hl'.1 z hz; omega
      · exact e
    · rcases List.mem_cons.1 ((h z).2 (List.mem_cons_of_mem _ hz)) with e | e
      · have := hm'.1 z hz; omega
      · exact e
/-! ### in whatever order, seen when taken -/
structure RInv (ns : List NodeM) (k : Nat) (seen work : List Nat) : Prop where
  start : k ∈ seen ∨ k ∈ work
  reach : ∀ i, i ∈ seen ∨ i ∈ work → Reach ns k i
  clos : ∀ i, i ∈ seen → ∀ j, j < (nd ns i).ents.length → tgt ns (ent ns i j).id ∈ seen ∨ tgt ns (ent ns i j).id ∈ work
theorem RInv.done {ns : List NodeM} {k : Nat} {seen : List Nat} (h : RInv ns k seen []) (i : Nat) : i ∈ seen ↔ Reach ns k i := by
  refine ⟨fun hi => h.reach i (.inl hi), fun hi => ?_⟩
  induction hi with
  | refl => exact h.start.resolve_right (fun h => by cases h)
  | step j _ hj ih => exact (h.clos _ ih j hj).resolve_right (fun h => by cases h)
def tgts (ns : List NodeM) (x j : Nat) : List Nat := (List.range j).map fun t => tgt ns (ent ns x t).id
theorem tgts_succ (ns : List NodeM) (x j : Nat) : tgts ns x (j + 1) = tgts ns x j ++ [tgt ns (ent ns x j).id] := by simp [tgts, List.range_succ]
theorem tgts_len (ns : List NodeM) (x j : Nat) : (tgts ns x j).length = j := by simp [tgts]
theorem RInv.old {ns : List NodeM} {k x : Nat} {seen work : List Nat} (h : RInv ns k seen (x :: work)) (hx : x ∈ seen) : RInv ns k seen work := by
  have aux : ∀ i, i ∈ seen ∨ i ∈ x :: work → i ∈ seen ∨ i ∈ work := fun i hi => by
    rcases hi with hi | hi
    · exact .inl hi
    · rcases List.mem_cons.1 hi with e | hi
      · subst e; exact .inl hx
      · exact .inr hi
  exact ⟨aux k h.start, fun i hi => h.reach i (hi.imp id (List.mem_cons_of_mem _)), fun i hi j hj => aux _ (h.clos i hi j hj)⟩
theorem RInv.new {ns : List NodeM} {k x : Nat} {seen work : List Nat} (h : RInv ns k seen (x :: work)) : RInv ns k (x :: seen) (work ++ tgts ns x (nd ns x).ents.length) := by
  have aux : ∀ i, i ∈ seen ∨ i ∈ x :: work → i ∈ x :: seen ∨ i ∈ work ++ tgts ns x (nd ns x).ents.length := fun i hi => by
    rcases hi with hi | hi
    · exact .inl (List.mem_cons_of_mem _ hi)
    · rcases List.mem_cons.1 hi with e | hi
      · subst e; exact .inl (List.mem_cons_self ..)
      · exact .inr (List.mem_append.2 (.inl hi))
  refine ⟨aux k h.start, fun i hi => ?_, fun i hi j hj => ?_⟩
  · rcases hi with hi | hi
    · rcases List.mem_cons.1 hi with e | hi
      · subst e; exact h.reach i (.inr (List.mem_cons_self ..))
      · exact h.reach i (.inl hi)
    · rcases List.mem_append.1 hi with hi | hi
      · exact h.reach i (.inr (List.mem_cons_of_mem _ hi))
      · obtain ⟨t, ht, rfl⟩ := List.mem_map.1 hi
        exact .step t (h.reach x (.inr (List.mem_cons_self ..))) (List.mem_range.1 ht)
  · rcases List.mem_cons.1 hi with e | hi
    · subst e
      exact .inr (List.mem_append.2 (.inr (List.mem_map.2 ⟨j, List.mem_range.2 hj, rfl⟩)))
    · exact aux _ (h.clos i hi j hj)
/-- the entries that were not looked at -/
def restE (ns : List NodeM) (seen : List Nat) : Nat → Nat
  | 0 => 0
  | n + 1 => restE ns seen n + (if n ∈ seen then 0 else (nd ns n).ents.length)
theorem restE_far {ns : List NodeM} {seen : List Nat} {x : Nat} : ∀ n, n ≤ x → restE ns (x :: seen) n = restE ns seen n
  | 0, _ => rfl
  | n + 1, h => by
    have : ¬ n = x := by omega
    rw [restE, restE, restE_far n (by omega)]
    simp [this]
theorem restE_new {ns : List NodeM} {seen : List Nat} {x : Nat} (hx : x ∉ seen) : ∀ n, x < n → restE ns (x :: seen) n + (nd ns x).ents.length = restE ns seen n
  | 0, h => absurd h (Nat.not_lt_zero _)
  | n + 1, h => by
    rw [restE, restE]
    by_cases e : n = x
    · subst e
      rw [restE_far n (Nat.le_refl _)]
      simp [hx]
    · have := restE_new (ns := ns) hx n (by omega)
      have h1 : (n ∈ x :: seen) = (n ∈ seen) := by simp [e]
      simp only [h1]
      omega
theorem restE_sum (ns : List NodeM) (seen : List Nat) : ∀ n, restE ns seen n ≤ entSum ns n
  | 0 => Nat.le_refl _
  | n + 1 => by
    have := restE_sum ns seen n
    rw [restE, entSum]
    split <;> omega
/-- the map of what was seen -/
def sf (ns : List NodeM) (seen : List Nat) (z : Int) : Option Value := if 0 ≤ atI ns z ∧ tgt ns z ∈ seen then some (.agg #[]) else none
theorem atI_self' {ns : List NodeM} {k : Nat} (hr : Rising ns) (hk : k < ns.length) : atI ns (nd ns k).id = (k : Int) ∧ tgt ns (nd ns k).id = k := by
  have h := atI_some hr hk (rfl : (nd ns k).id = (nd ns k).id)
  refine ⟨h, ?_⟩
  unfold tgt
  rw [h]
  rfl
theorem sf_zero {ns : List NodeM} : mf (sf ns []) = fun _ => none := by
  rw [← mf_none]
  congr 1
  funext z
  exact if_neg (fun e => by cases e.2)
theorem sf_in {ns : List NodeM} {seen : List Nat} {x : Nat} (hr : Rising ns) (hx : x < ns.length) (h : x ∈ seen) : mf (sf ns seen) (.int .i64 (nd ns x).id) = some (.agg #[]) := by
  obtain ⟨h1, h2⟩ := atI_self' hr hx
  exact if_pos ⟨by omega, by rw [h2]; exact h⟩
theorem sf_out {ns : List NodeM} {seen : List Nat} {x : Nat} (hr : Rising ns) (hx : x < ns.length) (h : x ∉ seen) : mf (sf ns seen) (.int .i64 (nd ns x).id) = none := by
  obtain ⟨h1, h2⟩ := atI_self' hr hx
  exact if_neg (fun e => h (by rw [← h2]; exact e.2))
theorem sf_upd {ns : List NodeM} {seen : List Nat} {x : Nat} (hr : Rising ns) (hx : x < ns.length) : upd (mf (sf ns seen)) (.int .i64 (nd ns x).id) (some (.agg #[])) = mf (sf ns (x :: seen)) := by
  obtain ⟨h1, h2⟩ := atI_self' hr hx
  rw [mf_upd]
  congr 1
  funext z
  unfold sf
  by_cases e : z = (nd ns x).id
  · subst e
    rw [if_pos rfl, if_pos ⟨by omega, by rw [h2]; exact List.mem_cons_self ..⟩]
  · rw [if_neg e]
    by_cases e2 : 0 ≤ atI ns z
    · have e3 : ¬ tgt ns z = x := fun e3 => e (by rw [← (atI_lt e2).2.1, e3])
      simp [e2, e3]
    · rw [if_neg (fun h => e2 h.1), if_neg (fun h => e2 h.1)]
theorem sf_cnt {ns : List NodeM} {seen : List Nat} {x : Nat} (hr : Rising ns) (hx : x < ns.length) (h : x ∉ seen) : (if ((mf (sf ns seen)) (.int .i64 (nd ns x).id)).isSome then seen.length else seen.length + 1) = (x :: seen).length := by
  rw [sf_out hr hx h]
  rfl
theorem under_keys {ns : List NodeM} {k : Nat} {seen : List Nat} {ss : List Int} (hok : GraphOk ns) (h : RInv ns k seen []) (hs : KeysOf (mf (sf ns seen)) ss) : ss = underL ns k := by
  refine sorted_ext hs.sorted (underL_sorted hok.rise) (fun z => ?_)
  rw [hs.mem, underL_mem]
  show (sf ns seen z).isSome = true ↔ _
  unfold sf
  refine ⟨fun hz => ?_, fun ⟨i, h1, h2, h3⟩ => ?_⟩
  · split at hz
    · rename_i h1
      obtain ⟨h2, h3, _⟩ := atI_lt h1.1
      exact ⟨tgt ns z, h2, (h.done _).1 h1.2, h3⟩
    · cases hz
  · obtain ⟨e1, e2⟩ := atI_self' hok.rise h1
    rw [h3] at e1 e2
    rw [if_pos ⟨by omega, by rw [e2]; exact (h.done i).2 h2⟩]
    rfl
def ptrsV (A : Option Addr) (l : List Nat) : List Value := l.map fun k => .pointer (some ⟨blkOf A, offOf A + k * 10, none⟩)
theorem ptrsV_len (A : Option Addr) (l : List Nat) : (ptrsV A l).length = l.length := by simp [ptrsV]
theorem ptrs_snoc (A : Option Addr) (l : List Nat) (k : Nat) : ptrsV A (l ++ [k]) = ptrsV A l ++ [.pointer (some ⟨blkOf A, offOf A + k * 10, none⟩)] := by simp [ptrsV]
theorem len_snoc {α : Type} (l : List α) (x : α) : (l ++ [x]).length = l.length + 1 := by simp
/-! ### marked when laid -/
def marksV (n : Nat) (mk : List Nat) : List Value := (List.range n).map fun i => .bool (decide (i ∈ mk))
theorem marksV_len (n : Nat) (mk : List Nat) : (marksV n mk).length = n := by simp [marksV]
theorem marksV_get {n : Nat} {mk : List Nat} {i : Nat} (hi : i < n) : (marksV n mk)[i]? = some (.bool (decide (i ∈ mk))) := by simp [marksV, hi]
theorem marksV_nil (n : Nat) : List.replicate n (Value.bool false) = marksV n [] := by
  apply List.ext_getElem?
  intro j
  by_cases h : j < n
  · rw [marksV_get h, List.getElem?_replicate, if_pos h]; rfl
  · rw [List.getElem?_eq_none (by simp; omega), List.getElem?_eq_none (by rw [marksV_len]; omega)]
theorem marksV_set {n : Nat} {mk : List Nat} {i : Nat} : (marksV n mk).set i (.bool true) = marksV n (i :: mk) := by
  apply List.ext_getElem?
  intro j
  by_cases h : j < n
  · rw [marksV_get h, List.getElem?_set]
    by_cases e : i = j
    · subst e
      rw [if_pos rfl, if_pos (by rw [marksV_len]; exact h)]
      simp
    · rw [if_neg e, marksV_get h]
      have : ¬ j = i := fun h => e h.symm
      simp [this]
  · rw [List.getElem?_eq_none (by rw [List.length_set, marksV_len]; omega), List.getElem?_eq_none (by rw [marksV_len]; omega)]
/-- 'now': entries below j of the node x that was taken are marked already -/
structure DInv (ns : List NodeM) (k : Nat) (mk work : List Nat) (now : Option (Nat × Nat)) : Prop where
  start : k ∈ mk
  reach : ∀ i, i ∈ mk → Reach ns k i
  lies : ∀ i, i ∈ work → i ∈ mk
  nodup : mk.Nodup
  clos : ∀ i, i ∈ mk → i ∈ work ∨ (∃ j, now = some (i, j) ∧ ∀ t, t < j → tgt ns (ent ns i t).id ∈ mk) ∨ ∀ t, t < (nd ns i).ents.length → tgt ns (ent ns i t).id ∈ mk
theorem DInv.done {ns : List NodeM} {k : Nat} {mk : List Nat} (h : DInv ns k mk [] none) (i : Nat) : i ∈ mk ↔ Reach ns k i := by
  refine ⟨h.reach i, fun hi => ?_⟩
  induction hi with
  | refl => exact h.start
  | step j _ hj ih =>
    rcases h.clos _ ih with h1 | ⟨_, h1, _⟩ | h1
    · cases h1
    · cases h1
    · exact h1 j hj
theorem DInv.pop {ns : List NodeM} {k x : Nat} {mk work : List Nat} (h : DInv ns k mk (x :: work) none) : DInv ns k mk work (some (x, 0)) := by
  refine ⟨h.start, h.reach, fun i hi => h.lies i (List.mem_cons_of_mem _ hi), h.nodup, fun i hi => ?_⟩
  rcases h.clos i hi with h1 | ⟨_, h1, _⟩ | h1
  · rcases List.mem_cons.1 h1 with e | h1
    · subst e; exact .inr (.inl ⟨0, rfl, fun t ht => absurd ht (Nat.not_lt_zero t)⟩)
    · exact .inl h1
  · cases h1
  · exact .inr (.inr h1)
theorem DInv.old {ns : List NodeM} {k x j : Nat} {mk work : List Nat} (h : DInv ns k mk work (some (x, j))) (ht : tgt ns (ent ns x j).id ∈ mk) : DInv ns k mk work (some (x, j + 1)) := by
  refine ⟨h.start, h.reach, h.lies, h.nodup, fun i hi => ?_⟩
  rcases h.clos i hi with h1 | ⟨j', h1, h2⟩ | h1
  · exact .inl h1
  · cases h1
    refine .inr (.inl ⟨j + 1, rfl, fun t htj => ?_⟩)
    rcases Nat.lt_succ_iff_lt_or_eq.1 htj with e | e
    · exact h2 t e
    · rw [e]; exact ht
  · exact .inr (.inr h1)
theorem DInv.new {ns : List NodeM} {k x j : Nat} {mk work : List Nat} (h : DInv ns k mk work (some (x, j))) (hx : x ∈ mk) (hj : j < (nd ns x).ents.length) (ht : tgt ns (ent ns x j).id ∉ mk) :
    DInv ns k (tgt ns (ent ns x j).id :: mk) (tgt ns (ent ns x j).id :: work) (some (x, j + 1)) := by
  refine ⟨List.mem_cons_of_mem _ h.start, fun i hi => ?_, fun i hi => ?_, List.nodup_cons.2 ⟨ht, h.nodup⟩, fun i hi => ?_⟩
  · rcases List.mem_cons.1 hi with e | hi
    · subst e; exact .step j (h.reach x hx) hj
    · exact h.reach i hi
  · rcases List.mem_cons.1 hi with e | hi
    · subst e; exact List.mem_cons_self ..
    · exact List.mem_cons_of_mem _ (h.lies i hi)
  · rcases List.mem_cons.1 hi with e | hi
    · subst e; exact .inl (List.mem_cons_self ..)
    · rcases h.clos i hi with h1 | ⟨j', h1, h2⟩ | h1
      · exact .inl (List.mem_cons_of_mem _ h1)
      · cases h1
        refine .inr (.inl ⟨j + 1, rfl, fun t htj => ?_⟩)
        rcases Nat.lt_succ_iff_lt_or_eq.1 htj with e | e
        · exact List.mem_cons_of_mem _ (h2 t e)
        · rw [e]; exact List.mem_cons_self ..
      · exact .inr (.inr fun t ht => List.mem_cons_of_mem _ (h1 t ht))
theorem DInv.end_ {ns : List NodeM} {k x j : Nat} {mk work : List Nat} (h : DInv ns k mk work (some (x, j))) (hj : (nd ns x).ents.length ≤ j) : DInv ns k mk work none := by
  refine ⟨h.start, h.reach, h.lies, h.nodup, fun i hi => ?_⟩
  rcases h.clos i hi with h1 | ⟨j', h1, h2⟩ | h1
  · exact .inl h1
  · cases h1
    exact .inr (.inr fun t ht => h2 t (by omega))
  · exact .inr (.inr h1)
theorem DInv.few {ns : List NodeM} {k : Nat} {mk work : List Nat} {now : Option (Nat × Nat)} (hok : GraphOk ns) (hk : k < ns.length) (h : DInv ns k mk work now) : mk.length ≤ ns.length :=
  nodup_lt ns.length mk h.nodup (fun x hx => (h.reach x hx).lt hok hk)
/-- the numbers of the first m nodes that are marked -/
def outI (ns : List NodeM) (mk : List Nat) : Nat → List Int
  | 0 => []
  | m + 1 => outI ns mk m ++ (if m ∈ mk then [(nd ns m).id] else [])
theorem outI_hit {ns : List NodeM} {mk : List Nat} {m : Nat} (h : m ∈ mk) : outI ns mk m ++ [(nd ns m).id] = outI ns mk (m + 1) := by rw [outI, if_pos h]
theorem outI_miss {ns : List NodeM} {mk : List Nat} {m : Nat} (h : m ∉ mk) : outI ns mk m = outI ns mk (m + 1) := by rw [outI, if_neg h, List.append_nil]
theorem outI_len (ns : List NodeM) (mk : List Nat) : ∀ m, (outI ns mk m).length ≤ m
  | 0 => Nat.le_refl _
  | m + 1 => by
    have := outI_len ns mk m
    rw [outI, List.length_append]
    split <;> simp <;> omega
theorem outI_all {ns : List NodeM} {k : Nat} {mk : List Nat} (h : DInv ns k mk [] none) : outI ns mk ns.length = underL ns k := by
  classical
  have aux : ∀ m, outI ns mk m = ((List.range m).filter fun i => decide (Reach ns k i)).map fun i => (nd ns i).id := by
    intro m
    induction m with
    | zero => rfl
    | succ m ih =>
      rw [outI, ih, List.range_succ, List.filter_append, List.map_append]
      congr 1
      by_cases hm : m ∈ mk
      · have := (h.done m).1 hm
        simp [hm, this]
      · have : ¬ Reach ns k m := fun e => hm ((h.done m).2 e)
        simp [hm, this]
  rw [aux]
  rfl
noncomputable def underG (ns : List NodeM) (root : Int) : List Int × Int := if beginC ns root = 0 then (underL ns (tgt ns root), 0) else ([], beginC ns root)
theorem underG_ok {ns : List NodeM} {root : Int} (h : beginC ns root = 0) : underG ns root = (underL ns (tgt ns root), 0) := if_pos h
theorem underG_bad {ns : List NodeM} {root : Int} (h : ¬ beginC ns root = 0) : underG ns root = ([], beginC ns root) := if_neg h
end Go.Proofs.Ytjpdcppdoonmdaa
