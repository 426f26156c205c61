/-
  PROVED HERE: the predicate 'Tab' (what a slots.Table in memory is good for) and its general lemmas.
  CONDITIONS: none.
-/
import Derived.Test.YtejnhhpjlajngaaPushPop
import Derived.Test.YtejnhhpjlajngaaTabMath
namespace Go.Proofs.Ytejnhhpjlajngaa
open Go.RowKit HeapM TabM Go.Maps

theorem lawI : Keyed Try.prog 3 := int_keyed Try.underlying3

/-- the map of a table, as a function of the key's datum -/
def tabf (us : Used Value) : Lit → Option Value
  | .int .i64 h => TabM.get us h
  | _ => none

theorem upd_ins {us : Used Value} {h : Int} (hn : h ∉ keys us) (v : Value) : upd (tabf us) (.int .i64 h) (some v) = tabf (ins h v us) := by
  funext x
  unfold upd tabf
  cases x with
  | int k n =>
    by_cases hk : k = .i64
    · subst hk
      simp only [Lit.sameKey, true_and, decide_eq_true_eq]
      rw [get_ins hn]
    · have e : (Lit.int k n).sameKey (.int .i64 h) = false := by simp [Lit.sameKey, hk]
      rw [e]
      cases k <;> first | rfl | exact absurd rfl hk
  | _ => rfl
theorem upd_del {us : Used Value} {h : Int} : upd (tabf us) (.int .i64 h) none = tabf (del h us) := by
  funext x
  unfold upd tabf
  cases x with
  | int k n =>
    by_cases hk : k = .i64
    · subst hk
      simp only [Lit.sameKey, true_and, decide_eq_true_eq]
      rw [get_del]
    · have e : (Lit.int k n).sameKey (.int .i64 h) = false := by simp [Lit.sameKey, hk]
      rw [e]
      cases k <;> first | rfl | exact absurd rfl hk
  | _ => rfl
theorem upd_set {us : Used Value} {h : Int} (hm : h ∈ keys us) (v : Value) : upd (tabf us) (.int .i64 h) (some v) = tabf (set_ h v us) := by
  funext x
  unfold upd tabf
  cases x with
  | int k n =>
    by_cases hk : k = .i64
    · subst hk
      simp only [Lit.sameKey, true_and, decide_eq_true_eq]
      rw [TabM.get_set]
      simp [hm]
    · have e : (Lit.int k n).sameKey (.int .i64 h) = false := by simp [Lit.sameKey, hk]
      rw [e]
      cases k <;> first | rfl | exact absurd rfl hk
  | _ => rfl

/-- the parts of a table in memory, all named: t its block, m its map's block, v the slice of the numbers given back -/
structure TabP (TT : TypeId) (t m base : Nat) (v : Value) (l : List Int) (next most peak : Int) (us : Used Value) (w : World) : Prop where
  blk : w.heap[t]? = some (.cells #[.int .i64 most, .int .i64 peak, .map (some m), v, .int .i64 next] TT (0, 0))
  map : MapIs Try.prog 3 w m (tabf us) us.length
  own : w.ownsRow base 3 1 v l.length (ints l)
  ti : TI next l us
  most0 : (us.length : Int) ≤ most
  most1 : most ≤ 1024
  next1 : next ≤ most + 1
  tt : TT ≠ 3
  bt : base ≤ t
  bm : base ≤ m
  peak0 : 0 ≤ peak ∧ peak ≤ 1024

/-- block t of w is a table with these handles in use; 'row': where its numbers given back lie -/
def Tab (TT : TypeId) (t m base : Nat) (row : Option Nat) (most peak : Int) (us : Used Value) (w : World) : Prop :=
  ∃ v l next, TabP TT t m base v l next most peak us w ∧ v.ownBlock = row

/-- behind a call: still a table; its row is the one that it was, or a new one -/
def TabPost (TT : TypeId) (t m base : Nat) (row : Option Nat) (most peak : Int) (us : Used Value) (w w' : World) : Prop :=
  ∃ v' l' next', TabP TT t m base v' l' next' most peak us w' ∧ (v'.ownBlock = row ∨ ∃ g, v'.ownBlock = some g ∧ w.heap.size ≤ g)

section tab
variable {TT : TypeId} {t m base : Nat} {v : Value} {l : List Int} {next most peak : Int} {us : Used Value} {w w' : World} {row : Option Nat}
theorem TabP.lt (h : TabP TT t m base v l next most peak us w) : t < w.heap.size := by
  rcases Nat.lt_or_ge t w.heap.size with hlt | hge
  · exact hlt
  · have := h.blk; rw [Array.getElem?_eq_none hge] at this; cases this
theorem TabP.mt (h : TabP TT t m base v l next most peak us w) : m ≠ t := h.map.not_cells h.blk
theorem TabP.vt (h : TabP TT t m base v l next most peak us w) : v.ownBlock ≠ some t := by
  rcases h.own.2 with ⟨rfl, _⟩ | ⟨g, cap, cur, rfl, _, hh, _⟩
  · simp [Value.ownBlock]
  · intro e
    have e' : g = t := by simpa [Value.ownBlock] using e
    subst e'
    have h1 := h.blk
    rw [hh] at h1
    injection h1 with h1
    injection h1 with _ h1
    exact h.tt h1.symm
theorem TabP.vm (h : TabP TT t m base v l next most peak us w) : v.ownBlock ≠ some m := by
  rcases h.own.2 with ⟨rfl, _⟩ | ⟨g, cap, cur, rfl, _, hh, _⟩
  · simp [Value.ownBlock]
  · intro e
    have e' : g = m := by simpa [Value.ownBlock] using e
    subst e'
    exact h.map.not_cells hh rfl
theorem TabP.vlt (h : TabP TT t m base v l next most peak us w) : ∀ k, v.ownBlock = some k → base ≤ k ∧ k < w.heap.size := h.own.lt
theorem TabP.cell (h : TabP TT t m base v l next most peak us w) (i : Nat) : w.cell? ⟨t, i, none⟩ = (#[Value.int .i64 most, .int .i64 peak, .map (some m), v, .int .i64 next] : Array Value)[i]? := by
  have := h.blk
  simp [World.cell?, this]
theorem TabP.free (h : TabP TT t m base v l next most peak us w) (i : Nat) : w.frozen? ⟨t, i, none⟩ = false := by
  have := h.blk
  simp [World.frozen?, this]
theorem TabP.keeps {S : Nat → Prop} (h : TabP TT t m base v l next most peak us w) (k : Keeps S w w') (h1 : ¬ S t) (h2 : ¬ S m) (h3 : ∀ b, v.ownBlock = some b → ¬ S b) : TabP TT t m base v l next most peak us w' :=
  ⟨(k.block t h.lt h1).trans h.blk, h.map.keeps k h2, k.ownsRow h.own h3, h.ti, h.most0, h.most1, h.next1, h.tt, h.bt, h.bm, h.peak0⟩
theorem TabP.drewN (h : TabP TT t m base v l next most peak us w) (n : Nat) : TabP TT t m base v l next most peak us (w.drewN n) :=
  h.keeps (S := fun _ => False) ((Keeps.refl _ _).drewN n) (fun h => h) (fun h => h) (fun _ _ h => h)
theorem TabP.llen (h : TabP TT t m base v l next most peak us w) : (l.length : Int) ≤ 1024 ∧ (us.length : Int) ≤ 1024 ∧ 1 ≤ next ∧ next ≤ 1025 := by
  have h1 := h.ti.count
  have h2 := h.next1
  have h3 := h.most1
  have h4 := h.most0
  refine ⟨by omega, by omega, by omega, by omega⟩
theorem TabP.mapblk (h : TabP TT t m base v l next most peak us w) : ∃ es clock, w.heap[m]? = some (.map es clock) ∧ es.size = us.length := by
  obtain ⟨D, ⟨es, clock, hb, _, _, hD⟩, hs, _⟩ := h.map
  refine ⟨es, clock, hb, ?_⟩
  rw [← hs, hD]
  simp [Maps.size, length_sorted]
theorem Tab.keeps {S : Nat → Prop} (h : Tab TT t m base row most peak us w) (k : Keeps S w w') (h1 : ¬ S t) (h2 : ¬ S m) (h3 : ∀ b, row = some b → ¬ S b) : Tab TT t m base row most peak us w' := by
  obtain ⟨v, l, next, h, rfl⟩ := h
  exact ⟨v, l, next, h.keeps k h1 h2 h3, rfl⟩
/-- the last step of a Put: the peak is stored -/
theorem TabP.of_store (blk : w.heap[t]? = some (.cells #[.int .i64 most, .int .i64 peak, .map (some m), v, .int .i64 next] TT (0, 0))) {n : Nat} (map : MapIs Try.prog 3 w m (tabf us) n) (hn : us.length = n)
    (own : w.ownsRow base 3 1 v l.length (ints l)) (ti : TI next l us) (most0 : (us.length : Int) ≤ most) (most1 : most ≤ 1024) (next1 : next ≤ most + 1) (tt : TT ≠ 3) (bt : base ≤ t) (bm : base ≤ m) (hv : v.ownBlock ≠ some t) {peak' : Int} (hp : 0 ≤ peak' ∧ peak' ≤ 1024) :
    TabP TT t m base v l next most peak' us (w.setCell ⟨t, 1, none⟩ (.int .i64 peak')) := by
  have k : Keeps (· = t) w (w.setCell ⟨t, 1, none⟩ (.int .i64 peak')) := (Keeps.refl (· = t) w).setCell (p := ⟨t, 1, none⟩) (.inr rfl) _
  refine ⟨?_, ?_, k.ownsRow own (fun b hb e => hv (by rw [hb, e])), ti, most0, most1, next1, tt, bt, bm, hp⟩
  · simp [World.setCell, Array.getElem?_modify, blk]
  · rw [hn]; exact map.keeps k (map.not_cells blk)
end tab
end Go.Proofs.Ytejnhhpjlajngaa
