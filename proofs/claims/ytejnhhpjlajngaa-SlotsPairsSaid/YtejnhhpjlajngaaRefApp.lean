/-
  PROVED HERE: what an append to a list in the reference's table under construction leaves ('NSt'), and the contract of the reference's Drop.
  CONDITIONS: as the theorems say.
-/
import Derived.Test.YtejnhhpjlajngaaRefTab
namespace Go.Proofs.Ytejnhhpjlajngaa
open Go.RowKit HeapM TabM Go.Maps

/-- block b is the new table: its two lists own their rows, not one and the same -/
structure NSt (b base : Nat) (most peak hs vs : Value) (kl vl : List Int) (w : World) : Prop where
  blk : w.heap[b]? = some (.cells #[most, peak, hs, vs] 32 (0, 0))
  own1 : w.ownsRow base 3 1 hs kl.length (ints kl)
  own2 : w.ownsRow base 3 1 vs vl.length (ints vl)
  ap : ∀ g, hs.ownBlock = some g → vs.ownBlock ≠ some g
  bb : base ≤ w.heap.size

section nst
variable {b base : Nat} {most peak hs vs : Value} {kl vl : List Int} {w w1 : World}
theorem NSt.lt (h : NSt b base most peak hs vs kl vl w) : b < w.heap.size := by
  rcases Nat.lt_or_ge b w.heap.size with hlt | hge
  · exact hlt
  · have := h.blk; rw [Array.getElem?_eq_none hge] at this; cases this
theorem own_ne_blk {v : Value} {n : Nat} {xs : List Value} {cs : Array Value} {TT : TypeId} (ho : w.ownsRow base 3 1 v n xs) (hb : w.heap[b]? = some (.cells cs TT (0, 0))) (hT : TT ≠ 3) : v.ownBlock ≠ some b := by
  rcases ho.2 with ⟨rfl, _⟩ | ⟨g, cap, cur, rfl, _, hh, _⟩
  · simp [Value.ownBlock]
  · intro e
    have e' : g = b := by simpa [Value.ownBlock] using e
    subst e'
    rw [hh] at hb
    injection hb with hb
    injection hb with _ hb
    exact hT hb.symm
theorem NSt.ne1 (h : NSt b base most peak hs vs kl vl w) : hs.ownBlock ≠ some b := own_ne_blk h.own1 h.blk (by decide)
theorem NSt.ne2 (h : NSt b base most peak hs vs kl vl w) : vs.ownBlock ≠ some b := own_ne_blk h.own2 h.blk (by decide)
theorem NSt.keeps {S : Nat → Prop} (h : NSt b base most peak hs vs kl vl w) (k : Keeps S w w1) (hb : ¬ S b) (h1 : ∀ g, hs.ownBlock = some g → ¬ S g) (h2 : ∀ g, vs.ownBlock = some g → ¬ S g) : NSt b base most peak hs vs kl vl w1 :=
  ⟨(k.block b h.lt hb).trans h.blk, k.ownsRow h.own1 h1, k.ownsRow h.own2 h2, h.ap, Nat.le_trans h.bb k.size⟩
theorem NSt.cell (h : NSt b base most peak hs vs kl vl w) (i : Nat) : w.cell? ⟨b, i, none⟩ = (#[most, peak, hs, vs] : Array Value)[i]? := by simp [World.cell?, h.blk]
theorem NSt.free (h : NSt b base most peak hs vs kl vl w) (i : Nat) : w.frozen? ⟨b, i, none⟩ = false := by simp [World.frozen?, h.blk]
theorem own_shape {v : Value} {n : Nat} {xs : List Value} {e : TypeId} {sz : Nat} (h : w.ownsRow base e sz v n xs) : ∃ A c, v = .slice A n c := by
  rcases h.2 with ⟨rfl, rfl⟩ | ⟨g, cap, cur, rfl, _⟩
  · exact ⟨_, _, rfl⟩
  · exact ⟨_, _, rfl⟩
theorem own_base {v : Value} {n : Nat} {xs : List Value} {e : TypeId} {sz B' : Nat} (h : w.ownsRow base e sz v n xs) (hb : B' ≤ base) : w.ownsRow B' e sz v n xs := by
  refine ⟨h.1, ?_⟩
  rcases h.2 with h2 | ⟨g, cap, cur, hv, hg, r⟩
  · exact .inl h2
  · exact .inr ⟨g, cap, cur, hv, Nat.le_trans hb hg, r⟩
/-- behind 'n.Hs = append(n.Hs, x)': w1 the world behind the append -/
theorem NSt.app1 (h : NSt b base most peak hs vs kl vl w) {x : Int} {g cap : Nat} (ho : w1.ownsRow base 3 1 (.slice (some ⟨g, 0, none⟩) (kl.length + 1) cap) (kl.length + 1) (ints kl ++ [.int .i64 x]))
    (hg : w.grownBy w1 hs.ownBlock) (hl : hs.ownBlock = some g ∨ w.heap.size ≤ g) :
    NSt b base most peak (.slice (some ⟨g, 0, none⟩) (kl.length + 1) cap) vs (kl ++ [x]) vl (w1.setCell ⟨b, 2, none⟩ (.slice (some ⟨g, 0, none⟩) (kl.length + 1) cap)) := by
  have k1 : Keeps (fun k => hs.ownBlock = some k) w w1 := (Keeps.refl _ _).grown hg (fun k hk => .inr hk)
  have k2 : Keeps (· = b) w1 (w1.setCell ⟨b, 2, none⟩ (.slice (some ⟨g, 0, none⟩) (kl.length + 1) cap)) := (Keeps.refl (· = b) w1).setCell (p := ⟨b, 2, none⟩) (.inr rfl) _
  have blk1 := (k1.block b h.lt h.ne1).trans h.blk
  have hgb : g ≠ b := by
    rintro rfl
    rcases hl with e | e
    · exact h.ne1 e
    · have := h.lt; omega
  refine ⟨?_, ?_, ?_, ?_, Nat.le_trans h.bb (Nat.le_trans k1.size k2.size)⟩
  · simp [World.setCell, Array.getElem?_modify, blk1]
  · rw [List.length_append, List.length_singleton, ← ints_append]
    exact k2.ownsRow ho (fun k hk e => hgb (by rw [← e]; simpa [Value.ownBlock] using hk))
  · exact k2.ownsRow (k1.ownsRow h.own2 (fun k hk e => h.ap k e hk)) (fun k hk e => h.ne2 (by rw [hk, e]))
  · intro k hk e
    have hk' : g = k := by simpa [Value.ownBlock] using hk
    subst hk'
    rcases hl with e' | e'
    · exact h.ap _ e' e
    · have := (h.own2.lt _ e).2; omega
theorem NSt.app2 (h : NSt b base most peak hs vs kl vl w) {x : Int} {g cap : Nat} (ho : w1.ownsRow base 3 1 (.slice (some ⟨g, 0, none⟩) (vl.length + 1) cap) (vl.length + 1) (ints vl ++ [.int .i64 x]))
    (hg : w.grownBy w1 vs.ownBlock) (hl : vs.ownBlock = some g ∨ w.heap.size ≤ g) :
    NSt b base most peak hs (.slice (some ⟨g, 0, none⟩) (vl.length + 1) cap) kl (vl ++ [x]) (w1.setCell ⟨b, 3, none⟩ (.slice (some ⟨g, 0, none⟩) (vl.length + 1) cap)) := by
  have k1 : Keeps (fun k => vs.ownBlock = some k) w w1 := (Keeps.refl _ _).grown hg (fun k hk => .inr hk)
  have k2 : Keeps (· = b) w1 (w1.setCell ⟨b, 3, none⟩ (.slice (some ⟨g, 0, none⟩) (vl.length + 1) cap)) := (Keeps.refl (· = b) w1).setCell (p := ⟨b, 3, none⟩) (.inr rfl) _
  have blk1 := (k1.block b h.lt h.ne2).trans h.blk
  have hgb : g ≠ b := by
    rintro rfl
    rcases hl with e | e
    · exact h.ne2 e
    · have := h.lt; omega
  refine ⟨?_, ?_, ?_, ?_, Nat.le_trans h.bb (Nat.le_trans k1.size k2.size)⟩
  · simp [World.setCell, Array.getElem?_modify, blk1]
  · exact k2.ownsRow (k1.ownsRow h.own1 (fun k hk e => h.ap k hk e)) (fun k hk e => h.ne1 (by rw [hk, e]))
  · rw [List.length_append, List.length_singleton, ← ints_append]
    exact k2.ownsRow ho (fun k hk e => hgb (by rw [← e]; simpa [Value.ownBlock] using hk))
  · intro k hk e
    have hk' : g = k := by simpa [Value.ownBlock] using e
    subst hk'
    rcases hl with e' | e'
    · exact h.ap _ hk e'
    · have := (h.own1.lt _ hk).2; omega
end nst

/-! ### append, run by an equation -/
def appendW := Builtin.append_
theorem builtin_appendW (ats : Array TypeId) (ty : TypeId) (cs : Array Bool) (args : Array Value) : builtin .append ats ty cs args = (do pure (.value (← appendW ats ty args))) := rfl
/-- 'append(v, x)' of one number, as an equation -/
theorem run_app_int {base n : Nat} {v : Value} {xs : List Value} {w : World} (hown : w.ownsRow base 3 1 v n xs) (x : Int) (hn : n + 1 ≤ 4194304) (hb : base ≤ w.heap.size) :
    ∃ g cap w1, (∀ ty, (appendW #[30, 30] ty #[v, .slice (some ⟨w.heap.size, 0, none⟩) 1 1]).run Try.prog (w.alloc (.cells #[.int .i64 x] 3)) = .ok (.slice (some ⟨g, 0, none⟩) (n + 1) cap) w1) ∧
      w1.ownsRow base 3 1 (.slice (some ⟨g, 0, none⟩) (n + 1) cap) (n + 1) (xs ++ [.int .i64 x]) ∧ w.grownBy w1 v.ownBlock ∧ (v.ownBlock = some g ∨ w.heap.size ≤ g) := by
  obtain ⟨i0, hi0, hz0, hz1, hz2⟩ := info_parts int_info
  obtain ⟨g, cap, w1, hr, h2, h3, h4, _⟩ := run_append_lies (P := Try.prog) (w.alloc (.cells #[.int .i64 x] 3)) 30 0 base 3 i0 _ 1 8 Try.underlying30 hi0 hz0 hz1 hz2 rfl (by omega) v n xs (hown.alloc _)
    ⟨w.heap.size, 0, none⟩ 1 1 [.int .i64 x] rfl (cell_one_new _ _ _) (oneCell_int x) (by omega) (by unfold maxLen; omega) (by omega) (by simp; omega) (w.heap.size + 1) (by simp)
  refine ⟨g, cap, w1, fun ty => hr, h2, (World.grownBy_alloc w _ _).trans h3, ?_⟩
  rcases h4 with h | h
  · exact .inl h
  · exact .inr (by omega)

def vals (us : Used Int) : List Int := us.map (·.2)
end Go.Proofs.Ytejnhhpjlajngaa
