/-
  PROVED HERE: the star of two assertions, a block's own assertion, and how a call's step passes through them; the Slots laws' script.
  CONDITIONS: none.
-/
import Derived.Test.YtejnhhpjlajngaaPairA
namespace Go.Proofs.Ytejnhhpjlajngaa
open Go.RowKit HeapM TabM Go.Maps

def star (A B : Asn) : Asn where
  h F w := ∃ F1 F2, A.h F1 w ∧ B.h F2 w ∧ Apart F1 F2 ∧ ∀ k, F k ↔ F1 k ∨ F2 k
  lt := by
    rintro F w ⟨F1, F2, h1, h2, d, hF⟩ k hk
    rcases (hF k).1 hk with e | e
    · exact A.lt h1 k e
    · exact B.lt h2 k e
  st := by
    rintro F w ⟨F1, F2, h1, h2, d, hF⟩ S w' hk hn
    exact ⟨F1, F2, A.st h1 hk (fun k e => hn k ((hF k).2 (.inl e))), B.st h2 hk (fun k e => hn k ((hF k).2 (.inr e))), d, hF⟩

def Blk (o : Nat) (cs : Array Value) (TT : TypeId) : Asn where
  h F w := w.heap[o]? = some (.cells cs TT (0, 0)) ∧ ∀ k, F k ↔ k = o
  lt := by
    rintro F w ⟨h, hF⟩ k hk
    obtain rfl := (hF k).1 hk
    rcases Nat.lt_or_ge k w.heap.size with hlt | hge
    · exact hlt
    · rw [Array.getElem?_eq_none hge] at h; cases h
  st := by
    rintro F w ⟨h, hF⟩ S w' hk hn
    have hlt : o < w.heap.size := by
      rcases Nat.lt_or_ge o w.heap.size with hlt | hge
      · exact hlt
      · rw [Array.getElem?_eq_none hge] at h; cases h
    exact ⟨(hk.block o hlt (hn o ((hF o).2 rfl))).trans h, hF⟩

section star
variable {A B A' B' : Asn} {w w' : World} {F : Fp}
theorem star.swap (h : (star A B).h F w) : (star B A).h F w := by
  obtain ⟨F1, F2, h1, h2, d, hF⟩ := h
  exact ⟨F2, F1, h2, h1, d.symm, fun k => (hF k).trans Or.comm⟩
theorem star.put {F1 F2 F' : Fp} (h2 : B.h F2 w) (d : Apart F1 F2) (hF : ∀ k, F k ↔ F1 k ∨ F2 k) (h1' : A'.h F' w') (st : Step F1 w F' w') :
    ∃ G, (star A' B).h G w' ∧ Step F w G w' := by
  obtain ⟨k2, e2⟩ := Asn.frame h2 st d.symm
  refine ⟨fun k => F' k ∨ F2 k, ⟨F', F2, h1', k2, e2.symm, fun _ => Iff.rfl⟩, st.keeps.mono (fun k _ e => (hF k).2 (.inl e)), fun k e => ?_⟩
  rcases e with e | e
  · rcases st.grow k e with e | e
    · exact .inl ((hF k).2 (.inl e))
    · exact .inr e
  · exact .inl ((hF k).2 (.inr e))
theorem star.stepL (hs : ∀ F, A.h F w → ∃ F', A'.h F' w' ∧ Step F w F' w') : ∀ F, (star A B).h F w → ∃ F', (star A' B).h F' w' ∧ Step F w F' w' := by
  rintro F ⟨F1, F2, h1, h2, d, hF⟩
  obtain ⟨F', h', st⟩ := hs F1 h1
  exact star.put h2 d hF h' st
theorem star.stepR (hs : ∀ F, B.h F w → ∃ F', B'.h F' w' ∧ Step F w F' w') : ∀ F, (star A B).h F w → ∃ F', (star A B').h F' w' ∧ Step F w F' w' := by
  intro F h
  obtain ⟨G, h', st⟩ := star.stepL (B := A) hs F (star.swap h)
  exact ⟨G, star.swap h', st⟩
end star

/-- a new block, beside the fourth part -/
theorem Sep4.add {B : Nat} {A1 A2 A3 A4 : Asn} {w0 w : World} (h : Sep4 B A1 A2 A3 A4 w0 w) (cs : Array Value) (TT : TypeId) : Sep4 B A1 A2 A3 (star A4 (Blk w.heap.size cs TT)) w0 (w.alloc (.cells cs TT)) := by
  have hk : Keeps (fun _ => False) w (w.alloc (.cells cs TT)) := (Keeps.refl _ w).alloc _
  refine h.step4 (fun F hF => ⟨fun k => F k ∨ k = w.heap.size, ⟨F, fun k => k = w.heap.size, Asn.quiet hF hk, ⟨heap_alloc_new w _, fun _ => Iff.rfl⟩, fun k e e' => ?_, fun _ => Iff.rfl⟩, hk.mono (fun _ _ h => h.elim), fun k e => ?_⟩)
  · have := A4.lt hF k e; omega
  · exact e.imp (fun h => h) (fun h => Nat.le_of_eq h.symm)
/-- the fourth part's right side is let go -/
theorem Sep4.left {B : Nat} {A1 A2 A3 A4 E : Asn} {w0 w : World} (h : Sep4 B A1 A2 A3 (star A4 E) w0 w) : Sep4 B A1 A2 A3 A4 w0 w :=
  h.step4 (fun F hF => by
    obtain ⟨F1, F2, h1, h2, d, e⟩ := hF
    exact ⟨F1, h1, (Keeps.refl _ w), fun k hk => .inl ((e k).2 (.inl hk))⟩)
/-- a second part, made new -/
theorem Sep4.new2 {B : Nat} {A1 A2 A3 A4 : Asn} {F : Fp} {w0 w w' : World} (h : Sep4 B A1 emp A3 A4 w0 w) (hA : A2.h F w') (hF : ∀ k, F k → w.heap.size ≤ k) (hb : Below w.heap.size w w') : Sep4 B A1 A2 A3 A4 w0 w' :=
  h.step2 (fun G hG => ⟨F, hA, Keeps.of_below hb (fun k h1 h2 => by omega), fun k hk => .inr (hF k hk)⟩)
theorem Sep4.new3 {B : Nat} {A1 A2 A3 A4 : Asn} {F : Fp} {w0 w w' : World} (h : Sep4 B A1 A2 emp A4 w0 w) (hA : A3.h F w') (hF : ∀ k, F k → w.heap.size ≤ k) (hb : Below w.heap.size w w') : Sep4 B A1 A2 A3 A4 w0 w' :=
  h.step3 (fun G hG => ⟨F, hA, Keeps.of_below hb (fun k h1 h2 => by omega), fun k hk => .inr (hF k hk)⟩)
theorem Sep4.new4 {B : Nat} {A1 A2 A3 A4 : Asn} {F : Fp} {w0 w w' : World} (h : Sep4 B A1 A2 A3 emp w0 w) (hA : A4.h F w') (hF : ∀ k, F k → w.heap.size ≤ k) (hb : Below w.heap.size w w') : Sep4 B A1 A2 A3 A4 w0 w' :=
  h.step4 (fun G hG => ⟨F, hA, Keeps.of_below hb (fun k h1 h2 => by omega), fun k hk => .inr (hF k hk)⟩)
theorem Sep4.below_quiet {B : Nat} {A1 A2 A3 A4 : Asn} {w0 w w' : World} (h : Sep4 B A1 A2 A3 A4 w0 w) (hb : Below w.heap.size w w') : Sep4 B A1 A2 A3 A4 w0 w' :=
  h.quiet (Keeps.of_below hb (fun k h1 h2 => by omega))

theorem RA.new {b : Nat} {most peak : Int} {c c' : Nat} {w : World} (h : w.heap[b]? = some (.cells #[.int .i64 most, .int .i64 peak, .slice none 0 c, .slice none 0 c'] 32 (0, 0))) :
    (RA b most peak []).h (fun k => k = b) w := by
  have hlt : b < w.heap.size := by
    rcases Nat.lt_or_ge b w.heap.size with hlt | hge
    · exact hlt
    · rw [Array.getElem?_eq_none hge] at h; cases h
  exact ⟨none, none, c, c', h, fun k hk => by simp [keys] at hk, fun k hk => by simp [vals] at hk, fun k e => e ▸ hlt, rfl, (fun g e => nomatch e), (fun g e => nomatch e)⟩

/-- the script: n records of three integers, from a on, in blocks below B -/
def Scr (w : World) (B : Nat) (A : Option Addr) (n : Nat) : Prop :=
  ∀ i, i < n → ∃ (a : Addr) (x h v : Int), A = some a ∧ a.block < B ∧ w.cell? (a.add (i * 3)) = some (.int .i64 x) ∧ w.cell? ⟨(a.add (i * 3)).block, (a.add (i * 3)).off + 1, none⟩ = some (.int .i64 h) ∧ w.cell? ⟨(a.add (i * 3)).block, (a.add (i * 3)).off + 2, none⟩ = some (.int .i64 v) ∧
    (Lit.int .i64 x).wf = true ∧ (Lit.int .i64 h).wf = true ∧ (Lit.int .i64 v).wf = true
theorem Scr.below {w w' : World} {B : Nat} {A : Option Addr} {n : Nat} (h : Scr w B A n) (hb : Below B w w') : Scr w' B A n := by
  intro i hi
  obtain ⟨a, x, y, v, e, hlt, h1, h2, h3, h4⟩ := h i hi
  have hl : ∀ k, (a.add k).block < B := fun k => by unfold Addr.add; split <;> exact hlt
  exact ⟨a, x, y, v, e, hlt, (hb.cell (p := a.add (i * 3)) (hl _)).trans h1, (hb.cell (p := ⟨(a.add (i * 3)).block, (a.add (i * 3)).off + 1, none⟩) (hl (i * 3))).trans h2, (hb.cell (p := ⟨(a.add (i * 3)).block, (a.add (i * 3)).off + 2, none⟩) (hl (i * 3))).trans h3, h4⟩
end Go.Proofs.Ytejnhhpjlajngaa
