/-
  PROVED HERE: a small separation logic over blocks: what a part of memory is good for, with its footprint; parts with footprints apart from one another are kept by a step on one of them.
  CONDITIONS: none.
-/
import Derived.Test.YtjpdcppdoonmdaaBase
namespace Go.Proofs.Ytjpdcppdoonmdaa
open Go.RowKit

abbrev Fp := Nat → Prop
/-- a part of memory: what holds of it, over its footprint -/
structure Asn where
  h : Fp → World → Prop
  lt : ∀ {F w}, h F w → ∀ k, F k → k < w.heap.size
  st : ∀ {F w}, h F w → ∀ {S : Nat → Prop} {w' : World}, Keeps S w w' → (∀ k, F k → ¬ S k) → h F w'

/-- a step on footprint F: nothing else of old has turned; the footprint grows by new blocks alone -/
structure Step (F : Fp) (w : World) (F' : Fp) (w' : World) : Prop where
  keeps : Keeps F w w'
  grow : ∀ k, F' k → F k ∨ w.heap.size ≤ k

def Apart (F G : Fp) : Prop := ∀ k, F k → ¬ G k
def PD (l : List Fp) : Prop := l.Pairwise Apart

theorem Apart.symm {F G : Fp} (h : Apart F G) : Apart G F := fun k a b => h k b a
theorem Step.refl (F : Fp) (w : World) : Step F w F w := ⟨Keeps.refl _ _, fun _ h => .inl h⟩
theorem Step.trans {F G H : Fp} {a b c : World} (h : Step F a G b) (k : Step G b H c) : Step F a H c := by
  refine ⟨⟨k.keeps.os.trans h.keeps.os, k.keeps.tape.trans h.keeps.tape, k.keeps.output.trans h.keeps.output, Nat.le_trans h.keeps.size k.keeps.size, fun i hi hn => ?_⟩, fun i hi => ?_⟩
  · refine (k.keeps.block i (Nat.lt_of_lt_of_le hi h.keeps.size) (fun hg => ?_)).trans (h.keeps.block i hi hn)
    rcases h.grow i hg with e | e
    · exact hn e
    · omega
  · rcases k.grow i hi with e | e
    · exact h.grow i e
    · exact .inr (Nat.le_trans h.keeps.size e)
/-- a step that touches nothing of old is a step on any footprint -/
theorem Step.quiet {F : Fp} {w w' : World} (h : Keeps (fun _ => False) w w') : Step F w F w' := ⟨h.mono (fun _ _ e => e.elim), fun _ e => .inl e⟩
theorem Asn.frame {A : Asn} {F G F' : Fp} {w w' : World} (hA : A.h G w) (hs : Step F w F' w') (hd : Apart G F) : A.h G w' ∧ Apart G F' := by
  refine ⟨A.st hA hs.keeps hd, fun k hg hf => ?_⟩
  rcases hs.grow k hf with e | e
  · exact hd k hg e
  · have := A.lt hA k hg; omega
theorem Asn.quiet {A : Asn} {G : Fp} {w w' : World} (hA : A.h G w) (hs : Keeps (fun _ => False) w w') : A.h G w' := A.st hA hs (fun _ _ h => h)
theorem Asn.below {A : Asn} {G : Fp} {B : Nat} {w w' : World} (hA : A.h G w) (hs : Below B w w') (hG : ∀ k, G k → k < B) : A.h G w' :=
  A.st hA (S := fun k => B ≤ k) (Keeps.of_below hs (fun _ _ h => h)) (fun k hk h => by have := hG k hk; omega)

/-- four parts, each apart from the others, all from block B on -/
structure Sep4 (B : Nat) (A1 A2 A3 A4 : Asn) (w0 w : World) : Prop where
  ex : ∃ F1 F2 F3 F4, A1.h F1 w ∧ A2.h F2 w ∧ A3.h F3 w ∧ A4.h F4 w ∧ Apart F1 F2 ∧ Apart F1 F3 ∧ Apart F1 F4 ∧ Apart F2 F3 ∧ Apart F2 F4 ∧ Apart F3 F4 ∧
    (∀ k, F1 k → B ≤ k) ∧ (∀ k, F2 k → B ≤ k) ∧ (∀ k, F3 k → B ≤ k) ∧ (∀ k, F4 k → B ≤ k)
  below : Below B w0 w
  size : B ≤ w.heap.size

section sep
variable {B : Nat} {A1 A2 A3 A4 A1' A2' A3' A4' : Asn} {w0 w w' : World}
theorem Sep4.step1 (h : Sep4 B A1 A2 A3 A4 w0 w) (hs : ∀ F, A1.h F w → ∃ F', A1'.h F' w' ∧ Step F w F' w') : Sep4 B A1' A2 A3 A4 w0 w' := by
  obtain ⟨⟨F1, F2, F3, F4, h1, h2, h3, h4, d12, d13, d14, d23, d24, d34, b1, b2, b3, b4⟩, hb, hz⟩ := h
  obtain ⟨F', h1', st⟩ := hs F1 h1
  obtain ⟨k2, e2⟩ := Asn.frame h2 st d12.symm
  obtain ⟨k3, e3⟩ := Asn.frame h3 st d13.symm
  obtain ⟨k4, e4⟩ := Asn.frame h4 st d14.symm
  refine ⟨⟨F', F2, F3, F4, h1', k2, k3, k4, e2.symm, e3.symm, e4.symm, d23, d24, d34, fun k hk => ?_, b2, b3, b4⟩, hb.trans (st.keeps.below b1 hz), Nat.le_trans hz st.keeps.size⟩
  rcases st.grow k hk with e | e
  · exact b1 k e
  · omega
theorem Sep4.swap12 (h : Sep4 B A1 A2 A3 A4 w0 w) : Sep4 B A2 A1 A3 A4 w0 w := by
  obtain ⟨⟨F1, F2, F3, F4, h1, h2, h3, h4, d12, d13, d14, d23, d24, d34, b1, b2, b3, b4⟩, hb, hz⟩ := h
  exact ⟨⟨F2, F1, F3, F4, h2, h1, h3, h4, d12.symm, d23, d24, d13, d14, d34, b2, b1, b3, b4⟩, hb, hz⟩
theorem Sep4.swap13 (h : Sep4 B A1 A2 A3 A4 w0 w) : Sep4 B A3 A2 A1 A4 w0 w := by
  obtain ⟨⟨F1, F2, F3, F4, h1, h2, h3, h4, d12, d13, d14, d23, d24, d34, b1, b2, b3, b4⟩, hb, hz⟩ := h
  exact ⟨⟨F3, F2, F1, F4, h3, h2, h1, h4, d23.symm, d13.symm, d34, d12.symm, d24, d14, b3, b2, b1, b4⟩, hb, hz⟩
theorem Sep4.swap14 (h : Sep4 B A1 A2 A3 A4 w0 w) : Sep4 B A4 A2 A3 A1 w0 w := by
  obtain ⟨⟨F1, F2, F3, F4, h1, h2, h3, h4, d12, d13, d14, d23, d24, d34, b1, b2, b3, b4⟩, hb, hz⟩ := h
  exact ⟨⟨F4, F2, F3, F1, h4, h2, h3, h1, d24.symm, d34.symm, d14.symm, d23, d12.symm, d13.symm, b4, b2, b3, b1⟩, hb, hz⟩
theorem Sep4.step2 (h : Sep4 B A1 A2 A3 A4 w0 w) (hs : ∀ F, A2.h F w → ∃ F', A2'.h F' w' ∧ Step F w F' w') : Sep4 B A1 A2' A3 A4 w0 w' := (h.swap12.step1 hs).swap12
theorem Sep4.step3 (h : Sep4 B A1 A2 A3 A4 w0 w) (hs : ∀ F, A3.h F w → ∃ F', A3'.h F' w' ∧ Step F w F' w') : Sep4 B A1 A2 A3' A4 w0 w' := (h.swap13.step1 hs).swap13
theorem Sep4.step4 (h : Sep4 B A1 A2 A3 A4 w0 w) (hs : ∀ F, A4.h F w → ∃ F', A4'.h F' w' ∧ Step F w F' w') : Sep4 B A1 A2 A3 A4' w0 w' := (h.swap14.step1 hs).swap14
theorem Sep4.quiet (h : Sep4 B A1 A2 A3 A4 w0 w) (hs : Keeps (fun _ => False) w w') : Sep4 B A1 A2 A3 A4 w0 w' :=
  h.step1 (fun F hF => ⟨F, hF |> fun h => Asn.quiet h hs, Step.quiet hs⟩)
theorem Sep4.get1 (h : Sep4 B A1 A2 A3 A4 w0 w) : ∃ F, A1.h F w ∧ ∀ k, F k → B ≤ k := by
  obtain ⟨⟨F1, F2, F3, F4, h1, _, _, _, _, _, _, _, _, _, b1, _⟩, _⟩ := h
  exact ⟨F1, h1, b1⟩
theorem Sep4.get2 (h : Sep4 B A1 A2 A3 A4 w0 w) : ∃ F, A2.h F w ∧ ∀ k, F k → B ≤ k := h.swap12.get1
theorem Sep4.get3 (h : Sep4 B A1 A2 A3 A4 w0 w) : ∃ F, A3.h F w ∧ ∀ k, F k → B ≤ k := h.swap13.get1
theorem Sep4.get4 (h : Sep4 B A1 A2 A3 A4 w0 w) : ∃ F, A4.h F w ∧ ∀ k, F k → B ≤ k := h.swap14.get1
end sep
end Go.Proofs.Ytjpdcppdoonmdaa
