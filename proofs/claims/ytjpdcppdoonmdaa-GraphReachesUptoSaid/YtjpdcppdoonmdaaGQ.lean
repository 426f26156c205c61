/-
  PROVED HERE: a list of texts, as the row hands it over, lies in memory as StrsAt says.
  CONDITIONS: none.
-/
import Derived.Test.YtjpdcppdoonmdaaGLit
namespace Go.Proofs.Ytjpdcppdoonmdaa
open Go.RowKit Go.WideShapes Go.ChangeShapes Go.ChangeAt Go.Deep
structure StrsB (l : List ByteArray) (b : Nat) : Prop where
  len : l.length + 1 ≤ b
  size : ∀ i, i < l.length → (sAt l i).size + 1 ≤ b
theorem StrsB.mono {l : List ByteArray} {b c : Nat} (h : StrsB l b) (hb : b ≤ c) : StrsB l c := ⟨Nat.le_trans h.len hb, fun i hi => Nat.le_trans (h.size i hi) hb⟩
theorem strs_flat : ∀ (d : List ByteArray) (k : Nat), flatF (fun _ s => [Value.string s]) k d = strsV d
  | [], _ => rfl
  | b :: r, k => by rw [flatF, strs_flat r (k + 1)]; rfl
section
variable {H : Type} {enc : TypeId × Value → H} {W : World} {sp : Nat → Bool}
theorem cells_one {P : Program} {t : TypeId} {n : Nat} {cs : List Value} {x : DataW H × List MemPlace} (ht : P.underlying t = some .string) (h : DataW.trod enc P W 0 sp true n t cs = some x) : ∃ s : ByteArray, cs = [Value.string s] ∧ s.size + 1 ≤ Rows.uptoBulk x.1 := by
  obtain ⟨s, h1, h2, _⟩ := DataW.trod_string ht h
  refine ⟨s, h1, ?_⟩
  rw [h2]
  simp only [Rows.uptoBulk, Array.length_toList]
  exact Nat.le_refl _
set_option maxRecDepth 100000 in
theorem open_strs {v : Value} {d : DataW H} {ps : List MemPlace} {r : Reach} {b0 : Nat} (hval : Value.okWide Try.prog W r b0 40 v) (h : DataW.Trod enc Try.prog W 0 sp true 40 v d ps) :
    ∃ A cp, ∃ ss : List ByteArray, v = .slice A ss.length cp ∧ StrsAt (B0 W) A ss ∧ StrsB ss (Rows.uptoBulk d) := by
  obtain ⟨a, n, c, rfl⟩ := okWide_slice Try.underlying40 hval
  obtain ⟨fuel, h⟩ := h
  obtain ⟨A, cp, xs, D, h1, _, _, h2, h4, h3⟩ := open_row (α := ByteArray) (f := fun s => [Value.string s]) (Q := fun s d => s.size + 1 ≤ Rows.uptoBulk d) Try.underlying40 (size := 1) (by kernel_rfl) (by decide) (fun n cs x h => cells_one Try.underlying9 h) (fun _ => rfl) h
  have h1 : [Value.slice a n c] = [Value.slice A xs.length cp] := h1
  cases h1
  rw [strs_flat] at h2
  have h5 := bulk_len ((List.range xs.length).map D)
  refine ⟨_, _, xs, rfl, h2, by simp at h5; have h3 := h3; simp only at h3; omega, fun i hi => ?_⟩
  have h6 := h4 i hi
  have h7 := bulk_get (D := D) hi
  simp only at h3
  have e : sAt xs i = xs.getD i default := rfl
  rw [e]
  omega
end
end Go.Proofs.Ytjpdcppdoonmdaa
