/-
  PROVED HERE: the bounds of what Tree answers.
  CONDITIONS: none.
-/
import Derived.Test.YtjpdcppdoonmdaaGTreeR
namespace Go.Proofs.Ytjpdcppdoonmdaa
open Go.RowKit
/-- every line's data are those of a node, or none -/
def LinesOf (ls : List LineM) : Prop := ∀ i, i < ls.length → (ln ls i).data.length ≤ 1048576
theorem LinesOf.push {ns : List NodeM} {k : Nat} {p : ByteArray} {s : TS} (hd : ∀ i, i < ns.length → (nd ns i).data.length ≤ 1048576 ∧ (nd ns i).ents.length ≤ 1048576) (hk : k < ns.length) (h : LinesOf s.out) : LinesOf (push ns k p s).out := by
  intro i hi
  rw [push_out] at hi ⊢
  by_cases e : i = s.out.length
  · subst e
    rw [ln_last]
    unfold lineOf
    split
    · exact (hd k hk).1
    · exact Nat.zero_le _
  · have hi : i < s.out.length := by simp at hi; omega
    rw [ln_init _ _ hi]
    exact h i hi
theorem addF_lines {ns : List NodeM} (hn : Named ns) (hd : ∀ i, i < ns.length → (nd ns i).data.length ≤ 1048576 ∧ (nd ns i).ents.length ≤ 1048576) : ∀ (f k : Nat) (p : ByteArray) (s s' : TS), k < ns.length → LinesOf s.out → addF ns f k p s = some s' → LinesOf s'.out
  | 0, _, _, _, _, _, _, h => by cases h
  | f + 1, k, p, s, s', hk, hs, h => by
    rw [addF] at h
    split at h
    · cases h
    · exact foldE_inv (I := fun x => LinesOf x.out) (fun e he a b ha hab => by
        obtain ⟨j, hj, rfl⟩ := mem_en he
        exact addF_lines hn hd f _ _ a b (hn k hk j hj).2.2 ha hab) (hs.push hd hk) h
theorem treeG_small {ns : List NodeM} {root : Int} (hB : GraphB ns 1048576) : (treeG ns root).1.length ≤ 16777216 ∧ ∀ i, i < (treeG ns root).1.length → (ln (treeG ns root).1 i).data.length ≤ 1048576 := by
  by_cases hbg : beginC ns root = 0
  · obtain ⟨hok, hat, _⟩ := beginC_zero hbg
    cases h : addF ns 4194305 (tgt ns root) ⟨#[46]⟩ TS0 with
    | none => rw [treeG_none hbg h]; exact ⟨Nat.zero_le _, fun i hi => absurd hi (Nat.not_lt_zero i)⟩
    | some s =>
      rw [treeG_some hbg h]
      have h1 := (addF_behind hok.named 4194305 (tgt ns root) ⟨#[46]⟩ TS0 s (atI_lt hat).1 (show (1 : Nat) ≤ 1 by decide) TS0_ok h).1.ok
      have h2 := h1.out
      have h3 := h1.sum
      exact ⟨by show s.out.length ≤ _; omega, addF_lines hok.named hB.hd 4194305 (tgt ns root) ⟨#[46]⟩ TS0 s (atI_lt hat).1 (fun i hi => absurd hi (Nat.not_lt_zero i)) h⟩
  · rw [treeG_bad hbg]; exact ⟨Nat.zero_le _, fun i hi => absurd hi (Nat.not_lt_zero i)⟩
end Go.Proofs.Ytjpdcppdoonmdaa
