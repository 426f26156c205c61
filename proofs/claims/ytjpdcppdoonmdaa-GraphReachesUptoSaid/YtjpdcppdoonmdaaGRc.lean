/-
  PROVED HERE: what Find comes to lies among what can be reached.
  CONDITIONS: none.
-/
import Derived.Test.YtjpdcppdoonmdaaGUm
import Derived.Test.YtjpdcppdoonmdaaGQ
namespace Go.Proofs.Ytjpdcppdoonmdaa
open Go.RowKit
theorem findM_reach {ns : List NodeM} (hok : GraphOk ns) : ∀ (ps : List ByteArray) (k : Nat), k < ns.length → (findM ns k ps).2 = 0 → ∃ i, Reach ns k i ∧ i < ns.length ∧ (findM ns k ps).1 = (nd ns i).id
  | [], k, hk, _ => ⟨k, .refl, hk, rfl⟩
  | p :: r, k, hk, h => by
    unfold findM at h ⊢
    split at h
    · cases h
    · rename_i h1
      split at h
      · cases h
      · rename_i h2
        rw [if_neg h1, if_neg h2]
        cases hf : findE (nd ns k).ents p with
        | none => rw [hf] at h; cases h
        | some j =>
          rw [hf] at h
          have hj : j < (nd ns k).ents.length := by
            unfold findE at hf
            rw [List.findIdx?_eq_some_iff_getElem] at hf
            exact hf.1
          have ht := (atI_lt (hok.ents k hk j hj).at_).1
          obtain ⟨i, h3, h4, h5⟩ := findM_reach hok r (tgt ns (ent ns k j).id) ht h
          exact ⟨i, (Reach.step j .refl hj).trans h3, h4, h5⟩
theorem findM_zero {ns : List NodeM} : ∀ (ps : List ByteArray) (k : Nat), ¬ (findM ns k ps).2 = 0 → (findM ns k ps).1 = 0
  | [], k, h => absurd rfl h
  | p :: r, k, h => by
    unfold findM at h ⊢
    split
    · rfl
    · rename_i h1
      rw [if_neg h1] at h
      split
      · rfl
      · rename_i h2
        rw [if_neg h2] at h
        split
        · rfl
        · rename_i j hj
          rw [hj] at h
          exact findM_zero r _ h
theorem findG_zero {ns : List NodeM} {root : Int} {ps : List ByteArray} (h : ¬ (findG ns root ps).2 = 0) : (findG ns root ps).1 = 0 := by
  by_cases hb : beginC ns root = 0
  · rw [findG_ok hb] at h ⊢; exact findM_zero _ _ h
  · rw [findG_bad hb]
theorem findG_begin {ns : List NodeM} {root : Int} {ps : List ByteArray} (h : (findG ns root ps).2 = 0) : beginC ns root = 0 := by
  apply Classical.byContradiction
  intro hb
  rw [findG_bad hb] at h
  exact hb h
/-- what lies below what was found, and it itself, lies below the root -/
theorem reaches {ns : List NodeM} {root : Int} {ps : List ByteArray} (h : (findG ns root ps).2 = 0) : ∀ z, z ∈ (underG ns (findG ns root ps).1).1 ++ [(findG ns root ps).1] → z ∈ (underG ns root).1 := by
  have hb := findG_begin h
  obtain ⟨hok, hat, _⟩ := beginC_zero hb
  have htl := atI_lt hat
  rw [findG_ok hb] at h ⊢
  obtain ⟨i, h1, h2, h3⟩ := findM_reach hok ps _ htl.1 h
  rw [underG_ok hb, h3]
  intro z hz
  have hself := atI_self' hok.rise h2
  rcases List.mem_append.1 hz with hz | hz
  · by_cases hb2 : beginC ns (nd ns i).id = 0
    · rw [underG_ok hb2] at hz
      have hz : z ∈ underL ns (tgt ns (nd ns i).id) := hz
      rw [hself.2] at hz
      obtain ⟨j, h4, h5, h6⟩ := underL_mem.1 hz
      exact underL_mem.2 ⟨j, h4, h1.trans h5, h6⟩
    · rw [underG_bad hb2] at hz; cases hz
  · rw [List.mem_singleton.1 hz]
    exact underL_mem.2 ⟨i, h2, h1, rfl⟩
theorem findG_i64 {ns : List NodeM} {root : Int} {ps : List ByteArray} (hB : GraphB ns 1048576) : I64 (findG ns root ps).1 := by
  by_cases h : (findG ns root ps).2 = 0
  · have hb := findG_begin h
    obtain ⟨hok, hat, _⟩ := beginC_zero hb
    rw [findG_ok hb] at h ⊢
    obtain ⟨i, _, h2, h3⟩ := findM_reach hok ps _ (atI_lt hat).1 h
    rw [h3]
    exact (hB.node i h2).ids.1
  · rw [findG_zero h]; exact ⟨by decide, by decide⟩
theorem mem_getD {l : List Int} {z : Int} (h : z ∈ l) : ∃ j, j < l.length ∧ l.getD j 0 = z := by
  obtain ⟨j, hj, rfl⟩ := List.getElem_of_mem h
  exact ⟨j, hj, by rw [List.getD_eq_getElem?_getD, List.getElem?_eq_getElem hj]; rfl⟩
theorem getD_mem' {l : List Int} {j : Nat} (h : j < l.length) : l.getD j 0 ∈ l := by
  rw [List.getD_eq_getElem?_getD, List.getElem?_eq_getElem h]
  exact List.getElem_mem h
/-- a flag that tells whether a number has come -/
def Come (l : List Int) (z : Int) (j : Nat) (fl : Bool) : Prop := fl = true ↔ ∃ t, t < j ∧ l.getD t 0 = z
theorem Come.zero (l : List Int) (z : Int) : Come l z 0 false := ⟨fun h => (by cases h), fun ⟨_, h, _⟩ => absurd h (Nat.not_lt_zero _)⟩
theorem Come.hit {l : List Int} {z : Int} {j : Nat} (h : l.getD j 0 = z) : Come l z (j + 1) true := ⟨fun _ => ⟨j, Nat.lt_succ_self j, h⟩, fun _ => rfl⟩
theorem Come.miss {l : List Int} {z : Int} {j : Nat} {fl : Bool} (c : Come l z j fl) (h : ¬ l.getD j 0 = z) : Come l z (j + 1) fl := by
  refine ⟨fun e => (c.1 e).imp fun t ⟨h1, h2⟩ => ⟨by omega, h2⟩, fun ⟨t, h1, h2⟩ => c.2 ⟨t, ?_, h2⟩⟩
  rcases Nat.lt_succ_iff_lt_or_eq.1 h1 with h3 | h3
  · exact h3
  · rw [h3] at h2; exact absurd h2 h
theorem Come.all {l : List Int} {z : Int} {fl : Bool} (c : Come l z l.length fl) (h : z ∈ l) : fl = true := by
  obtain ⟨j, hj, hz⟩ := mem_getD h
  exact c.2 ⟨j, hj, hz⟩
end Go.Proofs.Ytjpdcppdoonmdaa
