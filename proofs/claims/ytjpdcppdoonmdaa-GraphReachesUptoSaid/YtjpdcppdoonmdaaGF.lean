/-
  PROVED HERE: what Find answers, as plain data; lists of texts in memory; the entries' order.
  CONDITIONS: none.
-/
import Derived.Test.YtjpdcppdoonmdaaGW
import Derived.Test.YtjpdcppdoonmdaaVy
namespace Go.Proofs.Ytjpdcppdoonmdaa
open Go.RowKit Go.Maps
/-! ### lists of texts -/
def strsV (l : List ByteArray) : List Value := l.map Value.string
def sAt (l : List ByteArray) (i : Nat) : ByteArray := l.getD i ⟨#[]⟩
def StrsAt (β : Bs) (A : Option Addr) (l : List ByteArray) : Prop := RowB β A (strsV l)
theorem strsV_len (l : List ByteArray) : (strsV l).length = l.length := by simp [strsV]
theorem oneCell_strs (d : List ByteArray) : ∀ u ∈ strsV d, u.oneCell' = true := by
  intro u hu
  obtain ⟨b, _, rfl⟩ := List.mem_map.1 hu
  rfl
section strs
variable {β β' : Bs} {A : Option Addr} {l : List ByteArray}
theorem StrsAt.le (h : StrsAt β A l) (hle : β.le β') : StrsAt β' A l := RowB.le h hle
theorem StrsAt.get (h : StrsAt β A l) {j : Nat} (hj : j < l.length) : A = some ⟨blkOf A, offOf A, none⟩ ∧ Rd β ⟨blkOf A, offOf A + j * 1, none⟩ (.string (sAt l j)) := by
  have h1 : (strsV l)[j]? = some (.string (sAt l j)) := by
    rw [strsV, List.getElem?_map, getD_some (x := ⟨#[]⟩) hj]; rfl
  have := h j _ h1
  rw [Nat.mul_one]
  exact this
theorem StrsAt.hd (h : StrsAt β A l) {j : Nat} (hj : j < l.length) : A = some ⟨blkOf A, offOf A, none⟩ := (h.get hj).1
theorem StrsAt.rd (h : StrsAt β A l) {j : Nat} (hj : j < l.length) : Rd β ⟨blkOf A, offOf A + j * 1, none⟩ (.string (sAt l j)) := (h.get hj).2
end strs
theorem drop_sAt {l : List ByteArray} {i : Nat} (h : i < l.length) : l.drop i = sAt l i :: l.drop (i + 1) := by
  rw [List.drop_eq_getElem_cons h]
  unfold sAt
  rw [List.getD_eq_getElem?_getD, List.getElem?_eq_getElem h]
  rfl
/-! ### begin -/
noncomputable def beginC (ns : List NodeM) (root : Int) : Int :=
  if ¬ GraphOk ns then 140 else if ¬ 0 ≤ atI ns root then 141 else if ¬ (nd ns (tgt ns root)).kind = 2 then 173 else 0
theorem beginC_bad {ns : List NodeM} {root : Int} (h : ¬ GraphOk ns) : beginC ns root = 140 := if_pos h
theorem beginC_none {ns : List NodeM} {root : Int} (h : GraphOk ns) (h1 : ¬ 0 ≤ atI ns root) : beginC ns root = 141 := by
  unfold beginC; rw [if_neg (fun e => e h), if_pos h1]
theorem beginC_kind {ns : List NodeM} {root : Int} (h : GraphOk ns) (h1 : 0 ≤ atI ns root) (h2 : ¬ (nd ns (tgt ns root)).kind = 2) : beginC ns root = 173 := by
  unfold beginC; rw [if_neg (fun e => e h), if_neg (fun e => e h1), if_pos h2]
theorem beginC_ok {ns : List NodeM} {root : Int} (h : GraphOk ns) (h1 : 0 ≤ atI ns root) (h2 : (nd ns (tgt ns root)).kind = 2) : beginC ns root = 0 := by
  unfold beginC; rw [if_neg (fun e => e h), if_neg (fun e => e h1), if_neg (fun e => e h2)]
theorem beginC_zero {ns : List NodeM} {root : Int} (h : beginC ns root = 0) : GraphOk ns ∧ 0 ≤ atI ns root ∧ (nd ns (tgt ns root)).kind = 2 := by
  unfold beginC at h
  split at h
  · cases h
  · rename_i h1
    split at h
    · cases h
    · rename_i h2
      split at h
      · cases h
      · rename_i h3
        exact ⟨Classical.not_not.1 h1, Classical.not_not.1 h2, Classical.not_not.1 h3⟩
/-- what the reference's begin answers -/
noncomputable def refB (ns : List NodeM) (root : Int) : Value := if beginC ns root = 0 then .tuple #[.int .i64 ((tgt ns root : Nat) : Int), .int .i64 0] else .tuple #[.int .i64 0, .int .i64 (beginC ns root)]
theorem refB_ok {ns : List NodeM} {root : Int} (h : beginC ns root = 0) : refB ns root = .tuple #[.int .i64 ((tgt ns root : Nat) : Int), .int .i64 0] := if_pos h
theorem refB_bad {ns : List NodeM} {root : Int} (h : ¬ beginC ns root = 0) : refB ns root = .tuple #[.int .i64 0, .int .i64 (beginC ns root)] := if_neg h
/-! ### the entries' order -/
def Sorted (es : List EntM) : Prop := ∀ i j, i < j → j < es.length → cmpB (en es i).name (en es j).name < 0
theorem not_strLe {x y : ByteArray} : ¬ strLe x y ↔ cmpB y x < 0 := by
  unfold strLe
  rw [strEq', Lib.toList_data, Lib.toList_data]
  have h1 := @cmpL_less x.data.toList y.data.toList
  have h2 := @cmpB_zero x y
  have h3 := cmpB_anti x y
  unfold cmpB at h2 h3 ⊢
  rw [Bool.or_eq_true, decide_eq_true_iff, ← h1, ← h2]
  omega
theorem sorted_of {ns : List NodeM} {i : Nat} (h : ∀ j, j < (nd ns i).ents.length → EntOk ns i j) : Sorted (nd ns i).ents := by
  intro a b hab hb
  induction b with
  | zero => omega
  | succ b ih =>
    have h1 : cmpB (ent ns i b).name (ent ns i (b + 1)).name < 0 := not_strLe.1 (h (b + 1) hb).ord
    rcases Nat.lt_succ_iff_lt_or_eq.1 hab with e | e
    · exact cmpB_trans (ih e (by omega)) (by unfold ent at h1; omega)
    · rw [e]; exact h1
theorem Sorted.inj {es : List EntM} (h : Sorted es) {i j : Nat} (hi : i < es.length) (hj : j < es.length) (e : (en es i).name = (en es j).name) : i = j := by
  rcases Nat.lt_trichotomy i j with h1 | h1 | h1
  · have := h i j h1 hj; rw [e, cmpB_self] at this; omega
  · exact h1
  · have := h j i h1 hi; rw [e, cmpB_self] at this; omega
/-- the entry with a name -/
def findE (es : List EntM) (p : ByteArray) : Option Nat := es.findIdx? (fun e => decide (e.name = p))
theorem findE_some {es : List EntM} {p : ByteArray} {j : Nat} (hs : Sorted es) (hj : j < es.length) (e : (en es j).name = p) : findE es p = some j := by
  unfold findE
  rw [List.findIdx?_eq_some_iff_getElem]
  have hg : ∀ k (hk : k < es.length), en es k = es[k] := fun k hk => by
    unfold en
    rw [List.getD_eq_getElem?_getD, List.getElem?_eq_getElem hk]
    rfl
  refine ⟨hj, by rw [← hg j hj]; simpa using e, fun k hk => ?_⟩
  rw [← hg k (by omega)]
  simp only [decide_eq_true_eq]
  intro e2
  have := hs.inj (i := k) (j := j) (by omega) hj (e2.trans e.symm)
  omega
theorem findE_none {es : List EntM} {p : ByteArray} (h : ∀ j, j < es.length → ¬ (en es j).name = p) : findE es p = none := by
  unfold findE
  rw [List.findIdx?_eq_none_iff]
  intro x hx
  obtain ⟨j, hj, rfl⟩ := List.getElem_of_mem hx
  have := h j hj
  unfold en at this
  rw [List.getD_eq_getElem?_getD, List.getElem?_eq_getElem hj] at this
  simpa using this
/-- the node at the end of the parts, below place k -/
noncomputable def findM (ns : List NodeM) : Nat → List ByteArray → Int × Int
  | k, [] => ((nd ns k).id, 0)
  | k, p :: r => if (nd ns k).kind = 3 then (0, 174) else if (nd ns k).kind = 1 then (0, 173) else
    match findE (nd ns k).ents p with
    | none => (0, 170)
    | some j => findM ns (tgt ns (en (nd ns k).ents j).id) r
noncomputable def findG (ns : List NodeM) (root : Int) (ps : List ByteArray) : Int × Int := if beginC ns root = 0 then findM ns (tgt ns root) ps else (0, beginC ns root)
section find
variable {ns : List NodeM} {k i : Nat} {ps : List ByteArray}
theorem findM_end (h : ps.length ≤ i) : findM ns k (ps.drop i) = ((nd ns k).id, 0) := by
  rw [List.drop_eq_nil_of_le h]; rfl
theorem findM_sym (h : i < ps.length) (h3 : (nd ns k).kind = 3) : findM ns k (ps.drop i) = (0, 174) := by
  rw [drop_sAt h]; unfold findM; rw [if_pos h3]
theorem findM_file (h : i < ps.length) (h3 : (nd ns k).kind = 1) : findM ns k (ps.drop i) = (0, 173) := by
  rw [drop_sAt h]; unfold findM; rw [if_neg (by omega), if_pos h3]
theorem findM_none (h : i < ps.length) (h3 : ¬ (nd ns k).kind = 3) (h1 : ¬ (nd ns k).kind = 1) (hf : findE (nd ns k).ents (sAt ps i) = none) : findM ns k (ps.drop i) = (0, 170) := by
  rw [drop_sAt h]; unfold findM; rw [if_neg h3, if_neg h1, hf]
theorem findM_some {j : Nat} (h : i < ps.length) (h3 : ¬ (nd ns k).kind = 3) (h1 : ¬ (nd ns k).kind = 1) (hf : findE (nd ns k).ents (sAt ps i) = some j) : findM ns k (ps.drop i) = findM ns (tgt ns (en (nd ns k).ents j).id) (ps.drop (i + 1)) := by
  rw [drop_sAt h]
  conv => lhs; unfold findM
  rw [if_neg h3, if_neg h1, hf]
theorem findG_ok {root : Int} (h : beginC ns root = 0) : findG ns root ps = findM ns (tgt ns root) ps := if_pos h
theorem findG_bad {root : Int} (h : ¬ beginC ns root = 0) : findG ns root ps = (0, beginC ns root) := if_neg h
end find
theorem sp_compare {β : Bs} (a b : ByteArray) : Spec Try.prog β 45 #[.string a, .string b] [] (fun v l => v = .int .i64 (cmpB a b) ∧ l = []) :=
  Spec.of0 fun w _ => (Try.strings_Compare a b w).mono fun _ _ ⟨he, hw⟩ => ⟨_, he, ⟨rfl, rfl⟩, hw ▸ Keeps.refl _ _⟩
/-! ### the search -/
def Found (es : List EntM) (p : ByteArray) (v : Value) : Prop := (∃ k : Nat, k < es.length ∧ (en es k).name = p ∧ v = .tuple #[.int .i64 (k : Int), .bool true]) ∨ ((∀ j, j < es.length → ¬ (en es j).name = p) ∧ ∃ z, v = .tuple #[.int .i64 z, .bool false])
section search
variable {es : List EntM} {p : ByteArray} {i : Nat}
theorem Sorted.low (hs : Sorted es) (hi : i < es.length) (hc : cmpB (en es i).name p < 0) : ∀ t, t < i + 1 → cmpB (en es t).name p < 0 := fun t ht => by
  rcases Nat.lt_succ_iff_lt_or_eq.1 ht with h | h
  · exact cmpB_trans (hs t i h hi) (by omega)
  · rw [h]; exact hc
theorem Sorted.high (hs : Sorted es) (hc : ¬ cmpB (en es i).name p < 0) : ∀ t, i ≤ t → t < es.length → 0 ≤ cmpB (en es t).name p := fun t ht hl => by
  rcases Nat.eq_or_lt_of_le ht with h | h
  · rw [← h]; omega
  · have h1 := hs i t h hl
    apply Int.not_lt.1
    intro h2
    exact hc (cmpB_trans h1 (by omega))
theorem bs_none (hlo : ∀ t, t < i → cmpB (en es t).name p < 0) (hi : es.length ≤ i) : Found es p (.tuple #[.int .i64 ((i : Nat) : Int), .bool false]) :=
  .inr ⟨fun j hj e => by have := hlo j (by omega); rw [e, cmpB_self] at this; omega, i, rfl⟩
theorem bs_post (hs : Sorted es) (hi : i < es.length) (hlo : ∀ t, t < i → cmpB (en es t).name p < 0) (hhi : ∀ t, i ≤ t → t < es.length → 0 ≤ cmpB (en es t).name p) : Found es p (.tuple #[.int .i64 ((i : Nat) : Int), .bool (decide (cmpB (en es i).name p = 0))]) := by
  by_cases he : cmpB (en es i).name p = 0
  · exact .inl ⟨i, hi, cmpB_zero.1 he, by rw [decide_eq_true he]⟩
  · refine .inr ⟨fun j hj e => ?_, i, by rw [decide_eq_false he]⟩
    rcases Nat.lt_trichotomy j i with h | h | h
    · have := hlo j h; rw [e, cmpB_self] at this; omega
    · subst h; exact he (cmpB_zero.2 e)
    · have h1 := hs i j h hj
      rw [e] at h1
      have := hhi i (Nat.le_refl _) hi
      omega
end search
end Go.Proofs.Ytjpdcppdoonmdaa
