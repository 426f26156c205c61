/-
  PROVED HERE: lister.add for every fuel; the reference's stack as plain data.
  CONDITIONS: none.
-/
import Derived.Test.YtjpdcppdoonmdaaGAdd
namespace Go.Proofs.Ytjpdcppdoonmdaa
open Go.RowKit Go.Maps
theorem sp_addAll : ∀ f, AddOk f
  | 0 => fun _ _ _ _ _ _ _ _ _ _ _ _ _ _ _ _ _ _ _ _ _ h => absurd h (Nat.not_lt_zero _)
  | f + 1 => sp_addStep f (sp_addAll f)
abbrev Item := Nat × Nat × ByteArray
def runS (ns : List NodeM) : List Item → TS → Option TS := foldE (fun x s => addF ns x.1 x.2.1 x.2.2 s)
def kids (ns : List NodeM) (f top : Nat) (p : ByteArray) (es : List EntM) : List Item := es.map fun e => (f, tgt ns e.id, below top p e.name)
theorem runS_nil {ns : List NodeM} {s : TS} : runS ns [] s = some s := rfl
theorem runS_big {ns : List NodeM} {f k : Nat} {p : ByteArray} {g : List Item} {s : TS} (h : 4194304 < s.sum + p.size) : runS ns ((f + 1, k, p) :: g) s = none := by
  unfold runS
  rw [foldE, addF, if_pos h]
  rfl
theorem runS_pop {ns : List NodeM} {f k : Nat} {p : ByteArray} {g : List Item} {s : TS} (h : ¬ 4194304 < s.sum + p.size) : runS ns ((f + 1, k, p) :: g) s = runS ns (kids ns f s.out.length p (nd ns k).ents ++ g) (push ns k p s) := by
  unfold runS kids
  rw [foldE_append, foldE_map, foldE, addF, if_neg h]
structure ItemsOk (ns : List NodeM) (g : List Item) (s : TS) : Prop where
  at_ : ∀ x, x ∈ g → x.2.1 < ns.length ∧ 1 ≤ x.2.2.size ∧ x.2.2.size ≤ 8388608 ∧ 4194304 - s.sum < x.1
  dot : s.out.length = 0 → ∀ x, x ∈ g → x.2.2 = ⟨#[46]⟩
theorem ItemsOk.pop {ns : List NodeM} {f k : Nat} {p : ByteArray} {g : List Item} {s : TS} (hn : Named ns) (h : ItemsOk ns ((f + 1, k, p) :: g) s) (hs : ¬ 4194304 < s.sum + p.size) : ItemsOk ns (kids ns f s.out.length p (nd ns k).ents ++ g) (push ns k p s) := by
  have h0 := h.at_ _ (List.mem_cons_self ..)
  simp only at h0
  refine ⟨fun x hx => ?_, fun h1 => by rw [push_len] at h1; omega⟩
  rw [push_sum]
  rcases List.mem_append.1 hx with hx | hx
  · obtain ⟨e, he, rfl⟩ := List.mem_map.1 hx
    obtain ⟨j, hj, rfl⟩ := mem_en he
    obtain ⟨h1, h2, h3⟩ := hn k h0.1 j hj
    exact ⟨h3, below_size h1, below_le (by omega) h2, by show _ < f; omega⟩
  · have := h.at_ x (List.mem_cons_of_mem _ hx)
    exact ⟨this.1, this.2.1, this.2.2.1, by omega⟩
def itemV (x : Item) : List Value := [.int .i64 ((x.2.1 : Nat) : Int), .string x.2.2]
def stackV (g : List Item) : List Value := flatF (fun _ x => itemV x) 0 g.reverse
theorem stackV_cons (x : Item) (g : List Item) : stackV (x :: g) = stackV g ++ itemV x := by
  unfold stackV
  rw [List.reverse_cons, flatF_snoc]
theorem stackV_len (g : List Item) : (stackV g).length = g.length * 2 := by
  unfold stackV
  rw [flatF_len (s := 2) (fun _ _ => rfl), List.length_reverse]
theorem stackV_top {g g2 : List Item} {x : Item} (hg : g = x :: g2) {j : Nat} {u : Value} (hu : (itemV x)[j]? = some u) : (stackV g)[(g.length - 1) * 2 + j]? = some u := by
  subst hg
  rw [stackV_cons, List.length_cons, Nat.add_sub_cancel, List.getElem?_append_right (by rw [stackV_len]; omega), stackV_len, Nat.add_sub_cancel_left]
  exact hu
theorem stackV_cut {g g2 : List Item} {x : Item} (hg : g = x :: g2) : (stackV g).take (g2.length * 2) = stackV g2 := by
  subst hg
  rw [stackV_cons, List.take_append_of_le_length (by rw [stackV_len]; omega), List.take_of_length_le (by rw [stackV_len]; omega)]
def fstL (ns : List NodeM) (s : TS) : List ByteArray := (List.range ns.length).map s.fst
theorem fstL_len (ns : List NodeM) (s : TS) : (strsV (fstL ns s)).length = ns.length := by simp [strsV, fstL]
theorem fstL_get {ns : List NodeM} {s : TS} {k : Nat} (hk : k < ns.length) : (strsV (fstL ns s))[k]? = some (.string (s.fst k)) := by simp [strsV, fstL, hk]
theorem fstL_zero (ns : List NodeM) : List.replicate ns.length (Value.string ⟨#[]⟩) = strsV (fstL ns TS0) := by
  apply List.ext_getElem?
  intro j
  by_cases h : j < ns.length
  · rw [fstL_get h, List.getElem?_replicate, if_pos h]; rfl
  · rw [List.getElem?_eq_none (by simp; omega), List.getElem?_eq_none (by rw [fstL_len]; omega)]
theorem fstL_new {ns : List NodeM} {s : TS} {k : Nat} {p : ByteArray} (h : s.fst k = ⟨#[]⟩) : (strsV (fstL ns s)).set k (.string p) = strsV (fstL ns (push ns k p s)) := by
  have e : (push ns k p s).fst = fun j => if j = k then p else s.fst j := by unfold push; rw [if_pos h]
  apply List.ext_getElem?
  intro j
  by_cases hj : j < ns.length
  · rw [fstL_get hj, List.getElem?_set]
    by_cases h1 : k = j
    · subst h1
      rw [if_pos rfl, if_pos (by rw [fstL_len]; exact hj), e]
      simp
    · rw [if_neg h1, fstL_get hj, e]
      have : ¬ j = k := fun e => h1 e.symm
      simp [this]
  · rw [List.getElem?_eq_none (by rw [List.length_set, fstL_len]; omega), List.getElem?_eq_none (by rw [fstL_len]; omega)]
theorem fstL_old {ns : List NodeM} {s : TS} {k : Nat} {p : ByteArray} (h : ¬ s.fst k = ⟨#[]⟩) : fstL ns s = fstL ns (push ns k p s) := by
  unfold fstL
  rw [(push_old h).1]
theorem kids_drop {ns : List NodeM} {f top j : Nat} {p : ByteArray} {es : List EntM} (hj : j < es.length) : kids ns f top p (es.drop j) = (f, tgt ns (en es j).id, below top p (en es j).name) :: kids ns f top p (es.drop (j + 1)) := by
  unfold kids
  rw [List.drop_eq_getElem_cons hj, List.map_cons]
  have : en es j = es[j] := by
    unfold en
    rw [List.getD_eq_getElem?_getD, List.getElem?_eq_getElem hj]
    rfl
  rw [this]
theorem ents_le {ns : List NodeM} {k : Nat} (h : GraphOk ns) (hk : k < ns.length) : (nd ns k).ents.length ≤ 8192 := by
  have h1 := h.sum
  have h2 := entSum_mono (ns := ns) (show k + 1 ≤ ns.length from hk)
  rw [entSum] at h2
  omega
theorem kids_len {ns : List NodeM} {f top : Nat} {p : ByteArray} {es : List EntM} : (kids ns f top p es).length = es.length := by simp [kids]
end Go.Proofs.Ytjpdcppdoonmdaa
