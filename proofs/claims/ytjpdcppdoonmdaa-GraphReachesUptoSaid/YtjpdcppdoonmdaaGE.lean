/-
  PROVED HERE: what the entries of a graph are good for: plain laws of edges and parents.
  CONDITIONS: none. No statement of the seat is proved here.
-/
import Derived.Test.YtjpdcppdoonmdaaGStr
import Derived.Test.YtjpdcppdoonmdaaGRoot
import Derived.Test.YtjpdcppdoonmdaaGCheck
namespace Go.Proofs.Ytjpdcppdoonmdaa
open Go.RowKit Go.Maps
def strLe (x y : ByteArray) : Prop := (Op.bytesLess x.toList y.toList || (x.toList == y.toList)) = true
instance (x y : ByteArray) : Decidable (strLe x y) := inferInstanceAs (Decidable (_ = true))
theorem strLeV (x y : ByteArray) : Value.bool (Op.bytesLess x.toList y.toList || (x.toList == y.toList)) = Value.bool (decide (strLe x y)) := by
  have h : ∀ (b : Bool) [Decidable (b = true)], b = decide (b = true) := by
    intro b _
    cases b <;> simp
  exact congrArg Value.bool (h _)
theorem strLe_empty {x : ByteArray} : strLe x ⟨#[]⟩ ↔ x = ⟨#[]⟩ := by
  unfold strLe
  rw [strEq']
  have h1 : (⟨#[]⟩ : ByteArray).toList = [] := by rw [Lib.toList_data]
  have h2 : Op.bytesLess x.toList (⟨#[]⟩ : ByteArray).toList = false := by
    rw [h1]
    cases x.toList <;> rfl
  rw [h2]
  simp
/-- the place that an entry leads to -/
def tgt (ns : List NodeM) (z : Int) : Nat := (atI ns z).toNat
theorem atI_lt {ns : List NodeM} {z : Int} (h : 0 ≤ atI ns z) : tgt ns z < ns.length ∧ (nd ns (tgt ns z)).id = z ∧ atI ns z = (tgt ns z : Int) := by
  unfold tgt
  unfold atI at h ⊢
  cases hf : ns.findIdx? (fun n => n.id == z) with
  | none => rw [hf] at h; simp at h
  | some k =>
    rw [List.findIdx?_eq_some_iff_getElem] at hf
    obtain ⟨h1, h2, _⟩ := hf
    refine ⟨h1, ?_, rfl⟩
    show (nd ns k).id = z
    unfold nd
    rw [List.getD_eq_getElem?_getD, List.getElem?_eq_getElem h1]
    simpa using h2
theorem atI_neg {ns : List NodeM} {z : Int} (h : ¬ 0 ≤ atI ns z) : atI ns z = -1 := by
  unfold atI at h ⊢
  cases hf : ns.findIdx? (fun n => n.id == z) with
  | none => rfl
  | some k => rw [hf] at h; simp at h
/-- entry j of node i -/
def ent (ns : List NodeM) (i j : Nat) : EntM := en (nd ns i).ents j
def prevName (ns : List NodeM) (i : Nat) : Nat → ByteArray
  | 0 => ⟨#[]⟩
  | j + 1 => (ent ns i j).name
structure EntOk (ns : List NodeM) (i j : Nat) : Prop where
  at_ : 0 ≤ atI ns (ent ns i j).id
  good : GoodName (ent ns i j).name
  ord : ¬ strLe (ent ns i j).name (prevName ns i j)
def eOf (ns : List NodeM) (i j : Nat) : List (Nat × Nat) := if (nd ns (tgt ns (ent ns i j).id)).kind = 2 then [(tgt ns (ent ns i j).id, i)] else []
def rowE (ns : List NodeM) (i : Nat) : Nat → List (Nat × Nat)
  | 0 => []
  | j + 1 => eOf ns i j ++ rowE ns i j
def allE (ns : List NodeM) : Nat → List (Nat × Nat)
  | 0 => []
  | i + 1 => rowE ns i (nd ns i).ents.length ++ allE ns i
def idP (ns : List NodeM) (p : Nat × Nat) : Int × Int := ((nd ns p.1).id, (nd ns p.2).id)
theorem rowE_mono {ns : List NodeM} {i j m : Nat} (h : j ≤ m) : ∃ l, rowE ns i m = l ++ rowE ns i j := by
  induction m with
  | zero => exact ⟨[], by rw [Nat.le_zero.1 h]; rfl⟩
  | succ m ih =>
    rcases Nat.lt_or_ge m j with h1 | h1
    · have : j = m + 1 := by omega
      subst this
      exact ⟨[], rfl⟩
    · obtain ⟨l, hl⟩ := ih h1
      exact ⟨eOf ns i m ++ l, by rw [rowE, hl, List.append_assoc]⟩
theorem allE_mono {ns : List NodeM} {i m : Nat} (h : i ≤ m) : ∃ l, allE ns m = l ++ allE ns i := by
  induction m with
  | zero => exact ⟨[], by rw [Nat.le_zero.1 h]; rfl⟩
  | succ m ih =>
    rcases Nat.lt_or_ge m i with h1 | h1
    · have : i = m + 1 := by omega
      subst this
      exact ⟨[], rfl⟩
    · obtain ⟨l, hl⟩ := ih h1
      exact ⟨rowE ns m (nd ns m).ents.length ++ l, by rw [allE, hl, List.append_assoc]⟩
theorem nodup_suffix {l : List (Nat × Nat)} {k : List (Nat × Nat)} (h : ((l ++ k).map Prod.fst).Nodup) : (k.map Prod.fst).Nodup := by
  rw [List.map_append] at h
  exact (List.nodup_append.1 h).2.1
theorem Rising.inj {ns : List NodeM} (hr : Rising ns) {a b : Nat} (ha : a < ns.length) (hb : b < ns.length) (h : (nd ns a).id = (nd ns b).id) : a = b := by
  rcases Nat.lt_trichotomy a b with h1 | h1 | h1
  · have := hr a b h1 hb; omega
  · exact h1
  · have := hr b a h1 ha; omega
theorem up_none {ns : List NodeM} {ps : List (Nat × Nat)} {k : Nat} (h : up (ps.map (idP ns)) (nd ns k).id = none) : k ∉ ps.map Prod.fst := by
  unfold up at h
  induction ps with
  | nil => simp
  | cons p ps ih =>
    obtain ⟨a, b⟩ := p
    rw [List.map_cons, idP, List.lookup_cons] at h
    intro hm
    rw [List.map_cons] at hm
    rcases List.mem_cons.1 hm with e | hm
    · subst e
      simp at h
    · by_cases e : ((nd ns k).id == (nd ns a).id) = true
      · rw [e] at h; cases h
      · have e : ((nd ns k).id == (nd ns a).id) = false := by simpa using e
        rw [e] at h
        exact ih h hm
theorem up_some {ns : List NodeM} {ps : List (Nat × Nat)} {k : Nat} {y : Int} (hr : Rising ns) (hk : k < ns.length) (hp : ∀ p, p ∈ ps → p.1 < ns.length) (h : up (ps.map (idP ns)) (nd ns k).id = some y) : k ∈ ps.map Prod.fst ∧ ∃ p, p ∈ ps ∧ p.1 = k ∧ y = (nd ns p.2).id := by
  unfold up at h
  induction ps with
  | nil => cases h
  | cons p ps ih =>
    obtain ⟨a, b⟩ := p
    rw [List.map_cons, idP, List.lookup_cons] at h
    by_cases e : ((nd ns k).id == (nd ns a).id) = true
    · rw [e] at h
      cases h
      have : k = a := hr.inj hk (hp (a, b) (List.mem_cons_self ..)) (by simpa using e)
      subst this
      exact ⟨by simp, (k, b), List.mem_cons_self .., rfl, rfl⟩
    · have e : ((nd ns k).id == (nd ns a).id) = false := by simpa using e
      rw [e] at h
      obtain ⟨h1, q, hq, h2⟩ := ih (fun p hp' => hp p (List.mem_cons_of_mem _ hp')) h
      exact ⟨by rw [List.map_cons]; exact List.mem_cons_of_mem _ h1, q, List.mem_cons_of_mem _ hq, h2⟩
/-- what the map of the nodes answers when the first k are in -/
def bf (A : Option Addr) (ns : List NodeM) (k : Nat) (z : Int) : Option Value := if 0 ≤ atI ns z ∧ atI ns z < k then some (.pointer (some ⟨blkOf A, offOf A + tgt ns z * 10, none⟩)) else none
structure RowOk (ns : List NodeM) (i : Nat) (ps : List (Nat × Nat)) : Prop where
  ents : ∀ j, j < (nd ns i).ents.length → EntOk ns i j
  nodup : ((rowE ns i (nd ns i).ents.length ++ ps).map Prod.fst).Nodup
theorem bf_at {A : Option Addr} {ns : List NodeM} {k : Nat} {z : Int} (h : 0 ≤ atI ns z) (hk : tgt ns z < k) : mf (bf A ns k) (.int .i64 z) = some (.pointer (some ⟨blkOf A, offOf A + tgt ns z * 10, none⟩)) :=
  if_pos ⟨h, by rw [(atI_lt h).2.2]; omega⟩
theorem bf_none {A : Option Addr} {ns : List NodeM} {k : Nat} {z : Int} (h : ¬ 0 ≤ atI ns z) : mf (bf A ns k) (.int .i64 z) = none := if_neg (fun e => h e.1)
theorem rowE_len (ns : List NodeM) (i j : Nat) : (rowE ns i j).length ≤ j := by
  induction j with
  | zero => exact Nat.le_refl _
  | succ j ih =>
    rw [rowE, List.length_append]
    have : (eOf ns i j).length ≤ 1 := by
      unfold eOf
      split <;> simp
    omega
theorem rowE_skip {ns : List NodeM} {i j : Nat} (h : ¬ (nd ns (tgt ns (ent ns i j).id)).kind = 2) : rowE ns i (j + 1) = rowE ns i j := by
  rw [rowE, eOf, if_neg h]; rfl
theorem rowE_dir {ns : List NodeM} {i j : Nat} (h : (nd ns (tgt ns (ent ns i j).id)).kind = 2) : rowE ns i (j + 1) = (tgt ns (ent ns i j).id, i) :: rowE ns i j := by
  rw [rowE, eOf, if_pos h]; rfl
theorem rowOk_fresh {ns : List NodeM} {i j : Nat} {ps : List (Nat × Nat)} (h : RowOk ns i ps) (hj : j < (nd ns i).ents.length) (hk : (nd ns (tgt ns (ent ns i j).id)).kind = 2) : tgt ns (ent ns i j).id ∉ (rowE ns i j ++ ps).map Prod.fst := by
  obtain ⟨l, hl⟩ := rowE_mono (ns := ns) (i := i) (show j + 1 ≤ (nd ns i).ents.length from hj)
  have h1 := h.nodup
  rw [hl, List.append_assoc] at h1
  have h2 := nodup_suffix h1
  rw [rowE_dir hk, List.cons_append, List.map_cons] at h2
  exact (List.nodup_cons.1 h2).1
theorem upd_edge {ns : List NodeM} {i j : Nat} {ps : List (Nat × Nat)} (hat : 0 ≤ atI ns (ent ns i j).id) (hk : (nd ns (tgt ns (ent ns i j).id)).kind = 2) :
    upd (mf (pf ((rowE ns i j ++ ps).map (idP ns)))) (.int .i64 (ent ns i j).id) (some (.int .i64 (nd ns i).id)) = mf (pf ((rowE ns i (j + 1) ++ ps).map (idP ns))) := by
  rw [mf_upd, rowE_dir hk, List.cons_append, List.map_cons, idP, (atI_lt hat).2.1, pf_cons]
theorem len_edge {ns : List NodeM} {i j : Nat} {ps : List (Nat × Nat)} {f : Lit → Option Value} {kl : Lit} (hf : f kl = none) (hk : (nd ns (tgt ns (ent ns i j).id)).kind = 2) :
    (if (f kl).isSome then (rowE ns i j ++ ps).length else (rowE ns i j ++ ps).length + 1) = (rowE ns i (j + 1) ++ ps).length := by
  rw [hf, rowE_dir hk]
  rfl
theorem nodup_edge {ns : List NodeM} {i j : Nat} {ps : List (Nat × Nat)} (hat : 0 ≤ atI ns (ent ns i j).id) (hk : (nd ns (tgt ns (ent ns i j).id)).kind = 2) (hup : up ((rowE ns i j ++ ps).map (idP ns)) (ent ns i j).id = none) (h : ((rowE ns i j ++ ps).map Prod.fst).Nodup) :
    ((rowE ns i (j + 1) ++ ps).map Prod.fst).Nodup := by
  rw [rowE_dir hk, List.cons_append, List.map_cons]
  refine List.nodup_cons.2 ⟨?_, h⟩
  refine up_none (ns := ns) ?_
  rw [(atI_lt hat).2.1]
  exact hup
theorem rowE_fst {ns : List NodeM} {i j : Nat} (h : ∀ t, t < j → EntOk ns i t) : ∀ p, p ∈ rowE ns i j → p.1 < ns.length ∧ p.2 = i := by
  induction j with
  | zero => intro p hp; cases hp
  | succ j ih =>
    intro p hp
    rw [rowE] at hp
    rcases List.mem_append.1 hp with hp | hp
    · unfold eOf at hp
      split at hp
      · rw [List.mem_singleton.1 hp]
        exact ⟨(atI_lt (h j (Nat.lt_succ_self j)).at_).1, rfl⟩
      · cases hp
    · exact ih (fun t ht => h t (by omega)) p hp
theorem rowOk_twice {ns : List NodeM} {i j : Nat} {ps : List (Nat × Nat)} {y : Int} (hr : Rising ns) (hps : ∀ p, p ∈ ps → p.1 < ns.length) (hok : ∀ t, t < j → EntOk ns i t) (hat : 0 ≤ atI ns (ent ns i j).id) (hk : (nd ns (tgt ns (ent ns i j).id)).kind = 2)
    (hup : up ((rowE ns i j ++ ps).map (idP ns)) (ent ns i j).id = some y) (hj : j < (nd ns i).ents.length) : ¬ RowOk ns i ps := fun h => by
  refine rowOk_fresh h hj hk ?_
  rw [← (atI_lt hat).2.1] at hup
  refine (up_some hr (atI_lt hat).1 (fun p hp => ?_) hup).1
  rcases List.mem_append.1 hp with hp | hp
  · exact (rowE_fst hok p hp).1
  · exact hps p hp
end Go.Proofs.Ytjpdcppdoonmdaa
