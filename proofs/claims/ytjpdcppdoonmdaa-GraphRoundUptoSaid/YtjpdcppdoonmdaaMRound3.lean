/-
  PROVED HERE: lemmas and contracts of functions (texts of this repo, joined): GE, GEnter, GR, GRead, Vw, GP, GOk, Row, GO, GRef, GW, Vy, GF, GBegin.
  CONDITIONS: as the theorems say.
-/
import Derived.Test.YtjpdcppdoonmdaaMRound2
import Derived.Laws.OwnMore
import Derived.Test.YtjpdcppdoonmdaaRows
import Derived.ProofKit
import Derived.OpenShut
import Derived.Carry
import Derived.Deep.Slices
import Derived.Lib.Bytealg
/- part GE. PROVED HERE: what the entries of a graph are good for: plain laws of edges and parents. CONDITIONS: none. No statement of the seat is proved here. -/
section
namespace Go.Proofs.Ytjpdcppdoonmdaa
open Go.RowKit Go.Maps
def strLe (x y : ByteArray) : Prop := (Op.bytesLess x.toList y.toList || (x.toList == y.toList)) = true
instance (x y : ByteArray) : Decidable (strLe x y) := inferInstanceAs (Decidable (_ = true))
theorem strLeV (x y : ByteArray) : Value.bool (Op.bytesLess x.toList y.toList || (x.toList == y.toList)) = Value.bool (decide (strLe x y)) := by
  have h : ∀ (b : Bool) [Decidable (b = true)], b = decide (b = true) := by
    intro b _
    cases b <;> simp
  exact congrArg Value.bool (h _)
theorem strLe_empty {x : ByteArray} : strLe x ⟨#[]⟩ ↔ x = ⟨#[]⟩ := by
  unfold strLe
  rw [strEq']
  have h1 : (⟨#[]⟩ : ByteArray).toList = [] := by rw [Lib.toList_data]
  have h2 : Op.bytesLess x.toList (⟨#[]⟩ : ByteArray).toList = false := by
    rw [h1]
    cases x.toList <;> rfl
  rw [h2]
  simp
/-- the place that an entry leads to -/
def tgt (ns : List NodeM) (z : Int) : Nat := (atI ns z).toNat
theorem atI_lt {ns : List NodeM} {z : Int} (h : 0 ≤ atI ns z) : tgt ns z < ns.length ∧ (nd ns (tgt ns z)).id = z ∧ atI ns z = (tgt ns z : Int) := by
  unfold tgt
  unfold atI at h ⊢
  cases hf : ns.findIdx? (fun n => n.id == z) with
  | none => rw [hf] at h; simp at h
  | some k =>
    rw [List.findIdx?_eq_some_iff_getElem] at hf
    obtain ⟨h1, h2, _⟩ := hf
    refine ⟨h1, ?_, rfl⟩
    show (nd ns k).id = z
    unfold nd
    rw [List.getD_eq_getElem?_getD, List.getElem?_eq_getElem h1]
    simpa using h2
theorem atI_neg {ns : List NodeM} {z : Int} (h : ¬ 0 ≤ atI ns z) : atI ns z = -1 := by
  unfold atI at h ⊢
  cases hf : ns.findIdx? (fun n => n.id == z) with
  | none => rfl
  | some k => rw [hf] at h; simp at h
/-- entry j of node i -/
def ent (ns : List NodeM) (i j : Nat) : EntM := en (nd ns i).ents j
def prevName (ns : List NodeM) (i : Nat) : Nat → ByteArray
  | 0 => ⟨#[]⟩
  | j + 1 => (ent ns i j).name
structure EntOk (ns : List NodeM) (i j : Nat) : Prop where
  at_ : 0 ≤ atI ns (ent ns i j).id
  good : GoodName (ent ns i j).name
  ord : ¬ strLe (ent ns i j).name (prevName ns i j)
def eOf (ns : List NodeM) (i j : Nat) : List (Nat × Nat) := if (nd ns (tgt ns (ent ns i j).id)).kind = 2 then [(tgt ns (ent ns i j).id, i)] else []
def rowE (ns : List NodeM) (i : Nat) : Nat → List (Nat × Nat)
  | 0 => []
  | j + 1 => eOf ns i j ++ rowE ns i j
def allE (ns : List NodeM) : Nat → List (Nat × Nat)
  | 0 => []
  | i + 1 => rowE ns i (nd ns i).ents.length ++ allE ns i
def idP (ns : List NodeM) (p : Nat × Nat) : Int × Int := ((nd ns p.1).id, (nd ns p.2).id)
theorem rowE_mono {ns : List NodeM} {i j m : Nat} (h : j ≤ m) : ∃ l, rowE ns i m = l ++ rowE ns i j := by
  induction m with
  | zero => exact ⟨[], by rw [Nat.le_zero.1 h]; rfl⟩
  | succ m ih =>
    rcases Nat.lt_or_ge m j with h1 | h1
    · have : j = m + 1 := by omega
      subst this
      exact ⟨[], rfl⟩
    · obtain ⟨l, hl⟩ := ih h1
      exact ⟨eOf ns i m ++ l, by rw [rowE, hl, List.append_assoc]⟩
theorem allE_mono {ns : List NodeM} {i m : Nat} (h : i ≤ m) : ∃ l, allE ns m = l ++ allE ns i := by
  induction m with
  | zero => exact ⟨[], by rw [Nat.le_zero.1 h]; rfl⟩
  | succ m ih =>
    rcases Nat.lt_or_ge m i with h1 | h1
    · have : i = m + 1 := by omega
      subst this
      exact ⟨[], rfl⟩
    · obtain ⟨l, hl⟩ := ih h1
      exact ⟨rowE ns m (nd ns m).ents.length ++ l, by rw [allE, hl, List.append_assoc]⟩
theorem nodup_suffix {l : List (Nat × Nat)} {k : List (Nat × Nat)} (h : ((l ++ k).map Prod.fst).Nodup) : (k.map Prod.fst).Nodup := by
  rw [List.map_append] at h
  exact (List.nodup_append.1 h).2.1
theorem Rising.inj {ns : List NodeM} (hr : Rising ns) {a b : Nat} (ha : a < ns.length) (hb : b < ns.length) (h : (nd ns a).id = (nd ns b).id) : a = b := by
  rcases Nat.lt_trichotomy a b with h1 | h1 | h1
  · have := hr a b h1 hb; omega
  · exact h1
  · have := hr b a h1 ha; omega
theorem up_none {ns : List NodeM} {ps : List (Nat × Nat)} {k : Nat} (h : up (ps.map (idP ns)) (nd ns k).id = none) : k ∉ ps.map Prod.fst := by
  unfold up at h
  induction ps with
  | nil => simp
  | cons p ps ih =>
    obtain ⟨a, b⟩ := p
    rw [List.map_cons, idP, List.lookup_cons] at h
    intro hm
    rw [List.map_cons] at hm
    rcases List.mem_cons.1 hm with e | hm
    · subst e
      simp at h
    · by_cases e : ((nd ns k).id == (nd ns a).id) = true
      · rw [e] at h; cases h
      · have e : ((nd ns k).id == (nd ns a).id) = false := by simpa using e
        rw [e] at h
        exact ih h hm
theorem up_some {ns : List NodeM} {ps : List (Nat × Nat)} {k : Nat} {y : Int} (hr : Rising ns) (hk : k < ns.length) (hp : ∀ p, p ∈ ps → p.1 < ns.length) (h : up (ps.map (idP ns)) (nd ns k).id = some y) : k ∈ ps.map Prod.fst ∧ ∃ p, p ∈ ps ∧ p.1 = k ∧ y = (nd ns p.2).id := by
  unfold up at h
  induction ps with
  | nil => cases h
  | cons p ps ih =>
    obtain ⟨a, b⟩ := p
    rw [List.map_cons, idP, List.lookup_cons] at h
    by_cases e : ((nd ns k).id == (nd ns a).id) = true
    · rw [e] at h
      cases h
      have : k = a := hr.inj hk (hp (a, b) (List.mem_cons_self ..)) (by simpa using e)
      subst this
      exact ⟨by simp, (k, b), List.mem_cons_self .., rfl, rfl⟩
    · have e : ((nd ns k).id == (nd ns a).id) = false := by simpa using e
      rw [e] at h
      obtain ⟨h1, q, hq, h2⟩ := ih (fun p hp' => hp p (List.mem_cons_of_mem _ hp')) h
      exact ⟨by rw [List.map_cons]; exact List.mem_cons_of_mem _ h1, q, List.mem_cons_of_mem _ hq, h2⟩
/-- what the map of the nodes answers when the first k are in -/
def bf (A : Option Addr) (ns : List NodeM) (k : Nat) (z : Int) : Option Value := if 0 ≤ atI ns z ∧ atI ns z < k then some (.pointer (some ⟨blkOf A, offOf A + tgt ns z * 10, none⟩)) else none
structure RowOk (ns : List NodeM) (i : Nat) (ps : List (Nat × Nat)) : Prop where
  ents : ∀ j, j < (nd ns i).ents.length → EntOk ns i j
  nodup : ((rowE ns i (nd ns i).ents.length ++ ps).map Prod.fst).Nodup
theorem bf_at {A : Option Addr} {ns : List NodeM} {k : Nat} {z : Int} (h : 0 ≤ atI ns z) (hk : tgt ns z < k) : mf (bf A ns k) (.int .i64 z) = some (.pointer (some ⟨blkOf A, offOf A + tgt ns z * 10, none⟩)) :=
  if_pos ⟨h, by rw [(atI_lt h).2.2]; omega⟩
theorem bf_none {A : Option Addr} {ns : List NodeM} {k : Nat} {z : Int} (h : ¬ 0 ≤ atI ns z) : mf (bf A ns k) (.int .i64 z) = none := if_neg (fun e => h e.1)
theorem rowE_len (ns : List NodeM) (i j : Nat) : (rowE ns i j).length ≤ j := by
  induction j with
  | zero => exact Nat.le_refl _
  | succ j ih =>
    rw [rowE, List.length_append]
    have : (eOf ns i j).length ≤ 1 := by
      unfold eOf
      split <;> simp
    omega
theorem rowE_skip {ns : List NodeM} {i j : Nat} (h : ¬ (nd ns (tgt ns (ent ns i j).id)).kind = 2) : rowE ns i (j + 1) = rowE ns i j := by
  rw [rowE, eOf, if_neg h]; rfl
theorem rowE_dir {ns : List NodeM} {i j : Nat} (h : (nd ns (tgt ns (ent ns i j).id)).kind = 2) : rowE ns i (j + 1) = (tgt ns (ent ns i j).id, i) :: rowE ns i j := by
  rw [rowE, eOf, if_pos h]; rfl
theorem rowOk_fresh {ns : List NodeM} {i j : Nat} {ps : List (Nat × Nat)} (h : RowOk ns i ps) (hj : j < (nd ns i).ents.length) (hk : (nd ns (tgt ns (ent ns i j).id)).kind = 2) : tgt ns (ent ns i j).id ∉ (rowE ns i j ++ ps).map Prod.fst := by
  obtain ⟨l, hl⟩ := rowE_mono (ns := ns) (i := i) (show j + 1 ≤ (nd ns i).ents.length from hj)
  have h1 := h.nodup
  rw [hl, List.append_assoc] at h1
  have h2 := nodup_suffix h1
  rw [rowE_dir hk, List.cons_append, List.map_cons] at h2
  exact (List.nodup_cons.1 h2).1
theorem upd_edge {ns : List NodeM} {i j : Nat} {ps : List (Nat × Nat)} (hat : 0 ≤ atI ns (ent ns i j).id) (hk : (nd ns (tgt ns (ent ns i j).id)).kind = 2) :
    upd (mf (pf ((rowE ns i j ++ ps).map (idP ns)))) (.int .i64 (ent ns i j).id) (some (.int .i64 (nd ns i).id)) = mf (pf ((rowE ns i (j + 1) ++ ps).map (idP ns))) := by
  rw [mf_upd, rowE_dir hk, List.cons_append, List.map_cons, idP, (atI_lt hat).2.1, pf_cons]
theorem len_edge {ns : List NodeM} {i j : Nat} {ps : List (Nat × Nat)} {f : Lit → Option Value} {kl : Lit} (hf : f kl = none) (hk : (nd ns (tgt ns (ent ns i j).id)).kind = 2) :
    (if (f kl).isSome then (rowE ns i j ++ ps).length else (rowE ns i j ++ ps).length + 1) = (rowE ns i (j + 1) ++ ps).length := by
  rw [hf, rowE_dir hk]
  rfl
theorem nodup_edge {ns : List NodeM} {i j : Nat} {ps : List (Nat × Nat)} (hat : 0 ≤ atI ns (ent ns i j).id) (hk : (nd ns (tgt ns (ent ns i j).id)).kind = 2) (hup : up ((rowE ns i j ++ ps).map (idP ns)) (ent ns i j).id = none) (h : ((rowE ns i j ++ ps).map Prod.fst).Nodup) :
    ((rowE ns i (j + 1) ++ ps).map Prod.fst).Nodup := by
  rw [rowE_dir hk, List.cons_append, List.map_cons]
  refine List.nodup_cons.2 ⟨?_, h⟩
  refine up_none (ns := ns) ?_
  rw [(atI_lt hat).2.1]
  exact hup
theorem rowE_fst {ns : List NodeM} {i j : Nat} (h : ∀ t, t < j → EntOk ns i t) : ∀ p, p ∈ rowE ns i j → p.1 < ns.length ∧ p.2 = i := by
  induction j with
  | zero => intro p hp; cases hp
  | succ j ih =>
    intro p hp
    rw [rowE] at hp
    rcases List.mem_append.1 hp with hp | hp
    · unfold eOf at hp
      split at hp
      · rw [List.mem_singleton.1 hp]
        exact ⟨(atI_lt (h j (Nat.lt_succ_self j)).at_).1, rfl⟩
      · cases hp
    · exact ih (fun t ht => h t (by omega)) p hp
theorem rowOk_twice {ns : List NodeM} {i j : Nat} {ps : List (Nat × Nat)} {y : Int} (hr : Rising ns) (hps : ∀ p, p ∈ ps → p.1 < ns.length) (hok : ∀ t, t < j → EntOk ns i t) (hat : 0 ≤ atI ns (ent ns i j).id) (hk : (nd ns (tgt ns (ent ns i j).id)).kind = 2)
    (hup : up ((rowE ns i j ++ ps).map (idP ns)) (ent ns i j).id = some y) (hj : j < (nd ns i).ents.length) : ¬ RowOk ns i ps := fun h => by
  refine rowOk_fresh h hj hk ?_
  rw [← (atI_lt hat).2.1] at hup
  refine (up_some hr (atI_lt hat).1 (fun p hp => ?_) hup).1
  rcases List.mem_append.1 hp with hp | hp
  · exact (rowE_fst hok p hp).1
  · exact hps p hp
end Go.Proofs.Ytjpdcppdoonmdaa
end
/- part GEnter. PROVED HERE: the entries of a node CONDITIONS: as the theorems say. Printed by a program of this repo (wip/v). -/
section
namespace Go.Proofs.Ytjpdcppdoonmdaa
open Go.RowKit
attribute [local irreducible] TriL TriLQ Tri TriQ
set_option maxRecDepth 100000 in
set_option maxHeartbeats 4000000 in
theorem sp_enter {β : Bs} (A : Option Addr) (ns : List NodeM) (L : Lay) (hG : GraphAt β A ns L) (hr : Rising ns) (i : Nat) (hi : i < ns.length) (hel : (nd ns i).ents.length ≤ 1048576) (hwf : ∀ j, j < (nd ns i).ents.length → -9223372036854775808 ≤ (ent ns i j).id ∧ (ent ns i j).id ≤ 9223372036854775807) (hnm : ∀ j, j < (nd ns i).ents.length → (ent ns i j).name.size ≤ 1048576)
    (mb mp : Nat) (ps : List (Nat × Nat)) (hpl : ps.length ≤ 16777216) (hps : ∀ p, p ∈ ps → p.1 < ns.length) (hnp : (ps.map Prod.fst).Nodup) :
    Spec Try.prog β 59 #[.pointer (some ⟨(blkOf A), offOf A + i * 10, none⟩), .map (some mb), .map (some mp)] [.abs (MapA Try.prog 3 mb (mf (bf A ns ns.length)) ns.length), .abs (MapA Try.prog 3 mp (mf (pf ((ps).map (idP ns)))) ((ps).length))] (fun v l => (v = .bool true ∧ RowOk ns i ps ∧ l = [.abs (MapA Try.prog 3 mb (mf (bf A ns ns.length)) ns.length), .abs (MapA Try.prog 3 mp (mf (pf ((rowE ns i (nd ns i).ents.length ++ ps).map (idP ns)))) ((rowE ns i (nd ns i).ents.length ++ ps).length))]) ∨ (v = .bool false ∧ ¬ RowOk ns i ps ∧ l = [])) := by
 refine Spec.enter Try.func59 rfl Try.ntmps59 (Nat.le_of_ble_eq_true rfl) (fun R => ?_)
 refine Tri.seq (Tri.region ?_)
 refine TriL.segK (k' := 1) (fr' := [(0, .pointer (some ⟨(blkOf A), offOf A + i * 10, none⟩)), (1, .map (some mb)), (2, .map (some mp))]) (obl := []) [o_] [0, 1, 2] (fun _ _ => by kernel_rfl) trivial ?_
 refine TriL.nil (by kernel_rfl) (TriQ.next (Tri.seq (Tri.region ?_)))
 refine TriL.segK (k' := 1) (fr' := [(0, .pointer (some ⟨(blkOf A), offOf A + i * 10, none⟩)), (1, .map (some mb)), (2, .map (some mp)), (7, .string ⟨#[]⟩)]) (obl := []) [o_] [0, 1, 2, 7] (fun _ _ => by kernel_rfl) trivial ?_
 refine TriL.nil (by kernel_rfl) (TriQ.next (Tri.seq (Tri.seq (Tri.region ?_))))
 refine TriL.segK (k' := 6) (fr' := [(0, .pointer (some ⟨(blkOf A), offOf A + i * 10, none⟩)), (1, .map (some mb)), (2, .map (some mp)), (7, .string ⟨#[]⟩), (16, .slice (L.eA i) ((nd ns i).ents.length) ((L.eC i))), (17, .int .i64 ↑((nd ns i).ents.length)), (18, .int .i64 0)]) (obl := [(Rd β ⟨(blkOf A), offOf A + i * 10 + 9, none⟩ (.slice (L.eA i) ((nd ns i).ents.length) ((L.eC i))))]) [o_, o_, o_, ⟨[.old (.slice (L.eA i) ((nd ns i).ents.length) ((L.eC i)))], none, none, none, none⟩, o_, o_] [0, 1, 2, 7, 16, 17, 18] (fun _ _ => by kernel_rfl) ⟨GraphAt.rd hG (i := i) (by omega) (j := 9) rfl, trivial⟩ ?_
 refine TriL.nil (by kernel_rfl) (TriQ.next (Tri.block ?_))
 refine Tri.loop (ι := Nat) (fun (j : Nat) => (j ≤ (nd ns i).ents.length) ∧ (∀ t, t < j → EntOk ns i t) ∧ (((rowE ns i j ++ ps).map Prod.fst).Nodup)) (fun (j : Nat) => (nd ns i).ents.length - j) (fun (j : Nat) => [(0, .pointer (some ⟨(blkOf A), offOf A + i * 10, none⟩)), (1, .map (some mb)), (2, .map (some mp)), (7, .string (prevName ns i j)), (16, .slice (L.eA i) ((nd ns i).ents.length) ((L.eC i))), (17, .int .i64 ↑((nd ns i).ents.length)), (18, .int .i64 ↑j)]) (fun (j : Nat) => [.abs (MapA Try.prog 3 mb (mf (bf A ns ns.length)) ns.length), .abs (MapA Try.prog 3 mp (mf (pf ((rowE ns i j ++ ps).map (idP ns)))) ((rowE ns i j ++ ps).length)), .abs R]) 0 (idx := [0, 1, 2, 7, 16, 17, 18]) (pk := [0, 1, 2]) (show (0 ≤ (nd ns i).ents.length) ∧ (∀ t, t < 0 → EntOk ns i t) ∧ (((rowE ns i 0 ++ ps).map Prod.fst).Nodup) from ⟨Nat.zero_le _, fun t ht => absurd ht (Nat.not_lt_zero t), hnp⟩) (fun _ => by kernel_rfl) rfl (by kernel_rfl) ?_
 rintro j ⟨hj, hok, hnd⟩
 show Tri _ _ _ _ [(0, .pointer (some ⟨(blkOf A), offOf A + i * 10, none⟩)), (1, .map (some mb)), (2, .map (some mp)), (7, .string (prevName ns i j)), (16, .slice (L.eA i) ((nd ns i).ents.length) ((L.eC i))), (17, .int .i64 ↑((nd ns i).ents.length)), (18, .int .i64 ↑j)] [.abs (MapA Try.prog 3 mb (mf (bf A ns ns.length)) ns.length), .abs (MapA Try.prog 3 mp (mf (pf ((rowE ns i j ++ ps).map (idP ns)))) ((rowE ns i j ++ ps).length)), .abs R] _
 refine Tri.seq (Tri.region ?_)
 refine TriL.segK (k' := 1) (fr' := [(0, .pointer (some ⟨(blkOf A), offOf A + i * 10, none⟩)), (1, .map (some mb)), (2, .map (some mp)), (7, .string (prevName ns i j)), (16, .slice (L.eA i) ((nd ns i).ents.length) ((L.eC i))), (17, .int .i64 ↑((nd ns i).ents.length)), (18, .int .i64 ↑j), (19, .bool (decide ((((j : Nat) : Int) : Int) < ((((nd ns i).ents.length : Nat) : Int) : Int))))]) (obl := []) [o_] [0, 1, 2, 7, 16, 17, 18, 19] (fun _ _ => by kernel_rfl) trivial ?_
 refine TriL.nil (by kernel_rfl) (TriQ.next (Tri.seq ?_))
 refine Tri.condP (p := (((j : Nat) : Int) : Int) < ((((nd ns i).ents.length : Nat) : Int) : Int)) (fun _ => by kernel_rfl) (fun h19 => ?_) (fun h19 => ?_)
 ·
  refine Tri.skip (TriQ.next (Tri.seq (Tri.block (Tri.seq (Tri.region ?_)))))
  refine TriL.segN (k' := 4) (fr' := fun b1 => [(0, .pointer (some ⟨(blkOf A), offOf A + i * 10, none⟩)), (1, .map (some mb)), (2, .map (some mp)), (7, .string (prevName ns i j)), (9, .pointer (some ⟨b1, 0, none⟩)), (16, .slice (L.eA i) ((nd ns i).ents.length) ((L.eC i))), (17, .int .i64 ↑((nd ns i).ents.length)), (18, .int .i64 ↑j)]) (hps' := fun b1 => [.abs (MapA Try.prog 3 mb (mf (bf A ns ns.length)) ns.length), .abs (MapA Try.prog 3 mp (mf (pf ((rowE ns i j ++ ps).map (idP ns)))) ((rowE ns i j ++ ps).length)), .abs R, .blk b1 [.string (en (nd ns i).ents j).name, .int .i64 ((en (nd ns i).ents j).id)] 72]) (obl := fun b1 => [b1 = b1, b1 = b1, (Rd β ⟨(blkOf (L.eA i)), offOf (L.eA i) + j * 2 + 1, none⟩ (.int .i64 ((en (nd ns i).ents j).id))), (Rd β ⟨(blkOf (L.eA i)), offOf (L.eA i) + j * 2, none⟩ (.string (en (nd ns i).ents j).name)), ((j : Nat) : Int) = ((j : Nat) : Int), j < (nd ns i).ents.length, (⟨(blkOf (L.eA i)), offOf (L.eA i), none⟩ : Addr).spot = none, ((L.eA i) : Option Addr) = some ⟨(blkOf (L.eA i)), offOf (L.eA i), none⟩]) [⟨[], some j, none, some ⟨(blkOf (L.eA i)), offOf (L.eA i), none⟩, none⟩, ⟨[.old (.string (en (nd ns i).ents j).name), .old (.int .i64 ((en (nd ns i).ents j).id))], none, none, none, none⟩, o_, ⟨[.at 3, .at 3], none, none, none, none⟩] [0, 1, 2, 7, 9, 16, 17, 18] [0, 1, 2, 3] (fun _ _ => by kernel_rfl) (fun b1 => ⟨rfl, rfl, EntsAt.rd (hG.ents i (by omega)) (i := j) (by omega) (j := 1) rfl, EntsAt.rd (hG.ents i (by omega)) (i := j) (by omega) (j := 0) rfl, rfl, by omega, rfl, EntsAt.hd (hG.ents i (by omega)) (i := j) (by omega), trivial⟩) (fun b1 => ?_)
  refine TriL.nil (by kernel_rfl) (TriQ.next (Tri.seq (Tri.region ?_)))
  refine TriL.segK (k' := 3) (fr' := [(0, .pointer (some ⟨(blkOf A), offOf A + i * 10, none⟩)), (1, .map (some mb)), (2, .map (some mp)), (7, .string (prevName ns i j)), (9, .pointer (some ⟨b1, 0, none⟩)), (16, .slice (L.eA i) ((nd ns i).ents.length) ((L.eC i))), (17, .int .i64 ↑((nd ns i).ents.length)), (18, .int .i64 ↑j), (22, .map (some mb)), (24, .int .i64 ((en (nd ns i).ents j).id))]) (obl := [b1 = b1]) [o_, o_, ⟨[.at 3], none, none, none, none⟩] [0, 1, 2, 7, 9, 16, 17, 18, 22, 24] (fun _ _ => by kernel_rfl) ⟨rfl, trivial⟩ ?_
  by_cases hat : 0 ≤ atI ns (en (nd ns i).ents j).id
  ·
   have htl := atI_lt hat
   refine TriL.mapLook 0 (d := (some 25)) (t := 66) (K := 3) (E := 75) (b := mb) (n := ns.length) (f := (mf (bf A ns ns.length))) (x := (.tmp 22)) (ix := (.tmp 24)) (key := .int .i64 ((en (nd ns i).ents j).id)) (z := .pointer none) (kl := (.int .i64 (en (nd ns i).ents j).id)) (r := (some (.pointer (some ⟨(blkOf A), offOf A + (tgt ns (en (nd ns i).ents j).id) * 10, none⟩)))) (fun _ => by kernel_rfl) (by kernel_rfl) (fun _ => by kernel_rfl) (fun _ => by kernel_rfl) lawI Try.underlying66 (fun _ => by kernel_rfl) (keyI (hwf j (by omega)).1 (hwf j (by omega)).2) (bf_at hat htl.1) ?_
   refine TriL.segK (k' := 5) (fr' := [(0, .pointer (some ⟨(blkOf A), offOf A + i * 10, none⟩)), (1, .map (some mb)), (2, .map (some mp)), (7, .string (prevName ns i j)), (9, .pointer (some ⟨b1, 0, none⟩)), (10, .pointer (some ⟨(blkOf A), offOf A + (tgt ns (en (nd ns i).ents j).id) * 10, none⟩)), (16, .slice (L.eA i) ((nd ns i).ents.length) ((L.eC i))), (17, .int .i64 ↑((nd ns i).ents.length)), (18, .int .i64 ↑j)]) (obl := []) [o_] [0, 1, 2, 7, 9, 10, 16, 17, 18] (fun _ _ => by kernel_rfl) trivial ?_
   refine TriL.nil (by kernel_rfl) (TriQ.next (Tri.seq (Tri.seq (Tri.region ?_))))
   refine TriL.segK (k' := 5) (fr' := [(0, .pointer (some ⟨(blkOf A), offOf A + i * 10, none⟩)), (1, .map (some mb)), (2, .map (some mp)), (7, .string (prevName ns i j)), (9, .pointer (some ⟨b1, 0, none⟩)), (10, .pointer (some ⟨(blkOf A), offOf A + (tgt ns (en (nd ns i).ents j).id) * 10, none⟩)), (16, .slice (L.eA i) ((nd ns i).ents.length) ((L.eC i))), (17, .int .i64 ↑((nd ns i).ents.length)), (18, .int .i64 ↑j), (28, .bool false), (30, .string (en (nd ns i).ents j).name)]) (obl := [b1 = b1]) [o_, o_, o_, o_, ⟨[.at 3], none, none, none, none⟩] [0, 1, 2, 7, 9, 10, 16, 17, 18, 28, 30] (fun _ _ => by kernel_rfl) ⟨rfl, trivial⟩ ?_
   refine TriL.call (f := 72) (args := #[.string (en (nd ns i).ents j).name]) (d := (some 31)) (pre := []) (R := [.abs (MapA Try.prog 3 mb (mf (bf A ns ns.length)) ns.length), .abs (MapA Try.prog 3 mp (mf (pf ((rowE ns i j ++ ps).map (idP ns)))) ((rowE ns i j ++ ps).length)), .abs R, .blk b1 [.string (en (nd ns i).ents j).name, .int .i64 ((en (nd ns i).ents j).id)] 72]) (pk := [0, 1, 2, 3]) (fun _ => by kernel_rfl) (sp_routeGood (en (nd ns i).ents j).name (hnm j (by omega))) rfl (by kernel_rfl) ?_
   rintro _ _ ⟨rfl, rfl⟩
   refine TriL.segK (k' := 9) (fr' := [(0, .pointer (some ⟨(blkOf A), offOf A + i * 10, none⟩)), (1, .map (some mb)), (2, .map (some mp)), (7, .string (prevName ns i j)), (9, .pointer (some ⟨b1, 0, none⟩)), (10, .pointer (some ⟨(blkOf A), offOf A + (tgt ns (en (nd ns i).ents j).id) * 10, none⟩)), (16, .slice (L.eA i) ((nd ns i).ents.length) ((L.eC i))), (17, .int .i64 ↑((nd ns i).ents.length)), (18, .int .i64 ↑j), (34, .bool (!(decide (GoodName (en (nd ns i).ents j).name))))]) (obl := []) [o_, o_, o_] [0, 1, 2, 7, 9, 10, 16, 17, 18, 34] (fun _ _ => by kernel_rfl) trivial ?_
   refine TriL.slotN 34 (GoodName (en (nd ns i).ents j).name) (fun _ => by kernel_rfl) (fun h34 => ?_) (fun h34 => ?_)
   ·
    refine TriL.segK (k' := 14) (fr' := [(0, .pointer (some ⟨(blkOf A), offOf A + i * 10, none⟩)), (1, .map (some mb)), (2, .map (some mp)), (9, .pointer (some ⟨b1, 0, none⟩)), (10, .pointer (some ⟨(blkOf A), offOf A + (tgt ns (en (nd ns i).ents j).id) * 10, none⟩)), (16, .slice (L.eA i) ((nd ns i).ents.length) ((L.eC i))), (17, .int .i64 ↑((nd ns i).ents.length)), (18, .int .i64 ↑j), (39, .bool true)]) (obl := []) [o_, o_, o_, o_, o_] [0, 1, 2, 9, 10, 16, 17, 18, 39] (fun _ _ => by kernel_rfl) trivial ?_
    refine TriL.nil (by kernel_rfl) (TriQ.next ?_)
    refine Tri.condT (fun _ => by kernel_rfl) ?_
    refine Tri.seq (Tri.region ?_)
    refine TriL.segK (k' := 1) (fr' := [(6, .bool false)]) (obl := []) [o_] [6] (fun _ _ => by kernel_rfl) trivial ?_
    refine TriL.nil (by kernel_rfl) (TriQ.next (Tri.ret (TriQ.passRet (TriQ.blockRet (TriQ.passRet (TriQ.passRet (TriQ.blockRet (TriQ.passRet ?_))))))))
    exact TriQ.ret (v := .bool false) (l := []) (obl := []) [] [2] (fun _ => by kernel_rfl) trivial rfl (by kernel_rfl) (.inr ⟨rfl, fun h => h34 (h.ents j (by omega)).good, rfl⟩)
   ·
    refine TriL.segK (k' := 14) (fr' := [(0, .pointer (some ⟨(blkOf A), offOf A + i * 10, none⟩)), (1, .map (some mb)), (2, .map (some mp)), (9, .pointer (some ⟨b1, 0, none⟩)), (10, .pointer (some ⟨(blkOf A), offOf A + (tgt ns (en (nd ns i).ents j).id) * 10, none⟩)), (16, .slice (L.eA i) ((nd ns i).ents.length) ((L.eC i))), (17, .int .i64 ↑((nd ns i).ents.length)), (18, .int .i64 ↑j), (39, .bool (decide (strLe ((en (nd ns i).ents j).name) (prevName ns i j))))]) (obl := [(Value.bool (Op.bytesLess (((en (nd ns i).ents j).name) : ByteArray).toList (((prevName ns i j)) : ByteArray).toList || (((en (nd ns i).ents j).name) : ByteArray).toList == (((prevName ns i j)) : ByteArray).toList)) = (.bool (decide (strLe ((en (nd ns i).ents j).name) (prevName ns i j)))), b1 = b1]) [o_, ⟨[.at 3], none, none, none, none⟩, o_, ⟨[], none, none, none, some (.bool (decide (strLe ((en (nd ns i).ents j).name) (prevName ns i j))))⟩, o_] [0, 1, 2, 9, 10, 16, 17, 18, 39] (fun _ _ => by kernel_rfl) ⟨strLeV _ _, rfl, trivial⟩ ?_
    refine TriL.nil (by kernel_rfl) (TriQ.next ?_)
    refine Tri.condP (p := strLe ((en (nd ns i).ents j).name) (prevName ns i j)) (fun _ => by kernel_rfl) (fun h39 => ?_) (fun h39 => ?_)
    ·
     refine Tri.seq (Tri.region ?_)
     refine TriL.segK (k' := 1) (fr' := [(6, .bool false)]) (obl := []) [o_] [6] (fun _ _ => by kernel_rfl) trivial ?_
     refine TriL.nil (by kernel_rfl) (TriQ.next (Tri.ret (TriQ.passRet (TriQ.blockRet (TriQ.passRet (TriQ.passRet (TriQ.blockRet (TriQ.passRet ?_))))))))
     exact TriQ.ret (v := .bool false) (l := []) (obl := []) [] [2] (fun _ => by kernel_rfl) trivial rfl (by kernel_rfl) (.inr ⟨rfl, fun h => (h.ents j (by omega)).ord h39, rfl⟩)
    ·
     refine Tri.skip (TriQ.next (Tri.seq (Tri.region ?_)))
     refine TriL.segK (k' := 3) (fr' := [(0, .pointer (some ⟨(blkOf A), offOf A + i * 10, none⟩)), (1, .map (some mb)), (2, .map (some mp)), (7, .string (en (nd ns i).ents j).name), (9, .pointer (some ⟨b1, 0, none⟩)), (10, .pointer (some ⟨(blkOf A), offOf A + (tgt ns (en (nd ns i).ents j).id) * 10, none⟩)), (16, .slice (L.eA i) ((nd ns i).ents.length) ((L.eC i))), (17, .int .i64 ↑((nd ns i).ents.length)), (18, .int .i64 ↑j)]) (obl := [b1 = b1]) [o_, ⟨[.at 3], none, none, none, none⟩, o_] [0, 1, 2, 7, 9, 10, 16, 17, 18] (fun _ _ => by kernel_rfl) ⟨rfl, trivial⟩ ?_
     refine TriL.nil (by kernel_rfl) (TriQ.next (Tri.seq (Tri.seq (Tri.region ?_))))
     refine TriL.segK (k' := 5) (fr' := [(0, .pointer (some ⟨(blkOf A), offOf A + i * 10, none⟩)), (1, .map (some mb)), (2, .map (some mp)), (7, .string (en (nd ns i).ents j).name), (9, .pointer (some ⟨b1, 0, none⟩)), (16, .slice (L.eA i) ((nd ns i).ents.length) ((L.eC i))), (17, .int .i64 ↑((nd ns i).ents.length)), (18, .int .i64 ↑j), (46, .bool (!(decide (((nd ns (tgt ns (en (nd ns i).ents j).id)).kind : Int) = (2 : Int)))))]) (obl := [(Rd β ⟨(blkOf A), offOf A + (tgt ns (en (nd ns i).ents j).id) * 10 + 1, none⟩ (.int .i64 ((nd ns (tgt ns (en (nd ns i).ents j).id)).kind)))]) [o_, o_, o_, ⟨[.old (.int .i64 ((nd ns (tgt ns (en (nd ns i).ents j).id)).kind))], none, none, none, none⟩, o_] [0, 1, 2, 7, 9, 16, 17, 18, 46] (fun _ _ => by kernel_rfl) ⟨GraphAt.rd hG (i := (tgt ns (en (nd ns i).ents j).id)) (by omega) (j := 1) rfl, trivial⟩ ?_
     refine TriL.nil (by kernel_rfl) (TriQ.next ?_)
     refine Tri.condN (p := ((nd ns (tgt ns (en (nd ns i).ents j).id)).kind : Int) = (2 : Int)) (fun _ => by kernel_rfl) (fun h46 => ?_) (fun h46 => ?_)
     ·
      refine Tri.exit (TriQ.passExit (TriQ.blockHit (TriQ.next (Tri.region ?_))))
      refine TriL.partEq 1 (p := .abs (MapA Try.prog 3 mp (mf (pf ((rowE ns i j ++ ps).map (idP ns)))) ((rowE ns i j ++ ps).length))) (p' := .abs (MapA Try.prog 3 mp (mf (pf ((rowE ns i (j + 1) ++ ps).map (idP ns)))) ((rowE ns i (j + 1) ++ ps).length))) (by kernel_rfl) (by rw [rowE_skip h46]) ?_
      refine TriL.segK (k' := 2) (fr' := [(0, .pointer (some ⟨(blkOf A), offOf A + i * 10, none⟩)), (1, .map (some mb)), (2, .map (some mp)), (7, .string (en (nd ns i).ents j).name), (16, .slice (L.eA i) ((nd ns i).ents.length) ((L.eC i))), (17, .int .i64 ↑((nd ns i).ents.length)), (18, .int .i64 ↑(j + 1))]) (obl := [(Value.int .i64 (IntKind.wrap .i64 (((j : Nat) : Int) + 1))) = (.int .i64 ↑(j + 1))]) [⟨[], none, none, none, some (.int .i64 ↑(j + 1))⟩, o_] [0, 1, 2, 7, 16, 17, 18] (fun _ _ => by kernel_rfl) ⟨wrapEq (by omega) (by omega) (by omega), trivial⟩ ?_
      refine TriL.nil (by kernel_rfl) ?_
      exact TriQ.turn ((j + 1)) (idx := [0, 1, 2, 7, 16, 17, 18]) (pk := [0, 1, 2]) (show (((j + 1)) ≤ (nd ns i).ents.length) ∧ (∀ t, t < ((j + 1)) → EntOk ns i t) ∧ (((rowE ns i ((j + 1)) ++ ps).map Prod.fst).Nodup) from ⟨by omega, fun t ht => (by rcases Nat.lt_succ_iff_lt_or_eq.1 ht with h | h; exact hok t h; subst h; exact ⟨hat, h34, h39⟩), (by rw [rowE_skip h46]; exact hnd)⟩) (by show (nd ns i).ents.length - ((j + 1)) < (nd ns i).ents.length - j; omega) (fun _ => by kernel_rfl) rfl (by kernel_rfl)
     ·
      refine Tri.skip (TriQ.next (Tri.seq (Tri.seq (Tri.region ?_))))
      refine TriL.segK (k' := 3) (fr' := [(0, .pointer (some ⟨(blkOf A), offOf A + i * 10, none⟩)), (1, .map (some mb)), (2, .map (some mp)), (7, .string (en (nd ns i).ents j).name), (9, .pointer (some ⟨b1, 0, none⟩)), (16, .slice (L.eA i) ((nd ns i).ents.length) ((L.eC i))), (17, .int .i64 ↑((nd ns i).ents.length)), (18, .int .i64 ↑j), (48, .map (some mp)), (50, .int .i64 ((en (nd ns i).ents j).id))]) (obl := [b1 = b1]) [o_, o_, ⟨[.at 3], none, none, none, none⟩] [0, 1, 2, 7, 9, 16, 17, 18, 48, 50] (fun _ _ => by kernel_rfl) ⟨rfl, trivial⟩ ?_
      rcases hup : up ((rowE ns i j ++ ps).map (idP ns)) (en (nd ns i).ents j).id with _ | y
      ·
       refine TriL.mapLookOk 1 (d := (some 51)) (t := 107) (K := 3) (E := 3) (b := mp) (n := (rowE ns i j ++ ps).length) (f := (mf (pf ((rowE ns i j ++ ps).map (idP ns))))) (x := (.tmp 48)) (ix := (.tmp 50)) (key := .int .i64 ((en (nd ns i).ents j).id)) (z := .int .i64 0) (kl := (.int .i64 (en (nd ns i).ents j).id)) (r := none) (fun _ => by kernel_rfl) (by kernel_rfl) (fun _ => by kernel_rfl) (fun _ => by kernel_rfl) lawI Try.underlying107 (fun _ => by kernel_rfl) (keyI (hwf j (by omega)).1 (hwf j (by omega)).2) (pf_at_none hup) ?_
       refine TriL.segK (k' := 9) (fr' := [(0, .pointer (some ⟨(blkOf A), offOf A + i * 10, none⟩)), (1, .map (some mb)), (2, .map (some mp)), (7, .string (en (nd ns i).ents j).name), (9, .pointer (some ⟨b1, 0, none⟩)), (12, .bool false), (16, .slice (L.eA i) ((nd ns i).ents.length) ((L.eC i))), (17, .int .i64 ↑((nd ns i).ents.length)), (18, .int .i64 ↑j)]) (obl := []) [o_, o_, o_, o_, o_] [0, 1, 2, 7, 9, 12, 16, 17, 18] (fun _ _ => by kernel_rfl) trivial ?_
       refine TriL.nil (by kernel_rfl) (TriQ.next (Tri.seq (Tri.region ?_)))
       refine TriL.segK (k' := 1) (fr' := [(0, .pointer (some ⟨(blkOf A), offOf A + i * 10, none⟩)), (1, .map (some mb)), (2, .map (some mp)), (7, .string (en (nd ns i).ents j).name), (9, .pointer (some ⟨b1, 0, none⟩)), (16, .slice (L.eA i) ((nd ns i).ents.length) ((L.eC i))), (17, .int .i64 ↑((nd ns i).ents.length)), (18, .int .i64 ↑j), (54, .bool false)]) (obl := []) [o_] [0, 1, 2, 7, 9, 16, 17, 18, 54] (fun _ _ => by kernel_rfl) trivial ?_
       refine TriL.nil (by kernel_rfl) (TriQ.next ?_)
       refine Tri.condF (fun _ => by kernel_rfl) ?_
       refine Tri.skip (TriQ.next ?_)
       refine Tri.regionStill 7 (by kernel_rfl) (by kernel_rfl) ?_
       refine TriLS.seg (k' := 7) (fr' := [(0, .pointer (some ⟨(blkOf A), offOf A + i * 10, none⟩)), (1, .map (some mb)), (2, .map (some mp)), (7, .string (en (nd ns i).ents j).name), (16, .slice (L.eA i) ((nd ns i).ents.length) ((L.eC i))), (17, .int .i64 ↑((nd ns i).ents.length)), (18, .int .i64 ↑j), (55, .map (some mp)), (57, .int .i64 ((en (nd ns i).ents j).id)), (61, .int .i64 ((nd ns i).id))]) (obl := [(Rd β ⟨(blkOf A), offOf A + i * 10, none⟩ (.int .i64 ((nd ns i).id))), b1 = b1]) [o_, o_, ⟨[.at 3], none, none, none, none⟩, o_, o_, o_, ⟨[.old (.int .i64 ((nd ns i).id))], none, none, none, none⟩] [0, 1, 2, 7, 16, 17, 18, 55, 57, 61] (fun _ _ => by kernel_rfl) ⟨GraphAt.rd hG (i := i) (by omega) (j := 0) rfl, rfl, trivial⟩ (by decide) ?_
       refine TriLS.done rfl ?_
       refine TriL.mapSet 1 (d := none) (t := 107) (K := 3) (E := 3) (b := mp) (n := (rowE ns i j ++ ps).length) (f := (mf (pf ((rowE ns i j ++ ps).map (idP ns))))) (x := (.tmp 55)) (ix := (.tmp 57)) (y := (.tmp 61)) (key := .int .i64 ((en (nd ns i).ents j).id)) (u := .int .i64 ((nd ns i).id)) (kl := (.int .i64 (en (nd ns i).ents j).id)) (n' := (rowE ns i (j + 1) ++ ps).length) (f' := (mf (pf ((rowE ns i (j + 1) ++ ps).map (idP ns))))) (fun _ => by kernel_rfl) (by kernel_rfl) (fun _ => by kernel_rfl) (fun _ => by kernel_rfl) (fun _ => by kernel_rfl) lawI Try.underlying107 (by have := rowE_len ns i j; rw [List.length_append]; unfold maxLen; omega) (keyI (hwf j (by omega)).1 (hwf j (by omega)).2) (len_edge (pf_at_none hup) h46) (upd_edge hat h46) ?_
       refine TriL.nil (by kernel_rfl) (TriQ.blockNormal (TriQ.next (Tri.region ?_)))
       refine TriL.segK (k' := 2) (fr' := [(0, .pointer (some ⟨(blkOf A), offOf A + i * 10, none⟩)), (1, .map (some mb)), (2, .map (some mp)), (7, .string (en (nd ns i).ents j).name), (16, .slice (L.eA i) ((nd ns i).ents.length) ((L.eC i))), (17, .int .i64 ↑((nd ns i).ents.length)), (18, .int .i64 ↑(j + 1))]) (obl := [(Value.int .i64 (IntKind.wrap .i64 (((j : Nat) : Int) + 1))) = (.int .i64 ↑(j + 1))]) [⟨[], none, none, none, some (.int .i64 ↑(j + 1))⟩, o_] [0, 1, 2, 7, 16, 17, 18] (fun _ _ => by kernel_rfl) ⟨wrapEq (by omega) (by omega) (by omega), trivial⟩ ?_
       refine TriL.nil (by kernel_rfl) ?_
       exact TriQ.turn ((j + 1)) (idx := [0, 1, 2, 7, 16, 17, 18]) (pk := [0, 1, 2]) (show (((j + 1)) ≤ (nd ns i).ents.length) ∧ (∀ t, t < ((j + 1)) → EntOk ns i t) ∧ (((rowE ns i ((j + 1)) ++ ps).map Prod.fst).Nodup) from ⟨by omega, fun t ht => (by rcases Nat.lt_succ_iff_lt_or_eq.1 ht with h | h; exact hok t h; subst h; exact ⟨hat, h34, h39⟩), (nodup_edge hat h46 hup hnd)⟩) (by show (nd ns i).ents.length - ((j + 1)) < (nd ns i).ents.length - j; omega) (fun _ => by kernel_rfl) rfl (by kernel_rfl)
      ·
       refine TriL.mapLookOk 1 (d := (some 51)) (t := 107) (K := 3) (E := 3) (b := mp) (n := (rowE ns i j ++ ps).length) (f := (mf (pf ((rowE ns i j ++ ps).map (idP ns))))) (x := (.tmp 48)) (ix := (.tmp 50)) (key := .int .i64 ((en (nd ns i).ents j).id)) (z := .int .i64 0) (kl := (.int .i64 (en (nd ns i).ents j).id)) (r := (some (.int .i64 y))) (fun _ => by kernel_rfl) (by kernel_rfl) (fun _ => by kernel_rfl) (fun _ => by kernel_rfl) lawI Try.underlying107 (fun _ => by kernel_rfl) (keyI (hwf j (by omega)).1 (hwf j (by omega)).2) (pf_at hup) ?_
       refine TriL.segK (k' := 9) (fr' := [(0, .pointer (some ⟨(blkOf A), offOf A + i * 10, none⟩)), (1, .map (some mb)), (2, .map (some mp)), (7, .string (en (nd ns i).ents j).name), (9, .pointer (some ⟨b1, 0, none⟩)), (12, .bool true), (16, .slice (L.eA i) ((nd ns i).ents.length) ((L.eC i))), (17, .int .i64 ↑((nd ns i).ents.length)), (18, .int .i64 ↑j)]) (obl := []) [o_, o_, o_, o_, o_] [0, 1, 2, 7, 9, 12, 16, 17, 18] (fun _ _ => by kernel_rfl) trivial ?_
       refine TriL.nil (by kernel_rfl) (TriQ.next (Tri.seq (Tri.region ?_)))
       refine TriL.segK (k' := 1) (fr' := [(0, .pointer (some ⟨(blkOf A), offOf A + i * 10, none⟩)), (1, .map (some mb)), (2, .map (some mp)), (7, .string (en (nd ns i).ents j).name), (9, .pointer (some ⟨b1, 0, none⟩)), (16, .slice (L.eA i) ((nd ns i).ents.length) ((L.eC i))), (17, .int .i64 ↑((nd ns i).ents.length)), (18, .int .i64 ↑j), (54, .bool true)]) (obl := []) [o_] [0, 1, 2, 7, 9, 16, 17, 18, 54] (fun _ _ => by kernel_rfl) trivial ?_
       refine TriL.nil (by kernel_rfl) (TriQ.next ?_)
       refine Tri.condT (fun _ => by kernel_rfl) ?_
       refine Tri.seq (Tri.region ?_)
       refine TriL.segK (k' := 1) (fr' := [(6, .bool false)]) (obl := []) [o_] [6] (fun _ _ => by kernel_rfl) trivial ?_
       refine TriL.nil (by kernel_rfl) (TriQ.next (Tri.ret (TriQ.passRet (TriQ.blockRet (TriQ.passRet (TriQ.passRet (TriQ.blockRet (TriQ.passRet ?_))))))))
       exact TriQ.ret (v := .bool false) (l := []) (obl := []) [] [2] (fun _ => by kernel_rfl) trivial rfl (by kernel_rfl) (.inr ⟨rfl, rowOk_twice hr hps hok hat h46 hup (by omega), rfl⟩)
  ·
   refine TriL.mapLook 0 (d := (some 25)) (t := 66) (K := 3) (E := 75) (b := mb) (n := ns.length) (f := (mf (bf A ns ns.length))) (x := (.tmp 22)) (ix := (.tmp 24)) (key := .int .i64 ((en (nd ns i).ents j).id)) (z := .pointer none) (kl := (.int .i64 (en (nd ns i).ents j).id)) (r := none) (fun _ => by kernel_rfl) (by kernel_rfl) (fun _ => by kernel_rfl) (fun _ => by kernel_rfl) lawI Try.underlying66 (fun _ => by kernel_rfl) (keyI (hwf j (by omega)).1 (hwf j (by omega)).2) (bf_none hat) ?_
   refine TriL.segK (k' := 5) (fr' := [(0, .pointer (some ⟨(blkOf A), offOf A + i * 10, none⟩)), (1, .map (some mb)), (2, .map (some mp)), (7, .string (prevName ns i j)), (9, .pointer (some ⟨b1, 0, none⟩)), (10, .pointer none), (16, .slice (L.eA i) ((nd ns i).ents.length) ((L.eC i))), (17, .int .i64 ↑((nd ns i).ents.length)), (18, .int .i64 ↑j)]) (obl := []) [o_] [0, 1, 2, 7, 9, 10, 16, 17, 18] (fun _ _ => by kernel_rfl) trivial ?_
   refine TriL.nil (by kernel_rfl) (TriQ.next (Tri.seq (Tri.seq (Tri.region ?_))))
   refine TriL.segK (k' := 14) (fr' := [(0, .pointer (some ⟨(blkOf A), offOf A + i * 10, none⟩)), (1, .map (some mb)), (2, .map (some mp)), (9, .pointer (some ⟨b1, 0, none⟩)), (10, .pointer none), (16, .slice (L.eA i) ((nd ns i).ents.length) ((L.eC i))), (17, .int .i64 ↑((nd ns i).ents.length)), (18, .int .i64 ↑j), (39, .bool true)]) (obl := []) [o_, o_, o_, o_, o_, o_, o_, o_, o_, o_, o_, o_, o_, o_] [0, 1, 2, 9, 10, 16, 17, 18, 39] (fun _ _ => by kernel_rfl) trivial ?_
   refine TriL.nil (by kernel_rfl) (TriQ.next ?_)
   refine Tri.condT (fun _ => by kernel_rfl) ?_
   refine Tri.seq (Tri.region ?_)
   refine TriL.segK (k' := 1) (fr' := [(6, .bool false)]) (obl := []) [o_] [6] (fun _ _ => by kernel_rfl) trivial ?_
   refine TriL.nil (by kernel_rfl) (TriQ.next (Tri.ret (TriQ.passRet (TriQ.blockRet (TriQ.passRet (TriQ.passRet (TriQ.blockRet (TriQ.passRet ?_))))))))
   exact TriQ.ret (v := .bool false) (l := []) (obl := []) [] [2] (fun _ => by kernel_rfl) trivial rfl (by kernel_rfl) (.inr ⟨rfl, fun h => hat (h.ents j (by omega)).at_, rfl⟩)
 ·
  refine Tri.exit (TriQ.passExit (TriQ.passExit (TriQ.blockHit (TriQ.next (Tri.seq (Tri.region ?_))))))
  refine TriL.segK (k' := 1) (fr' := [(6, .bool true)]) (obl := []) [o_] [6] (fun _ _ => by kernel_rfl) trivial ?_
  refine TriL.nil (by kernel_rfl) (TriQ.next (Tri.ret ?_))
  exact TriQ.ret (v := .bool true) (l := [.abs (MapA Try.prog 3 mb (mf (bf A ns ns.length)) ns.length), .abs (MapA Try.prog 3 mp (mf (pf ((rowE ns i j ++ ps).map (idP ns)))) ((rowE ns i j ++ ps).length))]) (obl := []) [] [0, 1, 2] (fun _ => by kernel_rfl) trivial rfl (by kernel_rfl) (.inl ⟨rfl, ⟨fun t ht => hok t (by omega), by have := hnd; rwa [show j = (nd ns i).ents.length by omega] at this⟩, by rw [show j = (nd ns i).ents.length by omega]⟩)
end Go.Proofs.Ytjpdcppdoonmdaa
end
/- part GR. PROVED HERE: what a well-formed graph is; plain laws for the walk through its nodes. CONDITIONS: none. No statement of the seat is proved here. -/
section
namespace Go.Proofs.Ytjpdcppdoonmdaa
open Go.RowKit Go.Maps
def entSum (ns : List NodeM) : Nat → Nat
  | 0 => 0
  | k + 1 => entSum ns k + (nd ns k).ents.length
def lastId (ns : List NodeM) : Nat → Int
  | 0 => 0
  | k + 1 => (nd ns k).id
structure GraphOk (ns : List NodeM) : Prop where
  len : ns.length ≤ 4096
  node : ∀ i, i < ns.length → NodeOk (nd ns i)
  ids : ∀ i, i < ns.length → 1 ≤ (nd ns i).id ∧ (nd ns i).id ≤ 1099511627776
  rise : Rising ns
  sum : entSum ns ns.length ≤ 8192
  ents : ∀ i, i < ns.length → ∀ j, j < (nd ns i).ents.length → EntOk ns i j
  nodup : ((allE ns ns.length).map Prod.fst).Nodup
  ends : AllEnd ((allE ns ns.length).map (idP ns))
noncomputable instance (ns : List NodeM) : Decidable (GraphOk ns) := Classical.propDecidable _
theorem GraphOk.last {ns : List NodeM} (h : GraphOk ns) {k : Nat} (hk : k < ns.length) : lastId ns k < (nd ns k).id := by
  cases k with
  | zero => have := (h.ids 0 hk).1; show (0 : Int) < _; omega
  | succ k => exact h.rise k (k + 1) (Nat.lt_succ_self k) hk
/-- the first k nodes' numbers rise, and lie in their bounds -/
structure Upto (ns : List NodeM) (k : Nat) : Prop where
  node : ∀ i, i < k → NodeOk (nd ns i)
  ids : ∀ i, i < k → 1 ≤ (nd ns i).id ∧ (nd ns i).id ≤ 1099511627776
  rise : ∀ i j, i < j → j < k → (nd ns i).id < (nd ns j).id
theorem Upto.zero (ns : List NodeM) : Upto ns 0 := ⟨fun i h => absurd h (Nat.not_lt_zero i), fun i h => absurd h (Nat.not_lt_zero i), fun _ j _ h => absurd h (Nat.not_lt_zero j)⟩
theorem Upto.last {ns : List NodeM} {k : Nat} (h : Upto ns k) : 0 ≤ lastId ns k ∧ lastId ns k ≤ 1099511627776 := by
  cases k with
  | zero => exact ⟨Int.le_refl _, by show (0 : Int) ≤ 1099511627776; decide⟩
  | succ k => have := h.ids k (Nat.lt_succ_self k); exact ⟨by show 0 ≤ (nd ns k).id; omega, this.2⟩
theorem Upto.step {ns : List NodeM} {k : Nat} (h : Upto ns k) (h1 : lastId ns k < (nd ns k).id) (h2 : (nd ns k).id ≤ 1099511627776) (h3 : NodeOk (nd ns k)) : Upto ns (k + 1) := by
  have hl := h.last
  refine ⟨fun i hi => ?_, fun i hi => ?_, fun i j hij hj => ?_⟩
  · rcases Nat.lt_succ_iff_lt_or_eq.1 hi with e | e
    · exact h.node i e
    · rw [e]; exact h3
  · rcases Nat.lt_succ_iff_lt_or_eq.1 hi with e | e
    · exact h.ids i e
    · rw [e]; omega
  · rcases Nat.lt_succ_iff_lt_or_eq.1 hj with e | e
    · exact h.rise i j hij e
    · subst e
      cases j with
      | zero => omega
      | succ m =>
        have h4 : (nd ns m).id < (nd ns (m + 1)).id := h1
        rcases Nat.lt_succ_iff_lt_or_eq.1 hij with e | e
        · have := h.rise i m e (Nat.lt_succ_self m); omega
        · rw [e]; exact h4
theorem atI_upto {ns : List NodeM} {k : Nat} (h : ∀ i, i < k → (nd ns i).id < (nd ns k).id) (hk : k < ns.length) : atI ns (nd ns k).id = (k : Int) := by
  unfold atI
  have hg : ∀ j (hj : j < ns.length), nd ns j = ns[j] := fun j hj => by
    unfold nd
    rw [List.getD_eq_getElem?_getD, List.getElem?_eq_getElem hj]
    rfl
  have : ns.findIdx? (fun n => n.id == (nd ns k).id) = some k := by
    rw [List.findIdx?_eq_some_iff_getElem]
    refine ⟨hk, by rw [← hg k hk]; simp, fun j hj => ?_⟩
    have := h j hj
    rw [← hg j (by omega)]
    simp
    omega
  rw [this]
theorem bf_upd {A : Option Addr} {ns : List NodeM} {k : Nat} (h : ∀ i, i < k → (nd ns i).id < (nd ns k).id) (hk : k < ns.length) :
    upd (mf (bf A ns k)) (.int .i64 (nd ns k).id) (some (.pointer (some ⟨blkOf A, offOf A + k * 10, none⟩))) = mf (bf A ns (k + 1)) := by
  have ha := atI_upto h hk
  rw [mf_upd]
  congr 1
  funext z
  unfold bf
  by_cases e : z = (nd ns k).id
  · subst e
    rw [if_pos rfl, if_pos ⟨by omega, by omega⟩]
    unfold tgt
    rw [ha]
    rfl
  · rw [if_neg e]
    by_cases e1 : 0 ≤ atI ns z ∧ atI ns z < (k : Int)
    · rw [if_pos e1, if_pos ⟨e1.1, by omega⟩]
    · rw [if_neg e1, if_neg (fun e2 => ?_)]
      have e3 : atI ns z = (k : Int) := by omega
      have e4 := (atI_lt e2.1).2
      rw [e4.2] at e3
      have e5 : tgt ns z = k := by omega
      rw [e5] at e4
      exact e e4.1.symm
theorem bf_fresh {A : Option Addr} {ns : List NodeM} {k : Nat} (h : ∀ i, i < k → (nd ns i).id < (nd ns k).id) (hk : k < ns.length) : (if ((mf (bf A ns k)) (.int .i64 (nd ns k).id)).isSome then k else k + 1) = k + 1 := by
  have ha := atI_upto h hk
  have : mf (bf A ns k) (.int .i64 (nd ns k).id) = none := if_neg (fun e => by omega)
  rw [this]
  rfl
theorem Upto.below {ns : List NodeM} {k : Nat} (h : Upto ns k) (h1 : lastId ns k < (nd ns k).id) : ∀ i, i < k → (nd ns i).id < (nd ns k).id := by
  intro i hi
  cases k with
  | zero => omega
  | succ m =>
    have h1 : (nd ns m).id < (nd ns (m + 1)).id := h1
    rcases Nat.lt_succ_iff_lt_or_eq.1 hi with e | e
    · have := h.rise i m e (Nat.lt_succ_self m); omega
    · rw [e]; exact h1
theorem bf_zero {A : Option Addr} {ns : List NodeM} : mf (bf A ns 0) = fun _ => none := by
  rw [← mf_none]
  congr 1
  funext z
  exact if_neg (fun e => by omega)
theorem pf_zero {ns : List NodeM} : mf (pf ((allE ns 0).map (idP ns))) = fun _ => none := by
  rw [← mf_none]
  congr 1
theorem allE_fst {ns : List NodeM} {i : Nat} (hi : i ≤ ns.length) (h : ∀ a, a < i → ∀ j, j < (nd ns a).ents.length → EntOk ns a j) : ∀ p, p ∈ allE ns i → p.1 < ns.length ∧ p.2 < ns.length := by
  induction i with
  | zero => intro p hp; cases hp
  | succ i ih =>
    intro p hp
    rw [allE] at hp
    rcases List.mem_append.1 hp with hp | hp
    · have := rowE_fst (h i (Nat.lt_succ_self i)) p hp
      exact ⟨this.1, by omega⟩
    · exact ih (by omega) (fun a ha => h a (by omega)) p hp
theorem allE_len (ns : List NodeM) (i : Nat) : (allE ns i).length ≤ entSum ns i := by
  induction i with
  | zero => exact Nat.le_refl _
  | succ i ih =>
    rw [allE, entSum, List.length_append]
    have := rowE_len ns i (nd ns i).ents.length
    omega
theorem entSum_mono {ns : List NodeM} {i m : Nat} (h : i ≤ m) : entSum ns i ≤ entSum ns m := by
  induction m with
  | zero => rw [Nat.le_zero.1 h]; exact Nat.le_refl _
  | succ m ih =>
    rcases Nat.lt_or_ge m i with h1 | h1
    · have : i = m + 1 := by omega
      subst this
      exact Nat.le_refl _
    · have := ih h1
      rw [entSum]
      omega
theorem up_bounds {ns : List NodeM} {ps : List (Nat × Nat)} (hp : ∀ p, p ∈ ps → p.1 < ns.length ∧ p.2 < ns.length) (hid : ∀ i, i < ns.length → 1 ≤ (nd ns i).id ∧ (nd ns i).id ≤ 1099511627776) :
    ∀ z y, up (ps.map (idP ns)) z = some y → (-9223372036854775808 ≤ z ∧ z ≤ 9223372036854775807) ∧ (-9223372036854775808 ≤ y ∧ y ≤ 9223372036854775807) := by
  intro z y h
  unfold up at h
  induction ps with
  | nil => cases h
  | cons p ps ih =>
    obtain ⟨a, b⟩ := p
    rw [List.map_cons, idP, List.lookup_cons] at h
    by_cases e : (z == (nd ns a).id) = true
    · rw [e] at h
      cases h
      have h1 := hp (a, b) (List.mem_cons_self ..)
      have h2 := hid a h1.1
      have h3 := hid b h1.2
      have : z = (nd ns a).id := by simpa using e
      show (_ ∧ _) ∧ (-9223372036854775808 ≤ (nd ns b).id ∧ (nd ns b).id ≤ 9223372036854775807)
      omega
    · have e : (z == (nd ns a).id) = false := by simpa using e
      rw [e] at h
      exact ih (fun p hp' => hp p (List.mem_cons_of_mem _ hp')) h
theorem dec_or {p : Prop} [Decidable p] {v : Value} {l : List HP} (h : v = .bool (decide p) ∧ l = []) : (v = .bool true ∧ p ∧ l = []) ∨ (v = .bool false ∧ ¬ p ∧ l = []) := by
  by_cases hp : p
  · exact .inl ⟨by rw [h.1, decide_eq_true hp], hp, h.2⟩
  · exact .inr ⟨by rw [h.1, decide_eq_false hp], hp, h.2⟩
theorem RowOk.next {ns : List NodeM} {i : Nat} (h : RowOk ns i (allE ns i)) : ((allE ns (i + 1)).map Prod.fst).Nodup := h.nodup
theorem GraphOk.row {ns : List NodeM} (h : GraphOk ns) {i : Nat} (hi : i < ns.length) : RowOk ns i (allE ns i) := by
  refine ⟨h.ents i hi, ?_⟩
  obtain ⟨l, hl⟩ := allE_mono (ns := ns) (show i + 1 ≤ ns.length from hi)
  have := h.nodup
  rw [hl] at this
  exact nodup_suffix this
end Go.Proofs.Ytjpdcppdoonmdaa
end
/- part GRead. PROVED HERE: a graph is read CONDITIONS: as the theorems say. Printed by a program of this repo (wip/v). -/
section
namespace Go.Proofs.Ytjpdcppdoonmdaa
open Go.RowKit
attribute [local irreducible] TriL TriLQ Tri TriQ
set_option maxRecDepth 100000 in
set_option maxHeartbeats 4000000 in
theorem sp_read {β : Bs} (A : Option Addr) (c : Nat) (ns : List NodeM) (L : Lay) (hG : GraphAt β A ns L) (hl : ns.length ≤ 1048576) (hd : ∀ i, i < ns.length → (nd ns i).data.length ≤ 1048576 ∧ (nd ns i).ents.length ≤ 1048576) (hwf : ∀ i, i < ns.length → ∀ j, j < (nd ns i).ents.length → -9223372036854775808 ≤ (ent ns i j).id ∧ (ent ns i j).id ≤ 9223372036854775807) (hnm : ∀ i, i < ns.length → ∀ j, j < (nd ns i).ents.length → (ent ns i j).name.size ≤ 1048576) :
    Spec Try.prog β 37 #[.agg #[.slice A ns.length c]] [] (fun v l => (∃ mb, v = .tuple #[.map (some mb), .bool true] ∧ GraphOk ns ∧ l = [.abs (MapA Try.prog 3 mb (mf (bf A ns ns.length)) ns.length)]) ∨ (∃ m, v = .tuple #[m, .bool false] ∧ ¬ GraphOk ns ∧ l = [])) := by
 refine Spec.enter Try.func37 rfl Try.ntmps37 (Nat.le_of_ble_eq_true rfl) (fun R => ?_)
 refine Tri.seq (Tri.region ?_)
 refine TriL.segN (k' := 3) (fr' := fun b1 => [(1, .pointer (some ⟨b1, 0, none⟩))]) (hps' := fun b1 => [.abs R, .blk b1 [.slice A (ns.length) (c)] 24]) (obl := fun b1 => []) [o_, o_, o_] [1] [0, 1] (fun _ _ => by kernel_rfl) (fun b1 => trivial) (fun b1 => ?_)
 refine TriL.nil (by kernel_rfl) (TriQ.next (Tri.seq (Tri.seq (Tri.region ?_))))
 refine TriL.segK (k' := 4) (fr' := [(1, .pointer (some ⟨b1, 0, none⟩)), (14, .bool (decide ((((ns.length : Nat) : Int) : Int) > (4096 : Int))))]) (obl := [b1 = b1]) [o_, ⟨[.at 1], none, none, none, none⟩, o_, o_] [1, 14] (fun _ _ => by kernel_rfl) ⟨rfl, trivial⟩ ?_
 refine TriL.nil (by kernel_rfl) (TriQ.next ?_)
 refine Tri.condP (p := (((ns.length : Nat) : Int) : Int) > (4096 : Int)) (fun _ => by kernel_rfl) (fun h14 => ?_) (fun h14 => ?_)
 ·
  refine Tri.seq (Tri.region ?_)
  refine TriL.segK (k' := 2) (fr' := [(2, .map none), (3, .bool false)]) (obl := []) [o_, o_] [2, 3] (fun _ _ => by kernel_rfl) trivial ?_
  refine TriL.nil (by kernel_rfl) (TriQ.next (Tri.ret (TriQ.passRet ?_)))
  exact TriQ.ret (v := .tuple #[.map none, .bool false]) (l := []) (obl := []) [] [0] (fun _ => by kernel_rfl) trivial rfl (by kernel_rfl) (.inr ⟨_, rfl, fun h => by have := h.len; omega, rfl⟩)
 ·
  refine Tri.skip (TriQ.next (Tri.seq (Tri.region ?_)))
  refine TriL.mapMake (d := (some 15)) (t := 66) (fun _ => by kernel_rfl) Try.prog rfl 3 (fun m2 => ?_)
  refine TriL.segK (k' := 2) (fr' := [(1, .pointer (some ⟨b1, 0, none⟩)), (4, .map (some m2))]) (obl := []) [o_] [1, 4] (fun _ _ => by kernel_rfl) trivial ?_
  refine TriL.nil (by kernel_rfl) (TriQ.next (Tri.seq (Tri.region ?_)))
  refine TriL.partEq 2 (p := .abs (MapA Try.prog 3 m2 (fun _ => none) 0)) (p' := .abs (MapA Try.prog 3 m2 (mf (bf A ns 0)) 0)) (by kernel_rfl) (by rw [bf_zero]) ?_
  refine TriL.segK (k' := 2) (fr' := [(1, .pointer (some ⟨b1, 0, none⟩)), (4, .map (some m2)), (5, .int .i64 0), (6, .int .i64 0)]) (obl := []) [o_, o_] [1, 4, 5, 6] (fun _ _ => by kernel_rfl) trivial ?_
  refine TriL.nil (by kernel_rfl) (TriQ.next (Tri.seq (Tri.seq (Tri.region ?_))))
  refine TriL.segK (k' := 4) (fr' := [(1, .pointer (some ⟨b1, 0, none⟩)), (4, .map (some m2)), (5, .int .i64 0), (6, .int .i64 0), (18, .int .i64 ↑ns.length), (19, .int .i64 0)]) (obl := [b1 = b1]) [o_, ⟨[.at 1], none, none, none, none⟩, o_, o_] [1, 4, 5, 6, 18, 19] (fun _ _ => by kernel_rfl) ⟨rfl, trivial⟩ ?_
  refine TriL.nil (by kernel_rfl) (TriQ.next (Tri.block ?_))
  refine Tri.loop (ι := Nat) (fun (k : Nat) => (k ≤ ns.length) ∧ (Upto ns k) ∧ (entSum ns k ≤ k * 1048576)) (fun (k : Nat) => ns.length - k) (fun (k : Nat) => [(1, .pointer (some ⟨b1, 0, none⟩)), (4, .map (some m2)), (5, .int .i64 (lastId ns k)), (6, .int .i64 ↑(entSum ns k)), (18, .int .i64 ↑ns.length), (19, .int .i64 ↑k)]) (fun (k : Nat) => [.blk b1 [.slice A (ns.length) (c)] 24, .abs (MapA Try.prog 3 m2 (mf (bf A ns k)) k), .abs R]) 0 (idx := [1, 4, 5, 6, 18, 19]) (pk := [1, 2, 0]) (show (0 ≤ ns.length) ∧ (Upto ns 0) ∧ (entSum ns 0 ≤ 0 * 1048576) from ⟨Nat.zero_le _, Upto.zero ns, Nat.zero_le _⟩) (fun _ => by kernel_rfl) rfl (by kernel_rfl) ?_
  rintro k ⟨hk, hu, hs⟩
  show Tri _ _ _ _ [(1, .pointer (some ⟨b1, 0, none⟩)), (4, .map (some m2)), (5, .int .i64 (lastId ns k)), (6, .int .i64 ↑(entSum ns k)), (18, .int .i64 ↑ns.length), (19, .int .i64 ↑k)] [.blk b1 [.slice A (ns.length) (c)] 24, .abs (MapA Try.prog 3 m2 (mf (bf A ns k)) k), .abs R] _
  have hk4 := (hd k)
  refine Tri.seq (Tri.region ?_)
  refine TriL.segK (k' := 1) (fr' := [(1, .pointer (some ⟨b1, 0, none⟩)), (4, .map (some m2)), (5, .int .i64 (lastId ns k)), (6, .int .i64 ↑(entSum ns k)), (18, .int .i64 ↑ns.length), (19, .int .i64 ↑k), (20, .bool (decide ((((k : Nat) : Int) : Int) < (((ns.length : Nat) : Int) : Int))))]) (obl := []) [o_] [1, 4, 5, 6, 18, 19, 20] (fun _ _ => by kernel_rfl) trivial ?_
  refine TriL.nil (by kernel_rfl) (TriQ.next (Tri.seq ?_))
  refine Tri.condP (p := (((k : Nat) : Int) : Int) < (((ns.length : Nat) : Int) : Int)) (fun _ => by kernel_rfl) (fun h20 => ?_) (fun h20 => ?_)
  ·
   refine Tri.skip (TriQ.next (Tri.seq (Tri.block (Tri.seq (Tri.region ?_)))))
   refine TriL.segK (k' := 2) (fr' := [(1, .pointer (some ⟨b1, 0, none⟩)), (4, .map (some m2)), (5, .int .i64 (lastId ns k)), (6, .int .i64 ↑(entSum ns k)), (7, .int .i64 ↑k), (18, .int .i64 ↑ns.length), (19, .int .i64 ↑k)]) (obl := []) [o_, o_] [1, 4, 5, 6, 7, 18, 19] (fun _ _ => by kernel_rfl) trivial ?_
   refine TriL.nil (by kernel_rfl) (TriQ.next (Tri.seq (Tri.region ?_)))
   refine TriL.segK (k' := 5) (fr' := [(1, .pointer (some ⟨b1, 0, none⟩)), (4, .map (some m2)), (5, .int .i64 (lastId ns k)), (6, .int .i64 ↑(entSum ns k)), (8, .pointer (some ⟨(blkOf A), offOf A + k * 10, none⟩)), (18, .int .i64 ↑ns.length), (19, .int .i64 ↑k)]) (obl := [((k : Nat) : Int) = ((k : Nat) : Int), k < ns.length, (⟨(blkOf A), offOf A, none⟩ : Addr).spot = none, (A : Option Addr) = some ⟨(blkOf A), offOf A, none⟩, b1 = b1]) [o_, ⟨[.at 0], none, none, none, none⟩, o_, ⟨[], some k, none, some ⟨(blkOf A), offOf A, none⟩, none⟩, o_] [1, 4, 5, 6, 8, 18, 19] (fun _ _ => by kernel_rfl) ⟨rfl, by omega, rfl, GraphAt.hd hG (i := k) (by omega), rfl, trivial⟩ ?_
   refine TriL.nil (by kernel_rfl) (TriQ.next (Tri.seq (Tri.seq (Tri.region ?_))))
   refine TriL.segK (k' := 7) (fr' := [(1, .pointer (some ⟨b1, 0, none⟩)), (4, .map (some m2)), (6, .int .i64 ↑(entSum ns k)), (8, .pointer (some ⟨(blkOf A), offOf A + k * 10, none⟩)), (18, .int .i64 ↑ns.length), (19, .int .i64 ↑k), (32, .bool (decide (((nd ns k).id : Int) ≤ (lastId ns k : Int))))]) (obl := [(Rd β ⟨(blkOf A), offOf A + k * 10, none⟩ (.int .i64 ((nd ns k).id)))]) [o_, o_, o_, ⟨[.old (.int .i64 ((nd ns k).id))], none, none, none, none⟩, o_, o_, o_] [1, 4, 6, 8, 18, 19, 32] (fun _ _ => by kernel_rfl) ⟨GraphAt.rd hG (i := k) (by omega) (j := 0) rfl, trivial⟩ ?_
   refine TriL.slotP 32 (((nd ns k).id : Int) ≤ (lastId ns k : Int)) (fun _ => by kernel_rfl) (fun h32 => ?_) (fun h32 => ?_)
   ·
    refine TriL.segK (k' := 18) (fr' := [(1, .pointer (some ⟨b1, 0, none⟩)), (4, .map (some m2)), (6, .int .i64 ↑(entSum ns k)), (8, .pointer (some ⟨(blkOf A), offOf A + k * 10, none⟩)), (18, .int .i64 ↑ns.length), (19, .int .i64 ↑k), (43, .bool true)]) (obl := []) [o_, o_, o_, o_, o_, o_, o_, o_, o_, o_, o_] [1, 4, 6, 8, 18, 19, 43] (fun _ _ => by kernel_rfl) trivial ?_
    refine TriL.nil (by kernel_rfl) (TriQ.next ?_)
    refine Tri.condT (fun _ => by kernel_rfl) ?_
    refine Tri.seq (Tri.region ?_)
    refine TriL.segK (k' := 2) (fr' := [(2, .map none), (3, .bool false)]) (obl := []) [o_, o_] [2, 3] (fun _ _ => by kernel_rfl) trivial ?_
    refine TriL.nil (by kernel_rfl) (TriQ.next (Tri.ret (TriQ.passRet (TriQ.blockRet (TriQ.passRet (TriQ.passRet (TriQ.blockRet (TriQ.passRet ?_))))))))
    exact TriQ.ret (v := .tuple #[.map none, .bool false]) (l := []) (obl := []) [] [2] (fun _ => by kernel_rfl) trivial rfl (by kernel_rfl) (.inr ⟨_, rfl, fun h => by have := h.last (show k < ns.length by omega); omega, rfl⟩)
   ·
    refine TriL.segK (k' := 14) (fr' := [(1, .pointer (some ⟨b1, 0, none⟩)), (4, .map (some m2)), (6, .int .i64 ↑(entSum ns k)), (8, .pointer (some ⟨(blkOf A), offOf A + k * 10, none⟩)), (18, .int .i64 ↑ns.length), (19, .int .i64 ↑k), (39, .bool (decide (((nd ns k).id : Int) > (1099511627776 : Int))))]) (obl := [(Rd β ⟨(blkOf A), offOf A + k * 10, none⟩ (.int .i64 ((nd ns k).id)))]) [o_, o_, o_, ⟨[.old (.int .i64 ((nd ns k).id))], none, none, none, none⟩, o_, o_, o_] [1, 4, 6, 8, 18, 19, 39] (fun _ _ => by kernel_rfl) ⟨GraphAt.rd hG (i := k) (by omega) (j := 0) rfl, trivial⟩ ?_
    refine TriL.slotP 39 (((nd ns k).id : Int) > (1099511627776 : Int)) (fun _ => by kernel_rfl) (fun h39 => ?_) (fun h39 => ?_)
    ·
     refine TriL.segK (k' := 18) (fr' := [(1, .pointer (some ⟨b1, 0, none⟩)), (4, .map (some m2)), (6, .int .i64 ↑(entSum ns k)), (8, .pointer (some ⟨(blkOf A), offOf A + k * 10, none⟩)), (18, .int .i64 ↑ns.length), (19, .int .i64 ↑k), (43, .bool true)]) (obl := []) [o_, o_, o_, o_] [1, 4, 6, 8, 18, 19, 43] (fun _ _ => by kernel_rfl) trivial ?_
     refine TriL.nil (by kernel_rfl) (TriQ.next ?_)
     refine Tri.condT (fun _ => by kernel_rfl) ?_
     refine Tri.seq (Tri.region ?_)
     refine TriL.segK (k' := 2) (fr' := [(2, .map none), (3, .bool false)]) (obl := []) [o_, o_] [2, 3] (fun _ _ => by kernel_rfl) trivial ?_
     refine TriL.nil (by kernel_rfl) (TriQ.next (Tri.ret (TriQ.passRet (TriQ.blockRet (TriQ.passRet (TriQ.passRet (TriQ.blockRet (TriQ.passRet ?_))))))))
     exact TriQ.ret (v := .tuple #[.map none, .bool false]) (l := []) (obl := []) [] [2] (fun _ => by kernel_rfl) trivial rfl (by kernel_rfl) (.inr ⟨_, rfl, fun h => by have := (h.ids k (by omega)).2; omega, rfl⟩)
    ·
     refine TriL.segK (k' := 15) (fr' := [(1, .pointer (some ⟨b1, 0, none⟩)), (4, .map (some m2)), (6, .int .i64 ↑(entSum ns k)), (8, .pointer (some ⟨(blkOf A), offOf A + k * 10, none⟩)), (18, .int .i64 ↑ns.length), (19, .int .i64 ↑k), (39, .bool false), (40, .pointer (some ⟨(blkOf A), offOf A + k * 10, none⟩))]) (obl := []) [o_] [1, 4, 6, 8, 18, 19, 39, 40] (fun _ _ => by kernel_rfl) trivial ?_
     refine TriL.call (f := 58) (args := #[.pointer (some ⟨(blkOf A), offOf A + k * 10, none⟩)]) (d := (some 41)) (pre := []) (R := [.blk b1 [.slice A (ns.length) (c)] 24, .abs (MapA Try.prog 3 m2 (mf (bf A ns k)) k), .abs R]) (pk := [0, 1, 2]) (fun _ => by kernel_rfl) (sp_sound A ns L hG k (by omega)) rfl (by kernel_rfl) ?_
     rintro _ _ ⟨rfl, rfl⟩
     refine TriL.segK (k' := 18) (fr' := [(1, .pointer (some ⟨b1, 0, none⟩)), (4, .map (some m2)), (6, .int .i64 ↑(entSum ns k)), (8, .pointer (some ⟨(blkOf A), offOf A + k * 10, none⟩)), (18, .int .i64 ↑ns.length), (19, .int .i64 ↑k), (43, .bool (!(decide (NodeOk (nd ns k)))))]) (obl := []) [o_, o_] [1, 4, 6, 8, 18, 19, 43] (fun _ _ => by kernel_rfl) trivial ?_
     refine TriL.nil (by kernel_rfl) (TriQ.next ?_)
     refine Tri.condN (p := NodeOk (nd ns k)) (fun _ => by kernel_rfl) (fun h43 => ?_) (fun h43 => ?_)
     ·
      refine Tri.seq (Tri.region ?_)
      refine TriL.segK (k' := 2) (fr' := [(2, .map none), (3, .bool false)]) (obl := []) [o_, o_] [2, 3] (fun _ _ => by kernel_rfl) trivial ?_
      refine TriL.nil (by kernel_rfl) (TriQ.next (Tri.ret (TriQ.passRet (TriQ.blockRet (TriQ.passRet (TriQ.passRet (TriQ.blockRet (TriQ.passRet ?_))))))))
      exact TriQ.ret (v := .tuple #[.map none, .bool false]) (l := []) (obl := []) [] [2] (fun _ => by kernel_rfl) trivial rfl (by kernel_rfl) (.inr ⟨_, rfl, fun h => h43 (h.node k (by omega)), rfl⟩)
     ·
      refine Tri.skip (TriQ.next (Tri.seq (Tri.region ?_)))
      refine TriL.segK (k' := 5) (fr' := [(1, .pointer (some ⟨b1, 0, none⟩)), (4, .map (some m2)), (5, .int .i64 ((nd ns k).id)), (6, .int .i64 ↑(entSum ns k)), (8, .pointer (some ⟨(blkOf A), offOf A + k * 10, none⟩)), (18, .int .i64 ↑ns.length), (19, .int .i64 ↑k)]) (obl := [(Rd β ⟨(blkOf A), offOf A + k * 10, none⟩ (.int .i64 ((nd ns k).id)))]) [o_, o_, o_, ⟨[.old (.int .i64 ((nd ns k).id))], none, none, none, none⟩, o_] [1, 4, 5, 6, 8, 18, 19] (fun _ _ => by kernel_rfl) ⟨GraphAt.rd hG (i := k) (by omega) (j := 0) rfl, trivial⟩ ?_
      refine TriL.nil (by kernel_rfl) (TriQ.next (Tri.seq (Tri.region ?_)))
      refine TriL.segK (k' := 6) (fr' := [(1, .pointer (some ⟨b1, 0, none⟩)), (4, .map (some m2)), (5, .int .i64 ((nd ns k).id)), (6, .int .i64 ↑(entSum ns k)), (8, .pointer (some ⟨(blkOf A), offOf A + k * 10, none⟩)), (18, .int .i64 ↑ns.length), (19, .int .i64 ↑k), (48, .map (some m2)), (52, .int .i64 ((nd ns k).id)), (53, .pointer (some ⟨(blkOf A), offOf A + k * 10, none⟩))]) (obl := [(Rd β ⟨(blkOf A), offOf A + k * 10, none⟩ (.int .i64 ((nd ns k).id)))]) [o_, o_, o_, o_, ⟨[.old (.int .i64 ((nd ns k).id))], none, none, none, none⟩, o_] [1, 4, 5, 6, 8, 18, 19, 48, 52, 53] (fun _ _ => by kernel_rfl) ⟨GraphAt.rd hG (i := k) (by omega) (j := 0) rfl, trivial⟩ ?_
      refine TriL.mapSet 1 (d := none) (t := 66) (K := 3) (E := 75) (b := m2) (n := k) (f := (mf (bf A ns k))) (x := (.tmp 48)) (ix := (.tmp 52)) (y := (.tmp 53)) (key := .int .i64 ((nd ns k).id)) (u := .pointer (some ⟨(blkOf A), offOf A + k * 10, none⟩)) (kl := (.int .i64 (nd ns k).id)) (n' := k + 1) (f' := (mf (bf A ns (k + 1)))) (fun _ => by kernel_rfl) (by kernel_rfl) (fun _ => by kernel_rfl) (fun _ => by kernel_rfl) (fun _ => by kernel_rfl) lawI Try.underlying66 (by unfold maxLen; omega) (keyI (by have := hu.last; omega) (by omega)) (bf_fresh (hu.below (by omega)) (by omega)) (bf_upd (hu.below (by omega)) (by omega)) ?_
      refine TriL.nil (by kernel_rfl) (TriQ.next (Tri.region ?_))
      refine TriL.segK (k' := 8) (fr' := [(1, .pointer (some ⟨b1, 0, none⟩)), (4, .map (some m2)), (5, .int .i64 ((nd ns k).id)), (6, .int .i64 ↑((entSum ns k) + ((nd ns k).ents.length))), (18, .int .i64 ↑ns.length), (19, .int .i64 ↑k)]) (obl := [(Value.int .i64 (IntKind.wrap .i64 (((entSum ns k : Nat) : Int) + (((nd ns k).ents.length : Nat) : Int)))) = (.int .i64 ↑((entSum ns k) + ((nd ns k).ents.length))), (Rd β ⟨(blkOf A), offOf A + k * 10 + 9, none⟩ (.slice (L.eA k) ((nd ns k).ents.length) ((L.eC k))))]) [o_, o_, o_, o_, ⟨[.old (.slice (L.eA k) ((nd ns k).ents.length) ((L.eC k)))], none, none, none, none⟩, o_, ⟨[], none, none, none, some (.int .i64 ↑((entSum ns k) + ((nd ns k).ents.length)))⟩, o_] [1, 4, 5, 6, 18, 19] (fun _ _ => by kernel_rfl) ⟨wrapEq (by omega) (by omega) (by omega), GraphAt.rd hG (i := k) (by omega) (j := 9) rfl, trivial⟩ ?_
      refine TriL.nil (by kernel_rfl) (TriQ.blockNormal (TriQ.next (Tri.region ?_)))
      refine TriL.segK (k' := 2) (fr' := [(1, .pointer (some ⟨b1, 0, none⟩)), (4, .map (some m2)), (5, .int .i64 ((nd ns k).id)), (6, .int .i64 ↑((entSum ns k) + ((nd ns k).ents.length))), (18, .int .i64 ↑ns.length), (19, .int .i64 ↑(k + 1))]) (obl := [(Value.int .i64 (IntKind.wrap .i64 (((k : Nat) : Int) + 1))) = (.int .i64 ↑(k + 1))]) [⟨[], none, none, none, some (.int .i64 ↑(k + 1))⟩, o_] [1, 4, 5, 6, 18, 19] (fun _ _ => by kernel_rfl) ⟨wrapEq (by omega) (by omega) (by omega), trivial⟩ ?_
      refine TriL.nil (by kernel_rfl) ?_
      exact TriQ.turn ((k + 1)) (idx := [1, 4, 5, 6, 18, 19]) (pk := [0, 1, 2]) (show (((k + 1)) ≤ ns.length) ∧ (Upto ns ((k + 1))) ∧ (entSum ns ((k + 1)) ≤ ((k + 1)) * 1048576) from ⟨by omega, hu.step (by omega) (by omega) h43, by have := (hd k (by omega)).2; show entSum ns k + _ ≤ _; omega⟩) (by show ns.length - ((k + 1)) < ns.length - k; omega) (fun _ => by kernel_rfl) rfl (by kernel_rfl)
  ·
   refine Tri.exit (TriQ.passExit (TriQ.passExit (TriQ.blockHit (TriQ.next (Tri.seq (Tri.seq (Tri.region ?_)))))))
   refine TriL.segK (k' := 2) (fr' := [(1, .pointer (some ⟨b1, 0, none⟩)), (4, .map (some m2)), (63, .bool (decide ((((entSum ns k : Nat) : Int) : Int) > (8192 : Int))))]) (obl := []) [o_, o_] [1, 4, 63] (fun _ _ => by kernel_rfl) trivial ?_
   refine TriL.nil (by kernel_rfl) (TriQ.next ?_)
   refine Tri.condP (p := (((entSum ns k : Nat) : Int) : Int) > (8192 : Int)) (fun _ => by kernel_rfl) (fun h63 => ?_) (fun h63 => ?_)
   ·
    refine Tri.seq (Tri.region ?_)
    refine TriL.segK (k' := 2) (fr' := [(2, .map none), (3, .bool false)]) (obl := []) [o_, o_] [2, 3] (fun _ _ => by kernel_rfl) trivial ?_
    refine TriL.nil (by kernel_rfl) (TriQ.next (Tri.ret (TriQ.passRet ?_)))
    exact TriQ.ret (v := .tuple #[.map none, .bool false]) (l := []) (obl := []) [] [2] (fun _ => by kernel_rfl) trivial rfl (by kernel_rfl) (.inr ⟨_, rfl, fun h => by have h1 := h.sum; rw [show ns.length = k by omega] at h1; omega, rfl⟩)
   ·
    refine Tri.skip (TriQ.next (Tri.seq (Tri.region ?_)))
    refine TriL.mapMake (d := (some 64)) (t := 107) (fun _ => by kernel_rfl) Try.prog rfl 3 (fun m3 => ?_)
    refine TriL.segK (k' := 2) (fr' := [(1, .pointer (some ⟨b1, 0, none⟩)), (4, .map (some m2)), (9, .map (some m3))]) (obl := []) [o_] [1, 4, 9] (fun _ _ => by kernel_rfl) trivial ?_
    refine TriL.nil (by kernel_rfl) (TriQ.next (Tri.seq (Tri.seq (Tri.region ?_))))
    refine TriL.partEq 3 (p := .abs (MapA Try.prog 3 m3 (fun _ => none) 0)) (p' := .abs (MapA Try.prog 3 m3 (mf (pf ((allE ns 0).map (idP ns)))) ((allE ns 0).length))) (by kernel_rfl) (by rw [pf_zero]; rfl) ?_
    refine TriL.partEq 1 (p := .abs (MapA Try.prog 3 m2 (mf (bf A ns k)) k)) (p' := .abs (MapA Try.prog 3 m2 (mf (bf A ns ns.length)) ns.length)) (by kernel_rfl) (by rw [show k = ns.length by omega]) ?_
    refine TriL.segK (k' := 4) (fr' := [(1, .pointer (some ⟨b1, 0, none⟩)), (4, .map (some m2)), (9, .map (some m3)), (67, .int .i64 ↑ns.length), (68, .int .i64 0)]) (obl := [b1 = b1]) [o_, ⟨[.at 0], none, none, none, none⟩, o_, o_] [1, 4, 9, 67, 68] (fun _ _ => by kernel_rfl) ⟨rfl, trivial⟩ ?_
    refine TriL.nil (by kernel_rfl) (TriQ.next (Tri.block ?_))
    have hrise : Rising ns := fun a b hab hb => hu.rise a b hab (by omega)
    have hsum : entSum ns ns.length ≤ 8192 := by rw [show ns.length = k by omega]; omega
    refine Tri.loop (ι := Nat) (fun (i : Nat) => (i ≤ ns.length) ∧ (∀ a, a < i → ∀ j, j < (nd ns a).ents.length → EntOk ns a j) ∧ (((allE ns i).map Prod.fst).Nodup)) (fun (i : Nat) => ns.length - i) (fun (i : Nat) => [(1, .pointer (some ⟨b1, 0, none⟩)), (4, .map (some m2)), (9, .map (some m3)), (67, .int .i64 ↑ns.length), (68, .int .i64 ↑i)]) (fun (i : Nat) => [.blk b1 [.slice A (ns.length) (c)] 24, .abs (MapA Try.prog 3 m2 (mf (bf A ns ns.length)) ns.length), .abs (MapA Try.prog 3 m3 (mf (pf ((allE ns i).map (idP ns)))) ((allE ns i).length)), .abs R]) 0 (idx := [1, 4, 9, 67, 68]) (pk := [0, 1, 3, 2]) (show (0 ≤ ns.length) ∧ (∀ a, a < 0 → ∀ j, j < (nd ns a).ents.length → EntOk ns a j) ∧ (((allE ns 0).map Prod.fst).Nodup) from ⟨Nat.zero_le _, fun a ha => absurd ha (Nat.not_lt_zero a), List.nodup_nil⟩) (fun _ => by kernel_rfl) rfl (by kernel_rfl) ?_
    rintro i ⟨hi, hents, hnd⟩
    show Tri _ _ _ _ [(1, .pointer (some ⟨b1, 0, none⟩)), (4, .map (some m2)), (9, .map (some m3)), (67, .int .i64 ↑ns.length), (68, .int .i64 ↑i)] [.blk b1 [.slice A (ns.length) (c)] 24, .abs (MapA Try.prog 3 m2 (mf (bf A ns ns.length)) ns.length), .abs (MapA Try.prog 3 m3 (mf (pf ((allE ns i).map (idP ns)))) ((allE ns i).length)), .abs R] _
    refine Tri.seq (Tri.region ?_)
    refine TriL.segK (k' := 1) (fr' := [(1, .pointer (some ⟨b1, 0, none⟩)), (4, .map (some m2)), (9, .map (some m3)), (67, .int .i64 ↑ns.length), (68, .int .i64 ↑i), (69, .bool (decide ((((i : Nat) : Int) : Int) < (((ns.length : Nat) : Int) : Int))))]) (obl := []) [o_] [1, 4, 9, 67, 68, 69] (fun _ _ => by kernel_rfl) trivial ?_
    refine TriL.nil (by kernel_rfl) (TriQ.next (Tri.seq ?_))
    refine Tri.condP (p := (((i : Nat) : Int) : Int) < (((ns.length : Nat) : Int) : Int)) (fun _ => by kernel_rfl) (fun h69 => ?_) (fun h69 => ?_)
    ·
     refine Tri.skip (TriQ.next (Tri.seq (Tri.block (Tri.seq (Tri.region ?_)))))
     refine TriL.segK (k' := 2) (fr' := [(1, .pointer (some ⟨b1, 0, none⟩)), (4, .map (some m2)), (9, .map (some m3)), (10, .int .i64 ↑i), (67, .int .i64 ↑ns.length), (68, .int .i64 ↑i)]) (obl := []) [o_, o_] [1, 4, 9, 10, 67, 68] (fun _ _ => by kernel_rfl) trivial ?_
     refine TriL.nil (by kernel_rfl) (TriQ.next (Tri.seq (Tri.region ?_)))
     refine TriL.segK (k' := 6) (fr' := [(1, .pointer (some ⟨b1, 0, none⟩)), (4, .map (some m2)), (9, .map (some m3)), (67, .int .i64 ↑ns.length), (68, .int .i64 ↑i), (74, .pointer (some ⟨(blkOf A), offOf A + i * 10, none⟩)), (75, .map (some m2)), (76, .map (some m3))]) (obl := [((i : Nat) : Int) = ((i : Nat) : Int), i < ns.length, (⟨(blkOf A), offOf A, none⟩ : Addr).spot = none, (A : Option Addr) = some ⟨(blkOf A), offOf A, none⟩, b1 = b1]) [o_, ⟨[.at 0], none, none, none, none⟩, o_, ⟨[], some i, none, some ⟨(blkOf A), offOf A, none⟩, none⟩, o_, o_] [1, 4, 9, 67, 68, 74, 75, 76] (fun _ _ => by kernel_rfl) ⟨rfl, by omega, rfl, GraphAt.hd hG (i := i) (by omega), rfl, trivial⟩ ?_
     refine TriL.call (f := 59) (args := #[.pointer (some ⟨(blkOf A), offOf A + i * 10, none⟩), .map (some m2), .map (some m3)]) (d := (some 77)) (pre := [.abs (MapA Try.prog 3 m2 (mf (bf A ns ns.length)) ns.length), .abs (MapA Try.prog 3 m3 (mf (pf ((allE ns i).map (idP ns)))) ((allE ns i).length))]) (R := [.blk b1 [.slice A (ns.length) (c)] 24, .abs R]) (pk := [1, 2, 0, 3]) (fun _ => by kernel_rfl) (sp_enter A ns L hG hrise i (by omega) (hd i (by omega)).2 (hwf i (by omega)) (hnm i (by omega)) m2 m3 (allE ns i) (by have := allE_len ns i; have := entSum_mono (ns := ns) (show i ≤ ns.length by omega); omega) (fun p hp => (allE_fst (by omega) hents p hp).1) hnd) rfl (by kernel_rfl) ?_
     rintro _ _ (⟨rfl, hro, rfl⟩ | ⟨rfl, hro, rfl⟩)
     ·
      refine TriL.segK (k' := 8) (fr' := [(1, .pointer (some ⟨b1, 0, none⟩)), (4, .map (some m2)), (9, .map (some m3)), (67, .int .i64 ↑ns.length), (68, .int .i64 ↑i), (78, .bool false)]) (obl := []) [o_] [1, 4, 9, 67, 68, 78] (fun _ _ => by kernel_rfl) trivial ?_
      refine TriL.nil (by kernel_rfl) (TriQ.next ?_)
      refine Tri.condF (fun _ => by kernel_rfl) ?_
      refine Tri.skip (TriQ.blockNormal (TriQ.next (Tri.region ?_)))
      refine TriL.segK (k' := 2) (fr' := [(1, .pointer (some ⟨b1, 0, none⟩)), (4, .map (some m2)), (9, .map (some m3)), (67, .int .i64 ↑ns.length), (68, .int .i64 ↑(i + 1))]) (obl := [(Value.int .i64 (IntKind.wrap .i64 (((i : Nat) : Int) + 1))) = (.int .i64 ↑(i + 1))]) [⟨[], none, none, none, some (.int .i64 ↑(i + 1))⟩, o_] [1, 4, 9, 67, 68] (fun _ _ => by kernel_rfl) ⟨wrapEq (by omega) (by omega) (by omega), trivial⟩ ?_
      refine TriL.nil (by kernel_rfl) ?_
      exact TriQ.turn ((i + 1)) (idx := [1, 4, 9, 67, 68]) (pk := [2, 0, 1, 3]) (show (((i + 1)) ≤ ns.length) ∧ (∀ a, a < ((i + 1)) → ∀ j, j < (nd ns a).ents.length → EntOk ns a j) ∧ (((allE ns ((i + 1))).map Prod.fst).Nodup) from ⟨by omega, fun a ha => (by rcases Nat.lt_succ_iff_lt_or_eq.1 ha with h | h; exact hents a h; subst h; exact hro.ents), hro.next⟩) (by show ns.length - ((i + 1)) < ns.length - i; omega) (fun _ => by kernel_rfl) rfl (by kernel_rfl)
     ·
      refine TriL.segK (k' := 8) (fr' := [(1, .pointer (some ⟨b1, 0, none⟩)), (4, .map (some m2)), (9, .map (some m3)), (67, .int .i64 ↑ns.length), (68, .int .i64 ↑i), (78, .bool true)]) (obl := []) [o_] [1, 4, 9, 67, 68, 78] (fun _ _ => by kernel_rfl) trivial ?_
      refine TriL.nil (by kernel_rfl) (TriQ.next ?_)
      refine Tri.condT (fun _ => by kernel_rfl) ?_
      refine Tri.seq (Tri.region ?_)
      refine TriL.segK (k' := 2) (fr' := [(2, .map none), (3, .bool false)]) (obl := []) [o_, o_] [2, 3] (fun _ _ => by kernel_rfl) trivial ?_
      refine TriL.nil (by kernel_rfl) (TriQ.next (Tri.ret (TriQ.blockRet (TriQ.passRet (TriQ.passRet (TriQ.blockRet (TriQ.passRet ?_)))))))
      exact TriQ.ret (v := .tuple #[.map none, .bool false]) (l := []) (obl := []) [] [1] (fun _ => by kernel_rfl) trivial rfl (by kernel_rfl) (.inr ⟨_, rfl, fun h => hro (h.row (by omega)), rfl⟩)
    ·
     refine Tri.exit (TriQ.passExit (TriQ.passExit (TriQ.blockHit (TriQ.next (Tri.seq (Tri.region ?_))))))
     refine TriL.segK (k' := 2) (fr' := [(80, .map (some m2)), (81, .map (some m3))]) (obl := []) [o_, o_] [80, 81] (fun _ _ => by kernel_rfl) trivial ?_
     refine TriL.partEq 2 (p := .abs (MapA Try.prog 3 m3 (mf (pf ((allE ns i).map (idP ns)))) ((allE ns i).length))) (p' := .abs (MapA Try.prog 3 m3 (mf (pf ((allE ns i).map (idP ns)))) (((allE ns i).map (idP ns)).length))) (by kernel_rfl) (by rw [List.length_map]) ?_
     refine TriL.call (f := 60) (args := #[.map (some m3)]) (d := (some 82)) (pre := [.abs (MapA Try.prog 3 m3 (mf (pf ((allE ns i).map (idP ns)))) (((allE ns i).map (idP ns)).length))]) (R := [.blk b1 [.slice A (ns.length) (c)] 24, .abs (MapA Try.prog 3 m2 (mf (bf A ns ns.length)) ns.length), .abs R]) (pk := [2, 0, 1, 3]) (fun _ => by kernel_rfl) ((sp_rooted m3 ((allE ns i).map (idP ns)) (by rw [List.length_map]; have := allE_len ns i; have := entSum_mono (ns := ns) (show i ≤ ns.length by omega); omega) (up_bounds (allE_fst (by omega) hents) (fun a ha => hu.ids a (by omega)))).mono (fun v l h => dec_or h)) rfl (by kernel_rfl) ?_
     rintro _ _ (⟨rfl, hae, rfl⟩ | ⟨rfl, hae, rfl⟩)
     ·
      refine TriL.segK (k' := 5) (fr' := [(2, .map (some m2)), (3, .bool true)]) (obl := []) [o_, o_] [2, 3] (fun _ _ => by kernel_rfl) trivial ?_
      refine TriL.nil (by kernel_rfl) (TriQ.next (Tri.ret ?_))
      exact TriQ.ret (v := .tuple #[.map (some m2), .bool true]) (l := [.abs (MapA Try.prog 3 m2 (mf (bf A ns ns.length)) ns.length)]) (obl := []) [] [1, 2] (fun _ => by kernel_rfl) trivial rfl (by kernel_rfl) (.inl ⟨m2, rfl, ⟨by omega, fun a ha => hu.node a (by omega), fun a ha => hu.ids a (by omega), hrise, by omega, fun a ha => hents a (by omega), by have := hnd; rwa [show i = ns.length by omega] at this, by have := hae; rwa [show i = ns.length by omega] at this⟩, rfl⟩)
     ·
      refine TriL.segK (k' := 5) (fr' := [(2, .map (some m2)), (3, .bool false)]) (obl := []) [o_, o_] [2, 3] (fun _ _ => by kernel_rfl) trivial ?_
      refine TriL.nil (by kernel_rfl) (TriQ.next (Tri.ret ?_))
      exact TriQ.ret (v := .tuple #[.map (some m2), .bool false]) (l := []) (obl := []) [] [2] (fun _ => by kernel_rfl) trivial rfl (by kernel_rfl) (.inr ⟨_, rfl, fun h => hae (by have := h.ends; rwa [show ns.length = i by omega] at this), rfl⟩)
set_option maxRecDepth 100000 in
set_option maxHeartbeats 4000000 in
theorem sp_check {β : Bs} (A : Option Addr) (c : Nat) (ns : List NodeM) (L : Lay) (hG : GraphAt β A ns L) (hl : ns.length ≤ 1048576) (hd : ∀ i, i < ns.length → (nd ns i).data.length ≤ 1048576 ∧ (nd ns i).ents.length ≤ 1048576) (hwf : ∀ i, i < ns.length → ∀ j, j < (nd ns i).ents.length → -9223372036854775808 ≤ (ent ns i j).id ∧ (ent ns i j).id ≤ 9223372036854775807) (hnm : ∀ i, i < ns.length → ∀ j, j < (nd ns i).ents.length → (ent ns i j).name.size ≤ 1048576) :
    Spec Try.prog β 14 #[.agg #[.slice A ns.length c]] [] (fun v l => v = .int .i64 (if GraphOk ns then 0 else 140) ∧ l = []) := by
 refine Spec.enter Try.func14 rfl Try.ntmps14 (Nat.le_of_ble_eq_true rfl) (fun R => ?_)
 refine Tri.seq (Tri.region ?_)
 refine TriL.segN (k' := 2) (fr' := fun b4 => [(1, .pointer (some ⟨b4, 0, none⟩))]) (hps' := fun b4 => [.abs R, .blk b4 [.slice A (ns.length) (c)] 24]) (obl := fun b4 => []) [o_, o_] [1] [0, 1] (fun _ _ => by kernel_rfl) (fun b4 => trivial) (fun b4 => ?_)
 refine TriL.nil (by kernel_rfl) (TriQ.next (Tri.seq (Tri.seq (Tri.region ?_))))
 refine TriL.segK (k' := 1) (fr' := [(6, .agg #[.slice A (ns.length) (c)])]) (obl := [b4 = b4]) [⟨[.at 1], none, none, none, none⟩] [6] (fun _ _ => by kernel_rfl) ⟨rfl, trivial⟩ ?_
 refine TriL.call (f := 37) (args := #[.agg #[.slice A (ns.length) (c)]]) (d := (some 7)) (pre := []) (R := [.abs R, .blk b4 [.slice A (ns.length) (c)] 24]) (pk := [0, 1]) (fun _ => by kernel_rfl) (sp_read A c ns L hG hl hd hwf hnm) rfl (by kernel_rfl) ?_
 rintro _ _ (⟨mb, rfl, hok, rfl⟩ | ⟨m, rfl, hok, rfl⟩)
 ·
  refine TriL.segK (k' := 7) (fr' := [(4, .bool true)]) (obl := []) [o_, o_, o_, o_, o_] [4] (fun _ _ => by kernel_rfl) trivial ?_
  refine TriL.nil (by kernel_rfl) (TriQ.next (Tri.seq (Tri.region ?_)))
  refine TriL.segK (k' := 2) (fr' := [(11, .bool false)]) (obl := []) [o_, o_] [11] (fun _ _ => by kernel_rfl) trivial ?_
  refine TriL.nil (by kernel_rfl) (TriQ.next ?_)
  refine Tri.condF (fun _ => by kernel_rfl) ?_
  refine Tri.skip (TriQ.next (Tri.seq (Tri.region ?_)))
  refine TriL.segK (k' := 1) (fr' := [(2, .int .i64 0)]) (obl := []) [o_] [2] (fun _ _ => by kernel_rfl) trivial ?_
  refine TriL.nil (by kernel_rfl) (TriQ.next (Tri.ret ?_))
  exact TriQ.ret (v := .int .i64 0) (l := []) (obl := []) [] [1] (fun _ => by kernel_rfl) trivial rfl (by kernel_rfl) (⟨congrArg (Value.int .i64) (if_pos hok).symm, rfl⟩)
 ·
  refine TriL.segK (k' := 7) (fr' := [(4, .bool false)]) (obl := []) [o_, o_, o_, o_, o_] [4] (fun _ _ => by kernel_rfl) trivial ?_
  refine TriL.nil (by kernel_rfl) (TriQ.next (Tri.seq (Tri.region ?_)))
  refine TriL.segK (k' := 2) (fr' := [(11, .bool true)]) (obl := []) [o_, o_] [11] (fun _ _ => by kernel_rfl) trivial ?_
  refine TriL.nil (by kernel_rfl) (TriQ.next ?_)
  refine Tri.condT (fun _ => by kernel_rfl) ?_
  refine Tri.seq (Tri.region ?_)
  refine TriL.segK (k' := 1) (fr' := [(2, .int .i64 140)]) (obl := []) [o_] [2] (fun _ _ => by kernel_rfl) trivial ?_
  refine TriL.nil (by kernel_rfl) (TriQ.next (Tri.ret (TriQ.passRet ?_)))
  exact TriQ.ret (v := .int .i64 140) (l := []) (obl := []) [] [0] (fun _ => by kernel_rfl) trivial rfl (by kernel_rfl) (⟨congrArg (Value.int .i64) (if_neg hok).symm, rfl⟩)
end Go.Proofs.Ytjpdcppdoonmdaa
end
/- part Vw. PROVED HERE: the rule of the logic for 'make' of a slice of things of one cell. CONDITIONS: none. No statement of the seat is proved here. -/
section
namespace Go.Proofs.Ytjpdcppdoonmdaa
open Go.RowKit
theorem madeCells_one (z : Value) (n : Nat) : (madeCells #[z] (n * 1)).toList = List.replicate n z := by
  rw [Nat.mul_one]
  apply List.ext_getElem
  · simp [madeCells]
  · intro j h1 h2
    simp [madeCells, Nat.mod_one]
section make
variable {P : Program} {β : Bs} {N : Nat} {ops : Array Oper} {k : Nat} {fr : Fr} {hps : List HP} {Q : Post} {d : Option Tmp}
theorem TriL.makeFull {t e : TypeId} {z : Value} {bytes n : Nat} {l c : Operand} (hop : ∀ junk, opAt N junk ops fr k = some (.makeSlice t l c, d)) (hl : ∀ junk, evF N fr junk l = .int .i64 ((n : Nat) : Int)) (hc : ∀ junk, evF N fr junk c = .int .i64 ((n : Nat) : Int))
    (ht : P.underlying t = some (.slice e)) (hinf : (P.info? e).map (fun i => (i.zero, i.size, i.bytes)) = some (some z, 1, bytes)) (hzs : z.cells = #[z]) (hn : n ≤ 16777216) (hb : bytes * n ≤ 281474976710656)
    (K' : ∀ b, TriL P β N ops (k + 1) (putF fr d (.slice (some ⟨b, 0, none⟩) n n)) (hps ++ [.abs (RowA e 1 (some ⟨b, 0, none⟩) n n (List.replicate n z))]) Q) : TriL P β N ops k fr hps Q := by
  obtain ⟨inf, hi, hz, hsize, hby⟩ : ∃ inf, P.info? e = some inf ∧ inf.zero = some z ∧ inf.size = 1 ∧ inf.bytes = bytes := by
    cases h : P.info? e with
    | none => rw [h] at hinf; cases hinf
    | some inf => rw [h] at hinf; simp at hinf; exact ⟨inf, rfl, hinf.1, hinf.2.1, hinf.2.2⟩
  refine TriL.runE (ι := Nat) (v := fun b => .slice (some ⟨b, 0, none⟩) n n) (hp' := fun b => hps ++ [.abs (RowA e 1 (some ⟨b, 0, none⟩) n n (List.replicate n z))]) hop (fun o junk w ho hS => ?_) K'
  obtain ⟨w', h1, h2, h3⟩ := run_makeSlice_full (P := P) w 0 t e inf z 1 ht hi hz hsize .i64 .i64 n (by omega) (by rw [hby]; exact hb) (by unfold maxLen; omega) (Nat.zero_le _)
  rw [hzs, madeCells_one] at h2
  refine ⟨w.heap.size, w', .inl ?_, hS.new (F := fun k => k = w.heap.size) ⟨h2, fun j => by simp [Value.ownBlock, eq_comm]⟩ ((Keeps.refl _ _).grown h3 (fun _ h => by cases h)) (fun k e => Nat.le_of_eq e.symm)⟩
  obtain ⟨dst, op, type, pos, after, guard⟩ := o
  cases ho
  simp only [execOp, hl, hc]
  simp [h1, Result.andThen]
end make
end Go.Proofs.Ytjpdcppdoonmdaa
end
/- part GP. PROVED HERE: plain laws of the array of parents. CONDITIONS: none. No statement of the seat is proved here. -/
section
namespace Go.Proofs.Ytjpdcppdoonmdaa
open Go.RowKit Go.Maps
def parI (ed : List (Nat × Nat)) (k : Nat) : Int := match ed.lookup k with | some a => (a : Int) | none => -1
structure Par (n : Nat) (pl : List Int) (ed : List (Nat × Nat)) : Prop where
  len : pl.length = n
  at_ : ∀ k, k < n → pl.getD k 0 = parI ed k
theorem intsV_get {w : List Int} {j : Nat} (hj : j < w.length) : (intsV w)[j]? = some (.int .i64 (w.getD j 0)) := by
  rw [intsV, List.getElem?_map, getD_some (x := 0) hj]; rfl
theorem intsV_set (pl : List Int) (k : Nat) (x : Int) : (intsV pl).set k (.int .i64 x) = intsV (pl.set k x) := by
  unfold intsV
  rw [List.map_set]
theorem getD_set {pl : List Int} {k j : Nat} {x : Int} (hk : k < pl.length) : (pl.set k x).getD j 0 = if j = k then x else pl.getD j 0 := by
  rw [List.getD_eq_getElem?_getD, List.getD_eq_getElem?_getD, List.getElem?_set]
  by_cases e : k = j
  · subst e; simp [hk]
  · have : ¬ j = k := fun h => e h.symm
    simp [e, this]
theorem Par.put {n : Nat} {pl : List Int} {ed : List (Nat × Nat)} (h : Par n pl ed) {k a : Nat} (hk : k < n) : Par n (pl.set k (a : Int)) ((k, a) :: ed) := by
  refine ⟨by rw [List.length_set]; exact h.len, fun j hj => ?_⟩
  rw [getD_set (by rw [h.len]; exact hk)]
  unfold parI
  rw [List.lookup_cons]
  by_cases e : j = k
  · subst e; simp
  · have : (j == k) = false := by simp [e]
    rw [if_neg e, this, h.at_ j hj]
    rfl
theorem parI_none {ed : List (Nat × Nat)} {k : Nat} : parI ed k < 0 ↔ k ∉ ed.map Prod.fst := by
  unfold parI
  induction ed with
  | nil => simp
  | cons p ed ih =>
    obtain ⟨a, b⟩ := p
    rw [List.lookup_cons]
    by_cases e : k = a
    · subst e
      simp
    · have h1 : (k == a) = false := by simp [e]
      rw [h1]
      simp only [List.map_cons, List.mem_cons, not_or]
      exact ih.trans ⟨fun h => ⟨e, h⟩, fun h => h.2⟩
theorem parI_up {ns : List NodeM} {ed : List (Nat × Nat)} {k : Nat} (hr : Rising ns) (hk : k < ns.length) (hp : ∀ p, p ∈ ed → p.1 < ns.length) :
    (parI ed k < 0 ∧ up (ed.map (idP ns)) (nd ns k).id = none) ∨ ∃ a : Nat, parI ed k = (a : Int) ∧ (k, a) ∈ ed ∧ up (ed.map (idP ns)) (nd ns k).id = some (nd ns a).id := by
  unfold parI up
  induction ed with
  | nil => exact .inl ⟨by simp, rfl⟩
  | cons p ed ih =>
    obtain ⟨a, b⟩ := p
    rw [List.map_cons, idP, List.lookup_cons, List.lookup_cons]
    by_cases e : k = a
    · subst e
      exact .inr ⟨b, by simp, List.mem_cons_self .., by simp⟩
    · have h1 : (k == a) = false := by simp [e]
      have h2 : ((nd ns k).id == (nd ns a).id) = false := by
        simp
        exact fun h => e (hr.inj hk (hp (a, b) (List.mem_cons_self ..)) h)
      rw [h1, h2]
      rcases ih (fun p hp' => hp p (List.mem_cons_of_mem _ hp')) with h | ⟨c, h3, h4, h5⟩
      · exact .inl h
      · exact .inr ⟨c, h3, List.mem_cons_of_mem _ h4, h5⟩
theorem Way.back {ps : List (Int × Int)} {z0 : Int} {w : List Int} (h : Way ps z0 w z0) (hl : 0 < w.length) : ¬ Ends ps z0 := fun ⟨k, hk⟩ => by
  obtain ⟨j, hj, h2⟩ := h.long hk
  have := EndsIn.uniq hk h2
  omega
theorem nodup_lt : ∀ (n : Nat) (l : List Nat), l.Nodup → (∀ x, x ∈ l → x < n) → l.length ≤ n
  | 0, [], _, _ => Nat.le_refl _
  | 0, a :: l, _, h => absurd (h a (List.mem_cons_self ..)) (Nat.not_lt_zero a)
  | n + 1, l, hn, h => by
    have h1 := nodup_lt n (l.erase n) (hn.erase n) (fun x hx => by
      have h2 := (List.Nodup.mem_erase_iff hn).1 hx
      have := h x h2.2
      omega)
    by_cases hm : n ∈ l
    · have := List.length_erase_of_mem hm
      omega
    · rw [List.erase_of_not_mem hm] at h1
      omega
theorem allEnd_of {ns : List NodeM} {ed : List (Nat × Nat)} (hp : ∀ p, p ∈ ed → p.1 < ns.length) (h : ∀ i, i < ns.length → Ends (ed.map (idP ns)) (nd ns i).id) : AllEnd (ed.map (idP ns)) := by
  intro z
  cases hu : up (ed.map (idP ns)) z with
  | none => exact ⟨0, hu⟩
  | some y =>
    have : ∃ p, p ∈ ed ∧ z = (nd ns p.1).id := by
      unfold up at hu
      clear h
      induction ed with
      | nil => cases hu
      | cons p ed ih =>
        rw [List.map_cons, idP, List.lookup_cons] at hu
        by_cases e : (z == (nd ns p.1).id) = true
        · exact ⟨p, List.mem_cons_self .., by simpa using e⟩
        · have e : (z == (nd ns p.1).id) = false := by simpa using e
          rw [e] at hu
          obtain ⟨q, hq, h2⟩ := ih (fun p hp' => hp p (List.mem_cons_of_mem _ hp')) hu
          exact ⟨q, List.mem_cons_of_mem _ hq, h2⟩
    obtain ⟨p, h1, rfl⟩ := this
    exact h p.1 (hp p h1)
theorem way_next {ns : List NodeM} {ed : List (Nat × Nat)} {pl : List Int} {z : Int} {b m : Nat} {w : List Int} (hr : Rising ns) (hp : ∀ p, p ∈ ed → p.1 < ns.length ∧ p.2 < ns.length) (hpar : Par ns.length pl ed) (hb : b < ns.length) (hw : Way (ed.map (idP ns)) z w (nd ns b).id) (hm : w.length = m) :
    (pl.getD b 0 < 0 ∧ Ends (ed.map (idP ns)) z) ∨ ∃ q : Nat, pl.getD b 0 = (q : Int) ∧ q < ns.length ∧ Way (ed.map (idP ns)) z (w ++ [(nd ns b).id]) (nd ns q).id ∧ (w ++ [(nd ns b).id]).length = m + 1 := by
  rw [hpar.at_ b hb]
  rcases parI_up hr hb (fun p h => (hp p h).1) with ⟨h1, h2⟩ | ⟨a, h1, h2, h3⟩
  · exact .inl ⟨h1, (hw.ends ⟨0, h2⟩).1⟩
  · exact .inr ⟨a, h1, (hp _ h2).2, hw.snoc h3, by simp; omega⟩
theorem entOk_of {ns : List NodeM} {i j : Nat} (h1 : 0 ≤ atI ns (ent ns i j).id) (h2 : GoodName (ent ns i j).name) (h3 : 0 < j → ¬ strLe (ent ns i j).name (ent ns i (j - 1)).name) : EntOk ns i j := by
  refine ⟨h1, h2, ?_⟩
  cases j with
  | zero =>
    intro h
    have := strLe_empty.1 h
    have h4 := h2.1
    rw [this] at h4
    exact absurd h4 (by decide)
  | succ j => exact h3 (Nat.succ_pos j)
theorem lastId_pos {ns : List NodeM} {k : Nat} (h : 0 < k) : lastId ns k = (nd ns (k - 1)).id := by
  cases k with
  | zero => omega
  | succ k => rfl
theorem prevName_pos {ns : List NodeM} {i j : Nat} (h : 0 < j) : prevName ns i j = (ent ns i (j - 1)).name := by
  cases j with
  | zero => omega
  | succ j => rfl
theorem GraphOk.few {ns : List NodeM} (h : GraphOk ns) : ((allE ns ns.length).map (idP ns)).length ≤ ns.length := by
  rw [List.length_map]
  have h1 := allE_fst (ns := ns) (Nat.le_refl _) h.ents
  have h2 := nodup_lt ns.length ((allE ns ns.length).map Prod.fst) h.nodup (fun x hx => by
    obtain ⟨p, hp, rfl⟩ := List.mem_map.1 hx
    exact (h1 p hp).1)
  rwa [List.length_map] at h2
end Go.Proofs.Ytjpdcppdoonmdaa
end
/- part GOk. PROVED HERE: a well-formed graph in other words: the ways upwards are unique and end, since a depth can be told of each node. CONDITIONS: none. -/
section
namespace Go.Proofs.Ytjpdcppdoonmdaa
open Go.RowKit Go.Maps
/-- entry j of node i names a directory -/
structure DirE (ns : List NodeM) (i j : Nat) : Prop where
  lti : i < ns.length
  ltj : j < (nd ns i).ents.length
  dir : (nd ns (tgt ns (ent ns i j).id)).kind = 2
section
variable {ns : List NodeM}
theorem mem_rowE {i m : Nat} {p : Nat × Nat} : p ∈ rowE ns i m ↔ ∃ j, j < m ∧ (nd ns (tgt ns (ent ns i j).id)).kind = 2 ∧ p = (tgt ns (ent ns i j).id, i) := by
  induction m with
  | zero => simp [rowE]
  | succ m ih =>
    by_cases h : (nd ns (tgt ns (ent ns i m).id)).kind = 2
    · rw [rowE_dir h, List.mem_cons, ih]
      refine ⟨fun hp => ?_, fun ⟨j, hj, h1, h2⟩ => ?_⟩
      · rcases hp with rfl | ⟨j, hj, h1, h2⟩
        · exact ⟨m, Nat.lt_succ_self m, h, rfl⟩
        · exact ⟨j, Nat.lt_succ_of_lt hj, h1, h2⟩
      · rcases Nat.lt_succ_iff_lt_or_eq.1 hj with e | e
        · exact .inr ⟨j, e, h1, h2⟩
        · subst e; exact .inl h2
    · rw [rowE_skip h, ih]
      refine ⟨fun ⟨j, hj, h1⟩ => ⟨j, Nat.lt_succ_of_lt hj, h1⟩, fun ⟨j, hj, h1, h2⟩ => ?_⟩
      rcases Nat.lt_succ_iff_lt_or_eq.1 hj with e | e
      · exact ⟨j, e, h1, h2⟩
      · subst e; exact absurd h1 h
theorem mem_allE {m : Nat} {p : Nat × Nat} : p ∈ allE ns m ↔ ∃ i j, i < m ∧ j < (nd ns i).ents.length ∧ (nd ns (tgt ns (ent ns i j).id)).kind = 2 ∧ p = (tgt ns (ent ns i j).id, i) := by
  induction m with
  | zero => simp [allE]
  | succ m ih =>
    rw [allE, List.mem_append, mem_rowE, ih]
    refine ⟨fun h => ?_, fun ⟨i, j, hi, hj, h1, h2⟩ => ?_⟩
    · rcases h with ⟨j, hj, h1, h2⟩ | ⟨i, j, hi, h⟩
      · exact ⟨m, j, Nat.lt_succ_self m, hj, h1, h2⟩
      · exact ⟨i, j, Nat.lt_succ_of_lt hi, h⟩
    · rcases Nat.lt_succ_iff_lt_or_eq.1 hi with e | e
      · exact .inr ⟨i, j, e, hj, h1, h2⟩
      · subst e; exact .inl ⟨j, hj, h1, h2⟩
theorem DirE.mem {i j : Nat} (h : DirE ns i j) : (tgt ns (ent ns i j).id, i) ∈ allE ns ns.length := mem_allE.2 ⟨i, j, h.lti, h.ltj, h.dir, rfl⟩
/-- no directory is named twice -/
def UniqE (ns : List NodeM) (m : Nat) : Prop := ∀ i j i' j', DirE ns i j → DirE ns i' j' → i < m → i' < m → tgt ns (ent ns i j).id = tgt ns (ent ns i' j').id → i = i' ∧ j = j'
theorem rowE_nodup {i m : Nat} (h : ∀ j j', j < m → j' < m → (nd ns (tgt ns (ent ns i j).id)).kind = 2 → (nd ns (tgt ns (ent ns i j').id)).kind = 2 → tgt ns (ent ns i j).id = tgt ns (ent ns i j').id → j = j') : ((rowE ns i m).map Prod.fst).Nodup := by
  induction m with
  | zero => simp [rowE]
  | succ m ih =>
    have ih := ih (fun j j' h1 h2 => h j j' (by omega) (by omega))
    by_cases hk : (nd ns (tgt ns (ent ns i m).id)).kind = 2
    · rw [rowE_dir hk, List.map_cons, List.nodup_cons]
      refine ⟨fun hm => ?_, ih⟩
      obtain ⟨p, hp, e⟩ := List.mem_map.1 hm
      obtain ⟨j, hj, h1, rfl⟩ := mem_rowE.1 hp
      have := h j m (by omega) (by omega) h1 hk e
      omega
    · rw [rowE_skip hk]; exact ih
theorem rowE_uniq {i m : Nat} (h : ((rowE ns i m).map Prod.fst).Nodup) : ∀ j j', j < m → j' < m → (nd ns (tgt ns (ent ns i j).id)).kind = 2 → (nd ns (tgt ns (ent ns i j').id)).kind = 2 → tgt ns (ent ns i j).id = tgt ns (ent ns i j').id → j = j' := by
  induction m with
  | zero => intro j j' hj; omega
  | succ m ih =>
    intro j j' hj hj' hk hk' e
    by_cases hm : (nd ns (tgt ns (ent ns i m).id)).kind = 2
    · rw [rowE_dir hm, List.map_cons, List.nodup_cons] at h
      rcases Nat.lt_succ_iff_lt_or_eq.1 hj with e1 | e1
      · rcases Nat.lt_succ_iff_lt_or_eq.1 hj' with e2 | e2
        · exact ih h.2 j j' e1 e2 hk hk' e
        · subst e2; exact absurd (List.mem_map.2 ⟨_, mem_rowE.2 ⟨j, e1, hk, rfl⟩, e⟩) h.1
      · rcases Nat.lt_succ_iff_lt_or_eq.1 hj' with e2 | e2
        · subst e1; exact absurd (List.mem_map.2 ⟨_, mem_rowE.2 ⟨j', e2, hk', rfl⟩, e.symm⟩) h.1
        · omega
    · rw [rowE_skip hm] at h
      rcases Nat.lt_succ_iff_lt_or_eq.1 hj with e1 | e1
      · rcases Nat.lt_succ_iff_lt_or_eq.1 hj' with e2 | e2
        · exact ih h j j' e1 e2 hk hk' e
        · subst e2; exact absurd hk' hm
      · subst e1; exact absurd hk hm
theorem allE_nodup {m : Nat} (hm : m ≤ ns.length) (h : UniqE ns m) : ((allE ns m).map Prod.fst).Nodup := by
  induction m with
  | zero => simp [allE]
  | succ m ih =>
    have ih := ih (by omega) (fun i j i' j' h1 h2 h3 h4 => h i j i' j' h1 h2 (by omega) (by omega))
    rw [allE, List.map_append]
    refine List.nodup_append.2 ⟨rowE_nodup fun j j' hj hj' hk hk' e => (h m j m j' ⟨by omega, hj, hk⟩ ⟨by omega, hj', hk'⟩ (by omega) (by omega) e).2, ih, fun a ha b hb e => ?_⟩
    obtain ⟨p, hp, rfl⟩ := List.mem_map.1 ha
    obtain ⟨q, hq, rfl⟩ := List.mem_map.1 hb
    obtain ⟨j, hj, hk, rfl⟩ := mem_rowE.1 hp
    obtain ⟨i', j', hi', hj', hk', rfl⟩ := mem_allE.1 hq
    have := (h m j i' j' ⟨by omega, hj, hk⟩ ⟨by omega, hj', hk'⟩ (by omega) (by omega) e).1
    omega
theorem allE_uniq {m : Nat} (h : ((allE ns m).map Prod.fst).Nodup) : UniqE ns m := by
  induction m with
  | zero => intro i j i' j' _ _ hi; omega
  | succ m ih =>
    rw [allE, List.map_append] at h
    obtain ⟨h1, h2, h3⟩ := List.nodup_append.1 h
    intro i j i' j' g g' hi hi' e
    rcases Nat.lt_succ_iff_lt_or_eq.1 hi with e1 | e1
    · rcases Nat.lt_succ_iff_lt_or_eq.1 hi' with e2 | e2
      · exact ih h2 i j i' j' g g' e1 e2 e
      · subst e2
        exact absurd e.symm (h3 _ (List.mem_map.2 ⟨_, mem_rowE.2 ⟨j', g'.ltj, g'.dir, rfl⟩, rfl⟩) _ (List.mem_map.2 ⟨_, mem_allE.2 ⟨i, j, e1, g.ltj, g.dir, rfl⟩, rfl⟩))
    · rcases Nat.lt_succ_iff_lt_or_eq.1 hi' with e2 | e2
      · subst e1
        exact absurd e (h3 _ (List.mem_map.2 ⟨_, mem_rowE.2 ⟨j, g.ltj, g.dir, rfl⟩, rfl⟩) _ (List.mem_map.2 ⟨_, mem_allE.2 ⟨i', j', e2, g'.ltj, g'.dir, rfl⟩, rfl⟩))
      · subst e1; subst e2
        exact ⟨rfl, rowE_uniq h1 j j' g.ltj g'.ltj g.dir g'.dir e⟩
/-- a depth: an entry that names a directory leads deeper -/
def DepthOf (ns : List NodeM) (d : Nat → Nat) : Prop := ∀ i j, DirE ns i j → d i < d (tgt ns (ent ns i j).id)
theorem GraphOk.of_deep (h1 : ns.length ≤ 4096) (h2 : ∀ i, i < ns.length → NodeOk (nd ns i)) (h3 : ∀ i, i < ns.length → 1 ≤ (nd ns i).id ∧ (nd ns i).id ≤ 1099511627776) (h4 : Rising ns) (h5 : entSum ns ns.length ≤ 8192)
    (h6 : ∀ i, i < ns.length → ∀ j, j < (nd ns i).ents.length → EntOk ns i j) (h7 : UniqE ns ns.length) {d : Nat → Nat} (h8 : DepthOf ns d) : GraphOk ns := by
  refine ⟨h1, h2, h3, h4, h5, h6, allE_nodup (Nat.le_refl _) h7, ?_⟩
  have hp := allE_fst (ns := ns) (Nat.le_refl _) h6
  refine allEnd_of (fun p hp' => (hp p hp').1) ?_
  have key : ∀ n i, d i ≤ n → i < ns.length → Ends ((allE ns ns.length).map (idP ns)) (nd ns i).id := by
    intro n
    induction n with
    | zero =>
      intro i hd hi
      cases hu : up ((allE ns ns.length).map (idP ns)) (nd ns i).id with
      | none => exact ⟨0, hu⟩
      | some y =>
        obtain ⟨_, p, g1, g2, _⟩ := up_some h4 hi (fun p hp' => (hp p hp').1) hu
        obtain ⟨a, j, ha, hj, hk, rfl⟩ := mem_allE.1 g1
        have := h8 a j ⟨ha, hj, hk⟩
        have g2 : tgt ns (ent ns a j).id = i := g2
        rw [g2] at this
        omega
    | succ n ih =>
      intro i hd hi
      cases hu : up ((allE ns ns.length).map (idP ns)) (nd ns i).id with
      | none => exact ⟨0, hu⟩
      | some y =>
        obtain ⟨_, p, g1, g2, g3⟩ := up_some h4 hi (fun p hp' => (hp p hp').1) hu
        obtain ⟨a, j, ha, hj, hk, rfl⟩ := mem_allE.1 g1
        have := h8 a j ⟨ha, hj, hk⟩
        have g2 : tgt ns (ent ns a j).id = i := g2
        rw [g2] at this
        obtain ⟨m, hm⟩ := ih a (by omega) ha
        exact ⟨m + 1, y, hu, by rw [g3]; exact hm⟩
  exact fun i hi => key (d i) i (Nat.le_refl _) hi
theorem GraphOk.uniq (h : GraphOk ns) : UniqE ns ns.length := allE_uniq h.nodup
theorem GraphOk.deep (h : GraphOk ns) : ∃ d, DepthOf ns d := by
  refine ⟨fun k => Classical.choose (h.ends (nd ns k).id), fun i j g => ?_⟩
  have hp := allE_fst (ns := ns) (Nat.le_refl _) h.ents
  have hat := (h.ents i g.lti j g.ltj).at_
  have htl := atI_lt hat
  have e1 := Classical.choose_spec (h.ends (nd ns i).id)
  have e2 := Classical.choose_spec (h.ends (nd ns (tgt ns (ent ns i j).id)).id)
  show Classical.choose (h.ends (nd ns i).id) < Classical.choose (h.ends (nd ns (tgt ns (ent ns i j).id)).id)
  generalize Classical.choose (h.ends (nd ns i).id) = x at e1 ⊢
  generalize Classical.choose (h.ends (nd ns (tgt ns (ent ns i j).id)).id) = y at e2 ⊢
  cases hu : up ((allE ns ns.length).map (idP ns)) (nd ns (tgt ns (ent ns i j).id)).id with
  | none =>
    have := up_none hu
    exact absurd (List.mem_map.2 ⟨_, g.mem, rfl⟩) this
  | some z =>
    obtain ⟨_, p, g1, g2, g3⟩ := up_some h.rise htl.1 (fun p hp' => (hp p hp').1) hu
    obtain ⟨a, b, ha, hb, hk, rfl⟩ := mem_allE.1 g1
    have g2 : tgt ns (ent ns a b).id = tgt ns (ent ns i j).id := g2
    obtain ⟨rfl, rfl⟩ := h.uniq a b i j ⟨ha, hb, hk⟩ g ha g.lti g2
    have g3 : z = (nd ns a).id := g3
    cases y with
    | zero =>
      have e2 : up _ _ = none := e2
      rw [hu] at e2; cases e2
    | succ y =>
      obtain ⟨z', h1, h2⟩ := e2
      rw [hu] at h1
      cases h1
      rw [g3] at h2
      have := e1.uniq h2
      show x < y + 1
      omega
end
end Go.Proofs.Ytjpdcppdoonmdaa
end
/- part Row. PROVED HERE: a law's last step: it returned true, and nothing of old has turned: so the row holds. CONDITIONS: none. -/
section
namespace Go.Proofs.Ytjpdcppdoonmdaa
open Go.RowKit Go.WideShapes Go.ChangeShapes Go.ChangeAt Go.Deep
theorem laidOut : laidOutB Try.prog = true := by kernel_rfl
theorem own : ownKnob Try.prog.godebug = none := by kernel_rfl
section row
variable {H : Type} {enc : TypeId × Value → H} {P : Program}
theorem trodAll_stays (hl : laidOutB P = true) {W W' : World} (hb : Below W.heap.size W W') {sp : Nat → Bool} : ∀ {ts : List TypeId} {vs : List Value} {ds : List (DataW H)} {ps : List MemPlace},
    (∀ t ∈ ts, P.readableRec t = true ∧ t < P.types.size) → DataW.TrodAll enc P W 0 (fun _ => true) true ts vs ds ps → (∀ x ∈ ps, x.block < W.heap.size) → (∀ x ∈ ps, sp x.block = true) → DataW.TrodAll enc P W' 0 sp true ts vs ds ps
  | [], vs, ds, ps, _, h, _, _ => by
    obtain ⟨rfl, rfl, rfl⟩ := trodAll_nil h
    exact trodAll_mk0
  | t :: ts, vs, ds, ps, hr, h, hlt, hsp => by
    obtain ⟨v, vs', d, ds', p, q, rfl, rfl, rfl, h1, h2⟩ := trodAll_cons h
    have h3 := hr t List.mem_cons_self
    exact trodAll_cons_mk (WideElems.Trod_stays hl h3.1 h3.2 h1 (fun x hx => hb.same (hlt x (List.mem_append.2 (.inl hx)))) (fun x hx => hsp x (List.mem_append.2 (.inl hx))))
      (trodAll_stays hl hb (fun t ht => hr t (List.mem_cons_of_mem _ ht)) h2 (fun x hx => hlt x (List.mem_append.2 (.inr hx))) (fun x hx => hsp x (List.mem_append.2 (.inr hx))))
def rowB (P : Program) (f : Func) : Bool := f.params.toList.all fun t => P.readableRec t && decide (t < P.types.size)
/-- the call returned true and left all of old as it was -/
theorem law_post (hl : laidOutB P = true) {f : Func} {s : ChangeSpec} {apart fresh handsOn again : Bool} {W W' : World} {args : Array Value} {ds gs : List (DataW H)} {before : List MemPlace} {tb : TypeId} {rb : Bool}
    (hW : DataW.Whole enc P f.params.toList s.vars apart W args.toList ds gs before) (hvars : s.vars = []) (hrow : rowB P f = true) (hres : f.resultTypes = #[tb]) (hb0 : P.underlying tb = some .bool)
    (hfn : (s.fn H (ds ++ gs)).results = [.lit (.bool rb)]) (hargs : (s.fn H (ds ++ gs)).args = ds) (hv : (s.fn H (ds ++ gs)).vars = []) (hb : Below W.heap.size W W') :
    s.post enc P f apart fresh handsOn again W args (.bool rb) W' := by
  have hW' := hW
  obtain ⟨p, q, hA, hV, rfl, _, _⟩ := hW
  rw [hvars] at hV
  obtain ⟨rfl, rfl⟩ := trodVars_none hV
  have hlt : ∀ x ∈ p, x.block < W.heap.size := fun x hx => hW'.lt x (List.mem_append.2 (.inl hx))
  have hr : ∀ t ∈ f.params.toList, P.readableRec t = true ∧ t < P.types.size := fun t ht => by
    have := List.all_eq_true.1 hrow t ht
    simpa using this
  refine post_of_below (pa := p) (pv := []) hW' (fun b sp hd => ?_) (fun sp hsp => ?_) (fun sp _ => ?_) (by simp) hb ?_
  · rw [hfn, hres]
    exact trodAll_cons_mk (shut_bool hb0 _) trodAll_mk0
  · rw [hargs]
    exact trodAll_stays hl hb hr hA hlt (fun x hx => hsp x (List.mem_append.2 (.inl hx)))
  · rw [hvars, hv]
    exact rfl
  · exact ok_one hres rfl (okWide_bool_mk hb0 _)
end row
end Go.Proofs.Ytjpdcppdoonmdaa
end
/- part GO. PROVED HERE: a graph, as the row hands it over, lies in memory like GraphAt says; its sizes by the bulk. CONDITIONS: none. -/
section
namespace Go.Proofs.Ytjpdcppdoonmdaa
open Go.RowKit Go.WideShapes Go.ChangeShapes Go.ChangeAt Go.Deep
abbrev B0 (W : World) : Bs := ⟨(· < W.heap.size), W⟩
theorem cell_lt {w : World} {a : Addr} {v : Value} (h : w.cell? a = some v) : a.block < w.heap.size := by
  unfold World.cell? at h
  split at h
  · rename_i hb; exact lt_of_some hb
  · cases h
theorem cell_spot {w : World} {a : Addr} {v : Value} (h : w.cell? a = some v) : a.spot = none := by
  unfold World.cell? at h
  split at h
  · split at h
    · cases h
    · rename_i h0
      cases hs : a.spot with
      | none => rfl
      | some x => rw [hs] at h0; exact absurd rfl h0
  · cases h
theorem add_plain {a : Addr} (k : Nat) (h : a.spot = none) : a.add k = ⟨a.block, a.off + k, none⟩ := by
  obtain ⟨b, o, s⟩ := a
  cases h
  unfold Addr.add
  split
  · rename_i h0; subst h0; rfl
  · rfl
theorem bulk_get {H : Type} {D : Nat → DataW H} {n i : Nat} (hi : i < n) : Rows.uptoBulk (D i) ≤ Rows.uptoBulkAll ((List.range n).map D) := by
  have hm : D i ∈ (List.range n).map D := List.mem_map.2 ⟨i, List.mem_range.2 hi, rfl⟩
  generalize (List.range n).map D = l at hm
  induction l with
  | nil => cases hm
  | cons x r ih =>
    simp only [Rows.uptoBulkAll]
    rcases List.mem_cons.1 hm with e | hm
    · subst e; omega
    · have := ih hm; omega
theorem bulk_pos {H : Type} (d : DataW H) : 1 ≤ Rows.uptoBulk d := by
  cases d with
  | lit l => cases l <;> simp [Rows.uptoBulk]
  | nil => simp [Rows.uptoBulk]
  | ptr d => simp [Rows.uptoBulk]
  | slice elems spare => simp [Rows.uptoBulk]
  | agg parts => simp [Rows.uptoBulk]
  | iface t d => simp [Rows.uptoBulk]
  | map entries => simp [Rows.uptoBulk]
  | held h => simp [Rows.uptoBulk]
theorem bulk_len {H : Type} (l : List (DataW H)) : l.length ≤ Rows.uptoBulkAll l := by
  induction l with
  | nil => simp [Rows.uptoBulkAll]
  | cons x r ih => have := bulk_pos x; simp only [Rows.uptoBulkAll, List.length_cons]; omega
theorem bulk_mem {H : Type} {d : DataW H} {l : List (DataW H)} (h : d ∈ l) : Rows.uptoBulk d ≤ Rows.uptoBulkAll l := by
  induction l with
  | nil => cases h
  | cons x r ih =>
    simp only [Rows.uptoBulkAll]
    rcases List.mem_cons.1 h with e | h
    · subst e; omega
    · have := ih h; omega
section open_
variable {H : Type} {enc : TypeId × Value → H} {P : Program} {W : World} {sp : Nat → Bool}
/-- a slice whose elements are told by f: it lies in memory like a row of the base -/
theorem open_row {α : Type} [Inhabited α] {t e : TypeId} {size : Nat} {f : α → List Value} {Q : α → DataW H → Prop} (ht : P.underlying t = some (.slice e)) (hC : P.cellsOf e = size) (h0 : 0 < size)
    (hel : ∀ n cs x, DataW.trod enc P W 0 sp true n e cs = some x → ∃ a, cs = f a ∧ Q a x.1) (hf : ∀ a, (f a).length = size)
    {fuel : Nat} {cs : List Value} {x : DataW H × List MemPlace} (h : DataW.trod enc P W 0 sp true fuel t cs = some x) :
    ∃ A c, ∃ xs : List α, ∃ D : Nat → DataW H, cs = [.slice A xs.length c] ∧ xs.length ≤ c ∧ c ≤ maxLen ∧ RowB (B0 W) A (flatF (fun _ a => f a) 0 xs) ∧ (∀ i, i < xs.length → Q (xs.getD i default) (D i)) ∧
      Rows.uptoBulkAll ((List.range xs.length).map D) + 1 ≤ Rows.uptoBulk x.1 := by
  rcases open_slice ht h with ⟨hv, hx⟩ | ⟨a, len, cap, m, n, D, Pl, hcs, hb, hl, hm, hmm, hx, hi⟩
  · subst hv
    refine ⟨none, 0, [], fun _ => .nil, rfl, Nat.le_refl _, Nat.zero_le _, fun j v hj => by simp [flatF] at hj, fun i hi => absurd hi (Nat.not_lt_zero i), ?_⟩
    rw [hx]
    simp [Rows.uptoBulk, Rows.uptoBulkAll]
  · have hlm : len ≤ m := by rw [hmm]; split <;> omega
    have hch : ∀ i, ∃ b : α, i < len → (W.cells? 0 (a.add (i * P.cellsOf e)) (P.cellsOf e) = some (f b) ∧ Q b (D i)) := fun i => by
      by_cases hil : i < len
      · obtain ⟨cs', h1, h2⟩ := hi i (by omega)
        obtain ⟨b, rfl, h3⟩ := hel _ _ _ h2
        exact ⟨b, fun _ => ⟨h1, h3⟩⟩
      · exact ⟨default, fun h => absurd h hil⟩
    have hg := fun i => Classical.choose_spec (hch i)
    generalize hG : (fun i => Classical.choose (hch i)) = g at hg
    have hg : ∀ i, i < len → W.cells? 0 (a.add (i * P.cellsOf e)) (P.cellsOf e) = some (f (g i)) ∧ Q (g i) (D i) := fun i hi => by
      have h1 := hg i hi
      have h2 : Classical.choose (hch i) = g i := congrFun hG i
      rw [h2] at h1
      exact h1
    have hlen : ((List.range len).map g).length = len := by simp
    have hget : ∀ i, i < len → ((List.range len).map g)[i]? = some (g i) := fun i hi => by simp [hi]
    have hgetD : ∀ i, i < len → ((List.range len).map g).getD i default = g i := fun i hi => by rw [List.getD_eq_getElem?_getD, hget i hi]; rfl
    have hs1 : 0 < len → a.spot = none := fun hl0 => by
      obtain ⟨h2, -⟩ := hg 0 hl0
      rw [hC] at h2
      obtain ⟨_, hcl, hat⟩ := World.cells?_some h2
      have h3 := hat 0 h0
      rw [List.getElem?_eq_getElem (by rw [hcl]; exact h0)] at h3
      have e : (a.add (0 * size)).add 0 = a := by rw [Nat.zero_mul]; rfl
      rw [e] at h3
      exact cell_spot h3
    refine ⟨some a, cap, (List.range len).map g, D, by rw [hlen]; exact hcs, by rw [hlen]; exact hl, hm, fun j v hj => ?_, fun i hi' => ?_, ?_⟩
    · have hfl := flatF_len (f := fun _ a => f a) (s := size) (fun _ a => hf a) ((List.range len).map g) 0
      have hjl := len_of_some hj
      rw [hfl, hlen] at hjl
      have hj1 : j / size < len := (Nat.div_lt_iff_lt_mul h0).2 hjl
      have hj2 : j % size < size := Nat.mod_lt _ h0
      have e := Nat.div_add_mod j size
      rw [Nat.mul_comm] at e
      have h1 := flatF_get (f := fun _ a => f a) (s := size) (fun _ a => hf a) _ 0 _ (j % size) _ (hget _ hj1) hj2
      rw [e, hj] at h1
      obtain ⟨h2, -⟩ := hg _ hj1
      rw [hC] at h2
      obtain ⟨_, _, hat⟩ := World.cells?_some h2
      have h3 := hat _ hj2
      rw [← h1] at h3
      have hs1 := hs1 (Nat.lt_of_le_of_lt (Nat.zero_le _) hj1)
      rw [add_plain _ hs1] at h3
      rw [add_plain (a := ⟨a.block, a.off + j / size * size, none⟩) _ rfl] at h3
      have e2 : a.off + j / size * size + j % size = a.off + j := by omega
      have h4 : W.cell? ⟨a.block, a.off + j, none⟩ = some v := by rw [← e2]; exact h3
      have ea : (some a : Option Addr) = some ⟨blkOf (some a), offOf (some a), none⟩ := by
        obtain ⟨b, o, s⟩ := a
        cases hs1
        rfl
      exact ⟨ea, cell_lt h4, h4⟩
    · rw [hlen] at hi'
      rw [hgetD i hi']
      exact (hg i hi').2
    · rw [hx, hlen]
      simp only [Rows.uptoBulk]
      omega
theorem open_u8 {t : TypeId} {n : Nat} {cs : List Value} {x : DataW H × List MemPlace} (ht : P.underlying t = some (.int .u8)) (h : DataW.trod enc P W 0 sp true n t cs = some x) : ∃ b : UInt8, cs = [byteV b] ∧ True := by
  obtain ⟨z, h1, _, h3⟩ := DataW.trod_int ht h
  have h4 : 0 ≤ z ∧ z ≤ 255 := by simpa [Lit.wf, IntKind.min, IntKind.max, IntKind.signed, IntKind.bits] using h3
  refine ⟨UInt8.ofNat z.toNat, ?_, trivial⟩
  have e : (((UInt8.ofNat z.toNat).toNat : Nat) : Int) = z := by
    rw [UInt8.toNat_ofNat']
    omega
  rw [byteV, e]
  exact h1
def I64 (z : Int) : Prop := -9223372036854775808 ≤ z ∧ z ≤ 9223372036854775807
theorem i64_of {z : Int} (h : (Lit.int .i64 z).wf = true) : I64 z := by
  unfold I64
  simpa [Lit.wf, IntKind.min, IntKind.max, IntKind.signed, IntKind.bits] using h
theorem open_i64 {t : TypeId} {n : Nat} {c : Value} {x : DataW H × List MemPlace} (ht : P.underlying t = some (.int .i64)) (h : DataW.trod enc P W 0 sp true n t [c] = some x) : ∃ z, c = .int .i64 z ∧ I64 z := by
  obtain ⟨z, h1, _, h3⟩ := DataW.trod_int ht h
  cases h1
  exact ⟨z, rfl, by unfold I64; simpa [Lit.wf, IntKind.min, IntKind.max, IntKind.signed, IntKind.bits] using h3⟩
set_option maxRecDepth 100000 in
theorem open_str {t : TypeId} {n : Nat} {c : Value} {x : DataW H × List MemPlace} (ht : P.underlying t = some .string) (h : DataW.trod enc P W 0 sp true n t [c] = some x) : ∃ s : ByteArray, c = .string s ∧ s.size + 1 ≤ Rows.uptoBulk x.1 := by
  obtain ⟨s, h1, h2, _⟩ := DataW.trod_string ht h
  cases h1
  refine ⟨s, rfl, ?_⟩
  rw [h2]
  simp only [Rows.uptoBulk, Array.length_toList]
  exact Nat.le_refl _
end open_
section graph
variable {H : Type} {enc : TypeId × Value → H} {W : World} {sp : Nat → Bool}
theorem bytes_flat : ∀ (d : List UInt8) (k : Nat), flatF (fun _ b => [byteV b]) k d = bytesV d
  | [], _ => rfl
  | b :: r, k => by rw [flatF, bytes_flat r (k + 1)]; rfl
set_option maxRecDepth 100000 in
theorem open_bytes {n : Nat} {c : Value} {x : DataW H × List MemPlace} (h : DataW.trod enc Try.prog W 0 sp true n 29 [c] = some x) :
    ∃ A cp, ∃ d : List UInt8, c = .slice A d.length cp ∧ BytesAt (B0 W) A d ∧ d.length + 1 ≤ Rows.uptoBulk x.1 := by
  obtain ⟨A, cp, xs, D, h1, _, _, h2, _, h3⟩ := open_row (α := UInt8) (f := fun b => [byteV b]) (Q := fun _ _ => True) Try.underlying29 (size := 1) (by kernel_rfl) (by decide) (fun n cs x h => open_u8 Try.underlying5 h) (fun _ => rfl) h
  cases h1
  have := bulk_len ((List.range xs.length).map D)
  refine ⟨A, cp, xs, rfl, ?_, by simp at this; omega⟩
  rw [bytes_flat] at h2
  exact h2
structure EntB (e : EntM) (b : Nat) : Prop where
  id : I64 e.id
  name : e.name.size + 1 ≤ b
theorem trod_field {n : Nat} {cs : List Value} {xs : List (DataW H × List MemPlace)} {i : Nat} {t : TypeId} (h : DataW.trod enc Try.prog W 0 sp true n t cs = xs[i]?) (hi : i < xs.length) : DataW.trod enc Try.prog W 0 sp true n t cs = some xs[i] ∧ Rows.uptoBulk (xs[i]).1 ≤ Rows.uptoBulk (.agg (xs.map (·.1))) := by
  refine ⟨h.trans (List.getElem?_eq_getElem hi), ?_⟩
  have hm : (xs[i]).1 ∈ xs.map (·.1) := List.mem_map.2 ⟨xs[i], List.getElem_mem hi, rfl⟩
  have := bulk_mem hm
  simp only [Rows.uptoBulk]
  omega
set_option maxRecDepth 100000 in
theorem open_ent {n : Nat} {cs : List Value} {x : DataW H × List MemPlace} (h : DataW.trod enc Try.prog W 0 sp true n 72 cs = some x) : ∃ e : EntM, cs = entV e ∧ EntB e (Rows.uptoBulk x.1) := by
  obtain ⟨ys, m, _, hx, hl, hyl, hf⟩ := DataW.trod_struct Try.underlying72 h
  have hC : Try.prog.cellsOf 72 = 2 := by kernel_rfl
  rw [hC] at hl
  match cs, hl with
  | [c0, c1], _ =>
    obtain ⟨h0, b0⟩ := trod_field (hf 0 _ rfl) (by rw [hyl]; decide)
    obtain ⟨h1, _⟩ := trod_field (hf 1 _ rfl) (by rw [hyl]; decide)
    obtain ⟨s, rfl, hs⟩ := open_str Try.underlying9 h0
    obtain ⟨z, rfl, hz⟩ := open_i64 Try.underlying3 h1
    exact ⟨⟨s, z⟩, rfl, ⟨hz, by rw [hx]; exact Nat.le_trans hs b0⟩⟩
set_option maxRecDepth 100000 in
theorem open_ents {n : Nat} {c : Value} {x : DataW H × List MemPlace} (h : DataW.trod enc Try.prog W 0 sp true n 30 [c] = some x) :
    ∃ A cp, ∃ es : List EntM, c = .slice A es.length cp ∧ EntsAt (B0 W) A es ∧ es.length + 1 ≤ Rows.uptoBulk x.1 ∧ ∀ i, i < es.length → EntB (en es i) (Rows.uptoBulk x.1) := by
  obtain ⟨A, cp, xs, D, h1, _, _, h2, h4, h3⟩ := open_row (α := EntM) (f := entV) (Q := fun e d => EntB e (Rows.uptoBulk d)) Try.underlying30 (size := 2) (by kernel_rfl) (by decide) (fun n cs x h => open_ent h) (fun _ => rfl) h
  cases h1
  have h5 := bulk_len ((List.range xs.length).map D)
  refine ⟨A, cp, xs, rfl, h2, by simp at h5; omega, fun i hi => ⟨(h4 i hi).id, ?_⟩⟩
  have h6 := (h4 i hi).name
  have h7 := bulk_get (D := D) hi
  unfold en
  omega
structure NodeB (nd : NodeM) (b : Nat) : Prop where
  ids : I64 nd.id ∧ I64 nd.kind ∧ I64 nd.mode ∧ I64 nd.uid ∧ I64 nd.gid ∧ I64 nd.sec ∧ I64 nd.nano
  data : nd.data.length + 1 ≤ b
  target : nd.target.size + 1 ≤ b
  ents : nd.ents.length + 1 ≤ b
  ent : ∀ i, i < nd.ents.length → EntB (en nd.ents i) b
structure NodeL where
  n : NodeM
  dA : Option Addr
  dC : Nat
  eA : Option Addr
  eC : Nat
deriving Inhabited
def nlV (a : NodeL) : List Value := [.int .i64 a.n.id, .int .i64 a.n.kind, .int .i64 a.n.mode, .int .i64 a.n.uid, .int .i64 a.n.gid, .int .i64 a.n.sec, .int .i64 a.n.nano, .slice a.dA a.n.data.length a.dC, .string a.n.target, .slice a.eA a.n.ents.length a.eC]
structure NodeQ (W : World) (a : NodeL) (b : Nat) : Prop where
  nb : NodeB a.n b
  data : BytesAt (B0 W) a.dA a.n.data
  ents : EntsAt (B0 W) a.eA a.n.ents
set_option maxRecDepth 100000 in
theorem open_node {n : Nat} {cs : List Value} {x : DataW H × List MemPlace} (h : DataW.trod enc Try.prog W 0 sp true n 32 cs = some x) : ∃ a : NodeL, cs = nlV a ∧ NodeQ W a (Rows.uptoBulk x.1) := by
  obtain ⟨ys, m, _, hx, hl, hyl, hf⟩ := DataW.trod_struct Try.underlying32 h
  have hC : Try.prog.cellsOf 32 = 10 := by kernel_rfl
  rw [hC] at hl
  match cs, hl with
  | [c0, c1, c2, c3, c4, c5, c6, c7, c8, c9], _ =>
    obtain ⟨h0, _⟩ := trod_field (hf 0 _ rfl) (by rw [hyl]; decide)
    obtain ⟨h1, _⟩ := trod_field (hf 1 _ rfl) (by rw [hyl]; decide)
    obtain ⟨h2, _⟩ := trod_field (hf 2 _ rfl) (by rw [hyl]; decide)
    obtain ⟨h3, _⟩ := trod_field (hf 3 _ rfl) (by rw [hyl]; decide)
    obtain ⟨h4, _⟩ := trod_field (hf 4 _ rfl) (by rw [hyl]; decide)
    obtain ⟨h5, _⟩ := trod_field (hf 5 _ rfl) (by rw [hyl]; decide)
    obtain ⟨h6, b6⟩ := trod_field (hf 6 _ rfl) (by rw [hyl]; decide)
    obtain ⟨h7, b7⟩ := trod_field (hf 7 _ rfl) (by rw [hyl]; decide)
    obtain ⟨h8, b8⟩ := trod_field (hf 8 _ rfl) (by rw [hyl]; decide)
    obtain ⟨z0, rfl, w0⟩ := open_i64 Try.underlying3 h0
    obtain ⟨z1, rfl, w1⟩ := open_i64 Try.underlying3 h1
    obtain ⟨z2, rfl, w2⟩ := open_i64 Try.underlying3 h2
    obtain ⟨z3, rfl, w3⟩ := open_i64 Try.underlying3 h3
    obtain ⟨z4, rfl, w4⟩ := open_i64 Try.underlying3 h4
    obtain ⟨us, _, _, _, _, hul, hu⟩ := DataW.trod_struct Try.underlying28 h5
    obtain ⟨g0, _⟩ := trod_field (hu 0 _ rfl) (by rw [hul]; decide)
    obtain ⟨g1, _⟩ := trod_field (hu 1 _ rfl) (by rw [hul]; decide)
    obtain ⟨z5, rfl, w5⟩ := open_i64 (c := c5) Try.underlying3 g0
    obtain ⟨z6, rfl, w6⟩ := open_i64 (c := c6) Try.underlying3 g1
    obtain ⟨A7, p7, d7, rfl, q7, l7⟩ := open_bytes (c := c7) h6
    obtain ⟨s8, rfl, l8⟩ := open_str (c := c8) Try.underlying9 h7
    obtain ⟨A9, p9, e9, rfl, q9, l9, k9⟩ := open_ents (c := c9) h8
    rw [hx]
    exact ⟨⟨⟨z0, z1, z2, z3, z4, z5, z6, d7, s8, e9⟩, A7, p7, A9, p9⟩, rfl, ⟨⟨w0, w1, w2, w3, w4, w5, w6⟩, Nat.le_trans l7 b6, Nat.le_trans l8 b7, Nat.le_trans l9 b8, fun i hi => ⟨(k9 i hi).id, Nat.le_trans (k9 i hi).name b8⟩⟩, q7, q9⟩
/-- what the law is told of a graph -/
structure GraphB (ns : List NodeM) (b : Nat) : Prop where
  len : ns.length + 1 ≤ b
  node : ∀ i, i < ns.length → NodeB (nd ns i) b
theorem nodes_flat (L : Lay) : ∀ (xs : List NodeL) (k : Nat), (∀ i, i < xs.length → L.dA (k + i) = (xs.getD i default).dA ∧ L.dC (k + i) = (xs.getD i default).dC ∧ L.eA (k + i) = (xs.getD i default).eA ∧ L.eC (k + i) = (xs.getD i default).eC) → flatF (fun _ a => nlV a) k xs = flatF (nodeV L) k (xs.map (·.n))
  | [], _, _ => rfl
  | a :: r, k, h => by
    obtain ⟨h1, h2, h3, h4⟩ := h 0 (by simp)
    simp only [Nat.add_zero, List.getD_cons_zero] at h1 h2 h3 h4
    rw [flatF, List.map_cons, flatF, nodes_flat L r (k + 1) (fun i hi => by
      have := h (i + 1) (by simp; omega)
      rw [List.getD_cons_succ] at this
      have e : k + (i + 1) = k + 1 + i := by omega
      rw [e] at this
      exact this)]
    rw [nodeV, h1, h2, h3, h4]
    rfl
set_option maxRecDepth 100000 in
theorem open_nodes {n : Nat} {c : Value} {x : DataW H × List MemPlace} (h : DataW.trod enc Try.prog W 0 sp true n 22 [c] = some x) :
    ∃ A cp, ∃ ns : List NodeM, ∃ L : Lay, c = .slice A ns.length cp ∧ GraphAt (B0 W) A ns L ∧ GraphB ns (Rows.uptoBulk x.1) := by
  obtain ⟨A, cp, xs, D, h1, _, _, h2, h4, h3⟩ := open_row (α := NodeL) (f := nlV) (Q := fun a d => NodeQ W a (Rows.uptoBulk d)) Try.underlying22 (size := 10) (by kernel_rfl) (by decide) (fun n cs x h => open_node h) (fun _ => rfl) h
  cases h1
  have h5 := bulk_len ((List.range xs.length).map D)
  have e : (xs.map (·.n)).length = xs.length := by simp
  have hnd : ∀ i, i < xs.length → nd (xs.map (·.n)) i = (xs.getD i default).n := fun i hi => by
    simp [nd, List.getD_eq_getElem?_getD, hi]
  refine ⟨A, cp, xs.map (·.n), ⟨fun i => (xs.getD i default).dA, fun i => (xs.getD i default).eA, fun i => (xs.getD i default).dC, fun i => (xs.getD i default).eC⟩, by rw [e], ⟨?_, fun i hi => ?_, fun i hi => ?_⟩, by simp at h5; rw [e]; omega, fun i hi => ?_⟩
  · rw [nodes_flat ⟨fun i => (xs.getD i default).dA, fun i => (xs.getD i default).eA, fun i => (xs.getD i default).dC, fun i => (xs.getD i default).eC⟩ xs 0 (fun i _ => by rw [Nat.zero_add]; exact ⟨rfl, rfl, rfl, rfl⟩)] at h2
    exact h2
  · rw [e] at hi
    rw [hnd i hi]
    exact (h4 i hi).data
  · rw [e] at hi
    rw [hnd i hi]
    exact (h4 i hi).ents
  · rw [e] at hi
    rw [hnd i hi]
    have h7 := bulk_get (D := D) hi
    have h8 := (h4 i hi).nb
    exact ⟨h8.ids, by have := h8.data; omega, by have := h8.target; omega, by have := h8.ents; omega, fun j hj => ⟨(h8.ent j hj).id, by have := (h8.ent j hj).name; omega⟩⟩
set_option maxRecDepth 100000 in
theorem open_graph {v : Value} {d : DataW H} {ps : List MemPlace} {r : Reach} {b0 : Nat} (hval : Value.okWide Try.prog W r b0 24 v) (h : DataW.Trod enc Try.prog W 0 sp true 24 v d ps) :
    ∃ A cp, ∃ ns : List NodeM, ∃ L : Lay, v = .agg #[.slice A ns.length cp] ∧ GraphAt (B0 W) A ns L ∧ GraphB ns (Rows.uptoBulk d) := by
  obtain ⟨cs, rfl, hcs⟩ := okWide_struct Try.underlying24 hval
  obtain ⟨fuel, h⟩ := h
  obtain ⟨ys, m, _, hx, hl, hyl, hf⟩ := DataW.trod_struct Try.underlying24 h
  have hC : Try.prog.cellsOf 24 = 1 := by kernel_rfl
  rw [hC] at hcs
  obtain ⟨cs⟩ := cs
  match cs, hcs with
  | [c], _ =>
    obtain ⟨h0, b0⟩ := trod_field (hf 0 _ rfl) (by rw [hyl]; decide)
    obtain ⟨A, cp, ns, L, rfl, h1, h2⟩ := open_nodes (c := c) h0
    cases hx
    exact ⟨A, cp, ns, L, rfl, h1, ⟨Nat.le_trans h2.len b0, fun i hi => by
      have := h2.node i hi
      exact ⟨this.ids, Nat.le_trans this.data b0, Nat.le_trans this.target b0, Nat.le_trans this.ents b0, fun j hj => ⟨(this.ent j hj).id, Nat.le_trans (this.ent j hj).name b0⟩⟩⟩⟩
end graph
end Go.Proofs.Ytjpdcppdoonmdaa
end
/- part GRef. PROVED HERE: the reference checks a graph CONDITIONS: as the theorems say. Printed by a program of this repo (wip/v). -/
section
namespace Go.Proofs.Ytjpdcppdoonmdaa
open Go.RowKit
attribute [local irreducible] TriL TriLQ Tri TriQ
set_option maxRecDepth 100000 in
set_option maxHeartbeats 4000000 in
theorem sp_refCheck {β : Bs} (A : Option Addr) (c : Nat) (ns : List NodeM) (L : Lay) (hG : GraphAt β A ns L) (hl : ns.length ≤ 1048576) (hd : ∀ i, i < ns.length → (nd ns i).data.length ≤ 1048576 ∧ (nd ns i).ents.length ≤ 1048576) (_ : ∀ i, i < ns.length → ∀ j, j < (nd ns i).ents.length → -9223372036854775808 ≤ (ent ns i j).id ∧ (ent ns i j).id ≤ 9223372036854775807) (hnm : ∀ i, i < ns.length → ∀ j, j < (nd ns i).ents.length → (ent ns i j).name.size ≤ 1048576) (ht : ∀ i, i < ns.length → (nd ns i).target.size ≤ 1048576) :
    Spec Try.prog β 16 #[.agg #[.slice A ns.length c]] [] (fun v l => v = .int .i64 (if GraphOk ns then 0 else 140) ∧ l = []) := by
 refine Spec.enter Try.func16 rfl Try.ntmps16 (Nat.le_of_ble_eq_true rfl) (fun R => ?_)
 refine Tri.seq (Tri.region ?_)
 refine TriL.segN (k' := 2) (fr' := fun b1 => [(1, .pointer (some ⟨b1, 0, none⟩))]) (hps' := fun b1 => [.abs R, .blk b1 [.slice A (ns.length) (c)] 24]) (obl := fun b1 => []) [o_, o_] [1] [0, 1] (fun _ _ => by kernel_rfl) (fun b1 => trivial) (fun b1 => ?_)
 refine TriL.nil (by kernel_rfl) (TriQ.next (Tri.seq (Tri.seq (Tri.region ?_))))
 refine TriL.segK (k' := 4) (fr' := [(1, .pointer (some ⟨b1, 0, none⟩)), (18, .bool (decide ((((ns.length : Nat) : Int) : Int) > (4096 : Int))))]) (obl := [b1 = b1]) [o_, ⟨[.at 1], none, none, none, none⟩, o_, o_] [1, 18] (fun _ _ => by kernel_rfl) ⟨rfl, trivial⟩ ?_
 refine TriL.nil (by kernel_rfl) (TriQ.next ?_)
 refine Tri.condP (p := (((ns.length : Nat) : Int) : Int) > (4096 : Int)) (fun _ => by kernel_rfl) (fun h18 => ?_) (fun h18 => ?_)
 ·
  refine Tri.seq (Tri.region ?_)
  refine TriL.segK (k' := 1) (fr' := [(2, .int .i64 140)]) (obl := []) [o_] [2] (fun _ _ => by kernel_rfl) trivial ?_
  refine TriL.nil (by kernel_rfl) (TriQ.next (Tri.ret (TriQ.passRet ?_)))
  exact TriQ.ret (v := .int .i64 140) (l := []) (obl := []) [] [0] (fun _ => by kernel_rfl) trivial rfl (by kernel_rfl) (⟨congrArg (Value.int .i64) (if_neg (c := GraphOk ns) (fun h => by have := h.len; omega)).symm, rfl⟩)
 ·
  refine Tri.skip (TriQ.next (Tri.seq (Tri.region ?_)))
  refine TriL.segK (k' := 1) (fr' := [(1, .pointer (some ⟨b1, 0, none⟩)), (3, .int .i64 0)]) (obl := []) [o_] [1, 3] (fun _ _ => by kernel_rfl) trivial ?_
  refine TriL.nil (by kernel_rfl) (TriQ.next (Tri.seq (Tri.seq (Tri.region ?_))))
  refine TriL.segK (k' := 1) (fr' := [(1, .pointer (some ⟨b1, 0, none⟩)), (3, .int .i64 0), (4, .int .i64 0)]) (obl := []) [o_] [1, 3, 4] (fun _ _ => by kernel_rfl) trivial ?_
  refine TriL.nil (by kernel_rfl) (TriQ.next (Tri.block ?_))
  refine Tri.loop (ι := Nat) (fun (k : Nat) => (k ≤ ns.length) ∧ (Upto ns k) ∧ (entSum ns k ≤ k * 1048576)) (fun (k : Nat) => ns.length - k) (fun (k : Nat) => [(1, .pointer (some ⟨b1, 0, none⟩)), (3, .int .i64 ↑(entSum ns k)), (4, .int .i64 ↑k)]) (fun (k : Nat) => [.blk b1 [.slice A (ns.length) (c)] 24, .abs R]) 0 (idx := [1, 3, 4]) (pk := [1, 0]) (show (0 ≤ ns.length) ∧ (Upto ns 0) ∧ (entSum ns 0 ≤ 0 * 1048576) from ⟨Nat.zero_le _, Upto.zero ns, Nat.zero_le _⟩) (fun _ => by kernel_rfl) rfl (by kernel_rfl) ?_
  rintro k ⟨hk, hu, hs⟩
  show Tri _ _ _ _ [(1, .pointer (some ⟨b1, 0, none⟩)), (3, .int .i64 ↑(entSum ns k)), (4, .int .i64 ↑k)] [.blk b1 [.slice A (ns.length) (c)] 24, .abs R] _
  have hk4 := (hd k)
  refine Tri.seq (Tri.seq (Tri.region ?_))
  refine TriL.segK (k' := 5) (fr' := [(1, .pointer (some ⟨b1, 0, none⟩)), (3, .int .i64 ↑(entSum ns k)), (4, .int .i64 ↑k), (23, .bool (decide ((((k : Nat) : Int) : Int) < (((ns.length : Nat) : Int) : Int))))]) (obl := [b1 = b1]) [o_, o_, ⟨[.at 0], none, none, none, none⟩, o_, o_] [1, 3, 4, 23] (fun _ _ => by kernel_rfl) ⟨rfl, trivial⟩ ?_
  refine TriL.nil (by kernel_rfl) (TriQ.next ?_)
  refine Tri.condP (p := (((k : Nat) : Int) : Int) < (((ns.length : Nat) : Int) : Int)) (fun _ => by kernel_rfl) (fun h23 => ?_) (fun h23 => ?_)
  ·
   refine Tri.skip (TriQ.next (Tri.seq (Tri.block (Tri.seq (Tri.region ?_)))))
   refine TriL.segN (k' := 7) (fr' := fun b2 => [(1, .pointer (some ⟨b1, 0, none⟩)), (3, .int .i64 ↑(entSum ns k)), (4, .int .i64 ↑k), (5, .pointer (some ⟨b2, 0, none⟩))]) (hps' := fun b2 => [.blk b1 [.slice A (ns.length) (c)] 24, .abs R, .blk b2 [.int .i64 ((nd ns k).id), .int .i64 ((nd ns k).kind), .int .i64 ((nd ns k).mode), .int .i64 ((nd ns k).uid), .int .i64 ((nd ns k).gid), .int .i64 ((nd ns k).sec), .int .i64 ((nd ns k).nano), .slice (L.dA k) ((nd ns k).data.length) ((L.dC k)), .string (nd ns k).target, .slice (L.eA k) ((nd ns k).ents.length) ((L.eC k))] 32]) (obl := fun b2 => [b2 = b2, b2 = b2, b2 = b2, b2 = b2, b2 = b2, b2 = b2, b2 = b2, b2 = b2, b2 = b2, b2 = b2, (Rd β ⟨(blkOf A), offOf A + k * 10 + 9, none⟩ (.slice (L.eA k) ((nd ns k).ents.length) ((L.eC k)))), (Rd β ⟨(blkOf A), offOf A + k * 10 + 8, none⟩ (.string (nd ns k).target)), (Rd β ⟨(blkOf A), offOf A + k * 10 + 7, none⟩ (.slice (L.dA k) ((nd ns k).data.length) ((L.dC k)))), (Rd β ⟨(blkOf A), offOf A + k * 10 + 6, none⟩ (.int .i64 ((nd ns k).nano))), (Rd β ⟨(blkOf A), offOf A + k * 10 + 5, none⟩ (.int .i64 ((nd ns k).sec))), (Rd β ⟨(blkOf A), offOf A + k * 10 + 4, none⟩ (.int .i64 ((nd ns k).gid))), (Rd β ⟨(blkOf A), offOf A + k * 10 + 3, none⟩ (.int .i64 ((nd ns k).uid))), (Rd β ⟨(blkOf A), offOf A + k * 10 + 2, none⟩ (.int .i64 ((nd ns k).mode))), (Rd β ⟨(blkOf A), offOf A + k * 10 + 1, none⟩ (.int .i64 ((nd ns k).kind))), (Rd β ⟨(blkOf A), offOf A + k * 10, none⟩ (.int .i64 ((nd ns k).id))), ((k : Nat) : Int) = ((k : Nat) : Int), k < ns.length, (⟨(blkOf A), offOf A, none⟩ : Addr).spot = none, (A : Option Addr) = some ⟨(blkOf A), offOf A, none⟩, b1 = b1]) [o_, ⟨[.at 0], none, none, none, none⟩, o_, ⟨[], some k, none, some ⟨(blkOf A), offOf A, none⟩, none⟩, ⟨[.old (.int .i64 ((nd ns k).id)), .old (.int .i64 ((nd ns k).kind)), .old (.int .i64 ((nd ns k).mode)), .old (.int .i64 ((nd ns k).uid)), .old (.int .i64 ((nd ns k).gid)), .old (.int .i64 ((nd ns k).sec)), .old (.int .i64 ((nd ns k).nano)), .old (.slice (L.dA k) ((nd ns k).data.length) ((L.dC k))), .old (.string (nd ns k).target), .old (.slice (L.eA k) ((nd ns k).ents.length) ((L.eC k)))], none, none, none, none⟩, o_, ⟨[.at 2, .at 2, .at 2, .at 2, .at 2, .at 2, .at 2, .at 2, .at 2, .at 2], none, none, none, none⟩] [1, 3, 4, 5] [0, 1, 2] (fun _ _ => by kernel_rfl) (fun b2 => ⟨rfl, rfl, rfl, rfl, rfl, rfl, rfl, rfl, rfl, rfl, GraphAt.rd hG (i := k) (by omega) (j := 9) rfl, GraphAt.rd hG (i := k) (by omega) (j := 8) rfl, GraphAt.rd hG (i := k) (by omega) (j := 7) rfl, GraphAt.rd hG (i := k) (by omega) (j := 6) rfl, GraphAt.rd hG (i := k) (by omega) (j := 5) rfl, GraphAt.rd hG (i := k) (by omega) (j := 4) rfl, GraphAt.rd hG (i := k) (by omega) (j := 3) rfl, GraphAt.rd hG (i := k) (by omega) (j := 2) rfl, GraphAt.rd hG (i := k) (by omega) (j := 1) rfl, GraphAt.rd hG (i := k) (by omega) (j := 0) rfl, rfl, by omega, rfl, GraphAt.hd hG (i := k) (by omega), rfl, trivial⟩) (fun b2 => ?_)
   refine TriL.nil (by kernel_rfl) (TriQ.next (Tri.seq (Tri.seq ?_)))
   refine Tri.regionQ (by kernel_rfl) (by kernel_rfl) ?_
   refine TriLQ.seg (k' := 4) (fr' := [(1, .pointer (some ⟨b1, 0, none⟩)), (3, .int .i64 ↑(entSum ns k)), (4, .int .i64 ↑k), (5, .pointer (some ⟨b2, 0, none⟩)), (34, .bool (decide (((nd ns k).id : Int) < (1 : Int))))]) (obl := [b2 = b2]) [o_, ⟨[.at 2], none, none, none, none⟩, o_, o_] [1, 3, 4, 5, 34] (fun _ _ => by kernel_rfl) ⟨rfl, trivial⟩ ?_
   refine TriLQ.slotP 34 (((nd ns k).id : Int) < (1 : Int)) (fun _ => by kernel_rfl) (fun h34 => ?_) (fun h34 => ?_)
   ·
    refine TriLQ.seg (k' := 29) (fr' := [(1, .pointer (some ⟨b1, 0, none⟩)), (3, .int .i64 ↑(entSum ns k)), (4, .int .i64 ↑k), (5, .pointer (some ⟨b2, 0, none⟩)), (59, .bool true)]) (obl := []) [o_, o_, o_, o_, o_, o_, o_, o_, o_, o_, o_, o_, o_, o_, o_, o_, o_, o_, o_, o_, o_, o_, o_, o_, o_] [1, 3, 4, 5, 59] (fun _ _ => by kernel_rfl) trivial ?_
    refine TriLQ.nil (by kernel_rfl) (TriQ.next ?_)
    refine Tri.condT (fun _ => by kernel_rfl) ?_
    refine Tri.seq (Tri.region ?_)
    refine TriL.segK (k' := 1) (fr' := [(2, .int .i64 140)]) (obl := []) [o_] [2] (fun _ _ => by kernel_rfl) trivial ?_
    refine TriL.nil (by kernel_rfl) (TriQ.next (Tri.ret (TriQ.passRet (TriQ.blockRet (TriQ.passRet (TriQ.passRet (TriQ.blockRet (TriQ.passRet ?_))))))))
    exact TriQ.ret (v := .int .i64 140) (l := []) (obl := []) [] [1] (fun _ => by kernel_rfl) trivial rfl (by kernel_rfl) (⟨congrArg (Value.int .i64) (if_neg (c := GraphOk ns) (fun h => by have := (h.ids k (by omega)).1; omega)).symm, rfl⟩)
   ·
    refine TriLQ.seg (k' := 9) (fr' := [(1, .pointer (some ⟨b1, 0, none⟩)), (3, .int .i64 ↑(entSum ns k)), (4, .int .i64 ↑k), (5, .pointer (some ⟨b2, 0, none⟩)), (39, .bool (decide (((nd ns k).id : Int) > (1099511627776 : Int))))]) (obl := [b2 = b2]) [o_, ⟨[.at 2], none, none, none, none⟩, o_, o_, o_] [1, 3, 4, 5, 39] (fun _ _ => by kernel_rfl) ⟨rfl, trivial⟩ ?_
    refine TriLQ.slotP 39 (((nd ns k).id : Int) > (1099511627776 : Int)) (fun _ => by kernel_rfl) (fun h39 => ?_) (fun h39 => ?_)
    ·
     refine TriLQ.seg (k' := 29) (fr' := [(1, .pointer (some ⟨b1, 0, none⟩)), (3, .int .i64 ↑(entSum ns k)), (4, .int .i64 ↑k), (5, .pointer (some ⟨b2, 0, none⟩)), (59, .bool true)]) (obl := []) [o_, o_, o_, o_, o_, o_, o_, o_, o_, o_, o_, o_, o_, o_, o_, o_, o_, o_, o_, o_] [1, 3, 4, 5, 59] (fun _ _ => by kernel_rfl) trivial ?_
     refine TriLQ.nil (by kernel_rfl) (TriQ.next ?_)
     refine Tri.condT (fun _ => by kernel_rfl) ?_
     refine Tri.seq (Tri.region ?_)
     refine TriL.segK (k' := 1) (fr' := [(2, .int .i64 140)]) (obl := []) [o_] [2] (fun _ _ => by kernel_rfl) trivial ?_
     refine TriL.nil (by kernel_rfl) (TriQ.next (Tri.ret (TriQ.passRet (TriQ.blockRet (TriQ.passRet (TriQ.passRet (TriQ.blockRet (TriQ.passRet ?_))))))))
     exact TriQ.ret (v := .int .i64 140) (l := []) (obl := []) [] [1] (fun _ => by kernel_rfl) trivial rfl (by kernel_rfl) (⟨congrArg (Value.int .i64) (if_neg (c := GraphOk ns) (fun h => by have := (h.ids k (by omega)).2; omega)).symm, rfl⟩)
    ·
     refine TriLQ.seg (k' := 12) (fr' := [(1, .pointer (some ⟨b1, 0, none⟩)), (3, .int .i64 ↑(entSum ns k)), (4, .int .i64 ↑k), (5, .pointer (some ⟨b2, 0, none⟩)), (39, .bool false), (42, .bool (decide ((((k : Nat) : Int) : Int) > (0 : Int))))]) (obl := []) [o_, o_, o_] [1, 3, 4, 5, 39, 42] (fun _ _ => by kernel_rfl) trivial ?_
     refine TriLQ.slotP 42 ((((k : Nat) : Int) : Int) > (0 : Int)) (fun _ => by kernel_rfl) (fun h42 => ?_) (fun h42 => ?_)
     ·
      refine TriLQ.seg (k' := 25) (fr' := [(1, .pointer (some ⟨b1, 0, none⟩)), (3, .int .i64 ↑(entSum ns k)), (4, .int .i64 ↑k), (5, .pointer (some ⟨b2, 0, none⟩)), (55, .bool (decide (((nd ns k).id : Int) ≤ ((nd ns (k - 1)).id : Int))))]) (obl := [(Rd β ⟨(blkOf A), offOf A + (k - 1) * 10, none⟩ (.int .i64 ((nd ns (k - 1)).id))), (((k - 1) : Nat) : Int) = (((k - 1) : Nat) : Int), (k - 1) < ns.length, (⟨(blkOf A), offOf A, none⟩ : Addr).spot = none, (A : Option Addr) = some ⟨(blkOf A), offOf A, none⟩, (Value.int .i64 (IntKind.wrap .i64 (((k : Nat) : Int) - 1))) = (.int .i64 ↑(k - 1)), b1 = b1, b2 = b2]) [o_, ⟨[.at 2], none, none, none, none⟩, o_, ⟨[.at 0], none, none, none, none⟩, o_, ⟨[], none, none, none, some (.int .i64 ↑(k - 1))⟩, ⟨[], some (k - 1), none, some ⟨(blkOf A), offOf A, none⟩, none⟩, o_, ⟨[.old (.int .i64 ((nd ns (k - 1)).id))], none, none, none, none⟩, o_, o_, o_, o_] [1, 3, 4, 5, 55] (fun _ _ => by kernel_rfl) ⟨GraphAt.rd hG (i := (k - 1)) (by omega) (j := 0) rfl, rfl, by omega, rfl, GraphAt.hd hG (i := (k - 1)) (by omega), wrapEq (by omega) (by omega) (by omega), rfl, rfl, trivial⟩ ?_
      refine TriLQ.slotP 55 (((nd ns k).id : Int) ≤ ((nd ns (k - 1)).id : Int)) (fun _ => by kernel_rfl) (fun h55 => ?_) (fun h55 => ?_)
      ·
       refine TriLQ.seg (k' := 29) (fr' := [(1, .pointer (some ⟨b1, 0, none⟩)), (3, .int .i64 ↑(entSum ns k)), (4, .int .i64 ↑k), (5, .pointer (some ⟨b2, 0, none⟩)), (59, .bool true)]) (obl := []) [o_, o_, o_, o_] [1, 3, 4, 5, 59] (fun _ _ => by kernel_rfl) trivial ?_
       refine TriLQ.nil (by kernel_rfl) (TriQ.next ?_)
       refine Tri.condT (fun _ => by kernel_rfl) ?_
       refine Tri.seq (Tri.region ?_)
       refine TriL.segK (k' := 1) (fr' := [(2, .int .i64 140)]) (obl := []) [o_] [2] (fun _ _ => by kernel_rfl) trivial ?_
       refine TriL.nil (by kernel_rfl) (TriQ.next (Tri.ret (TriQ.passRet (TriQ.blockRet (TriQ.passRet (TriQ.passRet (TriQ.blockRet (TriQ.passRet ?_))))))))
       exact TriQ.ret (v := .int .i64 140) (l := []) (obl := []) [] [1] (fun _ => by kernel_rfl) trivial rfl (by kernel_rfl) (⟨congrArg (Value.int .i64) (if_neg (c := GraphOk ns) (fun h => by have := h.rise (k - 1) k (by omega) (by omega); omega)).symm, rfl⟩)
      ·
       refine TriLQ.seg (k' := 26) (fr' := [(1, .pointer (some ⟨b1, 0, none⟩)), (3, .int .i64 ↑(entSum ns k)), (4, .int .i64 ↑k), (5, .pointer (some ⟨b2, 0, none⟩)), (55, .bool false), (56, .agg #[.int .i64 ((nd ns k).id), .int .i64 ((nd ns k).kind), .int .i64 ((nd ns k).mode), .int .i64 ((nd ns k).uid), .int .i64 ((nd ns k).gid), .int .i64 ((nd ns k).sec), .int .i64 ((nd ns k).nano), .slice (L.dA k) ((nd ns k).data.length) ((L.dC k)), .string (nd ns k).target, .slice (L.eA k) ((nd ns k).ents.length) ((L.eC k))])]) (obl := [b2 = b2, b2 = b2, b2 = b2, b2 = b2, b2 = b2, b2 = b2, b2 = b2, b2 = b2, b2 = b2, b2 = b2]) [⟨[.at 2, .at 2, .at 2, .at 2, .at 2, .at 2, .at 2, .at 2, .at 2, .at 2], none, none, none, none⟩] [1, 3, 4, 5, 55, 56] (fun _ _ => by kernel_rfl) ⟨rfl, rfl, rfl, rfl, rfl, rfl, rfl, rfl, rfl, rfl, trivial⟩ ?_
       refine TriLQ.call (f := 39) (args := #[.agg #[.int .i64 ((nd ns k).id), .int .i64 ((nd ns k).kind), .int .i64 ((nd ns k).mode), .int .i64 ((nd ns k).uid), .int .i64 ((nd ns k).gid), .int .i64 ((nd ns k).sec), .int .i64 ((nd ns k).nano), .slice (L.dA k) ((nd ns k).data.length) ((L.dC k)), .string (nd ns k).target, .slice (L.eA k) ((nd ns k).ents.length) ((L.eC k))]]) (d := (some 57)) (pre := []) (R := [.blk b1 [.slice A (ns.length) (c)] 24, .abs R, .blk b2 [.int .i64 ((nd ns k).id), .int .i64 ((nd ns k).kind), .int .i64 ((nd ns k).mode), .int .i64 ((nd ns k).uid), .int .i64 ((nd ns k).gid), .int .i64 ((nd ns k).sec), .int .i64 ((nd ns k).nano), .slice (L.dA k) ((nd ns k).data.length) ((L.dC k)), .string (nd ns k).target, .slice (L.eA k) ((nd ns k).ents.length) ((L.eC k))] 32]) (pk := [0, 1, 2]) (pk' := [0, 1, 2]) (v0 := .bool (decide (NodeOk (nd ns k)))) (fun _ => by kernel_rfl) (sp_plain (nd ns k) (L.dA k) (L.eA k) (L.dC k) (L.eC k) (ht k (by omega))) rfl (by kernel_rfl) rfl (by kernel_rfl) (fun _ _ h => h) ?_
       refine TriLQ.seg (k' := 29) (fr' := [(1, .pointer (some ⟨b1, 0, none⟩)), (3, .int .i64 ↑(entSum ns k)), (4, .int .i64 ↑k), (5, .pointer (some ⟨b2, 0, none⟩)), (59, .bool (!(decide (NodeOk (nd ns k)))))]) (obl := []) [o_, o_] [1, 3, 4, 5, 59] (fun _ _ => by kernel_rfl) trivial ?_
       refine TriLQ.nil (by kernel_rfl) (TriQ.next ?_)
       refine Tri.condN (p := NodeOk (nd ns k)) (fun _ => by kernel_rfl) (fun h59 => ?_) (fun h59 => ?_)
       ·
        refine Tri.seq (Tri.region ?_)
        refine TriL.segK (k' := 1) (fr' := [(2, .int .i64 140)]) (obl := []) [o_] [2] (fun _ _ => by kernel_rfl) trivial ?_
        refine TriL.nil (by kernel_rfl) (TriQ.next (Tri.ret (TriQ.passRet (TriQ.blockRet (TriQ.passRet (TriQ.passRet (TriQ.blockRet (TriQ.passRet ?_))))))))
        exact TriQ.ret (v := .int .i64 140) (l := []) (obl := []) [] [1] (fun _ => by kernel_rfl) trivial rfl (by kernel_rfl) (⟨congrArg (Value.int .i64) (if_neg (c := GraphOk ns) (fun h => by exact h59 (h.node k (by omega)))).symm, rfl⟩)
       ·
        refine Tri.skip (TriQ.next (Tri.region ?_))
        refine TriL.segK (k' := 6) (fr' := [(1, .pointer (some ⟨b1, 0, none⟩)), (3, .int .i64 ↑((entSum ns k) + ((nd ns k).ents.length))), (4, .int .i64 ↑k)]) (obl := [(Value.int .i64 (IntKind.wrap .i64 (((entSum ns k : Nat) : Int) + (((nd ns k).ents.length : Nat) : Int)))) = (.int .i64 ↑((entSum ns k) + ((nd ns k).ents.length))), b2 = b2]) [o_, o_, ⟨[.at 2], none, none, none, none⟩, o_, ⟨[], none, none, none, some (.int .i64 ↑((entSum ns k) + ((nd ns k).ents.length)))⟩, o_] [1, 3, 4] (fun _ _ => by kernel_rfl) ⟨wrapEq (by omega) (by omega) (by omega), rfl, trivial⟩ ?_
        refine TriL.nil (by kernel_rfl) (TriQ.blockNormal (TriQ.next (Tri.region ?_)))
        refine TriL.segK (k' := 3) (fr' := [(1, .pointer (some ⟨b1, 0, none⟩)), (3, .int .i64 ↑((entSum ns k) + ((nd ns k).ents.length))), (4, .int .i64 ↑(k + 1))]) (obl := [(Value.int .i64 (IntKind.wrap .i64 (((k : Nat) : Int) + 1))) = (.int .i64 ↑(k + 1))]) [o_, ⟨[], none, none, none, some (.int .i64 ↑(k + 1))⟩, o_] [1, 3, 4] (fun _ _ => by kernel_rfl) ⟨wrapEq (by omega) (by omega) (by omega), trivial⟩ ?_
        refine TriL.nil (by kernel_rfl) ?_
        exact TriQ.turn ((k + 1)) (idx := [1, 3, 4]) (pk := [0, 1]) (show (((k + 1)) ≤ ns.length) ∧ (Upto ns ((k + 1))) ∧ (entSum ns ((k + 1)) ≤ ((k + 1)) * 1048576) from ⟨by omega, hu.step (by rw [lastId_pos (by omega)]; omega) (by omega) h59, by show entSum ns k + _ ≤ _; omega⟩) (by show ns.length - ((k + 1)) < ns.length - k; omega) (fun _ => by kernel_rfl) rfl (by kernel_rfl)
     ·
      refine TriLQ.seg (k' := 26) (fr' := [(1, .pointer (some ⟨b1, 0, none⟩)), (3, .int .i64 ↑(entSum ns k)), (4, .int .i64 ↑k), (5, .pointer (some ⟨b2, 0, none⟩)), (55, .bool false), (56, .agg #[.int .i64 ((nd ns k).id), .int .i64 ((nd ns k).kind), .int .i64 ((nd ns k).mode), .int .i64 ((nd ns k).uid), .int .i64 ((nd ns k).gid), .int .i64 ((nd ns k).sec), .int .i64 ((nd ns k).nano), .slice (L.dA k) ((nd ns k).data.length) ((L.dC k)), .string (nd ns k).target, .slice (L.eA k) ((nd ns k).ents.length) ((L.eC k))])]) (obl := [b2 = b2, b2 = b2, b2 = b2, b2 = b2, b2 = b2, b2 = b2, b2 = b2, b2 = b2, b2 = b2, b2 = b2]) [o_, o_, o_, o_, o_, o_, o_, o_, o_, o_, o_, o_, o_, ⟨[.at 2, .at 2, .at 2, .at 2, .at 2, .at 2, .at 2, .at 2, .at 2, .at 2], none, none, none, none⟩] [1, 3, 4, 5, 55, 56] (fun _ _ => by kernel_rfl) ⟨rfl, rfl, rfl, rfl, rfl, rfl, rfl, rfl, rfl, rfl, trivial⟩ ?_
      refine TriLQ.call (f := 39) (args := #[.agg #[.int .i64 ((nd ns k).id), .int .i64 ((nd ns k).kind), .int .i64 ((nd ns k).mode), .int .i64 ((nd ns k).uid), .int .i64 ((nd ns k).gid), .int .i64 ((nd ns k).sec), .int .i64 ((nd ns k).nano), .slice (L.dA k) ((nd ns k).data.length) ((L.dC k)), .string (nd ns k).target, .slice (L.eA k) ((nd ns k).ents.length) ((L.eC k))]]) (d := (some 57)) (pre := []) (R := [.blk b1 [.slice A (ns.length) (c)] 24, .abs R, .blk b2 [.int .i64 ((nd ns k).id), .int .i64 ((nd ns k).kind), .int .i64 ((nd ns k).mode), .int .i64 ((nd ns k).uid), .int .i64 ((nd ns k).gid), .int .i64 ((nd ns k).sec), .int .i64 ((nd ns k).nano), .slice (L.dA k) ((nd ns k).data.length) ((L.dC k)), .string (nd ns k).target, .slice (L.eA k) ((nd ns k).ents.length) ((L.eC k))] 32]) (pk := [0, 1, 2]) (pk' := [0, 1, 2]) (v0 := .bool (decide (NodeOk (nd ns k)))) (fun _ => by kernel_rfl) (sp_plain (nd ns k) (L.dA k) (L.eA k) (L.dC k) (L.eC k) (ht k (by omega))) rfl (by kernel_rfl) rfl (by kernel_rfl) (fun _ _ h => h) ?_
      refine TriLQ.seg (k' := 29) (fr' := [(1, .pointer (some ⟨b1, 0, none⟩)), (3, .int .i64 ↑(entSum ns k)), (4, .int .i64 ↑k), (5, .pointer (some ⟨b2, 0, none⟩)), (59, .bool (!(decide (NodeOk (nd ns k)))))]) (obl := []) [o_, o_] [1, 3, 4, 5, 59] (fun _ _ => by kernel_rfl) trivial ?_
      refine TriLQ.nil (by kernel_rfl) (TriQ.next ?_)
      refine Tri.condN (p := NodeOk (nd ns k)) (fun _ => by kernel_rfl) (fun h59 => ?_) (fun h59 => ?_)
      ·
       refine Tri.seq (Tri.region ?_)
       refine TriL.segK (k' := 1) (fr' := [(2, .int .i64 140)]) (obl := []) [o_] [2] (fun _ _ => by kernel_rfl) trivial ?_
       refine TriL.nil (by kernel_rfl) (TriQ.next (Tri.ret (TriQ.passRet (TriQ.blockRet (TriQ.passRet (TriQ.passRet (TriQ.blockRet (TriQ.passRet ?_))))))))
       exact TriQ.ret (v := .int .i64 140) (l := []) (obl := []) [] [1] (fun _ => by kernel_rfl) trivial rfl (by kernel_rfl) (⟨congrArg (Value.int .i64) (if_neg (c := GraphOk ns) (fun h => by exact h59 (h.node k (by omega)))).symm, rfl⟩)
      ·
       refine Tri.skip (TriQ.next (Tri.region ?_))
       refine TriL.segK (k' := 6) (fr' := [(1, .pointer (some ⟨b1, 0, none⟩)), (3, .int .i64 ↑((entSum ns k) + ((nd ns k).ents.length))), (4, .int .i64 ↑k)]) (obl := [(Value.int .i64 (IntKind.wrap .i64 (((entSum ns k : Nat) : Int) + (((nd ns k).ents.length : Nat) : Int)))) = (.int .i64 ↑((entSum ns k) + ((nd ns k).ents.length))), b2 = b2]) [o_, o_, ⟨[.at 2], none, none, none, none⟩, o_, ⟨[], none, none, none, some (.int .i64 ↑((entSum ns k) + ((nd ns k).ents.length)))⟩, o_] [1, 3, 4] (fun _ _ => by kernel_rfl) ⟨wrapEq (by omega) (by omega) (by omega), rfl, trivial⟩ ?_
       refine TriL.nil (by kernel_rfl) (TriQ.blockNormal (TriQ.next (Tri.region ?_)))
       refine TriL.segK (k' := 3) (fr' := [(1, .pointer (some ⟨b1, 0, none⟩)), (3, .int .i64 ↑((entSum ns k) + ((nd ns k).ents.length))), (4, .int .i64 ↑(k + 1))]) (obl := [(Value.int .i64 (IntKind.wrap .i64 (((k : Nat) : Int) + 1))) = (.int .i64 ↑(k + 1))]) [o_, ⟨[], none, none, none, some (.int .i64 ↑(k + 1))⟩, o_] [1, 3, 4] (fun _ _ => by kernel_rfl) ⟨wrapEq (by omega) (by omega) (by omega), trivial⟩ ?_
       refine TriL.nil (by kernel_rfl) ?_
       exact TriQ.turn ((k + 1)) (idx := [1, 3, 4]) (pk := [0, 1]) (show (((k + 1)) ≤ ns.length) ∧ (Upto ns ((k + 1))) ∧ (entSum ns ((k + 1)) ≤ ((k + 1)) * 1048576) from ⟨by omega, hu.step (by rw [show k = 0 by omega]; rw [show k = 0 by omega] at h34; show (0 : Int) < _; omega) (by omega) h59, by show entSum ns k + _ ≤ _; omega⟩) (by show ns.length - ((k + 1)) < ns.length - k; omega) (fun _ => by kernel_rfl) rfl (by kernel_rfl)
  ·
   refine Tri.exit (TriQ.passExit (TriQ.passExit (TriQ.blockHit (TriQ.next (Tri.seq (Tri.seq (Tri.region ?_)))))))
   refine TriL.segK (k' := 2) (fr' := [(1, .pointer (some ⟨b1, 0, none⟩)), (66, .bool (decide ((((entSum ns k : Nat) : Int) : Int) > (8192 : Int))))]) (obl := []) [o_, o_] [1, 66] (fun _ _ => by kernel_rfl) trivial ?_
   refine TriL.nil (by kernel_rfl) (TriQ.next ?_)
   refine Tri.condP (p := (((entSum ns k : Nat) : Int) : Int) > (8192 : Int)) (fun _ => by kernel_rfl) (fun h66 => ?_) (fun h66 => ?_)
   ·
    refine Tri.seq (Tri.region ?_)
    refine TriL.segK (k' := 1) (fr' := [(2, .int .i64 140)]) (obl := []) [o_] [2] (fun _ _ => by kernel_rfl) trivial ?_
    refine TriL.nil (by kernel_rfl) (TriQ.next (Tri.ret (TriQ.passRet ?_)))
    exact TriQ.ret (v := .int .i64 140) (l := []) (obl := []) [] [1] (fun _ => by kernel_rfl) trivial rfl (by kernel_rfl) (⟨congrArg (Value.int .i64) (if_neg (c := GraphOk ns) (fun h => by have h1 := h.sum; rw [show ns.length = k by omega] at h1; omega)).symm, rfl⟩)
   ·
    refine Tri.skip (TriQ.next (Tri.seq (Tri.region ?_)))
    refine TriL.segK (k' := 3) (fr' := [(1, .pointer (some ⟨b1, 0, none⟩)), (69, .int .i64 ↑ns.length)]) (obl := [b1 = b1]) [o_, ⟨[.at 0], none, none, none, none⟩, o_] [1, 69] (fun _ _ => by kernel_rfl) ⟨rfl, trivial⟩ ?_
    refine TriL.makeFull (d := (some 70)) (t := 60) (e := 3) (z := .int .i64 0) (bytes := 8) (n := ns.length) (l := (.tmp 69)) (c := (.tmp 69)) (fun _ => by kernel_rfl) (fun _ => by kernel_rfl) (fun _ => by kernel_rfl) Try.underlying60 (by kernel_rfl) rfl (by omega) (by omega) (fun b3 => ?_)
    refine TriL.segK (k' := 5) (fr' := [(1, .pointer (some ⟨b1, 0, none⟩)), (6, .slice (some ⟨b3, 0, none⟩) (ns.length) (ns.length))]) (obl := []) [o_] [1, 6] (fun _ _ => by kernel_rfl) trivial ?_
    refine TriL.nil (by kernel_rfl) (TriQ.next (Tri.seq (Tri.seq (Tri.region ?_))))
    refine TriL.partEq 2 (p := .abs (RowA 3 1 (some ⟨b3, 0, none⟩) ns.length ns.length (List.replicate ns.length (.int .i64 0)))) (p' := .abs (RowA 3 1 (some ⟨b3, 0, none⟩) ns.length ns.length (intsV (List.replicate ns.length 0)))) (by kernel_rfl) (by rw [intsV, List.map_replicate]) ?_
    refine TriL.segK (k' := 1) (fr' := [(1, .pointer (some ⟨b1, 0, none⟩)), (6, .slice (some ⟨b3, 0, none⟩) (ns.length) (ns.length)), (7, .int .i64 0)]) (obl := []) [o_] [1, 6, 7] (fun _ _ => by kernel_rfl) trivial ?_
    refine TriL.nil (by kernel_rfl) (TriQ.next (Tri.block ?_))
    refine Tri.loop (ι := Nat × (List Int)) (fun ((t, pl) : Nat × (List Int)) => (t ≤ ns.length) ∧ (pl.length = ns.length) ∧ (∀ a, a < t → pl.getD a 0 = -1)) (fun ((t, pl) : Nat × (List Int)) => ns.length - t) (fun ((t, pl) : Nat × (List Int)) => [(1, .pointer (some ⟨b1, 0, none⟩)), (6, .slice (some ⟨b3, 0, none⟩) (ns.length) (ns.length)), (7, .int .i64 ↑t)]) (fun ((t, pl) : Nat × (List Int)) => [.blk b1 [.slice A (ns.length) (c)] 24, .abs (RowA 3 1 (some ⟨b3, 0, none⟩) ns.length ns.length (intsV pl)), .abs R]) (0, (List.replicate ns.length 0)) (idx := [1, 6, 7]) (pk := [0, 2, 1]) (show (0 ≤ ns.length) ∧ (((List.replicate ns.length 0)).length = ns.length) ∧ (∀ a, a < 0 → ((List.replicate ns.length 0)).getD a 0 = -1) from ⟨Nat.zero_le _, by simp, fun a ha => absurd ha (Nat.not_lt_zero a)⟩) (fun _ => by kernel_rfl) rfl (by kernel_rfl) ?_
    rintro ⟨t, pl⟩ ⟨ht2, hpl, hpa⟩
    show Tri _ _ _ _ [(1, .pointer (some ⟨b1, 0, none⟩)), (6, .slice (some ⟨b3, 0, none⟩) (ns.length) (ns.length)), (7, .int .i64 ↑t)] [.blk b1 [.slice A (ns.length) (c)] 24, .abs (RowA 3 1 (some ⟨b3, 0, none⟩) ns.length ns.length (intsV pl)), .abs R] _
    refine Tri.seq (Tri.seq (Tri.region ?_))
    refine TriL.segK (k' := 4) (fr' := [(1, .pointer (some ⟨b1, 0, none⟩)), (6, .slice (some ⟨b3, 0, none⟩) (ns.length) (ns.length)), (7, .int .i64 ↑t), (74, .bool (decide ((((t : Nat) : Int) : Int) < (((ns.length : Nat) : Int) : Int))))]) (obl := []) [o_, o_, o_, o_] [1, 6, 7, 74] (fun _ _ => by kernel_rfl) trivial ?_
    refine TriL.nil (by kernel_rfl) (TriQ.next ?_)
    refine Tri.condP (p := (((t : Nat) : Int) : Int) < (((ns.length : Nat) : Int) : Int)) (fun _ => by kernel_rfl) (fun h74 => ?_) (fun h74 => ?_)
    ·
     refine Tri.skip (TriQ.next (Tri.seq (Tri.block (Tri.region ?_))))
     refine TriL.segK (k' := 3) (fr' := [(1, .pointer (some ⟨b1, 0, none⟩)), (6, .slice (some ⟨b3, 0, none⟩) (ns.length) (ns.length)), (7, .int .i64 ↑t), (79, .pointer (some ⟨b3, t, none⟩))]) (obl := [(Value.pointer (some ⟨b3, 0 + t * 1, none⟩)) = (.pointer (some ⟨b3, t, none⟩)), ((t : Nat) : Int) = ((t : Nat) : Int), t < ns.length, (⟨b3, 0, none⟩ : Addr).spot = none]) [o_, o_, ⟨[], some t, none, none, some (.pointer (some ⟨b3, t, none⟩))⟩] [1, 6, 7, 79] (fun _ _ => by kernel_rfl) ⟨by simp, rfl, by omega, rfl, trivial⟩ ?_
     refine TriL.rowSet 1 (t) (d := none) (T := 3) (e := 3) (size := 1) (n := ns.length) (cap := ns.length) (g := b3) (xs := (intsV pl)) (u := .int .i64 (-1)) (a := (.tmp 79)) (y := (.const (.int .i64 (-1)))) (fun _ => by kernel_rfl) (by kernel_rfl) (fun _ => by kernel_rfl) (fun _ => by kernel_rfl) (by kernel_rfl) rfl (by rw [intsV, List.length_map]; omega) ?_
     refine TriL.partEq 1 (p := .abs (RowA 3 1 (some ⟨b3, 0, none⟩) ns.length ns.length ((intsV pl).set (t) (.int .i64 (-1))))) (p' := .abs (RowA 3 1 (some ⟨b3, 0, none⟩) ns.length ns.length (intsV (pl.set t (-1))))) (by kernel_rfl) (by rw [intsV_set]) ?_
     refine TriL.nil (by kernel_rfl) (TriQ.blockNormal (TriQ.next (Tri.region ?_)))
     refine TriL.segK (k' := 3) (fr' := [(1, .pointer (some ⟨b1, 0, none⟩)), (6, .slice (some ⟨b3, 0, none⟩) (ns.length) (ns.length)), (7, .int .i64 ↑(t + 1))]) (obl := [(Value.int .i64 (IntKind.wrap .i64 (((t : Nat) : Int) + 1))) = (.int .i64 ↑(t + 1))]) [o_, ⟨[], none, none, none, some (.int .i64 ↑(t + 1))⟩, o_] [1, 6, 7] (fun _ _ => by kernel_rfl) ⟨wrapEq (by omega) (by omega) (by omega), trivial⟩ ?_
     refine TriL.nil (by kernel_rfl) ?_
     exact TriQ.turn ((t + 1), (pl.set t (-1))) (idx := [1, 6, 7]) (pk := [0, 1, 2]) (show (((t + 1)) ≤ ns.length) ∧ (((pl.set t (-1))).length = ns.length) ∧ (∀ a, a < ((t + 1)) → ((pl.set t (-1))).getD a 0 = -1) from ⟨by omega, by rw [List.length_set]; exact hpl, fun a ha => (by rw [getD_set (by omega)]; by_cases e : a = t; simp [e]; rw [if_neg e]; exact hpa a (by omega))⟩) (by show ns.length - ((t + 1)) < ns.length - t; omega) (fun _ => by kernel_rfl) rfl (by kernel_rfl)
    ·
     refine Tri.exit (TriQ.passExit (TriQ.passExit (TriQ.blockHit (TriQ.next (Tri.seq (Tri.seq (Tri.region ?_)))))))
     refine TriL.segK (k' := 1) (fr' := [(1, .pointer (some ⟨b1, 0, none⟩)), (6, .slice (some ⟨b3, 0, none⟩) (ns.length) (ns.length)), (8, .int .i64 0)]) (obl := []) [o_] [1, 6, 8] (fun _ _ => by kernel_rfl) trivial ?_
     refine TriL.nil (by kernel_rfl) (TriQ.next (Tri.block ?_))
     have hrise : Rising ns := fun a b hab hb => hu.rise a b hab (by omega)
     have hsum : entSum ns ns.length ≤ 8192 := by rw [show ns.length = k by omega]; omega
     refine Tri.loop (ι := Nat × (List Int)) (fun ((i, pl1) : Nat × (List Int)) => (i ≤ ns.length) ∧ (∀ a, a < i → ∀ j, j < (nd ns a).ents.length → EntOk ns a j) ∧ (((allE ns i).map Prod.fst).Nodup) ∧ (Par ns.length pl1 (allE ns i))) (fun ((i, pl1) : Nat × (List Int)) => ns.length - i) (fun ((i, pl1) : Nat × (List Int)) => [(1, .pointer (some ⟨b1, 0, none⟩)), (6, .slice (some ⟨b3, 0, none⟩) (ns.length) (ns.length)), (8, .int .i64 ↑i)]) (fun ((i, pl1) : Nat × (List Int)) => [.blk b1 [.slice A (ns.length) (c)] 24, .abs (RowA 3 1 (some ⟨b3, 0, none⟩) ns.length ns.length (intsV pl1)), .abs R]) (0, pl) (idx := [1, 6, 8]) (pk := [0, 1, 2]) (show (0 ≤ ns.length) ∧ (∀ a, a < 0 → ∀ j, j < (nd ns a).ents.length → EntOk ns a j) ∧ (((allE ns 0).map Prod.fst).Nodup) ∧ (Par ns.length pl (allE ns 0)) from ⟨Nat.zero_le _, fun a ha => absurd ha (Nat.not_lt_zero a), List.nodup_nil, ⟨hpl, fun a ha => hpa a (by omega)⟩⟩) (fun _ => by kernel_rfl) rfl (by kernel_rfl) ?_
     rintro ⟨i, pl1⟩ ⟨hi, hents, hnd, hpar⟩
     show Tri _ _ _ _ [(1, .pointer (some ⟨b1, 0, none⟩)), (6, .slice (some ⟨b3, 0, none⟩) (ns.length) (ns.length)), (8, .int .i64 ↑i)] [.blk b1 [.slice A (ns.length) (c)] 24, .abs (RowA 3 1 (some ⟨b3, 0, none⟩) ns.length ns.length (intsV pl1)), .abs R] _
     refine Tri.seq (Tri.seq (Tri.region ?_))
     refine TriL.segK (k' := 5) (fr' := [(1, .pointer (some ⟨b1, 0, none⟩)), (6, .slice (some ⟨b3, 0, none⟩) (ns.length) (ns.length)), (8, .int .i64 ↑i), (84, .bool (decide ((((i : Nat) : Int) : Int) < (((ns.length : Nat) : Int) : Int))))]) (obl := [b1 = b1]) [o_, o_, ⟨[.at 0], none, none, none, none⟩, o_, o_] [1, 6, 8, 84] (fun _ _ => by kernel_rfl) ⟨rfl, trivial⟩ ?_
     refine TriL.nil (by kernel_rfl) (TriQ.next ?_)
     refine Tri.condP (p := (((i : Nat) : Int) : Int) < (((ns.length : Nat) : Int) : Int)) (fun _ => by kernel_rfl) (fun h84 => ?_) (fun h84 => ?_)
     ·
      refine Tri.skip (TriQ.next (Tri.seq (Tri.block (Tri.seq (Tri.region ?_)))))
      refine TriL.segK (k' := 1) (fr' := [(1, .pointer (some ⟨b1, 0, none⟩)), (6, .slice (some ⟨b3, 0, none⟩) (ns.length) (ns.length)), (8, .int .i64 ↑i), (9, .int .i64 0)]) (obl := []) [o_] [1, 6, 8, 9] (fun _ _ => by kernel_rfl) trivial ?_
      refine TriL.nil (by kernel_rfl) (TriQ.next (Tri.block ?_))
      refine Tri.loop (ι := Nat × (List Int)) (fun ((j, pl2) : Nat × (List Int)) => (j ≤ (nd ns i).ents.length) ∧ (∀ t, t < j → EntOk ns i t) ∧ (((rowE ns i j ++ allE ns i).map Prod.fst).Nodup) ∧ (Par ns.length pl2 (rowE ns i j ++ allE ns i))) (fun ((j, pl2) : Nat × (List Int)) => (nd ns i).ents.length - j) (fun ((j, pl2) : Nat × (List Int)) => [(1, .pointer (some ⟨b1, 0, none⟩)), (6, .slice (some ⟨b3, 0, none⟩) (ns.length) (ns.length)), (8, .int .i64 ↑i), (9, .int .i64 ↑j)]) (fun ((j, pl2) : Nat × (List Int)) => [.blk b1 [.slice A (ns.length) (c)] 24, .abs (RowA 3 1 (some ⟨b3, 0, none⟩) ns.length ns.length (intsV pl2)), .abs R]) (0, pl1) (idx := [1, 6, 8, 9]) (pk := [0, 1, 2]) (show (0 ≤ (nd ns i).ents.length) ∧ (∀ t, t < 0 → EntOk ns i t) ∧ (((rowE ns i 0 ++ allE ns i).map Prod.fst).Nodup) ∧ (Par ns.length pl1 (rowE ns i 0 ++ allE ns i)) from ⟨Nat.zero_le _, fun t ht => absurd ht (Nat.not_lt_zero t), hnd, hpar⟩) (fun _ => by kernel_rfl) rfl (by kernel_rfl) ?_
      rintro ⟨j, pl2⟩ ⟨hj, hok, hnd2, hpar2⟩
      show Tri _ _ _ _ [(1, .pointer (some ⟨b1, 0, none⟩)), (6, .slice (some ⟨b3, 0, none⟩) (ns.length) (ns.length)), (8, .int .i64 ↑i), (9, .int .i64 ↑j)] [.blk b1 [.slice A (ns.length) (c)] 24, .abs (RowA 3 1 (some ⟨b3, 0, none⟩) ns.length ns.length (intsV pl2)), .abs R] _
      have hd3 := (hd i (by omega)).2
      have hln := hpar2.len
      refine Tri.seq (Tri.seq (Tri.region ?_))
      refine TriL.segK (k' := 9) (fr' := [(1, .pointer (some ⟨b1, 0, none⟩)), (6, .slice (some ⟨b3, 0, none⟩) (ns.length) (ns.length)), (8, .int .i64 ↑i), (9, .int .i64 ↑j), (95, .bool (decide ((((j : Nat) : Int) : Int) < ((((nd ns i).ents.length : Nat) : Int) : Int))))]) (obl := [(Rd β ⟨(blkOf A), offOf A + i * 10 + 9, none⟩ (.slice (L.eA i) ((nd ns i).ents.length) ((L.eC i)))), ((i : Nat) : Int) = ((i : Nat) : Int), i < ns.length, (⟨(blkOf A), offOf A, none⟩ : Addr).spot = none, (A : Option Addr) = some ⟨(blkOf A), offOf A, none⟩, b1 = b1]) [o_, o_, ⟨[.at 0], none, none, none, none⟩, o_, ⟨[], some i, none, some ⟨(blkOf A), offOf A, none⟩, none⟩, o_, ⟨[.old (.slice (L.eA i) ((nd ns i).ents.length) ((L.eC i)))], none, none, none, none⟩, o_, o_] [1, 6, 8, 9, 95] (fun _ _ => by kernel_rfl) ⟨GraphAt.rd hG (i := i) (by omega) (j := 9) rfl, rfl, by omega, rfl, GraphAt.hd hG (i := i) (by omega), rfl, trivial⟩ ?_
      refine TriL.nil (by kernel_rfl) (TriQ.next ?_)
      refine Tri.condP (p := (((j : Nat) : Int) : Int) < ((((nd ns i).ents.length : Nat) : Int) : Int)) (fun _ => by kernel_rfl) (fun h95 => ?_) (fun h95 => ?_)
      ·
       refine Tri.skip (TriQ.next (Tri.seq (Tri.block (Tri.seq (Tri.region ?_)))))
       refine TriL.segN (k' := 11) (fr' := fun b4 => [(1, .pointer (some ⟨b1, 0, none⟩)), (6, .slice (some ⟨b3, 0, none⟩) (ns.length) (ns.length)), (8, .int .i64 ↑i), (9, .int .i64 ↑j), (10, .pointer (some ⟨b4, 0, none⟩))]) (hps' := fun b4 => [.blk b1 [.slice A (ns.length) (c)] 24, .abs (RowA 3 1 (some ⟨b3, 0, none⟩) ns.length ns.length (intsV pl2)), .abs R, .blk b4 [.string (en (nd ns i).ents j).name, .int .i64 ((en (nd ns i).ents j).id)] 72]) (obl := fun b4 => [b4 = b4, b4 = b4, (Rd β ⟨(blkOf (L.eA i)), offOf (L.eA i) + j * 2 + 1, none⟩ (.int .i64 ((en (nd ns i).ents j).id))), (Rd β ⟨(blkOf (L.eA i)), offOf (L.eA i) + j * 2, none⟩ (.string (en (nd ns i).ents j).name)), ((j : Nat) : Int) = ((j : Nat) : Int), j < (nd ns i).ents.length, (⟨(blkOf (L.eA i)), offOf (L.eA i), none⟩ : Addr).spot = none, ((L.eA i) : Option Addr) = some ⟨(blkOf (L.eA i)), offOf (L.eA i), none⟩, (Rd β ⟨(blkOf A), offOf A + i * 10 + 9, none⟩ (.slice (L.eA i) ((nd ns i).ents.length) ((L.eC i)))), ((i : Nat) : Int) = ((i : Nat) : Int), i < ns.length, (⟨(blkOf A), offOf A, none⟩ : Addr).spot = none, (A : Option Addr) = some ⟨(blkOf A), offOf A, none⟩, b1 = b1]) [o_, ⟨[.at 0], none, none, none, none⟩, o_, ⟨[], some i, none, some ⟨(blkOf A), offOf A, none⟩, none⟩, o_, ⟨[.old (.slice (L.eA i) ((nd ns i).ents.length) ((L.eC i)))], none, none, none, none⟩, o_, ⟨[], some j, none, some ⟨(blkOf (L.eA i)), offOf (L.eA i), none⟩, none⟩, ⟨[.old (.string (en (nd ns i).ents j).name), .old (.int .i64 ((en (nd ns i).ents j).id))], none, none, none, none⟩, o_, ⟨[.at 3, .at 3], none, none, none, none⟩] [1, 6, 8, 9, 10] [0, 1, 2, 3] (fun _ _ => by kernel_rfl) (fun b4 => ⟨rfl, rfl, EntsAt.rd (hG.ents i (by omega)) (i := j) (by omega) (j := 1) rfl, EntsAt.rd (hG.ents i (by omega)) (i := j) (by omega) (j := 0) rfl, rfl, by omega, rfl, EntsAt.hd (hG.ents i (by omega)) (i := j) (by omega), GraphAt.rd hG (i := i) (by omega) (j := 9) rfl, rfl, by omega, rfl, GraphAt.hd hG (i := i) (by omega), rfl, trivial⟩) (fun b4 => ?_)
       refine TriL.nil (by kernel_rfl) (TriQ.next (Tri.seq (Tri.region ?_)))
       refine TriL.segK (k' := 3) (fr' := [(1, .pointer (some ⟨b1, 0, none⟩)), (6, .slice (some ⟨b3, 0, none⟩) (ns.length) (ns.length)), (8, .int .i64 ↑i), (9, .int .i64 ↑j), (10, .pointer (some ⟨b4, 0, none⟩)), (107, .agg #[.slice A (ns.length) (c)]), (109, .int .i64 ((en (nd ns i).ents j).id))]) (obl := [b4 = b4, b1 = b1]) [⟨[.at 0], none, none, none, none⟩, o_, ⟨[.at 3], none, none, none, none⟩] [1, 6, 8, 9, 10, 107, 109] (fun _ _ => by kernel_rfl) ⟨rfl, rfl, trivial⟩ ?_
       refine TriL.call (f := 29) (args := #[.agg #[.slice A (ns.length) (c)], .int .i64 ((en (nd ns i).ents j).id)]) (d := (some 110)) (pre := []) (R := [.blk b1 [.slice A (ns.length) (c)] 24, .abs (RowA 3 1 (some ⟨b3, 0, none⟩) ns.length ns.length (intsV pl2)), .abs R, .blk b4 [.string (en (nd ns i).ents j).name, .int .i64 ((en (nd ns i).ents j).id)] 72]) (pk := [0, 1, 2, 3]) (fun _ => by kernel_rfl) (sp_at A c ns L hG hrise hl (en (nd ns i).ents j).id) rfl (by kernel_rfl) ?_
       rintro _ _ ⟨rfl, rfl⟩
       refine TriL.segK (k' := 5) (fr' := [(1, .pointer (some ⟨b1, 0, none⟩)), (6, .slice (some ⟨b3, 0, none⟩) (ns.length) (ns.length)), (8, .int .i64 ↑i), (9, .int .i64 ↑j), (10, .pointer (some ⟨b4, 0, none⟩)), (11, .int .i64 (atI ns (en (nd ns i).ents j).id))]) (obl := []) [o_] [1, 6, 8, 9, 10, 11] (fun _ _ => by kernel_rfl) trivial ?_
       refine TriL.nil (by kernel_rfl) (TriQ.next (Tri.seq (Tri.seq ?_)))
       refine Tri.regionQ (by kernel_rfl) (by kernel_rfl) ?_
       refine TriLQ.seg (k' := 3) (fr' := [(1, .pointer (some ⟨b1, 0, none⟩)), (6, .slice (some ⟨b3, 0, none⟩) (ns.length) (ns.length)), (8, .int .i64 ↑i), (9, .int .i64 ↑j), (10, .pointer (some ⟨b4, 0, none⟩)), (11, .int .i64 (atI ns (en (nd ns i).ents j).id)), (113, .bool (decide ((atI ns (en (nd ns i).ents j).id : Int) < (0 : Int))))]) (obl := []) [o_, o_, o_] [1, 6, 8, 9, 10, 11, 113] (fun _ _ => by kernel_rfl) trivial ?_
       refine TriLQ.slotP 113 ((atI ns (en (nd ns i).ents j).id : Int) < (0 : Int)) (fun _ => by kernel_rfl) (fun h113 => ?_) (fun h113 => ?_)
       ·
        refine TriLQ.seg (k' := 28) (fr' := [(1, .pointer (some ⟨b1, 0, none⟩)), (6, .slice (some ⟨b3, 0, none⟩) (ns.length) (ns.length)), (8, .int .i64 ↑i), (9, .int .i64 ↑j), (11, .int .i64 (atI ns (en (nd ns i).ents j).id)), (138, .bool true)]) (obl := []) [o_, o_, o_, o_, o_, o_, o_, o_, o_, o_, o_, o_, o_, o_, o_, o_, o_, o_, o_, o_, o_, o_, o_, o_, o_] [1, 6, 8, 9, 11, 138] (fun _ _ => by kernel_rfl) trivial ?_
        refine TriLQ.nil (by kernel_rfl) (TriQ.next ?_)
        refine Tri.condT (fun _ => by kernel_rfl) ?_
        refine Tri.seq (Tri.region ?_)
        refine TriL.segK (k' := 1) (fr' := [(2, .int .i64 140)]) (obl := []) [o_] [2] (fun _ _ => by kernel_rfl) trivial ?_
        refine TriL.nil (by kernel_rfl) (TriQ.next (Tri.ret (TriQ.passRet (TriQ.blockRet (TriQ.passRet (TriQ.passRet (TriQ.blockRet (TriQ.blockRet (TriQ.passRet (TriQ.passRet (TriQ.blockRet (TriQ.passRet ?_))))))))))))
        exact TriQ.ret (v := .int .i64 140) (l := []) (obl := []) [] [2] (fun _ => by kernel_rfl) trivial rfl (by kernel_rfl) (⟨congrArg (Value.int .i64) (if_neg (c := GraphOk ns) (fun h => by have h1 := (h.ents i (by omega) j (by omega)).at_; change 0 ≤ atI ns (en (nd ns i).ents j).id at h1; omega)).symm, rfl⟩)
       ·
        have htl := atI_lt (Int.not_lt.1 h113)
        refine TriLQ.seg (k' := 5) (fr' := [(1, .pointer (some ⟨b1, 0, none⟩)), (6, .slice (some ⟨b3, 0, none⟩) (ns.length) (ns.length)), (8, .int .i64 ↑i), (9, .int .i64 ↑j), (10, .pointer (some ⟨b4, 0, none⟩)), (11, .int .i64 (atI ns (en (nd ns i).ents j).id)), (113, .bool false), (115, .string (en (nd ns i).ents j).name)]) (obl := [b4 = b4]) [o_, ⟨[.at 3], none, none, none, none⟩] [1, 6, 8, 9, 10, 11, 113, 115] (fun _ _ => by kernel_rfl) ⟨rfl, trivial⟩ ?_
        refine TriLQ.call (f := 40) (args := #[.string (en (nd ns i).ents j).name]) (d := (some 116)) (pre := []) (R := [.blk b1 [.slice A (ns.length) (c)] 24, .abs (RowA 3 1 (some ⟨b3, 0, none⟩) ns.length ns.length (intsV pl2)), .abs R, .blk b4 [.string (en (nd ns i).ents j).name, .int .i64 ((en (nd ns i).ents j).id)] 72]) (pk := [0, 1, 2, 3]) (pk' := [0, 1, 2, 3]) (v0 := .bool (decide (GoodName (en (nd ns i).ents j).name))) (fun _ => by kernel_rfl) (sp_refGood (en (nd ns i).ents j).name (hnm i (by omega) j (by omega))) rfl (by kernel_rfl) rfl (by kernel_rfl) (fun _ _ h => h) ?_
        refine TriLQ.seg (k' := 9) (fr' := [(1, .pointer (some ⟨b1, 0, none⟩)), (6, .slice (some ⟨b3, 0, none⟩) (ns.length) (ns.length)), (8, .int .i64 ↑i), (9, .int .i64 ↑j), (10, .pointer (some ⟨b4, 0, none⟩)), (11, .int .i64 (atI ns (en (nd ns i).ents j).id)), (119, .bool (!(decide (GoodName (en (nd ns i).ents j).name))))]) (obl := []) [o_, o_, o_] [1, 6, 8, 9, 10, 11, 119] (fun _ _ => by kernel_rfl) trivial ?_
        refine TriLQ.slotN 119 (GoodName (en (nd ns i).ents j).name) (fun _ => by kernel_rfl) (fun h119 => ?_) (fun h119 => ?_)
        ·
         refine TriLQ.seg (k' := 28) (fr' := [(1, .pointer (some ⟨b1, 0, none⟩)), (6, .slice (some ⟨b3, 0, none⟩) (ns.length) (ns.length)), (8, .int .i64 ↑i), (9, .int .i64 ↑j), (11, .int .i64 (atI ns (en (nd ns i).ents j).id)), (138, .bool true)]) (obl := []) [o_, o_, o_, o_, o_, o_, o_, o_, o_, o_, o_, o_, o_, o_, o_, o_, o_, o_, o_] [1, 6, 8, 9, 11, 138] (fun _ _ => by kernel_rfl) trivial ?_
         refine TriLQ.nil (by kernel_rfl) (TriQ.next ?_)
         refine Tri.condT (fun _ => by kernel_rfl) ?_
         refine Tri.seq (Tri.region ?_)
         refine TriL.segK (k' := 1) (fr' := [(2, .int .i64 140)]) (obl := []) [o_] [2] (fun _ _ => by kernel_rfl) trivial ?_
         refine TriL.nil (by kernel_rfl) (TriQ.next (Tri.ret (TriQ.passRet (TriQ.blockRet (TriQ.passRet (TriQ.passRet (TriQ.blockRet (TriQ.blockRet (TriQ.passRet (TriQ.passRet (TriQ.blockRet (TriQ.passRet ?_))))))))))))
         exact TriQ.ret (v := .int .i64 140) (l := []) (obl := []) [] [2] (fun _ => by kernel_rfl) trivial rfl (by kernel_rfl) (⟨congrArg (Value.int .i64) (if_neg (c := GraphOk ns) (fun h => by exact h119 (h.ents i (by omega) j (by omega)).good)).symm, rfl⟩)
        ·
         refine TriLQ.seg (k' := 12) (fr' := [(1, .pointer (some ⟨b1, 0, none⟩)), (6, .slice (some ⟨b3, 0, none⟩) (ns.length) (ns.length)), (8, .int .i64 ↑i), (9, .int .i64 ↑j), (10, .pointer (some ⟨b4, 0, none⟩)), (11, .int .i64 (atI ns (en (nd ns i).ents j).id)), (119, .bool false), (122, .bool (decide ((((j : Nat) : Int) : Int) > (0 : Int))))]) (obl := []) [o_, o_, o_] [1, 6, 8, 9, 10, 11, 119, 122] (fun _ _ => by kernel_rfl) trivial ?_
         refine TriLQ.slotP 122 ((((j : Nat) : Int) : Int) > (0 : Int)) (fun _ => by kernel_rfl) (fun h122 => ?_) (fun h122 => ?_)
         ·
          refine TriLQ.seg (k' := 28) (fr' := [(1, .pointer (some ⟨b1, 0, none⟩)), (6, .slice (some ⟨b3, 0, none⟩) (ns.length) (ns.length)), (8, .int .i64 ↑i), (9, .int .i64 ↑j), (11, .int .i64 (atI ns (en (nd ns i).ents j).id)), (138, .bool (decide (strLe ((en (nd ns i).ents j).name) ((en (nd ns i).ents (j - 1)).name))))]) (obl := [(Value.bool (Op.bytesLess (((en (nd ns i).ents j).name) : ByteArray).toList (((en (nd ns i).ents (j - 1)).name) : ByteArray).toList || (((en (nd ns i).ents j).name) : ByteArray).toList == (((en (nd ns i).ents (j - 1)).name) : ByteArray).toList)) = (.bool (decide (strLe ((en (nd ns i).ents j).name) ((en (nd ns i).ents (j - 1)).name)))), (Rd β ⟨(blkOf (L.eA i)), offOf (L.eA i) + (j - 1) * 2, none⟩ (.string (en (nd ns i).ents (j - 1)).name)), (((j - 1) : Nat) : Int) = (((j - 1) : Nat) : Int), (j - 1) < (nd ns i).ents.length, (⟨(blkOf (L.eA i)), offOf (L.eA i), none⟩ : Addr).spot = none, ((L.eA i) : Option Addr) = some ⟨(blkOf (L.eA i)), offOf (L.eA i), none⟩, (Value.int .i64 (IntKind.wrap .i64 (((j : Nat) : Int) - 1))) = (.int .i64 ↑(j - 1)), (Rd β ⟨(blkOf A), offOf A + i * 10 + 9, none⟩ (.slice (L.eA i) ((nd ns i).ents.length) ((L.eC i)))), ((i : Nat) : Int) = ((i : Nat) : Int), i < ns.length, (⟨(blkOf A), offOf A, none⟩ : Addr).spot = none, (A : Option Addr) = some ⟨(blkOf A), offOf A, none⟩, b1 = b1, b4 = b4]) [o_, ⟨[.at 3], none, none, none, none⟩, o_, ⟨[.at 0], none, none, none, none⟩, o_, ⟨[], some i, none, some ⟨(blkOf A), offOf A, none⟩, none⟩, o_, ⟨[.old (.slice (L.eA i) ((nd ns i).ents.length) ((L.eC i)))], none, none, none, none⟩, o_, ⟨[], none, none, none, some (.int .i64 ↑(j - 1))⟩, ⟨[], some (j - 1), none, some ⟨(blkOf (L.eA i)), offOf (L.eA i), none⟩, none⟩, o_, ⟨[.old (.string (en (nd ns i).ents (j - 1)).name)], none, none, none, none⟩, ⟨[], none, none, none, some (.bool (decide (strLe ((en (nd ns i).ents j).name) ((en (nd ns i).ents (j - 1)).name))))⟩, o_, o_] [1, 6, 8, 9, 11, 138] (fun _ _ => by kernel_rfl) ⟨strLeV _ _, EntsAt.rd (hG.ents i (by omega)) (i := (j - 1)) (by omega) (j := 0) rfl, rfl, by omega, rfl, EntsAt.hd (hG.ents i (by omega)) (i := (j - 1)) (by omega), wrapEq (by omega) (by omega) (by omega), GraphAt.rd hG (i := i) (by omega) (j := 9) rfl, rfl, by omega, rfl, GraphAt.hd hG (i := i) (by omega), rfl, rfl, trivial⟩ ?_
          refine TriLQ.nil (by kernel_rfl) (TriQ.next ?_)
          refine Tri.condP (p := strLe ((en (nd ns i).ents j).name) ((en (nd ns i).ents (j - 1)).name)) (fun _ => by kernel_rfl) (fun h138 => ?_) (fun h138 => ?_)
          ·
           refine Tri.seq (Tri.region ?_)
           refine TriL.segK (k' := 1) (fr' := [(2, .int .i64 140)]) (obl := []) [o_] [2] (fun _ _ => by kernel_rfl) trivial ?_
           refine TriL.nil (by kernel_rfl) (TriQ.next (Tri.ret (TriQ.passRet (TriQ.blockRet (TriQ.passRet (TriQ.passRet (TriQ.blockRet (TriQ.blockRet (TriQ.passRet (TriQ.passRet (TriQ.blockRet (TriQ.passRet ?_))))))))))))
           exact TriQ.ret (v := .int .i64 140) (l := []) (obl := []) [] [2] (fun _ => by kernel_rfl) trivial rfl (by kernel_rfl) (⟨congrArg (Value.int .i64) (if_neg (c := GraphOk ns) (fun h => by have h1 := (h.ents i (by omega) j (by omega)).ord; rw [prevName_pos (by omega)] at h1; exact h1 h138)).symm, rfl⟩)
          ·
           refine Tri.skip (TriQ.next (Tri.seq (Tri.region ?_)))
           refine TriL.segK (k' := 7) (fr' := [(1, .pointer (some ⟨b1, 0, none⟩)), (6, .slice (some ⟨b3, 0, none⟩) (ns.length) (ns.length)), (8, .int .i64 ↑i), (9, .int .i64 ↑j), (11, .int .i64 (atI ns (en (nd ns i).ents j).id)), (145, .bool (decide (((nd ns (tgt ns (en (nd ns i).ents j).id)).kind : Int) = (2 : Int))))]) (obl := [(Rd β ⟨(blkOf A), offOf A + (tgt ns (en (nd ns i).ents j).id) * 10 + 1, none⟩ (.int .i64 ((nd ns (tgt ns (en (nd ns i).ents j).id)).kind))), atI ns (en (nd ns i).ents j).id = (((tgt ns (en (nd ns i).ents j).id) : Nat) : Int), (tgt ns (en (nd ns i).ents j).id) < ns.length, (⟨(blkOf A), offOf A, none⟩ : Addr).spot = none, (A : Option Addr) = some ⟨(blkOf A), offOf A, none⟩, b1 = b1]) [o_, ⟨[.at 0], none, none, none, none⟩, o_, ⟨[], some (tgt ns (en (nd ns i).ents j).id), none, some ⟨(blkOf A), offOf A, none⟩, none⟩, o_, ⟨[.old (.int .i64 ((nd ns (tgt ns (en (nd ns i).ents j).id)).kind))], none, none, none, none⟩, o_] [1, 6, 8, 9, 11, 145] (fun _ _ => by kernel_rfl) ⟨GraphAt.rd hG (i := (tgt ns (en (nd ns i).ents j).id)) (by omega) (j := 1) rfl, htl.2.2, by omega, rfl, GraphAt.hd hG (i := (tgt ns (en (nd ns i).ents j).id)) (by omega), rfl, trivial⟩ ?_
           refine TriL.nil (by kernel_rfl) (TriQ.next ?_)
           refine Tri.condP (p := ((nd ns (tgt ns (en (nd ns i).ents j).id)).kind : Int) = (2 : Int)) (fun _ => by kernel_rfl) (fun h145 => ?_) (fun h145 => ?_)
           ·
            refine Tri.seq (Tri.seq (Tri.region ?_))
            refine TriL.segK (k' := 5) (fr' := [(1, .pointer (some ⟨b1, 0, none⟩)), (6, .slice (some ⟨b3, 0, none⟩) (ns.length) (ns.length)), (8, .int .i64 ↑i), (9, .int .i64 ↑j), (11, .int .i64 (atI ns (en (nd ns i).ents j).id)), (150, .bool (decide (((pl2.getD (tgt ns (en (nd ns i).ents j).id) 0) : Int) ≥ (0 : Int))))]) (obl := [(∀ F w, (RowA 3 1 (some ⟨b3, 0, none⟩) ns.length ns.length (intsV pl2)).h F w → w.cell? ⟨b3, (tgt ns (en (nd ns i).ents j).id), none⟩ = some (.int .i64 ((pl2.getD (tgt ns (en (nd ns i).ents j).id) 0)))), (Value.pointer (some ⟨b3, 0 + (tgt ns (en (nd ns i).ents j).id) * 1, none⟩)) = (.pointer (some ⟨b3, (tgt ns (en (nd ns i).ents j).id), none⟩)), atI ns (en (nd ns i).ents j).id = (((tgt ns (en (nd ns i).ents j).id) : Nat) : Int), (tgt ns (en (nd ns i).ents j).id) < ns.length, (⟨b3, 0, none⟩ : Addr).spot = none]) [o_, o_, ⟨[], some (tgt ns (en (nd ns i).ents j).id), none, none, some (.pointer (some ⟨b3, (tgt ns (en (nd ns i).ents j).id), none⟩))⟩, ⟨[.view 1 (.int .i64 ((pl2.getD (tgt ns (en (nd ns i).ents j).id) 0)))], none, none, none, none⟩, o_] [1, 6, 8, 9, 11, 150] (fun _ _ => by kernel_rfl) ⟨RowA.cell (intsV_get (by omega)), by simp, htl.2.2, by omega, rfl, trivial⟩ ?_
            refine TriL.nil (by kernel_rfl) (TriQ.next ?_)
            refine Tri.condP (p := ((pl2.getD (tgt ns (en (nd ns i).ents j).id) 0) : Int) ≥ (0 : Int)) (fun _ => by kernel_rfl) (fun h150 => ?_) (fun h150 => ?_)
            ·
             refine Tri.seq (Tri.region ?_)
             refine TriL.segK (k' := 1) (fr' := [(2, .int .i64 140)]) (obl := []) [o_] [2] (fun _ _ => by kernel_rfl) trivial ?_
             refine TriL.nil (by kernel_rfl) (TriQ.next (Tri.ret (TriQ.passRet (TriQ.blockRet (TriQ.passRet (TriQ.passRet (TriQ.blockRet (TriQ.blockRet (TriQ.passRet (TriQ.passRet (TriQ.blockRet (TriQ.passRet ?_))))))))))))
             exact TriQ.ret (v := .int .i64 140) (l := []) (obl := []) [] [2] (fun _ => by kernel_rfl) trivial rfl (by kernel_rfl) (⟨congrArg (Value.int .i64) (if_neg (c := GraphOk ns) (fun h => by have h1 : parI (rowE ns i j ++ allE ns i) (tgt ns (en (nd ns i).ents j).id) < 0 := parI_none.2 (rowOk_fresh (h.row (by omega)) (by omega) h145); rw [← hpar2.at_ (tgt ns (en (nd ns i).ents j).id) (by omega)] at h1; omega)).symm, rfl⟩)
            ·
             refine Tri.skip (TriQ.next (Tri.region ?_))
             refine TriL.segK (k' := 4) (fr' := [(1, .pointer (some ⟨b1, 0, none⟩)), (6, .slice (some ⟨b3, 0, none⟩) (ns.length) (ns.length)), (8, .int .i64 ↑i), (9, .int .i64 ↑j), (153, .int .i64 ↑i), (154, .pointer (some ⟨b3, (tgt ns (en (nd ns i).ents j).id), none⟩))]) (obl := [(Value.pointer (some ⟨b3, 0 + (tgt ns (en (nd ns i).ents j).id) * 1, none⟩)) = (.pointer (some ⟨b3, (tgt ns (en (nd ns i).ents j).id), none⟩)), atI ns (en (nd ns i).ents j).id = (((tgt ns (en (nd ns i).ents j).id) : Nat) : Int), (tgt ns (en (nd ns i).ents j).id) < ns.length, (⟨b3, 0, none⟩ : Addr).spot = none]) [o_, o_, o_, ⟨[], some (tgt ns (en (nd ns i).ents j).id), none, none, some (.pointer (some ⟨b3, (tgt ns (en (nd ns i).ents j).id), none⟩))⟩] [1, 6, 8, 9, 153, 154] (fun _ _ => by kernel_rfl) ⟨by simp, htl.2.2, by omega, rfl, trivial⟩ ?_
             refine TriL.rowSet 1 ((tgt ns (en (nd ns i).ents j).id)) (d := none) (T := 3) (e := 3) (size := 1) (n := ns.length) (cap := ns.length) (g := b3) (xs := (intsV pl2)) (u := .int .i64 ↑i) (a := (.tmp 154)) (y := (.tmp 153)) (fun _ => by kernel_rfl) (by kernel_rfl) (fun _ => by kernel_rfl) (fun _ => by kernel_rfl) (by kernel_rfl) rfl (by rw [intsV, List.length_map]; omega) ?_
             refine TriL.partEq 1 (p := .abs (RowA 3 1 (some ⟨b3, 0, none⟩) ns.length ns.length ((intsV pl2).set ((tgt ns (en (nd ns i).ents j).id)) (.int .i64 ↑i)))) (p' := .abs (RowA 3 1 (some ⟨b3, 0, none⟩) ns.length ns.length (intsV (pl2.set (tgt ns (en (nd ns i).ents j).id) ((i : Nat) : Int))))) (by kernel_rfl) (by rw [intsV_set]) ?_
             refine TriL.nil (by kernel_rfl) (TriQ.blockNormal (TriQ.next (Tri.region ?_)))
             refine TriL.segK (k' := 3) (fr' := [(1, .pointer (some ⟨b1, 0, none⟩)), (6, .slice (some ⟨b3, 0, none⟩) (ns.length) (ns.length)), (8, .int .i64 ↑i), (9, .int .i64 ↑(j + 1))]) (obl := [(Value.int .i64 (IntKind.wrap .i64 (((j : Nat) : Int) + 1))) = (.int .i64 ↑(j + 1))]) [o_, ⟨[], none, none, none, some (.int .i64 ↑(j + 1))⟩, o_] [1, 6, 8, 9] (fun _ _ => by kernel_rfl) ⟨wrapEq (by omega) (by omega) (by omega), trivial⟩ ?_
             refine TriL.nil (by kernel_rfl) ?_
             exact TriQ.turn ((j + 1), (pl2.set (tgt ns (en (nd ns i).ents j).id) ((i : Nat) : Int))) (idx := [1, 6, 8, 9]) (pk := [0, 1, 2]) (show (((j + 1)) ≤ (nd ns i).ents.length) ∧ (∀ t, t < ((j + 1)) → EntOk ns i t) ∧ (((rowE ns i ((j + 1)) ++ allE ns i).map Prod.fst).Nodup) ∧ (Par ns.length ((pl2.set (tgt ns (en (nd ns i).ents j).id) ((i : Nat) : Int))) (rowE ns i ((j + 1)) ++ allE ns i)) from ⟨by omega, fun t ht => (by rcases Nat.lt_succ_iff_lt_or_eq.1 ht with h | h; exact hok t h; subst h; exact entOk_of (Int.not_lt.1 h113) h119 (fun _ => h138)), (by rw [rowE_dir h145, List.cons_append, List.map_cons]; exact List.nodup_cons.2 ⟨show tgt ns (en (nd ns i).ents j).id ∉ _ from parI_none.1 (by rw [← hpar2.at_ (tgt ns (en (nd ns i).ents j).id) (by omega)]; omega), hnd2⟩), (by rw [rowE_dir h145]; exact hpar2.put (by omega))⟩) (by show (nd ns i).ents.length - ((j + 1)) < (nd ns i).ents.length - j; omega) (fun _ => by kernel_rfl) rfl (by kernel_rfl)
           ·
            refine Tri.skip (TriQ.blockNormal (TriQ.next (Tri.region ?_)))
            refine TriL.segK (k' := 3) (fr' := [(1, .pointer (some ⟨b1, 0, none⟩)), (6, .slice (some ⟨b3, 0, none⟩) (ns.length) (ns.length)), (8, .int .i64 ↑i), (9, .int .i64 ↑(j + 1))]) (obl := [(Value.int .i64 (IntKind.wrap .i64 (((j : Nat) : Int) + 1))) = (.int .i64 ↑(j + 1))]) [o_, ⟨[], none, none, none, some (.int .i64 ↑(j + 1))⟩, o_] [1, 6, 8, 9] (fun _ _ => by kernel_rfl) ⟨wrapEq (by omega) (by omega) (by omega), trivial⟩ ?_
            refine TriL.nil (by kernel_rfl) ?_
            exact TriQ.turn ((j + 1), pl2) (idx := [1, 6, 8, 9]) (pk := [0, 1, 2]) (show (((j + 1)) ≤ (nd ns i).ents.length) ∧ (∀ t, t < ((j + 1)) → EntOk ns i t) ∧ (((rowE ns i ((j + 1)) ++ allE ns i).map Prod.fst).Nodup) ∧ (Par ns.length pl2 (rowE ns i ((j + 1)) ++ allE ns i)) from ⟨by omega, fun t ht => (by rcases Nat.lt_succ_iff_lt_or_eq.1 ht with h | h; exact hok t h; subst h; exact entOk_of (Int.not_lt.1 h113) h119 (fun _ => h138)), (by rw [rowE_skip h145]; exact hnd2), (by rw [rowE_skip h145]; exact hpar2)⟩) (by show (nd ns i).ents.length - ((j + 1)) < (nd ns i).ents.length - j; omega) (fun _ => by kernel_rfl) rfl (by kernel_rfl)
         ·
          refine TriLQ.seg (k' := 28) (fr' := [(1, .pointer (some ⟨b1, 0, none⟩)), (6, .slice (some ⟨b3, 0, none⟩) (ns.length) (ns.length)), (8, .int .i64 ↑i), (9, .int .i64 ↑j), (11, .int .i64 (atI ns (en (nd ns i).ents j).id)), (138, .bool false)]) (obl := []) [o_, o_, o_, o_, o_, o_, o_, o_, o_, o_, o_, o_, o_, o_, o_, o_] [1, 6, 8, 9, 11, 138] (fun _ _ => by kernel_rfl) trivial ?_
          refine TriLQ.nil (by kernel_rfl) (TriQ.next ?_)
          refine Tri.condF (fun _ => by kernel_rfl) ?_
          refine Tri.skip (TriQ.next (Tri.seq (Tri.region ?_)))
          refine TriL.segK (k' := 7) (fr' := [(1, .pointer (some ⟨b1, 0, none⟩)), (6, .slice (some ⟨b3, 0, none⟩) (ns.length) (ns.length)), (8, .int .i64 ↑i), (9, .int .i64 ↑j), (11, .int .i64 (atI ns (en (nd ns i).ents j).id)), (145, .bool (decide (((nd ns (tgt ns (en (nd ns i).ents j).id)).kind : Int) = (2 : Int))))]) (obl := [(Rd β ⟨(blkOf A), offOf A + (tgt ns (en (nd ns i).ents j).id) * 10 + 1, none⟩ (.int .i64 ((nd ns (tgt ns (en (nd ns i).ents j).id)).kind))), atI ns (en (nd ns i).ents j).id = (((tgt ns (en (nd ns i).ents j).id) : Nat) : Int), (tgt ns (en (nd ns i).ents j).id) < ns.length, (⟨(blkOf A), offOf A, none⟩ : Addr).spot = none, (A : Option Addr) = some ⟨(blkOf A), offOf A, none⟩, b1 = b1]) [o_, ⟨[.at 0], none, none, none, none⟩, o_, ⟨[], some (tgt ns (en (nd ns i).ents j).id), none, some ⟨(blkOf A), offOf A, none⟩, none⟩, o_, ⟨[.old (.int .i64 ((nd ns (tgt ns (en (nd ns i).ents j).id)).kind))], none, none, none, none⟩, o_] [1, 6, 8, 9, 11, 145] (fun _ _ => by kernel_rfl) ⟨GraphAt.rd hG (i := (tgt ns (en (nd ns i).ents j).id)) (by omega) (j := 1) rfl, htl.2.2, by omega, rfl, GraphAt.hd hG (i := (tgt ns (en (nd ns i).ents j).id)) (by omega), rfl, trivial⟩ ?_
          refine TriL.nil (by kernel_rfl) (TriQ.next ?_)
          refine Tri.condP (p := ((nd ns (tgt ns (en (nd ns i).ents j).id)).kind : Int) = (2 : Int)) (fun _ => by kernel_rfl) (fun h145 => ?_) (fun h145 => ?_)
          ·
           refine Tri.seq (Tri.seq (Tri.region ?_))
           refine TriL.segK (k' := 5) (fr' := [(1, .pointer (some ⟨b1, 0, none⟩)), (6, .slice (some ⟨b3, 0, none⟩) (ns.length) (ns.length)), (8, .int .i64 ↑i), (9, .int .i64 ↑j), (11, .int .i64 (atI ns (en (nd ns i).ents j).id)), (150, .bool (decide (((pl2.getD (tgt ns (en (nd ns i).ents j).id) 0) : Int) ≥ (0 : Int))))]) (obl := [(∀ F w, (RowA 3 1 (some ⟨b3, 0, none⟩) ns.length ns.length (intsV pl2)).h F w → w.cell? ⟨b3, (tgt ns (en (nd ns i).ents j).id), none⟩ = some (.int .i64 ((pl2.getD (tgt ns (en (nd ns i).ents j).id) 0)))), (Value.pointer (some ⟨b3, 0 + (tgt ns (en (nd ns i).ents j).id) * 1, none⟩)) = (.pointer (some ⟨b3, (tgt ns (en (nd ns i).ents j).id), none⟩)), atI ns (en (nd ns i).ents j).id = (((tgt ns (en (nd ns i).ents j).id) : Nat) : Int), (tgt ns (en (nd ns i).ents j).id) < ns.length, (⟨b3, 0, none⟩ : Addr).spot = none]) [o_, o_, ⟨[], some (tgt ns (en (nd ns i).ents j).id), none, none, some (.pointer (some ⟨b3, (tgt ns (en (nd ns i).ents j).id), none⟩))⟩, ⟨[.view 1 (.int .i64 ((pl2.getD (tgt ns (en (nd ns i).ents j).id) 0)))], none, none, none, none⟩, o_] [1, 6, 8, 9, 11, 150] (fun _ _ => by kernel_rfl) ⟨RowA.cell (intsV_get (by omega)), by simp, htl.2.2, by omega, rfl, trivial⟩ ?_
           refine TriL.nil (by kernel_rfl) (TriQ.next ?_)
           refine Tri.condP (p := ((pl2.getD (tgt ns (en (nd ns i).ents j).id) 0) : Int) ≥ (0 : Int)) (fun _ => by kernel_rfl) (fun h150 => ?_) (fun h150 => ?_)
           ·
            refine Tri.seq (Tri.region ?_)
            refine TriL.segK (k' := 1) (fr' := [(2, .int .i64 140)]) (obl := []) [o_] [2] (fun _ _ => by kernel_rfl) trivial ?_
            refine TriL.nil (by kernel_rfl) (TriQ.next (Tri.ret (TriQ.passRet (TriQ.blockRet (TriQ.passRet (TriQ.passRet (TriQ.blockRet (TriQ.blockRet (TriQ.passRet (TriQ.passRet (TriQ.blockRet (TriQ.passRet ?_))))))))))))
            exact TriQ.ret (v := .int .i64 140) (l := []) (obl := []) [] [2] (fun _ => by kernel_rfl) trivial rfl (by kernel_rfl) (⟨congrArg (Value.int .i64) (if_neg (c := GraphOk ns) (fun h => by have h1 : parI (rowE ns i j ++ allE ns i) (tgt ns (en (nd ns i).ents j).id) < 0 := parI_none.2 (rowOk_fresh (h.row (by omega)) (by omega) h145); rw [← hpar2.at_ (tgt ns (en (nd ns i).ents j).id) (by omega)] at h1; omega)).symm, rfl⟩)
           ·
            refine Tri.skip (TriQ.next (Tri.region ?_))
            refine TriL.segK (k' := 4) (fr' := [(1, .pointer (some ⟨b1, 0, none⟩)), (6, .slice (some ⟨b3, 0, none⟩) (ns.length) (ns.length)), (8, .int .i64 ↑i), (9, .int .i64 ↑j), (153, .int .i64 ↑i), (154, .pointer (some ⟨b3, (tgt ns (en (nd ns i).ents j).id), none⟩))]) (obl := [(Value.pointer (some ⟨b3, 0 + (tgt ns (en (nd ns i).ents j).id) * 1, none⟩)) = (.pointer (some ⟨b3, (tgt ns (en (nd ns i).ents j).id), none⟩)), atI ns (en (nd ns i).ents j).id = (((tgt ns (en (nd ns i).ents j).id) : Nat) : Int), (tgt ns (en (nd ns i).ents j).id) < ns.length, (⟨b3, 0, none⟩ : Addr).spot = none]) [o_, o_, o_, ⟨[], some (tgt ns (en (nd ns i).ents j).id), none, none, some (.pointer (some ⟨b3, (tgt ns (en (nd ns i).ents j).id), none⟩))⟩] [1, 6, 8, 9, 153, 154] (fun _ _ => by kernel_rfl) ⟨by simp, htl.2.2, by omega, rfl, trivial⟩ ?_
            refine TriL.rowSet 1 ((tgt ns (en (nd ns i).ents j).id)) (d := none) (T := 3) (e := 3) (size := 1) (n := ns.length) (cap := ns.length) (g := b3) (xs := (intsV pl2)) (u := .int .i64 ↑i) (a := (.tmp 154)) (y := (.tmp 153)) (fun _ => by kernel_rfl) (by kernel_rfl) (fun _ => by kernel_rfl) (fun _ => by kernel_rfl) (by kernel_rfl) rfl (by rw [intsV, List.length_map]; omega) ?_
            refine TriL.partEq 1 (p := .abs (RowA 3 1 (some ⟨b3, 0, none⟩) ns.length ns.length ((intsV pl2).set ((tgt ns (en (nd ns i).ents j).id)) (.int .i64 ↑i)))) (p' := .abs (RowA 3 1 (some ⟨b3, 0, none⟩) ns.length ns.length (intsV (pl2.set (tgt ns (en (nd ns i).ents j).id) ((i : Nat) : Int))))) (by kernel_rfl) (by rw [intsV_set]) ?_
            refine TriL.nil (by kernel_rfl) (TriQ.blockNormal (TriQ.next (Tri.region ?_)))
            refine TriL.segK (k' := 3) (fr' := [(1, .pointer (some ⟨b1, 0, none⟩)), (6, .slice (some ⟨b3, 0, none⟩) (ns.length) (ns.length)), (8, .int .i64 ↑i), (9, .int .i64 ↑(j + 1))]) (obl := [(Value.int .i64 (IntKind.wrap .i64 (((j : Nat) : Int) + 1))) = (.int .i64 ↑(j + 1))]) [o_, ⟨[], none, none, none, some (.int .i64 ↑(j + 1))⟩, o_] [1, 6, 8, 9] (fun _ _ => by kernel_rfl) ⟨wrapEq (by omega) (by omega) (by omega), trivial⟩ ?_
            refine TriL.nil (by kernel_rfl) ?_
            exact TriQ.turn ((j + 1), (pl2.set (tgt ns (en (nd ns i).ents j).id) ((i : Nat) : Int))) (idx := [1, 6, 8, 9]) (pk := [0, 1, 2]) (show (((j + 1)) ≤ (nd ns i).ents.length) ∧ (∀ t, t < ((j + 1)) → EntOk ns i t) ∧ (((rowE ns i ((j + 1)) ++ allE ns i).map Prod.fst).Nodup) ∧ (Par ns.length ((pl2.set (tgt ns (en (nd ns i).ents j).id) ((i : Nat) : Int))) (rowE ns i ((j + 1)) ++ allE ns i)) from ⟨by omega, fun t ht => (by rcases Nat.lt_succ_iff_lt_or_eq.1 ht with h | h; exact hok t h; subst h; exact entOk_of (Int.not_lt.1 h113) h119 (fun h => absurd h (by omega))), (by rw [rowE_dir h145, List.cons_append, List.map_cons]; exact List.nodup_cons.2 ⟨show tgt ns (en (nd ns i).ents j).id ∉ _ from parI_none.1 (by rw [← hpar2.at_ (tgt ns (en (nd ns i).ents j).id) (by omega)]; omega), hnd2⟩), (by rw [rowE_dir h145]; exact hpar2.put (by omega))⟩) (by show (nd ns i).ents.length - ((j + 1)) < (nd ns i).ents.length - j; omega) (fun _ => by kernel_rfl) rfl (by kernel_rfl)
          ·
           refine Tri.skip (TriQ.blockNormal (TriQ.next (Tri.region ?_)))
           refine TriL.segK (k' := 3) (fr' := [(1, .pointer (some ⟨b1, 0, none⟩)), (6, .slice (some ⟨b3, 0, none⟩) (ns.length) (ns.length)), (8, .int .i64 ↑i), (9, .int .i64 ↑(j + 1))]) (obl := [(Value.int .i64 (IntKind.wrap .i64 (((j : Nat) : Int) + 1))) = (.int .i64 ↑(j + 1))]) [o_, ⟨[], none, none, none, some (.int .i64 ↑(j + 1))⟩, o_] [1, 6, 8, 9] (fun _ _ => by kernel_rfl) ⟨wrapEq (by omega) (by omega) (by omega), trivial⟩ ?_
           refine TriL.nil (by kernel_rfl) ?_
           exact TriQ.turn ((j + 1), pl2) (idx := [1, 6, 8, 9]) (pk := [0, 1, 2]) (show (((j + 1)) ≤ (nd ns i).ents.length) ∧ (∀ t, t < ((j + 1)) → EntOk ns i t) ∧ (((rowE ns i ((j + 1)) ++ allE ns i).map Prod.fst).Nodup) ∧ (Par ns.length pl2 (rowE ns i ((j + 1)) ++ allE ns i)) from ⟨by omega, fun t ht => (by rcases Nat.lt_succ_iff_lt_or_eq.1 ht with h | h; exact hok t h; subst h; exact entOk_of (Int.not_lt.1 h113) h119 (fun h => absurd h (by omega))), (by rw [rowE_skip h145]; exact hnd2), (by rw [rowE_skip h145]; exact hpar2)⟩) (by show (nd ns i).ents.length - ((j + 1)) < (nd ns i).ents.length - j; omega) (fun _ => by kernel_rfl) rfl (by kernel_rfl)
      ·
       refine Tri.exit (TriQ.passExit (TriQ.passExit (TriQ.blockHit (TriQ.blockNormal (TriQ.next (Tri.region ?_))))))
       refine TriL.segK (k' := 3) (fr' := [(1, .pointer (some ⟨b1, 0, none⟩)), (6, .slice (some ⟨b3, 0, none⟩) (ns.length) (ns.length)), (8, .int .i64 ↑(i + 1))]) (obl := [(Value.int .i64 (IntKind.wrap .i64 (((i : Nat) : Int) + 1))) = (.int .i64 ↑(i + 1))]) [o_, ⟨[], none, none, none, some (.int .i64 ↑(i + 1))⟩, o_] [1, 6, 8] (fun _ _ => by kernel_rfl) ⟨wrapEq (by omega) (by omega) (by omega), trivial⟩ ?_
       refine TriL.nil (by kernel_rfl) ?_
       exact TriQ.turn ((i + 1), pl2) (idx := [1, 6, 8]) (pk := [0, 1, 2]) (show (((i + 1)) ≤ ns.length) ∧ (∀ a, a < ((i + 1)) → ∀ j, j < (nd ns a).ents.length → EntOk ns a j) ∧ (((allE ns ((i + 1))).map Prod.fst).Nodup) ∧ (Par ns.length pl2 (allE ns ((i + 1)))) from ⟨by omega, fun a ha => (by rcases Nat.lt_succ_iff_lt_or_eq.1 ha with h | h; exact hents a h; subst h; exact fun j' hj' => hok j' (by omega)), (by have := hnd2; rwa [show j = (nd ns i).ents.length by omega] at this), (by have := hpar2; rwa [show j = (nd ns i).ents.length by omega] at this)⟩) (by show ns.length - ((i + 1)) < ns.length - i; omega) (fun _ => by kernel_rfl) rfl (by kernel_rfl)
     ·
      refine Tri.exit (TriQ.passExit (TriQ.passExit (TriQ.blockHit (TriQ.next (Tri.seq (Tri.seq (Tri.region ?_)))))))
      refine TriL.segK (k' := 1) (fr' := [(6, .slice (some ⟨b3, 0, none⟩) (ns.length) (ns.length)), (12, .int .i64 0)]) (obl := []) [o_] [6, 12] (fun _ _ => by kernel_rfl) trivial ?_
      refine TriL.nil (by kernel_rfl) (TriQ.next (Tri.block ?_))
      have hparN : Par ns.length pl1 (allE ns ns.length) := by have := hpar; rwa [show i = ns.length by omega] at this
      have hed := allE_fst (ns := ns) (Nat.le_refl _) (fun a ha => hents a (by omega))
      refine Tri.loop (ι := Nat) (fun (a : Nat) => (a ≤ ns.length) ∧ (∀ b, b < a → Ends ((allE ns ns.length).map (idP ns)) (nd ns b).id)) (fun (a : Nat) => ns.length - a) (fun (a : Nat) => [(6, .slice (some ⟨b3, 0, none⟩) (ns.length) (ns.length)), (12, .int .i64 ↑a)]) (fun (a : Nat) => [.abs (RowA 3 1 (some ⟨b3, 0, none⟩) ns.length ns.length (intsV pl1)), .abs R]) 0 (idx := [6, 12]) (pk := [1, 2]) (show (0 ≤ ns.length) ∧ (∀ b, b < 0 → Ends ((allE ns ns.length).map (idP ns)) (nd ns b).id) from ⟨Nat.zero_le _, fun b hb => absurd hb (Nat.not_lt_zero b)⟩) (fun _ => by kernel_rfl) rfl (by kernel_rfl) ?_
      rintro a ⟨ha, hend⟩
      show Tri _ _ _ _ [(6, .slice (some ⟨b3, 0, none⟩) (ns.length) (ns.length)), (12, .int .i64 ↑a)] [.abs (RowA 3 1 (some ⟨b3, 0, none⟩) ns.length ns.length (intsV pl1)), .abs R] _
      have hln := hpar.len
      refine Tri.seq (Tri.seq (Tri.region ?_))
      refine TriL.segK (k' := 4) (fr' := [(6, .slice (some ⟨b3, 0, none⟩) (ns.length) (ns.length)), (12, .int .i64 ↑a), (158, .bool (decide ((((a : Nat) : Int) : Int) < (((ns.length : Nat) : Int) : Int))))]) (obl := []) [o_, o_, o_, o_] [6, 12, 158] (fun _ _ => by kernel_rfl) trivial ?_
      refine TriL.nil (by kernel_rfl) (TriQ.next ?_)
      refine Tri.condP (p := (((a : Nat) : Int) : Int) < (((ns.length : Nat) : Int) : Int)) (fun _ => by kernel_rfl) (fun h158 => ?_) (fun h158 => ?_)
      ·
       refine Tri.skip (TriQ.next (Tri.seq (Tri.block (Tri.seq (Tri.region ?_)))))
       refine TriL.segK (k' := 5) (fr' := [(6, .slice (some ⟨b3, 0, none⟩) (ns.length) (ns.length)), (12, .int .i64 ↑a), (13, .int .i64 ((pl1.getD a 0)))]) (obl := [(∀ F w, (RowA 3 1 (some ⟨b3, 0, none⟩) ns.length ns.length (intsV pl1)).h F w → w.cell? ⟨b3, a, none⟩ = some (.int .i64 ((pl1.getD a 0)))), (Value.pointer (some ⟨b3, 0 + a * 1, none⟩)) = (.pointer (some ⟨b3, a, none⟩)), ((a : Nat) : Int) = ((a : Nat) : Int), a < ns.length, (⟨b3, 0, none⟩ : Addr).spot = none]) [o_, o_, ⟨[], some a, none, none, some (.pointer (some ⟨b3, a, none⟩))⟩, ⟨[.view 0 (.int .i64 ((pl1.getD a 0)))], none, none, none, none⟩, o_] [6, 12, 13] (fun _ _ => by kernel_rfl) ⟨RowA.cell (intsV_get (by omega)), by simp, rfl, by omega, rfl, trivial⟩ ?_
       refine TriL.nil (by kernel_rfl) (TriQ.next (Tri.seq (Tri.region ?_)))
       refine TriL.segK (k' := 1) (fr' := [(6, .slice (some ⟨b3, 0, none⟩) (ns.length) (ns.length)), (12, .int .i64 ↑a), (13, .int .i64 ((pl1.getD a 0))), (14, .int .i64 0)]) (obl := []) [o_] [6, 12, 13, 14] (fun _ _ => by kernel_rfl) trivial ?_
       refine TriL.nil (by kernel_rfl) (TriQ.next (Tri.block ?_))
       refine Tri.loop (ι := Int × Nat × (List Int)) (fun ((at_, step, w) : Int × Nat × (List Int)) => ((at_ < 0 ∧ Ends ((allE ns ns.length).map (idP ns)) (nd ns a).id) ∨ ∃ q : Nat, at_ = (q : Int) ∧ q < ns.length ∧ Way ((allE ns ns.length).map (idP ns)) (nd ns a).id w (nd ns q).id ∧ w.length = step + 1)) (fun ((at_, step, w) : Int × Nat × (List Int)) => ns.length + 2 - step) (fun ((at_, step, w) : Int × Nat × (List Int)) => [(6, .slice (some ⟨b3, 0, none⟩) (ns.length) (ns.length)), (12, .int .i64 ↑a), (13, .int .i64 (at_)), (14, .int .i64 ↑step)]) (fun ((at_, step, w) : Int × Nat × (List Int)) => [.abs (RowA 3 1 (some ⟨b3, 0, none⟩) ns.length ns.length (intsV pl1)), .abs R]) ((pl1.getD a 0), 0, [(nd ns a).id]) (idx := [6, 12, 13, 14]) (pk := [0, 1]) (show ((((pl1.getD a 0)) < 0 ∧ Ends ((allE ns ns.length).map (idP ns)) (nd ns a).id) ∨ ∃ q : Nat, ((pl1.getD a 0)) = (q : Int) ∧ q < ns.length ∧ Way ((allE ns ns.length).map (idP ns)) (nd ns a).id ([(nd ns a).id]) (nd ns q).id ∧ ([(nd ns a).id]).length = 0 + 1) from way_next hrise hed hparN (by omega) .nil rfl) (fun _ => by kernel_rfl) rfl (by kernel_rfl) ?_
       rintro ⟨at_, step, w⟩ hst
       show Tri _ _ _ _ [(6, .slice (some ⟨b3, 0, none⟩) (ns.length) (ns.length)), (12, .int .i64 ↑a), (13, .int .i64 (at_)), (14, .int .i64 ↑step)] [.abs (RowA 3 1 (some ⟨b3, 0, none⟩) ns.length ns.length (intsV pl1)), .abs R] _
       refine Tri.seq (Tri.seq (Tri.region ?_))
       refine TriL.segK (k' := 2) (fr' := [(6, .slice (some ⟨b3, 0, none⟩) (ns.length) (ns.length)), (12, .int .i64 ↑a), (13, .int .i64 (at_)), (14, .int .i64 ↑step), (166, .bool (decide ((at_ : Int) ≥ (0 : Int))))]) (obl := []) [o_, o_] [6, 12, 13, 14, 166] (fun _ _ => by kernel_rfl) trivial ?_
       refine TriL.nil (by kernel_rfl) (TriQ.next ?_)
       refine Tri.condP (p := (at_ : Int) ≥ (0 : Int)) (fun _ => by kernel_rfl) (fun h166 => ?_) (fun h166 => ?_)
       ·
        obtain ⟨b, hb0, hb1, hb2, hb3⟩ := hst.resolve_left (fun h => by omega)
        refine Tri.skip (TriQ.next (Tri.seq (Tri.block (Tri.seq (Tri.seq (Tri.region ?_))))))
        refine TriL.segK (k' := 4) (fr' := [(6, .slice (some ⟨b3, 0, none⟩) (ns.length) (ns.length)), (12, .int .i64 ↑a), (13, .int .i64 (at_)), (14, .int .i64 ↑step), (172, .bool (decide ((at_ : Int) = (((a : Nat) : Int) : Int))))]) (obl := []) [o_, o_, o_, o_] [6, 12, 13, 14, 172] (fun _ _ => by kernel_rfl) trivial ?_
        refine TriL.slotP 172 ((at_ : Int) = (((a : Nat) : Int) : Int)) (fun _ => by kernel_rfl) (fun h172 => ?_) (fun h172 => ?_)
        ·
         refine TriL.segK (k' := 9) (fr' := [(6, .slice (some ⟨b3, 0, none⟩) (ns.length) (ns.length)), (12, .int .i64 ↑a), (13, .int .i64 (at_)), (14, .int .i64 ↑step), (177, .bool true)]) (obl := []) [o_, o_, o_, o_, o_] [6, 12, 13, 14, 177] (fun _ _ => by kernel_rfl) trivial ?_
         refine TriL.nil (by kernel_rfl) (TriQ.next ?_)
         refine Tri.condT (fun _ => by kernel_rfl) ?_
         refine Tri.seq (Tri.region ?_)
         refine TriL.segK (k' := 1) (fr' := [(2, .int .i64 140)]) (obl := []) [o_] [2] (fun _ _ => by kernel_rfl) trivial ?_
         refine TriL.nil (by kernel_rfl) (TriQ.next (Tri.ret (TriQ.passRet (TriQ.blockRet (TriQ.passRet (TriQ.passRet (TriQ.blockRet (TriQ.blockRet (TriQ.passRet (TriQ.passRet (TriQ.blockRet (TriQ.passRet ?_))))))))))))
         exact TriQ.ret (v := .int .i64 140) (l := []) (obl := []) [] [1] (fun _ => by kernel_rfl) trivial rfl (by kernel_rfl) (⟨congrArg (Value.int .i64) (if_neg (c := GraphOk ns) (fun h => by rw [show b = a by omega] at hb2; exact hb2.back (by omega) (h.ends _))).symm, rfl⟩)
        ·
         refine TriL.segK (k' := 9) (fr' := [(6, .slice (some ⟨b3, 0, none⟩) (ns.length) (ns.length)), (12, .int .i64 ↑a), (13, .int .i64 (at_)), (14, .int .i64 ↑step), (177, .bool (decide ((((step : Nat) : Int) : Int) > (((ns.length : Nat) : Int) : Int))))]) (obl := []) [o_, o_, o_, o_, o_] [6, 12, 13, 14, 177] (fun _ _ => by kernel_rfl) trivial ?_
         refine TriL.nil (by kernel_rfl) (TriQ.next ?_)
         refine Tri.condP (p := (((step : Nat) : Int) : Int) > (((ns.length : Nat) : Int) : Int)) (fun _ => by kernel_rfl) (fun h177 => ?_) (fun h177 => ?_)
         ·
          refine Tri.seq (Tri.region ?_)
          refine TriL.segK (k' := 1) (fr' := [(2, .int .i64 140)]) (obl := []) [o_] [2] (fun _ _ => by kernel_rfl) trivial ?_
          refine TriL.nil (by kernel_rfl) (TriQ.next (Tri.ret (TriQ.passRet (TriQ.blockRet (TriQ.passRet (TriQ.passRet (TriQ.blockRet (TriQ.blockRet (TriQ.passRet (TriQ.passRet (TriQ.blockRet (TriQ.passRet ?_))))))))))))
          exact TriQ.ret (v := .int .i64 140) (l := []) (obl := []) [] [1] (fun _ => by kernel_rfl) trivial rfl (by kernel_rfl) (⟨congrArg (Value.int .i64) (if_neg (c := GraphOk ns) (fun h => by exact hb2.never (by have := h.few; omega) (h.ends _))).symm, rfl⟩)
         ·
          refine Tri.skip (TriQ.next (Tri.region ?_))
          refine TriL.segK (k' := 5) (fr' := [(6, .slice (some ⟨b3, 0, none⟩) (ns.length) (ns.length)), (12, .int .i64 ↑a), (13, .int .i64 ((pl1.getD b 0))), (14, .int .i64 ↑step)]) (obl := [(∀ F w, (RowA 3 1 (some ⟨b3, 0, none⟩) ns.length ns.length (intsV pl1)).h F w → w.cell? ⟨b3, b, none⟩ = some (.int .i64 ((pl1.getD b 0)))), (Value.pointer (some ⟨b3, 0 + b * 1, none⟩)) = (.pointer (some ⟨b3, b, none⟩)), at_ = ((b : Nat) : Int), b < ns.length, (⟨b3, 0, none⟩ : Addr).spot = none]) [o_, o_, ⟨[], some b, none, none, some (.pointer (some ⟨b3, b, none⟩))⟩, ⟨[.view 0 (.int .i64 ((pl1.getD b 0)))], none, none, none, none⟩, o_] [6, 12, 13, 14] (fun _ _ => by kernel_rfl) ⟨RowA.cell (intsV_get (by omega)), by simp, hb0, by omega, rfl, trivial⟩ ?_
          refine TriL.nil (by kernel_rfl) (TriQ.blockNormal (TriQ.next (Tri.region ?_)))
          refine TriL.segK (k' := 3) (fr' := [(6, .slice (some ⟨b3, 0, none⟩) (ns.length) (ns.length)), (12, .int .i64 ↑a), (13, .int .i64 ((pl1.getD b 0))), (14, .int .i64 ↑(step + 1))]) (obl := [(Value.int .i64 (IntKind.wrap .i64 (((step : Nat) : Int) + 1))) = (.int .i64 ↑(step + 1))]) [o_, ⟨[], none, none, none, some (.int .i64 ↑(step + 1))⟩, o_] [6, 12, 13, 14] (fun _ _ => by kernel_rfl) ⟨wrapEq (by omega) (by omega) (by omega), trivial⟩ ?_
          refine TriL.nil (by kernel_rfl) ?_
          exact TriQ.turn ((pl1.getD b 0), (step + 1), (w ++ [(nd ns b).id])) (idx := [6, 12, 13, 14]) (pk := [0, 1]) (show ((((pl1.getD b 0)) < 0 ∧ Ends ((allE ns ns.length).map (idP ns)) (nd ns a).id) ∨ ∃ q : Nat, ((pl1.getD b 0)) = (q : Int) ∧ q < ns.length ∧ Way ((allE ns ns.length).map (idP ns)) (nd ns a).id ((w ++ [(nd ns b).id])) (nd ns q).id ∧ ((w ++ [(nd ns b).id])).length = ((step + 1)) + 1) from way_next hrise hed hparN hb1 hb2 hb3) (by show ns.length + 2 - ((step + 1)) < ns.length + 2 - step; omega) (fun _ => by kernel_rfl) rfl (by kernel_rfl)
       ·
        refine Tri.exit (TriQ.passExit (TriQ.passExit (TriQ.blockHit (TriQ.blockNormal (TriQ.next (Tri.region ?_))))))
        refine TriL.segK (k' := 3) (fr' := [(6, .slice (some ⟨b3, 0, none⟩) (ns.length) (ns.length)), (12, .int .i64 ↑(a + 1))]) (obl := [(Value.int .i64 (IntKind.wrap .i64 (((a : Nat) : Int) + 1))) = (.int .i64 ↑(a + 1))]) [o_, ⟨[], none, none, none, some (.int .i64 ↑(a + 1))⟩, o_] [6, 12] (fun _ _ => by kernel_rfl) ⟨wrapEq (by omega) (by omega) (by omega), trivial⟩ ?_
        refine TriL.nil (by kernel_rfl) ?_
        exact TriQ.turn ((a + 1)) (idx := [6, 12]) (pk := [0, 1]) (show (((a + 1)) ≤ ns.length) ∧ (∀ b, b < ((a + 1)) → Ends ((allE ns ns.length).map (idP ns)) (nd ns b).id) from ⟨by omega, fun b hb => by rcases Nat.lt_succ_iff_lt_or_eq.1 hb with h | h; exact hend b h; subst h; rcases hst with h2 | ⟨q, hq, _⟩; exact h2.2; omega⟩) (by show ns.length - ((a + 1)) < ns.length - a; omega) (fun _ => by kernel_rfl) rfl (by kernel_rfl)
      ·
       refine Tri.exit (TriQ.passExit (TriQ.passExit (TriQ.blockHit (TriQ.next (Tri.seq (Tri.region ?_))))))
       refine TriL.segK (k' := 1) (fr' := [(2, .int .i64 0)]) (obl := []) [o_] [2] (fun _ _ => by kernel_rfl) trivial ?_
       refine TriL.nil (by kernel_rfl) (TriQ.next (Tri.ret ?_))
       exact TriQ.ret (v := .int .i64 0) (l := []) (obl := []) [] [1] (fun _ => by kernel_rfl) trivial rfl (by kernel_rfl) (⟨congrArg (Value.int .i64) (if_pos (c := GraphOk ns) ⟨by omega, fun a ha => hu.node a (by omega), fun a ha => hu.ids a (by omega), hrise, by omega, fun a ha => hents a (by omega), by have := hnd; rwa [show i = ns.length by omega] at this, allEnd_of (fun p hp => (hed p hp).1) (fun b hb => hend b (by omega))⟩).symm, rfl⟩)
end Go.Proofs.Ytjpdcppdoonmdaa
end
/- part GW. PROVED HERE: what a law is told of its graph, as the contracts ask for it; the law's literals. CONDITIONS: none. -/
section
namespace Go.Proofs.Ytjpdcppdoonmdaa
open Go.RowKit
theorem B0.refl (W : World) : (B0 W).le (B0 W) := ⟨fun _ h => h, rfl, rfl, rfl, Nat.le_refl _, fun _ hk => ⟨hk, rfl⟩⟩
theorem Spec.val {P : Program} {β : Bs} {f : FuncId} {args : Array Value} {pre : List HP} {x y : Value} {l0 : List HP} (h : Spec P β f args pre (fun v l => v = x ∧ l = l0)) (e : x = y) : Spec P β f args pre (fun v l => v = y ∧ l = l0) := h.mono fun _ _ h => ⟨h.1.trans e, h.2⟩
section gb
variable {ns : List NodeM} {b : Nat}
theorem GraphB.mono {c : Nat} (h : GraphB ns b) (hb : b ≤ c) : GraphB ns c :=
  ⟨Nat.le_trans h.len hb, fun i hi => ⟨(h.node i hi).ids, Nat.le_trans (h.node i hi).data hb, Nat.le_trans (h.node i hi).target hb, Nat.le_trans (h.node i hi).ents hb, fun j hj => ⟨((h.node i hi).ent j hj).id, Nat.le_trans ((h.node i hi).ent j hj).name hb⟩⟩⟩
variable (h : GraphB ns 1048576)
include h
theorem GraphB.hl : ns.length ≤ 1048576 := by have := h.len; omega
theorem GraphB.hd : ∀ i, i < ns.length → (nd ns i).data.length ≤ 1048576 ∧ (nd ns i).ents.length ≤ 1048576 := fun i hi => by
  have h1 := (h.node i hi).data
  have h2 := (h.node i hi).ents
  omega
theorem GraphB.hwf : ∀ i, i < ns.length → ∀ j, j < (nd ns i).ents.length → -9223372036854775808 ≤ (ent ns i j).id ∧ (ent ns i j).id ≤ 9223372036854775807 := fun i hi j hj => ((h.node i hi).ent j hj).id
theorem GraphB.hnm : ∀ i, i < ns.length → ∀ j, j < (nd ns i).ents.length → (ent ns i j).name.size ≤ 1048576 := fun i hi j hj => by
  have h1 := ((h.node i hi).ent j hj).name
  unfold ent
  omega
theorem GraphB.ht : ∀ i, i < ns.length → (nd ns i).target.size ≤ 1048576 := fun i hi => by
  have h1 := (h.node i hi).target
  omega
end gb
def zeroNode : NodeM := ⟨0, 0, 0, 0, 0, 0, 0, [], ⟨#[]⟩, []⟩
def L0 : Lay := ⟨fun _ => none, fun _ => none, fun _ => 0, fun _ => 0⟩
theorem RowB.nil {β : Bs} {A : Option Addr} : RowB β A [] := fun j v hj => by simp at hj
theorem GraphAt.flat {β : Bs} {A : Option Addr} {ns : List NodeM} {L : Lay} (h : RowB β A (nodesV L ns)) (hd : ∀ i, i < ns.length → (nd ns i).data = [] ∧ (nd ns i).ents = []) : GraphAt β A ns L :=
  ⟨h, fun i hi => by rw [(hd i hi).1]; exact RowB.nil, fun i hi => by rw [(hd i hi).2]; exact RowB.nil⟩
theorem zero_bound : GraphB [zeroNode] 1048576 := by
  refine ⟨by decide, fun i hi => ?_⟩
  have : i = 0 := by simp at hi; exact hi
  subst this
  exact ⟨⟨⟨by decide, by decide⟩, ⟨by decide, by decide⟩, ⟨by decide, by decide⟩, ⟨by decide, by decide⟩, ⟨by decide, by decide⟩, ⟨by decide, by decide⟩, ⟨by decide, by decide⟩⟩, by decide, by decide, by decide, fun j hj => absurd hj (Nat.not_lt_zero j)⟩
theorem zero_flat : ∀ i, i < [zeroNode].length → (nd [zeroNode] i).data = [] ∧ (nd [zeroNode] i).ents = [] := fun i hi => by
  have : i = 0 := by simp at hi; exact hi
  subst this
  exact ⟨rfl, rfl⟩
theorem zero_bad : ¬ GraphOk [zeroNode] := fun h => by
  have := (h.ids 0 (by decide)).1
  exact absurd this (by decide)
end Go.Proofs.Ytjpdcppdoonmdaa
end
/- part Vy. PROVED HERE: small laws of unsigned numbers, shifts and the order of texts. CONDITIONS: none. No statement of the seat is proved here. -/
section
namespace Go.Proofs.Ytjpdcppdoonmdaa
open Go.RowKit
theorem u64Eq {x : Int} (h0 : 0 ≤ x) (h1 : x ≤ 18446744073709551615) : Value.int .u64 (IntKind.wrap .u64 x) = Value.int .u64 x := by
  rw [IntWalk.u64_in _ ⟨h0, h1⟩]
theorem u8Eq {x : Int} (h0 : 0 ≤ x) (h1 : x ≤ 255) : Value.int .u8 (IntKind.wrap .u8 x) = Value.int .u8 x := by
  rw [IntWalk.u8_in _ ⟨h0, h1⟩]
theorem shr1Eq {k : IntKind} {m : Nat} : Value.int k (Int.fdiv ((m : Nat) : Int) (2 ^ 1)) = Value.int k ((m / 2 : Nat) : Int) := by
  have e : ((m / 2 : Nat) : Int) = (m : Int) / 2 := by omega
  rw [e, Int.fdiv_eq_ediv_of_nonneg _ (by decide)]
  rfl
/-! ### bytes that may turn into a text -/
/-- a block whose cells are as told, whatever its mark -/
def FrozA (b : Nat) (cs : List Value) (T : TypeId) : Asn where
  h F w := (∃ fz, w.heap[b]? = some (.cells ⟨cs⟩ T fz)) ∧ ∀ k, F k ↔ k = b
  lt := by
    rintro F w ⟨⟨fz, h1⟩, h2⟩ k hk
    rw [(h2 k).1 hk]
    exact lt_of_some h1
  st := by
    rintro F w ⟨⟨fz, h1⟩, h2⟩ S w' hk hn
    exact ⟨⟨fz, (hk.block b (lt_of_some h1) (hn b ((h2 b).2 rfl))).trans h1⟩, h2⟩
theorem RowB.of_froz {β' : Bs} {b n : Nat} {cs : List Value} {T : TypeId} {F : Fp} {w : World} (h : (HP.abs (FrozA b cs T)).h F w) (h1 : ∀ k, F k → β'.O k) (h2 : β'.w0 = w) : RowB β' (some ⟨b, 0, none⟩) (cs.take n) := by
  obtain ⟨⟨fz, h3⟩, h4⟩ := h
  intro j v hj
  have hj' : cs[j]? = some v := by
    rw [List.getElem?_take] at hj
    split at hj
    · exact hj
    · cases hj
  refine ⟨rfl, h1 b ((h4 b).2 rfl), ?_⟩
  show β'.w0.cell? ⟨b, 0 + j, none⟩ = some v
  rw [h2, Nat.zero_add]
  unfold World.cell?
  rw [h3]
  simpa using hj'
section mark
variable {P : Program} {β : Bs} {N : Nat} {ops : Array Oper} {k : Nat} {fr : Fr} {hps : List HP} {Q : Post} {d : Option Tmp}
theorem TriL.markBytes (i : Nat) {t e T : TypeId} {b o n c : Nat} {cs : List Value} {x : Operand} (hop : ∀ junk, opAt N junk ops fr k = some (.convert t t x, d)) (hp : hps[i]? = some (.blk b cs T)) (hx : ∀ junk, evF N fr junk x = .slice (some ⟨b, o, none⟩) n c)
    (ht : P.underlying t = some (.slice e)) (he : P.underlying e = some (.int .u8)) (K' : TriL P β N ops (k + 1) (putF fr d (.slice (some ⟨b, o, none⟩) n c)) (hps.set i (.abs (FrozA b cs T))) Q) : TriL P β N ops k fr hps Q := by
  refine TriL.run1 hop (fun o' junk w ho hS => ?_) K'
  obtain ⟨F, hF⟩ := hS.get hp
  have hb := hF.1
  have hsz : b < w.heap.size := lt_of_some hb
  refine ⟨w.freeze ⟨b, cs.length, none⟩ 1, .inl ?_, hS.set hp (fun F hF => ?_)⟩
  · obtain ⟨dst, op, type, pos, after, guard⟩ := o'
    cases ho
    have h1 : (underlying t).run P w = .ok (.slice e) w := run_underlying ht w
    have h2 : (underlying e).run P w = .ok (.int .u8) w := run_underlying he w
    have h3 : w.shape? b = some (T, cs.length) := by unfold World.shape?; rw [hb]; rfl
    simp [execOp, convert, hx, go_sem, h1, h2, markStringish, h3]
  · refine ⟨F, ⟨⟨?_, ?_⟩, hF.2⟩, ⟨⟨rfl, rfl, rfl, ?_, ?_⟩, fun _ h => .inl h⟩⟩
    · exact (if ((0 : Nat) == 0) = true then (cs.length, cs.length + 1) else (min 0 cs.length, max 0 (cs.length + 1)))
    · simp [World.freeze, Array.getElem?_modify, hF.1]
    · simp [World.freeze]
    · intro k _ hk
      have hne : ¬ b = k := fun e => hk ((hF.2 k).2 e.symm)
      simp [World.freeze, Array.getElem?_modify, hne]
end mark
/-! ### texts put together; a row that is cut -/
section adds
variable {P : Program} {β : Bs} {N : Nat} {ops : Array Oper} {e0 k : Nat} {fr : Fr} {hps : List HP} {Q : Post} {d : Option Tmp} {t t2 : TypeId} {x y : Operand} {a b : ByteArray}
theorem ran_strAdd {w : World} {o : Oper} {ev : Operand → Value} (ho : o.op = .binOp .add t x y t2) (hx : ev x = .string a) (hy : ev y = .string b) (hs : a.size + b.size ≤ 9223372036854775807) : Ran P ev o w (.string (a ++ b)) w := by
  obtain ⟨dst, op, type, pos, after, guard⟩ := o
  cases ho
  refine .inl ?_
  simp [execOp, hx, hy, binOp, eqGuard, Op.stringOp, go_sem]
  omega
theorem TriL.strAdd (hop : ∀ junk, opAt N junk ops fr k = some (.binOp .add t x y t2, d)) (hx : ∀ junk, evF N fr junk x = .string a) (hy : ∀ junk, evF N fr junk y = .string b) (hs : a.size + b.size ≤ 9223372036854775807) (K : TriL P β N ops (k + 1) (putF fr d (.string (a ++ b))) hps Q) : TriL P β N ops k fr hps Q :=
  TriL.run1 hop (fun _ junk w ho hS => ⟨w, ran_strAdd ho (hx junk) (hy junk) hs, hS⟩) K
theorem TriLQ.strAdd (hop : ∀ junk, opAt N junk ops fr k = some (.binOp .add t x y t2, d)) (hx : ∀ junk, evF N fr junk x = .string a) (hy : ∀ junk, evF N fr junk y = .string b) (hs : a.size + b.size ≤ 9223372036854775807) (K : TriLQ P β N ops (k + 1) (putF fr d (.string (a ++ b))) hps Q) : TriLQ P β N ops k fr hps Q :=
  TriLQ.run1 hop (fun _ junk _ ho _ => ran_strAdd ho (hx junk) (hy junk) hs) K
theorem step_cut {e : TypeId} {size n m cap : Nat} {A : Option Addr} {xs : List Value} {w : World} (hm : m ≤ n) : ∀ F, (HP.abs (RowA e size A n cap xs)).h F w → ∃ F', (HP.abs (RowA e size A m cap (xs.take (m * size)))).h F' w ∧ Step F w F' w := by
  rintro F ⟨⟨h1, h2⟩, hF⟩
  refine ⟨F, ⟨⟨?_, ?_⟩, fun k => ?_⟩, Step.refl F w⟩
  · rw [List.length_take, h1]
    exact Nat.min_eq_left (Nat.mul_le_mul_right _ hm)
  · rcases h2 with ⟨e1, e2⟩ | ⟨g, cp, cur, e1, h3, h4, h5, h6, h7, h8⟩
    · cases e1
      exact .inl ⟨by rw [show m = 0 by omega], by omega⟩
    · cases e1
      refine .inr ⟨g, cap, cur, rfl, h3, h4, by omega, h6, h7, ?_⟩
      rw [← h8, List.take_take]
      congr 1
      exact (Nat.min_eq_left (Nat.mul_le_mul_right _ hm)).symm
  · rw [hF k]
    cases A <;> rfl
theorem Sat.cut {i e size n m cap : Nat} {A : Option Addr} {xs ys : List Value} {w : World} (hp : hps[i]? = some (.abs (RowA e size A n cap xs))) (hm : m ≤ n) (hy : xs.take (m * size) = ys) (h : Sat β hps w) : Sat β (hps.set i (.abs (RowA e size A m cap ys))) w := by
  subst hy
  exact h.set hp (step_cut hm)
end adds
/-- a cell of a row, by its element and place -/
theorem RowA.cellAt {e : TypeId} {A : Option Addr} {size n cap i j : Nat} {xs : List Value} {u : Value} (hi : i < n) (hj : xs[i * size + j]? = some u) : ∀ F w, (RowA e size A n cap xs).h F w → w.cell? ⟨blkOf A, offOf A + i * size + j, none⟩ = some u := by
  intro F w h
  obtain ⟨g, rfl⟩ := RowA.head h (by omega)
  have := RowA.cell hj F w h
  show w.cell? ⟨g, 0 + i * size + j, none⟩ = some u
  rw [Nat.zero_add]
  exact this
/-! ### the order of texts -/
def cmpB (a b : ByteArray) : Int := Lib.compareBytes a.data.toList b.data.toList
theorem cmpL_self : ∀ a : List UInt8, Lib.compareBytes a a = 0
  | [] => rfl
  | a :: r => by
    have h : ¬ a < a := by intro h; exact absurd h (by simp)
    simp only [Lib.compareBytes, if_neg h]
    exact cmpL_self r
theorem cmpL_zero : ∀ {a b : List UInt8}, Lib.compareBytes a b = 0 → a = b
  | [], [], _ => rfl
  | [], _ :: _, h => by simp [Lib.compareBytes] at h
  | _ :: _, [], h => by simp [Lib.compareBytes] at h
  | a :: x, b :: y, h => by
    unfold Lib.compareBytes at h
    split at h
    · cases h
    · rename_i h1
      split at h
      · cases h
      · rename_i h2
        have e : a = b := by
          apply UInt8.toNat_inj.1
          have h3 : ¬ a.toNat < b.toNat := fun h => h1 (UInt8.lt_iff_toNat_lt.2 h)
          have h4 : ¬ b.toNat < a.toNat := fun h => h2 (UInt8.lt_iff_toNat_lt.2 h)
          omega
        rw [e, cmpL_zero h]
theorem cmpL_less : ∀ {a b : List UInt8}, Lib.compareBytes a b < 0 ↔ Op.bytesLess a b = true
  | [], [] => by simp [Lib.compareBytes, Op.bytesLess]
  | [], _ :: _ => by simp [Lib.compareBytes, Op.bytesLess]
  | _ :: _, [] => by simp [Lib.compareBytes, Op.bytesLess]
  | a :: x, b :: y => by
    unfold Lib.compareBytes Op.bytesLess
    by_cases h1 : a < b
    · simp [h1]
    · by_cases h2 : b < a
      · have h3 : ¬ a = b := fun e => by subst e; exact h1 h2
        simp [h1, h2, h3]
      · have e : a = b := by
          apply UInt8.toNat_inj.1
          have h3 : ¬ a.toNat < b.toNat := fun h => h1 (UInt8.lt_iff_toNat_lt.2 h)
          have h4 : ¬ b.toNat < a.toNat := fun h => h2 (UInt8.lt_iff_toNat_lt.2 h)
          omega
        subst e
        simp only [h1, if_false, decide_false, beq_self_eq_true, Bool.true_and, Bool.false_or]
        exact cmpL_less
theorem cmpL_trans : ∀ {a b c : List UInt8}, Lib.compareBytes a b < 0 → Lib.compareBytes b c ≤ 0 → Lib.compareBytes a c < 0
  | [], [], _, h, _ => by simp [Lib.compareBytes] at h
  | [], _ :: _, [], _, h => by simp [Lib.compareBytes] at h
  | [], _ :: _, _ :: _, _, _ => by simp [Lib.compareBytes]
  | _ :: _, [], _, h, _ => by simp [Lib.compareBytes] at h
  | _ :: _, _ :: _, [], _, h => by simp [Lib.compareBytes] at h
  | a :: x, b :: y, c :: z, h, g => by
    unfold Lib.compareBytes at h g ⊢
    by_cases h1 : a < b
    · by_cases g1 : b < c
      · have : a < c := by rw [UInt8.lt_iff_toNat_lt] at *; omega
        simp [this]
      · by_cases g2 : c < b
        · simp [g1, g2] at g
        · have e : b = c := by
            apply UInt8.toNat_inj.1
            rw [UInt8.lt_iff_toNat_lt] at *
            omega
          subst e
          simp [h1]
    · by_cases h2 : b < a
      · simp [h1, h2] at h
      · have e : a = b := by
          apply UInt8.toNat_inj.1
          rw [UInt8.lt_iff_toNat_lt] at *
          omega
        subst e
        simp only [h1, if_false] at h
        by_cases g1 : a < c
        · simp [g1]
        · by_cases g2 : c < a
          · simp [g1, g2] at g
          · simp only [g1, g2, if_false] at g ⊢
            exact cmpL_trans h g
theorem cmpL_anti : ∀ {a b : List UInt8}, Lib.compareBytes b a = - Lib.compareBytes a b
  | [], [] => rfl
  | [], _ :: _ => rfl
  | _ :: _, [] => rfl
  | a :: x, b :: y => by
    unfold Lib.compareBytes
    by_cases h1 : a < b
    · have h2 : ¬ b < a := by rw [UInt8.lt_iff_toNat_lt] at *; omega
      simp [h1, h2]
    · by_cases h2 : b < a
      · simp [h1, h2]
      · simp only [h1, h2, if_false]
        exact cmpL_anti
theorem cmpB_self (a : ByteArray) : cmpB a a = 0 := cmpL_self _
theorem cmpB_zero {a b : ByteArray} : cmpB a b = 0 ↔ a = b := by
  refine ⟨fun h => ?_, fun h => by rw [h]; exact cmpB_self b⟩
  have := cmpL_zero h
  obtain ⟨⟨a⟩⟩ := a
  obtain ⟨⟨b⟩⟩ := b
  have this : a = b := this
  rw [this]
theorem cmpB_trans {a b c : ByteArray} (h : cmpB a b < 0) (g : cmpB b c ≤ 0) : cmpB a c < 0 := cmpL_trans h g
theorem cmpB_anti (a b : ByteArray) : cmpB b a = - cmpB a b := cmpL_anti
end Go.Proofs.Ytjpdcppdoonmdaa
end
/- part GF. PROVED HERE: what Find answers, as plain data; lists of texts in memory; the entries' order. CONDITIONS: none. -/
section
namespace Go.Proofs.Ytjpdcppdoonmdaa
open Go.RowKit Go.Maps
/-! ### lists of texts -/
def strsV (l : List ByteArray) : List Value := l.map Value.string
def sAt (l : List ByteArray) (i : Nat) : ByteArray := l.getD i ⟨#[]⟩
def StrsAt (β : Bs) (A : Option Addr) (l : List ByteArray) : Prop := RowB β A (strsV l)
theorem strsV_len (l : List ByteArray) : (strsV l).length = l.length := by simp [strsV]
theorem oneCell_strs (d : List ByteArray) : ∀ u ∈ strsV d, u.oneCell' = true := by
  intro u hu
  obtain ⟨b, _, rfl⟩ := List.mem_map.1 hu
  rfl
section strs
variable {β β' : Bs} {A : Option Addr} {l : List ByteArray}
theorem StrsAt.le (h : StrsAt β A l) (hle : β.le β') : StrsAt β' A l := RowB.le h hle
theorem StrsAt.get (h : StrsAt β A l) {j : Nat} (hj : j < l.length) : A = some ⟨blkOf A, offOf A, none⟩ ∧ Rd β ⟨blkOf A, offOf A + j * 1, none⟩ (.string (sAt l j)) := by
  have h1 : (strsV l)[j]? = some (.string (sAt l j)) := by
    rw [strsV, List.getElem?_map, getD_some (x := ⟨#[]⟩) hj]; rfl
  have := h j _ h1
  rw [Nat.mul_one]
  exact this
theorem StrsAt.hd (h : StrsAt β A l) {j : Nat} (hj : j < l.length) : A = some ⟨blkOf A, offOf A, none⟩ := (h.get hj).1
theorem StrsAt.rd (h : StrsAt β A l) {j : Nat} (hj : j < l.length) : Rd β ⟨blkOf A, offOf A + j * 1, none⟩ (.string (sAt l j)) := (h.get hj).2
end strs
theorem drop_sAt {l : List ByteArray} {i : Nat} (h : i < l.length) : l.drop i = sAt l i :: l.drop (i + 1) := by
  rw [List.drop_eq_getElem_cons h]
  unfold sAt
  rw [List.getD_eq_getElem?_getD, List.getElem?_eq_getElem h]
  rfl
/-! ### begin -/
noncomputable def beginC (ns : List NodeM) (root : Int) : Int :=
  if ¬ GraphOk ns then 140 else if ¬ 0 ≤ atI ns root then 141 else if ¬ (nd ns (tgt ns root)).kind = 2 then 173 else 0
theorem beginC_bad {ns : List NodeM} {root : Int} (h : ¬ GraphOk ns) : beginC ns root = 140 := if_pos h
theorem beginC_none {ns : List NodeM} {root : Int} (h : GraphOk ns) (h1 : ¬ 0 ≤ atI ns root) : beginC ns root = 141 := by
  unfold beginC; rw [if_neg (fun e => e h), if_pos h1]
theorem beginC_kind {ns : List NodeM} {root : Int} (h : GraphOk ns) (h1 : 0 ≤ atI ns root) (h2 : ¬ (nd ns (tgt ns root)).kind = 2) : beginC ns root = 173 := by
  unfold beginC; rw [if_neg (fun e => e h), if_neg (fun e => e h1), if_pos h2]
theorem beginC_ok {ns : List NodeM} {root : Int} (h : GraphOk ns) (h1 : 0 ≤ atI ns root) (h2 : (nd ns (tgt ns root)).kind = 2) : beginC ns root = 0 := by
  unfold beginC; rw [if_neg (fun e => e h), if_neg (fun e => e h1), if_neg (fun e => e h2)]
theorem beginC_zero {ns : List NodeM} {root : Int} (h : beginC ns root = 0) : GraphOk ns ∧ 0 ≤ atI ns root ∧ (nd ns (tgt ns root)).kind = 2 := by
  unfold beginC at h
  split at h
  · cases h
  · rename_i h1
    split at h
    · cases h
    · rename_i h2
      split at h
      · cases h
      · rename_i h3
        exact ⟨Classical.not_not.1 h1, Classical.not_not.1 h2, Classical.not_not.1 h3⟩
/-- what the reference's begin answers -/
noncomputable def refB (ns : List NodeM) (root : Int) : Value := if beginC ns root = 0 then .tuple #[.int .i64 ((tgt ns root : Nat) : Int), .int .i64 0] else .tuple #[.int .i64 0, .int .i64 (beginC ns root)]
theorem refB_ok {ns : List NodeM} {root : Int} (h : beginC ns root = 0) : refB ns root = .tuple #[.int .i64 ((tgt ns root : Nat) : Int), .int .i64 0] := if_pos h
theorem refB_bad {ns : List NodeM} {root : Int} (h : ¬ beginC ns root = 0) : refB ns root = .tuple #[.int .i64 0, .int .i64 (beginC ns root)] := if_neg h
/-! ### the entries' order -/
def Sorted (es : List EntM) : Prop := ∀ i j, i < j → j < es.length → cmpB (en es i).name (en es j).name < 0
theorem not_strLe {x y : ByteArray} : ¬ strLe x y ↔ cmpB y x < 0 := by
  unfold strLe
  rw [strEq', Lib.toList_data, Lib.toList_data]
  have h1 := @cmpL_less x.data.toList y.data.toList
  have h2 := @cmpB_zero x y
  have h3 := cmpB_anti x y
  unfold cmpB at h2 h3 ⊢
  rw [Bool.or_eq_true, decide_eq_true_iff, ← h1, ← h2]
  omega
theorem sorted_of {ns : List NodeM} {i : Nat} (h : ∀ j, j < (nd ns i).ents.length → EntOk ns i j) : Sorted (nd ns i).ents := by
  intro a b hab hb
  induction b with
  | zero => omega
  | succ b ih =>
    have h1 : cmpB (ent ns i b).name (ent ns i (b + 1)).name < 0 := not_strLe.1 (h (b + 1) hb).ord
    rcases Nat.lt_succ_iff_lt_or_eq.1 hab with e | e
    · exact cmpB_trans (ih e (by omega)) (by unfold ent at h1; omega)
    · rw [e]; exact h1
theorem Sorted.inj {es : List EntM} (h : Sorted es) {i j : Nat} (hi : i < es.length) (hj : j < es.length) (e : (en es i).name = (en es j).name) : i = j := by
  rcases Nat.lt_trichotomy i j with h1 | h1 | h1
  · have := h i j h1 hj; rw [e, cmpB_self] at this; omega
  · exact h1
  · have := h j i h1 hi; rw [e, cmpB_self] at this; omega
/-- the entry with a name -/
def findE (es : List EntM) (p : ByteArray) : Option Nat := es.findIdx? (fun e => decide (e.name = p))
theorem findE_some {es : List EntM} {p : ByteArray} {j : Nat} (hs : Sorted es) (hj : j < es.length) (e : (en es j).name = p) : findE es p = some j := by
  unfold findE
  rw [List.findIdx?_eq_some_iff_getElem]
  have hg : ∀ k (hk : k < es.length), en es k = es[k] := fun k hk => by
    unfold en
    rw [List.getD_eq_getElem?_getD, List.getElem?_eq_getElem hk]
    rfl
  refine ⟨hj, by rw [← hg j hj]; simpa using e, fun k hk => ?_⟩
  rw [← hg k (by omega)]
  simp only [decide_eq_true_eq]
  intro e2
  have := hs.inj (i := k) (j := j) (by omega) hj (e2.trans e.symm)
  omega
theorem findE_none {es : List EntM} {p : ByteArray} (h : ∀ j, j < es.length → ¬ (en es j).name = p) : findE es p = none := by
  unfold findE
  rw [List.findIdx?_eq_none_iff]
  intro x hx
  obtain ⟨j, hj, rfl⟩ := List.getElem_of_mem hx
  have := h j hj
  unfold en at this
  rw [List.getD_eq_getElem?_getD, List.getElem?_eq_getElem hj] at this
  simpa using this
/-- the node at the end of the parts, below place k -/
noncomputable def findM (ns : List NodeM) : Nat → List ByteArray → Int × Int
  | k, [] => ((nd ns k).id, 0)
  | k, p :: r => if (nd ns k).kind = 3 then (0, 174) else if (nd ns k).kind = 1 then (0, 173) else
    match findE (nd ns k).ents p with
    | none => (0, 170)
    | some j => findM ns (tgt ns (en (nd ns k).ents j).id) r
noncomputable def findG (ns : List NodeM) (root : Int) (ps : List ByteArray) : Int × Int := if beginC ns root = 0 then findM ns (tgt ns root) ps else (0, beginC ns root)
section find
variable {ns : List NodeM} {k i : Nat} {ps : List ByteArray}
theorem findM_end (h : ps.length ≤ i) : findM ns k (ps.drop i) = ((nd ns k).id, 0) := by
  rw [List.drop_eq_nil_of_le h]; rfl
theorem findM_sym (h : i < ps.length) (h3 : (nd ns k).kind = 3) : findM ns k (ps.drop i) = (0, 174) := by
  rw [drop_sAt h]; unfold findM; rw [if_pos h3]
theorem findM_file (h : i < ps.length) (h3 : (nd ns k).kind = 1) : findM ns k (ps.drop i) = (0, 173) := by
  rw [drop_sAt h]; unfold findM; rw [if_neg (by omega), if_pos h3]
theorem findM_none (h : i < ps.length) (h3 : ¬ (nd ns k).kind = 3) (h1 : ¬ (nd ns k).kind = 1) (hf : findE (nd ns k).ents (sAt ps i) = none) : findM ns k (ps.drop i) = (0, 170) := by
  rw [drop_sAt h]; unfold findM; rw [if_neg h3, if_neg h1, hf]
theorem findM_some {j : Nat} (h : i < ps.length) (h3 : ¬ (nd ns k).kind = 3) (h1 : ¬ (nd ns k).kind = 1) (hf : findE (nd ns k).ents (sAt ps i) = some j) : findM ns k (ps.drop i) = findM ns (tgt ns (en (nd ns k).ents j).id) (ps.drop (i + 1)) := by
  rw [drop_sAt h]
  conv => lhs; unfold findM
  rw [if_neg h3, if_neg h1, hf]
theorem findG_ok {root : Int} (h : beginC ns root = 0) : findG ns root ps = findM ns (tgt ns root) ps := if_pos h
theorem findG_bad {root : Int} (h : ¬ beginC ns root = 0) : findG ns root ps = (0, beginC ns root) := if_neg h
end find
theorem sp_compare {β : Bs} (a b : ByteArray) : Spec Try.prog β 45 #[.string a, .string b] [] (fun v l => v = .int .i64 (cmpB a b) ∧ l = []) :=
  Spec.of0 fun w _ => (Try.strings_Compare a b w).mono fun _ _ ⟨he, hw⟩ => ⟨_, he, ⟨rfl, rfl⟩, hw ▸ Keeps.refl _ _⟩
/-! ### the search -/
def Found (es : List EntM) (p : ByteArray) (v : Value) : Prop := (∃ k : Nat, k < es.length ∧ (en es k).name = p ∧ v = .tuple #[.int .i64 (k : Int), .bool true]) ∨ ((∀ j, j < es.length → ¬ (en es j).name = p) ∧ ∃ z, v = .tuple #[.int .i64 z, .bool false])
section search
variable {es : List EntM} {p : ByteArray} {i : Nat}
theorem Sorted.low (hs : Sorted es) (hi : i < es.length) (hc : cmpB (en es i).name p < 0) : ∀ t, t < i + 1 → cmpB (en es t).name p < 0 := fun t ht => by
  rcases Nat.lt_succ_iff_lt_or_eq.1 ht with h | h
  · exact cmpB_trans (hs t i h hi) (by omega)
  · rw [h]; exact hc
theorem Sorted.high (hs : Sorted es) (hc : ¬ cmpB (en es i).name p < 0) : ∀ t, i ≤ t → t < es.length → 0 ≤ cmpB (en es t).name p := fun t ht hl => by
  rcases Nat.eq_or_lt_of_le ht with h | h
  · rw [← h]; omega
  · have h1 := hs i t h hl
    apply Int.not_lt.1
    intro h2
    exact hc (cmpB_trans h1 (by omega))
theorem bs_none (hlo : ∀ t, t < i → cmpB (en es t).name p < 0) (hi : es.length ≤ i) : Found es p (.tuple #[.int .i64 ((i : Nat) : Int), .bool false]) :=
  .inr ⟨fun j hj e => by have := hlo j (by omega); rw [e, cmpB_self] at this; omega, i, rfl⟩
theorem bs_post (hs : Sorted es) (hi : i < es.length) (hlo : ∀ t, t < i → cmpB (en es t).name p < 0) (hhi : ∀ t, i ≤ t → t < es.length → 0 ≤ cmpB (en es t).name p) : Found es p (.tuple #[.int .i64 ((i : Nat) : Int), .bool (decide (cmpB (en es i).name p = 0))]) := by
  by_cases he : cmpB (en es i).name p = 0
  · exact .inl ⟨i, hi, cmpB_zero.1 he, by rw [decide_eq_true he]⟩
  · refine .inr ⟨fun j hj e => ?_, i, by rw [decide_eq_false he]⟩
    rcases Nat.lt_trichotomy j i with h | h | h
    · have := hlo j h; rw [e, cmpB_self] at this; omega
    · subst h; exact he (cmpB_zero.2 e)
    · have h1 := hs i j h hj
      rw [e] at h1
      have := hhi i (Nat.le_refl _) hi
      omega
end search
end Go.Proofs.Ytjpdcppdoonmdaa
end
/- part GBegin. PROVED HERE: the beginning of each look into a graph CONDITIONS: as the theorems say. Printed by a program of this repo (wip/v). -/
section
namespace Go.Proofs.Ytjpdcppdoonmdaa
open Go.RowKit
attribute [local irreducible] TriL TriLQ Tri TriQ
set_option maxRecDepth 100000 in
set_option maxHeartbeats 4000000 in
theorem sp_begin {β : Bs} (A : Option Addr) (c : Nat) (ns : List NodeM) (L : Lay) (hG : GraphAt β A ns L) (hB : GraphB ns 1048576) (root : Int) (hz : I64 root) :
    Spec Try.prog β 42 #[.agg #[.slice A ns.length c], .int .i64 root] [] (fun v l => (∃ mb, v = .tuple #[.map (some mb), .pointer (some ⟨(blkOf A), offOf A + (tgt ns root) * 10, none⟩), .int .i64 0] ∧ beginC ns root = 0 ∧ l = [.abs (MapA Try.prog 3 mb (mf (bf A ns ns.length)) ns.length)]) ∨ (∃ x y, v = .tuple #[x, y, .int .i64 (beginC ns root)] ∧ ¬ beginC ns root = 0 ∧ l = [])) := by
 refine Spec.enter Try.func42 rfl Try.ntmps42 (Nat.le_of_ble_eq_true rfl) (fun R => ?_)
 refine Tri.seq (Tri.region ?_)
 refine TriL.segN (k' := 4) (fr' := fun b1 => [(1, .int .i64 (root)), (2, .pointer (some ⟨b1, 0, none⟩))]) (hps' := fun b1 => [.abs R, .blk b1 [.slice A (ns.length) (c)] 24]) (obl := fun b1 => []) [o_, o_, o_, o_] [1, 2] [0, 1] (fun _ _ => by kernel_rfl) (fun b1 => trivial) (fun b1 => ?_)
 refine TriL.nil (by kernel_rfl) (TriQ.next (Tri.seq (Tri.region ?_)))
 refine TriL.segK (k' := 1) (fr' := [(1, .int .i64 (root)), (11, .agg #[.slice A (ns.length) (c)])]) (obl := [b1 = b1]) [⟨[.at 1], none, none, none, none⟩] [1, 11] (fun _ _ => by kernel_rfl) ⟨rfl, trivial⟩ ?_
 refine TriL.call (f := 37) (args := #[.agg #[.slice A (ns.length) (c)]]) (d := (some 12)) (pre := []) (R := [.abs R, .blk b1 [.slice A (ns.length) (c)] 24]) (pk := [0, 1]) (fun _ => by kernel_rfl) (sp_read A c ns L hG hB.hl hB.hd hB.hwf hB.hnm) rfl (by kernel_rfl) ?_
 rintro _ _ (⟨mb, rfl, hok, rfl⟩ | ⟨m, rfl, hok, rfl⟩)
 ·
  refine TriL.segK (k' := 7) (fr' := [(1, .int .i64 (root)), (7, .map (some mb)), (8, .bool true)]) (obl := []) [o_, o_, o_, o_, o_] [1, 7, 8] (fun _ _ => by kernel_rfl) trivial ?_
  refine TriL.nil (by kernel_rfl) (TriQ.next (Tri.seq (Tri.seq (Tri.region ?_))))
  refine TriL.segK (k' := 2) (fr' := [(1, .int .i64 (root)), (7, .map (some mb)), (16, .bool false)]) (obl := []) [o_, o_] [1, 7, 16] (fun _ _ => by kernel_rfl) trivial ?_
  refine TriL.nil (by kernel_rfl) (TriQ.next ?_)
  refine Tri.condF (fun _ => by kernel_rfl) ?_
  refine Tri.skip (TriQ.next (Tri.seq (Tri.region ?_)))
  refine TriL.segK (k' := 2) (fr' := [(7, .map (some mb)), (17, .map (some mb)), (18, .int .i64 (root))]) (obl := []) [o_, o_] [7, 17, 18] (fun _ _ => by kernel_rfl) trivial ?_
  by_cases hat : 0 ≤ atI ns root
  ·
   have htl := atI_lt hat
   refine TriL.mapLook 0 (d := (some 19)) (t := 66) (K := 3) (E := 75) (b := mb) (n := ns.length) (f := (mf (bf A ns ns.length))) (x := (.tmp 17)) (ix := (.tmp 18)) (key := .int .i64 (root)) (z := .pointer none) (kl := (.int .i64 root)) (r := (some (.pointer (some ⟨(blkOf A), offOf A + (tgt ns root) * 10, none⟩)))) (fun _ => by kernel_rfl) (by kernel_rfl) (fun _ => by kernel_rfl) (fun _ => by kernel_rfl) lawI Try.underlying66 (fun _ => by kernel_rfl) (keyI hz.1 hz.2) (bf_at hat htl.1) ?_
   refine TriL.segK (k' := 4) (fr' := [(7, .map (some mb)), (9, .pointer (some ⟨(blkOf A), offOf A + (tgt ns root) * 10, none⟩))]) (obl := []) [o_] [7, 9] (fun _ _ => by kernel_rfl) trivial ?_
   refine TriL.nil (by kernel_rfl) (TriQ.next (Tri.seq (Tri.seq (Tri.region ?_))))
   refine TriL.segK (k' := 2) (fr' := [(7, .map (some mb)), (9, .pointer (some ⟨(blkOf A), offOf A + (tgt ns root) * 10, none⟩)), (21, .bool false)]) (obl := []) [o_, o_] [7, 9, 21] (fun _ _ => by kernel_rfl) trivial ?_
   refine TriL.nil (by kernel_rfl) (TriQ.next ?_)
   refine Tri.condF (fun _ => by kernel_rfl) ?_
   refine Tri.skip (TriQ.next (Tri.seq (Tri.seq (Tri.region ?_))))
   refine TriL.segK (k' := 5) (fr' := [(7, .map (some mb)), (9, .pointer (some ⟨(blkOf A), offOf A + (tgt ns root) * 10, none⟩)), (26, .bool (!(decide (((nd ns (tgt ns root)).kind : Int) = (2 : Int)))))]) (obl := [(Rd β ⟨(blkOf A), offOf A + (tgt ns root) * 10 + 1, none⟩ (.int .i64 ((nd ns (tgt ns root)).kind)))]) [o_, o_, o_, ⟨[.old (.int .i64 ((nd ns (tgt ns root)).kind))], none, none, none, none⟩, o_] [7, 9, 26] (fun _ _ => by kernel_rfl) ⟨GraphAt.rd hG (i := (tgt ns root)) (by omega) (j := 1) rfl, trivial⟩ ?_
   refine TriL.nil (by kernel_rfl) (TriQ.next ?_)
   refine Tri.condN (p := ((nd ns (tgt ns root)).kind : Int) = (2 : Int)) (fun _ => by kernel_rfl) (fun h26 => ?_) (fun h26 => ?_)
   ·
    refine Tri.seq (Tri.region ?_)
    refine TriL.segK (k' := 3) (fr' := [(4, .map none), (5, .pointer none), (6, .int .i64 173)]) (obl := []) [o_, o_, o_] [4, 5, 6] (fun _ _ => by kernel_rfl) trivial ?_
    refine TriL.nil (by kernel_rfl) (TriQ.next (Tri.ret (TriQ.passRet ?_)))
    exact TriQ.ret (v := .tuple #[.map none, .pointer none, .int .i64 173]) (l := []) (obl := []) [] [1] (fun _ => by kernel_rfl) trivial rfl (by kernel_rfl) (.inr ⟨_, _, by rw [beginC_kind hok hat h26], by rw [beginC_kind hok hat h26]; decide, rfl⟩)
   ·
    refine Tri.skip (TriQ.next (Tri.seq (Tri.region ?_)))
    refine TriL.segK (k' := 5) (fr' := [(4, .map (some mb)), (5, .pointer (some ⟨(blkOf A), offOf A + (tgt ns root) * 10, none⟩)), (6, .int .i64 0)]) (obl := []) [o_, o_, o_, o_, o_] [4, 5, 6] (fun _ _ => by kernel_rfl) trivial ?_
    refine TriL.nil (by kernel_rfl) (TriQ.next (Tri.ret ?_))
    exact TriQ.ret (v := .tuple #[.map (some mb), .pointer (some ⟨(blkOf A), offOf A + (tgt ns root) * 10, none⟩), .int .i64 0]) (l := [.abs (MapA Try.prog 3 mb (mf (bf A ns ns.length)) ns.length)]) (obl := []) [] [0, 1] (fun _ => by kernel_rfl) trivial rfl (by kernel_rfl) (.inl ⟨mb, rfl, beginC_ok hok hat h26, rfl⟩)
  ·
   refine TriL.mapLook 0 (d := (some 19)) (t := 66) (K := 3) (E := 75) (b := mb) (n := ns.length) (f := (mf (bf A ns ns.length))) (x := (.tmp 17)) (ix := (.tmp 18)) (key := .int .i64 (root)) (z := .pointer none) (kl := (.int .i64 root)) (r := none) (fun _ => by kernel_rfl) (by kernel_rfl) (fun _ => by kernel_rfl) (fun _ => by kernel_rfl) lawI Try.underlying66 (fun _ => by kernel_rfl) (keyI hz.1 hz.2) (bf_none hat) ?_
   refine TriL.segK (k' := 4) (fr' := [(7, .map (some mb)), (9, .pointer none)]) (obl := []) [o_] [7, 9] (fun _ _ => by kernel_rfl) trivial ?_
   refine TriL.nil (by kernel_rfl) (TriQ.next (Tri.seq (Tri.seq (Tri.region ?_))))
   refine TriL.segK (k' := 2) (fr' := [(7, .map (some mb)), (9, .pointer none), (21, .bool true)]) (obl := []) [o_, o_] [7, 9, 21] (fun _ _ => by kernel_rfl) trivial ?_
   refine TriL.nil (by kernel_rfl) (TriQ.next ?_)
   refine Tri.condT (fun _ => by kernel_rfl) ?_
   refine Tri.seq (Tri.region ?_)
   refine TriL.segK (k' := 3) (fr' := [(4, .map none), (5, .pointer none), (6, .int .i64 141)]) (obl := []) [o_, o_, o_] [4, 5, 6] (fun _ _ => by kernel_rfl) trivial ?_
   refine TriL.nil (by kernel_rfl) (TriQ.next (Tri.ret (TriQ.passRet ?_)))
   exact TriQ.ret (v := .tuple #[.map none, .pointer none, .int .i64 141]) (l := []) (obl := []) [] [1] (fun _ => by kernel_rfl) trivial rfl (by kernel_rfl) (.inr ⟨_, _, by rw [beginC_none hok hat], by rw [beginC_none hok hat]; decide, rfl⟩)
 ·
  refine TriL.segK (k' := 7) (fr' := [(1, .int .i64 (root)), (7, m), (8, .bool false)]) (obl := []) [o_, o_, o_, o_, o_] [1, 7, 8] (fun _ _ => by kernel_rfl) trivial ?_
  refine TriL.nil (by kernel_rfl) (TriQ.next (Tri.seq (Tri.seq (Tri.region ?_))))
  refine TriL.segK (k' := 2) (fr' := [(1, .int .i64 (root)), (7, m), (16, .bool true)]) (obl := []) [o_, o_] [1, 7, 16] (fun _ _ => by kernel_rfl) trivial ?_
  refine TriL.nil (by kernel_rfl) (TriQ.next ?_)
  refine Tri.condT (fun _ => by kernel_rfl) ?_
  refine Tri.seq (Tri.region ?_)
  refine TriL.segK (k' := 3) (fr' := [(4, .map none), (5, .pointer none), (6, .int .i64 140)]) (obl := []) [o_, o_, o_] [4, 5, 6] (fun _ _ => by kernel_rfl) trivial ?_
  refine TriL.nil (by kernel_rfl) (TriQ.next (Tri.ret (TriQ.passRet ?_)))
  exact TriQ.ret (v := .tuple #[.map none, .pointer none, .int .i64 140]) (l := []) (obl := []) [] [0] (fun _ => by kernel_rfl) trivial rfl (by kernel_rfl) (.inr ⟨_, _, by rw [beginC_bad hok], by rw [beginC_bad hok]; decide, rfl⟩)
set_option maxRecDepth 100000 in
set_option maxHeartbeats 4000000 in
theorem sp_refBegin {β : Bs} (A : Option Addr) (c : Nat) (ns : List NodeM) (L : Lay) (hG : GraphAt β A ns L) (hB : GraphB ns 1048576) (root : Int) :
    Spec Try.prog β 46 #[.agg #[.slice A ns.length c], .int .i64 root] [] (fun v l => v = refB ns root ∧ l = []) := by
 refine Spec.enter Try.func46 rfl Try.ntmps46 (Nat.le_of_ble_eq_true rfl) (fun R => ?_)
 refine Tri.seq (Tri.region ?_)
 refine TriL.segN (k' := 3) (fr' := fun b2 => [(1, .int .i64 (root)), (2, .pointer (some ⟨b2, 0, none⟩))]) (hps' := fun b2 => [.abs R, .blk b2 [.slice A (ns.length) (c)] 24]) (obl := fun b2 => []) [o_, o_, o_] [1, 2] [0, 1] (fun _ _ => by kernel_rfl) (fun b2 => trivial) (fun b2 => ?_)
 refine TriL.nil (by kernel_rfl) (TriQ.next (Tri.seq (Tri.seq (Tri.region ?_))))
 refine TriL.segK (k' := 1) (fr' := [(1, .int .i64 (root)), (2, .pointer (some ⟨b2, 0, none⟩)), (7, .agg #[.slice A (ns.length) (c)])]) (obl := [b2 = b2]) [⟨[.at 1], none, none, none, none⟩] [1, 2, 7] (fun _ _ => by kernel_rfl) ⟨rfl, trivial⟩ ?_
 refine TriL.call (f := 16) (args := #[.agg #[.slice A (ns.length) (c)]]) (d := (some 8)) (pre := []) (R := [.abs R, .blk b2 [.slice A (ns.length) (c)] 24]) (pk := [0, 1]) (fun _ => by kernel_rfl) (sp_refCheck A c ns L hG hB.hl hB.hd hB.hwf hB.hnm hB.ht) rfl (by kernel_rfl) ?_
 rintro _ _ ⟨rfl, rfl⟩
 refine TriL.segK (k' := 3) (fr' := [(1, .int .i64 (root)), (2, .pointer (some ⟨b2, 0, none⟩)), (9, .bool (!(decide (((if GraphOk ns then 0 else 140) : Int) = (0 : Int)))))]) (obl := []) [o_] [1, 2, 9] (fun _ _ => by kernel_rfl) trivial ?_
 refine TriL.nil (by kernel_rfl) (TriQ.next ?_)
 refine Tri.condN (p := ((if GraphOk ns then 0 else 140) : Int) = (0 : Int)) (fun _ => by kernel_rfl) (fun h9 => ?_) (fun h9 => ?_)
 ·
  have hok : ¬ GraphOk ns := fun hc => h9 (if_pos hc)
  refine Tri.seq (Tri.region ?_)
  refine TriL.segK (k' := 2) (fr' := [(4, .int .i64 0), (5, .int .i64 140)]) (obl := []) [o_, o_] [4, 5] (fun _ _ => by kernel_rfl) trivial ?_
  refine TriL.nil (by kernel_rfl) (TriQ.next (Tri.ret (TriQ.passRet ?_)))
  exact TriQ.ret (v := .tuple #[.int .i64 0, .int .i64 140]) (l := []) (obl := []) [] [0] (fun _ => by kernel_rfl) trivial rfl (by kernel_rfl) (⟨by rw [refB_bad (ns := ns) (root := root) (by rw [beginC_bad hok]; decide), beginC_bad hok], rfl⟩)
 ·
  have hok : GraphOk ns := Classical.byContradiction (fun hc => absurd (h9.symm.trans (if_neg hc)) (by decide))
  refine Tri.skip (TriQ.next (Tri.seq (Tri.region ?_)))
  refine TriL.segK (k' := 2) (fr' := [(2, .pointer (some ⟨b2, 0, none⟩)), (10, .agg #[.slice A (ns.length) (c)]), (11, .int .i64 (root))]) (obl := [b2 = b2]) [⟨[.at 1], none, none, none, none⟩, o_] [2, 10, 11] (fun _ _ => by kernel_rfl) ⟨rfl, trivial⟩ ?_
  refine TriL.call (f := 29) (args := #[.agg #[.slice A (ns.length) (c)], .int .i64 (root)]) (d := (some 12)) (pre := []) (R := [.abs R, .blk b2 [.slice A (ns.length) (c)] 24]) (pk := [0, 1]) (fun _ => by kernel_rfl) (sp_at A c ns L hG hok.rise hB.hl root) rfl (by kernel_rfl) ?_
  rintro _ _ ⟨rfl, rfl⟩
  refine TriL.segK (k' := 4) (fr' := [(2, .pointer (some ⟨b2, 0, none⟩)), (6, .int .i64 (atI ns root))]) (obl := []) [o_] [2, 6] (fun _ _ => by kernel_rfl) trivial ?_
  refine TriL.nil (by kernel_rfl) (TriQ.next (Tri.seq (Tri.seq (Tri.region ?_))))
  refine TriL.segK (k' := 2) (fr' := [(2, .pointer (some ⟨b2, 0, none⟩)), (6, .int .i64 (atI ns root)), (14, .bool (decide ((atI ns root : Int) < (0 : Int))))]) (obl := []) [o_, o_] [2, 6, 14] (fun _ _ => by kernel_rfl) trivial ?_
  refine TriL.nil (by kernel_rfl) (TriQ.next ?_)
  refine Tri.condP (p := (atI ns root : Int) < (0 : Int)) (fun _ => by kernel_rfl) (fun h14 => ?_) (fun h14 => ?_)
  ·
   have hat : ¬ 0 ≤ atI ns root := by omega
   refine Tri.seq (Tri.region ?_)
   refine TriL.segK (k' := 2) (fr' := [(4, .int .i64 0), (5, .int .i64 141)]) (obl := []) [o_, o_] [4, 5] (fun _ _ => by kernel_rfl) trivial ?_
   refine TriL.nil (by kernel_rfl) (TriQ.next (Tri.ret (TriQ.passRet ?_)))
   exact TriQ.ret (v := .tuple #[.int .i64 0, .int .i64 141]) (l := []) (obl := []) [] [0] (fun _ => by kernel_rfl) trivial rfl (by kernel_rfl) (⟨by rw [refB_bad (ns := ns) (root := root) (by rw [beginC_none hok hat]; decide), beginC_none hok hat], rfl⟩)
  ·
   have hat : 0 ≤ atI ns root := by omega
   have htl := atI_lt hat
   refine Tri.skip (TriQ.next (Tri.seq (Tri.seq (Tri.region ?_))))
   refine TriL.segK (k' := 7) (fr' := [(6, .int .i64 (atI ns root)), (21, .bool (!(decide (((nd ns (tgt ns root)).kind : Int) = (2 : Int)))))]) (obl := [(Rd β ⟨(blkOf A), offOf A + (tgt ns root) * 10 + 1, none⟩ (.int .i64 ((nd ns (tgt ns root)).kind))), atI ns root = (((tgt ns root) : Nat) : Int), (tgt ns root) < ns.length, (⟨(blkOf A), offOf A, none⟩ : Addr).spot = none, (A : Option Addr) = some ⟨(blkOf A), offOf A, none⟩, b2 = b2]) [o_, ⟨[.at 1], none, none, none, none⟩, o_, ⟨[], some (tgt ns root), none, some ⟨(blkOf A), offOf A, none⟩, none⟩, o_, ⟨[.old (.int .i64 ((nd ns (tgt ns root)).kind))], none, none, none, none⟩, o_] [6, 21] (fun _ _ => by kernel_rfl) ⟨GraphAt.rd hG (i := (tgt ns root)) (by omega) (j := 1) rfl, htl.2.2, by omega, rfl, GraphAt.hd hG (i := (tgt ns root)) (by omega), rfl, trivial⟩ ?_
   refine TriL.nil (by kernel_rfl) (TriQ.next ?_)
   refine Tri.condN (p := ((nd ns (tgt ns root)).kind : Int) = (2 : Int)) (fun _ => by kernel_rfl) (fun h21 => ?_) (fun h21 => ?_)
   ·
    refine Tri.seq (Tri.region ?_)
    refine TriL.segK (k' := 2) (fr' := [(4, .int .i64 0), (5, .int .i64 173)]) (obl := []) [o_, o_] [4, 5] (fun _ _ => by kernel_rfl) trivial ?_
    refine TriL.nil (by kernel_rfl) (TriQ.next (Tri.ret (TriQ.passRet ?_)))
    exact TriQ.ret (v := .tuple #[.int .i64 0, .int .i64 173]) (l := []) (obl := []) [] [0] (fun _ => by kernel_rfl) trivial rfl (by kernel_rfl) (⟨by rw [refB_bad (ns := ns) (root := root) (by rw [beginC_kind hok hat h21]; decide), beginC_kind hok hat h21], rfl⟩)
   ·
    refine Tri.skip (TriQ.next (Tri.seq (Tri.region ?_)))
    refine TriL.segK (k' := 3) (fr' := [(4, .int .i64 (atI ns root)), (5, .int .i64 0)]) (obl := []) [o_, o_, o_] [4, 5] (fun _ _ => by kernel_rfl) trivial ?_
    refine TriL.nil (by kernel_rfl) (TriQ.next (Tri.ret ?_))
    exact TriQ.ret (v := .tuple #[.int .i64 (atI ns root), .int .i64 0]) (l := []) (obl := []) [] [0] (fun _ => by kernel_rfl) trivial rfl (by kernel_rfl) (⟨by rw [refB_ok (beginC_ok hok hat h21), htl.2.2], rfl⟩)
end Go.Proofs.Ytjpdcppdoonmdaa
end
