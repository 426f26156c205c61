/-
  PROVED HERE: lemmas and contracts of functions (texts of this repo, joined): GE, GEnter, GR, GRead, Vw, GP, GOk, Vy, Vq, Vz, ShelfK, GKs, Row, GO.
  CONDITIONS: as the theorems say.
-/
import Derived.Test.YtjpdcppdoonmdaaMOutside2
import Derived.Laws.OwnMore
import Derived.Lib.Bytealg
import Derived.ArgAppend
import Derived.OrdersHeld
import Derived.Shelf.SlIterI.Nil
import Derived.Shelf.SortM.Plain
import Derived.Shelf.SortM.SortNone
import Derived.Ground.GgzProg
import Derived.Ground.SlgmProg
import Derived.Test.YtjpdcppdoonmdaaProg
import Derived.Test.YtjpdcppdoonmdaaRows
import Derived.ProofKit
import Derived.OpenShut
import Derived.Carry
import Derived.Deep.Slices
/- part GE. PROVED HERE: what the entries of a graph are good for: plain laws of edges and parents. CONDITIONS: none. No statement of the seat is proved here. -/
section
namespace Go.Proofs.Ytjpdcppdoonmdaa
open Go.RowKit Go.Maps
def strLe (x y : ByteArray) : Prop := (Op.bytesLess x.toList y.toList || (x.toList == y.toList)) = true
instance (x y : ByteArray) : Decidable (strLe x y) := inferInstanceAs (Decidable (_ = true))
theorem strLeV (x y : ByteArray) : Value.bool (Op.bytesLess x.toList y.toList || (x.toList == y.toList)) = Value.bool (decide (strLe x y)) := by
  have h : ∀ (b : Bool) [Decidable (b = true)], b = decide (b = true) := by
    intro b _
    cases b <;> simp
  exact congrArg Value.bool (h _)
theorem strLe_empty {x : ByteArray} : strLe x ⟨#[]⟩ ↔ x = ⟨#[]⟩ := by
  unfold strLe
  rw [strEq']
  have h1 : (⟨#[]⟩ : ByteArray).toList = [] := by rw [Lib.toList_data]
  have h2 : Op.bytesLess x.toList (⟨#[]⟩ : ByteArray).toList = false := by
    rw [h1]
    cases x.toList <;> rfl
  rw [h2]
  simp
/-- the place that an entry leads to -/
def tgt (ns : List NodeM) (z : Int) : Nat := (atI ns z).toNat
theorem atI_lt {ns : List NodeM} {z : Int} (h : 0 ≤ atI ns z) : tgt ns z < ns.length ∧ (nd ns (tgt ns z)).id = z ∧ atI ns z = (tgt ns z : Int) := by
  unfold tgt
  unfold atI at h ⊢
  cases hf : ns.findIdx? (fun n => n.id == z) with
  | none => rw [hf] at h; simp at h
  | some k =>
    rw [List.findIdx?_eq_some_iff_getElem] at hf
    obtain ⟨h1, h2, _⟩ := hf
    refine ⟨h1, ?_, rfl⟩
    show (nd ns k).id = z
    unfold nd
    rw [List.getD_eq_getElem?_getD, List.getElem?_eq_getElem h1]
    simpa using h2
theorem atI_neg {ns : List NodeM} {z : Int} (h : ¬ 0 ≤ atI ns z) : atI ns z = -1 := by
  unfold atI at h ⊢
  cases hf : ns.findIdx? (fun n => n.id == z) with
  | none => rfl
  | some k => rw [hf] at h; simp at h
/-- entry j of node i -/
def ent (ns : List NodeM) (i j : Nat) : EntM := en (nd ns i).ents j
def prevName (ns : List NodeM) (i : Nat) : Nat → ByteArray
  | 0 => ⟨#[]⟩
  | j + 1 => (ent ns i j).name
structure EntOk (ns : List NodeM) (i j : Nat) : Prop where
  at_ : 0 ≤ atI ns (ent ns i j).id
  good : GoodName (ent ns i j).name
  ord : ¬ strLe (ent ns i j).name (prevName ns i j)
def eOf (ns : List NodeM) (i j : Nat) : List (Nat × Nat) := if (nd ns (tgt ns (ent ns i j).id)).kind = 2 then [(tgt ns (ent ns i j).id, i)] else []
def rowE (ns : List NodeM) (i : Nat) : Nat → List (Nat × Nat)
  | 0 => []
  | j + 1 => eOf ns i j ++ rowE ns i j
def allE (ns : List NodeM) : Nat → List (Nat × Nat)
  | 0 => []
  | i + 1 => rowE ns i (nd ns i).ents.length ++ allE ns i
def idP (ns : List NodeM) (p : Nat × Nat) : Int × Int := ((nd ns p.1).id, (nd ns p.2).id)
theorem rowE_mono {ns : List NodeM} {i j m : Nat} (h : j ≤ m) : ∃ l, rowE ns i m = l ++ rowE ns i j := by
  induction m with
  | zero => exact ⟨[], by rw [Nat.le_zero.1 h]; rfl⟩
  | succ m ih =>
    rcases Nat.lt_or_ge m j with h1 | h1
    · have : j = m + 1 := by omega
      subst this
      exact ⟨[], rfl⟩
    · obtain ⟨l, hl⟩ := ih h1
      exact ⟨eOf ns i m ++ l, by rw [rowE, hl, List.append_assoc]⟩
theorem allE_mono {ns : List NodeM} {i m : Nat} (h : i ≤ m) : ∃ l, allE ns m = l ++ allE ns i := by
  induction m with
  | zero => exact ⟨[], by rw [Nat.le_zero.1 h]; rfl⟩
  | succ m ih =>
    rcases Nat.lt_or_ge m i with h1 | h1
    · have : i = m + 1 := by omega
      subst this
      exact ⟨[], rfl⟩
    · obtain ⟨l, hl⟩ := ih h1
      exact ⟨rowE ns m (nd ns m).ents.length ++ l, by rw [allE, hl, List.append_assoc]⟩
theorem nodup_suffix {l : List (Nat × Nat)} {k : List (Nat × Nat)} (h : ((l ++ k).map Prod.fst).Nodup) : (k.map Prod.fst).Nodup := by
  rw [List.map_append] at h
  exact (List.nodup_append.1 h).2.1
theorem Rising.inj {ns : List NodeM} (hr : Rising ns) {a b : Nat} (ha : a < ns.length) (hb : b < ns.length) (h : (nd ns a).id = (nd ns b).id) : a = b := by
  rcases Nat.lt_trichotomy a b with h1 | h1 | h1
  · have := hr a b h1 hb; omega
  · exact h1
  · have := hr b a h1 ha; omega
theorem up_none {ns : List NodeM} {ps : List (Nat × Nat)} {k : Nat} (h : up (ps.map (idP ns)) (nd ns k).id = none) : k ∉ ps.map Prod.fst := by
  unfold up at h
  induction ps with
  | nil => simp
  | cons p ps ih =>
    obtain ⟨a, b⟩ := p
    rw [List.map_cons, idP, List.lookup_cons] at h
    intro hm
    rw [List.map_cons] at hm
    rcases List.mem_cons.1 hm with e | hm
    · subst e
      simp at h
    · by_cases e : ((nd ns k).id == (nd ns a).id) = true
      · rw [e] at h; cases h
      · have e : ((nd ns k).id == (nd ns a).id) = false := by simpa using e
        rw [e] at h
        exact ih h hm
theorem up_some {ns : List NodeM} {ps : List (Nat × Nat)} {k : Nat} {y : Int} (hr : Rising ns) (hk : k < ns.length) (hp : ∀ p, p ∈ ps → p.1 < ns.length) (h : up (ps.map (idP ns)) (nd ns k).id = some y) : k ∈ ps.map Prod.fst ∧ ∃ p, p ∈ ps ∧ p.1 = k ∧ y = (nd ns p.2).id := by
  unfold up at h
  induction ps with
  | nil => cases h
  | cons p ps ih =>
    obtain ⟨a, b⟩ := p
    rw [List.map_cons, idP, List.lookup_cons] at h
    by_cases e : ((nd ns k).id == (nd ns a).id) = true
    · rw [e] at h
      cases h
      have : k = a := hr.inj hk (hp (a, b) (List.mem_cons_self ..)) (by simpa using e)
      subst this
      exact ⟨by simp, (k, b), List.mem_cons_self .., rfl, rfl⟩
    · have e : ((nd ns k).id == (nd ns a).id) = false := by simpa using e
      rw [e] at h
      obtain ⟨h1, q, hq, h2⟩ := ih (fun p hp' => hp p (List.mem_cons_of_mem _ hp')) h
      exact ⟨by rw [List.map_cons]; exact List.mem_cons_of_mem _ h1, q, List.mem_cons_of_mem _ hq, h2⟩
/-- what the map of the nodes answers when the first k are in -/
def bf (A : Option Addr) (ns : List NodeM) (k : Nat) (z : Int) : Option Value := if 0 ≤ atI ns z ∧ atI ns z < k then some (.pointer (some ⟨blkOf A, offOf A + tgt ns z * 10, none⟩)) else none
structure RowOk (ns : List NodeM) (i : Nat) (ps : List (Nat × Nat)) : Prop where
  ents : ∀ j, j < (nd ns i).ents.length → EntOk ns i j
  nodup : ((rowE ns i (nd ns i).ents.length ++ ps).map Prod.fst).Nodup
theorem bf_at {A : Option Addr} {ns : List NodeM} {k : Nat} {z : Int} (h : 0 ≤ atI ns z) (hk : tgt ns z < k) : mf (bf A ns k) (.int .i64 z) = some (.pointer (some ⟨blkOf A, offOf A + tgt ns z * 10, none⟩)) :=
  if_pos ⟨h, by rw [(atI_lt h).2.2]; omega⟩
theorem bf_none {A : Option Addr} {ns : List NodeM} {k : Nat} {z : Int} (h : ¬ 0 ≤ atI ns z) : mf (bf A ns k) (.int .i64 z) = none := if_neg (fun e => h e.1)
theorem rowE_len (ns : List NodeM) (i j : Nat) : (rowE ns i j).length ≤ j := by
  induction j with
  | zero => exact Nat.le_refl _
  | succ j ih =>
    rw [rowE, List.length_append]
    have : (eOf ns i j).length ≤ 1 := by
      unfold eOf
      split <;> simp
    omega
theorem rowE_skip {ns : List NodeM} {i j : Nat} (h : ¬ (nd ns (tgt ns (ent ns i j).id)).kind = 2) : rowE ns i (j + 1) = rowE ns i j := by
  rw [rowE, eOf, if_neg h]; rfl
theorem rowE_dir {ns : List NodeM} {i j : Nat} (h : (nd ns (tgt ns (ent ns i j).id)).kind = 2) : rowE ns i (j + 1) = (tgt ns (ent ns i j).id, i) :: rowE ns i j := by
  rw [rowE, eOf, if_pos h]; rfl
theorem rowOk_fresh {ns : List NodeM} {i j : Nat} {ps : List (Nat × Nat)} (h : RowOk ns i ps) (hj : j < (nd ns i).ents.length) (hk : (nd ns (tgt ns (ent ns i j).id)).kind = 2) : tgt ns (ent ns i j).id ∉ (rowE ns i j ++ ps).map Prod.fst := by
  obtain ⟨l, hl⟩ := rowE_mono (ns := ns) (i := i) (show j + 1 ≤ (nd ns i).ents.length from hj)
  have h1 := h.nodup
  rw [hl, List.append_assoc] at h1
  have h2 := nodup_suffix h1
  rw [rowE_dir hk, List.cons_append, List.map_cons] at h2
  exact (List.nodup_cons.1 h2).1
theorem upd_edge {ns : List NodeM} {i j : Nat} {ps : List (Nat × Nat)} (hat : 0 ≤ atI ns (ent ns i j).id) (hk : (nd ns (tgt ns (ent ns i j).id)).kind = 2) :
    upd (mf (pf ((rowE ns i j ++ ps).map (idP ns)))) (.int .i64 (ent ns i j).id) (some (.int .i64 (nd ns i).id)) = mf (pf ((rowE ns i (j + 1) ++ ps).map (idP ns))) := by
  rw [mf_upd, rowE_dir hk, List.cons_append, List.map_cons, idP, (atI_lt hat).2.1, pf_cons]
theorem len_edge {ns : List NodeM} {i j : Nat} {ps : List (Nat × Nat)} {f : Lit → Option Value} {kl : Lit} (hf : f kl = none) (hk : (nd ns (tgt ns (ent ns i j).id)).kind = 2) :
    (if (f kl).isSome then (rowE ns i j ++ ps).length else (rowE ns i j ++ ps).length + 1) = (rowE ns i (j + 1) ++ ps).length := by
  rw [hf, rowE_dir hk]
  rfl
theorem nodup_edge {ns : List NodeM} {i j : Nat} {ps : List (Nat × Nat)} (hat : 0 ≤ atI ns (ent ns i j).id) (hk : (nd ns (tgt ns (ent ns i j).id)).kind = 2) (hup : up ((rowE ns i j ++ ps).map (idP ns)) (ent ns i j).id = none) (h : ((rowE ns i j ++ ps).map Prod.fst).Nodup) :
    ((rowE ns i (j + 1) ++ ps).map Prod.fst).Nodup := by
  rw [rowE_dir hk, List.cons_append, List.map_cons]
  refine List.nodup_cons.2 ⟨?_, h⟩
  refine up_none (ns := ns) ?_
  rw [(atI_lt hat).2.1]
  exact hup
theorem rowE_fst {ns : List NodeM} {i j : Nat} (h : ∀ t, t < j → EntOk ns i t) : ∀ p, p ∈ rowE ns i j → p.1 < ns.length ∧ p.2 = i := by
  induction j with
  | zero => intro p hp; cases hp
  | succ j ih =>
    intro p hp
    rw [rowE] at hp
    rcases List.mem_append.1 hp with hp | hp
    · unfold eOf at hp
      split at hp
      · rw [List.mem_singleton.1 hp]
        exact ⟨(atI_lt (h j (Nat.lt_succ_self j)).at_).1, rfl⟩
      · cases hp
    · exact ih (fun t ht => h t (by omega)) p hp
theorem rowOk_twice {ns : List NodeM} {i j : Nat} {ps : List (Nat × Nat)} {y : Int} (hr : Rising ns) (hps : ∀ p, p ∈ ps → p.1 < ns.length) (hok : ∀ t, t < j → EntOk ns i t) (hat : 0 ≤ atI ns (ent ns i j).id) (hk : (nd ns (tgt ns (ent ns i j).id)).kind = 2)
    (hup : up ((rowE ns i j ++ ps).map (idP ns)) (ent ns i j).id = some y) (hj : j < (nd ns i).ents.length) : ¬ RowOk ns i ps := fun h => by
  refine rowOk_fresh h hj hk ?_
  rw [← (atI_lt hat).2.1] at hup
  refine (up_some hr (atI_lt hat).1 (fun p hp => ?_) hup).1
  rcases List.mem_append.1 hp with hp | hp
  · exact (rowE_fst hok p hp).1
  · exact hps p hp
end Go.Proofs.Ytjpdcppdoonmdaa
end
/- part GEnter. PROVED HERE: the entries of a node CONDITIONS: as the theorems say. Printed by a program of this repo (wip/v). -/
section
namespace Go.Proofs.Ytjpdcppdoonmdaa
open Go.RowKit
attribute [local irreducible] TriL TriLQ Tri TriQ
set_option maxRecDepth 100000 in
set_option maxHeartbeats 4000000 in
theorem sp_enter {β : Bs} (A : Option Addr) (ns : List NodeM) (L : Lay) (hG : GraphAt β A ns L) (hr : Rising ns) (i : Nat) (hi : i < ns.length) (hel : (nd ns i).ents.length ≤ 1048576) (hwf : ∀ j, j < (nd ns i).ents.length → -9223372036854775808 ≤ (ent ns i j).id ∧ (ent ns i j).id ≤ 9223372036854775807) (hnm : ∀ j, j < (nd ns i).ents.length → (ent ns i j).name.size ≤ 1048576)
    (mb mp : Nat) (ps : List (Nat × Nat)) (hpl : ps.length ≤ 16777216) (hps : ∀ p, p ∈ ps → p.1 < ns.length) (hnp : (ps.map Prod.fst).Nodup) :
    Spec Try.prog β 59 #[.pointer (some ⟨(blkOf A), offOf A + i * 10, none⟩), .map (some mb), .map (some mp)] [.abs (MapA Try.prog 3 mb (mf (bf A ns ns.length)) ns.length), .abs (MapA Try.prog 3 mp (mf (pf ((ps).map (idP ns)))) ((ps).length))] (fun v l => (v = .bool true ∧ RowOk ns i ps ∧ l = [.abs (MapA Try.prog 3 mb (mf (bf A ns ns.length)) ns.length), .abs (MapA Try.prog 3 mp (mf (pf ((rowE ns i (nd ns i).ents.length ++ ps).map (idP ns)))) ((rowE ns i (nd ns i).ents.length ++ ps).length))]) ∨ (v = .bool false ∧ ¬ RowOk ns i ps ∧ l = [])) := by
 refine Spec.enter Try.func59 rfl Try.ntmps59 (Nat.le_of_ble_eq_true rfl) (fun R => ?_)
 refine Tri.seq (Tri.region ?_)
 refine TriL.segK (k' := 1) (fr' := [(0, .pointer (some ⟨(blkOf A), offOf A + i * 10, none⟩)), (1, .map (some mb)), (2, .map (some mp))]) (obl := []) [o_] [0, 1, 2] (fun _ _ => by kernel_rfl) trivial ?_
 refine TriL.nil (by kernel_rfl) (TriQ.next (Tri.seq (Tri.region ?_)))
 refine TriL.segK (k' := 1) (fr' := [(0, .pointer (some ⟨(blkOf A), offOf A + i * 10, none⟩)), (1, .map (some mb)), (2, .map (some mp)), (7, .string ⟨#[]⟩)]) (obl := []) [o_] [0, 1, 2, 7] (fun _ _ => by kernel_rfl) trivial ?_
 refine TriL.nil (by kernel_rfl) (TriQ.next (Tri.seq (Tri.seq (Tri.region ?_))))
 refine TriL.segK (k' := 6) (fr' := [(0, .pointer (some ⟨(blkOf A), offOf A + i * 10, none⟩)), (1, .map (some mb)), (2, .map (some mp)), (7, .string ⟨#[]⟩), (16, .slice (L.eA i) ((nd ns i).ents.length) ((L.eC i))), (17, .int .i64 ↑((nd ns i).ents.length)), (18, .int .i64 0)]) (obl := [(Rd β ⟨(blkOf A), offOf A + i * 10 + 9, none⟩ (.slice (L.eA i) ((nd ns i).ents.length) ((L.eC i))))]) [o_, o_, o_, ⟨[.old (.slice (L.eA i) ((nd ns i).ents.length) ((L.eC i)))], none, none, none, none⟩, o_, o_] [0, 1, 2, 7, 16, 17, 18] (fun _ _ => by kernel_rfl) ⟨GraphAt.rd hG (i := i) (by omega) (j := 9) rfl, trivial⟩ ?_
 refine TriL.nil (by kernel_rfl) (TriQ.next (Tri.block ?_))
 refine Tri.loop (ι := Nat) (fun (j : Nat) => (j ≤ (nd ns i).ents.length) ∧ (∀ t, t < j → EntOk ns i t) ∧ (((rowE ns i j ++ ps).map Prod.fst).Nodup)) (fun (j : Nat) => (nd ns i).ents.length - j) (fun (j : Nat) => [(0, .pointer (some ⟨(blkOf A), offOf A + i * 10, none⟩)), (1, .map (some mb)), (2, .map (some mp)), (7, .string (prevName ns i j)), (16, .slice (L.eA i) ((nd ns i).ents.length) ((L.eC i))), (17, .int .i64 ↑((nd ns i).ents.length)), (18, .int .i64 ↑j)]) (fun (j : Nat) => [.abs (MapA Try.prog 3 mb (mf (bf A ns ns.length)) ns.length), .abs (MapA Try.prog 3 mp (mf (pf ((rowE ns i j ++ ps).map (idP ns)))) ((rowE ns i j ++ ps).length)), .abs R]) 0 (idx := [0, 1, 2, 7, 16, 17, 18]) (pk := [0, 1, 2]) (show (0 ≤ (nd ns i).ents.length) ∧ (∀ t, t < 0 → EntOk ns i t) ∧ (((rowE ns i 0 ++ ps).map Prod.fst).Nodup) from ⟨Nat.zero_le _, fun t ht => absurd ht (Nat.not_lt_zero t), hnp⟩) (fun _ => by kernel_rfl) rfl (by kernel_rfl) ?_
 rintro j ⟨hj, hok, hnd⟩
 show Tri _ _ _ _ [(0, .pointer (some ⟨(blkOf A), offOf A + i * 10, none⟩)), (1, .map (some mb)), (2, .map (some mp)), (7, .string (prevName ns i j)), (16, .slice (L.eA i) ((nd ns i).ents.length) ((L.eC i))), (17, .int .i64 ↑((nd ns i).ents.length)), (18, .int .i64 ↑j)] [.abs (MapA Try.prog 3 mb (mf (bf A ns ns.length)) ns.length), .abs (MapA Try.prog 3 mp (mf (pf ((rowE ns i j ++ ps).map (idP ns)))) ((rowE ns i j ++ ps).length)), .abs R] _
 refine Tri.seq (Tri.region ?_)
 refine TriL.segK (k' := 1) (fr' := [(0, .pointer (some ⟨(blkOf A), offOf A + i * 10, none⟩)), (1, .map (some mb)), (2, .map (some mp)), (7, .string (prevName ns i j)), (16, .slice (L.eA i) ((nd ns i).ents.length) ((L.eC i))), (17, .int .i64 ↑((nd ns i).ents.length)), (18, .int .i64 ↑j), (19, .bool (decide ((((j : Nat) : Int) : Int) < ((((nd ns i).ents.length : Nat) : Int) : Int))))]) (obl := []) [o_] [0, 1, 2, 7, 16, 17, 18, 19] (fun _ _ => by kernel_rfl) trivial ?_
 refine TriL.nil (by kernel_rfl) (TriQ.next (Tri.seq ?_))
 refine Tri.condP (p := (((j : Nat) : Int) : Int) < ((((nd ns i).ents.length : Nat) : Int) : Int)) (fun _ => by kernel_rfl) (fun h19 => ?_) (fun h19 => ?_)
 ·
  refine Tri.skip (TriQ.next (Tri.seq (Tri.block (Tri.seq (Tri.region ?_)))))
  refine TriL.segN (k' := 4) (fr' := fun b1 => [(0, .pointer (some ⟨(blkOf A), offOf A + i * 10, none⟩)), (1, .map (some mb)), (2, .map (some mp)), (7, .string (prevName ns i j)), (9, .pointer (some ⟨b1, 0, none⟩)), (16, .slice (L.eA i) ((nd ns i).ents.length) ((L.eC i))), (17, .int .i64 ↑((nd ns i).ents.length)), (18, .int .i64 ↑j)]) (hps' := fun b1 => [.abs (MapA Try.prog 3 mb (mf (bf A ns ns.length)) ns.length), .abs (MapA Try.prog 3 mp (mf (pf ((rowE ns i j ++ ps).map (idP ns)))) ((rowE ns i j ++ ps).length)), .abs R, .blk b1 [.string (en (nd ns i).ents j).name, .int .i64 ((en (nd ns i).ents j).id)] 72]) (obl := fun b1 => [b1 = b1, b1 = b1, (Rd β ⟨(blkOf (L.eA i)), offOf (L.eA i) + j * 2 + 1, none⟩ (.int .i64 ((en (nd ns i).ents j).id))), (Rd β ⟨(blkOf (L.eA i)), offOf (L.eA i) + j * 2, none⟩ (.string (en (nd ns i).ents j).name)), ((j : Nat) : Int) = ((j : Nat) : Int), j < (nd ns i).ents.length, (⟨(blkOf (L.eA i)), offOf (L.eA i), none⟩ : Addr).spot = none, ((L.eA i) : Option Addr) = some ⟨(blkOf (L.eA i)), offOf (L.eA i), none⟩]) [⟨[], some j, none, some ⟨(blkOf (L.eA i)), offOf (L.eA i), none⟩, none⟩, ⟨[.old (.string (en (nd ns i).ents j).name), .old (.int .i64 ((en (nd ns i).ents j).id))], none, none, none, none⟩, o_, ⟨[.at 3, .at 3], none, none, none, none⟩] [0, 1, 2, 7, 9, 16, 17, 18] [0, 1, 2, 3] (fun _ _ => by kernel_rfl) (fun b1 => ⟨rfl, rfl, EntsAt.rd (hG.ents i (by omega)) (i := j) (by omega) (j := 1) rfl, EntsAt.rd (hG.ents i (by omega)) (i := j) (by omega) (j := 0) rfl, rfl, by omega, rfl, EntsAt.hd (hG.ents i (by omega)) (i := j) (by omega), trivial⟩) (fun b1 => ?_)
  refine TriL.nil (by kernel_rfl) (TriQ.next (Tri.seq (Tri.region ?_)))
  refine TriL.segK (k' := 3) (fr' := [(0, .pointer (some ⟨(blkOf A), offOf A + i * 10, none⟩)), (1, .map (some mb)), (2, .map (some mp)), (7, .string (prevName ns i j)), (9, .pointer (some ⟨b1, 0, none⟩)), (16, .slice (L.eA i) ((nd ns i).ents.length) ((L.eC i))), (17, .int .i64 ↑((nd ns i).ents.length)), (18, .int .i64 ↑j), (22, .map (some mb)), (24, .int .i64 ((en (nd ns i).ents j).id))]) (obl := [b1 = b1]) [o_, o_, ⟨[.at 3], none, none, none, none⟩] [0, 1, 2, 7, 9, 16, 17, 18, 22, 24] (fun _ _ => by kernel_rfl) ⟨rfl, trivial⟩ ?_
  by_cases hat : 0 ≤ atI ns (en (nd ns i).ents j).id
  ·
   have htl := atI_lt hat
   refine TriL.mapLook 0 (d := (some 25)) (t := 66) (K := 3) (E := 75) (b := mb) (n := ns.length) (f := (mf (bf A ns ns.length))) (x := (.tmp 22)) (ix := (.tmp 24)) (key := .int .i64 ((en (nd ns i).ents j).id)) (z := .pointer none) (kl := (.int .i64 (en (nd ns i).ents j).id)) (r := (some (.pointer (some ⟨(blkOf A), offOf A + (tgt ns (en (nd ns i).ents j).id) * 10, none⟩)))) (fun _ => by kernel_rfl) (by kernel_rfl) (fun _ => by kernel_rfl) (fun _ => by kernel_rfl) lawI Try.underlying66 (fun _ => by kernel_rfl) (keyI (hwf j (by omega)).1 (hwf j (by omega)).2) (bf_at hat htl.1) ?_
   refine TriL.segK (k' := 5) (fr' := [(0, .pointer (some ⟨(blkOf A), offOf A + i * 10, none⟩)), (1, .map (some mb)), (2, .map (some mp)), (7, .string (prevName ns i j)), (9, .pointer (some ⟨b1, 0, none⟩)), (10, .pointer (some ⟨(blkOf A), offOf A + (tgt ns (en (nd ns i).ents j).id) * 10, none⟩)), (16, .slice (L.eA i) ((nd ns i).ents.length) ((L.eC i))), (17, .int .i64 ↑((nd ns i).ents.length)), (18, .int .i64 ↑j)]) (obl := []) [o_] [0, 1, 2, 7, 9, 10, 16, 17, 18] (fun _ _ => by kernel_rfl) trivial ?_
   refine TriL.nil (by kernel_rfl) (TriQ.next (Tri.seq (Tri.seq (Tri.region ?_))))
   refine TriL.segK (k' := 5) (fr' := [(0, .pointer (some ⟨(blkOf A), offOf A + i * 10, none⟩)), (1, .map (some mb)), (2, .map (some mp)), (7, .string (prevName ns i j)), (9, .pointer (some ⟨b1, 0, none⟩)), (10, .pointer (some ⟨(blkOf A), offOf A + (tgt ns (en (nd ns i).ents j).id) * 10, none⟩)), (16, .slice (L.eA i) ((nd ns i).ents.length) ((L.eC i))), (17, .int .i64 ↑((nd ns i).ents.length)), (18, .int .i64 ↑j), (28, .bool false), (30, .string (en (nd ns i).ents j).name)]) (obl := [b1 = b1]) [o_, o_, o_, o_, ⟨[.at 3], none, none, none, none⟩] [0, 1, 2, 7, 9, 10, 16, 17, 18, 28, 30] (fun _ _ => by kernel_rfl) ⟨rfl, trivial⟩ ?_
   refine TriL.call (f := 72) (args := #[.string (en (nd ns i).ents j).name]) (d := (some 31)) (pre := []) (R := [.abs (MapA Try.prog 3 mb (mf (bf A ns ns.length)) ns.length), .abs (MapA Try.prog 3 mp (mf (pf ((rowE ns i j ++ ps).map (idP ns)))) ((rowE ns i j ++ ps).length)), .abs R, .blk b1 [.string (en (nd ns i).ents j).name, .int .i64 ((en (nd ns i).ents j).id)] 72]) (pk := [0, 1, 2, 3]) (fun _ => by kernel_rfl) (sp_routeGood (en (nd ns i).ents j).name (hnm j (by omega))) rfl (by kernel_rfl) ?_
   rintro _ _ ⟨rfl, rfl⟩
   refine TriL.segK (k' := 9) (fr' := [(0, .pointer (some ⟨(blkOf A), offOf A + i * 10, none⟩)), (1, .map (some mb)), (2, .map (some mp)), (7, .string (prevName ns i j)), (9, .pointer (some ⟨b1, 0, none⟩)), (10, .pointer (some ⟨(blkOf A), offOf A + (tgt ns (en (nd ns i).ents j).id) * 10, none⟩)), (16, .slice (L.eA i) ((nd ns i).ents.length) ((L.eC i))), (17, .int .i64 ↑((nd ns i).ents.length)), (18, .int .i64 ↑j), (34, .bool (!(decide (GoodName (en (nd ns i).ents j).name))))]) (obl := []) [o_, o_, o_] [0, 1, 2, 7, 9, 10, 16, 17, 18, 34] (fun _ _ => by kernel_rfl) trivial ?_
   refine TriL.slotN 34 (GoodName (en (nd ns i).ents j).name) (fun _ => by kernel_rfl) (fun h34 => ?_) (fun h34 => ?_)
   ·
    refine TriL.segK (k' := 14) (fr' := [(0, .pointer (some ⟨(blkOf A), offOf A + i * 10, none⟩)), (1, .map (some mb)), (2, .map (some mp)), (9, .pointer (some ⟨b1, 0, none⟩)), (10, .pointer (some ⟨(blkOf A), offOf A + (tgt ns (en (nd ns i).ents j).id) * 10, none⟩)), (16, .slice (L.eA i) ((nd ns i).ents.length) ((L.eC i))), (17, .int .i64 ↑((nd ns i).ents.length)), (18, .int .i64 ↑j), (39, .bool true)]) (obl := []) [o_, o_, o_, o_, o_] [0, 1, 2, 9, 10, 16, 17, 18, 39] (fun _ _ => by kernel_rfl) trivial ?_
    refine TriL.nil (by kernel_rfl) (TriQ.next ?_)
    refine Tri.condT (fun _ => by kernel_rfl) ?_
    refine Tri.seq (Tri.region ?_)
    refine TriL.segK (k' := 1) (fr' := [(6, .bool false)]) (obl := []) [o_] [6] (fun _ _ => by kernel_rfl) trivial ?_
    refine TriL.nil (by kernel_rfl) (TriQ.next (Tri.ret (TriQ.passRet (TriQ.blockRet (TriQ.passRet (TriQ.passRet (TriQ.blockRet (TriQ.passRet ?_))))))))
    exact TriQ.ret (v := .bool false) (l := []) (obl := []) [] [2] (fun _ => by kernel_rfl) trivial rfl (by kernel_rfl) (.inr ⟨rfl, fun h => h34 (h.ents j (by omega)).good, rfl⟩)
   ·
    refine TriL.segK (k' := 14) (fr' := [(0, .pointer (some ⟨(blkOf A), offOf A + i * 10, none⟩)), (1, .map (some mb)), (2, .map (some mp)), (9, .pointer (some ⟨b1, 0, none⟩)), (10, .pointer (some ⟨(blkOf A), offOf A + (tgt ns (en (nd ns i).ents j).id) * 10, none⟩)), (16, .slice (L.eA i) ((nd ns i).ents.length) ((L.eC i))), (17, .int .i64 ↑((nd ns i).ents.length)), (18, .int .i64 ↑j), (39, .bool (decide (strLe ((en (nd ns i).ents j).name) (prevName ns i j))))]) (obl := [(Value.bool (Op.bytesLess (((en (nd ns i).ents j).name) : ByteArray).toList (((prevName ns i j)) : ByteArray).toList || (((en (nd ns i).ents j).name) : ByteArray).toList == (((prevName ns i j)) : ByteArray).toList)) = (.bool (decide (strLe ((en (nd ns i).ents j).name) (prevName ns i j)))), b1 = b1]) [o_, ⟨[.at 3], none, none, none, none⟩, o_, ⟨[], none, none, none, some (.bool (decide (strLe ((en (nd ns i).ents j).name) (prevName ns i j))))⟩, o_] [0, 1, 2, 9, 10, 16, 17, 18, 39] (fun _ _ => by kernel_rfl) ⟨strLeV _ _, rfl, trivial⟩ ?_
    refine TriL.nil (by kernel_rfl) (TriQ.next ?_)
    refine Tri.condP (p := strLe ((en (nd ns i).ents j).name) (prevName ns i j)) (fun _ => by kernel_rfl) (fun h39 => ?_) (fun h39 => ?_)
    ·
     refine Tri.seq (Tri.region ?_)
     refine TriL.segK (k' := 1) (fr' := [(6, .bool false)]) (obl := []) [o_] [6] (fun _ _ => by kernel_rfl) trivial ?_
     refine TriL.nil (by kernel_rfl) (TriQ.next (Tri.ret (TriQ.passRet (TriQ.blockRet (TriQ.passRet (TriQ.passRet (TriQ.blockRet (TriQ.passRet ?_))))))))
     exact TriQ.ret (v := .bool false) (l := []) (obl := []) [] [2] (fun _ => by kernel_rfl) trivial rfl (by kernel_rfl) (.inr ⟨rfl, fun h => (h.ents j (by omega)).ord h39, rfl⟩)
    ·
     refine Tri.skip (TriQ.next (Tri.seq (Tri.region ?_)))
     refine TriL.segK (k' := 3) (fr' := [(0, .pointer (some ⟨(blkOf A), offOf A + i * 10, none⟩)), (1, .map (some mb)), (2, .map (some mp)), (7, .string (en (nd ns i).ents j).name), (9, .pointer (some ⟨b1, 0, none⟩)), (10, .pointer (some ⟨(blkOf A), offOf A + (tgt ns (en (nd ns i).ents j).id) * 10, none⟩)), (16, .slice (L.eA i) ((nd ns i).ents.length) ((L.eC i))), (17, .int .i64 ↑((nd ns i).ents.length)), (18, .int .i64 ↑j)]) (obl := [b1 = b1]) [o_, ⟨[.at 3], none, none, none, none⟩, o_] [0, 1, 2, 7, 9, 10, 16, 17, 18] (fun _ _ => by kernel_rfl) ⟨rfl, trivial⟩ ?_
     refine TriL.nil (by kernel_rfl) (TriQ.next (Tri.seq (Tri.seq (Tri.region ?_))))
     refine TriL.segK (k' := 5) (fr' := [(0, .pointer (some ⟨(blkOf A), offOf A + i * 10, none⟩)), (1, .map (some mb)), (2, .map (some mp)), (7, .string (en (nd ns i).ents j).name), (9, .pointer (some ⟨b1, 0, none⟩)), (16, .slice (L.eA i) ((nd ns i).ents.length) ((L.eC i))), (17, .int .i64 ↑((nd ns i).ents.length)), (18, .int .i64 ↑j), (46, .bool (!(decide (((nd ns (tgt ns (en (nd ns i).ents j).id)).kind : Int) = (2 : Int)))))]) (obl := [(Rd β ⟨(blkOf A), offOf A + (tgt ns (en (nd ns i).ents j).id) * 10 + 1, none⟩ (.int .i64 ((nd ns (tgt ns (en (nd ns i).ents j).id)).kind)))]) [o_, o_, o_, ⟨[.old (.int .i64 ((nd ns (tgt ns (en (nd ns i).ents j).id)).kind))], none, none, none, none⟩, o_] [0, 1, 2, 7, 9, 16, 17, 18, 46] (fun _ _ => by kernel_rfl) ⟨GraphAt.rd hG (i := (tgt ns (en (nd ns i).ents j).id)) (by omega) (j := 1) rfl, trivial⟩ ?_
     refine TriL.nil (by kernel_rfl) (TriQ.next ?_)
     refine Tri.condN (p := ((nd ns (tgt ns (en (nd ns i).ents j).id)).kind : Int) = (2 : Int)) (fun _ => by kernel_rfl) (fun h46 => ?_) (fun h46 => ?_)
     ·
      refine Tri.exit (TriQ.passExit (TriQ.blockHit (TriQ.next (Tri.region ?_))))
      refine TriL.partEq 1 (p := .abs (MapA Try.prog 3 mp (mf (pf ((rowE ns i j ++ ps).map (idP ns)))) ((rowE ns i j ++ ps).length))) (p' := .abs (MapA Try.prog 3 mp (mf (pf ((rowE ns i (j + 1) ++ ps).map (idP ns)))) ((rowE ns i (j + 1) ++ ps).length))) (by kernel_rfl) (by rw [rowE_skip h46]) ?_
      refine TriL.segK (k' := 2) (fr' := [(0, .pointer (some ⟨(blkOf A), offOf A + i * 10, none⟩)), (1, .map (some mb)), (2, .map (some mp)), (7, .string (en (nd ns i).ents j).name), (16, .slice (L.eA i) ((nd ns i).ents.length) ((L.eC i))), (17, .int .i64 ↑((nd ns i).ents.length)), (18, .int .i64 ↑(j + 1))]) (obl := [(Value.int .i64 (IntKind.wrap .i64 (((j : Nat) : Int) + 1))) = (.int .i64 ↑(j + 1))]) [⟨[], none, none, none, some (.int .i64 ↑(j + 1))⟩, o_] [0, 1, 2, 7, 16, 17, 18] (fun _ _ => by kernel_rfl) ⟨wrapEq (by omega) (by omega) (by omega), trivial⟩ ?_
      refine TriL.nil (by kernel_rfl) ?_
      exact TriQ.turn ((j + 1)) (idx := [0, 1, 2, 7, 16, 17, 18]) (pk := [0, 1, 2]) (show (((j + 1)) ≤ (nd ns i).ents.length) ∧ (∀ t, t < ((j + 1)) → EntOk ns i t) ∧ (((rowE ns i ((j + 1)) ++ ps).map Prod.fst).Nodup) from ⟨by omega, fun t ht => (by rcases Nat.lt_succ_iff_lt_or_eq.1 ht with h | h; exact hok t h; subst h; exact ⟨hat, h34, h39⟩), (by rw [rowE_skip h46]; exact hnd)⟩) (by show (nd ns i).ents.length - ((j + 1)) < (nd ns i).ents.length - j; omega) (fun _ => by kernel_rfl) rfl (by kernel_rfl)
     ·
      refine Tri.skip (TriQ.next (Tri.seq (Tri.seq (Tri.region ?_))))
      refine TriL.segK (k' := 3) (fr' := [(0, .pointer (some ⟨(blkOf A), offOf A + i * 10, none⟩)), (1, .map (some mb)), (2, .map (some mp)), (7, .string (en (nd ns i).ents j).name), (9, .pointer (some ⟨b1, 0, none⟩)), (16, .slice (L.eA i) ((nd ns i).ents.length) ((L.eC i))), (17, .int .i64 ↑((nd ns i).ents.length)), (18, .int .i64 ↑j), (48, .map (some mp)), (50, .int .i64 ((en (nd ns i).ents j).id))]) (obl := [b1 = b1]) [o_, o_, ⟨[.at 3], none, none, none, none⟩] [0, 1, 2, 7, 9, 16, 17, 18, 48, 50] (fun _ _ => by kernel_rfl) ⟨rfl, trivial⟩ ?_
      rcases hup : up ((rowE ns i j ++ ps).map (idP ns)) (en (nd ns i).ents j).id with _ | y
      ·
       refine TriL.mapLookOk 1 (d := (some 51)) (t := 107) (K := 3) (E := 3) (b := mp) (n := (rowE ns i j ++ ps).length) (f := (mf (pf ((rowE ns i j ++ ps).map (idP ns))))) (x := (.tmp 48)) (ix := (.tmp 50)) (key := .int .i64 ((en (nd ns i).ents j).id)) (z := .int .i64 0) (kl := (.int .i64 (en (nd ns i).ents j).id)) (r := none) (fun _ => by kernel_rfl) (by kernel_rfl) (fun _ => by kernel_rfl) (fun _ => by kernel_rfl) lawI Try.underlying107 (fun _ => by kernel_rfl) (keyI (hwf j (by omega)).1 (hwf j (by omega)).2) (pf_at_none hup) ?_
       refine TriL.segK (k' := 9) (fr' := [(0, .pointer (some ⟨(blkOf A), offOf A + i * 10, none⟩)), (1, .map (some mb)), (2, .map (some mp)), (7, .string (en (nd ns i).ents j).name), (9, .pointer (some ⟨b1, 0, none⟩)), (12, .bool false), (16, .slice (L.eA i) ((nd ns i).ents.length) ((L.eC i))), (17, .int .i64 ↑((nd ns i).ents.length)), (18, .int .i64 ↑j)]) (obl := []) [o_, o_, o_, o_, o_] [0, 1, 2, 7, 9, 12, 16, 17, 18] (fun _ _ => by kernel_rfl) trivial ?_
       refine TriL.nil (by kernel_rfl) (TriQ.next (Tri.seq (Tri.region ?_)))
       refine TriL.segK (k' := 1) (fr' := [(0, .pointer (some ⟨(blkOf A), offOf A + i * 10, none⟩)), (1, .map (some mb)), (2, .map (some mp)), (7, .string (en (nd ns i).ents j).name), (9, .pointer (some ⟨b1, 0, none⟩)), (16, .slice (L.eA i) ((nd ns i).ents.length) ((L.eC i))), (17, .int .i64 ↑((nd ns i).ents.length)), (18, .int .i64 ↑j), (54, .bool false)]) (obl := []) [o_] [0, 1, 2, 7, 9, 16, 17, 18, 54] (fun _ _ => by kernel_rfl) trivial ?_
       refine TriL.nil (by kernel_rfl) (TriQ.next ?_)
       refine Tri.condF (fun _ => by kernel_rfl) ?_
       refine Tri.skip (TriQ.next ?_)
       refine Tri.regionStill 7 (by kernel_rfl) (by kernel_rfl) ?_
       refine TriLS.seg (k' := 7) (fr' := [(0, .pointer (some ⟨(blkOf A), offOf A + i * 10, none⟩)), (1, .map (some mb)), (2, .map (some mp)), (7, .string (en (nd ns i).ents j).name), (16, .slice (L.eA i) ((nd ns i).ents.length) ((L.eC i))), (17, .int .i64 ↑((nd ns i).ents.length)), (18, .int .i64 ↑j), (55, .map (some mp)), (57, .int .i64 ((en (nd ns i).ents j).id)), (61, .int .i64 ((nd ns i).id))]) (obl := [(Rd β ⟨(blkOf A), offOf A + i * 10, none⟩ (.int .i64 ((nd ns i).id))), b1 = b1]) [o_, o_, ⟨[.at 3], none, none, none, none⟩, o_, o_, o_, ⟨[.old (.int .i64 ((nd ns i).id))], none, none, none, none⟩] [0, 1, 2, 7, 16, 17, 18, 55, 57, 61] (fun _ _ => by kernel_rfl) ⟨GraphAt.rd hG (i := i) (by omega) (j := 0) rfl, rfl, trivial⟩ (by decide) ?_
       refine TriLS.done rfl ?_
       refine TriL.mapSet 1 (d := none) (t := 107) (K := 3) (E := 3) (b := mp) (n := (rowE ns i j ++ ps).length) (f := (mf (pf ((rowE ns i j ++ ps).map (idP ns))))) (x := (.tmp 55)) (ix := (.tmp 57)) (y := (.tmp 61)) (key := .int .i64 ((en (nd ns i).ents j).id)) (u := .int .i64 ((nd ns i).id)) (kl := (.int .i64 (en (nd ns i).ents j).id)) (n' := (rowE ns i (j + 1) ++ ps).length) (f' := (mf (pf ((rowE ns i (j + 1) ++ ps).map (idP ns))))) (fun _ => by kernel_rfl) (by kernel_rfl) (fun _ => by kernel_rfl) (fun _ => by kernel_rfl) (fun _ => by kernel_rfl) lawI Try.underlying107 (by have := rowE_len ns i j; rw [List.length_append]; unfold maxLen; omega) (keyI (hwf j (by omega)).1 (hwf j (by omega)).2) (len_edge (pf_at_none hup) h46) (upd_edge hat h46) ?_
       refine TriL.nil (by kernel_rfl) (TriQ.blockNormal (TriQ.next (Tri.region ?_)))
       refine TriL.segK (k' := 2) (fr' := [(0, .pointer (some ⟨(blkOf A), offOf A + i * 10, none⟩)), (1, .map (some mb)), (2, .map (some mp)), (7, .string (en (nd ns i).ents j).name), (16, .slice (L.eA i) ((nd ns i).ents.length) ((L.eC i))), (17, .int .i64 ↑((nd ns i).ents.length)), (18, .int .i64 ↑(j + 1))]) (obl := [(Value.int .i64 (IntKind.wrap .i64 (((j : Nat) : Int) + 1))) = (.int .i64 ↑(j + 1))]) [⟨[], none, none, none, some (.int .i64 ↑(j + 1))⟩, o_] [0, 1, 2, 7, 16, 17, 18] (fun _ _ => by kernel_rfl) ⟨wrapEq (by omega) (by omega) (by omega), trivial⟩ ?_
       refine TriL.nil (by kernel_rfl) ?_
       exact TriQ.turn ((j + 1)) (idx := [0, 1, 2, 7, 16, 17, 18]) (pk := [0, 1, 2]) (show (((j + 1)) ≤ (nd ns i).ents.length) ∧ (∀ t, t < ((j + 1)) → EntOk ns i t) ∧ (((rowE ns i ((j + 1)) ++ ps).map Prod.fst).Nodup) from ⟨by omega, fun t ht => (by rcases Nat.lt_succ_iff_lt_or_eq.1 ht with h | h; exact hok t h; subst h; exact ⟨hat, h34, h39⟩), (nodup_edge hat h46 hup hnd)⟩) (by show (nd ns i).ents.length - ((j + 1)) < (nd ns i).ents.length - j; omega) (fun _ => by kernel_rfl) rfl (by kernel_rfl)
      ·
       refine TriL.mapLookOk 1 (d := (some 51)) (t := 107) (K := 3) (E := 3) (b := mp) (n := (rowE ns i j ++ ps).length) (f := (mf (pf ((rowE ns i j ++ ps).map (idP ns))))) (x := (.tmp 48)) (ix := (.tmp 50)) (key := .int .i64 ((en (nd ns i).ents j).id)) (z := .int .i64 0) (kl := (.int .i64 (en (nd ns i).ents j).id)) (r := (some (.int .i64 y))) (fun _ => by kernel_rfl) (by kernel_rfl) (fun _ => by kernel_rfl) (fun _ => by kernel_rfl) lawI Try.underlying107 (fun _ => by kernel_rfl) (keyI (hwf j (by omega)).1 (hwf j (by omega)).2) (pf_at hup) ?_
       refine TriL.segK (k' := 9) (fr' := [(0, .pointer (some ⟨(blkOf A), offOf A + i * 10, none⟩)), (1, .map (some mb)), (2, .map (some mp)), (7, .string (en (nd ns i).ents j).name), (9, .pointer (some ⟨b1, 0, none⟩)), (12, .bool true), (16, .slice (L.eA i) ((nd ns i).ents.length) ((L.eC i))), (17, .int .i64 ↑((nd ns i).ents.length)), (18, .int .i64 ↑j)]) (obl := []) [o_, o_, o_, o_, o_] [0, 1, 2, 7, 9, 12, 16, 17, 18] (fun _ _ => by kernel_rfl) trivial ?_
       refine TriL.nil (by kernel_rfl) (TriQ.next (Tri.seq (Tri.region ?_)))
       refine TriL.segK (k' := 1) (fr' := [(0, .pointer (some ⟨(blkOf A), offOf A + i * 10, none⟩)), (1, .map (some mb)), (2, .map (some mp)), (7, .string (en (nd ns i).ents j).name), (9, .pointer (some ⟨b1, 0, none⟩)), (16, .slice (L.eA i) ((nd ns i).ents.length) ((L.eC i))), (17, .int .i64 ↑((nd ns i).ents.length)), (18, .int .i64 ↑j), (54, .bool true)]) (obl := []) [o_] [0, 1, 2, 7, 9, 16, 17, 18, 54] (fun _ _ => by kernel_rfl) trivial ?_
       refine TriL.nil (by kernel_rfl) (TriQ.next ?_)
       refine Tri.condT (fun _ => by kernel_rfl) ?_
       refine Tri.seq (Tri.region ?_)
       refine TriL.segK (k' := 1) (fr' := [(6, .bool false)]) (obl := []) [o_] [6] (fun _ _ => by kernel_rfl) trivial ?_
       refine TriL.nil (by kernel_rfl) (TriQ.next (Tri.ret (TriQ.passRet (TriQ.blockRet (TriQ.passRet (TriQ.passRet (TriQ.blockRet (TriQ.passRet ?_))))))))
       exact TriQ.ret (v := .bool false) (l := []) (obl := []) [] [2] (fun _ => by kernel_rfl) trivial rfl (by kernel_rfl) (.inr ⟨rfl, rowOk_twice hr hps hok hat h46 hup (by omega), rfl⟩)
  ·
   refine TriL.mapLook 0 (d := (some 25)) (t := 66) (K := 3) (E := 75) (b := mb) (n := ns.length) (f := (mf (bf A ns ns.length))) (x := (.tmp 22)) (ix := (.tmp 24)) (key := .int .i64 ((en (nd ns i).ents j).id)) (z := .pointer none) (kl := (.int .i64 (en (nd ns i).ents j).id)) (r := none) (fun _ => by kernel_rfl) (by kernel_rfl) (fun _ => by kernel_rfl) (fun _ => by kernel_rfl) lawI Try.underlying66 (fun _ => by kernel_rfl) (keyI (hwf j (by omega)).1 (hwf j (by omega)).2) (bf_none hat) ?_
   refine TriL.segK (k' := 5) (fr' := [(0, .pointer (some ⟨(blkOf A), offOf A + i * 10, none⟩)), (1, .map (some mb)), (2, .map (some mp)), (7, .string (prevName ns i j)), (9, .pointer (some ⟨b1, 0, none⟩)), (10, .pointer none), (16, .slice (L.eA i) ((nd ns i).ents.length) ((L.eC i))), (17, .int .i64 ↑((nd ns i).ents.length)), (18, .int .i64 ↑j)]) (obl := []) [o_] [0, 1, 2, 7, 9, 10, 16, 17, 18] (fun _ _ => by kernel_rfl) trivial ?_
   refine TriL.nil (by kernel_rfl) (TriQ.next (Tri.seq (Tri.seq (Tri.region ?_))))
   refine TriL.segK (k' := 14) (fr' := [(0, .pointer (some ⟨(blkOf A), offOf A + i * 10, none⟩)), (1, .map (some mb)), (2, .map (some mp)), (9, .pointer (some ⟨b1, 0, none⟩)), (10, .pointer none), (16, .slice (L.eA i) ((nd ns i).ents.length) ((L.eC i))), (17, .int .i64 ↑((nd ns i).ents.length)), (18, .int .i64 ↑j), (39, .bool true)]) (obl := []) [o_, o_, o_, o_, o_, o_, o_, o_, o_, o_, o_, o_, o_, o_] [0, 1, 2, 9, 10, 16, 17, 18, 39] (fun _ _ => by kernel_rfl) trivial ?_
   refine TriL.nil (by kernel_rfl) (TriQ.next ?_)
   refine Tri.condT (fun _ => by kernel_rfl) ?_
   refine Tri.seq (Tri.region ?_)
   refine TriL.segK (k' := 1) (fr' := [(6, .bool false)]) (obl := []) [o_] [6] (fun _ _ => by kernel_rfl) trivial ?_
   refine TriL.nil (by kernel_rfl) (TriQ.next (Tri.ret (TriQ.passRet (TriQ.blockRet (TriQ.passRet (TriQ.passRet (TriQ.blockRet (TriQ.passRet ?_))))))))
   exact TriQ.ret (v := .bool false) (l := []) (obl := []) [] [2] (fun _ => by kernel_rfl) trivial rfl (by kernel_rfl) (.inr ⟨rfl, fun h => hat (h.ents j (by omega)).at_, rfl⟩)
 ·
  refine Tri.exit (TriQ.passExit (TriQ.passExit (TriQ.blockHit (TriQ.next (Tri.seq (Tri.region ?_))))))
  refine TriL.segK (k' := 1) (fr' := [(6, .bool true)]) (obl := []) [o_] [6] (fun _ _ => by kernel_rfl) trivial ?_
  refine TriL.nil (by kernel_rfl) (TriQ.next (Tri.ret ?_))
  exact TriQ.ret (v := .bool true) (l := [.abs (MapA Try.prog 3 mb (mf (bf A ns ns.length)) ns.length), .abs (MapA Try.prog 3 mp (mf (pf ((rowE ns i j ++ ps).map (idP ns)))) ((rowE ns i j ++ ps).length))]) (obl := []) [] [0, 1, 2] (fun _ => by kernel_rfl) trivial rfl (by kernel_rfl) (.inl ⟨rfl, ⟨fun t ht => hok t (by omega), by have := hnd; rwa [show j = (nd ns i).ents.length by omega] at this⟩, by rw [show j = (nd ns i).ents.length by omega]⟩)
end Go.Proofs.Ytjpdcppdoonmdaa
end
/- part GR. PROVED HERE: what a well-formed graph is; plain laws for the walk through its nodes. CONDITIONS: none. No statement of the seat is proved here. -/
section
namespace Go.Proofs.Ytjpdcppdoonmdaa
open Go.RowKit Go.Maps
def entSum (ns : List NodeM) : Nat → Nat
  | 0 => 0
  | k + 1 => entSum ns k + (nd ns k).ents.length
def lastId (ns : List NodeM) : Nat → Int
  | 0 => 0
  | k + 1 => (nd ns k).id
structure GraphOk (ns : List NodeM) : Prop where
  len : ns.length ≤ 4096
  node : ∀ i, i < ns.length → NodeOk (nd ns i)
  ids : ∀ i, i < ns.length → 1 ≤ (nd ns i).id ∧ (nd ns i).id ≤ 1099511627776
  rise : Rising ns
  sum : entSum ns ns.length ≤ 8192
  ents : ∀ i, i < ns.length → ∀ j, j < (nd ns i).ents.length → EntOk ns i j
  nodup : ((allE ns ns.length).map Prod.fst).Nodup
  ends : AllEnd ((allE ns ns.length).map (idP ns))
noncomputable instance (ns : List NodeM) : Decidable (GraphOk ns) := Classical.propDecidable _
theorem GraphOk.last {ns : List NodeM} (h : GraphOk ns) {k : Nat} (hk : k < ns.length) : lastId ns k < (nd ns k).id := by
  cases k with
  | zero => have := (h.ids 0 hk).1; show (0 : Int) < _; omega
  | succ k => exact h.rise k (k + 1) (Nat.lt_succ_self k) hk
/-- the first k nodes' numbers rise, and lie in their bounds -/
structure Upto (ns : List NodeM) (k : Nat) : Prop where
  node : ∀ i, i < k → NodeOk (nd ns i)
  ids : ∀ i, i < k → 1 ≤ (nd ns i).id ∧ (nd ns i).id ≤ 1099511627776
  rise : ∀ i j, i < j → j < k → (nd ns i).id < (nd ns j).id
theorem Upto.zero (ns : List NodeM) : Upto ns 0 := ⟨fun i h => absurd h (Nat.not_lt_zero i), fun i h => absurd h (Nat.not_lt_zero i), fun _ j _ h => absurd h (Nat.not_lt_zero j)⟩
theorem Upto.last {ns : List NodeM} {k : Nat} (h : Upto ns k) : 0 ≤ lastId ns k ∧ lastId ns k ≤ 1099511627776 := by
  cases k with
  | zero => exact ⟨Int.le_refl _, by show (0 : Int) ≤ 1099511627776; decide⟩
  | succ k => have := h.ids k (Nat.lt_succ_self k); exact ⟨by show 0 ≤ (nd ns k).id; omega, this.2⟩
theorem Upto.step {ns : List NodeM} {k : Nat} (h : Upto ns k) (h1 : lastId ns k < (nd ns k).id) (h2 : (nd ns k).id ≤ 1099511627776) (h3 : NodeOk (nd ns k)) : Upto ns (k + 1) := by
  have hl := h.last
  refine ⟨fun i hi => ?_, fun i hi => ?_, fun i j hij hj => ?_⟩
  · rcases Nat.lt_succ_iff_lt_or_eq.1 hi with e | e
    · exact h.node i e
    · rw [e]; exact h3
  · rcases Nat.lt_succ_iff_lt_or_eq.1 hi with e | e
    · exact h.ids i e
    · rw [e]; omega
  · rcases Nat.lt_succ_iff_lt_or_eq.1 hj with e | e
    · exact h.rise i j hij e
    · subst e
      cases j with
      | zero => omega
      | succ m =>
        have h4 : (nd ns m).id < (nd ns (m + 1)).id := h1
        rcases Nat.lt_succ_iff_lt_or_eq.1 hij with e | e
        · have := h.rise i m e (Nat.lt_succ_self m); omega
        · rw [e]; exact h4
theorem atI_upto {ns : List NodeM} {k : Nat} (h : ∀ i, i < k → (nd ns i).id < (nd ns k).id) (hk : k < ns.length) : atI ns (nd ns k).id = (k : Int) := by
  unfold atI
  have hg : ∀ j (hj : j < ns.length), nd ns j = ns[j] := fun j hj => by
    unfold nd
    rw [List.getD_eq_getElem?_getD, List.getElem?_eq_getElem hj]
    rfl
  have : ns.findIdx? (fun n => n.id == (nd ns k).id) = some k := by
    rw [List.findIdx?_eq_some_iff_getElem]
    refine ⟨hk, by rw [← hg k hk]; simp, fun j hj => ?_⟩
    have := h j hj
    rw [← hg j (by omega)]
    simp
    omega
  rw [this]
theorem bf_upd {A : Option Addr} {ns : List NodeM} {k : Nat} (h : ∀ i, i < k → (nd ns i).id < (nd ns k).id) (hk : k < ns.length) :
    upd (mf (bf A ns k)) (.int .i64 (nd ns k).id) (some (.pointer (some ⟨blkOf A, offOf A + k * 10, none⟩))) = mf (bf A ns (k + 1)) := by
  have ha := atI_upto h hk
  rw [mf_upd]
  congr 1
  funext z
  unfold bf
  by_cases e : z = (nd ns k).id
  · subst e
    rw [if_pos rfl, if_pos ⟨by omega, by omega⟩]
    unfold tgt
    rw [ha]
    rfl
  · rw [if_neg e]
    by_cases e1 : 0 ≤ atI ns z ∧ atI ns z < (k : Int)
    · rw [if_pos e1, if_pos ⟨e1.1, by omega⟩]
    · rw [if_neg e1, if_neg (fun e2 => ?_)]
      have e3 : atI ns z = (k : Int) := by omega
      have e4 := (atI_lt e2.1).2
      rw [e4.2] at e3
      have e5 : tgt ns z = k := by omega
      rw [e5] at e4
      exact e e4.1.symm
theorem bf_fresh {A : Option Addr} {ns : List NodeM} {k : Nat} (h : ∀ i, i < k → (nd ns i).id < (nd ns k).id) (hk : k < ns.length) : (if ((mf (bf A ns k)) (.int .i64 (nd ns k).id)).isSome then k else k + 1) = k + 1 := by
  have ha := atI_upto h hk
  have : mf (bf A ns k) (.int .i64 (nd ns k).id) = none := if_neg (fun e => by omega)
  rw [this]
  rfl
theorem Upto.below {ns : List NodeM} {k : Nat} (h : Upto ns k) (h1 : lastId ns k < (nd ns k).id) : ∀ i, i < k → (nd ns i).id < (nd ns k).id := by
  intro i hi
  cases k with
  | zero => omega
  | succ m =>
    have h1 : (nd ns m).id < (nd ns (m + 1)).id := h1
    rcases Nat.lt_succ_iff_lt_or_eq.1 hi with e | e
    · have := h.rise i m e (Nat.lt_succ_self m); omega
    · rw [e]; exact h1
theorem bf_zero {A : Option Addr} {ns : List NodeM} : mf (bf A ns 0) = fun _ => none := by
  rw [← mf_none]
  congr 1
  funext z
  exact if_neg (fun e => by omega)
theorem pf_zero {ns : List NodeM} : mf (pf ((allE ns 0).map (idP ns))) = fun _ => none := by
  rw [← mf_none]
  congr 1
theorem allE_fst {ns : List NodeM} {i : Nat} (hi : i ≤ ns.length) (h : ∀ a, a < i → ∀ j, j < (nd ns a).ents.length → EntOk ns a j) : ∀ p, p ∈ allE ns i → p.1 < ns.length ∧ p.2 < ns.length := by
  induction i with
  | zero => intro p hp; cases hp
  | succ i ih =>
    intro p hp
    rw [allE] at hp
    rcases List.mem_append.1 hp with hp | hp
    · have := rowE_fst (h i (Nat.lt_succ_self i)) p hp
      exact ⟨this.1, by omega⟩
    · exact ih (by omega) (fun a ha => h a (by omega)) p hp
theorem allE_len (ns : List NodeM) (i : Nat) : (allE ns i).length ≤ entSum ns i := by
  induction i with
  | zero => exact Nat.le_refl _
  | succ i ih =>
    rw [allE, entSum, List.length_append]
    have := rowE_len ns i (nd ns i).ents.length
    omega
theorem entSum_mono {ns : List NodeM} {i m : Nat} (h : i ≤ m) : entSum ns i ≤ entSum ns m := by
  induction m with
  | zero => rw [Nat.le_zero.1 h]; exact Nat.le_refl _
  | succ m ih =>
    rcases Nat.lt_or_ge m i with h1 | h1
    · have : i = m + 1 := by omega
      subst this
      exact Nat.le_refl _
    · have := ih h1
      rw [entSum]
      omega
theorem up_bounds {ns : List NodeM} {ps : List (Nat × Nat)} (hp : ∀ p, p ∈ ps → p.1 < ns.length ∧ p.2 < ns.length) (hid : ∀ i, i < ns.length → 1 ≤ (nd ns i).id ∧ (nd ns i).id ≤ 1099511627776) :
    ∀ z y, up (ps.map (idP ns)) z = some y → (-9223372036854775808 ≤ z ∧ z ≤ 9223372036854775807) ∧ (-9223372036854775808 ≤ y ∧ y ≤ 9223372036854775807) := by
  intro z y h
  unfold up at h
  induction ps with
  | nil => cases h
  | cons p ps ih =>
    obtain ⟨a, b⟩ := p
    rw [List.map_cons, idP, List.lookup_cons] at h
    by_cases e : (z == (nd ns a).id) = true
    · rw [e] at h
      cases h
      have h1 := hp (a, b) (List.mem_cons_self ..)
      have h2 := hid a h1.1
      have h3 := hid b h1.2
      have : z = (nd ns a).id := by simpa using e
      show (_ ∧ _) ∧ (-9223372036854775808 ≤ (nd ns b).id ∧ (nd ns b).id ≤ 9223372036854775807)
      omega
    · have e : (z == (nd ns a).id) = false := by simpa using e
      rw [e] at h
      exact ih (fun p hp' => hp p (List.mem_cons_of_mem _ hp')) h
theorem dec_or {p : Prop} [Decidable p] {v : Value} {l : List HP} (h : v = .bool (decide p) ∧ l = []) : (v = .bool true ∧ p ∧ l = []) ∨ (v = .bool false ∧ ¬ p ∧ l = []) := by
  by_cases hp : p
  · exact .inl ⟨by rw [h.1, decide_eq_true hp], hp, h.2⟩
  · exact .inr ⟨by rw [h.1, decide_eq_false hp], hp, h.2⟩
theorem RowOk.next {ns : List NodeM} {i : Nat} (h : RowOk ns i (allE ns i)) : ((allE ns (i + 1)).map Prod.fst).Nodup := h.nodup
theorem GraphOk.row {ns : List NodeM} (h : GraphOk ns) {i : Nat} (hi : i < ns.length) : RowOk ns i (allE ns i) := by
  refine ⟨h.ents i hi, ?_⟩
  obtain ⟨l, hl⟩ := allE_mono (ns := ns) (show i + 1 ≤ ns.length from hi)
  have := h.nodup
  rw [hl] at this
  exact nodup_suffix this
end Go.Proofs.Ytjpdcppdoonmdaa
end
/- part GRead. PROVED HERE: a graph is read CONDITIONS: as the theorems say. Printed by a program of this repo (wip/v). -/
section
namespace Go.Proofs.Ytjpdcppdoonmdaa
open Go.RowKit
attribute [local irreducible] TriL TriLQ Tri TriQ
set_option maxRecDepth 100000 in
set_option maxHeartbeats 4000000 in
theorem sp_read {β : Bs} (A : Option Addr) (c : Nat) (ns : List NodeM) (L : Lay) (hG : GraphAt β A ns L) (hl : ns.length ≤ 1048576) (hd : ∀ i, i < ns.length → (nd ns i).data.length ≤ 1048576 ∧ (nd ns i).ents.length ≤ 1048576) (hwf : ∀ i, i < ns.length → ∀ j, j < (nd ns i).ents.length → -9223372036854775808 ≤ (ent ns i j).id ∧ (ent ns i j).id ≤ 9223372036854775807) (hnm : ∀ i, i < ns.length → ∀ j, j < (nd ns i).ents.length → (ent ns i j).name.size ≤ 1048576) :
    Spec Try.prog β 37 #[.agg #[.slice A ns.length c]] [] (fun v l => (∃ mb, v = .tuple #[.map (some mb), .bool true] ∧ GraphOk ns ∧ l = [.abs (MapA Try.prog 3 mb (mf (bf A ns ns.length)) ns.length)]) ∨ (∃ m, v = .tuple #[m, .bool false] ∧ ¬ GraphOk ns ∧ l = [])) := by
 refine Spec.enter Try.func37 rfl Try.ntmps37 (Nat.le_of_ble_eq_true rfl) (fun R => ?_)
 refine Tri.seq (Tri.region ?_)
 refine TriL.segN (k' := 3) (fr' := fun b1 => [(1, .pointer (some ⟨b1, 0, none⟩))]) (hps' := fun b1 => [.abs R, .blk b1 [.slice A (ns.length) (c)] 24]) (obl := fun b1 => []) [o_, o_, o_] [1] [0, 1] (fun _ _ => by kernel_rfl) (fun b1 => trivial) (fun b1 => ?_)
 refine TriL.nil (by kernel_rfl) (TriQ.next (Tri.seq (Tri.seq (Tri.region ?_))))
 refine TriL.segK (k' := 4) (fr' := [(1, .pointer (some ⟨b1, 0, none⟩)), (14, .bool (decide ((((ns.length : Nat) : Int) : Int) > (4096 : Int))))]) (obl := [b1 = b1]) [o_, ⟨[.at 1], none, none, none, none⟩, o_, o_] [1, 14] (fun _ _ => by kernel_rfl) ⟨rfl, trivial⟩ ?_
 refine TriL.nil (by kernel_rfl) (TriQ.next ?_)
 refine Tri.condP (p := (((ns.length : Nat) : Int) : Int) > (4096 : Int)) (fun _ => by kernel_rfl) (fun h14 => ?_) (fun h14 => ?_)
 ·
  refine Tri.seq (Tri.region ?_)
  refine TriL.segK (k' := 2) (fr' := [(2, .map none), (3, .bool false)]) (obl := []) [o_, o_] [2, 3] (fun _ _ => by kernel_rfl) trivial ?_
  refine TriL.nil (by kernel_rfl) (TriQ.next (Tri.ret (TriQ.passRet ?_)))
  exact TriQ.ret (v := .tuple #[.map none, .bool false]) (l := []) (obl := []) [] [0] (fun _ => by kernel_rfl) trivial rfl (by kernel_rfl) (.inr ⟨_, rfl, fun h => by have := h.len; omega, rfl⟩)
 ·
  refine Tri.skip (TriQ.next (Tri.seq (Tri.region ?_)))
  refine TriL.mapMake (d := (some 15)) (t := 66) (fun _ => by kernel_rfl) Try.prog rfl 3 (fun m2 => ?_)
  refine TriL.segK (k' := 2) (fr' := [(1, .pointer (some ⟨b1, 0, none⟩)), (4, .map (some m2))]) (obl := []) [o_] [1, 4] (fun _ _ => by kernel_rfl) trivial ?_
  refine TriL.nil (by kernel_rfl) (TriQ.next (Tri.seq (Tri.region ?_)))
  refine TriL.partEq 2 (p := .abs (MapA Try.prog 3 m2 (fun _ => none) 0)) (p' := .abs (MapA Try.prog 3 m2 (mf (bf A ns 0)) 0)) (by kernel_rfl) (by rw [bf_zero]) ?_
  refine TriL.segK (k' := 2) (fr' := [(1, .pointer (some ⟨b1, 0, none⟩)), (4, .map (some m2)), (5, .int .i64 0), (6, .int .i64 0)]) (obl := []) [o_, o_] [1, 4, 5, 6] (fun _ _ => by kernel_rfl) trivial ?_
  refine TriL.nil (by kernel_rfl) (TriQ.next (Tri.seq (Tri.seq (Tri.region ?_))))
  refine TriL.segK (k' := 4) (fr' := [(1, .pointer (some ⟨b1, 0, none⟩)), (4, .map (some m2)), (5, .int .i64 0), (6, .int .i64 0), (18, .int .i64 ↑ns.length), (19, .int .i64 0)]) (obl := [b1 = b1]) [o_, ⟨[.at 1], none, none, none, none⟩, o_, o_] [1, 4, 5, 6, 18, 19] (fun _ _ => by kernel_rfl) ⟨rfl, trivial⟩ ?_
  refine TriL.nil (by kernel_rfl) (TriQ.next (Tri.block ?_))
  refine Tri.loop (ι := Nat) (fun (k : Nat) => (k ≤ ns.length) ∧ (Upto ns k) ∧ (entSum ns k ≤ k * 1048576)) (fun (k : Nat) => ns.length - k) (fun (k : Nat) => [(1, .pointer (some ⟨b1, 0, none⟩)), (4, .map (some m2)), (5, .int .i64 (lastId ns k)), (6, .int .i64 ↑(entSum ns k)), (18, .int .i64 ↑ns.length), (19, .int .i64 ↑k)]) (fun (k : Nat) => [.blk b1 [.slice A (ns.length) (c)] 24, .abs (MapA Try.prog 3 m2 (mf (bf A ns k)) k), .abs R]) 0 (idx := [1, 4, 5, 6, 18, 19]) (pk := [1, 2, 0]) (show (0 ≤ ns.length) ∧ (Upto ns 0) ∧ (entSum ns 0 ≤ 0 * 1048576) from ⟨Nat.zero_le _, Upto.zero ns, Nat.zero_le _⟩) (fun _ => by kernel_rfl) rfl (by kernel_rfl) ?_
  rintro k ⟨hk, hu, hs⟩
  show Tri _ _ _ _ [(1, .pointer (some ⟨b1, 0, none⟩)), (4, .map (some m2)), (5, .int .i64 (lastId ns k)), (6, .int .i64 ↑(entSum ns k)), (18, .int .i64 ↑ns.length), (19, .int .i64 ↑k)] [.blk b1 [.slice A (ns.length) (c)] 24, .abs (MapA Try.prog 3 m2 (mf (bf A ns k)) k), .abs R] _
  have hk4 := (hd k)
  refine Tri.seq (Tri.region ?_)
  refine TriL.segK (k' := 1) (fr' := [(1, .pointer (some ⟨b1, 0, none⟩)), (4, .map (some m2)), (5, .int .i64 (lastId ns k)), (6, .int .i64 ↑(entSum ns k)), (18, .int .i64 ↑ns.length), (19, .int .i64 ↑k), (20, .bool (decide ((((k : Nat) : Int) : Int) < (((ns.length : Nat) : Int) : Int))))]) (obl := []) [o_] [1, 4, 5, 6, 18, 19, 20] (fun _ _ => by kernel_rfl) trivial ?_
  refine TriL.nil (by kernel_rfl) (TriQ.next (Tri.seq ?_))
  refine Tri.condP (p := (((k : Nat) : Int) : Int) < (((ns.length : Nat) : Int) : Int)) (fun _ => by kernel_rfl) (fun h20 => ?_) (fun h20 => ?_)
  ·
   refine Tri.skip (TriQ.next (Tri.seq (Tri.block (Tri.seq (Tri.region ?_)))))
   refine TriL.segK (k' := 2) (fr' := [(1, .pointer (some ⟨b1, 0, none⟩)), (4, .map (some m2)), (5, .int .i64 (lastId ns k)), (6, .int .i64 ↑(entSum ns k)), (7, .int .i64 ↑k), (18, .int .i64 ↑ns.length), (19, .int .i64 ↑k)]) (obl := []) [o_, o_] [1, 4, 5, 6, 7, 18, 19] (fun _ _ => by kernel_rfl) trivial ?_
   refine TriL.nil (by kernel_rfl) (TriQ.next (Tri.seq (Tri.region ?_)))
   refine TriL.segK (k' := 5) (fr' := [(1, .pointer (some ⟨b1, 0, none⟩)), (4, .map (some m2)), (5, .int .i64 (lastId ns k)), (6, .int .i64 ↑(entSum ns k)), (8, .pointer (some ⟨(blkOf A), offOf A + k * 10, none⟩)), (18, .int .i64 ↑ns.length), (19, .int .i64 ↑k)]) (obl := [((k : Nat) : Int) = ((k : Nat) : Int), k < ns.length, (⟨(blkOf A), offOf A, none⟩ : Addr).spot = none, (A : Option Addr) = some ⟨(blkOf A), offOf A, none⟩, b1 = b1]) [o_, ⟨[.at 0], none, none, none, none⟩, o_, ⟨[], some k, none, some ⟨(blkOf A), offOf A, none⟩, none⟩, o_] [1, 4, 5, 6, 8, 18, 19] (fun _ _ => by kernel_rfl) ⟨rfl, by omega, rfl, GraphAt.hd hG (i := k) (by omega), rfl, trivial⟩ ?_
   refine TriL.nil (by kernel_rfl) (TriQ.next (Tri.seq (Tri.seq (Tri.region ?_))))
   refine TriL.segK (k' := 7) (fr' := [(1, .pointer (some ⟨b1, 0, none⟩)), (4, .map (some m2)), (6, .int .i64 ↑(entSum ns k)), (8, .pointer (some ⟨(blkOf A), offOf A + k * 10, none⟩)), (18, .int .i64 ↑ns.length), (19, .int .i64 ↑k), (32, .bool (decide (((nd ns k).id : Int) ≤ (lastId ns k : Int))))]) (obl := [(Rd β ⟨(blkOf A), offOf A + k * 10, none⟩ (.int .i64 ((nd ns k).id)))]) [o_, o_, o_, ⟨[.old (.int .i64 ((nd ns k).id))], none, none, none, none⟩, o_, o_, o_] [1, 4, 6, 8, 18, 19, 32] (fun _ _ => by kernel_rfl) ⟨GraphAt.rd hG (i := k) (by omega) (j := 0) rfl, trivial⟩ ?_
   refine TriL.slotP 32 (((nd ns k).id : Int) ≤ (lastId ns k : Int)) (fun _ => by kernel_rfl) (fun h32 => ?_) (fun h32 => ?_)
   ·
    refine TriL.segK (k' := 18) (fr' := [(1, .pointer (some ⟨b1, 0, none⟩)), (4, .map (some m2)), (6, .int .i64 ↑(entSum ns k)), (8, .pointer (some ⟨(blkOf A), offOf A + k * 10, none⟩)), (18, .int .i64 ↑ns.length), (19, .int .i64 ↑k), (43, .bool true)]) (obl := []) [o_, o_, o_, o_, o_, o_, o_, o_, o_, o_, o_] [1, 4, 6, 8, 18, 19, 43] (fun _ _ => by kernel_rfl) trivial ?_
    refine TriL.nil (by kernel_rfl) (TriQ.next ?_)
    refine Tri.condT (fun _ => by kernel_rfl) ?_
    refine Tri.seq (Tri.region ?_)
    refine TriL.segK (k' := 2) (fr' := [(2, .map none), (3, .bool false)]) (obl := []) [o_, o_] [2, 3] (fun _ _ => by kernel_rfl) trivial ?_
    refine TriL.nil (by kernel_rfl) (TriQ.next (Tri.ret (TriQ.passRet (TriQ.blockRet (TriQ.passRet (TriQ.passRet (TriQ.blockRet (TriQ.passRet ?_))))))))
    exact TriQ.ret (v := .tuple #[.map none, .bool false]) (l := []) (obl := []) [] [2] (fun _ => by kernel_rfl) trivial rfl (by kernel_rfl) (.inr ⟨_, rfl, fun h => by have := h.last (show k < ns.length by omega); omega, rfl⟩)
   ·
    refine TriL.segK (k' := 14) (fr' := [(1, .pointer (some ⟨b1, 0, none⟩)), (4, .map (some m2)), (6, .int .i64 ↑(entSum ns k)), (8, .pointer (some ⟨(blkOf A), offOf A + k * 10, none⟩)), (18, .int .i64 ↑ns.length), (19, .int .i64 ↑k), (39, .bool (decide (((nd ns k).id : Int) > (1099511627776 : Int))))]) (obl := [(Rd β ⟨(blkOf A), offOf A + k * 10, none⟩ (.int .i64 ((nd ns k).id)))]) [o_, o_, o_, ⟨[.old (.int .i64 ((nd ns k).id))], none, none, none, none⟩, o_, o_, o_] [1, 4, 6, 8, 18, 19, 39] (fun _ _ => by kernel_rfl) ⟨GraphAt.rd hG (i := k) (by omega) (j := 0) rfl, trivial⟩ ?_
    refine TriL.slotP 39 (((nd ns k).id : Int) > (1099511627776 : Int)) (fun _ => by kernel_rfl) (fun h39 => ?_) (fun h39 => ?_)
    ·
     refine TriL.segK (k' := 18) (fr' := [(1, .pointer (some ⟨b1, 0, none⟩)), (4, .map (some m2)), (6, .int .i64 ↑(entSum ns k)), (8, .pointer (some ⟨(blkOf A), offOf A + k * 10, none⟩)), (18, .int .i64 ↑ns.length), (19, .int .i64 ↑k), (43, .bool true)]) (obl := []) [o_, o_, o_, o_] [1, 4, 6, 8, 18, 19, 43] (fun _ _ => by kernel_rfl) trivial ?_
     refine TriL.nil (by kernel_rfl) (TriQ.next ?_)
     refine Tri.condT (fun _ => by kernel_rfl) ?_
     refine Tri.seq (Tri.region ?_)
     refine TriL.segK (k' := 2) (fr' := [(2, .map none), (3, .bool false)]) (obl := []) [o_, o_] [2, 3] (fun _ _ => by kernel_rfl) trivial ?_
     refine TriL.nil (by kernel_rfl) (TriQ.next (Tri.ret (TriQ.passRet (TriQ.blockRet (TriQ.passRet (TriQ.passRet (TriQ.blockRet (TriQ.passRet ?_))))))))
     exact TriQ.ret (v := .tuple #[.map none, .bool false]) (l := []) (obl := []) [] [2] (fun _ => by kernel_rfl) trivial rfl (by kernel_rfl) (.inr ⟨_, rfl, fun h => by have := (h.ids k (by omega)).2; omega, rfl⟩)
    ·
     refine TriL.segK (k' := 15) (fr' := [(1, .pointer (some ⟨b1, 0, none⟩)), (4, .map (some m2)), (6, .int .i64 ↑(entSum ns k)), (8, .pointer (some ⟨(blkOf A), offOf A + k * 10, none⟩)), (18, .int .i64 ↑ns.length), (19, .int .i64 ↑k), (39, .bool false), (40, .pointer (some ⟨(blkOf A), offOf A + k * 10, none⟩))]) (obl := []) [o_] [1, 4, 6, 8, 18, 19, 39, 40] (fun _ _ => by kernel_rfl) trivial ?_
     refine TriL.call (f := 58) (args := #[.pointer (some ⟨(blkOf A), offOf A + k * 10, none⟩)]) (d := (some 41)) (pre := []) (R := [.blk b1 [.slice A (ns.length) (c)] 24, .abs (MapA Try.prog 3 m2 (mf (bf A ns k)) k), .abs R]) (pk := [0, 1, 2]) (fun _ => by kernel_rfl) (sp_sound A ns L hG k (by omega)) rfl (by kernel_rfl) ?_
     rintro _ _ ⟨rfl, rfl⟩
     refine TriL.segK (k' := 18) (fr' := [(1, .pointer (some ⟨b1, 0, none⟩)), (4, .map (some m2)), (6, .int .i64 ↑(entSum ns k)), (8, .pointer (some ⟨(blkOf A), offOf A + k * 10, none⟩)), (18, .int .i64 ↑ns.length), (19, .int .i64 ↑k), (43, .bool (!(decide (NodeOk (nd ns k)))))]) (obl := []) [o_, o_] [1, 4, 6, 8, 18, 19, 43] (fun _ _ => by kernel_rfl) trivial ?_
     refine TriL.nil (by kernel_rfl) (TriQ.next ?_)
     refine Tri.condN (p := NodeOk (nd ns k)) (fun _ => by kernel_rfl) (fun h43 => ?_) (fun h43 => ?_)
     ·
      refine Tri.seq (Tri.region ?_)
      refine TriL.segK (k' := 2) (fr' := [(2, .map none), (3, .bool false)]) (obl := []) [o_, o_] [2, 3] (fun _ _ => by kernel_rfl) trivial ?_
      refine TriL.nil (by kernel_rfl) (TriQ.next (Tri.ret (TriQ.passRet (TriQ.blockRet (TriQ.passRet (TriQ.passRet (TriQ.blockRet (TriQ.passRet ?_))))))))
      exact TriQ.ret (v := .tuple #[.map none, .bool false]) (l := []) (obl := []) [] [2] (fun _ => by kernel_rfl) trivial rfl (by kernel_rfl) (.inr ⟨_, rfl, fun h => h43 (h.node k (by omega)), rfl⟩)
     ·
      refine Tri.skip (TriQ.next (Tri.seq (Tri.region ?_)))
      refine TriL.segK (k' := 5) (fr' := [(1, .pointer (some ⟨b1, 0, none⟩)), (4, .map (some m2)), (5, .int .i64 ((nd ns k).id)), (6, .int .i64 ↑(entSum ns k)), (8, .pointer (some ⟨(blkOf A), offOf A + k * 10, none⟩)), (18, .int .i64 ↑ns.length), (19, .int .i64 ↑k)]) (obl := [(Rd β ⟨(blkOf A), offOf A + k * 10, none⟩ (.int .i64 ((nd ns k).id)))]) [o_, o_, o_, ⟨[.old (.int .i64 ((nd ns k).id))], none, none, none, none⟩, o_] [1, 4, 5, 6, 8, 18, 19] (fun _ _ => by kernel_rfl) ⟨GraphAt.rd hG (i := k) (by omega) (j := 0) rfl, trivial⟩ ?_
      refine TriL.nil (by kernel_rfl) (TriQ.next (Tri.seq (Tri.region ?_)))
      refine TriL.segK (k' := 6) (fr' := [(1, .pointer (some ⟨b1, 0, none⟩)), (4, .map (some m2)), (5, .int .i64 ((nd ns k).id)), (6, .int .i64 ↑(entSum ns k)), (8, .pointer (some ⟨(blkOf A), offOf A + k * 10, none⟩)), (18, .int .i64 ↑ns.length), (19, .int .i64 ↑k), (48, .map (some m2)), (52, .int .i64 ((nd ns k).id)), (53, .pointer (some ⟨(blkOf A), offOf A + k * 10, none⟩))]) (obl := [(Rd β ⟨(blkOf A), offOf A + k * 10, none⟩ (.int .i64 ((nd ns k).id)))]) [o_, o_, o_, o_, ⟨[.old (.int .i64 ((nd ns k).id))], none, none, none, none⟩, o_] [1, 4, 5, 6, 8, 18, 19, 48, 52, 53] (fun _ _ => by kernel_rfl) ⟨GraphAt.rd hG (i := k) (by omega) (j := 0) rfl, trivial⟩ ?_
      refine TriL.mapSet 1 (d := none) (t := 66) (K := 3) (E := 75) (b := m2) (n := k) (f := (mf (bf A ns k))) (x := (.tmp 48)) (ix := (.tmp 52)) (y := (.tmp 53)) (key := .int .i64 ((nd ns k).id)) (u := .pointer (some ⟨(blkOf A), offOf A + k * 10, none⟩)) (kl := (.int .i64 (nd ns k).id)) (n' := k + 1) (f' := (mf (bf A ns (k + 1)))) (fun _ => by kernel_rfl) (by kernel_rfl) (fun _ => by kernel_rfl) (fun _ => by kernel_rfl) (fun _ => by kernel_rfl) lawI Try.underlying66 (by unfold maxLen; omega) (keyI (by have := hu.last; omega) (by omega)) (bf_fresh (hu.below (by omega)) (by omega)) (bf_upd (hu.below (by omega)) (by omega)) ?_
      refine TriL.nil (by kernel_rfl) (TriQ.next (Tri.region ?_))
      refine TriL.segK (k' := 8) (fr' := [(1, .pointer (some ⟨b1, 0, none⟩)), (4, .map (some m2)), (5, .int .i64 ((nd ns k).id)), (6, .int .i64 ↑((entSum ns k) + ((nd ns k).ents.length))), (18, .int .i64 ↑ns.length), (19, .int .i64 ↑k)]) (obl := [(Value.int .i64 (IntKind.wrap .i64 (((entSum ns k : Nat) : Int) + (((nd ns k).ents.length : Nat) : Int)))) = (.int .i64 ↑((entSum ns k) + ((nd ns k).ents.length))), (Rd β ⟨(blkOf A), offOf A + k * 10 + 9, none⟩ (.slice (L.eA k) ((nd ns k).ents.length) ((L.eC k))))]) [o_, o_, o_, o_, ⟨[.old (.slice (L.eA k) ((nd ns k).ents.length) ((L.eC k)))], none, none, none, none⟩, o_, ⟨[], none, none, none, some (.int .i64 ↑((entSum ns k) + ((nd ns k).ents.length)))⟩, o_] [1, 4, 5, 6, 18, 19] (fun _ _ => by kernel_rfl) ⟨wrapEq (by omega) (by omega) (by omega), GraphAt.rd hG (i := k) (by omega) (j := 9) rfl, trivial⟩ ?_
      refine TriL.nil (by kernel_rfl) (TriQ.blockNormal (TriQ.next (Tri.region ?_)))
      refine TriL.segK (k' := 2) (fr' := [(1, .pointer (some ⟨b1, 0, none⟩)), (4, .map (some m2)), (5, .int .i64 ((nd ns k).id)), (6, .int .i64 ↑((entSum ns k) + ((nd ns k).ents.length))), (18, .int .i64 ↑ns.length), (19, .int .i64 ↑(k + 1))]) (obl := [(Value.int .i64 (IntKind.wrap .i64 (((k : Nat) : Int) + 1))) = (.int .i64 ↑(k + 1))]) [⟨[], none, none, none, some (.int .i64 ↑(k + 1))⟩, o_] [1, 4, 5, 6, 18, 19] (fun _ _ => by kernel_rfl) ⟨wrapEq (by omega) (by omega) (by omega), trivial⟩ ?_
      refine TriL.nil (by kernel_rfl) ?_
      exact TriQ.turn ((k + 1)) (idx := [1, 4, 5, 6, 18, 19]) (pk := [0, 1, 2]) (show (((k + 1)) ≤ ns.length) ∧ (Upto ns ((k + 1))) ∧ (entSum ns ((k + 1)) ≤ ((k + 1)) * 1048576) from ⟨by omega, hu.step (by omega) (by omega) h43, by have := (hd k (by omega)).2; show entSum ns k + _ ≤ _; omega⟩) (by show ns.length - ((k + 1)) < ns.length - k; omega) (fun _ => by kernel_rfl) rfl (by kernel_rfl)
  ·
   refine Tri.exit (TriQ.passExit (TriQ.passExit (TriQ.blockHit (TriQ.next (Tri.seq (Tri.seq (Tri.region ?_)))))))
   refine TriL.segK (k' := 2) (fr' := [(1, .pointer (some ⟨b1, 0, none⟩)), (4, .map (some m2)), (63, .bool (decide ((((entSum ns k : Nat) : Int) : Int) > (8192 : Int))))]) (obl := []) [o_, o_] [1, 4, 63] (fun _ _ => by kernel_rfl) trivial ?_
   refine TriL.nil (by kernel_rfl) (TriQ.next ?_)
   refine Tri.condP (p := (((entSum ns k : Nat) : Int) : Int) > (8192 : Int)) (fun _ => by kernel_rfl) (fun h63 => ?_) (fun h63 => ?_)
   ·
    refine Tri.seq (Tri.region ?_)
    refine TriL.segK (k' := 2) (fr' := [(2, .map none), (3, .bool false)]) (obl := []) [o_, o_] [2, 3] (fun _ _ => by kernel_rfl) trivial ?_
    refine TriL.nil (by kernel_rfl) (TriQ.next (Tri.ret (TriQ.passRet ?_)))
    exact TriQ.ret (v := .tuple #[.map none, .bool false]) (l := []) (obl := []) [] [2] (fun _ => by kernel_rfl) trivial rfl (by kernel_rfl) (.inr ⟨_, rfl, fun h => by have h1 := h.sum; rw [show ns.length = k by omega] at h1; omega, rfl⟩)
   ·
    refine Tri.skip (TriQ.next (Tri.seq (Tri.region ?_)))
    refine TriL.mapMake (d := (some 64)) (t := 107) (fun _ => by kernel_rfl) Try.prog rfl 3 (fun m3 => ?_)
    refine TriL.segK (k' := 2) (fr' := [(1, .pointer (some ⟨b1, 0, none⟩)), (4, .map (some m2)), (9, .map (some m3))]) (obl := []) [o_] [1, 4, 9] (fun _ _ => by kernel_rfl) trivial ?_
    refine TriL.nil (by kernel_rfl) (TriQ.next (Tri.seq (Tri.seq (Tri.region ?_))))
    refine TriL.partEq 3 (p := .abs (MapA Try.prog 3 m3 (fun _ => none) 0)) (p' := .abs (MapA Try.prog 3 m3 (mf (pf ((allE ns 0).map (idP ns)))) ((allE ns 0).length))) (by kernel_rfl) (by rw [pf_zero]; rfl) ?_
    refine TriL.partEq 1 (p := .abs (MapA Try.prog 3 m2 (mf (bf A ns k)) k)) (p' := .abs (MapA Try.prog 3 m2 (mf (bf A ns ns.length)) ns.length)) (by kernel_rfl) (by rw [show k = ns.length by omega]) ?_
    refine TriL.segK (k' := 4) (fr' := [(1, .pointer (some ⟨b1, 0, none⟩)), (4, .map (some m2)), (9, .map (some m3)), (67, .int .i64 ↑ns.length), (68, .int .i64 0)]) (obl := [b1 = b1]) [o_, ⟨[.at 0], none, none, none, none⟩, o_, o_] [1, 4, 9, 67, 68] (fun _ _ => by kernel_rfl) ⟨rfl, trivial⟩ ?_
    refine TriL.nil (by kernel_rfl) (TriQ.next (Tri.block ?_))
    have hrise : Rising ns := fun a b hab hb => hu.rise a b hab (by omega)
    have hsum : entSum ns ns.length ≤ 8192 := by rw [show ns.length = k by omega]; omega
    refine Tri.loop (ι := Nat) (fun (i : Nat) => (i ≤ ns.length) ∧ (∀ a, a < i → ∀ j, j < (nd ns a).ents.length → EntOk ns a j) ∧ (((allE ns i).map Prod.fst).Nodup)) (fun (i : Nat) => ns.length - i) (fun (i : Nat) => [(1, .pointer (some ⟨b1, 0, none⟩)), (4, .map (some m2)), (9, .map (some m3)), (67, .int .i64 ↑ns.length), (68, .int .i64 ↑i)]) (fun (i : Nat) => [.blk b1 [.slice A (ns.length) (c)] 24, .abs (MapA Try.prog 3 m2 (mf (bf A ns ns.length)) ns.length), .abs (MapA Try.prog 3 m3 (mf (pf ((allE ns i).map (idP ns)))) ((allE ns i).length)), .abs R]) 0 (idx := [1, 4, 9, 67, 68]) (pk := [0, 1, 3, 2]) (show (0 ≤ ns.length) ∧ (∀ a, a < 0 → ∀ j, j < (nd ns a).ents.length → EntOk ns a j) ∧ (((allE ns 0).map Prod.fst).Nodup) from ⟨Nat.zero_le _, fun a ha => absurd ha (Nat.not_lt_zero a), List.nodup_nil⟩) (fun _ => by kernel_rfl) rfl (by kernel_rfl) ?_
    rintro i ⟨hi, hents, hnd⟩
    show Tri _ _ _ _ [(1, .pointer (some ⟨b1, 0, none⟩)), (4, .map (some m2)), (9, .map (some m3)), (67, .int .i64 ↑ns.length), (68, .int .i64 ↑i)] [.blk b1 [.slice A (ns.length) (c)] 24, .abs (MapA Try.prog 3 m2 (mf (bf A ns ns.length)) ns.length), .abs (MapA Try.prog 3 m3 (mf (pf ((allE ns i).map (idP ns)))) ((allE ns i).length)), .abs R] _
    refine Tri.seq (Tri.region ?_)
    refine TriL.segK (k' := 1) (fr' := [(1, .pointer (some ⟨b1, 0, none⟩)), (4, .map (some m2)), (9, .map (some m3)), (67, .int .i64 ↑ns.length), (68, .int .i64 ↑i), (69, .bool (decide ((((i : Nat) : Int) : Int) < (((ns.length : Nat) : Int) : Int))))]) (obl := []) [o_] [1, 4, 9, 67, 68, 69] (fun _ _ => by kernel_rfl) trivial ?_
    refine TriL.nil (by kernel_rfl) (TriQ.next (Tri.seq ?_))
    refine Tri.condP (p := (((i : Nat) : Int) : Int) < (((ns.length : Nat) : Int) : Int)) (fun _ => by kernel_rfl) (fun h69 => ?_) (fun h69 => ?_)
    ·
     refine Tri.skip (TriQ.next (Tri.seq (Tri.block (Tri.seq (Tri.region ?_)))))
     refine TriL.segK (k' := 2) (fr' := [(1, .pointer (some ⟨b1, 0, none⟩)), (4, .map (some m2)), (9, .map (some m3)), (10, .int .i64 ↑i), (67, .int .i64 ↑ns.length), (68, .int .i64 ↑i)]) (obl := []) [o_, o_] [1, 4, 9, 10, 67, 68] (fun _ _ => by kernel_rfl) trivial ?_
     refine TriL.nil (by kernel_rfl) (TriQ.next (Tri.seq (Tri.region ?_)))
     refine TriL.segK (k' := 6) (fr' := [(1, .pointer (some ⟨b1, 0, none⟩)), (4, .map (some m2)), (9, .map (some m3)), (67, .int .i64 ↑ns.length), (68, .int .i64 ↑i), (74, .pointer (some ⟨(blkOf A), offOf A + i * 10, none⟩)), (75, .map (some m2)), (76, .map (some m3))]) (obl := [((i : Nat) : Int) = ((i : Nat) : Int), i < ns.length, (⟨(blkOf A), offOf A, none⟩ : Addr).spot = none, (A : Option Addr) = some ⟨(blkOf A), offOf A, none⟩, b1 = b1]) [o_, ⟨[.at 0], none, none, none, none⟩, o_, ⟨[], some i, none, some ⟨(blkOf A), offOf A, none⟩, none⟩, o_, o_] [1, 4, 9, 67, 68, 74, 75, 76] (fun _ _ => by kernel_rfl) ⟨rfl, by omega, rfl, GraphAt.hd hG (i := i) (by omega), rfl, trivial⟩ ?_
     refine TriL.call (f := 59) (args := #[.pointer (some ⟨(blkOf A), offOf A + i * 10, none⟩), .map (some m2), .map (some m3)]) (d := (some 77)) (pre := [.abs (MapA Try.prog 3 m2 (mf (bf A ns ns.length)) ns.length), .abs (MapA Try.prog 3 m3 (mf (pf ((allE ns i).map (idP ns)))) ((allE ns i).length))]) (R := [.blk b1 [.slice A (ns.length) (c)] 24, .abs R]) (pk := [1, 2, 0, 3]) (fun _ => by kernel_rfl) (sp_enter A ns L hG hrise i (by omega) (hd i (by omega)).2 (hwf i (by omega)) (hnm i (by omega)) m2 m3 (allE ns i) (by have := allE_len ns i; have := entSum_mono (ns := ns) (show i ≤ ns.length by omega); omega) (fun p hp => (allE_fst (by omega) hents p hp).1) hnd) rfl (by kernel_rfl) ?_
     rintro _ _ (⟨rfl, hro, rfl⟩ | ⟨rfl, hro, rfl⟩)
     ·
      refine TriL.segK (k' := 8) (fr' := [(1, .pointer (some ⟨b1, 0, none⟩)), (4, .map (some m2)), (9, .map (some m3)), (67, .int .i64 ↑ns.length), (68, .int .i64 ↑i), (78, .bool false)]) (obl := []) [o_] [1, 4, 9, 67, 68, 78] (fun _ _ => by kernel_rfl) trivial ?_
      refine TriL.nil (by kernel_rfl) (TriQ.next ?_)
      refine Tri.condF (fun _ => by kernel_rfl) ?_
      refine Tri.skip (TriQ.blockNormal (TriQ.next (Tri.region ?_)))
      refine TriL.segK (k' := 2) (fr' := [(1, .pointer (some ⟨b1, 0, none⟩)), (4, .map (some m2)), (9, .map (some m3)), (67, .int .i64 ↑ns.length), (68, .int .i64 ↑(i + 1))]) (obl := [(Value.int .i64 (IntKind.wrap .i64 (((i : Nat) : Int) + 1))) = (.int .i64 ↑(i + 1))]) [⟨[], none, none, none, some (.int .i64 ↑(i + 1))⟩, o_] [1, 4, 9, 67, 68] (fun _ _ => by kernel_rfl) ⟨wrapEq (by omega) (by omega) (by omega), trivial⟩ ?_
      refine TriL.nil (by kernel_rfl) ?_
      exact TriQ.turn ((i + 1)) (idx := [1, 4, 9, 67, 68]) (pk := [2, 0, 1, 3]) (show (((i + 1)) ≤ ns.length) ∧ (∀ a, a < ((i + 1)) → ∀ j, j < (nd ns a).ents.length → EntOk ns a j) ∧ (((allE ns ((i + 1))).map Prod.fst).Nodup) from ⟨by omega, fun a ha => (by rcases Nat.lt_succ_iff_lt_or_eq.1 ha with h | h; exact hents a h; subst h; exact hro.ents), hro.next⟩) (by show ns.length - ((i + 1)) < ns.length - i; omega) (fun _ => by kernel_rfl) rfl (by kernel_rfl)
     ·
      refine TriL.segK (k' := 8) (fr' := [(1, .pointer (some ⟨b1, 0, none⟩)), (4, .map (some m2)), (9, .map (some m3)), (67, .int .i64 ↑ns.length), (68, .int .i64 ↑i), (78, .bool true)]) (obl := []) [o_] [1, 4, 9, 67, 68, 78] (fun _ _ => by kernel_rfl) trivial ?_
      refine TriL.nil (by kernel_rfl) (TriQ.next ?_)
      refine Tri.condT (fun _ => by kernel_rfl) ?_
      refine Tri.seq (Tri.region ?_)
      refine TriL.segK (k' := 2) (fr' := [(2, .map none), (3, .bool false)]) (obl := []) [o_, o_] [2, 3] (fun _ _ => by kernel_rfl) trivial ?_
      refine TriL.nil (by kernel_rfl) (TriQ.next (Tri.ret (TriQ.blockRet (TriQ.passRet (TriQ.passRet (TriQ.blockRet (TriQ.passRet ?_)))))))
      exact TriQ.ret (v := .tuple #[.map none, .bool false]) (l := []) (obl := []) [] [1] (fun _ => by kernel_rfl) trivial rfl (by kernel_rfl) (.inr ⟨_, rfl, fun h => hro (h.row (by omega)), rfl⟩)
    ·
     refine Tri.exit (TriQ.passExit (TriQ.passExit (TriQ.blockHit (TriQ.next (Tri.seq (Tri.region ?_))))))
     refine TriL.segK (k' := 2) (fr' := [(80, .map (some m2)), (81, .map (some m3))]) (obl := []) [o_, o_] [80, 81] (fun _ _ => by kernel_rfl) trivial ?_
     refine TriL.partEq 2 (p := .abs (MapA Try.prog 3 m3 (mf (pf ((allE ns i).map (idP ns)))) ((allE ns i).length))) (p' := .abs (MapA Try.prog 3 m3 (mf (pf ((allE ns i).map (idP ns)))) (((allE ns i).map (idP ns)).length))) (by kernel_rfl) (by rw [List.length_map]) ?_
     refine TriL.call (f := 60) (args := #[.map (some m3)]) (d := (some 82)) (pre := [.abs (MapA Try.prog 3 m3 (mf (pf ((allE ns i).map (idP ns)))) (((allE ns i).map (idP ns)).length))]) (R := [.blk b1 [.slice A (ns.length) (c)] 24, .abs (MapA Try.prog 3 m2 (mf (bf A ns ns.length)) ns.length), .abs R]) (pk := [2, 0, 1, 3]) (fun _ => by kernel_rfl) ((sp_rooted m3 ((allE ns i).map (idP ns)) (by rw [List.length_map]; have := allE_len ns i; have := entSum_mono (ns := ns) (show i ≤ ns.length by omega); omega) (up_bounds (allE_fst (by omega) hents) (fun a ha => hu.ids a (by omega)))).mono (fun v l h => dec_or h)) rfl (by kernel_rfl) ?_
     rintro _ _ (⟨rfl, hae, rfl⟩ | ⟨rfl, hae, rfl⟩)
     ·
      refine TriL.segK (k' := 5) (fr' := [(2, .map (some m2)), (3, .bool true)]) (obl := []) [o_, o_] [2, 3] (fun _ _ => by kernel_rfl) trivial ?_
      refine TriL.nil (by kernel_rfl) (TriQ.next (Tri.ret ?_))
      exact TriQ.ret (v := .tuple #[.map (some m2), .bool true]) (l := [.abs (MapA Try.prog 3 m2 (mf (bf A ns ns.length)) ns.length)]) (obl := []) [] [1, 2] (fun _ => by kernel_rfl) trivial rfl (by kernel_rfl) (.inl ⟨m2, rfl, ⟨by omega, fun a ha => hu.node a (by omega), fun a ha => hu.ids a (by omega), hrise, by omega, fun a ha => hents a (by omega), by have := hnd; rwa [show i = ns.length by omega] at this, by have := hae; rwa [show i = ns.length by omega] at this⟩, rfl⟩)
     ·
      refine TriL.segK (k' := 5) (fr' := [(2, .map (some m2)), (3, .bool false)]) (obl := []) [o_, o_] [2, 3] (fun _ _ => by kernel_rfl) trivial ?_
      refine TriL.nil (by kernel_rfl) (TriQ.next (Tri.ret ?_))
      exact TriQ.ret (v := .tuple #[.map (some m2), .bool false]) (l := []) (obl := []) [] [2] (fun _ => by kernel_rfl) trivial rfl (by kernel_rfl) (.inr ⟨_, rfl, fun h => hae (by have := h.ends; rwa [show ns.length = i by omega] at this), rfl⟩)
set_option maxRecDepth 100000 in
set_option maxHeartbeats 4000000 in
theorem sp_check {β : Bs} (A : Option Addr) (c : Nat) (ns : List NodeM) (L : Lay) (hG : GraphAt β A ns L) (hl : ns.length ≤ 1048576) (hd : ∀ i, i < ns.length → (nd ns i).data.length ≤ 1048576 ∧ (nd ns i).ents.length ≤ 1048576) (hwf : ∀ i, i < ns.length → ∀ j, j < (nd ns i).ents.length → -9223372036854775808 ≤ (ent ns i j).id ∧ (ent ns i j).id ≤ 9223372036854775807) (hnm : ∀ i, i < ns.length → ∀ j, j < (nd ns i).ents.length → (ent ns i j).name.size ≤ 1048576) :
    Spec Try.prog β 14 #[.agg #[.slice A ns.length c]] [] (fun v l => v = .int .i64 (if GraphOk ns then 0 else 140) ∧ l = []) := by
 refine Spec.enter Try.func14 rfl Try.ntmps14 (Nat.le_of_ble_eq_true rfl) (fun R => ?_)
 refine Tri.seq (Tri.region ?_)
 refine TriL.segN (k' := 2) (fr' := fun b4 => [(1, .pointer (some ⟨b4, 0, none⟩))]) (hps' := fun b4 => [.abs R, .blk b4 [.slice A (ns.length) (c)] 24]) (obl := fun b4 => []) [o_, o_] [1] [0, 1] (fun _ _ => by kernel_rfl) (fun b4 => trivial) (fun b4 => ?_)
 refine TriL.nil (by kernel_rfl) (TriQ.next (Tri.seq (Tri.seq (Tri.region ?_))))
 refine TriL.segK (k' := 1) (fr' := [(6, .agg #[.slice A (ns.length) (c)])]) (obl := [b4 = b4]) [⟨[.at 1], none, none, none, none⟩] [6] (fun _ _ => by kernel_rfl) ⟨rfl, trivial⟩ ?_
 refine TriL.call (f := 37) (args := #[.agg #[.slice A (ns.length) (c)]]) (d := (some 7)) (pre := []) (R := [.abs R, .blk b4 [.slice A (ns.length) (c)] 24]) (pk := [0, 1]) (fun _ => by kernel_rfl) (sp_read A c ns L hG hl hd hwf hnm) rfl (by kernel_rfl) ?_
 rintro _ _ (⟨mb, rfl, hok, rfl⟩ | ⟨m, rfl, hok, rfl⟩)
 ·
  refine TriL.segK (k' := 7) (fr' := [(4, .bool true)]) (obl := []) [o_, o_, o_, o_, o_] [4] (fun _ _ => by kernel_rfl) trivial ?_
  refine TriL.nil (by kernel_rfl) (TriQ.next (Tri.seq (Tri.region ?_)))
  refine TriL.segK (k' := 2) (fr' := [(11, .bool false)]) (obl := []) [o_, o_] [11] (fun _ _ => by kernel_rfl) trivial ?_
  refine TriL.nil (by kernel_rfl) (TriQ.next ?_)
  refine Tri.condF (fun _ => by kernel_rfl) ?_
  refine Tri.skip (TriQ.next (Tri.seq (Tri.region ?_)))
  refine TriL.segK (k' := 1) (fr' := [(2, .int .i64 0)]) (obl := []) [o_] [2] (fun _ _ => by kernel_rfl) trivial ?_
  refine TriL.nil (by kernel_rfl) (TriQ.next (Tri.ret ?_))
  exact TriQ.ret (v := .int .i64 0) (l := []) (obl := []) [] [1] (fun _ => by kernel_rfl) trivial rfl (by kernel_rfl) (⟨congrArg (Value.int .i64) (if_pos hok).symm, rfl⟩)
 ·
  refine TriL.segK (k' := 7) (fr' := [(4, .bool false)]) (obl := []) [o_, o_, o_, o_, o_] [4] (fun _ _ => by kernel_rfl) trivial ?_
  refine TriL.nil (by kernel_rfl) (TriQ.next (Tri.seq (Tri.region ?_)))
  refine TriL.segK (k' := 2) (fr' := [(11, .bool true)]) (obl := []) [o_, o_] [11] (fun _ _ => by kernel_rfl) trivial ?_
  refine TriL.nil (by kernel_rfl) (TriQ.next ?_)
  refine Tri.condT (fun _ => by kernel_rfl) ?_
  refine Tri.seq (Tri.region ?_)
  refine TriL.segK (k' := 1) (fr' := [(2, .int .i64 140)]) (obl := []) [o_] [2] (fun _ _ => by kernel_rfl) trivial ?_
  refine TriL.nil (by kernel_rfl) (TriQ.next (Tri.ret (TriQ.passRet ?_)))
  exact TriQ.ret (v := .int .i64 140) (l := []) (obl := []) [] [0] (fun _ => by kernel_rfl) trivial rfl (by kernel_rfl) (⟨congrArg (Value.int .i64) (if_neg hok).symm, rfl⟩)
end Go.Proofs.Ytjpdcppdoonmdaa
end
/- part Vw. PROVED HERE: the rule of the logic for 'make' of a slice of things of one cell. CONDITIONS: none. No statement of the seat is proved here. -/
section
namespace Go.Proofs.Ytjpdcppdoonmdaa
open Go.RowKit
theorem madeCells_one (z : Value) (n : Nat) : (madeCells #[z] (n * 1)).toList = List.replicate n z := by
  rw [Nat.mul_one]
  apply List.ext_getElem
  · simp [madeCells]
  · intro j h1 h2
    simp [madeCells, Nat.mod_one]
section make
variable {P : Program} {β : Bs} {N : Nat} {ops : Array Oper} {k : Nat} {fr : Fr} {hps : List HP} {Q : Post} {d : Option Tmp}
theorem TriL.makeFull {t e : TypeId} {z : Value} {bytes n : Nat} {l c : Operand} (hop : ∀ junk, opAt N junk ops fr k = some (.makeSlice t l c, d)) (hl : ∀ junk, evF N fr junk l = .int .i64 ((n : Nat) : Int)) (hc : ∀ junk, evF N fr junk c = .int .i64 ((n : Nat) : Int))
    (ht : P.underlying t = some (.slice e)) (hinf : (P.info? e).map (fun i => (i.zero, i.size, i.bytes)) = some (some z, 1, bytes)) (hzs : z.cells = #[z]) (hn : n ≤ 16777216) (hb : bytes * n ≤ 281474976710656)
    (K' : ∀ b, TriL P β N ops (k + 1) (putF fr d (.slice (some ⟨b, 0, none⟩) n n)) (hps ++ [.abs (RowA e 1 (some ⟨b, 0, none⟩) n n (List.replicate n z))]) Q) : TriL P β N ops k fr hps Q := by
  obtain ⟨inf, hi, hz, hsize, hby⟩ : ∃ inf, P.info? e = some inf ∧ inf.zero = some z ∧ inf.size = 1 ∧ inf.bytes = bytes := by
    cases h : P.info? e with
    | none => rw [h] at hinf; cases hinf
    | some inf => rw [h] at hinf; simp at hinf; exact ⟨inf, rfl, hinf.1, hinf.2.1, hinf.2.2⟩
  refine TriL.runE (ι := Nat) (v := fun b => .slice (some ⟨b, 0, none⟩) n n) (hp' := fun b => hps ++ [.abs (RowA e 1 (some ⟨b, 0, none⟩) n n (List.replicate n z))]) hop (fun o junk w ho hS => ?_) K'
  obtain ⟨w', h1, h2, h3⟩ := run_makeSlice_full (P := P) w 0 t e inf z 1 ht hi hz hsize .i64 .i64 n (by omega) (by rw [hby]; exact hb) (by unfold maxLen; omega) (Nat.zero_le _)
  rw [hzs, madeCells_one] at h2
  refine ⟨w.heap.size, w', .inl ?_, hS.new (F := fun k => k = w.heap.size) ⟨h2, fun j => by simp [Value.ownBlock, eq_comm]⟩ ((Keeps.refl _ _).grown h3 (fun _ h => by cases h)) (fun k e => Nat.le_of_eq e.symm)⟩
  obtain ⟨dst, op, type, pos, after, guard⟩ := o
  cases ho
  simp only [execOp, hl, hc]
  simp [h1, Result.andThen]
end make
end Go.Proofs.Ytjpdcppdoonmdaa
end
/- part GP. PROVED HERE: plain laws of the array of parents. CONDITIONS: none. No statement of the seat is proved here. -/
section
namespace Go.Proofs.Ytjpdcppdoonmdaa
open Go.RowKit Go.Maps
def parI (ed : List (Nat × Nat)) (k : Nat) : Int := match ed.lookup k with | some a => (a : Int) | none => -1
structure Par (n : Nat) (pl : List Int) (ed : List (Nat × Nat)) : Prop where
  len : pl.length = n
  at_ : ∀ k, k < n → pl.getD k 0 = parI ed k
theorem intsV_get {w : List Int} {j : Nat} (hj : j < w.length) : (intsV w)[j]? = some (.int .i64 (w.getD j 0)) := by
  rw [intsV, List.getElem?_map, getD_some (x := 0) hj]; rfl
theorem intsV_set (pl : List Int) (k : Nat) (x : Int) : (intsV pl).set k (.int .i64 x) = intsV (pl.set k x) := by
  unfold intsV
  rw [List.map_set]
theorem getD_set {pl : List Int} {k j : Nat} {x : Int} (hk : k < pl.length) : (pl.set k x).getD j 0 = if j = k then x else pl.getD j 0 := by
  rw [List.getD_eq_getElem?_getD, List.getD_eq_getElem?_getD, List.getElem?_set]
  by_cases e : k = j
  · subst e; simp [hk]
  · have : ¬ j = k := fun h => e h.symm
    simp [e, this]
theorem Par.put {n : Nat} {pl : List Int} {ed : List (Nat × Nat)} (h : Par n pl ed) {k a : Nat} (hk : k < n) : Par n (pl.set k (a : Int)) ((k, a) :: ed) := by
  refine ⟨by rw [List.length_set]; exact h.len, fun j hj => ?_⟩
  rw [getD_set (by rw [h.len]; exact hk)]
  unfold parI
  rw [List.lookup_cons]
  by_cases e : j = k
  · subst e; simp
  · have : (j == k) = false := by simp [e]
    rw [if_neg e, this, h.at_ j hj]
    rfl
theorem parI_none {ed : List (Nat × Nat)} {k : Nat} : parI ed k < 0 ↔ k ∉ ed.map Prod.fst := by
  unfold parI
  induction ed with
  | nil => simp
  | cons p ed ih =>
    obtain ⟨a, b⟩ := p
    rw [List.lookup_cons]
    by_cases e : k = a
    · subst e
      simp
    · have h1 : (k == a) = false := by simp [e]
      rw [h1]
      simp only [List.map_cons, List.mem_cons, not_or]
      exact ih.trans ⟨fun h => ⟨e, h⟩, fun h => h.2⟩
theorem parI_up {ns : List NodeM} {ed : List (Nat × Nat)} {k : Nat} (hr : Rising ns) (hk : k < ns.length) (hp : ∀ p, p ∈ ed → p.1 < ns.length) :
    (parI ed k < 0 ∧ up (ed.map (idP ns)) (nd ns k).id = none) ∨ ∃ a : Nat, parI ed k = (a : Int) ∧ (k, a) ∈ ed ∧ up (ed.map (idP ns)) (nd ns k).id = some (nd ns a).id := by
  unfold parI up
  induction ed with
  | nil => exact .inl ⟨by simp, rfl⟩
  | cons p ed ih =>
    obtain ⟨a, b⟩ := p
    rw [List.map_cons, idP, List.lookup_cons, List.lookup_cons]
    by_cases e : k = a
    · subst e
      exact .inr ⟨b, by simp, List.mem_cons_self .., by simp⟩
    · have h1 : (k == a) = false := by simp [e]
      have h2 : ((nd ns k).id == (nd ns a).id) = false := by
        simp
        exact fun h => e (hr.inj hk (hp (a, b) (List.mem_cons_self ..)) h)
      rw [h1, h2]
      rcases ih (fun p hp' => hp p (List.mem_cons_of_mem _ hp')) with h | ⟨c, h3, h4, h5⟩
      · exact .inl h
      · exact .inr ⟨c, h3, List.mem_cons_of_mem _ h4, h5⟩
theorem Way.back {ps : List (Int × Int)} {z0 : Int} {w : List Int} (h : Way ps z0 w z0) (hl : 0 < w.length) : ¬ Ends ps z0 := fun ⟨k, hk⟩ => by
  obtain ⟨j, hj, h2⟩ := h.long hk
  have := EndsIn.uniq hk h2
  omega
theorem nodup_lt : ∀ (n : Nat) (l : List Nat), l.Nodup → (∀ x, x ∈ l → x < n) → l.length ≤ n
  | 0, [], _, _ => Nat.le_refl _
  | 0, a :: l, _, h => absurd (h a (List.mem_cons_self ..)) (Nat.not_lt_zero a)
  | n + 1, l, hn, h => by
    have h1 := nodup_lt n (l.erase n) (hn.erase n) (fun x hx => by
      have h2 := (List.Nodup.mem_erase_iff hn).1 hx
      have := h x h2.2
      omega)
    by_cases hm : n ∈ l
    · have := List.length_erase_of_mem hm
      omega
    · rw [List.erase_of_not_mem hm] at h1
      omega
theorem allEnd_of {ns : List NodeM} {ed : List (Nat × Nat)} (hp : ∀ p, p ∈ ed → p.1 < ns.length) (h : ∀ i, i < ns.length → Ends (ed.map (idP ns)) (nd ns i).id) : AllEnd (ed.map (idP ns)) := by
  intro z
  cases hu : up (ed.map (idP ns)) z with
  | none => exact ⟨0, hu⟩
  | some y =>
    have : ∃ p, p ∈ ed ∧ z = (nd ns p.1).id := by
      unfold up at hu
      clear h
      induction ed with
      | nil => cases hu
      | cons p ed ih =>
        rw [List.map_cons, idP, List.lookup_cons] at hu
        by_cases e : (z == (nd ns p.1).id) = true
        · exact ⟨p, List.mem_cons_self .., by simpa using e⟩
        · have e : (z == (nd ns p.1).id) = false := by simpa using e
          rw [e] at hu
          obtain ⟨q, hq, h2⟩ := ih (fun p hp' => hp p (List.mem_cons_of_mem _ hp')) hu
          exact ⟨q, List.mem_cons_of_mem _ hq, h2⟩
    obtain ⟨p, h1, rfl⟩ := this
    exact h p.1 (hp p h1)
theorem way_next {ns : List NodeM} {ed : List (Nat × Nat)} {pl : List Int} {z : Int} {b m : Nat} {w : List Int} (hr : Rising ns) (hp : ∀ p, p ∈ ed → p.1 < ns.length ∧ p.2 < ns.length) (hpar : Par ns.length pl ed) (hb : b < ns.length) (hw : Way (ed.map (idP ns)) z w (nd ns b).id) (hm : w.length = m) :
    (pl.getD b 0 < 0 ∧ Ends (ed.map (idP ns)) z) ∨ ∃ q : Nat, pl.getD b 0 = (q : Int) ∧ q < ns.length ∧ Way (ed.map (idP ns)) z (w ++ [(nd ns b).id]) (nd ns q).id ∧ (w ++ [(nd ns b).id]).length = m + 1 := by
  rw [hpar.at_ b hb]
  rcases parI_up hr hb (fun p h => (hp p h).1) with ⟨h1, h2⟩ | ⟨a, h1, h2, h3⟩
  · exact .inl ⟨h1, (hw.ends ⟨0, h2⟩).1⟩
  · exact .inr ⟨a, h1, (hp _ h2).2, hw.snoc h3, by simp; omega⟩
theorem entOk_of {ns : List NodeM} {i j : Nat} (h1 : 0 ≤ atI ns (ent ns i j).id) (h2 : GoodName (ent ns i j).name) (h3 : 0 < j → ¬ strLe (ent ns i j).name (ent ns i (j - 1)).name) : EntOk ns i j := by
  refine ⟨h1, h2, ?_⟩
  cases j with
  | zero =>
    intro h
    have := strLe_empty.1 h
    have h4 := h2.1
    rw [this] at h4
    exact absurd h4 (by decide)
  | succ j => exact h3 (Nat.succ_pos j)
theorem lastId_pos {ns : List NodeM} {k : Nat} (h : 0 < k) : lastId ns k = (nd ns (k - 1)).id := by
  cases k with
  | zero => omega
  | succ k => rfl
theorem prevName_pos {ns : List NodeM} {i j : Nat} (h : 0 < j) : prevName ns i j = (ent ns i (j - 1)).name := by
  cases j with
  | zero => omega
  | succ j => rfl
theorem GraphOk.few {ns : List NodeM} (h : GraphOk ns) : ((allE ns ns.length).map (idP ns)).length ≤ ns.length := by
  rw [List.length_map]
  have h1 := allE_fst (ns := ns) (Nat.le_refl _) h.ents
  have h2 := nodup_lt ns.length ((allE ns ns.length).map Prod.fst) h.nodup (fun x hx => by
    obtain ⟨p, hp, rfl⟩ := List.mem_map.1 hx
    exact (h1 p hp).1)
  rwa [List.length_map] at h2
end Go.Proofs.Ytjpdcppdoonmdaa
end
/- part GOk. PROVED HERE: a well-formed graph in other words: the ways upwards are unique and end, since a depth can be told of each node. CONDITIONS: none. -/
section
namespace Go.Proofs.Ytjpdcppdoonmdaa
open Go.RowKit Go.Maps
/-- entry j of node i names a directory -/
structure DirE (ns : List NodeM) (i j : Nat) : Prop where
  lti : i < ns.length
  ltj : j < (nd ns i).ents.length
  dir : (nd ns (tgt ns (ent ns i j).id)).kind = 2
section
variable {ns : List NodeM}
theorem mem_rowE {i m : Nat} {p : Nat × Nat} : p ∈ rowE ns i m ↔ ∃ j, j < m ∧ (nd ns (tgt ns (ent ns i j).id)).kind = 2 ∧ p = (tgt ns (ent ns i j).id, i) := by
  induction m with
  | zero => simp [rowE]
  | succ m ih =>
    by_cases h : (nd ns (tgt ns (ent ns i m).id)).kind = 2
    · rw [rowE_dir h, List.mem_cons, ih]
      refine ⟨fun hp => ?_, fun ⟨j, hj, h1, h2⟩ => ?_⟩
      · rcases hp with rfl | ⟨j, hj, h1, h2⟩
        · exact ⟨m, Nat.lt_succ_self m, h, rfl⟩
        · exact ⟨j, Nat.lt_succ_of_lt hj, h1, h2⟩
      · rcases Nat.lt_succ_iff_lt_or_eq.1 hj with e | e
        · exact .inr ⟨j, e, h1, h2⟩
        · subst e; exact .inl h2
    · rw [rowE_skip h, ih]
      refine ⟨fun ⟨j, hj, h1⟩ => ⟨j, Nat.lt_succ_of_lt hj, h1⟩, fun ⟨j, hj, h1, h2⟩ => ?_⟩
      rcases Nat.lt_succ_iff_lt_or_eq.1 hj with e | e
      · exact ⟨j, e, h1, h2⟩
      · subst e; exact absurd h1 h
theorem mem_allE {m : Nat} {p : Nat × Nat} : p ∈ allE ns m ↔ ∃ i j, i < m ∧ j < (nd ns i).ents.length ∧ (nd ns (tgt ns (ent ns i j).id)).kind = 2 ∧ p = (tgt ns (ent ns i j).id, i) := by
  induction m with
  | zero => simp [allE]
  | succ m ih =>
    rw [allE, List.mem_append, mem_rowE, ih]
    refine ⟨fun h => ?_, fun ⟨i, j, hi, hj, h1, h2⟩ => ?_⟩
    · rcases h with ⟨j, hj, h1, h2⟩ | ⟨i, j, hi, h⟩
      · exact ⟨m, j, Nat.lt_succ_self m, hj, h1, h2⟩
      · exact ⟨i, j, Nat.lt_succ_of_lt hi, h⟩
    · rcases Nat.lt_succ_iff_lt_or_eq.1 hi with e | e
      · exact .inr ⟨i, j, e, hj, h1, h2⟩
      · subst e; exact .inl ⟨j, hj, h1, h2⟩
theorem DirE.mem {i j : Nat} (h : DirE ns i j) : (tgt ns (ent ns i j).id, i) ∈ allE ns ns.length := mem_allE.2 ⟨i, j, h.lti, h.ltj, h.dir, rfl⟩
/-- no directory is named twice -/
def UniqE (ns : List NodeM) (m : Nat) : Prop := ∀ i j i' j', DirE ns i j → DirE ns i' j' → i < m → i' < m → tgt ns (ent ns i j).id = tgt ns (ent ns i' j').id → i = i' ∧ j = j'
theorem rowE_nodup {i m : Nat} (h : ∀ j j', j < m → j' < m → (nd ns (tgt ns (ent ns i j).id)).kind = 2 → (nd ns (tgt ns (ent ns i j').id)).kind = 2 → tgt ns (ent ns i j).id = tgt ns (ent ns i j').id → j = j') : ((rowE ns i m).map Prod.fst).Nodup := by
  induction m with
  | zero => simp [rowE]
  | succ m ih =>
    have ih := ih (fun j j' h1 h2 => h j j' (by omega) (by omega))
    by_cases hk : (nd ns (tgt ns (ent ns i m).id)).kind = 2
    · rw [rowE_dir hk, List.map_cons, List.nodup_cons]
      refine ⟨fun hm => ?_, ih⟩
      obtain ⟨p, hp, e⟩ := List.mem_map.1 hm
      obtain ⟨j, hj, h1, rfl⟩ := mem_rowE.1 hp
      have := h j m (by omega) (by omega) h1 hk e
      omega
    · rw [rowE_skip hk]; exact ih
theorem rowE_uniq {i m : Nat} (h : ((rowE ns i m).map Prod.fst).Nodup) : ∀ j j', j < m → j' < m → (nd ns (tgt ns (ent ns i j).id)).kind = 2 → (nd ns (tgt ns (ent ns i j').id)).kind = 2 → tgt ns (ent ns i j).id = tgt ns (ent ns i j').id → j = j' := by
  induction m with
  | zero => intro j j' hj; omega
  | succ m ih =>
    intro j j' hj hj' hk hk' e
    by_cases hm : (nd ns (tgt ns (ent ns i m).id)).kind = 2
    · rw [rowE_dir hm, List.map_cons, List.nodup_cons] at h
      rcases Nat.lt_succ_iff_lt_or_eq.1 hj with e1 | e1
      · rcases Nat.lt_succ_iff_lt_or_eq.1 hj' with e2 | e2
        · exact ih h.2 j j' e1 e2 hk hk' e
        · subst e2; exact absurd (List.mem_map.2 ⟨_, mem_rowE.2 ⟨j, e1, hk, rfl⟩, e⟩) h.1
      · rcases Nat.lt_succ_iff_lt_or_eq.1 hj' with e2 | e2
        · subst e1; exact absurd (List.mem_map.2 ⟨_, mem_rowE.2 ⟨j', e2, hk', rfl⟩, e.symm⟩) h.1
        · omega
    · rw [rowE_skip hm] at h
      rcases Nat.lt_succ_iff_lt_or_eq.1 hj with e1 | e1
      · rcases Nat.lt_succ_iff_lt_or_eq.1 hj' with e2 | e2
        · exact ih h j j' e1 e2 hk hk' e
        · subst e2; exact absurd hk' hm
      · subst e1; exact absurd hk hm
theorem allE_nodup {m : Nat} (hm : m ≤ ns.length) (h : UniqE ns m) : ((allE ns m).map Prod.fst).Nodup := by
  induction m with
  | zero => simp [allE]
  | succ m ih =>
    have ih := ih (by omega) (fun i j i' j' h1 h2 h3 h4 => h i j i' j' h1 h2 (by omega) (by omega))
    rw [allE, List.map_append]
    refine List.nodup_append.2 ⟨rowE_nodup fun j j' hj hj' hk hk' e => (h m j m j' ⟨by omega, hj, hk⟩ ⟨by omega, hj', hk'⟩ (by omega) (by omega) e).2, ih, fun a ha b hb e => ?_⟩
    obtain ⟨p, hp, rfl⟩ := List.mem_map.1 ha
    obtain ⟨q, hq, rfl⟩ := List.mem_map.1 hb
    obtain ⟨j, hj, hk, rfl⟩ := mem_rowE.1 hp
    obtain ⟨i', j', hi', hj', hk', rfl⟩ := mem_allE.1 hq
    have := (h m j i' j' ⟨by omega, hj, hk⟩ ⟨by omega, hj', hk'⟩ (by omega) (by omega) e).1
    omega
theorem allE_uniq {m : Nat} (h : ((allE ns m).map Prod.fst).Nodup) : UniqE ns m := by
  induction m with
  | zero => intro i j i' j' _ _ hi; omega
  | succ m ih =>
    rw [allE, List.map_append] at h
    obtain ⟨h1, h2, h3⟩ := List.nodup_append.1 h
    intro i j i' j' g g' hi hi' e
    rcases Nat.lt_succ_iff_lt_or_eq.1 hi with e1 | e1
    · rcases Nat.lt_succ_iff_lt_or_eq.1 hi' with e2 | e2
      · exact ih h2 i j i' j' g g' e1 e2 e
      · subst e2
        exact absurd e.symm (h3 _ (List.mem_map.2 ⟨_, mem_rowE.2 ⟨j', g'.ltj, g'.dir, rfl⟩, rfl⟩) _ (List.mem_map.2 ⟨_, mem_allE.2 ⟨i, j, e1, g.ltj, g.dir, rfl⟩, rfl⟩))
    · rcases Nat.lt_succ_iff_lt_or_eq.1 hi' with e2 | e2
      · subst e1
        exact absurd e (h3 _ (List.mem_map.2 ⟨_, mem_rowE.2 ⟨j, g.ltj, g.dir, rfl⟩, rfl⟩) _ (List.mem_map.2 ⟨_, mem_allE.2 ⟨i', j', e2, g'.ltj, g'.dir, rfl⟩, rfl⟩))
      · subst e1; subst e2
        exact ⟨rfl, rowE_uniq h1 j j' g.ltj g'.ltj g.dir g'.dir e⟩
/-- a depth: an entry that names a directory leads deeper -/
def DepthOf (ns : List NodeM) (d : Nat → Nat) : Prop := ∀ i j, DirE ns i j → d i < d (tgt ns (ent ns i j).id)
theorem GraphOk.of_deep (h1 : ns.length ≤ 4096) (h2 : ∀ i, i < ns.length → NodeOk (nd ns i)) (h3 : ∀ i, i < ns.length → 1 ≤ (nd ns i).id ∧ (nd ns i).id ≤ 1099511627776) (h4 : Rising ns) (h5 : entSum ns ns.length ≤ 8192)
    (h6 : ∀ i, i < ns.length → ∀ j, j < (nd ns i).ents.length → EntOk ns i j) (h7 : UniqE ns ns.length) {d : Nat → Nat} (h8 : DepthOf ns d) : GraphOk ns := by
  refine ⟨h1, h2, h3, h4, h5, h6, allE_nodup (Nat.le_refl _) h7, ?_⟩
  have hp := allE_fst (ns := ns) (Nat.le_refl _) h6
  refine allEnd_of (fun p hp' => (hp p hp').1) ?_
  have key : ∀ n i, d i ≤ n → i < ns.length → Ends ((allE ns ns.length).map (idP ns)) (nd ns i).id := by
    intro n
    induction n with
    | zero =>
      intro i hd hi
      cases hu : up ((allE ns ns.length).map (idP ns)) (nd ns i).id with
      | none => exact ⟨0, hu⟩
      | some y =>
        obtain ⟨_, p, g1, g2, _⟩ := up_some h4 hi (fun p hp' => (hp p hp').1) hu
        obtain ⟨a, j, ha, hj, hk, rfl⟩ := mem_allE.1 g1
        have := h8 a j ⟨ha, hj, hk⟩
        have g2 : tgt ns (ent ns a j).id = i := g2
        rw [g2] at this
        omega
    | succ n ih =>
      intro i hd hi
      cases hu : up ((allE ns ns.length).map (idP ns)) (nd ns i).id with
      | none => exact ⟨0, hu⟩
      | some y =>
        obtain ⟨_, p, g1, g2, g3⟩ := up_some h4 hi (fun p hp' => (hp p hp').1) hu
        obtain ⟨a, j, ha, hj, hk, rfl⟩ := mem_allE.1 g1
        have := h8 a j ⟨ha, hj, hk⟩
        have g2 : tgt ns (ent ns a j).id = i := g2
        rw [g2] at this
        obtain ⟨m, hm⟩ := ih a (by omega) ha
        exact ⟨m + 1, y, hu, by rw [g3]; exact hm⟩
  exact fun i hi => key (d i) i (Nat.le_refl _) hi
theorem GraphOk.uniq (h : GraphOk ns) : UniqE ns ns.length := allE_uniq h.nodup
theorem GraphOk.deep (h : GraphOk ns) : ∃ d, DepthOf ns d := by
  refine ⟨fun k => Classical.choose (h.ends (nd ns k).id), fun i j g => ?_⟩
  have hp := allE_fst (ns := ns) (Nat.le_refl _) h.ents
  have hat := (h.ents i g.lti j g.ltj).at_
  have htl := atI_lt hat
  have e1 := Classical.choose_spec (h.ends (nd ns i).id)
  have e2 := Classical.choose_spec (h.ends (nd ns (tgt ns (ent ns i j).id)).id)
  show Classical.choose (h.ends (nd ns i).id) < Classical.choose (h.ends (nd ns (tgt ns (ent ns i j).id)).id)
  generalize Classical.choose (h.ends (nd ns i).id) = x at e1 ⊢
  generalize Classical.choose (h.ends (nd ns (tgt ns (ent ns i j).id)).id) = y at e2 ⊢
  cases hu : up ((allE ns ns.length).map (idP ns)) (nd ns (tgt ns (ent ns i j).id)).id with
  | none =>
    have := up_none hu
    exact absurd (List.mem_map.2 ⟨_, g.mem, rfl⟩) this
  | some z =>
    obtain ⟨_, p, g1, g2, g3⟩ := up_some h.rise htl.1 (fun p hp' => (hp p hp').1) hu
    obtain ⟨a, b, ha, hb, hk, rfl⟩ := mem_allE.1 g1
    have g2 : tgt ns (ent ns a b).id = tgt ns (ent ns i j).id := g2
    obtain ⟨rfl, rfl⟩ := h.uniq a b i j ⟨ha, hb, hk⟩ g ha g.lti g2
    have g3 : z = (nd ns a).id := g3
    cases y with
    | zero =>
      have e2 : up _ _ = none := e2
      rw [hu] at e2; cases e2
    | succ y =>
      obtain ⟨z', h1, h2⟩ := e2
      rw [hu] at h1
      cases h1
      rw [g3] at h2
      have := e1.uniq h2
      show x < y + 1
      omega
end
end Go.Proofs.Ytjpdcppdoonmdaa
end
/- part Vy. PROVED HERE: small laws of unsigned numbers, shifts and the order of texts. CONDITIONS: none. No statement of the seat is proved here. -/
section
namespace Go.Proofs.Ytjpdcppdoonmdaa
open Go.RowKit
theorem u64Eq {x : Int} (h0 : 0 ≤ x) (h1 : x ≤ 18446744073709551615) : Value.int .u64 (IntKind.wrap .u64 x) = Value.int .u64 x := by
  rw [IntWalk.u64_in _ ⟨h0, h1⟩]
theorem u8Eq {x : Int} (h0 : 0 ≤ x) (h1 : x ≤ 255) : Value.int .u8 (IntKind.wrap .u8 x) = Value.int .u8 x := by
  rw [IntWalk.u8_in _ ⟨h0, h1⟩]
theorem shr1Eq {k : IntKind} {m : Nat} : Value.int k (Int.fdiv ((m : Nat) : Int) (2 ^ 1)) = Value.int k ((m / 2 : Nat) : Int) := by
  have e : ((m / 2 : Nat) : Int) = (m : Int) / 2 := by omega
  rw [e, Int.fdiv_eq_ediv_of_nonneg _ (by decide)]
  rfl
/-! ### bytes that may turn into a text -/
/-- a block whose cells are as told, whatever its mark -/
def FrozA (b : Nat) (cs : List Value) (T : TypeId) : Asn where
  h F w := (∃ fz, w.heap[b]? = some (.cells ⟨cs⟩ T fz)) ∧ ∀ k, F k ↔ k = b
  lt := by
    rintro F w ⟨⟨fz, h1⟩, h2⟩ k hk
    rw [(h2 k).1 hk]
    exact lt_of_some h1
  st := by
    rintro F w ⟨⟨fz, h1⟩, h2⟩ S w' hk hn
    exact ⟨⟨fz, (hk.block b (lt_of_some h1) (hn b ((h2 b).2 rfl))).trans h1⟩, h2⟩
theorem RowB.of_froz {β' : Bs} {b n : Nat} {cs : List Value} {T : TypeId} {F : Fp} {w : World} (h : (HP.abs (FrozA b cs T)).h F w) (h1 : ∀ k, F k → β'.O k) (h2 : β'.w0 = w) : RowB β' (some ⟨b, 0, none⟩) (cs.take n) := by
  obtain ⟨⟨fz, h3⟩, h4⟩ := h
  intro j v hj
  have hj' : cs[j]? = some v := by
    rw [List.getElem?_take] at hj
    split at hj
    · exact hj
    · cases hj
  refine ⟨rfl, h1 b ((h4 b).2 rfl), ?_⟩
  show β'.w0.cell? ⟨b, 0 + j, none⟩ = some v
  rw [h2, Nat.zero_add]
  unfold World.cell?
  rw [h3]
  simpa using hj'
section mark
variable {P : Program} {β : Bs} {N : Nat} {ops : Array Oper} {k : Nat} {fr : Fr} {hps : List HP} {Q : Post} {d : Option Tmp}
theorem TriL.markBytes (i : Nat) {t e T : TypeId} {b o n c : Nat} {cs : List Value} {x : Operand} (hop : ∀ junk, opAt N junk ops fr k = some (.convert t t x, d)) (hp : hps[i]? = some (.blk b cs T)) (hx : ∀ junk, evF N fr junk x = .slice (some ⟨b, o, none⟩) n c)
    (ht : P.underlying t = some (.slice e)) (he : P.underlying e = some (.int .u8)) (K' : TriL P β N ops (k + 1) (putF fr d (.slice (some ⟨b, o, none⟩) n c)) (hps.set i (.abs (FrozA b cs T))) Q) : TriL P β N ops k fr hps Q := by
  refine TriL.run1 hop (fun o' junk w ho hS => ?_) K'
  obtain ⟨F, hF⟩ := hS.get hp
  have hb := hF.1
  have hsz : b < w.heap.size := lt_of_some hb
  refine ⟨w.freeze ⟨b, cs.length, none⟩ 1, .inl ?_, hS.set hp (fun F hF => ?_)⟩
  · obtain ⟨dst, op, type, pos, after, guard⟩ := o'
    cases ho
    have h1 : (underlying t).run P w = .ok (.slice e) w := run_underlying ht w
    have h2 : (underlying e).run P w = .ok (.int .u8) w := run_underlying he w
    have h3 : w.shape? b = some (T, cs.length) := by unfold World.shape?; rw [hb]; rfl
    simp [execOp, convert, hx, go_sem, h1, h2, markStringish, h3]
  · refine ⟨F, ⟨⟨?_, ?_⟩, hF.2⟩, ⟨⟨rfl, rfl, rfl, ?_, ?_⟩, fun _ h => .inl h⟩⟩
    · exact (if ((0 : Nat) == 0) = true then (cs.length, cs.length + 1) else (min 0 cs.length, max 0 (cs.length + 1)))
    · simp [World.freeze, Array.getElem?_modify, hF.1]
    · simp [World.freeze]
    · intro k _ hk
      have hne : ¬ b = k := fun e => hk ((hF.2 k).2 e.symm)
      simp [World.freeze, Array.getElem?_modify, hne]
end mark
/-! ### texts put together; a row that is cut -/
section adds
variable {P : Program} {β : Bs} {N : Nat} {ops : Array Oper} {e0 k : Nat} {fr : Fr} {hps : List HP} {Q : Post} {d : Option Tmp} {t t2 : TypeId} {x y : Operand} {a b : ByteArray}
theorem ran_strAdd {w : World} {o : Oper} {ev : Operand → Value} (ho : o.op = .binOp .add t x y t2) (hx : ev x = .string a) (hy : ev y = .string b) (hs : a.size + b.size ≤ 9223372036854775807) : Ran P ev o w (.string (a ++ b)) w := by
  obtain ⟨dst, op, type, pos, after, guard⟩ := o
  cases ho
  refine .inl ?_
  simp [execOp, hx, hy, binOp, eqGuard, Op.stringOp, go_sem]
  omega
theorem TriL.strAdd (hop : ∀ junk, opAt N junk ops fr k = some (.binOp .add t x y t2, d)) (hx : ∀ junk, evF N fr junk x = .string a) (hy : ∀ junk, evF N fr junk y = .string b) (hs : a.size + b.size ≤ 9223372036854775807) (K : TriL P β N ops (k + 1) (putF fr d (.string (a ++ b))) hps Q) : TriL P β N ops k fr hps Q :=
  TriL.run1 hop (fun _ junk w ho hS => ⟨w, ran_strAdd ho (hx junk) (hy junk) hs, hS⟩) K
theorem TriLQ.strAdd (hop : ∀ junk, opAt N junk ops fr k = some (.binOp .add t x y t2, d)) (hx : ∀ junk, evF N fr junk x = .string a) (hy : ∀ junk, evF N fr junk y = .string b) (hs : a.size + b.size ≤ 9223372036854775807) (K : TriLQ P β N ops (k + 1) (putF fr d (.string (a ++ b))) hps Q) : TriLQ P β N ops k fr hps Q :=
  TriLQ.run1 hop (fun _ junk _ ho _ => ran_strAdd ho (hx junk) (hy junk) hs) K
theorem step_cut {e : TypeId} {size n m cap : Nat} {A : Option Addr} {xs : List Value} {w : World} (hm : m ≤ n) : ∀ F, (HP.abs (RowA e size A n cap xs)).h F w → ∃ F', (HP.abs (RowA e size A m cap (xs.take (m * size)))).h F' w ∧ Step F w F' w := by
  rintro F ⟨⟨h1, h2⟩, hF⟩
  refine ⟨F, ⟨⟨?_, ?_⟩, fun k => ?_⟩, Step.refl F w⟩
  · rw [List.length_take, h1]
    exact Nat.min_eq_left (Nat.mul_le_mul_right _ hm)
  · rcases h2 with ⟨e1, e2⟩ | ⟨g, cp, cur, e1, h3, h4, h5, h6, h7, h8⟩
    · cases e1
      exact .inl ⟨by rw [show m = 0 by omega], by omega⟩
    · cases e1
      refine .inr ⟨g, cap, cur, rfl, h3, h4, by omega, h6, h7, ?_⟩
      rw [← h8, List.take_take]
      congr 1
      exact (Nat.min_eq_left (Nat.mul_le_mul_right _ hm)).symm
  · rw [hF k]
    cases A <;> rfl
theorem Sat.cut {i e size n m cap : Nat} {A : Option Addr} {xs ys : List Value} {w : World} (hp : hps[i]? = some (.abs (RowA e size A n cap xs))) (hm : m ≤ n) (hy : xs.take (m * size) = ys) (h : Sat β hps w) : Sat β (hps.set i (.abs (RowA e size A m cap ys))) w := by
  subst hy
  exact h.set hp (step_cut hm)
end adds
/-- a cell of a row, by its element and place -/
theorem RowA.cellAt {e : TypeId} {A : Option Addr} {size n cap i j : Nat} {xs : List Value} {u : Value} (hi : i < n) (hj : xs[i * size + j]? = some u) : ∀ F w, (RowA e size A n cap xs).h F w → w.cell? ⟨blkOf A, offOf A + i * size + j, none⟩ = some u := by
  intro F w h
  obtain ⟨g, rfl⟩ := RowA.head h (by omega)
  have := RowA.cell hj F w h
  show w.cell? ⟨g, 0 + i * size + j, none⟩ = some u
  rw [Nat.zero_add]
  exact this
/-! ### the order of texts -/
def cmpB (a b : ByteArray) : Int := Lib.compareBytes a.data.toList b.data.toList
theorem cmpL_self : ∀ a : List UInt8, Lib.compareBytes a a = 0
  | [] => rfl
  | a :: r => by
    have h : ¬ a < a := by intro h; exact absurd h (by simp)
    simp only [Lib.compareBytes, if_neg h]
    exact cmpL_self r
theorem cmpL_zero : ∀ {a b : List UInt8}, Lib.compareBytes a b = 0 → a = b
  | [], [], _ => rfl
  | [], _ :: _, h => by simp [Lib.compareBytes] at h
  | _ :: _, [], h => by simp [Lib.compareBytes] at h
  | a :: x, b :: y, h => by
    unfold Lib.compareBytes at h
    split at h
    · cases h
    · rename_i h1
      split at h
      · cases h
      · rename_i h2
        have e : a = b := by
          apply UInt8.toNat_inj.1
          have h3 : ¬ a.toNat < b.toNat := fun h => h1 (UInt8.lt_iff_toNat_lt.2 h)
          have h4 : ¬ b.toNat < a.toNat := fun h => h2 (UInt8.lt_iff_toNat_lt.2 h)
          omega
        rw [e, cmpL_zero h]
theorem cmpL_less : ∀ {a b : List UInt8}, Lib.compareBytes a b < 0 ↔ Op.bytesLess a b = true
  | [], [] => by simp [Lib.compareBytes, Op.bytesLess]
  | [], _ :: _ => by simp [Lib.compareBytes, Op.bytesLess]
  | _ :: _, [] => by simp [Lib.compareBytes, Op.bytesLess]
  | a :: x, b :: y => by
    unfold Lib.compareBytes Op.bytesLess
    by_cases h1 : a < b
    · simp [h1]
    · by_cases h2 : b < a
      · have h3 : ¬ a = b := fun e => by subst e; exact h1 h2
        simp [h1, h2, h3]
      · have e : a = b := by
          apply UInt8.toNat_inj.1
          have h3 : ¬ a.toNat < b.toNat := fun h => h1 (UInt8.lt_iff_toNat_lt.2 h)
          have h4 : ¬ b.toNat < a.toNat := fun h => h2 (UInt8.lt_iff_toNat_lt.2 h)
          omega
        subst e
        simp only [h1, if_false, decide_false, beq_self_eq_true, Bool.true_and, Bool.false_or]
        exact cmpL_less
theorem cmpL_trans : ∀ {a b c : List UInt8}, Lib.compareBytes a b < 0 → Lib.compareBytes b c ≤ 0 → Lib.compareBytes a c < 0
  | [], [], _, h, _ => by simp [Lib.compareBytes] at h
  | [], _ :: _, [], _, h => by simp [Lib.compareBytes] at h
  | [], _ :: _, _ :: _, _, _ => by simp [Lib.compareBytes]
  | _ :: _, [], _, h, _ => by simp [Lib.compareBytes] at h
  | _ :: _, _ :: _, [], _, h => by simp [Lib.compareBytes] at h
  | a :: x, b :: y, c :: z, h, g => by
    unfold Lib.compareBytes at h g ⊢
    by_cases h1 : a < b
    · by_cases g1 : b < c
      · have : a < c := by rw [UInt8.lt_iff_toNat_lt] at *; omega
        simp [this]
      · by_cases g2 : c < b
        · simp [g1, g2] at g
        · have e : b = c := by
            apply UInt8.toNat_inj.1
            rw [UInt8.lt_iff_toNat_lt] at *
            omega
          subst e
          simp [h1]
    · by_cases h2 : b < a
      · simp [h1, h2] at h
      · have e : a = b := by
          apply UInt8.toNat_inj.1
          rw [UInt8.lt_iff_toNat_lt] at *
          omega
        subst e
        simp only [h1, if_false] at h
        by_cases g1 : a < c
        · simp [g1]
        · by_cases g2 : c < a
          · simp [g1, g2] at g
          · simp only [g1, g2, if_false] at g ⊢
            exact cmpL_trans h g
theorem cmpL_anti : ∀ {a b : List UInt8}, Lib.compareBytes b a = - Lib.compareBytes a b
  | [], [] => rfl
  | [], _ :: _ => rfl
  | _ :: _, [] => rfl
  | a :: x, b :: y => by
    unfold Lib.compareBytes
    by_cases h1 : a < b
    · have h2 : ¬ b < a := by rw [UInt8.lt_iff_toNat_lt] at *; omega
      simp [h1, h2]
    · by_cases h2 : b < a
      · simp [h1, h2]
      · simp only [h1, h2, if_false]
        exact cmpL_anti
theorem cmpB_self (a : ByteArray) : cmpB a a = 0 := cmpL_self _
theorem cmpB_zero {a b : ByteArray} : cmpB a b = 0 ↔ a = b := by
  refine ⟨fun h => ?_, fun h => by rw [h]; exact cmpB_self b⟩
  have := cmpL_zero h
  obtain ⟨⟨a⟩⟩ := a
  obtain ⟨⟨b⟩⟩ := b
  have this : a = b := this
  rw [this]
theorem cmpB_trans {a b c : ByteArray} (h : cmpB a b < 0) (g : cmpB b c ≤ 0) : cmpB a c < 0 := cmpL_trans h g
theorem cmpB_anti (a b : ByteArray) : cmpB b a = - cmpB a b := cmpL_anti
end Go.Proofs.Ytjpdcppdoonmdaa
end
/- part Vq. PROVED HERE: the logic's rules for a slice of one's own that is cut at its head and grown at its end. CONDITIONS: none. No statement of the seat is proved here. -/
section
namespace Go.Proofs.Ytjpdcppdoonmdaa
open Go.RowKit
/-- the slice A, n, cap holds the cells xs, somewhere in a block of the code's own -/
def TailA (e : TypeId) (size : Nat) (A : Option Addr) (n cap : Nat) (xs : List Value) : Asn where
  h F w := xs.length = n * size ∧ ∃ g off cur, A = some ⟨g, off, none⟩ ∧ w.heap[g]? = some (.cells cur e (0, 0)) ∧ n ≤ cap ∧ cap ≤ maxLen ∧ off + cap * size ≤ cur.size ∧ (∀ (j : Nat) u, xs[j]? = some u → cur[off + j]? = some u) ∧ ∀ k, F k ↔ k = g
  lt := by
    rintro F w ⟨_, g, off, cur, _, h1, _, _, _, _, h2⟩ k hk
    rw [(h2 k).1 hk]
    exact lt_of_some h1
  st := by
    rintro F w ⟨h0, g, off, cur, h3, h1, h4, h5, h6, h7, h2⟩ S w' hk hn
    exact ⟨h0, g, off, cur, h3, (hk.block g (lt_of_some h1) (hn g ((h2 g).2 rfl))).trans h1, h4, h5, h6, h7, h2⟩
section tails
variable {e : TypeId} {size n m cap : Nat} {A : Option Addr} {xs news : List Value} {w : World}
theorem step_toTail {b : Nat} {cs : List Value} (hl : cs.length = n * size) (hm : n ≤ maxLen) : ∀ F, (HP.blk b cs e).h F w → ∃ F', (HP.abs (TailA e size (some ⟨b, 0, none⟩) n n cs)).h F' w ∧ Step F w F' w := by
  rintro F ⟨h1, h2⟩
  refine ⟨F, ⟨hl, b, 0, ⟨cs⟩, rfl, h1, Nat.le_refl _, hm, by simp [hl], fun j u hj => by simpa using hj, h2⟩, Step.refl F w⟩
theorem Sat.toTail {β : Bs} {hps : List HP} {b i : Nat} {cs : List Value} (size n : Nat) (hp : hps[i]? = some (.blk b cs e)) (hl : cs.length = n * size) (hm : n ≤ maxLen) (h : Sat β hps w) : Sat β (hps.set i (.abs (TailA e size (some ⟨b, 0, none⟩) n n cs))) w :=
  h.set hp (step_toTail hl hm)
theorem TailA.len {F : Fp} (h : (HP.abs (TailA e size A n cap xs)).h F w) : xs.length = n * size ∧ n ≤ cap ∧ A = some ⟨blkOf A, offOf A, none⟩ := by
  obtain ⟨h0, g, off, cur, rfl, _, h4, _⟩ := h
  exact ⟨h0, h4, rfl⟩
theorem TailA.cellAt {i j : Nat} {u : Value} (hj : xs[i * size + j]? = some u) : ∀ F w, (TailA e size A n cap xs).h F w → w.cell? ⟨blkOf A, offOf A + i * size + j, none⟩ = some u := by
  rintro F w ⟨_, g, off, cur, rfl, h1, _, _, _, h6, _⟩
  have := h6 _ _ hj
  show w.cell? ⟨g, off + i * size + j, none⟩ = _
  unfold World.cell?
  rw [h1]
  rw [Nat.add_assoc]
  simpa using this
theorem setCells_heap {b : Nat} {fz : Nat × Nat} : ∀ (vs : List Value) (o : Nat) (w : World) (cur : Array Value), w.heap[b]? = some (.cells cur e fz) → o + vs.length ≤ cur.size →
    ∃ cur', (w.setCells b o vs).heap[b]? = some (.cells cur' e fz) ∧ cur'.size = cur.size ∧ (∀ i, i < o → cur'[i]? = cur[i]?) ∧ (∀ (j : Nat) u, vs[j]? = some u → cur'[o + j]? = some u) ∧ Keeps (· = b) w (w.setCells b o vs)
  | [], o, w, cur, h, _ => ⟨cur, h, rfl, fun _ _ => rfl, fun j u hj => by simp at hj, Keeps.refl _ _⟩
  | v :: r, o, w, cur, h, hl => by
    have h1 : (w.setCell ⟨b, o, none⟩ v).heap[b]? = some (.cells (cur.setIfInBounds o v) e fz) := by
      simp [World.setCell, Array.getElem?_modify, h]
    simp only [List.length_cons] at hl
    obtain ⟨cur', h2, h3, h4, h5, h6⟩ := setCells_heap r (o + 1) _ _ h1 (by simp; omega)
    refine ⟨cur', h2, by rw [h3]; simp, fun i hi => ?_, fun j u hj => ?_, ?_⟩
    · rw [h4 i (by omega), Array.getElem?_setIfInBounds_ne (by omega)]
    · cases j with
      | zero =>
        simp at hj
        subst hj
        rw [Nat.add_zero, h4 o (by omega), Array.getElem?_setIfInBounds_self_of_lt (by omega)]
      | succ j =>
        have := h5 j u (by simpa using hj)
        rw [show o + (j + 1) = o + 1 + j by omega]
        exact this
    · have h7 : Keeps (· = b) w (w.setCell ⟨b, o, none⟩ v) := (Keeps.refl (· = b) w).setCell (.inr (rfl : (fun k => k = b) (⟨b, o, none⟩ : Addr).block)) v
      exact h7.trans h6
end tails
theorem src_blk1 {β : Bs} {hps : List HP} {b j : Nat} {news : List Value} {T : TypeId} (hp : hps[j]? = some (.blk b news T)) : ∀ w, Sat β hps w → ∀ (i : Nat) u, news[i]? = some u → w.cell? ((⟨b, 0, none⟩ : Addr).add i) = some u := by
  intro w hS i u hi
  rcases src_blk hp w hS with ⟨h, _⟩ | ⟨ad, e, h⟩
  · cases h
  · cases e; exact h i u hi
section rules
variable {P : Program} {β : Bs} {N : Nat} {ops : Array Oper} {k : Nat} {fr : Fr} {hps : List HP} {Q : Post} {d : Option Tmp}
theorem TriL.tailSlice (i : Nat) {t e : TypeId} {size m n cap : Nat} {A : Option Addr} {xs : List Value} {x lo : Operand} (hop : ∀ junk, opAt N junk ops fr k = some (.slice t x (some lo) none none, d)) (hp : hps[i]? = some (.abs (TailA e size A n cap xs)))
    (hx : ∀ junk, evF N fr junk x = .slice A n cap) (hlo : ∀ junk, evF N fr junk lo = .int .i64 ((m : Nat) : Int)) (ht : P.underlying t = some (.slice e)) (hinf : (P.info? e).map (·.size) = some size) (hm : m ≤ n)
    (K' : ∀ A', TriL P β N ops (k + 1) (putF fr d (.slice A' (n - m) (cap - m))) (hps.set i (.abs (TailA e size A' (n - m) (cap - m) (xs.drop (m * size))))) Q) : TriL P β N ops k fr hps Q := by
  obtain ⟨inf, hi, hsize⟩ : ∃ inf, P.info? e = some inf ∧ inf.size = size := by
    cases h : P.info? e with
    | none => rw [h] at hinf; cases hinf
    | some inf => rw [h] at hinf; simp at hinf; exact ⟨inf, rfl, hinf⟩
  refine TriL.runE (ι := Option Addr) (v := fun A' => .slice A' (n - m) (cap - m)) (hp' := fun A' => hps.set i (.abs (TailA e size A' (n - m) (cap - m) (xs.drop (m * size))))) hop (fun o junk w ho hS => ?_) K'
  obtain ⟨F, hF⟩ := hS.get hp
  obtain ⟨h0, g, off, cur, hA, h1, h4, h5, h6, h7, h8⟩ := hF
  subst hA
  have e1 : (underlying t).run P w = .ok (.slice e) w := run_underlying ht w
  have e2 : (sizeOf e).run P w = .ok size w := hsize ▸ runsize hi w
  have hmn : m * size ≤ n * size := Nat.mul_le_mul_right _ hm
  have hmc : m * size ≤ cap * size := Nat.mul_le_mul_right _ (Nat.le_trans hm h4)
  have hsub : ∀ a, (a - m) * size = a * size - m * size := fun a => Nat.sub_mul a m size
  by_cases hc : cap = m
  · refine ⟨some ⟨g, off, none⟩, w, .inl ?_, hS.set hp (fun F' hF' => ⟨F', ?_, Step.refl _ _⟩)⟩
    · obtain ⟨dst, op, type, pos, after, guard⟩ := o
      cases ho
      have hle : m ≤ n := hm
      simp [execOp, Instr.sliceAt, Instr.slice, Instr.sliceBounds, Instr.sliceBound, asIntOf, hx, hlo, go_sem, e1, e2, hc, hle]
    · obtain ⟨_, g', off', cur', hA', h1', h4', h5', h6', h7', h8'⟩ := hF'
      cases hA'
      refine ⟨by rw [List.length_drop, h0, hsub], g, off, cur', rfl, h1', by omega, by omega, by rw [hsub]; omega, fun j u hj => ?_, h8'⟩
      have : (xs.drop (m * size)).length = 0 := by rw [List.length_drop, h0]; have : n = m := by omega
                                                   rw [this]; omega
      have hnil := List.eq_nil_of_length_eq_zero this
      rw [hnil] at hj
      simp at hj
  · have ea : (⟨g, off, none⟩ : Addr).add (m * size) = ⟨g, off + m * size, none⟩ := by
      unfold Addr.add
      split
      · rename_i h00; rw [h00]; rfl
      · rfl
    refine ⟨some ⟨g, off + m * size, none⟩, w, .inl ?_, hS.set hp (fun F' hF' => ⟨F', ?_, Step.refl _ _⟩)⟩
    · obtain ⟨dst, op, type, pos, after, guard⟩ := o
      cases ho
      have hle : m ≤ n := hm
      simp [execOp, Instr.sliceAt, Instr.slice, Instr.sliceBounds, Instr.sliceBound, asIntOf, hx, hlo, go_sem, e1, e2, hc, hle]
    · obtain ⟨_, g', off', cur', hA', h1', h4', h5', h6', h7', h8'⟩ := hF'
      cases hA'
      refine ⟨by rw [List.length_drop, h0, hsub], g, off + m * size, cur', rfl, h1', by omega, by omega, by rw [hsub]; omega, fun j u hj => ?_, h8'⟩
      rw [List.getElem?_drop] at hj
      have := h7' _ _ hj
      rw [show off + m * size + j = off + (m * size + j) by omega]
      exact this
theorem TriL.tailAppend (i : Nat) {t e : TypeId} {z : Value} {size bytes n cap m c' : Nat} {A : Option Addr} {ad : Addr} {xs news : List Value} {s x : Operand} {ats : Array TypeId}
    (hop : ∀ junk, opAt N junk ops fr k = some (.call ⟨.builtin .append, #[s, x], ats⟩, d)) (hats : ats = #[t, t]) (hp : hps[i]? = some (.abs (TailA e size A n cap xs))) (hs : ∀ junk, evF N fr junk s = .slice A n cap) (hx : ∀ junk, evF N fr junk x = .slice (some ad) m c')
    (ht : P.underlying t = some (.slice e)) (hinf : (P.info? e).map (fun i => (i.zero, i.size, i.bytes)) = some (some z, size, bytes)) (hzs : z.cells.size = size) (hsz : 0 < size)
    (hl : news.length = m * size) (h1 : ∀ u ∈ news, u.oneCell' = true) (hsrc : ∀ w, Sat β hps w → ∀ (j : Nat) u, news[j]? = some u → w.cell? (ad.add j) = some u)
    (h63 : n + m ≤ maxLen) (hbytes : (n + m) * bytes ≤ 140737488355328)
    (K' : ∀ B cap', TriL P β N ops (k + 1) (putF fr d (.slice B (n + m) cap')) (hps.set i (.abs (TailA e size B (n + m) cap' (xs ++ news)))) Q) : TriL P β N ops k fr hps Q := by
  subst hats
  obtain ⟨inf, hi, hz, hsize, hby⟩ : ∃ inf, P.info? e = some inf ∧ inf.zero = some z ∧ inf.size = size ∧ inf.bytes = bytes := by
    cases h : P.info? e with
    | none => rw [h] at hinf; cases hinf
    | some inf => rw [h] at hinf; simp at hinf; exact ⟨inf, rfl, hinf.1, hinf.2.1, hinf.2.2⟩
  refine TriL.runE (ι := Option Addr × Nat) (v := fun p => .slice p.1 (n + m) p.2) (hp' := fun p => hps.set i (.abs (TailA e size p.1 (n + m) p.2 (xs ++ news)))) hop (fun o junk w ho hS => ?_) (fun p => K' p.1 p.2)
  obtain ⟨F, hF⟩ := hS.get hp
  have hnews := hsrc w hS
  obtain ⟨h0, g, off, cur, hA, hg, h4, h5, h6, h7, h8⟩ := hF
  subst hA
  have hrun : ∀ v' w', (Builtin.append_ #[t, t] o.type #[.slice (some ⟨g, off, none⟩) n cap, .slice (some ad) m c']).run P w = .ok v' w' → Ran P (evF N fr junk) o w v' w' := fun v' w' h => by
    obtain ⟨dst, op, type, pos, after, guard⟩ := o
    cases ho
    refine .inl ?_
    have h' : (Builtin.append_ #[t, t] type #[.slice (some ⟨g, off, none⟩) n cap, .slice (some ad) m c']).run P w = .ok v' w' := h
    simp only [execOp, resolve, invoke, builtin, hs junk, hx junk, List.map_toArray, List.map_cons, List.map_nil, Sem.run_bind, Sem.run_pure, Result.andThen_ok, h']
  have hlen : (xs ++ news).length = (n + m) * size := by rw [List.length_append, h0, hl, Nat.add_mul]
  by_cases hroom : n + m ≤ cap
  · have hcm : (n + m) * size ≤ cap * size := Nat.mul_le_mul_right _ hroom
    rw [Nat.add_mul, ← hl] at hcm
    have hcell : ∀ j, j < news.length → (w.cell? ⟨g, off + n * inf.size + j, none⟩).isSome = true := fun j hj => by
      rw [hsize]
      unfold World.cell?
      rw [hg]
      have : off + n * size + j < cur.size := by omega
      simp [this]
    have hfro : ∀ j, j < news.length → w.frozen? ⟨g, off + n * inf.size + j, none⟩ = false := fun j _ => by
      unfold World.frozen?
      rw [hg]
      simp
    have hr := run_append_room_cells (P := P) w t o.type e inf ht hi g off n cap ad m c' news (by rw [hsize]; exact hl) hnews h1 hroom hcell hfro
    rw [hsize] at hr
    obtain ⟨cur', g1, g2, g3, g4, g5⟩ := setCells_heap (e := e) (b := g) news (off + n * size) w cur hg (by omega)
    refine ⟨(some ⟨g, off, none⟩, cap), _, hrun _ _ hr, hS.set hp (fun F' hF' => ⟨F', ?_, ?_⟩)⟩
    · obtain ⟨_, g', off', cur2, hA', h1', h4', h5', h6', h7', h8'⟩ := hF'
      cases hA'
      rw [hg] at h1'
      cases h1'
      refine ⟨hlen, g, off, cur', rfl, g1, hroom, h5, by rw [g2]; exact h6, fun j u hj => ?_, h8'⟩
      by_cases hj2 : j < xs.length
      · rw [List.getElem?_append_left hj2] at hj
        rw [g3 _ (by omega)]
        exact h7 j u hj
      · rw [List.getElem?_append_right (by omega)] at hj
        have := g4 _ _ hj
        rw [h0] at this
        rw [show off + j = off + n * size + (j - n * size) by omega]
        exact this
    · obtain ⟨_, g', off', cur2, hA', _, _, _, _, _, h8'⟩ := hF'
      cases hA'
      exact ⟨g5.mono (fun k _ e => (h8' k).2 e), fun _ h => .inl h⟩
  · have holds : ∀ (j : Nat) u, xs[j]? = some u → w.cell? ((⟨g, off, none⟩ : Addr).add j) = some u := fun j u hj => by
      have ea : (⟨g, off, none⟩ : Addr).add j = ⟨g, off + j, none⟩ := by
        unfold Addr.add
        split
        · rename_i h00; rw [h00]; rfl
        · rfl
      rw [ea]
      unfold World.cell?
      rw [hg]
      simpa using h7 j u hj
    obtain ⟨v', w', hr, hown, hgr⟩ := run_append_arg_grows (P := P) w t o.type e inf z size bytes ht hi hz hsize hby hzs hsz ⟨g, off, none⟩ n cap xs h0 holds ad m c' news hl hnews (by omega) h63 hbytes
    rcases hown.2 with ⟨_, e0⟩ | ⟨g', cp, cur', rfl, hlo, hg', hle, hmx, hsz', htk⟩
    · exact absurd e0 (by omega)
    · refine ⟨(some ⟨g', 0, none⟩, cp), w', hrun _ _ hr, hS.set hp (fun F' hF' => ⟨fun k => k = g', ⟨hlen, g', 0, cur', rfl, hg', hle, hmx, Nat.le_of_eq (by rw [hsz', Nat.zero_add]), fun j u hj => ?_, fun _ => Iff.rfl⟩, ?_, fun k hk => .inr (by rw [hk]; exact hlo)⟩)⟩
      · have hj2 := len_of_some hj
        rw [← htk, List.getElem?_take] at hj
        split at hj
        · rw [Nat.zero_add]; simpa using hj
        · cases hj
      · exact (Keeps.refl F' w).grown hgr (fun _ h => by cases h)
end rules
end Go.Proofs.Ytjpdcppdoonmdaa
end
/- part Vz. PROVED HERE: the logic's rule for a region that draws its order and both reads and changes memory: what it reads stays as it is while it changes, and its changes stand in one order. CONDITIONS: none. No statement of the seat is proved here. -/
section
namespace Go.Proofs.Ytjpdcppdoonmdaa
open Go.RowKit
/-- a post that is met at the normal end alone -/
def NP (Q : Post) : Post := fun e a w => match e with
  | .normal => Q .normal a w
  | _ => False
section order
variable {P : Program} {ops : Array Oper} {Q Q' : Post} {n : Nat} {S : World → Prop}
theorem letsOut_np (h : LetsOut (NP Q)) : False := by
  obtain ⟨a, w, h⟩ := h
  exact h
theorem wp_np {o : Oper} {a : Act} {w : World} {K : Act → World → Prop} (h : o.wp P a w K (NP Q)) : o.wp P a w K (NP Q') := by
  unfold Oper.wp at *
  generalize (execOp a.eval o).run P w = r at *
  cases r with
  | ok m w' =>
    cases m <;> simp only [Oper.upon] at h ⊢ <;>
      first
        | exact h
        | exact Calls.mono h (fun e w'' he => by cases e <;> first | exact he | exact (letsOut_np he).elim)
  | halt x w' => cases x <;> simp only [Oper.upon] at h ⊢; exact h
theorem wpOp_of_list {i : Nat} {o : Oper} {a : Act} {w : World} {K : Act → World → Prop} (hi : ops[i]? = some o) (hg : o.guard = none) (h : wpList P #[o] (NP fun _ a w => K a w) [o] a w) : wpOp P ops (NP Q) i K a w := by
  unfold wpOp
  simp only [hi]
  have hw : ∀ y, Region.wanted o y = true := fun y => by unfold Region.wanted; rw [hg]
  rw [if_pos (hw _)]
  unfold wpList at h
  rw [if_pos (hw _)] at h
  rcases h with h | ⟨_, h⟩
  · exact .inl (wp_np (Oper.wp_mono (fun a w h => h) h))
  · exact (letsOut_np h).elim
theorem wpList_np {o : Oper} {a : Act} {w : World} (hq : ∀ a w, Q .normal a w → Q' .normal a w) (h : wpList P ops (NP Q) [o] a w) : wpList P ops (NP Q') [o] a w := by
  unfold wpList at *
  split
  · rename_i hw
    rw [if_pos hw] at h
    rcases h with h | ⟨_, h⟩
    · exact .inl (wp_np (Oper.wp_mono (fun a w h => hq a w h) h))
    · exact (letsOut_np h).elim
  · rename_i hw
    rw [if_neg hw] at h
    exact hq _ _ h
/-- whatever order is picked: S holds behind every operation but n, the last one -/
def wpAnyE (P : Program) (ops : Array Oper) (Q : Post) (n : Nat) (S : World → Prop) : Nat → Array Bool → Act → World → Prop
  | 0, listed, a, w => Region.ready .any ops listed = [] ∧ Q .normal a w
  | fuel + 1, listed, a, w => (Region.ready .any ops listed = [] → Q .normal a w) ∧
    ∀ i ∈ Region.ready .any ops listed, wpOp P ops Q i (fun a' w' => (i = n ∨ S w') ∧ wpAnyE P ops Q n S fuel (listed.setIfInBounds i true) a' w') a w
theorem wpAny_of_E : ∀ (fuel : Nat) (listed : Array Bool) (a : Act) (w : World), wpAnyE P ops Q n S fuel listed a w → wpAny P .any ops Q fuel listed a w
  | 0, _, _, _, h => h
  | fuel + 1, _, _, _, h => ⟨h.1, fun i hi => wpOp_mono (fun a' w' h' => wpAny_of_E fuel _ a' w' h'.2) (h.2 i hi)⟩
/-- what has come up has all that it waits for before it -/
def Closed (ops : Array Oper) (listed : Array Bool) : Prop := ∀ j oj, ops[j]? = some oj → listed.getD j false = true → ∀ e ∈ oj.after, Region.binds .any e = true → listed.getD e.on false = true
theorem Closed.set {listed : Array Bool} {j : Nat} (h : Closed ops listed) (hj : j ∈ Region.ready .any ops listed) : Closed ops (listed.setIfInBounds j true) := by
  obtain ⟨_, oj, hoj, hall⟩ := mem_ready.1 hj
  intro k ok hk hl e he hb
  refine getD_set_true ?_
  by_cases hjk : j = k
  · subst hjk
    rw [hoj] at hk
    cases hk
    exact hall e he hb
  · rw [getD_set_ne false hjk] at hl
    exact h k ok hk hl e he hb
theorem sink_wait (hs : Region.sinkB .any ops n = true) {listed : Array Bool} (hc : Closed ops listed) : ∀ (m i : Nat), n - i ≤ m → i < n → listed.getD i false = false → n ∉ Region.ready .any ops listed
  | 0, i, hm, hi, _ => by omega
  | m + 1, i, hm, hi, hu => fun hr => by
    unfold Region.sinkB at hs
    rw [List.all_eq_true] at hs
    have h1 := hs i (List.mem_range.2 hi)
    rw [List.any_eq_true] at h1
    obtain ⟨j, hj, h2⟩ := h1
    rw [Bool.and_eq_true, decide_eq_true_iff] at h2
    have hj := List.mem_range.1 hj
    obtain ⟨oj, hoj, e, he, hb, heq⟩ := Region.waitsFor_spec h2.2
    by_cases hjn : j = n
    · subst hjn
      obtain ⟨_, oj', hoj', hall⟩ := mem_ready.1 hr
      rw [hoj] at hoj'
      cases hoj'
      have := hall e he hb
      rw [heq, hu] at this
      cases this
    · cases hl : listed.getD j false with
      | true =>
        have := hc j oj hoj hl e he hb
        rw [heq, hu] at this
        cases this
      | false => exact sink_wait (by unfold Region.sinkB; rw [List.all_eq_true]; exact hs) hc m j (by omega) (by omega) hl hr
theorem unlisted_of_ready {listed : Array Bool} {i : Nat} (h : i ∈ Region.ready .any ops listed) : listed.getD i false = false := by
  have h1 := (mem_ready.1 h).1
  rcases Nat.lt_or_ge i listed.size with h' | h'
  · simp [h'] at h1 ⊢; exact h1
  · simp [Array.getElem?_eq_none h'] at h1
/-- a reading that may come up now may be taken first -/
theorem wpAnyE_first {i : Nat} {oi : Oper} {v : Value} (hi : ops[i]? = some oi) (hsel : Region.noSelect ops = true) (hsink : Region.sinkB .any ops n = true) (hin : i < n) :
    ∀ (fuel : Nat) (listed : Array Bool) (a : Act) (w : World), Closed ops listed →
      (∀ j oj, ops[j]? = some oj → j ≠ i → listed.getD j true = false → (∀ e ∈ oj.after, Region.binds .any e = true → e.on ≠ i) → oi.apart ops oj = true) →
      i ∈ Region.ready .any ops listed → YieldsIf P ops S oi v a → S w →
      wpAnyE P ops (NP Q) n S fuel (listed.setIfInBounds i true) (a.put oi.dst v) w → wpAnyE P ops (NP Q) n S (fuel + 1) listed a w := by
  intro fuel
  induction fuel with
  | zero =>
    intro listed a w _ _ hr hy hS H
    refine ⟨fun h => (by rw [h] at hr; cases hr), fun j hj => ?_⟩
    by_cases hji : j = i
    · subst hji; exact hy.wpOp hi hS ⟨.inr hS, H⟩
    · have := ready_mono hj hji
      rw [H.1] at this
      cases this
  | succ fuel ih =>
    intro listed a w hcl hfree hr hy hS H
    refine ⟨fun h => (by rw [h] at hr; cases hr), fun j hj => ?_⟩
    by_cases hji : j = i
    · subst hji; exact hy.wpOp hi hS ⟨.inr hS, H⟩
    · have h1 := H.2 j (ready_mono hj hji)
      have hjn : j ≠ n := fun e => by
        subst e
        exact sink_wait hsink hcl _ i (Nat.le_refl _) hin (unlisted_of_ready hr) hj
      obtain ⟨hjun, oj, hoj, hall⟩ := mem_ready.1 hj
      have hnot : ∀ e ∈ oj.after, Region.binds .any e = true → e.on ≠ i := fun e he hb heq => by
        have h2 := hall e he hb
        rw [heq, unlisted_of_ready hr] at h2
        cases h2
      have h2 := wpOp_putIf (S := S) (Q := NP Q) hoj (hfree j oj hoj hji hjun hnot) (fun cs b => Region.noSelect_spec hsel i oi cs b hi) (fun cs b => Region.noSelect_spec hsel j oj cs b hoj) (fun _ _ _ h => h) hy h1
      have hfree' : ∀ k ok, ops[k]? = some ok → k ≠ i → (listed.setIfInBounds j true).getD k true = false →
          (∀ e ∈ ok.after, Region.binds .any e = true → e.on ≠ i) → oi.apart ops ok = true := fun k ok hk hki hun hno => by
        refine hfree k ok hk hki ?_ hno
        by_cases hjk : j = k
        · subst hjk; exact hjun
        · rw [getD_set_ne true hjk] at hun; exact hun
      refine wpOp_mono (fun a' w' h3 => ?_) h2
      have hS' : S w' := h3.2.1.resolve_left hjn
      refine ⟨.inr hS', ih (listed.setIfInBounds j true) a' w' (hcl.set hj) hfree' (ready_mono hr (Ne.symm hji)) h3.1 hS' ?_⟩
      rw [Array.setIfInBounds_comm _ _ hji]
      exact h3.2.2
/-- some readings, then the changes in their order -/
def wpMix (P : Program) (ops : Array Oper) (Q : Post) (S : World → Prop) : Nat → List Nat → Act → World → Prop
  | _, [], a, w => Q .normal a w
  | 0, i :: l, a, w => wpOp P ops Q i (fun a' w' => (l = [] ∨ S w') ∧ wpMix P ops Q S 0 l a' w') a w
  | r + 1, i :: l, a, w => ∃ o v, ops[i]? = some o ∧ YieldsIf P ops S o v a ∧ wpMix P ops Q S r l (a.put o.dst v) w
def mixB (ops : Array Oper) (n : Nat) : Nat → List Nat → Array Bool → Bool
  | _, [], listed => (Region.ready .any ops listed).isEmpty
  | 0, i :: l, listed => (Region.ready .any ops listed == [i]) && (!l.isEmpty || i == n) && mixB ops n 0 l (listed.setIfInBounds i true)
  | r + 1, i :: l, listed => decide (i < n) && Region.free .any ops listed i && (Region.ready .any ops listed).contains i && mixB ops n r l (listed.setIfInBounds i true)
theorem wpMix_eff (hsel : Region.noSelect ops = true) : ∀ (l : List Nat) (listed : Array Bool) (a : Act) (w : World), mixB ops n 0 l listed = true → wpMix P ops (NP Q) S 0 l a w → wpAnyE P ops (NP Q) n S l.length listed a w
  | [], listed, a, w, hb, h => ⟨List.isEmpty_iff.1 hb, h⟩
  | i :: l, listed, a, w, hb, h => by
    unfold mixB at hb
    simp only [Bool.and_eq_true, beq_iff_eq] at hb
    obtain ⟨⟨h1, h2⟩, h3⟩ := hb
    refine ⟨fun h0 => (by rw [h1] at h0; cases h0), fun j hj => ?_⟩
    rw [h1] at hj
    have hj : j = i := by simpa using hj
    subst hj
    refine wpOp_mono (fun a' w' h4 => ⟨?_, wpMix_eff hsel l _ a' w' h3 h4.2⟩) h
    rcases h4.1 with h5 | h5
    · subst h5; exact .inl (by simpa using h2)
    · exact .inr h5
theorem wpMix_E (hsel : Region.noSelect ops = true) (hsink : Region.sinkB .any ops n = true) : ∀ (r : Nat) (l : List Nat) (listed : Array Bool) (a : Act) (w : World), mixB ops n r l listed = true → Closed ops listed → S w → wpMix P ops (NP Q) S r l a w → wpAnyE P ops (NP Q) n S l.length listed a w
  | 0, l, listed, a, w, hb, _, _, h => wpMix_eff hsel l listed a w hb h
  | r + 1, [], listed, a, w, hb, _, _, h => ⟨List.isEmpty_iff.1 hb, h⟩
  | r + 1, i :: l, listed, a, w, hb, hc, hS, h => by
    unfold mixB at hb
    simp only [Bool.and_eq_true, decide_eq_true_iff] at hb
    obtain ⟨⟨⟨h1, h2⟩, h3⟩, h4⟩ := hb
    obtain ⟨o, v, ho, hy, hk⟩ := h
    have hr : i ∈ Region.ready .any ops listed := by simpa using h3
    exact wpAnyE_first ho hsel hsink h1 l.length listed a w hc (Region.free_spec ho h2) hr hy hS (wpMix_E hsel hsink r l _ _ w h4 (hc.set hr) hS hk)
def mixTop (ops : Array Oper) (perm : List Nat) (nr : Nat) : Bool :=
  Region.noSelect ops && Region.sinkB .any ops (ops.size - 1) && (perm.length == ops.size) && mixB ops (ops.size - 1) nr perm (Array.replicate ops.size false)
end order
section mix
variable {P : Program} {β : Bs} {N : Nat} {ops : Array Oper} {S : List HP} {r r' : Nat} {l l' : List Nat} {fr fr' : Fr} {hps : List HP} {Q : Post} {obl : List Prop} {d : Option Tmp} {op : Op} {v : Value} {i : Nat} {pk : List Nat}
def TriM (P : Program) (β : Bs) (N : Nat) (ops : Array Oper) (S : List HP) (r : Nat) (l : List Nat) (fr : Fr) (hps : List HP) (Q : Post) : Prop :=
  ∀ junk w, Sat β hps w → wpMix P ops (NP Q) (Sat β S) r l (mkA N fr junk) w
theorem Tri.regionMix {id : Nat} (perm : List Nat) (nr : Nat) (pk : List Nat) (hm : P.follows .mixedOrders = true) (hB : mixTop ops perm nr = true) (hn : nodupB pk = true) (hp : pickL hps pk = some S) (h : TriM P β N ops S nr perm fr hps Q) : Tri P β N (.region id ops true) fr hps Q := by
  intro junk w hS
  unfold mixTop at hB
  simp only [Bool.and_eq_true, beq_iff_eq] at hB
  obtain ⟨⟨⟨h1, h2⟩, h3⟩, h4⟩ := hB
  have hS' := hS.drewN 1
  have h5 := wpMix_E (Q := Q) h1 h2 nr perm _ _ _ h4 (fun j oj _ hl => by simp [Array.getD_eq_getD_getElem?, Array.getElem?_replicate] at hl; split at hl <;> simp at hl) (hS'.pick hn hp) (h junk (w.drewN 1) hS')
  rw [h3] at h5
  refine Code.wp_mono (fun e a w q => ?_) (wp_region_any hm (wpAny_of_E _ _ _ _ h5))
  cases e with
  | normal => exact q
  | exit id => exact q.elim
  | goto l => exact q.elim
  | ret => exact q.elim
  | panic ch => exact q.elim
  | outgrown => exact q.elim
def plainV : Value → Bool
  | .tuple a => decide (a.size ≠ 0)
  | _ => true
theorem plainV_ne {v : Value} (h : plainV v = true) : ¬ v = undef := fun e => by subst e; exact absurd h (by decide)
/-- readings, by the kernel -/
def orunsI (P : Program) (β : Bs) (N : Nat) (junk : Nat → Value) (ops : Array Oper) : List OH → List Nat → Fr → SS → Option (Fr × SS)
  | [], [], fr, S => some (fr, S)
  | h :: hs, i :: is, fr, S =>
    match ops[i]? with
    | some o =>
      match o.guard with
      | none =>
        match orun P β 0 true (evF N fr junk) o h S with
        | some (v, S') =>
          match plainV v with
          | true => orunsI P β N junk ops hs is (putF fr o.dst v) S'
          | false => none
        | none => none
      | some _ => none
    | none => none
  | _, _, _, _ => none
def readrun (P : Program) (β : Bs) (N : Nat) (junk : Nat → Value) (ops : Array Oper) (hs : List OH) (is : List Nat) (fr : Fr) (S : List HP) (idx : List Nat) : Option (Fr × List Prop) :=
  match orunsI P β N junk ops hs is fr ⟨[], S, [], true⟩ with
  | some (fr', S') => some (pickF fr' junk idx, S'.obl)
  | none => none
theorem orunsI_obl {junk : Nat → Value} : ∀ {hs : List OH} {is : List Nat} {fr fr' : Fr} {S S' : SS}, orunsI P β N junk ops hs is fr S = some (fr', S') → ∀ p, p ∈ S.obl → p ∈ S'.obl
  | [], [], fr, fr', S, S', h, p, hp => by cases h; exact hp
  | h :: hs, i :: is, fr, fr', S, S', hr, p, hp => by
    unfold orunsI at hr
    repeat' split at hr
    all_goals first | (cases hr; done) | skip
    rename_i h0 _ _
    exact orunsI_obl hr p (orun_obl h0 p hp)
  | [], _ :: _, _, _, _, _, h, _, _ => by cases h
  | _ :: _, [], _, _, _, _, h, _, _ => by cases h
theorem orunsI_sound {junk : Nat → Value} {w : World} : ∀ {hs : List OH} {is : List Nat} {fr fr' : Fr} {T T' : SS}, orunsI P β N junk ops hs is fr T = some (fr', T') → (∀ p, p ∈ T'.obl → p) → T.used = true → T.hps = S →
    wpMix P ops (NP Q) (Sat β S) r l (mkA N fr' junk) w → wpMix P ops (NP Q) (Sat β S) (is.length + r) (is ++ l) (mkA N fr junk) w
  | [], [], fr, fr', T, T', h, ho, hu, hT, hK => by cases h; simpa using hK
  | h :: hs, i :: is, fr, fr', T, T', hr, ho, hu, hT, hK => by
    unfold orunsI at hr
    repeat' split at hr
    all_goals first | (cases hr; done) | skip
    rename_i o hget _ hguard _ v T1 h0 _ hv
    obtain ⟨e1, e2⟩ := orun_ro h0
    have e : (i :: is).length + r = (is.length + r) + 1 := by simp; omega
    rw [e, List.cons_append]
    unfold wpMix
    refine ⟨o, v, hget, .inl ⟨by unfold Region.wanted; rw [hguard], fun w' hS' => ?_⟩, ?_⟩
    · rw [mkA_eval]
      obtain ⟨w2, h1, _, _, h4⟩ := orun_sound h0 (fun p hp => ho p (orunsI_obl hr p hp)) (by rw [hT]; exact hS') (fun e => by rw [hu] at e; cases e)
      obtain ⟨ew, _⟩ := h4 rfl
      rw [ew] at h1
      rcases h1 with h1 | ⟨h1, _⟩
      · exact h1
      · exact absurd h1 (plainV_ne hv)
    · rw [mkA_put]
      exact orunsI_sound hr ho (e2.trans hu) (e1.trans hT) hK
  | [], _ :: _, _, _, _, _, h, _, _, _, _ => by cases h
  | _ :: _, [], _, _, _, _, h, _, _, _, _ => by cases h
theorem TriM.reads (is : List Nat) (hs : List OH) (idx : List Nat) (h : ∀ junk, readrun P β N junk ops hs is fr S idx = some (fr', obl)) (ho : AllP obl) (hr : r' = is.length + r) (hl : l' = is ++ l) (K : TriM P β N ops S r l fr' hps Q) : TriM P β N ops S r' l' fr hps Q := by
  intro junk w hS
  subst hr hl
  have h0 := h junk
  unfold readrun at h0
  split at h0
  · rename_i fr1 S1 h1
    cases h0
    have hK := K (lk fr1 junk) w hS
    rw [← mkA_pick] at hK
    exact orunsI_sound h1 (fun p hp => ho.mem hp) rfl rfl hK
  · cases h0
def opI (ops : Array Oper) (i : Nat) : Option (Op × Option Tmp) := match ops[i]? with
  | some o => match o.guard with
    | none => some (o.op, o.dst)
    | some _ => none
  | none => none
theorem opI_spec (h : opI ops i = some (op, d)) : ∃ o, ops[i]? = some o ∧ o.guard = none ∧ o.op = op ∧ o.dst = d := by
  unfold opI at h
  repeat' split at h
  all_goals first | (cases h; done) | skip
  rename_i o h1 _ h2
  cases h
  exact ⟨o, h1, h2, rfl, rfl⟩
theorem TriM.read1 (hop : opI ops i = some (op, d)) (h : ∀ (o : Oper) junk w, o.op = op → Sat β S w → Ran P (evF N fr junk) o w v w) (hv : plainV v = true) (K : TriM P β N ops S r l (putF fr d v) hps Q) : TriM P β N ops S (r + 1) (i :: l) fr hps Q := by
  intro junk w hS
  obtain ⟨o, h1, h2, h3, rfl⟩ := opI_spec hop
  unfold wpMix
  refine ⟨o, v, h1, .inl ⟨by unfold Region.wanted; rw [h2], fun w' hS' => ?_⟩, ?_⟩
  · rw [mkA_eval]
    rcases h o junk w' h3 hS' with h4 | ⟨h4, _⟩
    · exact h4
    · exact absurd h4 (plainV_ne hv)
  · rw [mkA_put]
    exact K junk w hS
/-- an operation that changes memory: told by a family of frames and parts -/
def Mid (β : Bs) (N : Nat) {ι : Type} (fr : ι → Fr) (hp : ι → List HP) : Post := fun _ a w => ∃ i junk, a = mkA N (fr i) junk ∧ Sat β (hp i) w
theorem TriM.cut {ι : Type} {fr' : ι → Fr} {hp' : ι → List HP} {o : Oper} (pk : List Nat) (hop : ops[i]? = some o) (hg : o.guard = none) (h : TriL P β N #[o] 0 fr hps (NP (Mid β N fr' hp'))) (hn : nodupB pk = true) (hp : ∀ j, pickL (hp' j) pk = some S)
    (K : ∀ j, TriM P β N ops S 0 l (fr' j) (hp' j) Q) : TriM P β N ops S 0 (i :: l) fr hps Q := by
  intro junk w hS
  unfold wpMix
  refine wpOp_of_list hop hg ?_
  have h1 := h junk w hS
  have h2 : wpList P #[o] (NP (Mid β N fr' hp')) [o] (mkA N fr junk) w := h1
  refine wpList_np (fun a w ⟨j, junk', ha, hS'⟩ => ?_) h2
  subst ha
  exact ⟨.inr (hS'.pick hn (hp j)), K j junk' w hS'⟩
theorem TriM.last {o : Oper} (hop : ops[i]? = some o) (hg : o.guard = none) (h : TriL P β N #[o] 0 fr hps (NP Q)) : TriM P β N ops S 0 [i] fr hps Q := by
  intro junk w hS
  unfold wpMix
  refine wpOp_of_list hop hg ?_
  have h2 : wpList P #[o] (NP Q) [o] (mkA N fr junk) w := h junk w hS
  exact wpList_np (fun a w hq => ⟨.inl rfl, by unfold wpMix; exact hq⟩) h2
theorem TriQ.mid {ι : Type} {fr' : ι → Fr} {hp' : ι → List HP} (j : ι) {idx pk : List Nat} (hf : ∀ junk, pickF fr junk idx = fr' j) (hn : nodupB pk = true) (hp : pickL hps pk = some (hp' j)) : TriQ β N (NP (Mid β N fr' hp')) .normal fr hps :=
  fun junk _ hS => ⟨j, lk fr junk, by rw [mkA_pick N fr junk idx, hf junk], hS.pick hn hp⟩
theorem TriQ.np (h : TriQ β N Q .normal fr hps) : TriQ β N (NP Q) .normal fr hps := fun junk w hS => h junk w hS
section maps
open Go.Maps
variable {t K E : TypeId} {b cnt : Nat} {f : Lit → Option Value} {x ix : Operand} {key z : Value} {kl : Lit} {q : Option Value}
theorem TriM.mapLookOk (p : Nat) (hop : opI ops i = some (.lookup t x ix true, d)) (hp : S[p]? = some (.abs (MapA P K b f cnt))) (hx : ∀ junk, evF N fr junk x = .map (some b)) (hix : ∀ junk, evF N fr junk ix = key) (L : Keyed P K)
    (ht : P.underlying t = some (.map K E)) (hz : ∀ w, (zeroValue E).run P w = .ok z w) (hkey : keyOf P K key = some kl) (hr : f kl = q) (K' : TriM P β N ops S r l (putF fr d (.tuple #[q.getD z, .bool q.isSome])) hps Q) : TriM P β N ops S (r + 1) (i :: l) fr hps Q := by
  subst hr
  exact TriM.read1 hop (fun _ junk w ho hS => ran_lookOk ho (MapA.get hS hp) (hx junk) (hix junk) L ht (hz w) hkey) rfl K'
theorem TriM.mapLook (p : Nat) (hop : opI ops i = some (.lookup t x ix false, d)) (hp : S[p]? = some (.abs (MapA P K b f cnt))) (hx : ∀ junk, evF N fr junk x = .map (some b)) (hix : ∀ junk, evF N fr junk ix = key) (L : Keyed P K)
    (ht : P.underlying t = some (.map K E)) (hz : ∀ w, (zeroValue E).run P w = .ok z w) (hkey : keyOf P K key = some kl) (hr : f kl = q) (hv : plainV (q.getD z) = true) (K' : TriM P β N ops S r l (putF fr d (q.getD z)) hps Q) : TriM P β N ops S (r + 1) (i :: l) fr hps Q := by
  subst hr
  exact TriM.read1 hop (fun _ junk w ho hS => ran_look ho (MapA.get hS hp) (hx junk) (hix junk) L ht (hz w) hkey) hv K'
end maps
end mix
end Go.Proofs.Ytjpdcppdoonmdaa
end
/- part ShelfK. DERIVED: THE SHELF's CONTRACTS AT THIS DUMP, IN PLAIN WORDS (tools/lay-plain.mjs out of 'TryShelfK.lean', which tools/lay-shelf.mjs wrote): THE SAME DECLARATIONS UNDER THE SAME NAMES: 'import', 'namespace', 'open', 'def', 'theorem' AND NOTHING ELSE: no command of the shelf's: FOR A HAND-IN. Each laying: the table of numbers ('.._ren') and one theorem, a field a fact of the dump's own or the kernel's comparison; each contract: ONE APPLICATION. -/
section
namespace Go.Proofs
open Go.Shelf
def Try.keysI_ren : Go.Shelf.Ren := ⟨fun | 7 => 56 | 10 => 68 | n => n, fun | 23 => 96 | 26 => 3 | 3 => 98 | 28 => 102 | 0 => 0 | 27 => 101 | 33 => 117 | 4 => 4 | n => n, fun | n => n⟩
theorem Try.keysI : Go.Proofs.SlLaysZI.n7 Try.prog Try.keysI_ren := {
  mixed := by kernel_rfl
  f7 := ⟨Try.f56.name, by decide, Try.func56.trans (congrArg some (by kernel_rfl))⟩
  f10 := ⟨Try.f68.name, by decide, Try.func68.trans (congrArg some (by kernel_rfl))⟩
  t0 := Try.underlying0
  a0 := Try.isAgg0
  z0 := Try.sizeOf0
  v0 := Try.zeroValue0
  t4 := Try.underlying4
  a4 := Try.isAgg4
  z4 := Try.sizeOf4
  v4 := Try.zeroValue4
  t23 := Try.underlying96
  a23 := Try.isAgg96
  z23 := Try.sizeOf96
  v23 := Try.zeroValue96
  t26 := Try.underlying3
  a26 := Try.isAgg3
  z26 := Try.sizeOf3
  v26 := Try.zeroValue3
  t27 := Try.underlying101
  a27 := Try.isAgg101
  z27 := Try.sizeOf101
  v27 := Try.zeroValue101
  t28 := Try.underlying102
  a28 := Try.isAgg102
  z28 := Try.sizeOf102
  v28 := Try.zeroValue102
  t33 := Try.underlying117
  a33 := Try.isAgg117
  z33 := Try.sizeOf117
  v33 := Try.zeroValue117 }
def Try.sortedI_ren : Go.Shelf.Ren := ⟨fun | 6 => 55 | 8 => 66 | 9 => 67 | 11 => 74 | 13 => 76 | 12 => 75 | 23 => 88 | 24 => 89 | 14 => 79 | 15 => 80 | 16 => 81 | 17 => 82 | 18 => 83 | 19 => 84 | 20 => 85 | 21 => 86 | 22 => 87 | 25 => 92 | 26 => 93 | 27 => 94 | 28 => 95 | 29 => 96 | 30 => 97 | 31 => 103 | n => n, fun | 26 => 3 | 28 => 102 | 24 => 60 | 0 => 0 | 3 => 3 | 37 => 112 | 48 => 132 | 50 => 134 | 4 => 4 | 40 => 125 | 39 => 124 | 45 => 78 | 5 => 5 | 9 => 9 | 51 => 135 | 55 => 139 | 57 => 147 | 58 => 148 | 33 => 117 | n => n, fun | n => n⟩
theorem Try.sortedI : Go.Proofs.SlLaysZI.n6 Try.prog Try.sortedI_ren := {
  mixed := by kernel_rfl
  f6 := ⟨Try.f55.name, by decide, Try.func55.trans (congrArg some (by kernel_rfl))⟩
  f8 := ⟨Try.f66.name, by decide, Try.func66.trans (congrArg some (by kernel_rfl))⟩
  f11 := ⟨Try.f74.name, by decide, Try.func74.trans (congrArg some (by kernel_rfl))⟩
  t0 := Try.underlying0
  a0 := Try.isAgg0
  z0 := Try.sizeOf0
  v0 := Try.zeroValue0
  t24 := Try.underlying60
  a24 := Try.isAgg60
  z24 := Try.sizeOf60
  v24 := Try.zeroValue60
  t26 := Try.underlying3
  a26 := Try.isAgg3
  z26 := Try.sizeOf3
  v26 := Try.zeroValue3
  t28 := Try.underlying102
  a28 := Try.isAgg102
  z28 := Try.sizeOf102
  v28 := Try.zeroValue102
  i26 := by kernel_rfl }
def Try.sortI_ren : Go.Shelf.Ren := ⟨fun | 5 => 67 | 8 => 76 | 7 => 75 | 19 => 88 | 20 => 89 | 10 => 79 | 11 => 80 | 12 => 81 | 13 => 82 | 14 => 83 | 15 => 84 | 16 => 85 | 17 => 86 | 18 => 87 | 30 => 92 | 31 => 93 | 32 => 94 | 33 => 95 | 34 => 96 | 35 => 97 | 40 => 103 | n => n, fun | 23 => 60 | 25 => 3 | 3 => 3 | 32 => 112 | 22 => 60 | 0 => 0 | 44 => 132 | 46 => 134 | 4 => 4 | 36 => 125 | 35 => 124 | 41 => 78 | 5 => 5 | 9 => 9 | 53 => 135 | 57 => 139 | 63 => 147 | 64 => 148 | n => n, fun | n => n⟩
theorem Try.sortI : Go.Proofs.SlLaysM.n5 Try.prog Try.sortI_ren := {
  mixed := by kernel_rfl
  f5 := ⟨Try.f67.name, by decide, Try.func67.trans (congrArg some (by kernel_rfl))⟩
  f7 := ⟨Try.f75.name, by decide, Try.func75.trans (congrArg some (by kernel_rfl))⟩
  f8 := Try.func76.trans (congrArg some (by kernel_rfl))
  f10 := ⟨Try.f79.name, by decide, Try.func79.trans (congrArg some (by kernel_rfl))⟩
  f11 := ⟨Try.f80.name, by decide, Try.func80.trans (congrArg some (by kernel_rfl))⟩
  f12 := ⟨Try.f81.name, by decide, Try.func81.trans (congrArg some (by kernel_rfl))⟩
  f13 := ⟨Try.f82.name, by decide, Try.func82.trans (congrArg some (by kernel_rfl))⟩
  f14 := ⟨Try.f83.name, by decide, Try.func83.trans (congrArg some (by kernel_rfl))⟩
  f15 := ⟨Try.f84.name, by decide, Try.func84.trans (congrArg some (by kernel_rfl))⟩
  f16 := ⟨Try.f85.name, by decide, Try.func85.trans (congrArg some (by kernel_rfl))⟩
  f17 := ⟨Try.f86.name, by decide, Try.func86.trans (congrArg some (by kernel_rfl))⟩
  f18 := ⟨Try.f87.name, by decide, Try.func87.trans (congrArg some (by kernel_rfl))⟩
  f19 := Try.func88.trans (congrArg some (by kernel_rfl))
  f20 := Try.func89.trans (congrArg some (by kernel_rfl))
  f30 := ⟨Try.f92.name, by decide, Try.func92.trans (congrArg some (by kernel_rfl))⟩
  f31 := Try.func93.trans (congrArg some (by kernel_rfl))
  f32 := Try.func94.trans (congrArg some (by kernel_rfl))
  f33 := ⟨Try.f95.name, by decide, Try.func95.trans (congrArg some (by kernel_rfl))⟩
  f34 := ⟨Try.f96.name, by decide, Try.func96.trans (congrArg some (by kernel_rfl))⟩
  f35 := ⟨Try.f97.name, by decide, Try.func97.trans (congrArg some (by kernel_rfl))⟩
  f40 := ⟨Try.f103.name, by decide, Try.func103.trans (congrArg some (by kernel_rfl))⟩
  t0 := Try.underlying0
  a0 := Try.isAgg0
  z0 := Try.sizeOf0
  v0 := Try.zeroValue0
  t3 := Try.underlying3
  a3 := Try.isAgg3
  z3 := Try.sizeOf3
  v3 := Try.zeroValue3
  t4 := Try.underlying4
  a4 := Try.isAgg4
  z4 := Try.sizeOf4
  v4 := Try.zeroValue4
  t5 := Try.underlying5
  a5 := Try.isAgg5
  z5 := Try.sizeOf5
  v5 := Try.zeroValue5
  t9 := Try.underlying9
  a9 := Try.isAgg9
  z9 := Try.sizeOf9
  v9 := Try.zeroValue9
  t22 := Try.underlying60
  a22 := Try.isAgg60
  z22 := Try.sizeOf60
  v22 := Try.zeroValue60
  t23 := Try.underlying60
  a23 := Try.isAgg60
  z23 := Try.sizeOf60
  v23 := Try.zeroValue60
  t25 := Try.underlying3
  a25 := Try.isAgg3
  z25 := Try.sizeOf3
  v25 := Try.zeroValue3
  t32 := Try.underlying112
  a32 := Try.isAgg112
  z32 := Try.sizeOf112
  v32 := Try.zeroValue112
  t35 := Try.underlying124
  a35 := Try.isAgg124
  z35 := Try.sizeOf124
  v35 := Try.zeroValue124
  t36 := Try.underlying125
  a36 := Try.isAgg125
  z36 := Try.sizeOf125
  v36 := Try.zeroValue125
  t41 := Try.underlying78
  a41 := Try.isAgg78
  z41 := Try.sizeOf78
  v41 := Try.zeroValue78
  t44 := Try.underlying132
  a44 := Try.isAgg132
  z44 := Try.sizeOf132
  v44 := Try.zeroValue132
  t46 := Try.underlying134
  a46 := Try.isAgg134
  z46 := Try.sizeOf134
  v46 := Try.zeroValue134
  t53 := Try.underlying135
  a53 := Try.isAgg135
  z53 := Try.sizeOf135
  v53 := Try.zeroValue135
  t57 := Try.underlying139
  a57 := Try.isAgg139
  z57 := Try.sizeOf139
  v57 := Try.zeroValue139
  t63 := Try.underlying147
  a63 := Try.isAgg147
  z63 := Try.sizeOf147
  v63 := Try.zeroValue147
  t64 := Try.underlying148
  a64 := Try.isAgg148
  z64 := Try.sizeOf148
  v64 := Try.zeroValue148 }
end Go.Proofs
end
/- part GKs. PROVED HERE: slices.Sorted(maps.Keys(m)) for a map of numbers, in the logic's form. CONDITIONS: none. No statement of the seat is proved here. -/
section
namespace Go.Proofs.Ytjpdcppdoonmdaa
open Go.RowKit Go.Maps Go.Sort Go.Shelf
theorem sortsI (m : Nat) : AnyZI.SortsIn Try.prog Try.sortedI_ren Fence.wide m :=
  ⟨fun blk off cap ss W hH hblk hsz => callsIn_wide.2 (AnyM.slices_Sort_int Try.sortI blk off cap ss W hH hblk hsz),
   fun p cap W => callsIn_wide.2 (AnyM.slices_Sort_int_none Try.sortI p cap W)⟩
/-- the iterator over a map's keys -/
def keysFn (bk : Nat) : Value := .func (.func 68) #[] #[.pointer (some ⟨bk, 0, none⟩)]
theorem sp_keysI {β : Bs} (mb : Option Nat) : Spec Try.prog β 56 #[.map mb] [] (fun v l => ∃ bk, v = keysFn bk ∧ l = [.blk bk [.map mb] 96]) :=
  Spec.of0new fun W _ => by
    have h : CallsIn Fence.wide 5 Try.prog 56 #[.map mb] W fun e w' => e = .returned (keysFn W.heap.size) ∧ w' = W.alloc (.cells #[.map mb] 96) := AnyZI.keys_in Try.keysI Fence.wide 5 trivial rfl mb W
    refine ((callsIn_wide (n := 5)).1 h).mono ?_
    rintro e w' ⟨rfl, rfl⟩
    refine ⟨_, _, rfl, ⟨W.heap.size, rfl, rfl⟩, (Keeps.refl _ _).alloc _, fun k => k = W.heap.size, ⟨?_, fun k => Iff.rfl⟩, fun k hk => Nat.le_of_eq hk.symm⟩
    show (W.heap.push _)[W.heap.size]? = _
    simp
/-- what a map of numbers holds, as a rising list -/
structure KeysOf (f : Lit → Option Value) (ss : List Int) : Prop where
  mem : ∀ z, z ∈ ss ↔ (f (.int .i64 z)).isSome = true
  sorted : ss.Pairwise (· < ·)
theorem intKeys_of {w : World} {b n : Nat} {K : TypeId} {f : Lit → Option Value} {D : DataW Value} (hK : Try.prog.underlying K = some (.int .i64)) (L : Keyed Try.prog K) (hown : w.ownsMap Try.prog K heldR b n D) (hf : ∀ kl, Maps.has D kl = (f kl).isSome) {ss : List Int} (hp : ss.Perm (intKeys D)) :
    KeysOf f (ss.mergeSort (fun x y => decide (x ≤ y))) := by
  obtain ⟨es, hD, hpw, _⟩ := hown.entries L
  obtain ⟨es', hD', hko⟩ := hown.keysOf
  obtain rfl : es = es' := by rw [hD] at hD'; simpa using hD'
  have hk : ∀ p ∈ es, ∃ x, p.1 = .int .i64 x := fun p hp => by
    obtain ⟨v, hv⟩ := hko p hp
    obtain ⟨x, _, h, _⟩ := keyOf_i64 hK hv
    exact ⟨x, h⟩
  have hmem : ∀ z, z ∈ intKeys D ↔ (f (.int .i64 z)).isSome = true := fun z => by
    rw [← hf, hD]
    show z ∈ es.map (fun p => Go.intOf p.1) ↔ es.any (fun p => p.1.sameKey (.int .i64 z)) = true
    rw [List.mem_map, List.any_eq_true]
    refine ⟨fun ⟨p, hp, e⟩ => ⟨p, hp, ?_⟩, fun ⟨p, hp, e⟩ => ⟨p, hp, ?_⟩⟩
    · obtain ⟨x, hx⟩ := hk p hp
      rw [hx] at e ⊢
      have e : x = z := e
      simp [Lit.sameKey, e]
    · obtain ⟨x, hx⟩ := hk p hp
      rw [hx] at e ⊢
      show x = z
      simpa [Lit.sameKey] using e
  have hnd : (intKeys D).Nodup := by
    rw [hD]
    show (es.map fun p => Go.intOf p.1).Nodup
    rw [List.nodup_iff_pairwise_ne, List.pairwise_map]
    refine hpw.imp_of_mem (fun {p q} hp hq hne e => hne ?_)
    obtain ⟨x, hx⟩ := hk p hp
    obtain ⟨y, hy⟩ := hk q hq
    rw [hx, hy] at e ⊢
    have e : x = y := e
    rw [e]
  have tr : ∀ a b c : Int, decide (a ≤ b) = true → decide (b ≤ c) = true → decide (a ≤ c) = true := fun a b c h1 h2 => by simp only [decide_eq_true_eq] at *; omega
  have to : ∀ a b : Int, (decide (a ≤ b) || decide (b ≤ a)) = true := fun a b => by simp only [Bool.or_eq_true, decide_eq_true_eq]; omega
  have hperm := (List.mergeSort_perm ss (fun x y => decide (x ≤ y))).trans hp
  refine ⟨fun z => by rw [hperm.mem_iff, hmem], ?_⟩
  have h1 := List.pairwise_mergeSort tr to ss
  have h2 : (ss.mergeSort (fun x y => decide (x ≤ y))).Nodup := hperm.nodup_iff.2 hnd
  rw [List.nodup_iff_pairwise_ne] at h2
  refine (h1.and h2).imp (fun {a b} h => ?_)
  have h3 := h.1
  have h4 := h.2
  simp only [decide_eq_true_eq] at h3
  omega
theorem sp_sortedI {β : Bs} (b bk n : Nat) (f : Lit → Option Value) (hn : n ≤ 16777216) :
    Spec Try.prog β 55 #[keysFn bk] [.abs (MapA Try.prog 3 b f n), .blk bk [.map (some b)] 96] (fun v l => ∃ A cap ss, v = .slice A ss.length cap ∧ KeysOf f ss ∧ ss.length = n ∧
      l = [.abs (MapA Try.prog 3 b f n), .blk bk [.map (some b)] 96, .abs (RowA 3 1 A ss.length cap (intsV ss))]) := by
  intro R w hS
  obtain ⟨F1, h1⟩ := hS.get (i := 0) (p := .abs (MapA Try.prog 3 b f n)) rfl
  obtain ⟨F2, h2⟩ := hS.get (i := 1) (p := .blk bk [.map (some b)] 96) rfl
  obtain ⟨D, hown, hsz, hhas, _⟩ := h1.1
  have hcell : w.cell? ⟨bk, 0, none⟩ = some (.map (some b)) := (cell_of_blk h2.1 rfl rfl rfl).1
  have hseq : SeqGives Fence.wide 2 Try.prog 68 #[.pointer (some ⟨bk, 0, none⟩)] encZ (fun ss => ss.Perm (intKeys D)) (Maps.size D) w :=
    AnyZI.keys_gives (ρ := Try.keysI_ren) { Try.keysI with } Fence.wide _ trivial rfl (by omega) bk b n D w (lt_of_some h2.1) hcell hown
  have cS := AnyZI.sorted_in Try.sortedI Fence.wide 5 trivial trivial trivial trivial rfl (by omega) (sortsI _) (enters_of Try.func67 (by kernel_rfl) rfl) 68 #[.pointer (some ⟨bk, 0, none⟩)] trivial (enters_of Try.func68 (by kernel_rfl) rfl) _ _ (by rw [hsz]; unfold maxLen; omega) (by rw [hsz]; omega) _ hseq
  change CallsIn _ _ Try.prog 55 _ _ _ at cS
  refine ((callsIn_wide (n := 5)).1 cS).mono ?_
  rintro e w' ⟨v, ss, rfl, hp, hrow, hnil, hb⟩
  have hlen : (ss.mergeSort (fun x y => decide (x ≤ y))).length = ss.length := List.length_mergeSort ss
  have hkeys := intKeys_of Try.underlying3 lawI hown hhas hp
  have hshape : ∃ A cap, v = .slice A ss.length cap := by
    rcases hrow.2 with ⟨e1, e2⟩ | ⟨g, cp, cur, e1, _⟩
    · exact ⟨none, 0, by rw [e1, e2]⟩
    · exact ⟨_, cp, e1⟩
  obtain ⟨A, cap, rfl⟩ := hshape
  have hn1 : ss.length = n := by
    rw [hp.length_eq, ← hsz]
    obtain ⟨es, hD, _⟩ := hown.entries lawI
    rw [hD]
    exact List.length_map ..
  have hq : Sat β ([.abs (MapA Try.prog 3 b f n), .blk bk [.map (some b)] 96, .abs R] ++ [.abs (RowA 3 1 A ss.length cap (intsV (ss.mergeSort (fun x y => decide (x ≤ y)))))]) w' := by
    refine Sat.new (F := fun k => (Value.slice A ss.length cap).ownBlock = some k) hS ⟨?_, fun k => Iff.rfl⟩ ⟨hb.os, hb.tape, hb.output, hb.size, fun k hk _ => hb.block k hk⟩ (fun k hk => (hrow.lt k hk).1)
    refine ⟨hrow.1, ?_⟩
    rcases hrow.2 with h | ⟨g, cp, cur, e1, _, h3, h4⟩
    · exact .inl h
    · exact .inr ⟨g, cp, cur, e1, Nat.zero_le _, h3, h4⟩
  refine ⟨_, [.abs (MapA Try.prog 3 b f n), .blk bk [.map (some b)] 96, .abs (RowA 3 1 A ss.length cap (intsV (ss.mergeSort (fun x y => decide (x ≤ y)))))], rfl, ⟨A, cap, ss.mergeSort (fun x y => decide (x ≤ y)), by rw [hlen], hkeys, by rw [hlen]; exact hn1, by rw [hlen]⟩, ?_⟩
  exact hq.pick (idx := [0, 1, 3, 2]) rfl rfl
end Go.Proofs.Ytjpdcppdoonmdaa
end
/- part Row. PROVED HERE: a law's last step: it returned true, and nothing of old has turned: so the row holds. CONDITIONS: none. -/
section
namespace Go.Proofs.Ytjpdcppdoonmdaa
open Go.RowKit Go.WideShapes Go.ChangeShapes Go.ChangeAt Go.Deep
theorem laidOut : laidOutB Try.prog = true := by kernel_rfl
theorem own : ownKnob Try.prog.godebug = none := by kernel_rfl
section row
variable {H : Type} {enc : TypeId × Value → H} {P : Program}
theorem trodAll_stays (hl : laidOutB P = true) {W W' : World} (hb : Below W.heap.size W W') {sp : Nat → Bool} : ∀ {ts : List TypeId} {vs : List Value} {ds : List (DataW H)} {ps : List MemPlace},
    (∀ t ∈ ts, P.readableRec t = true ∧ t < P.types.size) → DataW.TrodAll enc P W 0 (fun _ => true) true ts vs ds ps → (∀ x ∈ ps, x.block < W.heap.size) → (∀ x ∈ ps, sp x.block = true) → DataW.TrodAll enc P W' 0 sp true ts vs ds ps
  | [], vs, ds, ps, _, h, _, _ => by
    obtain ⟨rfl, rfl, rfl⟩ := trodAll_nil h
    exact trodAll_mk0
  | t :: ts, vs, ds, ps, hr, h, hlt, hsp => by
    obtain ⟨v, vs', d, ds', p, q, rfl, rfl, rfl, h1, h2⟩ := trodAll_cons h
    have h3 := hr t List.mem_cons_self
    exact trodAll_cons_mk (WideElems.Trod_stays hl h3.1 h3.2 h1 (fun x hx => hb.same (hlt x (List.mem_append.2 (.inl hx)))) (fun x hx => hsp x (List.mem_append.2 (.inl hx))))
      (trodAll_stays hl hb (fun t ht => hr t (List.mem_cons_of_mem _ ht)) h2 (fun x hx => hlt x (List.mem_append.2 (.inr hx))) (fun x hx => hsp x (List.mem_append.2 (.inr hx))))
def rowB (P : Program) (f : Func) : Bool := f.params.toList.all fun t => P.readableRec t && decide (t < P.types.size)
/-- the call returned true and left all of old as it was -/
theorem law_post (hl : laidOutB P = true) {f : Func} {s : ChangeSpec} {apart fresh handsOn again : Bool} {W W' : World} {args : Array Value} {ds gs : List (DataW H)} {before : List MemPlace} {tb : TypeId} {rb : Bool}
    (hW : DataW.Whole enc P f.params.toList s.vars apart W args.toList ds gs before) (hvars : s.vars = []) (hrow : rowB P f = true) (hres : f.resultTypes = #[tb]) (hb0 : P.underlying tb = some .bool)
    (hfn : (s.fn H (ds ++ gs)).results = [.lit (.bool rb)]) (hargs : (s.fn H (ds ++ gs)).args = ds) (hv : (s.fn H (ds ++ gs)).vars = []) (hb : Below W.heap.size W W') :
    s.post enc P f apart fresh handsOn again W args (.bool rb) W' := by
  have hW' := hW
  obtain ⟨p, q, hA, hV, rfl, _, _⟩ := hW
  rw [hvars] at hV
  obtain ⟨rfl, rfl⟩ := trodVars_none hV
  have hlt : ∀ x ∈ p, x.block < W.heap.size := fun x hx => hW'.lt x (List.mem_append.2 (.inl hx))
  have hr : ∀ t ∈ f.params.toList, P.readableRec t = true ∧ t < P.types.size := fun t ht => by
    have := List.all_eq_true.1 hrow t ht
    simpa using this
  refine post_of_below (pa := p) (pv := []) hW' (fun b sp hd => ?_) (fun sp hsp => ?_) (fun sp _ => ?_) (by simp) hb ?_
  · rw [hfn, hres]
    exact trodAll_cons_mk (shut_bool hb0 _) trodAll_mk0
  · rw [hargs]
    exact trodAll_stays hl hb hr hA hlt (fun x hx => hsp x (List.mem_append.2 (.inl hx)))
  · rw [hvars, hv]
    exact rfl
  · exact ok_one hres rfl (okWide_bool_mk hb0 _)
end row
end Go.Proofs.Ytjpdcppdoonmdaa
end
/- part GO. PROVED HERE: a graph, as the row hands it over, lies in memory like GraphAt says; its sizes by the bulk. CONDITIONS: none. -/
section
namespace Go.Proofs.Ytjpdcppdoonmdaa
open Go.RowKit Go.WideShapes Go.ChangeShapes Go.ChangeAt Go.Deep
abbrev B0 (W : World) : Bs := ⟨(· < W.heap.size), W⟩
theorem cell_lt {w : World} {a : Addr} {v : Value} (h : w.cell? a = some v) : a.block < w.heap.size := by
  unfold World.cell? at h
  split at h
  · rename_i hb; exact lt_of_some hb
  · cases h
theorem cell_spot {w : World} {a : Addr} {v : Value} (h : w.cell? a = some v) : a.spot = none := by
  unfold World.cell? at h
  split at h
  · split at h
    · cases h
    · rename_i h0
      cases hs : a.spot with
      | none => rfl
      | some x => rw [hs] at h0; exact absurd rfl h0
  · cases h
theorem add_plain {a : Addr} (k : Nat) (h : a.spot = none) : a.add k = ⟨a.block, a.off + k, none⟩ := by
  obtain ⟨b, o, s⟩ := a
  cases h
  unfold Addr.add
  split
  · rename_i h0; subst h0; rfl
  · rfl
theorem bulk_get {H : Type} {D : Nat → DataW H} {n i : Nat} (hi : i < n) : Rows.uptoBulk (D i) ≤ Rows.uptoBulkAll ((List.range n).map D) := by
  have hm : D i ∈ (List.range n).map D := List.mem_map.2 ⟨i, List.mem_range.2 hi, rfl⟩
  generalize (List.range n).map D = l at hm
  induction l with
  | nil => cases hm
  | cons x r ih =>
    simp only [Rows.uptoBulkAll]
    rcases List.mem_cons.1 hm with e | hm
    · subst e; omega
    · have := ih hm; omega
theorem bulk_pos {H : Type} (d : DataW H) : 1 ≤ Rows.uptoBulk d := by
  cases d with
  | lit l => cases l <;> simp [Rows.uptoBulk]
  | nil => simp [Rows.uptoBulk]
  | ptr d => simp [Rows.uptoBulk]
  | slice elems spare => simp [Rows.uptoBulk]
  | agg parts => simp [Rows.uptoBulk]
  | iface t d => simp [Rows.uptoBulk]
  | map entries => simp [Rows.uptoBulk]
  | held h => simp [Rows.uptoBulk]
theorem bulk_len {H : Type} (l : List (DataW H)) : l.length ≤ Rows.uptoBulkAll l := by
  induction l with
  | nil => simp [Rows.uptoBulkAll]
  | cons x r ih => have := bulk_pos x; simp only [Rows.uptoBulkAll, List.length_cons]; omega
theorem bulk_mem {H : Type} {d : DataW H} {l : List (DataW H)} (h : d ∈ l) : Rows.uptoBulk d ≤ Rows.uptoBulkAll l := by
  induction l with
  | nil => cases h
  | cons x r ih =>
    simp only [Rows.uptoBulkAll]
    rcases List.mem_cons.1 h with e | h
    · subst e; omega
    · have := ih h; omega
section open_
variable {H : Type} {enc : TypeId × Value → H} {P : Program} {W : World} {sp : Nat → Bool}
/-- a slice whose elements are told by f: it lies in memory like a row of the base -/
theorem open_row {α : Type} [Inhabited α] {t e : TypeId} {size : Nat} {f : α → List Value} {Q : α → DataW H → Prop} (ht : P.underlying t = some (.slice e)) (hC : P.cellsOf e = size) (h0 : 0 < size)
    (hel : ∀ n cs x, DataW.trod enc P W 0 sp true n e cs = some x → ∃ a, cs = f a ∧ Q a x.1) (hf : ∀ a, (f a).length = size)
    {fuel : Nat} {cs : List Value} {x : DataW H × List MemPlace} (h : DataW.trod enc P W 0 sp true fuel t cs = some x) :
    ∃ A c, ∃ xs : List α, ∃ D : Nat → DataW H, cs = [.slice A xs.length c] ∧ xs.length ≤ c ∧ c ≤ maxLen ∧ RowB (B0 W) A (flatF (fun _ a => f a) 0 xs) ∧ (∀ i, i < xs.length → Q (xs.getD i default) (D i)) ∧
      Rows.uptoBulkAll ((List.range xs.length).map D) + 1 ≤ Rows.uptoBulk x.1 := by
  rcases open_slice ht h with ⟨hv, hx⟩ | ⟨a, len, cap, m, n, D, Pl, hcs, hb, hl, hm, hmm, hx, hi⟩
  · subst hv
    refine ⟨none, 0, [], fun _ => .nil, rfl, Nat.le_refl _, Nat.zero_le _, fun j v hj => by simp [flatF] at hj, fun i hi => absurd hi (Nat.not_lt_zero i), ?_⟩
    rw [hx]
    simp [Rows.uptoBulk, Rows.uptoBulkAll]
  · have hlm : len ≤ m := by rw [hmm]; split <;> omega
    have hch : ∀ i, ∃ b : α, i < len → (W.cells? 0 (a.add (i * P.cellsOf e)) (P.cellsOf e) = some (f b) ∧ Q b (D i)) := fun i => by
      by_cases hil : i < len
      · obtain ⟨cs', h1, h2⟩ := hi i (by omega)
        obtain ⟨b, rfl, h3⟩ := hel _ _ _ h2
        exact ⟨b, fun _ => ⟨h1, h3⟩⟩
      · exact ⟨default, fun h => absurd h hil⟩
    have hg := fun i => Classical.choose_spec (hch i)
    generalize hG : (fun i => Classical.choose (hch i)) = g at hg
    have hg : ∀ i, i < len → W.cells? 0 (a.add (i * P.cellsOf e)) (P.cellsOf e) = some (f (g i)) ∧ Q (g i) (D i) := fun i hi => by
      have h1 := hg i hi
      have h2 : Classical.choose (hch i) = g i := congrFun hG i
      rw [h2] at h1
      exact h1
    have hlen : ((List.range len).map g).length = len := by simp
    have hget : ∀ i, i < len → ((List.range len).map g)[i]? = some (g i) := fun i hi => by simp [hi]
    have hgetD : ∀ i, i < len → ((List.range len).map g).getD i default = g i := fun i hi => by rw [List.getD_eq_getElem?_getD, hget i hi]; rfl
    have hs1 : 0 < len → a.spot = none := fun hl0 => by
      obtain ⟨h2, -⟩ := hg 0 hl0
      rw [hC] at h2
      obtain ⟨_, hcl, hat⟩ := World.cells?_some h2
      have h3 := hat 0 h0
      rw [List.getElem?_eq_getElem (by rw [hcl]; exact h0)] at h3
      have e : (a.add (0 * size)).add 0 = a := by rw [Nat.zero_mul]; rfl
      rw [e] at h3
      exact cell_spot h3
    refine ⟨some a, cap, (List.range len).map g, D, by rw [hlen]; exact hcs, by rw [hlen]; exact hl, hm, fun j v hj => ?_, fun i hi' => ?_, ?_⟩
    · have hfl := flatF_len (f := fun _ a => f a) (s := size) (fun _ a => hf a) ((List.range len).map g) 0
      have hjl := len_of_some hj
      rw [hfl, hlen] at hjl
      have hj1 : j / size < len := (Nat.div_lt_iff_lt_mul h0).2 hjl
      have hj2 : j % size < size := Nat.mod_lt _ h0
      have e := Nat.div_add_mod j size
      rw [Nat.mul_comm] at e
      have h1 := flatF_get (f := fun _ a => f a) (s := size) (fun _ a => hf a) _ 0 _ (j % size) _ (hget _ hj1) hj2
      rw [e, hj] at h1
      obtain ⟨h2, -⟩ := hg _ hj1
      rw [hC] at h2
      obtain ⟨_, _, hat⟩ := World.cells?_some h2
      have h3 := hat _ hj2
      rw [← h1] at h3
      have hs1 := hs1 (Nat.lt_of_le_of_lt (Nat.zero_le _) hj1)
      rw [add_plain _ hs1] at h3
      rw [add_plain (a := ⟨a.block, a.off + j / size * size, none⟩) _ rfl] at h3
      have e2 : a.off + j / size * size + j % size = a.off + j := by omega
      have h4 : W.cell? ⟨a.block, a.off + j, none⟩ = some v := by rw [← e2]; exact h3
      have ea : (some a : Option Addr) = some ⟨blkOf (some a), offOf (some a), none⟩ := by
        obtain ⟨b, o, s⟩ := a
        cases hs1
        rfl
      exact ⟨ea, cell_lt h4, h4⟩
    · rw [hlen] at hi'
      rw [hgetD i hi']
      exact (hg i hi').2
    · rw [hx, hlen]
      simp only [Rows.uptoBulk]
      omega
theorem open_u8 {t : TypeId} {n : Nat} {cs : List Value} {x : DataW H × List MemPlace} (ht : P.underlying t = some (.int .u8)) (h : DataW.trod enc P W 0 sp true n t cs = some x) : ∃ b : UInt8, cs = [byteV b] ∧ True := by
  obtain ⟨z, h1, _, h3⟩ := DataW.trod_int ht h
  have h4 : 0 ≤ z ∧ z ≤ 255 := by simpa [Lit.wf, IntKind.min, IntKind.max, IntKind.signed, IntKind.bits] using h3
  refine ⟨UInt8.ofNat z.toNat, ?_, trivial⟩
  have e : (((UInt8.ofNat z.toNat).toNat : Nat) : Int) = z := by
    rw [UInt8.toNat_ofNat']
    omega
  rw [byteV, e]
  exact h1
def I64 (z : Int) : Prop := -9223372036854775808 ≤ z ∧ z ≤ 9223372036854775807
theorem i64_of {z : Int} (h : (Lit.int .i64 z).wf = true) : I64 z := by
  unfold I64
  simpa [Lit.wf, IntKind.min, IntKind.max, IntKind.signed, IntKind.bits] using h
theorem open_i64 {t : TypeId} {n : Nat} {c : Value} {x : DataW H × List MemPlace} (ht : P.underlying t = some (.int .i64)) (h : DataW.trod enc P W 0 sp true n t [c] = some x) : ∃ z, c = .int .i64 z ∧ I64 z := by
  obtain ⟨z, h1, _, h3⟩ := DataW.trod_int ht h
  cases h1
  exact ⟨z, rfl, by unfold I64; simpa [Lit.wf, IntKind.min, IntKind.max, IntKind.signed, IntKind.bits] using h3⟩
set_option maxRecDepth 100000 in
theorem open_str {t : TypeId} {n : Nat} {c : Value} {x : DataW H × List MemPlace} (ht : P.underlying t = some .string) (h : DataW.trod enc P W 0 sp true n t [c] = some x) : ∃ s : ByteArray, c = .string s ∧ s.size + 1 ≤ Rows.uptoBulk x.1 := by
  obtain ⟨s, h1, h2, _⟩ := DataW.trod_string ht h
  cases h1
  refine ⟨s, rfl, ?_⟩
  rw [h2]
  simp only [Rows.uptoBulk, Array.length_toList]
  exact Nat.le_refl _
end open_
section graph
variable {H : Type} {enc : TypeId × Value → H} {W : World} {sp : Nat → Bool}
theorem bytes_flat : ∀ (d : List UInt8) (k : Nat), flatF (fun _ b => [byteV b]) k d = bytesV d
  | [], _ => rfl
  | b :: r, k => by rw [flatF, bytes_flat r (k + 1)]; rfl
set_option maxRecDepth 100000 in
theorem open_bytes {n : Nat} {c : Value} {x : DataW H × List MemPlace} (h : DataW.trod enc Try.prog W 0 sp true n 29 [c] = some x) :
    ∃ A cp, ∃ d : List UInt8, c = .slice A d.length cp ∧ BytesAt (B0 W) A d ∧ d.length + 1 ≤ Rows.uptoBulk x.1 := by
  obtain ⟨A, cp, xs, D, h1, _, _, h2, _, h3⟩ := open_row (α := UInt8) (f := fun b => [byteV b]) (Q := fun _ _ => True) Try.underlying29 (size := 1) (by kernel_rfl) (by decide) (fun n cs x h => open_u8 Try.underlying5 h) (fun _ => rfl) h
  cases h1
  have := bulk_len ((List.range xs.length).map D)
  refine ⟨A, cp, xs, rfl, ?_, by simp at this; omega⟩
  rw [bytes_flat] at h2
  exact h2
structure EntB (e : EntM) (b : Nat) : Prop where
  id : I64 e.id
  name : e.name.size + 1 ≤ b
theorem trod_field {n : Nat} {cs : List Value} {xs : List (DataW H × List MemPlace)} {i : Nat} {t : TypeId} (h : DataW.trod enc Try.prog W 0 sp true n t cs = xs[i]?) (hi : i < xs.length) : DataW.trod enc Try.prog W 0 sp true n t cs = some xs[i] ∧ Rows.uptoBulk (xs[i]).1 ≤ Rows.uptoBulk (.agg (xs.map (·.1))) := by
  refine ⟨h.trans (List.getElem?_eq_getElem hi), ?_⟩
  have hm : (xs[i]).1 ∈ xs.map (·.1) := List.mem_map.2 ⟨xs[i], List.getElem_mem hi, rfl⟩
  have := bulk_mem hm
  simp only [Rows.uptoBulk]
  omega
set_option maxRecDepth 100000 in
theorem open_ent {n : Nat} {cs : List Value} {x : DataW H × List MemPlace} (h : DataW.trod enc Try.prog W 0 sp true n 72 cs = some x) : ∃ e : EntM, cs = entV e ∧ EntB e (Rows.uptoBulk x.1) := by
  obtain ⟨ys, m, _, hx, hl, hyl, hf⟩ := DataW.trod_struct Try.underlying72 h
  have hC : Try.prog.cellsOf 72 = 2 := by kernel_rfl
  rw [hC] at hl
  match cs, hl with
  | [c0, c1], _ =>
    obtain ⟨h0, b0⟩ := trod_field (hf 0 _ rfl) (by rw [hyl]; decide)
    obtain ⟨h1, _⟩ := trod_field (hf 1 _ rfl) (by rw [hyl]; decide)
    obtain ⟨s, rfl, hs⟩ := open_str Try.underlying9 h0
    obtain ⟨z, rfl, hz⟩ := open_i64 Try.underlying3 h1
    exact ⟨⟨s, z⟩, rfl, ⟨hz, by rw [hx]; exact Nat.le_trans hs b0⟩⟩
set_option maxRecDepth 100000 in
theorem open_ents {n : Nat} {c : Value} {x : DataW H × List MemPlace} (h : DataW.trod enc Try.prog W 0 sp true n 30 [c] = some x) :
    ∃ A cp, ∃ es : List EntM, c = .slice A es.length cp ∧ EntsAt (B0 W) A es ∧ es.length + 1 ≤ Rows.uptoBulk x.1 ∧ ∀ i, i < es.length → EntB (en es i) (Rows.uptoBulk x.1) := by
  obtain ⟨A, cp, xs, D, h1, _, _, h2, h4, h3⟩ := open_row (α := EntM) (f := entV) (Q := fun e d => EntB e (Rows.uptoBulk d)) Try.underlying30 (size := 2) (by kernel_rfl) (by decide) (fun n cs x h => open_ent h) (fun _ => rfl) h
  cases h1
  have h5 := bulk_len ((List.range xs.length).map D)
  refine ⟨A, cp, xs, rfl, h2, by simp at h5; omega, fun i hi => ⟨(h4 i hi).id, ?_⟩⟩
  have h6 := (h4 i hi).name
  have h7 := bulk_get (D := D) hi
  unfold en
  omega
structure NodeB (nd : NodeM) (b : Nat) : Prop where
  ids : I64 nd.id ∧ I64 nd.kind ∧ I64 nd.mode ∧ I64 nd.uid ∧ I64 nd.gid ∧ I64 nd.sec ∧ I64 nd.nano
  data : nd.data.length + 1 ≤ b
  target : nd.target.size + 1 ≤ b
  ents : nd.ents.length + 1 ≤ b
  ent : ∀ i, i < nd.ents.length → EntB (en nd.ents i) b
structure NodeL where
  n : NodeM
  dA : Option Addr
  dC : Nat
  eA : Option Addr
  eC : Nat
deriving Inhabited
def nlV (a : NodeL) : List Value := [.int .i64 a.n.id, .int .i64 a.n.kind, .int .i64 a.n.mode, .int .i64 a.n.uid, .int .i64 a.n.gid, .int .i64 a.n.sec, .int .i64 a.n.nano, .slice a.dA a.n.data.length a.dC, .string a.n.target, .slice a.eA a.n.ents.length a.eC]
structure NodeQ (W : World) (a : NodeL) (b : Nat) : Prop where
  nb : NodeB a.n b
  data : BytesAt (B0 W) a.dA a.n.data
  ents : EntsAt (B0 W) a.eA a.n.ents
set_option maxRecDepth 100000 in
theorem open_node {n : Nat} {cs : List Value} {x : DataW H × List MemPlace} (h : DataW.trod enc Try.prog W 0 sp true n 32 cs = some x) : ∃ a : NodeL, cs = nlV a ∧ NodeQ W a (Rows.uptoBulk x.1) := by
  obtain ⟨ys, m, _, hx, hl, hyl, hf⟩ := DataW.trod_struct Try.underlying32 h
  have hC : Try.prog.cellsOf 32 = 10 := by kernel_rfl
  rw [hC] at hl
  match cs, hl with
  | [c0, c1, c2, c3, c4, c5, c6, c7, c8, c9], _ =>
    obtain ⟨h0, _⟩ := trod_field (hf 0 _ rfl) (by rw [hyl]; decide)
    obtain ⟨h1, _⟩ := trod_field (hf 1 _ rfl) (by rw [hyl]; decide)
    obtain ⟨h2, _⟩ := trod_field (hf 2 _ rfl) (by rw [hyl]; decide)
    obtain ⟨h3, _⟩ := trod_field (hf 3 _ rfl) (by rw [hyl]; decide)
    obtain ⟨h4, _⟩ := trod_field (hf 4 _ rfl) (by rw [hyl]; decide)
    obtain ⟨h5, _⟩ := trod_field (hf 5 _ rfl) (by rw [hyl]; decide)
    obtain ⟨h6, b6⟩ := trod_field (hf 6 _ rfl) (by rw [hyl]; decide)
    obtain ⟨h7, b7⟩ := trod_field (hf 7 _ rfl) (by rw [hyl]; decide)
    obtain ⟨h8, b8⟩ := trod_field (hf 8 _ rfl) (by rw [hyl]; decide)
    obtain ⟨z0, rfl, w0⟩ := open_i64 Try.underlying3 h0
    obtain ⟨z1, rfl, w1⟩ := open_i64 Try.underlying3 h1
    obtain ⟨z2, rfl, w2⟩ := open_i64 Try.underlying3 h2
    obtain ⟨z3, rfl, w3⟩ := open_i64 Try.underlying3 h3
    obtain ⟨z4, rfl, w4⟩ := open_i64 Try.underlying3 h4
    obtain ⟨us, _, _, _, _, hul, hu⟩ := DataW.trod_struct Try.underlying28 h5
    obtain ⟨g0, _⟩ := trod_field (hu 0 _ rfl) (by rw [hul]; decide)
    obtain ⟨g1, _⟩ := trod_field (hu 1 _ rfl) (by rw [hul]; decide)
    obtain ⟨z5, rfl, w5⟩ := open_i64 (c := c5) Try.underlying3 g0
    obtain ⟨z6, rfl, w6⟩ := open_i64 (c := c6) Try.underlying3 g1
    obtain ⟨A7, p7, d7, rfl, q7, l7⟩ := open_bytes (c := c7) h6
    obtain ⟨s8, rfl, l8⟩ := open_str (c := c8) Try.underlying9 h7
    obtain ⟨A9, p9, e9, rfl, q9, l9, k9⟩ := open_ents (c := c9) h8
    rw [hx]
    exact ⟨⟨⟨z0, z1, z2, z3, z4, z5, z6, d7, s8, e9⟩, A7, p7, A9, p9⟩, rfl, ⟨⟨w0, w1, w2, w3, w4, w5, w6⟩, Nat.le_trans l7 b6, Nat.le_trans l8 b7, Nat.le_trans l9 b8, fun i hi => ⟨(k9 i hi).id, Nat.le_trans (k9 i hi).name b8⟩⟩, q7, q9⟩
/-- what the law is told of a graph -/
structure GraphB (ns : List NodeM) (b : Nat) : Prop where
  len : ns.length + 1 ≤ b
  node : ∀ i, i < ns.length → NodeB (nd ns i) b
theorem nodes_flat (L : Lay) : ∀ (xs : List NodeL) (k : Nat), (∀ i, i < xs.length → L.dA (k + i) = (xs.getD i default).dA ∧ L.dC (k + i) = (xs.getD i default).dC ∧ L.eA (k + i) = (xs.getD i default).eA ∧ L.eC (k + i) = (xs.getD i default).eC) → flatF (fun _ a => nlV a) k xs = flatF (nodeV L) k (xs.map (·.n))
  | [], _, _ => rfl
  | a :: r, k, h => by
    obtain ⟨h1, h2, h3, h4⟩ := h 0 (by simp)
    simp only [Nat.add_zero, List.getD_cons_zero] at h1 h2 h3 h4
    rw [flatF, List.map_cons, flatF, nodes_flat L r (k + 1) (fun i hi => by
      have := h (i + 1) (by simp; omega)
      rw [List.getD_cons_succ] at this
      have e : k + (i + 1) = k + 1 + i := by omega
      rw [e] at this
      exact this)]
    rw [nodeV, h1, h2, h3, h4]
    rfl
set_option maxRecDepth 100000 in
theorem open_nodes {n : Nat} {c : Value} {x : DataW H × List MemPlace} (h : DataW.trod enc Try.prog W 0 sp true n 22 [c] = some x) :
    ∃ A cp, ∃ ns : List NodeM, ∃ L : Lay, c = .slice A ns.length cp ∧ GraphAt (B0 W) A ns L ∧ GraphB ns (Rows.uptoBulk x.1) := by
  obtain ⟨A, cp, xs, D, h1, _, _, h2, h4, h3⟩ := open_row (α := NodeL) (f := nlV) (Q := fun a d => NodeQ W a (Rows.uptoBulk d)) Try.underlying22 (size := 10) (by kernel_rfl) (by decide) (fun n cs x h => open_node h) (fun _ => rfl) h
  cases h1
  have h5 := bulk_len ((List.range xs.length).map D)
  have e : (xs.map (·.n)).length = xs.length := by simp
  have hnd : ∀ i, i < xs.length → nd (xs.map (·.n)) i = (xs.getD i default).n := fun i hi => by
    simp [nd, List.getD_eq_getElem?_getD, hi]
  refine ⟨A, cp, xs.map (·.n), ⟨fun i => (xs.getD i default).dA, fun i => (xs.getD i default).eA, fun i => (xs.getD i default).dC, fun i => (xs.getD i default).eC⟩, by rw [e], ⟨?_, fun i hi => ?_, fun i hi => ?_⟩, by simp at h5; rw [e]; omega, fun i hi => ?_⟩
  · rw [nodes_flat ⟨fun i => (xs.getD i default).dA, fun i => (xs.getD i default).eA, fun i => (xs.getD i default).dC, fun i => (xs.getD i default).eC⟩ xs 0 (fun i _ => by rw [Nat.zero_add]; exact ⟨rfl, rfl, rfl, rfl⟩)] at h2
    exact h2
  · rw [e] at hi
    rw [hnd i hi]
    exact (h4 i hi).data
  · rw [e] at hi
    rw [hnd i hi]
    exact (h4 i hi).ents
  · rw [e] at hi
    rw [hnd i hi]
    have h7 := bulk_get (D := D) hi
    have h8 := (h4 i hi).nb
    exact ⟨h8.ids, by have := h8.data; omega, by have := h8.target; omega, by have := h8.ents; omega, fun j hj => ⟨(h8.ent j hj).id, by have := (h8.ent j hj).name; omega⟩⟩
set_option maxRecDepth 100000 in
theorem open_graph {v : Value} {d : DataW H} {ps : List MemPlace} {r : Reach} {b0 : Nat} (hval : Value.okWide Try.prog W r b0 24 v) (h : DataW.Trod enc Try.prog W 0 sp true 24 v d ps) :
    ∃ A cp, ∃ ns : List NodeM, ∃ L : Lay, v = .agg #[.slice A ns.length cp] ∧ GraphAt (B0 W) A ns L ∧ GraphB ns (Rows.uptoBulk d) := by
  obtain ⟨cs, rfl, hcs⟩ := okWide_struct Try.underlying24 hval
  obtain ⟨fuel, h⟩ := h
  obtain ⟨ys, m, _, hx, hl, hyl, hf⟩ := DataW.trod_struct Try.underlying24 h
  have hC : Try.prog.cellsOf 24 = 1 := by kernel_rfl
  rw [hC] at hcs
  obtain ⟨cs⟩ := cs
  match cs, hcs with
  | [c], _ =>
    obtain ⟨h0, b0⟩ := trod_field (hf 0 _ rfl) (by rw [hyl]; decide)
    obtain ⟨A, cp, ns, L, rfl, h1, h2⟩ := open_nodes (c := c) h0
    cases hx
    exact ⟨A, cp, ns, L, rfl, h1, ⟨Nat.le_trans h2.len b0, fun i hi => by
      have := h2.node i hi
      exact ⟨this.ids, Nat.le_trans this.data b0, Nat.le_trans this.target b0, Nat.le_trans this.ents b0, fun j hj => ⟨(this.ent j hj).id, Nat.le_trans (this.ent j hj).name b0⟩⟩⟩⟩
end graph
end Go.Proofs.Ytjpdcppdoonmdaa
end
