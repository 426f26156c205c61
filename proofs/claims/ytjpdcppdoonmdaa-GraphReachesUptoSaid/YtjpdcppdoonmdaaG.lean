/-
  PROVED HERE: a graph as plain data, and what it means that it lies in memory that is only read.
  CONDITIONS: none. No statement of the seat is proved here.
-/
import Derived.Test.YtjpdcppdoonmdaaVe
namespace Go.Proofs.Ytjpdcppdoonmdaa
open Go.RowKit
structure EntM where
  name : ByteArray
  id : Int
deriving Inhabited, DecidableEq
structure NodeM where
  id : Int
  kind : Int
  mode : Int
  uid : Int
  gid : Int
  sec : Int
  nano : Int
  data : List UInt8
  target : ByteArray
  ents : List EntM
deriving Inhabited, DecidableEq
/-- where a graph's lists lie -/
structure Lay where
  dA : Nat → Option Addr
  eA : Nat → Option Addr
  dC : Nat → Nat
  eC : Nat → Nat
def nd (ns : List NodeM) (i : Nat) : NodeM := ns.getD i default
def en (es : List EntM) (i : Nat) : EntM := es.getD i default
def byteV (b : UInt8) : Value := .int .u8 ((b.toNat : Nat) : Int)
def bytesV (d : List UInt8) : List Value := d.map byteV
def entV (e : EntM) : List Value := [.string e.name, .int .i64 e.id]
def nodeV (L : Lay) (i : Nat) (n : NodeM) : List Value :=
  [.int .i64 n.id, .int .i64 n.kind, .int .i64 n.mode, .int .i64 n.uid, .int .i64 n.gid, .int .i64 n.sec, .int .i64 n.nano, .slice (L.dA i) n.data.length (L.dC i), .string n.target, .slice (L.eA i) n.ents.length (L.eC i)]
def flatF {α : Type} (f : Nat → α → List Value) : Nat → List α → List Value
  | _, [] => []
  | k, a :: r => f k a ++ flatF f (k + 1) r
section flat
variable {α : Type} {f : Nat → α → List Value} {s : Nat}
theorem flatF_len (hs : ∀ i a, (f i a).length = s) : ∀ (l : List α) (k : Nat), (flatF f k l).length = l.length * s
  | [], _ => by simp [flatF]
  | a :: r, k => by rw [flatF, List.length_append, hs, flatF_len hs r, List.length_cons, Nat.add_mul, Nat.one_mul, Nat.add_comm]
theorem flatF_get (hs : ∀ i a, (f i a).length = s) : ∀ (l : List α) (k i j : Nat) (a : α), l[i]? = some a → j < s → (flatF f k l)[i * s + j]? = (f (k + i) a)[j]?
  | [], k, i, j, a, h, _ => by simp at h
  | b :: r, k, 0, j, a, h, hj => by
    simp at h
    subst h
    rw [flatF, Nat.zero_mul, Nat.zero_add, List.getElem?_append_left (by rw [hs]; exact hj)]
    rfl
  | b :: r, k, i + 1, j, a, h, hj => by
    have h' : r[i]? = some a := by simpa using h
    have e : (i + 1) * s + j = s + (i * s + j) := by rw [Nat.add_mul, Nat.one_mul]; omega
    rw [flatF, e, List.getElem?_append_right (by rw [hs]; omega), hs, Nat.add_sub_cancel_left, flatF_get hs r (k + 1) i j a h' hj]
    have : k + 1 + i = k + (i + 1) := by omega
    rw [this]
theorem flatF_snoc (a : α) : ∀ (l : List α) (k : Nat), flatF f k (l ++ [a]) = flatF f k l ++ f (k + l.length) a
  | [], k => by simp [flatF]
  | b :: r, k => by
    rw [List.cons_append, flatF, flatF, flatF_snoc a r (k + 1), List.append_assoc, List.length_cons]
    have : k + 1 + r.length = k + (r.length + 1) := by omega
    rw [this]
theorem flatF_congr {g : Nat → α → List Value} : ∀ (l : List α) (k : Nat), (∀ i a, l[i]? = some a → f (k + i) a = g (k + i) a) → flatF f k l = flatF g k l
  | [], _, _ => rfl
  | b :: r, k, h => by
    have h1 : flatF f (k + 1) r = flatF g (k + 1) r := flatF_congr r (k + 1) (fun i a hi => by
      have := h (i + 1) a (by simpa using hi)
      have e : k + 1 + i = k + (i + 1) := by omega
      rw [e]
      exact this)
    have h2 : f k b = g k b := h 0 b rfl
    rw [flatF, flatF, h1, h2]
end flat
def entsV (es : List EntM) : List Value := flatF (fun _ e => entV e) 0 es
def nodesV (L : Lay) (ns : List NodeM) : List Value := flatF (nodeV L) 0 ns
theorem bytesV_len (d : List UInt8) : (bytesV d).length = d.length := by simp [bytesV]
theorem entsV_len (es : List EntM) : (entsV es).length = es.length * 2 := flatF_len (s := 2) (fun _ _ => rfl) es 0
theorem nodesV_len (L : Lay) (ns : List NodeM) : (nodesV L ns).length = ns.length * 10 := flatF_len (s := 10) (fun _ _ => rfl) ns 0
theorem getD_some {α : Type} {l : List α} {i : Nat} {x : α} (h : i < l.length) : l[i]? = some (l.getD i x) := by
  rw [List.getD_eq_getElem?_getD, List.getElem?_eq_getElem h]; rfl
theorem oneCell_bytes (d : List UInt8) : ∀ u ∈ bytesV d, u.oneCell' = true := by
  intro u hu
  obtain ⟨b, _, rfl⟩ := List.mem_map.1 hu
  rfl
theorem flatF_all {α : Type} {f : Nat → α → List Value} (h : ∀ i a, ∀ u ∈ f i a, u.oneCell' = true) : ∀ (l : List α) (k : Nat), ∀ u ∈ flatF f k l, u.oneCell' = true
  | [], _, u, hu => by simp [flatF] at hu
  | b :: r, k, u, hu => by
    rw [flatF] at hu
    rcases List.mem_append.1 hu with hu | hu
    · exact h k b u hu
    · exact flatF_all h r (k + 1) u hu
theorem oneCell_ents (es : List EntM) : ∀ u ∈ entsV es, u.oneCell' = true := flatF_all (fun _ a u hu => by simp [entV] at hu; rcases hu with rfl | rfl <;> rfl) es 0
section at_
variable {β β' : Bs} {A : Option Addr}
/-- a slice of bytes, read only -/
def BytesAt (β : Bs) (A : Option Addr) (d : List UInt8) : Prop := RowB β A (bytesV d)
def EntsAt (β : Bs) (A : Option Addr) (es : List EntM) : Prop := RowB β A (entsV es)
theorem BytesAt.le {d : List UInt8} (h : BytesAt β A d) (hle : β.le β') : BytesAt β' A d := RowB.le h hle
theorem EntsAt.le {es : List EntM} (h : EntsAt β A es) (hle : β.le β') : EntsAt β' A es := RowB.le h hle
theorem BytesAt.get {d : List UInt8} (h : BytesAt β A d) {j : Nat} (hj : j < d.length) : A = some ⟨blkOf A, offOf A, none⟩ ∧ Rd β ⟨blkOf A, offOf A + j * 1, none⟩ (.int .u8 (((d.getD j 0).toNat : Nat) : Int)) := by
  have h1 : (bytesV d)[j]? = some (byteV (d.getD j 0)) := by
    rw [bytesV, List.getElem?_map, getD_some (x := 0) hj]; rfl
  have := h j _ h1
  rw [Nat.mul_one]
  exact this
theorem BytesAt.hd {d : List UInt8} (h : BytesAt β A d) {j : Nat} (hj : j < d.length) : A = some ⟨blkOf A, offOf A, none⟩ := (h.get hj).1
theorem BytesAt.rd {d : List UInt8} (h : BytesAt β A d) {j : Nat} (hj : j < d.length) : Rd β ⟨blkOf A, offOf A + j * 1, none⟩ (.int .u8 (((d.getD j 0).toNat : Nat) : Int)) := (h.get hj).2
theorem EntsAt.get {es : List EntM} (h : EntsAt β A es) {i : Nat} (hi : i < es.length) {j : Nat} {v : Value} (hv : (entV (en es i))[j]? = some v) : A = some ⟨blkOf A, offOf A, none⟩ ∧ Rd β ⟨blkOf A, offOf A + i * 2 + j, none⟩ v := by
  have hj : j < 2 := len_of_some hv
  have h1 := flatF_get (f := fun _ e => entV e) (s := 2) (fun _ _ => rfl) es 0 i j _ (getD_some (x := default) hi) hj
  have := h (i * 2 + j) v (h1.trans hv)
  rw [← Nat.add_assoc] at this
  exact this
theorem EntsAt.hd {es : List EntM} (h : EntsAt β A es) {i : Nat} (hi : i < es.length) : A = some ⟨blkOf A, offOf A, none⟩ := (h.get hi (j := 0) rfl).1
theorem EntsAt.rd {es : List EntM} (h : EntsAt β A es) {i : Nat} (hi : i < es.length) {j : Nat} {v : Value} (hv : (entV (en es i))[j]? = some v) : Rd β ⟨blkOf A, offOf A + i * 2 + j, none⟩ v := (h.get hi hv).2
theorem RowB.src {hps : List HP} {xs : List Value} (h : RowB β A xs) : ∀ w, Sat β hps w → (A = none ∧ xs.length = 0) ∨ ∃ ad, A = some ad ∧ ∀ j u, xs[j]? = some u → w.cell? (ad.add j) = some u := by
  intro w hS
  cases hA : A with
  | none =>
    refine .inl ⟨rfl, ?_⟩
    cases xs with
    | nil => rfl
    | cons x r => have := (h 0 x rfl).1; rw [hA] at this; cases this
  | some a =>
    refine .inr ⟨a, rfl, fun j u hj => ?_⟩
    obtain ⟨h1, h2⟩ := h j u hj
    rw [hA] at h1 h2
    have e1 : a = ⟨blkOf (some a), offOf (some a), none⟩ := by injection h1
    have ea : a.add j = ⟨blkOf (some a), offOf (some a) + j, none⟩ := by
      rw [e1]
      unfold Addr.add
      split
      · rename_i h0; subst h0; rfl
      · rfl
    rw [ea]
    exact hS.1.cell h2
end at_
structure GraphAt (β : Bs) (A : Option Addr) (ns : List NodeM) (L : Lay) : Prop where
  row : RowB β A (nodesV L ns)
  data : ∀ i, i < ns.length → BytesAt β (L.dA i) (nd ns i).data
  ents : ∀ i, i < ns.length → EntsAt β (L.eA i) (nd ns i).ents
/-- the inner lists of the first k nodes -/
structure GraphIn (β : Bs) (ns : List NodeM) (k : Nat) (L : Lay) : Prop where
  data : ∀ i, i < k → BytesAt β (L.dA i) (nd ns i).data
  ents : ∀ i, i < k → EntsAt β (L.eA i) (nd ns i).ents
def Lay.put (L : Lay) (k : Nat) (dA : Option Addr) (dC : Nat) (eA : Option Addr) (eC : Nat) : Lay :=
  ⟨fun i => if i = k then dA else L.dA i, fun i => if i = k then eA else L.eA i, fun i => if i = k then dC else L.dC i, fun i => if i = k then eC else L.eC i⟩
section graph
variable {β β' : Bs} {A : Option Addr} {ns : List NodeM} {L : Lay}
theorem GraphAt.le (h : GraphAt β A ns L) (hle : β.le β') : GraphAt β' A ns L := ⟨h.row.le hle, fun i hi => (h.data i hi).le hle, fun i hi => (h.ents i hi).le hle⟩
theorem GraphAt.get (h : GraphAt β A ns L) {i : Nat} (hi : i < ns.length) {j : Nat} {v : Value} (hv : (nodeV L i (nd ns i))[j]? = some v) : A = some ⟨blkOf A, offOf A, none⟩ ∧ Rd β ⟨blkOf A, offOf A + i * 10 + j, none⟩ v := by
  have hj : j < 10 := len_of_some hv
  have h1 := flatF_get (f := nodeV L) (s := 10) (fun _ _ => rfl) ns 0 i j _ (getD_some (x := default) hi) hj
  rw [Nat.zero_add] at h1
  have := h.row (i * 10 + j) v (h1.trans hv)
  rw [← Nat.add_assoc] at this
  exact this
theorem GraphAt.hd (h : GraphAt β A ns L) {i : Nat} (hi : i < ns.length) : A = some ⟨blkOf A, offOf A, none⟩ := (h.get hi (j := 0) rfl).1
theorem GraphAt.rd (h : GraphAt β A ns L) {i : Nat} (hi : i < ns.length) {j : Nat} {v : Value} (hv : (nodeV L i (nd ns i))[j]? = some v) : Rd β ⟨blkOf A, offOf A + i * 10 + j, none⟩ v := (h.get hi hv).2
theorem GraphIn.le {k : Nat} (h : GraphIn β ns k L) (hle : β.le β') : GraphIn β' ns k L := ⟨fun i hi => (h.data i hi).le hle, fun i hi => (h.ents i hi).le hle⟩
theorem GraphIn.put {k : Nat} (h : GraphIn β ns k L) {dA eA : Option Addr} {dC eC : Nat} (hd : BytesAt β dA (nd ns k).data) (he : EntsAt β eA (nd ns k).ents) : GraphIn β ns (k + 1) (L.put k dA dC eA eC) := by
  refine ⟨fun i hi => ?_, fun i hi => ?_⟩
  · by_cases e : i = k
    · subst e; simpa [Lay.put] using hd
    · simpa [Lay.put, e] using h.data i (by omega)
  · by_cases e : i = k
    · subst e; simpa [Lay.put] using he
    · simpa [Lay.put, e] using h.ents i (by omega)
theorem nodesV_put {k : Nat} (hk : k < ns.length) (dA : Option Addr) (dC : Nat) (eA : Option Addr) (eC : Nat) :
    nodesV L (ns.take k) ++ [.int .i64 (nd ns k).id, .int .i64 (nd ns k).kind, .int .i64 (nd ns k).mode, .int .i64 (nd ns k).uid, .int .i64 (nd ns k).gid, .int .i64 (nd ns k).sec, .int .i64 (nd ns k).nano, .slice dA (nd ns k).data.length dC, .string (nd ns k).target, .slice eA (nd ns k).ents.length eC] =
      nodesV (L.put k dA dC eA eC) (ns.take (k + 1)) := by
  have e1 : ns.take (k + 1) = ns.take k ++ [nd ns k] := by
    rw [List.take_succ_eq_append_getElem hk]
    simp [nd, List.getD_eq_getElem?_getD, hk]
  have hlen : (ns.take k).length = k := by simp; omega
  rw [nodesV, nodesV, e1, flatF_snoc, hlen, Nat.zero_add]
  have e2 : flatF (nodeV (L.put k dA dC eA eC)) 0 (ns.take k) = flatF (nodeV L) 0 (ns.take k) := flatF_congr _ _ (fun i a hi => by
    have hi' := len_of_some hi
    have hne : ¬ 0 + i = k := by omega
    simp [nodeV, Lay.put]
    omega)
  rw [e2]
  simp [nodeV, Lay.put]
theorem GraphAt.mk' {k : Nat} (hrow : RowB β A (nodesV L (ns.take k))) (h : GraphIn β ns k L) (hk : ns.length ≤ k) : GraphAt β A ns L := by
  rw [List.take_of_length_le hk] at hrow
  exact ⟨hrow, fun i hi => h.data i (by omega), fun i hi => h.ents i (by omega)⟩
end graph
end Go.Proofs.Ytjpdcppdoonmdaa
