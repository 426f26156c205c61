/-
  PROVED HERE: a graph, as the row hands it over, lies in memory like GraphAt says; its sizes by the bulk.
  CONDITIONS: none.
-/
import Derived.Test.YtjpdcppdoonmdaaRow
import Derived.Test.YtjpdcppdoonmdaaG
namespace Go.Proofs.Ytjpdcppdoonmdaa
open Go.RowKit Go.WideShapes Go.ChangeShapes Go.ChangeAt Go.Deep
abbrev B0 (W : World) : Bs := ⟨(· < W.heap.size), W⟩
theorem cell_lt {w : World} {a : Addr} {v : Value} (h : w.cell? a = some v) : a.block < w.heap.size := by
  unfold World.cell? at h
  split at h
  · rename_i hb; exact lt_of_some hb
  · cases h
theorem cell_spot {w : World} {a : Addr} {v : Value} (h : w.cell? a = some v) : a.spot = none := by
  unfold World.cell? at h
  split at h
  · split at h
    · cases h
    · rename_i h0
      cases hs : a.spot with
      | none => rfl
      | some x => rw [hs] at h0; exact absurd rfl h0
  · cases h
theorem add_plain {a : Addr} (k : Nat) (h : a.spot = none) : a.add k = ⟨a.block, a.off + k, none⟩ := by
  obtain ⟨b, o, s⟩ := a
  cases h
  unfold Addr.add
  split
  · rename_i h0; subst h0; rfl
  · rfl
theorem bulk_get {H : Type} {D : Nat → DataW H} {n i : Nat} (hi : i < n) : Rows.uptoBulk (D i) ≤ Rows.uptoBulkAll ((List.range n).map D) := by
  have hm : D i ∈ (List.range n).map D := List.mem_map.2 ⟨i, List.mem_range.2 hi, rfl⟩
  generalize (List.range n).map D = l at hm
  induction l with
  | nil => cases hm
  | cons x r ih =>
    simp only [Rows.uptoBulkAll]
    rcases List.mem_cons.1 hm with e | hm
    · subst e; omega
    · have := ih hm; omega
theorem bulk_pos {H : Type} (d : DataW H) : 1 ≤ Rows.uptoBulk d := by
  cases d with
  | lit l => cases l <;> simp [Rows.uptoBulk]
  | nil => simp [Rows.uptoBulk]
  | ptr d => simp [Rows.uptoBulk]
  | slice elems spare => simp [Rows.uptoBulk]
  | agg parts => simp [Rows.uptoBulk]
  | iface t d => simp [Rows.uptoBulk]
  | map entries => simp [Rows.uptoBulk]
  | held h => simp [Rows.uptoBulk]
theorem bulk_len {H : Type} (l : List (DataW H)) : l.length ≤ Rows.uptoBulkAll l := by
  induction l with
  | nil => simp [Rows.uptoBulkAll]
  | cons x r ih => have := bulk_pos x; simp only [Rows.uptoBulkAll, List.length_cons]; omega
theorem bulk_mem {H : Type} {d : DataW H} {l : List (DataW H)} (h : d ∈ l) : Rows.uptoBulk d ≤ Rows.uptoBulkAll l := by
  induction l with
  | nil => cases h
  | cons x r ih =>
    simp only [Rows.uptoBulkAll]
    rcases List.mem_cons.1 h with e | h
    · subst e; omega
    · have := ih h; omega
section open_
variable {H : Type} {enc : TypeId × Value → H} {P : Program} {W : World} {sp : Nat → Bool}
/-- a slice whose elements are told by f: it lies in memory like a row of the base -/
theorem open_row {α : Type} [Inhabited α] {t e : TypeId} {size : Nat} {f : α → List Value} {Q : α → DataW H → Prop} (ht : P.underlying t = some (.slice e)) (hC : P.cellsOf e = size) (h0 : 0 < size)
    (hel : ∀ n cs x, DataW.trod enc P W 0 sp true n e cs = some x → ∃ a, cs = f a ∧ Q a x.1) (hf : ∀ a, (f a).length = size)
    {fuel : Nat} {cs : List Value} {x : DataW H × List MemPlace} (h : DataW.trod enc P W 0 sp true fuel t cs = some x) :
    ∃ A c, ∃ xs : List α, ∃ D : Nat → DataW H, cs = [.slice A xs.length c] ∧ xs.length ≤ c ∧ c ≤ maxLen ∧ RowB (B0 W) A (flatF (fun _ a => f a) 0 xs) ∧ (∀ i, i < xs.length → Q (xs.getD i default) (D i)) ∧
      Rows.uptoBulkAll ((List.range xs.length).map D) + 1 ≤ Rows.uptoBulk x.1 := by
  rcases open_slice ht h with ⟨hv, hx⟩ | ⟨a, len, cap, m, n, D, Pl, hcs, hb, hl, hm, hmm, hx, hi⟩
  · subst hv
    refine ⟨none, 0, [], fun _ => .nil, rfl, Nat.le_refl _, Nat.zero_le _, fun j v hj => by simp [flatF] at hj, fun i hi => absurd hi (Nat.not_lt_zero i), ?_⟩
    rw [hx]
    simp [Rows.uptoBulk, Rows.uptoBulkAll]
  · have hlm : len ≤ m := by rw [hmm]; split <;> omega
    have hch : ∀ i, ∃ b : α, i < len → (W.cells? 0 (a.add (i * P.cellsOf e)) (P.cellsOf e) = some (f b) ∧ Q b (D i)) := fun i => by
      by_cases hil : i < len
      · obtain ⟨cs', h1, h2⟩ := hi i (by omega)
        obtain ⟨b, rfl, h3⟩ := hel _ _ _ h2
        exact ⟨b, fun _ => ⟨h1, h3⟩⟩
      · exact ⟨default, fun h => absurd h hil⟩
    have hg := fun i => Classical.choose_spec (hch i)
    generalize hG : (fun i => Classical.choose (hch i)) = g at hg
    have hg : ∀ i, i < len → W.cells? 0 (a.add (i * P.cellsOf e)) (P.cellsOf e) = some (f (g i)) ∧ Q (g i) (D i) := fun i hi => by
      have h1 := hg i hi
      have h2 : Classical.choose (hch i) = g i := congrFun hG i
      rw [h2] at h1
      exact h1
    have hlen : ((List.range len).map g).length = len := by simp
    have hget : ∀ i, i < len → ((List.range len).map g)[i]? = some (g i) := fun i hi => by simp [hi]
    have hgetD : ∀ i, i < len → ((List.range len).map g).getD i default = g i := fun i hi => by rw [List.getD_eq_getElem?_getD, hget i hi]; rfl
    have hs1 : 0 < len → a.spot = none := fun hl0 => by
      obtain ⟨h2, -⟩ := hg 0 hl0
      rw [hC] at h2
      obtain ⟨_, hcl, hat⟩ := World.cells?_some h2
      have h3 := hat 0 h0
      rw [List.getElem?_eq_getElem (by rw [hcl]; exact h0)] at h3
      have e : (a.add (0 * size)).add 0 = a := by rw [Nat.zero_mul]; rfl
      rw [e] at h3
      exact cell_spot h3
    refine ⟨some a, cap, (List.range len).map g, D, by rw [hlen]; exact hcs, by rw [hlen]; exact hl, hm, fun j v hj => ?_, fun i hi' => ?_, ?_⟩
    · have hfl := flatF_len (f := fun _ a => f a) (s := size) (fun _ a => hf a) ((List.range len).map g) 0
      have hjl := len_of_some hj
      rw [hfl, hlen] at hjl
      have hj1 : j / size < len := (Nat.div_lt_iff_lt_mul h0).2 hjl
      have hj2 : j % size < size := Nat.mod_lt _ h0
      have e := Nat.div_add_mod j size
      rw [Nat.mul_comm] at e
      have h1 := flatF_get (f := fun _ a => f a) (s := size) (fun _ a => hf a) _ 0 _ (j % size) _ (hget _ hj1) hj2
      rw [e, hj] at h1
      obtain ⟨h2, -⟩ := hg _ hj1
      rw [hC] at h2
      obtain ⟨_, _, hat⟩ := World.cells?_some h2
      have h3 := hat _ hj2
      rw [← h1] at h3
      have hs1 := hs1 (Nat.lt_of_le_of_lt (Nat.zero_le _) hj1)
      rw [add_plain _ hs1] at h3
      rw [add_plain (a := ⟨a.block, a.off + j / size * size, none⟩) _ rfl] at h3
      have e2 : a.off + j / size * size + j % size = a.off + j := by omega
      have h4 : W.cell? ⟨a.block, a.off + j, none⟩ = some v := by rw [← e2]; exact h3
      have ea : (some a : Option Addr) = some ⟨blkOf (some a), offOf (some a), none⟩ := by
        obtain ⟨b, o, s⟩ := a
        cases hs1
        rfl
      exact ⟨ea, cell_lt h4, h4⟩
    · rw [hlen] at hi'
      rw [hgetD i hi']
      exact (hg i hi').2
    · rw [hx, hlen]
      simp only [Rows.uptoBulk]
      omega
theorem open_u8 {t : TypeId} {n : Nat} {cs : List Value} {x : DataW H × List MemPlace} (ht : P.underlying t = some (.int .u8)) (h : DataW.trod enc P W 0 sp true n t cs = some x) : ∃ b : UInt8, cs = [byteV b] ∧ True := by
  obtain ⟨z, h1, _, h3⟩ := DataW.trod_int ht h
  have h4 : 0 ≤ z ∧ z ≤ 255 := by simpa [Lit.wf, IntKind.min, IntKind.max, IntKind.signed, IntKind.bits] using h3
  refine ⟨UInt8.ofNat z.toNat, ?_, trivial⟩
  have e : (((UInt8.ofNat z.toNat).toNat : Nat) : Int) = z := by
    rw [UInt8.toNat_ofNat']
    omega
  rw [byteV, e]
  exact h1
def I64 (z : Int) : Prop := -9223372036854775808 ≤ z ∧ z ≤ 9223372036854775807
theorem i64_of {z : Int} (h : (Lit.int .i64 z).wf = true) : I64 z := by
  unfold I64
  simpa [Lit.wf, IntKind.min, IntKind.max, IntKind.signed, IntKind.bits] using h
theorem open_i64 {t : TypeId} {n : Nat} {c : Value} {x : DataW H × List MemPlace} (ht : P.underlying t = some (.int .i64)) (h : DataW.trod enc P W 0 sp true n t [c] = some x) : ∃ z, c = .int .i64 z ∧ I64 z := by
  obtain ⟨z, h1, _, h3⟩ := DataW.trod_int ht h
  cases h1
  exact ⟨z, rfl, by unfold I64; simpa [Lit.wf, IntKind.min, IntKind.max, IntKind.signed, IntKind.bits] using h3⟩
set_option maxRecDepth 100000 in
theorem open_str {t : TypeId} {n : Nat} {c : Value} {x : DataW H × List MemPlace} (ht : P.underlying t = some .string) (h : DataW.trod enc P W 0 sp true n t [c] = some x) : ∃ s : ByteArray, c = .string s ∧ s.size + 1 ≤ Rows.uptoBulk x.1 := by
  obtain ⟨s, h1, h2, _⟩ := DataW.trod_string ht h
  cases h1
  refine ⟨s, rfl, ?_⟩
  rw [h2]
  simp only [Rows.uptoBulk, Array.length_toList]
  exact Nat.le_refl _
end open_
section graph
variable {H : Type} {enc : TypeId × Value → H} {W : World} {sp : Nat → Bool}
theorem bytes_flat : ∀ (d : List UInt8) (k : Nat), flatF (fun _ b => [byteV b]) k d = bytesV d
  | [], _ => rfl
  | b :: r, k => by rw [flatF, bytes_flat r (k + 1)]; rfl
set_option maxRecDepth 100000 in
theorem open_bytes {n : Nat} {c : Value} {x : DataW H × List MemPlace} (h : DataW.trod enc Try.prog W 0 sp true n 29 [c] = some x) :
    ∃ A cp, ∃ d : List UInt8, c = .slice A d.length cp ∧ BytesAt (B0 W) A d ∧ d.length + 1 ≤ Rows.uptoBulk x.1 := by
  obtain ⟨A, cp, xs, D, h1, _, _, h2, _, h3⟩ := open_row (α := UInt8) (f := fun b => [byteV b]) (Q := fun _ _ => True) Try.underlying29 (size := 1) (by kernel_rfl) (by decide) (fun n cs x h => open_u8 Try.underlying5 h) (fun _ => rfl) h
  cases h1
  have := bulk_len ((List.range xs.length).map D)
  refine ⟨A, cp, xs, rfl, ?_, by simp at this; omega⟩
  rw [bytes_flat] at h2
  exact h2
structure EntB (e : EntM) (b : Nat) : Prop where
  id : I64 e.id
  name : e.name.size + 1 ≤ b
theorem trod_field {n : Nat} {cs : List Value} {xs : List (DataW H × List MemPlace)} {i : Nat} {t : TypeId} (h : DataW.trod enc Try.prog W 0 sp true n t cs = xs[i]?) (hi : i < xs.length) : DataW.trod enc Try.prog W 0 sp true n t cs = some xs[i] ∧ Rows.uptoBulk (xs[i]).1 ≤ Rows.uptoBulk (.agg (xs.map (·.1))) := by
  refine ⟨h.trans (List.getElem?_eq_getElem hi), ?_⟩
  have hm : (xs[i]).1 ∈ xs.map (·.1) := List.mem_map.2 ⟨xs[i], List.getElem_mem hi, rfl⟩
  have := bulk_mem hm
  simp only [Rows.uptoBulk]
  omega
set_option maxRecDepth 100000 in
theorem open_ent {n : Nat} {cs : List Value} {x : DataW H × List MemPlace} (h : DataW.trod enc Try.prog W 0 sp true n 72 cs = some x) : ∃ e : EntM, cs = entV e ∧ EntB e (Rows.uptoBulk x.1) := by
  obtain ⟨ys, m, _, hx, hl, hyl, hf⟩ := DataW.trod_struct Try.underlying72 h
  have hC : Try.prog.cellsOf 72 = 2 := by kernel_rfl
  rw [hC] at hl
  match cs, hl with
  | [c0, c1], _ =>
    obtain ⟨h0, b0⟩ := trod_field (hf 0 _ rfl) (by rw [hyl]; decide)
    obtain ⟨h1, _⟩ := trod_field (hf 1 _ rfl) (by rw [hyl]; decide)
    obtain ⟨s, rfl, hs⟩ := open_str Try.underlying9 h0
    obtain ⟨z, rfl, hz⟩ := open_i64 Try.underlying3 h1
    exact ⟨⟨s, z⟩, rfl, ⟨hz, by rw [hx]; exact Nat.le_trans hs b0⟩⟩
set_option maxRecDepth 100000 in
theorem open_ents {n : Nat} {c : Value} {x : DataW H × List MemPlace} (h : DataW.trod enc Try.prog W 0 sp true n 30 [c] = some x) :
    ∃ A cp, ∃ es : List EntM, c = .slice A es.length cp ∧ EntsAt (B0 W) A es ∧ es.length + 1 ≤ Rows.uptoBulk x.1 ∧ ∀ i, i < es.length → EntB (en es i) (Rows.uptoBulk x.1) := by
  obtain ⟨A, cp, xs, D, h1, _, _, h2, h4, h3⟩ := open_row (α := EntM) (f := entV) (Q := fun e d => EntB e (Rows.uptoBulk d)) Try.underlying30 (size := 2) (by kernel_rfl) (by decide) (fun n cs x h => open_ent h) (fun _ => rfl) h
  cases h1
  have h5 := bulk_len ((List.range xs.length).map D)
  refine ⟨A, cp, xs, rfl, h2, by simp at h5; omega, fun i hi => ⟨(h4 i hi).id, ?_⟩⟩
  have h6 := (h4 i hi).name
  have h7 := bulk_get (D := D) hi
  unfold en
  omega
structure NodeB (nd : NodeM) (b : Nat) : Prop where
  ids : I64 nd.id ∧ I64 nd.kind ∧ I64 nd.mode ∧ I64 nd.uid ∧ I64 nd.gid ∧ I64 nd.sec ∧ I64 nd.nano
  data : nd.data.length + 1 ≤ b
  target : nd.target.size + 1 ≤ b
  ents : nd.ents.length + 1 ≤ b
  ent : ∀ i, i < nd.ents.length → EntB (en nd.ents i) b
structure NodeL where
  n : NodeM
  dA : Option Addr
  dC : Nat
  eA : Option Addr
  eC : Nat
deriving Inhabited
def nlV (a : NodeL) : List Value := [.int .i64 a.n.id, .int .i64 a.n.kind, .int .i64 a.n.mode, .int .i64 a.n.uid, .int .i64 a.n.gid, .int .i64 a.n.sec, .int .i64 a.n.nano, .slice a.dA a.n.data.length a.dC, .string a.n.target, .slice a.eA a.n.ents.length a.eC]
structure NodeQ (W : World) (a : NodeL) (b : Nat) : Prop where
  nb : NodeB a.n b
  data : BytesAt (B0 W) a.dA a.n.data
  ents : EntsAt (B0 W) a.eA a.n.ents
set_option maxRecDepth 100000 in
theorem open_node {n : Nat} {cs : List Value} {x : DataW H × List MemPlace} (h : DataW.trod enc Try.prog W 0 sp true n 32 cs = some x) : ∃ a : NodeL, cs = nlV a ∧ NodeQ W a (Rows.uptoBulk x.1) := by
  obtain ⟨ys, m, _, hx, hl, hyl, hf⟩ := DataW.trod_struct Try.underlying32 h
  have hC : Try.prog.cellsOf 32 = 10 := by kernel_rfl
  rw [hC] at hl
  match cs, hl with
  | [c0, c1, c2, c3, c4, c5, c6, c7, c8, c9], _ =>
    obtain ⟨h0, _⟩ := trod_field (hf 0 _ rfl) (by rw [hyl]; decide)
    obtain ⟨h1, _⟩ := trod_field (hf 1 _ rfl) (by rw [hyl]; decide)
    obtain ⟨h2, _⟩ := trod_field (hf 2 _ rfl) (by rw [hyl]; decide)
    obtain ⟨h3, _⟩ := trod_field (hf 3 _ rfl) (by rw [hyl]; decide)
    obtain ⟨h4, _⟩ := trod_field (hf 4 _ rfl) (by rw [hyl]; decide)
    obtain ⟨h5, _⟩ := trod_field (hf 5 _ rfl) (by rw [hyl]; decide)
    obtain ⟨h6, b6⟩ := trod_field (hf 6 _ rfl) (by rw [hyl]; decide)
    obtain ⟨h7, b7⟩ := trod_field (hf 7 _ rfl) (by rw [hyl]; decide)
    obtain ⟨h8, b8⟩ := trod_field (hf 8 _ rfl) (by rw [hyl]; decide)
    obtain ⟨z0, rfl, w0⟩ := open_i64 Try.underlying3 h0
    obtain ⟨z1, rfl, w1⟩ := open_i64 Try.underlying3 h1
    obtain ⟨z2, rfl, w2⟩ := open_i64 Try.underlying3 h2
    obtain ⟨z3, rfl, w3⟩ := open_i64 Try.underlying3 h3
    obtain ⟨z4, rfl, w4⟩ := open_i64 Try.underlying3 h4
    obtain ⟨us, _, _, _, _, hul, hu⟩ := DataW.trod_struct Try.underlying28 h5
    obtain ⟨g0, _⟩ := trod_field (hu 0 _ rfl) (by rw [hul]; decide)
    obtain ⟨g1, _⟩ := trod_field (hu 1 _ rfl) (by rw [hul]; decide)
    obtain ⟨z5, rfl, w5⟩ := open_i64 (c := c5) Try.underlying3 g0
    obtain ⟨z6, rfl, w6⟩ := open_i64 (c := c6) Try.underlying3 g1
    obtain ⟨A7, p7, d7, rfl, q7, l7⟩ := open_bytes (c := c7) h6
    obtain ⟨s8, rfl, l8⟩ := open_str (c := c8) Try.underlying9 h7
    obtain ⟨A9, p9, e9, rfl, q9, l9, k9⟩ := open_ents (c := c9) h8
    rw [hx]
    exact ⟨⟨⟨z0, z1, z2, z3, z4, z5, z6, d7, s8, e9⟩, A7, p7, A9, p9⟩, rfl, ⟨⟨w0, w1, w2, w3, w4, w5, w6⟩, Nat.le_trans l7 b6, Nat.le_trans l8 b7, Nat.le_trans l9 b8, fun i hi => ⟨(k9 i hi).id, Nat.le_trans (k9 i hi).name b8⟩⟩, q7, q9⟩
/-- what the law is told of a graph -/
structure GraphB (ns : List NodeM) (b : Nat) : Prop where
  len : ns.length + 1 ≤ b
  node : ∀ i, i < ns.length → NodeB (nd ns i) b
theorem nodes_flat (L : Lay) : ∀ (xs : List NodeL) (k : Nat), (∀ i, i < xs.length → L.dA (k + i) = (xs.getD i default).dA ∧ L.dC (k + i) = (xs.getD i default).dC ∧ L.eA (k + i) = (xs.getD i default).eA ∧ L.eC (k + i) = (xs.getD i default).eC) → flatF (fun _ a => nlV a) k xs = flatF (nodeV L) k (xs.map (·.n))
  | [], _, _ => rfl
  | a :: r, k, h => by
    obtain ⟨h1, h2, h3, h4⟩ := h 0 (by simp)
    simp only [Nat.add_zero, List.getD_cons_zero] at h1 h2 h3 h4
    rw [flatF, List.map_cons, flatF, nodes_flat L r (k + 1) (fun i hi => by
      have := h (i + 1) (by simp; omega)
      rw [List.getD_cons_succ] at this
      have e : k + (i + 1) = k + 1 + i := by omega
      rw [e] at this
      exact this)]
    rw [nodeV, h1, h2, h3, h4]
    rfl
set_option maxRecDepth 100000 in
theorem open_nodes {n : Nat} {c : Value} {x : DataW H × List MemPlace} (h : DataW.trod enc Try.prog W 0 sp true n 22 [c] = some x) :
    ∃ A cp, ∃ ns : List NodeM, ∃ L : Lay, c = .slice A ns.length cp ∧ GraphAt (B0 W) A ns L ∧ GraphB ns (Rows.uptoBulk x.1) := by
  obtain ⟨A, cp, xs, D, h1, _, _, h2, h4, h3⟩ := open_row (α := NodeL) (f := nlV) (Q := fun a d => NodeQ W a (Rows.uptoBulk d)) Try.underlying22 (size := 10) (by kernel_rfl) (by decide) (fun n cs x h => open_node h) (fun _ => rfl) h
  cases h1
  have h5 := bulk_len ((List.range xs.length).map D)
  have e : (xs.map (·.n)).length = xs.length := by simp
  have hnd : ∀ i, i < xs.length → nd (xs.map (·.n)) i = (xs.getD i default).n := fun i hi => by
    simp [nd, List.getD_eq_getElem?_getD, hi]
  refine ⟨A, cp, xs.map (·.n), ⟨fun i => (xs.getD i default).dA, fun i => (xs.getD i default).eA, fun i => (xs.getD i default).dC, fun i => (xs.getD i default).eC⟩, by rw [e], ⟨?_, fun i hi => ?_, fun i hi => ?_⟩, by simp at h5; rw [e]; omega, fun i hi => ?_⟩
  · rw [nodes_flat ⟨fun i => (xs.getD i default).dA, fun i => (xs.getD i default).eA, fun i => (xs.getD i default).dC, fun i => (xs.getD i default).eC⟩ xs 0 (fun i _ => by rw [Nat.zero_add]; exact ⟨rfl, rfl, rfl, rfl⟩)] at h2
    exact h2
  · rw [e] at hi
    rw [hnd i hi]
    exact (h4 i hi).data
  · rw [e] at hi
    rw [hnd i hi]
    exact (h4 i hi).ents
  · rw [e] at hi
    rw [hnd i hi]
    have h7 := bulk_get (D := D) hi
    have h8 := (h4 i hi).nb
    exact ⟨h8.ids, by have := h8.data; omega, by have := h8.target; omega, by have := h8.ents; omega, fun j hj => ⟨(h8.ent j hj).id, by have := (h8.ent j hj).name; omega⟩⟩
set_option maxRecDepth 100000 in
theorem open_graph {v : Value} {d : DataW H} {ps : List MemPlace} {r : Reach} {b0 : Nat} (hval : Value.okWide Try.prog W r b0 24 v) (h : DataW.Trod enc Try.prog W 0 sp true 24 v d ps) :
    ∃ A cp, ∃ ns : List NodeM, ∃ L : Lay, v = .agg #[.slice A ns.length cp] ∧ GraphAt (B0 W) A ns L ∧ GraphB ns (Rows.uptoBulk d) := by
  obtain ⟨cs, rfl, hcs⟩ := okWide_struct Try.underlying24 hval
  obtain ⟨fuel, h⟩ := h
  obtain ⟨ys, m, _, hx, hl, hyl, hf⟩ := DataW.trod_struct Try.underlying24 h
  have hC : Try.prog.cellsOf 24 = 1 := by kernel_rfl
  rw [hC] at hcs
  obtain ⟨cs⟩ := cs
  match cs, hcs with
  | [c], _ =>
    obtain ⟨h0, b0⟩ := trod_field (hf 0 _ rfl) (by rw [hyl]; decide)
    obtain ⟨A, cp, ns, L, rfl, h1, h2⟩ := open_nodes (c := c) h0
    cases hx
    exact ⟨A, cp, ns, L, rfl, h1, ⟨Nat.le_trans h2.len b0, fun i hi => by
      have := h2.node i hi
      exact ⟨this.ids, Nat.le_trans this.data b0, Nat.le_trans this.target b0, Nat.le_trans this.ents b0, fun j hj => ⟨(this.ent j hj).id, Nat.le_trans (this.ent j hj).name b0⟩⟩⟩⟩
end graph
end Go.Proofs.Ytjpdcppdoonmdaa
