/-
  PROVED HERE: lemmas and contracts of functions (texts of this repo, joined; what the claim does not use is left out): GO, GRef, GW, Lc, HW, Og, LC, St, Pl, Sx, LB, LP, Oh, LR, Zl.
  CONDITIONS: as the theorems say.
-/
import Derived.Test.YtkiedlmhocglhaaGreatDoorMHrefused5
import Derived.Test.YtkiedlmhocglhaaGreatDoorRows
import Derived.Shelf.Vars
import Derived.Deep.DeepLaidRun
import Derived.LaidHandle
import Derived.ChangeMaps5
set_option maxRecDepth 100000
set_option maxHeartbeats 4000000
namespace Go.Proofs.YtkiedlmhocglhaaGreatDoor
section
open Go.RowKit Go.WideShapes Go.ChangeShapes Go.ChangeAt Go.Deep
abbrev B0 (W : World) : Bs := ⟨(· < W.heap.size), W⟩
theorem D4 {w : World} {a : Addr} {v : Value} (h : w.cell? a = some v) : a.block < w.heap.size := by
  unfold World.cell? at h
  split at h
  ·rename_i hb; exact lt_of_some hb
  cases h
theorem GZ {w : World} {a : Addr} {v : Value} (h : w.cell? a = some v) : a.spot = none := by
  unfold World.cell? at h
  split at h
  ·split at h
   ·cases h
   rename_i h0
   cases hs : a.spot with
   | none => rfl
   | some x => rw [hs] at h0; exact absurd rfl h0
  cases h
theorem add_plain {a : Addr} (k : Nat) (h : a.spot = none) : a.add k = ⟨a.block, a.off + k, none⟩ := by
  obtain ⟨b, o, s⟩ := a
  cases h
  unfold Addr.add
  split
  ·rename_i h0; subst h0; rfl
  rfl
theorem wG {H : Type} {D : Nat → DataW H} {n i : Nat} (hi : i < n) : Rows.uptoBulk (D i) ≤ Rows.uptoBulkAll ((List.range n).map D) := by
  have hm : D i ∈ (List.range n).map D := List.mem_map.2 ⟨i, List.mem_range.2 hi, rfl⟩
  generalize (List.range n).map D = l at hm
  induction l with
  | nil => cases hm
  | cons x r ih =>
    simp only [Rows.uptoBulkAll]
    rcases List.mem_cons.1 hm with e | hm
    ·subst e; omega
    have := ih hm; omega
theorem I9 {H : Type} (d : DataW H) : 1 ≤ Rows.uptoBulk d := by
  cases d with
  | lit l => cases l <;> simp [Rows.uptoBulk]
  | nil => simp [Rows.uptoBulk]
  | ptr d => simp [Rows.uptoBulk]
  | slice elems spare => simp [Rows.uptoBulk]
  | agg parts => simp [Rows.uptoBulk]
  | iface t d => simp [Rows.uptoBulk]
  | map entries => simp [Rows.uptoBulk]
  | held h => simp [Rows.uptoBulk]
theorem sG {H : Type} (l : List (DataW H)) : l.length ≤ Rows.uptoBulkAll l := by
  induction l with
  | nil => simp [Rows.uptoBulkAll]
  | cons x r ih => have := I9 x; simp only [Rows.uptoBulkAll, List.length_cons]; omega
theorem bulk_mem {H : Type} {d : DataW H} {l : List (DataW H)} (h : d ∈ l) : Rows.uptoBulk d ≤ Rows.uptoBulkAll l := by
  induction l with
  | nil => cases h
  | cons x r ih =>
    simp only [Rows.uptoBulkAll]
    rcases List.mem_cons.1 h with e | h
    ·subst e; omega
    have := ih h; omega
section open_
variable {H : Type} {enc : TypeId × Value → H} {P : Program} {W : World} {sp : Nat → Bool}
theorem sH {α : Type} [Inhabited α] {t e : TypeId} {size : Nat} {f : α → List Value} {Q : α → DataW H → Prop} (ht : P.underlying t = some (.slice e)) (hC : P.cellsOf e = size) (h0 : 0 < size)
    (hel : ∀ n cs x, DataW.trod enc P W 0 sp true n e cs = some x → ∃ a, cs = f a ∧ Q a x.1) (hf : ∀ a, (f a).length = size)
    {fuel : Nat} {cs : List Value} {x : DataW H × List MemPlace} (h : DataW.trod enc P W 0 sp true fuel t cs = some x) :
    ∃ A c, ∃ xs : List α, ∃ D : Nat → DataW H, cs = [.slice A xs.length c] ∧ xs.length ≤ c ∧ c ≤ maxLen ∧ dS (B0 W) A (dm (fun _ a => f a) 0 xs) ∧ (∀ i, i < xs.length → Q (xs.getD i default) (D i)) ∧
      Rows.uptoBulkAll ((List.range xs.length).map D) + 1 ≤ Rows.uptoBulk x.1 := by
  rcases open_slice ht h with ⟨hv, hx⟩ | ⟨a, len, cap, m, n, D, Pl, hcs, hb, hl, hm, hmm, hx, hi⟩
  ·subst hv
   refine ⟨none, 0, [], fun _ => .nil, rfl, Nat.le_refl _, Nat.zero_le _, fun j v hj => by simp [dm] at hj, fun i hi => absurd hi (Nat.not_lt_zero i), ?_⟩
   rw [hx]
   simp [Rows.uptoBulk, Rows.uptoBulkAll]
  have QJ : len ≤ m := by rw [hmm]; split <;> omega
  have hch : ∀ i, ∃ b : α, i < len → (W.cells? 0 (a.add (i * P.cellsOf e)) (P.cellsOf e) = some (f b) ∧ Q b (D i)) := fun i => by
    by_cases hil : i < len
    ·obtain ⟨cs', h1, h2⟩ := hi i (by omega)
     obtain ⟨b, rfl, h3⟩ := hel _ _ _ h2
     exact ⟨b, fun _ => ⟨h1, h3⟩⟩
    exact ⟨default, fun h => absurd h hil⟩
  have hg := fun i => Classical.choose_spec (hch i)
  generalize hG : (fun i => Classical.choose (hch i)) = g at hg
  have hg : ∀ i, i < len → W.cells? 0 (a.add (i * P.cellsOf e)) (P.cellsOf e) = some (f (g i)) ∧ Q (g i) (D i) := fun i hi => by
    have h1 := hg i hi
    have h2 : Classical.choose (hch i) = g i := congrFun hG i
    rw [h2] at h1
    exact h1
  have hlen : ((List.range len).map g).length = len := by simp
  have hget : ∀ i, i < len → ((List.range len).map g)[i]? = some (g i) := fun i hi => by simp [hi]
  have Np : ∀ i, i < len → ((List.range len).map g).getD i default = g i := fun i hi => by rw [List.getD_eq_getElem?_getD, hget i hi]; rfl
  have hs1 : 0 < len → a.spot = none := fun hl0 => by
    obtain ⟨h2, -⟩ := hg 0 hl0
    rw [hC] at h2
    obtain ⟨_, hcl, hat⟩ := World.cells?_some h2
    have h3 := hat 0 h0
    rw [List.getElem?_eq_getElem (by rw [hcl]; exact h0)] at h3
    have e : (a.add (0 * size)).add 0 = a := by rw [Nat.zero_mul]; rfl
    rw [e] at h3
    exact GZ h3
  refine ⟨some a, cap, (List.range len).map g, D, by rw [hlen]; exact hcs, by rw [hlen]; exact hl, hm, fun j v hj => ?_, fun i hi' => ?_, ?_⟩
  ·have hfl := tu (f := fun _ a => f a) (s := size) (fun _ a => hf a) ((List.range len).map g) 0
   have hjl := br hj
   rw [hfl, hlen] at hjl
   have mE : j / size < len := (Nat.div_lt_iff_lt_mul h0).2 hjl
   have hj2 : j % size < size := Nat.mod_lt _ h0
   have e := Nat.div_add_mod j size
   rw [Nat.mul_comm] at e
   have h1 := nD (f := fun _ a => f a) (s := size) (fun _ a => hf a) _ 0 _ (j % size) _ (hget _ mE) hj2
   rw [e, hj] at h1
   obtain ⟨h2, -⟩ := hg _ mE
   rw [hC] at h2
   obtain ⟨_, _, hat⟩ := World.cells?_some h2
   have h3 := hat _ hj2
   rw [← h1] at h3
   have hs1 := hs1 (Nat.lt_of_le_of_lt (Nat.zero_le _) mE)
   rw [add_plain _ hs1] at h3
   rw [add_plain (a := ⟨a.block, a.off + j / size * size, none⟩) _ rfl] at h3
   have e2 : a.off + j / size * size + j % size = a.off + j := by omega
   have h4 : W.cell? ⟨a.block, a.off + j, none⟩ = some v := by rw [← e2]; exact h3
   have ea : (some a : Option Addr) = some ⟨ax (some a), av (some a), none⟩ := by
     obtain ⟨b, o, s⟩ := a
     cases hs1
     rfl
   exact ⟨ea, D4 h4, h4⟩
  ·rw [hlen] at hi'
   rw [Np i hi']
   exact (hg i hi').2
  rw [hx, hlen]
  simp only [Rows.uptoBulk]
  omega
theorem KD {t : TypeId} {n : Nat} {cs : List Value} {x : DataW H × List MemPlace} (ht : P.underlying t = some (.int .u8)) (h : DataW.trod enc P W 0 sp true n t cs = some x) : ∃ b : UInt8, cs = [rN b] ∧ True := by
  obtain ⟨z, h1, _, h3⟩ := DataW.trod_int ht h
  have h4 : 0 ≤ z ∧ z ≤ 255 := by simpa [Lit.wf, IntKind.min, IntKind.max, IntKind.signed, IntKind.bits] using h3
  refine ⟨UInt8.ofNat z.toNat, ?_, trivial⟩
  have e : (((UInt8.ofNat z.toNat).toNat : Nat) : Int) = z := by
    rw [UInt8.toNat_ofNat']
    omega
  rw [rN, e]
  exact h1
def pY (z : Int) : Prop := -9223372036854775808 ≤ z ∧ z ≤ 9223372036854775807
theorem fY {t : TypeId} {n : Nat} {c : Value} {x : DataW H × List MemPlace} (ht : P.underlying t = some (.int .i64)) (h : DataW.trod enc P W 0 sp true n t [c] = some x) : ∃ z, c = .int .i64 z ∧ pY z := by
  obtain ⟨z, h1, _, h3⟩ := DataW.trod_int ht h
  cases h1
  exact ⟨z, rfl, by unfold pY; simpa [Lit.wf, IntKind.min, IntKind.max, IntKind.signed, IntKind.bits] using h3⟩
theorem lC {t : TypeId} {n : Nat} {c : Value} {x : DataW H × List MemPlace} (ht : P.underlying t = some .string) (h : DataW.trod enc P W 0 sp true n t [c] = some x) : ∃ s : ByteArray, c = .string s ∧ s.size + 1 ≤ Rows.uptoBulk x.1 := by
  obtain ⟨s, h1, h2, _⟩ := DataW.trod_string ht h
  cases h1
  refine ⟨s, rfl, ?_⟩
  rw [h2]
  simp only [Rows.uptoBulk, Array.length_toList]
  exact Nat.le_refl _
end open_
section graph
variable {H : Type} {enc : TypeId × Value → H} {W : World} {sp : Nat → Bool}
theorem yu : ∀ (d : List UInt8) (k : Nat), dm (fun _ b => [rN b]) k d = bJ d
  | [], _ => rfl
  | b :: r, k => by rw [dm, yu r (k + 1)]; rfl
theorem yw {n : Nat} {c : Value} {x : DataW H × List MemPlace} (h : DataW.trod enc Tryz.prog W 0 sp true n 41 [c] = some x) :
    ∃ A cp, ∃ d : List UInt8, c = .slice A d.length cp ∧ bG (B0 W) A d ∧ d.length + 1 ≤ Rows.uptoBulk x.1 := by
  obtain ⟨A, cp, xs, D, h1, _, _, h2, _, h3⟩ := sH (α := UInt8) (f := fun b => [rN b]) (Q := fun _ _ => True) Tryz.underlying41 (size := 1) (by kernel_rfl) (by decide) (fun n cs x h => KD Tryz.underlying5 h) (fun _ => rfl) h
  cases h1
  have := sG ((List.range xs.length).map D)
  refine ⟨A, cp, xs, rfl, ?_, by simp at this; omega⟩
  rw [yu] at h2
  exact h2
structure Fa (e : gP) (b : Nat) : Prop where
  id : pY e.id
  name : e.name.size + 1 ≤ b
theorem aX {n : Nat} {cs : List Value} {xs : List (DataW H × List MemPlace)} {i : Nat} {t : TypeId} (h : DataW.trod enc Tryz.prog W 0 sp true n t cs = xs[i]?) (hi : i < xs.length) : DataW.trod enc Tryz.prog W 0 sp true n t cs = some xs[i] ∧ Rows.uptoBulk (xs[i]).1 ≤ Rows.uptoBulk (.agg (xs.map (·.1))) := by
  refine ⟨h.trans (List.getElem?_eq_getElem hi), ?_⟩
  have hm : (xs[i]).1 ∈ xs.map (·.1) := List.mem_map.2 ⟨xs[i], List.getElem_mem hi, rfl⟩
  have := bulk_mem hm
  simp only [Rows.uptoBulk]
  omega
theorem Ja {n : Nat} {cs : List Value} {x : DataW H × List MemPlace} (h : DataW.trod enc Tryz.prog W 0 sp true n 101 cs = some x) : ∃ e : gP, cs = vM e ∧ Fa e (Rows.uptoBulk x.1) := by
  obtain ⟨ys, m, _, hx, hl, kT, hf⟩ := DataW.trod_struct Tryz.underlying101 h
  have hC : Tryz.prog.cellsOf 101 = 2 := by kernel_rfl
  rw [hC] at hl
  match cs, hl with
  | [c0, c1], _ =>
    obtain ⟨h0, b0⟩ := aX (hf 0 _ rfl) (by rw [kT]; decide)
    obtain ⟨h1, _⟩ := aX (hf 1 _ rfl) (by rw [kT]; decide)
    obtain ⟨s, rfl, hs⟩ := lC Tryz.underlying9 h0
    obtain ⟨z, rfl, hz⟩ := fY Tryz.underlying3 h1
    exact ⟨⟨s, z⟩, rfl, ⟨hz, by rw [hx]; exact Nat.le_trans hs b0⟩⟩
theorem G0 {n : Nat} {c : Value} {x : DataW H × List MemPlace} (h : DataW.trod enc Tryz.prog W 0 sp true n 68 [c] = some x) :
    ∃ A cp, ∃ es : List gP, c = .slice A es.length cp ∧ cI (B0 W) A es ∧ es.length + 1 ≤ Rows.uptoBulk x.1 ∧ ∀ i, i < es.length → Fa (en es i) (Rows.uptoBulk x.1) := by
  obtain ⟨A, cp, xs, D, h1, _, _, h2, h4, h3⟩ := sH (α := gP) (f := vM) (Q := fun e d => Fa e (Rows.uptoBulk d)) Tryz.underlying68 (size := 2) (by kernel_rfl) (by decide) (fun n cs x h => Ja h) (fun _ => rfl) h
  cases h1
  have h5 := sG ((List.range xs.length).map D)
  refine ⟨A, cp, xs, rfl, h2, by simp at h5; omega, fun i hi => ⟨(h4 i hi).id, ?_⟩⟩
  have h6 := (h4 i hi).name
  have h7 := wG (D := D) hi
  unfold en
  omega
structure JY (nd : aK) (b : Nat) : Prop where
  ids : pY nd.id ∧ pY nd.kind ∧ pY nd.mode ∧ pY nd.uid ∧ pY nd.gid ∧ pY nd.sec ∧ pY nd.nano
  data : nd.data.length + 1 ≤ b
  target : nd.target.size + 1 ≤ b
  ah : nd.ah.length + 1 ≤ b
  ent : ∀ i, i < nd.ah.length → Fa (en nd.ah i) b
structure yx where
  n : aK
  dA : Option Addr
  dC : Nat
  eA : Option Addr
  eC : Nat
deriving Inhabited
def Mz (a : yx) : List Value := [.int .i64 a.n.id, .int .i64 a.n.kind, .int .i64 a.n.mode, .int .i64 a.n.uid, .int .i64 a.n.gid, .int .i64 a.n.sec, .int .i64 a.n.nano, .slice a.dA a.n.data.length a.dC, .string a.n.target, .slice a.eA a.n.ah.length a.eC]
structure JZ (W : World) (a : yx) (b : Nat) : Prop where
  nb : JY a.n b
  data : bG (B0 W) a.dA a.n.data
  ah : cI (B0 W) a.eA a.n.ah
theorem G1 {n : Nat} {cs : List Value} {x : DataW H × List MemPlace} (h : DataW.trod enc Tryz.prog W 0 sp true n 70 cs = some x) : ∃ a : yx, cs = Mz a ∧ JZ W a (Rows.uptoBulk x.1) := by
  obtain ⟨ys, m, _, hx, hl, kT, hf⟩ := DataW.trod_struct Tryz.underlying70 h
  have hC : Tryz.prog.cellsOf 70 = 10 := by kernel_rfl
  rw [hC] at hl
  match cs, hl with
  | [c0, c1, c2, c3, c4, c5, c6, c7, c8, c9], _ =>
    obtain ⟨h0, _⟩ := aX (hf 0 _ rfl) (by rw [kT]; decide)
    obtain ⟨h1, _⟩ := aX (hf 1 _ rfl) (by rw [kT]; decide)
    obtain ⟨h2, _⟩ := aX (hf 2 _ rfl) (by rw [kT]; decide)
    obtain ⟨h3, _⟩ := aX (hf 3 _ rfl) (by rw [kT]; decide)
    obtain ⟨h4, _⟩ := aX (hf 4 _ rfl) (by rw [kT]; decide)
    obtain ⟨h5, _⟩ := aX (hf 5 _ rfl) (by rw [kT]; decide)
    obtain ⟨h6, b6⟩ := aX (hf 6 _ rfl) (by rw [kT]; decide)
    obtain ⟨h7, b7⟩ := aX (hf 7 _ rfl) (by rw [kT]; decide)
    obtain ⟨h8, b8⟩ := aX (hf 8 _ rfl) (by rw [kT]; decide)
    obtain ⟨z0, rfl, w0⟩ := fY Tryz.underlying3 h0
    obtain ⟨z1, rfl, w1⟩ := fY Tryz.underlying3 h1
    obtain ⟨z2, rfl, w2⟩ := fY Tryz.underlying3 h2
    obtain ⟨z3, rfl, w3⟩ := fY Tryz.underlying3 h3
    obtain ⟨z4, rfl, w4⟩ := fY Tryz.underlying3 h4
    obtain ⟨us, _, _, _, _, nT, hu⟩ := DataW.trod_struct Tryz.underlying26 h5
    obtain ⟨g0, _⟩ := aX (hu 0 _ rfl) (by rw [nT]; decide)
    obtain ⟨g1, _⟩ := aX (hu 1 _ rfl) (by rw [nT]; decide)
    obtain ⟨z5, rfl, w5⟩ := fY (c := c5) Tryz.underlying3 g0
    obtain ⟨z6, rfl, w6⟩ := fY (c := c6) Tryz.underlying3 g1
    obtain ⟨A7, p7, d7, rfl, q7, l7⟩ := yw (c := c7) h6
    obtain ⟨s8, rfl, l8⟩ := lC (c := c8) Tryz.underlying9 h7
    obtain ⟨A9, p9, e9, rfl, q9, l9, k9⟩ := G0 (c := c9) h8
    rw [hx]
    exact ⟨⟨⟨z0, z1, z2, z3, z4, z5, z6, d7, s8, e9⟩, A7, p7, A9, p9⟩, rfl, ⟨⟨w0, w1, w2, w3, w4, w5, w6⟩, Nat.le_trans l7 b6, Nat.le_trans l8 b7, Nat.le_trans l9 b8, fun i hi => ⟨(k9 i hi).id, Nat.le_trans (k9 i hi).name b8⟩⟩, q7, q9⟩
structure nU (ns : List aK) (b : Nat) : Prop where
  len : ns.length + 1 ≤ b
  node : ∀ i, i < ns.length → JY (nd ns i) b
theorem yA (L : Lay) : ∀ (xs : List yx) (k : Nat), (∀ i, i < xs.length → L.dA (k + i) = (xs.getD i default).dA ∧ L.dC (k + i) = (xs.getD i default).dC ∧ L.eA (k + i) = (xs.getD i default).eA ∧ L.eC (k + i) = (xs.getD i default).eC) → dm (fun _ a => Mz a) k xs = dm (nu L) k (xs.map (·.n))
  | [], _, _ => rfl
  | a :: r, k, h => by
    obtain ⟨h1, h2, h3, h4⟩ := h 0 (by simp)
    simp only [Nat.add_zero, List.getD_cons_zero] at h1 h2 h3 h4
    rw [dm, List.map_cons, dm, yA L r (k + 1) (fun i hi => by
      have := h (i + 1) (by simp; omega)
      rw [List.getD_cons_succ] at this
      have e : k + (i + 1) = k + 1 + i := by omega
      rw [e] at this
      exact this)]
    rw [nu, h1, h2, h3, h4]
    rfl
theorem Fb {n : Nat} {c : Value} {x : DataW H × List MemPlace} (h : DataW.trod enc Tryz.prog W 0 sp true n 22 [c] = some x) :
    ∃ A cp, ∃ ns : List aK, ∃ L : Lay, c = .slice A ns.length cp ∧ aA (B0 W) A ns L ∧ nU ns (Rows.uptoBulk x.1) := by
  obtain ⟨A, cp, xs, D, h1, _, _, h2, h4, h3⟩ := sH (α := yx) (f := Mz) (Q := fun a d => JZ W a (Rows.uptoBulk d)) Tryz.underlying22 (size := 10) (by kernel_rfl) (by decide) (fun n cs x h => G1 h) (fun _ => rfl) h
  cases h1
  have h5 := sG ((List.range xs.length).map D)
  have e : (xs.map (·.n)).length = xs.length := by simp
  have hnd : ∀ i, i < xs.length → nd (xs.map (·.n)) i = (xs.getD i default).n := fun i hi => by
    simp [nd, List.getD_eq_getElem?_getD, hi]
  refine ⟨A, cp, xs.map (·.n), ⟨fun i => (xs.getD i default).dA, fun i => (xs.getD i default).eA, fun i => (xs.getD i default).dC, fun i => (xs.getD i default).eC⟩, by rw [e], ⟨?_, fun i hi => ?_, fun i hi => ?_⟩, by simp at h5; rw [e]; omega, fun i hi => ?_⟩
  ·rw [yA ⟨fun i => (xs.getD i default).dA, fun i => (xs.getD i default).eA, fun i => (xs.getD i default).dC, fun i => (xs.getD i default).eC⟩ xs 0 (fun i _ => by rw [Nat.zero_add]; exact ⟨rfl, rfl, rfl, rfl⟩)] at h2
   exact h2
  ·rw [e] at hi
   rw [hnd i hi]
   exact (h4 i hi).data
  ·rw [e] at hi
   rw [hnd i hi]
   exact (h4 i hi).ah
  rw [e] at hi
  rw [hnd i hi]
  have h7 := wG (D := D) hi
  have h8 := (h4 i hi).nb
  exact ⟨h8.ids, by have := h8.data; omega, by have := h8.target; omega, by have := h8.ah; omega, fun j hj => ⟨(h8.ent j hj).id, by have := (h8.ent j hj).name; omega⟩⟩
end graph
end
section
open Go.RowKit
theorem B0.refl (W : World) : (B0 W).le (B0 W) := ⟨fun _ h => h, rfl, rfl, rfl, Nat.le_refl _, fun _ hk => ⟨hk, rfl⟩⟩
section gb
variable {ns : List aK} {b : Nat}
variable (h : nU ns 1048576)
include h
end gb
def L0 : Lay := ⟨fun _ => none, fun _ => none, fun _ => 0, fun _ => 0⟩
end
section
open Go.RowKit Go.Maps HeapM TabM
theorem Spec.Fc {P : Program} {β : Bs} {f : FuncId} {args : Array Value} {pre : List HP} {post : Value → List HP → Prop} {Ψ : Bs → Value → List HP → Prop} (h : Spec P β f args pre post) (Bj : ∀ v l, post v l → ∃ l1 l2, l = l1 ++ l2 ∧ ∀ β', nV β l2 β' → Ψ β' v l1) : dW P β f args pre Ψ := by
  intro A w hS
  refine (h A w hS).mono ?_
  rintro e w' ⟨v, l, h1, h2, h3⟩
  obtain ⟨l1, l2, rfl, hl⟩ := Bj v l h2
  have h4 : Sat β (([.abs A] ++ l1) ++ l2) w' := by rw [List.append_assoc]; exact Sat.turn h3
  obtain ⟨β', g1, _, g3⟩ := h4.yP
  exact ⟨β', v, l1, g1.le, h1, hl β' g1, Sat.turn g3⟩
section c
variable {β : Bs} {S S2 : aF} {L : HL} {f m t : Nat} {c c2 : aT}
theorem wH (hI : Inv S) (hC : fB β c) (h : doM S c = (S2, c2)) : Spec Tryz.prog β 16 #[vP f, .agg ⟨fT c⟩] (pA f m t L S) (fun v l => ∃ L2, v = .agg ⟨fT c2⟩ ∧ l = pA f m t L2 S2) := by
  have h1 := Gy (β := β) S L f m t hI c hC
  rw [h] at h1
  exact h1
theorem yB (hI : Inv S) : dW Tryz.prog β 15 #[vP f] [pF f m t S.X, pI m L S.idx, pO S.O L, pD S.O L, pE S.O L] (fun β' v l => ∃ A cp K, v = .agg #[.slice A (aJ S).length cp] ∧ l = [pF f m t S.X, pI m L S.idx, pO S.O L, pD S.O L, pE S.O L] ∧ aA β' A (aJ S) K) :=
  (Am S L f m t hI).Fc (by
    rintro v l ⟨A, cp, K, rfl, rfl⟩
    exact ⟨_, _, rfl, fun β' h => ⟨A, cp, K, rfl, rfl, h.graph⟩⟩)
theorem zG (h1 : (Lit.int .i64 c.handle).wf = true) (h2 : (Lit.int .i64 c.other).wf = true) (h3 : c.name.size ≤ 1048576) (h4 : c.text.size ≤ 1048576) (h5 : c.data = []) : fB β c :=
  ⟨h1, h2, h3, h4, by rw [h5]; exact fun j v hj => by simp [bJ] at hj, by rw [h5]; decide, by rw [h5]; exact Nat.zero_le _⟩
theorem AF (A : Option Addr) (cp : Nat) (d : List UInt8) (hA : bG β A d) (hl : d.length ≤ 1048576) : dW Tryz.prog β 39 #[.slice A d.length cp] [] (fun β' v l => ∃ B cap, v = .slice B d.length cap ∧ l = [] ∧ bG β' B d ∧ d.length ≤ cap) :=
  (yt A cp d hA hl).Fc (by
    rintro v l ⟨B, cap, rfl, rfl⟩
    refine ⟨[], _, rfl, fun β' h => ⟨B, cap, rfl, rfl, h.bytes, ?_⟩⟩
    obtain ⟨F, h1, _⟩ := h.get 0 rfl
    exact (aE.len h1).2)
theorem Fe {room : Int} (hr : 0 ≤ room ∧ room ≤ 1099511627776) {B : Option Addr} {cp : Nat} {Y : Lay} (hG : aA β B nj Y) : Spec Tryz.prog β 9 #[.agg #[.slice B 2 cp], .agg #[.int .i64 9, .int .i64 room, .int .i64 9, .int .i64 0, .int .i64 0]] [] (fun v l => ∃ S f m t L, E9 room S ∧ v = .tuple #[.pointer (some ⟨f, 0, none⟩), .int .i64 0] ∧ l = pA f m t L S) := by
  refine (zF B cp nj Y hG (by decide) (fun i hi => ?_) (fun i hi j hj => ?_) (fun i hi j hj => ?_) (I7 room)).mono ?_
  ·rcases sE hi with rfl | rfl <;> exact ⟨by decide, by decide⟩
  ·rcases sE hi with rfl | rfl
   ·have : j = 0 := by have hj : j < 1 := hj; omega
    subst this; exact ⟨by decide, by decide⟩
   exact absurd hj (Nat.not_lt_zero j)
  ·rcases sE hi with rfl | rfl
   ·have : j = 0 := by have hj : j < 1 := hj; omega
    subst this; decide
   exact absurd hj (Nat.not_lt_zero j)
  rintro v l (⟨h, _⟩ | ⟨_, h, _⟩ | ⟨_, _, S, f, m, t, L, h1, h2, h3⟩)
  ·exact absurd (Ky hr) h
  ·exact absurd Mq h
  exact ⟨S, f, m, t, L, KA h1, h2, h3⟩
end c
end
section
open Go.RowKit Go.Maps HeapM TabM
section at_
variable {S : aF} {i j : Nat}
theorem Jb (hi : i < S.idx.length) : nd (aJ S) i = uV S.O (bX S i) (jP S i) := by
  unfold nd aJ
  rw [List.getD_eq_getElem?_getD, List.getElem?_map, x9 hi]; rfl
end at_
end
section
open Go.RowKit HeapM TabM Go.Maps
theorem Spec.Ec {P : Program} {β : Bs} {f : FuncId} {args : Array Value} {pre R : List HP} {post : Value → List HP → Prop} (h : ∀ β' : Bs, nV β R β' → Spec P β' f args pre post) : Spec P β f args (pre ++ R) (fun v l => ∃ l0, post v l0 ∧ l = l0 ++ R) := by
  intro A w hS
  have h1 := Sat.turn hS
  rw [← List.append_assoc] at h1
  obtain ⟨β', g1, _, g3⟩ := h1.yP
  refine (h β' g1 A w (Sat.turn g3)).mono ?_
  rintro e w' ⟨v, l, h1, h2, h3⟩
  refine ⟨v, l ++ R, h1, ⟨l, h2, rfl⟩, ?_⟩
  have h4 := g1.back (Sat.turn h3)
  rw [List.append_assoc] at h4
  exact Sat.turn h4
section ints
variable {β : Bs} {A : Option Addr} {l : List Int} {j : Nat}
theorem qG.get (h : dS β A (ints l)) (hj : j < l.length) : A = some ⟨ax A, av A, none⟩ ∧ Rd β ⟨ax A, av A + j * 1, none⟩ (.int .i64 (l.getD j 0)) := by
  rw [Nat.mul_one]
  refine h j _ ?_
  unfold ints
  rw [List.getElem?_map, List.getElem?_eq_getElem hj, List.getD_eq_getElem?_getD, List.getElem?_eq_getElem hj]; rfl
theorem qG.hd (h : dS β A (ints l)) (hj : j < l.length) : A = some ⟨ax A, av A, none⟩ := (qG.get h hj).1
theorem qG.rd (h : dS β A (ints l)) (hj : j < l.length) : Rd β ⟨ax A, av A + j * 1, none⟩ (.int .i64 (l.getD j 0)) := (qG.get h hj).2
end ints
theorem AJ {β : Bs} (A B : Option Addr) (c c' : Nat) (ns ms : List aK) (L K : Lay) (hH : aA β B ms K) (hl : ns.length ≤ 1048576) (hd : ∀ i, i < ns.length → (nd ns i).data.length ≤ 140737488355328 ∧ (nd ns i).ah.length ≤ 1048576) {b : Bool} (hb : decide (ns = ms) = b) :
    Spec Tryz.prog β 17 #[.agg #[.slice A ns.length c], .agg #[.slice B ms.length c']] (EW A c ns L) (fun v l => v = .bool b ∧ l = EW A c ns L) :=
  (Spec.Ec (pre := []) (fun _ g => Bw A B c c' ns ms L K g.graph (hH.le g.le) hl hd)).mono (by rintro v l ⟨l0, ⟨rfl, rfl⟩, rfl⟩; exact ⟨congrArg Value.bool hb, rfl⟩)
theorem CU {β : Bs} (t : Nat) (most au : Int) (L : HL) (us : Used Th) :
    Spec Tryz.prog β 45 #[.pointer (some ⟨t, 0, none⟩)] [.abs (aY 156 t most au (aI L us))] (fun v l => ∃ A c, v = .slice A us.length c ∧ l = [.abs (aY 156 t most au (aI L us)), .abs (aE 3 1 A us.length c (ints (keys us)))]) := by
  have h := BU (β := β) t most au (aI L us)
  have e : keys (aI L us) = keys us := keys_map (cE L) us
  have e2 : (keys us).length = us.length := List.length_map ..
  rw [e, e2] at h
  exact h
theorem Jc {S : aF} (h : Inv0 S) : ∀ i, i < (aJ S).length → (nd (aJ S) i).data.length ≤ 140737488355328 ∧ (nd (aJ S) i).ah.length ≤ 1048576 := fun i hi => by
  rw [mz] at hi
  have h1 : (obj S.O (jP S i).k).data.length ≤ bytes S.idx S.O := jK (g := fun p : Int × Th => (obj S.O p.2.k).data.length) (get_at h hi)
  have h2 : (obj S.O (jP S i).k).ah.length ≤ tot S.idx S.O := jK (g := fun p : Int × Th => (obj S.O p.2.k).ah.length) (get_at h hi)
  have h3 := h.used
  have h4 := h.total
  rw [Jb hi]
  refine ⟨by show (obj S.O (jP S i).k).data.length ≤ _; omega, ?_⟩
  show ((obj S.O (jP S i).k).ah.map _).length ≤ _
  rw [List.length_map]
  omega
theorem s5 {β : Bs} (A : Option Addr) (c : Nat) (ns : List aK) (L : Lay) (hG : aA β A ns L) (hl : ns.length ≤ 1048576) (hd : ∀ i, i < ns.length → (nd ns i).data.length ≤ 1048576 ∧ (nd ns i).ah.length ≤ 1048576) :
    Spec Tryz.prog β 10 #[.agg #[.slice A ns.length c]] [] (fun v l => ∃ B cap, v = .agg #[.slice B ns.length cap] ∧ l = [.abs (mq β (fun β' => ∃ K, aA β' B ns K))]) :=
  (dW.LA (ι := Option Addr × Nat) (vv := fun x => .agg #[.slice x.1 ns.length x.2]) (ll := fun _ => []) (Φ := fun x β' => ∃ K, aA β' x.1 ns K)
    ((Bv A c ns L hG hl hd).mono (by rintro β' v l _ ⟨B, cap, K, rfl, rfl, h⟩; exact ⟨(B, cap), rfl, rfl, K, h⟩))).mono (by rintro v l ⟨⟨B, cap⟩, rfl, rfl⟩; exact ⟨B, cap, rfl, rfl⟩)
end
section
open Go.RowKit Go.Maps HeapM TabM
attribute [local irreducible] aj aS af ai
theorem Jd {β : Bs} (A B : Option Addr) (c d : Nat) (l : List Int) (hA : dS β A (ints l)) (hB : dS β B (ints l)) (hl : l.length ≤ 1048576) :
    Spec Tryz.prog β 19 #[.slice A l.length c, .slice B l.length d] [] (fun v l => v = .bool true ∧ l = []) := by
 refine Spec.enter Tryz.func19 rfl Tryz.ntmps19 (Nat.le_of_ble_eq_true rfl) (fun R => ?_)
 refine SR ?_
 refine gK 1 [] [] ?_
 refine NN (af.seq (SR ?_))
 refine gK 5 [(10, .bool false)] [(4, p_ ⟨[], none, none, none, some (.bool false)⟩ [(Value.bool (!decide ((((l.length : Nat) : Int) : Int) = (((l.length : Nat) : Int) : Int)))) = (.bool false)] ⟨by simp, trivial⟩)] ?_
 refine NN ?_
 refine CF ?_
 refine af.skip (NX (af.seq (SR ?_)))
 refine gK 1 [(5, vI 0)] [] ?_
 refine NN (af.block ?_)
 refine af.loop (ι := Nat) (fun (i : Nat) => (i ≤ l.length)) (fun (i : Nat) => l.length - i) (fun (i : Nat) => [(0, .slice A (l.length) (c)), (1, .slice B (l.length) (d)), (5, vI ↑i)]) (fun (i : Nat) => [.abs R]) 0 (idx := [0, 1, 5]) (pk := [0]) (show (0 ≤ l.length) from Nat.zero_le _) (fun _ => by kernel_rfl) rfl (by kernel_rfl) ?_
 rintro i hi
 show af _ _ _ _ [(0, .slice A (l.length) (c)), (1, .slice B (l.length) (d)), (5, vI ↑i)] [.abs R] _
 refine af.seq (SR ?_)
 refine gK 4 [(14, .bool (decide ((((i : Nat) : Int) : Int) < (((l.length : Nat) : Int) : Int))))] [] ?_
 refine NN ?_
 refine af.bw (p := (((i : Nat) : Int) : Int) < (((l.length : Nat) : Int) : Int)) (fun _ => by kernel_rfl) (fun fU => ?_) (fun fU => ?_)
 ·refine af.skip (NX (af.seq (af.block (af.seq ?_))))
  refine af.bD (by kernel_rfl) (by kernel_rfl) ?_
  refine gQ 9 [(25, .bool false)] [(2, p_ ⟨[], some i, none, some ⟨(ax A), av A, none⟩, none⟩ [((i : Nat) : Int) = ((i : Nat) : Int), i < l.length, (⟨(ax A), av A, none⟩ : Addr).spot = none, (A : Option Addr) = some ⟨(ax A), av A, none⟩] ⟨rfl, by omega, rfl, qG.hd hA (j := i) (by omega), trivial⟩), (3, p_ ⟨[.old (.int .i64 ((l.getD i 0)))], none, none, none, none⟩ [(Rd β ⟨(ax A), av A + i * 1, none⟩ (.int .i64 ((l.getD i 0))))] ⟨qG.rd hA (j := i) (by omega), trivial⟩), (6, p_ ⟨[], some i, none, some ⟨(ax B), av B, none⟩, none⟩ [((i : Nat) : Int) = ((i : Nat) : Int), i < l.length, (⟨(ax B), av B, none⟩ : Addr).spot = none, (B : Option Addr) = some ⟨(ax B), av B, none⟩] ⟨rfl, by omega, rfl, qG.hd hB (j := i) (by omega), trivial⟩), (7, p_ ⟨[.old (.int .i64 ((l.getD i 0)))], none, none, none, none⟩ [(Rd β ⟨(ax B), av B + i * 1, none⟩ (.int .i64 ((l.getD i 0))))] ⟨qG.rd hB (j := i) (by omega), trivial⟩), (8, p_ ⟨[], none, none, none, some (.bool false)⟩ [(Value.bool (!decide (((l.getD i 0) : Int) = ((l.getD i 0) : Int)))) = (.bool false)] ⟨by simp, trivial⟩)] ?_
  refine NQ (NX ?_)
  refine CF ?_
  refine af.skip (ai.aP (NX (af.region ?_)))
  refine gK 3 [(5, vI ↑(i + 1))] [(1, p_ ⟨[], none, none, none, some (vI ↑(i + 1))⟩ [(Value.int .i64 (IntKind.wrap .i64 (((i : Nat) : Int) + 1))) = (.int .i64 ↑(i + 1))] ⟨bH (by omega) (by omega) (by omega), trivial⟩)] ?_
  refine NL ?_
  exact ai.turn ((i + 1)) (idx := [0, 1, 5]) (pk := [0]) (show (((i + 1)) ≤ l.length) from by omega) (by show l.length - ((i + 1)) < l.length - i; omega) (fun _ => by kernel_rfl) rfl (by kernel_rfl)
 refine af.exit (ai.aZ (ai.aZ (ai.ct (NX (SR ?_)))))
 refine gK 1 [(4, .bool true)] [] ?_
 refine NN (af.ret ?_)
 exact RT (.bool true) [0] (⟨rfl, rfl⟩)
theorem Av {β : Bs} (S : aF) (L : HL) (f m t : Nat) : Spec Tryz.prog β 18 #[vP f] [pF f m t S.X, pT t S.X.cH S.au L S.us] (fun v l => ∃ A c, v = .slice A S.us.length c ∧ l = [pF f m t S.X, pT t S.X.cH S.au L S.us, .abs (aE 3 1 A S.us.length c (ints (keys S.us)))]) := by
 refine Spec.enter Tryz.func18 rfl Tryz.ntmps18 (Nat.le_of_ble_eq_true rfl) (fun R => ?_)
 refine SR ?_
 refine gK 1 [] [] ?_
 refine NS ?_
 refine gK 4 [(6, vP t)] [(3, a_ 0 f)] ?_
 refine gL [1] (CU t S.X.cH S.au L S.us) ?_
 rintro _ _ ⟨A, c, rfl, rfl⟩
 refine gK 1 [(2, .slice A (S.us.length) (c))] [] ?_
 refine NN (af.ret ?_)
 exact RT (.slice A (S.us.length) (c)) [2, 0, 1, 3] (⟨A, c, rfl, rfl⟩)
end
section
open Go.RowKit Go.WideShapes Go.ChangeShapes Go.ChangeAt Go.Deep
theorem nU.wide {ns : List aK} {b b' : Nat} (h : nU ns b) (hb : b ≤ b') : nU ns b' := ⟨Nat.le_trans h.len hb, fun i hi => by
  have := h.node i hi
  exact ⟨this.ids, Nat.le_trans this.data hb, Nat.le_trans this.target hb, Nat.le_trans this.ah hb, fun j hj => ⟨(this.ent j hj).id, Nat.le_trans (this.ent j hj).name hb⟩⟩⟩
section gb
variable {ns : List aK} (h : nU ns 1048576)
include h
theorem Bc : ns.length ≤ 1048576 := by have := h.len; omega
theorem Bd : ∀ i, i < ns.length → (nd ns i).data.length ≤ 1048576 ∧ (nd ns i).ah.length ≤ 1048576 := fun i hi => by
  have h1 := (h.node i hi).data
  have h2 := (h.node i hi).ah
  omega
theorem G2 : ∀ i, i < ns.length → ∀ j, j < (nd ns i).ah.length → -9223372036854775808 ≤ (ent ns i j).id ∧ (ent ns i j).id ≤ 9223372036854775807 := fun i hi j hj => ((h.node i hi).ent j hj).id
theorem G4 : ∀ i, i < ns.length → ∀ j, j < (nd ns i).ah.length → (ent ns i j).name.size ≤ 1048576 := fun i hi j hj => by
  have h1 := ((h.node i hi).ent j hj).name
  unfold ent
  omega
end gb
section a
variable {H : Type} {enc : TypeId × Value → H} {W : World} {sp : Nat → Bool}
def MB (A : Option Addr) (n cp : Nat) (X : FM) : Value := .agg #[.slice A n cp, .int .i64 X.cN, .int .i64 X.cB, .int .i64 X.cH, .int .i64 X.cS, .int .i64 X.cZ]
structure OZ (X : FM) : Prop where
  cN : pY X.cN
  cB : pY X.cB
  cH : pY X.cH
  cS : pY X.cS
  cZ : pY X.cZ
theorem open_start {v : Value} {d : DataW H} {ps : List MemPlace} {r : Go.Reach} {b0 : Nat} (hval : Value.okWide Tryz.prog W r b0 30 v) (h : DataW.Trod enc Tryz.prog W 0 sp true 30 v d ps) :
    ∃ A cp, ∃ ns : List aK, ∃ L : Lay, ∃ X : FM, v = MB A ns.length cp X ∧ aA (B0 W) A ns L ∧ nU ns (Rows.uptoBulk d) ∧ OZ X := by
  obtain ⟨cs, rfl, hcs⟩ := okWide_struct Tryz.underlying30 hval
  obtain ⟨fuel, h⟩ := h
  obtain ⟨ys, m, _, hx, hl, kT, hf⟩ := DataW.trod_struct Tryz.underlying30 h
  have hC : Tryz.prog.cellsOf 30 = 6 := by kernel_rfl
  rw [hC] at hcs
  obtain ⟨cs⟩ := cs
  match cs, hcs with
  | [c0, c1, c2, c3, c4, c5], _ =>
    obtain ⟨h0, b0⟩ := aX (hf 0 _ rfl) (by rw [kT]; decide)
    obtain ⟨h1, _⟩ := aX (hf 1 _ rfl) (by rw [kT]; decide)
    obtain ⟨us, _, _, MC, _, nT, hu⟩ := DataW.trod_struct Tryz.underlying24 h0
    obtain ⟨g0, e0⟩ := aX (hu 0 _ rfl) (by rw [nT]; decide)
    obtain ⟨A, cp, ns, L, rfl, hG, hB⟩ := Fb (c := c0) g0
    obtain ⟨vs, _, _, _, _, hvl, hv⟩ := DataW.trod_struct Tryz.underlying28 h1
    obtain ⟨k0, _⟩ := aX (hv 0 _ rfl) (by rw [hvl]; decide)
    obtain ⟨k1, _⟩ := aX (hv 1 _ rfl) (by rw [hvl]; decide)
    obtain ⟨k2, _⟩ := aX (hv 2 _ rfl) (by rw [hvl]; decide)
    obtain ⟨k3, _⟩ := aX (hv 3 _ rfl) (by rw [hvl]; decide)
    obtain ⟨ts, _, _, _, _, htl, ht⟩ := DataW.trod_struct Tryz.underlying26 k3
    obtain ⟨t0, _⟩ := aX (ht 0 _ rfl) (by rw [htl]; decide)
    obtain ⟨t1, _⟩ := aX (ht 1 _ rfl) (by rw [htl]; decide)
    obtain ⟨z0, rfl, w0⟩ := fY (c := c1) Tryz.underlying3 k0
    obtain ⟨z1, rfl, w1⟩ := fY (c := c2) Tryz.underlying3 k1
    obtain ⟨z2, rfl, w2⟩ := fY (c := c3) Tryz.underlying3 k2
    obtain ⟨z3, rfl, w3⟩ := fY (c := c4) Tryz.underlying3 t0
    obtain ⟨z4, rfl, w4⟩ := fY (c := c5) Tryz.underlying3 t1
    cases hx
    rw [MC] at b0
    exact ⟨A, cp, ns, L, ⟨z0, z1, z2, z3, z4, 0, 0, 0⟩, rfl, hG, hB.wide (Nat.le_trans e0 b0), ⟨w0, w1, w2, w3, w4⟩⟩
end a
end
section
open Go.RowKit Go.Maps HeapM TabM
structure iz where
  c : aT
  a : wo
  root : Int
def sI (x : iz) : List Value := [.int .i64 x.c.op, .int .i64 x.c.handle, .int .i64 x.c.other, .string x.c.name, .string x.c.text, .slice x.c.dA x.c.data.length x.c.dC, .int .i64 x.c.mode, .int .i64 x.c.uid, .int .i64 x.c.gid, .int .i64 x.c.sec, .int .i64 x.c.nano, .int .i64 x.c.code, .int .i64 x.c.answer, .int .i64 x.a.at_, .int .i64 x.a.op, .string x.a.path, .string x.a.to, .string x.a.text, .int .i64 x.root]
instance : Inhabited iz := ⟨⟨⟨0, 0, 0, ⟨#[]⟩, ⟨#[]⟩, none, 0, [], 0, 0, 0, 0, 0, 0, 0⟩, ⟨0, 0, ⟨#[]⟩, ⟨#[]⟩, ⟨#[]⟩⟩, 0⟩⟩
def cQ (xs : List iz) (i : Nat) : iz := xs.getD i default
inductive sJ (S : aF) (x : iz) : aF → Int → Prop
  | act (h : ¬ x.a.op = 0) : sJ S x (actM S x.root x.a).2 (actM S x.root x.a).1
  | call (h : x.a.op = 0) (A : Option Addr) (n : Nat) : sJ S x (doM S { x.c with dA := A, dC := n }).1 (doM S { x.c with dA := A, dC := n }).2.code
section p
variable {S S2 S3 : aF} {x : iz} {e : Int} {d to : Nat} {name toName text : ByteArray} {t : Th} {c : aT} {O : bK}
theorem sJ.inv (h : sJ S x S2 e) (hI : Inv S) : Inv S2 := by
  cases h
  ·exact hI.actM
  exact hI.doM _
theorem sJ.err (h : sJ S x S2 e) (he : ¬ e = 0) : S2 = S := by
  cases h
  ·exact Ir he
  exact Km he
structure Grow (S S2 : aF) : Prop where
  used : S2.X.used ≤ S.X.used ∨ S2.X.used ≤ S.X.cB
  cB : S2.X.cB = S.X.cB
  cH : S2.X.cH = S.X.cH
  au : S.au ≤ S2.au
end p
end
section
open Go.RowKit Go.WideShapes Go.ChangeShapes Go.ChangeAt Go.Deep
def ME (xs : List iz) : List Value := dm (fun _ x => sI x) 0 xs
structure sK (β : Bs) (x : iz) (b : Nat) : Prop where
  data : bG β x.c.dA x.c.data
  len : x.c.data.length ≤ b
  name : x.c.name.size ≤ b
  text : x.c.text.size ≤ b
  path : x.a.path.size ≤ b
  to : x.a.to.size ≤ b
  txt : x.a.text.size ≤ b
  hw : (Lit.int .i64 x.c.handle).wf = true
  ow : (Lit.int .i64 x.c.other).wf = true
  rw : (Lit.int .i64 x.root).wf = true
theorem sK.le {β β' : Bs} {x : iz} {b : Nat} (h : sK β x b) (hle : β.le β') : sK β' x b := ⟨h.data.le hle, h.len, h.name, h.text, h.path, h.to, h.txt, h.hw, h.ow, h.rw⟩
structure bZ (β : Bs) (A : Option Addr) (xs : List iz) : Prop where
  row : dS β A (ME xs)
  st : ∀ i, i < xs.length → sK β (cQ xs i) 1048576
theorem bZ.le {β β' : Bs} {A : Option Addr} {xs : List iz} (h : bZ β A xs) (hle : β.le β') : bZ β' A xs := ⟨h.row.le hle, fun i hi => (h.st i hi).le hle⟩
section s
variable {β : Bs} {A : Option Addr} {xs : List iz} {i j : Nat} {v : Value}
theorem bZ.get (h : bZ β A xs) (hi : i < xs.length) (hv : (sI (cQ xs i))[j]? = some v) : A = some ⟨ax A, av A, none⟩ ∧ Rd β ⟨ax A, av A + i * 19 + j, none⟩ v := by
  have hj : j < 19 := br hv
  have h1 := nD (f := fun _ x => sI x) (s := 19) (fun _ _ => rfl) xs 0 i j _ (getD_some (x := default) hi) hj
  have := h.row (i * 19 + j) v (h1.trans hv)
  rw [← Nat.add_assoc] at this
  exact this
theorem bZ.hd (h : bZ β A xs) (hi : i < xs.length) : A = some ⟨ax A, av A, none⟩ := (h.get hi (j := 0) rfl).1
theorem bZ.rd (h : bZ β A xs) (hi : i < xs.length) (hv : (sI (cQ xs i))[j]? = some v) : Rd β ⟨ax A, av A + i * 19 + j, none⟩ v := (h.get hi hv).2
end s
section a
variable {H : Type} {enc : TypeId × Value → H} {W : World} {sp : Nat → Bool}
theorem gZ {t : TypeId} {n : Nat} {c : Value} {x : DataW H × List MemPlace} (ht : Tryz.prog.underlying t = some (.int .i64)) (h : DataW.trod enc Tryz.prog W 0 sp true n t [c] = some x) : ∃ z, c = .int .i64 z ∧ (Lit.int .i64 z).wf = true := by
  obtain ⟨z, h1, _, h3⟩ := DataW.trod_int ht h
  cases h1
  exact ⟨z, rfl, h3⟩
theorem G5 {n : Nat} {cs : List Value} {x : DataW H × List MemPlace} (h : DataW.trod enc Tryz.prog W 0 sp true n 47 cs = some x) : ∃ a : iz, cs = sI a ∧ sK (B0 W) a (Rows.uptoBulk x.1) := by
  obtain ⟨ys, m, _, hx, hl, kT, hf⟩ := DataW.trod_struct Tryz.underlying47 h
  have hC : Tryz.prog.cellsOf 47 = 19 := by kernel_rfl
  rw [hC] at hl
  match cs, hl with
  | [c0, c1, c2, c3, c4, c5, c6, c7, c8, c9, c10, c11, c12, c13, c14, c15, c16, c17, c18], _ =>
    obtain ⟨hc, bc⟩ := aX (hf 0 _ rfl) (by rw [kT]; decide)
    obtain ⟨ha, ba⟩ := aX (hf 1 _ rfl) (by rw [kT]; decide)
    obtain ⟨hr, _⟩ := aX (hf 2 _ rfl) (by rw [kT]; decide)
    obtain ⟨us, _, _, MC, _, nT, hu⟩ := DataW.trod_struct Tryz.underlying43 hc
    obtain ⟨h0, _⟩ := aX (hu 0 _ rfl) (by rw [nT]; decide)
    obtain ⟨h1, _⟩ := aX (hu 1 _ rfl) (by rw [nT]; decide)
    obtain ⟨h2, _⟩ := aX (hu 2 _ rfl) (by rw [nT]; decide)
    obtain ⟨h3, b3⟩ := aX (hu 3 _ rfl) (by rw [nT]; decide)
    obtain ⟨h4, b4⟩ := aX (hu 4 _ rfl) (by rw [nT]; decide)
    obtain ⟨h5, b5⟩ := aX (hu 5 _ rfl) (by rw [nT]; decide)
    obtain ⟨h6, _⟩ := aX (hu 6 _ rfl) (by rw [nT]; decide)
    obtain ⟨h7, _⟩ := aX (hu 7 _ rfl) (by rw [nT]; decide)
    obtain ⟨h8, _⟩ := aX (hu 8 _ rfl) (by rw [nT]; decide)
    obtain ⟨h9, _⟩ := aX (hu 9 _ rfl) (by rw [nT]; decide)
    obtain ⟨h10, _⟩ := aX (hu 10 _ rfl) (by rw [nT]; decide)
    obtain ⟨h11, _⟩ := aX (hu 11 _ rfl) (by rw [nT]; decide)
    obtain ⟨ts, _, _, _, _, htl, ht⟩ := DataW.trod_struct Tryz.underlying26 h9
    obtain ⟨t0, _⟩ := aX (ht 0 _ rfl) (by rw [htl]; decide)
    obtain ⟨t1, _⟩ := aX (ht 1 _ rfl) (by rw [htl]; decide)
    obtain ⟨vs, _, _, PI, _, hvl, hv⟩ := DataW.trod_struct Tryz.underlying45 ha
    obtain ⟨a0, _⟩ := aX (hv 0 _ rfl) (by rw [hvl]; decide)
    obtain ⟨a1, _⟩ := aX (hv 1 _ rfl) (by rw [hvl]; decide)
    obtain ⟨a2, e2⟩ := aX (hv 2 _ rfl) (by rw [hvl]; decide)
    obtain ⟨a3, e3⟩ := aX (hv 3 _ rfl) (by rw [hvl]; decide)
    obtain ⟨a4, e4⟩ := aX (hv 4 _ rfl) (by rw [hvl]; decide)
    obtain ⟨z0, rfl, w0⟩ := gZ (c := c0) Tryz.underlying3 h0
    obtain ⟨z1, rfl, w1⟩ := gZ (c := c1) Tryz.underlying3 h1
    obtain ⟨z2, rfl, w2⟩ := gZ (c := c2) Tryz.underlying3 h2
    obtain ⟨s3, rfl, l3⟩ := lC (c := c3) Tryz.underlying9 h3
    obtain ⟨s4, rfl, l4⟩ := lC (c := c4) Tryz.underlying9 h4
    obtain ⟨A5, p5, d5, rfl, q5, l5⟩ := yw (c := c5) h5
    obtain ⟨z6, rfl, w6⟩ := gZ (c := c6) Tryz.underlying3 h6
    obtain ⟨z7, rfl, w7⟩ := gZ (c := c7) Tryz.underlying3 h7
    obtain ⟨z8, rfl, w8⟩ := gZ (c := c8) Tryz.underlying3 h8
    obtain ⟨z9, rfl, w9⟩ := gZ (c := c9) Tryz.underlying3 t0
    obtain ⟨PJ, rfl, QK⟩ := gZ (c := c10) Tryz.underlying3 t1
    obtain ⟨PK, rfl, QL⟩ := gZ (c := c11) Tryz.underlying34 h10
    obtain ⟨z12, rfl, QM⟩ := gZ (c := c12) Tryz.underlying3 h11
    obtain ⟨PL, rfl, QN⟩ := gZ (c := c13) Tryz.underlying3 a0
    obtain ⟨PN, rfl, QO⟩ := gZ (c := c14) Tryz.underlying3 a1
    obtain ⟨N8, rfl, QS⟩ := lC (c := c15) Tryz.underlying9 a2
    obtain ⟨N9, rfl, QT⟩ := lC (c := c16) Tryz.underlying9 a3
    obtain ⟨Oa, rfl, QU⟩ := lC (c := c17) Tryz.underlying9 a4
    obtain ⟨PO, rfl, PS⟩ := gZ (c := c18) Tryz.underlying3 hr
    have hbx : Rows.uptoBulk x.1 = Rows.uptoBulk (.agg (ys.map (·.1))) := by rw [hx]
    have QV : Rows.uptoBulk (ys[0]'(by rw [kT]; decide)).1 = Rows.uptoBulk (.agg (us.map (·.1))) := by rw [MC]
    have QW : Rows.uptoBulk (ys[1]'(by rw [kT]; decide)).1 = Rows.uptoBulk (.agg (vs.map (·.1))) := by rw [PI]
    exact ⟨⟨⟨z0, z1, z2, s3, s4, A5, p5, d5, z6, z7, z8, z9, PJ, PK, z12⟩, ⟨PL, PN, N8, N9, Oa⟩, PO⟩, rfl, ⟨q5, by show d5.length ≤ _; omega, by show s3.size ≤ _; omega, by show s4.size ≤ _; omega, by show N8.size ≤ _; omega, by show N9.size ≤ _; omega, by show Oa.size ≤ _; omega, w1, w2, PS⟩⟩
theorem open_steps {v : Value} {d : DataW H} {ps : List MemPlace} {r : Go.Reach} {b0 : Nat} (hval : Value.okWide Tryz.prog W r b0 31 v) (h : DataW.Trod enc Tryz.prog W 0 sp true 31 v d ps) (hb : Rows.uptoBulk d ≤ 1048576) :
    ∃ A cp, ∃ xs : List iz, v = .slice A xs.length cp ∧ bZ (B0 W) A xs ∧ xs.length ≤ 1048576 ∧ xs.length ≤ cp := by
  obtain ⟨a, n, c, rfl⟩ := okWide_slice Tryz.underlying31 hval
  obtain ⟨fuel, h⟩ := h
  obtain ⟨A, cp, xs, D, h1, G6, _, h2, h4, h3⟩ := sH (α := iz) (f := sI) (Q := fun a d => sK (B0 W) a (Rows.uptoBulk d)) Tryz.underlying31 (size := 19) (by kernel_rfl) (by decide) (fun n cs x h => G5 h) (fun _ => rfl) h
  cases h1
  have h5 := sG ((List.range xs.length).map D)
  have h3 : Rows.uptoBulkAll ((List.range xs.length).map D) + 1 ≤ Rows.uptoBulk d := h3
  refine ⟨a, c, xs, rfl, ⟨h2, fun i hi => ?_⟩, by simp at h5; omega, G6⟩
  have h6 := h4 i hi
  have h7 := wG (D := D) hi
  exact ⟨h6.data, Nat.le_trans h6.len (by omega), Nat.le_trans h6.name (by omega), Nat.le_trans h6.text (by omega), Nat.le_trans h6.path (by omega), Nat.le_trans h6.to (by omega), Nat.le_trans h6.txt (by omega), h6.hw, h6.ow, h6.rw⟩
end a
end
section
open Go.RowKit Go.Maps HeapM TabM
attribute [local irreducible] aj aS af ai
theorem Je {β : Bs} : dW Tryz.prog β 8 #[] [] (fun _ v l => v = .bool true ∧ l = []) := by
 refine dW.enter Tryz.func8 rfl Tryz.ntmps8 (Nat.le_of_ble_eq_true rfl) (fun hle0 R => ?_)
 refine SR ?_
 refine gK 1 [] [] ?_
 refine NS ?_
 refine aj.nk (d := (some 7)) (R := [.abs R]) (pk := [0]) (fun _ => by kernel_rfl) (GY) rfl (by kernel_rfl) ?_
 rintro β1 _ _ lI ⟨B, Y, rfl, rfl, hG⟩
 replace hle0 := hle0.trans lI
 refine gN 2 (fun b2 => [(1, vP b2)]) (fun b2 => [(1, A_ 1 b2 6)]) (fun _ => []) (fun b2 => .blk b2 [.slice B (2) (2), vI 9, vI 99, vI 9, vI 0, vI 0] 30) (fun b2 => ?_)
 refine NS ?_
 refine gK 4 [(10, .agg #[.slice B (2) (2)]), (12, .agg #[vI 9, vI 99, vI 9, vI 0, vI 0])] [(1, a_ 1 b2), (3, A_ 1 b2 5)] ?_
 refine gL [] (Fe (room := 99) (cp := 2) (by decide) hG) ?_
 rintro _ _ ⟨S, f3, m4, t5, L, h0, rfl, rfl⟩
 refine gK 5 [(2, vP f3), (3, vI 0)] [] ?_
 refine NN (af.seq (SR ?_))
 refine gK 6 [(21, .bool false)] [] ?_
 refine NN ?_
 refine CF ?_
 refine af.skip (NX (SR ?_))
 refine gK 2 [(22, vP f3), (23, .agg #[vI 1, vI 0, vI 1, .string ⟨#[]⟩, .string ⟨#[]⟩, .slice none (0) (0), vI 0, vI 0, vI 0, vI 0, vI 0, vI 0, vI 0])] [] ?_
 have bR : Inv (S1 S) := by have h := h0.inv.doM sF; rw [CS h0] at h; exact h
 refine gL [0, 1, 2, 3, 4, 5] (wH (β := β1) (f := f3) (m := m4) (t := t5) (L := L) h0.inv (zG (by decide) (by decide) (by decide) (by decide) rfl) (CS h0)) ?_
 rintro _ _ ⟨L1, rfl, rfl⟩
 refine gN 2 (fun b6 => [(4, vP b6)]) (fun b6 => [(1, A_ 8 b6 13)]) (fun _ => []) (fun b6 => .blk b6 [vI 1, vI 0, vI 1, .string ⟨#[]⟩, .string ⟨#[]⟩, .slice none (0) (0), vI 0, vI 0, vI 0, vI 0, vI 0, vI 0, vI 1] 43) (fun b6 => ?_)
 refine NS ?_
 refine gK 2 [(25, vP f3), (26, .agg #[vI 4, vI 1, vI 0, .string ⟨#[100]⟩, .string ⟨#[]⟩, .slice none (0) (0), vI 448, vI 0, vI 0, vI 0, vI 0, vI 0, vI 0])] [] ?_
 obtain ⟨S2, hd2, PU, hn2, hc2, ha2, hk2⟩ := Mw h0
 have sX : Inv S2 := by have h := bR.doM rI; rw [hd2] at h; exact h
 refine gL [0, 1, 2, 3, 4, 5] (wH (β := β1) (f := f3) (m := m4) (t := t5) (L := L1) bR (zG (by decide) (by decide) (by decide) (by decide) rfl) hd2) ?_
 rintro _ _ ⟨L2, rfl, rfl⟩
 refine gN 2 (fun b7 => [(5, vP b7)]) (fun b7 => [(1, A_ 9 b7 13)]) (fun _ => []) (fun b7 => .blk b7 [vI 4, vI 1, vI 0, .string ⟨#[100]⟩, .string ⟨#[]⟩, .slice none (0) (0), vI 448, vI 0, vI 0, vI 0, vI 0, vI 0, vI 0] 43) (fun b7 => ?_)
 refine NS ?_
 refine gK 2 [(28, vP f3), (29, .agg #[vI 2, vI 1, vI 0, .string ⟨#[100]⟩, .string ⟨#[]⟩, .slice none (0) (0), vI 0, vI 0, vI 0, vI 0, vI 0, vI 0, vI 0])] [] ?_
 obtain ⟨S3, hd3, PV⟩ := Mx PU hc2 ha2 hk2
 have PW : Inv S3 := by have h := sX.doM yq; rw [hd3] at h; exact h
 refine gL [0, 1, 2, 3, 4, 5] (wH (β := β1) (f := f3) (m := m4) (t := t5) (L := L2) sX (zG (by decide) (by decide) (by decide) (by decide) rfl) hd3) ?_
 rintro _ _ ⟨L3, rfl, rfl⟩
 refine gN 2 (fun b8 => [(6, vP b8)]) (fun b8 => [(1, A_ 10 b8 13)]) (fun _ => []) (fun b8 => .blk b8 [vI 2, vI 1, vI 0, .string ⟨#[100]⟩, .string ⟨#[]⟩, .slice none (0) (0), vI 0, vI 0, vI 0, vI 0, vI 0, vI 0, vI 2] 43) (fun b8 => ?_)
 refine NS ?_
 refine gK 20 [(49, .bool true), (50, vP f3)] [(1, a_ 8 b6), (5, a_ 8 b6), (10, a_ 9 b7), (15, a_ 10 b8)] ?_
 refine aj.nk (d := (some 51)) (R := [pT t5 S3.X.cH S3.au L3 S3.us, .abs R, .blk b2 [.slice B (2) (2), vI 9, vI 99, vI 9, vI 0, vI 0] 30, .blk b6 [vI 1, vI 0, vI 1, .string ⟨#[]⟩, .string ⟨#[]⟩, .slice none (0) (0), vI 0, vI 0, vI 0, vI 0, vI 0, vI 0, vI 1] 43, .blk b7 [vI 4, vI 1, vI 0, .string ⟨#[100]⟩, .string ⟨#[]⟩, .slice none (0) (0), vI 448, vI 0, vI 0, vI 0, vI 0, vI 0, vI 0] 43, .blk b8 [vI 2, vI 1, vI 0, .string ⟨#[100]⟩, .string ⟨#[]⟩, .slice none (0) (0), vI 0, vI 0, vI 0, vI 0, vI 0, vI 0, vI 2] 43]) (pk := [0, 1, 3, 4, 5, 2, 6, 7, 8, 9, 10]) (fun _ => by kernel_rfl) (yB (β := β1) (S := S3) (L := L3) (f := f3) (m := m4) (t := t5) PW) rfl (by kernel_rfl) ?_
 rintro PG _ _ rJ ⟨A4, c4, K4, rfl, rfl, _⟩
 replace hG := hG.le rJ
 replace hle0 := hle0.trans rJ
 refine gK 5 [(0, .bool (decide ((((3 : Nat) : Int) : Int) = (3 : Int))))] [(1, p_ ⟨[], none, none, none, some (vI (((3 : Nat) : Int)))⟩ [((.int .i64 ↑((aJ S3).length) : Value)) = (.int .i64 (((3 : Nat) : Int)))] ⟨by rw [mz, PV, hn2], trivial⟩)] ?_
 refine NN (af.ret ?_)
 exact ai.tq (v := .bool (decide ((((3 : Nat) : Int) : Int) = (3 : Int)))) (l := []) (aU := []) [] [6] hle0 (fun _ => by kernel_rfl) trivial rfl (by kernel_rfl) (⟨rfl, rfl⟩)
end
section
open Go.RowKit Go.Maps HeapM TabM
attribute [local irreducible] aj aS af ai
theorem Dp {β : Bs} (c : aT) (hD : bG β c.dA c.data) (hl : c.data.length ≤ 1048576) :
    dW Tryz.prog β 14 #[.agg ⟨fT c⟩] [] (fun β' v l => ∃ B cp, v = .agg ⟨fT { c with dA := B, dC := cp }⟩ ∧ l = [] ∧ bG β' B c.data ∧ c.data.length ≤ cp) := by
 refine dW.enter Tryz.func14 rfl Tryz.ntmps14 (Nat.le_of_ble_eq_true rfl) (fun hle0 R => ?_)
 refine SR ?_
 refine gN 1 (fun b1 => [(1, vP b1)]) (fun _ => []) (fun _ => []) (fun b1 => .blk b1 [vI (c.op), vI (c.handle), vI (c.other), .string c.name, .string c.text, .slice c.dA (c.data.length) (c.dC), vI (c.mode), vI (c.uid), vI (c.gid), vI (c.sec), vI (c.nano), vI (c.code), vI (c.answer)] 43) (fun b1 => ?_)
 refine gN 1 (fun b2 => [(2, vP b2)]) (fun _ => []) (fun _ => []) (fun b2 => .blk b2 [vI 0, vI 0, vI 0, .string ⟨#[]⟩, .string ⟨#[]⟩, .slice none (0) (0), vI 0, vI 0, vI 0, vI 0, vI 0, vI 0, vI 0] 43) (fun b2 => ?_)
 refine NS ?_
 refine gK 2 [(4, .slice c.dA (c.data.length) (c.dC))] [(1, a_ 1 b1)] ?_
 refine aj.nk (d := (some 5)) (R := [.abs R, pC b1 c, .blk b2 [vI 0, vI 0, vI 0, .string ⟨#[]⟩, .string ⟨#[]⟩, .slice none (0) (0), vI 0, vI 0, vI 0, vI 0, vI 0, vI 0, vI 0] 43]) (pk := [0, 1, 2]) (fun _ => by kernel_rfl) (AF c.dA c.dC c.data hD hl) rfl (by kernel_rfl) ?_
 rintro QX _ _ KE ⟨B, cp, rfl, rfl, hB, G6⟩
 replace hle0 := hle0.trans KE
 refine gC 2 [] [(1, a_ 1 b1)] [(1, [(5, .slice B (c.data.length) (cp))])] ?_
 refine NS ?_
 refine gC 2 [] [(0, A_ 1 b1 13), (1, A_ 2 b2 13)] [(2, [(0, vI (c.op)), (1, vI (c.handle)), (2, vI (c.other)), (3, .string c.name), (4, .string c.text), (5, .slice B (c.data.length) (cp)), (6, vI (c.mode)), (7, vI (c.uid)), (8, vI (c.gid)), (9, vI (c.sec)), (10, vI (c.nano)), (11, vI (c.code)), (12, vI (c.answer))])] ?_
 refine NN (af.ret ?_)
 exact ai.tq (v := .agg #[vI (c.op), vI (c.handle), vI (c.other), .string c.name, .string c.text, .slice B (c.data.length) (cp), vI (c.mode), vI (c.uid), vI (c.gid), vI (c.sec), vI (c.nano), vI (c.code), vI (c.answer)]) (l := []) (aU := [b2 = b2, b2 = b2, b2 = b2, b2 = b2, b2 = b2, b2 = b2, b2 = b2, b2 = b2, b2 = b2, b2 = b2, b2 = b2, b2 = b2, b2 = b2]) [.at 2, .at 2, .at 2, .at 2, .at 2, .at 2, .at 2, .at 2, .at 2, .at 2, .at 2, .at 2, .at 2] [0] hle0 (fun _ => by kernel_rfl) ⟨rfl, rfl, rfl, rfl, rfl, rfl, rfl, rfl, rfl, rfl, rfl, rfl, rfl, trivial⟩ rfl (by kernel_rfl) (⟨B, cp, rfl, rfl, hB, G6⟩)
theorem KF {β : Bs} (S : aF) (L : HL) (f m t : Nat) (hI : Inv S) (x : iz) (hq : sK β x 1048576) (hg : iN β) :
    dW Tryz.prog β 13 #[vP f, .agg ⟨sI x⟩] [.blk f [vI (S.X.cN), vI (S.X.cB), vI (S.X.cH), vI (S.X.cS), vI (S.X.cZ), .map (some m), vP t, vI (S.X.last), vI (S.X.ah), vI (S.X.used)] 86, .abs (aH Tryz.prog 3 m (aM (aI L S.idx)) S.idx.length), .abs (aY 156 t S.X.cH S.au (aI L S.us)), .abs (ak (aN S.O L)), .abs (ak (aV S.O L)), .abs (ak (bg S.O L))] (fun _ v l => ∃ L2 S2 e, sJ S x S2 e ∧ v = vI e ∧ l = [.blk f [vI (S2.X.cN), vI (S2.X.cB), vI (S2.X.cH), vI (S2.X.cS), vI (S2.X.cZ), .map (some m), vP t, vI (S2.X.last), vI (S2.X.ah), vI (S2.X.used)] 86, .abs (aH Tryz.prog 3 m (aM (aI L2 S2.idx)) S2.idx.length), .abs (aY 156 t S2.X.cH S2.au (aI L2 S2.us)), .abs (ak (aN S2.O L2)), .abs (ak (aV S2.O L2)), .abs (ak (bg S2.O L2))]) := by
 refine dW.enter Tryz.func13 rfl Tryz.ntmps13 (Nat.le_of_ble_eq_true rfl) (fun hle0 R => ?_)
 refine SR ?_
 refine gN 2 (fun b4 => [(3, vP b4)]) (fun _ => []) (fun _ => []) (fun b4 => .blk b4 [vI (x.c.op), vI (x.c.handle), vI (x.c.other), .string x.c.name, .string x.c.text, .slice x.c.dA (x.c.data.length) (x.c.dC), vI (x.c.mode), vI (x.c.uid), vI (x.c.gid), vI (x.c.sec), vI (x.c.nano), vI (x.c.code), vI (x.c.answer), vI (x.a.at_), vI (x.a.op), .string x.a.path, .string x.a.to, .string x.a.text, vI (x.root)] 47) (fun b4 => ?_)
 refine NN (af.seq (SR ?_))
 refine gK 4 [(8, .bool (!(decide ((x.a.op : Int) = (0 : Int)))))] [(2, a_ 7 b4)] ?_
 refine NN ?_
 refine af.cq (p := (x.a.op : Int) = (0 : Int)) (fun _ => by kernel_rfl) (fun h8 => ?_) (fun h8 => ?_)
 ·refine SR ?_
  refine gK 5 [(9, vP f), (11, vI (x.root)), (13, .agg #[vI (x.a.at_), vI (x.a.op), .string x.a.path, .string x.a.to, .string x.a.text])] [(2, a_ 7 b4), (4, A_ 7 b4 5)] ?_
  refine gL [0, 1, 2, 3, 4, 5] (Kr S L f m t hI x.root hq.rw x.a hq.path hq.to hq.txt hg) ?_
  rintro _ _ ⟨L2, rfl, rfl⟩
  refine gK 1 [(4, vI ((actM S x.root x.a).1))] [] ?_
  refine NN (af.ret (ai.aq ?_))
  exact ai.tq (v := .int .i64 ((actM S x.root x.a).1)) (l := (pA f m t L2 ((actM S x.root x.a).2))) (aU := []) [] [0, 1, 2, 3, 4, 5, 6] hle0 (fun _ => by kernel_rfl) trivial rfl (by kernel_rfl) (⟨L2, _, _, .act h8, rfl, rfl⟩)
 refine af.skip (NX (SR ?_))
 refine gK 3 [(15, vP f), (17, .agg #[vI (x.c.op), vI (x.c.handle), vI (x.c.other), .string x.c.name, .string x.c.text, .slice x.c.dA (x.c.data.length) (x.c.dC), vI (x.c.mode), vI (x.c.uid), vI (x.c.gid), vI (x.c.sec), vI (x.c.nano), vI (x.c.code), vI (x.c.answer)])] [(2, A_ 7 b4 13)] ?_
 refine aj.nk (d := (some 18)) (R := ((pA f m t L S) ++ [.abs R, .blk b4 [vI (x.c.op), vI (x.c.handle), vI (x.c.other), .string x.c.name, .string x.c.text, .slice x.c.dA (x.c.data.length) (x.c.dC), vI (x.c.mode), vI (x.c.uid), vI (x.c.gid), vI (x.c.sec), vI (x.c.nano), vI (x.c.code), vI (x.c.answer), vI (x.a.at_), vI (x.a.op), .string x.a.path, .string x.a.to, .string x.a.text, vI (x.root)] 47])) (pk := [0, 1, 2, 3, 4, 5, 6, 7]) (fun _ => by kernel_rfl) (Dp x.c hq.data hq.len) rfl (by kernel_rfl) ?_
 rintro QY _ _ KG ⟨B, cp, rfl, rfl, hB, G6⟩
 replace hle0 := hle0.trans KG
 refine gL [0, 1, 2, 3, 4, 5] (Gy S L f m t hI { x.c with dA := B, dC := cp } ⟨hq.hw, hq.ow, hq.name, hq.text, hB, Nat.le_trans hq.len (by decide), G6⟩) ?_
 rintro _ _ ⟨L2, rfl, rfl⟩
 refine gK 2 [(4, vI ((doM S { x.c with dA := B, dC := cp }).2.code))] [] ?_
 refine NN (af.ret ?_)
 exact ai.tq (v := .int .i64 ((doM S { x.c with dA := B, dC := cp }).2.code)) (l := (pA f m t L2 ((doM S { x.c with dA := B, dC := cp }).1))) (aU := []) [] [0, 1, 2, 3, 4, 5, 6] hle0 (fun _ => by kernel_rfl) trivial rfl (by kernel_rfl) (⟨L2, _, _, .call h8 B cp, rfl, rfl⟩)
theorem MF {β : Bs} (A : Option Addr) (c : Nat) (xs : List iz) (hc : xs.length ≤ c) :
    Spec Tryz.prog β 12 #[.slice A xs.length c] [] (fun v l => ∃ n, n ≤ xs.length ∧ v = .slice A n c ∧ l = []) := by
 refine Spec.enter Tryz.func12 rfl Tryz.ntmps12 (Nat.le_of_ble_eq_true rfl) (fun R => ?_)
 refine SR ?_
 refine gK 1 [] [] ?_
 refine NN (af.seq (SR ?_))
 refine gK 3 [(5, .bool (decide ((((xs.length : Nat) : Int) : Int) > (300 : Int))))] [] ?_
 refine NN ?_
 refine af.bw (p := (((xs.length : Nat) : Int) : Int) > (300 : Int)) (fun _ => by kernel_rfl) (fun h5 => ?_) (fun h5 => ?_)
 ·refine SR ?_
  refine gK 3 [(2, .slice A (300) (c))] [(1, p_ ⟨[], some 300, none, none, none⟩ [300 = ((300 : Nat) : Int), 300 ≤ c] ⟨rfl, by omega, trivial⟩)] ?_
  refine NN (af.ret (ai.aq ?_))
  exact RT (.slice A (300) (c)) [0] (⟨300, by omega, rfl, rfl⟩)
 refine af.skip (NX (SR ?_))
 refine gK 2 [(2, .slice A (xs.length) (c))] [] ?_
 refine NN (af.ret ?_)
 exact RT (.slice A (xs.length) (c)) [0] (⟨xs.length, Nat.le_refl _, rfl, rfl⟩)
end
section
open Go.RowKit HeapM TabM Go.Maps
abbrev Ff (X : FM) (ns : List aK) := { S : aF // dZ X ns ns.length 0 S }
abbrev J0 := { e : Int // e ≠ 0 }
theorem Jf {β : Bs} {ns : List aK} {X : FM} (hcap : oO X) (hok : bT ns) (B : Option Addr) (cp : Nat) (hl : ns.length ≤ 1048576) (hd : ∀ i, i < ns.length → (nd ns i).data.length ≤ 1048576 ∧ (nd ns i).ah.length ≤ 1048576) (hwf : ∀ i, i < ns.length → ∀ j, j < (nd ns i).ah.length → -9223372036854775808 ≤ (ent ns i j).id ∧ (ent ns i j).id ≤ 9223372036854775807) (hnm : ∀ i, i < ns.length → ∀ j, j < (nd ns i).ah.length → (ent ns i j).name.size ≤ 1048576) :
    Spec Tryz.prog β 9 #[.agg #[.slice B ns.length cp], .agg #[.int .i64 X.cN, .int .i64 X.cB, .int .i64 X.cH, .int .i64 X.cS, .int .i64 X.cZ]] [.abs (mq β (fun β' => ∃ K, aA β' B ns K))] (fun v l => ∃ (S : Ff X ns) (f m t : Nat) (L : HL), v = .tuple #[.pointer (some ⟨f, 0, none⟩), .int .i64 0] ∧ l = pA f m t L S.1) :=
  Spec.EB fun _ _ ⟨K, hG⟩ => (zF B cp ns K hG hl hd hwf hnm X).mono (by
    rintro v l (⟨h, _⟩ | ⟨_, h, _⟩ | ⟨_, _, h⟩)
    ·exact absurd hcap h
    ·exact absurd hok h
    obtain ⟨S, f, m, t, L, h1, h2, h3⟩ := h
    exact ⟨⟨S, h1⟩, f, m, t, L, h2, h3⟩)
theorem G7 {β : Bs} {ns : List aK} {X : FM} (O0 : ¬ (oO X ∧ bT ns)) (B : Option Addr) (cp : Nat) (hl : ns.length ≤ 1048576) (hd : ∀ i, i < ns.length → (nd ns i).data.length ≤ 1048576 ∧ (nd ns i).ah.length ≤ 1048576) (hwf : ∀ i, i < ns.length → ∀ j, j < (nd ns i).ah.length → -9223372036854775808 ≤ (ent ns i j).id ∧ (ent ns i j).id ≤ 9223372036854775807) (hnm : ∀ i, i < ns.length → ∀ j, j < (nd ns i).ah.length → (ent ns i j).name.size ≤ 1048576) :
    Spec Tryz.prog β 9 #[.agg #[.slice B ns.length cp], .agg #[.int .i64 X.cN, .int .i64 X.cB, .int .i64 X.cH, .int .i64 X.cS, .int .i64 X.cZ]] [.abs (mq β (fun β' => ∃ K, aA β' B ns K))] (fun v l => ∃ e : J0, v = .tuple #[.pointer none, .int .i64 e.1] ∧ l = []) :=
  Spec.EB fun _ _ ⟨K, hG⟩ => (zF B cp ns K hG hl hd hwf hnm X).mono (by
    rintro v l (⟨_, h1, h2⟩ | ⟨_, _, h1, h2⟩ | ⟨h1, h2, _⟩)
    ·exact ⟨⟨179, by decide⟩, h1, h2⟩
    ·exact ⟨⟨140, by decide⟩, h1, h2⟩
    exact absurd ⟨h1, h2⟩ O0)
theorem Fg {β : Bs} (S : aF) (L : HL) (f m t : Nat) : dW Tryz.prog β 18 #[vP f] [pF f m t S.X, pT t S.X.cH S.au L S.us] (fun β' v l => ∃ A c, v = .slice A S.us.length c ∧ l = [pF f m t S.X, pT t S.X.cH S.au L S.us] ∧ dS β' A (ints (keys S.us))) :=
  (Av S L f m t).Fc (by
    rintro v l ⟨A, c, rfl, rfl⟩
    refine ⟨[_, _], _, rfl, fun β' h => ⟨A, c, rfl, rfl, ?_⟩⟩
    obtain ⟨F, h1, h2⟩ := h.get 0 rfl
    exact dS.jZ h1 h2 rfl)
theorem G8 {β : Bs} (A B : Option Addr) (c d : Nat) {n1 n2 : Nat} {l1 l2 : List Int} (e1 : n1 = l1.length) (e2 : n2 = l2.length) (e : l1 = l2) (hB : dS β B (ints l2)) (hl : l1.length ≤ 1048576) :
    Spec Tryz.prog β 19 #[.slice A n1 c, .slice B n2 d] [.abs (aE 3 1 A n1 c (ints l1))] (fun v l => v = .bool true ∧ l = [.abs (aE 3 1 A n1 c (ints l1))]) := by
  subst e1 e2 e
  refine (Spec.Ec (pre := []) (post := fun v l => v = .bool true ∧ l = []) (fun β' g => ?_)).mono (by rintro v l ⟨l0, ⟨rfl, rfl⟩, rfl⟩; exact ⟨rfl, rfl⟩)
  obtain ⟨F, h1, h2⟩ := g.get 0 rfl
  exact Jd A B c d l1 (dS.jZ h1 h2 rfl) (hB.le g.le) hl
theorem mV (us : Used Th) : us.length = (keys us).length := (List.length_map ..).symm
theorem MG {S : aF} (h : Inv0 S) : (keys S.us).length ≤ 1048576 := by
  rw [← mV]
  have h1 := h.xj
  have h2 := h.cH
  omega
theorem Jg {S : aF} (h : Inv0 S) : (aJ S).length ≤ 1048576 := by
  rw [mz]
  have := h.len
  omega
end
section
open Go.RowKit Go.Maps HeapM TabM
attribute [local irreducible] aj aS af ai
theorem law_refused (W : World) (A : Option Addr) (c : Nat) (ns : List aK) (Y : Lay) (X : FM) (hG : aA (B0 W) A ns Y) (hB : nU ns 1048576) (A1 : Option Addr) (c1 : Nat) (xs : List iz) (hS : bZ (B0 W) A1 xs) (hxl : xs.length ≤ 1048576) (hxc : xs.length ≤ c1) (hg : iN (B0 W)) :
    Spec Tryz.prog (B0 W) 4 #[.agg #[.slice A (ns.length) (c), vI (X.cN), vI (X.cB), vI (X.cH), vI (X.cS), vI (X.cZ)], .slice A1 (xs.length) (c1)] [] (fun v _ => v = .bool true) := by
 have hle0 := B0.refl W
 refine Spec.enter Tryz.func4 rfl Tryz.ntmps4 (Nat.le_of_ble_eq_true rfl) (fun R => ?_)
 refine SR ?_
 refine gN 2 (fun b1 => [(2, vP b1)]) (fun _ => []) (fun _ => []) (fun b1 => .blk b1 [.slice A (ns.length) (c), vI (X.cN), vI (X.cB), vI (X.cH), vI (X.cS), vI (X.cZ)] 30) (fun b1 => ?_)
 refine NN (af.seq (SR ?_))
 refine aj.nk (d := (some 10)) (R := [.abs R, .blk b1 [.slice A (ns.length) (c), vI (X.cN), vI (X.cB), vI (X.cH), vI (X.cS), vI (X.cZ)] 30]) (pk := [0, 1]) (fun _ => by kernel_rfl) (Je) rfl (by kernel_rfl) ?_
 rintro q4 _ _ kz ⟨rfl, rfl⟩
 replace hG := hG.le kz
 replace hS := hS.le kz
 replace hg := hg.le kz
 replace hle0 := hle0.trans kz
 refine gK 1 [(11, .bool false)] [] ?_
 refine NN ?_
 refine CF ?_
 refine af.skip (NX (af.seq ?_))
 by_cases Jh : oO X ∧ bT ns
 ·refine af.kG (S := [.blk b1 [.slice A (ns.length) (c), vI (X.cN), vI (X.cB), vI (X.cH), vI (X.cS), vI (X.cZ)] 30]) [(true, 0), (true, 1), (true, 3), (true, 4), (false, 2), (false, 5), (true, 6), (true, 7), (true, 8), (true, 9), (false, 10)] [1] (by kernel_rfl) (by kernel_rfl) rfl (by kernel_rfl) ?_
  refine dO.reads (l := [(false, 2), (false, 5), (true, 6), (true, 7), (true, 8), (true, 9), (false, 10)]) (fr' := [(1, .slice A1 (xs.length) (c1)), (14, .agg #[.slice A (ns.length) (c)]), (17, .agg #[vI (X.cN), vI (X.cB), vI (X.cH), vI (X.cS), vI (X.cZ)])]) (aU := [b1 = b1, b1 = b1, b1 = b1, b1 = b1, b1 = b1, b1 = b1]) [0, 1, 3, 4] [o_, ⟨[.at 0], none, none, none, none⟩, o_, ⟨[.at 0, .at 0, .at 0, .at 0, .at 0], none, none, none, none⟩] [1, 14, 17] (fun _ => by kernel_rfl) ⟨rfl, rfl, rfl, rfl, rfl, rfl, trivial⟩ rfl ?_
  refine dO.cut (ι := (Option Addr) × Nat) (fr' := fun ((B, cp) : (Option Addr) × Nat) => [(1, .slice A1 (xs.length) (c1)), (15, .agg #[.slice B (ns.length) (cp)]), (17, .agg #[vI (X.cN), vI (X.cB), vI (X.cH), vI (X.cS), vI (X.cZ)])]) (hp' := fun ((B, cp) : (Option Addr) × Nat) => [.abs (mq q4 (fun β' => ∃ K, aA β' B ns K)), .abs R, .blk b1 [.slice A (ns.length) (c), vI (X.cN), vI (X.cB), vI (X.cH), vI (X.cS), vI (X.cZ)] 30]) [2] (by kernel_rfl) ?_ rfl (fun _ => by kernel_rfl) ?_
  ·refine gL [] (s5 (β := q4) A c ns Y hG (Bc hB) (Bd hB)) ?_
   rintro _ _ ⟨B, cp, rfl, rfl⟩
   refine NL ?_
   exact MD (B, cp) [1, 15, 17] [0, 1, 2]
  rintro ⟨B, cp⟩
  refine dO.cut (ι := (Ff X ns) × Nat × Nat × Nat × HL) (fr' := fun ((N, f, m, t, L) : (Ff X ns) × Nat × Nat × Nat × HL) => [(1, .slice A1 (xs.length) (c1)), (18, .tuple #[vP f, vI 0])]) (hp' := fun ((N, f, m, t, L) : (Ff X ns) × Nat × Nat × Nat × HL) => [.blk f [vI (N.1.X.cN), vI (N.1.X.cB), vI (N.1.X.cH), vI (N.1.X.cS), vI (N.1.X.cZ), .map (some m), vP t, vI (N.1.X.last), vI (N.1.X.ah), vI (N.1.X.used)] 86, .abs (aH Tryz.prog 3 m (aM (aI L N.1.idx)) N.1.idx.length), .abs (aY 156 t N.1.X.cH N.1.au (aI L N.1.us)), .abs (ak (aN N.1.O L)), .abs (ak (aV N.1.O L)), .abs (ak (bg N.1.O L)), .abs R, .blk b1 [.slice A (ns.length) (c), vI (X.cN), vI (X.cB), vI (X.cH), vI (X.cS), vI (X.cZ)] 30]) [7] (by kernel_rfl) ?_ rfl (fun _ => by kernel_rfl) ?_
  ·refine gL [0] (Jf (β := q4) (X := X) Jh.1 Jh.2 B cp (Bc hB) (Bd hB) (G2 hB) (G4 hB)) ?_
   rintro _ _ ⟨N, f, m, t, L, rfl, rfl⟩
   refine NL ?_
   exact MD (N, f, m, t, L) [1, 18] [0, 1, 2, 3, 4, 5, 6, 7]
  rintro ⟨N, f, m, t, L⟩
  refine dO.reads (l := [(false, 10)]) (fr' := [(1, .slice A1 (xs.length) (c1)), (5, vP f), (20, vI 0)]) (aU := []) [6, 7, 8, 9] [o_, o_, o_, o_] [1, 5, 20] (fun _ => by kernel_rfl) trivial rfl ?_
  refine dO.last (by kernel_rfl) ?_
  refine gK 1 [(6, vI 0)] [] ?_
  refine NL (ai.np (NX (af.seq (SR ?_))))
  refine gK 6 [(26, .bool false)] [] ?_
  refine NN ?_
  refine CF ?_
  refine af.skip (NX (SR ?_))
  refine gK 1 [(33, .slice A1 (xs.length) (c1))] [] ?_
  refine gL [] (MF A1 c1 xs hxc) ?_
  rintro _ _ ⟨n, hn, rfl, rfl⟩
  refine gK 1 [(1, .slice A1 (n) (c1))] [] ?_
  refine NN (af.seq (SR ?_))
  refine gK 1 [(7, vI 0)] [] ?_
  refine NN (af.block ?_)
  refine af.Jk (ι := Nat × Bs × aF × HL) (fun ((i, b, S, L) : Nat × Bs × aF × HL) => b) (fun ((i, b, S, L) : Nat × Bs × aF × HL) => (i ≤ n) ∧ ((B0 W).le b) ∧ (bZ b A1 xs) ∧ (iN b) ∧ (Inv S)) (fun ((i, b, S, L) : Nat × Bs × aF × HL) => n - i) (fun ((i, b, S, L) : Nat × Bs × aF × HL) => [(1, .slice A1 (n) (c1)), (5, vP f), (7, vI ↑i)]) (fun ((i, b, S, L) : Nat × Bs × aF × HL) => [.blk b1 [.slice A (ns.length) (c), vI (X.cN), vI (X.cB), vI (X.cH), vI (X.cS), vI (X.cZ)] 30, pF f m t S.X, pI m L S.idx, pT t S.X.cH S.au L S.us, pO S.O L, pD S.O L, pE S.O L, .abs R]) (0, q4, N.1, L) rfl (idx := [1, 5, 7]) (pk := [7, 0, 1, 2, 3, 4, 5, 6]) (show (0 ≤ n) ∧ ((B0 W).le q4) ∧ (bZ q4 A1 xs) ∧ (iN q4) ∧ (Inv N.1) from ⟨Nat.zero_le _, hle0, hS, hg, N.2.full⟩) (fun _ => by kernel_rfl) rfl (by kernel_rfl) ?_
  rintro ⟨i, b, S, L⟩ ⟨hi, hle0, hS, hg, hI⟩
  show af _ b _ _ [(1, .slice A1 (n) (c1)), (5, vP f), (7, vI ↑i)] [.blk b1 [.slice A (ns.length) (c), vI (X.cN), vI (X.cB), vI (X.cH), vI (X.cS), vI (X.cZ)] 30, pF f m t S.X, pI m L S.idx, pT t S.X.cH S.au L S.us, pO S.O L, pD S.O L, pE S.O L, .abs R] _
  refine af.seq (SR ?_)
  refine gK 4 [(38, .bool (decide ((((i : Nat) : Int) : Int) < (((n : Nat) : Int) : Int))))] [] ?_
  refine NN ?_
  refine af.bw (p := (((i : Nat) : Int) : Int) < (((n : Nat) : Int) : Int)) (fun _ => by kernel_rfl) (fun tE => ?_) (fun tE => ?_)
  ·refine af.skip (NX (af.seq (af.block (SR ?_))))
   refine gK 1 [(41, vP f)] [] ?_
   refine aj.nk (d := (some 42)) (R := [.blk b1 [.slice A (ns.length) (c), vI (X.cN), vI (X.cB), vI (X.cH), vI (X.cS), vI (X.cZ)] 30, pT t S.X.cH S.au L S.us, .abs R]) (pk := [1, 2, 4, 5, 6, 0, 3, 7]) (fun _ => by kernel_rfl) (yB (β := b) (S := S) (L := L) (f := f) (m := m) (t := t) hI) rfl (by kernel_rfl) ?_
   rintro PX _ _ zH ⟨G3, c4, K5, rfl, rfl, hH⟩
   replace hS := hS.le zH
   replace hg := hg.le zH
   replace hle0 := hle0.trans zH
   refine gN 2 (fun b7 => [(8, vP b7)]) (fun b7 => [(1, a_ 8 b7)]) (fun _ => []) (fun b7 => .blk b7 [.slice G3 ((aJ S).length) (c4)] 24) (fun b7 => ?_)
   refine NS ?_
   refine gK 1 [(43, vP f)] [] ?_
   refine aj.nk (d := (some 44)) (R := [pI m L S.idx, pO S.O L, pD S.O L, pE S.O L, .blk b1 [.slice A (ns.length) (c), vI (X.cN), vI (X.cB), vI (X.cH), vI (X.cS), vI (X.cZ)] 30, .abs R, .blk b7 [.slice G3 ((aJ S).length) (c4)] 24]) (pk := [0, 6, 1, 2, 3, 4, 5, 7, 8]) (fun _ => by kernel_rfl) (Fg (β := PX) S L f m t) rfl (by kernel_rfl) ?_
   rintro ji _ _ sM ⟨H8, c9, rfl, rfl, MH⟩
   replace hS := hS.le sM
   replace hg := hg.le sM
   replace hH := hH.le sM
   replace hle0 := hle0.trans sM
   refine gK 1 [(9, .slice H8 (S.us.length) (c9))] [] ?_
   refine NN (af.seq (SR ?_))
   refine gK 5 [(45, vP f), (49, .agg #[vI ((cQ xs i).c.op), vI ((cQ xs i).c.handle), vI ((cQ xs i).c.other), .string (cQ xs i).c.name, .string (cQ xs i).c.text, .slice (cQ xs i).c.dA ((cQ xs i).c.data.length) ((cQ xs i).c.dC), vI ((cQ xs i).c.mode), vI ((cQ xs i).c.uid), vI ((cQ xs i).c.gid), vI ((cQ xs i).c.sec), vI ((cQ xs i).c.nano), vI ((cQ xs i).c.code), vI ((cQ xs i).c.answer), vI ((cQ xs i).a.at_), vI ((cQ xs i).a.op), .string (cQ xs i).a.path, .string (cQ xs i).a.to, .string (cQ xs i).a.text, vI ((cQ xs i).root)])] [(3, p_ ⟨[], some i, none, some ⟨(ax A1), av A1, none⟩, none⟩ [((i : Nat) : Int) = ((i : Nat) : Int), i < n, (⟨(ax A1), av A1, none⟩ : Addr).spot = none, (A1 : Option Addr) = some ⟨(ax A1), av A1, none⟩] ⟨rfl, by omega, rfl, bZ.hd hS (i := i) (by omega), trivial⟩), (4, p_ ⟨[.old (.int .i64 ((cQ xs i).c.op)), .old (.int .i64 ((cQ xs i).c.handle)), .old (.int .i64 ((cQ xs i).c.other)), .old (.string (cQ xs i).c.name), .old (.string (cQ xs i).c.text), .old (.slice (cQ xs i).c.dA ((cQ xs i).c.data.length) ((cQ xs i).c.dC)), .old (.int .i64 ((cQ xs i).c.mode)), .old (.int .i64 ((cQ xs i).c.uid)), .old (.int .i64 ((cQ xs i).c.gid)), .old (.int .i64 ((cQ xs i).c.sec)), .old (.int .i64 ((cQ xs i).c.nano)), .old (.int .i64 ((cQ xs i).c.code)), .old (.int .i64 ((cQ xs i).c.answer)), .old (.int .i64 ((cQ xs i).a.at_)), .old (.int .i64 ((cQ xs i).a.op)), .old (.string (cQ xs i).a.path), .old (.string (cQ xs i).a.to), .old (.string (cQ xs i).a.text), .old (.int .i64 ((cQ xs i).root))], none, none, none, none⟩ [(Rd ji ⟨(ax A1), av A1 + i * 19 + 18, none⟩ (.int .i64 ((cQ xs i).root))), (Rd ji ⟨(ax A1), av A1 + i * 19 + 17, none⟩ (.string (cQ xs i).a.text)), (Rd ji ⟨(ax A1), av A1 + i * 19 + 16, none⟩ (.string (cQ xs i).a.to)), (Rd ji ⟨(ax A1), av A1 + i * 19 + 15, none⟩ (.string (cQ xs i).a.path)), (Rd ji ⟨(ax A1), av A1 + i * 19 + 14, none⟩ (.int .i64 ((cQ xs i).a.op))), (Rd ji ⟨(ax A1), av A1 + i * 19 + 13, none⟩ (.int .i64 ((cQ xs i).a.at_))), (Rd ji ⟨(ax A1), av A1 + i * 19 + 12, none⟩ (.int .i64 ((cQ xs i).c.answer))), (Rd ji ⟨(ax A1), av A1 + i * 19 + 11, none⟩ (.int .i64 ((cQ xs i).c.code))), (Rd ji ⟨(ax A1), av A1 + i * 19 + 10, none⟩ (.int .i64 ((cQ xs i).c.nano))), (Rd ji ⟨(ax A1), av A1 + i * 19 + 9, none⟩ (.int .i64 ((cQ xs i).c.sec))), (Rd ji ⟨(ax A1), av A1 + i * 19 + 8, none⟩ (.int .i64 ((cQ xs i).c.gid))), (Rd ji ⟨(ax A1), av A1 + i * 19 + 7, none⟩ (.int .i64 ((cQ xs i).c.uid))), (Rd ji ⟨(ax A1), av A1 + i * 19 + 6, none⟩ (.int .i64 ((cQ xs i).c.mode))), (Rd ji ⟨(ax A1), av A1 + i * 19 + 5, none⟩ (.slice (cQ xs i).c.dA ((cQ xs i).c.data.length) ((cQ xs i).c.dC))), (Rd ji ⟨(ax A1), av A1 + i * 19 + 4, none⟩ (.string (cQ xs i).c.text)), (Rd ji ⟨(ax A1), av A1 + i * 19 + 3, none⟩ (.string (cQ xs i).c.name)), (Rd ji ⟨(ax A1), av A1 + i * 19 + 2, none⟩ (.int .i64 ((cQ xs i).c.other))), (Rd ji ⟨(ax A1), av A1 + i * 19 + 1, none⟩ (.int .i64 ((cQ xs i).c.handle))), (Rd ji ⟨(ax A1), av A1 + i * 19, none⟩ (.int .i64 ((cQ xs i).c.op)))] ⟨bZ.rd hS (i := i) (by omega) (j := 18) rfl, bZ.rd hS (i := i) (by omega) (j := 17) rfl, bZ.rd hS (i := i) (by omega) (j := 16) rfl, bZ.rd hS (i := i) (by omega) (j := 15) rfl, bZ.rd hS (i := i) (by omega) (j := 14) rfl, bZ.rd hS (i := i) (by omega) (j := 13) rfl, bZ.rd hS (i := i) (by omega) (j := 12) rfl, bZ.rd hS (i := i) (by omega) (j := 11) rfl, bZ.rd hS (i := i) (by omega) (j := 10) rfl, bZ.rd hS (i := i) (by omega) (j := 9) rfl, bZ.rd hS (i := i) (by omega) (j := 8) rfl, bZ.rd hS (i := i) (by omega) (j := 7) rfl, bZ.rd hS (i := i) (by omega) (j := 6) rfl, bZ.rd hS (i := i) (by omega) (j := 5) rfl, bZ.rd hS (i := i) (by omega) (j := 4) rfl, bZ.rd hS (i := i) (by omega) (j := 3) rfl, bZ.rd hS (i := i) (by omega) (j := 2) rfl, bZ.rd hS (i := i) (by omega) (j := 1) rfl, bZ.rd hS (i := i) (by omega) (j := 0) rfl, trivial⟩)] ?_
   refine aj.nk (d := (some 50)) (R := [.blk b1 [.slice A (ns.length) (c), vI (X.cN), vI (X.cB), vI (X.cH), vI (X.cS), vI (X.cZ)] 30, .abs R, .blk b7 [.slice G3 ((aJ S).length) (c4)] 24]) (pk := [0, 2, 1, 3, 4, 5, 6, 7, 8]) (fun _ => by kernel_rfl) (KF (β := ji) S L f m t hI (cQ xs i) (hS.st i (by omega)) hg) rfl (by kernel_rfl) ?_
   rintro qU _ _ pZ ⟨L2, S2, e, hp, rfl, rfl⟩
   replace hS := hS.le pZ
   replace hg := hg.le pZ
   replace hH := hH.le pZ
   replace MH := MH.le pZ
   replace hle0 := hle0.trans pZ
   refine gK 1 [(51, .bool (decide ((e : Int) = (0 : Int))))] [] ?_
   refine NN ?_
   refine af.bw (p := (e : Int) = (0 : Int)) (fun _ => by kernel_rfl) (fun Ob => ?_) (fun Ob => ?_)
   ·have sX := hp.inv hI
    refine af.exit (ai.aZ (ai.ct (NX (af.region ?_))))
    refine gK 3 [(7, vI ↑(i + 1))] [(1, p_ ⟨[], none, none, none, some (vI ↑(i + 1))⟩ [(Value.int .i64 (IntKind.wrap .i64 (((i : Nat) : Int) + 1))) = (.int .i64 ↑(i + 1))] ⟨bH (by omega) (by omega) (by omega), trivial⟩)] ?_
    refine NL ?_
    exact ai.D6 ((i + 1), qU, S2, L2) (hb := rfl) (idx := [1, 5, 7]) (pk := [6, 0, 1, 2, 3, 4, 5, 7]) (show (((i + 1)) ≤ n) ∧ ((B0 W).le qU) ∧ (bZ qU A1 xs) ∧ (iN qU) ∧ (Inv S2) from ⟨by omega, hle0, hS, hg, sX⟩) (by show n - ((i + 1)) < n - i; omega) (fun _ => by kernel_rfl) rfl (by kernel_rfl)
   have sX := hp.inv hI
   have oh : S2 = S := hp.err Ob
   refine af.skip (NX (af.seq ?_))
   refine af.kG (S := [.blk b7 [.slice G3 ((aJ S).length) (c4)] 24]) [(true, 0), (true, 2), (false, 1), (false, 3), (true, 4), (true, 5), (true, 6), (true, 8), (false, 7), (false, 9), (true, 10), (false, 11)] [8] (by kernel_rfl) (by kernel_rfl) rfl (by kernel_rfl) ?_
   refine dO.reads (l := [(false, 1), (false, 3), (true, 4), (true, 5), (true, 6), (true, 8), (false, 7), (false, 9), (true, 10), (false, 11)]) (fr' := [(1, .slice A1 (n) (c1)), (5, vP f), (7, vI ↑i), (9, .slice H8 (S.us.length) (c9)), (52, vP f), (54, .agg #[.slice G3 ((aJ S).length) (c4)])]) (aU := [b7 = b7]) [0, 2] [o_, ⟨[.at 0], none, none, none, none⟩] [1, 5, 7, 9, 52, 54] (fun _ => by kernel_rfl) ⟨rfl, trivial⟩ rfl ?_
   refine dO.cut (ι := (Option Addr) × Nat × Lay) (fr' := fun ((Ao, co, Ko) : (Option Addr) × Nat × Lay) => [(1, .slice A1 (n) (c1)), (5, vP f), (7, vI ↑i), (9, .slice H8 (S.us.length) (c9)), (53, .agg #[.slice Ao ((aJ S2).length) (co)]), (54, .agg #[.slice G3 ((aJ S).length) (c4)])]) (hp' := fun ((Ao, co, Ko) : (Option Addr) × Nat × Lay) => [.blk f [vI (S2.X.cN), vI (S2.X.cB), vI (S2.X.cH), vI (S2.X.cS), vI (S2.X.cZ), .map (some m), vP t, vI (S2.X.last), vI (S2.X.ah), vI (S2.X.used)] 86, .abs (aH Tryz.prog 3 m (aM (aI L2 S2.idx)) S2.idx.length), .abs (ak (aN S2.O L2)), .abs (ak (aV S2.O L2)), .abs (ak (bg S2.O L2)), .abs (aE 70 10 Ao ((aJ S2).length) co (bU Ko (aJ S2))), .abs (dH (gy (aJ S2) Ko) (aJ S2).length), .abs (dH (fR (aJ S2) Ko) (aJ S2).length), .abs (aY 156 t S2.X.cH S2.au (aI L2 S2.us)), .blk b1 [.slice A (ns.length) (c), vI (X.cN), vI (X.cB), vI (X.cH), vI (X.cS), vI (X.cZ)] 30, .abs R, .blk b7 [.slice G3 ((aJ S).length) (c4)] 24]) [11] (by kernel_rfl) ?_ rfl (fun _ => by kernel_rfl) ?_
   ·refine gL [0, 1, 3, 4, 5] (Am (β := qU) S2 L2 f m t sX) ?_
    rintro _ _ ⟨Ao, co, Ko, rfl, rfl⟩
    refine NL ?_
    exact MD (Ao, co, Ko) [1, 5, 7, 9, 53, 54] [0, 1, 2, 3, 4, 5, 6, 7, 8, 9, 10, 11]
   rintro ⟨Ao, co, Ko⟩
   refine dO.cut (ι := Unit) (fr' := fun (_ : Unit) => [(1, .slice A1 (n) (c1)), (5, vP f), (7, vI ↑i), (9, .slice H8 (S.us.length) (c9)), (55, .bool true)]) (hp' := fun (_ : Unit) => [.abs (aE 70 10 Ao ((aJ S2).length) co (bU Ko (aJ S2))), .abs (dH (gy (aJ S2) Ko) (aJ S2).length), .abs (dH (fR (aJ S2) Ko) (aJ S2).length), .blk f [vI (S2.X.cN), vI (S2.X.cB), vI (S2.X.cH), vI (S2.X.cS), vI (S2.X.cZ), .map (some m), vP t, vI (S2.X.last), vI (S2.X.ah), vI (S2.X.used)] 86, .abs (aH Tryz.prog 3 m (aM (aI L2 S2.idx)) S2.idx.length), .abs (ak (aN S2.O L2)), .abs (ak (aV S2.O L2)), .abs (ak (bg S2.O L2)), .abs (aY 156 t S2.X.cH S2.au (aI L2 S2.us)), .blk b1 [.slice A (ns.length) (c), vI (X.cN), vI (X.cB), vI (X.cH), vI (X.cS), vI (X.cZ)] 30, .abs R, .blk b7 [.slice G3 ((aJ S).length) (c4)] 24]) [11] (by kernel_rfl) ?_ rfl (fun _ => by kernel_rfl) ?_
   ·refine gL [5, 6, 7] (AJ Ao G3 co c4 (aJ S2) (aJ S) Ko K5 hH (Jg sX.toInv0) (Jc sX.toInv0) (decide_eq_true (by rw [oh]))) ?_
    rintro _ _ ⟨rfl, rfl⟩
    refine NL ?_
    exact MD () [1, 5, 7, 9, 55] [0, 1, 2, 3, 4, 5, 6, 7, 8, 9, 10, 11]
   rintro _
   refine dO.reads (l := [(false, 7), (false, 9), (true, 10), (false, 11)]) (fr' := [(1, .slice A1 (n) (c1)), (5, vP f), (7, vI ↑i), (57, .bool false), (58, vP f), (60, .slice H8 (S.us.length) (c9))]) (aU := []) [4, 5, 6, 8] [o_, o_, o_, o_] [1, 5, 7, 57, 58, 60] (fun _ => by kernel_rfl) trivial rfl ?_
   refine dO.cut (ι := (Option Addr) × Nat) (fr' := fun ((Ah, ch) : (Option Addr) × Nat) => [(1, .slice A1 (n) (c1)), (5, vP f), (7, vI ↑i), (57, .bool false), (59, .slice Ah (S2.us.length) (ch)), (60, .slice H8 (S.us.length) (c9))]) (hp' := fun ((Ah, ch) : (Option Addr) × Nat) => [.blk f [vI (S2.X.cN), vI (S2.X.cB), vI (S2.X.cH), vI (S2.X.cS), vI (S2.X.cZ), .map (some m), vP t, vI (S2.X.last), vI (S2.X.ah), vI (S2.X.used)] 86, .abs (aY 156 t S2.X.cH S2.au (aI L2 S2.us)), .abs (aE 3 1 Ah S2.us.length ch (ints (keys S2.us))), .abs (aE 70 10 Ao ((aJ S2).length) co (bU Ko (aJ S2))), .abs (dH (gy (aJ S2) Ko) (aJ S2).length), .abs (dH (fR (aJ S2) Ko) (aJ S2).length), .abs (aH Tryz.prog 3 m (aM (aI L2 S2.idx)) S2.idx.length), .abs (ak (aN S2.O L2)), .abs (ak (aV S2.O L2)), .abs (ak (bg S2.O L2)), .blk b1 [.slice A (ns.length) (c), vI (X.cN), vI (X.cB), vI (X.cH), vI (X.cS), vI (X.cZ)] 30, .abs R, .blk b7 [.slice G3 ((aJ S).length) (c4)] 24]) [12] (by kernel_rfl) ?_ rfl (fun _ => by kernel_rfl) ?_
   ·refine gL [3, 8] (Av (β := qU) S2 L2 f m t) ?_
    rintro _ _ ⟨Ah, ch, rfl, rfl⟩
    refine NL ?_
    exact MD (Ah, ch) [1, 5, 7, 57, 59, 60] [0, 1, 2, 3, 4, 5, 6, 7, 8, 9, 10, 11, 12]
   rintro ⟨Ah, ch⟩
   refine dO.cut (ι := Unit) (fr' := fun (_ : Unit) => [(1, .slice A1 (n) (c1)), (5, vP f), (7, vI ↑i), (57, .bool false), (61, .bool true)]) (hp' := fun (_ : Unit) => [.abs (aE 3 1 Ah S2.us.length ch (ints (keys S2.us))), .blk f [vI (S2.X.cN), vI (S2.X.cB), vI (S2.X.cH), vI (S2.X.cS), vI (S2.X.cZ), .map (some m), vP t, vI (S2.X.last), vI (S2.X.ah), vI (S2.X.used)] 86, .abs (aY 156 t S2.X.cH S2.au (aI L2 S2.us)), .abs (aE 70 10 Ao ((aJ S2).length) co (bU Ko (aJ S2))), .abs (dH (gy (aJ S2) Ko) (aJ S2).length), .abs (dH (fR (aJ S2) Ko) (aJ S2).length), .abs (aH Tryz.prog 3 m (aM (aI L2 S2.idx)) S2.idx.length), .abs (ak (aN S2.O L2)), .abs (ak (aV S2.O L2)), .abs (ak (bg S2.O L2)), .blk b1 [.slice A (ns.length) (c), vI (X.cN), vI (X.cB), vI (X.cH), vI (X.cS), vI (X.cZ)] 30, .abs R, .blk b7 [.slice G3 ((aJ S).length) (c4)] 24]) [12] (by kernel_rfl) ?_ rfl (fun _ => by kernel_rfl) ?_
   ·refine gL [2] (G8 Ah H8 ch c9 (mV S2.us) (mV S.us) (by rw [oh]) MH (MG sX.toInv0)) ?_
    rintro _ _ ⟨rfl, rfl⟩
    refine NL ?_
    exact MD () [1, 5, 7, 57, 61] [0, 1, 2, 3, 4, 5, 6, 7, 8, 9, 10, 11, 12]
   rintro _
   refine dO.reads (l := [(false, 11)]) (fr' := [(1, .slice A1 (n) (c1)), (5, vP f), (7, vI ↑i), (57, .bool false), (62, .bool false)]) (aU := []) [10] [o_] [1, 5, 7, 57, 62] (fun _ => by kernel_rfl) trivial rfl ?_
   refine dO.last (by kernel_rfl) ?_
   refine gK 1 [(63, .bool false)] [] ?_
   refine NL (ai.np (NX ?_))
   refine CF ?_
   refine af.skip (ai.aP (NX (af.region ?_)))
   refine gK 3 [(7, vI ↑(i + 1))] [(1, p_ ⟨[], none, none, none, some (vI ↑(i + 1))⟩ [(Value.int .i64 (IntKind.wrap .i64 (((i : Nat) : Int) + 1))) = (.int .i64 ↑(i + 1))] ⟨bH (by omega) (by omega) (by omega), trivial⟩)] ?_
   refine NL ?_
   exact ai.D6 ((i + 1), qU, S2, L2) (hb := rfl) (idx := [1, 5, 7]) (pk := [10, 1, 6, 2, 7, 8, 9, 11]) (show (((i + 1)) ≤ n) ∧ ((B0 W).le qU) ∧ (bZ qU A1 xs) ∧ (iN qU) ∧ (Inv S2) from ⟨by omega, hle0, hS, hg, sX⟩) (by show n - ((i + 1)) < n - i; omega) (fun _ => by kernel_rfl) rfl (by kernel_rfl)
  refine af.exit (ai.aZ (ai.aZ (ai.ct (NX (SR ?_)))))
  refine gK 1 [(4, .bool true)] [] ?_
  refine NN (af.ret ?_)
  exact ai.KJ (v := .bool true) (l := []) (aU := []) [] [7] hle0 (fun _ => by kernel_rfl) trivial rfl (by kernel_rfl) (rfl)
 refine af.kG (S := [.blk b1 [.slice A (ns.length) (c), vI (X.cN), vI (X.cB), vI (X.cH), vI (X.cS), vI (X.cZ)] 30]) [(true, 0), (true, 1), (true, 3), (true, 4), (false, 2), (false, 5), (true, 6), (true, 7), (true, 8), (true, 9), (false, 10)] [1] (by kernel_rfl) (by kernel_rfl) rfl (by kernel_rfl) ?_
 refine dO.reads (l := [(false, 2), (false, 5), (true, 6), (true, 7), (true, 8), (true, 9), (false, 10)]) (fr' := [(1, .slice A1 (xs.length) (c1)), (14, .agg #[.slice A (ns.length) (c)]), (17, .agg #[vI (X.cN), vI (X.cB), vI (X.cH), vI (X.cS), vI (X.cZ)])]) (aU := [b1 = b1, b1 = b1, b1 = b1, b1 = b1, b1 = b1, b1 = b1]) [0, 1, 3, 4] [o_, ⟨[.at 0], none, none, none, none⟩, o_, ⟨[.at 0, .at 0, .at 0, .at 0, .at 0], none, none, none, none⟩] [1, 14, 17] (fun _ => by kernel_rfl) ⟨rfl, rfl, rfl, rfl, rfl, rfl, trivial⟩ rfl ?_
 refine dO.cut (ι := (Option Addr) × Nat) (fr' := fun ((B, cp) : (Option Addr) × Nat) => [(1, .slice A1 (xs.length) (c1)), (15, .agg #[.slice B (ns.length) (cp)]), (17, .agg #[vI (X.cN), vI (X.cB), vI (X.cH), vI (X.cS), vI (X.cZ)])]) (hp' := fun ((B, cp) : (Option Addr) × Nat) => [.abs (mq q4 (fun β' => ∃ K, aA β' B ns K)), .abs R, .blk b1 [.slice A (ns.length) (c), vI (X.cN), vI (X.cB), vI (X.cH), vI (X.cS), vI (X.cZ)] 30]) [2] (by kernel_rfl) ?_ rfl (fun _ => by kernel_rfl) ?_
 ·refine gL [] (s5 (β := q4) A c ns Y hG (Bc hB) (Bd hB)) ?_
  rintro _ _ ⟨B, cp, rfl, rfl⟩
  refine NL ?_
  exact MD (B, cp) [1, 15, 17] [0, 1, 2]
 rintro ⟨B, cp⟩
 refine dO.cut (ι := J0) (fr' := fun (e : J0) => [(1, .slice A1 (xs.length) (c1)), (18, .tuple #[.pointer none, vI (e.1)])]) (hp' := fun (e : J0) => [.abs R, .blk b1 [.slice A (ns.length) (c), vI (X.cN), vI (X.cB), vI (X.cH), vI (X.cS), vI (X.cZ)] 30]) [1] (by kernel_rfl) ?_ rfl (fun _ => by kernel_rfl) ?_
 ·refine gL [0] (G7 (β := q4) (X := X) Jh B cp (Bc hB) (Bd hB) (G2 hB) (G4 hB)) ?_
  rintro _ _ ⟨e, rfl, rfl⟩
  refine NL ?_
  exact MD e [1, 18] [0, 1]
 rintro e
 refine dO.reads (l := [(false, 10)]) (fr' := [(1, .slice A1 (xs.length) (c1)), (5, .pointer none), (20, vI (e.1))]) (aU := []) [6, 7, 8, 9] [o_, o_, o_, o_] [1, 5, 20] (fun _ => by kernel_rfl) trivial rfl ?_
 refine dO.last (by kernel_rfl) ?_
 refine gK 1 [(6, vI (e.1))] [] ?_
 refine NL (ai.np (NX (af.seq (SR ?_))))
 refine gK 3 [(23, .bool (!(decide ((e.1 : Int) = (0 : Int)))))] [] ?_
 refine aj.fF 23 ((e.1 : Int) = (0 : Int)) (fun _ => by kernel_rfl) (fun h23 => ?_) (fun h23 => ?_)
 ·refine gK 3 [(26, .bool true)] [] ?_
  refine NN ?_
  refine CT ?_
  refine SR ?_
  refine gK 7 [(4, .bool true)] [(4, p_ ⟨[], none, none, none, some (.bool true)⟩ [((.bool (!(decide ((e.1 : Int) = (0 : Int)))) : Value)) = (.bool true)] ⟨by simp [e.2], trivial⟩)] ?_
  refine NN (af.ret (ai.aq ?_))
  exact ai.KJ (v := .bool true) (l := []) (aU := []) [] [0] hle0 (fun _ => by kernel_rfl) trivial rfl (by kernel_rfl) (rfl)
 exact absurd h23 e.2
end
section
open Go.RowKit
def CV (h : Array Obj) (g : Nat) (cs : List Nat) : Array Obj := h.modify g fun
  | .cells _ t frozen => .cells (cs.map (fun (n : Nat) => Value.int .u8 n)).toArray t frozen
  | o => o
noncomputable def laidWorld (os : Os) : World :=
  { World.holding Tryz.prog os ⟨#[], #[], []⟩ with heap := CV (CV (World.holding Tryz.prog os ⟨#[], #[], []⟩).heap 1 Go.Pinned.utf8FirstZ) 2 ([128, 191, 160, 191, 128, 159, 144, 191, 128, 143] ++ List.replicate 22 0) }
theorem laidWorld_met (os : Os) (args : Array Value) : laidMetH Tryz.prog Rows.hfsRefusedUptoRow.laid ((laidWorld os).forCall (fun _ _ => 0) ⟨#[], args, []⟩).memory :=
  laidMetH_of_parts (laidMet_of_run3 8 (by kernel_rfl) (by kernel_rfl) (by kernel_rfl)) (by kernel_rfl)
theorem glob_ok {W : World} (h : W.ShapedOpen Tryz.prog) : iN (B0 W) := by
  obtain ⟨m, hm⟩ := cell_of_shapedOpen_int (g := 0) (t := 3) (zero := #[.int .i64 0]) (k := .i64) h (Nat.le_of_ble_eq_true (by kernel_rfl)) (by kernel_rfl) rfl (by kernel_rfl) (by kernel_rfl) Tryz.underlying3
  exact ⟨m, D4 hm, hm⟩
end
end Go.Proofs.YtkiedlmhocglhaaGreatDoor
