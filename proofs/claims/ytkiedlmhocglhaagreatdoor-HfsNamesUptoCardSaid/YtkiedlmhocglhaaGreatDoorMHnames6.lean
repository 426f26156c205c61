/-
  PROVED HERE: lemmas and contracts of functions (texts of this repo, joined; what the claim does not use is left out): GO, GRef, GW, Lc, HW, Og, LC, St, Pl, Sx, LB, LP, Oh, LN, Zl.
  CONDITIONS: as the theorems say.
-/
import Derived.Test.YtkiedlmhocglhaaGreatDoorMHnames5
import Derived.Test.YtkiedlmhocglhaaGreatDoorRows
import Derived.Shelf.Vars
import Derived.Deep.DeepLaidRun
import Derived.LaidHandle
import Derived.ChangeMaps5
set_option maxRecDepth 100000
set_option maxHeartbeats 4000000
namespace Go.Proofs.YtkiedlmhocglhaaGreatDoor
section
open Go.RowKit Go.WideShapes Go.ChangeShapes Go.ChangeAt Go.Deep
abbrev B0 (W : World) : Bs := ⟨(· < W.heap.size), W⟩
theorem DU {w : World} {a : Addr} {v : Value} (h : w.cell? a = some v) : a.block < w.heap.size := by
  unfold World.cell? at h
  split at h
  ·rename_i hb; exact lt_of_some hb
  cases h
theorem GR {w : World} {a : Addr} {v : Value} (h : w.cell? a = some v) : a.spot = none := by
  unfold World.cell? at h
  split at h
  ·split at h
   ·cases h
   rename_i h0
   cases hs : a.spot with
   | none => rfl
   | some x => rw [hs] at h0; exact absurd rfl h0
  cases h
theorem add_plain {a : Addr} (k : Nat) (h : a.spot = none) : a.add k = ⟨a.block, a.off + k, none⟩ := by
  obtain ⟨b, o, s⟩ := a
  cases h
  unfold Addr.add
  split
  ·rename_i h0; subst h0; rfl
  rfl
theorem wF {H : Type} {D : Nat → DataW H} {n i : Nat} (hi : i < n) : Rows.uptoBulk (D i) ≤ Rows.uptoBulkAll ((List.range n).map D) := by
  have hm : D i ∈ (List.range n).map D := List.mem_map.2 ⟨i, List.mem_range.2 hi, rfl⟩
  generalize (List.range n).map D = l at hm
  induction l with
  | nil => cases hm
  | cons x r ih =>
    simp only [Rows.uptoBulkAll]
    rcases List.mem_cons.1 hm with e | hm
    ·subst e; omega
    have := ih hm; omega
theorem I0 {H : Type} (d : DataW H) : 1 ≤ Rows.uptoBulk d := by
  cases d with
  | lit l => cases l <;> simp [Rows.uptoBulk]
  | nil => simp [Rows.uptoBulk]
  | ptr d => simp [Rows.uptoBulk]
  | slice elems spare => simp [Rows.uptoBulk]
  | agg parts => simp [Rows.uptoBulk]
  | iface t d => simp [Rows.uptoBulk]
  | map entries => simp [Rows.uptoBulk]
  | held h => simp [Rows.uptoBulk]
theorem sG {H : Type} (l : List (DataW H)) : l.length ≤ Rows.uptoBulkAll l := by
  induction l with
  | nil => simp [Rows.uptoBulkAll]
  | cons x r ih => have := I0 x; simp only [Rows.uptoBulkAll, List.length_cons]; omega
theorem bulk_mem {H : Type} {d : DataW H} {l : List (DataW H)} (h : d ∈ l) : Rows.uptoBulk d ≤ Rows.uptoBulkAll l := by
  induction l with
  | nil => cases h
  | cons x r ih =>
    simp only [Rows.uptoBulkAll]
    rcases List.mem_cons.1 h with e | h
    ·subst e; omega
    have := ih h; omega
section open_
variable {H : Type} {enc : TypeId × Value → H} {P : Program} {W : World} {sp : Nat → Bool}
theorem sH {α : Type} [Inhabited α] {t e : TypeId} {size : Nat} {f : α → List Value} {Q : α → DataW H → Prop} (ht : P.underlying t = some (.slice e)) (hC : P.cellsOf e = size) (h0 : 0 < size)
    (hel : ∀ n cs x, DataW.trod enc P W 0 sp true n e cs = some x → ∃ a, cs = f a ∧ Q a x.1) (hf : ∀ a, (f a).length = size)
    {fuel : Nat} {cs : List Value} {x : DataW H × List MemPlace} (h : DataW.trod enc P W 0 sp true fuel t cs = some x) :
    ∃ A c, ∃ xs : List α, ∃ D : Nat → DataW H, cs = [.slice A xs.length c] ∧ xs.length ≤ c ∧ c ≤ maxLen ∧ fQ (B0 W) A (dm (fun _ a => f a) 0 xs) ∧ (∀ i, i < xs.length → Q (xs.getD i default) (D i)) ∧
      Rows.uptoBulkAll ((List.range xs.length).map D) + 1 ≤ Rows.uptoBulk x.1 := by
  rcases open_slice ht h with ⟨hv, hx⟩ | ⟨a, len, cap, m, n, D, Pl, hcs, hb, hl, hm, hmm, hx, hi⟩
  ·subst hv
   refine ⟨none, 0, [], fun _ => .nil, rfl, Nat.le_refl _, Nat.zero_le _, fun j v hj => by simp [dm] at hj, fun i hi => absurd hi (Nat.not_lt_zero i), ?_⟩
   rw [hx]
   simp [Rows.uptoBulk, Rows.uptoBulkAll]
  have QF : len ≤ m := by rw [hmm]; split <;> omega
  have hch : ∀ i, ∃ b : α, i < len → (W.cells? 0 (a.add (i * P.cellsOf e)) (P.cellsOf e) = some (f b) ∧ Q b (D i)) := fun i => by
    by_cases hil : i < len
    ·obtain ⟨cs', h1, h2⟩ := hi i (by omega)
     obtain ⟨b, rfl, h3⟩ := hel _ _ _ h2
     exact ⟨b, fun _ => ⟨h1, h3⟩⟩
    exact ⟨default, fun h => absurd h hil⟩
  have hg := fun i => Classical.choose_spec (hch i)
  generalize hG : (fun i => Classical.choose (hch i)) = g at hg
  have hg : ∀ i, i < len → W.cells? 0 (a.add (i * P.cellsOf e)) (P.cellsOf e) = some (f (g i)) ∧ Q (g i) (D i) := fun i hi => by
    have h1 := hg i hi
    have h2 : Classical.choose (hch i) = g i := congrFun hG i
    rw [h2] at h1
    exact h1
  have hlen : ((List.range len).map g).length = len := by simp
  have hget : ∀ i, i < len → ((List.range len).map g)[i]? = some (g i) := fun i hi => by simp [hi]
  have Nh : ∀ i, i < len → ((List.range len).map g).getD i default = g i := fun i hi => by rw [List.getD_eq_getElem?_getD, hget i hi]; rfl
  have hs1 : 0 < len → a.spot = none := fun hl0 => by
    obtain ⟨h2, -⟩ := hg 0 hl0
    rw [hC] at h2
    obtain ⟨_, hcl, hat⟩ := World.cells?_some h2
    have h3 := hat 0 h0
    rw [List.getElem?_eq_getElem (by rw [hcl]; exact h0)] at h3
    have e : (a.add (0 * size)).add 0 = a := by rw [Nat.zero_mul]; rfl
    rw [e] at h3
    exact GR h3
  refine ⟨some a, cap, (List.range len).map g, D, by rw [hlen]; exact hcs, by rw [hlen]; exact hl, hm, fun j v hj => ?_, fun i hi' => ?_, ?_⟩
  ·have hfl := tf (f := fun _ a => f a) (s := size) (fun _ a => hf a) ((List.range len).map g) 0
   have hjl := bA hj
   rw [hfl, hlen] at hjl
   have mG : j / size < len := (Nat.div_lt_iff_lt_mul h0).2 hjl
   have hj2 : j % size < size := Nat.mod_lt _ h0
   have e := Nat.div_add_mod j size
   rw [Nat.mul_comm] at e
   have h1 := nE (f := fun _ a => f a) (s := size) (fun _ a => hf a) _ 0 _ (j % size) _ (hget _ mG) hj2
   rw [e, hj] at h1
   obtain ⟨h2, -⟩ := hg _ mG
   rw [hC] at h2
   obtain ⟨_, _, hat⟩ := World.cells?_some h2
   have h3 := hat _ hj2
   rw [← h1] at h3
   have hs1 := hs1 (Nat.lt_of_le_of_lt (Nat.zero_le _) mG)
   rw [add_plain _ hs1] at h3
   rw [add_plain (a := ⟨a.block, a.off + j / size * size, none⟩) _ rfl] at h3
   have e2 : a.off + j / size * size + j % size = a.off + j := by omega
   have h4 : W.cell? ⟨a.block, a.off + j, none⟩ = some v := by rw [← e2]; exact h3
   have ea : (some a : Option Addr) = some ⟨ax (some a), av (some a), none⟩ := by
     obtain ⟨b, o, s⟩ := a
     cases hs1
     rfl
   exact ⟨ea, DU h4, h4⟩
  ·rw [hlen] at hi'
   rw [Nh i hi']
   exact (hg i hi').2
  rw [hx, hlen]
  simp only [Rows.uptoBulk]
  omega
theorem Kx {t : TypeId} {n : Nat} {cs : List Value} {x : DataW H × List MemPlace} (ht : P.underlying t = some (.int .u8)) (h : DataW.trod enc P W 0 sp true n t cs = some x) : ∃ b : UInt8, cs = [rL b] ∧ True := by
  obtain ⟨z, h1, _, h3⟩ := DataW.trod_int ht h
  have h4 : 0 ≤ z ∧ z ≤ 255 := by simpa [Lit.wf, IntKind.min, IntKind.max, IntKind.signed, IntKind.bits] using h3
  refine ⟨UInt8.ofNat z.toNat, ?_, trivial⟩
  have e : (((UInt8.ofNat z.toNat).toNat : Nat) : Int) = z := by
    rw [UInt8.toNat_ofNat']
    omega
  rw [rL, e]
  exact h1
def pY (z : Int) : Prop := -9223372036854775808 ≤ z ∧ z ≤ 9223372036854775807
theorem fX {t : TypeId} {n : Nat} {c : Value} {x : DataW H × List MemPlace} (ht : P.underlying t = some (.int .i64)) (h : DataW.trod enc P W 0 sp true n t [c] = some x) : ∃ z, c = .int .i64 z ∧ pY z := by
  obtain ⟨z, h1, _, h3⟩ := DataW.trod_int ht h
  cases h1
  exact ⟨z, rfl, by unfold pY; simpa [Lit.wf, IntKind.min, IntKind.max, IntKind.signed, IntKind.bits] using h3⟩
theorem j9 {t : TypeId} {n : Nat} {c : Value} {x : DataW H × List MemPlace} (ht : P.underlying t = some .string) (h : DataW.trod enc P W 0 sp true n t [c] = some x) : ∃ s : ByteArray, c = .string s ∧ s.size + 1 ≤ Rows.uptoBulk x.1 := by
  obtain ⟨s, h1, h2, _⟩ := DataW.trod_string ht h
  cases h1
  refine ⟨s, rfl, ?_⟩
  rw [h2]
  simp only [Rows.uptoBulk, Array.length_toList]
  exact Nat.le_refl _
end open_
section graph
variable {H : Type} {enc : TypeId × Value → H} {W : World} {sp : Nat → Bool}
theorem yg : ∀ (d : List UInt8) (k : Nat), dm (fun _ b => [rL b]) k d = bL d
  | [], _ => rfl
  | b :: r, k => by rw [dm, yg r (k + 1)]; rfl
theorem yh {n : Nat} {c : Value} {x : DataW H × List MemPlace} (h : DataW.trod enc Tryz.prog W 0 sp true n 41 [c] = some x) :
    ∃ A cp, ∃ d : List UInt8, c = .slice A d.length cp ∧ bJ (B0 W) A d ∧ d.length + 1 ≤ Rows.uptoBulk x.1 := by
  obtain ⟨A, cp, xs, D, h1, _, _, h2, _, h3⟩ := sH (α := UInt8) (f := fun b => [rL b]) (Q := fun _ _ => True) Tryz.underlying41 (size := 1) (by kernel_rfl) (by decide) (fun n cs x h => Kx Tryz.underlying5 h) (fun _ => rfl) h
  cases h1
  have := sG ((List.range xs.length).map D)
  refine ⟨A, cp, xs, rfl, ?_, by simp at this; omega⟩
  rw [yg] at h2
  exact h2
structure E0 (e : gM) (b : Nat) : Prop where
  id : pY e.id
  name : e.name.size + 1 ≤ b
theorem aZ {n : Nat} {cs : List Value} {xs : List (DataW H × List MemPlace)} {i : Nat} {t : TypeId} (h : DataW.trod enc Tryz.prog W 0 sp true n t cs = xs[i]?) (hi : i < xs.length) : DataW.trod enc Tryz.prog W 0 sp true n t cs = some xs[i] ∧ Rows.uptoBulk (xs[i]).1 ≤ Rows.uptoBulk (.agg (xs.map (·.1))) := by
  refine ⟨h.trans (List.getElem?_eq_getElem hi), ?_⟩
  have hm : (xs[i]).1 ∈ xs.map (·.1) := List.mem_map.2 ⟨xs[i], List.getElem_mem hi, rfl⟩
  have := bulk_mem hm
  simp only [Rows.uptoBulk]
  omega
theorem I3 {n : Nat} {cs : List Value} {x : DataW H × List MemPlace} (h : DataW.trod enc Tryz.prog W 0 sp true n 101 cs = some x) : ∃ e : gM, cs = vL e ∧ E0 e (Rows.uptoBulk x.1) := by
  obtain ⟨ys, m, _, hx, hl, kR, hf⟩ := DataW.trod_struct Tryz.underlying101 h
  have hC : Tryz.prog.cellsOf 101 = 2 := by kernel_rfl
  rw [hC] at hl
  match cs, hl with
  | [c0, c1], _ =>
    obtain ⟨h0, b0⟩ := aZ (hf 0 _ rfl) (by rw [kR]; decide)
    obtain ⟨h1, _⟩ := aZ (hf 1 _ rfl) (by rw [kR]; decide)
    obtain ⟨s, rfl, hs⟩ := j9 Tryz.underlying9 h0
    obtain ⟨z, rfl, hz⟩ := fX Tryz.underlying3 h1
    exact ⟨⟨s, z⟩, rfl, ⟨hz, by rw [hx]; exact Nat.le_trans hs b0⟩⟩
theorem GS {n : Nat} {c : Value} {x : DataW H × List MemPlace} (h : DataW.trod enc Tryz.prog W 0 sp true n 68 [c] = some x) :
    ∃ A cp, ∃ es : List gM, c = .slice A es.length cp ∧ cK (B0 W) A es ∧ es.length + 1 ≤ Rows.uptoBulk x.1 ∧ ∀ i, i < es.length → E0 (en es i) (Rows.uptoBulk x.1) := by
  obtain ⟨A, cp, xs, D, h1, _, _, h2, h4, h3⟩ := sH (α := gM) (f := vL) (Q := fun e d => E0 e (Rows.uptoBulk d)) Tryz.underlying68 (size := 2) (by kernel_rfl) (by decide) (fun n cs x h => I3 h) (fun _ => rfl) h
  cases h1
  have h5 := sG ((List.range xs.length).map D)
  refine ⟨A, cp, xs, rfl, h2, by simp at h5; omega, fun i hi => ⟨(h4 i hi).id, ?_⟩⟩
  have h6 := (h4 i hi).name
  have h7 := wF (D := D) hi
  unfold en
  omega
structure JR (nd : aK) (b : Nat) : Prop where
  ids : pY nd.id ∧ pY nd.kind ∧ pY nd.mode ∧ pY nd.uid ∧ pY nd.gid ∧ pY nd.sec ∧ pY nd.nano
  data : nd.data.length + 1 ≤ b
  target : nd.target.size + 1 ≤ b
  ah : nd.ah.length + 1 ≤ b
  ent : ∀ i, i < nd.ah.length → E0 (en nd.ah i) b
structure yj where
  n : aK
  dA : Option Addr
  dC : Nat
  eA : Option Addr
  eC : Nat
deriving Inhabited
def Mr (a : yj) : List Value := [.int .i64 a.n.id, .int .i64 a.n.kind, .int .i64 a.n.mode, .int .i64 a.n.uid, .int .i64 a.n.gid, .int .i64 a.n.sec, .int .i64 a.n.nano, .slice a.dA a.n.data.length a.dC, .string a.n.target, .slice a.eA a.n.ah.length a.eC]
structure JS (W : World) (a : yj) (b : Nat) : Prop where
  nb : JR a.n b
  data : bJ (B0 W) a.dA a.n.data
  ah : cK (B0 W) a.eA a.n.ah
theorem GU {n : Nat} {cs : List Value} {x : DataW H × List MemPlace} (h : DataW.trod enc Tryz.prog W 0 sp true n 70 cs = some x) : ∃ a : yj, cs = Mr a ∧ JS W a (Rows.uptoBulk x.1) := by
  obtain ⟨ys, m, _, hx, hl, kR, hf⟩ := DataW.trod_struct Tryz.underlying70 h
  have hC : Tryz.prog.cellsOf 70 = 10 := by kernel_rfl
  rw [hC] at hl
  match cs, hl with
  | [c0, c1, c2, c3, c4, c5, c6, c7, c8, c9], _ =>
    obtain ⟨h0, _⟩ := aZ (hf 0 _ rfl) (by rw [kR]; decide)
    obtain ⟨h1, _⟩ := aZ (hf 1 _ rfl) (by rw [kR]; decide)
    obtain ⟨h2, _⟩ := aZ (hf 2 _ rfl) (by rw [kR]; decide)
    obtain ⟨h3, _⟩ := aZ (hf 3 _ rfl) (by rw [kR]; decide)
    obtain ⟨h4, _⟩ := aZ (hf 4 _ rfl) (by rw [kR]; decide)
    obtain ⟨h5, _⟩ := aZ (hf 5 _ rfl) (by rw [kR]; decide)
    obtain ⟨h6, b6⟩ := aZ (hf 6 _ rfl) (by rw [kR]; decide)
    obtain ⟨h7, b7⟩ := aZ (hf 7 _ rfl) (by rw [kR]; decide)
    obtain ⟨h8, b8⟩ := aZ (hf 8 _ rfl) (by rw [kR]; decide)
    obtain ⟨z0, rfl, w0⟩ := fX Tryz.underlying3 h0
    obtain ⟨z1, rfl, w1⟩ := fX Tryz.underlying3 h1
    obtain ⟨z2, rfl, w2⟩ := fX Tryz.underlying3 h2
    obtain ⟨z3, rfl, w3⟩ := fX Tryz.underlying3 h3
    obtain ⟨z4, rfl, w4⟩ := fX Tryz.underlying3 h4
    obtain ⟨us, _, _, _, _, nV, hu⟩ := DataW.trod_struct Tryz.underlying26 h5
    obtain ⟨g0, _⟩ := aZ (hu 0 _ rfl) (by rw [nV]; decide)
    obtain ⟨g1, _⟩ := aZ (hu 1 _ rfl) (by rw [nV]; decide)
    obtain ⟨z5, rfl, w5⟩ := fX (c := c5) Tryz.underlying3 g0
    obtain ⟨z6, rfl, w6⟩ := fX (c := c6) Tryz.underlying3 g1
    obtain ⟨A7, p7, d7, rfl, q7, l7⟩ := yh (c := c7) h6
    obtain ⟨s8, rfl, l8⟩ := j9 (c := c8) Tryz.underlying9 h7
    obtain ⟨A9, p9, e9, rfl, q9, l9, k9⟩ := GS (c := c9) h8
    rw [hx]
    exact ⟨⟨⟨z0, z1, z2, z3, z4, z5, z6, d7, s8, e9⟩, A7, p7, A9, p9⟩, rfl, ⟨⟨w0, w1, w2, w3, w4, w5, w6⟩, Nat.le_trans l7 b6, Nat.le_trans l8 b7, Nat.le_trans l9 b8, fun i hi => ⟨(k9 i hi).id, Nat.le_trans (k9 i hi).name b8⟩⟩, q7, q9⟩
structure nW (ns : List aK) (b : Nat) : Prop where
  len : ns.length + 1 ≤ b
  node : ∀ i, i < ns.length → JR (nd ns i) b
theorem yq (L : Lay) : ∀ (xs : List yj) (k : Nat), (∀ i, i < xs.length → L.dA (k + i) = (xs.getD i default).dA ∧ L.dC (k + i) = (xs.getD i default).dC ∧ L.eA (k + i) = (xs.getD i default).eA ∧ L.eC (k + i) = (xs.getD i default).eC) → dm (fun _ a => Mr a) k xs = dm (ny L) k (xs.map (·.n))
  | [], _, _ => rfl
  | a :: r, k, h => by
    obtain ⟨h1, h2, h3, h4⟩ := h 0 (by simp)
    simp only [Nat.add_zero, List.getD_cons_zero] at h1 h2 h3 h4
    rw [dm, List.map_cons, dm, yq L r (k + 1) (fun i hi => by
      have := h (i + 1) (by simp; omega)
      rw [List.getD_cons_succ] at this
      have e : k + (i + 1) = k + 1 + i := by omega
      rw [e] at this
      exact this)]
    rw [ny, h1, h2, h3, h4]
    rfl
theorem E4 {n : Nat} {c : Value} {x : DataW H × List MemPlace} (h : DataW.trod enc Tryz.prog W 0 sp true n 22 [c] = some x) :
    ∃ A cp, ∃ ns : List aK, ∃ L : Lay, c = .slice A ns.length cp ∧ aB (B0 W) A ns L ∧ nW ns (Rows.uptoBulk x.1) := by
  obtain ⟨A, cp, xs, D, h1, _, _, h2, h4, h3⟩ := sH (α := yj) (f := Mr) (Q := fun a d => JS W a (Rows.uptoBulk d)) Tryz.underlying22 (size := 10) (by kernel_rfl) (by decide) (fun n cs x h => GU h) (fun _ => rfl) h
  cases h1
  have h5 := sG ((List.range xs.length).map D)
  have e : (xs.map (·.n)).length = xs.length := by simp
  have hnd : ∀ i, i < xs.length → nd (xs.map (·.n)) i = (xs.getD i default).n := fun i hi => by
    simp [nd, List.getD_eq_getElem?_getD, hi]
  refine ⟨A, cp, xs.map (·.n), ⟨fun i => (xs.getD i default).dA, fun i => (xs.getD i default).eA, fun i => (xs.getD i default).dC, fun i => (xs.getD i default).eC⟩, by rw [e], ⟨?_, fun i hi => ?_, fun i hi => ?_⟩, by simp at h5; rw [e]; omega, fun i hi => ?_⟩
  ·rw [yq ⟨fun i => (xs.getD i default).dA, fun i => (xs.getD i default).eA, fun i => (xs.getD i default).dC, fun i => (xs.getD i default).eC⟩ xs 0 (fun i _ => by rw [Nat.zero_add]; exact ⟨rfl, rfl, rfl, rfl⟩)] at h2
   exact h2
  ·rw [e] at hi
   rw [hnd i hi]
   exact (h4 i hi).data
  ·rw [e] at hi
   rw [hnd i hi]
   exact (h4 i hi).ah
  rw [e] at hi
  rw [hnd i hi]
  have h7 := wF (D := D) hi
  have h8 := (h4 i hi).nb
  exact ⟨h8.ids, by have := h8.data; omega, by have := h8.target; omega, by have := h8.ah; omega, fun j hj => ⟨(h8.ent j hj).id, by have := (h8.ent j hj).name; omega⟩⟩
end graph
end
section
open Go.RowKit
theorem B0.refl (W : World) : (B0 W).le (B0 W) := ⟨fun _ h => h, rfl, rfl, rfl, Nat.le_refl _, fun _ hk => ⟨hk, rfl⟩⟩
section gb
variable {ns : List aK} {b : Nat}
variable (h : nW ns 1048576)
include h
end gb
def L0 : Lay := ⟨fun _ => none, fun _ => none, fun _ => 0, fun _ => 0⟩
end
section
open Go.RowKit Go.Maps HeapM TabM
theorem Spec.JT {P : Program} {β : Bs} {f : FuncId} {args : Array Value} {pre : List HP} {post : Value → List HP → Prop} {Ψ : Bs → Value → List HP → Prop} (h : Spec P β f args pre post) (Ba : ∀ v l, post v l → ∃ l1 l2, l = l1 ++ l2 ∧ ∀ β', nX β l2 β' → Ψ β' v l1) : d9 P β f args pre Ψ := by
  intro A w hS
  refine (h A w hS).mono ?_
  rintro e w' ⟨v, l, h1, h2, h3⟩
  obtain ⟨l1, l2, rfl, hl⟩ := Ba v l h2
  have h4 : Sat β (([.abs A] ++ l1) ++ l2) w' := by rw [List.append_assoc]; exact Sat.turn h3
  obtain ⟨β', g1, _, g3⟩ := h4.yL
  exact ⟨β', v, l1, g1.le, h1, hl β' g1, Sat.turn g3⟩
section c
variable {β : Bs} {S S2 : aG} {L : HL} {f m t : Nat} {c c2 : aU}
theorem wG (hI : Inv S) (hC : fB β c) (h : doM S c = (S2, c2)) : Spec Tryz.prog β 16 #[vP f, .agg ⟨fT c⟩] (pA f m t L S) (fun v l => ∃ L2, v = .agg ⟨fT c2⟩ ∧ l = pA f m t L2 S2) := by
  have h1 := Cs (β := β) S L f m t hI c hC
  rw [h] at h1
  exact h1
theorem yt (hI : Inv S) : d9 Tryz.prog β 15 #[vP f] [pF f m t S.X, pI m L S.idx, pO S.O L, pD S.O L, pE S.O L] (fun β' v l => ∃ A cp K, v = .agg #[.slice A (aO S).length cp] ∧ l = [pF f m t S.X, pI m L S.idx, pO S.O L, pD S.O L, pE S.O L] ∧ aB β' A (aO S) K) :=
  (Ai S L f m t hI).JT (by
    rintro v l ⟨A, cp, K, rfl, rfl⟩
    exact ⟨_, _, rfl, fun β' h => ⟨A, cp, K, rfl, rfl, h.graph⟩⟩)
theorem zC (h1 : (Lit.int .i64 c.handle).wf = true) (h2 : (Lit.int .i64 c.other).wf = true) (h3 : c.name.size ≤ 1048576) (h4 : c.text.size ≤ 1048576) (h5 : c.data = []) : fB β c :=
  ⟨h1, h2, h3, h4, by rw [h5]; exact fun j v hj => by simp [bL] at hj, by rw [h5]; decide, by rw [h5]; exact Nat.zero_le _⟩
theorem Az (A : Option Addr) (cp : Nat) (d : List UInt8) (hA : bJ β A d) (hl : d.length ≤ 1048576) : d9 Tryz.prog β 39 #[.slice A d.length cp] [] (fun β' v l => ∃ B cap, v = .slice B d.length cap ∧ l = [] ∧ bJ β' B d ∧ d.length ≤ cap) :=
  (ye A cp d hA hl).JT (by
    rintro v l ⟨B, cap, rfl, rfl⟩
    refine ⟨[], _, rfl, fun β' h => ⟨B, cap, rfl, rfl, h.bytes, ?_⟩⟩
    obtain ⟨F, h1, _⟩ := h.get 0 rfl
    exact (aH.len h1).2)
theorem E5 {room : Int} (hr : 0 ≤ room ∧ room ≤ 1099511627776) {B : Option Addr} {cp : Nat} {Y : Lay} (hG : aB β B nk Y) : Spec Tryz.prog β 9 #[.agg #[.slice B 2 cp], .agg #[.int .i64 9, .int .i64 room, .int .i64 9, .int .i64 0, .int .i64 0]] [] (fun v l => ∃ S f m t L, EZ room S ∧ v = .tuple #[.pointer (some ⟨f, 0, none⟩), .int .i64 0] ∧ l = pA f m t L S) := by
  refine (zB B cp nk Y hG (by decide) (fun i hi => ?_) (fun i hi j hj => ?_) (fun i hi j hj => ?_) (IY room)).mono ?_
  ·rcases sE hi with rfl | rfl <;> exact ⟨by decide, by decide⟩
  ·rcases sE hi with rfl | rfl
   ·have : j = 0 := by have hj : j < 1 := hj; omega
    subst this; exact ⟨by decide, by decide⟩
   exact absurd hj (Nat.not_lt_zero j)
  ·rcases sE hi with rfl | rfl
   ·have : j = 0 := by have hj : j < 1 := hj; omega
    subst this; decide
   exact absurd hj (Nat.not_lt_zero j)
  rintro v l (⟨h, _⟩ | ⟨_, h, _⟩ | ⟨_, _, S, f, m, t, L, h1, h2, h3⟩)
  ·exact absurd (Kt hr) h
  ·exact absurd Mh h
  exact ⟨S, f, m, t, L, Kv h1, h2, h3⟩
end c
end
section
open Go.RowKit Go.Maps HeapM TabM
section at_
variable {S : aG} {i j : Nat}
theorem I4 (hi : i < S.idx.length) : nd (aO S) i = uW S.O (bY S i) (jP S i) := by
  unfold nd aO
  rw [List.getD_eq_getElem?_getD, List.getElem?_map, xZ hi]; rfl
end at_
end
section
open Go.RowKit HeapM TabM Go.Maps
theorem Spec.Hj {P : Program} {β : Bs} {f : FuncId} {args : Array Value} {pre R : List HP} {post : Value → List HP → Prop} (h : ∀ β' : Bs, nX β R β' → Spec P β' f args pre post) : Spec P β f args (pre ++ R) (fun v l => ∃ l0, post v l0 ∧ l = l0 ++ R) := by
  intro A w hS
  have h1 := Sat.turn hS
  rw [← List.append_assoc] at h1
  obtain ⟨β', g1, _, g3⟩ := h1.yL
  refine (h β' g1 A w (Sat.turn g3)).mono ?_
  rintro e w' ⟨v, l, h1, h2, h3⟩
  refine ⟨v, l ++ R, h1, ⟨l, h2, rfl⟩, ?_⟩
  have h4 := g1.back (Sat.turn h3)
  rw [List.append_assoc] at h4
  exact Sat.turn h4
section ints
variable {β : Bs} {A : Option Addr} {l : List Int} {j : Nat}
end ints
theorem AA {β : Bs} (A B : Option Addr) (c c' : Nat) (ns ms : List aK) (L K : Lay) (hH : aB β B ms K) (hl : ns.length ≤ 1048576) (hd : ∀ i, i < ns.length → (nd ns i).data.length ≤ 140737488355328 ∧ (nd ns i).ah.length ≤ 1048576) {b : Bool} (hb : decide (ns = ms) = b) :
    Spec Tryz.prog β 17 #[.agg #[.slice A ns.length c], .agg #[.slice B ms.length c']] (EP A c ns L) (fun v l => v = .bool b ∧ l = EP A c ns L) :=
  (Spec.Hj (pre := []) (fun _ g => Bo A B c c' ns ms L K g.graph (hH.le g.le) hl hd)).mono (by rintro v l ⟨l0, ⟨rfl, rfl⟩, rfl⟩; exact ⟨congrArg Value.bool hb, rfl⟩)
theorem I5 {S : aG} (h : Inv0 S) : ∀ i, i < (aO S).length → (nd (aO S) i).data.length ≤ 140737488355328 ∧ (nd (aO S) i).ah.length ≤ 1048576 := fun i hi => by
  rw [mB] at hi
  have h1 : (obj S.O (jP S i).k).data.length ≤ bytes S.idx S.O := jJ (g := fun p : Int × Th => (obj S.O p.2.k).data.length) (get_at h hi)
  have h2 : (obj S.O (jP S i).k).ah.length ≤ tot S.idx S.O := jJ (g := fun p : Int × Th => (obj S.O p.2.k).ah.length) (get_at h hi)
  have h3 := h.used
  have h4 := h.total
  rw [I4 hi]
  refine ⟨by show (obj S.O (jP S i).k).data.length ≤ _; omega, ?_⟩
  show ((obj S.O (jP S i).k).ah.map _).length ≤ _
  rw [List.length_map]
  omega
theorem sX {β : Bs} (A : Option Addr) (c : Nat) (ns : List aK) (L : Lay) (hG : aB β A ns L) (hl : ns.length ≤ 1048576) (hd : ∀ i, i < ns.length → (nd ns i).data.length ≤ 1048576 ∧ (nd ns i).ah.length ≤ 1048576) :
    Spec Tryz.prog β 10 #[.agg #[.slice A ns.length c]] [] (fun v l => ∃ B cap, v = .agg #[.slice B ns.length cap] ∧ l = [.abs (mw β (fun β' => ∃ K, aB β' B ns K))]) :=
  (d9.Lp (ι := Option Addr × Nat) (vv := fun x => .agg #[.slice x.1 ns.length x.2]) (ll := fun _ => []) (Φ := fun x β' => ∃ K, aB β' x.1 ns K)
    ((Bn A c ns L hG hl hd).mono (by rintro β' v l _ ⟨B, cap, K, rfl, rfl, h⟩; exact ⟨(B, cap), rfl, rfl, K, h⟩))).mono (by rintro v l ⟨⟨B, cap⟩, rfl, rfl⟩; exact ⟨B, cap, rfl, rfl⟩)
end
section
open Go.RowKit Go.WideShapes Go.ChangeShapes Go.ChangeAt Go.Deep
theorem nW.wide {ns : List aK} {b b' : Nat} (h : nW ns b) (hb : b ≤ b') : nW ns b' := ⟨Nat.le_trans h.len hb, fun i hi => by
  have := h.node i hi
  exact ⟨this.ids, Nat.le_trans this.data hb, Nat.le_trans this.target hb, Nat.le_trans this.ah hb, fun j hj => ⟨(this.ent j hj).id, Nat.le_trans (this.ent j hj).name hb⟩⟩⟩
section gb
variable {ns : List aK} (h : nW ns 1048576)
include h
theorem AV : ns.length ≤ 1048576 := by have := h.len; omega
theorem AX : ∀ i, i < ns.length → (nd ns i).data.length ≤ 1048576 ∧ (nd ns i).ah.length ≤ 1048576 := fun i hi => by
  have h1 := (h.node i hi).data
  have h2 := (h.node i hi).ah
  omega
theorem GV : ∀ i, i < ns.length → ∀ j, j < (nd ns i).ah.length → -9223372036854775808 ≤ (ent ns i j).id ∧ (ent ns i j).id ≤ 9223372036854775807 := fun i hi j hj => ((h.node i hi).ent j hj).id
theorem GW : ∀ i, i < ns.length → ∀ j, j < (nd ns i).ah.length → (ent ns i j).name.size ≤ 1048576 := fun i hi j hj => by
  have h1 := ((h.node i hi).ent j hj).name
  unfold ent
  omega
end gb
section a
variable {H : Type} {enc : TypeId × Value → H} {W : World} {sp : Nat → Bool}
def Ms (A : Option Addr) (n cp : Nat) (X : FM) : Value := .agg #[.slice A n cp, .int .i64 X.cN, .int .i64 X.cB, .int .i64 X.cH, .int .i64 X.cS, .int .i64 X.cZ]
structure OT (X : FM) : Prop where
  cN : pY X.cN
  cB : pY X.cB
  cH : pY X.cH
  cS : pY X.cS
  cZ : pY X.cZ
theorem open_start {v : Value} {d : DataW H} {ps : List MemPlace} {r : Go.Reach} {b0 : Nat} (hval : Value.okWide Tryz.prog W r b0 30 v) (h : DataW.Trod enc Tryz.prog W 0 sp true 30 v d ps) :
    ∃ A cp, ∃ ns : List aK, ∃ L : Lay, ∃ X : FM, v = Ms A ns.length cp X ∧ aB (B0 W) A ns L ∧ nW ns (Rows.uptoBulk d) ∧ OT X := by
  obtain ⟨cs, rfl, hcs⟩ := okWide_struct Tryz.underlying30 hval
  obtain ⟨fuel, h⟩ := h
  obtain ⟨ys, m, _, hx, hl, kR, hf⟩ := DataW.trod_struct Tryz.underlying30 h
  have hC : Tryz.prog.cellsOf 30 = 6 := by kernel_rfl
  rw [hC] at hcs
  obtain ⟨cs⟩ := cs
  match cs, hcs with
  | [c0, c1, c2, c3, c4, c5], _ =>
    obtain ⟨h0, b0⟩ := aZ (hf 0 _ rfl) (by rw [kR]; decide)
    obtain ⟨h1, _⟩ := aZ (hf 1 _ rfl) (by rw [kR]; decide)
    obtain ⟨us, _, _, Mt, _, nV, hu⟩ := DataW.trod_struct Tryz.underlying24 h0
    obtain ⟨g0, e0⟩ := aZ (hu 0 _ rfl) (by rw [nV]; decide)
    obtain ⟨A, cp, ns, L, rfl, hG, hB⟩ := E4 (c := c0) g0
    obtain ⟨vs, _, _, _, _, hvl, hv⟩ := DataW.trod_struct Tryz.underlying28 h1
    obtain ⟨k0, _⟩ := aZ (hv 0 _ rfl) (by rw [hvl]; decide)
    obtain ⟨k1, _⟩ := aZ (hv 1 _ rfl) (by rw [hvl]; decide)
    obtain ⟨k2, _⟩ := aZ (hv 2 _ rfl) (by rw [hvl]; decide)
    obtain ⟨k3, _⟩ := aZ (hv 3 _ rfl) (by rw [hvl]; decide)
    obtain ⟨ts, _, _, _, _, htl, ht⟩ := DataW.trod_struct Tryz.underlying26 k3
    obtain ⟨t0, _⟩ := aZ (ht 0 _ rfl) (by rw [htl]; decide)
    obtain ⟨t1, _⟩ := aZ (ht 1 _ rfl) (by rw [htl]; decide)
    obtain ⟨z0, rfl, w0⟩ := fX (c := c1) Tryz.underlying3 k0
    obtain ⟨z1, rfl, w1⟩ := fX (c := c2) Tryz.underlying3 k1
    obtain ⟨z2, rfl, w2⟩ := fX (c := c3) Tryz.underlying3 k2
    obtain ⟨z3, rfl, w3⟩ := fX (c := c4) Tryz.underlying3 t0
    obtain ⟨z4, rfl, w4⟩ := fX (c := c5) Tryz.underlying3 t1
    cases hx
    rw [Mt] at b0
    exact ⟨A, cp, ns, L, ⟨z0, z1, z2, z3, z4, 0, 0, 0⟩, rfl, hG, hB.wide (Nat.le_trans e0 b0), ⟨w0, w1, w2, w3, w4⟩⟩
end a
end
section
open Go.RowKit Go.Maps HeapM TabM
structure iA where
  c : aU
  a : yZ
  root : Int
def sI (x : iA) : List Value := [.int .i64 x.c.op, .int .i64 x.c.handle, .int .i64 x.c.other, .string x.c.name, .string x.c.text, .slice x.c.dA x.c.data.length x.c.dC, .int .i64 x.c.mode, .int .i64 x.c.uid, .int .i64 x.c.gid, .int .i64 x.c.sec, .int .i64 x.c.nano, .int .i64 x.c.code, .int .i64 x.c.answer, .int .i64 x.a.at_, .int .i64 x.a.op, .string x.a.path, .string x.a.to, .string x.a.text, .int .i64 x.root]
instance : Inhabited iA := ⟨⟨⟨0, 0, 0, ⟨#[]⟩, ⟨#[]⟩, none, 0, [], 0, 0, 0, 0, 0, 0, 0⟩, ⟨0, 0, ⟨#[]⟩, ⟨#[]⟩, ⟨#[]⟩⟩, 0⟩⟩
def aA (xs : List iA) (i : Nat) : iA := xs.getD i default
inductive yu (S : aG) (x : iA) : aG → Int → Prop
  | act (h : ¬ x.a.op = 0) : yu S x (actM S x.root x.a).2 (actM S x.root x.a).1
  | call (h : x.a.op = 0) (A : Option Addr) (n : Nat) : yu S x (doM S { x.c with dA := A, dC := n }).1 (doM S { x.c with dA := A, dC := n }).2.code
section p
variable {S S2 S3 : aG} {x : iA} {e : Int} {d to : Nat} {name toName text : ByteArray} {t : Th} {c : aU} {O : bM}
theorem yu.inv (h : yu S x S2 e) (hI : Inv S) : Inv S2 := by
  cases h
  ·exact hI.actM
  exact hI.doM _
theorem Aq (hI : Inv0 S) (h : Int) {need : Int} (hb : ¬ bw name) : ∃ e, cF S.O S.us h name need = .error e ∧ e ≠ 0 := by
  rcases jd hI h name need with h1 | ⟨d, _, _, _, h1, _⟩
  ·exact h1
  exact absurd h1 hb
theorem Mu (hI : Inv S) (hb : ¬ bw c.name) (h : ¬ (c.op = 1 ∨ c.op = 9 ∨ c.op = 10 ∨ c.op = 11 ∨ c.op = 13)) : (opM S c).1 ≠ 0 := by
  by_cases hop : 1 ≤ c.op ∧ c.op ≤ 15
  case neg => rw [tW hop]; show (230 : Int) ≠ 0; decide
  obtain ⟨e, h1, h2⟩ := Aq hI.toInv0 c.handle (need := 192) hb
  obtain ⟨e', h1', h2'⟩ := Aq hI.toInv0 c.handle (need := 64) hb
  have hn : ez S.O S.us c = .error e' := by unfold ez; rw [h1']
  have hop : c.op = 2 ∨ c.op = 3 ∨ c.op = 4 ∨ c.op = 5 ∨ c.op = 6 ∨ c.op = 7 ∨ c.op = 8 ∨ c.op = 12 ∨ c.op = 14 ∨ c.op = 15 := by omega
  rcases hop with q | q | q | q | q | q | q | q | q | q
  ·rw [uS q]; unfold dN; rw [hn]; exact h2'
  ·rw [xE q]; unfold dw; rw [hn]; exact h2'
  ·rw [uT q]; unfold eE; rw [h1]; exact h2
  ·rw [xG q]; unfold cW; rw [h1]; exact h2
  ·rw [xH q]; unfold dV; rw [h1]; exact h2
  ·rw [xI q]; unfold bW; rw [h1']; exact h2'
  ·rw [xJ q]; unfold eT; rw [h1]; exact h2
  ·rw [tT q]; unfold eU; rw [hn]; exact h2'
  ·rw [tU q]; unfold fJ; rw [h1]; exact h2
  rw [tV q]; unfold dS; rw [h1]; exact h2
theorem Mv (hI : Inv S) (hb : ¬ bw c.name) (h : ¬ (c.op = 1 ∨ c.op = 9 ∨ c.op = 10 ∨ c.op = 11 ∨ c.op = 13)) : (doM S c).2.code ≠ 0 := Mu (c := { c with answer := 0, code := 230 }) hI hb h
structure Grow (S S2 : aG) : Prop where
  used : S2.X.used ≤ S.X.used ∨ S2.X.used ≤ S.X.cB
  cB : S2.X.cB = S.X.cB
  cH : S2.X.cH = S.X.cH
  au : S.au ≤ S2.au
end p
end
section
open Go.RowKit Go.WideShapes Go.ChangeShapes Go.ChangeAt Go.Deep
def Mw (xs : List iA) : List Value := dm (fun _ x => sI x) 0 xs
structure sJ (β : Bs) (x : iA) (b : Nat) : Prop where
  data : bJ β x.c.dA x.c.data
  len : x.c.data.length ≤ b
  name : x.c.name.size ≤ b
  text : x.c.text.size ≤ b
  path : x.a.path.size ≤ b
  to : x.a.to.size ≤ b
  txt : x.a.text.size ≤ b
  hw : (Lit.int .i64 x.c.handle).wf = true
  ow : (Lit.int .i64 x.c.other).wf = true
  rw : (Lit.int .i64 x.root).wf = true
theorem sJ.le {β β' : Bs} {x : iA} {b : Nat} (h : sJ β x b) (hle : β.le β') : sJ β' x b := ⟨h.data.le hle, h.len, h.name, h.text, h.path, h.to, h.txt, h.hw, h.ow, h.rw⟩
structure bD (β : Bs) (A : Option Addr) (xs : List iA) : Prop where
  row : fQ β A (Mw xs)
  st : ∀ i, i < xs.length → sJ β (aA xs i) 1048576
theorem bD.le {β β' : Bs} {A : Option Addr} {xs : List iA} (h : bD β A xs) (hle : β.le β') : bD β' A xs := ⟨h.row.le hle, fun i hi => (h.st i hi).le hle⟩
section s
variable {β : Bs} {A : Option Addr} {xs : List iA} {i j : Nat} {v : Value}
theorem bD.get (h : bD β A xs) (hi : i < xs.length) (hv : (sI (aA xs i))[j]? = some v) : A = some ⟨ax A, av A, none⟩ ∧ Rd β ⟨ax A, av A + i * 19 + j, none⟩ v := by
  have hj : j < 19 := bA hv
  have h1 := nE (f := fun _ x => sI x) (s := 19) (fun _ _ => rfl) xs 0 i j _ (getD_some (x := default) hi) hj
  have := h.row (i * 19 + j) v (h1.trans hv)
  rw [← Nat.add_assoc] at this
  exact this
theorem bD.hd (h : bD β A xs) (hi : i < xs.length) : A = some ⟨ax A, av A, none⟩ := (h.get hi (j := 0) rfl).1
theorem bD.rd (h : bD β A xs) (hi : i < xs.length) (hv : (sI (aA xs i))[j]? = some v) : Rd β ⟨ax A, av A + i * 19 + j, none⟩ v := (h.get hi hv).2
end s
section a
variable {H : Type} {enc : TypeId × Value → H} {W : World} {sp : Nat → Bool}
theorem ia {t : TypeId} {n : Nat} {c : Value} {x : DataW H × List MemPlace} (ht : Tryz.prog.underlying t = some (.int .i64)) (h : DataW.trod enc Tryz.prog W 0 sp true n t [c] = some x) : ∃ z, c = .int .i64 z ∧ (Lit.int .i64 z).wf = true := by
  obtain ⟨z, h1, _, h3⟩ := DataW.trod_int ht h
  cases h1
  exact ⟨z, rfl, h3⟩
theorem GX {n : Nat} {cs : List Value} {x : DataW H × List MemPlace} (h : DataW.trod enc Tryz.prog W 0 sp true n 47 cs = some x) : ∃ a : iA, cs = sI a ∧ sJ (B0 W) a (Rows.uptoBulk x.1) := by
  obtain ⟨ys, m, _, hx, hl, kR, hf⟩ := DataW.trod_struct Tryz.underlying47 h
  have hC : Tryz.prog.cellsOf 47 = 19 := by kernel_rfl
  rw [hC] at hl
  match cs, hl with
  | [c0, c1, c2, c3, c4, c5, c6, c7, c8, c9, c10, c11, c12, c13, c14, c15, c16, c17, c18], _ =>
    obtain ⟨hc, bc⟩ := aZ (hf 0 _ rfl) (by rw [kR]; decide)
    obtain ⟨ha, ba⟩ := aZ (hf 1 _ rfl) (by rw [kR]; decide)
    obtain ⟨hr, _⟩ := aZ (hf 2 _ rfl) (by rw [kR]; decide)
    obtain ⟨us, _, _, Mt, _, nV, hu⟩ := DataW.trod_struct Tryz.underlying43 hc
    obtain ⟨h0, _⟩ := aZ (hu 0 _ rfl) (by rw [nV]; decide)
    obtain ⟨h1, _⟩ := aZ (hu 1 _ rfl) (by rw [nV]; decide)
    obtain ⟨h2, _⟩ := aZ (hu 2 _ rfl) (by rw [nV]; decide)
    obtain ⟨h3, b3⟩ := aZ (hu 3 _ rfl) (by rw [nV]; decide)
    obtain ⟨h4, b4⟩ := aZ (hu 4 _ rfl) (by rw [nV]; decide)
    obtain ⟨h5, b5⟩ := aZ (hu 5 _ rfl) (by rw [nV]; decide)
    obtain ⟨h6, _⟩ := aZ (hu 6 _ rfl) (by rw [nV]; decide)
    obtain ⟨h7, _⟩ := aZ (hu 7 _ rfl) (by rw [nV]; decide)
    obtain ⟨h8, _⟩ := aZ (hu 8 _ rfl) (by rw [nV]; decide)
    obtain ⟨h9, _⟩ := aZ (hu 9 _ rfl) (by rw [nV]; decide)
    obtain ⟨h10, _⟩ := aZ (hu 10 _ rfl) (by rw [nV]; decide)
    obtain ⟨h11, _⟩ := aZ (hu 11 _ rfl) (by rw [nV]; decide)
    obtain ⟨ts, _, _, _, _, htl, ht⟩ := DataW.trod_struct Tryz.underlying26 h9
    obtain ⟨t0, _⟩ := aZ (ht 0 _ rfl) (by rw [htl]; decide)
    obtain ⟨t1, _⟩ := aZ (ht 1 _ rfl) (by rw [htl]; decide)
    obtain ⟨vs, _, _, Py, _, hvl, hv⟩ := DataW.trod_struct Tryz.underlying45 ha
    obtain ⟨a0, _⟩ := aZ (hv 0 _ rfl) (by rw [hvl]; decide)
    obtain ⟨a1, _⟩ := aZ (hv 1 _ rfl) (by rw [hvl]; decide)
    obtain ⟨a2, e2⟩ := aZ (hv 2 _ rfl) (by rw [hvl]; decide)
    obtain ⟨a3, e3⟩ := aZ (hv 3 _ rfl) (by rw [hvl]; decide)
    obtain ⟨a4, e4⟩ := aZ (hv 4 _ rfl) (by rw [hvl]; decide)
    obtain ⟨z0, rfl, w0⟩ := ia (c := c0) Tryz.underlying3 h0
    obtain ⟨z1, rfl, w1⟩ := ia (c := c1) Tryz.underlying3 h1
    obtain ⟨z2, rfl, w2⟩ := ia (c := c2) Tryz.underlying3 h2
    obtain ⟨s3, rfl, l3⟩ := j9 (c := c3) Tryz.underlying9 h3
    obtain ⟨s4, rfl, l4⟩ := j9 (c := c4) Tryz.underlying9 h4
    obtain ⟨A5, p5, d5, rfl, q5, l5⟩ := yh (c := c5) h5
    obtain ⟨z6, rfl, w6⟩ := ia (c := c6) Tryz.underlying3 h6
    obtain ⟨z7, rfl, w7⟩ := ia (c := c7) Tryz.underlying3 h7
    obtain ⟨z8, rfl, w8⟩ := ia (c := c8) Tryz.underlying3 h8
    obtain ⟨z9, rfl, w9⟩ := ia (c := c9) Tryz.underlying3 t0
    obtain ⟨Pz, rfl, QG⟩ := ia (c := c10) Tryz.underlying3 t1
    obtain ⟨PA, rfl, QH⟩ := ia (c := c11) Tryz.underlying34 h10
    obtain ⟨z12, rfl, QI⟩ := ia (c := c12) Tryz.underlying3 h11
    obtain ⟨PB, rfl, QJ⟩ := ia (c := c13) Tryz.underlying3 a0
    obtain ⟨PD, rfl, QK⟩ := ia (c := c14) Tryz.underlying3 a1
    obtain ⟨NV, rfl, QL⟩ := j9 (c := c15) Tryz.underlying9 a2
    obtain ⟨NW, rfl, QM⟩ := j9 (c := c16) Tryz.underlying9 a3
    obtain ⟨NY, rfl, QN⟩ := j9 (c := c17) Tryz.underlying9 a4
    obtain ⟨PE, rfl, PF⟩ := ia (c := c18) Tryz.underlying3 hr
    have hbx : Rows.uptoBulk x.1 = Rows.uptoBulk (.agg (ys.map (·.1))) := by rw [hx]
    have QO : Rows.uptoBulk (ys[0]'(by rw [kR]; decide)).1 = Rows.uptoBulk (.agg (us.map (·.1))) := by rw [Mt]
    have QS : Rows.uptoBulk (ys[1]'(by rw [kR]; decide)).1 = Rows.uptoBulk (.agg (vs.map (·.1))) := by rw [Py]
    exact ⟨⟨⟨z0, z1, z2, s3, s4, A5, p5, d5, z6, z7, z8, z9, Pz, PA, z12⟩, ⟨PB, PD, NV, NW, NY⟩, PE⟩, rfl, ⟨q5, by show d5.length ≤ _; omega, by show s3.size ≤ _; omega, by show s4.size ≤ _; omega, by show NV.size ≤ _; omega, by show NW.size ≤ _; omega, by show NY.size ≤ _; omega, w1, w2, PF⟩⟩
theorem open_steps {v : Value} {d : DataW H} {ps : List MemPlace} {r : Go.Reach} {b0 : Nat} (hval : Value.okWide Tryz.prog W r b0 31 v) (h : DataW.Trod enc Tryz.prog W 0 sp true 31 v d ps) (hb : Rows.uptoBulk d ≤ 1048576) :
    ∃ A cp, ∃ xs : List iA, v = .slice A xs.length cp ∧ bD (B0 W) A xs ∧ xs.length ≤ 1048576 ∧ xs.length ≤ cp := by
  obtain ⟨a, n, c, rfl⟩ := okWide_slice Tryz.underlying31 hval
  obtain ⟨fuel, h⟩ := h
  obtain ⟨A, cp, xs, D, h1, GY, _, h2, h4, h3⟩ := sH (α := iA) (f := sI) (Q := fun a d => sJ (B0 W) a (Rows.uptoBulk d)) Tryz.underlying31 (size := 19) (by kernel_rfl) (by decide) (fun n cs x h => GX h) (fun _ => rfl) h
  cases h1
  have h5 := sG ((List.range xs.length).map D)
  have h3 : Rows.uptoBulkAll ((List.range xs.length).map D) + 1 ≤ Rows.uptoBulk d := h3
  refine ⟨a, c, xs, rfl, ⟨h2, fun i hi => ?_⟩, by simp at h5; omega, GY⟩
  have h6 := h4 i hi
  have h7 := wF (D := D) hi
  exact ⟨h6.data, Nat.le_trans h6.len (by omega), Nat.le_trans h6.name (by omega), Nat.le_trans h6.text (by omega), Nat.le_trans h6.path (by omega), Nat.le_trans h6.to (by omega), Nat.le_trans h6.txt (by omega), h6.hw, h6.ow, h6.rw⟩
end a
end
section
open Go.RowKit Go.Maps HeapM TabM
attribute [local irreducible] aj aT af ai
theorem I6 {β : Bs} : d9 Tryz.prog β 8 #[] [] (fun _ v l => v = .bool true ∧ l = []) := by
 refine d9.enter Tryz.func8 rfl Tryz.ntmps8 (Nat.le_of_ble_eq_true rfl) (fun hle0 R => ?_)
 refine SR ?_
 refine gK 1 [] [] ?_
 refine NS ?_
 refine aj.nu (d := (some 7)) (R := [.abs R]) (pk := [0]) (fun _ => by kernel_rfl) (GQ) rfl (by kernel_rfl) ?_
 rintro β1 _ _ lI ⟨B, Y, rfl, rfl, hG⟩
 replace hle0 := hle0.trans lI
 refine gN 2 (fun b2 => [(1, vP b2)]) (fun b2 => [(1, A_ 1 b2 6)]) (fun _ => []) (fun b2 => .blk b2 [.slice B (2) (2), vI 9, vI 99, vI 9, vI 0, vI 0] 30) (fun b2 => ?_)
 refine NS ?_
 refine gK 4 [(10, .agg #[.slice B (2) (2)]), (12, .agg #[vI 9, vI 99, vI 9, vI 0, vI 0])] [(1, a_ 1 b2), (3, A_ 1 b2 5)] ?_
 refine gL [] (E5 (room := 99) (cp := 2) (by decide) hG) ?_
 rintro _ _ ⟨S, f3, m4, t5, L, h0, rfl, rfl⟩
 refine gK 5 [(2, vP f3), (3, vI 0)] [] ?_
 refine NN (af.seq (SR ?_))
 refine gK 6 [(21, .bool false)] [] ?_
 refine NN ?_
 refine CF ?_
 refine af.skip (NX (SR ?_))
 refine gK 2 [(22, vP f3), (23, .agg #[vI 1, vI 0, vI 1, .string ⟨#[]⟩, .string ⟨#[]⟩, .slice none (0) (0), vI 0, vI 0, vI 0, vI 0, vI 0, vI 0, vI 0])] [] ?_
 have bT : Inv (S1 S) := by have h := h0.inv.doM sF; rw [CM h0] at h; exact h
 refine gL [0, 1, 2, 3, 4, 5] (wG (β := β1) (f := f3) (m := m4) (t := t5) (L := L) h0.inv (zC (by decide) (by decide) (by decide) (by decide) rfl) (CM h0)) ?_
 rintro _ _ ⟨L1, rfl, rfl⟩
 refine gN 2 (fun b6 => [(4, vP b6)]) (fun b6 => [(1, A_ 8 b6 13)]) (fun _ => []) (fun b6 => .blk b6 [vI 1, vI 0, vI 1, .string ⟨#[]⟩, .string ⟨#[]⟩, .slice none (0) (0), vI 0, vI 0, vI 0, vI 0, vI 0, vI 0, vI 1] 43) (fun b6 => ?_)
 refine NS ?_
 refine gK 2 [(25, vP f3), (26, .agg #[vI 4, vI 1, vI 0, .string ⟨#[100]⟩, .string ⟨#[]⟩, .slice none (0) (0), vI 448, vI 0, vI 0, vI 0, vI 0, vI 0, vI 0])] [] ?_
 obtain ⟨S2, hd2, PG, hn2, hc2, ha2, hk2⟩ := Mp h0
 have nS : Inv S2 := by have h := bT.doM rF; rw [hd2] at h; exact h
 refine gL [0, 1, 2, 3, 4, 5] (wG (β := β1) (f := f3) (m := m4) (t := t5) (L := L1) bT (zC (by decide) (by decide) (by decide) (by decide) rfl) hd2) ?_
 rintro _ _ ⟨L2, rfl, rfl⟩
 refine gN 2 (fun b7 => [(5, vP b7)]) (fun b7 => [(1, A_ 9 b7 13)]) (fun _ => []) (fun b7 => .blk b7 [vI 4, vI 1, vI 0, .string ⟨#[100]⟩, .string ⟨#[]⟩, .slice none (0) (0), vI 448, vI 0, vI 0, vI 0, vI 0, vI 0, vI 0] 43) (fun b7 => ?_)
 refine NS ?_
 refine gK 2 [(28, vP f3), (29, .agg #[vI 2, vI 1, vI 0, .string ⟨#[100]⟩, .string ⟨#[]⟩, .slice none (0) (0), vI 0, vI 0, vI 0, vI 0, vI 0, vI 0, vI 0])] [] ?_
 obtain ⟨S3, hd3, PI⟩ := Mq PG hc2 ha2 hk2
 have PJ : Inv S3 := by have h := nS.doM yc; rw [hd3] at h; exact h
 refine gL [0, 1, 2, 3, 4, 5] (wG (β := β1) (f := f3) (m := m4) (t := t5) (L := L2) nS (zC (by decide) (by decide) (by decide) (by decide) rfl) hd3) ?_
 rintro _ _ ⟨L3, rfl, rfl⟩
 refine gN 2 (fun b8 => [(6, vP b8)]) (fun b8 => [(1, A_ 10 b8 13)]) (fun _ => []) (fun b8 => .blk b8 [vI 2, vI 1, vI 0, .string ⟨#[100]⟩, .string ⟨#[]⟩, .slice none (0) (0), vI 0, vI 0, vI 0, vI 0, vI 0, vI 0, vI 2] 43) (fun b8 => ?_)
 refine NS ?_
 refine gK 20 [(49, .bool true), (50, vP f3)] [(1, a_ 8 b6), (5, a_ 8 b6), (10, a_ 9 b7), (15, a_ 10 b8)] ?_
 refine aj.nu (d := (some 51)) (R := [pT t5 S3.X.cH S3.au L3 S3.us, .abs R, .blk b2 [.slice B (2) (2), vI 9, vI 99, vI 9, vI 0, vI 0] 30, .blk b6 [vI 1, vI 0, vI 1, .string ⟨#[]⟩, .string ⟨#[]⟩, .slice none (0) (0), vI 0, vI 0, vI 0, vI 0, vI 0, vI 0, vI 1] 43, .blk b7 [vI 4, vI 1, vI 0, .string ⟨#[100]⟩, .string ⟨#[]⟩, .slice none (0) (0), vI 448, vI 0, vI 0, vI 0, vI 0, vI 0, vI 0] 43, .blk b8 [vI 2, vI 1, vI 0, .string ⟨#[100]⟩, .string ⟨#[]⟩, .slice none (0) (0), vI 0, vI 0, vI 0, vI 0, vI 0, vI 0, vI 2] 43]) (pk := [0, 1, 3, 4, 5, 2, 6, 7, 8, 9, 10]) (fun _ => by kernel_rfl) (yt (β := β1) (S := S3) (L := L3) (f := f3) (m := m4) (t := t5) PJ) rfl (by kernel_rfl) ?_
 rintro Ap _ _ jK ⟨A4, c4, K4, rfl, rfl, _⟩
 replace hG := hG.le jK
 replace hle0 := hle0.trans jK
 refine gK 5 [(0, .bool (decide ((((3 : Nat) : Int) : Int) = (3 : Int))))] [(1, p_ ⟨[], none, none, none, some (vI (((3 : Nat) : Int)))⟩ [((.int .i64 ↑((aO S3).length) : Value)) = (.int .i64 (((3 : Nat) : Int)))] ⟨by rw [mB, PI, hn2], trivial⟩)] ?_
 refine NN (af.ret ?_)
 exact ai.s5 (v := .bool (decide ((((3 : Nat) : Int) : Int) = (3 : Int)))) (l := []) (aV := []) [] [6] hle0 (fun _ => by kernel_rfl) trivial rfl (by kernel_rfl) (⟨rfl, rfl⟩)
end
section
open Go.RowKit Go.Maps HeapM TabM
attribute [local irreducible] aj aT af ai
theorem vE {β : Bs} (c : aU) (hD : bJ β c.dA c.data) (hl : c.data.length ≤ 1048576) :
    d9 Tryz.prog β 14 #[.agg ⟨fT c⟩] [] (fun β' v l => ∃ B cp, v = .agg ⟨fT { c with dA := B, dC := cp }⟩ ∧ l = [] ∧ bJ β' B c.data ∧ c.data.length ≤ cp) := by
 refine d9.enter Tryz.func14 rfl Tryz.ntmps14 (Nat.le_of_ble_eq_true rfl) (fun hle0 R => ?_)
 refine SR ?_
 refine gN 1 (fun b1 => [(1, vP b1)]) (fun _ => []) (fun _ => []) (fun b1 => .blk b1 [vI (c.op), vI (c.handle), vI (c.other), .string c.name, .string c.text, .slice c.dA (c.data.length) (c.dC), vI (c.mode), vI (c.uid), vI (c.gid), vI (c.sec), vI (c.nano), vI (c.code), vI (c.answer)] 43) (fun b1 => ?_)
 refine gN 1 (fun b2 => [(2, vP b2)]) (fun _ => []) (fun _ => []) (fun b2 => .blk b2 [vI 0, vI 0, vI 0, .string ⟨#[]⟩, .string ⟨#[]⟩, .slice none (0) (0), vI 0, vI 0, vI 0, vI 0, vI 0, vI 0, vI 0] 43) (fun b2 => ?_)
 refine NS ?_
 refine gK 2 [(4, .slice c.dA (c.data.length) (c.dC))] [(1, a_ 1 b1)] ?_
 refine aj.nu (d := (some 5)) (R := [.abs R, pC b1 c, .blk b2 [vI 0, vI 0, vI 0, .string ⟨#[]⟩, .string ⟨#[]⟩, .slice none (0) (0), vI 0, vI 0, vI 0, vI 0, vI 0, vI 0, vI 0] 43]) (pk := [0, 1, 2]) (fun _ => by kernel_rfl) (Az c.dA c.dC c.data hD hl) rfl (by kernel_rfl) ?_
 rintro qB _ _ rG ⟨B, cp, rfl, rfl, hB, GY⟩
 replace hle0 := hle0.trans rG
 refine gC 2 [] [(1, a_ 1 b1)] [(1, [(5, .slice B (c.data.length) (cp))])] ?_
 refine NS ?_
 refine gC 2 [] [(0, A_ 1 b1 13), (1, A_ 2 b2 13)] [(2, [(0, vI (c.op)), (1, vI (c.handle)), (2, vI (c.other)), (3, .string c.name), (4, .string c.text), (5, .slice B (c.data.length) (cp)), (6, vI (c.mode)), (7, vI (c.uid)), (8, vI (c.gid)), (9, vI (c.sec)), (10, vI (c.nano)), (11, vI (c.code)), (12, vI (c.answer))])] ?_
 refine NN (af.ret ?_)
 exact ai.s5 (v := .agg #[vI (c.op), vI (c.handle), vI (c.other), .string c.name, .string c.text, .slice B (c.data.length) (cp), vI (c.mode), vI (c.uid), vI (c.gid), vI (c.sec), vI (c.nano), vI (c.code), vI (c.answer)]) (l := []) (aV := [b2 = b2, b2 = b2, b2 = b2, b2 = b2, b2 = b2, b2 = b2, b2 = b2, b2 = b2, b2 = b2, b2 = b2, b2 = b2, b2 = b2, b2 = b2]) [.at 2, .at 2, .at 2, .at 2, .at 2, .at 2, .at 2, .at 2, .at 2, .at 2, .at 2, .at 2, .at 2] [0] hle0 (fun _ => by kernel_rfl) ⟨rfl, rfl, rfl, rfl, rfl, rfl, rfl, rfl, rfl, rfl, rfl, rfl, rfl, trivial⟩ rfl (by kernel_rfl) (⟨B, cp, rfl, rfl, hB, GY⟩)
theorem Ky {β : Bs} (S : aG) (L : HL) (f m t : Nat) (hI : Inv S) (x : iA) (hq : sJ β x 1048576) (hg : fV β) :
    d9 Tryz.prog β 13 #[vP f, .agg ⟨sI x⟩] [.blk f [vI (S.X.cN), vI (S.X.cB), vI (S.X.cH), vI (S.X.cS), vI (S.X.cZ), .map (some m), vP t, vI (S.X.last), vI (S.X.ah), vI (S.X.used)] 86, .abs (aI Tryz.prog 3 m (aM (aJ L S.idx)) S.idx.length), .abs (bp 156 t S.X.cH S.au (aJ L S.us)), .abs (ak (aN S.O L)), .abs (ak (aY S.O L)), .abs (ak (bg S.O L))] (fun _ v l => ∃ L2 S2 e, yu S x S2 e ∧ v = vI e ∧ l = [.blk f [vI (S2.X.cN), vI (S2.X.cB), vI (S2.X.cH), vI (S2.X.cS), vI (S2.X.cZ), .map (some m), vP t, vI (S2.X.last), vI (S2.X.ah), vI (S2.X.used)] 86, .abs (aI Tryz.prog 3 m (aM (aJ L2 S2.idx)) S2.idx.length), .abs (bp 156 t S2.X.cH S2.au (aJ L2 S2.us)), .abs (ak (aN S2.O L2)), .abs (ak (aY S2.O L2)), .abs (ak (bg S2.O L2))]) := by
 refine d9.enter Tryz.func13 rfl Tryz.ntmps13 (Nat.le_of_ble_eq_true rfl) (fun hle0 R => ?_)
 refine SR ?_
 refine gN 2 (fun b4 => [(3, vP b4)]) (fun _ => []) (fun _ => []) (fun b4 => .blk b4 [vI (x.c.op), vI (x.c.handle), vI (x.c.other), .string x.c.name, .string x.c.text, .slice x.c.dA (x.c.data.length) (x.c.dC), vI (x.c.mode), vI (x.c.uid), vI (x.c.gid), vI (x.c.sec), vI (x.c.nano), vI (x.c.code), vI (x.c.answer), vI (x.a.at_), vI (x.a.op), .string x.a.path, .string x.a.to, .string x.a.text, vI (x.root)] 47) (fun b4 => ?_)
 refine NN (af.seq (SR ?_))
 refine gK 4 [(8, .bool (!(decide ((x.a.op : Int) = (0 : Int)))))] [(2, a_ 7 b4)] ?_
 refine NN ?_
 refine af.ct (p := (x.a.op : Int) = (0 : Int)) (fun _ => by kernel_rfl) (fun h8 => ?_) (fun h8 => ?_)
 ·refine SR ?_
  refine gK 5 [(9, vP f), (11, vI (x.root)), (13, .agg #[vI (x.a.at_), vI (x.a.op), .string x.a.path, .string x.a.to, .string x.a.text])] [(2, a_ 7 b4), (4, A_ 7 b4 5)] ?_
  refine gL [0, 1, 2, 3, 4, 5] (Kl S L f m t hI x.root hq.rw x.a hq.path hq.to hq.txt hg) ?_
  rintro _ _ ⟨L2, rfl, rfl⟩
  refine gK 1 [(4, vI ((actM S x.root x.a).1))] [] ?_
  refine NN (af.ret (ai.aq ?_))
  exact ai.s5 (v := .int .i64 ((actM S x.root x.a).1)) (l := (pA f m t L2 ((actM S x.root x.a).2))) (aV := []) [] [0, 1, 2, 3, 4, 5, 6] hle0 (fun _ => by kernel_rfl) trivial rfl (by kernel_rfl) (⟨L2, _, _, .act h8, rfl, rfl⟩)
 refine af.skip (NX (SR ?_))
 refine gK 3 [(15, vP f), (17, .agg #[vI (x.c.op), vI (x.c.handle), vI (x.c.other), .string x.c.name, .string x.c.text, .slice x.c.dA (x.c.data.length) (x.c.dC), vI (x.c.mode), vI (x.c.uid), vI (x.c.gid), vI (x.c.sec), vI (x.c.nano), vI (x.c.code), vI (x.c.answer)])] [(2, A_ 7 b4 13)] ?_
 refine aj.nu (d := (some 18)) (R := ((pA f m t L S) ++ [.abs R, .blk b4 [vI (x.c.op), vI (x.c.handle), vI (x.c.other), .string x.c.name, .string x.c.text, .slice x.c.dA (x.c.data.length) (x.c.dC), vI (x.c.mode), vI (x.c.uid), vI (x.c.gid), vI (x.c.sec), vI (x.c.nano), vI (x.c.code), vI (x.c.answer), vI (x.a.at_), vI (x.a.op), .string x.a.path, .string x.a.to, .string x.a.text, vI (x.root)] 47])) (pk := [0, 1, 2, 3, 4, 5, 6, 7]) (fun _ => by kernel_rfl) (vE x.c hq.data hq.len) rfl (by kernel_rfl) ?_
 rintro QT _ _ Kz ⟨B, cp, rfl, rfl, hB, GY⟩
 replace hle0 := hle0.trans Kz
 refine gL [0, 1, 2, 3, 4, 5] (Cs S L f m t hI { x.c with dA := B, dC := cp } ⟨hq.hw, hq.ow, hq.name, hq.text, hB, Nat.le_trans hq.len (by decide), GY⟩) ?_
 rintro _ _ ⟨L2, rfl, rfl⟩
 refine gK 2 [(4, vI ((doM S { x.c with dA := B, dC := cp }).2.code))] [] ?_
 refine NN (af.ret ?_)
 exact ai.s5 (v := .int .i64 ((doM S { x.c with dA := B, dC := cp }).2.code)) (l := (pA f m t L2 ((doM S { x.c with dA := B, dC := cp }).1))) (aV := []) [] [0, 1, 2, 3, 4, 5, 6] hle0 (fun _ => by kernel_rfl) trivial rfl (by kernel_rfl) (⟨L2, _, _, .call h8 B cp, rfl, rfl⟩)
theorem Mx {β : Bs} (A : Option Addr) (c : Nat) (xs : List iA) (hc : xs.length ≤ c) :
    Spec Tryz.prog β 12 #[.slice A xs.length c] [] (fun v l => ∃ n, n ≤ xs.length ∧ v = .slice A n c ∧ l = []) := by
 refine Spec.enter Tryz.func12 rfl Tryz.ntmps12 (Nat.le_of_ble_eq_true rfl) (fun R => ?_)
 refine SR ?_
 refine gK 1 [] [] ?_
 refine NN (af.seq (SR ?_))
 refine gK 3 [(5, .bool (decide ((((xs.length : Nat) : Int) : Int) > (300 : Int))))] [] ?_
 refine NN ?_
 refine af.bB (p := (((xs.length : Nat) : Int) : Int) > (300 : Int)) (fun _ => by kernel_rfl) (fun h5 => ?_) (fun h5 => ?_)
 ·refine SR ?_
  refine gK 3 [(2, .slice A (300) (c))] [(1, p_ ⟨[], some 300, none, none, none⟩ [300 = ((300 : Nat) : Int), 300 ≤ c] ⟨rfl, by omega, trivial⟩)] ?_
  refine NN (af.ret (ai.aq ?_))
  exact RT (.slice A (300) (c)) [0] (⟨300, by omega, rfl, rfl⟩)
 refine af.skip (NX (SR ?_))
 refine gK 2 [(2, .slice A (xs.length) (c))] [] ?_
 refine NN (af.ret ?_)
 exact RT (.slice A (xs.length) (c)) [0] (⟨xs.length, Nat.le_refl _, rfl, rfl⟩)
end
section
open Go.RowKit HeapM TabM Go.Maps
abbrev E6 (X : FM) (ns : List aK) := { S : aG // dZ X ns ns.length 0 S }
abbrev JU := { e : Int // e ≠ 0 }
theorem I7 {β : Bs} {ns : List aK} {X : FM} (hcap : oQ X) (hok : bV ns) (B : Option Addr) (cp : Nat) (hl : ns.length ≤ 1048576) (hd : ∀ i, i < ns.length → (nd ns i).data.length ≤ 1048576 ∧ (nd ns i).ah.length ≤ 1048576) (hwf : ∀ i, i < ns.length → ∀ j, j < (nd ns i).ah.length → -9223372036854775808 ≤ (ent ns i j).id ∧ (ent ns i j).id ≤ 9223372036854775807) (hnm : ∀ i, i < ns.length → ∀ j, j < (nd ns i).ah.length → (ent ns i j).name.size ≤ 1048576) :
    Spec Tryz.prog β 9 #[.agg #[.slice B ns.length cp], .agg #[.int .i64 X.cN, .int .i64 X.cB, .int .i64 X.cH, .int .i64 X.cS, .int .i64 X.cZ]] [.abs (mw β (fun β' => ∃ K, aB β' B ns K))] (fun v l => ∃ (S : E6 X ns) (f m t : Nat) (L : HL), v = .tuple #[.pointer (some ⟨f, 0, none⟩), .int .i64 0] ∧ l = pA f m t L S.1) :=
  Spec.Et fun _ _ ⟨K, hG⟩ => (zB B cp ns K hG hl hd hwf hnm X).mono (by
    rintro v l (⟨h, _⟩ | ⟨_, h, _⟩ | ⟨_, _, h⟩)
    ·exact absurd hcap h
    ·exact absurd hok h
    obtain ⟨S, f, m, t, L, h1, h2, h3⟩ := h
    exact ⟨⟨S, h1⟩, f, m, t, L, h2, h3⟩)
theorem GZ {β : Bs} {ns : List aK} {X : FM} (E7 : ¬ (oQ X ∧ bV ns)) (B : Option Addr) (cp : Nat) (hl : ns.length ≤ 1048576) (hd : ∀ i, i < ns.length → (nd ns i).data.length ≤ 1048576 ∧ (nd ns i).ah.length ≤ 1048576) (hwf : ∀ i, i < ns.length → ∀ j, j < (nd ns i).ah.length → -9223372036854775808 ≤ (ent ns i j).id ∧ (ent ns i j).id ≤ 9223372036854775807) (hnm : ∀ i, i < ns.length → ∀ j, j < (nd ns i).ah.length → (ent ns i j).name.size ≤ 1048576) :
    Spec Tryz.prog β 9 #[.agg #[.slice B ns.length cp], .agg #[.int .i64 X.cN, .int .i64 X.cB, .int .i64 X.cH, .int .i64 X.cS, .int .i64 X.cZ]] [.abs (mw β (fun β' => ∃ K, aB β' B ns K))] (fun v l => ∃ e : JU, v = .tuple #[.pointer none, .int .i64 e.1] ∧ l = []) :=
  Spec.Et fun _ _ ⟨K, hG⟩ => (zB B cp ns K hG hl hd hwf hnm X).mono (by
    rintro v l (⟨_, h1, h2⟩ | ⟨_, _, h1, h2⟩ | ⟨h1, h2, _⟩)
    ·exact ⟨⟨179, by decide⟩, h1, h2⟩
    ·exact ⟨⟨140, by decide⟩, h1, h2⟩
    exact absurd ⟨h1, h2⟩ E7)
theorem wj (us : Used Th) : us.length = (keys us).length := (List.length_map ..).symm
theorem I8 {S : aG} (h : Inv0 S) : (aO S).length ≤ 1048576 := by
  rw [mB]
  have := h.len
  omega
end
section
open Go.RowKit Go.Maps HeapM TabM
attribute [local irreducible] aj aT af ai
theorem law_names (W : World) (A : Option Addr) (c : Nat) (ns : List aK) (Y : Lay) (X : FM) (hG : aB (B0 W) A ns Y) (hB : nW ns 1048576) (A1 : Option Addr) (c1 : Nat) (xs : List iA) (hS : bD (B0 W) A1 xs) (hxl : xs.length ≤ 1048576) (hxc : xs.length ≤ c1) (hg : fV (B0 W)) (name : ByteArray) (hnz : name.size ≤ 1048576) :
    Spec Tryz.prog (B0 W) 3 #[.agg #[.slice A (ns.length) (c), vI (X.cN), vI (X.cB), vI (X.cH), vI (X.cS), vI (X.cZ)], .slice A1 (xs.length) (c1), .string name] [] (fun v _ => v = .bool true) := by
 have hle0 := B0.refl W
 refine Spec.enter Tryz.func3 rfl Tryz.ntmps3 (Nat.le_of_ble_eq_true rfl) (fun R => ?_)
 refine SR ?_
 refine gN 2 (fun b1 => [(3, vP b1)]) (fun _ => []) (fun _ => []) (fun b1 => .blk b1 [.slice A (ns.length) (c), vI (X.cN), vI (X.cB), vI (X.cH), vI (X.cS), vI (X.cZ)] 30) (fun b1 => ?_)
 refine NN (af.seq (SR ?_))
 refine aj.nu (d := (some 12)) (R := [.abs R, .blk b1 [.slice A (ns.length) (c), vI (X.cN), vI (X.cB), vI (X.cH), vI (X.cS), vI (X.cZ)] 30]) (pk := [0, 1]) (fun _ => by kernel_rfl) (I6) rfl (by kernel_rfl) ?_
 rintro qV _ _ kr ⟨rfl, rfl⟩
 replace hG := hG.le kr
 replace hS := hS.le kr
 replace hg := hg.le kr
 replace hle0 := hle0.trans kr
 refine gK 1 [(13, .bool false)] [] ?_
 refine NN ?_
 refine CF ?_
 refine af.skip (NX (af.seq ?_))
 by_cases I9 : oQ X ∧ bV ns
 ·refine af.kE (S := [.blk b1 [.slice A (ns.length) (c), vI (X.cN), vI (X.cB), vI (X.cH), vI (X.cS), vI (X.cZ)] 30]) [(true, 0), (true, 1), (true, 3), (true, 4), (false, 2), (false, 5), (true, 6), (true, 7), (true, 8), (true, 9), (false, 10)] [1] (by kernel_rfl) (by kernel_rfl) rfl (by kernel_rfl) ?_
  refine dQ.reads (l := [(false, 2), (false, 5), (true, 6), (true, 7), (true, 8), (true, 9), (false, 10)]) (fr' := [(1, .slice A1 (xs.length) (c1)), (2, .string name), (16, .agg #[.slice A (ns.length) (c)]), (19, .agg #[vI (X.cN), vI (X.cB), vI (X.cH), vI (X.cS), vI (X.cZ)])]) (aV := [b1 = b1, b1 = b1, b1 = b1, b1 = b1, b1 = b1, b1 = b1]) [0, 1, 3, 4] [o_, ⟨[.at 0], none, none, none, none⟩, o_, ⟨[.at 0, .at 0, .at 0, .at 0, .at 0], none, none, none, none⟩] [1, 2, 16, 19] (fun _ => by kernel_rfl) ⟨rfl, rfl, rfl, rfl, rfl, rfl, trivial⟩ rfl ?_
  refine dQ.cut (ι := (Option Addr) × Nat) (fr' := fun ((B, cp) : (Option Addr) × Nat) => [(1, .slice A1 (xs.length) (c1)), (2, .string name), (17, .agg #[.slice B (ns.length) (cp)]), (19, .agg #[vI (X.cN), vI (X.cB), vI (X.cH), vI (X.cS), vI (X.cZ)])]) (hp' := fun ((B, cp) : (Option Addr) × Nat) => [.abs (mw qV (fun β' => ∃ K, aB β' B ns K)), .abs R, .blk b1 [.slice A (ns.length) (c), vI (X.cN), vI (X.cB), vI (X.cH), vI (X.cS), vI (X.cZ)] 30]) [2] (by kernel_rfl) ?_ rfl (fun _ => by kernel_rfl) ?_
  ·refine gL [] (sX (β := qV) A c ns Y hG (AV hB) (AX hB)) ?_
   rintro _ _ ⟨B, cp, rfl, rfl⟩
   refine NL ?_
   exact MD (B, cp) [1, 2, 17, 19] [0, 1, 2]
  rintro ⟨B, cp⟩
  refine dQ.cut (ι := (E6 X ns) × Nat × Nat × Nat × HL) (fr' := fun ((N, f, m, t, L) : (E6 X ns) × Nat × Nat × Nat × HL) => [(1, .slice A1 (xs.length) (c1)), (2, .string name), (20, .tuple #[vP f, vI 0])]) (hp' := fun ((N, f, m, t, L) : (E6 X ns) × Nat × Nat × Nat × HL) => [.blk f [vI (N.1.X.cN), vI (N.1.X.cB), vI (N.1.X.cH), vI (N.1.X.cS), vI (N.1.X.cZ), .map (some m), vP t, vI (N.1.X.last), vI (N.1.X.ah), vI (N.1.X.used)] 86, .abs (aI Tryz.prog 3 m (aM (aJ L N.1.idx)) N.1.idx.length), .abs (bp 156 t N.1.X.cH N.1.au (aJ L N.1.us)), .abs (ak (aN N.1.O L)), .abs (ak (aY N.1.O L)), .abs (ak (bg N.1.O L)), .abs R, .blk b1 [.slice A (ns.length) (c), vI (X.cN), vI (X.cB), vI (X.cH), vI (X.cS), vI (X.cZ)] 30]) [7] (by kernel_rfl) ?_ rfl (fun _ => by kernel_rfl) ?_
  ·refine gL [0] (I7 (β := qV) (X := X) I9.1 I9.2 B cp (AV hB) (AX hB) (GV hB) (GW hB)) ?_
   rintro _ _ ⟨N, f, m, t, L, rfl, rfl⟩
   refine NL ?_
   exact MD (N, f, m, t, L) [1, 2, 20] [0, 1, 2, 3, 4, 5, 6, 7]
  rintro ⟨N, f, m, t, L⟩
  refine dQ.reads (l := [(false, 10)]) (fr' := [(1, .slice A1 (xs.length) (c1)), (2, .string name), (7, vP f), (22, vI 0)]) (aV := []) [6, 7, 8, 9] [o_, o_, o_, o_] [1, 2, 7, 22] (fun _ => by kernel_rfl) trivial rfl ?_
  refine dQ.last (by kernel_rfl) ?_
  refine gK 1 [(8, vI 0)] [] ?_
  refine NL (ai.np (NX (af.seq (SR ?_))))
  refine gK 6 [(28, .bool false)] [] ?_
  refine NN ?_
  refine CF ?_
  refine af.skip (NX (af.seq (SR ?_)))
  refine gK 1 [(35, .string name)] [] ?_
  refine gL [] (mq name (by omega)) ?_
  rintro _ _ ⟨rfl, rfl⟩
  refine NN ?_
  refine af.bB (p := bw name) (fun _ => by kernel_rfl) (fun NZ => ?_) (fun NZ => ?_)
  ·refine SR ?_
   refine gK 1 [(6, .bool true)] [] ?_
   refine NN (af.ret (ai.aq ?_))
   exact ai.G2 (v := .bool true) (l := []) (aV := []) [] [6] hle0 (fun _ => by kernel_rfl) trivial rfl (by kernel_rfl) (rfl)
  have Mf : ¬ bw name := NZ
  refine af.skip (NX (SR ?_))
  refine gK 1 [(37, .slice A1 (xs.length) (c1))] [] ?_
  refine gL [] (Mx A1 c1 xs hxc) ?_
  rintro _ _ ⟨n, hn, rfl, rfl⟩
  refine gK 1 [(1, .slice A1 (n) (c1))] [] ?_
  refine NN (af.seq (SR ?_))
  refine gK 1 [(9, vI 0)] [] ?_
  refine NN (af.block ?_)
  refine af.Jc (ι := Nat × Bs × aG × HL) (fun ((i, b, S, L) : Nat × Bs × aG × HL) => b) (fun ((i, b, S, L) : Nat × Bs × aG × HL) => (i ≤ n) ∧ ((B0 W).le b) ∧ (bD b A1 xs) ∧ (fV b) ∧ (Inv S)) (fun ((i, b, S, L) : Nat × Bs × aG × HL) => n - i) (fun ((i, b, S, L) : Nat × Bs × aG × HL) => [(1, .slice A1 (n) (c1)), (2, .string name), (7, vP f), (9, vI ↑i)]) (fun ((i, b, S, L) : Nat × Bs × aG × HL) => [.blk b1 [.slice A (ns.length) (c), vI (X.cN), vI (X.cB), vI (X.cH), vI (X.cS), vI (X.cZ)] 30, pF f m t S.X, pI m L S.idx, pT t S.X.cH S.au L S.us, pO S.O L, pD S.O L, pE S.O L, .abs R]) (0, qV, N.1, L) rfl (idx := [1, 2, 7, 9]) (pk := [7, 0, 1, 2, 3, 4, 5, 6]) (show (0 ≤ n) ∧ ((B0 W).le qV) ∧ (bD qV A1 xs) ∧ (fV qV) ∧ (Inv N.1) from ⟨Nat.zero_le _, hle0, hS, hg, N.2.full⟩) (fun _ => by kernel_rfl) rfl (by kernel_rfl) ?_
  rintro ⟨i, b, S, L⟩ ⟨hi, hle0, hS, hg, hI⟩
  show af _ b _ _ [(1, .slice A1 (n) (c1)), (2, .string name), (7, vP f), (9, vI ↑i)] [.blk b1 [.slice A (ns.length) (c), vI (X.cN), vI (X.cB), vI (X.cH), vI (X.cS), vI (X.cZ)] 30, pF f m t S.X, pI m L S.idx, pT t S.X.cH S.au L S.us, pO S.O L, pD S.O L, pE S.O L, .abs R] _
  refine af.seq (SR ?_)
  refine gK 4 [(42, .bool (decide ((((i : Nat) : Int) : Int) < (((n : Nat) : Int) : Int))))] [] ?_
  refine NN ?_
  refine af.bB (p := (((i : Nat) : Int) : Int) < (((n : Nat) : Int) : Int)) (fun _ => by kernel_rfl) (fun oq => ?_) (fun oq => ?_)
  ·refine af.skip (NX (af.seq (af.block (SR ?_))))
   refine gK 5 [(45, vP f), (49, .agg #[vI ((aA xs i).c.op), vI ((aA xs i).c.handle), vI ((aA xs i).c.other), .string (aA xs i).c.name, .string (aA xs i).c.text, .slice (aA xs i).c.dA ((aA xs i).c.data.length) ((aA xs i).c.dC), vI ((aA xs i).c.mode), vI ((aA xs i).c.uid), vI ((aA xs i).c.gid), vI ((aA xs i).c.sec), vI ((aA xs i).c.nano), vI ((aA xs i).c.code), vI ((aA xs i).c.answer), vI ((aA xs i).a.at_), vI ((aA xs i).a.op), .string (aA xs i).a.path, .string (aA xs i).a.to, .string (aA xs i).a.text, vI ((aA xs i).root)])] [(3, p_ ⟨[], some i, none, some ⟨(ax A1), av A1, none⟩, none⟩ [((i : Nat) : Int) = ((i : Nat) : Int), i < n, (⟨(ax A1), av A1, none⟩ : Addr).spot = none, (A1 : Option Addr) = some ⟨(ax A1), av A1, none⟩] ⟨rfl, by omega, rfl, bD.hd hS (i := i) (by omega), trivial⟩), (4, p_ ⟨[.old (.int .i64 ((aA xs i).c.op)), .old (.int .i64 ((aA xs i).c.handle)), .old (.int .i64 ((aA xs i).c.other)), .old (.string (aA xs i).c.name), .old (.string (aA xs i).c.text), .old (.slice (aA xs i).c.dA ((aA xs i).c.data.length) ((aA xs i).c.dC)), .old (.int .i64 ((aA xs i).c.mode)), .old (.int .i64 ((aA xs i).c.uid)), .old (.int .i64 ((aA xs i).c.gid)), .old (.int .i64 ((aA xs i).c.sec)), .old (.int .i64 ((aA xs i).c.nano)), .old (.int .i64 ((aA xs i).c.code)), .old (.int .i64 ((aA xs i).c.answer)), .old (.int .i64 ((aA xs i).a.at_)), .old (.int .i64 ((aA xs i).a.op)), .old (.string (aA xs i).a.path), .old (.string (aA xs i).a.to), .old (.string (aA xs i).a.text), .old (.int .i64 ((aA xs i).root))], none, none, none, none⟩ [(Rd b ⟨(ax A1), av A1 + i * 19 + 18, none⟩ (.int .i64 ((aA xs i).root))), (Rd b ⟨(ax A1), av A1 + i * 19 + 17, none⟩ (.string (aA xs i).a.text)), (Rd b ⟨(ax A1), av A1 + i * 19 + 16, none⟩ (.string (aA xs i).a.to)), (Rd b ⟨(ax A1), av A1 + i * 19 + 15, none⟩ (.string (aA xs i).a.path)), (Rd b ⟨(ax A1), av A1 + i * 19 + 14, none⟩ (.int .i64 ((aA xs i).a.op))), (Rd b ⟨(ax A1), av A1 + i * 19 + 13, none⟩ (.int .i64 ((aA xs i).a.at_))), (Rd b ⟨(ax A1), av A1 + i * 19 + 12, none⟩ (.int .i64 ((aA xs i).c.answer))), (Rd b ⟨(ax A1), av A1 + i * 19 + 11, none⟩ (.int .i64 ((aA xs i).c.code))), (Rd b ⟨(ax A1), av A1 + i * 19 + 10, none⟩ (.int .i64 ((aA xs i).c.nano))), (Rd b ⟨(ax A1), av A1 + i * 19 + 9, none⟩ (.int .i64 ((aA xs i).c.sec))), (Rd b ⟨(ax A1), av A1 + i * 19 + 8, none⟩ (.int .i64 ((aA xs i).c.gid))), (Rd b ⟨(ax A1), av A1 + i * 19 + 7, none⟩ (.int .i64 ((aA xs i).c.uid))), (Rd b ⟨(ax A1), av A1 + i * 19 + 6, none⟩ (.int .i64 ((aA xs i).c.mode))), (Rd b ⟨(ax A1), av A1 + i * 19 + 5, none⟩ (.slice (aA xs i).c.dA ((aA xs i).c.data.length) ((aA xs i).c.dC))), (Rd b ⟨(ax A1), av A1 + i * 19 + 4, none⟩ (.string (aA xs i).c.text)), (Rd b ⟨(ax A1), av A1 + i * 19 + 3, none⟩ (.string (aA xs i).c.name)), (Rd b ⟨(ax A1), av A1 + i * 19 + 2, none⟩ (.int .i64 ((aA xs i).c.other))), (Rd b ⟨(ax A1), av A1 + i * 19 + 1, none⟩ (.int .i64 ((aA xs i).c.handle))), (Rd b ⟨(ax A1), av A1 + i * 19, none⟩ (.int .i64 ((aA xs i).c.op)))] ⟨bD.rd hS (i := i) (by omega) (j := 18) rfl, bD.rd hS (i := i) (by omega) (j := 17) rfl, bD.rd hS (i := i) (by omega) (j := 16) rfl, bD.rd hS (i := i) (by omega) (j := 15) rfl, bD.rd hS (i := i) (by omega) (j := 14) rfl, bD.rd hS (i := i) (by omega) (j := 13) rfl, bD.rd hS (i := i) (by omega) (j := 12) rfl, bD.rd hS (i := i) (by omega) (j := 11) rfl, bD.rd hS (i := i) (by omega) (j := 10) rfl, bD.rd hS (i := i) (by omega) (j := 9) rfl, bD.rd hS (i := i) (by omega) (j := 8) rfl, bD.rd hS (i := i) (by omega) (j := 7) rfl, bD.rd hS (i := i) (by omega) (j := 6) rfl, bD.rd hS (i := i) (by omega) (j := 5) rfl, bD.rd hS (i := i) (by omega) (j := 4) rfl, bD.rd hS (i := i) (by omega) (j := 3) rfl, bD.rd hS (i := i) (by omega) (j := 2) rfl, bD.rd hS (i := i) (by omega) (j := 1) rfl, bD.rd hS (i := i) (by omega) (j := 0) rfl, trivial⟩)] ?_
   refine aj.nu (d := (some 50)) (R := [.blk b1 [.slice A (ns.length) (c), vI (X.cN), vI (X.cB), vI (X.cH), vI (X.cS), vI (X.cZ)] 30, .abs R]) (pk := [1, 2, 3, 4, 5, 6, 0, 7]) (fun _ => by kernel_rfl) (Ky (β := b) S L f m t hI (aA xs i) (hS.st i (by omega)) hg) rfl (by kernel_rfl) ?_
   rintro qB _ _ rG ⟨L2, S2, e, hp, rfl, rfl⟩
   replace hS := hS.le rG
   replace hg := hg.le rG
   replace hle0 := hle0.trans rG
   refine NS ?_
   have nS := hp.inv hI
   refine gK 5 [(55, .agg #[vI ((aA xs i).c.op), vI ((aA xs i).c.handle), vI ((aA xs i).c.other), .string (aA xs i).c.name, .string (aA xs i).c.text, .slice (aA xs i).c.dA ((aA xs i).c.data.length) ((aA xs i).c.dC), vI ((aA xs i).c.mode), vI ((aA xs i).c.uid), vI ((aA xs i).c.gid), vI ((aA xs i).c.sec), vI ((aA xs i).c.nano), vI ((aA xs i).c.code), vI ((aA xs i).c.answer)])] [(2, p_ ⟨[], some i, none, some ⟨(ax A1), av A1, none⟩, none⟩ [((i : Nat) : Int) = ((i : Nat) : Int), i < n, (⟨(ax A1), av A1, none⟩ : Addr).spot = none, (A1 : Option Addr) = some ⟨(ax A1), av A1, none⟩] ⟨rfl, by omega, rfl, bD.hd hS (i := i) (by omega), trivial⟩), (4, p_ ⟨[.old (.int .i64 ((aA xs i).c.op)), .old (.int .i64 ((aA xs i).c.handle)), .old (.int .i64 ((aA xs i).c.other)), .old (.string (aA xs i).c.name), .old (.string (aA xs i).c.text), .old (.slice (aA xs i).c.dA ((aA xs i).c.data.length) ((aA xs i).c.dC)), .old (.int .i64 ((aA xs i).c.mode)), .old (.int .i64 ((aA xs i).c.uid)), .old (.int .i64 ((aA xs i).c.gid)), .old (.int .i64 ((aA xs i).c.sec)), .old (.int .i64 ((aA xs i).c.nano)), .old (.int .i64 ((aA xs i).c.code)), .old (.int .i64 ((aA xs i).c.answer))], none, none, none, none⟩ [(Rd qB ⟨(ax A1), av A1 + i * 19 + 12, none⟩ (.int .i64 ((aA xs i).c.answer))), (Rd qB ⟨(ax A1), av A1 + i * 19 + 11, none⟩ (.int .i64 ((aA xs i).c.code))), (Rd qB ⟨(ax A1), av A1 + i * 19 + 10, none⟩ (.int .i64 ((aA xs i).c.nano))), (Rd qB ⟨(ax A1), av A1 + i * 19 + 9, none⟩ (.int .i64 ((aA xs i).c.sec))), (Rd qB ⟨(ax A1), av A1 + i * 19 + 8, none⟩ (.int .i64 ((aA xs i).c.gid))), (Rd qB ⟨(ax A1), av A1 + i * 19 + 7, none⟩ (.int .i64 ((aA xs i).c.uid))), (Rd qB ⟨(ax A1), av A1 + i * 19 + 6, none⟩ (.int .i64 ((aA xs i).c.mode))), (Rd qB ⟨(ax A1), av A1 + i * 19 + 5, none⟩ (.slice (aA xs i).c.dA ((aA xs i).c.data.length) ((aA xs i).c.dC))), (Rd qB ⟨(ax A1), av A1 + i * 19 + 4, none⟩ (.string (aA xs i).c.text)), (Rd qB ⟨(ax A1), av A1 + i * 19 + 3, none⟩ (.string (aA xs i).c.name)), (Rd qB ⟨(ax A1), av A1 + i * 19 + 2, none⟩ (.int .i64 ((aA xs i).c.other))), (Rd qB ⟨(ax A1), av A1 + i * 19 + 1, none⟩ (.int .i64 ((aA xs i).c.handle))), (Rd qB ⟨(ax A1), av A1 + i * 19, none⟩ (.int .i64 ((aA xs i).c.op)))] ⟨bD.rd hS (i := i) (by omega) (j := 12) rfl, bD.rd hS (i := i) (by omega) (j := 11) rfl, bD.rd hS (i := i) (by omega) (j := 10) rfl, bD.rd hS (i := i) (by omega) (j := 9) rfl, bD.rd hS (i := i) (by omega) (j := 8) rfl, bD.rd hS (i := i) (by omega) (j := 7) rfl, bD.rd hS (i := i) (by omega) (j := 6) rfl, bD.rd hS (i := i) (by omega) (j := 5) rfl, bD.rd hS (i := i) (by omega) (j := 4) rfl, bD.rd hS (i := i) (by omega) (j := 3) rfl, bD.rd hS (i := i) (by omega) (j := 2) rfl, bD.rd hS (i := i) (by omega) (j := 1) rfl, bD.rd hS (i := i) (by omega) (j := 0) rfl, trivial⟩)] ?_
   refine aj.nu (d := (some 56)) (R := ((pA f m t L2 S2) ++ [.blk b1 [.slice A (ns.length) (c), vI (X.cN), vI (X.cB), vI (X.cH), vI (X.cS), vI (X.cZ)] 30, .abs R])) (pk := [0, 1, 2, 3, 4, 5, 6, 7]) (fun _ => by kernel_rfl) (vE (aA xs i).c (hS.st i (by omega)).data (hS.st i (by omega)).len) rfl (by kernel_rfl) ?_
   rintro kS _ _ zD ⟨Bc, cc, rfl, rfl, Mz, hcc⟩
   replace hS := hS.le zD
   replace hg := hg.le zD
   replace hle0 := hle0.trans zD
   refine gN 2 (fun b5 => [(10, vP b5)]) (fun b5 => [(1, A_ 8 b5 13)]) (fun _ => []) (fun b5 => .blk b5 [vI (({ (aA xs i).c with dA := Bc, dC := cc }).op), vI (({ (aA xs i).c with dA := Bc, dC := cc }).handle), vI (({ (aA xs i).c with dA := Bc, dC := cc }).other), .string ({ (aA xs i).c with dA := Bc, dC := cc }).name, .string ({ (aA xs i).c with dA := Bc, dC := cc }).text, .slice ({ (aA xs i).c with dA := Bc, dC := cc }).dA (({ (aA xs i).c with dA := Bc, dC := cc }).data.length) (({ (aA xs i).c with dA := Bc, dC := cc }).dC), vI (({ (aA xs i).c with dA := Bc, dC := cc }).mode), vI (({ (aA xs i).c with dA := Bc, dC := cc }).uid), vI (({ (aA xs i).c with dA := Bc, dC := cc }).gid), vI (({ (aA xs i).c with dA := Bc, dC := cc }).sec), vI (({ (aA xs i).c with dA := Bc, dC := cc }).nano), vI (({ (aA xs i).c with dA := Bc, dC := cc }).code), vI (({ (aA xs i).c with dA := Bc, dC := cc }).answer)] 43) (fun b5 => ?_)
   refine NN (af.seq (SR ?_))
   refine gK 4 [(60, .bool (decide ((({ (aA xs i).c with dA := Bc, dC := cc }).op : Int) = (1 : Int))))] [(1, a_ 8 b5)] ?_
   refine aj.fk 60 ((({ (aA xs i).c with dA := Bc, dC := cc }).op : Int) = (1 : Int)) (fun _ => by kernel_rfl) (fun Fq => ?_) (fun Fq => ?_)
   ·refine gK 19 [(79, .bool true)] [] ?_
    refine NN ?_
    refine CT ?_
    refine af.exit (ai.aW (ai.ck (NX (af.region ?_))))
    refine gK 3 [(9, vI ↑(i + 1))] [(1, p_ ⟨[], none, none, none, some (vI ↑(i + 1))⟩ [(Value.int .i64 (IntKind.wrap .i64 (((i : Nat) : Int) + 1))) = (.int .i64 ↑(i + 1))] ⟨bI (by omega) (by omega) (by omega), trivial⟩)] ?_
    refine NL ?_
    exact ai.rK ((i + 1), kS, S2, L2) (hb := rfl) (idx := [1, 2, 7, 9]) (pk := [6, 0, 1, 2, 3, 4, 5, 7]) (show (((i + 1)) ≤ n) ∧ ((B0 W).le kS) ∧ (bD kS A1 xs) ∧ (fV kS) ∧ (Inv S2) from ⟨by omega, hle0, hS, hg, nS⟩) (by show n - ((i + 1)) < n - i; omega) (fun _ => by kernel_rfl) rfl (by kernel_rfl)
   refine gK 5 [(65, .bool (decide ((({ (aA xs i).c with dA := Bc, dC := cc }).op : Int) = (9 : Int))))] [(1, a_ 8 b5)] ?_
   refine aj.fk 65 ((({ (aA xs i).c with dA := Bc, dC := cc }).op : Int) = (9 : Int)) (fun _ => by kernel_rfl) (fun PK => ?_) (fun PK => ?_)
   ·refine gK 14 [(79, .bool true)] [] ?_
    refine NN ?_
    refine CT ?_
    refine af.exit (ai.aW (ai.ck (NX (af.region ?_))))
    refine gK 3 [(9, vI ↑(i + 1))] [(1, p_ ⟨[], none, none, none, some (vI ↑(i + 1))⟩ [(Value.int .i64 (IntKind.wrap .i64 (((i : Nat) : Int) + 1))) = (.int .i64 ↑(i + 1))] ⟨bI (by omega) (by omega) (by omega), trivial⟩)] ?_
    refine NL ?_
    exact ai.rK ((i + 1), kS, S2, L2) (hb := rfl) (idx := [1, 2, 7, 9]) (pk := [6, 0, 1, 2, 3, 4, 5, 7]) (show (((i + 1)) ≤ n) ∧ ((B0 W).le kS) ∧ (bD kS A1 xs) ∧ (fV kS) ∧ (Inv S2) from ⟨by omega, hle0, hS, hg, nS⟩) (by show n - ((i + 1)) < n - i; omega) (fun _ => by kernel_rfl) rfl (by kernel_rfl)
   refine gK 5 [(70, .bool (decide ((({ (aA xs i).c with dA := Bc, dC := cc }).op : Int) = (10 : Int))))] [(1, a_ 8 b5)] ?_
   refine aj.fk 70 ((({ (aA xs i).c with dA := Bc, dC := cc }).op : Int) = (10 : Int)) (fun _ => by kernel_rfl) (fun PL => ?_) (fun PL => ?_)
   ·refine gK 9 [(79, .bool true)] [] ?_
    refine NN ?_
    refine CT ?_
    refine af.exit (ai.aW (ai.ck (NX (af.region ?_))))
    refine gK 3 [(9, vI ↑(i + 1))] [(1, p_ ⟨[], none, none, none, some (vI ↑(i + 1))⟩ [(Value.int .i64 (IntKind.wrap .i64 (((i : Nat) : Int) + 1))) = (.int .i64 ↑(i + 1))] ⟨bI (by omega) (by omega) (by omega), trivial⟩)] ?_
    refine NL ?_
    exact ai.rK ((i + 1), kS, S2, L2) (hb := rfl) (idx := [1, 2, 7, 9]) (pk := [6, 0, 1, 2, 3, 4, 5, 7]) (show (((i + 1)) ≤ n) ∧ ((B0 W).le kS) ∧ (bD kS A1 xs) ∧ (fV kS) ∧ (Inv S2) from ⟨by omega, hle0, hS, hg, nS⟩) (by show n - ((i + 1)) < n - i; omega) (fun _ => by kernel_rfl) rfl (by kernel_rfl)
   refine gK 5 [(75, .bool (decide ((({ (aA xs i).c with dA := Bc, dC := cc }).op : Int) = (11 : Int))))] [(1, a_ 8 b5)] ?_
   refine aj.fk 75 ((({ (aA xs i).c with dA := Bc, dC := cc }).op : Int) = (11 : Int)) (fun _ => by kernel_rfl) (fun PN => ?_) (fun PN => ?_)
   ·refine gK 4 [(79, .bool true)] [] ?_
    refine NN ?_
    refine CT ?_
    refine af.exit (ai.aW (ai.ck (NX (af.region ?_))))
    refine gK 3 [(9, vI ↑(i + 1))] [(1, p_ ⟨[], none, none, none, some (vI ↑(i + 1))⟩ [(Value.int .i64 (IntKind.wrap .i64 (((i : Nat) : Int) + 1))) = (.int .i64 ↑(i + 1))] ⟨bI (by omega) (by omega) (by omega), trivial⟩)] ?_
    refine NL ?_
    exact ai.rK ((i + 1), kS, S2, L2) (hb := rfl) (idx := [1, 2, 7, 9]) (pk := [6, 0, 1, 2, 3, 4, 5, 7]) (show (((i + 1)) ≤ n) ∧ ((B0 W).le kS) ∧ (bD kS A1 xs) ∧ (fV kS) ∧ (Inv S2) from ⟨by omega, hle0, hS, hg, nS⟩) (by show n - ((i + 1)) < n - i; omega) (fun _ => by kernel_rfl) rfl (by kernel_rfl)
   refine gK 4 [(79, .bool (decide ((({ (aA xs i).c with dA := Bc, dC := cc }).op : Int) = (13 : Int))))] [(1, a_ 8 b5)] ?_
   refine NN ?_
   refine af.bB (p := (({ (aA xs i).c with dA := Bc, dC := cc }).op : Int) = (13 : Int)) (fun _ => by kernel_rfl) (fun PO => ?_) (fun PO => ?_)
   ·refine af.exit (ai.aW (ai.ck (NX (af.region ?_))))
    refine gK 3 [(9, vI ↑(i + 1))] [(1, p_ ⟨[], none, none, none, some (vI ↑(i + 1))⟩ [(Value.int .i64 (IntKind.wrap .i64 (((i : Nat) : Int) + 1))) = (.int .i64 ↑(i + 1))] ⟨bI (by omega) (by omega) (by omega), trivial⟩)] ?_
    refine NL ?_
    exact ai.rK ((i + 1), kS, S2, L2) (hb := rfl) (idx := [1, 2, 7, 9]) (pk := [6, 0, 1, 2, 3, 4, 5, 7]) (show (((i + 1)) ≤ n) ∧ ((B0 W).le kS) ∧ (bD kS A1 xs) ∧ (fV kS) ∧ (Inv S2) from ⟨by omega, hle0, hS, hg, nS⟩) (by show n - ((i + 1)) < n - i; omega) (fun _ => by kernel_rfl) rfl (by kernel_rfl)
   refine af.skip (NX (SR ?_))
   have OU : ¬ ((aA xs i).c.op = 1 ∨ (aA xs i).c.op = 9 ∨ (aA xs i).c.op = 10 ∨ (aA xs i).c.op = 11 ∨ (aA xs i).c.op = 13) := by simp only at *; omega
   have E7 : ¬ (doM S2 ({ (aA xs i).c with dA := Bc, dC := cc, name := name })).2.code = 0 := Mv (c := { (aA xs i).c with dA := Bc, dC := cc, name := name }) nS Mf OU
   have PS : (doM S2 ({ (aA xs i).c with dA := Bc, dC := cc, name := name })).1 = S2 := Kh E7
   refine gC 3 [] [(2, a_ 8 b5)] [(8, [(3, .string name)])] ?_
   refine NS ?_
   refine gK 1 [(82, vP f)] [] ?_
   refine aj.nu (d := (some 83)) (R := [pT t S2.X.cH S2.au L2 S2.us, .blk b1 [.slice A (ns.length) (c), vI (X.cN), vI (X.cB), vI (X.cH), vI (X.cS), vI (X.cZ)] 30, .abs R, .blk b5 [vI (({ (aA xs i).c with dA := Bc, dC := cc }).op), vI (({ (aA xs i).c with dA := Bc, dC := cc }).handle), vI (({ (aA xs i).c with dA := Bc, dC := cc }).other), .string name, .string ({ (aA xs i).c with dA := Bc, dC := cc }).text, .slice ({ (aA xs i).c with dA := Bc, dC := cc }).dA (({ (aA xs i).c with dA := Bc, dC := cc }).data.length) (({ (aA xs i).c with dA := Bc, dC := cc }).dC), vI (({ (aA xs i).c with dA := Bc, dC := cc }).mode), vI (({ (aA xs i).c with dA := Bc, dC := cc }).uid), vI (({ (aA xs i).c with dA := Bc, dC := cc }).gid), vI (({ (aA xs i).c with dA := Bc, dC := cc }).sec), vI (({ (aA xs i).c with dA := Bc, dC := cc }).nano), vI (({ (aA xs i).c with dA := Bc, dC := cc }).code), vI (({ (aA xs i).c with dA := Bc, dC := cc }).answer)] 43]) (pk := [0, 1, 3, 4, 5, 2, 6, 7, 8]) (fun _ => by kernel_rfl) (yt (β := kS) (S := S2) (L := L2) (f := f) (m := m) (t := t) nS) rfl (by kernel_rfl) ?_
   rintro Ap _ _ jK ⟨G6, c7, K8, rfl, rfl, hH⟩
   replace hS := hS.le jK
   replace hg := hg.le jK
   replace Mz := Mz.le jK
   replace hle0 := hle0.trans jK
   refine gN 2 (fun b10 => [(11, vP b10)]) (fun b10 => [(1, a_ 9 b10)]) (fun _ => []) (fun b10 => .blk b10 [.slice G6 ((aO S2).length) (c7)] 24) (fun b10 => ?_)
   refine NN (af.seq ?_)
   refine af.kE (S := [.blk b5 [vI (({ (aA xs i).c with dA := Bc, dC := cc }).op), vI (({ (aA xs i).c with dA := Bc, dC := cc }).handle), vI (({ (aA xs i).c with dA := Bc, dC := cc }).other), .string name, .string ({ (aA xs i).c with dA := Bc, dC := cc }).text, .slice ({ (aA xs i).c with dA := Bc, dC := cc }).dA (({ (aA xs i).c with dA := Bc, dC := cc }).data.length) (({ (aA xs i).c with dA := Bc, dC := cc }).dC), vI (({ (aA xs i).c with dA := Bc, dC := cc }).mode), vI (({ (aA xs i).c with dA := Bc, dC := cc }).uid), vI (({ (aA xs i).c with dA := Bc, dC := cc }).gid), vI (({ (aA xs i).c with dA := Bc, dC := cc }).sec), vI (({ (aA xs i).c with dA := Bc, dC := cc }).nano), vI (({ (aA xs i).c with dA := Bc, dC := cc }).code), vI (({ (aA xs i).c with dA := Bc, dC := cc }).answer)] 43, .blk b10 [.slice G6 ((aO S2).length) (c7)] 24]) [(true, 0), (true, 1), (false, 2), (true, 3), (true, 4), (true, 5), (true, 6), (true, 8), (false, 7), (false, 9), (true, 10), (false, 11)] [8, 9] (by kernel_rfl) (by kernel_rfl) rfl (by kernel_rfl) ?_
   refine dQ.reads (l := [(false, 2), (true, 3), (true, 4), (true, 5), (true, 6), (true, 8), (false, 7), (false, 9), (true, 10), (false, 11)]) (fr' := [(1, .slice A1 (n) (c1)), (2, .string name), (7, vP f), (9, vI ↑i), (11, vP b10), (84, vP f), (85, .agg #[vI (({ (aA xs i).c with dA := Bc, dC := cc }).op), vI (({ (aA xs i).c with dA := Bc, dC := cc }).handle), vI (({ (aA xs i).c with dA := Bc, dC := cc }).other), .string name, .string ({ (aA xs i).c with dA := Bc, dC := cc }).text, .slice ({ (aA xs i).c with dA := Bc, dC := cc }).dA (({ (aA xs i).c with dA := Bc, dC := cc }).data.length) (({ (aA xs i).c with dA := Bc, dC := cc }).dC), vI (({ (aA xs i).c with dA := Bc, dC := cc }).mode), vI (({ (aA xs i).c with dA := Bc, dC := cc }).uid), vI (({ (aA xs i).c with dA := Bc, dC := cc }).gid), vI (({ (aA xs i).c with dA := Bc, dC := cc }).sec), vI (({ (aA xs i).c with dA := Bc, dC := cc }).nano), vI (({ (aA xs i).c with dA := Bc, dC := cc }).code), vI (({ (aA xs i).c with dA := Bc, dC := cc }).answer)])]) (aV := [b5 = b5, b5 = b5, b5 = b5, b5 = b5, b5 = b5, b5 = b5, b5 = b5, b5 = b5, b5 = b5, b5 = b5, b5 = b5, b5 = b5, b5 = b5]) [0, 1] [o_, ⟨[.at 0, .at 0, .at 0, .at 0, .at 0, .at 0, .at 0, .at 0, .at 0, .at 0, .at 0, .at 0, .at 0], none, none, none, none⟩] [1, 2, 7, 9, 11, 84, 85] (fun _ => by kernel_rfl) ⟨rfl, rfl, rfl, rfl, rfl, rfl, rfl, rfl, rfl, rfl, rfl, rfl, rfl, trivial⟩ rfl ?_
   refine dQ.cut (ι := HL) (fr' := fun (L3 : HL) => [(1, .slice A1 (n) (c1)), (2, .string name), (7, vP f), (9, vI ↑i), (11, vP b10), (86, .agg #[vI ((doM S2 ({ (aA xs i).c with dA := Bc, dC := cc, name := name })).2.op), vI ((doM S2 ({ (aA xs i).c with dA := Bc, dC := cc, name := name })).2.handle), vI ((doM S2 ({ (aA xs i).c with dA := Bc, dC := cc, name := name })).2.other), .string (doM S2 ({ (aA xs i).c with dA := Bc, dC := cc, name := name })).2.name, .string (doM S2 ({ (aA xs i).c with dA := Bc, dC := cc, name := name })).2.text, .slice (doM S2 ({ (aA xs i).c with dA := Bc, dC := cc, name := name })).2.dA ((doM S2 ({ (aA xs i).c with dA := Bc, dC := cc, name := name })).2.data.length) ((doM S2 ({ (aA xs i).c with dA := Bc, dC := cc, name := name })).2.dC), vI ((doM S2 ({ (aA xs i).c with dA := Bc, dC := cc, name := name })).2.mode), vI ((doM S2 ({ (aA xs i).c with dA := Bc, dC := cc, name := name })).2.uid), vI ((doM S2 ({ (aA xs i).c with dA := Bc, dC := cc, name := name })).2.gid), vI ((doM S2 ({ (aA xs i).c with dA := Bc, dC := cc, name := name })).2.sec), vI ((doM S2 ({ (aA xs i).c with dA := Bc, dC := cc, name := name })).2.nano), vI ((doM S2 ({ (aA xs i).c with dA := Bc, dC := cc, name := name })).2.code), vI ((doM S2 ({ (aA xs i).c with dA := Bc, dC := cc, name := name })).2.answer)])]) (hp' := fun (L3 : HL) => [.blk f [vI ((doM S2 ({ (aA xs i).c with dA := Bc, dC := cc, name := name })).1.X.cN), vI ((doM S2 ({ (aA xs i).c with dA := Bc, dC := cc, name := name })).1.X.cB), vI ((doM S2 ({ (aA xs i).c with dA := Bc, dC := cc, name := name })).1.X.cH), vI ((doM S2 ({ (aA xs i).c with dA := Bc, dC := cc, name := name })).1.X.cS), vI ((doM S2 ({ (aA xs i).c with dA := Bc, dC := cc, name := name })).1.X.cZ), .map (some m), vP t, vI ((doM S2 ({ (aA xs i).c with dA := Bc, dC := cc, name := name })).1.X.last), vI ((doM S2 ({ (aA xs i).c with dA := Bc, dC := cc, name := name })).1.X.ah), vI ((doM S2 ({ (aA xs i).c with dA := Bc, dC := cc, name := name })).1.X.used)] 86, .abs (aI Tryz.prog 3 m (aM (aJ L3 (doM S2 ({ (aA xs i).c with dA := Bc, dC := cc, name := name })).1.idx)) ((doM S2 ({ (aA xs i).c with dA := Bc, dC := cc, name := name })).1.idx.length)), .abs (bp 156 t (doM S2 ({ (aA xs i).c with dA := Bc, dC := cc, name := name })).1.X.cH (doM S2 ({ (aA xs i).c with dA := Bc, dC := cc, name := name })).1.au (aJ L3 (doM S2 ({ (aA xs i).c with dA := Bc, dC := cc, name := name })).1.us)), .abs (ak (aN ((doM S2 ({ (aA xs i).c with dA := Bc, dC := cc, name := name })).1.O) L3)), .abs (ak (aY ((doM S2 ({ (aA xs i).c with dA := Bc, dC := cc, name := name })).1.O) L3)), .abs (ak (bg ((doM S2 ({ (aA xs i).c with dA := Bc, dC := cc, name := name })).1.O) L3)), .blk b1 [.slice A (ns.length) (c), vI (X.cN), vI (X.cB), vI (X.cH), vI (X.cS), vI (X.cZ)] 30, .abs R, .blk b5 [vI (({ (aA xs i).c with dA := Bc, dC := cc }).op), vI (({ (aA xs i).c with dA := Bc, dC := cc }).handle), vI (({ (aA xs i).c with dA := Bc, dC := cc }).other), .string name, .string ({ (aA xs i).c with dA := Bc, dC := cc }).text, .slice ({ (aA xs i).c with dA := Bc, dC := cc }).dA (({ (aA xs i).c with dA := Bc, dC := cc }).data.length) (({ (aA xs i).c with dA := Bc, dC := cc }).dC), vI (({ (aA xs i).c with dA := Bc, dC := cc }).mode), vI (({ (aA xs i).c with dA := Bc, dC := cc }).uid), vI (({ (aA xs i).c with dA := Bc, dC := cc }).gid), vI (({ (aA xs i).c with dA := Bc, dC := cc }).sec), vI (({ (aA xs i).c with dA := Bc, dC := cc }).nano), vI (({ (aA xs i).c with dA := Bc, dC := cc }).code), vI (({ (aA xs i).c with dA := Bc, dC := cc }).answer)] 43, .blk b10 [.slice G6 ((aO S2).length) (c7)] 24]) [8, 9] (by kernel_rfl) ?_ rfl (fun _ => by kernel_rfl) ?_
   ·refine gL [0, 1, 5, 2, 3, 4] (Cs (β := Ap) S2 L2 f m t nS ({ (aA xs i).c with dA := Bc, dC := cc, name := name }) ⟨(hS.st i (by omega)).hw, (hS.st i (by omega)).ow, hnz, (hS.st i (by omega)).text, Mz, Nat.le_trans (hS.st i (by omega)).len (by decide), hcc⟩) ?_
    rintro _ _ ⟨L3, rfl, rfl⟩
    refine NL ?_
    exact MD L3 [1, 2, 7, 9, 11, 86] [0, 1, 2, 3, 4, 5, 6, 7, 8, 9]
   rintro L3
   refine dQ.reads (l := [(false, 7), (false, 9), (true, 10), (false, 11)]) (fr' := [(1, .slice A1 (n) (c1)), (2, .string name), (7, vP f), (9, vI ↑i), (89, .bool false), (90, vP f), (92, .agg #[.slice G6 ((aO S2).length) (c7)])]) (aV := [b10 = b10, ((.bool (decide (((doM S2 ({ (aA xs i).c with dA := Bc, dC := cc, name := name })).2.code : Int) = (0 : Int))) : Value)) = (.bool false)]) [3, 4, 5, 6, 8] [o_, ⟨[], none, none, none, some (.bool false)⟩, o_, o_, ⟨[.at 1], none, none, none, none⟩] [1, 2, 7, 9, 89, 90, 92] (fun _ => by kernel_rfl) ⟨rfl, congrArg Value.bool (decide_eq_false E7), trivial⟩ rfl ?_
   refine dQ.cut (ι := (Option Addr) × Nat × Lay) (fr' := fun ((Ao, co, Ko) : (Option Addr) × Nat × Lay) => [(1, .slice A1 (n) (c1)), (2, .string name), (7, vP f), (9, vI ↑i), (89, .bool false), (91, .agg #[.slice Ao ((aO (doM S2 ({ (aA xs i).c with dA := Bc, dC := cc, name := name })).1).length) (co)]), (92, .agg #[.slice G6 ((aO S2).length) (c7)])]) (hp' := fun ((Ao, co, Ko) : (Option Addr) × Nat × Lay) => [.blk f [vI ((doM S2 ({ (aA xs i).c with dA := Bc, dC := cc, name := name })).1.X.cN), vI ((doM S2 ({ (aA xs i).c with dA := Bc, dC := cc, name := name })).1.X.cB), vI ((doM S2 ({ (aA xs i).c with dA := Bc, dC := cc, name := name })).1.X.cH), vI ((doM S2 ({ (aA xs i).c with dA := Bc, dC := cc, name := name })).1.X.cS), vI ((doM S2 ({ (aA xs i).c with dA := Bc, dC := cc, name := name })).1.X.cZ), .map (some m), vP t, vI ((doM S2 ({ (aA xs i).c with dA := Bc, dC := cc, name := name })).1.X.last), vI ((doM S2 ({ (aA xs i).c with dA := Bc, dC := cc, name := name })).1.X.ah), vI ((doM S2 ({ (aA xs i).c with dA := Bc, dC := cc, name := name })).1.X.used)] 86, .abs (aI Tryz.prog 3 m (aM (aJ L3 (doM S2 ({ (aA xs i).c with dA := Bc, dC := cc, name := name })).1.idx)) ((doM S2 ({ (aA xs i).c with dA := Bc, dC := cc, name := name })).1.idx.length)), .abs (ak (aN ((doM S2 ({ (aA xs i).c with dA := Bc, dC := cc, name := name })).1.O) L3)), .abs (ak (aY ((doM S2 ({ (aA xs i).c with dA := Bc, dC := cc, name := name })).1.O) L3)), .abs (ak (bg ((doM S2 ({ (aA xs i).c with dA := Bc, dC := cc, name := name })).1.O) L3)), .abs (aH 70 10 Ao ((aO (doM S2 ({ (aA xs i).c with dA := Bc, dC := cc, name := name })).1).length) co (cg Ko (aO (doM S2 ({ (aA xs i).c with dA := Bc, dC := cc, name := name })).1))), .abs (dY (gS (aO (doM S2 ({ (aA xs i).c with dA := Bc, dC := cc, name := name })).1) Ko) (aO (doM S2 ({ (aA xs i).c with dA := Bc, dC := cc, name := name })).1).length), .abs (dY (gu (aO (doM S2 ({ (aA xs i).c with dA := Bc, dC := cc, name := name })).1) Ko) (aO (doM S2 ({ (aA xs i).c with dA := Bc, dC := cc, name := name })).1).length), .abs (bp 156 t (doM S2 ({ (aA xs i).c with dA := Bc, dC := cc, name := name })).1.X.cH (doM S2 ({ (aA xs i).c with dA := Bc, dC := cc, name := name })).1.au (aJ L3 (doM S2 ({ (aA xs i).c with dA := Bc, dC := cc, name := name })).1.us)), .blk b1 [.slice A (ns.length) (c), vI (X.cN), vI (X.cB), vI (X.cH), vI (X.cS), vI (X.cZ)] 30, .abs R, .blk b5 [vI (({ (aA xs i).c with dA := Bc, dC := cc }).op), vI (({ (aA xs i).c with dA := Bc, dC := cc }).handle), vI (({ (aA xs i).c with dA := Bc, dC := cc }).other), .string name, .string ({ (aA xs i).c with dA := Bc, dC := cc }).text, .slice ({ (aA xs i).c with dA := Bc, dC := cc }).dA (({ (aA xs i).c with dA := Bc, dC := cc }).data.length) (({ (aA xs i).c with dA := Bc, dC := cc }).dC), vI (({ (aA xs i).c with dA := Bc, dC := cc }).mode), vI (({ (aA xs i).c with dA := Bc, dC := cc }).uid), vI (({ (aA xs i).c with dA := Bc, dC := cc }).gid), vI (({ (aA xs i).c with dA := Bc, dC := cc }).sec), vI (({ (aA xs i).c with dA := Bc, dC := cc }).nano), vI (({ (aA xs i).c with dA := Bc, dC := cc }).code), vI (({ (aA xs i).c with dA := Bc, dC := cc }).answer)] 43, .blk b10 [.slice G6 ((aO S2).length) (c7)] 24]) [11, 12] (by kernel_rfl) ?_ rfl (fun _ => by kernel_rfl) ?_
   ·refine gL [0, 1, 3, 4, 5] (Ai (β := Ap) (doM S2 ({ (aA xs i).c with dA := Bc, dC := cc, name := name })).1 L3 f m t (nS.doM _)) ?_
    rintro _ _ ⟨Ao, co, Ko, rfl, rfl⟩
    refine NL ?_
    exact MD (Ao, co, Ko) [1, 2, 7, 9, 89, 91, 92] [0, 1, 2, 3, 4, 5, 6, 7, 8, 9, 10, 11, 12]
   rintro ⟨Ao, co, Ko⟩
   refine dQ.cut (ι := Unit) (fr' := fun (_ : Unit) => [(1, .slice A1 (n) (c1)), (2, .string name), (7, vP f), (9, vI ↑i), (89, .bool false), (93, .bool true)]) (hp' := fun (_ : Unit) => [.abs (aH 70 10 Ao ((aO (doM S2 ({ (aA xs i).c with dA := Bc, dC := cc, name := name })).1).length) co (cg Ko (aO (doM S2 ({ (aA xs i).c with dA := Bc, dC := cc, name := name })).1))), .abs (dY (gS (aO (doM S2 ({ (aA xs i).c with dA := Bc, dC := cc, name := name })).1) Ko) (aO (doM S2 ({ (aA xs i).c with dA := Bc, dC := cc, name := name })).1).length), .abs (dY (gu (aO (doM S2 ({ (aA xs i).c with dA := Bc, dC := cc, name := name })).1) Ko) (aO (doM S2 ({ (aA xs i).c with dA := Bc, dC := cc, name := name })).1).length), .blk f [vI ((doM S2 ({ (aA xs i).c with dA := Bc, dC := cc, name := name })).1.X.cN), vI ((doM S2 ({ (aA xs i).c with dA := Bc, dC := cc, name := name })).1.X.cB), vI ((doM S2 ({ (aA xs i).c with dA := Bc, dC := cc, name := name })).1.X.cH), vI ((doM S2 ({ (aA xs i).c with dA := Bc, dC := cc, name := name })).1.X.cS), vI ((doM S2 ({ (aA xs i).c with dA := Bc, dC := cc, name := name })).1.X.cZ), .map (some m), vP t, vI ((doM S2 ({ (aA xs i).c with dA := Bc, dC := cc, name := name })).1.X.last), vI ((doM S2 ({ (aA xs i).c with dA := Bc, dC := cc, name := name })).1.X.ah), vI ((doM S2 ({ (aA xs i).c with dA := Bc, dC := cc, name := name })).1.X.used)] 86, .abs (aI Tryz.prog 3 m (aM (aJ L3 (doM S2 ({ (aA xs i).c with dA := Bc, dC := cc, name := name })).1.idx)) ((doM S2 ({ (aA xs i).c with dA := Bc, dC := cc, name := name })).1.idx.length)), .abs (ak (aN ((doM S2 ({ (aA xs i).c with dA := Bc, dC := cc, name := name })).1.O) L3)), .abs (ak (aY ((doM S2 ({ (aA xs i).c with dA := Bc, dC := cc, name := name })).1.O) L3)), .abs (ak (bg ((doM S2 ({ (aA xs i).c with dA := Bc, dC := cc, name := name })).1.O) L3)), .abs (bp 156 t (doM S2 ({ (aA xs i).c with dA := Bc, dC := cc, name := name })).1.X.cH (doM S2 ({ (aA xs i).c with dA := Bc, dC := cc, name := name })).1.au (aJ L3 (doM S2 ({ (aA xs i).c with dA := Bc, dC := cc, name := name })).1.us)), .blk b1 [.slice A (ns.length) (c), vI (X.cN), vI (X.cB), vI (X.cH), vI (X.cS), vI (X.cZ)] 30, .abs R, .blk b5 [vI (({ (aA xs i).c with dA := Bc, dC := cc }).op), vI (({ (aA xs i).c with dA := Bc, dC := cc }).handle), vI (({ (aA xs i).c with dA := Bc, dC := cc }).other), .string name, .string ({ (aA xs i).c with dA := Bc, dC := cc }).text, .slice ({ (aA xs i).c with dA := Bc, dC := cc }).dA (({ (aA xs i).c with dA := Bc, dC := cc }).data.length) (({ (aA xs i).c with dA := Bc, dC := cc }).dC), vI (({ (aA xs i).c with dA := Bc, dC := cc }).mode), vI (({ (aA xs i).c with dA := Bc, dC := cc }).uid), vI (({ (aA xs i).c with dA := Bc, dC := cc }).gid), vI (({ (aA xs i).c with dA := Bc, dC := cc }).sec), vI (({ (aA xs i).c with dA := Bc, dC := cc }).nano), vI (({ (aA xs i).c with dA := Bc, dC := cc }).code), vI (({ (aA xs i).c with dA := Bc, dC := cc }).answer)] 43, .blk b10 [.slice G6 ((aO S2).length) (c7)] 24]) [11, 12] (by kernel_rfl) ?_ rfl (fun _ => by kernel_rfl) ?_
   ·refine gL [5, 6, 7] (AA Ao G6 co c7 (aO (doM S2 ({ (aA xs i).c with dA := Bc, dC := cc, name := name })).1) (aO S2) Ko K8 hH (I8 (nS.doM _).toInv0) (I5 (nS.doM _).toInv0) (decide_eq_true (by rw [PS]))) ?_
    rintro _ _ ⟨rfl, rfl⟩
    refine NL ?_
    exact MD () [1, 2, 7, 9, 89, 93] [0, 1, 2, 3, 4, 5, 6, 7, 8, 9, 10, 11, 12]
   rintro _
   refine dQ.reads (l := [(false, 11)]) (fr' := [(1, .slice A1 (n) (c1)), (2, .string name), (7, vP f), (9, vI ↑i), (89, .bool false), (94, .bool false)]) (aV := []) [10] [o_] [1, 2, 7, 9, 89, 94] (fun _ => by kernel_rfl) trivial rfl ?_
   refine dQ.last (by kernel_rfl) ?_
   refine gK 1 [(95, .bool false)] [] ?_
   refine NL (ai.np (NX ?_))
   refine CF ?_
   refine af.skip (ai.aQ (NX (af.region ?_)))
   refine gK 3 [(9, vI ↑(i + 1))] [(1, p_ ⟨[], none, none, none, some (vI ↑(i + 1))⟩ [(Value.int .i64 (IntKind.wrap .i64 (((i : Nat) : Int) + 1))) = (.int .i64 ↑(i + 1))] ⟨bI (by omega) (by omega) (by omega), trivial⟩)] ?_
   refine NL ?_
   exact ai.rK ((i + 1), Ap, (doM S2 ({ (aA xs i).c with dA := Bc, dC := cc, name := name })).1, L3) (hb := rfl) (idx := [1, 2, 7, 9]) (pk := [9, 3, 4, 8, 5, 6, 7, 10]) (show (((i + 1)) ≤ n) ∧ ((B0 W).le Ap) ∧ (bD Ap A1 xs) ∧ (fV Ap) ∧ (Inv ((doM S2 ({ (aA xs i).c with dA := Bc, dC := cc, name := name })).1)) from ⟨by omega, hle0, hS, hg, nS.doM _⟩) (by show n - ((i + 1)) < n - i; omega) (fun _ => by kernel_rfl) rfl (by kernel_rfl)
  refine af.exit (ai.aW (ai.aW (ai.ck (NX (SR ?_)))))
  refine gK 1 [(6, .bool true)] [] ?_
  refine NN (af.ret ?_)
  exact ai.G2 (v := .bool true) (l := []) (aV := []) [] [7] hle0 (fun _ => by kernel_rfl) trivial rfl (by kernel_rfl) (rfl)
 refine af.kE (S := [.blk b1 [.slice A (ns.length) (c), vI (X.cN), vI (X.cB), vI (X.cH), vI (X.cS), vI (X.cZ)] 30]) [(true, 0), (true, 1), (true, 3), (true, 4), (false, 2), (false, 5), (true, 6), (true, 7), (true, 8), (true, 9), (false, 10)] [1] (by kernel_rfl) (by kernel_rfl) rfl (by kernel_rfl) ?_
 refine dQ.reads (l := [(false, 2), (false, 5), (true, 6), (true, 7), (true, 8), (true, 9), (false, 10)]) (fr' := [(1, .slice A1 (xs.length) (c1)), (2, .string name), (16, .agg #[.slice A (ns.length) (c)]), (19, .agg #[vI (X.cN), vI (X.cB), vI (X.cH), vI (X.cS), vI (X.cZ)])]) (aV := [b1 = b1, b1 = b1, b1 = b1, b1 = b1, b1 = b1, b1 = b1]) [0, 1, 3, 4] [o_, ⟨[.at 0], none, none, none, none⟩, o_, ⟨[.at 0, .at 0, .at 0, .at 0, .at 0], none, none, none, none⟩] [1, 2, 16, 19] (fun _ => by kernel_rfl) ⟨rfl, rfl, rfl, rfl, rfl, rfl, trivial⟩ rfl ?_
 refine dQ.cut (ι := (Option Addr) × Nat) (fr' := fun ((B, cp) : (Option Addr) × Nat) => [(1, .slice A1 (xs.length) (c1)), (2, .string name), (17, .agg #[.slice B (ns.length) (cp)]), (19, .agg #[vI (X.cN), vI (X.cB), vI (X.cH), vI (X.cS), vI (X.cZ)])]) (hp' := fun ((B, cp) : (Option Addr) × Nat) => [.abs (mw qV (fun β' => ∃ K, aB β' B ns K)), .abs R, .blk b1 [.slice A (ns.length) (c), vI (X.cN), vI (X.cB), vI (X.cH), vI (X.cS), vI (X.cZ)] 30]) [2] (by kernel_rfl) ?_ rfl (fun _ => by kernel_rfl) ?_
 ·refine gL [] (sX (β := qV) A c ns Y hG (AV hB) (AX hB)) ?_
  rintro _ _ ⟨B, cp, rfl, rfl⟩
  refine NL ?_
  exact MD (B, cp) [1, 2, 17, 19] [0, 1, 2]
 rintro ⟨B, cp⟩
 refine dQ.cut (ι := JU) (fr' := fun (e : JU) => [(1, .slice A1 (xs.length) (c1)), (2, .string name), (20, .tuple #[.pointer none, vI (e.1)])]) (hp' := fun (e : JU) => [.abs R, .blk b1 [.slice A (ns.length) (c), vI (X.cN), vI (X.cB), vI (X.cH), vI (X.cS), vI (X.cZ)] 30]) [1] (by kernel_rfl) ?_ rfl (fun _ => by kernel_rfl) ?_
 ·refine gL [0] (GZ (β := qV) (X := X) I9 B cp (AV hB) (AX hB) (GV hB) (GW hB)) ?_
  rintro _ _ ⟨e, rfl, rfl⟩
  refine NL ?_
  exact MD e [1, 2, 20] [0, 1]
 rintro e
 refine dQ.reads (l := [(false, 10)]) (fr' := [(1, .slice A1 (xs.length) (c1)), (2, .string name), (7, .pointer none), (22, vI (e.1))]) (aV := []) [6, 7, 8, 9] [o_, o_, o_, o_] [1, 2, 7, 22] (fun _ => by kernel_rfl) trivial rfl ?_
 refine dQ.last (by kernel_rfl) ?_
 refine gK 1 [(8, vI (e.1))] [] ?_
 refine NL (ai.np (NX (af.seq (SR ?_))))
 refine gK 3 [(25, .bool (!(decide ((e.1 : Int) = (0 : Int)))))] [] ?_
 refine aj.fD 25 ((e.1 : Int) = (0 : Int)) (fun _ => by kernel_rfl) (fun qU => ?_) (fun qU => ?_)
 ·refine gK 3 [(28, .bool true)] [] ?_
  refine NN ?_
  refine CT ?_
  refine SR ?_
  refine gK 7 [(6, .bool true)] [(4, p_ ⟨[], none, none, none, some (.bool true)⟩ [((.bool (!(decide ((e.1 : Int) = (0 : Int)))) : Value)) = (.bool true)] ⟨by simp [e.2], trivial⟩)] ?_
  refine NN (af.ret (ai.aq ?_))
  exact ai.G2 (v := .bool true) (l := []) (aV := []) [] [0] hle0 (fun _ => by kernel_rfl) trivial rfl (by kernel_rfl) (rfl)
 exact absurd qU e.2
end
section
open Go.RowKit
def CN (h : Array Obj) (g : Nat) (cs : List Nat) : Array Obj := h.modify g fun
  | .cells _ t frozen => .cells (cs.map (fun (n : Nat) => Value.int .u8 n)).toArray t frozen
  | o => o
noncomputable def laidWorld (os : Os) : World :=
  { World.holding Tryz.prog os ⟨#[], #[], []⟩ with heap := CN (CN (World.holding Tryz.prog os ⟨#[], #[], []⟩).heap 1 Go.Pinned.utf8FirstZ) 2 ([128, 191, 160, 191, 128, 159, 144, 191, 128, 143] ++ List.replicate 22 0) }
theorem laidWorld_met (os : Os) (args : Array Value) : laidMetH Tryz.prog Rows.hfsRefusedUptoRow.laid ((laidWorld os).forCall (fun _ _ => 0) ⟨#[], args, []⟩).memory :=
  laidMetH_of_parts (laidMet_of_run3 8 (by kernel_rfl) (by kernel_rfl) (by kernel_rfl)) (by kernel_rfl)
theorem glob_ok {W : World} (h : W.ShapedOpen Tryz.prog) : fV (B0 W) := by
  obtain ⟨m, hm⟩ := cell_of_shapedOpen_int (g := 0) (t := 3) (zero := #[.int .i64 0]) (k := .i64) h (Nat.le_of_ble_eq_true (by kernel_rfl)) (by kernel_rfl) rfl (by kernel_rfl) (by kernel_rfl) Tryz.underlying3
  exact ⟨m, DU hm, hm⟩
open Go.WideShapes Go.ChangeShapes Go.ChangeAt in
theorem open_strA {H : Type} {enc : TypeId × Value → H} {W : World} {sp : Nat → Bool} {v : Value} {d : DataW H} {ps : List MemPlace} {r : Go.Reach} {b0 : Nat} (hval : Value.okWide Tryz.prog W r b0 9 v) (h : DataW.Trod enc Tryz.prog W 0 sp true 9 v d ps) : ∃ s : ByteArray, v = .string s ∧ s.size + 1 ≤ Rows.uptoBulk d := by
  obtain ⟨s, rfl⟩ := okWide_string Tryz.underlying9 hval
  obtain ⟨fuel, h⟩ := h
  obtain ⟨s', e, hs⟩ := j9 (c := .string s) Tryz.underlying9 h
  cases e
  exact ⟨s, rfl, hs⟩
end
end Go.Proofs.YtkiedlmhocglhaaGreatDoor
