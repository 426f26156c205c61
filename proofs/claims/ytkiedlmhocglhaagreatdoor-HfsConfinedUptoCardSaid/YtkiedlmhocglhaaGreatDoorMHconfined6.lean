/-
  PROVED HERE: lemmas and contracts of functions (texts of this repo, joined; what the claim does not use is left out): GO, GRef, GW, Lc, HW, Og, LC, St, Pl, Sx, LB, LP, Oh, Cf, Vq0, ShelfU, GKu, GFb, GBegin, GUd, GUnder, Cg, LF, Zl.
  CONDITIONS: as the theorems say.
-/
import Derived.Test.YtkiedlmhocglhaaGreatDoorMHconfined5
import Derived.ArgAppend
import Derived.Shelf.SlGeneric
import Derived.Shelf.SlIterI.Nil
import Derived.Shelf.SortM.Plain
import Derived.Shelf.SortM.SortNone
import Derived.Ground.GgzProg
import Derived.Ground.SlgmProg
import Derived.Test.YtkiedlmhocglhaaGreatDoorProg
import Derived.Test.YtkiedlmhocglhaaGreatDoorRows
import Derived.Shelf.Vars
import Derived.Deep.DeepLaidRun
import Derived.LaidHandle
import Derived.ChangeMaps5
set_option maxRecDepth 100000
set_option maxHeartbeats 4000000
namespace Go.Proofs.YtkiedlmhocglhaaGreatDoor
section
open Go.RowKit Go.WideShapes Go.ChangeShapes Go.ChangeAt Go.Deep
abbrev B0 (W : World) : Bs := ⟨(· < W.heap.size), W⟩
theorem EF {w : World} {a : Addr} {v : Value} (h : w.cell? a = some v) : a.block < w.heap.size := by
  unfold World.cell? at h
  split at h
  ·rename_i hb; exact lt_of_some hb
  cases h
theorem H9 {w : World} {a : Addr} {v : Value} (h : w.cell? a = some v) : a.spot = none := by
  unfold World.cell? at h
  split at h
  ·split at h
   ·cases h
   rename_i h0
   cases hs : a.spot with
   | none => rfl
   | some x => rw [hs] at h0; exact absurd rfl h0
  cases h
theorem add_plain {a : Addr} (k : Nat) (h : a.spot = none) : a.add k = ⟨a.block, a.off + k, none⟩ := by
  obtain ⟨b, o, s⟩ := a
  cases h
  unfold Addr.add
  split
  ·rename_i h0; subst h0; rfl
  rfl
theorem xA {H : Type} {D : Nat → DataW H} {n i : Nat} (hi : i < n) : Rows.uptoBulk (D i) ≤ Rows.uptoBulkAll ((List.range n).map D) := by
  have hm : D i ∈ (List.range n).map D := List.mem_map.2 ⟨i, List.mem_range.2 hi, rfl⟩
  generalize (List.range n).map D = l at hm
  induction l with
  | nil => cases hm
  | cons x r ih =>
    simp only [Rows.uptoBulkAll]
    rcases List.mem_cons.1 hm with e | hm
    ·subst e; omega
    have := ih hm; omega
theorem JR {H : Type} (d : DataW H) : 1 ≤ Rows.uptoBulk d := by
  cases d with
  | lit l => cases l <;> simp [Rows.uptoBulk]
  | nil => simp [Rows.uptoBulk]
  | ptr d => simp [Rows.uptoBulk]
  | slice elems spare => simp [Rows.uptoBulk]
  | agg parts => simp [Rows.uptoBulk]
  | iface t d => simp [Rows.uptoBulk]
  | map entries => simp [Rows.uptoBulk]
  | held h => simp [Rows.uptoBulk]
theorem tA {H : Type} (l : List (DataW H)) : l.length ≤ Rows.uptoBulkAll l := by
  induction l with
  | nil => simp [Rows.uptoBulkAll]
  | cons x r ih => have := JR x; simp only [Rows.uptoBulkAll, List.length_cons]; omega
theorem bulk_mem {H : Type} {d : DataW H} {l : List (DataW H)} (h : d ∈ l) : Rows.uptoBulk d ≤ Rows.uptoBulkAll l := by
  induction l with
  | nil => cases h
  | cons x r ih =>
    simp only [Rows.uptoBulkAll]
    rcases List.mem_cons.1 h with e | h
    ·subst e; omega
    have := ih h; omega
section open_
variable {H : Type} {enc : TypeId × Value → H} {P : Program} {W : World} {sp : Nat → Bool}
theorem tB {α : Type} [Inhabited α] {t e : TypeId} {size : Nat} {f : α → List Value} {Q : α → DataW H → Prop} (ht : P.underlying t = some (.slice e)) (hC : P.cellsOf e = size) (h0 : 0 < size)
    (hel : ∀ n cs x, DataW.trod enc P W 0 sp true n e cs = some x → ∃ a, cs = f a ∧ Q a x.1) (hf : ∀ a, (f a).length = size)
    {fuel : Nat} {cs : List Value} {x : DataW H × List MemPlace} (h : DataW.trod enc P W 0 sp true fuel t cs = some x) :
    ∃ A c, ∃ xs : List α, ∃ D : Nat → DataW H, cs = [.slice A xs.length c] ∧ xs.length ≤ c ∧ c ≤ maxLen ∧ dI (B0 W) A (dF (fun _ a => f a) 0 xs) ∧ (∀ i, i < xs.length → Q (xs.getD i default) (D i)) ∧
      Rows.uptoBulkAll ((List.range xs.length).map D) + 1 ≤ Rows.uptoBulk x.1 := by
  rcases open_slice ht h with ⟨hv, hx⟩ | ⟨a, len, cap, m, n, D, Pl, hcs, hb, hl, hm, hmm, hx, hi⟩
  ·subst hv
   refine ⟨none, 0, [], fun _ => .nil, rfl, Nat.le_refl _, Nat.zero_le _, fun j v hj => by simp [dF] at hj, fun i hi => absurd hi (Nat.not_lt_zero i), ?_⟩
   rw [hx]
   simp [Rows.uptoBulk, Rows.uptoBulkAll]
  have RY : len ≤ m := by rw [hmm]; split <;> omega
  have hch : ∀ i, ∃ b : α, i < len → (W.cells? 0 (a.add (i * P.cellsOf e)) (P.cellsOf e) = some (f b) ∧ Q b (D i)) := fun i => by
    by_cases hil : i < len
    ·obtain ⟨cs', h1, h2⟩ := hi i (by omega)
     obtain ⟨b, rfl, h3⟩ := hel _ _ _ h2
     exact ⟨b, fun _ => ⟨h1, h3⟩⟩
    exact ⟨default, fun h => absurd h hil⟩
  have hg := fun i => Classical.choose_spec (hch i)
  generalize hG : (fun i => Classical.choose (hch i)) = g at hg
  have hg : ∀ i, i < len → W.cells? 0 (a.add (i * P.cellsOf e)) (P.cellsOf e) = some (f (g i)) ∧ Q (g i) (D i) := fun i hi => by
    have h1 := hg i hi
    have h2 : Classical.choose (hch i) = g i := congrFun hG i
    rw [h2] at h1
    exact h1
  have hlen : ((List.range len).map g).length = len := by simp
  have hget : ∀ i, i < len → ((List.range len).map g)[i]? = some (g i) := fun i hi => by simp [hi]
  have Oz : ∀ i, i < len → ((List.range len).map g).getD i default = g i := fun i hi => by rw [List.getD_eq_getElem?_getD, hget i hi]; rfl
  have hs1 : 0 < len → a.spot = none := fun hl0 => by
    obtain ⟨h2, -⟩ := hg 0 hl0
    rw [hC] at h2
    obtain ⟨_, hcl, hat⟩ := World.cells?_some h2
    have h3 := hat 0 h0
    rw [List.getElem?_eq_getElem (by rw [hcl]; exact h0)] at h3
    have e : (a.add (0 * size)).add 0 = a := by rw [Nat.zero_mul]; rfl
    rw [e] at h3
    exact H9 h3
  refine ⟨some a, cap, (List.range len).map g, D, by rw [hlen]; exact hcs, by rw [hlen]; exact hl, hm, fun j v hj => ?_, fun i hi' => ?_, ?_⟩
  ·have hfl := tT (f := fun _ a => f a) (s := size) (fun _ a => hf a) ((List.range len).map g) 0
   have hjl := bw hj
   rw [hfl, hlen] at hjl
   have nu : j / size < len := (Nat.div_lt_iff_lt_mul h0).2 hjl
   have hj2 : j % size < size := Nat.mod_lt _ h0
   have e := Nat.div_add_mod j size
   rw [Nat.mul_comm] at e
   have h1 := nY (f := fun _ a => f a) (s := size) (fun _ a => hf a) _ 0 _ (j % size) _ (hget _ nu) hj2
   rw [e, hj] at h1
   obtain ⟨h2, -⟩ := hg _ nu
   rw [hC] at h2
   obtain ⟨_, _, hat⟩ := World.cells?_some h2
   have h3 := hat _ hj2
   rw [← h1] at h3
   have hs1 := hs1 (Nat.lt_of_le_of_lt (Nat.zero_le _) nu)
   rw [add_plain _ hs1] at h3
   rw [add_plain (a := ⟨a.block, a.off + j / size * size, none⟩) _ rfl] at h3
   have e2 : a.off + j / size * size + j % size = a.off + j := by omega
   have h4 : W.cell? ⟨a.block, a.off + j, none⟩ = some v := by rw [← e2]; exact h3
   have ea : (some a : Option Addr) = some ⟨au (some a), ar (some a), none⟩ := by
     obtain ⟨b, o, s⟩ := a
     cases hs1
     rfl
   exact ⟨ea, EF h4, h4⟩
  ·rw [hlen] at hi'
   rw [Oz i hi']
   exact (hg i hi').2
  rw [hx, hlen]
  simp only [Rows.uptoBulk]
  omega
theorem Lu {t : TypeId} {n : Nat} {cs : List Value} {x : DataW H × List MemPlace} (ht : P.underlying t = some (.int .u8)) (h : DataW.trod enc P W 0 sp true n t cs = some x) : ∃ b : UInt8, cs = [sD b] ∧ True := by
  obtain ⟨z, h1, _, h3⟩ := DataW.trod_int ht h
  have h4 : 0 ≤ z ∧ z ≤ 255 := by simpa [Lit.wf, IntKind.min, IntKind.max, IntKind.signed, IntKind.bits] using h3
  refine ⟨UInt8.ofNat z.toNat, ?_, trivial⟩
  have e : (((UInt8.ofNat z.toNat).toNat : Nat) : Int) = z := by
    rw [UInt8.toNat_ofNat']
    omega
  rw [sD, e]
  exact h1
def I64 (z : Int) : Prop := -9223372036854775808 ≤ z ∧ z ≤ 9223372036854775807
theorem i64_of {z : Int} (h : (Lit.int .i64 z).wf = true) : I64 z := by
  unfold I64
  simpa [Lit.wf, IntKind.min, IntKind.max, IntKind.signed, IntKind.bits] using h
theorem gq {t : TypeId} {n : Nat} {c : Value} {x : DataW H × List MemPlace} (ht : P.underlying t = some (.int .i64)) (h : DataW.trod enc P W 0 sp true n t [c] = some x) : ∃ z, c = .int .i64 z ∧ I64 z := by
  obtain ⟨z, h1, _, h3⟩ := DataW.trod_int ht h
  cases h1
  exact ⟨z, rfl, by unfold I64; simpa [Lit.wf, IntKind.min, IntKind.max, IntKind.signed, IntKind.bits] using h3⟩
theorem l6 {t : TypeId} {n : Nat} {c : Value} {x : DataW H × List MemPlace} (ht : P.underlying t = some .string) (h : DataW.trod enc P W 0 sp true n t [c] = some x) : ∃ s : ByteArray, c = .string s ∧ s.size + 1 ≤ Rows.uptoBulk x.1 := by
  obtain ⟨s, h1, h2, _⟩ := DataW.trod_string ht h
  cases h1
  refine ⟨s, rfl, ?_⟩
  rw [h2]
  simp only [Rows.uptoBulk, Array.length_toList]
  exact Nat.le_refl _
end open_
section graph
variable {H : Type} {enc : TypeId × Value → H} {W : World} {sp : Nat → Bool}
theorem y4 : ∀ (d : List UInt8) (k : Nat), dF (fun _ b => [sD b]) k d = bL d
  | [], _ => rfl
  | b :: r, k => by rw [dF, y4 r (k + 1)]; rfl
theorem y5 {n : Nat} {c : Value} {x : DataW H × List MemPlace} (h : DataW.trod enc Tryz.prog W 0 sp true n 41 [c] = some x) :
    ∃ A cp, ∃ d : List UInt8, c = .slice A d.length cp ∧ bH (B0 W) A d ∧ d.length + 1 ≤ Rows.uptoBulk x.1 := by
  obtain ⟨A, cp, xs, D, h1, _, _, h2, _, h3⟩ := tB (α := UInt8) (f := fun b => [sD b]) (Q := fun _ _ => True) Tryz.underlying41 (size := 1) (by kernel_rfl) (by decide) (fun n cs x h => Lu Tryz.underlying5 h) (fun _ => rfl) h
  cases h1
  have := tA ((List.range xs.length).map D)
  refine ⟨A, cp, xs, rfl, ?_, by simp at this; omega⟩
  rw [y4] at h2
  exact h2
structure FR (e : gU) (b : Nat) : Prop where
  id : I64 e.id
  name : e.name.size + 1 ≤ b
theorem aX {n : Nat} {cs : List Value} {xs : List (DataW H × List MemPlace)} {i : Nat} {t : TypeId} (h : DataW.trod enc Tryz.prog W 0 sp true n t cs = xs[i]?) (hi : i < xs.length) : DataW.trod enc Tryz.prog W 0 sp true n t cs = some xs[i] ∧ Rows.uptoBulk (xs[i]).1 ≤ Rows.uptoBulk (.agg (xs.map (·.1))) := by
  refine ⟨h.trans (List.getElem?_eq_getElem hi), ?_⟩
  have hm : (xs[i]).1 ∈ xs.map (·.1) := List.mem_map.2 ⟨xs[i], List.getElem_mem hi, rfl⟩
  have := bulk_mem hm
  simp only [Rows.uptoBulk]
  omega
theorem JS {n : Nat} {cs : List Value} {x : DataW H × List MemPlace} (h : DataW.trod enc Tryz.prog W 0 sp true n 101 cs = some x) : ∃ e : gU, cs = wB e ∧ FR e (Rows.uptoBulk x.1) := by
  obtain ⟨ys, m, _, hx, hl, lH, hf⟩ := DataW.trod_struct Tryz.underlying101 h
  have hC : Tryz.prog.cellsOf 101 = 2 := by kernel_rfl
  rw [hC] at hl
  match cs, hl with
  | [c0, c1], _ =>
    obtain ⟨h0, b0⟩ := aX (hf 0 _ rfl) (by rw [lH]; decide)
    obtain ⟨h1, _⟩ := aX (hf 1 _ rfl) (by rw [lH]; decide)
    obtain ⟨s, rfl, hs⟩ := l6 Tryz.underlying9 h0
    obtain ⟨z, rfl, hz⟩ := gq Tryz.underlying3 h1
    exact ⟨⟨s, z⟩, rfl, ⟨hz, by rw [hx]; exact Nat.le_trans hs b0⟩⟩
theorem Ia {n : Nat} {c : Value} {x : DataW H × List MemPlace} (h : DataW.trod enc Tryz.prog W 0 sp true n 68 [c] = some x) :
    ∃ A cp, ∃ es : List gU, c = .slice A es.length cp ∧ cF (B0 W) A es ∧ es.length + 1 ≤ Rows.uptoBulk x.1 ∧ ∀ i, i < es.length → FR (en es i) (Rows.uptoBulk x.1) := by
  obtain ⟨A, cp, xs, D, h1, _, _, h2, h4, h3⟩ := tB (α := gU) (f := wB) (Q := fun e d => FR e (Rows.uptoBulk d)) Tryz.underlying68 (size := 2) (by kernel_rfl) (by decide) (fun n cs x h => JS h) (fun _ => rfl) h
  cases h1
  have h5 := tA ((List.range xs.length).map D)
  refine ⟨A, cp, xs, rfl, h2, by simp at h5; omega, fun i hi => ⟨(h4 i hi).id, ?_⟩⟩
  have h6 := (h4 i hi).name
  have h7 := xA (D := D) hi
  unfold en
  omega
structure KN (nd : aC) (b : Nat) : Prop where
  ids : I64 nd.id ∧ I64 nd.kind ∧ I64 nd.mode ∧ I64 nd.uid ∧ I64 nd.gid ∧ I64 nd.sec ∧ I64 nd.nano
  data : nd.data.length + 1 ≤ b
  target : nd.target.size + 1 ≤ b
  ah : nd.ah.length + 1 ≤ b
  ent : ∀ i, i < nd.ah.length → FR (en nd.ah i) b
structure y6 where
  n : aC
  dA : Option Addr
  dC : Nat
  eA : Option Addr
  eC : Nat
deriving Inhabited
def Np (a : y6) : List Value := [.int .i64 a.n.id, .int .i64 a.n.kind, .int .i64 a.n.mode, .int .i64 a.n.uid, .int .i64 a.n.gid, .int .i64 a.n.sec, .int .i64 a.n.nano, .slice a.dA a.n.data.length a.dC, .string a.n.target, .slice a.eA a.n.ah.length a.eC]
structure KO (W : World) (a : y6) (b : Nat) : Prop where
  nb : KN a.n b
  data : bH (B0 W) a.dA a.n.data
  ah : cF (B0 W) a.eA a.n.ah
theorem Ib {n : Nat} {cs : List Value} {x : DataW H × List MemPlace} (h : DataW.trod enc Tryz.prog W 0 sp true n 70 cs = some x) : ∃ a : y6, cs = Np a ∧ KO W a (Rows.uptoBulk x.1) := by
  obtain ⟨ys, m, _, hx, hl, lH, hf⟩ := DataW.trod_struct Tryz.underlying70 h
  have hC : Tryz.prog.cellsOf 70 = 10 := by kernel_rfl
  rw [hC] at hl
  match cs, hl with
  | [c0, c1, c2, c3, c4, c5, c6, c7, c8, c9], _ =>
    obtain ⟨h0, _⟩ := aX (hf 0 _ rfl) (by rw [lH]; decide)
    obtain ⟨h1, _⟩ := aX (hf 1 _ rfl) (by rw [lH]; decide)
    obtain ⟨h2, _⟩ := aX (hf 2 _ rfl) (by rw [lH]; decide)
    obtain ⟨h3, _⟩ := aX (hf 3 _ rfl) (by rw [lH]; decide)
    obtain ⟨h4, _⟩ := aX (hf 4 _ rfl) (by rw [lH]; decide)
    obtain ⟨h5, _⟩ := aX (hf 5 _ rfl) (by rw [lH]; decide)
    obtain ⟨h6, b6⟩ := aX (hf 6 _ rfl) (by rw [lH]; decide)
    obtain ⟨h7, b7⟩ := aX (hf 7 _ rfl) (by rw [lH]; decide)
    obtain ⟨h8, b8⟩ := aX (hf 8 _ rfl) (by rw [lH]; decide)
    obtain ⟨z0, rfl, w0⟩ := gq Tryz.underlying3 h0
    obtain ⟨z1, rfl, w1⟩ := gq Tryz.underlying3 h1
    obtain ⟨z2, rfl, w2⟩ := gq Tryz.underlying3 h2
    obtain ⟨z3, rfl, w3⟩ := gq Tryz.underlying3 h3
    obtain ⟨z4, rfl, w4⟩ := gq Tryz.underlying3 h4
    obtain ⟨us, _, _, _, _, nD, hu⟩ := DataW.trod_struct Tryz.underlying26 h5
    obtain ⟨g0, _⟩ := aX (hu 0 _ rfl) (by rw [nD]; decide)
    obtain ⟨g1, _⟩ := aX (hu 1 _ rfl) (by rw [nD]; decide)
    obtain ⟨z5, rfl, w5⟩ := gq (c := c5) Tryz.underlying3 g0
    obtain ⟨z6, rfl, w6⟩ := gq (c := c6) Tryz.underlying3 g1
    obtain ⟨A7, p7, d7, rfl, q7, l7⟩ := y5 (c := c7) h6
    obtain ⟨s8, rfl, l8⟩ := l6 (c := c8) Tryz.underlying9 h7
    obtain ⟨A9, p9, e9, rfl, q9, l9, k9⟩ := Ia (c := c9) h8
    rw [hx]
    exact ⟨⟨⟨z0, z1, z2, z3, z4, z5, z6, d7, s8, e9⟩, A7, p7, A9, p9⟩, rfl, ⟨⟨w0, w1, w2, w3, w4, w5, w6⟩, Nat.le_trans l7 b6, Nat.le_trans l8 b7, Nat.le_trans l9 b8, fun i hi => ⟨(k9 i hi).id, Nat.le_trans (k9 i hi).name b8⟩⟩, q7, q9⟩
structure jc (ns : List aC) (b : Nat) : Prop where
  len : ns.length + 1 ≤ b
  node : ∀ i, i < ns.length → KN (nd ns i) b
theorem y7 (L : Lay) : ∀ (xs : List y6) (k : Nat), (∀ i, i < xs.length → L.dA (k + i) = (xs.getD i default).dA ∧ L.dC (k + i) = (xs.getD i default).dC ∧ L.eA (k + i) = (xs.getD i default).eA ∧ L.eC (k + i) = (xs.getD i default).eC) → dF (fun _ a => Np a) k xs = dF (nS L) k (xs.map (·.n))
  | [], _, _ => rfl
  | a :: r, k, h => by
    obtain ⟨h1, h2, h3, h4⟩ := h 0 (by simp)
    simp only [Nat.add_zero, List.getD_cons_zero] at h1 h2 h3 h4
    rw [dF, List.map_cons, dF, y7 L r (k + 1) (fun i hi => by
      have := h (i + 1) (by simp; omega)
      rw [List.getD_cons_succ] at this
      have e : k + (i + 1) = k + 1 + i := by omega
      rw [e] at this
      exact this)]
    rw [nS, h1, h2, h3, h4]
    rfl
theorem FT {n : Nat} {c : Value} {x : DataW H × List MemPlace} (h : DataW.trod enc Tryz.prog W 0 sp true n 22 [c] = some x) :
    ∃ A cp, ∃ ns : List aC, ∃ L : Lay, c = .slice A ns.length cp ∧ aA (B0 W) A ns L ∧ jc ns (Rows.uptoBulk x.1) := by
  obtain ⟨A, cp, xs, D, h1, _, _, h2, h4, h3⟩ := tB (α := y6) (f := Np) (Q := fun a d => KO W a (Rows.uptoBulk d)) Tryz.underlying22 (size := 10) (by kernel_rfl) (by decide) (fun n cs x h => Ib h) (fun _ => rfl) h
  cases h1
  have h5 := tA ((List.range xs.length).map D)
  have e : (xs.map (·.n)).length = xs.length := by simp
  have hnd : ∀ i, i < xs.length → nd (xs.map (·.n)) i = (xs.getD i default).n := fun i hi => by
    simp [nd, List.getD_eq_getElem?_getD, hi]
  refine ⟨A, cp, xs.map (·.n), ⟨fun i => (xs.getD i default).dA, fun i => (xs.getD i default).eA, fun i => (xs.getD i default).dC, fun i => (xs.getD i default).eC⟩, by rw [e], ⟨?_, fun i hi => ?_, fun i hi => ?_⟩, by simp at h5; rw [e]; omega, fun i hi => ?_⟩
  ·rw [y7 ⟨fun i => (xs.getD i default).dA, fun i => (xs.getD i default).eA, fun i => (xs.getD i default).dC, fun i => (xs.getD i default).eC⟩ xs 0 (fun i _ => by rw [Nat.zero_add]; exact ⟨rfl, rfl, rfl, rfl⟩)] at h2
   exact h2
  ·rw [e] at hi
   rw [hnd i hi]
   exact (h4 i hi).data
  ·rw [e] at hi
   rw [hnd i hi]
   exact (h4 i hi).ah
  rw [e] at hi
  rw [hnd i hi]
  have h7 := xA (D := D) hi
  have h8 := (h4 i hi).nb
  exact ⟨h8.ids, by have := h8.data; omega, by have := h8.target; omega, by have := h8.ah; omega, fun j hj => ⟨(h8.ent j hj).id, by have := (h8.ent j hj).name; omega⟩⟩
end graph
end
section
open Go.RowKit
theorem B0.refl (W : World) : (B0 W).le (B0 W) := ⟨fun _ h => h, rfl, rfl, rfl, Nat.le_refl _, fun _ hk => ⟨hk, rfl⟩⟩
theorem Spec.val {P : Program} {β : Bs} {f : FuncId} {args : Array Value} {pre : List HP} {x y : Value} {l0 : List HP} (h : Spec P β f args pre (fun v l => v = x ∧ l = l0)) (e : x = y) : Spec P β f args pre (fun v l => v = y ∧ l = l0) := h.mono fun _ _ h => ⟨h.1.trans e, h.2⟩
section gb
variable {ns : List aC} {b : Nat}
variable (h : jc ns 1048576)
include h
theorem jc.hl : ns.length ≤ 1048576 := by have := h.len; omega
theorem jc.hd : ∀ i, i < ns.length → (nd ns i).data.length ≤ 1048576 ∧ (nd ns i).ah.length ≤ 1048576 := fun i hi => by
  have h1 := (h.node i hi).data
  have h2 := (h.node i hi).ah
  omega
theorem jc.hwf : ∀ i, i < ns.length → ∀ j, j < (nd ns i).ah.length → -9223372036854775808 ≤ (ent ns i j).id ∧ (ent ns i j).id ≤ 9223372036854775807 := fun i hi j hj => ((h.node i hi).ent j hj).id
theorem jc.hnm : ∀ i, i < ns.length → ∀ j, j < (nd ns i).ah.length → (ent ns i j).name.size ≤ 1048576 := fun i hi j hj => by
  have h1 := ((h.node i hi).ent j hj).name
  unfold ent
  omega
end gb
def L0 : Lay := ⟨fun _ => none, fun _ => none, fun _ => 0, fun _ => 0⟩
theorem dI.nil {β : Bs} {A : Option Addr} : dI β A [] := fun j v hj => by simp at hj
end
section
open Go.RowKit Go.Maps HeapM TabM
theorem Spec.KP {P : Program} {β : Bs} {f : FuncId} {args : Array Value} {pre : List HP} {post : Value → List HP → Prop} {Ψ : Bs → Value → List HP → Prop} (h : Spec P β f args pre post) (BR : ∀ v l, post v l → ∃ l1 l2, l = l1 ++ l2 ∧ ∀ β', p6 β l2 β' → Ψ β' v l1) : dY P β f args pre Ψ := by
  intro A w hS
  refine (h A w hS).mono ?_
  rintro e w' ⟨v, l, h1, h2, h3⟩
  obtain ⟨l1, l2, rfl, hl⟩ := BR v l h2
  have h4 : Sat β (([.abs A] ++ l1) ++ l2) w' := by rw [List.append_assoc]; exact Sat.turn h3
  obtain ⟨β', g1, _, g3⟩ := h4.Cq
  exact ⟨β', v, l1, g1.le, h1, hl β' g1, Sat.turn g3⟩
section c
variable {β : Bs} {S S2 : aG} {L : HL} {f m t : Nat} {c c2 : aS}
theorem xB (hI : Inv S) (hC : fJ β c) (h : doM S c = (S2, c2)) : Spec Tryz.prog β 16 #[vP f, .agg ⟨fZ c⟩] (pA f m t L S) (fun v l => ∃ L2, v = .agg ⟨fZ c2⟩ ∧ l = pA f m t L2 S2) := by
  have h1 := C8 (β := β) S L f m t hI c hC
  rw [h] at h1
  exact h1
theorem y8 (hI : Inv S) : dY Tryz.prog β 15 #[vP f] [pF f m t S.X, pI m L S.idx, pO S.O L, pD S.O L, pE S.O L] (fun β' v l => ∃ A cp K, v = .agg #[.slice A (ax S).length cp] ∧ l = [pF f m t S.X, pI m L S.idx, pO S.O L, pD S.O L, pE S.O L] ∧ aA β' A (ax S) K) :=
  (HE S L f m t hI).KP (by
    rintro v l ⟨A, cp, K, rfl, rfl⟩
    exact ⟨_, _, rfl, fun β' h => ⟨A, cp, K, rfl, rfl, h.graph⟩⟩)
theorem vG (h1 : (Lit.int .i64 c.handle).wf = true) (h2 : (Lit.int .i64 c.other).wf = true) (h3 : c.name.size ≤ 1048576) (h4 : c.text.size ≤ 1048576) (h5 : c.data = []) : fJ β c :=
  ⟨h1, h2, h3, h4, by rw [h5]; exact fun j v hj => by simp [bL] at hj, by rw [h5]; decide, by rw [h5]; exact Nat.zero_le _⟩
theorem Bv (A : Option Addr) (cp : Nat) (d : List UInt8) (hA : bH β A d) (hl : d.length ≤ 1048576) : dY Tryz.prog β 39 #[.slice A d.length cp] [] (fun β' v l => ∃ B cap, v = .slice B d.length cap ∧ l = [] ∧ bH β' B d ∧ d.length ≤ cap) :=
  (yY A cp d hA hl).KP (by
    rintro v l ⟨B, cap, rfl, rfl⟩
    refine ⟨[], _, rfl, fun β' h => ⟨B, cap, rfl, rfl, h.bytes, ?_⟩⟩
    obtain ⟨F, h1, _⟩ := h.get 0 rfl
    exact (aI.len h1).2)
theorem FU {room : Int} (hr : 0 ≤ room ∧ room ≤ 1099511627776) {B : Option Addr} {cp : Nat} {Y : Lay} (hG : aA β B nR Y) : Spec Tryz.prog β 9 #[.agg #[.slice B 2 cp], .agg #[.int .i64 9, .int .i64 room, .int .i64 9, .int .i64 0, .int .i64 0]] [] (fun v l => ∃ S f m t L, FQ room S ∧ v = .tuple #[.pointer (some ⟨f, 0, none⟩), .int .i64 0] ∧ l = pA f m t L S) := by
  refine (Ai B cp nR Y hG (by decide) (fun i hi => ?_) (fun i hi j hj => ?_) (fun i hi j hj => ?_) (JO room)).mono ?_
  ·rcases tu hi with rfl | rfl <;> exact ⟨by decide, by decide⟩
  ·rcases tu hi with rfl | rfl
   ·have : j = 0 := by have hj : j < 1 := hj; omega
    subst this; exact ⟨by decide, by decide⟩
   exact absurd hj (Nat.not_lt_zero j)
  ·rcases tu hi with rfl | rfl
   ·have : j = 0 := by have hj : j < 1 := hj; omega
    subst this; decide
   exact absurd hj (Nat.not_lt_zero j)
  rintro v l (⟨h, _⟩ | ⟨_, h, _⟩ | ⟨_, _, S, f, m, t, L, h1, h2, h3⟩)
  ·exact absurd (Ln hr) h
  ·exact absurd Nf h
  exact ⟨S, f, m, t, L, Lr h1, h2, h3⟩
end c
end
section
open Go.RowKit Go.Maps HeapM TabM
section at_
variable {S : aG} {i j : Nat}
theorem gY (hi : i < S.idx.length) : nd (ax S) i = pz S.O (bS S i) (dV S i) := by
  unfold nd ax
  rw [List.getD_eq_getElem?_getD, List.getElem?_map, qt hi]; rfl
theorem Lv (h : Inv0 S) (hij : i < j) (hj : j < S.idx.length) : bS S i < bS S j := by
  have h1 := C9 (S := S) (show i < S.idx.length by omega)
  have h2 := C9 hj
  obtain ⟨g1, e1⟩ := List.getElem?_eq_some_iff.1 h1
  obtain ⟨g2, e2⟩ := List.getElem?_eq_some_iff.1 h2
  have := List.pairwise_iff_getElem.1 h.rise i j g1 g2 hij
  rw [e1, e2] at this
  exact this
theorem y9 (h : Inv0 S) : bP (ax S) := fun i j hij hj => by
  rw [fR] at hj
  rw [gY (by omega), gY hj]
  exact Lv h hij hj
theorem Nq {t : Th} (hl : Live S.idx t) : ∃ i, i < S.idx.length ∧ dV S i = t ∧ bS S i = (t.k : Int) := by
  obtain ⟨i, hi, e⟩ := List.getElem_of_mem (get_mem hl)
  have h1 := qt hi
  rw [List.getElem?_eq_getElem hi, e] at h1
  injection h1 with h1
  injection h1 with h1 h2
  exact ⟨i, hi, h2.symm, h1.symm⟩
theorem Nr (hi : i < S.idx.length) (hj : j < (nd (ax S) i).ah.length) : j < (obj S.O (dV S i).k).ah.length ∧ ent (ax S) i j = ⟨dG (obj S.O (dV S i).k).ah j, (obj S.O (oJ (obj S.O (dV S i).k).ah j).k).id⟩ := by
  rw [gY hi] at hj
  have hj : j < ((obj S.O (dV S i).k).ah.map (iJ S.O)).length := hj
  rw [List.length_map] at hj
  refine ⟨hj, ?_⟩
  unfold ent en
  rw [gY hi]
  show ((obj S.O (dV S i).k).ah.map (iJ S.O)).getD j default = _
  rw [List.getD_eq_getElem?_getD, List.getElem?_map, vE hj]; rfl
theorem JT (h : Inv0 S) (hi : i < S.idx.length) (hj : j < (obj S.O (dV S i).k).ah.length) : Live S.idx (oJ (obj S.O (dV S i).k).ah j) ∧ bB (dG (obj S.O (dV S i).k).ah j) ∧ aQ (dG (obj S.O (dV S i).k).ah j) (obj S.O (dV S i).k).ah = some (oJ (obj S.O (dV S i).k).ah j) ∧ (dV S i).kind = 2 := by
  have hl := (mH h hi).1
  have hm := List.mem_of_getElem? (vE hj)
  have h1 := h.ah _ hl _ hm
  refine ⟨h1.2, h1.1, qh (h.twice hl) hm, Classical.byContradiction fun hk => ?_⟩
  rw [(h.mt _ hl).ah (by rw [h.kind hl]; exact hk)] at hj
  exact absurd hj (Nat.not_lt_zero j)
theorem Ic (h : Inv0 S) (hi : i < S.idx.length) (hj : j < (nd (ax S) i).ah.length) : ∃ a, a < S.idx.length ∧ dV S a = oJ (obj S.O (dV S i).k).ah j ∧ tgt (ax S) (ent (ax S) i j).id = a ∧ iE (ax S) (ent (ax S) i j).id = (a : Int) := by
  obtain ⟨hj2, e⟩ := Nr hi hj
  have hl := (JT h hi hj2).1
  obtain ⟨a, ha, h1, h2⟩ := Nq hl
  have h3 : iE (ax S) (ent (ax S) i j).id = (a : Int) := Ce (y9 h) (by rw [fR]; exact ha) (by
    rw [gY ha, e]
    show bS S a = (obj S.O _).id
    rw [h2, (h.ob _ hl).1])
  exact ⟨a, ha, h1, by unfold tgt; rw [h3]; rfl, h3⟩
end at_
end
section
open Go.RowKit HeapM TabM Go.Maps
section ints
variable {β : Bs} {A : Option Addr} {l : List Int} {j : Nat}
theorem vH.get (h : dI β A (ints l)) (hj : j < l.length) : A = some ⟨au A, ar A, none⟩ ∧ Rd β ⟨au A, ar A + j * 1, none⟩ (.int .i64 (l.getD j 0)) := by
  rw [Nat.mul_one]
  refine h j _ ?_
  unfold ints
  rw [List.getElem?_map, List.getElem?_eq_getElem hj, List.getD_eq_getElem?_getD, List.getElem?_eq_getElem hj]; rfl
theorem vH.hd (h : dI β A (ints l)) (hj : j < l.length) : A = some ⟨au A, ar A, none⟩ := (vH.get h hj).1
theorem vH.rd (h : dI β A (ints l)) (hj : j < l.length) : Rd β ⟨au A, ar A + j * 1, none⟩ (.int .i64 (l.getD j 0)) := (vH.get h hj).2
end ints
theorem Dt {S : aG} (h : Inv0 S) : ∀ i, i < (ax S).length → (nd (ax S) i).data.length ≤ 140737488355328 ∧ (nd (ax S) i).ah.length ≤ 1048576 := fun i hi => by
  rw [fR] at hi
  have h1 : (obj S.O (dV S i).k).data.length ≤ bytes S.idx S.O := j5 (g := fun p : Int × Th => (obj S.O p.2.k).data.length) (get_at h hi)
  have h2 : (obj S.O (dV S i).k).ah.length ≤ tot S.idx S.O := j5 (g := fun p : Int × Th => (obj S.O p.2.k).ah.length) (get_at h hi)
  have h3 := h.used
  have h4 := h.total
  rw [gY hi]
  refine ⟨by show (obj S.O (dV S i).k).data.length ≤ _; omega, ?_⟩
  show ((obj S.O (dV S i).k).ah.map _).length ≤ _
  rw [List.length_map]
  omega
theorem tQ {β : Bs} (A : Option Addr) (c : Nat) (ns : List aC) (L : Lay) (hG : aA β A ns L) (hl : ns.length ≤ 1048576) (hd : ∀ i, i < ns.length → (nd ns i).data.length ≤ 1048576 ∧ (nd ns i).ah.length ≤ 1048576) :
    Spec Tryz.prog β 10 #[.agg #[.slice A ns.length c]] [] (fun v l => ∃ B cap, v = .agg #[.slice B ns.length cap] ∧ l = [.abs (mW β (fun β' => ∃ K, aA β' B ns K))]) :=
  (dY.Ms (ι := Option Addr × Nat) (vv := fun x => .agg #[.slice x.1 ns.length x.2]) (ll := fun _ => []) (Φ := fun x β' => ∃ K, aA β' x.1 ns K)
    ((tX A c ns L hG hl hd).mono (by rintro β' v l _ ⟨B, cap, K, rfl, rfl, h⟩; exact ⟨(B, cap), rfl, rfl, K, h⟩))).mono (by rintro v l ⟨⟨B, cap⟩, rfl, rfl⟩; exact ⟨B, cap, rfl, rfl⟩)
end
section
open Go.RowKit Go.WideShapes Go.ChangeShapes Go.ChangeAt Go.Deep
theorem jc.wide {ns : List aC} {b b' : Nat} (h : jc ns b) (hb : b ≤ b') : jc ns b' := ⟨Nat.le_trans h.len hb, fun i hi => by
  have := h.node i hi
  exact ⟨this.ids, Nat.le_trans this.data hb, Nat.le_trans this.target hb, Nat.le_trans this.ah hb, fun j hj => ⟨(this.ent j hj).id, Nat.le_trans (this.ent j hj).name hb⟩⟩⟩
section gb
variable {ns : List aC} (h : jc ns 1048576)
include h
theorem vJ : ns.length ≤ 1048576 := by have := h.len; omega
theorem za : ∀ i, i < ns.length → (nd ns i).data.length ≤ 1048576 ∧ (nd ns i).ah.length ≤ 1048576 := fun i hi => by
  have h1 := (h.node i hi).data
  have h2 := (h.node i hi).ah
  omega
theorem Ie : ∀ i, i < ns.length → ∀ j, j < (nd ns i).ah.length → -9223372036854775808 ≤ (ent ns i j).id ∧ (ent ns i j).id ≤ 9223372036854775807 := fun i hi j hj => ((h.node i hi).ent j hj).id
theorem Ig : ∀ i, i < ns.length → ∀ j, j < (nd ns i).ah.length → (ent ns i j).name.size ≤ 1048576 := fun i hi j hj => by
  have h1 := ((h.node i hi).ent j hj).name
  unfold ent
  omega
end gb
section a
variable {H : Type} {enc : TypeId × Value → H} {W : World} {sp : Nat → Bool}
def Ns (A : Option Addr) (n cp : Nat) (X : FM) : Value := .agg #[.slice A n cp, .int .i64 X.cN, .int .i64 X.cB, .int .i64 X.cH, .int .i64 X.cS, .int .i64 X.cZ]
structure P9 (X : FM) : Prop where
  cN : I64 X.cN
  cB : I64 X.cB
  cH : I64 X.cH
  cS : I64 X.cS
  cZ : I64 X.cZ
theorem open_start {v : Value} {d : DataW H} {ps : List MemPlace} {r : Go.Reach} {b0 : Nat} (hval : Value.okWide Tryz.prog W r b0 30 v) (h : DataW.Trod enc Tryz.prog W 0 sp true 30 v d ps) :
    ∃ A cp, ∃ ns : List aC, ∃ L : Lay, ∃ X : FM, v = Ns A ns.length cp X ∧ aA (B0 W) A ns L ∧ jc ns (Rows.uptoBulk d) ∧ P9 X := by
  obtain ⟨cs, rfl, hcs⟩ := okWide_struct Tryz.underlying30 hval
  obtain ⟨fuel, h⟩ := h
  obtain ⟨ys, m, _, hx, hl, lH, hf⟩ := DataW.trod_struct Tryz.underlying30 h
  have hC : Tryz.prog.cellsOf 30 = 6 := by kernel_rfl
  rw [hC] at hcs
  obtain ⟨cs⟩ := cs
  match cs, hcs with
  | [c0, c1, c2, c3, c4, c5], _ =>
    obtain ⟨h0, b0⟩ := aX (hf 0 _ rfl) (by rw [lH]; decide)
    obtain ⟨h1, _⟩ := aX (hf 1 _ rfl) (by rw [lH]; decide)
    obtain ⟨us, _, _, Nt, _, nD, hu⟩ := DataW.trod_struct Tryz.underlying24 h0
    obtain ⟨g0, e0⟩ := aX (hu 0 _ rfl) (by rw [nD]; decide)
    obtain ⟨A, cp, ns, L, rfl, hG, hB⟩ := FT (c := c0) g0
    obtain ⟨vs, _, _, _, _, hvl, hv⟩ := DataW.trod_struct Tryz.underlying28 h1
    obtain ⟨k0, _⟩ := aX (hv 0 _ rfl) (by rw [hvl]; decide)
    obtain ⟨k1, _⟩ := aX (hv 1 _ rfl) (by rw [hvl]; decide)
    obtain ⟨k2, _⟩ := aX (hv 2 _ rfl) (by rw [hvl]; decide)
    obtain ⟨k3, _⟩ := aX (hv 3 _ rfl) (by rw [hvl]; decide)
    obtain ⟨ts, _, _, _, _, htl, ht⟩ := DataW.trod_struct Tryz.underlying26 k3
    obtain ⟨t0, _⟩ := aX (ht 0 _ rfl) (by rw [htl]; decide)
    obtain ⟨t1, _⟩ := aX (ht 1 _ rfl) (by rw [htl]; decide)
    obtain ⟨z0, rfl, w0⟩ := gq (c := c1) Tryz.underlying3 k0
    obtain ⟨z1, rfl, w1⟩ := gq (c := c2) Tryz.underlying3 k1
    obtain ⟨z2, rfl, w2⟩ := gq (c := c3) Tryz.underlying3 k2
    obtain ⟨z3, rfl, w3⟩ := gq (c := c4) Tryz.underlying3 t0
    obtain ⟨z4, rfl, w4⟩ := gq (c := c5) Tryz.underlying3 t1
    cases hx
    rw [Nt] at b0
    exact ⟨A, cp, ns, L, ⟨z0, z1, z2, z3, z4, 0, 0, 0⟩, rfl, hG, hB.wide (Nat.le_trans e0 b0), ⟨w0, w1, w2, w3, w4⟩⟩
end a
end
section
open Go.RowKit Go.Maps HeapM TabM
structure ij where
  c : aS
  a : wW
  root : Int
def tC (x : ij) : List Value := [.int .i64 x.c.op, .int .i64 x.c.handle, .int .i64 x.c.other, .string x.c.name, .string x.c.text, .slice x.c.dA x.c.data.length x.c.dC, .int .i64 x.c.mode, .int .i64 x.c.uid, .int .i64 x.c.gid, .int .i64 x.c.sec, .int .i64 x.c.nano, .int .i64 x.c.code, .int .i64 x.c.answer, .int .i64 x.a.at_, .int .i64 x.a.op, .string x.a.path, .string x.a.to, .string x.a.text, .int .i64 x.root]
instance : Inhabited ij := ⟨⟨⟨0, 0, 0, ⟨#[]⟩, ⟨#[]⟩, none, 0, [], 0, 0, 0, 0, 0, 0, 0⟩, ⟨0, 0, ⟨#[]⟩, ⟨#[]⟩, ⟨#[]⟩⟩, 0⟩⟩
def aV (xs : List ij) (i : Nat) : ij := xs.getD i default
inductive vK (S : aG) (x : ij) : aG → Int → Prop
  | act (h : ¬ x.a.op = 0) : vK S x (actM S x.root x.a).2 (actM S x.root x.a).1
  | call (h : x.a.op = 0) (A : Option Addr) (n : Nat) : vK S x (doM S { x.c with dA := A, dC := n }).1 (doM S { x.c with dA := A, dC := n }).2.code
section p
variable {S S2 S3 : aG} {x : ij} {e : Int} {d to : Nat} {name toName text : ByteArray} {t : Th} {c : aS} {O : bK}
theorem vK.inv (h : vK S x S2 e) (hI : Inv S) : Inv S2 := by
  cases h
  ·exact hI.actM
  exact hI.doM _
structure Grow (S S2 : aG) : Prop where
  used : S2.X.used ≤ S.X.used ∨ S2.X.used ≤ S.X.cB
  cB : S2.X.cB = S.X.cB
  cH : S2.X.cH = S.X.cH
  av : S.av ≤ S2.av
end p
end
section
open Go.RowKit Go.WideShapes Go.ChangeShapes Go.ChangeAt Go.Deep
def Nu (xs : List ij) : List Value := dF (fun _ x => tC x) 0 xs
structure tD (β : Bs) (x : ij) (b : Nat) : Prop where
  data : bH β x.c.dA x.c.data
  len : x.c.data.length ≤ b
  name : x.c.name.size ≤ b
  text : x.c.text.size ≤ b
  path : x.a.path.size ≤ b
  to : x.a.to.size ≤ b
  txt : x.a.text.size ≤ b
  hw : (Lit.int .i64 x.c.handle).wf = true
  ow : (Lit.int .i64 x.c.other).wf = true
  rw : (Lit.int .i64 x.root).wf = true
theorem tD.le {β β' : Bs} {x : ij} {b : Nat} (h : tD β x b) (hle : β.le β') : tD β' x b := ⟨h.data.le hle, h.len, h.name, h.text, h.path, h.to, h.txt, h.hw, h.ow, h.rw⟩
structure cq (β : Bs) (A : Option Addr) (xs : List ij) : Prop where
  row : dI β A (Nu xs)
  st : ∀ i, i < xs.length → tD β (aV xs i) 1048576
theorem cq.le {β β' : Bs} {A : Option Addr} {xs : List ij} (h : cq β A xs) (hle : β.le β') : cq β' A xs := ⟨h.row.le hle, fun i hi => (h.st i hi).le hle⟩
section s
variable {β : Bs} {A : Option Addr} {xs : List ij} {i j : Nat} {v : Value}
theorem cq.get (h : cq β A xs) (hi : i < xs.length) (hv : (tC (aV xs i))[j]? = some v) : A = some ⟨au A, ar A, none⟩ ∧ Rd β ⟨au A, ar A + i * 19 + j, none⟩ v := by
  have hj : j < 19 := bw hv
  have h1 := nY (f := fun _ x => tC x) (s := 19) (fun _ _ => rfl) xs 0 i j _ (getD_some (x := default) hi) hj
  have := h.row (i * 19 + j) v (h1.trans hv)
  rw [← Nat.add_assoc] at this
  exact this
theorem cq.hd (h : cq β A xs) (hi : i < xs.length) : A = some ⟨au A, ar A, none⟩ := (h.get hi (j := 0) rfl).1
theorem cq.rd (h : cq β A xs) (hi : i < xs.length) (hv : (tC (aV xs i))[j]? = some v) : Rd β ⟨au A, ar A + i * 19 + j, none⟩ v := (h.get hi hv).2
end s
section a
variable {H : Type} {enc : TypeId × Value → H} {W : World} {sp : Nat → Bool}
theorem iC {t : TypeId} {n : Nat} {c : Value} {x : DataW H × List MemPlace} (ht : Tryz.prog.underlying t = some (.int .i64)) (h : DataW.trod enc Tryz.prog W 0 sp true n t [c] = some x) : ∃ z, c = .int .i64 z ∧ (Lit.int .i64 z).wf = true := by
  obtain ⟨z, h1, _, h3⟩ := DataW.trod_int ht h
  cases h1
  exact ⟨z, rfl, h3⟩
theorem Ih {n : Nat} {cs : List Value} {x : DataW H × List MemPlace} (h : DataW.trod enc Tryz.prog W 0 sp true n 47 cs = some x) : ∃ a : ij, cs = tC a ∧ tD (B0 W) a (Rows.uptoBulk x.1) := by
  obtain ⟨ys, m, _, hx, hl, lH, hf⟩ := DataW.trod_struct Tryz.underlying47 h
  have hC : Tryz.prog.cellsOf 47 = 19 := by kernel_rfl
  rw [hC] at hl
  match cs, hl with
  | [c0, c1, c2, c3, c4, c5, c6, c7, c8, c9, c10, c11, c12, c13, c14, c15, c16, c17, c18], _ =>
    obtain ⟨hc, bc⟩ := aX (hf 0 _ rfl) (by rw [lH]; decide)
    obtain ⟨ha, ba⟩ := aX (hf 1 _ rfl) (by rw [lH]; decide)
    obtain ⟨hr, _⟩ := aX (hf 2 _ rfl) (by rw [lH]; decide)
    obtain ⟨us, _, _, Nt, _, nD, hu⟩ := DataW.trod_struct Tryz.underlying43 hc
    obtain ⟨h0, _⟩ := aX (hu 0 _ rfl) (by rw [nD]; decide)
    obtain ⟨h1, _⟩ := aX (hu 1 _ rfl) (by rw [nD]; decide)
    obtain ⟨h2, _⟩ := aX (hu 2 _ rfl) (by rw [nD]; decide)
    obtain ⟨h3, b3⟩ := aX (hu 3 _ rfl) (by rw [nD]; decide)
    obtain ⟨h4, b4⟩ := aX (hu 4 _ rfl) (by rw [nD]; decide)
    obtain ⟨h5, b5⟩ := aX (hu 5 _ rfl) (by rw [nD]; decide)
    obtain ⟨h6, _⟩ := aX (hu 6 _ rfl) (by rw [nD]; decide)
    obtain ⟨h7, _⟩ := aX (hu 7 _ rfl) (by rw [nD]; decide)
    obtain ⟨h8, _⟩ := aX (hu 8 _ rfl) (by rw [nD]; decide)
    obtain ⟨h9, _⟩ := aX (hu 9 _ rfl) (by rw [nD]; decide)
    obtain ⟨h10, _⟩ := aX (hu 10 _ rfl) (by rw [nD]; decide)
    obtain ⟨h11, _⟩ := aX (hu 11 _ rfl) (by rw [nD]; decide)
    obtain ⟨ts, _, _, _, _, htl, ht⟩ := DataW.trod_struct Tryz.underlying26 h9
    obtain ⟨t0, _⟩ := aX (ht 0 _ rfl) (by rw [htl]; decide)
    obtain ⟨t1, _⟩ := aX (ht 1 _ rfl) (by rw [htl]; decide)
    obtain ⟨vs, _, _, QM, _, hvl, hv⟩ := DataW.trod_struct Tryz.underlying45 ha
    obtain ⟨a0, _⟩ := aX (hv 0 _ rfl) (by rw [hvl]; decide)
    obtain ⟨a1, _⟩ := aX (hv 1 _ rfl) (by rw [hvl]; decide)
    obtain ⟨a2, e2⟩ := aX (hv 2 _ rfl) (by rw [hvl]; decide)
    obtain ⟨a3, e3⟩ := aX (hv 3 _ rfl) (by rw [hvl]; decide)
    obtain ⟨a4, e4⟩ := aX (hv 4 _ rfl) (by rw [hvl]; decide)
    obtain ⟨z0, rfl, w0⟩ := iC (c := c0) Tryz.underlying3 h0
    obtain ⟨z1, rfl, w1⟩ := iC (c := c1) Tryz.underlying3 h1
    obtain ⟨z2, rfl, w2⟩ := iC (c := c2) Tryz.underlying3 h2
    obtain ⟨s3, rfl, l3⟩ := l6 (c := c3) Tryz.underlying9 h3
    obtain ⟨s4, rfl, l4⟩ := l6 (c := c4) Tryz.underlying9 h4
    obtain ⟨A5, p5, d5, rfl, q5, l5⟩ := y5 (c := c5) h5
    obtain ⟨z6, rfl, w6⟩ := iC (c := c6) Tryz.underlying3 h6
    obtain ⟨z7, rfl, w7⟩ := iC (c := c7) Tryz.underlying3 h7
    obtain ⟨z8, rfl, w8⟩ := iC (c := c8) Tryz.underlying3 h8
    obtain ⟨z9, rfl, w9⟩ := iC (c := c9) Tryz.underlying3 t0
    obtain ⟨QN, rfl, RZ⟩ := iC (c := c10) Tryz.underlying3 t1
    obtain ⟨QO, rfl, R3⟩ := iC (c := c11) Tryz.underlying34 h10
    obtain ⟨z12, rfl, R4⟩ := iC (c := c12) Tryz.underlying3 h11
    obtain ⟨QS, rfl, R5⟩ := iC (c := c13) Tryz.underlying3 a0
    obtain ⟨QT, rfl, R6⟩ := iC (c := c14) Tryz.underlying3 a1
    obtain ⟨Pf, rfl, R7⟩ := l6 (c := c15) Tryz.underlying9 a2
    obtain ⟨Pg, rfl, R8⟩ := l6 (c := c16) Tryz.underlying9 a3
    obtain ⟨Ph, rfl, R9⟩ := l6 (c := c17) Tryz.underlying9 a4
    obtain ⟨QU, rfl, QV⟩ := iC (c := c18) Tryz.underlying3 hr
    have hbx : Rows.uptoBulk x.1 = Rows.uptoBulk (.agg (ys.map (·.1))) := by rw [hx]
    have Sb : Rows.uptoBulk (ys[0]'(by rw [lH]; decide)).1 = Rows.uptoBulk (.agg (us.map (·.1))) := by rw [Nt]
    have Sc : Rows.uptoBulk (ys[1]'(by rw [lH]; decide)).1 = Rows.uptoBulk (.agg (vs.map (·.1))) := by rw [QM]
    exact ⟨⟨⟨z0, z1, z2, s3, s4, A5, p5, d5, z6, z7, z8, z9, QN, QO, z12⟩, ⟨QS, QT, Pf, Pg, Ph⟩, QU⟩, rfl, ⟨q5, by show d5.length ≤ _; omega, by show s3.size ≤ _; omega, by show s4.size ≤ _; omega, by show Pf.size ≤ _; omega, by show Pg.size ≤ _; omega, by show Ph.size ≤ _; omega, w1, w2, QV⟩⟩
theorem open_steps {v : Value} {d : DataW H} {ps : List MemPlace} {r : Go.Reach} {b0 : Nat} (hval : Value.okWide Tryz.prog W r b0 31 v) (h : DataW.Trod enc Tryz.prog W 0 sp true 31 v d ps) (hb : Rows.uptoBulk d ≤ 1048576) :
    ∃ A cp, ∃ xs : List ij, v = .slice A xs.length cp ∧ cq (B0 W) A xs ∧ xs.length ≤ 1048576 ∧ xs.length ≤ cp := by
  obtain ⟨a, n, c, rfl⟩ := okWide_slice Tryz.underlying31 hval
  obtain ⟨fuel, h⟩ := h
  obtain ⟨A, cp, xs, D, h1, Ii, _, h2, h4, h3⟩ := tB (α := ij) (f := tC) (Q := fun a d => tD (B0 W) a (Rows.uptoBulk d)) Tryz.underlying31 (size := 19) (by kernel_rfl) (by decide) (fun n cs x h => Ih h) (fun _ => rfl) h
  cases h1
  have h5 := tA ((List.range xs.length).map D)
  have h3 : Rows.uptoBulkAll ((List.range xs.length).map D) + 1 ≤ Rows.uptoBulk d := h3
  refine ⟨a, c, xs, rfl, ⟨h2, fun i hi => ?_⟩, by simp at h5; omega, Ii⟩
  have h6 := h4 i hi
  have h7 := xA (D := D) hi
  exact ⟨h6.data, Nat.le_trans h6.len (by omega), Nat.le_trans h6.name (by omega), Nat.le_trans h6.text (by omega), Nat.le_trans h6.path (by omega), Nat.le_trans h6.to (by omega), Nat.le_trans h6.txt (by omega), h6.hw, h6.ow, h6.rw⟩
end a
end
section
open Go.RowKit Go.Maps HeapM TabM
attribute [local irreducible] aj aR af ai
theorem JU {β : Bs} : dY Tryz.prog β 8 #[] [] (fun _ v l => v = .bool true ∧ l = []) := by
 refine dY.enter Tryz.func8 rfl Tryz.ntmps8 (Nat.le_of_ble_eq_true rfl) (fun hle0 R => ?_)
 refine SR ?_
 refine gK 1 [] [] ?_
 refine NS ?_
 refine aj.lK (d := (some 7)) (R := [.abs R]) (pk := [0]) (fun _ => by kernel_rfl) (H8) rfl (by kernel_rfl) ?_
 rintro β1 _ _ mq ⟨B, Y, rfl, rfl, hG⟩
 replace hle0 := hle0.trans mq
 refine gN 2 (fun b2 => [(1, vP b2)]) (fun b2 => [(1, A_ 1 b2 6)]) (fun _ => []) (fun b2 => .blk b2 [.slice B (2) (2), vI 9, vI 99, vI 9, vI 0, vI 0] 30) (fun b2 => ?_)
 refine NS ?_
 refine gK 4 [(10, .agg #[.slice B (2) (2)]), (12, .agg #[vI 9, vI 99, vI 9, vI 0, vI 0])] [(1, a_ 1 b2), (3, A_ 1 b2 5)] ?_
 refine gL [] (FU (room := 99) (cp := 2) (by decide) hG) ?_
 rintro _ _ ⟨S, f3, m4, t5, L, h0, rfl, rfl⟩
 refine gK 5 [(2, vP f3), (3, vI 0)] [] ?_
 refine NN (af.seq (SR ?_))
 refine gK 6 [(21, .bool false)] [] ?_
 refine NN ?_
 refine CF ?_
 refine af.skip (NX (SR ?_))
 refine gK 2 [(22, vP f3), (23, .agg #[vI 1, vI 0, vI 1, .string ⟨#[]⟩, .string ⟨#[]⟩, .slice none (0) (0), vI 0, vI 0, vI 0, vI 0, vI 0, vI 0, vI 0])] [] ?_
 have bU : Inv (S1 S) := by have h := h0.inv.doM tv; rw [Ds h0] at h; exact h
 refine gL [0, 1, 2, 3, 4, 5] (xB (β := β1) (f := f3) (m := m4) (t := t5) (L := L) h0.inv (vG (by decide) (by decide) (by decide) (by decide) rfl) (Ds h0)) ?_
 rintro _ _ ⟨L1, rfl, rfl⟩
 refine gN 2 (fun b6 => [(4, vP b6)]) (fun b6 => [(1, A_ 8 b6 13)]) (fun _ => []) (fun b6 => .blk b6 [vI 1, vI 0, vI 1, .string ⟨#[]⟩, .string ⟨#[]⟩, .slice none (0) (0), vI 0, vI 0, vI 0, vI 0, vI 0, vI 0, vI 1] 43) (fun b6 => ?_)
 refine NS ?_
 refine gK 2 [(25, vP f3), (26, .agg #[vI 4, vI 1, vI 0, .string ⟨#[100]⟩, .string ⟨#[]⟩, .slice none (0) (0), vI 448, vI 0, vI 0, vI 0, vI 0, vI 0, vI 0])] [] ?_
 obtain ⟨S2, hd2, QW, hn2, hc2, ha2, hk2⟩ := Nl h0
 have KI : Inv S2 := by have h := bU.doM su; rw [hd2] at h; exact h
 refine gL [0, 1, 2, 3, 4, 5] (xB (β := β1) (f := f3) (m := m4) (t := t5) (L := L1) bU (vG (by decide) (by decide) (by decide) (by decide) rfl) hd2) ?_
 rintro _ _ ⟨L2, rfl, rfl⟩
 refine gN 2 (fun b7 => [(5, vP b7)]) (fun b7 => [(1, A_ 9 b7 13)]) (fun _ => []) (fun b7 => .blk b7 [vI 4, vI 1, vI 0, .string ⟨#[100]⟩, .string ⟨#[]⟩, .slice none (0) (0), vI 448, vI 0, vI 0, vI 0, vI 0, vI 0, vI 0] 43) (fun b7 => ?_)
 refine NS ?_
 refine gK 2 [(28, vP f3), (29, .agg #[vI 2, vI 1, vI 0, .string ⟨#[100]⟩, .string ⟨#[]⟩, .slice none (0) (0), vI 0, vI 0, vI 0, vI 0, vI 0, vI 0, vI 0])] [] ?_
 obtain ⟨S3, hd3, QX⟩ := Nn QW hc2 ha2 hk2
 have QY : Inv S3 := by have h := KI.doM yX; rw [hd3] at h; exact h
 refine gL [0, 1, 2, 3, 4, 5] (xB (β := β1) (f := f3) (m := m4) (t := t5) (L := L2) KI (vG (by decide) (by decide) (by decide) (by decide) rfl) hd3) ?_
 rintro _ _ ⟨L3, rfl, rfl⟩
 refine gN 2 (fun b8 => [(6, vP b8)]) (fun b8 => [(1, A_ 10 b8 13)]) (fun _ => []) (fun b8 => .blk b8 [vI 2, vI 1, vI 0, .string ⟨#[100]⟩, .string ⟨#[]⟩, .slice none (0) (0), vI 0, vI 0, vI 0, vI 0, vI 0, vI 0, vI 2] 43) (fun b8 => ?_)
 refine NS ?_
 refine gK 20 [(49, .bool true), (50, vP f3)] [(1, a_ 8 b6), (5, a_ 8 b6), (10, a_ 9 b7), (15, a_ 10 b8)] ?_
 refine aj.lK (d := (some 51)) (R := [pT t5 S3.X.cH S3.av L3 S3.us, .abs R, .blk b2 [.slice B (2) (2), vI 9, vI 99, vI 9, vI 0, vI 0] 30, .blk b6 [vI 1, vI 0, vI 1, .string ⟨#[]⟩, .string ⟨#[]⟩, .slice none (0) (0), vI 0, vI 0, vI 0, vI 0, vI 0, vI 0, vI 1] 43, .blk b7 [vI 4, vI 1, vI 0, .string ⟨#[100]⟩, .string ⟨#[]⟩, .slice none (0) (0), vI 448, vI 0, vI 0, vI 0, vI 0, vI 0, vI 0] 43, .blk b8 [vI 2, vI 1, vI 0, .string ⟨#[100]⟩, .string ⟨#[]⟩, .slice none (0) (0), vI 0, vI 0, vI 0, vI 0, vI 0, vI 0, vI 2] 43]) (pk := [0, 1, 3, 4, 5, 2, 6, 7, 8, 9, 10]) (fun _ => by kernel_rfl) (y8 (β := β1) (S := S3) (L := L3) (f := f3) (m := m4) (t := t5) QY) rfl (by kernel_rfl) ?_
 rintro yZ _ _ jG ⟨A4, c4, K4, rfl, rfl, _⟩
 replace hG := hG.le jG
 replace hle0 := hle0.trans jG
 refine gK 5 [(0, .bool (decide ((((3 : Nat) : Int) : Int) = (3 : Int))))] [(1, p_ ⟨[], none, none, none, some (vI (((3 : Nat) : Int)))⟩ [((.int .i64 ↑((ax S3).length) : Value)) = (.int .i64 (((3 : Nat) : Int)))] ⟨by rw [fR, QX, hn2], trivial⟩)] ?_
 refine NN (af.ret ?_)
 exact ai.rA (v := .bool (decide ((((3 : Nat) : Int) : Int) = (3 : Int)))) (l := []) (aU := []) [] [6] hle0 (fun _ => by kernel_rfl) trivial rfl (by kernel_rfl) (⟨rfl, rfl⟩)
end
section
open Go.RowKit Go.Maps HeapM TabM
attribute [local irreducible] aj aR af ai
theorem DY {β : Bs} (c : aS) (hD : bH β c.dA c.data) (hl : c.data.length ≤ 1048576) :
    dY Tryz.prog β 14 #[.agg ⟨fZ c⟩] [] (fun β' v l => ∃ B cp, v = .agg ⟨fZ { c with dA := B, dC := cp }⟩ ∧ l = [] ∧ bH β' B c.data ∧ c.data.length ≤ cp) := by
 refine dY.enter Tryz.func14 rfl Tryz.ntmps14 (Nat.le_of_ble_eq_true rfl) (fun hle0 R => ?_)
 refine SR ?_
 refine gN 1 (fun b1 => [(1, vP b1)]) (fun _ => []) (fun _ => []) (fun b1 => .blk b1 [vI (c.op), vI (c.handle), vI (c.other), .string c.name, .string c.text, .slice c.dA (c.data.length) (c.dC), vI (c.mode), vI (c.uid), vI (c.gid), vI (c.sec), vI (c.nano), vI (c.code), vI (c.answer)] 43) (fun b1 => ?_)
 refine gN 1 (fun b2 => [(2, vP b2)]) (fun _ => []) (fun _ => []) (fun b2 => .blk b2 [vI 0, vI 0, vI 0, .string ⟨#[]⟩, .string ⟨#[]⟩, .slice none (0) (0), vI 0, vI 0, vI 0, vI 0, vI 0, vI 0, vI 0] 43) (fun b2 => ?_)
 refine NS ?_
 refine gK 2 [(4, .slice c.dA (c.data.length) (c.dC))] [(1, a_ 1 b1)] ?_
 refine aj.lK (d := (some 5)) (R := [.abs R, pC b1 c, .blk b2 [vI 0, vI 0, vI 0, .string ⟨#[]⟩, .string ⟨#[]⟩, .slice none (0) (0), vI 0, vI 0, vI 0, vI 0, vI 0, vI 0, vI 0] 43]) (pk := [0, 1, 2]) (fun _ => by kernel_rfl) (Bv c.dA c.dC c.data hD hl) rfl (by kernel_rfl) ?_
 rintro Sd _ _ Lw ⟨B, cp, rfl, rfl, hB, Ii⟩
 replace hle0 := hle0.trans Lw
 refine gC 2 [] [(1, a_ 1 b1)] [(1, [(5, .slice B (c.data.length) (cp))])] ?_
 refine NS ?_
 refine gC 2 [] [(0, A_ 1 b1 13), (1, A_ 2 b2 13)] [(2, [(0, vI (c.op)), (1, vI (c.handle)), (2, vI (c.other)), (3, .string c.name), (4, .string c.text), (5, .slice B (c.data.length) (cp)), (6, vI (c.mode)), (7, vI (c.uid)), (8, vI (c.gid)), (9, vI (c.sec)), (10, vI (c.nano)), (11, vI (c.code)), (12, vI (c.answer))])] ?_
 refine NN (af.ret ?_)
 exact ai.rA (v := .agg #[vI (c.op), vI (c.handle), vI (c.other), .string c.name, .string c.text, .slice B (c.data.length) (cp), vI (c.mode), vI (c.uid), vI (c.gid), vI (c.sec), vI (c.nano), vI (c.code), vI (c.answer)]) (l := []) (aU := [b2 = b2, b2 = b2, b2 = b2, b2 = b2, b2 = b2, b2 = b2, b2 = b2, b2 = b2, b2 = b2, b2 = b2, b2 = b2, b2 = b2, b2 = b2]) [.at 2, .at 2, .at 2, .at 2, .at 2, .at 2, .at 2, .at 2, .at 2, .at 2, .at 2, .at 2, .at 2] [0] hle0 (fun _ => by kernel_rfl) ⟨rfl, rfl, rfl, rfl, rfl, rfl, rfl, rfl, rfl, rfl, rfl, rfl, rfl, trivial⟩ rfl (by kernel_rfl) (⟨B, cp, rfl, rfl, hB, Ii⟩)
theorem EG {β : Bs} (S : aG) (L : HL) (f m t : Nat) (hI : Inv S) (x : ij) (hq : tD β x 1048576) (hg : jb β) :
    dY Tryz.prog β 13 #[vP f, .agg ⟨tC x⟩] [.blk f [vI (S.X.cN), vI (S.X.cB), vI (S.X.cH), vI (S.X.cS), vI (S.X.cZ), .map (some m), vP t, vI (S.X.last), vI (S.X.ah), vI (S.X.used)] 86, .abs (aE Tryz.prog 3 m (aO (aK L S.idx)) S.idx.length), .abs (br 156 t S.X.cH S.av (aK L S.us)), .abs (ak (aN S.O L)), .abs (ak (aY S.O L)), .abs (ak (bh S.O L))] (fun _ v l => ∃ L2 S2 e, vK S x S2 e ∧ v = vI e ∧ l = [.blk f [vI (S2.X.cN), vI (S2.X.cB), vI (S2.X.cH), vI (S2.X.cS), vI (S2.X.cZ), .map (some m), vP t, vI (S2.X.last), vI (S2.X.ah), vI (S2.X.used)] 86, .abs (aE Tryz.prog 3 m (aO (aK L2 S2.idx)) S2.idx.length), .abs (br 156 t S2.X.cH S2.av (aK L2 S2.us)), .abs (ak (aN S2.O L2)), .abs (ak (aY S2.O L2)), .abs (ak (bh S2.O L2))]) := by
 refine dY.enter Tryz.func13 rfl Tryz.ntmps13 (Nat.le_of_ble_eq_true rfl) (fun hle0 R => ?_)
 refine SR ?_
 refine gN 2 (fun b4 => [(3, vP b4)]) (fun _ => []) (fun _ => []) (fun b4 => .blk b4 [vI (x.c.op), vI (x.c.handle), vI (x.c.other), .string x.c.name, .string x.c.text, .slice x.c.dA (x.c.data.length) (x.c.dC), vI (x.c.mode), vI (x.c.uid), vI (x.c.gid), vI (x.c.sec), vI (x.c.nano), vI (x.c.code), vI (x.c.answer), vI (x.a.at_), vI (x.a.op), .string x.a.path, .string x.a.to, .string x.a.text, vI (x.root)] 47) (fun b4 => ?_)
 refine NN (af.seq (SR ?_))
 refine gK 4 [(8, .bool (!(decide ((x.a.op : Int) = (0 : Int)))))] [(2, a_ 7 b4)] ?_
 refine NN ?_
 refine af.ct (p := (x.a.op : Int) = (0 : Int)) (fun _ => by kernel_rfl) (fun h8 => ?_) (fun h8 => ?_)
 ·refine SR ?_
  refine gK 5 [(9, vP f), (11, vI (x.root)), (13, .agg #[vI (x.a.at_), vI (x.a.op), .string x.a.path, .string x.a.to, .string x.a.text])] [(2, a_ 7 b4), (4, A_ 7 b4 5)] ?_
  refine gL [0, 1, 2, 3, 4, 5] (Lh S L f m t hI x.root hq.rw x.a hq.path hq.to hq.txt hg) ?_
  rintro _ _ ⟨L2, rfl, rfl⟩
  refine gK 1 [(4, vI ((actM S x.root x.a).1))] [] ?_
  refine NN (af.ret (ai.aq ?_))
  exact ai.rA (v := .int .i64 ((actM S x.root x.a).1)) (l := (pA f m t L2 ((actM S x.root x.a).2))) (aU := []) [] [0, 1, 2, 3, 4, 5, 6] hle0 (fun _ => by kernel_rfl) trivial rfl (by kernel_rfl) (⟨L2, _, _, .act h8, rfl, rfl⟩)
 refine af.skip (NX (SR ?_))
 refine gK 3 [(15, vP f), (17, .agg #[vI (x.c.op), vI (x.c.handle), vI (x.c.other), .string x.c.name, .string x.c.text, .slice x.c.dA (x.c.data.length) (x.c.dC), vI (x.c.mode), vI (x.c.uid), vI (x.c.gid), vI (x.c.sec), vI (x.c.nano), vI (x.c.code), vI (x.c.answer)])] [(2, A_ 7 b4 13)] ?_
 refine aj.lK (d := (some 18)) (R := ((pA f m t L S) ++ [.abs R, .blk b4 [vI (x.c.op), vI (x.c.handle), vI (x.c.other), .string x.c.name, .string x.c.text, .slice x.c.dA (x.c.data.length) (x.c.dC), vI (x.c.mode), vI (x.c.uid), vI (x.c.gid), vI (x.c.sec), vI (x.c.nano), vI (x.c.code), vI (x.c.answer), vI (x.a.at_), vI (x.a.op), .string x.a.path, .string x.a.to, .string x.a.text, vI (x.root)] 47])) (pk := [0, 1, 2, 3, 4, 5, 6, 7]) (fun _ => by kernel_rfl) (DY x.c hq.data hq.len) rfl (by kernel_rfl) ?_
 rintro Sg _ _ Lx ⟨B, cp, rfl, rfl, hB, Ii⟩
 replace hle0 := hle0.trans Lx
 refine gL [0, 1, 2, 3, 4, 5] (C8 S L f m t hI { x.c with dA := B, dC := cp } ⟨hq.hw, hq.ow, hq.name, hq.text, hB, Nat.le_trans hq.len (by decide), Ii⟩) ?_
 rintro _ _ ⟨L2, rfl, rfl⟩
 refine gK 2 [(4, vI ((doM S { x.c with dA := B, dC := cp }).2.code))] [] ?_
 refine NN (af.ret ?_)
 exact ai.rA (v := .int .i64 ((doM S { x.c with dA := B, dC := cp }).2.code)) (l := (pA f m t L2 ((doM S { x.c with dA := B, dC := cp }).1))) (aU := []) [] [0, 1, 2, 3, 4, 5, 6] hle0 (fun _ => by kernel_rfl) trivial rfl (by kernel_rfl) (⟨L2, _, _, .call h8 B cp, rfl, rfl⟩)
theorem Nv {β : Bs} (A : Option Addr) (c : Nat) (xs : List ij) (hc : xs.length ≤ c) :
    Spec Tryz.prog β 12 #[.slice A xs.length c] [] (fun v l => ∃ n, n ≤ xs.length ∧ v = .slice A n c ∧ l = []) := by
 refine Spec.enter Tryz.func12 rfl Tryz.ntmps12 (Nat.le_of_ble_eq_true rfl) (fun R => ?_)
 refine SR ?_
 refine gK 1 [] [] ?_
 refine NN (af.seq (SR ?_))
 refine gK 3 [(5, .bool (decide ((((xs.length : Nat) : Int) : Int) > (300 : Int))))] [] ?_
 refine NN ?_
 refine af.bn (p := (((xs.length : Nat) : Int) : Int) > (300 : Int)) (fun _ => by kernel_rfl) (fun h5 => ?_) (fun h5 => ?_)
 ·refine SR ?_
  refine gK 3 [(2, .slice A (300) (c))] [(1, p_ ⟨[], some 300, none, none, none⟩ [300 = ((300 : Nat) : Int), 300 ≤ c] ⟨rfl, by omega, trivial⟩)] ?_
  refine NN (af.ret (ai.aq ?_))
  exact RT (.slice A (300) (c)) [0] (⟨300, by omega, rfl, rfl⟩)
 refine af.skip (NX (SR ?_))
 refine gK 2 [(2, .slice A (xs.length) (c))] [] ?_
 refine NN (af.ret ?_)
 exact RT (.slice A (xs.length) (c)) [0] (⟨xs.length, Nat.le_refl _, rfl, rfl⟩)
end
section
open Go.RowKit HeapM TabM Go.Maps
abbrev FV (X : FM) (ns : List aC) := { S : aG // dL X ns ns.length 0 S }
abbrev KQ := { e : Int // e ≠ 0 }
theorem JV {β : Bs} {ns : List aC} {X : FM} (hcap : pH X) (hok : bD ns) (B : Option Addr) (cp : Nat) (hl : ns.length ≤ 1048576) (hd : ∀ i, i < ns.length → (nd ns i).data.length ≤ 1048576 ∧ (nd ns i).ah.length ≤ 1048576) (hwf : ∀ i, i < ns.length → ∀ j, j < (nd ns i).ah.length → -9223372036854775808 ≤ (ent ns i j).id ∧ (ent ns i j).id ≤ 9223372036854775807) (hnm : ∀ i, i < ns.length → ∀ j, j < (nd ns i).ah.length → (ent ns i j).name.size ≤ 1048576) :
    Spec Tryz.prog β 9 #[.agg #[.slice B ns.length cp], .agg #[.int .i64 X.cN, .int .i64 X.cB, .int .i64 X.cH, .int .i64 X.cS, .int .i64 X.cZ]] [.abs (mW β (fun β' => ∃ K, aA β' B ns K))] (fun v l => ∃ (S : FV X ns) (f m t : Nat) (L : HL), v = .tuple #[.pointer (some ⟨f, 0, none⟩), .int .i64 0] ∧ l = pA f m t L S.1) :=
  Spec.Fg fun _ _ ⟨K, hG⟩ => (Ai B cp ns K hG hl hd hwf hnm X).mono (by
    rintro v l (⟨h, _⟩ | ⟨_, h, _⟩ | ⟨_, _, h⟩)
    ·exact absurd hcap h
    ·exact absurd hok h
    obtain ⟨S, f, m, t, L, h1, h2, h3⟩ := h
    exact ⟨⟨S, h1⟩, f, m, t, L, h2, h3⟩)
theorem Ij {β : Bs} {ns : List aC} {X : FM} (Qa : ¬ (pH X ∧ bD ns)) (B : Option Addr) (cp : Nat) (hl : ns.length ≤ 1048576) (hd : ∀ i, i < ns.length → (nd ns i).data.length ≤ 1048576 ∧ (nd ns i).ah.length ≤ 1048576) (hwf : ∀ i, i < ns.length → ∀ j, j < (nd ns i).ah.length → -9223372036854775808 ≤ (ent ns i j).id ∧ (ent ns i j).id ≤ 9223372036854775807) (hnm : ∀ i, i < ns.length → ∀ j, j < (nd ns i).ah.length → (ent ns i j).name.size ≤ 1048576) :
    Spec Tryz.prog β 9 #[.agg #[.slice B ns.length cp], .agg #[.int .i64 X.cN, .int .i64 X.cB, .int .i64 X.cH, .int .i64 X.cS, .int .i64 X.cZ]] [.abs (mW β (fun β' => ∃ K, aA β' B ns K))] (fun v l => ∃ e : KQ, v = .tuple #[.pointer none, .int .i64 e.1] ∧ l = []) :=
  Spec.Fg fun _ _ ⟨K, hG⟩ => (Ai B cp ns K hG hl hd hwf hnm X).mono (by
    rintro v l (⟨_, h1, h2⟩ | ⟨_, _, h1, h2⟩ | ⟨h1, h2, _⟩)
    ·exact ⟨⟨179, by decide⟩, h1, h2⟩
    ·exact ⟨⟨140, by decide⟩, h1, h2⟩
    exact absurd ⟨h1, h2⟩ Qa)
theorem wT (us : Used Th) : us.length = (keys us).length := (List.length_map ..).symm
theorem JW {S : aG} (h : Inv0 S) : (ax S).length ≤ 1048576 := by
  rw [fR]
  have := h.len
  omega
end
section
open Go.RowKit Go.Maps HeapM TabM
def core (o : aM) : aM := { o with links := 0, opens := 0, gone := false, up := none }
theorem vL {V : Type} {h : Int} {v : V} {p : Int × V} : ∀ {us : Used V}, p ∈ ins h v us ↔ p = (h, v) ∨ p ∈ us
  | [] => by simp [ins]
  | q :: r => by
    unfold ins
    split
    ·simp
    rw [List.mem_cons, vL, List.mem_cons]
    constructor
    ·rintro (h | h | h)
     ·exact .inr (.inl h)
     ·exact .inl h
     exact .inr (.inr h)
    rintro (h | h | h)
    ·exact .inr (.inl h)
    ·exact .inl h
    exact .inr (.inr h)
theorem EH {V : Type} {h : Int} {p : Int × V} {us : Used V} : p ∈ del h us ↔ p ∈ us ∧ p.1 ≠ h := by
  unfold del
  rw [List.mem_filter]
  simp
structure gu (In : Nat → Prop) (O0 O : bK) : Prop where
  out : ∀ k, ¬ In k → core (obj O k) = core (obj O0 k)
  qB : ∀ k, In k → ∀ e ∈ (obj O k).ah, In e.2.k
section o
variable {In : Nat → Prop} {O0 O : bK} {k d : Nat} {f : aM → aM} {name : ByteArray} {t : Th} {X : FM}
theorem gu.iD (h : gu In O0 O) (hk : In k) (hf : ∀ e ∈ (f (obj O k)).ah, In e.2.k) : gu In O0 (ay O k f) := by
  refine ⟨fun j hj => ?_, fun j hj e he => ?_⟩
  ·rw [bQ (fun e => hj (by rw [e]; exact hk))]; exact h.out j hj
  by_cases e2 : j = k
  ·subst e2; rw [bG] at he; exact hf e he
  rw [bQ e2] at he; exact h.qB j hj e he
theorem gu.kA (h : gu In O0 O) (hk : In k) (hf : ∀ o, (f o).ah = o.ah) : gu In O0 (ay O k f) := h.iD hk (by rw [hf]; exact h.qB k hk)
theorem gu.look (h : gu In O0 O) (hd : In d) (e : aQ name (obj O d).ah = some t) : In t.k := h.qB d hd _ (jH e)
theorem gu.enter (h : gu In O0 O) (hd : In d) (ht : In t.k) : gu In O0 (bq X O d name t) := by
  have h1 : gu In O0 (ay O d (fun o => { o with ah := eF name t o.ah })) := h.iD hd (fun e he => by
    rcases sM.1 he with rfl | he
    ·exact ht
    exact h.qB d hd e he)
  have h2 : gu In O0 (kY O d name t) := by
    unfold kY
    simp only
    split
    ·exact (h1.kA (f := fun o => { o with links := o.links + 1 }) ht (fun _ => rfl)).kA (f := fun o => { o with up := some d }) ht (fun _ => rfl)
    exact h1.kA (f := fun o => { o with links := o.links + 1 }) ht (fun _ => rfl)
  exact h2.kA (f := fun o => { o with sec := X.cS, nano := X.cZ }) hd (fun _ => rfl)
theorem gu.leave (h : gu In O0 O) (hd : In d) (ht : In t.k) : gu In O0 (aJ X O d name t) := by
  have h1 : gu In O0 (ay O d (fun o => { o with ah := eG name o.ah })) := h.iD hd (fun e he => h.qB d hd e (CA he).1)
  have h2 : gu In O0 (mV X (ay O d (fun o => { o with ah := eG name o.ah })) d) := h1.kA (f := fun o => { o with sec := X.cS, nano := X.cZ }) hd (fun _ => rfl)
  exact h2.kA (f := fun o => { o with links := o.links - 1 }) ht (fun _ => rfl)
end o
structure bZ (In : Nat → Prop) (S0 S : aG) : Prop where
  o : gu In S0.O S.O
  us : ∀ p ∈ S.us, In p.2.k
  idx : ∀ p ∈ S0.idx, ¬ In p.2.k → p ∈ S.idx
  last : S0.X.last ≤ S.X.last
  new : ∀ k : Nat, S0.X.last < (k : Int) → In k
section c
variable {In : Nat → Prop} {S0 S S2 : aG} {k d to : Nat} {name toName text : ByteArray} {t : Th} {c : aS} {x : ij} {e : Int} {O : bK}
theorem bZ.FW (h : bZ In S0 S) (hI : Inv0 S) : In (aD S.X) := h.new _ (by rw [mB hI]; have := h.last; omega)
theorem bZ.hand (h : bZ In S0 S) {i : Int} (e : TabM.get S.us i = some t) : In t.k := h.us _ (get_mem e)
theorem bZ.Ik (h : bZ In S0 S) {X : FM} {O : bK} (hO : gu In S0.O O) (hX : S.X.last ≤ X.last) : bZ In S0 { S with X := X, O := O } := ⟨hO, h.us, h.idx, Int.le_trans h.last hX, h.new⟩
theorem bZ.openM (h : bZ In S0 S) (ht : In t.k) : bZ In S0 (Proofs.YtkiedlmhocglhaaGreatDoor.openM S t).2.2 := by
  by_cases e : (S.us.length : Int) < S.X.cH
  ·rw [iz e]
   refine ⟨h.o.kA (f := fun o => { o with opens := o.opens + 1 }) ht (fun _ => rfl), fun p hp => ?_, h.idx, h.last, h.new⟩
   rcases vL.1 hp with rfl | hp
   ·exact ht
   exact h.us p hp
  rw [jI e]; exact h
theorem bZ.addM (h : bZ In S0 S) (hI : Inv0 S) (hd : In d) {o : aM} (ho : o.ah = []) : bZ In S0 (Proofs.YtkiedlmhocglhaaGreatDoor.addM S d name o) := by
  have hn := h.FW hI
  have h1 : gu In S0.O (ay S.O (aD S.X) (fun _ => o)) := h.o.iD hn (fun e he => by rw [ho] at he; cases he)
  refine ⟨h1.enter hd hn, h.us, fun p hp hq => vL.2 (.inr (h.idx p hp hq)), ?_, h.new⟩
  show S0.X.last ≤ S.X.last + 1
  have := h.last
  omega
theorem bZ.freeI (h : bZ In S0 S) (hI : Inv0 S) (hi : (obj O t.k).id = (t.k : Int)) (ht : In t.k) : ∀ p ∈ S0.idx, ¬ In p.2.k → p ∈ Proofs.YtkiedlmhocglhaaGreatDoor.freeI O S.idx t := by
  intro p hp hq
  have h1 := h.idx p hp hq
  unfold Proofs.YtkiedlmhocglhaaGreatDoor.freeI
  split
  ·refine EH.2 ⟨h1, fun e => hq ?_⟩
   have h2 := (hI.idx p.1 p.2 (kT hI.rise h1)).1
   rw [hi, h2] at e
   have e : p.2.k = t.k := by omega
   rw [e]; exact ht
  exact h1
theorem bZ.dropM (h : bZ In S0 S) (hI : Inv0 S) (hd : In d) (hl : Live S.idx ⟨d, 2⟩) (e : aQ name (obj S.O d).ah = some t) : bZ In S0 (Proofs.YtkiedlmhocglhaaGreatDoor.dropM S d name t) := by
  have ht := h.o.look hd e
  have hlt := (hI.ent hl e).2
  have h1 : gu In S0.O (aJ S.X S.O d name t) := h.o.leave hd ht
  have hid : (obj (aJ S.X S.O d name t) t.k).id = (t.k : Int) := (cE (g := aM.id) (fun _ _ => rfl) (fun _ _ => rfl) (fun _ _ _ => rfl)).trans (hI.ob t hlt).1
  by_cases e2 : (obj (aJ S.X S.O d name t) t.k).links = 0
  ·rw [om e2]
   refine ⟨h1.kA (f := fun o => { o with gone := true }) ht (fun _ => rfl), h.us, ?_, h.last, h.new⟩
   exact h.freeI hI ((cI (f := fun o => { o with gone := true }) (g := aM.id) (fun _ => rfl)).trans hid) ht
  rw [oo e2]
  exact ⟨h1, h.us, h.idx, h.last, h.new⟩
theorem bZ.moveM (h : bZ In S0 S) (hd : In d) (hto : In to) (ht : In t.k) : bZ In S0 (Proofs.YtkiedlmhocglhaaGreatDoor.moveM S d name to toName t) := h.Ik ((h.o.leave hd ht).enter hto ht) (Int.le_refl _)
theorem bZ.mkdirM (h : bZ In S0 S) (hI : Inv0 S) (hd : In d) {m : Int} : bZ In S0 (Proofs.YtkiedlmhocglhaaGreatDoor.mkdirM S d name m).2 := by
  unfold Proofs.YtkiedlmhocglhaaGreatDoor.mkdirM
  split
  ·exact h.addM hI hd rfl
  exact h
theorem bZ.symlinkM (h : bZ In S0 S) (hI : Inv0 S) (hd : In d) : bZ In S0 (Proofs.YtkiedlmhocglhaaGreatDoor.symlinkM S d name text).2 := by
  unfold Proofs.YtkiedlmhocglhaaGreatDoor.symlinkM
  (repeat' split) <;> first | exact h | exact h.addM hI hd rfl
theorem bZ.unlinkM (h : bZ In S0 S) (hI : Inv0 S) (hd : In d) (hl : Live S.idx ⟨d, 2⟩) : bZ In S0 (Proofs.YtkiedlmhocglhaaGreatDoor.unlinkM S d name).2 := by
  unfold Proofs.YtkiedlmhocglhaaGreatDoor.unlinkM
  split
  ·exact h
  split
  ·exact h
  exact h.dropM hI hd hl (by assumption)
theorem bZ.rmdirM (h : bZ In S0 S) (hI : Inv0 S) (hd : In d) (hl : Live S.idx ⟨d, 2⟩) : bZ In S0 (Proofs.YtkiedlmhocglhaaGreatDoor.rmdirM S d name).2 := by
  unfold Proofs.YtkiedlmhocglhaaGreatDoor.rmdirM
  split
  ·exact h
  rename_i t e
  (repeat' split) <;> first | exact h | skip
  have h1 := h.dropM hI hd hl e
  exact h1.Ik (X := (Proofs.YtkiedlmhocglhaaGreatDoor.dropM S d name t).X) (h1.o.kA (f := fun o => { o with up := none }) (h.o.look hd e) (fun _ => rfl)) (Int.le_refl _)
theorem bZ.renameM (h : bZ In S0 S) (hI : Inv0 S) (hd : In d) (hto : In to) (hl : Live S.idx ⟨to, 2⟩) : bZ In S0 (Proofs.YtkiedlmhocglhaaGreatDoor.renameM S d name to toName).2 := by
  unfold Proofs.YtkiedlmhocglhaaGreatDoor.renameM
  split
  ·exact h
  rename_i t e
  have ht := h.o.look hd e
  split
  ·exact h
  split
  ·exact h.moveM hd hto ht
  rename_i o e2
  (repeat' split) <;> first | exact h | skip
  exact (h.dropM hI hto hl e2).moveM hd hto ht
theorem bZ.linkM (h : bZ In S0 S) (hd : In d) (hto : In to) : bZ In S0 (Proofs.YtkiedlmhocglhaaGreatDoor.linkM S d name to toName).2 := by
  unfold Proofs.YtkiedlmhocglhaaGreatDoor.linkM
  split
  ·exact h
  rename_i t e
  (repeat' split) <;> first | exact h | skip
  exact h.Ik (h.o.enter hto (h.o.look hd e)) (Int.le_refl _)
theorem bZ.writeM (h : bZ In S0 S) (hk : In k) {bs : List UInt8} : bZ In S0 (Proofs.YtkiedlmhocglhaaGreatDoor.writeM S k bs).2.2 := by
  unfold Proofs.YtkiedlmhocglhaaGreatDoor.writeM
  (repeat' split) <;> first | exact h | skip
  exact h.Ik (h.o.kA hk (fun _ => rfl)) (Int.le_refl _)
theorem bZ.createM (h : bZ In S0 S) (hI : Inv0 S) (hd : In d) {m : Int} : bZ In S0 (Proofs.YtkiedlmhocglhaaGreatDoor.createM S d name m).2.2 := by
  unfold Proofs.YtkiedlmhocglhaaGreatDoor.createM
  (repeat' split) <;> first | exact h | skip
  have h2 := h.addM hI hd (name := name) (o := { aB S.X 1 m with opens := 1 }) rfl
  refine ⟨h2.o, fun p hp => ?_, h2.idx, h2.last, h.new⟩
  rcases vL.1 hp with rfl | hp
  ·exact h.FW hI
  exact h.us p hp
theorem bZ.opM (h : bZ In S0 S) (hI : Inv S) (hr : c.op = 1 → ∀ t, TabM.get S.idx c.other = some t → In t.k) : bZ In S0 (Proofs.YtkiedlmhocglhaaGreatDoor.opM S c).2.1 := by
  have habout : ∀ {need : Int} {d : Nat} {i : Int} {n : ByteArray}, cL S.O S.us i n need = .ok d → In d ∧ Live S.idx ⟨d, 2⟩ := fun {need d i n} e => by
    rcases jA hI.toInv0 i n need with ⟨e2, h1, _⟩ | ⟨d2, h1, h2, _, _, h3⟩
    ·rw [e] at h1; cases h1
    rw [e] at h1; cases h1; exact ⟨h.hand h3, h2⟩
  have hnamed : ∀ {t : Th}, eM S.O S.us c = .ok t → In t.k := fun {t} e => by
    unfold eM at e
    split at e
    ·cases e
    rename_i d e1
    split at e
    ·cases e
    rename_i t2 e2
    cases e
    exact h.o.look (habout e1).1 e2
  by_cases hop : 1 ≤ c.op ∧ c.op ≤ 15
  case neg => rw [yH hop]; exact h
  have hop : c.op = 1 ∨ c.op = 2 ∨ c.op = 3 ∨ c.op = 4 ∨ c.op = 5 ∨ c.op = 6 ∨ c.op = 7 ∨ c.op = 8 ∨ c.op = 9 ∨ c.op = 10 ∨ c.op = 11 ∨ c.op = 12 ∨ c.op = 13 ∨ c.op = 14 ∨ c.op = 15 := by omega
  rcases hop with q | q | q | q | q | q | q | q | q | q | q | q | q | q | q
  ·rw [yu q]; unfold iK
   split
   ·exact h
   rename_i t e1
   split
   ·exact h.openM (hr q t e1)
   exact h
  ·rw [yw q]; unfold d9
   split
   ·exact h
   rename_i t e1
   (repeat' split) <;> first | exact h | exact h.openM (hnamed e1)
  ·rw [BD q]; unfold dP
   split
   ·exact h
   rename_i t e1
   (repeat' split) <;> first | exact h | exact h.openM (hnamed e1)
  ·rw [yx q]; unfold eX
   split
   ·exact h
   rename_i d e1
   split <;> first | exact h | exact h.mkdirM hI.toInv0 (habout e1).1
  ·rw [BF q]; unfold dr
   split
   ·exact h
   rename_i d e1
   (repeat' split) <;> first | exact h | exact h.createM hI.toInv0 (habout e1).1
  ·rw [BG q]; unfold eS
   split
   ·exact h
   rename_i d e1; exact h.symlinkM hI.toInv0 (habout e1).1
  ·rw [BH q]; unfold bW
   split
   ·exact h
   rename_i d e1
   split
   ·exact h
   rename_i to e2; exact h.linkM (habout e1).1 (habout e2).1
  ·rw [BI q]; unfold fF
   split
   ·exact h
   rename_i d e1; exact h.unlinkM hI.toInv0 (habout e1).1 (habout e1).2
  ·rw [BJ q]; unfold fC
   split
   ·exact h
   rename_i t e1
   split
   ·exact h.writeM (h.hand e1)
   exact h
  ·rw [yA q]; unfold bF
   split
   ·exact h
   rename_i t e1
   (repeat' split) <;> first | exact h | skip
   exact h.Ik (X := S.X) (h.o.kA (f := fun o => { o with mode := c.mode, uid := c.uid, gid := c.gid, sec := c.sec, nano := c.nano }) (h.hand e1) (fun _ => rfl)) (Int.le_refl _)
  ·rw [yB q]; unfold jS; split <;> exact h
  ·rw [yC q]; unfold fH; split <;> exact h
  ·rw [yD q]; unfold iI
   split
   ·exact h
   rename_i t e1
   have ht := h.hand e1
   refine ⟨h.o.kA (f := fun o => { o with opens := o.opens - 1 }) ht (fun _ => rfl), fun p hp => h.us p (EH.1 hp).1, h.freeI hI.toInv0 ?_ ht, h.last, h.new⟩
   exact (cI (f := fun o => { o with opens := o.opens - 1 }) (g := aM.id) (fun _ => rfl)).trans (hI.ob t (hI.us _ _ e1).1).1
  ·rw [yE q]; unfold gj
   split
   ·exact h
   rename_i d e1; exact h.rmdirM hI.toInv0 (habout e1).1 (habout e1).2
  rw [yG q]; unfold eO
  split
  ·exact h
  rename_i d e1
  split
  ·exact h
  rename_i to e2; exact h.renameM hI.toInv0 (habout e1).1 (habout e2).1 (habout e2).2
theorem gu.wayW (h : gu In O O) {d' : Nat} : ∀ (ps : List ByteArray) (d : Nat), In d → wayW O d ps = .ok (d', name) → In d'
  | [], d, _, e => by cases e
  | [p], d, hd, e => by
    unfold Proofs.YtkiedlmhocglhaaGreatDoor.wayW at e
    split at e
    ·cases e
    cases e; exact hd
  | p :: q :: r, d, hd, e => by
    unfold Proofs.YtkiedlmhocglhaaGreatDoor.wayW at e
    cases e1 : aQ p (obj O d).ah with
    | none => rw [e1] at e; cases e
    | some t =>
      rw [e1] at e
      simp only at e
      split at e
      ·cases e
      split at e
      ·cases e
      exact h.wayW (q :: r) t.k (h.look hd e1) e
theorem gu.self {O0 : bK} (h : gu In O0 O) : gu In O O := ⟨fun _ _ => rfl, h.qB⟩
theorem bZ.wayM (h : bZ In S0 S) {d' : Nat} {path : ByteArray} (hd : In d) (e : wayM S.O d path = .ok (d', name)) : In d' := by
  unfold Proofs.YtkiedlmhocglhaaGreatDoor.wayM at e
  split at e
  ·exact h.o.self.wayW _ _ hd e
  cases e
theorem bZ.actM (h : bZ In S0 S) (hI : Inv S) {root : Int} {a : wW} (hr : ∀ t, TabM.get S.idx root = some t → In t.k) : bZ In S0 (Proofs.YtkiedlmhocglhaaGreatDoor.actM S root a).2 := by
  unfold Proofs.YtkiedlmhocglhaaGreatDoor.actM
  split
  ·exact h
  split
  ·exact h
  rename_i t e1
  have Nw := hr t e1
  split
  ·rename_i hk
   have hlt := Em hI.toInv0 e1 hk
   split
   ·exact h
   rename_i d name e2
   obtain ⟨l1, _, _⟩ := rX hI.toInv0 hlt e2
   have hd := h.wayM Nw e2
   unfold actR
   split
   ·unfold actNew
    split
    ·exact (h.addM hI.toInv0 hd rfl).writeM (h.FW hI.toInv0)
    exact h
   split
   ·exact h.mkdirM hI.toInv0 hd
   split
   ·exact h.symlinkM hI.toInv0 hd
   split
   ·exact h.unlinkM hI.toInv0 hd l1
   split
   ·exact h.rmdirM hI.toInv0 hd l1
   split
   ·split
    ·exact h
    rename_i to toName e3
    obtain ⟨l2, _, _⟩ := rX hI.toInv0 hlt e3
    exact h.renameM hI.toInv0 hd (h.wayM Nw e3) l2
   unfold actWrite
   split
   ·exact h
   rename_i t2 e3
   (repeat' split) <;> first | exact h | exact h.writeM (h.o.look hd e3)
  exact h
theorem bZ.play (h : bZ In S0 S) (hI : Inv S) {root : Int} (h1 : x.root = root) (h2 : x.c.op = 1 → x.c.other = root) (hr : ∀ k : Nat, root = (k : Int) → In k) (hp : vK S x S2 e) : bZ In S0 S2 := by
  cases hp
  ·exact h.actM hI (fun t e => hr _ (by rw [← h1]; exact (hI.idx _ _ e).1))
  exact h.opM hI (fun q t e => hr _ (by rw [← h2 q]; exact (hI.idx _ _ e).1))
theorem bZ.kept (h : bZ In S0 S) (Bh : Inv0 S0) (hI : Inv0 S) {i : Nat} (hi : i < S0.idx.length) (hn : ¬ In (dV S0 i).k) : ∃ j, j < S.idx.length ∧ nd (ax S) j = nd (ax S0) i := by
  have hm := List.mem_of_getElem? (qt hi)
  have h1 := h.idx _ hm hn
  obtain ⟨j, hj, e⟩ := List.getElem_of_mem h1
  have h2 := qt hj
  rw [List.getElem?_eq_getElem hj, e] at h2
  injection h2 with h2
  injection h2 with e1 e2
  refine ⟨j, hj, ?_⟩
  rw [gY hj, gY hi, ← e1, ← e2]
  have hc := h.o.out _ hn
  have hl0 := (mH Bh hi).1
  have hl := (mH hI hj).1
  rw [← e2] at hl
  have f : ∀ {α : Type} (g : aM → α), (∀ o, g (core o) = g o) → g (obj S.O (dV S0 i).k) = g (obj S0.O (dV S0 i).k) := fun g hg => by rw [← hg, hc, hg]
  unfold pz
  rw [f aM.mode (fun _ => rfl), f aM.uid (fun _ => rfl), f aM.gid (fun _ => rfl), f aM.sec (fun _ => rfl), f aM.nano (fun _ => rfl), f aM.data (fun _ => rfl), f aM.target (fun _ => rfl), f aM.ah (fun _ => rfl)]
  refine congrArg (aC.mk _ _ _ _ _ _ _ _ _) (List.map_congr_left (fun p hp => ?_))
  unfold iJ
  rw [(Bh.ob _ (Bh.ah _ hl0 p hp).2).1, (hI.ob _ (hI.ah _ hl p (by rw [f aM.ah (fun _ => rfl)]; exact hp)).2).1]
end c
end
section
open Go.RowKit
def ez (e : TypeId) (size : Nat) (A : Option Addr) (n cap : Nat) (xs : List Value) : bT where
  h F w := xs.length = n * size ∧ ∃ g off cur, A = some ⟨g, off, none⟩ ∧ w.heap[g]? = some (.cells cur e (0, 0)) ∧ n ≤ cap ∧ cap ≤ maxLen ∧ off + cap * size ≤ cur.size ∧ (∀ (j : Nat) u, xs[j]? = some u → cur[off + j]? = some u) ∧ ∀ k, F k ↔ k = g
  lt := by
    rintro F w ⟨_, g, off, cur, _, h1, _, _, _, _, h2⟩ k hk
    rw [(h2 k).1 hk]
    exact lt_of_some h1
  st := by
    rintro F w ⟨h0, g, off, cur, h3, h1, h4, h5, h6, h7, h2⟩ S w' hk hn
    exact ⟨h0, g, off, cur, h3, (hk.block g (lt_of_some h1) (hn g ((h2 g).2 rfl))).trans h1, h4, h5, h6, h7, h2⟩
section tails
variable {e : TypeId} {size n m cap : Nat} {A : Option Addr} {xs news : List Value} {w : World}
theorem DZ {b : Nat} {cs : List Value} (hl : cs.length = n * size) (hm : n ≤ maxLen) : ∀ F, (HP.blk b cs e).h F w → ∃ F', (HP.abs (ez e size (some ⟨b, 0, none⟩) n n cs)).h F' w ∧ Step F w F' w := by
  rintro F ⟨h1, h2⟩
  refine ⟨F, ⟨hl, b, 0, ⟨cs⟩, rfl, h1, Nat.le_refl _, hm, by simp [hl], fun j u hj => by simpa using hj, h2⟩, Step.refl F w⟩
theorem Sat.Nx {β : Bs} {hps : List HP} {b i : Nat} {cs : List Value} (size n : Nat) (hp : hps[i]? = some (.blk b cs e)) (hl : cs.length = n * size) (hm : n ≤ maxLen) (h : Sat β hps w) : Sat β (hps.set i (.abs (ez e size (some ⟨b, 0, none⟩) n n cs))) w :=
  h.set hp (DZ hl hm)
theorem ez.len {F : Fp} (h : (HP.abs (ez e size A n cap xs)).h F w) : xs.length = n * size ∧ n ≤ cap ∧ A = some ⟨au A, ar A, none⟩ := by
  obtain ⟨h0, g, off, cur, rfl, _, h4, _⟩ := h
  exact ⟨h0, h4, rfl⟩
theorem ez.cellAt {i j : Nat} {u : Value} (hj : xs[i * size + j]? = some u) : ∀ F w, (ez e size A n cap xs).h F w → w.cell? ⟨au A, ar A + i * size + j, none⟩ = some u := by
  rintro F w ⟨_, g, off, cur, rfl, h1, _, _, _, h6, _⟩
  have := h6 _ _ hj
  show w.cell? ⟨g, off + i * size + j, none⟩ = _
  unfold World.cell?
  rw [h1]
  rw [Nat.add_assoc]
  simpa using this
theorem tR {b : Nat} {fz : Nat × Nat} : ∀ (vs : List Value) (o : Nat) (w : World) (cur : Array Value), w.heap[b]? = some (.cells cur e fz) → o + vs.length ≤ cur.size →
    ∃ cur', (w.setCells b o vs).heap[b]? = some (.cells cur' e fz) ∧ cur'.size = cur.size ∧ (∀ i, i < o → cur'[i]? = cur[i]?) ∧ (∀ (j : Nat) u, vs[j]? = some u → cur'[o + j]? = some u) ∧ Keeps (· = b) w (w.setCells b o vs)
  | [], o, w, cur, h, _ => ⟨cur, h, rfl, fun _ _ => rfl, fun j u hj => by simp at hj, Keeps.refl _ _⟩
  | v :: r, o, w, cur, h, hl => by
    have h1 : (w.setCell ⟨b, o, none⟩ v).heap[b]? = some (.cells (cur.setIfInBounds o v) e fz) := by
      simp [World.setCell, Array.getElem?_modify, h]
    simp only [List.length_cons] at hl
    obtain ⟨cur', h2, h3, h4, h5, h6⟩ := tR r (o + 1) _ _ h1 (by simp; omega)
    refine ⟨cur', h2, by rw [h3]; simp, fun i hi => ?_, fun j u hj => ?_, ?_⟩
    ·rw [h4 i (by omega), Array.getElem?_setIfInBounds_ne (by omega)]
    ·cases j with
     | zero =>
       simp at hj
       subst hj
       rw [Nat.add_zero, h4 o (by omega), Array.getElem?_setIfInBounds_self_of_lt (by omega)]
     | succ j =>
       have := h5 j u (by simpa using hj)
       rw [show o + (j + 1) = o + 1 + j by omega]
       exact this
    have h7 : Keeps (· = b) w (w.setCell ⟨b, o, none⟩ v) := (Keeps.refl (· = b) w).setCell (.inr (rfl : (fun k => k = b) (⟨b, o, none⟩ : Addr).block)) v
    exact h7.trans h6
end tails
theorem JX {β : Bs} {hps : List HP} {b j : Nat} {news : List Value} {T : TypeId} (hp : hps[j]? = some (.blk b news T)) : ∀ w, Sat β hps w → ∀ (i : Nat) u, news[i]? = some u → w.cell? ((⟨b, 0, none⟩ : Addr).add i) = some u := by
  intro w hS i u hi
  rcases kL hp w hS with ⟨h, _⟩ | ⟨ad, e, h⟩
  ·cases h
  cases e; exact h i u hi
section rules
variable {P : Program} {β : Bs} {N : Nat} {ops : Array Oper} {k : Nat} {fr : Fr} {hps : List HP} {Q : Post} {d : Option Tmp}
theorem aj.Il (i : Nat) {t e : TypeId} {size m n cap : Nat} {A : Option Addr} {xs : List Value} {x lo : Operand} (hop : ∀ junk, dO N junk ops fr k = some (.slice t x (some lo) none none, d)) (hp : hps[i]? = some (.abs (ez e size A n cap xs)))
    (hx : ∀ junk, cC N fr junk x = .slice A n cap) (hlo : ∀ junk, cC N fr junk lo = .int .i64 ((m : Nat) : Int)) (ht : P.underlying t = some (.slice e)) (jf : (P.info? e).map (·.size) = some size) (hm : m ≤ n)
    (K' : ∀ A', aj P β N ops (k + 1) (cJ fr d (.slice A' (n - m) (cap - m))) (hps.set i (.abs (ez e size A' (n - m) (cap - m) (xs.drop (m * size))))) Q) : aj P β N ops k fr hps Q := by
  obtain ⟨inf, hi, hsize⟩ : ∃ inf, P.info? e = some inf ∧ inf.size = size := by
    cases h : P.info? e with
    | none => rw [h] at jf; cases jf
    | some inf => rw [h] at jf; simp at jf; exact ⟨inf, rfl, jf⟩
  refine aj.wA (ι := Option Addr) (v := fun A' => .slice A' (n - m) (cap - m)) (hp' := fun A' => hps.set i (.abs (ez e size A' (n - m) (cap - m) (xs.drop (m * size))))) hop (fun o junk w ho hS => ?_) K'
  obtain ⟨F, hF⟩ := hS.get hp
  obtain ⟨h0, g, off, cur, hA, h1, h4, h5, h6, h7, h8⟩ := hF
  subst hA
  have e1 : (underlying t).run P w = .ok (.slice e) w := run_underlying ht w
  have e2 : (sizeOf e).run P w = .ok size w := hsize ▸ kI hi w
  have hmn : m * size ≤ n * size := Nat.mul_le_mul_right _ hm
  have Sh : m * size ≤ cap * size := Nat.mul_le_mul_right _ (Nat.le_trans hm h4)
  have hsub : ∀ a, (a - m) * size = a * size - m * size := fun a => Nat.sub_mul a m size
  by_cases hc : cap = m
  ·refine ⟨some ⟨g, off, none⟩, w, .inl ?_, hS.set hp (fun F' hF' => ⟨F', ?_, Step.refl _ _⟩)⟩
   ·obtain ⟨dst, op, type, pos, after, guard⟩ := o
    cases ho
    have hle : m ≤ n := hm
    simp [execOp, Instr.sliceAt, Instr.slice, Instr.sliceBounds, Instr.sliceBound, asIntOf, hx, hlo, go_sem, e1, e2, hc, hle]
   obtain ⟨_, g', off', cur', hA', h1', h4', Pj, h6', Ny, h8'⟩ := hF'
   cases hA'
   refine ⟨by rw [List.length_drop, h0, hsub], g, off, cur', rfl, h1', by omega, by omega, by rw [hsub]; omega, fun j u hj => ?_, h8'⟩
   have : (xs.drop (m * size)).length = 0 := by rw [List.length_drop, h0]; have : n = m := by omega
                                                rw [this]; omega
   have hnil := List.eq_nil_of_length_eq_zero this
   rw [hnil] at hj
   simp at hj
  have ea : (⟨g, off, none⟩ : Addr).add (m * size) = ⟨g, off + m * size, none⟩ := by
    unfold Addr.add
    split
    ·rename_i Nz; rw [Nz]; rfl
    rfl
  refine ⟨some ⟨g, off + m * size, none⟩, w, .inl ?_, hS.set hp (fun F' hF' => ⟨F', ?_, Step.refl _ _⟩)⟩
  ·obtain ⟨dst, op, type, pos, after, guard⟩ := o
   cases ho
   have hle : m ≤ n := hm
   simp [execOp, Instr.sliceAt, Instr.slice, Instr.sliceBounds, Instr.sliceBound, asIntOf, hx, hlo, go_sem, e1, e2, hc, hle]
  obtain ⟨_, g', off', cur', hA', h1', h4', Pj, h6', Ny, h8'⟩ := hF'
  cases hA'
  refine ⟨by rw [List.length_drop, h0, hsub], g, off + m * size, cur', rfl, h1', by omega, by omega, by rw [hsub]; omega, fun j u hj => ?_, h8'⟩
  rw [List.getElem?_drop] at hj
  have := Ny _ _ hj
  rw [show off + m * size + j = off + (m * size + j) by omega]
  exact this
theorem aj.FX (i : Nat) {t e : TypeId} {z : Value} {size bytes n cap m c' : Nat} {A : Option Addr} {ad : Addr} {xs news : List Value} {s x : Operand} {ats : Array TypeId}
    (hop : ∀ junk, dO N junk ops fr k = some (.call ⟨.builtin .append, #[s, x], ats⟩, d)) (nE : ats = #[t, t]) (hp : hps[i]? = some (.abs (ez e size A n cap xs))) (hs : ∀ junk, cC N fr junk s = .slice A n cap) (hx : ∀ junk, cC N fr junk x = .slice (some ad) m c')
    (ht : P.underlying t = some (.slice e)) (jf : (P.info? e).map (fun i => (i.zero, i.size, i.bytes)) = some (some z, size, bytes)) (hzs : z.cells.size = size) (hsz : 0 < size)
    (hl : news.length = m * size) (h1 : ∀ u ∈ news, u.oneCell' = true) (hsrc : ∀ w, Sat β hps w → ∀ (j : Nat) u, news[j]? = some u → w.cell? (ad.add j) = some u)
    (h63 : n + m ≤ maxLen) (hbytes : (n + m) * bytes ≤ 140737488355328)
    (K' : ∀ B cap', aj P β N ops (k + 1) (cJ fr d (.slice B (n + m) cap')) (hps.set i (.abs (ez e size B (n + m) cap' (xs ++ news)))) Q) : aj P β N ops k fr hps Q := by
  subst nE
  obtain ⟨inf, hi, hz, hsize, hby⟩ : ∃ inf, P.info? e = some inf ∧ inf.zero = some z ∧ inf.size = size ∧ inf.bytes = bytes := by
    cases h : P.info? e with
    | none => rw [h] at jf; cases jf
    | some inf => rw [h] at jf; simp at jf; exact ⟨inf, rfl, jf.1, jf.2.1, jf.2.2⟩
  refine aj.wA (ι := Option Addr × Nat) (v := fun p => .slice p.1 (n + m) p.2) (hp' := fun p => hps.set i (.abs (ez e size p.1 (n + m) p.2 (xs ++ news)))) hop (fun o junk w ho hS => ?_) (fun p => K' p.1 p.2)
  obtain ⟨F, hF⟩ := hS.get hp
  have hnews := hsrc w hS
  obtain ⟨h0, g, off, cur, hA, hg, h4, h5, h6, h7, h8⟩ := hF
  subst hA
  have hrun : ∀ v' w', (Builtin.append_ #[t, t] o.type #[.slice (some ⟨g, off, none⟩) n cap, .slice (some ad) m c']).run P w = .ok v' w' → ld P (cC N fr junk) o w v' w' := fun v' w' h => by
    obtain ⟨dst, op, type, pos, after, guard⟩ := o
    cases ho
    refine .inl ?_
    have h' : (Builtin.append_ #[t, t] type #[.slice (some ⟨g, off, none⟩) n cap, .slice (some ad) m c']).run P w = .ok v' w' := h
    simp only [execOp, resolve, invoke, builtin, hs junk, hx junk, List.map_toArray, List.map_cons, List.map_nil, Sem.run_bind, Sem.run_pure, Result.andThen_ok, h']
  have hlen : (xs ++ news).length = (n + m) * size := by rw [List.length_append, h0, hl, Nat.add_mul]
  by_cases hroom : n + m ≤ cap
  ·have hcm : (n + m) * size ≤ cap * size := Nat.mul_le_mul_right _ hroom
   rw [Nat.add_mul, ← hl] at hcm
   have hcell : ∀ j, j < news.length → (w.cell? ⟨g, off + n * inf.size + j, none⟩).isSome = true := fun j hj => by
     rw [hsize]
     unfold World.cell?
     rw [hg]
     have : off + n * size + j < cur.size := by omega
     simp [this]
   have hfro : ∀ j, j < news.length → w.frozen? ⟨g, off + n * inf.size + j, none⟩ = false := fun j _ => by
     unfold World.frozen?
     rw [hg]
     simp
   have hr := run_append_room_cells (P := P) w t o.type e inf ht hi g off n cap ad m c' news (by rw [hsize]; exact hl) hnews h1 hroom hcell hfro
   rw [hsize] at hr
   obtain ⟨cur', g1, g2, g3, g4, g5⟩ := tR (e := e) (b := g) news (off + n * size) w cur hg (by omega)
   refine ⟨(some ⟨g, off, none⟩, cap), _, hrun _ _ hr, hS.set hp (fun F' hF' => ⟨F', ?_, ?_⟩)⟩
   ·obtain ⟨_, g', off', Qb, hA', h1', h4', Pj, h6', Ny, h8'⟩ := hF'
    cases hA'
    rw [hg] at h1'
    cases h1'
    refine ⟨hlen, g, off, cur', rfl, g1, hroom, h5, by rw [g2]; exact h6, fun j u hj => ?_, h8'⟩
    by_cases hj2 : j < xs.length
    ·rw [List.getElem?_append_left hj2] at hj
     rw [g3 _ (by omega)]
     exact h7 j u hj
    rw [List.getElem?_append_right (by omega)] at hj
    have := g4 _ _ hj
    rw [h0] at this
    rw [show off + j = off + n * size + (j - n * size) by omega]
    exact this
   obtain ⟨_, g', off', Qb, hA', _, _, _, _, _, h8'⟩ := hF'
   cases hA'
   exact ⟨g5.mono (fun k _ e => (h8' k).2 e), fun _ h => .inl h⟩
  have holds : ∀ (j : Nat) u, xs[j]? = some u → w.cell? ((⟨g, off, none⟩ : Addr).add j) = some u := fun j u hj => by
    have ea : (⟨g, off, none⟩ : Addr).add j = ⟨g, off + j, none⟩ := by
      unfold Addr.add
      split
      ·rename_i Nz; rw [Nz]; rfl
      rfl
    rw [ea]
    unfold World.cell?
    rw [hg]
    simpa using h7 j u hj
  obtain ⟨v', w', hr, hown, hgr⟩ := run_append_arg_grows (P := P) w t o.type e inf z size bytes ht hi hz hsize hby hzs hsz ⟨g, off, none⟩ n cap xs h0 holds ad m c' news hl hnews (by omega) h63 hbytes
  rcases hown.2 with ⟨_, e0⟩ | ⟨g', cp, cur', rfl, hlo, hg', hle, QZ, Qc, Mq⟩
  ·exact absurd e0 (by omega)
  refine ⟨(some ⟨g', 0, none⟩, cp), w', hrun _ _ hr, hS.set hp (fun F' hF' => ⟨fun k => k = g', ⟨hlen, g', 0, cur', rfl, hg', hle, QZ, Nat.le_of_eq (by rw [Qc, Nat.zero_add]), fun j u hj => ?_, fun _ => Iff.rfl⟩, ?_, fun k hk => .inr (by rw [hk]; exact hlo)⟩)⟩
  ·have hj2 := bw hj
   rw [← Mq, List.getElem?_take] at hj
   split at hj
   ·rw [Nat.zero_add]; simpa using hj
   cases hj
  exact (Keeps.refl F' w).grown hgr (fun _ h => by cases h)
end rules
end
end Go.Proofs.YtkiedlmhocglhaaGreatDoor
section
namespace Go.Proofs
open Go.Shelf
def Tryz.keysU_ren : Go.Shelf.Ren := ⟨fun | 7 => 70 | 10 => 122 | n => n, fun | 23 => 149 | 26 => 3 | 3 => 151 | 28 => 107 | 0 => 0 | 27 => 106 | 33 => 159 | 4 => 4 | n => n, fun | n => n⟩
theorem Tryz.keysU : Go.Proofs.SlLaysZI.n7 Tryz.prog Tryz.keysU_ren := {
  mixed := by kernel_rfl
  f7 := ⟨Tryz.f70.name, by decide, Tryz.func70.trans (congrArg some (by kernel_rfl))⟩
  f10 := ⟨Tryz.f122.name, by decide, Tryz.func122.trans (congrArg some (by kernel_rfl))⟩
  t0 := Tryz.underlying0
  a0 := Tryz.isAgg0
  z0 := Tryz.sizeOf0
  v0 := Tryz.zeroValue0
  t4 := Tryz.underlying4
  a4 := Tryz.isAgg4
  z4 := Tryz.sizeOf4
  v4 := Tryz.zeroValue4
  t23 := Tryz.underlying149
  a23 := Tryz.isAgg149
  z23 := Tryz.sizeOf149
  v23 := Tryz.zeroValue149
  t26 := Tryz.underlying3
  a26 := Tryz.isAgg3
  z26 := Tryz.sizeOf3
  v26 := Tryz.zeroValue3
  t27 := Tryz.underlying106
  a27 := Tryz.isAgg106
  z27 := Tryz.sizeOf106
  v27 := Tryz.zeroValue106
  t28 := Tryz.underlying107
  a28 := Tryz.isAgg107
  z28 := Tryz.sizeOf107
  v28 := Tryz.zeroValue107
  t33 := Tryz.underlying159
  a33 := Tryz.isAgg159
  z33 := Tryz.sizeOf159
  v33 := Tryz.zeroValue159 }
end Go.Proofs
end
namespace Go.Proofs.YtkiedlmhocglhaaGreatDoor
section
open Go.RowKit Go.Maps Go.Sort Go.Shelf
def Aj (bk : Nat) : Value := .func (.func 122) #[] #[.pointer (some ⟨bk, 0, none⟩)]
theorem JY {β : Bs} (mb : Option Nat) : Spec Tryz.prog β 70 #[.map mb] [] (fun v l => ∃ bk, v = Aj bk ∧ l = [.blk bk [.map mb] 149]) :=
  Spec.xH fun W _ => by
    have h : CallsIn Fence.wide 5 Tryz.prog 70 #[.map mb] W fun e w' => e = .returned (Aj W.heap.size) ∧ w' = W.alloc (.cells #[.map mb] 149) := AnyZI.keys_in Tryz.keysU Fence.wide 5 trivial rfl mb W
    refine ((callsIn_wide (n := 5)).1 h).mono ?_
    rintro e w' ⟨rfl, rfl⟩
    refine ⟨_, _, rfl, ⟨W.heap.size, rfl, rfl⟩, (Keeps.refl _ _).alloc _, fun k => k = W.heap.size, ⟨?_, fun k => Iff.rfl⟩, fun k hk => Nat.le_of_eq hk.symm⟩
    show (W.heap.push _)[W.heap.size]? = _
    simp
theorem FY {β : Bs} (b bk n : Nat) (f : Lit → Option Value) (hn : n ≤ 16777216) :
    Spec Tryz.prog β 40 #[Aj bk] [.abs (aE Tryz.prog 3 b f n), .blk bk [.map (some b)] 149] (fun v l => ∃ A cap ss, v = .slice A ss.length cap ∧ KeysOf f ss ∧ ss.length = n ∧
      l = [.abs (aE Tryz.prog 3 b f n), .blk bk [.map (some b)] 149, .abs (aI 3 1 A ss.length cap (fK ss))]) := by
  intro R w hS
  obtain ⟨F1, h1⟩ := hS.get (i := 0) (p := .abs (aE Tryz.prog 3 b f n)) rfl
  obtain ⟨F2, h2⟩ := hS.get (i := 1) (p := .blk bk [.map (some b)] 149) rfl
  obtain ⟨D, hown, hsz, hhas, _⟩ := h1.1
  have hcell : w.cell? ⟨bk, 0, none⟩ = some (.map (some b)) := (eP h2.1 rfl rfl rfl).1
  have hseq : SeqGives Fence.wide 2 Tryz.prog 122 #[.pointer (some ⟨bk, 0, none⟩)] encZ (fun ss => ss.Perm (intKeys D)) (Maps.size D) w :=
    AnyZI.keys_gives (ρ := Tryz.keysU_ren) { Tryz.keysU with } Fence.wide _ trivial rfl (by omega) bk b n D w (lt_of_some h2.1) hcell hown
  have cS := AnyZI.sorted_in Tryz.sortedI Fence.wide 5 trivial trivial trivial trivial rfl (by omega) (GI _) (enters_of Tryz.func73 (by kernel_rfl) rfl) 122 #[.pointer (some ⟨bk, 0, none⟩)] trivial (enters_of Tryz.func122 (by kernel_rfl) rfl) _ _ (by rw [hsz]; unfold maxLen; omega) (by rw [hsz]; omega) _ hseq
  change CallsIn _ _ Tryz.prog 40 _ _ _ at cS
  refine ((callsIn_wide (n := 5)).1 cS).mono ?_
  rintro e w' ⟨v, ss, rfl, hp, hrow, hnil, hb⟩
  have hlen : (ss.mergeSort (fun x y => decide (x ≤ y))).length = ss.length := List.length_mergeSort ss
  have hkeys := x5 Tryz.underlying3 cU hown hhas hp
  have pX : ∃ A cap, v = .slice A ss.length cap := by
    rcases hrow.2 with ⟨e1, e2⟩ | ⟨g, cp, cur, e1, _⟩
    ·exact ⟨none, 0, by rw [e1, e2]⟩
    exact ⟨_, cp, e1⟩
  obtain ⟨A, cap, rfl⟩ := pX
  have hn1 : ss.length = n := by
    rw [hp.length_eq, ← hsz]
    obtain ⟨es, hD, _⟩ := hown.entries cU
    rw [hD]
    exact List.length_map ..
  have hq : Sat β ([.abs (aE Tryz.prog 3 b f n), .blk bk [.map (some b)] 149, .abs R] ++ [.abs (aI 3 1 A ss.length cap (fK (ss.mergeSort (fun x y => decide (x ≤ y)))))]) w' := by
    refine Sat.new (F := fun k => (Value.slice A ss.length cap).ownBlock = some k) hS ⟨?_, fun k => Iff.rfl⟩ ⟨hb.os, hb.tape, hb.output, hb.size, fun k hk _ => hb.block k hk⟩ (fun k hk => (hrow.lt k hk).1)
    refine ⟨hrow.1, ?_⟩
    rcases hrow.2 with h | ⟨g, cp, cur, e1, _, h3, h4⟩
    ·exact .inl h
    exact .inr ⟨g, cp, cur, e1, Nat.zero_le _, h3, h4⟩
  refine ⟨_, [.abs (aE Tryz.prog 3 b f n), .blk bk [.map (some b)] 149, .abs (aI 3 1 A ss.length cap (fK (ss.mergeSort (fun x y => decide (x ≤ y)))))], rfl, ⟨A, cap, ss.mergeSort (fun x y => decide (x ≤ y)), by rw [hlen], hkeys, by rw [hlen]; exact hn1, by rw [hlen]⟩, ?_⟩
  exact hq.pick (idx := [0, 1, 3, 2]) rfl rfl
end
section
open Go.RowKit Go.Maps
noncomputable def eu (ns : List aC) (root : Int) : Int :=
  if ¬ bD ns then 140 else if ¬ 0 ≤ iE ns root then 141 else if ¬ (nd ns (tgt ns root)).kind = 2 then 173 else 0
theorem ze {ns : List aC} {root : Int} (h : ¬ bD ns) : eu ns root = 140 := if_pos h
theorem wj {ns : List aC} {root : Int} (h : bD ns) (h1 : ¬ 0 ≤ iE ns root) : eu ns root = 141 := by
  unfold eu; rw [if_neg (fun e => e h), if_pos h1]
theorem wk {ns : List aC} {root : Int} (h : bD ns) (h1 : 0 ≤ iE ns root) (h2 : ¬ (nd ns (tgt ns root)).kind = 2) : eu ns root = 173 := by
  unfold eu; rw [if_neg (fun e => e h), if_neg (fun e => e h1), if_pos h2]
theorem Im {ns : List aC} {root : Int} (h : bD ns) (h1 : 0 ≤ iE ns root) (h2 : (nd ns (tgt ns root)).kind = 2) : eu ns root = 0 := by
  unfold eu; rw [if_neg (fun e => e h), if_neg (fun e => e h1), if_neg (fun e => e h2)]
theorem wm {ns : List aC} {root : Int} (h : eu ns root = 0) : bD ns ∧ 0 ≤ iE ns root ∧ (nd ns (tgt ns root)).kind = 2 := by
  unfold eu at h
  split at h
  ·cases h
  rename_i h1
  split at h
  ·cases h
  rename_i h2
  split at h
  ·cases h
  rename_i h3
  exact ⟨Classical.not_not.1 h1, Classical.not_not.1 h2, Classical.not_not.1 h3⟩
end
section
open Go.RowKit
attribute [local irreducible] aj aR af ai
theorem JZ {β : Bs} (A : Option Addr) (c : Nat) (ns : List aC) (L : Lay) (hG : aA β A ns L) (hB : jc ns 1048576) (root : Int) (hz : I64 root) :
    Spec Tryz.prog β 69 #[.agg #[.slice A ns.length c], vI root] [] (fun v l => (∃ mb, v = .tuple #[.map (some mb), .pointer (some ⟨(au A), ar A + (tgt ns root) * 10, none⟩), vI 0] ∧ eu ns root = 0 ∧ l = [.abs (aE Tryz.prog 3 mb (mf (bf A ns ns.length)) ns.length)]) ∨ (∃ x y, v = .tuple #[x, y, vI (eu ns root)] ∧ ¬ eu ns root = 0 ∧ l = [])) := by
 refine Spec.enter Tryz.func69 rfl Tryz.ntmps69 (Nat.le_of_ble_eq_true rfl) (fun R => ?_)
 refine SR ?_
 refine gN 4 (fun b1 => [(2, vP b1)]) (fun _ => []) (fun _ => []) (fun b1 => .blk b1 [.slice A (ns.length) (c)] 24) (fun b1 => ?_)
 refine NS ?_
 refine gK 1 [(11, .agg #[.slice A (ns.length) (c)])] [(0, a_ 1 b1)] ?_
 refine gL [] (EA A c ns L hG hB.hl (fun i hi => ⟨Nat.le_trans (hB.hd i hi).1 (by decide), (hB.hd i hi).2⟩) hB.hwf hB.hnm) ?_
 rintro _ _ (⟨mb, rfl, hok, rfl⟩ | ⟨m, rfl, hok, rfl⟩)
 ·refine gK 5 [(7, .map (some mb)), (8, .bool true)] [] ?_
  refine NN (af.seq (SR ?_))
  refine gK 2 [(16, .bool false)] [] ?_
  refine NN ?_
  refine CF ?_
  refine af.skip (NX (SR ?_))
  refine gK 2 [(17, .map (some mb)), (18, vI (root))] [] ?_
  by_cases hat : 0 ≤ iE ns root
  ·have htl := gH hat
   refine aj.dm 0 (d := (some 19)) (t := 143) (K := 3) (E := 146) (b := mb) (n := ns.length) (f := (mf (bf A ns ns.length))) (x := (.tmp 17)) (ix := (.tmp 18)) (key := .int .i64 (root)) (z := .pointer none) (kl := (.int .i64 root)) (r := (some (.pointer (some ⟨(au A), ar A + (tgt ns root) * 10, none⟩)))) (fun _ => by kernel_rfl) (by kernel_rfl) (fun _ => by kernel_rfl) (fun _ => by kernel_rfl) cU Tryz.underlying143 (fun _ => by kernel_rfl) (jM hz.1 hz.2) (EO hat htl.1) ?_
   refine gK 1 [(9, .pointer (some ⟨(au A), ar A + (tgt ns root) * 10, none⟩))] [] ?_
   refine NN (af.seq (SR ?_))
   refine gK 2 [(21, .bool false)] [] ?_
   refine NN ?_
   refine CF ?_
   refine af.skip (NX (af.seq (SR ?_)))
   refine gK 5 [(26, .bool (!(decide (((nd ns (tgt ns root)).kind : Int) = (2 : Int)))))] [(3, p_ ⟨[.old (.int .i64 ((nd ns (tgt ns root)).kind))], none, none, none, none⟩ [(Rd β ⟨(au A), ar A + (tgt ns root) * 10 + 1, none⟩ (.int .i64 ((nd ns (tgt ns root)).kind)))] ⟨aA.rd hG (i := (tgt ns root)) (by omega) (j := 1) rfl, trivial⟩)] ?_
   refine NN ?_
   refine af.ct (p := ((nd ns (tgt ns root)).kind : Int) = (2 : Int)) (fun _ => by kernel_rfl) (fun rP => ?_) (fun rP => ?_)
   ·refine SR ?_
    refine gK 3 [(4, .map none), (5, .pointer none), (6, vI 173)] [] ?_
    refine NN (af.ret (ai.aq ?_))
    exact RT (.tuple #[.map none, .pointer none, vI 173]) [1] (.inr ⟨_, _, by rw [wk hok hat rP], by rw [wk hok hat rP]; decide, rfl⟩)
   refine af.skip (NX (SR ?_))
   refine gK 5 [(4, .map (some mb)), (5, .pointer (some ⟨(au A), ar A + (tgt ns root) * 10, none⟩)), (6, vI 0)] [] ?_
   refine NN (af.ret ?_)
   exact RT (.tuple #[.map (some mb), .pointer (some ⟨(au A), ar A + (tgt ns root) * 10, none⟩), vI 0]) [0, 1] (.inl ⟨mb, rfl, Im hok hat rP, rfl⟩)
  refine aj.dm 0 (d := (some 19)) (t := 143) (K := 3) (E := 146) (b := mb) (n := ns.length) (f := (mf (bf A ns ns.length))) (x := (.tmp 17)) (ix := (.tmp 18)) (key := .int .i64 (root)) (z := .pointer none) (kl := (.int .i64 root)) (r := none) (fun _ => by kernel_rfl) (by kernel_rfl) (fun _ => by kernel_rfl) (fun _ => by kernel_rfl) cU Tryz.underlying143 (fun _ => by kernel_rfl) (jM hz.1 hz.2) (D9 hat) ?_
  refine gK 1 [(9, .pointer none)] [] ?_
  refine NN (af.seq (SR ?_))
  refine gK 2 [(21, .bool true)] [] ?_
  refine NN ?_
  refine CT ?_
  refine SR ?_
  refine gK 3 [(4, .map none), (5, .pointer none), (6, vI 141)] [] ?_
  refine NN (af.ret (ai.aq ?_))
  exact RT (.tuple #[.map none, .pointer none, vI 141]) [1] (.inr ⟨_, _, by rw [wj hok hat], by rw [wj hok hat]; decide, rfl⟩)
 refine gK 5 [(7, m), (8, .bool false)] [] ?_
 refine NN (af.seq (SR ?_))
 refine gK 2 [(16, .bool true)] [] ?_
 refine NN ?_
 refine CT ?_
 refine SR ?_
 refine gK 3 [(4, .map none), (5, .pointer none), (6, vI 140)] [] ?_
 refine NN (af.ret (ai.aq ?_))
 exact RT (.tuple #[.map none, .pointer none, vI 140]) [0] (.inr ⟨_, _, by rw [ze hok], by rw [ze hok]; decide, rfl⟩)
end
section
open Go.RowKit Go.Maps
inductive Reach (ns : List aC) (k : Nat) : Nat → Prop
  | refl : Reach ns k k
  | step {i : Nat} (j : Nat) : Reach ns k i → j < (nd ns i).ah.length → Reach ns k (tgt ns (ent ns i j).id)
theorem Reach.lt {ns : List aC} {k i : Nat} (hok : bD ns) (hk : k < ns.length) (h : Reach ns k i) : i < ns.length := by
  induction h with
  | refl => exact hk
  | step t _ ht ih => exact (gH (hok.ah _ ih t ht).at_).1
noncomputable def lI (ns : List aC) (k : Nat) : List Int := by
  classical exact ((List.range ns.length).filter fun i => decide (Reach ns k i)).map fun i => (nd ns i).id
theorem pJ {ns : List aC} {k : Nat} {z : Int} : z ∈ lI ns k ↔ ∃ i, i < ns.length ∧ Reach ns k i ∧ (nd ns i).id = z := by
  classical
  unfold lI
  simp only [List.mem_map, List.mem_filter, List.mem_range, decide_eq_true_eq]
  exact ⟨fun ⟨i, ⟨h1, h2⟩, h3⟩ => ⟨i, h1, h2, h3⟩, fun ⟨i, h1, h2, h3⟩ => ⟨i, ⟨h1, h2⟩, h3⟩⟩
theorem Du (n : Nat) : (List.range n).Pairwise (· < ·) := List.pairwise_lt_range
theorem Bw {ns : List aC} {k : Nat} (hr : bP ns) : (lI ns k).Pairwise (· < ·) := by
  classical
  unfold lI
  rw [List.pairwise_map]
  refine ((Du ns.length).filter _).imp_of_mem (fun {a b} _ hb h => ?_)
  exact hr a b h (List.mem_range.1 (List.mem_filter.1 hb).1)
theorem zf : ∀ {l m : List Int}, l.Pairwise (· < ·) → m.Pairwise (· < ·) → (∀ z, z ∈ l ↔ z ∈ m) → l = m
  | [], [], _, _, _ => rfl
  | [], b :: m, _, _, h => by have := (h b).2 (List.mem_cons_self ..); cases this
  | a :: l, [], _, _, h => by have := (h a).1 (List.mem_cons_self ..); cases this
  | a :: l, b :: m, hl, hm, h => by
    have hl' := List.pairwise_cons.1 hl
    have hm' := List.pairwise_cons.1 hm
    have e : a = b := by
      rcases List.mem_cons.1 ((h a).1 (List.mem_cons_self ..)) with e | e
      ·exact e
      rcases List.mem_cons.1 ((h b).2 (List.mem_cons_self ..)) with e2 | e2
      ·exact e2.symm
      have := hm'.1 a e; have := hl'.1 b e2; omega
    subst e
    congr 1
    refine zf hl'.2 hm'.2 (fun z => ⟨fun hz => ?_, fun hz => ?_⟩)
    ·rcases List.mem_cons.1 ((h z).1 (List.mem_cons_of_mem _ hz)) with e | e
     ·have := hl'.1 z hz; omega
     exact e
    rcases List.mem_cons.1 ((h z).2 (List.mem_cons_of_mem _ hz)) with e | e
    ·have := hm'.1 z hz; omega
    exact e
structure mg (ns : List aC) (k : Nat) (seen work : List Nat) : Prop where
  start : k ∈ seen ∨ k ∈ work
  reach : ∀ i, i ∈ seen ∨ i ∈ work → Reach ns k i
  qB : ∀ i, i ∈ seen → ∀ j, j < (nd ns i).ah.length → tgt ns (ent ns i j).id ∈ seen ∨ tgt ns (ent ns i j).id ∈ work
theorem mg.done {ns : List aC} {k : Nat} {seen : List Nat} (h : mg ns k seen []) (i : Nat) : i ∈ seen ↔ Reach ns k i := by
  refine ⟨fun hi => h.reach i (.inl hi), fun hi => ?_⟩
  induction hi with
  | refl => exact h.start.resolve_right (fun h => by cases h)
  | step j _ hj ih => exact (h.qB _ ih j hj).resolve_right (fun h => by cases h)
def tgts (ns : List aC) (x j : Nat) : List Nat := (List.range j).map fun t => tgt ns (ent ns x t).id
theorem Bj (ns : List aC) (x j : Nat) : tgts ns x (j + 1) = tgts ns x j ++ [tgt ns (ent ns x j).id] := by simp [tgts, List.range_succ]
theorem qC (ns : List aC) (x j : Nat) : (tgts ns x j).length = j := by simp [tgts]
theorem mg.old {ns : List aC} {k x : Nat} {seen work : List Nat} (h : mg ns k seen (x :: work)) (hx : x ∈ seen) : mg ns k seen work := by
  have aux : ∀ i, i ∈ seen ∨ i ∈ x :: work → i ∈ seen ∨ i ∈ work := fun i hi => by
    rcases hi with hi | hi
    ·exact .inl hi
    rcases List.mem_cons.1 hi with e | hi
    ·subst e; exact .inl hx
    exact .inr hi
  exact ⟨aux k h.start, fun i hi => h.reach i (hi.imp id (List.mem_cons_of_mem _)), fun i hi j hj => aux _ (h.qB i hi j hj)⟩
theorem mg.new {ns : List aC} {k x : Nat} {seen work : List Nat} (h : mg ns k seen (x :: work)) : mg ns k (x :: seen) (work ++ tgts ns x (nd ns x).ah.length) := by
  have aux : ∀ i, i ∈ seen ∨ i ∈ x :: work → i ∈ x :: seen ∨ i ∈ work ++ tgts ns x (nd ns x).ah.length := fun i hi => by
    rcases hi with hi | hi
    ·exact .inl (List.mem_cons_of_mem _ hi)
    rcases List.mem_cons.1 hi with e | hi
    ·subst e; exact .inl (List.mem_cons_self ..)
    exact .inr (List.mem_append.2 (.inl hi))
  refine ⟨aux k h.start, fun i hi => ?_, fun i hi j hj => ?_⟩
  ·rcases hi with hi | hi
   ·rcases List.mem_cons.1 hi with e | hi
    ·subst e; exact h.reach i (.inr (List.mem_cons_self ..))
    exact h.reach i (.inl hi)
   rcases List.mem_append.1 hi with hi | hi
   ·exact h.reach i (.inr (List.mem_cons_of_mem _ hi))
   obtain ⟨t, ht, rfl⟩ := List.mem_map.1 hi
   exact .step t (h.reach x (.inr (List.mem_cons_self ..))) (List.mem_range.1 ht)
  rcases List.mem_cons.1 hi with e | hi
  ·subst e
   exact .inr (List.mem_append.2 (.inr (List.mem_map.2 ⟨j, List.mem_range.2 hj, rfl⟩)))
  exact aux _ (h.qB i hi j hj)
def gT (ns : List aC) (seen : List Nat) : Nat → Nat
  | 0 => 0
  | n + 1 => gT ns seen n + (if n ∈ seen then 0 else (nd ns n).ah.length)
theorem Bk {ns : List aC} {seen : List Nat} {x : Nat} : ∀ n, n ≤ x → gT ns (x :: seen) n = gT ns seen n
  | 0, _ => rfl
  | n + 1, h => by
    have : ¬ n = x := by omega
    rw [gT, gT, Bk n (by omega)]
    simp [this]
theorem q6 {ns : List aC} {seen : List Nat} {x : Nat} (hx : x ∉ seen) : ∀ n, x < n → gT ns (x :: seen) n + (nd ns x).ah.length = gT ns seen n
  | 0, h => absurd h (Nat.not_lt_zero _)
  | n + 1, h => by
    rw [gT, gT]
    by_cases e : n = x
    ·subst e
     rw [Bk n (Nat.le_refl _)]
     simp [hx]
    have := q6 (ns := ns) hx n (by omega)
    have h1 : (n ∈ x :: seen) = (n ∈ seen) := by simp [e]
    simp only [h1]
    omega
theorem Bl (ns : List aC) (seen : List Nat) : ∀ n, gT ns seen n ≤ dx ns n
  | 0 => Nat.le_refl _
  | n + 1 => by
    have := Bl ns seen n
    rw [gT, dx]
    split <;> omega
def sf (ns : List aC) (seen : List Nat) (z : Int) : Option Value := if 0 ≤ iE ns z ∧ tgt ns z ∈ seen then some (.agg #[]) else none
theorem q8 {ns : List aC} {k : Nat} (hr : bP ns) (hk : k < ns.length) : iE ns (nd ns k).id = (k : Int) ∧ tgt ns (nd ns k).id = k := by
  have h := Ce hr hk (rfl : (nd ns k).id = (nd ns k).id)
  refine ⟨h, ?_⟩
  unfold tgt
  rw [h]
  rfl
theorem Lz {ns : List aC} : mf (sf ns []) = fun _ => none := by
  rw [← vl]
  congr 1
  funext z
  exact if_neg (fun e => by cases e.2)
theorem OA {ns : List aC} {seen : List Nat} {x : Nat} (hr : bP ns) (hx : x < ns.length) (h : x ∈ seen) : mf (sf ns seen) (.int .i64 (nd ns x).id) = some (.agg #[]) := by
  obtain ⟨h1, h2⟩ := q8 hr hx
  exact if_pos ⟨by omega, by rw [h2]; exact h⟩
theorem Io {ns : List aC} {seen : List Nat} {x : Nat} (hr : bP ns) (hx : x < ns.length) (h : x ∉ seen) : mf (sf ns seen) (.int .i64 (nd ns x).id) = none := by
  obtain ⟨h1, h2⟩ := q8 hr hx
  exact if_neg (fun e => h (by rw [← h2]; exact e.2))
theorem NA {ns : List aC} {seen : List Nat} {x : Nat} (hr : bP ns) (hx : x < ns.length) : iD (mf (sf ns seen)) (.int .i64 (nd ns x).id) (some (.agg #[])) = mf (sf ns (x :: seen)) := by
  obtain ⟨h1, h2⟩ := q8 hr hx
  rw [xS]
  congr 1
  funext z
  unfold sf
  by_cases e : z = (nd ns x).id
  ·subst e
   rw [if_pos rfl, if_pos ⟨by omega, by rw [h2]; exact List.mem_cons_self ..⟩]
  rw [if_neg e]
  by_cases e2 : 0 ≤ iE ns z
  ·have e3 : ¬ tgt ns z = x := fun e3 => e (by rw [← (gH e2).2.1, e3])
   simp [e2, e3]
  rw [if_neg (fun h => e2 h.1), if_neg (fun h => e2 h.1)]
theorem NC {ns : List aC} {seen : List Nat} {x : Nat} (hr : bP ns) (hx : x < ns.length) (h : x ∉ seen) : (if ((mf (sf ns seen)) (.int .i64 (nd ns x).id)).isSome then seen.length else seen.length + 1) = (x :: seen).length := by
  rw [Io hr hx h]
  rfl
theorem FZ {ns : List aC} {k : Nat} {seen : List Nat} {ss : List Int} (hok : bD ns) (h : mg ns k seen []) (hs : KeysOf (mf (sf ns seen)) ss) : ss = lI ns k := by
  refine zf hs.sorted (Bw hok.rise) (fun z => ?_)
  rw [hs.mem, pJ]
  show (sf ns seen z).isSome = true ↔ _
  unfold sf
  refine ⟨fun hz => ?_, fun ⟨i, h1, h2, h3⟩ => ?_⟩
  ·split at hz
   ·rename_i h1
    obtain ⟨h2, h3, _⟩ := gH h1.1
    exact ⟨tgt ns z, h2, (h.done _).1 h1.2, h3⟩
   cases hz
  obtain ⟨e1, e2⟩ := q8 hok.rise h1
  rw [h3] at e1 e2
  rw [if_pos ⟨by omega, by rw [e2]; exact (h.done i).2 h2⟩]
  rfl
def iM (A : Option Addr) (l : List Nat) : List Value := l.map fun k => .pointer (some ⟨au A, ar A + k * 10, none⟩)
theorem Ip (A : Option Addr) (l : List Nat) (k : Nat) : iM A (l ++ [k]) = iM A l ++ [.pointer (some ⟨au A, ar A + k * 10, none⟩)] := by simp [iM]
theorem Dv {α : Type} (l : List α) (x : α) : (l ++ [x]).length = l.length + 1 := by simp
structure Rz (ns : List aC) (k : Nat) (mk work : List Nat) (now : Option (Nat × Nat)) : Prop where
  start : k ∈ mk
  reach : ∀ i, i ∈ mk → Reach ns k i
  lies : ∀ i, i ∈ work → i ∈ mk
  nodup : mk.Nodup
  qB : ∀ i, i ∈ mk → i ∈ work ∨ (∃ j, now = some (i, j) ∧ ∀ t, t < j → tgt ns (ent ns i t).id ∈ mk) ∨ ∀ t, t < (nd ns i).ah.length → tgt ns (ent ns i t).id ∈ mk
noncomputable def bI (ns : List aC) (root : Int) : List Int × Int := if eu ns root = 0 then (lI ns (tgt ns root), 0) else ([], eu ns root)
theorem mJ {ns : List aC} {root : Int} (h : eu ns root = 0) : bI ns root = (lI ns (tgt ns root), 0) := if_pos h
theorem pK {ns : List aC} {root : Int} (h : ¬ eu ns root = 0) : bI ns root = ([], eu ns root) := if_neg h
end
section
open Go.RowKit
attribute [local irreducible] aj aR af ai
theorem J0 {β : Bs} (A : Option Addr) (c : Nat) (ns : List aC) (L : Lay) (hG : aA β A ns L) (hB : jc ns 1048576) (root : Int) (hz : I64 root) :
    dY Tryz.prog β 29 #[.agg #[.slice A ns.length c], vI root] [] (fun β' v l => ∃ B cap, v = .tuple #[.slice B (bI ns root).1.length cap, vI (bI ns root).2] ∧ l = [] ∧ dI β' B (fK (bI ns root).1)) := by
 refine dY.enter Tryz.func29 rfl Tryz.ntmps29 (Nat.le_of_ble_eq_true rfl) (fun hle0 R => ?_)
 refine SR ?_
 refine gN 3 (fun b1 => [(2, vP b1)]) (fun _ => []) (fun _ => []) (fun b1 => .blk b1 [.slice A (ns.length) (c)] 24) (fun b1 => ?_)
 refine NS ?_
 refine gK 2 [(17, .agg #[.slice A (ns.length) (c)]), (18, vI (root))] [(0, a_ 1 b1)] ?_
 refine gL [] (JZ A c ns L hG hB root hz) ?_
 rintro _ _ (⟨mb, rfl, hbg, rfl⟩ | ⟨x, y, rfl, hbg, rfl⟩)
 ·obtain ⟨hok, hat, hkd⟩ := wm hbg
  have htl := gH hat
  refine gK 7 [(6, .map (some mb)), (7, .pointer (some ⟨(au A), ar A + (tgt ns root) * 10, none⟩)), (8, vI 0)] [] ?_
  refine NN (af.seq (SR ?_))
  refine gK 2 [(24, .bool false)] [] ?_
  refine NN ?_
  refine CF ?_
  refine af.skip (NX (SR ?_))
  refine aj.kK (d := (some 26)) (t := 149) (fun _ => by kernel_rfl) Tryz.prog rfl 3 (fun m2 => ?_)
  refine gK 1 [(9, .map (some m2))] [] ?_
  refine NS ?_
  refine gN 2 (fun b3 => [(28, .slice (some ⟨b3, 0, none⟩) (1) (1))]) (fun _ => []) (fun _ => []) (fun b3 => .blk b3 [.pointer (some ⟨(au A), ar A + (tgt ns root) * 10, none⟩)] 146) (fun b3 => ?_)
  refine aj.dH 3 (p := .abs (aE Tryz.prog 3 m2 (fun _ => none) 0)) (p' := .abs (aE Tryz.prog 3 m2 (mf (sf ns ([] : List Nat))) (([] : List Nat).length))) (by kernel_rfl) (by rw [Lz]; rfl) ?_
  refine aj.mem (fun w hS => hS.Nx (i := 4) (b := b3) (cs := [.pointer (some ⟨(au A), ar A + (tgt ns root) * 10, none⟩)]) (e := 146) 1 1 (by kernel_rfl) rfl (by decide)) ?_
  refine aj.dH 4 (p := .abs (ez 146 1 (some ⟨b3, 0, none⟩) 1 1 ([.pointer (some ⟨(au A), ar A + (tgt ns root) * 10, none⟩)]))) (p' := .abs (ez 146 1 (some ⟨b3, 0, none⟩) 1 1 (iM A ([tgt ns root])))) (by kernel_rfl) (rfl) ?_
  refine gK 1 [(10, .slice (some ⟨b3, 0, none⟩) (1) (1))] [] ?_
  refine NN (af.seq (af.block ?_))
  refine af.loop (ι := (List Nat) × (List Nat) × (Option Addr) × Nat) (fun ((seen, work, Aw, cw) : (List Nat) × (List Nat) × (Option Addr) × Nat) => (mg ns (tgt ns root) seen work) ∧ (seen.Nodup) ∧ (work.length + gT ns seen ns.length ≤ 8193)) (fun ((seen, work, Aw, cw) : (List Nat) × (List Nat) × (Option Addr) × Nat) => work.length + gT ns seen ns.length) (fun ((seen, work, Aw, cw) : (List Nat) × (List Nat) × (Option Addr) × Nat) => [(6, .map (some mb)), (9, .map (some m2)), (10, .slice Aw (work.length) (cw))]) (fun ((seen, work, Aw, cw) : (List Nat) × (List Nat) × (Option Addr) × Nat) => [.abs (aE Tryz.prog 3 mb (mf (bf A ns ns.length)) ns.length), .abs (aE Tryz.prog 3 m2 (mf (sf ns seen)) seen.length), .abs (ez 146 1 Aw work.length cw (iM A work)), .abs R]) (([] : List Nat), [tgt ns root], some ⟨b3, 0, none⟩, 1) (idx := [6, 9, 10]) (pk := [0, 3, 4, 1]) (show (mg ns (tgt ns root) (([] : List Nat)) ([tgt ns root])) ∧ ((([] : List Nat)).Nodup) ∧ (([tgt ns root]).length + gT ns (([] : List Nat)) ns.length ≤ 8193) from ⟨⟨.inr (List.mem_cons_self ..), fun i hi => by rcases hi with hi | hi; cases hi; rw [List.mem_singleton.1 hi]; exact .refl, fun i hi => by cases hi⟩, List.nodup_nil, by have := Bl ns [] ns.length; have := hok.sum; show 1 + _ ≤ _; omega⟩) (fun _ => by kernel_rfl) rfl (by kernel_rfl) ?_
  rintro ⟨seen, work, Aw, cw⟩ ⟨hinv, hnd, Si⟩
  show af _ _ _ _ [(6, .map (some mb)), (9, .map (some m2)), (10, .slice Aw (work.length) (cw))] [.abs (aE Tryz.prog 3 mb (mf (bf A ns ns.length)) ns.length), .abs (aE Tryz.prog 3 m2 (mf (sf ns seen)) seen.length), .abs (ez 146 1 Aw work.length cw (iM A work)), .abs R] _
  refine af.seq (SR ?_)
  refine gK 3 [(31, .bool (decide ((((work.length : Nat) : Int) : Int) > (0 : Int))))] [] ?_
  refine NN ?_
  refine af.bn (p := (((work.length : Nat) : Int) : Int) > (0 : Int)) (fun _ => by kernel_rfl) (fun KR => ?_) (fun KR => ?_)
  ·obtain ⟨x, rest, hw⟩ : ∃ x g2, work = x :: g2 := List.exists_cons_of_length_pos (by omega)
   have hx : x < ns.length := (hinv.reach x (.inr (by rw [hw]; exact List.mem_cons_self ..))).lt hok htl.1
   have hwl : work.length = rest.length + 1 := by rw [hw]; rfl
   have Qd := xu ns.length seen hnd (fun i hi => (hinv.reach i (.inl hi)).lt hok htl.1)
   have hll := hB.hl
   have hd3 := hB.hd x hx
   refine af.skip (NX (af.block (SR ?_)))
   refine gK 1 [(32, .slice Aw (work.length) (cw))] [] ?_
   refine aj.tell (p := (Aw = some ⟨au Aw, ar Aw, none⟩)) (fun w hS => let ⟨F, h⟩ := hS.get (i := 2) rfl; (ez.len h).2.2) (fun Q0 => ?_)
   refine gK 3 [(11, .pointer (some ⟨(au A), ar A + x * 10, none⟩))] [(0, p_ ⟨[], some 0, none, some ⟨(au Aw), ar Aw, none⟩, none⟩ [0 = ((0 : Nat) : Int), 0 < work.length, (⟨(au Aw), ar Aw, none⟩ : Addr).spot = none, (Aw : Option Addr) = some ⟨(au Aw), ar Aw, none⟩] ⟨rfl, by omega, rfl, Q0, trivial⟩), (1, p_ ⟨[.view 2 (.pointer (some ⟨(au A), ar A + x * 10, none⟩))], none, none, none, none⟩ [(∀ F w, (ez 146 1 Aw work.length cw (iM A work)).h F w → w.cell? ⟨(au Aw), ar Aw + 0 * 1, none⟩ = some (.pointer (some ⟨(au A), ar A + x * 10, none⟩)))] ⟨ez.cellAt (i := 0) (j := 0) (by rw [hw]; rfl), trivial⟩)] ?_
   refine NS ?_
   refine gK 1 [(35, .slice Aw (work.length) (cw))] [] ?_
   refine aj.Il 2 (d := (some 36)) (t := 150) (e := 146) (size := 1) (m := 1) (n := work.length) (cap := cw) (A := Aw) (xs := (iM A work)) (x := (.tmp 35)) (lo := (.const (.int .i64 1))) (fun _ => by kernel_rfl) (by kernel_rfl) (fun _ => by kernel_rfl) (fun _ => by kernel_rfl) Tryz.underlying150 (by kernel_rfl) (by omega) (fun A4 => ?_)
   refine aj.dH 2 (p := .abs (ez 146 1 A4 (work.length - 1) (cw - 1) ((iM A work).drop (1 * 1)))) (p' := .abs (ez 146 1 A4 rest.length (cw - 1) (iM A rest))) (by kernel_rfl) (by rw [hw]; rfl) ?_
   refine aj.slot 36 (.slice A4 ((work.length - 1)) ((cw - 1))) (.slice A4 (rest.length) ((cw - 1))) (fun _ => by kernel_rfl) (by rw [hw]; rfl) ?_
   refine gK 1 [(10, .slice A4 (rest.length) ((cw - 1)))] [] ?_
   refine NN (af.seq (SR ?_))
   refine gK 5 [(38, .map (some m2)), (42, vI ((nd ns x).id))] [(4, p_ ⟨[.old (.int .i64 ((nd ns x).id))], none, none, none, none⟩ [(Rd β ⟨(au A), ar A + x * 10, none⟩ (.int .i64 ((nd ns x).id)))] ⟨aA.rd hG (i := x) (by omega) (j := 0) rfl, trivial⟩)] ?_
   by_cases Bn : x ∈ seen
   ·refine aj.mh 1 (d := (some 43)) (t := 149) (K := 3) (E := 151) (b := m2) (n := seen.length) (f := (mf (sf ns seen))) (x := (.tmp 38)) (ix := (.tmp 42)) (key := .int .i64 ((nd ns x).id)) (z := .agg #[]) (kl := (.int .i64 (nd ns x).id)) (r := (some (.agg #[]))) (fun _ => by kernel_rfl) (by kernel_rfl) (fun _ => by kernel_rfl) (fun _ => by kernel_rfl) cU Tryz.underlying149 (fun _ => by kernel_rfl) (jM (hB.node x hx).ids.1.1 (hB.node x hx).ids.1.2) (OA hok.rise hx Bn) ?_
    refine gN 6 (fun b5 => [(13, .bool true)]) (fun _ => []) (fun _ => []) (fun b5 => .blk b5 [] 151) (fun b5 => ?_)
    refine NS ?_
    refine gK 1 [(46, .bool true)] [] ?_
    refine NN ?_
    refine CT ?_
    refine af.exit (ai.aT (ai.bX ?_))
    exact ai.turn (seen, rest, A4, (cw - 1)) (idx := [6, 9, 10]) (pk := [0, 1, 2, 3]) (show (mg ns (tgt ns root) seen rest) ∧ (seen.Nodup) ∧ (rest.length + gT ns seen ns.length ≤ 8193) from ⟨(hw ▸ hinv : mg ns _ seen (x :: rest)).old Bn, hnd, by omega⟩) (by show rest.length + gT ns seen ns.length < work.length + gT ns seen ns.length; first | omega | (have Pk := q6 (ns := ns) Bn ns.length hx; rw [List.length_append, qC]; omega)) (fun _ => by kernel_rfl) rfl (by kernel_rfl)
   refine aj.mh 1 (d := (some 43)) (t := 149) (K := 3) (E := 151) (b := m2) (n := seen.length) (f := (mf (sf ns seen))) (x := (.tmp 38)) (ix := (.tmp 42)) (key := .int .i64 ((nd ns x).id)) (z := .agg #[]) (kl := (.int .i64 (nd ns x).id)) (r := none) (fun _ => by kernel_rfl) (by kernel_rfl) (fun _ => by kernel_rfl) (fun _ => by kernel_rfl) cU Tryz.underlying149 (fun _ => by kernel_rfl) (jM (hB.node x hx).ids.1.1 (hB.node x hx).ids.1.2) (Io hok.rise hx Bn) ?_
   refine gN 6 (fun b6 => [(13, .bool false)]) (fun _ => []) (fun _ => []) (fun b6 => .blk b6 [] 151) (fun b6 => ?_)
   refine NS ?_
   refine gK 1 [(46, .bool false)] [] ?_
   refine NN ?_
   refine CF ?_
   refine af.skip (NX (SR ?_))
   refine gK 6 [(47, .map (some m2)), (51, vI ((nd ns x).id)), (52, .agg #[])] [(4, p_ ⟨[.old (.int .i64 ((nd ns x).id))], none, none, none, none⟩ [(Rd β ⟨(au A), ar A + x * 10, none⟩ (.int .i64 ((nd ns x).id)))] ⟨aA.rd hG (i := x) (by omega) (j := 0) rfl, trivial⟩)] ?_
   refine aj.jW 1 (d := none) (t := 149) (K := 3) (E := 151) (b := m2) (n := seen.length) (f := (mf (sf ns seen))) (x := (.tmp 47)) (ix := (.tmp 51)) (y := (.tmp 52)) (key := .int .i64 ((nd ns x).id)) (u := .agg #[]) (kl := (.int .i64 (nd ns x).id)) (n' := (x :: seen).length) (f' := (mf (sf ns (x :: seen)))) (fun _ => by kernel_rfl) (by kernel_rfl) (fun _ => by kernel_rfl) (fun _ => by kernel_rfl) (fun _ => by kernel_rfl) cU Tryz.underlying149 (by unfold maxLen; omega) (jM (hB.node x hx).ids.1.1 (hB.node x hx).ids.1.2) (NC hok.rise hx Bn) (NA hok.rise hx) ?_
   refine NS ?_
   refine aj.dH 2 (p := .abs (ez 146 1 A4 rest.length (cw - 1) (iM A rest))) (p' := .abs (ez 146 1 A4 ((rest ++ tgts ns x 0).length) (cw - 1) (iM A (rest ++ tgts ns x 0)))) (by kernel_rfl) (by rw [show tgts ns x 0 = [] from rfl, List.append_nil]) ?_
   refine aj.slot 10 (.slice A4 (rest.length) ((cw - 1))) (.slice A4 ((rest ++ tgts ns x 0).length) ((cw - 1))) (fun _ => by kernel_rfl) (by rw [show tgts ns x 0 = [] from rfl, List.append_nil]) ?_
   refine gK 6 [(56, .slice (L.eA x) ((nd ns x).ah.length) ((L.eC x))), (57, vI ↑((nd ns x).ah.length)), (58, vI 0)] [(3, p_ ⟨[.old (.slice (L.eA x) ((nd ns x).ah.length) ((L.eC x)))], none, none, none, none⟩ [(Rd β ⟨(au A), ar A + x * 10 + 9, none⟩ (.slice (L.eA x) ((nd ns x).ah.length) ((L.eC x))))] ⟨aA.rd hG (i := x) (by omega) (j := 9) rfl, trivial⟩)] ?_
   refine NN (af.block ?_)
   refine af.loop (ι := Nat × (Option Addr) × Nat) (fun ((j, Ax, cx) : Nat × (Option Addr) × Nat) => (j ≤ (nd ns x).ah.length)) (fun ((j, Ax, cx) : Nat × (Option Addr) × Nat) => (nd ns x).ah.length - j) (fun ((j, Ax, cx) : Nat × (Option Addr) × Nat) => [(6, .map (some mb)), (9, .map (some m2)), (10, .slice Ax ((rest ++ tgts ns x j).length) (cx)), (56, .slice (L.eA x) ((nd ns x).ah.length) ((L.eC x))), (57, vI ↑((nd ns x).ah.length)), (58, vI ↑j)]) (fun ((j, Ax, cx) : Nat × (Option Addr) × Nat) => [.abs (aE Tryz.prog 3 mb (mf (bf A ns ns.length)) ns.length), .abs (aE Tryz.prog 3 m2 (mf (sf ns (x :: seen))) ((x :: seen).length)), .abs (ez 146 1 Ax ((rest ++ tgts ns x j).length) cx (iM A (rest ++ tgts ns x j))), .abs R]) (0, A4, (cw - 1)) (idx := [6, 9, 10, 56, 57, 58]) (pk := [0, 1, 2, 3]) (show (0 ≤ (nd ns x).ah.length) from (by omega)) (fun _ => by kernel_rfl) rfl (by kernel_rfl) ?_
   rintro ⟨j, Ax, cx⟩ hj
   show af _ _ _ _ [(6, .map (some mb)), (9, .map (some m2)), (10, .slice Ax ((rest ++ tgts ns x j).length) (cx)), (56, .slice (L.eA x) ((nd ns x).ah.length) ((L.eC x))), (57, vI ↑((nd ns x).ah.length)), (58, vI ↑j)] [.abs (aE Tryz.prog 3 mb (mf (bf A ns ns.length)) ns.length), .abs (aE Tryz.prog 3 m2 (mf (sf ns (x :: seen))) ((x :: seen).length)), .abs (ez 146 1 Ax ((rest ++ tgts ns x j).length) cx (iM A (rest ++ tgts ns x j))), .abs R] _
   refine SR ?_
   refine gK 1 [(59, .bool (decide ((((j : Nat) : Int) : Int) < ((((nd ns x).ah.length : Nat) : Int) : Int))))] [] ?_
   refine NN (af.seq ?_)
   refine af.bn (p := (((j : Nat) : Int) : Int) < ((((nd ns x).ah.length : Nat) : Int) : Int)) (fun _ => by kernel_rfl) (fun M0 => ?_) (fun M0 => ?_)
   ·refine af.skip (NX (af.seq (af.block (SR ?_))))
    refine gN 4 (fun b7 => [(15, vP b7)]) (fun b7 => [(0, p_ ⟨[], some j, none, some ⟨(au (L.eA x)), ar (L.eA x), none⟩, none⟩ [((j : Nat) : Int) = ((j : Nat) : Int), j < (nd ns x).ah.length, (⟨(au (L.eA x)), ar (L.eA x), none⟩ : Addr).spot = none, ((L.eA x) : Option Addr) = some ⟨(au (L.eA x)), ar (L.eA x), none⟩] ⟨rfl, by omega, rfl, cF.hd (hG.ah x (by omega)) (i := j) (by omega), trivial⟩), (1, p_ ⟨[.old (.string (en (nd ns x).ah j).name), .old (.int .i64 ((en (nd ns x).ah j).id))], none, none, none, none⟩ [(Rd β ⟨(au (L.eA x)), ar (L.eA x) + j * 2 + 1, none⟩ (.int .i64 ((en (nd ns x).ah j).id))), (Rd β ⟨(au (L.eA x)), ar (L.eA x) + j * 2, none⟩ (.string (en (nd ns x).ah j).name))] ⟨cF.rd (hG.ah x (by omega)) (i := j) (by omega) (j := 1) rfl, cF.rd (hG.ah x (by omega)) (i := j) (by omega) (j := 0) rfl, trivial⟩), (3, A_ 4 b7 2)]) (fun _ => []) (fun b7 => .blk b7 [.string (en (nd ns x).ah j).name, vI ((en (nd ns x).ah j).id)] 101) (fun b7 => ?_)
    refine NN (af.region ?_)
    refine gK 4 [(62, .slice Ax ((rest ++ tgts ns x j).length) (cx)), (63, .map (some mb)), (65, vI ((en (nd ns x).ah j).id))] [(3, a_ 4 b7)] ?_
    have ND := (hok.ah x hx j (by omega)).at_
    have Qe := gH ND
    refine aj.dm 0 (d := (some 66)) (t := 143) (K := 3) (E := 146) (b := mb) (n := ns.length) (f := (mf (bf A ns ns.length))) (x := (.tmp 63)) (ix := (.tmp 65)) (key := .int .i64 ((en (nd ns x).ah j).id)) (z := .pointer none) (kl := (.int .i64 (en (nd ns x).ah j).id)) (r := (some (.pointer (some ⟨(au A), ar A + (tgt ns (en (nd ns x).ah j).id) * 10, none⟩)))) (fun _ => by kernel_rfl) (by kernel_rfl) (fun _ => by kernel_rfl) (fun _ => by kernel_rfl) cU Tryz.underlying143 (fun _ => by kernel_rfl) (jM (hB.hwf x hx j (by omega)).1 (hB.hwf x hx j (by omega)).2) (EO ND Qe.1) ?_
    refine gN 1 (fun b8 => [(67, .slice (some ⟨b8, 0, none⟩) (1) (1))]) (fun _ => []) (fun _ => []) (fun b8 => .blk b8 [.pointer (some ⟨(au A), ar A + (tgt ns (en (nd ns x).ah j).id) * 10, none⟩)] 146) (fun b8 => ?_)
    refine aj.FX 2 (d := (some 68)) (t := 150) (e := 146) (z := .pointer none) (size := 1) (bytes := 8) (n := (rest ++ tgts ns x j).length) (cap := cx) (A := Ax) (ad := ⟨b8, 0, none⟩) (xs := (iM A (rest ++ tgts ns x j))) (s := (.tmp 62)) (x := (.tmp 67)) (ats := #[150, 150]) (m := 1) (c' := 1) (news := [.pointer (some ⟨(au A), ar A + (tgt ns (en (nd ns x).ah j).id) * 10, none⟩)]) (fun _ => by kernel_rfl) rfl (by kernel_rfl) (fun _ => by kernel_rfl) (fun _ => by kernel_rfl) Tryz.underlying150 (by kernel_rfl) rfl (by decide) (rfl) (by simp [Value.oneCell']) (JX (j := 5) rfl) (by unfold maxLen; rw [List.length_append, qC]; omega) (by rw [List.length_append, qC]; omega) (fun A9 c10 => ?_)
    refine aj.dH 2 (p := .abs (ez 146 1 A9 (((rest ++ tgts ns x j).length) + 1) c10 ((iM A (rest ++ tgts ns x j)) ++ [.pointer (some ⟨(au A), ar A + (tgt ns (en (nd ns x).ah j).id) * 10, none⟩)]))) (p' := .abs (ez 146 1 A9 ((rest ++ tgts ns x (j + 1)).length) c10 (iM A (rest ++ tgts ns x (j + 1))))) (by kernel_rfl) (by rw [Bj, ← List.append_assoc, Ip, Dv]; rfl) ?_
    refine aj.slot 68 (.slice A9 (((rest ++ tgts ns x j).length) + 1) (c10)) (.slice A9 ((rest ++ tgts ns x (j + 1)).length) (c10)) (fun _ => by kernel_rfl) (by rw [Bj, ← List.append_assoc, Dv]) ?_
    refine gK 1 [(10, .slice A9 ((rest ++ tgts ns x (j + 1)).length) (c10))] [] ?_
    refine NL (ai.aL (NX (af.region ?_)))
    refine gK 2 [(58, vI ↑(j + 1))] [(0, p_ ⟨[], none, none, none, some (vI ↑(j + 1))⟩ [(Value.int .i64 (IntKind.wrap .i64 (((j : Nat) : Int) + 1))) = (.int .i64 ↑(j + 1))] ⟨bE (by omega) (by omega) (by omega), trivial⟩)] ?_
    refine NL ?_
    exact ai.turn ((j + 1), A9, c10) (idx := [6, 9, 10, 56, 57, 58]) (pk := [0, 1, 2, 3]) (show (((j + 1)) ≤ (nd ns x).ah.length) from (by omega)) (by show (nd ns x).ah.length - ((j + 1)) < (nd ns x).ah.length - j; omega) (fun _ => by kernel_rfl) rfl (by kernel_rfl)
   refine af.exit (ai.aT (ai.aT (ai.bX (ai.aL ?_))))
   exact ai.turn ((x :: seen), (rest ++ tgts ns x j), Ax, cx) (idx := [6, 9, 10]) (pk := [0, 1, 2, 3]) (show (mg ns (tgt ns root) ((x :: seen)) ((rest ++ tgts ns x j))) ∧ (((x :: seen)).Nodup) ∧ (((rest ++ tgts ns x j)).length + gT ns ((x :: seen)) ns.length ≤ 8193) from ⟨by rw [show j = (nd ns x).ah.length by omega]; exact (hw ▸ hinv : mg ns _ seen (x :: rest)).new, List.nodup_cons.2 ⟨Bn, hnd⟩, by have Pk := q6 (ns := ns) Bn ns.length hx; rw [List.length_append, qC]; omega⟩) (by show ((rest ++ tgts ns x j)).length + gT ns ((x :: seen)) ns.length < work.length + gT ns seen ns.length; first | omega | (have Pk := q6 (ns := ns) Bn ns.length hx; rw [List.length_append, qC]; omega)) (fun _ => by kernel_rfl) rfl (by kernel_rfl)
  have Qd := xu ns.length seen hnd (fun i hi => (hinv.reach i (.inl hi)).lt hok htl.1)
  have hll := hB.hl
  refine af.exit (ai.aT (ai.aT (ai.bX (NX (SR ?_)))))
  have hwn : work = [] := List.eq_nil_of_length_eq_zero (by omega)
  refine gK 1 [(70, .map (some m2))] [] ?_
  refine gL [] (JY (some m2)) ?_
  rintro _ _ ⟨bk, rfl, rfl⟩
  refine gL [2, 0] (FY m2 bk seen.length (mf (sf ns seen)) (by omega)) ?_
  rintro _ _ ⟨A5, c5, ss, rfl, hkeys, hsl, rfl⟩
  have hss : ss = lI ns (tgt ns root) := FZ hok (hwn ▸ hinv) hkeys
  refine aj.nX (Φ := fun β' => dI β' A5 (fK ss)) 2 [0, 1, 3, 4, 5] (aP := [.abs (aE Tryz.prog 3 m2 (mf (sf ns seen)) seen.length), .blk bk [.map (some m2)] 149, .abs (aE Tryz.prog 3 mb (mf (bf A ns ns.length)) ns.length), .abs (ez 146 1 Aw work.length cw (iM A work)), .abs R]) rfl rfl (by kernel_rfl) (fun F w h β' h1 h2 => dI.lg h h1 h2) (fun xC kH hR => ?_)
  replace hG := hG.le kH
  replace hle0 := hle0.trans kH
  refine gK 2 [(4, .slice A5 (ss.length) (c5)), (5, vI 0)] [] ?_
  refine NN (af.ret ?_)
  exact ai.rA (v := .tuple #[.slice A5 (ss.length) (c5), vI 0]) (l := []) (aU := []) [] [4] hle0 (fun _ => by kernel_rfl) trivial rfl (by kernel_rfl) (⟨A5, c5, by rw [mJ hbg, ← hss], rfl, by rw [mJ hbg, ← hss]; exact hR⟩)
 refine gK 7 [(6, x), (7, y), (8, vI ((eu ns root)))] [] ?_
 refine NN (af.seq (SR ?_))
 refine gK 2 [(24, .bool (!(decide (((eu ns root) : Int) = (0 : Int)))))] [] ?_
 refine NN ?_
 refine af.ct (p := ((eu ns root) : Int) = (0 : Int)) (fun _ => by kernel_rfl) (fun tK => ?_) (fun tK => ?_)
 ·refine SR ?_
  refine gK 3 [(4, .slice none (0) (0)), (5, vI ((eu ns root)))] [] ?_
  refine NN (af.ret (ai.aq ?_))
  exact ai.rA (v := .tuple #[.slice none (0) (0), vI ((eu ns root))]) (l := []) (aU := []) [] [0] hle0 (fun _ => by kernel_rfl) trivial rfl (by kernel_rfl) (⟨none, 0, by rw [pK hbg]; rfl, rfl, by rw [pK hbg]; exact dI.nil⟩)
 exact absurd tK hbg
end
section
open Go.RowKit Go.Maps HeapM TabM
def Bo (ns : List aC) (root last : Int) (k : Nat) : Prop := ((k : Int) ∈ (bI ns root).1) ∨ last < (k : Int)
theorem Iq (ns : List aC) (root : Int) : (bI ns root).1.length ≤ ns.length := by
  classical
  by_cases h : eu ns root = 0
  ·rw [mJ h]
   show (lI ns (tgt ns root)).length ≤ _
   unfold lI
   rw [List.length_map]
   exact Nat.le_trans (List.length_filter_le _ _) (by simp)
  rw [pK h]; exact Nat.zero_le _
section cg
variable {X : FM} {ns : List aC} {S0 S : aG} {root : Int} {q j : Nat}
theorem wo (hu : (bI ns root).2 = 0) : eu ns root = 0 := by
  refine Classical.byContradiction fun h => ?_
  rw [pK h] at hu
  exact h hu
theorem xD (hu : (bI ns root).2 = 0) {last : Int} (k : Nat) (e : root = (k : Int)) : Bo ns root last k := by
  have hb := wo hu
  obtain ⟨_, h2, _⟩ := wm hb
  have h3 := gH h2
  refine .inl ?_
  rw [mJ hb, ← e]
  exact pJ.2 ⟨_, h3.1, .refl, h3.2.1⟩
theorem F5 (hE : dL X ns ns.length 0 S) (hok : bD ns) (hu : (bI ns root).2 = 0) : bZ (Bo ns root S.X.last) S S := by
  have hI : Inv S := hE.full
  have hg : ax S = ns := hE.graph hok
  have hb := wo hu
  refine ⟨⟨fun _ _ => rfl, fun k hk e he => ?_⟩, fun p hp => (by rw [hE.us] at hp; cases hp), fun _ h _ => h, Int.le_refl _, fun k hk => .inr hk⟩
  rcases hk with hk | hk
  ·rw [mJ hb] at hk
   obtain ⟨i, hi, hr, hid⟩ := pJ.1 hk
   rw [← hg, fR] at hi
   have hla := mH hI.toInv0 hi
   have hid : (nd (ax S) i).id = (k : Int) := by rw [hg]; exact hid
   rw [gY hi] at hid
   have hid : bS S i = (k : Int) := hid
   have hkk : (dV S i).k = k := by have := hla.2; omega
   rw [← hkk] at he
   obtain ⟨t, ht, e1⟩ := List.getElem_of_mem he
   have hes := vE ht
   rw [List.getElem?_eq_getElem ht, e1] at hes
   have e2 : e.2 = oJ (obj S.O (dV S i).k).ah t := by injection hes with hes; rw [hes]
   have ht2 : t < (nd (ax S) i).ah.length := by
     rw [gY hi]
     show t < ((obj S.O (dV S i).k).ah.map _).length
     rw [List.length_map]; exact ht
   obtain ⟨a, ha, h1, h2, _⟩ := Ic hI.toInv0 hi ht2
   refine .inl ?_
   rw [mJ hb]
   refine pJ.2 ⟨a, by rw [← hg, fR]; exact ha, ?_, ?_⟩
   ·rw [← h2, hg]
    rw [hg] at ht2
    exact .step t hr ht2
   rw [← hg, gY ha]
   show bS S a = _
   rw [(mH hI.toInv0 ha).2, h1, e2]
  rw [(hI.dead k (fun t ht e => by have := (hI.idx _ _ ht).2.2; omega)).1] at he
  cases he
theorem Dw (hE : dL X ns ns.length 0 S0) (hok : bD ns) (hC : bZ (Bo ns root S0.X.last) S0 S) (hI : Inv0 S) (hq : q < ns.length) (hn : (nd ns q).id ∉ (bI ns root).1) : ∃ j, j < (ax S).length ∧ nd (ax S) j = nd ns q := by
  have Bh : Inv S0 := hE.full
  have hg : ax S0 = ns := hE.graph hok
  have KS : q < S0.idx.length := by rw [← fR, hg]; exact hq
  have hla := mH Bh.toInv0 KS
  have hid : (nd ns q).id = bS S0 q := by rw [← hg, gY KS]; rfl
  obtain ⟨j, hj, e⟩ := hC.kept Bh.toInv0 hI KS (fun h => by
    rcases h with h | h
    ·rw [← hla.2, ← hid] at h; exact hn h
    have := (Bh.idx _ _ (get_at Bh.toInv0 KS)).2.2
    have := hla.2
    omega)
  exact ⟨j, by rw [fR]; exact hj, e.trans (by rw [hg])⟩
theorem J1 (hE : dL X ns ns.length 0 S0) (hok : bD ns) (hC : bZ (Bo ns root S0.X.last) S0 S) (hI : Inv0 S) (hq : q < ns.length) (hn : (nd ns q).id ∉ (bI ns root).1) (hj : j < (ax S).length) (e : (nd (ax S) j).id = (nd ns q).id) : nd (ax S) j = nd ns q := by
  obtain ⟨t, ht, h⟩ := Dw hE hok hC hI hq hn
  have hr := y9 hI
  have : j = t := by
    rcases Nat.lt_trichotomy j t with h1 | h1 | h1
    ·have := hr j t h1 ht; rw [e, h] at this; omega
    ·exact h1
    have := hr t j h1 hj; rw [e, h] at this; omega
  rw [this]; exact h
def jr (l : List Int) (z : Int) (j : Nat) (fl : Bool) : Prop := fl = true ↔ ∃ t, t < j ∧ l.getD t 0 = z
theorem jr.zero (l : List Int) (z : Int) : jr l z 0 false := ⟨fun h => (by cases h), fun ⟨_, h, _⟩ => absurd h (Nat.not_lt_zero _)⟩
theorem jr.hit {l : List Int} {z : Int} {j : Nat} (h : l.getD j 0 = z) : jr l z (j + 1) true := ⟨fun _ => ⟨j, Nat.lt_succ_self j, h⟩, fun _ => rfl⟩
theorem jr.miss {l : List Int} {z : Int} {j : Nat} {fl : Bool} (c : jr l z j fl) (h : ¬ l.getD j 0 = z) : jr l z (j + 1) fl := by
  refine ⟨fun e => (c.1 e).imp fun t ⟨h1, h2⟩ => ⟨by omega, h2⟩, fun ⟨t, h1, h2⟩ => c.2 ⟨t, ?_, h2⟩⟩
  rcases Nat.lt_succ_iff_lt_or_eq.1 h1 with h3 | h3
  ·exact h3
  rw [h3] at h2; exact absurd h2 h
theorem jr.none {l : List Int} {z : Int} {fl : Bool} (c : jr l z l.length fl) (h : fl = false) : z ∉ l := fun hm => by
  obtain ⟨j, hj, e⟩ := List.getElem_of_mem hm
  have := c.2 ⟨j, hj, by rw [List.getD_eq_getElem?_getD, List.getElem?_eq_getElem hj]; exact e⟩
  rw [h] at this; cases this
def jt (ns G : List aC) (q j : Nat) (kp : Bool) : Prop := kp = true ↔ ∃ t, t < j ∧ (nd G t).id = (nd ns q).id
theorem jt.zero {G : List aC} : jt ns G q 0 false := ⟨fun h => (by cases h), fun ⟨_, h, _⟩ => absurd h (Nat.not_lt_zero _)⟩
theorem jt.hit {G : List aC} (h : (nd G j).id = (nd ns q).id) : jt ns G q (j + 1) true := ⟨fun _ => ⟨j, Nat.lt_succ_self j, h⟩, fun _ => rfl⟩
theorem jt.miss {G : List aC} {kp : Bool} (c : jt ns G q j kp) (h : ¬ (nd G j).id = (nd ns q).id) : jt ns G q (j + 1) kp := by
  refine ⟨fun e => (c.1 e).imp fun t ⟨h1, h2⟩ => ⟨by omega, h2⟩, fun ⟨t, h1, h2⟩ => c.2 ⟨t, ?_, h2⟩⟩
  rcases Nat.lt_succ_iff_lt_or_eq.1 h1 with h3 | h3
  ·exact h3
  rw [h3] at h2; exact absurd h2 h
theorem jt.all {kp : Bool} (c : jt ns (ax S) q (ax S).length kp) (h : ∃ j, j < (ax S).length ∧ nd (ax S) j = nd ns q) : kp = true :=
  c.2 (h.imp fun j ⟨h1, h2⟩ => ⟨h1, by rw [h2]⟩)
end cg
end
section
open Go.RowKit Go.Maps HeapM TabM
attribute [local irreducible] aj aR af ai
theorem law_confined (W : World) (A : Option Addr) (c : Nat) (ns : List aC) (Y : Lay) (X : FM) (hG : aA (B0 W) A ns Y) (hB : jc ns 1048576) (A1 : Option Addr) (c1 : Nat) (xs : List ij) (hS : cq (B0 W) A1 xs) (hxl : xs.length ≤ 1048576) (hxc : xs.length ≤ c1) (hg : jb (B0 W)) (root : Int) (hz : I64 root) (hrw : (Lit.int .i64 root).wf = true) :
    Spec Tryz.prog (B0 W) 7 #[.agg #[.slice A (ns.length) (c), vI (X.cN), vI (X.cB), vI (X.cH), vI (X.cS), vI (X.cZ)], vI (root), .slice A1 (xs.length) (c1)] [] (fun v _ => v = .bool true) := by
 have hle0 := B0.refl W
 refine Spec.enter Tryz.func7 rfl Tryz.ntmps7 (Nat.le_of_ble_eq_true rfl) (fun R => ?_)
 refine SR ?_
 refine gN 2 (fun b1 => [(3, vP b1)]) (fun _ => []) (fun _ => []) (fun b1 => .blk b1 [.slice A (ns.length) (c), vI (X.cN), vI (X.cB), vI (X.cH), vI (X.cS), vI (X.cZ)] 30) (fun b1 => ?_)
 refine NN (af.seq (SR ?_))
 refine aj.lK (d := (some 18)) (R := [.abs R, .blk b1 [.slice A (ns.length) (c), vI (X.cN), vI (X.cB), vI (X.cH), vI (X.cS), vI (X.cZ)] 30]) (pk := [0, 1]) (fun _ => by kernel_rfl) (JU) rfl (by kernel_rfl) ?_
 rintro xR _ _ kP ⟨rfl, rfl⟩
 replace hG := hG.le kP
 replace hS := hS.le kP
 replace hg := hg.le kP
 replace hle0 := hle0.trans kP
 refine gK 1 [(19, .bool false)] [] ?_
 refine NN ?_
 refine CF ?_
 refine af.skip (NX (af.seq ?_))
 by_cases Ak : pH X ∧ bD ns
 ·refine af.mY (S := [.blk b1 [.slice A (ns.length) (c), vI (X.cN), vI (X.cB), vI (X.cH), vI (X.cS), vI (X.cZ)] 30]) [(true, 0), (true, 1), (true, 3), (true, 4), (false, 2), (false, 5), (true, 6), (true, 7), (true, 8), (true, 9), (false, 10)] [1] (by kernel_rfl) (by kernel_rfl) rfl (by kernel_rfl) ?_
  refine fD.reads (l := [(false, 2), (false, 5), (true, 6), (true, 7), (true, 8), (true, 9), (false, 10)]) (fr' := [(1, vI (root)), (2, .slice A1 (xs.length) (c1)), (3, vP b1), (22, .agg #[.slice A (ns.length) (c)]), (25, .agg #[vI (X.cN), vI (X.cB), vI (X.cH), vI (X.cS), vI (X.cZ)])]) (aU := [b1 = b1, b1 = b1, b1 = b1, b1 = b1, b1 = b1, b1 = b1]) [0, 1, 3, 4] [o_, ⟨[.at 0], none, none, none, none⟩, o_, ⟨[.at 0, .at 0, .at 0, .at 0, .at 0], none, none, none, none⟩] [1, 2, 3, 22, 25] (fun _ => by kernel_rfl) ⟨rfl, rfl, rfl, rfl, rfl, rfl, trivial⟩ rfl ?_
  refine fD.cut (ι := (Option Addr) × Nat) (fr' := fun ((B, cp) : (Option Addr) × Nat) => [(1, vI (root)), (2, .slice A1 (xs.length) (c1)), (3, vP b1), (23, .agg #[.slice B (ns.length) (cp)]), (25, .agg #[vI (X.cN), vI (X.cB), vI (X.cH), vI (X.cS), vI (X.cZ)])]) (hp' := fun ((B, cp) : (Option Addr) × Nat) => [.abs (mW xR (fun β' => ∃ K, aA β' B ns K)), .abs R, .blk b1 [.slice A (ns.length) (c), vI (X.cN), vI (X.cB), vI (X.cH), vI (X.cS), vI (X.cZ)] 30]) [2] (by kernel_rfl) ?_ rfl (fun _ => by kernel_rfl) ?_
  ·refine gL [] (tQ (β := xR) A c ns Y hG (vJ hB) (za hB)) ?_
   rintro _ _ ⟨B, cp, rfl, rfl⟩
   refine NL ?_
   exact MD (B, cp) [1, 2, 3, 23, 25] [0, 1, 2]
  rintro ⟨B, cp⟩
  refine fD.cut (ι := (FV X ns) × Nat × Nat × Nat × HL) (fr' := fun ((N, f, m, t, L) : (FV X ns) × Nat × Nat × Nat × HL) => [(1, vI (root)), (2, .slice A1 (xs.length) (c1)), (3, vP b1), (26, .tuple #[vP f, vI 0])]) (hp' := fun ((N, f, m, t, L) : (FV X ns) × Nat × Nat × Nat × HL) => [.blk f [vI (N.1.X.cN), vI (N.1.X.cB), vI (N.1.X.cH), vI (N.1.X.cS), vI (N.1.X.cZ), .map (some m), vP t, vI (N.1.X.last), vI (N.1.X.ah), vI (N.1.X.used)] 86, .abs (aE Tryz.prog 3 m (aO (aK L N.1.idx)) N.1.idx.length), .abs (br 156 t N.1.X.cH N.1.av (aK L N.1.us)), .abs (ak (aN N.1.O L)), .abs (ak (aY N.1.O L)), .abs (ak (bh N.1.O L)), .abs R, .blk b1 [.slice A (ns.length) (c), vI (X.cN), vI (X.cB), vI (X.cH), vI (X.cS), vI (X.cZ)] 30]) [7] (by kernel_rfl) ?_ rfl (fun _ => by kernel_rfl) ?_
  ·refine gL [0] (JV (β := xR) (X := X) Ak.1 Ak.2 B cp (vJ hB) (za hB) (Ie hB) (Ig hB)) ?_
   rintro _ _ ⟨N, f, m, t, L, rfl, rfl⟩
   refine NL ?_
   exact MD (N, f, m, t, L) [1, 2, 3, 26] [0, 1, 2, 3, 4, 5, 6, 7]
  rintro ⟨N, f, m, t, L⟩
  refine fD.reads (l := [(false, 10)]) (fr' := [(1, vI (root)), (2, .slice A1 (xs.length) (c1)), (3, vP b1), (7, vP f), (28, vI 0)]) (aU := []) [6, 7, 8, 9] [o_, o_, o_, o_] [1, 2, 3, 7, 28] (fun _ => by kernel_rfl) trivial rfl ?_
  refine fD.last (by kernel_rfl) ?_
  refine gK 1 [(8, vI 0)] [] ?_
  refine NL (ai.np (NX (af.seq (SR ?_))))
  refine gK 6 [(34, .bool false)] [] ?_
  refine NN ?_
  refine CF ?_
  refine af.skip (NX (SR ?_))
  refine gK 2 [(43, .agg #[.slice A (ns.length) (c)])] [(1, a_ 7 b1)] ?_
  refine aj.lK (d := (some 44)) (R := ((pA f m t L N.1) ++ [.abs R, .blk b1 [.slice A (ns.length) (c), vI (X.cN), vI (X.cB), vI (X.cH), vI (X.cS), vI (X.cZ)] 30])) (pk := [0, 1, 2, 3, 4, 5, 6, 7]) (fun _ => by kernel_rfl) (tX A c ns Y hG (vJ hB) (za hB)) rfl (by kernel_rfl) ?_
  rintro Sj _ _ vM ⟨B3, c4, K5, rfl, rfl, En⟩
  replace hG := hG.le vM
  replace hS := hS.le vM
  replace hg := hg.le vM
  replace hle0 := hle0.trans vM
  refine gK 1 [(45, vI (root))] [] ?_
  refine aj.lK (d := (some 46)) (R := ((pA f m t L N.1) ++ [.abs R, .blk b1 [.slice A (ns.length) (c), vI (X.cN), vI (X.cB), vI (X.cH), vI (X.cS), vI (X.cZ)] 30])) (pk := [0, 1, 2, 3, 4, 5, 6, 7]) (fun _ => by kernel_rfl) (J0 B3 c4 ns K5 En hB root hz) rfl (by kernel_rfl) ?_
  rintro yZ _ _ jG ⟨B7, c8, rfl, rfl, hU⟩
  replace hG := hG.le jG
  replace hS := hS.le jG
  replace hg := hg.le jG
  replace En := En.le jG
  replace hle0 := hle0.trans jG
  refine gK 5 [(8, vI ((bI ns root).2)), (9, .slice B7 ((bI ns root).1.length) (c8))] [] ?_
  refine NN (af.seq (SR ?_))
  refine gK 2 [(50, .bool (!(decide (((bI ns root).2 : Int) = (0 : Int)))))] [] ?_
  refine NN ?_
  refine af.ct (p := ((bI ns root).2 : Int) = (0 : Int)) (fun _ => by kernel_rfl) (fun h50 => ?_) (fun h50 => ?_)
  ·refine SR ?_
   refine gK 1 [(6, .bool true)] [] ?_
   refine NN (af.ret (ai.aq ?_))
   exact ai.Iw (v := .bool true) (l := []) (aU := []) [] [6] hle0 (fun _ => by kernel_rfl) trivial rfl (by kernel_rfl) (rfl)
  have hu : (bI ns root).2 = 0 := by omega
  refine af.skip (NX (SR ?_))
  refine gK 1 [(51, .slice A1 (xs.length) (c1))] [] ?_
  refine gL [] (Nv A1 c1 xs hxc) ?_
  rintro _ _ ⟨n, hn, rfl, rfl⟩
  refine gK 1 [(2, .slice A1 (n) (c1))] [] ?_
  refine NS ?_
  refine gK 3 [(53, vP f), (55, .agg #[vI 1, vI 0, vI (root), .string ⟨#[]⟩, .string ⟨#[]⟩, .slice none (0) (0), vI 0, vI 0, vI 0, vI 0, vI 0, vI 0, vI 0])] [] ?_
  refine gL [0, 1, 2, 3, 4, 5] (C8 (β := yZ) N.1 L f m t N.2.full ⟨1, 0, root, ⟨#[]⟩, ⟨#[]⟩, none, 0, [], 0, 0, 0, 0, 0, 0, 0⟩ (vG (by show (Lit.int .i64 0).wf = true; decide) hrw (Nat.zero_le _) (Nat.zero_le _) rfl)) ?_
  rintro _ _ ⟨L1, rfl, rfl⟩
  refine NN (af.seq (SR ?_))
  refine gK 1 [(10, vI 0)] [] ?_
  refine NN (af.block ?_)
  refine af.J5 (ι := Nat × Bs × aG × HL) (fun ((i, b, S, L) : Nat × Bs × aG × HL) => b) (fun ((i, b, S, L) : Nat × Bs × aG × HL) => (i ≤ n) ∧ ((B0 W).le b) ∧ (cq b A1 xs) ∧ (jb b) ∧ (Inv S) ∧ (aA b A ns Y) ∧ (dI b B7 (fK (bI ns root).1)) ∧ (bZ (Bo ns root N.1.X.last) N.1 S)) (fun ((i, b, S, L) : Nat × Bs × aG × HL) => n - i) (fun ((i, b, S, L) : Nat × Bs × aG × HL) => [(1, vI (root)), (2, .slice A1 (n) (c1)), (3, vP b1), (7, vP f), (9, .slice B7 ((bI ns root).1.length) (c8)), (10, vI ↑i)]) (fun ((i, b, S, L) : Nat × Bs × aG × HL) => [.blk b1 [.slice A (ns.length) (c), vI (X.cN), vI (X.cB), vI (X.cH), vI (X.cS), vI (X.cZ)] 30, pF f m t S.X, pI m L S.idx, pT t S.X.cH S.av L S.us, pO S.O L, pD S.O L, pE S.O L, .abs R]) (0, yZ, (doM N.1 ⟨1, 0, root, ⟨#[]⟩, ⟨#[]⟩, none, 0, [], 0, 0, 0, 0, 0, 0, 0⟩).1, L1) rfl (idx := [1, 2, 3, 7, 9, 10]) (pk := [7, 0, 1, 2, 3, 4, 5, 6]) (show (0 ≤ n) ∧ ((B0 W).le yZ) ∧ (cq yZ A1 xs) ∧ (jb yZ) ∧ (Inv ((doM N.1 ⟨1, 0, root, ⟨#[]⟩, ⟨#[]⟩, none, 0, [], 0, 0, 0, 0, 0, 0, 0⟩).1)) ∧ (aA yZ A ns Y) ∧ (dI yZ B7 (fK (bI ns root).1)) ∧ (bZ (Bo ns root N.1.X.last) N.1 ((doM N.1 ⟨1, 0, root, ⟨#[]⟩, ⟨#[]⟩, none, 0, [], 0, 0, 0, 0, 0, 0, 0⟩).1)) from ⟨Nat.zero_le _, hle0, hS, hg, N.2.full.doM _, hG, hU, (F5 N.2 Ak.2 hu).opM N.2.full (fun _ t ht => xD hu _ (N.2.full.toInv0.idx _ _ ht).1)⟩) (fun _ => by kernel_rfl) rfl (by kernel_rfl) ?_
  rintro ⟨i, b, S, L⟩ ⟨hi, hle0, hS, hg, hI, hG, hU, hC⟩
  show af _ b _ _ [(1, vI (root)), (2, .slice A1 (n) (c1)), (3, vP b1), (7, vP f), (9, .slice B7 ((bI ns root).1.length) (c8)), (10, vI ↑i)] [.blk b1 [.slice A (ns.length) (c), vI (X.cN), vI (X.cB), vI (X.cH), vI (X.cS), vI (X.cZ)] 30, pF f m t S.X, pI m L S.idx, pT t S.X.cH S.av L S.us, pO S.O L, pD S.O L, pE S.O L, .abs R] _
  refine af.seq (SR ?_)
  refine gK 4 [(60, .bool (decide ((((i : Nat) : Int) : Int) < (((n : Nat) : Int) : Int))))] [] ?_
  refine NN ?_
  refine af.bn (p := (((i : Nat) : Int) : Int) < (((n : Nat) : Int) : Int)) (fun _ => by kernel_rfl) (fun Gl => ?_) (fun Gl => ?_)
  ·refine af.skip (NX (af.seq (af.block (SR ?_))))
   refine gN 6 (fun b10 => [(11, vP b10)]) (fun b10 => [(2, p_ ⟨[], some i, none, some ⟨(au A1), ar A1, none⟩, none⟩ [((i : Nat) : Int) = ((i : Nat) : Int), i < n, (⟨(au A1), ar A1, none⟩ : Addr).spot = none, (A1 : Option Addr) = some ⟨(au A1), ar A1, none⟩] ⟨rfl, by omega, rfl, cq.hd hS (i := i) (by omega), trivial⟩), (3, p_ ⟨[.old (.int .i64 ((aV xs i).c.op)), .old (.int .i64 ((aV xs i).c.handle)), .old (.int .i64 ((aV xs i).c.other)), .old (.string (aV xs i).c.name), .old (.string (aV xs i).c.text), .old (.slice (aV xs i).c.dA ((aV xs i).c.data.length) ((aV xs i).c.dC)), .old (.int .i64 ((aV xs i).c.mode)), .old (.int .i64 ((aV xs i).c.uid)), .old (.int .i64 ((aV xs i).c.gid)), .old (.int .i64 ((aV xs i).c.sec)), .old (.int .i64 ((aV xs i).c.nano)), .old (.int .i64 ((aV xs i).c.code)), .old (.int .i64 ((aV xs i).c.answer)), .old (.int .i64 ((aV xs i).a.at_)), .old (.int .i64 ((aV xs i).a.op)), .old (.string (aV xs i).a.path), .old (.string (aV xs i).a.to), .old (.string (aV xs i).a.text), .old (.int .i64 ((aV xs i).root))], none, none, none, none⟩ [(Rd b ⟨(au A1), ar A1 + i * 19 + 18, none⟩ (.int .i64 ((aV xs i).root))), (Rd b ⟨(au A1), ar A1 + i * 19 + 17, none⟩ (.string (aV xs i).a.text)), (Rd b ⟨(au A1), ar A1 + i * 19 + 16, none⟩ (.string (aV xs i).a.to)), (Rd b ⟨(au A1), ar A1 + i * 19 + 15, none⟩ (.string (aV xs i).a.path)), (Rd b ⟨(au A1), ar A1 + i * 19 + 14, none⟩ (.int .i64 ((aV xs i).a.op))), (Rd b ⟨(au A1), ar A1 + i * 19 + 13, none⟩ (.int .i64 ((aV xs i).a.at_))), (Rd b ⟨(au A1), ar A1 + i * 19 + 12, none⟩ (.int .i64 ((aV xs i).c.answer))), (Rd b ⟨(au A1), ar A1 + i * 19 + 11, none⟩ (.int .i64 ((aV xs i).c.code))), (Rd b ⟨(au A1), ar A1 + i * 19 + 10, none⟩ (.int .i64 ((aV xs i).c.nano))), (Rd b ⟨(au A1), ar A1 + i * 19 + 9, none⟩ (.int .i64 ((aV xs i).c.sec))), (Rd b ⟨(au A1), ar A1 + i * 19 + 8, none⟩ (.int .i64 ((aV xs i).c.gid))), (Rd b ⟨(au A1), ar A1 + i * 19 + 7, none⟩ (.int .i64 ((aV xs i).c.uid))), (Rd b ⟨(au A1), ar A1 + i * 19 + 6, none⟩ (.int .i64 ((aV xs i).c.mode))), (Rd b ⟨(au A1), ar A1 + i * 19 + 5, none⟩ (.slice (aV xs i).c.dA ((aV xs i).c.data.length) ((aV xs i).c.dC))), (Rd b ⟨(au A1), ar A1 + i * 19 + 4, none⟩ (.string (aV xs i).c.text)), (Rd b ⟨(au A1), ar A1 + i * 19 + 3, none⟩ (.string (aV xs i).c.name)), (Rd b ⟨(au A1), ar A1 + i * 19 + 2, none⟩ (.int .i64 ((aV xs i).c.other))), (Rd b ⟨(au A1), ar A1 + i * 19 + 1, none⟩ (.int .i64 ((aV xs i).c.handle))), (Rd b ⟨(au A1), ar A1 + i * 19, none⟩ (.int .i64 ((aV xs i).c.op)))] ⟨cq.rd hS (i := i) (by omega) (j := 18) rfl, cq.rd hS (i := i) (by omega) (j := 17) rfl, cq.rd hS (i := i) (by omega) (j := 16) rfl, cq.rd hS (i := i) (by omega) (j := 15) rfl, cq.rd hS (i := i) (by omega) (j := 14) rfl, cq.rd hS (i := i) (by omega) (j := 13) rfl, cq.rd hS (i := i) (by omega) (j := 12) rfl, cq.rd hS (i := i) (by omega) (j := 11) rfl, cq.rd hS (i := i) (by omega) (j := 10) rfl, cq.rd hS (i := i) (by omega) (j := 9) rfl, cq.rd hS (i := i) (by omega) (j := 8) rfl, cq.rd hS (i := i) (by omega) (j := 7) rfl, cq.rd hS (i := i) (by omega) (j := 6) rfl, cq.rd hS (i := i) (by omega) (j := 5) rfl, cq.rd hS (i := i) (by omega) (j := 4) rfl, cq.rd hS (i := i) (by omega) (j := 3) rfl, cq.rd hS (i := i) (by omega) (j := 2) rfl, cq.rd hS (i := i) (by omega) (j := 1) rfl, cq.rd hS (i := i) (by omega) (j := 0) rfl, trivial⟩), (5, A_ 8 b10 19)]) (fun _ => []) (fun b10 => .blk b10 [vI ((aV xs i).c.op), vI ((aV xs i).c.handle), vI ((aV xs i).c.other), .string (aV xs i).c.name, .string (aV xs i).c.text, .slice (aV xs i).c.dA ((aV xs i).c.data.length) ((aV xs i).c.dC), vI ((aV xs i).c.mode), vI ((aV xs i).c.uid), vI ((aV xs i).c.gid), vI ((aV xs i).c.sec), vI ((aV xs i).c.nano), vI ((aV xs i).c.code), vI ((aV xs i).c.answer), vI ((aV xs i).a.at_), vI ((aV xs i).a.op), .string (aV xs i).a.path, .string (aV xs i).a.to, .string (aV xs i).a.text, vI ((aV xs i).root)] 47) (fun b10 => ?_)
   refine NS ?_
   refine gC 3 [] [(2, a_ 8 b10)] [(8, [(18, vI (root))])] ?_
   refine NN (af.seq (SR ?_))
   refine gK 4 [(72, .bool (decide (((aV xs i).c.op : Int) = (1 : Int))))] [(2, a_ 8 b10)] ?_
   refine NN ?_
   refine af.bn (p := ((aV xs i).c.op : Int) = (1 : Int)) (fun _ => by kernel_rfl) (fun Pm => ?_) (fun Pm => ?_)
   ·refine af.region ?_
    refine gC 4 [] [(3, a_ 8 b10)] [(8, [(2, vI (root))])] ?_
    refine NN (af.region ?_)
    refine gK 2 [(76, vP f), (77, .agg #[vI ((aV xs i).c.op), vI ((aV xs i).c.handle), vI (root), .string (aV xs i).c.name, .string (aV xs i).c.text, .slice (aV xs i).c.dA ((aV xs i).c.data.length) ((aV xs i).c.dC), vI ((aV xs i).c.mode), vI ((aV xs i).c.uid), vI ((aV xs i).c.gid), vI ((aV xs i).c.sec), vI ((aV xs i).c.nano), vI ((aV xs i).c.code), vI ((aV xs i).c.answer), vI ((aV xs i).a.at_), vI ((aV xs i).a.op), .string (aV xs i).a.path, .string (aV xs i).a.to, .string (aV xs i).a.text, vI (root)])] [(1, A_ 8 b10 19)] ?_
    refine aj.lK (d := (some 78)) (R := [.blk b1 [.slice A (ns.length) (c), vI (X.cN), vI (X.cB), vI (X.cH), vI (X.cS), vI (X.cZ)] 30, .abs R, .blk b10 [vI ((aV xs i).c.op), vI ((aV xs i).c.handle), vI (root), .string (aV xs i).c.name, .string (aV xs i).c.text, .slice (aV xs i).c.dA ((aV xs i).c.data.length) ((aV xs i).c.dC), vI ((aV xs i).c.mode), vI ((aV xs i).c.uid), vI ((aV xs i).c.gid), vI ((aV xs i).c.sec), vI ((aV xs i).c.nano), vI ((aV xs i).c.code), vI ((aV xs i).c.answer), vI ((aV xs i).a.at_), vI ((aV xs i).a.op), .string (aV xs i).a.path, .string (aV xs i).a.to, .string (aV xs i).a.text, vI (root)] 47]) (pk := [1, 2, 3, 4, 5, 6, 0, 7, 8]) (fun _ => by kernel_rfl) (EG (β := b) S L f m t hI ({ (aV xs i) with root := root, c := { (aV xs i).c with other := root } }) (let h := hS.st i (by omega); ⟨h.data, h.len, h.name, h.text, h.path, h.to, h.txt, h.hw, hrw, hrw⟩) hg) rfl (by kernel_rfl) ?_
    rintro xC _ _ kH ⟨L2, S2, e, hp, rfl, rfl⟩
    replace hG := hG.le kH
    replace hS := hS.le kH
    replace hg := hg.le kH
    replace hU := hU.le kH
    replace hle0 := hle0.trans kH
    refine NL (ai.aL (NX (af.region ?_)))
    refine gK 3 [(10, vI ↑(i + 1))] [(1, p_ ⟨[], none, none, none, some (vI ↑(i + 1))⟩ [(Value.int .i64 (IntKind.wrap .i64 (((i : Nat) : Int) + 1))) = (.int .i64 ↑(i + 1))] ⟨bE (by omega) (by omega) (by omega), trivial⟩)] ?_
    refine NL ?_
    exact ai.EJ ((i + 1), xC, S2, L2) (hb := rfl) (idx := [1, 2, 3, 7, 9, 10]) (pk := [6, 0, 1, 2, 3, 4, 5, 7]) (show (((i + 1)) ≤ n) ∧ ((B0 W).le xC) ∧ (cq xC A1 xs) ∧ (jb xC) ∧ (Inv S2) ∧ (aA xC A ns Y) ∧ (dI xC B7 (fK (bI ns root).1)) ∧ (bZ (Bo ns root N.1.X.last) N.1 S2) from ⟨by omega, hle0, hS, hg, (hp.inv hI), hG, hU, hC.play (x := { (aV xs i) with root := root, c := { (aV xs i).c with other := root } }) hI (root := root) rfl (fun _ => rfl) (fun k e => xD hu k e) hp⟩) (by show n - ((i + 1)) < n - i; omega) (fun _ => by kernel_rfl) rfl (by kernel_rfl)
   refine af.skip (NX (af.region ?_))
   refine gK 2 [(76, vP f), (77, .agg #[vI ((aV xs i).c.op), vI ((aV xs i).c.handle), vI ((aV xs i).c.other), .string (aV xs i).c.name, .string (aV xs i).c.text, .slice (aV xs i).c.dA ((aV xs i).c.data.length) ((aV xs i).c.dC), vI ((aV xs i).c.mode), vI ((aV xs i).c.uid), vI ((aV xs i).c.gid), vI ((aV xs i).c.sec), vI ((aV xs i).c.nano), vI ((aV xs i).c.code), vI ((aV xs i).c.answer), vI ((aV xs i).a.at_), vI ((aV xs i).a.op), .string (aV xs i).a.path, .string (aV xs i).a.to, .string (aV xs i).a.text, vI (root)])] [(1, A_ 8 b10 19)] ?_
   refine aj.lK (d := (some 78)) (R := [.blk b1 [.slice A (ns.length) (c), vI (X.cN), vI (X.cB), vI (X.cH), vI (X.cS), vI (X.cZ)] 30, .abs R, .blk b10 [vI ((aV xs i).c.op), vI ((aV xs i).c.handle), vI ((aV xs i).c.other), .string (aV xs i).c.name, .string (aV xs i).c.text, .slice (aV xs i).c.dA ((aV xs i).c.data.length) ((aV xs i).c.dC), vI ((aV xs i).c.mode), vI ((aV xs i).c.uid), vI ((aV xs i).c.gid), vI ((aV xs i).c.sec), vI ((aV xs i).c.nano), vI ((aV xs i).c.code), vI ((aV xs i).c.answer), vI ((aV xs i).a.at_), vI ((aV xs i).a.op), .string (aV xs i).a.path, .string (aV xs i).a.to, .string (aV xs i).a.text, vI (root)] 47]) (pk := [1, 2, 3, 4, 5, 6, 0, 7, 8]) (fun _ => by kernel_rfl) (EG (β := b) S L f m t hI ({ (aV xs i) with root := root }) (let h := hS.st i (by omega); ⟨h.data, h.len, h.name, h.text, h.path, h.to, h.txt, h.hw, h.ow, hrw⟩) hg) rfl (by kernel_rfl) ?_
   rintro Al _ _ qD ⟨L2, S2, e, hp, rfl, rfl⟩
   replace hG := hG.le qD
   replace hS := hS.le qD
   replace hg := hg.le qD
   replace hU := hU.le qD
   replace hle0 := hle0.trans qD
   refine NL (ai.aL (NX (af.region ?_)))
   refine gK 3 [(10, vI ↑(i + 1))] [(1, p_ ⟨[], none, none, none, some (vI ↑(i + 1))⟩ [(Value.int .i64 (IntKind.wrap .i64 (((i : Nat) : Int) + 1))) = (.int .i64 ↑(i + 1))] ⟨bE (by omega) (by omega) (by omega), trivial⟩)] ?_
   refine NL ?_
   exact ai.EJ ((i + 1), Al, S2, L2) (hb := rfl) (idx := [1, 2, 3, 7, 9, 10]) (pk := [6, 0, 1, 2, 3, 4, 5, 7]) (show (((i + 1)) ≤ n) ∧ ((B0 W).le Al) ∧ (cq Al A1 xs) ∧ (jb Al) ∧ (Inv S2) ∧ (aA Al A ns Y) ∧ (dI Al B7 (fK (bI ns root).1)) ∧ (bZ (Bo ns root N.1.X.last) N.1 S2) from ⟨by omega, hle0, hS, hg, (hp.inv hI), hG, hU, hC.play (x := { (aV xs i) with root := root }) hI (root := root) rfl (fun e => absurd e Pm) (fun k e => xD hu k e) hp⟩) (by show n - ((i + 1)) < n - i; omega) (fun _ => by kernel_rfl) rfl (by kernel_rfl)
  refine af.exit (ai.aT (ai.aT (ai.bX (NX (SR ?_)))))
  have hgl := JW hI.toInv0
  have hnl := vJ hB
  have nD := Iq ns root
  refine gK 1 [(79, vP f)] [] ?_
  refine aj.lK (d := (some 80)) (R := [.blk b1 [.slice A (ns.length) (c), vI (X.cN), vI (X.cB), vI (X.cH), vI (X.cS), vI (X.cZ)] 30, pT t S.X.cH S.av L S.us, .abs R]) (pk := [1, 2, 4, 5, 6, 0, 3, 7]) (fun _ => by kernel_rfl) (y8 (β := b) (S := S) (L := L) (f := f) (m := m) (t := t) hI) rfl (by kernel_rfl) ?_
  rintro iq _ _ qE ⟨eY, c14, mK, rfl, rfl, hH⟩
  replace hG := hG.le qE
  replace hS := hS.le qE
  replace hg := hg.le qE
  replace hU := hU.le qE
  replace hle0 := hle0.trans qE
  refine gN 2 (fun b17 => [(12, vP b17)]) (fun b17 => [(1, a_ 8 b17)]) (fun _ => []) (fun b17 => .blk b17 [.slice eY ((ax S).length) (c14)] 24) (fun b17 => ?_)
  refine NN (af.seq (SR ?_))
  refine gK 1 [(13, vI 0)] [] ?_
  refine NN (af.block ?_)
  refine af.loop (ι := Nat) (fun (q : Nat) => (q ≤ ns.length)) (fun (q : Nat) => ns.length - q) (fun (q : Nat) => [(3, vP b1), (9, .slice B7 ((bI ns root).1.length) (c8)), (12, vP b17), (13, vI ↑q)]) (fun (q : Nat) => [pF f m t S.X, pI m L S.idx, pO S.O L, pD S.O L, pE S.O L, .blk b1 [.slice A (ns.length) (c), vI (X.cN), vI (X.cB), vI (X.cH), vI (X.cS), vI (X.cZ)] 30, pT t S.X.cH S.av L S.us, .abs R, .blk b17 [.slice eY ((ax S).length) (c14)] 24]) 0 (idx := [3, 9, 12, 13]) (pk := [0, 1, 2, 3, 4, 5, 6, 7, 8]) (show (0 ≤ ns.length) from Nat.zero_le _) (fun _ => by kernel_rfl) rfl (by kernel_rfl) ?_
  rintro q hq
  show af _ _ _ _ [(3, vP b1), (9, .slice B7 ((bI ns root).1.length) (c8)), (12, vP b17), (13, vI ↑q)] [pF f m t S.X, pI m L S.idx, pO S.O L, pD S.O L, pE S.O L, .blk b1 [.slice A (ns.length) (c), vI (X.cN), vI (X.cB), vI (X.cH), vI (X.cS), vI (X.cZ)] 30, pT t S.X.cH S.av L S.us, .abs R, .blk b17 [.slice eY ((ax S).length) (c14)] 24] _
  refine af.seq (SR ?_)
  refine gK 6 [(86, .bool (decide ((((q : Nat) : Int) : Int) < (((ns.length : Nat) : Int) : Int))))] [(3, a_ 5 b1)] ?_
  refine NN ?_
  refine af.bn (p := (((q : Nat) : Int) : Int) < (((ns.length : Nat) : Int) : Int)) (fun _ => by kernel_rfl) (fun Q5 => ?_) (fun Q5 => ?_)
  ·refine af.skip (NX (af.seq (af.block (SR ?_))))
   refine gK 1 [(14, .bool false)] [] ?_
   refine NN (af.seq (SR ?_))
   refine gK 1 [(15, vI 0)] [] ?_
   refine NN (af.block ?_)
   refine af.loop (ι := Nat × Bool) (fun ((z, fl) : Nat × Bool) => (z ≤ (bI ns root).1.length) ∧ (jr (bI ns root).1 (nd ns q).id z fl)) (fun ((z, fl) : Nat × Bool) => (bI ns root).1.length - z) (fun ((z, fl) : Nat × Bool) => [(3, vP b1), (9, .slice B7 ((bI ns root).1.length) (c8)), (12, vP b17), (13, vI ↑q), (14, .bool fl), (15, vI ↑z)]) (fun ((z, fl) : Nat × Bool) => [pF f m t S.X, pI m L S.idx, pO S.O L, pD S.O L, pE S.O L, .blk b1 [.slice A (ns.length) (c), vI (X.cN), vI (X.cB), vI (X.cH), vI (X.cS), vI (X.cZ)] 30, pT t S.X.cH S.av L S.us, .abs R, .blk b17 [.slice eY ((ax S).length) (c14)] 24]) (0, false) (idx := [3, 9, 12, 13, 14, 15]) (pk := [0, 1, 2, 3, 4, 5, 6, 7, 8]) (show (0 ≤ (bI ns root).1.length) ∧ (jr (bI ns root).1 (nd ns q).id 0 false) from ⟨Nat.zero_le _, jr.zero _ _⟩) (fun _ => by kernel_rfl) rfl (by kernel_rfl) ?_
   rintro ⟨z, fl⟩ ⟨hzz, hcm⟩
   show af _ _ _ _ [(3, vP b1), (9, .slice B7 ((bI ns root).1.length) (c8)), (12, vP b17), (13, vI ↑q), (14, .bool fl), (15, vI ↑z)] [pF f m t S.X, pI m L S.idx, pO S.O L, pD S.O L, pE S.O L, .blk b1 [.slice A (ns.length) (c), vI (X.cN), vI (X.cB), vI (X.cH), vI (X.cS), vI (X.cZ)] 30, pT t S.X.cH S.av L S.us, .abs R, .blk b17 [.slice eY ((ax S).length) (c14)] 24] _
   refine af.seq (SR ?_)
   refine gK 4 [(92, .bool (decide ((((z : Nat) : Int) : Int) < ((((bI ns root).1.length : Nat) : Int) : Int))))] [] ?_
   refine NN ?_
   refine af.bn (p := (((z : Nat) : Int) : Int) < ((((bI ns root).1.length : Nat) : Int) : Int)) (fun _ => by kernel_rfl) (fun Q6 => ?_) (fun Q6 => ?_)
   ·refine af.skip (NX (af.seq (af.block (af.seq ?_))))
    refine af.bC (by kernel_rfl) (by kernel_rfl) ?_
    refine gQ 12 [(106, .bool (decide ((((bI ns root).1.getD z 0) : Int) = ((nd ns q).id : Int))))] [(2, p_ ⟨[], some z, none, some ⟨(au B7), ar B7, none⟩, none⟩ [((z : Nat) : Int) = ((z : Nat) : Int), z < (bI ns root).1.length, (⟨(au B7), ar B7, none⟩ : Addr).spot = none, (B7 : Option Addr) = some ⟨(au B7), ar B7, none⟩] ⟨rfl, by omega, rfl, vH.hd (l := (bI ns root).1) hU (j := z) (by omega), trivial⟩), (3, p_ ⟨[.old (.int .i64 (((bI ns root).1.getD z 0)))], none, none, none, none⟩ [(Rd iq ⟨(au B7), ar B7 + z * 1, none⟩ (.int .i64 (((bI ns root).1.getD z 0))))] ⟨vH.rd (l := (bI ns root).1) hU (j := z) (by omega), trivial⟩), (6, a_ 5 b1), (8, p_ ⟨[], some q, none, some ⟨(au A), ar A, none⟩, none⟩ [((q : Nat) : Int) = ((q : Nat) : Int), q < ns.length, (⟨(au A), ar A, none⟩ : Addr).spot = none, (A : Option Addr) = some ⟨(au A), ar A, none⟩] ⟨rfl, by omega, rfl, aA.hd hG (i := q) (by omega), trivial⟩), (10, p_ ⟨[.old (.int .i64 ((nd ns q).id))], none, none, none, none⟩ [(Rd iq ⟨(au A), ar A + q * 10, none⟩ (.int .i64 ((nd ns q).id)))] ⟨aA.rd hG (i := q) (by omega) (j := 0) rfl, trivial⟩)] ?_
    refine NQ (NX ?_)
    refine af.bn (p := (((bI ns root).1.getD z 0) : Int) = ((nd ns q).id : Int)) (fun _ => by kernel_rfl) (fun J2 => ?_) (fun J2 => ?_)
    ·refine af.region ?_
     refine gK 1 [(14, .bool true)] [] ?_
     refine NL (ai.aL (NX (af.region ?_)))
     refine gK 3 [(15, vI ↑(z + 1))] [(1, p_ ⟨[], none, none, none, some (vI ↑(z + 1))⟩ [(Value.int .i64 (IntKind.wrap .i64 (((z : Nat) : Int) + 1))) = (.int .i64 ↑(z + 1))] ⟨bE (by omega) (by omega) (by omega), trivial⟩)] ?_
     refine NL ?_
     exact ai.turn ((z + 1), true) (idx := [3, 9, 12, 13, 14, 15]) (pk := [0, 1, 2, 3, 4, 5, 6, 7, 8]) (show (((z + 1)) ≤ (bI ns root).1.length) ∧ (jr (bI ns root).1 (nd ns q).id ((z + 1)) true) from ⟨by omega, jr.hit J2⟩) (by show (bI ns root).1.length - ((z + 1)) < (bI ns root).1.length - z; omega) (fun _ => by kernel_rfl) rfl (by kernel_rfl)
    refine af.skip (ai.aL (NX (af.region ?_)))
    refine gK 3 [(15, vI ↑(z + 1))] [(1, p_ ⟨[], none, none, none, some (vI ↑(z + 1))⟩ [(Value.int .i64 (IntKind.wrap .i64 (((z : Nat) : Int) + 1))) = (.int .i64 ↑(z + 1))] ⟨bE (by omega) (by omega) (by omega), trivial⟩)] ?_
    refine NL ?_
    exact ai.turn ((z + 1), fl) (idx := [3, 9, 12, 13, 14, 15]) (pk := [0, 1, 2, 3, 4, 5, 6, 7, 8]) (show (((z + 1)) ≤ (bI ns root).1.length) ∧ (jr (bI ns root).1 (nd ns q).id ((z + 1)) fl) from ⟨by omega, hcm.miss J2⟩) (by show (bI ns root).1.length - ((z + 1)) < (bI ns root).1.length - z; omega) (fun _ => by kernel_rfl) rfl (by kernel_rfl)
   refine af.exit (ai.aT (ai.aT (ai.bX (NX (af.seq (SR ?_))))))
   refine gK 1 [(107, .bool fl)] [] ?_
   refine NN ?_
   refine af.cond (b := fl) (fun _ => by kernel_rfl) (fun NE => ?_) (fun NE => ?_)
   ·refine af.exit (ai.aT (ai.bX (NX (af.region ?_))))
    refine gK 3 [(13, vI ↑(q + 1))] [(1, p_ ⟨[], none, none, none, some (vI ↑(q + 1))⟩ [(Value.int .i64 (IntKind.wrap .i64 (((q : Nat) : Int) + 1))) = (.int .i64 ↑(q + 1))] ⟨bE (by omega) (by omega) (by omega), trivial⟩)] ?_
    refine NL ?_
    exact ai.turn ((q + 1)) (idx := [3, 9, 12, 13]) (pk := [0, 1, 2, 3, 4, 5, 6, 7, 8]) (show (((q + 1)) ≤ ns.length) from by omega) (by show ns.length - ((q + 1)) < ns.length - q; omega) (fun _ => by kernel_rfl) rfl (by kernel_rfl)
   have hno : (nd ns q).id ∉ (bI ns root).1 := (show jr (bI ns root).1 (nd ns q).id (bI ns root).1.length fl by rw [show (bI ns root).1.length = z by omega]; exact hcm).none (by revert NE; cases fl <;> decide)
   refine af.skip (NX (SR ?_))
   refine gK 1 [(16, .bool false)] [] ?_
   refine NN (af.seq (SR ?_))
   refine gK 1 [(17, vI 0)] [] ?_
   refine NN (af.block ?_)
   refine af.loop (ι := Nat × Bool) (fun ((j, kp) : Nat × Bool) => (j ≤ (ax S).length) ∧ (jt ns (ax S) q j kp)) (fun ((j, kp) : Nat × Bool) => (ax S).length - j) (fun ((j, kp) : Nat × Bool) => [(3, vP b1), (9, .slice B7 ((bI ns root).1.length) (c8)), (12, vP b17), (13, vI ↑q), (16, .bool kp), (17, vI ↑j)]) (fun ((j, kp) : Nat × Bool) => [pF f m t S.X, pI m L S.idx, pO S.O L, pD S.O L, pE S.O L, .blk b1 [.slice A (ns.length) (c), vI (X.cN), vI (X.cB), vI (X.cH), vI (X.cS), vI (X.cZ)] 30, pT t S.X.cH S.av L S.us, .abs R, .blk b17 [.slice eY ((ax S).length) (c14)] 24]) (0, false) (idx := [3, 9, 12, 13, 16, 17]) (pk := [0, 1, 2, 3, 4, 5, 6, 7, 8]) (show (0 ≤ (ax S).length) ∧ (jt ns (ax S) q 0 false) from ⟨Nat.zero_le _, jt.zero⟩) (fun _ => by kernel_rfl) rfl (by kernel_rfl) ?_
   rintro ⟨j, kp⟩ ⟨hj, hkp⟩
   show af _ _ _ _ [(3, vP b1), (9, .slice B7 ((bI ns root).1.length) (c8)), (12, vP b17), (13, vI ↑q), (16, .bool kp), (17, vI ↑j)] [pF f m t S.X, pI m L S.idx, pO S.O L, pD S.O L, pE S.O L, .blk b1 [.slice A (ns.length) (c), vI (X.cN), vI (X.cB), vI (X.cH), vI (X.cS), vI (X.cZ)] 30, pT t S.X.cH S.av L S.us, .abs R, .blk b17 [.slice eY ((ax S).length) (c14)] 24] _
   refine af.seq (SR ?_)
   refine gK 5 [(112, .bool (decide ((((j : Nat) : Int) : Int) < ((((ax S).length : Nat) : Int) : Int))))] [(2, a_ 8 b17)] ?_
   refine NN ?_
   refine af.bn (p := (((j : Nat) : Int) : Int) < ((((ax S).length : Nat) : Int) : Int)) (fun _ => by kernel_rfl) (fun Qf => ?_) (fun Qf => ?_)
   ·refine af.skip (NX (af.seq (af.block (af.seq ?_))))
    refine af.bC (by kernel_rfl) (by kernel_rfl) ?_
    refine gQ 14 [(128, .bool (decide (((nd (ax S) j).id : Int) = ((nd ns q).id : Int))))] [(1, a_ 8 b17), (3, p_ ⟨[], some j, none, some ⟨(au eY), ar eY, none⟩, none⟩ [((j : Nat) : Int) = ((j : Nat) : Int), j < (ax S).length, (⟨(au eY), ar eY, none⟩ : Addr).spot = none, (eY : Option Addr) = some ⟨(au eY), ar eY, none⟩] ⟨rfl, by omega, rfl, aA.hd hH (i := j) (by omega), trivial⟩), (5, p_ ⟨[.old (.int .i64 ((nd (ax S) j).id))], none, none, none, none⟩ [(Rd iq ⟨(au eY), ar eY + j * 10, none⟩ (.int .i64 ((nd (ax S) j).id)))] ⟨aA.rd hH (i := j) (by omega) (j := 0) rfl, trivial⟩), (8, a_ 5 b1), (10, p_ ⟨[], some q, none, some ⟨(au A), ar A, none⟩, none⟩ [((q : Nat) : Int) = ((q : Nat) : Int), q < ns.length, (⟨(au A), ar A, none⟩ : Addr).spot = none, (A : Option Addr) = some ⟨(au A), ar A, none⟩] ⟨rfl, by omega, rfl, aA.hd hG (i := q) (by omega), trivial⟩), (12, p_ ⟨[.old (.int .i64 ((nd ns q).id))], none, none, none, none⟩ [(Rd iq ⟨(au A), ar A + q * 10, none⟩ (.int .i64 ((nd ns q).id)))] ⟨aA.rd hG (i := q) (by omega) (j := 0) rfl, trivial⟩)] ?_
    refine NQ (NX ?_)
    refine af.bn (p := ((nd (ax S) j).id : Int) = ((nd ns q).id : Int)) (fun _ => by kernel_rfl) (fun h128 => ?_) (fun h128 => ?_)
    ·refine af.bC (by kernel_rfl) (by kernel_rfl) ?_
     refine gQ 11 [(133, .agg #[vI ((nd (ax S) j).id), vI ((nd (ax S) j).kind), vI ((nd (ax S) j).mode), vI ((nd (ax S) j).uid), vI ((nd (ax S) j).gid), vI ((nd (ax S) j).sec), vI ((nd (ax S) j).nano), .slice (mK.dA j) ((nd (ax S) j).data.length) ((mK.dC j)), .string (nd (ax S) j).target, .slice (mK.eA j) ((nd (ax S) j).ah.length) ((mK.eC j))]), (139, .agg #[vI ((nd ns q).id), vI ((nd ns q).kind), vI ((nd ns q).mode), vI ((nd ns q).uid), vI ((nd ns q).gid), vI ((nd ns q).sec), vI ((nd ns q).nano), .slice (Y.dA q) ((nd ns q).data.length) ((Y.dC q)), .string (nd ns q).target, .slice (Y.eA q) ((nd ns q).ah.length) ((Y.eC q))])] [(1, a_ 8 b17), (3, p_ ⟨[], some j, none, some ⟨(au eY), ar eY, none⟩, none⟩ [((j : Nat) : Int) = ((j : Nat) : Int), j < (ax S).length, (⟨(au eY), ar eY, none⟩ : Addr).spot = none, (eY : Option Addr) = some ⟨(au eY), ar eY, none⟩] ⟨rfl, by omega, rfl, aA.hd hH (i := j) (by omega), trivial⟩), (4, p_ ⟨[.old (.int .i64 ((nd (ax S) j).id)), .old (.int .i64 ((nd (ax S) j).kind)), .old (.int .i64 ((nd (ax S) j).mode)), .old (.int .i64 ((nd (ax S) j).uid)), .old (.int .i64 ((nd (ax S) j).gid)), .old (.int .i64 ((nd (ax S) j).sec)), .old (.int .i64 ((nd (ax S) j).nano)), .old (.slice (mK.dA j) ((nd (ax S) j).data.length) ((mK.dC j))), .old (.string (nd (ax S) j).target), .old (.slice (mK.eA j) ((nd (ax S) j).ah.length) ((mK.eC j)))], none, none, none, none⟩ [(Rd iq ⟨(au eY), ar eY + j * 10 + 9, none⟩ (.slice (mK.eA j) ((nd (ax S) j).ah.length) ((mK.eC j)))), (Rd iq ⟨(au eY), ar eY + j * 10 + 8, none⟩ (.string (nd (ax S) j).target)), (Rd iq ⟨(au eY), ar eY + j * 10 + 7, none⟩ (.slice (mK.dA j) ((nd (ax S) j).data.length) ((mK.dC j)))), (Rd iq ⟨(au eY), ar eY + j * 10 + 6, none⟩ (.int .i64 ((nd (ax S) j).nano))), (Rd iq ⟨(au eY), ar eY + j * 10 + 5, none⟩ (.int .i64 ((nd (ax S) j).sec))), (Rd iq ⟨(au eY), ar eY + j * 10 + 4, none⟩ (.int .i64 ((nd (ax S) j).gid))), (Rd iq ⟨(au eY), ar eY + j * 10 + 3, none⟩ (.int .i64 ((nd (ax S) j).uid))), (Rd iq ⟨(au eY), ar eY + j * 10 + 2, none⟩ (.int .i64 ((nd (ax S) j).mode))), (Rd iq ⟨(au eY), ar eY + j * 10 + 1, none⟩ (.int .i64 ((nd (ax S) j).kind))), (Rd iq ⟨(au eY), ar eY + j * 10, none⟩ (.int .i64 ((nd (ax S) j).id)))] ⟨aA.rd hH (i := j) (by omega) (j := 9) rfl, aA.rd hH (i := j) (by omega) (j := 8) rfl, aA.rd hH (i := j) (by omega) (j := 7) rfl, aA.rd hH (i := j) (by omega) (j := 6) rfl, aA.rd hH (i := j) (by omega) (j := 5) rfl, aA.rd hH (i := j) (by omega) (j := 4) rfl, aA.rd hH (i := j) (by omega) (j := 3) rfl, aA.rd hH (i := j) (by omega) (j := 2) rfl, aA.rd hH (i := j) (by omega) (j := 1) rfl, aA.rd hH (i := j) (by omega) (j := 0) rfl, trivial⟩), (7, a_ 5 b1), (9, p_ ⟨[], some q, none, some ⟨(au A), ar A, none⟩, none⟩ [((q : Nat) : Int) = ((q : Nat) : Int), q < ns.length, (⟨(au A), ar A, none⟩ : Addr).spot = none, (A : Option Addr) = some ⟨(au A), ar A, none⟩] ⟨rfl, by omega, rfl, aA.hd hG (i := q) (by omega), trivial⟩), (10, p_ ⟨[.old (.int .i64 ((nd ns q).id)), .old (.int .i64 ((nd ns q).kind)), .old (.int .i64 ((nd ns q).mode)), .old (.int .i64 ((nd ns q).uid)), .old (.int .i64 ((nd ns q).gid)), .old (.int .i64 ((nd ns q).sec)), .old (.int .i64 ((nd ns q).nano)), .old (.slice (Y.dA q) ((nd ns q).data.length) ((Y.dC q))), .old (.string (nd ns q).target), .old (.slice (Y.eA q) ((nd ns q).ah.length) ((Y.eC q)))], none, none, none, none⟩ [(Rd iq ⟨(au A), ar A + q * 10 + 9, none⟩ (.slice (Y.eA q) ((nd ns q).ah.length) ((Y.eC q)))), (Rd iq ⟨(au A), ar A + q * 10 + 8, none⟩ (.string (nd ns q).target)), (Rd iq ⟨(au A), ar A + q * 10 + 7, none⟩ (.slice (Y.dA q) ((nd ns q).data.length) ((Y.dC q)))), (Rd iq ⟨(au A), ar A + q * 10 + 6, none⟩ (.int .i64 ((nd ns q).nano))), (Rd iq ⟨(au A), ar A + q * 10 + 5, none⟩ (.int .i64 ((nd ns q).sec))), (Rd iq ⟨(au A), ar A + q * 10 + 4, none⟩ (.int .i64 ((nd ns q).gid))), (Rd iq ⟨(au A), ar A + q * 10 + 3, none⟩ (.int .i64 ((nd ns q).uid))), (Rd iq ⟨(au A), ar A + q * 10 + 2, none⟩ (.int .i64 ((nd ns q).mode))), (Rd iq ⟨(au A), ar A + q * 10 + 1, none⟩ (.int .i64 ((nd ns q).kind))), (Rd iq ⟨(au A), ar A + q * 10, none⟩ (.int .i64 ((nd ns q).id)))] ⟨aA.rd hG (i := q) (by omega) (j := 9) rfl, aA.rd hG (i := q) (by omega) (j := 8) rfl, aA.rd hG (i := q) (by omega) (j := 7) rfl, aA.rd hG (i := q) (by omega) (j := 6) rfl, aA.rd hG (i := q) (by omega) (j := 5) rfl, aA.rd hG (i := q) (by omega) (j := 4) rfl, aA.rd hG (i := q) (by omega) (j := 3) rfl, aA.rd hG (i := q) (by omega) (j := 2) rfl, aA.rd hG (i := q) (by omega) (j := 1) rfl, aA.rd hG (i := q) (by omega) (j := 0) rfl, trivial⟩)] ?_
     refine aR.call (f := 30) (args := #[.agg #[vI ((nd (ax S) j).id), vI ((nd (ax S) j).kind), vI ((nd (ax S) j).mode), vI ((nd (ax S) j).uid), vI ((nd (ax S) j).gid), vI ((nd (ax S) j).sec), vI ((nd (ax S) j).nano), .slice (mK.dA j) ((nd (ax S) j).data.length) ((mK.dC j)), .string (nd (ax S) j).target, .slice (mK.eA j) ((nd (ax S) j).ah.length) ((mK.eC j))], .agg #[vI ((nd ns q).id), vI ((nd ns q).kind), vI ((nd ns q).mode), vI ((nd ns q).uid), vI ((nd ns q).gid), vI ((nd ns q).sec), vI ((nd ns q).nano), .slice (Y.dA q) ((nd ns q).data.length) ((Y.dC q)), .string (nd ns q).target, .slice (Y.eA q) ((nd ns q).ah.length) ((Y.eC q))]]) (d := (some 140)) (pre := []) (R := [pF f m t S.X, pI m L S.idx, pO S.O L, pD S.O L, pE S.O L, .blk b1 [.slice A (ns.length) (c), vI (X.cN), vI (X.cB), vI (X.cH), vI (X.cS), vI (X.cZ)] 30, pT t S.X.cH S.av L S.us, .abs R, .blk b17 [.slice eY ((ax S).length) (c14)] 24]) (pk := [0, 1, 2, 3, 4, 5, 6, 7, 8]) (gJ := [0, 1, 2, 3, 4, 5, 6, 7, 8]) (v0 := .bool true) (fun _ => by kernel_rfl) ((DA (nd (ax S) j) (nd ns q) (mK.dA j) (mK.eA j) (Y.dA q) (Y.eA q) (mK.dC j) (mK.eC j) (Y.dC q) (Y.eC q) (hH.data j (by omega)) (hH.ah j (by omega)) (hG.data q (by omega)) (hG.ah q (by omega)) (Dt hI.toInv0 j (by omega)).1 (Dt hI.toInv0 j (by omega)).2).val (congrArg Value.bool (decide_eq_true (J1 N.2 Ak.2 hC hI.toInv0 (by omega) hno (by omega) h128)))) rfl (by kernel_rfl) rfl (by kernel_rfl) (fun _ _ h => h) ?_
     refine gQ 1 [(16, .bool true)] [] ?_
     refine NQ (ai.aL (NX (af.region ?_)))
     refine gK 3 [(17, vI ↑(j + 1))] [(1, p_ ⟨[], none, none, none, some (vI ↑(j + 1))⟩ [(Value.int .i64 (IntKind.wrap .i64 (((j : Nat) : Int) + 1))) = (.int .i64 ↑(j + 1))] ⟨bE (by omega) (by omega) (by omega), trivial⟩)] ?_
     refine NL ?_
     exact ai.turn ((j + 1), true) (idx := [3, 9, 12, 13, 16, 17]) (pk := [0, 1, 2, 3, 4, 5, 6, 7, 8]) (show (((j + 1)) ≤ (ax S).length) ∧ (jt ns (ax S) q ((j + 1)) true) from ⟨by omega, jt.hit h128⟩) (by show (ax S).length - ((j + 1)) < (ax S).length - j; omega) (fun _ => by kernel_rfl) rfl (by kernel_rfl)
    refine af.skip (ai.aL (NX (af.region ?_)))
    refine gK 3 [(17, vI ↑(j + 1))] [(1, p_ ⟨[], none, none, none, some (vI ↑(j + 1))⟩ [(Value.int .i64 (IntKind.wrap .i64 (((j : Nat) : Int) + 1))) = (.int .i64 ↑(j + 1))] ⟨bE (by omega) (by omega) (by omega), trivial⟩)] ?_
    refine NL ?_
    exact ai.turn ((j + 1), kp) (idx := [3, 9, 12, 13, 16, 17]) (pk := [0, 1, 2, 3, 4, 5, 6, 7, 8]) (show (((j + 1)) ≤ (ax S).length) ∧ (jt ns (ax S) q ((j + 1)) kp) from ⟨by omega, hkp.miss h128⟩) (by show (ax S).length - ((j + 1)) < (ax S).length - j; omega) (fun _ => by kernel_rfl) rfl (by kernel_rfl)
   refine af.exit (ai.aT (ai.aT (ai.bX (NX (SR ?_)))))
   refine gK 2 [(142, .bool (!kp))] [] ?_
   refine NN ?_
   refine af.cond (b := (!kp)) (fun _ => by kernel_rfl) (fun NG => ?_) (fun NG => ?_)
   ·exact absurd ((show jt ns (ax S) q (ax S).length kp by rw [show (ax S).length = j by omega]; exact hkp).all (Dw N.2 Ak.2 hC hI.toInv0 (by omega) hno)) (by revert NG; cases kp <;> decide)
   refine af.skip (ai.aL (NX (af.region ?_)))
   refine gK 3 [(13, vI ↑(q + 1))] [(1, p_ ⟨[], none, none, none, some (vI ↑(q + 1))⟩ [(Value.int .i64 (IntKind.wrap .i64 (((q : Nat) : Int) + 1))) = (.int .i64 ↑(q + 1))] ⟨bE (by omega) (by omega) (by omega), trivial⟩)] ?_
   refine NL ?_
   exact ai.turn ((q + 1)) (idx := [3, 9, 12, 13]) (pk := [0, 1, 2, 3, 4, 5, 6, 7, 8]) (show (((q + 1)) ≤ ns.length) from by omega) (by show ns.length - ((q + 1)) < ns.length - q; omega) (fun _ => by kernel_rfl) rfl (by kernel_rfl)
  refine af.exit (ai.aT (ai.aT (ai.bX (NX (SR ?_)))))
  refine gK 1 [(6, .bool true)] [] ?_
  refine NN (af.ret ?_)
  exact ai.Iw (v := .bool true) (l := []) (aU := []) [] [7] hle0 (fun _ => by kernel_rfl) trivial rfl (by kernel_rfl) (rfl)
 refine af.mY (S := [.blk b1 [.slice A (ns.length) (c), vI (X.cN), vI (X.cB), vI (X.cH), vI (X.cS), vI (X.cZ)] 30]) [(true, 0), (true, 1), (true, 3), (true, 4), (false, 2), (false, 5), (true, 6), (true, 7), (true, 8), (true, 9), (false, 10)] [1] (by kernel_rfl) (by kernel_rfl) rfl (by kernel_rfl) ?_
 refine fD.reads (l := [(false, 2), (false, 5), (true, 6), (true, 7), (true, 8), (true, 9), (false, 10)]) (fr' := [(1, vI (root)), (2, .slice A1 (xs.length) (c1)), (3, vP b1), (22, .agg #[.slice A (ns.length) (c)]), (25, .agg #[vI (X.cN), vI (X.cB), vI (X.cH), vI (X.cS), vI (X.cZ)])]) (aU := [b1 = b1, b1 = b1, b1 = b1, b1 = b1, b1 = b1, b1 = b1]) [0, 1, 3, 4] [o_, ⟨[.at 0], none, none, none, none⟩, o_, ⟨[.at 0, .at 0, .at 0, .at 0, .at 0], none, none, none, none⟩] [1, 2, 3, 22, 25] (fun _ => by kernel_rfl) ⟨rfl, rfl, rfl, rfl, rfl, rfl, trivial⟩ rfl ?_
 refine fD.cut (ι := (Option Addr) × Nat) (fr' := fun ((B, cp) : (Option Addr) × Nat) => [(1, vI (root)), (2, .slice A1 (xs.length) (c1)), (3, vP b1), (23, .agg #[.slice B (ns.length) (cp)]), (25, .agg #[vI (X.cN), vI (X.cB), vI (X.cH), vI (X.cS), vI (X.cZ)])]) (hp' := fun ((B, cp) : (Option Addr) × Nat) => [.abs (mW xR (fun β' => ∃ K, aA β' B ns K)), .abs R, .blk b1 [.slice A (ns.length) (c), vI (X.cN), vI (X.cB), vI (X.cH), vI (X.cS), vI (X.cZ)] 30]) [2] (by kernel_rfl) ?_ rfl (fun _ => by kernel_rfl) ?_
 ·refine gL [] (tQ (β := xR) A c ns Y hG (vJ hB) (za hB)) ?_
  rintro _ _ ⟨B, cp, rfl, rfl⟩
  refine NL ?_
  exact MD (B, cp) [1, 2, 3, 23, 25] [0, 1, 2]
 rintro ⟨B, cp⟩
 refine fD.cut (ι := KQ) (fr' := fun (e : KQ) => [(1, vI (root)), (2, .slice A1 (xs.length) (c1)), (3, vP b1), (26, .tuple #[.pointer none, vI (e.1)])]) (hp' := fun (e : KQ) => [.abs R, .blk b1 [.slice A (ns.length) (c), vI (X.cN), vI (X.cB), vI (X.cH), vI (X.cS), vI (X.cZ)] 30]) [1] (by kernel_rfl) ?_ rfl (fun _ => by kernel_rfl) ?_
 ·refine gL [0] (Ij (β := xR) (X := X) Ak B cp (vJ hB) (za hB) (Ie hB) (Ig hB)) ?_
  rintro _ _ ⟨e, rfl, rfl⟩
  refine NL ?_
  exact MD e [1, 2, 3, 26] [0, 1]
 rintro e
 refine fD.reads (l := [(false, 10)]) (fr' := [(1, vI (root)), (2, .slice A1 (xs.length) (c1)), (3, vP b1), (7, .pointer none), (28, vI (e.1))]) (aU := []) [6, 7, 8, 9] [o_, o_, o_, o_] [1, 2, 3, 7, 28] (fun _ => by kernel_rfl) trivial rfl ?_
 refine fD.last (by kernel_rfl) ?_
 refine gK 1 [(8, vI (e.1))] [] ?_
 refine NL (ai.np (NX (af.seq (SR ?_))))
 refine gK 3 [(31, .bool (!(decide ((e.1 : Int) = (0 : Int)))))] [] ?_
 refine aj.fM 31 ((e.1 : Int) = (0 : Int)) (fun _ => by kernel_rfl) (fun KR => ?_) (fun KR => ?_)
 ·refine gK 3 [(34, .bool true)] [] ?_
  refine NN ?_
  refine CT ?_
  refine SR ?_
  refine gK 7 [(6, .bool true)] [(4, p_ ⟨[], none, none, none, some (.bool true)⟩ [((.bool (!(decide ((e.1 : Int) = (0 : Int)))) : Value)) = (.bool true)] ⟨by simp [e.2], trivial⟩)] ?_
  refine NN (af.ret (ai.aq ?_))
  exact ai.Iw (v := .bool true) (l := []) (aU := []) [] [0] hle0 (fun _ => by kernel_rfl) trivial rfl (by kernel_rfl) (rfl)
 exact absurd KR e.2
end
section
open Go.RowKit
def Dx (h : Array Obj) (g : Nat) (cs : List Nat) : Array Obj := h.modify g fun
  | .cells _ t frozen => .cells (cs.map (fun (n : Nat) => Value.int .u8 n)).toArray t frozen
  | o => o
noncomputable def laidWorld (os : Os) : World :=
  { World.holding Tryz.prog os ⟨#[], #[], []⟩ with heap := Dx (Dx (World.holding Tryz.prog os ⟨#[], #[], []⟩).heap 1 Go.Pinned.utf8FirstZ) 2 ([128, 191, 160, 191, 128, 159, 144, 191, 128, 143] ++ List.replicate 22 0) }
theorem laidWorld_met (os : Os) (args : Array Value) : laidMetH Tryz.prog Rows.hfsRefusedUptoRow.laid ((laidWorld os).forCall (fun _ _ => 0) ⟨#[], args, []⟩).memory :=
  laidMetH_of_parts (laidMet_of_run3 8 (by kernel_rfl) (by kernel_rfl) (by kernel_rfl)) (by kernel_rfl)
theorem glob_ok {W : World} (h : W.ShapedOpen Tryz.prog) : jb (B0 W) := by
  obtain ⟨m, hm⟩ := cell_of_shapedOpen_int (g := 0) (t := 3) (zero := #[.int .i64 0]) (k := .i64) h (Nat.le_of_ble_eq_true (by kernel_rfl)) (by kernel_rfl) rfl (by kernel_rfl) (by kernel_rfl) Tryz.underlying3
  exact ⟨m, EF hm, hm⟩
end
end Go.Proofs.YtkiedlmhocglhaaGreatDoor
