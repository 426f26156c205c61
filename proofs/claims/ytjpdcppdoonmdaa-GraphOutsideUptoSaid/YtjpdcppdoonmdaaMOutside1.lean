/-
  PROVED HERE: lemmas and contracts of functions (texts of this repo, joined): Base, Sep, V, Vr, Vo, Vj, Vk, Vc, Vd, Vm, Va, Vb, Ve, G, GL, GT, GCopy, Vt.
  CONDITIONS: as the theorems say.
-/
import Derived.Test.YtjpdcppdoonmdaaProg
import Derived.WalkKit
import Derived.ChangeSame
import Derived.Lib.Hide
import Derived.Maps.OwnSet
import Derived.Maps.OwnOps
import Derived.Deep.Draws
import Derived.WalkSmall
import Derived.Deep.Quiet
import Derived.Deep.LoopGhost
import Derived.KernelRfl
import Derived.Laws.StructEq
import Derived.Maps.AppendAt
import Derived.Deep.Upon
import Derived.StillTail
/- part Base. PROVED HERE: general lemmas used by all texts of this seat: the row's last step over 'Below', a frame over a set of blocks ('Keeps'), maps read as functions ('MapIs'). CONDITIONS: none. No statement of the seat is proved here. -/
section
namespace Go.Proofs.Ytjpdcppdoonmdaa
open Go.RowKit Go.WideShapes Go.ChangeShapes

section post
variable {H : Type} {enc : TypeId × Value → H} {P : Program}
theorem post_of_below {f : Func} {s : ChangeSpec} {apart fresh handsOn again : Bool} {W W' : World} {args : Array Value} {v : Value} {ds gs : List (DataW H)} {before pa pv : List MemPlace}
    (hW : DataW.Whole enc P f.params.toList s.vars apart W args.toList ds gs before)
    (hres : ∀ (b : Nat) (sp : Nat → Bool) (hd : Bool), DataW.TrodAll enc P W' b sp hd f.resultTypes.toList (v.resultList f.resultTypes.size) (s.fn H (ds ++ gs)).results [])
    (hargs : ∀ sp : Nat → Bool, (∀ p ∈ before, sp p.block = true) → DataW.TrodAll enc P W' 0 sp true f.params.toList args.toList (s.fn H (ds ++ gs)).args pa)
    (hvars : ∀ sp : Nat → Bool, (∀ p ∈ before, sp p.block = true) → DataW.TrodVars enc P W' sp s.vars (s.fn H (ds ++ gs)).vars pv)
    (hps : before = pa ++ pv) (hb : Below W.heap.size W W')
    (hok : ∀ (j : Nat) (t : TypeId) (r : Value), f.resultTypes[j]? = some t → (v.resultList f.resultTypes.size)[j]? = some r → Value.okWide P W' .any 0 t r) :
    s.post enc P f apart fresh handsOn again W args v W' := by
  have hlt : ∀ p ∈ before, p.block < W.heap.size := fun p hp => hW.lt p hp
  have hold : ∀ p ∈ before, (fun b => decide (b < W.heap.size)) p.block = true := fun p hp => by simpa using hlt p hp
  refine ⟨ds, gs, before, [], pa, pv, hW, hres _ _ _, hargs _ hold, hvars _ hold, World.keptBut_mono (fun p hp => ⟨hp, ?_⟩) (hb.frame (· ∈ before)), fun _ => ?_⟩
  · rw [hps, List.mem_append] at hp
    exact Or.inr hp
  · obtain ⟨_, _, _, _, _, hz, hn⟩ := hW
    refine ⟨hok, _, _, ([] ++ pa) ++ pv, ⟨[] ++ pa, pv, trodAll_append (hargs _ (fun _ _ => rfl)) (hres _ _ _), hvars _ (fun _ _ => rfl), rfl, ?_, ?_⟩, ?_⟩
    · intro b off hp
      have hin : MemPlace.cell b off ∈ before := by rw [hps]; simpa using hp
      rw [hb.frozen (hlt _ hin)]
      exact hz b off hin
    · intro ha
      have := hn ha
      rw [hps] at this
      simpa using this
    · intro p hp _
      rw [hps]
      simpa using hp
end post

/-! ### the frame: of the blocks that were there, only those of 'S' may have turned -/
structure Keeps (S : Nat → Prop) (w w' : World) : Prop where
  os : w'.os = w.os
  tape : w'.tape = w.tape
  output : w'.output = w.output
  size : w.heap.size ≤ w'.heap.size
  block : ∀ k, k < w.heap.size → ¬ S k → w'.heap[k]? = w.heap[k]?

section keeps
variable {S S' : Nat → Prop} {a w w' : World}
theorem Keeps.refl (S : Nat → Prop) (w : World) : Keeps S w w := ⟨rfl, rfl, rfl, Nat.le_refl _, fun _ _ _ => rfl⟩
theorem Keeps.trans (h : Keeps S a w) (k : Keeps S w w') : Keeps S a w' :=
  ⟨k.os.trans h.os, k.tape.trans h.tape, k.output.trans h.output, Nat.le_trans h.size k.size, fun i hi hn => (k.block i (Nat.lt_of_lt_of_le hi h.size) hn).trans (h.block i hi hn)⟩
theorem Keeps.mono (h : Keeps S a w) (hs : ∀ k, k < a.heap.size → S k → S' k) : Keeps S' a w :=
  ⟨h.os, h.tape, h.output, h.size, fun i hi hn => h.block i hi (fun hk => hn (hs i hi hk))⟩
/-- two steps; the second may turn what was new behind the first -/
theorem Keeps.andThen (h : Keeps S a w) (k : Keeps S' w w') (hs : ∀ i, i < a.heap.size → S' i → S i) : Keeps S a w' :=
  ⟨k.os.trans h.os, k.tape.trans h.tape, k.output.trans h.output, Nat.le_trans h.size k.size, fun i hi hn => (k.block i (Nat.lt_of_lt_of_le hi h.size) (fun hk => hn (hs i hi hk))).trans (h.block i hi hn)⟩
theorem Keeps.drewN (h : Keeps S a w) (n : Nat) : Keeps S a (w.drewN n) := ⟨h.os, h.tape, h.output, h.size, h.block⟩
theorem Keeps.drew (h : Keeps S a w) : Keeps S a w.drew := ⟨h.os, h.tape, h.output, h.size, h.block⟩
theorem Keeps.alloc (h : Keeps S a w) (o : Obj) : Keeps S a (w.alloc o) :=
  ⟨h.os, h.tape, h.output, Nat.le_trans h.size (by simp), fun i hi hn => (Below.heap_alloc w o i (Nat.lt_of_lt_of_le hi h.size)).trans (h.block i hi hn)⟩
theorem Keeps.setCell (h : Keeps S a w) {p : Addr} (hp : a.heap.size ≤ p.block ∨ S p.block) (u : Value) : Keeps S a (w.setCell p u) :=
  ⟨h.os, h.tape, h.output, by simpa [World.setCell] using h.size, fun i hi hn => (Below.heap_setCell w p u i (by
    rintro rfl
    rcases hp with hp | hp
    · omega
    · exact hn hp)).trans (h.block i hi hn)⟩
theorem Keeps.grown {row : Option Nat} (h : Keeps S a w) (hg : w.grownBy w' row) (hr : ∀ k, row = some k → a.heap.size ≤ k ∨ S k) : Keeps S a w' :=
  ⟨hg.os.trans h.os, hg.tape.trans h.tape, hg.output.trans h.output, Nat.le_trans h.size hg.size, fun i hi hn =>
    (hg.block i (Nat.lt_of_lt_of_le hi h.size) (fun e => by
      rcases hr i e.symm with h1 | h1
      · omega
      · exact hn h1)).trans (h.block i hi hn)⟩
theorem Keeps.below {B : Nat} (h : Keeps S w w') (hB : ∀ k, S k → B ≤ k) (hz : B ≤ w.heap.size) : Below B w w' :=
  ⟨h.os, h.tape, h.output, h.size, fun k hk => h.block k (by omega) (fun hs => by have := hB k hs; omega)⟩
theorem Keeps.of_below {B : Nat} (h : Below B w w') (hs : ∀ k, k < w.heap.size → B ≤ k → S k) : Keeps S w w' :=
  ⟨h.os, h.tape, h.output, h.size, fun k hk hn => h.block k (by rcases Nat.lt_or_ge k B with hl | hl; exact hl; exact absurd (hs k hk hl) hn)⟩
theorem Keeps.cell (h : Keeps S w w') {p : Addr} (hp : p.block < w.heap.size) (hn : ¬ S p.block) : w'.cell? p = w.cell? p := World.cell?_of_block (w := w) (h.block p.block hp hn)
theorem Keeps.frozen (h : Keeps S w w') {p : Addr} (hp : p.block < w.heap.size) (hn : ¬ S p.block) : w'.frozen? p = w.frozen? p := World.frozen?_of_block (w := w) (h.block p.block hp hn)
theorem Keeps.ownsRow (h : Keeps S w w') {base : Nat} {e : TypeId} {size : Nat} {v : Value} {n : Nat} {xs : List Value} (ho : w.ownsRow base e size v n xs) (hn : ∀ k, v.ownBlock = some k → ¬ S k) : w'.ownsRow base e size v n xs := by
  have hl := ho.lt
  obtain ⟨h1, h2⟩ := ho
  refine ⟨h1, ?_⟩
  rcases h2 with h2 | ⟨g, cap, cur, hv, hg, hh, r⟩
  · exact Or.inl h2
  · have e : v.ownBlock = some g := by rw [hv]; rfl
    exact Or.inr ⟨g, cap, cur, hv, hg, (h.block g (hl g e).2 (hn g e)).trans hh, r⟩
theorem Keeps.ownsMap {H : Type} (h : Keeps S w w') {P : Program} {k : TypeId} {R : Value → Option (DataW H × List MemPlace)} {b n : Nat} {D : DataW H} (ho : w.ownsMap P k R b n D) (hn : ¬ S b) : w'.ownsMap P k R b n D := by
  have hlt := ho.lt
  obtain ⟨es, clock, hb, r⟩ := ho
  exact ⟨es, clock, (h.block b hlt hn).trans hb, r⟩
end keeps

/-! ### a map as a function -/
def heldR (v : Value) : Option (DataW Value × List MemPlace) := some (.held v, [])

/-- block b is a map of n entries that holds at each key what f says -/
def MapIs (P : Program) (K : TypeId) (w : World) (b : Nat) (f : Lit → Option Value) (n : Nat) : Prop :=
  ∃ D : DataW Value, w.ownsMap P K heldR b n D ∧ Maps.size D = n ∧ (∀ kl, Maps.has D kl = (f kl).isSome) ∧ ∀ kl v, f kl = some v → ∀ z, D.atKey kl z = .held v

def upd (f : Lit → Option Value) (kl : Lit) (v : Option Value) : Lit → Option Value := fun x => if x.sameKey kl then v else f x

section maps
open Go.Maps
variable {P : Program} {K E t : TypeId} {w w' : World} {b n : Nat} {f : Lit → Option Value}
theorem MapIs.made (w : World) (P : Program) (K : TypeId) : MapIs P K (w.alloc (.map #[] 0)) w.heap.size (fun _ => none) 0 :=
  ⟨.map [], World.ownsMap_made _ _ _ _, rfl, fun _ => rfl, fun _ _ h => by cases h⟩
theorem MapIs.lt (h : MapIs P K w b f n) : b < w.heap.size := let ⟨_, h1, _⟩ := h; h1.lt
theorem MapIs.keeps {S : Nat → Prop} (h : MapIs P K w b f n) (k : Keeps S w w') (hn : ¬ S b) : MapIs P K w' b f n := by
  obtain ⟨D, h1, h2⟩ := h
  exact ⟨D, k.ownsMap h1 hn, h2⟩
theorem MapIs.drewN (h : MapIs P K w b f n) (m : Nat) : MapIs P K (w.drewN m) b f n := h.keeps (S := fun _ => False) ((Keeps.refl _ _).drewN m) (fun h => h)
theorem MapIs.block (h : MapIs P K w b f n) : ∃ es clock, w.heap[b]? = some (.map es clock) := by
  obtain ⟨D, ⟨es, clock, hb, _⟩, _⟩ := h
  exact ⟨es, clock, hb⟩
theorem MapIs.not_cells (h : MapIs P K w b f n) {c : Array Value} {e : TypeId} {fz : Nat × Nat} {g : Nat} (hg : w.heap[g]? = some (.cells c e fz)) : b ≠ g := by
  obtain ⟨es, clock, hb⟩ := h.block
  rintro rfl
  rw [hb] at hg
  cases hg
theorem MapIs.len (h : MapIs P K w b f n) (ht : P.underlying t = some (.map K E)) (ty : TypeId) : (Builtin.len_ #[t] ty #[.map (some b)]).run P w = .ok (.int .i64 n) w := by
  obtain ⟨D, h1, h2, _⟩ := h
  rw [h1.len ht ty, h2]
theorem MapIs.look_ok (h : MapIs P K w b f n) (L : Keyed P K) (ht : P.underlying t = some (.map K E)) {z : Value} (hz : (zeroValue E).run P w = .ok z w) {key : Value} {kl : Lit} (hkey : keyOf P K key = some kl) :
    (Instr.lookup t (.map (some b)) key true).run P w = .ok (.tuple #[(f kl).getD z, .bool (f kl).isSome]) w := by
  obtain ⟨D, h1, _, h3, h4⟩ := h
  obtain ⟨v, ps, hrun, hv⟩ := h1.look_ok L ht hz (R := heldR) (zd := .held z) (zp := []) rfl hkey
  rw [hrun, h3 kl]
  simp only [heldR, Option.some.injEq, Prod.mk.injEq] at hv
  cases hf : f kl with
  | none =>
    have hn : Maps.has D kl = false := by rw [h3 kl, hf]; rfl
    rw [atKey_of_not_has hn] at hv
    have e : v = z := by simpa using hv.1
    simp [e]
  | some u =>
    rw [h4 kl u hf] at hv
    have e : v = u := by simpa using hv.1
    simp [e]
theorem MapIs.look (h : MapIs P K w b f n) (L : Keyed P K) (ht : P.underlying t = some (.map K E)) {z : Value} (hz : (zeroValue E).run P w = .ok z w) {key : Value} {kl : Lit} (hkey : keyOf P K key = some kl) :
    (Instr.lookup t (.map (some b)) key false).run P w = .ok ((f kl).getD z) w := by
  obtain ⟨D, h1, _, h3, h4⟩ := h
  obtain ⟨v, ps, hrun, hv⟩ := h1.lookup L ht hz (R := heldR) (zd := .held z) (zp := []) rfl hkey
  rw [hrun]
  simp only [heldR, Option.some.injEq, Prod.mk.injEq] at hv
  cases hf : f kl with
  | none =>
    have hn : Maps.has D kl = false := by rw [h3 kl, hf]; rfl
    rw [atKey_of_not_has hn] at hv
    have e : v = z := by simpa using hv.1
    simp [e]
  | some u =>
    rw [h4 kl u hf] at hv
    have e : v = u := by simpa using hv.1
    simp [e]
theorem keyLit_of {key : Value} {kl : Lit} (L : Keyed P K) (hkey : keyOf P K key = some kl) : WideAt.IsKeyLit kl := L.key hkey
theorem MapIs.store (h : MapIs P K w b f n) (L : Keyed P K) (ht : P.underlying t = some (.map K E)) (hn : n < maxLen) {key : Value} {kl : Lit} (hkey : keyOf P K key = some kl) (v : Value) :
    ∃ w', (Instr.mapUpdate t (.map (some b)) key v).run P w = .ok () w' ∧ MapIs P K w' b (upd f kl (some v)) (if (f kl).isSome then n else n + 1) ∧ Keeps (· = b) w w' := by
  obtain ⟨D, h1, h2, h3, h4⟩ := h
  obtain ⟨w', hrun, hown, hg⟩ := h1.update L ht hn hkey (val := v) (d := .held v) (ps := []) rfl
  have hkl := keyLit_of L hkey
  have hsz : Maps.size (D.put kl (.held v)) = if (f kl).isSome then n else n + 1 := by
    rw [size_put (h1.tidy L), h2, h3 kl]
  refine ⟨w', hrun, ⟨D.put kl (.held v), ?_, hsz, fun x => ?_, fun x u hx z => ?_⟩, (Keeps.refl _ _).grown hg (fun k hk => .inr (by cases hk; rfl))⟩
  · obtain ⟨es, clock, hb, F, hs, rD⟩ := hown
    exact ⟨es, clock, hb, F, by rw [← hsz, rD]; simp [Maps.size, length_sorted], rD⟩
  · unfold upd
    by_cases e : x = kl
    · subst e
      rw [has_put_same h1.isMap hkl]
      have : x.sameKey x = true := WideAt.sameKey_self hkl
      simp [this]
    · rw [has_put_other e, h3 x, sameKey_ne e]
      simp
  · unfold upd at hx
    by_cases e : x = kl
    · subst e
      rw [if_pos (WideAt.sameKey_self hkl)] at hx
      injection hx with hx
      rw [atKey_put_same h1.isMap hkl, hx]
    · rw [sameKey_ne e] at hx
      simp only [Bool.false_eq_true, if_false] at hx
      rw [atKey_put_other e]
      exact h4 x u hx z
theorem MapIs.drop (h : MapIs P K w b f n) (L : Keyed P K) (ht : P.underlying t = some (.map K E)) {key : Value} {kl : Lit} (hkey : keyOf P K key = some kl) (ty : TypeId) :
    ∃ w', (Builtin.delete_ #[t, K] ty #[.map (some b), key]).run P w = .ok (.tuple #[]) w' ∧ MapIs P K w' b (upd f kl none) (if (f kl).isSome then n - 1 else n) ∧ Keeps (· = b) w w' := by
  obtain ⟨D, h1, h2, h3, h4⟩ := h
  obtain ⟨w', hrun, hown, hg⟩ := h1.drop L ht hkey ty
  have hkl := keyLit_of L hkey
  have hsz : Maps.size (D.del kl) = if (f kl).isSome then n - 1 else n := by
    have := size_del (k := kl) (h1.tidy L)
    rw [h2, h3 kl] at this
    split at this <;> rename_i hc <;> simp [hc] <;> omega
  refine ⟨w', hrun, ⟨D.del kl, ?_, hsz, fun x => ?_, fun x u hx z => ?_⟩, (Keeps.refl _ _).grown hg.grown (fun k hk => .inr (by cases hk; rfl))⟩
  · obtain ⟨es, clock, hb, F, hs, rD⟩ := hown
    exact ⟨es, clock, hb, F, by rw [← hsz, rD]; simp [Maps.size, length_sorted], rD⟩
  · unfold upd
    by_cases e : x = kl
    · subst e
      rw [has_del_same]
      simp [WideAt.sameKey_self hkl]
    · rw [has_del_other e, h3 x, sameKey_ne e]
      simp
  · unfold upd at hx
    by_cases e : x = kl
    · subst e
      rw [if_pos (WideAt.sameKey_self hkl)] at hx
      cases hx
    · rw [sameKey_ne e] at hx
      simp only [Bool.false_eq_true, if_false] at hx
      rw [atKey_del_other e]
      exact h4 x u hx z
end maps
end Go.Proofs.Ytjpdcppdoonmdaa
end
/- part Sep. PROVED HERE: a small separation logic over blocks: what a part of memory is good for, with its footprint; parts with footprints apart from one another are kept by a step on one of them. CONDITIONS: none. -/
section
namespace Go.Proofs.Ytjpdcppdoonmdaa
open Go.RowKit

abbrev Fp := Nat → Prop
/-- a part of memory: what holds of it, over its footprint -/
structure Asn where
  h : Fp → World → Prop
  lt : ∀ {F w}, h F w → ∀ k, F k → k < w.heap.size
  st : ∀ {F w}, h F w → ∀ {S : Nat → Prop} {w' : World}, Keeps S w w' → (∀ k, F k → ¬ S k) → h F w'

/-- a step on footprint F: nothing else of old has turned; the footprint grows by new blocks alone -/
structure Step (F : Fp) (w : World) (F' : Fp) (w' : World) : Prop where
  keeps : Keeps F w w'
  grow : ∀ k, F' k → F k ∨ w.heap.size ≤ k

def Apart (F G : Fp) : Prop := ∀ k, F k → ¬ G k
def PD (l : List Fp) : Prop := l.Pairwise Apart

theorem Apart.symm {F G : Fp} (h : Apart F G) : Apart G F := fun k a b => h k b a
theorem Step.refl (F : Fp) (w : World) : Step F w F w := ⟨Keeps.refl _ _, fun _ h => .inl h⟩
theorem Step.trans {F G H : Fp} {a b c : World} (h : Step F a G b) (k : Step G b H c) : Step F a H c := by
  refine ⟨⟨k.keeps.os.trans h.keeps.os, k.keeps.tape.trans h.keeps.tape, k.keeps.output.trans h.keeps.output, Nat.le_trans h.keeps.size k.keeps.size, fun i hi hn => ?_⟩, fun i hi => ?_⟩
  · refine (k.keeps.block i (Nat.lt_of_lt_of_le hi h.keeps.size) (fun hg => ?_)).trans (h.keeps.block i hi hn)
    rcases h.grow i hg with e | e
    · exact hn e
    · omega
  · rcases k.grow i hi with e | e
    · exact h.grow i e
    · exact .inr (Nat.le_trans h.keeps.size e)
/-- a step that touches nothing of old is a step on any footprint -/
theorem Step.quiet {F : Fp} {w w' : World} (h : Keeps (fun _ => False) w w') : Step F w F w' := ⟨h.mono (fun _ _ e => e.elim), fun _ e => .inl e⟩
theorem Asn.frame {A : Asn} {F G F' : Fp} {w w' : World} (hA : A.h G w) (hs : Step F w F' w') (hd : Apart G F) : A.h G w' ∧ Apart G F' := by
  refine ⟨A.st hA hs.keeps hd, fun k hg hf => ?_⟩
  rcases hs.grow k hf with e | e
  · exact hd k hg e
  · have := A.lt hA k hg; omega
theorem Asn.quiet {A : Asn} {G : Fp} {w w' : World} (hA : A.h G w) (hs : Keeps (fun _ => False) w w') : A.h G w' := A.st hA hs (fun _ _ h => h)
theorem Asn.below {A : Asn} {G : Fp} {B : Nat} {w w' : World} (hA : A.h G w) (hs : Below B w w') (hG : ∀ k, G k → k < B) : A.h G w' :=
  A.st hA (S := fun k => B ≤ k) (Keeps.of_below hs (fun _ _ h => h)) (fun k hk h => by have := hG k hk; omega)

/-- four parts, each apart from the others, all from block B on -/
structure Sep4 (B : Nat) (A1 A2 A3 A4 : Asn) (w0 w : World) : Prop where
  ex : ∃ F1 F2 F3 F4, A1.h F1 w ∧ A2.h F2 w ∧ A3.h F3 w ∧ A4.h F4 w ∧ Apart F1 F2 ∧ Apart F1 F3 ∧ Apart F1 F4 ∧ Apart F2 F3 ∧ Apart F2 F4 ∧ Apart F3 F4 ∧
    (∀ k, F1 k → B ≤ k) ∧ (∀ k, F2 k → B ≤ k) ∧ (∀ k, F3 k → B ≤ k) ∧ (∀ k, F4 k → B ≤ k)
  below : Below B w0 w
  size : B ≤ w.heap.size

section sep
variable {B : Nat} {A1 A2 A3 A4 A1' A2' A3' A4' : Asn} {w0 w w' : World}
theorem Sep4.step1 (h : Sep4 B A1 A2 A3 A4 w0 w) (hs : ∀ F, A1.h F w → ∃ F', A1'.h F' w' ∧ Step F w F' w') : Sep4 B A1' A2 A3 A4 w0 w' := by
  obtain ⟨⟨F1, F2, F3, F4, h1, h2, h3, h4, d12, d13, d14, d23, d24, d34, b1, b2, b3, b4⟩, hb, hz⟩ := h
  obtain ⟨F', h1', st⟩ := hs F1 h1
  obtain ⟨k2, e2⟩ := Asn.frame h2 st d12.symm
  obtain ⟨k3, e3⟩ := Asn.frame h3 st d13.symm
  obtain ⟨k4, e4⟩ := Asn.frame h4 st d14.symm
  refine ⟨⟨F', F2, F3, F4, h1', k2, k3, k4, e2.symm, e3.symm, e4.symm, d23, d24, d34, fun k hk => ?_, b2, b3, b4⟩, hb.trans (st.keeps.below b1 hz), Nat.le_trans hz st.keeps.size⟩
  rcases st.grow k hk with e | e
  · exact b1 k e
  · omega
theorem Sep4.swap12 (h : Sep4 B A1 A2 A3 A4 w0 w) : Sep4 B A2 A1 A3 A4 w0 w := by
  obtain ⟨⟨F1, F2, F3, F4, h1, h2, h3, h4, d12, d13, d14, d23, d24, d34, b1, b2, b3, b4⟩, hb, hz⟩ := h
  exact ⟨⟨F2, F1, F3, F4, h2, h1, h3, h4, d12.symm, d23, d24, d13, d14, d34, b2, b1, b3, b4⟩, hb, hz⟩
theorem Sep4.swap13 (h : Sep4 B A1 A2 A3 A4 w0 w) : Sep4 B A3 A2 A1 A4 w0 w := by
  obtain ⟨⟨F1, F2, F3, F4, h1, h2, h3, h4, d12, d13, d14, d23, d24, d34, b1, b2, b3, b4⟩, hb, hz⟩ := h
  exact ⟨⟨F3, F2, F1, F4, h3, h2, h1, h4, d23.symm, d13.symm, d34, d12.symm, d24, d14, b3, b2, b1, b4⟩, hb, hz⟩
theorem Sep4.swap14 (h : Sep4 B A1 A2 A3 A4 w0 w) : Sep4 B A4 A2 A3 A1 w0 w := by
  obtain ⟨⟨F1, F2, F3, F4, h1, h2, h3, h4, d12, d13, d14, d23, d24, d34, b1, b2, b3, b4⟩, hb, hz⟩ := h
  exact ⟨⟨F4, F2, F3, F1, h4, h2, h3, h1, d24.symm, d34.symm, d14.symm, d23, d12.symm, d13.symm, b4, b2, b3, b1⟩, hb, hz⟩
theorem Sep4.step2 (h : Sep4 B A1 A2 A3 A4 w0 w) (hs : ∀ F, A2.h F w → ∃ F', A2'.h F' w' ∧ Step F w F' w') : Sep4 B A1 A2' A3 A4 w0 w' := (h.swap12.step1 hs).swap12
theorem Sep4.step3 (h : Sep4 B A1 A2 A3 A4 w0 w) (hs : ∀ F, A3.h F w → ∃ F', A3'.h F' w' ∧ Step F w F' w') : Sep4 B A1 A2 A3' A4 w0 w' := (h.swap13.step1 hs).swap13
theorem Sep4.step4 (h : Sep4 B A1 A2 A3 A4 w0 w) (hs : ∀ F, A4.h F w → ∃ F', A4'.h F' w' ∧ Step F w F' w') : Sep4 B A1 A2 A3 A4' w0 w' := (h.swap14.step1 hs).swap14
theorem Sep4.quiet (h : Sep4 B A1 A2 A3 A4 w0 w) (hs : Keeps (fun _ => False) w w') : Sep4 B A1 A2 A3 A4 w0 w' :=
  h.step1 (fun F hF => ⟨F, hF |> fun h => Asn.quiet h hs, Step.quiet hs⟩)
theorem Sep4.get1 (h : Sep4 B A1 A2 A3 A4 w0 w) : ∃ F, A1.h F w ∧ ∀ k, F k → B ≤ k := by
  obtain ⟨⟨F1, F2, F3, F4, h1, _, _, _, _, _, _, _, _, _, b1, _⟩, _⟩ := h
  exact ⟨F1, h1, b1⟩
theorem Sep4.get2 (h : Sep4 B A1 A2 A3 A4 w0 w) : ∃ F, A2.h F w ∧ ∀ k, F k → B ≤ k := h.swap12.get1
theorem Sep4.get3 (h : Sep4 B A1 A2 A3 A4 w0 w) : ∃ F, A3.h F w ∧ ∀ k, F k → B ≤ k := h.swap13.get1
theorem Sep4.get4 (h : Sep4 B A1 A2 A3 A4 w0 w) : ∃ F, A4.h F w ∧ ∀ k, F k → B ≤ k := h.swap14.get1
end sep
end Go.Proofs.Ytjpdcppdoonmdaa
end
/- part V. PROVED HERE: a program logic over the model's 'wp': a frame as a list of known slots, memory as a list of parts that lie apart from one another and from what is only read; a run of operations is evaluated by the kernel. CONDITIONS: none. No statement of the seat is proved here. -/
section
namespace Go.Proofs.Ytjpdcppdoonmdaa
open Go.RowKit

/-! ### memory -/
/-- what is only read: the blocks of O are as they are in w0 -/
structure Bs where
  O : Nat → Prop
  w0 : World

structure Bs.ok (β : Bs) (w : World) : Prop where
  os : w.os = β.w0.os
  tape : w.tape = β.w0.tape
  output : w.output = β.w0.output
  size : β.w0.heap.size ≤ w.heap.size
  old : ∀ k, β.O k → k < β.w0.heap.size ∧ w.heap[k]? = β.w0.heap[k]?

theorem Bs.ok.keeps {β : Bs} {S : Nat → Prop} {w w' : World} (h : β.ok w) (k : Keeps S w w') (hs : ∀ i, β.O i → ¬ S i) : β.ok w' :=
  ⟨k.os.trans h.os, k.tape.trans h.tape, k.output.trans h.output, Nat.le_trans h.size k.size, fun i hi => ⟨(h.old i hi).1, (k.block i (Nat.lt_of_lt_of_le (h.old i hi).1 h.size) (hs i hi)).trans (h.old i hi).2⟩⟩
theorem Bs.ok.cell {β : Bs} {w : World} (h : β.ok w) {a : Addr} {v : Value} (ho : β.O a.block ∧ β.w0.cell? a = some v) : w.cell? a = some v :=
  (World.cell?_of_block (w := β.w0) (h.old a.block ho.1).2).trans ho.2

/-- a part of memory -/
inductive HP
  | blk (b : Nat) (cs : List Value) (T : TypeId)
  | abs (A : Asn)

def HP.h : HP → Fp → World → Prop
  | .blk b cs T, F, w => w.heap[b]? = some (.cells ⟨cs⟩ T (0, 0)) ∧ ∀ k, F k ↔ k = b
  | .abs A, F, w => A.h F w

theorem lt_of_some {α : Type} {xs : Array α} {i : Nat} {x : α} (h : xs[i]? = some x) : i < xs.size := by
  rcases Nat.lt_or_ge i xs.size with hl | hl
  · exact hl
  · rw [Array.getElem?_eq_none hl] at h; cases h
theorem HP.lt {p : HP} {F : Fp} {w : World} (h : p.h F w) (k : Nat) (hk : F k) : k < w.heap.size := by
  cases p with
  | blk b cs T => obtain ⟨h1, h2⟩ := h; rw [(h2 k).1 hk]; exact lt_of_some h1
  | abs A => exact A.lt h k hk
theorem HP.st {p : HP} {F : Fp} {w w' : World} {S : Nat → Prop} (h : p.h F w) (k : Keeps S w w') (hn : ∀ i, F i → ¬ S i) : p.h F w' := by
  cases p with
  | blk b cs T => obtain ⟨h1, h2⟩ := h; exact ⟨(k.block b (lt_of_some h1) (hn b ((h2 b).2 rfl))).trans h1, h2⟩
  | abs A => exact A.st h k hn

def Sat (β : Bs) (l : List HP) (w : World) : Prop :=
  β.ok w ∧ ∃ φ : Nat → Fp, (∀ (i : Nat) (p : HP), l[i]? = some p → p.h (φ i) w) ∧ (∀ i, i < l.length → ∀ k, φ i k → ¬ β.O k) ∧ ∀ i j, i < l.length → j < l.length → i ≠ j → Apart (φ i) (φ j)

section sat
variable {β : Bs} {l l' : List HP} {w w' : World} {p p' : HP} {i : Nat}
theorem len_of_some {α : Type} {xs : List α} {i : Nat} {x : α} (h : xs[i]? = some x) : i < xs.length := by
  rcases Nat.lt_or_ge i xs.length with hl | hl
  · exact hl
  · rw [List.getElem?_eq_none hl] at h; cases h
theorem some_of_len {α : Type} {xs : List α} {i : Nat} (h : i < xs.length) : ∃ x, xs[i]? = some x := ⟨xs[i], List.getElem?_eq_getElem h⟩
theorem Sat.quiet (h : Sat β l w) (k : Keeps (fun _ => False) w w') : Sat β l w' := by
  obtain ⟨ho, φ, h1, h2, h3⟩ := h
  exact ⟨ho.keeps k (fun _ _ h => h), φ, fun i p hp => HP.st (h1 i p hp) k (fun _ _ h => h), h2, h3⟩
theorem Sat.drewN (h : Sat β l w) (n : Nat) : Sat β l (w.drewN n) := h.quiet ((Keeps.refl _ _).drewN n)
theorem Sat.get (h : Sat β l w) (hp : l[i]? = some p) : ∃ F, p.h F w := by
  obtain ⟨_, φ, h1, _⟩ := h
  exact ⟨φ i, h1 i p hp⟩
theorem Sat.set (h : Sat β l w) (hp : l[i]? = some p) (hs : ∀ F, p.h F w → ∃ F', p'.h F' w' ∧ Step F w F' w') : Sat β (l.set i p') w' := by
  obtain ⟨ho, φ, h1, h2, h3⟩ := h
  obtain ⟨F', hF', st⟩ := hs _ (h1 i p hp)
  have hi := len_of_some hp
  have hlt : ∀ j, j < l.length → ∀ k, φ j k → k < w.heap.size := fun j hj k hk => by
    obtain ⟨q, hq⟩ := some_of_len hj
    exact HP.lt (h1 j q hq) k hk
  have hap : ∀ j, j < l.length → j ≠ i → ∀ k, F' k → φ j k → False := fun j hj hne k hk hk' => by
    rcases st.grow k hk with e | e
    · exact h3 i j hi hj (fun e => hne e.symm) k e hk'
    · have := hlt j hj k hk'; omega
  refine ⟨ho.keeps st.keeps (fun k hk hk' => h2 i hi k hk' hk), fun j => if j = i then F' else φ j, fun j q hq => ?_, fun j hj k hk hO => ?_, fun j1 j2 hj1 hj2 hne k hk hk' => ?_⟩
  · by_cases e : j = i
    · subst e
      rw [List.getElem?_set_self hi] at hq
      cases hq
      simpa using hF'
    · rw [List.getElem?_set_ne (fun e' => e e'.symm)] at hq
      simp only [e, if_false]
      exact HP.st (h1 j q hq) st.keeps (fun k hk hk' => h3 i j hi (len_of_some hq) (fun e' => e e'.symm) k hk' hk)
  · rw [List.length_set] at hj
    by_cases e : j = i
    · subst e
      simp only [if_true] at hk
      rcases st.grow k hk with e | e
      · exact h2 j hi k e hO
      · have := (ho.old k hO).1; have := ho.size; omega
    · simp only [e, if_false] at hk
      exact h2 j hj k hk hO
  · rw [List.length_set] at hj1 hj2
    by_cases e1 : j1 = i
    · by_cases e2 : j2 = i
      · exact hne (e1.trans e2.symm)
      · simp only [e1, if_true] at hk
        simp only [e2, if_false] at hk'
        exact hap j2 hj2 e2 k hk hk'
    · simp only [e1, if_false] at hk
      by_cases e2 : j2 = i
      · simp only [e2, if_true] at hk'
        exact hap j1 hj1 e1 k hk' hk
      · simp only [e2, if_false] at hk'
        exact h3 j1 j2 hj1 hj2 hne k hk hk'
theorem Sat.new {F : Fp} (h : Sat β l w) (hF : p.h F w') (k : Keeps (fun _ => False) w w') (hn : ∀ k, F k → w.heap.size ≤ k) : Sat β (l ++ [p]) w' := by
  obtain ⟨ho, φ, h1, h2, h3⟩ := h
  have hlt : ∀ j, j < l.length → ∀ k, φ j k → k < w.heap.size := fun j hj k hk => by
    obtain ⟨q, hq⟩ := some_of_len hj
    exact HP.lt (h1 j q hq) k hk
  refine ⟨ho.keeps k (fun _ _ h => h), fun j => if j = l.length then F else φ j, fun j q hq => ?_, fun j hj k hk hO => ?_, fun j1 j2 hj1 hj2 hne k hk hk' => ?_⟩
  · by_cases e : j = l.length
    · subst e
      simp at hq
      subst hq
      simpa using hF
    · have hj : j < l.length := by have := len_of_some hq; simp at this; omega
      rw [List.getElem?_append_left hj] at hq
      simp only [e, if_false]
      exact HP.st (h1 j q hq) k (fun _ _ h => h)
  · by_cases e : j = l.length
    · simp only [e, if_true] at hk
      have := (ho.old k hO).1; have := ho.size; have := hn k hk; omega
    · simp only [e, if_false] at hk
      exact h2 j (by simp at hj; omega) k hk hO
  · simp at hj1 hj2
    by_cases e1 : j1 = l.length
    · by_cases e2 : j2 = l.length
      · exact hne (e1.trans e2.symm)
      · simp only [e1, if_true] at hk
        simp only [e2, if_false] at hk'
        have := hlt j2 (by omega) k hk'; have := hn k hk; omega
    · simp only [e1, if_false] at hk
      by_cases e2 : j2 = l.length
      · simp only [e2, if_true] at hk'
        have := hlt j1 (by omega) k hk; have := hn k hk'; omega
      · simp only [e2, if_false] at hk'
        exact h3 j1 j2 (by omega) (by omega) hne k hk hk'
/-- some parts of a list, by their places -/
def pickL (l : List HP) : List Nat → Option (List HP)
  | [] => some []
  | i :: r => match l[i]? with
    | some p => match pickL l r with
      | some q => some (p :: q)
      | none => none
    | none => none
def nodupB : List Nat → Bool
  | [] => true
  | i :: r => !(r.contains i) && nodupB r
theorem nodupB_spec : ∀ {idx : List Nat}, nodupB idx = true → idx.Nodup
  | [], _ => List.nodup_nil
  | i :: r, h => by
    simp only [nodupB, Bool.and_eq_true, Bool.not_eq_true', List.contains_eq_mem, decide_eq_false_iff_not] at h
    exact List.nodup_cons.2 ⟨h.1, nodupB_spec h.2⟩
theorem pickL_spec : ∀ {idx : List Nat} {l' : List HP}, pickL l idx = some l' → l'.length = idx.length ∧ ∀ (j : Nat) (p : HP), l'[j]? = some p → ∃ i : Nat, idx[j]? = some i ∧ l[i]? = some p
  | [], l', h => by cases h; exact ⟨rfl, fun j p hp => by simp at hp⟩
  | i :: r, l', h => by
    unfold pickL at h
    split at h
    · rename_i q hq
      split at h
      · rename_i q' hq'
        cases h
        obtain ⟨h1, h2⟩ := pickL_spec hq'
        refine ⟨by simp [h1], fun j p hp => ?_⟩
        cases j with
        | zero => simp at hp; subst hp; exact ⟨i, rfl, hq⟩
        | succ j => simpa using h2 j p (by simpa using hp)
      · cases h
    · cases h
theorem Sat.pick {idx : List Nat} (h : Sat β l w) (hn : nodupB idx = true) (hp : pickL l idx = some l') : Sat β l' w := by
  obtain ⟨ho, φ, h1, h2, h3⟩ := h
  obtain ⟨hl, hi⟩ := pickL_spec hp
  have hnd := nodupB_spec hn
  have key : ∀ j, j < l'.length → idx.getD j 0 < l.length := fun j hj => by
    obtain ⟨p, hp⟩ := some_of_len hj
    obtain ⟨i, e, hi⟩ := hi j p hp
    rw [List.getD_eq_getElem?_getD, e]
    exact len_of_some hi
  refine ⟨ho, fun j => φ (idx.getD j 0), fun j p hp => ?_, fun j hj => h2 _ (key j hj), fun j1 j2 hj1 hj2 hne => h3 _ _ (key j1 hj1) (key j2 hj2) (fun e => hne ?_)⟩
  · obtain ⟨i, e, hi⟩ := hi j p hp
    show p.h (φ (idx.getD j 0)) w
    rw [List.getD_eq_getElem?_getD, e]
    exact h1 i p hi
  · rw [hl] at hj1 hj2
    rw [List.getD_eq_getElem?_getD, List.getD_eq_getElem?_getD, List.getElem?_eq_getElem hj1, List.getElem?_eq_getElem hj2] at e
    have hp := List.pairwise_iff_getElem.1 hnd
    rcases Nat.lt_trichotomy j1 j2 with h | h | h
    · exact absurd (by simpa using e) (hp j1 j2 hj1 hj2 h)
    · exact h
    · exact absurd (by simpa using e.symm) (hp j2 j1 hj2 hj1 h)
end sat

/-! ### a frame: some slots are known -/
abbrev Fr := List (Nat × Value)
def lk : Fr → (Nat → Value) → Nat → Value
  | [], j, t => j t
  | (i, v) :: r, j, t => match Nat.beq i t with
    | true => v
    | false => lk r j t
def mkA (N : Nat) (fr : Fr) (junk : Nat → Value) : Act := ⟨((List.range N).map (lk fr junk)).toArray, []⟩
def evF (N : Nat) (fr : Fr) (junk : Nat → Value) : Operand → Value
  | .tmp t => match Nat.blt t N with
    | true => lk fr junk t
    | false => undef
  | .const v => v
  | .global g => .pointer (some ⟨g, 0, none⟩)
  | .func f => .func (.func f) #[] #[]
theorem mkA_get (N : Nat) (fr : Fr) (junk : Nat → Value) (t : Nat) : (mkA N fr junk).tmps[t]? = if t < N then some (lk fr junk t) else none := by
  unfold mkA
  by_cases h : t < N
  · simp [h]
  · simp [h]
theorem mkA_eval (N : Nat) (fr : Fr) (junk : Nat → Value) : (mkA N fr junk).eval = evF N fr junk := by
  funext x
  cases x with
  | tmp t =>
    simp only [Act.eval, evF, Array.getD_eq_getD_getElem?, mkA_get]
    by_cases h : t < N
    · have : Nat.blt t N = true := by simpa [Nat.blt_eq] using h
      simp [h, this]
    · have : Nat.blt t N = false := by
        cases hb : Nat.blt t N
        · rfl
        · exact absurd (by simpa [Nat.blt_eq] using hb) h
      simp [h, this]
  | const v => rfl
  | global g => rfl
  | func f => rfl
def putF (fr : Fr) (d : Option Tmp) (v : Value) : Fr := match d with
  | some d => (d, v) :: fr
  | none => fr
theorem lk_cons (i : Nat) (v : Value) (fr : Fr) (junk : Nat → Value) (t : Nat) : lk ((i, v) :: fr) junk t = if i = t then v else lk fr junk t := by
  simp only [lk]
  by_cases h : i = t
  · subst h; simp [Nat.beq_refl]
  · have : Nat.beq i t = false := by
      cases hb : Nat.beq i t
      · rfl
      · exact absurd (Nat.eq_of_beq_eq_true hb) h
    simp [h, this]
theorem mkA_put (N : Nat) (fr : Fr) (junk : Nat → Value) (d : Option Tmp) (v : Value) : (mkA N fr junk).put d v = mkA N (putF fr d v) junk := by
  cases d with
  | none => rfl
  | some d =>
    unfold Act.put
    have hd : (mkA N fr junk).defers = (mkA N (putF fr (some d) v) junk).defers := rfl
    have ht : (mkA N fr junk).tmps.setIfInBounds d v = (mkA N (putF fr (some d) v) junk).tmps := by
      apply Array.ext_getElem?
      intro t
      rw [Array.getElem?_setIfInBounds, mkA_get, mkA_get]
      have hs : (mkA N fr junk).tmps.size = N := by simp [mkA]
      simp only [putF, lk_cons, hs]
      by_cases h : d = t
      · subst h
        simp
      · simp [h]
    show Act.mk _ _ = _
    rw [ht]
    rfl
theorem mkA_defers (N : Nat) (fr : Fr) (junk : Nat → Value) : (mkA N fr junk).defers = [] := rfl
def yF (ops : Array Oper) (N : Nat) (fr : Fr) (junk : Nat → Value) (j : Nat) : Option Bool :=
  match ops.toList[j]? with
  | some o => match o.dst with
    | some d => match Nat.blt d N with
      | true => match lk fr junk d with
        | .bool b => some b
        | _ => none
      | false => none
    | none => none
  | none => none
theorem yF_eq (ops : Array Oper) (N : Nat) (fr : Fr) (junk : Nat → Value) (j : Nat) : yielded ops (mkA N fr junk).tmps j = yF ops N fr junk j := by
  unfold yielded yF
  rw [Array.getElem?_toList]
  cases ops[j]? with
  | none => rfl
  | some o =>
    simp only [Option.bind_some]
    cases o.dst with
    | none => rfl
    | some d =>
      simp only [Option.bind_some, mkA_get]
      by_cases h : d < N
      · have : Nat.blt d N = true := by simpa [Nat.blt_eq] using h
        simp only [h, this, if_true]
        cases lk fr junk d <;> rfl
      · have : Nat.blt d N = false := by
          cases hb : Nat.blt d N
          · rfl
          · exact absurd (by simpa [Nat.blt_eq] using hb) h
        simp [h, this]
/-- some slots of a frame -/
def pickF (fr : Fr) (junk : Nat → Value) : List Nat → Fr
  | [] => []
  | i :: r => (i, lk fr junk i) :: pickF fr junk r
theorem lk_pickF (fr : Fr) (junk : Nat → Value) : ∀ (idx : List Nat) (t : Nat), lk (pickF fr junk idx) (lk fr junk) t = lk fr junk t
  | [], _ => rfl
  | i :: r, t => by
    rw [pickF, lk_cons]
    by_cases h : i = t
    · simp [h]
    · simp [h, lk_pickF fr junk r t]
theorem mkA_pick (N : Nat) (fr : Fr) (junk : Nat → Value) (idx : List Nat) : mkA N fr junk = mkA N (pickF fr junk idx) (lk fr junk) := by
  unfold mkA
  have : (List.range N).map (lk fr junk) = (List.range N).map (lk (pickF fr junk idx) (lk fr junk)) := List.map_congr_left (fun t _ => (lk_pickF fr junk idx t).symm)
  rw [this]
end Go.Proofs.Ytjpdcppdoonmdaa
end
/- part Vr. PROVED HERE: the kernel's run of operations over a known frame and known memory is the model's run. CONDITIONS: none. No statement of the seat is proved here. -/
section
namespace Go.Proofs.Ytjpdcppdoonmdaa
open Go.RowKit

/-! ### the kernel runs the operations -/
inductive Hint
  | at (i : Nat)
  | old (v : Value)
  | view (i : Nat) (v : Value)
structure SS where
  hints : List Hint
  hps : List HP
  obl : List Prop
  used : Bool

def AllP : List Prop → Prop
  | [] => True
  | p :: r => p ∧ AllP r
theorem AllP.mem : ∀ {l : List Prop}, AllP l → ∀ {p : Prop}, p ∈ l → p
  | [], _, _, h => by cases h
  | _ :: _, h, _, hm => by
    rcases List.mem_cons.1 hm with e | e
    · exact e ▸ h.1
    · exact h.2.mem e

def srun (P : Program) (β : Bs) (n : Nat) (ro : Bool) {α : Type} : Sem α → SS → Option (α × SS)
  | .pure a, s => some (a, s)
  | .load _ a k, s =>
    match s.hints with
    | .at i :: hs =>
      match s.hps[i]? with
      | some (.blk b cs _) =>
        match a.spot with
        | none =>
          match cs[a.off]? with
          | some v => srun P β n ro (k v) { s with hints := hs, obl := (a.block = b) :: s.obl }
          | none => none
        | some _ => none
      | _ => none
    | .old v :: hs => srun P β n ro (k v) { s with hints := hs, obl := (β.O a.block ∧ β.w0.cell? a = some v) :: s.obl }
    | .view i v :: hs =>
      match s.hps[i]? with
      | some (.abs A) => srun P β n ro (k v) { s with hints := hs, obl := (∀ F w, A.h F w → w.cell? a = some v) :: s.obl }
      | _ => none
    | [] => none
  | .store _ a v k, s =>
    match ro with
    | true => none
    | false =>
    match v with
    | .agg _ => none
    | .tuple _ => none
    | v =>
      match s.hints with
      | .at i :: hs =>
        match s.hps[i]? with
        | some (.blk b cs T) =>
          match a.spot with
          | none =>
            match cs[a.off]? with
            | some _ => srun P β n ro k { s with hints := hs, hps := s.hps.set i (.blk b (cs.set a.off v) T), obl := (a.block = b) :: s.obl }
            | none => none
          | some _ => none
        | _ => none
      | _ => none
  | .new o k, s =>
    match ro, s.used, o with
    | false, false, .cells c T (0, 0) => srun P β n ro (k n) { s with hps := s.hps ++ [.blk n c.toList T], used := true }
    | _, _, _ => none
  | .shape r k, s =>
    match s.hints with
    | .at i :: hs =>
      match s.hps[i]? with
      | some (.blk b cs T) => srun P β n ro (k (some (T, cs.length))) { s with hints := hs, obl := (r = b) :: s.obl }
      | _ => none
    | _ => none
  | .frozen a k, s =>
    match s.hints with
    | .at i :: hs =>
      match s.hps[i]? with
      | some (.blk b _ _) => srun P β n ro (k false) { s with hints := hs, obl := (a.block = b) :: s.obl }
      | _ => none
    | _ => none
  | .program k, s => srun P β n ro (k P) s
  | .mark _ k, s => srun P β n ro k s
  | .freeze .., _ => none
  | .getObj .., _ => none
  | .setObj .., _ => none
  | .choose .., _ => none
  | .sys .., _ => none
  | .halt _, _ => none

section sound
variable {P : Program} {β : Bs} {n : Nat} {ro : Bool}
theorem srun_obl {α : Type} : ∀ (s : Sem α) (S S' : SS) (x : α), srun P β n ro s S = some (x, S') → ∀ p, p ∈ S.obl → p ∈ S'.obl := by
  intro s
  induction s with
  | pure a => intro S S' x h p hp; simp only [srun, Option.some.injEq, Prod.mk.injEq] at h; rw [← h.2]; exact hp
  | load m a k ih => intro S S' x h p hp; simp only [srun] at h; (repeat' split at h); all_goals first | (cases h; done) | exact ih _ _ _ _ h p (List.mem_cons_of_mem _ hp)
  | store m a v k ih => intro S S' x h p hp; simp only [srun] at h; (repeat' split at h); all_goals first | (cases h; done) | exact ih _ _ _ h p (List.mem_cons_of_mem _ hp)
  | new o k ih => intro S S' x h p hp; simp only [srun] at h; (repeat' split at h); all_goals first | (cases h; done) | exact ih _ _ _ _ h p hp
  | shape r k ih => intro S S' x h p hp; simp only [srun] at h; (repeat' split at h); all_goals first | (cases h; done) | exact ih _ _ _ _ h p (List.mem_cons_of_mem _ hp)
  | frozen r k ih => intro S S' x h p hp; simp only [srun] at h; (repeat' split at h); all_goals first | (cases h; done) | exact ih _ _ _ _ h p (List.mem_cons_of_mem _ hp)
  | program k ih => intro S S' x h p hp; simp only [srun] at h; exact ih _ _ _ _ h p hp
  | mark m k ih => intro S S' x h p hp; simp only [srun] at h; exact ih _ _ _ h p hp
  | freeze a m k ih => intro S S' x h; simp only [srun] at h; cases h
  | getObj r k ih => intro S S' x h; simp only [srun] at h; cases h
  | setObj r o k ih => intro S S' x h; simp only [srun] at h; cases h
  | choose q k ih => intro S S' x h; simp only [srun] at h; cases h
  | sys c k ih => intro S S' x h; simp only [srun] at h; cases h
  | halt e => intro S S' x h; simp only [srun] at h; cases h

theorem srun_ro {α : Type} : ∀ (s : Sem α) (S S' : SS) (x : α), srun P β n true s S = some (x, S') → S'.hps = S.hps ∧ S'.used = S.used := by
  intro s
  induction s with
  | pure a => intro S S' x h; simp only [srun, Option.some.injEq, Prod.mk.injEq] at h; rw [← h.2]; exact ⟨rfl, rfl⟩
  | load m a k ih => intro S S' x h; simp only [srun] at h; (repeat' split at h); all_goals first | (cases h; done) | (have h' := ih _ _ _ _ h; exact h')
  | store m a v k ih => intro S S' x h; simp only [srun] at h; cases h
  | new o k ih => intro S S' x h; simp only [srun] at h; (repeat' split at h); all_goals first | (cases h; done) | contradiction
  | shape r k ih => intro S S' x h; simp only [srun] at h; (repeat' split at h); all_goals first | (cases h; done) | (have h' := ih _ _ _ _ h; exact h')
  | frozen r k ih => intro S S' x h; simp only [srun] at h; (repeat' split at h); all_goals first | (cases h; done) | (have h' := ih _ _ _ _ h; exact h')
  | program k ih => intro S S' x h; simp only [srun] at h; (have h' := ih _ _ _ _ h; exact h')
  | mark m k ih => intro S S' x h; simp only [srun] at h; exact ih _ _ _ h
  | freeze a m k ih => intro S S' x h; simp only [srun] at h; cases h
  | getObj r k ih => intro S S' x h; simp only [srun] at h; cases h
  | setObj r o k ih => intro S S' x h; simp only [srun] at h; cases h
  | choose q k ih => intro S S' x h; simp only [srun] at h; cases h
  | sys c k ih => intro S S' x h; simp only [srun] at h; cases h
  | halt e => intro S S' x h; simp only [srun] at h; cases h

theorem srun_none {α : Type} : ∀ (s : Sem α) (S S' : SS) (x : α), srun P β n true s S = some (x, S') → S.hints = [] → S'.obl = S.obl := by
  intro s
  induction s with
  | pure a => intro S S' x h; simp only [srun, Option.some.injEq, Prod.mk.injEq] at h; rw [← h.2]; exact fun _ => rfl
  | load m a k ih => intro S S' x h hh; simp only [srun, hh] at h; cases h
  | store m a v k ih => intro S S' x h; simp only [srun] at h; cases h
  | new o k ih => intro S S' x h; simp only [srun] at h; (repeat' split at h); all_goals first | (cases h; done) | contradiction
  | shape r k ih => intro S S' x h hh; simp only [srun, hh] at h; cases h
  | frozen r k ih => intro S S' x h hh; simp only [srun, hh] at h; cases h
  | program k ih => intro S S' x h; simp only [srun] at h; exact ih _ _ _ _ h
  | mark m k ih => intro S S' x h; simp only [srun] at h; exact ih _ _ _ h
  | freeze a m k ih => intro S S' x h; simp only [srun] at h; cases h
  | getObj r k ih => intro S S' x h; simp only [srun] at h; cases h
  | setObj r o k ih => intro S S' x h; simp only [srun] at h; cases h
  | choose q k ih => intro S S' x h; simp only [srun] at h; cases h
  | sys c k ih => intro S S' x h; simp only [srun] at h; cases h
  | halt e => intro S S' x h; simp only [srun] at h; cases h

theorem cell_of_blk {w : World} {b : Nat} {cs : List Value} {T : TypeId} {a : Addr} {v : Value} (h : w.heap[b]? = some (.cells ⟨cs⟩ T (0, 0))) (hs : a.spot = none) (hb : a.block = b) (hv : cs[a.off]? = some v) : w.cell? a = some v ∧ w.frozen? a = false := by
  subst hb
  refine ⟨?_, ?_⟩
  · simp [World.cell?, h, hs, hv]
  · simp [World.frozen?, h]
theorem step_setCell {w : World} {b : Nat} {cs : List Value} {T : TypeId} {a : Addr} {v : Value} {F : Fp} (h : (HP.blk b cs T).h F w) (hs : a.spot = none) (hb : a.block = b) :
    ∃ F', (HP.blk b (cs.set a.off v) T).h F' (w.setCell a v) ∧ Step F w F' (w.setCell a v) := by
  obtain ⟨h1, h2⟩ := h
  refine ⟨F, ⟨?_, h2⟩, ⟨(Keeps.refl _ _).setCell (.inr ((h2 _).2 hb)) v, fun _ h => .inl h⟩⟩
  subst hb
  simp [World.setCell, Array.getElem?_modify, h1, hs, Array.setIfInBounds_def]
  exact fun h => (List.set_eq_of_length_le h).symm
theorem setCell_size' (w : World) (p : Addr) (v : Value) : (w.setCell p v).heap.size = w.heap.size := by simp [World.setCell]

theorem srun_sound {α : Type} : ∀ (s : Sem α) (S S' : SS) (x : α) (w : World), srun P β n ro s S = some (x, S') → (∀ p, p ∈ S'.obl → p) → Sat β S.hps w → (S.used = false → n = w.heap.size) →
    ∃ w', s.run P w = .ok x w' ∧ Sat β S'.hps w' ∧ (S'.used = false → n = w'.heap.size) ∧ (ro = true → w' = w ∧ S'.hps = S.hps) := by
  intro s
  induction s with
  | pure a =>
    intro S S' x w h _ hS hn
    simp only [srun, Option.some.injEq, Prod.mk.injEq] at h
    obtain ⟨rfl, rfl⟩ := h
    exact ⟨w, rfl, hS, hn, fun _ => ⟨rfl, rfl⟩⟩
  | load m a k ih =>
    intro S S' x w h ho hS hn
    simp only [srun] at h
    repeat' split at h
    all_goals first | (cases h; done) | skip
    · rename_i hp _ hs _ v hv
      have hb : a.block = _ := ho _ (srun_obl _ _ _ _ h _ List.mem_cons_self)
      obtain ⟨F, hF⟩ := hS.get hp
      have hc := (cell_of_blk hF.1 hs hb hv).1
      obtain ⟨w', h1, h2⟩ := ih _ _ _ _ w h ho hS hn
      exact ⟨w', by simp only [Sem.run, hc]; exact h1, h2⟩
    · rename_i v hs hh
      have hc := hS.1.cell (ho _ (srun_obl _ _ _ _ h _ List.mem_cons_self))
      obtain ⟨w', h1, h2⟩ := ih _ _ _ _ w h ho hS hn
      exact ⟨w', by simp only [Sem.run, hc]; exact h1, h2⟩
    · rename_i A hp
      obtain ⟨F, hF⟩ := hS.get hp
      have hc := ho _ (srun_obl _ _ _ _ h _ List.mem_cons_self) F w hF
      obtain ⟨w', h1, h2⟩ := ih _ _ _ _ w h ho hS hn
      exact ⟨w', by simp only [Sem.run, hc]; exact h1, h2⟩
  | store m a v k ih =>
    intro S S' x w h ho hS hn
    simp only [srun] at h
    cases ro with
    | true => simp at h
    | false =>
    simp only at h
    split at h
    · cases h
    · cases h
    rename_i hv1 hv2
    repeat' split at h
    all_goals first | (cases h; done) | skip
    rename_i hp _ hs _ u hu
    have hb : a.block = _ := ho _ (srun_obl _ _ _ _ h _ List.mem_cons_self)
    obtain ⟨F, hF⟩ := hS.get hp
    obtain ⟨hc, hf⟩ := cell_of_blk hF.1 hs hb hu
    have hS' := hS.set hp (fun F hF => step_setCell (v := v) hF hs hb)
    obtain ⟨w', h1, h2⟩ := ih _ _ _ (w.setCell a v) h ho hS' (fun e => by rw [setCell_size']; exact hn e)
    refine ⟨w', ?_, h2.1, h2.2.1, fun e => by cases e⟩
    rw [← h1]
    cases v <;> first | (simp only [Sem.run, hc, hf]; rfl) | exact absurd rfl (hv1 _) | exact absurd rfl (hv2 _)
  | new o k ih =>
    intro S S' x w h ho hS hn
    simp only [srun] at h
    split at h
    · rename_i c T hu
      have hn' := hn hu
      have hS' : Sat β (S.hps ++ [.blk n c.toList T]) (w.alloc (.cells c T (0, 0))) := hS.new (F := fun k => k = n) ⟨by rw [hn']; exact heap_alloc_new w _, fun _ => Iff.rfl⟩ ((Keeps.refl _ _).alloc _) (fun k e => by rw [e, hn']; exact Nat.le_refl _)
      obtain ⟨w', h1, h2⟩ := ih _ _ _ _ (w.alloc (.cells c T (0, 0))) h ho hS' (fun e => by cases e)
      refine ⟨w', ?_, h2.1, h2.2.1, fun e => by cases e⟩
      rw [← h1, hn']
      rfl
    · cases h
  | shape r k ih =>
    intro S S' x w h ho hS hn
    simp only [srun] at h
    repeat' split at h
    all_goals first | (cases h; done) | skip
    rename_i b cs T hp
    have hb : r = b := ho _ (srun_obl _ _ _ _ h _ List.mem_cons_self)
    obtain ⟨F, hF⟩ := hS.get hp
    have hc : w.shape? r = some (T, cs.length) := by simp [World.shape?, hb, hF.1]
    obtain ⟨w', h1, h2⟩ := ih _ _ _ _ w h ho hS hn
    exact ⟨w', by simp only [Sem.run, hc]; exact h1, h2⟩
  | frozen a k ih =>
    intro S S' x w h ho hS hn
    simp only [srun] at h
    repeat' split at h
    all_goals first | (cases h; done) | skip
    rename_i b cs T hp
    have hb : a.block = b := ho _ (srun_obl _ _ _ _ h _ List.mem_cons_self)
    obtain ⟨F, hF⟩ := hS.get hp
    have hc : w.frozen? a = false := by simp [World.frozen?, hb, hF.1]
    obtain ⟨w', h1, h2⟩ := ih _ _ _ _ w h ho hS hn
    exact ⟨w', by simp only [Sem.run, hc]; exact h1, h2⟩
  | program k ih => intro S S' x w h ho hS hn; simp only [srun] at h; exact ih _ _ _ _ w h ho hS hn
  | mark m k ih => intro S S' x w h ho hS hn; simp only [srun] at h; exact ih _ _ _ w h ho hS hn
  | freeze a m k ih => intro S S' x w h; simp only [srun] at h; cases h
  | getObj r k ih => intro S S' x w h; simp only [srun] at h; cases h
  | setObj r o k ih => intro S S' x w h; simp only [srun] at h; cases h
  | choose q k ih => intro S S' x w h; simp only [srun] at h; cases h
  | sys c k ih => intro S S' x w h; simp only [srun] at h; cases h
  | halt e => intro S S' x w h; simp only [srun] at h; cases h
end sound
end Go.Proofs.Ytjpdcppdoonmdaa
end
/- part Vo. PROVED HERE: the judgements of the logic: an operation, a run of operations within a region, code; calls, loops, branches. CONDITIONS: none. No statement of the seat is proved here. -/
section
namespace Go.Proofs.Ytjpdcppdoonmdaa
open Go.RowKit

/-- what is told of an operation ahead: where its cells lie; an index as a natural number; another spelling of its value -/
structure OH where
  hs : List Hint := []
  num : Option Nat := none
  num2 : Option Nat := none
  base : Option Addr := none
  conv : Option Value := none

def o_ : OH := ⟨[], none, none, none, none⟩
def blkOf (A : Option Addr) : Nat := match A with
  | some a => a.block
  | none => 0
def offOf (A : Option Addr) : Nat := match A with
  | some a => a.off
  | none => 0
/-- one operation, run by the kernel -/
def orun0 (P : Program) (β : Bs) (n : Nat) (ro : Bool) (ev : Operand → Value) (o : Oper) (h : OH) (S : SS) : Option (Value × SS) :=
  match h.num with
  | none =>
    match srun P β n ro (execOp ev o) { S with hints := h.hs } with
    | some (.value v, S') => some (v, S')
    | some (.skip, S') => some (undef, S')
    | _ => none
  | some m =>
    match o.op with
    | .indexAddr t x ix =>
      match P.underlying t with
      | some (.slice e) =>
        match P.info? e with
        | some i =>
          match ev x with
          | .slice A len _ =>
            match ev ix with
            | .int _ z =>
              match h.base with
              | some a => some (.pointer (some ⟨a.block, a.off + m * i.size, none⟩), { S with obl := (z = (m : Int)) :: (m < len) :: (a.spot = none) :: (A = some a) :: S.obl })
              | none =>
                match A with
                | some a => some (.pointer (some ⟨a.block, a.off + m * i.size, none⟩), { S with obl := (z = (m : Int)) :: (m < len) :: (a.spot = none) :: S.obl })
                | none => none
            | _ => none
          | _ => none
        | none => none
      | _ => none
    | .index t x ix =>
      match P.underlying t with
      | some .string =>
        match ev x with
        | .string s =>
          match ev ix with
          | .int _ z => some (.int .u8 (s.data.getD m 0).toNat, { S with obl := (z = (m : Int)) :: (m < s.size) :: S.obl })
          | _ => none
        | _ => none
      | _ => none
    | .slice t x lo hi mx =>
      match mx with
      | some _ => none
      | none =>
      match P.underlying t with
      | some .string =>
        match ev x with
        | .string s =>
          match lo, hi with
          | none, some hv =>
            match ev hv with
            | .int _ z => some (.string (s.extract 0 m), { S with obl := (z = (m : Int)) :: (m ≤ s.size) :: S.obl })
            | _ => none
          | some lv, none =>
            match ev lv with
            | .int _ z => some (.string (s.extract m s.size), { S with obl := (z = (m : Int)) :: (m ≤ s.size) :: S.obl })
            | _ => none
          | some lv, some hv =>
            match h.num2 with
            | some m2 =>
              match ev lv with
              | .int _ y =>
                match ev hv with
                | .int _ z => some (.string (s.extract m2 m), { S with obl := (z = (m : Int)) :: (y = (m2 : Int)) :: (m ≤ s.size) :: (m2 ≤ m) :: S.obl })
                | _ => none
              | _ => none
            | none => none
          | none, none => none
        | _ => none
      | some (.slice e) =>
        match P.info? e with
        | some i =>
          match ev x with
          | .slice A len cap =>
            match lo, hi with
            | none, some hv =>
              match ev hv with
              | .int _ z => some (.slice A m cap, { S with obl := (z = (m : Int)) :: (m ≤ cap) :: S.obl })
              | _ => none
            | some lv, none =>
              match ev lv with
              | .int _ z =>
                match h.base with
                | some a => some (.slice (some ⟨a.block, a.off + m * i.size, none⟩) (len - m) (cap - m), { S with obl := (z = (m : Int)) :: (m ≤ len) :: (m < cap) :: (a.spot = none) :: (A = some a) :: S.obl })
                | none =>
                  match A with
                  | some a => some (.slice (some ⟨a.block, a.off + m * i.size, none⟩) (len - m) (cap - m), { S with obl := (z = (m : Int)) :: (m ≤ len) :: (m < cap) :: (a.spot = none) :: S.obl })
                  | none => none
              | _ => none
            | _, _ => none
          | _ => none
        | none => none
      | _ => none
    | _ => none
def orun (P : Program) (β : Bs) (n : Nat) (ro : Bool) (ev : Operand → Value) (o : Oper) (h : OH) (S : SS) : Option (Value × SS) :=
  match orun0 P β n ro ev o h S with
  | some (v, S') =>
    match h.conv with
    | none => some (v, S')
    | some v' => some (v', { S' with obl := (v = v') :: S'.obl })
  | none => none

def Ran (P : Program) (ev : Operand → Value) (o : Oper) (w : World) (v : Value) (w' : World) : Prop :=
  (execOp ev o).run P w = .ok (.value v) w' ∨ (v = undef ∧ (execOp ev o).run P w = .ok .skip w')

theorem runsize {P : Program} {e : TypeId} {i : TypeInfo} (h : P.info? e = some i) (w : World) : (sizeOf e).run P w = .ok i.size w := by
  have h1 : sizeOf e = .program fun p => (match p.info? e with | some i => Sem.pure i | none => stuck "no such type").bind fun i => .pure i.size := rfl
  rw [h1]
  simp only [Sem.run, h]
  rfl

section orun
variable {P : Program} {β : Bs} {n : Nat} {ro : Bool} {ev : Operand → Value} {o : Oper} {h : OH} {S S' : SS} {v : Value}
theorem orun0_obl (hr : orun0 P β n ro ev o h S = some (v, S')) : ∀ p, p ∈ S.obl → p ∈ S'.obl := by
  intro p hp
  unfold orun0 at hr
  repeat' split at hr
  all_goals first | (cases hr; done) | skip
  · rename_i h0; cases hr; exact srun_obl _ _ _ _ h0 p hp
  · rename_i h0; cases hr; exact srun_obl _ _ _ _ h0 p hp
  all_goals (cases hr; simp [hp])
theorem orun0_sound {w : World} (hr : orun0 P β n ro ev o h S = some (v, S')) (ho : ∀ p, p ∈ S'.obl → p) (hS : Sat β S.hps w) (hn : S.used = false → n = w.heap.size) :
    ∃ w', Ran P ev o w v w' ∧ Sat β S'.hps w' ∧ (S'.used = false → n = w'.heap.size) ∧ (ro = true → w' = w ∧ S'.hps = S.hps) := by
  unfold orun0 at hr
  repeat' split at hr
  all_goals first | (cases hr; done) | skip
  · rename_i h0; cases hr
    obtain ⟨w', h1, h2⟩ := srun_sound _ _ _ _ w h0 ho hS hn
    exact ⟨w', .inl h1, h2⟩
  · rename_i h0; cases hr
    obtain ⟨w', h1, h2⟩ := srun_sound _ _ _ _ w h0 ho hS hn
    exact ⟨w', .inr ⟨rfl, h1⟩, h2⟩
  · rename_i m _ _ t x ix hop _ e hu _ i hi _ A len cap hx _ k z hix _ a _
    cases hr
    have e1 : z = (m : Int) := ho _ (by simp)
    have e2 : m < len := ho _ (by simp)
    have e3 : a.spot = none := ho _ (by simp)
    have e4 : A = some a := ho _ (by simp)
    subst e4
    refine ⟨w, .inl ?_, hS, hn, fun _ => ⟨rfl, rfl⟩⟩
    have ea : a.add (m * i.size) = ⟨a.block, a.off + m * i.size, none⟩ := by
      unfold Addr.add
      split
      · rename_i h0; cases a; simp_all
      · rfl
    obtain ⟨dst, op, type, pos, after, guard⟩ := o
    cases hop
    subst e1
    have h1 : (underlying t).run P w = .ok (.slice e) w := run_underlying hu w
    have h2 : (sizeOf e).run P w = .ok i.size w := runsize hi w
    simp [execOp, Instr.indexAt, hx, hix, go_sem, h1, h2, e2, ea]
  · rename_i m _ _ t x ix hop _ e hu _ i hi _ len cap _ k z hix _ _ _ a hx
    cases hr
    have e1 : z = (m : Int) := ho _ (by simp)
    have e2 : m < len := ho _ (by simp)
    have e3 : a.spot = none := ho _ (by simp)
    refine ⟨w, .inl ?_, hS, hn, fun _ => ⟨rfl, rfl⟩⟩
    have ea : a.add (m * i.size) = ⟨a.block, a.off + m * i.size, none⟩ := by
      unfold Addr.add
      split
      · rename_i h0; cases a; simp_all
      · rfl
    obtain ⟨dst, op, type, pos, after, guard⟩ := o
    cases hop
    subst e1
    have h1 : (underlying t).run P w = .ok (.slice e) w := run_underlying hu w
    have h2 : (sizeOf e).run P w = .ok i.size w := runsize hi w
    simp [execOp, Instr.indexAt, hx, hix, go_sem, h1, h2, e2, ea]
  · rename_i m _ _ t x ix hop _ hu _ s hx _ k z hix
    cases hr
    have e1 : z = (m : Int) := ho _ (by simp)
    have e2 : m < s.size := ho _ (by simp)
    refine ⟨w, .inl ?_, hS, hn, fun _ => ⟨rfl, rfl⟩⟩
    obtain ⟨dst, op, type, pos, after, guard⟩ := o
    cases hop
    subst e1
    have h1 : (underlying t).run P w = .ok .string w := run_underlying hu w
    simp [execOp, Instr.index, hx, hix, go_sem, h1, e2]
    rfl
  · rename_i _ m _ _ t x mx _ hu _ s hx lo hi hv hop _ k z hz
    cases hr
    have e1 : z = (m : Int) := ho _ (by simp)
    have e2 : m ≤ s.size := ho _ (by simp)
    refine ⟨w, .inl ?_, hS, hn, fun _ => ⟨rfl, rfl⟩⟩
    have h1 : (underlying t).run P w = .ok .string w := run_underlying hu w
    obtain ⟨dst, op, type, pos, after, guard⟩ := o
    cases hop
    subst e1
    simp [execOp, Instr.sliceAt, Instr.slice, Instr.sliceBounds, Instr.sliceBound, asIntOf, hx, hz, go_sem, h1, e2]
  · rename_i _ m _ _ t x mx _ hu _ s hx lo hi lv hop _ k z hz
    cases hr
    have e1 : z = (m : Int) := ho _ (by simp)
    have e2 : m ≤ s.size := ho _ (by simp)
    refine ⟨w, .inl ?_, hS, hn, fun _ => ⟨rfl, rfl⟩⟩
    have h1 : (underlying t).run P w = .ok .string w := run_underlying hu w
    obtain ⟨dst, op, type, pos, after, guard⟩ := o
    cases hop
    subst e1
    simp [execOp, Instr.sliceAt, Instr.slice, Instr.sliceBounds, Instr.sliceBound, asIntOf, hx, hz, go_sem, h1, e2]
  · rename_i _ m _ _ t x mx _ hu _ s hx lo hi lv hv hop _ m2 hm2 _ k y hy _ k' z hz
    cases hr
    have e1 : z = (m : Int) := ho _ (by simp)
    have e1' : y = (m2 : Int) := ho _ (by simp)
    have e2 : m ≤ s.size := ho _ (by simp)
    have e3 : m2 ≤ m := ho _ (by simp)
    refine ⟨w, .inl ?_, hS, hn, fun _ => ⟨rfl, rfl⟩⟩
    have h1 : (underlying t).run P w = .ok .string w := run_underlying hu w
    obtain ⟨dst, op, type, pos, after, guard⟩ := o
    cases hop
    subst e1
    subst e1'
    simp [execOp, Instr.sliceAt, Instr.slice, Instr.sliceBounds, Instr.sliceBound, asIntOf, hx, hy, hz, go_sem, h1, e2, e3]
  · rename_i _ m _ _ t x mx _ e hu _ i hi _ A len cap hx lo hi' hv hop _ k z hz
    cases hr
    have e1 : z = (m : Int) := ho _ (by simp)
    have e2 : m ≤ cap := ho _ (by simp)
    refine ⟨w, .inl ?_, hS, hn, fun _ => ⟨rfl, rfl⟩⟩
    have h1 : (underlying t).run P w = .ok (.slice e) w := run_underlying hu w
    have h2 : (sizeOf e).run P w = .ok i.size w := runsize hi w
    obtain ⟨dst, op, type, pos, after, guard⟩ := o
    cases hop
    subst e1
    cases A <;> simp [execOp, Instr.sliceAt, Instr.slice, Instr.sliceBounds, Instr.sliceBound, asIntOf, hx, hz, go_sem, h1, h2, e2, Addr.add]
  · rename_i _ m _ _ t x mx _ e hu _ i hi _ A len cap hx lo hi' lv hop _ k z hz _ a _
    cases hr
    have e1 : z = (m : Int) := ho _ (by simp)
    have e2 : m ≤ len := ho _ (by simp)
    have e3 : m < cap := ho _ (by simp)
    have e4 : a.spot = none := ho _ (by simp)
    have e6 : A = some a := ho _ (by simp)
    subst e6
    refine ⟨w, .inl ?_, hS, hn, fun _ => ⟨rfl, rfl⟩⟩
    have h1 : (underlying t).run P w = .ok (.slice e) w := run_underlying hu w
    have h2 : (sizeOf e).run P w = .ok i.size w := runsize hi w
    have ea : a.add (m * i.size) = ⟨a.block, a.off + m * i.size, none⟩ := by
      unfold Addr.add
      split
      · rename_i h0; cases a; simp_all
      · rfl
    have e5 : ¬ cap = m := by omega
    obtain ⟨dst, op, type, pos, after, guard⟩ := o
    cases hop
    subst e1
    simp [execOp, Instr.sliceAt, Instr.slice, Instr.sliceBounds, Instr.sliceBound, asIntOf, hx, hz, go_sem, h1, h2, e2, e5, ea]
  · rename_i _ m _ _ t x mx _ e hu _ i hi _ len cap lo hi' lv hop _ k z hz _ _ _ a hx
    cases hr
    have e1 : z = (m : Int) := ho _ (by simp)
    have e2 : m ≤ len := ho _ (by simp)
    have e3 : m < cap := ho _ (by simp)
    have e4 : a.spot = none := ho _ (by simp)
    refine ⟨w, .inl ?_, hS, hn, fun _ => ⟨rfl, rfl⟩⟩
    have h1 : (underlying t).run P w = .ok (.slice e) w := run_underlying hu w
    have h2 : (sizeOf e).run P w = .ok i.size w := runsize hi w
    have ea : a.add (m * i.size) = ⟨a.block, a.off + m * i.size, none⟩ := by
      unfold Addr.add
      split
      · rename_i h0; cases a; simp_all
      · rfl
    have e5 : ¬ cap = m := by omega
    obtain ⟨dst, op, type, pos, after, guard⟩ := o
    cases hop
    subst e1
    simp [execOp, Instr.sliceAt, Instr.slice, Instr.sliceBounds, Instr.sliceBound, asIntOf, hx, hz, go_sem, h1, h2, e2, e5, ea]
theorem orun_obl (hr : orun P β n ro ev o h S = some (v, S')) : ∀ p, p ∈ S.obl → p ∈ S'.obl := by
  intro p hp
  unfold orun at hr
  repeat' split at hr
  all_goals first | (cases hr; done) | skip
  · rename_i h0 _ _; cases hr; exact orun0_obl h0 p hp
  · rename_i h0 _ _ _; cases hr; exact List.mem_cons_of_mem _ (orun0_obl h0 p hp)
theorem orun_sound {w : World} (hr : orun P β n ro ev o h S = some (v, S')) (ho : ∀ p, p ∈ S'.obl → p) (hS : Sat β S.hps w) (hn : S.used = false → n = w.heap.size) :
    ∃ w', Ran P ev o w v w' ∧ Sat β S'.hps w' ∧ (S'.used = false → n = w'.heap.size) ∧ (ro = true → w' = w ∧ S'.hps = S.hps) := by
  unfold orun at hr
  repeat' split at hr
  all_goals first | (cases hr; done) | skip
  · rename_i h0 _ _; cases hr; exact orun0_sound h0 ho hS hn
  · rename_i v0 S0 h0 _ v' _
    cases hr
    have e : v0 = v := ho _ List.mem_cons_self
    subst e
    exact orun0_sound (S' := S0) h0 (fun p hp => ho p (List.mem_cons_of_mem _ hp)) hS hn
theorem orun0_ro (hr : orun0 P β n true ev o h S = some (v, S')) : S'.hps = S.hps ∧ S'.used = S.used := by
  unfold orun0 at hr
  repeat' split at hr
  all_goals first | (cases hr; done) | skip
  · rename_i h0; cases hr; (have h' := srun_ro _ _ _ _ h0; exact h')
  · rename_i h0; cases hr; (have h' := srun_ro _ _ _ _ h0; exact h')
  all_goals (cases hr; exact ⟨rfl, rfl⟩)
theorem orun_ro (hr : orun P β n true ev o h S = some (v, S')) : S'.hps = S.hps ∧ S'.used = S.used := by
  unfold orun at hr
  repeat' split at hr
  all_goals first | (cases hr; done) | skip
  · rename_i h0 _ _; cases hr; exact orun0_ro h0
  · rename_i v0 S0 h0 _ v' _; cases hr; exact orun0_ro (S' := S0) h0
end orun
end Go.Proofs.Ytjpdcppdoonmdaa
end
/- part Vj. PROVED HERE: the judgements of the logic: a run of operations within a region, code; calls, loops, branches. CONDITIONS: none. No statement of the seat is proved here. -/
section
namespace Go.Proofs.Ytjpdcppdoonmdaa
open Go.RowKit

/-- operations of a region from place k on -/
def oruns (P : Program) (β : Bs) (n : Nat) (ro : Bool) (N : Nat) (junk : Nat → Value) (ops : Array Oper) : List OH → Nat → Fr → SS → Option (Nat × Fr × SS)
  | [], k, fr, S => some (k, fr, S)
  | h :: hs, k, fr, S =>
    match ops.toList[k]? with
    | none => none
    | some o =>
      match Region.wanted o (yF ops N fr junk) with
      | true =>
        match orun P β n ro (evF N fr junk) o h S with
        | some (v, S') => oruns P β n ro N junk ops hs (k + 1) (putF fr o.dst v) S'
        | none => none
      | false => oruns P β n ro N junk ops hs (k + 1) (putF fr o.dst undef) S

/-- the whole of a run: what is kept of frame and memory, and what is owed -/
def segrun (P : Program) (β : Bs) (n : Nat) (ro : Bool) (N : Nat) (junk : Nat → Value) (ops : Array Oper) (hs : List OH) (k : Nat) (fr : Fr) (hps : List HP) (idx pk : List Nat) : Option (Nat × Fr × List HP × List Prop) :=
  match oruns P β n ro N junk ops hs k fr ⟨[], hps, [], ro⟩ with
  | some (k', fr', S) =>
    match nodupB pk with
    | true =>
      match pickL S.hps pk with
      | some l => some (k', pickF fr' junk idx, l, S.obl)
      | none => none
    | false => none
  | none => none

section runs
variable {P : Program} {β : Bs} {n : Nat} {ro : Bool} {N : Nat} {junk : Nat → Value} {ops : Array Oper}
theorem oruns_obl : ∀ {hs : List OH} {k k' : Nat} {fr fr' : Fr} {S S' : SS}, oruns P β n ro N junk ops hs k fr S = some (k', fr', S') → ∀ p, p ∈ S.obl → p ∈ S'.obl
  | [], k, k', fr, fr', S, S', h, p, hp => by cases h; exact hp
  | h :: hs, k, k', fr, fr', S, S', hr, p, hp => by
    unfold oruns at hr
    repeat' split at hr
    all_goals first | (cases hr; done) | skip
    · rename_i h0; exact oruns_obl hr p (orun_obl h0 p hp)
    · exact oruns_obl hr p hp
theorem drop_cons {ops : Array Oper} {k : Nat} {o : Oper} (h : ops.toList[k]? = some o) : ops.toList.drop k = o :: ops.toList.drop (k + 1) := by
  have hk := len_of_some h
  rw [List.drop_eq_getElem_cons hk]
  rw [List.getElem?_eq_getElem hk] at h
  cases h
  rfl
theorem wp_of_ran {o : Oper} {a : Act} {w w' : World} {v : Value} {K : Act → World → Prop} {Q : Exit → Act → World → Prop} (h : Ran P a.eval o w v w') (hk : K (a.put o.dst v) w') : o.wp P a w K Q := by
  unfold Oper.wp
  rcases h with h | ⟨rfl, h⟩
  · rw [h]; exact hk
  · rw [h]; exact hk
theorem oruns_sound {Q : Exit → Act → World → Prop} : ∀ {hs : List OH} {k k' : Nat} {fr fr' : Fr} {S S' : SS} {w : World}, oruns P β n ro N junk ops hs k fr S = some (k', fr', S') → (∀ p, p ∈ S'.obl → p) → Sat β S.hps w → (S.used = false → n = w.heap.size) →
    (∀ w', Sat β S'.hps w' → wpList P ops Q (ops.toList.drop k') (mkA N fr' junk) w') → wpList P ops Q (ops.toList.drop k) (mkA N fr junk) w
  | [], k, k', fr, fr', S, S', w, h, ho, hS, hn, hK => by cases h; exact hK w hS
  | h :: hs, k, k', fr, fr', S, S', w, hr, ho, hS, hn, hK => by
    unfold oruns at hr
    split at hr
    · cases hr
    rename_i o hget
    rw [drop_cons hget]
    unfold wpList
    have hw : Region.wanted o (yielded ops (mkA N fr junk).tmps) = Region.wanted o (yF ops N fr junk) := by
      have : yielded ops (mkA N fr junk).tmps = yF ops N fr junk := funext (yF_eq ops N fr junk)
      rw [this]
    rw [hw]
    split at hr
    · rename_i hwt
      rw [if_pos hwt]
      split at hr
      · rename_i v S1 h0
        obtain ⟨w', h1, h2, h3, _⟩ := orun_sound h0 (fun p hp => ho p (oruns_obl hr p hp)) hS hn
        refine .inl (wp_of_ran (v := v) (w' := w') (by rw [mkA_eval]; exact h1) ?_)
        rw [mkA_put]
        exact oruns_sound hr ho h2 h3 hK
      · cases hr
    · rename_i hwf
      rw [if_neg (by simp [hwf])]
      rw [mkA_put]
      exact oruns_sound hr ho hS hn hK
/-- the same where the order is drawn: reads alone -/
theorem oruns_quiet {Q : Act → Prop} : ∀ {hs : List OH} {k k' : Nat} {fr fr' : Fr} {S S' : SS}, oruns P β n true N junk ops hs k fr S = some (k', fr', S') → (∀ p, p ∈ S'.obl → p) → S.used = true →
    (S'.hps = S.hps → wpQuiet P ops (Sat β S.hps) Q (ops.toList.drop k') (mkA N fr' junk)) → wpQuiet P ops (Sat β S.hps) Q (ops.toList.drop k) (mkA N fr junk)
  | [], k, k', fr, fr', S, S', h, ho, hu, hK => by cases h; exact hK rfl
  | h :: hs, k, k', fr, fr', S, S', hr, ho, hu, hK => by
    unfold oruns at hr
    split at hr
    · cases hr
    rename_i o hget
    rw [drop_cons hget]
    unfold wpQuiet
    have hw : Region.wanted o (yielded ops (mkA N fr junk).tmps) = Region.wanted o (yF ops N fr junk) := by
      have : yielded ops (mkA N fr junk).tmps = yF ops N fr junk := funext (yF_eq ops N fr junk)
      rw [this]
    rw [hw]
    split at hr
    · rename_i hwt
      rw [if_pos hwt]
      split at hr
      · rename_i v S1 h0
        obtain ⟨e1, e2⟩ := orun_ro h0
        refine ⟨v, fun w hS => ?_, ?_⟩
        · obtain ⟨w', h1, h2, h3, h4⟩ := orun_sound h0 (fun p hp => ho p (oruns_obl hr p hp)) hS (fun e => by rw [hu] at e; cases e)
          obtain ⟨rfl, e⟩ := h4 rfl
          unfold Oper.quietAt
          rw [mkA_eval]
          rcases h1 with h1 | ⟨h1, h1'⟩
          · rw [h1]; exact ⟨rfl, rfl⟩
          · rw [h1']; exact ⟨rfl, h1⟩
        · rw [mkA_put, ← e1]
          exact oruns_quiet hr ho (e2.trans hu) (fun e => by rw [e1]; exact hK (e.trans e1))
      · cases hr
    · rename_i hwf
      rw [if_neg (by simp [hwf])]
      rw [mkA_put]
      exact oruns_quiet hr ho hu hK
end runs
end Go.Proofs.Ytjpdcppdoonmdaa
end
/- part Vk. PROVED HERE: the rules of the logic: code, calls, loops, branches, regions that draw their order, a function's contract. CONDITIONS: none. No statement of the seat is proved here. -/
section
namespace Go.Proofs.Ytjpdcppdoonmdaa
open Go.RowKit

abbrev Post := Exit → Act → World → Prop

def TriL (P : Program) (β : Bs) (N : Nat) (ops : Array Oper) (k : Nat) (fr : Fr) (hps : List HP) (Q : Post) : Prop :=
  ∀ junk w, Sat β hps w → wpList P ops Q (ops.toList.drop k) (mkA N fr junk) w
def TriLQ (P : Program) (β : Bs) (N : Nat) (ops : Array Oper) (k : Nat) (fr : Fr) (hps : List HP) (Q : Post) : Prop :=
  ∀ junk, wpQuiet P ops (Sat β hps) (fun a' => ∀ w', Sat β hps w' → Q .normal a' w') (ops.toList.drop k) (mkA N fr junk)
def Tri (P : Program) (β : Bs) (N : Nat) (c : Code) (fr : Fr) (hps : List HP) (Q : Post) : Prop :=
  ∀ junk w, Sat β hps w → c.wp P Q (mkA N fr junk) w
def TriQ (β : Bs) (N : Nat) (Q : Post) (e : Exit) (fr : Fr) (hps : List HP) : Prop :=
  ∀ junk w, Sat β hps w → Q e (mkA N fr junk) w

section rules
variable {P : Program} {β : Bs} {N : Nat} {ops : Array Oper} {k k' : Nat} {fr fr' : Fr} {hps hps' : List HP} {Q : Post} {obl : List Prop} {c x y : Code} {e : Exit}

theorem seg_spec {n : Nat} {ro : Bool} {junk : Nat → Value} {hs : List OH} {idx pk : List Nat} (h : segrun P β n ro N junk ops hs k fr hps idx pk = some (k', fr', hps', obl)) :
    ∃ fr1 S, oruns P β n ro N junk ops hs k fr ⟨[], hps, [], ro⟩ = some (k', fr1, S) ∧ nodupB pk = true ∧ pickL S.hps pk = some hps' ∧ fr' = pickF fr1 junk idx ∧ S.obl = obl := by
  unfold segrun at h
  repeat' split at h
  all_goals first | (cases h; done) | skip
  rename_i k1 fr1 S h1 _ h2 _ l h3
  cases h
  exact ⟨fr1, S, h1, h2, h3, rfl, rfl⟩

/-- a run of operations; 'n' is the block that it makes -/
theorem TriL.segN {fr' : Nat → Fr} {hps' : Nat → List HP} {obl : Nat → List Prop} (hs : List OH) (idx pk : List Nat) (h : ∀ n junk, segrun P β n false N junk ops hs k fr hps idx pk = some (k', fr' n, hps' n, obl n))
    (ho : ∀ n, AllP (obl n)) (K : ∀ n, TriL P β N ops k' (fr' n) (hps' n) Q) : TriL P β N ops k fr hps Q := by
  intro junk w hS
  obtain ⟨fr1, S, h1, h2, h3, h4, h5⟩ := seg_spec (h w.heap.size junk)
  refine oruns_sound h1 (fun p hp => (ho _).mem (h5 ▸ hp)) hS (fun _ => rfl) (fun w' hS' => ?_)
  have hk := K w.heap.size (lk fr1 junk) w' (hS'.pick h2 h3)
  rw [h4, ← mkA_pick] at hk
  exact hk
theorem TriL.seg (hs : List OH) (idx pk : List Nat) (h : ∀ n junk, segrun P β n false N junk ops hs k fr hps idx pk = some (k', fr', hps', obl))
    (ho : AllP obl) (K : TriL P β N ops k' fr' hps' Q) : TriL P β N ops k fr hps Q :=
  TriL.segN (fr' := fun _ => fr') (hps' := fun _ => hps') (obl := fun _ => obl) hs idx pk h (fun _ => ho) (fun _ => K)
/-- .. that leaves memory as it was -/
theorem TriL.segK (hs : List OH) (idx : List Nat) (h : ∀ n junk, segrun P β n false N junk ops hs k fr hps idx (List.range hps.length) = some (k', fr', hps, obl))
    (ho : AllP obl) (K : TriL P β N ops k' fr' hps Q) : TriL P β N ops k fr hps Q := TriL.seg hs idx (List.range hps.length) h ho K
theorem TriLQ.seg (hs : List OH) (idx : List Nat) (h : ∀ n junk, segrun P β n true N junk ops hs k fr hps idx (List.range hps.length) = some (k', fr', hps, obl))
    (ho : AllP obl) (K : TriLQ P β N ops k' fr' hps Q) : TriLQ P β N ops k fr hps Q := by
  intro junk
  obtain ⟨fr1, S, h1, h2, h3, h4, h5⟩ := seg_spec (h 0 junk)
  refine oruns_quiet h1 (fun p hp => ho.mem (h5 ▸ hp)) rfl (fun _ => ?_)
  have hk := K (lk fr1 junk)
  rw [h4, ← mkA_pick] at hk
  exact hk
theorem TriL.nil (h : ops.toList.drop k = []) (K : TriQ β N Q .normal fr hps) : TriL P β N ops k fr hps Q := by
  intro junk w hS
  rw [h]
  exact K junk w hS
theorem TriLQ.nil (h : ops.toList.drop k = []) (K : TriQ β N Q .normal fr hps) : TriLQ P β N ops k fr hps Q := by
  intro junk
  rw [h]
  exact fun w' hS' => K junk w' hS'
theorem TriL.wk {idx pk : List Nat} (hf : ∀ junk, pickF fr junk idx = fr') (hn : nodupB pk = true) (hp : pickL hps pk = some hps') (K : TriL P β N ops k fr' hps' Q) : TriL P β N ops k fr hps Q := by
  intro junk w hS
  have hk := K (lk fr junk) w (hS.pick hn hp)
  rw [← hf junk, ← mkA_pick] at hk
  exact hk
theorem TriQ.wk {idx pk : List Nat} (hf : ∀ junk, pickF fr junk idx = fr') (hn : nodupB pk = true) (hp : pickL hps pk = some hps') (K : TriQ β N Q e fr' hps') : TriQ β N Q e fr hps := by
  intro junk w hS
  have hk := K (lk fr junk) w (hS.pick hn hp)
  rw [← hf junk, ← mkA_pick] at hk
  exact hk
theorem Tri.wk {idx pk : List Nat} (hf : ∀ junk, pickF fr junk idx = fr') (hn : nodupB pk = true) (hp : pickL hps pk = some hps') (K : Tri P β N c fr' hps' Q) : Tri P β N c fr hps Q := by
  intro junk w hS
  have hk := K (lk fr junk) w (hS.pick hn hp)
  rw [← hf junk, ← mkA_pick] at hk
  exact hk
/-- what memory tells -/
theorem TriL.tell {p : Prop} (h : ∀ w, Sat β hps w → p) (K : p → TriL P β N ops k fr hps Q) : TriL P β N ops k fr hps Q := fun junk w hS => K (h w hS) junk w hS
theorem Tri.tell {p : Prop} (h : ∀ w, Sat β hps w → p) (K : p → Tri P β N c fr hps Q) : Tri P β N c fr hps Q := fun junk w hS => K (h w hS) junk w hS
theorem TriQ.tell {p : Prop} (h : ∀ w, Sat β hps w → p) (K : p → TriQ β N Q e fr hps) : TriQ β N Q e fr hps := fun junk w hS => K (h w hS) junk w hS
/-- memory told otherwise -/
theorem TriL.mem (h : ∀ w, Sat β hps w → Sat β hps' w) (K : TriL P β N ops k fr hps' Q) : TriL P β N ops k fr hps Q := fun junk w hS => K junk w (h w hS)
theorem Tri.mem (h : ∀ w, Sat β hps w → Sat β hps' w) (K : Tri P β N c fr hps' Q) : Tri P β N c fr hps Q := fun junk w hS => K junk w (h w hS)
theorem TriQ.mem (h : ∀ w, Sat β hps w → Sat β hps' w) (K : TriQ β N Q e fr hps') : TriQ β N Q e fr hps := fun junk w hS => K junk w (h w hS)
theorem TriL.memE {ι : Type} {hp : ι → List HP} (h : ∀ w, Sat β hps w → ∃ i, Sat β (hp i) w) (K : ∀ i, TriL P β N ops k fr (hp i) Q) : TriL P β N ops k fr hps Q := fun junk w hS => let ⟨i, hi⟩ := h w hS; K i junk w hi
theorem Tri.memE {ι : Type} {hp : ι → List HP} (h : ∀ w, Sat β hps w → ∃ i, Sat β (hp i) w) (K : ∀ i, Tri P β N c fr (hp i) Q) : Tri P β N c fr hps Q := fun junk w hS => let ⟨i, hi⟩ := h w hS; K i junk w hi

/-! ### code -/
theorem Tri.seq (h : Tri P β N x fr hps (Exit.then (y.wp P Q) Q)) : Tri P β N (.seq x y) fr hps Q := fun junk w hS => wp_seq (h junk w hS)
theorem TriQ.next (h : Tri P β N y fr hps Q) : TriQ β N (Exit.then (y.wp P Q) Q) .normal fr hps := fun junk w hS => h junk w hS
theorem TriQ.passExit {K : Act → World → Prop} {id : Nat} (h : TriQ β N Q (.exit id) fr hps) : TriQ β N (Exit.then K Q) (.exit id) fr hps := fun junk w hS => h junk w hS
theorem TriQ.passRet {K : Act → World → Prop} (h : TriQ β N Q .ret fr hps) : TriQ β N (Exit.then K Q) .ret fr hps := fun junk w hS => h junk w hS
theorem Tri.block {id : Nat} (h : Tri P β N c fr hps (Exit.inBlock id Q)) : Tri P β N (.block id c) fr hps Q := fun junk w hS => wp_block (h junk w hS)
theorem TriQ.blockNormal {id : Nat} (h : TriQ β N Q .normal fr hps) : TriQ β N (Exit.inBlock id Q) .normal fr hps := fun junk w hS => h junk w hS
theorem TriQ.blockRet {id : Nat} (h : TriQ β N Q .ret fr hps) : TriQ β N (Exit.inBlock id Q) .ret fr hps := fun junk w hS => h junk w hS
theorem TriQ.blockHit {id : Nat} (h : TriQ β N Q .normal fr hps) : TriQ β N (Exit.inBlock id Q) (.exit id) fr hps := fun junk w hS => by
  show (if id = id then Q .normal _ _ else _)
  rw [if_pos rfl]
  exact h junk w hS
theorem TriQ.blockMiss {id id' : Nat} (hne : id' ≠ id) (h : TriQ β N Q (.exit id') fr hps) : TriQ β N (Exit.inBlock id Q) (.exit id') fr hps := fun junk w hS => by
  show (if id' = id then Q .normal _ _ else Q (.exit id') _ _)
  rw [if_neg hne]
  exact h junk w hS
theorem Tri.skip (h : TriQ β N Q .normal fr hps) : Tri P β N .skip fr hps Q := fun junk w hS => wp_skip (h junk w hS)
theorem Tri.exit {id : Nat} (h : TriQ β N Q (.exit id) fr hps) : Tri P β N (.exit id) fr hps Q := fun junk w hS => wp_exit (h junk w hS)
theorem Tri.ret (h : TriQ β N Q .ret fr hps) : Tri P β N .ret fr hps Q := fun junk w hS => wp_ret (h junk w hS)
theorem Tri.cond {o : Operand} {b : Bool} (h : ∀ junk, evF N fr junk o = .bool b) (ht : b = true → Tri P β N x fr hps Q) (hf : b = false → Tri P β N y fr hps Q) : Tri P β N (.cond o x y) fr hps Q :=
  fun junk w hS => wp_cond_split (by rw [mkA_eval]; exact h junk) (fun e => ht e junk w hS) (fun e => hf e junk w hS)
theorem Tri.condT {o : Operand} (h : ∀ junk, evF N fr junk o = .bool true) (ht : Tri P β N x fr hps Q) : Tri P β N (.cond o x y) fr hps Q := Tri.cond h (fun _ => ht) (fun e => by cases e)
theorem Tri.condF {o : Operand} (h : ∀ junk, evF N fr junk o = .bool false) (hf : Tri P β N y fr hps Q) : Tri P β N (.cond o x y) fr hps Q := Tri.cond h (fun e => by cases e) (fun _ => hf)
theorem Tri.condP {o : Operand} {p : Prop} [Decidable p] (h : ∀ junk, evF N fr junk o = .bool (decide p)) (ht : p → Tri P β N x fr hps Q) (hf : ¬ p → Tri P β N y fr hps Q) : Tri P β N (.cond o x y) fr hps Q :=
  Tri.cond h (fun e => ht (of_decide_eq_true e)) (fun e => hf (of_decide_eq_false e))
theorem Tri.region {id : Nat} (h : TriL P β N ops 0 fr hps Q) : Tri P β N (.region id ops false) fr hps Q := fun junk w hS => wp_region_list (h junk w hS)
theorem Tri.regionQ {id : Nat} (hm : P.follows .mixedOrders = true) (hB : Region.lexB .any ops = true) (h : TriLQ P β N ops 0 fr hps Q) : Tri P β N (.region id ops true) fr hps Q :=
  fun junk _ hS => wp_region_quiet hm hB (hS.drewN 1) (h junk)
/-- a slot told otherwise -/
theorem Tri.slot {i : Nat} {v v' : Value} {r : Fr} (hv : v = v') (h : Tri P β N c ((i, v') :: r) hps Q) : Tri P β N c ((i, v) :: r) hps Q := hv ▸ h

/-- ways meet again -/
def Meet (β : Bs) (N : Nat) {ι : Type} (Inv : ι → Prop) (fr : ι → Fr) (hp : ι → List HP) : Act → World → Prop := fun a w => ∃ i, Inv i ∧ ∃ junk, a = mkA N (fr i) junk ∧ Sat β (hp i) w
theorem Tri.join {ι : Type} (Inv : ι → Prop) (fr' : ι → Fr) (hp' : ι → List HP) (hr : ∀ i, Inv i → Tri P β N y (fr' i) (hp' i) Q) (hf : Tri P β N x fr hps (Exit.then (Meet β N Inv fr' hp') Q)) : Tri P β N (.seq x y) fr hps Q :=
  fun junk w hS => wp_seq (Code.wp_mono (fun e a w q => by
    cases e with
    | normal =>
      obtain ⟨i, hi, junk, rfl, hS⟩ := q
      exact hr i hi junk w hS
    | exit id => exact q
    | goto l => exact q
    | ret => exact q
    | panic ch => exact q
    | outgrown => exact q) (hf junk w hS))
theorem TriQ.meet {ι : Type} {Inv : ι → Prop} {fr' : ι → Fr} {hp' : ι → List HP} (i : ι) {idx pk : List Nat} (hi : Inv i) (hf : ∀ junk, pickF fr junk idx = fr' i) (hn : nodupB pk = true) (hp : pickL hps pk = some (hp' i)) :
    TriQ β N (Exit.then (Meet β N Inv fr' hp') Q) .normal fr hps := fun junk w hS => ⟨i, hi, lk fr junk, by rw [mkA_pick N fr junk idx, hf junk], hS.pick hn hp⟩

/-- a loop: the rounds are told by 'i', of which 'μ' goes down -/
def Turn (β : Bs) (N : Nat) {ι : Type} (Inv : ι → Prop) (μ : ι → Nat) (fr : ι → Fr) (hp : ι → List HP) (m : Nat) : Act → World → Prop := fun a w => ∃ i, Inv i ∧ μ i < m ∧ ∃ junk, a = mkA N (fr i) junk ∧ Sat β (hp i) w
theorem Tri.loop {ι : Type} (Inv : ι → Prop) (μ : ι → Nat) (fr' : ι → Fr) (hp' : ι → List HP) (i0 : ι) {idx pk : List Nat} (h0 : Inv i0) (hf : ∀ junk, pickF fr junk idx = fr' i0) (hn : nodupB pk = true) (hp : pickL hps pk = some (hp' i0))
    (round : ∀ i, Inv i → Tri P β N c (fr' i) (hp' i) (Exit.then (Turn β N Inv μ fr' hp' (μ i)) Q)) : Tri P β N (.loop c) fr hps Q := by
  intro junk w hS
  refine wp_loop_ghost (fun n a w => ∃ i, Inv i ∧ μ i = n ∧ ∃ junk, a = mkA N (fr' i) junk ∧ Sat β (hp' i) w) (μ i0) ⟨i0, h0, rfl, lk fr junk, by rw [mkA_pick N fr junk idx, hf junk], hS.pick hn hp⟩ ?_
  rintro n a w ⟨i, hi, rfl, junk, rfl, hS⟩
  refine Code.wp_mono (fun e a w q => ?_) (round i hi junk w hS)
  cases e with
  | normal =>
    obtain ⟨i', hi', hlt, junk', e, hS'⟩ := q
    exact ⟨μ i', hlt, i', hi', rfl, junk', e, hS'⟩
  | exit id => exact q
  | goto l => exact q
  | ret => exact q
  | panic ch => exact q
  | outgrown => exact q
theorem TriQ.turn {ι : Type} {Inv : ι → Prop} {μ : ι → Nat} {fr' : ι → Fr} {hp' : ι → List HP} {m : Nat} (i : ι) {idx pk : List Nat} (hi : Inv i) (hm : μ i < m) (hf : ∀ junk, pickF fr junk idx = fr' i) (hn : nodupB pk = true) (hp : pickL hps pk = some (hp' i)) :
    TriQ β N (Exit.then (Turn β N Inv μ fr' hp' m) Q) .normal fr hps := fun junk w hS => ⟨i, hi, hm, lk fr junk, by rw [mkA_pick N fr junk idx, hf junk], hS.pick hn hp⟩
end rules

/-! ### contracts -/
/-- parts taken together -/
def bund (R : List HP) : Asn where
  h F w := ∃ φ : Nat → Fp, (∀ (i : Nat) (p : HP), R[i]? = some p → p.h (φ i) w) ∧ (∀ i j, i < R.length → j < R.length → i ≠ j → Apart (φ i) (φ j)) ∧ ∀ k, F k ↔ ∃ i, i < R.length ∧ φ i k
  lt := by
    rintro F w ⟨φ, h1, h2, h3⟩ k hk
    obtain ⟨i, hi, hk⟩ := (h3 k).1 hk
    obtain ⟨p, hp⟩ := some_of_len hi
    exact HP.lt (h1 i p hp) k hk
  st := by
    rintro F w ⟨φ, h1, h2, h3⟩ S w' hk hn
    exact ⟨φ, fun i p hp => HP.st (h1 i p hp) hk (fun k h => hn k ((h3 k).2 ⟨i, len_of_some hp, h⟩)), h2, h3⟩
section contracts
variable {P : Program} {β : Bs} {l R : List HP} {w : World}
theorem Sat.bund (h : Sat β (l ++ R) w) : Sat β (l ++ [.abs (bund R)]) w := by
  obtain ⟨ho, φ, h1, h2, h3⟩ := h
  have hl : (l ++ R).length = l.length + R.length := List.length_append
  refine ⟨ho, fun i => if i < l.length then φ i else fun k => ∃ j, j < R.length ∧ φ (l.length + j) k, fun i p hp => ?_, fun i hi k hk hO => ?_, fun i j hi hj hne k hk hk' => ?_⟩
  · by_cases e : i < l.length
    · rw [List.getElem?_append_left e] at hp
      simp only [e, if_true]
      exact h1 i p (by rw [List.getElem?_append_left e]; exact hp)
    · have hi : i = l.length := by have := len_of_some hp; simp at this; omega
      subst hi
      simp at hp
      subst hp
      simp only [Nat.lt_irrefl, if_false]
      refine ⟨fun j => φ (l.length + j), fun j p hp => h1 _ p (by rw [List.getElem?_append_right (by omega)]; simpa using hp), fun i j hi hj hne => h3 _ _ (by omega) (by omega) (by omega), fun k => Iff.rfl⟩
  · by_cases e : i < l.length
    · simp only [e, if_true] at hk
      exact h2 i (by omega) k hk hO
    · simp only [e, if_false] at hk
      obtain ⟨j, hj, hk⟩ := hk
      exact h2 _ (by omega) k hk hO
  · simp at hi hj
    by_cases e1 : i < l.length
    · simp only [e1, if_true] at hk
      by_cases e2 : j < l.length
      · simp only [e2, if_true] at hk'
        exact h3 i j (by omega) (by omega) hne k hk hk'
      · simp only [e2, if_false] at hk'
        obtain ⟨t, ht, hk'⟩ := hk'
        exact h3 i (l.length + t) (by omega) (by omega) (by omega) k hk hk'
    · simp only [e1, if_false] at hk
      obtain ⟨t, ht, hk⟩ := hk
      by_cases e2 : j < l.length
      · simp only [e2, if_true] at hk'
        exact h3 j (l.length + t) (by omega) (by omega) (by omega) k hk' hk
      · omega
theorem Sat.unbund (h : Sat β (l ++ [.abs (Go.Proofs.Ytjpdcppdoonmdaa.bund R)]) w) : Sat β (l ++ R) w := by
  obtain ⟨ho, φ, h1, h2, h3⟩ := h
  have hl : (l ++ R).length = l.length + R.length := List.length_append
  have hl' : (l ++ [HP.abs (Go.Proofs.Ytjpdcppdoonmdaa.bund R)]).length = l.length + 1 := by simp
  obtain ⟨ψ, q1, q2, q3⟩ := h1 l.length (.abs (Go.Proofs.Ytjpdcppdoonmdaa.bund R)) (by simp)
  have hsub : ∀ i, l.length ≤ i → i < l.length + R.length → ∀ k, ψ (i - l.length) k → φ l.length k := fun i h1 h2 k hk => (q3 k).2 ⟨i - l.length, by omega, hk⟩
  refine ⟨ho, fun i => if i < l.length then φ i else ψ (i - l.length), fun i p hp => ?_, fun i hi k hk hO => ?_, fun i j hi hj hne k hk hk' => ?_⟩
  · by_cases e : i < l.length
    · rw [List.getElem?_append_left e] at hp
      simp only [e, if_true]
      exact h1 i p (by rw [List.getElem?_append_left e]; exact hp)
    · rw [List.getElem?_append_right (by omega)] at hp
      simp only [e, if_false]
      exact q1 _ p hp
  · by_cases e : i < l.length
    · simp only [e, if_true] at hk
      exact h2 i (by omega) k hk hO
    · simp only [e, if_false] at hk
      exact h2 l.length (by omega) k (hsub i (by omega) (by omega) k hk) hO
  · by_cases e1 : i < l.length
    · simp only [e1, if_true] at hk
      by_cases e2 : j < l.length
      · simp only [e2, if_true] at hk'
        exact h3 i j (by omega) (by omega) hne k hk hk'
      · simp only [e2, if_false] at hk'
        exact h3 i l.length (by omega) (by omega) (by omega) k hk (hsub j (by omega) (by omega) k hk')
    · simp only [e1, if_false] at hk
      by_cases e2 : j < l.length
      · simp only [e2, if_true] at hk'
        exact h3 j l.length (by omega) (by omega) (by omega) k hk' (hsub i (by omega) (by omega) k hk)
      · simp only [e2, if_false] at hk'
        exact q2 (i - l.length) (j - l.length) (by omega) (by omega) (by omega) k hk hk'

/-- what a call asks of memory and leaves; all else stays -/
def Spec (P : Program) (β : Bs) (f : FuncId) (args : Array Value) (pre : List HP) (post : Value → List HP → Prop) : Prop :=
  ∀ (R : Asn) w, Sat β (pre ++ [.abs R]) w → Calls P f args w fun e w' => ∃ v l, e = .returned v ∧ post v l ∧ Sat β (l ++ [.abs R]) w'
theorem Spec.use {f : FuncId} {args : Array Value} {pre : List HP} {post : Value → List HP → Prop} (h : Spec P β f args pre post) (hS : Sat β (pre ++ R) w) :
    Calls P f args w fun e w' => ∃ v l, e = .returned v ∧ post v l ∧ Sat β (l ++ R) w' :=
  (h _ w hS.bund).mono fun _ _ ⟨v, l, h1, h2, h3⟩ => ⟨v, l, h1, h2, h3.unbund⟩
theorem Spec.mono {f : FuncId} {args : Array Value} {pre : List HP} {post post' : Value → List HP → Prop} (h : Spec P β f args pre post) (hp : ∀ v l, post v l → post' v l) : Spec P β f args pre post' :=
  fun R w hS => (h R w hS).mono fun _ _ ⟨v, l, h1, h2, h3⟩ => ⟨v, l, h1, hp v l h2, h3⟩
end contracts
end Go.Proofs.Ytjpdcppdoonmdaa
end
/- part Vc. PROVED HERE: the rules of the logic for calls, for a function's entry and its return; contracts of the elder kind taken over. CONDITIONS: none. No statement of the seat is proved here. -/
section
namespace Go.Proofs.Ytjpdcppdoonmdaa
open Go.RowKit

def callOf (P : Program) (β : Bs) (N : Nat) (junk : Nat → Value) (ops : Array Oper) (fr : Fr) (k : Nat) : Option (FuncId × Array Value × Option Tmp) :=
  match ops.toList[k]? with
  | some o =>
    match Region.wanted o (yF ops N fr junk) with
    | true =>
      match srun P β 0 true (execOp (evF N fr junk) o) ⟨[], [], [], true⟩ with
      | some (.enter f args, _) => some (f, args, o.dst)
      | _ => none
    | false => none
  | none => none

section calls
variable {P : Program} {β : Bs} {N : Nat} {ops : Array Oper} {k : Nat} {fr : Fr} {hps R : List HP} {Q : Post} {f : FuncId} {args : Array Value} {d : Option Tmp}
theorem Sat.nil {l : List HP} {w : World} (h : Sat β l w) : Sat β [] w := ⟨h.1, fun _ _ => False, fun i p hp => by simp at hp, fun i hi => by simp at hi, fun i j hi => by simp at hi⟩
theorem callOf_spec {junk : Nat → Value} (h : callOf P β N junk ops fr k = some (f, args, d)) : ∃ o, ops.toList[k]? = some o ∧ Region.wanted o (yF ops N fr junk) = true ∧ o.dst = d ∧
    ∀ w, Sat β [] w → (execOp (evF N fr junk) o).run P w = .ok (.enter f args) w := by
  unfold callOf at h
  repeat' split at h
  all_goals first | (cases h; done) | skip
  rename_i o h1 _ h2 _ f' args' S' h3
  cases h
  refine ⟨o, h1, h2, rfl, fun w hS => ?_⟩
  have hob := srun_none _ _ _ _ h3 rfl
  obtain ⟨w', h4, _, _, h5⟩ := srun_sound _ _ _ _ w h3 (fun p hp => by rw [hob] at hp; cases hp) hS (fun e => by cases e)
  rw [h4, (h5 rfl).1]
theorem wanted_mkA (o : Oper) (junk : Nat → Value) : Region.wanted o (yielded ops (mkA N fr junk).tmps) = Region.wanted o (yF ops N fr junk) := by
  have : yielded ops (mkA N fr junk).tmps = yF ops N fr junk := funext (yF_eq ops N fr junk)
  rw [this]
theorem TriL.call {pre : List HP} {post : Value → List HP → Prop} {pk : List Nat} (hc : ∀ junk, callOf P β N junk ops fr k = some (f, args, d)) (hs : Spec P β f args pre post) (hn : nodupB pk = true) (hp : pickL hps pk = some (pre ++ R))
    (K : ∀ v l, post v l → TriL P β N ops (k + 1) (putF fr d v) (l ++ R) Q) : TriL P β N ops k fr hps Q := by
  intro junk w hS
  obtain ⟨o, h1, h2, rfl, h3⟩ := callOf_spec (hc junk)
  rw [drop_cons h1]
  unfold wpList
  rw [wanted_mkA, if_pos h2]
  refine .inl ?_
  unfold Oper.wp
  rw [mkA_eval, h3 w hS.nil, Oper.upon_enter]
  refine (hs.use (hS.pick hn hp)).mono ?_
  rintro e w' ⟨v, l, rfl, hpost, hS'⟩
  show wpList _ _ _ _ ((mkA N fr junk).put o.dst v) w'
  rw [mkA_put]
  exact K v l hpost junk w' hS'
/-- a call of a value that is known ahead, of which memory is told as before -/
theorem TriLQ.call {pre : List HP} {post : Value → List HP → Prop} {pk pk' : List Nat} {v0 : Value} (hc : ∀ junk, callOf P β N junk ops fr k = some (f, args, d)) (hs : Spec P β f args pre post) (hn : nodupB pk = true) (hp : pickL hps pk = some (pre ++ R))
    (hn' : nodupB pk' = true) (hp' : pickL (pre ++ R) pk' = some hps) (hv : ∀ v l, post v l → v = v0 ∧ l = pre)
    (K : TriLQ P β N ops (k + 1) (putF fr d v0) hps Q) : TriLQ P β N ops k fr hps Q := by
  intro junk
  obtain ⟨o, h1, h2, rfl, h3⟩ := callOf_spec (hc junk)
  rw [drop_cons h1]
  unfold wpQuiet
  rw [wanted_mkA, if_pos h2]
  refine ⟨v0, fun w hS => ?_, ?_⟩
  · unfold Oper.quietAt
    rw [mkA_eval, h3 w hS.nil]
    refine ⟨rfl, (hs.use (hS.pick hn hp)).mono ?_⟩
    rintro e w' ⟨v, l, rfl, hpost, hS'⟩
    obtain ⟨rfl, rfl⟩ := hv v l hpost
    exact ⟨rfl, hS'.pick hn' hp'⟩
  · rw [mkA_put]
    exact K junk
/-- an operation by a law of its own -/
theorem TriL.op {ι : Type} {v : ι → Value} {hp' : ι → List HP} {o : Oper} (ho : ops.toList[k]? = some o) (h : ∀ junk w, Sat β hps w → Region.wanted o (yF ops N fr junk) = true ∧ ∃ i w', Ran P (evF N fr junk) o w (v i) w' ∧ Sat β (hp' i) w')
    (K : ∀ i, TriL P β N ops (k + 1) (putF fr o.dst (v i)) (hp' i) Q) : TriL P β N ops k fr hps Q := by
  intro junk w hS
  obtain ⟨hw, i, w', h1, h2⟩ := h junk w hS
  rw [drop_cons ho]
  unfold wpList
  rw [wanted_mkA, if_pos hw]
  refine .inl (wp_of_ran (v := v i) (w' := w') (by rw [mkA_eval]; exact h1) ?_)
  rw [mkA_put]
  exact K i junk w' h2
end calls

/-! ### entry and return -/
def zipF : Nat → List Value → Fr
  | _, [] => []
  | k, x :: r => (k, x) :: zipF (k + 1) r
theorem lk_zipF (junk : Nat → Value) : ∀ (l : List Value) (k t : Nat), lk (zipF k l) junk t = if k ≤ t ∧ t < k + l.length then l.getD (t - k) undef else junk t
  | [], k, t => by simp [zipF, lk]; intros; omega
  | x :: r, k, t => by
    rw [zipF, lk_cons, lk_zipF junk r (k + 1) t]
    by_cases h : k = t
    · subst h; simp
    · by_cases h2 : k + 1 ≤ t ∧ t < k + 1 + r.length
      · have e : t - k = (t - (k + 1)) + 1 := by omega
        simp only [h, if_false, h2, and_self, if_true]
        rw [if_pos (by simp; omega), e]
        simp
      · rw [if_neg h, if_neg h2, if_neg (by simp; omega)]
theorem enter_mkA {N : Nat} {args : Array Value} (h : args.toList.length ≤ N) : (⟨args ++ Array.replicate (N - args.size) undef, []⟩ : Act) = mkA N (zipF 0 args.toList) (fun _ => undef) := by
  unfold mkA
  congr 1
  apply Array.ext_getElem?
  intro t
  have hs : args.toList.length = args.size := by simp
  by_cases h1 : t < args.size
  · have h2 : t < N := by omega
    simp [h1, h2, lk_zipF, Array.getElem?_append_left]
  · by_cases h2 : t < N
    · rw [Array.getElem?_append_right (Nat.le_of_not_lt h1), Array.getElem?_replicate, if_pos (by omega)]
      rw [List.getElem?_toArray, List.getElem?_map, List.getElem?_range h2]
      simp only [Option.map_some, lk_zipF]
      rw [if_neg (by omega)]
    · simp [h2]
      omega
def RetQ (β : Bs) (R : Asn) (post : Value → List HP → Prop) : Ending → World → Prop := fun e w' => ∃ v l, e = .returned v ∧ post v l ∧ Sat β (l ++ [.abs R]) w'
section ends
variable {P : Program} {β : Bs} {N : Nat} {fr : Fr} {hps l : List HP} {f : FuncId} {args : Array Value} {pre : List HP} {post : Value → List HP → Prop} {fn : Func} {c : Code} {v : Value} {obl : List Prop}
theorem Spec.enter (hf : P.funcs[f]? = some fn) (hb : fn.body = some c) (hN : fn.ntmps = N) (hl : args.toList.length ≤ N) (h : ∀ R : Asn, Tri P β N c (zipF 0 args.toList) (pre ++ [.abs R]) (bodyPost P fn (RetQ β R post))) : Spec P β f args pre post := by
  intro R w hS
  refine calls_of_wp hf hb ?_
  rw [hN, enter_mkA hl]
  exact h R _ w hS
def retOf (P : Program) (β : Bs) (N : Nat) (junk : Nat → Value) (fn : Func) (fr : Fr) (hps : List HP) (hints : List Hint) : Option (Value × List Prop) :=
  match srun P β 0 true (results fn (mkA N fr junk).tmps) ⟨hints, hps, [], true⟩ with
  | some (v, S) => some (v, S.obl)
  | none => none
theorem retOf_spec {junk : Nat → Value} {hints : List Hint} {w : World} (h : retOf P β N junk fn fr hps hints = some (v, obl)) (ho : AllP obl) (hS : Sat β hps w) : (results fn (mkA N fr junk).tmps).run P w = .ok v w := by
  unfold retOf at h
  split at h
  · rename_i v' S h0
    cases h
    obtain ⟨w', h1, _, _, h2⟩ := srun_sound _ _ _ _ w h0 (fun p hp => ho.mem hp) hS (fun e => by cases e)
    rw [h1, (h2 rfl).1]
  · cases h
theorem TriQ.ret {R : Asn} (hints : List Hint) (pk : List Nat) (hr : ∀ junk, retOf P β N junk fn fr hps hints = some (v, obl)) (ho : AllP obl) (hn : nodupB pk = true) (hp : pickL hps pk = some (l ++ [.abs R])) (hpost : post v l) :
    TriQ β N (bodyPost P fn (RetQ β R post)) .ret fr hps :=
  fun junk _ hS => ⟨rfl, v, retOf_spec (hr junk) ho hS, v, l, rfl, hpost, hS.pick hn hp⟩
theorem TriQ.fin {R : Asn} (hints : List Hint) (pk : List Nat) (hr : ∀ junk, retOf P β N junk fn fr hps hints = some (v, obl)) (ho : AllP obl) (hn : nodupB pk = true) (hp : pickL hps pk = some (l ++ [.abs R])) (hpost : post v l) :
    TriQ β N (bodyPost P fn (RetQ β R post)) .normal fr hps :=
  fun junk _ hS => ⟨rfl, v, retOf_spec (hr junk) ho hS, v, l, rfl, hpost, hS.pick hn hp⟩

/-! ### contracts of the elder kind -/
theorem Spec.of1 {A : Asn} (h : ∀ F w, A.h F w → Calls P f args w fun e w' => ∃ v p, e = .returned v ∧ post v [p] ∧ ∃ F', p.h F' w' ∧ Step F w F' w') : Spec P β f args [.abs A] post := by
  intro R w hS
  obtain ⟨F, hF⟩ := hS.get (i := 0) rfl
  have hS0 := hS
  obtain ⟨ho, φ, h1, h2, h3⟩ := hS
  refine (h (φ 0) w (h1 0 _ rfl)).mono ?_
  rintro e w' ⟨v, p, rfl, hp, F', hF', st⟩
  refine ⟨v, [p], rfl, hp, ?_⟩
  have ho' := ho
  have h4 : ∀ k, φ 1 k → k < w.heap.size := fun k hk => HP.lt (h1 1 (.abs R) rfl) k hk
  refine ⟨ho.keeps st.keeps (fun k hk hk' => h2 0 (by simp) k hk' hk), fun i => if i = 0 then F' else φ 1, fun i q hq => ?_, fun i hi k hk hO => ?_, fun i j hi hj hne k hk hk' => ?_⟩
  · match i, hq with
    | 0, hq => cases hq; exact hF'
    | 1, hq =>
      cases hq
      exact HP.st (h1 1 (.abs R) rfl) st.keeps (fun k hk hk' => h3 0 1 (by simp) (by simp) (by simp) k hk' hk)
  · by_cases e : i = 0
    · simp only [e, if_true] at hk
      rcases st.grow k hk with e | e
      · exact h2 0 (by simp) k e hO
      · have := (ho.old k hO).1; have := ho.size; omega
    · simp only [e, if_false] at hk
      exact h2 1 (by simp) k hk hO
  · simp at hi hj
    have key : ∀ k, F' k → φ 1 k → False := fun k hk hk' => by
      rcases st.grow k hk with e | e
      · exact h3 0 1 (by simp) (by simp) (by simp) k e hk'
      · have := h4 k hk'; omega
    by_cases e1 : i = 0
    · have e2 : j ≠ 0 := fun e => hne (e1.trans e.symm)
      simp only [e1, if_true] at hk
      simp only [e2, if_false] at hk'
      exact key k hk hk'
    · have e2 : j = 0 := by omega
      simp only [e1, if_false] at hk
      simp only [e2, if_true] at hk'
      exact key k hk' hk
theorem Spec.of0 (h : ∀ w, β.ok w → Calls P f args w fun e w' => ∃ v, e = .returned v ∧ post v [] ∧ Keeps (fun _ => False) w w') : Spec P β f args [] post := by
  intro R w hS
  refine (h w hS.1).mono ?_
  rintro e w' ⟨v, rfl, hp, hk⟩
  exact ⟨v, [], rfl, hp, hS.quiet hk⟩
theorem Spec.of0new (h : ∀ w, β.ok w → Calls P f args w fun e w' => ∃ v p, e = .returned v ∧ post v [p] ∧ Keeps (fun _ => False) w w' ∧ ∃ F, p.h F w' ∧ ∀ k, F k → w.heap.size ≤ k) : Spec P β f args [] post := by
  intro R w hS
  refine (h w hS.1).mono ?_
  rintro e w' ⟨v, p, rfl, hp, hk, F, hF, hn⟩
  exact ⟨v, [p], rfl, hp, (Sat.new hS hF hk hn).pick (idx := [1, 0]) rfl rfl⟩
def empA : Asn where
  h F _ := ∀ k, ¬ F k
  lt h k hk := (h k hk).elim
  st h _ _ _ _ := h
theorem Spec.top {W : World} (h : Spec P ⟨(· < W.heap.size), W⟩ f args [] post) : Calls P f args W fun e w' => (∃ v l, e = .returned v ∧ post v l) ∧ Below W.heap.size W w' := by
  have hS : Sat ⟨(· < W.heap.size), W⟩ ([] ++ [.abs empA]) W := by
    refine ⟨⟨rfl, rfl, rfl, Nat.le_refl _, fun k hk => ⟨hk, rfl⟩⟩, fun _ _ => False, fun i p hp => ?_, fun i _ k hk => hk.elim, fun i j _ _ _ k hk => hk.elim⟩
    match i, hp with
    | 0, hp => cases hp; exact fun _ h => h
  refine (h empA W hS).mono ?_
  rintro e w' ⟨v, l, he, hp, hS'⟩
  have ho := hS'.1
  exact ⟨⟨v, l, he, hp⟩, ho.os, ho.tape, ho.output, ho.size, fun k hk => (ho.old k hk).2⟩
end ends
end Go.Proofs.Ytjpdcppdoonmdaa
end
/- part Vd. PROVED HERE: the rules of the logic that part a walk by a test, or tell a slot otherwise; small laws of numbers. CONDITIONS: none. No statement of the seat is proved here. -/
section
namespace Go.Proofs.Ytjpdcppdoonmdaa
open Go.RowKit
section slots
variable {P : Program} {β : Bs} {N : Nat} {ops : Array Oper} {k : Nat} {fr : Fr} {hps : List HP} {Q : Post} {c x y : Code} {e : Exit} {i : Nat} {v v' : Value} {b : Bool}
theorem mkA_same {junk : Nat → Value} (h : lk fr junk i = v) : mkA N ((i, v) :: fr) junk = mkA N fr junk := by
  unfold mkA
  have : (List.range N).map (lk ((i, v) :: fr) junk) = (List.range N).map (lk fr junk) := List.map_congr_left (fun t _ => by
    rw [lk_cons]
    by_cases e : i = t
    · subst e; simp [h]
    · simp [e])
  rw [this]
theorem TriL.slot (i : Nat) (v v' : Value) (h : ∀ junk, lk fr junk i = v) (hv : v = v') (K : TriL P β N ops k ((i, v') :: fr) hps Q) : TriL P β N ops k fr hps Q := fun junk w hS => by
  have := K junk w hS
  rwa [mkA_same (hv ▸ h junk)] at this
theorem TriLQ.slot (i : Nat) (v v' : Value) (h : ∀ junk, lk fr junk i = v) (hv : v = v') (K : TriLQ P β N ops k ((i, v') :: fr) hps Q) : TriLQ P β N ops k fr hps Q := fun junk => by
  have := K junk
  rwa [mkA_same (hv ▸ h junk)] at this
theorem Tri.slot' (i : Nat) (v v' : Value) (h : ∀ junk, lk fr junk i = v) (hv : v = v') (K : Tri P β N c ((i, v') :: fr) hps Q) : Tri P β N c fr hps Q := fun junk w hS => by
  have := K junk w hS
  rwa [mkA_same (hv ▸ h junk)] at this
theorem TriQ.slot (i : Nat) (v v' : Value) (h : ∀ junk, lk fr junk i = v) (hv : v = v') (K : TriQ β N Q e ((i, v') :: fr) hps) : TriQ β N Q e fr hps := fun junk w hS => by
  have := K junk w hS
  rwa [mkA_same (hv ▸ h junk)] at this
theorem TriL.slotB (i : Nat) (b : Bool) (h : ∀ junk, lk fr junk i = .bool b) (ht : b = true → TriL P β N ops k ((i, .bool true) :: fr) hps Q) (hf : b = false → TriL P β N ops k ((i, .bool false) :: fr) hps Q) : TriL P β N ops k fr hps Q := by
  cases hb : b with
  | true => exact TriL.slot i (.bool b) (.bool true) h (by rw [hb]) (ht hb)
  | false => exact TriL.slot i (.bool b) (.bool false) h (by rw [hb]) (hf hb)
theorem TriLQ.slotB (i : Nat) (b : Bool) (h : ∀ junk, lk fr junk i = .bool b) (ht : b = true → TriLQ P β N ops k ((i, .bool true) :: fr) hps Q) (hf : b = false → TriLQ P β N ops k ((i, .bool false) :: fr) hps Q) : TriLQ P β N ops k fr hps Q := by
  cases hb : b with
  | true => exact TriLQ.slot i (.bool b) (.bool true) h (by rw [hb]) (ht hb)
  | false => exact TriLQ.slot i (.bool b) (.bool false) h (by rw [hb]) (hf hb)
theorem TriL.slotP (i : Nat) (p : Prop) [Decidable p] (h : ∀ junk, lk fr junk i = .bool (decide p)) (ht : p → TriL P β N ops k ((i, .bool true) :: fr) hps Q) (hf : ¬ p → TriL P β N ops k ((i, .bool false) :: fr) hps Q) : TriL P β N ops k fr hps Q :=
  TriL.slotB i _ h (fun e => ht (of_decide_eq_true e)) (fun e => hf (of_decide_eq_false e))
theorem TriLQ.slotP (i : Nat) (p : Prop) [Decidable p] (h : ∀ junk, lk fr junk i = .bool (decide p)) (ht : p → TriLQ P β N ops k ((i, .bool true) :: fr) hps Q) (hf : ¬ p → TriLQ P β N ops k ((i, .bool false) :: fr) hps Q) : TriLQ P β N ops k fr hps Q :=
  TriLQ.slotB i _ h (fun e => ht (of_decide_eq_true e)) (fun e => hf (of_decide_eq_false e))
theorem TriL.partEq (i : Nat) {p p' : HP} (hp : hps[i]? = some p) (e : p = p') (K : TriL P β N ops k fr (hps.set i p') Q) : TriL P β N ops k fr hps Q := by
  subst e
  have : hps.set i p = hps := by
    apply List.ext_getElem?
    intro j
    by_cases e : i = j
    · subst e; rw [List.getElem?_set_self (len_of_some hp), hp]
    · rw [List.getElem?_set_ne e]
  rwa [this] at K
theorem not_dec_true {p : Prop} [Decidable p] (h : (!decide p) = true) : ¬ p := by simpa using h
theorem not_dec_false {p : Prop} [Decidable p] (h : (!decide p) = false) : p := by simpa using h
theorem TriL.slotN (i : Nat) (p : Prop) [Decidable p] (h : ∀ junk, lk fr junk i = .bool (!decide p)) (ht : ¬ p → TriL P β N ops k ((i, .bool true) :: fr) hps Q) (hf : p → TriL P β N ops k ((i, .bool false) :: fr) hps Q) : TriL P β N ops k fr hps Q :=
  TriL.slotB i _ h (fun e => ht (not_dec_true e)) (fun e => hf (not_dec_false e))
theorem TriLQ.slotN (i : Nat) (p : Prop) [Decidable p] (h : ∀ junk, lk fr junk i = .bool (!decide p)) (ht : ¬ p → TriLQ P β N ops k ((i, .bool true) :: fr) hps Q) (hf : p → TriLQ P β N ops k ((i, .bool false) :: fr) hps Q) : TriLQ P β N ops k fr hps Q :=
  TriLQ.slotB i _ h (fun e => ht (not_dec_true e)) (fun e => hf (not_dec_false e))
theorem Tri.condN {o : Operand} {p : Prop} [Decidable p] (h : ∀ junk, evF N fr junk o = .bool (!decide p)) (ht : ¬ p → Tri P β N x fr hps Q) (hf : p → Tri P β N y fr hps Q) : Tri P β N (.cond o x y) fr hps Q :=
  Tri.cond h (fun e => ht (not_dec_true e)) (fun e => hf (not_dec_false e))
end slots
theorem wrapEq {x y : Int} (h : x = y) (lo : -9223372036854775808 ≤ y) (hi : y ≤ 9223372036854775807) : Value.int .i64 (IntKind.wrap .i64 x) = Value.int .i64 y := by
  subst h
  rw [IntWalk.i64_in _ ⟨lo, hi⟩]
theorem intEq {k : IntKind} {x y : Int} (h : x = y) : Value.int k x = Value.int k y := by rw [h]
theorem strEq' (x y : ByteArray) : (x.toList == y.toList) = decide (x = y) := by
  rw [← beq_toListBytes]
  obtain ⟨⟨x⟩⟩ := x
  obtain ⟨⟨y⟩⟩ := y
  show ((⟨x⟩ : Array UInt8) == ⟨y⟩) = _
  by_cases h : x = y
  · subst h; simp
  · simp [h]
theorem strEqV (x y : ByteArray) : Value.bool (x.toList == y.toList) = Value.bool (decide (x = y)) := by rw [strEq']
theorem strNeV (x y : ByteArray) : Value.bool (!(x.toList == y.toList)) = Value.bool (!decide (x = y)) := by rw [strEq']
end Go.Proofs.Ytjpdcppdoonmdaa
end
/- part Vm. PROVED HERE: the logic's rules for maps: made, looked into, written, deleted from, counted. CONDITIONS: none. No statement of the seat is proved here. -/
section
namespace Go.Proofs.Ytjpdcppdoonmdaa
open Go.RowKit Go.Maps
def opAt (N : Nat) (junk : Nat → Value) (ops : Array Oper) (fr : Fr) (k : Nat) : Option (Op × Option Tmp) :=
  match ops.toList[k]? with
  | some o =>
    match Region.wanted o (yF ops N fr junk) with
    | true => some (o.op, o.dst)
    | false => none
  | none => none
theorem opAt_spec {N : Nat} {junk : Nat → Value} {ops : Array Oper} {fr : Fr} {k : Nat} {op : Op} {d : Option Tmp} (h : opAt N junk ops fr k = some (op, d)) :
    ∃ o, ops.toList[k]? = some o ∧ Region.wanted o (yF ops N fr junk) = true ∧ o.op = op ∧ o.dst = d := by
  unfold opAt at h
  repeat' split at h
  all_goals first | (cases h; done) | skip
  rename_i o h1 _ h2
  cases h
  exact ⟨o, h1, h2, rfl, rfl⟩
/-- block b is a map that holds what f says -/
def MapA (P : Program) (K : TypeId) (b : Nat) (f : Lit → Option Value) (n : Nat) : Asn where
  h F w := MapIs P K w b f n ∧ ∀ k, F k ↔ k = b
  lt := by rintro F w ⟨h, hF⟩ k hk; rw [(hF k).1 hk]; exact h.lt
  st := by rintro F w ⟨h, hF⟩ S w' hk hn; exact ⟨h.keeps hk (hn b ((hF b).2 rfl)), hF⟩
section maps
variable {P : Program} {β : Bs} {N : Nat} {ops : Array Oper} {k : Nat} {fr : Fr} {hps hps' : List HP} {Q : Post} {d : Option Tmp} {op : Op} {v : Value}
/-- an operation that the memory allows, to whatever it leads -/
theorem TriL.run1 (hop : ∀ junk, opAt N junk ops fr k = some (op, d)) (h : ∀ (o : Oper) junk w, o.op = op → Sat β hps w → ∃ w', Ran P (evF N fr junk) o w v w' ∧ Sat β hps' w')
    (K : TriL P β N ops (k + 1) (putF fr d v) hps' Q) : TriL P β N ops k fr hps Q := by
  intro junk w hS
  obtain ⟨o, h1, h2, h3, rfl⟩ := opAt_spec (hop junk)
  obtain ⟨w', h4, h5⟩ := h o junk w h3 hS
  rw [drop_cons h1]
  unfold wpList
  rw [wanted_mkA, if_pos h2]
  refine .inl (wp_of_ran (v := v) (w' := w') (by rw [mkA_eval]; exact h4) ?_)
  rw [mkA_put]
  exact K junk w' h5
/-- the same, what it leads to being told behind an ∃ -/
theorem TriL.runE {ι : Type} {v : ι → Value} {hp' : ι → List HP} (hop : ∀ junk, opAt N junk ops fr k = some (op, d)) (h : ∀ (o : Oper) junk w, o.op = op → Sat β hps w → ∃ i w', Ran P (evF N fr junk) o w (v i) w' ∧ Sat β (hp' i) w')
    (K : ∀ i, TriL P β N ops (k + 1) (putF fr d (v i)) (hp' i) Q) : TriL P β N ops k fr hps Q := by
  intro junk w hS
  obtain ⟨o, h1, h2, h3, rfl⟩ := opAt_spec (hop junk)
  obtain ⟨i, w', h4, h5⟩ := h o junk w h3 hS
  rw [drop_cons h1]
  unfold wpList
  rw [wanted_mkA, if_pos h2]
  refine .inl (wp_of_ran (v := v i) (w' := w') (by rw [mkA_eval]; exact h4) ?_)
  rw [mkA_put]
  exact K i junk w' h5
theorem TriLQ.run1 (hop : ∀ junk, opAt N junk ops fr k = some (op, d)) (h : ∀ (o : Oper) junk w, o.op = op → Sat β hps w → Ran P (evF N fr junk) o w v w)
    (K : TriLQ P β N ops (k + 1) (putF fr d v) hps Q) : TriLQ P β N ops k fr hps Q := by
  intro junk
  obtain ⟨o, h1, h2, h3, rfl⟩ := opAt_spec (hop junk)
  rw [drop_cons h1]
  unfold wpQuiet
  rw [wanted_mkA, if_pos h2]
  refine ⟨v, fun w hS => ?_, ?_⟩
  · unfold Oper.quietAt
    rw [mkA_eval]
    rcases h o junk w h3 hS with h4 | ⟨h4, h4'⟩
    · rw [h4]; exact ⟨rfl, rfl⟩
    · rw [h4']; exact ⟨rfl, h4⟩
  · rw [mkA_put]
    exact K junk
variable {t K E : TypeId} {b n i : Nat} {f : Lit → Option Value} {x ix y : Operand} {key z u : Value} {kl : Lit} {r : Option Value}
theorem MapA.get {w : World} (hS : Sat β hps w) (hp : hps[i]? = some (.abs (MapA P K b f n))) : MapIs P K w b f n := by
  obtain ⟨F, hF⟩ := hS.get hp
  exact hF.1
theorem ran_lookOk {w : World} {o : Oper} {ev : Operand → Value} (ho : o.op = .lookup t x ix true) (hm : MapIs P K w b f n) (hx : ev x = .map (some b)) (hix : ev ix = key) (L : Keyed P K) (ht : P.underlying t = some (.map K E))
    (hz : (zeroValue E).run P w = .ok z w) (hkey : keyOf P K key = some kl) : Ran P ev o w (.tuple #[(f kl).getD z, .bool (f kl).isSome]) w := by
  have h := hm.look_ok L ht hz hkey
  obtain ⟨dst, op, type, pos, after, guard⟩ := o
  cases ho
  refine .inl ?_
  simp only [execOp, hx, hix]
  simp [go_sem, h]
theorem ran_look {w : World} {o : Oper} {ev : Operand → Value} (ho : o.op = .lookup t x ix false) (hm : MapIs P K w b f n) (hx : ev x = .map (some b)) (hix : ev ix = key) (L : Keyed P K) (ht : P.underlying t = some (.map K E))
    (hz : (zeroValue E).run P w = .ok z w) (hkey : keyOf P K key = some kl) : Ran P ev o w ((f kl).getD z) w := by
  have h := hm.look L ht hz hkey
  obtain ⟨dst, op, type, pos, after, guard⟩ := o
  cases ho
  refine .inl ?_
  simp only [execOp, hx, hix]
  simp [go_sem, h]
theorem TriL.mapLookOk (i : Nat) (hop : ∀ junk, opAt N junk ops fr k = some (.lookup t x ix true, d)) (hp : hps[i]? = some (.abs (MapA P K b f n))) (hx : ∀ junk, evF N fr junk x = .map (some b)) (hix : ∀ junk, evF N fr junk ix = key) (L : Keyed P K)
    (ht : P.underlying t = some (.map K E)) (hz : ∀ w, (zeroValue E).run P w = .ok z w) (hkey : keyOf P K key = some kl) (hr : f kl = r) (K' : TriL P β N ops (k + 1) (putF fr d (.tuple #[r.getD z, .bool r.isSome])) hps Q) : TriL P β N ops k fr hps Q := by
  subst hr
  exact TriL.run1 hop (fun o junk w ho hS => ⟨w, ran_lookOk ho (MapA.get hS hp) (hx junk) (hix junk) L ht (hz w) hkey, hS⟩) K'
theorem TriL.mapLook (i : Nat) (hop : ∀ junk, opAt N junk ops fr k = some (.lookup t x ix false, d)) (hp : hps[i]? = some (.abs (MapA P K b f n))) (hx : ∀ junk, evF N fr junk x = .map (some b)) (hix : ∀ junk, evF N fr junk ix = key) (L : Keyed P K)
    (ht : P.underlying t = some (.map K E)) (hz : ∀ w, (zeroValue E).run P w = .ok z w) (hkey : keyOf P K key = some kl) (hr : f kl = r) (K' : TriL P β N ops (k + 1) (putF fr d (r.getD z)) hps Q) : TriL P β N ops k fr hps Q := by
  subst hr
  exact TriL.run1 hop (fun o junk w ho hS => ⟨w, ran_look ho (MapA.get hS hp) (hx junk) (hix junk) L ht (hz w) hkey, hS⟩) K'
theorem TriLQ.mapLookOk (i : Nat) (hop : ∀ junk, opAt N junk ops fr k = some (.lookup t x ix true, d)) (hp : hps[i]? = some (.abs (MapA P K b f n))) (hx : ∀ junk, evF N fr junk x = .map (some b)) (hix : ∀ junk, evF N fr junk ix = key) (L : Keyed P K)
    (ht : P.underlying t = some (.map K E)) (hz : ∀ w, (zeroValue E).run P w = .ok z w) (hkey : keyOf P K key = some kl) (hr : f kl = r) (K' : TriLQ P β N ops (k + 1) (putF fr d (.tuple #[r.getD z, .bool r.isSome])) hps Q) : TriLQ P β N ops k fr hps Q := by
  subst hr
  exact TriLQ.run1 hop (fun o junk w ho hS => ran_lookOk ho (MapA.get hS hp) (hx junk) (hix junk) L ht (hz w) hkey) K'
theorem TriLQ.mapLook (i : Nat) (hop : ∀ junk, opAt N junk ops fr k = some (.lookup t x ix false, d)) (hp : hps[i]? = some (.abs (MapA P K b f n))) (hx : ∀ junk, evF N fr junk x = .map (some b)) (hix : ∀ junk, evF N fr junk ix = key) (L : Keyed P K)
    (ht : P.underlying t = some (.map K E)) (hz : ∀ w, (zeroValue E).run P w = .ok z w) (hkey : keyOf P K key = some kl) (hr : f kl = r) (K' : TriLQ P β N ops (k + 1) (putF fr d (r.getD z)) hps Q) : TriLQ P β N ops k fr hps Q := by
  subst hr
  exact TriLQ.run1 hop (fun o junk w ho hS => ran_look ho (MapA.get hS hp) (hx junk) (hix junk) L ht (hz w) hkey) K'
theorem step_map {w w' : World} {f' : Lit → Option Value} {n' : Nat} {F : Fp} (hF : (HP.abs (MapA P K b f n)).h F w) (h : MapIs P K w' b f' n') (hk : Keeps (· = b) w w') : ∃ F', (HP.abs (MapA P K b f' n')).h F' w' ∧ Step F w F' w' :=
  ⟨F, ⟨h, hF.2⟩, hk.mono (fun _ _ e => (hF.2 _).2 e), fun _ h => .inl h⟩
theorem TriL.mapSet (i : Nat) (hop : ∀ junk, opAt N junk ops fr k = some (.mapUpdate t x ix y, d)) (hp : hps[i]? = some (.abs (MapA P K b f n))) (hx : ∀ junk, evF N fr junk x = .map (some b)) (hix : ∀ junk, evF N fr junk ix = key) (hy : ∀ junk, evF N fr junk y = u) (L : Keyed P K)
    (ht : P.underlying t = some (.map K E)) (hn : n < maxLen) (hkey : keyOf P K key = some kl) {n' : Nat} (hn' : (if (f kl).isSome then n else n + 1) = n') {f' : Lit → Option Value} (hf' : upd f kl (some u) = f')
    (K' : TriL P β N ops (k + 1) (putF fr d undef) (hps.set i (.abs (MapA P K b f' n'))) Q) : TriL P β N ops k fr hps Q := by
  subst hn' hf'
  refine TriL.run1 hop (fun o junk w ho hS => ?_) K'
  obtain ⟨F, hF⟩ := hS.get hp
  obtain ⟨w', h1, h2, h3⟩ := hF.1.store L ht hn hkey u
  refine ⟨w', .inr ⟨rfl, ?_⟩, hS.set hp (fun F hF => step_map hF h2 h3)⟩
  obtain ⟨dst, op, type, pos, after, guard⟩ := o
  cases ho
  simp only [execOp, hx junk, hix junk, hy junk]
  simp [go_sem, h1]
theorem TriL.mapDel (i : Nat) {ats : Array TypeId} (hop : ∀ junk, opAt N junk ops fr k = some (.call ⟨.builtin .delete, #[x, ix], ats⟩, d)) (hp : hps[i]? = some (.abs (MapA P K b f n))) (hx : ∀ junk, evF N fr junk x = .map (some b)) (hix : ∀ junk, evF N fr junk ix = key) (hats : ats = #[t, K]) (L : Keyed P K)
    (ht : P.underlying t = some (.map K E)) (hkey : keyOf P K key = some kl) {n' : Nat} (hn' : (if (f kl).isSome then n - 1 else n) = n') {f' : Lit → Option Value} (hf' : upd f kl none = f')
    (K' : TriL P β N ops (k + 1) (putF fr d (.tuple #[])) (hps.set i (.abs (MapA P K b f' n'))) Q) : TriL P β N ops k fr hps Q := by
  subst hn' hf' hats
  refine TriL.run1 hop (fun o junk w ho hS => ?_) K'
  obtain ⟨F, hF⟩ := hS.get hp
  obtain ⟨w', h1, h2, h3⟩ := hF.1.drop L ht hkey o.type
  refine ⟨w', .inl ?_, hS.set hp (fun F hF => step_map hF h2 h3)⟩
  obtain ⟨dst, op, type, pos, after, guard⟩ := o
  cases ho
  simp only [execOp, resolve, invoke, builtin]
  simp [go_sem, hx junk, hix junk, h1]
theorem ran_len {w : World} {o : Oper} {ev : Operand → Value} {ats : Array TypeId} (ho : o.op = .call ⟨.builtin .len, #[x], ats⟩) (hats : ats = #[t]) (hm : MapIs P K w b f n) (hx : ev x = .map (some b)) (ht : P.underlying t = some (.map K E)) :
    Ran P ev o w (.int .i64 ((n : Nat) : Int)) w := by
  have h := hm.len ht o.type
  obtain ⟨dst, op, type, pos, after, guard⟩ := o
  subst hats
  cases ho
  refine .inl ?_
  simp only [execOp, resolve, invoke, builtin]
  simp [go_sem, hx, h]
theorem TriL.mapLen (i : Nat) {ats : Array TypeId} (hop : ∀ junk, opAt N junk ops fr k = some (.call ⟨.builtin .len, #[x], ats⟩, d)) (hp : hps[i]? = some (.abs (MapA P K b f n))) (hx : ∀ junk, evF N fr junk x = .map (some b)) (hats : ats = #[t]) (ht : P.underlying t = some (.map K E))
    (K' : TriL P β N ops (k + 1) (putF fr d (.int .i64 ((n : Nat) : Int))) hps Q) : TriL P β N ops k fr hps Q :=
  TriL.run1 hop (fun _ junk w ho hS => ⟨w, ran_len ho hats (MapA.get hS hp) (hx junk) ht, hS⟩) K'
theorem TriLQ.mapLen (i : Nat) {ats : Array TypeId} (hop : ∀ junk, opAt N junk ops fr k = some (.call ⟨.builtin .len, #[x], ats⟩, d)) (hp : hps[i]? = some (.abs (MapA P K b f n))) (hx : ∀ junk, evF N fr junk x = .map (some b)) (hats : ats = #[t]) (ht : P.underlying t = some (.map K E))
    (K' : TriLQ P β N ops (k + 1) (putF fr d (.int .i64 ((n : Nat) : Int))) hps Q) : TriLQ P β N ops k fr hps Q :=
  TriLQ.run1 hop (fun _ junk _ ho hS => ran_len ho hats (MapA.get hS hp) (hx junk) ht) K'
theorem TriL.mapMake (hop : ∀ junk, opAt N junk ops fr k = some (.makeMap t none, d)) (P' : Program) (hP : P' = P) (K : TypeId) (K' : ∀ b, TriL P β N ops (k + 1) (putF fr d (.map (some b))) (hps ++ [.abs (MapA P K b (fun _ => none) 0)]) Q) : TriL P β N ops k fr hps Q := by
  subst hP
  refine TriL.runE (ι := Nat) (v := fun b => .map (some b)) (hp' := fun b => hps ++ [.abs (MapA P' K b (fun _ => none) 0)]) hop (fun o junk w ho hS => ⟨w.heap.size, w.alloc (.map #[] 0), .inl ?_, ?_⟩) K'
  · obtain ⟨dst, op, type, pos, after, guard⟩ := o
    cases ho
    rfl
  · exact hS.new (F := fun k => k = w.heap.size) ⟨MapIs.made w P' K, fun _ => Iff.rfl⟩ ((Keeps.refl _ _).alloc _) (fun k e => Nat.le_of_eq e.symm)
end maps
end Go.Proofs.Ytjpdcppdoonmdaa
end
/- part Va. PROVED HERE: the logic's rules for rows that the code makes itself: append, reading, writing. CONDITIONS: none. No statement of the seat is proved here. -/
section
namespace Go.Proofs.Ytjpdcppdoonmdaa
open Go.RowKit
/-- the slice A, n, cap holds the cells xs, in a row of the code's own -/
def RowA (e : TypeId) (size : Nat) (A : Option Addr) (n cap : Nat) (xs : List Value) : Asn where
  h F w := w.ownsRow 0 e size (.slice A n cap) n xs ∧ ∀ k, F k ↔ (Value.slice A n cap).ownBlock = some k
  lt := by rintro F w ⟨h, hF⟩ k hk; exact (h.lt k ((hF k).1 hk)).2
  st := by rintro F w ⟨h, hF⟩ S w' hk hn; exact ⟨hk.ownsRow h (fun k e => hn k ((hF k).2 e)), hF⟩
theorem RowA.len {e : TypeId} {size : Nat} {A : Option Addr} {n cap : Nat} {xs : List Value} {F : Fp} {w : World} (h : (HP.abs (RowA e size A n cap xs)).h F w) : xs.length = n * size ∧ n ≤ cap := by
  obtain ⟨⟨h1, h2⟩, _⟩ := h
  refine ⟨h1, ?_⟩
  rcases h2 with ⟨e, rfl⟩ | ⟨g, cp, cur, e, _, _, hle, _⟩
  · omega
  · cases e; exact hle
theorem RowA.head {e : TypeId} {size : Nat} {A : Option Addr} {n cap : Nat} {xs : List Value} {F : Fp} {w : World} (h : (HP.abs (RowA e size A n cap xs)).h F w) (hn : 0 < n) : ∃ g, A = some ⟨g, 0, none⟩ := by
  obtain ⟨⟨h1, h2⟩, _⟩ := h
  rcases h2 with ⟨_, e⟩ | ⟨g, cp, cur, e, _⟩
  · omega
  · cases e; exact ⟨g, rfl⟩
theorem RowA.cell {e : TypeId} {size : Nat} {g n cap j : Nat} {xs : List Value} {u : Value} (hj : xs[j]? = some u) : ∀ F w, (RowA e size (some ⟨g, 0, none⟩) n cap xs).h F w → w.cell? ⟨g, j, none⟩ = some u := by
  rintro F w ⟨h, _⟩
  obtain ⟨h1, h2⟩ := h
  rcases h2 with ⟨e, _⟩ | ⟨g', cp, cur, e, _, hb, _, _, hs, ht⟩
  · cases e
  · cases e
    have hlt := len_of_some hj
    have : cur.toList[j]? = some u := by
      rw [← ht, List.getElem?_take] at hj
      split at hj
      · exact hj
      · cases hj
    simpa [World.cell?, hb] using this
theorem RowA.nil (e : TypeId) (size : Nat) (w : World) : (HP.abs (RowA e size none 0 0 [])).h (fun _ => False) w :=
  ⟨⟨by simp, .inl ⟨rfl, rfl⟩⟩, fun k => by simp [Value.ownBlock]⟩
theorem set_same {α : Type} {l : List α} {i : Nat} {x : α} (h : l[i]? = some x) : l.set i x = l := by
  apply List.ext_getElem?
  intro j
  by_cases e : i = j
  · subst e; rw [List.getElem?_set_self (len_of_some h), h]
  · rw [List.getElem?_set_ne e]
section rows
variable {P : Program} {β : Bs} {N : Nat} {ops : Array Oper} {k : Nat} {fr : Fr} {hps hps' : List HP} {Q : Post} {d : Option Tmp} {op : Op} {v : Value} {c : Code}
theorem Sat.rowNil {e : TypeId} {size : Nat} {w : World} (h : Sat β hps w) : Sat β (hps ++ [.abs (RowA e size none 0 0 [])]) w :=
  Sat.new h (RowA.nil e size w) (Keeps.refl _ _) (fun _ h => h.elim)
/-- a block that was made becomes a row -/
theorem step_row {b : Nat} {cs : List Value} {e : TypeId} {size n : Nat} {w : World} (hl : cs.length = n * size) (hm : n ≤ maxLen) : ∀ F, (HP.blk b cs e).h F w → ∃ F', (HP.abs (RowA e size (some ⟨b, 0, none⟩) n n cs)).h F' w ∧ Step F w F' w := by
  rintro F ⟨h1, h2⟩
  refine ⟨F, ⟨⟨hl, .inr ⟨b, n, ⟨cs⟩, rfl, Nat.zero_le _, h1, Nat.le_refl _, hm, by simpa using hl, ?_⟩⟩, fun k => ?_⟩, Step.refl F w⟩
  · rw [← hl]; exact List.take_length
  · rw [h2 k]
    simp [Value.ownBlock, eq_comm]
theorem Sat.toRow {b i : Nat} {cs : List Value} {e : TypeId} {w : World} (size n : Nat) (hp : hps[i]? = some (.blk b cs e)) (hl : cs.length = n * size) (hm : n ≤ maxLen) (h : Sat β hps w) : Sat β (hps.set i (.abs (RowA e size (some ⟨b, 0, none⟩) n n cs))) w :=
  h.set hp (step_row hl hm)
theorem src_blk {b j : Nat} {news : List Value} {T : TypeId} (hp : hps[j]? = some (.blk b news T)) : ∀ w, Sat β hps w → ((some ⟨b, 0, none⟩ : Option Addr) = none ∧ news.length = 0) ∨ ∃ ad, (some ⟨b, 0, none⟩ : Option Addr) = some ad ∧ ∀ j u, news[j]? = some u → w.cell? (ad.add j) = some u := by
  intro w hS
  obtain ⟨F, hF⟩ := hS.get hp
  refine .inr ⟨_, rfl, fun j u hj => ?_⟩
  have ea : (⟨b, 0, none⟩ : Addr).add j = ⟨b, j, none⟩ := by unfold Addr.add; split <;> simp_all
  rw [ea]
  exact (cell_of_blk hF.1 rfl rfl hj).1
theorem TriL.append (i : Nat) {t e : TypeId} {z : Value} {size bytes n cap m c' : Nat} {A A' : Option Addr} {xs news : List Value} {s x : Operand} {ats : Array TypeId}
    (hop : ∀ junk, opAt N junk ops fr k = some (.call ⟨.builtin .append, #[s, x], ats⟩, d)) (hats : ats = #[t, t]) (hp : hps[i]? = some (.abs (RowA e size A n cap xs))) (hs : ∀ junk, evF N fr junk s = .slice A n cap) (hx : ∀ junk, evF N fr junk x = .slice A' m c')
    (ht : P.underlying t = some (.slice e)) (hinf : (P.info? e).map (fun i => (i.zero, i.size, i.bytes)) = some (some z, size, bytes)) (hzs : z.cells.size = size) (hsz : 0 < size)
    (hl : news.length = m * size) (h1 : ∀ u ∈ news, u.oneCell' = true) (hsrc : ∀ w, Sat β hps w → (A' = none ∧ news.length = 0) ∨ ∃ ad, A' = some ad ∧ ∀ j u, news[j]? = some u → w.cell? (ad.add j) = some u)
    (h63 : n + m ≤ maxLen) (hbytes : (n + m) * bytes ≤ 140737488355328)
    (K' : ∀ B cap', TriL P β N ops (k + 1) (putF fr d (.slice B (n + m) cap')) (hps.set i (.abs (RowA e size B (n + m) cap' (xs ++ news)))) Q) : TriL P β N ops k fr hps Q := by
  subst hats
  obtain ⟨inf, hi, hz, hsize, hby⟩ : ∃ inf, P.info? e = some inf ∧ inf.zero = some z ∧ inf.size = size ∧ inf.bytes = bytes := by
    cases h : P.info? e with
    | none => rw [h] at hinf; cases hinf
    | some inf => rw [h] at hinf; simp at hinf; exact ⟨inf, rfl, hinf.1, hinf.2.1, hinf.2.2⟩
  refine TriL.runE (ι := Option Addr × Nat) (v := fun p => .slice p.1 (n + m) p.2) (hp' := fun p => hps.set i (.abs (RowA e size p.1 (n + m) p.2 (xs ++ news)))) hop (fun o junk w ho hS => ?_) (fun p => K' p.1 p.2)
  obtain ⟨F, hF⟩ := hS.get hp
  have hlen := RowA.len hF
  have hrun : ∀ v' w', (Builtin.append_ #[t, t] o.type #[.slice A n cap, .slice A' m c']).run P w = .ok v' w' → Ran P (evF N fr junk) o w v' w' := fun v' w' h => by
    obtain ⟨dst, op, type, pos, after, guard⟩ := o
    cases ho
    refine .inl ?_
    have h' : (Builtin.append_ #[t, t] type #[.slice A n cap, .slice A' m c']).run P w = .ok v' w' := h
    simp only [execOp, resolve, invoke, builtin, hs junk, hx junk, List.map_toArray, List.map_cons, List.map_nil, Sem.run_bind, Sem.run_pure, Result.andThen_ok, h']
  rcases hsrc w hS with ⟨rfl, h0⟩ | ⟨ad, rfl, hnews⟩
  · have hm0 : m = 0 := by
      rw [hl] at h0
      rcases Nat.mul_eq_zero.1 h0 with e | e
      · exact e
      · omega
    subst hm0
    have hn0 : news = [] := List.eq_nil_of_length_eq_zero h0
    subst hn0
    refine ⟨(A, cap), w, hrun _ _ ?_, ?_⟩
    · have hu := run_underlying ht w
      have h3 := runsize hi w
      rw [hsize] at h3
      have h4 : (Builtin.append_ #[t, t] o.type #[.slice A n cap, .slice none 0 c']).run P w = .ok (.slice A n cap) w := by
        cases A <;> simp [Builtin.append_, hu, h3, go_sem, Builtin.lenOf, Builtin.firstCells, hlen.2, storeCells]
      simpa using h4
    · have : hps.set i (.abs (RowA e size A (n + 0) cap (xs ++ []))) = hps := by
        simp only [Nat.add_zero, List.append_nil]
        exact set_same hp
      rw [this]; exact hS
  · obtain ⟨v', w', h2, h3, h4, _, h5⟩ := run_append_own_at (P := P) w 0 t o.type e inf z size bytes ht hi hz hsize hby hzs hsz (.slice A n cap) n xs hF.1 ad m c' news hl hnews h1 h63 hbytes (Nat.zero_le _)
    have hshape : ∃ B cap', v' = .slice B (n + m) cap' := by
      rcases h3.2 with ⟨e, e0⟩ | ⟨g, cp, cur, e, _⟩
      · exact ⟨none, 0, by rw [e, e0]⟩
      · exact ⟨_, cp, e⟩
    obtain ⟨B, cap', rfl⟩ := hshape
    refine ⟨(B, cap'), w', hrun _ _ h2, hS.set hp (fun F hF => ⟨fun k => (Value.slice B (n + m) cap').ownBlock = some k, ⟨h3, fun _ => Iff.rfl⟩, ?_, fun k hk => ?_⟩)⟩
    · exact (Keeps.refl F w).grown h4 (fun k hk => .inr ((hF.2 k).2 hk))
    · rcases h5 with h5 | h5
      · exact .inl ((hF.2 k).2 (h5 ▸ hk))
      · rw [h5] at hk; cases hk; exact .inr (Nat.le_refl _)
end rows
end Go.Proofs.Ytjpdcppdoonmdaa
end
/- part Vb. PROVED HERE: what was made may be laid to what is only read; a cell of a row is written. CONDITIONS: none. No statement of the seat is proved here. -/
section
namespace Go.Proofs.Ytjpdcppdoonmdaa
open Go.RowKit
/-! ### the base may grow -/
structure Bs.le (β β' : Bs) : Prop where
  O : ∀ k, β.O k → β'.O k
  os : β'.w0.os = β.w0.os
  tape : β'.w0.tape = β.w0.tape
  output : β'.w0.output = β.w0.output
  size : β.w0.heap.size ≤ β'.w0.heap.size
  old : ∀ k, β.O k → k < β.w0.heap.size ∧ β'.w0.heap[k]? = β.w0.heap[k]?
theorem Bs.le.trans {a b c : Bs} (h : a.le b) (g : b.le c) : a.le c :=
  ⟨fun k hk => g.O k (h.O k hk), g.os.trans h.os, g.tape.trans h.tape, g.output.trans h.output, Nat.le_trans h.size g.size, fun k hk => ⟨(h.old k hk).1, (g.old k (h.O k hk)).2.trans (h.old k hk).2⟩⟩
/-- a cell of the base -/
def Rd (β : Bs) (a : Addr) (v : Value) : Prop := β.O a.block ∧ β.w0.cell? a = some v
theorem Rd.le {β β' : Bs} {a : Addr} {v : Value} (h : Rd β a v) (hle : β.le β') : Rd β' a v :=
  ⟨hle.O _ h.1, (World.cell?_of_block (w := β.w0) (hle.old _ h.1).2).trans h.2⟩
theorem Bs.ok.le {β β' : Bs} {w : World} (h : β'.ok w) (hle : β.le β') : β.ok w :=
  ⟨h.os.trans hle.os, h.tape.trans hle.tape, h.output.trans hle.output, Nat.le_trans hle.size h.size, fun k hk => ⟨(hle.old k hk).1, (h.old k (hle.O k hk)).2.trans (hle.old k hk).2⟩⟩
theorem Sat.debase {β β' : Bs} {l : List HP} {w : World} (hle : β.le β') (h : Sat β' l w) : Sat β l w := by
  obtain ⟨ho, φ, h1, h2, h3⟩ := h
  exact ⟨ho.le hle, φ, h1, fun i hi k hk hO => h2 i hi k hk (hle.O k hO), h3⟩
theorem Sat.rebase {β : Bs} {l l' : List HP} {w : World} {p : HP} {i : Nat} {idx : List Nat} (h : Sat β l w) (hp : l[i]? = some p) (hn : nodupB (i :: idx) = true) (hl : pickL l idx = some l') :
    ∃ F, p.h F w ∧ ∃ β' : Bs, β.le β' ∧ (∀ k, F k → β'.O k) ∧ β'.w0 = w ∧ Sat β' l' w := by
  have h' := h.pick (idx := i :: idx) (l' := p :: l') hn (by simp only [pickL, hp, hl])
  obtain ⟨ho, φ, h1, h2, h3⟩ := h'
  refine ⟨φ 0, h1 0 p rfl, ⟨fun k => β.O k ∨ φ 0 k, w⟩, ⟨fun k hk => .inl hk, ho.os, ho.tape, ho.output, ho.size, fun k hk => ho.old k hk⟩, fun k hk => .inr hk, rfl, ⟨rfl, rfl, rfl, Nat.le_refl _, fun k hk => ⟨?_, rfl⟩⟩, fun j => φ (j + 1), fun j q hq => h1 (j + 1) q (by simpa using hq), fun j hj k hk hO => ?_, fun j1 j2 hj1 hj2 hne => h3 _ _ (by simp; omega) (by simp; omega) (by omega)⟩
  · rcases hk with hk | hk
    · exact Nat.lt_of_lt_of_le (ho.old k hk).1 ho.size
    · exact HP.lt (h1 0 p rfl) k hk
  · rcases hO with hO | hO
    · exact h2 (j + 1) (by simp; omega) k hk hO
    · exact h3 (j + 1) 0 (by simp; omega) (by simp) (by omega) k hk hO
section rules
variable {P : Program} {β β' : Bs} {N : Nat} {ops : Array Oper} {k : Nat} {fr : Fr} {hps hps' : List HP} {Q : Post} {c : Code} {e : Exit} {p : HP} {i : Nat} {idx : List Nat} {d : Option Tmp}
theorem TriQ.debase (hle : β.le β') (h : TriQ β N Q e fr hps) : TriQ β' N Q e fr hps := fun junk w hS => h junk w (hS.debase hle)
theorem Tri.debase (hle : β.le β') (h : Tri P β N c fr hps Q) : Tri P β' N c fr hps Q := fun junk w hS => h junk w (hS.debase hle)
theorem TriL.debase (hle : β.le β') (h : TriL P β N ops k fr hps Q) : TriL P β' N ops k fr hps Q := fun junk w hS => h junk w (hS.debase hle)
/-- a part is laid to the base; Φ is what it is good for from now on -/
theorem TriL.rebase {Φ : Bs → Prop} (i : Nat) (idx : List Nat) (hp : hps[i]? = some p) (hn : nodupB (i :: idx) = true) (hl : pickL hps idx = some hps') (hΦ : ∀ F w, p.h F w → ∀ β' : Bs, (∀ k, F k → β'.O k) → β'.w0 = w → Φ β')
    (K : ∀ β' : Bs, β.le β' → Φ β' → TriL P β' N ops k fr hps' Q) : TriL P β N ops k fr hps Q := fun junk w hS => by
  obtain ⟨F, hF, β', hle, h1, h2, hS'⟩ := hS.rebase hp hn hl
  exact K β' hle (hΦ F w hF β' h1 h2) junk w hS'
theorem Tri.rebase {Φ : Bs → Prop} (i : Nat) (idx : List Nat) (hp : hps[i]? = some p) (hn : nodupB (i :: idx) = true) (hl : pickL hps idx = some hps') (hΦ : ∀ F w, p.h F w → ∀ β' : Bs, (∀ k, F k → β'.O k) → β'.w0 = w → Φ β')
    (K : ∀ β' : Bs, β.le β' → Φ β' → Tri P β' N c fr hps' Q) : Tri P β N c fr hps Q := fun junk w hS => by
  obtain ⟨F, hF, β', hle, h1, h2, hS'⟩ := hS.rebase hp hn hl
  exact K β' hle (hΦ F w hF β' h1 h2) junk w hS'
/-- cells of a slice, in the base -/
def RowB (β : Bs) (A : Option Addr) (xs : List Value) : Prop := ∀ (j : Nat) (v : Value), xs[j]? = some v → A = some ⟨blkOf A, offOf A, none⟩ ∧ Rd β ⟨blkOf A, offOf A + j, none⟩ v
theorem RowB.le {A : Option Addr} {xs : List Value} (h : RowB β A xs) (hle : β.le β') : RowB β' A xs := fun j v hj => ⟨(h j v hj).1, (h j v hj).2.le hle⟩
theorem RowB.of_row {e : TypeId} {size n cap : Nat} {A : Option Addr} {xs : List Value} {F : Fp} {w : World} (h : (HP.abs (RowA e size A n cap xs)).h F w) (h1 : ∀ k, F k → β'.O k) (h2 : β'.w0 = w) : RowB β' A xs := by
  intro j v hj
  have hlt := len_of_some hj
  have hl := RowA.len h
  have hn : 0 < n := by
    rcases Nat.eq_zero_or_pos n with e | e
    · rw [hl.1, e] at hlt; simp at hlt
    · exact e
  obtain ⟨g, rfl⟩ := RowA.head h hn
  refine ⟨rfl, h1 g ((h.2 g).2 rfl), ?_⟩
  rw [h2]
  have := RowA.cell hj F w h
  simpa [blkOf, offOf] using this
theorem RowA.headB {e : TypeId} {size : Nat} {A : Option Addr} {n cap : Nat} {xs : List Value} {F : Fp} {w : World} (h : (HP.abs (RowA e size A n cap xs)).h F w) (hn : 0 < n) : A = some ⟨blkOf A, offOf A, none⟩ ∧ offOf A = 0 := by
  obtain ⟨g, rfl⟩ := RowA.head h hn
  exact ⟨rfl, rfl⟩
theorem step_rowSet {e : TypeId} {size n cap j g : Nat} {xs : List Value} {u : Value} {w : World} (_ : j < xs.length) : ∀ F, (HP.abs (RowA e size (some ⟨g, 0, none⟩) n cap xs)).h F w →
    ∃ F', (HP.abs (RowA e size (some ⟨g, 0, none⟩) n cap (xs.set j u))).h F' (w.setCell ⟨g, j, none⟩ u) ∧ Step F w F' (w.setCell ⟨g, j, none⟩ u) := by
  rintro F ⟨⟨h1, h2⟩, hF⟩
  rcases h2 with ⟨e, _⟩ | ⟨g', cp, cur, e, _, hb, hle, hm, hs, ht⟩
  · cases e
  · cases e
    refine ⟨F, ⟨⟨by simpa using h1, .inr ⟨g, cap, cur.setIfInBounds j u, rfl, Nat.zero_le _, ?_, hle, hm, by simpa using hs, ?_⟩⟩, hF⟩, ⟨(Keeps.refl _ _).setCell (.inr ((hF g).2 rfl)) u, fun _ h => .inl h⟩⟩
    · simp [World.setCell, Array.getElem?_modify, hb]
    · rw [Array.toList_setIfInBounds, List.take_set, ht]
theorem TriL.rowSet (i j : Nat) {T e : TypeId} {size n cap g : Nat} {xs : List Value} {u : Value} {a y : Operand} (hop : ∀ junk, opAt N junk ops fr k = some (.store T a y, d)) (hp : hps[i]? = some (.abs (RowA e size (some ⟨g, 0, none⟩) n cap xs)))
    (ha : ∀ junk, evF N fr junk a = .pointer (some ⟨g, j, none⟩)) (hy : ∀ junk, evF N fr junk y = u) (hT : (P.info? T).map (·.size) = some 1) (hu : u.oneCell' = true) (hj : j < xs.length)
    (K' : TriL P β N ops (k + 1) (putF fr d undef) (hps.set i (.abs (RowA e size (some ⟨g, 0, none⟩) n cap (xs.set j u)))) Q) : TriL P β N ops k fr hps Q := by
  refine TriL.run1 hop (fun o junk w ho hS => ?_) K'
  obtain ⟨F, hF⟩ := hS.get hp
  refine ⟨w.setCell ⟨g, j, none⟩ u, .inr ⟨rfl, ?_⟩, hS.set hp (step_rowSet hj)⟩
  obtain ⟨x, hx⟩ := some_of_len hj
  have hc := RowA.cell hx F w hF
  have hf : w.frozen? ⟨g, j, none⟩ = false := by
    obtain ⟨⟨_, h2⟩, _⟩ := hF
    rcases h2 with ⟨e, _⟩ | ⟨g', cp, cur, e, _, hb, _⟩
    · cases e
    · cases e; simp [World.frozen?, hb]
  obtain ⟨inf, hi, hsz⟩ : ∃ inf, P.info? T = some inf ∧ inf.size = 1 := by
    cases h : P.info? T with
    | none => rw [h] at hT; cases hT
    | some inf => rw [h] at hT; exact ⟨inf, rfl, by simpa using hT⟩
  have h3 := runsize hi w
  rw [hsz] at h3
  obtain ⟨dst, op, type, pos, after, guard⟩ := o
  cases ho
  cases u <;> first
    | (simp [Value.oneCell'] at hu; done)
    | (simp only [execOp, ha junk, hy junk]; simp [go_sem, Instr.storeAt, Instr.sureAddr, storeVar, h3, Value.cells, storeCells, store, Addr.add, Sem.run, hc, hf])
end rules
end Go.Proofs.Ytjpdcppdoonmdaa
end
/- part Ve. PROVED HERE: contracts of calls that leave memory which is only read from then on; loops over such a growing base. CONDITIONS: none. No statement of the seat is proved here. -/
section
namespace Go.Proofs.Ytjpdcppdoonmdaa
open Go.RowKit
theorem Bs.ok.refl_le {β : Bs} {w : World} (h : β.ok w) : β.le β := ⟨fun _ h => h, rfl, rfl, rfl, Nat.le_refl _, fun k hk => ⟨(h.old k hk).1, rfl⟩⟩
/-- what a call asks of memory and leaves; what it lays to the base -/
def SpecB (P : Program) (β : Bs) (f : FuncId) (args : Array Value) (pre : List HP) (post : Bs → Value → List HP → Prop) : Prop :=
  ∀ (R : Asn) w, Sat β (pre ++ [.abs R]) w → Calls P f args w fun e w' => ∃ β' v l, β.le β' ∧ e = .returned v ∧ post β' v l ∧ Sat β' (l ++ [.abs R]) w'
def RetQB (β : Bs) (R : Asn) (post : Bs → Value → List HP → Prop) : Ending → World → Prop := fun e w' => ∃ β' v l, β.le β' ∧ e = .returned v ∧ post β' v l ∧ Sat β' (l ++ [.abs R]) w'
section specB
variable {P : Program} {β β' : Bs} {N : Nat} {ops : Array Oper} {k : Nat} {fr : Fr} {hps R l : List HP} {Q : Post} {f : FuncId} {args : Array Value} {d : Option Tmp} {pre : List HP} {post : Bs → Value → List HP → Prop} {pk idx : List Nat} {c : Code} {fn : Func} {v : Value} {obl : List Prop} {w : World}
theorem SpecB.use (h : SpecB P β f args pre post) (hS : Sat β (pre ++ R) w) : Calls P f args w fun e w' => ∃ β' v l, β.le β' ∧ e = .returned v ∧ post β' v l ∧ Sat β' (l ++ R) w' :=
  (h _ w hS.bund).mono fun _ _ ⟨β', v, l, h0, h1, h2, h3⟩ => ⟨β', v, l, h0, h1, h2, h3.unbund⟩
theorem Spec.toB {post : Value → List HP → Prop} (h : Spec P β f args pre post) : SpecB P β f args pre (fun β' v l => β' = β ∧ post v l) :=
  fun R w hS => (h R w hS).mono fun _ _ ⟨v, l, h1, h2, h3⟩ => ⟨β, v, l, hS.1.refl_le, h1, ⟨rfl, h2⟩, h3⟩
theorem SpecB.mono {post' : Bs → Value → List HP → Prop} (h : SpecB P β f args pre post) (hp : ∀ β' v l, β.le β' → post β' v l → post' β' v l) : SpecB P β f args pre post' :=
  fun R w hS => (h R w hS).mono fun _ _ ⟨β', v, l, h0, h1, h2, h3⟩ => ⟨β', v, l, h0, h1, hp β' v l h0 h2, h3⟩
theorem TriL.callB (hc : ∀ junk, callOf P β N junk ops fr k = some (f, args, d)) (hs : SpecB P β f args pre post) (hn : nodupB pk = true) (hp : pickL hps pk = some (pre ++ R))
    (K : ∀ β' v l, β.le β' → post β' v l → TriL P β' N ops (k + 1) (putF fr d v) (l ++ R) Q) : TriL P β N ops k fr hps Q := by
  intro junk w hS
  obtain ⟨o, h1, h2, rfl, h3⟩ := callOf_spec (hc junk)
  rw [drop_cons h1]
  unfold wpList
  rw [wanted_mkA, if_pos h2]
  refine .inl ?_
  unfold Oper.wp
  rw [mkA_eval, h3 w hS.nil, Oper.upon_enter]
  refine (hs.use (hS.pick hn hp)).mono ?_
  rintro e w' ⟨β', v, l, hle, rfl, hpost, hS'⟩
  show wpList _ _ _ _ ((mkA N fr junk).put o.dst v) w'
  rw [mkA_put]
  exact K β' v l hle hpost junk w' hS'
theorem SpecB.enter (hf : P.funcs[f]? = some fn) (hb : fn.body = some c) (hN : fn.ntmps = N) (hl : args.toList.length ≤ N) (h : β.le β → ∀ R : Asn, Tri P β N c (zipF 0 args.toList) (pre ++ [.abs R]) (bodyPost P fn (RetQB β R post))) : SpecB P β f args pre post := by
  intro R w hS
  refine calls_of_wp hf hb ?_
  rw [hN, enter_mkA hl]
  exact h hS.1.refl_le R _ w hS
theorem TriQ.retB {R : Asn} (hints : List Hint) (pk : List Nat) (hle : β.le β') (hr : ∀ junk, retOf P β' N junk fn fr hps hints = some (v, obl)) (ho : AllP obl) (hn : nodupB pk = true) (hp : pickL hps pk = some (l ++ [.abs R])) (hpost : post β' v l) :
    TriQ β' N (bodyPost P fn (RetQB β R post)) .ret fr hps :=
  fun junk _ hS => ⟨rfl, v, retOf_spec (hr junk) ho hS, β', v, l, hle, rfl, hpost, hS.pick hn hp⟩
theorem TriQ.finB {R : Asn} (hints : List Hint) (pk : List Nat) (hle : β.le β') (hr : ∀ junk, retOf P β' N junk fn fr hps hints = some (v, obl)) (ho : AllP obl) (hn : nodupB pk = true) (hp : pickL hps pk = some (l ++ [.abs R])) (hpost : post β' v l) :
    TriQ β' N (bodyPost P fn (RetQB β R post)) .normal fr hps :=
  fun junk _ hS => ⟨rfl, v, retOf_spec (hr junk) ho hS, β', v, l, hle, rfl, hpost, hS.pick hn hp⟩
/-- a law's last step, where the base has grown -/
theorem TriQ.retU {R : Asn} {post : Value → List HP → Prop} (hints : List Hint) (pk : List Nat) (hle : β.le β') (hr : ∀ junk, retOf P β' N junk fn fr hps hints = some (v, obl)) (ho : AllP obl) (hn : nodupB pk = true) (hp : pickL hps pk = some (l ++ [.abs R])) (hpost : post v l) :
    TriQ β' N (bodyPost P fn (RetQ β R post)) .ret fr hps :=
  fun junk _ hS => ⟨rfl, v, retOf_spec (hr junk) ho hS, v, l, rfl, hpost, (hS.pick hn hp).debase hle⟩
theorem TriQ.finU {R : Asn} {post : Value → List HP → Prop} (hints : List Hint) (pk : List Nat) (hle : β.le β') (hr : ∀ junk, retOf P β' N junk fn fr hps hints = some (v, obl)) (ho : AllP obl) (hn : nodupB pk = true) (hp : pickL hps pk = some (l ++ [.abs R])) (hpost : post v l) :
    TriQ β' N (bodyPost P fn (RetQ β R post)) .normal fr hps :=
  fun junk _ hS => ⟨rfl, v, retOf_spec (hr junk) ho hS, v, l, rfl, hpost, (hS.pick hn hp).debase hle⟩
/-- a loop over a base that grows -/
def TurnB (N : Nat) {ι : Type} (bs : ι → Bs) (Inv : ι → Prop) (μ : ι → Nat) (fr : ι → Fr) (hp : ι → List HP) (m : Nat) : Act → World → Prop := fun a w => ∃ i, Inv i ∧ μ i < m ∧ ∃ junk, a = mkA N (fr i) junk ∧ Sat (bs i) (hp i) w
theorem Tri.loopB {ι : Type} (bs : ι → Bs) (Inv : ι → Prop) (μ : ι → Nat) (fr' : ι → Fr) (hp' : ι → List HP) (i0 : ι) (hb : bs i0 = β) (h0 : Inv i0) (hf : ∀ junk, pickF fr junk idx = fr' i0) (hn : nodupB pk = true) (hp : pickL hps pk = some (hp' i0))
    (round : ∀ i, Inv i → Tri P (bs i) N c (fr' i) (hp' i) (Exit.then (TurnB N bs Inv μ fr' hp' (μ i)) Q)) : Tri P β N (.loop c) fr hps Q := by
  intro junk w hS
  subst hb
  refine wp_loop_ghost (fun n a w => ∃ i, Inv i ∧ μ i = n ∧ ∃ junk, a = mkA N (fr' i) junk ∧ Sat (bs i) (hp' i) w) (μ i0) ⟨i0, h0, rfl, lk fr junk, by rw [mkA_pick N fr junk idx, hf junk], hS.pick hn hp⟩ ?_
  rintro n a w ⟨i, hi, rfl, junk, rfl, hS⟩
  refine Code.wp_mono (fun e a w q => ?_) (round i hi junk w hS)
  cases e with
  | normal =>
    obtain ⟨i', hi', hlt, junk', e, hS'⟩ := q
    exact ⟨μ i', hlt, i', hi', rfl, junk', e, hS'⟩
  | exit id => exact q
  | goto l => exact q
  | ret => exact q
  | panic ch => exact q
  | outgrown => exact q
theorem TriQ.turnB {ι : Type} {bs : ι → Bs} {Inv : ι → Prop} {μ : ι → Nat} {fr' : ι → Fr} {hp' : ι → List HP} {m : Nat} (i : ι) (hb : bs i = β) (hi : Inv i) (hm : μ i < m) (hf : ∀ junk, pickF fr junk idx = fr' i) (hn : nodupB pk = true) (hp : pickL hps pk = some (hp' i)) :
    TriQ β N (Exit.then (TurnB N bs Inv μ fr' hp' m) Q) .normal fr hps := fun junk _ hS => ⟨i, hi, hm, lk fr junk, by rw [mkA_pick N fr junk idx, hf junk], hb ▸ hS.pick hn hp⟩
end specB
end Go.Proofs.Ytjpdcppdoonmdaa
end
/- part G. PROVED HERE: a graph as plain data, and what it means that it lies in memory that is only read. CONDITIONS: none. No statement of the seat is proved here. -/
section
namespace Go.Proofs.Ytjpdcppdoonmdaa
open Go.RowKit
structure EntM where
  name : ByteArray
  id : Int
deriving Inhabited, DecidableEq
structure NodeM where
  id : Int
  kind : Int
  mode : Int
  uid : Int
  gid : Int
  sec : Int
  nano : Int
  data : List UInt8
  target : ByteArray
  ents : List EntM
deriving Inhabited, DecidableEq
/-- where a graph's lists lie -/
structure Lay where
  dA : Nat → Option Addr
  eA : Nat → Option Addr
  dC : Nat → Nat
  eC : Nat → Nat
def nd (ns : List NodeM) (i : Nat) : NodeM := ns.getD i default
def en (es : List EntM) (i : Nat) : EntM := es.getD i default
def byteV (b : UInt8) : Value := .int .u8 ((b.toNat : Nat) : Int)
def bytesV (d : List UInt8) : List Value := d.map byteV
def entV (e : EntM) : List Value := [.string e.name, .int .i64 e.id]
def nodeV (L : Lay) (i : Nat) (n : NodeM) : List Value :=
  [.int .i64 n.id, .int .i64 n.kind, .int .i64 n.mode, .int .i64 n.uid, .int .i64 n.gid, .int .i64 n.sec, .int .i64 n.nano, .slice (L.dA i) n.data.length (L.dC i), .string n.target, .slice (L.eA i) n.ents.length (L.eC i)]
def flatF {α : Type} (f : Nat → α → List Value) : Nat → List α → List Value
  | _, [] => []
  | k, a :: r => f k a ++ flatF f (k + 1) r
section flat
variable {α : Type} {f : Nat → α → List Value} {s : Nat}
theorem flatF_len (hs : ∀ i a, (f i a).length = s) : ∀ (l : List α) (k : Nat), (flatF f k l).length = l.length * s
  | [], _ => by simp [flatF]
  | a :: r, k => by rw [flatF, List.length_append, hs, flatF_len hs r, List.length_cons, Nat.add_mul, Nat.one_mul, Nat.add_comm]
theorem flatF_get (hs : ∀ i a, (f i a).length = s) : ∀ (l : List α) (k i j : Nat) (a : α), l[i]? = some a → j < s → (flatF f k l)[i * s + j]? = (f (k + i) a)[j]?
  | [], k, i, j, a, h, _ => by simp at h
  | b :: r, k, 0, j, a, h, hj => by
    simp at h
    subst h
    rw [flatF, Nat.zero_mul, Nat.zero_add, List.getElem?_append_left (by rw [hs]; exact hj)]
    rfl
  | b :: r, k, i + 1, j, a, h, hj => by
    have h' : r[i]? = some a := by simpa using h
    have e : (i + 1) * s + j = s + (i * s + j) := by rw [Nat.add_mul, Nat.one_mul]; omega
    rw [flatF, e, List.getElem?_append_right (by rw [hs]; omega), hs, Nat.add_sub_cancel_left, flatF_get hs r (k + 1) i j a h' hj]
    have : k + 1 + i = k + (i + 1) := by omega
    rw [this]
theorem flatF_snoc (a : α) : ∀ (l : List α) (k : Nat), flatF f k (l ++ [a]) = flatF f k l ++ f (k + l.length) a
  | [], k => by simp [flatF]
  | b :: r, k => by
    rw [List.cons_append, flatF, flatF, flatF_snoc a r (k + 1), List.append_assoc, List.length_cons]
    have : k + 1 + r.length = k + (r.length + 1) := by omega
    rw [this]
theorem flatF_congr {g : Nat → α → List Value} : ∀ (l : List α) (k : Nat), (∀ i a, l[i]? = some a → f (k + i) a = g (k + i) a) → flatF f k l = flatF g k l
  | [], _, _ => rfl
  | b :: r, k, h => by
    have h1 : flatF f (k + 1) r = flatF g (k + 1) r := flatF_congr r (k + 1) (fun i a hi => by
      have := h (i + 1) a (by simpa using hi)
      have e : k + 1 + i = k + (i + 1) := by omega
      rw [e]
      exact this)
    have h2 : f k b = g k b := h 0 b rfl
    rw [flatF, flatF, h1, h2]
end flat
def entsV (es : List EntM) : List Value := flatF (fun _ e => entV e) 0 es
def nodesV (L : Lay) (ns : List NodeM) : List Value := flatF (nodeV L) 0 ns
theorem bytesV_len (d : List UInt8) : (bytesV d).length = d.length := by simp [bytesV]
theorem entsV_len (es : List EntM) : (entsV es).length = es.length * 2 := flatF_len (s := 2) (fun _ _ => rfl) es 0
theorem nodesV_len (L : Lay) (ns : List NodeM) : (nodesV L ns).length = ns.length * 10 := flatF_len (s := 10) (fun _ _ => rfl) ns 0
theorem getD_some {α : Type} {l : List α} {i : Nat} {x : α} (h : i < l.length) : l[i]? = some (l.getD i x) := by
  rw [List.getD_eq_getElem?_getD, List.getElem?_eq_getElem h]; rfl
theorem oneCell_bytes (d : List UInt8) : ∀ u ∈ bytesV d, u.oneCell' = true := by
  intro u hu
  obtain ⟨b, _, rfl⟩ := List.mem_map.1 hu
  rfl
theorem flatF_all {α : Type} {f : Nat → α → List Value} (h : ∀ i a, ∀ u ∈ f i a, u.oneCell' = true) : ∀ (l : List α) (k : Nat), ∀ u ∈ flatF f k l, u.oneCell' = true
  | [], _, u, hu => by simp [flatF] at hu
  | b :: r, k, u, hu => by
    rw [flatF] at hu
    rcases List.mem_append.1 hu with hu | hu
    · exact h k b u hu
    · exact flatF_all h r (k + 1) u hu
theorem oneCell_ents (es : List EntM) : ∀ u ∈ entsV es, u.oneCell' = true := flatF_all (fun _ a u hu => by simp [entV] at hu; rcases hu with rfl | rfl <;> rfl) es 0
section at_
variable {β β' : Bs} {A : Option Addr}
/-- a slice of bytes, read only -/
def BytesAt (β : Bs) (A : Option Addr) (d : List UInt8) : Prop := RowB β A (bytesV d)
def EntsAt (β : Bs) (A : Option Addr) (es : List EntM) : Prop := RowB β A (entsV es)
theorem BytesAt.le {d : List UInt8} (h : BytesAt β A d) (hle : β.le β') : BytesAt β' A d := RowB.le h hle
theorem EntsAt.le {es : List EntM} (h : EntsAt β A es) (hle : β.le β') : EntsAt β' A es := RowB.le h hle
theorem BytesAt.get {d : List UInt8} (h : BytesAt β A d) {j : Nat} (hj : j < d.length) : A = some ⟨blkOf A, offOf A, none⟩ ∧ Rd β ⟨blkOf A, offOf A + j * 1, none⟩ (.int .u8 (((d.getD j 0).toNat : Nat) : Int)) := by
  have h1 : (bytesV d)[j]? = some (byteV (d.getD j 0)) := by
    rw [bytesV, List.getElem?_map, getD_some (x := 0) hj]; rfl
  have := h j _ h1
  rw [Nat.mul_one]
  exact this
theorem BytesAt.hd {d : List UInt8} (h : BytesAt β A d) {j : Nat} (hj : j < d.length) : A = some ⟨blkOf A, offOf A, none⟩ := (h.get hj).1
theorem BytesAt.rd {d : List UInt8} (h : BytesAt β A d) {j : Nat} (hj : j < d.length) : Rd β ⟨blkOf A, offOf A + j * 1, none⟩ (.int .u8 (((d.getD j 0).toNat : Nat) : Int)) := (h.get hj).2
theorem EntsAt.get {es : List EntM} (h : EntsAt β A es) {i : Nat} (hi : i < es.length) {j : Nat} {v : Value} (hv : (entV (en es i))[j]? = some v) : A = some ⟨blkOf A, offOf A, none⟩ ∧ Rd β ⟨blkOf A, offOf A + i * 2 + j, none⟩ v := by
  have hj : j < 2 := len_of_some hv
  have h1 := flatF_get (f := fun _ e => entV e) (s := 2) (fun _ _ => rfl) es 0 i j _ (getD_some (x := default) hi) hj
  have := h (i * 2 + j) v (h1.trans hv)
  rw [← Nat.add_assoc] at this
  exact this
theorem EntsAt.hd {es : List EntM} (h : EntsAt β A es) {i : Nat} (hi : i < es.length) : A = some ⟨blkOf A, offOf A, none⟩ := (h.get hi (j := 0) rfl).1
theorem EntsAt.rd {es : List EntM} (h : EntsAt β A es) {i : Nat} (hi : i < es.length) {j : Nat} {v : Value} (hv : (entV (en es i))[j]? = some v) : Rd β ⟨blkOf A, offOf A + i * 2 + j, none⟩ v := (h.get hi hv).2
theorem RowB.src {hps : List HP} {xs : List Value} (h : RowB β A xs) : ∀ w, Sat β hps w → (A = none ∧ xs.length = 0) ∨ ∃ ad, A = some ad ∧ ∀ j u, xs[j]? = some u → w.cell? (ad.add j) = some u := by
  intro w hS
  cases hA : A with
  | none =>
    refine .inl ⟨rfl, ?_⟩
    cases xs with
    | nil => rfl
    | cons x r => have := (h 0 x rfl).1; rw [hA] at this; cases this
  | some a =>
    refine .inr ⟨a, rfl, fun j u hj => ?_⟩
    obtain ⟨h1, h2⟩ := h j u hj
    rw [hA] at h1 h2
    have e1 : a = ⟨blkOf (some a), offOf (some a), none⟩ := by injection h1
    have ea : a.add j = ⟨blkOf (some a), offOf (some a) + j, none⟩ := by
      rw [e1]
      unfold Addr.add
      split
      · rename_i h0; subst h0; rfl
      · rfl
    rw [ea]
    exact hS.1.cell h2
end at_
structure GraphAt (β : Bs) (A : Option Addr) (ns : List NodeM) (L : Lay) : Prop where
  row : RowB β A (nodesV L ns)
  data : ∀ i, i < ns.length → BytesAt β (L.dA i) (nd ns i).data
  ents : ∀ i, i < ns.length → EntsAt β (L.eA i) (nd ns i).ents
/-- the inner lists of the first k nodes -/
structure GraphIn (β : Bs) (ns : List NodeM) (k : Nat) (L : Lay) : Prop where
  data : ∀ i, i < k → BytesAt β (L.dA i) (nd ns i).data
  ents : ∀ i, i < k → EntsAt β (L.eA i) (nd ns i).ents
def Lay.put (L : Lay) (k : Nat) (dA : Option Addr) (dC : Nat) (eA : Option Addr) (eC : Nat) : Lay :=
  ⟨fun i => if i = k then dA else L.dA i, fun i => if i = k then eA else L.eA i, fun i => if i = k then dC else L.dC i, fun i => if i = k then eC else L.eC i⟩
section graph
variable {β β' : Bs} {A : Option Addr} {ns : List NodeM} {L : Lay}
theorem GraphAt.le (h : GraphAt β A ns L) (hle : β.le β') : GraphAt β' A ns L := ⟨h.row.le hle, fun i hi => (h.data i hi).le hle, fun i hi => (h.ents i hi).le hle⟩
theorem GraphAt.get (h : GraphAt β A ns L) {i : Nat} (hi : i < ns.length) {j : Nat} {v : Value} (hv : (nodeV L i (nd ns i))[j]? = some v) : A = some ⟨blkOf A, offOf A, none⟩ ∧ Rd β ⟨blkOf A, offOf A + i * 10 + j, none⟩ v := by
  have hj : j < 10 := len_of_some hv
  have h1 := flatF_get (f := nodeV L) (s := 10) (fun _ _ => rfl) ns 0 i j _ (getD_some (x := default) hi) hj
  rw [Nat.zero_add] at h1
  have := h.row (i * 10 + j) v (h1.trans hv)
  rw [← Nat.add_assoc] at this
  exact this
theorem GraphAt.hd (h : GraphAt β A ns L) {i : Nat} (hi : i < ns.length) : A = some ⟨blkOf A, offOf A, none⟩ := (h.get hi (j := 0) rfl).1
theorem GraphAt.rd (h : GraphAt β A ns L) {i : Nat} (hi : i < ns.length) {j : Nat} {v : Value} (hv : (nodeV L i (nd ns i))[j]? = some v) : Rd β ⟨blkOf A, offOf A + i * 10 + j, none⟩ v := (h.get hi hv).2
theorem GraphIn.le {k : Nat} (h : GraphIn β ns k L) (hle : β.le β') : GraphIn β' ns k L := ⟨fun i hi => (h.data i hi).le hle, fun i hi => (h.ents i hi).le hle⟩
theorem GraphIn.put {k : Nat} (h : GraphIn β ns k L) {dA eA : Option Addr} {dC eC : Nat} (hd : BytesAt β dA (nd ns k).data) (he : EntsAt β eA (nd ns k).ents) : GraphIn β ns (k + 1) (L.put k dA dC eA eC) := by
  refine ⟨fun i hi => ?_, fun i hi => ?_⟩
  · by_cases e : i = k
    · subst e; simpa [Lay.put] using hd
    · simpa [Lay.put, e] using h.data i (by omega)
  · by_cases e : i = k
    · subst e; simpa [Lay.put] using he
    · simpa [Lay.put, e] using h.ents i (by omega)
theorem nodesV_put {k : Nat} (hk : k < ns.length) (dA : Option Addr) (dC : Nat) (eA : Option Addr) (eC : Nat) :
    nodesV L (ns.take k) ++ [.int .i64 (nd ns k).id, .int .i64 (nd ns k).kind, .int .i64 (nd ns k).mode, .int .i64 (nd ns k).uid, .int .i64 (nd ns k).gid, .int .i64 (nd ns k).sec, .int .i64 (nd ns k).nano, .slice dA (nd ns k).data.length dC, .string (nd ns k).target, .slice eA (nd ns k).ents.length eC] =
      nodesV (L.put k dA dC eA eC) (ns.take (k + 1)) := by
  have e1 : ns.take (k + 1) = ns.take k ++ [nd ns k] := by
    rw [List.take_succ_eq_append_getElem hk]
    simp [nd, List.getD_eq_getElem?_getD, hk]
  have hlen : (ns.take k).length = k := by simp; omega
  rw [nodesV, nodesV, e1, flatF_snoc, hlen, Nat.zero_add]
  have e2 : flatF (nodeV (L.put k dA dC eA eC)) 0 (ns.take k) = flatF (nodeV L) 0 (ns.take k) := flatF_congr _ _ (fun i a hi => by
    have hi' := len_of_some hi
    have hne : ¬ 0 + i = k := by omega
    simp [nodeV, Lay.put]
    omega)
  rw [e2]
  simp [nodeV, Lay.put]
theorem GraphAt.mk' {k : Nat} (hrow : RowB β A (nodesV L (ns.take k))) (h : GraphIn β ns k L) (hk : ns.length ≤ k) : GraphAt β A ns L := by
  rw [List.take_of_length_le hk] at hrow
  exact ⟨hrow, fun i hi => h.data i (by omega), fun i hi => h.ents i (by omega)⟩
end graph
end Go.Proofs.Ytjpdcppdoonmdaa
end
/- part GL. PROVED HERE: small laws of lists. CONDITIONS: none. -/
section
namespace Go.Proofs.Ytjpdcppdoonmdaa
theorem ext_getD {α : Type} {x : α} {a b : List α} (hl : a.length = b.length) (h : ∀ j, j < a.length → a.getD j x = b.getD j x) : a = b := by
  apply List.ext_getElem hl
  intro j h1 h2
  have := h j h1
  rw [List.getD_eq_getElem?_getD, List.getD_eq_getElem?_getD, List.getElem?_eq_getElem h1, List.getElem?_eq_getElem h2] at this
  exact this
theorem byte_eq {a b : UInt8} (h : ((a.toNat : Nat) : Int) = ((b.toNat : Nat) : Int)) : a = b := UInt8.toNat_inj.1 (by omega)
theorem entEq {a b : EntM} (h : a.name = b.name ∧ a.id = b.id) : a = b := by cases a; cases b; simp_all
theorem nodeEq {n m : NodeM} (h1 : n.id = m.id) (h2 : n.kind = m.kind) (h3 : n.mode = m.mode) (h4 : n.uid = m.uid) (h5 : n.gid = m.gid) (h6 : n.sec = m.sec ∧ n.nano = m.nano) (h7 : n.target = m.target) (h8 : n.data = m.data) (h9 : n.ents = m.ents) : n = m := by
  cases n; cases m; simp_all
end Go.Proofs.Ytjpdcppdoonmdaa
end
/- part GT. PROVED HERE: two times are compared. CONDITIONS: none. -/
section
namespace Go.Proofs.Ytjpdcppdoonmdaa
open Go.RowKit
theorem time_held : Try.prog.stoodInHeld 28 = false := by kernel_rfl
theorem time_guard : Try.prog.eqGuardType Try.prog.depth 28 = false := by kernel_rfl
theorem time_fields : Try.prog.underlying 28 = some (.struct (Try.prog.fieldsOf 28)) := by kernel_rfl
theorem ran_timeNeq {w : World} {o : Oper} {ev : Operand → Value} {x y : Operand} {a b c d : Int} (ho : o.op = .binOp .neq 28 x y 28) (hx : ev x = .agg #[.int .i64 a, .int .i64 b]) (hy : ev y = .agg #[.int .i64 c, .int .i64 d]) :
    Ran Try.prog ev o w (.bool (!decide (a = c ∧ b = d))) w := by
  obtain ⟨dst, op, type, pos, after, guard⟩ := o
  cases ho
  refine .inl ?_
  simp only [execOp, hx, hy]
  simp [go_sem]
  by_cases h1 : a = c <;> by_cases h2 : b = d <;> simp [h1, h2]
theorem ent_held : Try.prog.stoodInHeld 72 = false := by kernel_rfl
theorem ent_guard : Try.prog.eqGuardType Try.prog.depth 72 = false := by kernel_rfl
theorem ent_fields : Try.prog.underlying 72 = some (.struct (Try.prog.fieldsOf 72)) := by kernel_rfl
theorem ran_entNeq {w : World} {o : Oper} {ev : Operand → Value} {x y : Operand} {a c : ByteArray} {b d : Int} (ho : o.op = .binOp .neq 72 x y 72) (hx : ev x = .agg #[.string a, .int .i64 b]) (hy : ev y = .agg #[.string c, .int .i64 d]) :
    Ran Try.prog ev o w (.bool (!decide (a = c ∧ b = d))) w := by
  obtain ⟨dst, op, type, pos, after, guard⟩ := o
  cases ho
  refine .inl ?_
  simp only [execOp, hx, hy]
  simp [go_sem, strEq']
  by_cases h1 : a = c <;> by_cases h2 : b = d <;> simp [h1, h2]
end Go.Proofs.Ytjpdcppdoonmdaa
end
/- part GCopy. PROVED HERE: copies and comparisons of bytes, nodes, graphs CONDITIONS: as the theorems say. Printed by a program of this repo (wip/v). -/
section
namespace Go.Proofs.Ytjpdcppdoonmdaa
open Go.RowKit
attribute [local irreducible] TriL TriLQ Tri TriQ
set_option maxRecDepth 100000 in
set_option maxHeartbeats 4000000 in
theorem sp_sameBytes {β : Bs} (A1 A2 : Option Addr) (c1 c2 : Nat) (d1 d2 : List UInt8) (hA1 : BytesAt β A1 d1) (hA2 : BytesAt β A2 d2) (hl : d1.length ≤ 1048576) :
    Spec Try.prog β 62 #[.slice A1 d1.length c1, .slice A2 d2.length c2] [] (fun v l => v = .bool (decide (d1 = d2)) ∧ l = []) := by
 refine Spec.enter Try.func62 rfl Try.ntmps62 (Nat.le_of_ble_eq_true rfl) (fun R => ?_)
 refine Tri.seq (Tri.region ?_)
 refine TriL.segK (k' := 1) (fr' := [(0, .slice A1 (d1.length) (c1)), (1, .slice A2 (d2.length) (c2))]) (obl := []) [o_] [0, 1] (fun _ _ => by kernel_rfl) trivial ?_
 refine TriL.nil (by kernel_rfl) (TriQ.next (Tri.seq (Tri.seq (Tri.region ?_))))
 refine TriL.segK (k' := 5) (fr' := [(0, .slice A1 (d1.length) (c1)), (1, .slice A2 (d2.length) (c2)), (10, .bool (!(decide ((((d1.length : Nat) : Int) : Int) = (((d2.length : Nat) : Int) : Int)))))]) (obl := []) [o_, o_, o_, o_, o_] [0, 1, 10] (fun _ _ => by kernel_rfl) trivial ?_
 refine TriL.nil (by kernel_rfl) (TriQ.next ?_)
 refine Tri.condN (p := (((d1.length : Nat) : Int) : Int) = (((d2.length : Nat) : Int) : Int)) (fun _ => by kernel_rfl) (fun h10 => ?_) (fun h10 => ?_)
 ·
  refine Tri.seq (Tri.region ?_)
  refine TriL.segK (k' := 1) (fr' := [(4, .bool false)]) (obl := []) [o_] [4] (fun _ _ => by kernel_rfl) trivial ?_
  refine TriL.nil (by kernel_rfl) (TriQ.next (Tri.ret (TriQ.passRet ?_)))
  exact TriQ.ret (v := .bool false) (l := []) (obl := []) [] [0] (fun _ => by kernel_rfl) trivial rfl (by kernel_rfl) (⟨by rw [decide_eq_false (fun e => h10 (by rw [e]))], rfl⟩)
 ·
  refine Tri.skip (TriQ.next (Tri.seq (Tri.seq (Tri.region ?_))))
  refine TriL.segK (k' := 1) (fr' := [(0, .slice A1 (d1.length) (c1)), (1, .slice A2 (d2.length) (c2)), (5, .int .i64 0)]) (obl := []) [o_] [0, 1, 5] (fun _ _ => by kernel_rfl) trivial ?_
  refine TriL.nil (by kernel_rfl) (TriQ.next (Tri.block ?_))
  refine Tri.loop (ι := Nat) (fun (i : Nat) => (i ≤ d1.length) ∧ (∀ j, j < i → d1.getD j 0 = d2.getD j 0)) (fun (i : Nat) => d1.length - i) (fun (i : Nat) => [(0, .slice A1 (d1.length) (c1)), (1, .slice A2 (d2.length) (c2)), (5, .int .i64 ↑i)]) (fun (i : Nat) => [.abs R]) 0 (idx := [0, 1, 5]) (pk := [0]) (show (0 ≤ d1.length) ∧ (∀ j, j < 0 → d1.getD j 0 = d2.getD j 0) from ⟨Nat.zero_le _, fun j hj => absurd hj (Nat.not_lt_zero j)⟩) (fun _ => by kernel_rfl) rfl (by kernel_rfl) ?_
  rintro i ⟨hi, hall⟩
  show Tri _ _ _ _ [(0, .slice A1 (d1.length) (c1)), (1, .slice A2 (d2.length) (c2)), (5, .int .i64 ↑i)] [.abs R] _
  refine Tri.seq (Tri.seq (Tri.region ?_))
  refine TriL.segK (k' := 4) (fr' := [(0, .slice A1 (d1.length) (c1)), (1, .slice A2 (d2.length) (c2)), (5, .int .i64 ↑i), (14, .bool (decide ((((i : Nat) : Int) : Int) < (((d1.length : Nat) : Int) : Int))))]) (obl := []) [o_, o_, o_, o_] [0, 1, 5, 14] (fun _ _ => by kernel_rfl) trivial ?_
  refine TriL.nil (by kernel_rfl) (TriQ.next ?_)
  refine Tri.condP (p := (((i : Nat) : Int) : Int) < (((d1.length : Nat) : Int) : Int)) (fun _ => by kernel_rfl) (fun h14 => ?_) (fun h14 => ?_)
  ·
   refine Tri.skip (TriQ.next (Tri.seq (Tri.block (Tri.seq ?_))))
   refine Tri.regionQ (by kernel_rfl) (by kernel_rfl) ?_
   refine TriLQ.seg (k' := 9) (fr' := [(0, .slice A1 (d1.length) (c1)), (1, .slice A2 (d2.length) (c2)), (5, .int .i64 ↑i), (25, .bool (!(decide (((((List.getD d1 i 0).toNat : Nat) : Int) : Int) = ((((List.getD d2 i 0).toNat : Nat) : Int) : Int)))))]) (obl := [(Rd β ⟨(blkOf A2), offOf A2 + i * 1, none⟩ (.int .u8 ((((List.getD d2 i 0).toNat : Nat) : Int)))), ((i : Nat) : Int) = ((i : Nat) : Int), i < d2.length, (⟨(blkOf A2), offOf A2, none⟩ : Addr).spot = none, (A2 : Option Addr) = some ⟨(blkOf A2), offOf A2, none⟩, (Rd β ⟨(blkOf A1), offOf A1 + i * 1, none⟩ (.int .u8 ((((List.getD d1 i 0).toNat : Nat) : Int)))), ((i : Nat) : Int) = ((i : Nat) : Int), i < d1.length, (⟨(blkOf A1), offOf A1, none⟩ : Addr).spot = none, (A1 : Option Addr) = some ⟨(blkOf A1), offOf A1, none⟩]) [o_, o_, ⟨[], some i, none, some ⟨(blkOf A1), offOf A1, none⟩, none⟩, ⟨[.old (.int .u8 ((((List.getD d1 i 0).toNat : Nat) : Int)))], none, none, none, none⟩, o_, o_, ⟨[], some i, none, some ⟨(blkOf A2), offOf A2, none⟩, none⟩, ⟨[.old (.int .u8 ((((List.getD d2 i 0).toNat : Nat) : Int)))], none, none, none, none⟩, o_] [0, 1, 5, 25] (fun _ _ => by kernel_rfl) ⟨BytesAt.rd hA2 (by omega), rfl, by omega, rfl, BytesAt.hd hA2 (j := i) (by omega), BytesAt.rd hA1 (by omega), rfl, by omega, rfl, BytesAt.hd hA1 (j := i) (by omega), trivial⟩ ?_
   refine TriLQ.nil (by kernel_rfl) (TriQ.next ?_)
   refine Tri.condN (p := ((((List.getD d1 i 0).toNat : Nat) : Int) : Int) = ((((List.getD d2 i 0).toNat : Nat) : Int) : Int)) (fun _ => by kernel_rfl) (fun h25 => ?_) (fun h25 => ?_)
   ·
    refine Tri.seq (Tri.region ?_)
    refine TriL.segK (k' := 1) (fr' := [(4, .bool false)]) (obl := []) [o_] [4] (fun _ _ => by kernel_rfl) trivial ?_
    refine TriL.nil (by kernel_rfl) (TriQ.next (Tri.ret (TriQ.blockRet (TriQ.passRet (TriQ.passRet (TriQ.blockRet (TriQ.passRet ?_)))))))
    exact TriQ.ret (v := .bool false) (l := []) (obl := []) [] [0] (fun _ => by kernel_rfl) trivial rfl (by kernel_rfl) (⟨by rw [decide_eq_false (fun e => h25 (by rw [e]))], rfl⟩)
   ·
    refine Tri.skip (TriQ.blockNormal (TriQ.next (Tri.region ?_)))
    refine TriL.segK (k' := 3) (fr' := [(0, .slice A1 (d1.length) (c1)), (1, .slice A2 (d2.length) (c2)), (5, .int .i64 ↑(i + 1))]) (obl := [(Value.int .i64 (IntKind.wrap .i64 (((i : Nat) : Int) + 1))) = (.int .i64 ↑(i + 1))]) [o_, ⟨[], none, none, none, some (.int .i64 ↑(i + 1))⟩, o_] [0, 1, 5] (fun _ _ => by kernel_rfl) ⟨wrapEq (by omega) (by omega) (by omega), trivial⟩ ?_
    refine TriL.nil (by kernel_rfl) ?_
    exact TriQ.turn ((i + 1)) (idx := [0, 1, 5]) (pk := [0]) (show (((i + 1)) ≤ d1.length) ∧ (∀ j, j < ((i + 1)) → d1.getD j 0 = d2.getD j 0) from ⟨by omega, fun j hj => by rcases Nat.lt_succ_iff_lt_or_eq.1 hj with h | h; exact hall j h; subst h; exact byte_eq h25⟩) (by show d1.length - ((i + 1)) < d1.length - i; omega) (fun _ => by kernel_rfl) rfl (by kernel_rfl)
  ·
   refine Tri.exit (TriQ.passExit (TriQ.passExit (TriQ.blockHit (TriQ.next (Tri.seq (Tri.region ?_))))))
   refine TriL.segK (k' := 1) (fr' := [(4, .bool true)]) (obl := []) [o_] [4] (fun _ _ => by kernel_rfl) trivial ?_
   refine TriL.nil (by kernel_rfl) (TriQ.next (Tri.ret ?_))
   exact TriQ.ret (v := .bool true) (l := []) (obl := []) [] [0] (fun _ => by kernel_rfl) trivial rfl (by kernel_rfl) (⟨by rw [decide_eq_true (ext_getD (x := 0) (by omega) (fun j hj => hall j (by omega)))], rfl⟩)
set_option maxRecDepth 100000 in
set_option maxHeartbeats 4000000 in
theorem sp_copyBytes {β : Bs} (A : Option Addr) (c : Nat) (d : List UInt8) (hA : BytesAt β A d) (hl : d.length ≤ 1048576) :
    SpecB Try.prog β 48 #[.slice A d.length c] [] (fun β' v l => ∃ B cap, v = .slice B d.length cap ∧ l = [] ∧ BytesAt β' B d) := by
 refine SpecB.enter Try.func48 rfl Try.ntmps48 (Nat.le_of_ble_eq_true rfl) (fun hle0 R => ?_)
 refine Tri.seq (Tri.region ?_)
 refine TriL.segK (k' := 1) (fr' := [(0, .slice A (d.length) (c))]) (obl := []) [o_] [0] (fun _ _ => by kernel_rfl) trivial ?_
 refine TriL.nil (by kernel_rfl) (TriQ.next (Tri.seq (Tri.region ?_)))
 refine TriL.segN (k' := 2) (fr' := fun b1 => [(0, .slice A (d.length) (c)), (3, .slice (some ⟨b1, 0, none⟩) (0) (0))]) (hps' := fun b1 => [.abs R, .blk b1 [] 5]) (obl := fun b1 => []) [o_, o_] [0, 3] [0, 1] (fun _ _ => by kernel_rfl) (fun b1 => trivial) (fun b1 => ?_)
 refine TriL.nil (by kernel_rfl) (TriQ.next (Tri.seq (Tri.region ?_)))
 refine TriL.mem (fun w hS => hS.toRow (i := 1) (b := b1) (cs := []) (e := 5) 1 0 (by kernel_rfl) rfl (by decide)) ?_
 refine TriL.segK (k' := 2) (fr' := [(5, .slice (some ⟨b1, 0, none⟩) (0) (0)), (6, .slice A (d.length) (c))]) (obl := []) [o_, o_] [5, 6] (fun _ _ => by kernel_rfl) trivial ?_
 refine TriL.append 1 (d := (some 7)) (t := 29) (e := 5) (z := .int .u8 0) (size := 1) (bytes := 1) (n := 0) (cap := 0) (A := some ⟨b1, 0, none⟩) (xs := []) (s := (.tmp 5)) (x := (.tmp 6)) (ats := #[29, 29]) (A' := A) (m := d.length) (c' := c) (news := (bytesV d)) (fun _ => by kernel_rfl) rfl (by kernel_rfl) (fun _ => by kernel_rfl) (fun _ => by kernel_rfl) Try.underlying29 (by kernel_rfl) rfl (by decide) (by rw [bytesV_len, Nat.mul_one]) (oneCell_bytes d) (hA.src) (by unfold maxLen; omega) (by omega) (fun A2 c3 => ?_)
 refine TriL.partEq 1 (p := .abs (RowA 5 1 A2 (0 + d.length) c3 ([] ++ (bytesV d)))) (p' := .abs (RowA 5 1 A2 d.length c3 (bytesV d))) (by kernel_rfl) (by rw [Nat.zero_add, List.nil_append]) ?_
 refine TriL.slot 7 (.slice A2 (0 + d.length) (c3)) (.slice A2 (d.length) (c3)) (fun _ => by kernel_rfl) (by rw [Nat.zero_add]) ?_
 refine TriL.segK (k' := 4) (fr' := [(3, .slice A2 (d.length) (c3))]) (obl := []) [o_] [3] (fun _ _ => by kernel_rfl) trivial ?_
 refine TriL.nil (by kernel_rfl) (TriQ.next (Tri.seq (Tri.region ?_)))
 refine TriL.rebase (Φ := fun β' => BytesAt β' A2 d) 1 [0] (hps' := [.abs R]) rfl rfl (by kernel_rfl) (fun F w h β' h1 h2 => RowB.of_row h h1 h2) (fun β1 hle_β1 hB => ?_)
 replace hA := hA.le hle_β1
 replace hle0 := hle0.trans hle_β1
 refine TriL.segK (k' := 2) (fr' := [(2, .slice A2 (d.length) (c3))]) (obl := []) [o_, o_] [2] (fun _ _ => by kernel_rfl) trivial ?_
 refine TriL.nil (by kernel_rfl) (TriQ.next (Tri.ret ?_))
 exact TriQ.retB (v := .slice A2 (d.length) (c3)) (l := []) (obl := []) [] [0] hle0 (fun _ => by kernel_rfl) trivial rfl (by kernel_rfl) (⟨A2, c3, rfl, rfl, hB⟩)
set_option maxRecDepth 100000 in
set_option maxHeartbeats 4000000 in
theorem sp_copyNode {β : Bs} (n : NodeM) (dA eA : Option Addr) (dC eC : Nat) (hD : BytesAt β dA n.data) (hE : EntsAt β eA n.ents) (hl1 : n.data.length ≤ 1048576) (hl2 : n.ents.length ≤ 1048576) :
    SpecB Try.prog β 38 #[.agg #[.int .i64 (n.id), .int .i64 (n.kind), .int .i64 (n.mode), .int .i64 (n.uid), .int .i64 (n.gid), .int .i64 (n.sec), .int .i64 (n.nano), .slice dA (n.data.length) (dC), .string n.target, .slice eA (n.ents.length) (eC)]] [] (fun β' v l => ∃ dB cd eB ce, v = .agg #[.int .i64 (n.id), .int .i64 (n.kind), .int .i64 (n.mode), .int .i64 (n.uid), .int .i64 (n.gid), .int .i64 (n.sec), .int .i64 (n.nano), .slice dB (n.data.length) (cd), .string n.target, .slice eB (n.ents.length) (ce)] ∧ l = [] ∧ BytesAt β' dB n.data ∧ EntsAt β' eB n.ents) := by
 refine SpecB.enter Try.func38 rfl Try.ntmps38 (Nat.le_of_ble_eq_true rfl) (fun hle0 R => ?_)
 refine Tri.seq (Tri.region ?_)
 refine TriL.segN (k' := 1) (fr' := fun b4 => [(1, .pointer (some ⟨b4, 0, none⟩))]) (hps' := fun b4 => [.abs R, .blk b4 [.int .i64 (n.id), .int .i64 (n.kind), .int .i64 (n.mode), .int .i64 (n.uid), .int .i64 (n.gid), .int .i64 (n.sec), .int .i64 (n.nano), .slice dA (n.data.length) (dC), .string n.target, .slice eA (n.ents.length) (eC)] 32]) (obl := fun b4 => []) [o_] [1] [0, 1] (fun _ _ => by kernel_rfl) (fun b4 => trivial) (fun b4 => ?_)
 refine TriL.segN (k' := 2) (fr' := fun b5 => [(1, .pointer (some ⟨b4, 0, none⟩)), (2, .pointer (some ⟨b5, 0, none⟩))]) (hps' := fun b5 => [.abs R, .blk b4 [.int .i64 (n.id), .int .i64 (n.kind), .int .i64 (n.mode), .int .i64 (n.uid), .int .i64 (n.gid), .int .i64 (n.sec), .int .i64 (n.nano), .slice dA (n.data.length) (dC), .string n.target, .slice eA (n.ents.length) (eC)] 32, .blk b5 [.int .i64 0, .int .i64 0, .int .i64 0, .int .i64 0, .int .i64 0, .int .i64 0, .int .i64 0, .slice none (0) (0), .string ⟨#[]⟩, .slice none (0) (0)] 32]) (obl := fun b5 => []) [o_] [1, 2] [0, 1, 2] (fun _ _ => by kernel_rfl) (fun b5 => trivial) (fun b5 => ?_)
 refine TriL.nil (by kernel_rfl) (TriQ.next (Tri.seq (Tri.region ?_)))
 refine TriL.segK (k' := 2) (fr' := [(1, .pointer (some ⟨b4, 0, none⟩)), (2, .pointer (some ⟨b5, 0, none⟩)), (5, .slice dA (n.data.length) (dC))]) (obl := [b4 = b4]) [o_, ⟨[.at 1], none, none, none, none⟩] [1, 2, 5] (fun _ _ => by kernel_rfl) ⟨rfl, trivial⟩ ?_
 refine TriL.callB (f := 48) (args := #[.slice dA (n.data.length) (dC)]) (d := (some 6)) (pre := []) (R := [.abs R, .blk b4 [.int .i64 (n.id), .int .i64 (n.kind), .int .i64 (n.mode), .int .i64 (n.uid), .int .i64 (n.gid), .int .i64 (n.sec), .int .i64 (n.nano), .slice dA (n.data.length) (dC), .string n.target, .slice eA (n.ents.length) (eC)] 32, .blk b5 [.int .i64 0, .int .i64 0, .int .i64 0, .int .i64 0, .int .i64 0, .int .i64 0, .int .i64 0, .slice none (0) (0), .string ⟨#[]⟩, .slice none (0) (0)] 32]) (pk := [0, 1, 2]) (fun _ => by kernel_rfl) (sp_copyBytes dA dC n.data hD hl1) rfl (by kernel_rfl) ?_
 rintro β1 _ _ hle_β1 ⟨B6, c7, rfl, rfl, hD1⟩
 replace hD := hD.le hle_β1
 replace hE := hE.le hle_β1
 replace hle0 := hle0.trans hle_β1
 refine TriL.seg (k' := 5) (fr' := [(1, .pointer (some ⟨b4, 0, none⟩)), (2, .pointer (some ⟨b5, 0, none⟩))]) (hps' := [.abs R, .blk b4 [.int .i64 (n.id), .int .i64 (n.kind), .int .i64 (n.mode), .int .i64 (n.uid), .int .i64 (n.gid), .int .i64 (n.sec), .int .i64 (n.nano), .slice B6 (n.data.length) (c7), .string n.target, .slice eA (n.ents.length) (eC)] 32, .blk b5 [.int .i64 0, .int .i64 0, .int .i64 0, .int .i64 0, .int .i64 0, .int .i64 0, .int .i64 0, .slice none (0) (0), .string ⟨#[]⟩, .slice none (0) (0)] 32]) (obl := [b4 = b4]) [o_, ⟨[.at 1], none, none, none, none⟩] [1, 2] [0, 1, 2] (fun _ _ => by kernel_rfl) ⟨rfl, trivial⟩ ?_
 refine TriL.nil (by kernel_rfl) (TriQ.next (Tri.seq (Tri.region ?_)))
 refine TriL.segN (k' := 2) (fr' := fun b8 => [(1, .pointer (some ⟨b4, 0, none⟩)), (2, .pointer (some ⟨b5, 0, none⟩)), (3, .slice (some ⟨b8, 0, none⟩) (0) (0))]) (hps' := fun b8 => [.abs R, .blk b4 [.int .i64 (n.id), .int .i64 (n.kind), .int .i64 (n.mode), .int .i64 (n.uid), .int .i64 (n.gid), .int .i64 (n.sec), .int .i64 (n.nano), .slice B6 (n.data.length) (c7), .string n.target, .slice eA (n.ents.length) (eC)] 32, .blk b5 [.int .i64 0, .int .i64 0, .int .i64 0, .int .i64 0, .int .i64 0, .int .i64 0, .int .i64 0, .slice none (0) (0), .string ⟨#[]⟩, .slice none (0) (0)] 32, .blk b8 [] 72]) (obl := fun b8 => []) [o_, o_] [1, 2, 3] [0, 1, 2, 3] (fun _ _ => by kernel_rfl) (fun b8 => trivial) (fun b8 => ?_)
 refine TriL.nil (by kernel_rfl) (TriQ.next (Tri.seq (Tri.region ?_)))
 refine TriL.mem (fun w hS => hS.toRow (i := 3) (b := b8) (cs := []) (e := 72) 2 0 (by kernel_rfl) rfl (by decide)) ?_
 refine TriL.segK (k' := 3) (fr' := [(1, .pointer (some ⟨b4, 0, none⟩)), (2, .pointer (some ⟨b5, 0, none⟩)), (9, .slice (some ⟨b8, 0, none⟩) (0) (0)), (11, .slice eA (n.ents.length) (eC))]) (obl := [b4 = b4]) [o_, o_, ⟨[.at 1], none, none, none, none⟩] [1, 2, 9, 11] (fun _ _ => by kernel_rfl) ⟨rfl, trivial⟩ ?_
 refine TriL.append 3 (d := (some 12)) (t := 30) (e := 72) (z := .agg #[.string ⟨#[]⟩, .int .i64 0]) (size := 2) (bytes := 24) (n := 0) (cap := 0) (A := some ⟨b8, 0, none⟩) (xs := []) (s := (.tmp 9)) (x := (.tmp 11)) (ats := #[30, 30]) (A' := eA) (m := n.ents.length) (c' := eC) (news := (entsV n.ents)) (fun _ => by kernel_rfl) rfl (by kernel_rfl) (fun _ => by kernel_rfl) (fun _ => by kernel_rfl) Try.underlying30 (by kernel_rfl) rfl (by decide) (by rw [entsV_len]) (oneCell_ents n.ents) (hE.src) (by unfold maxLen; omega) (by omega) (fun A9 c10 => ?_)
 refine TriL.partEq 3 (p := .abs (RowA 72 2 A9 (0 + n.ents.length) c10 ([] ++ (entsV n.ents)))) (p' := .abs (RowA 72 2 A9 n.ents.length c10 (entsV n.ents))) (by kernel_rfl) (by rw [Nat.zero_add, List.nil_append]) ?_
 refine TriL.slot 12 (.slice A9 (0 + n.ents.length) (c10)) (.slice A9 (n.ents.length) (c10)) (fun _ => by kernel_rfl) (by rw [Nat.zero_add]) ?_
 refine TriL.segK (k' := 5) (fr' := [(1, .pointer (some ⟨b4, 0, none⟩)), (2, .pointer (some ⟨b5, 0, none⟩)), (3, .slice A9 (n.ents.length) (c10))]) (obl := []) [o_] [1, 2, 3] (fun _ _ => by kernel_rfl) trivial ?_
 refine TriL.nil (by kernel_rfl) (TriQ.next (Tri.seq (Tri.region ?_)))
 refine TriL.rebase (Φ := fun β' => EntsAt β' A9 n.ents) 3 [0, 1, 2] (hps' := [.abs R, .blk b4 [.int .i64 (n.id), .int .i64 (n.kind), .int .i64 (n.mode), .int .i64 (n.uid), .int .i64 (n.gid), .int .i64 (n.sec), .int .i64 (n.nano), .slice B6 (n.data.length) (c7), .string n.target, .slice eA (n.ents.length) (eC)] 32, .blk b5 [.int .i64 0, .int .i64 0, .int .i64 0, .int .i64 0, .int .i64 0, .int .i64 0, .int .i64 0, .slice none (0) (0), .string ⟨#[]⟩, .slice none (0) (0)] 32]) rfl rfl (by kernel_rfl) (fun F w h β' h1 h2 => RowB.of_row h h1 h2) (fun β2 hle_β2 hE1 => ?_)
 replace hD := hD.le hle_β2
 replace hE := hE.le hle_β2
 replace hD1 := hD1.le hle_β2
 replace hle0 := hle0.trans hle_β2
 refine TriL.seg (k' := 3) (fr' := [(1, .pointer (some ⟨b4, 0, none⟩)), (2, .pointer (some ⟨b5, 0, none⟩))]) (hps' := [.abs R, .blk b4 [.int .i64 (n.id), .int .i64 (n.kind), .int .i64 (n.mode), .int .i64 (n.uid), .int .i64 (n.gid), .int .i64 (n.sec), .int .i64 (n.nano), .slice B6 (n.data.length) (c7), .string n.target, .slice A9 (n.ents.length) (c10)] 32, .blk b5 [.int .i64 0, .int .i64 0, .int .i64 0, .int .i64 0, .int .i64 0, .int .i64 0, .int .i64 0, .slice none (0) (0), .string ⟨#[]⟩, .slice none (0) (0)] 32]) (obl := [b4 = b4]) [o_, o_, ⟨[.at 1], none, none, none, none⟩] [1, 2] [0, 1, 2] (fun _ _ => by kernel_rfl) ⟨rfl, trivial⟩ ?_
 refine TriL.nil (by kernel_rfl) (TriQ.next (Tri.seq (Tri.region ?_)))
 refine TriL.seg (k' := 2) (fr' := [(2, .pointer (some ⟨b5, 0, none⟩))]) (hps' := [.abs R, .blk b4 [.int .i64 (n.id), .int .i64 (n.kind), .int .i64 (n.mode), .int .i64 (n.uid), .int .i64 (n.gid), .int .i64 (n.sec), .int .i64 (n.nano), .slice B6 (n.data.length) (c7), .string n.target, .slice A9 (n.ents.length) (c10)] 32, .blk b5 [.int .i64 (n.id), .int .i64 (n.kind), .int .i64 (n.mode), .int .i64 (n.uid), .int .i64 (n.gid), .int .i64 (n.sec), .int .i64 (n.nano), .slice B6 (n.data.length) (c7), .string n.target, .slice A9 (n.ents.length) (c10)] 32]) (obl := [b5 = b5, b5 = b5, b5 = b5, b5 = b5, b5 = b5, b5 = b5, b5 = b5, b5 = b5, b5 = b5, b5 = b5, b4 = b4, b4 = b4, b4 = b4, b4 = b4, b4 = b4, b4 = b4, b4 = b4, b4 = b4, b4 = b4, b4 = b4]) [⟨[.at 1, .at 1, .at 1, .at 1, .at 1, .at 1, .at 1, .at 1, .at 1, .at 1], none, none, none, none⟩, ⟨[.at 2, .at 2, .at 2, .at 2, .at 2, .at 2, .at 2, .at 2, .at 2, .at 2], none, none, none, none⟩] [2] [0, 1, 2] (fun _ _ => by kernel_rfl) ⟨rfl, rfl, rfl, rfl, rfl, rfl, rfl, rfl, rfl, rfl, rfl, rfl, rfl, rfl, rfl, rfl, rfl, rfl, rfl, rfl, trivial⟩ ?_
 refine TriL.nil (by kernel_rfl) (TriQ.next (Tri.ret ?_))
 exact TriQ.retB (v := .agg #[.int .i64 (n.id), .int .i64 (n.kind), .int .i64 (n.mode), .int .i64 (n.uid), .int .i64 (n.gid), .int .i64 (n.sec), .int .i64 (n.nano), .slice B6 (n.data.length) (c7), .string n.target, .slice A9 (n.ents.length) (c10)]) (l := []) (obl := [b5 = b5, b5 = b5, b5 = b5, b5 = b5, b5 = b5, b5 = b5, b5 = b5, b5 = b5, b5 = b5, b5 = b5]) [.at 2, .at 2, .at 2, .at 2, .at 2, .at 2, .at 2, .at 2, .at 2, .at 2] [0] hle0 (fun _ => by kernel_rfl) ⟨rfl, rfl, rfl, rfl, rfl, rfl, rfl, rfl, rfl, rfl, trivial⟩ rfl (by kernel_rfl) (⟨B6, c7, A9, c10, rfl, rfl, hD1, hE1⟩)
set_option maxRecDepth 100000 in
set_option maxHeartbeats 4000000 in
theorem sp_copyGraph {β : Bs} (A : Option Addr) (c : Nat) (ns : List NodeM) (L : Lay) (hG : GraphAt β A ns L) (hl : ns.length ≤ 1048576) (hd : ∀ i, i < ns.length → (nd ns i).data.length ≤ 1048576 ∧ (nd ns i).ents.length ≤ 1048576) :
    SpecB Try.prog β 15 #[.agg #[.slice A ns.length c]] [] (fun β' v l => ∃ B cap L', v = .agg #[.slice B ns.length cap] ∧ l = [] ∧ GraphAt β' B ns L') := by
 refine SpecB.enter Try.func15 rfl Try.ntmps15 (Nat.le_of_ble_eq_true rfl) (fun hle0 R => ?_)
 refine Tri.seq (Tri.region ?_)
 refine TriL.segN (k' := 1) (fr' := fun b11 => [(1, .pointer (some ⟨b11, 0, none⟩))]) (hps' := fun b11 => [.abs R, .blk b11 [.slice A (ns.length) (c)] 24]) (obl := fun b11 => []) [o_] [1] [0, 1] (fun _ _ => by kernel_rfl) (fun b11 => trivial) (fun b11 => ?_)
 refine TriL.segN (k' := 2) (fr' := fun b12 => [(1, .pointer (some ⟨b11, 0, none⟩)), (2, .pointer (some ⟨b12, 0, none⟩))]) (hps' := fun b12 => [.abs R, .blk b11 [.slice A (ns.length) (c)] 24, .blk b12 [.slice none (0) (0)] 24]) (obl := fun b12 => []) [o_] [1, 2] [0, 1, 2] (fun _ _ => by kernel_rfl) (fun b12 => trivial) (fun b12 => ?_)
 refine TriL.nil (by kernel_rfl) (TriQ.next (Tri.seq (Tri.region ?_)))
 refine TriL.segN (k' := 2) (fr' := fun b13 => [(1, .pointer (some ⟨b11, 0, none⟩)), (2, .pointer (some ⟨b12, 0, none⟩)), (3, .slice (some ⟨b13, 0, none⟩) (0) (0))]) (hps' := fun b13 => [.abs R, .blk b11 [.slice A (ns.length) (c)] 24, .blk b12 [.slice none (0) (0)] 24, .blk b13 [] 32]) (obl := fun b13 => []) [o_, o_] [1, 2, 3] [0, 1, 2, 3] (fun _ _ => by kernel_rfl) (fun b13 => trivial) (fun b13 => ?_)
 refine TriL.nil (by kernel_rfl) (TriQ.next (Tri.seq (Tri.seq (Tri.region ?_))))
 refine TriL.mem (fun w hS => hS.toRow (i := 3) (b := b13) (cs := []) (e := 32) 10 0 (by kernel_rfl) rfl (by decide)) ?_
 refine TriL.segK (k' := 1) (fr' := [(1, .pointer (some ⟨b11, 0, none⟩)), (2, .pointer (some ⟨b12, 0, none⟩)), (3, .slice (some ⟨b13, 0, none⟩) (0) (0)), (4, .int .i64 0)]) (obl := []) [o_] [1, 2, 3, 4] (fun _ _ => by kernel_rfl) trivial ?_
 refine TriL.nil (by kernel_rfl) (TriQ.next (Tri.block ?_))
 refine Tri.loopB (ι := Nat × Bs × (Option Addr) × Nat × Lay) (fun ((k, b, Ao, cp, L') : Nat × Bs × (Option Addr) × Nat × Lay) => b) (fun ((k, b, Ao, cp, L') : Nat × Bs × (Option Addr) × Nat × Lay) => (k ≤ ns.length) ∧ (β.le b) ∧ (GraphAt b A ns L) ∧ (GraphIn b ns k L')) (fun ((k, b, Ao, cp, L') : Nat × Bs × (Option Addr) × Nat × Lay) => ns.length - k) (fun ((k, b, Ao, cp, L') : Nat × Bs × (Option Addr) × Nat × Lay) => [(1, .pointer (some ⟨b11, 0, none⟩)), (2, .pointer (some ⟨b12, 0, none⟩)), (3, .slice Ao (k) (cp)), (4, .int .i64 ↑k)]) (fun ((k, b, Ao, cp, L') : Nat × Bs × (Option Addr) × Nat × Lay) => [.blk b11 [.slice A (ns.length) (c)] 24, .blk b12 [.slice none (0) (0)] 24, .abs (RowA 32 10 Ao k cp (nodesV L' (ns.take k))), .abs R]) (0, β, some ⟨b13, 0, none⟩, 0, ⟨fun _ => none, fun _ => none, fun _ => 0, fun _ => 0⟩) rfl (idx := [1, 2, 3, 4]) (pk := [1, 2, 3, 0]) (show (0 ≤ ns.length) ∧ (β.le β) ∧ (GraphAt β A ns L) ∧ (GraphIn β ns 0 (⟨fun _ => none, fun _ => none, fun _ => 0, fun _ => 0⟩)) from ⟨Nat.zero_le _, hle0, hG, ⟨fun i hi => absurd hi (Nat.not_lt_zero _), fun i hi => absurd hi (Nat.not_lt_zero _)⟩⟩) (fun _ => by kernel_rfl) rfl (by kernel_rfl) ?_
 rintro ⟨k, b, Ao, cp, L'⟩ ⟨hk, hle0, hG, hI⟩
 show Tri _ b _ _ [(1, .pointer (some ⟨b11, 0, none⟩)), (2, .pointer (some ⟨b12, 0, none⟩)), (3, .slice Ao (k) (cp)), (4, .int .i64 ↑k)] [.blk b11 [.slice A (ns.length) (c)] 24, .blk b12 [.slice none (0) (0)] 24, .abs (RowA 32 10 Ao k cp (nodesV L' (ns.take k))), .abs R] _
 refine Tri.seq (Tri.seq (Tri.region ?_))
 refine TriL.segK (k' := 5) (fr' := [(1, .pointer (some ⟨b11, 0, none⟩)), (2, .pointer (some ⟨b12, 0, none⟩)), (3, .slice Ao (k) (cp)), (4, .int .i64 ↑k), (10, .bool (decide ((((k : Nat) : Int) : Int) < (((ns.length : Nat) : Int) : Int))))]) (obl := [b11 = b11]) [o_, o_, ⟨[.at 0], none, none, none, none⟩, o_, o_] [1, 2, 3, 4, 10] (fun _ _ => by kernel_rfl) ⟨rfl, trivial⟩ ?_
 refine TriL.nil (by kernel_rfl) (TriQ.next ?_)
 refine Tri.condP (p := (((k : Nat) : Int) : Int) < (((ns.length : Nat) : Int) : Int)) (fun _ => by kernel_rfl) (fun h10 => ?_) (fun h10 => ?_)
 ·
  refine Tri.skip (TriQ.next (Tri.seq (Tri.block (Tri.region ?_))))
  refine TriL.segK (k' := 6) (fr' := [(1, .pointer (some ⟨b11, 0, none⟩)), (2, .pointer (some ⟨b12, 0, none⟩)), (4, .int .i64 ↑k), (13, .slice Ao (k) (cp)), (18, .agg #[.int .i64 ((nd ns k).id), .int .i64 ((nd ns k).kind), .int .i64 ((nd ns k).mode), .int .i64 ((nd ns k).uid), .int .i64 ((nd ns k).gid), .int .i64 ((nd ns k).sec), .int .i64 ((nd ns k).nano), .slice (L.dA k) ((nd ns k).data.length) ((L.dC k)), .string (nd ns k).target, .slice (L.eA k) ((nd ns k).ents.length) ((L.eC k))])]) (obl := [(Rd b ⟨(blkOf A), offOf A + k * 10 + 9, none⟩ (.slice (L.eA k) ((nd ns k).ents.length) ((L.eC k)))), (Rd b ⟨(blkOf A), offOf A + k * 10 + 8, none⟩ (.string (nd ns k).target)), (Rd b ⟨(blkOf A), offOf A + k * 10 + 7, none⟩ (.slice (L.dA k) ((nd ns k).data.length) ((L.dC k)))), (Rd b ⟨(blkOf A), offOf A + k * 10 + 6, none⟩ (.int .i64 ((nd ns k).nano))), (Rd b ⟨(blkOf A), offOf A + k * 10 + 5, none⟩ (.int .i64 ((nd ns k).sec))), (Rd b ⟨(blkOf A), offOf A + k * 10 + 4, none⟩ (.int .i64 ((nd ns k).gid))), (Rd b ⟨(blkOf A), offOf A + k * 10 + 3, none⟩ (.int .i64 ((nd ns k).uid))), (Rd b ⟨(blkOf A), offOf A + k * 10 + 2, none⟩ (.int .i64 ((nd ns k).mode))), (Rd b ⟨(blkOf A), offOf A + k * 10 + 1, none⟩ (.int .i64 ((nd ns k).kind))), (Rd b ⟨(blkOf A), offOf A + k * 10, none⟩ (.int .i64 ((nd ns k).id))), ((k : Nat) : Int) = ((k : Nat) : Int), k < ns.length, (⟨(blkOf A), offOf A, none⟩ : Addr).spot = none, (A : Option Addr) = some ⟨(blkOf A), offOf A, none⟩, b11 = b11]) [o_, o_, ⟨[.at 0], none, none, none, none⟩, o_, ⟨[], some k, none, some ⟨(blkOf A), offOf A, none⟩, none⟩, ⟨[.old (.int .i64 ((nd ns k).id)), .old (.int .i64 ((nd ns k).kind)), .old (.int .i64 ((nd ns k).mode)), .old (.int .i64 ((nd ns k).uid)), .old (.int .i64 ((nd ns k).gid)), .old (.int .i64 ((nd ns k).sec)), .old (.int .i64 ((nd ns k).nano)), .old (.slice (L.dA k) ((nd ns k).data.length) ((L.dC k))), .old (.string (nd ns k).target), .old (.slice (L.eA k) ((nd ns k).ents.length) ((L.eC k)))], none, none, none, none⟩] [1, 2, 4, 13, 18] (fun _ _ => by kernel_rfl) ⟨GraphAt.rd hG (i := k) (by omega) (j := 9) rfl, GraphAt.rd hG (i := k) (by omega) (j := 8) rfl, GraphAt.rd hG (i := k) (by omega) (j := 7) rfl, GraphAt.rd hG (i := k) (by omega) (j := 6) rfl, GraphAt.rd hG (i := k) (by omega) (j := 5) rfl, GraphAt.rd hG (i := k) (by omega) (j := 4) rfl, GraphAt.rd hG (i := k) (by omega) (j := 3) rfl, GraphAt.rd hG (i := k) (by omega) (j := 2) rfl, GraphAt.rd hG (i := k) (by omega) (j := 1) rfl, GraphAt.rd hG (i := k) (by omega) (j := 0) rfl, rfl, by omega, rfl, GraphAt.hd hG (i := k) (by omega), rfl, trivial⟩ ?_
  refine TriL.callB (f := 38) (args := #[.agg #[.int .i64 ((nd ns k).id), .int .i64 ((nd ns k).kind), .int .i64 ((nd ns k).mode), .int .i64 ((nd ns k).uid), .int .i64 ((nd ns k).gid), .int .i64 ((nd ns k).sec), .int .i64 ((nd ns k).nano), .slice (L.dA k) ((nd ns k).data.length) ((L.dC k)), .string (nd ns k).target, .slice (L.eA k) ((nd ns k).ents.length) ((L.eC k))]]) (d := (some 19)) (pre := []) (R := [.blk b11 [.slice A (ns.length) (c)] 24, .blk b12 [.slice none (0) (0)] 24, .abs (RowA 32 10 Ao k cp (nodesV L' (ns.take k))), .abs R]) (pk := [0, 1, 2, 3]) (fun _ => by kernel_rfl) (sp_copyNode (nd ns k) (L.dA k) (L.eA k) (L.dC k) (L.eC k) (hG.data k (by omega)) (hG.ents k (by omega)) (hd k (by omega)).1 (hd k (by omega)).2) rfl (by kernel_rfl) ?_
  rintro β18 _ _ hle_β18 ⟨dB14, cd15, eB16, ce17, rfl, rfl, hdB, heB⟩
  replace hG := hG.le hle_β18
  replace hI := hI.le hle_β18
  replace hle0 := hle0.trans hle_β18
  refine TriL.segN (k' := 8) (fr' := fun b19 => [(1, .pointer (some ⟨b11, 0, none⟩)), (2, .pointer (some ⟨b12, 0, none⟩)), (4, .int .i64 ↑k), (13, .slice Ao (k) (cp)), (20, .slice (some ⟨b19, 0, none⟩) (1) (1))]) (hps' := fun b19 => [.blk b11 [.slice A (ns.length) (c)] 24, .blk b12 [.slice none (0) (0)] 24, .abs (RowA 32 10 Ao k cp (nodesV L' (ns.take k))), .abs R, .blk b19 [.int .i64 ((nd ns k).id), .int .i64 ((nd ns k).kind), .int .i64 ((nd ns k).mode), .int .i64 ((nd ns k).uid), .int .i64 ((nd ns k).gid), .int .i64 ((nd ns k).sec), .int .i64 ((nd ns k).nano), .slice dB14 ((nd ns k).data.length) (cd15), .string (nd ns k).target, .slice eB16 ((nd ns k).ents.length) (ce17)] 32]) (obl := fun b19 => []) [o_] [1, 2, 4, 13, 20] [0, 1, 2, 3, 4] (fun _ _ => by kernel_rfl) (fun b19 => trivial) (fun b19 => ?_)
  refine TriL.append 2 (d := (some 21)) (t := 22) (e := 32) (z := .agg #[.int .i64 0, .int .i64 0, .int .i64 0, .int .i64 0, .int .i64 0, .int .i64 0, .int .i64 0, .slice none (0) (0), .string ⟨#[]⟩, .slice none (0) (0)]) (size := 10) (bytes := 120) (n := k) (cap := cp) (A := Ao) (xs := (nodesV L' (ns.take k))) (s := (.tmp 13)) (x := (.tmp 20)) (ats := #[22, 22]) (A' := some ⟨b19, 0, none⟩) (m := 1) (c' := 1) (news := [.int .i64 ((nd ns k).id), .int .i64 ((nd ns k).kind), .int .i64 ((nd ns k).mode), .int .i64 ((nd ns k).uid), .int .i64 ((nd ns k).gid), .int .i64 ((nd ns k).sec), .int .i64 ((nd ns k).nano), .slice dB14 ((nd ns k).data.length) (cd15), .string (nd ns k).target, .slice eB16 ((nd ns k).ents.length) (ce17)]) (fun _ => by kernel_rfl) rfl (by kernel_rfl) (fun _ => by kernel_rfl) (fun _ => by kernel_rfl) Try.underlying22 (by kernel_rfl) rfl (by decide) (rfl) (by simp [Value.oneCell']) (src_blk (j := 4) rfl) (by unfold maxLen; omega) (by omega) (fun A20 c21 => ?_)
  refine TriL.partEq 2 (p := .abs (RowA 32 10 A20 (k + 1) c21 ((nodesV L' (ns.take k)) ++ [.int .i64 ((nd ns k).id), .int .i64 ((nd ns k).kind), .int .i64 ((nd ns k).mode), .int .i64 ((nd ns k).uid), .int .i64 ((nd ns k).gid), .int .i64 ((nd ns k).sec), .int .i64 ((nd ns k).nano), .slice dB14 ((nd ns k).data.length) (cd15), .string (nd ns k).target, .slice eB16 ((nd ns k).ents.length) (ce17)]))) (p' := .abs (RowA 32 10 A20 (k + 1) c21 (nodesV (L'.put k dB14 cd15 eB16 ce17) (ns.take (k + 1))))) (by kernel_rfl) (by rw [nodesV_put (by omega)]) ?_
  refine TriL.segK (k' := 10) (fr' := [(1, .pointer (some ⟨b11, 0, none⟩)), (2, .pointer (some ⟨b12, 0, none⟩)), (3, .slice A20 (k + 1) (c21)), (4, .int .i64 ↑k)]) (obl := []) [o_] [1, 2, 3, 4] (fun _ _ => by kernel_rfl) trivial ?_
  refine TriL.nil (by kernel_rfl) (TriQ.blockNormal (TriQ.next (Tri.region ?_)))
  refine TriL.segK (k' := 3) (fr' := [(1, .pointer (some ⟨b11, 0, none⟩)), (2, .pointer (some ⟨b12, 0, none⟩)), (3, .slice A20 (k + 1) (c21)), (4, .int .i64 ↑(k + 1))]) (obl := [(Value.int .i64 (IntKind.wrap .i64 (((k : Nat) : Int) + 1))) = (.int .i64 ↑(k + 1))]) [o_, ⟨[], none, none, none, some (.int .i64 ↑(k + 1))⟩, o_] [1, 2, 3, 4] (fun _ _ => by kernel_rfl) ⟨wrapEq (by omega) (by omega) (by omega), trivial⟩ ?_
  refine TriL.nil (by kernel_rfl) ?_
  exact TriQ.turnB ((k + 1), β18, A20, c21, (L'.put k dB14 cd15 eB16 ce17)) (hb := rfl) (idx := [1, 2, 3, 4]) (pk := [0, 1, 2, 3]) (show (((k + 1)) ≤ ns.length) ∧ (β.le β18) ∧ (GraphAt β18 A ns L) ∧ (GraphIn β18 ns ((k + 1)) ((L'.put k dB14 cd15 eB16 ce17))) from ⟨by omega, hle0, hG, hI.put hdB heB⟩) (by show ns.length - ((k + 1)) < ns.length - k; omega) (fun _ => by kernel_rfl) rfl (by kernel_rfl)
 ·
  refine Tri.exit (TriQ.passExit (TriQ.passExit (TriQ.blockHit (TriQ.next (Tri.seq (Tri.region ?_))))))
  refine TriL.rebase (Φ := fun β' => RowB β' Ao (nodesV L' (ns.take k))) 2 [0, 1, 3] (hps' := [.blk b11 [.slice A (ns.length) (c)] 24, .blk b12 [.slice none (0) (0)] 24, .abs R]) rfl rfl (by kernel_rfl) (fun F w h β' h1 h2 => RowB.of_row h h1 h2) (fun βz hle_βz hR => ?_)
  replace hG := hG.le hle_βz
  replace hI := hI.le hle_βz
  replace hle0 := hle0.trans hle_βz
  refine TriL.slot 3 (.slice Ao (k) (cp)) (.slice Ao (ns.length) (cp)) (fun _ => by kernel_rfl) (by rw [show k = ns.length by omega]) ?_
  refine TriL.seg (k' := 3) (fr' := [(2, .pointer (some ⟨b12, 0, none⟩))]) (hps' := [.blk b11 [.slice A (ns.length) (c)] 24, .blk b12 [.slice Ao (ns.length) (cp)] 24, .abs R]) (obl := [b12 = b12]) [o_, o_, ⟨[.at 1], none, none, none, none⟩] [2] [0, 1, 2] (fun _ _ => by kernel_rfl) ⟨rfl, trivial⟩ ?_
  refine TriL.nil (by kernel_rfl) (TriQ.next (Tri.ret ?_))
  exact TriQ.retB (v := .agg #[.slice Ao (ns.length) (cp)]) (l := []) (obl := [b12 = b12]) [.at 1] [2] hle0 (fun _ => by kernel_rfl) ⟨rfl, trivial⟩ rfl (by kernel_rfl) (⟨Ao, cp, L', rfl, rfl, GraphAt.mk' hR hI (by omega)⟩)
set_option maxRecDepth 100000 in
set_option maxHeartbeats 4000000 in
theorem sp_copyGraphOwn {β : Bs} (A : Option Addr) (c : Nat) (ns : List NodeM) (L : Lay) (hG : GraphAt β A ns L) (hl : ns.length ≤ 1048576) (hd : ∀ i, i < ns.length → (nd ns i).data.length ≤ 1048576 ∧ (nd ns i).ents.length ≤ 1048576) :
    SpecB Try.prog β 15 #[.agg #[.slice A ns.length c]] [] (fun β' v l => ∃ B cap L', v = .agg #[.slice B ns.length cap] ∧ l = [.abs (RowA 32 10 B ns.length cap (nodesV L' ns))] ∧ GraphIn β' ns ns.length L') := by
 refine SpecB.enter Try.func15 rfl Try.ntmps15 (Nat.le_of_ble_eq_true rfl) (fun hle0 R => ?_)
 refine Tri.seq (Tri.region ?_)
 refine TriL.segN (k' := 1) (fr' := fun b22 => [(1, .pointer (some ⟨b22, 0, none⟩))]) (hps' := fun b22 => [.abs R, .blk b22 [.slice A (ns.length) (c)] 24]) (obl := fun b22 => []) [o_] [1] [0, 1] (fun _ _ => by kernel_rfl) (fun b22 => trivial) (fun b22 => ?_)
 refine TriL.segN (k' := 2) (fr' := fun b23 => [(1, .pointer (some ⟨b22, 0, none⟩)), (2, .pointer (some ⟨b23, 0, none⟩))]) (hps' := fun b23 => [.abs R, .blk b22 [.slice A (ns.length) (c)] 24, .blk b23 [.slice none (0) (0)] 24]) (obl := fun b23 => []) [o_] [1, 2] [0, 1, 2] (fun _ _ => by kernel_rfl) (fun b23 => trivial) (fun b23 => ?_)
 refine TriL.nil (by kernel_rfl) (TriQ.next (Tri.seq (Tri.region ?_)))
 refine TriL.segN (k' := 2) (fr' := fun b24 => [(1, .pointer (some ⟨b22, 0, none⟩)), (2, .pointer (some ⟨b23, 0, none⟩)), (3, .slice (some ⟨b24, 0, none⟩) (0) (0))]) (hps' := fun b24 => [.abs R, .blk b22 [.slice A (ns.length) (c)] 24, .blk b23 [.slice none (0) (0)] 24, .blk b24 [] 32]) (obl := fun b24 => []) [o_, o_] [1, 2, 3] [0, 1, 2, 3] (fun _ _ => by kernel_rfl) (fun b24 => trivial) (fun b24 => ?_)
 refine TriL.nil (by kernel_rfl) (TriQ.next (Tri.seq (Tri.seq (Tri.region ?_))))
 refine TriL.mem (fun w hS => hS.toRow (i := 3) (b := b24) (cs := []) (e := 32) 10 0 (by kernel_rfl) rfl (by decide)) ?_
 refine TriL.segK (k' := 1) (fr' := [(1, .pointer (some ⟨b22, 0, none⟩)), (2, .pointer (some ⟨b23, 0, none⟩)), (3, .slice (some ⟨b24, 0, none⟩) (0) (0)), (4, .int .i64 0)]) (obl := []) [o_] [1, 2, 3, 4] (fun _ _ => by kernel_rfl) trivial ?_
 refine TriL.nil (by kernel_rfl) (TriQ.next (Tri.block ?_))
 refine Tri.loopB (ι := Nat × Bs × (Option Addr) × Nat × Lay) (fun ((k, b, Ao, cp, L') : Nat × Bs × (Option Addr) × Nat × Lay) => b) (fun ((k, b, Ao, cp, L') : Nat × Bs × (Option Addr) × Nat × Lay) => (k ≤ ns.length) ∧ (β.le b) ∧ (GraphAt b A ns L) ∧ (GraphIn b ns k L')) (fun ((k, b, Ao, cp, L') : Nat × Bs × (Option Addr) × Nat × Lay) => ns.length - k) (fun ((k, b, Ao, cp, L') : Nat × Bs × (Option Addr) × Nat × Lay) => [(1, .pointer (some ⟨b22, 0, none⟩)), (2, .pointer (some ⟨b23, 0, none⟩)), (3, .slice Ao (k) (cp)), (4, .int .i64 ↑k)]) (fun ((k, b, Ao, cp, L') : Nat × Bs × (Option Addr) × Nat × Lay) => [.blk b22 [.slice A (ns.length) (c)] 24, .blk b23 [.slice none (0) (0)] 24, .abs (RowA 32 10 Ao k cp (nodesV L' (ns.take k))), .abs R]) (0, β, some ⟨b24, 0, none⟩, 0, ⟨fun _ => none, fun _ => none, fun _ => 0, fun _ => 0⟩) rfl (idx := [1, 2, 3, 4]) (pk := [1, 2, 3, 0]) (show (0 ≤ ns.length) ∧ (β.le β) ∧ (GraphAt β A ns L) ∧ (GraphIn β ns 0 (⟨fun _ => none, fun _ => none, fun _ => 0, fun _ => 0⟩)) from ⟨Nat.zero_le _, hle0, hG, ⟨fun i hi => absurd hi (Nat.not_lt_zero _), fun i hi => absurd hi (Nat.not_lt_zero _)⟩⟩) (fun _ => by kernel_rfl) rfl (by kernel_rfl) ?_
 rintro ⟨k, b, Ao, cp, L'⟩ ⟨hk, hle0, hG, hI⟩
 show Tri _ b _ _ [(1, .pointer (some ⟨b22, 0, none⟩)), (2, .pointer (some ⟨b23, 0, none⟩)), (3, .slice Ao (k) (cp)), (4, .int .i64 ↑k)] [.blk b22 [.slice A (ns.length) (c)] 24, .blk b23 [.slice none (0) (0)] 24, .abs (RowA 32 10 Ao k cp (nodesV L' (ns.take k))), .abs R] _
 refine Tri.seq (Tri.seq (Tri.region ?_))
 refine TriL.segK (k' := 5) (fr' := [(1, .pointer (some ⟨b22, 0, none⟩)), (2, .pointer (some ⟨b23, 0, none⟩)), (3, .slice Ao (k) (cp)), (4, .int .i64 ↑k), (10, .bool (decide ((((k : Nat) : Int) : Int) < (((ns.length : Nat) : Int) : Int))))]) (obl := [b22 = b22]) [o_, o_, ⟨[.at 0], none, none, none, none⟩, o_, o_] [1, 2, 3, 4, 10] (fun _ _ => by kernel_rfl) ⟨rfl, trivial⟩ ?_
 refine TriL.nil (by kernel_rfl) (TriQ.next ?_)
 refine Tri.condP (p := (((k : Nat) : Int) : Int) < (((ns.length : Nat) : Int) : Int)) (fun _ => by kernel_rfl) (fun h10 => ?_) (fun h10 => ?_)
 ·
  refine Tri.skip (TriQ.next (Tri.seq (Tri.block (Tri.region ?_))))
  refine TriL.segK (k' := 6) (fr' := [(1, .pointer (some ⟨b22, 0, none⟩)), (2, .pointer (some ⟨b23, 0, none⟩)), (4, .int .i64 ↑k), (13, .slice Ao (k) (cp)), (18, .agg #[.int .i64 ((nd ns k).id), .int .i64 ((nd ns k).kind), .int .i64 ((nd ns k).mode), .int .i64 ((nd ns k).uid), .int .i64 ((nd ns k).gid), .int .i64 ((nd ns k).sec), .int .i64 ((nd ns k).nano), .slice (L.dA k) ((nd ns k).data.length) ((L.dC k)), .string (nd ns k).target, .slice (L.eA k) ((nd ns k).ents.length) ((L.eC k))])]) (obl := [(Rd b ⟨(blkOf A), offOf A + k * 10 + 9, none⟩ (.slice (L.eA k) ((nd ns k).ents.length) ((L.eC k)))), (Rd b ⟨(blkOf A), offOf A + k * 10 + 8, none⟩ (.string (nd ns k).target)), (Rd b ⟨(blkOf A), offOf A + k * 10 + 7, none⟩ (.slice (L.dA k) ((nd ns k).data.length) ((L.dC k)))), (Rd b ⟨(blkOf A), offOf A + k * 10 + 6, none⟩ (.int .i64 ((nd ns k).nano))), (Rd b ⟨(blkOf A), offOf A + k * 10 + 5, none⟩ (.int .i64 ((nd ns k).sec))), (Rd b ⟨(blkOf A), offOf A + k * 10 + 4, none⟩ (.int .i64 ((nd ns k).gid))), (Rd b ⟨(blkOf A), offOf A + k * 10 + 3, none⟩ (.int .i64 ((nd ns k).uid))), (Rd b ⟨(blkOf A), offOf A + k * 10 + 2, none⟩ (.int .i64 ((nd ns k).mode))), (Rd b ⟨(blkOf A), offOf A + k * 10 + 1, none⟩ (.int .i64 ((nd ns k).kind))), (Rd b ⟨(blkOf A), offOf A + k * 10, none⟩ (.int .i64 ((nd ns k).id))), ((k : Nat) : Int) = ((k : Nat) : Int), k < ns.length, (⟨(blkOf A), offOf A, none⟩ : Addr).spot = none, (A : Option Addr) = some ⟨(blkOf A), offOf A, none⟩, b22 = b22]) [o_, o_, ⟨[.at 0], none, none, none, none⟩, o_, ⟨[], some k, none, some ⟨(blkOf A), offOf A, none⟩, none⟩, ⟨[.old (.int .i64 ((nd ns k).id)), .old (.int .i64 ((nd ns k).kind)), .old (.int .i64 ((nd ns k).mode)), .old (.int .i64 ((nd ns k).uid)), .old (.int .i64 ((nd ns k).gid)), .old (.int .i64 ((nd ns k).sec)), .old (.int .i64 ((nd ns k).nano)), .old (.slice (L.dA k) ((nd ns k).data.length) ((L.dC k))), .old (.string (nd ns k).target), .old (.slice (L.eA k) ((nd ns k).ents.length) ((L.eC k)))], none, none, none, none⟩] [1, 2, 4, 13, 18] (fun _ _ => by kernel_rfl) ⟨GraphAt.rd hG (i := k) (by omega) (j := 9) rfl, GraphAt.rd hG (i := k) (by omega) (j := 8) rfl, GraphAt.rd hG (i := k) (by omega) (j := 7) rfl, GraphAt.rd hG (i := k) (by omega) (j := 6) rfl, GraphAt.rd hG (i := k) (by omega) (j := 5) rfl, GraphAt.rd hG (i := k) (by omega) (j := 4) rfl, GraphAt.rd hG (i := k) (by omega) (j := 3) rfl, GraphAt.rd hG (i := k) (by omega) (j := 2) rfl, GraphAt.rd hG (i := k) (by omega) (j := 1) rfl, GraphAt.rd hG (i := k) (by omega) (j := 0) rfl, rfl, by omega, rfl, GraphAt.hd hG (i := k) (by omega), rfl, trivial⟩ ?_
  refine TriL.callB (f := 38) (args := #[.agg #[.int .i64 ((nd ns k).id), .int .i64 ((nd ns k).kind), .int .i64 ((nd ns k).mode), .int .i64 ((nd ns k).uid), .int .i64 ((nd ns k).gid), .int .i64 ((nd ns k).sec), .int .i64 ((nd ns k).nano), .slice (L.dA k) ((nd ns k).data.length) ((L.dC k)), .string (nd ns k).target, .slice (L.eA k) ((nd ns k).ents.length) ((L.eC k))]]) (d := (some 19)) (pre := []) (R := [.blk b22 [.slice A (ns.length) (c)] 24, .blk b23 [.slice none (0) (0)] 24, .abs (RowA 32 10 Ao k cp (nodesV L' (ns.take k))), .abs R]) (pk := [0, 1, 2, 3]) (fun _ => by kernel_rfl) (sp_copyNode (nd ns k) (L.dA k) (L.eA k) (L.dC k) (L.eC k) (hG.data k (by omega)) (hG.ents k (by omega)) (hd k (by omega)).1 (hd k (by omega)).2) rfl (by kernel_rfl) ?_
  rintro β29 _ _ hle_β29 ⟨dB25, cd26, eB27, ce28, rfl, rfl, hdB, heB⟩
  replace hG := hG.le hle_β29
  replace hI := hI.le hle_β29
  replace hle0 := hle0.trans hle_β29
  refine TriL.segN (k' := 8) (fr' := fun b30 => [(1, .pointer (some ⟨b22, 0, none⟩)), (2, .pointer (some ⟨b23, 0, none⟩)), (4, .int .i64 ↑k), (13, .slice Ao (k) (cp)), (20, .slice (some ⟨b30, 0, none⟩) (1) (1))]) (hps' := fun b30 => [.blk b22 [.slice A (ns.length) (c)] 24, .blk b23 [.slice none (0) (0)] 24, .abs (RowA 32 10 Ao k cp (nodesV L' (ns.take k))), .abs R, .blk b30 [.int .i64 ((nd ns k).id), .int .i64 ((nd ns k).kind), .int .i64 ((nd ns k).mode), .int .i64 ((nd ns k).uid), .int .i64 ((nd ns k).gid), .int .i64 ((nd ns k).sec), .int .i64 ((nd ns k).nano), .slice dB25 ((nd ns k).data.length) (cd26), .string (nd ns k).target, .slice eB27 ((nd ns k).ents.length) (ce28)] 32]) (obl := fun b30 => []) [o_] [1, 2, 4, 13, 20] [0, 1, 2, 3, 4] (fun _ _ => by kernel_rfl) (fun b30 => trivial) (fun b30 => ?_)
  refine TriL.append 2 (d := (some 21)) (t := 22) (e := 32) (z := .agg #[.int .i64 0, .int .i64 0, .int .i64 0, .int .i64 0, .int .i64 0, .int .i64 0, .int .i64 0, .slice none (0) (0), .string ⟨#[]⟩, .slice none (0) (0)]) (size := 10) (bytes := 120) (n := k) (cap := cp) (A := Ao) (xs := (nodesV L' (ns.take k))) (s := (.tmp 13)) (x := (.tmp 20)) (ats := #[22, 22]) (A' := some ⟨b30, 0, none⟩) (m := 1) (c' := 1) (news := [.int .i64 ((nd ns k).id), .int .i64 ((nd ns k).kind), .int .i64 ((nd ns k).mode), .int .i64 ((nd ns k).uid), .int .i64 ((nd ns k).gid), .int .i64 ((nd ns k).sec), .int .i64 ((nd ns k).nano), .slice dB25 ((nd ns k).data.length) (cd26), .string (nd ns k).target, .slice eB27 ((nd ns k).ents.length) (ce28)]) (fun _ => by kernel_rfl) rfl (by kernel_rfl) (fun _ => by kernel_rfl) (fun _ => by kernel_rfl) Try.underlying22 (by kernel_rfl) rfl (by decide) (rfl) (by simp [Value.oneCell']) (src_blk (j := 4) rfl) (by unfold maxLen; omega) (by omega) (fun A31 c32 => ?_)
  refine TriL.partEq 2 (p := .abs (RowA 32 10 A31 (k + 1) c32 ((nodesV L' (ns.take k)) ++ [.int .i64 ((nd ns k).id), .int .i64 ((nd ns k).kind), .int .i64 ((nd ns k).mode), .int .i64 ((nd ns k).uid), .int .i64 ((nd ns k).gid), .int .i64 ((nd ns k).sec), .int .i64 ((nd ns k).nano), .slice dB25 ((nd ns k).data.length) (cd26), .string (nd ns k).target, .slice eB27 ((nd ns k).ents.length) (ce28)]))) (p' := .abs (RowA 32 10 A31 (k + 1) c32 (nodesV (L'.put k dB25 cd26 eB27 ce28) (ns.take (k + 1))))) (by kernel_rfl) (by rw [nodesV_put (by omega)]) ?_
  refine TriL.segK (k' := 10) (fr' := [(1, .pointer (some ⟨b22, 0, none⟩)), (2, .pointer (some ⟨b23, 0, none⟩)), (3, .slice A31 (k + 1) (c32)), (4, .int .i64 ↑k)]) (obl := []) [o_] [1, 2, 3, 4] (fun _ _ => by kernel_rfl) trivial ?_
  refine TriL.nil (by kernel_rfl) (TriQ.blockNormal (TriQ.next (Tri.region ?_)))
  refine TriL.segK (k' := 3) (fr' := [(1, .pointer (some ⟨b22, 0, none⟩)), (2, .pointer (some ⟨b23, 0, none⟩)), (3, .slice A31 (k + 1) (c32)), (4, .int .i64 ↑(k + 1))]) (obl := [(Value.int .i64 (IntKind.wrap .i64 (((k : Nat) : Int) + 1))) = (.int .i64 ↑(k + 1))]) [o_, ⟨[], none, none, none, some (.int .i64 ↑(k + 1))⟩, o_] [1, 2, 3, 4] (fun _ _ => by kernel_rfl) ⟨wrapEq (by omega) (by omega) (by omega), trivial⟩ ?_
  refine TriL.nil (by kernel_rfl) ?_
  exact TriQ.turnB ((k + 1), β29, A31, c32, (L'.put k dB25 cd26 eB27 ce28)) (hb := rfl) (idx := [1, 2, 3, 4]) (pk := [0, 1, 2, 3]) (show (((k + 1)) ≤ ns.length) ∧ (β.le β29) ∧ (GraphAt β29 A ns L) ∧ (GraphIn β29 ns ((k + 1)) ((L'.put k dB25 cd26 eB27 ce28))) from ⟨by omega, hle0, hG, hI.put hdB heB⟩) (by show ns.length - ((k + 1)) < ns.length - k; omega) (fun _ => by kernel_rfl) rfl (by kernel_rfl)
 ·
  refine Tri.exit (TriQ.passExit (TriQ.passExit (TriQ.blockHit (TriQ.next (Tri.seq (Tri.region ?_))))))
  refine TriL.partEq 2 (p := .abs (RowA 32 10 Ao k cp (nodesV L' (ns.take k)))) (p' := .abs (RowA 32 10 Ao ns.length cp (nodesV L' ns))) (by kernel_rfl) (by rw [show k = ns.length by omega, List.take_of_length_le (Nat.le_refl _)]) ?_
  refine TriL.slot 3 (.slice Ao (k) (cp)) (.slice Ao (ns.length) (cp)) (fun _ => by kernel_rfl) (by rw [show k = ns.length by omega]) ?_
  refine TriL.seg (k' := 3) (fr' := [(2, .pointer (some ⟨b23, 0, none⟩))]) (hps' := [.blk b22 [.slice A (ns.length) (c)] 24, .blk b23 [.slice Ao (ns.length) (cp)] 24, .abs (RowA 32 10 Ao ns.length cp (nodesV L' ns)), .abs R]) (obl := [b23 = b23]) [o_, o_, ⟨[.at 1], none, none, none, none⟩] [2] [0, 1, 2, 3] (fun _ _ => by kernel_rfl) ⟨rfl, trivial⟩ ?_
  refine TriL.nil (by kernel_rfl) (TriQ.next (Tri.ret ?_))
  exact TriQ.retB (v := .agg #[.slice Ao (ns.length) (cp)]) (l := [.abs (RowA 32 10 Ao ns.length cp (nodesV L' ns))]) (obl := [b23 = b23]) [.at 1] [2, 3] hle0 (fun _ => by kernel_rfl) ⟨rfl, trivial⟩ rfl (by kernel_rfl) (⟨Ao, cp, L', rfl, rfl, ⟨fun i hi => hI.data i (by omega), fun i hi => hI.ents i (by omega)⟩⟩)
set_option maxRecDepth 100000 in
set_option maxHeartbeats 4000000 in
theorem sp_sameNode {β : Bs} (n m : NodeM) (dA eA dB eB : Option Addr) (dC eC dD eD : Nat) (hD : BytesAt β dA n.data) (hE : EntsAt β eA n.ents) (hD2 : BytesAt β dB m.data) (hE2 : EntsAt β eB m.ents) (hl1 : n.data.length ≤ 1048576) (hl2 : n.ents.length ≤ 1048576) :
    Spec Try.prog β 41 #[.agg #[.int .i64 (n.id), .int .i64 (n.kind), .int .i64 (n.mode), .int .i64 (n.uid), .int .i64 (n.gid), .int .i64 (n.sec), .int .i64 (n.nano), .slice dA (n.data.length) (dC), .string n.target, .slice eA (n.ents.length) (eC)], .agg #[.int .i64 (m.id), .int .i64 (m.kind), .int .i64 (m.mode), .int .i64 (m.uid), .int .i64 (m.gid), .int .i64 (m.sec), .int .i64 (m.nano), .slice dB (m.data.length) (dD), .string m.target, .slice eB (m.ents.length) (eD)]] [] (fun v l => v = .bool (decide (n = m)) ∧ l = []) := by
 refine Spec.enter Try.func41 rfl Try.ntmps41 (Nat.le_of_ble_eq_true rfl) (fun R => ?_)
 refine Tri.seq (Tri.region ?_)
 refine TriL.segN (k' := 1) (fr' := fun b33 => [(1, .agg #[.int .i64 (m.id), .int .i64 (m.kind), .int .i64 (m.mode), .int .i64 (m.uid), .int .i64 (m.gid), .int .i64 (m.sec), .int .i64 (m.nano), .slice dB (m.data.length) (dD), .string m.target, .slice eB (m.ents.length) (eD)]), (2, .pointer (some ⟨b33, 0, none⟩))]) (hps' := fun b33 => [.abs R, .blk b33 [.int .i64 (n.id), .int .i64 (n.kind), .int .i64 (n.mode), .int .i64 (n.uid), .int .i64 (n.gid), .int .i64 (n.sec), .int .i64 (n.nano), .slice dA (n.data.length) (dC), .string n.target, .slice eA (n.ents.length) (eC)] 32]) (obl := fun b33 => []) [o_] [1, 2] [0, 1] (fun _ _ => by kernel_rfl) (fun b33 => trivial) (fun b33 => ?_)
 refine TriL.segN (k' := 3) (fr' := fun b34 => [(2, .pointer (some ⟨b33, 0, none⟩)), (3, .pointer (some ⟨b34, 0, none⟩))]) (hps' := fun b34 => [.abs R, .blk b33 [.int .i64 (n.id), .int .i64 (n.kind), .int .i64 (n.mode), .int .i64 (n.uid), .int .i64 (n.gid), .int .i64 (n.sec), .int .i64 (n.nano), .slice dA (n.data.length) (dC), .string n.target, .slice eA (n.ents.length) (eC)] 32, .blk b34 [.int .i64 (m.id), .int .i64 (m.kind), .int .i64 (m.mode), .int .i64 (m.uid), .int .i64 (m.gid), .int .i64 (m.sec), .int .i64 (m.nano), .slice dB (m.data.length) (dD), .string m.target, .slice eB (m.ents.length) (eD)] 32]) (obl := fun b34 => []) [o_, o_] [2, 3] [0, 1, 2] (fun _ _ => by kernel_rfl) (fun b34 => trivial) (fun b34 => ?_)
 refine TriL.nil (by kernel_rfl) (TriQ.next (Tri.seq (Tri.seq (Tri.region ?_))))
 refine TriL.segK (k' := 6) (fr' := [(2, .pointer (some ⟨b33, 0, none⟩)), (3, .pointer (some ⟨b34, 0, none⟩)), (11, .bool (!(decide ((n.id : Int) = (m.id : Int)))))]) (obl := [b34 = b34, b33 = b33]) [o_, ⟨[.at 1], none, none, none, none⟩, o_, ⟨[.at 2], none, none, none, none⟩, o_, o_] [2, 3, 11] (fun _ _ => by kernel_rfl) ⟨rfl, rfl, trivial⟩ ?_
 refine TriL.slotN 11 ((n.id : Int) = (m.id : Int)) (fun _ => by kernel_rfl) (fun h11 => ?_) (fun h11 => ?_)
 ·
  refine TriL.segK (k' := 64) (fr' := [(2, .pointer (some ⟨b33, 0, none⟩)), (3, .pointer (some ⟨b34, 0, none⟩)), (69, .bool true)]) (obl := []) [o_, o_, o_, o_, o_, o_, o_, o_, o_, o_, o_, o_, o_, o_, o_, o_, o_, o_, o_, o_, o_, o_, o_, o_, o_, o_, o_, o_, o_, o_, o_, o_, o_, o_, o_, o_, o_, o_, o_, o_, o_, o_, o_, o_, o_, o_, o_, o_, o_, o_, o_, o_, o_, o_, o_, o_, o_, o_] [2, 3, 69] (fun _ _ => by kernel_rfl) trivial ?_
  refine TriL.nil (by kernel_rfl) (TriQ.next ?_)
  refine Tri.condT (fun _ => by kernel_rfl) ?_
  refine Tri.seq (Tri.region ?_)
  refine TriL.segK (k' := 1) (fr' := [(4, .bool false)]) (obl := []) [o_] [4] (fun _ _ => by kernel_rfl) trivial ?_
  refine TriL.nil (by kernel_rfl) (TriQ.next (Tri.ret (TriQ.passRet ?_)))
  exact TriQ.ret (v := .bool false) (l := []) (obl := []) [] [0] (fun _ => by kernel_rfl) trivial rfl (by kernel_rfl) (⟨by rw [decide_eq_false (fun e => h11 (by cases e; first | rfl | exact ⟨rfl, rfl⟩))], rfl⟩)
 ·
  refine TriL.segK (k' := 13) (fr' := [(2, .pointer (some ⟨b33, 0, none⟩)), (3, .pointer (some ⟨b34, 0, none⟩)), (18, .bool (!(decide ((n.kind : Int) = (m.kind : Int)))))]) (obl := [b34 = b34, b33 = b33]) [o_, ⟨[.at 1], none, none, none, none⟩, o_, ⟨[.at 2], none, none, none, none⟩, o_, o_, o_] [2, 3, 18] (fun _ _ => by kernel_rfl) ⟨rfl, rfl, trivial⟩ ?_
  refine TriL.slotN 18 ((n.kind : Int) = (m.kind : Int)) (fun _ => by kernel_rfl) (fun h18 => ?_) (fun h18 => ?_)
  ·
   refine TriL.segK (k' := 64) (fr' := [(2, .pointer (some ⟨b33, 0, none⟩)), (3, .pointer (some ⟨b34, 0, none⟩)), (69, .bool true)]) (obl := []) [o_, o_, o_, o_, o_, o_, o_, o_, o_, o_, o_, o_, o_, o_, o_, o_, o_, o_, o_, o_, o_, o_, o_, o_, o_, o_, o_, o_, o_, o_, o_, o_, o_, o_, o_, o_, o_, o_, o_, o_, o_, o_, o_, o_, o_, o_, o_, o_, o_, o_, o_] [2, 3, 69] (fun _ _ => by kernel_rfl) trivial ?_
   refine TriL.nil (by kernel_rfl) (TriQ.next ?_)
   refine Tri.condT (fun _ => by kernel_rfl) ?_
   refine Tri.seq (Tri.region ?_)
   refine TriL.segK (k' := 1) (fr' := [(4, .bool false)]) (obl := []) [o_] [4] (fun _ _ => by kernel_rfl) trivial ?_
   refine TriL.nil (by kernel_rfl) (TriQ.next (Tri.ret (TriQ.passRet ?_)))
   exact TriQ.ret (v := .bool false) (l := []) (obl := []) [] [0] (fun _ => by kernel_rfl) trivial rfl (by kernel_rfl) (⟨by rw [decide_eq_false (fun e => h18 (by cases e; first | rfl | exact ⟨rfl, rfl⟩))], rfl⟩)
  ·
   refine TriL.segK (k' := 20) (fr' := [(2, .pointer (some ⟨b33, 0, none⟩)), (3, .pointer (some ⟨b34, 0, none⟩)), (25, .bool (!(decide ((n.mode : Int) = (m.mode : Int)))))]) (obl := [b34 = b34, b33 = b33]) [o_, ⟨[.at 1], none, none, none, none⟩, o_, ⟨[.at 2], none, none, none, none⟩, o_, o_, o_] [2, 3, 25] (fun _ _ => by kernel_rfl) ⟨rfl, rfl, trivial⟩ ?_
   refine TriL.slotN 25 ((n.mode : Int) = (m.mode : Int)) (fun _ => by kernel_rfl) (fun h25 => ?_) (fun h25 => ?_)
   ·
    refine TriL.segK (k' := 64) (fr' := [(2, .pointer (some ⟨b33, 0, none⟩)), (3, .pointer (some ⟨b34, 0, none⟩)), (69, .bool true)]) (obl := []) [o_, o_, o_, o_, o_, o_, o_, o_, o_, o_, o_, o_, o_, o_, o_, o_, o_, o_, o_, o_, o_, o_, o_, o_, o_, o_, o_, o_, o_, o_, o_, o_, o_, o_, o_, o_, o_, o_, o_, o_, o_, o_, o_, o_] [2, 3, 69] (fun _ _ => by kernel_rfl) trivial ?_
    refine TriL.nil (by kernel_rfl) (TriQ.next ?_)
    refine Tri.condT (fun _ => by kernel_rfl) ?_
    refine Tri.seq (Tri.region ?_)
    refine TriL.segK (k' := 1) (fr' := [(4, .bool false)]) (obl := []) [o_] [4] (fun _ _ => by kernel_rfl) trivial ?_
    refine TriL.nil (by kernel_rfl) (TriQ.next (Tri.ret (TriQ.passRet ?_)))
    exact TriQ.ret (v := .bool false) (l := []) (obl := []) [] [0] (fun _ => by kernel_rfl) trivial rfl (by kernel_rfl) (⟨by rw [decide_eq_false (fun e => h25 (by cases e; first | rfl | exact ⟨rfl, rfl⟩))], rfl⟩)
   ·
    refine TriL.segK (k' := 27) (fr' := [(2, .pointer (some ⟨b33, 0, none⟩)), (3, .pointer (some ⟨b34, 0, none⟩)), (32, .bool (!(decide ((n.uid : Int) = (m.uid : Int)))))]) (obl := [b34 = b34, b33 = b33]) [o_, ⟨[.at 1], none, none, none, none⟩, o_, ⟨[.at 2], none, none, none, none⟩, o_, o_, o_] [2, 3, 32] (fun _ _ => by kernel_rfl) ⟨rfl, rfl, trivial⟩ ?_
    refine TriL.slotN 32 ((n.uid : Int) = (m.uid : Int)) (fun _ => by kernel_rfl) (fun h32 => ?_) (fun h32 => ?_)
    ·
     refine TriL.segK (k' := 64) (fr' := [(2, .pointer (some ⟨b33, 0, none⟩)), (3, .pointer (some ⟨b34, 0, none⟩)), (69, .bool true)]) (obl := []) [o_, o_, o_, o_, o_, o_, o_, o_, o_, o_, o_, o_, o_, o_, o_, o_, o_, o_, o_, o_, o_, o_, o_, o_, o_, o_, o_, o_, o_, o_, o_, o_, o_, o_, o_, o_, o_] [2, 3, 69] (fun _ _ => by kernel_rfl) trivial ?_
     refine TriL.nil (by kernel_rfl) (TriQ.next ?_)
     refine Tri.condT (fun _ => by kernel_rfl) ?_
     refine Tri.seq (Tri.region ?_)
     refine TriL.segK (k' := 1) (fr' := [(4, .bool false)]) (obl := []) [o_] [4] (fun _ _ => by kernel_rfl) trivial ?_
     refine TriL.nil (by kernel_rfl) (TriQ.next (Tri.ret (TriQ.passRet ?_)))
     exact TriQ.ret (v := .bool false) (l := []) (obl := []) [] [0] (fun _ => by kernel_rfl) trivial rfl (by kernel_rfl) (⟨by rw [decide_eq_false (fun e => h32 (by cases e; first | rfl | exact ⟨rfl, rfl⟩))], rfl⟩)
    ·
     refine TriL.segK (k' := 34) (fr' := [(2, .pointer (some ⟨b33, 0, none⟩)), (3, .pointer (some ⟨b34, 0, none⟩)), (39, .bool (!(decide ((n.gid : Int) = (m.gid : Int)))))]) (obl := [b34 = b34, b33 = b33]) [o_, ⟨[.at 1], none, none, none, none⟩, o_, ⟨[.at 2], none, none, none, none⟩, o_, o_, o_] [2, 3, 39] (fun _ _ => by kernel_rfl) ⟨rfl, rfl, trivial⟩ ?_
     refine TriL.slotN 39 ((n.gid : Int) = (m.gid : Int)) (fun _ => by kernel_rfl) (fun h39 => ?_) (fun h39 => ?_)
     ·
      refine TriL.segK (k' := 64) (fr' := [(2, .pointer (some ⟨b33, 0, none⟩)), (3, .pointer (some ⟨b34, 0, none⟩)), (69, .bool true)]) (obl := []) [o_, o_, o_, o_, o_, o_, o_, o_, o_, o_, o_, o_, o_, o_, o_, o_, o_, o_, o_, o_, o_, o_, o_, o_, o_, o_, o_, o_, o_, o_] [2, 3, 69] (fun _ _ => by kernel_rfl) trivial ?_
      refine TriL.nil (by kernel_rfl) (TriQ.next ?_)
      refine Tri.condT (fun _ => by kernel_rfl) ?_
      refine Tri.seq (Tri.region ?_)
      refine TriL.segK (k' := 1) (fr' := [(4, .bool false)]) (obl := []) [o_] [4] (fun _ _ => by kernel_rfl) trivial ?_
      refine TriL.nil (by kernel_rfl) (TriQ.next (Tri.ret (TriQ.passRet ?_)))
      exact TriQ.ret (v := .bool false) (l := []) (obl := []) [] [0] (fun _ => by kernel_rfl) trivial rfl (by kernel_rfl) (⟨by rw [decide_eq_false (fun e => h39 (by cases e; first | rfl | exact ⟨rfl, rfl⟩))], rfl⟩)
     ·
      refine TriL.segK (k' := 38) (fr' := [(2, .pointer (some ⟨b33, 0, none⟩)), (3, .pointer (some ⟨b34, 0, none⟩)), (39, .bool false), (41, .agg #[.int .i64 (n.sec), .int .i64 (n.nano)]), (43, .agg #[.int .i64 (m.sec), .int .i64 (m.nano)])]) (obl := [b34 = b34, b34 = b34, b33 = b33, b33 = b33]) [o_, ⟨[.at 1, .at 1], none, none, none, none⟩, o_, ⟨[.at 2, .at 2], none, none, none, none⟩] [2, 3, 39, 41, 43] (fun _ _ => by kernel_rfl) ⟨rfl, rfl, rfl, rfl, trivial⟩ ?_
      refine TriL.run1 (d := (some 44)) (op := .binOp .neq 28 (.tmp 41) (.tmp 43) 28) (v := .bool (!(decide ((n.sec : Int) = (m.sec : Int) ∧ (n.nano : Int) = (m.nano : Int))))) (fun _ => by kernel_rfl) (fun o junk w ho hS => ⟨w, ran_timeNeq ho (by kernel_rfl) (by kernel_rfl), hS⟩) ?_
      refine TriL.segK (k' := 41) (fr' := [(2, .pointer (some ⟨b33, 0, none⟩)), (3, .pointer (some ⟨b34, 0, none⟩)), (46, .bool (!(decide ((n.sec : Int) = (m.sec : Int) ∧ (n.nano : Int) = (m.nano : Int)))))]) (obl := []) [o_, o_] [2, 3, 46] (fun _ _ => by kernel_rfl) trivial ?_
      refine TriL.slotN 46 ((n.sec : Int) = (m.sec : Int) ∧ (n.nano : Int) = (m.nano : Int)) (fun _ => by kernel_rfl) (fun h46 => ?_) (fun h46 => ?_)
      ·
       refine TriL.segK (k' := 64) (fr' := [(2, .pointer (some ⟨b33, 0, none⟩)), (3, .pointer (some ⟨b34, 0, none⟩)), (69, .bool true)]) (obl := []) [o_, o_, o_, o_, o_, o_, o_, o_, o_, o_, o_, o_, o_, o_, o_, o_, o_, o_, o_, o_, o_, o_, o_] [2, 3, 69] (fun _ _ => by kernel_rfl) trivial ?_
       refine TriL.nil (by kernel_rfl) (TriQ.next ?_)
       refine Tri.condT (fun _ => by kernel_rfl) ?_
       refine Tri.seq (Tri.region ?_)
       refine TriL.segK (k' := 1) (fr' := [(4, .bool false)]) (obl := []) [o_] [4] (fun _ _ => by kernel_rfl) trivial ?_
       refine TriL.nil (by kernel_rfl) (TriQ.next (Tri.ret (TriQ.passRet ?_)))
       exact TriQ.ret (v := .bool false) (l := []) (obl := []) [] [0] (fun _ => by kernel_rfl) trivial rfl (by kernel_rfl) (⟨by rw [decide_eq_false (fun e => h46 (by cases e; first | rfl | exact ⟨rfl, rfl⟩))], rfl⟩)
      ·
       refine TriL.segK (k' := 48) (fr' := [(2, .pointer (some ⟨b33, 0, none⟩)), (3, .pointer (some ⟨b34, 0, none⟩)), (53, .bool (!(decide ((n.target : ByteArray) = m.target))))]) (obl := [(Value.bool (!((n.target : ByteArray).toList == (m.target : ByteArray).toList))) = (.bool (!(decide ((n.target : ByteArray) = m.target)))), b34 = b34, b33 = b33]) [o_, ⟨[.at 1], none, none, none, none⟩, o_, ⟨[.at 2], none, none, none, none⟩, ⟨[], none, none, none, some (.bool (!(decide ((n.target : ByteArray) = m.target))))⟩, o_, o_] [2, 3, 53] (fun _ _ => by kernel_rfl) ⟨strNeV _ _, rfl, rfl, trivial⟩ ?_
       refine TriL.slotN 53 ((n.target : ByteArray) = m.target) (fun _ => by kernel_rfl) (fun h53 => ?_) (fun h53 => ?_)
       ·
        refine TriL.segK (k' := 64) (fr' := [(2, .pointer (some ⟨b33, 0, none⟩)), (3, .pointer (some ⟨b34, 0, none⟩)), (69, .bool true)]) (obl := []) [o_, o_, o_, o_, o_, o_, o_, o_, o_, o_, o_, o_, o_, o_, o_, o_] [2, 3, 69] (fun _ _ => by kernel_rfl) trivial ?_
        refine TriL.nil (by kernel_rfl) (TriQ.next ?_)
        refine Tri.condT (fun _ => by kernel_rfl) ?_
        refine Tri.seq (Tri.region ?_)
        refine TriL.segK (k' := 1) (fr' := [(4, .bool false)]) (obl := []) [o_] [4] (fun _ _ => by kernel_rfl) trivial ?_
        refine TriL.nil (by kernel_rfl) (TriQ.next (Tri.ret (TriQ.passRet ?_)))
        exact TriQ.ret (v := .bool false) (l := []) (obl := []) [] [0] (fun _ => by kernel_rfl) trivial rfl (by kernel_rfl) (⟨by rw [decide_eq_false (fun e => h53 (by cases e; first | rfl | exact ⟨rfl, rfl⟩))], rfl⟩)
       ·
        refine TriL.segK (k' := 57) (fr' := [(2, .pointer (some ⟨b33, 0, none⟩)), (3, .pointer (some ⟨b34, 0, none⟩)), (62, .bool (!(decide ((((n.ents.length : Nat) : Int) : Int) = (((m.ents.length : Nat) : Int) : Int)))))]) (obl := [b34 = b34, b33 = b33]) [o_, ⟨[.at 1], none, none, none, none⟩, o_, o_, ⟨[.at 2], none, none, none, none⟩, o_, o_, o_, o_] [2, 3, 62] (fun _ _ => by kernel_rfl) ⟨rfl, rfl, trivial⟩ ?_
        refine TriL.slotN 62 ((((n.ents.length : Nat) : Int) : Int) = (((m.ents.length : Nat) : Int) : Int)) (fun _ => by kernel_rfl) (fun h62 => ?_) (fun h62 => ?_)
        ·
         refine TriL.segK (k' := 64) (fr' := [(2, .pointer (some ⟨b33, 0, none⟩)), (3, .pointer (some ⟨b34, 0, none⟩)), (69, .bool true)]) (obl := []) [o_, o_, o_, o_, o_, o_, o_] [2, 3, 69] (fun _ _ => by kernel_rfl) trivial ?_
         refine TriL.nil (by kernel_rfl) (TriQ.next ?_)
         refine Tri.condT (fun _ => by kernel_rfl) ?_
         refine Tri.seq (Tri.region ?_)
         refine TriL.segK (k' := 1) (fr' := [(4, .bool false)]) (obl := []) [o_] [4] (fun _ _ => by kernel_rfl) trivial ?_
         refine TriL.nil (by kernel_rfl) (TriQ.next (Tri.ret (TriQ.passRet ?_)))
         exact TriQ.ret (v := .bool false) (l := []) (obl := []) [] [0] (fun _ => by kernel_rfl) trivial rfl (by kernel_rfl) (⟨by rw [decide_eq_false (fun e => h62 (by cases e; first | rfl | exact ⟨rfl, rfl⟩))], rfl⟩)
        ·
         refine TriL.segK (k' := 61) (fr' := [(2, .pointer (some ⟨b33, 0, none⟩)), (3, .pointer (some ⟨b34, 0, none⟩)), (62, .bool false), (64, .slice dA (n.data.length) (dC)), (66, .slice dB (m.data.length) (dD))]) (obl := [b34 = b34, b33 = b33]) [o_, ⟨[.at 1], none, none, none, none⟩, o_, ⟨[.at 2], none, none, none, none⟩] [2, 3, 62, 64, 66] (fun _ _ => by kernel_rfl) ⟨rfl, rfl, trivial⟩ ?_
         refine TriL.call (f := 62) (args := #[.slice dA (n.data.length) (dC), .slice dB (m.data.length) (dD)]) (d := (some 67)) (pre := []) (R := [.abs R, .blk b33 [.int .i64 (n.id), .int .i64 (n.kind), .int .i64 (n.mode), .int .i64 (n.uid), .int .i64 (n.gid), .int .i64 (n.sec), .int .i64 (n.nano), .slice dA (n.data.length) (dC), .string n.target, .slice eA (n.ents.length) (eC)] 32, .blk b34 [.int .i64 (m.id), .int .i64 (m.kind), .int .i64 (m.mode), .int .i64 (m.uid), .int .i64 (m.gid), .int .i64 (m.sec), .int .i64 (m.nano), .slice dB (m.data.length) (dD), .string m.target, .slice eB (m.ents.length) (eD)] 32]) (pk := [0, 1, 2]) (fun _ => by kernel_rfl) (sp_sameBytes dA dB dC dD n.data m.data hD hD2 hl1) rfl (by kernel_rfl) ?_
         rintro _ _ ⟨rfl, rfl⟩
         refine TriL.segK (k' := 64) (fr' := [(2, .pointer (some ⟨b33, 0, none⟩)), (3, .pointer (some ⟨b34, 0, none⟩)), (69, .bool (!(decide (n.data = m.data))))]) (obl := []) [o_, o_] [2, 3, 69] (fun _ _ => by kernel_rfl) trivial ?_
         refine TriL.nil (by kernel_rfl) (TriQ.next ?_)
         refine Tri.condN (p := n.data = m.data) (fun _ => by kernel_rfl) (fun h69 => ?_) (fun h69 => ?_)
         ·
          refine Tri.seq (Tri.region ?_)
          refine TriL.segK (k' := 1) (fr' := [(4, .bool false)]) (obl := []) [o_] [4] (fun _ _ => by kernel_rfl) trivial ?_
          refine TriL.nil (by kernel_rfl) (TriQ.next (Tri.ret (TriQ.passRet ?_)))
          exact TriQ.ret (v := .bool false) (l := []) (obl := []) [] [0] (fun _ => by kernel_rfl) trivial rfl (by kernel_rfl) (⟨by rw [decide_eq_false (fun e => h69 (by cases e; first | rfl | exact ⟨rfl, rfl⟩))], rfl⟩)
         ·
          refine Tri.skip (TriQ.next (Tri.seq (Tri.seq (Tri.region ?_))))
          refine TriL.segK (k' := 1) (fr' := [(2, .pointer (some ⟨b33, 0, none⟩)), (3, .pointer (some ⟨b34, 0, none⟩)), (5, .int .i64 0)]) (obl := []) [o_] [2, 3, 5] (fun _ _ => by kernel_rfl) trivial ?_
          refine TriL.nil (by kernel_rfl) (TriQ.next (Tri.block ?_))
          refine Tri.loop (ι := Nat) (fun (i : Nat) => (i ≤ n.ents.length) ∧ (∀ j, j < i → n.ents.getD j default = m.ents.getD j default)) (fun (i : Nat) => n.ents.length - i) (fun (i : Nat) => [(2, .pointer (some ⟨b33, 0, none⟩)), (3, .pointer (some ⟨b34, 0, none⟩)), (5, .int .i64 ↑i)]) (fun (i : Nat) => [.abs R, .blk b33 [.int .i64 (n.id), .int .i64 (n.kind), .int .i64 (n.mode), .int .i64 (n.uid), .int .i64 (n.gid), .int .i64 (n.sec), .int .i64 (n.nano), .slice dA (n.data.length) (dC), .string n.target, .slice eA (n.ents.length) (eC)] 32, .blk b34 [.int .i64 (m.id), .int .i64 (m.kind), .int .i64 (m.mode), .int .i64 (m.uid), .int .i64 (m.gid), .int .i64 (m.sec), .int .i64 (m.nano), .slice dB (m.data.length) (dD), .string m.target, .slice eB (m.ents.length) (eD)] 32]) 0 (idx := [2, 3, 5]) (pk := [0, 1, 2]) (show (0 ≤ n.ents.length) ∧ (∀ j, j < 0 → n.ents.getD j default = m.ents.getD j default) from ⟨Nat.zero_le _, fun j hj => absurd hj (Nat.not_lt_zero j)⟩) (fun _ => by kernel_rfl) rfl (by kernel_rfl) ?_
          rintro i ⟨hi, hall⟩
          show Tri _ _ _ _ [(2, .pointer (some ⟨b33, 0, none⟩)), (3, .pointer (some ⟨b34, 0, none⟩)), (5, .int .i64 ↑i)] [.abs R, .blk b33 [.int .i64 (n.id), .int .i64 (n.kind), .int .i64 (n.mode), .int .i64 (n.uid), .int .i64 (n.gid), .int .i64 (n.sec), .int .i64 (n.nano), .slice dA (n.data.length) (dC), .string n.target, .slice eA (n.ents.length) (eC)] 32, .blk b34 [.int .i64 (m.id), .int .i64 (m.kind), .int .i64 (m.mode), .int .i64 (m.uid), .int .i64 (m.gid), .int .i64 (m.sec), .int .i64 (m.nano), .slice dB (m.data.length) (dD), .string m.target, .slice eB (m.ents.length) (eD)] 32] _
          refine Tri.seq (Tri.seq (Tri.region ?_))
          refine TriL.segK (k' := 5) (fr' := [(2, .pointer (some ⟨b33, 0, none⟩)), (3, .pointer (some ⟨b34, 0, none⟩)), (5, .int .i64 ↑i), (74, .bool (decide ((((i : Nat) : Int) : Int) < (((n.ents.length : Nat) : Int) : Int))))]) (obl := [b33 = b33]) [o_, o_, ⟨[.at 1], none, none, none, none⟩, o_, o_] [2, 3, 5, 74] (fun _ _ => by kernel_rfl) ⟨rfl, trivial⟩ ?_
          refine TriL.nil (by kernel_rfl) (TriQ.next ?_)
          refine Tri.condP (p := (((i : Nat) : Int) : Int) < (((n.ents.length : Nat) : Int) : Int)) (fun _ => by kernel_rfl) (fun h74 => ?_) (fun h74 => ?_)
          ·
           refine Tri.skip (TriQ.next (Tri.seq (Tri.block (Tri.seq ?_))))
           refine Tri.regionQ (by kernel_rfl) (by kernel_rfl) ?_
           refine TriLQ.seg (k' := 10) (fr' := [(2, .pointer (some ⟨b33, 0, none⟩)), (3, .pointer (some ⟨b34, 0, none⟩)), (5, .int .i64 ↑i), (81, .agg #[.string (en n.ents i).name, .int .i64 ((en n.ents i).id)]), (86, .agg #[.string (en m.ents i).name, .int .i64 ((en m.ents i).id)])]) (obl := [(Rd β ⟨(blkOf eB), offOf eB + i * 2 + 1, none⟩ (.int .i64 ((en m.ents i).id))), (Rd β ⟨(blkOf eB), offOf eB + i * 2, none⟩ (.string (en m.ents i).name)), ((i : Nat) : Int) = ((i : Nat) : Int), i < m.ents.length, (⟨(blkOf eB), offOf eB, none⟩ : Addr).spot = none, (eB : Option Addr) = some ⟨(blkOf eB), offOf eB, none⟩, b34 = b34, (Rd β ⟨(blkOf eA), offOf eA + i * 2 + 1, none⟩ (.int .i64 ((en n.ents i).id))), (Rd β ⟨(blkOf eA), offOf eA + i * 2, none⟩ (.string (en n.ents i).name)), ((i : Nat) : Int) = ((i : Nat) : Int), i < n.ents.length, (⟨(blkOf eA), offOf eA, none⟩ : Addr).spot = none, (eA : Option Addr) = some ⟨(blkOf eA), offOf eA, none⟩, b33 = b33]) [o_, ⟨[.at 1], none, none, none, none⟩, o_, ⟨[], some i, none, some ⟨(blkOf eA), offOf eA, none⟩, none⟩, ⟨[.old (.string (en n.ents i).name), .old (.int .i64 ((en n.ents i).id))], none, none, none, none⟩, o_, ⟨[.at 2], none, none, none, none⟩, o_, ⟨[], some i, none, some ⟨(blkOf eB), offOf eB, none⟩, none⟩, ⟨[.old (.string (en m.ents i).name), .old (.int .i64 ((en m.ents i).id))], none, none, none, none⟩] [2, 3, 5, 81, 86] (fun _ _ => by kernel_rfl) ⟨EntsAt.rd hE2 (i := i) (by omega) (j := 1) rfl, EntsAt.rd hE2 (i := i) (by omega) (j := 0) rfl, rfl, by omega, rfl, EntsAt.hd hE2 (i := i) (by omega), rfl, EntsAt.rd hE (i := i) (by omega) (j := 1) rfl, EntsAt.rd hE (i := i) (by omega) (j := 0) rfl, rfl, by omega, rfl, EntsAt.hd hE (i := i) (by omega), rfl, trivial⟩ ?_
           refine TriLQ.run1 (d := (some 87)) (op := .binOp .neq 72 (.tmp 81) (.tmp 86) 72) (v := .bool (!(decide ((en n.ents i).name = (en m.ents i).name ∧ ((en n.ents i).id : Int) = ((en m.ents i).id : Int))))) (fun _ => by kernel_rfl) (fun o junk w ho _ => ran_entNeq ho (by kernel_rfl) (by kernel_rfl)) ?_
           refine TriLQ.nil (by kernel_rfl) (TriQ.next ?_)
           refine Tri.condN (p := (en n.ents i).name = (en m.ents i).name ∧ ((en n.ents i).id : Int) = ((en m.ents i).id : Int)) (fun _ => by kernel_rfl) (fun h87 => ?_) (fun h87 => ?_)
           ·
            refine Tri.seq (Tri.region ?_)
            refine TriL.segK (k' := 1) (fr' := [(4, .bool false)]) (obl := []) [o_] [4] (fun _ _ => by kernel_rfl) trivial ?_
            refine TriL.nil (by kernel_rfl) (TriQ.next (Tri.ret (TriQ.blockRet (TriQ.passRet (TriQ.passRet (TriQ.blockRet (TriQ.passRet ?_)))))))
            exact TriQ.ret (v := .bool false) (l := []) (obl := []) [] [0] (fun _ => by kernel_rfl) trivial rfl (by kernel_rfl) (⟨by rw [decide_eq_false (fun e => h87 (by cases e; first | rfl | exact ⟨rfl, rfl⟩))], rfl⟩)
           ·
            refine Tri.skip (TriQ.blockNormal (TriQ.next (Tri.region ?_)))
            refine TriL.segK (k' := 3) (fr' := [(2, .pointer (some ⟨b33, 0, none⟩)), (3, .pointer (some ⟨b34, 0, none⟩)), (5, .int .i64 ↑(i + 1))]) (obl := [(Value.int .i64 (IntKind.wrap .i64 (((i : Nat) : Int) + 1))) = (.int .i64 ↑(i + 1))]) [o_, ⟨[], none, none, none, some (.int .i64 ↑(i + 1))⟩, o_] [2, 3, 5] (fun _ _ => by kernel_rfl) ⟨wrapEq (by omega) (by omega) (by omega), trivial⟩ ?_
            refine TriL.nil (by kernel_rfl) ?_
            exact TriQ.turn ((i + 1)) (idx := [2, 3, 5]) (pk := [0, 1, 2]) (show (((i + 1)) ≤ n.ents.length) ∧ (∀ j, j < ((i + 1)) → n.ents.getD j default = m.ents.getD j default) from ⟨by omega, fun j hj => by rcases Nat.lt_succ_iff_lt_or_eq.1 hj with h | h; exact hall j h; subst h; exact entEq h87⟩) (by show n.ents.length - ((i + 1)) < n.ents.length - i; omega) (fun _ => by kernel_rfl) rfl (by kernel_rfl)
          ·
           refine Tri.exit (TriQ.passExit (TriQ.passExit (TriQ.blockHit (TriQ.next (Tri.seq (Tri.region ?_))))))
           refine TriL.segK (k' := 1) (fr' := [(4, .bool true)]) (obl := []) [o_] [4] (fun _ _ => by kernel_rfl) trivial ?_
           refine TriL.nil (by kernel_rfl) (TriQ.next (Tri.ret ?_))
           exact TriQ.ret (v := .bool true) (l := []) (obl := []) [] [0] (fun _ => by kernel_rfl) trivial rfl (by kernel_rfl) (⟨by rw [decide_eq_true (nodeEq (by omega) (by omega) (by omega) (by omega) (by omega) (by assumption) (by assumption) (by assumption) (ext_getD (x := default) (by omega) (fun j hj => hall j (by omega))))], rfl⟩)
set_option maxRecDepth 100000 in
set_option maxHeartbeats 4000000 in
theorem sp_sameGraph {β : Bs} (A B : Option Addr) (c c' : Nat) (ns ms : List NodeM) (L K : Lay) (hG : GraphAt β A ns L) (hH : GraphAt β B ms K) (hl : ns.length ≤ 1048576) (hd : ∀ i, i < ns.length → (nd ns i).data.length ≤ 1048576 ∧ (nd ns i).ents.length ≤ 1048576) :
    Spec Try.prog β 17 #[.agg #[.slice A ns.length c], .agg #[.slice B ms.length c']] [] (fun v l => v = .bool (decide (ns = ms)) ∧ l = []) := by
 refine Spec.enter Try.func17 rfl Try.ntmps17 (Nat.le_of_ble_eq_true rfl) (fun R => ?_)
 refine Tri.seq (Tri.region ?_)
 refine TriL.segN (k' := 1) (fr' := fun b35 => [(1, .agg #[.slice B (ms.length) (c')]), (2, .pointer (some ⟨b35, 0, none⟩))]) (hps' := fun b35 => [.abs R, .blk b35 [.slice A (ns.length) (c)] 24]) (obl := fun b35 => []) [o_] [1, 2] [0, 1] (fun _ _ => by kernel_rfl) (fun b35 => trivial) (fun b35 => ?_)
 refine TriL.segN (k' := 3) (fr' := fun b36 => [(2, .pointer (some ⟨b35, 0, none⟩)), (3, .pointer (some ⟨b36, 0, none⟩))]) (hps' := fun b36 => [.abs R, .blk b35 [.slice A (ns.length) (c)] 24, .blk b36 [.slice B (ms.length) (c')] 24]) (obl := fun b36 => []) [o_, o_] [2, 3] [0, 1, 2] (fun _ _ => by kernel_rfl) (fun b36 => trivial) (fun b36 => ?_)
 refine TriL.nil (by kernel_rfl) (TriQ.next (Tri.seq (Tri.seq (Tri.region ?_))))
 refine TriL.segK (k' := 7) (fr' := [(2, .pointer (some ⟨b35, 0, none⟩)), (3, .pointer (some ⟨b36, 0, none⟩)), (12, .bool (!(decide ((((ns.length : Nat) : Int) : Int) = (((ms.length : Nat) : Int) : Int)))))]) (obl := [b36 = b36, b35 = b35]) [o_, ⟨[.at 1], none, none, none, none⟩, o_, o_, ⟨[.at 2], none, none, none, none⟩, o_, o_] [2, 3, 12] (fun _ _ => by kernel_rfl) ⟨rfl, rfl, trivial⟩ ?_
 refine TriL.nil (by kernel_rfl) (TriQ.next ?_)
 refine Tri.condN (p := (((ns.length : Nat) : Int) : Int) = (((ms.length : Nat) : Int) : Int)) (fun _ => by kernel_rfl) (fun h12 => ?_) (fun h12 => ?_)
 ·
  refine Tri.seq (Tri.region ?_)
  refine TriL.segK (k' := 1) (fr' := [(4, .bool false)]) (obl := []) [o_] [4] (fun _ _ => by kernel_rfl) trivial ?_
  refine TriL.nil (by kernel_rfl) (TriQ.next (Tri.ret (TriQ.passRet ?_)))
  exact TriQ.ret (v := .bool false) (l := []) (obl := []) [] [0] (fun _ => by kernel_rfl) trivial rfl (by kernel_rfl) (⟨by rw [decide_eq_false (fun e => h12 (by rw [e]))], rfl⟩)
 ·
  refine Tri.skip (TriQ.next (Tri.seq (Tri.seq (Tri.region ?_))))
  refine TriL.segK (k' := 1) (fr' := [(2, .pointer (some ⟨b35, 0, none⟩)), (3, .pointer (some ⟨b36, 0, none⟩)), (5, .int .i64 0)]) (obl := []) [o_] [2, 3, 5] (fun _ _ => by kernel_rfl) trivial ?_
  refine TriL.nil (by kernel_rfl) (TriQ.next (Tri.block ?_))
  refine Tri.loop (ι := Nat) (fun (i : Nat) => (i ≤ ns.length) ∧ (∀ j, j < i → ns.getD j default = ms.getD j default)) (fun (i : Nat) => ns.length - i) (fun (i : Nat) => [(2, .pointer (some ⟨b35, 0, none⟩)), (3, .pointer (some ⟨b36, 0, none⟩)), (5, .int .i64 ↑i)]) (fun (i : Nat) => [.abs R, .blk b35 [.slice A (ns.length) (c)] 24, .blk b36 [.slice B (ms.length) (c')] 24]) 0 (idx := [2, 3, 5]) (pk := [0, 1, 2]) (show (0 ≤ ns.length) ∧ (∀ j, j < 0 → ns.getD j default = ms.getD j default) from ⟨Nat.zero_le _, fun j hj => absurd hj (Nat.not_lt_zero j)⟩) (fun _ => by kernel_rfl) rfl (by kernel_rfl) ?_
  rintro i ⟨hi, hall⟩
  show Tri _ _ _ _ [(2, .pointer (some ⟨b35, 0, none⟩)), (3, .pointer (some ⟨b36, 0, none⟩)), (5, .int .i64 ↑i)] [.abs R, .blk b35 [.slice A (ns.length) (c)] 24, .blk b36 [.slice B (ms.length) (c')] 24] _
  refine Tri.seq (Tri.seq (Tri.region ?_))
  refine TriL.segK (k' := 5) (fr' := [(2, .pointer (some ⟨b35, 0, none⟩)), (3, .pointer (some ⟨b36, 0, none⟩)), (5, .int .i64 ↑i), (17, .bool (decide ((((i : Nat) : Int) : Int) < (((ns.length : Nat) : Int) : Int))))]) (obl := [b35 = b35]) [o_, o_, ⟨[.at 1], none, none, none, none⟩, o_, o_] [2, 3, 5, 17] (fun _ _ => by kernel_rfl) ⟨rfl, trivial⟩ ?_
  refine TriL.nil (by kernel_rfl) (TriQ.next ?_)
  refine Tri.condP (p := (((i : Nat) : Int) : Int) < (((ns.length : Nat) : Int) : Int)) (fun _ => by kernel_rfl) (fun h17 => ?_) (fun h17 => ?_)
  ·
   refine Tri.skip (TriQ.next (Tri.seq (Tri.block (Tri.seq ?_))))
   refine Tri.regionQ (by kernel_rfl) (by kernel_rfl) ?_
   refine TriLQ.seg (k' := 10) (fr' := [(2, .pointer (some ⟨b35, 0, none⟩)), (3, .pointer (some ⟨b36, 0, none⟩)), (5, .int .i64 ↑i), (24, .agg #[.int .i64 ((nd ns i).id), .int .i64 ((nd ns i).kind), .int .i64 ((nd ns i).mode), .int .i64 ((nd ns i).uid), .int .i64 ((nd ns i).gid), .int .i64 ((nd ns i).sec), .int .i64 ((nd ns i).nano), .slice (L.dA i) ((nd ns i).data.length) ((L.dC i)), .string (nd ns i).target, .slice (L.eA i) ((nd ns i).ents.length) ((L.eC i))]), (29, .agg #[.int .i64 ((nd ms i).id), .int .i64 ((nd ms i).kind), .int .i64 ((nd ms i).mode), .int .i64 ((nd ms i).uid), .int .i64 ((nd ms i).gid), .int .i64 ((nd ms i).sec), .int .i64 ((nd ms i).nano), .slice (K.dA i) ((nd ms i).data.length) ((K.dC i)), .string (nd ms i).target, .slice (K.eA i) ((nd ms i).ents.length) ((K.eC i))])]) (obl := [(Rd β ⟨(blkOf B), offOf B + i * 10 + 9, none⟩ (.slice (K.eA i) ((nd ms i).ents.length) ((K.eC i)))), (Rd β ⟨(blkOf B), offOf B + i * 10 + 8, none⟩ (.string (nd ms i).target)), (Rd β ⟨(blkOf B), offOf B + i * 10 + 7, none⟩ (.slice (K.dA i) ((nd ms i).data.length) ((K.dC i)))), (Rd β ⟨(blkOf B), offOf B + i * 10 + 6, none⟩ (.int .i64 ((nd ms i).nano))), (Rd β ⟨(blkOf B), offOf B + i * 10 + 5, none⟩ (.int .i64 ((nd ms i).sec))), (Rd β ⟨(blkOf B), offOf B + i * 10 + 4, none⟩ (.int .i64 ((nd ms i).gid))), (Rd β ⟨(blkOf B), offOf B + i * 10 + 3, none⟩ (.int .i64 ((nd ms i).uid))), (Rd β ⟨(blkOf B), offOf B + i * 10 + 2, none⟩ (.int .i64 ((nd ms i).mode))), (Rd β ⟨(blkOf B), offOf B + i * 10 + 1, none⟩ (.int .i64 ((nd ms i).kind))), (Rd β ⟨(blkOf B), offOf B + i * 10, none⟩ (.int .i64 ((nd ms i).id))), ((i : Nat) : Int) = ((i : Nat) : Int), i < ms.length, (⟨(blkOf B), offOf B, none⟩ : Addr).spot = none, (B : Option Addr) = some ⟨(blkOf B), offOf B, none⟩, b36 = b36, (Rd β ⟨(blkOf A), offOf A + i * 10 + 9, none⟩ (.slice (L.eA i) ((nd ns i).ents.length) ((L.eC i)))), (Rd β ⟨(blkOf A), offOf A + i * 10 + 8, none⟩ (.string (nd ns i).target)), (Rd β ⟨(blkOf A), offOf A + i * 10 + 7, none⟩ (.slice (L.dA i) ((nd ns i).data.length) ((L.dC i)))), (Rd β ⟨(blkOf A), offOf A + i * 10 + 6, none⟩ (.int .i64 ((nd ns i).nano))), (Rd β ⟨(blkOf A), offOf A + i * 10 + 5, none⟩ (.int .i64 ((nd ns i).sec))), (Rd β ⟨(blkOf A), offOf A + i * 10 + 4, none⟩ (.int .i64 ((nd ns i).gid))), (Rd β ⟨(blkOf A), offOf A + i * 10 + 3, none⟩ (.int .i64 ((nd ns i).uid))), (Rd β ⟨(blkOf A), offOf A + i * 10 + 2, none⟩ (.int .i64 ((nd ns i).mode))), (Rd β ⟨(blkOf A), offOf A + i * 10 + 1, none⟩ (.int .i64 ((nd ns i).kind))), (Rd β ⟨(blkOf A), offOf A + i * 10, none⟩ (.int .i64 ((nd ns i).id))), ((i : Nat) : Int) = ((i : Nat) : Int), i < ns.length, (⟨(blkOf A), offOf A, none⟩ : Addr).spot = none, (A : Option Addr) = some ⟨(blkOf A), offOf A, none⟩, b35 = b35]) [o_, ⟨[.at 1], none, none, none, none⟩, o_, ⟨[], some i, none, some ⟨(blkOf A), offOf A, none⟩, none⟩, ⟨[.old (.int .i64 ((nd ns i).id)), .old (.int .i64 ((nd ns i).kind)), .old (.int .i64 ((nd ns i).mode)), .old (.int .i64 ((nd ns i).uid)), .old (.int .i64 ((nd ns i).gid)), .old (.int .i64 ((nd ns i).sec)), .old (.int .i64 ((nd ns i).nano)), .old (.slice (L.dA i) ((nd ns i).data.length) ((L.dC i))), .old (.string (nd ns i).target), .old (.slice (L.eA i) ((nd ns i).ents.length) ((L.eC i)))], none, none, none, none⟩, o_, ⟨[.at 2], none, none, none, none⟩, o_, ⟨[], some i, none, some ⟨(blkOf B), offOf B, none⟩, none⟩, ⟨[.old (.int .i64 ((nd ms i).id)), .old (.int .i64 ((nd ms i).kind)), .old (.int .i64 ((nd ms i).mode)), .old (.int .i64 ((nd ms i).uid)), .old (.int .i64 ((nd ms i).gid)), .old (.int .i64 ((nd ms i).sec)), .old (.int .i64 ((nd ms i).nano)), .old (.slice (K.dA i) ((nd ms i).data.length) ((K.dC i))), .old (.string (nd ms i).target), .old (.slice (K.eA i) ((nd ms i).ents.length) ((K.eC i)))], none, none, none, none⟩] [2, 3, 5, 24, 29] (fun _ _ => by kernel_rfl) ⟨GraphAt.rd hH (i := i) (by omega) (j := 9) rfl, GraphAt.rd hH (i := i) (by omega) (j := 8) rfl, GraphAt.rd hH (i := i) (by omega) (j := 7) rfl, GraphAt.rd hH (i := i) (by omega) (j := 6) rfl, GraphAt.rd hH (i := i) (by omega) (j := 5) rfl, GraphAt.rd hH (i := i) (by omega) (j := 4) rfl, GraphAt.rd hH (i := i) (by omega) (j := 3) rfl, GraphAt.rd hH (i := i) (by omega) (j := 2) rfl, GraphAt.rd hH (i := i) (by omega) (j := 1) rfl, GraphAt.rd hH (i := i) (by omega) (j := 0) rfl, rfl, by omega, rfl, GraphAt.hd hH (i := i) (by omega), rfl, GraphAt.rd hG (i := i) (by omega) (j := 9) rfl, GraphAt.rd hG (i := i) (by omega) (j := 8) rfl, GraphAt.rd hG (i := i) (by omega) (j := 7) rfl, GraphAt.rd hG (i := i) (by omega) (j := 6) rfl, GraphAt.rd hG (i := i) (by omega) (j := 5) rfl, GraphAt.rd hG (i := i) (by omega) (j := 4) rfl, GraphAt.rd hG (i := i) (by omega) (j := 3) rfl, GraphAt.rd hG (i := i) (by omega) (j := 2) rfl, GraphAt.rd hG (i := i) (by omega) (j := 1) rfl, GraphAt.rd hG (i := i) (by omega) (j := 0) rfl, rfl, by omega, rfl, GraphAt.hd hG (i := i) (by omega), rfl, trivial⟩ ?_
   refine TriLQ.call (f := 41) (args := #[.agg #[.int .i64 ((nd ns i).id), .int .i64 ((nd ns i).kind), .int .i64 ((nd ns i).mode), .int .i64 ((nd ns i).uid), .int .i64 ((nd ns i).gid), .int .i64 ((nd ns i).sec), .int .i64 ((nd ns i).nano), .slice (L.dA i) ((nd ns i).data.length) ((L.dC i)), .string (nd ns i).target, .slice (L.eA i) ((nd ns i).ents.length) ((L.eC i))], .agg #[.int .i64 ((nd ms i).id), .int .i64 ((nd ms i).kind), .int .i64 ((nd ms i).mode), .int .i64 ((nd ms i).uid), .int .i64 ((nd ms i).gid), .int .i64 ((nd ms i).sec), .int .i64 ((nd ms i).nano), .slice (K.dA i) ((nd ms i).data.length) ((K.dC i)), .string (nd ms i).target, .slice (K.eA i) ((nd ms i).ents.length) ((K.eC i))]]) (d := (some 30)) (pre := []) (R := [.abs R, .blk b35 [.slice A (ns.length) (c)] 24, .blk b36 [.slice B (ms.length) (c')] 24]) (pk := [0, 1, 2]) (pk' := [0, 1, 2]) (v0 := .bool (decide (nd ns i = nd ms i))) (fun _ => by kernel_rfl) (sp_sameNode (nd ns i) (nd ms i) (L.dA i) (L.eA i) (K.dA i) (K.eA i) (L.dC i) (L.eC i) (K.dC i) (K.eC i) (hG.data i (by omega)) (hG.ents i (by omega)) (hH.data i (by omega)) (hH.ents i (by omega)) (hd i (by omega)).1 (hd i (by omega)).2) rfl (by kernel_rfl) rfl (by kernel_rfl) (fun _ _ h => h) ?_
   refine TriLQ.seg (k' := 12) (fr' := [(2, .pointer (some ⟨b35, 0, none⟩)), (3, .pointer (some ⟨b36, 0, none⟩)), (5, .int .i64 ↑i), (31, .bool (!(decide (nd ns i = nd ms i))))]) (obl := []) [o_] [2, 3, 5, 31] (fun _ _ => by kernel_rfl) trivial ?_
   refine TriLQ.nil (by kernel_rfl) (TriQ.next ?_)
   refine Tri.condN (p := nd ns i = nd ms i) (fun _ => by kernel_rfl) (fun h31 => ?_) (fun h31 => ?_)
   ·
    refine Tri.seq (Tri.region ?_)
    refine TriL.segK (k' := 1) (fr' := [(4, .bool false)]) (obl := []) [o_] [4] (fun _ _ => by kernel_rfl) trivial ?_
    refine TriL.nil (by kernel_rfl) (TriQ.next (Tri.ret (TriQ.blockRet (TriQ.passRet (TriQ.passRet (TriQ.blockRet (TriQ.passRet ?_)))))))
    exact TriQ.ret (v := .bool false) (l := []) (obl := []) [] [0] (fun _ => by kernel_rfl) trivial rfl (by kernel_rfl) (⟨by rw [decide_eq_false (fun e => h31 (by rw [e]))], rfl⟩)
   ·
    refine Tri.skip (TriQ.blockNormal (TriQ.next (Tri.region ?_)))
    refine TriL.segK (k' := 3) (fr' := [(2, .pointer (some ⟨b35, 0, none⟩)), (3, .pointer (some ⟨b36, 0, none⟩)), (5, .int .i64 ↑(i + 1))]) (obl := [(Value.int .i64 (IntKind.wrap .i64 (((i : Nat) : Int) + 1))) = (.int .i64 ↑(i + 1))]) [o_, ⟨[], none, none, none, some (.int .i64 ↑(i + 1))⟩, o_] [2, 3, 5] (fun _ _ => by kernel_rfl) ⟨wrapEq (by omega) (by omega) (by omega), trivial⟩ ?_
    refine TriL.nil (by kernel_rfl) ?_
    exact TriQ.turn ((i + 1)) (idx := [2, 3, 5]) (pk := [0, 1, 2]) (show (((i + 1)) ≤ ns.length) ∧ (∀ j, j < ((i + 1)) → ns.getD j default = ms.getD j default) from ⟨by omega, fun j hj => by rcases Nat.lt_succ_iff_lt_or_eq.1 hj with h | h; exact hall j h; subst h; exact h31⟩) (by show ns.length - ((i + 1)) < ns.length - i; omega) (fun _ => by kernel_rfl) rfl (by kernel_rfl)
  ·
   refine Tri.exit (TriQ.passExit (TriQ.passExit (TriQ.blockHit (TriQ.next (Tri.seq (Tri.region ?_))))))
   refine TriL.segK (k' := 1) (fr' := [(4, .bool true)]) (obl := []) [o_] [4] (fun _ _ => by kernel_rfl) trivial ?_
   refine TriL.nil (by kernel_rfl) (TriQ.next (Tri.ret ?_))
   exact TriQ.ret (v := .bool true) (l := []) (obl := []) [] [0] (fun _ => by kernel_rfl) trivial rfl (by kernel_rfl) (⟨by rw [decide_eq_true (ext_getD (x := default) (by omega) (fun j hj => hall j (by omega)))], rfl⟩)
end Go.Proofs.Ytjpdcppdoonmdaa
end
/- part Vt. PROVED HERE: a region that draws its order and ends in operations that stand in one order alone; a contract of the shelf as a contract of the logic. CONDITIONS: none. No statement of the seat is proved here. -/
section
namespace Go.Proofs.Ytjpdcppdoonmdaa
open Go.RowKit
section still
variable {P : Program} {β : Bs} {N : Nat} {junk : Nat → Value} {ops : Array Oper} {n : Nat} {w : World}
theorem oruns_ge {hs : List OH} : ∀ {k k' : Nat} {fr fr' : Fr} {S S' : SS}, oruns P β n true N junk ops hs k fr S = some (k', fr', S') → k ≤ k' := by
  induction hs with
  | nil => intro k k' fr fr' S S' h; cases h; exact Nat.le_refl _
  | cons h hs ih =>
    intro k k' fr fr' S S' hr
    unfold oruns at hr
    split at hr
    · cases hr
    split at hr
    · split at hr
      · exact Nat.le_of_succ_le (ih hr)
      · cases hr
    · exact Nat.le_of_succ_le (ih hr)
theorem drop_take_cons {o : Oper} {k k' : Nat} (h : ops.toList[k]? = some o) (hk : k < k') : (ops.toList.take k').drop k = o :: (ops.toList.take k').drop (k + 1) := by
  have h1 : (ops.toList.take k')[k]? = some o := by
    rw [List.getElem?_take, if_pos hk]; exact h
  have h2 := len_of_some h1
  rw [List.drop_eq_getElem_cons h2]
  congr 1
  rw [List.getElem?_eq_getElem h2] at h1
  exact Option.some.inj h1
theorem oruns_still {Q : Act → Prop} : ∀ {hs : List OH} {k k' : Nat} {fr fr' : Fr} {S S' : SS}, oruns P β n true N junk ops hs k fr S = some (k', fr', S') → (∀ p, p ∈ S'.obl → p) → S.used = true → Sat β S.hps w →
    Q (mkA N fr' junk) → wpStill P ops w Q ((ops.toList.take k').drop k) (mkA N fr junk)
  | [], k, k', fr, fr', S, S', h, ho, hu, hS, hK => by cases h; rw [List.drop_of_length_le (by simp; omega)]; exact hK
  | h :: hs, k, k', fr, fr', S, S', hr, ho, hu, hS, hK => by
    unfold oruns at hr
    split at hr
    · cases hr
    rename_i o hget
    have hk : k < k' := by
      split at hr
      · split at hr
        · exact oruns_ge hr
        · cases hr
      · exact oruns_ge hr
    rw [drop_take_cons hget hk]
    unfold wpStill
    have hw : Region.wanted o (yielded ops (mkA N fr junk).tmps) = Region.wanted o (yF ops N fr junk) := by
      have : yielded ops (mkA N fr junk).tmps = yF ops N fr junk := funext (yF_eq ops N fr junk)
      rw [this]
    rw [hw]
    split at hr
    · rename_i hwt
      rw [if_pos hwt]
      split at hr
      · rename_i v S1 h0
        obtain ⟨e1, e2⟩ := orun_ro h0
        obtain ⟨w', h1, h2, h3, h4⟩ := orun_sound h0 (fun p hp => ho p (oruns_obl hr p hp)) hS (fun e => by rw [hu] at e; cases e)
        obtain ⟨ew, e⟩ := h4 rfl
        rw [ew] at h1 h2
        unfold Oper.still
        rw [mkA_eval]
        rcases h1 with h1 | ⟨h1, h1'⟩
        · rw [h1, Oper.stillUpon_value, mkA_put]
          exact oruns_still hr ho (e2.trans hu) h2 hK
        · subst h1
          rw [h1', Oper.stillUpon_skip, mkA_put]
          exact oruns_still hr ho (e2.trans hu) h2 hK
      · cases hr
    · rename_i hwf
      rw [if_neg (by simp [hwf])]
      rw [mkA_put]
      exact oruns_still hr ho hu hS hK
end still
theorem Tri.regionTail {P : Program} {β : Bs} {N : Nat} {ops : Array Oper} {fr fr' : Fr} {hps : List HP} {Q : Post} {obl : List Prop} {id : Nat} (n : Nat) (hm : P.follows .mixedOrders = true) (hB : Region.lexTailB .any ops n = true)
    (hs : List OH) (idx : List Nat) (h : ∀ m junk, segrun P β m true N junk ops hs 0 fr hps idx (List.range hps.length) = some (n, fr', hps, obl)) (ho : AllP obl) (K : TriL P β N ops n fr' hps Q) : Tri P β N (.region id ops true) fr hps Q := by
  intro junk w hS
  obtain ⟨ops⟩ := ops
  obtain ⟨fr1, S, h1, h2, h3, h4, h5⟩ := seg_spec (h 0 junk)
  refine wp_region_still_tail n hm hB ?_
  have hk := K (lk fr1 junk) (w.drewN 1) (hS.drewN 1)
  rw [h4, ← mkA_pick] at hk
  have := oruns_still (w := w.drewN 1) (Q := fun a' => wpList P ⟨ops⟩ Q (ops.drop n) a' (w.drewN 1)) h1 (fun p hp => ho.mem (h5 ▸ hp)) rfl (hS.drewN 1) hk
  exact this
theorem Spec.quiet {P : Program} {β : Bs} {f : FuncId} {args : Array Value} {v : Value} (h : ∀ w, Calls P f args w fun e w' => e = .returned v ∧ w' = w) : Spec P β f args [] (fun v' l => v' = v ∧ l = []) :=
  fun _ w hS => (h w).mono fun _ _ ⟨h1, h2⟩ => ⟨v, [], h1, ⟨rfl, rfl⟩, h2 ▸ hS⟩
/-! ### a drawn region's head, operation by operation -/
def TriLS (P : Program) (β : Bs) (N : Nat) (ops : Array Oper) (n k : Nat) (fr : Fr) (hps : List HP) (Q : Post) : Prop :=
  ∀ junk w, Sat β hps w → wpStill P ops w (fun a' => wpList P ops Q (ops.toList.drop n) a' w) ((ops.toList.take n).drop k) (mkA N fr junk)
section heads
variable {P : Program} {β : Bs} {N : Nat} {ops : Array Oper} {n k k' : Nat} {fr fr' : Fr} {hps : List HP} {Q : Post} {obl : List Prop} {d : Option Tmp} {op : Op} {v : Value} {i : Nat}
theorem oruns_still' {junk : Nat → Value} {w : World} {m : Nat} {Q : Act → Prop} : ∀ {hs : List OH} {k k' : Nat} {fr fr' : Fr} {S S' : SS}, oruns P β m true N junk ops hs k fr S = some (k', fr', S') → (∀ p, p ∈ S'.obl → p) → S.used = true → Sat β S.hps w → k' ≤ n →
    wpStill P ops w Q ((ops.toList.take n).drop k') (mkA N fr' junk) → wpStill P ops w Q ((ops.toList.take n).drop k) (mkA N fr junk)
  | [], k, k', fr, fr', S, S', h, ho, hu, hS, hn, hK => by cases h; exact hK
  | h :: hs, k, k', fr, fr', S, S', hr, ho, hu, hS, hn, hK => by
    unfold oruns at hr
    split at hr
    · cases hr
    rename_i o hget
    have hk : k < n := by
      refine Nat.lt_of_lt_of_le ?_ hn
      split at hr
      · split at hr
        · exact oruns_ge hr
        · cases hr
      · exact oruns_ge hr
    rw [drop_take_cons hget hk]
    unfold wpStill
    have hw : Region.wanted o (yielded ops (mkA N fr junk).tmps) = Region.wanted o (yF ops N fr junk) := by
      have : yielded ops (mkA N fr junk).tmps = yF ops N fr junk := funext (yF_eq ops N fr junk)
      rw [this]
    rw [hw]
    split at hr
    · rename_i hwt
      rw [if_pos hwt]
      split at hr
      · rename_i v S1 h0
        obtain ⟨e1, e2⟩ := orun_ro h0
        obtain ⟨w', h1, h2, h3, h4⟩ := orun_sound h0 (fun p hp => ho p (oruns_obl hr p hp)) hS (fun e => by rw [hu] at e; cases e)
        obtain ⟨ew, e⟩ := h4 rfl
        rw [ew] at h1 h2
        unfold Oper.still
        rw [mkA_eval]
        rcases h1 with h1 | ⟨h1, h1'⟩
        · rw [h1, Oper.stillUpon_value, mkA_put]
          exact oruns_still' hr ho (e2.trans hu) h2 hn hK
        · subst h1
          rw [h1', Oper.stillUpon_skip, mkA_put]
          exact oruns_still' hr ho (e2.trans hu) h2 hn hK
      · cases hr
    · rename_i hwf
      rw [if_neg (by simp [hwf])]
      rw [mkA_put]
      exact oruns_still' hr ho hu hS hn hK
theorem Tri.regionStill {id : Nat} (n : Nat) (hm : P.follows .mixedOrders = true) (hB : Region.lexTailB .any ops n = true) (h : TriLS P β N ops n 0 fr hps Q) : Tri P β N (.region id ops true) fr hps Q := by
  intro junk w hS
  obtain ⟨ops⟩ := ops
  refine wp_region_still_tail n hm hB ?_
  exact h junk (w.drewN 1) (hS.drewN 1)
theorem TriLS.seg (hs : List OH) (idx : List Nat) (h : ∀ m junk, segrun P β m true N junk ops hs k fr hps idx (List.range hps.length) = some (k', fr', hps, obl)) (ho : AllP obl) (hk : k' ≤ n) (K : TriLS P β N ops n k' fr' hps Q) : TriLS P β N ops n k fr hps Q := by
  intro junk w hS
  obtain ⟨fr1, S, h1, h2, h3, h4, h5⟩ := seg_spec (h 0 junk)
  have hK := K (lk fr1 junk) w hS
  rw [h4, ← mkA_pick] at hK
  exact oruns_still' h1 (fun p hp => ho.mem (h5 ▸ hp)) rfl hS hk hK
theorem TriLS.done (hk : k = n) (K : TriL P β N ops n fr hps Q) : TriLS P β N ops n k fr hps Q := by
  intro junk w hS
  subst hk
  have e : (ops.toList.take k).drop k = [] := List.drop_of_length_le (by rw [List.length_take]; exact Nat.min_le_left _ _)
  rw [e]
  exact K junk w hS
theorem TriLS.run1 (hop : ∀ junk, opAt N junk ops fr k = some (op, d)) (hk : k < n) (h : ∀ (o : Oper) junk w, o.op = op → Sat β hps w → Ran P (evF N fr junk) o w v w) (K : TriLS P β N ops n (k + 1) (putF fr d v) hps Q) : TriLS P β N ops n k fr hps Q := by
  intro junk w hS
  obtain ⟨o, h1, h2, h3, rfl⟩ := opAt_spec (hop junk)
  rw [drop_take_cons h1 hk]
  unfold wpStill
  rw [wanted_mkA, if_pos h2]
  unfold Oper.still
  rw [mkA_eval]
  have hK := K junk w hS
  rw [← mkA_put] at hK
  rcases h o junk w h3 hS with h4 | ⟨h4, h4'⟩
  · rw [h4, Oper.stillUpon_value]; exact hK
  · subst h4
    rw [h4', Oper.stillUpon_skip]; exact hK
theorem TriLS.slot (i : Nat) (v v' : Value) (h : ∀ junk, lk fr junk i = v) (hv : v = v') (K : TriLS P β N ops n k ((i, v') :: fr) hps Q) : TriLS P β N ops n k fr hps Q := fun junk w hS => by
  have := K junk w hS
  rwa [mkA_same ((h junk).trans hv)] at this
theorem TriLS.slotB (i : Nat) (b : Bool) (h : ∀ junk, lk fr junk i = .bool b) (ht : b = true → TriLS P β N ops n k ((i, .bool true) :: fr) hps Q) (hf : b = false → TriLS P β N ops n k ((i, .bool false) :: fr) hps Q) : TriLS P β N ops n k fr hps Q := by
  cases b with
  | true => exact TriLS.slot i _ _ h rfl (ht rfl)
  | false => exact TriLS.slot i _ _ h rfl (hf rfl)
theorem TriLS.slotP (i : Nat) (p : Prop) [Decidable p] (h : ∀ junk, lk fr junk i = .bool (decide p)) (ht : p → TriLS P β N ops n k ((i, .bool true) :: fr) hps Q) (hf : ¬ p → TriLS P β N ops n k ((i, .bool false) :: fr) hps Q) : TriLS P β N ops n k fr hps Q :=
  TriLS.slotB i _ h (fun e => ht (of_decide_eq_true e)) (fun e => hf (of_decide_eq_false e))
theorem TriLS.slotN (i : Nat) (p : Prop) [Decidable p] (h : ∀ junk, lk fr junk i = .bool (!decide p)) (ht : ¬ p → TriLS P β N ops n k ((i, .bool true) :: fr) hps Q) (hf : p → TriLS P β N ops n k ((i, .bool false) :: fr) hps Q) : TriLS P β N ops n k fr hps Q :=
  TriLS.slotB i _ h (fun e => ht (not_dec_true e)) (fun e => hf (not_dec_false e))
section maps
open Go.Maps
variable {t K E : TypeId} {b cnt : Nat} {f : Lit → Option Value} {x ix : Operand} {key z : Value} {kl : Lit} {r : Option Value}
theorem TriLS.mapLookOk (i : Nat) (hop : ∀ junk, opAt N junk ops fr k = some (.lookup t x ix true, d)) (hp : hps[i]? = some (.abs (MapA P K b f cnt))) (hx : ∀ junk, evF N fr junk x = .map (some b)) (hix : ∀ junk, evF N fr junk ix = key) (L : Keyed P K)
    (ht : P.underlying t = some (.map K E)) (hz : ∀ w, (zeroValue E).run P w = .ok z w) (hkey : keyOf P K key = some kl) (hr : f kl = r) (hk : k < n) (K' : TriLS P β N ops n (k + 1) (putF fr d (.tuple #[r.getD z, .bool r.isSome])) hps Q) : TriLS P β N ops n k fr hps Q := by
  subst hr
  exact TriLS.run1 hop hk (fun o junk w ho hS => ran_lookOk ho (MapA.get hS hp) (hx junk) (hix junk) L ht (hz w) hkey) K'
theorem TriLS.mapLook (i : Nat) (hop : ∀ junk, opAt N junk ops fr k = some (.lookup t x ix false, d)) (hp : hps[i]? = some (.abs (MapA P K b f cnt))) (hx : ∀ junk, evF N fr junk x = .map (some b)) (hix : ∀ junk, evF N fr junk ix = key) (L : Keyed P K)
    (ht : P.underlying t = some (.map K E)) (hz : ∀ w, (zeroValue E).run P w = .ok z w) (hkey : keyOf P K key = some kl) (hr : f kl = r) (hk : k < n) (K' : TriLS P β N ops n (k + 1) (putF fr d (r.getD z)) hps Q) : TriLS P β N ops n k fr hps Q := by
  subst hr
  exact TriLS.run1 hop hk (fun o junk w ho hS => ran_look ho (MapA.get hS hp) (hx junk) (hix junk) L ht (hz w) hkey) K'
theorem TriLS.mapLen (i : Nat) {ats : Array TypeId} (hop : ∀ junk, opAt N junk ops fr k = some (.call ⟨.builtin .len, #[x], ats⟩, d)) (hp : hps[i]? = some (.abs (MapA P K b f cnt))) (hx : ∀ junk, evF N fr junk x = .map (some b)) (hats : ats = #[t]) (ht : P.underlying t = some (.map K E))
    (hk : k < n) (K' : TriLS P β N ops n (k + 1) (putF fr d (.int .i64 ((cnt : Nat) : Int))) hps Q) : TriLS P β N ops n k fr hps Q :=
  TriLS.run1 hop hk (fun _ junk _ ho hS => ran_len ho hats (MapA.get hS hp) (hx junk) ht) K'
end maps
end heads
end Go.Proofs.Ytjpdcppdoonmdaa
end
