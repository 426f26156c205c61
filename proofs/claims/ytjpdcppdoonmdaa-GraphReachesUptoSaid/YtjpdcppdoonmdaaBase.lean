/-
  PROVED HERE: general lemmas used by all texts of this seat: the row's last step over 'Below', a frame over a set of blocks ('Keeps'), maps read as functions ('MapIs').
  CONDITIONS: none. No statement of the seat is proved here.
-/
import Derived.Test.YtjpdcppdoonmdaaProg
import Derived.WalkKit
import Derived.ChangeSame
import Derived.Lib.Hide
import Derived.Maps.OwnSet
import Derived.Maps.OwnOps
import Derived.Deep.Draws
import Derived.WalkSmall
namespace Go.Proofs.Ytjpdcppdoonmdaa
open Go.RowKit Go.WideShapes Go.ChangeShapes

section post
variable {H : Type} {enc : TypeId × Value → H} {P : Program}
theorem post_of_below {f : Func} {s : ChangeSpec} {apart fresh handsOn again : Bool} {W W' : World} {args : Array Value} {v : Value} {ds gs : List (DataW H)} {before pa pv : List MemPlace}
    (hW : DataW.Whole enc P f.params.toList s.vars apart W args.toList ds gs before)
    (hres : ∀ (b : Nat) (sp : Nat → Bool) (hd : Bool), DataW.TrodAll enc P W' b sp hd f.resultTypes.toList (v.resultList f.resultTypes.size) (s.fn H (ds ++ gs)).results [])
    (hargs : ∀ sp : Nat → Bool, (∀ p ∈ before, sp p.block = true) → DataW.TrodAll enc P W' 0 sp true f.params.toList args.toList (s.fn H (ds ++ gs)).args pa)
    (hvars : ∀ sp : Nat → Bool, (∀ p ∈ before, sp p.block = true) → DataW.TrodVars enc P W' sp s.vars (s.fn H (ds ++ gs)).vars pv)
    (hps : before = pa ++ pv) (hb : Below W.heap.size W W')
    (hok : ∀ (j : Nat) (t : TypeId) (r : Value), f.resultTypes[j]? = some t → (v.resultList f.resultTypes.size)[j]? = some r → Value.okWide P W' .any 0 t r) :
    s.post enc P f apart fresh handsOn again W args v W' := by
  have hlt : ∀ p ∈ before, p.block < W.heap.size := fun p hp => hW.lt p hp
  have hold : ∀ p ∈ before, (fun b => decide (b < W.heap.size)) p.block = true := fun p hp => by simpa using hlt p hp
  refine ⟨ds, gs, before, [], pa, pv, hW, hres _ _ _, hargs _ hold, hvars _ hold, World.keptBut_mono (fun p hp => ⟨hp, ?_⟩) (hb.frame (· ∈ before)), fun _ => ?_⟩
  · rw [hps, List.mem_append] at hp
    exact Or.inr hp
  · obtain ⟨_, _, _, _, _, hz, hn⟩ := hW
    refine ⟨hok, _, _, ([] ++ pa) ++ pv, ⟨[] ++ pa, pv, trodAll_append (hargs _ (fun _ _ => rfl)) (hres _ _ _), hvars _ (fun _ _ => rfl), rfl, ?_, ?_⟩, ?_⟩
    · intro b off hp
      have hin : MemPlace.cell b off ∈ before := by rw [hps]; simpa using hp
      rw [hb.frozen (hlt _ hin)]
      exact hz b off hin
    · intro ha
      have := hn ha
      rw [hps] at this
      simpa using this
    · intro p hp _
      rw [hps]
      simpa using hp
end post

/-! ### the frame: of the blocks that were there, only those of 'S' may have turned -/
structure Keeps (S : Nat → Prop) (w w' : World) : Prop where
  os : w'.os = w.os
  tape : w'.tape = w.tape
  output : w'.output = w.output
  size : w.heap.size ≤ w'.heap.size
  block : ∀ k, k < w.heap.size → ¬ S k → w'.heap[k]? = w.heap[k]?

section keeps
variable {S S' : Nat → Prop} {a w w' : World}
theorem Keeps.refl (S : Nat → Prop) (w : World) : Keeps S w w := ⟨rfl, rfl, rfl, Nat.le_refl _, fun _ _ _ => rfl⟩
theorem Keeps.trans (h : Keeps S a w) (k : Keeps S w w') : Keeps S a w' :=
  ⟨k.os.trans h.os, k.tape.trans h.tape, k.output.trans h.output, Nat.le_trans h.size k.size, fun i hi hn => (k.block i (Nat.lt_of_lt_of_le hi h.size) hn).trans (h.block i hi hn)⟩
theorem Keeps.mono (h : Keeps S a w) (hs : ∀ k, k < a.heap.size → S k → S' k) : Keeps S' a w :=
  ⟨h.os, h.tape, h.output, h.size, fun i hi hn => h.block i hi (fun hk => hn (hs i hi hk))⟩
/-- two steps; the second may turn what was new behind the first -/
theorem Keeps.andThen (h : Keeps S a w) (k : Keeps S' w w') (hs : ∀ i, i < a.heap.size → S' i → S i) : Keeps S a w' :=
  ⟨k.os.trans h.os, k.tape.trans h.tape, k.output.trans h.output, Nat.le_trans h.size k.size, fun i hi hn => (k.block i (Nat.lt_of_lt_of_le hi h.size) (fun hk => hn (hs i hi hk))).trans (h.block i hi hn)⟩
theorem Keeps.drewN (h : Keeps S a w) (n : Nat) : Keeps S a (w.drewN n) := ⟨h.os, h.tape, h.output, h.size, h.block⟩
theorem Keeps.drew (h : Keeps S a w) : Keeps S a w.drew := ⟨h.os, h.tape, h.output, h.size, h.block⟩
theorem Keeps.alloc (h : Keeps S a w) (o : Obj) : Keeps S a (w.alloc o) :=
  ⟨h.os, h.tape, h.output, Nat.le_trans h.size (by simp), fun i hi hn => (Below.heap_alloc w o i (Nat.lt_of_lt_of_le hi h.size)).trans (h.block i hi hn)⟩
theorem Keeps.setCell (h : Keeps S a w) {p : Addr} (hp : a.heap.size ≤ p.block ∨ S p.block) (u : Value) : Keeps S a (w.setCell p u) :=
  ⟨h.os, h.tape, h.output, by simpa [World.setCell] using h.size, fun i hi hn => (Below.heap_setCell w p u i (by
    rintro rfl
    rcases hp with hp | hp
    · omega
    · exact hn hp)).trans (h.block i hi hn)⟩
theorem Keeps.grown {row : Option Nat} (h : Keeps S a w) (hg : w.grownBy w' row) (hr : ∀ k, row = some k → a.heap.size ≤ k ∨ S k) : Keeps S a w' :=
  ⟨hg.os.trans h.os, hg.tape.trans h.tape, hg.output.trans h.output, Nat.le_trans h.size hg.size, fun i hi hn =>
    (hg.block i (Nat.lt_of_lt_of_le hi h.size) (fun e => by
      rcases hr i e.symm with h1 | h1
      · omega
      · exact hn h1)).trans (h.block i hi hn)⟩
theorem Keeps.below {B : Nat} (h : Keeps S w w') (hB : ∀ k, S k → B ≤ k) (hz : B ≤ w.heap.size) : Below B w w' :=
  ⟨h.os, h.tape, h.output, h.size, fun k hk => h.block k (by omega) (fun hs => by have := hB k hs; omega)⟩
theorem Keeps.of_below {B : Nat} (h : Below B w w') (hs : ∀ k, k < w.heap.size → B ≤ k → S k) : Keeps S w w' :=
  ⟨h.os, h.tape, h.output, h.size, fun k hk hn => h.block k (by rcases Nat.lt_or_ge k B with hl | hl; exact hl; exact absurd (hs k hk hl) hn)⟩
theorem Keeps.cell (h : Keeps S w w') {p : Addr} (hp : p.block < w.heap.size) (hn : ¬ S p.block) : w'.cell? p = w.cell? p := World.cell?_of_block (w := w) (h.block p.block hp hn)
theorem Keeps.frozen (h : Keeps S w w') {p : Addr} (hp : p.block < w.heap.size) (hn : ¬ S p.block) : w'.frozen? p = w.frozen? p := World.frozen?_of_block (w := w) (h.block p.block hp hn)
theorem Keeps.ownsRow (h : Keeps S w w') {base : Nat} {e : TypeId} {size : Nat} {v : Value} {n : Nat} {xs : List Value} (ho : w.ownsRow base e size v n xs) (hn : ∀ k, v.ownBlock = some k → ¬ S k) : w'.ownsRow base e size v n xs := by
  have hl := ho.lt
  obtain ⟨h1, h2⟩ := ho
  refine ⟨h1, ?_⟩
  rcases h2 with h2 | ⟨g, cap, cur, hv, hg, hh, r⟩
  · exact Or.inl h2
  · have e : v.ownBlock = some g := by rw [hv]; rfl
    exact Or.inr ⟨g, cap, cur, hv, hg, (h.block g (hl g e).2 (hn g e)).trans hh, r⟩
theorem Keeps.ownsMap {H : Type} (h : Keeps S w w') {P : Program} {k : TypeId} {R : Value → Option (DataW H × List MemPlace)} {b n : Nat} {D : DataW H} (ho : w.ownsMap P k R b n D) (hn : ¬ S b) : w'.ownsMap P k R b n D := by
  have hlt := ho.lt
  obtain ⟨es, clock, hb, r⟩ := ho
  exact ⟨es, clock, (h.block b hlt hn).trans hb, r⟩
end keeps

/-! ### a map as a function -/
def heldR (v : Value) : Option (DataW Value × List MemPlace) := some (.held v, [])

/-- block b is a map of n entries that holds at each key what f says -/
def MapIs (P : Program) (K : TypeId) (w : World) (b : Nat) (f : Lit → Option Value) (n : Nat) : Prop :=
  ∃ D : DataW Value, w.ownsMap P K heldR b n D ∧ Maps.size D = n ∧ (∀ kl, Maps.has D kl = (f kl).isSome) ∧ ∀ kl v, f kl = some v → ∀ z, D.atKey kl z = .held v

def upd (f : Lit → Option Value) (kl : Lit) (v : Option Value) : Lit → Option Value := fun x => if x.sameKey kl then v else f x

section maps
open Go.Maps
variable {P : Program} {K E t : TypeId} {w w' : World} {b n : Nat} {f : Lit → Option Value}
theorem MapIs.made (w : World) (P : Program) (K : TypeId) : MapIs P K (w.alloc (.map #[] 0)) w.heap.size (fun _ => none) 0 :=
  ⟨.map [], World.ownsMap_made _ _ _ _, rfl, fun _ => rfl, fun _ _ h => by cases h⟩
theorem MapIs.lt (h : MapIs P K w b f n) : b < w.heap.size := let ⟨_, h1, _⟩ := h; h1.lt
theorem MapIs.keeps {S : Nat → Prop} (h : MapIs P K w b f n) (k : Keeps S w w') (hn : ¬ S b) : MapIs P K w' b f n := by
  obtain ⟨D, h1, h2⟩ := h
  exact ⟨D, k.ownsMap h1 hn, h2⟩
theorem MapIs.drewN (h : MapIs P K w b f n) (m : Nat) : MapIs P K (w.drewN m) b f n := h.keeps (S := fun _ => False) ((Keeps.refl _ _).drewN m) (fun h => h)
theorem MapIs.block (h : MapIs P K w b f n) : ∃ es clock, w.heap[b]? = some (.map es clock) := by
  obtain ⟨D, ⟨es, clock, hb, _⟩, _⟩ := h
  exact ⟨es, clock, hb⟩
theorem MapIs.not_cells (h : MapIs P K w b f n) {c : Array Value} {e : TypeId} {fz : Nat × Nat} {g : Nat} (hg : w.heap[g]? = some (.cells c e fz)) : b ≠ g := by
  obtain ⟨es, clock, hb⟩ := h.block
  rintro rfl
  rw [hb] at hg
  cases hg
theorem MapIs.len (h : MapIs P K w b f n) (ht : P.underlying t = some (.map K E)) (ty : TypeId) : (Builtin.len_ #[t] ty #[.map (some b)]).run P w = .ok (.int .i64 n) w := by
  obtain ⟨D, h1, h2, _⟩ := h
  rw [h1.len ht ty, h2]
theorem MapIs.look_ok (h : MapIs P K w b f n) (L : Keyed P K) (ht : P.underlying t = some (.map K E)) {z : Value} (hz : (zeroValue E).run P w = .ok z w) {key : Value} {kl : Lit} (hkey : keyOf P K key = some kl) :
    (Instr.lookup t (.map (some b)) key true).run P w = .ok (.tuple #[(f kl).getD z, .bool (f kl).isSome]) w := by
  obtain ⟨D, h1, _, h3, h4⟩ := h
  obtain ⟨v, ps, hrun, hv⟩ := h1.look_ok L ht hz (R := heldR) (zd := .held z) (zp := []) rfl hkey
  rw [hrun, h3 kl]
  simp only [heldR, Option.some.injEq, Prod.mk.injEq] at hv
  cases hf : f kl with
  | none =>
    have hn : Maps.has D kl = false := by rw [h3 kl, hf]; rfl
    rw [atKey_of_not_has hn] at hv
    have e : v = z := by simpa using hv.1
    simp [e]
  | some u =>
    rw [h4 kl u hf] at hv
    have e : v = u := by simpa using hv.1
    simp [e]
theorem MapIs.look (h : MapIs P K w b f n) (L : Keyed P K) (ht : P.underlying t = some (.map K E)) {z : Value} (hz : (zeroValue E).run P w = .ok z w) {key : Value} {kl : Lit} (hkey : keyOf P K key = some kl) :
    (Instr.lookup t (.map (some b)) key false).run P w = .ok ((f kl).getD z) w := by
  obtain ⟨D, h1, _, h3, h4⟩ := h
  obtain ⟨v, ps, hrun, hv⟩ := h1.lookup L ht hz (R := heldR) (zd := .held z) (zp := []) rfl hkey
  rw [hrun]
  simp only [heldR, Option.some.injEq, Prod.mk.injEq] at hv
  cases hf : f kl with
  | none =>
    have hn : Maps.has D kl = false := by rw [h3 kl, hf]; rfl
    rw [atKey_of_not_has hn] at hv
    have e : v = z := by simpa using hv.1
    simp [e]
  | some u =>
    rw [h4 kl u hf] at hv
    have e : v = u := by simpa using hv.1
    simp [e]
theorem keyLit_of {key : Value} {kl : Lit} (L : Keyed P K) (hkey : keyOf P K key = some kl) : WideAt.IsKeyLit kl := L.key hkey
theorem MapIs.store (h : MapIs P K w b f n) (L : Keyed P K) (ht : P.underlying t = some (.map K E)) (hn : n < maxLen) {key : Value} {kl : Lit} (hkey : keyOf P K key = some kl) (v : Value) :
    ∃ w', (Instr.mapUpdate t (.map (some b)) key v).run P w = .ok () w' ∧ MapIs P K w' b (upd f kl (some v)) (if (f kl).isSome then n else n + 1) ∧ Keeps (· = b) w w' := by
  obtain ⟨D, h1, h2, h3, h4⟩ := h
  obtain ⟨w', hrun, hown, hg⟩ := h1.update L ht hn hkey (val := v) (d := .held v) (ps := []) rfl
  have hkl := keyLit_of L hkey
  have hsz : Maps.size (D.put kl (.held v)) = if (f kl).isSome then n else n + 1 := by
    rw [size_put (h1.tidy L), h2, h3 kl]
  refine ⟨w', hrun, ⟨D.put kl (.held v), ?_, hsz, fun x => ?_, fun x u hx z => ?_⟩, (Keeps.refl _ _).grown hg (fun k hk => .inr (by cases hk; rfl))⟩
  · obtain ⟨es, clock, hb, F, hs, rD⟩ := hown
    exact ⟨es, clock, hb, F, by rw [← hsz, rD]; simp [Maps.size, length_sorted], rD⟩
  · unfold upd
    by_cases e : x = kl
    · subst e
      rw [has_put_same h1.isMap hkl]
      have : x.sameKey x = true := WideAt.sameKey_self hkl
      simp [this]
    · rw [has_put_other e, h3 x, sameKey_ne e]
      simp
  · unfold upd at hx
    by_cases e : x = kl
    · subst e
      rw [if_pos (WideAt.sameKey_self hkl)] at hx
      injection hx with hx
      rw [atKey_put_same h1.isMap hkl, hx]
    · rw [sameKey_ne e] at hx
      simp only [Bool.false_eq_true, if_false] at hx
      rw [atKey_put_other e]
      exact h4 x u hx z
theorem MapIs.drop (h : MapIs P K w b f n) (L : Keyed P K) (ht : P.underlying t = some (.map K E)) {key : Value} {kl : Lit} (hkey : keyOf P K key = some kl) (ty : TypeId) :
    ∃ w', (Builtin.delete_ #[t, K] ty #[.map (some b), key]).run P w = .ok (.tuple #[]) w' ∧ MapIs P K w' b (upd f kl none) (if (f kl).isSome then n - 1 else n) ∧ Keeps (· = b) w w' := by
  obtain ⟨D, h1, h2, h3, h4⟩ := h
  obtain ⟨w', hrun, hown, hg⟩ := h1.drop L ht hkey ty
  have hkl := keyLit_of L hkey
  have hsz : Maps.size (D.del kl) = if (f kl).isSome then n - 1 else n := by
    have := size_del (k := kl) (h1.tidy L)
    rw [h2, h3 kl] at this
    split at this <;> rename_i hc <;> simp [hc] <;> omega
  refine ⟨w', hrun, ⟨D.del kl, ?_, hsz, fun x => ?_, fun x u hx z => ?_⟩, (Keeps.refl _ _).grown hg.grown (fun k hk => .inr (by cases hk; rfl))⟩
  · obtain ⟨es, clock, hb, F, hs, rD⟩ := hown
    exact ⟨es, clock, hb, F, by rw [← hsz, rD]; simp [Maps.size, length_sorted], rD⟩
  · unfold upd
    by_cases e : x = kl
    · subst e
      rw [has_del_same]
      simp [WideAt.sameKey_self hkl]
    · rw [has_del_other e, h3 x, sameKey_ne e]
      simp
  · unfold upd at hx
    by_cases e : x = kl
    · subst e
      rw [if_pos (WideAt.sameKey_self hkl)] at hx
      cases hx
    · rw [sameKey_ne e] at hx
      simp only [Bool.false_eq_true, if_false] at hx
      rw [atKey_del_other e]
      exact h4 x u hx z
end maps
end Go.Proofs.Ytjpdcppdoonmdaa
