/-
  PROVED HERE: lemmas and contracts of functions (texts of this repo, joined): ShelfK, Base, Free, HeapMath, Up, Down, PushPop, TabMath, Tab, Sep, V, Vr, Vo, Vj, Vk, Vc, Vd, Vm, Va, Vb, Ve, Vt, Vi, Vw, Vy.
  CONDITIONS: as the theorems say.
-/
import Derived.Shelf.SlGeneric
import Derived.Shelf.SlIterI.Nil
import Derived.Shelf.SortM.Plain
import Derived.Shelf.SortM.SortNone
import Derived.Ground.GgzProg
import Derived.Ground.SlgmProg
import Derived.Test.YtejnhhpjlajngaaProg
import Derived.WalkKit
import Derived.ChangeSame
import Derived.Lib.Hide
import Derived.Maps.OwnSet
import Derived.Maps.OwnOps
import Derived.Deep.Draws
import Derived.WalkSmall
import Derived.RegionTactic
import Derived.Deep.QuietTactic
import Derived.BigQuiet
import Derived.BigRegion
import Derived.StillTailTactics
import Derived.WalkSpells
import Derived.Outline
import Derived.Deep.AppendLies
import Derived.Deep.RegionLaw
import Derived.LoopTactic
import Derived.Deep.Quiet
import Derived.Deep.LoopGhost
import Derived.KernelRfl
import Derived.Laws.StructEq
import Derived.Maps.AppendAt
import Derived.Deep.Upon
import Derived.StillTail
import Derived.Maps.RangeWalk
import Derived.Laws.RangeAny
import Derived.Laws.OwnMore
import Derived.Lib.Bytealg
/- part ShelfK. DERIVED: THE SHELF's CONTRACTS AT THIS DUMP, IN PLAIN WORDS (tools/lay-plain.mjs out of 'TryShelfK.lean', which tools/lay-shelf.mjs wrote): THE SAME DECLARATIONS UNDER THE SAME NAMES: 'import', 'namespace', 'open', 'def', 'theorem' AND NOTHING ELSE: no command of the shelf's: FOR A HAND-IN. Each laying: the table of numbers ('.._ren') and one theorem, a field a fact of the dump's own or the kernel's comparison; each contract: ONE APPLICATION. -/
section
namespace Go.Proofs
open Go.Shelf
def Try.keysI_ren : Go.Shelf.Ren := ⟨fun | 7 => 34 | 10 => 39 | n => n, fun | 23 => 69 | 26 => 3 | 3 => 3 | 28 => 74 | 0 => 0 | 27 => 73 | 33 => 54 | 4 => 4 | n => n, fun | n => n⟩
theorem Try.keysI : Go.Proofs.SlLaysZI.n7 Try.prog Try.keysI_ren := {
  mixed := by kernel_rfl
  f7 := ⟨Try.f34.name, by decide, Try.func34.trans (congrArg some (by kernel_rfl))⟩
  f10 := ⟨Try.f39.name, by decide, Try.func39.trans (congrArg some (by kernel_rfl))⟩
  t0 := Try.underlying0
  a0 := Try.isAgg0
  z0 := Try.sizeOf0
  v0 := Try.zeroValue0
  t4 := Try.underlying4
  a4 := Try.isAgg4
  z4 := Try.sizeOf4
  v4 := Try.zeroValue4
  t23 := Try.underlying69
  a23 := Try.isAgg69
  z23 := Try.sizeOf69
  v23 := Try.zeroValue69
  t26 := Try.underlying3
  a26 := Try.isAgg3
  z26 := Try.sizeOf3
  v26 := Try.zeroValue3
  t27 := Try.underlying73
  a27 := Try.isAgg73
  z27 := Try.sizeOf73
  v27 := Try.zeroValue73
  t28 := Try.underlying74
  a28 := Try.isAgg74
  z28 := Try.sizeOf74
  v28 := Try.zeroValue74
  t33 := Try.underlying54
  a33 := Try.isAgg54
  z33 := Try.sizeOf54
  v33 := Try.zeroValue54 }
def Try.sortedI_ren : Go.Shelf.Ren := ⟨fun | 6 => 33 | 8 => 37 | 9 => 38 | 11 => 40 | 13 => 42 | 12 => 41 | 23 => 52 | 24 => 53 | 14 => 43 | 15 => 44 | 16 => 45 | 17 => 46 | 18 => 47 | 19 => 48 | 20 => 49 | 21 => 50 | 22 => 51 | 25 => 54 | 26 => 55 | 27 => 56 | 28 => 57 | 29 => 58 | 30 => 59 | 31 => 60 | n => n, fun | 26 => 3 | 28 => 74 | 24 => 30 | 0 => 0 | 3 => 3 | 37 => 89 | 48 => 98 | 50 => 100 | 4 => 4 | 40 => 92 | 39 => 91 | 45 => 64 | 5 => 5 | 9 => 9 | 51 => 101 | 55 => 105 | 57 => 107 | 58 => 108 | 33 => 54 | n => n, fun | n => n⟩
theorem Try.sortedI : Go.Proofs.SlLaysZI.n6 Try.prog Try.sortedI_ren := {
  mixed := by kernel_rfl
  f6 := ⟨Try.f33.name, by decide, Try.func33.trans (congrArg some (by kernel_rfl))⟩
  f8 := ⟨Try.f37.name, by decide, Try.func37.trans (congrArg some (by kernel_rfl))⟩
  f11 := ⟨Try.f40.name, by decide, Try.func40.trans (congrArg some (by kernel_rfl))⟩
  t0 := Try.underlying0
  a0 := Try.isAgg0
  z0 := Try.sizeOf0
  v0 := Try.zeroValue0
  t24 := Try.underlying30
  a24 := Try.isAgg30
  z24 := Try.sizeOf30
  v24 := Try.zeroValue30
  t26 := Try.underlying3
  a26 := Try.isAgg3
  z26 := Try.sizeOf3
  v26 := Try.zeroValue3
  t28 := Try.underlying74
  a28 := Try.isAgg74
  z28 := Try.sizeOf74
  v28 := Try.zeroValue74
  i26 := by kernel_rfl }
def Try.sortI_ren : Go.Shelf.Ren := ⟨fun | 5 => 38 | 8 => 42 | 7 => 41 | 19 => 52 | 20 => 53 | 10 => 43 | 11 => 44 | 12 => 45 | 13 => 46 | 14 => 47 | 15 => 48 | 16 => 49 | 17 => 50 | 18 => 51 | 30 => 54 | 31 => 55 | 32 => 56 | 33 => 57 | 34 => 58 | 35 => 59 | 40 => 60 | n => n, fun | 23 => 30 | 25 => 3 | 3 => 3 | 32 => 89 | 22 => 30 | 0 => 0 | 44 => 98 | 46 => 100 | 4 => 4 | 36 => 92 | 35 => 91 | 41 => 64 | 5 => 5 | 9 => 9 | 53 => 101 | 57 => 105 | 63 => 107 | 64 => 108 | n => n, fun | n => n⟩
theorem Try.sortI : Go.Proofs.SlLaysM.n5 Try.prog Try.sortI_ren := {
  mixed := by kernel_rfl
  f5 := ⟨Try.f38.name, by decide, Try.func38.trans (congrArg some (by kernel_rfl))⟩
  f7 := ⟨Try.f41.name, by decide, Try.func41.trans (congrArg some (by kernel_rfl))⟩
  f8 := Try.func42.trans (congrArg some (by kernel_rfl))
  f10 := ⟨Try.f43.name, by decide, Try.func43.trans (congrArg some (by kernel_rfl))⟩
  f11 := ⟨Try.f44.name, by decide, Try.func44.trans (congrArg some (by kernel_rfl))⟩
  f12 := ⟨Try.f45.name, by decide, Try.func45.trans (congrArg some (by kernel_rfl))⟩
  f13 := ⟨Try.f46.name, by decide, Try.func46.trans (congrArg some (by kernel_rfl))⟩
  f14 := ⟨Try.f47.name, by decide, Try.func47.trans (congrArg some (by kernel_rfl))⟩
  f15 := ⟨Try.f48.name, by decide, Try.func48.trans (congrArg some (by kernel_rfl))⟩
  f16 := ⟨Try.f49.name, by decide, Try.func49.trans (congrArg some (by kernel_rfl))⟩
  f17 := ⟨Try.f50.name, by decide, Try.func50.trans (congrArg some (by kernel_rfl))⟩
  f18 := ⟨Try.f51.name, by decide, Try.func51.trans (congrArg some (by kernel_rfl))⟩
  f19 := Try.func52.trans (congrArg some (by kernel_rfl))
  f20 := Try.func53.trans (congrArg some (by kernel_rfl))
  f30 := ⟨Try.f54.name, by decide, Try.func54.trans (congrArg some (by kernel_rfl))⟩
  f31 := Try.func55.trans (congrArg some (by kernel_rfl))
  f32 := Try.func56.trans (congrArg some (by kernel_rfl))
  f33 := ⟨Try.f57.name, by decide, Try.func57.trans (congrArg some (by kernel_rfl))⟩
  f34 := ⟨Try.f58.name, by decide, Try.func58.trans (congrArg some (by kernel_rfl))⟩
  f35 := ⟨Try.f59.name, by decide, Try.func59.trans (congrArg some (by kernel_rfl))⟩
  f40 := ⟨Try.f60.name, by decide, Try.func60.trans (congrArg some (by kernel_rfl))⟩
  t0 := Try.underlying0
  a0 := Try.isAgg0
  z0 := Try.sizeOf0
  v0 := Try.zeroValue0
  t3 := Try.underlying3
  a3 := Try.isAgg3
  z3 := Try.sizeOf3
  v3 := Try.zeroValue3
  t4 := Try.underlying4
  a4 := Try.isAgg4
  z4 := Try.sizeOf4
  v4 := Try.zeroValue4
  t5 := Try.underlying5
  a5 := Try.isAgg5
  z5 := Try.sizeOf5
  v5 := Try.zeroValue5
  t9 := Try.underlying9
  a9 := Try.isAgg9
  z9 := Try.sizeOf9
  v9 := Try.zeroValue9
  t22 := Try.underlying30
  a22 := Try.isAgg30
  z22 := Try.sizeOf30
  v22 := Try.zeroValue30
  t23 := Try.underlying30
  a23 := Try.isAgg30
  z23 := Try.sizeOf30
  v23 := Try.zeroValue30
  t25 := Try.underlying3
  a25 := Try.isAgg3
  z25 := Try.sizeOf3
  v25 := Try.zeroValue3
  t32 := Try.underlying89
  a32 := Try.isAgg89
  z32 := Try.sizeOf89
  v32 := Try.zeroValue89
  t35 := Try.underlying91
  a35 := Try.isAgg91
  z35 := Try.sizeOf91
  v35 := Try.zeroValue91
  t36 := Try.underlying92
  a36 := Try.isAgg92
  z36 := Try.sizeOf92
  v36 := Try.zeroValue92
  t41 := Try.underlying64
  a41 := Try.isAgg64
  z41 := Try.sizeOf64
  v41 := Try.zeroValue64
  t44 := Try.underlying98
  a44 := Try.isAgg98
  z44 := Try.sizeOf98
  v44 := Try.zeroValue98
  t46 := Try.underlying100
  a46 := Try.isAgg100
  z46 := Try.sizeOf100
  v46 := Try.zeroValue100
  t53 := Try.underlying101
  a53 := Try.isAgg101
  z53 := Try.sizeOf101
  v53 := Try.zeroValue101
  t57 := Try.underlying105
  a57 := Try.isAgg105
  z57 := Try.sizeOf105
  v57 := Try.zeroValue105
  t63 := Try.underlying107
  a63 := Try.isAgg107
  z63 := Try.sizeOf107
  v63 := Try.zeroValue107
  t64 := Try.underlying108
  a64 := Try.isAgg108
  z64 := Try.sizeOf108
  v64 := Try.zeroValue108 }
end Go.Proofs
end
/- part Base. PROVED HERE: general lemmas used by all texts of this seat: the row's last step over 'Below', a frame over a set of blocks ('Keeps'), maps read as functions ('MapIs'). CONDITIONS: none. No statement of the seat is proved here. -/
section
namespace Go.Proofs.Ytejnhhpjlajngaa
open Go.RowKit Go.WideShapes Go.ChangeShapes

section post
variable {H : Type} {enc : TypeId × Value → H} {P : Program}
theorem post_of_below {f : Func} {s : ChangeSpec} {apart fresh handsOn again : Bool} {W W' : World} {args : Array Value} {v : Value} {ds gs : List (DataW H)} {before pa pv : List MemPlace}
    (hW : DataW.Whole enc P f.params.toList s.vars apart W args.toList ds gs before)
    (hres : ∀ (b : Nat) (sp : Nat → Bool) (hd : Bool), DataW.TrodAll enc P W' b sp hd f.resultTypes.toList (v.resultList f.resultTypes.size) (s.fn H (ds ++ gs)).results [])
    (hargs : ∀ sp : Nat → Bool, (∀ p ∈ before, sp p.block = true) → DataW.TrodAll enc P W' 0 sp true f.params.toList args.toList (s.fn H (ds ++ gs)).args pa)
    (hvars : ∀ sp : Nat → Bool, (∀ p ∈ before, sp p.block = true) → DataW.TrodVars enc P W' sp s.vars (s.fn H (ds ++ gs)).vars pv)
    (hps : before = pa ++ pv) (hb : Below W.heap.size W W')
    (hok : ∀ (j : Nat) (t : TypeId) (r : Value), f.resultTypes[j]? = some t → (v.resultList f.resultTypes.size)[j]? = some r → Value.okWide P W' .any 0 t r) :
    s.post enc P f apart fresh handsOn again W args v W' := by
  have hlt : ∀ p ∈ before, p.block < W.heap.size := fun p hp => hW.lt p hp
  have hold : ∀ p ∈ before, (fun b => decide (b < W.heap.size)) p.block = true := fun p hp => by simpa using hlt p hp
  refine ⟨ds, gs, before, [], pa, pv, hW, hres _ _ _, hargs _ hold, hvars _ hold, World.keptBut_mono (fun p hp => ⟨hp, ?_⟩) (hb.frame (· ∈ before)), fun _ => ?_⟩
  · rw [hps, List.mem_append] at hp
    exact Or.inr hp
  · obtain ⟨_, _, _, _, _, hz, hn⟩ := hW
    refine ⟨hok, _, _, ([] ++ pa) ++ pv, ⟨[] ++ pa, pv, trodAll_append (hargs _ (fun _ _ => rfl)) (hres _ _ _), hvars _ (fun _ _ => rfl), rfl, ?_, ?_⟩, ?_⟩
    · intro b off hp
      have hin : MemPlace.cell b off ∈ before := by rw [hps]; simpa using hp
      rw [hb.frozen (hlt _ hin)]
      exact hz b off hin
    · intro ha
      have := hn ha
      rw [hps] at this
      simpa using this
    · intro p hp _
      rw [hps]
      simpa using hp
end post

/-! ### the frame: of the blocks that were there, only those of 'S' may have turned -/
structure Keeps (S : Nat → Prop) (w w' : World) : Prop where
  os : w'.os = w.os
  tape : w'.tape = w.tape
  output : w'.output = w.output
  size : w.heap.size ≤ w'.heap.size
  block : ∀ k, k < w.heap.size → ¬ S k → w'.heap[k]? = w.heap[k]?

section keeps
variable {S S' : Nat → Prop} {a w w' : World}
theorem Keeps.refl (S : Nat → Prop) (w : World) : Keeps S w w := ⟨rfl, rfl, rfl, Nat.le_refl _, fun _ _ _ => rfl⟩
theorem Keeps.trans (h : Keeps S a w) (k : Keeps S w w') : Keeps S a w' :=
  ⟨k.os.trans h.os, k.tape.trans h.tape, k.output.trans h.output, Nat.le_trans h.size k.size, fun i hi hn => (k.block i (Nat.lt_of_lt_of_le hi h.size) hn).trans (h.block i hi hn)⟩
theorem Keeps.mono (h : Keeps S a w) (hs : ∀ k, k < a.heap.size → S k → S' k) : Keeps S' a w :=
  ⟨h.os, h.tape, h.output, h.size, fun i hi hn => h.block i hi (fun hk => hn (hs i hi hk))⟩
/-- two steps; the second may turn what was new behind the first -/
theorem Keeps.andThen (h : Keeps S a w) (k : Keeps S' w w') (hs : ∀ i, i < a.heap.size → S' i → S i) : Keeps S a w' :=
  ⟨k.os.trans h.os, k.tape.trans h.tape, k.output.trans h.output, Nat.le_trans h.size k.size, fun i hi hn => (k.block i (Nat.lt_of_lt_of_le hi h.size) (fun hk => hn (hs i hi hk))).trans (h.block i hi hn)⟩
theorem Keeps.drewN (h : Keeps S a w) (n : Nat) : Keeps S a (w.drewN n) := ⟨h.os, h.tape, h.output, h.size, h.block⟩
theorem Keeps.drew (h : Keeps S a w) : Keeps S a w.drew := ⟨h.os, h.tape, h.output, h.size, h.block⟩
theorem Keeps.alloc (h : Keeps S a w) (o : Obj) : Keeps S a (w.alloc o) :=
  ⟨h.os, h.tape, h.output, Nat.le_trans h.size (by simp), fun i hi hn => (Below.heap_alloc w o i (Nat.lt_of_lt_of_le hi h.size)).trans (h.block i hi hn)⟩
theorem Keeps.setCell (h : Keeps S a w) {p : Addr} (hp : a.heap.size ≤ p.block ∨ S p.block) (u : Value) : Keeps S a (w.setCell p u) :=
  ⟨h.os, h.tape, h.output, by simpa [World.setCell] using h.size, fun i hi hn => (Below.heap_setCell w p u i (by
    rintro rfl
    rcases hp with hp | hp
    · omega
    · exact hn hp)).trans (h.block i hi hn)⟩
theorem Keeps.grown {row : Option Nat} (h : Keeps S a w) (hg : w.grownBy w' row) (hr : ∀ k, row = some k → a.heap.size ≤ k ∨ S k) : Keeps S a w' :=
  ⟨hg.os.trans h.os, hg.tape.trans h.tape, hg.output.trans h.output, Nat.le_trans h.size hg.size, fun i hi hn =>
    (hg.block i (Nat.lt_of_lt_of_le hi h.size) (fun e => by
      rcases hr i e.symm with h1 | h1
      · omega
      · exact hn h1)).trans (h.block i hi hn)⟩
theorem Keeps.below {B : Nat} (h : Keeps S w w') (hB : ∀ k, S k → B ≤ k) (hz : B ≤ w.heap.size) : Below B w w' :=
  ⟨h.os, h.tape, h.output, h.size, fun k hk => h.block k (by omega) (fun hs => by have := hB k hs; omega)⟩
theorem Keeps.of_below {B : Nat} (h : Below B w w') (hs : ∀ k, k < w.heap.size → B ≤ k → S k) : Keeps S w w' :=
  ⟨h.os, h.tape, h.output, h.size, fun k hk hn => h.block k (by rcases Nat.lt_or_ge k B with hl | hl; exact hl; exact absurd (hs k hk hl) hn)⟩
theorem Keeps.cell (h : Keeps S w w') {p : Addr} (hp : p.block < w.heap.size) (hn : ¬ S p.block) : w'.cell? p = w.cell? p := World.cell?_of_block (w := w) (h.block p.block hp hn)
theorem Keeps.frozen (h : Keeps S w w') {p : Addr} (hp : p.block < w.heap.size) (hn : ¬ S p.block) : w'.frozen? p = w.frozen? p := World.frozen?_of_block (w := w) (h.block p.block hp hn)
theorem Keeps.ownsRow (h : Keeps S w w') {base : Nat} {e : TypeId} {size : Nat} {v : Value} {n : Nat} {xs : List Value} (ho : w.ownsRow base e size v n xs) (hn : ∀ k, v.ownBlock = some k → ¬ S k) : w'.ownsRow base e size v n xs := by
  have hl := ho.lt
  obtain ⟨h1, h2⟩ := ho
  refine ⟨h1, ?_⟩
  rcases h2 with h2 | ⟨g, cap, cur, hv, hg, hh, r⟩
  · exact Or.inl h2
  · have e : v.ownBlock = some g := by rw [hv]; rfl
    exact Or.inr ⟨g, cap, cur, hv, hg, (h.block g (hl g e).2 (hn g e)).trans hh, r⟩
theorem Keeps.ownsMap {H : Type} (h : Keeps S w w') {P : Program} {k : TypeId} {R : Value → Option (DataW H × List MemPlace)} {b n : Nat} {D : DataW H} (ho : w.ownsMap P k R b n D) (hn : ¬ S b) : w'.ownsMap P k R b n D := by
  have hlt := ho.lt
  obtain ⟨es, clock, hb, r⟩ := ho
  exact ⟨es, clock, (h.block b hlt hn).trans hb, r⟩
end keeps

/-! ### a map as a function -/
def heldR (v : Value) : Option (DataW Value × List MemPlace) := some (.held v, [])

/-- block b is a map of n entries that holds at each key what f says -/
def MapIs (P : Program) (K : TypeId) (w : World) (b : Nat) (f : Lit → Option Value) (n : Nat) : Prop :=
  ∃ D : DataW Value, w.ownsMap P K heldR b n D ∧ Maps.size D = n ∧ (∀ kl, Maps.has D kl = (f kl).isSome) ∧ ∀ kl v, f kl = some v → ∀ z, D.atKey kl z = .held v

def upd (f : Lit → Option Value) (kl : Lit) (v : Option Value) : Lit → Option Value := fun x => if x.sameKey kl then v else f x

section maps
open Go.Maps
variable {P : Program} {K E t : TypeId} {w w' : World} {b n : Nat} {f : Lit → Option Value}
theorem MapIs.made (w : World) (P : Program) (K : TypeId) : MapIs P K (w.alloc (.map #[] 0)) w.heap.size (fun _ => none) 0 :=
  ⟨.map [], World.ownsMap_made _ _ _ _, rfl, fun _ => rfl, fun _ _ h => by cases h⟩
theorem MapIs.lt (h : MapIs P K w b f n) : b < w.heap.size := let ⟨_, h1, _⟩ := h; h1.lt
theorem MapIs.keeps {S : Nat → Prop} (h : MapIs P K w b f n) (k : Keeps S w w') (hn : ¬ S b) : MapIs P K w' b f n := by
  obtain ⟨D, h1, h2⟩ := h
  exact ⟨D, k.ownsMap h1 hn, h2⟩
theorem MapIs.drewN (h : MapIs P K w b f n) (m : Nat) : MapIs P K (w.drewN m) b f n := h.keeps (S := fun _ => False) ((Keeps.refl _ _).drewN m) (fun h => h)
theorem MapIs.block (h : MapIs P K w b f n) : ∃ es clock, w.heap[b]? = some (.map es clock) := by
  obtain ⟨D, ⟨es, clock, hb, _⟩, _⟩ := h
  exact ⟨es, clock, hb⟩
theorem MapIs.not_cells (h : MapIs P K w b f n) {c : Array Value} {e : TypeId} {fz : Nat × Nat} {g : Nat} (hg : w.heap[g]? = some (.cells c e fz)) : b ≠ g := by
  obtain ⟨es, clock, hb⟩ := h.block
  rintro rfl
  rw [hb] at hg
  cases hg
theorem MapIs.len (h : MapIs P K w b f n) (ht : P.underlying t = some (.map K E)) (ty : TypeId) : (Builtin.len_ #[t] ty #[.map (some b)]).run P w = .ok (.int .i64 n) w := by
  obtain ⟨D, h1, h2, _⟩ := h
  rw [h1.len ht ty, h2]
theorem MapIs.look_ok (h : MapIs P K w b f n) (L : Keyed P K) (ht : P.underlying t = some (.map K E)) {z : Value} (hz : (zeroValue E).run P w = .ok z w) {key : Value} {kl : Lit} (hkey : keyOf P K key = some kl) :
    (Instr.lookup t (.map (some b)) key true).run P w = .ok (.tuple #[(f kl).getD z, .bool (f kl).isSome]) w := by
  obtain ⟨D, h1, _, h3, h4⟩ := h
  obtain ⟨v, ps, hrun, hv⟩ := h1.look_ok L ht hz (R := heldR) (zd := .held z) (zp := []) rfl hkey
  rw [hrun, h3 kl]
  simp only [heldR, Option.some.injEq, Prod.mk.injEq] at hv
  cases hf : f kl with
  | none =>
    have hn : Maps.has D kl = false := by rw [h3 kl, hf]; rfl
    rw [atKey_of_not_has hn] at hv
    have e : v = z := by simpa using hv.1
    simp [e]
  | some u =>
    rw [h4 kl u hf] at hv
    have e : v = u := by simpa using hv.1
    simp [e]
theorem MapIs.look (h : MapIs P K w b f n) (L : Keyed P K) (ht : P.underlying t = some (.map K E)) {z : Value} (hz : (zeroValue E).run P w = .ok z w) {key : Value} {kl : Lit} (hkey : keyOf P K key = some kl) :
    (Instr.lookup t (.map (some b)) key false).run P w = .ok ((f kl).getD z) w := by
  obtain ⟨D, h1, _, h3, h4⟩ := h
  obtain ⟨v, ps, hrun, hv⟩ := h1.lookup L ht hz (R := heldR) (zd := .held z) (zp := []) rfl hkey
  rw [hrun]
  simp only [heldR, Option.some.injEq, Prod.mk.injEq] at hv
  cases hf : f kl with
  | none =>
    have hn : Maps.has D kl = false := by rw [h3 kl, hf]; rfl
    rw [atKey_of_not_has hn] at hv
    have e : v = z := by simpa using hv.1
    simp [e]
  | some u =>
    rw [h4 kl u hf] at hv
    have e : v = u := by simpa using hv.1
    simp [e]
theorem keyLit_of {key : Value} {kl : Lit} (L : Keyed P K) (hkey : keyOf P K key = some kl) : WideAt.IsKeyLit kl := L.key hkey
theorem MapIs.store (h : MapIs P K w b f n) (L : Keyed P K) (ht : P.underlying t = some (.map K E)) (hn : n < maxLen) {key : Value} {kl : Lit} (hkey : keyOf P K key = some kl) (v : Value) :
    ∃ w', (Instr.mapUpdate t (.map (some b)) key v).run P w = .ok () w' ∧ MapIs P K w' b (upd f kl (some v)) (if (f kl).isSome then n else n + 1) ∧ Keeps (· = b) w w' := by
  obtain ⟨D, h1, h2, h3, h4⟩ := h
  obtain ⟨w', hrun, hown, hg⟩ := h1.update L ht hn hkey (val := v) (d := .held v) (ps := []) rfl
  have hkl := keyLit_of L hkey
  have hsz : Maps.size (D.put kl (.held v)) = if (f kl).isSome then n else n + 1 := by
    rw [size_put (h1.tidy L), h2, h3 kl]
  refine ⟨w', hrun, ⟨D.put kl (.held v), ?_, hsz, fun x => ?_, fun x u hx z => ?_⟩, (Keeps.refl _ _).grown hg (fun k hk => .inr (by cases hk; rfl))⟩
  · obtain ⟨es, clock, hb, F, hs, rD⟩ := hown
    exact ⟨es, clock, hb, F, by rw [← hsz, rD]; simp [Maps.size, length_sorted], rD⟩
  · unfold upd
    by_cases e : x = kl
    · subst e
      rw [has_put_same h1.isMap hkl]
      have : x.sameKey x = true := WideAt.sameKey_self hkl
      simp [this]
    · rw [has_put_other e, h3 x, sameKey_ne e]
      simp
  · unfold upd at hx
    by_cases e : x = kl
    · subst e
      rw [if_pos (WideAt.sameKey_self hkl)] at hx
      injection hx with hx
      rw [atKey_put_same h1.isMap hkl, hx]
    · rw [sameKey_ne e] at hx
      simp only [Bool.false_eq_true, if_false] at hx
      rw [atKey_put_other e]
      exact h4 x u hx z
theorem MapIs.drop (h : MapIs P K w b f n) (L : Keyed P K) (ht : P.underlying t = some (.map K E)) {key : Value} {kl : Lit} (hkey : keyOf P K key = some kl) (ty : TypeId) :
    ∃ w', (Builtin.delete_ #[t, K] ty #[.map (some b), key]).run P w = .ok (.tuple #[]) w' ∧ MapIs P K w' b (upd f kl none) (if (f kl).isSome then n - 1 else n) ∧ Keeps (· = b) w w' := by
  obtain ⟨D, h1, h2, h3, h4⟩ := h
  obtain ⟨w', hrun, hown, hg⟩ := h1.drop L ht hkey ty
  have hkl := keyLit_of L hkey
  have hsz : Maps.size (D.del kl) = if (f kl).isSome then n - 1 else n := by
    have := size_del (k := kl) (h1.tidy L)
    rw [h2, h3 kl] at this
    split at this <;> rename_i hc <;> simp [hc] <;> omega
  refine ⟨w', hrun, ⟨D.del kl, ?_, hsz, fun x => ?_, fun x u hx z => ?_⟩, (Keeps.refl _ _).grown hg.grown (fun k hk => .inr (by cases hk; rfl))⟩
  · obtain ⟨es, clock, hb, F, hs, rD⟩ := hown
    exact ⟨es, clock, hb, F, by rw [← hsz, rD]; simp [Maps.size, length_sorted], rD⟩
  · unfold upd
    by_cases e : x = kl
    · subst e
      rw [has_del_same]
      simp [WideAt.sameKey_self hkl]
    · rw [has_del_other e, h3 x, sameKey_ne e]
      simp
  · unfold upd at hx
    by_cases e : x = kl
    · subst e
      rw [if_pos (WideAt.sameKey_self hkl)] at hx
      cases hx
    · rw [sameKey_ne e] at hx
      simp only [Bool.false_eq_true, if_false] at hx
      rw [atKey_del_other e]
      exact h4 x u hx z
end maps
end Go.Proofs.Ytejnhhpjlajngaa
end
/- part Free. PROVED HERE: contracts of slots.free's methods Len, Less, Swap, Push, Pop, and how a call through heap.Interface on a *free finds them. CONDITIONS: as the theorems say. -/
section
namespace Go.Proofs.Ytejnhhpjlajngaa
open Go.RowKit

/-! ### the methods behind heap.Interface at a *free -/
theorem m_len (a : Addr) (v : Value) (w : World) (h : w.cell? a = some v) : (Go.method 227 66 (.pointer (some a)) "Len").run Try.prog w = .ok (85, v) w := by
  have e : (Go.method 227 66 (.pointer (some a)) "Len").run Try.prog w = ((loadVar 58 a) >>= fun v => pure (85, v) : Sem (FuncId × Value)).run Try.prog w := by kernel_rfl
  rw [e]
  simp [loadVar, isAgg, underlying, Try.underlying58, h, Result.andThen]
theorem m_less (a : Addr) (v : Value) (w : World) (h : w.cell? a = some v) : (Go.method 227 66 (.pointer (some a)) "Less").run Try.prog w = .ok (86, v) w := by
  have e : (Go.method 227 66 (.pointer (some a)) "Less").run Try.prog w = ((loadVar 58 a) >>= fun v => pure (86, v) : Sem (FuncId × Value)).run Try.prog w := by kernel_rfl
  rw [e]
  simp [loadVar, isAgg, underlying, Try.underlying58, h, Result.andThen]
theorem m_swap (a : Addr) (v : Value) (w : World) (h : w.cell? a = some v) : (Go.method 227 66 (.pointer (some a)) "Swap").run Try.prog w = .ok (87, v) w := by
  have e : (Go.method 227 66 (.pointer (some a)) "Swap").run Try.prog w = ((loadVar 58 a) >>= fun v => pure (87, v) : Sem (FuncId × Value)).run Try.prog w := by kernel_rfl
  rw [e]
  simp [loadVar, isAgg, underlying, Try.underlying58, h, Result.andThen]
theorem m_push (a : Addr) (w : World) : (Go.method 227 66 (.pointer (some a)) "Push").run Try.prog w = .ok (89, .pointer (some a)) w := by kernel_rfl
theorem m_pop (a : Addr) (w : World) : (Go.method 227 66 (.pointer (some a)) "Pop").run Try.prog w = .ok (88, .pointer (some a)) w := by kernel_rfl
theorem n_len (a : Addr) (w : World) : (Go.nilAhead 227 66 (.pointer (some a)) "Len").run Try.prog w = .ok (some false) w := by kernel_rfl
theorem n_less (a : Addr) (w : World) : (Go.nilAhead 227 66 (.pointer (some a)) "Less").run Try.prog w = .ok (some false) w := by kernel_rfl
theorem n_swap (a : Addr) (w : World) : (Go.nilAhead 227 66 (.pointer (some a)) "Swap").run Try.prog w = .ok (some false) w := by kernel_rfl
theorem n_push (a : Addr) (w : World) : (Go.nilAhead 227 66 (.pointer (some a)) "Push").run Try.prog w = .ok (some false) w := by kernel_rfl
theorem n_pop (a : Addr) (w : World) : (Go.nilAhead 227 66 (.pointer (some a)) "Pop").run Try.prog w = .ok (some false) w := by kernel_rfl

/-! ### the methods -/
theorem free_len (A : Option Addr) (n c : Nat) (w : World) :
    Calls Try.prog 85 #[.slice A n c] w fun e w' => e = .returned (.int .i64 n) ∧ w' = w := by
  go_enter Try.func85, Try.ntmps85
  go_wp2
  go_ret
  exact ⟨rfl, rfl⟩

theorem free_less (g n c i j : Nat) (x y : Int) (w : World) (hi : i < n) (hj : j < n) (ci : w.cell? ⟨g, i, none⟩ = some (.int .i64 x)) (cj : w.cell? ⟨g, j, none⟩ = some (.int .i64 y)) :
    Calls Try.prog 86 #[.slice (some ⟨g, 0, none⟩) n c, .int .i64 i, .int .i64 j] w fun e w' => e = .returned (.bool (decide (x < y))) ∧ ∃ m, w' = w.drewN m := by
  have hi' : (i : Int) < (n : Int) := by omega
  have hj' : (j : Int) < (n : Int) := by omega
  go_enter Try.func86, Try.ntmps86
  go_wp2_with fail
  go_quiet (fail)
  go_wp2_with fail
  go_ret
  exact ⟨rfl, _, rfl⟩

set_option maxHeartbeats 1000000 in
theorem free_swap (g n c i j : Nat) (x y : Int) (w : World) (hi : i < n) (hj : j < n) (hij : i ≠ j) (ci : w.cell? ⟨g, i, none⟩ = some (.int .i64 x)) (cj : w.cell? ⟨g, j, none⟩ = some (.int .i64 y))
    (fi : w.frozen? ⟨g, i, none⟩ = false) (fj : w.frozen? ⟨g, j, none⟩ = false) :
    Calls Try.prog 87 #[.slice (some ⟨g, 0, none⟩) n c, .int .i64 i, .int .i64 j] w fun e w' => e = .returned (.tuple #[]) ∧ ∃ m, w' = ((w.setCell ⟨g, i, none⟩ (.int .i64 y)).setCell ⟨g, j, none⟩ (.int .i64 x)).drewN m := by
  have hi' : (i : Int) < (n : Int) := by omega
  have hj' : (j : Int) < (n : Int) := by omega
  go_enter Try.func87, Try.ntmps87
  go_wp2_with fail
  go_region
  go_end0
  exact ⟨rfl, 1, rfl⟩

theorem int_info : (Try.prog.info? 3).map (fun i => (i.zero, i.size, i.bytes)) = some (some (.int .i64 0), 1, 8) := by kernel_rfl

/-- Pop: the last number, and the slice without it -/
theorem free_pop (t o g n c : Nat) (x : Int) (w : World) (hc : n + 1 ≤ c) (ht : w.cell? ⟨t, o, none⟩ = some (.slice (some ⟨g, 0, none⟩) (n + 1) c)) (hf : w.frozen? ⟨t, o, none⟩ = false)
    (hx : w.cell? ⟨g, n, none⟩ = some (.int .i64 x)) (hm : n + 1 ≤ 1048576) :
    Calls Try.prog 88 #[.pointer (some ⟨t, o, none⟩)] w fun e w' => e = .returned (.iface 3 (.int .i64 x)) ∧ w' = w.setCell ⟨t, o, none⟩ (.slice (some ⟨g, 0, none⟩) n c) := by
  go_enter Try.func88, Try.ntmps88
  go_wp2_with fail
  go_ret
  exact ⟨rfl, rfl⟩

theorem assert_int (x : Int) (w : World) : (Instr.typeAssert (.iface 3 (.int .i64 x)) 20 3 false).run Try.prog w = .ok (.int .i64 x) w := by kernel_rfl
theorem assert_int_ok (x : Int) (w : World) : (Instr.typeAssert (.iface 3 (.int .i64 x)) 20 3 true).run Try.prog w = .ok (.tuple #[.int .i64 x, .bool true]) w := by kernel_rfl
theorem oneCell_int (x : Int) : ∀ u ∈ [Value.int .i64 x], u.oneCell' = true := by intro u hu; simp at hu; subst hu; rfl

theorem push_cell {t o : Nat} {v : Value} {w w1 : World} {ob : Obj} (ht : w.cell? ⟨t, o, none⟩ = some v) (hlt : t < w.heap.size) {row : Option Nat} (hne : row ≠ some t) (hg : (w.alloc ob).drew.grownBy w1 row) : w1.cell? ⟨t, o, none⟩ = some v := by
  rw [hg.cell_far ⟨t, o, none⟩ (by show t < (w.alloc ob).heap.size; simp; omega) (fun e => hne e.symm)]
  exact (World.cell?_alloc_lt w ob ⟨t, o, none⟩ hlt).trans ht
theorem push_free {t o : Nat} {w w1 : World} {ob : Obj} (hf : w.frozen? ⟨t, o, none⟩ = false) (hlt : t < w.heap.size) {row : Option Nat} (hne : row ≠ some t) (hg : (w.alloc ob).drew.grownBy w1 row) : w1.frozen? ⟨t, o, none⟩ = false := by
  rw [hg.frozen_far ⟨t, o, none⟩ (by show t < (w.alloc ob).heap.size; simp; omega) (fun e => hne e.symm)]
  exact (World.frozen?_alloc_old w ob ⟨t, o, none⟩ (Nat.ne_of_lt hlt)).trans hf

set_option maxHeartbeats 1000000 in
/-- Push: the number behind the others -/
theorem free_push (t o base n : Nat) (v : Value) (xs : List Value) (x : Int) (w : World) (ht : w.cell? ⟨t, o, none⟩ = some v) (hf : w.frozen? ⟨t, o, none⟩ = false)
    (hown : w.ownsRow base 3 1 v n xs) (hne : v.ownBlock ≠ some t) (hm : n + 1 ≤ 1048576) (hbase : base ≤ w.heap.size) :
    Calls Try.prog 89 #[.pointer (some ⟨t, o, none⟩), .iface 3 (.int .i64 x)] w fun e w' => e = .returned (.tuple #[]) ∧
      ∃ g cap w1, w1.ownsRow base 3 1 (.slice (some ⟨g, 0, none⟩) (n + 1) cap) (n + 1) (xs ++ [.int .i64 x]) ∧ w.grownBy w1 v.ownBlock ∧ (v.ownBlock = some g ∨ w.heap.size ≤ g) ∧
        w' = w1.setCell ⟨t, o, none⟩ (.slice (some ⟨g, 0, none⟩) (n + 1) cap) := by
  obtain ⟨i0, hi0, hz0, hz1, hz2⟩ := info_parts int_info
  have hlt : t < w.heap.size := by
    rcases Nat.lt_or_ge t w.heap.size with h | h
    · exact h
    · simp [World.cell?, Array.getElem?_eq_none h] at ht
  have hta := assert_int
  go_enter Try.func89, Try.ntmps89
  go_wp2_with fail
  go_region_law (refine step_append_lies _ rfl (.tmp 7) (.tmp 10) 58 rfl base 3 i0 (.int .i64 0) 1 8 Try.underlying58 hi0 hz0 hz1 hz2 rfl (by decide) v n xs (by simp [Act.eval]) (hown.alloc _) ⟨w.heap.size, 0, none⟩ 1 1 [.int .i64 x] (by simp [Act.eval]) rfl (cell_one_new _ _ _) (oneCell_int x) (by decide) (by unfold maxLen; omega) (by omega) (by simp; omega) (w.heap.size + 1) (by simp) ?_; intro g cap w1 hown1 hg1 hloc hlt1; have c1 : w1.cell? ⟨t, o, none⟩ = some v := push_cell ht hlt hne hg1; have f1 : w1.frozen? ⟨t, o, none⟩ = false := push_free hf hlt hne hg1)
  all_goals
    go_end0
    refine ⟨rfl, g, cap, w1, hown1, (World.grownBy_alloc w (.cells #[.int .i64 x] 3) _).trans ⟨hg1.os, hg1.tape, hg1.output, hg1.size, hg1.block⟩, ?_, rfl⟩
    rcases hloc with h | h
    · exact .inl h
    · exact .inr (by omega)
end Go.Proofs.Ytejnhhpjlajngaa
end
/- part HeapMath. PROVED HERE: plain lemmas on binary heaps of integers in a list (sift up, sift down). No program. CONDITIONS: none. -/
section
namespace Go.Proofs.Ytejnhhpjlajngaa.HeapM

def at_ (l : List Int) (i : Nat) : Int := l.getD i 0
def swp (l : List Int) (i j : Nat) : List Int := (l.set i (at_ l j)).set j (at_ l i)
def Hp (n : Nat) (l : List Int) : Prop := ∀ i, 0 < i → i < n → at_ l ((i - 1) / 2) ≤ at_ l i
def Inj (l : List Int) : Prop := ∀ a b, a < l.length → b < l.length → at_ l a = at_ l b → a = b
def UpAt (l : List Int) (j : Nat) : Prop :=
  (∀ i, 0 < i → i < l.length → i ≠ j → at_ l ((i - 1) / 2) ≤ at_ l i) ∧ (∀ i, 0 < i → i < l.length → (i - 1) / 2 = j → 0 < j → at_ l ((j - 1) / 2) ≤ at_ l i)
def DownAt (n : Nat) (l : List Int) (i : Nat) : Prop :=
  (∀ k, 0 < k → k < n → (k - 1) / 2 ≠ i → at_ l ((k - 1) / 2) ≤ at_ l k) ∧ (∀ k, 0 < k → k < n → (k - 1) / 2 = i → 0 < i → at_ l ((i - 1) / 2) ≤ at_ l k)
/-- the same numbers -/
structure Same (l l' : List Int) : Prop where
  len : l'.length = l.length
  mem : ∀ x, x ∈ l' ↔ x ∈ l
  inj : Inj l → Inj l'

theorem mem_at {l : List Int} {x : Int} : x ∈ l ↔ ∃ k, k < l.length ∧ at_ l k = x := by
  rw [List.mem_iff_getElem]
  constructor
  · rintro ⟨i, h, e⟩
    exact ⟨i, h, by simp [at_, List.getD_eq_getElem?_getD, h, e]⟩
  · rintro ⟨i, h, e⟩
    exact ⟨i, h, by simpa [at_, List.getD_eq_getElem?_getD, h] using e⟩
theorem len_swp (l : List Int) (i j : Nat) : (swp l i j).length = l.length := by simp [swp]
def sw (i j k : Nat) : Nat := if k = j then i else if k = i then j else k
theorem at_swp {l : List Int} {i j : Nat} (hi : i < l.length) (hj : j < l.length) (k : Nat) : at_ (swp l i j) k = at_ l (sw i j k) := by
  unfold swp at_ sw
  simp only [List.getD_eq_getElem?_getD, List.getElem?_set, List.length_set]
  by_cases h1 : j = k
  · subst h1; simp [hj]
  · by_cases h2 : i = k
    · subst h2; simp [h1, hi, Ne.symm h1]
    · simp [h1, h2, Ne.symm h1, Ne.symm h2]
theorem sw_sw (i j k : Nat) : sw i j (sw i j k) = k := by unfold sw; (repeat' split) <;> omega
theorem sw_lt {i j k n : Nat} (hi : i < n) (hj : j < n) (hk : k < n) : sw i j k < n := by unfold sw; (repeat' split) <;> omega
theorem Same.refl (l : List Int) : Same l l := ⟨rfl, fun _ => Iff.rfl, fun h => h⟩
theorem Same.trans {l l' l'' : List Int} (h : Same l l') (k : Same l' l'') : Same l l'' := ⟨k.len.trans h.len, fun x => (k.mem x).trans (h.mem x), fun i => k.inj (h.inj i)⟩
theorem Same.swp {l : List Int} {i j : Nat} (hi : i < l.length) (hj : j < l.length) : Same l (swp l i j) := by
  refine ⟨len_swp l i j, fun x => ?_, fun inj a b ha hb e => ?_⟩
  · rw [mem_at, mem_at, len_swp]
    constructor
    · rintro ⟨k, hk, e⟩
      exact ⟨sw i j k, sw_lt hi hj hk, by rw [← at_swp hi hj]; exact e⟩
    · rintro ⟨k, hk, e⟩
      exact ⟨sw i j k, sw_lt hi hj hk, by rw [at_swp hi hj, sw_sw]; exact e⟩
  · rw [len_swp] at ha hb
    rw [at_swp hi hj, at_swp hi hj] at e
    have := inj _ _ (sw_lt hi hj ha) (sw_lt hi hj hb) e
    rw [← sw_sw i j a, this, sw_sw]
/-! ### up -/
theorem up_end {l : List Int} {j : Nat} (h : UpAt l j) (he : j = 0 ∨ at_ l ((j - 1) / 2) ≤ at_ l j) : Hp l.length l := by
  intro i h0 hi
  by_cases e : i = j
  · subst e
    rcases he with he | he
    · omega
    · exact he
  · exact h.1 i h0 hi e
theorem up_step {l : List Int} {j : Nat} (h : UpAt l j) (h0 : 0 < j) (hj : j < l.length) (hlt : at_ l j < at_ l ((j - 1) / 2)) : UpAt (swp l ((j - 1) / 2) j) ((j - 1) / 2) := by
  have hp : (j - 1) / 2 < l.length := by omega
  have hne : (j - 1) / 2 ≠ j := by omega
  refine ⟨fun i i0 il ine => ?_, fun i i0 il ip p0 => ?_⟩
  · rw [len_swp] at il
    rw [at_swp hp hj, at_swp hp hj]
    by_cases e1 : i = j
    · subst e1
      rw [show sw ((i - 1) / 2) i ((i - 1) / 2) = i by unfold sw; rw [if_neg hne, if_pos rfl], show sw ((i - 1) / 2) i i = (i - 1) / 2 by unfold sw; rw [if_pos rfl]]
      omega
    · rw [show sw ((j - 1) / 2) j i = i by unfold sw; rw [if_neg e1, if_neg ine]]
      by_cases e2 : (i - 1) / 2 = j
      · rw [show sw ((j - 1) / 2) j ((i - 1) / 2) = (j - 1) / 2 by unfold sw; rw [if_pos e2]]
        exact h.2 i i0 il e2 h0
      · by_cases e3 : (i - 1) / 2 = (j - 1) / 2
        · rw [show sw ((j - 1) / 2) j ((i - 1) / 2) = j by unfold sw; rw [if_neg e2, if_pos e3]]
          have := h.1 i i0 il e1
          rw [e3] at this
          omega
        · rw [show sw ((j - 1) / 2) j ((i - 1) / 2) = (i - 1) / 2 by unfold sw; rw [if_neg e2, if_neg e3]]
          exact h.1 i i0 il e1
  · rw [len_swp] at il
    rw [at_swp hp hj, at_swp hp hj]
    have a1 := h.1 ((j - 1) / 2) p0 hp hne
    rw [show sw ((j - 1) / 2) j (((j - 1) / 2 - 1) / 2) = ((j - 1) / 2 - 1) / 2 by unfold sw; rw [if_neg (by omega), if_neg (by omega)]]
    by_cases e1 : i = j
    · subst e1
      rw [show sw ((i - 1) / 2) i i = (i - 1) / 2 by unfold sw; rw [if_pos rfl]]
      exact a1
    · have a2 := h.1 i i0 il e1
      rw [show sw ((j - 1) / 2) j i = i by unfold sw; rw [if_neg e1, if_neg (by omega)]]
      rw [ip] at a2
      omega
/-! ### down -/
theorem down_end {n : Nat} {l : List Int} {i : Nat} (h : DownAt n l i) (h1 : 2 * i + 1 < n → at_ l i ≤ at_ l (2 * i + 1)) (h2 : 2 * i + 2 < n → at_ l i ≤ at_ l (2 * i + 2)) : Hp n l := by
  intro k k0 kn
  by_cases e : (k - 1) / 2 = i
  · rw [e]
    rcases (show k = 2 * i + 1 ∨ k = 2 * i + 2 by omega) with e1 | e1
    · rw [e1]; exact h1 (by omega)
    · rw [e1]; exact h2 (by omega)
  · exact h.1 k k0 kn e
theorem down_step {n : Nat} {l : List Int} {i j : Nat} (h : DownAt n l i) (hj : j = 2 * i + 1 ∨ j = 2 * i + 2) (hjn : j < n) (hn : n ≤ l.length)
    (h1 : at_ l j ≤ at_ l (2 * i + 1)) (h2 : 2 * i + 2 < n → at_ l j ≤ at_ l (2 * i + 2)) (hlt : at_ l j < at_ l i) : DownAt n (swp l i j) j := by
  have hi : i < l.length := by omega
  have hjl : j < l.length := by omega
  refine ⟨fun k k0 kn kne => ?_, fun k k0 kn ke j0 => ?_⟩
  · rw [at_swp hi hjl, at_swp hi hjl]
    by_cases e1 : (k - 1) / 2 = i
    · rw [e1, show sw i j i = j by unfold sw; rw [if_neg (by omega), if_pos rfl]]
      by_cases e2 : k = j
      · rw [e2, show sw i j j = i by unfold sw; rw [if_pos rfl]]; omega
      · rw [show sw i j k = k by unfold sw; rw [if_neg e2, if_neg (by omega)]]
        rcases (show k = 2 * i + 1 ∨ k = 2 * i + 2 by omega) with e3 | e3
        · rw [e3]; exact h1
        · rw [e3]; exact h2 (by omega)
    · rw [show sw i j ((k - 1) / 2) = (k - 1) / 2 by unfold sw; rw [if_neg kne, if_neg e1]]
      by_cases e2 : k = i
      · rw [e2, show sw i j i = j by unfold sw; rw [if_neg (by omega), if_pos rfl], ← e2]
        have hjk : (j - 1) / 2 = i := by omega
        rw [e2]
        exact h.2 j (by omega) hjn hjk (by omega)
      · rw [show sw i j k = k by unfold sw; rw [if_neg (by omega), if_neg e2]]
        exact h.1 k k0 kn e1
  · rw [at_swp hi hjl, at_swp hi hjl]
    rw [show (j - 1) / 2 = i by omega, show sw i j i = j by unfold sw; rw [if_neg (by omega), if_pos rfl], show sw i j k = k by unfold sw; rw [if_neg (by omega), if_neg (by omega)]]
    have := h.1 k k0 kn (by omega)
    rw [ke] at this
    exact this
theorem least {n : Nat} {l : List Int} (h : Hp n l) : ∀ k, k < n → at_ l 0 ≤ at_ l k := by
  intro k
  induction k using Nat.strongRecOn with
  | _ k ih =>
    intro hk
    rcases Nat.eq_zero_or_pos k with e | e
    · rw [e]; omega
    · have a1 := ih ((k - 1) / 2) (by omega) (by omega)
      have a2 := h k e hk
      omega
theorem down_begin {n : Nat} {l : List Int} (h : Hp (n + 1) l) (hl : l.length = n + 1) : DownAt n (swp l 0 n) 0 := by
  refine ⟨fun k k0 kn kne => ?_, fun k _ _ _ h0 => by omega⟩
  rw [at_swp (by omega) (by omega), at_swp (by omega) (by omega)]
  rw [show sw 0 n ((k - 1) / 2) = (k - 1) / 2 by unfold sw; rw [if_neg (by omega), if_neg kne], show sw 0 n k = k by unfold sw; rw [if_neg (by omega), if_neg (by omega)]]
  exact h k k0 (by omega)
theorem up_begin {l : List Int} (h : Hp l.length l) (x : Int) : UpAt (l ++ [x]) l.length := by
  have e : ∀ k, k < l.length → at_ (l ++ [x]) k = at_ l k := fun k hk => by
    unfold at_
    rw [List.getD_eq_getElem?_getD, List.getD_eq_getElem?_getD, List.getElem?_append_left hk]
  refine ⟨fun i i0 il ine => ?_, fun i i0 il ip => ?_⟩
  · rw [List.length_append, List.length_singleton] at il
    rw [e _ (by omega), e _ (by omega)]
    exact h i i0 (by omega)
  · rw [List.length_append, List.length_singleton] at il
    omega
/-- what is left when the last is taken away -/
theorem pop_mem {l : List Int} {n : Nat} (hl : l.length = n + 1) (hi : Inj l) (x : Int) : x ∈ l.take n ↔ x ∈ l ∧ x ≠ at_ l n := by
  constructor
  · intro h
    refine ⟨List.mem_of_mem_take h, ?_⟩
    rintro rfl
    obtain ⟨k, hk, e⟩ := List.mem_iff_getElem.1 h
    simp at hk e
    have := hi k n (by omega) (by omega) (by simp [at_, List.getD_eq_getElem?_getD, show k < l.length by omega, e])
    omega
  · rintro ⟨h, hne⟩
    obtain ⟨k, hk, e⟩ := mem_at.1 h
    have : k ≠ n := by rintro rfl; exact hne e.symm
    refine List.mem_iff_getElem.2 ⟨k, by simp; omega, ?_⟩
    simp only [at_, List.getD_eq_getElem?_getD, hk, List.getElem?_eq_getElem, Option.getD_some] at e
    simpa using e
theorem at_take {l : List Int} {n k : Nat} (hk : k < n) : at_ (l.take n) k = at_ l k := by simp [at_, List.getD_eq_getElem?_getD, hk]
theorem hp_take {l : List Int} {n : Nat} (h : Hp n l) : Hp n (l.take n) := fun i i0 hi => by rw [at_take hi, at_take (by omega)]; exact h i i0 hi
theorem inj_take {l : List Int} {n : Nat} (h : Inj l) : Inj (l.take n) := fun a b ha hb e => by
  simp at ha hb
  rw [at_take (by omega), at_take (by omega)] at e
  exact h a b (by omega) (by omega) e
end Go.Proofs.Ytejnhhpjlajngaa.HeapM
end
/- part Up. PROVED HERE: contracts of container/heap's up, down, Push and Pop at a *slots.free. CONDITIONS: as the theorems say: the pointer's cell holds a slice that owns its row; the numbers are a heap; at most 1048576 of them. -/
section
namespace Go.Proofs.Ytejnhhpjlajngaa
open Go.RowKit HeapM

def ints (l : List Int) : List Value := l.map (Value.int .i64)

theorem free_less_i (g n c a b : Nat) (i j : Int) (hi : i = (a : Int)) (hj : j = (b : Int)) (x y : Int) (w : World) (ha : a < n) (hb : b < n) (ci : w.cell? ⟨g, a, none⟩ = some (.int .i64 x)) (cj : w.cell? ⟨g, b, none⟩ = some (.int .i64 y)) :
    Calls Try.prog 86 #[.slice (some ⟨g, 0, none⟩) n c, .int .i64 i, .int .i64 j] w fun e w' => e = .returned (.bool (decide (x < y))) ∧ ∃ m, w' = w.drewN m := by
  subst hi hj; exact free_less g n c a b x y w ha hb ci cj

/-- the world of the heap: the cell that holds the slice, the row -/
structure HW (t o g c base : Nat) (l : List Int) (w : World) : Prop where
  cell : w.cell? ⟨t, o, none⟩ = some (.slice (some ⟨g, 0, none⟩) l.length c)
  own : w.ownsRow base 3 1 (.slice (some ⟨g, 0, none⟩) l.length c) l.length (ints l)
  ne : t ≠ g
  lt : t < w.heap.size

theorem ints_get {l : List Int} {k : Nat} (hk : k < l.length) : (ints l)[k]? = some (.int .i64 (at_ l k)) := by
  simp [ints, at_, List.getD_eq_getElem?_getD, hk]

section hw
variable {t o g c base : Nat} {l : List Int} {w : World}
theorem HW.at (h : HW t o g c base l w) {k : Nat} (hk : k < l.length) : w.cell? ⟨g, k, none⟩ = some (.int .i64 (at_ l k)) := by
  rw [h.own.cellAt k (by omega)]
  exact ints_get hk
theorem HW.drewN (h : HW t o g c base l w) (m : Nat) : HW t o g c base l (w.drewN m) := ⟨h.cell, h.own, h.ne, h.lt⟩
theorem HW.glt (h : HW t o g c base l w) : g < w.heap.size := (h.own.lt g rfl).2
theorem HW.swap (h : HW t o g c base l w) (i j : Nat) :
    HW t o g c base (swp l i j) ((w.setCell ⟨g, i, none⟩ (.int .i64 (at_ l j))).setCell ⟨g, j, none⟩ (.int .i64 (at_ l i))) := by
  have e1 : ints (swp l i j) = ((ints l).set i (.int .i64 (at_ l j))).set j (.int .i64 (at_ l i)) := by
    simp [ints, swp, List.map_set]
  refine ⟨?_, ?_, h.ne, by simpa [World.setCell] using h.lt⟩
  · rw [len_swp, World.cell?_setCell_other _ _ _ _ (fun e => h.ne (by injection e with e; exact e.symm)), World.cell?_setCell_other _ _ _ _ (fun e => h.ne (by injection e with e; exact e.symm))]
    exact h.cell
  · rw [len_swp, e1]
    exact ((h.own.stored i _).1.stored j _).1
end hw

theorem free_swap_i (t o g c base : Nat) (l : List Int) (a b : Nat) (i j : Int) (hi : i = (a : Int)) (hj : j = (b : Int)) (w : World) (h : HW t o g c base l w) (ha : a < l.length) (hb : b < l.length) (hne : a ≠ b) :
    Calls Try.prog 87 #[.slice (some ⟨g, 0, none⟩) l.length c, .int .i64 i, .int .i64 j] w fun e w' => e = .returned (.tuple #[]) ∧ HW t o g c base (swp l a b) w' ∧ Keeps (· = g) w w' := by
  subst hi hj
  refine (free_swap g l.length c a b (at_ l a) (at_ l b) w ha hb hne (h.at ha) (h.at hb) (h.own.frozenAt a) (h.own.frozenAt b)).mono fun e w' ⟨he, m, hw⟩ => ⟨he, ?_, ?_⟩
  · rw [hw]; exact (h.swap a b).drewN m
  · rw [hw]; exact (((Keeps.refl (· = g) w).setCell (p := ⟨g, a, none⟩) (.inr rfl) _).setCell (p := ⟨g, b, none⟩) (.inr rfl) _).drewN m

/-- the look-ups through the interface, at the slice that the cell holds -/
structure Looks (a : Addr) (V : Value) : Prop where
  less : ∀ w : World, w.cell? a = some V → (Go.method 227 66 (.pointer (some a)) "Less").run Try.prog w = .ok (86, V) w
  swap : ∀ w : World, w.cell? a = some V → (Go.method 227 66 (.pointer (some a)) "Swap").run Try.prog w = .ok (87, V) w
  len : ∀ w : World, w.cell? a = some V → (Go.method 227 66 (.pointer (some a)) "Len").run Try.prog w = .ok (85, V) w
theorem looks (a : Addr) (V : Value) : Looks a V := ⟨m_less a V, m_swap a V, m_len a V⟩

set_option maxHeartbeats 1000000 in
theorem heap_up (t o g c base : Nat) (l : List Int) (j : Nat) (w : World) (h : HW t o g c base l w) (hj : j < l.length) (hu : UpAt l j) (hm : l.length ≤ 1048576) :
    Calls Try.prog 36 #[.iface 66 (.pointer (some ⟨t, o, none⟩)), .int .i64 j] w fun e w' => e = .returned (.tuple #[]) ∧
      ∃ l', Same l l' ∧ Hp l'.length l' ∧ HW t o g c base l' w' ∧ Keeps (· = g) w w' := by
  have L := looks ⟨t, o, none⟩ (.slice (some ⟨g, 0, none⟩) l.length c)
  have nl := n_less ⟨t, o, none⟩
  have ns := n_swap ⟨t, o, none⟩
  go_enter Try.func36, Try.ntmps36
  go_wp2_with fail
  go_loopw [1] (fun v wr => ∃ (j : Nat) (l' : List Int), v = .int .i64 j ∧ j < l'.length ∧ Same l l' ∧ UpAt l' j ∧ HW t o g c base l' wr ∧ Keeps (· = g) w wr) (fun v _ => (intOf v).toNat)
  case atStart => exact ⟨j, l, rfl, hj, Same.refl l, hu, h, Keeps.refl _ _⟩
  case round =>
    obtain ⟨j, l', rfl, hj', hs, hu', hw, hk⟩ := hrel
    have hc := hw.cell
    rw [hs.len] at hc
    have LL := L.less wr hc
    by_cases h0 : j = 0
    · subst h0
      have HU := Lib.hid hu'
      clear hu'
      go_wp2_with fail
      go_end0
      exact ⟨rfl, l', hs, up_end HU.out (.inl rfl), hw, hk⟩
    · have hj1 : 1 ≤ j := by omega
      have hj2 : j ≤ 1048576 := by have := hs.len; omega
      have hi1 : (j - 1) / 2 < l'.length := by omega
      have hjn : ((((j : Int) - 1) / 2) == (j : Int)) = false := by rw [beq_eq_false_iff_ne]; omega
      have HU := Lib.hid hu'
      clear hu'
      go_wp2_with fail
      refine (free_less_i g l.length c j ((j - 1) / 2) _ _ rfl (by omega) (at_ l' j) (at_ l' ((j - 1) / 2)) _ (by rw [← hs.len]; exact hj') (by rw [← hs.len]; exact hi1) (hw.at hj') (hw.at hi1)).mono ?_
      rintro e w1 ⟨rfl, m, rfl⟩
      have hw1 := hw.drewN m
      by_cases hlt : at_ l' j < at_ l' ((j - 1) / 2)
      · have LS := L.swap (wr.drewN m) hc
        go_wp2_with fail
        have HL := Lib.hid hs.len
        have sw := free_swap_i t o g c base l' ((j - 1) / 2) j
        rw [hs.len] at sw
        refine (sw _ _ (by omega) rfl _ hw1 (by have := HL.out; omega) (by have := HL.out; omega) (by omega)).mono ?_
        rintro e w2 ⟨rfl, hw2, hk2⟩
        clear sw
        go_wp2_with fail
        go_roundw
        case rel => exact ⟨(j - 1) / 2, _, by go_num, by rw [len_swp]; exact hi1, hs.trans (Same.swp hi1 hj'), up_step HU.out hj1 hj' hlt, hw2, (hk.drewN m).trans hk2⟩
        case measure => simp [intOf]; omega
      · have hnl : decide (at_ l' j < at_ l' ((j - 1) / 2)) = false := by simpa using hlt
        go_wp2_with fail
        go_end0
        exact ⟨rfl, l', hs, up_end HU.out (.inr (by omega)), hw1, hk.drewN m⟩
end Go.Proofs.Ytejnhhpjlajngaa
end
/- part Down. PROVED HERE: contracts of container/heap's down, Push and Pop at a *slots.free. CONDITIONS: as the theorems say: the pointer's cell holds a slice that owns its row; the numbers are a heap; at most 1048576 of them. -/
section
namespace Go.Proofs.Ytejnhhpjlajngaa
open Go.RowKit HeapM

theorem at_far {l : List Int} {i j n k : Nat} (hi : i < l.length) (hj : j < l.length) (hin : i < n) (hjn : j < n) (hk : n ≤ k) : at_ (swp l i j) k = at_ l k := by
  rw [at_swp hi hj]; unfold sw; rw [if_neg (by omega), if_neg (by omega)]

set_option maxRecDepth 100000 in
set_option maxHeartbeats 4000000 in
theorem heap_down (t o g c base n : Nat) (l : List Int) (w : World) (h : HW t o g c base l w) (hn : n ≤ l.length) (hd : DownAt n l 0) (hm : l.length ≤ 1048576) :
    Calls Try.prog 35 #[.iface 66 (.pointer (some ⟨t, o, none⟩)), .int .i64 0, .int .i64 n] w fun e w' => (∃ b, e = .returned (.bool b)) ∧
      ∃ l', Same l l' ∧ Hp n l' ∧ (∀ k, n ≤ k → at_ l' k = at_ l k) ∧ HW t o g c base l' w' ∧ Keeps (· = g) w w' := by
  have L := looks ⟨t, o, none⟩ (.slice (some ⟨g, 0, none⟩) l.length c)
  have nl := n_less ⟨t, o, none⟩
  have ns := n_swap ⟨t, o, none⟩
  go_enter Try.func35, Try.ntmps35
  go_wp2_with fail
  go_loopw [7] (fun v wr => ∃ (i : Nat) (l' : List Int), v = .int .i64 i ∧ i ≤ n ∧ Same l l' ∧ DownAt n l' i ∧ Hid (∀ k, n ≤ k → at_ l' k = at_ l k) ∧ HW t o g c base l' wr ∧ Keeps (· = g) w wr) (fun v _ => n - (intOf v).toNat)
  case atStart => exact ⟨0, l, rfl, Nat.zero_le _, Same.refl l, hd, Lib.hid (fun _ _ => rfl), h, Keeps.refl _ _⟩
  case round =>
    obtain ⟨i, l', rfl, hin, hs, hd', hfar, hw, hk⟩ := hrel
    have hc := hw.cell
    rw [hs.len] at hc
    have HL := Lib.hid hs.len
    have hn1 : n ≤ 1048576 := by omega
    have hnl : n ≤ l'.length := by rw [HL.out]; exact hn
    have HD := Lib.hid hd'
    clear hd'
    by_cases h1 : 2 * i + 1 < n
    · have h1a : (2 * (i : Int) + 1) < (n : Int) := by omega
      by_cases h2 : 2 * i + 2 < n
      · have h2a : (2 * (i : Int) + 1 + 1) < (n : Int) := by omega
        have LL := L.less wr hc
        go_wp2_with fail
        refine (free_less_i g l.length c (2 * i + 2) (2 * i + 1) _ _ (by omega) (by omega) (at_ l' (2 * i + 2)) (at_ l' (2 * i + 1)) _ (by omega) (by omega) (hw.at (by omega)) (hw.at (by omega))).mono ?_
        rintro e w1 ⟨rfl, m, rfl⟩
        have hw1 := hw.drewN m
        have hk1 := hk.drewN m
        have LL := L.less (wr.drewN m) hc
        clear hw hk
        by_cases h3 : at_ l' (2 * i + 2) < at_ l' (2 * i + 1)
        · go_wp2_with fail
          refine (free_less_i g l.length c (2 * i + 2) i _ _ (by omega) (by omega) (at_ l' (2 * i + 2)) (at_ l' i) _ (by omega) (by omega) (hw1.at (by omega)) (hw1.at (by omega))).mono ?_
          rintro e w2 ⟨rfl, m2, rfl⟩
          have hw2 := hw1.drewN m2
          have hk2 := hk1.drewN m2
          rw [World.drewN_drewN] at hw2 hk2
          by_cases h4 : at_ l' (2 * i + 2) < at_ l' i
          · have LS := L.swap _ (hw2.cell.trans (by rw [HL.out]))
            go_wp2_with fail
            have sw := free_swap_i t o g c base l' i (2 * i + 2)
            rw [hs.len] at sw
            refine (sw _ _ rfl (by omega) _ hw2 (by omega) (by omega) (by omega)).mono ?_
            rintro e w3 ⟨rfl, hw3, hk3⟩
            clear sw
            go_wp2_with fail
            go_roundw
            case rel => exact ⟨2 * i + 2, _, by go_num, by omega, hs.trans (Same.swp (by omega) (by omega)), down_step HD.out (by omega) (by omega) hnl (by omega) (fun _ => by omega) h4, Lib.hid (fun k hk => (at_far (by omega) (by omega) (by omega) (by omega) hk).trans (hfar.out k hk)), hw3, hk2.trans hk3⟩
            case measure => simp [intOf]; omega
          · have h4a : decide (at_ l' (2 * i + 2) < at_ l' i) = false := by simpa using h4
            go_wp2_with fail
            go_ret
            exact ⟨⟨_, rfl⟩, l', hs, down_end HD.out (fun _ => by omega) (fun _ => by omega), hfar.out, hw2, hk2⟩
        · have h3a : decide (at_ l' (2 * i + 2) < at_ l' (2 * i + 1)) = false := by simpa using h3
          go_wp2_with fail
          refine (free_less_i g l.length c (2 * i + 1) i _ _ (by omega) (by omega) (at_ l' (2 * i + 1)) (at_ l' i) _ (by omega) (by omega) (hw1.at (by omega)) (hw1.at (by omega))).mono ?_
          rintro e w2 ⟨rfl, m2, rfl⟩
          have hw2 := hw1.drewN m2
          have hk2 := hk1.drewN m2
          rw [World.drewN_drewN] at hw2 hk2
          by_cases h4 : at_ l' (2 * i + 1) < at_ l' i
          · have LS := L.swap _ (hw2.cell.trans (by rw [HL.out]))
            go_wp2_with fail
            have sw := free_swap_i t o g c base l' i (2 * i + 1)
            rw [hs.len] at sw
            refine (sw _ _ rfl (by omega) _ hw2 (by omega) (by omega) (by omega)).mono ?_
            rintro e w3 ⟨rfl, hw3, hk3⟩
            clear sw
            go_wp2_with fail
            go_roundw
            case rel => exact ⟨2 * i + 1, _, by go_num, by omega, hs.trans (Same.swp (by omega) (by omega)), down_step HD.out (by omega) (by omega) hnl (by omega) (fun _ => by omega) h4, Lib.hid (fun k hk => (at_far (by omega) (by omega) (by omega) (by omega) hk).trans (hfar.out k hk)), hw3, hk2.trans hk3⟩
            case measure => simp [intOf]; omega
          · have h4a : decide (at_ l' (2 * i + 1) < at_ l' i) = false := by simpa using h4
            go_wp2_with fail
            go_ret
            exact ⟨⟨_, rfl⟩, l', hs, down_end HD.out (fun _ => by omega) (fun _ => by omega), hfar.out, hw2, hk2⟩
      · have h2a : decide ((2 * (i : Int) + 1 + 1) < (n : Int)) = false := by simp; omega
        have hw1 := hw
        have hk1 := hk
        have LL := L.less wr hc
        clear hw hk
        go_wp2_with fail
        refine (free_less_i g l.length c (2 * i + 1) i _ _ (by omega) (by omega) (at_ l' (2 * i + 1)) (at_ l' i) _ (by omega) (by omega) (hw1.at (by omega)) (hw1.at (by omega))).mono ?_
        rintro e w2 ⟨rfl, m2, rfl⟩
        have hw2 := hw1.drewN m2
        have hk2 := hk1.drewN m2
        by_cases h4 : at_ l' (2 * i + 1) < at_ l' i
        · have LS := L.swap _ (hw2.cell.trans (by rw [HL.out]))
          go_wp2_with fail
          have sw := free_swap_i t o g c base l' i (2 * i + 1)
          rw [hs.len] at sw
          refine (sw _ _ rfl (by omega) _ hw2 (by omega) (by omega) (by omega)).mono ?_
          rintro e w3 ⟨rfl, hw3, hk3⟩
          clear sw
          go_wp2_with fail
          go_roundw
          case rel => exact ⟨2 * i + 1, _, by go_num, by omega, hs.trans (Same.swp (by omega) (by omega)), down_step HD.out (by omega) (by omega) hnl (by omega) (fun _ => by omega) h4, Lib.hid (fun k hk => (at_far (by omega) (by omega) (by omega) (by omega) hk).trans (hfar.out k hk)), hw3, hk2.trans hk3⟩
          case measure => simp [intOf]; omega
        · have h4a : decide (at_ l' (2 * i + 1) < at_ l' i) = false := by simpa using h4
          go_wp2_with fail
          go_ret
          exact ⟨⟨_, rfl⟩, l', hs, down_end HD.out (fun _ => by omega) (fun _ => by omega), hfar.out, hw2, hk2⟩
    · have h1a : ((n : Int) ≤ 2 * (i : Int) + 1) := by omega
      go_wp2_with fail
      go_ret
      exact ⟨⟨_, rfl⟩, l', hs, down_end HD.out (fun h => absurd h h1) (fun h => absurd h (by omega)), hfar.out, hw, hk⟩


end Go.Proofs.Ytejnhhpjlajngaa
end
/- part PushPop. PROVED HERE: contracts of container/heap's Push and Pop at a *slots.free. CONDITIONS: as the theorems say: the pointer's cell holds a slice that owns its row; the numbers are a heap of different numbers; at most 1048576 of them. -/
section
namespace Go.Proofs.Ytejnhhpjlajngaa
open Go.RowKit HeapM

set_option maxHeartbeats 1000000 in
theorem free_swap_same (g n c i : Nat) (x : Int) (w : World) (hi : i < n) (ci : w.cell? ⟨g, i, none⟩ = some (.int .i64 x)) (fi : w.frozen? ⟨g, i, none⟩ = false) :
    Calls Try.prog 87 #[.slice (some ⟨g, 0, none⟩) n c, .int .i64 i, .int .i64 i] w fun e w' => e = .returned (.tuple #[]) ∧ ∃ m, w' = ((w.setCell ⟨g, i, none⟩ (.int .i64 x)).setCell ⟨g, i, none⟩ (.int .i64 x)).drewN m := by
  have hi' : (i : Int) < (n : Int) := by omega
  go_enter Try.func87, Try.ntmps87
  go_wp2_with fail
  go_region
  go_end0
  exact ⟨rfl, 1, rfl⟩

theorem free_swap_ends (t o g c base n : Nat) (l : List Int) (hl : l.length = n + 1) (j : Int) (hj : j = (n : Int)) (w : World) (h : HW t o g c base l w) :
    Calls Try.prog 87 #[.slice (some ⟨g, 0, none⟩) (n + 1) c, .int .i64 0, .int .i64 j] w fun e w' => e = .returned (.tuple #[]) ∧ HW t o g c base (swp l 0 n) w' ∧ Keeps (· = g) w w' := by
  subst hj
  by_cases h0 : n = 0
  · subst h0
    have := free_swap_same g 1 c 0 (at_ l 0) w (by omega) (h.at (by omega)) (h.own.frozenAt 0)
    refine this.mono fun e w' ⟨he, m, hw⟩ => ⟨he, ?_, ?_⟩
    · rw [hw]; exact (h.swap 0 0).drewN m
    · rw [hw]; exact (((Keeps.refl (· = g) w).setCell (p := ⟨g, 0, none⟩) (.inr rfl) _).setCell (p := ⟨g, 0, none⟩) (.inr rfl) _).drewN m
  · have := free_swap_i t o g c base l 0 n 0 n rfl rfl w h (by omega) (by omega) (by omega)
    rw [hl] at this
    exact this

theorem HW.pop {t o g c base n : Nat} {l : List Int} {w : World} (h : HW t o g c base l w) (hl : l.length = n + 1) : w.ownsRow base 3 1 (.slice (some ⟨g, 0, none⟩) n c) n (ints (l.take n)) := by
  have e : ints l = ints (l.take n) ++ ints (l.drop n) := by simp only [ints, ← List.map_append, List.take_append_drop]
  have h1 := h.own
  rw [e, hl] at h1
  exact ownsRow_pop (by simp [ints]; omega) h1
theorem HW.cap {t o g c base : Nat} {l : List Int} {w : World} (h : HW t o g c base l w) : l.length ≤ c := by
  rcases h.own.2 with ⟨e, _⟩ | ⟨g', cap, cur, e, _, _, r, _⟩
  · injection e with e; cases e
  · injection e with e1 e2 e3
    omega

set_option maxRecDepth 100000 in
set_option maxHeartbeats 2000000 in
theorem heap_pop (t o g c base n : Nat) (l : List Int) (w : World) (h : HW t o g c base l w) (hl : l.length = n + 1) (hp : Hp (n + 1) l) (hi : Inj l) (hm : n + 1 ≤ 1048576) (hf : w.frozen? ⟨t, o, none⟩ = false) :
    Calls Try.prog 30 #[.iface 66 (.pointer (some ⟨t, o, none⟩))] w fun e w' => e = .returned (.iface 3 (.int .i64 (at_ l 0))) ∧
      ∃ l' w1, l'.length = n ∧ Hp n l' ∧ Inj l' ∧ (∀ x, x ∈ l' ↔ x ∈ l ∧ x ≠ at_ l 0) ∧ w1.ownsRow base 3 1 (.slice (some ⟨g, 0, none⟩) n c) n (ints l') ∧ Keeps (· = g) w w1 ∧
        w' = w1.setCell ⟨t, o, none⟩ (.slice (some ⟨g, 0, none⟩) n c) := by
  have L := looks ⟨t, o, none⟩ (.slice (some ⟨g, 0, none⟩) l.length c)
  have nn := n_len ⟨t, o, none⟩
  have ns := n_swap ⟨t, o, none⟩
  have np := n_pop ⟨t, o, none⟩
  have mp := m_pop ⟨t, o, none⟩
  have LN := L.len w h.cell
  have LS := L.swap w h.cell
  have HL := Lib.hid hl
  rw [hl] at LN LS
  clear hl
  go_enter Try.func30, Try.ntmps30
  go_wp2_with fail
  refine (free_len _ _ _ _).mono ?_
  rintro e w0 ⟨rfl, rfl⟩
  go_wp2_with fail
  refine (free_swap_ends t o g c base n l HL.out _ (by omega) _ h).mono ?_
  rintro e w1 ⟨rfl, hw1, hk1⟩
  go_wp2_with fail
  have hd := heap_down t o g c base n (swp l 0 n) w1 hw1 (by rw [len_swp, HL.out]; omega) (down_begin hp HL.out) (by rw [len_swp, HL.out]; exact hm)
  refine (hd.mono ?_)
  rintro e w2 ⟨⟨bb, rfl⟩, l', hs, hp', hfar, hw2, hk2⟩
  clear hd
  have hlen : l'.length = n + 1 := by rw [hs.len, len_swp, HL.out]
  have hcell := hw2.cell
  rw [hlen] at hcell
  have hcap := hw2.cap
  have htlt := h.lt
  have hf2 : w2.frozen? ⟨t, o, none⟩ = false := by
    rw [(hk1.trans hk2).frozen (p := ⟨t, o, none⟩) htlt h.ne]
    exact hf
  have hlast : at_ l' n = at_ l 0 := by
    rw [hfar n (Nat.le_refl _), at_swp (by rw [HL.out]; omega) (by rw [HL.out]; omega)]
    simp [sw]
  have hx := hw2.at (k := n) (by omega)
  rw [hlast] at hx
  have HLen := Lib.hid hlen
  have HLast := Lib.hid hlast
  clear hlen hlast
  go_wp2_with fail
  refine (free_pop t o g n c (at_ l 0) w2 (by have := HLen.out; omega) hcell hf2 hx hm).mono ?_
  rintro e w3 ⟨rfl, rfl⟩
  go_wp2_with fail
  go_ret
  have sm := (Same.swp (l := l) (i := 0) (j := n) (by rw [HL.out]; omega) (by rw [HL.out]; omega)).trans hs
  refine ⟨rfl, l'.take n, w2, by simp [HLen.out], hp_take hp', inj_take (sm.inj hi), fun x => ?_, hw2.pop HLen.out, hk1.trans hk2, rfl⟩
  rw [pop_mem HLen.out (sm.inj hi), sm.mem, HLast.out]

theorem ints_append (l : List Int) (x : Int) : ints l ++ [.int .i64 x] = ints (l ++ [x]) := by simp [ints]

set_option maxRecDepth 100000 in
set_option maxHeartbeats 2000000 in
theorem heap_push (t o base : Nat) (v : Value) (l : List Int) (x : Int) (w : World) (ht : w.cell? ⟨t, o, none⟩ = some v) (hf : w.frozen? ⟨t, o, none⟩ = false) (hown : w.ownsRow base 3 1 v l.length (ints l))
    (hne : v.ownBlock ≠ some t) (hm : l.length + 1 ≤ 1048576) (hbase : base ≤ w.heap.size) (hp : Hp l.length l) (htl : t < w.heap.size) :
    Calls Try.prog 32 #[.iface 66 (.pointer (some ⟨t, o, none⟩)), .iface 3 (.int .i64 x)] w fun e w' => e = .returned (.tuple #[]) ∧
      ∃ g c l', Same (l ++ [x]) l' ∧ Hp l'.length l' ∧ HW t o g c base l' w' ∧ (v.ownBlock = some g ∨ w.heap.size ≤ g) ∧
        ∃ w1, Keeps (fun k => v.ownBlock = some k) w w1 ∧ Keeps (· = g) (w1.setCell ⟨t, o, none⟩ (.slice (some ⟨g, 0, none⟩) (l.length + 1) c)) w' := by
  have nn := n_len ⟨t, o, none⟩
  have np := n_push ⟨t, o, none⟩
  have mp := m_push ⟨t, o, none⟩
  go_enter Try.func32, Try.ntmps32
  go_wp2_with fail
  refine (free_push t o base l.length v (ints l) x w ht hf hown hne hm hbase).mono ?_
  rintro e w0 ⟨rfl, g, c, w1, hown1, hg1, hloc, rfl⟩
  have hk1 : Keeps (fun k => v.ownBlock = some k) w w1 := (Keeps.refl _ _).grown hg1 (fun k hk => .inr hk)
  have hgt : t ≠ g := by
    rintro rfl
    rcases hloc with h | h
    · exact hne h
    · omega
  have ht1 : w1.cell? ⟨t, o, none⟩ = some v := (hk1.cell (p := ⟨t, o, none⟩) htl hne).trans ht
  have HW1 : HW t o g c base (l ++ [x]) (w1.setCell ⟨t, o, none⟩ (.slice (some ⟨g, 0, none⟩) (l.length + 1) c)) := by
    refine ⟨?_, ?_, hgt, by simpa [World.setCell] using Nat.lt_of_lt_of_le htl hk1.size⟩
    · rw [World.cell?_setCell_same _ _ _ ht1]; simp
    · rw [List.length_append, List.length_singleton, ← ints_append]
      refine Keeps.ownsRow (S := (· = t)) ((Keeps.refl (· = t) w1).setCell (p := ⟨t, o, none⟩) (.inr rfl) _) hown1 ?_
      intro k hk e
      simp [Value.ownBlock] at hk
      omega
  have hc := HW1.cell
  rw [List.length_append, List.length_singleton] at hc
  generalize hW : w1.setCell ⟨t, o, none⟩ (.slice (some ⟨g, 0, none⟩) (l.length + 1) c) = w2 at *
  have LN := (looks ⟨t, o, none⟩ (.slice (some ⟨g, 0, none⟩) (l.length + 1) c)).len w2 hc
  have HWe := Lib.hid hW
  clear hW ht1 hown1 hown hg1
  go_wp2_with fail
  refine (free_len _ _ _ _).mono ?_
  rintro e w3 ⟨rfl, rfl⟩
  go_wp2_with fail
  have hu := heap_up t o g c base (l ++ [x]) l.length w3 HW1 (by simp) (up_begin hp x) (by simpa using hm)
  refine hu.mono ?_
  rintro e w4 ⟨rfl, l', hs, hp', hw4, hk4⟩
  go_wp2_with fail
  go_end0
  exact ⟨rfl, g, c, l', hs, hp', hw4, hloc, w1, hk1, by rw [HWe.out]; exact hk4⟩
end Go.Proofs.Ytejnhhpjlajngaa
end
/- part TabMath. PROVED HERE: plain lemmas on a table of handles as a list of pairs by rising handle: the least handle that is free, putting in, taking out, and how they go with a list of numbers given back and a counter. No program. CONDITIONS: none. -/
section
namespace Go.Proofs.Ytejnhhpjlajngaa.TabM
open HeapM
variable {V U : Type}

/-- the handles in use, with what they stand for, by rising handle -/
abbrev Used (V : Type) := List (Int × V)
def keys (us : Used V) : List Int := us.map (·.1)
def get (us : Used V) (h : Int) : Option V := (us.find? (fun p => p.1 == h)).map (·.2)
def Rising : List Int → Prop := List.Pairwise (· < ·)
def leastFrom : Int → List Int → Int
  | h, [] => h
  | h, k :: r => if k = h then leastFrom (h + 1) r else h
def least (us : Used V) : Int := leastFrom 1 (keys us)
def ins (h : Int) (v : V) : Used V → Used V
  | [] => [(h, v)]
  | p :: r => if h < p.1 then (h, v) :: p :: r else p :: ins h v r
def del (h : Int) (us : Used V) : Used V := us.filter (fun p => p.1 != h)
def set_ (h : Int) (v : V) (us : Used V) : Used V := us.map (fun p => if p.1 == h then (h, v) else p)

/-- what a table's counter 'next' and the numbers given back 'l' are to the handles in use -/
structure TI (next : Int) (l : List Int) (us : Used V) : Prop where
  rise : Rising (keys us)
  pos : ∀ h ∈ keys us, 1 ≤ h ∧ h < next
  back : ∀ h ∈ l, 1 ≤ h ∧ h < next ∧ h ∉ keys us
  all : ∀ h, 1 ≤ h → h < next → h ∈ keys us ∨ h ∈ l
  count : (us.length : Int) + l.length = next - 1
  heap : Hp l.length l
  inj : Inj l

theorem keys_nil : keys ([] : Used V) = [] := rfl
theorem keys_cons (p : Int × V) (us : Used V) : keys (p :: us) = p.1 :: keys us := rfl
theorem keys_map (f : V → U) (us : Used V) : keys (us.map fun p => (p.1, f p.2)) = keys us := by simp [keys]
theorem get_none {us : Used V} {h : Int} : get us h = none ↔ h ∉ keys us := by
  unfold get keys
  rw [Option.map_eq_none_iff, List.find?_eq_none]
  simp only [List.mem_map, not_exists, not_and, beq_iff_eq]
theorem get_some {us : Used V} {h : Int} {v : V} (e : get us h = some v) : h ∈ keys us := by
  apply Classical.byContradiction
  intro hn
  rw [get_none.2 hn] at e; cases e
theorem get_map (f : V → U) (us : Used V) (h : Int) : get (us.map fun p => (p.1, f p.2)) h = (get us h).map f := by
  unfold get
  rw [List.find?_map]
  simp only [Function.comp_def, Option.map_map]
theorem keys_ins (h : Int) (v : V) (us : Used V) (x : Int) : x ∈ keys (ins h v us) ↔ x = h ∨ x ∈ keys us := by
  induction us with
  | nil => simp [ins, keys]
  | cons p r ih =>
    unfold ins
    split
    · simp [keys]
    · rw [keys_cons, keys_cons, List.mem_cons, List.mem_cons, ih]
      constructor
      · rintro (h1 | h1 | h1)
        · exact .inr (.inl h1)
        · exact .inl h1
        · exact .inr (.inr h1)
      · rintro (h1 | h1 | h1)
        · exact .inr (.inl h1)
        · exact .inl h1
        · exact .inr (.inr h1)
theorem rise_ins {h : Int} {v : V} {us : Used V} (hr : Rising (keys us)) (hn : h ∉ keys us) : Rising (keys (ins h v us)) := by
  induction us with
  | nil => simp [ins, keys, Rising]
  | cons p r ih =>
    unfold Rising at *
    rw [keys_cons, List.pairwise_cons] at hr
    rw [keys_cons, List.mem_cons, not_or] at hn
    unfold ins
    split
    · rename_i hlt
      rw [keys_cons, keys_cons, List.pairwise_cons, List.pairwise_cons]
      refine ⟨?_, hr⟩
      intro x hx
      rcases List.mem_cons.1 hx with e | e
      · rw [e]; exact hlt
      · have := hr.1 x e; show h < x; omega
    · rename_i hlt
      rw [keys_cons, List.pairwise_cons]
      refine ⟨fun x hx => ?_, ih hr.2 hn.2⟩
      rcases (keys_ins h v r x).1 hx with e | e
      · rw [e]; have := hn.1; omega
      · exact hr.1 x e
theorem get_ins {h : Int} {v : V} {us : Used V} (hn : h ∉ keys us) (x : Int) : get (ins h v us) x = if x = h then some v else get us x := by
  induction us with
  | nil =>
    by_cases e : x = h
    · subst e; simp [ins, get]
    · simp [ins, get, e, Ne.symm e]
  | cons p r ih =>
    rw [keys_cons, List.mem_cons, not_or] at hn
    unfold ins
    split
    · unfold get
      by_cases e : x = h
      · subst e; simp
      · simp [e, Ne.symm e]
    · have ih' := ih hn.2
      unfold get at ih' ⊢
      rw [List.find?_cons, List.find?_cons]
      by_cases e : p.1 = x
      · have : x ≠ h := by rintro rfl; exact hn.1 e.symm
        simp [e, this]
      · simp only [show (p.1 == x) = false by simpa using e]
        exact ih'
theorem len_ins (h : Int) (v : V) (us : Used V) : (ins h v us).length = us.length + 1 := by
  induction us with
  | nil => rfl
  | cons p r ih => unfold ins; split <;> simp [ih]
theorem ins_last {h : Int} {v : V} {us : Used V} (hl : ∀ x ∈ keys us, x < h) : ins h v us = us ++ [(h, v)] := by
  induction us with
  | nil => rfl
  | cons p r ih =>
    rw [keys_cons] at hl
    have h1 := hl p.1 (by simp)
    unfold ins
    rw [if_neg (by omega), ih (fun x hx => hl x (by simp [hx]))]
    rfl
theorem ins_map (f : V → U) (h : Int) (v : V) (us : Used V) : (ins h v us).map (fun p => (p.1, f p.2)) = ins h (f v) (us.map fun p => (p.1, f p.2)) := by
  induction us with
  | nil => rfl
  | cons p r ih => unfold ins; simp only [List.map_cons]; split <;> simp_all
theorem del_map (f : V → U) (h : Int) (us : Used V) : (del h us).map (fun p => (p.1, f p.2)) = del h (us.map fun p => (p.1, f p.2)) := by
  unfold del; rw [List.filter_map]; rfl
theorem set_map (f : V → U) (h : Int) (v : V) (us : Used V) : (set_ h v us).map (fun p => (p.1, f p.2)) = set_ h (f v) (us.map fun p => (p.1, f p.2)) := by
  unfold set_
  rw [List.map_map, List.map_map]
  apply List.map_congr_left
  intro p _
  simp only [Function.comp_def]
  split <;> rfl
theorem keys_del (h : Int) (us : Used V) : keys (del h us) = (keys us).filter (· != h) := by
  unfold keys del; rw [List.filter_map]; rfl
theorem keys_set (h : Int) (v : V) (us : Used V) : keys (set_ h v us) = keys us := by
  unfold keys set_
  rw [List.map_map]
  apply List.map_congr_left
  intro p _
  simp only [Function.comp_def]
  split
  · rename_i e; simpa using (by simpa using e : p.1 = h).symm
  · rfl
theorem get_del (h : Int) (us : Used V) (x : Int) : get (del h us) x = if x = h then none else get us x := by
  by_cases e : x = h
  · subst e
    rw [if_pos rfl, get_none, keys_del]
    simp
  · rw [if_neg e]
    unfold get del
    rw [List.find?_filter]
    congr 2
    funext p
    by_cases e2 : p.1 = x
    · simp [e2, e]
    · simp [e2]
theorem get_set {h : Int} {v : V} {us : Used V} (x : Int) : get (set_ h v us) x = if x = h ∧ h ∈ keys us then some v else get us x := by
  induction us with
  | nil => simp [set_, get, keys]
  | cons p r ih =>
    unfold get set_ at ih ⊢
    rw [List.map_cons, List.find?_cons, List.find?_cons, keys_cons]
    by_cases e1 : p.1 = h
    · by_cases e2 : x = h
      · subst e2; simp [e1]
      · simp only [e1, beq_self_eq_true, if_true, show (h == x) = false by simpa using Ne.symm e2]
        rw [ih, if_neg (fun h => e2 h.1), if_neg (fun h => e2 h.1)]
    · by_cases e3 : p.1 = x
      · have : x ≠ h := by rintro rfl; exact e1 e3
        simp [e3, this]
      · simp only [show (p.1 == h) = false by simpa using e1, show (p.1 == x) = false by simpa using e3, Bool.false_eq_true, if_false]
        rw [ih]
        by_cases e2 : x = h
        · simp [e2, Ne.symm e1]
        · simp [e2]
theorem len_del {h : Int} {us : Used V} (hr : Rising (keys us)) (hm : h ∈ keys us) : (del h us).length + 1 = us.length := by
  induction us with
  | nil => simp [keys] at hm
  | cons p r ih =>
    unfold Rising at *
    rw [keys_cons, List.pairwise_cons] at hr
    unfold del at ih ⊢
    rw [List.filter_cons]
    by_cases e : p.1 = h
    · have : r.filter (fun q => q.1 != h) = r := by
        rw [List.filter_eq_self]
        intro q hq
        have := hr.1 q.1 (List.mem_map_of_mem hq)
        simp; omega
      simp [e, this]
    · rw [keys_cons, List.mem_cons] at hm
      have := ih hr.2 (hm.resolve_left (Ne.symm e))
      simp [e]; omega
theorem leastFrom_spec : ∀ (ks : List Int) (h : Int), Rising ks → (∀ x ∈ ks, h ≤ x) → h ≤ leastFrom h ks ∧ leastFrom h ks ∉ ks ∧ ∀ x, h ≤ x → x < leastFrom h ks → x ∈ ks
  | [], h, _, _ => ⟨Int.le_refl _, by simp [leastFrom], fun x h1 h2 => by simp [leastFrom] at h2; omega⟩
  | k :: r, h, hr, hge => by
    unfold Rising at hr
    rw [List.pairwise_cons] at hr
    unfold leastFrom
    by_cases e : k = h
    · rw [if_pos e]
      obtain ⟨i1, i2, i3⟩ := leastFrom_spec r (h + 1) hr.2 (fun x hx => by have := hr.1 x hx; omega)
      refine ⟨by omega, ?_, fun x h1 h2 => ?_⟩
      · rw [List.mem_cons, not_or]; exact ⟨by omega, i2⟩
      · by_cases e2 : x = h
        · rw [e2, ← e]; simp
        · exact List.mem_cons_of_mem _ (i3 x (by omega) h2)
    · rw [if_neg e]
      refine ⟨Int.le_refl _, ?_, fun x h1 h2 => by omega⟩
      rw [List.mem_cons, not_or]
      refine ⟨Ne.symm e, fun hm => ?_⟩
      have h1 := hr.1 h hm
      have h2 := hge k (by simp)
      omega
theorem least_unique {us : Used V} (hr : Rising (keys us)) (hp : ∀ x ∈ keys us, 1 ≤ x) {h : Int} (h1 : 1 ≤ h) (hn : h ∉ keys us) (hall : ∀ x, 1 ≤ x → x < h → x ∈ keys us) : least us = h := by
  obtain ⟨i1, i2, i3⟩ := leastFrom_spec (keys us) 1 hr hp
  unfold least
  rcases Int.lt_trichotomy (leastFrom 1 (keys us)) h with hlt | he | hgt
  · exact absurd (hall _ i1 hlt) i2
  · exact he
  · exact absurd (i3 h h1 hgt) hn

/-! ### the counter and the numbers given back -/
theorem TI.empty : TI 1 [] ([] : Used V) :=
  ⟨List.Pairwise.nil, by simp [keys], by simp, fun h h1 h2 => by omega, rfl, fun i h1 h2 => by simp at h2, fun a b h1 => by simp at h1⟩
/-- none was given back: the least is the counter -/
theorem TI.least_next {next : Int} {us : Used V} (h : TI next [] us) : least us = next := by
  have hc := h.count
  simp at hc
  refine least_unique h.rise (fun x hx => (h.pos x hx).1) (by omega) (fun hm => ?_) (fun x h1 h2 => (h.all x h1 h2).resolve_right (by simp))
  have := (h.pos _ hm).2; omega
theorem TI.put_next {next : Int} {us : Used V} (h : TI next [] us) (v : V) : TI (next + 1) [] (ins next v us) := by
  have hc := h.count
  simp at hc
  have hn : next ∉ keys us := fun hm => by have := (h.pos _ hm).2; omega
  refine ⟨rise_ins h.rise hn, fun x hx => ?_, by simp, fun x h1 h2 => ?_, by rw [len_ins]; simp; omega, fun i h1 h2 => by simp at h2, fun a b h1 => by simp at h1⟩
  · rcases (keys_ins next v us x).1 hx with e | e
    · omega
    · have := h.pos x e; omega
  · by_cases e : x = next
    · exact .inl ((keys_ins next v us x).2 (.inl e))
    · exact .inl ((keys_ins next v us x).2 (.inr ((h.all x h1 (by omega)).resolve_right (by simp))))
/-- some were given back: the least is the heap's top -/
theorem TI.least_back {next : Int} {l : List Int} {us : Used V} (h : TI next l us) (hl : 0 < l.length) : least us = at_ l 0 := by
  have hm : at_ l 0 ∈ l := mem_at.2 ⟨0, hl, rfl⟩
  obtain ⟨b1, b2, b3⟩ := h.back _ hm
  refine least_unique h.rise (fun x hx => (h.pos x hx).1) b1 b3 (fun x h1 h2 => (h.all x h1 (by omega)).resolve_right (fun hx => ?_))
  obtain ⟨k, hk, e⟩ := mem_at.1 hx
  have := HeapM.least h.heap k hk
  omega
theorem TI.put_back {next : Int} {l l' : List Int} {us : Used V} (h : TI next l us) (hl : 0 < l.length) (v : V) (hlen : l'.length + 1 = l.length) (hp : Hp l'.length l') (hi : Inj l') (hm : ∀ x, x ∈ l' ↔ x ∈ l ∧ x ≠ at_ l 0) :
    TI next l' (ins (at_ l 0) v us) := by
  have h0 : at_ l 0 ∈ l := mem_at.2 ⟨0, hl, rfl⟩
  obtain ⟨b1, b2, b3⟩ := h.back _ h0
  have hc := h.count
  refine ⟨rise_ins h.rise b3, fun x hx => ?_, fun x hx => ?_, fun x h1 h2 => ?_, by rw [len_ins]; push_cast; omega, hp, hi⟩
  · rcases (keys_ins _ v us x).1 hx with e | e
    · omega
    · exact h.pos x e
  · have hx' := (hm x).1 hx
    have := h.back x hx'.1
    refine ⟨this.1, this.2.1, fun hk => ?_⟩
    rcases (keys_ins _ v us x).1 hk with e | e
    · exact hx'.2 e
    · exact this.2.2 e
  · by_cases e : x = at_ l 0
    · exact .inl ((keys_ins _ v us x).2 (.inl e))
    · rcases h.all x h1 h2 with h3 | h3
      · exact .inl ((keys_ins _ v us x).2 (.inr h3))
      · exact .inr ((hm x).2 ⟨h3, e⟩)
theorem TI.drop {next h0 : Int} {l l' : List Int} {us : Used V} (h : TI next l us) (hm : h0 ∈ keys us) (hs : Same (l ++ [h0]) l') (hp : Hp l'.length l') : TI next l' (del h0 us) := by
  obtain ⟨p1, p2⟩ := h.pos _ hm
  have hn : h0 ∉ l := fun hx => (h.back _ hx).2.2 hm
  have hlen := hs.len
  rw [List.length_append, List.length_singleton] at hlen
  have hc := h.count
  have hd := len_del h.rise hm
  refine ⟨?_, fun x hx => ?_, fun x hx => ?_, fun x h1 h2 => ?_, by omega, hp, hs.inj ?_⟩
  · rw [keys_del]; exact List.Pairwise.filter _ h.rise
  · rw [keys_del, List.mem_filter] at hx
    exact h.pos x hx.1
  · rw [hs.mem, List.mem_append, List.mem_singleton] at hx
    rw [keys_del, List.mem_filter]
    rcases hx with hx | hx
    · have := h.back x hx
      exact ⟨this.1, this.2.1, fun hk => this.2.2 hk.1⟩
    · subst hx
      exact ⟨p1, p2, fun hk => by simp at hk⟩
  · rw [keys_del, List.mem_filter, hs.mem, List.mem_append, List.mem_singleton]
    rcases h.all x h1 h2 with h3 | h3
    · by_cases e : x = h0
      · exact .inr (.inr e)
      · exact .inl ⟨h3, by simpa using e⟩
    · exact .inr (.inl h3)
  · intro a b ha hb e
    rw [List.length_append, List.length_singleton] at ha hb
    have g : ∀ k, k < l.length → at_ (l ++ [h0]) k = at_ l k := fun k hk => by
      unfold at_; rw [List.getD_eq_getElem?_getD, List.getD_eq_getElem?_getD, List.getElem?_append_left hk]
    have g2 : at_ (l ++ [h0]) l.length = h0 := by unfold at_; simp [List.getD_eq_getElem?_getD]
    have inl : ∀ k, k < l.length → at_ l k ≠ h0 := fun k hk e => hn (e ▸ mem_at.2 ⟨k, hk, rfl⟩)
    by_cases ha' : a < l.length
    · by_cases hb' : b < l.length
      · rw [g a ha', g b hb'] at e; exact h.inj a b ha' hb' e
      · obtain rfl : b = l.length := by omega
        rw [g a ha', g2] at e; exact absurd e (inl a ha')
    · obtain rfl : a = l.length := by omega
      by_cases hb' : b < l.length
      · rw [g b hb', g2] at e; exact absurd e.symm (inl b hb')
      · omega
theorem TI.set {next h0 : Int} {l : List Int} {us : Used V} (h : TI next l us) (v : V) : TI next l (set_ h0 v us) := by
  refine ⟨by rw [keys_set]; exact h.rise, by rw [keys_set]; exact h.pos, by rw [keys_set]; exact h.back, by rw [keys_set]; exact h.all, ?_, h.heap, h.inj⟩
  have := h.count
  simp only [set_, List.length_map]
  exact this
end Go.Proofs.Ytejnhhpjlajngaa.TabM
end
/- part Tab. PROVED HERE: the predicate 'Tab' (what a slots.Table in memory is good for) and its general lemmas. CONDITIONS: none. -/
section
namespace Go.Proofs.Ytejnhhpjlajngaa
open Go.RowKit HeapM TabM Go.Maps

theorem lawI : Keyed Try.prog 3 := int_keyed Try.underlying3

/-- the map of a table, as a function of the key's datum -/
def tabf (us : Used Value) : Lit → Option Value
  | .int .i64 h => TabM.get us h
  | _ => none

theorem upd_ins {us : Used Value} {h : Int} (hn : h ∉ keys us) (v : Value) : upd (tabf us) (.int .i64 h) (some v) = tabf (ins h v us) := by
  funext x
  unfold upd tabf
  cases x with
  | int k n =>
    by_cases hk : k = .i64
    · subst hk
      simp only [Lit.sameKey, true_and, decide_eq_true_eq]
      rw [get_ins hn]
    · have e : (Lit.int k n).sameKey (.int .i64 h) = false := by simp [Lit.sameKey, hk]
      rw [e]
      cases k <;> first | rfl | exact absurd rfl hk
  | _ => rfl
theorem upd_del {us : Used Value} {h : Int} : upd (tabf us) (.int .i64 h) none = tabf (del h us) := by
  funext x
  unfold upd tabf
  cases x with
  | int k n =>
    by_cases hk : k = .i64
    · subst hk
      simp only [Lit.sameKey, true_and, decide_eq_true_eq]
      rw [get_del]
    · have e : (Lit.int k n).sameKey (.int .i64 h) = false := by simp [Lit.sameKey, hk]
      rw [e]
      cases k <;> first | rfl | exact absurd rfl hk
  | _ => rfl
theorem upd_set {us : Used Value} {h : Int} (hm : h ∈ keys us) (v : Value) : upd (tabf us) (.int .i64 h) (some v) = tabf (set_ h v us) := by
  funext x
  unfold upd tabf
  cases x with
  | int k n =>
    by_cases hk : k = .i64
    · subst hk
      simp only [Lit.sameKey, true_and, decide_eq_true_eq]
      rw [TabM.get_set]
      simp [hm]
    · have e : (Lit.int k n).sameKey (.int .i64 h) = false := by simp [Lit.sameKey, hk]
      rw [e]
      cases k <;> first | rfl | exact absurd rfl hk
  | _ => rfl

/-- the parts of a table in memory, all named: t its block, m its map's block, v the slice of the numbers given back -/
structure TabP (TT : TypeId) (t m base : Nat) (v : Value) (l : List Int) (next most peak : Int) (us : Used Value) (w : World) : Prop where
  blk : w.heap[t]? = some (.cells #[.int .i64 most, .int .i64 peak, .map (some m), v, .int .i64 next] TT (0, 0))
  map : MapIs Try.prog 3 w m (tabf us) us.length
  own : w.ownsRow base 3 1 v l.length (ints l)
  ti : TI next l us
  most0 : (us.length : Int) ≤ most
  most1 : most ≤ 1024
  next1 : next ≤ most + 1
  tt : TT ≠ 3
  bt : base ≤ t
  bm : base ≤ m
  peak0 : 0 ≤ peak ∧ peak ≤ 1024

/-- block t of w is a table with these handles in use; 'row': where its numbers given back lie -/
def Tab (TT : TypeId) (t m base : Nat) (row : Option Nat) (most peak : Int) (us : Used Value) (w : World) : Prop :=
  ∃ v l next, TabP TT t m base v l next most peak us w ∧ v.ownBlock = row

/-- behind a call: still a table; its row is the one that it was, or a new one -/
def TabPost (TT : TypeId) (t m base : Nat) (row : Option Nat) (most peak : Int) (us : Used Value) (w w' : World) : Prop :=
  ∃ v' l' next', TabP TT t m base v' l' next' most peak us w' ∧ (v'.ownBlock = row ∨ ∃ g, v'.ownBlock = some g ∧ w.heap.size ≤ g)

section tab
variable {TT : TypeId} {t m base : Nat} {v : Value} {l : List Int} {next most peak : Int} {us : Used Value} {w w' : World} {row : Option Nat}
theorem TabP.lt (h : TabP TT t m base v l next most peak us w) : t < w.heap.size := by
  rcases Nat.lt_or_ge t w.heap.size with hlt | hge
  · exact hlt
  · have := h.blk; rw [Array.getElem?_eq_none hge] at this; cases this
theorem TabP.mt (h : TabP TT t m base v l next most peak us w) : m ≠ t := h.map.not_cells h.blk
theorem TabP.vt (h : TabP TT t m base v l next most peak us w) : v.ownBlock ≠ some t := by
  rcases h.own.2 with ⟨rfl, _⟩ | ⟨g, cap, cur, rfl, _, hh, _⟩
  · simp [Value.ownBlock]
  · intro e
    have e' : g = t := by simpa [Value.ownBlock] using e
    subst e'
    have h1 := h.blk
    rw [hh] at h1
    injection h1 with h1
    injection h1 with _ h1
    exact h.tt h1.symm
theorem TabP.vm (h : TabP TT t m base v l next most peak us w) : v.ownBlock ≠ some m := by
  rcases h.own.2 with ⟨rfl, _⟩ | ⟨g, cap, cur, rfl, _, hh, _⟩
  · simp [Value.ownBlock]
  · intro e
    have e' : g = m := by simpa [Value.ownBlock] using e
    subst e'
    exact h.map.not_cells hh rfl
theorem TabP.vlt (h : TabP TT t m base v l next most peak us w) : ∀ k, v.ownBlock = some k → base ≤ k ∧ k < w.heap.size := h.own.lt
theorem TabP.cell (h : TabP TT t m base v l next most peak us w) (i : Nat) : w.cell? ⟨t, i, none⟩ = (#[Value.int .i64 most, .int .i64 peak, .map (some m), v, .int .i64 next] : Array Value)[i]? := by
  have := h.blk
  simp [World.cell?, this]
theorem TabP.free (h : TabP TT t m base v l next most peak us w) (i : Nat) : w.frozen? ⟨t, i, none⟩ = false := by
  have := h.blk
  simp [World.frozen?, this]
theorem TabP.keeps {S : Nat → Prop} (h : TabP TT t m base v l next most peak us w) (k : Keeps S w w') (h1 : ¬ S t) (h2 : ¬ S m) (h3 : ∀ b, v.ownBlock = some b → ¬ S b) : TabP TT t m base v l next most peak us w' :=
  ⟨(k.block t h.lt h1).trans h.blk, h.map.keeps k h2, k.ownsRow h.own h3, h.ti, h.most0, h.most1, h.next1, h.tt, h.bt, h.bm, h.peak0⟩
theorem TabP.drewN (h : TabP TT t m base v l next most peak us w) (n : Nat) : TabP TT t m base v l next most peak us (w.drewN n) :=
  h.keeps (S := fun _ => False) ((Keeps.refl _ _).drewN n) (fun h => h) (fun h => h) (fun _ _ h => h)
theorem TabP.llen (h : TabP TT t m base v l next most peak us w) : (l.length : Int) ≤ 1024 ∧ (us.length : Int) ≤ 1024 ∧ 1 ≤ next ∧ next ≤ 1025 := by
  have h1 := h.ti.count
  have h2 := h.next1
  have h3 := h.most1
  have h4 := h.most0
  refine ⟨by omega, by omega, by omega, by omega⟩
theorem TabP.mapblk (h : TabP TT t m base v l next most peak us w) : ∃ es clock, w.heap[m]? = some (.map es clock) ∧ es.size = us.length := by
  obtain ⟨D, ⟨es, clock, hb, _, _, hD⟩, hs, _⟩ := h.map
  refine ⟨es, clock, hb, ?_⟩
  rw [← hs, hD]
  simp [Maps.size, length_sorted]
theorem Tab.keeps {S : Nat → Prop} (h : Tab TT t m base row most peak us w) (k : Keeps S w w') (h1 : ¬ S t) (h2 : ¬ S m) (h3 : ∀ b, row = some b → ¬ S b) : Tab TT t m base row most peak us w' := by
  obtain ⟨v, l, next, h, rfl⟩ := h
  exact ⟨v, l, next, h.keeps k h1 h2 h3, rfl⟩
/-- the last step of a Put: the peak is stored -/
theorem TabP.of_store (blk : w.heap[t]? = some (.cells #[.int .i64 most, .int .i64 peak, .map (some m), v, .int .i64 next] TT (0, 0))) {n : Nat} (map : MapIs Try.prog 3 w m (tabf us) n) (hn : us.length = n)
    (own : w.ownsRow base 3 1 v l.length (ints l)) (ti : TI next l us) (most0 : (us.length : Int) ≤ most) (most1 : most ≤ 1024) (next1 : next ≤ most + 1) (tt : TT ≠ 3) (bt : base ≤ t) (bm : base ≤ m) (hv : v.ownBlock ≠ some t) {peak' : Int} (hp : 0 ≤ peak' ∧ peak' ≤ 1024) :
    TabP TT t m base v l next most peak' us (w.setCell ⟨t, 1, none⟩ (.int .i64 peak')) := by
  have k : Keeps (· = t) w (w.setCell ⟨t, 1, none⟩ (.int .i64 peak')) := (Keeps.refl (· = t) w).setCell (p := ⟨t, 1, none⟩) (.inr rfl) _
  refine ⟨?_, ?_, k.ownsRow own (fun b hb e => hv (by rw [hb, e])), ti, most0, most1, next1, tt, bt, bm, hp⟩
  · simp [World.setCell, Array.getElem?_modify, blk]
  · rw [hn]; exact map.keeps k (map.not_cells blk)
end tab
end Go.Proofs.Ytejnhhpjlajngaa
end
/- part Sep. PROVED HERE: a small separation logic over blocks: what a part of memory is good for, with its footprint; parts with footprints apart from one another are kept by a step on one of them. CONDITIONS: none. -/
section
namespace Go.Proofs.Ytejnhhpjlajngaa
open Go.RowKit

abbrev Fp := Nat → Prop
/-- a part of memory: what holds of it, over its footprint -/
structure Asn where
  h : Fp → World → Prop
  lt : ∀ {F w}, h F w → ∀ k, F k → k < w.heap.size
  st : ∀ {F w}, h F w → ∀ {S : Nat → Prop} {w' : World}, Keeps S w w' → (∀ k, F k → ¬ S k) → h F w'

/-- a step on footprint F: nothing else of old has turned; the footprint grows by new blocks alone -/
structure Step (F : Fp) (w : World) (F' : Fp) (w' : World) : Prop where
  keeps : Keeps F w w'
  grow : ∀ k, F' k → F k ∨ w.heap.size ≤ k

def Apart (F G : Fp) : Prop := ∀ k, F k → ¬ G k
def PD (l : List Fp) : Prop := l.Pairwise Apart

theorem Apart.symm {F G : Fp} (h : Apart F G) : Apart G F := fun k a b => h k b a
theorem Step.refl (F : Fp) (w : World) : Step F w F w := ⟨Keeps.refl _ _, fun _ h => .inl h⟩
theorem Step.trans {F G H : Fp} {a b c : World} (h : Step F a G b) (k : Step G b H c) : Step F a H c := by
  refine ⟨⟨k.keeps.os.trans h.keeps.os, k.keeps.tape.trans h.keeps.tape, k.keeps.output.trans h.keeps.output, Nat.le_trans h.keeps.size k.keeps.size, fun i hi hn => ?_⟩, fun i hi => ?_⟩
  · refine (k.keeps.block i (Nat.lt_of_lt_of_le hi h.keeps.size) (fun hg => ?_)).trans (h.keeps.block i hi hn)
    rcases h.grow i hg with e | e
    · exact hn e
    · omega
  · rcases k.grow i hi with e | e
    · exact h.grow i e
    · exact .inr (Nat.le_trans h.keeps.size e)
/-- a step that touches nothing of old is a step on any footprint -/
theorem Step.quiet {F : Fp} {w w' : World} (h : Keeps (fun _ => False) w w') : Step F w F w' := ⟨h.mono (fun _ _ e => e.elim), fun _ e => .inl e⟩
theorem Asn.frame {A : Asn} {F G F' : Fp} {w w' : World} (hA : A.h G w) (hs : Step F w F' w') (hd : Apart G F) : A.h G w' ∧ Apart G F' := by
  refine ⟨A.st hA hs.keeps hd, fun k hg hf => ?_⟩
  rcases hs.grow k hf with e | e
  · exact hd k hg e
  · have := A.lt hA k hg; omega
theorem Asn.quiet {A : Asn} {G : Fp} {w w' : World} (hA : A.h G w) (hs : Keeps (fun _ => False) w w') : A.h G w' := A.st hA hs (fun _ _ h => h)
theorem Asn.below {A : Asn} {G : Fp} {B : Nat} {w w' : World} (hA : A.h G w) (hs : Below B w w') (hG : ∀ k, G k → k < B) : A.h G w' :=
  A.st hA (S := fun k => B ≤ k) (Keeps.of_below hs (fun _ _ h => h)) (fun k hk h => by have := hG k hk; omega)

/-- four parts, each apart from the others, all from block B on -/
structure Sep4 (B : Nat) (A1 A2 A3 A4 : Asn) (w0 w : World) : Prop where
  ex : ∃ F1 F2 F3 F4, A1.h F1 w ∧ A2.h F2 w ∧ A3.h F3 w ∧ A4.h F4 w ∧ Apart F1 F2 ∧ Apart F1 F3 ∧ Apart F1 F4 ∧ Apart F2 F3 ∧ Apart F2 F4 ∧ Apart F3 F4 ∧
    (∀ k, F1 k → B ≤ k) ∧ (∀ k, F2 k → B ≤ k) ∧ (∀ k, F3 k → B ≤ k) ∧ (∀ k, F4 k → B ≤ k)
  below : Below B w0 w
  size : B ≤ w.heap.size

section sep
variable {B : Nat} {A1 A2 A3 A4 A1' A2' A3' A4' : Asn} {w0 w w' : World}
theorem Sep4.step1 (h : Sep4 B A1 A2 A3 A4 w0 w) (hs : ∀ F, A1.h F w → ∃ F', A1'.h F' w' ∧ Step F w F' w') : Sep4 B A1' A2 A3 A4 w0 w' := by
  obtain ⟨⟨F1, F2, F3, F4, h1, h2, h3, h4, d12, d13, d14, d23, d24, d34, b1, b2, b3, b4⟩, hb, hz⟩ := h
  obtain ⟨F', h1', st⟩ := hs F1 h1
  obtain ⟨k2, e2⟩ := Asn.frame h2 st d12.symm
  obtain ⟨k3, e3⟩ := Asn.frame h3 st d13.symm
  obtain ⟨k4, e4⟩ := Asn.frame h4 st d14.symm
  refine ⟨⟨F', F2, F3, F4, h1', k2, k3, k4, e2.symm, e3.symm, e4.symm, d23, d24, d34, fun k hk => ?_, b2, b3, b4⟩, hb.trans (st.keeps.below b1 hz), Nat.le_trans hz st.keeps.size⟩
  rcases st.grow k hk with e | e
  · exact b1 k e
  · omega
theorem Sep4.swap12 (h : Sep4 B A1 A2 A3 A4 w0 w) : Sep4 B A2 A1 A3 A4 w0 w := by
  obtain ⟨⟨F1, F2, F3, F4, h1, h2, h3, h4, d12, d13, d14, d23, d24, d34, b1, b2, b3, b4⟩, hb, hz⟩ := h
  exact ⟨⟨F2, F1, F3, F4, h2, h1, h3, h4, d12.symm, d23, d24, d13, d14, d34, b2, b1, b3, b4⟩, hb, hz⟩
theorem Sep4.swap13 (h : Sep4 B A1 A2 A3 A4 w0 w) : Sep4 B A3 A2 A1 A4 w0 w := by
  obtain ⟨⟨F1, F2, F3, F4, h1, h2, h3, h4, d12, d13, d14, d23, d24, d34, b1, b2, b3, b4⟩, hb, hz⟩ := h
  exact ⟨⟨F3, F2, F1, F4, h3, h2, h1, h4, d23.symm, d13.symm, d34, d12.symm, d24, d14, b3, b2, b1, b4⟩, hb, hz⟩
theorem Sep4.swap14 (h : Sep4 B A1 A2 A3 A4 w0 w) : Sep4 B A4 A2 A3 A1 w0 w := by
  obtain ⟨⟨F1, F2, F3, F4, h1, h2, h3, h4, d12, d13, d14, d23, d24, d34, b1, b2, b3, b4⟩, hb, hz⟩ := h
  exact ⟨⟨F4, F2, F3, F1, h4, h2, h3, h1, d24.symm, d34.symm, d14.symm, d23, d12.symm, d13.symm, b4, b2, b3, b1⟩, hb, hz⟩
theorem Sep4.step2 (h : Sep4 B A1 A2 A3 A4 w0 w) (hs : ∀ F, A2.h F w → ∃ F', A2'.h F' w' ∧ Step F w F' w') : Sep4 B A1 A2' A3 A4 w0 w' := (h.swap12.step1 hs).swap12
theorem Sep4.step3 (h : Sep4 B A1 A2 A3 A4 w0 w) (hs : ∀ F, A3.h F w → ∃ F', A3'.h F' w' ∧ Step F w F' w') : Sep4 B A1 A2 A3' A4 w0 w' := (h.swap13.step1 hs).swap13
theorem Sep4.step4 (h : Sep4 B A1 A2 A3 A4 w0 w) (hs : ∀ F, A4.h F w → ∃ F', A4'.h F' w' ∧ Step F w F' w') : Sep4 B A1 A2 A3 A4' w0 w' := (h.swap14.step1 hs).swap14
theorem Sep4.quiet (h : Sep4 B A1 A2 A3 A4 w0 w) (hs : Keeps (fun _ => False) w w') : Sep4 B A1 A2 A3 A4 w0 w' :=
  h.step1 (fun F hF => ⟨F, hF |> fun h => Asn.quiet h hs, Step.quiet hs⟩)
theorem Sep4.get1 (h : Sep4 B A1 A2 A3 A4 w0 w) : ∃ F, A1.h F w ∧ ∀ k, F k → B ≤ k := by
  obtain ⟨⟨F1, F2, F3, F4, h1, _, _, _, _, _, _, _, _, _, b1, _⟩, _⟩ := h
  exact ⟨F1, h1, b1⟩
theorem Sep4.get2 (h : Sep4 B A1 A2 A3 A4 w0 w) : ∃ F, A2.h F w ∧ ∀ k, F k → B ≤ k := h.swap12.get1
theorem Sep4.get3 (h : Sep4 B A1 A2 A3 A4 w0 w) : ∃ F, A3.h F w ∧ ∀ k, F k → B ≤ k := h.swap13.get1
theorem Sep4.get4 (h : Sep4 B A1 A2 A3 A4 w0 w) : ∃ F, A4.h F w ∧ ∀ k, F k → B ≤ k := h.swap14.get1
end sep
end Go.Proofs.Ytejnhhpjlajngaa
end
/- part V. PROVED HERE: a program logic over the model's 'wp': a frame as a list of known slots, memory as a list of parts that lie apart from one another and from what is only read; a run of operations is evaluated by the kernel. CONDITIONS: none. No statement of the seat is proved here. -/
section
namespace Go.Proofs.Ytejnhhpjlajngaa
open Go.RowKit

/-! ### memory -/
/-- what is only read: the blocks of O are as they are in w0 -/
structure Bs where
  O : Nat → Prop
  w0 : World

structure Bs.ok (β : Bs) (w : World) : Prop where
  os : w.os = β.w0.os
  tape : w.tape = β.w0.tape
  output : w.output = β.w0.output
  size : β.w0.heap.size ≤ w.heap.size
  old : ∀ k, β.O k → k < β.w0.heap.size ∧ w.heap[k]? = β.w0.heap[k]?

theorem Bs.ok.keeps {β : Bs} {S : Nat → Prop} {w w' : World} (h : β.ok w) (k : Keeps S w w') (hs : ∀ i, β.O i → ¬ S i) : β.ok w' :=
  ⟨k.os.trans h.os, k.tape.trans h.tape, k.output.trans h.output, Nat.le_trans h.size k.size, fun i hi => ⟨(h.old i hi).1, (k.block i (Nat.lt_of_lt_of_le (h.old i hi).1 h.size) (hs i hi)).trans (h.old i hi).2⟩⟩
theorem Bs.ok.cell {β : Bs} {w : World} (h : β.ok w) {a : Addr} {v : Value} (ho : β.O a.block ∧ β.w0.cell? a = some v) : w.cell? a = some v :=
  (World.cell?_of_block (w := β.w0) (h.old a.block ho.1).2).trans ho.2

/-- a part of memory -/
inductive HP
  | blk (b : Nat) (cs : List Value) (T : TypeId)
  | abs (A : Asn)

def HP.h : HP → Fp → World → Prop
  | .blk b cs T, F, w => w.heap[b]? = some (.cells ⟨cs⟩ T (0, 0)) ∧ ∀ k, F k ↔ k = b
  | .abs A, F, w => A.h F w

theorem lt_of_some {α : Type} {xs : Array α} {i : Nat} {x : α} (h : xs[i]? = some x) : i < xs.size := by
  rcases Nat.lt_or_ge i xs.size with hl | hl
  · exact hl
  · rw [Array.getElem?_eq_none hl] at h; cases h
theorem HP.lt {p : HP} {F : Fp} {w : World} (h : p.h F w) (k : Nat) (hk : F k) : k < w.heap.size := by
  cases p with
  | blk b cs T => obtain ⟨h1, h2⟩ := h; rw [(h2 k).1 hk]; exact lt_of_some h1
  | abs A => exact A.lt h k hk
theorem HP.st {p : HP} {F : Fp} {w w' : World} {S : Nat → Prop} (h : p.h F w) (k : Keeps S w w') (hn : ∀ i, F i → ¬ S i) : p.h F w' := by
  cases p with
  | blk b cs T => obtain ⟨h1, h2⟩ := h; exact ⟨(k.block b (lt_of_some h1) (hn b ((h2 b).2 rfl))).trans h1, h2⟩
  | abs A => exact A.st h k hn

def Sat (β : Bs) (l : List HP) (w : World) : Prop :=
  β.ok w ∧ ∃ φ : Nat → Fp, (∀ (i : Nat) (p : HP), l[i]? = some p → p.h (φ i) w) ∧ (∀ i, i < l.length → ∀ k, φ i k → ¬ β.O k) ∧ ∀ i j, i < l.length → j < l.length → i ≠ j → Apart (φ i) (φ j)

section sat
variable {β : Bs} {l l' : List HP} {w w' : World} {p p' : HP} {i : Nat}
theorem len_of_some {α : Type} {xs : List α} {i : Nat} {x : α} (h : xs[i]? = some x) : i < xs.length := by
  rcases Nat.lt_or_ge i xs.length with hl | hl
  · exact hl
  · rw [List.getElem?_eq_none hl] at h; cases h
theorem some_of_len {α : Type} {xs : List α} {i : Nat} (h : i < xs.length) : ∃ x, xs[i]? = some x := ⟨xs[i], List.getElem?_eq_getElem h⟩
theorem Sat.quiet (h : Sat β l w) (k : Keeps (fun _ => False) w w') : Sat β l w' := by
  obtain ⟨ho, φ, h1, h2, h3⟩ := h
  exact ⟨ho.keeps k (fun _ _ h => h), φ, fun i p hp => HP.st (h1 i p hp) k (fun _ _ h => h), h2, h3⟩
theorem Sat.drewN (h : Sat β l w) (n : Nat) : Sat β l (w.drewN n) := h.quiet ((Keeps.refl _ _).drewN n)
theorem Sat.get (h : Sat β l w) (hp : l[i]? = some p) : ∃ F, p.h F w := by
  obtain ⟨_, φ, h1, _⟩ := h
  exact ⟨φ i, h1 i p hp⟩
theorem Sat.set (h : Sat β l w) (hp : l[i]? = some p) (hs : ∀ F, p.h F w → ∃ F', p'.h F' w' ∧ Step F w F' w') : Sat β (l.set i p') w' := by
  obtain ⟨ho, φ, h1, h2, h3⟩ := h
  obtain ⟨F', hF', st⟩ := hs _ (h1 i p hp)
  have hi := len_of_some hp
  have hlt : ∀ j, j < l.length → ∀ k, φ j k → k < w.heap.size := fun j hj k hk => by
    obtain ⟨q, hq⟩ := some_of_len hj
    exact HP.lt (h1 j q hq) k hk
  have hap : ∀ j, j < l.length → j ≠ i → ∀ k, F' k → φ j k → False := fun j hj hne k hk hk' => by
    rcases st.grow k hk with e | e
    · exact h3 i j hi hj (fun e => hne e.symm) k e hk'
    · have := hlt j hj k hk'; omega
  refine ⟨ho.keeps st.keeps (fun k hk hk' => h2 i hi k hk' hk), fun j => if j = i then F' else φ j, fun j q hq => ?_, fun j hj k hk hO => ?_, fun j1 j2 hj1 hj2 hne k hk hk' => ?_⟩
  · by_cases e : j = i
    · subst e
      rw [List.getElem?_set_self hi] at hq
      cases hq
      simpa using hF'
    · rw [List.getElem?_set_ne (fun e' => e e'.symm)] at hq
      simp only [e, if_false]
      exact HP.st (h1 j q hq) st.keeps (fun k hk hk' => h3 i j hi (len_of_some hq) (fun e' => e e'.symm) k hk' hk)
  · rw [List.length_set] at hj
    by_cases e : j = i
    · subst e
      simp only [if_true] at hk
      rcases st.grow k hk with e | e
      · exact h2 j hi k e hO
      · have := (ho.old k hO).1; have := ho.size; omega
    · simp only [e, if_false] at hk
      exact h2 j hj k hk hO
  · rw [List.length_set] at hj1 hj2
    by_cases e1 : j1 = i
    · by_cases e2 : j2 = i
      · exact hne (e1.trans e2.symm)
      · simp only [e1, if_true] at hk
        simp only [e2, if_false] at hk'
        exact hap j2 hj2 e2 k hk hk'
    · simp only [e1, if_false] at hk
      by_cases e2 : j2 = i
      · simp only [e2, if_true] at hk'
        exact hap j1 hj1 e1 k hk' hk
      · simp only [e2, if_false] at hk'
        exact h3 j1 j2 hj1 hj2 hne k hk hk'
theorem Sat.new {F : Fp} (h : Sat β l w) (hF : p.h F w') (k : Keeps (fun _ => False) w w') (hn : ∀ k, F k → w.heap.size ≤ k) : Sat β (l ++ [p]) w' := by
  obtain ⟨ho, φ, h1, h2, h3⟩ := h
  have hlt : ∀ j, j < l.length → ∀ k, φ j k → k < w.heap.size := fun j hj k hk => by
    obtain ⟨q, hq⟩ := some_of_len hj
    exact HP.lt (h1 j q hq) k hk
  refine ⟨ho.keeps k (fun _ _ h => h), fun j => if j = l.length then F else φ j, fun j q hq => ?_, fun j hj k hk hO => ?_, fun j1 j2 hj1 hj2 hne k hk hk' => ?_⟩
  · by_cases e : j = l.length
    · subst e
      simp at hq
      subst hq
      simpa using hF
    · have hj : j < l.length := by have := len_of_some hq; simp at this; omega
      rw [List.getElem?_append_left hj] at hq
      simp only [e, if_false]
      exact HP.st (h1 j q hq) k (fun _ _ h => h)
  · by_cases e : j = l.length
    · simp only [e, if_true] at hk
      have := (ho.old k hO).1; have := ho.size; have := hn k hk; omega
    · simp only [e, if_false] at hk
      exact h2 j (by simp at hj; omega) k hk hO
  · simp at hj1 hj2
    by_cases e1 : j1 = l.length
    · by_cases e2 : j2 = l.length
      · exact hne (e1.trans e2.symm)
      · simp only [e1, if_true] at hk
        simp only [e2, if_false] at hk'
        have := hlt j2 (by omega) k hk'; have := hn k hk; omega
    · simp only [e1, if_false] at hk
      by_cases e2 : j2 = l.length
      · simp only [e2, if_true] at hk'
        have := hlt j1 (by omega) k hk; have := hn k hk'; omega
      · simp only [e2, if_false] at hk'
        exact h3 j1 j2 (by omega) (by omega) hne k hk hk'
/-- some parts of a list, by their places -/
def pickL (l : List HP) : List Nat → Option (List HP)
  | [] => some []
  | i :: r => match l[i]? with
    | some p => match pickL l r with
      | some q => some (p :: q)
      | none => none
    | none => none
def nodupB : List Nat → Bool
  | [] => true
  | i :: r => !(r.contains i) && nodupB r
theorem nodupB_spec : ∀ {idx : List Nat}, nodupB idx = true → idx.Nodup
  | [], _ => List.nodup_nil
  | i :: r, h => by
    simp only [nodupB, Bool.and_eq_true, Bool.not_eq_true', List.contains_eq_mem, decide_eq_false_iff_not] at h
    exact List.nodup_cons.2 ⟨h.1, nodupB_spec h.2⟩
theorem pickL_spec : ∀ {idx : List Nat} {l' : List HP}, pickL l idx = some l' → l'.length = idx.length ∧ ∀ (j : Nat) (p : HP), l'[j]? = some p → ∃ i : Nat, idx[j]? = some i ∧ l[i]? = some p
  | [], l', h => by cases h; exact ⟨rfl, fun j p hp => by simp at hp⟩
  | i :: r, l', h => by
    unfold pickL at h
    split at h
    · rename_i q hq
      split at h
      · rename_i q' hq'
        cases h
        obtain ⟨h1, h2⟩ := pickL_spec hq'
        refine ⟨by simp [h1], fun j p hp => ?_⟩
        cases j with
        | zero => simp at hp; subst hp; exact ⟨i, rfl, hq⟩
        | succ j => simpa using h2 j p (by simpa using hp)
      · cases h
    · cases h
theorem Sat.pick {idx : List Nat} (h : Sat β l w) (hn : nodupB idx = true) (hp : pickL l idx = some l') : Sat β l' w := by
  obtain ⟨ho, φ, h1, h2, h3⟩ := h
  obtain ⟨hl, hi⟩ := pickL_spec hp
  have hnd := nodupB_spec hn
  have key : ∀ j, j < l'.length → idx.getD j 0 < l.length := fun j hj => by
    obtain ⟨p, hp⟩ := some_of_len hj
    obtain ⟨i, e, hi⟩ := hi j p hp
    rw [List.getD_eq_getElem?_getD, e]
    exact len_of_some hi
  refine ⟨ho, fun j => φ (idx.getD j 0), fun j p hp => ?_, fun j hj => h2 _ (key j hj), fun j1 j2 hj1 hj2 hne => h3 _ _ (key j1 hj1) (key j2 hj2) (fun e => hne ?_)⟩
  · obtain ⟨i, e, hi⟩ := hi j p hp
    show p.h (φ (idx.getD j 0)) w
    rw [List.getD_eq_getElem?_getD, e]
    exact h1 i p hi
  · rw [hl] at hj1 hj2
    rw [List.getD_eq_getElem?_getD, List.getD_eq_getElem?_getD, List.getElem?_eq_getElem hj1, List.getElem?_eq_getElem hj2] at e
    have hp := List.pairwise_iff_getElem.1 hnd
    rcases Nat.lt_trichotomy j1 j2 with h | h | h
    · exact absurd (by simpa using e) (hp j1 j2 hj1 hj2 h)
    · exact h
    · exact absurd (by simpa using e.symm) (hp j2 j1 hj2 hj1 h)
end sat

/-! ### a frame: some slots are known -/
abbrev Fr := List (Nat × Value)
def lk : Fr → (Nat → Value) → Nat → Value
  | [], j, t => j t
  | (i, v) :: r, j, t => match Nat.beq i t with
    | true => v
    | false => lk r j t
def mkA (N : Nat) (fr : Fr) (junk : Nat → Value) : Act := ⟨((List.range N).map (lk fr junk)).toArray, []⟩
def evF (N : Nat) (fr : Fr) (junk : Nat → Value) : Operand → Value
  | .tmp t => match Nat.blt t N with
    | true => lk fr junk t
    | false => undef
  | .const v => v
  | .global g => .pointer (some ⟨g, 0, none⟩)
  | .func f => .func (.func f) #[] #[]
theorem mkA_get (N : Nat) (fr : Fr) (junk : Nat → Value) (t : Nat) : (mkA N fr junk).tmps[t]? = if t < N then some (lk fr junk t) else none := by
  unfold mkA
  by_cases h : t < N
  · simp [h]
  · simp [h]
theorem mkA_eval (N : Nat) (fr : Fr) (junk : Nat → Value) : (mkA N fr junk).eval = evF N fr junk := by
  funext x
  cases x with
  | tmp t =>
    simp only [Act.eval, evF, Array.getD_eq_getD_getElem?, mkA_get]
    by_cases h : t < N
    · have : Nat.blt t N = true := by simpa [Nat.blt_eq] using h
      simp [h, this]
    · have : Nat.blt t N = false := by
        cases hb : Nat.blt t N
        · rfl
        · exact absurd (by simpa [Nat.blt_eq] using hb) h
      simp [h, this]
  | const v => rfl
  | global g => rfl
  | func f => rfl
def putF (fr : Fr) (d : Option Tmp) (v : Value) : Fr := match d with
  | some d => (d, v) :: fr
  | none => fr
theorem lk_cons (i : Nat) (v : Value) (fr : Fr) (junk : Nat → Value) (t : Nat) : lk ((i, v) :: fr) junk t = if i = t then v else lk fr junk t := by
  simp only [lk]
  by_cases h : i = t
  · subst h; simp [Nat.beq_refl]
  · have : Nat.beq i t = false := by
      cases hb : Nat.beq i t
      · rfl
      · exact absurd (Nat.eq_of_beq_eq_true hb) h
    simp [h, this]
theorem mkA_put (N : Nat) (fr : Fr) (junk : Nat → Value) (d : Option Tmp) (v : Value) : (mkA N fr junk).put d v = mkA N (putF fr d v) junk := by
  cases d with
  | none => rfl
  | some d =>
    unfold Act.put
    have hd : (mkA N fr junk).defers = (mkA N (putF fr (some d) v) junk).defers := rfl
    have ht : (mkA N fr junk).tmps.setIfInBounds d v = (mkA N (putF fr (some d) v) junk).tmps := by
      apply Array.ext_getElem?
      intro t
      rw [Array.getElem?_setIfInBounds, mkA_get, mkA_get]
      have hs : (mkA N fr junk).tmps.size = N := by simp [mkA]
      simp only [putF, lk_cons, hs]
      by_cases h : d = t
      · subst h
        simp
      · simp [h]
    show Act.mk _ _ = _
    rw [ht]
    rfl
theorem mkA_defers (N : Nat) (fr : Fr) (junk : Nat → Value) : (mkA N fr junk).defers = [] := rfl
def yF (ops : Array Oper) (N : Nat) (fr : Fr) (junk : Nat → Value) (j : Nat) : Option Bool :=
  match ops.toList[j]? with
  | some o => match o.dst with
    | some d => match Nat.blt d N with
      | true => match lk fr junk d with
        | .bool b => some b
        | _ => none
      | false => none
    | none => none
  | none => none
theorem yF_eq (ops : Array Oper) (N : Nat) (fr : Fr) (junk : Nat → Value) (j : Nat) : yielded ops (mkA N fr junk).tmps j = yF ops N fr junk j := by
  unfold yielded yF
  rw [Array.getElem?_toList]
  cases ops[j]? with
  | none => rfl
  | some o =>
    simp only [Option.bind_some]
    cases o.dst with
    | none => rfl
    | some d =>
      simp only [Option.bind_some, mkA_get]
      by_cases h : d < N
      · have : Nat.blt d N = true := by simpa [Nat.blt_eq] using h
        simp only [h, this, if_true]
        cases lk fr junk d <;> rfl
      · have : Nat.blt d N = false := by
          cases hb : Nat.blt d N
          · rfl
          · exact absurd (by simpa [Nat.blt_eq] using hb) h
        simp [h, this]
/-- some slots of a frame -/
def pickF (fr : Fr) (junk : Nat → Value) : List Nat → Fr
  | [] => []
  | i :: r => (i, lk fr junk i) :: pickF fr junk r
theorem lk_pickF (fr : Fr) (junk : Nat → Value) : ∀ (idx : List Nat) (t : Nat), lk (pickF fr junk idx) (lk fr junk) t = lk fr junk t
  | [], _ => rfl
  | i :: r, t => by
    rw [pickF, lk_cons]
    by_cases h : i = t
    · simp [h]
    · simp [h, lk_pickF fr junk r t]
theorem mkA_pick (N : Nat) (fr : Fr) (junk : Nat → Value) (idx : List Nat) : mkA N fr junk = mkA N (pickF fr junk idx) (lk fr junk) := by
  unfold mkA
  have : (List.range N).map (lk fr junk) = (List.range N).map (lk (pickF fr junk idx) (lk fr junk)) := List.map_congr_left (fun t _ => (lk_pickF fr junk idx t).symm)
  rw [this]
end Go.Proofs.Ytejnhhpjlajngaa
end
/- part Vr. PROVED HERE: the kernel's run of operations over a known frame and known memory is the model's run. CONDITIONS: none. No statement of the seat is proved here. -/
section
namespace Go.Proofs.Ytejnhhpjlajngaa
open Go.RowKit

/-! ### the kernel runs the operations -/
inductive Hint
  | at (i : Nat)
  | old (v : Value)
  | view (i : Nat) (v : Value)
structure SS where
  hints : List Hint
  hps : List HP
  obl : List Prop
  used : Bool

def AllP : List Prop → Prop
  | [] => True
  | p :: r => p ∧ AllP r
theorem AllP.mem : ∀ {l : List Prop}, AllP l → ∀ {p : Prop}, p ∈ l → p
  | [], _, _, h => by cases h
  | _ :: _, h, _, hm => by
    rcases List.mem_cons.1 hm with e | e
    · exact e ▸ h.1
    · exact h.2.mem e

def srun (P : Program) (β : Bs) (n : Nat) (ro : Bool) {α : Type} : Sem α → SS → Option (α × SS)
  | .pure a, s => some (a, s)
  | .load _ a k, s =>
    match s.hints with
    | .at i :: hs =>
      match s.hps[i]? with
      | some (.blk b cs _) =>
        match a.spot with
        | none =>
          match cs[a.off]? with
          | some v => srun P β n ro (k v) { s with hints := hs, obl := (a.block = b) :: s.obl }
          | none => none
        | some _ => none
      | _ => none
    | .old v :: hs => srun P β n ro (k v) { s with hints := hs, obl := (β.O a.block ∧ β.w0.cell? a = some v) :: s.obl }
    | .view i v :: hs =>
      match s.hps[i]? with
      | some (.abs A) => srun P β n ro (k v) { s with hints := hs, obl := (∀ F w, A.h F w → w.cell? a = some v) :: s.obl }
      | _ => none
    | [] => none
  | .store _ a v k, s =>
    match ro with
    | true => none
    | false =>
    match v with
    | .agg _ => none
    | .tuple _ => none
    | v =>
      match s.hints with
      | .at i :: hs =>
        match s.hps[i]? with
        | some (.blk b cs T) =>
          match a.spot with
          | none =>
            match cs[a.off]? with
            | some _ => srun P β n ro k { s with hints := hs, hps := s.hps.set i (.blk b (cs.set a.off v) T), obl := (a.block = b) :: s.obl }
            | none => none
          | some _ => none
        | _ => none
      | _ => none
  | .new o k, s =>
    match ro, s.used, o with
    | false, false, .cells c T (0, 0) => srun P β n ro (k n) { s with hps := s.hps ++ [.blk n c.toList T], used := true }
    | _, _, _ => none
  | .shape r k, s =>
    match s.hints with
    | .at i :: hs =>
      match s.hps[i]? with
      | some (.blk b cs T) => srun P β n ro (k (some (T, cs.length))) { s with hints := hs, obl := (r = b) :: s.obl }
      | _ => none
    | _ => none
  | .frozen a k, s =>
    match s.hints with
    | .at i :: hs =>
      match s.hps[i]? with
      | some (.blk b _ _) => srun P β n ro (k false) { s with hints := hs, obl := (a.block = b) :: s.obl }
      | _ => none
    | _ => none
  | .program k, s => srun P β n ro (k P) s
  | .mark _ k, s => srun P β n ro k s
  | .freeze .., _ => none
  | .getObj .., _ => none
  | .setObj .., _ => none
  | .choose .., _ => none
  | .sys .., _ => none
  | .halt _, _ => none

section sound
variable {P : Program} {β : Bs} {n : Nat} {ro : Bool}
theorem srun_obl {α : Type} : ∀ (s : Sem α) (S S' : SS) (x : α), srun P β n ro s S = some (x, S') → ∀ p, p ∈ S.obl → p ∈ S'.obl := by
  intro s
  induction s with
  | pure a => intro S S' x h p hp; simp only [srun, Option.some.injEq, Prod.mk.injEq] at h; rw [← h.2]; exact hp
  | load m a k ih => intro S S' x h p hp; simp only [srun] at h; (repeat' split at h); all_goals first | (cases h; done) | exact ih _ _ _ _ h p (List.mem_cons_of_mem _ hp)
  | store m a v k ih => intro S S' x h p hp; simp only [srun] at h; (repeat' split at h); all_goals first | (cases h; done) | exact ih _ _ _ h p (List.mem_cons_of_mem _ hp)
  | new o k ih => intro S S' x h p hp; simp only [srun] at h; (repeat' split at h); all_goals first | (cases h; done) | exact ih _ _ _ _ h p hp
  | shape r k ih => intro S S' x h p hp; simp only [srun] at h; (repeat' split at h); all_goals first | (cases h; done) | exact ih _ _ _ _ h p (List.mem_cons_of_mem _ hp)
  | frozen r k ih => intro S S' x h p hp; simp only [srun] at h; (repeat' split at h); all_goals first | (cases h; done) | exact ih _ _ _ _ h p (List.mem_cons_of_mem _ hp)
  | program k ih => intro S S' x h p hp; simp only [srun] at h; exact ih _ _ _ _ h p hp
  | mark m k ih => intro S S' x h p hp; simp only [srun] at h; exact ih _ _ _ h p hp
  | freeze a m k ih => intro S S' x h; simp only [srun] at h; cases h
  | getObj r k ih => intro S S' x h; simp only [srun] at h; cases h
  | setObj r o k ih => intro S S' x h; simp only [srun] at h; cases h
  | choose q k ih => intro S S' x h; simp only [srun] at h; cases h
  | sys c k ih => intro S S' x h; simp only [srun] at h; cases h
  | halt e => intro S S' x h; simp only [srun] at h; cases h

theorem srun_ro {α : Type} : ∀ (s : Sem α) (S S' : SS) (x : α), srun P β n true s S = some (x, S') → S'.hps = S.hps ∧ S'.used = S.used := by
  intro s
  induction s with
  | pure a => intro S S' x h; simp only [srun, Option.some.injEq, Prod.mk.injEq] at h; rw [← h.2]; exact ⟨rfl, rfl⟩
  | load m a k ih => intro S S' x h; simp only [srun] at h; (repeat' split at h); all_goals first | (cases h; done) | (have h' := ih _ _ _ _ h; exact h')
  | store m a v k ih => intro S S' x h; simp only [srun] at h; cases h
  | new o k ih => intro S S' x h; simp only [srun] at h; (repeat' split at h); all_goals first | (cases h; done) | contradiction
  | shape r k ih => intro S S' x h; simp only [srun] at h; (repeat' split at h); all_goals first | (cases h; done) | (have h' := ih _ _ _ _ h; exact h')
  | frozen r k ih => intro S S' x h; simp only [srun] at h; (repeat' split at h); all_goals first | (cases h; done) | (have h' := ih _ _ _ _ h; exact h')
  | program k ih => intro S S' x h; simp only [srun] at h; (have h' := ih _ _ _ _ h; exact h')
  | mark m k ih => intro S S' x h; simp only [srun] at h; exact ih _ _ _ h
  | freeze a m k ih => intro S S' x h; simp only [srun] at h; cases h
  | getObj r k ih => intro S S' x h; simp only [srun] at h; cases h
  | setObj r o k ih => intro S S' x h; simp only [srun] at h; cases h
  | choose q k ih => intro S S' x h; simp only [srun] at h; cases h
  | sys c k ih => intro S S' x h; simp only [srun] at h; cases h
  | halt e => intro S S' x h; simp only [srun] at h; cases h

theorem srun_none {α : Type} : ∀ (s : Sem α) (S S' : SS) (x : α), srun P β n true s S = some (x, S') → S.hints = [] → S'.obl = S.obl := by
  intro s
  induction s with
  | pure a => intro S S' x h; simp only [srun, Option.some.injEq, Prod.mk.injEq] at h; rw [← h.2]; exact fun _ => rfl
  | load m a k ih => intro S S' x h hh; simp only [srun, hh] at h; cases h
  | store m a v k ih => intro S S' x h; simp only [srun] at h; cases h
  | new o k ih => intro S S' x h; simp only [srun] at h; (repeat' split at h); all_goals first | (cases h; done) | contradiction
  | shape r k ih => intro S S' x h hh; simp only [srun, hh] at h; cases h
  | frozen r k ih => intro S S' x h hh; simp only [srun, hh] at h; cases h
  | program k ih => intro S S' x h; simp only [srun] at h; exact ih _ _ _ _ h
  | mark m k ih => intro S S' x h; simp only [srun] at h; exact ih _ _ _ h
  | freeze a m k ih => intro S S' x h; simp only [srun] at h; cases h
  | getObj r k ih => intro S S' x h; simp only [srun] at h; cases h
  | setObj r o k ih => intro S S' x h; simp only [srun] at h; cases h
  | choose q k ih => intro S S' x h; simp only [srun] at h; cases h
  | sys c k ih => intro S S' x h; simp only [srun] at h; cases h
  | halt e => intro S S' x h; simp only [srun] at h; cases h

theorem cell_of_blk {w : World} {b : Nat} {cs : List Value} {T : TypeId} {a : Addr} {v : Value} (h : w.heap[b]? = some (.cells ⟨cs⟩ T (0, 0))) (hs : a.spot = none) (hb : a.block = b) (hv : cs[a.off]? = some v) : w.cell? a = some v ∧ w.frozen? a = false := by
  subst hb
  refine ⟨?_, ?_⟩
  · simp [World.cell?, h, hs, hv]
  · simp [World.frozen?, h]
theorem step_setCell {w : World} {b : Nat} {cs : List Value} {T : TypeId} {a : Addr} {v : Value} {F : Fp} (h : (HP.blk b cs T).h F w) (hs : a.spot = none) (hb : a.block = b) :
    ∃ F', (HP.blk b (cs.set a.off v) T).h F' (w.setCell a v) ∧ Step F w F' (w.setCell a v) := by
  obtain ⟨h1, h2⟩ := h
  refine ⟨F, ⟨?_, h2⟩, ⟨(Keeps.refl _ _).setCell (.inr ((h2 _).2 hb)) v, fun _ h => .inl h⟩⟩
  subst hb
  simp [World.setCell, Array.getElem?_modify, h1, hs, Array.setIfInBounds_def]
  exact fun h => (List.set_eq_of_length_le h).symm
theorem setCell_size' (w : World) (p : Addr) (v : Value) : (w.setCell p v).heap.size = w.heap.size := by simp [World.setCell]

theorem srun_sound {α : Type} : ∀ (s : Sem α) (S S' : SS) (x : α) (w : World), srun P β n ro s S = some (x, S') → (∀ p, p ∈ S'.obl → p) → Sat β S.hps w → (S.used = false → n = w.heap.size) →
    ∃ w', s.run P w = .ok x w' ∧ Sat β S'.hps w' ∧ (S'.used = false → n = w'.heap.size) ∧ (ro = true → w' = w ∧ S'.hps = S.hps) := by
  intro s
  induction s with
  | pure a =>
    intro S S' x w h _ hS hn
    simp only [srun, Option.some.injEq, Prod.mk.injEq] at h
    obtain ⟨rfl, rfl⟩ := h
    exact ⟨w, rfl, hS, hn, fun _ => ⟨rfl, rfl⟩⟩
  | load m a k ih =>
    intro S S' x w h ho hS hn
    simp only [srun] at h
    repeat' split at h
    all_goals first | (cases h; done) | skip
    · rename_i hp _ hs _ v hv
      have hb : a.block = _ := ho _ (srun_obl _ _ _ _ h _ List.mem_cons_self)
      obtain ⟨F, hF⟩ := hS.get hp
      have hc := (cell_of_blk hF.1 hs hb hv).1
      obtain ⟨w', h1, h2⟩ := ih _ _ _ _ w h ho hS hn
      exact ⟨w', by simp only [Sem.run, hc]; exact h1, h2⟩
    · rename_i v hs hh
      have hc := hS.1.cell (ho _ (srun_obl _ _ _ _ h _ List.mem_cons_self))
      obtain ⟨w', h1, h2⟩ := ih _ _ _ _ w h ho hS hn
      exact ⟨w', by simp only [Sem.run, hc]; exact h1, h2⟩
    · rename_i A hp
      obtain ⟨F, hF⟩ := hS.get hp
      have hc := ho _ (srun_obl _ _ _ _ h _ List.mem_cons_self) F w hF
      obtain ⟨w', h1, h2⟩ := ih _ _ _ _ w h ho hS hn
      exact ⟨w', by simp only [Sem.run, hc]; exact h1, h2⟩
  | store m a v k ih =>
    intro S S' x w h ho hS hn
    simp only [srun] at h
    cases ro with
    | true => simp at h
    | false =>
    simp only at h
    split at h
    · cases h
    · cases h
    rename_i hv1 hv2
    repeat' split at h
    all_goals first | (cases h; done) | skip
    rename_i hp _ hs _ u hu
    have hb : a.block = _ := ho _ (srun_obl _ _ _ _ h _ List.mem_cons_self)
    obtain ⟨F, hF⟩ := hS.get hp
    obtain ⟨hc, hf⟩ := cell_of_blk hF.1 hs hb hu
    have hS' := hS.set hp (fun F hF => step_setCell (v := v) hF hs hb)
    obtain ⟨w', h1, h2⟩ := ih _ _ _ (w.setCell a v) h ho hS' (fun e => by rw [setCell_size']; exact hn e)
    refine ⟨w', ?_, h2.1, h2.2.1, fun e => by cases e⟩
    rw [← h1]
    cases v <;> first | (simp only [Sem.run, hc, hf]; rfl) | exact absurd rfl (hv1 _) | exact absurd rfl (hv2 _)
  | new o k ih =>
    intro S S' x w h ho hS hn
    simp only [srun] at h
    split at h
    · rename_i c T hu
      have hn' := hn hu
      have hS' : Sat β (S.hps ++ [.blk n c.toList T]) (w.alloc (.cells c T (0, 0))) := hS.new (F := fun k => k = n) ⟨by rw [hn']; exact heap_alloc_new w _, fun _ => Iff.rfl⟩ ((Keeps.refl _ _).alloc _) (fun k e => by rw [e, hn']; exact Nat.le_refl _)
      obtain ⟨w', h1, h2⟩ := ih _ _ _ _ (w.alloc (.cells c T (0, 0))) h ho hS' (fun e => by cases e)
      refine ⟨w', ?_, h2.1, h2.2.1, fun e => by cases e⟩
      rw [← h1, hn']
      rfl
    · cases h
  | shape r k ih =>
    intro S S' x w h ho hS hn
    simp only [srun] at h
    repeat' split at h
    all_goals first | (cases h; done) | skip
    rename_i b cs T hp
    have hb : r = b := ho _ (srun_obl _ _ _ _ h _ List.mem_cons_self)
    obtain ⟨F, hF⟩ := hS.get hp
    have hc : w.shape? r = some (T, cs.length) := by simp [World.shape?, hb, hF.1]
    obtain ⟨w', h1, h2⟩ := ih _ _ _ _ w h ho hS hn
    exact ⟨w', by simp only [Sem.run, hc]; exact h1, h2⟩
  | frozen a k ih =>
    intro S S' x w h ho hS hn
    simp only [srun] at h
    repeat' split at h
    all_goals first | (cases h; done) | skip
    rename_i b cs T hp
    have hb : a.block = b := ho _ (srun_obl _ _ _ _ h _ List.mem_cons_self)
    obtain ⟨F, hF⟩ := hS.get hp
    have hc : w.frozen? a = false := by simp [World.frozen?, hb, hF.1]
    obtain ⟨w', h1, h2⟩ := ih _ _ _ _ w h ho hS hn
    exact ⟨w', by simp only [Sem.run, hc]; exact h1, h2⟩
  | program k ih => intro S S' x w h ho hS hn; simp only [srun] at h; exact ih _ _ _ _ w h ho hS hn
  | mark m k ih => intro S S' x w h ho hS hn; simp only [srun] at h; exact ih _ _ _ w h ho hS hn
  | freeze a m k ih => intro S S' x w h; simp only [srun] at h; cases h
  | getObj r k ih => intro S S' x w h; simp only [srun] at h; cases h
  | setObj r o k ih => intro S S' x w h; simp only [srun] at h; cases h
  | choose q k ih => intro S S' x w h; simp only [srun] at h; cases h
  | sys c k ih => intro S S' x w h; simp only [srun] at h; cases h
  | halt e => intro S S' x w h; simp only [srun] at h; cases h
end sound
end Go.Proofs.Ytejnhhpjlajngaa
end
/- part Vo. PROVED HERE: the judgements of the logic: an operation, a run of operations within a region, code; calls, loops, branches. CONDITIONS: none. No statement of the seat is proved here. -/
section
namespace Go.Proofs.Ytejnhhpjlajngaa
open Go.RowKit

/-- what is told of an operation ahead: where its cells lie; an index as a natural number; another spelling of its value -/
structure OH where
  hs : List Hint := []
  num : Option Nat := none
  num2 : Option Nat := none
  base : Option Addr := none
  conv : Option Value := none

def o_ : OH := ⟨[], none, none, none, none⟩
def blkOf (A : Option Addr) : Nat := match A with
  | some a => a.block
  | none => 0
def offOf (A : Option Addr) : Nat := match A with
  | some a => a.off
  | none => 0
/-- one operation, run by the kernel -/
def orun0 (P : Program) (β : Bs) (n : Nat) (ro : Bool) (ev : Operand → Value) (o : Oper) (h : OH) (S : SS) : Option (Value × SS) :=
  match h.num with
  | none =>
    match srun P β n ro (execOp ev o) { S with hints := h.hs } with
    | some (.value v, S') => some (v, S')
    | some (.skip, S') => some (undef, S')
    | _ => none
  | some m =>
    match o.op with
    | .indexAddr t x ix =>
      match P.underlying t with
      | some (.slice e) =>
        match P.info? e with
        | some i =>
          match ev x with
          | .slice A len _ =>
            match ev ix with
            | .int _ z =>
              match h.base with
              | some a => some (.pointer (some ⟨a.block, a.off + m * i.size, none⟩), { S with obl := (z = (m : Int)) :: (m < len) :: (a.spot = none) :: (A = some a) :: S.obl })
              | none =>
                match A with
                | some a => some (.pointer (some ⟨a.block, a.off + m * i.size, none⟩), { S with obl := (z = (m : Int)) :: (m < len) :: (a.spot = none) :: S.obl })
                | none => none
            | _ => none
          | _ => none
        | none => none
      | _ => none
    | .index t x ix =>
      match P.underlying t with
      | some .string =>
        match ev x with
        | .string s =>
          match ev ix with
          | .int _ z => some (.int .u8 (s.data.getD m 0).toNat, { S with obl := (z = (m : Int)) :: (m < s.size) :: S.obl })
          | _ => none
        | _ => none
      | _ => none
    | .slice t x lo hi mx =>
      match mx with
      | some _ => none
      | none =>
      match P.underlying t with
      | some .string =>
        match ev x with
        | .string s =>
          match lo, hi with
          | none, some hv =>
            match ev hv with
            | .int _ z => some (.string (s.extract 0 m), { S with obl := (z = (m : Int)) :: (m ≤ s.size) :: S.obl })
            | _ => none
          | some lv, none =>
            match ev lv with
            | .int _ z => some (.string (s.extract m s.size), { S with obl := (z = (m : Int)) :: (m ≤ s.size) :: S.obl })
            | _ => none
          | some lv, some hv =>
            match h.num2 with
            | some m2 =>
              match ev lv with
              | .int _ y =>
                match ev hv with
                | .int _ z => some (.string (s.extract m2 m), { S with obl := (z = (m : Int)) :: (y = (m2 : Int)) :: (m ≤ s.size) :: (m2 ≤ m) :: S.obl })
                | _ => none
              | _ => none
            | none => none
          | none, none => none
        | _ => none
      | some (.slice e) =>
        match P.info? e with
        | some i =>
          match ev x with
          | .slice A len cap =>
            match lo, hi with
            | none, some hv =>
              match ev hv with
              | .int _ z => some (.slice A m cap, { S with obl := (z = (m : Int)) :: (m ≤ cap) :: S.obl })
              | _ => none
            | some lv, none =>
              match ev lv with
              | .int _ z =>
                match h.base with
                | some a => some (.slice (some ⟨a.block, a.off + m * i.size, none⟩) (len - m) (cap - m), { S with obl := (z = (m : Int)) :: (m ≤ len) :: (m < cap) :: (a.spot = none) :: (A = some a) :: S.obl })
                | none =>
                  match A with
                  | some a => some (.slice (some ⟨a.block, a.off + m * i.size, none⟩) (len - m) (cap - m), { S with obl := (z = (m : Int)) :: (m ≤ len) :: (m < cap) :: (a.spot = none) :: S.obl })
                  | none => none
              | _ => none
            | _, _ => none
          | _ => none
        | none => none
      | _ => none
    | _ => none
def orun (P : Program) (β : Bs) (n : Nat) (ro : Bool) (ev : Operand → Value) (o : Oper) (h : OH) (S : SS) : Option (Value × SS) :=
  match orun0 P β n ro ev o h S with
  | some (v, S') =>
    match h.conv with
    | none => some (v, S')
    | some v' => some (v', { S' with obl := (v = v') :: S'.obl })
  | none => none

def Ran (P : Program) (ev : Operand → Value) (o : Oper) (w : World) (v : Value) (w' : World) : Prop :=
  (execOp ev o).run P w = .ok (.value v) w' ∨ (v = undef ∧ (execOp ev o).run P w = .ok .skip w')

theorem runsize {P : Program} {e : TypeId} {i : TypeInfo} (h : P.info? e = some i) (w : World) : (sizeOf e).run P w = .ok i.size w := by
  have h1 : sizeOf e = .program fun p => (match p.info? e with | some i => Sem.pure i | none => stuck "no such type").bind fun i => .pure i.size := rfl
  rw [h1]
  simp only [Sem.run, h]
  rfl

section orun
variable {P : Program} {β : Bs} {n : Nat} {ro : Bool} {ev : Operand → Value} {o : Oper} {h : OH} {S S' : SS} {v : Value}
theorem orun0_obl (hr : orun0 P β n ro ev o h S = some (v, S')) : ∀ p, p ∈ S.obl → p ∈ S'.obl := by
  intro p hp
  unfold orun0 at hr
  repeat' split at hr
  all_goals first | (cases hr; done) | skip
  · rename_i h0; cases hr; exact srun_obl _ _ _ _ h0 p hp
  · rename_i h0; cases hr; exact srun_obl _ _ _ _ h0 p hp
  all_goals (cases hr; simp [hp])
theorem orun0_sound {w : World} (hr : orun0 P β n ro ev o h S = some (v, S')) (ho : ∀ p, p ∈ S'.obl → p) (hS : Sat β S.hps w) (hn : S.used = false → n = w.heap.size) :
    ∃ w', Ran P ev o w v w' ∧ Sat β S'.hps w' ∧ (S'.used = false → n = w'.heap.size) ∧ (ro = true → w' = w ∧ S'.hps = S.hps) := by
  unfold orun0 at hr
  repeat' split at hr
  all_goals first | (cases hr; done) | skip
  · rename_i h0; cases hr
    obtain ⟨w', h1, h2⟩ := srun_sound _ _ _ _ w h0 ho hS hn
    exact ⟨w', .inl h1, h2⟩
  · rename_i h0; cases hr
    obtain ⟨w', h1, h2⟩ := srun_sound _ _ _ _ w h0 ho hS hn
    exact ⟨w', .inr ⟨rfl, h1⟩, h2⟩
  · rename_i m _ _ t x ix hop _ e hu _ i hi _ A len cap hx _ k z hix _ a _
    cases hr
    have e1 : z = (m : Int) := ho _ (by simp)
    have e2 : m < len := ho _ (by simp)
    have e3 : a.spot = none := ho _ (by simp)
    have e4 : A = some a := ho _ (by simp)
    subst e4
    refine ⟨w, .inl ?_, hS, hn, fun _ => ⟨rfl, rfl⟩⟩
    have ea : a.add (m * i.size) = ⟨a.block, a.off + m * i.size, none⟩ := by
      unfold Addr.add
      split
      · rename_i h0; cases a; simp_all
      · rfl
    obtain ⟨dst, op, type, pos, after, guard⟩ := o
    cases hop
    subst e1
    have h1 : (underlying t).run P w = .ok (.slice e) w := run_underlying hu w
    have h2 : (sizeOf e).run P w = .ok i.size w := runsize hi w
    simp [execOp, Instr.indexAt, hx, hix, go_sem, h1, h2, e2, ea]
  · rename_i m _ _ t x ix hop _ e hu _ i hi _ len cap _ k z hix _ _ _ a hx
    cases hr
    have e1 : z = (m : Int) := ho _ (by simp)
    have e2 : m < len := ho _ (by simp)
    have e3 : a.spot = none := ho _ (by simp)
    refine ⟨w, .inl ?_, hS, hn, fun _ => ⟨rfl, rfl⟩⟩
    have ea : a.add (m * i.size) = ⟨a.block, a.off + m * i.size, none⟩ := by
      unfold Addr.add
      split
      · rename_i h0; cases a; simp_all
      · rfl
    obtain ⟨dst, op, type, pos, after, guard⟩ := o
    cases hop
    subst e1
    have h1 : (underlying t).run P w = .ok (.slice e) w := run_underlying hu w
    have h2 : (sizeOf e).run P w = .ok i.size w := runsize hi w
    simp [execOp, Instr.indexAt, hx, hix, go_sem, h1, h2, e2, ea]
  · rename_i m _ _ t x ix hop _ hu _ s hx _ k z hix
    cases hr
    have e1 : z = (m : Int) := ho _ (by simp)
    have e2 : m < s.size := ho _ (by simp)
    refine ⟨w, .inl ?_, hS, hn, fun _ => ⟨rfl, rfl⟩⟩
    obtain ⟨dst, op, type, pos, after, guard⟩ := o
    cases hop
    subst e1
    have h1 : (underlying t).run P w = .ok .string w := run_underlying hu w
    simp [execOp, Instr.index, hx, hix, go_sem, h1, e2]
    rfl
  · rename_i _ m _ _ t x mx _ hu _ s hx lo hi hv hop _ k z hz
    cases hr
    have e1 : z = (m : Int) := ho _ (by simp)
    have e2 : m ≤ s.size := ho _ (by simp)
    refine ⟨w, .inl ?_, hS, hn, fun _ => ⟨rfl, rfl⟩⟩
    have h1 : (underlying t).run P w = .ok .string w := run_underlying hu w
    obtain ⟨dst, op, type, pos, after, guard⟩ := o
    cases hop
    subst e1
    simp [execOp, Instr.sliceAt, Instr.slice, Instr.sliceBounds, Instr.sliceBound, asIntOf, hx, hz, go_sem, h1, e2]
  · rename_i _ m _ _ t x mx _ hu _ s hx lo hi lv hop _ k z hz
    cases hr
    have e1 : z = (m : Int) := ho _ (by simp)
    have e2 : m ≤ s.size := ho _ (by simp)
    refine ⟨w, .inl ?_, hS, hn, fun _ => ⟨rfl, rfl⟩⟩
    have h1 : (underlying t).run P w = .ok .string w := run_underlying hu w
    obtain ⟨dst, op, type, pos, after, guard⟩ := o
    cases hop
    subst e1
    simp [execOp, Instr.sliceAt, Instr.slice, Instr.sliceBounds, Instr.sliceBound, asIntOf, hx, hz, go_sem, h1, e2]
  · rename_i _ m _ _ t x mx _ hu _ s hx lo hi lv hv hop _ m2 hm2 _ k y hy _ k' z hz
    cases hr
    have e1 : z = (m : Int) := ho _ (by simp)
    have e1' : y = (m2 : Int) := ho _ (by simp)
    have e2 : m ≤ s.size := ho _ (by simp)
    have e3 : m2 ≤ m := ho _ (by simp)
    refine ⟨w, .inl ?_, hS, hn, fun _ => ⟨rfl, rfl⟩⟩
    have h1 : (underlying t).run P w = .ok .string w := run_underlying hu w
    obtain ⟨dst, op, type, pos, after, guard⟩ := o
    cases hop
    subst e1
    subst e1'
    simp [execOp, Instr.sliceAt, Instr.slice, Instr.sliceBounds, Instr.sliceBound, asIntOf, hx, hy, hz, go_sem, h1, e2, e3]
  · rename_i _ m _ _ t x mx _ e hu _ i hi _ A len cap hx lo hi' hv hop _ k z hz
    cases hr
    have e1 : z = (m : Int) := ho _ (by simp)
    have e2 : m ≤ cap := ho _ (by simp)
    refine ⟨w, .inl ?_, hS, hn, fun _ => ⟨rfl, rfl⟩⟩
    have h1 : (underlying t).run P w = .ok (.slice e) w := run_underlying hu w
    have h2 : (sizeOf e).run P w = .ok i.size w := runsize hi w
    obtain ⟨dst, op, type, pos, after, guard⟩ := o
    cases hop
    subst e1
    cases A <;> simp [execOp, Instr.sliceAt, Instr.slice, Instr.sliceBounds, Instr.sliceBound, asIntOf, hx, hz, go_sem, h1, h2, e2, Addr.add]
  · rename_i _ m _ _ t x mx _ e hu _ i hi _ A len cap hx lo hi' lv hop _ k z hz _ a _
    cases hr
    have e1 : z = (m : Int) := ho _ (by simp)
    have e2 : m ≤ len := ho _ (by simp)
    have e3 : m < cap := ho _ (by simp)
    have e4 : a.spot = none := ho _ (by simp)
    have e6 : A = some a := ho _ (by simp)
    subst e6
    refine ⟨w, .inl ?_, hS, hn, fun _ => ⟨rfl, rfl⟩⟩
    have h1 : (underlying t).run P w = .ok (.slice e) w := run_underlying hu w
    have h2 : (sizeOf e).run P w = .ok i.size w := runsize hi w
    have ea : a.add (m * i.size) = ⟨a.block, a.off + m * i.size, none⟩ := by
      unfold Addr.add
      split
      · rename_i h0; cases a; simp_all
      · rfl
    have e5 : ¬ cap = m := by omega
    obtain ⟨dst, op, type, pos, after, guard⟩ := o
    cases hop
    subst e1
    simp [execOp, Instr.sliceAt, Instr.slice, Instr.sliceBounds, Instr.sliceBound, asIntOf, hx, hz, go_sem, h1, h2, e2, e5, ea]
  · rename_i _ m _ _ t x mx _ e hu _ i hi _ len cap lo hi' lv hop _ k z hz _ _ _ a hx
    cases hr
    have e1 : z = (m : Int) := ho _ (by simp)
    have e2 : m ≤ len := ho _ (by simp)
    have e3 : m < cap := ho _ (by simp)
    have e4 : a.spot = none := ho _ (by simp)
    refine ⟨w, .inl ?_, hS, hn, fun _ => ⟨rfl, rfl⟩⟩
    have h1 : (underlying t).run P w = .ok (.slice e) w := run_underlying hu w
    have h2 : (sizeOf e).run P w = .ok i.size w := runsize hi w
    have ea : a.add (m * i.size) = ⟨a.block, a.off + m * i.size, none⟩ := by
      unfold Addr.add
      split
      · rename_i h0; cases a; simp_all
      · rfl
    have e5 : ¬ cap = m := by omega
    obtain ⟨dst, op, type, pos, after, guard⟩ := o
    cases hop
    subst e1
    simp [execOp, Instr.sliceAt, Instr.slice, Instr.sliceBounds, Instr.sliceBound, asIntOf, hx, hz, go_sem, h1, h2, e2, e5, ea]
theorem orun_obl (hr : orun P β n ro ev o h S = some (v, S')) : ∀ p, p ∈ S.obl → p ∈ S'.obl := by
  intro p hp
  unfold orun at hr
  repeat' split at hr
  all_goals first | (cases hr; done) | skip
  · rename_i h0 _ _; cases hr; exact orun0_obl h0 p hp
  · rename_i h0 _ _ _; cases hr; exact List.mem_cons_of_mem _ (orun0_obl h0 p hp)
theorem orun_sound {w : World} (hr : orun P β n ro ev o h S = some (v, S')) (ho : ∀ p, p ∈ S'.obl → p) (hS : Sat β S.hps w) (hn : S.used = false → n = w.heap.size) :
    ∃ w', Ran P ev o w v w' ∧ Sat β S'.hps w' ∧ (S'.used = false → n = w'.heap.size) ∧ (ro = true → w' = w ∧ S'.hps = S.hps) := by
  unfold orun at hr
  repeat' split at hr
  all_goals first | (cases hr; done) | skip
  · rename_i h0 _ _; cases hr; exact orun0_sound h0 ho hS hn
  · rename_i v0 S0 h0 _ v' _
    cases hr
    have e : v0 = v := ho _ List.mem_cons_self
    subst e
    exact orun0_sound (S' := S0) h0 (fun p hp => ho p (List.mem_cons_of_mem _ hp)) hS hn
theorem orun0_ro (hr : orun0 P β n true ev o h S = some (v, S')) : S'.hps = S.hps ∧ S'.used = S.used := by
  unfold orun0 at hr
  repeat' split at hr
  all_goals first | (cases hr; done) | skip
  · rename_i h0; cases hr; (have h' := srun_ro _ _ _ _ h0; exact h')
  · rename_i h0; cases hr; (have h' := srun_ro _ _ _ _ h0; exact h')
  all_goals (cases hr; exact ⟨rfl, rfl⟩)
theorem orun_ro (hr : orun P β n true ev o h S = some (v, S')) : S'.hps = S.hps ∧ S'.used = S.used := by
  unfold orun at hr
  repeat' split at hr
  all_goals first | (cases hr; done) | skip
  · rename_i h0 _ _; cases hr; exact orun0_ro h0
  · rename_i v0 S0 h0 _ v' _; cases hr; exact orun0_ro (S' := S0) h0
end orun
end Go.Proofs.Ytejnhhpjlajngaa
end
/- part Vj. PROVED HERE: the judgements of the logic: a run of operations within a region, code; calls, loops, branches. CONDITIONS: none. No statement of the seat is proved here. -/
section
namespace Go.Proofs.Ytejnhhpjlajngaa
open Go.RowKit

/-- operations of a region from place k on -/
def oruns (P : Program) (β : Bs) (n : Nat) (ro : Bool) (N : Nat) (junk : Nat → Value) (ops : Array Oper) : List OH → Nat → Fr → SS → Option (Nat × Fr × SS)
  | [], k, fr, S => some (k, fr, S)
  | h :: hs, k, fr, S =>
    match ops.toList[k]? with
    | none => none
    | some o =>
      match Region.wanted o (yF ops N fr junk) with
      | true =>
        match orun P β n ro (evF N fr junk) o h S with
        | some (v, S') => oruns P β n ro N junk ops hs (k + 1) (putF fr o.dst v) S'
        | none => none
      | false => oruns P β n ro N junk ops hs (k + 1) (putF fr o.dst undef) S

/-- the whole of a run: what is kept of frame and memory, and what is owed -/
def segrun (P : Program) (β : Bs) (n : Nat) (ro : Bool) (N : Nat) (junk : Nat → Value) (ops : Array Oper) (hs : List OH) (k : Nat) (fr : Fr) (hps : List HP) (idx pk : List Nat) : Option (Nat × Fr × List HP × List Prop) :=
  match oruns P β n ro N junk ops hs k fr ⟨[], hps, [], ro⟩ with
  | some (k', fr', S) =>
    match nodupB pk with
    | true =>
      match pickL S.hps pk with
      | some l => some (k', pickF fr' junk idx, l, S.obl)
      | none => none
    | false => none
  | none => none

section runs
variable {P : Program} {β : Bs} {n : Nat} {ro : Bool} {N : Nat} {junk : Nat → Value} {ops : Array Oper}
theorem oruns_obl : ∀ {hs : List OH} {k k' : Nat} {fr fr' : Fr} {S S' : SS}, oruns P β n ro N junk ops hs k fr S = some (k', fr', S') → ∀ p, p ∈ S.obl → p ∈ S'.obl
  | [], k, k', fr, fr', S, S', h, p, hp => by cases h; exact hp
  | h :: hs, k, k', fr, fr', S, S', hr, p, hp => by
    unfold oruns at hr
    repeat' split at hr
    all_goals first | (cases hr; done) | skip
    · rename_i h0; exact oruns_obl hr p (orun_obl h0 p hp)
    · exact oruns_obl hr p hp
theorem drop_cons {ops : Array Oper} {k : Nat} {o : Oper} (h : ops.toList[k]? = some o) : ops.toList.drop k = o :: ops.toList.drop (k + 1) := by
  have hk := len_of_some h
  rw [List.drop_eq_getElem_cons hk]
  rw [List.getElem?_eq_getElem hk] at h
  cases h
  rfl
theorem wp_of_ran {o : Oper} {a : Act} {w w' : World} {v : Value} {K : Act → World → Prop} {Q : Exit → Act → World → Prop} (h : Ran P a.eval o w v w') (hk : K (a.put o.dst v) w') : o.wp P a w K Q := by
  unfold Oper.wp
  rcases h with h | ⟨rfl, h⟩
  · rw [h]; exact hk
  · rw [h]; exact hk
theorem oruns_sound {Q : Exit → Act → World → Prop} : ∀ {hs : List OH} {k k' : Nat} {fr fr' : Fr} {S S' : SS} {w : World}, oruns P β n ro N junk ops hs k fr S = some (k', fr', S') → (∀ p, p ∈ S'.obl → p) → Sat β S.hps w → (S.used = false → n = w.heap.size) →
    (∀ w', Sat β S'.hps w' → wpList P ops Q (ops.toList.drop k') (mkA N fr' junk) w') → wpList P ops Q (ops.toList.drop k) (mkA N fr junk) w
  | [], k, k', fr, fr', S, S', w, h, ho, hS, hn, hK => by cases h; exact hK w hS
  | h :: hs, k, k', fr, fr', S, S', w, hr, ho, hS, hn, hK => by
    unfold oruns at hr
    split at hr
    · cases hr
    rename_i o hget
    rw [drop_cons hget]
    unfold wpList
    have hw : Region.wanted o (yielded ops (mkA N fr junk).tmps) = Region.wanted o (yF ops N fr junk) := by
      have : yielded ops (mkA N fr junk).tmps = yF ops N fr junk := funext (yF_eq ops N fr junk)
      rw [this]
    rw [hw]
    split at hr
    · rename_i hwt
      rw [if_pos hwt]
      split at hr
      · rename_i v S1 h0
        obtain ⟨w', h1, h2, h3, _⟩ := orun_sound h0 (fun p hp => ho p (oruns_obl hr p hp)) hS hn
        refine .inl (wp_of_ran (v := v) (w' := w') (by rw [mkA_eval]; exact h1) ?_)
        rw [mkA_put]
        exact oruns_sound hr ho h2 h3 hK
      · cases hr
    · rename_i hwf
      rw [if_neg (by simp [hwf])]
      rw [mkA_put]
      exact oruns_sound hr ho hS hn hK
/-- the same where the order is drawn: reads alone -/
theorem oruns_quiet {Q : Act → Prop} : ∀ {hs : List OH} {k k' : Nat} {fr fr' : Fr} {S S' : SS}, oruns P β n true N junk ops hs k fr S = some (k', fr', S') → (∀ p, p ∈ S'.obl → p) → S.used = true →
    (S'.hps = S.hps → wpQuiet P ops (Sat β S.hps) Q (ops.toList.drop k') (mkA N fr' junk)) → wpQuiet P ops (Sat β S.hps) Q (ops.toList.drop k) (mkA N fr junk)
  | [], k, k', fr, fr', S, S', h, ho, hu, hK => by cases h; exact hK rfl
  | h :: hs, k, k', fr, fr', S, S', hr, ho, hu, hK => by
    unfold oruns at hr
    split at hr
    · cases hr
    rename_i o hget
    rw [drop_cons hget]
    unfold wpQuiet
    have hw : Region.wanted o (yielded ops (mkA N fr junk).tmps) = Region.wanted o (yF ops N fr junk) := by
      have : yielded ops (mkA N fr junk).tmps = yF ops N fr junk := funext (yF_eq ops N fr junk)
      rw [this]
    rw [hw]
    split at hr
    · rename_i hwt
      rw [if_pos hwt]
      split at hr
      · rename_i v S1 h0
        obtain ⟨e1, e2⟩ := orun_ro h0
        refine ⟨v, fun w hS => ?_, ?_⟩
        · obtain ⟨w', h1, h2, h3, h4⟩ := orun_sound h0 (fun p hp => ho p (oruns_obl hr p hp)) hS (fun e => by rw [hu] at e; cases e)
          obtain ⟨rfl, e⟩ := h4 rfl
          unfold Oper.quietAt
          rw [mkA_eval]
          rcases h1 with h1 | ⟨h1, h1'⟩
          · rw [h1]; exact ⟨rfl, rfl⟩
          · rw [h1']; exact ⟨rfl, h1⟩
        · rw [mkA_put, ← e1]
          exact oruns_quiet hr ho (e2.trans hu) (fun e => by rw [e1]; exact hK (e.trans e1))
      · cases hr
    · rename_i hwf
      rw [if_neg (by simp [hwf])]
      rw [mkA_put]
      exact oruns_quiet hr ho hu hK
end runs
end Go.Proofs.Ytejnhhpjlajngaa
end
/- part Vk. PROVED HERE: the rules of the logic: code, calls, loops, branches, regions that draw their order, a function's contract. CONDITIONS: none. No statement of the seat is proved here. -/
section
namespace Go.Proofs.Ytejnhhpjlajngaa
open Go.RowKit

abbrev Post := Exit → Act → World → Prop

def TriL (P : Program) (β : Bs) (N : Nat) (ops : Array Oper) (k : Nat) (fr : Fr) (hps : List HP) (Q : Post) : Prop :=
  ∀ junk w, Sat β hps w → wpList P ops Q (ops.toList.drop k) (mkA N fr junk) w
def TriLQ (P : Program) (β : Bs) (N : Nat) (ops : Array Oper) (k : Nat) (fr : Fr) (hps : List HP) (Q : Post) : Prop :=
  ∀ junk, wpQuiet P ops (Sat β hps) (fun a' => ∀ w', Sat β hps w' → Q .normal a' w') (ops.toList.drop k) (mkA N fr junk)
def Tri (P : Program) (β : Bs) (N : Nat) (c : Code) (fr : Fr) (hps : List HP) (Q : Post) : Prop :=
  ∀ junk w, Sat β hps w → c.wp P Q (mkA N fr junk) w
def TriQ (β : Bs) (N : Nat) (Q : Post) (e : Exit) (fr : Fr) (hps : List HP) : Prop :=
  ∀ junk w, Sat β hps w → Q e (mkA N fr junk) w

section rules
variable {P : Program} {β : Bs} {N : Nat} {ops : Array Oper} {k k' : Nat} {fr fr' : Fr} {hps hps' : List HP} {Q : Post} {obl : List Prop} {c x y : Code} {e : Exit}

theorem seg_spec {n : Nat} {ro : Bool} {junk : Nat → Value} {hs : List OH} {idx pk : List Nat} (h : segrun P β n ro N junk ops hs k fr hps idx pk = some (k', fr', hps', obl)) :
    ∃ fr1 S, oruns P β n ro N junk ops hs k fr ⟨[], hps, [], ro⟩ = some (k', fr1, S) ∧ nodupB pk = true ∧ pickL S.hps pk = some hps' ∧ fr' = pickF fr1 junk idx ∧ S.obl = obl := by
  unfold segrun at h
  repeat' split at h
  all_goals first | (cases h; done) | skip
  rename_i k1 fr1 S h1 _ h2 _ l h3
  cases h
  exact ⟨fr1, S, h1, h2, h3, rfl, rfl⟩

/-- a run of operations; 'n' is the block that it makes -/
theorem TriL.segN {fr' : Nat → Fr} {hps' : Nat → List HP} {obl : Nat → List Prop} (hs : List OH) (idx pk : List Nat) (h : ∀ n junk, segrun P β n false N junk ops hs k fr hps idx pk = some (k', fr' n, hps' n, obl n))
    (ho : ∀ n, AllP (obl n)) (K : ∀ n, TriL P β N ops k' (fr' n) (hps' n) Q) : TriL P β N ops k fr hps Q := by
  intro junk w hS
  obtain ⟨fr1, S, h1, h2, h3, h4, h5⟩ := seg_spec (h w.heap.size junk)
  refine oruns_sound h1 (fun p hp => (ho _).mem (h5 ▸ hp)) hS (fun _ => rfl) (fun w' hS' => ?_)
  have hk := K w.heap.size (lk fr1 junk) w' (hS'.pick h2 h3)
  rw [h4, ← mkA_pick] at hk
  exact hk
theorem TriL.seg (hs : List OH) (idx pk : List Nat) (h : ∀ n junk, segrun P β n false N junk ops hs k fr hps idx pk = some (k', fr', hps', obl))
    (ho : AllP obl) (K : TriL P β N ops k' fr' hps' Q) : TriL P β N ops k fr hps Q :=
  TriL.segN (fr' := fun _ => fr') (hps' := fun _ => hps') (obl := fun _ => obl) hs idx pk h (fun _ => ho) (fun _ => K)
/-- .. that leaves memory as it was -/
theorem TriL.segK (hs : List OH) (idx : List Nat) (h : ∀ n junk, segrun P β n false N junk ops hs k fr hps idx (List.range hps.length) = some (k', fr', hps, obl))
    (ho : AllP obl) (K : TriL P β N ops k' fr' hps Q) : TriL P β N ops k fr hps Q := TriL.seg hs idx (List.range hps.length) h ho K
theorem TriLQ.seg (hs : List OH) (idx : List Nat) (h : ∀ n junk, segrun P β n true N junk ops hs k fr hps idx (List.range hps.length) = some (k', fr', hps, obl))
    (ho : AllP obl) (K : TriLQ P β N ops k' fr' hps Q) : TriLQ P β N ops k fr hps Q := by
  intro junk
  obtain ⟨fr1, S, h1, h2, h3, h4, h5⟩ := seg_spec (h 0 junk)
  refine oruns_quiet h1 (fun p hp => ho.mem (h5 ▸ hp)) rfl (fun _ => ?_)
  have hk := K (lk fr1 junk)
  rw [h4, ← mkA_pick] at hk
  exact hk
theorem TriL.nil (h : ops.toList.drop k = []) (K : TriQ β N Q .normal fr hps) : TriL P β N ops k fr hps Q := by
  intro junk w hS
  rw [h]
  exact K junk w hS
theorem TriLQ.nil (h : ops.toList.drop k = []) (K : TriQ β N Q .normal fr hps) : TriLQ P β N ops k fr hps Q := by
  intro junk
  rw [h]
  exact fun w' hS' => K junk w' hS'
theorem TriL.wk {idx pk : List Nat} (hf : ∀ junk, pickF fr junk idx = fr') (hn : nodupB pk = true) (hp : pickL hps pk = some hps') (K : TriL P β N ops k fr' hps' Q) : TriL P β N ops k fr hps Q := by
  intro junk w hS
  have hk := K (lk fr junk) w (hS.pick hn hp)
  rw [← hf junk, ← mkA_pick] at hk
  exact hk
theorem TriQ.wk {idx pk : List Nat} (hf : ∀ junk, pickF fr junk idx = fr') (hn : nodupB pk = true) (hp : pickL hps pk = some hps') (K : TriQ β N Q e fr' hps') : TriQ β N Q e fr hps := by
  intro junk w hS
  have hk := K (lk fr junk) w (hS.pick hn hp)
  rw [← hf junk, ← mkA_pick] at hk
  exact hk
theorem Tri.wk {idx pk : List Nat} (hf : ∀ junk, pickF fr junk idx = fr') (hn : nodupB pk = true) (hp : pickL hps pk = some hps') (K : Tri P β N c fr' hps' Q) : Tri P β N c fr hps Q := by
  intro junk w hS
  have hk := K (lk fr junk) w (hS.pick hn hp)
  rw [← hf junk, ← mkA_pick] at hk
  exact hk
/-- what memory tells -/
theorem TriL.tell {p : Prop} (h : ∀ w, Sat β hps w → p) (K : p → TriL P β N ops k fr hps Q) : TriL P β N ops k fr hps Q := fun junk w hS => K (h w hS) junk w hS
theorem Tri.tell {p : Prop} (h : ∀ w, Sat β hps w → p) (K : p → Tri P β N c fr hps Q) : Tri P β N c fr hps Q := fun junk w hS => K (h w hS) junk w hS
theorem TriQ.tell {p : Prop} (h : ∀ w, Sat β hps w → p) (K : p → TriQ β N Q e fr hps) : TriQ β N Q e fr hps := fun junk w hS => K (h w hS) junk w hS
/-- memory told otherwise -/
theorem TriL.mem (h : ∀ w, Sat β hps w → Sat β hps' w) (K : TriL P β N ops k fr hps' Q) : TriL P β N ops k fr hps Q := fun junk w hS => K junk w (h w hS)
theorem Tri.mem (h : ∀ w, Sat β hps w → Sat β hps' w) (K : Tri P β N c fr hps' Q) : Tri P β N c fr hps Q := fun junk w hS => K junk w (h w hS)
theorem TriQ.mem (h : ∀ w, Sat β hps w → Sat β hps' w) (K : TriQ β N Q e fr hps') : TriQ β N Q e fr hps := fun junk w hS => K junk w (h w hS)
theorem TriL.memE {ι : Type} {hp : ι → List HP} (h : ∀ w, Sat β hps w → ∃ i, Sat β (hp i) w) (K : ∀ i, TriL P β N ops k fr (hp i) Q) : TriL P β N ops k fr hps Q := fun junk w hS => let ⟨i, hi⟩ := h w hS; K i junk w hi
theorem Tri.memE {ι : Type} {hp : ι → List HP} (h : ∀ w, Sat β hps w → ∃ i, Sat β (hp i) w) (K : ∀ i, Tri P β N c fr (hp i) Q) : Tri P β N c fr hps Q := fun junk w hS => let ⟨i, hi⟩ := h w hS; K i junk w hi

/-! ### code -/
theorem Tri.seq (h : Tri P β N x fr hps (Exit.then (y.wp P Q) Q)) : Tri P β N (.seq x y) fr hps Q := fun junk w hS => wp_seq (h junk w hS)
theorem TriQ.next (h : Tri P β N y fr hps Q) : TriQ β N (Exit.then (y.wp P Q) Q) .normal fr hps := fun junk w hS => h junk w hS
theorem TriQ.passExit {K : Act → World → Prop} {id : Nat} (h : TriQ β N Q (.exit id) fr hps) : TriQ β N (Exit.then K Q) (.exit id) fr hps := fun junk w hS => h junk w hS
theorem TriQ.passRet {K : Act → World → Prop} (h : TriQ β N Q .ret fr hps) : TriQ β N (Exit.then K Q) .ret fr hps := fun junk w hS => h junk w hS
theorem Tri.block {id : Nat} (h : Tri P β N c fr hps (Exit.inBlock id Q)) : Tri P β N (.block id c) fr hps Q := fun junk w hS => wp_block (h junk w hS)
theorem TriQ.blockNormal {id : Nat} (h : TriQ β N Q .normal fr hps) : TriQ β N (Exit.inBlock id Q) .normal fr hps := fun junk w hS => h junk w hS
theorem TriQ.blockRet {id : Nat} (h : TriQ β N Q .ret fr hps) : TriQ β N (Exit.inBlock id Q) .ret fr hps := fun junk w hS => h junk w hS
theorem TriQ.blockHit {id : Nat} (h : TriQ β N Q .normal fr hps) : TriQ β N (Exit.inBlock id Q) (.exit id) fr hps := fun junk w hS => by
  show (if id = id then Q .normal _ _ else _)
  rw [if_pos rfl]
  exact h junk w hS
theorem TriQ.blockMiss {id id' : Nat} (hne : id' ≠ id) (h : TriQ β N Q (.exit id') fr hps) : TriQ β N (Exit.inBlock id Q) (.exit id') fr hps := fun junk w hS => by
  show (if id' = id then Q .normal _ _ else Q (.exit id') _ _)
  rw [if_neg hne]
  exact h junk w hS
theorem Tri.skip (h : TriQ β N Q .normal fr hps) : Tri P β N .skip fr hps Q := fun junk w hS => wp_skip (h junk w hS)
theorem Tri.exit {id : Nat} (h : TriQ β N Q (.exit id) fr hps) : Tri P β N (.exit id) fr hps Q := fun junk w hS => wp_exit (h junk w hS)
theorem Tri.ret (h : TriQ β N Q .ret fr hps) : Tri P β N .ret fr hps Q := fun junk w hS => wp_ret (h junk w hS)
theorem Tri.cond {o : Operand} {b : Bool} (h : ∀ junk, evF N fr junk o = .bool b) (ht : b = true → Tri P β N x fr hps Q) (hf : b = false → Tri P β N y fr hps Q) : Tri P β N (.cond o x y) fr hps Q :=
  fun junk w hS => wp_cond_split (by rw [mkA_eval]; exact h junk) (fun e => ht e junk w hS) (fun e => hf e junk w hS)
theorem Tri.condT {o : Operand} (h : ∀ junk, evF N fr junk o = .bool true) (ht : Tri P β N x fr hps Q) : Tri P β N (.cond o x y) fr hps Q := Tri.cond h (fun _ => ht) (fun e => by cases e)
theorem Tri.condF {o : Operand} (h : ∀ junk, evF N fr junk o = .bool false) (hf : Tri P β N y fr hps Q) : Tri P β N (.cond o x y) fr hps Q := Tri.cond h (fun e => by cases e) (fun _ => hf)
theorem Tri.condP {o : Operand} {p : Prop} [Decidable p] (h : ∀ junk, evF N fr junk o = .bool (decide p)) (ht : p → Tri P β N x fr hps Q) (hf : ¬ p → Tri P β N y fr hps Q) : Tri P β N (.cond o x y) fr hps Q :=
  Tri.cond h (fun e => ht (of_decide_eq_true e)) (fun e => hf (of_decide_eq_false e))
theorem Tri.region {id : Nat} (h : TriL P β N ops 0 fr hps Q) : Tri P β N (.region id ops false) fr hps Q := fun junk w hS => wp_region_list (h junk w hS)
theorem Tri.regionQ {id : Nat} (hm : P.follows .mixedOrders = true) (hB : Region.lexB .any ops = true) (h : TriLQ P β N ops 0 fr hps Q) : Tri P β N (.region id ops true) fr hps Q :=
  fun junk _ hS => wp_region_quiet hm hB (hS.drewN 1) (h junk)
/-- a slot told otherwise -/
theorem Tri.slot {i : Nat} {v v' : Value} {r : Fr} (hv : v = v') (h : Tri P β N c ((i, v') :: r) hps Q) : Tri P β N c ((i, v) :: r) hps Q := hv ▸ h

/-- ways meet again -/
def Meet (β : Bs) (N : Nat) {ι : Type} (Inv : ι → Prop) (fr : ι → Fr) (hp : ι → List HP) : Act → World → Prop := fun a w => ∃ i, Inv i ∧ ∃ junk, a = mkA N (fr i) junk ∧ Sat β (hp i) w
theorem Tri.join {ι : Type} (Inv : ι → Prop) (fr' : ι → Fr) (hp' : ι → List HP) (hr : ∀ i, Inv i → Tri P β N y (fr' i) (hp' i) Q) (hf : Tri P β N x fr hps (Exit.then (Meet β N Inv fr' hp') Q)) : Tri P β N (.seq x y) fr hps Q :=
  fun junk w hS => wp_seq (Code.wp_mono (fun e a w q => by
    cases e with
    | normal =>
      obtain ⟨i, hi, junk, rfl, hS⟩ := q
      exact hr i hi junk w hS
    | exit id => exact q
    | goto l => exact q
    | ret => exact q
    | panic ch => exact q
    | outgrown => exact q) (hf junk w hS))
theorem TriQ.meet {ι : Type} {Inv : ι → Prop} {fr' : ι → Fr} {hp' : ι → List HP} (i : ι) {idx pk : List Nat} (hi : Inv i) (hf : ∀ junk, pickF fr junk idx = fr' i) (hn : nodupB pk = true) (hp : pickL hps pk = some (hp' i)) :
    TriQ β N (Exit.then (Meet β N Inv fr' hp') Q) .normal fr hps := fun junk w hS => ⟨i, hi, lk fr junk, by rw [mkA_pick N fr junk idx, hf junk], hS.pick hn hp⟩

/-- a loop: the rounds are told by 'i', of which 'μ' goes down -/
def Turn (β : Bs) (N : Nat) {ι : Type} (Inv : ι → Prop) (μ : ι → Nat) (fr : ι → Fr) (hp : ι → List HP) (m : Nat) : Act → World → Prop := fun a w => ∃ i, Inv i ∧ μ i < m ∧ ∃ junk, a = mkA N (fr i) junk ∧ Sat β (hp i) w
theorem Tri.loop {ι : Type} (Inv : ι → Prop) (μ : ι → Nat) (fr' : ι → Fr) (hp' : ι → List HP) (i0 : ι) {idx pk : List Nat} (h0 : Inv i0) (hf : ∀ junk, pickF fr junk idx = fr' i0) (hn : nodupB pk = true) (hp : pickL hps pk = some (hp' i0))
    (round : ∀ i, Inv i → Tri P β N c (fr' i) (hp' i) (Exit.then (Turn β N Inv μ fr' hp' (μ i)) Q)) : Tri P β N (.loop c) fr hps Q := by
  intro junk w hS
  refine wp_loop_ghost (fun n a w => ∃ i, Inv i ∧ μ i = n ∧ ∃ junk, a = mkA N (fr' i) junk ∧ Sat β (hp' i) w) (μ i0) ⟨i0, h0, rfl, lk fr junk, by rw [mkA_pick N fr junk idx, hf junk], hS.pick hn hp⟩ ?_
  rintro n a w ⟨i, hi, rfl, junk, rfl, hS⟩
  refine Code.wp_mono (fun e a w q => ?_) (round i hi junk w hS)
  cases e with
  | normal =>
    obtain ⟨i', hi', hlt, junk', e, hS'⟩ := q
    exact ⟨μ i', hlt, i', hi', rfl, junk', e, hS'⟩
  | exit id => exact q
  | goto l => exact q
  | ret => exact q
  | panic ch => exact q
  | outgrown => exact q
theorem TriQ.turn {ι : Type} {Inv : ι → Prop} {μ : ι → Nat} {fr' : ι → Fr} {hp' : ι → List HP} {m : Nat} (i : ι) {idx pk : List Nat} (hi : Inv i) (hm : μ i < m) (hf : ∀ junk, pickF fr junk idx = fr' i) (hn : nodupB pk = true) (hp : pickL hps pk = some (hp' i)) :
    TriQ β N (Exit.then (Turn β N Inv μ fr' hp' m) Q) .normal fr hps := fun junk w hS => ⟨i, hi, hm, lk fr junk, by rw [mkA_pick N fr junk idx, hf junk], hS.pick hn hp⟩
end rules

/-! ### contracts -/
/-- parts taken together -/
def bund (R : List HP) : Asn where
  h F w := ∃ φ : Nat → Fp, (∀ (i : Nat) (p : HP), R[i]? = some p → p.h (φ i) w) ∧ (∀ i j, i < R.length → j < R.length → i ≠ j → Apart (φ i) (φ j)) ∧ ∀ k, F k ↔ ∃ i, i < R.length ∧ φ i k
  lt := by
    rintro F w ⟨φ, h1, h2, h3⟩ k hk
    obtain ⟨i, hi, hk⟩ := (h3 k).1 hk
    obtain ⟨p, hp⟩ := some_of_len hi
    exact HP.lt (h1 i p hp) k hk
  st := by
    rintro F w ⟨φ, h1, h2, h3⟩ S w' hk hn
    exact ⟨φ, fun i p hp => HP.st (h1 i p hp) hk (fun k h => hn k ((h3 k).2 ⟨i, len_of_some hp, h⟩)), h2, h3⟩
section contracts
variable {P : Program} {β : Bs} {l R : List HP} {w : World}
theorem Sat.bund (h : Sat β (l ++ R) w) : Sat β (l ++ [.abs (bund R)]) w := by
  obtain ⟨ho, φ, h1, h2, h3⟩ := h
  have hl : (l ++ R).length = l.length + R.length := List.length_append
  refine ⟨ho, fun i => if i < l.length then φ i else fun k => ∃ j, j < R.length ∧ φ (l.length + j) k, fun i p hp => ?_, fun i hi k hk hO => ?_, fun i j hi hj hne k hk hk' => ?_⟩
  · by_cases e : i < l.length
    · rw [List.getElem?_append_left e] at hp
      simp only [e, if_true]
      exact h1 i p (by rw [List.getElem?_append_left e]; exact hp)
    · have hi : i = l.length := by have := len_of_some hp; simp at this; omega
      subst hi
      simp at hp
      subst hp
      simp only [Nat.lt_irrefl, if_false]
      refine ⟨fun j => φ (l.length + j), fun j p hp => h1 _ p (by rw [List.getElem?_append_right (by omega)]; simpa using hp), fun i j hi hj hne => h3 _ _ (by omega) (by omega) (by omega), fun k => Iff.rfl⟩
  · by_cases e : i < l.length
    · simp only [e, if_true] at hk
      exact h2 i (by omega) k hk hO
    · simp only [e, if_false] at hk
      obtain ⟨j, hj, hk⟩ := hk
      exact h2 _ (by omega) k hk hO
  · simp at hi hj
    by_cases e1 : i < l.length
    · simp only [e1, if_true] at hk
      by_cases e2 : j < l.length
      · simp only [e2, if_true] at hk'
        exact h3 i j (by omega) (by omega) hne k hk hk'
      · simp only [e2, if_false] at hk'
        obtain ⟨t, ht, hk'⟩ := hk'
        exact h3 i (l.length + t) (by omega) (by omega) (by omega) k hk hk'
    · simp only [e1, if_false] at hk
      obtain ⟨t, ht, hk⟩ := hk
      by_cases e2 : j < l.length
      · simp only [e2, if_true] at hk'
        exact h3 j (l.length + t) (by omega) (by omega) (by omega) k hk' hk
      · omega
theorem Sat.unbund (h : Sat β (l ++ [.abs (Go.Proofs.Ytejnhhpjlajngaa.bund R)]) w) : Sat β (l ++ R) w := by
  obtain ⟨ho, φ, h1, h2, h3⟩ := h
  have hl : (l ++ R).length = l.length + R.length := List.length_append
  have hl' : (l ++ [HP.abs (Go.Proofs.Ytejnhhpjlajngaa.bund R)]).length = l.length + 1 := by simp
  obtain ⟨ψ, q1, q2, q3⟩ := h1 l.length (.abs (Go.Proofs.Ytejnhhpjlajngaa.bund R)) (by simp)
  have hsub : ∀ i, l.length ≤ i → i < l.length + R.length → ∀ k, ψ (i - l.length) k → φ l.length k := fun i h1 h2 k hk => (q3 k).2 ⟨i - l.length, by omega, hk⟩
  refine ⟨ho, fun i => if i < l.length then φ i else ψ (i - l.length), fun i p hp => ?_, fun i hi k hk hO => ?_, fun i j hi hj hne k hk hk' => ?_⟩
  · by_cases e : i < l.length
    · rw [List.getElem?_append_left e] at hp
      simp only [e, if_true]
      exact h1 i p (by rw [List.getElem?_append_left e]; exact hp)
    · rw [List.getElem?_append_right (by omega)] at hp
      simp only [e, if_false]
      exact q1 _ p hp
  · by_cases e : i < l.length
    · simp only [e, if_true] at hk
      exact h2 i (by omega) k hk hO
    · simp only [e, if_false] at hk
      exact h2 l.length (by omega) k (hsub i (by omega) (by omega) k hk) hO
  · by_cases e1 : i < l.length
    · simp only [e1, if_true] at hk
      by_cases e2 : j < l.length
      · simp only [e2, if_true] at hk'
        exact h3 i j (by omega) (by omega) hne k hk hk'
      · simp only [e2, if_false] at hk'
        exact h3 i l.length (by omega) (by omega) (by omega) k hk (hsub j (by omega) (by omega) k hk')
    · simp only [e1, if_false] at hk
      by_cases e2 : j < l.length
      · simp only [e2, if_true] at hk'
        exact h3 j l.length (by omega) (by omega) (by omega) k hk' (hsub i (by omega) (by omega) k hk)
      · simp only [e2, if_false] at hk'
        exact q2 (i - l.length) (j - l.length) (by omega) (by omega) (by omega) k hk hk'

/-- what a call asks of memory and leaves; all else stays -/
def Spec (P : Program) (β : Bs) (f : FuncId) (args : Array Value) (pre : List HP) (post : Value → List HP → Prop) : Prop :=
  ∀ (R : Asn) w, Sat β (pre ++ [.abs R]) w → Calls P f args w fun e w' => ∃ v l, e = .returned v ∧ post v l ∧ Sat β (l ++ [.abs R]) w'
theorem Spec.use {f : FuncId} {args : Array Value} {pre : List HP} {post : Value → List HP → Prop} (h : Spec P β f args pre post) (hS : Sat β (pre ++ R) w) :
    Calls P f args w fun e w' => ∃ v l, e = .returned v ∧ post v l ∧ Sat β (l ++ R) w' :=
  (h _ w hS.bund).mono fun _ _ ⟨v, l, h1, h2, h3⟩ => ⟨v, l, h1, h2, h3.unbund⟩
theorem Spec.mono {f : FuncId} {args : Array Value} {pre : List HP} {post post' : Value → List HP → Prop} (h : Spec P β f args pre post) (hp : ∀ v l, post v l → post' v l) : Spec P β f args pre post' :=
  fun R w hS => (h R w hS).mono fun _ _ ⟨v, l, h1, h2, h3⟩ => ⟨v, l, h1, hp v l h2, h3⟩
end contracts
end Go.Proofs.Ytejnhhpjlajngaa
end
/- part Vc. PROVED HERE: the rules of the logic for calls, for a function's entry and its return; contracts of the elder kind taken over. CONDITIONS: none. No statement of the seat is proved here. -/
section
namespace Go.Proofs.Ytejnhhpjlajngaa
open Go.RowKit

def callOf (P : Program) (β : Bs) (N : Nat) (junk : Nat → Value) (ops : Array Oper) (fr : Fr) (k : Nat) : Option (FuncId × Array Value × Option Tmp) :=
  match ops.toList[k]? with
  | some o =>
    match Region.wanted o (yF ops N fr junk) with
    | true =>
      match srun P β 0 true (execOp (evF N fr junk) o) ⟨[], [], [], true⟩ with
      | some (.enter f args, _) => some (f, args, o.dst)
      | _ => none
    | false => none
  | none => none

section calls
variable {P : Program} {β : Bs} {N : Nat} {ops : Array Oper} {k : Nat} {fr : Fr} {hps R : List HP} {Q : Post} {f : FuncId} {args : Array Value} {d : Option Tmp}
theorem Sat.nil {l : List HP} {w : World} (h : Sat β l w) : Sat β [] w := ⟨h.1, fun _ _ => False, fun i p hp => by simp at hp, fun i hi => by simp at hi, fun i j hi => by simp at hi⟩
theorem callOf_spec {junk : Nat → Value} (h : callOf P β N junk ops fr k = some (f, args, d)) : ∃ o, ops.toList[k]? = some o ∧ Region.wanted o (yF ops N fr junk) = true ∧ o.dst = d ∧
    ∀ w, Sat β [] w → (execOp (evF N fr junk) o).run P w = .ok (.enter f args) w := by
  unfold callOf at h
  repeat' split at h
  all_goals first | (cases h; done) | skip
  rename_i o h1 _ h2 _ f' args' S' h3
  cases h
  refine ⟨o, h1, h2, rfl, fun w hS => ?_⟩
  have hob := srun_none _ _ _ _ h3 rfl
  obtain ⟨w', h4, _, _, h5⟩ := srun_sound _ _ _ _ w h3 (fun p hp => by rw [hob] at hp; cases hp) hS (fun e => by cases e)
  rw [h4, (h5 rfl).1]
theorem wanted_mkA (o : Oper) (junk : Nat → Value) : Region.wanted o (yielded ops (mkA N fr junk).tmps) = Region.wanted o (yF ops N fr junk) := by
  have : yielded ops (mkA N fr junk).tmps = yF ops N fr junk := funext (yF_eq ops N fr junk)
  rw [this]
theorem TriL.call {pre : List HP} {post : Value → List HP → Prop} {pk : List Nat} (hc : ∀ junk, callOf P β N junk ops fr k = some (f, args, d)) (hs : Spec P β f args pre post) (hn : nodupB pk = true) (hp : pickL hps pk = some (pre ++ R))
    (K : ∀ v l, post v l → TriL P β N ops (k + 1) (putF fr d v) (l ++ R) Q) : TriL P β N ops k fr hps Q := by
  intro junk w hS
  obtain ⟨o, h1, h2, rfl, h3⟩ := callOf_spec (hc junk)
  rw [drop_cons h1]
  unfold wpList
  rw [wanted_mkA, if_pos h2]
  refine .inl ?_
  unfold Oper.wp
  rw [mkA_eval, h3 w hS.nil, Oper.upon_enter]
  refine (hs.use (hS.pick hn hp)).mono ?_
  rintro e w' ⟨v, l, rfl, hpost, hS'⟩
  show wpList _ _ _ _ ((mkA N fr junk).put o.dst v) w'
  rw [mkA_put]
  exact K v l hpost junk w' hS'
/-- a call of a value that is known ahead, of which memory is told as before -/
theorem TriLQ.call {pre : List HP} {post : Value → List HP → Prop} {pk pk' : List Nat} {v0 : Value} (hc : ∀ junk, callOf P β N junk ops fr k = some (f, args, d)) (hs : Spec P β f args pre post) (hn : nodupB pk = true) (hp : pickL hps pk = some (pre ++ R))
    (hn' : nodupB pk' = true) (hp' : pickL (pre ++ R) pk' = some hps) (hv : ∀ v l, post v l → v = v0 ∧ l = pre)
    (K : TriLQ P β N ops (k + 1) (putF fr d v0) hps Q) : TriLQ P β N ops k fr hps Q := by
  intro junk
  obtain ⟨o, h1, h2, rfl, h3⟩ := callOf_spec (hc junk)
  rw [drop_cons h1]
  unfold wpQuiet
  rw [wanted_mkA, if_pos h2]
  refine ⟨v0, fun w hS => ?_, ?_⟩
  · unfold Oper.quietAt
    rw [mkA_eval, h3 w hS.nil]
    refine ⟨rfl, (hs.use (hS.pick hn hp)).mono ?_⟩
    rintro e w' ⟨v, l, rfl, hpost, hS'⟩
    obtain ⟨rfl, rfl⟩ := hv v l hpost
    exact ⟨rfl, hS'.pick hn' hp'⟩
  · rw [mkA_put]
    exact K junk
/-- an operation by a law of its own -/
theorem TriL.op {ι : Type} {v : ι → Value} {hp' : ι → List HP} {o : Oper} (ho : ops.toList[k]? = some o) (h : ∀ junk w, Sat β hps w → Region.wanted o (yF ops N fr junk) = true ∧ ∃ i w', Ran P (evF N fr junk) o w (v i) w' ∧ Sat β (hp' i) w')
    (K : ∀ i, TriL P β N ops (k + 1) (putF fr o.dst (v i)) (hp' i) Q) : TriL P β N ops k fr hps Q := by
  intro junk w hS
  obtain ⟨hw, i, w', h1, h2⟩ := h junk w hS
  rw [drop_cons ho]
  unfold wpList
  rw [wanted_mkA, if_pos hw]
  refine .inl (wp_of_ran (v := v i) (w' := w') (by rw [mkA_eval]; exact h1) ?_)
  rw [mkA_put]
  exact K i junk w' h2
end calls

/-! ### entry and return -/
def zipF : Nat → List Value → Fr
  | _, [] => []
  | k, x :: r => (k, x) :: zipF (k + 1) r
theorem lk_zipF (junk : Nat → Value) : ∀ (l : List Value) (k t : Nat), lk (zipF k l) junk t = if k ≤ t ∧ t < k + l.length then l.getD (t - k) undef else junk t
  | [], k, t => by simp [zipF, lk]; intros; omega
  | x :: r, k, t => by
    rw [zipF, lk_cons, lk_zipF junk r (k + 1) t]
    by_cases h : k = t
    · subst h; simp
    · by_cases h2 : k + 1 ≤ t ∧ t < k + 1 + r.length
      · have e : t - k = (t - (k + 1)) + 1 := by omega
        simp only [h, if_false, h2, and_self, if_true]
        rw [if_pos (by simp; omega), e]
        simp
      · rw [if_neg h, if_neg h2, if_neg (by simp; omega)]
theorem enter_mkA {N : Nat} {args : Array Value} (h : args.toList.length ≤ N) : (⟨args ++ Array.replicate (N - args.size) undef, []⟩ : Act) = mkA N (zipF 0 args.toList) (fun _ => undef) := by
  unfold mkA
  congr 1
  apply Array.ext_getElem?
  intro t
  have hs : args.toList.length = args.size := by simp
  by_cases h1 : t < args.size
  · have h2 : t < N := by omega
    simp [h1, h2, lk_zipF, Array.getElem?_append_left]
  · by_cases h2 : t < N
    · rw [Array.getElem?_append_right (Nat.le_of_not_lt h1), Array.getElem?_replicate, if_pos (by omega)]
      rw [List.getElem?_toArray, List.getElem?_map, List.getElem?_range h2]
      simp only [Option.map_some, lk_zipF]
      rw [if_neg (by omega)]
    · simp [h2]
      omega
def RetQ (β : Bs) (R : Asn) (post : Value → List HP → Prop) : Ending → World → Prop := fun e w' => ∃ v l, e = .returned v ∧ post v l ∧ Sat β (l ++ [.abs R]) w'
section ends
variable {P : Program} {β : Bs} {N : Nat} {fr : Fr} {hps l : List HP} {f : FuncId} {args : Array Value} {pre : List HP} {post : Value → List HP → Prop} {fn : Func} {c : Code} {v : Value} {obl : List Prop}
theorem Spec.enter (hf : P.funcs[f]? = some fn) (hb : fn.body = some c) (hN : fn.ntmps = N) (hl : args.toList.length ≤ N) (h : ∀ R : Asn, Tri P β N c (zipF 0 args.toList) (pre ++ [.abs R]) (bodyPost P fn (RetQ β R post))) : Spec P β f args pre post := by
  intro R w hS
  refine calls_of_wp hf hb ?_
  rw [hN, enter_mkA hl]
  exact h R _ w hS
def retOf (P : Program) (β : Bs) (N : Nat) (junk : Nat → Value) (fn : Func) (fr : Fr) (hps : List HP) (hints : List Hint) : Option (Value × List Prop) :=
  match srun P β 0 true (results fn (mkA N fr junk).tmps) ⟨hints, hps, [], true⟩ with
  | some (v, S) => some (v, S.obl)
  | none => none
theorem retOf_spec {junk : Nat → Value} {hints : List Hint} {w : World} (h : retOf P β N junk fn fr hps hints = some (v, obl)) (ho : AllP obl) (hS : Sat β hps w) : (results fn (mkA N fr junk).tmps).run P w = .ok v w := by
  unfold retOf at h
  split at h
  · rename_i v' S h0
    cases h
    obtain ⟨w', h1, _, _, h2⟩ := srun_sound _ _ _ _ w h0 (fun p hp => ho.mem hp) hS (fun e => by cases e)
    rw [h1, (h2 rfl).1]
  · cases h
theorem TriQ.ret {R : Asn} (hints : List Hint) (pk : List Nat) (hr : ∀ junk, retOf P β N junk fn fr hps hints = some (v, obl)) (ho : AllP obl) (hn : nodupB pk = true) (hp : pickL hps pk = some (l ++ [.abs R])) (hpost : post v l) :
    TriQ β N (bodyPost P fn (RetQ β R post)) .ret fr hps :=
  fun junk _ hS => ⟨rfl, v, retOf_spec (hr junk) ho hS, v, l, rfl, hpost, hS.pick hn hp⟩
theorem TriQ.fin {R : Asn} (hints : List Hint) (pk : List Nat) (hr : ∀ junk, retOf P β N junk fn fr hps hints = some (v, obl)) (ho : AllP obl) (hn : nodupB pk = true) (hp : pickL hps pk = some (l ++ [.abs R])) (hpost : post v l) :
    TriQ β N (bodyPost P fn (RetQ β R post)) .normal fr hps :=
  fun junk _ hS => ⟨rfl, v, retOf_spec (hr junk) ho hS, v, l, rfl, hpost, hS.pick hn hp⟩

/-! ### contracts of the elder kind -/
theorem Spec.of1 {A : Asn} (h : ∀ F w, A.h F w → Calls P f args w fun e w' => ∃ v p, e = .returned v ∧ post v [p] ∧ ∃ F', p.h F' w' ∧ Step F w F' w') : Spec P β f args [.abs A] post := by
  intro R w hS
  obtain ⟨F, hF⟩ := hS.get (i := 0) rfl
  have hS0 := hS
  obtain ⟨ho, φ, h1, h2, h3⟩ := hS
  refine (h (φ 0) w (h1 0 _ rfl)).mono ?_
  rintro e w' ⟨v, p, rfl, hp, F', hF', st⟩
  refine ⟨v, [p], rfl, hp, ?_⟩
  have ho' := ho
  have h4 : ∀ k, φ 1 k → k < w.heap.size := fun k hk => HP.lt (h1 1 (.abs R) rfl) k hk
  refine ⟨ho.keeps st.keeps (fun k hk hk' => h2 0 (by simp) k hk' hk), fun i => if i = 0 then F' else φ 1, fun i q hq => ?_, fun i hi k hk hO => ?_, fun i j hi hj hne k hk hk' => ?_⟩
  · match i, hq with
    | 0, hq => cases hq; exact hF'
    | 1, hq =>
      cases hq
      exact HP.st (h1 1 (.abs R) rfl) st.keeps (fun k hk hk' => h3 0 1 (by simp) (by simp) (by simp) k hk' hk)
  · by_cases e : i = 0
    · simp only [e, if_true] at hk
      rcases st.grow k hk with e | e
      · exact h2 0 (by simp) k e hO
      · have := (ho.old k hO).1; have := ho.size; omega
    · simp only [e, if_false] at hk
      exact h2 1 (by simp) k hk hO
  · simp at hi hj
    have key : ∀ k, F' k → φ 1 k → False := fun k hk hk' => by
      rcases st.grow k hk with e | e
      · exact h3 0 1 (by simp) (by simp) (by simp) k e hk'
      · have := h4 k hk'; omega
    by_cases e1 : i = 0
    · have e2 : j ≠ 0 := fun e => hne (e1.trans e.symm)
      simp only [e1, if_true] at hk
      simp only [e2, if_false] at hk'
      exact key k hk hk'
    · have e2 : j = 0 := by omega
      simp only [e1, if_false] at hk
      simp only [e2, if_true] at hk'
      exact key k hk' hk
theorem Spec.of0 (h : ∀ w, β.ok w → Calls P f args w fun e w' => ∃ v, e = .returned v ∧ post v [] ∧ Keeps (fun _ => False) w w') : Spec P β f args [] post := by
  intro R w hS
  refine (h w hS.1).mono ?_
  rintro e w' ⟨v, rfl, hp, hk⟩
  exact ⟨v, [], rfl, hp, hS.quiet hk⟩
theorem Spec.of0new (h : ∀ w, β.ok w → Calls P f args w fun e w' => ∃ v p, e = .returned v ∧ post v [p] ∧ Keeps (fun _ => False) w w' ∧ ∃ F, p.h F w' ∧ ∀ k, F k → w.heap.size ≤ k) : Spec P β f args [] post := by
  intro R w hS
  refine (h w hS.1).mono ?_
  rintro e w' ⟨v, p, rfl, hp, hk, F, hF, hn⟩
  exact ⟨v, [p], rfl, hp, (Sat.new hS hF hk hn).pick (idx := [1, 0]) rfl rfl⟩
def empA : Asn where
  h F _ := ∀ k, ¬ F k
  lt h k hk := (h k hk).elim
  st h _ _ _ _ := h
theorem Spec.top {W : World} (h : Spec P ⟨(· < W.heap.size), W⟩ f args [] post) : Calls P f args W fun e w' => (∃ v l, e = .returned v ∧ post v l) ∧ Below W.heap.size W w' := by
  have hS : Sat ⟨(· < W.heap.size), W⟩ ([] ++ [.abs empA]) W := by
    refine ⟨⟨rfl, rfl, rfl, Nat.le_refl _, fun k hk => ⟨hk, rfl⟩⟩, fun _ _ => False, fun i p hp => ?_, fun i _ k hk => hk.elim, fun i j _ _ _ k hk => hk.elim⟩
    match i, hp with
    | 0, hp => cases hp; exact fun _ h => h
  refine (h empA W hS).mono ?_
  rintro e w' ⟨v, l, he, hp, hS'⟩
  have ho := hS'.1
  exact ⟨⟨v, l, he, hp⟩, ho.os, ho.tape, ho.output, ho.size, fun k hk => (ho.old k hk).2⟩
end ends
end Go.Proofs.Ytejnhhpjlajngaa
end
/- part Vd. PROVED HERE: the rules of the logic that part a walk by a test, or tell a slot otherwise; small laws of numbers. CONDITIONS: none. No statement of the seat is proved here. -/
section
namespace Go.Proofs.Ytejnhhpjlajngaa
open Go.RowKit
section slots
variable {P : Program} {β : Bs} {N : Nat} {ops : Array Oper} {k : Nat} {fr : Fr} {hps : List HP} {Q : Post} {c x y : Code} {e : Exit} {i : Nat} {v v' : Value} {b : Bool}
theorem mkA_same {junk : Nat → Value} (h : lk fr junk i = v) : mkA N ((i, v) :: fr) junk = mkA N fr junk := by
  unfold mkA
  have : (List.range N).map (lk ((i, v) :: fr) junk) = (List.range N).map (lk fr junk) := List.map_congr_left (fun t _ => by
    rw [lk_cons]
    by_cases e : i = t
    · subst e; simp [h]
    · simp [e])
  rw [this]
theorem TriL.slot (i : Nat) (v v' : Value) (h : ∀ junk, lk fr junk i = v) (hv : v = v') (K : TriL P β N ops k ((i, v') :: fr) hps Q) : TriL P β N ops k fr hps Q := fun junk w hS => by
  have := K junk w hS
  rwa [mkA_same (hv ▸ h junk)] at this
theorem TriLQ.slot (i : Nat) (v v' : Value) (h : ∀ junk, lk fr junk i = v) (hv : v = v') (K : TriLQ P β N ops k ((i, v') :: fr) hps Q) : TriLQ P β N ops k fr hps Q := fun junk => by
  have := K junk
  rwa [mkA_same (hv ▸ h junk)] at this
theorem Tri.slot' (i : Nat) (v v' : Value) (h : ∀ junk, lk fr junk i = v) (hv : v = v') (K : Tri P β N c ((i, v') :: fr) hps Q) : Tri P β N c fr hps Q := fun junk w hS => by
  have := K junk w hS
  rwa [mkA_same (hv ▸ h junk)] at this
theorem TriQ.slot (i : Nat) (v v' : Value) (h : ∀ junk, lk fr junk i = v) (hv : v = v') (K : TriQ β N Q e ((i, v') :: fr) hps) : TriQ β N Q e fr hps := fun junk w hS => by
  have := K junk w hS
  rwa [mkA_same (hv ▸ h junk)] at this
theorem TriL.slotB (i : Nat) (b : Bool) (h : ∀ junk, lk fr junk i = .bool b) (ht : b = true → TriL P β N ops k ((i, .bool true) :: fr) hps Q) (hf : b = false → TriL P β N ops k ((i, .bool false) :: fr) hps Q) : TriL P β N ops k fr hps Q := by
  cases hb : b with
  | true => exact TriL.slot i (.bool b) (.bool true) h (by rw [hb]) (ht hb)
  | false => exact TriL.slot i (.bool b) (.bool false) h (by rw [hb]) (hf hb)
theorem TriLQ.slotB (i : Nat) (b : Bool) (h : ∀ junk, lk fr junk i = .bool b) (ht : b = true → TriLQ P β N ops k ((i, .bool true) :: fr) hps Q) (hf : b = false → TriLQ P β N ops k ((i, .bool false) :: fr) hps Q) : TriLQ P β N ops k fr hps Q := by
  cases hb : b with
  | true => exact TriLQ.slot i (.bool b) (.bool true) h (by rw [hb]) (ht hb)
  | false => exact TriLQ.slot i (.bool b) (.bool false) h (by rw [hb]) (hf hb)
theorem TriL.slotP (i : Nat) (p : Prop) [Decidable p] (h : ∀ junk, lk fr junk i = .bool (decide p)) (ht : p → TriL P β N ops k ((i, .bool true) :: fr) hps Q) (hf : ¬ p → TriL P β N ops k ((i, .bool false) :: fr) hps Q) : TriL P β N ops k fr hps Q :=
  TriL.slotB i _ h (fun e => ht (of_decide_eq_true e)) (fun e => hf (of_decide_eq_false e))
theorem TriLQ.slotP (i : Nat) (p : Prop) [Decidable p] (h : ∀ junk, lk fr junk i = .bool (decide p)) (ht : p → TriLQ P β N ops k ((i, .bool true) :: fr) hps Q) (hf : ¬ p → TriLQ P β N ops k ((i, .bool false) :: fr) hps Q) : TriLQ P β N ops k fr hps Q :=
  TriLQ.slotB i _ h (fun e => ht (of_decide_eq_true e)) (fun e => hf (of_decide_eq_false e))
theorem TriL.partEq (i : Nat) {p p' : HP} (hp : hps[i]? = some p) (e : p = p') (K : TriL P β N ops k fr (hps.set i p') Q) : TriL P β N ops k fr hps Q := by
  subst e
  have : hps.set i p = hps := by
    apply List.ext_getElem?
    intro j
    by_cases e : i = j
    · subst e; rw [List.getElem?_set_self (len_of_some hp), hp]
    · rw [List.getElem?_set_ne e]
  rwa [this] at K
theorem not_dec_true {p : Prop} [Decidable p] (h : (!decide p) = true) : ¬ p := by simpa using h
theorem not_dec_false {p : Prop} [Decidable p] (h : (!decide p) = false) : p := by simpa using h
theorem TriL.slotN (i : Nat) (p : Prop) [Decidable p] (h : ∀ junk, lk fr junk i = .bool (!decide p)) (ht : ¬ p → TriL P β N ops k ((i, .bool true) :: fr) hps Q) (hf : p → TriL P β N ops k ((i, .bool false) :: fr) hps Q) : TriL P β N ops k fr hps Q :=
  TriL.slotB i _ h (fun e => ht (not_dec_true e)) (fun e => hf (not_dec_false e))
theorem TriLQ.slotN (i : Nat) (p : Prop) [Decidable p] (h : ∀ junk, lk fr junk i = .bool (!decide p)) (ht : ¬ p → TriLQ P β N ops k ((i, .bool true) :: fr) hps Q) (hf : p → TriLQ P β N ops k ((i, .bool false) :: fr) hps Q) : TriLQ P β N ops k fr hps Q :=
  TriLQ.slotB i _ h (fun e => ht (not_dec_true e)) (fun e => hf (not_dec_false e))
theorem Tri.condN {o : Operand} {p : Prop} [Decidable p] (h : ∀ junk, evF N fr junk o = .bool (!decide p)) (ht : ¬ p → Tri P β N x fr hps Q) (hf : p → Tri P β N y fr hps Q) : Tri P β N (.cond o x y) fr hps Q :=
  Tri.cond h (fun e => ht (not_dec_true e)) (fun e => hf (not_dec_false e))
end slots
theorem wrapEq {x y : Int} (h : x = y) (lo : -9223372036854775808 ≤ y) (hi : y ≤ 9223372036854775807) : Value.int .i64 (IntKind.wrap .i64 x) = Value.int .i64 y := by
  subst h
  rw [IntWalk.i64_in _ ⟨lo, hi⟩]
theorem intEq {k : IntKind} {x y : Int} (h : x = y) : Value.int k x = Value.int k y := by rw [h]
theorem strEq' (x y : ByteArray) : (x.toList == y.toList) = decide (x = y) := by
  rw [← beq_toListBytes]
  obtain ⟨⟨x⟩⟩ := x
  obtain ⟨⟨y⟩⟩ := y
  show ((⟨x⟩ : Array UInt8) == ⟨y⟩) = _
  by_cases h : x = y
  · subst h; simp
  · simp [h]
theorem strEqV (x y : ByteArray) : Value.bool (x.toList == y.toList) = Value.bool (decide (x = y)) := by rw [strEq']
theorem strNeV (x y : ByteArray) : Value.bool (!(x.toList == y.toList)) = Value.bool (!decide (x = y)) := by rw [strEq']
end Go.Proofs.Ytejnhhpjlajngaa
end
/- part Vm. PROVED HERE: the logic's rules for maps: made, looked into, written, deleted from, counted. CONDITIONS: none. No statement of the seat is proved here. -/
section
namespace Go.Proofs.Ytejnhhpjlajngaa
open Go.RowKit Go.Maps
def opAt (N : Nat) (junk : Nat → Value) (ops : Array Oper) (fr : Fr) (k : Nat) : Option (Op × Option Tmp) :=
  match ops.toList[k]? with
  | some o =>
    match Region.wanted o (yF ops N fr junk) with
    | true => some (o.op, o.dst)
    | false => none
  | none => none
theorem opAt_spec {N : Nat} {junk : Nat → Value} {ops : Array Oper} {fr : Fr} {k : Nat} {op : Op} {d : Option Tmp} (h : opAt N junk ops fr k = some (op, d)) :
    ∃ o, ops.toList[k]? = some o ∧ Region.wanted o (yF ops N fr junk) = true ∧ o.op = op ∧ o.dst = d := by
  unfold opAt at h
  repeat' split at h
  all_goals first | (cases h; done) | skip
  rename_i o h1 _ h2
  cases h
  exact ⟨o, h1, h2, rfl, rfl⟩
/-- block b is a map that holds what f says -/
def MapA (P : Program) (K : TypeId) (b : Nat) (f : Lit → Option Value) (n : Nat) : Asn where
  h F w := MapIs P K w b f n ∧ ∀ k, F k ↔ k = b
  lt := by rintro F w ⟨h, hF⟩ k hk; rw [(hF k).1 hk]; exact h.lt
  st := by rintro F w ⟨h, hF⟩ S w' hk hn; exact ⟨h.keeps hk (hn b ((hF b).2 rfl)), hF⟩
section maps
variable {P : Program} {β : Bs} {N : Nat} {ops : Array Oper} {k : Nat} {fr : Fr} {hps hps' : List HP} {Q : Post} {d : Option Tmp} {op : Op} {v : Value}
/-- an operation that the memory allows, to whatever it leads -/
theorem TriL.run1 (hop : ∀ junk, opAt N junk ops fr k = some (op, d)) (h : ∀ (o : Oper) junk w, o.op = op → Sat β hps w → ∃ w', Ran P (evF N fr junk) o w v w' ∧ Sat β hps' w')
    (K : TriL P β N ops (k + 1) (putF fr d v) hps' Q) : TriL P β N ops k fr hps Q := by
  intro junk w hS
  obtain ⟨o, h1, h2, h3, rfl⟩ := opAt_spec (hop junk)
  obtain ⟨w', h4, h5⟩ := h o junk w h3 hS
  rw [drop_cons h1]
  unfold wpList
  rw [wanted_mkA, if_pos h2]
  refine .inl (wp_of_ran (v := v) (w' := w') (by rw [mkA_eval]; exact h4) ?_)
  rw [mkA_put]
  exact K junk w' h5
/-- the same, what it leads to being told behind an ∃ -/
theorem TriL.runE {ι : Type} {v : ι → Value} {hp' : ι → List HP} (hop : ∀ junk, opAt N junk ops fr k = some (op, d)) (h : ∀ (o : Oper) junk w, o.op = op → Sat β hps w → ∃ i w', Ran P (evF N fr junk) o w (v i) w' ∧ Sat β (hp' i) w')
    (K : ∀ i, TriL P β N ops (k + 1) (putF fr d (v i)) (hp' i) Q) : TriL P β N ops k fr hps Q := by
  intro junk w hS
  obtain ⟨o, h1, h2, h3, rfl⟩ := opAt_spec (hop junk)
  obtain ⟨i, w', h4, h5⟩ := h o junk w h3 hS
  rw [drop_cons h1]
  unfold wpList
  rw [wanted_mkA, if_pos h2]
  refine .inl (wp_of_ran (v := v i) (w' := w') (by rw [mkA_eval]; exact h4) ?_)
  rw [mkA_put]
  exact K i junk w' h5
theorem TriLQ.run1 (hop : ∀ junk, opAt N junk ops fr k = some (op, d)) (h : ∀ (o : Oper) junk w, o.op = op → Sat β hps w → Ran P (evF N fr junk) o w v w)
    (K : TriLQ P β N ops (k + 1) (putF fr d v) hps Q) : TriLQ P β N ops k fr hps Q := by
  intro junk
  obtain ⟨o, h1, h2, h3, rfl⟩ := opAt_spec (hop junk)
  rw [drop_cons h1]
  unfold wpQuiet
  rw [wanted_mkA, if_pos h2]
  refine ⟨v, fun w hS => ?_, ?_⟩
  · unfold Oper.quietAt
    rw [mkA_eval]
    rcases h o junk w h3 hS with h4 | ⟨h4, h4'⟩
    · rw [h4]; exact ⟨rfl, rfl⟩
    · rw [h4']; exact ⟨rfl, h4⟩
  · rw [mkA_put]
    exact K junk
variable {t K E : TypeId} {b n i : Nat} {f : Lit → Option Value} {x ix y : Operand} {key z u : Value} {kl : Lit} {r : Option Value}
theorem MapA.get {w : World} (hS : Sat β hps w) (hp : hps[i]? = some (.abs (MapA P K b f n))) : MapIs P K w b f n := by
  obtain ⟨F, hF⟩ := hS.get hp
  exact hF.1
theorem ran_lookOk {w : World} {o : Oper} {ev : Operand → Value} (ho : o.op = .lookup t x ix true) (hm : MapIs P K w b f n) (hx : ev x = .map (some b)) (hix : ev ix = key) (L : Keyed P K) (ht : P.underlying t = some (.map K E))
    (hz : (zeroValue E).run P w = .ok z w) (hkey : keyOf P K key = some kl) : Ran P ev o w (.tuple #[(f kl).getD z, .bool (f kl).isSome]) w := by
  have h := hm.look_ok L ht hz hkey
  obtain ⟨dst, op, type, pos, after, guard⟩ := o
  cases ho
  refine .inl ?_
  simp only [execOp, hx, hix]
  simp [go_sem, h]
theorem ran_look {w : World} {o : Oper} {ev : Operand → Value} (ho : o.op = .lookup t x ix false) (hm : MapIs P K w b f n) (hx : ev x = .map (some b)) (hix : ev ix = key) (L : Keyed P K) (ht : P.underlying t = some (.map K E))
    (hz : (zeroValue E).run P w = .ok z w) (hkey : keyOf P K key = some kl) : Ran P ev o w ((f kl).getD z) w := by
  have h := hm.look L ht hz hkey
  obtain ⟨dst, op, type, pos, after, guard⟩ := o
  cases ho
  refine .inl ?_
  simp only [execOp, hx, hix]
  simp [go_sem, h]
theorem TriL.mapLookOk (i : Nat) (hop : ∀ junk, opAt N junk ops fr k = some (.lookup t x ix true, d)) (hp : hps[i]? = some (.abs (MapA P K b f n))) (hx : ∀ junk, evF N fr junk x = .map (some b)) (hix : ∀ junk, evF N fr junk ix = key) (L : Keyed P K)
    (ht : P.underlying t = some (.map K E)) (hz : ∀ w, (zeroValue E).run P w = .ok z w) (hkey : keyOf P K key = some kl) (hr : f kl = r) (K' : TriL P β N ops (k + 1) (putF fr d (.tuple #[r.getD z, .bool r.isSome])) hps Q) : TriL P β N ops k fr hps Q := by
  subst hr
  exact TriL.run1 hop (fun o junk w ho hS => ⟨w, ran_lookOk ho (MapA.get hS hp) (hx junk) (hix junk) L ht (hz w) hkey, hS⟩) K'
theorem TriL.mapLook (i : Nat) (hop : ∀ junk, opAt N junk ops fr k = some (.lookup t x ix false, d)) (hp : hps[i]? = some (.abs (MapA P K b f n))) (hx : ∀ junk, evF N fr junk x = .map (some b)) (hix : ∀ junk, evF N fr junk ix = key) (L : Keyed P K)
    (ht : P.underlying t = some (.map K E)) (hz : ∀ w, (zeroValue E).run P w = .ok z w) (hkey : keyOf P K key = some kl) (hr : f kl = r) (K' : TriL P β N ops (k + 1) (putF fr d (r.getD z)) hps Q) : TriL P β N ops k fr hps Q := by
  subst hr
  exact TriL.run1 hop (fun o junk w ho hS => ⟨w, ran_look ho (MapA.get hS hp) (hx junk) (hix junk) L ht (hz w) hkey, hS⟩) K'
theorem TriLQ.mapLookOk (i : Nat) (hop : ∀ junk, opAt N junk ops fr k = some (.lookup t x ix true, d)) (hp : hps[i]? = some (.abs (MapA P K b f n))) (hx : ∀ junk, evF N fr junk x = .map (some b)) (hix : ∀ junk, evF N fr junk ix = key) (L : Keyed P K)
    (ht : P.underlying t = some (.map K E)) (hz : ∀ w, (zeroValue E).run P w = .ok z w) (hkey : keyOf P K key = some kl) (hr : f kl = r) (K' : TriLQ P β N ops (k + 1) (putF fr d (.tuple #[r.getD z, .bool r.isSome])) hps Q) : TriLQ P β N ops k fr hps Q := by
  subst hr
  exact TriLQ.run1 hop (fun o junk w ho hS => ran_lookOk ho (MapA.get hS hp) (hx junk) (hix junk) L ht (hz w) hkey) K'
theorem TriLQ.mapLook (i : Nat) (hop : ∀ junk, opAt N junk ops fr k = some (.lookup t x ix false, d)) (hp : hps[i]? = some (.abs (MapA P K b f n))) (hx : ∀ junk, evF N fr junk x = .map (some b)) (hix : ∀ junk, evF N fr junk ix = key) (L : Keyed P K)
    (ht : P.underlying t = some (.map K E)) (hz : ∀ w, (zeroValue E).run P w = .ok z w) (hkey : keyOf P K key = some kl) (hr : f kl = r) (K' : TriLQ P β N ops (k + 1) (putF fr d (r.getD z)) hps Q) : TriLQ P β N ops k fr hps Q := by
  subst hr
  exact TriLQ.run1 hop (fun o junk w ho hS => ran_look ho (MapA.get hS hp) (hx junk) (hix junk) L ht (hz w) hkey) K'
theorem step_map {w w' : World} {f' : Lit → Option Value} {n' : Nat} {F : Fp} (hF : (HP.abs (MapA P K b f n)).h F w) (h : MapIs P K w' b f' n') (hk : Keeps (· = b) w w') : ∃ F', (HP.abs (MapA P K b f' n')).h F' w' ∧ Step F w F' w' :=
  ⟨F, ⟨h, hF.2⟩, hk.mono (fun _ _ e => (hF.2 _).2 e), fun _ h => .inl h⟩
theorem TriL.mapSet (i : Nat) (hop : ∀ junk, opAt N junk ops fr k = some (.mapUpdate t x ix y, d)) (hp : hps[i]? = some (.abs (MapA P K b f n))) (hx : ∀ junk, evF N fr junk x = .map (some b)) (hix : ∀ junk, evF N fr junk ix = key) (hy : ∀ junk, evF N fr junk y = u) (L : Keyed P K)
    (ht : P.underlying t = some (.map K E)) (hn : n < maxLen) (hkey : keyOf P K key = some kl) {n' : Nat} (hn' : (if (f kl).isSome then n else n + 1) = n') {f' : Lit → Option Value} (hf' : upd f kl (some u) = f')
    (K' : TriL P β N ops (k + 1) (putF fr d undef) (hps.set i (.abs (MapA P K b f' n'))) Q) : TriL P β N ops k fr hps Q := by
  subst hn' hf'
  refine TriL.run1 hop (fun o junk w ho hS => ?_) K'
  obtain ⟨F, hF⟩ := hS.get hp
  obtain ⟨w', h1, h2, h3⟩ := hF.1.store L ht hn hkey u
  refine ⟨w', .inr ⟨rfl, ?_⟩, hS.set hp (fun F hF => step_map hF h2 h3)⟩
  obtain ⟨dst, op, type, pos, after, guard⟩ := o
  cases ho
  simp only [execOp, hx junk, hix junk, hy junk]
  simp [go_sem, h1]
theorem TriL.mapDel (i : Nat) {ats : Array TypeId} (hop : ∀ junk, opAt N junk ops fr k = some (.call ⟨.builtin .delete, #[x, ix], ats⟩, d)) (hp : hps[i]? = some (.abs (MapA P K b f n))) (hx : ∀ junk, evF N fr junk x = .map (some b)) (hix : ∀ junk, evF N fr junk ix = key) (hats : ats = #[t, K]) (L : Keyed P K)
    (ht : P.underlying t = some (.map K E)) (hkey : keyOf P K key = some kl) {n' : Nat} (hn' : (if (f kl).isSome then n - 1 else n) = n') {f' : Lit → Option Value} (hf' : upd f kl none = f')
    (K' : TriL P β N ops (k + 1) (putF fr d (.tuple #[])) (hps.set i (.abs (MapA P K b f' n'))) Q) : TriL P β N ops k fr hps Q := by
  subst hn' hf' hats
  refine TriL.run1 hop (fun o junk w ho hS => ?_) K'
  obtain ⟨F, hF⟩ := hS.get hp
  obtain ⟨w', h1, h2, h3⟩ := hF.1.drop L ht hkey o.type
  refine ⟨w', .inl ?_, hS.set hp (fun F hF => step_map hF h2 h3)⟩
  obtain ⟨dst, op, type, pos, after, guard⟩ := o
  cases ho
  simp only [execOp, resolve, invoke, builtin]
  simp [go_sem, hx junk, hix junk, h1]
theorem ran_len {w : World} {o : Oper} {ev : Operand → Value} {ats : Array TypeId} (ho : o.op = .call ⟨.builtin .len, #[x], ats⟩) (hats : ats = #[t]) (hm : MapIs P K w b f n) (hx : ev x = .map (some b)) (ht : P.underlying t = some (.map K E)) :
    Ran P ev o w (.int .i64 ((n : Nat) : Int)) w := by
  have h := hm.len ht o.type
  obtain ⟨dst, op, type, pos, after, guard⟩ := o
  subst hats
  cases ho
  refine .inl ?_
  simp only [execOp, resolve, invoke, builtin]
  simp [go_sem, hx, h]
theorem TriL.mapLen (i : Nat) {ats : Array TypeId} (hop : ∀ junk, opAt N junk ops fr k = some (.call ⟨.builtin .len, #[x], ats⟩, d)) (hp : hps[i]? = some (.abs (MapA P K b f n))) (hx : ∀ junk, evF N fr junk x = .map (some b)) (hats : ats = #[t]) (ht : P.underlying t = some (.map K E))
    (K' : TriL P β N ops (k + 1) (putF fr d (.int .i64 ((n : Nat) : Int))) hps Q) : TriL P β N ops k fr hps Q :=
  TriL.run1 hop (fun _ junk w ho hS => ⟨w, ran_len ho hats (MapA.get hS hp) (hx junk) ht, hS⟩) K'
theorem TriLQ.mapLen (i : Nat) {ats : Array TypeId} (hop : ∀ junk, opAt N junk ops fr k = some (.call ⟨.builtin .len, #[x], ats⟩, d)) (hp : hps[i]? = some (.abs (MapA P K b f n))) (hx : ∀ junk, evF N fr junk x = .map (some b)) (hats : ats = #[t]) (ht : P.underlying t = some (.map K E))
    (K' : TriLQ P β N ops (k + 1) (putF fr d (.int .i64 ((n : Nat) : Int))) hps Q) : TriLQ P β N ops k fr hps Q :=
  TriLQ.run1 hop (fun _ junk _ ho hS => ran_len ho hats (MapA.get hS hp) (hx junk) ht) K'
theorem TriL.mapMake (hop : ∀ junk, opAt N junk ops fr k = some (.makeMap t none, d)) (P' : Program) (hP : P' = P) (K : TypeId) (K' : ∀ b, TriL P β N ops (k + 1) (putF fr d (.map (some b))) (hps ++ [.abs (MapA P K b (fun _ => none) 0)]) Q) : TriL P β N ops k fr hps Q := by
  subst hP
  refine TriL.runE (ι := Nat) (v := fun b => .map (some b)) (hp' := fun b => hps ++ [.abs (MapA P' K b (fun _ => none) 0)]) hop (fun o junk w ho hS => ⟨w.heap.size, w.alloc (.map #[] 0), .inl ?_, ?_⟩) K'
  · obtain ⟨dst, op, type, pos, after, guard⟩ := o
    cases ho
    rfl
  · exact hS.new (F := fun k => k = w.heap.size) ⟨MapIs.made w P' K, fun _ => Iff.rfl⟩ ((Keeps.refl _ _).alloc _) (fun k e => Nat.le_of_eq e.symm)
end maps
end Go.Proofs.Ytejnhhpjlajngaa
end
/- part Va. PROVED HERE: the logic's rules for rows that the code makes itself: append, reading, writing. CONDITIONS: none. No statement of the seat is proved here. -/
section
namespace Go.Proofs.Ytejnhhpjlajngaa
open Go.RowKit
/-- the slice A, n, cap holds the cells xs, in a row of the code's own -/
def RowA (e : TypeId) (size : Nat) (A : Option Addr) (n cap : Nat) (xs : List Value) : Asn where
  h F w := w.ownsRow 0 e size (.slice A n cap) n xs ∧ ∀ k, F k ↔ (Value.slice A n cap).ownBlock = some k
  lt := by rintro F w ⟨h, hF⟩ k hk; exact (h.lt k ((hF k).1 hk)).2
  st := by rintro F w ⟨h, hF⟩ S w' hk hn; exact ⟨hk.ownsRow h (fun k e => hn k ((hF k).2 e)), hF⟩
theorem RowA.len {e : TypeId} {size : Nat} {A : Option Addr} {n cap : Nat} {xs : List Value} {F : Fp} {w : World} (h : (HP.abs (RowA e size A n cap xs)).h F w) : xs.length = n * size ∧ n ≤ cap := by
  obtain ⟨⟨h1, h2⟩, _⟩ := h
  refine ⟨h1, ?_⟩
  rcases h2 with ⟨e, rfl⟩ | ⟨g, cp, cur, e, _, _, hle, _⟩
  · omega
  · cases e; exact hle
theorem RowA.head {e : TypeId} {size : Nat} {A : Option Addr} {n cap : Nat} {xs : List Value} {F : Fp} {w : World} (h : (HP.abs (RowA e size A n cap xs)).h F w) (hn : 0 < n) : ∃ g, A = some ⟨g, 0, none⟩ := by
  obtain ⟨⟨h1, h2⟩, _⟩ := h
  rcases h2 with ⟨_, e⟩ | ⟨g, cp, cur, e, _⟩
  · omega
  · cases e; exact ⟨g, rfl⟩
theorem RowA.cell {e : TypeId} {size : Nat} {g n cap j : Nat} {xs : List Value} {u : Value} (hj : xs[j]? = some u) : ∀ F w, (RowA e size (some ⟨g, 0, none⟩) n cap xs).h F w → w.cell? ⟨g, j, none⟩ = some u := by
  rintro F w ⟨h, _⟩
  obtain ⟨h1, h2⟩ := h
  rcases h2 with ⟨e, _⟩ | ⟨g', cp, cur, e, _, hb, _, _, hs, ht⟩
  · cases e
  · cases e
    have hlt := len_of_some hj
    have : cur.toList[j]? = some u := by
      rw [← ht, List.getElem?_take] at hj
      split at hj
      · exact hj
      · cases hj
    simpa [World.cell?, hb] using this
theorem RowA.nil (e : TypeId) (size : Nat) (w : World) : (HP.abs (RowA e size none 0 0 [])).h (fun _ => False) w :=
  ⟨⟨by simp, .inl ⟨rfl, rfl⟩⟩, fun k => by simp [Value.ownBlock]⟩
theorem set_same {α : Type} {l : List α} {i : Nat} {x : α} (h : l[i]? = some x) : l.set i x = l := by
  apply List.ext_getElem?
  intro j
  by_cases e : i = j
  · subst e; rw [List.getElem?_set_self (len_of_some h), h]
  · rw [List.getElem?_set_ne e]
section rows
variable {P : Program} {β : Bs} {N : Nat} {ops : Array Oper} {k : Nat} {fr : Fr} {hps hps' : List HP} {Q : Post} {d : Option Tmp} {op : Op} {v : Value} {c : Code}
theorem Sat.rowNil {e : TypeId} {size : Nat} {w : World} (h : Sat β hps w) : Sat β (hps ++ [.abs (RowA e size none 0 0 [])]) w :=
  Sat.new h (RowA.nil e size w) (Keeps.refl _ _) (fun _ h => h.elim)
/-- a block that was made becomes a row -/
theorem step_row {b : Nat} {cs : List Value} {e : TypeId} {size n : Nat} {w : World} (hl : cs.length = n * size) (hm : n ≤ maxLen) : ∀ F, (HP.blk b cs e).h F w → ∃ F', (HP.abs (RowA e size (some ⟨b, 0, none⟩) n n cs)).h F' w ∧ Step F w F' w := by
  rintro F ⟨h1, h2⟩
  refine ⟨F, ⟨⟨hl, .inr ⟨b, n, ⟨cs⟩, rfl, Nat.zero_le _, h1, Nat.le_refl _, hm, by simpa using hl, ?_⟩⟩, fun k => ?_⟩, Step.refl F w⟩
  · rw [← hl]; exact List.take_length
  · rw [h2 k]
    simp [Value.ownBlock, eq_comm]
theorem Sat.toRow {b i : Nat} {cs : List Value} {e : TypeId} {w : World} (size n : Nat) (hp : hps[i]? = some (.blk b cs e)) (hl : cs.length = n * size) (hm : n ≤ maxLen) (h : Sat β hps w) : Sat β (hps.set i (.abs (RowA e size (some ⟨b, 0, none⟩) n n cs))) w :=
  h.set hp (step_row hl hm)
theorem src_blk {b j : Nat} {news : List Value} {T : TypeId} (hp : hps[j]? = some (.blk b news T)) : ∀ w, Sat β hps w → ((some ⟨b, 0, none⟩ : Option Addr) = none ∧ news.length = 0) ∨ ∃ ad, (some ⟨b, 0, none⟩ : Option Addr) = some ad ∧ ∀ j u, news[j]? = some u → w.cell? (ad.add j) = some u := by
  intro w hS
  obtain ⟨F, hF⟩ := hS.get hp
  refine .inr ⟨_, rfl, fun j u hj => ?_⟩
  have ea : (⟨b, 0, none⟩ : Addr).add j = ⟨b, j, none⟩ := by unfold Addr.add; split <;> simp_all
  rw [ea]
  exact (cell_of_blk hF.1 rfl rfl hj).1
theorem TriL.append (i : Nat) {t e : TypeId} {z : Value} {size bytes n cap m c' : Nat} {A A' : Option Addr} {xs news : List Value} {s x : Operand} {ats : Array TypeId}
    (hop : ∀ junk, opAt N junk ops fr k = some (.call ⟨.builtin .append, #[s, x], ats⟩, d)) (hats : ats = #[t, t]) (hp : hps[i]? = some (.abs (RowA e size A n cap xs))) (hs : ∀ junk, evF N fr junk s = .slice A n cap) (hx : ∀ junk, evF N fr junk x = .slice A' m c')
    (ht : P.underlying t = some (.slice e)) (hinf : (P.info? e).map (fun i => (i.zero, i.size, i.bytes)) = some (some z, size, bytes)) (hzs : z.cells.size = size) (hsz : 0 < size)
    (hl : news.length = m * size) (h1 : ∀ u ∈ news, u.oneCell' = true) (hsrc : ∀ w, Sat β hps w → (A' = none ∧ news.length = 0) ∨ ∃ ad, A' = some ad ∧ ∀ j u, news[j]? = some u → w.cell? (ad.add j) = some u)
    (h63 : n + m ≤ maxLen) (hbytes : (n + m) * bytes ≤ 140737488355328)
    (K' : ∀ B cap', TriL P β N ops (k + 1) (putF fr d (.slice B (n + m) cap')) (hps.set i (.abs (RowA e size B (n + m) cap' (xs ++ news)))) Q) : TriL P β N ops k fr hps Q := by
  subst hats
  obtain ⟨inf, hi, hz, hsize, hby⟩ : ∃ inf, P.info? e = some inf ∧ inf.zero = some z ∧ inf.size = size ∧ inf.bytes = bytes := by
    cases h : P.info? e with
    | none => rw [h] at hinf; cases hinf
    | some inf => rw [h] at hinf; simp at hinf; exact ⟨inf, rfl, hinf.1, hinf.2.1, hinf.2.2⟩
  refine TriL.runE (ι := Option Addr × Nat) (v := fun p => .slice p.1 (n + m) p.2) (hp' := fun p => hps.set i (.abs (RowA e size p.1 (n + m) p.2 (xs ++ news)))) hop (fun o junk w ho hS => ?_) (fun p => K' p.1 p.2)
  obtain ⟨F, hF⟩ := hS.get hp
  have hlen := RowA.len hF
  have hrun : ∀ v' w', (Builtin.append_ #[t, t] o.type #[.slice A n cap, .slice A' m c']).run P w = .ok v' w' → Ran P (evF N fr junk) o w v' w' := fun v' w' h => by
    obtain ⟨dst, op, type, pos, after, guard⟩ := o
    cases ho
    refine .inl ?_
    have h' : (Builtin.append_ #[t, t] type #[.slice A n cap, .slice A' m c']).run P w = .ok v' w' := h
    simp only [execOp, resolve, invoke, builtin, hs junk, hx junk, List.map_toArray, List.map_cons, List.map_nil, Sem.run_bind, Sem.run_pure, Result.andThen_ok, h']
  rcases hsrc w hS with ⟨rfl, h0⟩ | ⟨ad, rfl, hnews⟩
  · have hm0 : m = 0 := by
      rw [hl] at h0
      rcases Nat.mul_eq_zero.1 h0 with e | e
      · exact e
      · omega
    subst hm0
    have hn0 : news = [] := List.eq_nil_of_length_eq_zero h0
    subst hn0
    refine ⟨(A, cap), w, hrun _ _ ?_, ?_⟩
    · have hu := run_underlying ht w
      have h3 := runsize hi w
      rw [hsize] at h3
      have h4 : (Builtin.append_ #[t, t] o.type #[.slice A n cap, .slice none 0 c']).run P w = .ok (.slice A n cap) w := by
        cases A <;> simp [Builtin.append_, hu, h3, go_sem, Builtin.lenOf, Builtin.firstCells, hlen.2, storeCells]
      simpa using h4
    · have : hps.set i (.abs (RowA e size A (n + 0) cap (xs ++ []))) = hps := by
        simp only [Nat.add_zero, List.append_nil]
        exact set_same hp
      rw [this]; exact hS
  · obtain ⟨v', w', h2, h3, h4, _, h5⟩ := run_append_own_at (P := P) w 0 t o.type e inf z size bytes ht hi hz hsize hby hzs hsz (.slice A n cap) n xs hF.1 ad m c' news hl hnews h1 h63 hbytes (Nat.zero_le _)
    have hshape : ∃ B cap', v' = .slice B (n + m) cap' := by
      rcases h3.2 with ⟨e, e0⟩ | ⟨g, cp, cur, e, _⟩
      · exact ⟨none, 0, by rw [e, e0]⟩
      · exact ⟨_, cp, e⟩
    obtain ⟨B, cap', rfl⟩ := hshape
    refine ⟨(B, cap'), w', hrun _ _ h2, hS.set hp (fun F hF => ⟨fun k => (Value.slice B (n + m) cap').ownBlock = some k, ⟨h3, fun _ => Iff.rfl⟩, ?_, fun k hk => ?_⟩)⟩
    · exact (Keeps.refl F w).grown h4 (fun k hk => .inr ((hF.2 k).2 hk))
    · rcases h5 with h5 | h5
      · exact .inl ((hF.2 k).2 (h5 ▸ hk))
      · rw [h5] at hk; cases hk; exact .inr (Nat.le_refl _)
end rows
end Go.Proofs.Ytejnhhpjlajngaa
end
/- part Vb. PROVED HERE: what was made may be laid to what is only read; a cell of a row is written. CONDITIONS: none. No statement of the seat is proved here. -/
section
namespace Go.Proofs.Ytejnhhpjlajngaa
open Go.RowKit
/-! ### the base may grow -/
structure Bs.le (β β' : Bs) : Prop where
  O : ∀ k, β.O k → β'.O k
  os : β'.w0.os = β.w0.os
  tape : β'.w0.tape = β.w0.tape
  output : β'.w0.output = β.w0.output
  size : β.w0.heap.size ≤ β'.w0.heap.size
  old : ∀ k, β.O k → k < β.w0.heap.size ∧ β'.w0.heap[k]? = β.w0.heap[k]?
theorem Bs.le.trans {a b c : Bs} (h : a.le b) (g : b.le c) : a.le c :=
  ⟨fun k hk => g.O k (h.O k hk), g.os.trans h.os, g.tape.trans h.tape, g.output.trans h.output, Nat.le_trans h.size g.size, fun k hk => ⟨(h.old k hk).1, (g.old k (h.O k hk)).2.trans (h.old k hk).2⟩⟩
/-- a cell of the base -/
def Rd (β : Bs) (a : Addr) (v : Value) : Prop := β.O a.block ∧ β.w0.cell? a = some v
theorem Rd.le {β β' : Bs} {a : Addr} {v : Value} (h : Rd β a v) (hle : β.le β') : Rd β' a v :=
  ⟨hle.O _ h.1, (World.cell?_of_block (w := β.w0) (hle.old _ h.1).2).trans h.2⟩
theorem Bs.ok.le {β β' : Bs} {w : World} (h : β'.ok w) (hle : β.le β') : β.ok w :=
  ⟨h.os.trans hle.os, h.tape.trans hle.tape, h.output.trans hle.output, Nat.le_trans hle.size h.size, fun k hk => ⟨(hle.old k hk).1, (h.old k (hle.O k hk)).2.trans (hle.old k hk).2⟩⟩
theorem Sat.debase {β β' : Bs} {l : List HP} {w : World} (hle : β.le β') (h : Sat β' l w) : Sat β l w := by
  obtain ⟨ho, φ, h1, h2, h3⟩ := h
  exact ⟨ho.le hle, φ, h1, fun i hi k hk hO => h2 i hi k hk (hle.O k hO), h3⟩
theorem Sat.rebase {β : Bs} {l l' : List HP} {w : World} {p : HP} {i : Nat} {idx : List Nat} (h : Sat β l w) (hp : l[i]? = some p) (hn : nodupB (i :: idx) = true) (hl : pickL l idx = some l') :
    ∃ F, p.h F w ∧ ∃ β' : Bs, β.le β' ∧ (∀ k, F k → β'.O k) ∧ β'.w0 = w ∧ Sat β' l' w := by
  have h' := h.pick (idx := i :: idx) (l' := p :: l') hn (by simp only [pickL, hp, hl])
  obtain ⟨ho, φ, h1, h2, h3⟩ := h'
  refine ⟨φ 0, h1 0 p rfl, ⟨fun k => β.O k ∨ φ 0 k, w⟩, ⟨fun k hk => .inl hk, ho.os, ho.tape, ho.output, ho.size, fun k hk => ho.old k hk⟩, fun k hk => .inr hk, rfl, ⟨rfl, rfl, rfl, Nat.le_refl _, fun k hk => ⟨?_, rfl⟩⟩, fun j => φ (j + 1), fun j q hq => h1 (j + 1) q (by simpa using hq), fun j hj k hk hO => ?_, fun j1 j2 hj1 hj2 hne => h3 _ _ (by simp; omega) (by simp; omega) (by omega)⟩
  · rcases hk with hk | hk
    · exact Nat.lt_of_lt_of_le (ho.old k hk).1 ho.size
    · exact HP.lt (h1 0 p rfl) k hk
  · rcases hO with hO | hO
    · exact h2 (j + 1) (by simp; omega) k hk hO
    · exact h3 (j + 1) 0 (by simp; omega) (by simp) (by omega) k hk hO
section rules
variable {P : Program} {β β' : Bs} {N : Nat} {ops : Array Oper} {k : Nat} {fr : Fr} {hps hps' : List HP} {Q : Post} {c : Code} {e : Exit} {p : HP} {i : Nat} {idx : List Nat} {d : Option Tmp}
theorem TriQ.debase (hle : β.le β') (h : TriQ β N Q e fr hps) : TriQ β' N Q e fr hps := fun junk w hS => h junk w (hS.debase hle)
theorem Tri.debase (hle : β.le β') (h : Tri P β N c fr hps Q) : Tri P β' N c fr hps Q := fun junk w hS => h junk w (hS.debase hle)
theorem TriL.debase (hle : β.le β') (h : TriL P β N ops k fr hps Q) : TriL P β' N ops k fr hps Q := fun junk w hS => h junk w (hS.debase hle)
/-- a part is laid to the base; Φ is what it is good for from now on -/
theorem TriL.rebase {Φ : Bs → Prop} (i : Nat) (idx : List Nat) (hp : hps[i]? = some p) (hn : nodupB (i :: idx) = true) (hl : pickL hps idx = some hps') (hΦ : ∀ F w, p.h F w → ∀ β' : Bs, (∀ k, F k → β'.O k) → β'.w0 = w → Φ β')
    (K : ∀ β' : Bs, β.le β' → Φ β' → TriL P β' N ops k fr hps' Q) : TriL P β N ops k fr hps Q := fun junk w hS => by
  obtain ⟨F, hF, β', hle, h1, h2, hS'⟩ := hS.rebase hp hn hl
  exact K β' hle (hΦ F w hF β' h1 h2) junk w hS'
theorem Tri.rebase {Φ : Bs → Prop} (i : Nat) (idx : List Nat) (hp : hps[i]? = some p) (hn : nodupB (i :: idx) = true) (hl : pickL hps idx = some hps') (hΦ : ∀ F w, p.h F w → ∀ β' : Bs, (∀ k, F k → β'.O k) → β'.w0 = w → Φ β')
    (K : ∀ β' : Bs, β.le β' → Φ β' → Tri P β' N c fr hps' Q) : Tri P β N c fr hps Q := fun junk w hS => by
  obtain ⟨F, hF, β', hle, h1, h2, hS'⟩ := hS.rebase hp hn hl
  exact K β' hle (hΦ F w hF β' h1 h2) junk w hS'
/-- cells of a slice, in the base -/
def RowB (β : Bs) (A : Option Addr) (xs : List Value) : Prop := ∀ (j : Nat) (v : Value), xs[j]? = some v → A = some ⟨blkOf A, offOf A, none⟩ ∧ Rd β ⟨blkOf A, offOf A + j, none⟩ v
theorem RowB.le {A : Option Addr} {xs : List Value} (h : RowB β A xs) (hle : β.le β') : RowB β' A xs := fun j v hj => ⟨(h j v hj).1, (h j v hj).2.le hle⟩
theorem RowB.of_row {e : TypeId} {size n cap : Nat} {A : Option Addr} {xs : List Value} {F : Fp} {w : World} (h : (HP.abs (RowA e size A n cap xs)).h F w) (h1 : ∀ k, F k → β'.O k) (h2 : β'.w0 = w) : RowB β' A xs := by
  intro j v hj
  have hlt := len_of_some hj
  have hl := RowA.len h
  have hn : 0 < n := by
    rcases Nat.eq_zero_or_pos n with e | e
    · rw [hl.1, e] at hlt; simp at hlt
    · exact e
  obtain ⟨g, rfl⟩ := RowA.head h hn
  refine ⟨rfl, h1 g ((h.2 g).2 rfl), ?_⟩
  rw [h2]
  have := RowA.cell hj F w h
  simpa [blkOf, offOf] using this
theorem RowA.headB {e : TypeId} {size : Nat} {A : Option Addr} {n cap : Nat} {xs : List Value} {F : Fp} {w : World} (h : (HP.abs (RowA e size A n cap xs)).h F w) (hn : 0 < n) : A = some ⟨blkOf A, offOf A, none⟩ ∧ offOf A = 0 := by
  obtain ⟨g, rfl⟩ := RowA.head h hn
  exact ⟨rfl, rfl⟩
theorem step_rowSet {e : TypeId} {size n cap j g : Nat} {xs : List Value} {u : Value} {w : World} (_ : j < xs.length) : ∀ F, (HP.abs (RowA e size (some ⟨g, 0, none⟩) n cap xs)).h F w →
    ∃ F', (HP.abs (RowA e size (some ⟨g, 0, none⟩) n cap (xs.set j u))).h F' (w.setCell ⟨g, j, none⟩ u) ∧ Step F w F' (w.setCell ⟨g, j, none⟩ u) := by
  rintro F ⟨⟨h1, h2⟩, hF⟩
  rcases h2 with ⟨e, _⟩ | ⟨g', cp, cur, e, _, hb, hle, hm, hs, ht⟩
  · cases e
  · cases e
    refine ⟨F, ⟨⟨by simpa using h1, .inr ⟨g, cap, cur.setIfInBounds j u, rfl, Nat.zero_le _, ?_, hle, hm, by simpa using hs, ?_⟩⟩, hF⟩, ⟨(Keeps.refl _ _).setCell (.inr ((hF g).2 rfl)) u, fun _ h => .inl h⟩⟩
    · simp [World.setCell, Array.getElem?_modify, hb]
    · rw [Array.toList_setIfInBounds, List.take_set, ht]
theorem TriL.rowSet (i j : Nat) {T e : TypeId} {size n cap g : Nat} {xs : List Value} {u : Value} {a y : Operand} (hop : ∀ junk, opAt N junk ops fr k = some (.store T a y, d)) (hp : hps[i]? = some (.abs (RowA e size (some ⟨g, 0, none⟩) n cap xs)))
    (ha : ∀ junk, evF N fr junk a = .pointer (some ⟨g, j, none⟩)) (hy : ∀ junk, evF N fr junk y = u) (hT : (P.info? T).map (·.size) = some 1) (hu : u.oneCell' = true) (hj : j < xs.length)
    (K' : TriL P β N ops (k + 1) (putF fr d undef) (hps.set i (.abs (RowA e size (some ⟨g, 0, none⟩) n cap (xs.set j u)))) Q) : TriL P β N ops k fr hps Q := by
  refine TriL.run1 hop (fun o junk w ho hS => ?_) K'
  obtain ⟨F, hF⟩ := hS.get hp
  refine ⟨w.setCell ⟨g, j, none⟩ u, .inr ⟨rfl, ?_⟩, hS.set hp (step_rowSet hj)⟩
  obtain ⟨x, hx⟩ := some_of_len hj
  have hc := RowA.cell hx F w hF
  have hf : w.frozen? ⟨g, j, none⟩ = false := by
    obtain ⟨⟨_, h2⟩, _⟩ := hF
    rcases h2 with ⟨e, _⟩ | ⟨g', cp, cur, e, _, hb, _⟩
    · cases e
    · cases e; simp [World.frozen?, hb]
  obtain ⟨inf, hi, hsz⟩ : ∃ inf, P.info? T = some inf ∧ inf.size = 1 := by
    cases h : P.info? T with
    | none => rw [h] at hT; cases hT
    | some inf => rw [h] at hT; exact ⟨inf, rfl, by simpa using hT⟩
  have h3 := runsize hi w
  rw [hsz] at h3
  obtain ⟨dst, op, type, pos, after, guard⟩ := o
  cases ho
  cases u <;> first
    | (simp [Value.oneCell'] at hu; done)
    | (simp only [execOp, ha junk, hy junk]; simp [go_sem, Instr.storeAt, Instr.sureAddr, storeVar, h3, Value.cells, storeCells, store, Addr.add, Sem.run, hc, hf])
end rules
end Go.Proofs.Ytejnhhpjlajngaa
end
/- part Ve. PROVED HERE: contracts of calls that leave memory which is only read from then on; loops over such a growing base. CONDITIONS: none. No statement of the seat is proved here. -/
section
namespace Go.Proofs.Ytejnhhpjlajngaa
open Go.RowKit
theorem Bs.ok.refl_le {β : Bs} {w : World} (h : β.ok w) : β.le β := ⟨fun _ h => h, rfl, rfl, rfl, Nat.le_refl _, fun k hk => ⟨(h.old k hk).1, rfl⟩⟩
/-- what a call asks of memory and leaves; what it lays to the base -/
def SpecB (P : Program) (β : Bs) (f : FuncId) (args : Array Value) (pre : List HP) (post : Bs → Value → List HP → Prop) : Prop :=
  ∀ (R : Asn) w, Sat β (pre ++ [.abs R]) w → Calls P f args w fun e w' => ∃ β' v l, β.le β' ∧ e = .returned v ∧ post β' v l ∧ Sat β' (l ++ [.abs R]) w'
def RetQB (β : Bs) (R : Asn) (post : Bs → Value → List HP → Prop) : Ending → World → Prop := fun e w' => ∃ β' v l, β.le β' ∧ e = .returned v ∧ post β' v l ∧ Sat β' (l ++ [.abs R]) w'
section specB
variable {P : Program} {β β' : Bs} {N : Nat} {ops : Array Oper} {k : Nat} {fr : Fr} {hps R l : List HP} {Q : Post} {f : FuncId} {args : Array Value} {d : Option Tmp} {pre : List HP} {post : Bs → Value → List HP → Prop} {pk idx : List Nat} {c : Code} {fn : Func} {v : Value} {obl : List Prop} {w : World}
theorem SpecB.use (h : SpecB P β f args pre post) (hS : Sat β (pre ++ R) w) : Calls P f args w fun e w' => ∃ β' v l, β.le β' ∧ e = .returned v ∧ post β' v l ∧ Sat β' (l ++ R) w' :=
  (h _ w hS.bund).mono fun _ _ ⟨β', v, l, h0, h1, h2, h3⟩ => ⟨β', v, l, h0, h1, h2, h3.unbund⟩
theorem Spec.toB {post : Value → List HP → Prop} (h : Spec P β f args pre post) : SpecB P β f args pre (fun β' v l => β' = β ∧ post v l) :=
  fun R w hS => (h R w hS).mono fun _ _ ⟨v, l, h1, h2, h3⟩ => ⟨β, v, l, hS.1.refl_le, h1, ⟨rfl, h2⟩, h3⟩
theorem SpecB.mono {post' : Bs → Value → List HP → Prop} (h : SpecB P β f args pre post) (hp : ∀ β' v l, β.le β' → post β' v l → post' β' v l) : SpecB P β f args pre post' :=
  fun R w hS => (h R w hS).mono fun _ _ ⟨β', v, l, h0, h1, h2, h3⟩ => ⟨β', v, l, h0, h1, hp β' v l h0 h2, h3⟩
theorem TriL.callB (hc : ∀ junk, callOf P β N junk ops fr k = some (f, args, d)) (hs : SpecB P β f args pre post) (hn : nodupB pk = true) (hp : pickL hps pk = some (pre ++ R))
    (K : ∀ β' v l, β.le β' → post β' v l → TriL P β' N ops (k + 1) (putF fr d v) (l ++ R) Q) : TriL P β N ops k fr hps Q := by
  intro junk w hS
  obtain ⟨o, h1, h2, rfl, h3⟩ := callOf_spec (hc junk)
  rw [drop_cons h1]
  unfold wpList
  rw [wanted_mkA, if_pos h2]
  refine .inl ?_
  unfold Oper.wp
  rw [mkA_eval, h3 w hS.nil, Oper.upon_enter]
  refine (hs.use (hS.pick hn hp)).mono ?_
  rintro e w' ⟨β', v, l, hle, rfl, hpost, hS'⟩
  show wpList _ _ _ _ ((mkA N fr junk).put o.dst v) w'
  rw [mkA_put]
  exact K β' v l hle hpost junk w' hS'
theorem SpecB.enter (hf : P.funcs[f]? = some fn) (hb : fn.body = some c) (hN : fn.ntmps = N) (hl : args.toList.length ≤ N) (h : β.le β → ∀ R : Asn, Tri P β N c (zipF 0 args.toList) (pre ++ [.abs R]) (bodyPost P fn (RetQB β R post))) : SpecB P β f args pre post := by
  intro R w hS
  refine calls_of_wp hf hb ?_
  rw [hN, enter_mkA hl]
  exact h hS.1.refl_le R _ w hS
theorem TriQ.retB {R : Asn} (hints : List Hint) (pk : List Nat) (hle : β.le β') (hr : ∀ junk, retOf P β' N junk fn fr hps hints = some (v, obl)) (ho : AllP obl) (hn : nodupB pk = true) (hp : pickL hps pk = some (l ++ [.abs R])) (hpost : post β' v l) :
    TriQ β' N (bodyPost P fn (RetQB β R post)) .ret fr hps :=
  fun junk _ hS => ⟨rfl, v, retOf_spec (hr junk) ho hS, β', v, l, hle, rfl, hpost, hS.pick hn hp⟩
theorem TriQ.finB {R : Asn} (hints : List Hint) (pk : List Nat) (hle : β.le β') (hr : ∀ junk, retOf P β' N junk fn fr hps hints = some (v, obl)) (ho : AllP obl) (hn : nodupB pk = true) (hp : pickL hps pk = some (l ++ [.abs R])) (hpost : post β' v l) :
    TriQ β' N (bodyPost P fn (RetQB β R post)) .normal fr hps :=
  fun junk _ hS => ⟨rfl, v, retOf_spec (hr junk) ho hS, β', v, l, hle, rfl, hpost, hS.pick hn hp⟩
/-- a law's last step, where the base has grown -/
theorem TriQ.retU {R : Asn} {post : Value → List HP → Prop} (hints : List Hint) (pk : List Nat) (hle : β.le β') (hr : ∀ junk, retOf P β' N junk fn fr hps hints = some (v, obl)) (ho : AllP obl) (hn : nodupB pk = true) (hp : pickL hps pk = some (l ++ [.abs R])) (hpost : post v l) :
    TriQ β' N (bodyPost P fn (RetQ β R post)) .ret fr hps :=
  fun junk _ hS => ⟨rfl, v, retOf_spec (hr junk) ho hS, v, l, rfl, hpost, (hS.pick hn hp).debase hle⟩
theorem TriQ.finU {R : Asn} {post : Value → List HP → Prop} (hints : List Hint) (pk : List Nat) (hle : β.le β') (hr : ∀ junk, retOf P β' N junk fn fr hps hints = some (v, obl)) (ho : AllP obl) (hn : nodupB pk = true) (hp : pickL hps pk = some (l ++ [.abs R])) (hpost : post v l) :
    TriQ β' N (bodyPost P fn (RetQ β R post)) .normal fr hps :=
  fun junk _ hS => ⟨rfl, v, retOf_spec (hr junk) ho hS, v, l, rfl, hpost, (hS.pick hn hp).debase hle⟩
/-- a loop over a base that grows -/
def TurnB (N : Nat) {ι : Type} (bs : ι → Bs) (Inv : ι → Prop) (μ : ι → Nat) (fr : ι → Fr) (hp : ι → List HP) (m : Nat) : Act → World → Prop := fun a w => ∃ i, Inv i ∧ μ i < m ∧ ∃ junk, a = mkA N (fr i) junk ∧ Sat (bs i) (hp i) w
theorem Tri.loopB {ι : Type} (bs : ι → Bs) (Inv : ι → Prop) (μ : ι → Nat) (fr' : ι → Fr) (hp' : ι → List HP) (i0 : ι) (hb : bs i0 = β) (h0 : Inv i0) (hf : ∀ junk, pickF fr junk idx = fr' i0) (hn : nodupB pk = true) (hp : pickL hps pk = some (hp' i0))
    (round : ∀ i, Inv i → Tri P (bs i) N c (fr' i) (hp' i) (Exit.then (TurnB N bs Inv μ fr' hp' (μ i)) Q)) : Tri P β N (.loop c) fr hps Q := by
  intro junk w hS
  subst hb
  refine wp_loop_ghost (fun n a w => ∃ i, Inv i ∧ μ i = n ∧ ∃ junk, a = mkA N (fr' i) junk ∧ Sat (bs i) (hp' i) w) (μ i0) ⟨i0, h0, rfl, lk fr junk, by rw [mkA_pick N fr junk idx, hf junk], hS.pick hn hp⟩ ?_
  rintro n a w ⟨i, hi, rfl, junk, rfl, hS⟩
  refine Code.wp_mono (fun e a w q => ?_) (round i hi junk w hS)
  cases e with
  | normal =>
    obtain ⟨i', hi', hlt, junk', e, hS'⟩ := q
    exact ⟨μ i', hlt, i', hi', rfl, junk', e, hS'⟩
  | exit id => exact q
  | goto l => exact q
  | ret => exact q
  | panic ch => exact q
  | outgrown => exact q
theorem TriQ.turnB {ι : Type} {bs : ι → Bs} {Inv : ι → Prop} {μ : ι → Nat} {fr' : ι → Fr} {hp' : ι → List HP} {m : Nat} (i : ι) (hb : bs i = β) (hi : Inv i) (hm : μ i < m) (hf : ∀ junk, pickF fr junk idx = fr' i) (hn : nodupB pk = true) (hp : pickL hps pk = some (hp' i)) :
    TriQ β N (Exit.then (TurnB N bs Inv μ fr' hp' m) Q) .normal fr hps := fun junk _ hS => ⟨i, hi, hm, lk fr junk, by rw [mkA_pick N fr junk idx, hf junk], hb ▸ hS.pick hn hp⟩
end specB
end Go.Proofs.Ytejnhhpjlajngaa
end
/- part Vt. PROVED HERE: a region that draws its order and ends in operations that stand in one order alone; a contract of the shelf as a contract of the logic. CONDITIONS: none. No statement of the seat is proved here. -/
section
namespace Go.Proofs.Ytejnhhpjlajngaa
open Go.RowKit
section still
variable {P : Program} {β : Bs} {N : Nat} {junk : Nat → Value} {ops : Array Oper} {n : Nat} {w : World}
theorem oruns_ge {hs : List OH} : ∀ {k k' : Nat} {fr fr' : Fr} {S S' : SS}, oruns P β n true N junk ops hs k fr S = some (k', fr', S') → k ≤ k' := by
  induction hs with
  | nil => intro k k' fr fr' S S' h; cases h; exact Nat.le_refl _
  | cons h hs ih =>
    intro k k' fr fr' S S' hr
    unfold oruns at hr
    split at hr
    · cases hr
    split at hr
    · split at hr
      · exact Nat.le_of_succ_le (ih hr)
      · cases hr
    · exact Nat.le_of_succ_le (ih hr)
theorem drop_take_cons {o : Oper} {k k' : Nat} (h : ops.toList[k]? = some o) (hk : k < k') : (ops.toList.take k').drop k = o :: (ops.toList.take k').drop (k + 1) := by
  have h1 : (ops.toList.take k')[k]? = some o := by
    rw [List.getElem?_take, if_pos hk]; exact h
  have h2 := len_of_some h1
  rw [List.drop_eq_getElem_cons h2]
  congr 1
  rw [List.getElem?_eq_getElem h2] at h1
  exact Option.some.inj h1
theorem oruns_still {Q : Act → Prop} : ∀ {hs : List OH} {k k' : Nat} {fr fr' : Fr} {S S' : SS}, oruns P β n true N junk ops hs k fr S = some (k', fr', S') → (∀ p, p ∈ S'.obl → p) → S.used = true → Sat β S.hps w →
    Q (mkA N fr' junk) → wpStill P ops w Q ((ops.toList.take k').drop k) (mkA N fr junk)
  | [], k, k', fr, fr', S, S', h, ho, hu, hS, hK => by cases h; rw [List.drop_of_length_le (by simp; omega)]; exact hK
  | h :: hs, k, k', fr, fr', S, S', hr, ho, hu, hS, hK => by
    unfold oruns at hr
    split at hr
    · cases hr
    rename_i o hget
    have hk : k < k' := by
      split at hr
      · split at hr
        · exact oruns_ge hr
        · cases hr
      · exact oruns_ge hr
    rw [drop_take_cons hget hk]
    unfold wpStill
    have hw : Region.wanted o (yielded ops (mkA N fr junk).tmps) = Region.wanted o (yF ops N fr junk) := by
      have : yielded ops (mkA N fr junk).tmps = yF ops N fr junk := funext (yF_eq ops N fr junk)
      rw [this]
    rw [hw]
    split at hr
    · rename_i hwt
      rw [if_pos hwt]
      split at hr
      · rename_i v S1 h0
        obtain ⟨e1, e2⟩ := orun_ro h0
        obtain ⟨w', h1, h2, h3, h4⟩ := orun_sound h0 (fun p hp => ho p (oruns_obl hr p hp)) hS (fun e => by rw [hu] at e; cases e)
        obtain ⟨ew, e⟩ := h4 rfl
        rw [ew] at h1 h2
        unfold Oper.still
        rw [mkA_eval]
        rcases h1 with h1 | ⟨h1, h1'⟩
        · rw [h1, Oper.stillUpon_value, mkA_put]
          exact oruns_still hr ho (e2.trans hu) h2 hK
        · subst h1
          rw [h1', Oper.stillUpon_skip, mkA_put]
          exact oruns_still hr ho (e2.trans hu) h2 hK
      · cases hr
    · rename_i hwf
      rw [if_neg (by simp [hwf])]
      rw [mkA_put]
      exact oruns_still hr ho hu hS hK
end still
theorem Tri.regionTail {P : Program} {β : Bs} {N : Nat} {ops : Array Oper} {fr fr' : Fr} {hps : List HP} {Q : Post} {obl : List Prop} {id : Nat} (n : Nat) (hm : P.follows .mixedOrders = true) (hB : Region.lexTailB .any ops n = true)
    (hs : List OH) (idx : List Nat) (h : ∀ m junk, segrun P β m true N junk ops hs 0 fr hps idx (List.range hps.length) = some (n, fr', hps, obl)) (ho : AllP obl) (K : TriL P β N ops n fr' hps Q) : Tri P β N (.region id ops true) fr hps Q := by
  intro junk w hS
  obtain ⟨ops⟩ := ops
  obtain ⟨fr1, S, h1, h2, h3, h4, h5⟩ := seg_spec (h 0 junk)
  refine wp_region_still_tail n hm hB ?_
  have hk := K (lk fr1 junk) (w.drewN 1) (hS.drewN 1)
  rw [h4, ← mkA_pick] at hk
  have := oruns_still (w := w.drewN 1) (Q := fun a' => wpList P ⟨ops⟩ Q (ops.drop n) a' (w.drewN 1)) h1 (fun p hp => ho.mem (h5 ▸ hp)) rfl (hS.drewN 1) hk
  exact this
theorem Spec.quiet {P : Program} {β : Bs} {f : FuncId} {args : Array Value} {v : Value} (h : ∀ w, Calls P f args w fun e w' => e = .returned v ∧ w' = w) : Spec P β f args [] (fun v' l => v' = v ∧ l = []) :=
  fun _ w hS => (h w).mono fun _ _ ⟨h1, h2⟩ => ⟨v, [], h1, ⟨rfl, rfl⟩, h2 ▸ hS⟩
/-! ### a drawn region's head, operation by operation -/
def TriLS (P : Program) (β : Bs) (N : Nat) (ops : Array Oper) (n k : Nat) (fr : Fr) (hps : List HP) (Q : Post) : Prop :=
  ∀ junk w, Sat β hps w → wpStill P ops w (fun a' => wpList P ops Q (ops.toList.drop n) a' w) ((ops.toList.take n).drop k) (mkA N fr junk)
section heads
variable {P : Program} {β : Bs} {N : Nat} {ops : Array Oper} {n k k' : Nat} {fr fr' : Fr} {hps : List HP} {Q : Post} {obl : List Prop} {d : Option Tmp} {op : Op} {v : Value} {i : Nat}
theorem oruns_still' {junk : Nat → Value} {w : World} {m : Nat} {Q : Act → Prop} : ∀ {hs : List OH} {k k' : Nat} {fr fr' : Fr} {S S' : SS}, oruns P β m true N junk ops hs k fr S = some (k', fr', S') → (∀ p, p ∈ S'.obl → p) → S.used = true → Sat β S.hps w → k' ≤ n →
    wpStill P ops w Q ((ops.toList.take n).drop k') (mkA N fr' junk) → wpStill P ops w Q ((ops.toList.take n).drop k) (mkA N fr junk)
  | [], k, k', fr, fr', S, S', h, ho, hu, hS, hn, hK => by cases h; exact hK
  | h :: hs, k, k', fr, fr', S, S', hr, ho, hu, hS, hn, hK => by
    unfold oruns at hr
    split at hr
    · cases hr
    rename_i o hget
    have hk : k < n := by
      refine Nat.lt_of_lt_of_le ?_ hn
      split at hr
      · split at hr
        · exact oruns_ge hr
        · cases hr
      · exact oruns_ge hr
    rw [drop_take_cons hget hk]
    unfold wpStill
    have hw : Region.wanted o (yielded ops (mkA N fr junk).tmps) = Region.wanted o (yF ops N fr junk) := by
      have : yielded ops (mkA N fr junk).tmps = yF ops N fr junk := funext (yF_eq ops N fr junk)
      rw [this]
    rw [hw]
    split at hr
    · rename_i hwt
      rw [if_pos hwt]
      split at hr
      · rename_i v S1 h0
        obtain ⟨e1, e2⟩ := orun_ro h0
        obtain ⟨w', h1, h2, h3, h4⟩ := orun_sound h0 (fun p hp => ho p (oruns_obl hr p hp)) hS (fun e => by rw [hu] at e; cases e)
        obtain ⟨ew, e⟩ := h4 rfl
        rw [ew] at h1 h2
        unfold Oper.still
        rw [mkA_eval]
        rcases h1 with h1 | ⟨h1, h1'⟩
        · rw [h1, Oper.stillUpon_value, mkA_put]
          exact oruns_still' hr ho (e2.trans hu) h2 hn hK
        · subst h1
          rw [h1', Oper.stillUpon_skip, mkA_put]
          exact oruns_still' hr ho (e2.trans hu) h2 hn hK
      · cases hr
    · rename_i hwf
      rw [if_neg (by simp [hwf])]
      rw [mkA_put]
      exact oruns_still' hr ho hu hS hn hK
theorem Tri.regionStill {id : Nat} (n : Nat) (hm : P.follows .mixedOrders = true) (hB : Region.lexTailB .any ops n = true) (h : TriLS P β N ops n 0 fr hps Q) : Tri P β N (.region id ops true) fr hps Q := by
  intro junk w hS
  obtain ⟨ops⟩ := ops
  refine wp_region_still_tail n hm hB ?_
  exact h junk (w.drewN 1) (hS.drewN 1)
theorem TriLS.seg (hs : List OH) (idx : List Nat) (h : ∀ m junk, segrun P β m true N junk ops hs k fr hps idx (List.range hps.length) = some (k', fr', hps, obl)) (ho : AllP obl) (hk : k' ≤ n) (K : TriLS P β N ops n k' fr' hps Q) : TriLS P β N ops n k fr hps Q := by
  intro junk w hS
  obtain ⟨fr1, S, h1, h2, h3, h4, h5⟩ := seg_spec (h 0 junk)
  have hK := K (lk fr1 junk) w hS
  rw [h4, ← mkA_pick] at hK
  exact oruns_still' h1 (fun p hp => ho.mem (h5 ▸ hp)) rfl hS hk hK
theorem TriLS.done (hk : k = n) (K : TriL P β N ops n fr hps Q) : TriLS P β N ops n k fr hps Q := by
  intro junk w hS
  subst hk
  have e : (ops.toList.take k).drop k = [] := List.drop_of_length_le (by rw [List.length_take]; exact Nat.min_le_left _ _)
  rw [e]
  exact K junk w hS
theorem TriLS.run1 (hop : ∀ junk, opAt N junk ops fr k = some (op, d)) (hk : k < n) (h : ∀ (o : Oper) junk w, o.op = op → Sat β hps w → Ran P (evF N fr junk) o w v w) (K : TriLS P β N ops n (k + 1) (putF fr d v) hps Q) : TriLS P β N ops n k fr hps Q := by
  intro junk w hS
  obtain ⟨o, h1, h2, h3, rfl⟩ := opAt_spec (hop junk)
  rw [drop_take_cons h1 hk]
  unfold wpStill
  rw [wanted_mkA, if_pos h2]
  unfold Oper.still
  rw [mkA_eval]
  have hK := K junk w hS
  rw [← mkA_put] at hK
  rcases h o junk w h3 hS with h4 | ⟨h4, h4'⟩
  · rw [h4, Oper.stillUpon_value]; exact hK
  · subst h4
    rw [h4', Oper.stillUpon_skip]; exact hK
theorem TriLS.slot (i : Nat) (v v' : Value) (h : ∀ junk, lk fr junk i = v) (hv : v = v') (K : TriLS P β N ops n k ((i, v') :: fr) hps Q) : TriLS P β N ops n k fr hps Q := fun junk w hS => by
  have := K junk w hS
  rwa [mkA_same ((h junk).trans hv)] at this
theorem TriLS.slotB (i : Nat) (b : Bool) (h : ∀ junk, lk fr junk i = .bool b) (ht : b = true → TriLS P β N ops n k ((i, .bool true) :: fr) hps Q) (hf : b = false → TriLS P β N ops n k ((i, .bool false) :: fr) hps Q) : TriLS P β N ops n k fr hps Q := by
  cases b with
  | true => exact TriLS.slot i _ _ h rfl (ht rfl)
  | false => exact TriLS.slot i _ _ h rfl (hf rfl)
theorem TriLS.slotP (i : Nat) (p : Prop) [Decidable p] (h : ∀ junk, lk fr junk i = .bool (decide p)) (ht : p → TriLS P β N ops n k ((i, .bool true) :: fr) hps Q) (hf : ¬ p → TriLS P β N ops n k ((i, .bool false) :: fr) hps Q) : TriLS P β N ops n k fr hps Q :=
  TriLS.slotB i _ h (fun e => ht (of_decide_eq_true e)) (fun e => hf (of_decide_eq_false e))
theorem TriLS.slotN (i : Nat) (p : Prop) [Decidable p] (h : ∀ junk, lk fr junk i = .bool (!decide p)) (ht : ¬ p → TriLS P β N ops n k ((i, .bool true) :: fr) hps Q) (hf : p → TriLS P β N ops n k ((i, .bool false) :: fr) hps Q) : TriLS P β N ops n k fr hps Q :=
  TriLS.slotB i _ h (fun e => ht (not_dec_true e)) (fun e => hf (not_dec_false e))
section maps
open Go.Maps
variable {t K E : TypeId} {b cnt : Nat} {f : Lit → Option Value} {x ix : Operand} {key z : Value} {kl : Lit} {r : Option Value}
theorem TriLS.mapLookOk (i : Nat) (hop : ∀ junk, opAt N junk ops fr k = some (.lookup t x ix true, d)) (hp : hps[i]? = some (.abs (MapA P K b f cnt))) (hx : ∀ junk, evF N fr junk x = .map (some b)) (hix : ∀ junk, evF N fr junk ix = key) (L : Keyed P K)
    (ht : P.underlying t = some (.map K E)) (hz : ∀ w, (zeroValue E).run P w = .ok z w) (hkey : keyOf P K key = some kl) (hr : f kl = r) (hk : k < n) (K' : TriLS P β N ops n (k + 1) (putF fr d (.tuple #[r.getD z, .bool r.isSome])) hps Q) : TriLS P β N ops n k fr hps Q := by
  subst hr
  exact TriLS.run1 hop hk (fun o junk w ho hS => ran_lookOk ho (MapA.get hS hp) (hx junk) (hix junk) L ht (hz w) hkey) K'
theorem TriLS.mapLook (i : Nat) (hop : ∀ junk, opAt N junk ops fr k = some (.lookup t x ix false, d)) (hp : hps[i]? = some (.abs (MapA P K b f cnt))) (hx : ∀ junk, evF N fr junk x = .map (some b)) (hix : ∀ junk, evF N fr junk ix = key) (L : Keyed P K)
    (ht : P.underlying t = some (.map K E)) (hz : ∀ w, (zeroValue E).run P w = .ok z w) (hkey : keyOf P K key = some kl) (hr : f kl = r) (hk : k < n) (K' : TriLS P β N ops n (k + 1) (putF fr d (r.getD z)) hps Q) : TriLS P β N ops n k fr hps Q := by
  subst hr
  exact TriLS.run1 hop hk (fun o junk w ho hS => ran_look ho (MapA.get hS hp) (hx junk) (hix junk) L ht (hz w) hkey) K'
theorem TriLS.mapLen (i : Nat) {ats : Array TypeId} (hop : ∀ junk, opAt N junk ops fr k = some (.call ⟨.builtin .len, #[x], ats⟩, d)) (hp : hps[i]? = some (.abs (MapA P K b f cnt))) (hx : ∀ junk, evF N fr junk x = .map (some b)) (hats : ats = #[t]) (ht : P.underlying t = some (.map K E))
    (hk : k < n) (K' : TriLS P β N ops n (k + 1) (putF fr d (.int .i64 ((cnt : Nat) : Int))) hps Q) : TriLS P β N ops n k fr hps Q :=
  TriLS.run1 hop hk (fun _ junk _ ho hS => ran_len ho hats (MapA.get hS hp) (hx junk) ht) K'
end maps
end heads
end Go.Proofs.Ytejnhhpjlajngaa
end
/- part Vi. PROVED HERE: the rules of the logic for 'range' over a text and over a map. CONDITIONS: none. No statement of the seat is proved here. -/
section
namespace Go.Proofs.Ytejnhhpjlajngaa
open Go.RowKit Go.Maps
open Go.ChangeMaps (setBlock)
theorem keeps_setBlock (w : World) (r : Nat) (o : Obj) : Keeps (· = r) w (setBlock w r o) :=
  ⟨rfl, rfl, rfl, by simp [setBlock], fun k _ hk => by
    show (w.heap.setIfInBounds r o)[k]? = _
    rw [Array.getElem?_setIfInBounds_ne (fun e => hk e.symm)]⟩
theorem setBlock_get {w : World} {r : Nat} {o o' : Obj} (h : w.heap[r]? = some o') : (setBlock w r o).heap[r]? = some o := by
  have := lt_of_some h
  show (w.heap.setIfInBounds r o)[r]? = _
  rw [Array.getElem?_setIfInBounds_self_of_lt this]
/-- block r is an iterator over the text s that stands at pos -/
def IterS (r : Nat) (s : ByteArray) (pos : Nat) : Asn where
  h F w := w.heap[r]? = some (.stringIter s pos) ∧ ∀ k, F k ↔ k = r
  lt := by rintro F w ⟨h, hF⟩ k hk; rw [(hF k).1 hk]; exact lt_of_some h
  st := by rintro F w ⟨h, hF⟩ S w' hk hn; exact ⟨(hk.block r (lt_of_some h) (hn r ((hF r).2 rfl))).trans h, hF⟩
/-- what an iterator over a map hands out again -/
def EntryAt (P : Program) (b r : Nat) (t : Value) (w : World) : Prop :=
  ∃ w0 : World, w0.heap[b]? = w.heap[b]? ∧ w0.heap[r]? = w.heap[r]? ∧ (Instr.entry (.pointer (some ⟨r, 0, none⟩))).run P w0 = .ok t w0
theorem EntryAt.run {P : Program} {b r : Nat} {t : Value} {w : World} {es : Array MapEntry} {clock since c0 : Nat} {seen : Array Nat} (h : EntryAt P b r t w) (hb : w.heap[b]? = some (.map es clock)) (hr : w.heap[r]? = some (.mapIter (some b) since seen c0)) :
    (Instr.entry (.pointer (some ⟨r, 0, none⟩))).run P w = .ok t w := by
  obtain ⟨w0, h1, h2, h3⟩ := h
  rw [hb] at h1
  rw [hr] at h2
  simp only [Instr.entry, getObj, Sem.run_bind, Sem.run, h2, hr, Result.andThen] at h3 ⊢
  cases hs : seen.back? with
  | none => simp [hs, stuck] at h3
  | some st =>
    simp only [hs, Sem.run_bind, Sem.run, h1, hb, Result.andThen] at h3 ⊢
    by_cases hc : (clock != c0) = true
    · simp [hc, unsupported, Sem.run, Result.andThen] at h3
    · simp only [hc, Bool.false_eq_true, if_false] at h3 ⊢
      cases hf : es.find? (fun e => e.born == st) with
      | none => simp [hf, unsupported] at h3
      | some e =>
        simp [hf] at h3 ⊢
        exact h3
structure RangeIs (P : Program) (K : TypeId) (w : World) (b r : Nat) (f : Lit → Option Value) (n : Nat) (left : Lit → Bool) (cnt : Nat) (last : Option Value) (D : DataW Value) : Prop where
  rg : w.ranges P K heldR b r n D left cnt
  sz : Maps.size D = n
  has : ∀ kl, Maps.has D kl = (f kl).isSome
  at_ : ∀ kl v, f kl = some v → ∀ z, D.atKey kl z = .held v
  sub : ∀ kl, left kl = true → (f kl).isSome = true
  last : ∀ t, last = some t → EntryAt P b r t w
/-- block r is an iterator over the map in block b: 'left' are to come -/
def RangeA (P : Program) (K : TypeId) (b r : Nat) (f : Lit → Option Value) (n : Nat) (left : Lit → Bool) (cnt : Nat) (last : Option Value) : Asn where
  h F w := (∃ D, RangeIs P K w b r f n left cnt last D) ∧ ∀ k, F k ↔ (k = b ∨ k = r)
  lt := by
    rintro F w ⟨⟨D, h⟩, hF⟩ k hk
    rcases (hF k).1 hk with rfl | rfl
    · exact h.rg.owns.lt
    · exact h.rg.lt
  st := by
    rintro F w ⟨⟨D, h⟩, hF⟩ S w' hk hn
    have hb := hk.block b h.rg.owns.lt (hn b ((hF b).2 (.inl rfl)))
    have hr := hk.block r h.rg.lt (hn r ((hF r).2 (.inr rfl)))
    refine ⟨⟨D, ?_, h.sz, h.has, h.at_, h.sub, fun t ht => ?_⟩, hF⟩
    · obtain ⟨es, clock, since, seen, c0, e1, e2, e3, e4, e5, e6⟩ := h.rg
      exact ⟨es, clock, since, seen, c0, hb.trans e1, e2, e3, e4, hr.trans e5, e6⟩
    · obtain ⟨w0, h1, h2, h3⟩ := h.last t ht
      exact ⟨w0, h1.trans hb.symm, h2.trans hr.symm, h3⟩
section rules
variable {P : Program} {β : Bs} {N : Nat} {ops : Array Oper} {k : Nat} {fr fr' : Fr} {hps hps' : List HP} {Q : Post} {d : Option Tmp} {op : Op} {v : Value} {t K E : TypeId} {x : Operand} {s : ByteArray} {b r pos i n cnt : Nat} {f : Lit → Option Value} {left : Lit → Bool} {last : Option Value}
theorem TriL.strRange (hop : ∀ junk, opAt N junk ops fr k = some (.range t x, d)) (hx : ∀ junk, evF N fr junk x = .string s) (ht : P.underlying t = some .string) (K' : ∀ r, TriL P β N ops (k + 1) (putF fr d (.pointer (some ⟨r, 0, none⟩))) (hps ++ [.abs (IterS r s 0)]) Q) : TriL P β N ops k fr hps Q := by
  refine TriL.runE (ι := Nat) (v := fun r => .pointer (some ⟨r, 0, none⟩)) (hp' := fun r => hps ++ [.abs (IterS r s 0)]) hop (fun o junk w ho hS => ⟨w.heap.size, w.iter s 0, .inl ?_, ?_⟩) K'
  · obtain ⟨dst, op, type, pos, after, guard⟩ := o
    cases ho
    simp only [execOp, hx]
    simp [go_sem, ht]
  · exact hS.new (F := fun k => k = w.heap.size) ⟨World.iter_heap w s 0, fun _ => Iff.rfl⟩ ((Keeps.refl _ _).alloc _) (fun k e => Nat.le_of_eq e.symm)
theorem TriL.strMore (i : Nat) (hop : ∀ junk, opAt N junk ops fr k = some (.next x true, d)) (hp : hps[i]? = some (.abs (IterS r s pos))) (hx : ∀ junk, evF N fr junk x = .pointer (some ⟨r, 0, none⟩)) (hlt : pos < s.size)
    (K' : TriL P β N ops (k + 1) (putF fr d (.tuple #[.bool true, .int .i64 pos, .int .i32 (Utf8.decode s pos).1])) (hps.set i (.abs (IterS r s (pos + (Utf8.decode s pos).2)))) Q) : TriL P β N ops k fr hps Q := by
  refine TriL.run1 hop (fun o junk w ho hS => ?_) K'
  obtain ⟨F, hF⟩ := hS.get hp
  refine ⟨setBlock w r (.stringIter s (pos + (Utf8.decode s pos).2)), .inl ?_, hS.set hp (fun F hF => ⟨F, ⟨setBlock_get hF.1, hF.2⟩, (keeps_setBlock w r _).mono (fun _ _ e => (hF.2 _).2 e), fun _ h => .inl h⟩)⟩
  have hr := hF.1
  obtain ⟨dst, op, type, pos', after, guard⟩ := o
  cases ho
  simp only [execOp, hx]
  simp [go_sem, Instr.next, getObj, setObj, Sem.run, hr, hlt, setBlock, goInt]
theorem TriL.strEnd (i : Nat) (hop : ∀ junk, opAt N junk ops fr k = some (.next x true, d)) (hp : hps[i]? = some (.abs (IterS r s pos))) (hx : ∀ junk, evF N fr junk x = .pointer (some ⟨r, 0, none⟩)) (hlt : ¬ pos < s.size)
    (K' : TriL P β N ops (k + 1) (putF fr d (.tuple #[.bool false])) hps Q) : TriL P β N ops k fr hps Q := by
  refine TriL.run1 hop (fun o junk w ho hS => ⟨w, .inl ?_, hS⟩) K'
  obtain ⟨F, hF⟩ := hS.get hp
  have hr := hF.1
  obtain ⟨dst, op, type, pos', after, guard⟩ := o
  cases ho
  simp only [execOp, hx]
  simp [go_sem, Instr.next, getObj, setObj, Sem.run, hr, hlt]
theorem TriL.mapRange (i : Nat) (hop : ∀ junk, opAt N junk ops fr k = some (.range t x, d)) (hp : hps[i]? = some (.abs (MapA P K b f n))) (hx : ∀ junk, evF N fr junk x = .map (some b)) (L : Keyed P K) (ht : P.underlying t = some (.map K E))
    (K' : ∀ r, TriL P β N ops (k + 1) (putF fr d (.pointer (some ⟨r, 0, none⟩))) (hps.set i (.abs (RangeA P K b r f n (fun kl => (f kl).isSome) n none))) Q) : TriL P β N ops k fr hps Q := by
  refine TriL.runE (ι := Nat) (v := fun r => .pointer (some ⟨r, 0, none⟩)) (hp' := fun r => hps.set i (.abs (RangeA P K b r f n (fun kl => (f kl).isSome) n none))) hop (fun o junk w ho hS => ?_) K'
  obtain ⟨D, h1, h2, h3, h4⟩ := MapA.get hS hp
  obtain ⟨w', hrun, r1, r2, r3⟩ := h1.range L ht
  refine ⟨w.heap.size, w', .inl ?_, hS.set hp (fun F hF => ⟨fun k => k = b ∨ k = w.heap.size, ⟨⟨D, ?_, h2, h3, h4, fun _ h => h, fun _ h => by cases h⟩, fun _ => Iff.rfl⟩, (Keeps.refl _ _).grown r2 (fun _ h => by cases h), fun k hk => ?_⟩)⟩
  · obtain ⟨dst, op, type, pos', after, guard⟩ := o
    cases ho
    simp only [execOp, hx]
    simp [hrun, Result.andThen]
  · rw [← h2]
    have e : Maps.has D = fun kl => (f kl).isSome := funext h3
    rw [e] at r1
    rw [h2] at r1 ⊢
    exact r1
  · rcases hk with rfl | rfl
    · exact .inl ((hF.2 _).2 rfl)
    · exact .inr (Nat.le_refl _)
theorem RangeA.map {w : World} {D : DataW Value} (h : RangeIs P K w b r f n left cnt last D) : MapIs P K w b f n := ⟨D, h.rg.owns, h.sz, h.has, h.at_⟩
theorem TriL.mapNext (i : Nat) (hop : ∀ junk, opAt N junk ops fr k = some (.next x false, d)) (hp : hps[i]? = some (.abs (RangeA P K b r f n left cnt last))) (hx : ∀ junk, evF N fr junk x = .pointer (some ⟨r, 0, none⟩)) (L : Keyed P K) (hK : P.underlying K = some (.int .i64))
    (Kdone : cnt = 0 → (∀ kl, left kl = false) → TriL P β N ops (k + 1) (putF fr d (.tuple #[.bool false])) hps Q)
    (Kmore : ∀ (z : Int) (u : Value) (cnt' : Nat), left (.int .i64 z) = true → f (.int .i64 z) = some u → (Lit.int .i64 z).wf = true → cnt' < cnt →
      TriL P β N ops (k + 1) (putF fr d (.tuple #[.bool true, .int .i64 z, u])) (hps.set i (.abs (RangeA P K b r f n (fun kl => left kl && !kl.sameKey (.int .i64 z)) cnt' (some (.tuple #[.int .i64 z, u]))))) Q) : TriL P β N ops k fr hps Q := by
  intro junk w hS
  obtain ⟨F, ⟨D, h⟩, hF⟩ := hS.get hp
  obtain ⟨o, h1, h2, h3, rfl⟩ := opAt_spec (hop junk)
  rcases h.rg.next L o.type with ⟨e0, el, hrun⟩ | ⟨key, u, kl, y, w', cnt', hkey, hlk, hv, hat, hrun, hrg, hlt, hgr, hsz, hen⟩
  · have hk := Kdone e0 el junk w hS
    rw [drop_cons h1]
    unfold wpList
    rw [wanted_mkA, if_pos h2]
    refine .inl (wp_of_ran (v := .tuple #[.bool false]) (w' := w) (.inl ?_) (by rw [mkA_put]; exact hk))
    rw [mkA_eval]
    obtain ⟨dst, op, type, pos', after, guard⟩ := o
    cases h3
    simp only [execOp, hx]
    simp at hrun
    simp [hrun, Result.andThen]
  · obtain ⟨z, rfl, rfl, hwf⟩ := Maps.keyOf_int_inv hK hkey
    have hsome := h.sub _ hlk
    obtain ⟨u', hu'⟩ := Option.isSome_iff_exists.1 hsome
    have e1 := h.at_ _ _ hu' (.held u')
    rw [hat] at e1
    have e2 : y.1 = .held u := by
      unfold heldR at hv
      cases hv
      rfl
    rw [e2] at e1
    cases e1
    have hk := Kmore z u cnt' hlk hu' hwf hlt junk w' (hS.set hp (fun F hF => ⟨F, ⟨⟨D, hrg, h.sz, h.has, h.at_, fun kl hl => h.sub kl (by simp at hl; exact hl.1), fun t ht => by cases ht; exact ⟨w', rfl, rfl, hen⟩⟩, hF.2⟩, (Keeps.refl (fun k => F k) w).grown hgr (fun j hj => by cases hj; exact .inr ((hF.2 _).2 (.inr rfl))), fun _ h => .inl h⟩))
    rw [drop_cons h1]
    unfold wpList
    rw [wanted_mkA, if_pos h2]
    refine .inl (wp_of_ran (v := .tuple #[.bool true, .int .i64 z, u]) (w' := w') (.inl ?_) (by rw [mkA_put]; exact hk))
    rw [mkA_eval]
    obtain ⟨dst, op, type, pos', after, guard⟩ := o
    cases h3
    simp only [execOp, hx]
    simp at hrun
    simp [hrun, Result.andThen]
theorem TriL.mapEntry (i : Nat) (hop : ∀ junk, opAt N junk ops fr k = some (.entry x, d)) (hp : hps[i]? = some (.abs (RangeA P K b r f n left cnt (some v)))) (hx : ∀ junk, evF N fr junk x = .pointer (some ⟨r, 0, none⟩))
    (K' : TriL P β N ops (k + 1) (putF fr d v) hps Q) : TriL P β N ops k fr hps Q := by
  refine TriL.run1 hop (fun o junk w ho hS => ⟨w, .inl ?_, hS⟩) K'
  obtain ⟨F, ⟨D, h⟩, hF⟩ := hS.get hp
  have hl := h.last _ rfl
  obtain ⟨es, clock, since, seen, c0, e1, e2, e3, e4, e5, e6⟩ := h.rg
  have hrun := hl.run e1 e5
  obtain ⟨dst, op, type, pos', after, guard⟩ := o
  cases ho
  simp only [execOp, hx]
  simp [hrun, Result.andThen]
theorem RangeA.getM {w : World} (hS : Sat β hps w) (hp : hps[i]? = some (.abs (RangeA P K b r f n left cnt last))) : MapIs P K w b f n := by
  obtain ⟨F, ⟨D, h⟩, hF⟩ := hS.get hp
  exact RangeA.map h
theorem TriL.rangeLookOk {ix : Operand} {key z : Value} {kl : Lit} {u : Option Value} (i : Nat) (hop : ∀ junk, opAt N junk ops fr k = some (.lookup t x ix true, d)) (hp : hps[i]? = some (.abs (RangeA P K b r f n left cnt last))) (hx : ∀ junk, evF N fr junk x = .map (some b)) (hix : ∀ junk, evF N fr junk ix = key) (L : Keyed P K)
    (ht : P.underlying t = some (.map K E)) (hz : ∀ w, (zeroValue E).run P w = .ok z w) (hkey : keyOf P K key = some kl) (hr : f kl = u) (K' : TriL P β N ops (k + 1) (putF fr d (.tuple #[u.getD z, .bool u.isSome])) hps Q) : TriL P β N ops k fr hps Q := by
  subst hr
  exact TriL.run1 hop (fun o junk w ho hS => ⟨w, ran_lookOk ho (RangeA.getM hS hp) (hx junk) (hix junk) L ht (hz w) hkey, hS⟩) K'
theorem TriL.rangeLook {ix : Operand} {key z : Value} {kl : Lit} {u : Option Value} (i : Nat) (hop : ∀ junk, opAt N junk ops fr k = some (.lookup t x ix false, d)) (hp : hps[i]? = some (.abs (RangeA P K b r f n left cnt last))) (hx : ∀ junk, evF N fr junk x = .map (some b)) (hix : ∀ junk, evF N fr junk ix = key) (L : Keyed P K)
    (ht : P.underlying t = some (.map K E)) (hz : ∀ w, (zeroValue E).run P w = .ok z w) (hkey : keyOf P K key = some kl) (hr : f kl = u) (K' : TriL P β N ops (k + 1) (putF fr d (u.getD z)) hps Q) : TriL P β N ops k fr hps Q := by
  subst hr
  exact TriL.run1 hop (fun o junk w ho hS => ⟨w, ran_look ho (RangeA.getM hS hp) (hx junk) (hix junk) L ht (hz w) hkey, hS⟩) K'
theorem TriL.rangeLen (i : Nat) {ats : Array TypeId} (hop : ∀ junk, opAt N junk ops fr k = some (.call ⟨.builtin .len, #[x], ats⟩, d)) (hp : hps[i]? = some (.abs (RangeA P K b r f n left cnt last))) (hx : ∀ junk, evF N fr junk x = .map (some b)) (hats : ats = #[t]) (ht : P.underlying t = some (.map K E))
    (K' : TriL P β N ops (k + 1) (putF fr d (.int .i64 ((n : Nat) : Int))) hps Q) : TriL P β N ops k fr hps Q :=
  TriL.run1 hop (fun _ junk w ho hS => ⟨w, ran_len ho hats (RangeA.getM hS hp) (hx junk) ht, hS⟩) K'
end rules
end Go.Proofs.Ytejnhhpjlajngaa
end
/- part Vw. PROVED HERE: the rule of the logic for 'make' of a slice of things of one cell. CONDITIONS: none. No statement of the seat is proved here. -/
section
namespace Go.Proofs.Ytejnhhpjlajngaa
open Go.RowKit
theorem madeCells_one (z : Value) (n : Nat) : (madeCells #[z] (n * 1)).toList = List.replicate n z := by
  rw [Nat.mul_one]
  apply List.ext_getElem
  · simp [madeCells]
  · intro j h1 h2
    simp [madeCells, Nat.mod_one]
section make
variable {P : Program} {β : Bs} {N : Nat} {ops : Array Oper} {k : Nat} {fr : Fr} {hps : List HP} {Q : Post} {d : Option Tmp}
theorem TriL.makeFull {t e : TypeId} {z : Value} {bytes n : Nat} {l c : Operand} (hop : ∀ junk, opAt N junk ops fr k = some (.makeSlice t l c, d)) (hl : ∀ junk, evF N fr junk l = .int .i64 ((n : Nat) : Int)) (hc : ∀ junk, evF N fr junk c = .int .i64 ((n : Nat) : Int))
    (ht : P.underlying t = some (.slice e)) (hinf : (P.info? e).map (fun i => (i.zero, i.size, i.bytes)) = some (some z, 1, bytes)) (hzs : z.cells = #[z]) (hn : n ≤ 16777216) (hb : bytes * n ≤ 281474976710656)
    (K' : ∀ b, TriL P β N ops (k + 1) (putF fr d (.slice (some ⟨b, 0, none⟩) n n)) (hps ++ [.abs (RowA e 1 (some ⟨b, 0, none⟩) n n (List.replicate n z))]) Q) : TriL P β N ops k fr hps Q := by
  obtain ⟨inf, hi, hz, hsize, hby⟩ : ∃ inf, P.info? e = some inf ∧ inf.zero = some z ∧ inf.size = 1 ∧ inf.bytes = bytes := by
    cases h : P.info? e with
    | none => rw [h] at hinf; cases hinf
    | some inf => rw [h] at hinf; simp at hinf; exact ⟨inf, rfl, hinf.1, hinf.2.1, hinf.2.2⟩
  refine TriL.runE (ι := Nat) (v := fun b => .slice (some ⟨b, 0, none⟩) n n) (hp' := fun b => hps ++ [.abs (RowA e 1 (some ⟨b, 0, none⟩) n n (List.replicate n z))]) hop (fun o junk w ho hS => ?_) K'
  obtain ⟨w', h1, h2, h3⟩ := run_makeSlice_full (P := P) w 0 t e inf z 1 ht hi hz hsize .i64 .i64 n (by omega) (by rw [hby]; exact hb) (by unfold maxLen; omega) (Nat.zero_le _)
  rw [hzs, madeCells_one] at h2
  refine ⟨w.heap.size, w', .inl ?_, hS.new (F := fun k => k = w.heap.size) ⟨h2, fun j => by simp [Value.ownBlock, eq_comm]⟩ ((Keeps.refl _ _).grown h3 (fun _ h => by cases h)) (fun k e => Nat.le_of_eq e.symm)⟩
  obtain ⟨dst, op, type, pos, after, guard⟩ := o
  cases ho
  simp only [execOp, hl, hc]
  simp [h1, Result.andThen]
end make
end Go.Proofs.Ytejnhhpjlajngaa
end
/- part Vy. PROVED HERE: small laws of unsigned numbers, shifts and the order of texts. CONDITIONS: none. No statement of the seat is proved here. -/
section
namespace Go.Proofs.Ytejnhhpjlajngaa
open Go.RowKit
theorem u64Eq {x : Int} (h0 : 0 ≤ x) (h1 : x ≤ 18446744073709551615) : Value.int .u64 (IntKind.wrap .u64 x) = Value.int .u64 x := by
  rw [IntWalk.u64_in _ ⟨h0, h1⟩]
theorem u8Eq {x : Int} (h0 : 0 ≤ x) (h1 : x ≤ 255) : Value.int .u8 (IntKind.wrap .u8 x) = Value.int .u8 x := by
  rw [IntWalk.u8_in _ ⟨h0, h1⟩]
theorem shr1Eq {k : IntKind} {m : Nat} : Value.int k (Int.fdiv ((m : Nat) : Int) (2 ^ 1)) = Value.int k ((m / 2 : Nat) : Int) := by
  have e : ((m / 2 : Nat) : Int) = (m : Int) / 2 := by omega
  rw [e, Int.fdiv_eq_ediv_of_nonneg _ (by decide)]
  rfl
/-! ### bytes that may turn into a text -/
/-- a block whose cells are as told, whatever its mark -/
def FrozA (b : Nat) (cs : List Value) (T : TypeId) : Asn where
  h F w := (∃ fz, w.heap[b]? = some (.cells ⟨cs⟩ T fz)) ∧ ∀ k, F k ↔ k = b
  lt := by
    rintro F w ⟨⟨fz, h1⟩, h2⟩ k hk
    rw [(h2 k).1 hk]
    exact lt_of_some h1
  st := by
    rintro F w ⟨⟨fz, h1⟩, h2⟩ S w' hk hn
    exact ⟨⟨fz, (hk.block b (lt_of_some h1) (hn b ((h2 b).2 rfl))).trans h1⟩, h2⟩
theorem RowB.of_froz {β' : Bs} {b n : Nat} {cs : List Value} {T : TypeId} {F : Fp} {w : World} (h : (HP.abs (FrozA b cs T)).h F w) (h1 : ∀ k, F k → β'.O k) (h2 : β'.w0 = w) : RowB β' (some ⟨b, 0, none⟩) (cs.take n) := by
  obtain ⟨⟨fz, h3⟩, h4⟩ := h
  intro j v hj
  have hj' : cs[j]? = some v := by
    rw [List.getElem?_take] at hj
    split at hj
    · exact hj
    · cases hj
  refine ⟨rfl, h1 b ((h4 b).2 rfl), ?_⟩
  show β'.w0.cell? ⟨b, 0 + j, none⟩ = some v
  rw [h2, Nat.zero_add]
  unfold World.cell?
  rw [h3]
  simpa using hj'
section mark
variable {P : Program} {β : Bs} {N : Nat} {ops : Array Oper} {k : Nat} {fr : Fr} {hps : List HP} {Q : Post} {d : Option Tmp}
theorem TriL.markBytes (i : Nat) {t e T : TypeId} {b o n c : Nat} {cs : List Value} {x : Operand} (hop : ∀ junk, opAt N junk ops fr k = some (.convert t t x, d)) (hp : hps[i]? = some (.blk b cs T)) (hx : ∀ junk, evF N fr junk x = .slice (some ⟨b, o, none⟩) n c)
    (ht : P.underlying t = some (.slice e)) (he : P.underlying e = some (.int .u8)) (K' : TriL P β N ops (k + 1) (putF fr d (.slice (some ⟨b, o, none⟩) n c)) (hps.set i (.abs (FrozA b cs T))) Q) : TriL P β N ops k fr hps Q := by
  refine TriL.run1 hop (fun o' junk w ho hS => ?_) K'
  obtain ⟨F, hF⟩ := hS.get hp
  have hb := hF.1
  have hsz : b < w.heap.size := lt_of_some hb
  refine ⟨w.freeze ⟨b, cs.length, none⟩ 1, .inl ?_, hS.set hp (fun F hF => ?_)⟩
  · obtain ⟨dst, op, type, pos, after, guard⟩ := o'
    cases ho
    have h1 : (underlying t).run P w = .ok (.slice e) w := run_underlying ht w
    have h2 : (underlying e).run P w = .ok (.int .u8) w := run_underlying he w
    have h3 : w.shape? b = some (T, cs.length) := by unfold World.shape?; rw [hb]; rfl
    simp [execOp, convert, hx, go_sem, h1, h2, markStringish, h3]
  · refine ⟨F, ⟨⟨?_, ?_⟩, hF.2⟩, ⟨⟨rfl, rfl, rfl, ?_, ?_⟩, fun _ h => .inl h⟩⟩
    · exact (if ((0 : Nat) == 0) = true then (cs.length, cs.length + 1) else (min 0 cs.length, max 0 (cs.length + 1)))
    · simp [World.freeze, Array.getElem?_modify, hF.1]
    · simp [World.freeze]
    · intro k _ hk
      have hne : ¬ b = k := fun e => hk ((hF.2 k).2 e.symm)
      simp [World.freeze, Array.getElem?_modify, hne]
end mark
/-! ### texts put together; a row that is cut -/
section adds
variable {P : Program} {β : Bs} {N : Nat} {ops : Array Oper} {e0 k : Nat} {fr : Fr} {hps : List HP} {Q : Post} {d : Option Tmp} {t t2 : TypeId} {x y : Operand} {a b : ByteArray}
theorem ran_strAdd {w : World} {o : Oper} {ev : Operand → Value} (ho : o.op = .binOp .add t x y t2) (hx : ev x = .string a) (hy : ev y = .string b) (hs : a.size + b.size ≤ 9223372036854775807) : Ran P ev o w (.string (a ++ b)) w := by
  obtain ⟨dst, op, type, pos, after, guard⟩ := o
  cases ho
  refine .inl ?_
  simp [execOp, hx, hy, binOp, eqGuard, Op.stringOp, go_sem]
  omega
theorem TriL.strAdd (hop : ∀ junk, opAt N junk ops fr k = some (.binOp .add t x y t2, d)) (hx : ∀ junk, evF N fr junk x = .string a) (hy : ∀ junk, evF N fr junk y = .string b) (hs : a.size + b.size ≤ 9223372036854775807) (K : TriL P β N ops (k + 1) (putF fr d (.string (a ++ b))) hps Q) : TriL P β N ops k fr hps Q :=
  TriL.run1 hop (fun _ junk w ho hS => ⟨w, ran_strAdd ho (hx junk) (hy junk) hs, hS⟩) K
theorem TriLQ.strAdd (hop : ∀ junk, opAt N junk ops fr k = some (.binOp .add t x y t2, d)) (hx : ∀ junk, evF N fr junk x = .string a) (hy : ∀ junk, evF N fr junk y = .string b) (hs : a.size + b.size ≤ 9223372036854775807) (K : TriLQ P β N ops (k + 1) (putF fr d (.string (a ++ b))) hps Q) : TriLQ P β N ops k fr hps Q :=
  TriLQ.run1 hop (fun _ junk _ ho _ => ran_strAdd ho (hx junk) (hy junk) hs) K
theorem step_cut {e : TypeId} {size n m cap : Nat} {A : Option Addr} {xs : List Value} {w : World} (hm : m ≤ n) : ∀ F, (HP.abs (RowA e size A n cap xs)).h F w → ∃ F', (HP.abs (RowA e size A m cap (xs.take (m * size)))).h F' w ∧ Step F w F' w := by
  rintro F ⟨⟨h1, h2⟩, hF⟩
  refine ⟨F, ⟨⟨?_, ?_⟩, fun k => ?_⟩, Step.refl F w⟩
  · rw [List.length_take, h1]
    exact Nat.min_eq_left (Nat.mul_le_mul_right _ hm)
  · rcases h2 with ⟨e1, e2⟩ | ⟨g, cp, cur, e1, h3, h4, h5, h6, h7, h8⟩
    · cases e1
      exact .inl ⟨by rw [show m = 0 by omega], by omega⟩
    · cases e1
      refine .inr ⟨g, cap, cur, rfl, h3, h4, by omega, h6, h7, ?_⟩
      rw [← h8, List.take_take]
      congr 1
      exact (Nat.min_eq_left (Nat.mul_le_mul_right _ hm)).symm
  · rw [hF k]
    cases A <;> rfl
theorem Sat.cut {i e size n m cap : Nat} {A : Option Addr} {xs ys : List Value} {w : World} (hp : hps[i]? = some (.abs (RowA e size A n cap xs))) (hm : m ≤ n) (hy : xs.take (m * size) = ys) (h : Sat β hps w) : Sat β (hps.set i (.abs (RowA e size A m cap ys))) w := by
  subst hy
  exact h.set hp (step_cut hm)
end adds
/-- a cell of a row, by its element and place -/
theorem RowA.cellAt {e : TypeId} {A : Option Addr} {size n cap i j : Nat} {xs : List Value} {u : Value} (hi : i < n) (hj : xs[i * size + j]? = some u) : ∀ F w, (RowA e size A n cap xs).h F w → w.cell? ⟨blkOf A, offOf A + i * size + j, none⟩ = some u := by
  intro F w h
  obtain ⟨g, rfl⟩ := RowA.head h (by omega)
  have := RowA.cell hj F w h
  show w.cell? ⟨g, 0 + i * size + j, none⟩ = some u
  rw [Nat.zero_add]
  exact this
/-! ### the order of texts -/
def cmpB (a b : ByteArray) : Int := Lib.compareBytes a.data.toList b.data.toList
theorem cmpL_self : ∀ a : List UInt8, Lib.compareBytes a a = 0
  | [] => rfl
  | a :: r => by
    have h : ¬ a < a := by intro h; exact absurd h (by simp)
    simp only [Lib.compareBytes, if_neg h]
    exact cmpL_self r
theorem cmpL_zero : ∀ {a b : List UInt8}, Lib.compareBytes a b = 0 → a = b
  | [], [], _ => rfl
  | [], _ :: _, h => by simp [Lib.compareBytes] at h
  | _ :: _, [], h => by simp [Lib.compareBytes] at h
  | a :: x, b :: y, h => by
    unfold Lib.compareBytes at h
    split at h
    · cases h
    · rename_i h1
      split at h
      · cases h
      · rename_i h2
        have e : a = b := by
          apply UInt8.toNat_inj.1
          have h3 : ¬ a.toNat < b.toNat := fun h => h1 (UInt8.lt_iff_toNat_lt.2 h)
          have h4 : ¬ b.toNat < a.toNat := fun h => h2 (UInt8.lt_iff_toNat_lt.2 h)
          omega
        rw [e, cmpL_zero h]
theorem cmpL_less : ∀ {a b : List UInt8}, Lib.compareBytes a b < 0 ↔ Op.bytesLess a b = true
  | [], [] => by simp [Lib.compareBytes, Op.bytesLess]
  | [], _ :: _ => by simp [Lib.compareBytes, Op.bytesLess]
  | _ :: _, [] => by simp [Lib.compareBytes, Op.bytesLess]
  | a :: x, b :: y => by
    unfold Lib.compareBytes Op.bytesLess
    by_cases h1 : a < b
    · simp [h1]
    · by_cases h2 : b < a
      · have h3 : ¬ a = b := fun e => by subst e; exact h1 h2
        simp [h1, h2, h3]
      · have e : a = b := by
          apply UInt8.toNat_inj.1
          have h3 : ¬ a.toNat < b.toNat := fun h => h1 (UInt8.lt_iff_toNat_lt.2 h)
          have h4 : ¬ b.toNat < a.toNat := fun h => h2 (UInt8.lt_iff_toNat_lt.2 h)
          omega
        subst e
        simp only [h1, if_false, decide_false, beq_self_eq_true, Bool.true_and, Bool.false_or]
        exact cmpL_less
theorem cmpL_trans : ∀ {a b c : List UInt8}, Lib.compareBytes a b < 0 → Lib.compareBytes b c ≤ 0 → Lib.compareBytes a c < 0
  | [], [], _, h, _ => by simp [Lib.compareBytes] at h
  | [], _ :: _, [], _, h => by simp [Lib.compareBytes] at h
  | [], _ :: _, _ :: _, _, _ => by simp [Lib.compareBytes]
  | _ :: _, [], _, h, _ => by simp [Lib.compareBytes] at h
  | _ :: _, _ :: _, [], _, h => by simp [Lib.compareBytes] at h
  | a :: x, b :: y, c :: z, h, g => by
    unfold Lib.compareBytes at h g ⊢
    by_cases h1 : a < b
    · by_cases g1 : b < c
      · have : a < c := by rw [UInt8.lt_iff_toNat_lt] at *; omega
        simp [this]
      · by_cases g2 : c < b
        · simp [g1, g2] at g
        · have e : b = c := by
            apply UInt8.toNat_inj.1
            rw [UInt8.lt_iff_toNat_lt] at *
            omega
          subst e
          simp [h1]
    · by_cases h2 : b < a
      · simp [h1, h2] at h
      · have e : a = b := by
          apply UInt8.toNat_inj.1
          rw [UInt8.lt_iff_toNat_lt] at *
          omega
        subst e
        simp only [h1, if_false] at h
        by_cases g1 : a < c
        · simp [g1]
        · by_cases g2 : c < a
          · simp [g1, g2] at g
          · simp only [g1, g2, if_false] at g ⊢
            exact cmpL_trans h g
theorem cmpL_anti : ∀ {a b : List UInt8}, Lib.compareBytes b a = - Lib.compareBytes a b
  | [], [] => rfl
  | [], _ :: _ => rfl
  | _ :: _, [] => rfl
  | a :: x, b :: y => by
    unfold Lib.compareBytes
    by_cases h1 : a < b
    · have h2 : ¬ b < a := by rw [UInt8.lt_iff_toNat_lt] at *; omega
      simp [h1, h2]
    · by_cases h2 : b < a
      · simp [h1, h2]
      · simp only [h1, h2, if_false]
        exact cmpL_anti
theorem cmpB_self (a : ByteArray) : cmpB a a = 0 := cmpL_self _
theorem cmpB_zero {a b : ByteArray} : cmpB a b = 0 ↔ a = b := by
  refine ⟨fun h => ?_, fun h => by rw [h]; exact cmpB_self b⟩
  have := cmpL_zero h
  obtain ⟨⟨a⟩⟩ := a
  obtain ⟨⟨b⟩⟩ := b
  have this : a = b := this
  rw [this]
theorem cmpB_trans {a b c : ByteArray} (h : cmpB a b < 0) (g : cmpB b c ≤ 0) : cmpB a c < 0 := cmpL_trans h g
theorem cmpB_anti (a b : ByteArray) : cmpB b a = - cmpB a b := cmpL_anti
end Go.Proofs.Ytejnhhpjlajngaa
end
