/-
  PROVED HERE: a program logic over the model's 'wp': a frame as a list of known slots, memory as a list of parts that lie apart from one another and from what is only read; a run of operations is evaluated by the kernel.
  CONDITIONS: none. No statement of the seat is proved here.
-/
import Derived.Test.YtjpdcppdoonmdaaSep
import Derived.Deep.Quiet
import Derived.Deep.LoopGhost
import Derived.KernelRfl
namespace Go.Proofs.Ytjpdcppdoonmdaa
open Go.RowKit

/-! ### memory -/
/-- what is only read: the blocks of O are as they are in w0 -/
structure Bs where
  O : Nat → Prop
  w0 : World

structure Bs.ok (β : Bs) (w : World) : Prop where
  os : w.os = β.w0.os
  tape : w.tape = β.w0.tape
  output : w.output = β.w0.output
  size : β.w0.heap.size ≤ w.heap.size
  old : ∀ k, β.O k → k < β.w0.heap.size ∧ w.heap[k]? = β.w0.heap[k]?

theorem Bs.ok.keeps {β : Bs} {S : Nat → Prop} {w w' : World} (h : β.ok w) (k : Keeps S w w') (hs : ∀ i, β.O i → ¬ S i) : β.ok w' :=
  ⟨k.os.trans h.os, k.tape.trans h.tape, k.output.trans h.output, Nat.le_trans h.size k.size, fun i hi => ⟨(h.old i hi).1, (k.block i (Nat.lt_of_lt_of_le (h.old i hi).1 h.size) (hs i hi)).trans (h.old i hi).2⟩⟩
theorem Bs.ok.cell {β : Bs} {w : World} (h : β.ok w) {a : Addr} {v : Value} (ho : β.O a.block ∧ β.w0.cell? a = some v) : w.cell? a = some v :=
  (World.cell?_of_block (w := β.w0) (h.old a.block ho.1).2).trans ho.2

/-- a part of memory -/
inductive HP
  | blk (b : Nat) (cs : List Value) (T : TypeId)
  | abs (A : Asn)

def HP.h : HP → Fp → World → Prop
  | .blk b cs T, F, w => w.heap[b]? = some (.cells ⟨cs⟩ T (0, 0)) ∧ ∀ k, F k ↔ k = b
  | .abs A, F, w => A.h F w

theorem lt_of_some {α : Type} {xs : Array α} {i : Nat} {x : α} (h : xs[i]? = some x) : i < xs.size := by
  rcases Nat.lt_or_ge i xs.size with hl | hl
  · exact hl
  · rw [Array.getElem?_eq_none hl] at h; cases h
theorem HP.lt {p : HP} {F : Fp} {w : World} (h : p.h F w) (k : Nat) (hk : F k) : k < w.heap.size := by
  cases p with
  | blk b cs T => obtain ⟨h1, h2⟩ := h; rw [(h2 k).1 hk]; exact lt_of_some h1
  | abs A => exact A.lt h k hk
theorem HP.st {p : HP} {F : Fp} {w w' : World} {S : Nat → Prop} (h : p.h F w) (k : Keeps S w w') (hn : ∀ i, F i → ¬ S i) : p.h F w' := by
  cases p with
  | blk b cs T => obtain ⟨h1, h2⟩ := h; exact ⟨(k.block b (lt_of_some h1) (hn b ((h2 b).2 rfl))).trans h1, h2⟩
  | abs A => exact A.st h k hn

def Sat (β : Bs) (l : List HP) (w : World) : Prop :=
  β.ok w ∧ ∃ φ : Nat → Fp, (∀ (i : Nat) (p : HP), l[i]? = some p → p.h (φ i) w) ∧ (∀ i, i < l.length → ∀ k, φ i k → ¬ β.O k) ∧ ∀ i j, i < l.length → j < l.length → i ≠ j → Apart (φ i) (φ j)

section sat
variable {β : Bs} {l l' : List HP} {w w' : World} {p p' : HP} {i : Nat}
theorem len_of_some {α : Type} {xs : List α} {i : Nat} {x : α} (h : xs[i]? = some x) : i < xs.length := by
  rcases Nat.lt_or_ge i xs.length with hl | hl
  · exact hl
  · rw [List.getElem?_eq_none hl] at h; cases h
theorem some_of_len {α : Type} {xs : List α} {i : Nat} (h : i < xs.length) : ∃ x, xs[i]? = some x := ⟨xs[i], List.getElem?_eq_getElem h⟩
theorem Sat.quiet (h : Sat β l w) (k : Keeps (fun _ => False) w w') : Sat β l w' := by
  obtain ⟨ho, φ, h1, h2, h3⟩ := h
  exact ⟨ho.keeps k (fun _ _ h => h), φ, fun i p hp => HP.st (h1 i p hp) k (fun _ _ h => h), h2, h3⟩
theorem Sat.drewN (h : Sat β l w) (n : Nat) : Sat β l (w.drewN n) := h.quiet ((Keeps.refl _ _).drewN n)
theorem Sat.get (h : Sat β l w) (hp : l[i]? = some p) : ∃ F, p.h F w := by
  obtain ⟨_, φ, h1, _⟩ := h
  exact ⟨φ i, h1 i p hp⟩
theorem Sat.set (h : Sat β l w) (hp : l[i]? = some p) (hs : ∀ F, p.h F w → ∃ F', p'.h F' w' ∧ Step F w F' w') : Sat β (l.set i p') w' := by
  obtain ⟨ho, φ, h1, h2, h3⟩ := h
  obtain ⟨F', hF', st⟩ := hs _ (h1 i p hp)
  have hi := len_of_some hp
  have hlt : ∀ j, j < l.length → ∀ k, φ j k → k < w.heap.size := fun j hj k hk => by
    obtain ⟨q, hq⟩ := some_of_len hj
    exact HP.lt (h1 j q hq) k hk
  have hap : ∀ j, j < l.length → j ≠ i → ∀ k, F' k → φ j k → False := fun j hj hne k hk hk' => by
    rcases st.grow k hk with e | e
    · exact h3 i j hi hj (fun e => hne e.symm) k e hk'
    · have := hlt j hj k hk'; omega
  refine ⟨ho.keeps st.keeps (fun k hk hk' => h2 i hi k hk' hk), fun j => if j = i then F' else φ j, fun j q hq => ?_, fun j hj k hk hO => ?_, fun j1 j2 hj1 hj2 hne k hk hk' => ?_⟩
  · by_cases e : j = i
    · subst e
      rw [List.getElem?_set_self hi] at hq
      cases hq
      simpa using hF'
    · rw [List.getElem?_set_ne (fun e' => e e'.symm)] at hq
      simp only [e, if_false]
      exact HP.st (h1 j q hq) st.keeps (fun k hk hk' => h3 i j hi (len_of_some hq) (fun e' => e e'.symm) k hk' hk)
  · rw [List.length_set] at hj
    by_cases e : j = i
    · subst e
      simp only [if_true] at hk
      rcases st.grow k hk with e | e
      · exact h2 j hi k e hO
      · have := (ho.old k hO).1; have := ho.size; omega
    · simp only [e, if_false] at hk
      exact h2 j hj k hk hO
  · rw [List.length_set] at hj1 hj2
    by_cases e1 : j1 = i
    · by_cases e2 : j2 = i
      · exact hne (e1.trans e2.symm)
      · simp only [e1, if_true] at hk
        simp only [e2, if_false] at hk'
        exact hap j2 hj2 e2 k hk hk'
    · simp only [e1, if_false] at hk
      by_cases e2 : j2 = i
      · simp only [e2, if_true] at hk'
        exact hap j1 hj1 e1 k hk' hk
      · simp only [e2, if_false] at hk'
        exact h3 j1 j2 hj1 hj2 hne k hk hk'
theorem Sat.new {F : Fp} (h : Sat β l w) (hF : p.h F w') (k : Keeps (fun _ => False) w w') (hn : ∀ k, F k → w.heap.size ≤ k) : Sat β (l ++ [p]) w' := by
  obtain ⟨ho, φ, h1, h2, h3⟩ := h
  have hlt : ∀ j, j < l.length → ∀ k, φ j k → k < w.heap.size := fun j hj k hk => by
    obtain ⟨q, hq⟩ := some_of_len hj
    exact HP.lt (h1 j q hq) k hk
  refine ⟨ho.keeps k (fun _ _ h => h), fun j => if j = l.length then F else φ j, fun j q hq => ?_, fun j hj k hk hO => ?_, fun j1 j2 hj1 hj2 hne k hk hk' => ?_⟩
  · by_cases e : j = l.length
    · subst e
      simp at hq
      subst hq
      simpa using hF
    · have hj : j < l.length := by have := len_of_some hq; simp at this; omega
      rw [List.getElem?_append_left hj] at hq
      simp only [e, if_false]
      exact HP.st (h1 j q hq) k (fun _ _ h => h)
  · by_cases e : j = l.length
    · simp only [e, if_true] at hk
      have := (ho.old k hO).1; have := ho.size; have := hn k hk; omega
    · simp only [e, if_false] at hk
      exact h2 j (by simp at hj; omega) k hk hO
  · simp at hj1 hj2
    by_cases e1 : j1 = l.length
    · by_cases e2 : j2 = l.length
      · exact hne (e1.trans e2.symm)
      · simp only [e1, if_true] at hk
        simp only [e2, if_false] at hk'
        have := hlt j2 (by omega) k hk'; have := hn k hk; omega
    · simp only [e1, if_false] at hk
      by_cases e2 : j2 = l.length
      · simp only [e2, if_true] at hk'
        have := hlt j1 (by omega) k hk; have := hn k hk'; omega
      · simp only [e2, if_false] at hk'
        exact h3 j1 j2 (by omega) (by omega) hne k hk hk'
/-- some parts of a list, by their places -/
def pickL (l : List HP) : List Nat → Option (List HP)
  | [] => some []
  | i :: r => match l[i]? with
    | some p => match pickL l r with
      | some q => some (p :: q)
      | none => none
    | none => none
def nodupB : List Nat → Bool
  | [] => true
  | i :: r => !(r.contains i) && nodupB r
theorem nodupB_spec : ∀ {idx : List Nat}, nodupB idx = true → idx.Nodup
  | [], _ => List.nodup_nil
  | i :: r, h => by
    simp only [nodupB, Bool.and_eq_true, Bool.not_eq_true', List.contains_eq_mem, decide_eq_false_iff_not] at h
    exact List.nodup_cons.2 ⟨h.1, nodupB_spec h.2⟩
theorem pickL_spec : ∀ {idx : List Nat} {l' : List HP}, pickL l idx = some l' → l'.length = idx.length ∧ ∀ (j : Nat) (p : HP), l'[j]? = some p → ∃ i : Nat, idx[j]? = some i ∧ l[i]? = some p
  | [], l', h => by cases h; exact ⟨rfl, fun j p hp => by simp at hp⟩
  | i :: r, l', h => by
    unfold pickL at h
    split at h
    · rename_i q hq
      split at h
      · rename_i q' hq'
        cases h
        obtain ⟨h1, h2⟩ := pickL_spec hq'
        refine ⟨by simp [h1], fun j p hp => ?_⟩
        cases j with
        | zero => simp at hp; subst hp; exact ⟨i, rfl, hq⟩
        | succ j => simpa using h2 j p (by simpa using hp)
      · cases h
    · cases h
theorem Sat.pick {idx : List Nat} (h : Sat β l w) (hn : nodupB idx = true) (hp : pickL l idx = some l') : Sat β l' w := by
  obtain ⟨ho, φ, h1, h2, h3⟩ := h
  obtain ⟨hl, hi⟩ := pickL_spec hp
  have hnd := nodupB_spec hn
  have key : ∀ j, j < l'.length → idx.getD j 0 < l.length := fun j hj => by
    obtain ⟨p, hp⟩ := some_of_len hj
    obtain ⟨i, e, hi⟩ := hi j p hp
    rw [List.getD_eq_getElem?_getD, e]
    exact len_of_some hi
  refine ⟨ho, fun j => φ (idx.getD j 0), fun j p hp => ?_, fun j hj => h2 _ (key j hj), fun j1 j2 hj1 hj2 hne => h3 _ _ (key j1 hj1) (key j2 hj2) (fun e => hne ?_)⟩
  · obtain ⟨i, e, hi⟩ := hi j p hp
    show p.h (φ (idx.getD j 0)) w
    rw [List.getD_eq_getElem?_getD, e]
    exact h1 i p hi
  · rw [hl] at hj1 hj2
    rw [List.getD_eq_getElem?_getD, List.getD_eq_getElem?_getD, List.getElem?_eq_getElem hj1, List.getElem?_eq_getElem hj2] at e
    have hp := List.pairwise_iff_getElem.1 hnd
    rcases Nat.lt_trichotomy j1 j2 with h | h | h
    · exact absurd (by simpa using e) (hp j1 j2 hj1 hj2 h)
    · exact h
    · exact absurd (by simpa using e.symm) (hp j2 j1 hj2 hj1 h)
end sat

/-! ### a frame: some slots are known -/
abbrev Fr := List (Nat × Value)
def lk : Fr → (Nat → Value) → Nat → Value
  | [], j, t => j t
  | (i, v) :: r, j, t => match Nat.beq i t with
    | true => v
    | false => lk r j t
def mkA (N : Nat) (fr : Fr) (junk : Nat → Value) : Act := ⟨((List.range N).map (lk fr junk)).toArray, []⟩
def evF (N : Nat) (fr : Fr) (junk : Nat → Value) : Operand → Value
  | .tmp t => match Nat.blt t N with
    | true => lk fr junk t
    | false => undef
  | .const v => v
  | .global g => .pointer (some ⟨g, 0, none⟩)
  | .func f => .func (.func f) #[] #[]
theorem mkA_get (N : Nat) (fr : Fr) (junk : Nat → Value) (t : Nat) : (mkA N fr junk).tmps[t]? = if t < N then some (lk fr junk t) else none := by
  unfold mkA
  by_cases h : t < N
  · simp [h]
  · simp [h]
theorem mkA_eval (N : Nat) (fr : Fr) (junk : Nat → Value) : (mkA N fr junk).eval = evF N fr junk := by
  funext x
  cases x with
  | tmp t =>
    simp only [Act.eval, evF, Array.getD_eq_getD_getElem?, mkA_get]
    by_cases h : t < N
    · have : Nat.blt t N = true := by simpa [Nat.blt_eq] using h
      simp [h, this]
    · have : Nat.blt t N = false := by
        cases hb : Nat.blt t N
        · rfl
        · exact absurd (by simpa [Nat.blt_eq] using hb) h
      simp [h, this]
  | const v => rfl
  | global g => rfl
  | func f => rfl
def putF (fr : Fr) (d : Option Tmp) (v : Value) : Fr := match d with
  | some d => (d, v) :: fr
  | none => fr
theorem lk_cons (i : Nat) (v : Value) (fr : Fr) (junk : Nat → Value) (t : Nat) : lk ((i, v) :: fr) junk t = if i = t then v else lk fr junk t := by
  simp only [lk]
  by_cases h : i = t
  · subst h; simp [Nat.beq_refl]
  · have : Nat.beq i t = false := by
      cases hb : Nat.beq i t
      · rfl
      · exact absurd (Nat.eq_of_beq_eq_true hb) h
    simp [h, this]
theorem mkA_put (N : Nat) (fr : Fr) (junk : Nat → Value) (d : Option Tmp) (v : Value) : (mkA N fr junk).put d v = mkA N (putF fr d v) junk := by
  cases d with
  | none => rfl
  | some d =>
    unfold Act.put
    have hd : (mkA N fr junk).defers = (mkA N (putF fr (some d) v) junk).defers := rfl
    have ht : (mkA N fr junk).tmps.setIfInBounds d v = (mkA N (putF fr (some d) v) junk).tmps := by
      apply Array.ext_getElem?
      intro t
      rw [Array.getElem?_setIfInBounds, mkA_get, mkA_get]
      have hs : (mkA N fr junk).tmps.size = N := by simp [mkA]
      simp only [putF, lk_cons, hs]
      by_cases h : d = t
      · subst h
        simp
      · simp [h]
    show Act.mk _ _ = _
    rw [ht]
    rfl
theorem mkA_defers (N : Nat) (fr : Fr) (junk : Nat → Value) : (mkA N fr junk).defers = [] := rfl
def yF (ops : Array Oper) (N : Nat) (fr : Fr) (junk : Nat → Value) (j : Nat) : Option Bool :=
  match ops.toList[j]? with
  | some o => match o.dst with
    | some d => match Nat.blt d N with
      | true => match lk fr junk d with
        | .bool b => some b
        | _ => none
      | false => none
    | none => none
  | none => none
theorem yF_eq (ops : Array Oper) (N : Nat) (fr : Fr) (junk : Nat → Value) (j : Nat) : yielded ops (mkA N fr junk).tmps j = yF ops N fr junk j := by
  unfold yielded yF
  rw [Array.getElem?_toList]
  cases ops[j]? with
  | none => rfl
  | some o =>
    simp only [Option.bind_some]
    cases o.dst with
    | none => rfl
    | some d =>
      simp only [Option.bind_some, mkA_get]
      by_cases h : d < N
      · have : Nat.blt d N = true := by simpa [Nat.blt_eq] using h
        simp only [h, this, if_true]
        cases lk fr junk d <;> rfl
      · have : Nat.blt d N = false := by
          cases hb : Nat.blt d N
          · rfl
          · exact absurd (by simpa [Nat.blt_eq] using hb) h
        simp [h, this]
/-- some slots of a frame -/
def pickF (fr : Fr) (junk : Nat → Value) : List Nat → Fr
  | [] => []
  | i :: r => (i, lk fr junk i) :: pickF fr junk r
theorem lk_pickF (fr : Fr) (junk : Nat → Value) : ∀ (idx : List Nat) (t : Nat), lk (pickF fr junk idx) (lk fr junk) t = lk fr junk t
  | [], _ => rfl
  | i :: r, t => by
    rw [pickF, lk_cons]
    by_cases h : i = t
    · simp [h]
    · simp [h, lk_pickF fr junk r t]
theorem mkA_pick (N : Nat) (fr : Fr) (junk : Nat → Value) (idx : List Nat) : mkA N fr junk = mkA N (pickF fr junk idx) (lk fr junk) := by
  unfold mkA
  have : (List.range N).map (lk fr junk) = (List.range N).map (lk (pickF fr junk idx) (lk fr junk)) := List.map_congr_left (fun t _ => (lk_pickF fr junk idx t).symm)
  rw [this]
end Go.Proofs.Ytjpdcppdoonmdaa
