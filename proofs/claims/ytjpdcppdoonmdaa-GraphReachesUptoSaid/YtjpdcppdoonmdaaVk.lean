/-
  PROVED HERE: the rules of the logic: code, calls, loops, branches, regions that draw their order, a function's contract.
  CONDITIONS: none. No statement of the seat is proved here.
-/
import Derived.Test.YtjpdcppdoonmdaaVj
namespace Go.Proofs.Ytjpdcppdoonmdaa
open Go.RowKit

abbrev Post := Exit → Act → World → Prop

def TriL (P : Program) (β : Bs) (N : Nat) (ops : Array Oper) (k : Nat) (fr : Fr) (hps : List HP) (Q : Post) : Prop :=
  ∀ junk w, Sat β hps w → wpList P ops Q (ops.toList.drop k) (mkA N fr junk) w
def TriLQ (P : Program) (β : Bs) (N : Nat) (ops : Array Oper) (k : Nat) (fr : Fr) (hps : List HP) (Q : Post) : Prop :=
  ∀ junk, wpQuiet P ops (Sat β hps) (fun a' => ∀ w', Sat β hps w' → Q .normal a' w') (ops.toList.drop k) (mkA N fr junk)
def Tri (P : Program) (β : Bs) (N : Nat) (c : Code) (fr : Fr) (hps : List HP) (Q : Post) : Prop :=
  ∀ junk w, Sat β hps w → c.wp P Q (mkA N fr junk) w
def TriQ (β : Bs) (N : Nat) (Q : Post) (e : Exit) (fr : Fr) (hps : List HP) : Prop :=
  ∀ junk w, Sat β hps w → Q e (mkA N fr junk) w

section rules
variable {P : Program} {β : Bs} {N : Nat} {ops : Array Oper} {k k' : Nat} {fr fr' : Fr} {hps hps' : List HP} {Q : Post} {obl : List Prop} {c x y : Code} {e : Exit}

theorem seg_spec {n : Nat} {ro : Bool} {junk : Nat → Value} {hs : List OH} {idx pk : List Nat} (h : segrun P β n ro N junk ops hs k fr hps idx pk = some (k', fr', hps', obl)) :
    ∃ fr1 S, oruns P β n ro N junk ops hs k fr ⟨[], hps, [], ro⟩ = some (k', fr1, S) ∧ nodupB pk = true ∧ pickL S.hps pk = some hps' ∧ fr' = pickF fr1 junk idx ∧ S.obl = obl := by
  unfold segrun at h
  repeat' split at h
  all_goals first | (cases h; done) | skip
  rename_i k1 fr1 S h1 _ h2 _ l h3
  cases h
  exact ⟨fr1, S, h1, h2, h3, rfl, rfl⟩

/-- a run of operations; 'n' is the block that it makes -/
theorem TriL.segN {fr' : Nat → Fr} {hps' : Nat → List HP} {obl : Nat → List Prop} (hs : List OH) (idx pk : List Nat) (h : ∀ n junk, segrun P β n false N junk ops hs k fr hps idx pk = some (k', fr' n, hps' n, obl n))
    (ho : ∀ n, AllP (obl n)) (K : ∀ n, TriL P β N ops k' (fr' n) (hps' n) Q) : TriL P β N ops k fr hps Q := by
  intro junk w hS
  obtain ⟨fr1, S, h1, h2, h3, h4, h5⟩ := seg_spec (h w.heap.size junk)
  refine oruns_sound h1 (fun p hp => (ho _).mem (h5 ▸ hp)) hS (fun _ => rfl) (fun w' hS' => ?_)
  have hk := K w.heap.size (lk fr1 junk) w' (hS'.pick h2 h3)
  rw [h4, ← mkA_pick] at hk
  exact hk
theorem TriL.seg (hs : List OH) (idx pk : List Nat) (h : ∀ n junk, segrun P β n false N junk ops hs k fr hps idx pk = some (k', fr', hps', obl))
    (ho : AllP obl) (K : TriL P β N ops k' fr' hps' Q) : TriL P β N ops k fr hps Q :=
  TriL.segN (fr' := fun _ => fr') (hps' := fun _ => hps') (obl := fun _ => obl) hs idx pk h (fun _ => ho) (fun _ => K)
/-- .. that leaves memory as it was -/
theorem TriL.segK (hs : List OH) (idx : List Nat) (h : ∀ n junk, segrun P β n false N junk ops hs k fr hps idx (List.range hps.length) = some (k', fr', hps, obl))
    (ho : AllP obl) (K : TriL P β N ops k' fr' hps Q) : TriL P β N ops k fr hps Q := TriL.seg hs idx (List.range hps.length) h ho K
theorem TriLQ.seg (hs : List OH) (idx : List Nat) (h : ∀ n junk, segrun P β n true N junk ops hs k fr hps idx (List.range hps.length) = some (k', fr', hps, obl))
    (ho : AllP obl) (K : TriLQ P β N ops k' fr' hps Q) : TriLQ P β N ops k fr hps Q := by
  intro junk
  obtain ⟨fr1, S, h1, h2, h3, h4, h5⟩ := seg_spec (h 0 junk)
  refine oruns_quiet h1 (fun p hp => ho.mem (h5 ▸ hp)) rfl (fun _ => ?_)
  have hk := K (lk fr1 junk)
  rw [h4, ← mkA_pick] at hk
  exact hk
theorem TriL.nil (h : ops.toList.drop k = []) (K : TriQ β N Q .normal fr hps) : TriL P β N ops k fr hps Q := by
  intro junk w hS
  rw [h]
  exact K junk w hS
theorem TriLQ.nil (h : ops.toList.drop k = []) (K : TriQ β N Q .normal fr hps) : TriLQ P β N ops k fr hps Q := by
  intro junk
  rw [h]
  exact fun w' hS' => K junk w' hS'
theorem TriL.wk {idx pk : List Nat} (hf : ∀ junk, pickF fr junk idx = fr') (hn : nodupB pk = true) (hp : pickL hps pk = some hps') (K : TriL P β N ops k fr' hps' Q) : TriL P β N ops k fr hps Q := by
  intro junk w hS
  have hk := K (lk fr junk) w (hS.pick hn hp)
  rw [← hf junk, ← mkA_pick] at hk
  exact hk
theorem TriQ.wk {idx pk : List Nat} (hf : ∀ junk, pickF fr junk idx = fr') (hn : nodupB pk = true) (hp : pickL hps pk = some hps') (K : TriQ β N Q e fr' hps') : TriQ β N Q e fr hps := by
  intro junk w hS
  have hk := K (lk fr junk) w (hS.pick hn hp)
  rw [← hf junk, ← mkA_pick] at hk
  exact hk
theorem Tri.wk {idx pk : List Nat} (hf : ∀ junk, pickF fr junk idx = fr') (hn : nodupB pk = true) (hp : pickL hps pk = some hps') (K : Tri P β N c fr' hps' Q) : Tri P β N c fr hps Q := by
  intro junk w hS
  have hk := K (lk fr junk) w (hS.pick hn hp)
  rw [← hf junk, ← mkA_pick] at hk
  exact hk
/-- what memory tells -/
theorem TriL.tell {p : Prop} (h : ∀ w, Sat β hps w → p) (K : p → TriL P β N ops k fr hps Q) : TriL P β N ops k fr hps Q := fun junk w hS => K (h w hS) junk w hS
theorem Tri.tell {p : Prop} (h : ∀ w, Sat β hps w → p) (K : p → Tri P β N c fr hps Q) : Tri P β N c fr hps Q := fun junk w hS => K (h w hS) junk w hS
theorem TriQ.tell {p : Prop} (h : ∀ w, Sat β hps w → p) (K : p → TriQ β N Q e fr hps) : TriQ β N Q e fr hps := fun junk w hS => K (h w hS) junk w hS
/-- memory told otherwise -/
theorem TriL.mem (h : ∀ w, Sat β hps w → Sat β hps' w) (K : TriL P β N ops k fr hps' Q) : TriL P β N ops k fr hps Q := fun junk w hS => K junk w (h w hS)
theorem Tri.mem (h : ∀ w, Sat β hps w → Sat β hps' w) (K : Tri P β N c fr hps' Q) : Tri P β N c fr hps Q := fun junk w hS => K junk w (h w hS)
theorem TriQ.mem (h : ∀ w, Sat β hps w → Sat β hps' w) (K : TriQ β N Q e fr hps') : TriQ β N Q e fr hps := fun junk w hS => K junk w (h w hS)
theorem TriL.memE {ι : Type} {hp : ι → List HP} (h : ∀ w, Sat β hps w → ∃ i, Sat β (hp i) w) (K : ∀ i, TriL P β N ops k fr (hp i) Q) : TriL P β N ops k fr hps Q := fun junk w hS => let ⟨i, hi⟩ := h w hS; K i junk w hi
theorem Tri.memE {ι : Type} {hp : ι → List HP} (h : ∀ w, Sat β hps w → ∃ i, Sat β (hp i) w) (K : ∀ i, Tri P β N c fr (hp i) Q) : Tri P β N c fr hps Q := fun junk w hS => let ⟨i, hi⟩ := h w hS; K i junk w hi

/-! ### code -/
theorem Tri.seq (h : Tri P β N x fr hps (Exit.then (y.wp P Q) Q)) : Tri P β N (.seq x y) fr hps Q := fun junk w hS => wp_seq (h junk w hS)
theorem TriQ.next (h : Tri P β N y fr hps Q) : TriQ β N (Exit.then (y.wp P Q) Q) .normal fr hps := fun junk w hS => h junk w hS
theorem TriQ.passExit {K : Act → World → Prop} {id : Nat} (h : TriQ β N Q (.exit id) fr hps) : TriQ β N (Exit.then K Q) (.exit id) fr hps := fun junk w hS => h junk w hS
theorem TriQ.passRet {K : Act → World → Prop} (h : TriQ β N Q .ret fr hps) : TriQ β N (Exit.then K Q) .ret fr hps := fun junk w hS => h junk w hS
theorem Tri.block {id : Nat} (h : Tri P β N c fr hps (Exit.inBlock id Q)) : Tri P β N (.block id c) fr hps Q := fun junk w hS => wp_block (h junk w hS)
theorem TriQ.blockNormal {id : Nat} (h : TriQ β N Q .normal fr hps) : TriQ β N (Exit.inBlock id Q) .normal fr hps := fun junk w hS => h junk w hS
theorem TriQ.blockRet {id : Nat} (h : TriQ β N Q .ret fr hps) : TriQ β N (Exit.inBlock id Q) .ret fr hps := fun junk w hS => h junk w hS
theorem TriQ.blockHit {id : Nat} (h : TriQ β N Q .normal fr hps) : TriQ β N (Exit.inBlock id Q) (.exit id) fr hps := fun junk w hS => by
  show (if id = id then Q .normal _ _ else _)
  rw [if_pos rfl]
  exact h junk w hS
theorem TriQ.blockMiss {id id' : Nat} (hne : id' ≠ id) (h : TriQ β N Q (.exit id') fr hps) : TriQ β N (Exit.inBlock id Q) (.exit id') fr hps := fun junk w hS => by
  show (if id' = id then Q .normal _ _ else Q (.exit id') _ _)
  rw [if_neg hne]
  exact h junk w hS
theorem Tri.skip (h : TriQ β N Q .normal fr hps) : Tri P β N .skip fr hps Q := fun junk w hS => wp_skip (h junk w hS)
theorem Tri.exit {id : Nat} (h : TriQ β N Q (.exit id) fr hps) : Tri P β N (.exit id) fr hps Q := fun junk w hS => wp_exit (h junk w hS)
theorem Tri.ret (h : TriQ β N Q .ret fr hps) : Tri P β N .ret fr hps Q := fun junk w hS => wp_ret (h junk w hS)
theorem Tri.cond {o : Operand} {b : Bool} (h : ∀ junk, evF N fr junk o = .bool b) (ht : b = true → Tri P β N x fr hps Q) (hf : b = false → Tri P β N y fr hps Q) : Tri P β N (.cond o x y) fr hps Q :=
  fun junk w hS => wp_cond_split (by rw [mkA_eval]; exact h junk) (fun e => ht e junk w hS) (fun e => hf e junk w hS)
theorem Tri.condT {o : Operand} (h : ∀ junk, evF N fr junk o = .bool true) (ht : Tri P β N x fr hps Q) : Tri P β N (.cond o x y) fr hps Q := Tri.cond h (fun _ => ht) (fun e => by cases e)
theorem Tri.condF {o : Operand} (h : ∀ junk, evF N fr junk o = .bool false) (hf : Tri P β N y fr hps Q) : Tri P β N (.cond o x y) fr hps Q := Tri.cond h (fun e => by cases e) (fun _ => hf)
theorem Tri.condP {o : Operand} {p : Prop} [Decidable p] (h : ∀ junk, evF N fr junk o = .bool (decide p)) (ht : p → Tri P β N x fr hps Q) (hf : ¬ p → Tri P β N y fr hps Q) : Tri P β N (.cond o x y) fr hps Q :=
  Tri.cond h (fun e => ht (of_decide_eq_true e)) (fun e => hf (of_decide_eq_false e))
theorem Tri.region {id : Nat} (h : TriL P β N ops 0 fr hps Q) : Tri P β N (.region id ops false) fr hps Q := fun junk w hS => wp_region_list (h junk w hS)
theorem Tri.regionQ {id : Nat} (hm : P.follows .mixedOrders = true) (hB : Region.lexB .any ops = true) (h : TriLQ P β N ops 0 fr hps Q) : Tri P β N (.region id ops true) fr hps Q :=
  fun junk _ hS => wp_region_quiet hm hB (hS.drewN 1) (h junk)
/-- a slot told otherwise -/
theorem Tri.slot {i : Nat} {v v' : Value} {r : Fr} (hv : v = v') (h : Tri P β N c ((i, v') :: r) hps Q) : Tri P β N c ((i, v) :: r) hps Q := hv ▸ h

/-- ways meet again -/
def Meet (β : Bs) (N : Nat) {ι : Type} (Inv : ι → Prop) (fr : ι → Fr) (hp : ι → List HP) : Act → World → Prop := fun a w => ∃ i, Inv i ∧ ∃ junk, a = mkA N (fr i) junk ∧ Sat β (hp i) w
theorem Tri.join {ι : Type} (Inv : ι → Prop) (fr' : ι → Fr) (hp' : ι → List HP) (hr : ∀ i, Inv i → Tri P β N y (fr' i) (hp' i) Q) (hf : Tri P β N x fr hps (Exit.then (Meet β N Inv fr' hp') Q)) : Tri P β N (.seq x y) fr hps Q :=
  fun junk w hS => wp_seq (Code.wp_mono (fun e a w q => by
    cases e with
    | normal =>
      obtain ⟨i, hi, junk, rfl, hS⟩ := q
      exact hr i hi junk w hS
    | exit id => exact q
    | goto l => exact q
    | ret => exact q
    | panic ch => exact q
    | outgrown => exact q) (hf junk w hS))
theorem TriQ.meet {ι : Type} {Inv : ι → Prop} {fr' : ι → Fr} {hp' : ι → List HP} (i : ι) {idx pk : List Nat} (hi : Inv i) (hf : ∀ junk, pickF fr junk idx = fr' i) (hn : nodupB pk = true) (hp : pickL hps pk = some (hp' i)) :
    TriQ β N (Exit.then (Meet β N Inv fr' hp') Q) .normal fr hps := fun junk w hS => ⟨i, hi, lk fr junk, by rw [mkA_pick N fr junk idx, hf junk], hS.pick hn hp⟩

/-- a loop: the rounds are told by 'i', of which 'μ' goes down -/
def Turn (β : Bs) (N : Nat) {ι : Type} (Inv : ι → Prop) (μ : ι → Nat) (fr : ι → Fr) (hp : ι → List HP) (m : Nat) : Act → World → Prop := fun a w => ∃ i, Inv i ∧ μ i < m ∧ ∃ junk, a = mkA N (fr i) junk ∧ Sat β (hp i) w
theorem Tri.loop {ι : Type} (Inv : ι → Prop) (μ : ι → Nat) (fr' : ι → Fr) (hp' : ι → List HP) (i0 : ι) {idx pk : List Nat} (h0 : Inv i0) (hf : ∀ junk, pickF fr junk idx = fr' i0) (hn : nodupB pk = true) (hp : pickL hps pk = some (hp' i0))
    (round : ∀ i, Inv i → Tri P β N c (fr' i) (hp' i) (Exit.then (Turn β N Inv μ fr' hp' (μ i)) Q)) : Tri P β N (.loop c) fr hps Q := by
  intro junk w hS
  refine wp_loop_ghost (fun n a w => ∃ i, Inv i ∧ μ i = n ∧ ∃ junk, a = mkA N (fr' i) junk ∧ Sat β (hp' i) w) (μ i0) ⟨i0, h0, rfl, lk fr junk, by rw [mkA_pick N fr junk idx, hf junk], hS.pick hn hp⟩ ?_
  rintro n a w ⟨i, hi, rfl, junk, rfl, hS⟩
  refine Code.wp_mono (fun e a w q => ?_) (round i hi junk w hS)
  cases e with
  | normal =>
    obtain ⟨i', hi', hlt, junk', e, hS'⟩ := q
    exact ⟨μ i', hlt, i', hi', rfl, junk', e, hS'⟩
  | exit id => exact q
  | goto l => exact q
  | ret => exact q
  | panic ch => exact q
  | outgrown => exact q
theorem TriQ.turn {ι : Type} {Inv : ι → Prop} {μ : ι → Nat} {fr' : ι → Fr} {hp' : ι → List HP} {m : Nat} (i : ι) {idx pk : List Nat} (hi : Inv i) (hm : μ i < m) (hf : ∀ junk, pickF fr junk idx = fr' i) (hn : nodupB pk = true) (hp : pickL hps pk = some (hp' i)) :
    TriQ β N (Exit.then (Turn β N Inv μ fr' hp' m) Q) .normal fr hps := fun junk w hS => ⟨i, hi, hm, lk fr junk, by rw [mkA_pick N fr junk idx, hf junk], hS.pick hn hp⟩
end rules

/-! ### contracts -/
/-- parts taken together -/
def bund (R : List HP) : Asn where
  h F w := ∃ φ : Nat → Fp, (∀ (i : Nat) (p : HP), R[i]? = some p → p.h (φ i) w) ∧ (∀ i j, i < R.length → j < R.length → i ≠ j → Apart (φ i) (φ j)) ∧ ∀ k, F k ↔ ∃ i, i < R.length ∧ φ i k
  lt := by
    rintro F w ⟨φ, h1, h2, h3⟩ k hk
    obtain ⟨i, hi, hk⟩ := (h3 k).1 hk
    obtain ⟨p, hp⟩ := some_of_len hi
    exact HP.lt (h1 i p hp) k hk
  st := by
    rintro F w ⟨φ, h1, h2, h3⟩ S w' hk hn
    exact ⟨φ, fun i p hp => HP.st (h1 i p hp) hk (fun k h => hn k ((h3 k).2 ⟨i, len_of_some hp, h⟩)), h2, h3⟩
section contracts
variable {P : Program} {β : Bs} {l R : List HP} {w : World}
theorem Sat.bund (h : Sat β (l ++ R) w) : Sat β (l ++ [.abs (bund R)]) w := by
  obtain ⟨ho, φ, h1, h2, h3⟩ := h
  have hl : (l ++ R).length = l.length + R.length := List.length_append
  refine ⟨ho, fun i => if i < l.length then φ i else fun k => ∃ j, j < R.length ∧ φ (l.length + j) k, fun i p hp => ?_, fun i hi k hk hO => ?_, fun i j hi hj hne k hk hk' => ?_⟩
  · by_cases e : i < l.length
    · rw [List.getElem?_append_left e] at hp
      simp only [e, if_true]
      exact h1 i p (by rw [List.getElem?_append_left e]; exact hp)
    · have hi : i = l.length := by have := len_of_some hp; simp at this; omega
      subst hi
      simp at hp
      subst hp
      simp only [Nat.lt_irrefl, if_false]
      refine ⟨fun j => φ (l.length + j), fun j p hp => h1 _ p (by rw [List.getElem?_append_right (by omega)]; simpa using hp), fun i j hi hj hne => h3 _ _ (by omega) (by omega) (by omega), fun k => Iff.rfl⟩
  · by_cases e : i < l.length
    · simp only [e, if_true] at hk
      exact h2 i (by omega) k hk hO
    · simp only [e, if_false] at hk
      obtain ⟨j, hj, hk⟩ := hk
      exact h2 _ (by omega) k hk hO
  · simp at hi hj
    by_cases e1 : i < l.length
    · simp only [e1, if_true] at hk
      by_cases e2 : j < l.length
      · simp only [e2, if_true] at hk'
        exact h3 i j (by omega) (by omega) hne k hk hk'
      · simp only [e2, if_false] at hk'
        obtain ⟨t, ht, hk'⟩ := hk'
        exact h3 i (l.length + t) (by omega) (by omega) (by omega) k hk hk'
    · simp only [e1, if_false] at hk
      obtain ⟨t, ht, hk⟩ := hk
      by_cases e2 : j < l.length
      · simp only [e2, if_true] at hk'
        exact h3 j (l.length + t) (by omega) (by omega) (by omega) k hk' hk
      · omega
theorem Sat.unbund (h : Sat β (l ++ [.abs (Go.Proofs.Ytjpdcppdoonmdaa.bund R)]) w) : Sat β (l ++ R) w := by
  obtain ⟨ho, φ, h1, h2, h3⟩ := h
  have hl : (l ++ R).length = l.length + R.length := List.length_append
  have hl' : (l ++ [HP.abs (Go.Proofs.Ytjpdcppdoonmdaa.bund R)]).length = l.length + 1 := by simp
  obtain ⟨ψ, q1, q2, q3⟩ := h1 l.length (.abs (Go.Proofs.Ytjpdcppdoonmdaa.bund R)) (by simp)
  have hsub : ∀ i, l.length ≤ i → i < l.length + R.length → ∀ k, ψ (i - l.length) k → φ l.length k := fun i h1 h2 k hk => (q3 k).2 ⟨i - l.length, by omega, hk⟩
  refine ⟨ho, fun i => if i < l.length then φ i else ψ (i - l.length), fun i p hp => ?_, fun i hi k hk hO => ?_, fun i j hi hj hne k hk hk' => ?_⟩
  · by_cases e : i < l.length
    · rw [List.getElem?_append_left e] at hp
      simp only [e, if_true]
      exact h1 i p (by rw [List.getElem?_append_left e]; exact hp)
    · rw [List.getElem?_append_right (by omega)] at hp
      simp only [e, if_false]
      exact q1 _ p hp
  · by_cases e : i < l.length
    · simp only [e, if_true] at hk
      exact h2 i (by omega) k hk hO
    · simp only [e, if_false] at hk
      exact h2 l.length (by omega) k (hsub i (by omega) (by omega) k hk) hO
  · by_cases e1 : i < l.length
    · simp only [e1, if_true] at hk
      by_cases e2 : j < l.length
      · simp only [e2, if_true] at hk'
        exact h3 i j (by omega) (by omega) hne k hk hk'
      · simp only [e2, if_false] at hk'
        exact h3 i l.length (by omega) (by omega) (by omega) k hk (hsub j (by omega) (by omega) k hk')
    · simp only [e1, if_false] at hk
      by_cases e2 : j < l.length
      · simp only [e2, if_true] at hk'
        exact h3 j l.length (by omega) (by omega) (by omega) k hk' (hsub i (by omega) (by omega) k hk)
      · simp only [e2, if_false] at hk'
        exact q2 (i - l.length) (j - l.length) (by omega) (by omega) (by omega) k hk hk'

/-- what a call asks of memory and leaves; all else stays -/
def Spec (P : Program) (β : Bs) (f : FuncId) (args : Array Value) (pre : List HP) (post : Value → List HP → Prop) : Prop :=
  ∀ (R : Asn) w, Sat β (pre ++ [.abs R]) w → Calls P f args w fun e w' => ∃ v l, e = .returned v ∧ post v l ∧ Sat β (l ++ [.abs R]) w'
theorem Spec.use {f : FuncId} {args : Array Value} {pre : List HP} {post : Value → List HP → Prop} (h : Spec P β f args pre post) (hS : Sat β (pre ++ R) w) :
    Calls P f args w fun e w' => ∃ v l, e = .returned v ∧ post v l ∧ Sat β (l ++ R) w' :=
  (h _ w hS.bund).mono fun _ _ ⟨v, l, h1, h2, h3⟩ => ⟨v, l, h1, h2, h3.unbund⟩
theorem Spec.mono {f : FuncId} {args : Array Value} {pre : List HP} {post post' : Value → List HP → Prop} (h : Spec P β f args pre post) (hp : ∀ v l, post v l → post' v l) : Spec P β f args pre post' :=
  fun R w hS => (h R w hS).mono fun _ _ ⟨v, l, h1, h2, h3⟩ => ⟨v, l, h1, hp v l h2, h3⟩
end contracts
end Go.Proofs.Ytjpdcppdoonmdaa
