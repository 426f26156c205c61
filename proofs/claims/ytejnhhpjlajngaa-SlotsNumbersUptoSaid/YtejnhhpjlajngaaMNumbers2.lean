/-
  PROVED HERE: lemmas and contracts of functions (texts of this repo, joined): Vz, Fam, Ld, Tq, TKs, TabQ, Row, G, Or, Sm, Sc, Rt.
  CONDITIONS: as the theorems say.
-/
import Derived.Test.YtejnhhpjlajngaaMNumbers1
import Derived.OrdersHeld
import Derived.Test.YtejnhhpjlajngaaRows
import Derived.ProofKit
import Derived.OpenShut
import Derived.Carry
import Derived.Deep.Slices
/- part Vz. PROVED HERE: the logic's rule for a region that draws its order and both reads and changes memory: what it reads stays as it is while it changes, and its changes stand in one order. CONDITIONS: none. No statement of the seat is proved here. -/
section
namespace Go.Proofs.Ytejnhhpjlajngaa
open Go.RowKit
/-- a post that is met at the normal end alone -/
def NP (Q : Post) : Post := fun e a w => match e with
  | .normal => Q .normal a w
  | _ => False
section order
variable {P : Program} {ops : Array Oper} {Q Q' : Post} {n : Nat} {S : World → Prop}
theorem letsOut_np (h : LetsOut (NP Q)) : False := by
  obtain ⟨a, w, h⟩ := h
  exact h
theorem wp_np {o : Oper} {a : Act} {w : World} {K : Act → World → Prop} (h : o.wp P a w K (NP Q)) : o.wp P a w K (NP Q') := by
  unfold Oper.wp at *
  generalize (execOp a.eval o).run P w = r at *
  cases r with
  | ok m w' =>
    cases m <;> simp only [Oper.upon] at h ⊢ <;>
      first
        | exact h
        | exact Calls.mono h (fun e w'' he => by cases e <;> first | exact he | exact (letsOut_np he).elim)
  | halt x w' => cases x <;> simp only [Oper.upon] at h ⊢; exact h
theorem wpOp_of_list {i : Nat} {o : Oper} {a : Act} {w : World} {K : Act → World → Prop} (hi : ops[i]? = some o) (hg : o.guard = none) (h : wpList P #[o] (NP fun _ a w => K a w) [o] a w) : wpOp P ops (NP Q) i K a w := by
  unfold wpOp
  simp only [hi]
  have hw : ∀ y, Region.wanted o y = true := fun y => by unfold Region.wanted; rw [hg]
  rw [if_pos (hw _)]
  unfold wpList at h
  rw [if_pos (hw _)] at h
  rcases h with h | ⟨_, h⟩
  · exact .inl (wp_np (Oper.wp_mono (fun a w h => h) h))
  · exact (letsOut_np h).elim
theorem wpList_np {o : Oper} {a : Act} {w : World} (hq : ∀ a w, Q .normal a w → Q' .normal a w) (h : wpList P ops (NP Q) [o] a w) : wpList P ops (NP Q') [o] a w := by
  unfold wpList at *
  split
  · rename_i hw
    rw [if_pos hw] at h
    rcases h with h | ⟨_, h⟩
    · exact .inl (wp_np (Oper.wp_mono (fun a w h => hq a w h) h))
    · exact (letsOut_np h).elim
  · rename_i hw
    rw [if_neg hw] at h
    exact hq _ _ h
/-- whatever order is picked: S holds behind every operation but n, the last one -/
def wpAnyE (P : Program) (ops : Array Oper) (Q : Post) (n : Nat) (S : World → Prop) : Nat → Array Bool → Act → World → Prop
  | 0, listed, a, w => Region.ready .any ops listed = [] ∧ Q .normal a w
  | fuel + 1, listed, a, w => (Region.ready .any ops listed = [] → Q .normal a w) ∧
    ∀ i ∈ Region.ready .any ops listed, wpOp P ops Q i (fun a' w' => (i = n ∨ S w') ∧ wpAnyE P ops Q n S fuel (listed.setIfInBounds i true) a' w') a w
theorem wpAny_of_E : ∀ (fuel : Nat) (listed : Array Bool) (a : Act) (w : World), wpAnyE P ops Q n S fuel listed a w → wpAny P .any ops Q fuel listed a w
  | 0, _, _, _, h => h
  | fuel + 1, _, _, _, h => ⟨h.1, fun i hi => wpOp_mono (fun a' w' h' => wpAny_of_E fuel _ a' w' h'.2) (h.2 i hi)⟩
/-- what has come up has all that it waits for before it -/
def Closed (ops : Array Oper) (listed : Array Bool) : Prop := ∀ j oj, ops[j]? = some oj → listed.getD j false = true → ∀ e ∈ oj.after, Region.binds .any e = true → listed.getD e.on false = true
theorem Closed.set {listed : Array Bool} {j : Nat} (h : Closed ops listed) (hj : j ∈ Region.ready .any ops listed) : Closed ops (listed.setIfInBounds j true) := by
  obtain ⟨_, oj, hoj, hall⟩ := mem_ready.1 hj
  intro k ok hk hl e he hb
  refine getD_set_true ?_
  by_cases hjk : j = k
  · subst hjk
    rw [hoj] at hk
    cases hk
    exact hall e he hb
  · rw [getD_set_ne false hjk] at hl
    exact h k ok hk hl e he hb
theorem sink_wait (hs : Region.sinkB .any ops n = true) {listed : Array Bool} (hc : Closed ops listed) : ∀ (m i : Nat), n - i ≤ m → i < n → listed.getD i false = false → n ∉ Region.ready .any ops listed
  | 0, i, hm, hi, _ => by omega
  | m + 1, i, hm, hi, hu => fun hr => by
    unfold Region.sinkB at hs
    rw [List.all_eq_true] at hs
    have h1 := hs i (List.mem_range.2 hi)
    rw [List.any_eq_true] at h1
    obtain ⟨j, hj, h2⟩ := h1
    rw [Bool.and_eq_true, decide_eq_true_iff] at h2
    have hj := List.mem_range.1 hj
    obtain ⟨oj, hoj, e, he, hb, heq⟩ := Region.waitsFor_spec h2.2
    by_cases hjn : j = n
    · subst hjn
      obtain ⟨_, oj', hoj', hall⟩ := mem_ready.1 hr
      rw [hoj] at hoj'
      cases hoj'
      have := hall e he hb
      rw [heq, hu] at this
      cases this
    · cases hl : listed.getD j false with
      | true =>
        have := hc j oj hoj hl e he hb
        rw [heq, hu] at this
        cases this
      | false => exact sink_wait (by unfold Region.sinkB; rw [List.all_eq_true]; exact hs) hc m j (by omega) (by omega) hl hr
theorem unlisted_of_ready {listed : Array Bool} {i : Nat} (h : i ∈ Region.ready .any ops listed) : listed.getD i false = false := by
  have h1 := (mem_ready.1 h).1
  rcases Nat.lt_or_ge i listed.size with h' | h'
  · simp [h'] at h1 ⊢; exact h1
  · simp [Array.getElem?_eq_none h'] at h1
/-- a reading that may come up now may be taken first -/
theorem wpAnyE_first {i : Nat} {oi : Oper} {v : Value} (hi : ops[i]? = some oi) (hsel : Region.noSelect ops = true) (hsink : Region.sinkB .any ops n = true) (hin : i < n) :
    ∀ (fuel : Nat) (listed : Array Bool) (a : Act) (w : World), Closed ops listed →
      (∀ j oj, ops[j]? = some oj → j ≠ i → listed.getD j true = false → (∀ e ∈ oj.after, Region.binds .any e = true → e.on ≠ i) → oi.apart ops oj = true) →
      i ∈ Region.ready .any ops listed → YieldsIf P ops S oi v a → S w →
      wpAnyE P ops (NP Q) n S fuel (listed.setIfInBounds i true) (a.put oi.dst v) w → wpAnyE P ops (NP Q) n S (fuel + 1) listed a w := by
  intro fuel
  induction fuel with
  | zero =>
    intro listed a w _ _ hr hy hS H
    refine ⟨fun h => (by rw [h] at hr; cases hr), fun j hj => ?_⟩
    by_cases hji : j = i
    · subst hji; exact hy.wpOp hi hS ⟨.inr hS, H⟩
    · have := ready_mono hj hji
      rw [H.1] at this
      cases this
  | succ fuel ih =>
    intro listed a w hcl hfree hr hy hS H
    refine ⟨fun h => (by rw [h] at hr; cases hr), fun j hj => ?_⟩
    by_cases hji : j = i
    · subst hji; exact hy.wpOp hi hS ⟨.inr hS, H⟩
    · have h1 := H.2 j (ready_mono hj hji)
      have hjn : j ≠ n := fun e => by
        subst e
        exact sink_wait hsink hcl _ i (Nat.le_refl _) hin (unlisted_of_ready hr) hj
      obtain ⟨hjun, oj, hoj, hall⟩ := mem_ready.1 hj
      have hnot : ∀ e ∈ oj.after, Region.binds .any e = true → e.on ≠ i := fun e he hb heq => by
        have h2 := hall e he hb
        rw [heq, unlisted_of_ready hr] at h2
        cases h2
      have h2 := wpOp_putIf (S := S) (Q := NP Q) hoj (hfree j oj hoj hji hjun hnot) (fun cs b => Region.noSelect_spec hsel i oi cs b hi) (fun cs b => Region.noSelect_spec hsel j oj cs b hoj) (fun _ _ _ h => h) hy h1
      have hfree' : ∀ k ok, ops[k]? = some ok → k ≠ i → (listed.setIfInBounds j true).getD k true = false →
          (∀ e ∈ ok.after, Region.binds .any e = true → e.on ≠ i) → oi.apart ops ok = true := fun k ok hk hki hun hno => by
        refine hfree k ok hk hki ?_ hno
        by_cases hjk : j = k
        · subst hjk; exact hjun
        · rw [getD_set_ne true hjk] at hun; exact hun
      refine wpOp_mono (fun a' w' h3 => ?_) h2
      have hS' : S w' := h3.2.1.resolve_left hjn
      refine ⟨.inr hS', ih (listed.setIfInBounds j true) a' w' (hcl.set hj) hfree' (ready_mono hr (Ne.symm hji)) h3.1 hS' ?_⟩
      rw [Array.setIfInBounds_comm _ _ hji]
      exact h3.2.2
/-- some readings, then the changes in their order -/
def wpMix (P : Program) (ops : Array Oper) (Q : Post) (S : World → Prop) : Nat → List Nat → Act → World → Prop
  | _, [], a, w => Q .normal a w
  | 0, i :: l, a, w => wpOp P ops Q i (fun a' w' => (l = [] ∨ S w') ∧ wpMix P ops Q S 0 l a' w') a w
  | r + 1, i :: l, a, w => ∃ o v, ops[i]? = some o ∧ YieldsIf P ops S o v a ∧ wpMix P ops Q S r l (a.put o.dst v) w
def mixB (ops : Array Oper) (n : Nat) : Nat → List Nat → Array Bool → Bool
  | _, [], listed => (Region.ready .any ops listed).isEmpty
  | 0, i :: l, listed => (Region.ready .any ops listed == [i]) && (!l.isEmpty || i == n) && mixB ops n 0 l (listed.setIfInBounds i true)
  | r + 1, i :: l, listed => decide (i < n) && Region.free .any ops listed i && (Region.ready .any ops listed).contains i && mixB ops n r l (listed.setIfInBounds i true)
theorem wpMix_eff (hsel : Region.noSelect ops = true) : ∀ (l : List Nat) (listed : Array Bool) (a : Act) (w : World), mixB ops n 0 l listed = true → wpMix P ops (NP Q) S 0 l a w → wpAnyE P ops (NP Q) n S l.length listed a w
  | [], listed, a, w, hb, h => ⟨List.isEmpty_iff.1 hb, h⟩
  | i :: l, listed, a, w, hb, h => by
    unfold mixB at hb
    simp only [Bool.and_eq_true, beq_iff_eq] at hb
    obtain ⟨⟨h1, h2⟩, h3⟩ := hb
    refine ⟨fun h0 => (by rw [h1] at h0; cases h0), fun j hj => ?_⟩
    rw [h1] at hj
    have hj : j = i := by simpa using hj
    subst hj
    refine wpOp_mono (fun a' w' h4 => ⟨?_, wpMix_eff hsel l _ a' w' h3 h4.2⟩) h
    rcases h4.1 with h5 | h5
    · subst h5; exact .inl (by simpa using h2)
    · exact .inr h5
theorem wpMix_E (hsel : Region.noSelect ops = true) (hsink : Region.sinkB .any ops n = true) : ∀ (r : Nat) (l : List Nat) (listed : Array Bool) (a : Act) (w : World), mixB ops n r l listed = true → Closed ops listed → S w → wpMix P ops (NP Q) S r l a w → wpAnyE P ops (NP Q) n S l.length listed a w
  | 0, l, listed, a, w, hb, _, _, h => wpMix_eff hsel l listed a w hb h
  | r + 1, [], listed, a, w, hb, _, _, h => ⟨List.isEmpty_iff.1 hb, h⟩
  | r + 1, i :: l, listed, a, w, hb, hc, hS, h => by
    unfold mixB at hb
    simp only [Bool.and_eq_true, decide_eq_true_iff] at hb
    obtain ⟨⟨⟨h1, h2⟩, h3⟩, h4⟩ := hb
    obtain ⟨o, v, ho, hy, hk⟩ := h
    have hr : i ∈ Region.ready .any ops listed := by simpa using h3
    exact wpAnyE_first ho hsel hsink h1 l.length listed a w hc (Region.free_spec ho h2) hr hy hS (wpMix_E hsel hsink r l _ _ w h4 (hc.set hr) hS hk)
def mixTop (ops : Array Oper) (perm : List Nat) (nr : Nat) : Bool :=
  Region.noSelect ops && Region.sinkB .any ops (ops.size - 1) && (perm.length == ops.size) && mixB ops (ops.size - 1) nr perm (Array.replicate ops.size false)
end order
section mix
variable {P : Program} {β : Bs} {N : Nat} {ops : Array Oper} {S : List HP} {r r' : Nat} {l l' : List Nat} {fr fr' : Fr} {hps : List HP} {Q : Post} {obl : List Prop} {d : Option Tmp} {op : Op} {v : Value} {i : Nat} {pk : List Nat}
def TriM (P : Program) (β : Bs) (N : Nat) (ops : Array Oper) (S : List HP) (r : Nat) (l : List Nat) (fr : Fr) (hps : List HP) (Q : Post) : Prop :=
  ∀ junk w, Sat β hps w → wpMix P ops (NP Q) (Sat β S) r l (mkA N fr junk) w
theorem Tri.regionMix {id : Nat} (perm : List Nat) (nr : Nat) (pk : List Nat) (hm : P.follows .mixedOrders = true) (hB : mixTop ops perm nr = true) (hn : nodupB pk = true) (hp : pickL hps pk = some S) (h : TriM P β N ops S nr perm fr hps Q) : Tri P β N (.region id ops true) fr hps Q := by
  intro junk w hS
  unfold mixTop at hB
  simp only [Bool.and_eq_true, beq_iff_eq] at hB
  obtain ⟨⟨⟨h1, h2⟩, h3⟩, h4⟩ := hB
  have hS' := hS.drewN 1
  have h5 := wpMix_E (Q := Q) h1 h2 nr perm _ _ _ h4 (fun j oj _ hl => by simp [Array.getD_eq_getD_getElem?, Array.getElem?_replicate] at hl; split at hl <;> simp at hl) (hS'.pick hn hp) (h junk (w.drewN 1) hS')
  rw [h3] at h5
  refine Code.wp_mono (fun e a w q => ?_) (wp_region_any hm (wpAny_of_E _ _ _ _ h5))
  cases e with
  | normal => exact q
  | exit id => exact q.elim
  | goto l => exact q.elim
  | ret => exact q.elim
  | panic ch => exact q.elim
  | outgrown => exact q.elim
def plainV : Value → Bool
  | .tuple a => decide (a.size ≠ 0)
  | _ => true
theorem plainV_ne {v : Value} (h : plainV v = true) : ¬ v = undef := fun e => by subst e; exact absurd h (by decide)
/-- readings, by the kernel -/
def orunsI (P : Program) (β : Bs) (N : Nat) (junk : Nat → Value) (ops : Array Oper) : List OH → List Nat → Fr → SS → Option (Fr × SS)
  | [], [], fr, S => some (fr, S)
  | h :: hs, i :: is, fr, S =>
    match ops[i]? with
    | some o =>
      match o.guard with
      | none =>
        match orun P β 0 true (evF N fr junk) o h S with
        | some (v, S') =>
          match plainV v with
          | true => orunsI P β N junk ops hs is (putF fr o.dst v) S'
          | false => none
        | none => none
      | some _ => none
    | none => none
  | _, _, _, _ => none
def readrun (P : Program) (β : Bs) (N : Nat) (junk : Nat → Value) (ops : Array Oper) (hs : List OH) (is : List Nat) (fr : Fr) (S : List HP) (idx : List Nat) : Option (Fr × List Prop) :=
  match orunsI P β N junk ops hs is fr ⟨[], S, [], true⟩ with
  | some (fr', S') => some (pickF fr' junk idx, S'.obl)
  | none => none
theorem orunsI_obl {junk : Nat → Value} : ∀ {hs : List OH} {is : List Nat} {fr fr' : Fr} {S S' : SS}, orunsI P β N junk ops hs is fr S = some (fr', S') → ∀ p, p ∈ S.obl → p ∈ S'.obl
  | [], [], fr, fr', S, S', h, p, hp => by cases h; exact hp
  | h :: hs, i :: is, fr, fr', S, S', hr, p, hp => by
    unfold orunsI at hr
    repeat' split at hr
    all_goals first | (cases hr; done) | skip
    rename_i h0 _ _
    exact orunsI_obl hr p (orun_obl h0 p hp)
  | [], _ :: _, _, _, _, _, h, _, _ => by cases h
  | _ :: _, [], _, _, _, _, h, _, _ => by cases h
theorem orunsI_sound {junk : Nat → Value} {w : World} : ∀ {hs : List OH} {is : List Nat} {fr fr' : Fr} {T T' : SS}, orunsI P β N junk ops hs is fr T = some (fr', T') → (∀ p, p ∈ T'.obl → p) → T.used = true → T.hps = S →
    wpMix P ops (NP Q) (Sat β S) r l (mkA N fr' junk) w → wpMix P ops (NP Q) (Sat β S) (is.length + r) (is ++ l) (mkA N fr junk) w
  | [], [], fr, fr', T, T', h, ho, hu, hT, hK => by cases h; simpa using hK
  | h :: hs, i :: is, fr, fr', T, T', hr, ho, hu, hT, hK => by
    unfold orunsI at hr
    repeat' split at hr
    all_goals first | (cases hr; done) | skip
    rename_i o hget _ hguard _ v T1 h0 _ hv
    obtain ⟨e1, e2⟩ := orun_ro h0
    have e : (i :: is).length + r = (is.length + r) + 1 := by simp; omega
    rw [e, List.cons_append]
    unfold wpMix
    refine ⟨o, v, hget, .inl ⟨by unfold Region.wanted; rw [hguard], fun w' hS' => ?_⟩, ?_⟩
    · rw [mkA_eval]
      obtain ⟨w2, h1, _, _, h4⟩ := orun_sound h0 (fun p hp => ho p (orunsI_obl hr p hp)) (by rw [hT]; exact hS') (fun e => by rw [hu] at e; cases e)
      obtain ⟨ew, _⟩ := h4 rfl
      rw [ew] at h1
      rcases h1 with h1 | ⟨h1, _⟩
      · exact h1
      · exact absurd h1 (plainV_ne hv)
    · rw [mkA_put]
      exact orunsI_sound hr ho (e2.trans hu) (e1.trans hT) hK
  | [], _ :: _, _, _, _, _, h, _, _, _, _ => by cases h
  | _ :: _, [], _, _, _, _, h, _, _, _, _ => by cases h
theorem TriM.reads (is : List Nat) (hs : List OH) (idx : List Nat) (h : ∀ junk, readrun P β N junk ops hs is fr S idx = some (fr', obl)) (ho : AllP obl) (hr : r' = is.length + r) (hl : l' = is ++ l) (K : TriM P β N ops S r l fr' hps Q) : TriM P β N ops S r' l' fr hps Q := by
  intro junk w hS
  subst hr hl
  have h0 := h junk
  unfold readrun at h0
  split at h0
  · rename_i fr1 S1 h1
    cases h0
    have hK := K (lk fr1 junk) w hS
    rw [← mkA_pick] at hK
    exact orunsI_sound h1 (fun p hp => ho.mem hp) rfl rfl hK
  · cases h0
def opI (ops : Array Oper) (i : Nat) : Option (Op × Option Tmp) := match ops[i]? with
  | some o => match o.guard with
    | none => some (o.op, o.dst)
    | some _ => none
  | none => none
theorem opI_spec (h : opI ops i = some (op, d)) : ∃ o, ops[i]? = some o ∧ o.guard = none ∧ o.op = op ∧ o.dst = d := by
  unfold opI at h
  repeat' split at h
  all_goals first | (cases h; done) | skip
  rename_i o h1 _ h2
  cases h
  exact ⟨o, h1, h2, rfl, rfl⟩
theorem TriM.read1 (hop : opI ops i = some (op, d)) (h : ∀ (o : Oper) junk w, o.op = op → Sat β S w → Ran P (evF N fr junk) o w v w) (hv : plainV v = true) (K : TriM P β N ops S r l (putF fr d v) hps Q) : TriM P β N ops S (r + 1) (i :: l) fr hps Q := by
  intro junk w hS
  obtain ⟨o, h1, h2, h3, rfl⟩ := opI_spec hop
  unfold wpMix
  refine ⟨o, v, h1, .inl ⟨by unfold Region.wanted; rw [h2], fun w' hS' => ?_⟩, ?_⟩
  · rw [mkA_eval]
    rcases h o junk w' h3 hS' with h4 | ⟨h4, _⟩
    · exact h4
    · exact absurd h4 (plainV_ne hv)
  · rw [mkA_put]
    exact K junk w hS
/-- an operation that changes memory: told by a family of frames and parts -/
def Mid (β : Bs) (N : Nat) {ι : Type} (fr : ι → Fr) (hp : ι → List HP) : Post := fun _ a w => ∃ i junk, a = mkA N (fr i) junk ∧ Sat β (hp i) w
theorem TriM.cut {ι : Type} {fr' : ι → Fr} {hp' : ι → List HP} {o : Oper} (pk : List Nat) (hop : ops[i]? = some o) (hg : o.guard = none) (h : TriL P β N #[o] 0 fr hps (NP (Mid β N fr' hp'))) (hn : nodupB pk = true) (hp : ∀ j, pickL (hp' j) pk = some S)
    (K : ∀ j, TriM P β N ops S 0 l (fr' j) (hp' j) Q) : TriM P β N ops S 0 (i :: l) fr hps Q := by
  intro junk w hS
  unfold wpMix
  refine wpOp_of_list hop hg ?_
  have h1 := h junk w hS
  have h2 : wpList P #[o] (NP (Mid β N fr' hp')) [o] (mkA N fr junk) w := h1
  refine wpList_np (fun a w ⟨j, junk', ha, hS'⟩ => ?_) h2
  subst ha
  exact ⟨.inr (hS'.pick hn (hp j)), K j junk' w hS'⟩
theorem TriM.last {o : Oper} (hop : ops[i]? = some o) (hg : o.guard = none) (h : TriL P β N #[o] 0 fr hps (NP Q)) : TriM P β N ops S 0 [i] fr hps Q := by
  intro junk w hS
  unfold wpMix
  refine wpOp_of_list hop hg ?_
  have h2 : wpList P #[o] (NP Q) [o] (mkA N fr junk) w := h junk w hS
  exact wpList_np (fun a w hq => ⟨.inl rfl, by unfold wpMix; exact hq⟩) h2
theorem TriQ.mid {ι : Type} {fr' : ι → Fr} {hp' : ι → List HP} (j : ι) {idx pk : List Nat} (hf : ∀ junk, pickF fr junk idx = fr' j) (hn : nodupB pk = true) (hp : pickL hps pk = some (hp' j)) : TriQ β N (NP (Mid β N fr' hp')) .normal fr hps :=
  fun junk _ hS => ⟨j, lk fr junk, by rw [mkA_pick N fr junk idx, hf junk], hS.pick hn hp⟩
theorem TriQ.np (h : TriQ β N Q .normal fr hps) : TriQ β N (NP Q) .normal fr hps := fun junk w hS => h junk w hS
section maps
open Go.Maps
variable {t K E : TypeId} {b cnt : Nat} {f : Lit → Option Value} {x ix : Operand} {key z : Value} {kl : Lit} {q : Option Value}
theorem TriM.mapLookOk (p : Nat) (hop : opI ops i = some (.lookup t x ix true, d)) (hp : S[p]? = some (.abs (MapA P K b f cnt))) (hx : ∀ junk, evF N fr junk x = .map (some b)) (hix : ∀ junk, evF N fr junk ix = key) (L : Keyed P K)
    (ht : P.underlying t = some (.map K E)) (hz : ∀ w, (zeroValue E).run P w = .ok z w) (hkey : keyOf P K key = some kl) (hr : f kl = q) (K' : TriM P β N ops S r l (putF fr d (.tuple #[q.getD z, .bool q.isSome])) hps Q) : TriM P β N ops S (r + 1) (i :: l) fr hps Q := by
  subst hr
  exact TriM.read1 hop (fun _ junk w ho hS => ran_lookOk ho (MapA.get hS hp) (hx junk) (hix junk) L ht (hz w) hkey) rfl K'
theorem TriM.mapLook (p : Nat) (hop : opI ops i = some (.lookup t x ix false, d)) (hp : S[p]? = some (.abs (MapA P K b f cnt))) (hx : ∀ junk, evF N fr junk x = .map (some b)) (hix : ∀ junk, evF N fr junk ix = key) (L : Keyed P K)
    (ht : P.underlying t = some (.map K E)) (hz : ∀ w, (zeroValue E).run P w = .ok z w) (hkey : keyOf P K key = some kl) (hr : f kl = q) (hv : plainV (q.getD z) = true) (K' : TriM P β N ops S r l (putF fr d (q.getD z)) hps Q) : TriM P β N ops S (r + 1) (i :: l) fr hps Q := by
  subst hr
  exact TriM.read1 hop (fun _ junk w ho hS => ran_look ho (MapA.get hS hp) (hx junk) (hix junk) L ht (hz w) hkey) hv K'
end maps
end mix
end Go.Proofs.Ytejnhhpjlajngaa
end
/- part Fam. PROVED HERE: a family of parts that lie apart from one another, as one part: one is taken out, laid back, added. CONDITIONS: none. No statement of the seat is proved here. -/
section
namespace Go.Proofs.Ytejnhhpjlajngaa
open Go.RowKit
section sat
variable {β : Bs} {l : List HP} {w : World} {p p1 p2 : HP} {i : Nat}
theorem Sat.part2 (h : Sat β l w) (hp : l[i]? = some p) (hs : ∀ F, p.h F w → ∃ F1 F2, p1.h F1 w ∧ p2.h F2 w ∧ Apart F1 F2 ∧ ∀ k, F k ↔ F1 k ∨ F2 k) : Sat β (l.set i p1 ++ [p2]) w := by
  obtain ⟨ho, φ, h1, h2, h3⟩ := h
  obtain ⟨F1, F2, g1, g2, g3, g4⟩ := hs _ (h1 i p hp)
  have hi := len_of_some hp
  have hlen : (l.set i p1 ++ [p2]).length = l.length + 1 := by simp
  refine ⟨ho, fun j => if j = l.length then F2 else if j = i then F1 else φ j, fun j q hq => ?_, fun j hj k hk hO => ?_, fun a b ha hb hne k hk hk' => ?_⟩
  · by_cases e : j = l.length
    · subst e
      rw [List.getElem?_append_right (by simp)] at hq
      simp at hq
      subst hq
      simpa using g2
    · rw [List.getElem?_append_left (by have := len_of_some hq; rw [hlen] at this; simp; omega)] at hq
      simp only [e, if_false]
      by_cases e2 : j = i
      · subst e2
        rw [List.getElem?_set_self hi] at hq
        cases hq
        simpa using g1
      · rw [List.getElem?_set_ne (fun e' => e2 e'.symm)] at hq
        simp only [e2, if_false]
        exact h1 j q hq
  · rw [hlen] at hj
    have hF : ∀ k, F1 k ∨ F2 k → β.O k → False := fun k hk hO => h2 i hi k ((g4 k).2 hk) hO
    by_cases e : j = l.length
    · simp only [e, if_true] at hk; exact hF k (.inr hk) hO
    · simp only [e, if_false] at hk
      by_cases e2 : j = i
      · simp only [e2, if_true] at hk; exact hF k (.inl hk) hO
      · simp only [e2, if_false] at hk; exact h2 j (by omega) k hk hO
  · rw [hlen] at ha hb
    have key : ∀ j, j < l.length → j ≠ i → ∀ k, F1 k ∨ F2 k → φ j k → False := fun j hj hne k hk hk' => h3 j i hj hi hne k hk' ((g4 k).2 hk)
    by_cases ea : a = l.length
    · simp only [ea, if_true] at hk
      have eb : ¬ b = l.length := fun e => hne (ea.trans e.symm)
      simp only [eb, if_false] at hk'
      by_cases eb2 : b = i
      · simp only [eb2, if_true] at hk'; exact g3 k hk' hk
      · simp only [eb2, if_false] at hk'; exact key b (by omega) eb2 k (.inr hk) hk'
    · simp only [ea, if_false] at hk
      by_cases ea2 : a = i
      · simp only [ea2, if_true] at hk
        by_cases eb : b = l.length
        · simp only [eb, if_true] at hk'; exact g3 k hk hk'
        · simp only [eb, if_false] at hk'
          have eb2 : ¬ b = i := fun e => hne (ea2.trans e.symm)
          simp only [eb2, if_false] at hk'
          exact key b (by omega) eb2 k (.inl hk) hk'
      · simp only [ea2, if_false] at hk
        by_cases eb : b = l.length
        · simp only [eb, if_true] at hk'; exact key a (by omega) ea2 k (.inr hk') hk
        · simp only [eb, if_false] at hk'
          by_cases eb2 : b = i
          · simp only [eb2, if_true] at hk'; exact key a (by omega) ea2 k (.inl hk') hk
          · simp only [eb2, if_false] at hk'; exact h3 a b (by omega) (by omega) hne k hk hk'
/-- two parts become one -/
theorem Sat.join2 {j : Nat} {idx : List Nat} {l' : List HP} (h : Sat β l w) (hp : l[i]? = some p1) (hq : l[j]? = some p2) (hn : nodupB (i :: j :: idx) = true) (hl : pickL l idx = some l') (hs : ∀ F1 F2, p1.h F1 w → p2.h F2 w → Apart F1 F2 → ∃ F, p.h F w ∧ ∀ k, F k → F1 k ∨ F2 k) : Sat β (p :: l') w := by
  have h' := h.pick (idx := i :: j :: idx) (l' := p1 :: p2 :: l') hn (by simp only [pickL, hp, hq, hl])
  obtain ⟨ho, φ, h1, h2, h3⟩ := h'
  obtain ⟨F, hF, hk⟩ := hs _ _ (h1 0 p1 rfl) (h1 1 p2 rfl) (h3 0 1 (by simp) (by simp) (by decide))
  have hlen : (p1 :: p2 :: l').length = l'.length + 2 := rfl
  rw [hlen] at h2 h3
  refine ⟨ho, fun j => if j = 0 then F else φ (j + 1), fun j q hq => ?_, fun j hj k hkk hO => ?_, fun a b ha hb hne k hk1 hk2 => ?_⟩
  · cases j with
    | zero => simp at hq; subst hq; simpa using hF
    | succ j => simpa using h1 (j + 2) q (by simpa using hq)
  · simp only [List.length_cons] at hj
    cases j with
    | zero =>
      simp only [if_true] at hkk
      rcases hk k hkk with e | e
      · exact h2 0 (by omega) k e hO
      · exact h2 1 (by omega) k e hO
    | succ j => exact h2 (j + 2) (by omega) k (by simpa using hkk) hO
  · simp only [List.length_cons] at ha hb
    have key : ∀ j, j < l'.length → F k → φ (j + 2) k → False := fun j hj e1 e2 => by
      rcases hk k e1 with e | e
      · exact h3 0 (j + 2) (by omega) (by omega) (by omega) k e e2
      · exact h3 1 (j + 2) (by omega) (by omega) (by omega) k e e2
    cases a with
    | zero =>
      cases b with
      | zero => exact hne rfl
      | succ b => exact key b (by omega) (by simpa using hk1) (by simpa using hk2)
    | succ a =>
      cases b with
      | zero => exact key a (by omega) (by simpa using hk2) (by simpa using hk1)
      | succ b => exact h3 (a + 2) (b + 2) (by omega) (by omega) (by omega) k (by simpa using hk1) (by simpa using hk2)
end sat
/-- n parts, apart from one another -/
def FamA (R : Nat → Asn) (n : Nat) : Asn where
  h F w := ∃ φ : Nat → Fp, (∀ i, i < n → (R i).h (φ i) w) ∧ (∀ i j, i < n → j < n → i ≠ j → Apart (φ i) (φ j)) ∧ ∀ k, F k ↔ ∃ i, i < n ∧ φ i k
  lt := fun ⟨_, h1, _, h3⟩ k hk => let ⟨i, hi, hk⟩ := (h3 k).1 hk; (R i).lt (h1 i hi) k hk
  st := fun ⟨φ, h1, h2, h3⟩ _ _ hk hn => ⟨φ, fun i hi => (R i).st (h1 i hi) hk (fun k hk => hn k ((h3 k).2 ⟨i, hi, hk⟩)), h2, h3⟩
def Asn.none : Asn where
  h F _ := ∀ k, ¬ F k
  lt := fun h k hk => absurd hk (h k)
  st := fun h _ _ _ _ => h
def updR (R : Nat → Asn) (k : Nat) (a : Asn) : Nat → Asn := fun i => if i = k then a else R i
section fam
variable {β : Bs} {l l' : List HP} {w : World} {i n k : Nat} {R R' : Nat → Asn} {a : Asn}
theorem FamA.nil (R : Nat → Asn) (w : World) : (HP.abs (FamA R 0)).h (fun _ => False) w := ⟨fun _ _ => False, fun i hi => absurd hi (Nat.not_lt_zero i), fun i _ hi => absurd hi (Nat.not_lt_zero i), fun _ => ⟨fun h => h.elim, fun ⟨i, hi, _⟩ => absurd hi (Nat.not_lt_zero i)⟩⟩
theorem Sat.famNil (h : Sat β l w) (R : Nat → Asn) : Sat β (l ++ [.abs (FamA R 0)]) w := Sat.new h (FamA.nil R w) (Keeps.refl _ _) (fun _ h => h.elim)
/-- one is taken out -/
theorem Sat.famTake (h : Sat β l w) (hp : l[i]? = some (.abs (FamA R n))) (hk : k < n) : Sat β (l.set i (.abs (FamA (updR R k Asn.none) n)) ++ [.abs (R k)]) w := by
  refine h.part2 hp ?_
  rintro F ⟨φ, h1, h2, h3⟩
  refine ⟨fun x => ∃ i, i < n ∧ i ≠ k ∧ φ i x, φ k, ⟨fun i => if i = k then fun _ => False else φ i, fun i hi => ?_, fun i j hi hj hne x hx hy => ?_, fun x => ⟨fun ⟨i, hi, hne, hx⟩ => ⟨i, hi, by simpa [hne] using hx⟩, fun ⟨i, hi, hx⟩ => ?_⟩⟩, h1 k hk, fun x ⟨i, hi, hne, hx⟩ hy => h2 i k hi hk hne x hx hy, fun x => ⟨fun hx => ?_, fun hx => ?_⟩⟩
  · unfold updR
    by_cases e : i = k
    · simp only [e, if_true]; exact fun _ h => h
    · simp only [e, if_false]; exact h1 i hi
  · by_cases e1 : i = k
    · simp [e1] at hx
    · by_cases e2 : j = k
      · simp [e2] at hy
      · exact h2 i j hi hj hne x (by simpa [e1] using hx) (by simpa [e2] using hy)
  · by_cases e1 : i = k
    · simp [e1] at hx
    · exact ⟨i, hi, e1, by simpa [e1] using hx⟩
  · obtain ⟨i, hi, hx⟩ := (h3 x).1 hx
    by_cases e : i = k
    · exact .inr (e ▸ hx)
    · exact .inl ⟨i, hi, e, hx⟩
  · rcases hx with ⟨i, hi, _, hx⟩ | hx
    · exact (h3 x).2 ⟨i, hi, hx⟩
    · exact (h3 x).2 ⟨k, hk, hx⟩
/-- one is laid back into its empty place -/
theorem Sat.famPut {j : Nat} {idx : List Nat} (h : Sat β l w) (hp : l[i]? = some (.abs (FamA R n))) (hq : l[j]? = some (.abs a)) (hn : nodupB (i :: j :: idx) = true) (hl : pickL l idx = some l') (hk : k < n) (hR : ∀ x, x < n → x ≠ k → R' x = R x) (ha : R' k = a) : Sat β (.abs (FamA R' n) :: l') w := by
  refine h.join2 hp hq hn hl ?_
  rintro F1 F2 ⟨φ, h1, h2, h3⟩ hF hap
  refine ⟨fun x => (∃ i, i < n ∧ i ≠ k ∧ φ i x) ∨ F2 x, ⟨fun i => if i = k then F2 else φ i, fun i hi => ?_, fun i j hi hj hne x hx hy => ?_, fun x => ⟨fun hx => ?_, fun ⟨i, hi, hx⟩ => ?_⟩⟩, fun x hx => hx.imp (fun ⟨i, hi, _, hx⟩ => (h3 x).2 ⟨i, hi, hx⟩) id⟩
  · by_cases e : i = k
    · subst e; simp only [if_true]; rw [ha]; exact hF
    · simp only [e, if_false]; rw [hR i hi e]; exact h1 i hi
  · by_cases e1 : i = k
    · by_cases e2 : j = k
      · exact hne (e1.trans e2.symm)
      · simp only [e1, if_true] at hx
        simp only [e2, if_false] at hy
        exact hap x ((h3 x).2 ⟨j, hj, hy⟩) hx
    · simp only [e1, if_false] at hx
      by_cases e2 : j = k
      · simp only [e2, if_true] at hy
        exact hap x ((h3 x).2 ⟨i, hi, hx⟩) hy
      · simp only [e2, if_false] at hy
        exact h2 i j hi hj hne x hx hy
  · rcases hx with ⟨i, hi, hne, hx⟩ | hx
    · exact ⟨i, hi, by simpa [hne] using hx⟩
    · exact ⟨k, hk, by simpa using hx⟩
  · by_cases e : i = k
    · exact .inr (by simpa [e] using hx)
    · exact .inl ⟨i, hi, e, by simpa [e] using hx⟩
/-- one more -/
theorem Sat.famPush {j : Nat} {idx : List Nat} (h : Sat β l w) (hp : l[i]? = some (.abs (FamA R n))) (hq : l[j]? = some (.abs a)) (hn : nodupB (i :: j :: idx) = true) (hl : pickL l idx = some l') (hR : ∀ x, x < n → R' x = R x) (ha : R' n = a) : Sat β (.abs (FamA R' (n + 1)) :: l') w := by
  refine h.join2 hp hq hn hl ?_
  rintro F1 F2 ⟨φ, h1, h2, h3⟩ hF hap
  refine ⟨fun x => F1 x ∨ F2 x, ⟨fun i => if i = n then F2 else φ i, fun i hi => ?_, fun i j hi hj hne x hx hy => ?_, fun x => ⟨fun hx => ?_, fun ⟨i, hi, hx⟩ => ?_⟩⟩, fun x hx => hx⟩
  · by_cases e : i = n
    · subst e; simp only [if_true]; rw [ha]; exact hF
    · simp only [e, if_false]; rw [hR i (by omega)]; exact h1 i (by omega)
  · by_cases e1 : i = n
    · by_cases e2 : j = n
      · exact hne (e1.trans e2.symm)
      · simp only [e1, if_true] at hx
        simp only [e2, if_false] at hy
        exact hap x ((h3 x).2 ⟨j, by omega, hy⟩) hx
    · simp only [e1, if_false] at hx
      by_cases e2 : j = n
      · simp only [e2, if_true] at hy
        exact hap x ((h3 x).2 ⟨i, by omega, hx⟩) hy
      · simp only [e2, if_false] at hy
        exact h2 i j (by omega) (by omega) hne x hx hy
  · rcases hx with hx | hx
    · obtain ⟨i, hi, hx⟩ := (h3 x).1 hx
      exact ⟨i, by omega, by simpa [Nat.ne_of_lt hi] using hx⟩
    · exact ⟨n, Nat.lt_succ_self n, by simpa using hx⟩
  · by_cases e : i = n
    · exact .inr (by simpa [e] using hx)
    · exact .inl ((h3 x).2 ⟨i, by omega, by simpa [e] using hx⟩)
/-- the family is laid to the base -/
theorem FamA.base {F : Fp} {β' : Bs} (h : (HP.abs (FamA R n)).h F w) (h1 : ∀ k, F k → β'.O k) (_ : β'.w0 = w) {Φ : Nat → Bs → Prop} (hΦ : ∀ i, i < n → ∀ F, (R i).h F w → (∀ k, F k → β'.O k) → Φ i β') : ∀ i, i < n → Φ i β' := by
  obtain ⟨φ, g1, _, g3⟩ := h
  exact fun i hi => hΦ i hi (φ i) (g1 i hi) (fun k hk => h1 k ((g3 k).2 ⟨i, hi, hk⟩))
end fam
section mixB
variable {P : Program} {β : Bs} {N : Nat} {ops : Array Oper} {S : List HP} {l : List Nat} {fr : Fr} {hps : List HP} {Q : Post} {i : Nat}
theorem wpMix_mono {S S' : World → Prop} (hs : ∀ w, S w → S' w) : ∀ (l : List Nat) (a : Act) (w : World), wpMix P ops Q S 0 l a w → wpMix P ops Q S' 0 l a w
  | [], _, _, h => h
  | i :: l, a, w, h => by
    unfold wpMix at h ⊢
    exact wpOp_mono (fun a' w' h' => ⟨h'.1.imp id (hs w'), wpMix_mono hs l a' w' h'.2⟩) h
/-- an operation that changes memory and lets the base grow -/
def MidB (β : Bs) (N : Nat) {ι : Type} (B : ι → Bs) (Φ : ι → Prop) (fr : ι → Fr) (hp : ι → List HP) : Post := fun _ a w => ∃ i junk, β.le (B i) ∧ Φ i ∧ a = mkA N (fr i) junk ∧ Sat (B i) (hp i) w
theorem TriM.cutB {ι : Type} {B : ι → Bs} {Φ : ι → Prop} {fr' : ι → Fr} {hp' : ι → List HP} {o : Oper} (pk : List Nat) (hop : ops[i]? = some o) (hg : o.guard = none) (h : TriL P β N #[o] 0 fr hps (NP (MidB β N B Φ fr' hp'))) (hn : nodupB pk = true) (hp : ∀ j, pickL (hp' j) pk = some S)
    (K : ∀ j, β.le (B j) → Φ j → TriM P (B j) N ops S 0 l (fr' j) (hp' j) Q) : TriM P β N ops S 0 (i :: l) fr hps Q := by
  intro junk w hS
  unfold wpMix
  refine wpOp_of_list hop hg ?_
  have h1 := h junk w hS
  have h2 : wpList P #[o] (NP (MidB β N B Φ fr' hp')) [o] (mkA N fr junk) w := h1
  refine wpList_np (fun a w ⟨j, junk', hle, hΦ, ha, hS'⟩ => ?_) h2
  subst ha
  exact ⟨.inr ((hS'.pick hn (hp j)).debase hle), wpMix_mono (fun w h => h.debase hle) _ _ _ (K j hle hΦ junk' w hS')⟩
theorem TriQ.midB {β0 : Bs} {ι : Type} {B : ι → Bs} {Φ : ι → Prop} {fr' : ι → Fr} {hp' : ι → List HP} (j : ι) {idx pk : List Nat} (hb : B j = β) (hle : β0.le β) (hΦ : Φ j) (hf : ∀ junk, pickF fr junk idx = fr' j) (hn : nodupB pk = true) (hp : pickL hps pk = some (hp' j)) : TriQ β N (NP (MidB β0 N B Φ fr' hp')) .normal fr hps := by
  subst hb
  exact fun junk _ hS => ⟨j, lk fr junk, hle, hΦ, by rw [mkA_pick N fr junk idx, hf junk], hS.pick hn hp⟩
end mixB
end Go.Proofs.Ytejnhhpjlajngaa
end
/- part Ld. PROVED HERE: parts may be lent to what is only read, and be had back; a contract's parts are laid to the base. CONDITIONS: none. No statement of the seat is proved here. -/
section
namespace Go.Proofs.Ytejnhhpjlajngaa
open Go.RowKit
/-- β' is β and what the parts R take up -/
structure Lent (β : Bs) (R : List HP) (β' : Bs) : Prop where
  le : β.le β'
  fp : ∃ φ : Nat → Fp, (∀ (i : Nat) (p : HP), R[i]? = some p → p.h (φ i) β'.w0 ∧ ∀ k, φ i k → β'.O k) ∧ (∀ i, i < R.length → ∀ k, φ i k → ¬ β.O k) ∧ (∀ i j, i < R.length → j < R.length → i ≠ j → Apart (φ i) (φ j)) ∧ ∀ k, β'.O k → β.O k ∨ ∃ i, i < R.length ∧ φ i k
section lent
variable {β β' β2 : Bs} {l R : List HP} {w : World} {p : HP} {i : Nat}
theorem Lent.get (h : Lent β R β') (i : Nat) (hp : R[i]? = some p) : ∃ F, p.h F β'.w0 ∧ ∀ k, F k → β'.O k := by
  obtain ⟨φ, h1, _⟩ := h.fp
  exact ⟨φ i, h1 i p hp⟩
theorem Sat.turn {a b : List HP} (h : Sat β (a ++ b) w) : Sat β (b ++ a) w := by
  obtain ⟨ho, φ, h1, h2, h3⟩ := h
  have hl : (a ++ b).length = a.length + b.length := List.length_append
  have hl' : (b ++ a).length = b.length + a.length := List.length_append
  refine ⟨ho, fun i => if i < b.length then φ (a.length + i) else φ (i - b.length), fun i p hp => ?_, fun i hi k hk hO => ?_, fun i j hi hj hne k hk hk' => ?_⟩
  · have hi := len_of_some hp
    by_cases e : i < b.length
    · simp only [e, if_true]
      rw [List.getElem?_append_left e] at hp
      exact h1 _ p (by rw [List.getElem?_append_right (by omega)]; simpa using hp)
    · simp only [e, if_false]
      rw [List.getElem?_append_right (by omega)] at hp
      exact h1 _ p (by rw [List.getElem?_append_left (by omega)]; exact hp)
  · by_cases e : i < b.length
    · simp only [e, if_true] at hk
      exact h2 _ (by omega) k hk hO
    · simp only [e, if_false] at hk
      exact h2 _ (by omega) k hk hO
  · by_cases e1 : i < b.length
    · simp only [e1, if_true] at hk
      by_cases e2 : j < b.length
      · simp only [e2, if_true] at hk'
        exact h3 _ _ (by omega) (by omega) (by omega) k hk hk'
      · simp only [e2, if_false] at hk'
        exact h3 _ _ (by omega) (by omega) (by omega) k hk hk'
    · simp only [e1, if_false] at hk
      by_cases e2 : j < b.length
      · simp only [e2, if_true] at hk'
        exact h3 _ _ (by omega) (by omega) (by omega) k hk hk'
      · simp only [e2, if_false] at hk'
        exact h3 _ _ (by omega) (by omega) (by omega) k hk hk'
theorem Sat.lend (h : Sat β (l ++ R) w) : ∃ β', Lent β R β' ∧ β'.w0 = w ∧ Sat β' l w := by
  obtain ⟨ho, φ, h1, h2, h3⟩ := h
  have hl : (l ++ R).length = l.length + R.length := List.length_append
  have hR : ∀ (i : Nat) (p : HP), R[i]? = some p → p.h (φ (l.length + i)) w := fun i p hp => h1 _ p (by rw [List.getElem?_append_right (by omega)]; simpa using hp)
  refine ⟨⟨fun k => β.O k ∨ ∃ i, i < R.length ∧ φ (l.length + i) k, w⟩, ⟨⟨fun k hk => .inl hk, ho.os, ho.tape, ho.output, ho.size, fun k hk => ho.old k hk⟩, fun i => φ (l.length + i), fun i p hp => ⟨hR i p hp, fun k hk => .inr ⟨i, len_of_some hp, hk⟩⟩, fun i hi => h2 _ (by omega), fun i j hi hj hne => h3 _ _ (by omega) (by omega) (by omega), fun k hk => hk⟩, rfl, ⟨rfl, rfl, rfl, Nat.le_refl _, fun k hk => ⟨?_, rfl⟩⟩, φ, fun i p hp => h1 i p (by rw [List.getElem?_append_left (len_of_some hp)]; exact hp), fun i hi k hk hO => ?_, fun i j hi hj hne => h3 i j (by omega) (by omega) hne⟩
  · rcases hk with hk | ⟨i, hi, hk⟩
    · exact Nat.lt_of_lt_of_le (ho.old k hk).1 ho.size
    · obtain ⟨p, hp⟩ := some_of_len hi
      exact HP.lt (hR i p hp) k hk
  · rcases hO with hO | ⟨j, hj, hO⟩
    · exact h2 i (by omega) k hk hO
    · exact h3 i (l.length + j) (by omega) (by omega) (by omega) k hk hO
theorem Lent.back (h : Lent β R β') (hS : Sat β' l w) : Sat β (l ++ R) w := by
  obtain ⟨hle, φ, g1, g2, g3, g4⟩ := h
  obtain ⟨ho, ψ, h1, h2, h3⟩ := hS
  have hl : (l ++ R).length = l.length + R.length := List.length_append
  have hin : ∀ i, i < R.length → ∀ k, φ i k → β'.O k := fun i hi k hk => by
    obtain ⟨p, hp⟩ := some_of_len hi
    exact (g1 i p hp).2 k hk
  have hk : ∀ i, i < R.length → Keeps (fun k => ¬ φ i k) β'.w0 w := fun i hi => ⟨ho.os, ho.tape, ho.output, ho.size, fun k _ hn => (ho.old k (hin i hi k (Classical.not_not.1 hn))).2⟩
  refine ⟨ho.le hle, fun i => if i < l.length then ψ i else φ (i - l.length), fun i p hp => ?_, fun i hi k hk hO => ?_, fun i j hi hj hne k hk hk' => ?_⟩
  · by_cases e : i < l.length
    · rw [List.getElem?_append_left e] at hp
      simp only [e, if_true]
      exact h1 i p hp
    · rw [List.getElem?_append_right (by omega)] at hp
      simp only [e, if_false]
      exact HP.st (g1 _ p hp).1 (hk _ (len_of_some hp)) (fun k h => fun h' => h' h)
  · by_cases e : i < l.length
    · simp only [e, if_true] at hk
      exact h2 i e k hk (hle.O k hO)
    · simp only [e, if_false] at hk
      exact g2 _ (by omega) k hk hO
  · by_cases e1 : i < l.length
    · simp only [e1, if_true] at hk
      by_cases e2 : j < l.length
      · simp only [e2, if_true] at hk'
        exact h3 i j e1 e2 hne k hk hk'
      · simp only [e2, if_false] at hk'
        exact h2 i e1 k hk (hin _ (by omega) k hk')
    · simp only [e1, if_false] at hk
      by_cases e2 : j < l.length
      · simp only [e2, if_true] at hk'
        exact h2 j e2 k hk' (hin _ (by omega) k hk)
      · simp only [e2, if_false] at hk'
        exact g3 _ _ (by omega) (by omega) (by omega) k hk hk'
end lent
section rules
variable {P : Program} {β β' β2 : Bs} {N : Nat} {ops : Array Oper} {k : Nat} {fr : Fr} {hps l R : List HP} {Q : Post} {c : Code} {e : Exit} {pk : List Nat} {f : FuncId} {args : Array Value} {pre : List HP}
theorem TriL.lend (R : List HP) (pk : List Nat) (hn : nodupB pk = true) (hp : pickL hps pk = some (l ++ R)) (K : ∀ β' : Bs, β.le β' → β'.le β' → Lent β R β' → TriL P β' N ops k fr l Q) : TriL P β N ops k fr hps Q := fun junk w hS => by
  obtain ⟨β', h, _, hS'⟩ := (hS.pick hn hp).lend
  exact K β' h.le hS'.1.refl_le h junk w hS'
theorem Tri.lend (R : List HP) (pk : List Nat) (hn : nodupB pk = true) (hp : pickL hps pk = some (l ++ R)) (K : ∀ β' : Bs, β.le β' → β'.le β' → Lent β R β' → Tri P β' N c fr l Q) : Tri P β N c fr hps Q := fun junk w hS => by
  obtain ⟨β', h, _, hS'⟩ := (hS.pick hn hp).lend
  exact K β' h.le hS'.1.refl_le h junk w hS'
theorem TriL.back (h : Lent β R β') (hle : β'.le β2) (K : TriL P β N ops k fr (hps ++ R) Q) : TriL P β2 N ops k fr hps Q := fun junk w hS => K junk w (h.back (hS.debase hle))
theorem Tri.back (h : Lent β R β') (hle : β'.le β2) (K : Tri P β N c fr (hps ++ R) Q) : Tri P β2 N c fr hps Q := fun junk w hS => K junk w (h.back (hS.debase hle))
theorem TriQ.back (h : Lent β R β') (hle : β'.le β2) (K : TriQ β N Q e fr (hps ++ R)) : TriQ β2 N Q e fr hps := fun junk w hS => K junk w (h.back (hS.debase hle))
/-- what a call leaves is laid to the base -/
theorem Spec.base {post : Value → List HP → Prop} {Φ : Bs → Value → Prop} (h : Spec P β f args pre post) (hΦ : ∀ v l, post v l → ∀ β', Lent β l β' → Φ β' v) : SpecB P β f args pre (fun β' v l => l = [] ∧ Φ β' v) := by
  intro A w hS
  refine (h A w hS).mono ?_
  rintro e w' ⟨v, l, h1, h2, h3⟩
  obtain ⟨β', g1, _, g3⟩ := (Sat.turn h3).lend
  exact ⟨β', v, [], g1.le, h1, ⟨rfl, hΦ v l h2 β' g1⟩, g3⟩
end rules
end Go.Proofs.Ytejnhhpjlajngaa
end
/- part Tq. PROVED HERE: the heap's calls over parts; a table of handles as parts and as one part. CONDITIONS: none. -/
section
namespace Go.Proofs.Ytejnhhpjlajngaa
open Go.RowKit HeapM TabM Go.Maps
theorem Spec.ofB {P : Program} {β : Bs} {f : FuncId} {args : Array Value} {pre : List HP} {post : Value → List HP → Prop}
    (h : ∀ F w, (Proofs.Ytejnhhpjlajngaa.bund pre).h F w → Calls P f args w fun e w' => ∃ v l, e = .returned v ∧ post v l ∧ ∃ F', (Proofs.Ytejnhhpjlajngaa.bund l).h F' w' ∧ Step F w F' w') : Spec P β f args pre post := by
  intro R w hS
  have h1 : Sat β ([.abs (Proofs.Ytejnhhpjlajngaa.bund pre)] ++ [.abs R]) w := Sat.turn (Sat.turn hS).bund
  have h2 : Spec P β f args [.abs (Proofs.Ytejnhhpjlajngaa.bund pre)] (fun v l => ∃ l0, post v l0 ∧ l = [.abs (Proofs.Ytejnhhpjlajngaa.bund l0)]) :=
    Spec.of1 (fun F w hF => (h F w hF).mono fun _ _ ⟨v, l, e, hp, hF'⟩ => ⟨v, .abs (Proofs.Ytejnhhpjlajngaa.bund l), e, ⟨l, hp, rfl⟩, hF'⟩)
  refine (h2 R w h1).mono ?_
  rintro e w' ⟨v, l, he, ⟨l0, hp, rfl⟩, hS2⟩
  exact ⟨v, l0, he, hp, Sat.turn (Sat.turn hS2).unbund⟩
theorem bund2 {p q : HP} {F : Fp} {w : World} : (bund [p, q]).h F w ↔ ∃ F1 F2, p.h F1 w ∧ q.h F2 w ∧ Apart F1 F2 ∧ ∀ k, F k ↔ F1 k ∨ F2 k := by
  constructor
  · rintro ⟨φ, h1, h2, h3⟩
    refine ⟨φ 0, φ 1, h1 0 p rfl, h1 1 q rfl, h2 0 1 (by simp) (by simp) (by decide), fun k => (h3 k).trans ⟨fun ⟨i, hi, hk⟩ => ?_, fun h => ?_⟩⟩
    · have hi : i < 2 := hi
      rcases (by omega : i = 0 ∨ i = 1) with rfl | rfl
      · exact .inl hk
      · exact .inr hk
    · rcases h with h | h
      · exact ⟨0, by simp, h⟩
      · exact ⟨1, by simp, h⟩
  · rintro ⟨F1, F2, h1, h2, h3, h4⟩
    refine ⟨fun i => if i = 0 then F1 else F2, fun i x hx => ?_, fun i j hi hj hne => ?_, fun k => (h4 k).trans ⟨fun h => ?_, fun ⟨i, hi, hk⟩ => ?_⟩⟩
    · match i, hx with
      | 0, hx => cases hx; exact h1
      | 1, hx => cases hx; exact h2
    · have hi : i < 2 := hi
      have hj : j < 2 := hj
      rcases (by omega : (i = 0 ∧ j = 1) ∨ (i = 1 ∧ j = 0)) with ⟨rfl, rfl⟩ | ⟨rfl, rfl⟩
      · exact h3
      · exact h3.symm
    · rcases h with h | h
      · exact ⟨0, by simp, h⟩
      · exact ⟨1, by simp, h⟩
    · have hi : i < 2 := hi
      rcases (by omega : i = 0 ∨ i = 1) with rfl | rfl
      · exact .inl hk
      · exact .inr hk
theorem Sat.openB {β : Bs} {l : List HP} {w : World} {A : Asn} {ι : Type} {Φ : ι → Prop} {L : ι → List HP} (h : Sat β (l ++ [.abs A]) w) (hA : ∀ F, A.h F w → ∃ i, Φ i ∧ (Proofs.Ytejnhhpjlajngaa.bund (L i)).h F w) : ∃ i, Φ i ∧ Sat β (l ++ L i) w := by
  obtain ⟨F, hF⟩ := h.get (i := l.length) (p := .abs A) (by simp)
  have h0 := h
  obtain ⟨ho, φ, h1, h2, h3⟩ := h
  obtain ⟨i, hi, hB⟩ := hA _ (h1 l.length (.abs A) (by simp))
  refine ⟨i, hi, Sat.unbund ⟨ho, φ, fun j p hp => ?_, fun j hj => h2 j (by simpa using hj), fun a b ha hb => h3 a b (by simpa using ha) (by simpa using hb)⟩⟩
  by_cases e : j < l.length
  · rw [List.getElem?_append_left e] at hp
    exact h1 j p (by rw [List.getElem?_append_left e]; exact hp)
  · have hj : j = l.length := by have := len_of_some hp; simp at this; omega
    subst hj
    simp at hp
    subst hp
    exact hB
theorem Sat.closeB {β : Bs} {l R : List HP} {w : World} {A : Asn} (h : Sat β (l ++ R) w) (hA : ∀ F, (Proofs.Ytejnhhpjlajngaa.bund R).h F w → A.h F w) : Sat β (l ++ [.abs A]) w := by
  obtain ⟨ho, φ, h1, h2, h3⟩ := h.bund
  refine ⟨ho, φ, fun j p hp => ?_, fun j hj => h2 j (by simpa using hj), fun a b ha hb => h3 a b (by simpa using ha) (by simpa using hb)⟩
  by_cases e : j < l.length
  · rw [List.getElem?_append_left e] at hp
    exact h1 j p (by rw [List.getElem?_append_left e]; exact hp)
  · have hj : j = l.length := by have := len_of_some hp; simp at this; omega
    subst hj
    simp at hp
    subst hp
    exact hA _ (h1 l.length (.abs (Proofs.Ytejnhhpjlajngaa.bund R)) (by simp))
section rules
variable {P : Program} {β : Bs} {N : Nat} {ops : Array Oper} {k : Nat} {fr : Fr} {hps : List HP} {Q : Post} {c : Code} {e : Exit}
theorem Tri.memP {ι : Type} {Φ : ι → Prop} {hp : ι → List HP} (h : ∀ w, Sat β hps w → ∃ i, Φ i ∧ Sat β (hp i) w) (K : ∀ i, Φ i → Tri P β N c fr (hp i) Q) : Tri P β N c fr hps Q := fun junk w hS => let ⟨i, hi, hS'⟩ := h w hS; K i hi junk w hS'
theorem TriL.memP {ι : Type} {Φ : ι → Prop} {hp : ι → List HP} (h : ∀ w, Sat β hps w → ∃ i, Φ i ∧ Sat β (hp i) w) (K : ∀ i, Φ i → TriL P β N ops k fr (hp i) Q) : TriL P β N ops k fr hps Q := fun junk w hS => let ⟨i, hi, hS'⟩ := h w hS; K i hi junk w hS'
end rules
/-! ### the heap -/
theorem cells_setCell {w : World} {t j : Nat} {cs : List Value} {T : TypeId} {u : Value} (h : w.heap[t]? = some (.cells ⟨cs⟩ T (0, 0))) : (w.setCell ⟨t, j, none⟩ u).heap[t]? = some (.cells ⟨cs.set j u⟩ T (0, 0)) := by
  simp [World.setCell, Array.getElem?_modify, h, Array.setIfInBounds_def]
  exact fun h => (List.set_eq_of_length_le h).symm
theorem sp_pop {β : Bs} {T : TypeId} {a b c e : Value} {t g cap n : Nat} {l : List Int} (hl : l.length = n + 1) (hp : Hp (n + 1) l) (hi : Inj l) (hm : n + 1 ≤ 1048576) :
    Spec Try.prog β 30 #[.iface 66 (.pointer (some ⟨t, 3, none⟩))] [.blk t [a, b, c, .slice (some ⟨g, 0, none⟩) l.length cap, e] T, .abs (RowA 3 1 (some ⟨g, 0, none⟩) l.length cap (ints l))]
      (fun v r => v = .iface 3 (.int .i64 (at_ l 0)) ∧ ∃ l' : List Int, l'.length = n ∧ Hp n l' ∧ Inj l' ∧ (∀ x, x ∈ l' ↔ x ∈ l ∧ x ≠ at_ l 0) ∧ r = [.blk t [a, b, c, .slice (some ⟨g, 0, none⟩) n cap, e] T, .abs (RowA 3 1 (some ⟨g, 0, none⟩) n cap (ints l'))]) := by
  refine Spec.ofB (fun F w h => ?_)
  obtain ⟨F1, F2, ⟨h1, h2⟩, hr, hap, hF⟩ := bund2.1 h
  have hr : (RowA 3 1 (some ⟨g, 0, none⟩) l.length cap (ints l)).h F2 w := hr
  obtain ⟨hr1, hr2⟩ := hr
  have hg : F2 g := (hr2 g).2 rfl
  have hne : t ≠ g := fun e => hap t ((h2 t).2 rfl) (e ▸ hg)
  have hc : w.cell? ⟨t, 3, none⟩ = some (.slice (some ⟨g, 0, none⟩) l.length cap) ∧ w.frozen? ⟨t, 3, none⟩ = false := cell_of_blk h1 rfl rfl rfl
  have hW : HW t 3 g cap 0 l w := ⟨hc.1, hr1, hne, lt_of_some h1⟩
  refine (heap_pop t 3 g cap 0 n l w hW hl hp hi hm hc.2).mono ?_
  rintro e' w' ⟨rfl, l', w1, g1, g2, g3, g4, g5, g6, rfl⟩
  have h1' : w1.heap[t]? = some (.cells ⟨[a, b, c, .slice (some ⟨g, 0, none⟩) l.length cap, e]⟩ T (0, 0)) := (g6.block t (lt_of_some h1) (fun e => hne e)).trans h1
  have hks : Keeps (· = t) w1 (w1.setCell ⟨t, 3, none⟩ (.slice (some ⟨g, 0, none⟩) n cap)) := (Keeps.refl (· = t) w1).setCell (p := ⟨t, 3, none⟩) (.inr rfl) _
  refine ⟨_, _, rfl, ⟨rfl, l', g1, g2, g3, g4, rfl⟩, F, bund2.2 ⟨F1, F2, ⟨cells_setCell h1', h2⟩, ⟨hks.ownsRow g5 (fun k hk e => ?_), fun k => ?_⟩, hap, hF⟩, ⟨?_, fun _ h => .inl h⟩⟩
  · cases hk; exact hne e.symm
  · rw [hr2 k]; simp [Value.ownBlock]
  · exact (g6.mono (S' := F) (fun k _ e => (hF k).2 (.inr (e ▸ hg)))).trans (hks.mono (fun k _ e => (hF k).2 (.inl ((h2 k).2 e))))
theorem sp_push {β : Bs} {T : TypeId} {a b c e : Value} {t cap : Nat} {A : Option Addr} {l : List Int} (x : Int) (hp : Hp l.length l) (hm : l.length + 1 ≤ 1048576) :
    Spec Try.prog β 32 #[.iface 66 (.pointer (some ⟨t, 3, none⟩)), .iface 3 (.int .i64 x)] [.blk t [a, b, c, .slice A l.length cap, e] T, .abs (RowA 3 1 A l.length cap (ints l))]
      (fun v r => v = .tuple #[] ∧ ∃ (g c' : Nat) (l' : List Int), Same (l ++ [x]) l' ∧ Hp l'.length l' ∧ r = [.blk t [a, b, c, .slice (some ⟨g, 0, none⟩) l'.length c', e] T, .abs (RowA 3 1 (some ⟨g, 0, none⟩) l'.length c' (ints l'))]) := by
  refine Spec.ofB (fun F w h => ?_)
  obtain ⟨F1, F2, ⟨h1, h2⟩, hr, hap, hF⟩ := bund2.1 h
  have hr : (RowA 3 1 A l.length cap (ints l)).h F2 w := hr
  obtain ⟨hr1, hr2⟩ := hr
  have hc : w.cell? ⟨t, 3, none⟩ = some (.slice A l.length cap) ∧ w.frozen? ⟨t, 3, none⟩ = false := cell_of_blk h1 rfl rfl rfl
  have hne : (Value.slice A l.length cap).ownBlock ≠ some t := fun e => hap t ((h2 t).2 rfl) ((hr2 t).2 e)
  refine (heap_push t 3 0 (.slice A l.length cap) l x w hc.1 hc.2 hr1 hne hm (Nat.zero_le _) hp (lt_of_some h1)).mono ?_
  rintro e' w' ⟨rfl, g, c', l', g1, g2, g3, g4, w1, g5, g6⟩
  have htg : t ≠ g := g3.ne
  have hlen : l'.length = l.length + 1 := by have := g1.len; simp at this; omega
  have h1' : w1.heap[t]? = some (.cells ⟨[a, b, c, .slice A l.length cap, e]⟩ T (0, 0)) := (g5.block t (lt_of_some h1) hne).trans h1
  have h1'' := cells_setCell (j := 3) (u := .slice (some ⟨g, 0, none⟩) (l.length + 1) c') h1'
  have h2'' : w'.heap[t]? = some (.cells ⟨[a, b, c, .slice (some ⟨g, 0, none⟩) l'.length c', e]⟩ T (0, 0)) := by
    rw [hlen]; exact (g6.block t (lt_of_some h1'') htg).trans h1''
  have hks : Keeps (· = t) w1 (w1.setCell ⟨t, 3, none⟩ (.slice (some ⟨g, 0, none⟩) (l.length + 1) c')) := (Keeps.refl (· = t) w1).setCell (p := ⟨t, 3, none⟩) (.inr rfl) _
  refine ⟨_, _, rfl, ⟨rfl, g, c', l', g1, g2, rfl⟩, fun k => F1 k ∨ k = g, bund2.2 ⟨F1, fun k => k = g, ⟨h2'', h2⟩, ⟨g3.own, fun k => ?_⟩, fun k hk e => htg (((h2 k).1 hk).symm.trans e), fun k => Iff.rfl⟩, ⟨?_, fun k hk => ?_⟩⟩
  · simp [Value.ownBlock, eq_comm]
  · have k1 : Keeps F w w1 := g5.mono (fun k _ hk => (hF k).2 (.inr ((hr2 k).2 hk)))
    have k2 : Keeps F w (w1.setCell ⟨t, 3, none⟩ (.slice (some ⟨g, 0, none⟩) (l.length + 1) c')) := k1.trans (hks.mono (fun k _ e => (hF k).2 (.inl ((h2 k).2 e))))
    exact k2.andThen g6 (fun i hi e => by
      rcases g4 with g4 | g4
      · exact (hF i).2 (.inr ((hr2 i).2 (e ▸ g4)))
      · subst e; omega)
  · rcases hk with hk | rfl
    · exact .inl ((hF k).2 (.inl hk))
    · rcases g4 with g4 | g4
      · exact .inl ((hF _).2 (.inr ((hr2 _).2 g4)))
      · exact .inr g4
/-! ### a table -/
structure TabOk (next : Int) (l : List Int) (us : Used Value) (most peak : Int) : Prop where
  ti : TI next l us
  most0 : (us.length : Int) ≤ most
  most1 : most ≤ 1024
  next1 : next ≤ most + 1
  next2 : next ≤ peak + 1
  peak0 : 0 ≤ peak ∧ peak ≤ 1024
theorem TabOk.bnd {next : Int} {l : List Int} {us : Used Value} {most peak : Int} (h : TabOk next l us most peak) : 1 ≤ TabM.least us ∧ TabM.least us ≤ next ∧ TabM.least us ∉ keys us ∧ next ≤ 1025 ∧ 1 ≤ next ∧ us.length ≤ 1024 ∧ l.length ≤ 1024 := by
  obtain ⟨h1, h2, h3⟩ := leastFrom_spec (keys us) 1 h.ti.rise (fun x hx => (h.ti.pos x hx).1)
  have hc := h.ti.count
  have m0 := h.most0
  have m1 := h.most1
  have n1 := h.next1
  refine ⟨h1, ?_, h2, by omega, by omega, by omega, by omega⟩
  rcases Int.lt_or_le next (TabM.least us) with h4 | h4
  · have := h3 next (by omega) h4
    have := (h.ti.pos _ this).2
    omega
  · exact h4
theorem tabf_nil : tabf [] = fun _ => none := by
  funext x
  unfold tabf
  split <;> rfl
theorem tabf_none {us : Used Value} {h : Int} (hn : h ∉ keys us) : tabf us (.int .i64 h) = none := get_none.2 hn
structure TX where
  m : Nat
  A : Option Addr
  c : Nat
  l : List Int
  next : Int
def tabL (TT : TypeId) (t : Nat) (most peak : Int) (us : Used Value) (x : TX) : List HP :=
  [.blk t [.int .i64 most, .int .i64 peak, .map (some x.m), .slice x.A x.l.length x.c, .int .i64 x.next] TT, .abs (MapA Try.prog 3 x.m (tabf us) us.length), .abs (RowA 3 1 x.A x.l.length x.c (ints x.l))]
def TabA (TT : TypeId) (t : Nat) (most peak : Int) (us : Used Value) : Asn where
  h F w := ∃ x : TX, TabOk x.next x.l us most peak ∧ (bund (tabL TT t most peak us x)).h F w
  lt := fun ⟨_, _, h⟩ k hk => Asn.lt _ h k hk
  st := fun ⟨x, h1, h⟩ _ _ hk hn => ⟨x, h1, Asn.st _ h hk hn⟩
theorem Sat.tabOpen {β : Bs} {TT : TypeId} {t : Nat} {most peak : Int} {us : Used Value} {l : List HP} {w : World} (h : Sat β (l ++ [.abs (TabA TT t most peak us)]) w) : ∃ x : TX, TabOk x.next x.l us most peak ∧ Sat β (l ++ tabL TT t most peak us x) w :=
  h.openB (fun _ h => h)
theorem Sat.tabClose {β : Bs} {TT : TypeId} {t : Nat} {most peak : Int} {us : Used Value} {l : List HP} {w : World} (x : TX) (hx : TabOk x.next x.l us most peak) (h : Sat β (l ++ tabL TT t most peak us x) w) : Sat β (l ++ [.abs (TabA TT t most peak us)]) w :=
  h.closeB (fun _ h => ⟨x, hx, h⟩)
end Go.Proofs.Ytejnhhpjlajngaa
end
/- part TKs. PROVED HERE: slices.Sorted(maps.Keys(m)) for a map of numbers, in the logic's form. CONDITIONS: none. No statement of the seat is proved here. -/
section
namespace Go.Proofs.Ytejnhhpjlajngaa
open Go.RowKit Go.Maps Go.Sort Go.Shelf HeapM TabM
theorem keyI {z : Int} (lo : -9223372036854775808 ≤ z) (hi : z ≤ 9223372036854775807) : keyOf Try.prog 3 (.int .i64 z) = some (.int .i64 z) :=
  keyOf_int_mk Try.underlying3 (WalkArith.wf_i64 (by omega))
theorem keyW {z : Int} (h : (Lit.int .i64 z).wf = true) : keyOf Try.prog 3 (.int .i64 z) = some (.int .i64 z) :=
  keyOf_int_mk Try.underlying3 h
theorem sorted_eq : ∀ {l m : List Int}, l.Pairwise (· < ·) → m.Pairwise (· < ·) → (∀ z, z ∈ l ↔ z ∈ m) → l = m
  | [], [], _, _, _ => rfl
  | [], b :: m, _, _, h => by have := (h b).2 (List.mem_cons_self ..); cases this
  | a :: l, [], _, _, h => by have := (h a).1 (List.mem_cons_self ..); cases this
  | a :: l, b :: m, hl, hm, h => by
    have hl' := List.pairwise_cons.1 hl
    have hm' := List.pairwise_cons.1 hm
    have e : a = b := by
      rcases List.mem_cons.1 ((h a).1 (List.mem_cons_self ..)) with e | e
      · exact e
      · rcases List.mem_cons.1 ((h b).2 (List.mem_cons_self ..)) with e2 | e2
        · exact e2.symm
        · have := hm'.1 a e; have := hl'.1 b e2; omega
    subst e
    congr 1
    refine sorted_eq hl'.2 hm'.2 (fun z => ⟨fun hz => ?_, fun hz => ?_⟩)
    · rcases List.mem_cons.1 ((h z).1 (List.mem_cons_of_mem _ hz)) with e | e
      · have := hl'.1 z hz; omega
      · exact e
    · rcases List.mem_cons.1 ((h z).2 (List.mem_cons_of_mem _ hz)) with e | e
      · have := hm'.1 z hz; omega
      · exact e
theorem maxIf (x y : Int) : (if y > x then y else x) = max x y := by
  rw [Int.max_def]; split <;> split <;> omega
theorem minIf (x y : Int) : (if y < x then y else x) = min x y := by
  rw [Int.min_def]; split <;> split <;> omega
theorem sortsI (m : Nat) : AnyZI.SortsIn Try.prog Try.sortedI_ren Fence.wide m :=
  ⟨fun blk off cap ss W hH hblk hsz => callsIn_wide.2 (AnyM.slices_Sort_int Try.sortI blk off cap ss W hH hblk hsz),
   fun p cap W => callsIn_wide.2 (AnyM.slices_Sort_int_none Try.sortI p cap W)⟩
/-- the iterator over a map's keys -/
def keysFn (bk : Nat) : Value := .func (.func 39) #[] #[.pointer (some ⟨bk, 0, none⟩)]
theorem sp_keysI {β : Bs} (mb : Option Nat) : Spec Try.prog β 34 #[.map mb] [] (fun v l => ∃ bk, v = keysFn bk ∧ l = [.blk bk [.map mb] 69]) :=
  Spec.of0new fun W _ => by
    have h : CallsIn Fence.wide 5 Try.prog 34 #[.map mb] W fun e w' => e = .returned (keysFn W.heap.size) ∧ w' = W.alloc (.cells #[.map mb] 69) := AnyZI.keys_in Try.keysI Fence.wide 5 trivial rfl mb W
    refine ((callsIn_wide (n := 5)).1 h).mono ?_
    rintro e w' ⟨rfl, rfl⟩
    refine ⟨_, _, rfl, ⟨W.heap.size, rfl, rfl⟩, (Keeps.refl _ _).alloc _, fun k => k = W.heap.size, ⟨?_, fun k => Iff.rfl⟩, fun k hk => Nat.le_of_eq hk.symm⟩
    show (W.heap.push _)[W.heap.size]? = _
    simp
/-- what a map of numbers holds, as a rising list -/
structure KeysOf (f : Lit → Option Value) (ss : List Int) : Prop where
  mem : ∀ z, z ∈ ss ↔ (f (.int .i64 z)).isSome = true
  sorted : ss.Pairwise (· < ·)
theorem intKeys_of {w : World} {b n : Nat} {K : TypeId} {f : Lit → Option Value} {D : DataW Value} (hK : Try.prog.underlying K = some (.int .i64)) (L : Keyed Try.prog K) (hown : w.ownsMap Try.prog K heldR b n D) (hf : ∀ kl, Maps.has D kl = (f kl).isSome) {ss : List Int} (hp : ss.Perm (intKeys D)) :
    KeysOf f (ss.mergeSort (fun x y => decide (x ≤ y))) := by
  obtain ⟨es, hD, hpw, _⟩ := hown.entries L
  obtain ⟨es', hD', hko⟩ := hown.keysOf
  obtain rfl : es = es' := by rw [hD] at hD'; simpa using hD'
  have hk : ∀ p ∈ es, ∃ x, p.1 = .int .i64 x := fun p hp => by
    obtain ⟨v, hv⟩ := hko p hp
    obtain ⟨x, _, h, _⟩ := keyOf_i64 hK hv
    exact ⟨x, h⟩
  have hmem : ∀ z, z ∈ intKeys D ↔ (f (.int .i64 z)).isSome = true := fun z => by
    rw [← hf, hD]
    show z ∈ es.map (fun p => Go.intOf p.1) ↔ es.any (fun p => p.1.sameKey (.int .i64 z)) = true
    rw [List.mem_map, List.any_eq_true]
    refine ⟨fun ⟨p, hp, e⟩ => ⟨p, hp, ?_⟩, fun ⟨p, hp, e⟩ => ⟨p, hp, ?_⟩⟩
    · obtain ⟨x, hx⟩ := hk p hp
      rw [hx] at e ⊢
      have e : x = z := e
      simp [Lit.sameKey, e]
    · obtain ⟨x, hx⟩ := hk p hp
      rw [hx] at e ⊢
      show x = z
      simpa [Lit.sameKey] using e
  have hnd : (intKeys D).Nodup := by
    rw [hD]
    show (es.map fun p => Go.intOf p.1).Nodup
    rw [List.nodup_iff_pairwise_ne, List.pairwise_map]
    refine hpw.imp_of_mem (fun {p q} hp hq hne e => hne ?_)
    obtain ⟨x, hx⟩ := hk p hp
    obtain ⟨y, hy⟩ := hk q hq
    rw [hx, hy] at e ⊢
    have e : x = y := e
    rw [e]
  have tr : ∀ a b c : Int, decide (a ≤ b) = true → decide (b ≤ c) = true → decide (a ≤ c) = true := fun a b c h1 h2 => by simp only [decide_eq_true_eq] at *; omega
  have to : ∀ a b : Int, (decide (a ≤ b) || decide (b ≤ a)) = true := fun a b => by simp only [Bool.or_eq_true, decide_eq_true_eq]; omega
  have hperm := (List.mergeSort_perm ss (fun x y => decide (x ≤ y))).trans hp
  refine ⟨fun z => by rw [hperm.mem_iff, hmem], ?_⟩
  have h1 := List.pairwise_mergeSort tr to ss
  have h2 : (ss.mergeSort (fun x y => decide (x ≤ y))).Nodup := hperm.nodup_iff.2 hnd
  rw [List.nodup_iff_pairwise_ne] at h2
  refine (h1.and h2).imp (fun {a b} h => ?_)
  have h3 := h.1
  have h4 := h.2
  simp only [decide_eq_true_eq] at h3
  omega
theorem sp_sortedI {β : Bs} (b bk n : Nat) (f : Lit → Option Value) (hn : n ≤ 16777216) :
    Spec Try.prog β 33 #[keysFn bk] [.abs (MapA Try.prog 3 b f n), .blk bk [.map (some b)] 69] (fun v l => ∃ A cap ss, v = .slice A ss.length cap ∧ KeysOf f ss ∧ ss.length = n ∧
      l = [.abs (MapA Try.prog 3 b f n), .blk bk [.map (some b)] 69, .abs (RowA 3 1 A ss.length cap (ints ss))]) := by
  intro R w hS
  obtain ⟨F1, h1⟩ := hS.get (i := 0) (p := .abs (MapA Try.prog 3 b f n)) rfl
  obtain ⟨F2, h2⟩ := hS.get (i := 1) (p := .blk bk [.map (some b)] 69) rfl
  obtain ⟨D, hown, hsz, hhas, _⟩ := h1.1
  have hcell : w.cell? ⟨bk, 0, none⟩ = some (.map (some b)) := (cell_of_blk h2.1 rfl rfl rfl).1
  have hseq : SeqGives Fence.wide 2 Try.prog 39 #[.pointer (some ⟨bk, 0, none⟩)] encZ (fun ss => ss.Perm (intKeys D)) (Maps.size D) w :=
    AnyZI.keys_gives (ρ := Try.keysI_ren) { Try.keysI with } Fence.wide _ trivial rfl (by omega) bk b n D w (lt_of_some h2.1) hcell hown
  have cS := AnyZI.sorted_in Try.sortedI Fence.wide 5 trivial trivial trivial trivial rfl (by omega) (sortsI _) (enters_of Try.func38 (by kernel_rfl) rfl) 39 #[.pointer (some ⟨bk, 0, none⟩)] trivial (enters_of Try.func39 (by kernel_rfl) rfl) _ _ (by rw [hsz]; unfold maxLen; omega) (by rw [hsz]; omega) _ hseq
  change CallsIn _ _ Try.prog 33 _ _ _ at cS
  refine ((callsIn_wide (n := 5)).1 cS).mono ?_
  rintro e w' ⟨v, ss, rfl, hp, hrow, hnil, hb⟩
  have hlen : (ss.mergeSort (fun x y => decide (x ≤ y))).length = ss.length := List.length_mergeSort ss
  have hkeys := intKeys_of Try.underlying3 lawI hown hhas hp
  have hshape : ∃ A cap, v = .slice A ss.length cap := by
    rcases hrow.2 with ⟨e1, e2⟩ | ⟨g, cp, cur, e1, _⟩
    · exact ⟨none, 0, by rw [e1, e2]⟩
    · exact ⟨_, cp, e1⟩
  obtain ⟨A, cap, rfl⟩ := hshape
  have hn1 : ss.length = n := by
    rw [hp.length_eq, ← hsz]
    obtain ⟨es, hD, _⟩ := hown.entries lawI
    rw [hD]
    exact List.length_map ..
  have hq : Sat β ([.abs (MapA Try.prog 3 b f n), .blk bk [.map (some b)] 69, .abs R] ++ [.abs (RowA 3 1 A ss.length cap (ints (ss.mergeSort (fun x y => decide (x ≤ y)))))]) w' := by
    refine Sat.new (F := fun k => (Value.slice A ss.length cap).ownBlock = some k) hS ⟨?_, fun k => Iff.rfl⟩ ⟨hb.os, hb.tape, hb.output, hb.size, fun k hk _ => hb.block k hk⟩ (fun k hk => (hrow.lt k hk).1)
    refine ⟨hrow.1, ?_⟩
    rcases hrow.2 with h | ⟨g, cp, cur, e1, _, h3, h4⟩
    · exact .inl h
    · exact .inr ⟨g, cp, cur, e1, Nat.zero_le _, h3, h4⟩
  refine ⟨_, [.abs (MapA Try.prog 3 b f n), .blk bk [.map (some b)] 69, .abs (RowA 3 1 A ss.length cap (ints (ss.mergeSort (fun x y => decide (x ≤ y)))))], rfl, ⟨A, cap, ss.mergeSort (fun x y => decide (x ≤ y)), by rw [hlen], hkeys, by rw [hlen]; exact hn1, by rw [hlen]⟩, ?_⟩
  exact hq.pick (idx := [0, 1, 3, 2]) rfl rfl
end Go.Proofs.Ytejnhhpjlajngaa
end
/- part TabQ. PROVED HERE: the contracts of slots.Table[int]'s methods, in the logic's form. CONDITIONS: as the theorems say. Printed by a program of this repo (wip/v/table.py). -/
section
namespace Go.Proofs.Ytejnhhpjlajngaa
open Go.RowKit HeapM TabM Go.Maps
attribute [local irreducible] TriL TriLQ Tri TriQ
theorem keys_of {us : Used Value} {ss : List Int} (hr : Rising (keys us)) (h : KeysOf (tabf us) ss) : ss = keys us := by
  refine sorted_eq h.sorted hr (fun z => ?_)
  rw [h.mem]
  show (TabM.get us z).isSome = true ↔ z ∈ keys us
  refine ⟨fun h => ?_, fun h => ?_⟩
  · obtain ⟨x, hx⟩ := Option.isSome_iff_exists.1 h; exact get_some hx
  · cases hg : TabM.get us z with
    | some x => rfl
    | none => exact absurd h (get_none.1 hg)
theorem TabA.factsI {t : Nat} {most peak : Int} {us : Used Value} {F : Fp} {w : World} (h : (HP.abs (TabA 71 t most peak us)).h F w) : TabM.Rising (keys us) ∧ (∀ x ∈ keys us, 1 ≤ x ∧ x ≤ peak) ∧ (us.length : Int) ≤ most ∧ most ≤ 1024 ∧ 0 ≤ peak ∧ peak ≤ 1024 := by
  obtain ⟨x, hT, _⟩ := h
  have h2 := hT.next2
  exact ⟨hT.ti.rise, fun z hz => by have := hT.ti.pos z hz; omega, hT.most0, hT.most1, hT.peak0⟩
set_option maxRecDepth 100000 in
set_option maxHeartbeats 4000000 in
theorem sp_tnewI {β : Bs} (most : Int) :
    Spec Try.prog β 21 #[.int .i64 (most)] [] (fun v l => ∃ t, v = .pointer (some ⟨t, 0, none⟩) ∧ l = [.abs (TabA 71 t (min (max most 0) 1024) 0 [])]) := by
 refine Spec.enter Try.func21 rfl Try.ntmps21 (Nat.le_of_ble_eq_true rfl) (fun R => ?_)
 refine Tri.seq (Tri.region ?_)
 refine TriL.segK (k' := 1) (fr' := [(0, .int .i64 (most))]) (obl := []) [o_] [0] (fun _ _ => by kernel_rfl) trivial ?_
 refine TriL.nil (by kernel_rfl) (TriQ.next (Tri.seq (Tri.region ?_)))
 refine TriL.segK (k' := 3) (fr' := [(5, .int .i64 (min (max most 0) 1024))]) (obl := [(Value.int .i64 (if 1024 < max most 0 then 1024 else max most 0)) = (.int .i64 (min (max most 0) 1024)), (Value.int .i64 (if 0 > most then 0 else most)) = (.int .i64 (max most 0))]) [o_, ⟨[], none, none, none, some (.int .i64 (max most 0))⟩, ⟨[], none, none, none, some (.int .i64 (min (max most 0) 1024))⟩] [5] (fun _ _ => by kernel_rfl) ⟨congrArg (Value.int .i64) (minIf _ _), congrArg (Value.int .i64) (maxIf _ _), trivial⟩ ?_
 refine TriL.mapMake (d := (some 6)) (t := 69) (fun _ => by kernel_rfl) Try.prog rfl 3 (fun m1 => ?_)
 refine TriL.segN (k' := 7) (fr' := fun b2 => [(2, .pointer (some ⟨b2, 0, none⟩))]) (hps' := fun b2 => [.abs R, .abs (MapA Try.prog 3 m1 (fun _ => none) 0), .blk b2 [.int .i64 (min (max most 0) 1024), .int .i64 0, .map (some m1), .slice none (0) (0), .int .i64 1] 71]) (obl := fun b2 => []) [o_, o_, o_] [2] [0, 1, 2] (fun _ _ => by kernel_rfl) (fun b2 => trivial) (fun b2 => ?_)
 refine TriL.nil (by kernel_rfl) (TriQ.next (Tri.ret ?_))
 refine TriQ.mem (hps' := [.abs R, .abs (MapA Try.prog 3 m1 (fun _ => none) 0), .blk b2 [.int .i64 (min (max most 0) 1024), .int .i64 0, .map (some m1), .slice none (0) (0), .int .i64 1] 71, .abs (RowA 3 1 none 0 0 ([]))]) (fun w hS => hS.rowNil (e := 3) (size := 1)) ?_
 refine TriQ.mem (hps' := [.abs R, .abs (TabA 71 b2 (min (max most 0) 1024) 0 [])]) (fun w hS => Sat.tabClose (l := [.abs R]) ⟨m1, none, 0, [], 1⟩ ⟨TI.empty, by show ((0 : Nat) : Int) ≤ min (max most 0) 1024; omega, by omega, by show (1 : Int) ≤ min (max most 0) 1024 + 1; omega, by show (1 : Int) ≤ 0 + 1; decide, by decide⟩ (by rw [← tabf_nil] at hS; exact hS.pick (idx := [0, 2, 1, 3]) (l' := [.abs R] ++ tabL 71 b2 (min (max most 0) 1024) 0 [] ⟨m1, none, 0, [], 1⟩) rfl rfl)) ?_
 exact TriQ.ret (v := .pointer (some ⟨b2, 0, none⟩)) (l := [.abs (TabA 71 b2 (min (max most 0) 1024) 0 [])]) (obl := []) [] [1, 0] (fun _ => by kernel_rfl) trivial rfl (by kernel_rfl) (⟨b2, rfl, rfl⟩)
set_option maxRecDepth 100000 in
set_option maxHeartbeats 4000000 in
theorem sp_tpeakI {β : Bs} (t : Nat) (most peak : Int) (us : Used Value) :
    Spec Try.prog β 25 #[.pointer (some ⟨t, 0, none⟩)] [.abs (TabA 71 t most peak us)] (fun v l => v = .int .i64 peak ∧ l = [.abs (TabA 71 t most peak us)]) := by
 refine Spec.enter Try.func25 rfl Try.ntmps25 (Nat.le_of_ble_eq_true rfl) (fun R => ?_)
 refine Tri.seq ?_
 refine Tri.memP (Φ := fun x : TX => TabOk x.next x.l us most peak) (hp := fun x => [.abs R] ++ tabL 71 t most peak us x) (fun w hS => (hS.pick (idx := [1, 0]) (l' := [.abs R] ++ [.abs (TabA 71 t most peak us)]) rfl rfl).tabOpen) (fun x hT => ?_)
 ·
  obtain ⟨m, A, c, l, next⟩ := x
  replace hT : TabOk next l us most peak := hT
  have hb := hT.bnd
  have hm0 := hT.most0
  have hm1 := hT.most1
  have hn1 := hT.next1
  have hn2 := hT.next2
  have hp0 := hT.peak0
  have hct := hT.ti.count
  show Tri _ _ _ _ [(0, .pointer (some ⟨t, 0, none⟩))] [.abs R, .blk t [.int .i64 (most), .int .i64 (peak), .map (some m), .slice A (l.length) (c), .int .i64 (next)] 71, .abs (MapA Try.prog 3 m (tabf us) us.length), .abs (RowA 3 1 A l.length c (ints l))] _
  refine Tri.region ?_
  refine TriL.segK (k' := 1) (fr' := [(0, .pointer (some ⟨t, 0, none⟩))]) (obl := []) [o_] [0] (fun _ _ => by kernel_rfl) trivial ?_
  refine TriL.nil (by kernel_rfl) (TriQ.next (Tri.seq (Tri.region ?_)))
  refine TriL.segK (k' := 5) (fr' := [(2, .int .i64 (peak))]) (obl := [t = t]) [o_, o_, o_, ⟨[.at 1], none, none, none, none⟩, o_] [2] (fun _ _ => by kernel_rfl) ⟨rfl, trivial⟩ ?_
  refine TriL.nil (by kernel_rfl) (TriQ.next (Tri.ret ?_))
  refine TriQ.mem (hps' := [.abs R, .abs (TabA 71 t most peak us)]) (fun w hS => Sat.tabClose (l := [.abs R]) ⟨m, A, c, l, next⟩ (show TabOk (next) l (us) most (peak) from hT) (hS.pick (idx := [0, 1, 2, 3]) (l' := [.abs R] ++ tabL 71 t most (peak) (us) ⟨m, A, c, l, next⟩) rfl rfl)) ?_
  exact TriQ.ret (v := .int .i64 (peak)) (l := [.abs (TabA 71 t most peak us)]) (obl := []) [] [1, 0] (fun _ => by kernel_rfl) trivial rfl (by kernel_rfl) (⟨rfl, rfl⟩)
set_option maxRecDepth 100000 in
set_option maxHeartbeats 4000000 in
theorem sp_tlenI {β : Bs} (t : Nat) (most peak : Int) (us : Used Value) :
    Spec Try.prog β 26 #[.pointer (some ⟨t, 0, none⟩)] [.abs (TabA 71 t most peak us)] (fun v l => v = .int .i64 ((us.length : Nat) : Int) ∧ l = [.abs (TabA 71 t most peak us)]) := by
 refine Spec.enter Try.func26 rfl Try.ntmps26 (Nat.le_of_ble_eq_true rfl) (fun R => ?_)
 refine Tri.seq ?_
 refine Tri.memP (Φ := fun x : TX => TabOk x.next x.l us most peak) (hp := fun x => [.abs R] ++ tabL 71 t most peak us x) (fun w hS => (hS.pick (idx := [1, 0]) (l' := [.abs R] ++ [.abs (TabA 71 t most peak us)]) rfl rfl).tabOpen) (fun x hT => ?_)
 ·
  obtain ⟨m, A, c, l, next⟩ := x
  replace hT : TabOk next l us most peak := hT
  have hb := hT.bnd
  have hm0 := hT.most0
  have hm1 := hT.most1
  have hn1 := hT.next1
  have hn2 := hT.next2
  have hp0 := hT.peak0
  have hct := hT.ti.count
  show Tri _ _ _ _ [(0, .pointer (some ⟨t, 0, none⟩))] [.abs R, .blk t [.int .i64 (most), .int .i64 (peak), .map (some m), .slice A (l.length) (c), .int .i64 (next)] 71, .abs (MapA Try.prog 3 m (tabf us) us.length), .abs (RowA 3 1 A l.length c (ints l))] _
  refine Tri.region ?_
  refine TriL.segK (k' := 1) (fr' := [(0, .pointer (some ⟨t, 0, none⟩))]) (obl := []) [o_] [0] (fun _ _ => by kernel_rfl) trivial ?_
  refine TriL.nil (by kernel_rfl) (TriQ.next (Tri.seq (Tri.region ?_)))
  refine TriL.segK (k' := 4) (fr' := [(6, .map (some m))]) (obl := [t = t]) [o_, o_, o_, ⟨[.at 1], none, none, none, none⟩] [6] (fun _ _ => by kernel_rfl) ⟨rfl, trivial⟩ ?_
  refine TriL.mapLen 2 (d := (some 7)) (t := 69) (K := 3) (E := 3) (b := m) (n := us.length) (f := (tabf us)) (x := (.tmp 6)) (ats := #[69]) (fun _ => by kernel_rfl) (by kernel_rfl) (fun _ => by kernel_rfl) rfl Try.underlying69 ?_
  refine TriL.segK (k' := 6) (fr' := [(2, .int .i64 ↑us.length)]) (obl := []) [o_] [2] (fun _ _ => by kernel_rfl) trivial ?_
  refine TriL.nil (by kernel_rfl) (TriQ.next (Tri.ret ?_))
  refine TriQ.mem (hps' := [.abs R, .abs (TabA 71 t most peak us)]) (fun w hS => Sat.tabClose (l := [.abs R]) ⟨m, A, c, l, next⟩ (show TabOk (next) l (us) most (peak) from hT) (hS.pick (idx := [0, 1, 2, 3]) (l' := [.abs R] ++ tabL 71 t most (peak) (us) ⟨m, A, c, l, next⟩) rfl rfl)) ?_
  exact TriQ.ret (v := .int .i64 ↑us.length) (l := [.abs (TabA 71 t most peak us)]) (obl := []) [] [1, 0] (fun _ => by kernel_rfl) trivial rfl (by kernel_rfl) (⟨rfl, rfl⟩)
set_option maxRecDepth 100000 in
set_option maxHeartbeats 4000000 in
theorem sp_tgetI {β : Bs} (t : Nat) (most peak : Int) (us : Used Value) (h : Int) (hw : (Lit.int .i64 h).wf = true) (x : Value) (hg : TabM.get us h = some x) :
    Spec Try.prog β 27 #[.pointer (some ⟨t, 0, none⟩), .int .i64 (h)] [.abs (TabA 71 t most peak us)] (fun v l => v = .tuple #[x, .int .i64 0] ∧ l = [.abs (TabA 71 t most peak us)]) := by
 refine Spec.enter Try.func27 rfl Try.ntmps27 (Nat.le_of_ble_eq_true rfl) (fun R => ?_)
 refine Tri.seq ?_
 refine Tri.memP (Φ := fun x : TX => TabOk x.next x.l us most peak) (hp := fun x => [.abs R] ++ tabL 71 t most peak us x) (fun w hS => (hS.pick (idx := [1, 0]) (l' := [.abs R] ++ [.abs (TabA 71 t most peak us)]) rfl rfl).tabOpen) (fun x hT => ?_)
 ·
  obtain ⟨m, A, c, l, next⟩ := x
  replace hT : TabOk next l us most peak := hT
  have hb := hT.bnd
  have hm0 := hT.most0
  have hm1 := hT.most1
  have hn1 := hT.next1
  have hn2 := hT.next2
  have hp0 := hT.peak0
  have hct := hT.ti.count
  show Tri _ _ _ _ [(0, .pointer (some ⟨t, 0, none⟩)), (1, .int .i64 (h))] [.abs R, .blk t [.int .i64 (most), .int .i64 (peak), .map (some m), .slice A (l.length) (c), .int .i64 (next)] 71, .abs (MapA Try.prog 3 m (tabf us) us.length), .abs (RowA 3 1 A l.length c (ints l))] _
  refine Tri.region ?_
  refine TriL.segK (k' := 2) (fr' := [(0, .pointer (some ⟨t, 0, none⟩)), (1, .int .i64 (h))]) (obl := []) [o_, o_] [0, 1] (fun _ _ => by kernel_rfl) trivial ?_
  refine TriL.nil (by kernel_rfl) (TriQ.next (Tri.seq (Tri.region ?_)))
  refine TriL.segK (k' := 5) (fr' := [(12, .map (some m)), (13, .int .i64 (h))]) (obl := [t = t]) [o_, o_, o_, ⟨[.at 1], none, none, none, none⟩, o_] [12, 13] (fun _ _ => by kernel_rfl) ⟨rfl, trivial⟩ ?_
  refine TriL.mapLookOk 2 (d := (some 14)) (t := 69) (K := 3) (E := 3) (b := m) (n := us.length) (f := (tabf us)) (x := (.tmp 12)) (ix := (.tmp 13)) (key := .int .i64 (h)) (z := .int .i64 0) (kl := (.int .i64 h)) (r := (some x)) (fun _ => by kernel_rfl) (by kernel_rfl) (fun _ => by kernel_rfl) (fun _ => by kernel_rfl) lawI Try.underlying69 (fun _ => by kernel_rfl) (keyW hw) (hg) ?_
  refine TriL.segK (k' := 11) (fr' := [(6, x), (7, .bool true)]) (obl := []) [o_, o_, o_, o_, o_] [6, 7] (fun _ _ => by kernel_rfl) trivial ?_
  refine TriL.nil (by kernel_rfl) (TriQ.next (Tri.seq (Tri.seq (Tri.region ?_))))
  refine TriL.segK (k' := 2) (fr' := [(6, x), (18, .bool false)]) (obl := []) [o_, o_] [6, 18] (fun _ _ => by kernel_rfl) trivial ?_
  refine TriL.nil (by kernel_rfl) (TriQ.next ?_)
  refine Tri.condF (fun _ => by kernel_rfl) ?_
  refine Tri.skip (TriQ.next (Tri.seq (Tri.region ?_)))
  refine TriL.segK (k' := 3) (fr' := [(4, x), (5, .int .i64 0)]) (obl := []) [o_, o_, o_] [4, 5] (fun _ _ => by kernel_rfl) trivial ?_
  refine TriL.nil (by kernel_rfl) (TriQ.next (Tri.ret ?_))
  refine TriQ.mem (hps' := [.abs R, .abs (TabA 71 t most peak us)]) (fun w hS => Sat.tabClose (l := [.abs R]) ⟨m, A, c, l, next⟩ (show TabOk (next) l (us) most (peak) from hT) (hS.pick (idx := [0, 1, 2, 3]) (l' := [.abs R] ++ tabL 71 t most (peak) (us) ⟨m, A, c, l, next⟩) rfl rfl)) ?_
  exact TriQ.ret (v := .tuple #[x, .int .i64 0]) (l := [.abs (TabA 71 t most peak us)]) (obl := []) [] [1, 0] (fun _ => by kernel_rfl) trivial rfl (by kernel_rfl) (⟨rfl, rfl⟩)
set_option maxRecDepth 100000 in
set_option maxHeartbeats 4000000 in
theorem sp_tmissI {β : Bs} (t : Nat) (most peak : Int) (us : Used Value) (h : Int) (hw : (Lit.int .i64 h).wf = true) (hg : TabM.get us h = none) :
    Spec Try.prog β 27 #[.pointer (some ⟨t, 0, none⟩), .int .i64 (h)] [.abs (TabA 71 t most peak us)] (fun v l => v = .tuple #[.int .i64 0, .int .i64 131] ∧ l = [.abs (TabA 71 t most peak us)]) := by
 refine Spec.enter Try.func27 rfl Try.ntmps27 (Nat.le_of_ble_eq_true rfl) (fun R => ?_)
 refine Tri.seq ?_
 refine Tri.memP (Φ := fun x : TX => TabOk x.next x.l us most peak) (hp := fun x => [.abs R] ++ tabL 71 t most peak us x) (fun w hS => (hS.pick (idx := [1, 0]) (l' := [.abs R] ++ [.abs (TabA 71 t most peak us)]) rfl rfl).tabOpen) (fun x hT => ?_)
 ·
  obtain ⟨m, A, c, l, next⟩ := x
  replace hT : TabOk next l us most peak := hT
  have hb := hT.bnd
  have hm0 := hT.most0
  have hm1 := hT.most1
  have hn1 := hT.next1
  have hn2 := hT.next2
  have hp0 := hT.peak0
  have hct := hT.ti.count
  show Tri _ _ _ _ [(0, .pointer (some ⟨t, 0, none⟩)), (1, .int .i64 (h))] [.abs R, .blk t [.int .i64 (most), .int .i64 (peak), .map (some m), .slice A (l.length) (c), .int .i64 (next)] 71, .abs (MapA Try.prog 3 m (tabf us) us.length), .abs (RowA 3 1 A l.length c (ints l))] _
  refine Tri.region ?_
  refine TriL.segK (k' := 2) (fr' := [(0, .pointer (some ⟨t, 0, none⟩)), (1, .int .i64 (h))]) (obl := []) [o_, o_] [0, 1] (fun _ _ => by kernel_rfl) trivial ?_
  refine TriL.nil (by kernel_rfl) (TriQ.next (Tri.seq (Tri.region ?_)))
  refine TriL.segK (k' := 5) (fr' := [(12, .map (some m)), (13, .int .i64 (h))]) (obl := [t = t]) [o_, o_, o_, ⟨[.at 1], none, none, none, none⟩, o_] [12, 13] (fun _ _ => by kernel_rfl) ⟨rfl, trivial⟩ ?_
  refine TriL.mapLookOk 2 (d := (some 14)) (t := 69) (K := 3) (E := 3) (b := m) (n := us.length) (f := (tabf us)) (x := (.tmp 12)) (ix := (.tmp 13)) (key := .int .i64 (h)) (z := .int .i64 0) (kl := (.int .i64 h)) (r := none) (fun _ => by kernel_rfl) (by kernel_rfl) (fun _ => by kernel_rfl) (fun _ => by kernel_rfl) lawI Try.underlying69 (fun _ => by kernel_rfl) (keyW hw) (hg) ?_
  refine TriL.segK (k' := 11) (fr' := [(6, .int .i64 0), (7, .bool false)]) (obl := []) [o_, o_, o_, o_, o_] [6, 7] (fun _ _ => by kernel_rfl) trivial ?_
  refine TriL.nil (by kernel_rfl) (TriQ.next (Tri.seq (Tri.seq (Tri.region ?_))))
  refine TriL.segK (k' := 2) (fr' := [(6, .int .i64 0), (18, .bool true)]) (obl := []) [o_, o_] [6, 18] (fun _ _ => by kernel_rfl) trivial ?_
  refine TriL.nil (by kernel_rfl) (TriQ.next ?_)
  refine Tri.condT (fun _ => by kernel_rfl) ?_
  refine Tri.seq (Tri.region ?_)
  refine TriL.segK (k' := 3) (fr' := [(4, .int .i64 0), (5, .int .i64 131)]) (obl := []) [o_, o_, o_] [4, 5] (fun _ _ => by kernel_rfl) trivial ?_
  refine TriL.nil (by kernel_rfl) (TriQ.next (Tri.ret (TriQ.passRet ?_)))
  refine TriQ.mem (hps' := [.abs R, .abs (TabA 71 t most peak us)]) (fun w hS => Sat.tabClose (l := [.abs R]) ⟨m, A, c, l, next⟩ (show TabOk (next) l (us) most (peak) from hT) (hS.pick (idx := [0, 1, 2, 3]) (l' := [.abs R] ++ tabL 71 t most (peak) (us) ⟨m, A, c, l, next⟩) rfl rfl)) ?_
  exact TriQ.ret (v := .tuple #[.int .i64 0, .int .i64 131]) (l := [.abs (TabA 71 t most peak us)]) (obl := []) [] [1, 0] (fun _ => by kernel_rfl) trivial rfl (by kernel_rfl) (⟨rfl, rfl⟩)
set_option maxRecDepth 100000 in
set_option maxHeartbeats 4000000 in
theorem sp_tfullI {β : Bs} (t : Nat) (most peak : Int) (us : Used Value) (x : Value) (hf : most ≤ (us.length : Int)) :
    Spec Try.prog β 22 #[.pointer (some ⟨t, 0, none⟩), x] [.abs (TabA 71 t most peak us)] (fun v l => v = .tuple #[.int .i64 0, .int .i64 130] ∧ l = [.abs (TabA 71 t most peak us)]) := by
 refine Spec.enter Try.func22 rfl Try.ntmps22 (Nat.le_of_ble_eq_true rfl) (fun R => ?_)
 refine Tri.seq ?_
 refine Tri.memP (Φ := fun x : TX => TabOk x.next x.l us most peak) (hp := fun x => [.abs R] ++ tabL 71 t most peak us x) (fun w hS => (hS.pick (idx := [1, 0]) (l' := [.abs R] ++ [.abs (TabA 71 t most peak us)]) rfl rfl).tabOpen) (fun x hT => ?_)
 ·
  obtain ⟨m, A, c, l, next⟩ := x
  replace hT : TabOk next l us most peak := hT
  have hb := hT.bnd
  have hm0 := hT.most0
  have hm1 := hT.most1
  have hn1 := hT.next1
  have hn2 := hT.next2
  have hp0 := hT.peak0
  have hct := hT.ti.count
  show Tri _ _ _ _ [(0, .pointer (some ⟨t, 0, none⟩)), (1, x)] [.abs R, .blk t [.int .i64 (most), .int .i64 (peak), .map (some m), .slice A (l.length) (c), .int .i64 (next)] 71, .abs (MapA Try.prog 3 m (tabf us) us.length), .abs (RowA 3 1 A l.length c (ints l))] _
  refine Tri.region ?_
  refine TriL.segK (k' := 2) (fr' := [(0, .pointer (some ⟨t, 0, none⟩)), (1, x)]) (obl := []) [o_, o_] [0, 1] (fun _ _ => by kernel_rfl) trivial ?_
  refine TriL.nil (by kernel_rfl) (TriQ.next (Tri.seq (Tri.seq ?_)))
  refine Tri.regionQ (by kernel_rfl) (by kernel_rfl) ?_
  refine TriLQ.seg (k' := 4) (fr' := [(0, .pointer (some ⟨t, 0, none⟩)), (1, x), (10, .map (some m))]) (obl := [t = t]) [o_, o_, o_, ⟨[.at 1], none, none, none, none⟩] [0, 1, 10] (fun _ _ => by kernel_rfl) ⟨rfl, trivial⟩ ?_
  refine TriLQ.mapLen 2 (d := (some 11)) (t := 69) (K := 3) (E := 3) (b := m) (n := us.length) (f := (tabf us)) (x := (.tmp 10)) (ats := #[69]) (fun _ => by kernel_rfl) (by kernel_rfl) (fun _ => by kernel_rfl) rfl Try.underlying69 ?_
  refine TriLQ.seg (k' := 10) (fr' := [(0, .pointer (some ⟨t, 0, none⟩)), (1, x), (16, .bool (decide ((((us.length : Nat) : Int) : Int) ≥ (most : Int))))]) (obl := [t = t]) [o_, o_, o_, ⟨[.at 1], none, none, none, none⟩, o_] [0, 1, 16] (fun _ _ => by kernel_rfl) ⟨rfl, trivial⟩ ?_
  refine TriLQ.nil (by kernel_rfl) (TriQ.next ?_)
  refine Tri.condP (p := (((us.length : Nat) : Int) : Int) ≥ (most : Int)) (fun _ => by kernel_rfl) (fun h16 => ?_) (fun h16 => ?_)
  ·
   refine Tri.seq (Tri.region ?_)
   refine TriL.segK (k' := 2) (fr' := [(4, .int .i64 0), (5, .int .i64 130)]) (obl := []) [o_, o_] [4, 5] (fun _ _ => by kernel_rfl) trivial ?_
   refine TriL.nil (by kernel_rfl) (TriQ.next (Tri.ret (TriQ.passRet ?_)))
   refine TriQ.mem (hps' := [.abs R, .abs (TabA 71 t most peak us)]) (fun w hS => Sat.tabClose (l := [.abs R]) ⟨m, A, c, l, next⟩ (show TabOk (next) l (us) most (peak) from hT) (hS.pick (idx := [0, 1, 2, 3]) (l' := [.abs R] ++ tabL 71 t most (peak) (us) ⟨m, A, c, l, next⟩) rfl rfl)) ?_
   exact TriQ.ret (v := .tuple #[.int .i64 0, .int .i64 130]) (l := [.abs (TabA 71 t most peak us)]) (obl := []) [] [1, 0] (fun _ => by kernel_rfl) trivial rfl (by kernel_rfl) (⟨rfl, rfl⟩)
  ·
   exact absurd h16 (by omega)
set_option maxRecDepth 100000 in
set_option maxHeartbeats 4000000 in
theorem sp_tputI {β : Bs} (t : Nat) (most peak : Int) (us : Used Value) (x : Value) (hf : (us.length : Int) < most) :
    Spec Try.prog β 22 #[.pointer (some ⟨t, 0, none⟩), x] [.abs (TabA 71 t most peak us)] (fun v l => v = .tuple #[.int .i64 (least us), .int .i64 0] ∧ l = [.abs (TabA 71 t most (max peak ((us.length : Int) + 1)) (ins (least us) x us))]) := by
 refine Spec.enter Try.func22 rfl Try.ntmps22 (Nat.le_of_ble_eq_true rfl) (fun R => ?_)
 refine Tri.seq ?_
 refine Tri.memP (Φ := fun x : TX => TabOk x.next x.l us most peak) (hp := fun x => [.abs R] ++ tabL 71 t most peak us x) (fun w hS => (hS.pick (idx := [1, 0]) (l' := [.abs R] ++ [.abs (TabA 71 t most peak us)]) rfl rfl).tabOpen) (fun x hT => ?_)
 ·
  obtain ⟨m, A, c, l, next⟩ := x
  replace hT : TabOk next l us most peak := hT
  have hb := hT.bnd
  have hm0 := hT.most0
  have hm1 := hT.most1
  have hn1 := hT.next1
  have hn2 := hT.next2
  have hp0 := hT.peak0
  have hct := hT.ti.count
  show Tri _ _ _ _ [(0, .pointer (some ⟨t, 0, none⟩)), (1, x)] [.abs R, .blk t [.int .i64 (most), .int .i64 (peak), .map (some m), .slice A (l.length) (c), .int .i64 (next)] 71, .abs (MapA Try.prog 3 m (tabf us) us.length), .abs (RowA 3 1 A l.length c (ints l))] _
  refine Tri.region ?_
  refine TriL.segK (k' := 2) (fr' := [(0, .pointer (some ⟨t, 0, none⟩)), (1, x)]) (obl := []) [o_, o_] [0, 1] (fun _ _ => by kernel_rfl) trivial ?_
  refine TriL.nil (by kernel_rfl) (TriQ.next (Tri.seq (Tri.seq ?_)))
  refine Tri.regionQ (by kernel_rfl) (by kernel_rfl) ?_
  refine TriLQ.seg (k' := 4) (fr' := [(0, .pointer (some ⟨t, 0, none⟩)), (1, x), (10, .map (some m))]) (obl := [t = t]) [o_, o_, o_, ⟨[.at 1], none, none, none, none⟩] [0, 1, 10] (fun _ _ => by kernel_rfl) ⟨rfl, trivial⟩ ?_
  refine TriLQ.mapLen 2 (d := (some 11)) (t := 69) (K := 3) (E := 3) (b := m) (n := us.length) (f := (tabf us)) (x := (.tmp 10)) (ats := #[69]) (fun _ => by kernel_rfl) (by kernel_rfl) (fun _ => by kernel_rfl) rfl Try.underlying69 ?_
  refine TriLQ.seg (k' := 10) (fr' := [(0, .pointer (some ⟨t, 0, none⟩)), (1, x), (16, .bool (decide ((((us.length : Nat) : Int) : Int) ≥ (most : Int))))]) (obl := [t = t]) [o_, o_, o_, ⟨[.at 1], none, none, none, none⟩, o_] [0, 1, 16] (fun _ _ => by kernel_rfl) ⟨rfl, trivial⟩ ?_
  refine TriLQ.nil (by kernel_rfl) (TriQ.next ?_)
  refine Tri.condP (p := (((us.length : Nat) : Int) : Int) ≥ (most : Int)) (fun _ => by kernel_rfl) (fun h16 => ?_) (fun h16 => ?_)
  ·
   exact absurd h16 (by omega)
  ·
   refine Tri.skip (TriQ.next (Tri.seq (Tri.region ?_)))
   refine TriL.segK (k' := 5) (fr' := [(0, .pointer (some ⟨t, 0, none⟩)), (1, x), (6, .int .i64 (next))]) (obl := [t = t]) [o_, o_, o_, ⟨[.at 1], none, none, none, none⟩, o_] [0, 1, 6] (fun _ _ => by kernel_rfl) ⟨rfl, trivial⟩ ?_
   refine TriL.nil (by kernel_rfl) (TriQ.next (Tri.seq (Tri.seq (Tri.region ?_))))
   refine TriL.segK (k' := 6) (fr' := [(0, .pointer (some ⟨t, 0, none⟩)), (1, x), (6, .int .i64 (next)), (26, .bool (decide ((((l.length : Nat) : Int) : Int) > (0 : Int))))]) (obl := [t = t]) [o_, o_, o_, ⟨[.at 1], none, none, none, none⟩, o_, o_] [0, 1, 6, 26] (fun _ _ => by kernel_rfl) ⟨rfl, trivial⟩ ?_
   refine TriL.nil (by kernel_rfl) (TriQ.next ?_)
   refine Tri.condP (p := (((l.length : Nat) : Int) : Int) > (0 : Int)) (fun _ => by kernel_rfl) (fun h26 => ?_) (fun h26 => ?_)
   ·
    refine Tri.region ?_
    obtain ⟨n, hn⟩ : ∃ n, l.length = n + 1 := ⟨l.length - 1, by omega⟩
    refine TriL.tell (p := ∃ g, A = some ⟨g, 0, none⟩) (fun w hS => let ⟨F, h⟩ := hS.get (i := 3) rfl; RowA.head h (by omega)) (fun ⟨g, hg⟩ => ?_)
    subst hg
    refine TriL.segK (k' := 4) (fr' := [(0, .pointer (some ⟨t, 0, none⟩)), (1, x), (31, .iface 66 (.pointer (some ⟨t, 3, none⟩)))]) (obl := []) [o_, o_, o_, o_] [0, 1, 31] (fun _ _ => by kernel_rfl) trivial ?_
    refine TriL.call (f := 30) (args := #[.iface 66 (.pointer (some ⟨t, 3, none⟩))]) (d := (some 32)) (pre := [.blk t [.int .i64 (most), .int .i64 (peak), .map (some m), .slice (some ⟨g, 0, none⟩) (l.length) (c), .int .i64 (next)] 71, .abs (RowA 3 1 (some ⟨g, 0, none⟩) l.length c (ints l))]) (R := [.abs R, .abs (MapA Try.prog 3 m (tabf us) us.length)]) (pk := [1, 3, 0, 2]) (fun _ => by kernel_rfl) (sp_pop hn (by have := hT.ti.heap; rwa [hn] at this) hT.ti.inj (by omega)) rfl (by kernel_rfl) ?_
    rintro _ _ ⟨rfl, l2, rfl, hp2, hi2, hm2, rfl⟩
    refine TriL.segK (k' := 10) (fr' := [(0, .pointer (some ⟨t, 0, none⟩)), (1, x), (6, .int .i64 ((at_ l 0)))]) (obl := []) [o_, o_, o_, o_, o_] [0, 1, 6] (fun _ _ => by kernel_rfl) trivial ?_
    refine TriL.nil (by kernel_rfl) (TriQ.next (Tri.seq (Tri.region ?_)))
    refine TriL.slot 6 (.int .i64 ((at_ l 0))) (.int .i64 ((least us))) (fun _ => by kernel_rfl) (by rw [hT.ti.least_back (by omega)]) ?_
    refine TriL.segK (k' := 6) (fr' := [(0, .pointer (some ⟨t, 0, none⟩)), (6, .int .i64 ((least us))), (46, .map (some m)), (47, .int .i64 ((least us))), (48, x)]) (obl := [t = t]) [o_, o_, o_, ⟨[.at 0], none, none, none, none⟩, o_, o_] [0, 6, 46, 47, 48] (fun _ _ => by kernel_rfl) ⟨rfl, trivial⟩ ?_
    refine TriL.mapSet 3 (d := none) (t := 69) (K := 3) (E := 3) (b := m) (n := us.length) (f := (tabf us)) (x := (.tmp 46)) (ix := (.tmp 47)) (y := (.tmp 48)) (key := .int .i64 ((least us))) (u := x) (kl := (.int .i64 (least us))) (n' := (us.length + 1)) (f' := (tabf (ins (least us) x us))) (fun _ => by kernel_rfl) (by kernel_rfl) (fun _ => by kernel_rfl) (fun _ => by kernel_rfl) (fun _ => by kernel_rfl) lawI Try.underlying69 (by unfold maxLen; omega) (keyI (by omega) (by omega)) (by rw [tabf_none hb.2.2.1]; rfl) (upd_ins hb.2.2.1 x) ?_
    refine TriL.nil (by kernel_rfl) (TriQ.next (Tri.seq ?_))
    refine Tri.regionStill 13 (by kernel_rfl) (by kernel_rfl) ?_
    refine TriLS.seg (k' := 9) (fr' := [(6, .int .i64 ((least us))), (49, .pointer (some ⟨t, 0, none⟩)), (53, .int .i64 (peak)), (57, .map (some m))]) (obl := [t = t, t = t]) [o_, o_, o_, o_, ⟨[.at 0], none, none, none, none⟩, o_, o_, o_, ⟨[.at 0], none, none, none, none⟩] [6, 49, 53, 57] (fun _ _ => by kernel_rfl) ⟨rfl, rfl, trivial⟩ (by decide) ?_
    refine TriLS.mapLen 3 (d := (some 58)) (t := 69) (K := 3) (E := 3) (b := m) (cnt := (us.length + 1)) (f := (tabf (ins (least us) x us))) (x := (.tmp 57)) (ats := #[69]) (fun _ => by kernel_rfl) (by kernel_rfl) (fun _ => by kernel_rfl) rfl Try.underlying69 (by decide) ?_
    refine TriLS.seg (k' := 13) (fr' := [(6, .int .i64 ((least us))), (59, .int .i64 ((max peak ((us.length : Int) + 1)))), (61, .pointer (some ⟨t, 1, none⟩))]) (obl := [(Value.int .i64 (if (((us.length + 1) : Nat) : Int) > peak then (((us.length + 1) : Nat) : Int) else peak)) = (.int .i64 ((max peak ((us.length : Int) + 1))))]) [⟨[], none, none, none, some (.int .i64 ((max peak ((us.length : Int) + 1))))⟩, o_, o_] [6, 59, 61] (fun _ _ => by kernel_rfl) ⟨by rw [maxIf]; rfl, trivial⟩ (by decide) ?_
    refine TriLS.done rfl ?_
    refine TriL.seg (k' := 14) (fr' := [(6, .int .i64 ((least us)))]) (hps' := [.blk t [.int .i64 (most), .int .i64 ((max peak ((us.length : Int) + 1))), .map (some m), .slice (some ⟨g, 0, none⟩) (l2.length) (c), .int .i64 (next)] 71, .abs (RowA 3 1 (some ⟨g, 0, none⟩) l2.length c (ints l2)), .abs R, .abs (MapA Try.prog 3 m (tabf (ins (least us) x us)) (us.length + 1))]) (obl := [t = t]) [⟨[.at 0], none, none, none, none⟩] [6] [0, 1, 2, 3] (fun _ _ => by kernel_rfl) ⟨rfl, trivial⟩ ?_
    refine TriL.nil (by kernel_rfl) (TriQ.next (Tri.seq (Tri.region ?_)))
    refine TriL.segK (k' := 3) (fr' := [(4, .int .i64 ((least us))), (5, .int .i64 0)]) (obl := []) [o_, o_, o_] [4, 5] (fun _ _ => by kernel_rfl) trivial ?_
    refine TriL.nil (by kernel_rfl) (TriQ.next (Tri.ret ?_))
    refine TriQ.mem (hps' := [.blk t [.int .i64 (most), .int .i64 ((max peak ((us.length : Int) + 1))), .map (some m), .slice (some ⟨g, 0, none⟩) (l2.length) (c), .int .i64 (next)] 71, .abs (RowA 3 1 (some ⟨g, 0, none⟩) l2.length c (ints l2)), .abs R, .abs (MapA Try.prog 3 m (tabf (ins (least us) x us)) ((ins (least us) x us).length))]) (fun w hS => by rw [len_ins]; exact hS) ?_
    refine TriQ.mem (hps' := [.abs R, .abs (TabA 71 t most (max peak ((us.length : Int) + 1)) (ins (least us) x us))]) (fun w hS => Sat.tabClose (l := [.abs R]) ⟨m, some ⟨g, 0, none⟩, c, l2, next⟩ (show TabOk (next) l2 ((ins (least us) x us)) most ((max peak ((us.length : Int) + 1))) from ⟨by rw [hT.ti.least_back (by omega)]; exact hT.ti.put_back (by omega) x (by omega) hp2 hi2 hm2, by rw [len_ins]; omega, by omega, by omega, by omega, by omega⟩) (hS.pick (idx := [2, 0, 3, 1]) (l' := [.abs R] ++ tabL 71 t most ((max peak ((us.length : Int) + 1))) ((ins (least us) x us)) ⟨m, some ⟨g, 0, none⟩, c, l2, next⟩) rfl rfl)) ?_
    exact TriQ.ret (v := .tuple #[.int .i64 ((least us)), .int .i64 0]) (l := [.abs (TabA 71 t most (max peak ((us.length : Int) + 1)) (ins (least us) x us))]) (obl := []) [] [1, 0] (fun _ => by kernel_rfl) trivial rfl (by kernel_rfl) (⟨rfl, rfl⟩)
   ·
    refine Tri.region ?_
    have hl0 : l = [] := List.eq_nil_of_length_eq_zero (by omega)
    have hl1 : l.length = 0 := by rw [hl0]; rfl
    have hl2 : TI next [] us := hl0 ▸ hT.ti
    refine TriL.seg (k' := 8) (fr' := [(0, .pointer (some ⟨t, 0, none⟩)), (1, x), (6, .int .i64 (next))]) (hps' := [.abs R, .blk t [.int .i64 (most), .int .i64 (peak), .map (some m), .slice A (l.length) (c), .int .i64 ((next + 1))] 71, .abs (MapA Try.prog 3 m (tabf us) us.length), .abs (RowA 3 1 A l.length c (ints l))]) (obl := [t = t, (Value.int .i64 (IntKind.wrap .i64 (next + 1))) = (.int .i64 ((next + 1))), t = t]) [o_, o_, o_, ⟨[.at 1], none, none, none, none⟩, ⟨[], none, none, none, some (.int .i64 ((next + 1)))⟩, o_, o_, ⟨[.at 1], none, none, none, none⟩] [0, 1, 6] [0, 1, 2, 3] (fun _ _ => by kernel_rfl) ⟨rfl, wrapEq rfl (by omega) (by omega), rfl, trivial⟩ ?_
    refine TriL.nil (by kernel_rfl) (TriQ.next (Tri.seq (Tri.region ?_)))
    refine TriL.slot 6 (.int .i64 (next)) (.int .i64 ((least us))) (fun _ => by kernel_rfl) (by rw [hl2.least_next]) ?_
    refine TriL.segK (k' := 6) (fr' := [(0, .pointer (some ⟨t, 0, none⟩)), (6, .int .i64 ((least us))), (46, .map (some m)), (47, .int .i64 ((least us))), (48, x)]) (obl := [t = t]) [o_, o_, o_, ⟨[.at 1], none, none, none, none⟩, o_, o_] [0, 6, 46, 47, 48] (fun _ _ => by kernel_rfl) ⟨rfl, trivial⟩ ?_
    refine TriL.mapSet 2 (d := none) (t := 69) (K := 3) (E := 3) (b := m) (n := us.length) (f := (tabf us)) (x := (.tmp 46)) (ix := (.tmp 47)) (y := (.tmp 48)) (key := .int .i64 ((least us))) (u := x) (kl := (.int .i64 (least us))) (n' := (us.length + 1)) (f' := (tabf (ins (least us) x us))) (fun _ => by kernel_rfl) (by kernel_rfl) (fun _ => by kernel_rfl) (fun _ => by kernel_rfl) (fun _ => by kernel_rfl) lawI Try.underlying69 (by unfold maxLen; omega) (keyI (by omega) (by omega)) (by rw [tabf_none hb.2.2.1]; rfl) (upd_ins hb.2.2.1 x) ?_
    refine TriL.nil (by kernel_rfl) (TriQ.next (Tri.seq ?_))
    refine Tri.regionStill 13 (by kernel_rfl) (by kernel_rfl) ?_
    refine TriLS.seg (k' := 9) (fr' := [(6, .int .i64 ((least us))), (49, .pointer (some ⟨t, 0, none⟩)), (53, .int .i64 (peak)), (57, .map (some m))]) (obl := [t = t, t = t]) [o_, o_, o_, o_, ⟨[.at 1], none, none, none, none⟩, o_, o_, o_, ⟨[.at 1], none, none, none, none⟩] [6, 49, 53, 57] (fun _ _ => by kernel_rfl) ⟨rfl, rfl, trivial⟩ (by decide) ?_
    refine TriLS.mapLen 2 (d := (some 58)) (t := 69) (K := 3) (E := 3) (b := m) (cnt := (us.length + 1)) (f := (tabf (ins (least us) x us))) (x := (.tmp 57)) (ats := #[69]) (fun _ => by kernel_rfl) (by kernel_rfl) (fun _ => by kernel_rfl) rfl Try.underlying69 (by decide) ?_
    refine TriLS.seg (k' := 13) (fr' := [(6, .int .i64 ((least us))), (59, .int .i64 ((max peak ((us.length : Int) + 1)))), (61, .pointer (some ⟨t, 1, none⟩))]) (obl := [(Value.int .i64 (if (((us.length + 1) : Nat) : Int) > peak then (((us.length + 1) : Nat) : Int) else peak)) = (.int .i64 ((max peak ((us.length : Int) + 1))))]) [⟨[], none, none, none, some (.int .i64 ((max peak ((us.length : Int) + 1))))⟩, o_, o_] [6, 59, 61] (fun _ _ => by kernel_rfl) ⟨by rw [maxIf]; rfl, trivial⟩ (by decide) ?_
    refine TriLS.done rfl ?_
    refine TriL.seg (k' := 14) (fr' := [(6, .int .i64 ((least us)))]) (hps' := [.abs R, .blk t [.int .i64 (most), .int .i64 ((max peak ((us.length : Int) + 1))), .map (some m), .slice A (l.length) (c), .int .i64 ((next + 1))] 71, .abs (MapA Try.prog 3 m (tabf (ins (least us) x us)) (us.length + 1)), .abs (RowA 3 1 A l.length c (ints l))]) (obl := [t = t]) [⟨[.at 1], none, none, none, none⟩] [6] [0, 1, 2, 3] (fun _ _ => by kernel_rfl) ⟨rfl, trivial⟩ ?_
    refine TriL.nil (by kernel_rfl) (TriQ.next (Tri.seq (Tri.region ?_)))
    refine TriL.segK (k' := 3) (fr' := [(4, .int .i64 ((least us))), (5, .int .i64 0)]) (obl := []) [o_, o_, o_] [4, 5] (fun _ _ => by kernel_rfl) trivial ?_
    refine TriL.nil (by kernel_rfl) (TriQ.next (Tri.ret ?_))
    refine TriQ.mem (hps' := [.abs R, .blk t [.int .i64 (most), .int .i64 ((max peak ((us.length : Int) + 1))), .map (some m), .slice A (l.length) (c), .int .i64 ((next + 1))] 71, .abs (MapA Try.prog 3 m (tabf (ins (least us) x us)) ((ins (least us) x us).length)), .abs (RowA 3 1 A l.length c (ints l))]) (fun w hS => by rw [len_ins]; exact hS) ?_
    refine TriQ.mem (hps' := [.abs R, .abs (TabA 71 t most (max peak ((us.length : Int) + 1)) (ins (least us) x us))]) (fun w hS => Sat.tabClose (l := [.abs R]) ⟨m, A, c, l, (next + 1)⟩ (show TabOk ((next + 1)) l ((ins (least us) x us)) most ((max peak ((us.length : Int) + 1))) from ⟨by rw [hl2.least_next, hl0]; exact hl2.put_next x, by rw [len_ins]; omega, by omega, by omega, by omega, by omega⟩) (hS.pick (idx := [0, 1, 2, 3]) (l' := [.abs R] ++ tabL 71 t most ((max peak ((us.length : Int) + 1))) ((ins (least us) x us)) ⟨m, A, c, l, (next + 1)⟩) rfl rfl)) ?_
    exact TriQ.ret (v := .tuple #[.int .i64 ((least us)), .int .i64 0]) (l := [.abs (TabA 71 t most (max peak ((us.length : Int) + 1)) (ins (least us) x us))]) (obl := []) [] [1, 0] (fun _ => by kernel_rfl) trivial rfl (by kernel_rfl) (⟨rfl, rfl⟩)
set_option maxRecDepth 100000 in
set_option maxHeartbeats 4000000 in
theorem sp_tdropI {β : Bs} (t : Nat) (most peak : Int) (us : Used Value) (h : Int) (hw : (Lit.int .i64 h).wf = true) (x : Value) (hg : TabM.get us h = some x) :
    Spec Try.prog β 24 #[.pointer (some ⟨t, 0, none⟩), .int .i64 (h)] [.abs (TabA 71 t most peak us)] (fun v l => v = .tuple #[x, .int .i64 0] ∧ l = [.abs (TabA 71 t most peak (del h us))]) := by
 refine Spec.enter Try.func24 rfl Try.ntmps24 (Nat.le_of_ble_eq_true rfl) (fun R => ?_)
 refine Tri.seq (Tri.region ?_)
 refine TriL.segK (k' := 2) (fr' := [(0, .pointer (some ⟨t, 0, none⟩)), (1, .int .i64 (h))]) (obl := []) [o_, o_] [0, 1] (fun _ _ => by kernel_rfl) trivial ?_
 refine TriL.nil (by kernel_rfl) (TriQ.next (Tri.seq (Tri.region ?_)))
 refine TriL.segK (k' := 2) (fr' := [(0, .pointer (some ⟨t, 0, none⟩)), (1, .int .i64 (h)), (9, .pointer (some ⟨t, 0, none⟩)), (10, .int .i64 (h))]) (obl := []) [o_, o_] [0, 1, 9, 10] (fun _ _ => by kernel_rfl) trivial ?_
 refine TriL.call (f := 27) (args := #[.pointer (some ⟨t, 0, none⟩), .int .i64 (h)]) (d := (some 11)) (pre := [.abs (TabA 71 t most peak us)]) (R := [.abs R]) (pk := [0, 1]) (fun _ => by kernel_rfl) (sp_tgetI t most peak us h hw x hg) rfl (by kernel_rfl) ?_
 rintro _ _ ⟨rfl, rfl⟩
 refine TriL.segK (k' := 8) (fr' := [(0, .pointer (some ⟨t, 0, none⟩)), (1, .int .i64 (h)), (6, x), (7, .int .i64 0)]) (obl := []) [o_, o_, o_, o_, o_] [0, 1, 6, 7] (fun _ _ => by kernel_rfl) trivial ?_
 refine TriL.nil (by kernel_rfl) (TriQ.next (Tri.seq (Tri.seq (Tri.region ?_))))
 refine TriL.segK (k' := 2) (fr' := [(0, .pointer (some ⟨t, 0, none⟩)), (1, .int .i64 (h)), (6, x), (7, .int .i64 0), (15, .bool true)]) (obl := []) [o_, o_] [0, 1, 6, 7, 15] (fun _ _ => by kernel_rfl) trivial ?_
 refine TriL.nil (by kernel_rfl) (TriQ.next ?_)
 refine Tri.condT (fun _ => by kernel_rfl) ?_
 refine Tri.seq ?_
 refine Tri.memP (Φ := fun x : TX => TabOk x.next x.l us most peak) (hp := fun x => [.abs R] ++ tabL 71 t most peak us x) (fun w hS => (hS.pick (idx := [1, 0]) (l' := [.abs R] ++ [.abs (TabA 71 t most peak us)]) rfl rfl).tabOpen) (fun x0 hT => ?_)
 ·
  obtain ⟨m, A, c, l, next⟩ := x0
  replace hT : TabOk next l us most peak := hT
  have hb := hT.bnd
  have hm0 := hT.most0
  have hm1 := hT.most1
  have hn1 := hT.next1
  have hn2 := hT.next2
  have hp0 := hT.peak0
  have hct := hT.ti.count
  have hk := get_some hg
  show Tri _ _ _ _ [(0, .pointer (some ⟨t, 0, none⟩)), (1, .int .i64 (h)), (6, x), (7, .int .i64 0), (15, .bool true)] [.abs R, .blk t [.int .i64 (most), .int .i64 (peak), .map (some m), .slice A (l.length) (c), .int .i64 (next)] 71, .abs (MapA Try.prog 3 m (tabf us) us.length), .abs (RowA 3 1 A l.length c (ints l))] _
  refine Tri.region ?_
  refine TriL.segK (k' := 5) (fr' := [(0, .pointer (some ⟨t, 0, none⟩)), (1, .int .i64 (h)), (6, x), (7, .int .i64 0), (19, .map (some m)), (20, .int .i64 (h))]) (obl := [t = t]) [o_, o_, o_, ⟨[.at 1], none, none, none, none⟩, o_] [0, 1, 6, 7, 19, 20] (fun _ _ => by kernel_rfl) ⟨rfl, trivial⟩ ?_
  refine TriL.mapDel 2 (d := none) (t := 69) (K := 3) (E := 3) (b := m) (n := us.length) (f := (tabf us)) (x := (.tmp 19)) (ix := (.tmp 20)) (key := .int .i64 (h)) (kl := (.int .i64 h)) (n' := (us.length - 1)) (f' := (tabf (del h us))) (ats := #[69, 3]) (fun _ => by kernel_rfl) (by kernel_rfl) (fun _ => by kernel_rfl) (fun _ => by kernel_rfl) rfl lawI Try.underlying69 (keyW hw) (by rw [show tabf us (.int .i64 h) = some x from hg]; rfl) (upd_del) ?_
  refine TriL.nil (by kernel_rfl) (TriQ.next (Tri.region ?_))
  refine TriL.segK (k' := 6) (fr' := [(6, x), (7, .int .i64 0), (24, .iface 66 (.pointer (some ⟨t, 3, none⟩))), (26, .iface 3 (.int .i64 (h)))]) (obl := []) [o_, o_, o_, o_, o_, o_] [6, 7, 24, 26] (fun _ _ => by kernel_rfl) trivial ?_
  refine TriL.call (f := 32) (args := #[.iface 66 (.pointer (some ⟨t, 3, none⟩)), .iface 3 (.int .i64 (h))]) (d := (some 27)) (pre := [.blk t [.int .i64 (most), .int .i64 (peak), .map (some m), .slice A (l.length) (c), .int .i64 (next)] 71, .abs (RowA 3 1 A l.length c (ints l))]) (R := [.abs R, .abs (MapA Try.prog 3 m (tabf (del h us)) (us.length - 1))]) (pk := [1, 3, 0, 2]) (fun _ => by kernel_rfl) (sp_push h hT.ti.heap (by omega)) rfl (by kernel_rfl) ?_
  rintro _ _ ⟨rfl, g, c', l2, hsm, hp2, rfl⟩
  refine TriL.nil (by kernel_rfl) (TriQ.next (Tri.seq (Tri.region ?_)))
  refine TriL.segK (k' := 4) (fr' := [(4, x), (5, .int .i64 0)]) (obl := []) [o_, o_, o_, o_] [4, 5] (fun _ _ => by kernel_rfl) trivial ?_
  refine TriL.nil (by kernel_rfl) (TriQ.next (Tri.ret ?_))
  have hld := len_del hT.ti.rise hk
  refine TriQ.mem (hps' := [.blk t [.int .i64 (most), .int .i64 (peak), .map (some m), .slice (some ⟨g, 0, none⟩) (l2.length) (c'), .int .i64 (next)] 71, .abs (RowA 3 1 (some ⟨g, 0, none⟩) l2.length c' (ints l2)), .abs R, .abs (MapA Try.prog 3 m (tabf (del h us)) ((del h us).length))]) (fun w hS => by rw [show (del h us).length = us.length - 1 by omega]; exact hS) ?_
  refine TriQ.mem (hps' := [.abs R, .abs (TabA 71 t most peak (del h us))]) (fun w hS => Sat.tabClose (l := [.abs R]) ⟨m, some ⟨g, 0, none⟩, c', l2, next⟩ (show TabOk (next) l2 ((del h us)) most (peak) from ⟨hT.ti.drop hk hsm hp2, by omega, hm1, hn1, hn2, hp0⟩) (hS.pick (idx := [2, 0, 3, 1]) (l' := [.abs R] ++ tabL 71 t most (peak) ((del h us)) ⟨m, some ⟨g, 0, none⟩, c', l2, next⟩) rfl rfl)) ?_
  exact TriQ.ret (v := .tuple #[x, .int .i64 0]) (l := [.abs (TabA 71 t most peak (del h us))]) (obl := []) [] [1, 0] (fun _ => by kernel_rfl) trivial rfl (by kernel_rfl) (⟨rfl, rfl⟩)
set_option maxRecDepth 100000 in
set_option maxHeartbeats 4000000 in
theorem sp_tdropNoI {β : Bs} (t : Nat) (most peak : Int) (us : Used Value) (h : Int) (hw : (Lit.int .i64 h).wf = true) (hg : TabM.get us h = none) :
    Spec Try.prog β 24 #[.pointer (some ⟨t, 0, none⟩), .int .i64 (h)] [.abs (TabA 71 t most peak us)] (fun v l => v = .tuple #[.int .i64 0, .int .i64 131] ∧ l = [.abs (TabA 71 t most peak us)]) := by
 refine Spec.enter Try.func24 rfl Try.ntmps24 (Nat.le_of_ble_eq_true rfl) (fun R => ?_)
 refine Tri.seq (Tri.region ?_)
 refine TriL.segK (k' := 2) (fr' := [(0, .pointer (some ⟨t, 0, none⟩)), (1, .int .i64 (h))]) (obl := []) [o_, o_] [0, 1] (fun _ _ => by kernel_rfl) trivial ?_
 refine TriL.nil (by kernel_rfl) (TriQ.next (Tri.seq (Tri.region ?_)))
 refine TriL.segK (k' := 2) (fr' := [(0, .pointer (some ⟨t, 0, none⟩)), (1, .int .i64 (h)), (9, .pointer (some ⟨t, 0, none⟩)), (10, .int .i64 (h))]) (obl := []) [o_, o_] [0, 1, 9, 10] (fun _ _ => by kernel_rfl) trivial ?_
 refine TriL.call (f := 27) (args := #[.pointer (some ⟨t, 0, none⟩), .int .i64 (h)]) (d := (some 11)) (pre := [.abs (TabA 71 t most peak us)]) (R := [.abs R]) (pk := [0, 1]) (fun _ => by kernel_rfl) (sp_tmissI t most peak us h hw hg) rfl (by kernel_rfl) ?_
 rintro _ _ ⟨rfl, rfl⟩
 refine TriL.segK (k' := 8) (fr' := [(0, .pointer (some ⟨t, 0, none⟩)), (1, .int .i64 (h)), (6, .int .i64 0), (7, .int .i64 131)]) (obl := []) [o_, o_, o_, o_, o_] [0, 1, 6, 7] (fun _ _ => by kernel_rfl) trivial ?_
 refine TriL.nil (by kernel_rfl) (TriQ.next (Tri.seq (Tri.seq (Tri.region ?_))))
 refine TriL.segK (k' := 2) (fr' := [(0, .pointer (some ⟨t, 0, none⟩)), (1, .int .i64 (h)), (6, .int .i64 0), (7, .int .i64 131), (15, .bool false)]) (obl := []) [o_, o_] [0, 1, 6, 7, 15] (fun _ _ => by kernel_rfl) trivial ?_
 refine TriL.nil (by kernel_rfl) (TriQ.next ?_)
 refine Tri.condF (fun _ => by kernel_rfl) ?_
 refine Tri.skip (TriQ.next (Tri.seq (Tri.region ?_)))
 refine TriL.segK (k' := 4) (fr' := [(4, .int .i64 0), (5, .int .i64 131)]) (obl := []) [o_, o_, o_, o_] [4, 5] (fun _ _ => by kernel_rfl) trivial ?_
 refine TriL.nil (by kernel_rfl) (TriQ.next (Tri.ret ?_))
 exact TriQ.ret (v := .tuple #[.int .i64 0, .int .i64 131]) (l := [.abs (TabA 71 t most peak us)]) (obl := []) [] [0, 1] (fun _ => by kernel_rfl) trivial rfl (by kernel_rfl) (⟨rfl, rfl⟩)
set_option maxRecDepth 100000 in
set_option maxHeartbeats 4000000 in
theorem sp_tsetI {β : Bs} (t : Nat) (most peak : Int) (us : Used Value) (h : Int) (hw : (Lit.int .i64 h).wf = true) (y : Value) (x : Value) (hg : TabM.get us h = some x) :
    Spec Try.prog β 28 #[.pointer (some ⟨t, 0, none⟩), .int .i64 (h), y] [.abs (TabA 71 t most peak us)] (fun v l => v = .int .i64 0 ∧ l = [.abs (TabA 71 t most peak (set_ h y us))]) := by
 refine Spec.enter Try.func28 rfl Try.ntmps28 (Nat.le_of_ble_eq_true rfl) (fun R => ?_)
 refine Tri.seq (Tri.region ?_)
 refine TriL.segK (k' := 1) (fr' := [(0, .pointer (some ⟨t, 0, none⟩)), (1, .int .i64 (h)), (2, y)]) (obl := []) [o_] [0, 1, 2] (fun _ _ => by kernel_rfl) trivial ?_
 refine TriL.nil (by kernel_rfl) (TriQ.next (Tri.seq (Tri.seq (Tri.region ?_))))
 refine TriL.segK (k' := 2) (fr' := [(0, .pointer (some ⟨t, 0, none⟩)), (1, .int .i64 (h)), (2, y), (10, .pointer (some ⟨t, 0, none⟩)), (11, .int .i64 (h))]) (obl := []) [o_, o_] [0, 1, 2, 10, 11] (fun _ _ => by kernel_rfl) trivial ?_
 refine TriL.call (f := 27) (args := #[.pointer (some ⟨t, 0, none⟩), .int .i64 (h)]) (d := (some 12)) (pre := [.abs (TabA 71 t most peak us)]) (R := [.abs R]) (pk := [0, 1]) (fun _ => by kernel_rfl) (sp_tgetI t most peak us h hw x hg) rfl (by kernel_rfl) ?_
 rintro _ _ ⟨rfl, rfl⟩
 refine TriL.segK (k' := 8) (fr' := [(0, .pointer (some ⟨t, 0, none⟩)), (1, .int .i64 (h)), (2, y), (8, .int .i64 0)]) (obl := []) [o_, o_, o_, o_, o_] [0, 1, 2, 8] (fun _ _ => by kernel_rfl) trivial ?_
 refine TriL.nil (by kernel_rfl) (TriQ.next (Tri.seq (Tri.region ?_)))
 refine TriL.segK (k' := 2) (fr' := [(0, .pointer (some ⟨t, 0, none⟩)), (1, .int .i64 (h)), (2, y), (8, .int .i64 0), (16, .bool false)]) (obl := []) [o_, o_] [0, 1, 2, 8, 16] (fun _ _ => by kernel_rfl) trivial ?_
 refine TriL.nil (by kernel_rfl) (TriQ.next ?_)
 refine Tri.condF (fun _ => by kernel_rfl) ?_
 refine Tri.skip (TriQ.next (Tri.seq ?_))
 refine Tri.memP (Φ := fun x : TX => TabOk x.next x.l us most peak) (hp := fun x => [.abs R] ++ tabL 71 t most peak us x) (fun w hS => (hS.pick (idx := [1, 0]) (l' := [.abs R] ++ [.abs (TabA 71 t most peak us)]) rfl rfl).tabOpen) (fun x0 hT => ?_)
 ·
  obtain ⟨m, A, c, l, next⟩ := x0
  replace hT : TabOk next l us most peak := hT
  have hb := hT.bnd
  have hk := get_some hg
  show Tri _ _ _ _ [(0, .pointer (some ⟨t, 0, none⟩)), (1, .int .i64 (h)), (2, y), (8, .int .i64 0), (16, .bool false)] [.abs R, .blk t [.int .i64 (most), .int .i64 (peak), .map (some m), .slice A (l.length) (c), .int .i64 (next)] 71, .abs (MapA Try.prog 3 m (tabf us) us.length), .abs (RowA 3 1 A l.length c (ints l))] _
  refine Tri.region ?_
  refine TriL.segK (k' := 6) (fr' := [(21, .map (some m)), (22, .int .i64 (h)), (23, y)]) (obl := [t = t]) [o_, o_, o_, ⟨[.at 1], none, none, none, none⟩, o_, o_] [21, 22, 23] (fun _ _ => by kernel_rfl) ⟨rfl, trivial⟩ ?_
  refine TriL.mapSet 2 (d := none) (t := 69) (K := 3) (E := 3) (b := m) (n := us.length) (f := (tabf us)) (x := (.tmp 21)) (ix := (.tmp 22)) (y := (.tmp 23)) (key := .int .i64 (h)) (u := y) (kl := (.int .i64 h)) (n' := us.length) (f' := (tabf (set_ h y us))) (fun _ => by kernel_rfl) (by kernel_rfl) (fun _ => by kernel_rfl) (fun _ => by kernel_rfl) (fun _ => by kernel_rfl) lawI Try.underlying69 (by unfold maxLen; omega) (keyW hw) (by rw [show tabf us (.int .i64 h) = some x from hg]; rfl) (upd_set hk y) ?_
  refine TriL.nil (by kernel_rfl) (TriQ.next (Tri.seq (Tri.region ?_)))
  refine TriL.segK (k' := 1) (fr' := [(6, .int .i64 0)]) (obl := []) [o_] [6] (fun _ _ => by kernel_rfl) trivial ?_
  refine TriL.nil (by kernel_rfl) (TriQ.next (Tri.ret ?_))
  have hls : (set_ h y us).length = us.length := List.length_map ..
  refine TriQ.mem (hps' := [.abs R, .blk t [.int .i64 (most), .int .i64 (peak), .map (some m), .slice A (l.length) (c), .int .i64 (next)] 71, .abs (MapA Try.prog 3 m (tabf (set_ h y us)) ((set_ h y us).length)), .abs (RowA 3 1 A l.length c (ints l))]) (fun w hS => by rw [hls]; exact hS) ?_
  refine TriQ.mem (hps' := [.abs R, .abs (TabA 71 t most peak (set_ h y us))]) (fun w hS => Sat.tabClose (l := [.abs R]) ⟨m, A, c, l, next⟩ (show TabOk (next) l ((set_ h y us)) most (peak) from ⟨hT.ti.set y, by rw [hls]; exact hT.most0, hT.most1, hT.next1, hT.next2, hT.peak0⟩) (hS.pick (idx := [0, 1, 2, 3]) (l' := [.abs R] ++ tabL 71 t most (peak) ((set_ h y us)) ⟨m, A, c, l, next⟩) rfl rfl)) ?_
  exact TriQ.ret (v := .int .i64 0) (l := [.abs (TabA 71 t most peak (set_ h y us))]) (obl := []) [] [1, 0] (fun _ => by kernel_rfl) trivial rfl (by kernel_rfl) (⟨rfl, rfl⟩)
set_option maxRecDepth 100000 in
set_option maxHeartbeats 4000000 in
theorem sp_tsetNoI {β : Bs} (t : Nat) (most peak : Int) (us : Used Value) (h : Int) (hw : (Lit.int .i64 h).wf = true) (y : Value) (hg : TabM.get us h = none) :
    Spec Try.prog β 28 #[.pointer (some ⟨t, 0, none⟩), .int .i64 (h), y] [.abs (TabA 71 t most peak us)] (fun v l => v = .int .i64 131 ∧ l = [.abs (TabA 71 t most peak us)]) := by
 refine Spec.enter Try.func28 rfl Try.ntmps28 (Nat.le_of_ble_eq_true rfl) (fun R => ?_)
 refine Tri.seq (Tri.region ?_)
 refine TriL.segK (k' := 1) (fr' := [(0, .pointer (some ⟨t, 0, none⟩)), (1, .int .i64 (h)), (2, y)]) (obl := []) [o_] [0, 1, 2] (fun _ _ => by kernel_rfl) trivial ?_
 refine TriL.nil (by kernel_rfl) (TriQ.next (Tri.seq (Tri.seq (Tri.region ?_))))
 refine TriL.segK (k' := 2) (fr' := [(0, .pointer (some ⟨t, 0, none⟩)), (1, .int .i64 (h)), (2, y), (10, .pointer (some ⟨t, 0, none⟩)), (11, .int .i64 (h))]) (obl := []) [o_, o_] [0, 1, 2, 10, 11] (fun _ _ => by kernel_rfl) trivial ?_
 refine TriL.call (f := 27) (args := #[.pointer (some ⟨t, 0, none⟩), .int .i64 (h)]) (d := (some 12)) (pre := [.abs (TabA 71 t most peak us)]) (R := [.abs R]) (pk := [0, 1]) (fun _ => by kernel_rfl) (sp_tmissI t most peak us h hw hg) rfl (by kernel_rfl) ?_
 rintro _ _ ⟨rfl, rfl⟩
 refine TriL.segK (k' := 8) (fr' := [(0, .pointer (some ⟨t, 0, none⟩)), (1, .int .i64 (h)), (2, y), (8, .int .i64 131)]) (obl := []) [o_, o_, o_, o_, o_] [0, 1, 2, 8] (fun _ _ => by kernel_rfl) trivial ?_
 refine TriL.nil (by kernel_rfl) (TriQ.next (Tri.seq (Tri.region ?_)))
 refine TriL.segK (k' := 2) (fr' := [(0, .pointer (some ⟨t, 0, none⟩)), (1, .int .i64 (h)), (2, y), (8, .int .i64 131), (16, .bool true)]) (obl := []) [o_, o_] [0, 1, 2, 8, 16] (fun _ _ => by kernel_rfl) trivial ?_
 refine TriL.nil (by kernel_rfl) (TriQ.next ?_)
 refine Tri.condT (fun _ => by kernel_rfl) ?_
 refine Tri.seq (Tri.region ?_)
 refine TriL.segK (k' := 2) (fr' := [(6, .int .i64 131)]) (obl := []) [o_, o_] [6] (fun _ _ => by kernel_rfl) trivial ?_
 refine TriL.nil (by kernel_rfl) (TriQ.next (Tri.ret (TriQ.passRet ?_)))
 exact TriQ.ret (v := .int .i64 131) (l := [.abs (TabA 71 t most peak us)]) (obl := []) [] [0, 1] (fun _ => by kernel_rfl) trivial rfl (by kernel_rfl) (⟨rfl, rfl⟩)
set_option maxRecDepth 100000 in
set_option maxHeartbeats 4000000 in
theorem sp_thandlesI {β : Bs} (t : Nat) (most peak : Int) (us : Used Value) :
    Spec Try.prog β 23 #[.pointer (some ⟨t, 0, none⟩)] [.abs (TabA 71 t most peak us)] (fun v l => ∃ A c, v = .slice A (keys us).length c ∧ l = [.abs (TabA 71 t most peak us), .abs (RowA 3 1 A (keys us).length c (ints (keys us)))]) := by
 refine Spec.enter Try.func23 rfl Try.ntmps23 (Nat.le_of_ble_eq_true rfl) (fun R => ?_)
 refine Tri.seq ?_
 refine Tri.memP (Φ := fun x : TX => TabOk x.next x.l us most peak) (hp := fun x => [.abs R] ++ tabL 71 t most peak us x) (fun w hS => (hS.pick (idx := [1, 0]) (l' := [.abs R] ++ [.abs (TabA 71 t most peak us)]) rfl rfl).tabOpen) (fun x hT => ?_)
 ·
  obtain ⟨m, A, c, l, next⟩ := x
  replace hT : TabOk next l us most peak := hT
  have hb := hT.bnd
  have hm0 := hT.most0
  have hm1 := hT.most1
  have hn1 := hT.next1
  have hn2 := hT.next2
  have hp0 := hT.peak0
  have hct := hT.ti.count
  show Tri _ _ _ _ [(0, .pointer (some ⟨t, 0, none⟩))] [.abs R, .blk t [.int .i64 (most), .int .i64 (peak), .map (some m), .slice A (l.length) (c), .int .i64 (next)] 71, .abs (MapA Try.prog 3 m (tabf us) us.length), .abs (RowA 3 1 A l.length c (ints l))] _
  refine Tri.region ?_
  refine TriL.segK (k' := 1) (fr' := [(0, .pointer (some ⟨t, 0, none⟩))]) (obl := []) [o_] [0] (fun _ _ => by kernel_rfl) trivial ?_
  refine TriL.nil (by kernel_rfl) (TriQ.next (Tri.seq (Tri.region ?_)))
  refine TriL.segK (k' := 4) (fr' := [(6, .map (some m))]) (obl := [t = t]) [o_, o_, o_, ⟨[.at 1], none, none, none, none⟩] [6] (fun _ _ => by kernel_rfl) ⟨rfl, trivial⟩ ?_
  refine TriL.call (f := 34) (args := #[.map (some m)]) (d := (some 7)) (pre := []) (R := [.abs R, .blk t [.int .i64 (most), .int .i64 (peak), .map (some m), .slice A (l.length) (c), .int .i64 (next)] 71, .abs (MapA Try.prog 3 m (tabf us) us.length), .abs (RowA 3 1 A l.length c (ints l))]) (pk := [0, 1, 2, 3]) (fun _ => by kernel_rfl) (sp_keysI (some m)) rfl (by kernel_rfl) ?_
  rintro _ _ ⟨bk, rfl, rfl⟩
  refine TriL.call (f := 33) (args := #[(keysFn bk)]) (d := (some 8)) (pre := [.abs (MapA Try.prog 3 m (tabf us) us.length), .blk bk [.map (some m)] 69]) (R := [.abs R, .blk t [.int .i64 (most), .int .i64 (peak), .map (some m), .slice A (l.length) (c), .int .i64 (next)] 71, .abs (RowA 3 1 A l.length c (ints l))]) (pk := [3, 0, 1, 2, 4]) (fun _ => by kernel_rfl) (sp_sortedI m bk us.length (tabf us) (by omega)) rfl (by kernel_rfl) ?_
  rintro _ _ ⟨A2, c2, ss, rfl, hks, hsl, rfl⟩
  refine TriL.segK (k' := 7) (fr' := [(2, .slice A2 (ss.length) (c2))]) (obl := []) [o_] [2] (fun _ _ => by kernel_rfl) trivial ?_
  refine TriL.nil (by kernel_rfl) (TriQ.next (Tri.ret ?_))
  have hkk := keys_of hT.ti.rise hks
  refine TriQ.mem (hps' := [.abs R, .abs (RowA 3 1 A2 ss.length c2 (ints ss)), .abs (TabA 71 t most peak us)]) (fun w hS => Sat.tabClose (l := [.abs R, .abs (RowA 3 1 A2 ss.length c2 (ints ss))]) ⟨m, A, c, l, next⟩ (show TabOk (next) l (us) most (peak) from hT) (hS.pick (idx := [3, 2, 4, 0, 5]) (l' := [.abs R, .abs (RowA 3 1 A2 ss.length c2 (ints ss))] ++ tabL 71 t most (peak) (us) ⟨m, A, c, l, next⟩) rfl rfl)) ?_
  exact TriQ.ret (v := .slice A2 (ss.length) (c2)) (l := [.abs (TabA 71 t most peak us), .abs (RowA 3 1 A2 ss.length c2 (ints ss))]) (obl := []) [] [2, 1, 0] (fun _ => by kernel_rfl) trivial rfl (by kernel_rfl) (⟨A2, c2, by rw [hkk], by rw [hkk]⟩)
end Go.Proofs.Ytejnhhpjlajngaa
end
/- part Row. PROVED HERE: a law's last step: it returned true, and nothing of old has turned: so the row holds. CONDITIONS: none. -/
section
namespace Go.Proofs.Ytejnhhpjlajngaa
open Go.RowKit Go.WideShapes Go.ChangeShapes Go.ChangeAt Go.Deep
theorem laidOut : laidOutB Try.prog = true := by kernel_rfl
theorem own : ownKnob Try.prog.godebug = none := by kernel_rfl
section row
variable {H : Type} {enc : TypeId × Value → H} {P : Program}
theorem trodAll_stays (hl : laidOutB P = true) {W W' : World} (hb : Below W.heap.size W W') {sp : Nat → Bool} : ∀ {ts : List TypeId} {vs : List Value} {ds : List (DataW H)} {ps : List MemPlace},
    (∀ t ∈ ts, P.readableRec t = true ∧ t < P.types.size) → DataW.TrodAll enc P W 0 (fun _ => true) true ts vs ds ps → (∀ x ∈ ps, x.block < W.heap.size) → (∀ x ∈ ps, sp x.block = true) → DataW.TrodAll enc P W' 0 sp true ts vs ds ps
  | [], vs, ds, ps, _, h, _, _ => by
    obtain ⟨rfl, rfl, rfl⟩ := trodAll_nil h
    exact trodAll_mk0
  | t :: ts, vs, ds, ps, hr, h, hlt, hsp => by
    obtain ⟨v, vs', d, ds', p, q, rfl, rfl, rfl, h1, h2⟩ := trodAll_cons h
    have h3 := hr t List.mem_cons_self
    exact trodAll_cons_mk (WideElems.Trod_stays hl h3.1 h3.2 h1 (fun x hx => hb.same (hlt x (List.mem_append.2 (.inl hx)))) (fun x hx => hsp x (List.mem_append.2 (.inl hx))))
      (trodAll_stays hl hb (fun t ht => hr t (List.mem_cons_of_mem _ ht)) h2 (fun x hx => hlt x (List.mem_append.2 (.inr hx))) (fun x hx => hsp x (List.mem_append.2 (.inr hx))))
def rowB (P : Program) (f : Func) : Bool := f.params.toList.all fun t => P.readableRec t && decide (t < P.types.size)
/-- the call returned true and left all of old as it was -/
theorem law_post (hl : laidOutB P = true) {f : Func} {s : ChangeSpec} {apart fresh handsOn again : Bool} {W W' : World} {args : Array Value} {ds gs : List (DataW H)} {before : List MemPlace} {tb : TypeId} {rb : Bool}
    (hW : DataW.Whole enc P f.params.toList s.vars apart W args.toList ds gs before) (hvars : s.vars = []) (hrow : rowB P f = true) (hres : f.resultTypes = #[tb]) (hb0 : P.underlying tb = some .bool)
    (hfn : (s.fn H (ds ++ gs)).results = [.lit (.bool rb)]) (hargs : (s.fn H (ds ++ gs)).args = ds) (hv : (s.fn H (ds ++ gs)).vars = []) (hb : Below W.heap.size W W') :
    s.post enc P f apart fresh handsOn again W args (.bool rb) W' := by
  have hW' := hW
  obtain ⟨p, q, hA, hV, rfl, _, _⟩ := hW
  rw [hvars] at hV
  obtain ⟨rfl, rfl⟩ := trodVars_none hV
  have hlt : ∀ x ∈ p, x.block < W.heap.size := fun x hx => hW'.lt x (List.mem_append.2 (.inl hx))
  have hr : ∀ t ∈ f.params.toList, P.readableRec t = true ∧ t < P.types.size := fun t ht => by
    have := List.all_eq_true.1 hrow t ht
    simpa using this
  refine post_of_below (pa := p) (pv := []) hW' (fun b sp hd => ?_) (fun sp hsp => ?_) (fun sp _ => ?_) (by simp) hb ?_
  · rw [hfn, hres]
    exact trodAll_cons_mk (shut_bool hb0 _) trodAll_mk0
  · rw [hargs]
    exact trodAll_stays hl hb hr hA hlt (fun x hx => hsp x (List.mem_append.2 (.inl hx)))
  · rw [hvars, hv]
    exact rfl
  · exact ok_one hres rfl (okWide_bool_mk hb0 _)
end row
end Go.Proofs.Ytejnhhpjlajngaa
end
/- part G. PROVED HERE: a graph as plain data, and what it means that it lies in memory that is only read. CONDITIONS: none. No statement of the seat is proved here. -/
section
namespace Go.Proofs.Ytejnhhpjlajngaa
open Go.RowKit
structure EntM where
  name : ByteArray
  id : Int
deriving Inhabited, DecidableEq
structure NodeM where
  id : Int
  kind : Int
  mode : Int
  uid : Int
  gid : Int
  sec : Int
  nano : Int
  data : List UInt8
  target : ByteArray
  ents : List EntM
deriving Inhabited, DecidableEq
/-- where a graph's lists lie -/
structure Lay where
  dA : Nat → Option Addr
  eA : Nat → Option Addr
  dC : Nat → Nat
  eC : Nat → Nat
def nd (ns : List NodeM) (i : Nat) : NodeM := ns.getD i default
def en (es : List EntM) (i : Nat) : EntM := es.getD i default
def byteV (b : UInt8) : Value := .int .u8 ((b.toNat : Nat) : Int)
def bytesV (d : List UInt8) : List Value := d.map byteV
def entV (e : EntM) : List Value := [.string e.name, .int .i64 e.id]
def nodeV (L : Lay) (i : Nat) (n : NodeM) : List Value :=
  [.int .i64 n.id, .int .i64 n.kind, .int .i64 n.mode, .int .i64 n.uid, .int .i64 n.gid, .int .i64 n.sec, .int .i64 n.nano, .slice (L.dA i) n.data.length (L.dC i), .string n.target, .slice (L.eA i) n.ents.length (L.eC i)]
def flatF {α : Type} (f : Nat → α → List Value) : Nat → List α → List Value
  | _, [] => []
  | k, a :: r => f k a ++ flatF f (k + 1) r
section flat
variable {α : Type} {f : Nat → α → List Value} {s : Nat}
theorem flatF_len (hs : ∀ i a, (f i a).length = s) : ∀ (l : List α) (k : Nat), (flatF f k l).length = l.length * s
  | [], _ => by simp [flatF]
  | a :: r, k => by rw [flatF, List.length_append, hs, flatF_len hs r, List.length_cons, Nat.add_mul, Nat.one_mul, Nat.add_comm]
theorem flatF_get (hs : ∀ i a, (f i a).length = s) : ∀ (l : List α) (k i j : Nat) (a : α), l[i]? = some a → j < s → (flatF f k l)[i * s + j]? = (f (k + i) a)[j]?
  | [], k, i, j, a, h, _ => by simp at h
  | b :: r, k, 0, j, a, h, hj => by
    simp at h
    subst h
    rw [flatF, Nat.zero_mul, Nat.zero_add, List.getElem?_append_left (by rw [hs]; exact hj)]
    rfl
  | b :: r, k, i + 1, j, a, h, hj => by
    have h' : r[i]? = some a := by simpa using h
    have e : (i + 1) * s + j = s + (i * s + j) := by rw [Nat.add_mul, Nat.one_mul]; omega
    rw [flatF, e, List.getElem?_append_right (by rw [hs]; omega), hs, Nat.add_sub_cancel_left, flatF_get hs r (k + 1) i j a h' hj]
    have : k + 1 + i = k + (i + 1) := by omega
    rw [this]
theorem flatF_snoc (a : α) : ∀ (l : List α) (k : Nat), flatF f k (l ++ [a]) = flatF f k l ++ f (k + l.length) a
  | [], k => by simp [flatF]
  | b :: r, k => by
    rw [List.cons_append, flatF, flatF, flatF_snoc a r (k + 1), List.append_assoc, List.length_cons]
    have : k + 1 + r.length = k + (r.length + 1) := by omega
    rw [this]
theorem flatF_congr {g : Nat → α → List Value} : ∀ (l : List α) (k : Nat), (∀ i a, l[i]? = some a → f (k + i) a = g (k + i) a) → flatF f k l = flatF g k l
  | [], _, _ => rfl
  | b :: r, k, h => by
    have h1 : flatF f (k + 1) r = flatF g (k + 1) r := flatF_congr r (k + 1) (fun i a hi => by
      have := h (i + 1) a (by simpa using hi)
      have e : k + 1 + i = k + (i + 1) := by omega
      rw [e]
      exact this)
    have h2 : f k b = g k b := h 0 b rfl
    rw [flatF, flatF, h1, h2]
end flat
def entsV (es : List EntM) : List Value := flatF (fun _ e => entV e) 0 es
def nodesV (L : Lay) (ns : List NodeM) : List Value := flatF (nodeV L) 0 ns
theorem bytesV_len (d : List UInt8) : (bytesV d).length = d.length := by simp [bytesV]
theorem entsV_len (es : List EntM) : (entsV es).length = es.length * 2 := flatF_len (s := 2) (fun _ _ => rfl) es 0
theorem nodesV_len (L : Lay) (ns : List NodeM) : (nodesV L ns).length = ns.length * 10 := flatF_len (s := 10) (fun _ _ => rfl) ns 0
theorem getD_some {α : Type} {l : List α} {i : Nat} {x : α} (h : i < l.length) : l[i]? = some (l.getD i x) := by
  rw [List.getD_eq_getElem?_getD, List.getElem?_eq_getElem h]; rfl
theorem oneCell_bytes (d : List UInt8) : ∀ u ∈ bytesV d, u.oneCell' = true := by
  intro u hu
  obtain ⟨b, _, rfl⟩ := List.mem_map.1 hu
  rfl
theorem flatF_all {α : Type} {f : Nat → α → List Value} (h : ∀ i a, ∀ u ∈ f i a, u.oneCell' = true) : ∀ (l : List α) (k : Nat), ∀ u ∈ flatF f k l, u.oneCell' = true
  | [], _, u, hu => by simp [flatF] at hu
  | b :: r, k, u, hu => by
    rw [flatF] at hu
    rcases List.mem_append.1 hu with hu | hu
    · exact h k b u hu
    · exact flatF_all h r (k + 1) u hu
theorem oneCell_ents (es : List EntM) : ∀ u ∈ entsV es, u.oneCell' = true := flatF_all (fun _ a u hu => by simp [entV] at hu; rcases hu with rfl | rfl <;> rfl) es 0
section at_
variable {β β' : Bs} {A : Option Addr}
/-- a slice of bytes, read only -/
def BytesAt (β : Bs) (A : Option Addr) (d : List UInt8) : Prop := RowB β A (bytesV d)
def EntsAt (β : Bs) (A : Option Addr) (es : List EntM) : Prop := RowB β A (entsV es)
theorem BytesAt.le {d : List UInt8} (h : BytesAt β A d) (hle : β.le β') : BytesAt β' A d := RowB.le h hle
theorem EntsAt.le {es : List EntM} (h : EntsAt β A es) (hle : β.le β') : EntsAt β' A es := RowB.le h hle
theorem BytesAt.get {d : List UInt8} (h : BytesAt β A d) {j : Nat} (hj : j < d.length) : A = some ⟨blkOf A, offOf A, none⟩ ∧ Rd β ⟨blkOf A, offOf A + j * 1, none⟩ (.int .u8 (((d.getD j 0).toNat : Nat) : Int)) := by
  have h1 : (bytesV d)[j]? = some (byteV (d.getD j 0)) := by
    rw [bytesV, List.getElem?_map, getD_some (x := 0) hj]; rfl
  have := h j _ h1
  rw [Nat.mul_one]
  exact this
theorem BytesAt.hd {d : List UInt8} (h : BytesAt β A d) {j : Nat} (hj : j < d.length) : A = some ⟨blkOf A, offOf A, none⟩ := (h.get hj).1
theorem BytesAt.rd {d : List UInt8} (h : BytesAt β A d) {j : Nat} (hj : j < d.length) : Rd β ⟨blkOf A, offOf A + j * 1, none⟩ (.int .u8 (((d.getD j 0).toNat : Nat) : Int)) := (h.get hj).2
theorem EntsAt.get {es : List EntM} (h : EntsAt β A es) {i : Nat} (hi : i < es.length) {j : Nat} {v : Value} (hv : (entV (en es i))[j]? = some v) : A = some ⟨blkOf A, offOf A, none⟩ ∧ Rd β ⟨blkOf A, offOf A + i * 2 + j, none⟩ v := by
  have hj : j < 2 := len_of_some hv
  have h1 := flatF_get (f := fun _ e => entV e) (s := 2) (fun _ _ => rfl) es 0 i j _ (getD_some (x := default) hi) hj
  have := h (i * 2 + j) v (h1.trans hv)
  rw [← Nat.add_assoc] at this
  exact this
theorem EntsAt.hd {es : List EntM} (h : EntsAt β A es) {i : Nat} (hi : i < es.length) : A = some ⟨blkOf A, offOf A, none⟩ := (h.get hi (j := 0) rfl).1
theorem EntsAt.rd {es : List EntM} (h : EntsAt β A es) {i : Nat} (hi : i < es.length) {j : Nat} {v : Value} (hv : (entV (en es i))[j]? = some v) : Rd β ⟨blkOf A, offOf A + i * 2 + j, none⟩ v := (h.get hi hv).2
theorem RowB.src {hps : List HP} {xs : List Value} (h : RowB β A xs) : ∀ w, Sat β hps w → (A = none ∧ xs.length = 0) ∨ ∃ ad, A = some ad ∧ ∀ j u, xs[j]? = some u → w.cell? (ad.add j) = some u := by
  intro w hS
  cases hA : A with
  | none =>
    refine .inl ⟨rfl, ?_⟩
    cases xs with
    | nil => rfl
    | cons x r => have := (h 0 x rfl).1; rw [hA] at this; cases this
  | some a =>
    refine .inr ⟨a, rfl, fun j u hj => ?_⟩
    obtain ⟨h1, h2⟩ := h j u hj
    rw [hA] at h1 h2
    have e1 : a = ⟨blkOf (some a), offOf (some a), none⟩ := by injection h1
    have ea : a.add j = ⟨blkOf (some a), offOf (some a) + j, none⟩ := by
      rw [e1]
      unfold Addr.add
      split
      · rename_i h0; subst h0; rfl
      · rfl
    rw [ea]
    exact hS.1.cell h2
end at_
structure GraphAt (β : Bs) (A : Option Addr) (ns : List NodeM) (L : Lay) : Prop where
  row : RowB β A (nodesV L ns)
  data : ∀ i, i < ns.length → BytesAt β (L.dA i) (nd ns i).data
  ents : ∀ i, i < ns.length → EntsAt β (L.eA i) (nd ns i).ents
/-- the inner lists of the first k nodes -/
structure GraphIn (β : Bs) (ns : List NodeM) (k : Nat) (L : Lay) : Prop where
  data : ∀ i, i < k → BytesAt β (L.dA i) (nd ns i).data
  ents : ∀ i, i < k → EntsAt β (L.eA i) (nd ns i).ents
def Lay.put (L : Lay) (k : Nat) (dA : Option Addr) (dC : Nat) (eA : Option Addr) (eC : Nat) : Lay :=
  ⟨fun i => if i = k then dA else L.dA i, fun i => if i = k then eA else L.eA i, fun i => if i = k then dC else L.dC i, fun i => if i = k then eC else L.eC i⟩
section graph
variable {β β' : Bs} {A : Option Addr} {ns : List NodeM} {L : Lay}
theorem GraphAt.le (h : GraphAt β A ns L) (hle : β.le β') : GraphAt β' A ns L := ⟨h.row.le hle, fun i hi => (h.data i hi).le hle, fun i hi => (h.ents i hi).le hle⟩
theorem GraphAt.get (h : GraphAt β A ns L) {i : Nat} (hi : i < ns.length) {j : Nat} {v : Value} (hv : (nodeV L i (nd ns i))[j]? = some v) : A = some ⟨blkOf A, offOf A, none⟩ ∧ Rd β ⟨blkOf A, offOf A + i * 10 + j, none⟩ v := by
  have hj : j < 10 := len_of_some hv
  have h1 := flatF_get (f := nodeV L) (s := 10) (fun _ _ => rfl) ns 0 i j _ (getD_some (x := default) hi) hj
  rw [Nat.zero_add] at h1
  have := h.row (i * 10 + j) v (h1.trans hv)
  rw [← Nat.add_assoc] at this
  exact this
theorem GraphAt.hd (h : GraphAt β A ns L) {i : Nat} (hi : i < ns.length) : A = some ⟨blkOf A, offOf A, none⟩ := (h.get hi (j := 0) rfl).1
theorem GraphAt.rd (h : GraphAt β A ns L) {i : Nat} (hi : i < ns.length) {j : Nat} {v : Value} (hv : (nodeV L i (nd ns i))[j]? = some v) : Rd β ⟨blkOf A, offOf A + i * 10 + j, none⟩ v := (h.get hi hv).2
theorem GraphIn.le {k : Nat} (h : GraphIn β ns k L) (hle : β.le β') : GraphIn β' ns k L := ⟨fun i hi => (h.data i hi).le hle, fun i hi => (h.ents i hi).le hle⟩
theorem GraphIn.put {k : Nat} (h : GraphIn β ns k L) {dA eA : Option Addr} {dC eC : Nat} (hd : BytesAt β dA (nd ns k).data) (he : EntsAt β eA (nd ns k).ents) : GraphIn β ns (k + 1) (L.put k dA dC eA eC) := by
  refine ⟨fun i hi => ?_, fun i hi => ?_⟩
  · by_cases e : i = k
    · subst e; simpa [Lay.put] using hd
    · simpa [Lay.put, e] using h.data i (by omega)
  · by_cases e : i = k
    · subst e; simpa [Lay.put] using he
    · simpa [Lay.put, e] using h.ents i (by omega)
theorem nodesV_put {k : Nat} (hk : k < ns.length) (dA : Option Addr) (dC : Nat) (eA : Option Addr) (eC : Nat) :
    nodesV L (ns.take k) ++ [.int .i64 (nd ns k).id, .int .i64 (nd ns k).kind, .int .i64 (nd ns k).mode, .int .i64 (nd ns k).uid, .int .i64 (nd ns k).gid, .int .i64 (nd ns k).sec, .int .i64 (nd ns k).nano, .slice dA (nd ns k).data.length dC, .string (nd ns k).target, .slice eA (nd ns k).ents.length eC] =
      nodesV (L.put k dA dC eA eC) (ns.take (k + 1)) := by
  have e1 : ns.take (k + 1) = ns.take k ++ [nd ns k] := by
    rw [List.take_succ_eq_append_getElem hk]
    simp [nd, List.getD_eq_getElem?_getD, hk]
  have hlen : (ns.take k).length = k := by simp; omega
  rw [nodesV, nodesV, e1, flatF_snoc, hlen, Nat.zero_add]
  have e2 : flatF (nodeV (L.put k dA dC eA eC)) 0 (ns.take k) = flatF (nodeV L) 0 (ns.take k) := flatF_congr _ _ (fun i a hi => by
    have hi' := len_of_some hi
    have hne : ¬ 0 + i = k := by omega
    simp [nodeV, Lay.put]
    omega)
  rw [e2]
  simp [nodeV, Lay.put]
theorem GraphAt.mk' {k : Nat} (hrow : RowB β A (nodesV L (ns.take k))) (h : GraphIn β ns k L) (hk : ns.length ≤ k) : GraphAt β A ns L := by
  rw [List.take_of_length_le hk] at hrow
  exact ⟨hrow, fun i hi => h.data i (by omega), fun i hi => h.ents i (by omega)⟩
end graph
end Go.Proofs.Ytejnhhpjlajngaa
end
/- part Or. PROVED HERE: rows, numbers and texts as the row of a law hands them over; sizes by the bulk. CONDITIONS: none. -/
section
namespace Go.Proofs.Ytejnhhpjlajngaa
open Go.RowKit Go.WideShapes Go.ChangeShapes Go.ChangeAt Go.Deep
abbrev B0 (W : World) : Bs := ⟨(· < W.heap.size), W⟩
theorem cell_lt {w : World} {a : Addr} {v : Value} (h : w.cell? a = some v) : a.block < w.heap.size := by
  unfold World.cell? at h
  split at h
  · rename_i hb; exact lt_of_some hb
  · cases h
theorem cell_spot {w : World} {a : Addr} {v : Value} (h : w.cell? a = some v) : a.spot = none := by
  unfold World.cell? at h
  split at h
  · split at h
    · cases h
    · rename_i h0
      cases hs : a.spot with
      | none => rfl
      | some x => rw [hs] at h0; exact absurd rfl h0
  · cases h
theorem add_plain {a : Addr} (k : Nat) (h : a.spot = none) : a.add k = ⟨a.block, a.off + k, none⟩ := by
  obtain ⟨b, o, s⟩ := a
  cases h
  unfold Addr.add
  split
  · rename_i h0; subst h0; rfl
  · rfl
theorem bulk_get {H : Type} {D : Nat → DataW H} {n i : Nat} (hi : i < n) : Rows.uptoBulk (D i) ≤ Rows.uptoBulkAll ((List.range n).map D) := by
  have hm : D i ∈ (List.range n).map D := List.mem_map.2 ⟨i, List.mem_range.2 hi, rfl⟩
  generalize (List.range n).map D = l at hm
  induction l with
  | nil => cases hm
  | cons x r ih =>
    simp only [Rows.uptoBulkAll]
    rcases List.mem_cons.1 hm with e | hm
    · subst e; omega
    · have := ih hm; omega
theorem bulk_pos {H : Type} (d : DataW H) : 1 ≤ Rows.uptoBulk d := by
  cases d with
  | lit l => cases l <;> simp [Rows.uptoBulk]
  | nil => simp [Rows.uptoBulk]
  | ptr d => simp [Rows.uptoBulk]
  | slice elems spare => simp [Rows.uptoBulk]
  | agg parts => simp [Rows.uptoBulk]
  | iface t d => simp [Rows.uptoBulk]
  | map entries => simp [Rows.uptoBulk]
  | held h => simp [Rows.uptoBulk]
theorem bulk_len {H : Type} (l : List (DataW H)) : l.length ≤ Rows.uptoBulkAll l := by
  induction l with
  | nil => simp [Rows.uptoBulkAll]
  | cons x r ih => have := bulk_pos x; simp only [Rows.uptoBulkAll, List.length_cons]; omega
theorem bulk_mem {H : Type} {d : DataW H} {l : List (DataW H)} (h : d ∈ l) : Rows.uptoBulk d ≤ Rows.uptoBulkAll l := by
  induction l with
  | nil => cases h
  | cons x r ih =>
    simp only [Rows.uptoBulkAll]
    rcases List.mem_cons.1 h with e | h
    · subst e; omega
    · have := ih h; omega
section open_
variable {H : Type} {enc : TypeId × Value → H} {P : Program} {W : World} {sp : Nat → Bool}
/-- a slice whose elements are told by f: it lies in memory like a row of the base -/
theorem open_row {α : Type} [Inhabited α] {t e : TypeId} {size : Nat} {f : α → List Value} {Q : α → DataW H → Prop} (ht : P.underlying t = some (.slice e)) (hC : P.cellsOf e = size) (h0 : 0 < size)
    (hel : ∀ n cs x, DataW.trod enc P W 0 sp true n e cs = some x → ∃ a, cs = f a ∧ Q a x.1) (hf : ∀ a, (f a).length = size)
    {fuel : Nat} {cs : List Value} {x : DataW H × List MemPlace} (h : DataW.trod enc P W 0 sp true fuel t cs = some x) :
    ∃ A c, ∃ xs : List α, ∃ D : Nat → DataW H, cs = [.slice A xs.length c] ∧ xs.length ≤ c ∧ c ≤ maxLen ∧ RowB (B0 W) A (flatF (fun _ a => f a) 0 xs) ∧ (∀ i, i < xs.length → Q (xs.getD i default) (D i)) ∧
      Rows.uptoBulkAll ((List.range xs.length).map D) + 1 ≤ Rows.uptoBulk x.1 := by
  rcases open_slice ht h with ⟨hv, hx⟩ | ⟨a, len, cap, m, n, D, Pl, hcs, hb, hl, hm, hmm, hx, hi⟩
  · subst hv
    refine ⟨none, 0, [], fun _ => .nil, rfl, Nat.le_refl _, Nat.zero_le _, fun j v hj => by simp [flatF] at hj, fun i hi => absurd hi (Nat.not_lt_zero i), ?_⟩
    rw [hx]
    simp [Rows.uptoBulk, Rows.uptoBulkAll]
  · have hlm : len ≤ m := by rw [hmm]; split <;> omega
    have hch : ∀ i, ∃ b : α, i < len → (W.cells? 0 (a.add (i * P.cellsOf e)) (P.cellsOf e) = some (f b) ∧ Q b (D i)) := fun i => by
      by_cases hil : i < len
      · obtain ⟨cs', h1, h2⟩ := hi i (by omega)
        obtain ⟨b, rfl, h3⟩ := hel _ _ _ h2
        exact ⟨b, fun _ => ⟨h1, h3⟩⟩
      · exact ⟨default, fun h => absurd h hil⟩
    have hg := fun i => Classical.choose_spec (hch i)
    generalize hG : (fun i => Classical.choose (hch i)) = g at hg
    have hg : ∀ i, i < len → W.cells? 0 (a.add (i * P.cellsOf e)) (P.cellsOf e) = some (f (g i)) ∧ Q (g i) (D i) := fun i hi => by
      have h1 := hg i hi
      have h2 : Classical.choose (hch i) = g i := congrFun hG i
      rw [h2] at h1
      exact h1
    have hlen : ((List.range len).map g).length = len := by simp
    have hget : ∀ i, i < len → ((List.range len).map g)[i]? = some (g i) := fun i hi => by simp [hi]
    have hgetD : ∀ i, i < len → ((List.range len).map g).getD i default = g i := fun i hi => by rw [List.getD_eq_getElem?_getD, hget i hi]; rfl
    have hs1 : 0 < len → a.spot = none := fun hl0 => by
      obtain ⟨h2, -⟩ := hg 0 hl0
      rw [hC] at h2
      obtain ⟨_, hcl, hat⟩ := World.cells?_some h2
      have h3 := hat 0 h0
      rw [List.getElem?_eq_getElem (by rw [hcl]; exact h0)] at h3
      have e : (a.add (0 * size)).add 0 = a := by rw [Nat.zero_mul]; rfl
      rw [e] at h3
      exact cell_spot h3
    refine ⟨some a, cap, (List.range len).map g, D, by rw [hlen]; exact hcs, by rw [hlen]; exact hl, hm, fun j v hj => ?_, fun i hi' => ?_, ?_⟩
    · have hfl := flatF_len (f := fun _ a => f a) (s := size) (fun _ a => hf a) ((List.range len).map g) 0
      have hjl := len_of_some hj
      rw [hfl, hlen] at hjl
      have hj1 : j / size < len := (Nat.div_lt_iff_lt_mul h0).2 hjl
      have hj2 : j % size < size := Nat.mod_lt _ h0
      have e := Nat.div_add_mod j size
      rw [Nat.mul_comm] at e
      have h1 := flatF_get (f := fun _ a => f a) (s := size) (fun _ a => hf a) _ 0 _ (j % size) _ (hget _ hj1) hj2
      rw [e, hj] at h1
      obtain ⟨h2, -⟩ := hg _ hj1
      rw [hC] at h2
      obtain ⟨_, _, hat⟩ := World.cells?_some h2
      have h3 := hat _ hj2
      rw [← h1] at h3
      have hs1 := hs1 (Nat.lt_of_le_of_lt (Nat.zero_le _) hj1)
      rw [add_plain _ hs1] at h3
      rw [add_plain (a := ⟨a.block, a.off + j / size * size, none⟩) _ rfl] at h3
      have e2 : a.off + j / size * size + j % size = a.off + j := by omega
      have h4 : W.cell? ⟨a.block, a.off + j, none⟩ = some v := by rw [← e2]; exact h3
      have ea : (some a : Option Addr) = some ⟨blkOf (some a), offOf (some a), none⟩ := by
        obtain ⟨b, o, s⟩ := a
        cases hs1
        rfl
      exact ⟨ea, cell_lt h4, h4⟩
    · rw [hlen] at hi'
      rw [hgetD i hi']
      exact (hg i hi').2
    · rw [hx, hlen]
      simp only [Rows.uptoBulk]
      omega
theorem open_u8 {t : TypeId} {n : Nat} {cs : List Value} {x : DataW H × List MemPlace} (ht : P.underlying t = some (.int .u8)) (h : DataW.trod enc P W 0 sp true n t cs = some x) : ∃ b : UInt8, cs = [byteV b] ∧ True := by
  obtain ⟨z, h1, _, h3⟩ := DataW.trod_int ht h
  have h4 : 0 ≤ z ∧ z ≤ 255 := by simpa [Lit.wf, IntKind.min, IntKind.max, IntKind.signed, IntKind.bits] using h3
  refine ⟨UInt8.ofNat z.toNat, ?_, trivial⟩
  have e : (((UInt8.ofNat z.toNat).toNat : Nat) : Int) = z := by
    rw [UInt8.toNat_ofNat']
    omega
  rw [byteV, e]
  exact h1
def I64 (z : Int) : Prop := -9223372036854775808 ≤ z ∧ z ≤ 9223372036854775807
theorem i64_of {z : Int} (h : (Lit.int .i64 z).wf = true) : I64 z := by
  unfold I64
  simpa [Lit.wf, IntKind.min, IntKind.max, IntKind.signed, IntKind.bits] using h
theorem open_i64 {t : TypeId} {n : Nat} {c : Value} {x : DataW H × List MemPlace} (ht : P.underlying t = some (.int .i64)) (h : DataW.trod enc P W 0 sp true n t [c] = some x) : ∃ z, c = .int .i64 z ∧ I64 z := by
  obtain ⟨z, h1, _, h3⟩ := DataW.trod_int ht h
  cases h1
  exact ⟨z, rfl, by unfold I64; simpa [Lit.wf, IntKind.min, IntKind.max, IntKind.signed, IntKind.bits] using h3⟩
set_option maxRecDepth 100000 in
theorem open_str {t : TypeId} {n : Nat} {c : Value} {x : DataW H × List MemPlace} (ht : P.underlying t = some .string) (h : DataW.trod enc P W 0 sp true n t [c] = some x) : ∃ s : ByteArray, c = .string s ∧ s.size + 1 ≤ Rows.uptoBulk x.1 := by
  obtain ⟨s, h1, h2, _⟩ := DataW.trod_string ht h
  cases h1
  refine ⟨s, rfl, ?_⟩
  rw [h2]
  simp only [Rows.uptoBulk, Array.length_toList]
  exact Nat.le_refl _
end open_
theorem B0.refl (W : World) : (B0 W).le (B0 W) := ⟨fun _ h => h, rfl, rfl, rfl, Nat.le_refl _, fun _ hk => ⟨hk, rfl⟩⟩
theorem Spec.val {P : Program} {β : Bs} {f : FuncId} {args : Array Value} {pre : List HP} {x y : Value} {l0 : List HP} (h : Spec P β f args pre (fun v l => v = x ∧ l = l0)) (e : x = y) : Spec P β f args pre (fun v l => v = y ∧ l = l0) := h.mono fun _ _ h => ⟨h.1.trans e, h.2⟩
theorem RowB.nil {β : Bs} {A : Option Addr} : RowB β A [] := fun j v hj => by simp at hj
end Go.Proofs.Ytejnhhpjlajngaa
end
/- part Sm. PROVED HERE: plain laws for SlotsMemory and SlotsLeast. CONDITIONS: none. -/
section
namespace Go.Proofs.Ytejnhhpjlajngaa
open Go.RowKit HeapM TabM Go.Maps
/-- handles 1 to k -/
def mU : Nat → Used Value
  | 0 => []
  | k + 1 => mU k ++ [(((k + 1 : Nat) : Int), .int .i64 (if k = 0 then 1 else (k : Int)))]
theorem mU_len : ∀ k, (mU k).length = k
  | 0 => rfl
  | k + 1 => by rw [mU, List.length_append, mU_len k]; rfl
theorem mU_keys (k : Nat) : keys (mU k) = (List.range k).map fun j => ((j + 1 : Nat) : Int) := by
  induction k with
  | zero => rfl
  | succ k ih =>
    rw [mU, List.range_succ, List.map_append]
    unfold keys at *
    rw [List.map_append, ih]
    rfl
theorem mU_klen (k : Nat) : (keys (mU k)).length = k := by rw [mU_keys]; simp
theorem mU_get {k j : Nat} (h : j < k) : (keys (mU k)).getD j 0 = ((j + 1 : Nat) : Int) := by
  rw [mU_keys, List.getD_eq_getElem?_getD]
  simp [h]
theorem leastFrom_range : ∀ (n : Nat) (h : Int), leastFrom h ((List.range n).map fun j => h + ((j : Nat) : Int)) = h + n
  | 0, h => by simp [leastFrom]
  | n + 1, h => by
    rw [List.range_succ_eq_map, List.map_cons, leastFrom, if_pos (by simp), List.map_map]
    have e : (List.map ((fun j => h + ((j : Nat) : Int)) ∘ Nat.succ) (List.range n)) = (List.range n).map fun j => (h + 1) + ((j : Nat) : Int) := by
      refine List.map_congr_left (fun j _ => ?_)
      show h + ((j + 1 : Nat) : Int) = h + 1 + (j : Int)
      omega
    rw [e, leastFrom_range n (h + 1)]
    omega
theorem mU_least (k : Nat) : TabM.least (mU k) = ((k + 1 : Nat) : Int) := by
  unfold TabM.least
  rw [mU_keys]
  have e : ((List.range k).map fun j => ((j + 1 : Nat) : Int)) = (List.range k).map fun j => 1 + ((j : Nat) : Int) := List.map_congr_left (fun j _ => by omega)
  rw [e, leastFrom_range]
  omega
theorem mU_ins (k : Nat) : ins (TabM.least (mU k)) (.int .i64 (if k = 0 then 1 else (k : Int))) (mU k) = mU (k + 1) := by
  rw [mU_least, ins_last, mU]
  intro x hx
  rw [mU_keys] at hx
  obtain ⟨j, hj, rfl⟩ := List.mem_map.1 hx
  have := List.mem_range.1 hj
  omega
theorem sp_putM {β : Bs} (t : Nat) (p : Int) (k : Nat) (z : Int) (hz : z = if k = 0 then 1 else (k : Int)) (hk : k < 50) :
    Spec Try.prog β 22 #[.pointer (some ⟨t, 0, none⟩), .int .i64 z] [.abs (TabA 71 t 50 p (mU k))] (fun v l => v = .tuple #[.int .i64 ((k + 1 : Nat) : Int), .int .i64 0] ∧ ∃ p', l = [.abs (TabA 71 t 50 p' (mU (k + 1)))]) := by
  refine (sp_tputI t 50 p (mU k) (.int .i64 z) (by rw [mU_len]; omega)).mono ?_
  rintro v l ⟨rfl, rfl⟩
  refine ⟨by rw [mU_least], max p (((mU k).length : Int) + 1), ?_⟩
  rw [hz, mU_ins]
theorem sp_handlesM {β : Bs} (t : Nat) (p : Int) (k : Nat) :
    Spec Try.prog β 23 #[.pointer (some ⟨t, 0, none⟩)] [.abs (TabA 71 t 50 p (mU k))] (fun v l => ∃ A c, v = .slice A k c ∧ l = [.abs (TabA 71 t 50 p (mU k)), .abs (RowA 3 1 A k c (ints (keys (mU k))))]) := by
  refine (sp_thandlesI t 50 p (mU k)).mono ?_
  rintro v l ⟨A, c, rfl, rfl⟩
  exact ⟨A, c, by rw [mU_klen], by rw [mU_klen]⟩
theorem ints_len (l : List Int) : (ints l).length = l.length := by simp [ints]
theorem ints_getD {l : List Int} {j : Nat} (h : j < l.length) : (ints l)[j]? = some (.int .i64 (l.getD j 0)) := by
  simp [ints, List.getD_eq_getElem?_getD, h]
theorem ints_set (l : List Int) (j : Nat) (x : Int) : (ints l).set j (.int .i64 x) = ints (l.set j x) := by
  simp [ints, List.map_set]
theorem ints_snoc (l : List Int) (x : Int) : ints l ++ [.int .i64 x] = ints (l ++ [x]) := by simp [ints]
theorem RowA.cellN {e : TypeId} {A : Option Addr} {n cap : Nat} {l : List Int} {j : Nat} (hj : j < l.length) : ∀ F w, (RowA e 1 A n cap (ints l)).h F w → w.cell? ⟨blkOf A, offOf A + j * 1, none⟩ = some (.int .i64 (l.getD j 0)) := by
  intro F w h
  have hl := (RowA.len h).1
  rw [ints_len] at hl
  obtain ⟨g, rfl⟩ := RowA.head h (by omega)
  have := RowA.cell (ints_getD hj) F w h
  rw [Nat.mul_one]
  show w.cell? ⟨g, 0 + j, none⟩ = _
  rw [Nat.zero_add]
  exact this
/-! ### the least, step by step -/
theorem leastFrom_hit {h : Int} {ks : List Int} {j : Nat} (hj : j < ks.length) (e : ks.getD j 0 = h) : leastFrom h (ks.drop j) = leastFrom (h + 1) (ks.drop (j + 1)) := by
  rw [List.drop_eq_getElem_cons hj, leastFrom, if_pos]
  rw [← e, List.getD_eq_getElem?_getD, List.getElem?_eq_getElem hj]; rfl
theorem leastFrom_stop {h : Int} {ks : List Int} {j : Nat} (hs : ks.length ≤ j ∨ ¬ ks.getD j 0 = h) : leastFrom h (ks.drop j) = h := by
  by_cases hj : j < ks.length
  · rcases hs with hs | hs
    · omega
    · rw [List.drop_eq_getElem_cons hj, leastFrom, if_neg]
      intro e
      apply hs
      rw [List.getD_eq_getElem?_getD, List.getElem?_eq_getElem hj, ← e]; rfl
  · rw [List.drop_of_length_le (by omega)]; rfl
theorem rising_get {ks : List Int} (h : TabM.Rising ks) {i j : Nat} (hij : i < j) (hj : j < ks.length) : ks.getD i 0 < ks.getD j 0 := by
  have := List.pairwise_iff_getElem.1 h i j (by omega) hj hij
  rw [List.getD_eq_getElem?_getD, List.getD_eq_getElem?_getD, List.getElem?_eq_getElem hj, List.getElem?_eq_getElem (by omega)]
  exact this
theorem getD_memK {ks : List Int} {j : Nat} (h : j < ks.length) : ks.getD j 0 ∈ ks := by
  rw [List.getD_eq_getElem?_getD, List.getElem?_eq_getElem h]; exact List.getElem_mem h
theorem keys_length (us : Used Value) : (keys us).length = us.length := by simp [keys]
end Go.Proofs.Ytejnhhpjlajngaa
end
/- part Sc. PROVED HERE: a script of steps over tables, as plain data, in memory. CONDITIONS: none. -/
section
namespace Go.Proofs.Ytejnhhpjlajngaa
open Go.RowKit Go.WideShapes Go.ChangeShapes Go.ChangeAt Go.Deep
structure OpM where
  w : Int
  h : Int
  v : Int
deriving Inhabited
def op (os : List OpM) (i : Nat) : OpM := os.getD i default
def opV (o : OpM) : List Value := [.int .i64 o.w, .int .i64 o.h, .int .i64 o.v]
def opsV (os : List OpM) : List Value := flatF (fun _ o => opV o) 0 os
def OpsAt (β : Bs) (A : Option Addr) (os : List OpM) : Prop := RowB β A (opsV os)
structure OpB (o : OpM) : Prop where
  w : I64 o.w
  h : I64 o.h
  v : I64 o.v
structure OpsB (os : List OpM) (b : Nat) : Prop where
  len : os.length + 1 ≤ b
  op : ∀ i, i < os.length → OpB (Proofs.Ytejnhhpjlajngaa.op os i)
theorem OpsB.mono {os : List OpM} {b c : Nat} (h : OpsB os b) (hb : b ≤ c) : OpsB os c := ⟨Nat.le_trans h.len hb, h.op⟩
theorem wf_of {z : Int} (h : I64 z) : (Lit.int .i64 z).wf = true := WalkArith.wf_i64 (by unfold I64 at h; omega)
section
variable {β β' : Bs} {A : Option Addr} {os : List OpM}
theorem OpsAt.le (h : OpsAt β A os) (hle : β.le β') : OpsAt β' A os := RowB.le h hle
theorem OpsAt.get (h : OpsAt β A os) {i : Nat} (hi : i < os.length) {j : Nat} {v : Value} (hv : (opV (op os i))[j]? = some v) : A = some ⟨blkOf A, offOf A, none⟩ ∧ Rd β ⟨blkOf A, offOf A + i * 3 + j, none⟩ v := by
  have hj : j < 3 := len_of_some hv
  have h1 := flatF_get (f := fun _ e => opV e) (s := 3) (fun _ _ => rfl) os 0 i j _ (getD_some (x := default) hi) hj
  have := h (i * 3 + j) v (h1.trans hv)
  rw [← Nat.add_assoc] at this
  exact this
theorem OpsAt.hd (h : OpsAt β A os) {i : Nat} (hi : i < os.length) : A = some ⟨blkOf A, offOf A, none⟩ := (h.get hi (j := 0) rfl).1
theorem OpsAt.rd (h : OpsAt β A os) {i : Nat} (hi : i < os.length) {j : Nat} {v : Value} (hv : (opV (op os i))[j]? = some v) : Rd β ⟨blkOf A, offOf A + i * 3 + j, none⟩ v := (h.get hi hv).2
end
section open_
variable {H : Type} {enc : TypeId × Value → H} {W : World} {sp : Nat → Bool}
set_option maxRecDepth 100000 in
theorem open_op {n : Nat} {cs : List Value} {x : DataW H × List MemPlace} (h : DataW.trod enc Try.prog W 0 sp true n 36 cs = some x) : ∃ e : OpM, cs = opV e ∧ OpB e := by
  obtain ⟨ys, m, _, hx, hl, hyl, hf⟩ := DataW.trod_struct Try.underlying36 h
  have hC : Try.prog.cellsOf 36 = 3 := by kernel_rfl
  rw [hC] at hl
  match cs, hl with
  | [c0, c1, c2], _ =>
    obtain ⟨x, rfl, w0⟩ := open_i64 (c := c0) Try.underlying3 ((hf 0 _ rfl).trans (List.getElem?_eq_getElem (show 0 < ys.length by rw [hyl]; decide)))
    obtain ⟨y, rfl, w1⟩ := open_i64 (c := c1) Try.underlying3 ((hf 1 _ rfl).trans (List.getElem?_eq_getElem (show 1 < ys.length by rw [hyl]; decide)))
    obtain ⟨z, rfl, w2⟩ := open_i64 (c := c2) Try.underlying3 ((hf 2 _ rfl).trans (List.getElem?_eq_getElem (show 2 < ys.length by rw [hyl]; decide)))
    exact ⟨⟨x, y, z⟩, rfl, w0, w1, w2⟩
set_option maxRecDepth 100000 in
theorem open_ops {v : Value} {d : DataW H} {ps : List MemPlace} {r : Go.Reach} {b0 : Nat} (hval : Value.okWide Try.prog W r b0 22 v) (h : DataW.Trod enc Try.prog W 0 sp true 22 v d ps) :
    ∃ A cp, ∃ os : List OpM, v = .slice A os.length cp ∧ OpsAt (B0 W) A os ∧ os.length ≤ cp ∧ OpsB os (Rows.uptoBulk d) := by
  obtain ⟨a, n, c, rfl⟩ := okWide_slice Try.underlying22 hval
  obtain ⟨fuel, h⟩ := h
  obtain ⟨A, cp, xs, D, h1, hc, _, h2, h4, h3⟩ := open_row (α := OpM) (f := opV) (Q := fun o _ => OpB o) Try.underlying22 (size := 3) (by kernel_rfl) (by decide) (fun n cs x h => open_op h) (fun _ => rfl) h
  have h1 : [Value.slice a n c] = [Value.slice A xs.length cp] := h1
  cases h1
  have h5 := bulk_len ((List.range xs.length).map D)
  refine ⟨_, _, xs, rfl, h2, hc, by simp at h5; have h3 := h3; simp only at h3; omega, fun i hi => h4 i hi⟩
end open_
open TabM in
theorem sp_putAt {β : Bs} (t : Nat) (most p : Int) (us : Used Value) (x : Value) (hf : (us.length : Int) < most) {h : Int} {us' : Used Value} (h1 : TabM.least us = h) (h2 : ins h x us = us') :
    Spec Try.prog β 22 #[.pointer (some ⟨t, 0, none⟩), x] [.abs (TabA 71 t most p us)] (fun v l => v = .tuple #[.int .i64 h, .int .i64 0] ∧ ∃ p', l = [.abs (TabA 71 t most p' us')]) := by
  refine (sp_tputI t most p us x hf).mono ?_
  rintro v l ⟨rfl, rfl⟩
  subst h1
  exact ⟨rfl, max p ((us.length : Int) + 1), by rw [h2]⟩
end Go.Proofs.Ytejnhhpjlajngaa
end
/- part Rt. PROVED HERE: plain laws of the reference's table: a list of pairs by rising handle. CONDITIONS: none. -/
section
namespace Go.Proofs.Ytejnhhpjlajngaa
open Go.RowKit HeapM TabM Go.Maps
theorem IntsR.get {β : Bs} {A : Option Addr} {l : List Int} (h : RowB β A (ints l)) {j : Nat} (hj : j < l.length) : A = some ⟨blkOf A, offOf A, none⟩ ∧ Rd β ⟨blkOf A, offOf A + j * 1, none⟩ (.int .i64 (l.getD j 0)) := by
  have := h j _ (ints_getD hj)
  rw [Nat.mul_one]; exact this
theorem IntsR.hd {β : Bs} {A : Option Addr} {l : List Int} (h : RowB β A (ints l)) {j : Nat} (hj : j < l.length) : A = some ⟨blkOf A, offOf A, none⟩ := (IntsR.get h hj).1
theorem IntsR.rd {β : Bs} {A : Option Addr} {l : List Int} (h : RowB β A (ints l)) {j : Nat} (hj : j < l.length) : Rd β ⟨blkOf A, offOf A + j * 1, none⟩ (.int .i64 (l.getD j 0)) := (IntsR.get h hj).2
def vls (us : Used Int) : List Int := us.map (·.2)
theorem vls_len (us : Used Int) : (vls us).length = us.length := by simp [vls]
theorem kys_len {V : Type} (us : Used V) : (keys us).length = us.length := by simp [keys]
/-- the place of a handle; -1: it isn't in use -/
def ixK : List Int → Int → Int
  | [], _ => -1
  | k :: r, h => if k = h then 0 else if ixK r h < 0 then -1 else ixK r h + 1
theorem ixK_none {ks : List Int} {h : Int} : (∀ j, j < ks.length → ¬ ks.getD j 0 = h) → ixK ks h = -1 := by
  induction ks with
  | nil => intro _; rfl
  | cons k r ih =>
    intro hn
    have h0 : ¬ k = h := hn 0 (by simp)
    have := ih (fun j hj => by have := hn (j + 1) (by simpa using hj); simpa using this)
    rw [ixK, if_neg h0, this]; rfl
theorem ixK_at : ∀ {ks : List Int} {h : Int} {i : Nat}, i < ks.length → ks.getD i 0 = h → (∀ j, j < i → ¬ ks.getD j 0 = h) → ixK ks h = i
  | k :: r, h, 0, _, e, _ => by
    have e : k = h := e
    rw [ixK, if_pos e]; rfl
  | k :: r, h, i + 1, hi, e, hn => by
    have h0 : ¬ k = h := hn 0 (by omega)
    have := ixK_at (ks := r) (h := h) (i := i) (by simpa using hi) (by simpa using e) (fun j hj => by have := hn (j + 1) (by omega); simpa using this)
    rw [ixK, if_neg h0, this, if_neg (by omega)]
    omega
theorem ixK_mem {ks : List Int} {h : Int} (hm : h ∈ ks) : ∃ i : Nat, ixK ks h = i ∧ i < ks.length ∧ ks.getD i 0 = h := by
  induction ks with
  | nil => cases hm
  | cons k r ih =>
    by_cases e : k = h
    · exact ⟨0, by rw [ixK, if_pos e]; rfl, by simp, e⟩
    · rcases List.mem_cons.1 hm with e2 | hm
      · exact absurd e2.symm e
      · obtain ⟨i, h1, h2, h3⟩ := ih hm
        exact ⟨i + 1, by rw [ixK, if_neg e, h1, if_neg (by omega)]; omega, by simpa using h2, by simpa using h3⟩
theorem ixK_not {ks : List Int} {h : Int} (hm : h ∉ ks) : ixK ks h = -1 := ixK_none (fun _ hj e => hm (e ▸ getD_memK hj))
theorem ixK_pos {ks : List Int} {h : Int} : 0 ≤ ixK ks h ↔ h ∈ ks := by
  refine ⟨fun h0 => ?_, fun hm => by obtain ⟨i, h1, _⟩ := ixK_mem hm; omega⟩
  apply Classical.byContradiction
  intro hm
  rw [ixK_not hm] at h0
  omega
theorem leastFrom_le : ∀ (ks : List Int) (h : Int), leastFrom h ks ≤ h + ks.length
  | [], h => by simp [leastFrom]
  | k :: r, h => by
    rw [leastFrom]
    split
    · have := leastFrom_le r (h + 1); simp only [List.length_cons]; omega
    · simp only [List.length_cons]; omega
theorem least_le {V : Type} (us : Used V) : TabM.least us ≤ 1 + us.length := by
  have := leastFrom_le (keys us) 1
  rw [kys_len] at this
  exact this
theorem least_spec {V : Type} {us : Used V} (hr : TabM.Rising (keys us)) (hp : ∀ x ∈ keys us, 1 ≤ x) : 1 ≤ TabM.least us ∧ TabM.least us ∉ keys us ∧ ∀ x, 1 ≤ x → x < TabM.least us → x ∈ keys us := leastFrom_spec (keys us) 1 hr hp
section ins
variable {h v : Int}
theorem ins_none : ∀ {l : Used Int}, (∀ p ∈ l, ¬ h < p.1) → ins h v l = l ++ [(h, v)]
  | [], _ => rfl
  | p :: r, hn => by
    rw [ins, if_neg (hn p (List.mem_cons_self ..)), ins_none (fun q hq => hn q (List.mem_cons_of_mem _ hq))]; rfl
theorem ins_first : ∀ {l : Used Int} {x : Int × Int}, (∀ p ∈ l, ¬ h < p.1) → h < x.1 → ins h v (l ++ [x]) = l ++ [(h, v), x]
  | [], x, _, hx => by show ins h v [x] = _; rw [ins, if_pos hx]; rfl
  | p :: r, x, hn, hx => by
    rw [List.cons_append, ins, if_neg (hn p (List.mem_cons_self ..)), ins_first (fun q hq => hn q (List.mem_cons_of_mem _ hq)) hx]; rfl
theorem ins_done : ∀ {l : Used Int} {x : Int × Int}, (∃ p ∈ l, h < p.1) → ins h v (l ++ [x]) = ins h v l ++ [x]
  | [], _, hd => by obtain ⟨p, hp, _⟩ := hd; cases hp
  | p :: r, x, hd => by
    rw [List.cons_append, ins, ins]
    split
    · rfl
    · rename_i hp
      obtain ⟨q, hq, hlt⟩ := hd
      rcases List.mem_cons.1 hq with e | hq
      · exact absurd (e ▸ hlt) hp
      · rw [ins_done ⟨q, hq, hlt⟩]; rfl
end ins
def pr (us : Used Int) (i : Nat) : Int × Int := us.getD i (0, 0)
theorem take_pr {us : Used Int} {i : Nat} (hi : i < us.length) : us.take (i + 1) = us.take i ++ [pr us i] := by
  rw [List.take_add_one]
  congr 1
  unfold pr
  rw [List.getD_eq_getElem?_getD, List.getElem?_eq_getElem hi]; rfl
theorem keys_pr {us : Used Int} {i : Nat} (hi : i < us.length) : (keys us).getD i 0 = (pr us i).1 ∧ (vls us).getD i 0 = (pr us i).2 := by
  unfold keys vls pr
  simp [List.getD_eq_getElem?_getD, hi]
/-- what Put has built behind i pairs -/
structure PutAt (us : Used Int) (h v : Int) (i : Nat) (d : Bool) (q : Used Int) : Prop where
  yes : d = true → (∃ p ∈ us.take i, h < p.1) ∧ q = ins h v (us.take i)
  no : d = false → (∀ p ∈ us.take i, ¬ h < p.1) ∧ q = us.take i
  len : q.length = i + (if d then 1 else 0)
section put
variable {us q : Used Int} {h v : Int} {i : Nat} {d : Bool}
theorem PutAt.zero : PutAt us h v 0 false [] := ⟨fun e => (by cases e), fun _ => ⟨fun p hp => (by simp at hp), (by simp)⟩, rfl⟩
theorem PutAt.hit (hp : PutAt us h v i false q) (hi : i < us.length) (hk : h < (pr us i).1) : PutAt us h v (i + 1) true (q ++ [(h, v)] ++ [pr us i]) := by
  obtain ⟨h1, rfl⟩ := hp.no rfl
  refine ⟨fun _ => ⟨⟨pr us i, by rw [take_pr hi]; simp, hk⟩, by rw [take_pr hi, ins_first h1 hk]; simp⟩, fun e => (by cases e), ?_⟩
  simp
  omega
theorem PutAt.miss (hp : PutAt us h v i false q) (hi : i < us.length) (hk : ¬ h < (pr us i).1) : PutAt us h v (i + 1) false (q ++ [pr us i]) := by
  obtain ⟨h1, rfl⟩ := hp.no rfl
  refine ⟨fun e => (by cases e), fun _ => ⟨fun p hpm => ?_, (take_pr hi).symm⟩, by simp; omega⟩
  rw [take_pr hi] at hpm
  rcases List.mem_append.1 hpm with e | e
  · exact h1 p e
  · rw [List.mem_singleton.1 e]; exact hk
theorem PutAt.more (hp : PutAt us h v i true q) (hi : i < us.length) : PutAt us h v (i + 1) true (q ++ [pr us i]) := by
  obtain ⟨⟨p, h1, h2⟩, rfl⟩ := hp.yes rfl
  refine ⟨fun _ => ⟨⟨p, by rw [take_pr hi]; exact List.mem_append_left _ h1, h2⟩, by rw [take_pr hi, ins_done ⟨p, h1, h2⟩]⟩, fun e => (by cases e), ?_⟩
  have := hp.len
  simp at this ⊢
  omega
theorem PutAt.last (hp : PutAt us h v us.length false q) : q ++ [(h, v)] = ins h v us := by
  obtain ⟨h1, rfl⟩ := hp.no rfl
  rw [List.take_length] at h1 ⊢
  exact (ins_none h1).symm
theorem PutAt.end_ (hp : PutAt us h v us.length true q) : q = ins h v us := by
  obtain ⟨_, rfl⟩ := hp.yes rfl
  rw [List.take_length]
end put
theorem vls_snoc (q : Used Int) (x : Int × Int) : vls (q ++ [x]) = vls q ++ [x.2] := by simp [vls]
theorem keys_snoc (q : Used Int) (x : Int × Int) : keys (q ++ [x]) = keys q ++ [x.1] := by simp [keys]
/-- what Drop has built behind i pairs -/
theorem del_take {us : Used Int} {h : Int} {i : Nat} (hi : i < us.length) : del h (us.take (i + 1)) = if (pr us i).1 = h then del h (us.take i) else del h (us.take i) ++ [pr us i] := by
  rw [take_pr hi]
  unfold del
  rw [List.filter_append]
  by_cases e : (pr us i).1 = h
  · rw [if_pos e]; simp [e]
  · rw [if_neg e]; simp [e]
theorem del_len_le {us : Used Int} {h : Int} : (del h us).length ≤ us.length := List.length_filter_le ..
theorem rising_inj {us : Used Int} (hr : TabM.Rising (keys us)) {i j : Nat} (hi : i < us.length) (hj : j < us.length) (e : (pr us i).1 = (pr us j).1) : i = j := by
  rw [← (keys_pr hi).1, ← (keys_pr hj).1] at e
  rcases Nat.lt_trichotomy i j with h | h | h
  · have := rising_get hr h (by rw [kys_len]; exact hj); omega
  · exact h
  · have := rising_get hr h (by rw [kys_len]; exact hi); omega
theorem get_pr {us : Used Int} (hr : TabM.Rising (keys us)) {i : Nat} (hi : i < us.length) {h : Int} (e : (pr us i).1 = h) : TabM.get us h = some (pr us i).2 := by
  have hm : pr us i ∈ us := by unfold pr; rw [List.getD_eq_getElem?_getD, List.getElem?_eq_getElem hi]; exact List.getElem_mem hi
  unfold TabM.get
  cases hf : us.find? (fun p => p.1 == h) with
  | none =>
    have := List.find?_eq_none.1 hf _ hm
    simp [e] at this
  | some p =>
    have h1 := List.mem_of_find?_eq_some hf
    have h2 := List.find?_some hf
    obtain ⟨j, hj, rfl⟩ := List.getElem_of_mem h1
    have e2 : pr us j = us[j] := by unfold pr; rw [List.getD_eq_getElem?_getD, List.getElem?_eq_getElem hj]; rfl
    have : j = i := rising_inj hr hj hi (by rw [e2, e]; simpa using h2)
    subst this
    rw [e2]; rfl
end Go.Proofs.Ytejnhhpjlajngaa
end
