/-
  PROVED HERE: the logic's rule for a region that draws its order and both reads and changes memory: what it reads stays as it is while it changes, and its changes stand in one order.
  CONDITIONS: none. No statement of the seat is proved here.
-/
import Derived.Test.YtjpdcppdoonmdaaVy
import Derived.OrdersHeld
namespace Go.Proofs.Ytjpdcppdoonmdaa
open Go.RowKit
/-- a post that is met at the normal end alone -/
def NP (Q : Post) : Post := fun e a w => match e with
  | .normal => Q .normal a w
  | _ => False
section order
variable {P : Program} {ops : Array Oper} {Q Q' : Post} {n : Nat} {S : World → Prop}
theorem letsOut_np (h : LetsOut (NP Q)) : False := by
  obtain ⟨a, w, h⟩ := h
  exact h
theorem wp_np {o : Oper} {a : Act} {w : World} {K : Act → World → Prop} (h : o.wp P a w K (NP Q)) : o.wp P a w K (NP Q') := by
  unfold Oper.wp at *
  generalize (execOp a.eval o).run P w = r at *
  cases r with
  | ok m w' =>
    cases m <;> simp only [Oper.upon] at h ⊢ <;>
      first
        | exact h
        | exact Calls.mono h (fun e w'' he => by cases e <;> first | exact he | exact (letsOut_np he).elim)
  | halt x w' => cases x <;> simp only [Oper.upon] at h ⊢; exact h
theorem wpOp_of_list {i : Nat} {o : Oper} {a : Act} {w : World} {K : Act → World → Prop} (hi : ops[i]? = some o) (hg : o.guard = none) (h : wpList P #[o] (NP fun _ a w => K a w) [o] a w) : wpOp P ops (NP Q) i K a w := by
  unfold wpOp
  simp only [hi]
  have hw : ∀ y, Region.wanted o y = true := fun y => by unfold Region.wanted; rw [hg]
  rw [if_pos (hw _)]
  unfold wpList at h
  rw [if_pos (hw _)] at h
  rcases h with h | ⟨_, h⟩
  · exact .inl (wp_np (Oper.wp_mono (fun a w h => h) h))
  · exact (letsOut_np h).elim
theorem wpList_np {o : Oper} {a : Act} {w : World} (hq : ∀ a w, Q .normal a w → Q' .normal a w) (h : wpList P ops (NP Q) [o] a w) : wpList P ops (NP Q') [o] a w := by
  unfold wpList at *
  split
  · rename_i hw
    rw [if_pos hw] at h
    rcases h with h | ⟨_, h⟩
    · exact .inl (wp_np (Oper.wp_mono (fun a w h => hq a w h) h))
    · exact (letsOut_np h).elim
  · rename_i hw
    rw [if_neg hw] at h
    exact hq _ _ h
/-- whatever order is picked: S holds behind every operation but n, the last one -/
def wpAnyE (P : Program) (ops : Array Oper) (Q : Post) (n : Nat) (S : World → Prop) : Nat → Array Bool → Act → World → Prop
  | 0, listed, a, w => Region.ready .any ops listed = [] ∧ Q .normal a w
  | fuel + 1, listed, a, w => (Region.ready .any ops listed = [] → Q .normal a w) ∧
    ∀ i ∈ Region.ready .any ops listed, wpOp P ops Q i (fun a' w' => (i = n ∨ S w') ∧ wpAnyE P ops Q n S fuel (listed.setIfInBounds i true) a' w') a w
theorem wpAny_of_E : ∀ (fuel : Nat) (listed : Array Bool) (a : Act) (w : World), wpAnyE P ops Q n S fuel listed a w → wpAny P .any ops Q fuel listed a w
  | 0, _, _, _, h => h
  | fuel + 1, _, _, _, h => ⟨h.1, fun i hi => wpOp_mono (fun a' w' h' => wpAny_of_E fuel _ a' w' h'.2) (h.2 i hi)⟩
/-- what has come up has all that it waits for before it -/
def Closed (ops : Array Oper) (listed : Array Bool) : Prop := ∀ j oj, ops[j]? = some oj → listed.getD j false = true → ∀ e ∈ oj.after, Region.binds .any e = true → listed.getD e.on false = true
theorem Closed.set {listed : Array Bool} {j : Nat} (h : Closed ops listed) (hj : j ∈ Region.ready .any ops listed) : Closed ops (listed.setIfInBounds j true) := by
  obtain ⟨_, oj, hoj, hall⟩ := mem_ready.1 hj
  intro k ok hk hl e he hb
  refine getD_set_true ?_
  by_cases hjk : j = k
  · subst hjk
    rw [hoj] at hk
    cases hk
    exact hall e he hb
  · rw [getD_set_ne false hjk] at hl
    exact h k ok hk hl e he hb
theorem sink_wait (hs : Region.sinkB .any ops n = true) {listed : Array Bool} (hc : Closed ops listed) : ∀ (m i : Nat), n - i ≤ m → i < n → listed.getD i false = false → n ∉ Region.ready .any ops listed
  | 0, i, hm, hi, _ => by omega
  | m + 1, i, hm, hi, hu => fun hr => by
    unfold Region.sinkB at hs
    rw [List.all_eq_true] at hs
    have h1 := hs i (List.mem_range.2 hi)
    rw [List.any_eq_true] at h1
    obtain ⟨j, hj, h2⟩ := h1
    rw [Bool.and_eq_true, decide_eq_true_iff] at h2
    have hj := List.mem_range.1 hj
    obtain ⟨oj, hoj, e, he, hb, heq⟩ := Region.waitsFor_spec h2.2
    by_cases hjn : j = n
    · subst hjn
      obtain ⟨_, oj', hoj', hall⟩ := mem_ready.1 hr
      rw [hoj] at hoj'
      cases hoj'
      have := hall e he hb
      rw [heq, hu] at this
      cases this
    · cases hl : listed.getD j false with
      | true =>
        have := hc j oj hoj hl e he hb
        rw [heq, hu] at this
        cases this
      | false => exact sink_wait (by unfold Region.sinkB; rw [List.all_eq_true]; exact hs) hc m j (by omega) (by omega) hl hr
theorem unlisted_of_ready {listed : Array Bool} {i : Nat} (h : i ∈ Region.ready .any ops listed) : listed.getD i false = false := by
  have h1 := (mem_ready.1 h).1
  rcases Nat.lt_or_ge i listed.size with h' | h'
  · simp [h'] at h1 ⊢; exact h1
  · simp [Array.getElem?_eq_none h'] at h1
/-- a reading that may come up now may be taken first -/
theorem wpAnyE_first {i : Nat} {oi : Oper} {v : Value} (hi : ops[i]? = some oi) (hsel : Region.noSelect ops = true) (hsink : Region.sinkB .any ops n = true) (hin : i < n) :
    ∀ (fuel : Nat) (listed : Array Bool) (a : Act) (w : World), Closed ops listed →
      (∀ j oj, ops[j]? = some oj → j ≠ i → listed.getD j true = false → (∀ e ∈ oj.after, Region.binds .any e = true → e.on ≠ i) → oi.apart ops oj = true) →
      i ∈ Region.ready .any ops listed → YieldsIf P ops S oi v a → S w →
      wpAnyE P ops (NP Q) n S fuel (listed.setIfInBounds i true) (a.put oi.dst v) w → wpAnyE P ops (NP Q) n S (fuel + 1) listed a w := by
  intro fuel
  induction fuel with
  | zero =>
    intro listed a w _ _ hr hy hS H
    refine ⟨fun h => (by rw [h] at hr; cases hr), fun j hj => ?_⟩
    by_cases hji : j = i
    · subst hji; exact hy.wpOp hi hS ⟨.inr hS, H⟩
    · have := ready_mono hj hji
      rw [H.1] at this
      cases this
  | succ fuel ih =>
    intro listed a w hcl hfree hr hy hS H
    refine ⟨fun h => (by rw [h] at hr; cases hr), fun j hj => ?_⟩
    by_cases hji : j = i
    · subst hji; exact hy.wpOp hi hS ⟨.inr hS, H⟩
    · have h1 := H.2 j (ready_mono hj hji)
      have hjn : j ≠ n := fun e => by
        subst e
        exact sink_wait hsink hcl _ i (Nat.le_refl _) hin (unlisted_of_ready hr) hj
      obtain ⟨hjun, oj, hoj, hall⟩ := mem_ready.1 hj
      have hnot : ∀ e ∈ oj.after, Region.binds .any e = true → e.on ≠ i := fun e he hb heq => by
        have h2 := hall e he hb
        rw [heq, unlisted_of_ready hr] at h2
        cases h2
      have h2 := wpOp_putIf (S := S) (Q := NP Q) hoj (hfree j oj hoj hji hjun hnot) (fun cs b => Region.noSelect_spec hsel i oi cs b hi) (fun cs b => Region.noSelect_spec hsel j oj cs b hoj) (fun _ _ _ h => h) hy h1
      have hfree' : ∀ k ok, ops[k]? = some ok → k ≠ i → (listed.setIfInBounds j true).getD k true = false →
          (∀ e ∈ ok.after, Region.binds .any e = true → e.on ≠ i) → oi.apart ops ok = true := fun k ok hk hki hun hno => by
        refine hfree k ok hk hki ?_ hno
        by_cases hjk : j = k
        · subst hjk; exact hjun
        · rw [getD_set_ne true hjk] at hun; exact hun
      refine wpOp_mono (fun a' w' h3 => ?_) h2
      have hS' : S w' := h3.2.1.resolve_left hjn
      refine ⟨.inr hS', ih (listed.setIfInBounds j true) a' w' (hcl.set hj) hfree' (ready_mono hr (Ne.symm hji)) h3.1 hS' ?_⟩
      rw [Array.setIfInBounds_comm _ _ hji]
      exact h3.2.2
/-- some readings, then the changes in their order -/
def wpMix (P : Program) (ops : Array Oper) (Q : Post) (S : World → Prop) : Nat → List Nat → Act → World → Prop
  | _, [], a, w => Q .normal a w
  | 0, i :: l, a, w => wpOp P ops Q i (fun a' w' => (l = [] ∨ S w') ∧ wpMix P ops Q S 0 l a' w') a w
  | r + 1, i :: l, a, w => ∃ o v, ops[i]? = some o ∧ YieldsIf P ops S o v a ∧ wpMix P ops Q S r l (a.put o.dst v) w
def mixB (ops : Array Oper) (n : Nat) : Nat → List Nat → Array Bool → Bool
  | _, [], listed => (Region.ready .any ops listed).isEmpty
  | 0, i :: l, listed => (Region.ready .any ops listed == [i]) && (!l.isEmpty || i == n) && mixB ops n 0 l (listed.setIfInBounds i true)
  | r + 1, i :: l, listed => decide (i < n) && Region.free .any ops listed i && (Region.ready .any ops listed).contains i && mixB ops n r l (listed.setIfInBounds i true)
theorem wpMix_eff (hsel : Region.noSelect ops = true) : ∀ (l : List Nat) (listed : Array Bool) (a : Act) (w : World), mixB ops n 0 l listed = true → wpMix P ops (NP Q) S 0 l a w → wpAnyE P ops (NP Q) n S l.length listed a w
  | [], listed, a, w, hb, h => ⟨List.isEmpty_iff.1 hb, h⟩
  | i :: l, listed, a, w, hb, h => by
    unfold mixB at hb
    simp only [Bool.and_eq_true, beq_iff_eq] at hb
    obtain ⟨⟨h1, h2⟩, h3⟩ := hb
    refine ⟨fun h0 => (by rw [h1] at h0; cases h0), fun j hj => ?_⟩
    rw [h1] at hj
    have hj : j = i := by simpa using hj
    subst hj
    refine wpOp_mono (fun a' w' h4 => ⟨?_, wpMix_eff hsel l _ a' w' h3 h4.2⟩) h
    rcases h4.1 with h5 | h5
    · subst h5; exact .inl (by simpa using h2)
    · exact .inr h5
theorem wpMix_E (hsel : Region.noSelect ops = true) (hsink : Region.sinkB .any ops n = true) : ∀ (r : Nat) (l : List Nat) (listed : Array Bool) (a : Act) (w : World), mixB ops n r l listed = true → Closed ops listed → S w → wpMix P ops (NP Q) S r l a w → wpAnyE P ops (NP Q) n S l.length listed a w
  | 0, l, listed, a, w, hb, _, _, h => wpMix_eff hsel l listed a w hb h
  | r + 1, [], listed, a, w, hb, _, _, h => ⟨List.isEmpty_iff.1 hb, h⟩
  | r + 1, i :: l, listed, a, w, hb, hc, hS, h => by
    unfold mixB at hb
    simp only [Bool.and_eq_true, decide_eq_true_iff] at hb
    obtain ⟨⟨⟨h1, h2⟩, h3⟩, h4⟩ := hb
    obtain ⟨o, v, ho, hy, hk⟩ := h
    have hr : i ∈ Region.ready .any ops listed := by simpa using h3
    exact wpAnyE_first ho hsel hsink h1 l.length listed a w hc (Region.free_spec ho h2) hr hy hS (wpMix_E hsel hsink r l _ _ w h4 (hc.set hr) hS hk)
def mixTop (ops : Array Oper) (perm : List Nat) (nr : Nat) : Bool :=
  Region.noSelect ops && Region.sinkB .any ops (ops.size - 1) && (perm.length == ops.size) && mixB ops (ops.size - 1) nr perm (Array.replicate ops.size false)
end order
section mix
variable {P : Program} {β : Bs} {N : Nat} {ops : Array Oper} {S : List HP} {r r' : Nat} {l l' : List Nat} {fr fr' : Fr} {hps : List HP} {Q : Post} {obl : List Prop} {d : Option Tmp} {op : Op} {v : Value} {i : Nat} {pk : List Nat}
def TriM (P : Program) (β : Bs) (N : Nat) (ops : Array Oper) (S : List HP) (r : Nat) (l : List Nat) (fr : Fr) (hps : List HP) (Q : Post) : Prop :=
  ∀ junk w, Sat β hps w → wpMix P ops (NP Q) (Sat β S) r l (mkA N fr junk) w
theorem Tri.regionMix {id : Nat} (perm : List Nat) (nr : Nat) (pk : List Nat) (hm : P.follows .mixedOrders = true) (hB : mixTop ops perm nr = true) (hn : nodupB pk = true) (hp : pickL hps pk = some S) (h : TriM P β N ops S nr perm fr hps Q) : Tri P β N (.region id ops true) fr hps Q := by
  intro junk w hS
  unfold mixTop at hB
  simp only [Bool.and_eq_true, beq_iff_eq] at hB
  obtain ⟨⟨⟨h1, h2⟩, h3⟩, h4⟩ := hB
  have hS' := hS.drewN 1
  have h5 := wpMix_E (Q := Q) h1 h2 nr perm _ _ _ h4 (fun j oj _ hl => by simp [Array.getD_eq_getD_getElem?, Array.getElem?_replicate] at hl; split at hl <;> simp at hl) (hS'.pick hn hp) (h junk (w.drewN 1) hS')
  rw [h3] at h5
  refine Code.wp_mono (fun e a w q => ?_) (wp_region_any hm (wpAny_of_E _ _ _ _ h5))
  cases e with
  | normal => exact q
  | exit id => exact q.elim
  | goto l => exact q.elim
  | ret => exact q.elim
  | panic ch => exact q.elim
  | outgrown => exact q.elim
def plainV : Value → Bool
  | .tuple a => decide (a.size ≠ 0)
  | _ => true
theorem plainV_ne {v : Value} (h : plainV v = true) : ¬ v = undef := fun e => by subst e; exact absurd h (by decide)
/-- readings, by the kernel -/
def orunsI (P : Program) (β : Bs) (N : Nat) (junk : Nat → Value) (ops : Array Oper) : List OH → List Nat → Fr → SS → Option (Fr × SS)
  | [], [], fr, S => some (fr, S)
  | h :: hs, i :: is, fr, S =>
    match ops[i]? with
    | some o =>
      match o.guard with
      | none =>
        match orun P β 0 true (evF N fr junk) o h S with
        | some (v, S') =>
          match plainV v with
          | true => orunsI P β N junk ops hs is (putF fr o.dst v) S'
          | false => none
        | none => none
      | some _ => none
    | none => none
  | _, _, _, _ => none
def readrun (P : Program) (β : Bs) (N : Nat) (junk : Nat → Value) (ops : Array Oper) (hs : List OH) (is : List Nat) (fr : Fr) (S : List HP) (idx : List Nat) : Option (Fr × List Prop) :=
  match orunsI P β N junk ops hs is fr ⟨[], S, [], true⟩ with
  | some (fr', S') => some (pickF fr' junk idx, S'.obl)
  | none => none
theorem orunsI_obl {junk : Nat → Value} : ∀ {hs : List OH} {is : List Nat} {fr fr' : Fr} {S S' : SS}, orunsI P β N junk ops hs is fr S = some (fr', S') → ∀ p, p ∈ S.obl → p ∈ S'.obl
  | [], [], fr, fr', S, S', h, p, hp => by cases h; exact hp
  | h :: hs, i :: is, fr, fr', S, S', hr, p, hp => by
    unfold orunsI at hr
    repeat' split at hr
    all_goals first | (cases hr; done) | skip
    rename_i h0 _ _
    exact orunsI_obl hr p (orun_obl h0 p hp)
  | [], _ :: _, _, _, _, _, h, _, _ => by cases h
  | _ :: _, [], _, _, _, _, h, _, _ => by cases h
theorem orunsI_sound {junk : Nat → Value} {w : World} : ∀ {hs : List OH} {is : List Nat} {fr fr' : Fr} {T T' : SS}, orunsI P β N junk ops hs is fr T = some (fr', T') → (∀ p, p ∈ T'.obl → p) → T.used = true → T.hps = S →
    wpMix P ops (NP Q) (Sat β S) r l (mkA N fr' junk) w → wpMix P ops (NP Q) (Sat β S) (is.length + r) (is ++ l) (mkA N fr junk) w
  | [], [], fr, fr', T, T', h, ho, hu, hT, hK => by cases h; simpa using hK
  | h :: hs, i :: is, fr, fr', T, T', hr, ho, hu, hT, hK => by
    unfold orunsI at hr
    repeat' split at hr
    all_goals first | (cases hr; done) | skip
    rename_i o hget _ hguard _ v T1 h0 _ hv
    obtain ⟨e1, e2⟩ := orun_ro h0
    have e : (i :: is).length + r = (is.length + r) + 1 := by simp; omega
    rw [e, List.cons_append]
    unfold wpMix
    refine ⟨o, v, hget, .inl ⟨by unfold Region.wanted; rw [hguard], fun w' hS' => ?_⟩, ?_⟩
    · rw [mkA_eval]
      obtain ⟨w2, h1, _, _, h4⟩ := orun_sound h0 (fun p hp => ho p (orunsI_obl hr p hp)) (by rw [hT]; exact hS') (fun e => by rw [hu] at e; cases e)
      obtain ⟨ew, _⟩ := h4 rfl
      rw [ew] at h1
      rcases h1 with h1 | ⟨h1, _⟩
      · exact h1
      · exact absurd h1 (plainV_ne hv)
    · rw [mkA_put]
      exact orunsI_sound hr ho (e2.trans hu) (e1.trans hT) hK
  | [], _ :: _, _, _, _, _, h, _, _, _, _ => by cases h
  | _ :: _, [], _, _, _, _, h, _, _, _, _ => by cases h
theorem TriM.reads (is : List Nat) (hs : List OH) (idx : List Nat) (h : ∀ junk, readrun P β N junk ops hs is fr S idx = some (fr', obl)) (ho : AllP obl) (hr : r' = is.length + r) (hl : l' = is ++ l) (K : TriM P β N ops S r l fr' hps Q) : TriM P β N ops S r' l' fr hps Q := by
  intro junk w hS
  subst hr hl
  have h0 := h junk
  unfold readrun at h0
  split at h0
  · rename_i fr1 S1 h1
    cases h0
    have hK := K (lk fr1 junk) w hS
    rw [← mkA_pick] at hK
    exact orunsI_sound h1 (fun p hp => ho.mem hp) rfl rfl hK
  · cases h0
def opI (ops : Array Oper) (i : Nat) : Option (Op × Option Tmp) := match ops[i]? with
  | some o => match o.guard with
    | none => some (o.op, o.dst)
    | some _ => none
  | none => none
theorem opI_spec (h : opI ops i = some (op, d)) : ∃ o, ops[i]? = some o ∧ o.guard = none ∧ o.op = op ∧ o.dst = d := by
  unfold opI at h
  repeat' split at h
  all_goals first | (cases h; done) | skip
  rename_i o h1 _ h2
  cases h
  exact ⟨o, h1, h2, rfl, rfl⟩
theorem TriM.read1 (hop : opI ops i = some (op, d)) (h : ∀ (o : Oper) junk w, o.op = op → Sat β S w → Ran P (evF N fr junk) o w v w) (hv : plainV v = true) (K : TriM P β N ops S r l (putF fr d v) hps Q) : TriM P β N ops S (r + 1) (i :: l) fr hps Q := by
  intro junk w hS
  obtain ⟨o, h1, h2, h3, rfl⟩ := opI_spec hop
  unfold wpMix
  refine ⟨o, v, h1, .inl ⟨by unfold Region.wanted; rw [h2], fun w' hS' => ?_⟩, ?_⟩
  · rw [mkA_eval]
    rcases h o junk w' h3 hS' with h4 | ⟨h4, _⟩
    · exact h4
    · exact absurd h4 (plainV_ne hv)
  · rw [mkA_put]
    exact K junk w hS
/-- an operation that changes memory: told by a family of frames and parts -/
def Mid (β : Bs) (N : Nat) {ι : Type} (fr : ι → Fr) (hp : ι → List HP) : Post := fun _ a w => ∃ i junk, a = mkA N (fr i) junk ∧ Sat β (hp i) w
theorem TriM.cut {ι : Type} {fr' : ι → Fr} {hp' : ι → List HP} {o : Oper} (pk : List Nat) (hop : ops[i]? = some o) (hg : o.guard = none) (h : TriL P β N #[o] 0 fr hps (NP (Mid β N fr' hp'))) (hn : nodupB pk = true) (hp : ∀ j, pickL (hp' j) pk = some S)
    (K : ∀ j, TriM P β N ops S 0 l (fr' j) (hp' j) Q) : TriM P β N ops S 0 (i :: l) fr hps Q := by
  intro junk w hS
  unfold wpMix
  refine wpOp_of_list hop hg ?_
  have h1 := h junk w hS
  have h2 : wpList P #[o] (NP (Mid β N fr' hp')) [o] (mkA N fr junk) w := h1
  refine wpList_np (fun a w ⟨j, junk', ha, hS'⟩ => ?_) h2
  subst ha
  exact ⟨.inr (hS'.pick hn (hp j)), K j junk' w hS'⟩
theorem TriM.last {o : Oper} (hop : ops[i]? = some o) (hg : o.guard = none) (h : TriL P β N #[o] 0 fr hps (NP Q)) : TriM P β N ops S 0 [i] fr hps Q := by
  intro junk w hS
  unfold wpMix
  refine wpOp_of_list hop hg ?_
  have h2 : wpList P #[o] (NP Q) [o] (mkA N fr junk) w := h junk w hS
  exact wpList_np (fun a w hq => ⟨.inl rfl, by unfold wpMix; exact hq⟩) h2
theorem TriQ.mid {ι : Type} {fr' : ι → Fr} {hp' : ι → List HP} (j : ι) {idx pk : List Nat} (hf : ∀ junk, pickF fr junk idx = fr' j) (hn : nodupB pk = true) (hp : pickL hps pk = some (hp' j)) : TriQ β N (NP (Mid β N fr' hp')) .normal fr hps :=
  fun junk _ hS => ⟨j, lk fr junk, by rw [mkA_pick N fr junk idx, hf junk], hS.pick hn hp⟩
theorem TriQ.np (h : TriQ β N Q .normal fr hps) : TriQ β N (NP Q) .normal fr hps := fun junk w hS => h junk w hS
section maps
open Go.Maps
variable {t K E : TypeId} {b cnt : Nat} {f : Lit → Option Value} {x ix : Operand} {key z : Value} {kl : Lit} {q : Option Value}
theorem TriM.mapLookOk (p : Nat) (hop : opI ops i = some (.lookup t x ix true, d)) (hp : S[p]? = some (.abs (MapA P K b f cnt))) (hx : ∀ junk, evF N fr junk x = .map (some b)) (hix : ∀ junk, evF N fr junk ix = key) (L : Keyed P K)
    (ht : P.underlying t = some (.map K E)) (hz : ∀ w, (zeroValue E).run P w = .ok z w) (hkey : keyOf P K key = some kl) (hr : f kl = q) (K' : TriM P β N ops S r l (putF fr d (.tuple #[q.getD z, .bool q.isSome])) hps Q) : TriM P β N ops S (r + 1) (i :: l) fr hps Q := by
  subst hr
  exact TriM.read1 hop (fun _ junk w ho hS => ran_lookOk ho (MapA.get hS hp) (hx junk) (hix junk) L ht (hz w) hkey) rfl K'
theorem TriM.mapLook (p : Nat) (hop : opI ops i = some (.lookup t x ix false, d)) (hp : S[p]? = some (.abs (MapA P K b f cnt))) (hx : ∀ junk, evF N fr junk x = .map (some b)) (hix : ∀ junk, evF N fr junk ix = key) (L : Keyed P K)
    (ht : P.underlying t = some (.map K E)) (hz : ∀ w, (zeroValue E).run P w = .ok z w) (hkey : keyOf P K key = some kl) (hr : f kl = q) (hv : plainV (q.getD z) = true) (K' : TriM P β N ops S r l (putF fr d (q.getD z)) hps Q) : TriM P β N ops S (r + 1) (i :: l) fr hps Q := by
  subst hr
  exact TriM.read1 hop (fun _ junk w ho hS => ran_look ho (MapA.get hS hp) (hx junk) (hix junk) L ht (hz w) hkey) hv K'
end maps
end mix
end Go.Proofs.Ytjpdcppdoonmdaa
