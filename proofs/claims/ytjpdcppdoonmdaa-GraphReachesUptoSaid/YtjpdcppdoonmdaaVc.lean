/-
  PROVED HERE: the rules of the logic for calls, for a function's entry and its return; contracts of the elder kind taken over.
  CONDITIONS: none. No statement of the seat is proved here.
-/
import Derived.Test.YtjpdcppdoonmdaaVk
namespace Go.Proofs.Ytjpdcppdoonmdaa
open Go.RowKit

def callOf (P : Program) (β : Bs) (N : Nat) (junk : Nat → Value) (ops : Array Oper) (fr : Fr) (k : Nat) : Option (FuncId × Array Value × Option Tmp) :=
  match ops.toList[k]? with
  | some o =>
    match Region.wanted o (yF ops N fr junk) with
    | true =>
      match srun P β 0 true (execOp (evF N fr junk) o) ⟨[], [], [], true⟩ with
      | some (.enter f args, _) => some (f, args, o.dst)
      | _ => none
    | false => none
  | none => none

section calls
variable {P : Program} {β : Bs} {N : Nat} {ops : Array Oper} {k : Nat} {fr : Fr} {hps R : List HP} {Q : Post} {f : FuncId} {args : Array Value} {d : Option Tmp}
theorem Sat.nil {l : List HP} {w : World} (h : Sat β l w) : Sat β [] w := ⟨h.1, fun _ _ => False, fun i p hp => by simp at hp, fun i hi => by simp at hi, fun i j hi => by simp at hi⟩
theorem callOf_spec {junk : Nat → Value} (h : callOf P β N junk ops fr k = some (f, args, d)) : ∃ o, ops.toList[k]? = some o ∧ Region.wanted o (yF ops N fr junk) = true ∧ o.dst = d ∧
    ∀ w, Sat β [] w → (execOp (evF N fr junk) o).run P w = .ok (.enter f args) w := by
  unfold callOf at h
  repeat' split at h
  all_goals first | (cases h; done) | skip
  rename_i o h1 _ h2 _ f' args' S' h3
  cases h
  refine ⟨o, h1, h2, rfl, fun w hS => ?_⟩
  have hob := srun_none _ _ _ _ h3 rfl
  obtain ⟨w', h4, _, _, h5⟩ := srun_sound _ _ _ _ w h3 (fun p hp => by rw [hob] at hp; cases hp) hS (fun e => by cases e)
  rw [h4, (h5 rfl).1]
theorem wanted_mkA (o : Oper) (junk : Nat → Value) : Region.wanted o (yielded ops (mkA N fr junk).tmps) = Region.wanted o (yF ops N fr junk) := by
  have : yielded ops (mkA N fr junk).tmps = yF ops N fr junk := funext (yF_eq ops N fr junk)
  rw [this]
theorem TriL.call {pre : List HP} {post : Value → List HP → Prop} {pk : List Nat} (hc : ∀ junk, callOf P β N junk ops fr k = some (f, args, d)) (hs : Spec P β f args pre post) (hn : nodupB pk = true) (hp : pickL hps pk = some (pre ++ R))
    (K : ∀ v l, post v l → TriL P β N ops (k + 1) (putF fr d v) (l ++ R) Q) : TriL P β N ops k fr hps Q := by
  intro junk w hS
  obtain ⟨o, h1, h2, rfl, h3⟩ := callOf_spec (hc junk)
  rw [drop_cons h1]
  unfold wpList
  rw [wanted_mkA, if_pos h2]
  refine .inl ?_
  unfold Oper.wp
  rw [mkA_eval, h3 w hS.nil, Oper.upon_enter]
  refine (hs.use (hS.pick hn hp)).mono ?_
  rintro e w' ⟨v, l, rfl, hpost, hS'⟩
  show wpList _ _ _ _ ((mkA N fr junk).put o.dst v) w'
  rw [mkA_put]
  exact K v l hpost junk w' hS'
/-- a call of a value that is known ahead, of which memory is told as before -/
theorem TriLQ.call {pre : List HP} {post : Value → List HP → Prop} {pk pk' : List Nat} {v0 : Value} (hc : ∀ junk, callOf P β N junk ops fr k = some (f, args, d)) (hs : Spec P β f args pre post) (hn : nodupB pk = true) (hp : pickL hps pk = some (pre ++ R))
    (hn' : nodupB pk' = true) (hp' : pickL (pre ++ R) pk' = some hps) (hv : ∀ v l, post v l → v = v0 ∧ l = pre)
    (K : TriLQ P β N ops (k + 1) (putF fr d v0) hps Q) : TriLQ P β N ops k fr hps Q := by
  intro junk
  obtain ⟨o, h1, h2, rfl, h3⟩ := callOf_spec (hc junk)
  rw [drop_cons h1]
  unfold wpQuiet
  rw [wanted_mkA, if_pos h2]
  refine ⟨v0, fun w hS => ?_, ?_⟩
  · unfold Oper.quietAt
    rw [mkA_eval, h3 w hS.nil]
    refine ⟨rfl, (hs.use (hS.pick hn hp)).mono ?_⟩
    rintro e w' ⟨v, l, rfl, hpost, hS'⟩
    obtain ⟨rfl, rfl⟩ := hv v l hpost
    exact ⟨rfl, hS'.pick hn' hp'⟩
  · rw [mkA_put]
    exact K junk
/-- an operation by a law of its own -/
theorem TriL.op {ι : Type} {v : ι → Value} {hp' : ι → List HP} {o : Oper} (ho : ops.toList[k]? = some o) (h : ∀ junk w, Sat β hps w → Region.wanted o (yF ops N fr junk) = true ∧ ∃ i w', Ran P (evF N fr junk) o w (v i) w' ∧ Sat β (hp' i) w')
    (K : ∀ i, TriL P β N ops (k + 1) (putF fr o.dst (v i)) (hp' i) Q) : TriL P β N ops k fr hps Q := by
  intro junk w hS
  obtain ⟨hw, i, w', h1, h2⟩ := h junk w hS
  rw [drop_cons ho]
  unfold wpList
  rw [wanted_mkA, if_pos hw]
  refine .inl (wp_of_ran (v := v i) (w' := w') (by rw [mkA_eval]; exact h1) ?_)
  rw [mkA_put]
  exact K i junk w' h2
end calls

/-! ### entry and return -/
def zipF : Nat → List Value → Fr
  | _, [] => []
  | k, x :: r => (k, x) :: zipF (k + 1) r
theorem lk_zipF (junk : Nat → Value) : ∀ (l : List Value) (k t : Nat), lk (zipF k l) junk t = if k ≤ t ∧ t < k + l.length then l.getD (t - k) undef else junk t
  | [], k, t => by simp [zipF, lk]; intros; omega
  | x :: r, k, t => by
    rw [zipF, lk_cons, lk_zipF junk r (k + 1) t]
    by_cases h : k = t
    · subst h; simp
    · by_cases h2 : k + 1 ≤ t ∧ t < k + 1 + r.length
      · have e : t - k = (t - (k + 1)) + 1 := by omega
        simp only [h, if_false, h2, and_self, if_true]
        rw [if_pos (by simp; omega), e]
        simp
      · rw [if_neg h, if_neg h2, if_neg (by simp; omega)]
theorem enter_mkA {N : Nat} {args : Array Value} (h : args.toList.length ≤ N) : (⟨args ++ Array.replicate (N - args.size) undef, []⟩ : Act) = mkA N (zipF 0 args.toList) (fun _ => undef) := by
  unfold mkA
  congr 1
  apply Array.ext_getElem?
  intro t
  have hs : args.toList.length = args.size := by simp
  by_cases h1 : t < args.size
  · have h2 : t < N := by omega
    simp [h1, h2, lk_zipF, Array.getElem?_append_left]
  · by_cases h2 : t < N
    · rw [Array.getElem?_append_right (Nat.le_of_not_lt h1), Array.getElem?_replicate, if_pos (by omega)]
      rw [List.getElem?_toArray, List.getElem?_map, List.getElem?_range h2]
      simp only [Option.map_some, lk_zipF]
      rw [if_neg (by omega)]
    · simp [h2]
      omega
def RetQ (β : Bs) (R : Asn) (post : Value → List HP → Prop) : Ending → World → Prop := fun e w' => ∃ v l, e = .returned v ∧ post v l ∧ Sat β (l ++ [.abs R]) w'
section ends
variable {P : Program} {β : Bs} {N : Nat} {fr : Fr} {hps l : List HP} {f : FuncId} {args : Array Value} {pre : List HP} {post : Value → List HP → Prop} {fn : Func} {c : Code} {v : Value} {obl : List Prop}
theorem Spec.enter (hf : P.funcs[f]? = some fn) (hb : fn.body = some c) (hN : fn.ntmps = N) (hl : args.toList.length ≤ N) (h : ∀ R : Asn, Tri P β N c (zipF 0 args.toList) (pre ++ [.abs R]) (bodyPost P fn (RetQ β R post))) : Spec P β f args pre post := by
  intro R w hS
  refine calls_of_wp hf hb ?_
  rw [hN, enter_mkA hl]
  exact h R _ w hS
def retOf (P : Program) (β : Bs) (N : Nat) (junk : Nat → Value) (fn : Func) (fr : Fr) (hps : List HP) (hints : List Hint) : Option (Value × List Prop) :=
  match srun P β 0 true (results fn (mkA N fr junk).tmps) ⟨hints, hps, [], true⟩ with
  | some (v, S) => some (v, S.obl)
  | none => none
theorem retOf_spec {junk : Nat → Value} {hints : List Hint} {w : World} (h : retOf P β N junk fn fr hps hints = some (v, obl)) (ho : AllP obl) (hS : Sat β hps w) : (results fn (mkA N fr junk).tmps).run P w = .ok v w := by
  unfold retOf at h
  split at h
  · rename_i v' S h0
    cases h
    obtain ⟨w', h1, _, _, h2⟩ := srun_sound _ _ _ _ w h0 (fun p hp => ho.mem hp) hS (fun e => by cases e)
    rw [h1, (h2 rfl).1]
  · cases h
theorem TriQ.ret {R : Asn} (hints : List Hint) (pk : List Nat) (hr : ∀ junk, retOf P β N junk fn fr hps hints = some (v, obl)) (ho : AllP obl) (hn : nodupB pk = true) (hp : pickL hps pk = some (l ++ [.abs R])) (hpost : post v l) :
    TriQ β N (bodyPost P fn (RetQ β R post)) .ret fr hps :=
  fun junk _ hS => ⟨rfl, v, retOf_spec (hr junk) ho hS, v, l, rfl, hpost, hS.pick hn hp⟩
theorem TriQ.fin {R : Asn} (hints : List Hint) (pk : List Nat) (hr : ∀ junk, retOf P β N junk fn fr hps hints = some (v, obl)) (ho : AllP obl) (hn : nodupB pk = true) (hp : pickL hps pk = some (l ++ [.abs R])) (hpost : post v l) :
    TriQ β N (bodyPost P fn (RetQ β R post)) .normal fr hps :=
  fun junk _ hS => ⟨rfl, v, retOf_spec (hr junk) ho hS, v, l, rfl, hpost, hS.pick hn hp⟩

/-! ### contracts of the elder kind -/
theorem Spec.of1 {A : Asn} (h : ∀ F w, A.h F w → Calls P f args w fun e w' => ∃ v p, e = .returned v ∧ post v [p] ∧ ∃ F', p.h F' w' ∧ Step F w F' w') : Spec P β f args [.abs A] post := by
  intro R w hS
  obtain ⟨F, hF⟩ := hS.get (i := 0) rfl
  have hS0 := hS
  obtain ⟨ho, φ, h1, h2, h3⟩ := hS
  refine (h (φ 0) w (h1 0 _ rfl)).mono ?_
  rintro e w' ⟨v, p, rfl, hp, F', hF', st⟩
  refine ⟨v, [p], rfl, hp, ?_⟩
  have ho' := ho
  have h4 : ∀ k, φ 1 k → k < w.heap.size := fun k hk => HP.lt (h1 1 (.abs R) rfl) k hk
  refine ⟨ho.keeps st.keeps (fun k hk hk' => h2 0 (by simp) k hk' hk), fun i => if i = 0 then F' else φ 1, fun i q hq => ?_, fun i hi k hk hO => ?_, fun i j hi hj hne k hk hk' => ?_⟩
  · match i, hq with
    | 0, hq => cases hq; exact hF'
    | 1, hq =>
      cases hq
      exact HP.st (h1 1 (.abs R) rfl) st.keeps (fun k hk hk' => h3 0 1 (by simp) (by simp) (by simp) k hk' hk)
  · by_cases e : i = 0
    · simp only [e, if_true] at hk
      rcases st.grow k hk with e | e
      · exact h2 0 (by simp) k e hO
      · have := (ho.old k hO).1; have := ho.size; omega
    · simp only [e, if_false] at hk
      exact h2 1 (by simp) k hk hO
  · simp at hi hj
    have key : ∀ k, F' k → φ 1 k → False := fun k hk hk' => by
      rcases st.grow k hk with e | e
      · exact h3 0 1 (by simp) (by simp) (by simp) k e hk'
      · have := h4 k hk'; omega
    by_cases e1 : i = 0
    · have e2 : j ≠ 0 := fun e => hne (e1.trans e.symm)
      simp only [e1, if_true] at hk
      simp only [e2, if_false] at hk'
      exact key k hk hk'
    · have e2 : j = 0 := by omega
      simp only [e1, if_false] at hk
      simp only [e2, if_true] at hk'
      exact key k hk' hk
theorem Spec.of0 (h : ∀ w, β.ok w → Calls P f args w fun e w' => ∃ v, e = .returned v ∧ post v [] ∧ Keeps (fun _ => False) w w') : Spec P β f args [] post := by
  intro R w hS
  refine (h w hS.1).mono ?_
  rintro e w' ⟨v, rfl, hp, hk⟩
  exact ⟨v, [], rfl, hp, hS.quiet hk⟩
theorem Spec.of0new (h : ∀ w, β.ok w → Calls P f args w fun e w' => ∃ v p, e = .returned v ∧ post v [p] ∧ Keeps (fun _ => False) w w' ∧ ∃ F, p.h F w' ∧ ∀ k, F k → w.heap.size ≤ k) : Spec P β f args [] post := by
  intro R w hS
  refine (h w hS.1).mono ?_
  rintro e w' ⟨v, p, rfl, hp, hk, F, hF, hn⟩
  exact ⟨v, [p], rfl, hp, (Sat.new hS hF hk hn).pick (idx := [1, 0]) rfl rfl⟩
def empA : Asn where
  h F _ := ∀ k, ¬ F k
  lt h k hk := (h k hk).elim
  st h _ _ _ _ := h
theorem Spec.top {W : World} (h : Spec P ⟨(· < W.heap.size), W⟩ f args [] post) : Calls P f args W fun e w' => (∃ v l, e = .returned v ∧ post v l) ∧ Below W.heap.size W w' := by
  have hS : Sat ⟨(· < W.heap.size), W⟩ ([] ++ [.abs empA]) W := by
    refine ⟨⟨rfl, rfl, rfl, Nat.le_refl _, fun k hk => ⟨hk, rfl⟩⟩, fun _ _ => False, fun i p hp => ?_, fun i _ k hk => hk.elim, fun i j _ _ _ k hk => hk.elim⟩
    match i, hp with
    | 0, hp => cases hp; exact fun _ h => h
  refine (h empA W hS).mono ?_
  rintro e w' ⟨v, l, he, hp, hS'⟩
  have ho := hS'.1
  exact ⟨⟨v, l, he, hp⟩, ho.os, ho.tape, ho.output, ho.size, fun k hk => (ho.old k hk).2⟩
end ends
end Go.Proofs.Ytjpdcppdoonmdaa
