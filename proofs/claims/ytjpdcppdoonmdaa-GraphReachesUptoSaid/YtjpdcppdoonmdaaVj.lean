/-
  PROVED HERE: the judgements of the logic: a run of operations within a region, code; calls, loops, branches.
  CONDITIONS: none. No statement of the seat is proved here.
-/
import Derived.Test.YtjpdcppdoonmdaaVo
namespace Go.Proofs.Ytjpdcppdoonmdaa
open Go.RowKit

/-- operations of a region from place k on -/
def oruns (P : Program) (β : Bs) (n : Nat) (ro : Bool) (N : Nat) (junk : Nat → Value) (ops : Array Oper) : List OH → Nat → Fr → SS → Option (Nat × Fr × SS)
  | [], k, fr, S => some (k, fr, S)
  | h :: hs, k, fr, S =>
    match ops.toList[k]? with
    | none => none
    | some o =>
      match Region.wanted o (yF ops N fr junk) with
      | true =>
        match orun P β n ro (evF N fr junk) o h S with
        | some (v, S') => oruns P β n ro N junk ops hs (k + 1) (putF fr o.dst v) S'
        | none => none
      | false => oruns P β n ro N junk ops hs (k + 1) (putF fr o.dst undef) S

/-- the whole of a run: what is kept of frame and memory, and what is owed -/
def segrun (P : Program) (β : Bs) (n : Nat) (ro : Bool) (N : Nat) (junk : Nat → Value) (ops : Array Oper) (hs : List OH) (k : Nat) (fr : Fr) (hps : List HP) (idx pk : List Nat) : Option (Nat × Fr × List HP × List Prop) :=
  match oruns P β n ro N junk ops hs k fr ⟨[], hps, [], ro⟩ with
  | some (k', fr', S) =>
    match nodupB pk with
    | true =>
      match pickL S.hps pk with
      | some l => some (k', pickF fr' junk idx, l, S.obl)
      | none => none
    | false => none
  | none => none

section runs
variable {P : Program} {β : Bs} {n : Nat} {ro : Bool} {N : Nat} {junk : Nat → Value} {ops : Array Oper}
theorem oruns_obl : ∀ {hs : List OH} {k k' : Nat} {fr fr' : Fr} {S S' : SS}, oruns P β n ro N junk ops hs k fr S = some (k', fr', S') → ∀ p, p ∈ S.obl → p ∈ S'.obl
  | [], k, k', fr, fr', S, S', h, p, hp => by cases h; exact hp
  | h :: hs, k, k', fr, fr', S, S', hr, p, hp => by
    unfold oruns at hr
    repeat' split at hr
    all_goals first | (cases hr; done) | skip
    · rename_i h0; exact oruns_obl hr p (orun_obl h0 p hp)
    · exact oruns_obl hr p hp
theorem drop_cons {ops : Array Oper} {k : Nat} {o : Oper} (h : ops.toList[k]? = some o) : ops.toList.drop k = o :: ops.toList.drop (k + 1) := by
  have hk := len_of_some h
  rw [List.drop_eq_getElem_cons hk]
  rw [List.getElem?_eq_getElem hk] at h
  cases h
  rfl
theorem wp_of_ran {o : Oper} {a : Act} {w w' : World} {v : Value} {K : Act → World → Prop} {Q : Exit → Act → World → Prop} (h : Ran P a.eval o w v w') (hk : K (a.put o.dst v) w') : o.wp P a w K Q := by
  unfold Oper.wp
  rcases h with h | ⟨rfl, h⟩
  · rw [h]; exact hk
  · rw [h]; exact hk
theorem oruns_sound {Q : Exit → Act → World → Prop} : ∀ {hs : List OH} {k k' : Nat} {fr fr' : Fr} {S S' : SS} {w : World}, oruns P β n ro N junk ops hs k fr S = some (k', fr', S') → (∀ p, p ∈ S'.obl → p) → Sat β S.hps w → (S.used = false → n = w.heap.size) →
    (∀ w', Sat β S'.hps w' → wpList P ops Q (ops.toList.drop k') (mkA N fr' junk) w') → wpList P ops Q (ops.toList.drop k) (mkA N fr junk) w
  | [], k, k', fr, fr', S, S', w, h, ho, hS, hn, hK => by cases h; exact hK w hS
  | h :: hs, k, k', fr, fr', S, S', w, hr, ho, hS, hn, hK => by
    unfold oruns at hr
    split at hr
    · cases hr
    rename_i o hget
    rw [drop_cons hget]
    unfold wpList
    have hw : Region.wanted o (yielded ops (mkA N fr junk).tmps) = Region.wanted o (yF ops N fr junk) := by
      have : yielded ops (mkA N fr junk).tmps = yF ops N fr junk := funext (yF_eq ops N fr junk)
      rw [this]
    rw [hw]
    split at hr
    · rename_i hwt
      rw [if_pos hwt]
      split at hr
      · rename_i v S1 h0
        obtain ⟨w', h1, h2, h3, _⟩ := orun_sound h0 (fun p hp => ho p (oruns_obl hr p hp)) hS hn
        refine .inl (wp_of_ran (v := v) (w' := w') (by rw [mkA_eval]; exact h1) ?_)
        rw [mkA_put]
        exact oruns_sound hr ho h2 h3 hK
      · cases hr
    · rename_i hwf
      rw [if_neg (by simp [hwf])]
      rw [mkA_put]
      exact oruns_sound hr ho hS hn hK
/-- the same where the order is drawn: reads alone -/
theorem oruns_quiet {Q : Act → Prop} : ∀ {hs : List OH} {k k' : Nat} {fr fr' : Fr} {S S' : SS}, oruns P β n true N junk ops hs k fr S = some (k', fr', S') → (∀ p, p ∈ S'.obl → p) → S.used = true →
    (S'.hps = S.hps → wpQuiet P ops (Sat β S.hps) Q (ops.toList.drop k') (mkA N fr' junk)) → wpQuiet P ops (Sat β S.hps) Q (ops.toList.drop k) (mkA N fr junk)
  | [], k, k', fr, fr', S, S', h, ho, hu, hK => by cases h; exact hK rfl
  | h :: hs, k, k', fr, fr', S, S', hr, ho, hu, hK => by
    unfold oruns at hr
    split at hr
    · cases hr
    rename_i o hget
    rw [drop_cons hget]
    unfold wpQuiet
    have hw : Region.wanted o (yielded ops (mkA N fr junk).tmps) = Region.wanted o (yF ops N fr junk) := by
      have : yielded ops (mkA N fr junk).tmps = yF ops N fr junk := funext (yF_eq ops N fr junk)
      rw [this]
    rw [hw]
    split at hr
    · rename_i hwt
      rw [if_pos hwt]
      split at hr
      · rename_i v S1 h0
        obtain ⟨e1, e2⟩ := orun_ro h0
        refine ⟨v, fun w hS => ?_, ?_⟩
        · obtain ⟨w', h1, h2, h3, h4⟩ := orun_sound h0 (fun p hp => ho p (oruns_obl hr p hp)) hS (fun e => by rw [hu] at e; cases e)
          obtain ⟨rfl, e⟩ := h4 rfl
          unfold Oper.quietAt
          rw [mkA_eval]
          rcases h1 with h1 | ⟨h1, h1'⟩
          · rw [h1]; exact ⟨rfl, rfl⟩
          · rw [h1']; exact ⟨rfl, h1⟩
        · rw [mkA_put, ← e1]
          exact oruns_quiet hr ho (e2.trans hu) (fun e => by rw [e1]; exact hK (e.trans e1))
      · cases hr
    · rename_i hwf
      rw [if_neg (by simp [hwf])]
      rw [mkA_put]
      exact oruns_quiet hr ho hu hK
end runs
end Go.Proofs.Ytjpdcppdoonmdaa
