/-
  PROVED HERE: a region that draws its order and ends in operations that stand in one order alone; a contract of the shelf as a contract of the logic.
  CONDITIONS: none. No statement of the seat is proved here.
-/
import Derived.Test.YtjpdcppdoonmdaaVe
import Derived.StillTail
namespace Go.Proofs.Ytjpdcppdoonmdaa
open Go.RowKit
section still
variable {P : Program} {β : Bs} {N : Nat} {junk : Nat → Value} {ops : Array Oper} {n : Nat} {w : World}
theorem oruns_ge {hs : List OH} : ∀ {k k' : Nat} {fr fr' : Fr} {S S' : SS}, oruns P β n true N junk ops hs k fr S = some (k', fr', S') → k ≤ k' := by
  induction hs with
  | nil => intro k k' fr fr' S S' h; cases h; exact Nat.le_refl _
  | cons h hs ih =>
    intro k k' fr fr' S S' hr
    unfold oruns at hr
    split at hr
    · cases hr
    split at hr
    · split at hr
      · exact Nat.le_of_succ_le (ih hr)
      · cases hr
    · exact Nat.le_of_succ_le (ih hr)
theorem drop_take_cons {o : Oper} {k k' : Nat} (h : ops.toList[k]? = some o) (hk : k < k') : (ops.toList.take k').drop k = o :: (ops.toList.take k').drop (k + 1) := by
  have h1 : (ops.toList.take k')[k]? = some o := by
    rw [List.getElem?_take, if_pos hk]; exact h
  have h2 := len_of_some h1
  rw [List.drop_eq_getElem_cons h2]
  congr 1
  rw [List.getElem?_eq_getElem h2] at h1
  exact Option.some.inj h1
theorem oruns_still {Q : Act → Prop} : ∀ {hs : List OH} {k k' : Nat} {fr fr' : Fr} {S S' : SS}, oruns P β n true N junk ops hs k fr S = some (k', fr', S') → (∀ p, p ∈ S'.obl → p) → S.used = true → Sat β S.hps w →
    Q (mkA N fr' junk) → wpStill P ops w Q ((ops.toList.take k').drop k) (mkA N fr junk)
  | [], k, k', fr, fr', S, S', h, ho, hu, hS, hK => by cases h; rw [List.drop_of_length_le (by simp; omega)]; exact hK
  | h :: hs, k, k', fr, fr', S, S', hr, ho, hu, hS, hK => by
    unfold oruns at hr
    split at hr
    · cases hr
    rename_i o hget
    have hk : k < k' := by
      split at hr
      · split at hr
        · exact oruns_ge hr
        · cases hr
      · exact oruns_ge hr
    rw [drop_take_cons hget hk]
    unfold wpStill
    have hw : Region.wanted o (yielded ops (mkA N fr junk).tmps) = Region.wanted o (yF ops N fr junk) := by
      have : yielded ops (mkA N fr junk).tmps = yF ops N fr junk := funext (yF_eq ops N fr junk)
      rw [this]
    rw [hw]
    split at hr
    · rename_i hwt
      rw [if_pos hwt]
      split at hr
      · rename_i v S1 h0
        obtain ⟨e1, e2⟩ := orun_ro h0
        obtain ⟨w', h1, h2, h3, h4⟩ := orun_sound h0 (fun p hp => ho p (oruns_obl hr p hp)) hS (fun e => by rw [hu] at e; cases e)
        obtain ⟨ew, e⟩ := h4 rfl
        rw [ew] at h1 h2
        unfold Oper.still
        rw [mkA_eval]
        rcases h1 with h1 | ⟨h1, h1'⟩
        · rw [h1, Oper.stillUpon_value, mkA_put]
          exact oruns_still hr ho (e2.trans hu) h2 hK
        · subst h1
          rw [h1', Oper.stillUpon_skip, mkA_put]
          exact oruns_still hr ho (e2.trans hu) h2 hK
      · cases hr
    · rename_i hwf
      rw [if_neg (by simp [hwf])]
      rw [mkA_put]
      exact oruns_still hr ho hu hS hK
end still
theorem Tri.regionTail {P : Program} {β : Bs} {N : Nat} {ops : Array Oper} {fr fr' : Fr} {hps : List HP} {Q : Post} {obl : List Prop} {id : Nat} (n : Nat) (hm : P.follows .mixedOrders = true) (hB : Region.lexTailB .any ops n = true)
    (hs : List OH) (idx : List Nat) (h : ∀ m junk, segrun P β m true N junk ops hs 0 fr hps idx (List.range hps.length) = some (n, fr', hps, obl)) (ho : AllP obl) (K : TriL P β N ops n fr' hps Q) : Tri P β N (.region id ops true) fr hps Q := by
  intro junk w hS
  obtain ⟨ops⟩ := ops
  obtain ⟨fr1, S, h1, h2, h3, h4, h5⟩ := seg_spec (h 0 junk)
  refine wp_region_still_tail n hm hB ?_
  have hk := K (lk fr1 junk) (w.drewN 1) (hS.drewN 1)
  rw [h4, ← mkA_pick] at hk
  have := oruns_still (w := w.drewN 1) (Q := fun a' => wpList P ⟨ops⟩ Q (ops.drop n) a' (w.drewN 1)) h1 (fun p hp => ho.mem (h5 ▸ hp)) rfl (hS.drewN 1) hk
  exact this
theorem Spec.quiet {P : Program} {β : Bs} {f : FuncId} {args : Array Value} {v : Value} (h : ∀ w, Calls P f args w fun e w' => e = .returned v ∧ w' = w) : Spec P β f args [] (fun v' l => v' = v ∧ l = []) :=
  fun _ w hS => (h w).mono fun _ _ ⟨h1, h2⟩ => ⟨v, [], h1, ⟨rfl, rfl⟩, h2 ▸ hS⟩
end Go.Proofs.Ytjpdcppdoonmdaa
