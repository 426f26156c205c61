/-
  PROVED HERE: a region that draws its order and ends in operations that stand in one order alone; a contract of the shelf as a contract of the logic.
  CONDITIONS: none. No statement of the seat is proved here.
-/
import Derived.Test.YtjpdcppdoonmdaaVe
import Derived.StillTail
namespace Go.Proofs.Ytjpdcppdoonmdaa
open Go.RowKit
section still
variable {P : Program} {β : Bs} {N : Nat} {junk : Nat → Value} {ops : Array Oper} {n : Nat} {w : World}
theorem oruns_ge {hs : List OH} : ∀ {k k' : Nat} {fr fr' : Fr} {S S' : SS}, oruns P β n true N junk ops hs k fr S = some (k', fr', S') → k ≤ k' := by
  induction hs with
  | nil => intro k k' fr fr' S S' h; cases h; exact Nat.le_refl _
  | cons h hs ih =>
    intro k k' fr fr' S S' hr
    unfold oruns at hr
    split at hr
    · cases hr
    split at hr
    · split at hr
      · exact Nat.le_of_succ_le (ih hr)
      · cases hr
    · exact Nat.le_of_succ_le (ih hr)
theorem drop_take_cons {o : Oper} {k k' : Nat} (h : ops.toList[k]? = some o) (hk : k < k') : (ops.toList.take k').drop k = o :: (ops.toList.take k').drop (k + 1) := by
  have h1 : (ops.toList.take k')[k]? = some o := by
    rw [List.getElem?_take, if_pos hk]; exact h
  have h2 := len_of_some h1
  rw [List.drop_eq_getElem_cons h2]
  congr 1
  rw [List.getElem?_eq_getElem h2] at h1
  exact Option.some.inj h1
theorem oruns_still {Q : Act → Prop} : ∀ {hs : List OH} {k k' : Nat} {fr fr' : Fr} {S S' : SS}, oruns P β n true N junk ops hs k fr S = some (k', fr', S') → (∀ p, p ∈ S'.obl → p) → S.used = true → Sat β S.hps w →
    Q (mkA N fr' junk) → wpStill P ops w Q ((ops.toList.take k').drop k) (mkA N fr junk)
  | [], k, k', fr, fr', S, S', h, ho, hu, hS, hK => by cases h; rw [List.drop_of_length_le (by simp; omega)]; exact hK
  | h :: hs, k, k', fr, fr', S, S', hr, ho, hu, hS, hK => by
    unfold oruns at hr
    split at hr
    · cases hr
    rename_i o hget
    have hk : k < k' := by
      split at hr
      · split at hr
        · exact oruns_ge hr
        · cases hr
      · exact oruns_ge hr
    rw [drop_take_cons hget hk]
    unfold wpStill
    have hw : Region.wanted o (yielded ops (mkA N fr junk).tmps) = Region.wanted o (yF ops N fr junk) := by
      have : yielded ops (mkA N fr junk).tmps = yF ops N fr junk := funext (yF_eq ops N fr junk)
      rw [this]
    rw [hw]
    split at hr
    · rename_i hwt
      rw [if_pos hwt]
      split at hr
      · rename_i v S1 h0
        obtain ⟨e1, e2⟩ := orun_ro h0
        obtain ⟨w', h1, h2, h3, h4⟩ := orun_sound h0 (fun p hp => ho p (oruns_obl hr p hp)) hS (fun e => by rw [hu] at e; cases e)
        obtain ⟨ew, e⟩ := h4 rfl
        rw [ew] at h1 h2
        unfold Oper.still
        rw [mkA_eval]
        rcases h1 with h1 | ⟨h1, h1'⟩
        · rw [h1, Oper.stillUpon_value, mkA_put]
          exact oruns_still hr ho (e2.trans hu) h2 hK
        · subst h1
          rw [h1', Oper.stillUpon_skip, mkA_put]
          exact oruns_still hr ho (e2.trans hu) h2 hK
      · cases hr
    · rename_i hwf
      rw [if_neg (by simp [hwf])]
      rw [mkA_put]
      exact oruns_still hr ho hu hS hK
end still
theorem Tri.regionTail {P : Program} {β : Bs} {N : Nat} {ops : Array Oper} {fr fr' : Fr} {hps : List HP} {Q : Post} {obl : List Prop} {id : Nat} (n : Nat) (hm : P.follows .mixedOrders = true) (hB : Region.lexTailB .any ops n = true)
    (hs : List OH) (idx : List Nat) (h : ∀ m junk, segrun P β m true N junk ops hs 0 fr hps idx (List.range hps.length) = some (n, fr', hps, obl)) (ho : AllP obl) (K : TriL P β N ops n fr' hps Q) : Tri P β N (.region id ops true) fr hps Q := by
  intro junk w hS
  obtain ⟨ops⟩ := ops
  obtain ⟨fr1, S, h1, h2, h3, h4, h5⟩ := seg_spec (h 0 junk)
  refine wp_region_still_tail n hm hB ?_
  have hk := K (lk fr1 junk) (w.drewN 1) (hS.drewN 1)
  rw [h4, ← mkA_pick] at hk
  have := oruns_still (w := w.drewN 1) (Q := fun a' => wpList P ⟨ops⟩ Q (ops.drop n) a' (w.drewN 1)) h1 (fun p hp => ho.mem (h5 ▸ hp)) rfl (hS.drewN 1) hk
  exact this
theorem Spec.quiet {P : Program} {β : Bs} {f : FuncId} {args : Array Value} {v : Value} (h : ∀ w, Calls P f args w fun e w' => e = .returned v ∧ w' = w) : Spec P β f args [] (fun v' l => v' = v ∧ l = []) :=
  fun _ w hS => (h w).mono fun _ _ ⟨h1, h2⟩ => ⟨v, [], h1, ⟨rfl, rfl⟩, h2 ▸ hS⟩
/-! ### a drawn region's head, operation by operation -/
def TriLS (P : Program) (β : Bs) (N : Nat) (ops : Array Oper) (n k : Nat) (fr : Fr) (hps : List HP) (Q : Post) : Prop :=
  ∀ junk w, Sat β hps w → wpStill P ops w (fun a' => wpList P ops Q (ops.toList.drop n) a' w) ((ops.toList.take n).drop k) (mkA N fr junk)
section heads
variable {P : Program} {β : Bs} {N : Nat} {ops : Array Oper} {n k k' : Nat} {fr fr' : Fr} {hps : List HP} {Q : Post} {obl : List Prop} {d : Option Tmp} {op : Op} {v : Value} {i : Nat}
theorem oruns_still' {junk : Nat → Value} {w : World} {m : Nat} {Q : Act → Prop} : ∀ {hs : List OH} {k k' : Nat} {fr fr' : Fr} {S S' : SS}, oruns P β m true N junk ops hs k fr S = some (k', fr', S') → (∀ p, p ∈ S'.obl → p) → S.used = true → Sat β S.hps w → k' ≤ n →
    wpStill P ops w Q ((ops.toList.take n).drop k') (mkA N fr' junk) → wpStill P ops w Q ((ops.toList.take n).drop k) (mkA N fr junk)
  | [], k, k', fr, fr', S, S', h, ho, hu, hS, hn, hK => by cases h; exact hK
  | h :: hs, k, k', fr, fr', S, S', hr, ho, hu, hS, hn, hK => by
    unfold oruns at hr
    split at hr
    · cases hr
    rename_i o hget
    have hk : k < n := by
      refine Nat.lt_of_lt_of_le ?_ hn
      split at hr
      · split at hr
        · exact oruns_ge hr
        · cases hr
      · exact oruns_ge hr
    rw [drop_take_cons hget hk]
    unfold wpStill
    have hw : Region.wanted o (yielded ops (mkA N fr junk).tmps) = Region.wanted o (yF ops N fr junk) := by
      have : yielded ops (mkA N fr junk).tmps = yF ops N fr junk := funext (yF_eq ops N fr junk)
      rw [this]
    rw [hw]
    split at hr
    · rename_i hwt
      rw [if_pos hwt]
      split at hr
      · rename_i v S1 h0
        obtain ⟨e1, e2⟩ := orun_ro h0
        obtain ⟨w', h1, h2, h3, h4⟩ := orun_sound h0 (fun p hp => ho p (oruns_obl hr p hp)) hS (fun e => by rw [hu] at e; cases e)
        obtain ⟨ew, e⟩ := h4 rfl
        rw [ew] at h1 h2
        unfold Oper.still
        rw [mkA_eval]
        rcases h1 with h1 | ⟨h1, h1'⟩
        · rw [h1, Oper.stillUpon_value, mkA_put]
          exact oruns_still' hr ho (e2.trans hu) h2 hn hK
        · subst h1
          rw [h1', Oper.stillUpon_skip, mkA_put]
          exact oruns_still' hr ho (e2.trans hu) h2 hn hK
      · cases hr
    · rename_i hwf
      rw [if_neg (by simp [hwf])]
      rw [mkA_put]
      exact oruns_still' hr ho hu hS hn hK
theorem Tri.regionStill {id : Nat} (n : Nat) (hm : P.follows .mixedOrders = true) (hB : Region.lexTailB .any ops n = true) (h : TriLS P β N ops n 0 fr hps Q) : Tri P β N (.region id ops true) fr hps Q := by
  intro junk w hS
  obtain ⟨ops⟩ := ops
  refine wp_region_still_tail n hm hB ?_
  exact h junk (w.drewN 1) (hS.drewN 1)
theorem TriLS.seg (hs : List OH) (idx : List Nat) (h : ∀ m junk, segrun P β m true N junk ops hs k fr hps idx (List.range hps.length) = some (k', fr', hps, obl)) (ho : AllP obl) (hk : k' ≤ n) (K : TriLS P β N ops n k' fr' hps Q) : TriLS P β N ops n k fr hps Q := by
  intro junk w hS
  obtain ⟨fr1, S, h1, h2, h3, h4, h5⟩ := seg_spec (h 0 junk)
  have hK := K (lk fr1 junk) w hS
  rw [h4, ← mkA_pick] at hK
  exact oruns_still' h1 (fun p hp => ho.mem (h5 ▸ hp)) rfl hS hk hK
theorem TriLS.done (hk : k = n) (K : TriL P β N ops n fr hps Q) : TriLS P β N ops n k fr hps Q := by
  intro junk w hS
  subst hk
  have e : (ops.toList.take k).drop k = [] := List.drop_of_length_le (by rw [List.length_take]; exact Nat.min_le_left _ _)
  rw [e]
  exact K junk w hS
theorem TriLS.run1 (hop : ∀ junk, opAt N junk ops fr k = some (op, d)) (hk : k < n) (h : ∀ (o : Oper) junk w, o.op = op → Sat β hps w → Ran P (evF N fr junk) o w v w) (K : TriLS P β N ops n (k + 1) (putF fr d v) hps Q) : TriLS P β N ops n k fr hps Q := by
  intro junk w hS
  obtain ⟨o, h1, h2, h3, rfl⟩ := opAt_spec (hop junk)
  rw [drop_take_cons h1 hk]
  unfold wpStill
  rw [wanted_mkA, if_pos h2]
  unfold Oper.still
  rw [mkA_eval]
  have hK := K junk w hS
  rw [← mkA_put] at hK
  rcases h o junk w h3 hS with h4 | ⟨h4, h4'⟩
  · rw [h4, Oper.stillUpon_value]; exact hK
  · subst h4
    rw [h4', Oper.stillUpon_skip]; exact hK
theorem TriLS.slot (i : Nat) (v v' : Value) (h : ∀ junk, lk fr junk i = v) (hv : v = v') (K : TriLS P β N ops n k ((i, v') :: fr) hps Q) : TriLS P β N ops n k fr hps Q := fun junk w hS => by
  have := K junk w hS
  rwa [mkA_same ((h junk).trans hv)] at this
theorem TriLS.slotB (i : Nat) (b : Bool) (h : ∀ junk, lk fr junk i = .bool b) (ht : b = true → TriLS P β N ops n k ((i, .bool true) :: fr) hps Q) (hf : b = false → TriLS P β N ops n k ((i, .bool false) :: fr) hps Q) : TriLS P β N ops n k fr hps Q := by
  cases b with
  | true => exact TriLS.slot i _ _ h rfl (ht rfl)
  | false => exact TriLS.slot i _ _ h rfl (hf rfl)
theorem TriLS.slotP (i : Nat) (p : Prop) [Decidable p] (h : ∀ junk, lk fr junk i = .bool (decide p)) (ht : p → TriLS P β N ops n k ((i, .bool true) :: fr) hps Q) (hf : ¬ p → TriLS P β N ops n k ((i, .bool false) :: fr) hps Q) : TriLS P β N ops n k fr hps Q :=
  TriLS.slotB i _ h (fun e => ht (of_decide_eq_true e)) (fun e => hf (of_decide_eq_false e))
theorem TriLS.slotN (i : Nat) (p : Prop) [Decidable p] (h : ∀ junk, lk fr junk i = .bool (!decide p)) (ht : ¬ p → TriLS P β N ops n k ((i, .bool true) :: fr) hps Q) (hf : p → TriLS P β N ops n k ((i, .bool false) :: fr) hps Q) : TriLS P β N ops n k fr hps Q :=
  TriLS.slotB i _ h (fun e => ht (not_dec_true e)) (fun e => hf (not_dec_false e))
section maps
open Go.Maps
variable {t K E : TypeId} {b cnt : Nat} {f : Lit → Option Value} {x ix : Operand} {key z : Value} {kl : Lit} {r : Option Value}
theorem TriLS.mapLookOk (i : Nat) (hop : ∀ junk, opAt N junk ops fr k = some (.lookup t x ix true, d)) (hp : hps[i]? = some (.abs (MapA P K b f cnt))) (hx : ∀ junk, evF N fr junk x = .map (some b)) (hix : ∀ junk, evF N fr junk ix = key) (L : Keyed P K)
    (ht : P.underlying t = some (.map K E)) (hz : ∀ w, (zeroValue E).run P w = .ok z w) (hkey : keyOf P K key = some kl) (hr : f kl = r) (hk : k < n) (K' : TriLS P β N ops n (k + 1) (putF fr d (.tuple #[r.getD z, .bool r.isSome])) hps Q) : TriLS P β N ops n k fr hps Q := by
  subst hr
  exact TriLS.run1 hop hk (fun o junk w ho hS => ran_lookOk ho (MapA.get hS hp) (hx junk) (hix junk) L ht (hz w) hkey) K'
theorem TriLS.mapLook (i : Nat) (hop : ∀ junk, opAt N junk ops fr k = some (.lookup t x ix false, d)) (hp : hps[i]? = some (.abs (MapA P K b f cnt))) (hx : ∀ junk, evF N fr junk x = .map (some b)) (hix : ∀ junk, evF N fr junk ix = key) (L : Keyed P K)
    (ht : P.underlying t = some (.map K E)) (hz : ∀ w, (zeroValue E).run P w = .ok z w) (hkey : keyOf P K key = some kl) (hr : f kl = r) (hk : k < n) (K' : TriLS P β N ops n (k + 1) (putF fr d (r.getD z)) hps Q) : TriLS P β N ops n k fr hps Q := by
  subst hr
  exact TriLS.run1 hop hk (fun o junk w ho hS => ran_look ho (MapA.get hS hp) (hx junk) (hix junk) L ht (hz w) hkey) K'
theorem TriLS.mapLen (i : Nat) {ats : Array TypeId} (hop : ∀ junk, opAt N junk ops fr k = some (.call ⟨.builtin .len, #[x], ats⟩, d)) (hp : hps[i]? = some (.abs (MapA P K b f cnt))) (hx : ∀ junk, evF N fr junk x = .map (some b)) (hats : ats = #[t]) (ht : P.underlying t = some (.map K E))
    (hk : k < n) (K' : TriLS P β N ops n (k + 1) (putF fr d (.int .i64 ((cnt : Nat) : Int))) hps Q) : TriLS P β N ops n k fr hps Q :=
  TriLS.run1 hop hk (fun _ junk _ ho hS => ran_len ho hats (MapA.get hS hp) (hx junk) ht) K'
end maps
end heads
end Go.Proofs.Ytjpdcppdoonmdaa
