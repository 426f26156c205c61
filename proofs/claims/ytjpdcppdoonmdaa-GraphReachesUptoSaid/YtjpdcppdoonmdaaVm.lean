/-
  PROVED HERE: the logic's rules for maps: made, looked into, written, deleted from, counted.
  CONDITIONS: none. No statement of the seat is proved here.
-/
import Derived.Test.YtjpdcppdoonmdaaVd
namespace Go.Proofs.Ytjpdcppdoonmdaa
open Go.RowKit Go.Maps
def opAt (N : Nat) (junk : Nat → Value) (ops : Array Oper) (fr : Fr) (k : Nat) : Option (Op × Option Tmp) :=
  match ops.toList[k]? with
  | some o =>
    match Region.wanted o (yF ops N fr junk) with
    | true => some (o.op, o.dst)
    | false => none
  | none => none
theorem opAt_spec {N : Nat} {junk : Nat → Value} {ops : Array Oper} {fr : Fr} {k : Nat} {op : Op} {d : Option Tmp} (h : opAt N junk ops fr k = some (op, d)) :
    ∃ o, ops.toList[k]? = some o ∧ Region.wanted o (yF ops N fr junk) = true ∧ o.op = op ∧ o.dst = d := by
  unfold opAt at h
  repeat' split at h
  all_goals first | (cases h; done) | skip
  rename_i o h1 _ h2
  cases h
  exact ⟨o, h1, h2, rfl, rfl⟩
/-- block b is a map that holds what f says -/
def MapA (P : Program) (K : TypeId) (b : Nat) (f : Lit → Option Value) (n : Nat) : Asn where
  h F w := MapIs P K w b f n ∧ ∀ k, F k ↔ k = b
  lt := by rintro F w ⟨h, hF⟩ k hk; rw [(hF k).1 hk]; exact h.lt
  st := by rintro F w ⟨h, hF⟩ S w' hk hn; exact ⟨h.keeps hk (hn b ((hF b).2 rfl)), hF⟩
section maps
variable {P : Program} {β : Bs} {N : Nat} {ops : Array Oper} {k : Nat} {fr : Fr} {hps hps' : List HP} {Q : Post} {d : Option Tmp} {op : Op} {v : Value}
/-- an operation that the memory allows, to whatever it leads -/
theorem TriL.run1 (hop : ∀ junk, opAt N junk ops fr k = some (op, d)) (h : ∀ (o : Oper) junk w, o.op = op → Sat β hps w → ∃ w', Ran P (evF N fr junk) o w v w' ∧ Sat β hps' w')
    (K : TriL P β N ops (k + 1) (putF fr d v) hps' Q) : TriL P β N ops k fr hps Q := by
  intro junk w hS
  obtain ⟨o, h1, h2, h3, rfl⟩ := opAt_spec (hop junk)
  obtain ⟨w', h4, h5⟩ := h o junk w h3 hS
  rw [drop_cons h1]
  unfold wpList
  rw [wanted_mkA, if_pos h2]
  refine .inl (wp_of_ran (v := v) (w' := w') (by rw [mkA_eval]; exact h4) ?_)
  rw [mkA_put]
  exact K junk w' h5
/-- the same, what it leads to being told behind an ∃ -/
theorem TriL.runE {ι : Type} {v : ι → Value} {hp' : ι → List HP} (hop : ∀ junk, opAt N junk ops fr k = some (op, d)) (h : ∀ (o : Oper) junk w, o.op = op → Sat β hps w → ∃ i w', Ran P (evF N fr junk) o w (v i) w' ∧ Sat β (hp' i) w')
    (K : ∀ i, TriL P β N ops (k + 1) (putF fr d (v i)) (hp' i) Q) : TriL P β N ops k fr hps Q := by
  intro junk w hS
  obtain ⟨o, h1, h2, h3, rfl⟩ := opAt_spec (hop junk)
  obtain ⟨i, w', h4, h5⟩ := h o junk w h3 hS
  rw [drop_cons h1]
  unfold wpList
  rw [wanted_mkA, if_pos h2]
  refine .inl (wp_of_ran (v := v i) (w' := w') (by rw [mkA_eval]; exact h4) ?_)
  rw [mkA_put]
  exact K i junk w' h5
theorem TriLQ.run1 (hop : ∀ junk, opAt N junk ops fr k = some (op, d)) (h : ∀ (o : Oper) junk w, o.op = op → Sat β hps w → Ran P (evF N fr junk) o w v w)
    (K : TriLQ P β N ops (k + 1) (putF fr d v) hps Q) : TriLQ P β N ops k fr hps Q := by
  intro junk
  obtain ⟨o, h1, h2, h3, rfl⟩ := opAt_spec (hop junk)
  rw [drop_cons h1]
  unfold wpQuiet
  rw [wanted_mkA, if_pos h2]
  refine ⟨v, fun w hS => ?_, ?_⟩
  · unfold Oper.quietAt
    rw [mkA_eval]
    rcases h o junk w h3 hS with h4 | ⟨h4, h4'⟩
    · rw [h4]; exact ⟨rfl, rfl⟩
    · rw [h4']; exact ⟨rfl, h4⟩
  · rw [mkA_put]
    exact K junk
variable {t K E : TypeId} {b n i : Nat} {f : Lit → Option Value} {x ix y : Operand} {key z u : Value} {kl : Lit} {r : Option Value}
theorem MapA.get {w : World} (hS : Sat β hps w) (hp : hps[i]? = some (.abs (MapA P K b f n))) : MapIs P K w b f n := by
  obtain ⟨F, hF⟩ := hS.get hp
  exact hF.1
theorem ran_lookOk {w : World} {o : Oper} {ev : Operand → Value} (ho : o.op = .lookup t x ix true) (hm : MapIs P K w b f n) (hx : ev x = .map (some b)) (hix : ev ix = key) (L : Keyed P K) (ht : P.underlying t = some (.map K E))
    (hz : (zeroValue E).run P w = .ok z w) (hkey : keyOf P K key = some kl) : Ran P ev o w (.tuple #[(f kl).getD z, .bool (f kl).isSome]) w := by
  have h := hm.look_ok L ht hz hkey
  obtain ⟨dst, op, type, pos, after, guard⟩ := o
  cases ho
  refine .inl ?_
  simp only [execOp, hx, hix]
  simp [go_sem, h]
theorem ran_look {w : World} {o : Oper} {ev : Operand → Value} (ho : o.op = .lookup t x ix false) (hm : MapIs P K w b f n) (hx : ev x = .map (some b)) (hix : ev ix = key) (L : Keyed P K) (ht : P.underlying t = some (.map K E))
    (hz : (zeroValue E).run P w = .ok z w) (hkey : keyOf P K key = some kl) : Ran P ev o w ((f kl).getD z) w := by
  have h := hm.look L ht hz hkey
  obtain ⟨dst, op, type, pos, after, guard⟩ := o
  cases ho
  refine .inl ?_
  simp only [execOp, hx, hix]
  simp [go_sem, h]
theorem TriL.mapLookOk (i : Nat) (hop : ∀ junk, opAt N junk ops fr k = some (.lookup t x ix true, d)) (hp : hps[i]? = some (.abs (MapA P K b f n))) (hx : ∀ junk, evF N fr junk x = .map (some b)) (hix : ∀ junk, evF N fr junk ix = key) (L : Keyed P K)
    (ht : P.underlying t = some (.map K E)) (hz : ∀ w, (zeroValue E).run P w = .ok z w) (hkey : keyOf P K key = some kl) (hr : f kl = r) (K' : TriL P β N ops (k + 1) (putF fr d (.tuple #[r.getD z, .bool r.isSome])) hps Q) : TriL P β N ops k fr hps Q := by
  subst hr
  exact TriL.run1 hop (fun o junk w ho hS => ⟨w, ran_lookOk ho (MapA.get hS hp) (hx junk) (hix junk) L ht (hz w) hkey, hS⟩) K'
theorem TriL.mapLook (i : Nat) (hop : ∀ junk, opAt N junk ops fr k = some (.lookup t x ix false, d)) (hp : hps[i]? = some (.abs (MapA P K b f n))) (hx : ∀ junk, evF N fr junk x = .map (some b)) (hix : ∀ junk, evF N fr junk ix = key) (L : Keyed P K)
    (ht : P.underlying t = some (.map K E)) (hz : ∀ w, (zeroValue E).run P w = .ok z w) (hkey : keyOf P K key = some kl) (hr : f kl = r) (K' : TriL P β N ops (k + 1) (putF fr d (r.getD z)) hps Q) : TriL P β N ops k fr hps Q := by
  subst hr
  exact TriL.run1 hop (fun o junk w ho hS => ⟨w, ran_look ho (MapA.get hS hp) (hx junk) (hix junk) L ht (hz w) hkey, hS⟩) K'
theorem TriLQ.mapLookOk (i : Nat) (hop : ∀ junk, opAt N junk ops fr k = some (.lookup t x ix true, d)) (hp : hps[i]? = some (.abs (MapA P K b f n))) (hx : ∀ junk, evF N fr junk x = .map (some b)) (hix : ∀ junk, evF N fr junk ix = key) (L : Keyed P K)
    (ht : P.underlying t = some (.map K E)) (hz : ∀ w, (zeroValue E).run P w = .ok z w) (hkey : keyOf P K key = some kl) (hr : f kl = r) (K' : TriLQ P β N ops (k + 1) (putF fr d (.tuple #[r.getD z, .bool r.isSome])) hps Q) : TriLQ P β N ops k fr hps Q := by
  subst hr
  exact TriLQ.run1 hop (fun o junk w ho hS => ran_lookOk ho (MapA.get hS hp) (hx junk) (hix junk) L ht (hz w) hkey) K'
theorem TriLQ.mapLook (i : Nat) (hop : ∀ junk, opAt N junk ops fr k = some (.lookup t x ix false, d)) (hp : hps[i]? = some (.abs (MapA P K b f n))) (hx : ∀ junk, evF N fr junk x = .map (some b)) (hix : ∀ junk, evF N fr junk ix = key) (L : Keyed P K)
    (ht : P.underlying t = some (.map K E)) (hz : ∀ w, (zeroValue E).run P w = .ok z w) (hkey : keyOf P K key = some kl) (hr : f kl = r) (K' : TriLQ P β N ops (k + 1) (putF fr d (r.getD z)) hps Q) : TriLQ P β N ops k fr hps Q := by
  subst hr
  exact TriLQ.run1 hop (fun o junk w ho hS => ran_look ho (MapA.get hS hp) (hx junk) (hix junk) L ht (hz w) hkey) K'
theorem step_map {w w' : World} {f' : Lit → Option Value} {n' : Nat} {F : Fp} (hF : (HP.abs (MapA P K b f n)).h F w) (h : MapIs P K w' b f' n') (hk : Keeps (· = b) w w') : ∃ F', (HP.abs (MapA P K b f' n')).h F' w' ∧ Step F w F' w' :=
  ⟨F, ⟨h, hF.2⟩, hk.mono (fun _ _ e => (hF.2 _).2 e), fun _ h => .inl h⟩
theorem TriL.mapSet (i : Nat) (hop : ∀ junk, opAt N junk ops fr k = some (.mapUpdate t x ix y, d)) (hp : hps[i]? = some (.abs (MapA P K b f n))) (hx : ∀ junk, evF N fr junk x = .map (some b)) (hix : ∀ junk, evF N fr junk ix = key) (hy : ∀ junk, evF N fr junk y = u) (L : Keyed P K)
    (ht : P.underlying t = some (.map K E)) (hn : n < maxLen) (hkey : keyOf P K key = some kl) {n' : Nat} (hn' : (if (f kl).isSome then n else n + 1) = n') {f' : Lit → Option Value} (hf' : upd f kl (some u) = f')
    (K' : TriL P β N ops (k + 1) (putF fr d undef) (hps.set i (.abs (MapA P K b f' n'))) Q) : TriL P β N ops k fr hps Q := by
  subst hn' hf'
  refine TriL.run1 hop (fun o junk w ho hS => ?_) K'
  obtain ⟨F, hF⟩ := hS.get hp
  obtain ⟨w', h1, h2, h3⟩ := hF.1.store L ht hn hkey u
  refine ⟨w', .inr ⟨rfl, ?_⟩, hS.set hp (fun F hF => step_map hF h2 h3)⟩
  obtain ⟨dst, op, type, pos, after, guard⟩ := o
  cases ho
  simp only [execOp, hx junk, hix junk, hy junk]
  simp [go_sem, h1]
theorem TriL.mapDel (i : Nat) {ats : Array TypeId} (hop : ∀ junk, opAt N junk ops fr k = some (.call ⟨.builtin .delete, #[x, ix], ats⟩, d)) (hp : hps[i]? = some (.abs (MapA P K b f n))) (hx : ∀ junk, evF N fr junk x = .map (some b)) (hix : ∀ junk, evF N fr junk ix = key) (hats : ats = #[t, K]) (L : Keyed P K)
    (ht : P.underlying t = some (.map K E)) (hkey : keyOf P K key = some kl) {n' : Nat} (hn' : (if (f kl).isSome then n - 1 else n) = n') {f' : Lit → Option Value} (hf' : upd f kl none = f')
    (K' : TriL P β N ops (k + 1) (putF fr d (.tuple #[])) (hps.set i (.abs (MapA P K b f' n'))) Q) : TriL P β N ops k fr hps Q := by
  subst hn' hf' hats
  refine TriL.run1 hop (fun o junk w ho hS => ?_) K'
  obtain ⟨F, hF⟩ := hS.get hp
  obtain ⟨w', h1, h2, h3⟩ := hF.1.drop L ht hkey o.type
  refine ⟨w', .inl ?_, hS.set hp (fun F hF => step_map hF h2 h3)⟩
  obtain ⟨dst, op, type, pos, after, guard⟩ := o
  cases ho
  simp only [execOp, resolve, invoke, builtin]
  simp [go_sem, hx junk, hix junk, h1]
theorem ran_len {w : World} {o : Oper} {ev : Operand → Value} {ats : Array TypeId} (ho : o.op = .call ⟨.builtin .len, #[x], ats⟩) (hats : ats = #[t]) (hm : MapIs P K w b f n) (hx : ev x = .map (some b)) (ht : P.underlying t = some (.map K E)) :
    Ran P ev o w (.int .i64 ((n : Nat) : Int)) w := by
  have h := hm.len ht o.type
  obtain ⟨dst, op, type, pos, after, guard⟩ := o
  subst hats
  cases ho
  refine .inl ?_
  simp only [execOp, resolve, invoke, builtin]
  simp [go_sem, hx, h]
theorem TriL.mapLen (i : Nat) {ats : Array TypeId} (hop : ∀ junk, opAt N junk ops fr k = some (.call ⟨.builtin .len, #[x], ats⟩, d)) (hp : hps[i]? = some (.abs (MapA P K b f n))) (hx : ∀ junk, evF N fr junk x = .map (some b)) (hats : ats = #[t]) (ht : P.underlying t = some (.map K E))
    (K' : TriL P β N ops (k + 1) (putF fr d (.int .i64 ((n : Nat) : Int))) hps Q) : TriL P β N ops k fr hps Q :=
  TriL.run1 hop (fun _ junk w ho hS => ⟨w, ran_len ho hats (MapA.get hS hp) (hx junk) ht, hS⟩) K'
theorem TriLQ.mapLen (i : Nat) {ats : Array TypeId} (hop : ∀ junk, opAt N junk ops fr k = some (.call ⟨.builtin .len, #[x], ats⟩, d)) (hp : hps[i]? = some (.abs (MapA P K b f n))) (hx : ∀ junk, evF N fr junk x = .map (some b)) (hats : ats = #[t]) (ht : P.underlying t = some (.map K E))
    (K' : TriLQ P β N ops (k + 1) (putF fr d (.int .i64 ((n : Nat) : Int))) hps Q) : TriLQ P β N ops k fr hps Q :=
  TriLQ.run1 hop (fun _ junk _ ho hS => ran_len ho hats (MapA.get hS hp) (hx junk) ht) K'
theorem TriL.mapMake (hop : ∀ junk, opAt N junk ops fr k = some (.makeMap t none, d)) (P' : Program) (hP : P' = P) (K : TypeId) (K' : ∀ b, TriL P β N ops (k + 1) (putF fr d (.map (some b))) (hps ++ [.abs (MapA P K b (fun _ => none) 0)]) Q) : TriL P β N ops k fr hps Q := by
  subst hP
  refine TriL.runE (ι := Nat) (v := fun b => .map (some b)) (hp' := fun b => hps ++ [.abs (MapA P' K b (fun _ => none) 0)]) hop (fun o junk w ho hS => ⟨w.heap.size, w.alloc (.map #[] 0), .inl ?_, ?_⟩) K'
  · obtain ⟨dst, op, type, pos, after, guard⟩ := o
    cases ho
    rfl
  · exact hS.new (F := fun k => k = w.heap.size) ⟨MapIs.made w P' K, fun _ => Iff.rfl⟩ ((Keeps.refl _ _).alloc _) (fun k e => Nat.le_of_eq e.symm)
end maps
end Go.Proofs.Ytjpdcppdoonmdaa
