/-
  PROVED HERE: the rules of the logic for 'range' over a text and over a map.
  CONDITIONS: none. No statement of the seat is proved here.
-/
import Derived.Test.YtjpdcppdoonmdaaVt
import Derived.Maps.RangeWalk
import Derived.Laws.RangeAny
namespace Go.Proofs.Ytjpdcppdoonmdaa
open Go.RowKit Go.Maps
open Go.ChangeMaps (setBlock)
theorem keeps_setBlock (w : World) (r : Nat) (o : Obj) : Keeps (· = r) w (setBlock w r o) :=
  ⟨rfl, rfl, rfl, by simp [setBlock], fun k _ hk => by
    show (w.heap.setIfInBounds r o)[k]? = _
    rw [Array.getElem?_setIfInBounds_ne (fun e => hk e.symm)]⟩
theorem setBlock_get {w : World} {r : Nat} {o o' : Obj} (h : w.heap[r]? = some o') : (setBlock w r o).heap[r]? = some o := by
  have := lt_of_some h
  show (w.heap.setIfInBounds r o)[r]? = _
  rw [Array.getElem?_setIfInBounds_self_of_lt this]
/-- block r is an iterator over the text s that stands at pos -/
def IterS (r : Nat) (s : ByteArray) (pos : Nat) : Asn where
  h F w := w.heap[r]? = some (.stringIter s pos) ∧ ∀ k, F k ↔ k = r
  lt := by rintro F w ⟨h, hF⟩ k hk; rw [(hF k).1 hk]; exact lt_of_some h
  st := by rintro F w ⟨h, hF⟩ S w' hk hn; exact ⟨(hk.block r (lt_of_some h) (hn r ((hF r).2 rfl))).trans h, hF⟩
/-- what an iterator over a map hands out again -/
def EntryAt (P : Program) (b r : Nat) (t : Value) (w : World) : Prop :=
  ∃ w0 : World, w0.heap[b]? = w.heap[b]? ∧ w0.heap[r]? = w.heap[r]? ∧ (Instr.entry (.pointer (some ⟨r, 0, none⟩))).run P w0 = .ok t w0
theorem EntryAt.run {P : Program} {b r : Nat} {t : Value} {w : World} {es : Array MapEntry} {clock since c0 : Nat} {seen : Array Nat} (h : EntryAt P b r t w) (hb : w.heap[b]? = some (.map es clock)) (hr : w.heap[r]? = some (.mapIter (some b) since seen c0)) :
    (Instr.entry (.pointer (some ⟨r, 0, none⟩))).run P w = .ok t w := by
  obtain ⟨w0, h1, h2, h3⟩ := h
  rw [hb] at h1
  rw [hr] at h2
  simp only [Instr.entry, getObj, Sem.run_bind, Sem.run, h2, hr, Result.andThen] at h3 ⊢
  cases hs : seen.back? with
  | none => simp [hs, stuck] at h3
  | some st =>
    simp only [hs, Sem.run_bind, Sem.run, h1, hb, Result.andThen] at h3 ⊢
    by_cases hc : (clock != c0) = true
    · simp [hc, unsupported, Sem.run, Result.andThen] at h3
    · simp only [hc, Bool.false_eq_true, if_false] at h3 ⊢
      cases hf : es.find? (fun e => e.born == st) with
      | none => simp [hf, unsupported] at h3
      | some e =>
        simp [hf] at h3 ⊢
        exact h3
structure RangeIs (P : Program) (K : TypeId) (w : World) (b r : Nat) (f : Lit → Option Value) (n : Nat) (left : Lit → Bool) (cnt : Nat) (last : Option Value) (D : DataW Value) : Prop where
  rg : w.ranges P K heldR b r n D left cnt
  sz : Maps.size D = n
  has : ∀ kl, Maps.has D kl = (f kl).isSome
  at_ : ∀ kl v, f kl = some v → ∀ z, D.atKey kl z = .held v
  sub : ∀ kl, left kl = true → (f kl).isSome = true
  last : ∀ t, last = some t → EntryAt P b r t w
/-- block r is an iterator over the map in block b: 'left' are to come -/
def RangeA (P : Program) (K : TypeId) (b r : Nat) (f : Lit → Option Value) (n : Nat) (left : Lit → Bool) (cnt : Nat) (last : Option Value) : Asn where
  h F w := (∃ D, RangeIs P K w b r f n left cnt last D) ∧ ∀ k, F k ↔ (k = b ∨ k = r)
  lt := by
    rintro F w ⟨⟨D, h⟩, hF⟩ k hk
    rcases (hF k).1 hk with rfl | rfl
    · exact h.rg.owns.lt
    · exact h.rg.lt
  st := by
    rintro F w ⟨⟨D, h⟩, hF⟩ S w' hk hn
    have hb := hk.block b h.rg.owns.lt (hn b ((hF b).2 (.inl rfl)))
    have hr := hk.block r h.rg.lt (hn r ((hF r).2 (.inr rfl)))
    refine ⟨⟨D, ?_, h.sz, h.has, h.at_, h.sub, fun t ht => ?_⟩, hF⟩
    · obtain ⟨es, clock, since, seen, c0, e1, e2, e3, e4, e5, e6⟩ := h.rg
      exact ⟨es, clock, since, seen, c0, hb.trans e1, e2, e3, e4, hr.trans e5, e6⟩
    · obtain ⟨w0, h1, h2, h3⟩ := h.last t ht
      exact ⟨w0, h1.trans hb.symm, h2.trans hr.symm, h3⟩
section rules
variable {P : Program} {β : Bs} {N : Nat} {ops : Array Oper} {k : Nat} {fr fr' : Fr} {hps hps' : List HP} {Q : Post} {d : Option Tmp} {op : Op} {v : Value} {t K E : TypeId} {x : Operand} {s : ByteArray} {b r pos i n cnt : Nat} {f : Lit → Option Value} {left : Lit → Bool} {last : Option Value}
theorem TriL.strRange (hop : ∀ junk, opAt N junk ops fr k = some (.range t x, d)) (hx : ∀ junk, evF N fr junk x = .string s) (ht : P.underlying t = some .string) (K' : ∀ r, TriL P β N ops (k + 1) (putF fr d (.pointer (some ⟨r, 0, none⟩))) (hps ++ [.abs (IterS r s 0)]) Q) : TriL P β N ops k fr hps Q := by
  refine TriL.runE (ι := Nat) (v := fun r => .pointer (some ⟨r, 0, none⟩)) (hp' := fun r => hps ++ [.abs (IterS r s 0)]) hop (fun o junk w ho hS => ⟨w.heap.size, w.iter s 0, .inl ?_, ?_⟩) K'
  · obtain ⟨dst, op, type, pos, after, guard⟩ := o
    cases ho
    simp only [execOp, hx]
    simp [go_sem, ht]
  · exact hS.new (F := fun k => k = w.heap.size) ⟨World.iter_heap w s 0, fun _ => Iff.rfl⟩ ((Keeps.refl _ _).alloc _) (fun k e => Nat.le_of_eq e.symm)
theorem TriL.strMore (i : Nat) (hop : ∀ junk, opAt N junk ops fr k = some (.next x true, d)) (hp : hps[i]? = some (.abs (IterS r s pos))) (hx : ∀ junk, evF N fr junk x = .pointer (some ⟨r, 0, none⟩)) (hlt : pos < s.size)
    (K' : TriL P β N ops (k + 1) (putF fr d (.tuple #[.bool true, .int .i64 pos, .int .i32 (Utf8.decode s pos).1])) (hps.set i (.abs (IterS r s (pos + (Utf8.decode s pos).2)))) Q) : TriL P β N ops k fr hps Q := by
  refine TriL.run1 hop (fun o junk w ho hS => ?_) K'
  obtain ⟨F, hF⟩ := hS.get hp
  refine ⟨setBlock w r (.stringIter s (pos + (Utf8.decode s pos).2)), .inl ?_, hS.set hp (fun F hF => ⟨F, ⟨setBlock_get hF.1, hF.2⟩, (keeps_setBlock w r _).mono (fun _ _ e => (hF.2 _).2 e), fun _ h => .inl h⟩)⟩
  have hr := hF.1
  obtain ⟨dst, op, type, pos', after, guard⟩ := o
  cases ho
  simp only [execOp, hx]
  simp [go_sem, Instr.next, getObj, setObj, Sem.run, hr, hlt, setBlock, goInt]
theorem TriL.strEnd (i : Nat) (hop : ∀ junk, opAt N junk ops fr k = some (.next x true, d)) (hp : hps[i]? = some (.abs (IterS r s pos))) (hx : ∀ junk, evF N fr junk x = .pointer (some ⟨r, 0, none⟩)) (hlt : ¬ pos < s.size)
    (K' : TriL P β N ops (k + 1) (putF fr d (.tuple #[.bool false])) hps Q) : TriL P β N ops k fr hps Q := by
  refine TriL.run1 hop (fun o junk w ho hS => ⟨w, .inl ?_, hS⟩) K'
  obtain ⟨F, hF⟩ := hS.get hp
  have hr := hF.1
  obtain ⟨dst, op, type, pos', after, guard⟩ := o
  cases ho
  simp only [execOp, hx]
  simp [go_sem, Instr.next, getObj, setObj, Sem.run, hr, hlt]
theorem TriL.mapRange (i : Nat) (hop : ∀ junk, opAt N junk ops fr k = some (.range t x, d)) (hp : hps[i]? = some (.abs (MapA P K b f n))) (hx : ∀ junk, evF N fr junk x = .map (some b)) (L : Keyed P K) (ht : P.underlying t = some (.map K E))
    (K' : ∀ r, TriL P β N ops (k + 1) (putF fr d (.pointer (some ⟨r, 0, none⟩))) (hps.set i (.abs (RangeA P K b r f n (fun kl => (f kl).isSome) n none))) Q) : TriL P β N ops k fr hps Q := by
  refine TriL.runE (ι := Nat) (v := fun r => .pointer (some ⟨r, 0, none⟩)) (hp' := fun r => hps.set i (.abs (RangeA P K b r f n (fun kl => (f kl).isSome) n none))) hop (fun o junk w ho hS => ?_) K'
  obtain ⟨D, h1, h2, h3, h4⟩ := MapA.get hS hp
  obtain ⟨w', hrun, r1, r2, r3⟩ := h1.range L ht
  refine ⟨w.heap.size, w', .inl ?_, hS.set hp (fun F hF => ⟨fun k => k = b ∨ k = w.heap.size, ⟨⟨D, ?_, h2, h3, h4, fun _ h => h, fun _ h => by cases h⟩, fun _ => Iff.rfl⟩, (Keeps.refl _ _).grown r2 (fun _ h => by cases h), fun k hk => ?_⟩)⟩
  · obtain ⟨dst, op, type, pos', after, guard⟩ := o
    cases ho
    simp only [execOp, hx]
    simp [hrun, Result.andThen]
  · rw [← h2]
    have e : Maps.has D = fun kl => (f kl).isSome := funext h3
    rw [e] at r1
    rw [h2] at r1 ⊢
    exact r1
  · rcases hk with rfl | rfl
    · exact .inl ((hF.2 _).2 rfl)
    · exact .inr (Nat.le_refl _)
theorem RangeA.map {w : World} {D : DataW Value} (h : RangeIs P K w b r f n left cnt last D) : MapIs P K w b f n := ⟨D, h.rg.owns, h.sz, h.has, h.at_⟩
theorem TriL.mapNext (i : Nat) (hop : ∀ junk, opAt N junk ops fr k = some (.next x false, d)) (hp : hps[i]? = some (.abs (RangeA P K b r f n left cnt last))) (hx : ∀ junk, evF N fr junk x = .pointer (some ⟨r, 0, none⟩)) (L : Keyed P K) (hK : P.underlying K = some (.int .i64))
    (Kdone : cnt = 0 → (∀ kl, left kl = false) → TriL P β N ops (k + 1) (putF fr d (.tuple #[.bool false])) hps Q)
    (Kmore : ∀ (z : Int) (u : Value) (cnt' : Nat), left (.int .i64 z) = true → f (.int .i64 z) = some u → (Lit.int .i64 z).wf = true → cnt' < cnt →
      TriL P β N ops (k + 1) (putF fr d (.tuple #[.bool true, .int .i64 z, u])) (hps.set i (.abs (RangeA P K b r f n (fun kl => left kl && !kl.sameKey (.int .i64 z)) cnt' (some (.tuple #[.int .i64 z, u]))))) Q) : TriL P β N ops k fr hps Q := by
  intro junk w hS
  obtain ⟨F, ⟨D, h⟩, hF⟩ := hS.get hp
  obtain ⟨o, h1, h2, h3, rfl⟩ := opAt_spec (hop junk)
  rcases h.rg.next L o.type with ⟨e0, el, hrun⟩ | ⟨key, u, kl, y, w', cnt', hkey, hlk, hv, hat, hrun, hrg, hlt, hgr, hsz, hen⟩
  · have hk := Kdone e0 el junk w hS
    rw [drop_cons h1]
    unfold wpList
    rw [wanted_mkA, if_pos h2]
    refine .inl (wp_of_ran (v := .tuple #[.bool false]) (w' := w) (.inl ?_) (by rw [mkA_put]; exact hk))
    rw [mkA_eval]
    obtain ⟨dst, op, type, pos', after, guard⟩ := o
    cases h3
    simp only [execOp, hx]
    simp at hrun
    simp [hrun, Result.andThen]
  · obtain ⟨z, rfl, rfl, hwf⟩ := Maps.keyOf_int_inv hK hkey
    have hsome := h.sub _ hlk
    obtain ⟨u', hu'⟩ := Option.isSome_iff_exists.1 hsome
    have e1 := h.at_ _ _ hu' (.held u')
    rw [hat] at e1
    have e2 : y.1 = .held u := by
      unfold heldR at hv
      cases hv
      rfl
    rw [e2] at e1
    cases e1
    have hk := Kmore z u cnt' hlk hu' hwf hlt junk w' (hS.set hp (fun F hF => ⟨F, ⟨⟨D, hrg, h.sz, h.has, h.at_, fun kl hl => h.sub kl (by simp at hl; exact hl.1), fun t ht => by cases ht; exact ⟨w', rfl, rfl, hen⟩⟩, hF.2⟩, (Keeps.refl (fun k => F k) w).grown hgr (fun j hj => by cases hj; exact .inr ((hF.2 _).2 (.inr rfl))), fun _ h => .inl h⟩))
    rw [drop_cons h1]
    unfold wpList
    rw [wanted_mkA, if_pos h2]
    refine .inl (wp_of_ran (v := .tuple #[.bool true, .int .i64 z, u]) (w' := w') (.inl ?_) (by rw [mkA_put]; exact hk))
    rw [mkA_eval]
    obtain ⟨dst, op, type, pos', after, guard⟩ := o
    cases h3
    simp only [execOp, hx]
    simp at hrun
    simp [hrun, Result.andThen]
theorem TriL.mapEntry (i : Nat) (hop : ∀ junk, opAt N junk ops fr k = some (.entry x, d)) (hp : hps[i]? = some (.abs (RangeA P K b r f n left cnt (some v)))) (hx : ∀ junk, evF N fr junk x = .pointer (some ⟨r, 0, none⟩))
    (K' : TriL P β N ops (k + 1) (putF fr d v) hps Q) : TriL P β N ops k fr hps Q := by
  refine TriL.run1 hop (fun o junk w ho hS => ⟨w, .inl ?_, hS⟩) K'
  obtain ⟨F, ⟨D, h⟩, hF⟩ := hS.get hp
  have hl := h.last _ rfl
  obtain ⟨es, clock, since, seen, c0, e1, e2, e3, e4, e5, e6⟩ := h.rg
  have hrun := hl.run e1 e5
  obtain ⟨dst, op, type, pos', after, guard⟩ := o
  cases ho
  simp only [execOp, hx]
  simp [hrun, Result.andThen]
theorem RangeA.getM {w : World} (hS : Sat β hps w) (hp : hps[i]? = some (.abs (RangeA P K b r f n left cnt last))) : MapIs P K w b f n := by
  obtain ⟨F, ⟨D, h⟩, hF⟩ := hS.get hp
  exact RangeA.map h
theorem TriL.rangeLookOk {ix : Operand} {key z : Value} {kl : Lit} {u : Option Value} (i : Nat) (hop : ∀ junk, opAt N junk ops fr k = some (.lookup t x ix true, d)) (hp : hps[i]? = some (.abs (RangeA P K b r f n left cnt last))) (hx : ∀ junk, evF N fr junk x = .map (some b)) (hix : ∀ junk, evF N fr junk ix = key) (L : Keyed P K)
    (ht : P.underlying t = some (.map K E)) (hz : ∀ w, (zeroValue E).run P w = .ok z w) (hkey : keyOf P K key = some kl) (hr : f kl = u) (K' : TriL P β N ops (k + 1) (putF fr d (.tuple #[u.getD z, .bool u.isSome])) hps Q) : TriL P β N ops k fr hps Q := by
  subst hr
  exact TriL.run1 hop (fun o junk w ho hS => ⟨w, ran_lookOk ho (RangeA.getM hS hp) (hx junk) (hix junk) L ht (hz w) hkey, hS⟩) K'
theorem TriL.rangeLook {ix : Operand} {key z : Value} {kl : Lit} {u : Option Value} (i : Nat) (hop : ∀ junk, opAt N junk ops fr k = some (.lookup t x ix false, d)) (hp : hps[i]? = some (.abs (RangeA P K b r f n left cnt last))) (hx : ∀ junk, evF N fr junk x = .map (some b)) (hix : ∀ junk, evF N fr junk ix = key) (L : Keyed P K)
    (ht : P.underlying t = some (.map K E)) (hz : ∀ w, (zeroValue E).run P w = .ok z w) (hkey : keyOf P K key = some kl) (hr : f kl = u) (K' : TriL P β N ops (k + 1) (putF fr d (u.getD z)) hps Q) : TriL P β N ops k fr hps Q := by
  subst hr
  exact TriL.run1 hop (fun o junk w ho hS => ⟨w, ran_look ho (RangeA.getM hS hp) (hx junk) (hix junk) L ht (hz w) hkey, hS⟩) K'
theorem TriL.rangeLen (i : Nat) {ats : Array TypeId} (hop : ∀ junk, opAt N junk ops fr k = some (.call ⟨.builtin .len, #[x], ats⟩, d)) (hp : hps[i]? = some (.abs (RangeA P K b r f n left cnt last))) (hx : ∀ junk, evF N fr junk x = .map (some b)) (hats : ats = #[t]) (ht : P.underlying t = some (.map K E))
    (K' : TriL P β N ops (k + 1) (putF fr d (.int .i64 ((n : Nat) : Int))) hps Q) : TriL P β N ops k fr hps Q :=
  TriL.run1 hop (fun _ junk w ho hS => ⟨w, ran_len ho hats (RangeA.getM hS hp) (hx junk) ht, hS⟩) K'
end rules
end Go.Proofs.Ytjpdcppdoonmdaa
