/-
  PROVED HERE: what was made may be laid to what is only read; a cell of a row is written.
  CONDITIONS: none. No statement of the seat is proved here.
-/
import Derived.Test.YtjpdcppdoonmdaaVa
namespace Go.Proofs.Ytjpdcppdoonmdaa
open Go.RowKit
/-! ### the base may grow -/
structure Bs.le (β β' : Bs) : Prop where
  O : ∀ k, β.O k → β'.O k
  os : β'.w0.os = β.w0.os
  tape : β'.w0.tape = β.w0.tape
  output : β'.w0.output = β.w0.output
  size : β.w0.heap.size ≤ β'.w0.heap.size
  old : ∀ k, β.O k → k < β.w0.heap.size ∧ β'.w0.heap[k]? = β.w0.heap[k]?
theorem Bs.le.trans {a b c : Bs} (h : a.le b) (g : b.le c) : a.le c :=
  ⟨fun k hk => g.O k (h.O k hk), g.os.trans h.os, g.tape.trans h.tape, g.output.trans h.output, Nat.le_trans h.size g.size, fun k hk => ⟨(h.old k hk).1, (g.old k (h.O k hk)).2.trans (h.old k hk).2⟩⟩
/-- a cell of the base -/
def Rd (β : Bs) (a : Addr) (v : Value) : Prop := β.O a.block ∧ β.w0.cell? a = some v
theorem Rd.le {β β' : Bs} {a : Addr} {v : Value} (h : Rd β a v) (hle : β.le β') : Rd β' a v :=
  ⟨hle.O _ h.1, (World.cell?_of_block (w := β.w0) (hle.old _ h.1).2).trans h.2⟩
theorem Bs.ok.le {β β' : Bs} {w : World} (h : β'.ok w) (hle : β.le β') : β.ok w :=
  ⟨h.os.trans hle.os, h.tape.trans hle.tape, h.output.trans hle.output, Nat.le_trans hle.size h.size, fun k hk => ⟨(hle.old k hk).1, (h.old k (hle.O k hk)).2.trans (hle.old k hk).2⟩⟩
theorem Sat.debase {β β' : Bs} {l : List HP} {w : World} (hle : β.le β') (h : Sat β' l w) : Sat β l w := by
  obtain ⟨ho, φ, h1, h2, h3⟩ := h
  exact ⟨ho.le hle, φ, h1, fun i hi k hk hO => h2 i hi k hk (hle.O k hO), h3⟩
theorem Sat.rebase {β : Bs} {l l' : List HP} {w : World} {p : HP} {i : Nat} {idx : List Nat} (h : Sat β l w) (hp : l[i]? = some p) (hn : nodupB (i :: idx) = true) (hl : pickL l idx = some l') :
    ∃ F, p.h F w ∧ ∃ β' : Bs, β.le β' ∧ (∀ k, F k → β'.O k) ∧ β'.w0 = w ∧ Sat β' l' w := by
  have h' := h.pick (idx := i :: idx) (l' := p :: l') hn (by simp only [pickL, hp, hl])
  obtain ⟨ho, φ, h1, h2, h3⟩ := h'
  refine ⟨φ 0, h1 0 p rfl, ⟨fun k => β.O k ∨ φ 0 k, w⟩, ⟨fun k hk => .inl hk, ho.os, ho.tape, ho.output, ho.size, fun k hk => ho.old k hk⟩, fun k hk => .inr hk, rfl, ⟨rfl, rfl, rfl, Nat.le_refl _, fun k hk => ⟨?_, rfl⟩⟩, fun j => φ (j + 1), fun j q hq => h1 (j + 1) q (by simpa using hq), fun j hj k hk hO => ?_, fun j1 j2 hj1 hj2 hne => h3 _ _ (by simp; omega) (by simp; omega) (by omega)⟩
  · rcases hk with hk | hk
    · exact Nat.lt_of_lt_of_le (ho.old k hk).1 ho.size
    · exact HP.lt (h1 0 p rfl) k hk
  · rcases hO with hO | hO
    · exact h2 (j + 1) (by simp; omega) k hk hO
    · exact h3 (j + 1) 0 (by simp; omega) (by simp) (by omega) k hk hO
section rules
variable {P : Program} {β β' : Bs} {N : Nat} {ops : Array Oper} {k : Nat} {fr : Fr} {hps hps' : List HP} {Q : Post} {c : Code} {e : Exit} {p : HP} {i : Nat} {idx : List Nat} {d : Option Tmp}
theorem TriQ.debase (hle : β.le β') (h : TriQ β N Q e fr hps) : TriQ β' N Q e fr hps := fun junk w hS => h junk w (hS.debase hle)
theorem Tri.debase (hle : β.le β') (h : Tri P β N c fr hps Q) : Tri P β' N c fr hps Q := fun junk w hS => h junk w (hS.debase hle)
theorem TriL.debase (hle : β.le β') (h : TriL P β N ops k fr hps Q) : TriL P β' N ops k fr hps Q := fun junk w hS => h junk w (hS.debase hle)
/-- a part is laid to the base; Φ is what it is good for from now on -/
theorem TriL.rebase {Φ : Bs → Prop} (i : Nat) (idx : List Nat) (hp : hps[i]? = some p) (hn : nodupB (i :: idx) = true) (hl : pickL hps idx = some hps') (hΦ : ∀ F w, p.h F w → ∀ β' : Bs, (∀ k, F k → β'.O k) → β'.w0 = w → Φ β')
    (K : ∀ β' : Bs, β.le β' → Φ β' → TriL P β' N ops k fr hps' Q) : TriL P β N ops k fr hps Q := fun junk w hS => by
  obtain ⟨F, hF, β', hle, h1, h2, hS'⟩ := hS.rebase hp hn hl
  exact K β' hle (hΦ F w hF β' h1 h2) junk w hS'
theorem Tri.rebase {Φ : Bs → Prop} (i : Nat) (idx : List Nat) (hp : hps[i]? = some p) (hn : nodupB (i :: idx) = true) (hl : pickL hps idx = some hps') (hΦ : ∀ F w, p.h F w → ∀ β' : Bs, (∀ k, F k → β'.O k) → β'.w0 = w → Φ β')
    (K : ∀ β' : Bs, β.le β' → Φ β' → Tri P β' N c fr hps' Q) : Tri P β N c fr hps Q := fun junk w hS => by
  obtain ⟨F, hF, β', hle, h1, h2, hS'⟩ := hS.rebase hp hn hl
  exact K β' hle (hΦ F w hF β' h1 h2) junk w hS'
/-- cells of a slice, in the base -/
def RowB (β : Bs) (A : Option Addr) (xs : List Value) : Prop := ∀ (j : Nat) (v : Value), xs[j]? = some v → A = some ⟨blkOf A, offOf A, none⟩ ∧ Rd β ⟨blkOf A, offOf A + j, none⟩ v
theorem RowB.le {A : Option Addr} {xs : List Value} (h : RowB β A xs) (hle : β.le β') : RowB β' A xs := fun j v hj => ⟨(h j v hj).1, (h j v hj).2.le hle⟩
theorem RowB.of_row {e : TypeId} {size n cap : Nat} {A : Option Addr} {xs : List Value} {F : Fp} {w : World} (h : (HP.abs (RowA e size A n cap xs)).h F w) (h1 : ∀ k, F k → β'.O k) (h2 : β'.w0 = w) : RowB β' A xs := by
  intro j v hj
  have hlt := len_of_some hj
  have hl := RowA.len h
  have hn : 0 < n := by
    rcases Nat.eq_zero_or_pos n with e | e
    · rw [hl.1, e] at hlt; simp at hlt
    · exact e
  obtain ⟨g, rfl⟩ := RowA.head h hn
  refine ⟨rfl, h1 g ((h.2 g).2 rfl), ?_⟩
  rw [h2]
  have := RowA.cell hj F w h
  simpa [blkOf, offOf] using this
theorem RowA.headB {e : TypeId} {size : Nat} {A : Option Addr} {n cap : Nat} {xs : List Value} {F : Fp} {w : World} (h : (HP.abs (RowA e size A n cap xs)).h F w) (hn : 0 < n) : A = some ⟨blkOf A, offOf A, none⟩ ∧ offOf A = 0 := by
  obtain ⟨g, rfl⟩ := RowA.head h hn
  exact ⟨rfl, rfl⟩
theorem step_rowSet {e : TypeId} {size n cap j g : Nat} {xs : List Value} {u : Value} {w : World} (_ : j < xs.length) : ∀ F, (HP.abs (RowA e size (some ⟨g, 0, none⟩) n cap xs)).h F w →
    ∃ F', (HP.abs (RowA e size (some ⟨g, 0, none⟩) n cap (xs.set j u))).h F' (w.setCell ⟨g, j, none⟩ u) ∧ Step F w F' (w.setCell ⟨g, j, none⟩ u) := by
  rintro F ⟨⟨h1, h2⟩, hF⟩
  rcases h2 with ⟨e, _⟩ | ⟨g', cp, cur, e, _, hb, hle, hm, hs, ht⟩
  · cases e
  · cases e
    refine ⟨F, ⟨⟨by simpa using h1, .inr ⟨g, cap, cur.setIfInBounds j u, rfl, Nat.zero_le _, ?_, hle, hm, by simpa using hs, ?_⟩⟩, hF⟩, ⟨(Keeps.refl _ _).setCell (.inr ((hF g).2 rfl)) u, fun _ h => .inl h⟩⟩
    · simp [World.setCell, Array.getElem?_modify, hb]
    · rw [Array.toList_setIfInBounds, List.take_set, ht]
theorem TriL.rowSet (i j : Nat) {T e : TypeId} {size n cap g : Nat} {xs : List Value} {u : Value} {a y : Operand} (hop : ∀ junk, opAt N junk ops fr k = some (.store T a y, d)) (hp : hps[i]? = some (.abs (RowA e size (some ⟨g, 0, none⟩) n cap xs)))
    (ha : ∀ junk, evF N fr junk a = .pointer (some ⟨g, j, none⟩)) (hy : ∀ junk, evF N fr junk y = u) (hT : (P.info? T).map (·.size) = some 1) (hu : u.oneCell' = true) (hj : j < xs.length)
    (K' : TriL P β N ops (k + 1) (putF fr d undef) (hps.set i (.abs (RowA e size (some ⟨g, 0, none⟩) n cap (xs.set j u)))) Q) : TriL P β N ops k fr hps Q := by
  refine TriL.run1 hop (fun o junk w ho hS => ?_) K'
  obtain ⟨F, hF⟩ := hS.get hp
  refine ⟨w.setCell ⟨g, j, none⟩ u, .inr ⟨rfl, ?_⟩, hS.set hp (step_rowSet hj)⟩
  obtain ⟨x, hx⟩ := some_of_len hj
  have hc := RowA.cell hx F w hF
  have hf : w.frozen? ⟨g, j, none⟩ = false := by
    obtain ⟨⟨_, h2⟩, _⟩ := hF
    rcases h2 with ⟨e, _⟩ | ⟨g', cp, cur, e, _, hb, _⟩
    · cases e
    · cases e; simp [World.frozen?, hb]
  obtain ⟨inf, hi, hsz⟩ : ∃ inf, P.info? T = some inf ∧ inf.size = 1 := by
    cases h : P.info? T with
    | none => rw [h] at hT; cases hT
    | some inf => rw [h] at hT; exact ⟨inf, rfl, by simpa using hT⟩
  have h3 := runsize hi w
  rw [hsz] at h3
  obtain ⟨dst, op, type, pos, after, guard⟩ := o
  cases ho
  cases u <;> first
    | (simp [Value.oneCell'] at hu; done)
    | (simp only [execOp, ha junk, hy junk]; simp [go_sem, Instr.storeAt, Instr.sureAddr, storeVar, h3, Value.cells, storeCells, store, Addr.add, Sem.run, hc, hf])
end rules
end Go.Proofs.Ytjpdcppdoonmdaa
