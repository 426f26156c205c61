/-
  PROVED HERE: the logic's rules for rows that the code makes itself: append, reading, writing.
  CONDITIONS: none. No statement of the seat is proved here.
-/
import Derived.Test.YtjpdcppdoonmdaaVm
import Derived.Maps.AppendAt
import Derived.Deep.Upon
namespace Go.Proofs.Ytjpdcppdoonmdaa
open Go.RowKit
/-- the slice A, n, cap holds the cells xs, in a row of the code's own -/
def RowA (e : TypeId) (size : Nat) (A : Option Addr) (n cap : Nat) (xs : List Value) : Asn where
  h F w := w.ownsRow 0 e size (.slice A n cap) n xs ∧ ∀ k, F k ↔ (Value.slice A n cap).ownBlock = some k
  lt := by rintro F w ⟨h, hF⟩ k hk; exact (h.lt k ((hF k).1 hk)).2
  st := by rintro F w ⟨h, hF⟩ S w' hk hn; exact ⟨hk.ownsRow h (fun k e => hn k ((hF k).2 e)), hF⟩
theorem RowA.len {e : TypeId} {size : Nat} {A : Option Addr} {n cap : Nat} {xs : List Value} {F : Fp} {w : World} (h : (HP.abs (RowA e size A n cap xs)).h F w) : xs.length = n * size ∧ n ≤ cap := by
  obtain ⟨⟨h1, h2⟩, _⟩ := h
  refine ⟨h1, ?_⟩
  rcases h2 with ⟨e, rfl⟩ | ⟨g, cp, cur, e, _, _, hle, _⟩
  · omega
  · cases e; exact hle
theorem RowA.head {e : TypeId} {size : Nat} {A : Option Addr} {n cap : Nat} {xs : List Value} {F : Fp} {w : World} (h : (HP.abs (RowA e size A n cap xs)).h F w) (hn : 0 < n) : ∃ g, A = some ⟨g, 0, none⟩ := by
  obtain ⟨⟨h1, h2⟩, _⟩ := h
  rcases h2 with ⟨_, e⟩ | ⟨g, cp, cur, e, _⟩
  · omega
  · cases e; exact ⟨g, rfl⟩
theorem RowA.cell {e : TypeId} {size : Nat} {g n cap j : Nat} {xs : List Value} {u : Value} (hj : xs[j]? = some u) : ∀ F w, (RowA e size (some ⟨g, 0, none⟩) n cap xs).h F w → w.cell? ⟨g, j, none⟩ = some u := by
  rintro F w ⟨h, _⟩
  obtain ⟨h1, h2⟩ := h
  rcases h2 with ⟨e, _⟩ | ⟨g', cp, cur, e, _, hb, _, _, hs, ht⟩
  · cases e
  · cases e
    have hlt := len_of_some hj
    have : cur.toList[j]? = some u := by
      rw [← ht, List.getElem?_take] at hj
      split at hj
      · exact hj
      · cases hj
    simpa [World.cell?, hb] using this
theorem RowA.nil (e : TypeId) (size : Nat) (w : World) : (HP.abs (RowA e size none 0 0 [])).h (fun _ => False) w :=
  ⟨⟨by simp, .inl ⟨rfl, rfl⟩⟩, fun k => by simp [Value.ownBlock]⟩
theorem set_same {α : Type} {l : List α} {i : Nat} {x : α} (h : l[i]? = some x) : l.set i x = l := by
  apply List.ext_getElem?
  intro j
  by_cases e : i = j
  · subst e; rw [List.getElem?_set_self (len_of_some h), h]
  · rw [List.getElem?_set_ne e]
section rows
variable {P : Program} {β : Bs} {N : Nat} {ops : Array Oper} {k : Nat} {fr : Fr} {hps hps' : List HP} {Q : Post} {d : Option Tmp} {op : Op} {v : Value} {c : Code}
theorem Sat.rowNil {e : TypeId} {size : Nat} {w : World} (h : Sat β hps w) : Sat β (hps ++ [.abs (RowA e size none 0 0 [])]) w :=
  Sat.new h (RowA.nil e size w) (Keeps.refl _ _) (fun _ h => h.elim)
/-- a block that was made becomes a row -/
theorem step_row {b : Nat} {cs : List Value} {e : TypeId} {size n : Nat} {w : World} (hl : cs.length = n * size) (hm : n ≤ maxLen) : ∀ F, (HP.blk b cs e).h F w → ∃ F', (HP.abs (RowA e size (some ⟨b, 0, none⟩) n n cs)).h F' w ∧ Step F w F' w := by
  rintro F ⟨h1, h2⟩
  refine ⟨F, ⟨⟨hl, .inr ⟨b, n, ⟨cs⟩, rfl, Nat.zero_le _, h1, Nat.le_refl _, hm, by simpa using hl, ?_⟩⟩, fun k => ?_⟩, Step.refl F w⟩
  · rw [← hl]; exact List.take_length
  · rw [h2 k]
    simp [Value.ownBlock, eq_comm]
theorem Sat.toRow {b i : Nat} {cs : List Value} {e : TypeId} {w : World} (size n : Nat) (hp : hps[i]? = some (.blk b cs e)) (hl : cs.length = n * size) (hm : n ≤ maxLen) (h : Sat β hps w) : Sat β (hps.set i (.abs (RowA e size (some ⟨b, 0, none⟩) n n cs))) w :=
  h.set hp (step_row hl hm)
theorem src_blk {b j : Nat} {news : List Value} {T : TypeId} (hp : hps[j]? = some (.blk b news T)) : ∀ w, Sat β hps w → ((some ⟨b, 0, none⟩ : Option Addr) = none ∧ news.length = 0) ∨ ∃ ad, (some ⟨b, 0, none⟩ : Option Addr) = some ad ∧ ∀ j u, news[j]? = some u → w.cell? (ad.add j) = some u := by
  intro w hS
  obtain ⟨F, hF⟩ := hS.get hp
  refine .inr ⟨_, rfl, fun j u hj => ?_⟩
  have ea : (⟨b, 0, none⟩ : Addr).add j = ⟨b, j, none⟩ := by unfold Addr.add; split <;> simp_all
  rw [ea]
  exact (cell_of_blk hF.1 rfl rfl hj).1
theorem TriL.append (i : Nat) {t e : TypeId} {z : Value} {size bytes n cap m c' : Nat} {A A' : Option Addr} {xs news : List Value} {s x : Operand} {ats : Array TypeId}
    (hop : ∀ junk, opAt N junk ops fr k = some (.call ⟨.builtin .append, #[s, x], ats⟩, d)) (hats : ats = #[t, t]) (hp : hps[i]? = some (.abs (RowA e size A n cap xs))) (hs : ∀ junk, evF N fr junk s = .slice A n cap) (hx : ∀ junk, evF N fr junk x = .slice A' m c')
    (ht : P.underlying t = some (.slice e)) (hinf : (P.info? e).map (fun i => (i.zero, i.size, i.bytes)) = some (some z, size, bytes)) (hzs : z.cells.size = size) (hsz : 0 < size)
    (hl : news.length = m * size) (h1 : ∀ u ∈ news, u.oneCell' = true) (hsrc : ∀ w, Sat β hps w → (A' = none ∧ news.length = 0) ∨ ∃ ad, A' = some ad ∧ ∀ j u, news[j]? = some u → w.cell? (ad.add j) = some u)
    (h63 : n + m ≤ maxLen) (hbytes : (n + m) * bytes ≤ 140737488355328)
    (K' : ∀ B cap', TriL P β N ops (k + 1) (putF fr d (.slice B (n + m) cap')) (hps.set i (.abs (RowA e size B (n + m) cap' (xs ++ news)))) Q) : TriL P β N ops k fr hps Q := by
  subst hats
  obtain ⟨inf, hi, hz, hsize, hby⟩ : ∃ inf, P.info? e = some inf ∧ inf.zero = some z ∧ inf.size = size ∧ inf.bytes = bytes := by
    cases h : P.info? e with
    | none => rw [h] at hinf; cases hinf
    | some inf => rw [h] at hinf; simp at hinf; exact ⟨inf, rfl, hinf.1, hinf.2.1, hinf.2.2⟩
  refine TriL.runE (ι := Option Addr × Nat) (v := fun p => .slice p.1 (n + m) p.2) (hp' := fun p => hps.set i (.abs (RowA e size p.1 (n + m) p.2 (xs ++ news)))) hop (fun o junk w ho hS => ?_) (fun p => K' p.1 p.2)
  obtain ⟨F, hF⟩ := hS.get hp
  have hlen := RowA.len hF
  have hrun : ∀ v' w', (Builtin.append_ #[t, t] o.type #[.slice A n cap, .slice A' m c']).run P w = .ok v' w' → Ran P (evF N fr junk) o w v' w' := fun v' w' h => by
    obtain ⟨dst, op, type, pos, after, guard⟩ := o
    cases ho
    refine .inl ?_
    have h' : (Builtin.append_ #[t, t] type #[.slice A n cap, .slice A' m c']).run P w = .ok v' w' := h
    simp only [execOp, resolve, invoke, builtin, hs junk, hx junk, List.map_toArray, List.map_cons, List.map_nil, Sem.run_bind, Sem.run_pure, Result.andThen_ok, h']
  rcases hsrc w hS with ⟨rfl, h0⟩ | ⟨ad, rfl, hnews⟩
  · have hm0 : m = 0 := by
      rw [hl] at h0
      rcases Nat.mul_eq_zero.1 h0 with e | e
      · exact e
      · omega
    subst hm0
    have hn0 : news = [] := List.eq_nil_of_length_eq_zero h0
    subst hn0
    refine ⟨(A, cap), w, hrun _ _ ?_, ?_⟩
    · have hu := run_underlying ht w
      have h3 := runsize hi w
      rw [hsize] at h3
      have h4 : (Builtin.append_ #[t, t] o.type #[.slice A n cap, .slice none 0 c']).run P w = .ok (.slice A n cap) w := by
        cases A <;> simp [Builtin.append_, hu, h3, go_sem, Builtin.lenOf, Builtin.firstCells, hlen.2, storeCells]
      simpa using h4
    · have : hps.set i (.abs (RowA e size A (n + 0) cap (xs ++ []))) = hps := by
        simp only [Nat.add_zero, List.append_nil]
        exact set_same hp
      rw [this]; exact hS
  · obtain ⟨v', w', h2, h3, h4, _, h5⟩ := run_append_own_at (P := P) w 0 t o.type e inf z size bytes ht hi hz hsize hby hzs hsz (.slice A n cap) n xs hF.1 ad m c' news hl hnews h1 h63 hbytes (Nat.zero_le _)
    have hshape : ∃ B cap', v' = .slice B (n + m) cap' := by
      rcases h3.2 with ⟨e, e0⟩ | ⟨g, cp, cur, e, _⟩
      · exact ⟨none, 0, by rw [e, e0]⟩
      · exact ⟨_, cp, e⟩
    obtain ⟨B, cap', rfl⟩ := hshape
    refine ⟨(B, cap'), w', hrun _ _ h2, hS.set hp (fun F hF => ⟨fun k => (Value.slice B (n + m) cap').ownBlock = some k, ⟨h3, fun _ => Iff.rfl⟩, ?_, fun k hk => ?_⟩)⟩
    · exact (Keeps.refl F w).grown h4 (fun k hk => .inr ((hF.2 k).2 hk))
    · rcases h5 with h5 | h5
      · exact .inl ((hF.2 k).2 (h5 ▸ hk))
      · rw [h5] at hk; cases hk; exact .inr (Nat.le_refl _)
end rows
end Go.Proofs.Ytjpdcppdoonmdaa
