/-
  PROVED HERE: the logic's rules for a slice of one's own that is cut at its head and grown at its end.
  CONDITIONS: none. No statement of the seat is proved here.
-/
import Derived.Test.YtjpdcppdoonmdaaVy
import Derived.ArgAppend
namespace Go.Proofs.Ytjpdcppdoonmdaa
open Go.RowKit
/-- the slice A, n, cap holds the cells xs, somewhere in a block of the code's own -/
def TailA (e : TypeId) (size : Nat) (A : Option Addr) (n cap : Nat) (xs : List Value) : Asn where
  h F w := xs.length = n * size ∧ ∃ g off cur, A = some ⟨g, off, none⟩ ∧ w.heap[g]? = some (.cells cur e (0, 0)) ∧ n ≤ cap ∧ cap ≤ maxLen ∧ off + cap * size ≤ cur.size ∧ (∀ (j : Nat) u, xs[j]? = some u → cur[off + j]? = some u) ∧ ∀ k, F k ↔ k = g
  lt := by
    rintro F w ⟨_, g, off, cur, _, h1, _, _, _, _, h2⟩ k hk
    rw [(h2 k).1 hk]
    exact lt_of_some h1
  st := by
    rintro F w ⟨h0, g, off, cur, h3, h1, h4, h5, h6, h7, h2⟩ S w' hk hn
    exact ⟨h0, g, off, cur, h3, (hk.block g (lt_of_some h1) (hn g ((h2 g).2 rfl))).trans h1, h4, h5, h6, h7, h2⟩
section tails
variable {e : TypeId} {size n m cap : Nat} {A : Option Addr} {xs news : List Value} {w : World}
theorem step_toTail {b : Nat} {cs : List Value} (hl : cs.length = n * size) (hm : n ≤ maxLen) : ∀ F, (HP.blk b cs e).h F w → ∃ F', (HP.abs (TailA e size (some ⟨b, 0, none⟩) n n cs)).h F' w ∧ Step F w F' w := by
  rintro F ⟨h1, h2⟩
  refine ⟨F, ⟨hl, b, 0, ⟨cs⟩, rfl, h1, Nat.le_refl _, hm, by simp [hl], fun j u hj => by simpa using hj, h2⟩, Step.refl F w⟩
theorem Sat.toTail {β : Bs} {hps : List HP} {b i : Nat} {cs : List Value} (size n : Nat) (hp : hps[i]? = some (.blk b cs e)) (hl : cs.length = n * size) (hm : n ≤ maxLen) (h : Sat β hps w) : Sat β (hps.set i (.abs (TailA e size (some ⟨b, 0, none⟩) n n cs))) w :=
  h.set hp (step_toTail hl hm)
theorem TailA.len {F : Fp} (h : (HP.abs (TailA e size A n cap xs)).h F w) : xs.length = n * size ∧ n ≤ cap ∧ A = some ⟨blkOf A, offOf A, none⟩ := by
  obtain ⟨h0, g, off, cur, rfl, _, h4, _⟩ := h
  exact ⟨h0, h4, rfl⟩
theorem TailA.cellAt {i j : Nat} {u : Value} (hj : xs[i * size + j]? = some u) : ∀ F w, (TailA e size A n cap xs).h F w → w.cell? ⟨blkOf A, offOf A + i * size + j, none⟩ = some u := by
  rintro F w ⟨_, g, off, cur, rfl, h1, _, _, _, h6, _⟩
  have := h6 _ _ hj
  show w.cell? ⟨g, off + i * size + j, none⟩ = _
  unfold World.cell?
  rw [h1]
  rw [Nat.add_assoc]
  simpa using this
theorem setCells_heap {b : Nat} {fz : Nat × Nat} : ∀ (vs : List Value) (o : Nat) (w : World) (cur : Array Value), w.heap[b]? = some (.cells cur e fz) → o + vs.length ≤ cur.size →
    ∃ cur', (w.setCells b o vs).heap[b]? = some (.cells cur' e fz) ∧ cur'.size = cur.size ∧ (∀ i, i < o → cur'[i]? = cur[i]?) ∧ (∀ (j : Nat) u, vs[j]? = some u → cur'[o + j]? = some u) ∧ Keeps (· = b) w (w.setCells b o vs)
  | [], o, w, cur, h, _ => ⟨cur, h, rfl, fun _ _ => rfl, fun j u hj => by simp at hj, Keeps.refl _ _⟩
  | v :: r, o, w, cur, h, hl => by
    have h1 : (w.setCell ⟨b, o, none⟩ v).heap[b]? = some (.cells (cur.setIfInBounds o v) e fz) := by
      simp [World.setCell, Array.getElem?_modify, h]
    simp only [List.length_cons] at hl
    obtain ⟨cur', h2, h3, h4, h5, h6⟩ := setCells_heap r (o + 1) _ _ h1 (by simp; omega)
    refine ⟨cur', h2, by rw [h3]; simp, fun i hi => ?_, fun j u hj => ?_, ?_⟩
    · rw [h4 i (by omega), Array.getElem?_setIfInBounds_ne (by omega)]
    · cases j with
      | zero =>
        simp at hj
        subst hj
        rw [Nat.add_zero, h4 o (by omega), Array.getElem?_setIfInBounds_self_of_lt (by omega)]
      | succ j =>
        have := h5 j u (by simpa using hj)
        rw [show o + (j + 1) = o + 1 + j by omega]
        exact this
    · have h7 : Keeps (· = b) w (w.setCell ⟨b, o, none⟩ v) := (Keeps.refl (· = b) w).setCell (.inr (rfl : (fun k => k = b) (⟨b, o, none⟩ : Addr).block)) v
      exact h7.trans h6
end tails
theorem src_blk1 {β : Bs} {hps : List HP} {b j : Nat} {news : List Value} {T : TypeId} (hp : hps[j]? = some (.blk b news T)) : ∀ w, Sat β hps w → ∀ (i : Nat) u, news[i]? = some u → w.cell? ((⟨b, 0, none⟩ : Addr).add i) = some u := by
  intro w hS i u hi
  rcases src_blk hp w hS with ⟨h, _⟩ | ⟨ad, e, h⟩
  · cases h
  · cases e; exact h i u hi
section rules
variable {P : Program} {β : Bs} {N : Nat} {ops : Array Oper} {k : Nat} {fr : Fr} {hps : List HP} {Q : Post} {d : Option Tmp}
theorem TriL.tailSlice (i : Nat) {t e : TypeId} {size m n cap : Nat} {A : Option Addr} {xs : List Value} {x lo : Operand} (hop : ∀ junk, opAt N junk ops fr k = some (.slice t x (some lo) none none, d)) (hp : hps[i]? = some (.abs (TailA e size A n cap xs)))
    (hx : ∀ junk, evF N fr junk x = .slice A n cap) (hlo : ∀ junk, evF N fr junk lo = .int .i64 ((m : Nat) : Int)) (ht : P.underlying t = some (.slice e)) (hinf : (P.info? e).map (·.size) = some size) (hm : m ≤ n)
    (K' : ∀ A', TriL P β N ops (k + 1) (putF fr d (.slice A' (n - m) (cap - m))) (hps.set i (.abs (TailA e size A' (n - m) (cap - m) (xs.drop (m * size))))) Q) : TriL P β N ops k fr hps Q := by
  obtain ⟨inf, hi, hsize⟩ : ∃ inf, P.info? e = some inf ∧ inf.size = size := by
    cases h : P.info? e with
    | none => rw [h] at hinf; cases hinf
    | some inf => rw [h] at hinf; simp at hinf; exact ⟨inf, rfl, hinf⟩
  refine TriL.runE (ι := Option Addr) (v := fun A' => .slice A' (n - m) (cap - m)) (hp' := fun A' => hps.set i (.abs (TailA e size A' (n - m) (cap - m) (xs.drop (m * size))))) hop (fun o junk w ho hS => ?_) K'
  obtain ⟨F, hF⟩ := hS.get hp
  obtain ⟨h0, g, off, cur, hA, h1, h4, h5, h6, h7, h8⟩ := hF
  subst hA
  have e1 : (underlying t).run P w = .ok (.slice e) w := run_underlying ht w
  have e2 : (sizeOf e).run P w = .ok size w := hsize ▸ runsize hi w
  have hmn : m * size ≤ n * size := Nat.mul_le_mul_right _ hm
  have hmc : m * size ≤ cap * size := Nat.mul_le_mul_right _ (Nat.le_trans hm h4)
  have hsub : ∀ a, (a - m) * size = a * size - m * size := fun a => Nat.sub_mul a m size
  by_cases hc : cap = m
  · refine ⟨some ⟨g, off, none⟩, w, .inl ?_, hS.set hp (fun F' hF' => ⟨F', ?_, Step.refl _ _⟩)⟩
    · obtain ⟨dst, op, type, pos, after, guard⟩ := o
      cases ho
      have hle : m ≤ n := hm
      simp [execOp, Instr.sliceAt, Instr.slice, Instr.sliceBounds, Instr.sliceBound, asIntOf, hx, hlo, go_sem, e1, e2, hc, hle]
    · obtain ⟨_, g', off', cur', hA', h1', h4', h5', h6', h7', h8'⟩ := hF'
      cases hA'
      refine ⟨by rw [List.length_drop, h0, hsub], g, off, cur', rfl, h1', by omega, by omega, by rw [hsub]; omega, fun j u hj => ?_, h8'⟩
      have : (xs.drop (m * size)).length = 0 := by rw [List.length_drop, h0]; have : n = m := by omega
                                                   rw [this]; omega
      have hnil := List.eq_nil_of_length_eq_zero this
      rw [hnil] at hj
      simp at hj
  · have ea : (⟨g, off, none⟩ : Addr).add (m * size) = ⟨g, off + m * size, none⟩ := by
      unfold Addr.add
      split
      · rename_i h00; rw [h00]; rfl
      · rfl
    refine ⟨some ⟨g, off + m * size, none⟩, w, .inl ?_, hS.set hp (fun F' hF' => ⟨F', ?_, Step.refl _ _⟩)⟩
    · obtain ⟨dst, op, type, pos, after, guard⟩ := o
      cases ho
      have hle : m ≤ n := hm
      simp [execOp, Instr.sliceAt, Instr.slice, Instr.sliceBounds, Instr.sliceBound, asIntOf, hx, hlo, go_sem, e1, e2, hc, hle]
    · obtain ⟨_, g', off', cur', hA', h1', h4', h5', h6', h7', h8'⟩ := hF'
      cases hA'
      refine ⟨by rw [List.length_drop, h0, hsub], g, off + m * size, cur', rfl, h1', by omega, by omega, by rw [hsub]; omega, fun j u hj => ?_, h8'⟩
      rw [List.getElem?_drop] at hj
      have := h7' _ _ hj
      rw [show off + m * size + j = off + (m * size + j) by omega]
      exact this
theorem TriL.tailAppend (i : Nat) {t e : TypeId} {z : Value} {size bytes n cap m c' : Nat} {A : Option Addr} {ad : Addr} {xs news : List Value} {s x : Operand} {ats : Array TypeId}
    (hop : ∀ junk, opAt N junk ops fr k = some (.call ⟨.builtin .append, #[s, x], ats⟩, d)) (hats : ats = #[t, t]) (hp : hps[i]? = some (.abs (TailA e size A n cap xs))) (hs : ∀ junk, evF N fr junk s = .slice A n cap) (hx : ∀ junk, evF N fr junk x = .slice (some ad) m c')
    (ht : P.underlying t = some (.slice e)) (hinf : (P.info? e).map (fun i => (i.zero, i.size, i.bytes)) = some (some z, size, bytes)) (hzs : z.cells.size = size) (hsz : 0 < size)
    (hl : news.length = m * size) (h1 : ∀ u ∈ news, u.oneCell' = true) (hsrc : ∀ w, Sat β hps w → ∀ (j : Nat) u, news[j]? = some u → w.cell? (ad.add j) = some u)
    (h63 : n + m ≤ maxLen) (hbytes : (n + m) * bytes ≤ 140737488355328)
    (K' : ∀ B cap', TriL P β N ops (k + 1) (putF fr d (.slice B (n + m) cap')) (hps.set i (.abs (TailA e size B (n + m) cap' (xs ++ news)))) Q) : TriL P β N ops k fr hps Q := by
  subst hats
  obtain ⟨inf, hi, hz, hsize, hby⟩ : ∃ inf, P.info? e = some inf ∧ inf.zero = some z ∧ inf.size = size ∧ inf.bytes = bytes := by
    cases h : P.info? e with
    | none => rw [h] at hinf; cases hinf
    | some inf => rw [h] at hinf; simp at hinf; exact ⟨inf, rfl, hinf.1, hinf.2.1, hinf.2.2⟩
  refine TriL.runE (ι := Option Addr × Nat) (v := fun p => .slice p.1 (n + m) p.2) (hp' := fun p => hps.set i (.abs (TailA e size p.1 (n + m) p.2 (xs ++ news)))) hop (fun o junk w ho hS => ?_) (fun p => K' p.1 p.2)
  obtain ⟨F, hF⟩ := hS.get hp
  have hnews := hsrc w hS
  obtain ⟨h0, g, off, cur, hA, hg, h4, h5, h6, h7, h8⟩ := hF
  subst hA
  have hrun : ∀ v' w', (Builtin.append_ #[t, t] o.type #[.slice (some ⟨g, off, none⟩) n cap, .slice (some ad) m c']).run P w = .ok v' w' → Ran P (evF N fr junk) o w v' w' := fun v' w' h => by
    obtain ⟨dst, op, type, pos, after, guard⟩ := o
    cases ho
    refine .inl ?_
    have h' : (Builtin.append_ #[t, t] type #[.slice (some ⟨g, off, none⟩) n cap, .slice (some ad) m c']).run P w = .ok v' w' := h
    simp only [execOp, resolve, invoke, builtin, hs junk, hx junk, List.map_toArray, List.map_cons, List.map_nil, Sem.run_bind, Sem.run_pure, Result.andThen_ok, h']
  have hlen : (xs ++ news).length = (n + m) * size := by rw [List.length_append, h0, hl, Nat.add_mul]
  by_cases hroom : n + m ≤ cap
  · have hcm : (n + m) * size ≤ cap * size := Nat.mul_le_mul_right _ hroom
    rw [Nat.add_mul, ← hl] at hcm
    have hcell : ∀ j, j < news.length → (w.cell? ⟨g, off + n * inf.size + j, none⟩).isSome = true := fun j hj => by
      rw [hsize]
      unfold World.cell?
      rw [hg]
      have : off + n * size + j < cur.size := by omega
      simp [this]
    have hfro : ∀ j, j < news.length → w.frozen? ⟨g, off + n * inf.size + j, none⟩ = false := fun j _ => by
      unfold World.frozen?
      rw [hg]
      simp
    have hr := run_append_room_cells (P := P) w t o.type e inf ht hi g off n cap ad m c' news (by rw [hsize]; exact hl) hnews h1 hroom hcell hfro
    rw [hsize] at hr
    obtain ⟨cur', g1, g2, g3, g4, g5⟩ := setCells_heap (e := e) (b := g) news (off + n * size) w cur hg (by omega)
    refine ⟨(some ⟨g, off, none⟩, cap), _, hrun _ _ hr, hS.set hp (fun F' hF' => ⟨F', ?_, ?_⟩)⟩
    · obtain ⟨_, g', off', cur2, hA', h1', h4', h5', h6', h7', h8'⟩ := hF'
      cases hA'
      rw [hg] at h1'
      cases h1'
      refine ⟨hlen, g, off, cur', rfl, g1, hroom, h5, by rw [g2]; exact h6, fun j u hj => ?_, h8'⟩
      by_cases hj2 : j < xs.length
      · rw [List.getElem?_append_left hj2] at hj
        rw [g3 _ (by omega)]
        exact h7 j u hj
      · rw [List.getElem?_append_right (by omega)] at hj
        have := g4 _ _ hj
        rw [h0] at this
        rw [show off + j = off + n * size + (j - n * size) by omega]
        exact this
    · obtain ⟨_, g', off', cur2, hA', _, _, _, _, _, h8'⟩ := hF'
      cases hA'
      exact ⟨g5.mono (fun k _ e => (h8' k).2 e), fun _ h => .inl h⟩
  · have holds : ∀ (j : Nat) u, xs[j]? = some u → w.cell? ((⟨g, off, none⟩ : Addr).add j) = some u := fun j u hj => by
      have ea : (⟨g, off, none⟩ : Addr).add j = ⟨g, off + j, none⟩ := by
        unfold Addr.add
        split
        · rename_i h00; rw [h00]; rfl
        · rfl
      rw [ea]
      unfold World.cell?
      rw [hg]
      simpa using h7 j u hj
    obtain ⟨v', w', hr, hown, hgr⟩ := run_append_arg_grows (P := P) w t o.type e inf z size bytes ht hi hz hsize hby hzs hsz ⟨g, off, none⟩ n cap xs h0 holds ad m c' news hl hnews (by omega) h63 hbytes
    rcases hown.2 with ⟨_, e0⟩ | ⟨g', cp, cur', rfl, hlo, hg', hle, hmx, hsz', htk⟩
    · exact absurd e0 (by omega)
    · refine ⟨(some ⟨g', 0, none⟩, cp), w', hrun _ _ hr, hS.set hp (fun F' hF' => ⟨fun k => k = g', ⟨hlen, g', 0, cur', rfl, hg', hle, hmx, Nat.le_of_eq (by rw [hsz', Nat.zero_add]), fun j u hj => ?_, fun _ => Iff.rfl⟩, ?_, fun k hk => .inr (by rw [hk]; exact hlo)⟩)⟩
      · have hj2 := len_of_some hj
        rw [← htk, List.getElem?_take] at hj
        split at hj
        · rw [Nat.zero_add]; simpa using hj
        · cases hj
      · exact (Keeps.refl F' w).grown hgr (fun _ h => by cases h)
end rules
end Go.Proofs.Ytjpdcppdoonmdaa
