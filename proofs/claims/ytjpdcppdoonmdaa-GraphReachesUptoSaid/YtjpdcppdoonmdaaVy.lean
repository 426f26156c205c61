/-
  PROVED HERE: small laws of unsigned numbers, shifts and the order of texts.
  CONDITIONS: none. No statement of the seat is proved here.
-/
import Derived.Test.YtjpdcppdoonmdaaVw
import Derived.Lib.Bytealg
namespace Go.Proofs.Ytjpdcppdoonmdaa
open Go.RowKit
theorem u64Eq {x : Int} (h0 : 0 ≤ x) (h1 : x ≤ 18446744073709551615) : Value.int .u64 (IntKind.wrap .u64 x) = Value.int .u64 x := by
  rw [IntWalk.u64_in _ ⟨h0, h1⟩]
theorem u8Eq {x : Int} (h0 : 0 ≤ x) (h1 : x ≤ 255) : Value.int .u8 (IntKind.wrap .u8 x) = Value.int .u8 x := by
  rw [IntWalk.u8_in _ ⟨h0, h1⟩]
theorem shr1Eq {k : IntKind} {m : Nat} : Value.int k (Int.fdiv ((m : Nat) : Int) (2 ^ 1)) = Value.int k ((m / 2 : Nat) : Int) := by
  have e : ((m / 2 : Nat) : Int) = (m : Int) / 2 := by omega
  rw [e, Int.fdiv_eq_ediv_of_nonneg _ (by decide)]
  rfl
/-! ### bytes that may turn into a text -/
/-- a block whose cells are as told, whatever its mark -/
def FrozA (b : Nat) (cs : List Value) (T : TypeId) : Asn where
  h F w := (∃ fz, w.heap[b]? = some (.cells ⟨cs⟩ T fz)) ∧ ∀ k, F k ↔ k = b
  lt := by
    rintro F w ⟨⟨fz, h1⟩, h2⟩ k hk
    rw [(h2 k).1 hk]
    exact lt_of_some h1
  st := by
    rintro F w ⟨⟨fz, h1⟩, h2⟩ S w' hk hn
    exact ⟨⟨fz, (hk.block b (lt_of_some h1) (hn b ((h2 b).2 rfl))).trans h1⟩, h2⟩
theorem RowB.of_froz {β' : Bs} {b n : Nat} {cs : List Value} {T : TypeId} {F : Fp} {w : World} (h : (HP.abs (FrozA b cs T)).h F w) (h1 : ∀ k, F k → β'.O k) (h2 : β'.w0 = w) : RowB β' (some ⟨b, 0, none⟩) (cs.take n) := by
  obtain ⟨⟨fz, h3⟩, h4⟩ := h
  intro j v hj
  have hj' : cs[j]? = some v := by
    rw [List.getElem?_take] at hj
    split at hj
    · exact hj
    · cases hj
  refine ⟨rfl, h1 b ((h4 b).2 rfl), ?_⟩
  show β'.w0.cell? ⟨b, 0 + j, none⟩ = some v
  rw [h2, Nat.zero_add]
  unfold World.cell?
  rw [h3]
  simpa using hj'
section mark
variable {P : Program} {β : Bs} {N : Nat} {ops : Array Oper} {k : Nat} {fr : Fr} {hps : List HP} {Q : Post} {d : Option Tmp}
theorem TriL.markBytes (i : Nat) {t e T : TypeId} {b o n c : Nat} {cs : List Value} {x : Operand} (hop : ∀ junk, opAt N junk ops fr k = some (.convert t t x, d)) (hp : hps[i]? = some (.blk b cs T)) (hx : ∀ junk, evF N fr junk x = .slice (some ⟨b, o, none⟩) n c)
    (ht : P.underlying t = some (.slice e)) (he : P.underlying e = some (.int .u8)) (K' : TriL P β N ops (k + 1) (putF fr d (.slice (some ⟨b, o, none⟩) n c)) (hps.set i (.abs (FrozA b cs T))) Q) : TriL P β N ops k fr hps Q := by
  refine TriL.run1 hop (fun o' junk w ho hS => ?_) K'
  obtain ⟨F, hF⟩ := hS.get hp
  have hb := hF.1
  have hsz : b < w.heap.size := lt_of_some hb
  refine ⟨w.freeze ⟨b, cs.length, none⟩ 1, .inl ?_, hS.set hp (fun F hF => ?_)⟩
  · obtain ⟨dst, op, type, pos, after, guard⟩ := o'
    cases ho
    have h1 : (underlying t).run P w = .ok (.slice e) w := run_underlying ht w
    have h2 : (underlying e).run P w = .ok (.int .u8) w := run_underlying he w
    have h3 : w.shape? b = some (T, cs.length) := by unfold World.shape?; rw [hb]; rfl
    simp [execOp, convert, hx, go_sem, h1, h2, markStringish, h3]
  · refine ⟨F, ⟨⟨?_, ?_⟩, hF.2⟩, ⟨⟨rfl, rfl, rfl, ?_, ?_⟩, fun _ h => .inl h⟩⟩
    · exact (if ((0 : Nat) == 0) = true then (cs.length, cs.length + 1) else (min 0 cs.length, max 0 (cs.length + 1)))
    · simp [World.freeze, Array.getElem?_modify, hF.1]
    · simp [World.freeze]
    · intro k _ hk
      have hne : ¬ b = k := fun e => hk ((hF.2 k).2 e.symm)
      simp [World.freeze, Array.getElem?_modify, hne]
end mark
/-! ### texts put together; a row that is cut -/
section adds
variable {P : Program} {β : Bs} {N : Nat} {ops : Array Oper} {e0 k : Nat} {fr : Fr} {hps : List HP} {Q : Post} {d : Option Tmp} {t t2 : TypeId} {x y : Operand} {a b : ByteArray}
theorem ran_strAdd {w : World} {o : Oper} {ev : Operand → Value} (ho : o.op = .binOp .add t x y t2) (hx : ev x = .string a) (hy : ev y = .string b) (hs : a.size + b.size ≤ 9223372036854775807) : Ran P ev o w (.string (a ++ b)) w := by
  obtain ⟨dst, op, type, pos, after, guard⟩ := o
  cases ho
  refine .inl ?_
  simp [execOp, hx, hy, binOp, eqGuard, Op.stringOp, go_sem]
  omega
theorem TriL.strAdd (hop : ∀ junk, opAt N junk ops fr k = some (.binOp .add t x y t2, d)) (hx : ∀ junk, evF N fr junk x = .string a) (hy : ∀ junk, evF N fr junk y = .string b) (hs : a.size + b.size ≤ 9223372036854775807) (K : TriL P β N ops (k + 1) (putF fr d (.string (a ++ b))) hps Q) : TriL P β N ops k fr hps Q :=
  TriL.run1 hop (fun _ junk w ho hS => ⟨w, ran_strAdd ho (hx junk) (hy junk) hs, hS⟩) K
theorem TriLQ.strAdd (hop : ∀ junk, opAt N junk ops fr k = some (.binOp .add t x y t2, d)) (hx : ∀ junk, evF N fr junk x = .string a) (hy : ∀ junk, evF N fr junk y = .string b) (hs : a.size + b.size ≤ 9223372036854775807) (K : TriLQ P β N ops (k + 1) (putF fr d (.string (a ++ b))) hps Q) : TriLQ P β N ops k fr hps Q :=
  TriLQ.run1 hop (fun _ junk _ ho _ => ran_strAdd ho (hx junk) (hy junk) hs) K
theorem step_cut {e : TypeId} {size n m cap : Nat} {A : Option Addr} {xs : List Value} {w : World} (hm : m ≤ n) : ∀ F, (HP.abs (RowA e size A n cap xs)).h F w → ∃ F', (HP.abs (RowA e size A m cap (xs.take (m * size)))).h F' w ∧ Step F w F' w := by
  rintro F ⟨⟨h1, h2⟩, hF⟩
  refine ⟨F, ⟨⟨?_, ?_⟩, fun k => ?_⟩, Step.refl F w⟩
  · rw [List.length_take, h1]
    exact Nat.min_eq_left (Nat.mul_le_mul_right _ hm)
  · rcases h2 with ⟨e1, e2⟩ | ⟨g, cp, cur, e1, h3, h4, h5, h6, h7, h8⟩
    · cases e1
      exact .inl ⟨by rw [show m = 0 by omega], by omega⟩
    · cases e1
      refine .inr ⟨g, cap, cur, rfl, h3, h4, by omega, h6, h7, ?_⟩
      rw [← h8, List.take_take]
      congr 1
      exact (Nat.min_eq_left (Nat.mul_le_mul_right _ hm)).symm
  · rw [hF k]
    cases A <;> rfl
theorem Sat.cut {i e size n m cap : Nat} {A : Option Addr} {xs ys : List Value} {w : World} (hp : hps[i]? = some (.abs (RowA e size A n cap xs))) (hm : m ≤ n) (hy : xs.take (m * size) = ys) (h : Sat β hps w) : Sat β (hps.set i (.abs (RowA e size A m cap ys))) w := by
  subst hy
  exact h.set hp (step_cut hm)
end adds
/-- a cell of a row, by its element and place -/
theorem RowA.cellAt {e : TypeId} {A : Option Addr} {size n cap i j : Nat} {xs : List Value} {u : Value} (hi : i < n) (hj : xs[i * size + j]? = some u) : ∀ F w, (RowA e size A n cap xs).h F w → w.cell? ⟨blkOf A, offOf A + i * size + j, none⟩ = some u := by
  intro F w h
  obtain ⟨g, rfl⟩ := RowA.head h (by omega)
  have := RowA.cell hj F w h
  show w.cell? ⟨g, 0 + i * size + j, none⟩ = some u
  rw [Nat.zero_add]
  exact this
/-! ### the order of texts -/
def cmpB (a b : ByteArray) : Int := Lib.compareBytes a.data.toList b.data.toList
theorem cmpL_self : ∀ a : List UInt8, Lib.compareBytes a a = 0
  | [] => rfl
  | a :: r => by
    have h : ¬ a < a := by intro h; exact absurd h (by simp)
    simp only [Lib.compareBytes, if_neg h]
    exact cmpL_self r
theorem cmpL_zero : ∀ {a b : List UInt8}, Lib.compareBytes a b = 0 → a = b
  | [], [], _ => rfl
  | [], _ :: _, h => by simp [Lib.compareBytes] at h
  | _ :: _, [], h => by simp [Lib.compareBytes] at h
  | a :: x, b :: y, h => by
    unfold Lib.compareBytes at h
    split at h
    · cases h
    · rename_i h1
      split at h
      · cases h
      · rename_i h2
        have e : a = b := by
          apply UInt8.toNat_inj.1
          have h3 : ¬ a.toNat < b.toNat := fun h => h1 (UInt8.lt_iff_toNat_lt.2 h)
          have h4 : ¬ b.toNat < a.toNat := fun h => h2 (UInt8.lt_iff_toNat_lt.2 h)
          omega
        rw [e, cmpL_zero h]
theorem cmpL_less : ∀ {a b : List UInt8}, Lib.compareBytes a b < 0 ↔ Op.bytesLess a b = true
  | [], [] => by simp [Lib.compareBytes, Op.bytesLess]
  | [], _ :: _ => by simp [Lib.compareBytes, Op.bytesLess]
  | _ :: _, [] => by simp [Lib.compareBytes, Op.bytesLess]
  | a :: x, b :: y => by
    unfold Lib.compareBytes Op.bytesLess
    by_cases h1 : a < b
    · simp [h1]
    · by_cases h2 : b < a
      · have h3 : ¬ a = b := fun e => by subst e; exact h1 h2
        simp [h1, h2, h3]
      · have e : a = b := by
          apply UInt8.toNat_inj.1
          have h3 : ¬ a.toNat < b.toNat := fun h => h1 (UInt8.lt_iff_toNat_lt.2 h)
          have h4 : ¬ b.toNat < a.toNat := fun h => h2 (UInt8.lt_iff_toNat_lt.2 h)
          omega
        subst e
        simp only [h1, if_false, decide_false, beq_self_eq_true, Bool.true_and, Bool.false_or]
        exact cmpL_less
theorem cmpL_trans : ∀ {a b c : List UInt8}, Lib.compareBytes a b < 0 → Lib.compareBytes b c ≤ 0 → Lib.compareBytes a c < 0
  | [], [], _, h, _ => by simp [Lib.compareBytes] at h
  | [], _ :: _, [], _, h => by simp [Lib.compareBytes] at h
  | [], _ :: _, _ :: _, _, _ => by simp [Lib.compareBytes]
  | _ :: _, [], _, h, _ => by simp [Lib.compareBytes] at h
  | _ :: _, _ :: _, [], _, h => by simp [Lib.compareBytes] at h
  | a :: x, b :: y, c :: z, h, g => by
    unfold Lib.compareBytes at h g ⊢
    by_cases h1 : a < b
    · by_cases g1 : b < c
      · have : a < c := by rw [UInt8.lt_iff_toNat_lt] at *; omega
        simp [this]
      · by_cases g2 : c < b
        · simp [g1, g2] at g
        · have e : b = c := by
            apply UInt8.toNat_inj.1
            rw [UInt8.lt_iff_toNat_lt] at *
            omega
          subst e
          simp [h1]
    · by_cases h2 : b < a
      · simp [h1, h2] at h
      · have e : a = b := by
          apply UInt8.toNat_inj.1
          rw [UInt8.lt_iff_toNat_lt] at *
          omega
        subst e
        simp only [h1, if_false] at h
        by_cases g1 : a < c
        · simp [g1]
        · by_cases g2 : c < a
          · simp [g1, g2] at g
          · simp only [g1, g2, if_false] at g ⊢
            exact cmpL_trans h g
theorem cmpL_anti : ∀ {a b : List UInt8}, Lib.compareBytes b a = - Lib.compareBytes a b
  | [], [] => rfl
  | [], _ :: _ => rfl
  | _ :: _, [] => rfl
  | a :: x, b :: y => by
    unfold Lib.compareBytes
    by_cases h1 : a < b
    · have h2 : ¬ b < a := by rw [UInt8.lt_iff_toNat_lt] at *; omega
      simp [h1, h2]
    · by_cases h2 : b < a
      · simp [h1, h2]
      · simp only [h1, h2, if_false]
        exact cmpL_anti
theorem cmpB_self (a : ByteArray) : cmpB a a = 0 := cmpL_self _
theorem cmpB_zero {a b : ByteArray} : cmpB a b = 0 ↔ a = b := by
  refine ⟨fun h => ?_, fun h => by rw [h]; exact cmpB_self b⟩
  have := cmpL_zero h
  obtain ⟨⟨a⟩⟩ := a
  obtain ⟨⟨b⟩⟩ := b
  have this : a = b := this
  rw [this]
theorem cmpB_trans {a b c : ByteArray} (h : cmpB a b < 0) (g : cmpB b c ≤ 0) : cmpB a c < 0 := cmpL_trans h g
theorem cmpB_anti (a b : ByteArray) : cmpB b a = - cmpB a b := cmpL_anti
end Go.Proofs.Ytjpdcppdoonmdaa
