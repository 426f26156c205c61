/-
  PROVED HERE: the rules of the logic that part a walk by a test, or tell a slot otherwise; small laws of numbers.
  CONDITIONS: none. No statement of the seat is proved here.
-/
import Derived.Test.YtjpdcppdoonmdaaVc
import Derived.Laws.StructEq
namespace Go.Proofs.Ytjpdcppdoonmdaa
open Go.RowKit
section slots
variable {P : Program} {β : Bs} {N : Nat} {ops : Array Oper} {k : Nat} {fr : Fr} {hps : List HP} {Q : Post} {c x y : Code} {e : Exit} {i : Nat} {v v' : Value} {b : Bool}
theorem mkA_same {junk : Nat → Value} (h : lk fr junk i = v) : mkA N ((i, v) :: fr) junk = mkA N fr junk := by
  unfold mkA
  have : (List.range N).map (lk ((i, v) :: fr) junk) = (List.range N).map (lk fr junk) := List.map_congr_left (fun t _ => by
    rw [lk_cons]
    by_cases e : i = t
    · subst e; simp [h]
    · simp [e])
  rw [this]
theorem TriL.slot (i : Nat) (v v' : Value) (h : ∀ junk, lk fr junk i = v) (hv : v = v') (K : TriL P β N ops k ((i, v') :: fr) hps Q) : TriL P β N ops k fr hps Q := fun junk w hS => by
  have := K junk w hS
  rwa [mkA_same (hv ▸ h junk)] at this
theorem TriLQ.slot (i : Nat) (v v' : Value) (h : ∀ junk, lk fr junk i = v) (hv : v = v') (K : TriLQ P β N ops k ((i, v') :: fr) hps Q) : TriLQ P β N ops k fr hps Q := fun junk => by
  have := K junk
  rwa [mkA_same (hv ▸ h junk)] at this
theorem Tri.slot' (i : Nat) (v v' : Value) (h : ∀ junk, lk fr junk i = v) (hv : v = v') (K : Tri P β N c ((i, v') :: fr) hps Q) : Tri P β N c fr hps Q := fun junk w hS => by
  have := K junk w hS
  rwa [mkA_same (hv ▸ h junk)] at this
theorem TriQ.slot (i : Nat) (v v' : Value) (h : ∀ junk, lk fr junk i = v) (hv : v = v') (K : TriQ β N Q e ((i, v') :: fr) hps) : TriQ β N Q e fr hps := fun junk w hS => by
  have := K junk w hS
  rwa [mkA_same (hv ▸ h junk)] at this
theorem TriL.slotB (i : Nat) (b : Bool) (h : ∀ junk, lk fr junk i = .bool b) (ht : b = true → TriL P β N ops k ((i, .bool true) :: fr) hps Q) (hf : b = false → TriL P β N ops k ((i, .bool false) :: fr) hps Q) : TriL P β N ops k fr hps Q := by
  cases hb : b with
  | true => exact TriL.slot i (.bool b) (.bool true) h (by rw [hb]) (ht hb)
  | false => exact TriL.slot i (.bool b) (.bool false) h (by rw [hb]) (hf hb)
theorem TriLQ.slotB (i : Nat) (b : Bool) (h : ∀ junk, lk fr junk i = .bool b) (ht : b = true → TriLQ P β N ops k ((i, .bool true) :: fr) hps Q) (hf : b = false → TriLQ P β N ops k ((i, .bool false) :: fr) hps Q) : TriLQ P β N ops k fr hps Q := by
  cases hb : b with
  | true => exact TriLQ.slot i (.bool b) (.bool true) h (by rw [hb]) (ht hb)
  | false => exact TriLQ.slot i (.bool b) (.bool false) h (by rw [hb]) (hf hb)
theorem TriL.slotP (i : Nat) (p : Prop) [Decidable p] (h : ∀ junk, lk fr junk i = .bool (decide p)) (ht : p → TriL P β N ops k ((i, .bool true) :: fr) hps Q) (hf : ¬ p → TriL P β N ops k ((i, .bool false) :: fr) hps Q) : TriL P β N ops k fr hps Q :=
  TriL.slotB i _ h (fun e => ht (of_decide_eq_true e)) (fun e => hf (of_decide_eq_false e))
theorem TriLQ.slotP (i : Nat) (p : Prop) [Decidable p] (h : ∀ junk, lk fr junk i = .bool (decide p)) (ht : p → TriLQ P β N ops k ((i, .bool true) :: fr) hps Q) (hf : ¬ p → TriLQ P β N ops k ((i, .bool false) :: fr) hps Q) : TriLQ P β N ops k fr hps Q :=
  TriLQ.slotB i _ h (fun e => ht (of_decide_eq_true e)) (fun e => hf (of_decide_eq_false e))
theorem TriL.partEq (i : Nat) {p p' : HP} (hp : hps[i]? = some p) (e : p = p') (K : TriL P β N ops k fr (hps.set i p') Q) : TriL P β N ops k fr hps Q := by
  subst e
  have : hps.set i p = hps := by
    apply List.ext_getElem?
    intro j
    by_cases e : i = j
    · subst e; rw [List.getElem?_set_self (len_of_some hp), hp]
    · rw [List.getElem?_set_ne e]
  rwa [this] at K
theorem not_dec_true {p : Prop} [Decidable p] (h : (!decide p) = true) : ¬ p := by simpa using h
theorem not_dec_false {p : Prop} [Decidable p] (h : (!decide p) = false) : p := by simpa using h
theorem TriL.slotN (i : Nat) (p : Prop) [Decidable p] (h : ∀ junk, lk fr junk i = .bool (!decide p)) (ht : ¬ p → TriL P β N ops k ((i, .bool true) :: fr) hps Q) (hf : p → TriL P β N ops k ((i, .bool false) :: fr) hps Q) : TriL P β N ops k fr hps Q :=
  TriL.slotB i _ h (fun e => ht (not_dec_true e)) (fun e => hf (not_dec_false e))
theorem TriLQ.slotN (i : Nat) (p : Prop) [Decidable p] (h : ∀ junk, lk fr junk i = .bool (!decide p)) (ht : ¬ p → TriLQ P β N ops k ((i, .bool true) :: fr) hps Q) (hf : p → TriLQ P β N ops k ((i, .bool false) :: fr) hps Q) : TriLQ P β N ops k fr hps Q :=
  TriLQ.slotB i _ h (fun e => ht (not_dec_true e)) (fun e => hf (not_dec_false e))
theorem Tri.condN {o : Operand} {p : Prop} [Decidable p] (h : ∀ junk, evF N fr junk o = .bool (!decide p)) (ht : ¬ p → Tri P β N x fr hps Q) (hf : p → Tri P β N y fr hps Q) : Tri P β N (.cond o x y) fr hps Q :=
  Tri.cond h (fun e => ht (not_dec_true e)) (fun e => hf (not_dec_false e))
end slots
theorem wrapEq {x y : Int} (h : x = y) (lo : -9223372036854775808 ≤ y) (hi : y ≤ 9223372036854775807) : Value.int .i64 (IntKind.wrap .i64 x) = Value.int .i64 y := by
  subst h
  rw [IntWalk.i64_in _ ⟨lo, hi⟩]
theorem intEq {k : IntKind} {x y : Int} (h : x = y) : Value.int k x = Value.int k y := by rw [h]
theorem strEq' (x y : ByteArray) : (x.toList == y.toList) = decide (x = y) := by
  rw [← beq_toListBytes]
  obtain ⟨⟨x⟩⟩ := x
  obtain ⟨⟨y⟩⟩ := y
  show ((⟨x⟩ : Array UInt8) == ⟨y⟩) = _
  by_cases h : x = y
  · subst h; simp
  · simp [h]
theorem strEqV (x y : ByteArray) : Value.bool (x.toList == y.toList) = Value.bool (decide (x = y)) := by rw [strEq']
theorem strNeV (x y : ByteArray) : Value.bool (!(x.toList == y.toList)) = Value.bool (!decide (x = y)) := by rw [strEq']
end Go.Proofs.Ytjpdcppdoonmdaa
