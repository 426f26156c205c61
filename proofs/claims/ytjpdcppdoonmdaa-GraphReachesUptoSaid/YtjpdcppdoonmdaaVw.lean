/-
  PROVED HERE: the rule of the logic for 'make' of a slice of things of one cell.
  CONDITIONS: none. No statement of the seat is proved here.
-/
import Derived.Test.YtjpdcppdoonmdaaVi
import Derived.Laws.OwnMore
namespace Go.Proofs.Ytjpdcppdoonmdaa
open Go.RowKit
theorem madeCells_one (z : Value) (n : Nat) : (madeCells #[z] (n * 1)).toList = List.replicate n z := by
  rw [Nat.mul_one]
  apply List.ext_getElem
  · simp [madeCells]
  · intro j h1 h2
    simp [madeCells, Nat.mod_one]
section make
variable {P : Program} {β : Bs} {N : Nat} {ops : Array Oper} {k : Nat} {fr : Fr} {hps : List HP} {Q : Post} {d : Option Tmp}
theorem TriL.makeFull {t e : TypeId} {z : Value} {bytes n : Nat} {l c : Operand} (hop : ∀ junk, opAt N junk ops fr k = some (.makeSlice t l c, d)) (hl : ∀ junk, evF N fr junk l = .int .i64 ((n : Nat) : Int)) (hc : ∀ junk, evF N fr junk c = .int .i64 ((n : Nat) : Int))
    (ht : P.underlying t = some (.slice e)) (hinf : (P.info? e).map (fun i => (i.zero, i.size, i.bytes)) = some (some z, 1, bytes)) (hzs : z.cells = #[z]) (hn : n ≤ 16777216) (hb : bytes * n ≤ 281474976710656)
    (K' : ∀ b, TriL P β N ops (k + 1) (putF fr d (.slice (some ⟨b, 0, none⟩) n n)) (hps ++ [.abs (RowA e 1 (some ⟨b, 0, none⟩) n n (List.replicate n z))]) Q) : TriL P β N ops k fr hps Q := by
  obtain ⟨inf, hi, hz, hsize, hby⟩ : ∃ inf, P.info? e = some inf ∧ inf.zero = some z ∧ inf.size = 1 ∧ inf.bytes = bytes := by
    cases h : P.info? e with
    | none => rw [h] at hinf; cases hinf
    | some inf => rw [h] at hinf; simp at hinf; exact ⟨inf, rfl, hinf.1, hinf.2.1, hinf.2.2⟩
  refine TriL.runE (ι := Nat) (v := fun b => .slice (some ⟨b, 0, none⟩) n n) (hp' := fun b => hps ++ [.abs (RowA e 1 (some ⟨b, 0, none⟩) n n (List.replicate n z))]) hop (fun o junk w ho hS => ?_) K'
  obtain ⟨w', h1, h2, h3⟩ := run_makeSlice_full (P := P) w 0 t e inf z 1 ht hi hz hsize .i64 .i64 n (by omega) (by rw [hby]; exact hb) (by unfold maxLen; omega) (Nat.zero_le _)
  rw [hzs, madeCells_one] at h2
  refine ⟨w.heap.size, w', .inl ?_, hS.new (F := fun k => k = w.heap.size) ⟨h2, fun j => by simp [Value.ownBlock, eq_comm]⟩ ((Keeps.refl _ _).grown h3 (fun _ h => by cases h)) (fun k e => Nat.le_of_eq e.symm)⟩
  obtain ⟨dst, op, type, pos, after, guard⟩ := o
  cases ho
  simp only [execOp, hl, hc]
  simp [h1, Result.andThen]
end make
end Go.Proofs.Ytjpdcppdoonmdaa
