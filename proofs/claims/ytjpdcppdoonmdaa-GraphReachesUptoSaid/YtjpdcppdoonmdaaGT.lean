/-
  PROVED HERE: two times are compared.
  CONDITIONS: none.
-/
import Derived.Test.YtjpdcppdoonmdaaGL
import Derived.Laws.StructEq
namespace Go.Proofs.Ytjpdcppdoonmdaa
open Go.RowKit
theorem time_held : Try.prog.stoodInHeld 28 = false := by kernel_rfl
theorem time_guard : Try.prog.eqGuardType Try.prog.depth 28 = false := by kernel_rfl
theorem time_fields : Try.prog.underlying 28 = some (.struct (Try.prog.fieldsOf 28)) := by kernel_rfl
theorem ran_timeNeq {w : World} {o : Oper} {ev : Operand → Value} {x y : Operand} {a b c d : Int} (ho : o.op = .binOp .neq 28 x y 28) (hx : ev x = .agg #[.int .i64 a, .int .i64 b]) (hy : ev y = .agg #[.int .i64 c, .int .i64 d]) :
    Ran Try.prog ev o w (.bool (!decide (a = c ∧ b = d))) w := by
  obtain ⟨dst, op, type, pos, after, guard⟩ := o
  cases ho
  refine .inl ?_
  simp only [execOp, hx, hy]
  simp [go_sem]
  by_cases h1 : a = c <;> by_cases h2 : b = d <;> simp [h1, h2]
theorem ent_held : Try.prog.stoodInHeld 72 = false := by kernel_rfl
theorem ent_guard : Try.prog.eqGuardType Try.prog.depth 72 = false := by kernel_rfl
theorem ent_fields : Try.prog.underlying 72 = some (.struct (Try.prog.fieldsOf 72)) := by kernel_rfl
theorem ran_entNeq {w : World} {o : Oper} {ev : Operand → Value} {x y : Operand} {a c : ByteArray} {b d : Int} (ho : o.op = .binOp .neq 72 x y 72) (hx : ev x = .agg #[.string a, .int .i64 b]) (hy : ev y = .agg #[.string c, .int .i64 d]) :
    Ran Try.prog ev o w (.bool (!decide (a = c ∧ b = d))) w := by
  obtain ⟨dst, op, type, pos, after, guard⟩ := o
  cases ho
  refine .inl ?_
  simp only [execOp, hx, hy]
  simp [go_sem, strEq']
  by_cases h1 : a = c <;> by_cases h2 : b = d <;> simp [h1, h2]
end Go.Proofs.Ytjpdcppdoonmdaa
