/-
  PROVED HERE: v & 3 lies in 0 .. 3, for every v.
  CONDITIONS: none.
-/
import Derived.Test.YtejnhhpjlajngaaPairC
namespace Go.Proofs.Ytejnhhpjlajngaa
open Go.RowKit
theorem and3 (v : Int) : 0 ≤ bits BinOp.and .i64 v 3 ∧ bits BinOp.and .i64 v 3 < 4 := by
  have h : ((BitVec.ofInt 64 v &&& BitVec.ofInt 64 3).toNat) ≤ 3 := by
    rw [BitVec.toNat_and]
    exact Nat.and_le_right
  have e : bits BinOp.and .i64 v 3 = IntKind.wrap .i64 ((BitVec.ofInt 64 v &&& BitVec.ofInt 64 3).toNat : Int) := rfl
  rw [e]
  generalize (BitVec.ofInt 64 v &&& BitVec.ofInt 64 3).toNat = n at h
  have : n = 0 ∨ n = 1 ∨ n = 2 ∨ n = 3 := by omega
  rcases this with rfl | rfl | rfl | rfl <;> decide
end Go.Proofs.Ytejnhhpjlajngaa
