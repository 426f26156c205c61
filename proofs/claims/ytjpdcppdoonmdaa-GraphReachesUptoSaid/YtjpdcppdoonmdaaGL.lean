/-
  PROVED HERE: small laws of lists.
  CONDITIONS: none.
-/
import Derived.Test.YtjpdcppdoonmdaaG
namespace Go.Proofs.Ytjpdcppdoonmdaa
theorem ext_getD {α : Type} {x : α} {a b : List α} (hl : a.length = b.length) (h : ∀ j, j < a.length → a.getD j x = b.getD j x) : a = b := by
  apply List.ext_getElem hl
  intro j h1 h2
  have := h j h1
  rw [List.getD_eq_getElem?_getD, List.getD_eq_getElem?_getD, List.getElem?_eq_getElem h1, List.getElem?_eq_getElem h2] at this
  exact this
theorem byte_eq {a b : UInt8} (h : ((a.toNat : Nat) : Int) = ((b.toNat : Nat) : Int)) : a = b := UInt8.toNat_inj.1 (by omega)
theorem entEq {a b : EntM} (h : a.name = b.name ∧ a.id = b.id) : a = b := by cases a; cases b; simp_all
theorem nodeEq {n m : NodeM} (h1 : n.id = m.id) (h2 : n.kind = m.kind) (h3 : n.mode = m.mode) (h4 : n.uid = m.uid) (h5 : n.gid = m.gid) (h6 : n.sec = m.sec ∧ n.nano = m.nano) (h7 : n.target = m.target) (h8 : n.data = m.data) (h9 : n.ents = m.ents) : n = m := by
  cases n; cases m; simp_all
end Go.Proofs.Ytjpdcppdoonmdaa
