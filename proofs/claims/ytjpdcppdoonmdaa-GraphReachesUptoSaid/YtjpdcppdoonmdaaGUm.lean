/-
  PROVED HERE: lists of numbers in memory; bounds of what Under answers.
  CONDITIONS: none.
-/
import Derived.Test.YtjpdcppdoonmdaaGUnder
namespace Go.Proofs.Ytjpdcppdoonmdaa
open Go.RowKit Go.Maps
def natsV (l : List Nat) : List Value := l.map fun k => .int .i64 ((k : Nat) : Int)
theorem natsV_snoc (l : List Nat) (k : Nat) : natsV (l ++ [k]) = natsV l ++ [.int .i64 ((k : Nat) : Int)] := by simp [natsV]
theorem intsV_snoc (l : List Int) (k : Int) : intsV (l ++ [k]) = intsV l ++ [.int .i64 k] := by simp [intsV]
theorem natsV_top {work rest : List Nat} {x : Nat} (hw : work = x :: rest) : (natsV work.reverse)[(work.length - 1) * 1 + 0]? = some (.int .i64 ((x : Nat) : Int)) := by
  subst hw
  rw [List.reverse_cons, natsV_snoc, List.getElem?_append_right (by simp [natsV])]
  simp [natsV]
theorem natsV_cut {work rest : List Nat} {x : Nat} (hw : work = x :: rest) : (natsV work.reverse).take (rest.length * 1) = natsV rest.reverse := by
  subst hw
  rw [List.reverse_cons, natsV_snoc, List.take_append_of_le_length (by simp [natsV]), List.take_of_length_le (by simp [natsV])]
section ints
variable {β : Bs} {A : Option Addr} {l : List Int}
theorem IntsAt.get (h : RowB β A (intsV l)) {j : Nat} (hj : j < l.length) : A = some ⟨blkOf A, offOf A, none⟩ ∧ Rd β ⟨blkOf A, offOf A + j * 1, none⟩ (.int .i64 (l.getD j 0)) := by
  have := h j _ (intsV_get hj)
  rw [Nat.mul_one]
  exact this
theorem IntsAt.hd (h : RowB β A (intsV l)) {j : Nat} (hj : j < l.length) : A = some ⟨blkOf A, offOf A, none⟩ := (IntsAt.get h hj).1
theorem IntsAt.rd (h : RowB β A (intsV l)) {j : Nat} (hj : j < l.length) : Rd β ⟨blkOf A, offOf A + j * 1, none⟩ (.int .i64 (l.getD j 0)) := (IntsAt.get h hj).2
end ints
theorem underG_len (ns : List NodeM) (root : Int) : (underG ns root).1.length ≤ ns.length := by
  classical
  by_cases h : beginC ns root = 0
  · rw [underG_ok h]
    show (underL ns (tgt ns root)).length ≤ _
    unfold underL
    rw [List.length_map]
    exact Nat.le_trans (List.length_filter_le _ _) (by simp)
  · rw [underG_bad h]; exact Nat.zero_le _
end Go.Proofs.Ytjpdcppdoonmdaa
