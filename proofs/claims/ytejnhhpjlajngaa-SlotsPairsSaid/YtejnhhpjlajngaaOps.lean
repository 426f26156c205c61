/-
  PROVED HERE: a script of records of three integers, as the row hands it over, lies in memory as 'Scr' says.
  CONDITIONS: none.
-/
import Derived.Test.YtejnhhpjlajngaaRow
import Derived.Test.YtejnhhpjlajngaaStar
namespace Go.Proofs.Ytejnhhpjlajngaa
open Go.RowKit Go.WideShapes Go.ChangeShapes Go.ChangeAt Go.Deep
theorem cell_lt {w : World} {a : Addr} {v : Value} (h : w.cell? a = some v) : a.block < w.heap.size := by
  unfold World.cell? at h
  split at h
  · rename_i hb; exact lt_of_some hb
  · cases h
section ops
variable {H : Type} {enc : TypeId × Value → H} {W : World} {d : DataW H} {v : Value} {ps : List MemPlace}
set_option maxRecDepth 100000 in
theorem open_ops {fuel : Nat} {spare : Nat → Bool} (h : DataW.trod enc Try.prog W 0 spare true fuel 22 [v] = some (d, ps)) :
    ∃ A n c, v = .slice A n c ∧ n ≤ c ∧ Scr W W.heap.size A n := by
  rcases open_slice Try.underlying22 h with ⟨hv, _⟩ | ⟨a, len, cap, m, n, D, Pl, hcs, hb, hl, hm, hmm, hx, hi⟩
  · cases hv
    exact ⟨none, 0, 0, rfl, Nat.le_refl _, fun i hi => by omega⟩
  · cases hcs
    have hC : Try.prog.cellsOf 36 = 3 := by kernel_rfl
    have hlm : len ≤ m := by rw [hmm]; split <;> omega
    refine ⟨some a, len, cap, rfl, hl, fun i hil => ?_⟩
    obtain ⟨cs', hc, ht⟩ := hi i (by omega)
    rw [hC] at hc
    obtain ⟨_, hcl, hat⟩ := World.cells?_some hc
    obtain ⟨ys, n', _, hy, hlen, hyl, hf⟩ := DataW.trod_struct Try.underlying36 ht
    match cs', hcl with
    | [c0, c1, c2], _ =>
      obtain ⟨x, e0, _, w0⟩ := DataW.trod_int Try.underlying3 ((hf 0 _ rfl).trans (List.getElem?_eq_getElem (show 0 < ys.length by rw [hyl]; decide)))
      obtain ⟨y, e1, _, w1⟩ := DataW.trod_int Try.underlying3 ((hf 1 _ rfl).trans (List.getElem?_eq_getElem (show 1 < ys.length by rw [hyl]; decide)))
      obtain ⟨z, e2, _, w2⟩ := DataW.trod_int Try.underlying3 ((hf 2 _ rfl).trans (List.getElem?_eq_getElem (show 2 < ys.length by rw [hyl]; decide)))
      have q0 := hat 0 (by omega)
      have q1 := hat 1 (by omega)
      have q2 := hat 2 (by omega)
      cases e0
      cases e1
      cases e2
      have hb3 : (a.add (i * 3)).block < W.heap.size := cell_lt (v := .int .i64 x) (by simpa [Addr.add] using q0)
      have hb4 : a.block < W.heap.size := by
        have h0 : (a.add (i * 3)).block = a.block := by unfold Addr.add; split <;> rfl
        rwa [h0] at hb3
      exact ⟨a, x, y, z, rfl, hb4, by simpa [Addr.add] using q0, by simpa [Addr.add] using q1, by simpa [Addr.add] using q2, w0, w1, w2⟩
end ops
end Go.Proofs.Ytejnhhpjlajngaa
