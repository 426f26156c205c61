/-
  PROVED HERE: cut hands back at most 1500 records.
  CONDITIONS: as the theorem says. Printed by a program of this repo (wip/v/cut.py).
-/
import Derived.Test.YtejnhhpjlajngaaSpB
namespace Go.Proofs.Ytejnhhpjlajngaa
open Go.RowKit HeapM TabM Go.Maps
set_option maxRecDepth 100000 in
theorem sp_cut2 {β : Bs} (A : Option Addr) (n c : Nat) (hc : n ≤ c) (hA : 0 < n → ∃ g o, A = some ⟨g, o, none⟩) : Spec Try.prog β 11 #[.slice A n c] [] (fun v l => v = .slice A (min n 1500) c ∧ l = []) := by
  refine Spec.enter Try.func11 rfl Try.ntmps11 (Nat.le_of_ble_eq_true rfl) (fun R => ?_)
  refine Tri.seq ?_
  refine Tri.region ?_
  refine TriL.seg (k' := 1) (fr' := [(0, .slice A (n) (c))]) (hps' := [.abs R]) (obl := []) [{}] [0] [0] (fun _ _ => by kernel_rfl) trivial ?_
  refine TriL.nil (by kernel_rfl) ?_
  refine TriQ.next ?_
  refine Tri.seq ?_
  refine Tri.seq ?_
  refine Tri.region ?_
  refine TriL.seg (k' := 3) (fr' := [(0, .slice A (n) (c)), (5, .bool (decide ((((n : Nat) : Int) : Int) > (1500 : Int))))]) (hps' := [.abs R]) (obl := []) [{}, {}, {}] [0, 5] [0] (fun _ _ => by kernel_rfl) trivial ?_
  refine TriL.nil (by kernel_rfl) ?_
  refine TriQ.next ?_
  refine Tri.condP (p := (((n : Nat) : Int) : Int) > (1500 : Int)) (fun _ => by kernel_rfl) (fun h5 => ?_) (fun h5 => ?_)
  · refine Tri.seq ?_
    refine Tri.region ?_
    obtain ⟨g, o, rfl⟩ := hA (by omega)
    refine TriL.seg (k' := 3) (fr' := [(2, .slice (some ⟨g, o, none⟩) (1500) (c))]) (hps' := [.abs R]) (obl := [1500 = ((1500 : Nat) : Int), 1500 ≤ c]) [{}, { num := some (1500) }, {}] [2] [0] (fun _ _ => by kernel_rfl) ⟨rfl, by omega, trivial⟩ ?_
    refine TriL.nil (by kernel_rfl) ?_
    refine TriQ.next ?_
    refine Tri.ret ?_
    refine TriQ.passRet ?_
    exact TriQ.ret (v := .slice (some ⟨g, o, none⟩) (1500) (c)) (l := []) (obl := []) [] [0] (fun _ => by kernel_rfl) trivial rfl (by kernel_rfl) (⟨by rw [Nat.min_eq_right (by omega)], rfl⟩)
  · refine Tri.skip ?_
    refine TriQ.next ?_
    refine Tri.seq ?_
    refine Tri.region ?_
    refine TriL.seg (k' := 2) (fr' := [(2, .slice A (n) (c))]) (hps' := [.abs R]) (obl := []) [{}, {}] [2] [0] (fun _ _ => by kernel_rfl) trivial ?_
    refine TriL.nil (by kernel_rfl) ?_
    refine TriQ.next ?_
    refine Tri.ret ?_
    exact TriQ.ret (v := .slice A (n) (c)) (l := []) (obl := []) [] [0] (fun _ => by kernel_rfl) trivial rfl (by kernel_rfl) (⟨by rw [Nat.min_eq_left (by omega)], rfl⟩)
end Go.Proofs.Ytejnhhpjlajngaa
