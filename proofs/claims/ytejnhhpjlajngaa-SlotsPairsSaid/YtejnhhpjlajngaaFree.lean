/-
  PROVED HERE: contracts of slots.free's methods Len, Less, Swap, Push, Pop, and how a call through heap.Interface on a *free finds them.
  CONDITIONS: as the theorems say.
-/
import Derived.Test.YtejnhhpjlajngaaBase
import Derived.RegionTactic
import Derived.Deep.QuietTactic
import Derived.BigQuiet
import Derived.BigRegion
import Derived.StillTailTactics
import Derived.WalkSpells
import Derived.Outline
import Derived.Deep.AppendLies
import Derived.Deep.RegionLaw
namespace Go.Proofs.Ytejnhhpjlajngaa
open Go.RowKit

/-! ### the methods behind heap.Interface at a *free -/
theorem m_len (a : Addr) (v : Value) (w : World) (h : w.cell? a = some v) : (Go.method 227 66 (.pointer (some a)) "Len").run Try.prog w = .ok (85, v) w := by
  have e : (Go.method 227 66 (.pointer (some a)) "Len").run Try.prog w = ((loadVar 58 a) >>= fun v => pure (85, v) : Sem (FuncId × Value)).run Try.prog w := by kernel_rfl
  rw [e]
  simp [loadVar, isAgg, underlying, Try.underlying58, h, Result.andThen]
theorem m_less (a : Addr) (v : Value) (w : World) (h : w.cell? a = some v) : (Go.method 227 66 (.pointer (some a)) "Less").run Try.prog w = .ok (86, v) w := by
  have e : (Go.method 227 66 (.pointer (some a)) "Less").run Try.prog w = ((loadVar 58 a) >>= fun v => pure (86, v) : Sem (FuncId × Value)).run Try.prog w := by kernel_rfl
  rw [e]
  simp [loadVar, isAgg, underlying, Try.underlying58, h, Result.andThen]
theorem m_swap (a : Addr) (v : Value) (w : World) (h : w.cell? a = some v) : (Go.method 227 66 (.pointer (some a)) "Swap").run Try.prog w = .ok (87, v) w := by
  have e : (Go.method 227 66 (.pointer (some a)) "Swap").run Try.prog w = ((loadVar 58 a) >>= fun v => pure (87, v) : Sem (FuncId × Value)).run Try.prog w := by kernel_rfl
  rw [e]
  simp [loadVar, isAgg, underlying, Try.underlying58, h, Result.andThen]
theorem m_push (a : Addr) (w : World) : (Go.method 227 66 (.pointer (some a)) "Push").run Try.prog w = .ok (89, .pointer (some a)) w := by kernel_rfl
theorem m_pop (a : Addr) (w : World) : (Go.method 227 66 (.pointer (some a)) "Pop").run Try.prog w = .ok (88, .pointer (some a)) w := by kernel_rfl
theorem n_len (a : Addr) (w : World) : (Go.nilAhead 227 66 (.pointer (some a)) "Len").run Try.prog w = .ok (some false) w := by kernel_rfl
theorem n_less (a : Addr) (w : World) : (Go.nilAhead 227 66 (.pointer (some a)) "Less").run Try.prog w = .ok (some false) w := by kernel_rfl
theorem n_swap (a : Addr) (w : World) : (Go.nilAhead 227 66 (.pointer (some a)) "Swap").run Try.prog w = .ok (some false) w := by kernel_rfl
theorem n_push (a : Addr) (w : World) : (Go.nilAhead 227 66 (.pointer (some a)) "Push").run Try.prog w = .ok (some false) w := by kernel_rfl
theorem n_pop (a : Addr) (w : World) : (Go.nilAhead 227 66 (.pointer (some a)) "Pop").run Try.prog w = .ok (some false) w := by kernel_rfl

/-! ### the methods -/
theorem free_len (A : Option Addr) (n c : Nat) (w : World) :
    Calls Try.prog 85 #[.slice A n c] w fun e w' => e = .returned (.int .i64 n) ∧ w' = w := by
  go_enter Try.func85, Try.ntmps85
  go_wp2
  go_ret
  exact ⟨rfl, rfl⟩

theorem free_less (g n c i j : Nat) (x y : Int) (w : World) (hi : i < n) (hj : j < n) (ci : w.cell? ⟨g, i, none⟩ = some (.int .i64 x)) (cj : w.cell? ⟨g, j, none⟩ = some (.int .i64 y)) :
    Calls Try.prog 86 #[.slice (some ⟨g, 0, none⟩) n c, .int .i64 i, .int .i64 j] w fun e w' => e = .returned (.bool (decide (x < y))) ∧ ∃ m, w' = w.drewN m := by
  have hi' : (i : Int) < (n : Int) := by omega
  have hj' : (j : Int) < (n : Int) := by omega
  go_enter Try.func86, Try.ntmps86
  go_wp2_with fail
  go_quiet (fail)
  go_wp2_with fail
  go_ret
  exact ⟨rfl, _, rfl⟩

set_option maxHeartbeats 1000000 in
theorem free_swap (g n c i j : Nat) (x y : Int) (w : World) (hi : i < n) (hj : j < n) (hij : i ≠ j) (ci : w.cell? ⟨g, i, none⟩ = some (.int .i64 x)) (cj : w.cell? ⟨g, j, none⟩ = some (.int .i64 y))
    (fi : w.frozen? ⟨g, i, none⟩ = false) (fj : w.frozen? ⟨g, j, none⟩ = false) :
    Calls Try.prog 87 #[.slice (some ⟨g, 0, none⟩) n c, .int .i64 i, .int .i64 j] w fun e w' => e = .returned (.tuple #[]) ∧ ∃ m, w' = ((w.setCell ⟨g, i, none⟩ (.int .i64 y)).setCell ⟨g, j, none⟩ (.int .i64 x)).drewN m := by
  have hi' : (i : Int) < (n : Int) := by omega
  have hj' : (j : Int) < (n : Int) := by omega
  go_enter Try.func87, Try.ntmps87
  go_wp2_with fail
  go_region
  go_end0
  exact ⟨rfl, 1, rfl⟩

theorem int_info : (Try.prog.info? 3).map (fun i => (i.zero, i.size, i.bytes)) = some (some (.int .i64 0), 1, 8) := by kernel_rfl

/-- Pop: the last number, and the slice without it -/
theorem free_pop (t o g n c : Nat) (x : Int) (w : World) (hc : n + 1 ≤ c) (ht : w.cell? ⟨t, o, none⟩ = some (.slice (some ⟨g, 0, none⟩) (n + 1) c)) (hf : w.frozen? ⟨t, o, none⟩ = false)
    (hx : w.cell? ⟨g, n, none⟩ = some (.int .i64 x)) (hm : n + 1 ≤ 1048576) :
    Calls Try.prog 88 #[.pointer (some ⟨t, o, none⟩)] w fun e w' => e = .returned (.iface 3 (.int .i64 x)) ∧ w' = w.setCell ⟨t, o, none⟩ (.slice (some ⟨g, 0, none⟩) n c) := by
  go_enter Try.func88, Try.ntmps88
  go_wp2_with fail
  go_ret
  exact ⟨rfl, rfl⟩

theorem assert_int (x : Int) (w : World) : (Instr.typeAssert (.iface 3 (.int .i64 x)) 20 3 false).run Try.prog w = .ok (.int .i64 x) w := by kernel_rfl
theorem assert_int_ok (x : Int) (w : World) : (Instr.typeAssert (.iface 3 (.int .i64 x)) 20 3 true).run Try.prog w = .ok (.tuple #[.int .i64 x, .bool true]) w := by kernel_rfl
theorem oneCell_int (x : Int) : ∀ u ∈ [Value.int .i64 x], u.oneCell' = true := by intro u hu; simp at hu; subst hu; rfl

theorem push_cell {t o : Nat} {v : Value} {w w1 : World} {ob : Obj} (ht : w.cell? ⟨t, o, none⟩ = some v) (hlt : t < w.heap.size) {row : Option Nat} (hne : row ≠ some t) (hg : (w.alloc ob).drew.grownBy w1 row) : w1.cell? ⟨t, o, none⟩ = some v := by
  rw [hg.cell_far ⟨t, o, none⟩ (by show t < (w.alloc ob).heap.size; simp; omega) (fun e => hne e.symm)]
  exact (World.cell?_alloc_lt w ob ⟨t, o, none⟩ hlt).trans ht
theorem push_free {t o : Nat} {w w1 : World} {ob : Obj} (hf : w.frozen? ⟨t, o, none⟩ = false) (hlt : t < w.heap.size) {row : Option Nat} (hne : row ≠ some t) (hg : (w.alloc ob).drew.grownBy w1 row) : w1.frozen? ⟨t, o, none⟩ = false := by
  rw [hg.frozen_far ⟨t, o, none⟩ (by show t < (w.alloc ob).heap.size; simp; omega) (fun e => hne e.symm)]
  exact (World.frozen?_alloc_old w ob ⟨t, o, none⟩ (Nat.ne_of_lt hlt)).trans hf

set_option maxHeartbeats 1000000 in
/-- Push: the number behind the others -/
theorem free_push (t o base n : Nat) (v : Value) (xs : List Value) (x : Int) (w : World) (ht : w.cell? ⟨t, o, none⟩ = some v) (hf : w.frozen? ⟨t, o, none⟩ = false)
    (hown : w.ownsRow base 3 1 v n xs) (hne : v.ownBlock ≠ some t) (hm : n + 1 ≤ 1048576) (hbase : base ≤ w.heap.size) :
    Calls Try.prog 89 #[.pointer (some ⟨t, o, none⟩), .iface 3 (.int .i64 x)] w fun e w' => e = .returned (.tuple #[]) ∧
      ∃ g cap w1, w1.ownsRow base 3 1 (.slice (some ⟨g, 0, none⟩) (n + 1) cap) (n + 1) (xs ++ [.int .i64 x]) ∧ w.grownBy w1 v.ownBlock ∧ (v.ownBlock = some g ∨ w.heap.size ≤ g) ∧
        w' = w1.setCell ⟨t, o, none⟩ (.slice (some ⟨g, 0, none⟩) (n + 1) cap) := by
  obtain ⟨i0, hi0, hz0, hz1, hz2⟩ := info_parts int_info
  have hlt : t < w.heap.size := by
    rcases Nat.lt_or_ge t w.heap.size with h | h
    · exact h
    · simp [World.cell?, Array.getElem?_eq_none h] at ht
  have hta := assert_int
  go_enter Try.func89, Try.ntmps89
  go_wp2_with fail
  go_region_law (refine step_append_lies _ rfl (.tmp 7) (.tmp 10) 58 rfl base 3 i0 (.int .i64 0) 1 8 Try.underlying58 hi0 hz0 hz1 hz2 rfl (by decide) v n xs (by simp [Act.eval]) (hown.alloc _) ⟨w.heap.size, 0, none⟩ 1 1 [.int .i64 x] (by simp [Act.eval]) rfl (cell_one_new _ _ _) (oneCell_int x) (by decide) (by unfold maxLen; omega) (by omega) (by simp; omega) (w.heap.size + 1) (by simp) ?_; intro g cap w1 hown1 hg1 hloc hlt1; have c1 : w1.cell? ⟨t, o, none⟩ = some v := push_cell ht hlt hne hg1; have f1 : w1.frozen? ⟨t, o, none⟩ = false := push_free hf hlt hne hg1)
  all_goals
    go_end0
    refine ⟨rfl, g, cap, w1, hown1, (World.grownBy_alloc w (.cells #[.int .i64 x] 3) _).trans ⟨hg1.os, hg1.tape, hg1.output, hg1.size, hg1.block⟩, ?_, rfl⟩
    rcases hloc with h | h
    · exact .inl h
    · exact .inr (by omega)
end Go.Proofs.Ytejnhhpjlajngaa
