/-
  PROVED HERE: contracts of container/heap's Push and Pop at a *slots.free.
  CONDITIONS: as the theorems say: the pointer's cell holds a slice that owns its row; the numbers are a heap of different numbers; at most 1048576 of them.
-/
import Derived.Test.YtejnhhpjlajngaaDown
namespace Go.Proofs.Ytejnhhpjlajngaa
open Go.RowKit HeapM

set_option maxHeartbeats 1000000 in
theorem free_swap_same (g n c i : Nat) (x : Int) (w : World) (hi : i < n) (ci : w.cell? ⟨g, i, none⟩ = some (.int .i64 x)) (fi : w.frozen? ⟨g, i, none⟩ = false) :
    Calls Try.prog 87 #[.slice (some ⟨g, 0, none⟩) n c, .int .i64 i, .int .i64 i] w fun e w' => e = .returned (.tuple #[]) ∧ ∃ m, w' = ((w.setCell ⟨g, i, none⟩ (.int .i64 x)).setCell ⟨g, i, none⟩ (.int .i64 x)).drewN m := by
  have hi' : (i : Int) < (n : Int) := by omega
  go_enter Try.func87, Try.ntmps87
  go_wp2_with fail
  go_region
  go_end0
  exact ⟨rfl, 1, rfl⟩

theorem free_swap_ends (t o g c base n : Nat) (l : List Int) (hl : l.length = n + 1) (j : Int) (hj : j = (n : Int)) (w : World) (h : HW t o g c base l w) :
    Calls Try.prog 87 #[.slice (some ⟨g, 0, none⟩) (n + 1) c, .int .i64 0, .int .i64 j] w fun e w' => e = .returned (.tuple #[]) ∧ HW t o g c base (swp l 0 n) w' ∧ Keeps (· = g) w w' := by
  subst hj
  by_cases h0 : n = 0
  · subst h0
    have := free_swap_same g 1 c 0 (at_ l 0) w (by omega) (h.at (by omega)) (h.own.frozenAt 0)
    refine this.mono fun e w' ⟨he, m, hw⟩ => ⟨he, ?_, ?_⟩
    · rw [hw]; exact (h.swap 0 0).drewN m
    · rw [hw]; exact (((Keeps.refl (· = g) w).setCell (p := ⟨g, 0, none⟩) (.inr rfl) _).setCell (p := ⟨g, 0, none⟩) (.inr rfl) _).drewN m
  · have := free_swap_i t o g c base l 0 n 0 n rfl rfl w h (by omega) (by omega) (by omega)
    rw [hl] at this
    exact this

theorem HW.pop {t o g c base n : Nat} {l : List Int} {w : World} (h : HW t o g c base l w) (hl : l.length = n + 1) : w.ownsRow base 3 1 (.slice (some ⟨g, 0, none⟩) n c) n (ints (l.take n)) := by
  have e : ints l = ints (l.take n) ++ ints (l.drop n) := by simp only [ints, ← List.map_append, List.take_append_drop]
  have h1 := h.own
  rw [e, hl] at h1
  exact ownsRow_pop (by simp [ints]; omega) h1
theorem HW.cap {t o g c base : Nat} {l : List Int} {w : World} (h : HW t o g c base l w) : l.length ≤ c := by
  rcases h.own.2 with ⟨e, _⟩ | ⟨g', cap, cur, e, _, _, r, _⟩
  · injection e with e; cases e
  · injection e with e1 e2 e3
    omega

set_option maxRecDepth 100000 in
set_option maxHeartbeats 2000000 in
theorem heap_pop (t o g c base n : Nat) (l : List Int) (w : World) (h : HW t o g c base l w) (hl : l.length = n + 1) (hp : Hp (n + 1) l) (hi : Inj l) (hm : n + 1 ≤ 1048576) (hf : w.frozen? ⟨t, o, none⟩ = false) :
    Calls Try.prog 30 #[.iface 66 (.pointer (some ⟨t, o, none⟩))] w fun e w' => e = .returned (.iface 3 (.int .i64 (at_ l 0))) ∧
      ∃ l' w1, l'.length = n ∧ Hp n l' ∧ Inj l' ∧ (∀ x, x ∈ l' ↔ x ∈ l ∧ x ≠ at_ l 0) ∧ w1.ownsRow base 3 1 (.slice (some ⟨g, 0, none⟩) n c) n (ints l') ∧ Keeps (· = g) w w1 ∧
        w' = w1.setCell ⟨t, o, none⟩ (.slice (some ⟨g, 0, none⟩) n c) := by
  have L := looks ⟨t, o, none⟩ (.slice (some ⟨g, 0, none⟩) l.length c)
  have nn := n_len ⟨t, o, none⟩
  have ns := n_swap ⟨t, o, none⟩
  have np := n_pop ⟨t, o, none⟩
  have mp := m_pop ⟨t, o, none⟩
  have LN := L.len w h.cell
  have LS := L.swap w h.cell
  have HL := Lib.hid hl
  rw [hl] at LN LS
  clear hl
  go_enter Try.func30, Try.ntmps30
  go_wp2_with fail
  refine (free_len _ _ _ _).mono ?_
  rintro e w0 ⟨rfl, rfl⟩
  go_wp2_with fail
  refine (free_swap_ends t o g c base n l HL.out _ (by omega) _ h).mono ?_
  rintro e w1 ⟨rfl, hw1, hk1⟩
  go_wp2_with fail
  have hd := heap_down t o g c base n (swp l 0 n) w1 hw1 (by rw [len_swp, HL.out]; omega) (down_begin hp HL.out) (by rw [len_swp, HL.out]; exact hm)
  refine (hd.mono ?_)
  rintro e w2 ⟨⟨bb, rfl⟩, l', hs, hp', hfar, hw2, hk2⟩
  clear hd
  have hlen : l'.length = n + 1 := by rw [hs.len, len_swp, HL.out]
  have hcell := hw2.cell
  rw [hlen] at hcell
  have hcap := hw2.cap
  have htlt := h.lt
  have hf2 : w2.frozen? ⟨t, o, none⟩ = false := by
    rw [(hk1.trans hk2).frozen (p := ⟨t, o, none⟩) htlt h.ne]
    exact hf
  have hlast : at_ l' n = at_ l 0 := by
    rw [hfar n (Nat.le_refl _), at_swp (by rw [HL.out]; omega) (by rw [HL.out]; omega)]
    simp [sw]
  have hx := hw2.at (k := n) (by omega)
  rw [hlast] at hx
  have HLen := Lib.hid hlen
  have HLast := Lib.hid hlast
  clear hlen hlast
  go_wp2_with fail
  refine (free_pop t o g n c (at_ l 0) w2 (by have := HLen.out; omega) hcell hf2 hx hm).mono ?_
  rintro e w3 ⟨rfl, rfl⟩
  go_wp2_with fail
  go_ret
  have sm := (Same.swp (l := l) (i := 0) (j := n) (by rw [HL.out]; omega) (by rw [HL.out]; omega)).trans hs
  refine ⟨rfl, l'.take n, w2, by simp [HLen.out], hp_take hp', inj_take (sm.inj hi), fun x => ?_, hw2.pop HLen.out, hk1.trans hk2, rfl⟩
  rw [pop_mem HLen.out (sm.inj hi), sm.mem, HLast.out]

theorem ints_append (l : List Int) (x : Int) : ints l ++ [.int .i64 x] = ints (l ++ [x]) := by simp [ints]

set_option maxRecDepth 100000 in
set_option maxHeartbeats 2000000 in
theorem heap_push (t o base : Nat) (v : Value) (l : List Int) (x : Int) (w : World) (ht : w.cell? ⟨t, o, none⟩ = some v) (hf : w.frozen? ⟨t, o, none⟩ = false) (hown : w.ownsRow base 3 1 v l.length (ints l))
    (hne : v.ownBlock ≠ some t) (hm : l.length + 1 ≤ 1048576) (hbase : base ≤ w.heap.size) (hp : Hp l.length l) (htl : t < w.heap.size) :
    Calls Try.prog 32 #[.iface 66 (.pointer (some ⟨t, o, none⟩)), .iface 3 (.int .i64 x)] w fun e w' => e = .returned (.tuple #[]) ∧
      ∃ g c l', Same (l ++ [x]) l' ∧ Hp l'.length l' ∧ HW t o g c base l' w' ∧ (v.ownBlock = some g ∨ w.heap.size ≤ g) ∧
        ∃ w1, Keeps (fun k => v.ownBlock = some k) w w1 ∧ Keeps (· = g) (w1.setCell ⟨t, o, none⟩ (.slice (some ⟨g, 0, none⟩) (l.length + 1) c)) w' := by
  have nn := n_len ⟨t, o, none⟩
  have np := n_push ⟨t, o, none⟩
  have mp := m_push ⟨t, o, none⟩
  go_enter Try.func32, Try.ntmps32
  go_wp2_with fail
  refine (free_push t o base l.length v (ints l) x w ht hf hown hne hm hbase).mono ?_
  rintro e w0 ⟨rfl, g, c, w1, hown1, hg1, hloc, rfl⟩
  have hk1 : Keeps (fun k => v.ownBlock = some k) w w1 := (Keeps.refl _ _).grown hg1 (fun k hk => .inr hk)
  have hgt : t ≠ g := by
    rintro rfl
    rcases hloc with h | h
    · exact hne h
    · omega
  have ht1 : w1.cell? ⟨t, o, none⟩ = some v := (hk1.cell (p := ⟨t, o, none⟩) htl hne).trans ht
  have HW1 : HW t o g c base (l ++ [x]) (w1.setCell ⟨t, o, none⟩ (.slice (some ⟨g, 0, none⟩) (l.length + 1) c)) := by
    refine ⟨?_, ?_, hgt, by simpa [World.setCell] using Nat.lt_of_lt_of_le htl hk1.size⟩
    · rw [World.cell?_setCell_same _ _ _ ht1]; simp
    · rw [List.length_append, List.length_singleton, ← ints_append]
      refine Keeps.ownsRow (S := (· = t)) ((Keeps.refl (· = t) w1).setCell (p := ⟨t, o, none⟩) (.inr rfl) _) hown1 ?_
      intro k hk e
      simp [Value.ownBlock] at hk
      omega
  have hc := HW1.cell
  rw [List.length_append, List.length_singleton] at hc
  generalize hW : w1.setCell ⟨t, o, none⟩ (.slice (some ⟨g, 0, none⟩) (l.length + 1) c) = w2 at *
  have LN := (looks ⟨t, o, none⟩ (.slice (some ⟨g, 0, none⟩) (l.length + 1) c)).len w2 hc
  have HWe := Lib.hid hW
  clear hW ht1 hown1 hown hg1
  go_wp2_with fail
  refine (free_len _ _ _ _).mono ?_
  rintro e w3 ⟨rfl, rfl⟩
  go_wp2_with fail
  have hu := heap_up t o g c base (l ++ [x]) l.length w3 HW1 (by simp) (up_begin hp x) (by simpa using hm)
  refine hu.mono ?_
  rintro e w4 ⟨rfl, l', hs, hp', hw4, hk4⟩
  go_wp2_with fail
  go_end0
  exact ⟨rfl, g, c, l', hs, hp', hw4, hloc, w1, hk1, by rw [HWe.out]; exact hk4⟩
end Go.Proofs.Ytejnhhpjlajngaa
