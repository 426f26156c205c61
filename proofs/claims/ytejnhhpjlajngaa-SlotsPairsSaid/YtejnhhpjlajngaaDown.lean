/-
  PROVED HERE: contracts of container/heap's down, Push and Pop at a *slots.free.
  CONDITIONS: as the theorems say: the pointer's cell holds a slice that owns its row; the numbers are a heap; at most 1048576 of them.
-/
import Derived.Test.YtejnhhpjlajngaaUp
namespace Go.Proofs.Ytejnhhpjlajngaa
open Go.RowKit HeapM

theorem at_far {l : List Int} {i j n k : Nat} (hi : i < l.length) (hj : j < l.length) (hin : i < n) (hjn : j < n) (hk : n ≤ k) : at_ (swp l i j) k = at_ l k := by
  rw [at_swp hi hj]; unfold sw; rw [if_neg (by omega), if_neg (by omega)]

set_option maxRecDepth 100000 in
set_option maxHeartbeats 4000000 in
theorem heap_down (t o g c base n : Nat) (l : List Int) (w : World) (h : HW t o g c base l w) (hn : n ≤ l.length) (hd : DownAt n l 0) (hm : l.length ≤ 1048576) :
    Calls Try.prog 35 #[.iface 66 (.pointer (some ⟨t, o, none⟩)), .int .i64 0, .int .i64 n] w fun e w' => (∃ b, e = .returned (.bool b)) ∧
      ∃ l', Same l l' ∧ Hp n l' ∧ (∀ k, n ≤ k → at_ l' k = at_ l k) ∧ HW t o g c base l' w' ∧ Keeps (· = g) w w' := by
  have L := looks ⟨t, o, none⟩ (.slice (some ⟨g, 0, none⟩) l.length c)
  have nl := n_less ⟨t, o, none⟩
  have ns := n_swap ⟨t, o, none⟩
  go_enter Try.func35, Try.ntmps35
  go_wp2_with fail
  go_loopw [7] (fun v wr => ∃ (i : Nat) (l' : List Int), v = .int .i64 i ∧ i ≤ n ∧ Same l l' ∧ DownAt n l' i ∧ Hid (∀ k, n ≤ k → at_ l' k = at_ l k) ∧ HW t o g c base l' wr ∧ Keeps (· = g) w wr) (fun v _ => n - (intOf v).toNat)
  case atStart => exact ⟨0, l, rfl, Nat.zero_le _, Same.refl l, hd, Lib.hid (fun _ _ => rfl), h, Keeps.refl _ _⟩
  case round =>
    obtain ⟨i, l', rfl, hin, hs, hd', hfar, hw, hk⟩ := hrel
    have hc := hw.cell
    rw [hs.len] at hc
    have HL := Lib.hid hs.len
    have hn1 : n ≤ 1048576 := by omega
    have hnl : n ≤ l'.length := by rw [HL.out]; exact hn
    have HD := Lib.hid hd'
    clear hd'
    by_cases h1 : 2 * i + 1 < n
    · have h1a : (2 * (i : Int) + 1) < (n : Int) := by omega
      by_cases h2 : 2 * i + 2 < n
      · have h2a : (2 * (i : Int) + 1 + 1) < (n : Int) := by omega
        have LL := L.less wr hc
        go_wp2_with fail
        refine (free_less_i g l.length c (2 * i + 2) (2 * i + 1) _ _ (by omega) (by omega) (at_ l' (2 * i + 2)) (at_ l' (2 * i + 1)) _ (by omega) (by omega) (hw.at (by omega)) (hw.at (by omega))).mono ?_
        rintro e w1 ⟨rfl, m, rfl⟩
        have hw1 := hw.drewN m
        have hk1 := hk.drewN m
        have LL := L.less (wr.drewN m) hc
        clear hw hk
        by_cases h3 : at_ l' (2 * i + 2) < at_ l' (2 * i + 1)
        · go_wp2_with fail
          refine (free_less_i g l.length c (2 * i + 2) i _ _ (by omega) (by omega) (at_ l' (2 * i + 2)) (at_ l' i) _ (by omega) (by omega) (hw1.at (by omega)) (hw1.at (by omega))).mono ?_
          rintro e w2 ⟨rfl, m2, rfl⟩
          have hw2 := hw1.drewN m2
          have hk2 := hk1.drewN m2
          rw [World.drewN_drewN] at hw2 hk2
          by_cases h4 : at_ l' (2 * i + 2) < at_ l' i
          · have LS := L.swap _ (hw2.cell.trans (by rw [HL.out]))
            go_wp2_with fail
            have sw := free_swap_i t o g c base l' i (2 * i + 2)
            rw [hs.len] at sw
            refine (sw _ _ rfl (by omega) _ hw2 (by omega) (by omega) (by omega)).mono ?_
            rintro e w3 ⟨rfl, hw3, hk3⟩
            clear sw
            go_wp2_with fail
            go_roundw
            case rel => exact ⟨2 * i + 2, _, by go_num, by omega, hs.trans (Same.swp (by omega) (by omega)), down_step HD.out (by omega) (by omega) hnl (by omega) (fun _ => by omega) h4, Lib.hid (fun k hk => (at_far (by omega) (by omega) (by omega) (by omega) hk).trans (hfar.out k hk)), hw3, hk2.trans hk3⟩
            case measure => simp [intOf]; omega
          · have h4a : decide (at_ l' (2 * i + 2) < at_ l' i) = false := by simpa using h4
            go_wp2_with fail
            go_ret
            exact ⟨⟨_, rfl⟩, l', hs, down_end HD.out (fun _ => by omega) (fun _ => by omega), hfar.out, hw2, hk2⟩
        · have h3a : decide (at_ l' (2 * i + 2) < at_ l' (2 * i + 1)) = false := by simpa using h3
          go_wp2_with fail
          refine (free_less_i g l.length c (2 * i + 1) i _ _ (by omega) (by omega) (at_ l' (2 * i + 1)) (at_ l' i) _ (by omega) (by omega) (hw1.at (by omega)) (hw1.at (by omega))).mono ?_
          rintro e w2 ⟨rfl, m2, rfl⟩
          have hw2 := hw1.drewN m2
          have hk2 := hk1.drewN m2
          rw [World.drewN_drewN] at hw2 hk2
          by_cases h4 : at_ l' (2 * i + 1) < at_ l' i
          · have LS := L.swap _ (hw2.cell.trans (by rw [HL.out]))
            go_wp2_with fail
            have sw := free_swap_i t o g c base l' i (2 * i + 1)
            rw [hs.len] at sw
            refine (sw _ _ rfl (by omega) _ hw2 (by omega) (by omega) (by omega)).mono ?_
            rintro e w3 ⟨rfl, hw3, hk3⟩
            clear sw
            go_wp2_with fail
            go_roundw
            case rel => exact ⟨2 * i + 1, _, by go_num, by omega, hs.trans (Same.swp (by omega) (by omega)), down_step HD.out (by omega) (by omega) hnl (by omega) (fun _ => by omega) h4, Lib.hid (fun k hk => (at_far (by omega) (by omega) (by omega) (by omega) hk).trans (hfar.out k hk)), hw3, hk2.trans hk3⟩
            case measure => simp [intOf]; omega
          · have h4a : decide (at_ l' (2 * i + 1) < at_ l' i) = false := by simpa using h4
            go_wp2_with fail
            go_ret
            exact ⟨⟨_, rfl⟩, l', hs, down_end HD.out (fun _ => by omega) (fun _ => by omega), hfar.out, hw2, hk2⟩
      · have h2a : decide ((2 * (i : Int) + 1 + 1) < (n : Int)) = false := by simp; omega
        have hw1 := hw
        have hk1 := hk
        have LL := L.less wr hc
        clear hw hk
        go_wp2_with fail
        refine (free_less_i g l.length c (2 * i + 1) i _ _ (by omega) (by omega) (at_ l' (2 * i + 1)) (at_ l' i) _ (by omega) (by omega) (hw1.at (by omega)) (hw1.at (by omega))).mono ?_
        rintro e w2 ⟨rfl, m2, rfl⟩
        have hw2 := hw1.drewN m2
        have hk2 := hk1.drewN m2
        by_cases h4 : at_ l' (2 * i + 1) < at_ l' i
        · have LS := L.swap _ (hw2.cell.trans (by rw [HL.out]))
          go_wp2_with fail
          have sw := free_swap_i t o g c base l' i (2 * i + 1)
          rw [hs.len] at sw
          refine (sw _ _ rfl (by omega) _ hw2 (by omega) (by omega) (by omega)).mono ?_
          rintro e w3 ⟨rfl, hw3, hk3⟩
          clear sw
          go_wp2_with fail
          go_roundw
          case rel => exact ⟨2 * i + 1, _, by go_num, by omega, hs.trans (Same.swp (by omega) (by omega)), down_step HD.out (by omega) (by omega) hnl (by omega) (fun _ => by omega) h4, Lib.hid (fun k hk => (at_far (by omega) (by omega) (by omega) (by omega) hk).trans (hfar.out k hk)), hw3, hk2.trans hk3⟩
          case measure => simp [intOf]; omega
        · have h4a : decide (at_ l' (2 * i + 1) < at_ l' i) = false := by simpa using h4
          go_wp2_with fail
          go_ret
          exact ⟨⟨_, rfl⟩, l', hs, down_end HD.out (fun _ => by omega) (fun _ => by omega), hfar.out, hw2, hk2⟩
    · have h1a : ((n : Int) ≤ 2 * (i : Int) + 1) := by omega
      go_wp2_with fail
      go_ret
      exact ⟨⟨_, rfl⟩, l', hs, down_end HD.out (fun h => absurd h h1) (fun h => absurd h (by omega)), hfar.out, hw, hk⟩


end Go.Proofs.Ytejnhhpjlajngaa
