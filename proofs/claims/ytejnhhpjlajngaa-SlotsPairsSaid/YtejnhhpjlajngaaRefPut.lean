/-
  PROVED HERE: the contract of the reference's Put (valiseref13.Table.Put).
  CONDITIONS: at most 1024 handles in use, by rising handle, from 1 on.
-/
import Derived.Test.YtejnhhpjlajngaaRefDrop
import Derived.Test.YtejnhhpjlajngaaTabMath2
import Derived.Deep.Cut
namespace Go.Proofs.Ytejnhhpjlajngaa
open Go.RowKit HeapM TabM Go.Maps

attribute [local go_sem ↓ 2000] builtin_appendW

theorem idx_mem {ks : List Int} {h : Int} (hm : h ∈ ks) : 0 ≤ idx ks h := by
  unfold idx
  cases e : ks.findIdx? (· == h) with
  | none => rw [List.findIdx?_eq_none_iff] at e; have := e h hm; simp at this
  | some i => simp
theorem idx_not {ks : List Int} {h : Int} (hm : h ∉ ks) : idx ks h = -1 :=
  idx_miss (fun j hj e => hm (by rw [← e]; exact mem_at.2 ⟨j, hj, rfl⟩))
theorem at_vals {us : Used Int} {i : Nat} (hi : i < us.length) : at_ (vals us) i = us[i].2 := by simp [at_, vals, List.getD_eq_getElem?_getD, hi]
theorem vals_snoc (us : Used Int) (p : Int × Int) : vals (us ++ [p]) = vals us ++ [p.2] := by simp [vals]
theorem vals_len (us : Used Int) : (vals us).length = us.length := by simp [vals]

set_option maxRecDepth 100000 in
set_option maxHeartbeats 2000000 in
theorem ref_put_full (most peak v : Int) (A : Option Addr) (c n : Nat) (vs : Value) (w : World) (hf : most ≤ n) (hn : n ≤ 1048576) (hv : ∃ A' n' c', vs = .slice A' n' c') :
    Calls Try.prog 13 #[.agg #[.int .i64 most, .int .i64 peak, .slice A n c, vs], .int .i64 v] w fun e w' =>
      e = .returned (.tuple #[.agg #[.int .i64 most, .int .i64 peak, .slice A n c, vs], .int .i64 0, .int .i64 130]) ∧ Below w.heap.size w w' := by
  obtain ⟨A', n', c', rfl⟩ := hv
  go_enter Try.func13, Try.ntmps13
  go_wp2_with fail
  refine bodyPost_ret (v := .tuple #[.agg #[.int .i64 most, .int .i64 peak, .slice A n c, .slice A' n' c'], .int .i64 0, .int .i64 130]) (by simp [results, Try.results13, go_sem]) rfl ⟨rfl, ?_⟩
  repeat (first | exact Below.refl _ _ | refine Below.alloc ?_ (by simp <;> omega) _ | refine Below.setCell ?_ (by simp) _)

set_option maxRecDepth 100000 in
set_option maxHeartbeats 8000000 in
theorem ref_put_ok (most peak v : Int) (A A' : Option Addr) (c c' : Nat) (us : Used Int) (w : World) (hr : RdI w w.heap.size A (keys us)) (hr' : RdI w w.heap.size A' (vals us))
    (hrise : Rising (keys us)) (hpos : ∀ x ∈ keys us, 1 ≤ x) (hf : (us.length : Int) < most) (hl : us.length ≤ 1024) :
    Calls Try.prog 13 #[.agg #[.int .i64 most, .int .i64 peak, .slice A us.length c, .slice A' us.length c'], .int .i64 v] w fun e w' =>
      ∃ hs' vs', e = .returned (.tuple #[.agg #[.int .i64 most, .int .i64 (max peak (us.length + 1)), hs', vs'], .int .i64 (least us), .int .i64 0]) ∧
        w'.ownsRow w.heap.size 3 1 hs' (ins (least us) v us).length (ints (keys (ins (least us) v us))) ∧ w'.ownsRow w.heap.size 3 1 vs' (ins (least us) v us).length (ints (vals (ins (least us) v us))) ∧ Below w.heap.size w w' := by
  obtain ⟨L1, L2, L3⟩ := least_le hrise hpos
  have L4 := least_bound us
  generalize hL : least us = L at L1 L2 L3 L4 ⊢
  have HL3 := Lib.hid L3
  clear hL L3
  go_enter Try.func13, Try.ntmps13
  go_wp2_with fail
  generalize hW0 : (w.alloc (.cells #[.int .i64 most, .int .i64 peak, .slice A us.length c, .slice A' us.length c'] 32)).alloc (.cells #[.int .i64 0, .int .i64 0, .slice none 0 0, .slice none 0 0] 32) = W0
  have kW : Keeps (fun _ => False) w W0 := by rw [← hW0]; exact ((Keeps.refl _ w).alloc _).alloc _
  have blk2 : W0.heap[w.heap.size]? = some (.cells #[.int .i64 most, .int .i64 peak, .slice A us.length c, .slice A' us.length c'] 32 (0, 0)) := by
    rw [← hW0, Below.heap_alloc _ _ _ (by simp)]
    exact heap_alloc_new w _
  have blk4 : W0.heap[w.heap.size + 1]? = some (.cells #[.int .i64 0, .int .i64 0, .slice none 0 0, .slice none 0 0] 32 (0, 0)) := by
    rw [← hW0]
    have := heap_alloc_new (w.alloc (.cells #[.int .i64 most, .int .i64 peak, .slice A us.length c, .slice A' us.length c'] 32)) (.cells #[.int .i64 0, .int .i64 0, .slice none 0 0, .slice none 0 0] 32)
    simpa using this
  have sz0 : W0.heap.size = w.heap.size + 2 := by rw [← hW0]; simp
  have SZ0 := Lib.hid sz0
  clear hW0 sz0
  go_loopw [7] (fun x wr => ∃ h' : Int, x = .int .i64 h' ∧ 1 ≤ h' ∧ h' ≤ L ∧ Keeps (fun _ => False) W0 wr) (fun x _ => (L - intOf x).toNat)
  case atStart => exact ⟨1, rfl, by omega, L1, Keeps.refl _ _⟩
  case round =>
    obtain ⟨h', rfl, h1, h2, hK⟩ := hrel
    have b2 : wr.heap[w.heap.size]? = some (.cells #[.int .i64 most, .int .i64 peak, .slice A us.length c, .slice A' us.length c'] 32 (0, 0)) := (hK.block _ (by have := SZ0.out; omega) (fun h => h)).trans blk2
    have d0 : wr.cell? ⟨w.heap.size, 0, none⟩ = some (.int .i64 most) := by simp [World.cell?, b2]
    have d1 : wr.cell? ⟨w.heap.size, 1, none⟩ = some (.int .i64 peak) := by simp [World.cell?, b2]
    have d2 : wr.cell? ⟨w.heap.size, 2, none⟩ = some (.slice A us.length c) := by simp [World.cell?, b2]
    have d3 : wr.cell? ⟨w.heap.size, 3, none⟩ = some (.slice A' us.length c') := by simp [World.cell?, b2]
    have hrw : RdI wr wr.heap.size A (keys us) := fun j hj => by
      obtain ⟨g, e1, e2, e3⟩ := (hr.keeps (kW.trans hK) (Nat.le_refl _) (fun _ _ _ h => h)) j hj
      exact ⟨g, e1, by have := (kW.trans hK).size; omega, e3⟩
    have hat := ref_at (.int .i64 most) (.int .i64 peak) A c (.slice A' us.length c') (keys us) h' wr hrw (by rw [keys_len]; omega)
    rw [keys_len] at hat
    have HRW := Lib.hid hrw
    clear hrw b2
    by_cases he : h' = L
    · have hi : idx (keys us) h' = -1 := idx_not (by rw [he]; exact L2)
      rw [hi] at hat
      have HE := Lib.hid he
      clear hi he
      go_wp2_with fail
      refine hat.mono ?_
      rintro e Wb ⟨rfl, hWb⟩
      have kWb : Keeps (fun _ => False) W0 Wb := by rw [hWb]; exact hK.alloc _
      clear hat hWb
      obtain ⟨W1, hW1⟩ : ∃ W1, W1 = Wb := ⟨_, rfl⟩
      rw [← hW1] at kWb ⊢
      clear hW1
      have k1 : Keeps (fun _ => False) w W1 := kW.trans kWb
      have blk2' : W1.heap[w.heap.size]? = some (.cells #[.int .i64 most, .int .i64 peak, .slice A us.length c, .slice A' us.length c'] 32 (0, 0)) := (kWb.block _ (by have := SZ0.out; omega) (fun h => h)).trans blk2
      have blk4' : W1.heap[w.heap.size + 1]? = some (.cells #[.int .i64 0, .int .i64 0, .slice none 0 0, .slice none 0 0] 32 (0, 0)) := (kWb.block _ (by have := SZ0.out; omega) (fun h => h)).trans blk4
      have sz1 : w.heap.size + 2 ≤ W1.heap.size := by have := SZ0.out; have := kWb.size; omega
      have HE' := HE.out
      subst HE'
      clear HE d0 d1 d2 d3 HRW hK kW blk2 blk4 SZ0
      have e0 : W1.cell? ⟨w.heap.size, 0, none⟩ = some (.int .i64 most) := by simp [World.cell?, blk2']
      have e1 : W1.cell? ⟨w.heap.size, 1, none⟩ = some (.int .i64 peak) := by simp [World.cell?, blk2']
      clear kWb
      go_wp2_with fail
      have hnst : NSt W1.heap.size W1.heap.size (.int .i64 most) (.int .i64 peak) (.slice none 0 0) (.slice none 0 0) (keys (built h' v us 0)) (vals (built h' v us 0)) (W1.alloc (.cells #[.int .i64 most, .int .i64 peak, .slice none 0 0, .slice none 0 0] 32)) :=
        ⟨heap_alloc_new W1 _, by rw [built_zero]; exact ⟨rfl, .inl ⟨rfl, rfl⟩⟩, by rw [built_zero]; exact ⟨rfl, .inl ⟨rfl, rfl⟩⟩, fun g e => by simp [Value.ownBlock] at e, by simp⟩
      have hbel : Below W1.heap.size W1 (W1.alloc (.cells #[.int .i64 most, .int .i64 peak, .slice none 0 0, .slice none 0 0] 32)) := (Below.refl _ _).alloc (Nat.le_refl _) _
      go_loopw [9, 10] (fun x y wr => ∃ (i : Nat) (hs vs : Value), x = .bool (doneAt h' us i) ∧ y = .int .i64 i ∧ i ≤ us.length ∧ NSt W1.heap.size W1.heap.size (.int .i64 most) (.int .i64 peak) hs vs (keys (built h' v us i)) (vals (built h' v us i)) wr ∧ Below W1.heap.size W1 wr) (fun _ y _ => us.length - (intOf y).toNat)
      case atStart => exact ⟨0, _, _, rfl, rfl, Nat.zero_le _, hnst, hbel⟩
      case round =>
        obtain ⟨i, hs, vs, rfl, rfl, hi, hN, hB⟩ := hrel
        clear hnst hbel e0 e1
        have hbl := built_len (h := h') (v := v) (us := us) (i := i)
        have kbl : (keys (built h' v us i)).length ≤ 1025 := by rw [keys_len]; omega
        have vbl : (vals (built h' v us i)).length ≤ 1025 := by rw [vals_len]; omega
        by_cases hlt : i < us.length
        · have hlt' : (i : Int) < (us.length : Int) := by omega
          obtain ⟨g2, rfl, hg2, hc2⟩ := hr i (by rw [keys_len]; exact hlt)
          obtain ⟨g3, rfl, hg3, hc3⟩ := hr' i (by rw [vals_len]; exact hlt)
          rw [at_keys hlt] at hc2
          rw [at_vals hlt] at hc3
          have c2 : wr.cell? ⟨w.heap.size, 2, none⟩ = some (.slice (some ⟨g2, 0, none⟩) us.length c) := by
            rw [hB.cell (p := ⟨w.heap.size, 2, none⟩) (by show w.heap.size < _; omega)]; simp [World.cell?, blk2']
          have q2 : wr.cell? ⟨g2, i, none⟩ = some (.int .i64 us[i].1) := by
            rw [hB.cell (p := ⟨g2, i, none⟩) (by show g2 < _; omega), k1.cell (p := ⟨g2, i, none⟩) hg2 (fun h => h)]; exact hc2
          have hne : us[i].1 ≠ h' := fun e => L2 (by rw [← e]; exact List.mem_map_of_mem (List.getElem_mem hlt))
          cases hd : doneAt h' us i with
          | true =>
            have H1 := Lib.hid (built_done (v := v) hlt hd)
            have H2 := Lib.hid (done_step (h := h') hlt)
            have HD := Lib.hid hd
            clear hd
            by_cases hgt : h' < us[i].1
            · go_wp2_with fail
              clear c2 q2
              have c2 : wr.cell? ⟨w.heap.size, 2, none⟩ = some (.slice (some ⟨g2, 0, none⟩) us.length c) := by
                rw [hB.cell (p := ⟨w.heap.size, 2, none⟩) (by show w.heap.size < _; omega)]; simp [World.cell?, blk2']
              have q2 : wr.cell? ⟨g2, i, none⟩ = some (.int .i64 us[i].1) := by
                rw [hB.cell (p := ⟨g2, i, none⟩) (by show g2 < _; omega), k1.cell (p := ⟨g2, i, none⟩) hg2 (fun h => h)]; exact hc2
              have m2 : w.heap.size < wr.heap.size := by have := hB.size; omega
              have m2' : g2 < wr.heap.size := by omega

              have fr2 := hN.free 2
              have n2 : wr.cell? ⟨W1.heap.size, 2, none⟩ = some hs := by simpa using hN.cell 2
              obtain ⟨gg, cap, wt, hrun, hown1, hgrow, hat⟩ := run_app_int (w := wr.drew) hN.own1 (us[i].1) (by omega) hN.bb
              have p2 : wt.cell? ⟨W1.heap.size, 2, none⟩ = some hs := by
                rw [hgrow.cell_far ⟨W1.heap.size, 2, none⟩ hN.lt (fun e => hN.ne1 e.symm)]; exact n2
              have pf : wt.frozen? ⟨W1.heap.size, 2, none⟩ = false := by
                rw [hgrow.frozen_far ⟨W1.heap.size, 2, none⟩ hN.lt (fun e => hN.ne1 e.symm)]; exact fr2
              change ∀ ty, Sem.run Try.prog (appendW #[30, 30] ty #[hs, .slice (some ⟨wr.heap.size, 0, none⟩) 1 1]) (wr.alloc (.cells #[.int .i64 (us[i].1)] 3)).drew = .ok (.slice (some ⟨gg, 0, none⟩) ((keys (built h' v us i)).length + 1) cap) wt at hrun
              have l8 := hN.lt
              go_wp2_with fail
              go_region
              have hNx := hN.app1 (w1 := wt) (x := us[i].1) hown1 ⟨hgrow.os, hgrow.tape, hgrow.output, hgrow.size, hgrow.block⟩ hat
              have hBx : Below W1.heap.size W1 (wt.setCell ⟨W1.heap.size, 2, none⟩ (.slice (some ⟨gg, 0, none⟩) ((keys (built h' v us i)).length + 1) cap)) :=
                (hB.trans (Below.grown (Below.refl _ _) (⟨hgrow.os, hgrow.tape, hgrow.output, hgrow.size, hgrow.block⟩ : wr.grownBy wt hs.ownBlock) hN.bb (fun g e => (hN.own1.lt g e).1))).setCell (p := ⟨W1.heap.size, 2, none⟩) (Nat.le_refl _) _
              clear hrun hown1 hgrow hat p2 pf n2 fr2 l8
              generalize wt.setCell ⟨W1.heap.size, 2, none⟩ (.slice (some ⟨gg, 0, none⟩) ((keys (built h' v us i)).length + 1) cap) = wx at *
              generalize hvwx : (Value.slice (some ⟨gg, 0, none⟩) ((keys (built h' v us i)).length + 1) cap) = vwx at *
              clear hvwx wt gg
              clear c2 q2 m2 m2'
              have c3 : wx.cell? ⟨w.heap.size, 3, none⟩ = some (.slice (some ⟨g3, 0, none⟩) us.length c') := by
                rw [hBx.cell (p := ⟨w.heap.size, 3, none⟩) (by show w.heap.size < _; omega)]; simp [World.cell?, blk2']
              have q3 : wx.cell? ⟨g3, i, none⟩ = some (.int .i64 us[i].2) := by
                rw [hBx.cell (p := ⟨g3, i, none⟩) (by show g3 < _; omega), k1.cell (p := ⟨g3, i, none⟩) hg3 (fun h => h)]; exact hc3
              have m3 : w.heap.size < wx.heap.size := by have := hBx.size; omega
              have m3' : g3 < wx.heap.size := by omega

              have fr3 := hNx.free 3
              have n3 : wx.cell? ⟨W1.heap.size, 3, none⟩ = some vs := by simpa using hNx.cell 3
              obtain ⟨gg, cap, wt, hrun, hown1, hgrow, hat⟩ := run_app_int (w := wx.drew) hNx.own2 (us[i].2) (by omega) hNx.bb
              have p2 : wt.cell? ⟨W1.heap.size, 3, none⟩ = some vs := by
                rw [hgrow.cell_far ⟨W1.heap.size, 3, none⟩ hNx.lt (fun e => hNx.ne2 e.symm)]; exact n3
              have pf : wt.frozen? ⟨W1.heap.size, 3, none⟩ = false := by
                rw [hgrow.frozen_far ⟨W1.heap.size, 3, none⟩ hNx.lt (fun e => hNx.ne2 e.symm)]; exact fr3
              change ∀ ty, Sem.run Try.prog (appendW #[30, 30] ty #[vs, .slice (some ⟨wx.heap.size, 0, none⟩) 1 1]) (wx.alloc (.cells #[.int .i64 (us[i].2)] 3)).drew = .ok (.slice (some ⟨gg, 0, none⟩) ((vals (built h' v us i)).length + 1) cap) wt at hrun
              have l8 := hNx.lt
              go_wp2_with fail
              go_region
              have hNy := hNx.app2 (w1 := wt) (x := us[i].2) hown1 ⟨hgrow.os, hgrow.tape, hgrow.output, hgrow.size, hgrow.block⟩ hat
              have hBy : Below W1.heap.size W1 (wt.setCell ⟨W1.heap.size, 3, none⟩ (.slice (some ⟨gg, 0, none⟩) ((vals (built h' v us i)).length + 1) cap)) :=
                (hBx.trans (Below.grown (Below.refl _ _) (⟨hgrow.os, hgrow.tape, hgrow.output, hgrow.size, hgrow.block⟩ : wx.grownBy wt vs.ownBlock) hNx.bb (fun g e => (hNx.own2.lt g e).1))).setCell (p := ⟨W1.heap.size, 3, none⟩) (Nat.le_refl _) _
              clear hrun hown1 hgrow hat p2 pf n3 fr3 l8
              generalize wt.setCell ⟨W1.heap.size, 3, none⟩ (.slice (some ⟨gg, 0, none⟩) ((vals (built h' v us i)).length + 1) cap) = wy at *
              generalize hvwy : (Value.slice (some ⟨gg, 0, none⟩) ((vals (built h' v us i)).length + 1) cap) = vwy at *
              clear hvwy wt gg
              clear c3 q3 m3 m3'
              go_wp2_with fail
              go_roundw
              case rel => exact ⟨i + 1, _, _, by rw [H2.out, HD.out]; rfl, by go_num, by omega, by rw [H1.out, keys_snoc, vals_snoc]; exact hNy, hBy⟩
              case measure => simp [intOf]; omega
            · have hgt' : decide (h' < us[i].1) = false := by simpa using hgt
              go_wp2_with fail
              clear c2 q2
              have c2 : wr.cell? ⟨w.heap.size, 2, none⟩ = some (.slice (some ⟨g2, 0, none⟩) us.length c) := by
                rw [hB.cell (p := ⟨w.heap.size, 2, none⟩) (by show w.heap.size < _; omega)]; simp [World.cell?, blk2']
              have q2 : wr.cell? ⟨g2, i, none⟩ = some (.int .i64 us[i].1) := by
                rw [hB.cell (p := ⟨g2, i, none⟩) (by show g2 < _; omega), k1.cell (p := ⟨g2, i, none⟩) hg2 (fun h => h)]; exact hc2
              have m2 : w.heap.size < wr.heap.size := by have := hB.size; omega
              have m2' : g2 < wr.heap.size := by omega

              have fr2 := hN.free 2
              have n2 : wr.cell? ⟨W1.heap.size, 2, none⟩ = some hs := by simpa using hN.cell 2
              obtain ⟨gg, cap, wt, hrun, hown1, hgrow, hat⟩ := run_app_int (w := wr.drew) hN.own1 (us[i].1) (by omega) hN.bb
              have p2 : wt.cell? ⟨W1.heap.size, 2, none⟩ = some hs := by
                rw [hgrow.cell_far ⟨W1.heap.size, 2, none⟩ hN.lt (fun e => hN.ne1 e.symm)]; exact n2
              have pf : wt.frozen? ⟨W1.heap.size, 2, none⟩ = false := by
                rw [hgrow.frozen_far ⟨W1.heap.size, 2, none⟩ hN.lt (fun e => hN.ne1 e.symm)]; exact fr2
              change ∀ ty, Sem.run Try.prog (appendW #[30, 30] ty #[hs, .slice (some ⟨wr.heap.size, 0, none⟩) 1 1]) (wr.alloc (.cells #[.int .i64 (us[i].1)] 3)).drew = .ok (.slice (some ⟨gg, 0, none⟩) ((keys (built h' v us i)).length + 1) cap) wt at hrun
              have l8 := hN.lt
              go_wp2_with fail
              go_region
              have hNx := hN.app1 (w1 := wt) (x := us[i].1) hown1 ⟨hgrow.os, hgrow.tape, hgrow.output, hgrow.size, hgrow.block⟩ hat
              have hBx : Below W1.heap.size W1 (wt.setCell ⟨W1.heap.size, 2, none⟩ (.slice (some ⟨gg, 0, none⟩) ((keys (built h' v us i)).length + 1) cap)) :=
                (hB.trans (Below.grown (Below.refl _ _) (⟨hgrow.os, hgrow.tape, hgrow.output, hgrow.size, hgrow.block⟩ : wr.grownBy wt hs.ownBlock) hN.bb (fun g e => (hN.own1.lt g e).1))).setCell (p := ⟨W1.heap.size, 2, none⟩) (Nat.le_refl _) _
              clear hrun hown1 hgrow hat p2 pf n2 fr2 l8
              generalize wt.setCell ⟨W1.heap.size, 2, none⟩ (.slice (some ⟨gg, 0, none⟩) ((keys (built h' v us i)).length + 1) cap) = wx at *
              generalize hvwx : (Value.slice (some ⟨gg, 0, none⟩) ((keys (built h' v us i)).length + 1) cap) = vwx at *
              clear hvwx wt gg
              clear c2 q2 m2 m2'
              have c3 : wx.cell? ⟨w.heap.size, 3, none⟩ = some (.slice (some ⟨g3, 0, none⟩) us.length c') := by
                rw [hBx.cell (p := ⟨w.heap.size, 3, none⟩) (by show w.heap.size < _; omega)]; simp [World.cell?, blk2']
              have q3 : wx.cell? ⟨g3, i, none⟩ = some (.int .i64 us[i].2) := by
                rw [hBx.cell (p := ⟨g3, i, none⟩) (by show g3 < _; omega), k1.cell (p := ⟨g3, i, none⟩) hg3 (fun h => h)]; exact hc3
              have m3 : w.heap.size < wx.heap.size := by have := hBx.size; omega
              have m3' : g3 < wx.heap.size := by omega

              have fr3 := hNx.free 3
              have n3 : wx.cell? ⟨W1.heap.size, 3, none⟩ = some vs := by simpa using hNx.cell 3
              obtain ⟨gg, cap, wt, hrun, hown1, hgrow, hat⟩ := run_app_int (w := wx.drew) hNx.own2 (us[i].2) (by omega) hNx.bb
              have p2 : wt.cell? ⟨W1.heap.size, 3, none⟩ = some vs := by
                rw [hgrow.cell_far ⟨W1.heap.size, 3, none⟩ hNx.lt (fun e => hNx.ne2 e.symm)]; exact n3
              have pf : wt.frozen? ⟨W1.heap.size, 3, none⟩ = false := by
                rw [hgrow.frozen_far ⟨W1.heap.size, 3, none⟩ hNx.lt (fun e => hNx.ne2 e.symm)]; exact fr3
              change ∀ ty, Sem.run Try.prog (appendW #[30, 30] ty #[vs, .slice (some ⟨wx.heap.size, 0, none⟩) 1 1]) (wx.alloc (.cells #[.int .i64 (us[i].2)] 3)).drew = .ok (.slice (some ⟨gg, 0, none⟩) ((vals (built h' v us i)).length + 1) cap) wt at hrun
              have l8 := hNx.lt
              go_wp2_with fail
              go_region
              have hNy := hNx.app2 (w1 := wt) (x := us[i].2) hown1 ⟨hgrow.os, hgrow.tape, hgrow.output, hgrow.size, hgrow.block⟩ hat
              have hBy : Below W1.heap.size W1 (wt.setCell ⟨W1.heap.size, 3, none⟩ (.slice (some ⟨gg, 0, none⟩) ((vals (built h' v us i)).length + 1) cap)) :=
                (hBx.trans (Below.grown (Below.refl _ _) (⟨hgrow.os, hgrow.tape, hgrow.output, hgrow.size, hgrow.block⟩ : wx.grownBy wt vs.ownBlock) hNx.bb (fun g e => (hNx.own2.lt g e).1))).setCell (p := ⟨W1.heap.size, 3, none⟩) (Nat.le_refl _) _
              clear hrun hown1 hgrow hat p2 pf n3 fr3 l8
              generalize wt.setCell ⟨W1.heap.size, 3, none⟩ (.slice (some ⟨gg, 0, none⟩) ((vals (built h' v us i)).length + 1) cap) = wy at *
              generalize hvwy : (Value.slice (some ⟨gg, 0, none⟩) ((vals (built h' v us i)).length + 1) cap) = vwy at *
              clear hvwy wt gg
              clear c3 q3 m3 m3'
              go_wp2_with fail
              go_roundw
              case rel => exact ⟨i + 1, _, _, by rw [H2.out, HD.out]; rfl, by go_num, by omega, by rw [H1.out, keys_snoc, vals_snoc]; exact hNy, hBy⟩
              case measure => simp [intOf]; omega
          | false =>
            by_cases hgt : h' < us[i].1
            · have H1 := Lib.hid (built_now (v := v) hlt hd hgt)
              have H2 := Lib.hid (done_step (h := h') hlt)
              have hgt' : decide (h' < us[i].1) = true := by simpa using hgt
              have HD := Lib.hid hd
              clear hd
              go_upto_region 12 with (fail)
              clear c2 q2
              have fr2 := hN.free 2
              have n2 : wr.cell? ⟨W1.heap.size, 2, none⟩ = some hs := by simpa using hN.cell 2
              obtain ⟨gg, cap, wt, hrun, hown1, hgrow, hat⟩ := run_app_int (w := wr) hN.own1 (h') (by omega) hN.bb
              have p2 : wt.cell? ⟨W1.heap.size, 2, none⟩ = some hs := by
                rw [hgrow.cell_far ⟨W1.heap.size, 2, none⟩ hN.lt (fun e => hN.ne1 e.symm)]; exact n2
              have pf : wt.frozen? ⟨W1.heap.size, 2, none⟩ = false := by
                rw [hgrow.frozen_far ⟨W1.heap.size, 2, none⟩ hN.lt (fun e => hN.ne1 e.symm)]; exact fr2
              change ∀ ty, Sem.run Try.prog (appendW #[30, 30] ty #[hs, .slice (some ⟨wr.heap.size, 0, none⟩) 1 1]) (wr.alloc (.cells #[.int .i64 (h')] 3)) = .ok (.slice (some ⟨gg, 0, none⟩) ((keys (built h' v us i)).length + 1) cap) wt at hrun
              have l8 := hN.lt
              go_upto_region 13 with (fail)
              have hNa := hN.app1 (w1 := wt) (x := h') hown1 ⟨hgrow.os, hgrow.tape, hgrow.output, hgrow.size, hgrow.block⟩ hat
              have hBa : Below W1.heap.size W1 (wt.setCell ⟨W1.heap.size, 2, none⟩ (.slice (some ⟨gg, 0, none⟩) ((keys (built h' v us i)).length + 1) cap)) :=
                (hB.trans (Below.grown (Below.refl _ _) (⟨hgrow.os, hgrow.tape, hgrow.output, hgrow.size, hgrow.block⟩ : wr.grownBy wt hs.ownBlock) hN.bb (fun g e => (hN.own1.lt g e).1))).setCell (p := ⟨W1.heap.size, 2, none⟩) (Nat.le_refl _) _
              clear hrun hown1 hgrow hat p2 pf n2 fr2 l8
              generalize wt.setCell ⟨W1.heap.size, 2, none⟩ (.slice (some ⟨gg, 0, none⟩) ((keys (built h' v us i)).length + 1) cap) = wa at *
              generalize hvwa : (Value.slice (some ⟨gg, 0, none⟩) ((keys (built h' v us i)).length + 1) cap) = vwa at *
              clear hvwa wt gg

              have fr3 := hNa.free 3
              have n3 : wa.cell? ⟨W1.heap.size, 3, none⟩ = some vs := by simpa using hNa.cell 3
              obtain ⟨gg, cap, wt, hrun, hown1, hgrow, hat⟩ := run_app_int (w := wa) hNa.own2 (v) (by omega) hNa.bb
              have p2 : wt.cell? ⟨W1.heap.size, 3, none⟩ = some vs := by
                rw [hgrow.cell_far ⟨W1.heap.size, 3, none⟩ hNa.lt (fun e => hNa.ne2 e.symm)]; exact n3
              have pf : wt.frozen? ⟨W1.heap.size, 3, none⟩ = false := by
                rw [hgrow.frozen_far ⟨W1.heap.size, 3, none⟩ hNa.lt (fun e => hNa.ne2 e.symm)]; exact fr3
              change ∀ ty, Sem.run Try.prog (appendW #[30, 30] ty #[vs, .slice (some ⟨wa.heap.size, 0, none⟩) 1 1]) (wa.alloc (.cells #[.int .i64 (v)] 3)) = .ok (.slice (some ⟨gg, 0, none⟩) ((vals (built h' v us i)).length + 1) cap) wt at hrun
              have l8 := hNa.lt
              go_upto_region 15 with (fail)
              have hNb := hNa.app2 (w1 := wt) (x := v) hown1 ⟨hgrow.os, hgrow.tape, hgrow.output, hgrow.size, hgrow.block⟩ hat
              have hBb : Below W1.heap.size W1 (wt.setCell ⟨W1.heap.size, 3, none⟩ (.slice (some ⟨gg, 0, none⟩) ((vals (built h' v us i)).length + 1) cap)) :=
                (hBa.trans (Below.grown (Below.refl _ _) (⟨hgrow.os, hgrow.tape, hgrow.output, hgrow.size, hgrow.block⟩ : wa.grownBy wt vs.ownBlock) hNa.bb (fun g e => (hNa.own2.lt g e).1))).setCell (p := ⟨W1.heap.size, 3, none⟩) (Nat.le_refl _) _
              clear hrun hown1 hgrow hat p2 pf n3 fr3 l8
              generalize wt.setCell ⟨W1.heap.size, 3, none⟩ (.slice (some ⟨gg, 0, none⟩) ((vals (built h' v us i)).length + 1) cap) = wb at *
              generalize hvwb : (Value.slice (some ⟨gg, 0, none⟩) ((vals (built h' v us i)).length + 1) cap) = vwb at *
              clear hvwb wt gg
              rw [← keys_snoc (built h' v us i) (h', v), ← vals_snoc (built h' v us i) (h', v)] at hNb
              have kbl' : (keys (built h' v us i ++ [(h', v)])).length ≤ 1026 := by rw [keys_snoc, List.length_append, List.length_singleton]; omega
              have vbl' : (vals (built h' v us i ++ [(h', v)])).length ≤ 1026 := by rw [vals_snoc, List.length_append, List.length_singleton]; omega
              have c2 : wb.cell? ⟨w.heap.size, 2, none⟩ = some (.slice (some ⟨g2, 0, none⟩) us.length c) := by
                rw [hBb.cell (p := ⟨w.heap.size, 2, none⟩) (by show w.heap.size < _; omega)]; simp [World.cell?, blk2']
              have q2 : wb.cell? ⟨g2, i, none⟩ = some (.int .i64 us[i].1) := by
                rw [hBb.cell (p := ⟨g2, i, none⟩) (by show g2 < _; omega), k1.cell (p := ⟨g2, i, none⟩) hg2 (fun h => h)]; exact hc2
              have m2 : w.heap.size < wb.heap.size := by have := hBb.size; omega
              have m2' : g2 < wb.heap.size := by omega

              have fr2 := hNb.free 2
              have n2 : wb.cell? ⟨W1.heap.size, 2, none⟩ = some vwa := by simpa using hNb.cell 2
              obtain ⟨gg, cap, wt, hrun, hown1, hgrow, hat⟩ := run_app_int (w := wb.drew) hNb.own1 (us[i].1) (by omega) hNb.bb
              have p2 : wt.cell? ⟨W1.heap.size, 2, none⟩ = some vwa := by
                rw [hgrow.cell_far ⟨W1.heap.size, 2, none⟩ hNb.lt (fun e => hNb.ne1 e.symm)]; exact n2
              have pf : wt.frozen? ⟨W1.heap.size, 2, none⟩ = false := by
                rw [hgrow.frozen_far ⟨W1.heap.size, 2, none⟩ hNb.lt (fun e => hNb.ne1 e.symm)]; exact fr2
              change ∀ ty, Sem.run Try.prog (appendW #[30, 30] ty #[vwa, .slice (some ⟨wb.heap.size, 0, none⟩) 1 1]) (wb.alloc (.cells #[.int .i64 (us[i].1)] 3)).drew = .ok (.slice (some ⟨gg, 0, none⟩) ((keys (built h' v us i ++ [(h', v)])).length + 1) cap) wt at hrun
              have l8 := hNb.lt
              go_wp2_with fail
              go_region
              have hNx := hNb.app1 (w1 := wt) (x := us[i].1) hown1 ⟨hgrow.os, hgrow.tape, hgrow.output, hgrow.size, hgrow.block⟩ hat
              have hBx : Below W1.heap.size W1 (wt.setCell ⟨W1.heap.size, 2, none⟩ (.slice (some ⟨gg, 0, none⟩) ((keys (built h' v us i ++ [(h', v)])).length + 1) cap)) :=
                (hBb.trans (Below.grown (Below.refl _ _) (⟨hgrow.os, hgrow.tape, hgrow.output, hgrow.size, hgrow.block⟩ : wb.grownBy wt vwa.ownBlock) hNb.bb (fun g e => (hNb.own1.lt g e).1))).setCell (p := ⟨W1.heap.size, 2, none⟩) (Nat.le_refl _) _
              clear hrun hown1 hgrow hat p2 pf n2 fr2 l8
              generalize wt.setCell ⟨W1.heap.size, 2, none⟩ (.slice (some ⟨gg, 0, none⟩) ((keys (built h' v us i ++ [(h', v)])).length + 1) cap) = wx at *
              generalize hvwx : (Value.slice (some ⟨gg, 0, none⟩) ((keys (built h' v us i ++ [(h', v)])).length + 1) cap) = vwx at *
              clear hvwx wt gg
              clear c2 q2 m2 m2'
              have c3 : wx.cell? ⟨w.heap.size, 3, none⟩ = some (.slice (some ⟨g3, 0, none⟩) us.length c') := by
                rw [hBx.cell (p := ⟨w.heap.size, 3, none⟩) (by show w.heap.size < _; omega)]; simp [World.cell?, blk2']
              have q3 : wx.cell? ⟨g3, i, none⟩ = some (.int .i64 us[i].2) := by
                rw [hBx.cell (p := ⟨g3, i, none⟩) (by show g3 < _; omega), k1.cell (p := ⟨g3, i, none⟩) hg3 (fun h => h)]; exact hc3
              have m3 : w.heap.size < wx.heap.size := by have := hBx.size; omega
              have m3' : g3 < wx.heap.size := by omega

              have fr3 := hNx.free 3
              have n3 : wx.cell? ⟨W1.heap.size, 3, none⟩ = some vwb := by simpa using hNx.cell 3
              obtain ⟨gg, cap, wt, hrun, hown1, hgrow, hat⟩ := run_app_int (w := wx.drew) hNx.own2 (us[i].2) (by omega) hNx.bb
              have p2 : wt.cell? ⟨W1.heap.size, 3, none⟩ = some vwb := by
                rw [hgrow.cell_far ⟨W1.heap.size, 3, none⟩ hNx.lt (fun e => hNx.ne2 e.symm)]; exact n3
              have pf : wt.frozen? ⟨W1.heap.size, 3, none⟩ = false := by
                rw [hgrow.frozen_far ⟨W1.heap.size, 3, none⟩ hNx.lt (fun e => hNx.ne2 e.symm)]; exact fr3
              change ∀ ty, Sem.run Try.prog (appendW #[30, 30] ty #[vwb, .slice (some ⟨wx.heap.size, 0, none⟩) 1 1]) (wx.alloc (.cells #[.int .i64 (us[i].2)] 3)).drew = .ok (.slice (some ⟨gg, 0, none⟩) ((vals (built h' v us i ++ [(h', v)])).length + 1) cap) wt at hrun
              have l8 := hNx.lt
              go_wp2_with fail
              go_region
              have hNy := hNx.app2 (w1 := wt) (x := us[i].2) hown1 ⟨hgrow.os, hgrow.tape, hgrow.output, hgrow.size, hgrow.block⟩ hat
              have hBy : Below W1.heap.size W1 (wt.setCell ⟨W1.heap.size, 3, none⟩ (.slice (some ⟨gg, 0, none⟩) ((vals (built h' v us i ++ [(h', v)])).length + 1) cap)) :=
                (hBx.trans (Below.grown (Below.refl _ _) (⟨hgrow.os, hgrow.tape, hgrow.output, hgrow.size, hgrow.block⟩ : wx.grownBy wt vwb.ownBlock) hNx.bb (fun g e => (hNx.own2.lt g e).1))).setCell (p := ⟨W1.heap.size, 3, none⟩) (Nat.le_refl _) _
              clear hrun hown1 hgrow hat p2 pf n3 fr3 l8
              generalize wt.setCell ⟨W1.heap.size, 3, none⟩ (.slice (some ⟨gg, 0, none⟩) ((vals (built h' v us i ++ [(h', v)])).length + 1) cap) = wy at *
              generalize hvwy : (Value.slice (some ⟨gg, 0, none⟩) ((vals (built h' v us i ++ [(h', v)])).length + 1) cap) = vwy at *
              clear hvwy wt gg
              clear c3 q3 m3 m3'
              go_wp2_with fail
              go_roundw
              case rel => exact ⟨i + 1, _, _, by rw [H2.out, hgt', Bool.or_true], by go_num, by omega, by rw [H1.out, keys_snoc, vals_snoc]; exact hNy, hBy⟩
              case measure => simp [intOf]; omega
            · have H1 := Lib.hid (built_not (v := v) hlt hd hgt)
              have H2 := Lib.hid (done_step (h := h') hlt)
              have hgt' : decide (h' < us[i].1) = false := by simpa using hgt
              have HD := Lib.hid hd
              clear hd
              go_wp2_with fail
              clear c2 q2
              have c2 : wr.cell? ⟨w.heap.size, 2, none⟩ = some (.slice (some ⟨g2, 0, none⟩) us.length c) := by
                rw [hB.cell (p := ⟨w.heap.size, 2, none⟩) (by show w.heap.size < _; omega)]; simp [World.cell?, blk2']
              have q2 : wr.cell? ⟨g2, i, none⟩ = some (.int .i64 us[i].1) := by
                rw [hB.cell (p := ⟨g2, i, none⟩) (by show g2 < _; omega), k1.cell (p := ⟨g2, i, none⟩) hg2 (fun h => h)]; exact hc2
              have m2 : w.heap.size < wr.heap.size := by have := hB.size; omega
              have m2' : g2 < wr.heap.size := by omega

              have fr2 := hN.free 2
              have n2 : wr.cell? ⟨W1.heap.size, 2, none⟩ = some hs := by simpa using hN.cell 2
              obtain ⟨gg, cap, wt, hrun, hown1, hgrow, hat⟩ := run_app_int (w := wr.drew) hN.own1 (us[i].1) (by omega) hN.bb
              have p2 : wt.cell? ⟨W1.heap.size, 2, none⟩ = some hs := by
                rw [hgrow.cell_far ⟨W1.heap.size, 2, none⟩ hN.lt (fun e => hN.ne1 e.symm)]; exact n2
              have pf : wt.frozen? ⟨W1.heap.size, 2, none⟩ = false := by
                rw [hgrow.frozen_far ⟨W1.heap.size, 2, none⟩ hN.lt (fun e => hN.ne1 e.symm)]; exact fr2
              change ∀ ty, Sem.run Try.prog (appendW #[30, 30] ty #[hs, .slice (some ⟨wr.heap.size, 0, none⟩) 1 1]) (wr.alloc (.cells #[.int .i64 (us[i].1)] 3)).drew = .ok (.slice (some ⟨gg, 0, none⟩) ((keys (built h' v us i)).length + 1) cap) wt at hrun
              have l8 := hN.lt
              go_wp2_with fail
              go_region
              have hNx := hN.app1 (w1 := wt) (x := us[i].1) hown1 ⟨hgrow.os, hgrow.tape, hgrow.output, hgrow.size, hgrow.block⟩ hat
              have hBx : Below W1.heap.size W1 (wt.setCell ⟨W1.heap.size, 2, none⟩ (.slice (some ⟨gg, 0, none⟩) ((keys (built h' v us i)).length + 1) cap)) :=
                (hB.trans (Below.grown (Below.refl _ _) (⟨hgrow.os, hgrow.tape, hgrow.output, hgrow.size, hgrow.block⟩ : wr.grownBy wt hs.ownBlock) hN.bb (fun g e => (hN.own1.lt g e).1))).setCell (p := ⟨W1.heap.size, 2, none⟩) (Nat.le_refl _) _
              clear hrun hown1 hgrow hat p2 pf n2 fr2 l8
              generalize wt.setCell ⟨W1.heap.size, 2, none⟩ (.slice (some ⟨gg, 0, none⟩) ((keys (built h' v us i)).length + 1) cap) = wx at *
              generalize hvwx : (Value.slice (some ⟨gg, 0, none⟩) ((keys (built h' v us i)).length + 1) cap) = vwx at *
              clear hvwx wt gg
              clear c2 q2 m2 m2'
              have c3 : wx.cell? ⟨w.heap.size, 3, none⟩ = some (.slice (some ⟨g3, 0, none⟩) us.length c') := by
                rw [hBx.cell (p := ⟨w.heap.size, 3, none⟩) (by show w.heap.size < _; omega)]; simp [World.cell?, blk2']
              have q3 : wx.cell? ⟨g3, i, none⟩ = some (.int .i64 us[i].2) := by
                rw [hBx.cell (p := ⟨g3, i, none⟩) (by show g3 < _; omega), k1.cell (p := ⟨g3, i, none⟩) hg3 (fun h => h)]; exact hc3
              have m3 : w.heap.size < wx.heap.size := by have := hBx.size; omega
              have m3' : g3 < wx.heap.size := by omega

              have fr3 := hNx.free 3
              have n3 : wx.cell? ⟨W1.heap.size, 3, none⟩ = some vs := by simpa using hNx.cell 3
              obtain ⟨gg, cap, wt, hrun, hown1, hgrow, hat⟩ := run_app_int (w := wx.drew) hNx.own2 (us[i].2) (by omega) hNx.bb
              have p2 : wt.cell? ⟨W1.heap.size, 3, none⟩ = some vs := by
                rw [hgrow.cell_far ⟨W1.heap.size, 3, none⟩ hNx.lt (fun e => hNx.ne2 e.symm)]; exact n3
              have pf : wt.frozen? ⟨W1.heap.size, 3, none⟩ = false := by
                rw [hgrow.frozen_far ⟨W1.heap.size, 3, none⟩ hNx.lt (fun e => hNx.ne2 e.symm)]; exact fr3
              change ∀ ty, Sem.run Try.prog (appendW #[30, 30] ty #[vs, .slice (some ⟨wx.heap.size, 0, none⟩) 1 1]) (wx.alloc (.cells #[.int .i64 (us[i].2)] 3)).drew = .ok (.slice (some ⟨gg, 0, none⟩) ((vals (built h' v us i)).length + 1) cap) wt at hrun
              have l8 := hNx.lt
              go_wp2_with fail
              go_region
              have hNy := hNx.app2 (w1 := wt) (x := us[i].2) hown1 ⟨hgrow.os, hgrow.tape, hgrow.output, hgrow.size, hgrow.block⟩ hat
              have hBy : Below W1.heap.size W1 (wt.setCell ⟨W1.heap.size, 3, none⟩ (.slice (some ⟨gg, 0, none⟩) ((vals (built h' v us i)).length + 1) cap)) :=
                (hBx.trans (Below.grown (Below.refl _ _) (⟨hgrow.os, hgrow.tape, hgrow.output, hgrow.size, hgrow.block⟩ : wx.grownBy wt vs.ownBlock) hNx.bb (fun g e => (hNx.own2.lt g e).1))).setCell (p := ⟨W1.heap.size, 3, none⟩) (Nat.le_refl _) _
              clear hrun hown1 hgrow hat p2 pf n3 fr3 l8
              generalize wt.setCell ⟨W1.heap.size, 3, none⟩ (.slice (some ⟨gg, 0, none⟩) ((vals (built h' v us i)).length + 1) cap) = wy at *
              generalize hvwy : (Value.slice (some ⟨gg, 0, none⟩) ((vals (built h' v us i)).length + 1) cap) = vwy at *
              clear hvwy wt gg
              clear c3 q3 m3 m3'
              go_wp2_with fail
              go_roundw
              case rel => exact ⟨i + 1, _, _, by rw [H2.out, HD.out, hgt']; rfl, by go_num, by omega, by rw [H1.out, keys_snoc, vals_snoc]; exact hNy, hBy⟩
              case measure => simp [intOf]; omega
        · -- the way out
          have hlt' : decide ((i : Int) < (us.length : Int)) = false := by simp; omega
          have hii : i = us.length := by omega
          have c2 : wr.cell? ⟨w.heap.size, 2, none⟩ = some (.slice A us.length c) := by
            rw [hB.cell (p := ⟨w.heap.size, 2, none⟩) (by show w.heap.size < _; omega)]; simp [World.cell?, blk2']
          cases hd : doneAt h' us i with
          | true =>
            have HI := Lib.hid hii
            have HD := Lib.hid hd
            have hN1 : NSt W1.heap.size W1.heap.size (.int .i64 most) (.int .i64 peak) hs vs (keys (ins h' v us)) (vals (ins h' v us)) wr := by
              have e := built_end_done (v := v) (by rw [← hii]; exact hd : doneAt h' us us.length = true)
              rw [← e, ← hii]; exact hN
            clear hd hii hN kbl vbl hbl
            have hlk : (keys (ins h' v us)).length = us.length + 1 := by rw [keys_len, len_ins]
            have hlv : (vals (ins h' v us)).length = us.length + 1 := by rw [vals_len, len_ins]
            obtain ⟨Ah, ch, rfl⟩ := own_shape hN1.own1
            obtain ⟨Au, cu, rfl⟩ := own_shape hN1.own2
            have n0 : wr.cell? ⟨W1.heap.size, 0, none⟩ = some (.int .i64 most) := by simpa using hN1.cell 0
            have n1 : wr.cell? ⟨W1.heap.size, 1, none⟩ = some (.int .i64 peak) := by simpa using hN1.cell 1
            have n2 : wr.cell? ⟨W1.heap.size, 2, none⟩ = some (.slice Ah (us.length + 1) ch) := by rw [← hlk]; simpa using hN1.cell 2
            have n3 : wr.cell? ⟨W1.heap.size, 3, none⟩ = some (.slice Au (us.length + 1) cu) := by rw [← hlv]; simpa using hN1.cell 3
            have fr1 := hN1.free 1
            have l4 : w.heap.size + 1 < W1.heap.size := by omega
            have l8 := hN1.lt
            have b4 : ∀ j, wr.cell? ⟨w.heap.size + 1, j, none⟩ = (#[Value.int .i64 0, .int .i64 0, .slice none 0 0, .slice none 0 0] : Array Value)[j]? := fun j => by
              rw [hB.cell (p := ⟨w.heap.size + 1, j, none⟩) l4]; simp [World.cell?, blk4']
            have f4 : ∀ j, wr.frozen? ⟨w.heap.size + 1, j, none⟩ = false := fun j => by
              rw [hB.frozen (p := ⟨w.heap.size + 1, j, none⟩) l4]; simp [World.frozen?, blk4']
            have a0 := b4 0
            have a1 := b4 1
            have a2 := b4 2
            have a3 := b4 3
            simp at a0 a1 a2 a3
            have s0 := f4 0
            have s1 := f4 1
            have s2 := f4 2
            have s3 := f4 3
            have hfin : ∀ W', Keeps (fun k => k = w.heap.size + 1 ∨ k = W1.heap.size) wr W' → W'.ownsRow w.heap.size 3 1 (.slice Ah (us.length + 1) ch) (ins h' v us).length (ints (keys (ins h' v us))) ∧
                W'.ownsRow w.heap.size 3 1 (.slice Au (us.length + 1) cu) (ins h' v us).length (ints (vals (ins h' v us))) ∧ Below w.heap.size w W' := fun W' hK => by
              have o1 := hN1.own1
              have o2 := hN1.own2
              have e1 := hN1.ne1
              have e2 := hN1.ne2
              rw [hlk] at o1 e1
              rw [hlv] at o2 e2
              rw [len_ins]
              refine ⟨own_base (hK.ownsRow o1 (fun b hb e => ?_)) (by omega), own_base (hK.ownsRow o2 (fun b hb e => ?_)) (by omega), ?_⟩
              · rcases e with e | e
                · have := (o1.lt b hb).1; omega
                · exact e1 (by rw [hb, e])
              · rcases e with e | e
                · have := (o2.lt b hb).1; omega
                · exact e2 (by rw [hb, e])
              · have hb1 : Below w.heap.size w W1 := k1.below (fun _ h => h.elim) (Nat.le_refl _)
                have hb3 : Below w.heap.size wr W' := hK.below (fun _ h => by omega) (by have := hB.size; omega)
                exact (hb1.trans (hB.mono (by omega))).trans hb3
            have HF := Lib.hid hfin
            have HB := Lib.hid hB
            have HN := Lib.hid hN1
            clear hfin b4 f4 hr hr' hB hN1 blk4' blk2' hlk hlv
            have hus : us.length + 1 ≤ 1025 := by omega
            by_cases hq : peak < (us.length : Int) + 1
            · have HM := Lib.hid (show max peak ((us.length : Int) + 1) = us.length + 1 by omega)
              go_wp2_with fail
              refine bodyPost_ret (v := .tuple #[.agg #[.int .i64 most, .int .i64 (us.length + 1), .slice Ah (us.length + 1) ch, .slice Au (us.length + 1) cu], .int .i64 h', .int .i64 0]) (by simp [results, Try.results13, go_sem, a0, a1, a2, a3]) rfl ⟨_, _, by rw [HM.out], HF.out _ ?_⟩
              exact ((((((Keeps.refl (fun k => k = w.heap.size + 1 ∨ k = W1.heap.size) wr).setCell (p := ⟨W1.heap.size, 1, none⟩) (.inr (.inr rfl)) _).setCell (p := ⟨w.heap.size + 1, 0, none⟩) (.inr (.inl rfl)) _).setCell (p := ⟨w.heap.size + 1, 1, none⟩) (.inr (.inl rfl)) _).setCell (p := ⟨w.heap.size + 1, 2, none⟩) (.inr (.inl rfl)) _).setCell (p := ⟨w.heap.size + 1, 3, none⟩) (.inr (.inl rfl)) _)
            · have hq' : decide (peak < (us.length : Int) + 1) = false := by simpa using hq
              have HM := Lib.hid (show max peak ((us.length : Int) + 1) = peak by omega)
              go_wp2_with fail
              refine bodyPost_ret (v := .tuple #[.agg #[.int .i64 most, .int .i64 peak, .slice Ah (us.length + 1) ch, .slice Au (us.length + 1) cu], .int .i64 h', .int .i64 0]) (by simp [results, Try.results13, go_sem, a0, a1, a2, a3]) rfl ⟨_, _, by rw [HM.out], HF.out _ ?_⟩
              exact ((((((Keeps.refl (fun k => k = w.heap.size + 1 ∨ k = W1.heap.size) wr)).setCell (p := ⟨w.heap.size + 1, 0, none⟩) (.inr (.inl rfl)) _).setCell (p := ⟨w.heap.size + 1, 1, none⟩) (.inr (.inl rfl)) _).setCell (p := ⟨w.heap.size + 1, 2, none⟩) (.inr (.inl rfl)) _).setCell (p := ⟨w.heap.size + 1, 3, none⟩) (.inr (.inl rfl)) _)
          | false =>
            have HI := Lib.hid hii
            have HD := Lib.hid hd
            have e := built_end_not (v := v) (by rw [← hii]; exact hd : doneAt h' us us.length = false)
            rw [← hii] at e
            have HE := Lib.hid e
            clear hd hii e
            go_upto_region 18 with (fail)
            have fr2 := hN.free 2
            have n2 : wr.cell? ⟨W1.heap.size, 2, none⟩ = some hs := by simpa using hN.cell 2
            obtain ⟨gg, cap, wt, hrun, hown1, hgrow, hat⟩ := run_app_int (w := wr) hN.own1 (h') (by omega) hN.bb
            have p2 : wt.cell? ⟨W1.heap.size, 2, none⟩ = some hs := by
              rw [hgrow.cell_far ⟨W1.heap.size, 2, none⟩ hN.lt (fun e => hN.ne1 e.symm)]; exact n2
            have pf : wt.frozen? ⟨W1.heap.size, 2, none⟩ = false := by
              rw [hgrow.frozen_far ⟨W1.heap.size, 2, none⟩ hN.lt (fun e => hN.ne1 e.symm)]; exact fr2
            change ∀ ty, Sem.run Try.prog (appendW #[30, 30] ty #[hs, .slice (some ⟨wr.heap.size, 0, none⟩) 1 1]) (wr.alloc (.cells #[.int .i64 (h')] 3)) = .ok (.slice (some ⟨gg, 0, none⟩) ((keys (built h' v us i)).length + 1) cap) wt at hrun
            have l8 := hN.lt
            go_upto_region 19 with (fail)
            have hNa := hN.app1 (w1 := wt) (x := h') hown1 ⟨hgrow.os, hgrow.tape, hgrow.output, hgrow.size, hgrow.block⟩ hat
            have hBa : Below W1.heap.size W1 (wt.setCell ⟨W1.heap.size, 2, none⟩ (.slice (some ⟨gg, 0, none⟩) ((keys (built h' v us i)).length + 1) cap)) :=
              (hB.trans (Below.grown (Below.refl _ _) (⟨hgrow.os, hgrow.tape, hgrow.output, hgrow.size, hgrow.block⟩ : wr.grownBy wt hs.ownBlock) hN.bb (fun g e => (hN.own1.lt g e).1))).setCell (p := ⟨W1.heap.size, 2, none⟩) (Nat.le_refl _) _
            clear hrun hown1 hgrow hat p2 pf n2 fr2 l8
            generalize wt.setCell ⟨W1.heap.size, 2, none⟩ (.slice (some ⟨gg, 0, none⟩) ((keys (built h' v us i)).length + 1) cap) = wa at *
            generalize hvwa : (Value.slice (some ⟨gg, 0, none⟩) ((keys (built h' v us i)).length + 1) cap) = vwa at *
            clear hvwa wt gg
            have fr3 := hNa.free 3
            have n3 : wa.cell? ⟨W1.heap.size, 3, none⟩ = some vs := by simpa using hNa.cell 3
            obtain ⟨gg, cap, wt, hrun, hown1, hgrow, hat⟩ := run_app_int (w := wa) hNa.own2 (v) (by omega) hNa.bb
            have p2 : wt.cell? ⟨W1.heap.size, 3, none⟩ = some vs := by
              rw [hgrow.cell_far ⟨W1.heap.size, 3, none⟩ hNa.lt (fun e => hNa.ne2 e.symm)]; exact n3
            have pf : wt.frozen? ⟨W1.heap.size, 3, none⟩ = false := by
              rw [hgrow.frozen_far ⟨W1.heap.size, 3, none⟩ hNa.lt (fun e => hNa.ne2 e.symm)]; exact fr3
            change ∀ ty, Sem.run Try.prog (appendW #[30, 30] ty #[vs, .slice (some ⟨wa.heap.size, 0, none⟩) 1 1]) (wa.alloc (.cells #[.int .i64 (v)] 3)) = .ok (.slice (some ⟨gg, 0, none⟩) ((vals (built h' v us i)).length + 1) cap) wt at hrun
            have l8 := hNa.lt
            go_upto_region 20 with (fail)
            have hNb := hNa.app2 (w1 := wt) (x := v) hown1 ⟨hgrow.os, hgrow.tape, hgrow.output, hgrow.size, hgrow.block⟩ hat
            have hBb : Below W1.heap.size W1 (wt.setCell ⟨W1.heap.size, 3, none⟩ (.slice (some ⟨gg, 0, none⟩) ((vals (built h' v us i)).length + 1) cap)) :=
              (hBa.trans (Below.grown (Below.refl _ _) (⟨hgrow.os, hgrow.tape, hgrow.output, hgrow.size, hgrow.block⟩ : wa.grownBy wt vs.ownBlock) hNa.bb (fun g e => (hNa.own2.lt g e).1))).setCell (p := ⟨W1.heap.size, 3, none⟩) (Nat.le_refl _) _
            clear hrun hown1 hgrow hat p2 pf n3 fr3 l8
            generalize wt.setCell ⟨W1.heap.size, 3, none⟩ (.slice (some ⟨gg, 0, none⟩) ((vals (built h' v us i)).length + 1) cap) = wb at *
            generalize hvwb : (Value.slice (some ⟨gg, 0, none⟩) ((vals (built h' v us i)).length + 1) cap) = vwb at *
            clear hvwb wt gg
            rw [← keys_snoc (built h' v us i) (h', v), ← vals_snoc (built h' v us i) (h', v), HE.out] at hNb
            clear hBa hNa hN hB c2 HE kbl vbl hbl
            have hlk : (keys (ins h' v us)).length = us.length + 1 := by rw [keys_len, len_ins]
            have hlv : (vals (ins h' v us)).length = us.length + 1 := by rw [vals_len, len_ins]
            obtain ⟨Ah, ch, rfl⟩ := own_shape hNb.own1
            obtain ⟨Au, cu, rfl⟩ := own_shape hNb.own2
            have n0 : wb.cell? ⟨W1.heap.size, 0, none⟩ = some (.int .i64 most) := by simpa using hNb.cell 0
            have n1 : wb.cell? ⟨W1.heap.size, 1, none⟩ = some (.int .i64 peak) := by simpa using hNb.cell 1
            have n2 : wb.cell? ⟨W1.heap.size, 2, none⟩ = some (.slice Ah (us.length + 1) ch) := by rw [← hlk]; simpa using hNb.cell 2
            have n3 : wb.cell? ⟨W1.heap.size, 3, none⟩ = some (.slice Au (us.length + 1) cu) := by rw [← hlv]; simpa using hNb.cell 3
            have fr1 := hNb.free 1
            have l4 : w.heap.size + 1 < W1.heap.size := by omega
            have l8 := hNb.lt
            have b4 : ∀ j, wb.cell? ⟨w.heap.size + 1, j, none⟩ = (#[Value.int .i64 0, .int .i64 0, .slice none 0 0, .slice none 0 0] : Array Value)[j]? := fun j => by
              rw [hBb.cell (p := ⟨w.heap.size + 1, j, none⟩) l4]; simp [World.cell?, blk4']
            have f4 : ∀ j, wb.frozen? ⟨w.heap.size + 1, j, none⟩ = false := fun j => by
              rw [hBb.frozen (p := ⟨w.heap.size + 1, j, none⟩) l4]; simp [World.frozen?, blk4']
            have a0 := b4 0
            have a1 := b4 1
            have a2 := b4 2
            have a3 := b4 3
            simp at a0 a1 a2 a3
            have s0 := f4 0
            have s1 := f4 1
            have s2 := f4 2
            have s3 := f4 3
            have hfin : ∀ W', Keeps (fun k => k = w.heap.size + 1 ∨ k = W1.heap.size) wb W' → W'.ownsRow w.heap.size 3 1 (.slice Ah (us.length + 1) ch) (ins h' v us).length (ints (keys (ins h' v us))) ∧
                W'.ownsRow w.heap.size 3 1 (.slice Au (us.length + 1) cu) (ins h' v us).length (ints (vals (ins h' v us))) ∧ Below w.heap.size w W' := fun W' hK => by
              have o1 := hNb.own1
              have o2 := hNb.own2
              have e1 := hNb.ne1
              have e2 := hNb.ne2
              rw [hlk] at o1 e1
              rw [hlv] at o2 e2
              rw [len_ins]
              refine ⟨own_base (hK.ownsRow o1 (fun b hb e => ?_)) (by omega), own_base (hK.ownsRow o2 (fun b hb e => ?_)) (by omega), ?_⟩
              · rcases e with e | e
                · have := (o1.lt b hb).1; omega
                · exact e1 (by rw [hb, e])
              · rcases e with e | e
                · have := (o2.lt b hb).1; omega
                · exact e2 (by rw [hb, e])
              · have hb1 : Below w.heap.size w W1 := k1.below (fun _ h => h.elim) (Nat.le_refl _)
                have hb3 : Below w.heap.size wb W' := hK.below (fun _ h => by omega) (by have := hBb.size; omega)
                exact (hb1.trans (hBb.mono (by omega))).trans hb3
            have HF := Lib.hid hfin
            have HB := Lib.hid hBb
            have HN := Lib.hid hNb
            clear hfin b4 f4 hr hr' hBb hNb blk4' blk2' hlk hlv
            have hus : us.length + 1 ≤ 1025 := by omega
            by_cases hq : peak < (us.length : Int) + 1
            · have HM := Lib.hid (show max peak ((us.length : Int) + 1) = us.length + 1 by omega)
              go_wp2_with fail
              refine bodyPost_ret (v := .tuple #[.agg #[.int .i64 most, .int .i64 (us.length + 1), .slice Ah (us.length + 1) ch, .slice Au (us.length + 1) cu], .int .i64 h', .int .i64 0]) (by simp [results, Try.results13, go_sem, a0, a1, a2, a3]) rfl ⟨_, _, by rw [HM.out], HF.out _ ?_⟩
              exact ((((((Keeps.refl (fun k => k = w.heap.size + 1 ∨ k = W1.heap.size) wb).setCell (p := ⟨W1.heap.size, 1, none⟩) (.inr (.inr rfl)) _).setCell (p := ⟨w.heap.size + 1, 0, none⟩) (.inr (.inl rfl)) _).setCell (p := ⟨w.heap.size + 1, 1, none⟩) (.inr (.inl rfl)) _).setCell (p := ⟨w.heap.size + 1, 2, none⟩) (.inr (.inl rfl)) _).setCell (p := ⟨w.heap.size + 1, 3, none⟩) (.inr (.inl rfl)) _)
            · have hq' : decide (peak < (us.length : Int) + 1) = false := by simpa using hq
              have HM := Lib.hid (show max peak ((us.length : Int) + 1) = peak by omega)
              go_wp2_with fail
              refine bodyPost_ret (v := .tuple #[.agg #[.int .i64 most, .int .i64 peak, .slice Ah (us.length + 1) ch, .slice Au (us.length + 1) cu], .int .i64 h', .int .i64 0]) (by simp [results, Try.results13, go_sem, a0, a1, a2, a3]) rfl ⟨_, _, by rw [HM.out], HF.out _ ?_⟩
              exact ((((((Keeps.refl (fun k => k = w.heap.size + 1 ∨ k = W1.heap.size) wb)).setCell (p := ⟨w.heap.size + 1, 0, none⟩) (.inr (.inl rfl)) _).setCell (p := ⟨w.heap.size + 1, 1, none⟩) (.inr (.inl rfl)) _).setCell (p := ⟨w.heap.size + 1, 2, none⟩) (.inr (.inl rfl)) _).setCell (p := ⟨w.heap.size + 1, 3, none⟩) (.inr (.inl rfl)) _)
    · have hi : 0 ≤ idx (keys us) h' := idx_mem (HL3.out h' h1 (by omega))
      have hlt : h' < L := by omega
      clear he
      go_wp2_with fail
      refine hat.mono ?_
      rintro e Wb ⟨rfl, hWb⟩
      have kWb : Keeps (fun _ => False) W0 Wb := by rw [hWb]; exact hK.alloc _
      clear hat hWb
      go_wp2_with fail
      go_roundw
      case rel => exact ⟨h' + 1, rfl, by omega, by omega, kWb⟩
      case measure => simp [intOf]; omega
end Go.Proofs.Ytejnhhpjlajngaa
