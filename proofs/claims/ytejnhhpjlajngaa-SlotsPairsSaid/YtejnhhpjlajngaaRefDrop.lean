/-
  PROVED HERE: the contract of the reference's Drop (valiseref13.Table.Drop).
  CONDITIONS: the two lists are of one length, at most 1048576.
-/
import Derived.Test.YtejnhhpjlajngaaRefApp
namespace Go.Proofs.Ytejnhhpjlajngaa
open Go.RowKit HeapM TabM Go.Maps

def cutAt (k i : Nat) (ks : List Int) : List Int := (ks.take i).eraseIdx k
theorem cutAt_step {k i : Nat} {ks : List Int} (hi : i < ks.length) (hne : i ≠ k) : cutAt k (i + 1) ks = cutAt k i ks ++ [at_ ks i] := by
  unfold cutAt
  have e : ks.take (i + 1) = ks.take i ++ [at_ ks i] := by
    rw [List.take_succ_eq_append_getElem hi]
    simp [at_, List.getD_eq_getElem?_getD, hi]
  rw [e]
  rcases Nat.lt_or_ge i k with h | h
  · rw [List.eraseIdx_of_length_le (by simp; omega), List.eraseIdx_of_length_le (by simp; omega)]
  · rw [List.eraseIdx_append_of_lt_length (by simp; omega)]
theorem cutAt_skip {k : Nat} {ks : List Int} (hi : k < ks.length) : cutAt k (k + 1) ks = cutAt k k ks := by
  unfold cutAt
  have e : ks.take (k + 1) = ks.take k ++ [at_ ks k] := by
    rw [List.take_succ_eq_append_getElem hi]
    simp [at_, List.getD_eq_getElem?_getD, hi]
  have hl : (ks.take k).length = k := by simp; omega
  rw [e, List.eraseIdx_append_of_length_le (by omega), hl, Nat.sub_self, List.eraseIdx_of_length_le (l := ks.take k) (by omega)]
  simp
theorem cutAt_len {k i : Nat} {ks : List Int} : (cutAt k i ks).length ≤ ks.length := by
  unfold cutAt
  have := List.length_eraseIdx_le (ks.take i) k
  have h2 : (ks.take i).length ≤ ks.length := by simp; omega
  omega

attribute [local go_sem ↓ 2000] builtin_appendW

set_option maxRecDepth 100000 in
set_option maxHeartbeats 4000000 in
theorem ref_drop_hit (most peak : Int) (A A' : Option Addr) (c c' : Nat) (ks vs : List Int) (h : Int) (k : Nat) (w : World) (hr : RdI w w.heap.size A ks) (hr' : RdI w w.heap.size A' vs) (hv : vs.length = ks.length)
    (hl : ks.length ≤ 1048576) (hk : idx ks h = k) (hkl : k < ks.length) :
    Calls Try.prog 16 #[.agg #[.int .i64 most, .int .i64 peak, .slice A ks.length c, .slice A' ks.length c'], .int .i64 h] w fun e w' =>
      ∃ hs' vs', e = .returned (.tuple #[.agg #[.int .i64 most, .int .i64 peak, hs', vs'], .int .i64 (at_ vs k), .int .i64 0]) ∧
        w'.ownsRow w.heap.size 3 1 hs' (ks.eraseIdx k).length (ints (ks.eraseIdx k)) ∧ w'.ownsRow w.heap.size 3 1 vs' (vs.eraseIdx k).length (ints (vs.eraseIdx k)) ∧ Below w.heap.size w w' := by
  obtain ⟨i0, hi0, hz0, hz1, hz2⟩ := info_parts int_info
  have HK := Lib.hid hk
  have HV := Lib.hid hv
  clear hk hv
  go_enter Try.func16, Try.ntmps16
  go_wp2_with fail
  generalize hW0 : (w.alloc (.cells #[.int .i64 most, .int .i64 peak, .slice A ks.length c, .slice A' ks.length c'] 32)).alloc (.cells #[.int .i64 0, .int .i64 0, .slice none 0 0, .slice none 0 0] 32) = W0
  have kW : Keeps (fun _ => False) w W0 := by rw [← hW0]; exact ((Keeps.refl _ w).alloc _).alloc _
  have blk2 : W0.heap[w.heap.size]? = some (.cells #[.int .i64 most, .int .i64 peak, .slice A ks.length c, .slice A' ks.length c'] 32 (0, 0)) := by
    rw [← hW0, Below.heap_alloc _ _ _ (by simp)]
    exact heap_alloc_new w _
  have blk4 : W0.heap[w.heap.size + 1]? = some (.cells #[.int .i64 0, .int .i64 0, .slice none 0 0, .slice none 0 0] 32 (0, 0)) := by
    rw [← hW0]
    have := heap_alloc_new (w.alloc (.cells #[.int .i64 most, .int .i64 peak, .slice A ks.length c, .slice A' ks.length c'] 32)) (.cells #[.int .i64 0, .int .i64 0, .slice none 0 0, .slice none 0 0] 32)
    simpa using this
  have sz0 : W0.heap.size = w.heap.size + 2 := by rw [← hW0]; simp
  clear hW0
  refine (ref_at _ _ _ _ _ _ _ _ (fun j hj => ?_) hl).mono ?_
  · obtain ⟨g, e1, e2, e3⟩ := (hr.keeps kW (Nat.le_refl _) (fun _ _ _ h => h)) j hj
    exact ⟨g, e1, by omega, e3⟩
  rintro e W1' ⟨rfl, hW1⟩
  obtain ⟨W1, rfl⟩ : ∃ W1, W1 = W1' := ⟨_, rfl⟩
  have k1 : Keeps (fun _ => False) w W1 := by rw [hW1]; exact kW.alloc _
  have blk2' : W1.heap[w.heap.size]? = some (.cells #[.int .i64 most, .int .i64 peak, .slice A ks.length c, .slice A' ks.length c'] 32 (0, 0)) := by rw [hW1, Below.heap_alloc _ _ _ (by omega)]; exact blk2
  have blk4' : W1.heap[w.heap.size + 1]? = some (.cells #[.int .i64 0, .int .i64 0, .slice none 0 0, .slice none 0 0] 32 (0, 0)) := by rw [hW1, Below.heap_alloc _ _ _ (by omega)]; exact blk4
  have sz1 : W1.heap.size = w.heap.size + 3 := by rw [hW1]; simp [sz0]
  clear hW1 kW blk2 blk4 sz0
  rw [HK.out]
  have d0 : W1.cell? ⟨w.heap.size, 0, none⟩ = some (.int .i64 most) := by simp [World.cell?, blk2']
  have d1 : W1.cell? ⟨w.heap.size, 1, none⟩ = some (.int .i64 peak) := by simp [World.cell?, blk2']
  have SZ := Lib.hid sz1
  clear sz1
  go_wp2_with fail
  have hnst : NSt W1.heap.size W1.heap.size (.int .i64 most) (.int .i64 peak) (.slice none 0 0) (.slice none 0 0) (cutAt k 0 ks) (cutAt k 0 vs) (W1.alloc (.cells #[.int .i64 most, .int .i64 peak, .slice none 0 0, .slice none 0 0] 32)) :=
    ⟨heap_alloc_new W1 _, ⟨by simp [cutAt, ints], .inl ⟨rfl, by simp [cutAt]⟩⟩, ⟨by simp [cutAt, ints], .inl ⟨rfl, by simp [cutAt]⟩⟩, fun g e => by simp [Value.ownBlock] at e, by simp⟩
  have hbel : Below W1.heap.size W1 (W1.alloc (.cells #[.int .i64 most, .int .i64 peak, .slice none 0 0, .slice none 0 0] 32)) := (Below.refl _ _).alloc (Nat.le_refl _) _
  go_loopw [9] (fun v wr => ∃ (i : Nat) (hs us : Value), v = .int .i64 i ∧ i ≤ ks.length ∧ NSt W1.heap.size W1.heap.size (.int .i64 most) (.int .i64 peak) hs us (cutAt k i ks) (cutAt k i vs) wr ∧ Below W1.heap.size W1 wr) (fun v _ => ks.length - (intOf v).toNat)
  case atStart => exact ⟨0, _, _, rfl, Nat.zero_le _, hnst, hbel⟩
  case round =>
    obtain ⟨i, hs, us, rfl, hi, hN, hB⟩ := hrel
    clear hnst hbel d0 d1
    have c2 : wr.cell? ⟨w.heap.size, 2, none⟩ = some (.slice A ks.length c) := by
      rw [hB.cell (p := ⟨w.heap.size, 2, none⟩) (by have := SZ.out; show w.heap.size < _; omega)]; simp [World.cell?, blk2']
    have c3 : wr.cell? ⟨w.heap.size, 3, none⟩ = some (.slice A' ks.length c') := by
      rw [hB.cell (p := ⟨w.heap.size, 3, none⟩) (by have := SZ.out; show w.heap.size < _; omega)]; simp [World.cell?, blk2']
    by_cases hlt : i < ks.length
    · have hlt' : (i : Int) < (ks.length : Int) := by omega
      by_cases hik : i = k
      · have hik' : ((i : Int) != (k : Int)) = false := by rw [hik]; simp
        have HIK := Lib.hid hik
        clear hik
        go_wp2_with fail
        go_roundw
        case rel => exact ⟨i + 1, hs, us, by go_num, by omega, by have e := HIK.out; subst e; rw [cutAt_skip hkl, cutAt_skip (by rw [HV.out]; exact hkl)]; exact hN, hB⟩
        case measure => simp [intOf]; omega
      · have hik' : ((i : Int) != (k : Int)) = true := by rw [bne_iff_ne]; omega
        obtain ⟨g1, rfl, hg1, hc1⟩ := hr i hlt
        obtain ⟨g2, rfl, hg2, hc2⟩ := hr' i (by rw [HV.out]; exact hlt)
        have q1 : wr.cell? ⟨g1, i, none⟩ = some (.int .i64 (at_ ks i)) := by
          rw [hB.cell (p := ⟨g1, i, none⟩) (by have := SZ.out; show g1 < _; omega), k1.cell (p := ⟨g1, i, none⟩) hg1 (fun h => h)]; exact hc1
        have q2 : wr.cell? ⟨g2, i, none⟩ = some (.int .i64 (at_ vs i)) := by
          rw [hB.cell (p := ⟨g2, i, none⟩) (by have := SZ.out; show g2 < _; omega), k1.cell (p := ⟨g2, i, none⟩) hg2 (fun h => h)]; exact hc2
        have n2 : wr.cell? ⟨W1.heap.size, 2, none⟩ = some hs := by simpa using hN.cell 2
        have lk := cutAt_len (k := k) (i := i) (ks := ks)
        have fr2 := hN.free 2
        have l8 := hN.lt
        have l2 : w.heap.size < wr.heap.size := by have := SZ.out; omega
        have lg1 : g1 < wr.heap.size := by omega
        have lg2 : g2 < wr.heap.size := by omega
        obtain ⟨gg, cap, w1, hrun, hown1, hgrow, hat⟩ := run_app_int (w := wr.drew) hN.own1 (at_ ks i) (by omega) hN.bb
        have p2 : w1.cell? ⟨W1.heap.size, 2, none⟩ = some hs := by
          rw [hgrow.cell_far ⟨W1.heap.size, 2, none⟩ hN.lt (fun e => hN.ne1 e.symm)]; exact n2
        have pf : w1.frozen? ⟨W1.heap.size, 2, none⟩ = false := by
          rw [hgrow.frozen_far ⟨W1.heap.size, 2, none⟩ hN.lt (fun e => hN.ne1 e.symm)]; exact fr2
        change ∀ ty, Sem.run Try.prog (appendW #[30, 30] ty #[hs, .slice (some ⟨wr.heap.size, 0, none⟩) 1 1]) (wr.alloc (.cells #[.int .i64 (at_ ks i)] 3)).drew = .ok (.slice (some ⟨gg, 0, none⟩) ((cutAt k i ks).length + 1) cap) w1 at hrun
        go_wp2_with fail
        go_region
        have hN2 := hN.app1 (w1 := w1) (x := at_ ks i) hown1 ⟨hgrow.os, hgrow.tape, hgrow.output, hgrow.size, hgrow.block⟩ hat
        have hB2 : Below W1.heap.size W1 (w1.setCell ⟨W1.heap.size, 2, none⟩ (.slice (some ⟨gg, 0, none⟩) ((cutAt k i ks).length + 1) cap)) :=
          ((hB.drew).grown hgrow hN.bb (fun g e => (hN.own1.lt g e).1)).setCell (p := ⟨W1.heap.size, 2, none⟩) (Nat.le_refl _) _
        have hz2 := hN2.lt
        clear hrun hown1 hgrow hat p2 pf q1 c2 c3 n2 fr2
        generalize w1.setCell ⟨W1.heap.size, 2, none⟩ (.slice (some ⟨gg, 0, none⟩) ((cutAt k i ks).length + 1) cap) = wa at *
        have c3 : wa.cell? ⟨w.heap.size, 3, none⟩ = some (.slice (some ⟨g2, 0, none⟩) ks.length c') := by
          rw [hB2.cell (p := ⟨w.heap.size, 3, none⟩) (by have := SZ.out; show w.heap.size < _; omega)]; simp [World.cell?, blk2']
        have q2' : wa.cell? ⟨g2, i, none⟩ = some (.int .i64 (at_ vs i)) := by
          rw [hB2.cell (p := ⟨g2, i, none⟩) (by have := SZ.out; show g2 < _; omega), k1.cell (p := ⟨g2, i, none⟩) hg2 (fun h => h)]; exact hc2
        have n3 : wa.cell? ⟨W1.heap.size, 3, none⟩ = some us := by simpa using hN2.cell 3
        have fr3 := hN2.free 3
        have lv := cutAt_len (k := k) (i := i) (ks := vs)
        have m2 : w.heap.size < wa.heap.size := by have := SZ.out; omega
        have m3 : g2 < wa.heap.size := by omega
        obtain ⟨gv, capv, w2, hrun, hown1, hgrow, hat⟩ := run_app_int (w := wa.drew) hN2.own2 (at_ vs i) (by have := HV.out; omega) hN2.bb
        have p2 : w2.cell? ⟨W1.heap.size, 3, none⟩ = some us := by
          rw [hgrow.cell_far ⟨W1.heap.size, 3, none⟩ hN2.lt (fun e => hN2.ne2 e.symm)]; exact n3
        have pf : w2.frozen? ⟨W1.heap.size, 3, none⟩ = false := by
          rw [hgrow.frozen_far ⟨W1.heap.size, 3, none⟩ hN2.lt (fun e => hN2.ne2 e.symm)]; exact fr3
        change ∀ ty, Sem.run Try.prog (appendW #[30, 30] ty #[us, .slice (some ⟨wa.heap.size, 0, none⟩) 1 1]) (wa.alloc (.cells #[.int .i64 (at_ vs i)] 3)).drew = .ok (.slice (some ⟨gv, 0, none⟩) ((cutAt k i vs).length + 1) capv) w2 at hrun
        clear q2 l8 l2 lg1 lg2
        go_wp2_with fail
        go_region
        have hN3 := hN2.app2 (w1 := w2) (x := at_ vs i) hown1 ⟨hgrow.os, hgrow.tape, hgrow.output, hgrow.size, hgrow.block⟩ hat
        have hB3 : Below W1.heap.size W1 (w2.setCell ⟨W1.heap.size, 3, none⟩ (.slice (some ⟨gv, 0, none⟩) ((cutAt k i vs).length + 1) capv)) :=
          ((hB2.drew).grown hgrow hN2.bb (fun g e => (hN2.own2.lt g e).1)).setCell (p := ⟨W1.heap.size, 3, none⟩) (Nat.le_refl _) _
        rw [← cutAt_step hlt hik, ← cutAt_step (by rw [HV.out]; exact hlt) hik] at hN3
        have HN3 := Lib.hid hN3
        clear hN3 hrun hown1 hgrow hat p2 pf c3 n3 fr3 q2'
        go_wp2_with fail
        go_roundw
        case rel => exact ⟨i + 1, _, _, by go_num, by omega, HN3.out, hB3⟩
        case measure => simp [intOf]; omega
    · have hlt' : decide ((i : Int) < (ks.length : Int)) = false := by simp; omega
      obtain ⟨g2, rfl, hg2, hc2⟩ := hr' k (by rw [HV.out]; exact hkl)
      have q2 : wr.cell? ⟨g2, k, none⟩ = some (.int .i64 (at_ vs k)) := by
        rw [hB.cell (p := ⟨g2, k, none⟩) (by have := SZ.out; show g2 < _; omega), k1.cell (p := ⟨g2, k, none⟩) hg2 (fun h => h)]; exact hc2
      have n0 : wr.cell? ⟨W1.heap.size, 0, none⟩ = some (.int .i64 most) := by simpa using hN.cell 0
      have n1 : wr.cell? ⟨W1.heap.size, 1, none⟩ = some (.int .i64 peak) := by simpa using hN.cell 1
      have n2 : wr.cell? ⟨W1.heap.size, 2, none⟩ = some hs := by simpa using hN.cell 2
      have n3 : wr.cell? ⟨W1.heap.size, 3, none⟩ = some us := by simpa using hN.cell 3
      have l4 : w.heap.size + 1 < W1.heap.size := by have := SZ.out; omega
      have b4 : ∀ j, wr.cell? ⟨w.heap.size + 1, j, none⟩ = (#[Value.int .i64 0, .int .i64 0, .slice none 0 0, .slice none 0 0] : Array Value)[j]? := fun j => by
        rw [hB.cell (p := ⟨w.heap.size + 1, j, none⟩) l4]; simp [World.cell?, blk4']
      have f4 : ∀ j, wr.frozen? ⟨w.heap.size + 1, j, none⟩ = false := fun j => by
        rw [hB.frozen (p := ⟨w.heap.size + 1, j, none⟩) l4]; simp [World.frozen?, blk4']
      have hkl' : (k : Int) < (ks.length : Int) := by omega
      have hik : i = ks.length := by omega
      have HI := Lib.hid hik
      clear hik
      obtain ⟨Ah, ch, rfl⟩ := own_shape hN.own1
      obtain ⟨Au, cu, rfl⟩ := own_shape hN.own2
      have a0 := b4 0
      have a1 := b4 1
      have a2 := b4 2
      have a3 := b4 3
      simp at a0 a1 a2 a3
      have s0 := f4 0
      have s1 := f4 1
      have s2 := f4 2
      have s3 := f4 3
      have HB := Lib.hid hB
      have HN := Lib.hid hN
      clear b4 f4 hr hr' hB hN blk4' blk2'
      go_wp2_with fail
      go_region
      go_wp2_with fail
      have hfin : ∀ W, Keeps (fun k => k = w.heap.size + 1) wr W → W.ownsRow w.heap.size 3 1 (.slice Ah (cutAt k i ks).length ch) (ks.eraseIdx k).length (ints (ks.eraseIdx k)) ∧
          W.ownsRow w.heap.size 3 1 (.slice Au (cutAt k i vs).length cu) (vs.eraseIdx k).length (ints (vs.eraseIdx k)) ∧ Below w.heap.size w W := fun W hK => by
        have e1 : cutAt k i ks = ks.eraseIdx k := by unfold cutAt; rw [HI.out, List.take_length]
        have e2 : cutAt k i vs = vs.eraseIdx k := by unfold cutAt; rw [HI.out, ← HV.out, List.take_length]
        have o1 := HN.out.own1
        have o2 := HN.out.own2
        rw [e1] at o1 ⊢
        rw [e2] at o2 ⊢
        have hsz := SZ.out
        refine ⟨own_base (hK.ownsRow o1 (fun b hb e => ?_)) (by omega), own_base (hK.ownsRow o2 (fun b hb e => ?_)) (by omega), ?_⟩
        · have := (o1.lt b hb).1; omega
        · have := (o2.lt b hb).1; omega
        · have hb1 : Below w.heap.size w W1 := k1.below (fun _ h => h.elim) (Nat.le_refl _)
          have hb3 : Below w.heap.size wr W := hK.below (fun _ h => by omega) (by have := HB.out.size; omega)
          exact (hb1.trans (HB.out.mono (by omega))).trans hb3
      have HF := Lib.hid hfin
      clear hfin
      refine bodyPost_ret (v := .tuple #[.agg #[.int .i64 most, .int .i64 peak, .slice Ah (cutAt k i ks).length ch, .slice Au (cutAt k i vs).length cu], .int .i64 (at_ vs k), .int .i64 0]) (by simp [results, Try.results16, go_sem, a0, a1, a2, a3]) rfl ⟨_, _, rfl, HF.out _ ?_⟩
      exact (((((Keeps.refl (fun k => k = w.heap.size + 1) wr).setCell (p := ⟨w.heap.size + 1, 0, none⟩) (.inr rfl) _).setCell (p := ⟨w.heap.size + 1, 1, none⟩) (.inr rfl) _).setCell (p := ⟨w.heap.size + 1, 2, none⟩) (.inr rfl) _).setCell (p := ⟨w.heap.size + 1, 3, none⟩) (.inr rfl) _).drew

set_option maxRecDepth 100000 in
set_option maxHeartbeats 2000000 in
theorem ref_drop_miss (most peak : Int) (A A' : Option Addr) (c c' n' : Nat) (ks : List Int) (h : Int) (w : World) (hr : RdI w w.heap.size A ks)
    (hl : ks.length ≤ 1048576) (hk : idx ks h = -1) :
    Calls Try.prog 16 #[.agg #[.int .i64 most, .int .i64 peak, .slice A ks.length c, .slice A' n' c'], .int .i64 h] w fun e w' =>
      e = .returned (.tuple #[.agg #[.int .i64 most, .int .i64 peak, .slice A ks.length c, .slice A' n' c'], .int .i64 0, .int .i64 131]) ∧ Below w.heap.size w w' := by
  have HK := Lib.hid hk
  clear hk
  go_enter Try.func16, Try.ntmps16
  go_wp2_with fail
  refine (ref_at _ _ _ _ _ _ _ _ (fun j hj => ?_) hl).mono ?_
  · obtain ⟨g, e1, e2, e3⟩ := hr j hj
    refine ⟨g, e1, by simp; omega, ?_⟩
    rw [World.cell?_alloc_lt _ _ ⟨g, j, none⟩ (by show g < _; simp; omega), World.cell?_alloc_lt _ _ ⟨g, j, none⟩ e2]; exact e3
  rintro e W1 ⟨rfl, rfl⟩
  rw [HK.out]
  go_wp2_with fail
  refine bodyPost_ret (v := .tuple #[.agg #[.int .i64 most, .int .i64 peak, .slice A ks.length c, .slice A' n' c'], .int .i64 0, .int .i64 131]) (by simp [results, Try.results16, go_sem]) rfl ⟨rfl, ?_⟩
  repeat (first | exact Below.refl _ _ | refine Below.alloc ?_ (by simp <;> omega) _ | refine Below.setCell ?_ (by simp) _)

set_option maxHeartbeats 1000000 in
theorem ref_new (most : Int) (w : World) :
    Calls Try.prog 10 #[.int .i64 most] w fun e w' => e = .returned (.agg #[.int .i64 (min (max most 0) 1024), .int .i64 0, .slice none 0 0, .slice none 0 0]) ∧ Below w.heap.size w w' := by
  by_cases h0 : most < 0
  · have HM := Lib.hid (show min (max most 0) 1024 = 0 by omega)
    go_enter Try.func10, Try.ntmps10
    go_wp2_with fail
    exact bodyPost_ret (v := .agg #[.int .i64 0, .int .i64 0, .slice none 0 0, .slice none 0 0]) (by simp [results, Try.results10, go_sem]) rfl ⟨by rw [HM.out], (Below.refl _ _).alloc (Nat.le_refl _) _⟩
  · by_cases h1 : 1024 < most
    · have HM := Lib.hid (show min (max most 0) 1024 = 1024 by omega)
      go_enter Try.func10, Try.ntmps10
      go_wp2_with fail
      exact bodyPost_ret (v := .agg #[.int .i64 1024, .int .i64 0, .slice none 0 0, .slice none 0 0]) (by simp [results, Try.results10, go_sem]) rfl ⟨by rw [HM.out], (Below.refl _ _).alloc (Nat.le_refl _) _⟩
    · have HM := Lib.hid (show min (max most 0) 1024 = most by omega)
      go_enter Try.func10, Try.ntmps10
      go_wp2_with fail
      exact bodyPost_ret (v := .agg #[.int .i64 most, .int .i64 0, .slice none 0 0, .slice none 0 0]) (by simp [results, Try.results10, go_sem]) rfl ⟨by rw [HM.out], (Below.refl _ _).alloc (Nat.le_refl _) _⟩
end Go.Proofs.Ytejnhhpjlajngaa
