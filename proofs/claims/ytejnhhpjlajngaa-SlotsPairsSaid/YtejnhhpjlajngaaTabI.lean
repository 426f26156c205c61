/-
  PROVED HERE: the contracts of slots.Table[int]'s methods.
  CONDITIONS: as the theorems say: the table is one in memory ('Tab').
-/
import Derived.Test.YtejnhhpjlajngaaTab
namespace Go.Proofs.Ytejnhhpjlajngaa
open Go.RowKit HeapM TabM Go.Maps

theorem zeroI (w : World) : (zeroValue 3).run Try.prog w = .ok (.int .i64 0) w := by kernel_rfl

set_option maxRecDepth 100000 in
set_option maxHeartbeats 2000000 in
theorem putI_full (t m base : Nat) (v : Value) (l : List Int) (next most peak : Int) (us : Used Value) (A : Int) (w : World) (h : TabP 71 t m base v l next most peak us w) (hf : most ≤ us.length) :
    Calls Try.prog 22 #[.pointer (some ⟨t, 0, none⟩), .int .i64 A] w fun e w' => e = .returned (.tuple #[.int .i64 0, .int .i64 130]) ∧ Keeps (fun _ => False) w w' := by
  go_enter Try.func22, Try.ntmps22
  go_wp2_with fail
  have hT := h
  have hK : Keeps (fun _ => False) w w := Keeps.refl _ _
  have hlen := fun (n : Nat) (ty : TypeId) => (hT.map.drewN n).len (t := 69) (E := 3) Try.underlying69 ty
  have hsz : us.length ≤ 1024 := by have := hT.llen; omega
  have c0 := hT.cell 0
  have c1 := hT.cell 1
  have c2 := hT.cell 2
  have c3 := hT.cell 3
  have c4 := hT.cell 4
  simp at c0 c1 c2 c3 c4
  clear c1 c3 c4
  go_quiet (fail)
  go_wp2_with fail
  go_ret2
  exact ⟨rfl, hK.drewN _⟩

set_option maxRecDepth 100000 in
set_option maxHeartbeats 4000000 in
theorem putI_next (t m base : Nat) (v : Value) (l : List Int) (next most peak : Int) (us : Used Value) (A : Int) (w : World) (h : TabP 71 t m base v l next most peak us w) (hf : (us.length : Int) < most) (hl : l = []) :
    Calls Try.prog 22 #[.pointer (some ⟨t, 0, none⟩), .int .i64 A] w fun e w' => e = .returned (.tuple #[.int .i64 (least us), .int .i64 0]) ∧
      TabPost 71 t m base v.ownBlock most (max peak (us.length + 1)) (ins (least us) (.int .i64 A) us) w w' ∧ Keeps (fun k => k = t ∨ k = m ∨ v.ownBlock = some k) w w' := by
  subst hl
  have HLE := Lib.hid h.ti.least_next
  go_enter Try.func22, Try.ntmps22
  go_wp2_with fail
  have hT := h
  have hK : Keeps (fun _ => False) w w := Keeps.refl _ _
  have hlen := fun (n : Nat) (ty : TypeId) => (hT.map.drewN n).len (t := 69) (E := 3) Try.underlying69 ty
  have hsz : us.length ≤ 1024 := by have := hT.llen; omega
  have c0 := hT.cell 0
  have c1 := hT.cell 1
  have c2 := hT.cell 2
  have c3 := hT.cell 3
  have c4 := hT.cell 4
  simp at c0 c1 c2 c3 c4
  have f1 := hT.free 1
  have f4 := hT.free 4
  have hv : ∃ A c, v = .slice A 0 c := by
    rcases hT.own.2 with ⟨rfl, _⟩ | ⟨g, cap, cur, rfl, _⟩
    · exact ⟨_, _, rfl⟩
    · exact ⟨_, _, rfl⟩
  obtain ⟨A0, cp, rfl⟩ := hv
  have hnx : next ≤ 1025 := hT.llen.2.2.2
  have hnx1 : 1 ≤ next := hT.llen.2.2.1
  go_quiet (fail)
  rename_i nq
  go_wp2_with fail
  generalize hW2 : (w.drewN nq).setCell ⟨t, 4, none⟩ (.int .i64 (next + 1)) = W2
  have k2 : Keeps (fun k => k = t ∨ Value.ownBlock (.slice A0 0 cp) = some k) w W2 := by rw [← hW2]; exact ((Keeps.refl _ w).drewN nq).setCell (p := ⟨t, 4, none⟩) (.inr (.inl rfl)) _
  have k2' : Keeps (· = t) w W2 := by rw [← hW2]; exact ((Keeps.refl (· = t) w).drewN nq).setCell (p := ⟨t, 4, none⟩) (.inr rfl) _
  have blk2 : W2.heap[t]? = some (.cells #[.int .i64 most, .int .i64 peak, .map (some m), .slice A0 0 cp, .int .i64 (next + 1)] 71 (0, 0)) := by
    have hb := hT.blk
    rw [← hW2]
    simp [World.setCell, Array.getElem?_modify, World.drewN, hb]
  have own2 := k2'.ownsRow hT.own (fun b hb e => hT.vt (by rw [hb, e]))
  have hSm : ¬ (m = t ∨ Value.ownBlock (.slice A0 0 cp) = some m) := fun e => e.elim hT.mt hT.vm
  have hti := hT.ti
  clear hW2 hlen c0 c1 c2 c3 c4 f1 f4
  have e0 : W2.cell? ⟨t, 0, none⟩ = some (.int .i64 most) := by simp [World.cell?, blk2]
  have e2 : W2.cell? ⟨t, 2, none⟩ = some (.map (some m)) := by simp [World.cell?, blk2]
  have bl2 : t < W2.heap.size := Nat.lt_of_lt_of_le hT.lt k2.size
  have k3 : Keeps (fun k => k = t ∨ Value.ownBlock (.slice A0 0 cp) = some k) w W2 := k2
  have blk3 : W2.heap[t]? = _ := blk2
  have map3 := hT.map.keeps k3 hSm
  have own3 : W2.ownsRow _ _ _ _ _ _ := own2
  have hnk : next ∉ keys us := fun hm => by have := (hti.pos _ hm).2; omega
  have hhb : 1 ≤ next ∧ next ≤ 1025 := by omega
  have hkey : keyOf Try.prog 3 (.int .i64 (next)) = some (.int .i64 (next)) := keyOf_int_mk Try.underlying3 (WalkArith.wf_i64 (by omega))
  obtain ⟨W4, hrun, map4, k4⟩ := map3.store lawI Try.underlying69 (by unfold maxLen; omega) hkey (.int .i64 A)
  clear hkey
  have hget : tabf us (.int .i64 (next)) = none := TabM.get_none.2 hnk
  rw [hget, upd_ins hnk] at map4
  simp only [Option.isSome_none, Bool.false_eq_true, if_false] at map4
  have blk4 := (k4.block t (Nat.lt_of_lt_of_le hT.lt k3.size) (fun e => hT.mt e.symm)).trans blk3
  have own4 := k4.ownsRow own3 (fun b hb e => hT.vm (by rw [hb, e]))
  clear e0 e2 blk2 own2
  go_simp
  go_wp2_with fail
  have hlen4 : ∀ ty : TypeId, (Builtin.len_ #[69] ty #[.map (some m)]).run Try.prog W4.drew = .ok (.int .i64 (us.length + 1 : Nat)) W4.drew := fun ty => (map4.drewN 1).len (t := 69) (E := 3) Try.underlying69 ty
  have hlen5 : ∀ ty : TypeId, (Builtin.len_ #[69] ty #[.map (some m)]).run Try.prog { heap := W4.heap, tape := W4.tape, drawn := W4.drawn + 1, os := W4.os, output := W4.output } = .ok (.int .i64 (us.length + 1 : Nat)) { heap := W4.heap, tape := W4.tape, drawn := W4.drawn + 1, os := W4.os, output := W4.output } := hlen4
  have e1 : W4.cell? ⟨t, 1, none⟩ = some (.int .i64 peak) := by simp [World.cell?, blk4]
  have e2 : W4.cell? ⟨t, 2, none⟩ = some (.map (some m)) := by simp [World.cell?, blk4]
  have f1 : W4.frozen? ⟨t, 1, none⟩ = false := by simp [World.frozen?, blk4]
  have hpk := hT.peak0
  clear hrun
  by_cases hq : peak < (us.length : Int) + 1
  · have HMX := Lib.hid (show max peak ((us.length : Int) + 1) = us.length + 1 by omega)
    go_still_tail 13, (by kernel_rfl)
    change wpList _ _ _ _ _ W4.drew
    have blk5 : W4.drew.heap[t]? = _ := blk4
    have map5 := map4.drewN 1
    have own5 : W4.drew.ownsRow _ _ _ _ _ _ := own4
    have k5 : Keeps (fun k => k = t ∨ k = m ∨ (.slice A0 0 cp : Value).ownBlock = some k) w W4.drew := (((hK.mono (fun _ _ h => h.elim)).andThen k3 (fun i _ h => h.elim .inl (fun h => .inr (.inr h)))).andThen k4 (fun i _ h => .inr (.inl h))).drew
    change MapIs _ _ W4.drew _ _ _ at map5
    clear hlen4 hlen5 e1 e2 f1
    generalize W4.drew = W5 at *
    have e1 : W5.cell? ⟨t, 1, none⟩ = some (.int .i64 peak) := by simp [World.cell?, blk5]
    have f1 : W5.frozen? ⟨t, 1, none⟩ = false := by simp [World.frozen?, blk5]
    go_wp2_with fail
    go_ret2
    refine ⟨?_, ⟨.slice A0 0 cp, [], next + 1, ?_, .inl rfl⟩, ?_⟩
    · show Ending.returned (.tuple #[.int .i64 (next), .int .i64 0]) = _
      rw [HLE.out]
    · rw [HLE.out, HMX.out]
      exact TabP.of_store blk5 map5 (len_ins _ _ _) own5 (hti.put_next _) (by rw [len_ins]; push_cast; omega) hT.most1 (by have := hti.count; simp at this; omega) hT.tt hT.bt hT.bm hT.vt (by have := hT.most1; omega)
    · exact k5.setCell (p := ⟨t, 1, none⟩) (.inr (.inl rfl)) _
  · have hq' : decide (peak < (us.length : Int) + 1) = false := by simpa using hq
    have HMX := Lib.hid (show max peak ((us.length : Int) + 1) = peak by omega)
    go_still_tail 13, (by kernel_rfl)
    change wpList _ _ _ _ _ W4.drew
    have blk5 : W4.drew.heap[t]? = _ := blk4
    have map5 := map4.drewN 1
    have own5 : W4.drew.ownsRow _ _ _ _ _ _ := own4
    have k5 : Keeps (fun k => k = t ∨ k = m ∨ (.slice A0 0 cp : Value).ownBlock = some k) w W4.drew := (((hK.mono (fun _ _ h => h.elim)).andThen k3 (fun i _ h => h.elim .inl (fun h => .inr (.inr h)))).andThen k4 (fun i _ h => .inr (.inl h))).drew
    change MapIs _ _ W4.drew _ _ _ at map5
    clear hlen4 hlen5 e1 e2 f1
    generalize W4.drew = W5 at *
    have e1 : W5.cell? ⟨t, 1, none⟩ = some (.int .i64 peak) := by simp [World.cell?, blk5]
    have f1 : W5.frozen? ⟨t, 1, none⟩ = false := by simp [World.frozen?, blk5]
    go_wp2_with fail
    go_ret2
    refine ⟨?_, ⟨.slice A0 0 cp, [], next + 1, ?_, .inl rfl⟩, ?_⟩
    · show Ending.returned (.tuple #[.int .i64 (next), .int .i64 0]) = _
      rw [HLE.out]
    · rw [HLE.out, HMX.out]
      exact TabP.of_store blk5 map5 (len_ins _ _ _) own5 (hti.put_next _) (by rw [len_ins]; push_cast; omega) hT.most1 (by have := hti.count; simp at this; omega) hT.tt hT.bt hT.bm hT.vt (by have := hT.most1; omega)
    · exact k5.setCell (p := ⟨t, 1, none⟩) (.inr (.inl rfl)) _

set_option maxRecDepth 100000 in
set_option maxHeartbeats 4000000 in
theorem putI_back (t m base n : Nat) (v : Value) (l : List Int) (next most peak : Int) (us : Used Value) (A : Int) (w : World) (h : TabP 71 t m base v l next most peak us w) (hf : (us.length : Int) < most) (hl : l.length = n + 1) :
    Calls Try.prog 22 #[.pointer (some ⟨t, 0, none⟩), .int .i64 A] w fun e w' => e = .returned (.tuple #[.int .i64 (least us), .int .i64 0]) ∧
      TabPost 71 t m base v.ownBlock most (max peak (us.length + 1)) (ins (least us) (.int .i64 A) us) w w' ∧ Keeps (fun k => k = t ∨ k = m ∨ v.ownBlock = some k) w w' := by
  have HLE := Lib.hid (h.ti.least_back (by omega))
  have hHW : ∃ g cp, v = .slice (some ⟨g, 0, none⟩) (n + 1) cp := by
    obtain ⟨g, cp, e, _⟩ := World.ownsRow.form h.own (by omega)
    exact ⟨g, cp, by rw [e, hl]⟩
  obtain ⟨g, cp, rfl⟩ := hHW
  have hn24 : n + 1 ≤ 1024 := by have := h.llen.1; omega
  have hta := assert_int_ok
  go_enter Try.func22, Try.ntmps22
  go_wp2_with fail
  have hT := h
  have hK : Keeps (fun _ => False) w w := Keeps.refl _ _
  have hlen := fun (n : Nat) (ty : TypeId) => (hT.map.drewN n).len (t := 69) (E := 3) Try.underlying69 ty
  have hsz : us.length ≤ 1024 := by have := hT.llen; omega
  have c0 := hT.cell 0
  have c1 := hT.cell 1
  have c2 := hT.cell 2
  have c3 := hT.cell 3
  have c4 := hT.cell 4
  simp at c0 c1 c2 c3 c4
  have HT := Lib.hid hT
  have HL := Lib.hid hl
  clear hl
  go_quiet (fail)
  rename_i nq
  go_wp2_with fail
  have hHW : HW t 3 g cp base l (w.drewN nq) := by
    have hT' := HT.out.drewN nq
    refine ⟨?_, ?_, ?_, hT'.lt⟩
    · rw [HL.out]; simpa using hT'.cell 3
    · have := hT'.own; rw [HL.out] at this ⊢; exact this
    · exact fun e => hT'.vt (by rw [e]; rfl)
  refine (heap_pop t 3 g cp base n l _ hHW HL.out (by have := hT.ti.heap; rw [HL.out] at this; exact this) hT.ti.inj (by omega) ((hT.drewN nq).free 3)).mono ?_
  rintro e w' ⟨rfl, l', w1, hlen', hp', hi', hmem, hown1, hkp, rfl⟩
  have hti := hT.ti
  have h0m : HeapM.at_ l 0 ∈ l := mem_at.2 ⟨0, by rw [HL.out]; omega, rfl⟩
  have hgt : Value.ownBlock (.slice (some ⟨g, 0, none⟩) n cp) ≠ some t := hT.vt
  have hgm : Value.ownBlock (.slice (some ⟨g, 0, none⟩) n cp) ≠ some m := hT.vm
  have hgt' : g ≠ t := fun e => hgt (by rw [e]; rfl)
  have blk1 : w1.heap[t]? = some (.cells #[.int .i64 most, .int .i64 peak, .map (some m), .slice (some ⟨g, 0, none⟩) (n + 1) cp, .int .i64 next] 71 (0, 0)) := (hkp.block t (hT.drewN nq).lt (fun e => hgt' e.symm)).trans (hT.drewN nq).blk
  have hlen1 := HL.out
  generalize hW2 : w1.setCell ⟨t, 3, none⟩ (.slice (some ⟨g, 0, none⟩) n cp) = W2
  have k2 : Keeps (fun k => k = t ∨ Value.ownBlock (.slice (some ⟨g, 0, none⟩) (n + 1) cp) = some k) w W2 := by
    rw [← hW2]
    refine (((Keeps.refl _ w).drewN nq).andThen hkp (fun i _ e => .inr ?_)).setCell (p := ⟨t, 3, none⟩) (.inr (.inl rfl)) _
    rw [e]; rfl
  have k1' : Keeps (· = t) w1 W2 := by rw [← hW2]; exact (Keeps.refl (· = t) w1).setCell (p := ⟨t, 3, none⟩) (.inr rfl) _
  have blk2 : W2.heap[t]? = some (.cells #[.int .i64 most, .int .i64 peak, .map (some m), .slice (some ⟨g, 0, none⟩) n cp, .int .i64 next] 71 (0, 0)) := by
    rw [← hW2]
    simp [World.setCell, Array.getElem?_modify, blk1]
  have own2 : W2.ownsRow base 3 1 (.slice (some ⟨g, 0, none⟩) n cp) l'.length (ints l') := by
    rw [hlen']; exact k1'.ownsRow hown1 (fun b hb e => hgt (by rw [hb, e]))
  have hSm : ¬ (m = t ∨ Value.ownBlock (.slice (some ⟨g, 0, none⟩) (n + 1) cp) = some m) := fun e => e.elim hT.mt hT.vm
  have f1 := hT.free 1
  have f4 := hT.free 4
  have HLEN := Lib.hid hlen'
  have HLEN1 := Lib.hid hlen1
  have HM := Lib.hid hmem
  clear blk1 k1' hown1 hHW hlen1 hlen' hmem
  have e2 : W2.cell? ⟨t, 2, none⟩ = some (.map (some m)) := by simp [World.cell?, blk2]
  go_wp2_with fail
  clear hW2 hlen c0 c1 c2 c3 c4 f1 f4
  have e0 : W2.cell? ⟨t, 0, none⟩ = some (.int .i64 most) := by simp [World.cell?, blk2]
  have e2 : W2.cell? ⟨t, 2, none⟩ = some (.map (some m)) := by simp [World.cell?, blk2]
  have bl2 : t < W2.heap.size := Nat.lt_of_lt_of_le hT.lt k2.size
  have k3 : Keeps (fun k => k = t ∨ Value.ownBlock (.slice (some ⟨g, 0, none⟩) (n + 1) cp) = some k) w W2 := k2
  have blk3 : W2.heap[t]? = _ := blk2
  have map3 := hT.map.keeps k3 hSm
  have own3 : W2.ownsRow _ _ _ _ _ _ := own2
  have hnk : HeapM.at_ l 0 ∉ keys us := (hti.back _ h0m).2.2
  have hhb : 1 ≤ HeapM.at_ l 0 ∧ HeapM.at_ l 0 ≤ 1025 := by have := hti.back _ h0m; have := hT.llen; omega
  have hkey : keyOf Try.prog 3 (.int .i64 (HeapM.at_ l 0)) = some (.int .i64 (HeapM.at_ l 0)) := keyOf_int_mk Try.underlying3 (WalkArith.wf_i64 (by omega))
  obtain ⟨W4, hrun, map4, k4⟩ := map3.store lawI Try.underlying69 (by unfold maxLen; omega) hkey (.int .i64 A)
  clear hkey
  have hget : tabf us (.int .i64 (HeapM.at_ l 0)) = none := TabM.get_none.2 hnk
  rw [hget, upd_ins hnk] at map4
  simp only [Option.isSome_none, Bool.false_eq_true, if_false] at map4
  have blk4 := (k4.block t (Nat.lt_of_lt_of_le hT.lt k3.size) (fun e => hT.mt e.symm)).trans blk3
  have own4 := k4.ownsRow own3 (fun b hb e => hgm (by rw [hb, e]))
  clear e0 e2 blk2 own2
  go_simp
  go_wp2_with fail
  have hlen4 : ∀ ty : TypeId, (Builtin.len_ #[69] ty #[.map (some m)]).run Try.prog W4.drew = .ok (.int .i64 (us.length + 1 : Nat)) W4.drew := fun ty => (map4.drewN 1).len (t := 69) (E := 3) Try.underlying69 ty
  have hlen5 : ∀ ty : TypeId, (Builtin.len_ #[69] ty #[.map (some m)]).run Try.prog { heap := W4.heap, tape := W4.tape, drawn := W4.drawn + 1, os := W4.os, output := W4.output } = .ok (.int .i64 (us.length + 1 : Nat)) { heap := W4.heap, tape := W4.tape, drawn := W4.drawn + 1, os := W4.os, output := W4.output } := hlen4
  have e1 : W4.cell? ⟨t, 1, none⟩ = some (.int .i64 peak) := by simp [World.cell?, blk4]
  have e2 : W4.cell? ⟨t, 2, none⟩ = some (.map (some m)) := by simp [World.cell?, blk4]
  have f1 : W4.frozen? ⟨t, 1, none⟩ = false := by simp [World.frozen?, blk4]
  have hpk := hT.peak0
  clear hrun
  by_cases hq : peak < (us.length : Int) + 1
  · have HMX := Lib.hid (show max peak ((us.length : Int) + 1) = us.length + 1 by omega)
    go_still_tail 13, (by kernel_rfl)
    change wpList _ _ _ _ _ W4.drew
    have blk5 : W4.drew.heap[t]? = _ := blk4
    have map5 := map4.drewN 1
    have own5 : W4.drew.ownsRow _ _ _ _ _ _ := own4
    have k5 : Keeps (fun k => k = t ∨ k = m ∨ (.slice (some ⟨g, 0, none⟩) (n + 1) cp : Value).ownBlock = some k) w W4.drew := (((hK.mono (fun _ _ h => h.elim)).andThen k3 (fun i _ h => h.elim .inl (fun h => .inr (.inr h)))).andThen k4 (fun i _ h => .inr (.inl h))).drew
    change MapIs _ _ W4.drew _ _ _ at map5
    clear hlen4 hlen5 e1 e2 f1
    generalize W4.drew = W5 at *
    have e1 : W5.cell? ⟨t, 1, none⟩ = some (.int .i64 peak) := by simp [World.cell?, blk5]
    have f1 : W5.frozen? ⟨t, 1, none⟩ = false := by simp [World.frozen?, blk5]
    go_wp2_with fail
    go_ret2
    refine ⟨?_, ⟨.slice (some ⟨g, 0, none⟩) n cp, l', next, ?_, .inl rfl⟩, ?_⟩
    · show Ending.returned (.tuple #[.int .i64 (HeapM.at_ l 0), .int .i64 0]) = _
      rw [HLE.out]
    · rw [HLE.out, HMX.out]
      exact TabP.of_store blk5 map5 (len_ins _ _ _) own5 (hti.put_back (by have := HL.out; omega) _ (by have := HL.out; have := HLEN.out; omega) (by rw [HLEN.out]; exact hp') hi' HM.out) (by rw [len_ins]; push_cast; omega) hT.most1 hT.next1 hT.tt hT.bt hT.bm hgt (by have := hT.most1; omega)
    · exact k5.setCell (p := ⟨t, 1, none⟩) (.inr (.inl rfl)) _
  · have hq' : decide (peak < (us.length : Int) + 1) = false := by simpa using hq
    have HMX := Lib.hid (show max peak ((us.length : Int) + 1) = peak by omega)
    go_still_tail 13, (by kernel_rfl)
    change wpList _ _ _ _ _ W4.drew
    have blk5 : W4.drew.heap[t]? = _ := blk4
    have map5 := map4.drewN 1
    have own5 : W4.drew.ownsRow _ _ _ _ _ _ := own4
    have k5 : Keeps (fun k => k = t ∨ k = m ∨ (.slice (some ⟨g, 0, none⟩) (n + 1) cp : Value).ownBlock = some k) w W4.drew := (((hK.mono (fun _ _ h => h.elim)).andThen k3 (fun i _ h => h.elim .inl (fun h => .inr (.inr h)))).andThen k4 (fun i _ h => .inr (.inl h))).drew
    change MapIs _ _ W4.drew _ _ _ at map5
    clear hlen4 hlen5 e1 e2 f1
    generalize W4.drew = W5 at *
    have e1 : W5.cell? ⟨t, 1, none⟩ = some (.int .i64 peak) := by simp [World.cell?, blk5]
    have f1 : W5.frozen? ⟨t, 1, none⟩ = false := by simp [World.frozen?, blk5]
    go_wp2_with fail
    go_ret2
    refine ⟨?_, ⟨.slice (some ⟨g, 0, none⟩) n cp, l', next, ?_, .inl rfl⟩, ?_⟩
    · show Ending.returned (.tuple #[.int .i64 (HeapM.at_ l 0), .int .i64 0]) = _
      rw [HLE.out]
    · rw [HLE.out, HMX.out]
      exact TabP.of_store blk5 map5 (len_ins _ _ _) own5 (hti.put_back (by have := HL.out; omega) _ (by have := HL.out; have := HLEN.out; omega) (by rw [HLEN.out]; exact hp') hi' HM.out) (by rw [len_ins]; push_cast; omega) hT.most1 hT.next1 hT.tt hT.bt hT.bm hgt (by have := hT.most1; omega)
    · exact k5.setCell (p := ⟨t, 1, none⟩) (.inr (.inl rfl)) _

/-! ### New -/
set_option maxHeartbeats 1000000 in
theorem newI (most : Int) (w : World) :
    Calls Try.prog 21 #[.int .i64 most] w fun e w' => e = .returned (.pointer (some ⟨w.heap.size + 1, 0, none⟩)) ∧
      TabP 71 (w.heap.size + 1) w.heap.size w.heap.size (.slice none 0 0) [] 1 (min (max most 0) 1024) 0 [] w' ∧ Below w.heap.size w w' := by
  have hmm := @run_makeMap Try.prog
  have hfin : ∀ x : Int, 0 ≤ x → x ≤ 1024 → TabP 71 (w.heap.size + 1) w.heap.size w.heap.size (.slice none 0 0) [] 1 x 0 [] ((w.alloc (.map #[] 0)).alloc (.cells #[.int .i64 x, .int .i64 0, .map (some w.heap.size), .slice none 0 0, .int .i64 1] 71)) := fun x h0 h1 => by
    refine ⟨?_, ?_, ⟨rfl, .inl ⟨rfl, rfl⟩⟩, TI.empty, by simpa using h0, h1, by omega, by decide, by omega, Nat.le_refl _, by omega⟩
    · have := heap_alloc_new (w.alloc (.map #[] 0)) (.cells #[.int .i64 x, .int .i64 0, .map (some w.heap.size), .slice none 0 0, .int .i64 1] 71)
      simpa using this
    · have h := (MapIs.made w Try.prog 3).keeps (S := fun _ => False) ((Keeps.refl _ _).alloc (.cells #[.int .i64 x, .int .i64 0, .map (some w.heap.size), .slice none 0 0, .int .i64 1] 71)) (fun h => h)
      have e : (fun _ => none : Lit → Option Value) = tabf [] := by
        funext kl; unfold tabf; split <;> rfl
      rw [e] at h
      exact h
  have hbel : ∀ x : Value, Below w.heap.size w ((w.alloc (.map #[] 0)).alloc (.cells #[x, .int .i64 0, .map (some w.heap.size), .slice none 0 0, .int .i64 1] 71)) := fun x => ((Below.refl _ _).alloc (Nat.le_refl _) _).alloc (by simp) _
  have HF := Lib.hid hfin
  have HB := Lib.hid hbel
  clear hfin hbel
  by_cases h0 : most < 0
  · have HM := Lib.hid (show min (max most 0) 1024 = 0 by omega)
    go_enter Try.func21, Try.ntmps21
    go_wp2_with fail
    go_ret
    exact ⟨rfl, by rw [HM.out]; exact HF.out 0 (by omega) (by omega), HB.out _⟩
  · by_cases h1 : most ≤ 1024
    · have HM := Lib.hid (show min (max most 0) 1024 = most by omega)
      go_enter Try.func21, Try.ntmps21
      go_wp2_with fail
      all_goals
        go_ret
        exact ⟨rfl, by rw [HM.out]; exact HF.out most (by omega) (by omega), HB.out _⟩
    · have HM := Lib.hid (show min (max most 0) 1024 = 1024 by omega)
      go_enter Try.func21, Try.ntmps21
      go_wp2_with fail
      all_goals
        go_ret
        exact ⟨rfl, by rw [HM.out]; exact HF.out 1024 (by omega) (by omega), HB.out _⟩

/-! ### Len -/
theorem lenI (t m base : Nat) (v : Value) (l : List Int) (next most peak : Int) (us : Used Value) (w : World) (h : TabP 71 t m base v l next most peak us w) :
    Calls Try.prog 26 #[.pointer (some ⟨t, 0, none⟩)] w fun e w' => e = .returned (.int .i64 us.length) ∧ w' = w := by
  have hlen := h.map.len (t := 69) (E := 3) Try.underlying69
  have c2 := h.cell 2
  simp at c2
  go_enter Try.func26, Try.ntmps26
  go_wp2_with fail
  go_ret
  exact ⟨rfl, rfl⟩

/-! ### Get -/
set_option maxHeartbeats 1000000 in
theorem getI_some (t m base : Nat) (v : Value) (l : List Int) (next most peak : Int) (us : Used Value) (h0 : Int) (A : Int) (w : World) (h : TabP 71 t m base v l next most peak us w) (hw : (Lit.int .i64 h0).wf = true)
    (hg : TabM.get us h0 = some (.int .i64 A)) :
    Calls Try.prog 27 #[.pointer (some ⟨t, 0, none⟩), .int .i64 h0] w fun e w' => e = .returned (.tuple #[.int .i64 A, .int .i64 0]) ∧ Keeps (fun _ => False) w w' := by
  have hlook := h.map.look_ok lawI (t := 69) (E := 3) Try.underlying69 (zeroI _) (keyOf_int_mk Try.underlying3 hw)
  have hgg : tabf us (.int .i64 h0) = TabM.get us h0 := rfl
  rw [hgg, hg] at hlook
  simp only [Option.getD, Option.isSome] at hlook
  have c2 := h.cell 2
  simp at c2
  clear hgg hg
  go_enter Try.func27, Try.ntmps27
  go_wp2_with fail
  go_ret2
  exact ⟨rfl, Keeps.refl _ _⟩

set_option maxHeartbeats 1000000 in
theorem getI_none (t m base : Nat) (v : Value) (l : List Int) (next most peak : Int) (us : Used Value) (h0 : Int) (w : World) (h : TabP 71 t m base v l next most peak us w) (hw : (Lit.int .i64 h0).wf = true)
    (hg : TabM.get us h0 = none) :
    Calls Try.prog 27 #[.pointer (some ⟨t, 0, none⟩), .int .i64 h0] w fun e w' => e = .returned (.tuple #[.int .i64 0, .int .i64 131]) ∧ Keeps (fun _ => False) w w' := by
  have hlook := h.map.look_ok lawI (t := 69) (E := 3) Try.underlying69 (zeroI _) (keyOf_int_mk Try.underlying3 hw)
  have hgg : tabf us (.int .i64 h0) = TabM.get us h0 := rfl
  rw [hgg, hg] at hlook
  simp only [Option.getD, Option.isSome] at hlook
  have c2 := h.cell 2
  simp at c2
  clear hgg hg
  go_enter Try.func27, Try.ntmps27
  go_wp2_with fail
  go_ret2
  exact ⟨rfl, Keeps.refl _ _⟩

/-! ### Drop -/
set_option maxRecDepth 100000 in
set_option maxHeartbeats 2000000 in
theorem dropI_none (t m base : Nat) (v : Value) (l : List Int) (next most peak : Int) (us : Used Value) (h0 : Int) (w : World) (h : TabP 71 t m base v l next most peak us w) (hw : (Lit.int .i64 h0).wf = true)
    (hg : TabM.get us h0 = none) :
    Calls Try.prog 24 #[.pointer (some ⟨t, 0, none⟩), .int .i64 h0] w fun e w' => e = .returned (.tuple #[.int .i64 0, .int .i64 131]) ∧ Keeps (fun _ => False) w w' := by
  have HG := Lib.hid hg
  clear hg
  go_enter Try.func24, Try.ntmps24
  go_wp2_with fail
  have hT := h
  refine (getI_none t m base v l next most peak us h0 _ hT hw HG.out).mono ?_
  rintro e w1 ⟨rfl, hk1⟩
  go_wp2_with fail
  go_ret2
  exact ⟨rfl, hk1⟩

set_option maxRecDepth 100000 in
set_option maxHeartbeats 2000000 in
theorem dropI_some (t m base : Nat) (v : Value) (l : List Int) (next most peak : Int) (us : Used Value) (h0 : Int) (A : Int) (w : World) (h : TabP 71 t m base v l next most peak us w) (hw : (Lit.int .i64 h0).wf = true)
    (hg : TabM.get us h0 = some (.int .i64 A)) :
    Calls Try.prog 24 #[.pointer (some ⟨t, 0, none⟩), .int .i64 h0] w fun e w' => e = .returned (.tuple #[.int .i64 A, .int .i64 0]) ∧
      TabPost 71 t m base v.ownBlock most peak (del h0 us) w w' ∧ Keeps (fun k => k = t ∨ k = m ∨ v.ownBlock = some k) w w' := by
  have HG := Lib.hid hg
  clear hg
  go_enter Try.func24, Try.ntmps24
  go_wp2_with fail
  have hT := h
  refine (getI_some t m base v l next most peak us h0 A _ hT hw HG.out).mono ?_
  rintro e w1 ⟨rfl, hk1⟩
  have hT1 := hT.keeps hk1 (fun h => h) (fun h => h) (fun _ _ h => h)
  have c2 := hT1.cell 2
  simp at c2
  have tl1 := hT1.lt
  have hTa := hT1
  have hkey : keyOf Try.prog 3 (.int .i64 h0) = some (.int .i64 h0) := keyOf_int_mk Try.underlying3 hw
  obtain ⟨W2, hrun, map2, k2⟩ := hTa.map.drop lawI Try.underlying69 hkey 0
  have hrun' : ∀ ty, (Builtin.delete_ #[69, 3] ty #[.map (some m), .int .i64 h0]).run Try.prog _ = .ok (.tuple #[]) W2 := fun _ => hrun
  clear hrun
  have hm0 : h0 ∈ keys us := TabM.get_some HG.out
  have hget : tabf us (.int .i64 h0) = some (.int .i64 A) := HG.out
  rw [hget, upd_del] at map2
  simp only [Option.isSome_some, if_true] at map2
  go_wp2_with fail
  have blk2 := (k2.block t hTa.lt (fun e => hTa.mt e.symm)).trans hTa.blk
  have own2 := k2.ownsRow hTa.own (fun b hb e => hTa.vm (by rw [hb, e]))
  have e3 : W2.cell? ⟨t, 3, none⟩ = some v := by simp [World.cell?, blk2]
  have f3 : W2.frozen? ⟨t, 3, none⟩ = false := by simp [World.frozen?, blk2]
  have hl24 := hTa.llen.1
  refine (heap_push t 3 base v l h0 W2 e3 f3 own2 hTa.vt (by omega) (Nat.le_trans hTa.bt (Nat.le_trans (Nat.le_of_lt hTa.lt) k2.size)) hTa.ti.heap (Nat.lt_of_lt_of_le hTa.lt k2.size)).mono ?_
  rintro e W6 ⟨rfl, g, c, l', hs, hp', hw6, hloc, w5, hk5, hk6⟩
  have hgt : g ≠ t := fun e => hw6.ne e.symm
  have hlen' : l'.length = l.length + 1 := by rw [hs.len]; simp
  have kAll : Keeps (fun k => k = t ∨ k = m ∨ v.ownBlock = some k) w1 W6 := by
    have k5' := ((Keeps.refl (fun k => k = t ∨ k = m ∨ v.ownBlock = some k) w1).andThen k2 (fun i _ e => .inr (.inl e))).andThen hk5 (fun i _ e => .inr (.inr e))
    refine (k5'.setCell (p := ⟨t, 3, none⟩) (.inr (.inl rfl)) _).andThen hk6 (fun i hi e => ?_)
    subst e
    rcases hloc with e | e
    · exact .inr (.inr e)
    · have := k2.size; omega
  have blk6 : W6.heap[t]? = some (.cells #[.int .i64 most, .int .i64 peak, .map (some m), .slice (some ⟨g, 0, none⟩) l'.length c, .int .i64 next] 71 (0, 0)) := by
    have tl5 : t < w5.heap.size := Nat.lt_of_lt_of_le (Nat.lt_of_lt_of_le hTa.lt k2.size) hk5.size
    have b5 := (hk5.block t (Nat.lt_of_lt_of_le hTa.lt k2.size) hTa.vt).trans blk2
    rw [hk6.block t (by simpa [World.setCell] using tl5) (fun e => hgt e.symm), hlen']
    simp [World.setCell, Array.getElem?_modify, b5]
  have map6 : MapIs Try.prog 3 W6 m (tabf (del h0 us)) (us.length - 1) := by
    have k5' := (Keeps.refl (fun k => k = t ∨ v.ownBlock = some k) W2).andThen hk5 (fun i _ e => .inr e)
    refine map2.keeps (((k5'.setCell (p := ⟨t, 3, none⟩) (.inr (.inl rfl)) _).mono (S' := fun k => k = t ∨ v.ownBlock = some k ∨ k = g) (fun _ _ h => h.elim .inl (fun h => .inr (.inl h)))).andThen hk6 (fun i _ e => .inr (.inr e))) ?_
    rintro (e | e | e)
    · exact hTa.mt e
    · exact hTa.vm e
    · have hl := map2.lt
      rcases hloc with e' | e'
      · exact hTa.vm (by rw [e', e])
      · omega
  have hfin : TabP 71 t m base (.slice (some ⟨g, 0, none⟩) l'.length c) l' next most peak (del h0 us) W6 := by
    have hdl := TabM.len_del hTa.ti.rise hm0
    have := hTa.most0
    refine ⟨blk6, by rw [show (del h0 us).length = us.length - 1 by omega]; exact map6, hw6.own, hTa.ti.drop hm0 hs hp', by omega, hTa.most1, hTa.next1, hTa.tt, hTa.bt, hTa.bm, hTa.peak0⟩
  have hown : (Value.slice (some ⟨g, 0, none⟩) l'.length c).ownBlock = v.ownBlock ∨ ∃ g', (Value.slice (some ⟨g, 0, none⟩) l'.length c).ownBlock = some g' ∧ w.heap.size ≤ g' := by
    rcases hloc with e | e
    · exact .inl e.symm
    · exact .inr ⟨g, rfl, by have := k2.size; have := hk1.size; omega⟩
  have hend : Keeps (fun k => k = t ∨ k = m ∨ v.ownBlock = some k) w W6 := (hk1.mono (fun _ _ h => h.elim)).andThen (kAll.mono (fun _ _ h => h)) (fun _ _ h => h)
  have HF := Lib.hid hfin
  have HO := Lib.hid hown
  clear hfin hown blk6 map6 kAll hrun' blk2 own2 map2 e3 f3 c2
  go_wp2_with fail
  go_ret2
  exact ⟨rfl, ⟨_, _, _, HF.out, HO.out⟩, hend⟩
