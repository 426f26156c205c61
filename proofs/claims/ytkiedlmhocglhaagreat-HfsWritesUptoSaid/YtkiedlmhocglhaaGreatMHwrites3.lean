/-
  PROVED HERE: lemmas and contracts of functions (texts of this repo, joined; what the claim does not use is left out): TabT, Hp, H2, Hs, Hi, Hj, Hk, Hl, Hq, H3, Hr, H4, Ht, Hu, TabMath2, Hv, Hw.
  CONDITIONS: as the theorems say.
-/
import Derived.Test.YtkiedlmhocglhaaGreatMHwrites2
import Derived.LaidEqlPtr
section
namespace Go.Proofs.YtkiedlmhocglhaaGreat
open Go.RowKit HeapM TabM Go.Maps
attribute [local irreducible] ah aI af aj
theorem HF {us : Used Value} {ss : List Int} (hr : TabM.bW (keys us)) (h : KeysOf (aN us) ss) : ss = keys us := by
  refine yA h.sorted hr (fun z => ?_)
  rw [h.mem]
  show (TabM.get us z).isSome = true ↔ z ∈ keys us
  refine ⟨fun h => ?_, fun h => ?_⟩
  · obtain ⟨x, hx⟩ := Option.isSome_iff_exists.1 h; exact get_some hx
  · cases hg : TabM.get us z with
    | some x => rfl
    | none => exact absurd h (get_none.1 hg)
set_option maxRecDepth 100000 in
set_option maxHeartbeats 4000000 in
theorem zQ {β : Bs} (most : Int) :
    Spec Tryz.prog β 28 #[.int .i64 (most)] [] (fun v l => ∃ t, v = .pointer (some ⟨t, 0, none⟩) ∧ l = [.abs (aZ 143 t (min (max most 0) 1024) 0 [])]) := by
 refine Spec.enter Tryz.func28 rfl Tryz.ntmps28 (Nat.le_of_ble_eq_true rfl) (fun R => ?_)
 refine af.seq (af.region ?_)
 refine ah.aA (k' := 1) (fr' := [(0, .int .i64 (most))]) (ak := []) [o_] [0] (fun _ _ => by kernel_rfl) trivial ?_
 refine ah.nil (by kernel_rfl) (aj.next (af.seq (af.region ?_)))
 refine ah.aA (k' := 3) (fr' := [(5, .int .i64 (min (max most 0) 1024))]) (ak := [(Value.int .i64 (if 1024 < max most 0 then 1024 else max most 0)) = (.int .i64 (min (max most 0) 1024)), (Value.int .i64 (if 0 > most then 0 else most)) = (.int .i64 (max most 0))]) [o_, ⟨[], none, none, none, some (.int .i64 (max most 0))⟩, ⟨[], none, none, none, some (.int .i64 (min (max most 0) 1024))⟩] [5] (fun _ _ => by kernel_rfl) ⟨congrArg (Value.int .i64) (GI _ _), congrArg (Value.int .i64) (Cv _ _), trivial⟩ ?_
 refine ah.kX (d := (some 6)) (t := 83) (fun _ => by kernel_rfl) Tryz.prog rfl 3 (fun m1 => ?_)
 refine ah.uM (k' := 7) (fr' := fun b2 => [(2, .pointer (some ⟨b2, 0, none⟩))]) (aK := fun b2 => [.abs R, .abs (aC Tryz.prog 3 m1 (fun _ => none) 0), .blk b2 [.int .i64 (min (max most 0) 1024), .int .i64 0, .map (some m1), .slice none (0) (0), .int .i64 1] 143]) (ak := fun b2 => []) [o_, o_, o_] [2] [0, 1, 2] (fun _ _ => by kernel_rfl) (fun b2 => trivial) (fun b2 => ?_)
 refine ah.nil (by kernel_rfl) (aj.next (af.ret ?_))
 refine aj.mem (aK := [.abs R, .abs (aC Tryz.prog 3 m1 (fun _ => none) 0), .blk b2 [.int .i64 (min (max most 0) 1024), .int .i64 0, .map (some m1), .slice none (0) (0), .int .i64 1] 143, .abs (aF 3 1 none 0 0 ([]))]) (fun w hS => hS.jJ (e := 3) (size := 1)) ?_
 refine aj.mem (aK := [.abs R, .abs (aZ 143 b2 (min (max most 0) 1024) 0 [])]) (fun w hS => Sat.kP (l := [.abs R]) ⟨m1, none, 0, [], 1⟩ ⟨TI.empty, by show ((0 : Nat) : Int) ≤ min (max most 0) 1024; omega, by omega, by show (1 : Int) ≤ min (max most 0) 1024 + 1; omega, by show (1 : Int) ≤ 0 + 1; decide, by decide⟩ (by rw [← zP] at hS; exact hS.pick (idx := [0, 2, 1, 3]) (l' := [.abs R] ++ kO 143 b2 (min (max most 0) 1024) 0 [] ⟨m1, none, 0, [], 1⟩) rfl rfl)) ?_
 exact aj.ret (v := .pointer (some ⟨b2, 0, none⟩)) (l := [.abs (aZ 143 b2 (min (max most 0) 1024) 0 [])]) (ak := []) [] [1, 0] (fun _ => by kernel_rfl) trivial rfl (by kernel_rfl) (⟨b2, rfl, rfl⟩)
set_option maxRecDepth 100000 in
set_option maxHeartbeats 4000000 in
theorem ji {β : Bs} (t : Nat) (most au : Int) (us : Used Value) (h : Int) (hw : (Lit.int .i64 h).wf = true) (x : Value) (hg : TabM.get us h = some x) :
    Spec Tryz.prog β 120 #[.pointer (some ⟨t, 0, none⟩), .int .i64 (h)] [.abs (aZ 143 t most au us)] (fun v l => v = .tuple #[x, .int .i64 0] ∧ l = [.abs (aZ 143 t most au us)]) := by
 refine Spec.enter Tryz.func120 rfl Tryz.ntmps120 (Nat.le_of_ble_eq_true rfl) (fun R => ?_)
 refine af.seq ?_
 refine af.xh (Φ := fun x : TX => fL x.next x.l us most au) (hp := fun x => [.abs R] ++ kO 143 t most au us x) (fun w hS => (hS.pick (idx := [1, 0]) (l' := [.abs R] ++ [.abs (aZ 143 t most au us)]) rfl rfl).qH) (fun x hT => ?_)
 ·
  obtain ⟨m, A, c, l, next⟩ := x
  replace hT : fL next l us most au := hT
  have hb := hT.DU
  have hm0 := hT.pR
  have hm1 := hT.pS
  have hn1 := hT.pU
  have hn2 := hT.v7
  have DV := hT.q8
  have GJ := hT.ti.count
  show af _ _ _ _ [(0, .pointer (some ⟨t, 0, none⟩)), (1, .int .i64 (h))] [.abs R, .blk t [.int .i64 (most), .int .i64 (au), .map (some m), .slice A (l.length) (c), .int .i64 (next)] 143, .abs (aC Tryz.prog 3 m (aN us) us.length), .abs (aF 3 1 A l.length c (ints l))] _
  refine af.region ?_
  refine ah.aA (k' := 2) (fr' := [(0, .pointer (some ⟨t, 0, none⟩)), (1, .int .i64 (h))]) (ak := []) [o_, o_] [0, 1] (fun _ _ => by kernel_rfl) trivial ?_
  refine ah.nil (by kernel_rfl) (aj.next (af.seq (af.region ?_)))
  refine ah.aA (k' := 5) (fr' := [(12, .map (some m)), (13, .int .i64 (h))]) (ak := [t = t]) [o_, o_, o_, ⟨[.at 1], none, none, none, none⟩, o_] [12, 13] (fun _ _ => by kernel_rfl) ⟨rfl, trivial⟩ ?_
  refine ah.jH 2 (d := (some 14)) (t := 83) (K := 3) (E := 87) (b := m) (n := us.length) (f := (aN us)) (x := (.tmp 12)) (ix := (.tmp 13)) (key := .int .i64 (h)) (z := .nilIface) (kl := (.int .i64 h)) (r := (some x)) (fun _ => by kernel_rfl) (by kernel_rfl) (fun _ => by kernel_rfl) (fun _ => by kernel_rfl) dL Tryz.underlying83 (fun _ => by kernel_rfl) (iB hw) (hg) ?_
  refine ah.aA (k' := 11) (fr' := [(6, x), (7, .bool true)]) (ak := []) [o_, o_, o_, o_, o_] [6, 7] (fun _ _ => by kernel_rfl) trivial ?_
  refine ah.nil (by kernel_rfl) (aj.next (af.seq (af.seq (af.region ?_))))
  refine ah.aA (k' := 2) (fr' := [(6, x), (18, .bool false)]) (ak := []) [o_, o_] [6, 18] (fun _ _ => by kernel_rfl) trivial ?_
  refine ah.nil (by kernel_rfl) (aj.next ?_)
  refine af.jw (fun _ => by kernel_rfl) ?_
  refine af.skip (aj.next (af.seq (af.region ?_)))
  refine ah.aA (k' := 3) (fr' := [(4, x), (5, .int .i64 0)]) (ak := []) [o_, o_, o_] [4, 5] (fun _ _ => by kernel_rfl) trivial ?_
  refine ah.nil (by kernel_rfl) (aj.next (af.ret ?_))
  refine aj.mem (aK := [.abs R, .abs (aZ 143 t most au us)]) (fun w hS => Sat.kP (l := [.abs R]) ⟨m, A, c, l, next⟩ (show fL (next) l (us) most (au) from hT) (hS.pick (idx := [0, 1, 2, 3]) (l' := [.abs R] ++ kO 143 t most (au) (us) ⟨m, A, c, l, next⟩) rfl rfl)) ?_
  exact aj.ret (v := .tuple #[x, .int .i64 0]) (l := [.abs (aZ 143 t most au us)]) (ak := []) [] [1, 0] (fun _ => by kernel_rfl) trivial rfl (by kernel_rfl) (⟨rfl, rfl⟩)
set_option maxRecDepth 100000 in
set_option maxHeartbeats 4000000 in
theorem ni {β : Bs} (t : Nat) (most au : Int) (us : Used Value) (h : Int) (hw : (Lit.int .i64 h).wf = true) (hg : TabM.get us h = none) :
    Spec Tryz.prog β 120 #[.pointer (some ⟨t, 0, none⟩), .int .i64 (h)] [.abs (aZ 143 t most au us)] (fun v l => v = .tuple #[.nilIface, .int .i64 131] ∧ l = [.abs (aZ 143 t most au us)]) := by
 refine Spec.enter Tryz.func120 rfl Tryz.ntmps120 (Nat.le_of_ble_eq_true rfl) (fun R => ?_)
 refine af.seq ?_
 refine af.xh (Φ := fun x : TX => fL x.next x.l us most au) (hp := fun x => [.abs R] ++ kO 143 t most au us x) (fun w hS => (hS.pick (idx := [1, 0]) (l' := [.abs R] ++ [.abs (aZ 143 t most au us)]) rfl rfl).qH) (fun x hT => ?_)
 ·
  obtain ⟨m, A, c, l, next⟩ := x
  replace hT : fL next l us most au := hT
  have hb := hT.DU
  have hm0 := hT.pR
  have hm1 := hT.pS
  have hn1 := hT.pU
  have hn2 := hT.v7
  have DV := hT.q8
  have GJ := hT.ti.count
  show af _ _ _ _ [(0, .pointer (some ⟨t, 0, none⟩)), (1, .int .i64 (h))] [.abs R, .blk t [.int .i64 (most), .int .i64 (au), .map (some m), .slice A (l.length) (c), .int .i64 (next)] 143, .abs (aC Tryz.prog 3 m (aN us) us.length), .abs (aF 3 1 A l.length c (ints l))] _
  refine af.region ?_
  refine ah.aA (k' := 2) (fr' := [(0, .pointer (some ⟨t, 0, none⟩)), (1, .int .i64 (h))]) (ak := []) [o_, o_] [0, 1] (fun _ _ => by kernel_rfl) trivial ?_
  refine ah.nil (by kernel_rfl) (aj.next (af.seq (af.region ?_)))
  refine ah.aA (k' := 5) (fr' := [(12, .map (some m)), (13, .int .i64 (h))]) (ak := [t = t]) [o_, o_, o_, ⟨[.at 1], none, none, none, none⟩, o_] [12, 13] (fun _ _ => by kernel_rfl) ⟨rfl, trivial⟩ ?_
  refine ah.jH 2 (d := (some 14)) (t := 83) (K := 3) (E := 87) (b := m) (n := us.length) (f := (aN us)) (x := (.tmp 12)) (ix := (.tmp 13)) (key := .int .i64 (h)) (z := .nilIface) (kl := (.int .i64 h)) (r := none) (fun _ => by kernel_rfl) (by kernel_rfl) (fun _ => by kernel_rfl) (fun _ => by kernel_rfl) dL Tryz.underlying83 (fun _ => by kernel_rfl) (iB hw) (hg) ?_
  refine ah.aA (k' := 11) (fr' := [(6, .nilIface), (7, .bool false)]) (ak := []) [o_, o_, o_, o_, o_] [6, 7] (fun _ _ => by kernel_rfl) trivial ?_
  refine ah.nil (by kernel_rfl) (aj.next (af.seq (af.seq (af.region ?_))))
  refine ah.aA (k' := 2) (fr' := [(6, .nilIface), (18, .bool true)]) (ak := []) [o_, o_] [6, 18] (fun _ _ => by kernel_rfl) trivial ?_
  refine ah.nil (by kernel_rfl) (aj.next ?_)
  refine af.fK (fun _ => by kernel_rfl) ?_
  refine af.seq (af.region ?_)
  refine ah.aA (k' := 3) (fr' := [(4, .nilIface), (5, .int .i64 131)]) (ak := []) [o_, o_, o_] [4, 5] (fun _ _ => by kernel_rfl) trivial ?_
  refine ah.nil (by kernel_rfl) (aj.next (af.ret (aj.av ?_)))
  refine aj.mem (aK := [.abs R, .abs (aZ 143 t most au us)]) (fun w hS => Sat.kP (l := [.abs R]) ⟨m, A, c, l, next⟩ (show fL (next) l (us) most (au) from hT) (hS.pick (idx := [0, 1, 2, 3]) (l' := [.abs R] ++ kO 143 t most (au) (us) ⟨m, A, c, l, next⟩) rfl rfl)) ?_
  exact aj.ret (v := .tuple #[.nilIface, .int .i64 131]) (l := [.abs (aZ 143 t most au us)]) (ak := []) [] [1, 0] (fun _ => by kernel_rfl) trivial rfl (by kernel_rfl) (⟨rfl, rfl⟩)
set_option maxRecDepth 100000 in
set_option maxHeartbeats 4000000 in
theorem sK {β : Bs} (t : Nat) (most au : Int) (us : Used Value) (x : Value) (hf : most ≤ (us.length : Int)) :
    Spec Tryz.prog β 144 #[.pointer (some ⟨t, 0, none⟩), x] [.abs (aZ 143 t most au us)] (fun v l => v = .tuple #[.int .i64 0, .int .i64 130] ∧ l = [.abs (aZ 143 t most au us)]) := by
 refine Spec.enter Tryz.func144 rfl Tryz.ntmps144 (Nat.le_of_ble_eq_true rfl) (fun R => ?_)
 refine af.seq ?_
 refine af.xh (Φ := fun x : TX => fL x.next x.l us most au) (hp := fun x => [.abs R] ++ kO 143 t most au us x) (fun w hS => (hS.pick (idx := [1, 0]) (l' := [.abs R] ++ [.abs (aZ 143 t most au us)]) rfl rfl).qH) (fun x hT => ?_)
 ·
  obtain ⟨m, A, c, l, next⟩ := x
  replace hT : fL next l us most au := hT
  have hb := hT.DU
  have hm0 := hT.pR
  have hm1 := hT.pS
  have hn1 := hT.pU
  have hn2 := hT.v7
  have DV := hT.q8
  have GJ := hT.ti.count
  show af _ _ _ _ [(0, .pointer (some ⟨t, 0, none⟩)), (1, x)] [.abs R, .blk t [.int .i64 (most), .int .i64 (au), .map (some m), .slice A (l.length) (c), .int .i64 (next)] 143, .abs (aC Tryz.prog 3 m (aN us) us.length), .abs (aF 3 1 A l.length c (ints l))] _
  refine af.region ?_
  refine ah.aA (k' := 2) (fr' := [(0, .pointer (some ⟨t, 0, none⟩)), (1, x)]) (ak := []) [o_, o_] [0, 1] (fun _ _ => by kernel_rfl) trivial ?_
  refine ah.nil (by kernel_rfl) (aj.next (af.seq (af.seq ?_)))
  refine af.bC (by kernel_rfl) (by kernel_rfl) ?_
  refine aI.seg (k' := 4) (fr' := [(0, .pointer (some ⟨t, 0, none⟩)), (1, x), (10, .map (some m))]) (ak := [t = t]) [o_, o_, o_, ⟨[.at 1], none, none, none, none⟩] [0, 1, 10] (fun _ _ => by kernel_rfl) ⟨rfl, trivial⟩ ?_
  refine aI.oC 2 (d := (some 11)) (t := 83) (K := 3) (E := 87) (b := m) (n := us.length) (f := (aN us)) (x := (.tmp 10)) (ats := #[83]) (fun _ => by kernel_rfl) (by kernel_rfl) (fun _ => by kernel_rfl) rfl Tryz.underlying83 ?_
  refine aI.seg (k' := 10) (fr' := [(0, .pointer (some ⟨t, 0, none⟩)), (1, x), (16, .bool (decide ((((us.length : Nat) : Int) : Int) ≥ (most : Int))))]) (ak := [t = t]) [o_, o_, o_, ⟨[.at 1], none, none, none, none⟩, o_] [0, 1, 16] (fun _ _ => by kernel_rfl) ⟨rfl, trivial⟩ ?_
  refine aI.nil (by kernel_rfl) (aj.next ?_)
  refine af.bH (p := (((us.length : Nat) : Int) : Int) ≥ (most : Int)) (fun _ => by kernel_rfl) (fun wg => ?_) (fun wg => ?_)
  ·
   refine af.seq (af.region ?_)
   refine ah.aA (k' := 2) (fr' := [(4, .int .i64 0), (5, .int .i64 130)]) (ak := []) [o_, o_] [4, 5] (fun _ _ => by kernel_rfl) trivial ?_
   refine ah.nil (by kernel_rfl) (aj.next (af.ret (aj.av ?_)))
   refine aj.mem (aK := [.abs R, .abs (aZ 143 t most au us)]) (fun w hS => Sat.kP (l := [.abs R]) ⟨m, A, c, l, next⟩ (show fL (next) l (us) most (au) from hT) (hS.pick (idx := [0, 1, 2, 3]) (l' := [.abs R] ++ kO 143 t most (au) (us) ⟨m, A, c, l, next⟩) rfl rfl)) ?_
   exact aj.ret (v := .tuple #[.int .i64 0, .int .i64 130]) (l := [.abs (aZ 143 t most au us)]) (ak := []) [] [1, 0] (fun _ => by kernel_rfl) trivial rfl (by kernel_rfl) (⟨rfl, rfl⟩)
  ·
   exact absurd wg (by omega)
set_option maxRecDepth 100000 in
set_option maxHeartbeats 4000000 in
theorem uZ {β : Bs} (t : Nat) (most au : Int) (us : Used Value) (x : Value) (hf : (us.length : Int) < most) :
    Spec Tryz.prog β 144 #[.pointer (some ⟨t, 0, none⟩), x] [.abs (aZ 143 t most au us)] (fun v l => v = .tuple #[.int .i64 (least us), .int .i64 0] ∧ l = [.abs (aZ 143 t most (max au ((us.length : Int) + 1)) (ins (least us) x us))]) := by
 refine Spec.enter Tryz.func144 rfl Tryz.ntmps144 (Nat.le_of_ble_eq_true rfl) (fun R => ?_)
 refine af.seq ?_
 refine af.xh (Φ := fun x : TX => fL x.next x.l us most au) (hp := fun x => [.abs R] ++ kO 143 t most au us x) (fun w hS => (hS.pick (idx := [1, 0]) (l' := [.abs R] ++ [.abs (aZ 143 t most au us)]) rfl rfl).qH) (fun x hT => ?_)
 ·
  obtain ⟨m, A, c, l, next⟩ := x
  replace hT : fL next l us most au := hT
  have hb := hT.DU
  have hm0 := hT.pR
  have hm1 := hT.pS
  have hn1 := hT.pU
  have hn2 := hT.v7
  have DV := hT.q8
  have GJ := hT.ti.count
  show af _ _ _ _ [(0, .pointer (some ⟨t, 0, none⟩)), (1, x)] [.abs R, .blk t [.int .i64 (most), .int .i64 (au), .map (some m), .slice A (l.length) (c), .int .i64 (next)] 143, .abs (aC Tryz.prog 3 m (aN us) us.length), .abs (aF 3 1 A l.length c (ints l))] _
  refine af.region ?_
  refine ah.aA (k' := 2) (fr' := [(0, .pointer (some ⟨t, 0, none⟩)), (1, x)]) (ak := []) [o_, o_] [0, 1] (fun _ _ => by kernel_rfl) trivial ?_
  refine ah.nil (by kernel_rfl) (aj.next (af.seq (af.seq ?_)))
  refine af.bC (by kernel_rfl) (by kernel_rfl) ?_
  refine aI.seg (k' := 4) (fr' := [(0, .pointer (some ⟨t, 0, none⟩)), (1, x), (10, .map (some m))]) (ak := [t = t]) [o_, o_, o_, ⟨[.at 1], none, none, none, none⟩] [0, 1, 10] (fun _ _ => by kernel_rfl) ⟨rfl, trivial⟩ ?_
  refine aI.oC 2 (d := (some 11)) (t := 83) (K := 3) (E := 87) (b := m) (n := us.length) (f := (aN us)) (x := (.tmp 10)) (ats := #[83]) (fun _ => by kernel_rfl) (by kernel_rfl) (fun _ => by kernel_rfl) rfl Tryz.underlying83 ?_
  refine aI.seg (k' := 10) (fr' := [(0, .pointer (some ⟨t, 0, none⟩)), (1, x), (16, .bool (decide ((((us.length : Nat) : Int) : Int) ≥ (most : Int))))]) (ak := [t = t]) [o_, o_, o_, ⟨[.at 1], none, none, none, none⟩, o_] [0, 1, 16] (fun _ _ => by kernel_rfl) ⟨rfl, trivial⟩ ?_
  refine aI.nil (by kernel_rfl) (aj.next ?_)
  refine af.bH (p := (((us.length : Nat) : Int) : Int) ≥ (most : Int)) (fun _ => by kernel_rfl) (fun wg => ?_) (fun wg => ?_)
  ·
   exact absurd wg (by omega)
  ·
   refine af.skip (aj.next (af.seq (af.region ?_)))
   refine ah.aA (k' := 5) (fr' := [(0, .pointer (some ⟨t, 0, none⟩)), (1, x), (6, .int .i64 (next))]) (ak := [t = t]) [o_, o_, o_, ⟨[.at 1], none, none, none, none⟩, o_] [0, 1, 6] (fun _ _ => by kernel_rfl) ⟨rfl, trivial⟩ ?_
   refine ah.nil (by kernel_rfl) (aj.next (af.seq (af.seq (af.region ?_))))
   refine ah.aA (k' := 6) (fr' := [(0, .pointer (some ⟨t, 0, none⟩)), (1, x), (6, .int .i64 (next)), (26, .bool (decide ((((l.length : Nat) : Int) : Int) > (0 : Int))))]) (ak := [t = t]) [o_, o_, o_, ⟨[.at 1], none, none, none, none⟩, o_, o_] [0, 1, 6, 26] (fun _ _ => by kernel_rfl) ⟨rfl, trivial⟩ ?_
   refine ah.nil (by kernel_rfl) (aj.next ?_)
   refine af.bH (p := (((l.length : Nat) : Int) : Int) > (0 : Int)) (fun _ => by kernel_rfl) (fun x9 => ?_) (fun x9 => ?_)
   ·
    refine af.region ?_
    obtain ⟨n, hn⟩ : ∃ n, l.length = n + 1 := ⟨l.length - 1, by omega⟩
    refine ah.tell (p := ∃ g, A = some ⟨g, 0, none⟩) (fun w hS => let ⟨F, h⟩ := hS.get (i := 3) rfl; aF.head h (by omega)) (fun ⟨g, hg⟩ => ?_)
    subst hg
    refine ah.aA (k' := 4) (fr' := [(0, .pointer (some ⟨t, 0, none⟩)), (1, x), (31, .iface 209 (.pointer (some ⟨t, 3, none⟩)))]) (ak := []) [o_, o_, o_, o_] [0, 1, 31] (fun _ _ => by kernel_rfl) trivial ?_
    refine ah.call (f := 176) (args := #[.iface 209 (.pointer (some ⟨t, 3, none⟩))]) (d := (some 32)) (pre := [.blk t [.int .i64 (most), .int .i64 (au), .map (some m), .slice (some ⟨g, 0, none⟩) (l.length) (c), .int .i64 (next)] 143, .abs (aF 3 1 (some ⟨g, 0, none⟩) l.length c (ints l))]) (R := [.abs R, .abs (aC Tryz.prog 3 m (aN us) us.length)]) (pk := [1, 3, 0, 2]) (fun _ => by kernel_rfl) (Jl hn (by have := hT.ti.heap; rwa [hn] at this) hT.ti.inj (by omega)) rfl (by kernel_rfl) ?_
    rintro _ _ ⟨rfl, l2, rfl, hp2, hi2, hm2, rfl⟩
    refine ah.aA (k' := 10) (fr' := [(0, .pointer (some ⟨t, 0, none⟩)), (1, x), (6, .int .i64 ((at_ l 0)))]) (ak := []) [o_, o_, o_, o_, o_] [0, 1, 6] (fun _ _ => by kernel_rfl) trivial ?_
    refine ah.nil (by kernel_rfl) (aj.next (af.seq (af.region ?_)))
    refine ah.slot 6 (.int .i64 ((at_ l 0))) (.int .i64 ((least us))) (fun _ => by kernel_rfl) (by rw [hT.ti.vZ (by omega)]) ?_
    refine ah.aA (k' := 6) (fr' := [(0, .pointer (some ⟨t, 0, none⟩)), (6, .int .i64 ((least us))), (46, .map (some m)), (47, .int .i64 ((least us))), (48, x)]) (ak := [t = t]) [o_, o_, o_, ⟨[.at 0], none, none, none, none⟩, o_, o_] [0, 6, 46, 47, 48] (fun _ _ => by kernel_rfl) ⟨rfl, trivial⟩ ?_
    refine ah.jI 3 (d := none) (t := 83) (K := 3) (E := 87) (b := m) (n := us.length) (f := (aN us)) (x := (.tmp 46)) (ix := (.tmp 47)) (y := (.tmp 48)) (key := .int .i64 ((least us))) (u := x) (kl := (.int .i64 (least us))) (n' := (us.length + 1)) (f' := (aN (ins (least us) x us))) (fun _ => by kernel_rfl) (by kernel_rfl) (fun _ => by kernel_rfl) (fun _ => by kernel_rfl) (fun _ => by kernel_rfl) dL Tryz.underlying83 (by unfold maxLen; omega) (mg (by omega) (by omega)) (by rw [yx hb.2.2.1]; rfl) (xg hb.2.2.1 x) ?_
    refine ah.nil (by kernel_rfl) (aj.next (af.seq ?_))
    refine af.qf 13 (by kernel_rfl) (by kernel_rfl) ?_
    refine bX.seg (k' := 9) (fr' := [(6, .int .i64 ((least us))), (49, .pointer (some ⟨t, 0, none⟩)), (53, .int .i64 (au)), (57, .map (some m))]) (ak := [t = t, t = t]) [o_, o_, o_, o_, ⟨[.at 0], none, none, none, none⟩, o_, o_, o_, ⟨[.at 0], none, none, none, none⟩] [6, 49, 53, 57] (fun _ _ => by kernel_rfl) ⟨rfl, rfl, trivial⟩ (by decide) ?_
    refine bX.oC 3 (d := (some 58)) (t := 83) (K := 3) (E := 87) (b := m) (cnt := (us.length + 1)) (f := (aN (ins (least us) x us))) (x := (.tmp 57)) (ats := #[83]) (fun _ => by kernel_rfl) (by kernel_rfl) (fun _ => by kernel_rfl) rfl Tryz.underlying83 (by decide) ?_
    refine bX.seg (k' := 13) (fr' := [(6, .int .i64 ((least us))), (59, .int .i64 ((max au ((us.length : Int) + 1)))), (61, .pointer (some ⟨t, 1, none⟩))]) (ak := [(Value.int .i64 (if (((us.length + 1) : Nat) : Int) > au then (((us.length + 1) : Nat) : Int) else au)) = (.int .i64 ((max au ((us.length : Int) + 1))))]) [⟨[], none, none, none, some (.int .i64 ((max au ((us.length : Int) + 1))))⟩, o_, o_] [6, 59, 61] (fun _ _ => by kernel_rfl) ⟨by rw [Cv]; rfl, trivial⟩ (by decide) ?_
    refine bX.done rfl ?_
    refine ah.seg (k' := 14) (fr' := [(6, .int .i64 ((least us)))]) (aK := [.blk t [.int .i64 (most), .int .i64 ((max au ((us.length : Int) + 1))), .map (some m), .slice (some ⟨g, 0, none⟩) (l2.length) (c), .int .i64 (next)] 143, .abs (aF 3 1 (some ⟨g, 0, none⟩) l2.length c (ints l2)), .abs R, .abs (aC Tryz.prog 3 m (aN (ins (least us) x us)) (us.length + 1))]) (ak := [t = t]) [⟨[.at 0], none, none, none, none⟩] [6] [0, 1, 2, 3] (fun _ _ => by kernel_rfl) ⟨rfl, trivial⟩ ?_
    refine ah.nil (by kernel_rfl) (aj.next (af.seq (af.region ?_)))
    refine ah.aA (k' := 3) (fr' := [(4, .int .i64 ((least us))), (5, .int .i64 0)]) (ak := []) [o_, o_, o_] [4, 5] (fun _ _ => by kernel_rfl) trivial ?_
    refine ah.nil (by kernel_rfl) (aj.next (af.ret ?_))
    refine aj.mem (aK := [.blk t [.int .i64 (most), .int .i64 ((max au ((us.length : Int) + 1))), .map (some m), .slice (some ⟨g, 0, none⟩) (l2.length) (c), .int .i64 (next)] 143, .abs (aF 3 1 (some ⟨g, 0, none⟩) l2.length c (ints l2)), .abs R, .abs (aC Tryz.prog 3 m (aN (ins (least us) x us)) ((ins (least us) x us).length))]) (fun w hS => by rw [fJ]; exact hS) ?_
    refine aj.mem (aK := [.abs R, .abs (aZ 143 t most (max au ((us.length : Int) + 1)) (ins (least us) x us))]) (fun w hS => Sat.kP (l := [.abs R]) ⟨m, some ⟨g, 0, none⟩, c, l2, next⟩ (show fL (next) l2 ((ins (least us) x us)) most ((max au ((us.length : Int) + 1))) from ⟨by rw [hT.ti.vZ (by omega)]; exact hT.ti.Fl (by omega) x (by omega) hp2 hi2 hm2, by rw [fJ]; omega, by omega, by omega, by omega, by omega⟩) (hS.pick (idx := [2, 0, 3, 1]) (l' := [.abs R] ++ kO 143 t most ((max au ((us.length : Int) + 1))) ((ins (least us) x us)) ⟨m, some ⟨g, 0, none⟩, c, l2, next⟩) rfl rfl)) ?_
    exact aj.ret (v := .tuple #[.int .i64 ((least us)), .int .i64 0]) (l := [.abs (aZ 143 t most (max au ((us.length : Int) + 1)) (ins (least us) x us))]) (ak := []) [] [1, 0] (fun _ => by kernel_rfl) trivial rfl (by kernel_rfl) (⟨rfl, rfl⟩)
   ·
    refine af.region ?_
    have hl0 : l = [] := List.eq_nil_of_length_eq_zero (by omega)
    have hl1 : l.length = 0 := by rw [hl0]; rfl
    have hl2 : TI next [] us := hl0 ▸ hT.ti
    refine ah.seg (k' := 8) (fr' := [(0, .pointer (some ⟨t, 0, none⟩)), (1, x), (6, .int .i64 (next))]) (aK := [.abs R, .blk t [.int .i64 (most), .int .i64 (au), .map (some m), .slice A (l.length) (c), .int .i64 ((next + 1))] 143, .abs (aC Tryz.prog 3 m (aN us) us.length), .abs (aF 3 1 A l.length c (ints l))]) (ak := [t = t, (Value.int .i64 (IntKind.wrap .i64 (next + 1))) = (.int .i64 ((next + 1))), t = t]) [o_, o_, o_, ⟨[.at 1], none, none, none, none⟩, ⟨[], none, none, none, some (.int .i64 ((next + 1)))⟩, o_, o_, ⟨[.at 1], none, none, none, none⟩] [0, 1, 6] [0, 1, 2, 3] (fun _ _ => by kernel_rfl) ⟨rfl, bQ rfl (by omega) (by omega), rfl, trivial⟩ ?_
    refine ah.nil (by kernel_rfl) (aj.next (af.seq (af.region ?_)))
    refine ah.slot 6 (.int .i64 (next)) (.int .i64 ((least us))) (fun _ => by kernel_rfl) (by rw [hl2.vY]) ?_
    refine ah.aA (k' := 6) (fr' := [(0, .pointer (some ⟨t, 0, none⟩)), (6, .int .i64 ((least us))), (46, .map (some m)), (47, .int .i64 ((least us))), (48, x)]) (ak := [t = t]) [o_, o_, o_, ⟨[.at 1], none, none, none, none⟩, o_, o_] [0, 6, 46, 47, 48] (fun _ _ => by kernel_rfl) ⟨rfl, trivial⟩ ?_
    refine ah.jI 2 (d := none) (t := 83) (K := 3) (E := 87) (b := m) (n := us.length) (f := (aN us)) (x := (.tmp 46)) (ix := (.tmp 47)) (y := (.tmp 48)) (key := .int .i64 ((least us))) (u := x) (kl := (.int .i64 (least us))) (n' := (us.length + 1)) (f' := (aN (ins (least us) x us))) (fun _ => by kernel_rfl) (by kernel_rfl) (fun _ => by kernel_rfl) (fun _ => by kernel_rfl) (fun _ => by kernel_rfl) dL Tryz.underlying83 (by unfold maxLen; omega) (mg (by omega) (by omega)) (by rw [yx hb.2.2.1]; rfl) (xg hb.2.2.1 x) ?_
    refine ah.nil (by kernel_rfl) (aj.next (af.seq ?_))
    refine af.qf 13 (by kernel_rfl) (by kernel_rfl) ?_
    refine bX.seg (k' := 9) (fr' := [(6, .int .i64 ((least us))), (49, .pointer (some ⟨t, 0, none⟩)), (53, .int .i64 (au)), (57, .map (some m))]) (ak := [t = t, t = t]) [o_, o_, o_, o_, ⟨[.at 1], none, none, none, none⟩, o_, o_, o_, ⟨[.at 1], none, none, none, none⟩] [6, 49, 53, 57] (fun _ _ => by kernel_rfl) ⟨rfl, rfl, trivial⟩ (by decide) ?_
    refine bX.oC 2 (d := (some 58)) (t := 83) (K := 3) (E := 87) (b := m) (cnt := (us.length + 1)) (f := (aN (ins (least us) x us))) (x := (.tmp 57)) (ats := #[83]) (fun _ => by kernel_rfl) (by kernel_rfl) (fun _ => by kernel_rfl) rfl Tryz.underlying83 (by decide) ?_
    refine bX.seg (k' := 13) (fr' := [(6, .int .i64 ((least us))), (59, .int .i64 ((max au ((us.length : Int) + 1)))), (61, .pointer (some ⟨t, 1, none⟩))]) (ak := [(Value.int .i64 (if (((us.length + 1) : Nat) : Int) > au then (((us.length + 1) : Nat) : Int) else au)) = (.int .i64 ((max au ((us.length : Int) + 1))))]) [⟨[], none, none, none, some (.int .i64 ((max au ((us.length : Int) + 1))))⟩, o_, o_] [6, 59, 61] (fun _ _ => by kernel_rfl) ⟨by rw [Cv]; rfl, trivial⟩ (by decide) ?_
    refine bX.done rfl ?_
    refine ah.seg (k' := 14) (fr' := [(6, .int .i64 ((least us)))]) (aK := [.abs R, .blk t [.int .i64 (most), .int .i64 ((max au ((us.length : Int) + 1))), .map (some m), .slice A (l.length) (c), .int .i64 ((next + 1))] 143, .abs (aC Tryz.prog 3 m (aN (ins (least us) x us)) (us.length + 1)), .abs (aF 3 1 A l.length c (ints l))]) (ak := [t = t]) [⟨[.at 1], none, none, none, none⟩] [6] [0, 1, 2, 3] (fun _ _ => by kernel_rfl) ⟨rfl, trivial⟩ ?_
    refine ah.nil (by kernel_rfl) (aj.next (af.seq (af.region ?_)))
    refine ah.aA (k' := 3) (fr' := [(4, .int .i64 ((least us))), (5, .int .i64 0)]) (ak := []) [o_, o_, o_] [4, 5] (fun _ _ => by kernel_rfl) trivial ?_
    refine ah.nil (by kernel_rfl) (aj.next (af.ret ?_))
    refine aj.mem (aK := [.abs R, .blk t [.int .i64 (most), .int .i64 ((max au ((us.length : Int) + 1))), .map (some m), .slice A (l.length) (c), .int .i64 ((next + 1))] 143, .abs (aC Tryz.prog 3 m (aN (ins (least us) x us)) ((ins (least us) x us).length)), .abs (aF 3 1 A l.length c (ints l))]) (fun w hS => by rw [fJ]; exact hS) ?_
    refine aj.mem (aK := [.abs R, .abs (aZ 143 t most (max au ((us.length : Int) + 1)) (ins (least us) x us))]) (fun w hS => Sat.kP (l := [.abs R]) ⟨m, A, c, l, (next + 1)⟩ (show fL ((next + 1)) l ((ins (least us) x us)) most ((max au ((us.length : Int) + 1))) from ⟨by rw [hl2.vY, hl0]; exact hl2.Fk x, by rw [fJ]; omega, by omega, by omega, by omega, by omega⟩) (hS.pick (idx := [0, 1, 2, 3]) (l' := [.abs R] ++ kO 143 t most ((max au ((us.length : Int) + 1))) ((ins (least us) x us)) ⟨m, A, c, l, (next + 1)⟩) rfl rfl)) ?_
    exact aj.ret (v := .tuple #[.int .i64 ((least us)), .int .i64 0]) (l := [.abs (aZ 143 t most (max au ((us.length : Int) + 1)) (ins (least us) x us))]) (ak := []) [] [1, 0] (fun _ => by kernel_rfl) trivial rfl (by kernel_rfl) (⟨rfl, rfl⟩)
set_option maxRecDepth 100000 in
set_option maxHeartbeats 4000000 in
theorem yB {β : Bs} (t : Nat) (most au : Int) (us : Used Value) (h : Int) (hw : (Lit.int .i64 h).wf = true) (x : Value) (hg : TabM.get us h = some x) :
    Spec Tryz.prog β 123 #[.pointer (some ⟨t, 0, none⟩), .int .i64 (h)] [.abs (aZ 143 t most au us)] (fun v l => v = .tuple #[x, .int .i64 0] ∧ l = [.abs (aZ 143 t most au (del h us))]) := by
 refine Spec.enter Tryz.func123 rfl Tryz.ntmps123 (Nat.le_of_ble_eq_true rfl) (fun R => ?_)
 refine af.seq (af.region ?_)
 refine ah.aA (k' := 2) (fr' := [(0, .pointer (some ⟨t, 0, none⟩)), (1, .int .i64 (h))]) (ak := []) [o_, o_] [0, 1] (fun _ _ => by kernel_rfl) trivial ?_
 refine ah.nil (by kernel_rfl) (aj.next (af.seq (af.region ?_)))
 refine ah.aA (k' := 2) (fr' := [(0, .pointer (some ⟨t, 0, none⟩)), (1, .int .i64 (h)), (9, .pointer (some ⟨t, 0, none⟩)), (10, .int .i64 (h))]) (ak := []) [o_, o_] [0, 1, 9, 10] (fun _ _ => by kernel_rfl) trivial ?_
 refine ah.call (f := 120) (args := #[.pointer (some ⟨t, 0, none⟩), .int .i64 (h)]) (d := (some 11)) (pre := [.abs (aZ 143 t most au us)]) (R := [.abs R]) (pk := [0, 1]) (fun _ => by kernel_rfl) (ji t most au us h hw x hg) rfl (by kernel_rfl) ?_
 rintro _ _ ⟨rfl, rfl⟩
 refine ah.aA (k' := 8) (fr' := [(0, .pointer (some ⟨t, 0, none⟩)), (1, .int .i64 (h)), (6, x), (7, .int .i64 0)]) (ak := []) [o_, o_, o_, o_, o_] [0, 1, 6, 7] (fun _ _ => by kernel_rfl) trivial ?_
 refine ah.nil (by kernel_rfl) (aj.next (af.seq (af.seq (af.region ?_))))
 refine ah.aA (k' := 2) (fr' := [(0, .pointer (some ⟨t, 0, none⟩)), (1, .int .i64 (h)), (6, x), (7, .int .i64 0), (15, .bool true)]) (ak := []) [o_, o_] [0, 1, 6, 7, 15] (fun _ _ => by kernel_rfl) trivial ?_
 refine ah.nil (by kernel_rfl) (aj.next ?_)
 refine af.fK (fun _ => by kernel_rfl) ?_
 refine af.seq ?_
 refine af.xh (Φ := fun x : TX => fL x.next x.l us most au) (hp := fun x => [.abs R] ++ kO 143 t most au us x) (fun w hS => (hS.pick (idx := [1, 0]) (l' := [.abs R] ++ [.abs (aZ 143 t most au us)]) rfl rfl).qH) (fun x0 hT => ?_)
 ·
  obtain ⟨m, A, c, l, next⟩ := x0
  replace hT : fL next l us most au := hT
  have hb := hT.DU
  have hm0 := hT.pR
  have hm1 := hT.pS
  have hn1 := hT.pU
  have hn2 := hT.v7
  have DV := hT.q8
  have GJ := hT.ti.count
  have hk := get_some hg
  show af _ _ _ _ [(0, .pointer (some ⟨t, 0, none⟩)), (1, .int .i64 (h)), (6, x), (7, .int .i64 0), (15, .bool true)] [.abs R, .blk t [.int .i64 (most), .int .i64 (au), .map (some m), .slice A (l.length) (c), .int .i64 (next)] 143, .abs (aC Tryz.prog 3 m (aN us) us.length), .abs (aF 3 1 A l.length c (ints l))] _
  refine af.region ?_
  refine ah.aA (k' := 5) (fr' := [(0, .pointer (some ⟨t, 0, none⟩)), (1, .int .i64 (h)), (6, x), (7, .int .i64 0), (19, .map (some m)), (20, .int .i64 (h))]) (ak := [t = t]) [o_, o_, o_, ⟨[.at 1], none, none, none, none⟩, o_] [0, 1, 6, 7, 19, 20] (fun _ _ => by kernel_rfl) ⟨rfl, trivial⟩ ?_
  refine ah.vH 2 (d := none) (t := 83) (K := 3) (E := 87) (b := m) (n := us.length) (f := (aN us)) (x := (.tmp 19)) (ix := (.tmp 20)) (key := .int .i64 (h)) (kl := (.int .i64 h)) (n' := (us.length - 1)) (f' := (aN (del h us))) (ats := #[83, 3]) (fun _ => by kernel_rfl) (by kernel_rfl) (fun _ => by kernel_rfl) (fun _ => by kernel_rfl) rfl dL Tryz.underlying83 (iB hw) (by rw [show aN us (.int .i64 h) = some x from hg]; rfl) (Bz) ?_
  refine ah.nil (by kernel_rfl) (aj.next (af.region ?_))
  refine ah.aA (k' := 6) (fr' := [(6, x), (7, .int .i64 0), (24, .iface 209 (.pointer (some ⟨t, 3, none⟩))), (26, .iface 3 (.int .i64 (h)))]) (ak := []) [o_, o_, o_, o_, o_, o_] [6, 7, 24, 26] (fun _ _ => by kernel_rfl) trivial ?_
  refine ah.call (f := 148) (args := #[.iface 209 (.pointer (some ⟨t, 3, none⟩)), .iface 3 (.int .i64 (h))]) (d := (some 27)) (pre := [.blk t [.int .i64 (most), .int .i64 (au), .map (some m), .slice A (l.length) (c), .int .i64 (next)] 143, .abs (aF 3 1 A l.length c (ints l))]) (R := [.abs R, .abs (aC Tryz.prog 3 m (aN (del h us)) (us.length - 1))]) (pk := [1, 3, 0, 2]) (fun _ => by kernel_rfl) (HE h hT.ti.heap (by omega)) rfl (by kernel_rfl) ?_
  rintro _ _ ⟨rfl, g, c', l2, MH, hp2, rfl⟩
  refine ah.nil (by kernel_rfl) (aj.next (af.seq (af.region ?_)))
  refine ah.aA (k' := 4) (fr' := [(4, x), (5, .int .i64 0)]) (ak := []) [o_, o_, o_, o_] [4, 5] (fun _ _ => by kernel_rfl) trivial ?_
  refine ah.nil (by kernel_rfl) (aj.next (af.ret ?_))
  have hld := mr hT.ti.rise hk
  refine aj.mem (aK := [.blk t [.int .i64 (most), .int .i64 (au), .map (some m), .slice (some ⟨g, 0, none⟩) (l2.length) (c'), .int .i64 (next)] 143, .abs (aF 3 1 (some ⟨g, 0, none⟩) l2.length c' (ints l2)), .abs R, .abs (aC Tryz.prog 3 m (aN (del h us)) ((del h us).length))]) (fun w hS => by rw [show (del h us).length = us.length - 1 by omega]; exact hS) ?_
  refine aj.mem (aK := [.abs R, .abs (aZ 143 t most au (del h us))]) (fun w hS => Sat.kP (l := [.abs R]) ⟨m, some ⟨g, 0, none⟩, c', l2, next⟩ (show fL (next) l2 ((del h us)) most (au) from ⟨hT.ti.drop hk MH hp2, by omega, hm1, hn1, hn2, DV⟩) (hS.pick (idx := [2, 0, 3, 1]) (l' := [.abs R] ++ kO 143 t most (au) ((del h us)) ⟨m, some ⟨g, 0, none⟩, c', l2, next⟩) rfl rfl)) ?_
  exact aj.ret (v := .tuple #[x, .int .i64 0]) (l := [.abs (aZ 143 t most au (del h us))]) (ak := []) [] [1, 0] (fun _ => by kernel_rfl) trivial rfl (by kernel_rfl) (⟨rfl, rfl⟩)
set_option maxRecDepth 100000 in
set_option maxHeartbeats 4000000 in
theorem AZ {β : Bs} (t : Nat) (most au : Int) (us : Used Value) (h : Int) (hw : (Lit.int .i64 h).wf = true) (hg : TabM.get us h = none) :
    Spec Tryz.prog β 123 #[.pointer (some ⟨t, 0, none⟩), .int .i64 (h)] [.abs (aZ 143 t most au us)] (fun v l => v = .tuple #[.nilIface, .int .i64 131] ∧ l = [.abs (aZ 143 t most au us)]) := by
 refine Spec.enter Tryz.func123 rfl Tryz.ntmps123 (Nat.le_of_ble_eq_true rfl) (fun R => ?_)
 refine af.seq (af.region ?_)
 refine ah.aA (k' := 2) (fr' := [(0, .pointer (some ⟨t, 0, none⟩)), (1, .int .i64 (h))]) (ak := []) [o_, o_] [0, 1] (fun _ _ => by kernel_rfl) trivial ?_
 refine ah.nil (by kernel_rfl) (aj.next (af.seq (af.region ?_)))
 refine ah.aA (k' := 2) (fr' := [(0, .pointer (some ⟨t, 0, none⟩)), (1, .int .i64 (h)), (9, .pointer (some ⟨t, 0, none⟩)), (10, .int .i64 (h))]) (ak := []) [o_, o_] [0, 1, 9, 10] (fun _ _ => by kernel_rfl) trivial ?_
 refine ah.call (f := 120) (args := #[.pointer (some ⟨t, 0, none⟩), .int .i64 (h)]) (d := (some 11)) (pre := [.abs (aZ 143 t most au us)]) (R := [.abs R]) (pk := [0, 1]) (fun _ => by kernel_rfl) (ni t most au us h hw hg) rfl (by kernel_rfl) ?_
 rintro _ _ ⟨rfl, rfl⟩
 refine ah.aA (k' := 8) (fr' := [(0, .pointer (some ⟨t, 0, none⟩)), (1, .int .i64 (h)), (6, .nilIface), (7, .int .i64 131)]) (ak := []) [o_, o_, o_, o_, o_] [0, 1, 6, 7] (fun _ _ => by kernel_rfl) trivial ?_
 refine ah.nil (by kernel_rfl) (aj.next (af.seq (af.seq (af.region ?_))))
 refine ah.aA (k' := 2) (fr' := [(0, .pointer (some ⟨t, 0, none⟩)), (1, .int .i64 (h)), (6, .nilIface), (7, .int .i64 131), (15, .bool false)]) (ak := []) [o_, o_] [0, 1, 6, 7, 15] (fun _ _ => by kernel_rfl) trivial ?_
 refine ah.nil (by kernel_rfl) (aj.next ?_)
 refine af.jw (fun _ => by kernel_rfl) ?_
 refine af.skip (aj.next (af.seq (af.region ?_)))
 refine ah.aA (k' := 4) (fr' := [(4, .nilIface), (5, .int .i64 131)]) (ak := []) [o_, o_, o_, o_] [4, 5] (fun _ _ => by kernel_rfl) trivial ?_
 refine ah.nil (by kernel_rfl) (aj.next (af.ret ?_))
 exact aj.ret (v := .tuple #[.nilIface, .int .i64 131]) (l := [.abs (aZ 143 t most au us)]) (ak := []) [] [0, 1] (fun _ => by kernel_rfl) trivial rfl (by kernel_rfl) (⟨rfl, rfl⟩)
end Go.Proofs.YtkiedlmhocglhaaGreat
end
section
namespace Go.Proofs.YtkiedlmhocglhaaGreat
open Go.RowKit Go.Maps HeapM TabM
theorem Spec.qg {P : Program} {β : Bs} {f : FuncId} {args : Array Value} {pre R : List HP} {post : Value → List HP → Prop} (h : ∀ β' : Bs, jM β R β' → Spec P β' f args pre post) : Spec P β f args (pre ++ R) (fun v l => ∃ l0, post v l0 ∧ l = l0 ++ R) := by
  intro A w hS
  have h1 := Sat.turn hS
  rw [← List.append_assoc] at h1
  obtain ⟨β', g1, _, g3⟩ := h1.qg
  refine (h β' g1 A w (Sat.turn g3)).mono ?_
  rintro e w' ⟨v, l, h1, h2, h3⟩
  refine ⟨v, l ++ R, h1, ⟨l, h2, rfl⟩, ?_⟩
  have h4 := g1.back (Sat.turn h3)
  rw [List.append_assoc] at h4
  exact Sat.turn h4
def aJ (L : HL) (us : Used Th) : Used Value := us.map fun q => (q.1, cM L q.2)
theorem ez (L : HL) (us : Used Th) (h : Int) : aN (aJ L us) (.int .i64 h) = (TabM.get us h).map (cM L) := get_map (cM L) us h
theorem xj {L : HL} {us : Used Th} {h : Int} : jl (aN (aJ L us)) (.int .i64 h) none = aN (aJ L (del h us)) := by
  rw [Bz]
  exact congrArg aN (Bx (cM L) h us).symm
theorem mw (L : HL) (us : Used Th) : (aJ L us).length = us.length := List.length_map ..
theorem vf (L : HL) (us : Used Th) : keys (aJ L us) = keys us := keys_map (cM L) us
def j8 (O : bM) (k : Nat) : bM := aB O k (fun o => { o with gone := true })
def lP (O : bM) (t : Th) : Prop := (obj O t.k).gone = true ∧ (obj O t.k).opens = 0
instance (O : bM) (t : Th) : Decidable (lP O t) := inferInstanceAs (Decidable (_ ∧ _))
def eW (O : bM) (idx : Used Th) (t : Th) : Used Th := if lP O t then del (obj O t.k).id idx else idx
def fF (O : bM) (used : Int) (t : Th) : Int := if lP O t then if t.kind = 1 then used - (obj O t.k).data.length else used else used
abbrev vP (b : Nat) : Value := .pointer (some ⟨b, 0, none⟩)
abbrev vI (x : Int) : Value := .int .i64 x
abbrev pF (f m t : Nat) (X : FM) : HP := .blk f [.int .i64 X.cN, .int .i64 X.cB, .int .i64 X.cH, .int .i64 X.cS, .int .i64 X.cZ, .map (some m), .pointer (some ⟨t, 0, none⟩), .int .i64 X.last, .int .i64 X.ai, .int .i64 X.used] 89
abbrev pI (m : Nat) (L : HL) (us : Used Th) : HP := .abs (aC Tryz.prog 3 m (aN (aJ L us)) us.length)
abbrev pT (t : Nat) (most au : Int) (L : HL) (us : Used Th) : HP := .abs (aZ 143 t most au (aJ L us))
abbrev pO (O : bM) (L : HL) : HP := .abs (aq (aS O L))
abbrev pD (O : bM) (L : HL) : HP := .abs (aq (aY O L))
abbrev pE (O : bM) (L : HL) : HP := .abs (aq (bw O L))
end Go.Proofs.YtkiedlmhocglhaaGreat
end
section
namespace Go.Proofs.YtkiedlmhocglhaaGreat
open Go.RowKit Go.Maps HeapM TabM
attribute [local irreducible] ah aI af aj
abbrev DW (f : Nat) (X : FM) (m : Nat) (t) := (.blk f [.int .i64 (X.cN), .int .i64 (X.cB), .int .i64 (X.cH), .int .i64 (X.cS), .int .i64 (X.cZ), .map (some m), .pointer (some ⟨t, 0, none⟩), .int .i64 (X.last), .int .i64 (X.ai), .int .i64 (X.used)] 89 : HP)
set_option maxRecDepth 100000 in
set_option maxHeartbeats 4000000 in
theorem Fo {β : Bs} (X : FM) (f m t : Nat) (hX : 0 ≤ X.ai ∧ X.ai ≤ 1048576 ∧ -1125899906842624 ≤ X.used ∧ X.used ≤ 1125899906842624 ∧ 0 ≤ X.last ∧ X.last ≤ 1125899906842624) (O : bM) (L : HL) (idx : Used Th) (DX : TabM.bW (keys idx)) (th : Th) (hkt : (obj O th.k).kind = th.kind) (h3 : th.kind = 1 ∨ th.kind = 2 ∨ th.kind = 3) (hg : (obj O th.k).gone = true) (ho : (obj O th.k).opens = 0) (dh : TabM.get idx (obj O th.k).id = some th) (hw : (Lit.int .i64 (obj O th.k).id).wf = true) (sM : (obj O th.k).data.length ≤ 1125899906842624) :
    Spec Tryz.prog β 124 #[.pointer (some ⟨f, 0, none⟩), (cM L th)] [pO O L, pF f m t X, pI m L idx] (fun v l => v = .tuple #[] ∧ l = [pO O L, pF f m t { X with used := if th.kind = 1 then X.used - (obj O th.k).data.length else X.used }, pI m L (del (obj O th.k).id idx)]) := by
 refine Spec.enter Tryz.func124 rfl Tryz.ntmps124 (Nat.le_of_ble_eq_true rfl) (fun R => ?_)
 refine af.seq ?_
 obtain ⟨tk, kd⟩ := th; simp only at hkt h3; rcases h3 with rfl | rfl | rfl
 ·
  replace hkt : (obj O tk).kind = 1 := hkt
  replace hg : (obj O tk).gone = true := hg
  replace ho : (obj O tk).opens = 0 := ho
  replace dh : TabM.get idx (obj O tk).id = some _ := dh
  replace hw : (Lit.int .i64 (obj O tk).id).wf = true := hw
  have hdl := mr DX (get_some dh)
  replace sM : (obj O tk).data.length ≤ 1125899906842624 := sM
  refine af.region ?_
  refine gK 1 [(7, .iface 92 (.pointer (some ⟨(L.b tk), 0, none⟩)))] [] ?_
  refine gL [] (cg (L.b tk)) ?_
  rintro _ _ ⟨rfl, rfl⟩
  refine gK 1 [(4, .pointer (some ⟨(L.b tk), 0, none⟩))] [] ?_
  refine NN (af.seq (SR ?_))
  refine gK 6 [(14, .bool (!(obj O tk).gone))] [(3, v_ 0 (lN L hkt))] ?_
  refine ah.iM 14 (!(obj O tk).gone) (fun _ => by kernel_rfl) (fun fP => ?_) (fun fP => ?_)
  ·
   exact absurd fP (by simp [hg])
  ·
   refine gK 6 [(20, .bool (decide (((obj O tk).opens : Int) > (0 : Int))))] [(3, v_ 0 (gX L hkt))] ?_
   refine NN ?_
   refine af.bH (p := ((obj O tk).opens : Int) > (0 : Int)) (fun _ => by kernel_rfl) (fun l5 => ?_) (fun l5 => ?_)
   ·
    exact absurd l5 (by omega)
   ·
    refine af.skip (NX (af.seq ?_))
    refine af.bT (S := [pO O L, pF f m t X, pI m L idx, .abs R]) [0, 1, 2, 3, 4, 5, 6, 7, 8] 8 [0, 1, 2, 3] (by kernel_rfl) (by kernel_rfl) rfl (by kernel_rfl) ?_
    refine aD.reads (r := 0) (l := [8]) (fr' := [(0, vP f), (1, .iface 92 (vP (L.b tk))), (24, .map (some m)), (28, vI ((obj O tk).id))]) (ak := [(∀ F w, (aq (aS O L)).h F w → w.cell? ⟨(L.b tk), 0, none⟩ = some (.int .i64 ((obj O tk).id))), f = f]) [0, 1, 2, 3, 4, 5, 6, 7] [o_, o_, o_, ⟨[.at 1], none, none, none, none⟩, o_, o_, o_, ⟨[.view 0 (.int .i64 ((obj O tk).id))], none, none, none, none⟩] [0, 1, 24, 28] (fun _ => by kernel_rfl) ⟨bg (by rw [hkt]; decide) (rfl), rfl, trivial⟩ rfl rfl ?_
    refine aD.last rfl rfl ?_
    refine ah.vH 2 (d := none) (t := 83) (K := 3) (E := 87) (b := m) (n := idx.length) (f := (aN (aJ L idx))) (x := (.tmp 24)) (ix := (.tmp 28)) (key := .int .i64 ((obj O tk).id)) (kl := (.int .i64 (obj O tk).id)) (n' := (idx.length - 1)) (f' := (aN (aJ L (del (obj O tk).id idx)))) (ats := #[83, 3]) (fun _ => by kernel_rfl) (by kernel_rfl) (fun _ => by kernel_rfl) (fun _ => by kernel_rfl) rfl dL Tryz.underlying83 (iB hw) (by rw [ez, dh]; rfl) (xj) ?_
    refine NL (aj.np (NX (SR ?_)))
    refine gK 7 [(5, .pointer (some ⟨(L.b tk), 0, none⟩)), (6, .bool true)] [] ?_
    refine NS ?_
    refine gK 1 [(34, .bool true)] [] ?_
    refine NN ?_
    refine CT ?_
    refine af.bT (S := [pO O L, pF f m t X, .abs (aC Tryz.prog 3 m (aN (aJ L (del (obj O tk).id idx))) (idx.length - 1)), .abs R]) [0, 1, 2, 3, 4, 5, 6, 7, 8, 9, 10, 11, 12] 12 [0, 1, 2, 3] (by kernel_rfl) (by kernel_rfl) rfl (by kernel_rfl) ?_
    refine aD.reads (r := 0) (l := [12]) (fr' := [(44, vI (X.used - (((obj O tk).data.length : Nat) : Int))), (46, .pointer (some ⟨f, 9, none⟩))]) (ak := [(Value.int .i64 (IntKind.wrap .i64 (X.used - (((obj O tk).data.length : Nat) : Int)))) = (.int .i64 (X.used - (((obj O tk).data.length : Nat) : Int))), (∀ F w, (aq (aS O L)).h F w → w.cell? ⟨(L.b tk), 9, none⟩ = some (.slice (L.dA tk) ((obj O tk).data.length) ((L.dC tk)))), f = f]) [0, 1, 2, 3, 4, 5, 6, 7, 8, 9, 10, 11] [o_, o_, o_, ⟨[.at 1], none, none, none, none⟩, o_, o_, o_, ⟨[.view 0 (.slice (L.dA tk) ((obj O tk).data.length) ((L.dC tk)))], none, none, none, none⟩, o_, ⟨[], none, none, none, some (.int .i64 (X.used - (((obj O tk).data.length : Nat) : Int)))⟩, o_, o_] [44, 46] (fun _ => by kernel_rfl) ⟨bQ (by omega) (by omega) (by omega), bg (by rw [hkt]; decide) (by rw [ef (hkt)]; rfl), rfl, trivial⟩ rfl rfl ?_
    refine aD.last rfl rfl ?_
    refine gC 1 [] [(0, a_ 1 f)] [(1, [(9, .int .i64 (X.used - (((obj O tk).data.length : Nat) : Int)))])] ?_
    refine NL (aj.np ?_)
    refine aj.mem (aK := [.abs (aq (aS O L)), .blk f [.int .i64 (X.cN), .int .i64 (X.cB), .int .i64 (X.cH), .int .i64 (X.cS), .int .i64 (X.cZ), .map (some m), .pointer (some ⟨t, 0, none⟩), .int .i64 (X.last), .int .i64 (X.ai), .int .i64 (X.used - (((obj O tk).data.length : Nat) : Int))] 89, .abs (aC Tryz.prog 3 m (aN (aJ L (del (obj O tk).id idx))) ((del (obj O tk).id idx).length)), .abs R]) (fun w hS => by rw [show (del (obj O tk).id idx).length = idx.length - 1 by omega]; exact hS) ?_
    exact RF (.tuple #[]) [0, 1, 2, 3] (⟨rfl, rfl⟩)
 ·
  replace hkt : (obj O tk).kind = 2 := hkt
  replace hg : (obj O tk).gone = true := hg
  replace ho : (obj O tk).opens = 0 := ho
  replace dh : TabM.get idx (obj O tk).id = some _ := dh
  replace hw : (Lit.int .i64 (obj O tk).id).wf = true := hw
  have hdl := mr DX (get_some dh)
  replace sM : (obj O tk).data.length ≤ 1125899906842624 := sM
  refine af.region ?_
  refine gK 1 [(7, .iface 98 (.pointer (some ⟨(L.b tk), 0, none⟩)))] [] ?_
  refine gL [] (cg (L.b tk)) ?_
  rintro _ _ ⟨rfl, rfl⟩
  refine gK 1 [(4, .pointer (some ⟨(L.b tk), 0, none⟩))] [] ?_
  refine NN (af.seq (SR ?_))
  refine gK 6 [(14, .bool (!(obj O tk).gone))] [(3, v_ 0 (lN L hkt))] ?_
  refine ah.iM 14 (!(obj O tk).gone) (fun _ => by kernel_rfl) (fun fP => ?_) (fun fP => ?_)
  ·
   exact absurd fP (by simp [hg])
  ·
   refine gK 6 [(20, .bool (decide (((obj O tk).opens : Int) > (0 : Int))))] [(3, v_ 0 (gX L hkt))] ?_
   refine NN ?_
   refine af.bH (p := ((obj O tk).opens : Int) > (0 : Int)) (fun _ => by kernel_rfl) (fun l5 => ?_) (fun l5 => ?_)
   ·
    exact absurd l5 (by omega)
   ·
    refine af.skip (NX (af.seq ?_))
    refine af.bT (S := [pO O L, pF f m t X, pI m L idx, .abs R]) [0, 1, 2, 3, 4, 5, 6, 7, 8] 8 [0, 1, 2, 3] (by kernel_rfl) (by kernel_rfl) rfl (by kernel_rfl) ?_
    refine aD.reads (r := 0) (l := [8]) (fr' := [(0, vP f), (1, .iface 98 (vP (L.b tk))), (24, .map (some m)), (28, vI ((obj O tk).id))]) (ak := [(∀ F w, (aq (aS O L)).h F w → w.cell? ⟨(L.b tk), 0, none⟩ = some (.int .i64 ((obj O tk).id))), f = f]) [0, 1, 2, 3, 4, 5, 6, 7] [o_, o_, o_, ⟨[.at 1], none, none, none, none⟩, o_, o_, o_, ⟨[.view 0 (.int .i64 ((obj O tk).id))], none, none, none, none⟩] [0, 1, 24, 28] (fun _ => by kernel_rfl) ⟨bg (by rw [hkt]; decide) (rfl), rfl, trivial⟩ rfl rfl ?_
    refine aD.last rfl rfl ?_
    refine ah.vH 2 (d := none) (t := 83) (K := 3) (E := 87) (b := m) (n := idx.length) (f := (aN (aJ L idx))) (x := (.tmp 24)) (ix := (.tmp 28)) (key := .int .i64 ((obj O tk).id)) (kl := (.int .i64 (obj O tk).id)) (n' := (idx.length - 1)) (f' := (aN (aJ L (del (obj O tk).id idx)))) (ats := #[83, 3]) (fun _ => by kernel_rfl) (by kernel_rfl) (fun _ => by kernel_rfl) (fun _ => by kernel_rfl) rfl dL Tryz.underlying83 (iB hw) (by rw [ez, dh]; rfl) (xj) ?_
    refine NL (aj.np (NX (SR ?_)))
    refine gK 7 [(5, .pointer none), (6, .bool false)] [] ?_
    refine NS ?_
    refine gK 1 [(34, .bool false)] [] ?_
    refine NN ?_
    refine CF ?_
    refine af.skip ?_
    refine aj.mem (aK := [.abs (aq (aS O L)), .blk f [.int .i64 (X.cN), .int .i64 (X.cB), .int .i64 (X.cH), .int .i64 (X.cS), .int .i64 (X.cZ), .map (some m), .pointer (some ⟨t, 0, none⟩), .int .i64 (X.last), .int .i64 (X.ai), .int .i64 (X.used)] 89, .abs (aC Tryz.prog 3 m (aN (aJ L (del (obj O tk).id idx))) ((del (obj O tk).id idx).length)), .abs R]) (fun w hS => by rw [show (del (obj O tk).id idx).length = idx.length - 1 by omega]; exact hS) ?_
    exact RF (.tuple #[]) [0, 1, 2, 3] (⟨rfl, rfl⟩)
 ·
  replace hkt : (obj O tk).kind = 3 := hkt
  replace hg : (obj O tk).gone = true := hg
  replace ho : (obj O tk).opens = 0 := ho
  replace dh : TabM.get idx (obj O tk).id = some _ := dh
  replace hw : (Lit.int .i64 (obj O tk).id).wf = true := hw
  have hdl := mr DX (get_some dh)
  replace sM : (obj O tk).data.length ≤ 1125899906842624 := sM
  refine af.region ?_
  refine gK 1 [(7, .iface 95 (.pointer (some ⟨(L.b tk), 0, none⟩)))] [] ?_
  refine gL [] (cg (L.b tk)) ?_
  rintro _ _ ⟨rfl, rfl⟩
  refine gK 1 [(4, .pointer (some ⟨(L.b tk), 0, none⟩))] [] ?_
  refine NN (af.seq (SR ?_))
  refine gK 6 [(14, .bool (!(obj O tk).gone))] [(3, v_ 0 (lN L hkt))] ?_
  refine ah.iM 14 (!(obj O tk).gone) (fun _ => by kernel_rfl) (fun fP => ?_) (fun fP => ?_)
  ·
   exact absurd fP (by simp [hg])
  ·
   refine gK 6 [(20, .bool (decide (((obj O tk).opens : Int) > (0 : Int))))] [(3, v_ 0 (gX L hkt))] ?_
   refine NN ?_
   refine af.bH (p := ((obj O tk).opens : Int) > (0 : Int)) (fun _ => by kernel_rfl) (fun l5 => ?_) (fun l5 => ?_)
   ·
    exact absurd l5 (by omega)
   ·
    refine af.skip (NX (af.seq ?_))
    refine af.bT (S := [pO O L, pF f m t X, pI m L idx, .abs R]) [0, 1, 2, 3, 4, 5, 6, 7, 8] 8 [0, 1, 2, 3] (by kernel_rfl) (by kernel_rfl) rfl (by kernel_rfl) ?_
    refine aD.reads (r := 0) (l := [8]) (fr' := [(0, vP f), (1, .iface 95 (vP (L.b tk))), (24, .map (some m)), (28, vI ((obj O tk).id))]) (ak := [(∀ F w, (aq (aS O L)).h F w → w.cell? ⟨(L.b tk), 0, none⟩ = some (.int .i64 ((obj O tk).id))), f = f]) [0, 1, 2, 3, 4, 5, 6, 7] [o_, o_, o_, ⟨[.at 1], none, none, none, none⟩, o_, o_, o_, ⟨[.view 0 (.int .i64 ((obj O tk).id))], none, none, none, none⟩] [0, 1, 24, 28] (fun _ => by kernel_rfl) ⟨bg (by rw [hkt]; decide) (rfl), rfl, trivial⟩ rfl rfl ?_
    refine aD.last rfl rfl ?_
    refine ah.vH 2 (d := none) (t := 83) (K := 3) (E := 87) (b := m) (n := idx.length) (f := (aN (aJ L idx))) (x := (.tmp 24)) (ix := (.tmp 28)) (key := .int .i64 ((obj O tk).id)) (kl := (.int .i64 (obj O tk).id)) (n' := (idx.length - 1)) (f' := (aN (aJ L (del (obj O tk).id idx)))) (ats := #[83, 3]) (fun _ => by kernel_rfl) (by kernel_rfl) (fun _ => by kernel_rfl) (fun _ => by kernel_rfl) rfl dL Tryz.underlying83 (iB hw) (by rw [ez, dh]; rfl) (xj) ?_
    refine NL (aj.np (NX (SR ?_)))
    refine gK 7 [(5, .pointer none), (6, .bool false)] [] ?_
    refine NS ?_
    refine gK 1 [(34, .bool false)] [] ?_
    refine NN ?_
    refine CF ?_
    refine af.skip ?_
    refine aj.mem (aK := [.abs (aq (aS O L)), .blk f [.int .i64 (X.cN), .int .i64 (X.cB), .int .i64 (X.cH), .int .i64 (X.cS), .int .i64 (X.cZ), .map (some m), .pointer (some ⟨t, 0, none⟩), .int .i64 (X.last), .int .i64 (X.ai), .int .i64 (X.used)] 89, .abs (aC Tryz.prog 3 m (aN (aJ L (del (obj O tk).id idx))) ((del (obj O tk).id idx).length)), .abs R]) (fun w hS => by rw [show (del (obj O tk).id idx).length = idx.length - 1 by omega]; exact hS) ?_
    exact RF (.tuple #[]) [0, 1, 2, 3] (⟨rfl, rfl⟩)
set_option maxRecDepth 100000 in
set_option maxHeartbeats 4000000 in
theorem Cy {β : Bs} (O : bM) (L : HL) (f : Nat) (th : Th) (hkt : (obj O th.k).kind = th.kind) (h3 : th.kind = 1 ∨ th.kind = 2 ∨ th.kind = 3) (hg : (obj O th.k).gone = false ∨ 0 < (obj O th.k).opens) :
    Spec Tryz.prog β 124 #[.pointer (some ⟨f, 0, none⟩), (cM L th)] [pO O L] (fun v l => v = .tuple #[] ∧ l = [pO O L]) := by
 refine Spec.enter Tryz.func124 rfl Tryz.ntmps124 (Nat.le_of_ble_eq_true rfl) (fun R => ?_)
 refine af.seq ?_
 obtain ⟨tk, kd⟩ := th; simp only at hkt h3; rcases h3 with rfl | rfl | rfl
 ·
  replace hkt : (obj O tk).kind = 1 := hkt
  replace hg : (obj O tk).gone = false ∨ 0 < (obj O tk).opens := hg
  refine af.region ?_
  refine gK 1 [(7, .iface 92 (.pointer (some ⟨(L.b tk), 0, none⟩)))] [] ?_
  refine gL [] (cg (L.b tk)) ?_
  rintro _ _ ⟨rfl, rfl⟩
  refine gK 1 [(4, .pointer (some ⟨(L.b tk), 0, none⟩))] [] ?_
  refine NN (af.seq (SR ?_))
  refine gK 6 [(14, .bool (!(obj O tk).gone))] [(3, v_ 0 (lN L hkt))] ?_
  refine ah.iM 14 (!(obj O tk).gone) (fun _ => by kernel_rfl) (fun fP => ?_) (fun fP => ?_)
  ·
   refine gK 6 [(20, .bool true)] [] ?_
   refine NN ?_
   refine CT ?_
   refine af.ret (aj.av ?_)
   exact RT (.tuple #[]) [0, 1] (⟨rfl, rfl⟩)
  ·
   refine gK 6 [(20, .bool (decide (((obj O tk).opens : Int) > (0 : Int))))] [(3, v_ 0 (gX L hkt))] ?_
   refine NN ?_
   refine af.bH (p := ((obj O tk).opens : Int) > (0 : Int)) (fun _ => by kernel_rfl) (fun l5 => ?_) (fun l5 => ?_)
   ·
    refine af.ret (aj.av ?_)
    exact RT (.tuple #[]) [0, 1] (⟨rfl, rfl⟩)
   ·
    exact absurd hg (by simp at fP; rw [fP]; simp; omega)
 ·
  replace hkt : (obj O tk).kind = 2 := hkt
  replace hg : (obj O tk).gone = false ∨ 0 < (obj O tk).opens := hg
  refine af.region ?_
  refine gK 1 [(7, .iface 98 (.pointer (some ⟨(L.b tk), 0, none⟩)))] [] ?_
  refine gL [] (cg (L.b tk)) ?_
  rintro _ _ ⟨rfl, rfl⟩
  refine gK 1 [(4, .pointer (some ⟨(L.b tk), 0, none⟩))] [] ?_
  refine NN (af.seq (SR ?_))
  refine gK 6 [(14, .bool (!(obj O tk).gone))] [(3, v_ 0 (lN L hkt))] ?_
  refine ah.iM 14 (!(obj O tk).gone) (fun _ => by kernel_rfl) (fun fP => ?_) (fun fP => ?_)
  ·
   refine gK 6 [(20, .bool true)] [] ?_
   refine NN ?_
   refine CT ?_
   refine af.ret (aj.av ?_)
   exact RT (.tuple #[]) [0, 1] (⟨rfl, rfl⟩)
  ·
   refine gK 6 [(20, .bool (decide (((obj O tk).opens : Int) > (0 : Int))))] [(3, v_ 0 (gX L hkt))] ?_
   refine NN ?_
   refine af.bH (p := ((obj O tk).opens : Int) > (0 : Int)) (fun _ => by kernel_rfl) (fun l5 => ?_) (fun l5 => ?_)
   ·
    refine af.ret (aj.av ?_)
    exact RT (.tuple #[]) [0, 1] (⟨rfl, rfl⟩)
   ·
    exact absurd hg (by simp at fP; rw [fP]; simp; omega)
 ·
  replace hkt : (obj O tk).kind = 3 := hkt
  replace hg : (obj O tk).gone = false ∨ 0 < (obj O tk).opens := hg
  refine af.region ?_
  refine gK 1 [(7, .iface 95 (.pointer (some ⟨(L.b tk), 0, none⟩)))] [] ?_
  refine gL [] (cg (L.b tk)) ?_
  rintro _ _ ⟨rfl, rfl⟩
  refine gK 1 [(4, .pointer (some ⟨(L.b tk), 0, none⟩))] [] ?_
  refine NN (af.seq (SR ?_))
  refine gK 6 [(14, .bool (!(obj O tk).gone))] [(3, v_ 0 (lN L hkt))] ?_
  refine ah.iM 14 (!(obj O tk).gone) (fun _ => by kernel_rfl) (fun fP => ?_) (fun fP => ?_)
  ·
   refine gK 6 [(20, .bool true)] [] ?_
   refine NN ?_
   refine CT ?_
   refine af.ret (aj.av ?_)
   exact RT (.tuple #[]) [0, 1] (⟨rfl, rfl⟩)
  ·
   refine gK 6 [(20, .bool (decide (((obj O tk).opens : Int) > (0 : Int))))] [(3, v_ 0 (gX L hkt))] ?_
   refine NN ?_
   refine af.bH (p := ((obj O tk).opens : Int) > (0 : Int)) (fun _ => by kernel_rfl) (fun l5 => ?_) (fun l5 => ?_)
   ·
    refine af.ret (aj.av ?_)
    exact RT (.tuple #[]) [0, 1] (⟨rfl, rfl⟩)
   ·
    exact absurd hg (by simp at fP; rw [fP]; simp; omega)
theorem nj {β : Bs} (X : FM) (f m t : Nat) (hX : 0 ≤ X.ai ∧ X.ai ≤ 1048576 ∧ -1125899906842624 ≤ X.used ∧ X.used ≤ 1125899906842624 ∧ 0 ≤ X.last ∧ X.last ≤ 1125899906842624) (O : bM) (L : HL) (idx : Used Th) (DX : TabM.bW (keys idx)) (th : Th) (hkt : (obj O th.k).kind = th.kind) (h3 : th.kind = 1 ∨ th.kind = 2 ∨ th.kind = 3) (ho : 0 ≤ (obj O th.k).opens) (dh : lP O th → TabM.get idx (obj O th.k).id = some th) (hw : (Lit.int .i64 (obj O th.k).id).wf = true) (sM : (obj O th.k).data.length ≤ 1125899906842624) :
    Spec Tryz.prog β 124 #[.pointer (some ⟨f, 0, none⟩), (cM L th)] [pO O L, pF f m t X, pI m L idx] (fun v l => v = .tuple #[] ∧ l = [pO O L, pF f m t { X with used := fF O X.used th }, pI m L (eW O idx th)]) := by
  unfold fF eW
  by_cases h : lP O th
  · rw [if_pos h, if_pos h]
    exact Fo X f m t hX O L idx DX th hkt h3 h.1 h.2 (dh h) hw sM
  · rw [if_neg h, if_neg h]
    refine (Spec.qg (pre := [pO O L]) (R := [pF f m t X, pI m L idx]) (fun _ _ => Cy O L f th hkt h3 ?_)).mono (by rintro v l ⟨l0, ⟨rfl, rfl⟩, rfl⟩; exact ⟨rfl, rfl⟩)
    cases hg : (obj O th.k).gone with
    | false => exact .inl rfl
    | true => exact .inr (by have : ¬ (obj O th.k).opens = 0 := fun e => h ⟨hg, e⟩; omega)
set_option maxRecDepth 100000 in
set_option maxHeartbeats 4000000 in
theorem qh {β : Bs} (X : FM) (f m t : Nat) : Spec Tryz.prog β 117 #[.pointer (some ⟨f, 0, none⟩)] [DW f X m t] (fun v l => v = .bool (decide (X.ai < 8192)) ∧ l = [DW f X m t]) := by
 refine Spec.enter Tryz.func117 rfl Tryz.ntmps117 (Nat.le_of_ble_eq_true rfl) (fun R => ?_)
 refine SR ?_
 refine gK 1 [] [] ?_
 refine NS ?_
 refine gK 6 [(2, .bool (decide ((X.ai : Int) < (8192 : Int))))] [(3, a_ 0 f)] ?_
 refine NN (af.ret ?_)
 exact RT (.bool (decide ((X.ai : Int) < (8192 : Int)))) [0, 1] (⟨rfl, rfl⟩)
set_option maxRecDepth 100000 in
set_option maxHeartbeats 4000000 in
theorem dQ {β : Bs} (a b : Int) : Spec Tryz.prog β 25 #[.int .i64 a, .int .i64 b] [] (fun v l => v = .bool (decide (0 ≤ a ∧ a ≤ b)) ∧ l = []) := by
 refine Spec.enter Tryz.func25 rfl Tryz.ntmps25 (Nat.le_of_ble_eq_true rfl) (fun R => ?_)
 refine SR ?_
 refine gK 1 [] [] ?_
 refine NS ?_
 refine gK 3 [(7, .bool (decide ((a : Int) ≥ (0 : Int))))] [] ?_
 refine ah.fD 7 ((a : Int) ≥ (0 : Int)) (fun _ => by kernel_rfl) (fun h7 => ?_) (fun h7 => ?_)
 ·
  refine gK 5 [(4, .bool (decide ((a : Int) ≤ (b : Int))))] [] ?_
  refine NN (af.ret ?_)
  exact RT (.bool (decide ((a : Int) ≤ (b : Int)))) [0] (⟨by first | exact congrArg Value.bool (decide_eq_decide.2 (by omega)) | exact congrArg Value.bool (decide_eq_true (by omega)).symm | exact congrArg Value.bool (decide_eq_false (by omega)).symm, rfl⟩)
 ·
  refine gK 5 [(4, .bool false)] [] ?_
  refine NN (af.ret ?_)
  exact RT (.bool false) [0] (⟨by first | exact congrArg Value.bool (decide_eq_decide.2 (by omega)) | exact congrArg Value.bool (decide_eq_true (by omega)).symm | exact congrArg Value.bool (decide_eq_false (by omega)).symm, rfl⟩)
set_option maxRecDepth 100000 in
set_option maxHeartbeats 4000000 in
theorem zR {β : Bs} (X : FM) (f m t : Nat) (L : HL) (idx : Used Th) : Spec Tryz.prog β 145 #[.pointer (some ⟨f, 0, none⟩)] [DW f X m t, .abs (aC Tryz.prog 3 m (aN (aJ L idx)) idx.length)] (fun v l => v = .bool (decide ((idx.length : Int) < X.cN ∧ X.last < 1099511627776 ∧ X.ai < 8192)) ∧ l = [DW f X m t, .abs (aC Tryz.prog 3 m (aN (aJ L idx)) idx.length)]) := by
 refine Spec.enter Tryz.func145 rfl Tryz.ntmps145 (Nat.le_of_ble_eq_true rfl) (fun R => ?_)
 refine SR ?_
 refine gK 1 [] [] ?_
 refine NN (af.seq ?_)
 refine af.bC (by kernel_rfl) (by kernel_rfl) ?_
 refine gQ 4 [(6, .map (some m))] [(3, a_ 0 f)] ?_
 refine aI.oC 1 (d := (some 7)) (t := 83) (K := 3) (E := 87) (b := m) (n := idx.length) (f := (aN (aJ L idx))) (x := (.tmp 6)) (ats := #[83]) (fun _ => by kernel_rfl) (by kernel_rfl) (fun _ => by kernel_rfl) rfl Tryz.underlying83 ?_
 refine gQ 7 [(14, .bool (decide ((((idx.length : Nat) : Int) : Int) < (X.cN : Int))))] [(4, a_ 0 f)] ?_
 refine aI.fD 14 ((((idx.length : Nat) : Int) : Int) < (X.cN : Int)) (fun _ => by kernel_rfl) (fun fP => ?_) (fun fP => ?_)
 ·
  refine gQ 7 [(21, .bool (decide ((X.last : Int) < (1099511627776 : Int))))] [(3, a_ 0 f)] ?_
  refine aI.fD 21 ((X.last : Int) < (1099511627776 : Int)) (fun _ => by kernel_rfl) (fun oO => ?_) (fun oO => ?_)
  ·
   refine gQ 1 [(22, .pointer (some ⟨f, 0, none⟩))] [] ?_
   refine aI.call (f := 117) (args := #[.pointer (some ⟨f, 0, none⟩)]) (d := (some 23)) (pre := [pF f m t X]) (R := [pI m L idx, .abs R]) (pk := [0, 1, 2]) (fN := [0, 1, 2]) (v0 := .bool (decide (X.ai < 8192))) (fun _ => by kernel_rfl) (qh X f m t) rfl (by kernel_rfl) rfl (by kernel_rfl) (fun _ _ h => h) ?_
   refine gQ 2 [(2, .bool (decide (X.ai < 8192)))] [] ?_
   refine NQ (NX (af.ret ?_))
   exact RT (.bool (decide (X.ai < 8192))) [0, 1, 2] (⟨by first | exact congrArg Value.bool (decide_eq_decide.2 (by omega)) | exact congrArg Value.bool (decide_eq_true (by omega)).symm | exact congrArg Value.bool (decide_eq_false (by omega)).symm, rfl⟩)
  ·
   refine gQ 4 [(2, .bool false)] [] ?_
   refine NQ (NX (af.ret ?_))
   exact RT (.bool false) [0, 1, 2] (⟨by first | exact congrArg Value.bool (decide_eq_decide.2 (by omega)) | exact congrArg Value.bool (decide_eq_true (by omega)).symm | exact congrArg Value.bool (decide_eq_false (by omega)).symm, rfl⟩)
 ·
  refine gQ 11 [(2, .bool false)] [] ?_
  refine NQ (NX (af.ret ?_))
  exact RT (.bool false) [0, 1, 2] (⟨by first | exact congrArg Value.bool (decide_eq_decide.2 (by omega)) | exact congrArg Value.bool (decide_eq_true (by omega)).symm | exact congrArg Value.bool (decide_eq_false (by omega)).symm, rfl⟩)
set_option maxRecDepth 100000 in
set_option maxHeartbeats 4000000 in
theorem sN {β : Bs} (X : FM) (f m t : Nat) (hX : 0 ≤ X.ai ∧ X.ai ≤ 1048576 ∧ -1125899906842624 ≤ X.used ∧ X.used ≤ 1125899906842624 ∧ 0 ≤ X.last ∧ X.last ≤ 1125899906842624) (mode : Int) : Spec Tryz.prog β 114 #[.pointer (some ⟨f, 0, none⟩), .int .i64 mode] [DW f X m t] (fun v l => v = .agg #[.int .i64 (X.last + 1), .int .i64 mode, .int .i64 0, .int .i64 0, .int .i64 X.cS, .int .i64 X.cZ, .int .i64 0, .int .i64 0, .bool false] ∧ l = [.blk f [.int .i64 (X.cN), .int .i64 (X.cB), .int .i64 (X.cH), .int .i64 (X.cS), .int .i64 (X.cZ), .map (some m), .pointer (some ⟨t, 0, none⟩), .int .i64 (X.last + 1), .int .i64 (X.ai), .int .i64 (X.used)] 89]) := by
 refine Spec.enter Tryz.func114 rfl Tryz.ntmps114 (Nat.le_of_ble_eq_true rfl) (fun R => ?_)
 refine SR ?_
 refine gN 1 (fun b1 => [(4, .pointer (some ⟨b1, 0, none⟩))]) (fun _ => []) (fun _ => []) (fun b1 => .blk b1 [.int .i64 0, .int .i64 0, .int .i64 0, .int .i64 0, .int .i64 0, .int .i64 0, .int .i64 0, .int .i64 0, .bool false] 91) (fun b1 => ?_)
 refine NS ?_
 refine gC 8 [] [(3, a_ 0 f), (4, p_ ⟨[], none, none, none, some (.int .i64 (X.last + 1))⟩ [(Value.int .i64 (IntKind.wrap .i64 (X.last + 1))) = (.int .i64 (X.last + 1))] ⟨bQ (by omega) (by omega) (by omega), trivial⟩), (7, a_ 0 f)] [(0, [(7, .int .i64 (X.last + 1))])] ?_
 refine NN (af.seq ?_)
 refine af.bT (S := [pF f m t { X with last := X.last + 1 }, .abs R, .blk b1 [.int .i64 0, .int .i64 0, .int .i64 0, .int .i64 0, .int .i64 0, .int .i64 0, .int .i64 0, .int .i64 0, .bool false] 91]) [0, 1, 2, 3, 4, 5, 6, 7, 8, 9, 10, 11] 11 [0, 1, 2] (by kernel_rfl) (by kernel_rfl) rfl (by kernel_rfl) ?_
 refine aD.reads (r := 0) (l := [11]) (fr' := [(4, vP b1), (22, .agg #[vI (X.last + 1), vI (mode), vI 0, vI 0, vI (X.cS), vI (X.cZ), vI 0, vI 0, .bool false])]) (ak := [f = f, f = f, f = f]) [0, 1, 2, 3, 4, 5, 6, 7, 8, 9, 10] [o_, o_, o_, ⟨[.at 0], none, none, none, none⟩, o_, o_, o_, o_, o_, ⟨[.at 0, .at 0], none, none, none, none⟩, o_] [4, 22] (fun _ => by kernel_rfl) ⟨rfl, rfl, rfl, trivial⟩ rfl rfl ?_
 refine aD.last rfl rfl ?_
 refine gC 1 [] [(0, A_ 2 b1 9)] [(2, [(0, .int .i64 (X.last + 1)), (1, .int .i64 (mode)), (4, .int .i64 (X.cS)), (5, .int .i64 (X.cZ))])] ?_
 refine NL (aj.np (NX (af.ret ?_)))
 exact aj.ret (v := .agg #[.int .i64 (X.last + 1), .int .i64 (mode), .int .i64 0, .int .i64 0, .int .i64 (X.cS), .int .i64 (X.cZ), .int .i64 0, .int .i64 0, .bool false]) (l := [pF f m t { X with last := X.last + 1 }]) (ak := [b1 = b1, b1 = b1, b1 = b1, b1 = b1, b1 = b1, b1 = b1, b1 = b1, b1 = b1, b1 = b1]) [.at 2, .at 2, .at 2, .at 2, .at 2, .at 2, .at 2, .at 2, .at 2] [0, 1] (fun _ => by kernel_rfl) ⟨rfl, rfl, rfl, rfl, rfl, rfl, rfl, rfl, rfl, trivial⟩ rfl (by kernel_rfl) (⟨rfl, rfl⟩)
end Go.Proofs.YtkiedlmhocglhaaGreat
end
section
namespace Go.Proofs.YtkiedlmhocglhaaGreat
open Go.RowKit Go.Maps HeapM TabM
structure aH where
  X : FM
  O : bM
  idx : Used Th
  us : Used Th
  au : Int
abbrev pA (f m t : Nat) (L : HL) (S : aH) : List HP := [pF f m t S.X, pI m L S.idx, pT t S.X.cH S.au L S.us, pO S.O L, pD S.O L, pE S.O L]
structure aU where
  op : Int
  handle : Int
  other : Int
  name : ByteArray
  text : ByteArray
  dA : Option Addr
  dC : Nat
  data : List UInt8
  mode : Int
  uid : Int
  gid : Int
  sec : Int
  nano : Int
  code : Int
  answer : Int
def fT (c : aU) : List Value := [.int .i64 c.op, .int .i64 c.handle, .int .i64 c.other, .string c.name, .string c.text, .slice c.dA c.data.length c.dC, .int .i64 c.mode, .int .i64 c.uid, .int .i64 c.gid, .int .i64 c.sec, .int .i64 c.nano, .int .i64 c.code, .int .i64 c.answer]
abbrev pC (cb : Nat) (c : aU) : HP := .blk cb (fT c) 39
abbrev c0 (c : aU) : aU := { c with answer := 0, code := 230 }
def LY (L : HL) : Except Int Nat → Value
  | .error e => .tuple #[.pointer none, .int .i64 e]
  | .ok d => .tuple #[.pointer (some ⟨L.b d, 0, none⟩), .int .i64 0]
def LZ (L : HL) : Except Int Th → Value
  | .error e => .tuple #[.nilIface, .int .i64 e]
  | .ok t => .tuple #[cM L t, .int .i64 0]
noncomputable section
def cx (O : bM) (us : Used Th) (h : Int) (name : ByteArray) (need : Int) : Except Int Nat :=
  match TabM.get us h with
  | none => .error 131
  | some t =>
    if t.kind = 2 then
      if (obj O t.k).gone = true then .error 170
      else if cC name then if bits BinOp.and .i64 (obj O t.k).mode need = need then .ok t.k else .error 175
      else .error 95
    else .error 173
def ko (s : ByteArray) : Int :=
  if s = ⟨#[]⟩ then 90 else if s.size > 4096 then 93 else if tQ s then 0 else 91
def Room (X : FM) (idx : Used Th) : Prop := (idx.length : Int) < X.cN ∧ X.last < 1099511627776 ∧ X.ai < 8192
instance (X : FM) (idx : Used Th) : Decidable (Room X idx) := inferInstanceAs (Decidable (_ ∧ _ ∧ _))
def bY (X : FM) (O : bM) (idx : Used Th) (d : Nat) (name : ByteArray) : Int :=
  if aT name (obj O d).ai = none then if Room X idx then 0 else 177 else 171
def aQ (X : FM) (kind mode : Int) : aM := ⟨X.last + 1, mode, 0, 0, X.cS, X.cZ, 0, 0, false, kind, [], ⟨#[]⟩, [], none⟩
def aE (X : FM) : Nat := (X.last + 1).toNat
def ct (S : aH) (d : Nat) (name : ByteArray) (o : aM) : aH :=
  { S with
    X := { S.X with last := S.X.last + 1, ai := S.X.ai + 1 }
    O := bh S.X (aB S.O (aE S.X) (fun _ => o)) d name ⟨aE S.X, o.kind⟩
    idx := ins (S.X.last + 1) ⟨aE S.X, o.kind⟩ S.idx }
def ar (S : aH) (d : Nat) (name : ByteArray) (t : Th) : aH :=
  { S with
    X := { S.X with ai := S.X.ai - 1, used := if (obj (aG S.X S.O d name t) t.k).links = 0 then fF (j8 (aG S.X S.O d name t) t.k) S.X.used t else S.X.used }
    O := if (obj (aG S.X S.O d name t) t.k).links = 0 then j8 (aG S.X S.O d name t) t.k else aG S.X S.O d name t
    idx := if (obj (aG S.X S.O d name t) t.k).links = 0 then eW (j8 (aG S.X S.O d name t) t.k) S.idx t else S.idx }
theorem nk {S : aH} {d : Nat} {name : ByteArray} {t : Th} (h : (obj (aG S.X S.O d name t) t.k).links = 0) : ar S d name t = { S with X := { S.X with ai := S.X.ai - 1, used := fF (j8 (aG S.X S.O d name t) t.k) S.X.used t }, O := j8 (aG S.X S.O d name t) t.k, idx := eW (j8 (aG S.X S.O d name t) t.k) S.idx t } := by
  unfold ar
  simp only [if_pos h]
theorem pV {S : aH} {d : Nat} {name : ByteArray} {t : Th} (h : ¬ (obj (aG S.X S.O d name t) t.k).links = 0) : ar S d name t = { S with X := { S.X with ai := S.X.ai - 1 }, O := aG S.X S.O d name t } := by
  unfold ar
  simp only [if_neg h]
def mkdirM (S : aH) (d : Nat) (name : ByteArray) (mode : Int) : Int × aH :=
  if bY S.X S.O S.idx d name = 0 then (0, ct S d name (aQ S.X 2 mode)) else (bY S.X S.O S.idx d name, S)
def symlinkM (S : aH) (d : Nat) (name text : ByteArray) : Int × aH :=
  if ko text = 0 then
    if bY S.X S.O S.idx d name = 0 then (0, ct S d name { aQ S.X 3 511 with target := text }) else (bY S.X S.O S.idx d name, S)
  else (ko text, S)
def unlinkM (S : aH) (d : Nat) (name : ByteArray) : Int × aH :=
  match aT name (obj S.O d).ai with
  | none => (170, S)
  | some t => if t.kind = 2 then (172, S) else (0, ar S d name t)
def orphan (O : bM) (k : Nat) : bM := aB O k (fun o => { o with up := none })
def rmdirM (S : aH) (d : Nat) (name : ByteArray) : Int × aH :=
  match aT name (obj S.O d).ai with
  | none => (170, S)
  | some t => if t.kind = 2 then if (obj S.O t.k).ai = [] then (0, { ar S d name t with O := orphan (ar S d name t).O t.k }) else (178, S) else (173, S)
inductive gJ (O : bM) (sub : Nat) : Nat → Prop
  | here : gJ O sub sub
  | up {k j : Nat} : (obj O k).up = some j → gJ O sub j → gJ O sub k
instance (O : bM) (sub k : Nat) : Decidable (gJ O sub k) := Classical.propDecidable _
def kI (S : aH) (d : Nat) (name : ByteArray) (to : Nat) (toName : ByteArray) (t : Th) : aH :=
  { S with X := { S.X with ai := S.X.ai - 1 + 1 }, O := bh S.X (aG S.X S.O d name t) to toName t }
def renameM (S : aH) (d : Nat) (name : ByteArray) (to : Nat) (toName : ByteArray) : Int × aH :=
  match aT name (obj S.O d).ai with
  | none => (170, S)
  | some t =>
    if t.kind = 2 ∧ gJ S.O t.k to then (174, S)
    else match aT toName (obj S.O to).ai with
      | none => (0, kI S d name to toName t)
      | some o =>
        if o = t then (0, S) else if o.kind = 2 then (172, S) else if t.kind = 2 then (173, S)
        else (0, kI (ar S to toName o) d name to toName t)
def aV (X : FM) (n : Nat) : Nat := (min (n : Int) (X.cB - X.used)).toNat
def writeM (S : aH) (k : Nat) (bs : List UInt8) : Int × Int × aH :=
  if bs = [] then (0, 0, S)
  else if S.X.cB - S.X.used ≤ 0 then (0, 176, S)
  else ((aV S.X bs.length : Int), 0, { S with
    X := { S.X with used := S.X.used + (aV S.X bs.length : Int) }
    O := aB S.O k (fun o => { o with data := o.data ++ bs.take (aV S.X bs.length), sec := S.X.cS, nano := S.X.cZ }) })
def openM (S : aH) (t : Th) : Int × Int × aH :=
  (if (S.us.length : Int) < S.X.cH then least S.us else 0, if (S.us.length : Int) < S.X.cH then 0 else 130, { S with
    O := if (S.us.length : Int) < S.X.cH then aB S.O t.k (fun o => { o with opens := o.opens + 1 }) else S.O
    us := if (S.us.length : Int) < S.X.cH then ins (least S.us) t S.us else S.us
    au := if (S.us.length : Int) < S.X.cH then max S.au ((S.us.length : Int) + 1) else S.au })
theorem gy {S : aH} {t : Th} (h : (S.us.length : Int) < S.X.cH) : openM S t = (least S.us, 0, { S with O := aB S.O t.k (fun o => { o with opens := o.opens + 1 }), us := ins (least S.us) t S.us, au := max S.au ((S.us.length : Int) + 1) }) := by
  unfold openM
  simp only [if_pos h]
theorem jP {S : aH} {t : Th} (h : ¬ (S.us.length : Int) < S.X.cH) : openM S t = (0, 130, S) := by
  unfold openM
  simp only [if_neg h]
abbrev nL := Int × aH × aU
def ij (S : aH) (c : aU) : nL :=
  match TabM.get S.idx c.other with
  | none => (141, S, c)
  | some t => if t.kind = 2 then ((openM S t).2.1, (openM S t).2.2, { c with answer := (openM S t).1 }) else (173, S, c)
def d6 (O : bM) (us : Used Th) (c : aU) : Except Int Th :=
  match cx O us c.handle c.name 64 with
  | .error e => .error e
  | .ok d => match aT c.name (obj O d).ai with
    | none => .error 170
    | some t => .ok t
def dU (S : aH) (c : aU) : nL :=
  match d6 S.O S.us c with
  | .error e => (e, S, c)
  | .ok t => if t.kind = 3 then (174, S, c) else if t.kind = 1 then (173, S, c) else ((openM S t).2.1, (openM S t).2.2, { c with answer := (openM S t).1 })
def dI (S : aH) (c : aU) : nL :=
  match d6 S.O S.us c with
  | .error e => (e, S, c)
  | .ok t => if t.kind = 3 then (174, S, c) else if t.kind = 2 then (172, S, c) else ((openM S t).2.1, (openM S t).2.2, { c with answer := (openM S t).1 })
def kA (m : Int) : Prop := 0 ≤ m ∧ m ≤ 4095
instance (m : Int) : Decidable (kA m) := inferInstanceAs (Decidable (_ ∧ _))
def eN (S : aH) (c : aU) : nL :=
  match cx S.O S.us c.handle c.name 192 with
  | .error e => (e, S, c)
  | .ok d => if kA c.mode then ((mkdirM S d c.name c.mode).1, (mkdirM S d c.name c.mode).2, c) else (120, S, c)
def createM (S : aH) (d : Nat) (name : ByteArray) (mode : Int) : Int × Int × aH :=
  if bY S.X S.O S.idx d name = 0 then
    if (S.us.length : Int) < S.X.cH then
      (least S.us, 0, ct { S with us := ins (least S.us) ⟨aE S.X, 1⟩ S.us, au := max S.au ((S.us.length : Int) + 1) } d name { aQ S.X 1 mode with opens := 1 })
    else (0, 130, S)
  else (0, bY S.X S.O S.idx d name, S)
def dm (S : aH) (c : aU) : nL :=
  match cx S.O S.us c.handle c.name 192 with
  | .error e => (e, S, c)
  | .ok d => if kA c.mode then
      if bY S.X S.O S.idx d c.name = 0 then ((createM S d c.name c.mode).2.1, (createM S d c.name c.mode).2.2, { c with answer := (createM S d c.name c.mode).1 })
      else (bY S.X S.O S.idx d c.name, S, c)
    else (120, S, c)
def eH (S : aH) (c : aU) : nL :=
  match cx S.O S.us c.handle c.name 192 with
  | .error e => (e, S, c)
  | .ok d => ((symlinkM S d c.name c.text).1, (symlinkM S d c.name c.text).2, c)
def linkM (S : aH) (d : Nat) (name : ByteArray) (to : Nat) (toName : ByteArray) : Int × aH :=
  match aT name (obj S.O d).ai with
  | none => (170, S)
  | some t => if t.kind = 2 then (172, S)
    else if aT toName (obj S.O to).ai = none then
      if S.X.ai < 8192 then (0, { S with X := { S.X with ai := S.X.ai + 1 }, O := bh S.X S.O to toName t }) else (177, S)
    else (171, S)
def bV (S : aH) (c : aU) : nL :=
  match cx S.O S.us c.handle c.name 64 with
  | .error e => (e, S, c)
  | .ok d => match cx S.O S.us c.other c.text 192 with
    | .error e => (e, S, c)
    | .ok to => ((linkM S d c.name to c.text).1, (linkM S d c.name to c.text).2, c)
def eS (S : aH) (c : aU) : nL :=
  match cx S.O S.us c.handle c.name 192 with
  | .error e => (e, S, c)
  | .ok d => ((unlinkM S d c.name).1, (unlinkM S d c.name).2, c)
def fX (S : aH) (c : aU) : nL :=
  match cx S.O S.us c.handle c.name 192 with
  | .error e => (e, S, c)
  | .ok d => ((rmdirM S d c.name).1, (rmdirM S d c.name).2, c)
def eu (S : aH) (c : aU) : nL :=
  match cx S.O S.us c.handle c.name 192 with
  | .error e => (e, S, c)
  | .ok d => match cx S.O S.us c.other c.text 192 with
    | .error e => (e, S, c)
    | .ok to => ((renameM S d c.name to c.text).1, (renameM S d c.name to c.text).2, c)
def eO (S : aH) (c : aU) : nL :=
  match TabM.get S.us c.handle with
  | none => (131, S, c)
  | some t => if t.kind = 1 then ((writeM S t.k c.data).2.1, (writeM S t.k c.data).2.2, { c with answer := (writeM S t.k c.data).1 }) else (172, S, c)
def wh (m : Int) : Prop := 0 ≤ m ∧ m ≤ 2147483647
instance (m : Int) : Decidable (wh m) := inferInstanceAs (Decidable (_ ∧ _))
def bB (S : aH) (c : aU) : nL :=
  match TabM.get S.us c.handle with
  | none => (131, S, c)
  | some t =>
    if (obj S.O t.k).gone = true ∧ t.kind = 2 then (170, S, c)
    else if kA c.mode then
      if wh c.uid ∧ wh c.gid then
        if cL c.sec c.nano then (0, { S with O := aB S.O t.k (fun o => { o with mode := c.mode, uid := c.uid, gid := c.gid, sec := c.sec, nano := c.nano }) }, c)
        else (20, S, c)
      else (11, S, c)
    else (120, S, c)
def kJ (O : bM) (c : aU) : Option Th → aU
  | none => { c with other := 0, mode := 0, uid := 0, gid := 0, sec := 0, nano := 0 }
  | some t => { c with answer := (obj O t.k).id, other := t.kind, mode := (obj O t.k).mode, uid := (obj O t.k).uid, gid := (obj O t.k).gid, sec := (obj O t.k).sec, nano := (obj O t.k).nano }
def jA (S : aH) (c : aU) : nL :=
  match TabM.get S.us c.handle with
  | none => (131, S, kJ S.O c none)
  | some t => (0, S, kJ S.O c (some t))
def eY (S : aH) (c : aU) : nL :=
  match d6 S.O S.us c with
  | .error e => (e, S, kJ S.O c none)
  | .ok t => (0, S, kJ S.O c (some t))
def gh (O : bM) (k : Nat) : bM := aB O k (fun o => { o with opens := o.opens - 1 })
def gG (S : aH) (c : aU) : nL :=
  match TabM.get S.us c.handle with
  | none => (131, S, c)
  | some t => (0, { S with
      X := { S.X with used := fF (gh S.O t.k) S.X.used t }
      O := gh S.O t.k
      idx := eW (gh S.O t.k) S.idx t
      us := del c.handle S.us }, c)
def opM (S : aH) (c : aU) : nL :=
  if c.op = 1 then ij S c else if c.op = 2 then dU S c else if c.op = 3 then dI S c else if c.op = 4 then eN S c
  else if c.op = 5 then dm S c else if c.op = 6 then eH S c else if c.op = 7 then bV S c else if c.op = 8 then eS S c
  else if c.op = 9 then eO S c else if c.op = 10 then bB S c else if c.op = 11 then jA S c else if c.op = 12 then eY S c
  else if c.op = 13 then gG S c else if c.op = 14 then fX S c else if c.op = 15 then eu S c else (230, S, c)
def doM (S : aH) (c : aU) : aH × aU :=
  ((opM S { c with answer := 0, code := 230 }).2.1, { (opM S { c with answer := 0, code := 230 }).2.2 with code := (opM S { c with answer := 0, code := 230 }).1 })
end
end Go.Proofs.YtkiedlmhocglhaaGreat
end
section
namespace Go.Proofs.YtkiedlmhocglhaaGreat
open Go.RowKit Go.Maps HeapM TabM
section sums
variable {V : Type} {g g' : Int × V → Nat} {us : Used V} {h : Int} {v : V}
def cG (g : Int × V → Nat) : Used V → Nat
  | [] => 0
  | p :: r => g p + cG g r
theorem vg : cG g (ins h v us) = g (h, v) + cG g us := by
  induction us with
  | nil => rfl
  | cons p r ih =>
    unfold ins
    split
    · rfl
    · show g p + cG g (ins h v r) = g (h, v) + (g p + cG g r)
      rw [ih]; omega
theorem dX (hc : ∀ p ∈ us, g' p = g p) : cG g' us = cG g us := by
  induction us with
  | nil => rfl
  | cons p r ih =>
    show g' p + cG g' r = g p + cG g r
    rw [hc p (List.mem_cons_self ..), ih (fun q hq => hc q (List.mem_cons_of_mem _ hq))]
theorem BB (hc : ∀ p ∈ us, g' p ≤ g p) : cG g' us ≤ cG g us := by
  induction us with
  | nil => exact Nat.le_refl _
  | cons p r ih =>
    show g' p + cG g' r ≤ g p + cG g r
    exact Nat.add_le_add (hc p (List.mem_cons_self ..)) (ih (fun q hq => hc q (List.mem_cons_of_mem _ hq)))
theorem oP {p : Int × V} {r : Used V} : TabM.get (p :: r) h = if p.1 = h then some p.2 else TabM.get r h := by
  unfold TabM.get
  rw [List.find?_cons]
  by_cases e : p.1 = h
  · simp [e]
  · have e2 : (p.1 == h) = false := by simpa using e
    rw [e2, if_neg e]
theorem get_mem {us : Used V} (e : TabM.get us h = some v) : (h, v) ∈ us := by
  induction us with
  | nil => cases e
  | cons p r ih =>
    rw [oP] at e
    split at e
    · rename_i e2; cases e; subst e2; exact List.mem_cons_self ..
    · exact List.mem_cons_of_mem _ (ih e)
theorem lg {us : Used V} (hr : TabM.bW (keys us)) (e : (h, v) ∈ us) : TabM.get us h = some v := by
  induction us with
  | nil => cases e
  | cons p r ih =>
    rw [keys_cons] at hr
    obtain ⟨h1, h2⟩ := List.pairwise_cons.1 hr
    rw [oP]
    rcases List.mem_cons.1 e with e | e
    · subst e; rw [if_pos rfl]
    · have : p.1 < h := h1 h (List.mem_map.2 ⟨(h, v), e, rfl⟩)
      rw [if_neg (by omega)]
      exact ih h2 e
theorem lp (e : TabM.get us h = some v) : g (h, v) ≤ cG g us := by
  have hm := get_mem e
  induction us with
  | nil => cases hm
  | cons p r ih =>
    show _ ≤ g p + cG g r
    rw [oP] at e
    split at e
    · rename_i e2; cases e; subst e2; exact Nat.le_add_right ..
    · rcases List.mem_cons.1 hm with e2 | e2
      · subst e2; exact Nat.le_add_right ..
      · exact Nat.le_trans (ih e e2) (Nat.le_add_left ..)
theorem vk (hr : TabM.bW (keys us)) (e : TabM.get us h = some v) (hc : ∀ p ∈ us, p.1 ≠ h → g' p = g p) : cG g' us + g (h, v) = cG g us + g' (h, v) := by
  induction us with
  | nil => cases e
  | cons p r ih =>
    rw [keys_cons] at hr
    obtain ⟨h1, h2⟩ := List.pairwise_cons.1 hr
    rw [oP] at e
    show g' p + cG g' r + _ = g p + cG g r + _
    split at e
    · rename_i e2
      cases e
      have e3 : cG g' r = cG g r := dX (fun q hq => hc q (List.mem_cons_of_mem _ hq) (by
        have := h1 q.1 (List.mem_map.2 ⟨q, hq, rfl⟩); omega))
      have e4 : p = (h, p.2) := by rw [← e2]
      rw [e3, ← e4]; omega
    · rename_i e2
      have := ih h2 e (fun q hq => hc q (List.mem_cons_of_mem _ hq))
      have := hc p (List.mem_cons_self ..) e2
      omega
theorem Fq {p : Int × V} {r : Used V} : del h (p :: r) = if p.1 = h then del h r else p :: del h r := by
  unfold del
  rw [List.filter_cons]
  by_cases e : p.1 = h
  · simp [e]
  · simp [e]
theorem HM {us : Used V} (hn : h ∉ keys us) : del h us = us := by
  unfold del
  refine List.filter_eq_self.2 (fun p hp => ?_)
  have : ¬ p.1 = h := fun e => hn (List.mem_map.2 ⟨p, hp, e⟩)
  simp [this]
theorem vl (hr : TabM.bW (keys us)) (e : TabM.get us h = some v) : cG g (del h us) + g (h, v) = cG g us := by
  induction us with
  | nil => cases e
  | cons p r ih =>
    rw [keys_cons] at hr
    obtain ⟨h1, h2⟩ := List.pairwise_cons.1 hr
    rw [oP] at e
    rw [Fq]
    show _ = g p + cG g r
    split at e
    · rename_i e2
      cases e
      rw [if_pos e2, HM (fun hm => by have := h1 h hm; omega)]
      have e4 : p = (h, p.2) := by rw [← e2]
      rw [← e4]; omega
    · rename_i e2
      rw [if_neg e2]
      show g p + cG g (del h r) + _ = _
      have := ih h2 e
      omega
theorem zS {us : Used V} (hr : TabM.bW (keys us)) : TabM.bW (keys (del h us)) := by
  rw [kM]
  exact List.Pairwise.filter _ hr
end sums
section L0
variable {n : ByteArray} {t : Th} {es : dD Th} {q : ByteArray × Th → Bool}
theorem DY : (dN n t es).countP q = es.countP q + if q (n, t) then 1 else 0 := by
  induction es with
  | nil => simp [dN, List.countP_cons]
  | cons e r ih =>
    unfold dN
    split
    · rw [List.countP_cons]
    · rw [List.countP_cons, ih, List.countP_cons]; omega
theorem DZ {es : dD Th} (hd : fI es) (h : aT n es = some t) : (dW n es).countP q + (if q (n, t) then 1 else 0) = es.countP q := by
  induction es with
  | nil => cases h
  | cons e r ih =>
    obtain ⟨h1, h2⟩ := List.pairwise_cons.1 hd
    rw [eV] at h
    rw [List.countP_cons]
    by_cases he : e.1 = n
    · rw [if_pos he] at h
      have e1 : dW n (e :: r) = r := by
        unfold dW
        rw [List.filter_cons, if_neg (by simp [he])]
        exact List.filter_eq_self.2 (fun x hx => by have := h1 x hx; simp; exact fun e2 => this (he.trans e2.symm))
      have e2 : e = (n, t) := by
        have : e.2 = t := Option.some.inj h
        rw [← he, ← this]
      rw [e1, ← e2]
    · rw [if_neg he] at h
      have e1 : dW n (e :: r) = e :: dW n r := by
        unfold dW
        rw [List.filter_cons, if_pos (by simp [he])]
      rw [e1, List.countP_cons]
      have := ih h2 h
      omega
theorem Fs {e : ByteArray × Th} {es : dD Th} (h : e ∈ dW n es) : e ∈ es ∧ e.1 ≠ n := by
  unfold dW at h
  have := List.mem_filter.1 h
  exact ⟨this.1, by simpa using this.2⟩
theorem sO {es : dD Th} (hd : fI es) (h : (n, t) ∈ es) : aT n es = some t := by
  induction es with
  | nil => cases h
  | cons e r ih =>
    obtain ⟨h1, h2⟩ := List.pairwise_cons.1 hd
    rw [eV]
    rcases List.mem_cons.1 h with h | h
    · subst h; rw [if_pos rfl]
    · rw [if_neg (fun e2 => h1 (n, t) h e2), ih h2 h]
end L0
def Live (idx : Used Th) (t : Th) : Prop := TabM.get idx (t.k : Int) = some t
def gI (es : dD Th) : Prop := es.Pairwise (fun a b => ¬ ig b.1 a.1)
def fH (idx : Used Th) (O : bM) (k : Nat) : Nat := cG (fun p => (obj O p.2.k).ai.countP (fun e => decide (e.2.k = k))) idx
def tot (idx : Used Th) (O : bM) : Nat := cG (fun p => (obj O p.2.k).ai.length) idx
def bytes (idx : Used Th) (O : bM) : Nat := cG (fun p => (obj O p.2.k).data.length) idx
def hnd (us : Used Th) (k : Nat) : Nat := cG (fun p => if p.2.k = k then 1 else 0) us
structure iT (o : aM) : Prop where
  mode : 0 ≤ o.mode ∧ o.mode ≤ 4095
  uid : 0 ≤ o.uid ∧ o.uid ≤ 2147483647
  gid : 0 ≤ o.gid ∧ o.gid ≤ 2147483647
  time : cL o.sec o.nano
  data : o.kind ≠ 1 → o.data = []
  ai : o.kind ≠ 2 → o.ai = []
  target : dz o.kind o.target
structure Inv0 (S : aH) : Prop where
  cN : 0 ≤ S.X.cN ∧ S.X.cN ≤ 4096
  cB : 0 ≤ S.X.cB ∧ S.X.cB ≤ 1099511627776
  cH : 0 ≤ S.X.cH ∧ S.X.cH ≤ 1024
  now : cL S.X.cS S.X.cZ
  last : 0 ≤ S.X.last ∧ S.X.last ≤ 1099511627776
  rise : TabM.bW (keys S.idx)
  len : S.idx.length ≤ 4096
  idx : ∀ i t, TabM.get S.idx i = some t → i = (t.k : Int) ∧ 0 < i ∧ i ≤ S.X.last
  ob : ∀ t, Live S.idx t → (obj S.O t.k).id = (t.k : Int) ∧ (obj S.O t.k).kind = t.kind ∧ (t.kind = 1 ∨ t.kind = 2 ∨ t.kind = 3)
  mt : ∀ t, Live S.idx t → iT (obj S.O t.k)
  ai : ∀ t, Live S.idx t → ∀ e ∈ (obj S.O t.k).ai, cC e.1 ∧ Live S.idx e.2
  sorted : ∀ t, Live S.idx t → gI (obj S.O t.k).ai
  dead : ∀ k, (∀ t, Live S.idx t → t.k ≠ k) → (obj S.O k).ai = [] ∧ (obj S.O k).up = none
  nX : ∀ k : Nat, S.X.last < (k : Int) → (obj S.O k).kind = 0
  total : S.X.ai = (tot S.idx S.O : Int) ∧ S.X.ai ≤ 8192
  links : ∀ t, Live S.idx t → (obj S.O t.k).links = (fH S.idx S.O t.k : Int)
  once : ∀ t, Live S.idx t → t.kind = 2 → (obj S.O t.k).links ≤ 1
  opens : ∀ t, Live S.idx t → (obj S.O t.k).opens = (hnd S.us t.k : Int)
  usr : TabM.bW (keys S.us)
  sP : ∀ x ∈ keys S.us, 1 ≤ x ∧ x ≤ S.au
  yC : (S.us.length : Int) ≤ S.X.cH
  au : 0 ≤ S.au ∧ S.au ≤ S.X.cH
  us : ∀ h t, TabM.get S.us h = some t → Live S.idx t ∧ t.kind ≠ 3
  gone : ∀ t, Live S.idx t → (obj S.O t.k).gone = true → (obj S.O t.k).links = 0 ∧ (obj S.O t.k).ai = []
  up : ∀ t, Live S.idx t → ∀ d, (obj S.O t.k).up = some d ↔ t.kind = 2 ∧ Live S.idx ⟨d, 2⟩ ∧ ∃ n, aT n (obj S.O d).ai = some t
  deep : ∃ dp : Nat → Nat, ∀ k d, (obj S.O k).up = some d → dp d < dp k
  used : S.X.used = (bytes S.idx S.O : Int) ∧ S.X.used ≤ 140737488355328
structure Inv (S : aH) : Prop extends Inv0 S where
  full : ∀ t, Live S.idx t → (obj S.O t.k).gone = true → 0 < (obj S.O t.k).opens
end Go.Proofs.YtkiedlmhocglhaaGreat
end
section
namespace Go.Proofs.YtkiedlmhocglhaaGreat
open Go.RowKit Go.Maps HeapM TabM
section at_
variable {X : FM} {O : bM} {d k : Nat} {name : ByteArray} {t : Th}
theorem fR (h : t.k ≠ d) : obj (aG X O d name t) k = if k = d then { obj O d with ai := dW name (obj O d).ai, sec := X.cS, nano := X.cZ } else if k = t.k then { obj O k with links := (obj O k).links - 1 } else obj O k := by
  unfold aG ng
  by_cases e : k = d
  · subst e
    rw [bP (fun e => h e.symm), bA, bA, if_pos rfl]
  · rw [if_neg e]
    by_cases e2 : k = t.k
    · subst e2
      rw [bA, bP e, bP e, if_pos rfl]
    · rw [bP e2, bP e, bP e, if_neg e2]
theorem sQ (h : t.k ≠ d) : obj (bh X O d name t) k = if k = d then { obj O d with ai := dN name t (obj O d).ai, sec := X.cS, nano := X.cZ } else if k = t.k then { obj O k with links := (obj O k).links + 1, up := if t.kind = 2 then some d else (obj O k).up } else obj O k := by
  unfold bh ng lK
  simp only
  by_cases e : k = d
  · subst e
    rw [if_pos rfl, bA]
    split
    · rw [bP (fun e => h e.symm), bP (fun e => h e.symm), bA]
    · rw [bP (fun e => h e.symm), bA]
  · rw [if_neg e, bP e]
    by_cases e2 : k = t.k
    · subst e2
      rw [if_pos rfl]
      split
      · rw [bA, bA, bP e]
      · rw [bA, bP e]
    · rw [if_neg e2]
      split
      · rw [bP e2, bP e2, bP e]
      · rw [bP e2, bP e]
end at_
section counts
variable {idx : Used Th} {O O' : bM} {d k : Nat} {n : ByteArray} {t : Th}
theorem Fu {q : ByteArray × Th → Bool} (hr : TabM.bW (keys idx)) (hd : TabM.get idx (d : Int) = some ⟨d, 2⟩) (hk : ∀ i u, TabM.get idx i = some u → i = (u.k : Int)) (ho : ∀ x, x ≠ d → (obj O' x).ai = (obj O x).ai) (h1 : (obj O' d).ai = dW n (obj O d).ai) (h2 : fI (obj O d).ai) (h3 : aT n (obj O d).ai = some t) :
    cG (fun p => (obj O' p.2.k).ai.countP q) idx + (if q (n, t) then 1 else 0) = cG (fun p => (obj O p.2.k).ai.countP q) idx := by
  have h4 := vk (g := fun p => (obj O p.2.k).ai.countP q) (g' := fun p => (obj O' p.2.k).ai.countP q) hr hd (fun p hp hne => by
    have := hk p.1 p.2 (lg hr hp)
    show (obj O' p.2.k).ai.countP q = _
    rw [ho p.2.k (by intro e; rw [e] at this; exact hne this)])
  have h5 := DZ (q := q) h2 h3
  have h6 : (obj O' d).ai.countP q = (dW n (obj O d).ai).countP q := by rw [h1]
  have h7 : cG (fun p => (obj O' p.2.k).ai.countP q) idx + (obj O d).ai.countP q = cG (fun p => (obj O p.2.k).ai.countP q) idx + (obj O' d).ai.countP q := h4
  omega
theorem Fv {q : ByteArray × Th → Bool} (hr : TabM.bW (keys idx)) (hd : TabM.get idx (d : Int) = some ⟨d, 2⟩) (hk : ∀ i u, TabM.get idx i = some u → i = (u.k : Int)) (ho : ∀ x, x ≠ d → (obj O' x).ai = (obj O x).ai) (h1 : (obj O' d).ai = dN n t (obj O d).ai) :
    cG (fun p => (obj O' p.2.k).ai.countP q) idx = cG (fun p => (obj O p.2.k).ai.countP q) idx + (if q (n, t) then 1 else 0) := by
  have h4 := vk (g := fun p => (obj O p.2.k).ai.countP q) (g' := fun p => (obj O' p.2.k).ai.countP q) hr hd (fun p hp hne => by
    have := hk p.1 p.2 (lg hr hp)
    show (obj O' p.2.k).ai.countP q = _
    rw [ho p.2.k (by intro e; rw [e] at this; exact hne this)])
  have h5 := DY (q := q) (n := n) (t := t) (es := (obj O d).ai)
  have h6 : (obj O' d).ai.countP q = (dN n t (obj O d).ai).countP q := by rw [h1]
  have h7 : cG (fun p => (obj O' p.2.k).ai.countP q) idx + (obj O d).ai.countP q = cG (fun p => (obj O p.2.k).ai.countP q) idx + (obj O' d).ai.countP q := h4
  omega
theorem jQ : tot idx O = cG (fun p => (obj O p.2.k).ai.countP (fun _ => true)) idx := dX (fun p _ => by simp)
theorem D1 {q : ByteArray × Th → Bool} (ho : ∀ x, (obj O' x).ai = (obj O x).ai) : cG (fun p => (obj O' p.2.k).ai.countP q) idx = cG (fun p => (obj O p.2.k).ai.countP q) idx := dX (fun p _ => by rw [ho])
theorem D2 : fH idx O k ≤ tot idx O := by
  rw [jQ]
  exact BB (fun p _ => List.countP_mono_left (fun _ _ _ => rfl))
theorem j9 (hd : TabM.get idx (d : Int) = some ⟨d, 2⟩) (h : aT n (obj O d).ai = some t) : 0 < fH idx O t.k := by
  refine Nat.lt_of_lt_of_le ?_ (lp (g := fun p => (obj O p.2.k).ai.countP (fun e => decide (e.2.k = t.k))) hd)
  exact List.countP_pos_iff.2 ⟨(n, t), jK h, by simp⟩
theorem wi (hr : TabM.bW (keys idx)) (h : 0 < fH idx O k) : ∃ i u, TabM.get idx i = some u ∧ ∃ e ∈ (obj O u.k).ai, e.2.k = k := by
  apply Classical.byContradiction
  intro hn
  have : fH idx O k = cG (fun _ => 0) idx := dX (fun p hp => by
    show List.countP _ _ = 0
    rw [List.countP_eq_zero]
    intro e he hk
    exact hn ⟨p.1, p.2, lg hr hp, e, he, by simpa using hk⟩)
  have h0 : ∀ us : Used Th, cG (fun _ => 0) us = 0 := fun us => by
    induction us with
    | nil => rfl
    | cons p r ih => show 0 + _ = 0; rw [ih]
  rw [this, h0] at h
  omega
end counts
end Go.Proofs.YtkiedlmhocglhaaGreat
end
section
namespace Go.Proofs.YtkiedlmhocglhaaGreat
open Go.RowKit Go.Maps HeapM TabM
section inv
variable {S : aH} {d k : Nat} {name : ByteArray} {t u : Th}
theorem Inv0.key (h : Inv0 S) {i : Int} (e : TabM.get S.idx i = some t) : i = (t.k : Int) := (h.idx i t e).1
theorem Inv0.live (h : Inv0 S) {i : Int} (e : TabM.get S.idx i = some t) : Live S.idx t := by
  have := h.key e
  subst this
  exact e
theorem eB {idx : Used Th} (h1 : Live idx t) (h2 : Live idx u) (e : t.k = u.k) : t = u := by
  unfold Live at h1 h2
  rw [e, h2] at h1
  exact (Option.some.inj h1).symm
theorem Inv0.kind (h : Inv0 S) (hl : Live S.idx t) : (obj S.O t.k).kind = t.kind := (h.ob t hl).2.1
theorem Cz {x : ByteArray} : ig x x := by unfold ig; simp
theorem gI.twice {es : dD Th} (h : gI es) : fI es := List.Pairwise.imp (fun {a b} hab e => hab (by rw [e]; exact Cz)) h
theorem Inv0.twice (h : Inv0 S) (hl : Live S.idx t) : fI (obj S.O t.k).ai := (h.sorted t hl).twice
theorem Inv0.ent (h : Inv0 S) (hd : Live S.idx u) (hl : aT name (obj S.O u.k).ai = some t) : cC name ∧ Live S.idx t := h.ai u hd _ (jK hl)
theorem Inv0.ne (h : Inv0 S) (hd : Live S.idx ⟨d, 2⟩) (hl : aT name (obj S.O d).ai = some t) : t.k ≠ d := fun e => by
  have h1 := (h.ent hd hl).2
  have h2 : t = ⟨d, 2⟩ := eB h1 hd e
  subst h2
  have h3 := (h.up _ hd d).2 ⟨rfl, hd, name, hl⟩
  obtain ⟨dp, hdp⟩ := h.deep
  have : dp d < dp d := hdp _ _ h3
  omega
theorem Inv0.free (h : Inv0 S) (hk : S.X.last < (k : Int)) (hl : Live S.idx t) : t.k ≠ k := fun e => by
  have := (h.idx _ t hl).2.2
  subst e
  omega
theorem iT.of {o o' : aM} (h : iT o) (e1 : o'.mode = o.mode) (e2 : o'.uid = o.uid) (e3 : o'.gid = o.gid) (e4 : cL o'.sec o'.nano) (e5 : o'.kind = o.kind) (e6 : o'.data = o.data ∨ o.kind = 1) (e7 : o'.ai = o.ai ∨ o.kind = 2) (e8 : o'.target = o.target) : iT o' :=
  ⟨e1 ▸ h.mode, e2 ▸ h.uid, e3 ▸ h.gid, e4, fun hk => by
    rw [e5] at hk
    rcases e6 with e | e
    · rw [e]; exact h.data hk
    · exact absurd e hk, fun hk => by
    rw [e5] at hk
    rcases e7 with e | e
    · rw [e]; exact h.ai hk
    · exact absurd e hk, by rw [e5, e8]; exact h.target⟩
theorem Inv0.own (h : Inv0 S) {f : aM → aM} {iQ dY : Int} {us' : Used Th} (f1 : ∀ o, (f o).id = o.id) (f2 : ∀ o, (f o).kind = o.kind) (f3 : ∀ o, (f o).ai = o.ai) (f4 : ∀ o, (f o).up = o.up) (f5 : ∀ o, (f o).links = o.links) (f6 : ∀ o, (f o).gone = o.gone)
    (hm : ∀ t, Live S.idx t → t.k = k → iT (f (obj S.O k))) (ho : ∀ t, Live S.idx t → (obj (aB S.O k f) t.k).opens = (hnd us' t.k : Int))
    (u1 : TabM.bW (keys us')) (u2 : ∀ x ∈ keys us', 1 ≤ x ∧ x ≤ dY) (u3 : (us'.length : Int) ≤ S.X.cH) (u4 : 0 ≤ dY ∧ dY ≤ S.X.cH) (u5 : ∀ h t, TabM.get us' h = some t → Live S.idx t ∧ t.kind ≠ 3)
    (hu : iQ = (bytes S.idx (aB S.O k f) : Int) ∧ iQ ≤ 140737488355328) : Inv0 { S with X := { S.X with used := iQ }, O := aB S.O k f, us := us', au := dY } := by
  have g1 : ∀ x, (obj (aB S.O k f) x).id = (obj S.O x).id := fun x => cI (g := aM.id) f1
  have g2 : ∀ x, (obj (aB S.O k f) x).kind = (obj S.O x).kind := fun x => cI (g := aM.kind) f2
  have g3 : ∀ x, (obj (aB S.O k f) x).ai = (obj S.O x).ai := fun x => cI (g := aM.ai) f3
  have g4 : ∀ x, (obj (aB S.O k f) x).up = (obj S.O x).up := fun x => cI (g := aM.up) f4
  have g5 : ∀ x, (obj (aB S.O k f) x).links = (obj S.O x).links := fun x => cI (g := aM.links) f5
  have g6 : ∀ x, (obj (aB S.O k f) x).gone = (obj S.O x).gone := fun x => cI (g := aM.gone) f6
  refine { h with ob := fun t hl => ?_, mt := fun t hl => ?_, ai := fun t hl => ?_, sorted := fun t hl => ?_, dead := fun x hx => ?_, nX := fun x hx => by rw [g2]; exact h.nX x hx, total := ?_, links := fun t hl => ?_, once := fun t hl => ?_, opens := ho, usr := u1, sP := u2, yC := u3, au := u4, us := u5, gone := fun t hl => ?_, up := fun t hl e => ?_, deep := ?_, used := hu }
  · rw [g1, g2]; exact h.ob t hl
  · show iT (obj (aB S.O k f) t.k)
    by_cases e : t.k = k
    · rw [e, bA]; exact hm t hl e
    · rw [bP e]; exact h.mt t hl
  · rw [g3]; exact h.ai t hl
  · rw [g3]; exact h.sorted t hl
  · rw [g3, g4]; exact h.dead x hx
  · have : tot S.idx (aB S.O k f) = tot S.idx S.O := dX (fun p _ => by rw [g3])
    show S.X.ai = (tot S.idx (aB S.O k f) : Int) ∧ _
    rw [this]; exact h.total
  · show (obj (aB S.O k f) t.k).links = (fH S.idx (aB S.O k f) t.k : Int)
    have : fH S.idx (aB S.O k f) t.k = fH S.idx S.O t.k := D1 g3
    rw [g5, this]; exact h.links t hl
  · rw [g5]; exact h.once t hl
  · rw [g6, g5, g3]; exact h.gone t hl
  · show (obj (aB S.O k f) t.k).up = some e ↔ t.kind = 2 ∧ Live S.idx ⟨e, 2⟩ ∧ ∃ n, aT n (obj (aB S.O k f) e).ai = some t
    rw [g4, g3]; exact h.up t hl e
  · obtain ⟨dp, hdp⟩ := h.deep
    exact ⟨dp, fun x e he => hdp x e (by rw [g4] at he; exact he)⟩
def freeM (S : aH) (t : Th) : aH := { S with X := { S.X with used := fF S.O S.X.used t }, idx := eW S.O S.idx t }
theorem Inv0.freeM (h : Inv0 S) (ht : Live S.idx t) (hf : ∀ u, Live S.idx u → u ≠ t → (obj S.O u.k).gone = true → 0 < (obj S.O u.k).opens) : Inv (Proofs.YtkiedlmhocglhaaGreat.freeM S t) := by
  by_cases hF : lP S.O t
  · have e1 : Proofs.YtkiedlmhocglhaaGreat.freeM S t = { S with X := { S.X with used := S.X.used - (obj S.O t.k).data.length }, idx := del (t.k : Int) S.idx } := by
      unfold Proofs.YtkiedlmhocglhaaGreat.freeM fF eW
      rw [if_pos hF, if_pos hF, (h.ob t ht).1]
      split
      · rfl
      · rename_i e
        have := (h.mt t ht).data (by rw [h.kind ht]; exact e)
        rw [this]
        simp
    rw [e1]
    obtain ⟨hg, hop⟩ := hF
    obtain ⟨hlk, hen⟩ := h.gone t ht hg
    have dG : ∀ x, Live (del (t.k : Int) S.idx) x ↔ Live S.idx x ∧ x.k ≠ t.k := fun x => by
      unfold Live
      rw [qG]
      constructor
      · intro e
        split at e
        · cases e
        · rename_i e2; exact ⟨e, fun e3 => e2 (by rw [e3])⟩
      · rintro ⟨e, e2⟩
        rw [if_neg (by omega)]; exact e
    have hl0 : fH S.idx S.O t.k = 0 := by have := h.links t ht; omega
    have hne : ∀ x, Live S.idx x → ∀ e ∈ (obj S.O x.k).ai, e.2.k ≠ t.k := fun x hx e he hk => by
      have : 0 < fH S.idx S.O t.k := Nat.lt_of_lt_of_le (List.countP_pos_iff.2 ⟨e, he, by simpa using hk⟩) (lp (g := fun p => (obj S.O p.2.k).ai.countP (fun e => decide (e.2.k = t.k))) hx)
      omega
    have hsum : ∀ q : ByteArray × Th → Bool, cG (fun p => (obj S.O p.2.k).ai.countP q) (del (t.k : Int) S.idx) = cG (fun p => (obj S.O p.2.k).ai.countP q) S.idx := fun q => by
      have h1 := vl (g := fun p : Int × Th => (obj S.O p.2.k).ai.countP q) h.rise ht
      have h2 : (obj S.O t.k).ai.countP q = 0 := by rw [hen]; rfl
      have h3 : cG (fun p : Int × Th => (obj S.O p.2.k).ai.countP q) (del (t.k : Int) S.idx) + (obj S.O t.k).ai.countP q = _ := h1
      omega
    refine { h with rise := zS h.rise, len := ?_, idx := fun i x e => ?_, ob := fun x hx => h.ob x ((dG x).1 hx).1, mt := fun x hx => h.mt x ((dG x).1 hx).1, ai := fun x hx e he => ?_, sorted := fun x hx => h.sorted x ((dG x).1 hx).1, dead := fun x hx => ?_, total := ?_, links := fun x hx => ?_, once := fun x hx => h.once x ((dG x).1 hx).1, opens := fun x hx => h.opens x ((dG x).1 hx).1, us := fun i x e => ?_, gone := fun x hx => h.gone x ((dG x).1 hx).1, up := fun x hx e => ?_, used := ?_, full := fun x hx hg => hf x ((dG x).1 hx).1 (fun e => ((dG x).1 hx).2 (by rw [e])) hg }
    · have h1 := mr h.rise (get_some ht)
      have h2 := h.len
      show (del (t.k : Int) S.idx).length ≤ 4096
      omega
    · have e : TabM.get (del (t.k : Int) S.idx) i = some x := e
      rw [qG] at e
      split at e
      · cases e
      · exact h.idx i x e
    · have hx' := ((dG x).1 hx).1
      have h1 := h.ai x hx' e he
      exact ⟨h1.1, (dG _).2 ⟨h1.2, hne x hx' e he⟩⟩
    · by_cases e : x = t.k
      · subst e
        refine ⟨hen, ?_⟩
        cases hu : (obj S.O t.k).up with
        | none => rfl
        | some y =>
          obtain ⟨_, h2, n, h3⟩ := (h.up t ht y).1 hu
          exact absurd rfl (hne _ h2 _ (jK h3))
      · exact h.dead x (fun y hy e2 => hx y ((dG y).2 ⟨hy, fun e3 => e (e2.symm.trans e3)⟩) e2)
    · show S.X.ai = (tot (del (t.k : Int) S.idx) S.O : Int) ∧ _
      rw [jQ, hsum, ← jQ]; exact h.total
    · show _ = (fH (del (t.k : Int) S.idx) S.O x.k : Int)
      have : fH (del (t.k : Int) S.idx) S.O x.k = fH S.idx S.O x.k := hsum _
      rw [this]; exact h.links x ((dG x).1 hx).1
    · obtain ⟨h1, h2⟩ := h.us i x e
      refine ⟨(dG x).2 ⟨h1, fun e2 => ?_⟩, h2⟩
      have h3 := h.opens t ht
      have h4 : 0 < hnd S.us t.k := Nat.lt_of_lt_of_le (by simp [e2]) (lp (g := fun p : Int × Th => if p.2.k = t.k then 1 else 0) e)
      omega
    · rw [h.up x ((dG x).1 hx).1 e]
      constructor
      · rintro ⟨h1, h2, n, h3⟩
        refine ⟨h1, (dG _).2 ⟨h2, fun e2 => ?_⟩, n, h3⟩
        have e2 : e = t.k := e2
        rw [e2, hen] at h3; cases h3
      · rintro ⟨h1, h2, h3⟩
        exact ⟨h1, ((dG _).1 h2).1, h3⟩
    · obtain ⟨h1, h2⟩ := h.used
      have h3 : cG (fun p : Int × Th => (obj S.O p.2.k).data.length) (del (t.k : Int) S.idx) + (obj S.O t.k).data.length = cG (fun p : Int × Th => (obj S.O p.2.k).data.length) S.idx := vl (g := fun p : Int × Th => (obj S.O p.2.k).data.length) h.rise ht
      show S.X.used - ((obj S.O t.k).data.length : Int) = (bytes (del (t.k : Int) S.idx) S.O : Int) ∧ S.X.used - ((obj S.O t.k).data.length : Int) ≤ 140737488355328
      unfold bytes at h1 ⊢
      omega
  · have e1 : Proofs.YtkiedlmhocglhaaGreat.freeM S t = S := by
      unfold Proofs.YtkiedlmhocglhaaGreat.freeM fF eW
      rw [if_neg hF, if_neg hF]
    rw [e1]
    refine { h with full := fun u hu hg => ?_ }
    by_cases e : u = t
    · subst e
      have h1 := h.opens u hu
      have : ¬ (obj S.O u.k).opens = 0 := fun e => hF ⟨hg, e⟩
      omega
    · exact hf u hu e hg
end inv
end Go.Proofs.YtkiedlmhocglhaaGreat
end
section
namespace Go.Proofs.YtkiedlmhocglhaaGreat
open Go.RowKit Go.Maps HeapM TabM
section facts
variable {S : aH} {X : FM} {O : bM} {d k : Nat} {name : ByteArray} {t u : Th}
theorem cE {α : Type} {g : aM → α} (h1 : ∀ o es, g { o with ai := es } = g o) (h2 : ∀ o l, g { o with links := l } = g o) (h3 : ∀ o a b, g { o with sec := a, nano := b } = g o) : g (obj (aG X O d name t) k) = g (obj O k) := by
  unfold aG ng
  rw [cI (fun o => h2 o _), cI (fun o => h3 o _ _), cI (fun o => h1 o _)]
theorem kf {α : Type} {g : aM → α} (h1 : ∀ o es, g { o with ai := es } = g o) (h2 : ∀ o l, g { o with links := l } = g o) (h3 : ∀ o a b, g { o with sec := a, nano := b } = g o) (h4 : ∀ o u, g { o with up := u } = g o) : g (obj (bh X O d name t) k) = g (obj O k) := by
  unfold bh ng
  rw [cI (fun o => h3 o _ _), uW h1 h2 h4]
theorem Inv0.hX (h : Inv0 S) : 0 ≤ S.X.ai ∧ S.X.ai ≤ 1048576 ∧ -1125899906842624 ≤ S.X.used ∧ S.X.used ≤ 1125899906842624 ∧ 0 ≤ S.X.last ∧ S.X.last ≤ 1125899906842624 := by
  have := h.total; have := h.used; have := h.last
  omega
theorem Inv0.eG (h : Inv0 S) (hl : Live S.idx t) : (obj S.O t.k).ai.length ≤ 8192 := by
  have h1 := h.total
  have h2 : (obj S.O t.k).ai.length ≤ tot S.idx S.O := lp (g := fun p : Int × Th => (obj S.O p.2.k).ai.length) hl
  omega
theorem Inv0.lb (h : Inv0 S) (hl : Live S.idx t) : 0 ≤ (obj S.O t.k).links ∧ (obj S.O t.k).links ≤ 8192 := by
  have h1 := h.total
  have h2 := h.links t hl
  have h3 : fH S.idx S.O t.k ≤ tot S.idx S.O := D2
  omega
theorem Jp {us : Used Th} : hnd us k ≤ us.length := by
  have : hnd us k ≤ cG (fun _ => 1) us := BB (fun p _ => by split <;> omega)
  have h2 : ∀ us : Used Th, cG (fun _ => 1) us = us.length := fun us => by
    induction us with
    | nil => rfl
    | cons p r ih => show 1 + _ = _; rw [ih, List.length_cons]; omega
  rw [h2] at this; exact this
theorem Inv0.yD (h : Inv0 S) (hl : Live S.idx t) : 0 ≤ (obj S.O t.k).opens ∧ (obj S.O t.k).opens ≤ 1024 := by
  have h1 := h.opens t hl
  have h2 : hnd S.us t.k ≤ S.us.length := Jp
  have := h.yC; have := h.cH
  omega
theorem Inv0.zT (h : Inv0 S) (hl : Live S.idx t) : (obj S.O t.k).data.length ≤ 1125899906842624 := by
  have h1 := h.used
  have h2 : (obj S.O t.k).data.length ≤ bytes S.idx S.O := lp (g := fun p : Int × Th => (obj S.O p.2.k).data.length) hl
  omega
theorem Inv0.CA (h : Inv0 S) (hl : Live S.idx t) : (obj S.O t.k).data.length ≤ 140737488355328 := by
  have h1 := h.used
  have h2 : (obj S.O t.k).data.length ≤ bytes S.idx S.O := lp (g := fun p : Int × Th => (obj S.O p.2.k).data.length) hl
  omega
theorem Inv0.D3 (h : Inv0 S) (hl : Live S.idx t) : (Lit.int .i64 (obj S.O t.k).id).wf = true := by
  have h1 := h.ob t hl
  have h2 := h.idx _ t hl
  have h3 := h.last
  exact WalkArith.wf_i64 (by omega)
theorem Inv0.kK (h : Inv0 S) (hd : Live S.idx ⟨d, 2⟩) (name : ByteArray) : aT name (obj S.O d).ai = none ∨ (∃ k, aT name (obj S.O d).ai = some ⟨k, 1⟩ ∧ Live S.idx ⟨k, 1⟩) ∨ (∃ k, aT name (obj S.O d).ai = some ⟨k, 2⟩ ∧ Live S.idx ⟨k, 2⟩) ∨ ∃ k, aT name (obj S.O d).ai = some ⟨k, 3⟩ ∧ Live S.idx ⟨k, 3⟩ := by
  cases e : aT name (obj S.O d).ai with
  | none => exact .inl rfl
  | some t =>
    obtain ⟨k, kd⟩ := t
    have h1 := (h.ent hd e).2
    rcases (h.ob _ h1).2.2 with e2 | e2 | e2 <;> subst e2
    · exact .inr (.inl ⟨k, rfl, h1⟩)
    · exact .inr (.inr (.inl ⟨k, rfl, h1⟩))
    · exact .inr (.inr (.inr ⟨k, rfl, h1⟩))
theorem Inv0.Ix (h : Inv0 S) (i : Int) : TabM.get S.idx i = none ∨ (∃ k, TabM.get S.idx i = some ⟨k, 1⟩ ∧ Live S.idx ⟨k, 1⟩) ∨ (∃ k, TabM.get S.idx i = some ⟨k, 2⟩ ∧ Live S.idx ⟨k, 2⟩) ∨ ∃ k, TabM.get S.idx i = some ⟨k, 3⟩ ∧ Live S.idx ⟨k, 3⟩ := by
  cases e : TabM.get S.idx i with
  | none => exact .inl rfl
  | some t =>
    obtain ⟨k, kd⟩ := t
    have h1 := h.live e
    rcases (h.ob _ h1).2.2 with e2 | e2 | e2 <;> subst e2
    · exact .inr (.inl ⟨k, rfl, h1⟩)
    · exact .inr (.inr (.inl ⟨k, rfl, h1⟩))
    · exact .inr (.inr (.inr ⟨k, rfl, h1⟩))
theorem Inv0.hand (h : Inv0 S) (i : Int) : TabM.get S.us i = none ∨ (∃ k, TabM.get S.us i = some ⟨k, 1⟩ ∧ Live S.idx ⟨k, 1⟩) ∨ ∃ k, TabM.get S.us i = some ⟨k, 2⟩ ∧ Live S.idx ⟨k, 2⟩ := by
  cases e : TabM.get S.us i with
  | none => exact .inl rfl
  | some t =>
    obtain ⟨k, kd⟩ := t
    obtain ⟨h1, h0⟩ := h.us i _ e
    rcases (h.ob _ h1).2.2 with e2 | e2 | e2
    · simp only at e2; subst e2; exact .inr (.inl ⟨k, rfl, h1⟩)
    · simp only at e2; subst e2; exact .inr (.inr ⟨k, rfl, h1⟩)
    · exact absurd e2 h0
theorem Inv0.KR (h : Inv0 S) (hd : Live S.idx ⟨d, 2⟩) (hl : aT name (obj S.O d).ai = some t) : 1 ≤ S.X.ai := by
  have h1 := h.total
  have h2 : 0 < fH S.idx S.O t.k := j9 hd hl
  have h3 : fH S.idx S.O t.k ≤ tot S.idx S.O := D2
  omega
theorem Inv0.uw (h : Inv0 S) (hd : Live S.idx ⟨d, 2⟩) (hl : aT name (obj S.O d).ai = some t) : 0 ≤ S.X.ai - 1 ∧ S.X.ai - 1 ≤ 1048576 ∧ -1125899906842624 ≤ S.X.used ∧ S.X.used ≤ 1125899906842624 ∧ 0 ≤ S.X.last ∧ S.X.last ≤ 1125899906842624 := by
  have := h.KR hd hl; have := h.hX
  omega
theorem mz {L : HL} {us : Used Th} {h : Int} (e : TabM.get us h = none) : TabM.get (aJ L us) h = none := by
  unfold aJ; rw [get_map, e]; rfl
theorem iC {L : HL} {us : Used Th} {h : Int} (e : TabM.get us h = some t) : TabM.get (aJ L us) h = some (cM L t) := by
  unfold aJ; rw [get_map, e]; rfl
theorem oo {L : HL} {us : Used Th} {h : Int} (hn : TabM.get us h = none) : jl (aN (aJ L us)) (.int .i64 h) (some (cM L t)) = aN (aJ L (ins h t us)) := by
  rw [xg (get_none.1 (mz hn))]
  exact congrArg aN (Bw (cM L) h t us).symm
theorem D4 {L : HL} {us : Used Th} : TabM.least (aJ L us) = TabM.least us := by unfold TabM.least; rw [vf]
theorem xk {TT : TypeId} {L : HL} {us : Used Th} {v : Value} {l : List HP} {b : Nat} {most au : Int} (h : v = .tuple #[.int .i64 (TabM.least (aJ L us)), .int .i64 0] ∧ l = [.abs (aZ TT b most (max au (((aJ L us).length : Int) + 1)) (ins (TabM.least (aJ L us)) (cM L t) (aJ L us)))]) : v = .tuple #[.int .i64 (TabM.least us), .int .i64 0] ∧ l = [.abs (aZ TT b most (max au ((us.length : Int) + 1)) (aJ L (ins (TabM.least us) t us)))] := by
  rw [D4, mw] at h
  have e : ins (TabM.least us) (cM L t) (aJ L us) = aJ L (ins (TabM.least us) t us) := (Bw (cM L) (TabM.least us) t us).symm
  rw [e] at h
  exact h
theorem Fw {α : Type} {es : dD α} {n : ByteArray} (h : es = []) : aT n es = none := by rw [h]; rfl
end facts
section blocks
variable {O : bM} {L : HL} {k j : Nat} {t u : Th}
theorem tZ (hk : (obj O k).kind ≠ 0) {F : Fp} {w : World} (h : (aq (aS O L)).h F w) : ∃ cs T, w.heap[L.b k]? = some (.cells cs T (0, 0)) := by
  obtain ⟨G, g⟩ := aq.at k h
  rw [je hk] at g
  exact ⟨_, _, g.1⟩
theorem BD (hk : (obj O k).kind ≠ 0) (hj : (obj O j).kind ≠ 0) {F : Fp} {w : World} (h : (aq (aS O L)).h F w) (e : L.b k = L.b j) : k = j := by
  apply Classical.byContradiction
  intro hne
  obtain ⟨φ, h1, h2, _⟩ := h
  have g1 := h1 k
  have g2 := h1 j
  rw [je hk] at g1
  rw [je hj] at g2
  exact h2 k j hne (L.b k) ((g1.2 _).2 rfl) ((g2.2 _).2 e)
theorem xq : Tryz.prog.underlying 98 = some (.pointer 101) := by kernel_rfl
theorem Fx : Tryz.prog.underlying 92 = some (.pointer 94) := by kernel_rfl
theorem Fy : Tryz.prog.underlying 95 = some (.pointer 97) := by kernel_rfl
end blocks
end Go.Proofs.YtkiedlmhocglhaaGreat
end
section
namespace Go.Proofs.YtkiedlmhocglhaaGreat
open Go.RowKit Go.Maps HeapM TabM
theorem Fz {s : ByteArray} : 0 ≤ Lib.indexByte s.data.toList ((0 : Int).toNat.toUInt8) ↔ ¬ tQ s := by
  have hge := Lib.indexByte_ge s.data.toList ((0 : Int).toNat.toUInt8)
  constructor
  · intro h hn
    obtain ⟨o, ho⟩ := Int.eq_ofNat_of_zero_le h
    have h1 := (Lib.indexByte_some ho).1
    obtain ⟨h2, h3⟩ := rX h1
    exact hn o h2 h3
  · intro hn
    apply Classical.byContradiction
    intro hlt
    refine hn (fun j hj h0 => Lib.indexByte_none (show Lib.indexByte s.data.toList ((0 : Int).toNat.toUInt8) = -1 by omega) j ?_)
    rw [mT hj]
    congr 1
    apply UInt8.toNat_inj.1
    exact h0
theorem A5 {β : Bs} (s : ByteArray) : Spec Tryz.prog β 174 #[.string s, .int .u8 0] [] (fun v l => (∃ x : Int, v = .int .i64 x ∧ (0 ≤ x ↔ ¬ tQ s)) ∧ l = []) :=
  fun _ w hS => (Tryz.strings_IndexByte s 0 w).mono fun _ _ ⟨h1, h2⟩ => ⟨_, [], h1, ⟨⟨_, rfl, Fz⟩, rfl⟩, h2 ▸ hS⟩
section ptr
variable {O : bM} {L : HL} {k j : Nat}
theorem FA : ∃ j, Tryz.prog.info? 101 = some j ∧ j.size ≠ 0 := by
  have h : (match Tryz.prog.info? 101 with | some j => j.size != 0 | none => false) = true := by kernel_rfl
  cases e : Tryz.prog.info? 101 with
  | none => rw [e] at h; cases h
  | some j => rw [e] at h; exact ⟨j, rfl, by simpa using h⟩
theorem D5 {w : World} {o : Oper} {ev : Operand → Value} {x y : Operand} (ho : o.op = .binOp .eql 98 x y 98) (hx : ev x = .pointer (some ⟨L.b k, 0, none⟩)) (hy : ev y = .pointer (some ⟨L.b j, 0, none⟩)) (hk : (obj O k).kind ≠ 0) (hj : (obj O j).kind ≠ 0) {F : Fp} (hF : (aq (aS O L)).h F w) :
    lu Tryz.prog ev o w (.bool (decide (k = j))) w := by
  obtain ⟨dst, op, type, pos, after, guard⟩ := o
  cases ho
  refine .inl ?_
  simp only [execOp, hx, hy]
  obtain ⟨ca, ta, ha⟩ := tZ hk hF
  obtain ⟨cb, tb, hb⟩ := tZ hj hF
  obtain ⟨i, hi, hsz⟩ := FA
  have h1 : (binOp .eql 98 (.pointer (some ⟨L.b k, 0, none⟩)) (.pointer (some ⟨L.b j, 0, none⟩))).run Tryz.prog w = .ok (.bool (decide (k = j))) w := by
    by_cases e : k = j
    · subst e
      rw [run_eql_ptr_same _ _ xq hi]
      simp
    · rw [run_eql_ptr_other _ xq hi hsz (fun h => e (BD hk hj hF (congrArg Addr.block h))) ha hb]
      simp [e]
  simp [go_sem, eqGuard, h1]
def zU (tp te : TypeId) : Prop := Tryz.prog.underlying tp = some (.pointer te) ∧ (∃ i, Tryz.prog.info? tp = some i ∧ i.comparable = true) ∧ ∃ j, Tryz.prog.info? te = some j ∧ j.size ≠ 0
theorem xu {tp te : TypeId} (h1 : Tryz.prog.underlying tp = some (.pointer te)) (h2 : (match Tryz.prog.info? tp with | some j => j.comparable | none => false) = true) (h3 : (match Tryz.prog.info? te with | some j => j.size != 0 | none => false) = true) : zU tp te := by
  refine ⟨h1, ?_, ?_⟩
  · cases e : Tryz.prog.info? tp with
    | none => rw [e] at h2; cases h2
    | some j => rw [e] at h2; exact ⟨j, rfl, h2⟩
  · cases e : Tryz.prog.info? te with
    | none => rw [e] at h3; cases h3
    | some j => rw [e] at h3; exact ⟨j, rfl, by simpa using h3⟩
theorem Jq : zU 92 94 := xu Fx (by kernel_rfl) (by kernel_rfl)
theorem KS : zU 98 101 := xu xq (by kernel_rfl) (by kernel_rfl)
theorem Jr : zU 95 97 := xu Fy (by kernel_rfl) (by kernel_rfl)
theorem vm {tp te : TypeId} (hT : zU tp te) {w : World} {o : Oper} {ev : Operand → Value} {x y : Operand} (ho : o.op = .binOp .eql 87 x y 87) (hx : ev x = .iface tp (.pointer (some ⟨L.b k, 0, none⟩))) (hy : ev y = .iface tp (.pointer (some ⟨L.b j, 0, none⟩))) (hk : (obj O k).kind ≠ 0) (hj : (obj O j).kind ≠ 0) {F : Fp} (hF : (aq (aS O L)).h F w) :
    lu Tryz.prog ev o w (.bool (decide (k = j))) w := by
  obtain ⟨dst, op, type, pos, after, guard⟩ := o
  cases ho
  refine .inl ?_
  simp only [execOp, hx, hy]
  obtain ⟨ca, ta, ha⟩ := tZ hk hF
  obtain ⟨cb, tb, hb⟩ := tZ hj hF
  obtain ⟨g1, ⟨i, hi, hc⟩, j', hj', hsz⟩ := hT
  have h1 : (binOp .eql 87 (.iface tp (.pointer (some ⟨L.b k, 0, none⟩))) (.iface tp (.pointer (some ⟨L.b j, 0, none⟩)))).run Tryz.prog w = .ok (.bool (decide (k = j))) w := by
    by_cases e : k = j
    · subst e
      rw [run_eql_iface_ptr_same _ _ Tryz.underlying87 g1 hi hc hj']
      simp
    · rw [run_eql_iface_ptr_other _ Tryz.underlying87 g1 hi hc hj' hsz (fun h => e (BD hk hj hF (congrArg Addr.block h))) ha hb]
      simp [e]
  simp [go_sem, eqGuard, h1]
end ptr
end Go.Proofs.YtkiedlmhocglhaaGreat
end
section
namespace Go.Proofs.YtkiedlmhocglhaaGreat
open Go.RowKit Go.Maps HeapM TabM
attribute [local irreducible] ah aI af aj
abbrev rN (f : Nat) (L : HL) (d : Nat) (name : ByteArray) := ([(0, vP f), (1, vP (L.b d)), (2, .string name)] : Fr)
abbrev Js (f : Nat) (L : HL) (d : Nat) (name : ByteArray) := ([(18, .pointer (some ⟨f, 0, none⟩)), (19, .pointer (some ⟨(L.b d), 0, none⟩)), (20, .string name)] : Fr)
abbrev Jt (f : Nat) (L : HL) (d : Nat) (name : ByteArray) := ([(8, .pointer (some ⟨f, 0, none⟩)), (9, .pointer (some ⟨(L.b d), 0, none⟩)), (10, .string name)] : Fr)
abbrev rO (f : Nat) (m : Nat) (t) (X : FM) (L : HL) (idx) (O : bM) (R : bJ) := ([pF f m t X, pI m L idx, pO O L, pE O L, .abs R] : List HP)
abbrev Ju (S : aH) (tk : Nat) (L : HL) := ([(24, .int .i64 ((obj S.O tk).opens + 1)), (26, .pointer (some ⟨(L.b tk), 7, none⟩))] : Fr)
set_option maxRecDepth 100000 in
set_option maxHeartbeats 4000000 in
theorem kQ {β : Bs} (S : aH) (L : HL) (f m t : Nat) (hI : Inv S) (d : Nat) (hd : Live S.idx ⟨d, 2⟩) (name : ByteArray) (hsz : name.size ≤ 1048576) (th : Th) (hlk : aT name (obj S.O d).ai = some th) :
    Spec Tryz.prog β 147 #[.pointer (some ⟨f, 0, none⟩), .pointer (some ⟨(L.b d), 0, none⟩), .string name] [pF f m t S.X, pO S.O L, pE S.O L, pI m L S.idx] (fun v l => v = .tuple #[] ∧ l = [pF f m t ((ar S d name th).X), pO ((ar S d name th).O) L, pE ((ar S d name th).O) L, pI m L ((ar S d name th).idx)]) := by
 have hX := hI.hX
 have hel : (obj S.O d).ai.length ≤ 8192 := hI.eG hd
 have hkd : (obj S.O d).kind = 2 := hI.kind hd
 refine Spec.enter Tryz.func147 rfl Tryz.ntmps147 (Nat.le_of_ble_eq_true rfl) (fun R => ?_)
 refine af.seq ?_
 obtain ⟨tk, kd⟩ := th; have hlv := (hI.ent hd hlk).2; have Nz := hI.ne hd hlk; rcases (hI.ob _ hlv).2.2 with e0 | e0 | e0 <;> simp only at e0 <;> subst e0
 ·
  have hkt : (obj S.O tk).kind = 1 := hI.kind hlv
  have hlb := hI.lb hlv; have hid := hI.ob _ hlv; have hop := hI.yD hlv; have hdl := hI.zT hlv; have mA := hI.D3 hlv
  refine af.region ?_
  refine gK 3 (Jt f L d name) [] ?_
  refine gL [0, 1, 2] (gu S.X f m t hX S.O L d hkd name hsz ⟨tk, 1⟩ hkt (by simp) hlk (hI.twice hd) (by omega) (by simp only at hlb ⊢; omega)) ?_
  rintro _ _ ⟨rfl, rfl⟩
  refine gK 1 [(6, .iface 92 (.pointer (some ⟨(L.b tk), 0, none⟩)))] [] ?_
  refine NS ?_
  have gS : (obj (aG S.X S.O d name ⟨tk, 1⟩) d).kind = 2 := (bS).trans (hkd)
  have jO : (obj (aG S.X S.O d name ⟨tk, 1⟩) tk).kind = 1 := (bS).trans (hkt)
  have sR : (obj (aG S.X S.O d name ⟨tk, 1⟩) tk).id = (obj S.O tk).id := cE (g := aM.id) (fun _ _ => rfl) (fun _ _ => rfl) (fun _ _ _ => rfl)
  have sS : (obj (aG S.X S.O d name ⟨tk, 1⟩) tk).opens = (obj S.O tk).opens := cE (g := aM.opens) (fun _ _ => rfl) (fun _ _ => rfl) (fun _ _ _ => rfl)
  have sU : (obj (aG S.X S.O d name ⟨tk, 1⟩) tk).data = (obj S.O tk).data := cE (g := aM.data) (fun _ _ => rfl) (fun _ _ => rfl) (fun _ _ _ => rfl)
  generalize bK : (aG S.X S.O d name ⟨tk, 1⟩) = bF at gS jO sR sS sU ⊢
  refine gK 1 [(12, .iface 92 (.pointer (some ⟨(L.b tk), 0, none⟩)))] [] ?_
  refine gL [] (cg (L.b tk)) ?_
  rintro _ _ ⟨rfl, rfl⟩
  refine gK 1 [(7, .pointer (some ⟨(L.b tk), 0, none⟩))] [] ?_
  refine NS ?_
  refine gK 5 [(18, .bool (decide (((obj bF tk).links : Int) = (0 : Int))))] [(3, v_ 1 (j6 L jO))] ?_
  refine NN ?_
  refine af.bH (p := ((obj bF tk).links : Int) = (0 : Int)) (fun _ => by kernel_rfl) (fun mX => ?_) (fun mX => ?_)
  ·
   refine SR ?_
   refine gK 3 [(21, .pointer (some ⟨(L.b tk), 8, none⟩))] [] ?_
   refine oK 1 [(2, 1)] tk 8 (fun o => { o with gone := true }) jO (fun cU cq => ?_)
   have xw := ku cq gS
   have sF := ku cq jO
   have D6 : (obj cU tk).id = (obj S.O tk).id := fu aM.id cq sR
   have Jv : (obj cU tk).opens = (obj S.O tk).opens := fu aM.opens cq sS
   have MI : (obj cU tk).data = (obj S.O tk).data := fu aM.data cq sU
   refine NN (af.region ?_)
   refine gK 2 [(22, .pointer (some ⟨f, 0, none⟩)), (23, .iface 92 (.pointer (some ⟨(L.b tk), 0, none⟩)))] [] ?_
   refine gL [1, 0, 3] (nj { S.X with ai := S.X.ai - 1 } f m t (hI.uw hd hlk) cU L S.idx hI.rise ⟨tk, 1⟩ sF (by simp) (by rw [Jv]; exact hop.1) (fun _ => by rw [D6, hid.1]; exact hlv) (by rw [D6]; exact mA) (by rw [MI]; exact hdl)) ?_
   rintro _ _ ⟨rfl, rfl⟩
   refine NL ?_
   exact RF (l := [pF f m t { S.X with ai := S.X.ai - 1, used := fF cU S.X.used ⟨tk, 1⟩ }, pO cU L, pE cU L, pI m L (eW cU S.idx ⟨tk, 1⟩)]) (.tuple #[]) [1, 0, 3, 2, 4] (⟨rfl, by subst cq; subst bK; rw [show ar S d name ⟨tk, 1⟩ = _ from nk mX] <;> rfl⟩)
  ·
   refine af.skip ?_
   exact RF (l := [pF f m t { S.X with ai := S.X.ai - 1 }, pO bF L, pE bF L, pI m L S.idx]) (.tuple #[]) [0, 1, 2, 3, 4] (⟨rfl, by subst bK; rw [show ar S d name ⟨tk, 1⟩ = _ from pV mX] <;> rfl⟩)
 ·
  have hkt : (obj S.O tk).kind = 2 := hI.kind hlv
  have hlb := hI.lb hlv; have hid := hI.ob _ hlv; have hop := hI.yD hlv; have hdl := hI.zT hlv; have mA := hI.D3 hlv
  refine af.region ?_
  refine gK 3 (Jt f L d name) [] ?_
  refine gL [0, 1, 2] (gu S.X f m t hX S.O L d hkd name hsz ⟨tk, 2⟩ hkt (by simp) hlk (hI.twice hd) (by omega) (by simp only at hlb ⊢; omega)) ?_
  rintro _ _ ⟨rfl, rfl⟩
  refine gK 1 [(6, .iface 98 (.pointer (some ⟨(L.b tk), 0, none⟩)))] [] ?_
  refine NS ?_
  have Jw : (obj (aG S.X S.O d name ⟨tk, 2⟩) d).kind = 2 := (bS).trans (hkd)
  have wZ : (obj (aG S.X S.O d name ⟨tk, 2⟩) tk).kind = 2 := (bS).trans (hkt)
  have sR : (obj (aG S.X S.O d name ⟨tk, 2⟩) tk).id = (obj S.O tk).id := cE (g := aM.id) (fun _ _ => rfl) (fun _ _ => rfl) (fun _ _ _ => rfl)
  have sS : (obj (aG S.X S.O d name ⟨tk, 2⟩) tk).opens = (obj S.O tk).opens := cE (g := aM.opens) (fun _ _ => rfl) (fun _ _ => rfl) (fun _ _ _ => rfl)
  have sU : (obj (aG S.X S.O d name ⟨tk, 2⟩) tk).data = (obj S.O tk).data := cE (g := aM.data) (fun _ _ => rfl) (fun _ _ => rfl) (fun _ _ _ => rfl)
  generalize bK : (aG S.X S.O d name ⟨tk, 2⟩) = bF at Jw wZ sR sS sU ⊢
  refine gK 1 [(12, .iface 98 (.pointer (some ⟨(L.b tk), 0, none⟩)))] [] ?_
  refine gL [] (cg (L.b tk)) ?_
  rintro _ _ ⟨rfl, rfl⟩
  refine gK 1 [(7, .pointer (some ⟨(L.b tk), 0, none⟩))] [] ?_
  refine NS ?_
  refine gK 5 [(18, .bool (decide (((obj bF tk).links : Int) = (0 : Int))))] [(3, v_ 1 (j6 L wZ))] ?_
  refine NN ?_
  refine af.bH (p := ((obj bF tk).links : Int) = (0 : Int)) (fun _ => by kernel_rfl) (fun mX => ?_) (fun mX => ?_)
  ·
   refine SR ?_
   refine gK 3 [(21, .pointer (some ⟨(L.b tk), 8, none⟩))] [] ?_
   refine oK 1 [(2, 1)] tk 8 (fun o => { o with gone := true }) wZ (fun cU cq => ?_)
   have Cl := ku cq Jw
   have Gy := ku cq wZ
   have Jx : (obj cU tk).id = (obj S.O tk).id := fu aM.id cq sR
   have L7 : (obj cU tk).opens = (obj S.O tk).opens := fu aM.opens cq sS
   have L8 : (obj cU tk).data = (obj S.O tk).data := fu aM.data cq sU
   refine NN (af.region ?_)
   refine gK 2 [(22, .pointer (some ⟨f, 0, none⟩)), (23, .iface 98 (.pointer (some ⟨(L.b tk), 0, none⟩)))] [] ?_
   refine gL [1, 0, 3] (nj { S.X with ai := S.X.ai - 1 } f m t (hI.uw hd hlk) cU L S.idx hI.rise ⟨tk, 2⟩ Gy (by simp) (by rw [L7]; exact hop.1) (fun _ => by rw [Jx, hid.1]; exact hlv) (by rw [Jx]; exact mA) (by rw [L8]; exact hdl)) ?_
   rintro _ _ ⟨rfl, rfl⟩
   refine NL ?_
   exact RF (l := [pF f m t { S.X with ai := S.X.ai - 1, used := fF cU S.X.used ⟨tk, 2⟩ }, pO cU L, pE cU L, pI m L (eW cU S.idx ⟨tk, 2⟩)]) (.tuple #[]) [1, 0, 3, 2, 4] (⟨rfl, by subst cq; subst bK; rw [show ar S d name ⟨tk, 2⟩ = _ from nk mX] <;> rfl⟩)
  ·
   refine af.skip ?_
   exact RF (l := [pF f m t { S.X with ai := S.X.ai - 1 }, pO bF L, pE bF L, pI m L S.idx]) (.tuple #[]) [0, 1, 2, 3, 4] (⟨rfl, by subst bK; rw [show ar S d name ⟨tk, 2⟩ = _ from pV mX] <;> rfl⟩)
 ·
  have hkt : (obj S.O tk).kind = 3 := hI.kind hlv
  have hlb := hI.lb hlv; have hid := hI.ob _ hlv; have hop := hI.yD hlv; have hdl := hI.zT hlv; have mA := hI.D3 hlv
  refine af.region ?_
  refine gK 3 (Jt f L d name) [] ?_
  refine gL [0, 1, 2] (gu S.X f m t hX S.O L d hkd name hsz ⟨tk, 3⟩ hkt (by simp) hlk (hI.twice hd) (by omega) (by simp only at hlb ⊢; omega)) ?_
  rintro _ _ ⟨rfl, rfl⟩
  refine gK 1 [(6, .iface 95 (.pointer (some ⟨(L.b tk), 0, none⟩)))] [] ?_
  refine NS ?_
  have GK : (obj (aG S.X S.O d name ⟨tk, 3⟩) d).kind = 2 := (bS).trans (hkd)
  have vW : (obj (aG S.X S.O d name ⟨tk, 3⟩) tk).kind = 3 := (bS).trans (hkt)
  have sR : (obj (aG S.X S.O d name ⟨tk, 3⟩) tk).id = (obj S.O tk).id := cE (g := aM.id) (fun _ _ => rfl) (fun _ _ => rfl) (fun _ _ _ => rfl)
  have sS : (obj (aG S.X S.O d name ⟨tk, 3⟩) tk).opens = (obj S.O tk).opens := cE (g := aM.opens) (fun _ _ => rfl) (fun _ _ => rfl) (fun _ _ _ => rfl)
  have sU : (obj (aG S.X S.O d name ⟨tk, 3⟩) tk).data = (obj S.O tk).data := cE (g := aM.data) (fun _ _ => rfl) (fun _ _ => rfl) (fun _ _ _ => rfl)
  generalize bK : (aG S.X S.O d name ⟨tk, 3⟩) = bF at GK vW sR sS sU ⊢
  refine gK 1 [(12, .iface 95 (.pointer (some ⟨(L.b tk), 0, none⟩)))] [] ?_
  refine gL [] (cg (L.b tk)) ?_
  rintro _ _ ⟨rfl, rfl⟩
  refine gK 1 [(7, .pointer (some ⟨(L.b tk), 0, none⟩))] [] ?_
  refine NS ?_
  refine gK 5 [(18, .bool (decide (((obj bF tk).links : Int) = (0 : Int))))] [(3, v_ 1 (j6 L vW))] ?_
  refine NN ?_
  refine af.bH (p := ((obj bF tk).links : Int) = (0 : Int)) (fun _ => by kernel_rfl) (fun mX => ?_) (fun mX => ?_)
  ·
   refine SR ?_
   refine gK 3 [(21, .pointer (some ⟨(L.b tk), 8, none⟩))] [] ?_
   refine oK 1 [(2, 1)] tk 8 (fun o => { o with gone := true }) vW (fun cU cq => ?_)
   have KF := ku cq GK
   have vX := ku cq vW
   have Jy : (obj cU tk).id = (obj S.O tk).id := fu aM.id cq sR
   have L9 : (obj cU tk).opens = (obj S.O tk).opens := fu aM.opens cq sS
   have Ma : (obj cU tk).data = (obj S.O tk).data := fu aM.data cq sU
   refine NN (af.region ?_)
   refine gK 2 [(22, .pointer (some ⟨f, 0, none⟩)), (23, .iface 95 (.pointer (some ⟨(L.b tk), 0, none⟩)))] [] ?_
   refine gL [1, 0, 3] (nj { S.X with ai := S.X.ai - 1 } f m t (hI.uw hd hlk) cU L S.idx hI.rise ⟨tk, 3⟩ vX (by simp) (by rw [L9]; exact hop.1) (fun _ => by rw [Jy, hid.1]; exact hlv) (by rw [Jy]; exact mA) (by rw [Ma]; exact hdl)) ?_
   rintro _ _ ⟨rfl, rfl⟩
   refine NL ?_
   exact RF (l := [pF f m t { S.X with ai := S.X.ai - 1, used := fF cU S.X.used ⟨tk, 3⟩ }, pO cU L, pE cU L, pI m L (eW cU S.idx ⟨tk, 3⟩)]) (.tuple #[]) [1, 0, 3, 2, 4] (⟨rfl, by subst cq; subst bK; rw [show ar S d name ⟨tk, 3⟩ = _ from nk mX] <;> rfl⟩)
  ·
   refine af.skip ?_
   exact RF (l := [pF f m t { S.X with ai := S.X.ai - 1 }, pO bF L, pE bF L, pI m L S.idx]) (.tuple #[]) [0, 1, 2, 3, 4] (⟨rfl, by subst bK; rw [show ar S d name ⟨tk, 3⟩ = _ from pV mX] <;> rfl⟩)
set_option maxRecDepth 100000 in
set_option maxHeartbeats 4000000 in
theorem sV {β : Bs} (S : aH) (L : HL) (f m t : Nat) (hI : Inv S) (d : Nat) (hd : Live S.idx ⟨d, 2⟩) (name : ByteArray) (hsz : name.size ≤ 1048576) :
    Spec Tryz.prog β 113 #[.pointer (some ⟨f, 0, none⟩), .pointer (some ⟨(L.b d), 0, none⟩), .string name] [pF f m t S.X, pI m L S.idx, pE S.O L, pO S.O L] (fun v l => v = .int .i64 (bY S.X S.O S.idx d name) ∧ l = [pF f m t S.X, pI m L S.idx, pE S.O L, pO S.O L]) := by
 have hX := hI.hX
 have hel : (obj S.O d).ai.length ≤ 8192 := hI.eG hd
 have hkd : (obj S.O d).kind = 2 := hI.kind hd
 refine Spec.enter Tryz.func113 rfl Tryz.ntmps113 (Nat.le_of_ble_eq_true rfl) (fun R => ?_)
 refine af.seq ?_
 rcases hI.kK hd name with hlk | ⟨tk, hlk, hlv⟩ | ⟨tk, hlk, hlv⟩ | ⟨tk, hlk, hlv⟩
 ·
  refine af.region ?_
  refine gK 1 [] [] ?_
  refine NN (af.seq (SR ?_))
  refine gK 5 [(10, .map (some (L.m d))), (11, .string name)] [(3, v_ 3 (bE L hkd))] ?_
  refine gF 2 hkd hlk ?_
  refine gK 1 [(13, .bool false)] [] ?_
  refine NN ?_
  refine CF ?_
  refine af.skip (NX (af.seq (SR ?_)))
  refine gK 1 [(14, .pointer (some ⟨f, 0, none⟩))] [] ?_
  refine gL [0, 1] (zR S.X f m t L S.idx) ?_
  rintro _ _ ⟨rfl, rfl⟩
  refine gK 1 [(16, .bool (!(decide (((S.idx.length : Int) < S.X.cN ∧ S.X.last < 1099511627776 ∧ S.X.ai < 8192)))))] [] ?_
  refine NN ?_
  refine af.cT (p := ((S.idx.length : Int) < S.X.cN ∧ S.X.last < 1099511627776 ∧ S.X.ai < 8192)) (fun _ => by kernel_rfl) (fun wg => ?_) (fun wg => ?_)
  ·
   refine SR ?_
   refine gK 1 [(6, .int .i64 177)] [] ?_
   refine NN (af.ret (aj.av ?_))
   exact RT (.int .i64 177) [0, 1, 2, 3, 4] (⟨congrArg (Value.int .i64) (Eq.symm (show bY S.X S.O S.idx d name = _ from (if_pos hlk).trans (if_neg wg))), rfl⟩)
  ·
   refine af.skip (NX (SR ?_))
   refine gK 1 [(6, .int .i64 0)] [] ?_
   refine NN (af.ret ?_)
   exact RT (.int .i64 0) [0, 1, 2, 3, 4] (⟨congrArg (Value.int .i64) (Eq.symm (show bY S.X S.O S.idx d name = _ from (if_pos hlk).trans (if_pos wg))), rfl⟩)
 ·
  have hkt : (obj S.O tk).kind = 1 := hI.kind hlv
  refine af.region ?_
  refine gK 1 [] [] ?_
  refine NN (af.seq (SR ?_))
  refine gK 5 [(10, .map (some (L.m d))), (11, .string name)] [(3, v_ 3 (bE L hkd))] ?_
  refine gF 2 hkd hlk ?_
  refine gK 1 [(13, .bool true)] [] ?_
  refine NN ?_
  refine CT ?_
  refine SR ?_
  refine gK 1 [(6, .int .i64 171)] [] ?_
  refine NN (af.ret (aj.av ?_))
  exact RT (.int .i64 171) [0, 1, 2, 3, 4] (⟨congrArg (Value.int .i64) (Eq.symm (show bY S.X S.O S.idx d name = _ from if_neg (by rw [hlk]; simp))), rfl⟩)
 ·
  have hkt : (obj S.O tk).kind = 2 := hI.kind hlv
  refine af.region ?_
  refine gK 1 [] [] ?_
  refine NN (af.seq (SR ?_))
  refine gK 5 [(10, .map (some (L.m d))), (11, .string name)] [(3, v_ 3 (bE L hkd))] ?_
  refine gF 2 hkd hlk ?_
  refine gK 1 [(13, .bool true)] [] ?_
  refine NN ?_
  refine CT ?_
  refine SR ?_
  refine gK 1 [(6, .int .i64 171)] [] ?_
  refine NN (af.ret (aj.av ?_))
  exact RT (.int .i64 171) [0, 1, 2, 3, 4] (⟨congrArg (Value.int .i64) (Eq.symm (show bY S.X S.O S.idx d name = _ from if_neg (by rw [hlk]; simp))), rfl⟩)
 ·
  have hkt : (obj S.O tk).kind = 3 := hI.kind hlv
  refine af.region ?_
  refine gK 1 [] [] ?_
  refine NN (af.seq (SR ?_))
  refine gK 5 [(10, .map (some (L.m d))), (11, .string name)] [(3, v_ 3 (bE L hkd))] ?_
  refine gF 2 hkd hlk ?_
  refine gK 1 [(13, .bool true)] [] ?_
  refine NN ?_
  refine CT ?_
  refine SR ?_
  refine gK 1 [(6, .int .i64 171)] [] ?_
  refine NN (af.ret (aj.av ?_))
  exact RT (.int .i64 171) [0, 1, 2, 3, 4] (⟨congrArg (Value.int .i64) (Eq.symm (show bY S.X S.O S.idx d name = _ from if_neg (by rw [hlk]; simp))), rfl⟩)
set_option maxRecDepth 100000 in
set_option maxHeartbeats 4000000 in
theorem HT {β : Bs} (s : ByteArray) (hsz : s.size ≤ 1048576) :
    Spec Tryz.prog β 146 #[.string s] [] (fun v l => v = .int .i64 (ko s) ∧ l = []) := by
 refine Spec.enter Tryz.func146 rfl Tryz.ntmps146 (Nat.le_of_ble_eq_true rfl) (fun R => ?_)
 refine SR ?_
 refine gK 1 [] [] ?_
 refine NN (af.seq (af.block (SR ?_)))
 refine gK 3 [(3, .bool (decide ((s : ByteArray) = ⟨#[]⟩)))] [(1, p_ ⟨[], none, none, none, some (.bool (decide ((s : ByteArray) = ⟨#[]⟩)))⟩ [(Value.bool ((s : ByteArray).toList == (⟨#[]⟩ : ByteArray).toList)) = (.bool (decide ((s : ByteArray) = ⟨#[]⟩)))] ⟨qt _ _, trivial⟩)] ?_
 refine NN ?_
 refine af.bH (p := (s : ByteArray) = ⟨#[]⟩) (fun _ => by kernel_rfl) (fun h3 => ?_) (fun h3 => ?_)
 ·
  refine SR ?_
  refine gK 1 [(2, .int .i64 90)] [] ?_
  refine NN (af.ret (aj.aO (aj.av ?_)))
  exact RT (.int .i64 90) [0] (⟨congrArg (Value.int .i64) (Eq.symm (show ko s = _ from if_pos h3)), rfl⟩)
 ·
  refine SR ?_
  refine gK 4 [(6, .bool (decide (((((s : ByteArray).size : Nat) : Int) : Int) > (4096 : Int))))] [] ?_
  refine NN ?_
  refine af.bH (p := ((((s : ByteArray).size : Nat) : Int) : Int) > (4096 : Int)) (fun _ => by kernel_rfl) (fun h6 => ?_) (fun h6 => ?_)
  ·
   refine SR ?_
   refine gK 1 [(2, .int .i64 93)] [] ?_
   refine NN (af.ret (aj.aO (aj.av ?_)))
   exact RT (.int .i64 93) [0] (⟨congrArg (Value.int .i64) (Eq.symm (show ko s = _ from (if_neg h3).trans (if_pos (by omega)))), rfl⟩)
  ·
   refine SR ?_
   refine gK 1 [(11, .string s)] [] ?_
   refine gL [] (A5 s) ?_
   rintro _ _ ⟨⟨x, rfl, hx⟩, rfl⟩
   refine gK 2 [(10, .bool (decide ((x : Int) ≥ (0 : Int))))] [] ?_
   refine NN ?_
   refine af.bH (p := (x : Int) ≥ (0 : Int)) (fun _ => by kernel_rfl) (fun h10 => ?_) (fun h10 => ?_)
   ·
    refine SR ?_
    refine gK 1 [(2, .int .i64 91)] [] ?_
    refine NN (af.ret (aj.aO (aj.av ?_)))
    exact RT (.int .i64 91) [0] (⟨congrArg (Value.int .i64) (Eq.symm (show ko s = _ from (if_neg h3).trans ((if_neg (by omega)).trans (if_neg (hx.1 (by omega)))))), rfl⟩)
   ·
    refine af.skip (aj.aW (NX (SR ?_)))
    refine gK 1 [(2, .int .i64 0)] [] ?_
    refine NN (af.ret ?_)
    exact RT (.int .i64 0) [0] (⟨congrArg (Value.int .i64) (Eq.symm (show ko s = _ from (if_neg h3).trans ((if_neg (by omega)).trans (if_pos (Classical.byContradiction (fun hn => absurd (hx.2 hn) (by omega))))))), rfl⟩)
set_option maxRecDepth 100000 in
set_option maxHeartbeats 4000000 in
theorem oQ {β : Bs} (S : aH) (L : HL) (f m t : Nat) (th : Th) (hkt : (obj S.O th.k).kind = th.kind) (h3 : th.kind = 1 ∨ th.kind = 2 ∨ th.kind = 3) (hop : 0 ≤ (obj S.O th.k).opens ∧ (obj S.O th.k).opens ≤ 1048576) :
    Spec Tryz.prog β 109 #[.pointer (some ⟨f, 0, none⟩), (cM L th)] [pF f m t S.X, pT t S.X.cH S.au L S.us, pO S.O L] (fun v l => v = .tuple #[.int .i64 (openM S th).1, .int .i64 (openM S th).2.1] ∧ l = [pF f m t S.X, pT t S.X.cH ((openM S th).2.2.au) L ((openM S th).2.2.us), pO ((openM S th).2.2.O) L]) := by
 refine Spec.enter Tryz.func109 rfl Tryz.ntmps109 (Nat.le_of_ble_eq_true rfl) (fun R => ?_)
 refine af.seq ?_
 obtain ⟨tk, kd⟩ := th; simp only at hkt h3; rcases Int.lt_or_le (S.us.length : Int) S.X.cH with pW | pW <;> rcases h3 with e0 | e0 | e0 <;> subst e0
 ·
  replace hkt : (obj S.O tk).kind = 1 := hkt
  replace hop : 0 ≤ (obj S.O tk).opens ∧ (obj S.O tk).opens ≤ 1048576 := hop
  refine af.region ?_
  refine gK 2 [] [] ?_
  refine NS ?_
  refine gK 5 [(12, .pointer (some ⟨t, 0, none⟩)), (13, .iface 92 (.pointer (some ⟨(L.b tk), 0, none⟩)))] [(3, a_ 0 f)] ?_
  refine gL [1] ((uZ t S.X.cH S.au (aJ L S.us) (cM L ⟨tk, 1⟩) (by rw [mw]; exact pW)).mono (fun v l h => xk h)) ?_
  rintro _ _ ⟨rfl, rfl⟩
  refine gK 5 [(6, .int .i64 ((TabM.least S.us))), (7, .int .i64 0)] [] ?_
  refine NN (af.seq (SR ?_))
  refine gK 2 [(18, .bool true)] [] ?_
  refine NN ?_
  refine CT ?_
  refine af.region ?_
  refine gK 1 [(19, .iface 92 (.pointer (some ⟨(L.b tk), 0, none⟩)))] [] ?_
  refine gL [] (cg (L.b tk)) ?_
  rintro _ _ ⟨rfl, rfl⟩
  refine gK 6 (Ju S tk L) [(2, v_ 2 (gX L hkt)), (3, p_ ⟨[], none, none, none, some (.int .i64 ((obj S.O tk).opens + 1))⟩ [(Value.int .i64 (IntKind.wrap .i64 ((obj S.O tk).opens + 1))) = (.int .i64 ((obj S.O tk).opens + 1))] ⟨bQ (by omega) (by omega) (by omega), trivial⟩)] ?_
  refine oK 2 [] tk 7 (fun o => { o with opens := o.opens + 1 }) hkt (fun bF bK => ?_)
  have Nn := ku bK hkt
  refine NS ?_
  refine gK 4 [(4, .int .i64 ((TabM.least S.us))), (5, .int .i64 0)] [] ?_
  refine NN (af.ret ?_)
  exact RT (l := [pF f m t S.X, pT t S.X.cH (max S.au ((S.us.length : Int) + 1)) L (ins (TabM.least S.us) ⟨tk, 1⟩ S.us), pO bF L]) (.tuple #[.int .i64 ((TabM.least S.us)), .int .i64 0]) [1, 0, 2, 3] (by subst bK; rw [show openM S ⟨tk, 1⟩ = _ from gy pW] <;> exact ⟨rfl, rfl⟩)
 ·
  replace hkt : (obj S.O tk).kind = 2 := hkt
  replace hop : 0 ≤ (obj S.O tk).opens ∧ (obj S.O tk).opens ≤ 1048576 := hop
  refine af.region ?_
  refine gK 2 [] [] ?_
  refine NS ?_
  refine gK 5 [(12, .pointer (some ⟨t, 0, none⟩)), (13, .iface 98 (.pointer (some ⟨(L.b tk), 0, none⟩)))] [(3, a_ 0 f)] ?_
  refine gL [1] ((uZ t S.X.cH S.au (aJ L S.us) (cM L ⟨tk, 2⟩) (by rw [mw]; exact pW)).mono (fun v l h => xk h)) ?_
  rintro _ _ ⟨rfl, rfl⟩
  refine gK 5 [(6, .int .i64 ((TabM.least S.us))), (7, .int .i64 0)] [] ?_
  refine NN (af.seq (SR ?_))
  refine gK 2 [(18, .bool true)] [] ?_
  refine NN ?_
  refine CT ?_
  refine af.region ?_
  refine gK 1 [(19, .iface 98 (.pointer (some ⟨(L.b tk), 0, none⟩)))] [] ?_
  refine gL [] (cg (L.b tk)) ?_
  rintro _ _ ⟨rfl, rfl⟩
  refine gK 6 (Ju S tk L) [(2, v_ 2 (gX L hkt)), (3, p_ ⟨[], none, none, none, some (.int .i64 ((obj S.O tk).opens + 1))⟩ [(Value.int .i64 (IntKind.wrap .i64 ((obj S.O tk).opens + 1))) = (.int .i64 ((obj S.O tk).opens + 1))] ⟨bQ (by omega) (by omega) (by omega), trivial⟩)] ?_
  refine oK 2 [] tk 7 (fun o => { o with opens := o.opens + 1 }) hkt (fun bF bK => ?_)
  have GA := ku bK hkt
  refine NS ?_
  refine gK 4 [(4, .int .i64 ((TabM.least S.us))), (5, .int .i64 0)] [] ?_
  refine NN (af.ret ?_)
  exact RT (l := [pF f m t S.X, pT t S.X.cH (max S.au ((S.us.length : Int) + 1)) L (ins (TabM.least S.us) ⟨tk, 2⟩ S.us), pO bF L]) (.tuple #[.int .i64 ((TabM.least S.us)), .int .i64 0]) [1, 0, 2, 3] (by subst bK; rw [show openM S ⟨tk, 2⟩ = _ from gy pW] <;> exact ⟨rfl, rfl⟩)
 ·
  replace hkt : (obj S.O tk).kind = 3 := hkt
  replace hop : 0 ≤ (obj S.O tk).opens ∧ (obj S.O tk).opens ≤ 1048576 := hop
  refine af.region ?_
  refine gK 2 [] [] ?_
  refine NS ?_
  refine gK 5 [(12, .pointer (some ⟨t, 0, none⟩)), (13, .iface 95 (.pointer (some ⟨(L.b tk), 0, none⟩)))] [(3, a_ 0 f)] ?_
  refine gL [1] ((uZ t S.X.cH S.au (aJ L S.us) (cM L ⟨tk, 3⟩) (by rw [mw]; exact pW)).mono (fun v l h => xk h)) ?_
  rintro _ _ ⟨rfl, rfl⟩
  refine gK 5 [(6, .int .i64 ((TabM.least S.us))), (7, .int .i64 0)] [] ?_
  refine NN (af.seq (SR ?_))
  refine gK 2 [(18, .bool true)] [] ?_
  refine NN ?_
  refine CT ?_
  refine af.region ?_
  refine gK 1 [(19, .iface 95 (.pointer (some ⟨(L.b tk), 0, none⟩)))] [] ?_
  refine gL [] (cg (L.b tk)) ?_
  rintro _ _ ⟨rfl, rfl⟩
  refine gK 6 (Ju S tk L) [(2, v_ 2 (gX L hkt)), (3, p_ ⟨[], none, none, none, some (.int .i64 ((obj S.O tk).opens + 1))⟩ [(Value.int .i64 (IntKind.wrap .i64 ((obj S.O tk).opens + 1))) = (.int .i64 ((obj S.O tk).opens + 1))] ⟨bQ (by omega) (by omega) (by omega), trivial⟩)] ?_
  refine oK 2 [] tk 7 (fun o => { o with opens := o.opens + 1 }) hkt (fun bF bK => ?_)
  have yX := ku bK hkt
  refine NS ?_
  refine gK 4 [(4, .int .i64 ((TabM.least S.us))), (5, .int .i64 0)] [] ?_
  refine NN (af.ret ?_)
  exact RT (l := [pF f m t S.X, pT t S.X.cH (max S.au ((S.us.length : Int) + 1)) L (ins (TabM.least S.us) ⟨tk, 3⟩ S.us), pO bF L]) (.tuple #[.int .i64 ((TabM.least S.us)), .int .i64 0]) [1, 0, 2, 3] (by subst bK; rw [show openM S ⟨tk, 3⟩ = _ from gy pW] <;> exact ⟨rfl, rfl⟩)
 ·
  replace hkt : (obj S.O tk).kind = 1 := hkt
  replace hop : 0 ≤ (obj S.O tk).opens ∧ (obj S.O tk).opens ≤ 1048576 := hop
  refine af.region ?_
  refine gK 2 [] [] ?_
  refine NS ?_
  refine gK 5 [(12, .pointer (some ⟨t, 0, none⟩)), (13, .iface 92 (.pointer (some ⟨(L.b tk), 0, none⟩)))] [(3, a_ 0 f)] ?_
  refine gL [1] (sK t S.X.cH S.au (aJ L S.us) (cM L ⟨tk, 1⟩) (by rw [mw]; exact pW)) ?_
  rintro _ _ ⟨rfl, rfl⟩
  refine gK 5 [(6, .int .i64 0), (7, .int .i64 130)] [] ?_
  refine NN (af.seq (SR ?_))
  refine gK 2 [(18, .bool false)] [] ?_
  refine NN ?_
  refine CF ?_
  refine af.skip (NX (SR ?_))
  refine gK 4 [(4, .int .i64 0), (5, .int .i64 130)] [] ?_
  refine NN (af.ret ?_)
  exact RT (.tuple #[.int .i64 0, .int .i64 130]) [1, 0, 2, 3] (by skip; rw [show openM S ⟨tk, 1⟩ = _ from jP (by omega)] <;> exact ⟨rfl, rfl⟩)
 ·
  replace hkt : (obj S.O tk).kind = 2 := hkt
  replace hop : 0 ≤ (obj S.O tk).opens ∧ (obj S.O tk).opens ≤ 1048576 := hop
  refine af.region ?_
  refine gK 2 [] [] ?_
  refine NS ?_
  refine gK 5 [(12, .pointer (some ⟨t, 0, none⟩)), (13, .iface 98 (.pointer (some ⟨(L.b tk), 0, none⟩)))] [(3, a_ 0 f)] ?_
  refine gL [1] (sK t S.X.cH S.au (aJ L S.us) (cM L ⟨tk, 2⟩) (by rw [mw]; exact pW)) ?_
  rintro _ _ ⟨rfl, rfl⟩
  refine gK 5 [(6, .int .i64 0), (7, .int .i64 130)] [] ?_
  refine NN (af.seq (SR ?_))
  refine gK 2 [(18, .bool false)] [] ?_
  refine NN ?_
  refine CF ?_
  refine af.skip (NX (SR ?_))
  refine gK 4 [(4, .int .i64 0), (5, .int .i64 130)] [] ?_
  refine NN (af.ret ?_)
  exact RT (.tuple #[.int .i64 0, .int .i64 130]) [1, 0, 2, 3] (by skip; rw [show openM S ⟨tk, 2⟩ = _ from jP (by omega)] <;> exact ⟨rfl, rfl⟩)
 ·
  replace hkt : (obj S.O tk).kind = 3 := hkt
  replace hop : 0 ≤ (obj S.O tk).opens ∧ (obj S.O tk).opens ≤ 1048576 := hop
  refine af.region ?_
  refine gK 2 [] [] ?_
  refine NS ?_
  refine gK 5 [(12, .pointer (some ⟨t, 0, none⟩)), (13, .iface 95 (.pointer (some ⟨(L.b tk), 0, none⟩)))] [(3, a_ 0 f)] ?_
  refine gL [1] (sK t S.X.cH S.au (aJ L S.us) (cM L ⟨tk, 3⟩) (by rw [mw]; exact pW)) ?_
  rintro _ _ ⟨rfl, rfl⟩
  refine gK 5 [(6, .int .i64 0), (7, .int .i64 130)] [] ?_
  refine NN (af.seq (SR ?_))
  refine gK 2 [(18, .bool false)] [] ?_
  refine NN ?_
  refine CF ?_
  refine af.skip (NX (SR ?_))
  refine gK 4 [(4, .int .i64 0), (5, .int .i64 130)] [] ?_
  refine NN (af.ret ?_)
  exact RT (.tuple #[.int .i64 0, .int .i64 130]) [1, 0, 2, 3] (by skip; rw [show openM S ⟨tk, 3⟩ = _ from jP (by omega)] <;> exact ⟨rfl, rfl⟩)
set_option maxRecDepth 100000 in
set_option maxHeartbeats 4000000 in
theorem cX {β : Bs} (S : aH) (L : HL) (f m t : Nat) (hI : Inv S) (h : Int) (hw : (Lit.int .i64 h).wf = true) (name : ByteArray) (hsz : name.size ≤ 1048576) (need : Int) :
    Spec Tryz.prog β 111 #[.pointer (some ⟨f, 0, none⟩), .int .i64 (h), .string name, .int .i64 (need)] [pF f m t S.X, pT t S.X.cH S.au L S.us, pO S.O L] (fun v l => v = LY L (cx S.O S.us h name need) ∧ l = [pF f m t S.X, pT t S.X.cH S.au L S.us, pO S.O L]) := by
 refine Spec.enter Tryz.func111 rfl Tryz.ntmps111 (Nat.le_of_ble_eq_true rfl) (fun R => ?_)
 refine af.seq ?_
 rcases hI.hand h with cD | ⟨tk, cD, hlv⟩ | ⟨tk, cD, hlv⟩
 ·
  refine af.region ?_
  refine gK 2 [] [] ?_
  refine NS ?_
  refine gK 5 [(18, .pointer (some ⟨t, 0, none⟩)), (19, .int .i64 (h))] [(3, a_ 0 f)] ?_
  refine gL [1] (ni t S.X.cH S.au (aJ L S.us) h hw (mz cD)) ?_
  rintro _ _ ⟨rfl, rfl⟩
  refine gK 5 [(10, .nilIface), (11, .int .i64 131)] [] ?_
  refine NN (af.seq (SR ?_))
  refine gK 2 [(24, .bool true)] [] ?_
  refine NN ?_
  refine CT ?_
  refine SR ?_
  refine gK 3 [(8, .pointer none), (9, .int .i64 131)] [] ?_
  refine NN (af.ret (aj.av ?_))
  exact RT (.tuple #[.pointer none, .int .i64 131]) [1, 0, 2, 3] (⟨by rw [show cx S.O S.us h name need = .error 131 by unfold cx; rw [cD]]; rfl, rfl⟩)
 ·
  have hkt : (obj S.O tk).kind = 1 := hI.kind hlv
  refine af.region ?_
  refine gK 2 [] [] ?_
  refine NS ?_
  refine gK 5 [(18, .pointer (some ⟨t, 0, none⟩)), (19, .int .i64 (h))] [(3, a_ 0 f)] ?_
  refine gL [1] (ji t S.X.cH S.au (aJ L S.us) h hw (cM L ⟨tk, 1⟩) (iC cD)) ?_
  rintro _ _ ⟨rfl, rfl⟩
  refine gK 5 [(10, .iface 92 (.pointer (some ⟨(L.b tk), 0, none⟩))), (11, .int .i64 0)] [] ?_
  refine NN (af.seq (SR ?_))
  refine gK 2 [(24, .bool false)] [] ?_
  refine NN ?_
  refine CF ?_
  refine af.skip (NX (SR ?_))
  refine gK 7 [(12, .pointer none), (13, .bool false)] [] ?_
  refine NN (af.seq (af.block (SR ?_)))
  refine gK 3 [(31, .bool true)] [] ?_
  refine NN ?_
  refine CT ?_
  refine SR ?_
  refine gK 2 [(8, .pointer none), (9, .int .i64 173)] [] ?_
  refine NN (af.ret (aj.aO (aj.av ?_)))
  exact RT (.tuple #[.pointer none, .int .i64 173]) [1, 0, 2, 3] (⟨by rw [show cx S.O S.us h name need = .error 173 by unfold cx; rw [cD]; exact if_neg (by simp)]; rfl, rfl⟩)
 ·
  have hkt : (obj S.O tk).kind = 2 := hI.kind hlv
  refine af.region ?_
  refine gK 2 [] [] ?_
  refine NS ?_
  refine gK 5 [(18, .pointer (some ⟨t, 0, none⟩)), (19, .int .i64 (h))] [(3, a_ 0 f)] ?_
  refine gL [1] (ji t S.X.cH S.au (aJ L S.us) h hw (cM L ⟨tk, 2⟩) (iC cD)) ?_
  rintro _ _ ⟨rfl, rfl⟩
  refine gK 5 [(10, .iface 98 (.pointer (some ⟨(L.b tk), 0, none⟩))), (11, .int .i64 0)] [] ?_
  refine NN (af.seq (SR ?_))
  refine gK 2 [(24, .bool false)] [] ?_
  refine NN ?_
  refine CF ?_
  refine af.skip (NX (SR ?_))
  refine gK 7 [(12, .pointer (some ⟨(L.b tk), 0, none⟩)), (13, .bool true)] [] ?_
  refine NN (af.seq (af.block (SR ?_)))
  refine gK 3 [(31, .bool false)] [] ?_
  refine NN ?_
  refine CF ?_
  refine SR ?_
  refine gK 6 [(34, .bool (obj S.O tk).gone)] [(4, v_ 2 (lN L hkt))] ?_
  refine NN ?_
  refine af.cond (b := (obj S.O tk).gone) (fun _ => by kernel_rfl) (fun ux => ?_) (fun ux => ?_)
  ·
   refine SR ?_
   refine gK 2 [(8, .pointer none), (9, .int .i64 170)] [] ?_
   refine NN (af.ret (aj.aO (aj.av ?_)))
   exact RT (.tuple #[.pointer none, .int .i64 170]) [1, 0, 2, 3] (⟨by rw [show cx S.O S.us h name need = .error 170 by unfold cx; rw [cD]; exact (if_pos rfl).trans (if_pos ux)]; rfl, rfl⟩)
  ·
   refine SR ?_
   refine gK 1 [(41, .string name)] [] ?_
   refine gL [] (rZ name hsz) ?_
   rintro _ _ ⟨rfl, rfl⟩
   refine gK 2 [(40, .bool (!(decide (cC name))))] [] ?_
   refine NN ?_
   refine af.cT (p := cC name) (fun _ => by kernel_rfl) (fun GL => ?_) (fun GL => ?_)
   ·
    refine SR ?_
    refine gK 2 [(8, .pointer none), (9, .int .i64 95)] [] ?_
    refine NN (af.ret (aj.aO (aj.av ?_)))
    exact RT (.tuple #[.pointer none, .int .i64 95]) [1, 0, 2, 3] (⟨by rw [show cx S.O S.us h name need = .error 95 by unfold cx; rw [cD]; exact (if_pos rfl).trans ((if_neg (by rw [ux]; decide)).trans (if_neg GL))]; rfl, rfl⟩)
   ·
    refine SR ?_
    refine gK 10 [(44, .bool (!(decide ((bits BinOp.and .i64 ((obj S.O tk).mode) need : Int) = (need : Int)))))] [(4, v_ 2 (Ja L hkt))] ?_
    refine NN ?_
    refine af.cT (p := (bits BinOp.and .i64 ((obj S.O tk).mode) need : Int) = (need : Int)) (fun _ => by kernel_rfl) (fun Dt => ?_) (fun Dt => ?_)
    ·
     refine SR ?_
     refine gK 2 [(8, .pointer none), (9, .int .i64 175)] [] ?_
     refine NN (af.ret (aj.aO (aj.av ?_)))
     exact RT (.tuple #[.pointer none, .int .i64 175]) [1, 0, 2, 3] (⟨by rw [show cx S.O S.us h name need = .error 175 by unfold cx; rw [cD]; exact (if_pos rfl).trans ((if_neg (by rw [ux]; decide)).trans ((if_pos GL).trans (if_neg Dt)))]; rfl, rfl⟩)
    ·
     refine af.skip (aj.aW (NX (SR ?_)))
     refine gK 3 [(8, .pointer (some ⟨(L.b tk), 0, none⟩)), (9, .int .i64 0)] [] ?_
     refine NN (af.ret ?_)
     exact RT (.tuple #[.pointer (some ⟨(L.b tk), 0, none⟩), .int .i64 0]) [1, 0, 2, 3] (⟨by rw [show cx S.O S.us h name need = .ok tk by unfold cx; rw [cD]; exact (if_pos rfl).trans ((if_neg (by rw [ux]; decide)).trans ((if_pos GL).trans (if_pos Dt)))]; rfl, rfl⟩)
set_option maxRecDepth 100000 in
set_option maxHeartbeats 4000000 in
theorem HV {β : Bs} (X : FM) (f m t : Nat) (hX : 0 ≤ X.ai ∧ X.ai ≤ 1048576 ∧ -1125899906842624 ≤ X.used ∧ X.used ≤ 1125899906842624 ∧ 0 ≤ X.last ∧ X.last ≤ 1125899906842624) (O : bM) (L : HL) (d : Nat) (hkd : (obj O d).kind = 2) (name : ByteArray) (hsz : name.size ≤ 1048576) (hno : aT name (obj O d).ai = none) (hel : (obj O d).ai.length ≤ 1048576) (idx : Used Th) (hil : idx.length ≤ 1048576) (th : Th) (hkt : (obj O th.k).kind = th.kind) (h3 : th.kind = 1 ∨ th.kind = 2 ∨ th.kind = 3) (hb : 0 ≤ (obj O th.k).links ∧ (obj O th.k).links ≤ 1048576) (hni : TabM.get idx (obj O th.k).id = none) (hw : (Lit.int .i64 (obj O th.k).id).wf = true) :
    Spec Tryz.prog β 115 #[.pointer (some ⟨f, 0, none⟩), .pointer (some ⟨(L.b d), 0, none⟩), .string name, (cM L th)] [pF f m t X, pI m L idx, pO O L, pE O L] (fun v l => v = .tuple #[] ∧ l = [pF f m t { X with ai := X.ai + 1 }, pI m L (ins (obj O th.k).id th idx), pO (bh X O d name th) L, pE (bh X O d name th) L]) := by
 refine Spec.enter Tryz.func115 rfl Tryz.ntmps115 (Nat.le_of_ble_eq_true rfl) (fun R => ?_)
 refine af.seq ?_
 obtain ⟨tk, kd⟩ := th; simp only at hkt h3; rcases h3 with rfl | rfl | rfl
 ·
  replace hkt : (obj O tk).kind = 1 := hkt
  replace hni : TabM.get idx (obj O tk).id = none := hni
  replace hw : (Lit.int .i64 (obj O tk).id).wf = true := hw
  refine af.bT (S := (rO f m t X L idx O R)) [0, 1, 2, 3, 4, 9, 5, 6, 7, 8, 10] 6 [0, 1, 2, 3, 4] (by kernel_rfl) (by kernel_rfl) rfl (by kernel_rfl) ?_
  refine aD.reads (r := 0) (l := [5, 6, 7, 8, 10]) (fr' := (rN f L d name ++ [(3, .iface 92 (vP (L.b tk))), (11, .map (some m)), (12, .iface 92 (vP (L.b tk))), (17, .iface 92 (vP (L.b tk)))])) (ak := [f = f]) [0, 1, 2, 3, 4, 9] [o_, o_, o_, ⟨[.at 0], none, none, none, none⟩, o_, o_] [0, 1, 2, 3, 11, 12, 17] (fun _ => by kernel_rfl) ⟨rfl, trivial⟩ rfl rfl ?_
  refine mL [0, 1, 2, 3, 4] [] (cg (L.b tk)) ?_ (by rintro _ _ ⟨rfl, rfl⟩; rfl)
  rintro _ _ ⟨rfl, rfl⟩
  refine aD.cut (ι := Unit) (fr' := fun (_ : Unit) => (rN f L d name ++ [(3, .iface 92 (vP (L.b tk))), (11, .map (some m)), (14, vP (L.b tk)), (17, .iface 92 (vP (L.b tk)))])) (hp' := fun (_ : Unit) => (rO f m t X L idx O R)) [0, 1, 2, 3, 4] rfl rfl ?_ rfl (fun _ => by kernel_rfl) ?_
  ·
   refine gK 1 [(14, .pointer (some ⟨(L.b tk), 0, none⟩))] [] ?_
   refine NL ?_
   exact MD () [0, 1, 2, 3, 11, 14, 17] [0, 1, 2, 3, 4]
  rintro _
  refine aD.cut (ι := Unit) (fr' := fun (_ : Unit) => (rN f L d name ++ [(3, .iface 92 (vP (L.b tk))), (11, .map (some m)), (15, vP (L.b tk)), (17, .iface 92 (vP (L.b tk)))])) (hp' := fun (_ : Unit) => (rO f m t X L idx O R)) [0, 1, 2, 3, 4] rfl rfl ?_ rfl (fun _ => by kernel_rfl) ?_
  ·
   refine gK 1 [(15, .pointer (some ⟨(L.b tk), 0, none⟩))] [] ?_
   refine NL ?_
   exact MD () [0, 1, 2, 3, 11, 15, 17] [0, 1, 2, 3, 4]
  rintro _
  refine aD.cut (ι := Unit) (fr' := fun (_ : Unit) => (rN f L d name ++ [(3, .iface 92 (vP (L.b tk))), (11, .map (some m)), (16, vI ((obj O tk).id)), (17, .iface 92 (vP (L.b tk)))])) (hp' := fun (_ : Unit) => (rO f m t X L idx O R)) [0, 1, 2, 3, 4] rfl rfl ?_ rfl (fun _ => by kernel_rfl) ?_
  ·
   refine gK 1 [(16, .int .i64 ((obj O tk).id))] [(0, v_ 2 (wX L hkt))] ?_
   refine NL ?_
   exact MD () [0, 1, 2, 3, 11, 16, 17] [0, 1, 2, 3, 4]
  rintro _
  refine aD.last rfl rfl ?_
  refine ah.jI 1 (d := none) (t := 83) (K := 3) (E := 87) (b := m) (n := idx.length) (f := (aN (aJ L idx))) (x := (.tmp 11)) (ix := (.tmp 16)) (y := (.tmp 17)) (key := .int .i64 ((obj O tk).id)) (u := .iface 92 (.pointer (some ⟨(L.b tk), 0, none⟩))) (kl := (.int .i64 (obj O tk).id)) (n' := (idx.length + 1)) (f' := (aN (aJ L (ins (obj O tk).id ⟨tk, 1⟩ idx)))) (fun _ => by kernel_rfl) (by kernel_rfl) (fun _ => by kernel_rfl) (fun _ => by kernel_rfl) (fun _ => by kernel_rfl) dL Tryz.underlying83 (by unfold maxLen; omega) (iB hw) (by rw [ez, hni]; rfl) (oo (L := L) (t := ⟨tk, 1⟩) hni) ?_
  refine NL (aj.np (NX (af.region ?_)))
  refine gK 4 (Js f L d name ++ [(21, .iface 92 (.pointer (some ⟨(L.b tk), 0, none⟩)))]) [] ?_
  refine gL [0, 2, 3] (fo X f m t hX O L d hkd name hsz hno hel ⟨tk, 1⟩ hkt (by simp) hb) ?_
  rintro _ _ ⟨rfl, rfl⟩
  refine NL ?_
  refine aj.mem (aK := [.blk f [.int .i64 (X.cN), .int .i64 (X.cB), .int .i64 (X.cH), .int .i64 (X.cS), .int .i64 (X.cZ), .map (some m), .pointer (some ⟨t, 0, none⟩), .int .i64 (X.last), .int .i64 (X.ai + 1), .int .i64 (X.used)] 89, .abs (aq (aS (bh X O d name ⟨tk, 1⟩) L)), .abs (aq (bw (bh X O d name ⟨tk, 1⟩) L)), .abs (aC Tryz.prog 3 m (aN (aJ L (ins (obj O tk).id ⟨tk, 1⟩ idx))) ((ins (obj O tk).id ⟨tk, 1⟩ idx).length)), .abs R]) (fun w hS => by rw [show (ins (obj O tk).id ⟨tk, 1⟩ idx).length = idx.length + 1 from fJ _ _ _]; exact hS) ?_
  exact RF (.tuple #[]) [0, 3, 1, 2, 4] (⟨rfl, rfl⟩)
 ·
  replace hkt : (obj O tk).kind = 2 := hkt
  replace hni : TabM.get idx (obj O tk).id = none := hni
  replace hw : (Lit.int .i64 (obj O tk).id).wf = true := hw
  refine af.bT (S := (rO f m t X L idx O R)) [0, 1, 2, 3, 4, 9, 5, 6, 7, 8, 10] 6 [0, 1, 2, 3, 4] (by kernel_rfl) (by kernel_rfl) rfl (by kernel_rfl) ?_
  refine aD.reads (r := 0) (l := [5, 6, 7, 8, 10]) (fr' := (rN f L d name ++ [(3, .iface 98 (vP (L.b tk))), (11, .map (some m)), (12, .iface 98 (vP (L.b tk))), (17, .iface 98 (vP (L.b tk)))])) (ak := [f = f]) [0, 1, 2, 3, 4, 9] [o_, o_, o_, ⟨[.at 0], none, none, none, none⟩, o_, o_] [0, 1, 2, 3, 11, 12, 17] (fun _ => by kernel_rfl) ⟨rfl, trivial⟩ rfl rfl ?_
  refine mL [0, 1, 2, 3, 4] [] (cg (L.b tk)) ?_ (by rintro _ _ ⟨rfl, rfl⟩; rfl)
  rintro _ _ ⟨rfl, rfl⟩
  refine aD.cut (ι := Unit) (fr' := fun (_ : Unit) => (rN f L d name ++ [(3, .iface 98 (vP (L.b tk))), (11, .map (some m)), (14, vP (L.b tk)), (17, .iface 98 (vP (L.b tk)))])) (hp' := fun (_ : Unit) => (rO f m t X L idx O R)) [0, 1, 2, 3, 4] rfl rfl ?_ rfl (fun _ => by kernel_rfl) ?_
  ·
   refine gK 1 [(14, .pointer (some ⟨(L.b tk), 0, none⟩))] [] ?_
   refine NL ?_
   exact MD () [0, 1, 2, 3, 11, 14, 17] [0, 1, 2, 3, 4]
  rintro _
  refine aD.cut (ι := Unit) (fr' := fun (_ : Unit) => (rN f L d name ++ [(3, .iface 98 (vP (L.b tk))), (11, .map (some m)), (15, vP (L.b tk)), (17, .iface 98 (vP (L.b tk)))])) (hp' := fun (_ : Unit) => (rO f m t X L idx O R)) [0, 1, 2, 3, 4] rfl rfl ?_ rfl (fun _ => by kernel_rfl) ?_
  ·
   refine gK 1 [(15, .pointer (some ⟨(L.b tk), 0, none⟩))] [] ?_
   refine NL ?_
   exact MD () [0, 1, 2, 3, 11, 15, 17] [0, 1, 2, 3, 4]
  rintro _
  refine aD.cut (ι := Unit) (fr' := fun (_ : Unit) => (rN f L d name ++ [(3, .iface 98 (vP (L.b tk))), (11, .map (some m)), (16, vI ((obj O tk).id)), (17, .iface 98 (vP (L.b tk)))])) (hp' := fun (_ : Unit) => (rO f m t X L idx O R)) [0, 1, 2, 3, 4] rfl rfl ?_ rfl (fun _ => by kernel_rfl) ?_
  ·
   refine gK 1 [(16, .int .i64 ((obj O tk).id))] [(0, v_ 2 (wX L hkt))] ?_
   refine NL ?_
   exact MD () [0, 1, 2, 3, 11, 16, 17] [0, 1, 2, 3, 4]
  rintro _
  refine aD.last rfl rfl ?_
  refine ah.jI 1 (d := none) (t := 83) (K := 3) (E := 87) (b := m) (n := idx.length) (f := (aN (aJ L idx))) (x := (.tmp 11)) (ix := (.tmp 16)) (y := (.tmp 17)) (key := .int .i64 ((obj O tk).id)) (u := .iface 98 (.pointer (some ⟨(L.b tk), 0, none⟩))) (kl := (.int .i64 (obj O tk).id)) (n' := (idx.length + 1)) (f' := (aN (aJ L (ins (obj O tk).id ⟨tk, 2⟩ idx)))) (fun _ => by kernel_rfl) (by kernel_rfl) (fun _ => by kernel_rfl) (fun _ => by kernel_rfl) (fun _ => by kernel_rfl) dL Tryz.underlying83 (by unfold maxLen; omega) (iB hw) (by rw [ez, hni]; rfl) (oo (L := L) (t := ⟨tk, 2⟩) hni) ?_
  refine NL (aj.np (NX (af.region ?_)))
  refine gK 4 (Js f L d name ++ [(21, .iface 98 (.pointer (some ⟨(L.b tk), 0, none⟩)))]) [] ?_
  refine gL [0, 2, 3] (fo X f m t hX O L d hkd name hsz hno hel ⟨tk, 2⟩ hkt (by simp) hb) ?_
  rintro _ _ ⟨rfl, rfl⟩
  refine NL ?_
  refine aj.mem (aK := [.blk f [.int .i64 (X.cN), .int .i64 (X.cB), .int .i64 (X.cH), .int .i64 (X.cS), .int .i64 (X.cZ), .map (some m), .pointer (some ⟨t, 0, none⟩), .int .i64 (X.last), .int .i64 (X.ai + 1), .int .i64 (X.used)] 89, .abs (aq (aS (bh X O d name ⟨tk, 2⟩) L)), .abs (aq (bw (bh X O d name ⟨tk, 2⟩) L)), .abs (aC Tryz.prog 3 m (aN (aJ L (ins (obj O tk).id ⟨tk, 2⟩ idx))) ((ins (obj O tk).id ⟨tk, 2⟩ idx).length)), .abs R]) (fun w hS => by rw [show (ins (obj O tk).id ⟨tk, 2⟩ idx).length = idx.length + 1 from fJ _ _ _]; exact hS) ?_
  exact RF (.tuple #[]) [0, 3, 1, 2, 4] (⟨rfl, rfl⟩)
 ·
  replace hkt : (obj O tk).kind = 3 := hkt
  replace hni : TabM.get idx (obj O tk).id = none := hni
  replace hw : (Lit.int .i64 (obj O tk).id).wf = true := hw
  refine af.bT (S := (rO f m t X L idx O R)) [0, 1, 2, 3, 4, 9, 5, 6, 7, 8, 10] 6 [0, 1, 2, 3, 4] (by kernel_rfl) (by kernel_rfl) rfl (by kernel_rfl) ?_
  refine aD.reads (r := 0) (l := [5, 6, 7, 8, 10]) (fr' := (rN f L d name ++ [(3, .iface 95 (vP (L.b tk))), (11, .map (some m)), (12, .iface 95 (vP (L.b tk))), (17, .iface 95 (vP (L.b tk)))])) (ak := [f = f]) [0, 1, 2, 3, 4, 9] [o_, o_, o_, ⟨[.at 0], none, none, none, none⟩, o_, o_] [0, 1, 2, 3, 11, 12, 17] (fun _ => by kernel_rfl) ⟨rfl, trivial⟩ rfl rfl ?_
  refine mL [0, 1, 2, 3, 4] [] (cg (L.b tk)) ?_ (by rintro _ _ ⟨rfl, rfl⟩; rfl)
  rintro _ _ ⟨rfl, rfl⟩
  refine aD.cut (ι := Unit) (fr' := fun (_ : Unit) => (rN f L d name ++ [(3, .iface 95 (vP (L.b tk))), (11, .map (some m)), (14, vP (L.b tk)), (17, .iface 95 (vP (L.b tk)))])) (hp' := fun (_ : Unit) => (rO f m t X L idx O R)) [0, 1, 2, 3, 4] rfl rfl ?_ rfl (fun _ => by kernel_rfl) ?_
  ·
   refine gK 1 [(14, .pointer (some ⟨(L.b tk), 0, none⟩))] [] ?_
   refine NL ?_
   exact MD () [0, 1, 2, 3, 11, 14, 17] [0, 1, 2, 3, 4]
  rintro _
  refine aD.cut (ι := Unit) (fr' := fun (_ : Unit) => (rN f L d name ++ [(3, .iface 95 (vP (L.b tk))), (11, .map (some m)), (15, vP (L.b tk)), (17, .iface 95 (vP (L.b tk)))])) (hp' := fun (_ : Unit) => (rO f m t X L idx O R)) [0, 1, 2, 3, 4] rfl rfl ?_ rfl (fun _ => by kernel_rfl) ?_
  ·
   refine gK 1 [(15, .pointer (some ⟨(L.b tk), 0, none⟩))] [] ?_
   refine NL ?_
   exact MD () [0, 1, 2, 3, 11, 15, 17] [0, 1, 2, 3, 4]
  rintro _
  refine aD.cut (ι := Unit) (fr' := fun (_ : Unit) => (rN f L d name ++ [(3, .iface 95 (vP (L.b tk))), (11, .map (some m)), (16, vI ((obj O tk).id)), (17, .iface 95 (vP (L.b tk)))])) (hp' := fun (_ : Unit) => (rO f m t X L idx O R)) [0, 1, 2, 3, 4] rfl rfl ?_ rfl (fun _ => by kernel_rfl) ?_
  ·
   refine gK 1 [(16, .int .i64 ((obj O tk).id))] [(0, v_ 2 (wX L hkt))] ?_
   refine NL ?_
   exact MD () [0, 1, 2, 3, 11, 16, 17] [0, 1, 2, 3, 4]
  rintro _
  refine aD.last rfl rfl ?_
  refine ah.jI 1 (d := none) (t := 83) (K := 3) (E := 87) (b := m) (n := idx.length) (f := (aN (aJ L idx))) (x := (.tmp 11)) (ix := (.tmp 16)) (y := (.tmp 17)) (key := .int .i64 ((obj O tk).id)) (u := .iface 95 (.pointer (some ⟨(L.b tk), 0, none⟩))) (kl := (.int .i64 (obj O tk).id)) (n' := (idx.length + 1)) (f' := (aN (aJ L (ins (obj O tk).id ⟨tk, 3⟩ idx)))) (fun _ => by kernel_rfl) (by kernel_rfl) (fun _ => by kernel_rfl) (fun _ => by kernel_rfl) (fun _ => by kernel_rfl) dL Tryz.underlying83 (by unfold maxLen; omega) (iB hw) (by rw [ez, hni]; rfl) (oo (L := L) (t := ⟨tk, 3⟩) hni) ?_
  refine NL (aj.np (NX (af.region ?_)))
  refine gK 4 (Js f L d name ++ [(21, .iface 95 (.pointer (some ⟨(L.b tk), 0, none⟩)))]) [] ?_
  refine gL [0, 2, 3] (fo X f m t hX O L d hkd name hsz hno hel ⟨tk, 3⟩ hkt (by simp) hb) ?_
  rintro _ _ ⟨rfl, rfl⟩
  refine NL ?_
  refine aj.mem (aK := [.blk f [.int .i64 (X.cN), .int .i64 (X.cB), .int .i64 (X.cH), .int .i64 (X.cS), .int .i64 (X.cZ), .map (some m), .pointer (some ⟨t, 0, none⟩), .int .i64 (X.last), .int .i64 (X.ai + 1), .int .i64 (X.used)] 89, .abs (aq (aS (bh X O d name ⟨tk, 3⟩) L)), .abs (aq (bw (bh X O d name ⟨tk, 3⟩) L)), .abs (aC Tryz.prog 3 m (aN (aJ L (ins (obj O tk).id ⟨tk, 3⟩ idx))) ((ins (obj O tk).id ⟨tk, 3⟩ idx).length)), .abs R]) (fun w hS => by rw [show (ins (obj O tk).id ⟨tk, 3⟩ idx).length = idx.length + 1 from fJ _ _ _]; exact hS) ?_
  exact RF (.tuple #[]) [0, 3, 1, 2, 4] (⟨rfl, rfl⟩)
end Go.Proofs.YtkiedlmhocglhaaGreat
end
section
namespace Go.Proofs.YtkiedlmhocglhaaGreat
open Go.RowKit Go.Maps HeapM TabM
structure pX (O : bM) (idx us : Used Th) (k : Nat) : Prop where
  up : ∀ x, (obj O x).up ≠ some k
  ai : ∀ x, ∀ e ∈ (obj O x).ai, e.2.k ≠ k
  idx : ∀ p ∈ idx, p.2.k ≠ k
  us : ∀ p ∈ us, p.2.k ≠ k
section fresh
variable {S : aH} {O : bM} {idx us : Used Th} {L L' : HL} {k b m c : Nat} {A : Option Addr} {o : aM} {t : Th}
theorem oq (h : Inv0 S) : (aE S.X : Int) = S.X.last + 1 := by
  have := h.last
  unfold aE
  omega
theorem Inv0.sW (h : Inv0 S) (ht : Live S.idx t) : t.k ≠ aE S.X := h.free (by have := oq h; omega) ht
theorem Inv0.xA (h : Inv0 S) (hk : S.X.last < (k : Int)) : pX S.O S.idx S.us k := by
  have key : ∀ x, (∃ t, Live S.idx t ∧ t.k = x) ∨ (obj S.O x).ai = [] ∧ (obj S.O x).up = none := fun x => by
    by_cases hx : ∃ t, Live S.idx t ∧ t.k = x
    · exact .inl hx
    · exact .inr (h.dead x (fun t ht e => hx ⟨t, ht, e⟩))
  refine ⟨fun x e => ?_, fun x e he => ?_, fun p hp => ?_, fun p hp => ?_⟩
  · rcases key x with ⟨t, ht, rfl⟩ | hx
    · obtain ⟨_, h2, _⟩ := (h.up t ht _).1 e
      exact h.free hk h2 rfl
    · rw [hx.2] at e; cases e
  · rcases key x with ⟨t, ht, rfl⟩ | hx
    · exact h.free hk (h.ai t ht e he).2
    · rw [hx.1] at he; cases he
  · exact h.free hk (h.live (lg h.rise hp))
  · exact h.free hk (h.us _ _ (lg h.usr hp)).1
theorem Inv0.fresh (h : Inv0 S) : pX S.O S.idx S.us (aE S.X) := h.xA (by have := oq h; omega)
theorem t7 (hL : L' = L.put k b m A c) {x : Nat} (h : x ≠ k) : L'.b x = L.b x := by subst hL; exact if_neg h
theorem zV (hL : L' = L.put k b m A c) : L'.b k = b := by subst hL; exact if_pos rfl
theorem zW (hL : L' = L.put k b m A c) : L'.m k = m := by subst hL; exact if_pos rfl
theorem D7 (hL : L' = L.put k b m A c) (h : t.k ≠ k) : cM L' t = cM L t := by unfold cM; rw [t7 hL h]
theorem mB (hL : L' = L.put k b m A c) (kind : Int) : cM L' ⟨k, kind⟩ = .iface (Lb kind) (.pointer (some ⟨b, 0, none⟩)) := by unfold cM; rw [zV hL]
theorem eZ (hL : L' = L.put k b m A c) (h : ∀ p ∈ us, p.2.k ≠ k) : aJ L' us = aJ L us := List.map_congr_left (fun p hp => by rw [D7 hL (h p hp)])
theorem FB {es : dD Th} {n : ByteArray} (h : ∀ e ∈ es, e.2.k ≠ k) (e : aT n es = some t) : t.k ≠ k := h _ (jK e)
theorem FC (hL : L' = L.put k b m A c) {es : dD Th} (h : ∀ e ∈ es, e.2.k ≠ k) : fB L' es = fB L es := by
  unfold fB
  congr 1
  funext n
  cases e : aT n es with
  | none => rfl
  | some t => exact congrArg some (D7 hL (FB h e))
theorem BF (hL : L' = L.put k b m A c) (hf : pX O idx us k) {x : Nat} (h : x ≠ k) : aS O L' x = aS O L x := by
  have e1 := t7 hL h
  have e2 : d8 L' x (obj O x) = d8 L x (obj O x) := by
    unfold d8 tU
    have h1 : pP L' (obj O x).up = pP L (obj O x).up := by
      cases hu : (obj O x).up with
      | none => rfl
      | some d => show Value.pointer _ = Value.pointer _; rw [t7 hL (fun e => hf.up x (by rw [hu, e]))]
    rw [h1]
    subst hL
    simp only [HL.put, if_neg h]
  unfold aS
  rw [e1, e2]
theorem xB (hL : L' = L.put k b m A c) (hf : pX O idx us k) {x : Nat} (h : x ≠ k) : bw O L' x = bw O L x := by
  unfold bw
  rw [FC hL (hf.ai x)]
  subst hL
  simp only [HL.put, if_neg h]
theorem t8 (hL : L' = L.put k b m A c) {x : Nat} (h : x ≠ k) : aY O L' x = aY O L x := by
  unfold aY
  subst hL
  simp only [HL.put, if_neg h]
end fresh
theorem oR {O O' : bM} {L : HL} (h1 : ∀ x, (obj O' x).data = (obj O x).data) (h2 : ∀ x, (obj O' x).kind = (obj O x).kind) : aY O' L = aY O L := by
  funext x
  unfold aY
  rw [h1, h2]
theorem fw {X : FM} {O : bM} {L : HL} {d : Nat} {name : ByteArray} {t : Th} : aY (bh X O d name t) L = aY O L :=
  oR (fun _ => kf (g := aM.data) (fun _ _ => rfl) (fun _ _ => rfl) (fun _ _ _ => rfl) (fun _ _ => rfl)) (fun _ => AV)
theorem iq {X : FM} {O : bM} {L : HL} {d : Nat} {name : ByteArray} {t : Th} : aY (aG X O d name t) L = aY O L :=
  oR (fun _ => cE (g := aM.data) (fun _ _ => rfl) (fun _ _ => rfl) (fun _ _ _ => rfl)) (fun _ => bS)
theorem mD {α : Type} {g : aM → α} {O : bM} {k j : Nat} (h : ∀ o b, g { o with gone := b } = g o) : g (obj (j8 O j) k) = g (obj O k) := cI (f := fun o => { o with gone := true }) (fun o => h o true)
theorem FD {O : bM} {L : HL} {k : Nat} : aY (j8 O k) L = aY O L := oR (fun _ => mD (g := aM.data) (fun _ _ => rfl)) (fun _ => mD (g := aM.kind) (fun _ _ => rfl))
theorem kR {S : aH} {L : HL} {d : Nat} {name : ByteArray} {t : Th} : aY (ar S d name t).O L = aY S.O L := by
  unfold ar
  simp only
  split
  · exact FD.trans iq
  · exact iq
theorem wj {S : aH} {d k : Nat} {name : ByteArray} {t : Th} : (obj (ar S d name t).O k).kind = (obj S.O k).kind := by
  unfold ar
  simp only
  split
  · exact (mD (g := aM.kind) (fun _ _ => rfl)).trans bS
  · exact bS
theorem nu {X : FM} {O : bM} {idx : Used Th} {d : Nat} {name : ByteArray} (h : bY X O idx d name = 0) : aT name (obj O d).ai = none := by
  unfold bY at h
  split at h
  · assumption
  · cases h
theorem qi {X : FM} {O : bM} {idx : Used Th} {d : Nat} {name : ByteArray} (h : bY X O idx d name = 0) : Room X idx := by
  unfold bY at h
  split at h
  · split at h
    · assumption
    · cases h
  · cases h
theorem qj {X : FM} {O : bM} {idx : Used Th} {d : Nat} {name : ByteArray} (h : bY X O idx d name = 0) : X.last < 1099511627776 := (qi h).2.1
section sat
variable {β : Bs} {l l' : List HP} {w : World} {i j k b m c : Nat} {O : bM} {us : Used Th} {idx' us' : Used Th} {L L' : HL} {cs : List Value} {T : TypeId} {ix : List Nat} {A : Option Addr} {o : aM} {R R' : Nat → bJ}
theorem Sat.less {p p' : HP} (h : Sat β l w) (hp : l[i]? = some p) (hs : ∀ F, p.h F w → ∃ F', p'.h F' w ∧ ∀ x, F' x → F x) : Sat β (l.set i p') w :=
  h.set hp (fun F hF => let ⟨F', h1, h2⟩ := hs F hF; ⟨F', h1, ⟨Keeps.refl _ _, fun k hk => .inl (h2 k hk)⟩⟩)
theorem Sat.sX (h : Sat β l w) (hp : l[i]? = some (.abs (aq R))) (k : Nat) (hR : ∀ x, x ≠ k → R' x = R x) (ha : R' k = bJ.none) : Sat β (l.set i (.abs (aq R'))) w := by
  refine h.less hp ?_
  rintro F ⟨φ, h1, h2, h3⟩
  refine ⟨fun x => ∃ i, i ≠ k ∧ φ i x, ⟨fun i => if i = k then fun _ => False else φ i, fun i => ?_, fun i j hne x hx hy => ?_, fun x => ⟨fun ⟨i, hne, hx⟩ => ⟨i, by simpa [hne] using hx⟩, fun ⟨i, hx⟩ => ?_⟩⟩, fun x ⟨i, _, hx⟩ => (h3 x).2 ⟨i, hx⟩⟩
  · by_cases e : i = k
    · subst e; simp only [if_true]; rw [ha]; exact fun _ h => h
    · simp only [e, if_false]; rw [hR i e]; exact h1 i
  · by_cases e1 : i = k
    · simp [e1] at hx
    · by_cases e2 : j = k
      · simp [e2] at hy
      · exact h2 i j hne x (by simpa [e1] using hx) (by simpa [e2] using hy)
  · by_cases e1 : i = k
    · simp [e1] at hx
    · exact ⟨i, e1, by simpa [e1] using hx⟩
theorem Sat.q9 (h : Sat β l w) (hL : L' = L.put k b m A c) (hf : pX O idx' us' k) (hp : l[i]? = some (.abs (aq (aS O L)))) (hq : l[j]? = some (.blk b cs T)) (hd : br (i :: j :: ix) = true) (hl : bI l ix = some l') (h0 : o.kind ≠ 0) (hc : d8 L' k o = cs) (hT : kg o.kind = T) : Sat β (.abs (aq (aS (aB O k (fun _ => o)) L')) :: l') w := by
  refine h.nV (a := uV b cs T) hp hq (fun _ _ h => h) hd hl k (fun x hx => ?_) (by rw [qx, if_neg h0, hc, hT, zV hL])
  rw [qy hx, BF hL hf hx]
theorem Sat.GN (h : Sat β l w) (hL : L' = L.put k b m A c) (hf : pX O idx' us' k) (hp : l[i]? = some (.abs (aq (bw O L)))) (hq : l[j]? = some (.abs (aC Tryz.prog 9 m (fun _ => none) 0))) (hd : br (i :: j :: ix) = true) (hl : bI l ix = some l') (h2 : o.kind = 2) (he : o.ai = []) : Sat β (.abs (aq (bw (aB O k (fun _ => o)) L')) :: l') w := by
  refine h.nV hp hq (fun _ _ h => h) hd hl k (fun x hx => by rw [sA hx, xB hL hf hx]) ?_
  rw [kY (by rw [bA]; exact h2), bA, he, E7, zW hL]; rfl
theorem Sat.sY (h : Sat β l w) (hL : L' = L.put k b m A c) (hf : pX O idx' us' k) (hp : l[i]? = some (.abs (aq (bw O L)))) (h2 : o.kind ≠ 2) : Sat β (l.set i (.abs (aq (bw (aB O k (fun _ => o)) L')))) w := by
  refine h.sX hp k (fun x hx => by rw [sA hx, xB hL hf hx]) ?_
  unfold bw; rw [bA, if_neg h2]
theorem Sat.wk (h : Sat β l w) (hL : L' = L.put k b m A c) (hp : l[i]? = some (.abs (aq (aY O L)))) (h1 : o.kind ≠ 1) : Sat β (l.set i (.abs (aq (aY (aB O k (fun _ => o)) L')))) w := by
  refine h.sX hp k (fun x hx => by rw [sB hx, t8 hL hx]) ?_
  unfold aY; rw [bA, if_neg h1]
theorem Sat.GP (h : Sat β l w) (hL : L' = L.put k b m none 0) (hp : l[i]? = some (.abs (aq (aY O L)))) (hq : l[j]? = some (.abs (aF 5 1 none 0 0 []))) (hd : br (i :: j :: ix) = true) (hl : bI l ix = some l') (h1 : o.kind = 1) (he : o.data = []) : Sat β (.abs (aq (aY (aB O k (fun _ => o)) L')) :: l') w := by
  refine h.nV hp hq (fun _ _ h => h) hd hl k (fun x hx => by rw [sB hx, t8 hL hx]) ?_
  rw [oI (by rw [bA]; exact h1), bA, he]
  subst hL
  simp only [HL.put, if_true]
  rfl
end sat
end Go.Proofs.YtkiedlmhocglhaaGreat
end
section
namespace Go.Proofs.YtkiedlmhocglhaaGreat
open Go.RowKit Go.Maps HeapM TabM
attribute [local irreducible] ah aI af aj
abbrev wm (f : Nat) (m : Nat) (t) (S : aH) := (pF f m t { S.X with last := S.X.last + 1 } : HP)
abbrev GQ (S : aH) (text : ByteArray) (L2 : HL) := (pO (aB S.O (aE S.X) (fun _ => { aQ S.X 3 511 with target := text })) L2 : HP)
abbrev Jz (S : aH) (text : ByteArray) (L2 : HL) := (pE (aB S.O (aE S.X) (fun _ => { aQ S.X 3 511 with target := text })) L2 : HP)
abbrev Li (S : aH) (mode) (L2 : HL) (f : Nat) (m : Nat) (t) (L : HL) := ([pE (aB S.O (aE S.X) (fun _ => (aQ S.X 2 mode))) L2, pO (aB S.O (aE S.X) (fun _ => (aQ S.X 2 mode))) L2, wm f m t S, pI m L S.idx, pT t S.X.cH S.au L S.us] : List HP)
theorem rf {β : Bs} (S : aH) (L : HL) (f m t : Nat) (hI : Inv0 S) (d : Nat) (hd : Live S.idx ⟨d, 2⟩) (name : ByteArray) (hsz : name.size ≤ 1048576) (hno : aT name (obj S.O d).ai = none) (o : aM) (hid : o.id = S.X.last + 1) (hk3 : o.kind = 1 ∨ o.kind = 2 ∨ o.kind = 3) (hl0 : o.links = 0) (hlast : S.X.last < 1099511627776) :
    Spec Tryz.prog β 115 #[.pointer (some ⟨f, 0, none⟩), .pointer (some ⟨L.b d, 0, none⟩), .string name, cM L ⟨(aE S.X), o.kind⟩] [wm f m t S, pI m L S.idx, pO (aB S.O (aE S.X) (fun _ => o)) L, pE (aB S.O (aE S.X) (fun _ => o)) L] (fun v l => v = .tuple #[] ∧ l = [pF f m t ((ct S d name o).X), pI m L ((ct S d name o).idx), pO ((ct S d name o).O) L, pE ((ct S d name o).O) L]) := by
  have hX := hI.hX
  have hne : d ≠ (aE S.X) := hI.sW hd
  have hkd : (obj S.O d).kind = 2 := hI.kind hd
  have hel : (obj S.O d).ai.length ≤ 8192 := hI.eG hd
  have hlen := hI.len
  have e1 : obj (aB S.O (aE S.X) (fun _ => o)) (aE S.X) = o := bA
  have e2 : obj (aB S.O (aE S.X) (fun _ => o)) d = obj S.O d := bP hne
  have hnk := oq hI
  have h := HV (β := β) { S.X with last := S.X.last + 1 } f m t (by simp only; omega) (aB S.O (aE S.X) (fun _ => o)) L d (by rw [e2]; exact hkd) name hsz (by rw [e2]; exact hno) (by rw [e2]; omega) S.idx (by omega) ⟨(aE S.X), o.kind⟩ (by rw [e1]) hk3 (by rw [e1, hl0]; decide) (by
    rw [e1, hid]
    cases e : TabM.get S.idx (S.X.last + 1) with
    | none => rfl
    | some u => have := (hI.idx _ u e).2.2; omega) (by rw [e1, hid]; exact WalkArith.wf_i64 (by have := hI.last; omega))
  rw [e1, hid] at h
  exact h
set_option maxRecDepth 100000 in
set_option maxHeartbeats 4000000 in
theorem D8 {β : Bs} (S : aH) (L : HL) (f m t : Nat) (hI : Inv S) (d : Nat) (hd : Live S.idx ⟨d, 2⟩) (name : ByteArray) (hsz : name.size ≤ 1048576) (mode : Int) :
    Spec Tryz.prog β 112 #[.pointer (some ⟨f, 0, none⟩), .pointer (some ⟨(L.b d), 0, none⟩), .string name, .int .i64 (mode)] (pA f m t L S) (fun v l => ∃ L2, v = .int .i64 (mkdirM S d name mode).1 ∧ l = (pA f m t L2 ((mkdirM S d name mode).2))) := by
 have hX := hI.hX
 have hel : (obj S.O d).ai.length ≤ 8192 := hI.eG hd
 have hkd : (obj S.O d).kind = 2 := hI.kind hd
 refine Spec.enter Tryz.func112 rfl Tryz.ntmps112 (Nat.le_of_ble_eq_true rfl) (fun R => ?_)
 refine SR ?_
 refine gK 1 [] [] ?_
 refine NS ?_
 refine gK 3 [(10, .pointer (some ⟨f, 0, none⟩)), (11, .pointer (some ⟨(L.b d), 0, none⟩)), (12, .string name)] [] ?_
 refine gL [0, 1, 5, 3] (sV S L f m t hI d hd name hsz) ?_
 rintro _ _ ⟨rfl, rfl⟩
 refine gK 1 [(9, .int .i64 ((bY S.X S.O S.idx d name)))] [] ?_
 refine NN (af.seq (SR ?_))
 refine gK 2 [(15, .bool (decide (((bY S.X S.O S.idx d name) : Int) = (0 : Int))))] [] ?_
 refine NN ?_
 refine af.bH (p := ((bY S.X S.O S.idx d name) : Int) = (0 : Int)) (fun _ => by kernel_rfl) (fun h0 => ?_) (fun h0 => ?_)
 ·
  have hno := nu h0
  refine af.region ?_
  refine gK 5 [(16, .pointer (some ⟨f, 0, none⟩)), (17, .pointer (some ⟨(L.b d), 0, none⟩)), (18, .string name), (19, .pointer (some ⟨f, 0, none⟩)), (20, .int .i64 (mode))] [] ?_
  refine gL [0] (sN S.X f m t hX mode) ?_
  rintro _ _ ⟨rfl, rfl⟩
  refine ah.kX (d := (some 22)) (t := 99) (fun _ => by kernel_rfl) Tryz.prog rfl 9 (fun m1 => ?_)
  refine gN 3 (fun b2 => [(25, .iface 98 (.pointer (some ⟨b2, 0, none⟩)))]) (fun _ => []) (fun _ => []) (fun b2 => .blk b2 [.int .i64 (S.X.last + 1), .int .i64 (mode), .int .i64 0, .int .i64 0, .int .i64 (S.X.cS), .int .i64 (S.X.cZ), .int .i64 0, .int .i64 0, .bool false, .map (some m1), .pointer none] 101) (fun b2 => ?_)
  obtain ⟨L2, hL2⟩ : ∃ L2 : HL, L2 = L.put (aE S.X) b2 m1 none 0 := ⟨_, rfl⟩
  have hfr := hI.toInv0.fresh
  refine ah.mem (aK := [.abs (aq (aS (aB S.O (aE S.X) (fun _ => (aQ S.X 2 mode))) L2)), .blk f [.int .i64 (S.X.cN), .int .i64 (S.X.cB), .int .i64 (S.X.cH), .int .i64 (S.X.cS), .int .i64 (S.X.cZ), .map (some m), .pointer (some ⟨t, 0, none⟩), .int .i64 (S.X.last + 1), .int .i64 (S.X.ai), .int .i64 (S.X.used)] 89, .abs (aC Tryz.prog 3 m (aN (aJ L S.idx)) S.idx.length), .abs (aq (bw S.O L)), .abs (aZ 143 t S.X.cH S.au (aJ L S.us)), .abs (aq (aY S.O L)), .abs R, .abs (aC Tryz.prog 9 m1 (fun _ => none) 0)]) (fun w hS => hS.q9 hL2 hfr (o := (aQ S.X 2 mode)) (i := 3) (j := 8) (ix := [0, 1, 2, 4, 5, 6, 7]) rfl rfl (by kernel_rfl) rfl (by show (2 : Int) ≠ 0; decide) ((fW (L := L2) (k := (aE S.X)) (o := (aQ S.X 2 mode)) rfl).trans (by rw [zW hL2]; rfl)) rfl) ?_
  refine ah.mem (aK := (Li S mode L2 f m t L ++ [pD S.O L, .abs R])) (fun w hS => hS.GN hL2 hfr (o := (aQ S.X 2 mode)) (i := 3) (j := 7) (ix := [0, 1, 2, 4, 5, 6]) rfl rfl (by kernel_rfl) rfl rfl rfl) ?_
  refine ah.mem (aK := (Li S mode L2 f m t L ++ [pD (aB S.O (aE S.X) (fun _ => (aQ S.X 2 mode))) L2, .abs R])) (fun w hS => hS.wk hL2 (o := (aQ S.X 2 mode)) (i := 5) rfl (by show (2 : Int) ≠ 1; decide)) ?_
  refine ah.mem (aK := [.abs (aq (bw (aB S.O (aE S.X) (fun _ => (aQ S.X 2 mode))) L2)), .abs (aq (aS (aB S.O (aE S.X) (fun _ => (aQ S.X 2 mode))) L2)), .blk f [.int .i64 (S.X.cN), .int .i64 (S.X.cB), .int .i64 (S.X.cH), .int .i64 (S.X.cS), .int .i64 (S.X.cZ), .map (some m), .pointer (some ⟨t, 0, none⟩), .int .i64 (S.X.last + 1), .int .i64 (S.X.ai), .int .i64 (S.X.used)] 89, .abs (aC Tryz.prog 3 m (aN (aJ L2 S.idx)) S.idx.length), .abs (aZ 143 t S.X.cH S.au (aJ L2 S.us)), .abs (aq (aY (aB S.O (aE S.X) (fun _ => (aQ S.X 2 mode))) L2)), .abs R]) (fun w hS => by rw [eZ hL2 hfr.idx, eZ hL2 hfr.us]; exact hS) ?_
  refine gL (f := 115) (args := #[.pointer (some ⟨f, 0, none⟩), .pointer (some ⟨(L.b d), 0, none⟩), .string name, .iface 98 (.pointer (some ⟨b2, 0, none⟩))]) (pre := [wm f m t S, pI m L2 S.idx, pO (aB S.O (aE S.X) (fun _ => (aQ S.X 2 mode))) L2, pE (aB S.O (aE S.X) (fun _ => (aQ S.X 2 mode))) L2]) [2, 3, 1, 0] ((by have h := rf (β := β) S L2 f m t hI.toInv0 d hd name hsz hno (aQ S.X 2 mode) rfl (by simp [aQ]) rfl (qj h0); rw [t7 hL2 (hI.sW hd), mB hL2] at h; exact h)) ?_
  rintro _ _ ⟨rfl, rfl⟩
  refine NS ?_
  refine ah.mem (aK := [.blk f [.int .i64 ((ct S d name (aQ S.X 2 mode)).X.cN), .int .i64 ((ct S d name (aQ S.X 2 mode)).X.cB), .int .i64 ((ct S d name (aQ S.X 2 mode)).X.cH), .int .i64 ((ct S d name (aQ S.X 2 mode)).X.cS), .int .i64 ((ct S d name (aQ S.X 2 mode)).X.cZ), .map (some m), .pointer (some ⟨t, 0, none⟩), .int .i64 ((ct S d name (aQ S.X 2 mode)).X.last), .int .i64 ((ct S d name (aQ S.X 2 mode)).X.ai), .int .i64 ((ct S d name (aQ S.X 2 mode)).X.used)] 89, .abs (aC Tryz.prog 3 m (aN (aJ L2 (ct S d name (aQ S.X 2 mode)).idx)) ((ct S d name (aQ S.X 2 mode)).idx.length)), .abs (aq (aS ((ct S d name (aQ S.X 2 mode)).O) L2)), .abs (aq (bw ((ct S d name (aQ S.X 2 mode)).O) L2)), .abs (aZ 143 t S.X.cH S.au (aJ L2 S.us)), .abs (aq (aY ((ct S d name (aQ S.X 2 mode)).O) L2)), .abs R]) (fun w hS => by rw [show aY ((ct S d name (aQ S.X 2 mode)).O) L2 = aY (aB S.O (aE S.X) (fun _ => (aQ S.X 2 mode))) L2 from fw]; exact hS) ?_
  refine gK 2 [(8, .int .i64 ((bY S.X S.O S.idx d name)))] [] ?_
  refine NN (af.ret ?_)
  exact RT (.int .i64 ((bY S.X S.O S.idx d name))) [0, 1, 4, 2, 5, 3, 6] (⟨L2, by rw [show mkdirM S d name mode = _ from if_pos h0]; refine ⟨congrArg _ h0, ?_⟩; rfl⟩)
 ·
  refine af.skip (NX (SR ?_))
  refine gK 2 [(8, .int .i64 ((bY S.X S.O S.idx d name)))] [] ?_
  refine NN (af.ret ?_)
  exact RT (.int .i64 ((bY S.X S.O S.idx d name))) [0, 1, 4, 3, 5, 2, 6] (⟨L, by rw [show mkdirM S d name mode = _ from if_neg h0] <;> exact ⟨rfl, rfl⟩⟩)
set_option maxRecDepth 100000 in
set_option maxHeartbeats 4000000 in
theorem A6 {β : Bs} (S : aH) (L : HL) (f m t : Nat) (hI : Inv S) (d : Nat) (hd : Live S.idx ⟨d, 2⟩) (name : ByteArray) (hsz : name.size ≤ 1048576) (text : ByteArray) (MJ : text.size ≤ 1048576) :
    Spec Tryz.prog β 116 #[.pointer (some ⟨f, 0, none⟩), .pointer (some ⟨(L.b d), 0, none⟩), .string name, .string text] (pA f m t L S) (fun v l => ∃ L2, v = .int .i64 (symlinkM S d name text).1 ∧ l = (pA f m t L2 ((symlinkM S d name text).2))) := by
 have hX := hI.hX
 have hel : (obj S.O d).ai.length ≤ 8192 := hI.eG hd
 have hkd : (obj S.O d).kind = 2 := hI.kind hd
 refine Spec.enter Tryz.func116 rfl Tryz.ntmps116 (Nat.le_of_ble_eq_true rfl) (fun R => ?_)
 refine SR ?_
 refine gK 1 [] [] ?_
 refine NS ?_
 refine gK 1 [(10, .string text)] [] ?_
 refine gL [] (HT text MJ) ?_
 rintro _ _ ⟨rfl, rfl⟩
 refine gK 1 [(9, .int .i64 ((ko text)))] [] ?_
 refine NN (af.seq (SR ?_))
 refine gK 2 [(13, .bool (decide (((ko text) : Int) = (0 : Int))))] [] ?_
 refine NN ?_
 refine af.bH (p := ((ko text) : Int) = (0 : Int)) (fun _ => by kernel_rfl) (fun hb => ?_) (fun hb => ?_)
 ·
  refine af.region ?_
  refine gK 3 [(14, .pointer (some ⟨f, 0, none⟩)), (15, .pointer (some ⟨(L.b d), 0, none⟩)), (16, .string name)] [] ?_
  refine gL [0, 1, 5, 3] (sV S L f m t hI d hd name hsz) ?_
  rintro _ _ ⟨rfl, rfl⟩
  refine gK 1 [(9, .int .i64 ((bY S.X S.O S.idx d name)))] [] ?_
  refine NN (af.seq (SR ?_))
  refine gK 2 [(19, .bool (decide (((bY S.X S.O S.idx d name) : Int) = (0 : Int))))] [] ?_
  refine NN ?_
  refine af.bH (p := ((bY S.X S.O S.idx d name) : Int) = (0 : Int)) (fun _ => by kernel_rfl) (fun h0 => ?_) (fun h0 => ?_)
  ·
   have hno := nu h0
   refine af.region ?_
   refine gK 4 [(20, .pointer (some ⟨f, 0, none⟩)), (21, .pointer (some ⟨(L.b d), 0, none⟩)), (22, .string name), (23, .pointer (some ⟨f, 0, none⟩))] [] ?_
   refine gL [0] (sN S.X f m t hX 511) ?_
   rintro _ _ ⟨rfl, rfl⟩
   refine gN 4 (fun b3 => [(28, .iface 95 (.pointer (some ⟨b3, 0, none⟩)))]) (fun _ => []) (fun _ => []) (fun b3 => .blk b3 [.int .i64 (S.X.last + 1), .int .i64 (511), .int .i64 0, .int .i64 0, .int .i64 (S.X.cS), .int .i64 (S.X.cZ), .int .i64 0, .int .i64 0, .bool false, .string text] 97) (fun b3 => ?_)
   obtain ⟨L2, hL2⟩ : ∃ L2 : HL, L2 = L.put (aE S.X) b3 0 none 0 := ⟨_, rfl⟩
   have hfr := hI.toInv0.fresh
   refine ah.mem (aK := [GQ S text L2, wm f m t S, pI m L S.idx, pE S.O L, pT t S.X.cH S.au L S.us, pD S.O L, .abs R]) (fun w hS => hS.q9 hL2 hfr (o := { aQ S.X 3 511 with target := text }) (i := 3) (j := 7) (ix := [0, 1, 2, 4, 5, 6]) rfl rfl (by kernel_rfl) rfl (by show (3 : Int) ≠ 0; decide) ((sC (L := L2) (k := (aE S.X)) (o := { aQ S.X 3 511 with target := text }) rfl).trans (by rfl)) rfl) ?_
   refine ah.mem (aK := [GQ S text L2, wm f m t S, pI m L S.idx, Jz S text L2, pT t S.X.cH S.au L S.us, pD S.O L, .abs R]) (fun w hS => hS.sY hL2 hfr (o := { aQ S.X 3 511 with target := text }) (i := 3) rfl (by show (3 : Int) ≠ 2; decide)) ?_
   refine ah.mem (aK := [GQ S text L2, wm f m t S, pI m L S.idx, Jz S text L2, pT t S.X.cH S.au L S.us, pD (aB S.O (aE S.X) (fun _ => { aQ S.X 3 511 with target := text })) L2, .abs R]) (fun w hS => hS.wk hL2 (o := { aQ S.X 3 511 with target := text }) (i := 5) rfl (by show (3 : Int) ≠ 1; decide)) ?_
   refine ah.mem (aK := [.abs (aq (aS (aB S.O (aE S.X) (fun _ => { aQ S.X 3 511 with target := text })) L2)), .blk f [.int .i64 (S.X.cN), .int .i64 (S.X.cB), .int .i64 (S.X.cH), .int .i64 (S.X.cS), .int .i64 (S.X.cZ), .map (some m), .pointer (some ⟨t, 0, none⟩), .int .i64 (S.X.last + 1), .int .i64 (S.X.ai), .int .i64 (S.X.used)] 89, .abs (aC Tryz.prog 3 m (aN (aJ L2 S.idx)) S.idx.length), .abs (aq (bw (aB S.O (aE S.X) (fun _ => { aQ S.X 3 511 with target := text })) L2)), .abs (aZ 143 t S.X.cH S.au (aJ L2 S.us)), .abs (aq (aY (aB S.O (aE S.X) (fun _ => { aQ S.X 3 511 with target := text })) L2)), .abs R]) (fun w hS => by rw [eZ hL2 hfr.idx, eZ hL2 hfr.us]; exact hS) ?_
   refine gL (f := 115) (args := #[.pointer (some ⟨f, 0, none⟩), .pointer (some ⟨(L.b d), 0, none⟩), .string name, .iface 95 (.pointer (some ⟨b3, 0, none⟩))]) (pre := [wm f m t S, pI m L2 S.idx, GQ S text L2, Jz S text L2]) [1, 2, 0, 3] ((by have h := rf (β := β) S L2 f m t hI.toInv0 d hd name hsz hno { aQ S.X 3 511 with target := text } rfl (by simp [aQ]) rfl (qj h0); rw [t7 hL2 (hI.sW hd), mB hL2] at h; exact h)) ?_
   rintro _ _ ⟨rfl, rfl⟩
   refine NS ?_
   refine ah.mem (aK := [.blk f [.int .i64 ((ct S d name { aQ S.X 3 511 with target := text }).X.cN), .int .i64 ((ct S d name { aQ S.X 3 511 with target := text }).X.cB), .int .i64 ((ct S d name { aQ S.X 3 511 with target := text }).X.cH), .int .i64 ((ct S d name { aQ S.X 3 511 with target := text }).X.cS), .int .i64 ((ct S d name { aQ S.X 3 511 with target := text }).X.cZ), .map (some m), .pointer (some ⟨t, 0, none⟩), .int .i64 ((ct S d name { aQ S.X 3 511 with target := text }).X.last), .int .i64 ((ct S d name { aQ S.X 3 511 with target := text }).X.ai), .int .i64 ((ct S d name { aQ S.X 3 511 with target := text }).X.used)] 89, .abs (aC Tryz.prog 3 m (aN (aJ L2 (ct S d name { aQ S.X 3 511 with target := text }).idx)) ((ct S d name { aQ S.X 3 511 with target := text }).idx.length)), .abs (aq (aS ((ct S d name { aQ S.X 3 511 with target := text }).O) L2)), .abs (aq (bw ((ct S d name { aQ S.X 3 511 with target := text }).O) L2)), .abs (aZ 143 t S.X.cH S.au (aJ L2 S.us)), .abs (aq (aY ((ct S d name { aQ S.X 3 511 with target := text }).O) L2)), .abs R]) (fun w hS => by rw [show aY ((ct S d name { aQ S.X 3 511 with target := text }).O) L2 = aY (aB S.O (aE S.X) (fun _ => { aQ S.X 3 511 with target := text })) L2 from fw]; exact hS) ?_
   refine gK 2 [(8, .int .i64 ((bY S.X S.O S.idx d name)))] [] ?_
   refine NN (af.ret ?_)
   exact RT (.int .i64 ((bY S.X S.O S.idx d name))) [0, 1, 4, 2, 5, 3, 6] (⟨L2, by rw [show symlinkM S d name text = _ from (if_pos hb).trans (if_pos h0)]; refine ⟨congrArg _ h0, ?_⟩; rfl⟩)
  ·
   refine af.skip (NX (SR ?_))
   refine gK 2 [(8, .int .i64 ((bY S.X S.O S.idx d name)))] [] ?_
   refine NN (af.ret ?_)
   exact RT (.int .i64 ((bY S.X S.O S.idx d name))) [0, 1, 4, 3, 5, 2, 6] (⟨L, by rw [show symlinkM S d name text = _ from (if_pos hb).trans (if_neg h0)] <;> exact ⟨rfl, rfl⟩⟩)
 ·
  refine af.skip (NX (af.seq (SR ?_)))
  refine gK 2 [(19, .bool (decide (((ko text) : Int) = (0 : Int))))] [] ?_
  refine NN ?_
  refine af.bH (p := ((ko text) : Int) = (0 : Int)) (fun _ => by kernel_rfl) (fun h0 => ?_) (fun h0 => ?_)
  ·
   exact absurd h0 hb
  ·
   refine af.skip (NX (SR ?_))
   refine gK 2 [(8, .int .i64 ((ko text)))] [] ?_
   refine NN (af.ret ?_)
   exact RT (.int .i64 ((ko text))) [0, 1, 2, 3, 4, 5, 6] (⟨L, by rw [show symlinkM S d name text = _ from if_neg hb] <;> exact ⟨rfl, rfl⟩⟩)
set_option maxRecDepth 100000 in
set_option maxHeartbeats 4000000 in
theorem CB {β : Bs} (S : aH) (L : HL) (f m t : Nat) (hI : Inv S) (d : Nat) (hd : Live S.idx ⟨d, 2⟩) (name : ByteArray) (hsz : name.size ≤ 1048576) :
    Spec Tryz.prog β 119 #[.pointer (some ⟨f, 0, none⟩), .pointer (some ⟨(L.b d), 0, none⟩), .string name] (pA f m t L S) (fun v l => ∃ L2, v = .int .i64 (unlinkM S d name).1 ∧ l = (pA f m t L2 ((unlinkM S d name).2))) := by
 have hX := hI.hX
 have hel : (obj S.O d).ai.length ≤ 8192 := hI.eG hd
 have hkd : (obj S.O d).kind = 2 := hI.kind hd
 refine Spec.enter Tryz.func119 rfl Tryz.ntmps119 (Nat.le_of_ble_eq_true rfl) (fun R => ?_)
 refine af.seq ?_
 rcases hI.kK hd name with hlk | ⟨tk, hlk, hlv⟩ | ⟨tk, hlk, hlv⟩ | ⟨tk, hlk, hlv⟩
 ·
  refine af.region ?_
  refine gK 1 [] [] ?_
  refine NN (af.seq (SR ?_))
  refine gK 5 [(10, .map (some (L.m d))), (11, .string name)] [(3, v_ 3 (bE L hkd))] ?_
  refine gF 5 hkd hlk ?_
  refine NN (af.block (SR ?_))
  refine gK 1 [(13, .bool true)] [] ?_
  refine NN ?_
  refine CT ?_
  refine SR ?_
  refine gK 1 [(6, .int .i64 170)] [] ?_
  refine NN (af.ret (aj.aO (aj.av ?_)))
  exact RT (.int .i64 170) [0, 1, 2, 3, 4, 5, 6] (⟨L, by rw [show unlinkM S d name = (170, S) by unfold unlinkM; rw [hlk]] <;> exact ⟨rfl, rfl⟩⟩)
 ·
  have hkt : (obj S.O tk).kind = 1 := hI.kind hlv
  refine af.region ?_
  refine gK 1 [] [] ?_
  refine NN (af.seq (SR ?_))
  refine gK 5 [(10, .map (some (L.m d))), (11, .string name)] [(3, v_ 3 (bE L hkd))] ?_
  refine gF 5 hkd hlk ?_
  refine NN (af.block (SR ?_))
  refine gK 1 [(13, .bool false)] [] ?_
  refine NN ?_
  refine CF ?_
  refine SR ?_
  refine gK 3 [(15, .bool false)] [] ?_
  refine NN ?_
  refine CF ?_
  refine af.skip (aj.aW (NX (SR ?_)))
  refine gK 3 [(17, .pointer (some ⟨f, 0, none⟩)), (18, .pointer (some ⟨(L.b d), 0, none⟩)), (19, .string name)] [] ?_
  refine gL [0, 3, 5, 1] (kQ S L f m t hI d hd name hsz ⟨tk, 1⟩ hlk) ?_
  rintro _ _ ⟨rfl, rfl⟩
  refine NS ?_
  refine ah.mem (aK := [.blk f [.int .i64 ((ar S d name ⟨tk, 1⟩).X.cN), .int .i64 ((ar S d name ⟨tk, 1⟩).X.cB), .int .i64 ((ar S d name ⟨tk, 1⟩).X.cH), .int .i64 ((ar S d name ⟨tk, 1⟩).X.cS), .int .i64 ((ar S d name ⟨tk, 1⟩).X.cZ), .map (some m), .pointer (some ⟨t, 0, none⟩), .int .i64 ((ar S d name ⟨tk, 1⟩).X.last), .int .i64 ((ar S d name ⟨tk, 1⟩).X.ai), .int .i64 ((ar S d name ⟨tk, 1⟩).X.used)] 89, .abs (aq (aS ((ar S d name ⟨tk, 1⟩).O) L)), .abs (aq (bw ((ar S d name ⟨tk, 1⟩).O) L)), .abs (aC Tryz.prog 3 m (aN (aJ L ((ar S d name ⟨tk, 1⟩).idx))) (((ar S d name ⟨tk, 1⟩).idx).length)), .abs (aZ 143 t S.X.cH S.au (aJ L S.us)), .abs (aq (aY ((ar S d name ⟨tk, 1⟩).O) L)), .abs R]) (fun w hS => by rw [show aY ((ar S d name ⟨tk, 1⟩).O) L = aY S.O L from kR]; exact hS) ?_
  refine gK 1 [(6, .int .i64 0)] [] ?_
  refine NN (af.ret ?_)
  exact RT (.int .i64 0) [0, 3, 4, 1, 5, 2, 6] (⟨L, by rw [show unlinkM S d name = (0, ar S d name ⟨tk, 1⟩) by unfold unlinkM; rw [hlk]; exact if_neg (by simp)] <;> exact ⟨rfl, rfl⟩⟩)
 ·
  have hkt : (obj S.O tk).kind = 2 := hI.kind hlv
  refine af.region ?_
  refine gK 1 [] [] ?_
  refine NN (af.seq (SR ?_))
  refine gK 5 [(10, .map (some (L.m d))), (11, .string name)] [(3, v_ 3 (bE L hkd))] ?_
  refine gF 5 hkd hlk ?_
  refine NN (af.block (SR ?_))
  refine gK 1 [(13, .bool false)] [] ?_
  refine NN ?_
  refine CF ?_
  refine SR ?_
  refine gK 3 [(15, .bool true)] [] ?_
  refine NN ?_
  refine CT ?_
  refine SR ?_
  refine gK 1 [(6, .int .i64 172)] [] ?_
  refine NN (af.ret (aj.aO (aj.av ?_)))
  exact RT (.int .i64 172) [0, 1, 2, 3, 4, 5, 6] (⟨L, by rw [show unlinkM S d name = (172, S) by unfold unlinkM; rw [hlk]; exact if_pos rfl] <;> exact ⟨rfl, rfl⟩⟩)
 ·
  have hkt : (obj S.O tk).kind = 3 := hI.kind hlv
  refine af.region ?_
  refine gK 1 [] [] ?_
  refine NN (af.seq (SR ?_))
  refine gK 5 [(10, .map (some (L.m d))), (11, .string name)] [(3, v_ 3 (bE L hkd))] ?_
  refine gF 5 hkd hlk ?_
  refine NN (af.block (SR ?_))
  refine gK 1 [(13, .bool false)] [] ?_
  refine NN ?_
  refine CF ?_
  refine SR ?_
  refine gK 3 [(15, .bool false)] [] ?_
  refine NN ?_
  refine CF ?_
  refine af.skip (aj.aW (NX (SR ?_)))
  refine gK 3 [(17, .pointer (some ⟨f, 0, none⟩)), (18, .pointer (some ⟨(L.b d), 0, none⟩)), (19, .string name)] [] ?_
  refine gL [0, 3, 5, 1] (kQ S L f m t hI d hd name hsz ⟨tk, 3⟩ hlk) ?_
  rintro _ _ ⟨rfl, rfl⟩
  refine NS ?_
  refine ah.mem (aK := [.blk f [.int .i64 ((ar S d name ⟨tk, 3⟩).X.cN), .int .i64 ((ar S d name ⟨tk, 3⟩).X.cB), .int .i64 ((ar S d name ⟨tk, 3⟩).X.cH), .int .i64 ((ar S d name ⟨tk, 3⟩).X.cS), .int .i64 ((ar S d name ⟨tk, 3⟩).X.cZ), .map (some m), .pointer (some ⟨t, 0, none⟩), .int .i64 ((ar S d name ⟨tk, 3⟩).X.last), .int .i64 ((ar S d name ⟨tk, 3⟩).X.ai), .int .i64 ((ar S d name ⟨tk, 3⟩).X.used)] 89, .abs (aq (aS ((ar S d name ⟨tk, 3⟩).O) L)), .abs (aq (bw ((ar S d name ⟨tk, 3⟩).O) L)), .abs (aC Tryz.prog 3 m (aN (aJ L ((ar S d name ⟨tk, 3⟩).idx))) (((ar S d name ⟨tk, 3⟩).idx).length)), .abs (aZ 143 t S.X.cH S.au (aJ L S.us)), .abs (aq (aY ((ar S d name ⟨tk, 3⟩).O) L)), .abs R]) (fun w hS => by rw [show aY ((ar S d name ⟨tk, 3⟩).O) L = aY S.O L from kR]; exact hS) ?_
  refine gK 1 [(6, .int .i64 0)] [] ?_
  refine NN (af.ret ?_)
  exact RT (.int .i64 0) [0, 3, 4, 1, 5, 2, 6] (⟨L, by rw [show unlinkM S d name = (0, ar S d name ⟨tk, 3⟩) by unfold unlinkM; rw [hlk]; exact if_neg (by simp)] <;> exact ⟨rfl, rfl⟩⟩)
set_option maxRecDepth 100000 in
set_option maxHeartbeats 4000000 in
theorem D9 {β : Bs} (S : aH) (L : HL) (f m t : Nat) (hI : Inv S) (d : Nat) (hd : Live S.idx ⟨d, 2⟩) (name : ByteArray) (hsz : name.size ≤ 1048576) :
    Spec Tryz.prog β 125 #[.pointer (some ⟨f, 0, none⟩), .pointer (some ⟨(L.b d), 0, none⟩), .string name] (pA f m t L S) (fun v l => ∃ L2, v = .int .i64 (rmdirM S d name).1 ∧ l = (pA f m t L2 ((rmdirM S d name).2))) := by
 have hX := hI.hX
 have hel : (obj S.O d).ai.length ≤ 8192 := hI.eG hd
 have hkd : (obj S.O d).kind = 2 := hI.kind hd
 refine Spec.enter Tryz.func125 rfl Tryz.ntmps125 (Nat.le_of_ble_eq_true rfl) (fun R => ?_)
 refine af.seq ?_
 rcases hI.kK hd name with hlk | ⟨tk, hlk, hlv⟩ | ⟨tk, hlk, hlv⟩ | ⟨tk, hlk, hlv⟩
 ·
  refine af.region ?_
  refine gK 1 [] [] ?_
  refine NS ?_
  refine gK 5 [(13, .map (some (L.m d))), (14, .string name)] [(3, v_ 3 (bE L hkd))] ?_
  refine gF 5 hkd hlk ?_
  refine gK 1 [(7, .nilIface)] [] ?_
  refine NN (af.seq (SR ?_))
  refine gK 2 [(17, .bool true)] [] ?_
  refine NN ?_
  refine CT ?_
  refine SR ?_
  refine gK 1 [(6, .int .i64 170)] [] ?_
  refine NN (af.ret (aj.av ?_))
  exact RT (.int .i64 170) [0, 1, 2, 3, 4, 5, 6] (⟨L, by skip; rw [show rmdirM S d name = (170, S) by unfold rmdirM; rw [hlk]] <;> exact ⟨rfl, rfl⟩⟩)
 ·
  have hkt : (obj S.O tk).kind = 1 := hI.kind hlv
  refine af.region ?_
  refine gK 1 [] [] ?_
  refine NS ?_
  refine gK 5 [(13, .map (some (L.m d))), (14, .string name)] [(3, v_ 3 (bE L hkd))] ?_
  refine gF 5 hkd hlk ?_
  refine gK 1 [(7, .iface 92 (.pointer (some ⟨(L.b tk), 0, none⟩)))] [] ?_
  refine NN (af.seq (SR ?_))
  refine gK 2 [(17, .bool false)] [] ?_
  refine NN ?_
  refine CF ?_
  refine af.skip (NX (SR ?_))
  refine gK 7 [(8, .pointer none), (9, .bool false)] [] ?_
  refine NN (af.seq (SR ?_))
  refine gK 2 [(24, .bool true)] [] ?_
  refine NN ?_
  refine CT ?_
  refine SR ?_
  refine gK 1 [(6, .int .i64 173)] [] ?_
  refine NN (af.ret (aj.av ?_))
  exact RT (.int .i64 173) [0, 1, 2, 3, 4, 5, 6] (⟨L, by skip; rw [show rmdirM S d name = (173, S) by unfold rmdirM; rw [hlk]; exact if_neg (by simp)] <;> exact ⟨rfl, rfl⟩⟩)
 ·
  have hkt : (obj S.O tk).kind = 2 := hI.kind hlv
  have NA : (obj S.O tk).ai.length ≤ 8192 := hI.eG hlv
  refine af.region ?_
  refine gK 1 [] [] ?_
  refine NS ?_
  refine gK 5 [(13, .map (some (L.m d))), (14, .string name)] [(3, v_ 3 (bE L hkd))] ?_
  refine gF 5 hkd hlk ?_
  refine gK 1 [(7, .iface 98 (.pointer (some ⟨(L.b tk), 0, none⟩)))] [] ?_
  refine NN (af.seq (SR ?_))
  refine gK 2 [(17, .bool false)] [] ?_
  refine NN ?_
  refine CF ?_
  refine af.skip (NX (SR ?_))
  refine gK 7 [(8, .pointer (some ⟨(L.b tk), 0, none⟩)), (9, .bool true)] [] ?_
  refine NN (af.seq (SR ?_))
  refine gK 2 [(24, .bool false)] [] ?_
  refine NN ?_
  refine CF ?_
  refine af.skip (NX (af.seq (SR ?_)))
  refine gK 4 [(28, .map (some (L.m tk)))] [(3, v_ 3 (bE L hkt))] ?_
  refine ME 5 hkt ?_
  refine gK 1 [(30, .bool (decide (((((obj S.O tk).ai.length : Nat) : Int) : Int) > (0 : Int))))] [] ?_
  refine NN ?_
  refine af.bH (p := ((((obj S.O tk).ai.length : Nat) : Int) : Int) > (0 : Int)) (fun _ => by kernel_rfl) (fun jR => ?_) (fun jR => ?_)
  ·
   refine SR ?_
   refine gK 1 [(6, .int .i64 178)] [] ?_
   refine NN (af.ret (aj.av ?_))
   exact RT (.int .i64 178) [0, 1, 2, 3, 4, 5, 6] (⟨L, by skip; rw [show rmdirM S d name = (178, S) by unfold rmdirM; rw [hlk]; exact (if_pos rfl).trans (if_neg (fun e => by rw [show (obj S.O tk).ai = [] from e] at jR; simp at jR))] <;> exact ⟨rfl, rfl⟩⟩)
  ·
   refine af.skip (NX (SR ?_))
   refine gK 3 [(31, .pointer (some ⟨f, 0, none⟩)), (32, .pointer (some ⟨(L.b d), 0, none⟩)), (33, .string name)] [] ?_
   refine gL [0, 3, 5, 1] (kQ S L f m t hI d hd name hsz ⟨tk, 2⟩ hlk) ?_
   rintro _ _ ⟨rfl, rfl⟩
   refine NS ?_
   refine ah.mem (aK := [.blk f [.int .i64 ((ar S d name ⟨tk, 2⟩).X.cN), .int .i64 ((ar S d name ⟨tk, 2⟩).X.cB), .int .i64 ((ar S d name ⟨tk, 2⟩).X.cH), .int .i64 ((ar S d name ⟨tk, 2⟩).X.cS), .int .i64 ((ar S d name ⟨tk, 2⟩).X.cZ), .map (some m), .pointer (some ⟨t, 0, none⟩), .int .i64 ((ar S d name ⟨tk, 2⟩).X.last), .int .i64 ((ar S d name ⟨tk, 2⟩).X.ai), .int .i64 ((ar S d name ⟨tk, 2⟩).X.used)] 89, .abs (aq (aS ((ar S d name ⟨tk, 2⟩).O) L)), .abs (aq (bw ((ar S d name ⟨tk, 2⟩).O) L)), .abs (aC Tryz.prog 3 m (aN (aJ L ((ar S d name ⟨tk, 2⟩).idx))) (((ar S d name ⟨tk, 2⟩).idx).length)), .abs (aZ 143 t S.X.cH S.au (aJ L S.us)), .abs (aq (aY ((ar S d name ⟨tk, 2⟩).O) L)), .abs R]) (fun w hS => by rw [show aY ((ar S d name ⟨tk, 2⟩).O) L = aY S.O L from kR]; exact hS) ?_
   have sF : (obj (ar S d name ⟨tk, 2⟩).O d).kind = 2 := (wj).trans (hkd)
   have sG : (obj (ar S d name ⟨tk, 2⟩).O tk).kind = 2 := (wj).trans (hkt)
   generalize bK : (ar S d name ⟨tk, 2⟩).O = bF at sF sG ⊢
   refine gK 3 [(37, .pointer (some ⟨(L.b tk), 10, none⟩))] [] ?_
   refine Le 1 [(2, 1), (5, 2)] tk (none) sG (fun cU cq => ?_)
   have Fa := ku cq sF
   have Ck := ku cq sG
   refine NS ?_
   refine gK 1 [(6, .int .i64 0)] [] ?_
   refine NN (af.ret ?_)
   exact RT (l := [pF f m t ((ar S d name ⟨tk, 2⟩).X), pI m L ((ar S d name ⟨tk, 2⟩).idx), pT t S.X.cH S.au L S.us, pO cU L, pD cU L, pE cU L]) (.int .i64 0) [0, 3, 4, 1, 5, 2, 6] (⟨L, by subst cq; subst bK; rw [show rmdirM S d name = (0, { ar S d name ⟨tk, 2⟩ with O := orphan (ar S d name ⟨tk, 2⟩).O tk }) by unfold rmdirM; rw [hlk]; exact (if_pos rfl).trans (if_pos (List.eq_nil_of_length_eq_zero (by show (obj S.O tk).ai.length = 0; omega)))] <;> exact ⟨rfl, rfl⟩⟩)
 ·
  have hkt : (obj S.O tk).kind = 3 := hI.kind hlv
  refine af.region ?_
  refine gK 1 [] [] ?_
  refine NS ?_
  refine gK 5 [(13, .map (some (L.m d))), (14, .string name)] [(3, v_ 3 (bE L hkd))] ?_
  refine gF 5 hkd hlk ?_
  refine gK 1 [(7, .iface 95 (.pointer (some ⟨(L.b tk), 0, none⟩)))] [] ?_
  refine NN (af.seq (SR ?_))
  refine gK 2 [(17, .bool false)] [] ?_
  refine NN ?_
  refine CF ?_
  refine af.skip (NX (SR ?_))
  refine gK 7 [(8, .pointer none), (9, .bool false)] [] ?_
  refine NN (af.seq (SR ?_))
  refine gK 2 [(24, .bool true)] [] ?_
  refine NN ?_
  refine CT ?_
  refine SR ?_
  refine gK 1 [(6, .int .i64 173)] [] ?_
  refine NN (af.ret (aj.av ?_))
  exact RT (.int .i64 173) [0, 1, 2, 3, 4, 5, 6] (⟨L, by skip; rw [show rmdirM S d name = (173, S) by unfold rmdirM; rw [hlk]; exact if_neg (by simp)] <;> exact ⟨rfl, rfl⟩⟩)
end Go.Proofs.YtkiedlmhocglhaaGreat
end
section
namespace Go.Proofs.YtkiedlmhocglhaaGreat
open Go.RowKit Go.Maps HeapM TabM
section inv
variable {S : aH} {d : Nat} {name : ByteArray} {t : Th} {O' : bM}
theorem gI.del {es : dD Th} (h : gI es) : gI (dW name es) := List.Pairwise.filter _ h
theorem oU {x y : ByteArray} : ¬ ig x y ↔ kL y x < 0 := by
  unfold ig
  rw [zh, Lib.toList_data, Lib.toList_data]
  have h1 := @yg x.data.toList y.data.toList
  have h2 := @yq x y
  have h3 := si x y
  unfold kL at h2 h3 ⊢
  rw [Bool.or_eq_true, decide_eq_true_iff, ← h1, ← h2]
  omega
theorem gI.ins {es : dD Th} (h : gI es) (hn : aT name es = none) : gI (dN name t es) := by
  induction es with
  | nil => exact List.pairwise_singleton ..
  | cons e r ih =>
    obtain ⟨h1, h2⟩ := List.pairwise_cons.1 h
    have hall := lG.1 hn
    unfold dN
    split
    · rename_i hlt
      refine List.pairwise_cons.2 ⟨fun x hx => ?_, h⟩
      rcases List.mem_cons.1 hx with rfl | hx
      · exact hlt
      · have h3 := h1 x hx
        exact oU.2 (vO (oU.1 hlt) (Int.le_of_lt (oU.1 h3)))
    · rename_i hle
      refine List.pairwise_cons.2 ⟨fun x hx => ?_, ih h2 (lG.2 (fun x hx => hall x (List.mem_cons_of_mem _ hx)))⟩
      rcases qV.1 hx with rfl | hx
      · have hne : ¬ e.1 = name := hall e (List.mem_cons_self ..)
        refine oU.2 ?_
        have h4 : ¬ kL name e.1 < 0 := fun hc => hle (oU.2 hc)
        have h5 := si e.1 name
        have h6 : ¬ kL e.1 name = 0 := fun hc => hne (yq.1 hc)
        show kL e.1 name < 0
        omega
      · exact h1 x hx
theorem Inv0.cut (hI : Inv0 S) (hd : Live S.idx ⟨d, 2⟩) (hl : aT name (obj S.O d).ai = some t) {g : Bool}
    (hO : ∀ k, obj O' k = if k = d then { obj S.O d with ai := dW name (obj S.O d).ai, sec := S.X.cS, nano := S.X.cZ } else if k = t.k then { obj S.O k with links := (obj S.O k).links - 1, gone := g, up := none } else obj S.O k)
    (hg : g = (obj S.O t.k).gone ∨ (obj S.O t.k).links - 1 = 0 ∧ (t.kind = 2 → (obj S.O t.k).ai = [])) : Inv0 { S with X := { S.X with ai := S.X.ai - 1 }, O := O' } := by
  have hne := hI.ne hd hl
  have ht := (hI.ent hd hl).2
  have oD : obj O' d = { obj S.O d with ai := dW name (obj S.O d).ai, sec := S.X.cS, nano := S.X.cZ } := by rw [hO, if_pos rfl]
  have oT : obj O' t.k = { obj S.O t.k with links := (obj S.O t.k).links - 1, gone := g, up := none } := by rw [hO, if_neg hne, if_pos rfl]
  have oX : ∀ x, x ≠ d → x ≠ t.k → obj O' x = obj S.O x := fun x h1 h2 => by rw [hO, if_neg h1, if_neg h2]
  have uy : ∀ {α : Type} (G : aM → α), (∀ o es a b, G { o with ai := es, sec := a, nano := b } = G o) → (∀ o l g, G { o with links := l, gone := g, up := none } = G o) → ∀ x, G (obj O' x) = G (obj S.O x) := fun G h1 h2 x => by
    by_cases e : x = d
    · subst e; rw [oD]; exact h1 _ _ _ _
    · by_cases e2 : x = t.k
      · subst e2; rw [oT]; exact h2 _ _ _
      · rw [oX x e e2]
  have JA := uy aM.id (fun _ _ _ _ => rfl) (fun _ _ _ => rfl)
  have wo := uy aM.kind (fun _ _ _ _ => rfl) (fun _ _ _ => rfl)
  have CC := uy aM.data (fun _ _ _ _ => rfl) (fun _ _ _ => rfl)
  have JB := uy aM.opens (fun _ _ _ _ => rfl) (fun _ _ _ => rfl)
  have fE : ∀ x, x ≠ d → (obj O' x).ai = (obj S.O x).ai := fun x hx => by
    by_cases e2 : x = t.k
    · subst e2; rw [oT]
    · rw [oX x hx e2]
  have uz : (obj O' d).ai = dW name (obj S.O d).ai := by rw [oD]
  have hlk : 0 < fH S.idx S.O t.k := j9 hd hl
  have hlt := hI.links t ht
  have hky : ∀ i u, TabM.get S.idx i = some u → i = (u.k : Int) := fun i u e => hI.key e
  have hsum : ∀ q : ByteArray × Th → Bool, _ := fun q => Fu (q := q) hI.rise hd hky fE uz (hI.twice hd) hl
  have CD : ∀ x, fH S.idx O' x + (if t.k = x then 1 else 0) = fH S.idx S.O x := fun x => by
    have h1 := hsum (fun e => decide (e.2.k = x))
    simp only [decide_eq_true_eq] at h1
    exact h1
  refine { hI with ob := fun x hx => ?_, mt := fun x hx => ?_, ai := fun x hx e he => ?_, sorted := fun x hx => ?_, dead := fun x hx => ?_, nX := fun x hx => (wo x).trans (hI.nX x hx), total := ?_, links := fun x hx => ?_, once := fun x hx hk => ?_, opens := fun x hx => ?_, gone := fun x hx fU => ?_, up := fun x hx e => ?_, deep := ?_, used := ?_ }
  · show (obj O' x.k).id = _ ∧ (obj O' x.k).kind = _ ∧ _
    rw [JA, wo]; exact hI.ob x hx
  · show iT (obj O' x.k)
    have hm := hI.mt x hx
    by_cases e : x.k = d
    · rw [e] at hm ⊢
      rw [oD]
      exact hm.of rfl rfl rfl hI.now rfl (.inl rfl) (.inr (hI.kind hd)) rfl
    · by_cases e2 : x.k = t.k
      · rw [e2] at hm ⊢
        rw [oT]
        exact hm.of rfl rfl rfl hm.time rfl (.inl rfl) (.inl rfl) rfl
      · rw [oX _ e e2]; exact hm
  · by_cases e1 : x.k = d
    · have he : e ∈ (obj O' x.k).ai := he
      rw [e1, uz] at he
      exact hI.ai _ hd e (Fs he).1
    · have he : e ∈ (obj O' x.k).ai := he
      rw [fE _ e1] at he
      exact hI.ai x hx e he
  · show gI (obj O' x.k).ai
    by_cases e1 : x.k = d
    · rw [e1, uz]; exact gI.del (hI.sorted _ hd)
    · rw [fE _ e1]; exact hI.sorted x hx
  · show (obj O' x).ai = [] ∧ (obj O' x).up = none
    rw [oX x (fun e => hx _ hd e.symm) (fun e => hx t ht e.symm)]
    exact hI.dead x hx
  · have h1 := hsum (fun _ => true)
    have h2 := hI.total
    rw [jQ] at h2
    show S.X.ai - 1 = (tot S.idx O' : Int) ∧ S.X.ai - 1 ≤ 8192
    rw [jQ]
    simp only [if_true] at h1
    omega
  · show (obj O' x.k).links = (fH S.idx O' x.k : Int)
    have h1 := CD x.k
    have h2 := hI.links x hx
    by_cases e2 : x.k = t.k
    · rw [if_pos e2.symm] at h1
      rw [e2, oT]
      rw [e2] at h1
      show (obj S.O t.k).links - 1 = _
      omega
    · rw [if_neg (fun e => e2 e.symm)] at h1
      have : (obj O' x.k).links = (obj S.O x.k).links := by
        by_cases e : x.k = d
        · rw [e, oD]
        · rw [oX _ e e2]
      omega
  · show (obj O' x.k).links ≤ 1
    have h1 := hI.once x hx hk
    by_cases e2 : x.k = t.k
    · rw [e2] at h1 ⊢
      rw [oT]
      show (obj S.O t.k).links - 1 ≤ 1
      omega
    · by_cases e : x.k = d
      · rw [e] at h1 ⊢; rw [oD]; exact h1
      · rw [oX _ e e2]; exact h1
  · show (obj O' x.k).opens = _
    rw [JB]; exact hI.opens x hx
  · have fU : (obj O' x.k).gone = true := fU
    show (obj O' x.k).links = 0 ∧ (obj O' x.k).ai = []
    by_cases e2 : x.k = t.k
    · rw [e2] at fU ⊢
      rw [fE _ hne, oT]
      rw [oT] at fU
      show (obj S.O t.k).links - 1 = 0 ∧ _
      rcases hg with h | ⟨h1, h2⟩
      · have fU : g = true := fU
        rw [h] at fU
        have := (hI.gone t ht fU).1
        omega
      · refine ⟨h1, ?_⟩
        by_cases hk : t.kind = 2
        · exact h2 hk
        · exact (hI.mt t ht).ai (by rw [hI.kind ht]; exact hk)
    · by_cases e : x.k = d
      · rw [e, oD] at fU
        have := (hI.gone _ hd fU).2
        rw [Fw this] at hl; cases hl
      · rw [oX _ e e2] at fU ⊢; exact hI.gone x hx fU
  · show (obj O' x.k).up = some e ↔ x.kind = 2 ∧ Live S.idx ⟨e, 2⟩ ∧ ∃ n, aT n (obj O' e).ai = some x
    by_cases e2 : x.k = t.k
    · have Ea : x = t := eB hx ht e2
      subst Ea
      rw [oT]
      constructor
      · intro h; cases h
      · rintro ⟨hk, hle, n, hn⟩
        have h1 := hI.once x hx hk
        have h2 := CD x.k
        rw [if_pos rfl] at h2
        have h3 : 0 < fH S.idx O' x.k := j9 hle hn
        omega
    · have h1 : (obj O' x.k).up = (obj S.O x.k).up := by
        by_cases e : x.k = d
        · rw [e, oD]
        · rw [oX _ e e2]
      have h2 : ∀ n, aT n (obj O' e).ai = some x ↔ aT n (obj S.O e).ai = some x := fun n => by
        by_cases e3 : e = d
        · rw [e3, uz, mY]
          by_cases hnn : n = name
          · rw [if_pos hnn, hnn, hl]
            constructor
            · intro h; cases h
            · intro h; exact absurd (congrArg Th.k (Option.some.inj h)).symm e2
          · rw [if_neg hnn]
        · rw [fE _ e3]
      rw [h1, hI.up x hx e]
      simp only [h2]
  · obtain ⟨dp, hdp⟩ := hI.deep
    refine ⟨dp, fun x e hx => ?_⟩
    have hx : (obj O' x).up = some e := hx
    by_cases e2 : x = t.k
    · rw [e2, oT] at hx; cases hx
    · by_cases e3 : x = d
      · rw [e3, oD] at hx; rw [e3]; exact hdp _ _ hx
      · rw [oX _ e3 e2] at hx; exact hdp _ _ hx
  · have : bytes S.idx O' = bytes S.idx S.O := dX (fun p _ => by rw [CC])
    show S.X.used = (bytes S.idx O' : Int) ∧ _
    rw [this]; exact hI.used
theorem CG {O O1 : bM} {s k : Nat} (h : ∀ x e, (obj O1 x).up = some e → (obj O x).up = some e) (hb : gJ O1 s k) : gJ O s k := by
  induction hb with
  | here => exact .here
  | up hu _ ih => exact .up (h _ _ hu) ih
theorem yE {O : bM} {s k : Nat} : gJ O s k ↔ k = s ∨ ∃ e, (obj O k).up = some e ∧ gJ O s e := by
  constructor
  · rintro (_ | ⟨h1, h2⟩)
    · exact .inl rfl
    · exact .inr ⟨_, h1, h2⟩
  · rintro (h | ⟨e, h1, h2⟩)
    · subst h; exact .here
    · exact .up h1 h2
theorem Inv0.put (hI : Inv0 S) (hd : Live S.idx ⟨d, 2⟩) (iK : (obj S.O d).gone = false) (hn : aT name (obj S.O d).ai = none) (iL : cC name) (ht : Live S.idx t) (BA : (obj S.O t.k).gone = false) (FE : t.kind = 2 → (obj S.O t.k).links = 0 ∧ ¬ gJ S.O t.k d) (htd : t.k ≠ d) (hroom : S.X.ai < 8192) {ta tb : Int} (MK : cL ta tb)
    (hO : ∀ k, obj O' k = if k = d then { obj S.O d with ai := dN name t (obj S.O d).ai, sec := ta, nano := tb } else if k = t.k then { obj S.O k with links := (obj S.O k).links + 1, up := if t.kind = 2 then some d else (obj S.O k).up } else obj S.O k) :
    Inv0 { S with X := { S.X with ai := S.X.ai + 1 }, O := O' } := by
  have hne := htd
  have oD : obj O' d = { obj S.O d with ai := dN name t (obj S.O d).ai, sec := ta, nano := tb } := by rw [hO, if_pos rfl]
  have oT : obj O' t.k = { obj S.O t.k with links := (obj S.O t.k).links + 1, up := if t.kind = 2 then some d else (obj S.O t.k).up } := by rw [hO, if_neg hne, if_pos rfl]
  have oX : ∀ x, x ≠ d → x ≠ t.k → obj O' x = obj S.O x := fun x h1 h2 => by rw [hO, if_neg h1, if_neg h2]
  have uy : ∀ {α : Type} (G : aM → α), (∀ o es a b, G { o with ai := es, sec := a, nano := b } = G o) → (∀ o l u, G { o with links := l, up := u } = G o) → ∀ x, G (obj O' x) = G (obj S.O x) := fun G h1 h2 x => by
    by_cases e : x = d
    · subst e; rw [oD]; exact h1 _ _ _ _
    · by_cases e2 : x = t.k
      · subst e2; rw [oT]; exact h2 _ _ _
      · rw [oX x e e2]
  have JA := uy aM.id (fun _ _ _ _ => rfl) (fun _ _ _ => rfl)
  have wo := uy aM.kind (fun _ _ _ _ => rfl) (fun _ _ _ => rfl)
  have CC := uy aM.data (fun _ _ _ _ => rfl) (fun _ _ _ => rfl)
  have JB := uy aM.opens (fun _ _ _ _ => rfl) (fun _ _ _ => rfl)
  have fG := uy aM.gone (fun _ _ _ _ => rfl) (fun _ _ _ => rfl)
  have fE : ∀ x, x ≠ d → (obj O' x).ai = (obj S.O x).ai := fun x hx => by
    by_cases e2 : x = t.k
    · subst e2; rw [oT]
    · rw [oX x hx e2]
  have uz : (obj O' d).ai = dN name t (obj S.O d).ai := by rw [oD]
  have hky : ∀ i u, TabM.get S.idx i = some u → i = (u.k : Int) := fun i u e => hI.key e
  have hsum : ∀ q : ByteArray × Th → Bool, _ := fun q => Fv (q := q) hI.rise hd hky fE uz
  have CD : ∀ x, fH S.idx O' x = fH S.idx S.O x + (if t.k = x then 1 else 0) := fun x => by
    have h1 := hsum (fun e => decide (e.2.k = x))
    simp only [decide_eq_true_eq] at h1
    exact h1
  have hlt := hI.links t ht
  have JC : t.kind = 2 → ∀ e n, Live S.idx ⟨e, 2⟩ → aT n (obj S.O e).ai ≠ some t := fun hk e n hle h => by
    have h1 : 0 < fH S.idx S.O t.k := j9 hle h
    have := (FE hk).1
    omega
  refine { hI with ob := fun x hx => ?_, mt := fun x hx => ?_, ai := fun x hx e he => ?_, sorted := fun x hx => ?_, dead := fun x hx => ?_, nX := fun x hx => (wo x).trans (hI.nX x hx), total := ?_, links := fun x hx => ?_, once := fun x hx hk => ?_, opens := fun x hx => ?_, gone := fun x hx fU => ?_, up := fun x hx e => ?_, deep := ?_, used := ?_ }
  · show (obj O' x.k).id = _ ∧ (obj O' x.k).kind = _ ∧ _
    rw [JA, wo]; exact hI.ob x hx
  · show iT (obj O' x.k)
    have hm := hI.mt x hx
    by_cases e : x.k = d
    · rw [e] at hm ⊢
      rw [oD]
      exact hm.of rfl rfl rfl MK rfl (.inl rfl) (.inr (hI.kind hd)) rfl
    · by_cases e2 : x.k = t.k
      · rw [e2] at hm ⊢
        rw [oT]
        exact hm.of rfl rfl rfl hm.time rfl (.inl rfl) (.inl rfl) rfl
      · rw [oX _ e e2]; exact hm
  · have he : e ∈ (obj O' x.k).ai := he
    by_cases e1 : x.k = d
    · rw [e1, uz] at he
      rcases qV.1 he with rfl | he
      · exact ⟨iL, ht⟩
      · exact hI.ai _ hd e he
    · rw [fE _ e1] at he
      exact hI.ai x hx e he
  · show gI (obj O' x.k).ai
    by_cases e1 : x.k = d
    · rw [e1, uz]; exact gI.ins (hI.sorted _ hd) hn
    · rw [fE _ e1]; exact hI.sorted x hx
  · show (obj O' x).ai = [] ∧ (obj O' x).up = none
    rw [oX x (fun e => hx _ hd e.symm) (fun e => hx t ht e.symm)]
    exact hI.dead x hx
  · have h1 := hsum (fun _ => true)
    have h2 := hI.total
    rw [jQ] at h2
    show S.X.ai + 1 = (tot S.idx O' : Int) ∧ S.X.ai + 1 ≤ 8192
    rw [jQ]
    simp only [if_true] at h1
    omega
  · show (obj O' x.k).links = (fH S.idx O' x.k : Int)
    have h1 := CD x.k
    have h2 := hI.links x hx
    by_cases e2 : x.k = t.k
    · rw [if_pos e2.symm] at h1
      rw [e2, oT]
      rw [e2] at h1
      show (obj S.O t.k).links + 1 = _
      omega
    · rw [if_neg (fun e => e2 e.symm)] at h1
      have : (obj O' x.k).links = (obj S.O x.k).links := by
        by_cases e : x.k = d
        · rw [e, oD]
        · rw [oX _ e e2]
      omega
  · show (obj O' x.k).links ≤ 1
    have h1 := hI.once x hx hk
    by_cases e2 : x.k = t.k
    · have Ea : x = t := eB hx ht e2
      subst Ea
      have := (FE hk).1
      rw [oT]
      show (obj S.O x.k).links + 1 ≤ 1
      omega
    · by_cases e : x.k = d
      · rw [e] at h1 ⊢; rw [oD]; exact h1
      · rw [oX _ e e2]; exact h1
  · show (obj O' x.k).opens = _
    rw [JB]; exact hI.opens x hx
  · have fU : (obj O' x.k).gone = true := fU
    rw [fG] at fU
    show (obj O' x.k).links = 0 ∧ (obj O' x.k).ai = []
    by_cases e2 : x.k = t.k
    · rw [e2, BA] at fU; cases fU
    · by_cases e : x.k = d
      · rw [e, iK] at fU; cases fU
      · rw [oX _ e e2]; exact hI.gone x hx fU
  · show (obj O' x.k).up = some e ↔ x.kind = 2 ∧ Live S.idx ⟨e, 2⟩ ∧ ∃ n, aT n (obj O' e).ai = some x
    by_cases e2 : x.k = t.k
    · have Ea : x = t := eB hx ht e2
      subst Ea
      rw [oT]
      show (if x.kind = 2 then some d else (obj S.O x.k).up) = some e ↔ _
      by_cases hk : x.kind = 2
      · rw [if_pos hk]
        constructor
        · intro h
          cases h
          exact ⟨hk, hd, name, by rw [uz, r9 hn, if_pos rfl]⟩
        · rintro ⟨_, hle, n, h⟩
          by_cases e3 : e = d
          · rw [e3]
          · rw [fE _ e3] at h
            exact absurd h (JC hk e n hle)
      · rw [if_neg hk, hI.up x hx e]
        constructor
        · rintro ⟨h, _⟩; exact absurd h hk
        · rintro ⟨h, _⟩; exact absurd h hk
    · have h1 : (obj O' x.k).up = (obj S.O x.k).up := by
        by_cases e : x.k = d
        · rw [e, oD]
        · rw [oX _ e e2]
      have h2 : ∀ n, aT n (obj O' e).ai = some x ↔ aT n (obj S.O e).ai = some x := fun n => by
        by_cases e3 : e = d
        · rw [e3, uz, r9 hn]
          by_cases hnn : n = name
          · rw [if_pos hnn, hnn, hn]
            constructor
            · intro h; exact absurd (congrArg Th.k (Option.some.inj h)).symm e2
            · intro h; cases h
          · rw [if_neg hnn]
        · rw [fE _ e3]
      rw [h1, hI.up x hx e]
      simp only [h2]
  · obtain ⟨dp, hdp⟩ := hI.deep
    by_cases hk : t.kind = 2
    · obtain ⟨hl0, hnb⟩ := FE hk
      have NC : (obj S.O t.k).up = none := by
        cases hu : (obj S.O t.k).up with
        | none => rfl
        | some e =>
          obtain ⟨_, h2, n, h3⟩ := (hI.up t ht e).1 hu
          exact absurd h3 (JC hk e n h2)
      refine ⟨fun x => if gJ S.O t.k x then dp x + dp d + 1 else dp x, fun x e hx => ?_⟩
      have hx : (obj O' x).up = some e := hx
      by_cases e2 : x = t.k
      · rw [e2, oT] at hx
        have hx : (if t.kind = 2 then some d else (obj S.O t.k).up) = some e := hx
        rw [if_pos hk] at hx
        cases hx
        subst e2
        simp only [if_neg hnb, if_pos (gJ.here : gJ S.O t.k t.k)]
        omega
      · have hx : (obj S.O x).up = some e := by
          by_cases e3 : x = d
          · rw [e3, oD] at hx; rw [e3]; exact hx
          · rw [oX _ e3 e2] at hx; exact hx
        have h1 := hdp _ _ hx
        by_cases hb : gJ S.O t.k e
        · simp only [if_pos hb, if_pos (gJ.up hx hb)]; omega
        · have : ¬ gJ S.O t.k x := fun h => by
            rcases yE.1 h with h | ⟨e', h1, h2⟩
            · exact e2 h
            · rw [hx] at h1; cases h1; exact hb h2
          simp only [if_neg hb, if_neg this]; exact h1
    · refine ⟨dp, fun x e hx => ?_⟩
      have hx : (obj O' x).up = some e := hx
      by_cases e2 : x = t.k
      · rw [e2, oT] at hx
        have hx : (if t.kind = 2 then some d else (obj S.O t.k).up) = some e := hx
        rw [if_neg hk] at hx
        rw [e2]; exact hdp _ _ hx
      · by_cases e3 : x = d
        · rw [e3, oD] at hx; rw [e3]; exact hdp _ _ hx
        · rw [oX _ e3 e2] at hx; exact hdp _ _ hx
  · have : bytes S.idx O' = bytes S.idx S.O := dX (fun p _ => by rw [CC])
    show S.X.used = (bytes S.idx O' : Int) ∧ _
    rw [this]; exact hI.used
end inv
end Go.Proofs.YtkiedlmhocglhaaGreat
end
section
namespace Go.Proofs.YtkiedlmhocglhaaGreat
open Go.RowKit Go.Maps HeapM TabM
section new
variable {S : aH} {d : Nat} {name : ByteArray} {t : Th} {o : aM} {us' : Used Th} {dY : Int}
theorem Inv0.newAt (hI : Inv0 S) {k0 : Nat} (hlt : S.X.last < (k0 : Int)) (hle : (k0 : Int) ≤ 1099511627776) {iQ : Int} (Np : iQ = S.X.used + o.data.length ∧ iQ ≤ 140737488355328) (hid : o.id = (k0 : Int)) (hk3 : o.kind = 1 ∨ o.kind = 2 ∨ o.kind = 3) (hl0 : o.links = 0) (he0 : o.ai = []) (hu0 : o.up = none) (hg0 : o.gone = false) (hm : iT o) (hlen : S.idx.length < 4096)
    (u1 : TabM.bW (keys us')) (u2 : ∀ x ∈ keys us', 1 ≤ x ∧ x ≤ dY) (u3 : (us'.length : Int) ≤ S.X.cH) (u4 : 0 ≤ dY ∧ dY ≤ S.X.cH) (u5 : ∀ h t, TabM.get us' h = some t → (Live S.idx t ∨ t = ⟨k0, o.kind⟩) ∧ t.kind ≠ 3) (u6 : ∀ k, k ≠ k0 → hnd us' k = hnd S.us k) (u7 : o.opens = (hnd us' (k0) : Int)) :
    Inv0 { S with X := { S.X with last := (k0 : Int), used := iQ }, O := aB S.O (k0) (fun _ => o), idx := ins ((k0 : Int)) ⟨k0, o.kind⟩ S.idx, us := us', au := dY } := by
  have hnot : TabM.get S.idx ((k0 : Int)) = none := by
    cases e : TabM.get S.idx ((k0 : Int)) with
    | none => rfl
    | some u => have := (hI.idx _ u e).2.2; omega
  have hget : ∀ i, TabM.get (ins ((k0 : Int)) ⟨k0, o.kind⟩ S.idx) i = if i = (k0 : Int) then some ⟨k0, o.kind⟩ else TabM.get S.idx i := fun i => qF (get_none.1 hnot) i
  have dG : ∀ x, Live (ins ((k0 : Int)) ⟨k0, o.kind⟩ S.idx) x ↔ x = ⟨k0, o.kind⟩ ∨ Live S.idx x := fun x => by
    unfold Live
    rw [hget]
    constructor
    · intro h
      split at h
      · exact .inl (Option.some.inj h).symm
      · exact .inr h
    · rintro (h | h)
      · subst h; rw [if_pos rfl]
      · rw [if_neg (by intro e; rw [e, hnot] at h; cases h)]; exact h
  have oN : obj (aB S.O (k0) (fun _ => o)) (k0) = o := bA
  have oX : ∀ x, Live S.idx x → obj (aB S.O (k0) (fun _ => o)) x.k = obj S.O x.k := fun x hx => bP (hI.free hlt hx)
  have hfr := hI.xA hlt
  have hmem : ∀ p ∈ S.idx, obj (aB S.O (k0) (fun _ => o)) p.2.k = obj S.O p.2.k := fun p hp => bP (hfr.idx p hp)
  have hsum : ∀ g : aM → Nat, g o = 0 → cG (fun p : Int × Th => g (obj (aB S.O (k0) (fun _ => o)) p.2.k)) (ins ((k0 : Int)) ⟨k0, o.kind⟩ S.idx) = cG (fun p : Int × Th => g (obj S.O p.2.k)) S.idx := fun g hg => by
    rw [vg]
    show g (obj _ (k0)) + _ = _
    rw [oN, hg, Nat.zero_add]
    exact dX (fun p hp => by rw [hmem p hp])
  refine { hI with last := ?_, rise := ?_, len := ?_, idx := fun i x e => ?_, ob := fun x hx => ?_, mt := fun x hx => ?_, ai := fun x hx e he => ?_, sorted := fun x hx => ?_, dead := fun x hx => ?_, nX := fun x hx => ?_, total := ?_, links := fun x hx => ?_, once := fun x hx hk => ?_, opens := fun x hx => ?_, usr := u1, sP := u2, yC := u3, au := u4, us := fun h x e => ?_, gone := fun x hx fU => ?_, up := fun x hx e => ?_, deep := ?_, used := ?_ }
  · have := hI.last
    show 0 ≤ (k0 : Int) ∧ (k0 : Int) ≤ 1099511627776
    omega
  · exact q6 hI.rise (get_none.1 hnot)
  · have := hI.cN
    show (ins ((k0 : Int)) _ S.idx).length ≤ 4096
    rw [fJ]; omega
  · have e : TabM.get (ins ((k0 : Int)) ⟨k0, o.kind⟩ S.idx) i = some x := e
    rw [hget] at e
    have := hI.last
    show i = (x.k : Int) ∧ 0 < i ∧ i ≤ (k0 : Int)
    split at e
    · cases e
      rename_i e2
      refine ⟨by rw [e2], by omega, by omega⟩
    · have := hI.idx i x e
      omega
  · show (obj (aB S.O (k0) (fun _ => o)) x.k).id = _ ∧ (obj (aB S.O (k0) (fun _ => o)) x.k).kind = _ ∧ _
    rcases (dG x).1 hx with h | h
    · subst h; rw [oN]; exact ⟨hid, rfl, hk3⟩
    · rw [oX x h]; exact hI.ob x h
  · show iT (obj (aB S.O (k0) (fun _ => o)) x.k)
    rcases (dG x).1 hx with h | h
    · subst h; rw [oN]; exact hm
    · rw [oX x h]; exact hI.mt x h
  · have he : e ∈ (obj (aB S.O (k0) (fun _ => o)) x.k).ai := he
    rcases (dG x).1 hx with h | h
    · subst h; rw [oN, he0] at he; cases he
    · rw [oX x h] at he
      have h1 := hI.ai x h e he
      exact ⟨h1.1, (dG _).2 (.inr h1.2)⟩
  · show gI (obj (aB S.O (k0) (fun _ => o)) x.k).ai
    rcases (dG x).1 hx with h | h
    · subst h; rw [oN, he0]; exact List.Pairwise.nil
    · rw [oX x h]; exact hI.sorted x h
  · show (obj (aB S.O (k0) (fun _ => o)) x).ai = [] ∧ (obj (aB S.O (k0) (fun _ => o)) x).up = none
    have h1 : x ≠ k0 := fun e => hx ⟨k0, o.kind⟩ ((dG _).2 (.inl rfl)) e.symm
    rw [bP h1]
    exact hI.dead x (fun u hu => hx u ((dG _).2 (.inr hu)))
  · have hx : (k0 : Int) < (x : Int) := hx
    show (obj (aB S.O (k0) (fun _ => o)) x).kind = 0
    rw [bP (fun e => by rw [e] at hx; omega)]
    exact hI.nX x (by omega)
  · show S.X.ai = (tot _ _ : Int) ∧ S.X.ai ≤ 8192
    have : tot (ins ((k0 : Int)) ⟨k0, o.kind⟩ S.idx) (aB S.O (k0) (fun _ => o)) = tot S.idx S.O := hsum (fun o => o.ai.length) (by rw [he0]; rfl)
    rw [this]; exact hI.total
  · show (obj (aB S.O (k0) (fun _ => o)) x.k).links = (fH _ _ x.k : Int)
    have : fH (ins ((k0 : Int)) ⟨k0, o.kind⟩ S.idx) (aB S.O (k0) (fun _ => o)) x.k = fH S.idx S.O x.k := hsum (fun o => o.ai.countP (fun e : ByteArray × Th => decide (e.2.k = x.k))) (by rw [he0]; rfl)
    rw [this]
    rcases (dG x).1 hx with h | h
    · subst h
      rw [oN, hl0]
      have : fH S.idx S.O (k0) = 0 := by
        apply Classical.byContradiction
        intro hne
        obtain ⟨i, u, hu, e, he, hek⟩ := wi hI.rise (Nat.pos_of_ne_zero hne)
        exact hfr.ai u.k e he hek
      rw [this]; rfl
    · rw [oX x h]; exact hI.links x h
  · show (obj (aB S.O (k0) (fun _ => o)) x.k).links ≤ 1
    rcases (dG x).1 hx with h | h
    · subst h; rw [oN, hl0]; decide
    · rw [oX x h]; exact hI.once x h hk
  · show (obj (aB S.O (k0) (fun _ => o)) x.k).opens = (hnd us' x.k : Int)
    rcases (dG x).1 hx with h | h
    · subst h; rw [oN]; exact u7
    · rw [oX x h, u6 _ (hI.free hlt h)]; exact hI.opens x h
  · obtain ⟨h1, h2⟩ := u5 h x e
    exact ⟨(dG x).2 h1.symm, h2⟩
  · have fU : (obj (aB S.O (k0) (fun _ => o)) x.k).gone = true := fU
    show (obj (aB S.O (k0) (fun _ => o)) x.k).links = 0 ∧ (obj (aB S.O (k0) (fun _ => o)) x.k).ai = []
    rcases (dG x).1 hx with h | h
    · subst h; rw [oN, hg0] at fU; cases fU
    · rw [oX x h] at fU ⊢; exact hI.gone x h fU
  · show (obj (aB S.O (k0) (fun _ => o)) x.k).up = some e ↔ x.kind = 2 ∧ Live _ ⟨e, 2⟩ ∧ ∃ n, aT n (obj (aB S.O (k0) (fun _ => o)) e).ai = some x
    rcases (dG x).1 hx with h | h
    · subst h
      rw [oN, hu0]
      constructor
      · intro h; cases h
      · rintro ⟨_, hle, n, h⟩
        by_cases e2 : e = k0
        · rw [e2, oN, he0] at h; cases h
        · rw [bP e2] at h; exact absurd rfl (hfr.ai e _ (jK h))
    · rw [oX x h, hI.up x h e]
      constructor
      · rintro ⟨h1, h2, n, h3⟩
        exact ⟨h1, (dG _).2 (.inr h2), n, by rw [oX ⟨e, 2⟩ h2]; exact h3⟩
      · rintro ⟨h1, h2, n, h3⟩
        by_cases e2 : e = k0
        · rw [e2, oN, he0] at h3; cases h3
        · rw [bP e2] at h3
          refine ⟨h1, ?_, n, h3⟩
          rcases (dG _).1 h2 with h4 | h4
          · exact absurd (congrArg Th.k h4) e2
          · exact h4
  · obtain ⟨dp, hdp⟩ := hI.deep
    refine ⟨dp, fun x e hx => ?_⟩
    have hx : (obj (aB S.O (k0) (fun _ => o)) x).up = some e := hx
    by_cases e2 : x = k0
    · rw [e2, oN, hu0] at hx; cases hx
    · rw [bP e2] at hx; exact hdp _ _ hx
  · show iQ = (bytes _ _ : Int) ∧ _
    have h1 : bytes (ins (k0 : Int) ⟨k0, o.kind⟩ S.idx) (aB S.O k0 (fun _ => o)) = o.data.length + bytes S.idx S.O := by
      unfold bytes
      rw [vg]
      show (obj _ k0).data.length + _ = _
      rw [oN]
      congr 1
      exact dX (fun p hp => by rw [hmem p hp])
    have h2 := hI.used
    rw [h1]
    show iQ = _ ∧ iQ ≤ 140737488355328
    omega
theorem Inv0.new (hI : Inv0 S) (hid : o.id = S.X.last + 1) (hk3 : o.kind = 1 ∨ o.kind = 2 ∨ o.kind = 3) (hl0 : o.links = 0) (he0 : o.ai = []) (hu0 : o.up = none) (hg0 : o.gone = false) (JD : o.data = []) (hm : iT o) (hlast : S.X.last < 1099511627776) (hlen : (S.idx.length : Int) < S.X.cN)
    (u1 : TabM.bW (keys us')) (u2 : ∀ x ∈ keys us', 1 ≤ x ∧ x ≤ dY) (u3 : (us'.length : Int) ≤ S.X.cH) (u4 : 0 ≤ dY ∧ dY ≤ S.X.cH) (u5 : ∀ h t, TabM.get us' h = some t → (Live S.idx t ∨ t = ⟨aE S.X, o.kind⟩) ∧ t.kind ≠ 3) (u6 : ∀ k, k ≠ aE S.X → hnd us' k = hnd S.us k) (u7 : o.opens = (hnd us' (aE S.X) : Int)) :
    Inv0 { S with X := { S.X with last := S.X.last + 1 }, O := aB S.O (aE S.X) (fun _ => o), idx := ins (S.X.last + 1) ⟨aE S.X, o.kind⟩ S.idx, us := us', au := dY } := by
  have hnk := oq hI
  have h := hI.newAt (k0 := aE S.X) (iQ := S.X.used) (by omega) (by omega) ⟨by rw [JD]; simp, hI.used.2⟩ (hid.trans hnk.symm) hk3 hl0 he0 hu0 hg0 hm (by have := hI.cN; omega) u1 u2 u3 u4 u5 u6 u7
  rw [hnk] at h
  exact h
theorem Inv.add (hI : Inv S) (hd : Live S.idx ⟨d, 2⟩) (iK : (obj S.O d).gone = false) (hn : aT name (obj S.O d).ai = none) (iL : cC name) (hroom : Room S.X S.idx)
    (hid : o.id = S.X.last + 1) (hk3 : o.kind = 1 ∨ o.kind = 2 ∨ o.kind = 3) (hl0 : o.links = 0) (he0 : o.ai = []) (hu0 : o.up = none) (hg0 : o.gone = false) (JD : o.data = []) (hm : iT o)
    (u1 : TabM.bW (keys us')) (u2 : ∀ x ∈ keys us', 1 ≤ x ∧ x ≤ dY) (u3 : (us'.length : Int) ≤ S.X.cH) (u4 : 0 ≤ dY ∧ dY ≤ S.X.cH) (u5 : ∀ h t, TabM.get us' h = some t → (Live S.idx t ∨ t = ⟨aE S.X, o.kind⟩) ∧ t.kind ≠ 3) (u6 : ∀ k, k ≠ aE S.X → hnd us' k = hnd S.us k) (u7 : o.opens = (hnd us' (aE S.X) : Int)) :
    Inv (ct { S with us := us', au := dY } d name o) := by
  have h1 := hI.toInv0.new hid hk3 hl0 he0 hu0 hg0 JD hm hroom.2.1 hroom.1 u1 u2 u3 u4 u5 u6 u7
  have hne : d ≠ aE S.X := hI.sW hd
  have hnk := oq hI.toInv0
  have hnot : TabM.get S.idx (S.X.last + 1) = none := by
    cases e : TabM.get S.idx (S.X.last + 1) with
    | none => rfl
    | some u => have := (hI.idx _ u e).2.2; omega
  have hget : ∀ i, TabM.get (ins (S.X.last + 1) ⟨aE S.X, o.kind⟩ S.idx) i = if i = S.X.last + 1 then some ⟨aE S.X, o.kind⟩ else TabM.get S.idx i := fun i => qF (get_none.1 hnot) i
  have hdl : Live (ins (S.X.last + 1) ⟨aE S.X, o.kind⟩ S.idx) ⟨d, 2⟩ := by
    unfold Live
    rw [hget, if_neg (by intro e; have : TabM.get S.idx ((d : Nat) : Int) = some ⟨d, 2⟩ := hd; rw [show ((⟨d, 2⟩ : Th).k : Int) = (d : Int) from rfl] at e; rw [e, hnot] at this; cases this)]
    exact hd
  have hnl : Live (ins (S.X.last + 1) ⟨aE S.X, o.kind⟩ S.idx) ⟨aE S.X, o.kind⟩ := by
    unfold Live
    rw [hget, if_pos hnk]
  have oN : obj (aB S.O (aE S.X) (fun _ => o)) (aE S.X) = o := bA
  have oD : obj (aB S.O (aE S.X) (fun _ => o)) d = obj S.O d := bP hne
  have hnb : ¬ gJ (aB S.O (aE S.X) (fun _ => o)) (aE S.X) d := fun hb => by
    have key : ∀ x, gJ (aB S.O (aE S.X) (fun _ => o)) (aE S.X) x → x = aE S.X := fun x hx => by
      induction hx with
      | here => rfl
      | @up k j hu _ ih =>
        subst ih
        by_cases e : k = aE S.X
        · exact e
        · rw [bP e] at hu; exact absurd hu (hI.fresh.up k)
    exact hne (key d hb)
  have h2 := h1.put (d := d) (name := name) (t := ⟨aE S.X, o.kind⟩) (O' := (ct { S with us := us', au := dY } d name o).O) hdl (by rw [oD]; exact iK) (by rw [oD]; exact hn) iL hnl (by rw [oN]; exact hg0) (fun _ => ⟨by rw [oN]; exact hl0, hnb⟩) (fun e => hne e.symm) hroom.2.2 h1.now (fun k => sQ (fun e => hne e.symm))
  refine ⟨h2, fun x hx fU => ?_⟩
  have g1 : ∀ k, (obj (ct { S with us := us', au := dY } d name o).O k).gone = (obj (aB S.O (aE S.X) (fun _ => o)) k).gone := fun k => kf (g := aM.gone) (fun _ _ => rfl) (fun _ _ => rfl) (fun _ _ _ => rfl) (fun _ _ => rfl)
  have g2 : ∀ k, (obj (ct { S with us := us', au := dY } d name o).O k).opens = (obj (aB S.O (aE S.X) (fun _ => o)) k).opens := fun k => kf (g := aM.opens) (fun _ _ => rfl) (fun _ _ => rfl) (fun _ _ _ => rfl) (fun _ _ => rfl)
  rw [g1] at fU
  rw [g2]
  by_cases e : x.k = aE S.X
  · rw [e, oN, hg0] at fU; cases fU
  · rw [bP e] at fU ⊢
    refine hI.full x ?_ fU
    have hx : TabM.get (ins (S.X.last + 1) ⟨aE S.X, o.kind⟩ S.idx) x.k = some x := hx
    rw [hget] at hx
    split at hx
    · exact absurd (congrArg Th.k (Option.some.inj hx)).symm e
    · exact hx
end new
section drop
variable {S : aH} {d : Nat} {name : ByteArray} {t : Th}
theorem fM {α : Type} {g : aM → α} {O : bM} {k j : Nat} (h : ∀ o, g { o with up := none } = g o) : g (obj (orphan O j) k) = g (obj O k) := cI (f := fun o => { o with up := none }) h
theorem sZ {O : bM} {k : Nat} : lP (orphan O k) t ↔ lP O t := by
  unfold lP
  rw [fM (g := aM.gone) (fun _ => rfl), fM (g := aM.opens) (fun _ => rfl)]
theorem zX {O : bM} {k : Nat} {u : Int} : fF (orphan O k) u t = fF O u t := by
  unfold fF
  simp only [sZ, fM (g := aM.data) (fun _ => rfl)]
theorem zY {O : bM} {k : Nat} {idx : Used Th} : eW (orphan O k) idx t = eW O idx t := by
  unfold eW
  simp only [sZ, fM (g := aM.id) (fun _ => rfl)]
theorem Inv.drop (hI : Inv S) (hd : Live S.idx ⟨d, 2⟩) (hl : aT name (obj S.O d).ai = some t) (he : t.kind = 2 → (obj S.O t.k).ai = []) : Inv { ar S d name t with O := orphan (ar S d name t).O t.k } := by
  have hne := hI.ne hd hl
  have ht := (hI.ent hd hl).2
  have hlk : (obj (aG S.X S.O d name t) t.k).links = (obj S.O t.k).links - 1 := by rw [fR hne, if_neg hne, if_pos rfl]
  have hfull : ∀ (O2 : bM), (∀ u, u ≠ t.k → (obj O2 u).gone = (obj S.O u).gone ∧ (obj O2 u).opens = (obj S.O u).opens) → ∀ u, Live S.idx u → u ≠ t → (obj O2 u.k).gone = true → 0 < (obj O2 u.k).opens := fun O2 h u hu hut hg => by
    have hk : u.k ≠ t.k := fun e => hut (eB hu ht e)
    rw [(h _ hk).1] at hg
    rw [(h _ hk).2]
    exact hI.full u hu hg
  by_cases h0 : (obj (aG S.X S.O d name t) t.k).links = 0
  · have e1 : ar S d name t = _ := nk h0
    have hO : ∀ k, obj (orphan (j8 (aG S.X S.O d name t) t.k) t.k) k = if k = d then { obj S.O d with ai := dW name (obj S.O d).ai, sec := S.X.cS, nano := S.X.cZ } else if k = t.k then { obj S.O k with links := (obj S.O k).links - 1, gone := true, up := none } else obj S.O k := fun k => by
      unfold orphan j8
      rw [pK, iz]
      by_cases e : k = t.k
      · rw [if_pos e, fR hne, if_neg (fun e2 => hne (e.symm.trans e2)), if_pos e, if_neg (fun e2 => hne (e.symm.trans e2)), if_pos e]
      · rw [if_neg e, fR hne, if_neg e, if_neg e]
    have h1 := hI.toInv0.cut hd hl hO (.inr ⟨by rw [← hlk]; exact h0, he⟩)
    have h2 := h1.freeM (t := t) ht (hfull _ (fun u hu => by
      rw [fM (g := aM.gone) (fun _ => rfl), fM (g := aM.opens) (fun _ => rfl)]
      show (obj (aB _ t.k _) u).gone = _ ∧ (obj (aB _ t.k _) u).opens = _
      rw [bP hu, cE (g := aM.gone) (fun _ _ => rfl) (fun _ _ => rfl) (fun _ _ _ => rfl), cE (g := aM.opens) (fun _ _ => rfl) (fun _ _ => rfl) (fun _ _ _ => rfl)]
      exact ⟨rfl, rfl⟩))
    rw [e1]
    unfold freeM at h2
    simp only [zX, zY] at h2
    exact h2
  · have e1 : ar S d name t = _ := pV h0
    have hnd : t.kind ≠ 2 := fun hk => by
      have h1 := hI.once t ht hk
      have h2 := hI.links t ht
      have h3 : 0 < fH S.idx S.O t.k := j9 hd hl
      omega
    have CH : (obj S.O t.k).up = none := by
      cases hu : (obj S.O t.k).up with
      | none => rfl
      | some e => exact absurd ((hI.up t ht e).1 hu).1 hnd
    have hO : ∀ k, obj (orphan (aG S.X S.O d name t) t.k) k = if k = d then { obj S.O d with ai := dW name (obj S.O d).ai, sec := S.X.cS, nano := S.X.cZ } else if k = t.k then { obj S.O k with links := (obj S.O k).links - 1, gone := (obj S.O t.k).gone, up := none } else obj S.O k := fun k => by
      unfold orphan
      rw [iz]
      by_cases e : k = t.k
      · rw [if_pos e, fR hne, if_neg (fun e2 => hne (e.symm.trans e2)), if_pos e, if_neg (fun e2 => hne (e.symm.trans e2)), if_pos e, e]
      · rw [if_neg e, fR hne, if_neg e, if_neg e]
    have h1 := hI.toInv0.cut hd hl hO (.inl rfl)
    rw [e1]
    refine ⟨h1, fun u hu hg => ?_⟩
    have hg : (obj (orphan (aG S.X S.O d name t) t.k) u.k).gone = true := hg
    show 0 < (obj (orphan (aG S.X S.O d name t) t.k) u.k).opens
    rw [fM (g := aM.gone) (fun _ => rfl), cE (g := aM.gone) (fun _ _ => rfl) (fun _ _ => rfl) (fun _ _ _ => rfl)] at hg
    rw [fM (g := aM.opens) (fun _ => rfl), cE (g := aM.opens) (fun _ _ => rfl) (fun _ _ => rfl) (fun _ _ _ => rfl)]
    exact hI.full u hu hg
theorem FH {k : Nat} : (obj (ar S d name t).O k).up = (obj S.O k).up := by
  unfold ar
  simp only
  split
  · exact (mD (g := aM.up) (fun _ _ => rfl)).trans (cE (g := aM.up) (fun _ _ => rfl) (fun _ _ => rfl) (fun _ _ _ => rfl))
  · exact cE (g := aM.up) (fun _ _ => rfl) (fun _ _ => rfl) (fun _ _ _ => rfl)
theorem Inv.ud (hI : Inv S) (hd : Live S.idx ⟨d, 2⟩) (hl : aT name (obj S.O d).ai = some t) (hk : t.kind ≠ 2) : Inv (ar S d name t) := by
  have h := hI.drop hd hl (fun e => absurd e hk)
  have ht := (hI.ent hd hl).2
  have CH : (obj S.O t.k).up = none := by
    cases hu : (obj S.O t.k).up with
    | none => rfl
    | some e => exact absurd ((hI.up t ht e).1 hu).1 hk
  have e : orphan (ar S d name t).O t.k = (ar S d name t).O := Hu (by
    have : (obj (ar S d name t).O t.k).up = none := FH.trans CH
    rw [← this])
  rw [e] at h
  exact h
end drop
end Go.Proofs.YtkiedlmhocglhaaGreat
end
section
namespace Go.Proofs.YtkiedlmhocglhaaGreat.TabM
open HeapM
variable {V : Type}
theorem zZ (us : Used V) : (keys us).length = us.length := by simp [keys]
theorem least_le {us : Used V} (hr : bW (keys us)) (hp : ∀ x ∈ keys us, 1 ≤ x) : 1 ≤ least us ∧ least us ∉ keys us ∧ ∀ x, 1 ≤ x → x < least us → x ∈ keys us := j7 (keys us) 1 hr hp
theorem s5 : ∀ (ks : List Int) (h : Int), fq h ks ≤ h + ks.length
  | [], h => by simp [fq]
  | k :: r, h => by
    unfold fq
    split
    · have := s5 r (h + 1); simp only [List.length_cons]; push_cast; omega
    · simp only [List.length_cons]; push_cast; omega
theorem A8 (us : Used V) : least us ≤ us.length + 1 := by
  have := s5 (keys us) 1
  rw [zZ] at this
  unfold least; omega
end Go.Proofs.YtkiedlmhocglhaaGreat.TabM
end
section
namespace Go.Proofs.YtkiedlmhocglhaaGreat
open Go.RowKit Go.Maps HeapM TabM
section ops
variable {S : aH} {d to : Nat} {name toName : ByteArray} {t : Th}
theorem Inv.link (hI : Inv S) (hd : Live S.idx ⟨d, 2⟩) (iK : (obj S.O d).gone = false) (hn : aT name (obj S.O d).ai = none) (iL : cC name) (ht : Live S.idx t) (BA : (obj S.O t.k).gone = false) (hk : t.kind ≠ 2) (hroom : S.X.ai < 8192) :
    Inv { S with X := { S.X with ai := S.X.ai + 1 }, O := bh S.X S.O d name t } := by
  have hne : t.k ≠ d := fun e => hk (congrArg Th.kind (eB ht hd e))
  have h1 := hI.toInv0.put hd iK hn iL ht BA (fun e => absurd e hk) hne hroom hI.now (fun k => sQ hne)
  refine ⟨h1, fun x hx hg => ?_⟩
  have hg : (obj (bh S.X S.O d name t) x.k).gone = true := hg
  show 0 < (obj (bh S.X S.O d name t) x.k).opens
  rw [kf (g := aM.gone) (fun _ _ => rfl) (fun _ _ => rfl) (fun _ _ _ => rfl) (fun _ _ => rfl)] at hg
  rw [kf (g := aM.opens) (fun _ _ => rfl) (fun _ _ => rfl) (fun _ _ _ => rfl) (fun _ _ => rfl)]
  exact hI.full x hx hg
theorem iu (hne : t.k ≠ d) {X : FM} {O : bM} (h : aT toName (obj O to).ai = none) : aT toName (obj (aG X O d name t) to).ai = none := by
  rw [fR hne]
  split
  · rename_i e
    subst e
    show aT toName (dW name (obj O to).ai) = none
    rw [mY]; split
    · rfl
    · exact h
  · split
    · exact h
    · exact h
theorem Inv.move (hI : Inv S) (hd : Live S.idx ⟨d, 2⟩) (hl : aT name (obj S.O d).ai = some t) (hto : Live S.idx ⟨to, 2⟩) (iK : (obj S.O to).gone = false) (hn : aT toName (obj S.O to).ai = none) (iL : cC toName) (hb : t.kind = 2 → ¬ gJ S.O t.k to) : Inv (kI S d name to toName t) := by
  have hne := hI.ne hd hl
  have ht := (hI.ent hd hl).2
  have FI : t.k ≠ to := fun e => by
    have h1 : t = ⟨to, 2⟩ := eB ht hto e
    exact hb (by rw [h1]) (by rw [e]; exact .here)
  have hgt : (obj S.O t.k).gone = false := by
    cases hg : (obj S.O t.k).gone with
    | false => rfl
    | true =>
      have h1 := (hI.gone t ht hg).1
      have h2 := hI.links t ht
      have h3 : 0 < fH S.idx S.O t.k := j9 hd hl
      omega
  have hO : ∀ k, obj (orphan (aG S.X S.O d name t) t.k) k = if k = d then { obj S.O d with ai := dW name (obj S.O d).ai, sec := S.X.cS, nano := S.X.cZ } else if k = t.k then { obj S.O k with links := (obj S.O k).links - 1, gone := (obj S.O t.k).gone, up := none } else obj S.O k := fun k => by
    unfold orphan
    rw [iz]
    by_cases e : k = t.k
    · rw [if_pos e, fR hne, if_neg (fun e2 => hne (e.symm.trans e2)), if_pos e, if_neg (fun e2 => hne (e.symm.trans e2)), if_pos e, e]
    · rw [if_neg e, fR hne, if_neg e, if_neg e]
  have h1 := hI.toInv0.cut hd hl hO (.inl rfl)
  have g0 : ∀ {α : Type} (g : aM → α), (∀ o es, g { o with ai := es } = g o) → (∀ o l, g { o with links := l } = g o) → (∀ o a b, g { o with sec := a, nano := b } = g o) → (∀ o u, g { o with up := u } = g o) → ∀ k, g (obj (orphan (aG S.X S.O d name t) t.k) k) = g (obj S.O k) := fun g a b c e k => (fM (fun o => e o none)).trans (cE a b c)
  have hlk := hI.links t ht
  have hlp : 0 < fH S.idx S.O t.k := j9 hd hl
  have hend : (obj (orphan (aG S.X S.O d name t) t.k) to).ai = (obj (aG S.X S.O d name t) to).ai := fM (g := aM.ai) (fun _ => rfl)
  have h2 := h1.put (d := to) (name := toName) (t := t) (O' := (kI S d name to toName t).O) hto (by
      show (obj (orphan (aG S.X S.O d name t) t.k) to).gone = false
      rw [g0 aM.gone (fun _ _ => rfl) (fun _ _ => rfl) (fun _ _ _ => rfl) (fun _ _ => rfl)]; exact iK) (by
      show aT toName (obj (orphan (aG S.X S.O d name t) t.k) to).ai = none
      rw [hend]; exact iu hne hn) iL ht (by
      show (obj (orphan (aG S.X S.O d name t) t.k) t.k).gone = false
      rw [g0 aM.gone (fun _ _ => rfl) (fun _ _ => rfl) (fun _ _ _ => rfl) (fun _ _ => rfl)]; exact hgt) (fun hk => ⟨by
        have h3 := hI.once t ht hk
        show (obj (orphan (aG S.X S.O d name t) t.k) t.k).links = 0
        rw [hO, if_neg hne, if_pos rfl]
        show (obj S.O t.k).links - 1 = 0
        omega, fun hb2 => hb hk (CG (fun x e hx => by
          have hx : (obj (orphan (aG S.X S.O d name t) t.k) x).up = some e := hx
          by_cases e1 : x = t.k
          · rw [hO, if_neg (by rw [e1]; exact hne), if_pos e1] at hx; cases hx
          · rw [hO] at hx
            split at hx
            · rename_i e2; rw [e2]; exact hx
            · first | exact hx | (rw [if_neg e1] at hx; exact hx)) hb2)⟩) FI (by
      have := hI.total
      show S.X.ai - 1 < 8192
      omega) hI.now (fun k => by
      show obj (bh S.X (aG S.X S.O d name t) to toName t) k = _
      rw [sQ FI]
      by_cases e : k = to
      · rw [if_pos e, if_pos e]
        have h3 : obj (orphan (aG S.X S.O d name t) t.k) to = obj (aG S.X S.O d name t) to := bP (fun e => FI e.symm)
        rw [show obj _ to = _ from h3]
      · rw [if_neg e, if_neg e]
        by_cases e2 : k = t.k
        · rw [if_pos e2, if_pos e2, e2]
          show _ = { obj (orphan (aG S.X S.O d name t) t.k) t.k with links := (obj (orphan (aG S.X S.O d name t) t.k) t.k).links + 1, up := if t.kind = 2 then some to else (obj (orphan (aG S.X S.O d name t) t.k) t.k).up }
          have h3 : obj (orphan (aG S.X S.O d name t) t.k) t.k = { obj (aG S.X S.O d name t) t.k with up := none } := bA
          rw [h3]
          by_cases hk : t.kind = 2
          · rw [if_pos hk, if_pos hk]
          · rw [if_neg hk, if_neg hk]
            have CH : (obj (aG S.X S.O d name t) t.k).up = none := by
              rw [cE (g := aM.up) (fun _ _ => rfl) (fun _ _ => rfl) (fun _ _ _ => rfl)]
              cases hu : (obj S.O t.k).up with
              | none => rfl
              | some e => exact absurd ((hI.up t ht e).1 hu).1 hk
            rw [CH]
        · rw [if_neg e2, if_neg e2]
          have h3 : obj (orphan (aG S.X S.O d name t) t.k) k = obj (aG S.X S.O d name t) k := bP e2
          exact h3.symm)
  refine ⟨h2, fun x hx hg => ?_⟩
  have g3 : ∀ {α : Type} (g : aM → α), (∀ o es, g { o with ai := es } = g o) → (∀ o l, g { o with links := l } = g o) → (∀ o a b, g { o with sec := a, nano := b } = g o) → (∀ o u, g { o with up := u } = g o) → ∀ k, g (obj (kI S d name to toName t).O k) = g (obj S.O k) := fun g a b c e k => (kf a b c e).trans (cE a b c)
  rw [g3 aM.gone (fun _ _ => rfl) (fun _ _ => rfl) (fun _ _ _ => rfl) (fun _ _ => rfl)] at hg
  rw [g3 aM.opens (fun _ _ => rfl) (fun _ _ => rfl) (fun _ _ _ => rfl) (fun _ _ => rfl)]
  exact hI.full x hx hg
theorem xC {us : Used Th} {h : Int} {k : Nat} : hnd (ins h t us) k = (if t.k = k then 1 else 0) + hnd us k := vg
theorem HX {us : Used Th} {h : Int} {k : Nat} (hr : TabM.bW (keys us)) (e : TabM.get us h = some t) : hnd (del h us) k + (if t.k = k then 1 else 0) = hnd us k := vl (g := fun p : Int × Th => if p.2.k = k then 1 else 0) hr e
theorem BG {us : Used Th} {au : Int} (hr : TabM.bW (keys us)) (h1 : ∀ x ∈ keys us, 1 ≤ x ∧ x ≤ au) : TabM.bW (keys (ins (TabM.least us) t us)) ∧ ∀ x ∈ keys (ins (TabM.least us) t us), 1 ≤ x ∧ x ≤ max au ((us.length : Int) + 1) := by
  obtain ⟨g1, g2, _⟩ := least_le hr (fun x hx => (h1 x hx).1)
  have g3 := A8 us
  refine ⟨q6 hr g2, fun x hx => ?_⟩
  rcases (jh _ _ _ _).1 hx with e | e
  · subst e; omega
  · have := h1 x e; omega
theorem Inv.openM (hI : Inv S) (ht : Live S.idx t) (hk : t.kind ≠ 3) : Inv (Proofs.YtkiedlmhocglhaaGreat.openM S t).2.2 := by
  by_cases hlt : (S.us.length : Int) < S.X.cH
  · rw [gy hlt]
    obtain ⟨g1, g2, _⟩ := least_le hI.usr (fun x hx => (hI.sP x hx).1)
    obtain ⟨v1, v2⟩ := BG (t := t) hI.usr hI.sP
    have hb : bytes S.idx (aB S.O t.k (fun o => { o with opens := o.opens + 1 })) = bytes S.idx S.O := dX (fun p _ => by rw [cI (f := fun o => { o with opens := o.opens + 1 }) (g := aM.data) (fun _ => rfl)])
    have h1 := hI.toInv0.own (k := t.k) (f := fun o => { o with opens := o.opens + 1 }) (iQ := S.X.used) (us' := ins (TabM.least S.us) t S.us) (dY := max S.au ((S.us.length : Int) + 1)) (fun _ => rfl) (fun _ => rfl) (fun _ => rfl) (fun _ => rfl) (fun _ => rfl) (fun _ => rfl)
      (fun u hu e => by rw [← e]; exact (hI.mt u hu).of rfl rfl rfl (hI.mt u hu).time rfl (.inl rfl) (.inl rfl) rfl)
      (fun u hu => by
        have h2 := hI.opens u hu
        rw [xC]
        by_cases e : u.k = t.k
        · rw [e, bA, if_pos rfl, ← e]
          show (obj S.O u.k).opens + 1 = _
          omega
        · rw [bP e, if_neg (fun e2 => e e2.symm)]; omega)
      v1 v2 (by rw [fJ]; omega) (by have := hI.au; omega) (fun h u e => by
        rw [qF g2] at e
        split at e
        · cases e; exact ⟨ht, hk⟩
        · exact hI.us h u e) ⟨by rw [hb]; exact hI.used.1, hI.used.2⟩
    refine ⟨h1, fun u hu hg => ?_⟩
    have hg : (obj (aB S.O t.k (fun o => { o with opens := o.opens + 1 })) u.k).gone = true := hg
    rw [cI (f := fun o => { o with opens := o.opens + 1 }) (g := aM.gone) (fun _ => rfl)] at hg
    have h2 := hI.full u hu hg
    show 0 < (obj (aB S.O t.k (fun o => { o with opens := o.opens + 1 })) u.k).opens
    by_cases e : u.k = t.k
    · rw [e, bA]; rw [e] at h2; show 0 < (obj S.O t.k).opens + 1; omega
    · rw [bP e]; exact h2
  · rw [jP hlt]; exact hI
theorem Inv.writeM (hI : Inv S) {k : Nat} (ht : Live S.idx ⟨k, 1⟩) (bs : List UInt8) : Inv (Proofs.YtkiedlmhocglhaaGreat.writeM S k bs).2.2 := by
  unfold Proofs.YtkiedlmhocglhaaGreat.writeM
  split
  · exact hI
  · split
    · exact hI
    · rename_i hroom
      have hlen : (obj (aB S.O k (fun o => { o with data := o.data ++ bs.take (aV S.X bs.length), sec := S.X.cS, nano := S.X.cZ })) k).data.length = (obj S.O k).data.length + aV S.X bs.length := by
        rw [bA]
        show ((obj S.O k).data ++ bs.take (aV S.X bs.length)).length = _
        rw [List.length_append, List.length_take]
        unfold aV
        omega
      have hb := vk (g := fun p : Int × Th => (obj S.O p.2.k).data.length) (g' := fun p : Int × Th => (obj (aB S.O k (fun o => { o with data := o.data ++ bs.take (aV S.X bs.length), sec := S.X.cS, nano := S.X.cZ })) p.2.k).data.length) hI.rise ht (fun p hp hne => by
        have h1 := hI.key (lg hI.rise hp)
        show (obj (aB _ k _) p.2.k).data.length = _
        rw [bP (fun e => hne (by rw [h1, e]))])
      have hb : bytes S.idx (aB S.O k (fun o => { o with data := o.data ++ bs.take (aV S.X bs.length), sec := S.X.cS, nano := S.X.cZ })) + (obj S.O k).data.length = bytes S.idx S.O + (obj (aB S.O k (fun o => { o with data := o.data ++ bs.take (aV S.X bs.length), sec := S.X.cS, nano := S.X.cZ })) k).data.length := hb
      have hu := hI.used
      have hcB := hI.cB
      have h1 := hI.toInv0.own (k := k) (f := fun o => { o with data := o.data ++ bs.take (aV S.X bs.length), sec := S.X.cS, nano := S.X.cZ }) (iQ := S.X.used + (aV S.X bs.length : Int)) (us' := S.us) (dY := S.au) (fun _ => rfl) (fun _ => rfl) (fun _ => rfl) (fun _ => rfl) (fun _ => rfl) (fun _ => rfl)
        (fun u hu e => by
          have hk1 : u = ⟨k, 1⟩ := eB hu ht e
          have KT := hI.kind hu
          rw [← e]
          exact (hI.mt u hu).of rfl rfl rfl hI.now rfl (.inr (by rw [KT, hk1])) (.inl rfl) rfl)
        (fun u hu => by rw [cI (f := fun o => { o with data := o.data ++ bs.take (aV S.X bs.length), sec := S.X.cS, nano := S.X.cZ }) (g := aM.opens) (fun _ => rfl)]; exact hI.opens u hu)
        hI.usr hI.sP hI.yC hI.au hI.us ⟨by omega, by unfold aV; omega⟩
      refine ⟨h1, fun u hu hg => ?_⟩
      have hg : (obj (aB S.O k (fun o => { o with data := o.data ++ bs.take (aV S.X bs.length), sec := S.X.cS, nano := S.X.cZ })) u.k).gone = true := hg
      rw [cI (f := fun o => { o with data := o.data ++ bs.take (aV S.X bs.length), sec := S.X.cS, nano := S.X.cZ }) (g := aM.gone) (fun _ => rfl)] at hg
      show 0 < (obj (aB S.O k (fun o => { o with data := o.data ++ bs.take (aV S.X bs.length), sec := S.X.cS, nano := S.X.cZ })) u.k).opens
      rw [cI (f := fun o => { o with data := o.data ++ bs.take (aV S.X bs.length), sec := S.X.cS, nano := S.X.cZ }) (g := aM.opens) (fun _ => rfl)]
      exact hI.full u hu hg
theorem Inv.KU (hI : Inv S) {k : Nat} {mode uid gid sec nano : Int} (h1 : kA mode) (h2 : wh uid ∧ wh gid) (h3 : cL sec nano) : Inv { S with O := aB S.O k (fun o => { o with mode := mode, uid := uid, gid := gid, sec := sec, nano := nano }) } := by
  have hb : bytes S.idx (aB S.O k (fun o => { o with mode := mode, uid := uid, gid := gid, sec := sec, nano := nano })) = bytes S.idx S.O := dX (fun p _ => by rw [cI (f := fun o => { o with mode := mode, uid := uid, gid := gid, sec := sec, nano := nano }) (g := aM.data) (fun _ => rfl)])
  have g1 := hI.toInv0.own (k := k) (f := fun o => { o with mode := mode, uid := uid, gid := gid, sec := sec, nano := nano }) (iQ := S.X.used) (us' := S.us) (dY := S.au) (fun _ => rfl) (fun _ => rfl) (fun _ => rfl) (fun _ => rfl) (fun _ => rfl) (fun _ => rfl)
    (fun u hu e => by
      have hm := hI.mt u hu
      rw [e] at hm
      exact ⟨h1, h2.1, h2.2, h3, hm.data, hm.ai, hm.target⟩)
    (fun u hu => by rw [cI (f := fun o => { o with mode := mode, uid := uid, gid := gid, sec := sec, nano := nano }) (g := aM.opens) (fun _ => rfl)]; exact hI.opens u hu)
    hI.usr hI.sP hI.yC hI.au hI.us ⟨by rw [hb]; exact hI.used.1, hI.used.2⟩
  refine ⟨g1, fun u hu hg => ?_⟩
  have hg : (obj (aB S.O k (fun o => { o with mode := mode, uid := uid, gid := gid, sec := sec, nano := nano })) u.k).gone = true := hg
  rw [cI (f := fun o => { o with mode := mode, uid := uid, gid := gid, sec := sec, nano := nano }) (g := aM.gone) (fun _ => rfl)] at hg
  show 0 < (obj (aB S.O k (fun o => { o with mode := mode, uid := uid, gid := gid, sec := sec, nano := nano })) u.k).opens
  rw [cI (f := fun o => { o with mode := mode, uid := uid, gid := gid, sec := sec, nano := nano }) (g := aM.opens) (fun _ => rfl)]
  exact hI.full u hu hg
theorem Inv.shut (hI : Inv S) {h : Int} (e : TabM.get S.us h = some t) : Inv { S with
      X := { S.X with used := fF (gh S.O t.k) S.X.used t }
      O := gh S.O t.k
      idx := eW (gh S.O t.k) S.idx t
      us := del h S.us } := by
  have ht := (hI.us h t e).1
  have hb : bytes S.idx (gh S.O t.k) = bytes S.idx S.O := dX (fun p _ => by unfold gh; rw [cI (f := fun o => { o with opens := o.opens - 1 }) (g := aM.data) (fun _ => rfl)])
  have hd := fun k => HX (k := k) hI.usr e
  have h1 := hI.toInv0.own (k := t.k) (f := fun o => { o with opens := o.opens - 1 }) (iQ := S.X.used) (us' := del h S.us) (dY := S.au) (fun _ => rfl) (fun _ => rfl) (fun _ => rfl) (fun _ => rfl) (fun _ => rfl) (fun _ => rfl)
    (fun u hu e => by rw [← e]; exact (hI.mt u hu).of rfl rfl rfl (hI.mt u hu).time rfl (.inl rfl) (.inl rfl) rfl)
    (fun u hu => by
      have h2 := hI.opens u hu
      have h3 := hd u.k
      by_cases e2 : u.k = t.k
      · rw [e2, bA]
        rw [e2] at h2 h3
        rw [if_pos rfl] at h3
        show (obj S.O t.k).opens - 1 = _
        omega
      · rw [if_neg (fun e3 => e2 e3.symm)] at h3
        rw [bP e2]; omega)
    (zS hI.usr) (fun x hx => hI.sP x (by rw [kM] at hx; exact (List.mem_filter.1 hx).1)) (by have := mr hI.usr (get_some e); have := hI.yC; omega) hI.au (fun i u hu => by
      rw [qG] at hu
      split at hu
      · cases hu
      · exact hI.us i u hu) ⟨by rw [show bytes S.idx (aB S.O t.k (fun o => { o with opens := o.opens - 1 })) = bytes S.idx S.O from hb]; exact hI.used.1, hI.used.2⟩
  exact h1.freeM (t := t) ht (fun u hu hut hg => by
    have hk : u.k ≠ t.k := fun e => hut (eB hu ht e)
    have hg : (obj (aB S.O t.k (fun o => { o with opens := o.opens - 1 })) u.k).gone = true := hg
    rw [bP hk] at hg
    show 0 < (obj (aB S.O t.k (fun o => { o with opens := o.opens - 1 })) u.k).opens
    rw [bP hk]
    exact hI.full u hu hg)
end ops
end Go.Proofs.YtkiedlmhocglhaaGreat
end
section
namespace Go.Proofs.YtkiedlmhocglhaaGreat
open Go.RowKit Go.Maps HeapM TabM
section facts
variable {S : aH} {X : FM} {O : bM} {d k to : Nat} {name toName : ByteArray} {t o : Th}
def tf (dp : Nat → Nat) : Option Nat → Nat
  | none => 0
  | some y => dp y + 1
theorem Eb {dp : Nat → Nat} (h : ∀ k d, (obj O k).up = some d → dp d < dp k) {y : Nat} : tf dp (obj O y).up < tf dp (some y) := by
  cases e : (obj O y).up with
  | none => exact Nat.succ_pos _
  | some z => exact Nat.succ_lt_succ (h y z e)
theorem wq {s y : Nat} (h : ¬ y = s) : gJ O s y ↔ ∃ z, (obj O y).up = some z ∧ gJ O s z := yE.trans (or_iff_right h)
theorem wu (hne : t.k ≠ d) : (obj (ar S d name t).O k).ai = if k = d then dW name (obj S.O d).ai else (obj S.O k).ai := by
  have h1 : (obj (ar S d name t).O k).ai = (obj (aG S.X S.O d name t) k).ai := by
    unfold ar
    simp only
    split
    · exact mD (g := aM.ai) (fun _ _ => rfl)
    · rfl
  rw [h1, fR hne]
  split
  · rfl
  · split <;> rfl
theorem nw (hI : Inv0 S) (hto : Live S.idx ⟨to, 2⟩) (hl2 : aT toName (obj S.O to).ai = some o) (hl : aT name (obj S.O d).ai = some t) (hot : o ≠ t) : aT name (obj (ar S to toName o).O d).ai = some t := by
  rw [wu (hI.ne hto hl2)]
  split
  · rename_i e
    subst e
    rw [mY, if_neg (fun e => by rw [e, hl2] at hl; exact hot (Option.some.inj hl))]
    exact hl
  · exact hl
theorem ny (hI : Inv0 S) (hto : Live S.idx ⟨to, 2⟩) (hl2 : aT toName (obj S.O to).ai = some o) : aT toName (obj (ar S to toName o).O to).ai = none := by
  rw [wu (hI.ne hto hl2), if_pos rfl, mY, if_pos rfl]
theorem gA (hI : Inv0 S) (hto : Live S.idx ⟨to, 2⟩) (hl2 : aT toName (obj S.O to).ai = some o) (hx : Live S.idx t) (hk : t.k ≠ o.k) : Live (ar S to toName o).idx t := by
  unfold ar
  simp only
  split
  · unfold eW
    split
    · unfold Live
      rw [qG, if_neg]
      · exact hx
      · intro e
        have h1 := (hI.ob o (hI.ent hto hl2).2).1
        rw [mD (g := aM.id) (fun _ _ => rfl), cE (g := aM.id) (fun _ _ => rfl) (fun _ _ => rfl) (fun _ _ _ => rfl), h1] at e
        exact hk (by omega)
    · exact hx
  · exact hx
theorem jS (hne : t.k ≠ d) : (obj (aG X O d name t) k).ai.length ≤ (obj O k).ai.length := by
  rw [fR hne]
  split
  · rename_i e
    subst e
    exact List.length_filter_le _ _
  · split <;> exact Nat.le_refl _
theorem iD (hI : Inv0 S) (hd : Live S.idx ⟨d, 2⟩) (hl : aT name (obj S.O d).ai = some t) : 0 ≤ (obj (aG S.X S.O d name t) t.k).links ∧ (obj (aG S.X S.O d name t) t.k).links ≤ 1048576 := by
  have ht := (hI.ent hd hl).2
  have h1 := hI.links t ht
  have h2 : 0 < fH S.idx S.O t.k := j9 hd hl
  have h3 := hI.lb ht
  rw [fR (hI.ne hd hl), if_neg (hI.ne hd hl), if_pos rfl]
  show 0 ≤ (obj S.O t.k).links - 1 ∧ (obj S.O t.k).links - 1 ≤ 1048576
  omega
end facts
end Go.Proofs.YtkiedlmhocglhaaGreat
end
