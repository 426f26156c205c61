/-
  PROVED HERE: lemmas and contracts of functions (texts of this repo, joined; what the claim does not use is left out): H10, Hz, ShelfS, SK, HG, Vp, H11, GEnter, GR, GRead, GP, GOk, Nw.
  CONDITIONS: as the theorems say.
-/
import Derived.Test.YtkiedlmhocglhaaGreatMHwrites4
import Derived.Shelf.SlGeneric
import Derived.Shelf.SlIter.Nil
import Derived.Shelf.SortM.Plain
import Derived.Shelf.SortM.SortNone
import Derived.Ground.GgzProg
import Derived.Ground.SlgmProg
import Derived.Test.YtkiedlmhocglhaaGreatProg
section
namespace Go.Proofs.YtkiedlmhocglhaaGreat
open Go.RowKit Go.Maps HeapM TabM
attribute [local irreducible] ah aI af aj
abbrev G1 (b3 : Nat) := (.blk b3 [.int .i64 0, .int .i64 0, .int .i64 0, .string ⟨#[]⟩, .string ⟨#[]⟩, .slice none (0) (0), .int .i64 0, .int .i64 0, .int .i64 0, .int .i64 0, .int .i64 0, .int .i64 0, .int .i64 0] 39 : HP)
abbrev Lz (c : aU) := ([(0, .int .i64 (c.op)), (1, .int .i64 (c.handle)), (2, .int .i64 (c.other)), (3, .string c.name), (4, .string c.text), (5, .slice c.dA (c.data.length) (c.dC)), (6, .int .i64 (c.mode)), (7, .int .i64 (c.uid)), (8, .int .i64 (c.gid)), (9, .int .i64 (c.sec)), (10, .int .i64 (c.nano)), (11, .int .i64 230)] : Fr)
set_option maxRecDepth 100000 in
set_option maxHeartbeats 4000000 in
theorem Bh {β : Bs} : Spec Tryz.prog β 31 #[] [] (fun v l => v = .agg #[.nilFunc, .func (.func 59) #[] #[], .func (.func 60) #[] #[], .func (.func 61) #[] #[], .func (.func 62) #[] #[], .func (.func 63) #[] #[], .func (.func 64) #[] #[], .func (.func 65) #[] #[], .func (.func 66) #[] #[], .func (.func 67) #[] #[], .func (.func 68) #[] #[], .func (.func 69) #[] #[], .func (.func 70) #[] #[], .func (.func 71) #[] #[], .func (.func 72) #[] #[], .func (.func 73) #[] #[]] ∧ l = []) := by
 refine Spec.enter Tryz.func31 rfl Tryz.ntmps31 (Nat.le_of_ble_eq_true rfl) (fun R => ?_)
 refine SR ?_
 refine gN 1 (fun b1 => [(0, .pointer (some ⟨b1, 0, none⟩))]) (fun _ => []) (fun _ => []) (fun b1 => .blk b1 [.nilFunc, .nilFunc, .nilFunc, .nilFunc, .nilFunc, .nilFunc, .nilFunc, .nilFunc, .nilFunc, .nilFunc, .nilFunc, .nilFunc, .nilFunc, .nilFunc, .nilFunc, .nilFunc] 105) (fun b1 => ?_)
 refine NS ?_
 refine gC 2 [] [(1, A_ 1 b1 16)] [(1, [(1, .func (.func 59) #[] #[]), (2, .func (.func 60) #[] #[]), (3, .func (.func 61) #[] #[]), (4, .func (.func 62) #[] #[]), (5, .func (.func 63) #[] #[]), (6, .func (.func 64) #[] #[]), (7, .func (.func 65) #[] #[]), (8, .func (.func 66) #[] #[]), (9, .func (.func 67) #[] #[]), (10, .func (.func 68) #[] #[]), (11, .func (.func 69) #[] #[]), (12, .func (.func 70) #[] #[]), (13, .func (.func 71) #[] #[]), (14, .func (.func 72) #[] #[]), (15, .func (.func 73) #[] #[])])] ?_
 refine NN (af.ret ?_)
 exact aj.ret (v := .agg #[.nilFunc, .func (.func 59) #[] #[], .func (.func 60) #[] #[], .func (.func 61) #[] #[], .func (.func 62) #[] #[], .func (.func 63) #[] #[], .func (.func 64) #[] #[], .func (.func 65) #[] #[], .func (.func 66) #[] #[], .func (.func 67) #[] #[], .func (.func 68) #[] #[], .func (.func 69) #[] #[], .func (.func 70) #[] #[], .func (.func 71) #[] #[], .func (.func 72) #[] #[], .func (.func 73) #[] #[]]) (l := []) (ak := [b1 = b1, b1 = b1, b1 = b1, b1 = b1, b1 = b1, b1 = b1, b1 = b1, b1 = b1, b1 = b1, b1 = b1, b1 = b1, b1 = b1, b1 = b1, b1 = b1, b1 = b1, b1 = b1]) [.at 1, .at 1, .at 1, .at 1, .at 1, .at 1, .at 1, .at 1, .at 1, .at 1, .at 1, .at 1, .at 1, .at 1, .at 1, .at 1] [0] (fun _ => by kernel_rfl) ⟨rfl, rfl, rfl, rfl, rfl, rfl, rfl, rfl, rfl, rfl, rfl, rfl, rfl, rfl, rfl, rfl, trivial⟩ rfl (by kernel_rfl) (⟨rfl, rfl⟩)
set_option maxRecDepth 100000 in
set_option maxHeartbeats 4000000 in
theorem JO {β : Bs} (S : aH) (L : HL) (f m t : Nat) (hI : Inv S) (c : aU) (hC : dR β c) :
    Spec Tryz.prog β 10 #[.pointer (some ⟨f, 0, none⟩), .agg #[.int .i64 (c.op), .int .i64 (c.handle), .int .i64 (c.other), .string c.name, .string c.text, .slice c.dA (c.data.length) (c.dC), .int .i64 (c.mode), .int .i64 (c.uid), .int .i64 (c.gid), .int .i64 (c.sec), .int .i64 (c.nano), .int .i64 (c.code), .int .i64 (c.answer)]] (pA f m t L S) (fun v l => ∃ L2, v = .agg ⟨fT (doM S c).2⟩ ∧ l = (pA f m t L2 ((doM S c).1))) := by
 have hX := hI.hX
 refine Spec.enter Tryz.func10 rfl Tryz.ntmps10 (Nat.le_of_ble_eq_true rfl) (fun R => ?_)
 refine SR ?_
 refine gN 1 (fun b2 => [(3, .pointer (some ⟨b2, 0, none⟩))]) (fun _ => []) (fun _ => []) (fun b2 => pC b2 c) (fun b2 => ?_)
 refine gN 1 (fun b3 => [(4, .pointer (some ⟨b3, 0, none⟩))]) (fun _ => []) (fun _ => []) (fun b3 => .blk b3 [.int .i64 0, .int .i64 0, .int .i64 0, .string ⟨#[]⟩, .string ⟨#[]⟩, .slice none (0) (0), .int .i64 0, .int .i64 0, .int .i64 0, .int .i64 0, .int .i64 0, .int .i64 0, .int .i64 0] 39) (fun b3 => ?_)
 refine NS ?_
 refine gC 2 [] [(1, a_ 7 b2)] [(7, [(12, .int .i64 0)])] ?_
 refine NS ?_
 refine gC 2 [] [(1, a_ 7 b2)] [(7, [(11, .int .i64 230)])] ?_
 refine NN (af.seq (SR ?_))
 refine gK 4 [(10, .bool (decide ((c.op : Int) ≥ (1 : Int))))] [(1, a_ 7 b2)] ?_
 refine ah.fD 10 ((c.op : Int) ≥ (1 : Int)) (fun _ => by kernel_rfl) (fun h10 => ?_) (fun h10 => ?_)
 ·
  refine gK 4 [(14, .bool (decide ((c.op : Int) ≤ (15 : Int))))] [(1, a_ 7 b2)] ?_
  refine NN ?_
  refine af.bH (p := (c.op : Int) ≤ (15 : Int)) (fun _ => by kernel_rfl) (fun fP => ?_) (fun fP => ?_)
  ·
   have hop : 1 ≤ c.op ∧ c.op ≤ 15 := ⟨h10, fP⟩
   ·
    refine af.C0 (S := [.abs (qI b2 (.int .i64 c.op))]) [1, 2, 4, 0, 3, 5, 6, 7] 3 (by kernel_rfl) (by kernel_rfl) (fun w hS => hS.first (i := 7) (b := b2) rfl rfl) ?_
    refine aD.reads (r := 0) (l := [0, 3, 5, 6, 7]) (fr' := [(3, vP b2), (4, vP b3), (17, vI (c.op)), (19, vP f)]) (ak := [(∀ F w, (qI b2 (.int .i64 c.op)).h F w → w.cell? ⟨b2, 0, none⟩ = some (.int .i64 (c.op)))]) [1, 2, 4] [o_, ⟨[.view 0 (.int .i64 (c.op))], none, none, none, none⟩, o_] [3, 4, 17, 19] (fun _ => by kernel_rfl) ⟨qI.cell, trivial⟩ rfl rfl ?_
    refine aD.C2 (ι := Unit) (fr' := fun (_ : Unit) => [(3, vP b2), (4, vP b3), (15, .agg #[.nilFunc, .func (.func 59) #[] #[], .func (.func 60) #[] #[], .func (.func 61) #[] #[], .func (.func 62) #[] #[], .func (.func 63) #[] #[], .func (.func 64) #[] #[], .func (.func 65) #[] #[], .func (.func 66) #[] #[], .func (.func 67) #[] #[], .func (.func 68) #[] #[], .func (.func 69) #[] #[], .func (.func 70) #[] #[], .func (.func 71) #[] #[], .func (.func 72) #[] #[], .func (.func 73) #[] #[]]), (17, vI (c.op)), (19, vP f)]) (hp' := fun (_ : Unit) => ((pA f m t L S) ++ [.abs R, pC b2 (c0 c), G1 b3])) rfl rfl ?_ (by rintro _ w hS; exact hS.first (i := 7) (b := b2) rfl rfl) ?_
    ·
     refine gL [] (Bh) ?_
     rintro _ _ ⟨rfl, rfl⟩
     refine NL ?_
     exact MD () [3, 4, 15, 17, 19] [0, 1, 2, 3, 4, 5, 6, 7, 8]
    rintro _
    refine aD.C2 (ι := Unit) (fr' := fun (_ : Unit) => [(3, vP b2), (4, vP b3), (18, .func (.func (El.getD (c.op.toNat - 1) 0)) #[] #[]), (19, vP f)]) (hp' := fun (_ : Unit) => ((pA f m t L S) ++ [.abs R, pC b2 (c0 c), G1 b3])) rfl rfl ?_ (by rintro _ w hS; exact hS.first (i := 7) (b := b2) rfl rfl) ?_
    ·
     refine ah.hn (x := (.tmp 15)) (y := (.tmp 17)) (d := (some 18)) hop ?_
     refine NL ?_
     exact MD () [3, 4, 18, 19] [0, 1, 2, 3, 4, 5, 6, 7, 8]
    rintro _
    refine aD.C2 (ι := HL) (fr' := fun (L2 : HL) => [(3, vP b2), (4, vP b3), (20, vI ((opM S (c0 c)).1))]) (hp' := fun (L2 : HL) => ((pA f m t L2 ((opM S (c0 c)).2.1)) ++ [pC b2 ((opM S (c0 c)).2.2), .abs R, G1 b3])) rfl rfl ?_ (by rintro L2 w hS; exact hS.first (i := 6) (b := b2) rfl (congrArg (fun z => some (Value.int .i64 z)) (Em (c := (c0 c)) hop))) ?_
    ·
     refine gL [0, 1, 2, 3, 4, 5, 7] (KX (S := S) (L := L) (f := f) (m := m) (t := t) (b := b2) (c := (c0 c)) c.op hI ⟨hC.hw, hC.ow, hC.nm, hC.tx, hC.da, hC.dl, hC.dc⟩ hop rfl) ?_ (by intro _; rcases C3 hop with h | h | h | h | h | h | h | h | h | h | h | h | h | h | h <;> rw [h] <;> kernel_rfl)
     rintro _ _ ⟨L2, rfl, rfl⟩
     refine NL ?_
     exact MD L2 [3, 4, 20] [0, 1, 2, 3, 4, 5, 6, 7, 8]
    rintro L2
    refine aD.C2 (ι := Unit) (fr' := fun (_ : Unit) => [(3, vP b2), (4, vP b3), (20, vI ((opM S (c0 c)).1)), (21, .pointer (some ⟨b2, 11, none⟩))]) (hp' := fun (_ : Unit) => ((pA f m t L2 ((opM S (c0 c)).2.1)) ++ [pC b2 ((opM S (c0 c)).2.2), .abs R, G1 b3])) rfl rfl ?_ (by rintro _ w hS; exact hS.first (i := 6) (b := b2) rfl (congrArg (fun z => some (Value.int .i64 z)) (Em (c := (c0 c)) hop))) ?_
    ·
     refine gK 1 [(21, .pointer (some ⟨b2, 11, none⟩))] [] ?_
     refine NL ?_
     exact MD () [3, 4, 20, 21] [0, 1, 2, 3, 4, 5, 6, 7, 8]
    rintro _
    refine aD.last rfl rfl ?_
    refine gC 1 [] [(0, a_ 6 b2)] [(6, [(11, .int .i64 ((opM S (c0 c)).1))])] ?_
    refine NL (aj.np (NX (SR ?_)))
    refine gC 2 [] [(0, A_ 6 b2 13), (1, A_ 8 b3 13)] [(8, [(0, .int .i64 ((opM S (c0 c)).2.2.op)), (1, .int .i64 ((opM S (c0 c)).2.2.handle)), (2, .int .i64 ((opM S (c0 c)).2.2.other)), (3, .string (opM S (c0 c)).2.2.name), (4, .string (opM S (c0 c)).2.2.text), (5, .slice (opM S (c0 c)).2.2.dA ((opM S (c0 c)).2.2.data.length) ((opM S (c0 c)).2.2.dC)), (6, .int .i64 ((opM S (c0 c)).2.2.mode)), (7, .int .i64 ((opM S (c0 c)).2.2.uid)), (8, .int .i64 ((opM S (c0 c)).2.2.gid)), (9, .int .i64 ((opM S (c0 c)).2.2.sec)), (10, .int .i64 ((opM S (c0 c)).2.2.nano)), (11, .int .i64 ((opM S (c0 c)).1)), (12, .int .i64 ((opM S (c0 c)).2.2.answer))])] ?_
    refine NN (af.ret ?_)
    exact aj.ret (v := .agg #[.int .i64 ((opM S (c0 c)).2.2.op), .int .i64 ((opM S (c0 c)).2.2.handle), .int .i64 ((opM S (c0 c)).2.2.other), .string (opM S (c0 c)).2.2.name, .string (opM S (c0 c)).2.2.text, .slice (opM S (c0 c)).2.2.dA ((opM S (c0 c)).2.2.data.length) ((opM S (c0 c)).2.2.dC), .int .i64 ((opM S (c0 c)).2.2.mode), .int .i64 ((opM S (c0 c)).2.2.uid), .int .i64 ((opM S (c0 c)).2.2.gid), .int .i64 ((opM S (c0 c)).2.2.sec), .int .i64 ((opM S (c0 c)).2.2.nano), .int .i64 ((opM S (c0 c)).1), .int .i64 ((opM S (c0 c)).2.2.answer)]) (l := (pA f m t L2 ((opM S (c0 c)).2.1))) (ak := [b3 = b3, b3 = b3, b3 = b3, b3 = b3, b3 = b3, b3 = b3, b3 = b3, b3 = b3, b3 = b3, b3 = b3, b3 = b3, b3 = b3, b3 = b3]) [.at 8, .at 8, .at 8, .at 8, .at 8, .at 8, .at 8, .at 8, .at 8, .at 8, .at 8, .at 8, .at 8] [0, 1, 2, 3, 4, 5, 7] (fun _ => by kernel_rfl) ⟨rfl, rfl, rfl, rfl, rfl, rfl, rfl, rfl, rfl, rfl, rfl, rfl, rfl, trivial⟩ rfl (by kernel_rfl) (⟨L2, rfl, rfl⟩)
  ·
   refine af.skip (NX (SR ?_))
   refine gC 2 [] [(0, A_ 7 b2 13), (1, A_ 8 b3 13)] [(8, (Lz c))] ?_
   refine NN (af.ret ?_)
   exact aj.ret (v := .agg #[.int .i64 (c.op), .int .i64 (c.handle), .int .i64 (c.other), .string c.name, .string c.text, .slice c.dA (c.data.length) (c.dC), .int .i64 (c.mode), .int .i64 (c.uid), .int .i64 (c.gid), .int .i64 (c.sec), .int .i64 (c.nano), .int .i64 230, .int .i64 0]) (l := (pA f m t L S)) (ak := [b3 = b3, b3 = b3, b3 = b3, b3 = b3, b3 = b3, b3 = b3, b3 = b3, b3 = b3, b3 = b3, b3 = b3, b3 = b3, b3 = b3, b3 = b3]) [.at 8, .at 8, .at 8, .at 8, .at 8, .at 8, .at 8, .at 8, .at 8, .at 8, .at 8, .at 8, .at 8] [0, 1, 2, 3, 4, 5, 6] (fun _ => by kernel_rfl) ⟨rfl, rfl, rfl, rfl, rfl, rfl, rfl, rfl, rfl, rfl, rfl, rfl, rfl, trivial⟩ rfl (by kernel_rfl) (⟨L, by unfold doM; rw [Ai (S := S) (c := (c0 c)) (by show ¬ (1 ≤ c.op ∧ c.op ≤ 15); omega)]; exact ⟨rfl, rfl⟩⟩)
 ·
  refine gK 4 [(14, .bool false)] [] ?_
  refine NN ?_
  refine CF ?_
  refine af.skip (NX (SR ?_))
  refine gC 2 [] [(0, A_ 7 b2 13), (1, A_ 8 b3 13)] [(8, (Lz c))] ?_
  refine NN (af.ret ?_)
  exact aj.ret (v := .agg #[.int .i64 (c.op), .int .i64 (c.handle), .int .i64 (c.other), .string c.name, .string c.text, .slice c.dA (c.data.length) (c.dC), .int .i64 (c.mode), .int .i64 (c.uid), .int .i64 (c.gid), .int .i64 (c.sec), .int .i64 (c.nano), .int .i64 230, .int .i64 0]) (l := (pA f m t L S)) (ak := [b3 = b3, b3 = b3, b3 = b3, b3 = b3, b3 = b3, b3 = b3, b3 = b3, b3 = b3, b3 = b3, b3 = b3, b3 = b3, b3 = b3, b3 = b3]) [.at 8, .at 8, .at 8, .at 8, .at 8, .at 8, .at 8, .at 8, .at 8, .at 8, .at 8, .at 8, .at 8] [0, 1, 2, 3, 4, 5, 6] (fun _ => by kernel_rfl) ⟨rfl, rfl, rfl, rfl, rfl, rfl, rfl, rfl, rfl, rfl, rfl, rfl, rfl, trivial⟩ rfl (by kernel_rfl) (⟨L, by unfold doM; rw [Ai (S := S) (c := (c0 c)) (by show ¬ (1 ≤ c.op ∧ c.op ≤ 15); omega)]; exact ⟨rfl, rfl⟩⟩)
end Go.Proofs.YtkiedlmhocglhaaGreat
end
section
namespace Go.Proofs.YtkiedlmhocglhaaGreat
open Go.RowKit Go.Maps HeapM TabM
section inv
variable {S : aH} {d to : Nat} {name toName text : ByteArray} {mode : Int} {c : aU}
theorem Aq (hI : Inv0 S) : hnd S.us (aE S.X) = 0 := by
  have : hnd S.us (aE S.X) = cG (fun _ => 0) S.us := dX (fun p hp => if_neg (hI.fresh.us p hp))
  rw [this]
  have h0 : ∀ us : Used Th, cG (fun _ => 0) us = 0 := fun us => by
    induction us with
    | nil => rfl
    | cons p r ih => show 0 + _ = 0; rw [ih]
  exact h0 _
theorem uD (hI : Inv0 S) {kind mode : Int} {tg : ByteArray} (hm : kA mode) (ht : dz kind tg) : iT { aQ S.X kind mode with target := tg } :=
  ⟨hm, ⟨Int.le_refl _, by show (0 : Int) ≤ 2147483647; decide⟩, ⟨Int.le_refl _, by show (0 : Int) ≤ 2147483647; decide⟩, hI.now, fun _ => rfl, fun _ => rfl, ht⟩
theorem Inv.G2 (hI : Inv S) (hd : Live S.idx ⟨d, 2⟩) (iK : (obj S.O d).gone = false) (iL : cC name) (h0 : bY S.X S.O S.idx d name = 0) {kind mode : Int} {tg : ByteArray} (hk : kind = 1 ∨ kind = 2 ∨ kind = 3) (hm : kA mode) (ht : dz kind tg) :
    Inv (ct S d name { aQ S.X kind mode with target := tg }) := by
  have h := hI.add (us' := S.us) (dY := S.au) (o := { aQ S.X kind mode with target := tg }) hd iK (nu h0) iL (qi h0) rfl hk rfl rfl rfl rfl rfl (uD hI.toInv0 hm ht) hI.usr hI.sP hI.yC hI.au (fun h t e => ⟨.inl (hI.us h t e).1, (hI.us h t e).2⟩) (fun _ _ => rfl) (by rw [Aq hI.toInv0]; rfl)
  exact h
theorem Inv.mkdirM (hI : Inv S) (hd : Live S.idx ⟨d, 2⟩) (iK : (obj S.O d).gone = false) (iL : cC name) (hm : kA mode) : Inv (Proofs.YtkiedlmhocglhaaGreat.mkdirM S d name mode).2 := by
  unfold Proofs.YtkiedlmhocglhaaGreat.mkdirM
  split
  · rename_i h0
    exact hI.G2 hd iK iL h0 (.inr (.inl rfl)) hm (.inl ⟨by decide, rfl⟩)
  · exact hI
theorem H6 {s : ByteArray} (h : ko s = 0) : dz 3 s := by
  unfold ko at h
  split at h
  · cases h
  · rename_i h1
    split at h
    · cases h
    · split at h
      · rename_i h2 h3
        refine .inr ⟨rfl, ?_, by omega, h3⟩
        apply Classical.byContradiction
        intro hn
        have : s.size = 0 := by omega
        exact h1 (jc.1 this)
      · cases h
theorem Inv.symlinkM (hI : Inv S) (hd : Live S.idx ⟨d, 2⟩) (iK : (obj S.O d).gone = false) (iL : cC name) : Inv (Proofs.YtkiedlmhocglhaaGreat.symlinkM S d name text).2 := by
  unfold Proofs.YtkiedlmhocglhaaGreat.symlinkM
  split
  · rename_i hb
    split
    · rename_i h0
      exact hI.G2 hd iK iL h0 (.inr (.inr rfl)) ⟨by decide, by decide⟩ (H6 hb)
    · exact hI
  · exact hI
theorem Inv.unlinkM (hI : Inv S) (hd : Live S.idx ⟨d, 2⟩) : Inv (Proofs.YtkiedlmhocglhaaGreat.unlinkM S d name).2 := by
  unfold Proofs.YtkiedlmhocglhaaGreat.unlinkM
  split
  · exact hI
  · rename_i t hl
    split
    · exact hI
    · rename_i hk
      exact hI.ud hd hl hk
theorem Inv.rmdirM (hI : Inv S) (hd : Live S.idx ⟨d, 2⟩) : Inv (Proofs.YtkiedlmhocglhaaGreat.rmdirM S d name).2 := by
  unfold Proofs.YtkiedlmhocglhaaGreat.rmdirM
  split
  · exact hI
  · rename_i t hl
    split
    · split
      · rename_i he
        exact hI.drop hd hl (fun _ => he)
      · exact hI
    · exact hI
theorem C4 {t : Th} (ht : t.k ≠ to) : (obj (ar S d name t).O to).gone = (obj S.O to).gone := by
  have h1 : (obj (ar S d name t).O to).gone = (obj (aG S.X S.O d name t) to).gone := by
    unfold ar
    simp only
    split
    · show (obj (aB _ t.k _) to).gone = _
      rw [bP (fun e => ht e.symm)]
    · rfl
  rw [h1]
  exact cE (g := aM.gone) (fun _ _ => rfl) (fun _ _ => rfl) (fun _ _ _ => rfl)
theorem Inv.renameM (hI : Inv S) (hd : Live S.idx ⟨d, 2⟩) (hto : Live S.idx ⟨to, 2⟩) (iK : (obj S.O to).gone = false) (iL : cC toName) : Inv (Proofs.YtkiedlmhocglhaaGreat.renameM S d name to toName).2 := by
  unfold Proofs.YtkiedlmhocglhaaGreat.renameM
  split
  · exact hI
  · rename_i t hl
    split
    · exact hI
    · rename_i hb
      have hb : t.kind = 2 → ¬ gJ S.O t.k to := fun h1 h2 => hb ⟨h1, h2⟩
      split
      · rename_i hn
        exact hI.move hd hl hto iK hn iL hb
      · rename_i o hl2
        split
        · exact hI
        · rename_i hot
          split
          · exact hI
          · rename_i hok
            split
            · exact hI
            · rename_i MO
              have ho := (hI.ent hto hl2).2
              have JQ : o.k ≠ to := hI.ne hto hl2
              have h1 := hI.ud hto hl2 hok
              have hd1 : Live (ar S to toName o).idx ⟨d, 2⟩ := gA hI.toInv0 hto hl2 hd (fun e => hok (by have := eB hd ho e; rw [← this]))
              have gT : Live (ar S to toName o).idx ⟨to, 2⟩ := gA hI.toInv0 hto hl2 hto (fun e => JQ e.symm)
              exact h1.move hd1 (nw hI.toInv0 hto hl2 hl hot) gT (by rw [C4 JQ]; exact iK) (ny hI.toInv0 hto hl2) iL (fun h => absurd h MO)
theorem Inv.linkM (hI : Inv S) (hd : Live S.idx ⟨d, 2⟩) (hto : Live S.idx ⟨to, 2⟩) (iK : (obj S.O to).gone = false) (iL : cC toName) : Inv (Proofs.YtkiedlmhocglhaaGreat.linkM S d name to toName).2 := by
  unfold Proofs.YtkiedlmhocglhaaGreat.linkM
  split
  · exact hI
  · rename_i t hl
    have ht := (hI.ent hd hl).2
    split
    · exact hI
    · rename_i hk
      split
      · rename_i hn
        split
        · rename_i hr
          have hgt : (obj S.O t.k).gone = false := by
            cases hg : (obj S.O t.k).gone with
            | false => rfl
            | true =>
              have h1 := (hI.gone t ht hg).1
              have h2 := hI.links t ht
              have h3 : 0 < fH S.idx S.O t.k := j9 hd hl
              omega
          exact hI.link hto iK hn iL ht hgt hk hr
        · exact hI
      · exact hI
theorem Inv.createM (hI : Inv S) (hd : Live S.idx ⟨d, 2⟩) (iK : (obj S.O d).gone = false) (iL : cC name) (hm : kA mode) : Inv (Proofs.YtkiedlmhocglhaaGreat.createM S d name mode).2.2 := by
  unfold Proofs.YtkiedlmhocglhaaGreat.createM
  split
  · rename_i h0
    split
    · rename_i hlt
      obtain ⟨g1, g2, _⟩ := least_le hI.usr (fun x hx => (hI.sP x hx).1)
      obtain ⟨v1, v2⟩ := BG (t := ⟨aE S.X, 1⟩) hI.usr hI.sP
      have hm2 := uD (kind := 1) (tg := ⟨#[]⟩) hI.toInv0 hm (.inl ⟨by decide, rfl⟩)
      refine hI.add (us' := ins (TabM.least S.us) ⟨aE S.X, 1⟩ S.us) (dY := max S.au ((S.us.length : Int) + 1)) (o := { aQ S.X 1 mode with opens := 1 }) hd iK (nu h0) iL (qi h0) rfl (.inl rfl) rfl rfl rfl rfl rfl ⟨hm2.mode, hm2.uid, hm2.gid, hm2.time, hm2.data, hm2.ai, hm2.target⟩ v1 v2 (by rw [fJ]; omega) (by have := hI.au; omega) (fun h t e => ?_) (fun k hk => ?_) ?_
      · rw [qF g2] at e
        split at e
        · cases e; exact ⟨.inr rfl, by show (1 : Int) ≠ 3; decide⟩
        · exact ⟨.inl (hI.us h t e).1, (hI.us h t e).2⟩
      · rw [xC, if_neg (fun e => hk e.symm), Nat.zero_add]
      · rw [xC, if_pos rfl, Aq hI.toInv0]; rfl
    · exact hI
  · exact hI
theorem Inv.opM (hI : Inv S) (c : aU) : Inv (Proofs.YtkiedlmhocglhaaGreat.opM S c).2.1 := by
  have habout : ∀ {need : Int} {d : Nat} {h : Int} {n : ByteArray}, cx S.O S.us h n need = .ok d → Live S.idx ⟨d, 2⟩ ∧ (obj S.O d).gone = false ∧ cC n := fun {need d h n} e => by
    rcases jm hI.toInv0 h n need with ⟨e2, h1, _⟩ | ⟨d2, h1, h2, h3, h4, _⟩
    · rw [e] at h1; cases h1
    · rw [e] at h1; cases h1; exact ⟨h2, h3, h4⟩
  have En : ∀ {t : Th}, d6 S.O S.us c = .ok t → Live S.idx t := fun {t} e => by
    rcases wA hI.toInv0 c with ⟨e2, h1, _⟩ | ⟨k, h1, h2⟩ | ⟨k, h1, h2⟩ | ⟨k, h1, h2⟩ <;> rw [e] at h1 <;> cases h1 <;> exact h2
  by_cases h : 1 ≤ c.op ∧ c.op ≤ 15
  · have h : c.op = 1 ∨ c.op = 2 ∨ c.op = 3 ∨ c.op = 4 ∨ c.op = 5 ∨ c.op = 6 ∨ c.op = 7 ∨ c.op = 8 ∨ c.op = 9 ∨ c.op = 10 ∨ c.op = 11 ∨ c.op = 12 ∨ c.op = 13 ∨ c.op = 14 ∨ c.op = 15 := by omega
    rcases h with h | h | h | h | h | h | h | h | h | h | h | h | h | h | h
    · rw [y4 h]
      unfold ij
      split
      · exact hI
      · rename_i t e
        split
        · rename_i hk; exact hI.openM (hI.live e) (by rw [hk]; decide)
        · exact hI
    · rw [y5 h]
      unfold dU
      split
      · exact hI
      · rename_i t e
        split
        · exact hI
        · rename_i hk
          split
          · exact hI
          · exact hI.openM (En e) hk
    · rw [y6 h]
      unfold dI
      split
      · exact hI
      · rename_i t e
        split
        · exact hI
        · rename_i hk
          split
          · exact hI
          · exact hI.openM (En e) hk
    · rw [y7 h]
      unfold eN
      split
      · exact hI
      · rename_i d e
        obtain ⟨h1, h2, h3⟩ := habout e
        split
        · rename_i hm; exact hI.mkdirM h1 h2 h3 hm
        · exact hI
    · rw [CP h]
      unfold dm
      split
      · exact hI
      · rename_i d e
        obtain ⟨h1, h2, h3⟩ := habout e
        split
        · rename_i hm
          split
          · exact hI.createM h1 h2 h3 hm
          · exact hI
        · exact hI
    · rw [CQ h]
      unfold eH
      split
      · exact hI
      · rename_i d e
        obtain ⟨h1, h2, h3⟩ := habout e
        exact hI.symlinkM h1 h2 h3
    · rw [CR h]
      unfold bV
      split
      · exact hI
      · rename_i d e
        split
        · exact hI
        · rename_i to e2
          obtain ⟨h1, h2, h3⟩ := habout e2
          exact hI.linkM (habout e).1 h1 h2 h3
    · rw [y8 h]
      unfold eS
      split
      · exact hI
      · rename_i d e
        exact hI.unlinkM (habout e).1
    · rw [y9 h]
      unfold eO
      split
      · exact hI
      · rename_i t e
        split
        · rename_i hk
          obtain ⟨k, kd⟩ := t
          simp only at hk
          subst hk
          exact hI.writeM (hI.us _ _ e).1 _
        · exact hI
    · rw [Ac h]
      unfold bB
      split
      · exact hI
      · split
        · exact hI
        · split
          · rename_i hm
            split
            · rename_i ho
              split
              · rename_i ht; exact hI.KU hm ho ht
              · exact hI
            · exact hI
          · exact hI
    · rw [Ad h]
      unfold jA
      split <;> exact hI
    · rw [Af h]
      unfold eY
      split <;> exact hI
    · rw [wB h]
      unfold gG
      split
      · exact hI
      · rename_i t e; exact hI.shut e
    · rw [Ag h]
      unfold fX
      split
      · exact hI
      · rename_i d e
        exact hI.rmdirM (habout e).1
    · rw [Ah h]
      unfold eu
      split
      · exact hI
      · rename_i d e
        split
        · exact hI
        · rename_i to e2
          obtain ⟨h1, h2, h3⟩ := habout e2
          exact hI.renameM (habout e).1 h1 h2 h3
  · rw [Ai h]; exact hI
theorem Inv.doM (hI : Inv S) (c : aU) : Inv (Proofs.YtkiedlmhocglhaaGreat.doM S c).1 := hI.opM _
end inv
end Go.Proofs.YtkiedlmhocglhaaGreat
end
section
namespace Go.Proofs
open Go.Shelf
def Tryz.keysS_ren : Go.Shelf.Ren := ⟨fun | 7 => 35 | 10 => 79 | n => n, fun | 23 => 99 | 26 => 9 | 3 => 87 | 28 => 117 | 0 => 0 | 27 => 116 | 33 => 149 | 4 => 4 | n => n, fun | n => n⟩
theorem Tryz.keysS : Go.Proofs.SlLaysZ.n7 Tryz.prog Tryz.keysS_ren := {
  mixed := by kernel_rfl
  f7 := ⟨Tryz.f35.name, by decide, Tryz.func35.trans (congrArg some (by kernel_rfl))⟩
  f10 := ⟨Tryz.f79.name, by decide, Tryz.func79.trans (congrArg some (by kernel_rfl))⟩
  t0 := Tryz.underlying0
  a0 := Tryz.isAgg0
  z0 := Tryz.sizeOf0
  v0 := Tryz.zeroValue0
  t4 := Tryz.underlying4
  a4 := Tryz.isAgg4
  z4 := Tryz.sizeOf4
  v4 := Tryz.zeroValue4
  t23 := Tryz.underlying99
  a23 := Tryz.isAgg99
  z23 := Tryz.sizeOf99
  v23 := Tryz.zeroValue99
  t26 := Tryz.underlying9
  a26 := Tryz.isAgg9
  z26 := Tryz.sizeOf9
  v26 := Tryz.zeroValue9
  t27 := Tryz.underlying116
  a27 := Tryz.isAgg116
  z27 := Tryz.sizeOf116
  v27 := Tryz.zeroValue116
  t28 := Tryz.underlying117
  a28 := Tryz.isAgg117
  z28 := Tryz.sizeOf117
  v28 := Tryz.zeroValue117
  t33 := Tryz.underlying149
  a33 := Tryz.isAgg149
  z33 := Tryz.sizeOf149
  v33 := Tryz.zeroValue149 }
def Tryz.sortedS_ren : Go.Shelf.Ren := ⟨fun | 6 => 34 | 8 => 77 | 9 => 78 | 11 => 130 | 13 => 129 | 12 => 131 | 23 => 159 | 24 => 160 | 14 => 161 | 15 => 162 | 16 => 163 | 17 => 164 | 18 => 165 | 19 => 166 | 20 => 167 | 21 => 168 | 22 => 169 | 25 => 184 | 26 => 179 | 27 => 180 | 28 => 185 | 29 => 186 | 30 => 187 | 31 => 192 | n => n, fun | 26 => 9 | 28 => 117 | 24 => 114 | 0 => 0 | 3 => 3 | 37 => 195 | 48 => 219 | 50 => 221 | 4 => 4 | 40 => 213 | 39 => 212 | 45 => 204 | 5 => 5 | 9 => 9 | 51 => 235 | 55 => 239 | 57 => 247 | 58 => 248 | 33 => 149 | n => n, fun | n => n⟩
theorem Tryz.sortedS : Go.Proofs.SlLaysZ.n6 Tryz.prog Tryz.sortedS_ren := {
  mixed := by kernel_rfl
  f6 := ⟨Tryz.f34.name, by decide, Tryz.func34.trans (congrArg some (by kernel_rfl))⟩
  f8 := ⟨Tryz.f77.name, by decide, Tryz.func77.trans (congrArg some (by kernel_rfl))⟩
  f11 := ⟨Tryz.f130.name, by decide, Tryz.func130.trans (congrArg some (by kernel_rfl))⟩
  t0 := Tryz.underlying0
  a0 := Tryz.isAgg0
  z0 := Tryz.sizeOf0
  v0 := Tryz.zeroValue0
  t24 := Tryz.underlying114
  a24 := Tryz.isAgg114
  z24 := Tryz.sizeOf114
  v24 := Tryz.zeroValue114
  t26 := Tryz.underlying9
  a26 := Tryz.isAgg9
  z26 := Tryz.sizeOf9
  v26 := Tryz.zeroValue9
  t28 := Tryz.underlying117
  a28 := Tryz.isAgg117
  z28 := Tryz.sizeOf117
  v28 := Tryz.zeroValue117
  i26 := by kernel_rfl }
def Tryz.sortS_ren : Go.Shelf.Ren := ⟨fun | 6 => 78 | 8 => 129 | 9 => 131 | 19 => 159 | 20 => 160 | 21 => 161 | 22 => 162 | 23 => 163 | 24 => 164 | 25 => 165 | 26 => 166 | 27 => 167 | 28 => 168 | 29 => 169 | 36 => 184 | 31 => 179 | 32 => 180 | 37 => 185 | 38 => 186 | 39 => 187 | 41 => 192 | n => n, fun | 27 => 114 | 29 => 9 | 3 => 3 | 32 => 195 | 26 => 114 | 0 => 0 | 44 => 219 | 46 => 221 | 4 => 4 | 36 => 213 | 35 => 212 | 41 => 204 | 5 => 5 | 9 => 9 | 53 => 235 | 57 => 239 | 63 => 247 | 64 => 248 | n => n, fun | n => n⟩
theorem Tryz.sortS : Go.Proofs.SlLaysM.n6 Tryz.prog Tryz.sortS_ren := {
  mixed := by kernel_rfl
  f6 := ⟨Tryz.f78.name, by decide, Tryz.func78.trans (congrArg some (by kernel_rfl))⟩
  f8 := Tryz.func129.trans (congrArg some (by kernel_rfl))
  f9 := ⟨Tryz.f131.name, by decide, Tryz.func131.trans (congrArg some (by kernel_rfl))⟩
  f19 := Tryz.func159.trans (congrArg some (by kernel_rfl))
  f20 := Tryz.func160.trans (congrArg some (by kernel_rfl))
  f21 := ⟨Tryz.f161.name, by decide, Tryz.func161.trans (congrArg some (by kernel_rfl))⟩
  f22 := ⟨Tryz.f162.name, by decide, Tryz.func162.trans (congrArg some (by kernel_rfl))⟩
  f23 := ⟨Tryz.f163.name, by decide, Tryz.func163.trans (congrArg some (by kernel_rfl))⟩
  f24 := ⟨Tryz.f164.name, by decide, Tryz.func164.trans (congrArg some (by kernel_rfl))⟩
  f25 := ⟨Tryz.f165.name, by decide, Tryz.func165.trans (congrArg some (by kernel_rfl))⟩
  f26 := ⟨Tryz.f166.name, by decide, Tryz.func166.trans (congrArg some (by kernel_rfl))⟩
  f27 := ⟨Tryz.f167.name, by decide, Tryz.func167.trans (congrArg some (by kernel_rfl))⟩
  f28 := ⟨Tryz.f168.name, by decide, Tryz.func168.trans (congrArg some (by kernel_rfl))⟩
  f29 := ⟨Tryz.f169.name, by decide, Tryz.func169.trans (congrArg some (by kernel_rfl))⟩
  f31 := Tryz.func179.trans (congrArg some (by kernel_rfl))
  f32 := Tryz.func180.trans (congrArg some (by kernel_rfl))
  f36 := ⟨Tryz.f184.name, by decide, Tryz.func184.trans (congrArg some (by kernel_rfl))⟩
  f37 := ⟨Tryz.f185.name, by decide, Tryz.func185.trans (congrArg some (by kernel_rfl))⟩
  f38 := ⟨Tryz.f186.name, by decide, Tryz.func186.trans (congrArg some (by kernel_rfl))⟩
  f39 := ⟨Tryz.f187.name, by decide, Tryz.func187.trans (congrArg some (by kernel_rfl))⟩
  f41 := ⟨Tryz.f192.name, by decide, Tryz.func192.trans (congrArg some (by kernel_rfl))⟩
  t0 := Tryz.underlying0
  a0 := Tryz.isAgg0
  z0 := Tryz.sizeOf0
  v0 := Tryz.zeroValue0
  t3 := Tryz.underlying3
  a3 := Tryz.isAgg3
  z3 := Tryz.sizeOf3
  v3 := Tryz.zeroValue3
  t4 := Tryz.underlying4
  a4 := Tryz.isAgg4
  z4 := Tryz.sizeOf4
  v4 := Tryz.zeroValue4
  t5 := Tryz.underlying5
  a5 := Tryz.isAgg5
  z5 := Tryz.sizeOf5
  v5 := Tryz.zeroValue5
  t9 := Tryz.underlying9
  a9 := Tryz.isAgg9
  z9 := Tryz.sizeOf9
  v9 := Tryz.zeroValue9
  t26 := Tryz.underlying114
  a26 := Tryz.isAgg114
  z26 := Tryz.sizeOf114
  v26 := Tryz.zeroValue114
  t27 := Tryz.underlying114
  a27 := Tryz.isAgg114
  z27 := Tryz.sizeOf114
  v27 := Tryz.zeroValue114
  t29 := Tryz.underlying9
  a29 := Tryz.isAgg9
  z29 := Tryz.sizeOf9
  v29 := Tryz.zeroValue9
  t32 := Tryz.underlying195
  a32 := Tryz.isAgg195
  z32 := Tryz.sizeOf195
  v32 := Tryz.zeroValue195
  t35 := Tryz.underlying212
  a35 := Tryz.isAgg212
  z35 := Tryz.sizeOf212
  v35 := Tryz.zeroValue212
  t36 := Tryz.underlying213
  a36 := Tryz.isAgg213
  z36 := Tryz.sizeOf213
  v36 := Tryz.zeroValue213
  t41 := Tryz.underlying204
  a41 := Tryz.isAgg204
  z41 := Tryz.sizeOf204
  v41 := Tryz.zeroValue204
  t44 := Tryz.underlying219
  a44 := Tryz.isAgg219
  z44 := Tryz.sizeOf219
  v44 := Tryz.zeroValue219
  t46 := Tryz.underlying221
  a46 := Tryz.isAgg221
  z46 := Tryz.sizeOf221
  v46 := Tryz.zeroValue221
  t53 := Tryz.underlying235
  a53 := Tryz.isAgg235
  z53 := Tryz.sizeOf235
  v53 := Tryz.zeroValue235
  t57 := Tryz.underlying239
  a57 := Tryz.isAgg239
  z57 := Tryz.sizeOf239
  v57 := Tryz.zeroValue239
  t63 := Tryz.underlying247
  a63 := Tryz.isAgg247
  z63 := Tryz.sizeOf247
  v63 := Tryz.zeroValue247
  t64 := Tryz.underlying248
  a64 := Tryz.isAgg248
  z64 := Tryz.sizeOf248
  v64 := Tryz.zeroValue248 }
end Go.Proofs
end
section
namespace Go.Proofs.YtkiedlmhocglhaaGreat
open Go.RowKit Go.Maps Go.Sort Go.Shelf
theorem JR (m : Nat) : AnyZ.SortsIn Tryz.prog Tryz.sortedS_ren Fence.wide m :=
  ⟨fun blk off cap ss W hH hblk hsz => callsIn_wide.2 (AnyM.slices_Sort_string Tryz.sortS blk off cap ss W hH hblk hsz),
   fun p cap W => callsIn_wide.2 (AnyM.slices_Sort_string_none Tryz.sortS p cap W)⟩
def xK (bk : Nat) : Value := .func (.func 79) #[] #[.pointer (some ⟨bk, 0, none⟩)]
theorem FY {β : Bs} (mb : Option Nat) : Spec Tryz.prog β 35 #[.map mb] [] (fun v l => ∃ bk, v = xK bk ∧ l = [.blk bk [.map mb] 99]) :=
  Spec.Dl fun W _ => by
    have h : CallsIn Fence.wide 5 Tryz.prog 35 #[.map mb] W fun e w' => e = .returned (xK W.heap.size) ∧ w' = W.alloc (.cells #[.map mb] 99) := AnyZ.keys_in Tryz.keysS Fence.wide 5 trivial rfl mb W
    refine ((callsIn_wide (n := 5)).1 h).mono ?_
    rintro e w' ⟨rfl, rfl⟩
    refine ⟨_, _, rfl, ⟨W.heap.size, rfl, rfl⟩, (Keeps.refl _ _).alloc _, fun k => k = W.heap.size, ⟨?_, fun k => Iff.rfl⟩, fun k hk => Nat.le_of_eq hk.symm⟩
    show (W.heap.push _)[W.heap.size]? = _
    simp
def lQ (es : dD Th) : List Value := es.map (fun e => .string e.1)
theorem Bj {es : dD Th} (h : gI es) : (es.map (fun e => e.1.data.toList)).Pairwise (· < ·) := by
  refine List.pairwise_map.2 (h.imp (fun {a b} hab => ?_))
  unfold ig at hab
  have h1 : ¬ Op.bytesLess b.1.toList a.1.toList = true := fun e => hab (by rw [e]; rfl)
  have h2 : ¬ b.1.toList = a.1.toList := fun e => hab (by rw [e]; simp)
  rw [bytesLess_eq, Lib.toList_data, Lib.toList_data] at h1
  rw [Lib.toList_data, Lib.toList_data] at h2
  by_cases e : a.1.data.toList < b.1.data.toList
  · exact e
  · exfalso
    have e := List.not_lt.1 e
    rcases List.le_iff_lt_or_eq.1 e with e | e
    · exact h1 (by simpa using e)
    · exact h2 e
theorem FZ {w : World} {b n : Nat} {L : HL} {es : dD Th} {D : DataW Value} (hr : gI es) (hown : w.ownsMap Tryz.prog 9 nQ b n D) (hf : ∀ kl, Maps.has D kl = (fB L es kl).isSome) {ss : List (List UInt8)} (hp : ss.Perm (strKeys D)) :
    ss.mergeSort (fun x y => decide (x ≤ y)) = es.map (fun e => e.1.data.toList) := by
  have hsort := Bj hr
  obtain ⟨es', hD, hpw, _⟩ := hown.entries uU
  obtain ⟨MP, LA, hko⟩ := hown.keysOf
  obtain rfl : es' = MP := by rw [hD] at LA; simpa using LA
  have hp2 : (es.map (fun e => e.1.data.toList)).Perm (strKeys D) := by
    rw [hD]
    refine perm_strKeys hpw (fun p hp => ?_) (hsort.imp (fun {a b} h e => by subst e; exact absurd h (List.lt_irrefl a))) (fun x => ?_)
    · obtain ⟨v, hv⟩ := hko p hp
      obtain ⟨x, _, h, _⟩ := keyOf_str Tryz.underlying9 hv
      exact ⟨x, h⟩
    · rw [← hD, hf]
      show _ ↔ ((aT ⟨x.toArray⟩ es).map (cM L)).isSome = true
      rw [Option.isSome_map]
      constructor
      · intro hx
        obtain ⟨e, he, rfl⟩ := List.mem_map.1 hx
        have h1 : (⟨e.1.data.toList.toArray⟩ : ByteArray) = e.1 := by rw [Array.toArray_toList]
        rw [h1, sO (t := e.2) (gI.twice hr) he]; rfl
      · intro hx
        obtain ⟨t, ht⟩ := Option.isSome_iff_exists.1 hx
        exact List.mem_map.2 ⟨_, jK ht, by simp⟩
  have h3 := mergeSort_of_perm (hp.trans hp2.symm)
  have h4 : (es.map (fun e => e.1.data.toList)).mergeSort leB = es.map (fun e => e.1.data.toList) := List.mergeSort_of_pairwise (hsort.imp (fun {a b} h => by simp only [leB, decide_eq_true_eq]; exact List.le_of_lt h))
  exact h3.trans h4
theorem C5 {β : Bs} (L : HL) (b bk n : Nat) (es : dD Th) (hr : gI es) (hn : n ≤ 8192) :
    Spec Tryz.prog β 34 #[xK bk] [.abs (aC Tryz.prog 9 b (fB L es) n), .blk bk [.map (some b)] 99] (fun v l => ∃ A cap, v = .slice A es.length cap ∧
      l = [.abs (aC Tryz.prog 9 b (fB L es) n), .blk bk [.map (some b)] 99, .abs (aF 9 1 A es.length cap (lQ es))]) := by
  intro R w hS
  obtain ⟨F1, h1⟩ := hS.get (i := 0) (p := .abs (aC Tryz.prog 9 b (fB L es) n)) rfl
  obtain ⟨F2, h2⟩ := hS.get (i := 1) (p := .blk bk [.map (some b)] 99) rfl
  obtain ⟨D, hown, hsz, hhas, _⟩ := h1.1
  have hcell : w.cell? ⟨bk, 0, none⟩ = some (.map (some b)) := (eD h2.1 rfl rfl rfl).1
  have hseq : SeqGives Fence.wide 2 Tryz.prog 79 #[.pointer (some ⟨bk, 0, none⟩)] encStr (fun ss => ss.Perm (strKeys D)) (Maps.size D) w :=
    AnyZ.keys_gives (ρ := Tryz.keysS_ren) { Tryz.keysS with } Fence.wide _ trivial rfl (by omega) bk b n D w (lt_of_some h2.1) hcell hown
  have cS := AnyZ.sorted_in Tryz.sortedS Fence.wide 5 trivial trivial trivial trivial rfl (by omega) (JR _) (enters_of Tryz.func78 (by kernel_rfl) rfl) 79 #[.pointer (some ⟨bk, 0, none⟩)] trivial (enters_of Tryz.func79 (by kernel_rfl) rfl)
    (fun ss => ss.Perm (strKeys D)) (Maps.size D) (by rw [hsz]; unfold maxLen; omega) (by rw [hsz]; omega) w hseq
  change CallsIn _ _ Tryz.prog 34 _ _ _ at cS
  refine ((callsIn_wide (n := 5)).1 cS).mono ?_
  rintro e w' ⟨v, ss, rfl, hp, hrow, hnil, hb⟩
  have hkeys := FZ hr hown hhas hp
  have hl2 : ss.length = es.length := by
    have h3 : (ss.mergeSort (fun x y => decide (x ≤ y))).length = ss.length := List.length_mergeSort ss
    rw [hkeys, List.length_map] at h3
    exact h3.symm
  rw [hkeys, hl2] at hrow
  have rW : ∃ A cap, v = .slice A es.length cap := by
    rcases hrow.2 with ⟨e1, e2⟩ | ⟨g, cp, cur, e1, _⟩
    · exact ⟨none, 0, by rw [e1, e2]⟩
    · exact ⟨_, cp, e1⟩
  obtain ⟨A, cap, rfl⟩ := rW
  have MQ : (es.map (fun e => e.1.data.toList)).map encStr = lQ es := by
    rw [List.map_map]
    refine List.map_congr_left (fun e _ => ?_)
    show encStr e.1.data.toList = .string e.1
    unfold encStr
    rw [Array.toArray_toList]
  rw [MQ] at hrow
  have hq : Sat β ([.abs (aC Tryz.prog 9 b (fB L es) n), .blk bk [.map (some b)] 99, .abs R] ++ [.abs (aF 9 1 A es.length cap (lQ es))]) w' := by
    refine Sat.new (F := fun k => (Value.slice A es.length cap).ownBlock = some k) hS ⟨?_, fun k => Iff.rfl⟩ ⟨hb.os, hb.tape, hb.output, hb.size, fun k hk _ => hb.block k hk⟩ (fun k hk => (hrow.lt k hk).1)
    refine ⟨hrow.1, ?_⟩
    rcases hrow.2 with h | ⟨g, cp, cur, e1, _, h3, h4⟩
    · exact .inl h
    · exact .inr ⟨g, cp, cur, e1, Nat.zero_le _, h3, h4⟩
  exact ⟨_, [.abs (aC Tryz.prog 9 b (fB L es) n), .blk bk [.map (some b)] 99, .abs (aF 9 1 A es.length cap (lQ es))], rfl, ⟨A, cap, rfl, rfl⟩, hq.pick (idx := [0, 1, 3, 2]) rfl rfl⟩
end Go.Proofs.YtkiedlmhocglhaaGreat
end
section
namespace Go.Proofs.YtkiedlmhocglhaaGreat
open Go.RowKit Go.Maps HeapM TabM
theorem BN {ns : List aL} {n : aL} {k : Nat} (h : k < ns.length) : nd (ns ++ [n]) k = nd ns k := by
  unfold nd; rw [List.getD_eq_getElem?_getD, List.getD_eq_getElem?_getD, List.getElem?_append_left h]
theorem xL {ns : List aL} {n : aL} : nd (ns ++ [n]) ns.length = n := by
  unfold nd; rw [List.getD_eq_getElem?_getD, List.getElem?_append_right (Nat.le_refl _)]; simp
def xM : Lay := ⟨fun _ => none, fun _ => none, fun _ => 0, fun _ => 0⟩
def gV (ns : List aL) (L : Lay) (k : Nat) : bJ := aF 62 2 (L.eA k) (nd ns k).ai.length (L.eC k) (fS (nd ns k).ai)
def gi (ns : List aL) (L : Lay) (k : Nat) : bJ := aF 5 1 (L.dA k) (nd ns k).data.length (L.dC k) (bD (nd ns k).data)
def Me (A : Option Addr) (c : Nat) (ns : List aL) (L : Lay) : HP := .abs (aF 46 10 A ns.length c (cQ L ns))
def JS (A : Option Addr) (c : Nat) (ns : List aL) (L : Lay) : List HP := [Me A c ns L, .abs (eF (gV ns L) ns.length), .abs (eF (gi ns L) ns.length)]
theorem jM.graph {β β' : Bs} {A : Option Addr} {c : Nat} {ns : List aL} {L : Lay} (h : jM β (JS A c ns L) β') : aR β' A ns L := by
  obtain ⟨F, h1, h2⟩ := h.get 0 rfl
  obtain ⟨G, g1, g2⟩ := h.get 1 rfl
  obtain ⟨K, k1, k2⟩ := h.get 2 rfl
  exact ⟨gD.oG h1 h2 rfl,
    eF.base k1 k2 rfl (Φ := fun i b => bO b (L.dA i) (nd ns i).data) (fun i _ F hF hO => gD.oG (show (HP.abs (aF 5 1 (L.dA i) (nd ns i).data.length (L.dC i) (bD (nd ns i).data))).h F _ from hF) hO rfl),
    eF.base g1 g2 rfl (Φ := fun i b => dZ b (L.eA i) (nd ns i).ai) (fun i _ F hF hO => gD.oG (show (HP.abs (aF 62 2 (L.eA i) (nd ns i).ai.length (L.eC i) (fS (nd ns i).ai))).h F _ from hF) hO rfl)⟩
theorem Bk {L : Lay} {ns : List aL} {n : aL} {dA eA : Option Addr} {dC eC : Nat} : cQ L ns ++ [.int .i64 n.id, .int .i64 n.kind, .int .i64 n.mode, .int .i64 n.uid, .int .i64 n.gid, .int .i64 n.sec, .int .i64 n.nano, .slice dA n.data.length dC, .string n.target, .slice eA n.ai.length eC] = cQ (L.put ns.length dA dC eA eC) (ns ++ [n]) := by
  have h := Cb (ns := ns ++ [n]) (L := L) (k := ns.length) (by simp) dA dC eA eC
  rw [xL, List.take_left, List.take_of_length_le (by simp)] at h
  exact h
theorem yG {ns : List aL} {L : Lay} {n : aL} {dA eA : Option Addr} {dC eC : Nat} : (∀ x, x < ns.length → gi (ns ++ [n]) (L.put ns.length dA dC eA eC) x = gi ns L x) ∧ gi (ns ++ [n]) (L.put ns.length dA dC eA eC) ns.length = aF 5 1 dA n.data.length dC (bD n.data) := by
  refine ⟨fun x hx => ?_, ?_⟩
  · unfold gi Lay.put
    rw [BN hx]
    have : ¬ x = ns.length := by omega
    simp [this]
  · unfold gi Lay.put
    rw [xL]
    simp
theorem yH {ns : List aL} {L : Lay} {n : aL} {dA eA : Option Addr} {dC eC : Nat} : (∀ x, x < ns.length → gV (ns ++ [n]) (L.put ns.length dA dC eA eC) x = gV ns L x) ∧ gV (ns ++ [n]) (L.put ns.length dA dC eA eC) ns.length = aF 62 2 eA n.ai.length eC (fS n.ai) := by
  refine ⟨fun x hx => ?_, ?_⟩
  · unfold gV Lay.put
    rw [BN hx]
    have : ¬ x = ns.length := by omega
    simp [this]
  · unfold gV Lay.put
    rw [xL]
    simp
def iX (O : bM) (e : ByteArray × Th) : jb := ⟨e.1, (obj O e.2.k).id⟩
def rB (O : bM) (id : Int) (t : Th) : aL := ⟨id, t.kind, (obj O t.k).mode, (obj O t.k).uid, (obj O t.k).gid, (obj O t.k).sec, (obj O t.k).nano, (obj O t.k).data, (obj O t.k).target, (obj O t.k).ai.map (iX O)⟩
def aP (S : aH) : List aL := S.idx.map (fun p => rB S.O p.1 p.2)
theorem rC {S : aH} : (aP S).length = S.idx.length := List.length_map ..
def mH (S : aH) (i : Nat) : Th := (S.idx.getD i (0, ⟨0, 0⟩)).2
def bU (S : aH) (i : Nat) : Int := (S.idx.getD i (0, ⟨0, 0⟩)).1
section at_
variable {S : aH} {i : Nat}
theorem Ar (hi : i < S.idx.length) : S.idx[i]? = some (bU S i, mH S i) := by
  unfold bU mH
  rw [List.getD_eq_getElem?_getD, List.getElem?_eq_getElem hi]; rfl
theorem get_at (h : Inv0 S) (hi : i < S.idx.length) : TabM.get S.idx (bU S i) = some (mH S i) := lg h.rise (List.mem_of_getElem? (Ar hi))
theorem BO (h : Inv0 S) (hi : i < S.idx.length) : Live S.idx (mH S i) ∧ bU S i = ((mH S i).k : Int) := ⟨h.live (get_at h hi), h.key (get_at h hi)⟩
theorem JT (hi : i < S.idx.length) : (keys S.idx)[i]? = some (bU S i) := by
  unfold keys
  rw [List.getElem?_map, Ar hi]; rfl
theorem rE (hi : i < S.idx.length) : (aP S).take (i + 1) = (aP S).take i ++ [rB S.O (bU S i) (mH S i)] := by
  rw [List.take_add_one]
  congr 1
  unfold aP
  rw [List.getElem?_map, Ar hi]; rfl
theorem cJ (hi : i ≤ S.idx.length) : ((aP S).take i).length = i := by rw [List.length_take, rC]; omega
end at_
section sat
variable {β : Bs} {l l' : List HP} {w : World} {i j k : Nat} {O : bM} {L : HL} {ix : List Nat}
theorem Sat.JU (h : Sat β l w) (hp : l[i]? = some (.abs (aq (gP (aY O L) k bJ.none)))) (hq : l[j]? = some (.abs (aF 5 1 (L.dA k) (obj O k).data.length (L.dC k) (bD (obj O k).data)))) (hd : br (i :: j :: ix) = true) (hl : bI l ix = some l') (h2 : (obj O k).kind = 1) : Sat β (.abs (aq (aY O L)) :: l') w :=
  h.nV hp hq (fun _ _ h => h) hd hl k (fun _ hx => (kZ hx).symm) (oI h2)
end sat
theorem C6 {es : List jb} {e : jb} : fS es ++ [.string e.name, .int .i64 e.id] = fS (es ++ [e]) := (qQ e es 0).symm
section grow
variable {ns G' : List aL} {n : aL} {L : Lay} {i dn en : Nat} {dA eA : Option Addr} {dC eC : Nat}
theorem rF (hl : ns.length = i) (hG : G' = ns ++ [n]) (hd : n.data.length = dn) (he : n.ai.length = en) : cQ L ns ++ [.int .i64 n.id, .int .i64 n.kind, .int .i64 n.mode, .int .i64 n.uid, .int .i64 n.gid, .int .i64 n.sec, .int .i64 n.nano, .slice dA dn dC, .string n.target, .slice eA en eC] = cQ (L.put i dA dC eA eC) G' := by
  subst hl hG hd he; exact Bk
theorem vv (hl : ns.length = i) (hG : G' = ns ++ [n]) : ∀ x, x < i → gi G' (L.put i dA dC eA eC) x = gi ns L x := by
  subst hl hG; exact yG.1
theorem tv (hl : ns.length = i) (hG : G' = ns ++ [n]) (hd : n.data.length = dn) : gi G' (L.put i dA dC eA eC) i = aF 5 1 dA dn dC (bD n.data) := by
  subst hl hG hd; exact yG.2
theorem vw (hl : ns.length = i) (hG : G' = ns ++ [n]) : ∀ x, x < i → gV G' (L.put i dA dC eA eC) x = gV ns L x := by
  subst hl hG; exact yH.1
theorem tA (hl : ns.length = i) (hG : G' = ns ++ [n]) (he : n.ai.length = en) : gV G' (L.put i dA dC eA eC) i = aF 62 2 eA en eC (fS n.ai) := by
  subst hl hG he; exact yH.2
end grow
section more
variable {S : aH} {i j k : Nat}
theorem KY (h : Inv0 S) (hi : i < S.idx.length) : (∃ k, mH S i = ⟨k, 1⟩ ∧ Live S.idx ⟨k, 1⟩) ∨ (∃ k, mH S i = ⟨k, 2⟩ ∧ Live S.idx ⟨k, 2⟩) ∨ ∃ k, mH S i = ⟨k, 3⟩ ∧ Live S.idx ⟨k, 3⟩ := by
  have h1 := (BO h hi).1
  generalize mH S i = t at h1 ⊢
  obtain ⟨k, kd⟩ := t
  rcases (h.ob _ h1).2.2 with e | e | e <;> simp only at e <;> subst e
  · exact .inl ⟨k, rfl, h1⟩
  · exact .inr (.inl ⟨k, rfl, h1⟩)
  · exact .inr (.inr ⟨k, rfl, h1⟩)
theorem xO (h : Inv0 S) (hi : i < S.idx.length) : (Lit.int .i64 (bU S i)).wf = true := by
  have h1 := h.idx _ _ (get_at h hi)
  have h2 := h.last
  exact WalkArith.wf_i64 (by omega)
theorem F5 (hi : i < S.idx.length) : (ints (keys S.idx))[i * 1 + 0]? = some (.int .i64 (bU S i)) := by
  rw [Nat.mul_one, Nat.add_zero]
  unfold ints
  rw [List.getElem?_map, JT hi]; rfl
theorem Au (h : Inv0 S) {t : Th} (hl : Live S.idx t) (hk : t.kind ≠ 3) : (obj S.O t.k).target = ⟨#[]⟩ := by
  rcases (h.mt t hl).target with e | e
  · exact e.2
  · exact absurd (h.kind hl ▸ e.1) hk
theorem nA (h : Inv0 S) (hi : i < S.idx.length) (iZ : mH S i = ⟨k, 1⟩) (hl : Live S.idx ⟨k, 1⟩) : (aP S).take (i + 1) = (aP S).take i ++ [⟨bU S i, 1, (obj S.O k).mode, (obj S.O k).uid, (obj S.O k).gid, (obj S.O k).sec, (obj S.O k).nano, (obj S.O k).data, ⟨#[]⟩, []⟩] := by
  rw [rE hi, iZ]
  unfold rB
  rw [show (obj S.O k).target = ⟨#[]⟩ from Au h hl (by simp), show (obj S.O k).ai = [] from (h.mt _ hl).ai (by rw [h.kind hl]; simp)]; rfl
theorem nB (h : Inv0 S) (hi : i < S.idx.length) (iZ : mH S i = ⟨k, 3⟩) (hl : Live S.idx ⟨k, 3⟩) : (aP S).take (i + 1) = (aP S).take i ++ [⟨bU S i, 3, (obj S.O k).mode, (obj S.O k).uid, (obj S.O k).gid, (obj S.O k).sec, (obj S.O k).nano, [], (obj S.O k).target, []⟩] := by
  rw [rE hi, iZ]
  unfold rB
  rw [show (obj S.O k).data = [] from (h.mt _ hl).data (by rw [h.kind hl]; simp), show (obj S.O k).ai = [] from (h.mt _ hl).ai (by rw [h.kind hl]; simp)]; rfl
theorem oZ (h : Inv0 S) (hi : i < S.idx.length) (iZ : mH S i = ⟨k, 2⟩) (hl : Live S.idx ⟨k, 2⟩) : (aP S).take (i + 1) = (aP S).take i ++ [⟨bU S i, 2, (obj S.O k).mode, (obj S.O k).uid, (obj S.O k).gid, (obj S.O k).sec, (obj S.O k).nano, [], ⟨#[]⟩, (obj S.O k).ai.map (iX S.O)⟩] := by
  rw [rE hi, iZ]
  unfold rB
  rw [show (obj S.O k).target = ⟨#[]⟩ from Au h hl (by simp), show (obj S.O k).data = [] from (h.mt _ hl).data (by rw [h.kind hl]; simp)]
def dK (es : dD Th) (j : Nat) : ByteArray := (es.getD j (⟨#[]⟩, ⟨0, 0⟩)).1
def vz (es : dD Th) (j : Nat) : Th := (es.getD j (⟨#[]⟩, ⟨0, 0⟩)).2
theorem C8 {es : dD Th} (hj : j < es.length) : es[j]? = some (dK es j, vz es j) := by
  unfold dK vz
  rw [List.getD_eq_getElem?_getD, List.getElem?_eq_getElem hj]; rfl
theorem C9 {es : dD Th} (hj : j < es.length) : (lQ es)[j * 1 + 0]? = some (.string (dK es j)) := by
  rw [Nat.mul_one, Nat.add_zero]
  unfold lQ
  rw [List.getElem?_map, C8 hj]; rfl
theorem Mf (h : Inv0 S) {t : Th} (hl : Live S.idx t) (hj : j < (obj S.O t.k).ai.length) : cC (dK (obj S.O t.k).ai j) ∧ ((∃ k, aT (dK (obj S.O t.k).ai j) (obj S.O t.k).ai = some ⟨k, 1⟩ ∧ Live S.idx ⟨k, 1⟩ ∧ vz (obj S.O t.k).ai j = ⟨k, 1⟩) ∨ (∃ k, aT (dK (obj S.O t.k).ai j) (obj S.O t.k).ai = some ⟨k, 2⟩ ∧ Live S.idx ⟨k, 2⟩ ∧ vz (obj S.O t.k).ai j = ⟨k, 2⟩) ∨ ∃ k, aT (dK (obj S.O t.k).ai j) (obj S.O t.k).ai = some ⟨k, 3⟩ ∧ Live S.idx ⟨k, 3⟩ ∧ vz (obj S.O t.k).ai j = ⟨k, 3⟩) := by
  have hm := List.mem_of_getElem? (C8 hj)
  have h1 := h.ai t hl _ hm
  have h2 := sO (h.twice hl) hm
  refine ⟨h1.1, ?_⟩
  have h3 := h1.2
  generalize vz (obj S.O t.k).ai j = u at h2 h3 ⊢
  obtain ⟨k, kd⟩ := u
  rcases (h.ob _ h3).2.2 with e | e | e <;> simp only at e <;> subst e
  · exact .inl ⟨k, h2, h3, rfl⟩
  · exact .inr (.inl ⟨k, h2, h3, rfl⟩)
  · exact .inr (.inr ⟨k, h2, h3, rfl⟩)
theorem tB {O : bM} {es : dD Th} {kd : Int} (hj : j < es.length) (he : vz es j = ⟨k, kd⟩) : fS ((es.take j).map (iX O)) ++ [.string (dK es j), .int .i64 (obj O k).id] = fS ((es.take (j + 1)).map (iX O)) := by
  rw [List.take_add_one, C8 hj, he, List.map_append]
  exact C6 (es := (es.take j).map (iX O)) (e := ⟨dK es j, (obj O k).id⟩)
end more
theorem jM.bytes {β β' : Bs} {A : Option Addr} {n c : Nat} {d : List UInt8} (h : jM β [.abs (aF 5 1 A n c (bD d))] β') : bO β' A d := by
  obtain ⟨F, h1, h2⟩ := h.get 0 rfl
  exact gD.oG h1 h2 rfl
end Go.Proofs.YtkiedlmhocglhaaGreat
end
section
namespace Go.Proofs.YtkiedlmhocglhaaGreat
open Go.RowKit
section order
variable {P : Program} {ops : Array Oper} {Q Q' : Post} {n : Nat} {S : World → Prop}
inductive o3
  | one (i : Nat)
  | two (i j : Nat)
  | three (i k j : Nat)
def jC (P : Program) (ops : Array Oper) (Q : Post) (S : World → Prop) : List o3 → Act → World → Prop
  | [], a, w => Q .normal a w
  | .one i :: l, a, w => wpOp P ops Q i (fun a' w' => (l = [] ∨ S w') ∧ jC P ops Q S l a' w') a w
  | .two i j :: l, a, w =>
    wpOp P ops Q i (fun a' w' => S w' ∧ wpOp P ops Q j (fun a2 w2 => S w2 ∧ jC P ops Q S l a2 w2) a' w') a w ∧
    wpOp P ops Q j (fun a' w' => S w' ∧ wpOp P ops Q i (fun a2 w2 => S w2 ∧ jC P ops Q S l a2 w2) a' w') a w
  | .three i k j :: l, a, w =>
    wpOp P ops Q i (fun a1 w1 => S w1 ∧ wpOp P ops Q k (fun a2 w2 => S w2 ∧ wpOp P ops Q j (fun a3 w3 => S w3 ∧ jC P ops Q S l a3 w3) a2 w2) a1 w1 ∧
      wpOp P ops Q j (fun a2 w2 => S w2 ∧ wpOp P ops Q k (fun a3 w3 => S w3 ∧ jC P ops Q S l a3 w3) a2 w2) a1 w1) a w ∧
    wpOp P ops Q j (fun a1 w1 => S w1 ∧ wpOp P ops Q i (fun a2 w2 => S w2 ∧ wpOp P ops Q k (fun a3 w3 => S w3 ∧ jC P ops Q S l a3 w3) a2 w2) a1 w1) a w
def tC (ops : Array Oper) (n : Nat) : List o3 → Array Bool → Bool
  | [], listed => (Region.ready .any ops listed).isEmpty
  | .one i :: l, listed => (Region.ready .any ops listed == [i]) && (!l.isEmpty || i == n) && tC ops n l (listed.setIfInBounds i true)
  | .two i j :: l, listed => (Region.ready .any ops listed == [i, j]) && (Region.ready .any ops (listed.setIfInBounds i true) == [j]) && (Region.ready .any ops (listed.setIfInBounds j true) == [i]) && decide (i ≠ j) && tC ops n l ((listed.setIfInBounds i true).setIfInBounds j true)
  | .three i k j :: l, listed => (Region.ready .any ops listed == [i, j]) && (Region.ready .any ops (listed.setIfInBounds i true) == [k, j]) && (Region.ready .any ops ((listed.setIfInBounds i true).setIfInBounds k true) == [j]) && (Region.ready .any ops ((listed.setIfInBounds i true).setIfInBounds j true) == [k]) &&
    (Region.ready .any ops (listed.setIfInBounds j true) == [i]) && decide (i ≠ j) && decide (k ≠ j) && tC ops n l (((listed.setIfInBounds i true).setIfInBounds k true).setIfInBounds j true)
def tD : List o3 → Nat
  | [] => 0
  | .one _ :: l => tD l + 1
  | .two _ _ :: l => tD l + 2
  | .three _ _ _ :: l => tD l + 3
theorem mI : ∀ (l : List o3) (listed : Array Bool) (a : Act) (w : World), tC ops n l listed = true → jC P ops (NP Q) S l a w → jL P ops (NP Q) n S (tD l) listed a w
  | [], listed, a, w, hb, h => ⟨List.isEmpty_iff.1 hb, h⟩
  | .one i :: l, listed, a, w, hb, h => by
    unfold tC at hb
    simp only [Bool.and_eq_true, beq_iff_eq] at hb
    obtain ⟨⟨h1, h2⟩, h3⟩ := hb
    refine ⟨fun h0 => (by rw [h1] at h0; cases h0), fun j hj => ?_⟩
    rw [h1] at hj
    have hj : j = i := by simpa using hj
    subst hj
    refine wpOp_mono (fun a' w' h4 => ⟨?_, mI l _ a' w' h3 h4.2⟩) h
    rcases h4.1 with h5 | h5
    · subst h5; exact .inl (by simpa using h2)
    · exact .inr h5
  | .two i j :: l, listed, a, w, hb, h => by
    unfold tC at hb
    simp only [Bool.and_eq_true, beq_iff_eq, decide_eq_true_iff] at hb
    obtain ⟨⟨⟨⟨h1, h2⟩, h3⟩, hij⟩, h4⟩ := hb
    refine ⟨fun h0 => (by rw [h1] at h0; cases h0), fun k hk => ?_⟩
    rw [h1] at hk
    have hk : k = i ∨ k = j := by simpa using hk
    rcases hk with rfl | rfl
    · refine wpOp_mono (fun a' w' h5 => ⟨.inr h5.1, fun h0 => (by rw [h2] at h0; cases h0), fun k' hk' => ?_⟩) h.1
      rw [h2] at hk'
      have hk' : k' = j := by simpa using hk'
      subst hk'
      exact wpOp_mono (fun a2 w2 h6 => ⟨.inr h6.1, mI l _ a2 w2 h4 h6.2⟩) h5.2
    · refine wpOp_mono (fun a' w' h5 => ⟨.inr h5.1, fun h0 => (by rw [h3] at h0; cases h0), fun k' hk' => ?_⟩) h.2
      rw [h3] at hk'
      have hk' : k' = i := by simpa using hk'
      subst hk'
      refine wpOp_mono (fun a2 w2 h6 => ⟨.inr h6.1, ?_⟩) h5.2
      rw [Array.setIfInBounds_comm _ _ (fun e => hij e.symm)]
      exact mI l _ a2 w2 h4 h6.2
  | .three i k j :: l, listed, a, w, hb, h => by
    unfold tC at hb
    simp only [Bool.and_eq_true, beq_iff_eq, decide_eq_true_iff] at hb
    obtain ⟨⟨⟨⟨⟨⟨⟨h1, h2⟩, h3⟩, h4⟩, h5⟩, hij⟩, hkj⟩, h6⟩ := hb
    have one : ∀ {x : Nat} {ls : Array Bool} {fuel : Nat} {a : Act} {w : World}, Region.ready .any ops ls = [x] → wpOp P ops (NP Q) x (fun a' w' => S w' ∧ jL P ops (NP Q) n S fuel (ls.setIfInBounds x true) a' w') a w → jL P ops (NP Q) n S (fuel + 1) ls a w := fun {x ls fuel a w} hr hx => by
      refine ⟨fun h0 => (by rw [hr] at h0; cases h0), fun y hy => ?_⟩
      rw [hr] at hy
      have hy : y = x := by simpa using hy
      subst hy
      exact wpOp_mono (fun a' w' h => ⟨.inr h.1, h.2⟩) hx
    have e1 : (((listed.setIfInBounds i true).setIfInBounds j true).setIfInBounds k true) = (((listed.setIfInBounds i true).setIfInBounds k true).setIfInBounds j true) := Array.setIfInBounds_comm _ _ (fun e => hkj e.symm)
    have e2 : ((listed.setIfInBounds j true).setIfInBounds i true) = ((listed.setIfInBounds i true).setIfInBounds j true) := Array.setIfInBounds_comm _ _ (fun e => hij e.symm)
    refine ⟨fun h0 => (by rw [h1] at h0; cases h0), fun x hx => ?_⟩
    rw [h1] at hx
    have hx : x = i ∨ x = j := by simpa using hx
    rcases hx with rfl | rfl
    · refine wpOp_mono (fun a1 w1 g => ⟨.inr g.1, fun h0 => (by rw [h2] at h0; cases h0), fun y hy => ?_⟩) h.1
      rw [h2] at hy
      have hy : y = k ∨ y = j := by simpa using hy
      rcases hy with rfl | rfl
      · exact wpOp_mono (fun a2 w2 g2 => ⟨.inr g2.1, one h3 (wpOp_mono (fun a3 w3 g3 => ⟨g3.1, mI l _ a3 w3 h6 g3.2⟩) g2.2)⟩) g.2.1
      · exact wpOp_mono (fun a2 w2 g2 => ⟨.inr g2.1, one h4 (wpOp_mono (fun a3 w3 g3 => ⟨g3.1, by rw [e1]; exact mI l _ a3 w3 h6 g3.2⟩) g2.2)⟩) g.2.2
    · refine wpOp_mono (fun a1 w1 g => ⟨.inr g.1, one h5 (wpOp_mono (fun a2 w2 g2 => ⟨g2.1, ?_⟩) g.2)⟩) h.2
      rw [e2]
      exact one h4 (wpOp_mono (fun a3 w3 g3 => ⟨g3.1, by rw [e1]; exact mI l _ a3 w3 h6 g3.2⟩) g2.2)
def kC (P : Program) (ops : Array Oper) (Q : Post) (S : World → Prop) (es : List o3) : List Nat → Act → World → Prop
  | [], a, w => jC P ops Q S es a w
  | i :: l, a, w => ∃ o v, ops[i]? = some o ∧ YieldsIf P ops S o v a ∧ kC P ops Q S es l (a.put o.dst v) w
def za (ops : Array Oper) (n : Nat) (es : List o3) : List Nat → Array Bool → Bool
  | [], listed => tC ops n es listed
  | i :: l, listed => decide (i < n) && Region.free .any ops listed i && (Region.ready .any ops listed).contains i && za ops n es l (listed.setIfInBounds i true)
theorem Av {es : List o3} (hsel : Region.noSelect ops = true) (lJ : Region.sinkB .any ops n = true) : ∀ (l : List Nat) (listed : Array Bool) (a : Act) (w : World), za ops n es l listed = true → Closed ops listed → S w → kC P ops (NP Q) S es l a w → jL P ops (NP Q) n S (l.length + tD es) listed a w
  | [], listed, a, w, hb, _, _, h => by
    rw [List.length_nil, Nat.zero_add]
    exact mI es listed a w hb h
  | i :: l, listed, a, w, hb, hc, hS, h => by
    unfold za at hb
    simp only [Bool.and_eq_true, decide_eq_true_iff] at hb
    obtain ⟨⟨⟨h1, h2⟩, h3⟩, h4⟩ := hb
    obtain ⟨o, v, ho, hy, hk⟩ := h
    have hr : i ∈ Region.ready .any ops listed := by simpa using h3
    have e : (i :: l).length + tD es = (l.length + tD es) + 1 := by rw [List.length_cons]; omega
    rw [e]
    exact oH ho hsel lJ h1 _ listed a w hc (Region.free_spec ho h2) hr hy hS (Av hsel lJ l _ _ w h4 (hc.set hr) hS hk)
def BP (ops : Array Oper) (rs : List Nat) (es : List o3) : Bool :=
  Region.noSelect ops && Region.sinkB .any ops (ops.size - 1) && (rs.length + tD es == ops.size) && za ops (ops.size - 1) es rs (Array.replicate ops.size false)
end order
section mix
variable {P : Program} {β : Bs} {N : Nat} {ops : Array Oper} {S : List HP} {rs : List Nat} {es : List o3} {fr fr' : Fr} {hps : List HP} {Q : Post} {ak : List Prop} {i j : Nat}
def eX (P : Program) (β : Bs) (N : Nat) (ops : Array Oper) (S : List HP) (es : List o3) (rs : List Nat) (fr : Fr) (hps : List HP) (Q : Post) : Prop :=
  ∀ junk w, Sat β hps w → kC P ops (NP Q) (Sat β S) es rs (cF N fr junk) w
theorem af.oe {id : Nat} (rs : List Nat) (es : List o3) (pk : List Nat) (hm : P.follows .mixedOrders = true) (hB : BP ops rs es = true) (hn : br pk = true) (hp : bI hps pk = some S) (h : eX P β N ops S es rs fr hps Q) : af P β N (.region id ops true) fr hps Q := by
  intro junk w hS
  unfold BP at hB
  simp only [Bool.and_eq_true, beq_iff_eq] at hB
  obtain ⟨⟨⟨h1, h2⟩, h3⟩, h4⟩ := hB
  have cu := hS.drewN 1
  have h5 := Av (Q := Q) h1 h2 rs _ _ _ h4 (fun j oj _ hl => by simp [Array.getD_eq_getD_getElem?, Array.getElem?_replicate] at hl; split at hl <;> simp at hl) (cu.pick hn hp) (h junk (w.drewN 1) cu)
  rw [h3] at h5
  refine Code.wp_mono (fun e a w q => ?_) (wp_region_any hm (lI _ _ _ _ h5))
  cases e with
  | normal => exact q
  | exit id => exact q.elim
  | goto l => exact q.elim
  | ret => exact q.elim
  | panic ch => exact q.elim
  | outgrown => exact q.elim
theorem rQ {junk : Nat → Value} {w : World} : ∀ {hs : List OH} {is : List Nat} {fr fr' : Fr} {T T' : SS}, mZ P β N junk ops hs is fr T = some (fr', T') → (∀ p, p ∈ T'.ak → p) → T.used = true → T.hps = S →
    kC P ops (NP Q) (Sat β S) es rs (cF N fr' junk) w → kC P ops (NP Q) (Sat β S) es (is ++ rs) (cF N fr junk) w
  | [], [], fr, fr', T, T', h, ho, hu, hT, hK => by cases h; exact hK
  | h :: hs, i :: is, fr, fr', T, T', hr, ho, hu, hT, hK => by
    unfold mZ at hr
    repeat' split at hr
    all_goals first | (cases hr; done) | skip
    rename_i o hget _ zD _ v T1 h0 _ hv
    obtain ⟨e1, e2⟩ := qq h0
    rw [List.cons_append]
    unfold kC
    refine ⟨o, v, hget, .inl ⟨by unfold Region.wanted; rw [zD], fun w' cu => ?_⟩, ?_⟩
    · rw [cY]
      obtain ⟨w2, h1, _, _, h4⟩ := jX h0 (fun p hp => ho p (qX hr p hp)) (by rw [hT]; exact cu) (fun e => by rw [hu] at e; cases e)
      obtain ⟨ew, _⟩ := h4 rfl
      rw [ew] at h1
      rcases h1 with h1 | ⟨h1, _⟩
      · exact h1
      · exact absurd h1 (pN hv)
    · rw [cW]
      exact rQ hr ho (e2.trans hu) (e1.trans hT) hK
  | [], _ :: _, _, _, _, _, h, _, _, _, _ => by cases h
  | _ :: _, [], _, _, _, _, h, _, _, _, _ => by cases h
theorem eX.reads (is : List Nat) (hs : List OH) (idx : List Nat) (h : ∀ junk, tS P β N junk ops hs is fr S idx = some (fr', ak)) (ho : fV ak) (K : eX P β N ops S es rs fr' hps Q) : eX P β N ops S es (is ++ rs) fr hps Q := by
  intro junk w hS
  have h0 := h junk
  unfold tS at h0
  split at h0
  · rename_i iI S1 h1
    cases h0
    have hK := K (lk iI junk) w hS
    rw [← iy] at hK
    exact rQ h1 (fun p hp => ho.mem hp) rfl rfl hK
  · cases h0
theorem eX.pair {ι JV JW : Type} {Eo : JV → Fr} {hpi : JV → List HP} {Ep : JW → Fr} {Er : JW → List HP} {fr' : ι → Fr} {hp' : ι → List HP} {oi oj : Oper} (LB LC pk : List Nat)
    (hi : ops[i]? = some oi) (Ax : oi.guard = none) (hj : ops[j]? = some oj) (BQ : oj.guard = none)
    (h1 : ah P β N #[oi] 0 fr hps (NP (iJ β N Eo hpi))) (h2 : ∀ a, ah P β N #[oj] 0 (Eo a) (hpi a) (NP (iJ β N fr' hp')))
    (h3 : ah P β N #[oj] 0 fr hps (NP (iJ β N Ep Er))) (h4 : ∀ a, ah P β N #[oi] 0 (Ep a) (Er a) (NP (iJ β N fr' hp')))
    (hni : br LB = true) (Mg : ∀ a, bI (hpi a) LB = some S) (MR : br LC = true) (Mh : ∀ a, bI (Er a) LC = some S) (hn : br pk = true) (hp : ∀ a, bI (hp' a) pk = some S)
    (K : ∀ a, eX P β N ops S es [] (fr' a) (hp' a) Q) : eX P β N ops S (.two i j :: es) [] fr hps Q := by
  intro junk w hS
  unfold kC jC
  refine ⟨eE hi Ax (gq (fun a w ⟨x, ic, ha, cu⟩ => ?_) (show wpList P #[oi] (NP (iJ β N Eo hpi)) [oi] (cF N fr junk) w from h1 junk w hS)), eE hj BQ (gq (fun a w ⟨x, ic, ha, cu⟩ => ?_) (show wpList P #[oj] (NP (iJ β N Ep Er)) [oj] (cF N fr junk) w from h3 junk w hS))⟩
  · subst ha
    refine ⟨cu.pick hni (Mg x), eE hj BQ (gq (fun a w ⟨y, Da, ha, qC⟩ => ?_) (show wpList P #[oj] (NP (iJ β N fr' hp')) [oj] (cF N (Eo x) ic) w from h2 x ic w cu))⟩
    subst ha
    exact ⟨qC.pick hn (hp y), K y Da _ qC⟩
  · subst ha
    refine ⟨cu.pick MR (Mh x), eE hi Ax (gq (fun a w ⟨y, Da, ha, qC⟩ => ?_) (show wpList P #[oi] (NP (iJ β N fr' hp')) [oi] (cF N (Ep x) ic) w from h4 x ic w cu))⟩
    subst ha
    exact ⟨qC.pick hn (hp y), K y Da _ qC⟩
theorem eX.three {k : Nat} {ι Es Et Eu Ev Ew : Type} {fa : Es → Fr} {ha : Es → List HP} {fb : Et → Fr} {hb : Et → List HP} {fc : Eu → Fr} {hc : Eu → List HP} {fd : Ev → Fr} {hd : Ev → List HP} {fe : Ew → Fr} {he : Ew → List HP} {fr' : ι → Fr} {hp' : ι → List HP} {oi ok oj : Oper} (pa pb pc pd pe pk : List Nat)
    (hi : ops[i]? = some oi) (Ax : oi.guard = none) (hk : ops[k]? = some ok) (JX : ok.guard = none) (hj : ops[j]? = some oj) (BQ : oj.guard = none)
    (h1 : ah P β N #[oi] 0 fr hps (NP (iJ β N fa ha))) (h2 : ∀ x, ah P β N #[ok] 0 (fa x) (ha x) (NP (iJ β N fb hb))) (h3 : ∀ x, ah P β N #[oj] 0 (fb x) (hb x) (NP (iJ β N fr' hp')))
    (h4 : ∀ x, ah P β N #[oj] 0 (fa x) (ha x) (NP (iJ β N fc hc))) (h5 : ∀ x, ah P β N #[ok] 0 (fc x) (hc x) (NP (iJ β N fr' hp')))
    (h6 : ah P β N #[oj] 0 fr hps (NP (iJ β N fd hd))) (h7 : ∀ x, ah P β N #[oi] 0 (fd x) (hd x) (NP (iJ β N fe he))) (h8 : ∀ x, ah P β N #[ok] 0 (fe x) (he x) (NP (iJ β N fr' hp')))
    (na : br pa = true) (qa : ∀ x, bI (ha x) pa = some S) (nb : br pb = true) (qb : ∀ x, bI (hb x) pb = some S) (nc : br pc = true) (qc : ∀ x, bI (hc x) pc = some S) (nd : br pd = true) (qd : ∀ x, bI (hd x) pd = some S) (ne : br pe = true) (qe : ∀ x, bI (he x) pe = some S) (hn : br pk = true) (hp : ∀ x, bI (hp' x) pk = some S)
    (K : ∀ a, eX P β N ops S es [] (fr' a) (hp' a) Q) : eX P β N ops S (.three i k j :: es) [] fr hps Q := by
  have step : ∀ {κ : Type} {g : κ → Fr} {hg : κ → List HP} {x : Nat} {o : Oper} {pg : List Nat} {f0 : Fr} {h0 : List HP} {junk : Nat → Value} {w : World} {R : Act → World → Prop}, ops[x]? = some o → o.guard = none → ah P β N #[o] 0 f0 h0 (NP (iJ β N g hg)) → br pg = true → (∀ y, bI (hg y) pg = some S) → Sat β h0 w →
      (∀ y junk w, Sat β (hg y) w → R (cF N (g y) junk) w) → wpOp P ops (NP Q) x (fun a w => Sat β S w ∧ R a w) (cF N f0 junk) w := fun {κ g hg x o pg f0 h0 junk w R} e1 e2 e3 e4 e5 e6 e7 =>
    eE e1 e2 (gq (fun a w ⟨y, ic, ea, cu⟩ => by subst ea; exact ⟨cu.pick e4 (e5 y), e7 y ic w cu⟩) (show wpList P #[o] (NP (iJ β N g hg)) [o] (cF N f0 junk) w from e3 junk w e6))
  intro junk w hS
  unfold kC jC
  have fin : ∀ y junk w, Sat β (hp' y) w → jC P ops (NP Q) (Sat β S) es (cF N (fr' y) junk) w := fun y junk w h => K y junk w h
  refine ⟨step hi Ax h1 na qa hS (fun x jx wx sx => ⟨?_, ?_⟩), step hj BQ h6 nd qd hS (fun x jx wx sx => step hi Ax (h7 x) ne qe sx (fun y jy wy sy => step hk JX (h8 y) hn hp sy fin))⟩
  · exact step hk JX (h2 x) nb qb sx (fun y jy wy sy => step hj BQ (h3 y) hn hp sy fin)
  · exact step hj BQ (h4 x) nc qc sx (fun y jy wy sy => step hk JX (h5 y) hn hp sy fin)
theorem eX.cut {ι : Type} {fr' : ι → Fr} {hp' : ι → List HP} {o : Oper} (pk : List Nat) (hop : ops[i]? = some o) (hg : o.guard = none) (h : ah P β N #[o] 0 fr hps (NP (iJ β N fr' hp'))) (hn : br pk = true) (hp : ∀ j, bI (hp' j) pk = some S)
    (K : ∀ j, eX P β N ops S es [] (fr' j) (hp' j) Q) : eX P β N ops S (.one i :: es) [] fr hps Q := by
  intro junk w hS
  unfold kC jC
  refine eE hop hg (gq (fun a w ⟨j, ic, ha, cu⟩ => ?_) (show wpList P #[o] (NP (iJ β N fr' hp')) [o] (cF N fr junk) w from h junk w hS))
  subst ha
  exact ⟨.inr (cu.pick hn (hp j)), K j ic _ cu⟩
theorem eX.last {o : Oper} (hop : ops[i]? = some o) (hg : o.guard = none) (h : ah P β N #[o] 0 fr hps (NP Q)) : eX P β N ops S [.one i] [] fr hps Q := by
  intro junk w hS
  unfold kC jC
  exact eE hop hg (gq (fun a w hq => ⟨.inl rfl, by unfold jC; exact hq⟩) (show wpList P #[o] (NP Q) [o] (cF N fr junk) w from h junk w hS))
end mix
end Go.Proofs.YtkiedlmhocglhaaGreat
end
section
namespace Go.Proofs.YtkiedlmhocglhaaGreat
open Go.RowKit Go.Maps HeapM TabM
attribute [local irreducible] ah aI af aj
abbrev G3 := (.abs (aF 5 1 none 0 0 ([])) : HP)
abbrev BR (B) (d : List UInt8) (cap) := (.abs (aF 5 1 B d.length cap (bD d)) : HP)
abbrev G7 (A7 : Option Addr) (S : aH) (c8 : Nat) := (.abs (aF 3 1 A7 ((keys S.idx).length) c8 (ints (keys S.idx))) : HP)
abbrev BS (b4 : Nat) := (.blk b4 [.slice none (0) (0)] 26 : HP)
abbrev JY (b5 : Nat) (An : Option Addr) (i : Nat) (cn : Nat) := (.blk b5 [.slice An (i) (cn)] 26 : HP)
abbrev JZ (An : Option Addr) (i : Nat) (cn : Nat) (K) (S : aH) := (.abs (aF 46 10 An i cn (cQ K ((aP S).take i))) : HP)
abbrev uE (S : aH) (i : Nat) (K) := (.abs (eF (gV ((aP S).take i) K) i) : HP)
abbrev Ay (S : aH) (i : Nat) (K) := (.abs (eF (gi ((aP S).take i) K) i) : HP)
abbrev kD (b10 : Nat) := (.blk b10 [.int .i64 0, .int .i64 0, .int .i64 0, .int .i64 0, .int .i64 0, .int .i64 0, .int .i64 0, .slice none (0) (0), .string ⟨#[]⟩, .slice none (0) (0)] 46 : HP)
abbrev J0 (b9 : Nat) (S : aH) (i : Nat) (tk : Nat) := (.blk b9 [.int .i64 ((bU S i)), .int .i64 1, .int .i64 ((obj S.O tk).mode), .int .i64 ((obj S.O tk).uid), .int .i64 ((obj S.O tk).gid), .int .i64 ((obj S.O tk).sec), .int .i64 ((obj S.O tk).nano), .slice none (0) (0), .string ⟨#[]⟩, .slice none (0) (0)] 46 : HP)
abbrev rG (b5 : Nat) (iw : Option Addr) (i : Nat) (gM : Nat) := (.blk b5 [.slice iw ((i + 1)) (gM)] 26 : HP)
abbrev xP (b9 : Nat) (S : aH) (i : Nat) (tk : Nat) (jD : Option Addr) (jE : Nat) := (.blk b9 [.int .i64 ((bU S i)), .int .i64 1, .int .i64 ((obj S.O tk).mode), .int .i64 ((obj S.O tk).uid), .int .i64 ((obj S.O tk).gid), .int .i64 ((obj S.O tk).sec), .int .i64 ((obj S.O tk).nano), .slice jD ((obj S.O tk).data.length) (jE), .string ⟨#[]⟩, .slice none (0) (0)] 46 : HP)
abbrev Db := (.abs (aF 62 2 none 0 0 ([])) : HP)
abbrev iF (S : aH) (L : HL) (tk : Nat) := (.abs (aq (gP (bw S.O L) tk bJ.none)) : HP)
abbrev o4 (L : HL) (tk : Nat) (S : aH) := (.abs (aC Tryz.prog 9 (L.m tk) (fB L (obj S.O tk).ai) ((obj S.O tk).ai.length)) : HP)
abbrev kU (b17 : Nat) (S : aH) (i : Nat) (tk : Nat) (Ae : Option Addr) (j : Nat) (ce : Nat) := (.blk b17 [.int .i64 ((bU S i)), .int .i64 2, .int .i64 ((obj S.O tk).mode), .int .i64 ((obj S.O tk).uid), .int .i64 ((obj S.O tk).gid), .int .i64 ((obj S.O tk).sec), .int .i64 ((obj S.O tk).nano), .slice none (0) (0), .string ⟨#[]⟩, .slice Ae (j) (ce)] 46 : HP)
abbrev Dc (Ae : Option Addr) (j : Nat) (ce : Nat) (S : aH) (tk : Nat) := (.abs (aF 62 2 Ae j ce (fS (((obj S.O tk).ai.take j).map (iX S.O)))) : HP)
abbrev ql (b20 : Nat) (L : HL) (tk : Nat) := (.blk b20 [.map (some (L.m tk))] 99 : HP)
abbrev qm (cO : Option Addr) (S : aH) (tk : Nat) (dH : Nat) := (.abs (aF 9 1 cO ((obj S.O tk).ai.length) dH (lQ (obj S.O tk).ai)) : HP)
abbrev xQ (nM : Option Addr) (j : Nat) (nN : Nat) (S : aH) (tk : Nat) := (.abs (aF 62 2 nM (j + 1) nN (fS (((obj S.O tk).ai.take (j + 1)).map (iX S.O)))) : HP)
abbrev xR (wC : Nat) (S : aH) (tk : Nat) (j : Nat) (ek : Nat) := (.blk wC [.string (dK (obj S.O tk).ai j), .int .i64 ((obj S.O ek).id)] 62 : HP)
abbrev Dd (nO : Option Addr) (i : Nat) (nP : Nat) (K : Lay) (S : aH) := (.abs (aF 46 10 nO (i + 1) nP (cQ (K.put i none 0 none 0) ((aP S).take (i + 1)))) : HP)
abbrev tE (lS : Nat) (S : aH) (i : Nat) (tk : Nat) := (.blk lS [.int .i64 ((bU S i)), .int .i64 3, .int .i64 ((obj S.O tk).mode), .int .i64 ((obj S.O tk).uid), .int .i64 ((obj S.O tk).gid), .int .i64 ((obj S.O tk).sec), .int .i64 ((obj S.O tk).nano), .slice none (0) (0), .string (obj S.O tk).target, .slice none (0) (0)] 46 : HP)
abbrev iG (f : Nat) (b4 : Nat) (b5 : Nat) (b17 : Nat) (L : HL) (tk : Nat) (A7 : Option Addr) (S : aH) (c8 : Nat) (i : Nat) (cO : Option Addr) (dH : Nat) (j : Nat) := ([(0, vP f), (2, vP b4), (3, vP b5), (8, vP b17), (11, vP (L.b tk)), (19, .slice A7 ((keys S.idx).length) (c8)), (20, vI ↑((keys S.idx).length)), (21, vI ↑i), (79, .slice cO ((obj S.O tk).ai.length) (dH)), (80, vI ↑((obj S.O tk).ai.length)), (81, vI ↑j)] : Fr)
abbrev cK (b5 : Nat) (An : Option Addr) (i : Nat) (cn : Nat) (K) (S : aH) (A7 : Option Addr) (c8 : Nat) (b4 : Nat) (f : Nat) (m : Nat) (t) (L : HL) := ([JY b5 An i cn, JZ An i cn K S, uE S i K, Ay S i K, G7 A7 S c8, BS b4, pF f m t S.X, pI m L S.idx, pO S.O L, pD S.O L] : List HP)
abbrev iH (S : aH) (tk : Nat) := ([(39, .int .i64 ((obj S.O tk).mode)), (43, .int .i64 ((obj S.O tk).uid)), (47, .int .i64 ((obj S.O tk).gid)), (51, .agg #[.int .i64 ((obj S.O tk).sec), .int .i64 ((obj S.O tk).nano)])] : Fr)
abbrev fC (f : Nat) (b4 : Nat) (b5 : Nat) := ([(0, .pointer (some ⟨f, 0, none⟩)), (2, .pointer (some ⟨b4, 0, none⟩)), (3, .pointer (some ⟨b5, 0, none⟩))] : Fr)
abbrev jv (b10 : Nat) (A7 : Option Addr) (S : aH) (c8 : Nat) (i : Nat) := ([(8, .pointer (some ⟨b10, 0, none⟩)), (19, .slice A7 ((keys S.idx).length) (c8)), (20, .int .i64 ↑((keys S.idx).length)), (21, .int .i64 ↑i), (33, .int .i64 ((bU S i)))] : Fr)
abbrev qo (A7 : Option Addr) (S : aH) (c8 : Nat) (i : Nat) := ([(19, .slice A7 ((keys S.idx).length) (c8)), (20, .int .i64 ↑((keys S.idx).length)), (21, .int .i64 ↑i)] : Fr)
abbrev lT (b17 : Nat) (S : aH) (i : Nat) (tk : Nat) (Ae : Option Addr) (j : Nat) (ce : Nat) (L : HL) (b20 : Nat) (cO : Option Addr) (dH : Nat) := ([kU b17 S i tk Ae j ce, Dc Ae j ce S tk, o4 L tk S, ql b20 L tk, qm cO S tk dH] : List HP)
abbrev nH (Ae : Option Addr) (j : Nat) (ce : Nat) (S : aH) (tk : Nat) := ([(86, .slice Ae (j) (ce)), (87, .string (dK (obj S.O tk).ai j))] : Fr)
abbrev xS (A7 : Option Addr) (S : aH) (c8 : Nat) (i : Nat) := ([(19, .slice A7 ((keys S.idx).length) (c8)), (20, vI ↑((keys S.idx).length)), (21, vI ↑i)] : Fr)
abbrev F6 (S : aH) (tk : Nat) := ([(2, .int .i64 ((obj S.O tk).mode)), (3, .int .i64 ((obj S.O tk).uid)), (4, .int .i64 ((obj S.O tk).gid)), (5, .int .i64 ((obj S.O tk).sec)), (6, .int .i64 ((obj S.O tk).nano))] : Fr)
abbrev F7 (S : aH) (tk : Nat) := ([(39, vI ((obj S.O tk).mode)), (43, vI ((obj S.O tk).uid)), (47, vI ((obj S.O tk).gid)), (51, .agg #[vI ((obj S.O tk).sec), vI ((obj S.O tk).nano)])] : Fr)
abbrev o5 (A7 : Option Addr) (S : aH) (c8 : Nat) (b4 : Nat) (f : Nat) (m : Nat) (t) (L : HL) := ([G7 A7 S c8, BS b4, pF f m t S.X, pI m L S.idx, pO S.O L] : List HP)
set_option maxRecDepth 100000 in
set_option maxHeartbeats 4000000 in
theorem xT {β : Bs} (c : Nat) : Spec Tryz.prog β 29 #[.slice none 0 c] [] (fun v l => ∃ B cap, v = .slice B 0 cap ∧ l = [.abs (aF 5 1 B 0 cap [])]) := by
 refine Spec.enter Tryz.func29 rfl Tryz.ntmps29 (Nat.le_of_ble_eq_true rfl) (fun R => ?_)
 refine SR ?_
 refine gK 1 [] [] ?_
 refine NN (af.seq (SR ?_))
 refine gK 2 [(4, .bool true)] [] ?_
 refine NN ?_
 refine CT ?_
 refine SR ?_
 refine gK 1 [(2, .slice none (0) (0))] [] ?_
 refine NN (af.ret (aj.av ?_))
 refine aj.mem (fun w hS => (hS.jJ (e := 5) (size := 1)).pick (idx := [1, 0]) (l' := [G3, .abs R]) rfl (by kernel_rfl)) ?_
 exact RT (.slice none (0) (0)) [0, 1] (⟨none, 0, rfl, rfl⟩)
set_option maxRecDepth 100000 in
set_option maxHeartbeats 4000000 in
theorem wD {β : Bs} (a : Addr) (c : Nat) (d : List UInt8) (hA : bO β (some a) d) (hl : d.length ≤ 140737488355328) : Spec Tryz.prog β 29 #[.slice (some a) d.length c] [] (fun v l => ∃ B cap, v = .slice B d.length cap ∧ l = [BR B d cap]) := by
 refine Spec.enter Tryz.func29 rfl Tryz.ntmps29 (Nat.le_of_ble_eq_true rfl) (fun R => ?_)
 refine SR ?_
 refine gK 1 [] [] ?_
 refine NN (af.seq (SR ?_))
 refine gK 2 [(4, .bool false)] [] ?_
 refine NN ?_
 refine CF ?_
 refine af.skip (NX (SR ?_))
 refine gN 1 (fun b1 => [(5, .slice (some ⟨b1, 0, none⟩) (0) (0))]) (fun _ => []) (fun _ => []) (fun b1 => .blk b1 [] 5) (fun b1 => ?_)
 refine ah.mem (fun w hS => hS.yU (i := 1) (b := b1) (cs := []) (e := 5) 1 0 (by kernel_rfl) rfl (by decide)) ?_
 refine gK 1 [(6, .slice (some a) (d.length) (c))] [] ?_
 refine ah.append 1 (d := (some 7)) (t := 22) (e := 5) (z := .int .u8 0) (size := 1) (bytes := 1) (n := 0) (cap := 0) (A := some ⟨b1, 0, none⟩) (xs := []) (s := (.tmp 5)) (x := (.tmp 6)) (ats := #[22, 22]) (A' := (some a)) (m := d.length) (c' := c) (news := (bD d)) (fun _ => by kernel_rfl) rfl (by kernel_rfl) (fun _ => by kernel_rfl) (fun _ => by kernel_rfl) Tryz.underlying22 (by kernel_rfl) rfl (by decide) (by rw [nU, Nat.mul_one]) (kG d) (hA.src) (by unfold maxLen; omega) (by omega) (fun A2 c3 => ?_)
 refine ah.eP 1 (p := .abs (aF 5 1 A2 (0 + d.length) c3 ([] ++ (bD d)))) (p' := .abs (aF 5 1 A2 d.length c3 (bD d))) (by kernel_rfl) (by rw [Nat.zero_add, List.nil_append]) ?_
 refine ah.slot 7 (.slice A2 (0 + d.length) (c3)) (.slice A2 (d.length) (c3)) (fun _ => by kernel_rfl) (by rw [Nat.zero_add]) ?_
 refine gK 1 [(2, .slice A2 (d.length) (c3))] [] ?_
 refine NN (af.ret ?_)
 exact RT (.slice A2 (d.length) (c3)) [1, 0] (⟨A2, c3, rfl, rfl⟩)
theorem uF {β : Bs} (A : Option Addr) (c : Nat) (d : List UInt8) (hA : bO β A d) (hl : d.length ≤ 140737488355328) : Spec Tryz.prog β 29 #[.slice A d.length c] [] (fun v l => ∃ B cap, v = .slice B d.length cap ∧ l = [BR B d cap]) := by
  cases A with
  | some a => exact wD a c d hA hl
  | none =>
    cases d with
    | nil => exact xT c
    | cons b r => have h := bO.hd hA (j := 0) (by simp); cases h
theorem Az {β : Bs} (A : Option Addr) (c : Nat) (d : List UInt8) (hl : d.length ≤ 140737488355328) : Spec Tryz.prog β 29 #[.slice A d.length c] [BR A d c] (fun v l => ∃ B cap, v = .slice B d.length cap ∧ l = [BR B d cap, BR A d c]) :=
  (Spec.qg (pre := []) (R := [BR A d c]) (fun _ h => uF A c d h.bytes hl)).mono (by rintro v l ⟨l0, ⟨B, cap, rfl, rfl⟩, rfl⟩; exact ⟨B, cap, rfl, rfl⟩)
theorem AA {β : Bs} (L : HL) (b bk : Nat) (idx : Used Th) (hr : TabM.bW (keys idx)) (hn : idx.length ≤ 4096) :
    Spec Tryz.prog β 32 #[v8 bk] [pI b L idx, .blk bk [.map (some b)] 83] (fun v l => ∃ A cap, v = .slice A (keys idx).length cap ∧ l = [pI b L idx, .blk bk [.map (some b)] 83, .abs (aF 3 1 A (keys idx).length cap (ints (keys idx)))]) :=
  (Cx b bk idx.length (aN (aJ L idx)) (by omega)).mono (by
    rintro v l ⟨A, cap, ss, rfl, hk, _, rfl⟩
    have e := HF (us := aJ L idx) (by rw [vf]; exact hr) hk
    rw [vf] at e
    subst e
    exact ⟨A, cap, rfl, rfl⟩)
set_option maxRecDepth 100000 in
set_option maxHeartbeats 4000000 in
theorem Ey {β : Bs} (S : aH) (L : HL) (f m t : Nat) (hI : Inv S) :
    Spec Tryz.prog β 12 #[.pointer (some ⟨f, 0, none⟩)] [pF f m t S.X, pI m L S.idx, pO S.O L, pD S.O L, pE S.O L] (fun v l => ∃ A c K, v = .agg #[.slice A (aP S).length c] ∧ l = [pF f m t S.X, pI m L S.idx, pO S.O L, pD S.O L, pE S.O L] ++ JS A c (aP S) K) := by
 have hX := hI.hX
 have hkl : (keys S.idx).length = S.idx.length := zZ _
 have hil := hI.len
 refine Spec.enter Tryz.func12 rfl Tryz.ntmps12 (Nat.le_of_ble_eq_true rfl) (fun R => ?_)
 refine SR ?_
 refine gN 1 (fun b4 => [(2, .pointer (some ⟨b4, 0, none⟩))]) (fun _ => []) (fun _ => []) (fun b4 => .blk b4 [.slice none (0) (0)] 26) (fun b4 => ?_)
 refine NS ?_
 refine gN 1 (fun b5 => [(3, .pointer (some ⟨b5, 0, none⟩))]) (fun _ => []) (fun _ => []) (fun b5 => .blk b5 [.slice none (0) (0)] 26) (fun b5 => ?_)
 refine NN (af.seq (SR ?_))
 refine gK 4 [(17, .map (some m))] [(3, a_ 0 f)] ?_
 refine gL [] (Fm (some m)) ?_
 rintro _ _ ⟨b6, rfl, rfl⟩
 refine gL [2, 0] (AA L m b6 S.idx hI.rise hI.len) ?_
 rintro _ _ ⟨A7, c8, rfl, rfl⟩
 refine gK 1 [(20, .int .i64 ↑((keys S.idx).length))] [] ?_
 refine ah.mem (fun w hS => hS.jJ (e := 46) (size := 10)) ?_
 refine ah.mem (aK := [pI m L S.idx, .blk b6 [.map (some m)] 83, G7 A7 S c8, pF f m t S.X, pO S.O L, pD S.O L, pE S.O L, .abs R, BS b4, BS b5, .abs (aF 46 10 none 0 0 ([])), .abs (eF (gV [] xM) 0)]) (fun w hS => hS.Dz (gV [] xM)) ?_
 refine ah.mem (aK := [pI m L S.idx, .blk b6 [.map (some m)] 83, G7 A7 S c8, pF f m t S.X, pO S.O L, pD S.O L, pE S.O L, .abs R, BS b4, BS b5, .abs (aF 46 10 none 0 0 ([])), .abs (eF (gV [] xM) 0), .abs (eF (gi [] xM) 0)]) (fun w hS => hS.Dz (gi [] xM)) ?_
 refine gK 1 [(21, .int .i64 0)] [] ?_
 refine NN (af.block ?_)
 refine af.loop (ι := Nat × (Option Addr) × Nat × Lay) (fun ((i, An, cn, K) : Nat × (Option Addr) × Nat × Lay) => (i ≤ S.idx.length)) (fun ((i, An, cn, K) : Nat × (Option Addr) × Nat × Lay) => S.idx.length - i) (fun ((i, An, cn, K) : Nat × (Option Addr) × Nat × Lay) => (fC f b4 b5 ++ qo A7 S c8 i)) (fun ((i, An, cn, K) : Nat × (Option Addr) × Nat × Lay) => (cK b5 An i cn K S A7 c8 b4 f m t L ++ [pE S.O L, .abs R])) (0, none, 0, xM) (idx := [0, 2, 3, 19, 20, 21]) (pk := [9, 10, 11, 12, 2, 8, 3, 0, 4, 5, 6, 7]) (show (0 ≤ S.idx.length) from (Nat.zero_le _)) (fun _ => by kernel_rfl) rfl (by kernel_rfl) ?_
 rintro ⟨i, An, cn, K⟩ hi
 show af _ _ _ _ (fC f b4 b5 ++ qo A7 S c8 i) (cK b5 An i cn K S A7 c8 b4 f m t L ++ [pE S.O L, .abs R]) _
 refine SR ?_
 refine gK 1 [(22, .bool (decide ((((i : Nat) : Int) : Int) < ((((keys S.idx).length : Nat) : Int) : Int))))] [] ?_
 refine NN (af.seq ?_)
 refine af.bH (p := (((i : Nat) : Int) : Int) < ((((keys S.idx).length : Nat) : Int) : Int)) (fun _ => by kernel_rfl) (fun GX => ?_) (fun GX => ?_)
 ·
  have hi2 : i < S.idx.length := by omega
  refine af.skip (NX (af.seq (af.block (SR ?_))))
  refine ah.tell (p := (A7 = some ⟨ay A7, ax A7, none⟩)) (fun w hS => let ⟨F, h⟩ := hS.get (i := 4) rfl; (aF.B6 h (by omega)).1) (fun hAk => ?_)
  refine gK 3 [(5, .int .i64 ((bU S i)))] [(0, p_ ⟨[], some i, none, some ⟨(ay A7), ax A7, none⟩, none⟩ [((i : Nat) : Int) = ((i : Nat) : Int), i < (keys S.idx).length, (⟨(ay A7), ax A7, none⟩ : Addr).spot = none, (A7 : Option Addr) = some ⟨(ay A7), ax A7, none⟩] ⟨rfl, by omega, rfl, hAk, trivial⟩), (1, p_ ⟨[.view 4 (.int .i64 ((bU S i)))], none, none, none, none⟩ [(∀ F w, (aF 3 1 A7 ((keys S.idx).length) c8 (ints (keys S.idx))).h F w → w.cell? ⟨(ay A7), ax A7 + i * 1, none⟩ = some (.int .i64 ((bU S i))))] ⟨aF.cellAt (i := i) (j := 0) (by omega) (F5 hi2), trivial⟩)] ?_
  refine NN (af.seq ?_)
  have ND := (BO hI.toInv0 hi2).1
  have hget := get_at hI.toInv0 hi2
  rcases KY hI.toInv0 hi2 with ⟨tk, iZ, hlv⟩ | ⟨tk, iZ, hlv⟩ | ⟨tk, iZ, hlv⟩
  ·
   have hkt : (obj S.O tk).kind = 1 := hI.kind hlv
   have hel : (obj S.O tk).ai.length ≤ 8192 := hI.eG hlv
   have hdl : (obj S.O tk).data.length ≤ 140737488355328 := hI.CA hlv
   refine af.region ?_
   refine gK 5 [(28, .map (some m)), (29, .int .i64 ((bU S i)))] [(3, a_ 6 f)] ?_
   refine ah.dV 7 (d := (some 30)) (t := 83) (K := 3) (E := 87) (b := m) (n := S.idx.length) (f := (aN (aJ L S.idx))) (x := (.tmp 28)) (ix := (.tmp 29)) (key := .int .i64 ((bU S i))) (z := .nilIface) (kl := (.int .i64 (bU S i))) (r := (some (cM L ⟨tk, 1⟩))) (fun _ => by kernel_rfl) (by kernel_rfl) (fun _ => by kernel_rfl) (fun _ => by kernel_rfl) dL Tryz.underlying83 (fun _ => by kernel_rfl) (iB (xO hI.toInv0 hi2)) (by rw [ez, hget, iZ]; rfl) ?_
   refine gK 1 [(6, .iface 92 (.pointer (some ⟨(L.b tk), 0, none⟩)))] [] ?_
   refine NS ?_
   refine gK 1 [(31, .iface 92 (.pointer (some ⟨(L.b tk), 0, none⟩)))] [] ?_
   refine gL [] (cg (L.b tk)) ?_
   rintro _ _ ⟨rfl, rfl⟩
   refine gK 1 [(7, .pointer (some ⟨(L.b tk), 0, none⟩))] [] ?_
   refine NN (af.seq ?_)
   refine af.oe (S := [pO S.O L]) [0, 1, 3, 4, 5, 6, 7, 8, 9, 10, 11, 12, 13, 14, 15, 16, 17, 18] [.three 2 19 20, .one 21] [8] (by kernel_rfl) (by kernel_rfl) rfl (by kernel_rfl) ?_
   refine eX.reads (rs := []) (fr' := ([(0, vP f), (2, vP b4), (3, vP b5), (6, .iface 92 (vP (L.b tk)))] ++ xS A7 S c8 i ++ [(33, vI (bU S i)), (34, .iface 92 (vP (L.b tk)))] ++ F7 S tk)) (ak := [(∀ F w, (aq (aS S.O L)).h F w → w.cell? ⟨(L.b tk), 5, none⟩ = some (.int .i64 ((obj S.O tk).nano))), (∀ F w, (aq (aS S.O L)).h F w → w.cell? ⟨(L.b tk), 4, none⟩ = some (.int .i64 ((obj S.O tk).sec))), (∀ F w, (aq (aS S.O L)).h F w → w.cell? ⟨(L.b tk), 3, none⟩ = some (.int .i64 ((obj S.O tk).gid))), (∀ F w, (aq (aS S.O L)).h F w → w.cell? ⟨(L.b tk), 2, none⟩ = some (.int .i64 ((obj S.O tk).uid))), (∀ F w, (aq (aS S.O L)).h F w → w.cell? ⟨(L.b tk), 1, none⟩ = some (.int .i64 ((obj S.O tk).mode)))]) [0, 1, 3, 4, 5, 6, 7, 8, 9, 10, 11, 12, 13, 14, 15, 16, 17, 18] [o_, o_, o_, o_, o_, ⟨[.view 0 (.int .i64 ((obj S.O tk).mode))], none, none, none, none⟩, o_, o_, o_, ⟨[.view 0 (.int .i64 ((obj S.O tk).uid))], none, none, none, none⟩, o_, o_, o_, ⟨[.view 0 (.int .i64 ((obj S.O tk).gid))], none, none, none, none⟩, o_, o_, o_, ⟨[.view 0 (.int .i64 ((obj S.O tk).sec)), .view 0 (.int .i64 ((obj S.O tk).nano))], none, none, none, none⟩] [0, 2, 3, 6, 19, 20, 21, 33, 34, 39, 43, 47, 51] (fun _ => by kernel_rfl) ⟨bg (by rw [hkt]; decide) (rfl), bg (by rw [hkt]; decide) (rfl), bg (by rw [hkt]; decide) (rfl), bg (by rw [hkt]; decide) (rfl), bg (by rw [hkt]; decide) (rfl), trivial⟩ ?_
   refine eX.three (ι := Nat) (fa := fun (_ : Unit) => (fC f b4 b5 ++ [(6, .iface 92 (.pointer (some ⟨(L.b tk), 0, none⟩)))] ++ qo A7 S c8 i ++ [(33, .int .i64 ((bU S i))), (35, .int .i64 1)] ++ iH S tk)) (ha := fun (_ : Unit) => (cK b5 An i cn K S A7 c8 b4 f m t L ++ [pE S.O L, .abs R])) (Es := Unit) (fb := fun (_ : Unit) => (fC f b4 b5 ++ [(6, .iface 92 (.pointer (some ⟨(L.b tk), 0, none⟩)))] ++ qo A7 S c8 i ++ [(52, .agg #[.int .i64 ((bU S i)), .int .i64 1, .int .i64 ((obj S.O tk).mode), .int .i64 ((obj S.O tk).uid), .int .i64 ((obj S.O tk).gid), .int .i64 ((obj S.O tk).sec), .int .i64 ((obj S.O tk).nano), .slice none (0) (0), .string ⟨#[]⟩, .slice none (0) (0)])])) (hb := fun (_ : Unit) => (cK b5 An i cn K S A7 c8 b4 f m t L ++ [pE S.O L, .abs R])) (Et := Unit) (fc := fun (b10 : Nat) => (fC f b4 b5 ++ [(6, .iface 92 (.pointer (some ⟨(L.b tk), 0, none⟩)))] ++ jv b10 A7 S c8 i ++ [(35, .int .i64 1)] ++ iH S tk)) (hc := fun (b10 : Nat) => (cK b5 An i cn K S A7 c8 b4 f m t L ++ [pE S.O L, .abs R, kD b10])) (Eu := Nat) (fd := fun (b11 : Nat) => (fC f b4 b5 ++ [(6, .iface 92 (.pointer (some ⟨(L.b tk), 0, none⟩)))] ++ jv b11 A7 S c8 i ++ [(34, .iface 92 (.pointer (some ⟨(L.b tk), 0, none⟩)))] ++ iH S tk)) (hd := fun (b11 : Nat) => (cK b5 An i cn K S A7 c8 b4 f m t L ++ [pE S.O L, .abs R, kD b11])) (Ev := Nat) (fe := fun (b11 : Nat) => (fC f b4 b5 ++ [(6, .iface 92 (.pointer (some ⟨(L.b tk), 0, none⟩)))] ++ jv b11 A7 S c8 i ++ [(35, .int .i64 1)] ++ iH S tk)) (he := fun (b11 : Nat) => (cK b5 An i cn K S A7 c8 b4 f m t L ++ [pE S.O L, .abs R, kD b11])) (Ew := Nat) (fr' := fun (b9 : Nat) => ([(0, vP f), (2, vP b4), (3, vP b5), (6, .iface 92 (vP (L.b tk))), (8, vP b9)] ++ xS A7 S c8 i ++ [(52, .agg #[vI (bU S i), vI 1, vI ((obj S.O tk).mode), vI ((obj S.O tk).uid), vI ((obj S.O tk).gid), vI ((obj S.O tk).sec), vI ((obj S.O tk).nano), .slice none (0) (0), .string ⟨#[]⟩, .slice none (0) (0)])])) (hp' := fun (b9 : Nat) => (cK b5 An i cn K S A7 c8 b4 f m t L ++ [pE S.O L, .abs R, kD b9])) [8] [8] [8] [8] [8] [8] rfl rfl rfl rfl rfl rfl ?_ ?_ ?_ ?_ ?_ ?_ ?_ ?_ rfl (fun _ => by kernel_rfl) rfl (fun _ => by kernel_rfl) rfl (fun _ => by kernel_rfl) rfl (fun _ => by kernel_rfl) rfl (fun _ => by kernel_rfl) rfl (fun _ => by kernel_rfl) ?_
   ·
    refine gL [] (jf (.pointer (some ⟨(L.b tk), 0, none⟩))) ?_
    rintro _ _ ⟨rfl, rfl⟩
    refine NL ?_
    exact MD () [0, 2, 3, 6, 19, 20, 21, 33, 35, 39, 43, 47, 51] [0, 1, 2, 3, 4, 5, 6, 7, 8, 9, 10, 11]
   ·
    rintro _
    refine gK 1 [(52, .agg #[.int .i64 ((bU S i)), .int .i64 1, .int .i64 ((obj S.O tk).mode), .int .i64 ((obj S.O tk).uid), .int .i64 ((obj S.O tk).gid), .int .i64 ((obj S.O tk).sec), .int .i64 ((obj S.O tk).nano), .slice none (0) (0), .string ⟨#[]⟩, .slice none (0) (0)])] [] ?_
    refine NL ?_
    exact MD () [0, 2, 3, 6, 19, 20, 21, 52] [0, 1, 2, 3, 4, 5, 6, 7, 8, 9, 10, 11]
   ·
    rintro _
    refine gN 1 (fun b9 => [(8, .pointer (some ⟨b9, 0, none⟩))]) (fun _ => []) (fun _ => []) (fun b9 => .blk b9 [.int .i64 0, .int .i64 0, .int .i64 0, .int .i64 0, .int .i64 0, .int .i64 0, .int .i64 0, .slice none (0) (0), .string ⟨#[]⟩, .slice none (0) (0)] 46) (fun b9 => ?_)
    refine NL ?_
    exact MD b9 [0, 2, 3, 6, 8, 19, 20, 21, 52] [0, 1, 2, 3, 4, 5, 6, 7, 8, 9, 10, 11, 12]
   ·
    rintro _
    refine gN 1 (fun b10 => [(8, .pointer (some ⟨b10, 0, none⟩))]) (fun _ => []) (fun _ => []) (fun b10 => .blk b10 [.int .i64 0, .int .i64 0, .int .i64 0, .int .i64 0, .int .i64 0, .int .i64 0, .int .i64 0, .slice none (0) (0), .string ⟨#[]⟩, .slice none (0) (0)] 46) (fun b10 => ?_)
    refine NL ?_
    exact MD b10 [0, 2, 3, 6, 8, 19, 20, 21, 33, 35, 39, 43, 47, 51] [0, 1, 2, 3, 4, 5, 6, 7, 8, 9, 10, 11, 12]
   ·
    rintro b10
    show ah _ _ _ _ _ (fC f b4 b5 ++ [(6, .iface 92 (.pointer (some ⟨(L.b tk), 0, none⟩)))] ++ jv b10 A7 S c8 i ++ [(35, .int .i64 1)] ++ iH S tk) (cK b5 An i cn K S A7 c8 b4 f m t L ++ [pE S.O L, .abs R, kD b10]) _
    refine gK 1 [(52, .agg #[.int .i64 ((bU S i)), .int .i64 1, .int .i64 ((obj S.O tk).mode), .int .i64 ((obj S.O tk).uid), .int .i64 ((obj S.O tk).gid), .int .i64 ((obj S.O tk).sec), .int .i64 ((obj S.O tk).nano), .slice none (0) (0), .string ⟨#[]⟩, .slice none (0) (0)])] [] ?_
    refine NL ?_
    exact MD b10 [0, 2, 3, 6, 8, 19, 20, 21, 52] [0, 1, 2, 3, 4, 5, 6, 7, 8, 9, 10, 11, 12]
   ·
    refine gN 1 (fun b11 => [(8, .pointer (some ⟨b11, 0, none⟩))]) (fun _ => []) (fun _ => []) (fun b11 => .blk b11 [.int .i64 0, .int .i64 0, .int .i64 0, .int .i64 0, .int .i64 0, .int .i64 0, .int .i64 0, .slice none (0) (0), .string ⟨#[]⟩, .slice none (0) (0)] 46) (fun b11 => ?_)
    refine NL ?_
    exact MD b11 [0, 2, 3, 6, 8, 19, 20, 21, 33, 34, 39, 43, 47, 51] [0, 1, 2, 3, 4, 5, 6, 7, 8, 9, 10, 11, 12]
   ·
    rintro b11
    show ah _ _ _ _ _ (fC f b4 b5 ++ [(6, .iface 92 (.pointer (some ⟨(L.b tk), 0, none⟩)))] ++ jv b11 A7 S c8 i ++ [(34, .iface 92 (.pointer (some ⟨(L.b tk), 0, none⟩)))] ++ iH S tk) (cK b5 An i cn K S A7 c8 b4 f m t L ++ [pE S.O L, .abs R, kD b11]) _
    refine gL [] (jf (.pointer (some ⟨(L.b tk), 0, none⟩))) ?_
    rintro _ _ ⟨rfl, rfl⟩
    refine NL ?_
    exact MD b11 [0, 2, 3, 6, 8, 19, 20, 21, 33, 35, 39, 43, 47, 51] [0, 1, 2, 3, 4, 5, 6, 7, 8, 9, 10, 11, 12]
   ·
    rintro b11
    show ah _ _ _ _ _ (fC f b4 b5 ++ [(6, .iface 92 (.pointer (some ⟨(L.b tk), 0, none⟩)))] ++ jv b11 A7 S c8 i ++ [(35, .int .i64 1)] ++ iH S tk) (cK b5 An i cn K S A7 c8 b4 f m t L ++ [pE S.O L, .abs R, kD b11]) _
    refine gK 1 [(52, .agg #[.int .i64 ((bU S i)), .int .i64 1, .int .i64 ((obj S.O tk).mode), .int .i64 ((obj S.O tk).uid), .int .i64 ((obj S.O tk).gid), .int .i64 ((obj S.O tk).sec), .int .i64 ((obj S.O tk).nano), .slice none (0) (0), .string ⟨#[]⟩, .slice none (0) (0)])] [] ?_
    refine NL ?_
    exact MD b11 [0, 2, 3, 6, 8, 19, 20, 21, 52] [0, 1, 2, 3, 4, 5, 6, 7, 8, 9, 10, 11, 12]
   rintro b9
   refine eX.last rfl rfl ?_
   refine gC 1 [] [(0, A_ 12 b9 10)] [(12, ([(0, .int .i64 ((bU S i))), (1, .int .i64 1)] ++ F6 S tk))] ?_
   refine NL (aj.np (NX (af.seq (SR ?_))))
   refine gK 1 [(53, .iface 92 (.pointer (some ⟨(L.b tk), 0, none⟩)))] [] ?_
   refine NN (af.block (SR ?_))
   refine gK 3 [(55, .bool true), (56, .pointer (some ⟨(L.b tk), 0, none⟩))] [] ?_
   refine NN ?_
   refine CT ?_
   refine SR ?_
   refine gK 1 [(9, .pointer (some ⟨(L.b tk), 0, none⟩))] [] ?_
   refine NN (af.region ?_)
   refine gK 4 [(60, .slice (L.dA tk) ((obj S.O tk).data.length) ((L.dC tk)))] [(3, v_ 8 (Jb L hkt))] ?_
   refine ah.mem (aK := ([JY b5 An i cn, JZ An i cn K S, uE S i K, Ay S i K] ++ o5 A7 S c8 b4 f m t L ++ [Lj S L tk, pE S.O L, .abs R, J0 b9 S i tk, .abs (aF 5 1 (L.dA tk) ((obj S.O tk).data.length) (L.dC tk) (bD (obj S.O tk).data))])) (fun w hS => hS.DB (i := 9) (k := tk) rfl hkt) ?_
   refine gL [13] (Az (L.dA tk) (L.dC tk) (obj S.O tk).data hdl) ?_
   rintro _ _ ⟨jD, jE, rfl, rfl⟩
   refine ah.mem (aK := ([pD S.O L, .abs (aF 5 1 jD ((obj S.O tk).data.length) jE (bD (obj S.O tk).data)), JY b5 An i cn, JZ An i cn K S, uE S i K, Ay S i K] ++ o5 A7 S c8 b4 f m t L ++ [pE S.O L, .abs R, J0 b9 S i tk])) (fun w hS => hS.JU (i := 11) (j := 1) (ix := [0, 2, 3, 4, 5, 6, 7, 8, 9, 10, 12, 13, 14]) rfl rfl (by kernel_rfl) rfl hkt) ?_
   refine gC 2 [] [(1, a_ 13 b9)] [(13, [(7, .slice jD ((obj S.O tk).data.length) (jE))])] ?_
   refine NL (aj.aW (NX (af.region ?_)))
   refine gN 4 (fun b14 => [(104, .slice An (i) (cn)), (106, .slice (some ⟨b14, 0, none⟩) (1) (1))]) (fun b14 => [(1, a_ 2 b5), (2, A_ 13 b9 10)]) (fun _ => []) (fun b14 => .blk b14 [.int .i64 ((bU S i)), .int .i64 1, .int .i64 ((obj S.O tk).mode), .int .i64 ((obj S.O tk).uid), .int .i64 ((obj S.O tk).gid), .int .i64 ((obj S.O tk).sec), .int .i64 ((obj S.O tk).nano), .slice jD ((obj S.O tk).data.length) (jE), .string ⟨#[]⟩, .slice none (0) (0)] 46) (fun b14 => ?_)
   refine ah.append 3 (d := (some 107)) (t := 24) (e := 46) (z := .agg #[.int .i64 0, .int .i64 0, .int .i64 0, .int .i64 0, .int .i64 0, .int .i64 0, .int .i64 0, .slice none (0) (0), .string ⟨#[]⟩, .slice none (0) (0)]) (size := 10) (bytes := 120) (n := i) (cap := cn) (A := An) (xs := (cQ K ((aP S).take i))) (s := (.tmp 104)) (x := (.tmp 106)) (ats := #[24, 24]) (A' := some ⟨b14, 0, none⟩) (m := 1) (c' := 1) (news := [.int .i64 ((bU S i)), .int .i64 1, .int .i64 ((obj S.O tk).mode), .int .i64 ((obj S.O tk).uid), .int .i64 ((obj S.O tk).gid), .int .i64 ((obj S.O tk).sec), .int .i64 ((obj S.O tk).nano), .slice jD ((obj S.O tk).data.length) (jE), .string ⟨#[]⟩, .slice none (0) (0)]) (fun _ => by kernel_rfl) rfl (by kernel_rfl) (fun _ => by kernel_rfl) (fun _ => by kernel_rfl) Tryz.underlying24 (by kernel_rfl) rfl (by decide) (rfl) (by simp [Value.oneCell']) (l9 (j := 14) rfl) (by unfold maxLen; omega) (by omega) (fun iw gM => ?_)
   refine ah.eP 3 (p := .abs (aF 46 10 iw (i + 1) gM ((cQ K ((aP S).take i)) ++ [.int .i64 ((bU S i)), .int .i64 1, .int .i64 ((obj S.O tk).mode), .int .i64 ((obj S.O tk).uid), .int .i64 ((obj S.O tk).gid), .int .i64 ((obj S.O tk).sec), .int .i64 ((obj S.O tk).nano), .slice jD ((obj S.O tk).data.length) (jE), .string ⟨#[]⟩, .slice none (0) (0)]))) (p' := .abs (aF 46 10 iw (i + 1) gM (cQ (K.put i jD jE none 0) ((aP S).take (i + 1))))) (by kernel_rfl) (congrArg (fun x => HP.abs (aF 46 10 _ _ _ x)) (rF (cJ (by omega)) (nA hI.toInv0 hi2 iZ hlv) rfl rfl)) ?_
   refine ah.slot 107 (.slice iw (i + 1) (gM)) (.slice iw ((i + 1)) (gM)) (fun _ => by kernel_rfl) (rfl) ?_
   refine gC 2 [] [(1, a_ 2 b5)] [(2, [(0, .slice iw ((i + 1)) (gM))])] ?_
   refine NL (aj.aW (NX (af.region ?_)))
   refine gK 2 [(21, .int .i64 ↑(i + 1))] [(0, p_ ⟨[], none, none, none, some (.int .i64 ↑(i + 1))⟩ [(Value.int .i64 (IntKind.wrap .i64 (((i : Nat) : Int) + 1))) = (.int .i64 ↑(i + 1))] ⟨bQ (by omega) (by omega) (by omega), trivial⟩)] ?_
   refine NL ?_
   refine aj.mem (aK := ([pD S.O L, .abs (aF 5 1 jD ((obj S.O tk).data.length) jE (bD (obj S.O tk).data)), rG b5 iw i gM, .abs (aF 46 10 iw (i + 1) gM (cQ (K.put i jD jE none 0) ((aP S).take (i + 1)))), uE S i K, Ay S i K] ++ o5 A7 S c8 b4 f m t L ++ [pE S.O L, .abs R, xP b9 S i tk jD jE, xP b14 S i tk jD jE, Db])) (fun w hS => hS.jJ (e := 62) (size := 2)) ?_
   refine aj.mem (aK := ([.abs (eF (gi ((aP S).take (i + 1)) (K.put i jD jE none 0)) (i + 1)), pD S.O L, rG b5 iw i gM, .abs (aF 46 10 iw (i + 1) gM (cQ (K.put i jD jE none 0) ((aP S).take (i + 1)))), uE S i K] ++ o5 A7 S c8 b4 f m t L ++ [pE S.O L, .abs R, xP b9 S i tk jD jE, xP b14 S i tk jD jE, Db])) (fun w hS => hS.ol (R' := (gi ((aP S).take (i + 1)) (K.put i jD jE none 0))) (i := 5) (j := 1) (idx := [0, 2, 3, 4, 6, 7, 8, 9, 10, 11, 12, 13, 14, 15]) rfl rfl (by kernel_rfl) rfl (vv (cJ (by omega)) (nA hI.toInv0 hi2 iZ hlv)) (tv (cJ (by omega)) (nA hI.toInv0 hi2 iZ hlv) rfl)) ?_
   refine aj.mem (aK := ([.abs (eF (gV ((aP S).take (i + 1)) (K.put i jD jE none 0)) (i + 1)), .abs (eF (gi ((aP S).take (i + 1)) (K.put i jD jE none 0)) (i + 1)), pD S.O L, rG b5 iw i gM, .abs (aF 46 10 iw (i + 1) gM (cQ (K.put i jD jE none 0) ((aP S).take (i + 1))))] ++ o5 A7 S c8 b4 f m t L ++ [pE S.O L, .abs R, xP b9 S i tk jD jE, xP b14 S i tk jD jE])) (fun w hS => hS.ol (R' := (gV ((aP S).take (i + 1)) (K.put i jD jE none 0))) (i := 4) (j := 14) (idx := [0, 1, 2, 3, 5, 6, 7, 8, 9, 10, 11, 12, 13]) rfl rfl (by kernel_rfl) rfl (vw (cJ (by omega)) (nA hI.toInv0 hi2 iZ hlv)) ((tA (cJ (by omega)) (nA hI.toInv0 hi2 iZ hlv) rfl))) ?_
   exact aj.turn ((i + 1), iw, gM, (K.put i jD jE none 0)) (idx := [0, 2, 3, 19, 20, 21]) (pk := [3, 4, 0, 1, 5, 6, 7, 8, 9, 2, 10, 11]) (show (((i + 1)) ≤ S.idx.length) from (by omega)) (by show S.idx.length - ((i + 1)) < S.idx.length - i; omega) (fun _ => by kernel_rfl) rfl (by kernel_rfl)
  ·
   have hkt : (obj S.O tk).kind = 2 := hI.kind hlv
   have hel : (obj S.O tk).ai.length ≤ 8192 := hI.eG hlv
   have hdl : (obj S.O tk).data.length ≤ 140737488355328 := hI.CA hlv
   refine af.region ?_
   refine gK 5 [(28, .map (some m)), (29, .int .i64 ((bU S i)))] [(3, a_ 6 f)] ?_
   refine ah.dV 7 (d := (some 30)) (t := 83) (K := 3) (E := 87) (b := m) (n := S.idx.length) (f := (aN (aJ L S.idx))) (x := (.tmp 28)) (ix := (.tmp 29)) (key := .int .i64 ((bU S i))) (z := .nilIface) (kl := (.int .i64 (bU S i))) (r := (some (cM L ⟨tk, 2⟩))) (fun _ => by kernel_rfl) (by kernel_rfl) (fun _ => by kernel_rfl) (fun _ => by kernel_rfl) dL Tryz.underlying83 (fun _ => by kernel_rfl) (iB (xO hI.toInv0 hi2)) (by rw [ez, hget, iZ]; rfl) ?_
   refine gK 1 [(6, .iface 98 (.pointer (some ⟨(L.b tk), 0, none⟩)))] [] ?_
   refine NS ?_
   refine gK 1 [(31, .iface 98 (.pointer (some ⟨(L.b tk), 0, none⟩)))] [] ?_
   refine gL [] (cg (L.b tk)) ?_
   rintro _ _ ⟨rfl, rfl⟩
   refine gK 1 [(7, .pointer (some ⟨(L.b tk), 0, none⟩))] [] ?_
   refine NN (af.seq ?_)
   refine af.oe (S := [pO S.O L]) [0, 1, 3, 4, 5, 6, 7, 8, 9, 10, 11, 12, 13, 14, 15, 16, 17, 18] [.three 2 19 20, .one 21] [8] (by kernel_rfl) (by kernel_rfl) rfl (by kernel_rfl) ?_
   refine eX.reads (rs := []) (fr' := ([(0, vP f), (2, vP b4), (3, vP b5), (6, .iface 98 (vP (L.b tk)))] ++ xS A7 S c8 i ++ [(33, vI (bU S i)), (34, .iface 98 (vP (L.b tk)))] ++ F7 S tk)) (ak := [(∀ F w, (aq (aS S.O L)).h F w → w.cell? ⟨(L.b tk), 5, none⟩ = some (.int .i64 ((obj S.O tk).nano))), (∀ F w, (aq (aS S.O L)).h F w → w.cell? ⟨(L.b tk), 4, none⟩ = some (.int .i64 ((obj S.O tk).sec))), (∀ F w, (aq (aS S.O L)).h F w → w.cell? ⟨(L.b tk), 3, none⟩ = some (.int .i64 ((obj S.O tk).gid))), (∀ F w, (aq (aS S.O L)).h F w → w.cell? ⟨(L.b tk), 2, none⟩ = some (.int .i64 ((obj S.O tk).uid))), (∀ F w, (aq (aS S.O L)).h F w → w.cell? ⟨(L.b tk), 1, none⟩ = some (.int .i64 ((obj S.O tk).mode)))]) [0, 1, 3, 4, 5, 6, 7, 8, 9, 10, 11, 12, 13, 14, 15, 16, 17, 18] [o_, o_, o_, o_, o_, ⟨[.view 0 (.int .i64 ((obj S.O tk).mode))], none, none, none, none⟩, o_, o_, o_, ⟨[.view 0 (.int .i64 ((obj S.O tk).uid))], none, none, none, none⟩, o_, o_, o_, ⟨[.view 0 (.int .i64 ((obj S.O tk).gid))], none, none, none, none⟩, o_, o_, o_, ⟨[.view 0 (.int .i64 ((obj S.O tk).sec)), .view 0 (.int .i64 ((obj S.O tk).nano))], none, none, none, none⟩] [0, 2, 3, 6, 19, 20, 21, 33, 34, 39, 43, 47, 51] (fun _ => by kernel_rfl) ⟨bg (by rw [hkt]; decide) (rfl), bg (by rw [hkt]; decide) (rfl), bg (by rw [hkt]; decide) (rfl), bg (by rw [hkt]; decide) (rfl), bg (by rw [hkt]; decide) (rfl), trivial⟩ ?_
   refine eX.three (ι := Nat) (fa := fun (_ : Unit) => (fC f b4 b5 ++ [(6, .iface 98 (.pointer (some ⟨(L.b tk), 0, none⟩)))] ++ qo A7 S c8 i ++ [(33, .int .i64 ((bU S i))), (35, .int .i64 2)] ++ iH S tk)) (ha := fun (_ : Unit) => (cK b5 An i cn K S A7 c8 b4 f m t L ++ [pE S.O L, .abs R])) (Es := Unit) (fb := fun (_ : Unit) => (fC f b4 b5 ++ [(6, .iface 98 (.pointer (some ⟨(L.b tk), 0, none⟩)))] ++ qo A7 S c8 i ++ [(52, .agg #[.int .i64 ((bU S i)), .int .i64 2, .int .i64 ((obj S.O tk).mode), .int .i64 ((obj S.O tk).uid), .int .i64 ((obj S.O tk).gid), .int .i64 ((obj S.O tk).sec), .int .i64 ((obj S.O tk).nano), .slice none (0) (0), .string ⟨#[]⟩, .slice none (0) (0)])])) (hb := fun (_ : Unit) => (cK b5 An i cn K S A7 c8 b4 f m t L ++ [pE S.O L, .abs R])) (Et := Unit) (fc := fun (b18 : Nat) => (fC f b4 b5 ++ [(6, .iface 98 (.pointer (some ⟨(L.b tk), 0, none⟩)))] ++ jv b18 A7 S c8 i ++ [(35, .int .i64 2)] ++ iH S tk)) (hc := fun (b18 : Nat) => (cK b5 An i cn K S A7 c8 b4 f m t L ++ [pE S.O L, .abs R, kD b18])) (Eu := Nat) (fd := fun (b19 : Nat) => (fC f b4 b5 ++ [(6, .iface 98 (.pointer (some ⟨(L.b tk), 0, none⟩)))] ++ jv b19 A7 S c8 i ++ [(34, .iface 98 (.pointer (some ⟨(L.b tk), 0, none⟩)))] ++ iH S tk)) (hd := fun (b19 : Nat) => (cK b5 An i cn K S A7 c8 b4 f m t L ++ [pE S.O L, .abs R, kD b19])) (Ev := Nat) (fe := fun (b19 : Nat) => (fC f b4 b5 ++ [(6, .iface 98 (.pointer (some ⟨(L.b tk), 0, none⟩)))] ++ jv b19 A7 S c8 i ++ [(35, .int .i64 2)] ++ iH S tk)) (he := fun (b19 : Nat) => (cK b5 An i cn K S A7 c8 b4 f m t L ++ [pE S.O L, .abs R, kD b19])) (Ew := Nat) (fr' := fun (b17 : Nat) => ([(0, vP f), (2, vP b4), (3, vP b5), (6, .iface 98 (vP (L.b tk))), (8, vP b17)] ++ xS A7 S c8 i ++ [(52, .agg #[vI (bU S i), vI 2, vI ((obj S.O tk).mode), vI ((obj S.O tk).uid), vI ((obj S.O tk).gid), vI ((obj S.O tk).sec), vI ((obj S.O tk).nano), .slice none (0) (0), .string ⟨#[]⟩, .slice none (0) (0)])])) (hp' := fun (b17 : Nat) => (cK b5 An i cn K S A7 c8 b4 f m t L ++ [pE S.O L, .abs R, kD b17])) [8] [8] [8] [8] [8] [8] rfl rfl rfl rfl rfl rfl ?_ ?_ ?_ ?_ ?_ ?_ ?_ ?_ rfl (fun _ => by kernel_rfl) rfl (fun _ => by kernel_rfl) rfl (fun _ => by kernel_rfl) rfl (fun _ => by kernel_rfl) rfl (fun _ => by kernel_rfl) rfl (fun _ => by kernel_rfl) ?_
   ·
    refine gL [] (jg (.pointer (some ⟨(L.b tk), 0, none⟩))) ?_
    rintro _ _ ⟨rfl, rfl⟩
    refine NL ?_
    exact MD () [0, 2, 3, 6, 19, 20, 21, 33, 35, 39, 43, 47, 51] [0, 1, 2, 3, 4, 5, 6, 7, 8, 9, 10, 11]
   ·
    rintro _
    refine gK 1 [(52, .agg #[.int .i64 ((bU S i)), .int .i64 2, .int .i64 ((obj S.O tk).mode), .int .i64 ((obj S.O tk).uid), .int .i64 ((obj S.O tk).gid), .int .i64 ((obj S.O tk).sec), .int .i64 ((obj S.O tk).nano), .slice none (0) (0), .string ⟨#[]⟩, .slice none (0) (0)])] [] ?_
    refine NL ?_
    exact MD () [0, 2, 3, 6, 19, 20, 21, 52] [0, 1, 2, 3, 4, 5, 6, 7, 8, 9, 10, 11]
   ·
    rintro _
    refine gN 1 (fun b17 => [(8, .pointer (some ⟨b17, 0, none⟩))]) (fun _ => []) (fun _ => []) (fun b17 => .blk b17 [.int .i64 0, .int .i64 0, .int .i64 0, .int .i64 0, .int .i64 0, .int .i64 0, .int .i64 0, .slice none (0) (0), .string ⟨#[]⟩, .slice none (0) (0)] 46) (fun b17 => ?_)
    refine NL ?_
    exact MD b17 [0, 2, 3, 6, 8, 19, 20, 21, 52] [0, 1, 2, 3, 4, 5, 6, 7, 8, 9, 10, 11, 12]
   ·
    rintro _
    refine gN 1 (fun b18 => [(8, .pointer (some ⟨b18, 0, none⟩))]) (fun _ => []) (fun _ => []) (fun b18 => .blk b18 [.int .i64 0, .int .i64 0, .int .i64 0, .int .i64 0, .int .i64 0, .int .i64 0, .int .i64 0, .slice none (0) (0), .string ⟨#[]⟩, .slice none (0) (0)] 46) (fun b18 => ?_)
    refine NL ?_
    exact MD b18 [0, 2, 3, 6, 8, 19, 20, 21, 33, 35, 39, 43, 47, 51] [0, 1, 2, 3, 4, 5, 6, 7, 8, 9, 10, 11, 12]
   ·
    rintro b18
    show ah _ _ _ _ _ (fC f b4 b5 ++ [(6, .iface 98 (.pointer (some ⟨(L.b tk), 0, none⟩)))] ++ jv b18 A7 S c8 i ++ [(35, .int .i64 2)] ++ iH S tk) (cK b5 An i cn K S A7 c8 b4 f m t L ++ [pE S.O L, .abs R, kD b18]) _
    refine gK 1 [(52, .agg #[.int .i64 ((bU S i)), .int .i64 2, .int .i64 ((obj S.O tk).mode), .int .i64 ((obj S.O tk).uid), .int .i64 ((obj S.O tk).gid), .int .i64 ((obj S.O tk).sec), .int .i64 ((obj S.O tk).nano), .slice none (0) (0), .string ⟨#[]⟩, .slice none (0) (0)])] [] ?_
    refine NL ?_
    exact MD b18 [0, 2, 3, 6, 8, 19, 20, 21, 52] [0, 1, 2, 3, 4, 5, 6, 7, 8, 9, 10, 11, 12]
   ·
    refine gN 1 (fun b19 => [(8, .pointer (some ⟨b19, 0, none⟩))]) (fun _ => []) (fun _ => []) (fun b19 => .blk b19 [.int .i64 0, .int .i64 0, .int .i64 0, .int .i64 0, .int .i64 0, .int .i64 0, .int .i64 0, .slice none (0) (0), .string ⟨#[]⟩, .slice none (0) (0)] 46) (fun b19 => ?_)
    refine NL ?_
    exact MD b19 [0, 2, 3, 6, 8, 19, 20, 21, 33, 34, 39, 43, 47, 51] [0, 1, 2, 3, 4, 5, 6, 7, 8, 9, 10, 11, 12]
   ·
    rintro b19
    show ah _ _ _ _ _ (fC f b4 b5 ++ [(6, .iface 98 (.pointer (some ⟨(L.b tk), 0, none⟩)))] ++ jv b19 A7 S c8 i ++ [(34, .iface 98 (.pointer (some ⟨(L.b tk), 0, none⟩)))] ++ iH S tk) (cK b5 An i cn K S A7 c8 b4 f m t L ++ [pE S.O L, .abs R, kD b19]) _
    refine gL [] (jg (.pointer (some ⟨(L.b tk), 0, none⟩))) ?_
    rintro _ _ ⟨rfl, rfl⟩
    refine NL ?_
    exact MD b19 [0, 2, 3, 6, 8, 19, 20, 21, 33, 35, 39, 43, 47, 51] [0, 1, 2, 3, 4, 5, 6, 7, 8, 9, 10, 11, 12]
   ·
    rintro b19
    show ah _ _ _ _ _ (fC f b4 b5 ++ [(6, .iface 98 (.pointer (some ⟨(L.b tk), 0, none⟩)))] ++ jv b19 A7 S c8 i ++ [(35, .int .i64 2)] ++ iH S tk) (cK b5 An i cn K S A7 c8 b4 f m t L ++ [pE S.O L, .abs R, kD b19]) _
    refine gK 1 [(52, .agg #[.int .i64 ((bU S i)), .int .i64 2, .int .i64 ((obj S.O tk).mode), .int .i64 ((obj S.O tk).uid), .int .i64 ((obj S.O tk).gid), .int .i64 ((obj S.O tk).sec), .int .i64 ((obj S.O tk).nano), .slice none (0) (0), .string ⟨#[]⟩, .slice none (0) (0)])] [] ?_
    refine NL ?_
    exact MD b19 [0, 2, 3, 6, 8, 19, 20, 21, 52] [0, 1, 2, 3, 4, 5, 6, 7, 8, 9, 10, 11, 12]
   rintro b17
   refine eX.last rfl rfl ?_
   refine gC 1 [] [(0, A_ 12 b17 10)] [(12, ([(0, .int .i64 ((bU S i))), (1, .int .i64 2)] ++ F6 S tk))] ?_
   refine NL (aj.np (NX (af.seq (SR ?_))))
   refine gK 1 [(53, .iface 98 (.pointer (some ⟨(L.b tk), 0, none⟩)))] [] ?_
   refine NN (af.block (SR ?_))
   refine gK 3 [(55, .bool false), (56, .pointer none)] [] ?_
   refine NN ?_
   refine CF ?_
   refine SR ?_
   refine gK 3 [(64, .bool false), (65, .pointer none)] [] ?_
   refine NN ?_
   refine CF ?_
   refine SR ?_
   refine gK 3 [(72, .bool true), (73, .pointer (some ⟨(L.b tk), 0, none⟩))] [] ?_
   refine NN ?_
   refine CT ?_
   refine SR ?_
   refine gK 1 [(11, .pointer (some ⟨(L.b tk), 0, none⟩))] [] ?_
   refine NS ?_
   refine gK 4 [(77, .map (some (L.m tk)))] [(3, v_ 8 (bE L hkt))] ?_
   refine ah.mem (aK := (cK b5 An i cn K S A7 c8 b4 f m t L ++ [iF S L tk, .abs R, .blk b17 [.int .i64 ((bU S i)), .int .i64 2, .int .i64 ((obj S.O tk).mode), .int .i64 ((obj S.O tk).uid), .int .i64 ((obj S.O tk).gid), .int .i64 ((obj S.O tk).sec), .int .i64 ((obj S.O tk).nano), .slice none (0) (0), .string ⟨#[]⟩, .slice none (0) (0)] 46, o4 L tk S])) (fun w hS => hS.I4 (i := 10) (k := tk) rfl (hkt)) ?_
   refine gL [] (FY (some (L.m tk))) ?_
   rintro _ _ ⟨b20, rfl, rfl⟩
   refine gL [14, 0] (C5 L (L.m tk) b20 (obj S.O tk).ai.length (obj S.O tk).ai (hI.sorted _ hlv) hel) ?_
   rintro _ _ ⟨cO, dH, rfl, rfl⟩
   refine gK 1 [(80, .int .i64 ↑((obj S.O tk).ai.length))] [] ?_
   refine ah.mem (fun w hS => hS.jJ (e := 62) (size := 2)) ?_
   refine gK 1 [(81, .int .i64 0)] [] ?_
   refine NN (af.block ?_)
   refine af.loop (ι := Nat × (Option Addr) × Nat) (fun ((j, Ae, ce) : Nat × (Option Addr) × Nat) => (j ≤ (obj S.O tk).ai.length)) (fun ((j, Ae, ce) : Nat × (Option Addr) × Nat) => (obj S.O tk).ai.length - j) (fun ((j, Ae, ce) : Nat × (Option Addr) × Nat) => (fC f b4 b5 ++ [(8, .pointer (some ⟨b17, 0, none⟩)), (11, .pointer (some ⟨(L.b tk), 0, none⟩))] ++ qo A7 S c8 i ++ [(79, .slice cO ((obj S.O tk).ai.length) (dH)), (80, .int .i64 ↑((obj S.O tk).ai.length)), (81, .int .i64 ↑j)])) (fun ((j, Ae, ce) : Nat × (Option Addr) × Nat) => (lT b17 S i tk Ae j ce L b20 cO dH ++ cK b5 An i cn K S A7 c8 b4 f m t L ++ [iF S L tk, .abs R])) (0, none, 0) (idx := [0, 2, 3, 8, 11, 19, 20, 21, 79, 80, 81]) (pk := [15, 16, 0, 1, 2, 3, 4, 5, 6, 7, 8, 9, 10, 11, 12, 13, 14]) (show (0 ≤ (obj S.O tk).ai.length) from (Nat.zero_le _)) (fun _ => by kernel_rfl) rfl (by kernel_rfl) ?_
   rintro ⟨j, Ae, ce⟩ hj
   show af _ _ _ _ (fC f b4 b5 ++ [(8, .pointer (some ⟨b17, 0, none⟩)), (11, .pointer (some ⟨(L.b tk), 0, none⟩))] ++ qo A7 S c8 i ++ [(79, .slice cO ((obj S.O tk).ai.length) (dH)), (80, .int .i64 ↑((obj S.O tk).ai.length)), (81, .int .i64 ↑j)]) (lT b17 S i tk Ae j ce L b20 cO dH ++ cK b5 An i cn K S A7 c8 b4 f m t L ++ [iF S L tk, .abs R]) _
   refine SR ?_
   refine gK 1 [(82, .bool (decide ((((j : Nat) : Int) : Int) < ((((obj S.O tk).ai.length : Nat) : Int) : Int))))] [] ?_
   refine NN (af.seq ?_)
   refine af.bH (p := (((j : Nat) : Int) : Int) < ((((obj S.O tk).ai.length : Nat) : Int) : Int)) (fun _ => by kernel_rfl) (fun MS => ?_) (fun MS => ?_)
   ·
    have hj2 : j < (obj S.O tk).ai.length := by omega
    refine af.skip (NX (af.seq (af.block (SR ?_))))
    refine ah.tell (p := (cO = some ⟨ay cO, ax cO, none⟩)) (fun w hS => let ⟨F, h⟩ := hS.get (i := 4) rfl; (aF.B6 h (by omega)).1) (fun MT => ?_)
    refine gK 3 [(13, .string (dK (obj S.O tk).ai j))] [(0, p_ ⟨[], some j, none, some ⟨(ay cO), ax cO, none⟩, none⟩ [((j : Nat) : Int) = ((j : Nat) : Int), j < (obj S.O tk).ai.length, (⟨(ay cO), ax cO, none⟩ : Addr).spot = none, (cO : Option Addr) = some ⟨(ay cO), ax cO, none⟩] ⟨rfl, by omega, rfl, MT, trivial⟩), (1, p_ ⟨[.view 4 (.string (dK (obj S.O tk).ai j))], none, none, none, none⟩ [(∀ F w, (aF 9 1 cO ((obj S.O tk).ai.length) dH (lQ (obj S.O tk).ai)).h F w → w.cell? ⟨(ay cO), ax cO + j * 1, none⟩ = some (.string (dK (obj S.O tk).ai j)))] ⟨aF.cellAt (i := j) (j := 0) (by omega) (C9 hj2), trivial⟩)] ?_
    refine NN ?_
    obtain ⟨hgd, h4⟩ := Mf hI.toInv0 hlv hj2
    have hgs : (dK (obj S.O tk).ai j).size ≤ 255 := hgd.2.1
    rcases h4 with ⟨ek, hle, vu, Ez⟩ | ⟨ek, hle, vu, Ez⟩ | ⟨ek, hle, vu, Ez⟩
    ·
     have hke : (obj S.O ek).kind = 1 := hI.kind vu
     refine af.bT (S := [o4 L tk S, pO S.O L, kU b17 S i tk Ae j ce]) [0, 1, 2, 3, 4, 5, 6, 7, 8, 9, 10, 11, 12, 13, 14, 15, 16, 17] 9 [2, 13, 0] (by kernel_rfl) (by kernel_rfl) rfl (by kernel_rfl) ?_
     refine aD.reads (r := 1) (l := [8, 9, 10, 11, 12, 13, 14, 15, 16, 17]) (fr' := (iG f b4 b5 b17 L tk A7 S c8 i cO dH j ++ nH Ae j ce S tk ++ [(91, .map (some (L.m tk))), (92, .string (dK (obj S.O tk).ai j))])) (ak := [(∀ F w, (aq (aS S.O L)).h F w → w.cell? ⟨(L.b tk), 9, none⟩ = some (.map (some (L.m tk)))), b17 = b17]) [0, 1, 2, 3, 4, 5, 6, 7] [o_, ⟨[.at 2], none, none, none, none⟩, o_, o_, o_, o_, ⟨[.view 1 (.map (some (L.m tk)))], none, none, none, none⟩, o_] [0, 2, 3, 8, 11, 19, 20, 21, 79, 80, 81, 86, 87, 91, 92] (fun _ => by kernel_rfl) ⟨bg (by rw [hkt]; decide) (by rw [fW (hkt)]; rfl), rfl, trivial⟩ rfl rfl ?_
     refine aD.dV 0 (d := (some 93)) (t := 99) (K := 9) (E := 87) (b := (L.m tk)) (cnt := (obj S.O tk).ai.length) (f := (fB L (obj S.O tk).ai)) (x := (.tmp 91)) (ix := (.tmp 92)) (key := .string (dK (obj S.O tk).ai j)) (z := .nilIface) (kl := (.string (dK (obj S.O tk).ai j).data.toList)) (q := (some (cM L ⟨ek, 1⟩))) (by kernel_rfl) (by kernel_rfl) (fun _ => by kernel_rfl) (fun _ => by kernel_rfl) uU Tryz.underlying99 (fun _ => by kernel_rfl) (wW (by omega)) (by rw [om, hle]; rfl) (by kernel_rfl) ?_
     refine mL [2, 13, 0] [] (cg (L.b ek)) ?_ (by rintro _ _ ⟨rfl, rfl⟩; rfl)
     rintro _ _ ⟨rfl, rfl⟩
     refine aD.cut (ι := Unit) (fr' := fun (_ : Unit) => (iG f b4 b5 b17 L tk A7 S c8 i cO dH j ++ nH Ae j ce S tk ++ [(95, vP (L.b ek))])) (hp' := fun (_ : Unit) => (lT b17 S i tk Ae j ce L b20 cO dH ++ cK b5 An i cn K S A7 c8 b4 f m t L ++ [iF S L tk, .abs R])) [2, 13, 0] rfl rfl ?_ rfl (fun _ => by kernel_rfl) ?_
     ·
      refine gK 1 [(95, .pointer (some ⟨(L.b ek), 0, none⟩))] [] ?_
      refine NL ?_
      exact MD () [0, 2, 3, 8, 11, 19, 20, 21, 79, 80, 81, 86, 87, 95] [0, 1, 2, 3, 4, 5, 6, 7, 8, 9, 10, 11, 12, 13, 14, 15, 16]
     rintro _
     refine aD.cut (ι := Unit) (fr' := fun (_ : Unit) => (iG f b4 b5 b17 L tk A7 S c8 i cO dH j ++ nH Ae j ce S tk ++ [(96, vP (L.b ek))])) (hp' := fun (_ : Unit) => (lT b17 S i tk Ae j ce L b20 cO dH ++ cK b5 An i cn K S A7 c8 b4 f m t L ++ [iF S L tk, .abs R])) [2, 13, 0] rfl rfl ?_ rfl (fun _ => by kernel_rfl) ?_
     ·
      refine gK 1 [(96, .pointer (some ⟨(L.b ek), 0, none⟩))] [] ?_
      refine NL ?_
      exact MD () [0, 2, 3, 8, 11, 19, 20, 21, 79, 80, 81, 86, 87, 96] [0, 1, 2, 3, 4, 5, 6, 7, 8, 9, 10, 11, 12, 13, 14, 15, 16]
     rintro _
     refine aD.cut (ι := Unit) (fr' := fun (_ : Unit) => (iG f b4 b5 b17 L tk A7 S c8 i cO dH j ++ nH Ae j ce S tk ++ [(97, vI ((obj S.O ek).id))])) (hp' := fun (_ : Unit) => (lT b17 S i tk Ae j ce L b20 cO dH ++ cK b5 An i cn K S A7 c8 b4 f m t L ++ [iF S L tk, .abs R])) [2, 13, 0] rfl rfl ?_ rfl (fun _ => by kernel_rfl) ?_
     ·
      refine gK 1 [(97, .int .i64 ((obj S.O ek).id))] [(0, v_ 13 (wX L hke))] ?_
      refine NL ?_
      exact MD () [0, 2, 3, 8, 11, 19, 20, 21, 79, 80, 81, 86, 87, 97] [0, 1, 2, 3, 4, 5, 6, 7, 8, 9, 10, 11, 12, 13, 14, 15, 16]
     rintro _
     refine aD.cut (ι := Unit) (fr' := fun (_ : Unit) => (iG f b4 b5 b17 L tk A7 S c8 i cO dH j ++ [(86, .slice Ae (j) (ce)), (98, .agg #[.string (dK (obj S.O tk).ai j), vI ((obj S.O ek).id)])])) (hp' := fun (_ : Unit) => (lT b17 S i tk Ae j ce L b20 cO dH ++ cK b5 An i cn K S A7 c8 b4 f m t L ++ [iF S L tk, .abs R])) [2, 13, 0] rfl rfl ?_ rfl (fun _ => by kernel_rfl) ?_
     ·
      refine gK 1 [(98, .agg #[.string (dK (obj S.O tk).ai j), .int .i64 ((obj S.O ek).id)])] [] ?_
      refine NL ?_
      exact MD () [0, 2, 3, 8, 11, 19, 20, 21, 79, 80, 81, 86, 98] [0, 1, 2, 3, 4, 5, 6, 7, 8, 9, 10, 11, 12, 13, 14, 15, 16]
     rintro _
     refine mN [2, 13, 0] (fun wC => [(99, .slice (some ⟨wC, 0, none⟩) (1) (1))]) (fun _ => []) (fun wC => .blk wC [.string (dK (obj S.O tk).ai j), .int .i64 ((obj S.O ek).id)] 62) (fun wC => ?_)
     refine aD.cut (ι := (Option Addr) × Nat) (fr' := fun ((nM, nN) : (Option Addr) × Nat) => (iG f b4 b5 b17 L tk A7 S c8 i cO dH j ++ [(100, .slice nM ((j + 1)) (nN))])) (hp' := fun ((nM, nN) : (Option Addr) × Nat) => ([kU b17 S i tk Ae j ce, xQ nM j nN S tk, o4 L tk S, ql b20 L tk, qm cO S tk dH] ++ cK b5 An i cn K S A7 c8 b4 f m t L ++ [iF S L tk, .abs R, xR wC S tk j ek])) [2, 13, 0] rfl rfl ?_ rfl (fun _ => by kernel_rfl) ?_
     ·
      refine ah.append 1 (d := (some 100)) (t := 44) (e := 62) (z := .agg #[.string ⟨#[]⟩, .int .i64 0]) (size := 2) (bytes := 24) (n := j) (cap := ce) (A := Ae) (xs := (fS (((obj S.O tk).ai.take j).map (iX S.O)))) (s := (.tmp 86)) (x := (.tmp 99)) (ats := #[44, 44]) (A' := some ⟨wC, 0, none⟩) (m := 1) (c' := 1) (news := [.string (dK (obj S.O tk).ai j), .int .i64 ((obj S.O ek).id)]) (fun _ => by kernel_rfl) rfl (by kernel_rfl) (fun _ => by kernel_rfl) (fun _ => by kernel_rfl) Tryz.underlying44 (by kernel_rfl) rfl (by decide) (rfl) (by simp [Value.oneCell']) (l9 (j := 17) rfl) (by unfold maxLen; omega) (by omega) (fun nM nN => ?_)
      refine ah.eP 1 (p := .abs (aF 62 2 nM (j + 1) nN ((fS (((obj S.O tk).ai.take j).map (iX S.O))) ++ [.string (dK (obj S.O tk).ai j), .int .i64 ((obj S.O ek).id)]))) (p' := .abs (aF 62 2 nM (j + 1) nN (fS (((obj S.O tk).ai.take (j + 1)).map (iX S.O))))) (by kernel_rfl) (congrArg (fun x => HP.abs (aF 62 2 _ _ _ x)) (tB hj2 Ez)) ?_
      refine ah.slot 100 (.slice nM (j + 1) (nN)) (.slice nM ((j + 1)) (nN)) (fun _ => by kernel_rfl) (rfl) ?_
      refine NL ?_
      exact MD (nM, nN) [0, 2, 3, 8, 11, 19, 20, 21, 79, 80, 81, 100] [0, 1, 2, 3, 4, 5, 6, 7, 8, 9, 10, 11, 12, 13, 14, 15, 16, 17]
     rintro ⟨nM, nN⟩
     refine aD.cut (ι := Unit) (fr' := fun (_ : Unit) => (iG f b4 b5 b17 L tk A7 S c8 i cO dH j ++ [(100, .slice nM ((j + 1)) (nN)), (101, .pointer (some ⟨b17, 9, none⟩))])) (hp' := fun (_ : Unit) => ([kU b17 S i tk Ae j ce, xQ nM j nN S tk, o4 L tk S, ql b20 L tk, qm cO S tk dH] ++ cK b5 An i cn K S A7 c8 b4 f m t L ++ [iF S L tk, .abs R, xR wC S tk j ek])) [2, 13, 0] rfl rfl ?_ rfl (fun _ => by kernel_rfl) ?_
     ·
      refine gK 1 [(101, .pointer (some ⟨b17, 9, none⟩))] [] ?_
      refine NL ?_
      exact MD () [0, 2, 3, 8, 11, 19, 20, 21, 79, 80, 81, 100, 101] [0, 1, 2, 3, 4, 5, 6, 7, 8, 9, 10, 11, 12, 13, 14, 15, 16, 17]
     rintro _
     refine aD.last rfl rfl ?_
     refine gC 1 [] [(0, a_ 0 b17)] [(0, [(9, .slice nM ((j + 1)) (nN))])] ?_
     refine NL (aj.np (aj.aW (NX (af.region ?_))))
     refine gK 2 [(81, .int .i64 ↑(j + 1))] [(0, p_ ⟨[], none, none, none, some (.int .i64 ↑(j + 1))⟩ [(Value.int .i64 (IntKind.wrap .i64 (((j : Nat) : Int) + 1))) = (.int .i64 ↑(j + 1))] ⟨bQ (by omega) (by omega) (by omega), trivial⟩)] ?_
     refine NL ?_
     exact aj.turn ((j + 1), nM, nN) (idx := [0, 2, 3, 8, 11, 19, 20, 21, 79, 80, 81]) (pk := [0, 1, 2, 3, 4, 5, 6, 7, 8, 9, 10, 11, 12, 13, 14, 15, 16]) (show (((j + 1)) ≤ (obj S.O tk).ai.length) from (by omega)) (by show (obj S.O tk).ai.length - ((j + 1)) < (obj S.O tk).ai.length - j; omega) (fun _ => by kernel_rfl) rfl (by kernel_rfl)
    ·
     have hke : (obj S.O ek).kind = 2 := hI.kind vu
     refine af.bT (S := [o4 L tk S, pO S.O L, kU b17 S i tk Ae j ce]) [0, 1, 2, 3, 4, 5, 6, 7, 8, 9, 10, 11, 12, 13, 14, 15, 16, 17] 9 [2, 13, 0] (by kernel_rfl) (by kernel_rfl) rfl (by kernel_rfl) ?_
     refine aD.reads (r := 1) (l := [8, 9, 10, 11, 12, 13, 14, 15, 16, 17]) (fr' := (iG f b4 b5 b17 L tk A7 S c8 i cO dH j ++ nH Ae j ce S tk ++ [(91, .map (some (L.m tk))), (92, .string (dK (obj S.O tk).ai j))])) (ak := [(∀ F w, (aq (aS S.O L)).h F w → w.cell? ⟨(L.b tk), 9, none⟩ = some (.map (some (L.m tk)))), b17 = b17]) [0, 1, 2, 3, 4, 5, 6, 7] [o_, ⟨[.at 2], none, none, none, none⟩, o_, o_, o_, o_, ⟨[.view 1 (.map (some (L.m tk)))], none, none, none, none⟩, o_] [0, 2, 3, 8, 11, 19, 20, 21, 79, 80, 81, 86, 87, 91, 92] (fun _ => by kernel_rfl) ⟨bg (by rw [hkt]; decide) (by rw [fW (hkt)]; rfl), rfl, trivial⟩ rfl rfl ?_
     refine aD.dV 0 (d := (some 93)) (t := 99) (K := 9) (E := 87) (b := (L.m tk)) (cnt := (obj S.O tk).ai.length) (f := (fB L (obj S.O tk).ai)) (x := (.tmp 91)) (ix := (.tmp 92)) (key := .string (dK (obj S.O tk).ai j)) (z := .nilIface) (kl := (.string (dK (obj S.O tk).ai j).data.toList)) (q := (some (cM L ⟨ek, 2⟩))) (by kernel_rfl) (by kernel_rfl) (fun _ => by kernel_rfl) (fun _ => by kernel_rfl) uU Tryz.underlying99 (fun _ => by kernel_rfl) (wW (by omega)) (by rw [om, hle]; rfl) (by kernel_rfl) ?_
     refine mL [2, 13, 0] [] (cg (L.b ek)) ?_ (by rintro _ _ ⟨rfl, rfl⟩; rfl)
     rintro _ _ ⟨rfl, rfl⟩
     refine aD.cut (ι := Unit) (fr' := fun (_ : Unit) => (iG f b4 b5 b17 L tk A7 S c8 i cO dH j ++ nH Ae j ce S tk ++ [(95, vP (L.b ek))])) (hp' := fun (_ : Unit) => (lT b17 S i tk Ae j ce L b20 cO dH ++ cK b5 An i cn K S A7 c8 b4 f m t L ++ [iF S L tk, .abs R])) [2, 13, 0] rfl rfl ?_ rfl (fun _ => by kernel_rfl) ?_
     ·
      refine gK 1 [(95, .pointer (some ⟨(L.b ek), 0, none⟩))] [] ?_
      refine NL ?_
      exact MD () [0, 2, 3, 8, 11, 19, 20, 21, 79, 80, 81, 86, 87, 95] [0, 1, 2, 3, 4, 5, 6, 7, 8, 9, 10, 11, 12, 13, 14, 15, 16]
     rintro _
     refine aD.cut (ι := Unit) (fr' := fun (_ : Unit) => (iG f b4 b5 b17 L tk A7 S c8 i cO dH j ++ nH Ae j ce S tk ++ [(96, vP (L.b ek))])) (hp' := fun (_ : Unit) => (lT b17 S i tk Ae j ce L b20 cO dH ++ cK b5 An i cn K S A7 c8 b4 f m t L ++ [iF S L tk, .abs R])) [2, 13, 0] rfl rfl ?_ rfl (fun _ => by kernel_rfl) ?_
     ·
      refine gK 1 [(96, .pointer (some ⟨(L.b ek), 0, none⟩))] [] ?_
      refine NL ?_
      exact MD () [0, 2, 3, 8, 11, 19, 20, 21, 79, 80, 81, 86, 87, 96] [0, 1, 2, 3, 4, 5, 6, 7, 8, 9, 10, 11, 12, 13, 14, 15, 16]
     rintro _
     refine aD.cut (ι := Unit) (fr' := fun (_ : Unit) => (iG f b4 b5 b17 L tk A7 S c8 i cO dH j ++ nH Ae j ce S tk ++ [(97, vI ((obj S.O ek).id))])) (hp' := fun (_ : Unit) => (lT b17 S i tk Ae j ce L b20 cO dH ++ cK b5 An i cn K S A7 c8 b4 f m t L ++ [iF S L tk, .abs R])) [2, 13, 0] rfl rfl ?_ rfl (fun _ => by kernel_rfl) ?_
     ·
      refine gK 1 [(97, .int .i64 ((obj S.O ek).id))] [(0, v_ 13 (wX L hke))] ?_
      refine NL ?_
      exact MD () [0, 2, 3, 8, 11, 19, 20, 21, 79, 80, 81, 86, 87, 97] [0, 1, 2, 3, 4, 5, 6, 7, 8, 9, 10, 11, 12, 13, 14, 15, 16]
     rintro _
     refine aD.cut (ι := Unit) (fr' := fun (_ : Unit) => (iG f b4 b5 b17 L tk A7 S c8 i cO dH j ++ [(86, .slice Ae (j) (ce)), (98, .agg #[.string (dK (obj S.O tk).ai j), vI ((obj S.O ek).id)])])) (hp' := fun (_ : Unit) => (lT b17 S i tk Ae j ce L b20 cO dH ++ cK b5 An i cn K S A7 c8 b4 f m t L ++ [iF S L tk, .abs R])) [2, 13, 0] rfl rfl ?_ rfl (fun _ => by kernel_rfl) ?_
     ·
      refine gK 1 [(98, .agg #[.string (dK (obj S.O tk).ai j), .int .i64 ((obj S.O ek).id)])] [] ?_
      refine NL ?_
      exact MD () [0, 2, 3, 8, 11, 19, 20, 21, 79, 80, 81, 86, 98] [0, 1, 2, 3, 4, 5, 6, 7, 8, 9, 10, 11, 12, 13, 14, 15, 16]
     rintro _
     refine mN [2, 13, 0] (fun AB => [(99, .slice (some ⟨AB, 0, none⟩) (1) (1))]) (fun _ => []) (fun AB => .blk AB [.string (dK (obj S.O tk).ai j), .int .i64 ((obj S.O ek).id)] 62) (fun AB => ?_)
     refine aD.cut (ι := (Option Addr) × Nat) (fr' := fun ((p4, p5) : (Option Addr) × Nat) => (iG f b4 b5 b17 L tk A7 S c8 i cO dH j ++ [(100, .slice p4 ((j + 1)) (p5))])) (hp' := fun ((p4, p5) : (Option Addr) × Nat) => ([kU b17 S i tk Ae j ce, xQ p4 j p5 S tk, o4 L tk S, ql b20 L tk, qm cO S tk dH] ++ cK b5 An i cn K S A7 c8 b4 f m t L ++ [iF S L tk, .abs R, xR AB S tk j ek])) [2, 13, 0] rfl rfl ?_ rfl (fun _ => by kernel_rfl) ?_
     ·
      refine ah.append 1 (d := (some 100)) (t := 44) (e := 62) (z := .agg #[.string ⟨#[]⟩, .int .i64 0]) (size := 2) (bytes := 24) (n := j) (cap := ce) (A := Ae) (xs := (fS (((obj S.O tk).ai.take j).map (iX S.O)))) (s := (.tmp 86)) (x := (.tmp 99)) (ats := #[44, 44]) (A' := some ⟨AB, 0, none⟩) (m := 1) (c' := 1) (news := [.string (dK (obj S.O tk).ai j), .int .i64 ((obj S.O ek).id)]) (fun _ => by kernel_rfl) rfl (by kernel_rfl) (fun _ => by kernel_rfl) (fun _ => by kernel_rfl) Tryz.underlying44 (by kernel_rfl) rfl (by decide) (rfl) (by simp [Value.oneCell']) (l9 (j := 17) rfl) (by unfold maxLen; omega) (by omega) (fun p4 p5 => ?_)
      refine ah.eP 1 (p := .abs (aF 62 2 p4 (j + 1) p5 ((fS (((obj S.O tk).ai.take j).map (iX S.O))) ++ [.string (dK (obj S.O tk).ai j), .int .i64 ((obj S.O ek).id)]))) (p' := .abs (aF 62 2 p4 (j + 1) p5 (fS (((obj S.O tk).ai.take (j + 1)).map (iX S.O))))) (by kernel_rfl) (congrArg (fun x => HP.abs (aF 62 2 _ _ _ x)) (tB hj2 Ez)) ?_
      refine ah.slot 100 (.slice p4 (j + 1) (p5)) (.slice p4 ((j + 1)) (p5)) (fun _ => by kernel_rfl) (rfl) ?_
      refine NL ?_
      exact MD (p4, p5) [0, 2, 3, 8, 11, 19, 20, 21, 79, 80, 81, 100] [0, 1, 2, 3, 4, 5, 6, 7, 8, 9, 10, 11, 12, 13, 14, 15, 16, 17]
     rintro ⟨p4, p5⟩
     refine aD.cut (ι := Unit) (fr' := fun (_ : Unit) => (iG f b4 b5 b17 L tk A7 S c8 i cO dH j ++ [(100, .slice p4 ((j + 1)) (p5)), (101, .pointer (some ⟨b17, 9, none⟩))])) (hp' := fun (_ : Unit) => ([kU b17 S i tk Ae j ce, xQ p4 j p5 S tk, o4 L tk S, ql b20 L tk, qm cO S tk dH] ++ cK b5 An i cn K S A7 c8 b4 f m t L ++ [iF S L tk, .abs R, xR AB S tk j ek])) [2, 13, 0] rfl rfl ?_ rfl (fun _ => by kernel_rfl) ?_
     ·
      refine gK 1 [(101, .pointer (some ⟨b17, 9, none⟩))] [] ?_
      refine NL ?_
      exact MD () [0, 2, 3, 8, 11, 19, 20, 21, 79, 80, 81, 100, 101] [0, 1, 2, 3, 4, 5, 6, 7, 8, 9, 10, 11, 12, 13, 14, 15, 16, 17]
     rintro _
     refine aD.last rfl rfl ?_
     refine gC 1 [] [(0, a_ 0 b17)] [(0, [(9, .slice p4 ((j + 1)) (p5))])] ?_
     refine NL (aj.np (aj.aW (NX (af.region ?_))))
     refine gK 2 [(81, .int .i64 ↑(j + 1))] [(0, p_ ⟨[], none, none, none, some (.int .i64 ↑(j + 1))⟩ [(Value.int .i64 (IntKind.wrap .i64 (((j : Nat) : Int) + 1))) = (.int .i64 ↑(j + 1))] ⟨bQ (by omega) (by omega) (by omega), trivial⟩)] ?_
     refine NL ?_
     exact aj.turn ((j + 1), p4, p5) (idx := [0, 2, 3, 8, 11, 19, 20, 21, 79, 80, 81]) (pk := [0, 1, 2, 3, 4, 5, 6, 7, 8, 9, 10, 11, 12, 13, 14, 15, 16]) (show (((j + 1)) ≤ (obj S.O tk).ai.length) from (by omega)) (by show (obj S.O tk).ai.length - ((j + 1)) < (obj S.O tk).ai.length - j; omega) (fun _ => by kernel_rfl) rfl (by kernel_rfl)
    ·
     have hke : (obj S.O ek).kind = 3 := hI.kind vu
     refine af.bT (S := [o4 L tk S, pO S.O L, kU b17 S i tk Ae j ce]) [0, 1, 2, 3, 4, 5, 6, 7, 8, 9, 10, 11, 12, 13, 14, 15, 16, 17] 9 [2, 13, 0] (by kernel_rfl) (by kernel_rfl) rfl (by kernel_rfl) ?_
     refine aD.reads (r := 1) (l := [8, 9, 10, 11, 12, 13, 14, 15, 16, 17]) (fr' := (iG f b4 b5 b17 L tk A7 S c8 i cO dH j ++ nH Ae j ce S tk ++ [(91, .map (some (L.m tk))), (92, .string (dK (obj S.O tk).ai j))])) (ak := [(∀ F w, (aq (aS S.O L)).h F w → w.cell? ⟨(L.b tk), 9, none⟩ = some (.map (some (L.m tk)))), b17 = b17]) [0, 1, 2, 3, 4, 5, 6, 7] [o_, ⟨[.at 2], none, none, none, none⟩, o_, o_, o_, o_, ⟨[.view 1 (.map (some (L.m tk)))], none, none, none, none⟩, o_] [0, 2, 3, 8, 11, 19, 20, 21, 79, 80, 81, 86, 87, 91, 92] (fun _ => by kernel_rfl) ⟨bg (by rw [hkt]; decide) (by rw [fW (hkt)]; rfl), rfl, trivial⟩ rfl rfl ?_
     refine aD.dV 0 (d := (some 93)) (t := 99) (K := 9) (E := 87) (b := (L.m tk)) (cnt := (obj S.O tk).ai.length) (f := (fB L (obj S.O tk).ai)) (x := (.tmp 91)) (ix := (.tmp 92)) (key := .string (dK (obj S.O tk).ai j)) (z := .nilIface) (kl := (.string (dK (obj S.O tk).ai j).data.toList)) (q := (some (cM L ⟨ek, 3⟩))) (by kernel_rfl) (by kernel_rfl) (fun _ => by kernel_rfl) (fun _ => by kernel_rfl) uU Tryz.underlying99 (fun _ => by kernel_rfl) (wW (by omega)) (by rw [om, hle]; rfl) (by kernel_rfl) ?_
     refine mL [2, 13, 0] [] (cg (L.b ek)) ?_ (by rintro _ _ ⟨rfl, rfl⟩; rfl)
     rintro _ _ ⟨rfl, rfl⟩
     refine aD.cut (ι := Unit) (fr' := fun (_ : Unit) => (iG f b4 b5 b17 L tk A7 S c8 i cO dH j ++ nH Ae j ce S tk ++ [(95, vP (L.b ek))])) (hp' := fun (_ : Unit) => (lT b17 S i tk Ae j ce L b20 cO dH ++ cK b5 An i cn K S A7 c8 b4 f m t L ++ [iF S L tk, .abs R])) [2, 13, 0] rfl rfl ?_ rfl (fun _ => by kernel_rfl) ?_
     ·
      refine gK 1 [(95, .pointer (some ⟨(L.b ek), 0, none⟩))] [] ?_
      refine NL ?_
      exact MD () [0, 2, 3, 8, 11, 19, 20, 21, 79, 80, 81, 86, 87, 95] [0, 1, 2, 3, 4, 5, 6, 7, 8, 9, 10, 11, 12, 13, 14, 15, 16]
     rintro _
     refine aD.cut (ι := Unit) (fr' := fun (_ : Unit) => (iG f b4 b5 b17 L tk A7 S c8 i cO dH j ++ nH Ae j ce S tk ++ [(96, vP (L.b ek))])) (hp' := fun (_ : Unit) => (lT b17 S i tk Ae j ce L b20 cO dH ++ cK b5 An i cn K S A7 c8 b4 f m t L ++ [iF S L tk, .abs R])) [2, 13, 0] rfl rfl ?_ rfl (fun _ => by kernel_rfl) ?_
     ·
      refine gK 1 [(96, .pointer (some ⟨(L.b ek), 0, none⟩))] [] ?_
      refine NL ?_
      exact MD () [0, 2, 3, 8, 11, 19, 20, 21, 79, 80, 81, 86, 87, 96] [0, 1, 2, 3, 4, 5, 6, 7, 8, 9, 10, 11, 12, 13, 14, 15, 16]
     rintro _
     refine aD.cut (ι := Unit) (fr' := fun (_ : Unit) => (iG f b4 b5 b17 L tk A7 S c8 i cO dH j ++ nH Ae j ce S tk ++ [(97, vI ((obj S.O ek).id))])) (hp' := fun (_ : Unit) => (lT b17 S i tk Ae j ce L b20 cO dH ++ cK b5 An i cn K S A7 c8 b4 f m t L ++ [iF S L tk, .abs R])) [2, 13, 0] rfl rfl ?_ rfl (fun _ => by kernel_rfl) ?_
     ·
      refine gK 1 [(97, .int .i64 ((obj S.O ek).id))] [(0, v_ 13 (wX L hke))] ?_
      refine NL ?_
      exact MD () [0, 2, 3, 8, 11, 19, 20, 21, 79, 80, 81, 86, 87, 97] [0, 1, 2, 3, 4, 5, 6, 7, 8, 9, 10, 11, 12, 13, 14, 15, 16]
     rintro _
     refine aD.cut (ι := Unit) (fr' := fun (_ : Unit) => (iG f b4 b5 b17 L tk A7 S c8 i cO dH j ++ [(86, .slice Ae (j) (ce)), (98, .agg #[.string (dK (obj S.O tk).ai j), vI ((obj S.O ek).id)])])) (hp' := fun (_ : Unit) => (lT b17 S i tk Ae j ce L b20 cO dH ++ cK b5 An i cn K S A7 c8 b4 f m t L ++ [iF S L tk, .abs R])) [2, 13, 0] rfl rfl ?_ rfl (fun _ => by kernel_rfl) ?_
     ·
      refine gK 1 [(98, .agg #[.string (dK (obj S.O tk).ai j), .int .i64 ((obj S.O ek).id)])] [] ?_
      refine NL ?_
      exact MD () [0, 2, 3, 8, 11, 19, 20, 21, 79, 80, 81, 86, 98] [0, 1, 2, 3, 4, 5, 6, 7, 8, 9, 10, 11, 12, 13, 14, 15, 16]
     rintro _
     refine mN [2, 13, 0] (fun AF => [(99, .slice (some ⟨AF, 0, none⟩) (1) (1))]) (fun _ => []) (fun AF => .blk AF [.string (dK (obj S.O tk).ai j), .int .i64 ((obj S.O ek).id)] 62) (fun AF => ?_)
     refine aD.cut (ι := (Option Addr) × Nat) (fr' := fun ((p6, p7) : (Option Addr) × Nat) => (iG f b4 b5 b17 L tk A7 S c8 i cO dH j ++ [(100, .slice p6 ((j + 1)) (p7))])) (hp' := fun ((p6, p7) : (Option Addr) × Nat) => ([kU b17 S i tk Ae j ce, xQ p6 j p7 S tk, o4 L tk S, ql b20 L tk, qm cO S tk dH] ++ cK b5 An i cn K S A7 c8 b4 f m t L ++ [iF S L tk, .abs R, xR AF S tk j ek])) [2, 13, 0] rfl rfl ?_ rfl (fun _ => by kernel_rfl) ?_
     ·
      refine ah.append 1 (d := (some 100)) (t := 44) (e := 62) (z := .agg #[.string ⟨#[]⟩, .int .i64 0]) (size := 2) (bytes := 24) (n := j) (cap := ce) (A := Ae) (xs := (fS (((obj S.O tk).ai.take j).map (iX S.O)))) (s := (.tmp 86)) (x := (.tmp 99)) (ats := #[44, 44]) (A' := some ⟨AF, 0, none⟩) (m := 1) (c' := 1) (news := [.string (dK (obj S.O tk).ai j), .int .i64 ((obj S.O ek).id)]) (fun _ => by kernel_rfl) rfl (by kernel_rfl) (fun _ => by kernel_rfl) (fun _ => by kernel_rfl) Tryz.underlying44 (by kernel_rfl) rfl (by decide) (rfl) (by simp [Value.oneCell']) (l9 (j := 17) rfl) (by unfold maxLen; omega) (by omega) (fun p6 p7 => ?_)
      refine ah.eP 1 (p := .abs (aF 62 2 p6 (j + 1) p7 ((fS (((obj S.O tk).ai.take j).map (iX S.O))) ++ [.string (dK (obj S.O tk).ai j), .int .i64 ((obj S.O ek).id)]))) (p' := .abs (aF 62 2 p6 (j + 1) p7 (fS (((obj S.O tk).ai.take (j + 1)).map (iX S.O))))) (by kernel_rfl) (congrArg (fun x => HP.abs (aF 62 2 _ _ _ x)) (tB hj2 Ez)) ?_
      refine ah.slot 100 (.slice p6 (j + 1) (p7)) (.slice p6 ((j + 1)) (p7)) (fun _ => by kernel_rfl) (rfl) ?_
      refine NL ?_
      exact MD (p6, p7) [0, 2, 3, 8, 11, 19, 20, 21, 79, 80, 81, 100] [0, 1, 2, 3, 4, 5, 6, 7, 8, 9, 10, 11, 12, 13, 14, 15, 16, 17]
     rintro ⟨p6, p7⟩
     refine aD.cut (ι := Unit) (fr' := fun (_ : Unit) => (iG f b4 b5 b17 L tk A7 S c8 i cO dH j ++ [(100, .slice p6 ((j + 1)) (p7)), (101, .pointer (some ⟨b17, 9, none⟩))])) (hp' := fun (_ : Unit) => ([kU b17 S i tk Ae j ce, xQ p6 j p7 S tk, o4 L tk S, ql b20 L tk, qm cO S tk dH] ++ cK b5 An i cn K S A7 c8 b4 f m t L ++ [iF S L tk, .abs R, xR AF S tk j ek])) [2, 13, 0] rfl rfl ?_ rfl (fun _ => by kernel_rfl) ?_
     ·
      refine gK 1 [(101, .pointer (some ⟨b17, 9, none⟩))] [] ?_
      refine NL ?_
      exact MD () [0, 2, 3, 8, 11, 19, 20, 21, 79, 80, 81, 100, 101] [0, 1, 2, 3, 4, 5, 6, 7, 8, 9, 10, 11, 12, 13, 14, 15, 16, 17]
     rintro _
     refine aD.last rfl rfl ?_
     refine gC 1 [] [(0, a_ 0 b17)] [(0, [(9, .slice p6 ((j + 1)) (p7))])] ?_
     refine NL (aj.np (aj.aW (NX (af.region ?_))))
     refine gK 2 [(81, .int .i64 ↑(j + 1))] [(0, p_ ⟨[], none, none, none, some (.int .i64 ↑(j + 1))⟩ [(Value.int .i64 (IntKind.wrap .i64 (((j : Nat) : Int) + 1))) = (.int .i64 ↑(j + 1))] ⟨bQ (by omega) (by omega) (by omega), trivial⟩)] ?_
     refine NL ?_
     exact aj.turn ((j + 1), p6, p7) (idx := [0, 2, 3, 8, 11, 19, 20, 21, 79, 80, 81]) (pk := [0, 1, 2, 3, 4, 5, 6, 7, 8, 9, 10, 11, 12, 13, 14, 15, 16]) (show (((j + 1)) ≤ (obj S.O tk).ai.length) from (by omega)) (by show (obj S.O tk).ai.length - ((j + 1)) < (obj S.O tk).ai.length - j; omega) (fun _ => by kernel_rfl) rfl (by kernel_rfl)
   ·
    refine af.exit (aj.bG (aj.bG (aj.dw (aj.aW (NX (af.region ?_))))))
    have hjl : j = (obj S.O tk).ai.length := by omega
    refine ah.mem (aK := ([pE S.O L, kU b17 S i tk Ae j ce, Dc Ae j ce S tk, ql b20 L tk, qm cO S tk dH] ++ cK b5 An i cn K S A7 c8 b4 f m t L ++ [.abs R])) (fun w hS => hS.I5 (i := 15) (j := 2) (idx := [0, 1, 3, 4, 5, 6, 7, 8, 9, 10, 11, 12, 13, 14, 16]) (k := tk) rfl rfl (by kernel_rfl) rfl (hkt)) ?_
    refine gN 4 (fun b32 => [(104, .slice An (i) (cn)), (106, .slice (some ⟨b32, 0, none⟩) (1) (1))]) (fun b32 => [(1, a_ 5 b5), (2, A_ 1 b17 10)]) (fun _ => []) (fun b32 => .blk b32 [.int .i64 ((bU S i)), .int .i64 2, .int .i64 ((obj S.O tk).mode), .int .i64 ((obj S.O tk).uid), .int .i64 ((obj S.O tk).gid), .int .i64 ((obj S.O tk).sec), .int .i64 ((obj S.O tk).nano), .slice none (0) (0), .string ⟨#[]⟩, .slice Ae (j) (ce)] 46) (fun b32 => ?_)
    refine ah.append 6 (d := (some 107)) (t := 24) (e := 46) (z := .agg #[.int .i64 0, .int .i64 0, .int .i64 0, .int .i64 0, .int .i64 0, .int .i64 0, .int .i64 0, .slice none (0) (0), .string ⟨#[]⟩, .slice none (0) (0)]) (size := 10) (bytes := 120) (n := i) (cap := cn) (A := An) (xs := (cQ K ((aP S).take i))) (s := (.tmp 104)) (x := (.tmp 106)) (ats := #[24, 24]) (A' := some ⟨b32, 0, none⟩) (m := 1) (c' := 1) (news := [.int .i64 ((bU S i)), .int .i64 2, .int .i64 ((obj S.O tk).mode), .int .i64 ((obj S.O tk).uid), .int .i64 ((obj S.O tk).gid), .int .i64 ((obj S.O tk).sec), .int .i64 ((obj S.O tk).nano), .slice none (0) (0), .string ⟨#[]⟩, .slice Ae (j) (ce)]) (fun _ => by kernel_rfl) rfl (by kernel_rfl) (fun _ => by kernel_rfl) (fun _ => by kernel_rfl) Tryz.underlying24 (by kernel_rfl) rfl (by decide) (rfl) (by simp [Value.oneCell']) (l9 (j := 16) rfl) (by unfold maxLen; omega) (by omega) (fun rR rS => ?_)
    refine ah.eP 6 (p := .abs (aF 46 10 rR (i + 1) rS ((cQ K ((aP S).take i)) ++ [.int .i64 ((bU S i)), .int .i64 2, .int .i64 ((obj S.O tk).mode), .int .i64 ((obj S.O tk).uid), .int .i64 ((obj S.O tk).gid), .int .i64 ((obj S.O tk).sec), .int .i64 ((obj S.O tk).nano), .slice none (0) (0), .string ⟨#[]⟩, .slice Ae (j) (ce)]))) (p' := .abs (aF 46 10 rR (i + 1) rS (cQ (K.put i none 0 Ae ce) ((aP S).take (i + 1))))) (by kernel_rfl) (congrArg (fun x => HP.abs (aF 46 10 _ _ _ x)) (rF (cJ (by omega)) (oZ hI.toInv0 hi2 iZ hlv) rfl (by show ((obj S.O tk).ai.map (iX S.O)).length = j; rw [List.length_map, hjl]))) ?_
    refine ah.slot 107 (.slice rR (i + 1) (rS)) (.slice rR ((i + 1)) (rS)) (fun _ => by kernel_rfl) (rfl) ?_
    refine gC 2 [] [(1, a_ 5 b5)] [(5, [(0, .slice rR ((i + 1)) (rS))])] ?_
    refine NL (aj.aW (NX (af.region ?_)))
    refine gK 2 [(21, .int .i64 ↑(i + 1))] [(0, p_ ⟨[], none, none, none, some (.int .i64 ↑(i + 1))⟩ [(Value.int .i64 (IntKind.wrap .i64 (((i : Nat) : Int) + 1))) = (.int .i64 ↑(i + 1))] ⟨bQ (by omega) (by omega) (by omega), trivial⟩)] ?_
    refine NL ?_
    refine aj.mem (aK := ([pE S.O L, kU b17 S i tk Ae j ce, Dc Ae j ce S tk, ql b20 L tk, qm cO S tk dH, rG b5 rR i rS, .abs (aF 46 10 rR (i + 1) rS (cQ (K.put i none 0 Ae ce) ((aP S).take (i + 1)))), uE S i K, Ay S i K] ++ o5 A7 S c8 b4 f m t L ++ [pD S.O L, .abs R, kU b32 S i tk Ae j ce, G3])) (fun w hS => hS.jJ (e := 5) (size := 1)) ?_
    refine aj.mem (aK := ([.abs (eF (gi ((aP S).take (i + 1)) (K.put i none 0 Ae ce)) (i + 1)), pE S.O L, kU b17 S i tk Ae j ce, Dc Ae j ce S tk, ql b20 L tk, qm cO S tk dH, rG b5 rR i rS, .abs (aF 46 10 rR (i + 1) rS (cQ (K.put i none 0 Ae ce) ((aP S).take (i + 1)))), uE S i K] ++ o5 A7 S c8 b4 f m t L ++ [pD S.O L, .abs R, kU b32 S i tk Ae j ce])) (fun w hS => hS.ol (R' := (gi ((aP S).take (i + 1)) (K.put i none 0 Ae ce))) (i := 8) (j := 17) (idx := [0, 1, 2, 3, 4, 5, 6, 7, 9, 10, 11, 12, 13, 14, 15, 16]) rfl rfl (by kernel_rfl) rfl (vv (cJ (by omega)) (oZ hI.toInv0 hi2 iZ hlv)) (tv (cJ (by omega)) (oZ hI.toInv0 hi2 iZ hlv) rfl)) ?_
    refine aj.mem (aK := [.abs (eF (gV ((aP S).take (i + 1)) (K.put i none 0 Ae ce)) (i + 1)), .abs (eF (gi ((aP S).take (i + 1)) (K.put i none 0 Ae ce)) (i + 1)), .abs (aq (bw S.O L)), .blk b17 [.int .i64 ((bU S i)), .int .i64 2, .int .i64 ((obj S.O tk).mode), .int .i64 ((obj S.O tk).uid), .int .i64 ((obj S.O tk).gid), .int .i64 ((obj S.O tk).sec), .int .i64 ((obj S.O tk).nano), .slice none (0) (0), .string ⟨#[]⟩, .slice Ae (j) (ce)] 46, .blk b20 [.map (some (L.m tk))] 99, .abs (aF 9 1 cO ((obj S.O tk).ai.length) dH (lQ (obj S.O tk).ai)), .blk b5 [.slice rR ((i + 1)) (rS)] 26, .abs (aF 46 10 rR (i + 1) rS (cQ (K.put i none 0 Ae ce) ((aP S).take (i + 1)))), .abs (aF 3 1 A7 ((keys S.idx).length) c8 (ints (keys S.idx))), .blk b4 [.slice none (0) (0)] 26, .blk f [.int .i64 (S.X.cN), .int .i64 (S.X.cB), .int .i64 (S.X.cH), .int .i64 (S.X.cS), .int .i64 (S.X.cZ), .map (some m), .pointer (some ⟨t, 0, none⟩), .int .i64 (S.X.last), .int .i64 (S.X.ai), .int .i64 (S.X.used)] 89, .abs (aC Tryz.prog 3 m (aN (aJ L S.idx)) S.idx.length), .abs (aq (aS S.O L)), .abs (aq (aY S.O L)), .abs R, .blk b32 [.int .i64 ((bU S i)), .int .i64 2, .int .i64 ((obj S.O tk).mode), .int .i64 ((obj S.O tk).uid), .int .i64 ((obj S.O tk).gid), .int .i64 ((obj S.O tk).sec), .int .i64 ((obj S.O tk).nano), .slice none (0) (0), .string ⟨#[]⟩, .slice Ae (j) (ce)] 46]) (fun w hS => hS.ol (R' := (gV ((aP S).take (i + 1)) (K.put i none 0 Ae ce))) (i := 8) (j := 3) (idx := [0, 1, 2, 4, 5, 6, 7, 9, 10, 11, 12, 13, 14, 15, 16]) rfl rfl (by kernel_rfl) rfl (vw (cJ (by omega)) (oZ hI.toInv0 hi2 iZ hlv)) ((tA (cJ (by omega)) (oZ hI.toInv0 hi2 iZ hlv) (by show ((obj S.O tk).ai.map (iX S.O)).length = j; rw [List.length_map, hjl])).trans (by rw [hjl, List.take_length]))) ?_
    exact aj.turn ((i + 1), rR, rS, (K.put i none 0 Ae ce)) (idx := [0, 2, 3, 19, 20, 21]) (pk := [6, 7, 0, 1, 8, 9, 10, 11, 12, 13, 2, 14]) (show (((i + 1)) ≤ S.idx.length) from (by omega)) (by show S.idx.length - ((i + 1)) < S.idx.length - i; omega) (fun _ => by kernel_rfl) rfl (by kernel_rfl)
  ·
   have hkt : (obj S.O tk).kind = 3 := hI.kind hlv
   have hel : (obj S.O tk).ai.length ≤ 8192 := hI.eG hlv
   have hdl : (obj S.O tk).data.length ≤ 140737488355328 := hI.CA hlv
   refine af.region ?_
   refine gK 5 [(28, .map (some m)), (29, .int .i64 ((bU S i)))] [(3, a_ 6 f)] ?_
   refine ah.dV 7 (d := (some 30)) (t := 83) (K := 3) (E := 87) (b := m) (n := S.idx.length) (f := (aN (aJ L S.idx))) (x := (.tmp 28)) (ix := (.tmp 29)) (key := .int .i64 ((bU S i))) (z := .nilIface) (kl := (.int .i64 (bU S i))) (r := (some (cM L ⟨tk, 3⟩))) (fun _ => by kernel_rfl) (by kernel_rfl) (fun _ => by kernel_rfl) (fun _ => by kernel_rfl) dL Tryz.underlying83 (fun _ => by kernel_rfl) (iB (xO hI.toInv0 hi2)) (by rw [ez, hget, iZ]; rfl) ?_
   refine gK 1 [(6, .iface 95 (.pointer (some ⟨(L.b tk), 0, none⟩)))] [] ?_
   refine NS ?_
   refine gK 1 [(31, .iface 95 (.pointer (some ⟨(L.b tk), 0, none⟩)))] [] ?_
   refine gL [] (cg (L.b tk)) ?_
   rintro _ _ ⟨rfl, rfl⟩
   refine gK 1 [(7, .pointer (some ⟨(L.b tk), 0, none⟩))] [] ?_
   refine NN (af.seq ?_)
   refine af.oe (S := [pO S.O L]) [0, 1, 3, 4, 5, 6, 7, 8, 9, 10, 11, 12, 13, 14, 15, 16, 17, 18] [.three 2 19 20, .one 21] [8] (by kernel_rfl) (by kernel_rfl) rfl (by kernel_rfl) ?_
   refine eX.reads (rs := []) (fr' := ([(0, vP f), (2, vP b4), (3, vP b5), (6, .iface 95 (vP (L.b tk)))] ++ xS A7 S c8 i ++ [(33, vI (bU S i)), (34, .iface 95 (vP (L.b tk)))] ++ F7 S tk)) (ak := [(∀ F w, (aq (aS S.O L)).h F w → w.cell? ⟨(L.b tk), 5, none⟩ = some (.int .i64 ((obj S.O tk).nano))), (∀ F w, (aq (aS S.O L)).h F w → w.cell? ⟨(L.b tk), 4, none⟩ = some (.int .i64 ((obj S.O tk).sec))), (∀ F w, (aq (aS S.O L)).h F w → w.cell? ⟨(L.b tk), 3, none⟩ = some (.int .i64 ((obj S.O tk).gid))), (∀ F w, (aq (aS S.O L)).h F w → w.cell? ⟨(L.b tk), 2, none⟩ = some (.int .i64 ((obj S.O tk).uid))), (∀ F w, (aq (aS S.O L)).h F w → w.cell? ⟨(L.b tk), 1, none⟩ = some (.int .i64 ((obj S.O tk).mode)))]) [0, 1, 3, 4, 5, 6, 7, 8, 9, 10, 11, 12, 13, 14, 15, 16, 17, 18] [o_, o_, o_, o_, o_, ⟨[.view 0 (.int .i64 ((obj S.O tk).mode))], none, none, none, none⟩, o_, o_, o_, ⟨[.view 0 (.int .i64 ((obj S.O tk).uid))], none, none, none, none⟩, o_, o_, o_, ⟨[.view 0 (.int .i64 ((obj S.O tk).gid))], none, none, none, none⟩, o_, o_, o_, ⟨[.view 0 (.int .i64 ((obj S.O tk).sec)), .view 0 (.int .i64 ((obj S.O tk).nano))], none, none, none, none⟩] [0, 2, 3, 6, 19, 20, 21, 33, 34, 39, 43, 47, 51] (fun _ => by kernel_rfl) ⟨bg (by rw [hkt]; decide) (rfl), bg (by rw [hkt]; decide) (rfl), bg (by rw [hkt]; decide) (rfl), bg (by rw [hkt]; decide) (rfl), bg (by rw [hkt]; decide) (rfl), trivial⟩ ?_
   refine eX.three (ι := Nat) (fa := fun (_ : Unit) => (fC f b4 b5 ++ [(6, .iface 95 (.pointer (some ⟨(L.b tk), 0, none⟩)))] ++ qo A7 S c8 i ++ [(33, .int .i64 ((bU S i))), (35, .int .i64 3)] ++ iH S tk)) (ha := fun (_ : Unit) => (cK b5 An i cn K S A7 c8 b4 f m t L ++ [pE S.O L, .abs R])) (Es := Unit) (fb := fun (_ : Unit) => (fC f b4 b5 ++ [(6, .iface 95 (.pointer (some ⟨(L.b tk), 0, none⟩)))] ++ qo A7 S c8 i ++ [(52, .agg #[.int .i64 ((bU S i)), .int .i64 3, .int .i64 ((obj S.O tk).mode), .int .i64 ((obj S.O tk).uid), .int .i64 ((obj S.O tk).gid), .int .i64 ((obj S.O tk).sec), .int .i64 ((obj S.O tk).nano), .slice none (0) (0), .string ⟨#[]⟩, .slice none (0) (0)])])) (hb := fun (_ : Unit) => (cK b5 An i cn K S A7 c8 b4 f m t L ++ [pE S.O L, .abs R])) (Et := Unit) (fc := fun (qJ : Nat) => (fC f b4 b5 ++ [(6, .iface 95 (.pointer (some ⟨(L.b tk), 0, none⟩)))] ++ jv qJ A7 S c8 i ++ [(35, .int .i64 3)] ++ iH S tk)) (hc := fun (qJ : Nat) => (cK b5 An i cn K S A7 c8 b4 f m t L ++ [pE S.O L, .abs R, kD qJ])) (Eu := Nat) (fd := fun (kE : Nat) => (fC f b4 b5 ++ [(6, .iface 95 (.pointer (some ⟨(L.b tk), 0, none⟩)))] ++ jv kE A7 S c8 i ++ [(34, .iface 95 (.pointer (some ⟨(L.b tk), 0, none⟩)))] ++ iH S tk)) (hd := fun (kE : Nat) => (cK b5 An i cn K S A7 c8 b4 f m t L ++ [pE S.O L, .abs R, kD kE])) (Ev := Nat) (fe := fun (kE : Nat) => (fC f b4 b5 ++ [(6, .iface 95 (.pointer (some ⟨(L.b tk), 0, none⟩)))] ++ jv kE A7 S c8 i ++ [(35, .int .i64 3)] ++ iH S tk)) (he := fun (kE : Nat) => (cK b5 An i cn K S A7 c8 b4 f m t L ++ [pE S.O L, .abs R, kD kE])) (Ew := Nat) (fr' := fun (lS : Nat) => ([(0, vP f), (2, vP b4), (3, vP b5), (6, .iface 95 (vP (L.b tk))), (8, vP lS)] ++ xS A7 S c8 i ++ [(52, .agg #[vI (bU S i), vI 3, vI ((obj S.O tk).mode), vI ((obj S.O tk).uid), vI ((obj S.O tk).gid), vI ((obj S.O tk).sec), vI ((obj S.O tk).nano), .slice none (0) (0), .string ⟨#[]⟩, .slice none (0) (0)])])) (hp' := fun (lS : Nat) => (cK b5 An i cn K S A7 c8 b4 f m t L ++ [pE S.O L, .abs R, kD lS])) [8] [8] [8] [8] [8] [8] rfl rfl rfl rfl rfl rfl ?_ ?_ ?_ ?_ ?_ ?_ ?_ ?_ rfl (fun _ => by kernel_rfl) rfl (fun _ => by kernel_rfl) rfl (fun _ => by kernel_rfl) rfl (fun _ => by kernel_rfl) rfl (fun _ => by kernel_rfl) rfl (fun _ => by kernel_rfl) ?_
   ·
    refine gL [] (jN (.pointer (some ⟨(L.b tk), 0, none⟩))) ?_
    rintro _ _ ⟨rfl, rfl⟩
    refine NL ?_
    exact MD () [0, 2, 3, 6, 19, 20, 21, 33, 35, 39, 43, 47, 51] [0, 1, 2, 3, 4, 5, 6, 7, 8, 9, 10, 11]
   ·
    rintro _
    refine gK 1 [(52, .agg #[.int .i64 ((bU S i)), .int .i64 3, .int .i64 ((obj S.O tk).mode), .int .i64 ((obj S.O tk).uid), .int .i64 ((obj S.O tk).gid), .int .i64 ((obj S.O tk).sec), .int .i64 ((obj S.O tk).nano), .slice none (0) (0), .string ⟨#[]⟩, .slice none (0) (0)])] [] ?_
    refine NL ?_
    exact MD () [0, 2, 3, 6, 19, 20, 21, 52] [0, 1, 2, 3, 4, 5, 6, 7, 8, 9, 10, 11]
   ·
    rintro _
    refine gN 1 (fun lS => [(8, .pointer (some ⟨lS, 0, none⟩))]) (fun _ => []) (fun _ => []) (fun lS => .blk lS [.int .i64 0, .int .i64 0, .int .i64 0, .int .i64 0, .int .i64 0, .int .i64 0, .int .i64 0, .slice none (0) (0), .string ⟨#[]⟩, .slice none (0) (0)] 46) (fun lS => ?_)
    refine NL ?_
    exact MD lS [0, 2, 3, 6, 8, 19, 20, 21, 52] [0, 1, 2, 3, 4, 5, 6, 7, 8, 9, 10, 11, 12]
   ·
    rintro _
    refine gN 1 (fun qJ => [(8, .pointer (some ⟨qJ, 0, none⟩))]) (fun _ => []) (fun _ => []) (fun qJ => .blk qJ [.int .i64 0, .int .i64 0, .int .i64 0, .int .i64 0, .int .i64 0, .int .i64 0, .int .i64 0, .slice none (0) (0), .string ⟨#[]⟩, .slice none (0) (0)] 46) (fun qJ => ?_)
    refine NL ?_
    exact MD qJ [0, 2, 3, 6, 8, 19, 20, 21, 33, 35, 39, 43, 47, 51] [0, 1, 2, 3, 4, 5, 6, 7, 8, 9, 10, 11, 12]
   ·
    rintro qJ
    show ah _ _ _ _ _ (fC f b4 b5 ++ [(6, .iface 95 (.pointer (some ⟨(L.b tk), 0, none⟩)))] ++ jv qJ A7 S c8 i ++ [(35, .int .i64 3)] ++ iH S tk) (cK b5 An i cn K S A7 c8 b4 f m t L ++ [pE S.O L, .abs R, kD qJ]) _
    refine gK 1 [(52, .agg #[.int .i64 ((bU S i)), .int .i64 3, .int .i64 ((obj S.O tk).mode), .int .i64 ((obj S.O tk).uid), .int .i64 ((obj S.O tk).gid), .int .i64 ((obj S.O tk).sec), .int .i64 ((obj S.O tk).nano), .slice none (0) (0), .string ⟨#[]⟩, .slice none (0) (0)])] [] ?_
    refine NL ?_
    exact MD qJ [0, 2, 3, 6, 8, 19, 20, 21, 52] [0, 1, 2, 3, 4, 5, 6, 7, 8, 9, 10, 11, 12]
   ·
    refine gN 1 (fun kE => [(8, .pointer (some ⟨kE, 0, none⟩))]) (fun _ => []) (fun _ => []) (fun kE => .blk kE [.int .i64 0, .int .i64 0, .int .i64 0, .int .i64 0, .int .i64 0, .int .i64 0, .int .i64 0, .slice none (0) (0), .string ⟨#[]⟩, .slice none (0) (0)] 46) (fun kE => ?_)
    refine NL ?_
    exact MD kE [0, 2, 3, 6, 8, 19, 20, 21, 33, 34, 39, 43, 47, 51] [0, 1, 2, 3, 4, 5, 6, 7, 8, 9, 10, 11, 12]
   ·
    rintro kE
    show ah _ _ _ _ _ (fC f b4 b5 ++ [(6, .iface 95 (.pointer (some ⟨(L.b tk), 0, none⟩)))] ++ jv kE A7 S c8 i ++ [(34, .iface 95 (.pointer (some ⟨(L.b tk), 0, none⟩)))] ++ iH S tk) (cK b5 An i cn K S A7 c8 b4 f m t L ++ [pE S.O L, .abs R, kD kE]) _
    refine gL [] (jN (.pointer (some ⟨(L.b tk), 0, none⟩))) ?_
    rintro _ _ ⟨rfl, rfl⟩
    refine NL ?_
    exact MD kE [0, 2, 3, 6, 8, 19, 20, 21, 33, 35, 39, 43, 47, 51] [0, 1, 2, 3, 4, 5, 6, 7, 8, 9, 10, 11, 12]
   ·
    rintro kE
    show ah _ _ _ _ _ (fC f b4 b5 ++ [(6, .iface 95 (.pointer (some ⟨(L.b tk), 0, none⟩)))] ++ jv kE A7 S c8 i ++ [(35, .int .i64 3)] ++ iH S tk) (cK b5 An i cn K S A7 c8 b4 f m t L ++ [pE S.O L, .abs R, kD kE]) _
    refine gK 1 [(52, .agg #[.int .i64 ((bU S i)), .int .i64 3, .int .i64 ((obj S.O tk).mode), .int .i64 ((obj S.O tk).uid), .int .i64 ((obj S.O tk).gid), .int .i64 ((obj S.O tk).sec), .int .i64 ((obj S.O tk).nano), .slice none (0) (0), .string ⟨#[]⟩, .slice none (0) (0)])] [] ?_
    refine NL ?_
    exact MD kE [0, 2, 3, 6, 8, 19, 20, 21, 52] [0, 1, 2, 3, 4, 5, 6, 7, 8, 9, 10, 11, 12]
   rintro lS
   refine eX.last rfl rfl ?_
   refine gC 1 [] [(0, A_ 12 lS 10)] [(12, ([(0, .int .i64 ((bU S i))), (1, .int .i64 3)] ++ F6 S tk))] ?_
   refine NL (aj.np (NX (af.seq (SR ?_))))
   refine gK 1 [(53, .iface 95 (.pointer (some ⟨(L.b tk), 0, none⟩)))] [] ?_
   refine NN (af.block (SR ?_))
   refine gK 3 [(55, .bool false), (56, .pointer none)] [] ?_
   refine NN ?_
   refine CF ?_
   refine SR ?_
   refine gK 3 [(64, .bool true), (65, .pointer (some ⟨(L.b tk), 0, none⟩))] [] ?_
   refine NN ?_
   refine CT ?_
   refine SR ?_
   refine gK 1 [(10, .pointer (some ⟨(L.b tk), 0, none⟩))] [] ?_
   refine NN (af.region ?_)
   refine gC 6 [] [(3, v_ 8 (KD L hkt)), (5, a_ 12 lS)] [(12, [(8, .string (obj S.O tk).target)])] ?_
   refine NL (aj.aW (NX (af.region ?_)))
   refine gN 4 (fun uG => [(104, .slice An (i) (cn)), (106, .slice (some ⟨uG, 0, none⟩) (1) (1))]) (fun uG => [(1, a_ 0 b5), (2, A_ 12 lS 10)]) (fun _ => []) (fun uG => .blk uG [.int .i64 ((bU S i)), .int .i64 3, .int .i64 ((obj S.O tk).mode), .int .i64 ((obj S.O tk).uid), .int .i64 ((obj S.O tk).gid), .int .i64 ((obj S.O tk).sec), .int .i64 ((obj S.O tk).nano), .slice none (0) (0), .string (obj S.O tk).target, .slice none (0) (0)] 46) (fun uG => ?_)
   refine ah.append 1 (d := (some 107)) (t := 24) (e := 46) (z := .agg #[.int .i64 0, .int .i64 0, .int .i64 0, .int .i64 0, .int .i64 0, .int .i64 0, .int .i64 0, .slice none (0) (0), .string ⟨#[]⟩, .slice none (0) (0)]) (size := 10) (bytes := 120) (n := i) (cap := cn) (A := An) (xs := (cQ K ((aP S).take i))) (s := (.tmp 104)) (x := (.tmp 106)) (ats := #[24, 24]) (A' := some ⟨uG, 0, none⟩) (m := 1) (c' := 1) (news := [.int .i64 ((bU S i)), .int .i64 3, .int .i64 ((obj S.O tk).mode), .int .i64 ((obj S.O tk).uid), .int .i64 ((obj S.O tk).gid), .int .i64 ((obj S.O tk).sec), .int .i64 ((obj S.O tk).nano), .slice none (0) (0), .string (obj S.O tk).target, .slice none (0) (0)]) (fun _ => by kernel_rfl) rfl (by kernel_rfl) (fun _ => by kernel_rfl) (fun _ => by kernel_rfl) Tryz.underlying24 (by kernel_rfl) rfl (by decide) (rfl) (by simp [Value.oneCell']) (l9 (j := 13) rfl) (by unfold maxLen; omega) (by omega) (fun nO nP => ?_)
   refine ah.eP 1 (p := .abs (aF 46 10 nO (i + 1) nP ((cQ K ((aP S).take i)) ++ [.int .i64 ((bU S i)), .int .i64 3, .int .i64 ((obj S.O tk).mode), .int .i64 ((obj S.O tk).uid), .int .i64 ((obj S.O tk).gid), .int .i64 ((obj S.O tk).sec), .int .i64 ((obj S.O tk).nano), .slice none (0) (0), .string (obj S.O tk).target, .slice none (0) (0)]))) (p' := .abs (aF 46 10 nO (i + 1) nP (cQ (K.put i none 0 none 0) ((aP S).take (i + 1))))) (by kernel_rfl) (congrArg (fun x => HP.abs (aF 46 10 _ _ _ x)) (rF (cJ (by omega)) (nB hI.toInv0 hi2 iZ hlv) rfl rfl)) ?_
   refine ah.slot 107 (.slice nO (i + 1) (nP)) (.slice nO ((i + 1)) (nP)) (fun _ => by kernel_rfl) (rfl) ?_
   refine gC 2 [] [(1, a_ 0 b5)] [(0, [(0, .slice nO ((i + 1)) (nP))])] ?_
   refine NL (aj.aW (NX (af.region ?_)))
   refine gK 2 [(21, .int .i64 ↑(i + 1))] [(0, p_ ⟨[], none, none, none, some (.int .i64 ↑(i + 1))⟩ [(Value.int .i64 (IntKind.wrap .i64 (((i : Nat) : Int) + 1))) = (.int .i64 ↑(i + 1))] ⟨bQ (by omega) (by omega) (by omega), trivial⟩)] ?_
   refine NL ?_
   refine aj.mem (aK := ([rG b5 nO i nP, Dd nO i nP K S, uE S i K, Ay S i K] ++ o5 A7 S c8 b4 f m t L ++ [pD S.O L, pE S.O L, .abs R, tE lS S i tk, tE uG S i tk, G3])) (fun w hS => hS.jJ (e := 5) (size := 1)) ?_
   refine aj.mem (aK := ([rG b5 nO i nP, Dd nO i nP K S, uE S i K, Ay S i K] ++ o5 A7 S c8 b4 f m t L ++ [pD S.O L, pE S.O L, .abs R, tE lS S i tk, tE uG S i tk, G3, Db])) (fun w hS => hS.jJ (e := 62) (size := 2)) ?_
   refine aj.mem (aK := ([.abs (eF (gi ((aP S).take (i + 1)) (K.put i none 0 none 0)) (i + 1)), rG b5 nO i nP, Dd nO i nP K S, uE S i K] ++ o5 A7 S c8 b4 f m t L ++ [pD S.O L, pE S.O L, .abs R, tE lS S i tk, tE uG S i tk, Db])) (fun w hS => hS.ol (R' := (gi ((aP S).take (i + 1)) (K.put i none 0 none 0))) (i := 3) (j := 14) (idx := [0, 1, 2, 4, 5, 6, 7, 8, 9, 10, 11, 12, 13, 15]) rfl rfl (by kernel_rfl) rfl (vv (cJ (by omega)) (nB hI.toInv0 hi2 iZ hlv)) (tv (cJ (by omega)) (nB hI.toInv0 hi2 iZ hlv) rfl)) ?_
   refine aj.mem (aK := ([.abs (eF (gV ((aP S).take (i + 1)) (K.put i none 0 none 0)) (i + 1)), .abs (eF (gi ((aP S).take (i + 1)) (K.put i none 0 none 0)) (i + 1)), rG b5 nO i nP, Dd nO i nP K S] ++ o5 A7 S c8 b4 f m t L ++ [pD S.O L, pE S.O L, .abs R, tE lS S i tk, tE uG S i tk])) (fun w hS => hS.ol (R' := (gV ((aP S).take (i + 1)) (K.put i none 0 none 0))) (i := 3) (j := 14) (idx := [0, 1, 2, 4, 5, 6, 7, 8, 9, 10, 11, 12, 13]) rfl rfl (by kernel_rfl) rfl (vw (cJ (by omega)) (nB hI.toInv0 hi2 iZ hlv)) ((tA (cJ (by omega)) (nB hI.toInv0 hi2 iZ hlv) rfl))) ?_
   exact aj.turn ((i + 1), nO, nP, (K.put i none 0 none 0)) (idx := [0, 2, 3, 19, 20, 21]) (pk := [2, 3, 0, 1, 4, 5, 6, 7, 8, 9, 10, 11]) (show (((i + 1)) ≤ S.idx.length) from (by omega)) (by show S.idx.length - ((i + 1)) < S.idx.length - i; omega) (fun _ => by kernel_rfl) rfl (by kernel_rfl)
 ·
  refine af.exit (aj.bG (aj.bG (aj.dw (NX (SR ?_)))))
  have hie : (aP S).length = i := by rw [rC]; omega
  have hgt : ((aP S).take i) = (aP S) := by rw [← hie, List.take_length]
  refine ah.eP 1 (p := .abs (aF 46 10 An i cn (cQ K ((aP S).take i)))) (p' := .abs (aF 46 10 An ((aP S).length) cn (cQ K (aP S)))) (by kernel_rfl) (by rw [hgt, hie]) ?_
  refine ah.eP 2 (p := .abs (eF (gV ((aP S).take i) K) i)) (p' := .abs (eF (gV (aP S) K) ((aP S).length))) (by kernel_rfl) (by rw [hgt, hie]) ?_
  refine ah.eP 3 (p := .abs (eF (gi ((aP S).take i) K) i)) (p' := .abs (eF (gi (aP S) K) ((aP S).length))) (by kernel_rfl) (by rw [hgt, hie]) ?_
  refine gC 2 [] [(0, a_ 0 b5), (1, a_ 5 b4)] [(5, [(0, .slice An (i) (cn))])] ?_
  refine NN (af.ret ?_)
  exact aj.ret (v := .agg #[.slice An (i) (cn)]) (l := [pF f m t S.X, pI m L S.idx, pO S.O L, pD S.O L, pE S.O L, .abs (aF 46 10 An ((aP S).length) cn (cQ K (aP S))), .abs (eF (gV (aP S) K) ((aP S).length)), .abs (eF (gi (aP S) K) ((aP S).length))]) (ak := [b4 = b4]) [.at 5] [6, 7, 8, 9, 10, 1, 2, 3, 11] (fun _ => by kernel_rfl) ⟨rfl, trivial⟩ rfl (by kernel_rfl) (⟨An, cn, K, by rw [hie], rfl⟩)
end Go.Proofs.YtkiedlmhocglhaaGreat
end
section
namespace Go.Proofs.YtkiedlmhocglhaaGreat
open Go.RowKit
attribute [local irreducible] ah aI af aj
set_option maxRecDepth 100000 in
set_option maxHeartbeats 4000000 in
theorem F8 {β : Bs} (A : Option Addr) (ns : List aL) (L : Lay) (hG : aR β A ns L) (hr : bW ns) (i : Nat) (hi : i < ns.length) (hel : (nd ns i).ai.length ≤ 1048576) (hwf : ∀ j, j < (nd ns i).ai.length → -9223372036854775808 ≤ (ent ns i j).id ∧ (ent ns i j).id ≤ 9223372036854775807) (hnm : ∀ j, j < (nd ns i).ai.length → (ent ns i j).name.size ≤ 1048576)
    (mb mp : Nat) (ps : List (Nat × Nat)) (hpl : ps.length ≤ 16777216) (hps : ∀ p, p ∈ ps → p.1 < ns.length) (hnp : (ps.map Prod.fst).Nodup) :
    Spec Tryz.prog β 107 #[.pointer (some ⟨(ay A), ax A + i * 10, none⟩), .map (some mb), .map (some mp)] [.abs (aC Tryz.prog 3 mb (mf (bf A ns ns.length)) ns.length), .abs (aC Tryz.prog 3 mp (mf (pf ((ps).map (eU ns)))) ((ps).length))] (fun v l => (v = .bool true ∧ qU ns i ps ∧ l = [.abs (aC Tryz.prog 3 mb (mf (bf A ns ns.length)) ns.length), .abs (aC Tryz.prog 3 mp (mf (pf ((ck ns i (nd ns i).ai.length ++ ps).map (eU ns)))) ((ck ns i (nd ns i).ai.length ++ ps).length))]) ∨ (v = .bool false ∧ ¬ qU ns i ps ∧ l = [])) := by
 refine Spec.enter Tryz.func107 rfl Tryz.ntmps107 (Nat.le_of_ble_eq_true rfl) (fun R => ?_)
 refine af.seq (af.region ?_)
 refine ah.aA (k' := 1) (fr' := [(0, .pointer (some ⟨(ay A), ax A + i * 10, none⟩)), (1, .map (some mb)), (2, .map (some mp))]) (ak := []) [o_] [0, 1, 2] (fun _ _ => by kernel_rfl) trivial ?_
 refine ah.nil (by kernel_rfl) (aj.next (af.seq (af.region ?_)))
 refine ah.aA (k' := 1) (fr' := [(0, .pointer (some ⟨(ay A), ax A + i * 10, none⟩)), (1, .map (some mb)), (2, .map (some mp)), (7, .string ⟨#[]⟩)]) (ak := []) [o_] [0, 1, 2, 7] (fun _ _ => by kernel_rfl) trivial ?_
 refine ah.nil (by kernel_rfl) (aj.next (af.seq (af.seq (af.region ?_))))
 refine ah.aA (k' := 6) (fr' := [(0, .pointer (some ⟨(ay A), ax A + i * 10, none⟩)), (1, .map (some mb)), (2, .map (some mp)), (7, .string ⟨#[]⟩), (16, .slice (L.eA i) ((nd ns i).ai.length) ((L.eC i))), (17, .int .i64 ↑((nd ns i).ai.length)), (18, .int .i64 0)]) (ak := [(Rd β ⟨(ay A), ax A + i * 10 + 9, none⟩ (.slice (L.eA i) ((nd ns i).ai.length) ((L.eC i))))]) [o_, o_, o_, ⟨[.old (.slice (L.eA i) ((nd ns i).ai.length) ((L.eC i)))], none, none, none, none⟩, o_, o_] [0, 1, 2, 7, 16, 17, 18] (fun _ _ => by kernel_rfl) ⟨aR.rd hG (i := i) (by omega) (j := 9) rfl, trivial⟩ ?_
 refine ah.nil (by kernel_rfl) (aj.next (af.block ?_))
 refine af.loop (ι := Nat) (fun (j : Nat) => (j ≤ (nd ns i).ai.length) ∧ (∀ t, t < j → kH ns i t) ∧ (((ck ns i j ++ ps).map Prod.fst).Nodup)) (fun (j : Nat) => (nd ns i).ai.length - j) (fun (j : Nat) => [(0, .pointer (some ⟨(ay A), ax A + i * 10, none⟩)), (1, .map (some mb)), (2, .map (some mp)), (7, .string (d7 ns i j)), (16, .slice (L.eA i) ((nd ns i).ai.length) ((L.eC i))), (17, .int .i64 ↑((nd ns i).ai.length)), (18, .int .i64 ↑j)]) (fun (j : Nat) => [.abs (aC Tryz.prog 3 mb (mf (bf A ns ns.length)) ns.length), .abs (aC Tryz.prog 3 mp (mf (pf ((ck ns i j ++ ps).map (eU ns)))) ((ck ns i j ++ ps).length)), .abs R]) 0 (idx := [0, 1, 2, 7, 16, 17, 18]) (pk := [0, 1, 2]) (show (0 ≤ (nd ns i).ai.length) ∧ (∀ t, t < 0 → kH ns i t) ∧ (((ck ns i 0 ++ ps).map Prod.fst).Nodup) from ⟨Nat.zero_le _, fun t ht => absurd ht (Nat.not_lt_zero t), hnp⟩) (fun _ => by kernel_rfl) rfl (by kernel_rfl) ?_
 rintro j ⟨hj, hok, hnd⟩
 show af _ _ _ _ [(0, .pointer (some ⟨(ay A), ax A + i * 10, none⟩)), (1, .map (some mb)), (2, .map (some mp)), (7, .string (d7 ns i j)), (16, .slice (L.eA i) ((nd ns i).ai.length) ((L.eC i))), (17, .int .i64 ↑((nd ns i).ai.length)), (18, .int .i64 ↑j)] [.abs (aC Tryz.prog 3 mb (mf (bf A ns ns.length)) ns.length), .abs (aC Tryz.prog 3 mp (mf (pf ((ck ns i j ++ ps).map (eU ns)))) ((ck ns i j ++ ps).length)), .abs R] _
 refine af.seq (af.region ?_)
 refine ah.aA (k' := 1) (fr' := [(0, .pointer (some ⟨(ay A), ax A + i * 10, none⟩)), (1, .map (some mb)), (2, .map (some mp)), (7, .string (d7 ns i j)), (16, .slice (L.eA i) ((nd ns i).ai.length) ((L.eC i))), (17, .int .i64 ↑((nd ns i).ai.length)), (18, .int .i64 ↑j), (19, .bool (decide ((((j : Nat) : Int) : Int) < ((((nd ns i).ai.length : Nat) : Int) : Int))))]) (ak := []) [o_] [0, 1, 2, 7, 16, 17, 18, 19] (fun _ _ => by kernel_rfl) trivial ?_
 refine ah.nil (by kernel_rfl) (aj.next (af.seq ?_))
 refine af.bH (p := (((j : Nat) : Int) : Int) < ((((nd ns i).ai.length : Nat) : Int) : Int)) (fun _ => by kernel_rfl) (fun MU => ?_) (fun MU => ?_)
 ·
  refine af.skip (aj.next (af.seq (af.block (af.seq (af.region ?_)))))
  refine ah.uM (k' := 4) (fr' := fun b1 => [(0, .pointer (some ⟨(ay A), ax A + i * 10, none⟩)), (1, .map (some mb)), (2, .map (some mp)), (7, .string (d7 ns i j)), (9, .pointer (some ⟨b1, 0, none⟩)), (16, .slice (L.eA i) ((nd ns i).ai.length) ((L.eC i))), (17, .int .i64 ↑((nd ns i).ai.length)), (18, .int .i64 ↑j)]) (aK := fun b1 => [.abs (aC Tryz.prog 3 mb (mf (bf A ns ns.length)) ns.length), .abs (aC Tryz.prog 3 mp (mf (pf ((ck ns i j ++ ps).map (eU ns)))) ((ck ns i j ++ ps).length)), .abs R, .blk b1 [.string (en (nd ns i).ai j).name, .int .i64 ((en (nd ns i).ai j).id)] 62]) (ak := fun b1 => [b1 = b1, b1 = b1, (Rd β ⟨(ay (L.eA i)), ax (L.eA i) + j * 2 + 1, none⟩ (.int .i64 ((en (nd ns i).ai j).id))), (Rd β ⟨(ay (L.eA i)), ax (L.eA i) + j * 2, none⟩ (.string (en (nd ns i).ai j).name)), ((j : Nat) : Int) = ((j : Nat) : Int), j < (nd ns i).ai.length, (⟨(ay (L.eA i)), ax (L.eA i), none⟩ : Addr).spot = none, ((L.eA i) : Option Addr) = some ⟨(ay (L.eA i)), ax (L.eA i), none⟩]) [⟨[], some j, none, some ⟨(ay (L.eA i)), ax (L.eA i), none⟩, none⟩, ⟨[.old (.string (en (nd ns i).ai j).name), .old (.int .i64 ((en (nd ns i).ai j).id))], none, none, none, none⟩, o_, ⟨[.at 3, .at 3], none, none, none, none⟩] [0, 1, 2, 7, 9, 16, 17, 18] [0, 1, 2, 3] (fun _ _ => by kernel_rfl) (fun b1 => ⟨rfl, rfl, dZ.rd (hG.ai i (by omega)) (i := j) (by omega) (j := 1) rfl, dZ.rd (hG.ai i (by omega)) (i := j) (by omega) (j := 0) rfl, rfl, by omega, rfl, dZ.hd (hG.ai i (by omega)) (i := j) (by omega), trivial⟩) (fun b1 => ?_)
  refine ah.nil (by kernel_rfl) (aj.next (af.seq (af.region ?_)))
  refine ah.aA (k' := 3) (fr' := [(0, .pointer (some ⟨(ay A), ax A + i * 10, none⟩)), (1, .map (some mb)), (2, .map (some mp)), (7, .string (d7 ns i j)), (9, .pointer (some ⟨b1, 0, none⟩)), (16, .slice (L.eA i) ((nd ns i).ai.length) ((L.eC i))), (17, .int .i64 ↑((nd ns i).ai.length)), (18, .int .i64 ↑j), (22, .map (some mb)), (24, .int .i64 ((en (nd ns i).ai j).id))]) (ak := [b1 = b1]) [o_, o_, ⟨[.at 3], none, none, none, none⟩] [0, 1, 2, 7, 9, 16, 17, 18, 22, 24] (fun _ _ => by kernel_rfl) ⟨rfl, trivial⟩ ?_
  by_cases hat : 0 ≤ lZ ns (en (nd ns i).ai j).id
  ·
   have htl := kr hat
   refine ah.dV 0 (d := (some 25)) (t := 138) (K := 3) (E := 171) (b := mb) (n := ns.length) (f := (mf (bf A ns ns.length))) (x := (.tmp 22)) (ix := (.tmp 24)) (key := .int .i64 ((en (nd ns i).ai j).id)) (z := .pointer none) (kl := (.int .i64 (en (nd ns i).ai j).id)) (r := (some (.pointer (some ⟨(ay A), ax A + (tgt ns (en (nd ns i).ai j).id) * 10, none⟩)))) (fun _ => by kernel_rfl) (by kernel_rfl) (fun _ => by kernel_rfl) (fun _ => by kernel_rfl) dL Tryz.underlying138 (fun _ => by kernel_rfl) (mg (hwf j (by omega)).1 (hwf j (by omega)).2) (Kz hat htl.1) ?_
   refine ah.aA (k' := 5) (fr' := [(0, .pointer (some ⟨(ay A), ax A + i * 10, none⟩)), (1, .map (some mb)), (2, .map (some mp)), (7, .string (d7 ns i j)), (9, .pointer (some ⟨b1, 0, none⟩)), (10, .pointer (some ⟨(ay A), ax A + (tgt ns (en (nd ns i).ai j).id) * 10, none⟩)), (16, .slice (L.eA i) ((nd ns i).ai.length) ((L.eC i))), (17, .int .i64 ↑((nd ns i).ai.length)), (18, .int .i64 ↑j)]) (ak := []) [o_] [0, 1, 2, 7, 9, 10, 16, 17, 18] (fun _ _ => by kernel_rfl) trivial ?_
   refine ah.nil (by kernel_rfl) (aj.next (af.seq (af.seq (af.region ?_))))
   refine ah.aA (k' := 5) (fr' := [(0, .pointer (some ⟨(ay A), ax A + i * 10, none⟩)), (1, .map (some mb)), (2, .map (some mp)), (7, .string (d7 ns i j)), (9, .pointer (some ⟨b1, 0, none⟩)), (10, .pointer (some ⟨(ay A), ax A + (tgt ns (en (nd ns i).ai j).id) * 10, none⟩)), (16, .slice (L.eA i) ((nd ns i).ai.length) ((L.eC i))), (17, .int .i64 ↑((nd ns i).ai.length)), (18, .int .i64 ↑j), (28, .bool false), (30, .string (en (nd ns i).ai j).name)]) (ak := [b1 = b1]) [o_, o_, o_, o_, ⟨[.at 3], none, none, none, none⟩] [0, 1, 2, 7, 9, 10, 16, 17, 18, 28, 30] (fun _ _ => by kernel_rfl) ⟨rfl, trivial⟩ ?_
   refine ah.call (f := 143) (args := #[.string (en (nd ns i).ai j).name]) (d := (some 31)) (pre := []) (R := [.abs (aC Tryz.prog 3 mb (mf (bf A ns ns.length)) ns.length), .abs (aC Tryz.prog 3 mp (mf (pf ((ck ns i j ++ ps).map (eU ns)))) ((ck ns i j ++ ps).length)), .abs R, .blk b1 [.string (en (nd ns i).ai j).name, .int .i64 ((en (nd ns i).ai j).id)] 62]) (pk := [0, 1, 2, 3]) (fun _ => by kernel_rfl) (rZ (en (nd ns i).ai j).name (hnm j (by omega))) rfl (by kernel_rfl) ?_
   rintro _ _ ⟨rfl, rfl⟩
   refine ah.aA (k' := 9) (fr' := [(0, .pointer (some ⟨(ay A), ax A + i * 10, none⟩)), (1, .map (some mb)), (2, .map (some mp)), (7, .string (d7 ns i j)), (9, .pointer (some ⟨b1, 0, none⟩)), (10, .pointer (some ⟨(ay A), ax A + (tgt ns (en (nd ns i).ai j).id) * 10, none⟩)), (16, .slice (L.eA i) ((nd ns i).ai.length) ((L.eC i))), (17, .int .i64 ↑((nd ns i).ai.length)), (18, .int .i64 ↑j), (34, .bool (!(decide (cC (en (nd ns i).ai j).name))))]) (ak := []) [o_, o_, o_] [0, 1, 2, 7, 9, 10, 16, 17, 18, 34] (fun _ _ => by kernel_rfl) trivial ?_
   refine ah.iN 34 (cC (en (nd ns i).ai j).name) (fun _ => by kernel_rfl) (fun ux => ?_) (fun ux => ?_)
   ·
    refine ah.aA (k' := 14) (fr' := [(0, .pointer (some ⟨(ay A), ax A + i * 10, none⟩)), (1, .map (some mb)), (2, .map (some mp)), (9, .pointer (some ⟨b1, 0, none⟩)), (10, .pointer (some ⟨(ay A), ax A + (tgt ns (en (nd ns i).ai j).id) * 10, none⟩)), (16, .slice (L.eA i) ((nd ns i).ai.length) ((L.eC i))), (17, .int .i64 ↑((nd ns i).ai.length)), (18, .int .i64 ↑j), (39, .bool true)]) (ak := []) [o_, o_, o_, o_, o_] [0, 1, 2, 9, 10, 16, 17, 18, 39] (fun _ _ => by kernel_rfl) trivial ?_
    refine ah.nil (by kernel_rfl) (aj.next ?_)
    refine af.fK (fun _ => by kernel_rfl) ?_
    refine af.seq (af.region ?_)
    refine ah.aA (k' := 1) (fr' := [(6, .bool false)]) (ak := []) [o_] [6] (fun _ _ => by kernel_rfl) trivial ?_
    refine ah.nil (by kernel_rfl) (aj.next (af.ret (aj.av (aj.aO (aj.av (aj.av (aj.aO (aj.av ?_))))))))
    exact aj.ret (v := .bool false) (l := []) (ak := []) [] [2] (fun _ => by kernel_rfl) trivial rfl (by kernel_rfl) (.inr ⟨rfl, fun h => ux (h.ai j (by omega)).good, rfl⟩)
   ·
    refine ah.aA (k' := 14) (fr' := [(0, .pointer (some ⟨(ay A), ax A + i * 10, none⟩)), (1, .map (some mb)), (2, .map (some mp)), (9, .pointer (some ⟨b1, 0, none⟩)), (10, .pointer (some ⟨(ay A), ax A + (tgt ns (en (nd ns i).ai j).id) * 10, none⟩)), (16, .slice (L.eA i) ((nd ns i).ai.length) ((L.eC i))), (17, .int .i64 ↑((nd ns i).ai.length)), (18, .int .i64 ↑j), (39, .bool (decide (ig ((en (nd ns i).ai j).name) (d7 ns i j))))]) (ak := [(Value.bool (Op.bytesLess (((en (nd ns i).ai j).name) : ByteArray).toList (((d7 ns i j)) : ByteArray).toList || (((en (nd ns i).ai j).name) : ByteArray).toList == (((d7 ns i j)) : ByteArray).toList)) = (.bool (decide (ig ((en (nd ns i).ai j).name) (d7 ns i j)))), b1 = b1]) [o_, ⟨[.at 3], none, none, none, none⟩, o_, ⟨[], none, none, none, some (.bool (decide (ig ((en (nd ns i).ai j).name) (d7 ns i j))))⟩, o_] [0, 1, 2, 9, 10, 16, 17, 18, 39] (fun _ _ => by kernel_rfl) ⟨I0 _ _, rfl, trivial⟩ ?_
    refine ah.nil (by kernel_rfl) (aj.next ?_)
    refine af.bH (p := ig ((en (nd ns i).ai j).name) (d7 ns i j)) (fun _ => by kernel_rfl) (fun qw => ?_) (fun qw => ?_)
    ·
     refine af.seq (af.region ?_)
     refine ah.aA (k' := 1) (fr' := [(6, .bool false)]) (ak := []) [o_] [6] (fun _ _ => by kernel_rfl) trivial ?_
     refine ah.nil (by kernel_rfl) (aj.next (af.ret (aj.av (aj.aO (aj.av (aj.av (aj.aO (aj.av ?_))))))))
     exact aj.ret (v := .bool false) (l := []) (ak := []) [] [2] (fun _ => by kernel_rfl) trivial rfl (by kernel_rfl) (.inr ⟨rfl, fun h => (h.ai j (by omega)).ord qw, rfl⟩)
    ·
     refine af.skip (aj.next (af.seq (af.region ?_)))
     refine ah.aA (k' := 3) (fr' := [(0, .pointer (some ⟨(ay A), ax A + i * 10, none⟩)), (1, .map (some mb)), (2, .map (some mp)), (7, .string (en (nd ns i).ai j).name), (9, .pointer (some ⟨b1, 0, none⟩)), (10, .pointer (some ⟨(ay A), ax A + (tgt ns (en (nd ns i).ai j).id) * 10, none⟩)), (16, .slice (L.eA i) ((nd ns i).ai.length) ((L.eC i))), (17, .int .i64 ↑((nd ns i).ai.length)), (18, .int .i64 ↑j)]) (ak := [b1 = b1]) [o_, ⟨[.at 3], none, none, none, none⟩, o_] [0, 1, 2, 7, 9, 10, 16, 17, 18] (fun _ _ => by kernel_rfl) ⟨rfl, trivial⟩ ?_
     refine ah.nil (by kernel_rfl) (aj.next (af.seq (af.seq (af.region ?_))))
     refine ah.aA (k' := 5) (fr' := [(0, .pointer (some ⟨(ay A), ax A + i * 10, none⟩)), (1, .map (some mb)), (2, .map (some mp)), (7, .string (en (nd ns i).ai j).name), (9, .pointer (some ⟨b1, 0, none⟩)), (16, .slice (L.eA i) ((nd ns i).ai.length) ((L.eC i))), (17, .int .i64 ↑((nd ns i).ai.length)), (18, .int .i64 ↑j), (46, .bool (!(decide (((nd ns (tgt ns (en (nd ns i).ai j).id)).kind : Int) = (2 : Int)))))]) (ak := [(Rd β ⟨(ay A), ax A + (tgt ns (en (nd ns i).ai j).id) * 10 + 1, none⟩ (.int .i64 ((nd ns (tgt ns (en (nd ns i).ai j).id)).kind)))]) [o_, o_, o_, ⟨[.old (.int .i64 ((nd ns (tgt ns (en (nd ns i).ai j).id)).kind))], none, none, none, none⟩, o_] [0, 1, 2, 7, 9, 16, 17, 18, 46] (fun _ _ => by kernel_rfl) ⟨aR.rd hG (i := (tgt ns (en (nd ns i).ai j).id)) (by omega) (j := 1) rfl, trivial⟩ ?_
     refine ah.nil (by kernel_rfl) (aj.next ?_)
     refine af.cT (p := ((nd ns (tgt ns (en (nd ns i).ai j).id)).kind : Int) = (2 : Int)) (fun _ => by kernel_rfl) (fun h46 => ?_) (fun h46 => ?_)
     ·
      refine af.exit (aj.bG (aj.dw (aj.next (af.region ?_))))
      refine ah.eP 1 (p := .abs (aC Tryz.prog 3 mp (mf (pf ((ck ns i j ++ ps).map (eU ns)))) ((ck ns i j ++ ps).length))) (p' := .abs (aC Tryz.prog 3 mp (mf (pf ((ck ns i (j + 1) ++ ps).map (eU ns)))) ((ck ns i (j + 1) ++ ps).length))) (by kernel_rfl) (by rw [pJ h46]) ?_
      refine ah.aA (k' := 2) (fr' := [(0, .pointer (some ⟨(ay A), ax A + i * 10, none⟩)), (1, .map (some mb)), (2, .map (some mp)), (7, .string (en (nd ns i).ai j).name), (16, .slice (L.eA i) ((nd ns i).ai.length) ((L.eC i))), (17, .int .i64 ↑((nd ns i).ai.length)), (18, .int .i64 ↑(j + 1))]) (ak := [(Value.int .i64 (IntKind.wrap .i64 (((j : Nat) : Int) + 1))) = (.int .i64 ↑(j + 1))]) [⟨[], none, none, none, some (.int .i64 ↑(j + 1))⟩, o_] [0, 1, 2, 7, 16, 17, 18] (fun _ _ => by kernel_rfl) ⟨bQ (by omega) (by omega) (by omega), trivial⟩ ?_
      refine ah.nil (by kernel_rfl) ?_
      exact aj.turn ((j + 1)) (idx := [0, 1, 2, 7, 16, 17, 18]) (pk := [0, 1, 2]) (show (((j + 1)) ≤ (nd ns i).ai.length) ∧ (∀ t, t < ((j + 1)) → kH ns i t) ∧ (((ck ns i ((j + 1)) ++ ps).map Prod.fst).Nodup) from ⟨by omega, fun t ht => (by rcases Nat.lt_succ_iff_lt_or_eq.1 ht with h | h; exact hok t h; subst h; exact ⟨hat, ux, qw⟩), (by rw [pJ h46]; exact hnd)⟩) (by show (nd ns i).ai.length - ((j + 1)) < (nd ns i).ai.length - j; omega) (fun _ => by kernel_rfl) rfl (by kernel_rfl)
     ·
      refine af.skip (aj.next (af.seq (af.seq (af.region ?_))))
      refine ah.aA (k' := 3) (fr' := [(0, .pointer (some ⟨(ay A), ax A + i * 10, none⟩)), (1, .map (some mb)), (2, .map (some mp)), (7, .string (en (nd ns i).ai j).name), (9, .pointer (some ⟨b1, 0, none⟩)), (16, .slice (L.eA i) ((nd ns i).ai.length) ((L.eC i))), (17, .int .i64 ↑((nd ns i).ai.length)), (18, .int .i64 ↑j), (48, .map (some mp)), (50, .int .i64 ((en (nd ns i).ai j).id))]) (ak := [b1 = b1]) [o_, o_, ⟨[.at 3], none, none, none, none⟩] [0, 1, 2, 7, 9, 16, 17, 18, 48, 50] (fun _ _ => by kernel_rfl) ⟨rfl, trivial⟩ ?_
      rcases hup : up ((ck ns i j ++ ps).map (eU ns)) (en (nd ns i).ai j).id with _ | y
      ·
       refine ah.jH 1 (d := (some 51)) (t := 173) (K := 3) (E := 3) (b := mp) (n := (ck ns i j ++ ps).length) (f := (mf (pf ((ck ns i j ++ ps).map (eU ns))))) (x := (.tmp 48)) (ix := (.tmp 50)) (key := .int .i64 ((en (nd ns i).ai j).id)) (z := .int .i64 0) (kl := (.int .i64 (en (nd ns i).ai j).id)) (r := none) (fun _ => by kernel_rfl) (by kernel_rfl) (fun _ => by kernel_rfl) (fun _ => by kernel_rfl) dL Tryz.underlying173 (fun _ => by kernel_rfl) (mg (hwf j (by omega)).1 (hwf j (by omega)).2) (qR hup) ?_
       refine ah.aA (k' := 9) (fr' := [(0, .pointer (some ⟨(ay A), ax A + i * 10, none⟩)), (1, .map (some mb)), (2, .map (some mp)), (7, .string (en (nd ns i).ai j).name), (9, .pointer (some ⟨b1, 0, none⟩)), (12, .bool false), (16, .slice (L.eA i) ((nd ns i).ai.length) ((L.eC i))), (17, .int .i64 ↑((nd ns i).ai.length)), (18, .int .i64 ↑j)]) (ak := []) [o_, o_, o_, o_, o_] [0, 1, 2, 7, 9, 12, 16, 17, 18] (fun _ _ => by kernel_rfl) trivial ?_
       refine ah.nil (by kernel_rfl) (aj.next (af.seq (af.region ?_)))
       refine ah.aA (k' := 1) (fr' := [(0, .pointer (some ⟨(ay A), ax A + i * 10, none⟩)), (1, .map (some mb)), (2, .map (some mp)), (7, .string (en (nd ns i).ai j).name), (9, .pointer (some ⟨b1, 0, none⟩)), (16, .slice (L.eA i) ((nd ns i).ai.length) ((L.eC i))), (17, .int .i64 ↑((nd ns i).ai.length)), (18, .int .i64 ↑j), (54, .bool false)]) (ak := []) [o_] [0, 1, 2, 7, 9, 16, 17, 18, 54] (fun _ _ => by kernel_rfl) trivial ?_
       refine ah.nil (by kernel_rfl) (aj.next ?_)
       refine af.jw (fun _ => by kernel_rfl) ?_
       refine af.skip (aj.next ?_)
       refine af.qf 7 (by kernel_rfl) (by kernel_rfl) ?_
       refine bX.seg (k' := 7) (fr' := [(0, .pointer (some ⟨(ay A), ax A + i * 10, none⟩)), (1, .map (some mb)), (2, .map (some mp)), (7, .string (en (nd ns i).ai j).name), (16, .slice (L.eA i) ((nd ns i).ai.length) ((L.eC i))), (17, .int .i64 ↑((nd ns i).ai.length)), (18, .int .i64 ↑j), (55, .map (some mp)), (57, .int .i64 ((en (nd ns i).ai j).id)), (61, .int .i64 ((nd ns i).id))]) (ak := [(Rd β ⟨(ay A), ax A + i * 10, none⟩ (.int .i64 ((nd ns i).id))), b1 = b1]) [o_, o_, ⟨[.at 3], none, none, none, none⟩, o_, o_, o_, ⟨[.old (.int .i64 ((nd ns i).id))], none, none, none, none⟩] [0, 1, 2, 7, 16, 17, 18, 55, 57, 61] (fun _ _ => by kernel_rfl) ⟨aR.rd hG (i := i) (by omega) (j := 0) rfl, rfl, trivial⟩ (by decide) ?_
       refine bX.done rfl ?_
       refine ah.jI 1 (d := none) (t := 173) (K := 3) (E := 3) (b := mp) (n := (ck ns i j ++ ps).length) (f := (mf (pf ((ck ns i j ++ ps).map (eU ns))))) (x := (.tmp 55)) (ix := (.tmp 57)) (y := (.tmp 61)) (key := .int .i64 ((en (nd ns i).ai j).id)) (u := .int .i64 ((nd ns i).id)) (kl := (.int .i64 (en (nd ns i).ai j).id)) (n' := (ck ns i (j + 1) ++ ps).length) (f' := (mf (pf ((ck ns i (j + 1) ++ ps).map (eU ns))))) (fun _ => by kernel_rfl) (by kernel_rfl) (fun _ => by kernel_rfl) (fun _ => by kernel_rfl) (fun _ => by kernel_rfl) dL Tryz.underlying173 (by have := zA ns i j; rw [List.length_append]; unfold maxLen; omega) (mg (hwf j (by omega)).1 (hwf j (by omega)).2) (EY (qR hup) h46) (EX hat h46) ?_
       refine ah.nil (by kernel_rfl) (aj.aW (aj.next (af.region ?_)))
       refine ah.aA (k' := 2) (fr' := [(0, .pointer (some ⟨(ay A), ax A + i * 10, none⟩)), (1, .map (some mb)), (2, .map (some mp)), (7, .string (en (nd ns i).ai j).name), (16, .slice (L.eA i) ((nd ns i).ai.length) ((L.eC i))), (17, .int .i64 ↑((nd ns i).ai.length)), (18, .int .i64 ↑(j + 1))]) (ak := [(Value.int .i64 (IntKind.wrap .i64 (((j : Nat) : Int) + 1))) = (.int .i64 ↑(j + 1))]) [⟨[], none, none, none, some (.int .i64 ↑(j + 1))⟩, o_] [0, 1, 2, 7, 16, 17, 18] (fun _ _ => by kernel_rfl) ⟨bQ (by omega) (by omega) (by omega), trivial⟩ ?_
       refine ah.nil (by kernel_rfl) ?_
       exact aj.turn ((j + 1)) (idx := [0, 1, 2, 7, 16, 17, 18]) (pk := [0, 1, 2]) (show (((j + 1)) ≤ (nd ns i).ai.length) ∧ (∀ t, t < ((j + 1)) → kH ns i t) ∧ (((ck ns i ((j + 1)) ++ ps).map Prod.fst).Nodup) from ⟨by omega, fun t ht => (by rcases Nat.lt_succ_iff_lt_or_eq.1 ht with h | h; exact hok t h; subst h; exact ⟨hat, ux, qw⟩), (Cd hat h46 hup hnd)⟩) (by show (nd ns i).ai.length - ((j + 1)) < (nd ns i).ai.length - j; omega) (fun _ => by kernel_rfl) rfl (by kernel_rfl)
      ·
       refine ah.jH 1 (d := (some 51)) (t := 173) (K := 3) (E := 3) (b := mp) (n := (ck ns i j ++ ps).length) (f := (mf (pf ((ck ns i j ++ ps).map (eU ns))))) (x := (.tmp 48)) (ix := (.tmp 50)) (key := .int .i64 ((en (nd ns i).ai j).id)) (z := .int .i64 0) (kl := (.int .i64 (en (nd ns i).ai j).id)) (r := (some (.int .i64 y))) (fun _ => by kernel_rfl) (by kernel_rfl) (fun _ => by kernel_rfl) (fun _ => by kernel_rfl) dL Tryz.underlying173 (fun _ => by kernel_rfl) (mg (hwf j (by omega)).1 (hwf j (by omega)).2) (Gt hup) ?_
       refine ah.aA (k' := 9) (fr' := [(0, .pointer (some ⟨(ay A), ax A + i * 10, none⟩)), (1, .map (some mb)), (2, .map (some mp)), (7, .string (en (nd ns i).ai j).name), (9, .pointer (some ⟨b1, 0, none⟩)), (12, .bool true), (16, .slice (L.eA i) ((nd ns i).ai.length) ((L.eC i))), (17, .int .i64 ↑((nd ns i).ai.length)), (18, .int .i64 ↑j)]) (ak := []) [o_, o_, o_, o_, o_] [0, 1, 2, 7, 9, 12, 16, 17, 18] (fun _ _ => by kernel_rfl) trivial ?_
       refine ah.nil (by kernel_rfl) (aj.next (af.seq (af.region ?_)))
       refine ah.aA (k' := 1) (fr' := [(0, .pointer (some ⟨(ay A), ax A + i * 10, none⟩)), (1, .map (some mb)), (2, .map (some mp)), (7, .string (en (nd ns i).ai j).name), (9, .pointer (some ⟨b1, 0, none⟩)), (16, .slice (L.eA i) ((nd ns i).ai.length) ((L.eC i))), (17, .int .i64 ↑((nd ns i).ai.length)), (18, .int .i64 ↑j), (54, .bool true)]) (ak := []) [o_] [0, 1, 2, 7, 9, 16, 17, 18, 54] (fun _ _ => by kernel_rfl) trivial ?_
       refine ah.nil (by kernel_rfl) (aj.next ?_)
       refine af.fK (fun _ => by kernel_rfl) ?_
       refine af.seq (af.region ?_)
       refine ah.aA (k' := 1) (fr' := [(6, .bool false)]) (ak := []) [o_] [6] (fun _ _ => by kernel_rfl) trivial ?_
       refine ah.nil (by kernel_rfl) (aj.next (af.ret (aj.av (aj.aO (aj.av (aj.av (aj.aO (aj.av ?_))))))))
       exact aj.ret (v := .bool false) (l := []) (ak := []) [] [2] (fun _ => by kernel_rfl) trivial rfl (by kernel_rfl) (.inr ⟨rfl, AU hr hps hok hat h46 hup (by omega), rfl⟩)
  ·
   refine ah.dV 0 (d := (some 25)) (t := 138) (K := 3) (E := 171) (b := mb) (n := ns.length) (f := (mf (bf A ns ns.length))) (x := (.tmp 22)) (ix := (.tmp 24)) (key := .int .i64 ((en (nd ns i).ai j).id)) (z := .pointer none) (kl := (.int .i64 (en (nd ns i).ai j).id)) (r := none) (fun _ => by kernel_rfl) (by kernel_rfl) (fun _ => by kernel_rfl) (fun _ => by kernel_rfl) dL Tryz.underlying138 (fun _ => by kernel_rfl) (mg (hwf j (by omega)).1 (hwf j (by omega)).2) (Ht hat) ?_
   refine ah.aA (k' := 5) (fr' := [(0, .pointer (some ⟨(ay A), ax A + i * 10, none⟩)), (1, .map (some mb)), (2, .map (some mp)), (7, .string (d7 ns i j)), (9, .pointer (some ⟨b1, 0, none⟩)), (10, .pointer none), (16, .slice (L.eA i) ((nd ns i).ai.length) ((L.eC i))), (17, .int .i64 ↑((nd ns i).ai.length)), (18, .int .i64 ↑j)]) (ak := []) [o_] [0, 1, 2, 7, 9, 10, 16, 17, 18] (fun _ _ => by kernel_rfl) trivial ?_
   refine ah.nil (by kernel_rfl) (aj.next (af.seq (af.seq (af.region ?_))))
   refine ah.aA (k' := 14) (fr' := [(0, .pointer (some ⟨(ay A), ax A + i * 10, none⟩)), (1, .map (some mb)), (2, .map (some mp)), (9, .pointer (some ⟨b1, 0, none⟩)), (10, .pointer none), (16, .slice (L.eA i) ((nd ns i).ai.length) ((L.eC i))), (17, .int .i64 ↑((nd ns i).ai.length)), (18, .int .i64 ↑j), (39, .bool true)]) (ak := []) [o_, o_, o_, o_, o_, o_, o_, o_, o_, o_, o_, o_, o_, o_] [0, 1, 2, 9, 10, 16, 17, 18, 39] (fun _ _ => by kernel_rfl) trivial ?_
   refine ah.nil (by kernel_rfl) (aj.next ?_)
   refine af.fK (fun _ => by kernel_rfl) ?_
   refine af.seq (af.region ?_)
   refine ah.aA (k' := 1) (fr' := [(6, .bool false)]) (ak := []) [o_] [6] (fun _ _ => by kernel_rfl) trivial ?_
   refine ah.nil (by kernel_rfl) (aj.next (af.ret (aj.av (aj.aO (aj.av (aj.av (aj.aO (aj.av ?_))))))))
   exact aj.ret (v := .bool false) (l := []) (ak := []) [] [2] (fun _ => by kernel_rfl) trivial rfl (by kernel_rfl) (.inr ⟨rfl, fun h => hat (h.ai j (by omega)).at_, rfl⟩)
 ·
  refine af.exit (aj.bG (aj.bG (aj.dw (aj.next (af.seq (af.region ?_))))))
  refine ah.aA (k' := 1) (fr' := [(6, .bool true)]) (ak := []) [o_] [6] (fun _ _ => by kernel_rfl) trivial ?_
  refine ah.nil (by kernel_rfl) (aj.next (af.ret ?_))
  exact aj.ret (v := .bool true) (l := [.abs (aC Tryz.prog 3 mb (mf (bf A ns ns.length)) ns.length), .abs (aC Tryz.prog 3 mp (mf (pf ((ck ns i j ++ ps).map (eU ns)))) ((ck ns i j ++ ps).length))]) (ak := []) [] [0, 1, 2] (fun _ => by kernel_rfl) trivial rfl (by kernel_rfl) (.inl ⟨rfl, ⟨fun t ht => hok t (by omega), by have := hnd; rwa [show j = (nd ns i).ai.length by omega] at this⟩, by rw [show j = (nd ns i).ai.length by omega]⟩)
end Go.Proofs.YtkiedlmhocglhaaGreat
end
section
namespace Go.Proofs.YtkiedlmhocglhaaGreat
open Go.RowKit Go.Maps
def cr (ns : List aL) : Nat → Nat
  | 0 => 0
  | k + 1 => cr ns k + (nd ns k).ai.length
def gH (ns : List aL) : Nat → Int
  | 0 => 0
  | k + 1 => (nd ns k).id
structure bR (ns : List aL) : Prop where
  len : ns.length ≤ 4096
  node : ∀ i, i < ns.length → mW (nd ns i)
  ids : ∀ i, i < ns.length → 1 ≤ (nd ns i).id ∧ (nd ns i).id ≤ 1099511627776
  rise : bW ns
  sum : cr ns ns.length ≤ 8192
  ai : ∀ i, i < ns.length → ∀ j, j < (nd ns i).ai.length → kH ns i j
  nodup : ((dB ns ns.length).map Prod.fst).Nodup
  ends : rY ((dB ns ns.length).map (eU ns))
noncomputable instance (ns : List aL) : Decidable (bR ns) := Classical.propDecidable _
theorem bR.last {ns : List aL} (h : bR ns) {k : Nat} (hk : k < ns.length) : gH ns k < (nd ns k).id := by
  cases k with
  | zero => have := (h.ids 0 hk).1; show (0 : Int) < _; omega
  | succ k => exact h.rise k (k + 1) (Nat.lt_succ_self k) hk
structure mJ (ns : List aL) (k : Nat) : Prop where
  node : ∀ i, i < k → mW (nd ns i)
  ids : ∀ i, i < k → 1 ≤ (nd ns i).id ∧ (nd ns i).id ≤ 1099511627776
  rise : ∀ i j, i < j → j < k → (nd ns i).id < (nd ns j).id
theorem mJ.zero (ns : List aL) : mJ ns 0 := ⟨fun i h => absurd h (Nat.not_lt_zero i), fun i h => absurd h (Nat.not_lt_zero i), fun _ j _ h => absurd h (Nat.not_lt_zero j)⟩
theorem mJ.last {ns : List aL} {k : Nat} (h : mJ ns k) : 0 ≤ gH ns k ∧ gH ns k ≤ 1099511627776 := by
  cases k with
  | zero => exact ⟨Int.le_refl _, by show (0 : Int) ≤ 1099511627776; decide⟩
  | succ k => have := h.ids k (Nat.lt_succ_self k); exact ⟨by show 0 ≤ (nd ns k).id; omega, this.2⟩
theorem mJ.step {ns : List aL} {k : Nat} (h : mJ ns k) (h1 : gH ns k < (nd ns k).id) (h2 : (nd ns k).id ≤ 1099511627776) (h3 : mW (nd ns k)) : mJ ns (k + 1) := by
  have hl := h.last
  refine ⟨fun i hi => ?_, fun i hi => ?_, fun i j hij hj => ?_⟩
  · rcases Nat.lt_succ_iff_lt_or_eq.1 hi with e | e
    · exact h.node i e
    · rw [e]; exact h3
  · rcases Nat.lt_succ_iff_lt_or_eq.1 hi with e | e
    · exact h.ids i e
    · rw [e]; omega
  · rcases Nat.lt_succ_iff_lt_or_eq.1 hj with e | e
    · exact h.rise i j hij e
    · subst e
      cases j with
      | zero => omega
      | succ m =>
        have h4 : (nd ns m).id < (nd ns (m + 1)).id := h1
        rcases Nat.lt_succ_iff_lt_or_eq.1 hij with e | e
        · have := h.rise i m e (Nat.lt_succ_self m); omega
        · rw [e]; exact h4
theorem AJ {ns : List aL} {k : Nat} (h : ∀ i, i < k → (nd ns i).id < (nd ns k).id) (hk : k < ns.length) : lZ ns (nd ns k).id = (k : Int) := by
  unfold lZ
  have hg : ∀ j (hj : j < ns.length), nd ns j = ns[j] := fun j hj => by
    unfold nd
    rw [List.getD_eq_getElem?_getD, List.getElem?_eq_getElem hj]
    rfl
  have : ns.findIdx? (fun n => n.id == (nd ns k).id) = some k := by
    rw [List.findIdx?_eq_some_iff_getElem]
    refine ⟨hk, by rw [← hg k hk]; simp, fun j hj => ?_⟩
    have := h j hj
    rw [← hg j (by omega)]
    simp
    omega
  rw [this]
theorem J1 {A : Option Addr} {ns : List aL} {k : Nat} (h : ∀ i, i < k → (nd ns i).id < (nd ns k).id) (hk : k < ns.length) :
    jl (mf (bf A ns k)) (.int .i64 (nd ns k).id) (some (.pointer (some ⟨ay A, ax A + k * 10, none⟩))) = mf (bf A ns (k + 1)) := by
  have ha := AJ h hk
  rw [zo]
  congr 1
  funext z
  unfold bf
  by_cases e : z = (nd ns k).id
  · subst e
    rw [if_pos rfl, if_pos ⟨by omega, by omega⟩]
    unfold tgt
    rw [ha]
    rfl
  · rw [if_neg e]
    by_cases e1 : 0 ≤ lZ ns z ∧ lZ ns z < (k : Int)
    · rw [if_pos e1, if_pos ⟨e1.1, by omega⟩]
    · rw [if_neg e1, if_neg (fun e2 => ?_)]
      have e3 : lZ ns z = (k : Int) := by omega
      have e4 := (kr e2.1).2
      rw [e4.2] at e3
      have e5 : tgt ns z = k := by omega
      rw [e5] at e4
      exact e e4.1.symm
theorem F9 {A : Option Addr} {ns : List aL} {k : Nat} (h : ∀ i, i < k → (nd ns i).id < (nd ns k).id) (hk : k < ns.length) : (if ((mf (bf A ns k)) (.int .i64 (nd ns k).id)).isSome then k else k + 1) = k + 1 := by
  have ha := AJ h hk
  have : mf (bf A ns k) (.int .i64 (nd ns k).id) = none := if_neg (fun e => by omega)
  rw [this]
  rfl
theorem mJ.below {ns : List aL} {k : Nat} (h : mJ ns k) (h1 : gH ns k < (nd ns k).id) : ∀ i, i < k → (nd ns i).id < (nd ns k).id := by
  intro i hi
  cases k with
  | zero => omega
  | succ m =>
    have h1 : (nd ns m).id < (nd ns (m + 1)).id := h1
    rcases Nat.lt_succ_iff_lt_or_eq.1 hi with e | e
    · have := h.rise i m e (Nat.lt_succ_self m); omega
    · rw [e]; exact h1
theorem H7 {A : Option Addr} {ns : List aL} : mf (bf A ns 0) = fun _ => none := by
  rw [← wS]
  congr 1
  funext z
  exact if_neg (fun e => by omega)
theorem H8 {ns : List aL} : mf (pf ((dB ns 0).map (eU ns))) = fun _ => none := by
  rw [← wS]
  congr 1
theorem vA {ns : List aL} {i : Nat} (hi : i ≤ ns.length) (h : ∀ a, a < i → ∀ j, j < (nd ns a).ai.length → kH ns a j) : ∀ p, p ∈ dB ns i → p.1 < ns.length ∧ p.2 < ns.length := by
  induction i with
  | zero => intro p hp; cases hp
  | succ i ih =>
    intro p hp
    rw [dB] at hp
    rcases List.mem_append.1 hp with hp | hp
    · have := zB (h i (Nat.lt_succ_self i)) p hp
      exact ⟨this.1, by omega⟩
    · exact ih (by omega) (fun a ha => h a (by omega)) p hp
theorem AK (ns : List aL) (i : Nat) : (dB ns i).length ≤ cr ns i := by
  induction i with
  | zero => exact Nat.le_refl _
  | succ i ih =>
    rw [dB, cr, List.length_append]
    have := zA ns i (nd ns i).ai.length
    omega
theorem qp {ns : List aL} {i m : Nat} (h : i ≤ m) : cr ns i ≤ cr ns m := by
  induction m with
  | zero => rw [Nat.le_zero.1 h]; exact Nat.le_refl _
  | succ m ih =>
    rcases Nat.lt_or_ge m i with h1 | h1
    · have : i = m + 1 := by omega
      subst this
      exact Nat.le_refl _
    · have := ih h1
      rw [cr]
      omega
theorem EA {ns : List aL} {ps : List (Nat × Nat)} (hp : ∀ p, p ∈ ps → p.1 < ns.length ∧ p.2 < ns.length) (hid : ∀ i, i < ns.length → 1 ≤ (nd ns i).id ∧ (nd ns i).id ≤ 1099511627776) :
    ∀ z y, up (ps.map (eU ns)) z = some y → (-9223372036854775808 ≤ z ∧ z ≤ 9223372036854775807) ∧ (-9223372036854775808 ≤ y ∧ y ≤ 9223372036854775807) := by
  intro z y h
  unfold up at h
  induction ps with
  | nil => cases h
  | cons p ps ih =>
    obtain ⟨a, b⟩ := p
    rw [List.map_cons, eU, List.lookup_cons] at h
    by_cases e : (z == (nd ns a).id) = true
    · rw [e] at h
      cases h
      have h1 := hp (a, b) (List.mem_cons_self ..)
      have h2 := hid a h1.1
      have h3 := hid b h1.2
      have : z = (nd ns a).id := by simpa using e
      show (_ ∧ _) ∧ (-9223372036854775808 ≤ (nd ns b).id ∧ (nd ns b).id ≤ 9223372036854775807)
      omega
    · have e : (z == (nd ns a).id) = false := by simpa using e
      rw [e] at h
      exact ih (fun p hp' => hp p (List.mem_cons_of_mem _ hp')) h
theorem J2 {p : Prop} [Decidable p] {v : Value} {l : List HP} (h : v = .bool (decide p) ∧ l = []) : (v = .bool true ∧ p ∧ l = []) ∨ (v = .bool false ∧ ¬ p ∧ l = []) := by
  by_cases hp : p
  · exact .inl ⟨by rw [h.1, decide_eq_true hp], hp, h.2⟩
  · exact .inr ⟨by rw [h.1, decide_eq_false hp], hp, h.2⟩
theorem qU.next {ns : List aL} {i : Nat} (h : qU ns i (dB ns i)) : ((dB ns (i + 1)).map Prod.fst).Nodup := h.nodup
theorem bR.row {ns : List aL} (h : bR ns) {i : Nat} (hi : i < ns.length) : qU ns i (dB ns i) := by
  refine ⟨h.ai i hi, ?_⟩
  obtain ⟨l, hl⟩ := Dv (ns := ns) (show i + 1 ≤ ns.length from hi)
  have := h.nodup
  rw [hl] at this
  exact r8 this
end Go.Proofs.YtkiedlmhocglhaaGreat
end
section
namespace Go.Proofs.YtkiedlmhocglhaaGreat
open Go.RowKit
attribute [local irreducible] ah aI af aj
set_option maxRecDepth 100000 in
set_option maxHeartbeats 4000000 in
theorem H9 {β : Bs} (A : Option Addr) (c : Nat) (ns : List aL) (L : Lay) (hG : aR β A ns L) (hl : ns.length ≤ 1048576) (hd : ∀ i, i < ns.length → (nd ns i).data.length ≤ 1048576 ∧ (nd ns i).ai.length ≤ 1048576) (hwf : ∀ i, i < ns.length → ∀ j, j < (nd ns i).ai.length → -9223372036854775808 ≤ (ent ns i j).id ∧ (ent ns i j).id ≤ 9223372036854775807) (hnm : ∀ i, i < ns.length → ∀ j, j < (nd ns i).ai.length → (ent ns i j).name.size ≤ 1048576) :
    Spec Tryz.prog β 58 #[.agg #[.slice A ns.length c]] [] (fun v l => (∃ mb, v = .tuple #[.map (some mb), .bool true] ∧ bR ns ∧ l = [.abs (aC Tryz.prog 3 mb (mf (bf A ns ns.length)) ns.length)]) ∨ (∃ m, v = .tuple #[m, .bool false] ∧ ¬ bR ns ∧ l = [])) := by
 refine Spec.enter Tryz.func58 rfl Tryz.ntmps58 (Nat.le_of_ble_eq_true rfl) (fun R => ?_)
 refine af.seq (af.region ?_)
 refine ah.uM (k' := 3) (fr' := fun b1 => [(1, .pointer (some ⟨b1, 0, none⟩))]) (aK := fun b1 => [.abs R, .blk b1 [.slice A (ns.length) (c)] 26]) (ak := fun b1 => []) [o_, o_, o_] [1] [0, 1] (fun _ _ => by kernel_rfl) (fun b1 => trivial) (fun b1 => ?_)
 refine ah.nil (by kernel_rfl) (aj.next (af.seq (af.seq (af.region ?_))))
 refine ah.aA (k' := 4) (fr' := [(1, .pointer (some ⟨b1, 0, none⟩)), (14, .bool (decide ((((ns.length : Nat) : Int) : Int) > (4096 : Int))))]) (ak := [b1 = b1]) [o_, ⟨[.at 1], none, none, none, none⟩, o_, o_] [1, 14] (fun _ _ => by kernel_rfl) ⟨rfl, trivial⟩ ?_
 refine ah.nil (by kernel_rfl) (aj.next ?_)
 refine af.bH (p := (((ns.length : Nat) : Int) : Int) > (4096 : Int)) (fun _ => by kernel_rfl) (fun fP => ?_) (fun fP => ?_)
 ·
  refine af.seq (af.region ?_)
  refine ah.aA (k' := 2) (fr' := [(2, .map none), (3, .bool false)]) (ak := []) [o_, o_] [2, 3] (fun _ _ => by kernel_rfl) trivial ?_
  refine ah.nil (by kernel_rfl) (aj.next (af.ret (aj.av ?_)))
  exact aj.ret (v := .tuple #[.map none, .bool false]) (l := []) (ak := []) [] [0] (fun _ => by kernel_rfl) trivial rfl (by kernel_rfl) (.inr ⟨_, rfl, fun h => by have := h.len; omega, rfl⟩)
 ·
  refine af.skip (aj.next (af.seq (af.region ?_)))
  refine ah.kX (d := (some 15)) (t := 138) (fun _ => by kernel_rfl) Tryz.prog rfl 3 (fun m2 => ?_)
  refine ah.aA (k' := 2) (fr' := [(1, .pointer (some ⟨b1, 0, none⟩)), (4, .map (some m2))]) (ak := []) [o_] [1, 4] (fun _ _ => by kernel_rfl) trivial ?_
  refine ah.nil (by kernel_rfl) (aj.next (af.seq (af.region ?_)))
  refine ah.eP 2 (p := .abs (aC Tryz.prog 3 m2 (fun _ => none) 0)) (p' := .abs (aC Tryz.prog 3 m2 (mf (bf A ns 0)) 0)) (by kernel_rfl) (by rw [H7]) ?_
  refine ah.aA (k' := 2) (fr' := [(1, .pointer (some ⟨b1, 0, none⟩)), (4, .map (some m2)), (5, .int .i64 0), (6, .int .i64 0)]) (ak := []) [o_, o_] [1, 4, 5, 6] (fun _ _ => by kernel_rfl) trivial ?_
  refine ah.nil (by kernel_rfl) (aj.next (af.seq (af.seq (af.region ?_))))
  refine ah.aA (k' := 4) (fr' := [(1, .pointer (some ⟨b1, 0, none⟩)), (4, .map (some m2)), (5, .int .i64 0), (6, .int .i64 0), (18, .int .i64 ↑ns.length), (19, .int .i64 0)]) (ak := [b1 = b1]) [o_, ⟨[.at 1], none, none, none, none⟩, o_, o_] [1, 4, 5, 6, 18, 19] (fun _ _ => by kernel_rfl) ⟨rfl, trivial⟩ ?_
  refine ah.nil (by kernel_rfl) (aj.next (af.block ?_))
  refine af.loop (ι := Nat) (fun (k : Nat) => (k ≤ ns.length) ∧ (mJ ns k) ∧ (cr ns k ≤ k * 1048576)) (fun (k : Nat) => ns.length - k) (fun (k : Nat) => [(1, .pointer (some ⟨b1, 0, none⟩)), (4, .map (some m2)), (5, .int .i64 (gH ns k)), (6, .int .i64 ↑(cr ns k)), (18, .int .i64 ↑ns.length), (19, .int .i64 ↑k)]) (fun (k : Nat) => [.blk b1 [.slice A (ns.length) (c)] 26, .abs (aC Tryz.prog 3 m2 (mf (bf A ns k)) k), .abs R]) 0 (idx := [1, 4, 5, 6, 18, 19]) (pk := [1, 2, 0]) (show (0 ≤ ns.length) ∧ (mJ ns 0) ∧ (cr ns 0 ≤ 0 * 1048576) from ⟨Nat.zero_le _, mJ.zero ns, Nat.zero_le _⟩) (fun _ => by kernel_rfl) rfl (by kernel_rfl) ?_
  rintro k ⟨hk, hu, hs⟩
  show af _ _ _ _ [(1, .pointer (some ⟨b1, 0, none⟩)), (4, .map (some m2)), (5, .int .i64 (gH ns k)), (6, .int .i64 ↑(cr ns k)), (18, .int .i64 ↑ns.length), (19, .int .i64 ↑k)] [.blk b1 [.slice A (ns.length) (c)] 26, .abs (aC Tryz.prog 3 m2 (mf (bf A ns k)) k), .abs R] _
  have hk4 := (hd k)
  refine af.seq (af.region ?_)
  refine ah.aA (k' := 1) (fr' := [(1, .pointer (some ⟨b1, 0, none⟩)), (4, .map (some m2)), (5, .int .i64 (gH ns k)), (6, .int .i64 ↑(cr ns k)), (18, .int .i64 ↑ns.length), (19, .int .i64 ↑k), (20, .bool (decide ((((k : Nat) : Int) : Int) < (((ns.length : Nat) : Int) : Int))))]) (ak := []) [o_] [1, 4, 5, 6, 18, 19, 20] (fun _ _ => by kernel_rfl) trivial ?_
  refine ah.nil (by kernel_rfl) (aj.next (af.seq ?_))
  refine af.bH (p := (((k : Nat) : Int) : Int) < (((ns.length : Nat) : Int) : Int)) (fun _ => by kernel_rfl) (fun l5 => ?_) (fun l5 => ?_)
  ·
   refine af.skip (aj.next (af.seq (af.block (af.seq (af.region ?_)))))
   refine ah.aA (k' := 2) (fr' := [(1, .pointer (some ⟨b1, 0, none⟩)), (4, .map (some m2)), (5, .int .i64 (gH ns k)), (6, .int .i64 ↑(cr ns k)), (7, .int .i64 ↑k), (18, .int .i64 ↑ns.length), (19, .int .i64 ↑k)]) (ak := []) [o_, o_] [1, 4, 5, 6, 7, 18, 19] (fun _ _ => by kernel_rfl) trivial ?_
   refine ah.nil (by kernel_rfl) (aj.next (af.seq (af.region ?_)))
   refine ah.aA (k' := 5) (fr' := [(1, .pointer (some ⟨b1, 0, none⟩)), (4, .map (some m2)), (5, .int .i64 (gH ns k)), (6, .int .i64 ↑(cr ns k)), (8, .pointer (some ⟨(ay A), ax A + k * 10, none⟩)), (18, .int .i64 ↑ns.length), (19, .int .i64 ↑k)]) (ak := [((k : Nat) : Int) = ((k : Nat) : Int), k < ns.length, (⟨(ay A), ax A, none⟩ : Addr).spot = none, (A : Option Addr) = some ⟨(ay A), ax A, none⟩, b1 = b1]) [o_, ⟨[.at 0], none, none, none, none⟩, o_, ⟨[], some k, none, some ⟨(ay A), ax A, none⟩, none⟩, o_] [1, 4, 5, 6, 8, 18, 19] (fun _ _ => by kernel_rfl) ⟨rfl, by omega, rfl, aR.hd hG (i := k) (by omega), rfl, trivial⟩ ?_
   refine ah.nil (by kernel_rfl) (aj.next (af.seq (af.seq (af.region ?_))))
   refine ah.aA (k' := 7) (fr' := [(1, .pointer (some ⟨b1, 0, none⟩)), (4, .map (some m2)), (6, .int .i64 ↑(cr ns k)), (8, .pointer (some ⟨(ay A), ax A + k * 10, none⟩)), (18, .int .i64 ↑ns.length), (19, .int .i64 ↑k), (32, .bool (decide (((nd ns k).id : Int) ≤ (gH ns k : Int))))]) (ak := [(Rd β ⟨(ay A), ax A + k * 10, none⟩ (.int .i64 ((nd ns k).id)))]) [o_, o_, o_, ⟨[.old (.int .i64 ((nd ns k).id))], none, none, none, none⟩, o_, o_, o_] [1, 4, 6, 8, 18, 19, 32] (fun _ _ => by kernel_rfl) ⟨aR.rd hG (i := k) (by omega) (j := 0) rfl, trivial⟩ ?_
   refine ah.fD 32 (((nd ns k).id : Int) ≤ (gH ns k : Int)) (fun _ => by kernel_rfl) (fun IX => ?_) (fun IX => ?_)
   ·
    refine ah.aA (k' := 18) (fr' := [(1, .pointer (some ⟨b1, 0, none⟩)), (4, .map (some m2)), (6, .int .i64 ↑(cr ns k)), (8, .pointer (some ⟨(ay A), ax A + k * 10, none⟩)), (18, .int .i64 ↑ns.length), (19, .int .i64 ↑k), (43, .bool true)]) (ak := []) [o_, o_, o_, o_, o_, o_, o_, o_, o_, o_, o_] [1, 4, 6, 8, 18, 19, 43] (fun _ _ => by kernel_rfl) trivial ?_
    refine ah.nil (by kernel_rfl) (aj.next ?_)
    refine af.fK (fun _ => by kernel_rfl) ?_
    refine af.seq (af.region ?_)
    refine ah.aA (k' := 2) (fr' := [(2, .map none), (3, .bool false)]) (ak := []) [o_, o_] [2, 3] (fun _ _ => by kernel_rfl) trivial ?_
    refine ah.nil (by kernel_rfl) (aj.next (af.ret (aj.av (aj.aO (aj.av (aj.av (aj.aO (aj.av ?_))))))))
    exact aj.ret (v := .tuple #[.map none, .bool false]) (l := []) (ak := []) [] [2] (fun _ => by kernel_rfl) trivial rfl (by kernel_rfl) (.inr ⟨_, rfl, fun h => by have := h.last (show k < ns.length by omega); omega, rfl⟩)
   ·
    refine ah.aA (k' := 14) (fr' := [(1, .pointer (some ⟨b1, 0, none⟩)), (4, .map (some m2)), (6, .int .i64 ↑(cr ns k)), (8, .pointer (some ⟨(ay A), ax A + k * 10, none⟩)), (18, .int .i64 ↑ns.length), (19, .int .i64 ↑k), (39, .bool (decide (((nd ns k).id : Int) > (1099511627776 : Int))))]) (ak := [(Rd β ⟨(ay A), ax A + k * 10, none⟩ (.int .i64 ((nd ns k).id)))]) [o_, o_, o_, ⟨[.old (.int .i64 ((nd ns k).id))], none, none, none, none⟩, o_, o_, o_] [1, 4, 6, 8, 18, 19, 39] (fun _ _ => by kernel_rfl) ⟨aR.rd hG (i := k) (by omega) (j := 0) rfl, trivial⟩ ?_
    refine ah.fD 39 (((nd ns k).id : Int) > (1099511627776 : Int)) (fun _ => by kernel_rfl) (fun qw => ?_) (fun qw => ?_)
    ·
     refine ah.aA (k' := 18) (fr' := [(1, .pointer (some ⟨b1, 0, none⟩)), (4, .map (some m2)), (6, .int .i64 ↑(cr ns k)), (8, .pointer (some ⟨(ay A), ax A + k * 10, none⟩)), (18, .int .i64 ↑ns.length), (19, .int .i64 ↑k), (43, .bool true)]) (ak := []) [o_, o_, o_, o_] [1, 4, 6, 8, 18, 19, 43] (fun _ _ => by kernel_rfl) trivial ?_
     refine ah.nil (by kernel_rfl) (aj.next ?_)
     refine af.fK (fun _ => by kernel_rfl) ?_
     refine af.seq (af.region ?_)
     refine ah.aA (k' := 2) (fr' := [(2, .map none), (3, .bool false)]) (ak := []) [o_, o_] [2, 3] (fun _ _ => by kernel_rfl) trivial ?_
     refine ah.nil (by kernel_rfl) (aj.next (af.ret (aj.av (aj.aO (aj.av (aj.av (aj.aO (aj.av ?_))))))))
     exact aj.ret (v := .tuple #[.map none, .bool false]) (l := []) (ak := []) [] [2] (fun _ => by kernel_rfl) trivial rfl (by kernel_rfl) (.inr ⟨_, rfl, fun h => by have := (h.ids k (by omega)).2; omega, rfl⟩)
    ·
     refine ah.aA (k' := 15) (fr' := [(1, .pointer (some ⟨b1, 0, none⟩)), (4, .map (some m2)), (6, .int .i64 ↑(cr ns k)), (8, .pointer (some ⟨(ay A), ax A + k * 10, none⟩)), (18, .int .i64 ↑ns.length), (19, .int .i64 ↑k), (39, .bool false), (40, .pointer (some ⟨(ay A), ax A + k * 10, none⟩))]) (ak := []) [o_] [1, 4, 6, 8, 18, 19, 39, 40] (fun _ _ => by kernel_rfl) trivial ?_
     refine ah.call (f := 106) (args := #[.pointer (some ⟨(ay A), ax A + k * 10, none⟩)]) (d := (some 41)) (pre := []) (R := [.blk b1 [.slice A (ns.length) (c)] 26, .abs (aC Tryz.prog 3 m2 (mf (bf A ns k)) k), .abs R]) (pk := [0, 1, 2]) (fun _ => by kernel_rfl) (EW A ns L hG k (by omega)) rfl (by kernel_rfl) ?_
     rintro _ _ ⟨rfl, rfl⟩
     refine ah.aA (k' := 18) (fr' := [(1, .pointer (some ⟨b1, 0, none⟩)), (4, .map (some m2)), (6, .int .i64 ↑(cr ns k)), (8, .pointer (some ⟨(ay A), ax A + k * 10, none⟩)), (18, .int .i64 ↑ns.length), (19, .int .i64 ↑k), (43, .bool (!(decide (mW (nd ns k)))))]) (ak := []) [o_, o_] [1, 4, 6, 8, 18, 19, 43] (fun _ _ => by kernel_rfl) trivial ?_
     refine ah.nil (by kernel_rfl) (aj.next ?_)
     refine af.cT (p := mW (nd ns k)) (fun _ => by kernel_rfl) (fun J3 => ?_) (fun J3 => ?_)
     ·
      refine af.seq (af.region ?_)
      refine ah.aA (k' := 2) (fr' := [(2, .map none), (3, .bool false)]) (ak := []) [o_, o_] [2, 3] (fun _ _ => by kernel_rfl) trivial ?_
      refine ah.nil (by kernel_rfl) (aj.next (af.ret (aj.av (aj.aO (aj.av (aj.av (aj.aO (aj.av ?_))))))))
      exact aj.ret (v := .tuple #[.map none, .bool false]) (l := []) (ak := []) [] [2] (fun _ => by kernel_rfl) trivial rfl (by kernel_rfl) (.inr ⟨_, rfl, fun h => J3 (h.node k (by omega)), rfl⟩)
     ·
      refine af.skip (aj.next (af.seq (af.region ?_)))
      refine ah.aA (k' := 5) (fr' := [(1, .pointer (some ⟨b1, 0, none⟩)), (4, .map (some m2)), (5, .int .i64 ((nd ns k).id)), (6, .int .i64 ↑(cr ns k)), (8, .pointer (some ⟨(ay A), ax A + k * 10, none⟩)), (18, .int .i64 ↑ns.length), (19, .int .i64 ↑k)]) (ak := [(Rd β ⟨(ay A), ax A + k * 10, none⟩ (.int .i64 ((nd ns k).id)))]) [o_, o_, o_, ⟨[.old (.int .i64 ((nd ns k).id))], none, none, none, none⟩, o_] [1, 4, 5, 6, 8, 18, 19] (fun _ _ => by kernel_rfl) ⟨aR.rd hG (i := k) (by omega) (j := 0) rfl, trivial⟩ ?_
      refine ah.nil (by kernel_rfl) (aj.next (af.seq (af.region ?_)))
      refine ah.aA (k' := 6) (fr' := [(1, .pointer (some ⟨b1, 0, none⟩)), (4, .map (some m2)), (5, .int .i64 ((nd ns k).id)), (6, .int .i64 ↑(cr ns k)), (8, .pointer (some ⟨(ay A), ax A + k * 10, none⟩)), (18, .int .i64 ↑ns.length), (19, .int .i64 ↑k), (48, .map (some m2)), (52, .int .i64 ((nd ns k).id)), (53, .pointer (some ⟨(ay A), ax A + k * 10, none⟩))]) (ak := [(Rd β ⟨(ay A), ax A + k * 10, none⟩ (.int .i64 ((nd ns k).id)))]) [o_, o_, o_, o_, ⟨[.old (.int .i64 ((nd ns k).id))], none, none, none, none⟩, o_] [1, 4, 5, 6, 8, 18, 19, 48, 52, 53] (fun _ _ => by kernel_rfl) ⟨aR.rd hG (i := k) (by omega) (j := 0) rfl, trivial⟩ ?_
      refine ah.jI 1 (d := none) (t := 138) (K := 3) (E := 171) (b := m2) (n := k) (f := (mf (bf A ns k))) (x := (.tmp 48)) (ix := (.tmp 52)) (y := (.tmp 53)) (key := .int .i64 ((nd ns k).id)) (u := .pointer (some ⟨(ay A), ax A + k * 10, none⟩)) (kl := (.int .i64 (nd ns k).id)) (n' := k + 1) (f' := (mf (bf A ns (k + 1)))) (fun _ => by kernel_rfl) (by kernel_rfl) (fun _ => by kernel_rfl) (fun _ => by kernel_rfl) (fun _ => by kernel_rfl) dL Tryz.underlying138 (by unfold maxLen; omega) (mg (by have := hu.last; omega) (by omega)) (F9 (hu.below (by omega)) (by omega)) (J1 (hu.below (by omega)) (by omega)) ?_
      refine ah.nil (by kernel_rfl) (aj.next (af.region ?_))
      refine ah.aA (k' := 8) (fr' := [(1, .pointer (some ⟨b1, 0, none⟩)), (4, .map (some m2)), (5, .int .i64 ((nd ns k).id)), (6, .int .i64 ↑((cr ns k) + ((nd ns k).ai.length))), (18, .int .i64 ↑ns.length), (19, .int .i64 ↑k)]) (ak := [(Value.int .i64 (IntKind.wrap .i64 (((cr ns k : Nat) : Int) + (((nd ns k).ai.length : Nat) : Int)))) = (.int .i64 ↑((cr ns k) + ((nd ns k).ai.length))), (Rd β ⟨(ay A), ax A + k * 10 + 9, none⟩ (.slice (L.eA k) ((nd ns k).ai.length) ((L.eC k))))]) [o_, o_, o_, o_, ⟨[.old (.slice (L.eA k) ((nd ns k).ai.length) ((L.eC k)))], none, none, none, none⟩, o_, ⟨[], none, none, none, some (.int .i64 ↑((cr ns k) + ((nd ns k).ai.length)))⟩, o_] [1, 4, 5, 6, 18, 19] (fun _ _ => by kernel_rfl) ⟨bQ (by omega) (by omega) (by omega), aR.rd hG (i := k) (by omega) (j := 9) rfl, trivial⟩ ?_
      refine ah.nil (by kernel_rfl) (aj.aW (aj.next (af.region ?_)))
      refine ah.aA (k' := 2) (fr' := [(1, .pointer (some ⟨b1, 0, none⟩)), (4, .map (some m2)), (5, .int .i64 ((nd ns k).id)), (6, .int .i64 ↑((cr ns k) + ((nd ns k).ai.length))), (18, .int .i64 ↑ns.length), (19, .int .i64 ↑(k + 1))]) (ak := [(Value.int .i64 (IntKind.wrap .i64 (((k : Nat) : Int) + 1))) = (.int .i64 ↑(k + 1))]) [⟨[], none, none, none, some (.int .i64 ↑(k + 1))⟩, o_] [1, 4, 5, 6, 18, 19] (fun _ _ => by kernel_rfl) ⟨bQ (by omega) (by omega) (by omega), trivial⟩ ?_
      refine ah.nil (by kernel_rfl) ?_
      exact aj.turn ((k + 1)) (idx := [1, 4, 5, 6, 18, 19]) (pk := [0, 1, 2]) (show (((k + 1)) ≤ ns.length) ∧ (mJ ns ((k + 1))) ∧ (cr ns ((k + 1)) ≤ ((k + 1)) * 1048576) from ⟨by omega, hu.step (by omega) (by omega) J3, by have := (hd k (by omega)).2; show cr ns k + _ ≤ _; omega⟩) (by show ns.length - ((k + 1)) < ns.length - k; omega) (fun _ => by kernel_rfl) rfl (by kernel_rfl)
  ·
   refine af.exit (aj.bG (aj.bG (aj.dw (aj.next (af.seq (af.seq (af.region ?_)))))))
   refine ah.aA (k' := 2) (fr' := [(1, .pointer (some ⟨b1, 0, none⟩)), (4, .map (some m2)), (63, .bool (decide ((((cr ns k : Nat) : Int) : Int) > (8192 : Int))))]) (ak := []) [o_, o_] [1, 4, 63] (fun _ _ => by kernel_rfl) trivial ?_
   refine ah.nil (by kernel_rfl) (aj.next ?_)
   refine af.bH (p := (((cr ns k : Nat) : Int) : Int) > (8192 : Int)) (fun _ => by kernel_rfl) (fun h63 => ?_) (fun h63 => ?_)
   ·
    refine af.seq (af.region ?_)
    refine ah.aA (k' := 2) (fr' := [(2, .map none), (3, .bool false)]) (ak := []) [o_, o_] [2, 3] (fun _ _ => by kernel_rfl) trivial ?_
    refine ah.nil (by kernel_rfl) (aj.next (af.ret (aj.av ?_)))
    exact aj.ret (v := .tuple #[.map none, .bool false]) (l := []) (ak := []) [] [2] (fun _ => by kernel_rfl) trivial rfl (by kernel_rfl) (.inr ⟨_, rfl, fun h => by have h1 := h.sum; rw [show ns.length = k by omega] at h1; omega, rfl⟩)
   ·
    refine af.skip (aj.next (af.seq (af.region ?_)))
    refine ah.kX (d := (some 64)) (t := 173) (fun _ => by kernel_rfl) Tryz.prog rfl 3 (fun m3 => ?_)
    refine ah.aA (k' := 2) (fr' := [(1, .pointer (some ⟨b1, 0, none⟩)), (4, .map (some m2)), (9, .map (some m3))]) (ak := []) [o_] [1, 4, 9] (fun _ _ => by kernel_rfl) trivial ?_
    refine ah.nil (by kernel_rfl) (aj.next (af.seq (af.seq (af.region ?_))))
    refine ah.eP 3 (p := .abs (aC Tryz.prog 3 m3 (fun _ => none) 0)) (p' := .abs (aC Tryz.prog 3 m3 (mf (pf ((dB ns 0).map (eU ns)))) ((dB ns 0).length))) (by kernel_rfl) (by rw [H8]; rfl) ?_
    refine ah.eP 1 (p := .abs (aC Tryz.prog 3 m2 (mf (bf A ns k)) k)) (p' := .abs (aC Tryz.prog 3 m2 (mf (bf A ns ns.length)) ns.length)) (by kernel_rfl) (by rw [show k = ns.length by omega]) ?_
    refine ah.aA (k' := 4) (fr' := [(1, .pointer (some ⟨b1, 0, none⟩)), (4, .map (some m2)), (9, .map (some m3)), (67, .int .i64 ↑ns.length), (68, .int .i64 0)]) (ak := [b1 = b1]) [o_, ⟨[.at 0], none, none, none, none⟩, o_, o_] [1, 4, 9, 67, 68] (fun _ _ => by kernel_rfl) ⟨rfl, trivial⟩ ?_
    refine ah.nil (by kernel_rfl) (aj.next (af.block ?_))
    have G8 : bW ns := fun a b hab hb => hu.rise a b hab (by omega)
    have hsum : cr ns ns.length ≤ 8192 := by rw [show ns.length = k by omega]; omega
    refine af.loop (ι := Nat) (fun (i : Nat) => (i ≤ ns.length) ∧ (∀ a, a < i → ∀ j, j < (nd ns a).ai.length → kH ns a j) ∧ (((dB ns i).map Prod.fst).Nodup)) (fun (i : Nat) => ns.length - i) (fun (i : Nat) => [(1, .pointer (some ⟨b1, 0, none⟩)), (4, .map (some m2)), (9, .map (some m3)), (67, .int .i64 ↑ns.length), (68, .int .i64 ↑i)]) (fun (i : Nat) => [.blk b1 [.slice A (ns.length) (c)] 26, .abs (aC Tryz.prog 3 m2 (mf (bf A ns ns.length)) ns.length), .abs (aC Tryz.prog 3 m3 (mf (pf ((dB ns i).map (eU ns)))) ((dB ns i).length)), .abs R]) 0 (idx := [1, 4, 9, 67, 68]) (pk := [0, 1, 3, 2]) (show (0 ≤ ns.length) ∧ (∀ a, a < 0 → ∀ j, j < (nd ns a).ai.length → kH ns a j) ∧ (((dB ns 0).map Prod.fst).Nodup) from ⟨Nat.zero_le _, fun a ha => absurd ha (Nat.not_lt_zero a), List.nodup_nil⟩) (fun _ => by kernel_rfl) rfl (by kernel_rfl) ?_
    rintro i ⟨hi, ze, hnd⟩
    show af _ _ _ _ [(1, .pointer (some ⟨b1, 0, none⟩)), (4, .map (some m2)), (9, .map (some m3)), (67, .int .i64 ↑ns.length), (68, .int .i64 ↑i)] [.blk b1 [.slice A (ns.length) (c)] 26, .abs (aC Tryz.prog 3 m2 (mf (bf A ns ns.length)) ns.length), .abs (aC Tryz.prog 3 m3 (mf (pf ((dB ns i).map (eU ns)))) ((dB ns i).length)), .abs R] _
    refine af.seq (af.region ?_)
    refine ah.aA (k' := 1) (fr' := [(1, .pointer (some ⟨b1, 0, none⟩)), (4, .map (some m2)), (9, .map (some m3)), (67, .int .i64 ↑ns.length), (68, .int .i64 ↑i), (69, .bool (decide ((((i : Nat) : Int) : Int) < (((ns.length : Nat) : Int) : Int))))]) (ak := []) [o_] [1, 4, 9, 67, 68, 69] (fun _ _ => by kernel_rfl) trivial ?_
    refine ah.nil (by kernel_rfl) (aj.next (af.seq ?_))
    refine af.bH (p := (((i : Nat) : Int) : Int) < (((ns.length : Nat) : Int) : Int)) (fun _ => by kernel_rfl) (fun MV => ?_) (fun MV => ?_)
    ·
     refine af.skip (aj.next (af.seq (af.block (af.seq (af.region ?_)))))
     refine ah.aA (k' := 2) (fr' := [(1, .pointer (some ⟨b1, 0, none⟩)), (4, .map (some m2)), (9, .map (some m3)), (10, .int .i64 ↑i), (67, .int .i64 ↑ns.length), (68, .int .i64 ↑i)]) (ak := []) [o_, o_] [1, 4, 9, 10, 67, 68] (fun _ _ => by kernel_rfl) trivial ?_
     refine ah.nil (by kernel_rfl) (aj.next (af.seq (af.region ?_)))
     refine ah.aA (k' := 6) (fr' := [(1, .pointer (some ⟨b1, 0, none⟩)), (4, .map (some m2)), (9, .map (some m3)), (67, .int .i64 ↑ns.length), (68, .int .i64 ↑i), (74, .pointer (some ⟨(ay A), ax A + i * 10, none⟩)), (75, .map (some m2)), (76, .map (some m3))]) (ak := [((i : Nat) : Int) = ((i : Nat) : Int), i < ns.length, (⟨(ay A), ax A, none⟩ : Addr).spot = none, (A : Option Addr) = some ⟨(ay A), ax A, none⟩, b1 = b1]) [o_, ⟨[.at 0], none, none, none, none⟩, o_, ⟨[], some i, none, some ⟨(ay A), ax A, none⟩, none⟩, o_, o_] [1, 4, 9, 67, 68, 74, 75, 76] (fun _ _ => by kernel_rfl) ⟨rfl, by omega, rfl, aR.hd hG (i := i) (by omega), rfl, trivial⟩ ?_
     refine ah.call (f := 107) (args := #[.pointer (some ⟨(ay A), ax A + i * 10, none⟩), .map (some m2), .map (some m3)]) (d := (some 77)) (pre := [.abs (aC Tryz.prog 3 m2 (mf (bf A ns ns.length)) ns.length), .abs (aC Tryz.prog 3 m3 (mf (pf ((dB ns i).map (eU ns)))) ((dB ns i).length))]) (R := [.blk b1 [.slice A (ns.length) (c)] 26, .abs R]) (pk := [1, 2, 0, 3]) (fun _ => by kernel_rfl) (F8 A ns L hG G8 i (by omega) (hd i (by omega)).2 (hwf i (by omega)) (hnm i (by omega)) m2 m3 (dB ns i) (by have := AK ns i; have := qp (ns := ns) (show i ≤ ns.length by omega); omega) (fun p hp => (vA (by omega) ze p hp).1) hnd) rfl (by kernel_rfl) ?_
     rintro _ _ (⟨rfl, hro, rfl⟩ | ⟨rfl, hro, rfl⟩)
     ·
      refine ah.aA (k' := 8) (fr' := [(1, .pointer (some ⟨b1, 0, none⟩)), (4, .map (some m2)), (9, .map (some m3)), (67, .int .i64 ↑ns.length), (68, .int .i64 ↑i), (78, .bool false)]) (ak := []) [o_] [1, 4, 9, 67, 68, 78] (fun _ _ => by kernel_rfl) trivial ?_
      refine ah.nil (by kernel_rfl) (aj.next ?_)
      refine af.jw (fun _ => by kernel_rfl) ?_
      refine af.skip (aj.aW (aj.next (af.region ?_)))
      refine ah.aA (k' := 2) (fr' := [(1, .pointer (some ⟨b1, 0, none⟩)), (4, .map (some m2)), (9, .map (some m3)), (67, .int .i64 ↑ns.length), (68, .int .i64 ↑(i + 1))]) (ak := [(Value.int .i64 (IntKind.wrap .i64 (((i : Nat) : Int) + 1))) = (.int .i64 ↑(i + 1))]) [⟨[], none, none, none, some (.int .i64 ↑(i + 1))⟩, o_] [1, 4, 9, 67, 68] (fun _ _ => by kernel_rfl) ⟨bQ (by omega) (by omega) (by omega), trivial⟩ ?_
      refine ah.nil (by kernel_rfl) ?_
      exact aj.turn ((i + 1)) (idx := [1, 4, 9, 67, 68]) (pk := [2, 0, 1, 3]) (show (((i + 1)) ≤ ns.length) ∧ (∀ a, a < ((i + 1)) → ∀ j, j < (nd ns a).ai.length → kH ns a j) ∧ (((dB ns ((i + 1))).map Prod.fst).Nodup) from ⟨by omega, fun a ha => (by rcases Nat.lt_succ_iff_lt_or_eq.1 ha with h | h; exact ze a h; subst h; exact hro.ai), hro.next⟩) (by show ns.length - ((i + 1)) < ns.length - i; omega) (fun _ => by kernel_rfl) rfl (by kernel_rfl)
     ·
      refine ah.aA (k' := 8) (fr' := [(1, .pointer (some ⟨b1, 0, none⟩)), (4, .map (some m2)), (9, .map (some m3)), (67, .int .i64 ↑ns.length), (68, .int .i64 ↑i), (78, .bool true)]) (ak := []) [o_] [1, 4, 9, 67, 68, 78] (fun _ _ => by kernel_rfl) trivial ?_
      refine ah.nil (by kernel_rfl) (aj.next ?_)
      refine af.fK (fun _ => by kernel_rfl) ?_
      refine af.seq (af.region ?_)
      refine ah.aA (k' := 2) (fr' := [(2, .map none), (3, .bool false)]) (ak := []) [o_, o_] [2, 3] (fun _ _ => by kernel_rfl) trivial ?_
      refine ah.nil (by kernel_rfl) (aj.next (af.ret (aj.aO (aj.av (aj.av (aj.aO (aj.av ?_)))))))
      exact aj.ret (v := .tuple #[.map none, .bool false]) (l := []) (ak := []) [] [1] (fun _ => by kernel_rfl) trivial rfl (by kernel_rfl) (.inr ⟨_, rfl, fun h => hro (h.row (by omega)), rfl⟩)
    ·
     refine af.exit (aj.bG (aj.bG (aj.dw (aj.next (af.seq (af.region ?_))))))
     refine ah.aA (k' := 2) (fr' := [(80, .map (some m2)), (81, .map (some m3))]) (ak := []) [o_, o_] [80, 81] (fun _ _ => by kernel_rfl) trivial ?_
     refine ah.eP 2 (p := .abs (aC Tryz.prog 3 m3 (mf (pf ((dB ns i).map (eU ns)))) ((dB ns i).length))) (p' := .abs (aC Tryz.prog 3 m3 (mf (pf ((dB ns i).map (eU ns)))) (((dB ns i).map (eU ns)).length))) (by kernel_rfl) (by rw [List.length_map]) ?_
     refine ah.call (f := 108) (args := #[.map (some m3)]) (d := (some 82)) (pre := [.abs (aC Tryz.prog 3 m3 (mf (pf ((dB ns i).map (eU ns)))) (((dB ns i).map (eU ns)).length))]) (R := [.blk b1 [.slice A (ns.length) (c)] 26, .abs (aC Tryz.prog 3 m2 (mf (bf A ns ns.length)) ns.length), .abs R]) (pk := [2, 0, 1, 3]) (fun _ => by kernel_rfl) ((Ds m3 ((dB ns i).map (eU ns)) (by rw [List.length_map]; have := AK ns i; have := qp (ns := ns) (show i ≤ ns.length by omega); omega) (EA (vA (by omega) ze) (fun a ha => hu.ids a (by omega)))).mono (fun v l h => J2 h)) rfl (by kernel_rfl) ?_
     rintro _ _ (⟨rfl, J4, rfl⟩ | ⟨rfl, J4, rfl⟩)
     ·
      refine ah.aA (k' := 5) (fr' := [(2, .map (some m2)), (3, .bool true)]) (ak := []) [o_, o_] [2, 3] (fun _ _ => by kernel_rfl) trivial ?_
      refine ah.nil (by kernel_rfl) (aj.next (af.ret ?_))
      exact aj.ret (v := .tuple #[.map (some m2), .bool true]) (l := [.abs (aC Tryz.prog 3 m2 (mf (bf A ns ns.length)) ns.length)]) (ak := []) [] [1, 2] (fun _ => by kernel_rfl) trivial rfl (by kernel_rfl) (.inl ⟨m2, rfl, ⟨by omega, fun a ha => hu.node a (by omega), fun a ha => hu.ids a (by omega), G8, by omega, fun a ha => ze a (by omega), by have := hnd; rwa [show i = ns.length by omega] at this, by have := J4; rwa [show i = ns.length by omega] at this⟩, rfl⟩)
     ·
      refine ah.aA (k' := 5) (fr' := [(2, .map (some m2)), (3, .bool false)]) (ak := []) [o_, o_] [2, 3] (fun _ _ => by kernel_rfl) trivial ?_
      refine ah.nil (by kernel_rfl) (aj.next (af.ret ?_))
      exact aj.ret (v := .tuple #[.map (some m2), .bool false]) (l := []) (ak := []) [] [2] (fun _ => by kernel_rfl) trivial rfl (by kernel_rfl) (.inr ⟨_, rfl, fun h => J4 (by have := h.ends; rwa [show ns.length = i by omega] at this), rfl⟩)
set_option maxRecDepth 100000 in
set_option maxHeartbeats 4000000 in
theorem Ga {β : Bs} (A : Option Addr) (c : Nat) (ns : List aL) (L : Lay) (hG : aR β A ns L) (hl : ns.length ≤ 1048576) (hd : ∀ i, i < ns.length → (nd ns i).data.length ≤ 1048576 ∧ (nd ns i).ai.length ≤ 1048576) (hwf : ∀ i, i < ns.length → ∀ j, j < (nd ns i).ai.length → -9223372036854775808 ≤ (ent ns i j).id ∧ (ent ns i j).id ≤ 9223372036854775807) (hnm : ∀ i, i < ns.length → ∀ j, j < (nd ns i).ai.length → (ent ns i j).name.size ≤ 1048576) :
    Spec Tryz.prog β 27 #[.agg #[.slice A ns.length c]] [] (fun v l => v = .int .i64 (if bR ns then 0 else 140) ∧ l = []) := by
 refine Spec.enter Tryz.func27 rfl Tryz.ntmps27 (Nat.le_of_ble_eq_true rfl) (fun R => ?_)
 refine af.seq (af.region ?_)
 refine ah.uM (k' := 2) (fr' := fun b4 => [(1, .pointer (some ⟨b4, 0, none⟩))]) (aK := fun b4 => [.abs R, .blk b4 [.slice A (ns.length) (c)] 26]) (ak := fun b4 => []) [o_, o_] [1] [0, 1] (fun _ _ => by kernel_rfl) (fun b4 => trivial) (fun b4 => ?_)
 refine ah.nil (by kernel_rfl) (aj.next (af.seq (af.seq (af.region ?_))))
 refine ah.aA (k' := 1) (fr' := [(6, .agg #[.slice A (ns.length) (c)])]) (ak := [b4 = b4]) [⟨[.at 1], none, none, none, none⟩] [6] (fun _ _ => by kernel_rfl) ⟨rfl, trivial⟩ ?_
 refine ah.call (f := 58) (args := #[.agg #[.slice A (ns.length) (c)]]) (d := (some 7)) (pre := []) (R := [.abs R, .blk b4 [.slice A (ns.length) (c)] 26]) (pk := [0, 1]) (fun _ => by kernel_rfl) (H9 A c ns L hG hl hd hwf hnm) rfl (by kernel_rfl) ?_
 rintro _ _ (⟨mb, rfl, hok, rfl⟩ | ⟨m, rfl, hok, rfl⟩)
 ·
  refine ah.aA (k' := 7) (fr' := [(4, .bool true)]) (ak := []) [o_, o_, o_, o_, o_] [4] (fun _ _ => by kernel_rfl) trivial ?_
  refine ah.nil (by kernel_rfl) (aj.next (af.seq (af.region ?_)))
  refine ah.aA (k' := 2) (fr' := [(11, .bool false)]) (ak := []) [o_, o_] [11] (fun _ _ => by kernel_rfl) trivial ?_
  refine ah.nil (by kernel_rfl) (aj.next ?_)
  refine af.jw (fun _ => by kernel_rfl) ?_
  refine af.skip (aj.next (af.seq (af.region ?_)))
  refine ah.aA (k' := 1) (fr' := [(2, .int .i64 0)]) (ak := []) [o_] [2] (fun _ _ => by kernel_rfl) trivial ?_
  refine ah.nil (by kernel_rfl) (aj.next (af.ret ?_))
  exact aj.ret (v := .int .i64 0) (l := []) (ak := []) [] [1] (fun _ => by kernel_rfl) trivial rfl (by kernel_rfl) (⟨congrArg (Value.int .i64) (if_pos hok).symm, rfl⟩)
 ·
  refine ah.aA (k' := 7) (fr' := [(4, .bool false)]) (ak := []) [o_, o_, o_, o_, o_] [4] (fun _ _ => by kernel_rfl) trivial ?_
  refine ah.nil (by kernel_rfl) (aj.next (af.seq (af.region ?_)))
  refine ah.aA (k' := 2) (fr' := [(11, .bool true)]) (ak := []) [o_, o_] [11] (fun _ _ => by kernel_rfl) trivial ?_
  refine ah.nil (by kernel_rfl) (aj.next ?_)
  refine af.fK (fun _ => by kernel_rfl) ?_
  refine af.seq (af.region ?_)
  refine ah.aA (k' := 1) (fr' := [(2, .int .i64 140)]) (ak := []) [o_] [2] (fun _ _ => by kernel_rfl) trivial ?_
  refine ah.nil (by kernel_rfl) (aj.next (af.ret (aj.av ?_)))
  exact aj.ret (v := .int .i64 140) (l := []) (ak := []) [] [0] (fun _ => by kernel_rfl) trivial rfl (by kernel_rfl) (⟨congrArg (Value.int .i64) (if_neg hok).symm, rfl⟩)
end Go.Proofs.YtkiedlmhocglhaaGreat
end
section
namespace Go.Proofs.YtkiedlmhocglhaaGreat
open Go.RowKit Go.Maps
def J5 (ed : List (Nat × Nat)) (k : Nat) : Int := match ed.lookup k with | some a => (a : Int) | none => -1
structure J6 (n : Nat) (pl : List Int) (ed : List (Nat × Nat)) : Prop where
  len : pl.length = n
  at_ : ∀ k, k < n → pl.getD k 0 = J5 ed k
theorem Gb {pl : List Int} {k j : Nat} {x : Int} (hk : k < pl.length) : (pl.set k x).getD j 0 = if j = k then x else pl.getD j 0 := by
  rw [List.getD_eq_getElem?_getD, List.getD_eq_getElem?_getD, List.getElem?_set]
  by_cases e : k = j
  · subst e; simp [hk]
  · have : ¬ j = k := fun h => e h.symm
    simp [e, this]
theorem J6.put {n : Nat} {pl : List Int} {ed : List (Nat × Nat)} (h : J6 n pl ed) {k a : Nat} (hk : k < n) : J6 n (pl.set k (a : Int)) ((k, a) :: ed) := by
  refine ⟨by rw [List.length_set]; exact h.len, fun j hj => ?_⟩
  rw [Gb (by rw [h.len]; exact hk)]
  unfold J5
  rw [List.lookup_cons]
  by_cases e : j = k
  · subst e; simp
  · have : (j == k) = false := by simp [e]
    rw [if_neg e, this, h.at_ j hj]
    rfl
theorem Way.back {ps : List (Int × Int)} {z0 : Int} {w : List Int} (h : Way ps z0 w z0) (hl : 0 < w.length) : ¬ Ends ps z0 := fun ⟨k, hk⟩ => by
  obtain ⟨j, hj, h2⟩ := h.long hk
  have := fY.uniq hk h2
  omega
end Go.Proofs.YtkiedlmhocglhaaGreat
end
section
namespace Go.Proofs.YtkiedlmhocglhaaGreat
open Go.RowKit Go.Maps
structure xU (ns : List aL) (i j : Nat) : Prop where
  J7 : i < ns.length
  yI : j < (nd ns i).ai.length
  dir : (nd ns (tgt ns (ent ns i j).id)).kind = 2
section
variable {ns : List aL}
theorem o6 {i m : Nat} {p : Nat × Nat} : p ∈ ck ns i m ↔ ∃ j, j < m ∧ (nd ns (tgt ns (ent ns i j).id)).kind = 2 ∧ p = (tgt ns (ent ns i j).id, i) := by
  induction m with
  | zero => simp [ck]
  | succ m ih =>
    by_cases h : (nd ns (tgt ns (ent ns i m).id)).kind = 2
    · rw [mo h, List.mem_cons, ih]
      refine ⟨fun hp => ?_, fun ⟨j, hj, h1, h2⟩ => ?_⟩
      · rcases hp with rfl | ⟨j, hj, h1, h2⟩
        · exact ⟨m, Nat.lt_succ_self m, h, rfl⟩
        · exact ⟨j, Nat.lt_succ_of_lt hj, h1, h2⟩
      · rcases Nat.lt_succ_iff_lt_or_eq.1 hj with e | e
        · exact .inr ⟨j, e, h1, h2⟩
        · subst e; exact .inl h2
    · rw [pJ h, ih]
      refine ⟨fun ⟨j, hj, h1⟩ => ⟨j, Nat.lt_succ_of_lt hj, h1⟩, fun ⟨j, hj, h1, h2⟩ => ?_⟩
      rcases Nat.lt_succ_iff_lt_or_eq.1 hj with e | e
      · exact ⟨j, e, h1, h2⟩
      · subst e; exact absurd h1 h
theorem rH {m : Nat} {p : Nat × Nat} : p ∈ dB ns m ↔ ∃ i j, i < m ∧ j < (nd ns i).ai.length ∧ (nd ns (tgt ns (ent ns i j).id)).kind = 2 ∧ p = (tgt ns (ent ns i j).id, i) := by
  induction m with
  | zero => simp [dB]
  | succ m ih =>
    rw [dB, List.mem_append, o6, ih]
    refine ⟨fun h => ?_, fun ⟨i, j, hi, hj, h1, h2⟩ => ?_⟩
    · rcases h with ⟨j, hj, h1, h2⟩ | ⟨i, j, hi, h⟩
      · exact ⟨m, j, Nat.lt_succ_self m, hj, h1, h2⟩
      · exact ⟨i, j, Nat.lt_succ_of_lt hi, h⟩
    · rcases Nat.lt_succ_iff_lt_or_eq.1 hi with e | e
      · exact .inr ⟨i, j, e, hj, h1, h2⟩
      · subst e; exact .inl ⟨j, hj, h1, h2⟩
theorem xU.mem {i j : Nat} (h : xU ns i j) : (tgt ns (ent ns i j).id, i) ∈ dB ns ns.length := rH.2 ⟨i, j, h.J7, h.yI, h.dir, rfl⟩
def G9 (ns : List aL) (m : Nat) : Prop := ∀ i j i' j', xU ns i j → xU ns i' j' → i < m → i' < m → tgt ns (ent ns i j).id = tgt ns (ent ns i' j').id → i = i' ∧ j = j'
theorem EB {i m : Nat} (h : ((ck ns i m).map Prod.fst).Nodup) : ∀ j j', j < m → j' < m → (nd ns (tgt ns (ent ns i j).id)).kind = 2 → (nd ns (tgt ns (ent ns i j').id)).kind = 2 → tgt ns (ent ns i j).id = tgt ns (ent ns i j').id → j = j' := by
  induction m with
  | zero => intro j j' hj; omega
  | succ m ih =>
    intro j j' hj hj' hk hk' e
    by_cases hm : (nd ns (tgt ns (ent ns i m).id)).kind = 2
    · rw [mo hm, List.map_cons, List.nodup_cons] at h
      rcases Nat.lt_succ_iff_lt_or_eq.1 hj with e1 | e1
      · rcases Nat.lt_succ_iff_lt_or_eq.1 hj' with e2 | e2
        · exact ih h.2 j j' e1 e2 hk hk' e
        · subst e2; exact absurd (List.mem_map.2 ⟨_, o6.2 ⟨j, e1, hk, rfl⟩, e⟩) h.1
      · rcases Nat.lt_succ_iff_lt_or_eq.1 hj' with e2 | e2
        · subst e1; exact absurd (List.mem_map.2 ⟨_, o6.2 ⟨j', e2, hk', rfl⟩, e.symm⟩) h.1
        · omega
    · rw [pJ hm] at h
      rcases Nat.lt_succ_iff_lt_or_eq.1 hj with e1 | e1
      · rcases Nat.lt_succ_iff_lt_or_eq.1 hj' with e2 | e2
        · exact ih h j j' e1 e2 hk hk' e
        · subst e2; exact absurd hk' hm
      · subst e1; exact absurd hk hm
theorem EC {m : Nat} (h : ((dB ns m).map Prod.fst).Nodup) : G9 ns m := by
  induction m with
  | zero => intro i j i' j' _ _ hi; omega
  | succ m ih =>
    rw [dB, List.map_append] at h
    obtain ⟨h1, h2, h3⟩ := List.nodup_append.1 h
    intro i j i' j' g g' hi hi' e
    rcases Nat.lt_succ_iff_lt_or_eq.1 hi with e1 | e1
    · rcases Nat.lt_succ_iff_lt_or_eq.1 hi' with e2 | e2
      · exact ih h2 i j i' j' g g' e1 e2 e
      · subst e2
        exact absurd e.symm (h3 _ (List.mem_map.2 ⟨_, o6.2 ⟨j', g'.yI, g'.dir, rfl⟩, rfl⟩) _ (List.mem_map.2 ⟨_, rH.2 ⟨i, j, e1, g.yI, g.dir, rfl⟩, rfl⟩))
    · rcases Nat.lt_succ_iff_lt_or_eq.1 hi' with e2 | e2
      · subst e1
        exact absurd e (h3 _ (List.mem_map.2 ⟨_, o6.2 ⟨j, g.yI, g.dir, rfl⟩, rfl⟩) _ (List.mem_map.2 ⟨_, rH.2 ⟨i', j', e2, g'.yI, g'.dir, rfl⟩, rfl⟩))
      · subst e1; subst e2
        exact ⟨rfl, EB h1 j j' g.yI g'.yI g.dir g'.dir e⟩
def BU (ns : List aL) (d : Nat → Nat) : Prop := ∀ i j, xU ns i j → d i < d (tgt ns (ent ns i j).id)
theorem bR.uniq (h : bR ns) : G9 ns ns.length := EC h.nodup
theorem bR.deep (h : bR ns) : ∃ d, BU ns d := by
  refine ⟨fun k => Classical.choose (h.ends (nd ns k).id), fun i j g => ?_⟩
  have hp := vA (ns := ns) (Nat.le_refl _) h.ai
  have hat := (h.ai i g.J7 j g.yI).at_
  have htl := kr hat
  have e1 := Classical.choose_spec (h.ends (nd ns i).id)
  have e2 := Classical.choose_spec (h.ends (nd ns (tgt ns (ent ns i j).id)).id)
  show Classical.choose (h.ends (nd ns i).id) < Classical.choose (h.ends (nd ns (tgt ns (ent ns i j).id)).id)
  generalize Classical.choose (h.ends (nd ns i).id) = x at e1 ⊢
  generalize Classical.choose (h.ends (nd ns (tgt ns (ent ns i j).id)).id) = y at e2 ⊢
  cases hu : up ((dB ns ns.length).map (eU ns)) (nd ns (tgt ns (ent ns i j).id)).id with
  | none =>
    have := Br hu
    exact absurd (List.mem_map.2 ⟨_, g.mem, rfl⟩) this
  | some z =>
    obtain ⟨_, p, g1, g2, g3⟩ := Bt h.rise htl.1 (fun p hp' => (hp p hp').1) hu
    obtain ⟨a, b, ha, hb, hk, rfl⟩ := rH.1 g1
    have g2 : tgt ns (ent ns a b).id = tgt ns (ent ns i j).id := g2
    obtain ⟨rfl, rfl⟩ := h.uniq a b i j ⟨ha, hb, hk⟩ g ha g.J7 g2
    have g3 : z = (nd ns a).id := g3
    cases y with
    | zero =>
      have e2 : up _ _ = none := e2
      rw [hu] at e2; cases e2
    | succ y =>
      obtain ⟨z', h1, h2⟩ := e2
      rw [hu] at h1
      cases h1
      rw [g3] at h2
      have := e1.uniq h2
      show x < y + 1
      omega
end
end Go.Proofs.YtkiedlmhocglhaaGreat
end
section
namespace Go.Proofs.YtkiedlmhocglhaaGreat
open Go.RowKit Go.Maps HeapM TabM
structure ug (X : FM) : Prop where
  cN : 0 ≤ X.cN ∧ X.cN ≤ 4096
  cB : 0 ≤ X.cB ∧ X.cB ≤ 1099511627776
  cH : 0 ≤ X.cH ∧ X.cH ≤ 1024
  now : cL X.cS X.cZ
def dM (n : aL) : Nat := n.id.toNat
def lU (n : aL) : Th := ⟨dM n, n.kind⟩
def nC (n : aL) : aM := ⟨n.id, n.mode, n.uid, n.gid, n.sec, n.nano, 0, 0, false, n.kind, n.data, n.target, [], none⟩
def KZ : aM := ⟨0, 0, 0, 0, 0, 0, 0, 0, false, 0, [], ⟨#[]⟩, [], none⟩
def eM (X : FM) : aH := ⟨{ X with last := 0, ai := 0, used := 0 }, fun _ => KZ, [], [], 0⟩
def aX (S : aH) (n : aL) : aH := { S with X := { S.X with last := n.id, used := S.X.used + n.data.length }, O := aB S.O (dM n) (fun _ => nC n), idx := ins n.id (lU n) S.idx }
def ja (ns : List aL) (e : jb) : Th := lU (nd ns (tgt ns e.id))
def iY (ns : List aL) (S : aH) (n : aL) (e : jb) : aH := { S with X := { S.X with ai := S.X.ai + 1 }, O := lK S.O (dM n) e.name (ja ns e) }
def o7 (ns : List aL) : Nat → Nat
  | 0 => 0
  | k + 1 => o7 ns k + (nd ns k).data.length
def xV (ns : List aL) : Used Th := ns.map (fun n => (n.id, lU n))
structure jF (X : FM) (ns : List aL) (k : Nat) (S : aH) : Prop where
  inv : Inv0 S
  idx : S.idx = xV (ns.take k)
  us : S.us = []
  au : S.au = 0
  cap : S.X = { X with last := gH ns k, ai := 0, used := (o7 ns k : Int) }
  ob : ∀ a, a < k → obj S.O (dM (nd ns a)) = nC (nd ns a)
section base
variable {X : FM} {ns : List aL} {i j k a b : Nat} {S : aH}
theorem tF (h : bR ns) (hk : k < ns.length) : (dM (nd ns k) : Int) = (nd ns k).id := by
  have := h.ids k hk
  unfold dM; omega
theorem ou (h : bR ns) (ha : a < ns.length) (hb : b < ns.length) (e : dM (nd ns a) = dM (nd ns b)) : a = b :=
  h.rise.inj ha hb (by rw [← tF h ha, ← tF h hb, e])
theorem tG (hk : k < ns.length) : ns[k]? = some (nd ns k) := getD_some hk
theorem Ia (hk : k < ns.length) : ns.take (k + 1) = ns.take k ++ [nd ns k] := by
  rw [List.take_add_one, tG hk]; rfl
theorem ED (hX : ug X) : jF X ns 0 (eM X) := by
  refine ⟨?_, rfl, rfl, rfl, rfl, fun a h => absurd h (Nat.not_lt_zero a)⟩
  have hn : ∀ t, ¬ Live ([] : Used Th) t := fun t h => by cases h
  exact ⟨hX.cN, hX.cB, hX.cH, hX.now, by show (0 : Int) ≤ 0 ∧ (0 : Int) ≤ _; omega, .nil, Nat.zero_le _, fun _ _ e => (by cases e), fun t h => absurd h (hn t), fun t h => absurd h (hn t), fun t h => absurd h (hn t), fun t h => absurd h (hn t),
    fun _ _ => ⟨rfl, rfl⟩, fun _ _ => rfl, ⟨rfl, by show (0 : Int) ≤ 8192; omega⟩, fun t h => absurd h (hn t), fun t h => absurd h (hn t), fun t h => absurd h (hn t), .nil, fun x hx => (by cases hx), (by show ((0 : Nat) : Int) ≤ X.cH; have := hX.cH; omega), ⟨Int.le_refl _, hX.cH.1⟩, fun _ _ e => (by cases e), fun t h => absurd h (hn t), fun t h => absurd h (hn t), ⟨fun _ => 0, fun k d e => (by cases e)⟩, ⟨rfl, by show (0 : Int) ≤ _; omega⟩⟩
theorem BV (h : bR ns) (hk : k < ns.length) : ∀ x ∈ keys (xV (ns.take k)), x < (nd ns k).id := by
  intro x hx
  obtain ⟨p, hp, rfl⟩ := List.mem_map.1 hx
  obtain ⟨n, hn, rfl⟩ := List.mem_map.1 hp
  obtain ⟨a, ha, e⟩ := List.mem_iff_getElem.1 hn
  rw [List.length_take] at ha
  rw [List.getElem_take] at e
  have e2 : nd ns a = n := by
    have := tG (ns := ns) (k := a) (by omega)
    rw [List.getElem?_eq_getElem (by omega), e] at this
    exact (Option.some.inj this).symm
  rw [← e2]
  exact h.rise a k (by omega) hk
theorem yJ (hd : ∀ i, i < ns.length → (nd ns i).data.length ≤ 1048576) (hk : k ≤ ns.length) : o7 ns k ≤ 1048576 * k := by
  induction k with
  | zero => exact Nat.le_refl _
  | succ k ih =>
    have h1 := ih (by omega)
    have h2 := hd k hk
    show o7 ns k + (nd ns k).data.length ≤ _
    omega
theorem tH (h : bR ns) (hd : ∀ i, i < ns.length → (nd ns i).data.length ≤ 1048576) (hk : k < ns.length) (hB : jF X ns k S) : jF X ns (k + 1) (aX S (nd ns k)) := by
  have hs := yJ hd (Nat.le_of_lt hk)
  have hn := h.node k hk
  have hid := tF h hk
  have Gc := h.ids k hk
  have hu : S.X.used = (o7 ns k : Int) := by rw [hB.cap]
  have hl : S.X.last = gH ns k := by rw [hB.cap]
  have hlen := h.len
  have hdk := hd k hk
  have Nr : S.idx.length = k := by
    rw [hB.idx]; unfold xV; rw [List.length_map, List.length_take]; omega
  have h1 := hB.inv.newAt (k0 := dM (nd ns k)) (o := nC (nd ns k)) (iQ := S.X.used + (nd ns k).data.length) (us' := S.us) (dY := S.au) (by rw [hid, hl]; exact h.last hk) (by rw [hid]; exact Gc.2) ⟨rfl, by rw [hu]; omega⟩ hid.symm
    (by have := hn.kind; show (nd ns k).kind = 1 ∨ (nd ns k).kind = 2 ∨ (nd ns k).kind = 3; omega) rfl rfl rfl rfl
    ⟨hn.mode, hn.uid, hn.gid, hn.time, fun e => List.eq_nil_of_length_eq_zero (hn.data e), fun _ => rfl, hn.target⟩ (by omega)
    hB.inv.usr hB.inv.sP hB.inv.yC hB.inv.au (fun h t e => ⟨.inl (hB.inv.us h t e).1, (hB.inv.us h t e).2⟩) (fun _ _ => rfl) (by rw [hB.us]; rfl)
  rw [hid] at h1
  refine ⟨h1, ?_, hB.us, hB.au, ?_, fun a ha => ?_⟩
  · show ins (nd ns k).id (lU (nd ns k)) S.idx = _
    rw [hB.idx, Fj (BV h hk), Ia hk]
    unfold xV; rw [List.map_append]; rfl
  · show ({ S.X with last := (nd ns k).id, used := S.X.used + ((nd ns k).data.length : Int) } : FM) = _
    rw [hu, hB.cap]
    show (⟨_, _, _, _, _, _, _, _⟩ : FM) = ⟨_, _, _, _, _, _, _, _⟩
    congr 1
  · show obj (aB S.O (dM (nd ns k)) (fun _ => nC (nd ns k))) (dM (nd ns a)) = _
    rcases Nat.lt_succ_iff_lt_or_eq.1 ha with e | e
    · rw [bP (fun e2 => by have := ou h (by omega) hk e2; omega)]
      exact hB.ob a e
    · subst e; exact bA
theorem jF.fresh (h : bR ns) (hk : k < ns.length) (hB : jF X ns k S) : pX S.O S.idx S.us (dM (nd ns k)) := hB.inv.xA (by rw [tF h hk, hB.cap]; exact h.last hk)
theorem jF.new (h : bR ns) (hk : k < ns.length) (hB : jF X ns k S) : TabM.get S.idx (nd ns k).id = none := get_none.2 (fun hm => by
  rw [hB.idx] at hm
  exact absurd (BV h hk _ hm) (by omega))
theorem vB (X : FM) (L : HL) : (∀ k, aS (eM X).O L k = bJ.none) ∧ (∀ k, aY (eM X).O L k = bJ.none) ∧ ∀ k, bw (eM X).O L k = bJ.none := ⟨fun _ => if_pos rfl, fun _ => if_neg (by show ¬ (0 : Int) = 1; omega), fun _ => if_neg (by show ¬ (0 : Int) = 2; omega)⟩
theorem Sat.K1 {β : Bs} {l l' : List HP} {w : World} {i j b m c : Nat} {ix : List Nat} {O : bM} {L L' : HL} {A : Option Addr} {o : aM} (h : Sat β l w) (hL : L' = L.put k b m A c) (hp : l[i]? = some (.abs (aq (aY O L)))) (hq : l[j]? = some (.abs (aF 5 1 A o.data.length c (bD o.data)))) (hd : br (i :: j :: ix) = true) (hl : bI l ix = some l') (h1 : o.kind = 1) : Sat β (.abs (aq (aY (aB O k (fun _ => o)) L')) :: l') w := by
  refine h.nV hp hq (fun _ _ h => h) hd hl k (fun x hx => by rw [sB hx, t8 hL hx]) ?_
  rw [oI (by rw [bA]; exact h1), bA]
  subst hL
  simp only [HL.put, if_true]
end base
theorem Ib {O : bM} {L : HL} {d : Nat} {name : ByteArray} {t : Th} : aY (lK O d name t) L = aY O L :=
  oR (fun _ => uW (g := aM.data) (fun _ _ => rfl) (fun _ _ => rfl) (fun _ _ => rfl)) (fun _ => sD)
def jV (ns : List aL) (i j a : Nat) : Nat := if a < i then (nd ns a).ai.length else if a = i then j else 0
def lV (ns : List aL) (a m : Nat) : dD Th := ((nd ns a).ai.take m).map (fun e => (e.name, ja ns e))
structure dP (X : FM) (ns : List aL) (i j : Nat) (S : aH) : Prop where
  inv : Inv0 S
  idx : S.idx = xV ns
  us : S.us = []
  au : S.au = 0
  cap : S.X = { X with last := gH ns ns.length, ai := ((cr ns i + j : Nat) : Int), used := (o7 ns ns.length : Int) }
  ob : ∀ a, a < ns.length → ∃ l u, obj S.O (dM (nd ns a)) = { nC (nd ns a) with links := l, ai := lV ns a (jV ns i j a), up := u }
section ai
variable {X : FM} {ns : List aL} {i j k a b m : Nat} {S : aH} {t : Th}
theorem jF.ai (h : jF X ns ns.length S) : dP X ns 0 0 S := by
  refine ⟨h.inv, by rw [h.idx, List.take_of_length_le (Nat.le_refl _)], h.us, h.au, h.cap, fun a ha => ⟨0, none, ?_⟩⟩
  rw [h.ob a ha]
  have : jV ns 0 0 a = 0 := by
    unfold jV; rw [if_neg (Nat.not_lt_zero a)]; split <;> rfl
  rw [this]; rfl
theorem dP.get (h : dP X ns i j S) (ha : a < ns.length) : TabM.get S.idx (nd ns a).id = some (lU (nd ns a)) := by
  refine lg h.inv.rise ?_
  rw [h.idx]
  exact List.mem_map.2 ⟨nd ns a, List.mem_of_getElem? (tG ha), rfl⟩
theorem dP.live (hG : bR ns) (h : dP X ns i j S) (ha : a < ns.length) : Live S.idx (lU (nd ns a)) := by
  have := h.get ha
  rw [← tF hG ha] at this
  exact this
theorem dP.of (h : dP X ns i j S) {x : Int} (e : TabM.get S.idx x = some t) : ∃ a, a < ns.length ∧ t = lU (nd ns a) := by
  have hm := get_mem e
  rw [h.idx] at hm
  obtain ⟨n, hn, e2⟩ := List.mem_map.1 hm
  obtain ⟨a, ha, e3⟩ := List.mem_iff_getElem.1 hn
  have e4 : nd ns a = n := by
    have := tG ha
    rw [List.getElem?_eq_getElem ha, e3] at this
    exact (Option.some.inj this).symm
  cases e2
  exact ⟨a, ha, by rw [e4]⟩
theorem AL {es : List jb} {q : Nat} (hq : q < es.length) : es[q]? = some (en es q) := getD_some hq
theorem rI {e : ByteArray × Th} (h : e ∈ lV ns a m) : ∃ q, q < m ∧ q < (nd ns a).ai.length ∧ e.1 = (ent ns a q).name ∧ e.2 = ja ns (ent ns a q) := by
  obtain ⟨x, hx, rfl⟩ := List.mem_map.1 h
  obtain ⟨q, hq, e⟩ := List.mem_iff_getElem.1 hx
  rw [List.length_take] at hq
  rw [List.getElem_take] at e
  have e2 : ent ns a q = x := by
    have := AL (es := (nd ns a).ai) (q := q) (by omega)
    rw [List.getElem?_eq_getElem (by omega), e] at this
    exact (Option.some.inj this).symm
  exact ⟨q, by omega, by omega, by rw [e2], by rw [e2]⟩
theorem EF (hj : j < (nd ns i).ai.length) : lV ns i (j + 1) = lV ns i j ++ [((ent ns i j).name, ja ns (ent ns i j))] := by
  unfold lV
  rw [List.take_add_one, AL hj, List.map_append]; rfl
theorem xW (hG : bR ns) (hi : i < ns.length) {q : Nat} : ∀ {j}, q < j → j < (nd ns i).ai.length → kL (ent ns i q).name (ent ns i j).name < 0
  | 0, h, _ => absurd h (Nat.not_lt_zero q)
  | j + 1, h, hj => by
    have h1 := oU.1 (hG.ai i hi (j + 1) hj).ord
    have h1 : kL (ent ns i j).name (ent ns i (j + 1)).name < 0 := h1
    rcases Nat.lt_succ_iff_lt_or_eq.1 h with e | e
    · exact vO (xW hG hi e (by omega)) (Int.le_of_lt h1)
    · rw [e]; exact h1
theorem Gd (hG : bR ns) (hi : i < ns.length) (hj : j < (nd ns i).ai.length) : aT (ent ns i j).name (lV ns i j) = none := by
  refine lG.2 (fun e he e1 => ?_)
  obtain ⟨q, h1, h2, h3, _⟩ := rI he
  have := xW hG hi h1 hj
  rw [← h3, e1] at this
  have h4 := yj (ent ns i j).name
  omega
theorem yK {n : ByteArray} : ∀ {es : dD Th}, (∀ e ∈ es, kL e.1 n < 0) → dN n t es = es ++ [(n, t)]
  | [], _ => rfl
  | e :: r, h => by
    have h1 := h e (List.mem_cons_self ..)
    unfold dN
    rw [if_neg (fun hc => by have := oU.1 hc; have := si e.1 n; omega), yK (fun x hx => h x (List.mem_cons_of_mem _ hx))]; rfl
theorem Ge (hG : bR ns) (hi : i < ns.length) (hj : j < (nd ns i).ai.length) : dN (ent ns i j).name (ja ns (ent ns i j)) (lV ns i j) = lV ns i (j + 1) := by
  rw [EF hj]
  refine yK (fun e he => ?_)
  obtain ⟨q, h1, _, h3, _⟩ := rI he
  rw [h3]
  exact xW hG hi h1 hj
theorem o8 (hG : bR ns) (hi : i < ns.length) (hj : j < (nd ns i).ai.length) : tgt ns (ent ns i j).id < ns.length ∧ (nd ns (tgt ns (ent ns i j).id)).id = (ent ns i j).id := by
  have := kr (hG.ai i hi j hj).at_
  exact ⟨this.1, this.2.1⟩
theorem BW {O : bM} {d x : Nat} {name : ByteArray} (h : t.k ≠ d) : obj (lK O d name t) x = if x = d then { obj O d with ai := dN name t (obj O d).ai } else if x = t.k then { obj O x with links := (obj O x).links + 1, up := if t.kind = 2 then some d else (obj O x).up } else obj O x := by
  have key : ∀ O2 : bM, O2 = aB (aB O d (fun o => { o with ai := dN name t o.ai })) t.k (fun o => { o with links := o.links + 1 }) → obj (if t.kind = 2 then aB O2 t.k (fun o => { o with up := some d }) else O2) x = if x = d then { obj O d with ai := dN name t (obj O d).ai } else if x = t.k then { obj O x with links := (obj O x).links + 1, up := if t.kind = 2 then some d else (obj O x).up } else obj O x := by
    intro O2 e
    by_cases hk : t.kind = 2
    · rw [if_pos hk, if_pos hk, iz, e, iz, iz]
      by_cases e1 : x = d
      · subst e1; rw [if_neg (fun e => h e.symm), if_neg (fun e => h e.symm), if_pos rfl, if_pos rfl]
      · by_cases e2 : x = t.k
        · rw [if_pos e2, if_pos e2, if_neg e1, if_neg e1, if_pos e2]
        · rw [if_neg e2, if_neg e2, if_neg e1, if_neg e1, if_neg e2]
    · rw [if_neg hk, if_neg hk, e, iz, iz]
      by_cases e1 : x = d
      · subst e1; rw [if_neg (fun e => h e.symm), if_pos rfl, if_pos rfl]
      · by_cases e2 : x = t.k
        · rw [if_pos e2, if_neg e1, if_neg e1, if_pos e2]
        · rw [if_neg e2, if_neg e1, if_neg e1, if_neg e2]
  exact key _ rfl
theorem dP.Mi (hG : bR ns) (h : dP X ns i j S) {d : Nat} (hd : Live S.idx ⟨d, 2⟩) {n : ByteArray} (ha : a < ns.length) (hk : (nd ns a).kind = 2) (hl : aT n (obj S.O d).ai = some (lU (nd ns a))) : ∃ b q, b < ns.length ∧ d = dM (nd ns b) ∧ xU ns b q ∧ tgt ns (ent ns b q).id = a := by
  obtain ⟨b, hb, e⟩ := h.of hd
  have e : (⟨d, 2⟩ : Th) = ⟨dM (nd ns b), (nd ns b).kind⟩ := e
  have e1 : d = dM (nd ns b) := congrArg Th.k e
  subst e1
  obtain ⟨l, u, ho⟩ := h.ob b hb
  have hm := jK hl
  rw [ho] at hm
  obtain ⟨q, h1, h2, _, h4⟩ := rI hm
  have ht := o8 hG hb h2
  have h5 : dM (nd ns a) = dM (nd ns (tgt ns (ent ns b q).id)) := congrArg Th.k h4
  have h6 := ou hG ha ht.1 h5
  exact ⟨b, q, hb, rfl, ⟨hb, h2, by rw [← h6]; exact hk⟩, h6.symm⟩
theorem dP.below (hG : bR ns) (h : dP X ns i j S) {dp : Nat → Nat} (hdp : BU ns dp) {s k : Nat} (hb : gJ S.O s k) : ∀ {a b}, a < ns.length → k = dM (nd ns a) → b < ns.length → s = dM (nd ns b) → dp b ≤ dp a := by
  induction hb with
  | here =>
    intro a b ha e1 hb e2
    have := ou hG ha hb (by rw [← e1, ← e2])
    rw [this]; exact Nat.le_refl _
  | up hup _ ih =>
    intro a b ha e1 hb e2
    subst e1
    have hlv := h.live hG ha
    obtain ⟨h1, h2, n, h3⟩ := (h.inv.up _ hlv _).1 hup
    obtain ⟨c, q, hc, e3, hD, e4⟩ := h.Mi hG h2 ha h1 h3
    have h5 := hdp c q hD
    rw [e4] at h5
    have := ih hc e3 hb e2
    omega
theorem dP.links (hG : bR ns) (h : dP X ns i j S) (hi : i < ns.length) (hj : j < (nd ns i).ai.length) (hk : (ja ns (ent ns i j)).kind = 2) : (obj S.O (ja ns (ent ns i j)).k).links = 0 := by
  have ht := o8 hG hi hj
  have hlv : Live S.idx (ja ns (ent ns i j)) := h.live hG ht.1
  rw [h.inv.links _ hlv]
  cases hz : fH S.idx S.O (ja ns (ent ns i j)).k with
  | zero => rfl
  | succ z =>
    exfalso
    obtain ⟨x, u, hu, e, he, e1⟩ := wi h.inv.rise (show 0 < fH S.idx S.O (ja ns (ent ns i j)).k by omega)
    obtain ⟨b, hb, rfl⟩ := h.of hu
    obtain ⟨l, u, ho⟩ := h.ob b hb
    have he : e ∈ (obj S.O (dM (nd ns b))).ai := he
    rw [ho] at he
    obtain ⟨q, h1, h2, _, h4⟩ := rI he
    have ht2 := o8 hG hb h2
    have h5 : dM (nd ns (tgt ns (ent ns b q).id)) = dM (nd ns (tgt ns (ent ns i j).id)) := by
      rw [h4] at e1; exact e1
    have h6 := ou hG ht2.1 ht.1 h5
    obtain ⟨rfl, rfl⟩ := hG.uniq b q i j ⟨hb, h2, by rw [h6]; exact hk⟩ ⟨hi, hj, hk⟩ hb hi h6
    unfold jV at h1
    rw [if_neg (Nat.lt_irrefl _), if_pos rfl] at h1
    omega
theorem dP.look (hG : bR ns) (h : dP X ns i j S) (hi : i < ns.length) (hj : j < (nd ns i).ai.length) : (obj S.O (dM (nd ns i))).ai = lV ns i j ∧ aT (ent ns i j).name (obj S.O (dM (nd ns i))).ai = none ∧ (nd ns i).kind = 2 := by
  obtain ⟨l, u, ho⟩ := h.ob i hi
  have e1 : (obj S.O (dM (nd ns i))).ai = lV ns i j := by
    rw [ho]
    show lV ns i (jV ns i j i) = _
    unfold jV; rw [if_neg (Nat.lt_irrefl _), if_pos rfl]
  refine ⟨e1, by rw [e1]; exact Gd hG hi hj, ?_⟩
  cases Decidable.em ((nd ns i).kind = 2) with
  | inl h => exact h
  | inr h => have := (hG.node i hi).ai h; omega
theorem dP.gone (h : dP X ns i j S) (ha : a < ns.length) : (obj S.O (dM (nd ns a))).gone = false := by
  obtain ⟨l, u, ho⟩ := h.ob a ha
  rw [ho]; rfl
theorem dP.ne (hG : bR ns) (hi : i < ns.length) (hj : j < (nd ns i).ai.length) (hk : (nd ns i).kind = 2) : (ja ns (ent ns i j)).k ≠ dM (nd ns i) := fun e => by
  have ht := o8 hG hi hj
  have h1 := ou hG ht.1 hi e
  obtain ⟨dp, hdp⟩ := hG.deep
  have := hdp i j ⟨hi, hj, by rw [h1]; exact hk⟩
  rw [h1] at this
  exact Nat.lt_irrefl _ this
theorem dP.step (hG : bR ns) (h : dP X ns i j S) (hi : i < ns.length) (hj : j < (nd ns i).ai.length) : dP X ns i (j + 1) (iY ns S (nd ns i) (ent ns i j)) := by
  obtain ⟨l1, l2, l3⟩ := h.look hG hi hj
  have ht := o8 hG hi hj
  have hne := dP.ne hG hi hj l3
  have hld : Live S.idx ⟨dM (nd ns i), 2⟩ := by
    have := h.live hG hi
    unfold lU at this
    rw [l3] at this
    exact this
  have hlt : Live S.idx (ja ns (ent ns i j)) := h.live hG ht.1
  have hX : S.X.ai = ((cr ns i + j : Nat) : Int) := by rw [h.cap]
  have hsum : cr ns i + j < 8192 := by
    have h1 : cr ns (i + 1) ≤ cr ns ns.length := qp hi
    have h2 : cr ns (i + 1) = cr ns i + (nd ns i).ai.length := rfl
    have h3 := hG.sum
    omega
  have h1 := h.inv.put (O' := lK S.O (dM (nd ns i)) (ent ns i j).name (ja ns (ent ns i j))) (ta := (obj S.O (dM (nd ns i))).sec) (tb := (obj S.O (dM (nd ns i))).nano) hld (h.gone hi) l2 (hG.ai i hi j hj).good hlt (h.gone ht.1) (fun hk => ⟨h.links hG hi hj hk, fun hb => by
      obtain ⟨dp, hdp⟩ := hG.deep
      have h2 := h.below hG hdp hb hi rfl ht.1 rfl
      have h3 := hdp i j ⟨hi, hj, hk⟩
      omega⟩) hne (by rw [hX]; omega) (h.inv.mt _ hld).time (fun x => BW hne)
  refine ⟨h1, h.idx, h.us, h.au, ?_, fun a ha => ?_⟩
  · show ({ S.X with ai := S.X.ai + 1 } : FM) = _
    rw [hX, h.cap]
    show (⟨_, _, _, _, _, _, _, _⟩ : FM) = ⟨_, _, _, _, _, _, _, _⟩
    congr 1
  · obtain ⟨l, u, ho⟩ := h.ob a ha
    show ∃ l u, obj (lK S.O (dM (nd ns i)) (ent ns i j).name (ja ns (ent ns i j))) (dM (nd ns a)) = _
    rw [BW hne]
    by_cases e : a = i
    · subst e
      refine ⟨l, u, ?_⟩
      rw [if_pos rfl, l1, Ge hG hi hj, ho]
      have hc : jV ns a (j + 1) a = j + 1 := by unfold jV; rw [if_neg (Nat.lt_irrefl _), if_pos rfl]
      rw [hc]
    · have hc : jV ns i (j + 1) a = jV ns i j a := by
        unfold jV; rw [if_neg e, if_neg e]
      rw [if_neg (fun e2 => e (ou hG ha hi e2)), hc]
      split
      · rw [ho]; exact ⟨_, _, rfl⟩
      · exact ⟨l, u, ho⟩
theorem dP.next (h : dP X ns i (nd ns i).ai.length S) : dP X ns (i + 1) 0 S := by
  refine ⟨h.inv, h.idx, h.us, h.au, h.cap, fun a ha => ?_⟩
  obtain ⟨l, u, ho⟩ := h.ob a ha
  refine ⟨l, u, ?_⟩
  rw [ho]
  have : jV ns (i + 1) 0 a = jV ns i (nd ns i).ai.length a := by
    unfold jV
    by_cases e : a = i
    · subst e; rw [if_pos (by omega), if_neg (by omega), if_pos rfl]
    · by_cases e2 : a < i
      · rw [if_pos (by omega), if_pos e2]
      · rw [if_neg (by omega), if_neg e2, if_neg e]; split <;> rfl
  rw [this]
theorem dP.full (h : dP X ns i j S) : Inv S := by
  refine ⟨h.inv, fun t ht hg => ?_⟩
  obtain ⟨a, ha, rfl⟩ := h.of ht
  have : (obj S.O (dM (nd ns a))).gone = true := hg
  rw [h.gone ha] at this
  cases this
theorem dP.graph (hG : bR ns) (h : dP X ns ns.length 0 S) : aP S = ns := by
  unfold aP
  rw [h.idx]
  unfold xV
  rw [List.map_map]
  refine List.ext_getElem? (fun a => ?_)
  rw [List.getElem?_map]
  by_cases ha : a < ns.length
  · rw [tG ha]
    refine congrArg some ?_
    show rB S.O (nd ns a).id ⟨dM (nd ns a), (nd ns a).kind⟩ = nd ns a
    unfold rB
    obtain ⟨l, u, ho⟩ := h.ob a ha
    rw [ho]
    have he : (lV ns a (jV ns ns.length 0 a)).map (iX S.O) = (nd ns a).ai := by
      unfold jV
      rw [if_pos ha]
      unfold lV
      rw [List.take_of_length_le (Nat.le_refl _), List.map_map]
      refine List.ext_getElem? (fun q => ?_)
      rw [List.getElem?_map]
      by_cases hq : q < (nd ns a).ai.length
      · rw [AL hq]
        refine congrArg some ?_
        have ht := o8 hG ha hq
        obtain ⟨l, u, ho⟩ := h.ob _ ht.1
        have e1 : (obj S.O (ja ns (en (nd ns a).ai q)).k).id = (en (nd ns a).ai q).id := by
          show (obj S.O (dM (nd ns (tgt ns (ent ns a q).id)))).id = (ent ns a q).id
          rw [ho]; exact ht.2
        show (⟨(en (nd ns a).ai q).name, (obj S.O (ja ns (en (nd ns a).ai q)).k).id⟩ : jb) = _
        rw [e1]
      · rw [List.getElem?_eq_none (by omega)]; rfl
    show (⟨_, _, _, _, _, _, _, _, _, List.map (iX S.O) (lV ns a (jV ns ns.length 0 a))⟩ : aL) = _
    rw [he]
    rfl
  · rw [List.getElem?_eq_none (by omega)]; rfl
end ai
end Go.Proofs.YtkiedlmhocglhaaGreat
end
