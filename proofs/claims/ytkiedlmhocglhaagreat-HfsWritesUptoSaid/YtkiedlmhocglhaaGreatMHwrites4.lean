/-
  PROVED HERE: lemmas and contracts of functions (texts of this repo, joined; what the claim does not use is left out): H5, Hx, H6, Hy, H7, Vg, H8, H9, Vh, HD.
  CONDITIONS: as the theorems say.
-/
import Derived.Test.YtkiedlmhocglhaaGreatMHwrites3
section
namespace Go.Proofs.YtkiedlmhocglhaaGreat
open Go.RowKit Go.Maps HeapM TabM
attribute [local irreducible] ah aI af aj
abbrev z6 (f : Nat) (L : HL) (d : Nat) (name : ByteArray) := ([(61, .pointer (some ⟨f, 0, none⟩)), (62, .pointer (some ⟨(L.b d), 0, none⟩)), (63, .string name)] : Fr)
abbrev z7 (f : Nat) (L : HL) (to : Nat) (toName : ByteArray) := ([(65, .pointer (some ⟨f, 0, none⟩)), (66, .pointer (some ⟨(L.b to), 0, none⟩)), (67, .string toName)] : Fr)
abbrev GR (f : Nat) (L : HL) (d : Nat) (name : ByteArray) (to : Nat) (toName : ByteArray) := ([(0, .pointer (some ⟨f, 0, none⟩)), (1, .pointer (some ⟨(L.b d), 0, none⟩)), (2, .string name), (3, .pointer (some ⟨(L.b to), 0, none⟩)), (4, .string toName)] : Fr)
abbrev rP (L : HL) (to : Nat) (toName : ByteArray) := ([(45, .map (some (L.m to))), (46, .string toName)] : Fr)
abbrev GS (f : Nat) (L : HL) (to : Nat) (toName : ByteArray) := ([(57, .pointer (some ⟨f, 0, none⟩)), (58, .pointer (some ⟨(L.b to), 0, none⟩)), (59, .string toName)] : Fr)
abbrev GU (L : HL) (to : Nat) := ([(12, .pointer none), (13, .bool false), (14, .pointer (some ⟨(L.b to), 0, none⟩))] : Fr)
set_option maxRecDepth 100000 in
set_option maxHeartbeats 4000000 in
theorem CI {β : Bs} (S : aH) (L : HL) (f m t : Nat) (hI : Inv S) (d : Nat) (hd : Live S.idx ⟨d, 2⟩) (name : ByteArray) (hsz : name.size ≤ 1048576) (to : Nat) (hto : Live S.idx ⟨to, 2⟩) (toName : ByteArray) (oV : toName.size ≤ 1048576) :
    Spec Tryz.prog β 126 #[.pointer (some ⟨f, 0, none⟩), .pointer (some ⟨(L.b d), 0, none⟩), .string name, .pointer (some ⟨(L.b to), 0, none⟩), .string toName] (pA f m t L S) (fun v l => ∃ L2, v = .int .i64 (renameM S d name to toName).1 ∧ l = (pA f m t L2 ((renameM S d name to toName).2))) := by
 have hX := hI.hX
 have hel : (obj S.O d).ai.length ≤ 8192 := hI.eG hd
 have hkd : (obj S.O d).kind = 2 := hI.kind hd
 have dg : (obj S.O to).kind = 2 := hI.kind hto
 have Nq : (obj S.O to).ai.length ≤ 8192 := hI.eG hto
 refine Spec.enter Tryz.func126 rfl Tryz.ntmps126 (Nat.le_of_ble_eq_true rfl) (fun R => ?_)
 refine af.seq ?_
 rcases hI.kK hd name with hlk | ⟨tk, hlk, hlv⟩ | ⟨tk, hlk, hlv⟩ | ⟨tk, hlk, hlv⟩
 ·
  refine af.region ?_
  refine gK 1 [] [] ?_
  refine NS ?_
  refine gK 5 [(19, .map (some (L.m d))), (20, .string name)] [(3, v_ 3 (bE L hkd))] ?_
  refine gF 5 hkd hlk ?_
  refine gK 1 [(11, .nilIface)] [] ?_
  refine NN (af.seq (SR ?_))
  refine gK 2 [(23, .bool true)] [] ?_
  refine NN ?_
  refine CT ?_
  refine SR ?_
  refine gK 1 [(10, .int .i64 170)] [] ?_
  refine NN (af.ret (aj.av ?_))
  exact RT (.int .i64 170) [0, 1, 2, 3, 4, 5, 6] (⟨L, by rw [show renameM S d name to toName = (170, S) by unfold renameM; rw [hlk]] <;> exact ⟨rfl, rfl⟩⟩)
 ·
  have hkt : (obj S.O tk).kind = 1 := hI.kind hlv
  refine af.region ?_
  refine gK 1 [] [] ?_
  refine NS ?_
  refine gK 5 [(19, .map (some (L.m d))), (20, .string name)] [(3, v_ 3 (bE L hkd))] ?_
  refine gF 5 hkd hlk ?_
  refine gK 1 [(11, .iface 92 (.pointer (some ⟨(L.b tk), 0, none⟩)))] [] ?_
  refine NN (af.seq (SR ?_))
  refine gK 2 [(23, .bool false)] [] ?_
  refine NN ?_
  refine CF ?_
  refine af.skip (NX (SR ?_))
  refine gK 7 [(12, .pointer none), (13, .bool false)] [] ?_
  refine NN (af.seq (SR ?_))
  refine gK 2 [(14, .pointer (some ⟨(L.b to), 0, none⟩))] [] ?_
  refine NN (af.block ?_)
  refine af.loop (ι := Unit) (fun (u : Unit) => True) (fun (u : Unit) => 0) (fun (u : Unit) => (GR f L d name to toName ++ [(11, .iface 92 (.pointer (some ⟨(L.b tk), 0, none⟩)))] ++ GU L to)) (fun (u : Unit) => ((pA f m t L S) ++ [.abs R])) () (idx := [0, 1, 2, 3, 4, 11, 12, 13, 14]) (pk := [0, 1, 2, 3, 4, 5, 6]) (show True from trivial) (fun _ => by kernel_rfl) rfl (by kernel_rfl) ?_
  rintro u _
  show af _ _ _ _ (GR f L d name to toName ++ [(11, .iface 92 (.pointer (some ⟨(L.b tk), 0, none⟩)))] ++ GU L to) ((pA f m t L S) ++ [.abs R]) _
  refine af.seq (SR ?_)
  refine gK 5 [(34, .bool false)] [] ?_
  refine NN ?_
  refine CF ?_
  refine af.exit (aj.bG (aj.bG (aj.dw (NX (af.seq ?_)))))
  skip
  rcases hI.kK hto toName with bp | ⟨ok, bp, dO⟩ | ⟨ok, bp, dO⟩ | ⟨ok, bp, dO⟩
  ·
   refine af.region ?_
   refine gK 5 (rP L to toName) [(3, v_ 3 (bE L dg))] ?_
   refine gF 5 dg bp ?_
   refine gK 1 [(15, .nilIface)] [] ?_
   refine NN (af.seq (SR ?_))
   refine gK 3 [(50, .bool false)] [] ?_
   refine NN ?_
   refine CF ?_
   refine af.skip (NX (af.seq (SR ?_)))
   refine gK 2 [(52, .bool false)] [] ?_
   refine NN ?_
   refine CF ?_
   refine af.skip (NX (SR ?_))
   have bN : Inv S := hI
   have hd1 := hd
   have dF := hlk
   have mE := bp
   have gT := hto
   have gS : (obj S.O d).kind = 2 := bN.kind hd1
   have mF : (obj S.O to).kind = 2 := bN.kind gT
   have iU : Live S.idx ⟨tk, 1⟩ := (bN.ent hd1 dF).2
   have iV : (obj S.O tk).kind = 1 := bN.kind iU
   have xD : (obj S.O d).ai.length ≤ 8192 := bN.eG hd1
   have xE : (obj S.O to).ai.length ≤ 8192 := bN.eG gT
   have mG := bN.lb iU
   have iW : tk ≠ d := bN.ne hd1 dF
   refine gK 3 (z6 f L d name) [] ?_
   refine gL [0, 3, 5] (gu S.X f m t bN.hX S.O L d gS name hsz ⟨tk, 1⟩ iV (by simp) dF (bN.twice hd1) (by omega) (by simp only at mG ⊢; omega)) ?_
   rintro _ _ ⟨rfl, rfl⟩
   refine NS ?_
   refine gK 4 (z7 f L to toName ++ [(68, .iface 92 (.pointer (some ⟨(L.b tk), 0, none⟩)))]) [] ?_
   refine gL [0, 1, 2] (fo { S.X with ai := S.X.ai - 1 } f m t (bN.uw hd1 dF) (aG S.X S.O d name ⟨tk, 1⟩) L to (bS.trans mF) toName oV (iu iW mE) (Nat.le_trans (jS iW) (by omega)) ⟨tk, 1⟩ (bS.trans iV) (by simp) (iD bN.toInv0 hd1 dF)) ?_
   rintro _ _ ⟨rfl, rfl⟩
   refine NS ?_
   refine ah.mem (aK := [.blk f [.int .i64 (S.X.cN), .int .i64 (S.X.cB), .int .i64 (S.X.cH), .int .i64 (S.X.cS), .int .i64 (S.X.cZ), .map (some m), .pointer (some ⟨t, 0, none⟩), .int .i64 (S.X.last), .int .i64 (S.X.ai - 1 + 1), .int .i64 (S.X.used)] 89, .abs (aq (aS (bh S.X (aG S.X S.O d name ⟨tk, 1⟩) to toName ⟨tk, 1⟩) L)), .abs (aq (bw (bh S.X (aG S.X S.O d name ⟨tk, 1⟩) to toName ⟨tk, 1⟩) L)), .abs (aC Tryz.prog 3 m (aN (aJ L S.idx)) S.idx.length), .abs (aZ 143 t S.X.cH S.au (aJ L S.us)), .abs (aq (aY (bh S.X (aG S.X S.O d name ⟨tk, 1⟩) to toName ⟨tk, 1⟩) L)), .abs R]) (fun w hS => by rw [show aY (bh S.X (aG S.X S.O d name ⟨tk, 1⟩) to toName ⟨tk, 1⟩) L = aY S.O L from fw.trans iq]; exact hS) ?_
   refine gK 1 [(10, .int .i64 0)] [] ?_
   refine NN (af.ret ?_)
   exact RT (.int .i64 0) [0, 3, 4, 1, 5, 2, 6] (⟨L, by rw [show renameM S d name to toName = (0, kI S d name to toName ⟨tk, 1⟩) by unfold renameM; rw [hlk]; refine (if_neg (fun h => absurd h.1 (by simp))).trans ?_; rw [bp]] <;> exact ⟨rfl, rfl⟩⟩)
  ·
   have jT : (obj S.O ok).kind = 1 := hI.kind dO
   refine af.region ?_
   refine gK 5 (rP L to toName) [(3, v_ 3 (bE L dg))] ?_
   refine gF 5 dg bp ?_
   refine gK 1 [(15, .iface 92 (.pointer (some ⟨(L.b ok), 0, none⟩)))] [] ?_
   refine NN (af.seq (SR ?_))
   refine gK 2 [(48, .iface 92 (.pointer (some ⟨(L.b ok), 0, none⟩))), (49, .iface 92 (.pointer (some ⟨(L.b tk), 0, none⟩)))] [] ?_
   refine ah.fO (d := (some 50)) (op := .binOp .eql 87 (.tmp 48) (.tmp 49) 87) (v := .bool (decide (ok = tk))) (fun _ => by kernel_rfl) (fun o junk w ho hS => by obtain ⟨F, hF⟩ := hS.get (i := 3) rfl; exact ⟨w, vm Jq ho (by kernel_rfl) (by kernel_rfl) (by rw [jT]; decide) (by rw [hkt]; decide) hF, hS⟩) ?_
   refine NN ?_
   refine af.bH (p := ok = tk) (fun _ => by kernel_rfl) (fun h50 => ?_) (fun h50 => ?_)
   ·
    refine SR ?_
    refine gK 1 [(10, .int .i64 0)] [] ?_
    refine NN (af.ret (aj.av ?_))
    exact RT (.int .i64 0) [0, 1, 2, 3, 4, 5, 6] (⟨L, by rw [show renameM S d name to toName = (0, S) by unfold renameM; rw [hlk]; refine (if_neg (fun h => absurd h.1 (by simp))).trans ?_; rw [bp]; exact if_pos (by rw [h50])] <;> exact ⟨rfl, rfl⟩⟩)
   ·
    refine af.skip (NX (af.seq (SR ?_)))
    refine gK 2 [(52, .bool true)] [] ?_
    refine NN ?_
    refine CT ?_
    refine af.seq (SR ?_)
    refine gK 1 [(53, .iface 92 (.pointer (some ⟨(L.b ok), 0, none⟩)))] [] ?_
    refine gL [] (jf (.pointer (some ⟨(L.b ok), 0, none⟩))) ?_
    rintro _ _ ⟨rfl, rfl⟩
    refine gK 1 [(55, .bool false)] [] ?_
    refine NN ?_
    refine CF ?_
    refine af.skip (NX (af.seq (SR ?_)))
    refine gK 1 [(56, .bool false)] [] ?_
    refine NN ?_
    refine CF ?_
    refine af.skip (NX (af.region ?_))
    refine gK 3 (GS f L to toName) [] ?_
    refine gL [0, 3, 5, 1] (kQ S L f m t hI to hto toName oV ⟨ok, 1⟩ bp) ?_
    rintro _ _ ⟨rfl, rfl⟩
    refine NS ?_
    have bN : Inv (ar S to toName ⟨ok, 1⟩) := hI.ud hto bp (by simp)
    have hot : (⟨ok, 1⟩ : Th) ≠ ⟨tk, 1⟩ := fun e => h50 (congrArg Th.k e)
    have hd1 : Live (ar S to toName ⟨ok, 1⟩).idx ⟨d, 2⟩ := gA hI.toInv0 hto bp hd (fun e => by have := eB hd dO e; cases this)
    have gT : Live (ar S to toName ⟨ok, 1⟩).idx ⟨to, 2⟩ := gA hI.toInv0 hto bp hto (fun e => by have := eB hto dO e; cases this)
    have dF : aT name (obj (ar S to toName ⟨ok, 1⟩).O d).ai = some ⟨tk, 1⟩ := nw hI.toInv0 hto bp hlk hot
    have mE : aT toName (obj (ar S to toName ⟨ok, 1⟩).O to).ai = none := ny hI.toInv0 hto bp
    have gS : (obj (ar S to toName ⟨ok, 1⟩).O d).kind = 2 := bN.kind hd1
    have mF : (obj (ar S to toName ⟨ok, 1⟩).O to).kind = 2 := bN.kind gT
    have iU : Live (ar S to toName ⟨ok, 1⟩).idx ⟨tk, 1⟩ := (bN.ent hd1 dF).2
    have iV : (obj (ar S to toName ⟨ok, 1⟩).O tk).kind = 1 := bN.kind iU
    have xD : (obj (ar S to toName ⟨ok, 1⟩).O d).ai.length ≤ 8192 := bN.eG hd1
    have xE : (obj (ar S to toName ⟨ok, 1⟩).O to).ai.length ≤ 8192 := bN.eG gT
    have mG := bN.lb iU
    have iW : tk ≠ d := bN.ne hd1 dF
    refine gK 3 (z6 f L d name) [] ?_
    refine gL [0, 1, 2] (gu (ar S to toName ⟨ok, 1⟩).X f m t bN.hX (ar S to toName ⟨ok, 1⟩).O L d gS name hsz ⟨tk, 1⟩ iV (by simp) dF (bN.twice hd1) (by omega) (by simp only at mG ⊢; omega)) ?_
    rintro _ _ ⟨rfl, rfl⟩
    refine NS ?_
    refine gK 4 (z7 f L to toName ++ [(68, .iface 92 (.pointer (some ⟨(L.b tk), 0, none⟩)))]) [] ?_
    refine gL [0, 1, 2] (fo { (ar S to toName ⟨ok, 1⟩).X with ai := (ar S to toName ⟨ok, 1⟩).X.ai - 1 } f m t (bN.uw hd1 dF) (aG (ar S to toName ⟨ok, 1⟩).X (ar S to toName ⟨ok, 1⟩).O d name ⟨tk, 1⟩) L to (bS.trans mF) toName oV (iu iW mE) (Nat.le_trans (jS iW) (by omega)) ⟨tk, 1⟩ (bS.trans iV) (by simp) (iD bN.toInv0 hd1 dF)) ?_
    rintro _ _ ⟨rfl, rfl⟩
    refine NS ?_
    refine ah.mem (aK := [.blk f [.int .i64 ((ar S to toName ⟨ok, 1⟩).X.cN), .int .i64 ((ar S to toName ⟨ok, 1⟩).X.cB), .int .i64 ((ar S to toName ⟨ok, 1⟩).X.cH), .int .i64 ((ar S to toName ⟨ok, 1⟩).X.cS), .int .i64 ((ar S to toName ⟨ok, 1⟩).X.cZ), .map (some m), .pointer (some ⟨t, 0, none⟩), .int .i64 ((ar S to toName ⟨ok, 1⟩).X.last), .int .i64 ((ar S to toName ⟨ok, 1⟩).X.ai - 1 + 1), .int .i64 ((ar S to toName ⟨ok, 1⟩).X.used)] 89, .abs (aq (aS (bh (ar S to toName ⟨ok, 1⟩).X (aG (ar S to toName ⟨ok, 1⟩).X (ar S to toName ⟨ok, 1⟩).O d name ⟨tk, 1⟩) to toName ⟨tk, 1⟩) L)), .abs (aq (bw (bh (ar S to toName ⟨ok, 1⟩).X (aG (ar S to toName ⟨ok, 1⟩).X (ar S to toName ⟨ok, 1⟩).O d name ⟨tk, 1⟩) to toName ⟨tk, 1⟩) L)), .abs (aC Tryz.prog 3 m (aN (aJ L ((ar S to toName ⟨ok, 1⟩).idx))) (((ar S to toName ⟨ok, 1⟩).idx).length)), .abs (aZ 143 t S.X.cH S.au (aJ L S.us)), .abs (aq (aY (bh (ar S to toName ⟨ok, 1⟩).X (aG (ar S to toName ⟨ok, 1⟩).X (ar S to toName ⟨ok, 1⟩).O d name ⟨tk, 1⟩) to toName ⟨tk, 1⟩) L)), .abs R]) (fun w hS => by rw [show aY (bh (ar S to toName ⟨ok, 1⟩).X (aG (ar S to toName ⟨ok, 1⟩).X (ar S to toName ⟨ok, 1⟩).O d name ⟨tk, 1⟩) to toName ⟨tk, 1⟩) L = aY S.O L from fw.trans (iq.trans kR)]; exact hS) ?_
    refine gK 1 [(10, .int .i64 0)] [] ?_
    refine NN (af.ret ?_)
    exact RT (.int .i64 0) [0, 3, 4, 1, 5, 2, 6] (⟨L, by rw [show renameM S d name to toName = (0, kI (ar S to toName ⟨ok, 1⟩) d name to toName ⟨tk, 1⟩) by unfold renameM; rw [hlk]; refine (if_neg (fun h => absurd h.1 (by simp))).trans ?_; rw [bp]; exact (if_neg (fun e => h50 (congrArg Th.k e))).trans ((if_neg (by simp)).trans (if_neg (by simp)))] <;> exact ⟨rfl, rfl⟩⟩)
  ·
   have jT : (obj S.O ok).kind = 2 := hI.kind dO
   refine af.region ?_
   refine gK 5 (rP L to toName) [(3, v_ 3 (bE L dg))] ?_
   refine gF 5 dg bp ?_
   refine gK 1 [(15, .iface 98 (.pointer (some ⟨(L.b ok), 0, none⟩)))] [] ?_
   refine NN (af.seq (SR ?_))
   refine gK 3 [(50, .bool false)] [] ?_
   refine NN ?_
   refine CF ?_
   refine af.skip (NX (af.seq (SR ?_)))
   refine gK 2 [(52, .bool true)] [] ?_
   refine NN ?_
   refine CT ?_
   refine af.seq (SR ?_)
   refine gK 1 [(53, .iface 98 (.pointer (some ⟨(L.b ok), 0, none⟩)))] [] ?_
   refine gL [] (jg (.pointer (some ⟨(L.b ok), 0, none⟩))) ?_
   rintro _ _ ⟨rfl, rfl⟩
   refine gK 1 [(55, .bool true)] [] ?_
   refine NN ?_
   refine CT ?_
   refine SR ?_
   refine gK 1 [(10, .int .i64 172)] [] ?_
   refine NN (af.ret (aj.av (aj.av ?_)))
   exact RT (.int .i64 172) [0, 1, 2, 3, 4, 5, 6] (⟨L, by rw [show renameM S d name to toName = (172, S) by unfold renameM; rw [hlk]; refine (if_neg (fun h => absurd h.1 (by simp))).trans ?_; rw [bp]; exact (if_neg (fun e => by cases e)).trans (if_pos rfl)] <;> exact ⟨rfl, rfl⟩⟩)
  ·
   have jT : (obj S.O ok).kind = 3 := hI.kind dO
   refine af.region ?_
   refine gK 5 (rP L to toName) [(3, v_ 3 (bE L dg))] ?_
   refine gF 5 dg bp ?_
   refine gK 1 [(15, .iface 95 (.pointer (some ⟨(L.b ok), 0, none⟩)))] [] ?_
   refine NN (af.seq (SR ?_))
   refine gK 3 [(50, .bool false)] [] ?_
   refine NN ?_
   refine CF ?_
   refine af.skip (NX (af.seq (SR ?_)))
   refine gK 2 [(52, .bool true)] [] ?_
   refine NN ?_
   refine CT ?_
   refine af.seq (SR ?_)
   refine gK 1 [(53, .iface 95 (.pointer (some ⟨(L.b ok), 0, none⟩)))] [] ?_
   refine gL [] (jN (.pointer (some ⟨(L.b ok), 0, none⟩))) ?_
   rintro _ _ ⟨rfl, rfl⟩
   refine gK 1 [(55, .bool false)] [] ?_
   refine NN ?_
   refine CF ?_
   refine af.skip (NX (af.seq (SR ?_)))
   refine gK 1 [(56, .bool false)] [] ?_
   refine NN ?_
   refine CF ?_
   refine af.skip (NX (af.region ?_))
   refine gK 3 (GS f L to toName) [] ?_
   refine gL [0, 3, 5, 1] (kQ S L f m t hI to hto toName oV ⟨ok, 3⟩ bp) ?_
   rintro _ _ ⟨rfl, rfl⟩
   refine NS ?_
   have bN : Inv (ar S to toName ⟨ok, 3⟩) := hI.ud hto bp (by simp)
   have hot : (⟨ok, 3⟩ : Th) ≠ ⟨tk, 1⟩ := fun e => by cases e
   have hd1 : Live (ar S to toName ⟨ok, 3⟩).idx ⟨d, 2⟩ := gA hI.toInv0 hto bp hd (fun e => by have := eB hd dO e; cases this)
   have gT : Live (ar S to toName ⟨ok, 3⟩).idx ⟨to, 2⟩ := gA hI.toInv0 hto bp hto (fun e => by have := eB hto dO e; cases this)
   have dF : aT name (obj (ar S to toName ⟨ok, 3⟩).O d).ai = some ⟨tk, 1⟩ := nw hI.toInv0 hto bp hlk hot
   have mE : aT toName (obj (ar S to toName ⟨ok, 3⟩).O to).ai = none := ny hI.toInv0 hto bp
   have gS : (obj (ar S to toName ⟨ok, 3⟩).O d).kind = 2 := bN.kind hd1
   have mF : (obj (ar S to toName ⟨ok, 3⟩).O to).kind = 2 := bN.kind gT
   have iU : Live (ar S to toName ⟨ok, 3⟩).idx ⟨tk, 1⟩ := (bN.ent hd1 dF).2
   have iV : (obj (ar S to toName ⟨ok, 3⟩).O tk).kind = 1 := bN.kind iU
   have xD : (obj (ar S to toName ⟨ok, 3⟩).O d).ai.length ≤ 8192 := bN.eG hd1
   have xE : (obj (ar S to toName ⟨ok, 3⟩).O to).ai.length ≤ 8192 := bN.eG gT
   have mG := bN.lb iU
   have iW : tk ≠ d := bN.ne hd1 dF
   refine gK 3 (z6 f L d name) [] ?_
   refine gL [0, 1, 2] (gu (ar S to toName ⟨ok, 3⟩).X f m t bN.hX (ar S to toName ⟨ok, 3⟩).O L d gS name hsz ⟨tk, 1⟩ iV (by simp) dF (bN.twice hd1) (by omega) (by simp only at mG ⊢; omega)) ?_
   rintro _ _ ⟨rfl, rfl⟩
   refine NS ?_
   refine gK 4 (z7 f L to toName ++ [(68, .iface 92 (.pointer (some ⟨(L.b tk), 0, none⟩)))]) [] ?_
   refine gL [0, 1, 2] (fo { (ar S to toName ⟨ok, 3⟩).X with ai := (ar S to toName ⟨ok, 3⟩).X.ai - 1 } f m t (bN.uw hd1 dF) (aG (ar S to toName ⟨ok, 3⟩).X (ar S to toName ⟨ok, 3⟩).O d name ⟨tk, 1⟩) L to (bS.trans mF) toName oV (iu iW mE) (Nat.le_trans (jS iW) (by omega)) ⟨tk, 1⟩ (bS.trans iV) (by simp) (iD bN.toInv0 hd1 dF)) ?_
   rintro _ _ ⟨rfl, rfl⟩
   refine NS ?_
   refine ah.mem (aK := [.blk f [.int .i64 ((ar S to toName ⟨ok, 3⟩).X.cN), .int .i64 ((ar S to toName ⟨ok, 3⟩).X.cB), .int .i64 ((ar S to toName ⟨ok, 3⟩).X.cH), .int .i64 ((ar S to toName ⟨ok, 3⟩).X.cS), .int .i64 ((ar S to toName ⟨ok, 3⟩).X.cZ), .map (some m), .pointer (some ⟨t, 0, none⟩), .int .i64 ((ar S to toName ⟨ok, 3⟩).X.last), .int .i64 ((ar S to toName ⟨ok, 3⟩).X.ai - 1 + 1), .int .i64 ((ar S to toName ⟨ok, 3⟩).X.used)] 89, .abs (aq (aS (bh (ar S to toName ⟨ok, 3⟩).X (aG (ar S to toName ⟨ok, 3⟩).X (ar S to toName ⟨ok, 3⟩).O d name ⟨tk, 1⟩) to toName ⟨tk, 1⟩) L)), .abs (aq (bw (bh (ar S to toName ⟨ok, 3⟩).X (aG (ar S to toName ⟨ok, 3⟩).X (ar S to toName ⟨ok, 3⟩).O d name ⟨tk, 1⟩) to toName ⟨tk, 1⟩) L)), .abs (aC Tryz.prog 3 m (aN (aJ L ((ar S to toName ⟨ok, 3⟩).idx))) (((ar S to toName ⟨ok, 3⟩).idx).length)), .abs (aZ 143 t S.X.cH S.au (aJ L S.us)), .abs (aq (aY (bh (ar S to toName ⟨ok, 3⟩).X (aG (ar S to toName ⟨ok, 3⟩).X (ar S to toName ⟨ok, 3⟩).O d name ⟨tk, 1⟩) to toName ⟨tk, 1⟩) L)), .abs R]) (fun w hS => by rw [show aY (bh (ar S to toName ⟨ok, 3⟩).X (aG (ar S to toName ⟨ok, 3⟩).X (ar S to toName ⟨ok, 3⟩).O d name ⟨tk, 1⟩) to toName ⟨tk, 1⟩) L = aY S.O L from fw.trans (iq.trans kR)]; exact hS) ?_
   refine gK 1 [(10, .int .i64 0)] [] ?_
   refine NN (af.ret ?_)
   exact RT (.int .i64 0) [0, 3, 4, 1, 5, 2, 6] (⟨L, by rw [show renameM S d name to toName = (0, kI (ar S to toName ⟨ok, 3⟩) d name to toName ⟨tk, 1⟩) by unfold renameM; rw [hlk]; refine (if_neg (fun h => absurd h.1 (by simp))).trans ?_; rw [bp]; exact (if_neg (fun e => by cases e)).trans ((if_neg (by simp)).trans (if_neg (by simp)))] <;> exact ⟨rfl, rfl⟩⟩)
 ·
  have hkt : (obj S.O tk).kind = 2 := hI.kind hlv
  refine af.region ?_
  refine gK 1 [] [] ?_
  refine NS ?_
  refine gK 5 [(19, .map (some (L.m d))), (20, .string name)] [(3, v_ 3 (bE L hkd))] ?_
  refine gF 5 hkd hlk ?_
  refine gK 1 [(11, .iface 98 (.pointer (some ⟨(L.b tk), 0, none⟩)))] [] ?_
  refine NN (af.seq (SR ?_))
  refine gK 2 [(23, .bool false)] [] ?_
  refine NN ?_
  refine CF ?_
  refine af.skip (NX (SR ?_))
  refine gK 7 [(12, .pointer (some ⟨(L.b tk), 0, none⟩)), (13, .bool true)] [] ?_
  refine NN (af.seq (SR ?_))
  refine gK 2 [(14, .pointer (some ⟨(L.b to), 0, none⟩))] [] ?_
  refine NN (af.block ?_)
  obtain ⟨dp, hdp⟩ := hI.deep
  refine af.loop (ι := (Option Nat)) (fun (x : Option Nat) => (gJ S.O tk to ↔ ∃ z0, x = some z0 ∧ gJ S.O tk z0) ∧ (∀ z0, x = some z0 → Live S.idx ⟨z0, 2⟩)) (fun (x : Option Nat) => tf dp x) (fun (x : Option Nat) => [(0, .pointer (some ⟨f, 0, none⟩)), (1, .pointer (some ⟨(L.b d), 0, none⟩)), (2, .string name), (3, .pointer (some ⟨(L.b to), 0, none⟩)), (4, .string toName), (11, .iface 98 (.pointer (some ⟨(L.b tk), 0, none⟩))), (12, .pointer (some ⟨(L.b tk), 0, none⟩)), (13, .bool true), (14, (pP L x))]) (fun (x : Option Nat) => ((pA f m t L S) ++ [.abs R])) ((some to)) (idx := [0, 1, 2, 3, 4, 11, 12, 13, 14]) (pk := [0, 1, 2, 3, 4, 5, 6]) (show (gJ S.O tk to ↔ ∃ z0, ((some to)) = some z0 ∧ gJ S.O tk z0) ∧ (∀ z0, ((some to)) = some z0 → Live S.idx ⟨z0, 2⟩) from ⟨⟨fun h => ⟨to, rfl, h⟩, fun ⟨y, e, h⟩ => by cases e; exact h⟩, fun y e => by cases e; exact hto⟩) (fun _ => by kernel_rfl) rfl (by kernel_rfl) ?_
  rintro x ⟨JE, hlx⟩
  show af _ _ _ _ [(0, .pointer (some ⟨f, 0, none⟩)), (1, .pointer (some ⟨(L.b d), 0, none⟩)), (2, .string name), (3, .pointer (some ⟨(L.b to), 0, none⟩)), (4, .string toName), (11, .iface 98 (.pointer (some ⟨(L.b tk), 0, none⟩))), (12, .pointer (some ⟨(L.b tk), 0, none⟩)), (13, .bool true), (14, (pP L x))] ((pA f m t L S) ++ [.abs R]) _
  refine af.seq (af.seq ?_)
  rcases hx : x with _ | y
  ·
   refine af.region ?_
   refine gK 5 [(34, .bool false)] [] ?_
   refine NN ?_
   refine CF ?_
   refine af.exit (aj.bG (aj.bG (aj.dw (NX (af.seq ?_)))))
   have hnb : ¬ gJ S.O tk to := fun h => by obtain ⟨y, e, _⟩ := JE.1 h; rw [hx] at e; cases e
   rcases hI.kK hto toName with bp | ⟨ok, bp, dO⟩ | ⟨ok, bp, dO⟩ | ⟨ok, bp, dO⟩
   ·
    refine af.region ?_
    refine gK 5 (rP L to toName) [(3, v_ 3 (bE L dg))] ?_
    refine gF 5 dg bp ?_
    refine gK 1 [(15, .nilIface)] [] ?_
    refine NN (af.seq (SR ?_))
    refine gK 3 [(50, .bool false)] [] ?_
    refine NN ?_
    refine CF ?_
    refine af.skip (NX (af.seq (SR ?_)))
    refine gK 2 [(52, .bool false)] [] ?_
    refine NN ?_
    refine CF ?_
    refine af.skip (NX (SR ?_))
    have bN : Inv S := hI
    have hd1 := hd
    have dF := hlk
    have mE := bp
    have gT := hto
    have gS : (obj S.O d).kind = 2 := bN.kind hd1
    have mF : (obj S.O to).kind = 2 := bN.kind gT
    have iU : Live S.idx ⟨tk, 2⟩ := (bN.ent hd1 dF).2
    have iV : (obj S.O tk).kind = 2 := bN.kind iU
    have xD : (obj S.O d).ai.length ≤ 8192 := bN.eG hd1
    have xE : (obj S.O to).ai.length ≤ 8192 := bN.eG gT
    have mG := bN.lb iU
    have iW : tk ≠ d := bN.ne hd1 dF
    refine gK 3 (z6 f L d name) [] ?_
    refine gL [0, 3, 5] (gu S.X f m t bN.hX S.O L d gS name hsz ⟨tk, 2⟩ iV (by simp) dF (bN.twice hd1) (by omega) (by simp only at mG ⊢; omega)) ?_
    rintro _ _ ⟨rfl, rfl⟩
    refine NS ?_
    refine gK 4 (z7 f L to toName ++ [(68, .iface 98 (.pointer (some ⟨(L.b tk), 0, none⟩)))]) [] ?_
    refine gL [0, 1, 2] (fo { S.X with ai := S.X.ai - 1 } f m t (bN.uw hd1 dF) (aG S.X S.O d name ⟨tk, 2⟩) L to (bS.trans mF) toName oV (iu iW mE) (Nat.le_trans (jS iW) (by omega)) ⟨tk, 2⟩ (bS.trans iV) (by simp) (iD bN.toInv0 hd1 dF)) ?_
    rintro _ _ ⟨rfl, rfl⟩
    refine NS ?_
    refine ah.mem (aK := [.blk f [.int .i64 (S.X.cN), .int .i64 (S.X.cB), .int .i64 (S.X.cH), .int .i64 (S.X.cS), .int .i64 (S.X.cZ), .map (some m), .pointer (some ⟨t, 0, none⟩), .int .i64 (S.X.last), .int .i64 (S.X.ai - 1 + 1), .int .i64 (S.X.used)] 89, .abs (aq (aS (bh S.X (aG S.X S.O d name ⟨tk, 2⟩) to toName ⟨tk, 2⟩) L)), .abs (aq (bw (bh S.X (aG S.X S.O d name ⟨tk, 2⟩) to toName ⟨tk, 2⟩) L)), .abs (aC Tryz.prog 3 m (aN (aJ L S.idx)) S.idx.length), .abs (aZ 143 t S.X.cH S.au (aJ L S.us)), .abs (aq (aY (bh S.X (aG S.X S.O d name ⟨tk, 2⟩) to toName ⟨tk, 2⟩) L)), .abs R]) (fun w hS => by rw [show aY (bh S.X (aG S.X S.O d name ⟨tk, 2⟩) to toName ⟨tk, 2⟩) L = aY S.O L from fw.trans iq]; exact hS) ?_
    refine gK 1 [(10, .int .i64 0)] [] ?_
    refine NN (af.ret ?_)
    exact RT (.int .i64 0) [0, 3, 4, 1, 5, 2, 6] (⟨L, by rw [show renameM S d name to toName = (0, kI S d name to toName ⟨tk, 2⟩) by unfold renameM; rw [hlk]; refine (if_neg (fun h => hnb h.2)).trans ?_; rw [bp]] <;> exact ⟨rfl, rfl⟩⟩)
   ·
    have jT : (obj S.O ok).kind = 1 := hI.kind dO
    refine af.region ?_
    refine gK 5 (rP L to toName) [(3, v_ 3 (bE L dg))] ?_
    refine gF 5 dg bp ?_
    refine gK 1 [(15, .iface 92 (.pointer (some ⟨(L.b ok), 0, none⟩)))] [] ?_
    refine NN (af.seq (SR ?_))
    refine gK 3 [(50, .bool false)] [] ?_
    refine NN ?_
    refine CF ?_
    refine af.skip (NX (af.seq (SR ?_)))
    refine gK 2 [(52, .bool true)] [] ?_
    refine NN ?_
    refine CT ?_
    refine af.seq (SR ?_)
    refine gK 1 [(53, .iface 92 (.pointer (some ⟨(L.b ok), 0, none⟩)))] [] ?_
    refine gL [] (jf (.pointer (some ⟨(L.b ok), 0, none⟩))) ?_
    rintro _ _ ⟨rfl, rfl⟩
    refine gK 1 [(55, .bool false)] [] ?_
    refine NN ?_
    refine CF ?_
    refine af.skip (NX (af.seq (SR ?_)))
    refine gK 1 [(56, .bool true)] [] ?_
    refine NN ?_
    refine CT ?_
    refine SR ?_
    refine gK 1 [(10, .int .i64 173)] [] ?_
    refine NN (af.ret (aj.av (aj.av ?_)))
    exact RT (.int .i64 173) [0, 1, 2, 3, 4, 5, 6] (⟨L, by rw [show renameM S d name to toName = (173, S) by unfold renameM; rw [hlk]; refine (if_neg (fun h => hnb h.2)).trans ?_; rw [bp]; exact (if_neg (fun e => by cases e)).trans ((if_neg (by simp)).trans (if_pos rfl))] <;> exact ⟨rfl, rfl⟩⟩)
   ·
    have jT : (obj S.O ok).kind = 2 := hI.kind dO
    refine af.region ?_
    refine gK 5 (rP L to toName) [(3, v_ 3 (bE L dg))] ?_
    refine gF 5 dg bp ?_
    refine gK 1 [(15, .iface 98 (.pointer (some ⟨(L.b ok), 0, none⟩)))] [] ?_
    refine NN (af.seq (SR ?_))
    refine gK 2 [(48, .iface 98 (.pointer (some ⟨(L.b ok), 0, none⟩))), (49, .iface 98 (.pointer (some ⟨(L.b tk), 0, none⟩)))] [] ?_
    refine ah.fO (d := (some 50)) (op := .binOp .eql 87 (.tmp 48) (.tmp 49) 87) (v := .bool (decide (ok = tk))) (fun _ => by kernel_rfl) (fun o junk w ho hS => by obtain ⟨F, hF⟩ := hS.get (i := 3) rfl; exact ⟨w, vm KS ho (by kernel_rfl) (by kernel_rfl) (by rw [jT]; decide) (by rw [hkt]; decide) hF, hS⟩) ?_
    refine NN ?_
    refine af.bH (p := ok = tk) (fun _ => by kernel_rfl) (fun h50 => ?_) (fun h50 => ?_)
    ·
     refine SR ?_
     refine gK 1 [(10, .int .i64 0)] [] ?_
     refine NN (af.ret (aj.av ?_))
     exact RT (.int .i64 0) [0, 1, 2, 3, 4, 5, 6] (⟨L, by rw [show renameM S d name to toName = (0, S) by unfold renameM; rw [hlk]; refine (if_neg (fun h => hnb h.2)).trans ?_; rw [bp]; exact if_pos (by rw [h50])] <;> exact ⟨rfl, rfl⟩⟩)
    ·
     refine af.skip (NX (af.seq (SR ?_)))
     refine gK 2 [(52, .bool true)] [] ?_
     refine NN ?_
     refine CT ?_
     refine af.seq (SR ?_)
     refine gK 1 [(53, .iface 98 (.pointer (some ⟨(L.b ok), 0, none⟩)))] [] ?_
     refine gL [] (jg (.pointer (some ⟨(L.b ok), 0, none⟩))) ?_
     rintro _ _ ⟨rfl, rfl⟩
     refine gK 1 [(55, .bool true)] [] ?_
     refine NN ?_
     refine CT ?_
     refine SR ?_
     refine gK 1 [(10, .int .i64 172)] [] ?_
     refine NN (af.ret (aj.av (aj.av ?_)))
     exact RT (.int .i64 172) [0, 1, 2, 3, 4, 5, 6] (⟨L, by rw [show renameM S d name to toName = (172, S) by unfold renameM; rw [hlk]; refine (if_neg (fun h => hnb h.2)).trans ?_; rw [bp]; exact (if_neg (fun e => h50 (congrArg Th.k e))).trans (if_pos rfl)] <;> exact ⟨rfl, rfl⟩⟩)
   ·
    have jT : (obj S.O ok).kind = 3 := hI.kind dO
    refine af.region ?_
    refine gK 5 (rP L to toName) [(3, v_ 3 (bE L dg))] ?_
    refine gF 5 dg bp ?_
    refine gK 1 [(15, .iface 95 (.pointer (some ⟨(L.b ok), 0, none⟩)))] [] ?_
    refine NN (af.seq (SR ?_))
    refine gK 3 [(50, .bool false)] [] ?_
    refine NN ?_
    refine CF ?_
    refine af.skip (NX (af.seq (SR ?_)))
    refine gK 2 [(52, .bool true)] [] ?_
    refine NN ?_
    refine CT ?_
    refine af.seq (SR ?_)
    refine gK 1 [(53, .iface 95 (.pointer (some ⟨(L.b ok), 0, none⟩)))] [] ?_
    refine gL [] (jN (.pointer (some ⟨(L.b ok), 0, none⟩))) ?_
    rintro _ _ ⟨rfl, rfl⟩
    refine gK 1 [(55, .bool false)] [] ?_
    refine NN ?_
    refine CF ?_
    refine af.skip (NX (af.seq (SR ?_)))
    refine gK 1 [(56, .bool true)] [] ?_
    refine NN ?_
    refine CT ?_
    refine SR ?_
    refine gK 1 [(10, .int .i64 173)] [] ?_
    refine NN (af.ret (aj.av (aj.av ?_)))
    exact RT (.int .i64 173) [0, 1, 2, 3, 4, 5, 6] (⟨L, by rw [show renameM S d name to toName = (173, S) by unfold renameM; rw [hlk]; refine (if_neg (fun h => hnb h.2)).trans ?_; rw [bp]; exact (if_neg (fun e => by cases e)).trans ((if_neg (by simp)).trans (if_pos rfl))] <;> exact ⟨rfl, rfl⟩⟩)
  ·
   have hky : (obj S.O y).kind = 2 := hI.kind (hlx y hx)
   refine af.region ?_
   refine gK 5 [(34, .bool true)] [] ?_
   refine NN ?_
   refine CT ?_
   refine af.skip (NX (af.seq (af.block (SR ?_))))
   refine gK 2 [(39, .pointer (some ⟨(L.b y), 0, none⟩)), (40, .pointer (some ⟨(L.b tk), 0, none⟩))] [] ?_
   refine ah.fO (d := (some 41)) (op := .binOp .eql 98 (.tmp 39) (.tmp 40) 98) (v := .bool (decide (y = tk))) (fun _ => by kernel_rfl) (fun o junk w ho hS => by obtain ⟨F, hF⟩ := hS.get (i := 3) rfl; exact ⟨w, D5 ho (by kernel_rfl) (by kernel_rfl) (by rw [hky]; decide) (by rw [hkt]; decide) hF, hS⟩) ?_
   refine NN ?_
   refine af.bH (p := y = tk) (fun _ => by kernel_rfl) (fun GV => ?_) (fun GV => ?_)
   ·
    refine SR ?_
    refine gK 1 [(10, .int .i64 174)] [] ?_
    refine NN (af.ret (aj.aO (aj.av (aj.av (aj.aO (aj.av ?_))))))
    exact RT (.int .i64 174) [0, 1, 2, 3, 4, 5, 6] (⟨L, by rw [show renameM S d name to toName = (174, S) by unfold renameM; rw [hlk]; exact if_pos ⟨rfl, JE.2 ⟨y, hx, by rw [GV]; exact .here⟩⟩] <;> exact ⟨rfl, rfl⟩⟩)
   ·
    refine af.skip (aj.aW (NX (af.region ?_)))
    refine gK 5 [(14, (pP L (obj S.O y).up))] [(3, v_ 3 (LR L hky))] ?_
    refine NL ?_
    exact aj.turn (((obj S.O y).up)) (idx := [0, 1, 2, 3, 4, 11, 12, 13, 14]) (pk := [0, 1, 2, 3, 4, 5, 6]) (show (gJ S.O tk to ↔ ∃ z0, (((obj S.O y).up)) = some z0 ∧ gJ S.O tk z0) ∧ (∀ z0, (((obj S.O y).up)) = some z0 → Live S.idx ⟨z0, 2⟩) from ⟨JE.trans ⟨fun ⟨y2, e, h⟩ => by rw [hx] at e; cases e; exact (wq GV).1 h, fun h => ⟨y, hx, (wq GV).2 h⟩⟩, fun z e => ((hI.up ⟨y, 2⟩ (hlx y hx) z).1 e).2.1⟩) (by show tf dp (((obj S.O y).up)) < tf dp (some y); exact Eb hdp) (fun _ => by kernel_rfl) rfl (by kernel_rfl)
 ·
  have hkt : (obj S.O tk).kind = 3 := hI.kind hlv
  refine af.region ?_
  refine gK 1 [] [] ?_
  refine NS ?_
  refine gK 5 [(19, .map (some (L.m d))), (20, .string name)] [(3, v_ 3 (bE L hkd))] ?_
  refine gF 5 hkd hlk ?_
  refine gK 1 [(11, .iface 95 (.pointer (some ⟨(L.b tk), 0, none⟩)))] [] ?_
  refine NN (af.seq (SR ?_))
  refine gK 2 [(23, .bool false)] [] ?_
  refine NN ?_
  refine CF ?_
  refine af.skip (NX (SR ?_))
  refine gK 7 [(12, .pointer none), (13, .bool false)] [] ?_
  refine NN (af.seq (SR ?_))
  refine gK 2 [(14, .pointer (some ⟨(L.b to), 0, none⟩))] [] ?_
  refine NN (af.block ?_)
  refine af.loop (ι := Unit) (fun (u : Unit) => True) (fun (u : Unit) => 0) (fun (u : Unit) => (GR f L d name to toName ++ [(11, .iface 95 (.pointer (some ⟨(L.b tk), 0, none⟩)))] ++ GU L to)) (fun (u : Unit) => ((pA f m t L S) ++ [.abs R])) () (idx := [0, 1, 2, 3, 4, 11, 12, 13, 14]) (pk := [0, 1, 2, 3, 4, 5, 6]) (show True from trivial) (fun _ => by kernel_rfl) rfl (by kernel_rfl) ?_
  rintro u _
  show af _ _ _ _ (GR f L d name to toName ++ [(11, .iface 95 (.pointer (some ⟨(L.b tk), 0, none⟩)))] ++ GU L to) ((pA f m t L S) ++ [.abs R]) _
  refine af.seq (SR ?_)
  refine gK 5 [(34, .bool false)] [] ?_
  refine NN ?_
  refine CF ?_
  refine af.exit (aj.bG (aj.bG (aj.dw (NX (af.seq ?_)))))
  skip
  rcases hI.kK hto toName with bp | ⟨ok, bp, dO⟩ | ⟨ok, bp, dO⟩ | ⟨ok, bp, dO⟩
  ·
   refine af.region ?_
   refine gK 5 (rP L to toName) [(3, v_ 3 (bE L dg))] ?_
   refine gF 5 dg bp ?_
   refine gK 1 [(15, .nilIface)] [] ?_
   refine NN (af.seq (SR ?_))
   refine gK 3 [(50, .bool false)] [] ?_
   refine NN ?_
   refine CF ?_
   refine af.skip (NX (af.seq (SR ?_)))
   refine gK 2 [(52, .bool false)] [] ?_
   refine NN ?_
   refine CF ?_
   refine af.skip (NX (SR ?_))
   have bN : Inv S := hI
   have hd1 := hd
   have dF := hlk
   have mE := bp
   have gT := hto
   have gS : (obj S.O d).kind = 2 := bN.kind hd1
   have mF : (obj S.O to).kind = 2 := bN.kind gT
   have iU : Live S.idx ⟨tk, 3⟩ := (bN.ent hd1 dF).2
   have iV : (obj S.O tk).kind = 3 := bN.kind iU
   have xD : (obj S.O d).ai.length ≤ 8192 := bN.eG hd1
   have xE : (obj S.O to).ai.length ≤ 8192 := bN.eG gT
   have mG := bN.lb iU
   have iW : tk ≠ d := bN.ne hd1 dF
   refine gK 3 (z6 f L d name) [] ?_
   refine gL [0, 3, 5] (gu S.X f m t bN.hX S.O L d gS name hsz ⟨tk, 3⟩ iV (by simp) dF (bN.twice hd1) (by omega) (by simp only at mG ⊢; omega)) ?_
   rintro _ _ ⟨rfl, rfl⟩
   refine NS ?_
   refine gK 4 (z7 f L to toName ++ [(68, .iface 95 (.pointer (some ⟨(L.b tk), 0, none⟩)))]) [] ?_
   refine gL [0, 1, 2] (fo { S.X with ai := S.X.ai - 1 } f m t (bN.uw hd1 dF) (aG S.X S.O d name ⟨tk, 3⟩) L to (bS.trans mF) toName oV (iu iW mE) (Nat.le_trans (jS iW) (by omega)) ⟨tk, 3⟩ (bS.trans iV) (by simp) (iD bN.toInv0 hd1 dF)) ?_
   rintro _ _ ⟨rfl, rfl⟩
   refine NS ?_
   refine ah.mem (aK := [.blk f [.int .i64 (S.X.cN), .int .i64 (S.X.cB), .int .i64 (S.X.cH), .int .i64 (S.X.cS), .int .i64 (S.X.cZ), .map (some m), .pointer (some ⟨t, 0, none⟩), .int .i64 (S.X.last), .int .i64 (S.X.ai - 1 + 1), .int .i64 (S.X.used)] 89, .abs (aq (aS (bh S.X (aG S.X S.O d name ⟨tk, 3⟩) to toName ⟨tk, 3⟩) L)), .abs (aq (bw (bh S.X (aG S.X S.O d name ⟨tk, 3⟩) to toName ⟨tk, 3⟩) L)), .abs (aC Tryz.prog 3 m (aN (aJ L S.idx)) S.idx.length), .abs (aZ 143 t S.X.cH S.au (aJ L S.us)), .abs (aq (aY (bh S.X (aG S.X S.O d name ⟨tk, 3⟩) to toName ⟨tk, 3⟩) L)), .abs R]) (fun w hS => by rw [show aY (bh S.X (aG S.X S.O d name ⟨tk, 3⟩) to toName ⟨tk, 3⟩) L = aY S.O L from fw.trans iq]; exact hS) ?_
   refine gK 1 [(10, .int .i64 0)] [] ?_
   refine NN (af.ret ?_)
   exact RT (.int .i64 0) [0, 3, 4, 1, 5, 2, 6] (⟨L, by rw [show renameM S d name to toName = (0, kI S d name to toName ⟨tk, 3⟩) by unfold renameM; rw [hlk]; refine (if_neg (fun h => absurd h.1 (by simp))).trans ?_; rw [bp]] <;> exact ⟨rfl, rfl⟩⟩)
  ·
   have jT : (obj S.O ok).kind = 1 := hI.kind dO
   refine af.region ?_
   refine gK 5 (rP L to toName) [(3, v_ 3 (bE L dg))] ?_
   refine gF 5 dg bp ?_
   refine gK 1 [(15, .iface 92 (.pointer (some ⟨(L.b ok), 0, none⟩)))] [] ?_
   refine NN (af.seq (SR ?_))
   refine gK 3 [(50, .bool false)] [] ?_
   refine NN ?_
   refine CF ?_
   refine af.skip (NX (af.seq (SR ?_)))
   refine gK 2 [(52, .bool true)] [] ?_
   refine NN ?_
   refine CT ?_
   refine af.seq (SR ?_)
   refine gK 1 [(53, .iface 92 (.pointer (some ⟨(L.b ok), 0, none⟩)))] [] ?_
   refine gL [] (jf (.pointer (some ⟨(L.b ok), 0, none⟩))) ?_
   rintro _ _ ⟨rfl, rfl⟩
   refine gK 1 [(55, .bool false)] [] ?_
   refine NN ?_
   refine CF ?_
   refine af.skip (NX (af.seq (SR ?_)))
   refine gK 1 [(56, .bool false)] [] ?_
   refine NN ?_
   refine CF ?_
   refine af.skip (NX (af.region ?_))
   refine gK 3 (GS f L to toName) [] ?_
   refine gL [0, 3, 5, 1] (kQ S L f m t hI to hto toName oV ⟨ok, 1⟩ bp) ?_
   rintro _ _ ⟨rfl, rfl⟩
   refine NS ?_
   have bN : Inv (ar S to toName ⟨ok, 1⟩) := hI.ud hto bp (by simp)
   have hot : (⟨ok, 1⟩ : Th) ≠ ⟨tk, 3⟩ := fun e => by cases e
   have hd1 : Live (ar S to toName ⟨ok, 1⟩).idx ⟨d, 2⟩ := gA hI.toInv0 hto bp hd (fun e => by have := eB hd dO e; cases this)
   have gT : Live (ar S to toName ⟨ok, 1⟩).idx ⟨to, 2⟩ := gA hI.toInv0 hto bp hto (fun e => by have := eB hto dO e; cases this)
   have dF : aT name (obj (ar S to toName ⟨ok, 1⟩).O d).ai = some ⟨tk, 3⟩ := nw hI.toInv0 hto bp hlk hot
   have mE : aT toName (obj (ar S to toName ⟨ok, 1⟩).O to).ai = none := ny hI.toInv0 hto bp
   have gS : (obj (ar S to toName ⟨ok, 1⟩).O d).kind = 2 := bN.kind hd1
   have mF : (obj (ar S to toName ⟨ok, 1⟩).O to).kind = 2 := bN.kind gT
   have iU : Live (ar S to toName ⟨ok, 1⟩).idx ⟨tk, 3⟩ := (bN.ent hd1 dF).2
   have iV : (obj (ar S to toName ⟨ok, 1⟩).O tk).kind = 3 := bN.kind iU
   have xD : (obj (ar S to toName ⟨ok, 1⟩).O d).ai.length ≤ 8192 := bN.eG hd1
   have xE : (obj (ar S to toName ⟨ok, 1⟩).O to).ai.length ≤ 8192 := bN.eG gT
   have mG := bN.lb iU
   have iW : tk ≠ d := bN.ne hd1 dF
   refine gK 3 (z6 f L d name) [] ?_
   refine gL [0, 1, 2] (gu (ar S to toName ⟨ok, 1⟩).X f m t bN.hX (ar S to toName ⟨ok, 1⟩).O L d gS name hsz ⟨tk, 3⟩ iV (by simp) dF (bN.twice hd1) (by omega) (by simp only at mG ⊢; omega)) ?_
   rintro _ _ ⟨rfl, rfl⟩
   refine NS ?_
   refine gK 4 (z7 f L to toName ++ [(68, .iface 95 (.pointer (some ⟨(L.b tk), 0, none⟩)))]) [] ?_
   refine gL [0, 1, 2] (fo { (ar S to toName ⟨ok, 1⟩).X with ai := (ar S to toName ⟨ok, 1⟩).X.ai - 1 } f m t (bN.uw hd1 dF) (aG (ar S to toName ⟨ok, 1⟩).X (ar S to toName ⟨ok, 1⟩).O d name ⟨tk, 3⟩) L to (bS.trans mF) toName oV (iu iW mE) (Nat.le_trans (jS iW) (by omega)) ⟨tk, 3⟩ (bS.trans iV) (by simp) (iD bN.toInv0 hd1 dF)) ?_
   rintro _ _ ⟨rfl, rfl⟩
   refine NS ?_
   refine ah.mem (aK := [.blk f [.int .i64 ((ar S to toName ⟨ok, 1⟩).X.cN), .int .i64 ((ar S to toName ⟨ok, 1⟩).X.cB), .int .i64 ((ar S to toName ⟨ok, 1⟩).X.cH), .int .i64 ((ar S to toName ⟨ok, 1⟩).X.cS), .int .i64 ((ar S to toName ⟨ok, 1⟩).X.cZ), .map (some m), .pointer (some ⟨t, 0, none⟩), .int .i64 ((ar S to toName ⟨ok, 1⟩).X.last), .int .i64 ((ar S to toName ⟨ok, 1⟩).X.ai - 1 + 1), .int .i64 ((ar S to toName ⟨ok, 1⟩).X.used)] 89, .abs (aq (aS (bh (ar S to toName ⟨ok, 1⟩).X (aG (ar S to toName ⟨ok, 1⟩).X (ar S to toName ⟨ok, 1⟩).O d name ⟨tk, 3⟩) to toName ⟨tk, 3⟩) L)), .abs (aq (bw (bh (ar S to toName ⟨ok, 1⟩).X (aG (ar S to toName ⟨ok, 1⟩).X (ar S to toName ⟨ok, 1⟩).O d name ⟨tk, 3⟩) to toName ⟨tk, 3⟩) L)), .abs (aC Tryz.prog 3 m (aN (aJ L ((ar S to toName ⟨ok, 1⟩).idx))) (((ar S to toName ⟨ok, 1⟩).idx).length)), .abs (aZ 143 t S.X.cH S.au (aJ L S.us)), .abs (aq (aY (bh (ar S to toName ⟨ok, 1⟩).X (aG (ar S to toName ⟨ok, 1⟩).X (ar S to toName ⟨ok, 1⟩).O d name ⟨tk, 3⟩) to toName ⟨tk, 3⟩) L)), .abs R]) (fun w hS => by rw [show aY (bh (ar S to toName ⟨ok, 1⟩).X (aG (ar S to toName ⟨ok, 1⟩).X (ar S to toName ⟨ok, 1⟩).O d name ⟨tk, 3⟩) to toName ⟨tk, 3⟩) L = aY S.O L from fw.trans (iq.trans kR)]; exact hS) ?_
   refine gK 1 [(10, .int .i64 0)] [] ?_
   refine NN (af.ret ?_)
   exact RT (.int .i64 0) [0, 3, 4, 1, 5, 2, 6] (⟨L, by rw [show renameM S d name to toName = (0, kI (ar S to toName ⟨ok, 1⟩) d name to toName ⟨tk, 3⟩) by unfold renameM; rw [hlk]; refine (if_neg (fun h => absurd h.1 (by simp))).trans ?_; rw [bp]; exact (if_neg (fun e => by cases e)).trans ((if_neg (by simp)).trans (if_neg (by simp)))] <;> exact ⟨rfl, rfl⟩⟩)
  ·
   have jT : (obj S.O ok).kind = 2 := hI.kind dO
   refine af.region ?_
   refine gK 5 (rP L to toName) [(3, v_ 3 (bE L dg))] ?_
   refine gF 5 dg bp ?_
   refine gK 1 [(15, .iface 98 (.pointer (some ⟨(L.b ok), 0, none⟩)))] [] ?_
   refine NN (af.seq (SR ?_))
   refine gK 3 [(50, .bool false)] [] ?_
   refine NN ?_
   refine CF ?_
   refine af.skip (NX (af.seq (SR ?_)))
   refine gK 2 [(52, .bool true)] [] ?_
   refine NN ?_
   refine CT ?_
   refine af.seq (SR ?_)
   refine gK 1 [(53, .iface 98 (.pointer (some ⟨(L.b ok), 0, none⟩)))] [] ?_
   refine gL [] (jg (.pointer (some ⟨(L.b ok), 0, none⟩))) ?_
   rintro _ _ ⟨rfl, rfl⟩
   refine gK 1 [(55, .bool true)] [] ?_
   refine NN ?_
   refine CT ?_
   refine SR ?_
   refine gK 1 [(10, .int .i64 172)] [] ?_
   refine NN (af.ret (aj.av (aj.av ?_)))
   exact RT (.int .i64 172) [0, 1, 2, 3, 4, 5, 6] (⟨L, by rw [show renameM S d name to toName = (172, S) by unfold renameM; rw [hlk]; refine (if_neg (fun h => absurd h.1 (by simp))).trans ?_; rw [bp]; exact (if_neg (fun e => by cases e)).trans (if_pos rfl)] <;> exact ⟨rfl, rfl⟩⟩)
  ·
   have jT : (obj S.O ok).kind = 3 := hI.kind dO
   refine af.region ?_
   refine gK 5 (rP L to toName) [(3, v_ 3 (bE L dg))] ?_
   refine gF 5 dg bp ?_
   refine gK 1 [(15, .iface 95 (.pointer (some ⟨(L.b ok), 0, none⟩)))] [] ?_
   refine NN (af.seq (SR ?_))
   refine gK 2 [(48, .iface 95 (.pointer (some ⟨(L.b ok), 0, none⟩))), (49, .iface 95 (.pointer (some ⟨(L.b tk), 0, none⟩)))] [] ?_
   refine ah.fO (d := (some 50)) (op := .binOp .eql 87 (.tmp 48) (.tmp 49) 87) (v := .bool (decide (ok = tk))) (fun _ => by kernel_rfl) (fun o junk w ho hS => by obtain ⟨F, hF⟩ := hS.get (i := 3) rfl; exact ⟨w, vm Jr ho (by kernel_rfl) (by kernel_rfl) (by rw [jT]; decide) (by rw [hkt]; decide) hF, hS⟩) ?_
   refine NN ?_
   refine af.bH (p := ok = tk) (fun _ => by kernel_rfl) (fun h50 => ?_) (fun h50 => ?_)
   ·
    refine SR ?_
    refine gK 1 [(10, .int .i64 0)] [] ?_
    refine NN (af.ret (aj.av ?_))
    exact RT (.int .i64 0) [0, 1, 2, 3, 4, 5, 6] (⟨L, by rw [show renameM S d name to toName = (0, S) by unfold renameM; rw [hlk]; refine (if_neg (fun h => absurd h.1 (by simp))).trans ?_; rw [bp]; exact if_pos (by rw [h50])] <;> exact ⟨rfl, rfl⟩⟩)
   ·
    refine af.skip (NX (af.seq (SR ?_)))
    refine gK 2 [(52, .bool true)] [] ?_
    refine NN ?_
    refine CT ?_
    refine af.seq (SR ?_)
    refine gK 1 [(53, .iface 95 (.pointer (some ⟨(L.b ok), 0, none⟩)))] [] ?_
    refine gL [] (jN (.pointer (some ⟨(L.b ok), 0, none⟩))) ?_
    rintro _ _ ⟨rfl, rfl⟩
    refine gK 1 [(55, .bool false)] [] ?_
    refine NN ?_
    refine CF ?_
    refine af.skip (NX (af.seq (SR ?_)))
    refine gK 1 [(56, .bool false)] [] ?_
    refine NN ?_
    refine CF ?_
    refine af.skip (NX (af.region ?_))
    refine gK 3 (GS f L to toName) [] ?_
    refine gL [0, 3, 5, 1] (kQ S L f m t hI to hto toName oV ⟨ok, 3⟩ bp) ?_
    rintro _ _ ⟨rfl, rfl⟩
    refine NS ?_
    have bN : Inv (ar S to toName ⟨ok, 3⟩) := hI.ud hto bp (by simp)
    have hot : (⟨ok, 3⟩ : Th) ≠ ⟨tk, 3⟩ := fun e => h50 (congrArg Th.k e)
    have hd1 : Live (ar S to toName ⟨ok, 3⟩).idx ⟨d, 2⟩ := gA hI.toInv0 hto bp hd (fun e => by have := eB hd dO e; cases this)
    have gT : Live (ar S to toName ⟨ok, 3⟩).idx ⟨to, 2⟩ := gA hI.toInv0 hto bp hto (fun e => by have := eB hto dO e; cases this)
    have dF : aT name (obj (ar S to toName ⟨ok, 3⟩).O d).ai = some ⟨tk, 3⟩ := nw hI.toInv0 hto bp hlk hot
    have mE : aT toName (obj (ar S to toName ⟨ok, 3⟩).O to).ai = none := ny hI.toInv0 hto bp
    have gS : (obj (ar S to toName ⟨ok, 3⟩).O d).kind = 2 := bN.kind hd1
    have mF : (obj (ar S to toName ⟨ok, 3⟩).O to).kind = 2 := bN.kind gT
    have iU : Live (ar S to toName ⟨ok, 3⟩).idx ⟨tk, 3⟩ := (bN.ent hd1 dF).2
    have iV : (obj (ar S to toName ⟨ok, 3⟩).O tk).kind = 3 := bN.kind iU
    have xD : (obj (ar S to toName ⟨ok, 3⟩).O d).ai.length ≤ 8192 := bN.eG hd1
    have xE : (obj (ar S to toName ⟨ok, 3⟩).O to).ai.length ≤ 8192 := bN.eG gT
    have mG := bN.lb iU
    have iW : tk ≠ d := bN.ne hd1 dF
    refine gK 3 (z6 f L d name) [] ?_
    refine gL [0, 1, 2] (gu (ar S to toName ⟨ok, 3⟩).X f m t bN.hX (ar S to toName ⟨ok, 3⟩).O L d gS name hsz ⟨tk, 3⟩ iV (by simp) dF (bN.twice hd1) (by omega) (by simp only at mG ⊢; omega)) ?_
    rintro _ _ ⟨rfl, rfl⟩
    refine NS ?_
    refine gK 4 (z7 f L to toName ++ [(68, .iface 95 (.pointer (some ⟨(L.b tk), 0, none⟩)))]) [] ?_
    refine gL [0, 1, 2] (fo { (ar S to toName ⟨ok, 3⟩).X with ai := (ar S to toName ⟨ok, 3⟩).X.ai - 1 } f m t (bN.uw hd1 dF) (aG (ar S to toName ⟨ok, 3⟩).X (ar S to toName ⟨ok, 3⟩).O d name ⟨tk, 3⟩) L to (bS.trans mF) toName oV (iu iW mE) (Nat.le_trans (jS iW) (by omega)) ⟨tk, 3⟩ (bS.trans iV) (by simp) (iD bN.toInv0 hd1 dF)) ?_
    rintro _ _ ⟨rfl, rfl⟩
    refine NS ?_
    refine ah.mem (aK := [.blk f [.int .i64 ((ar S to toName ⟨ok, 3⟩).X.cN), .int .i64 ((ar S to toName ⟨ok, 3⟩).X.cB), .int .i64 ((ar S to toName ⟨ok, 3⟩).X.cH), .int .i64 ((ar S to toName ⟨ok, 3⟩).X.cS), .int .i64 ((ar S to toName ⟨ok, 3⟩).X.cZ), .map (some m), .pointer (some ⟨t, 0, none⟩), .int .i64 ((ar S to toName ⟨ok, 3⟩).X.last), .int .i64 ((ar S to toName ⟨ok, 3⟩).X.ai - 1 + 1), .int .i64 ((ar S to toName ⟨ok, 3⟩).X.used)] 89, .abs (aq (aS (bh (ar S to toName ⟨ok, 3⟩).X (aG (ar S to toName ⟨ok, 3⟩).X (ar S to toName ⟨ok, 3⟩).O d name ⟨tk, 3⟩) to toName ⟨tk, 3⟩) L)), .abs (aq (bw (bh (ar S to toName ⟨ok, 3⟩).X (aG (ar S to toName ⟨ok, 3⟩).X (ar S to toName ⟨ok, 3⟩).O d name ⟨tk, 3⟩) to toName ⟨tk, 3⟩) L)), .abs (aC Tryz.prog 3 m (aN (aJ L ((ar S to toName ⟨ok, 3⟩).idx))) (((ar S to toName ⟨ok, 3⟩).idx).length)), .abs (aZ 143 t S.X.cH S.au (aJ L S.us)), .abs (aq (aY (bh (ar S to toName ⟨ok, 3⟩).X (aG (ar S to toName ⟨ok, 3⟩).X (ar S to toName ⟨ok, 3⟩).O d name ⟨tk, 3⟩) to toName ⟨tk, 3⟩) L)), .abs R]) (fun w hS => by rw [show aY (bh (ar S to toName ⟨ok, 3⟩).X (aG (ar S to toName ⟨ok, 3⟩).X (ar S to toName ⟨ok, 3⟩).O d name ⟨tk, 3⟩) to toName ⟨tk, 3⟩) L = aY S.O L from fw.trans (iq.trans kR)]; exact hS) ?_
    refine gK 1 [(10, .int .i64 0)] [] ?_
    refine NN (af.ret ?_)
    exact RT (.int .i64 0) [0, 3, 4, 1, 5, 2, 6] (⟨L, by rw [show renameM S d name to toName = (0, kI (ar S to toName ⟨ok, 3⟩) d name to toName ⟨tk, 3⟩) by unfold renameM; rw [hlk]; refine (if_neg (fun h => absurd h.1 (by simp))).trans ?_; rw [bp]; exact (if_neg (fun e => h50 (congrArg Th.k e))).trans ((if_neg (by simp)).trans (if_neg (by simp)))] <;> exact ⟨rfl, rfl⟩⟩)
end Go.Proofs.YtkiedlmhocglhaaGreat
end
section
namespace Go.Proofs.YtkiedlmhocglhaaGreat
open Go.RowKit Go.Maps HeapM TabM
theorem bO.take {β : Bs} {A : Option Addr} {d : List UInt8} (h : bO β A d) (n : Nat) : bO β A (d.take n) := by
  intro j v hj
  refine h j v ?_
  unfold bD at hj ⊢
  rw [List.map_take] at hj
  rw [List.getElem?_take] at hj
  split at hj
  · exact hj
  · cases hj
theorem wv {a b : List UInt8} : bD (a ++ b) = bD a ++ bD b := List.map_append
theorem Inv0.KV {S : aH} {t : Th} (h : Inv0 S) (hl : Live S.idx t) : ((obj S.O t.k).data.length : Int) ≤ S.X.used := by
  have h1 := h.used
  have h2 : (obj S.O t.k).data.length ≤ bytes S.idx S.O := lp (g := fun p : Int × Th => (obj S.O p.2.k).data.length) hl
  omega
theorem Ec {X : FM} {n : Nat} (h : 0 < X.cB - X.used) : min (n : Int) (X.cB - X.used) = (aV X n : Int) := by
  unfold aV
  omega
theorem Ed {X : FM} {n : Nat} (h : 0 < X.cB - X.used) : aV X n ≤ n ∧ (aV X n : Int) ≤ X.cB - X.used := by
  unfold aV
  omega
section data
variable {O : bM} {us : Used Th} {L L' : HL} {k c : Nat} {A : Option Addr} {t : Th}
theorem z8 (hL : L' = L.data k A c) : aJ L' us = aJ L us := by subst hL; rfl
theorem FJ (hL : L' = L.data k A c) : bw O L' = bw O L := by
  subst hL
  funext x
  rfl
theorem FK (hL : L' = L.data k A c) {x : Nat} (h : x ≠ k) : aS O L' x = aS O L x := by
  have e2 : d8 L' x (obj O x) = d8 L x (obj O x) := by
    subst hL
    unfold d8 tU
    simp only [HL.data, if_neg h]
    rfl
  unfold aS
  rw [e2]
  subst hL
  rfl
theorem FL (hL : L' = L.data k A c) {x : Nat} (h : x ≠ k) : aY O L' x = aY O L x := by
  unfold aY
  subst hL
  simp only [HL.data, if_neg h]
theorem BH (hL : L' = L.data k A c) : L'.dA k = A := by subst hL; exact if_pos rfl
theorem BI (hL : L' = L.data k A c) : L'.dC k = c := by subst hL; exact if_pos rfl
theorem Ee (hL : L' = L.data k A c) {x : Nat} : L'.b x = L.b x := by subst hL; rfl
end data
section sat
variable {β : Bs} {l l' : List HP} {w : World} {i j k c n : Nat} {O : bM} {L L' : HL} {f : aM → aM} {cs : List Value} {T : TypeId} {ix : List Nat} {A : Option Addr} {R : Nat → bJ} {xs : List Value}
theorem Sat.JF (h : Sat β l w) (hL : L' = L.data k A c) (hp : l[i]? = some (.abs (aq (gP (aS O L) k bJ.none)))) (hq : l[j]? = some (.blk (L.b k) cs T)) (hd : br (i :: j :: ix) = true) (hl : bI l ix = some l') (h0 : (f (obj O k)).kind ≠ 0) (hc : d8 L' k (f (obj O k)) = cs) (hT : kg (f (obj O k)).kind = T) : Sat β (.abs (aq (aS (aB O k f) L')) :: l') w := by
  refine h.nV (a := uV (L.b k) cs T) hp hq (fun _ _ h => h) hd hl k (fun x hx => ?_) (by rw [qx, if_neg h0, hc, hT, Ee hL])
  rw [qy hx, FK hL hx, kZ hx]
theorem Sat.JG (h : Sat β l w) (hL : L' = L.data k A c) (hp : l[i]? = some (.abs (aq (gP (aY O L) k bJ.none)))) (hq : l[j]? = some (.abs (aF 5 1 A n c xs))) (hd : br (i :: j :: ix) = true) (hl : bI l ix = some l') (h1 : (f (obj O k)).kind = 1) (hn : n = (f (obj O k)).data.length) (hx : xs = bD (f (obj O k)).data) : Sat β (.abs (aq (aY (aB O k f) L')) :: l') w := by
  refine h.nV hp hq (fun _ _ h => h) hd hl k (fun x hx => by rw [sB hx, FL hL hx, kZ hx]) ?_
  rw [oI (by rw [bA]; exact h1), bA, BH hL, BI hL, hn, hx]
end sat
end Go.Proofs.YtkiedlmhocglhaaGreat
end
section
namespace Go.Proofs.YtkiedlmhocglhaaGreat
open Go.RowKit Go.Maps HeapM TabM
attribute [local irreducible] ah aI af aj
abbrev Lj (S : aH) (L : HL) (k : Nat) := (.abs (aq (gP (aY S.O L) k bJ.none)) : HP)
abbrev JH (A1 : Option Addr) (S : aH) (k : Nat) (bs : List UInt8) (c2 : Nat) := (.abs (aF 5 1 A1 (((obj S.O k).data ++ bs.take (aV S.X bs.length)).length) c2 (bD ((obj S.O k).data ++ bs.take (aV S.X bs.length)))) : HP)
abbrev Ef (f : Nat) (m : Nat) (t) (S : aH) (L : HL) (k : Nat) (R : bJ) := ([pF f m t S.X, pI m L S.idx, pT t S.X.cH S.au L S.us, pO S.O L, Lj S L k, pE S.O L, .abs R] : List HP)
set_option maxRecDepth 100000 in
set_option maxHeartbeats 4000000 in
theorem Eg {β : Bs} (S : aH) (L : HL) (f m t : Nat) (hI : Inv S) (k : Nat) (hk : Live S.idx ⟨k, 1⟩) (A : Option Addr) (c : Nat) (bs : List UInt8) (hA : bO β A bs) (hbl : bs.length ≤ 1099511627776) (hbc : bs.length ≤ c) :
    Spec Tryz.prog β 121 #[.pointer (some ⟨f, 0, none⟩), .pointer (some ⟨(L.b k), 0, none⟩), .slice A (bs.length) (c)] (pA f m t L S) (fun v l => ∃ L2, v = .tuple #[.int .i64 (writeM S k bs).1, .int .i64 (writeM S k bs).2.1] ∧ l = (pA f m t L2 ((writeM S k bs).2.2))) := by
 have hX := hI.hX
 have hkk : (obj S.O k).kind = 1 := hI.kind hk
 have NV : ((obj S.O k).data.length : Int) ≤ S.X.used := hI.KV hk
 have hcB := hI.cB
 refine Spec.enter Tryz.func121 rfl Tryz.ntmps121 (Nat.le_of_ble_eq_true rfl) (fun R => ?_)
 refine SR ?_
 refine gK 2 [] [] ?_
 refine NN (af.seq (SR ?_))
 refine gK 3 [(12, .bool (decide ((((bs.length : Nat) : Int) : Int) = (0 : Int))))] [] ?_
 refine NN ?_
 refine af.bH (p := (((bs.length : Nat) : Int) : Int) = (0 : Int)) (fun _ => by kernel_rfl) (fun h12 => ?_) (fun h12 => ?_)
 ·
  have he : bs = [] := List.eq_nil_of_length_eq_zero (by omega)
  refine SR ?_
  refine gK 2 [(6, .int .i64 0), (7, .int .i64 0)] [] ?_
  refine NN (af.ret (aj.av ?_))
  exact RT (.tuple #[.int .i64 0, .int .i64 0]) [0, 1, 2, 3, 4, 5, 6] (⟨L, by rw [show writeM S k bs = (0, 0, S) from if_pos he] <;> exact ⟨rfl, rfl⟩⟩)
 ·
  have hlen : 0 < bs.length := by omega
  refine af.skip (NX (af.seq ?_))
  refine af.bC (by kernel_rfl) (by kernel_rfl) ?_
  refine gQ 11 [(8, .int .i64 (S.X.cB - S.X.used))] [(4, a_ 0 f), (8, a_ 0 f), (9, p_ ⟨[], none, none, none, some (.int .i64 (S.X.cB - S.X.used))⟩ [(Value.int .i64 (IntKind.wrap .i64 (S.X.cB - S.X.used))) = (.int .i64 (S.X.cB - S.X.used))] ⟨bQ (by omega) (by omega) (by omega), trivial⟩)] ?_
  refine NQ (NX (af.seq (SR ?_)))
  refine gK 2 [(24, .bool (decide ((S.X.cB - S.X.used : Int) ≤ (0 : Int))))] [] ?_
  refine NN ?_
  refine af.bH (p := (S.X.cB - S.X.used : Int) ≤ (0 : Int)) (fun _ => by kernel_rfl) (fun wz => ?_) (fun wz => ?_)
  ·
   refine SR ?_
   refine gK 2 [(6, .int .i64 0), (7, .int .i64 176)] [] ?_
   refine NN (af.ret (aj.av ?_))
   exact RT (.tuple #[.int .i64 0, .int .i64 176]) [0, 1, 2, 3, 4, 5, 6] (⟨L, by rw [show writeM S k bs = (0, 176, S) from (if_neg (fun e => by rw [e] at hlen; exact absurd hlen (by simp))).trans (if_pos wz)] <;> exact ⟨rfl, rfl⟩⟩)
  ·
   refine af.skip (NX (SR ?_))
   refine gK 4 [(28, .int .i64 (min ((bs.length : Nat) : Int) (S.X.cB - S.X.used)))] [(3, p_ ⟨[], none, none, none, some (.int .i64 (min ((bs.length : Nat) : Int) (S.X.cB - S.X.used)))⟩ [(Value.int .i64 (if S.X.cB - S.X.used < ((bs.length : Nat) : Int) then S.X.cB - S.X.used else ((bs.length : Nat) : Int))) = (.int .i64 (min ((bs.length : Nat) : Int) (S.X.cB - S.X.used)))] ⟨congrArg (Value.int .i64) (GI _ _), trivial⟩)] ?_
   refine ah.slot 28 (.int .i64 (min ((bs.length : Nat) : Int) (S.X.cB - S.X.used))) (.int .i64 ↑(aV S.X bs.length)) (fun _ => by kernel_rfl) (congrArg (Value.int .i64) (Ec (by omega))) ?_
   refine gK 1 [(9, .int .i64 ↑(aV S.X bs.length))] [] ?_
   refine NN (af.seq ?_)
   have hwl := Ed (X := S.X) (n := bs.length) (by omega)
   ·
    refine af.mem (aK := (Ef f m t S L k R ++ [.abs (aF 5 1 (L.dA k) ((obj S.O k).data.length) (L.dC k) (bD (obj S.O k).data))])) (fun w hS => hS.DB (i := 4) (k := k) rfl hkk) ?_
    refine af.bT (S := (Ef f m t S L k R)) [0, 1, 2, 3, 4, 5, 6, 7, 8, 9, 10, 11] 8 [0, 1, 2, 3, 4, 5, 6] (by kernel_rfl) (by kernel_rfl) rfl (by kernel_rfl) ?_
    refine aD.reads (r := 0) (l := [8, 9, 10, 11]) (fr' := [(0, vP f), (1, vP (L.b k)), (9, vI ↑(aV S.X bs.length)), (29, vP (L.b k)), (33, .slice (L.dA k) ((obj S.O k).data.length) ((L.dC k))), (36, .slice A ((aV S.X bs.length)) (c))]) (ak := [(((aV S.X bs.length) : Nat) : Int) = (((aV S.X bs.length) : Nat) : Int), (aV S.X bs.length) ≤ c, (∀ F w, (aq (aS S.O L)).h F w → w.cell? ⟨(L.b k), 9, none⟩ = some (.slice (L.dA k) ((obj S.O k).data.length) ((L.dC k))))]) [0, 1, 2, 3, 4, 5, 6, 7] [o_, o_, o_, o_, ⟨[.view 3 (.slice (L.dA k) ((obj S.O k).data.length) ((L.dC k)))], none, none, none, none⟩, o_, o_, ⟨[], some (aV S.X bs.length), none, none, none⟩] [0, 1, 9, 29, 33, 36] (fun _ => by kernel_rfl) ⟨rfl, by omega, bg (by rw [hkk]; decide) (by rw [ef (hkk)]; rfl), trivial⟩ rfl rfl ?_
    refine aD.cut (ι := (Option Addr) × Nat) (fr' := fun ((A1, c2) : (Option Addr) × Nat) => [(0, vP f), (1, vP (L.b k)), (9, vI ↑(aV S.X bs.length)), (29, vP (L.b k)), (37, .slice A1 (((obj S.O k).data ++ bs.take (aV S.X bs.length)).length) (c2))]) (hp' := fun ((A1, c2) : (Option Addr) × Nat) => (Ef f m t S L k R ++ [JH A1 S k bs c2])) [0, 1, 2, 3, 4, 5, 6] rfl rfl ?_ rfl (fun _ => by kernel_rfl) ?_
    ·
     refine ah.append 7 (d := (some 37)) (t := 22) (e := 5) (z := .int .u8 0) (size := 1) (bytes := 1) (n := (obj S.O k).data.length) (cap := (L.dC k)) (A := (L.dA k)) (xs := (bD (obj S.O k).data)) (s := (.tmp 33)) (x := (.tmp 36)) (ats := #[22, 22]) (A' := A) (m := (aV S.X bs.length)) (c' := c) (news := (bD (bs.take (aV S.X bs.length)))) (fun _ => by kernel_rfl) rfl (by kernel_rfl) (fun _ => by kernel_rfl) (fun _ => by kernel_rfl) Tryz.underlying22 (by kernel_rfl) rfl (by decide) (by rw [nU, List.length_take, Nat.min_eq_left hwl.1, Nat.mul_one]) (kG (bs.take (aV S.X bs.length))) ((hA.take (aV S.X bs.length)).src) (by unfold maxLen; omega) (by omega) (fun A1 c2 => ?_)
     refine ah.eP 7 (p := .abs (aF 5 1 A1 (((obj S.O k).data.length) + (aV S.X bs.length)) c2 ((bD (obj S.O k).data) ++ (bD (bs.take (aV S.X bs.length)))))) (p' := .abs (aF 5 1 A1 (((obj S.O k).data ++ bs.take (aV S.X bs.length)).length) c2 (bD ((obj S.O k).data ++ bs.take (aV S.X bs.length))))) (by kernel_rfl) (by rw [wv, List.length_append, List.length_take, Nat.min_eq_left hwl.1]) ?_
     refine ah.slot 37 (.slice A1 (((obj S.O k).data.length) + (aV S.X bs.length)) (c2)) (.slice A1 (((obj S.O k).data ++ bs.take (aV S.X bs.length)).length) (c2)) (fun _ => by kernel_rfl) (by rw [List.length_append, List.length_take, Nat.min_eq_left hwl.1]) ?_
     refine NL ?_
     exact MD (A1, c2) [0, 1, 9, 29, 37] [0, 1, 2, 3, 4, 5, 6, 7]
    rintro ⟨A1, c2⟩
    refine aD.cut (ι := Unit) (fr' := fun (_ : Unit) => [(0, vP f), (1, vP (L.b k)), (9, vI ↑(aV S.X bs.length)), (37, .slice A1 (((obj S.O k).data ++ bs.take (aV S.X bs.length)).length) (c2)), (38, vP (L.b k))]) (hp' := fun (_ : Unit) => (Ef f m t S L k R ++ [JH A1 S k bs c2])) [0, 1, 2, 3, 4, 5, 6] rfl rfl ?_ rfl (fun _ => by kernel_rfl) ?_
    ·
     refine gK 1 [(38, .pointer (some ⟨(L.b k), 0, none⟩))] [] ?_
     refine NL ?_
     exact MD () [0, 1, 9, 37, 38] [0, 1, 2, 3, 4, 5, 6, 7]
    rintro _
    refine aD.cut (ι := Unit) (fr' := fun (_ : Unit) => [(0, vP f), (1, vP (L.b k)), (9, vI ↑(aV S.X bs.length)), (37, .slice A1 (((obj S.O k).data ++ bs.take (aV S.X bs.length)).length) (c2)), (39, .pointer (some ⟨(L.b k), 9, none⟩))]) (hp' := fun (_ : Unit) => (Ef f m t S L k R ++ [JH A1 S k bs c2])) [0, 1, 2, 3, 4, 5, 6] rfl rfl ?_ rfl (fun _ => by kernel_rfl) ?_
    ·
     refine gK 1 [(39, .pointer (some ⟨(L.b k), 9, none⟩))] [] ?_
     refine NL ?_
     exact MD () [0, 1, 9, 37, 39] [0, 1, 2, 3, 4, 5, 6, 7]
    rintro _
    refine aD.last rfl rfl ?_
    refine ah.mem (aK := [.blk f [.int .i64 (S.X.cN), .int .i64 (S.X.cB), .int .i64 (S.X.cH), .int .i64 (S.X.cS), .int .i64 (S.X.cZ), .map (some m), .pointer (some ⟨t, 0, none⟩), .int .i64 (S.X.last), .int .i64 (S.X.ai), .int .i64 (S.X.used)] 89, .abs (aC Tryz.prog 3 m (aN (aJ L S.idx)) S.idx.length), .abs (aZ 143 t S.X.cH S.au (aJ L S.us)), .abs (aq (gP (aS S.O L) k bJ.none)), .abs (aq (gP (aY S.O L) k bJ.none)), .abs (aq (bw S.O L)), .abs R, .abs (aF 5 1 A1 (((obj S.O k).data ++ bs.take (aV S.X bs.length)).length) c2 (bD ((obj S.O k).data ++ bs.take (aV S.X bs.length)))), .blk (L.b k) [.int .i64 ((obj S.O k).id), .int .i64 ((obj S.O k).mode), .int .i64 ((obj S.O k).uid), .int .i64 ((obj S.O k).gid), .int .i64 ((obj S.O k).sec), .int .i64 ((obj S.O k).nano), .int .i64 ((obj S.O k).links), .int .i64 ((obj S.O k).opens), .bool (obj S.O k).gone, .slice (L.dA k) ((obj S.O k).data.length) ((L.dC k))] 94]) (fun w hS => hS.sE (i := 3) (k := k) rfl (by rw [hkk]; decide) (ef (hkk)) (by rw [hkk]; rfl)) ?_
    refine gC 1 [] [(0, a_ 8 (L.b k))] [(8, [(9, .slice A1 (((obj S.O k).data ++ bs.take (aV S.X bs.length)).length) (c2))])] ?_
    obtain ⟨L2, hL2⟩ : ∃ L2 : HL, L2 = L.data k A1 c2 := ⟨_, rfl⟩
    refine ah.mem (aK := [.abs (aq (aS (aB S.O k (fun o => { o with data := o.data ++ bs.take (aV S.X bs.length) })) L2)), .blk f [.int .i64 (S.X.cN), .int .i64 (S.X.cB), .int .i64 (S.X.cH), .int .i64 (S.X.cS), .int .i64 (S.X.cZ), .map (some m), .pointer (some ⟨t, 0, none⟩), .int .i64 (S.X.last), .int .i64 (S.X.ai), .int .i64 (S.X.used)] 89, .abs (aC Tryz.prog 3 m (aN (aJ L S.idx)) S.idx.length), .abs (aZ 143 t S.X.cH S.au (aJ L S.us)), .abs (aq (gP (aY S.O L) k bJ.none)), .abs (aq (bw S.O L)), .abs R, .abs (aF 5 1 A1 (((obj S.O k).data ++ bs.take (aV S.X bs.length)).length) c2 (bD ((obj S.O k).data ++ bs.take (aV S.X bs.length))))]) (fun w hS => hS.JF hL2 (f := (fun o => { o with data := o.data ++ bs.take (aV S.X bs.length) })) (i := 3) (j := 8) (ix := [0, 1, 2, 4, 5, 6, 7]) rfl rfl (by kernel_rfl) rfl (by show (obj S.O k).kind ≠ 0; rw [hkk]; decide) ((ef (L := L2) (k := k) (o := (fun o => { o with data := o.data ++ bs.take (aV S.X bs.length) }) (obj S.O k)) hkk).trans (by rw [BH hL2, BI hL2] <;> rfl)) (by show kg (obj S.O k).kind = _; rw [hkk]; rfl)) ?_
    refine ah.mem (aK := [pD (aB S.O k (fun o => { o with data := o.data ++ bs.take (aV S.X bs.length) })) L2, pO (aB S.O k (fun o => { o with data := o.data ++ bs.take (aV S.X bs.length) })) L2, pF f m t S.X, pI m L S.idx, pT t S.X.cH S.au L S.us, pE S.O L, .abs R]) (fun w hS => hS.JG hL2 (f := (fun o => { o with data := o.data ++ bs.take (aV S.X bs.length) })) (i := 4) (j := 7) (ix := [0, 1, 2, 3, 5, 6]) rfl rfl (by kernel_rfl) rfl hkk rfl rfl) ?_
    refine ah.mem (aK := [.abs (aq (aY (aB S.O k (fun o => { o with data := o.data ++ bs.take (aV S.X bs.length) })) L2)), .abs (aq (aS (aB S.O k (fun o => { o with data := o.data ++ bs.take (aV S.X bs.length) })) L2)), .blk f [.int .i64 (S.X.cN), .int .i64 (S.X.cB), .int .i64 (S.X.cH), .int .i64 (S.X.cS), .int .i64 (S.X.cZ), .map (some m), .pointer (some ⟨t, 0, none⟩), .int .i64 (S.X.last), .int .i64 (S.X.ai), .int .i64 (S.X.used)] 89, .abs (aC Tryz.prog 3 m (aN (aJ L2 S.idx)) S.idx.length), .abs (aZ 143 t S.X.cH S.au (aJ L2 S.us)), .abs (aq (bw (aB S.O k (fun o => { o with data := o.data ++ bs.take (aV S.X bs.length) })) L2)), .abs R]) (fun w hS => by rw [z8 hL2, z8 hL2, show bw (aB S.O k (fun o => { o with data := o.data ++ bs.take (aV S.X bs.length) })) L2 = bw S.O L from (j3 (O := S.O) (k := k) (f := (fun o => { o with data := o.data ++ bs.take (aV S.X bs.length) })) rfl rfl).trans (FJ hL2)]; exact hS) ?_
    have xw : (obj (aB S.O k (fun o => { o with data := o.data ++ bs.take (aV S.X bs.length) })) k).kind = 1 := (gE (f := (fun o => { o with data := o.data ++ bs.take (aV S.X bs.length) })) (fun _ => rfl)).trans hkk
    have hbk : L2.b k = L.b k := Ee hL2
    generalize bK : (aB S.O k (fun o => { o with data := o.data ++ bs.take (aV S.X bs.length) })) = bF at xw ⊢
    refine NL (aj.np (NX (SR ?_)))
    refine gK 1 [(40, .pointer (some ⟨(L.b k), 0, none⟩))] [] ?_
    refine ah.slot 40 (.pointer (some ⟨(L.b k), 0, none⟩)) (.pointer (some ⟨(L2.b k), 0, none⟩)) (fun _ => by kernel_rfl) (by rw [hbk]) ?_
    refine gK 8 [(45, .agg #[.int .i64 (S.X.cS), .int .i64 (S.X.cZ)]), (48, .pointer (some ⟨(L2.b k), 4, none⟩))] [(4, A_ 2 f 2)] ?_
    refine DH 1 [(5, 1), (0, 2)] k S.X.cS S.X.cZ xw (fun cU cq => ?_)
    have sF := ku cq xw
    refine NS ?_
    refine gC 9 [] [(3, a_ 2 f), (5, p_ ⟨[], none, none, none, some (.int .i64 (S.X.used + (((aV S.X bs.length) : Nat) : Int)))⟩ [(Value.int .i64 (IntKind.wrap .i64 (S.X.used + (((aV S.X bs.length) : Nat) : Int)))) = (.int .i64 (S.X.used + (((aV S.X bs.length) : Nat) : Int)))] ⟨bQ (by omega) (by omega) (by omega), trivial⟩), (8, a_ 2 f)] [(2, [(9, .int .i64 (S.X.used + (((aV S.X bs.length) : Nat) : Int)))])] ?_
    refine NS ?_
    refine gK 3 [(6, .int .i64 ↑(aV S.X bs.length)), (7, .int .i64 0)] [] ?_
    refine NN (af.ret ?_)
    exact RT (l := [pF f m t { S.X with used := S.X.used + (((aV S.X bs.length) : Nat) : Int) }, pI m L2 S.idx, pT t S.X.cH S.au L2 S.us, pO cU L2, pD cU L2, pE cU L2]) (.tuple #[.int .i64 ↑(aV S.X bs.length), .int .i64 0]) [2, 3, 4, 1, 0, 5, 6] (⟨L2, by subst cq; subst bK; rw [show writeM S k bs = _ from (if_neg (fun e => by rw [e] at hlen; exact absurd hlen (by simp))).trans (if_neg wz)]; exact ⟨rfl, by rw [pK]⟩⟩)
end Go.Proofs.YtkiedlmhocglhaaGreat
end
section
namespace Go.Proofs.YtkiedlmhocglhaaGreat
open Go.RowKit Go.Maps HeapM TabM
structure dR (β : Bs) (c : aU) : Prop where
  hw : (Lit.int .i64 c.handle).wf = true
  ow : (Lit.int .i64 c.other).wf = true
  nm : c.name.size ≤ 1048576
  tx : c.text.size ≤ 1048576
  da : bO β c.dA c.data
  dl : c.data.length ≤ 1099511627776
  dc : c.data.length ≤ c.dC
theorem dR.le {β β' : Bs} {c : aU} (h : dR β c) (hle : β.le β') : dR β' c := ⟨h.hw, h.ow, h.nm, h.tx, h.da.le hle, h.dl, h.dc⟩
section facts
variable {S : aH} {h : Int} {name : ByteArray} {need : Int} {t : Th} {c : aU}
theorem jm (hI : Inv0 S) (h : Int) (name : ByteArray) (need : Int) : (∃ e, cx S.O S.us h name need = .error e ∧ e ≠ 0) ∨ ∃ d, cx S.O S.us h name need = .ok d ∧ Live S.idx ⟨d, 2⟩ ∧ (obj S.O d).gone = false ∧ cC name ∧ TabM.get S.us h = some ⟨d, 2⟩ := by
  unfold cx
  cases e : TabM.get S.us h with
  | none => exact .inl ⟨131, rfl, by decide⟩
  | some t =>
    simp only
    split
    · rename_i hk
      split
      · exact .inl ⟨170, rfl, by decide⟩
      · rename_i hg
        split
        · rename_i hn
          split
          · obtain ⟨k, kd⟩ := t
            simp only at hk
            subst hk
            exact .inr ⟨k, rfl, (hI.us h _ e).1, by simpa using hg, hn, rfl⟩
          · exact .inl ⟨175, rfl, by decide⟩
        · exact .inl ⟨95, rfl, by decide⟩
    · exact .inl ⟨173, rfl, by decide⟩
theorem wA (hI : Inv0 S) (c : aU) : (∃ e, d6 S.O S.us c = .error e ∧ e ≠ 0) ∨ (∃ k, d6 S.O S.us c = .ok ⟨k, 1⟩ ∧ Live S.idx ⟨k, 1⟩) ∨ (∃ k, d6 S.O S.us c = .ok ⟨k, 2⟩ ∧ Live S.idx ⟨k, 2⟩) ∨ ∃ k, d6 S.O S.us c = .ok ⟨k, 3⟩ ∧ Live S.idx ⟨k, 3⟩ := by
  unfold d6
  rcases jm hI c.handle c.name 64 with ⟨e, h1, h2⟩ | ⟨d, h1, h2, _⟩
  · rw [h1]; exact .inl ⟨e, rfl, h2⟩
  · rw [h1]
    simp only
    rcases hI.kK h2 c.name with h3 | ⟨k, h3, h4⟩ | ⟨k, h3, h4⟩ | ⟨k, h3, h4⟩
    · rw [h3]; exact .inl ⟨170, rfl, by decide⟩
    · rw [h3]; exact .inr (.inl ⟨k, rfl, h4⟩)
    · rw [h3]; exact .inr (.inr (.inl ⟨k, rfl, h4⟩))
    · rw [h3]; exact .inr (.inr (.inr ⟨k, rfl, h4⟩))
theorem Aa {L : HL} {us : Used Th} {h : Int} : aJ L (del h us) = del h (aJ L us) := Bx (cM L) h us
theorem BJ {us : Used Th} {h : Int} (e : TabM.get us h = some t) : 0 < hnd us t.k := Nat.lt_of_lt_of_le (by simp) (lp (g := fun p : Int × Th => if p.2.k = t.k then 1 else 0) e)
theorem vn {L : HL} : aY (openM S t).2.2.O L = aY S.O L := by
  by_cases h : (S.us.length : Int) < S.X.cH
  · rw [gy h]; exact oR (fun _ => cI (f := fun o => { o with opens := o.opens + 1 }) (g := aM.data) (fun _ => rfl)) (fun _ => gE (f := fun o => { o with opens := o.opens + 1 }) (fun _ => rfl))
  · rw [jP h]
theorem vo {L : HL} : bw (openM S t).2.2.O L = bw S.O L := by
  by_cases h : (S.us.length : Int) < S.X.cH
  · rw [gy h]; exact j3 (f := fun o => { o with opens := o.opens + 1 }) rfl rfl
  · rw [jP h]
theorem HY : (ij S c).2.2.op = c.op := by unfold ij; (repeat' split) <;> rfl
theorem CJ : (dU S c).2.2.op = c.op := by unfold dU; (repeat' split) <;> rfl
theorem A9 : (dI S c).2.2.op = c.op := by unfold dI; (repeat' split) <;> rfl
theorem CK : (eN S c).2.2.op = c.op := by unfold eN; (repeat' split) <;> rfl
theorem Ba : (dm S c).2.2.op = c.op := by unfold dm; (repeat' split) <;> rfl
theorem Ab : (eH S c).2.2.op = c.op := by unfold eH; (repeat' split) <;> rfl
theorem Eh : (bV S c).2.2.op = c.op := by unfold bV; (repeat' split) <;> rfl
theorem Bb : (eS S c).2.2.op = c.op := by unfold eS; (repeat' split) <;> rfl
theorem CM : (fX S c).2.2.op = c.op := by unfold fX; (repeat' split) <;> rfl
theorem Bc : (eu S c).2.2.op = c.op := by unfold eu; (repeat' split) <;> rfl
theorem CN : (eO S c).2.2.op = c.op := by unfold eO; (repeat' split) <;> rfl
theorem CO : (bB S c).2.2.op = c.op := by unfold bB; (repeat' split) <;> rfl
theorem HZ : (jA S c).2.2.op = c.op := by unfold jA; (repeat' split) <;> rfl
theorem Ei : (eY S c).2.2.op = c.op := by unfold eY; (repeat' split) <;> rfl
theorem FN : (gG S c).2.2.op = c.op := by unfold gG; (repeat' split) <;> rfl
end facts
theorem y4 {S : aH} {c : aU} (h : c.op = 1) : opM S c = ij S c := by
  unfold opM
  simp [h]
theorem y5 {S : aH} {c : aU} (h : c.op = 2) : opM S c = dU S c := by
  unfold opM
  simp [h]
theorem y6 {S : aH} {c : aU} (h : c.op = 3) : opM S c = dI S c := by
  unfold opM
  simp [h]
theorem y7 {S : aH} {c : aU} (h : c.op = 4) : opM S c = eN S c := by
  unfold opM
  simp [h]
theorem CP {S : aH} {c : aU} (h : c.op = 5) : opM S c = dm S c := by
  unfold opM
  simp [h]
theorem CQ {S : aH} {c : aU} (h : c.op = 6) : opM S c = eH S c := by
  unfold opM
  simp [h]
theorem CR {S : aH} {c : aU} (h : c.op = 7) : opM S c = bV S c := by
  unfold opM
  simp [h]
theorem y8 {S : aH} {c : aU} (h : c.op = 8) : opM S c = eS S c := by
  unfold opM
  simp [h]
theorem y9 {S : aH} {c : aU} (h : c.op = 9) : opM S c = eO S c := by
  unfold opM
  simp [h]
theorem Ac {S : aH} {c : aU} (h : c.op = 10) : opM S c = bB S c := by
  unfold opM
  simp [h]
theorem Ad {S : aH} {c : aU} (h : c.op = 11) : opM S c = jA S c := by
  unfold opM
  simp [h]
theorem Af {S : aH} {c : aU} (h : c.op = 12) : opM S c = eY S c := by
  unfold opM
  simp [h]
theorem wB {S : aH} {c : aU} (h : c.op = 13) : opM S c = gG S c := by
  unfold opM
  simp [h]
theorem Ag {S : aH} {c : aU} (h : c.op = 14) : opM S c = fX S c := by
  unfold opM
  simp [h]
theorem Ah {S : aH} {c : aU} (h : c.op = 15) : opM S c = eu S c := by
  unfold opM
  simp [h]
theorem Ai {S : aH} {c : aU} (h : ¬ (1 ≤ c.op ∧ c.op ≤ 15)) : opM S c = (230, S, c) := by
  unfold opM
  repeat rw [if_neg (by omega)]
end Go.Proofs.YtkiedlmhocglhaaGreat
end
section
namespace Go.Proofs.YtkiedlmhocglhaaGreat
open Go.RowKit Go.Maps HeapM TabM
attribute [local irreducible] ah aI af aj
abbrev jo (t) (S : aH) (L : HL) := (pT t S.X.cH S.au L S.us : HP)
abbrev lq (m : Nat) (L : HL) (S : aH) (cb : Nat) (c) (R : bJ) := ([pI m L S.idx, pD S.O L, pE S.O L, pC cb c, .abs R] : List HP)
abbrev GW (f : Nat) (c : aU) := ([(8, .pointer (some ⟨f, 0, none⟩)), (12, .int .i64 (c.handle)), (16, .string c.name)] : Fr)
abbrev Aj (L : HL) (d : Nat) := ([(5, .pointer (some ⟨(L.b d), 0, none⟩)), (6, .int .i64 0)] : Fr)
abbrev l6 (f : Nat) (m : Nat) (t) (S : aH) (L : HL) := ([pF f m t S.X, jo t S L, pO S.O L] : List HP)
abbrev Ej (e) := ([(5, .pointer none), (6, .int .i64 (e))] : Fr)
set_option maxRecDepth 100000 in
set_option maxHeartbeats 4000000 in
theorem fA {β : Bs} (S : aH) (L : HL) (f m t : Nat) (hI : Inv S) (cb : Nat) (c : aU) (hC : dR β c) :
    Spec Tryz.prog β 110 #[.pointer (some ⟨f, 0, none⟩), .pointer (some ⟨cb, 0, none⟩)] ((pA f m t L S) ++ [pC cb c]) (fun v l => v = LZ L (d6 S.O S.us c) ∧ l = ((pA f m t L S) ++ [pC cb c])) := by
 refine Spec.enter Tryz.func110 rfl Tryz.ntmps110 (Nat.le_of_ble_eq_true rfl) (fun R => ?_)
 refine SR ?_
 refine gK 2 [] [] ?_
 refine NN (af.seq ?_)
 refine af.bC (by kernel_rfl) (by kernel_rfl) ?_
 refine gQ 9 [(10, .pointer (some ⟨f, 0, none⟩)), (14, .int .i64 (c.handle)), (18, .string c.name)] [(4, a_ 6 cb), (8, a_ 6 cb)] ?_
 rcases jm hI.toInv0 c.handle c.name 64 with ⟨e, hab, hne⟩ | ⟨d, hab, hd, iK, iL, cD⟩
 ·
  refine aI.call (f := 111) (args := #[.pointer (some ⟨f, 0, none⟩), .int .i64 (c.handle), .string c.name, .int .i64 64]) (d := (some 19)) (pre := (l6 f m t S L)) (R := (lq m L S cb c R)) (pk := [0, 2, 3, 1, 4, 5, 6, 7]) (fN := [0, 3, 1, 2, 4, 5, 6, 7]) (v0 := .tuple #[.pointer none, .int .i64 (e)]) (fun _ => by kernel_rfl) ((by have h := cX S L f m t hI c.handle hC.hw c.name hC.nm 64 (β := β); rw [hab] at h; exact h)) rfl (by kernel_rfl) rfl (by kernel_rfl) (fun _ _ h => h) ?_
  refine gQ 5 [(6, .pointer none), (7, .int .i64 (e))] [] ?_
  refine NQ (NX (af.seq (SR ?_)))
  refine gK 2 [(23, .bool (!(decide ((e : Int) = (0 : Int)))))] [] ?_
  refine NN ?_
  refine af.cT (p := (e : Int) = (0 : Int)) (fun _ => by kernel_rfl) (fun h23 => ?_) (fun h23 => ?_)
  ·
   refine SR ?_
   refine gK 3 [(4, .nilIface), (5, .int .i64 (e))] [] ?_
   refine NN (af.ret (aj.av ?_))
   exact RT (.tuple #[.nilIface, .int .i64 (e)]) [0, 1, 2, 3, 4, 5, 6, 7] (⟨by rw [show d6 S.O S.us c = .error e by unfold d6; rw [hab]]; rfl, rfl⟩)
  ·
   exact absurd h23 hne
 ·
  have hkd : (obj S.O d).kind = 2 := hI.kind hd
  refine aI.call (f := 111) (args := #[.pointer (some ⟨f, 0, none⟩), .int .i64 (c.handle), .string c.name, .int .i64 64]) (d := (some 19)) (pre := (l6 f m t S L)) (R := (lq m L S cb c R)) (pk := [0, 2, 3, 1, 4, 5, 6, 7]) (fN := [0, 3, 1, 2, 4, 5, 6, 7]) (v0 := .tuple #[.pointer (some ⟨(L.b d), 0, none⟩), .int .i64 0]) (fun _ => by kernel_rfl) ((by have h := cX S L f m t hI c.handle hC.hw c.name hC.nm 64 (β := β); rw [hab] at h; exact h)) rfl (by kernel_rfl) rfl (by kernel_rfl) (fun _ _ h => h) ?_
  refine gQ 5 [(6, .pointer (some ⟨(L.b d), 0, none⟩)), (7, .int .i64 0)] [] ?_
  refine NQ (NX (af.seq (SR ?_)))
  refine gK 2 [(23, .bool false)] [] ?_
  refine NN ?_
  refine CF ?_
  refine af.skip (NX (af.seq ?_))
  have hel : (obj S.O d).ai.length ≤ 8192 := hI.eG hd
  have KW := hC.nm
  rcases hI.kK hd c.name with hlk | ⟨tk, hlk, hlv⟩ | ⟨tk, hlk, hlv⟩ | ⟨tk, hlk, hlv⟩
  ·
   refine af.bC (by kernel_rfl) (by kernel_rfl) ?_
   refine gQ 8 [(28, .map (some (L.m d))), (32, .string c.name)] [(3, v_ 3 (bE L hkd)), (7, a_ 6 cb)] ?_
   refine nK 5 hkd hlk ?_
   refine gQ 1 [(8, .nilIface)] [] ?_
   refine NQ (NX (af.seq (SR ?_)))
   refine gK 2 [(35, .bool true)] [] ?_
   refine NN ?_
   refine CT ?_
   refine SR ?_
   refine gK 2 [(4, .nilIface), (5, .int .i64 170)] [] ?_
   refine NN (af.ret (aj.av ?_))
   exact RT (.tuple #[.nilIface, .int .i64 170]) [0, 1, 2, 3, 4, 5, 6, 7] (⟨by rw [show d6 S.O S.us c = .error 170 by unfold d6; rw [hab]; simp only; rw [hlk]]; rfl, rfl⟩)
  ·
   have hkt : (obj S.O tk).kind = 1 := hI.kind hlv
   refine af.bC (by kernel_rfl) (by kernel_rfl) ?_
   refine gQ 8 [(28, .map (some (L.m d))), (32, .string c.name)] [(3, v_ 3 (bE L hkd)), (7, a_ 6 cb)] ?_
   refine nK 5 hkd hlk ?_
   refine gQ 1 [(8, .iface 92 (.pointer (some ⟨(L.b tk), 0, none⟩)))] [] ?_
   refine NQ (NX (af.seq (SR ?_)))
   refine gK 2 [(35, .bool false)] [] ?_
   refine NN ?_
   refine CF ?_
   refine af.skip (NX (SR ?_))
   refine gK 3 [(4, .iface 92 (.pointer (some ⟨(L.b tk), 0, none⟩))), (5, .int .i64 0)] [] ?_
   refine NN (af.ret ?_)
   exact RT (.tuple #[.iface 92 (.pointer (some ⟨(L.b tk), 0, none⟩)), .int .i64 0]) [0, 1, 2, 3, 4, 5, 6, 7] (⟨by rw [show d6 S.O S.us c = .ok ⟨tk, 1⟩ by unfold d6; rw [hab]; simp only; rw [hlk]]; rfl, rfl⟩)
  ·
   have hkt : (obj S.O tk).kind = 2 := hI.kind hlv
   refine af.bC (by kernel_rfl) (by kernel_rfl) ?_
   refine gQ 8 [(28, .map (some (L.m d))), (32, .string c.name)] [(3, v_ 3 (bE L hkd)), (7, a_ 6 cb)] ?_
   refine nK 5 hkd hlk ?_
   refine gQ 1 [(8, .iface 98 (.pointer (some ⟨(L.b tk), 0, none⟩)))] [] ?_
   refine NQ (NX (af.seq (SR ?_)))
   refine gK 2 [(35, .bool false)] [] ?_
   refine NN ?_
   refine CF ?_
   refine af.skip (NX (SR ?_))
   refine gK 3 [(4, .iface 98 (.pointer (some ⟨(L.b tk), 0, none⟩))), (5, .int .i64 0)] [] ?_
   refine NN (af.ret ?_)
   exact RT (.tuple #[.iface 98 (.pointer (some ⟨(L.b tk), 0, none⟩)), .int .i64 0]) [0, 1, 2, 3, 4, 5, 6, 7] (⟨by rw [show d6 S.O S.us c = .ok ⟨tk, 2⟩ by unfold d6; rw [hab]; simp only; rw [hlk]]; rfl, rfl⟩)
  ·
   have hkt : (obj S.O tk).kind = 3 := hI.kind hlv
   refine af.bC (by kernel_rfl) (by kernel_rfl) ?_
   refine gQ 8 [(28, .map (some (L.m d))), (32, .string c.name)] [(3, v_ 3 (bE L hkd)), (7, a_ 6 cb)] ?_
   refine nK 5 hkd hlk ?_
   refine gQ 1 [(8, .iface 95 (.pointer (some ⟨(L.b tk), 0, none⟩)))] [] ?_
   refine NQ (NX (af.seq (SR ?_)))
   refine gK 2 [(35, .bool false)] [] ?_
   refine NN ?_
   refine CF ?_
   refine af.skip (NX (SR ?_))
   refine gK 3 [(4, .iface 95 (.pointer (some ⟨(L.b tk), 0, none⟩))), (5, .int .i64 0)] [] ?_
   refine NN (af.ret ?_)
   exact RT (.tuple #[.iface 95 (.pointer (some ⟨(L.b tk), 0, none⟩)), .int .i64 0]) [0, 1, 2, 3, 4, 5, 6, 7] (⟨by rw [show d6 S.O S.us c = .ok ⟨tk, 3⟩ by unfold d6; rw [hab]; simp only; rw [hlk]]; rfl, rfl⟩)
set_option maxRecDepth 100000 in
set_option maxHeartbeats 4000000 in
theorem CS {β : Bs} (S : aH) (L : HL) (f m t : Nat) (hI : Inv S) (cb : Nat) (c : aU) (hC : dR β c) :
    Spec Tryz.prog β 59 #[.pointer (some ⟨f, 0, none⟩), .pointer (some ⟨cb, 0, none⟩)] ((pA f m t L S) ++ [pC cb c]) (fun v l => ∃ L2, v = .int .i64 (ij S c).1 ∧ l = ((pA f m t L2 ((ij S c).2.1)) ++ [.blk cb (fT ((ij S c).2.2)) 39])) := by
 have hX := hI.hX
 refine Spec.enter Tryz.func59 rfl Tryz.ntmps59 (Nat.le_of_ble_eq_true rfl) (fun R => ?_)
 refine SR ?_
 refine gK 1 [] [] ?_
 refine NN (af.seq ?_)
 rcases hI.Ix c.other with dh | ⟨tk, dh, hlv⟩ | ⟨tk, dh, hlv⟩ | ⟨tk, dh, hlv⟩
 ·
  refine af.bC (by kernel_rfl) (by kernel_rfl) ?_
  refine gQ 8 [(10, .map (some m)), (14, .int .i64 (c.other))] [(3, a_ 0 f), (7, a_ 6 cb)] ?_
  refine aI.dV 1 (d := (some 15)) (t := 83) (K := 3) (E := 87) (b := m) (n := S.idx.length) (f := (aN (aJ L S.idx))) (x := (.tmp 10)) (ix := (.tmp 14)) (key := .int .i64 (c.other)) (z := .nilIface) (kl := (.int .i64 c.other)) (r := none) (fun _ => by kernel_rfl) (by kernel_rfl) (fun _ => by kernel_rfl) (fun _ => by kernel_rfl) dL Tryz.underlying83 (fun _ => by kernel_rfl) (iB hC.ow) (by rw [ez, dh]; rfl) ?_
  refine gQ 1 [(5, .nilIface)] [] ?_
  refine NQ (NX (af.seq (SR ?_)))
  refine gK 2 [(17, .bool true)] [] ?_
  refine NN ?_
  refine CT ?_
  refine SR ?_
  refine gK 1 [(4, .int .i64 141)] [] ?_
  refine NN (af.ret (aj.av ?_))
  exact RT (.int .i64 141) [0, 1, 2, 3, 4, 5, 6, 7] (⟨L, by rw [show (ij S c) = (141, S, c) by unfold ij; rw [dh]] <;> exact ⟨rfl, rfl⟩⟩)
 ·
  have hkt : (obj S.O tk).kind = 1 := hI.kind hlv
  refine af.bC (by kernel_rfl) (by kernel_rfl) ?_
  refine gQ 8 [(10, .map (some m)), (14, .int .i64 (c.other))] [(3, a_ 0 f), (7, a_ 6 cb)] ?_
  refine aI.dV 1 (d := (some 15)) (t := 83) (K := 3) (E := 87) (b := m) (n := S.idx.length) (f := (aN (aJ L S.idx))) (x := (.tmp 10)) (ix := (.tmp 14)) (key := .int .i64 (c.other)) (z := .nilIface) (kl := (.int .i64 c.other)) (r := (some (cM L ⟨tk, 1⟩))) (fun _ => by kernel_rfl) (by kernel_rfl) (fun _ => by kernel_rfl) (fun _ => by kernel_rfl) dL Tryz.underlying83 (fun _ => by kernel_rfl) (iB hC.ow) (by rw [ez, dh]; rfl) ?_
  refine gQ 1 [(5, .iface 92 (.pointer (some ⟨(L.b tk), 0, none⟩)))] [] ?_
  refine NQ (NX (af.seq (SR ?_)))
  refine gK 2 [(17, .bool false)] [] ?_
  refine NN ?_
  refine CF ?_
  refine af.skip (NX (af.seq (SR ?_)))
  refine gK 1 [(18, .iface 92 (.pointer (some ⟨(L.b tk), 0, none⟩)))] [] ?_
  refine gL [] (jf (.pointer (some ⟨(L.b tk), 0, none⟩))) ?_
  rintro _ _ ⟨rfl, rfl⟩
  refine gK 1 [(20, .bool true)] [] ?_
  refine NN ?_
  refine CT ?_
  refine SR ?_
  refine gK 1 [(4, .int .i64 173)] [] ?_
  refine NN (af.ret (aj.av ?_))
  exact RT (.int .i64 173) [0, 1, 2, 3, 4, 5, 6, 7] (⟨L, by rw [show (ij S c) = (173, S, c) by unfold ij; rw [dh]; exact if_neg (by simp)] <;> exact ⟨rfl, rfl⟩⟩)
 ·
  have hkt : (obj S.O tk).kind = 2 := hI.kind hlv
  refine af.bC (by kernel_rfl) (by kernel_rfl) ?_
  refine gQ 8 [(10, .map (some m)), (14, .int .i64 (c.other))] [(3, a_ 0 f), (7, a_ 6 cb)] ?_
  refine aI.dV 1 (d := (some 15)) (t := 83) (K := 3) (E := 87) (b := m) (n := S.idx.length) (f := (aN (aJ L S.idx))) (x := (.tmp 10)) (ix := (.tmp 14)) (key := .int .i64 (c.other)) (z := .nilIface) (kl := (.int .i64 c.other)) (r := (some (cM L ⟨tk, 2⟩))) (fun _ => by kernel_rfl) (by kernel_rfl) (fun _ => by kernel_rfl) (fun _ => by kernel_rfl) dL Tryz.underlying83 (fun _ => by kernel_rfl) (iB hC.ow) (by rw [ez, dh]; rfl) ?_
  refine gQ 1 [(5, .iface 98 (.pointer (some ⟨(L.b tk), 0, none⟩)))] [] ?_
  refine NQ (NX (af.seq (SR ?_)))
  refine gK 2 [(17, .bool false)] [] ?_
  refine NN ?_
  refine CF ?_
  refine af.skip (NX (af.seq (SR ?_)))
  refine gK 1 [(18, .iface 98 (.pointer (some ⟨(L.b tk), 0, none⟩)))] [] ?_
  refine gL [] (jg (.pointer (some ⟨(L.b tk), 0, none⟩))) ?_
  rintro _ _ ⟨rfl, rfl⟩
  refine gK 1 [(20, .bool false)] [] ?_
  refine NN ?_
  refine CF ?_
  refine af.skip (NX (SR ?_))
  refine gK 1 [] [] ?_
  refine NS ?_
  refine gK 3 [(22, .pointer (some ⟨cb, 0, none⟩)), (23, .pointer (some ⟨f, 0, none⟩)), (24, .iface 98 (.pointer (some ⟨(L.b tk), 0, none⟩)))] [] ?_
  refine gL [0, 2, 3] (oQ S L f m t ⟨tk, 2⟩ hkt (by simp) (by have := hI.yD hlv; simp only at this ⊢; omega)) ?_
  rintro _ _ ⟨rfl, rfl⟩
  refine gC 7 [(6, .int .i64 ((openM S ⟨tk, 2⟩).2.1))] [(5, a_ 6 cb)] [(6, [(12, .int .i64 ((openM S ⟨tk, 2⟩).1))])] ?_
  refine NS ?_
  refine ah.mem (aK := [.blk f [.int .i64 (S.X.cN), .int .i64 (S.X.cB), .int .i64 (S.X.cH), .int .i64 (S.X.cS), .int .i64 (S.X.cZ), .map (some m), .pointer (some ⟨t, 0, none⟩), .int .i64 (S.X.last), .int .i64 (S.X.ai), .int .i64 (S.X.used)] 89, .abs (aZ 143 t S.X.cH ((openM S ⟨tk, 2⟩).2.2.au) (aJ L ((openM S ⟨tk, 2⟩).2.2.us))), .abs (aq (aS ((openM S ⟨tk, 2⟩).2.2.O) L)), .abs (aC Tryz.prog 3 m (aN (aJ L S.idx)) S.idx.length), .abs (aq (aY ((openM S ⟨tk, 2⟩).2.2.O) L)), .abs (aq (bw ((openM S ⟨tk, 2⟩).2.2.O) L)), .blk cb [.int .i64 (c.op), .int .i64 (c.handle), .int .i64 (c.other), .string c.name, .string c.text, .slice c.dA (c.data.length) (c.dC), .int .i64 (c.mode), .int .i64 (c.uid), .int .i64 (c.gid), .int .i64 (c.sec), .int .i64 (c.nano), .int .i64 (c.code), .int .i64 ((openM S ⟨tk, 2⟩).1)] 39, .abs R]) (fun w hS => by rw [vn, vo]; exact hS) ?_
  refine gK 2 [(4, .int .i64 ((openM S ⟨tk, 2⟩).2.1))] [] ?_
  refine NN (af.ret ?_)
  exact RT (.int .i64 ((openM S ⟨tk, 2⟩).2.1)) [0, 3, 1, 2, 4, 5, 6, 7] (⟨L, by rw [show (ij S c) = ((openM S ⟨tk, 2⟩).2.1, (openM S ⟨tk, 2⟩).2.2, { c with answer := (openM S ⟨tk, 2⟩).1 }) by unfold ij; rw [dh]; exact if_pos rfl] <;> exact ⟨rfl, rfl⟩⟩)
 ·
  have hkt : (obj S.O tk).kind = 3 := hI.kind hlv
  refine af.bC (by kernel_rfl) (by kernel_rfl) ?_
  refine gQ 8 [(10, .map (some m)), (14, .int .i64 (c.other))] [(3, a_ 0 f), (7, a_ 6 cb)] ?_
  refine aI.dV 1 (d := (some 15)) (t := 83) (K := 3) (E := 87) (b := m) (n := S.idx.length) (f := (aN (aJ L S.idx))) (x := (.tmp 10)) (ix := (.tmp 14)) (key := .int .i64 (c.other)) (z := .nilIface) (kl := (.int .i64 c.other)) (r := (some (cM L ⟨tk, 3⟩))) (fun _ => by kernel_rfl) (by kernel_rfl) (fun _ => by kernel_rfl) (fun _ => by kernel_rfl) dL Tryz.underlying83 (fun _ => by kernel_rfl) (iB hC.ow) (by rw [ez, dh]; rfl) ?_
  refine gQ 1 [(5, .iface 95 (.pointer (some ⟨(L.b tk), 0, none⟩)))] [] ?_
  refine NQ (NX (af.seq (SR ?_)))
  refine gK 2 [(17, .bool false)] [] ?_
  refine NN ?_
  refine CF ?_
  refine af.skip (NX (af.seq (SR ?_)))
  refine gK 1 [(18, .iface 95 (.pointer (some ⟨(L.b tk), 0, none⟩)))] [] ?_
  refine gL [] (jN (.pointer (some ⟨(L.b tk), 0, none⟩))) ?_
  rintro _ _ ⟨rfl, rfl⟩
  refine gK 1 [(20, .bool true)] [] ?_
  refine NN ?_
  refine CT ?_
  refine SR ?_
  refine gK 1 [(4, .int .i64 173)] [] ?_
  refine NN (af.ret (aj.av ?_))
  exact RT (.int .i64 173) [0, 1, 2, 3, 4, 5, 6, 7] (⟨L, by rw [show (ij S c) = (173, S, c) by unfold ij; rw [dh]; exact if_neg (by simp)] <;> exact ⟨rfl, rfl⟩⟩)
set_option maxRecDepth 100000 in
set_option maxHeartbeats 4000000 in
theorem yP {β : Bs} (S : aH) (L : HL) (f m t : Nat) (hI : Inv S) (cb : Nat) (c : aU) (hC : dR β c) :
    Spec Tryz.prog β 60 #[.pointer (some ⟨f, 0, none⟩), .pointer (some ⟨cb, 0, none⟩)] ((pA f m t L S) ++ [pC cb c]) (fun v l => ∃ L2, v = .int .i64 (dU S c).1 ∧ l = ((pA f m t L2 ((dU S c).2.1)) ++ [.blk cb (fT ((dU S c).2.2)) 39])) := by
 have hX := hI.hX
 refine Spec.enter Tryz.func60 rfl Tryz.ntmps60 (Nat.le_of_ble_eq_true rfl) (fun R => ?_)
 refine SR ?_
 refine gK 1 [] [] ?_
 refine NS ?_
 refine gK 2 [(8, .pointer (some ⟨f, 0, none⟩)), (9, .pointer (some ⟨cb, 0, none⟩))] [] ?_
 rcases wA hI.toInv0 c with ⟨e, hnm, hne⟩ | ⟨tk, hnm, hlv⟩ | ⟨tk, hnm, hlv⟩ | ⟨tk, hnm, hlv⟩
 ·
  refine gL (f := 110) (args := #[.pointer (some ⟨f, 0, none⟩), .pointer (some ⟨cb, 0, none⟩)]) (pre := ((pA f m t L S) ++ [pC cb c])) [0, 1, 2, 3, 4, 5, 6] ((by have h := fA S L f m t hI cb c hC (β := β); rw [hnm] at h; exact h)) ?_
  rintro _ _ ⟨rfl, rfl⟩
  refine gK 5 [(5, .nilIface), (6, .int .i64 (e))] [] ?_
  refine NN (af.seq (SR ?_))
  refine gK 2 [(14, .bool (!(decide ((e : Int) = (0 : Int)))))] [] ?_
  refine NN ?_
  refine af.cT (p := (e : Int) = (0 : Int)) (fun _ => by kernel_rfl) (fun fP => ?_) (fun fP => ?_)
  ·
   refine SR ?_
   refine gK 2 [(4, .int .i64 (e))] [] ?_
   refine NN (af.ret (aj.av ?_))
   exact RT (.int .i64 (e)) [0, 1, 2, 3, 4, 5, 6, 7] (⟨L, by rw [show (dU S c) = (e, S, c) by unfold dU; rw [hnm]] <;> exact ⟨rfl, rfl⟩⟩)
  ·
   exact absurd fP hne
 ·
  have hkt : (obj S.O tk).kind = 1 := hI.kind hlv
  refine gL (f := 110) (args := #[.pointer (some ⟨f, 0, none⟩), .pointer (some ⟨cb, 0, none⟩)]) (pre := ((pA f m t L S) ++ [pC cb c])) [0, 1, 2, 3, 4, 5, 6] ((by have h := fA S L f m t hI cb c hC (β := β); rw [hnm] at h; exact h)) ?_
  rintro _ _ ⟨rfl, rfl⟩
  refine gK 5 [(5, .iface 92 (.pointer (some ⟨(L.b tk), 0, none⟩))), (6, .int .i64 0)] [] ?_
  refine NN (af.seq (SR ?_))
  refine gK 2 [(14, .bool false)] [] ?_
  refine NN ?_
  refine CF ?_
  refine af.skip (NX (af.seq (SR ?_)))
  refine gK 1 [(16, .iface 92 (.pointer (some ⟨(L.b tk), 0, none⟩)))] [] ?_
  refine NN (af.block (SR ?_))
  refine gK 3 [(18, .bool false)] [] ?_
  refine NN ?_
  refine CF ?_
  refine SR ?_
  refine gK 3 [(21, .bool true)] [] ?_
  refine NN ?_
  refine CT ?_
  refine SR ?_
  refine gK 1 [(4, .int .i64 173)] [] ?_
  refine NN (af.ret (aj.aO (aj.av ?_)))
  exact RT (.int .i64 173) [0, 1, 2, 3, 4, 5, 6, 7] (⟨L, by rw [show (dU S c) = (173, S, c) by unfold dU; rw [hnm]; exact (if_neg (by simp)).trans (if_pos rfl)] <;> exact ⟨rfl, rfl⟩⟩)
 ·
  have hkt : (obj S.O tk).kind = 2 := hI.kind hlv
  refine gL (f := 110) (args := #[.pointer (some ⟨f, 0, none⟩), .pointer (some ⟨cb, 0, none⟩)]) (pre := ((pA f m t L S) ++ [pC cb c])) [0, 1, 2, 3, 4, 5, 6] ((by have h := fA S L f m t hI cb c hC (β := β); rw [hnm] at h; exact h)) ?_
  rintro _ _ ⟨rfl, rfl⟩
  refine gK 5 [(5, .iface 98 (.pointer (some ⟨(L.b tk), 0, none⟩))), (6, .int .i64 0)] [] ?_
  refine NN (af.seq (SR ?_))
  refine gK 2 [(14, .bool false)] [] ?_
  refine NN ?_
  refine CF ?_
  refine af.skip (NX (af.seq (SR ?_)))
  refine gK 1 [(16, .iface 98 (.pointer (some ⟨(L.b tk), 0, none⟩)))] [] ?_
  refine NN (af.block (SR ?_))
  refine gK 3 [(18, .bool false)] [] ?_
  refine NN ?_
  refine CF ?_
  refine SR ?_
  refine gK 3 [(21, .bool false)] [] ?_
  refine NN ?_
  refine CF ?_
  refine af.skip (aj.aW (NX (SR ?_)))
  refine gK 3 [(24, .pointer (some ⟨cb, 0, none⟩)), (25, .pointer (some ⟨f, 0, none⟩)), (26, .iface 98 (.pointer (some ⟨(L.b tk), 0, none⟩)))] [] ?_
  refine gL [0, 2, 3] (oQ S L f m t ⟨tk, 2⟩ hkt (by simp) (by have := hI.yD hlv; simp only at this ⊢; omega)) ?_
  rintro _ _ ⟨rfl, rfl⟩
  refine gC 7 [(6, .int .i64 ((openM S ⟨tk, 2⟩).2.1))] [(5, a_ 6 cb)] [(6, [(12, .int .i64 ((openM S ⟨tk, 2⟩).1))])] ?_
  refine NS ?_
  refine ah.mem (aK := [.blk f [.int .i64 (S.X.cN), .int .i64 (S.X.cB), .int .i64 (S.X.cH), .int .i64 (S.X.cS), .int .i64 (S.X.cZ), .map (some m), .pointer (some ⟨t, 0, none⟩), .int .i64 (S.X.last), .int .i64 (S.X.ai), .int .i64 (S.X.used)] 89, .abs (aZ 143 t S.X.cH ((openM S ⟨tk, 2⟩).2.2.au) (aJ L ((openM S ⟨tk, 2⟩).2.2.us))), .abs (aq (aS ((openM S ⟨tk, 2⟩).2.2.O) L)), .abs (aC Tryz.prog 3 m (aN (aJ L S.idx)) S.idx.length), .abs (aq (aY ((openM S ⟨tk, 2⟩).2.2.O) L)), .abs (aq (bw ((openM S ⟨tk, 2⟩).2.2.O) L)), .blk cb [.int .i64 (c.op), .int .i64 (c.handle), .int .i64 (c.other), .string c.name, .string c.text, .slice c.dA (c.data.length) (c.dC), .int .i64 (c.mode), .int .i64 (c.uid), .int .i64 (c.gid), .int .i64 (c.sec), .int .i64 (c.nano), .int .i64 (c.code), .int .i64 ((openM S ⟨tk, 2⟩).1)] 39, .abs R]) (fun w hS => by rw [vn, vo]; exact hS) ?_
  refine gK 2 [(4, .int .i64 ((openM S ⟨tk, 2⟩).2.1))] [] ?_
  refine NN (af.ret ?_)
  exact RT (.int .i64 ((openM S ⟨tk, 2⟩).2.1)) [0, 3, 1, 2, 4, 5, 6, 7] (⟨L, by rw [show (dU S c) = ((openM S ⟨tk, 2⟩).2.1, (openM S ⟨tk, 2⟩).2.2, { c with answer := (openM S ⟨tk, 2⟩).1 }) by unfold dU; rw [hnm]; exact (if_neg (by simp)).trans (if_neg (by simp))] <;> exact ⟨rfl, rfl⟩⟩)
 ·
  have hkt : (obj S.O tk).kind = 3 := hI.kind hlv
  refine gL (f := 110) (args := #[.pointer (some ⟨f, 0, none⟩), .pointer (some ⟨cb, 0, none⟩)]) (pre := ((pA f m t L S) ++ [pC cb c])) [0, 1, 2, 3, 4, 5, 6] ((by have h := fA S L f m t hI cb c hC (β := β); rw [hnm] at h; exact h)) ?_
  rintro _ _ ⟨rfl, rfl⟩
  refine gK 5 [(5, .iface 95 (.pointer (some ⟨(L.b tk), 0, none⟩))), (6, .int .i64 0)] [] ?_
  refine NN (af.seq (SR ?_))
  refine gK 2 [(14, .bool false)] [] ?_
  refine NN ?_
  refine CF ?_
  refine af.skip (NX (af.seq (SR ?_)))
  refine gK 1 [(16, .iface 95 (.pointer (some ⟨(L.b tk), 0, none⟩)))] [] ?_
  refine NN (af.block (SR ?_))
  refine gK 3 [(18, .bool true)] [] ?_
  refine NN ?_
  refine CT ?_
  refine SR ?_
  refine gK 1 [(4, .int .i64 174)] [] ?_
  refine NN (af.ret (aj.aO (aj.av ?_)))
  exact RT (.int .i64 174) [0, 1, 2, 3, 4, 5, 6, 7] (⟨L, by rw [show (dU S c) = (174, S, c) by unfold dU; rw [hnm]; exact if_pos rfl] <;> exact ⟨rfl, rfl⟩⟩)
set_option maxRecDepth 100000 in
set_option maxHeartbeats 4000000 in
theorem xG {β : Bs} (S : aH) (L : HL) (f m t : Nat) (hI : Inv S) (cb : Nat) (c : aU) (hC : dR β c) :
    Spec Tryz.prog β 61 #[.pointer (some ⟨f, 0, none⟩), .pointer (some ⟨cb, 0, none⟩)] ((pA f m t L S) ++ [pC cb c]) (fun v l => ∃ L2, v = .int .i64 (dI S c).1 ∧ l = ((pA f m t L2 ((dI S c).2.1)) ++ [.blk cb (fT ((dI S c).2.2)) 39])) := by
 have hX := hI.hX
 refine Spec.enter Tryz.func61 rfl Tryz.ntmps61 (Nat.le_of_ble_eq_true rfl) (fun R => ?_)
 refine SR ?_
 refine gK 1 [] [] ?_
 refine NS ?_
 refine gK 2 [(8, .pointer (some ⟨f, 0, none⟩)), (9, .pointer (some ⟨cb, 0, none⟩))] [] ?_
 rcases wA hI.toInv0 c with ⟨e, hnm, hne⟩ | ⟨tk, hnm, hlv⟩ | ⟨tk, hnm, hlv⟩ | ⟨tk, hnm, hlv⟩
 ·
  refine gL (f := 110) (args := #[.pointer (some ⟨f, 0, none⟩), .pointer (some ⟨cb, 0, none⟩)]) (pre := ((pA f m t L S) ++ [pC cb c])) [0, 1, 2, 3, 4, 5, 6] ((by have h := fA S L f m t hI cb c hC (β := β); rw [hnm] at h; exact h)) ?_
  rintro _ _ ⟨rfl, rfl⟩
  refine gK 5 [(5, .nilIface), (6, .int .i64 (e))] [] ?_
  refine NN (af.seq (SR ?_))
  refine gK 2 [(14, .bool (!(decide ((e : Int) = (0 : Int)))))] [] ?_
  refine NN ?_
  refine af.cT (p := (e : Int) = (0 : Int)) (fun _ => by kernel_rfl) (fun fP => ?_) (fun fP => ?_)
  ·
   refine SR ?_
   refine gK 2 [(4, .int .i64 (e))] [] ?_
   refine NN (af.ret (aj.av ?_))
   exact RT (.int .i64 (e)) [0, 1, 2, 3, 4, 5, 6, 7] (⟨L, by rw [show (dI S c) = (e, S, c) by unfold dI; rw [hnm]] <;> exact ⟨rfl, rfl⟩⟩)
  ·
   exact absurd fP hne
 ·
  have hkt : (obj S.O tk).kind = 1 := hI.kind hlv
  refine gL (f := 110) (args := #[.pointer (some ⟨f, 0, none⟩), .pointer (some ⟨cb, 0, none⟩)]) (pre := ((pA f m t L S) ++ [pC cb c])) [0, 1, 2, 3, 4, 5, 6] ((by have h := fA S L f m t hI cb c hC (β := β); rw [hnm] at h; exact h)) ?_
  rintro _ _ ⟨rfl, rfl⟩
  refine gK 5 [(5, .iface 92 (.pointer (some ⟨(L.b tk), 0, none⟩))), (6, .int .i64 0)] [] ?_
  refine NN (af.seq (SR ?_))
  refine gK 2 [(14, .bool false)] [] ?_
  refine NN ?_
  refine CF ?_
  refine af.skip (NX (af.seq (SR ?_)))
  refine gK 1 [(16, .iface 92 (.pointer (some ⟨(L.b tk), 0, none⟩)))] [] ?_
  refine NN (af.block (SR ?_))
  refine gK 3 [(18, .bool false)] [] ?_
  refine NN ?_
  refine CF ?_
  refine SR ?_
  refine gK 3 [(21, .bool false)] [] ?_
  refine NN ?_
  refine CF ?_
  refine af.skip (aj.aW (NX (SR ?_)))
  refine gK 3 [(24, .pointer (some ⟨cb, 0, none⟩)), (25, .pointer (some ⟨f, 0, none⟩)), (26, .iface 92 (.pointer (some ⟨(L.b tk), 0, none⟩)))] [] ?_
  refine gL [0, 2, 3] (oQ S L f m t ⟨tk, 1⟩ hkt (by simp) (by have := hI.yD hlv; simp only at this ⊢; omega)) ?_
  rintro _ _ ⟨rfl, rfl⟩
  refine gC 7 [(6, .int .i64 ((openM S ⟨tk, 1⟩).2.1))] [(5, a_ 6 cb)] [(6, [(12, .int .i64 ((openM S ⟨tk, 1⟩).1))])] ?_
  refine NS ?_
  refine ah.mem (aK := [.blk f [.int .i64 (S.X.cN), .int .i64 (S.X.cB), .int .i64 (S.X.cH), .int .i64 (S.X.cS), .int .i64 (S.X.cZ), .map (some m), .pointer (some ⟨t, 0, none⟩), .int .i64 (S.X.last), .int .i64 (S.X.ai), .int .i64 (S.X.used)] 89, .abs (aZ 143 t S.X.cH ((openM S ⟨tk, 1⟩).2.2.au) (aJ L ((openM S ⟨tk, 1⟩).2.2.us))), .abs (aq (aS ((openM S ⟨tk, 1⟩).2.2.O) L)), .abs (aC Tryz.prog 3 m (aN (aJ L S.idx)) S.idx.length), .abs (aq (aY ((openM S ⟨tk, 1⟩).2.2.O) L)), .abs (aq (bw ((openM S ⟨tk, 1⟩).2.2.O) L)), .blk cb [.int .i64 (c.op), .int .i64 (c.handle), .int .i64 (c.other), .string c.name, .string c.text, .slice c.dA (c.data.length) (c.dC), .int .i64 (c.mode), .int .i64 (c.uid), .int .i64 (c.gid), .int .i64 (c.sec), .int .i64 (c.nano), .int .i64 (c.code), .int .i64 ((openM S ⟨tk, 1⟩).1)] 39, .abs R]) (fun w hS => by rw [vn, vo]; exact hS) ?_
  refine gK 2 [(4, .int .i64 ((openM S ⟨tk, 1⟩).2.1))] [] ?_
  refine NN (af.ret ?_)
  exact RT (.int .i64 ((openM S ⟨tk, 1⟩).2.1)) [0, 3, 1, 2, 4, 5, 6, 7] (⟨L, by rw [show (dI S c) = ((openM S ⟨tk, 1⟩).2.1, (openM S ⟨tk, 1⟩).2.2, { c with answer := (openM S ⟨tk, 1⟩).1 }) by unfold dI; rw [hnm]; exact (if_neg (by simp)).trans (if_neg (by simp))] <;> exact ⟨rfl, rfl⟩⟩)
 ·
  have hkt : (obj S.O tk).kind = 2 := hI.kind hlv
  refine gL (f := 110) (args := #[.pointer (some ⟨f, 0, none⟩), .pointer (some ⟨cb, 0, none⟩)]) (pre := ((pA f m t L S) ++ [pC cb c])) [0, 1, 2, 3, 4, 5, 6] ((by have h := fA S L f m t hI cb c hC (β := β); rw [hnm] at h; exact h)) ?_
  rintro _ _ ⟨rfl, rfl⟩
  refine gK 5 [(5, .iface 98 (.pointer (some ⟨(L.b tk), 0, none⟩))), (6, .int .i64 0)] [] ?_
  refine NN (af.seq (SR ?_))
  refine gK 2 [(14, .bool false)] [] ?_
  refine NN ?_
  refine CF ?_
  refine af.skip (NX (af.seq (SR ?_)))
  refine gK 1 [(16, .iface 98 (.pointer (some ⟨(L.b tk), 0, none⟩)))] [] ?_
  refine NN (af.block (SR ?_))
  refine gK 3 [(18, .bool false)] [] ?_
  refine NN ?_
  refine CF ?_
  refine SR ?_
  refine gK 3 [(21, .bool true)] [] ?_
  refine NN ?_
  refine CT ?_
  refine SR ?_
  refine gK 1 [(4, .int .i64 172)] [] ?_
  refine NN (af.ret (aj.aO (aj.av ?_)))
  exact RT (.int .i64 172) [0, 1, 2, 3, 4, 5, 6, 7] (⟨L, by rw [show (dI S c) = (172, S, c) by unfold dI; rw [hnm]; exact (if_neg (by simp)).trans (if_pos rfl)] <;> exact ⟨rfl, rfl⟩⟩)
 ·
  have hkt : (obj S.O tk).kind = 3 := hI.kind hlv
  refine gL (f := 110) (args := #[.pointer (some ⟨f, 0, none⟩), .pointer (some ⟨cb, 0, none⟩)]) (pre := ((pA f m t L S) ++ [pC cb c])) [0, 1, 2, 3, 4, 5, 6] ((by have h := fA S L f m t hI cb c hC (β := β); rw [hnm] at h; exact h)) ?_
  rintro _ _ ⟨rfl, rfl⟩
  refine gK 5 [(5, .iface 95 (.pointer (some ⟨(L.b tk), 0, none⟩))), (6, .int .i64 0)] [] ?_
  refine NN (af.seq (SR ?_))
  refine gK 2 [(14, .bool false)] [] ?_
  refine NN ?_
  refine CF ?_
  refine af.skip (NX (af.seq (SR ?_)))
  refine gK 1 [(16, .iface 95 (.pointer (some ⟨(L.b tk), 0, none⟩)))] [] ?_
  refine NN (af.block (SR ?_))
  refine gK 3 [(18, .bool true)] [] ?_
  refine NN ?_
  refine CT ?_
  refine SR ?_
  refine gK 1 [(4, .int .i64 174)] [] ?_
  refine NN (af.ret (aj.aO (aj.av ?_)))
  exact RT (.int .i64 174) [0, 1, 2, 3, 4, 5, 6, 7] (⟨L, by rw [show (dI S c) = (174, S, c) by unfold dI; rw [hnm]; exact if_pos rfl] <;> exact ⟨rfl, rfl⟩⟩)
set_option maxRecDepth 100000 in
set_option maxHeartbeats 4000000 in
theorem Bd {β : Bs} (S : aH) (L : HL) (f m t : Nat) (hI : Inv S) (cb : Nat) (c : aU) (hC : dR β c) :
    Spec Tryz.prog β 62 #[.pointer (some ⟨f, 0, none⟩), .pointer (some ⟨cb, 0, none⟩)] ((pA f m t L S) ++ [pC cb c]) (fun v l => ∃ L2, v = .int .i64 (eN S c).1 ∧ l = ((pA f m t L2 ((eN S c).2.1)) ++ [.blk cb (fT ((eN S c).2.2)) 39])) := by
 have hX := hI.hX
 refine Spec.enter Tryz.func62 rfl Tryz.ntmps62 (Nat.le_of_ble_eq_true rfl) (fun R => ?_)
 refine SR ?_
 refine gK 1 [] [] ?_
 refine NN (af.seq ?_)
 refine af.bC (by kernel_rfl) (by kernel_rfl) ?_
 refine gQ 9 (GW f c) [(4, a_ 6 cb), (8, a_ 6 cb)] ?_
 rcases jm hI.toInv0 c.handle c.name 192 with ⟨e, hab, hne⟩ | ⟨d, hab, hd, iK, iL, cD⟩
 ·
  refine aI.call (f := 111) (args := #[.pointer (some ⟨f, 0, none⟩), .int .i64 (c.handle), .string c.name, .int .i64 192]) (d := (some 17)) (pre := (l6 f m t S L)) (R := (lq m L S cb c R)) (pk := [0, 2, 3, 1, 4, 5, 6, 7]) (fN := [0, 3, 1, 2, 4, 5, 6, 7]) (v0 := .tuple #[.pointer none, .int .i64 (e)]) (fun _ => by kernel_rfl) ((by have h := cX S L f m t hI c.handle hC.hw c.name hC.nm 192 (β := β); rw [hab] at h; exact h)) rfl (by kernel_rfl) rfl (by kernel_rfl) (fun _ _ h => h) ?_
  refine gQ 5 (Ej e) [] ?_
  refine NQ (NX (af.seq (SR ?_)))
  refine gK 2 [(21, .bool (!(decide ((e : Int) = (0 : Int)))))] [] ?_
  refine NN ?_
  refine af.cT (p := (e : Int) = (0 : Int)) (fun _ => by kernel_rfl) (fun oO => ?_) (fun oO => ?_)
  ·
   refine SR ?_
   refine gK 2 [(4, .int .i64 (e))] [] ?_
   refine NN (af.ret (aj.av ?_))
   exact RT (.int .i64 (e)) [0, 1, 2, 3, 4, 5, 6, 7] (⟨L, by rw [show (eN S c) = (e, S, c) by unfold eN; rw [hab]] <;> exact ⟨rfl, rfl⟩⟩)
  ·
   exact absurd oO hne
 ·
  have hkd : (obj S.O d).kind = 2 := hI.kind hd
  refine aI.call (f := 111) (args := #[.pointer (some ⟨f, 0, none⟩), .int .i64 (c.handle), .string c.name, .int .i64 192]) (d := (some 17)) (pre := (l6 f m t S L)) (R := (lq m L S cb c R)) (pk := [0, 2, 3, 1, 4, 5, 6, 7]) (fN := [0, 3, 1, 2, 4, 5, 6, 7]) (v0 := .tuple #[.pointer (some ⟨(L.b d), 0, none⟩), .int .i64 0]) (fun _ => by kernel_rfl) ((by have h := cX S L f m t hI c.handle hC.hw c.name hC.nm 192 (β := β); rw [hab] at h; exact h)) rfl (by kernel_rfl) rfl (by kernel_rfl) (fun _ _ h => h) ?_
  refine gQ 5 (Aj L d) [] ?_
  refine NQ (NX (af.seq (SR ?_)))
  refine gK 2 [(21, .bool false)] [] ?_
  refine NN ?_
  refine CF ?_
  refine af.skip (NX (af.seq (SR ?_)))
  refine gK 4 [(26, .int .i64 (c.mode))] [(3, a_ 6 cb)] ?_
  refine gL [] (dQ (c.mode) 4095) ?_
  rintro _ _ ⟨rfl, rfl⟩
  refine gK 1 [(28, .bool (!(decide (0 ≤ c.mode ∧ c.mode ≤ 4095))))] [] ?_
  refine NN ?_
  refine af.cT (p := 0 ≤ c.mode ∧ c.mode ≤ 4095) (fun _ => by kernel_rfl) (fun JI => ?_) (fun JI => ?_)
  ·
   refine SR ?_
   refine gK 1 [(4, .int .i64 120)] [] ?_
   refine NN (af.ret (aj.av ?_))
   exact RT (.int .i64 120) [0, 1, 2, 3, 4, 5, 6, 7] (⟨L, by rw [show (eN S c) = (120, S, c) by unfold eN; rw [hab]; exact if_neg JI] <;> exact ⟨rfl, rfl⟩⟩)
  ·
   refine af.skip (NX (af.seq ?_))
   refine af.bT (S := [pC cb c]) [0, 1, 2, 3, 4, 5, 6, 7, 8, 9, 10, 11] 10 [6] (by kernel_rfl) (by kernel_rfl) rfl (by kernel_rfl) ?_
   refine aD.reads (r := 0) (l := [10, 11]) (fr' := [(29, vP f), (30, vP (L.b d)), (34, .string c.name), (38, vI (c.mode))]) (ak := [cb = cb, cb = cb]) [0, 1, 2, 3, 4, 5, 6, 7, 8, 9] [o_, o_, o_, o_, o_, ⟨[.at 0], none, none, none, none⟩, o_, o_, o_, ⟨[.at 0], none, none, none, none⟩] [29, 30, 34, 38] (fun _ => by kernel_rfl) ⟨rfl, rfl, trivial⟩ rfl rfl ?_
   refine mL [6] [0, 1, 2, 3, 4, 5] (D8 S L f m t hI d hd c.name hC.nm c.mode) ?_ (by rintro _ _ ⟨L2, rfl, rfl⟩; rfl)
   rintro _ _ ⟨L2, rfl, rfl⟩
   refine aD.last rfl rfl ?_
   refine gK 1 [(4, .int .i64 ((mkdirM S d c.name c.mode).1))] [] ?_
   refine NL (aj.np (NX (af.ret ?_)))
   exact RT (.int .i64 ((mkdirM S d c.name c.mode).1)) [0, 1, 2, 3, 4, 5, 6, 7] (⟨L2, by rw [show (eN S c) = ((mkdirM S d c.name c.mode).1, (mkdirM S d c.name c.mode).2, c) by unfold eN; rw [hab]; exact if_pos JI] <;> exact ⟨rfl, rfl⟩⟩)
set_option maxRecDepth 100000 in
set_option maxHeartbeats 4000000 in
theorem yQ {β : Bs} (S : aH) (L : HL) (f m t : Nat) (hI : Inv S) (cb : Nat) (c : aU) (hC : dR β c) :
    Spec Tryz.prog β 64 #[.pointer (some ⟨f, 0, none⟩), .pointer (some ⟨cb, 0, none⟩)] ((pA f m t L S) ++ [pC cb c]) (fun v l => ∃ L2, v = .int .i64 (eH S c).1 ∧ l = ((pA f m t L2 ((eH S c).2.1)) ++ [.blk cb (fT ((eH S c).2.2)) 39])) := by
 have hX := hI.hX
 refine Spec.enter Tryz.func64 rfl Tryz.ntmps64 (Nat.le_of_ble_eq_true rfl) (fun R => ?_)
 refine SR ?_
 refine gK 1 [] [] ?_
 refine NN (af.seq ?_)
 refine af.bC (by kernel_rfl) (by kernel_rfl) ?_
 refine gQ 9 (GW f c) [(4, a_ 6 cb), (8, a_ 6 cb)] ?_
 rcases jm hI.toInv0 c.handle c.name 192 with ⟨e, hab, hne⟩ | ⟨d, hab, hd, iK, iL, cD⟩
 ·
  refine aI.call (f := 111) (args := #[.pointer (some ⟨f, 0, none⟩), .int .i64 (c.handle), .string c.name, .int .i64 192]) (d := (some 17)) (pre := (l6 f m t S L)) (R := (lq m L S cb c R)) (pk := [0, 2, 3, 1, 4, 5, 6, 7]) (fN := [0, 3, 1, 2, 4, 5, 6, 7]) (v0 := .tuple #[.pointer none, .int .i64 (e)]) (fun _ => by kernel_rfl) ((by have h := cX S L f m t hI c.handle hC.hw c.name hC.nm 192 (β := β); rw [hab] at h; exact h)) rfl (by kernel_rfl) rfl (by kernel_rfl) (fun _ _ h => h) ?_
  refine gQ 5 (Ej e) [] ?_
  refine NQ (NX (af.seq (SR ?_)))
  refine gK 2 [(21, .bool (!(decide ((e : Int) = (0 : Int)))))] [] ?_
  refine NN ?_
  refine af.cT (p := (e : Int) = (0 : Int)) (fun _ => by kernel_rfl) (fun oO => ?_) (fun oO => ?_)
  ·
   refine SR ?_
   refine gK 2 [(4, .int .i64 (e))] [] ?_
   refine NN (af.ret (aj.av ?_))
   exact RT (.int .i64 (e)) [0, 1, 2, 3, 4, 5, 6, 7] (⟨L, by rw [show (eH S c) = (e, S, c) by unfold eH; rw [hab]] <;> exact ⟨rfl, rfl⟩⟩)
  ·
   exact absurd oO hne
 ·
  have hkd : (obj S.O d).kind = 2 := hI.kind hd
  refine aI.call (f := 111) (args := #[.pointer (some ⟨f, 0, none⟩), .int .i64 (c.handle), .string c.name, .int .i64 192]) (d := (some 17)) (pre := (l6 f m t S L)) (R := (lq m L S cb c R)) (pk := [0, 2, 3, 1, 4, 5, 6, 7]) (fN := [0, 3, 1, 2, 4, 5, 6, 7]) (v0 := .tuple #[.pointer (some ⟨(L.b d), 0, none⟩), .int .i64 0]) (fun _ => by kernel_rfl) ((by have h := cX S L f m t hI c.handle hC.hw c.name hC.nm 192 (β := β); rw [hab] at h; exact h)) rfl (by kernel_rfl) rfl (by kernel_rfl) (fun _ _ h => h) ?_
  refine gQ 5 (Aj L d) [] ?_
  refine NQ (NX (af.seq (SR ?_)))
  refine gK 2 [(21, .bool false)] [] ?_
  refine NN ?_
  refine CF ?_
  refine af.skip (NX (af.seq ?_))
  refine af.bT (S := [pC cb c]) [0, 1, 2, 3, 4, 5, 6, 7, 8, 9, 10, 11] 10 [6] (by kernel_rfl) (by kernel_rfl) rfl (by kernel_rfl) ?_
  refine aD.reads (r := 0) (l := [10, 11]) (fr' := [(23, vP f), (24, vP (L.b d)), (28, .string c.name), (32, .string c.text)]) (ak := [cb = cb, cb = cb]) [0, 1, 2, 3, 4, 5, 6, 7, 8, 9] [o_, o_, o_, o_, o_, ⟨[.at 0], none, none, none, none⟩, o_, o_, o_, ⟨[.at 0], none, none, none, none⟩] [23, 24, 28, 32] (fun _ => by kernel_rfl) ⟨rfl, rfl, trivial⟩ rfl rfl ?_
  refine mL [6] [0, 1, 2, 3, 4, 5] (A6 S L f m t hI d hd c.name hC.nm c.text hC.tx) ?_ (by rintro _ _ ⟨L2, rfl, rfl⟩; rfl)
  rintro _ _ ⟨L2, rfl, rfl⟩
  refine aD.last rfl rfl ?_
  refine gK 1 [(4, .int .i64 ((symlinkM S d c.name c.text).1))] [] ?_
  refine NL (aj.np (NX (af.ret ?_)))
  exact RT (.int .i64 ((symlinkM S d c.name c.text).1)) [0, 1, 2, 3, 4, 5, 6, 7] (⟨L2, by rw [show (eH S c) = ((symlinkM S d c.name c.text).1, (symlinkM S d c.name c.text).2, c) by unfold eH; rw [hab]] <;> exact ⟨rfl, rfl⟩⟩)
set_option maxRecDepth 100000 in
set_option maxHeartbeats 4000000 in
theorem Ak {β : Bs} (S : aH) (L : HL) (f m t : Nat) (hI : Inv S) (cb : Nat) (c : aU) (hC : dR β c) :
    Spec Tryz.prog β 66 #[.pointer (some ⟨f, 0, none⟩), .pointer (some ⟨cb, 0, none⟩)] ((pA f m t L S) ++ [pC cb c]) (fun v l => ∃ L2, v = .int .i64 (eS S c).1 ∧ l = ((pA f m t L2 ((eS S c).2.1)) ++ [.blk cb (fT ((eS S c).2.2)) 39])) := by
 have hX := hI.hX
 refine Spec.enter Tryz.func66 rfl Tryz.ntmps66 (Nat.le_of_ble_eq_true rfl) (fun R => ?_)
 refine SR ?_
 refine gK 1 [] [] ?_
 refine NN (af.seq ?_)
 refine af.bC (by kernel_rfl) (by kernel_rfl) ?_
 refine gQ 9 (GW f c) [(4, a_ 6 cb), (8, a_ 6 cb)] ?_
 rcases jm hI.toInv0 c.handle c.name 192 with ⟨e, hab, hne⟩ | ⟨d, hab, hd, iK, iL, cD⟩
 ·
  refine aI.call (f := 111) (args := #[.pointer (some ⟨f, 0, none⟩), .int .i64 (c.handle), .string c.name, .int .i64 192]) (d := (some 17)) (pre := (l6 f m t S L)) (R := (lq m L S cb c R)) (pk := [0, 2, 3, 1, 4, 5, 6, 7]) (fN := [0, 3, 1, 2, 4, 5, 6, 7]) (v0 := .tuple #[.pointer none, .int .i64 (e)]) (fun _ => by kernel_rfl) ((by have h := cX S L f m t hI c.handle hC.hw c.name hC.nm 192 (β := β); rw [hab] at h; exact h)) rfl (by kernel_rfl) rfl (by kernel_rfl) (fun _ _ h => h) ?_
  refine gQ 5 (Ej e) [] ?_
  refine NQ (NX (af.seq (SR ?_)))
  refine gK 2 [(21, .bool (!(decide ((e : Int) = (0 : Int)))))] [] ?_
  refine NN ?_
  refine af.cT (p := (e : Int) = (0 : Int)) (fun _ => by kernel_rfl) (fun oO => ?_) (fun oO => ?_)
  ·
   refine SR ?_
   refine gK 2 [(4, .int .i64 (e))] [] ?_
   refine NN (af.ret (aj.av ?_))
   exact RT (.int .i64 (e)) [0, 1, 2, 3, 4, 5, 6, 7] (⟨L, by rw [show (eS S c) = (e, S, c) by unfold eS; rw [hab]] <;> exact ⟨rfl, rfl⟩⟩)
  ·
   exact absurd oO hne
 ·
  have hkd : (obj S.O d).kind = 2 := hI.kind hd
  refine aI.call (f := 111) (args := #[.pointer (some ⟨f, 0, none⟩), .int .i64 (c.handle), .string c.name, .int .i64 192]) (d := (some 17)) (pre := (l6 f m t S L)) (R := (lq m L S cb c R)) (pk := [0, 2, 3, 1, 4, 5, 6, 7]) (fN := [0, 3, 1, 2, 4, 5, 6, 7]) (v0 := .tuple #[.pointer (some ⟨(L.b d), 0, none⟩), .int .i64 0]) (fun _ => by kernel_rfl) ((by have h := cX S L f m t hI c.handle hC.hw c.name hC.nm 192 (β := β); rw [hab] at h; exact h)) rfl (by kernel_rfl) rfl (by kernel_rfl) (fun _ _ h => h) ?_
  refine gQ 5 (Aj L d) [] ?_
  refine NQ (NX (af.seq (SR ?_)))
  refine gK 2 [(21, .bool false)] [] ?_
  refine NN ?_
  refine CF ?_
  refine af.skip (NX (SR ?_))
  refine gK 6 [(23, .pointer (some ⟨f, 0, none⟩)), (24, .pointer (some ⟨(L.b d), 0, none⟩)), (28, .string c.name)] [(5, a_ 6 cb)] ?_
  refine gL [0, 1, 2, 3, 4, 5] (CB S L f m t hI d hd c.name hC.nm) ?_
  rintro _ _ ⟨L2, rfl, rfl⟩
  refine gK 1 [(4, .int .i64 ((unlinkM S d c.name).1))] [] ?_
  refine NN (af.ret ?_)
  exact RT (.int .i64 ((unlinkM S d c.name).1)) [0, 1, 2, 3, 4, 5, 6, 7] (⟨L2, by rw [show (eS S c) = ((unlinkM S d c.name).1, (unlinkM S d c.name).2, c) by unfold eS; rw [hab]] <;> exact ⟨rfl, rfl⟩⟩)
set_option maxRecDepth 100000 in
set_option maxHeartbeats 4000000 in
theorem Be {β : Bs} (S : aH) (L : HL) (f m t : Nat) (hI : Inv S) (cb : Nat) (c : aU) (hC : dR β c) :
    Spec Tryz.prog β 72 #[.pointer (some ⟨f, 0, none⟩), .pointer (some ⟨cb, 0, none⟩)] ((pA f m t L S) ++ [pC cb c]) (fun v l => ∃ L2, v = .int .i64 (fX S c).1 ∧ l = ((pA f m t L2 ((fX S c).2.1)) ++ [.blk cb (fT ((fX S c).2.2)) 39])) := by
 have hX := hI.hX
 refine Spec.enter Tryz.func72 rfl Tryz.ntmps72 (Nat.le_of_ble_eq_true rfl) (fun R => ?_)
 refine SR ?_
 refine gK 1 [] [] ?_
 refine NN (af.seq ?_)
 refine af.bC (by kernel_rfl) (by kernel_rfl) ?_
 refine gQ 9 (GW f c) [(4, a_ 6 cb), (8, a_ 6 cb)] ?_
 rcases jm hI.toInv0 c.handle c.name 192 with ⟨e, hab, hne⟩ | ⟨d, hab, hd, iK, iL, cD⟩
 ·
  refine aI.call (f := 111) (args := #[.pointer (some ⟨f, 0, none⟩), .int .i64 (c.handle), .string c.name, .int .i64 192]) (d := (some 17)) (pre := (l6 f m t S L)) (R := (lq m L S cb c R)) (pk := [0, 2, 3, 1, 4, 5, 6, 7]) (fN := [0, 3, 1, 2, 4, 5, 6, 7]) (v0 := .tuple #[.pointer none, .int .i64 (e)]) (fun _ => by kernel_rfl) ((by have h := cX S L f m t hI c.handle hC.hw c.name hC.nm 192 (β := β); rw [hab] at h; exact h)) rfl (by kernel_rfl) rfl (by kernel_rfl) (fun _ _ h => h) ?_
  refine gQ 5 (Ej e) [] ?_
  refine NQ (NX (af.seq (SR ?_)))
  refine gK 2 [(21, .bool (!(decide ((e : Int) = (0 : Int)))))] [] ?_
  refine NN ?_
  refine af.cT (p := (e : Int) = (0 : Int)) (fun _ => by kernel_rfl) (fun oO => ?_) (fun oO => ?_)
  ·
   refine SR ?_
   refine gK 2 [(4, .int .i64 (e))] [] ?_
   refine NN (af.ret (aj.av ?_))
   exact RT (.int .i64 (e)) [0, 1, 2, 3, 4, 5, 6, 7] (⟨L, by rw [show (fX S c) = (e, S, c) by unfold fX; rw [hab]] <;> exact ⟨rfl, rfl⟩⟩)
  ·
   exact absurd oO hne
 ·
  have hkd : (obj S.O d).kind = 2 := hI.kind hd
  refine aI.call (f := 111) (args := #[.pointer (some ⟨f, 0, none⟩), .int .i64 (c.handle), .string c.name, .int .i64 192]) (d := (some 17)) (pre := (l6 f m t S L)) (R := (lq m L S cb c R)) (pk := [0, 2, 3, 1, 4, 5, 6, 7]) (fN := [0, 3, 1, 2, 4, 5, 6, 7]) (v0 := .tuple #[.pointer (some ⟨(L.b d), 0, none⟩), .int .i64 0]) (fun _ => by kernel_rfl) ((by have h := cX S L f m t hI c.handle hC.hw c.name hC.nm 192 (β := β); rw [hab] at h; exact h)) rfl (by kernel_rfl) rfl (by kernel_rfl) (fun _ _ h => h) ?_
  refine gQ 5 (Aj L d) [] ?_
  refine NQ (NX (af.seq (SR ?_)))
  refine gK 2 [(21, .bool false)] [] ?_
  refine NN ?_
  refine CF ?_
  refine af.skip (NX (SR ?_))
  refine gK 6 [(23, .pointer (some ⟨f, 0, none⟩)), (24, .pointer (some ⟨(L.b d), 0, none⟩)), (28, .string c.name)] [(5, a_ 6 cb)] ?_
  refine gL [0, 1, 2, 3, 4, 5] (D9 S L f m t hI d hd c.name hC.nm) ?_
  rintro _ _ ⟨L2, rfl, rfl⟩
  refine gK 1 [(4, .int .i64 ((rmdirM S d c.name).1))] [] ?_
  refine NN (af.ret ?_)
  exact RT (.int .i64 ((rmdirM S d c.name).1)) [0, 1, 2, 3, 4, 5, 6, 7] (⟨L2, by rw [show (fX S c) = ((rmdirM S d c.name).1, (rmdirM S d c.name).2, c) by unfold fX; rw [hab]] <;> exact ⟨rfl, rfl⟩⟩)
set_option maxRecDepth 100000 in
set_option maxHeartbeats 4000000 in
theorem Al {β : Bs} (S : aH) (L : HL) (f m t : Nat) (hI : Inv S) (cb : Nat) (c : aU) (hC : dR β c) :
    Spec Tryz.prog β 73 #[.pointer (some ⟨f, 0, none⟩), .pointer (some ⟨cb, 0, none⟩)] ((pA f m t L S) ++ [pC cb c]) (fun v l => ∃ L2, v = .int .i64 (eu S c).1 ∧ l = ((pA f m t L2 ((eu S c).2.1)) ++ [.blk cb (fT ((eu S c).2.2)) 39])) := by
 have hX := hI.hX
 refine Spec.enter Tryz.func73 rfl Tryz.ntmps73 (Nat.le_of_ble_eq_true rfl) (fun R => ?_)
 refine SR ?_
 refine gK 1 [] [] ?_
 refine NN (af.seq ?_)
 refine af.bC (by kernel_rfl) (by kernel_rfl) ?_
 refine gQ 9 [(9, .pointer (some ⟨f, 0, none⟩)), (13, .int .i64 (c.handle)), (17, .string c.name)] [(4, a_ 6 cb), (8, a_ 6 cb)] ?_
 rcases jm hI.toInv0 c.handle c.name 192 with ⟨e, hab, hne⟩ | ⟨d, hab, hd, iK, iL, cD⟩
 ·
  refine aI.call (f := 111) (args := #[.pointer (some ⟨f, 0, none⟩), .int .i64 (c.handle), .string c.name, .int .i64 192]) (d := (some 18)) (pre := (l6 f m t S L)) (R := (lq m L S cb c R)) (pk := [0, 2, 3, 1, 4, 5, 6, 7]) (fN := [0, 3, 1, 2, 4, 5, 6, 7]) (v0 := .tuple #[.pointer none, .int .i64 (e)]) (fun _ => by kernel_rfl) ((by have h := cX S L f m t hI c.handle hC.hw c.name hC.nm 192 (β := β); rw [hab] at h; exact h)) rfl (by kernel_rfl) rfl (by kernel_rfl) (fun _ _ h => h) ?_
  refine gQ 5 (Ej e) [] ?_
  refine NQ (NX (af.seq (SR ?_)))
  refine gK 2 [(22, .bool (!(decide ((e : Int) = (0 : Int)))))] [] ?_
  refine NN ?_
  refine af.cT (p := (e : Int) = (0 : Int)) (fun _ => by kernel_rfl) (fun GX => ?_) (fun GX => ?_)
  ·
   refine SR ?_
   refine gK 2 [(4, .int .i64 (e))] [] ?_
   refine NN (af.ret (aj.av ?_))
   exact RT (.int .i64 (e)) [0, 1, 2, 3, 4, 5, 6, 7] (⟨L, by rw [show (eu S c) = (e, S, c) by unfold eu; rw [hab]] <;> exact ⟨rfl, rfl⟩⟩)
  ·
   exact absurd GX hne
 ·
  have hkd : (obj S.O d).kind = 2 := hI.kind hd
  refine aI.call (f := 111) (args := #[.pointer (some ⟨f, 0, none⟩), .int .i64 (c.handle), .string c.name, .int .i64 192]) (d := (some 18)) (pre := (l6 f m t S L)) (R := (lq m L S cb c R)) (pk := [0, 2, 3, 1, 4, 5, 6, 7]) (fN := [0, 3, 1, 2, 4, 5, 6, 7]) (v0 := .tuple #[.pointer (some ⟨(L.b d), 0, none⟩), .int .i64 0]) (fun _ => by kernel_rfl) ((by have h := cX S L f m t hI c.handle hC.hw c.name hC.nm 192 (β := β); rw [hab] at h; exact h)) rfl (by kernel_rfl) rfl (by kernel_rfl) (fun _ _ h => h) ?_
  refine gQ 5 (Aj L d) [] ?_
  refine NQ (NX (af.seq (SR ?_)))
  refine gK 2 [(22, .bool false)] [] ?_
  refine NN ?_
  refine CF ?_
  refine af.skip (NX (af.seq ?_))
  refine af.bC (by kernel_rfl) (by kernel_rfl) ?_
  refine gQ 9 [(25, .pointer (some ⟨f, 0, none⟩)), (29, .int .i64 (c.other)), (33, .string c.text)] [(4, a_ 6 cb), (8, a_ 6 cb)] ?_
  rcases jm hI.toInv0 c.other c.text 192 with ⟨e2, gU, FO⟩ | ⟨to, gU, hd2, Mb, Mc, Md⟩
  ·
   refine aI.call (f := 111) (args := #[.pointer (some ⟨f, 0, none⟩), .int .i64 (c.other), .string c.text, .int .i64 192]) (d := (some 34)) (pre := (l6 f m t S L)) (R := (lq m L S cb c R)) (pk := [0, 2, 3, 1, 4, 5, 6, 7]) (fN := [0, 3, 1, 2, 4, 5, 6, 7]) (v0 := .tuple #[.pointer none, .int .i64 (e2)]) (fun _ => by kernel_rfl) ((by have h := cX S L f m t hI c.other hC.ow c.text hC.tx 192 (β := β); rw [gU] at h; exact h)) rfl (by kernel_rfl) rfl (by kernel_rfl) (fun _ _ h => h) ?_
   refine gQ 5 [(6, .int .i64 (e2)), (7, .pointer none)] [] ?_
   refine NQ (NX (af.seq (SR ?_)))
   refine gK 2 [(38, .bool (!(decide ((e2 : Int) = (0 : Int)))))] [] ?_
   refine NN ?_
   refine af.cT (p := (e2 : Int) = (0 : Int)) (fun _ => by kernel_rfl) (fun vM => ?_) (fun vM => ?_)
   ·
    refine SR ?_
    refine gK 2 [(4, .int .i64 (e2))] [] ?_
    refine NN (af.ret (aj.av ?_))
    exact RT (.int .i64 (e2)) [0, 1, 2, 3, 4, 5, 6, 7] (⟨L, by rw [show (eu S c) = (e2, S, c) by unfold eu; rw [hab]; simp only; rw [gU]] <;> exact ⟨rfl, rfl⟩⟩)
   ·
    exact absurd vM FO
  ·
   have dg : (obj S.O to).kind = 2 := hI.kind hd2
   refine aI.call (f := 111) (args := #[.pointer (some ⟨f, 0, none⟩), .int .i64 (c.other), .string c.text, .int .i64 192]) (d := (some 34)) (pre := (l6 f m t S L)) (R := (lq m L S cb c R)) (pk := [0, 2, 3, 1, 4, 5, 6, 7]) (fN := [0, 3, 1, 2, 4, 5, 6, 7]) (v0 := .tuple #[.pointer (some ⟨(L.b to), 0, none⟩), .int .i64 0]) (fun _ => by kernel_rfl) ((by have h := cX S L f m t hI c.other hC.ow c.text hC.tx 192 (β := β); rw [gU] at h; exact h)) rfl (by kernel_rfl) rfl (by kernel_rfl) (fun _ _ h => h) ?_
   refine gQ 5 [(6, .int .i64 0), (7, .pointer (some ⟨(L.b to), 0, none⟩))] [] ?_
   refine NQ (NX (af.seq (SR ?_)))
   refine gK 2 [(38, .bool false)] [] ?_
   refine NN ?_
   refine CF ?_
   refine af.skip (NX (af.seq ?_))
   refine af.bT (S := [pC cb c]) [0, 1, 2, 3, 4, 5, 6, 7, 8, 9, 10, 11, 12] 11 [6] (by kernel_rfl) (by kernel_rfl) rfl (by kernel_rfl) ?_
   refine aD.reads (r := 0) (l := [11, 12]) (fr' := [(40, vP f), (41, vP (L.b d)), (45, .string c.name), (46, vP (L.b to)), (50, .string c.text)]) (ak := [cb = cb, cb = cb]) [0, 1, 2, 3, 4, 5, 6, 7, 8, 9, 10] [o_, o_, o_, o_, o_, ⟨[.at 0], none, none, none, none⟩, o_, o_, o_, o_, ⟨[.at 0], none, none, none, none⟩] [40, 41, 45, 46, 50] (fun _ => by kernel_rfl) ⟨rfl, rfl, trivial⟩ rfl rfl ?_
   refine mL [6] [0, 1, 2, 3, 4, 5] (CI S L f m t hI d hd c.name hC.nm to hd2 c.text hC.tx) ?_ (by rintro _ _ ⟨L2, rfl, rfl⟩; rfl)
   rintro _ _ ⟨L2, rfl, rfl⟩
   refine aD.last rfl rfl ?_
   refine gK 1 [(4, .int .i64 ((renameM S d c.name to c.text).1))] [] ?_
   refine NL (aj.np (NX (af.ret ?_)))
   exact RT (.int .i64 ((renameM S d c.name to c.text).1)) [0, 1, 2, 3, 4, 5, 6, 7] (⟨L2, by rw [show (eu S c) = ((renameM S d c.name to c.text).1, (renameM S d c.name to c.text).2, c) by unfold eu; rw [hab]; simp only; rw [gU]] <;> exact ⟨rfl, rfl⟩⟩)
end Go.Proofs.YtkiedlmhocglhaaGreat
end
section
namespace Go.Proofs.YtkiedlmhocglhaaGreat
open Go.RowKit
section order
variable {P : Program} {ops : Array Oper} {Q Q' : Post} {n : Nat} {S : World → Prop}
def jU (P : Program) (ops : Array Oper) (Q : Post) (S : World → Prop) : List (Bool × Nat) → Act → World → Prop
  | [], a, w => Q .normal a w
  | (false, i) :: l, a, w => wpOp P ops Q i (fun a' w' => (l = [] ∨ S w') ∧ jU P ops Q S l a' w') a w
  | (true, i) :: l, a, w => ∃ o v, ops[i]? = some o ∧ YieldsIf P ops S o v a ∧ jU P ops Q S l (a.put o.dst v) w
def uf (ops : Array Oper) (n : Nat) : List (Bool × Nat) → Array Bool → Bool
  | [], listed => (Region.ready .any ops listed).isEmpty
  | (false, i) :: l, listed => (Region.ready .any ops listed == [i]) && (!l.isEmpty || i == n) && uf ops n l (listed.setIfInBounds i true)
  | (true, i) :: l, listed => decide (i < n) && Region.free .any ops listed i && (Region.ready .any ops listed).contains i && uf ops n l (listed.setIfInBounds i true)
theorem vr (hsel : Region.noSelect ops = true) (lJ : Region.sinkB .any ops n = true) : ∀ (l : List (Bool × Nat)) (listed : Array Bool) (a : Act) (w : World), uf ops n l listed = true → Closed ops listed → (l = [] ∨ S w) → jU P ops (NP Q) S l a w → jL P ops (NP Q) n S l.length listed a w
  | [], listed, a, w, hb, _, _, h => ⟨List.isEmpty_iff.1 hb, h⟩
  | (false, i) :: l, listed, a, w, hb, hc, _, h => by
    unfold uf at hb
    simp only [Bool.and_eq_true, beq_iff_eq] at hb
    obtain ⟨⟨h1, h2⟩, h3⟩ := hb
    refine ⟨fun h0 => (by rw [h1] at h0; cases h0), fun j hj => ?_⟩
    have hr := hj
    rw [h1] at hj
    have hj : j = i := by simpa using hj
    subst hj
    refine wpOp_mono (fun a' w' h4 => ⟨?_, vr hsel lJ l _ a' w' h3 (hc.set hr) h4.1 h4.2⟩) h
    rcases h4.1 with h5 | h5
    · subst h5; exact .inl (by simpa using h2)
    · exact .inr h5
  | (true, i) :: l, listed, a, w, hb, hc, hS, h => by
    unfold uf at hb
    simp only [Bool.and_eq_true, decide_eq_true_iff] at hb
    obtain ⟨⟨⟨h1, h2⟩, h3⟩, h4⟩ := hb
    obtain ⟨o, v, ho, hy, hk⟩ := h
    have hS : S w := hS.resolve_left (by simp)
    have hr : i ∈ Region.ready .any ops listed := by simpa using h3
    exact oH ho hsel lJ h1 l.length listed a w hc (Region.free_spec ho h2) hr hy hS (vr hsel lJ l _ _ w h4 (hc.set hr) (.inr hS) hk)
def BK (ops : Array Oper) (l : List (Bool × Nat)) : Bool :=
  Region.noSelect ops && Region.sinkB .any ops (ops.size - 1) && (l.length == ops.size) && uf ops (ops.size - 1) l (Array.replicate ops.size false)
def nY (ops : Array Oper) (i : Nat) : Array Oper := ⟨ops.toList.take (i + 1)⟩
def gB (ops : Array Oper) (i : Nat) : Bool := match ops[i]? with
  | some o => match o.guard with
    | none => true
    | some (j, _) => decide (j ≤ i)
  | none => false
theorem Ek {i j : Nat} (h : j ≤ i) : (nY ops i)[j]? = ops[j]? := by
  unfold nY
  obtain ⟨l⟩ := ops
  simp only [List.getElem?_toArray, List.getElem?_take]
  rw [if_pos (by omega)]
theorem tj {i : Nat} {a : Act} {w : World} {K : Act → World → Prop} (hg : gB ops i = true) (h : wpList P (nY ops i) (NP fun _ a w => K a w) ((nY ops i).toList.drop i) a w) : wpOp P ops (NP Q) i K a w := by
  unfold gB at hg
  split at hg
  · rename_i o ho
    have hd : (nY ops i).toList.drop i = [o] := by
      have hl : ops.toList[i]? = some o := by simpa using ho
      have hi : i < ops.toList.length := bq hl
      show (ops.toList.take (i + 1)).drop i = [o]
      rw [List.drop_take]
      rw [show i + 1 - i = 1 by omega, List.drop_eq_getElem_cons hi]
      rw [List.getElem?_eq_getElem hi] at hl
      cases hl
      rfl
    have hw : Region.wanted o (yielded (nY ops i) a.tmps) = Region.wanted o (yielded ops a.tmps) := by
      unfold Region.wanted
      split at hg
      · rename_i hn; rw [hn]
      · rename_i j b hn
        rw [hn]
        have hj : j ≤ i := by simpa using hg
        have : yielded (nY ops i) a.tmps j = yielded ops a.tmps j := by
          unfold yielded
          rw [Ek hj]
        simp only [this]
    rw [hd] at h
    unfold wpOp
    simp only [ho]
    unfold wpList at h
    rw [hw] at h
    split at h
    · rename_i hw
      rw [if_pos hw]
      rcases h with h | ⟨_, h⟩
      · exact .inl (yV (Oper.wp_mono (fun a w h => h) h))
      · exact (lH h).elim
    · rename_i hw
      rw [if_neg hw]
      exact h
  · cases hg
end order
theorem nZ {P : Program} {ops : Array Oper} {Q Q' : Post} (hq : ∀ a w, Q .normal a w → Q' .normal a w) : ∀ (l : List Oper) {a : Act} {w : World}, wpList P ops (NP Q) l a w → wpList P ops (NP Q') l a w
  | [], _, _, h => hq _ _ h
  | o :: r, a, w, h => by
    unfold wpList at *
    split
    · rename_i hw
      rw [if_pos hw] at h
      rcases h with h | ⟨_, h⟩
      · exact .inl (yV (Oper.wp_mono (fun a w h => nZ hq r h) h))
      · exact (lH h).elim
    · rename_i hw
      rw [if_neg hw] at h
      exact nZ hq r h
section mix
variable {P : Program} {β : Bs} {N : Nat} {ops : Array Oper} {S : List HP} {l l' : List (Bool × Nat)} {fr fr' : Fr} {hps : List HP} {Q : Post} {ak : List Prop} {i : Nat} {pk : List Nat}
def iE (P : Program) (β : Bs) (N : Nat) (ops : Array Oper) (S : List HP) (l : List (Bool × Nat)) (fr : Fr) (hps : List HP) (Q : Post) : Prop :=
  ∀ junk w, Sat β hps w → jU P ops (NP Q) (Sat β S) l (cF N fr junk) w
theorem af.ru {id : Nat} (l : List (Bool × Nat)) (pk : List Nat) (hm : P.follows .mixedOrders = true) (hB : BK ops l = true) (hn : br pk = true) (hp : bI hps pk = some S) (h : iE P β N ops S l fr hps Q) : af P β N (.region id ops true) fr hps Q := by
  intro junk w hS
  unfold BK at hB
  simp only [Bool.and_eq_true, beq_iff_eq] at hB
  obtain ⟨⟨⟨h1, h2⟩, h3⟩, h4⟩ := hB
  have cu := hS.drewN 1
  have h5 := vr (Q := Q) h1 h2 l _ _ _ h4 (fun j oj _ hl => by simp [Array.getD_eq_getD_getElem?, Array.getElem?_replicate] at hl; split at hl <;> simp at hl) (.inr (cu.pick hn hp)) (h junk (w.drewN 1) cu)
  rw [h3] at h5
  refine Code.wp_mono (fun e a w q => ?_) (wp_region_any hm (lI _ _ _ _ h5))
  cases e with
  | normal => exact q
  | exit id => exact q.elim
  | goto l => exact q.elim
  | ret => exact q.elim
  | panic ch => exact q.elim
  | outgrown => exact q.elim
def oW (P : Program) (β : Bs) (N : Nat) (junk : Nat → Value) (ops : Array Oper) : List OH → List Nat → Fr → SS → Option (Fr × SS)
  | [], [], fr, S => some (fr, S)
  | h :: hs, i :: is, fr, S =>
    match ops[i]? with
    | some o =>
      match Region.wanted o (yF ops N fr junk) with
      | true =>
        match oy P β 0 true (bZ N fr junk) o h S with
        | some (v, S') =>
          match sj v with
          | true => oW P β N junk ops hs is (cA fr o.dst v) S'
          | false => none
        | none => none
      | false => oW P β N junk ops hs is (cA fr o.dst undef) S
    | none => none
  | _, _, _, _ => none
def Am (P : Program) (β : Bs) (N : Nat) (junk : Nat → Value) (ops : Array Oper) (hs : List OH) (is : List Nat) (fr : Fr) (S : List HP) (idx : List Nat) : Option (Fr × List Prop) :=
  match oW P β N junk ops hs is fr ⟨[], S, [], true⟩ with
  | some (fr', S') => some (gY fr' junk idx, S'.ak)
  | none => none
theorem rz {junk : Nat → Value} : ∀ {hs : List OH} {is : List Nat} {fr fr' : Fr} {S S' : SS}, oW P β N junk ops hs is fr S = some (fr', S') → ∀ p, p ∈ S.ak → p ∈ S'.ak
  | [], [], fr, fr', S, S', h, p, hp => by cases h; exact hp
  | h :: hs, i :: is, fr, fr', S, S', hr, p, hp => by
    unfold oW at hr
    repeat' split at hr
    all_goals first | (cases hr; done) | skip
    · rename_i h0 _ _
      exact rz hr p (uL h0 p hp)
    · exact rz hr p hp
  | [], _ :: _, _, _, _, _, h, _, _ => by cases h
  | _ :: _, [], _, _, _, _, h, _, _ => by cases h
theorem oY {junk : Nat → Value} {w : World} : ∀ {hs : List OH} {is : List Nat} {fr fr' : Fr} {T T' : SS}, oW P β N junk ops hs is fr T = some (fr', T') → (∀ p, p ∈ T'.ak → p) → T.used = true → T.hps = S →
    jU P ops (NP Q) (Sat β S) l (cF N fr' junk) w → jU P ops (NP Q) (Sat β S) (is.map (fun i => (true, i)) ++ l) (cF N fr junk) w
  | [], [], fr, fr', T, T', h, ho, hu, hT, hK => by cases h; exact hK
  | h :: hs, i :: is, fr, fr', T, T', hr, ho, hu, hT, hK => by
    unfold oW at hr
    repeat' split at hr
    all_goals first | (cases hr; done) | skip
    · rename_i o hget _ CU _ v T1 h0 _ hv
      obtain ⟨e1, e2⟩ := qq h0
      rw [List.map_cons, List.cons_append]
      unfold jU
      refine ⟨o, v, hget, .inl ⟨by rw [dr]; exact CU, fun w' cu => ?_⟩, ?_⟩
      · rw [cY]
        obtain ⟨w2, h1, _, _, h4⟩ := jX h0 (fun p hp => ho p (rz hr p hp)) (by rw [hT]; exact cu) (fun e => by rw [hu] at e; cases e)
        obtain ⟨ew, _⟩ := h4 rfl
        rw [ew] at h1
        rcases h1 with h1 | ⟨h1, _⟩
        · exact h1
        · exact absurd h1 (pN hv)
      · rw [cW]
        exact oY hr ho (e2.trans hu) (e1.trans hT) hK
    · rename_i o hget _ CU
      rw [List.map_cons, List.cons_append]
      unfold jU
      refine ⟨o, undef, hget, .inr ⟨by rw [dr]; exact CU, rfl⟩, ?_⟩
      rw [cW]
      exact oY hr ho hu hT hK
  | [], _ :: _, _, _, _, _, h, _, _, _, _ => by cases h
  | _ :: _, [], _, _, _, _, h, _, _, _, _ => by cases h
theorem iE.reads (is : List Nat) (hs : List OH) (idx : List Nat) (h : ∀ junk, Am P β N junk ops hs is fr S idx = some (fr', ak)) (ho : fV ak) (hl : l' = is.map (fun i => (true, i)) ++ l) (K : iE P β N ops S l fr' hps Q) : iE P β N ops S l' fr hps Q := by
  intro junk w hS
  subst hl
  have h0 := h junk
  unfold Am at h0
  split at h0
  · rename_i iI S1 h1
    cases h0
    have hK := K (lk iI junk) w hS
    rw [← iy] at hK
    exact oY h1 (fun p hp => ho.mem hp) rfl rfl hK
  · cases h0
theorem iE.cut {ι : Type} {fr' : ι → Fr} {hp' : ι → List HP} (pk : List Nat) (hg : gB ops i = true) (h : ah P β N (nY ops i) i fr hps (NP (iJ β N fr' hp'))) (hn : br pk = true) (hp : ∀ j, bI (hp' j) pk = some S)
    (K : ∀ j, iE P β N ops S l (fr' j) (hp' j) Q) : iE P β N ops S ((false, i) :: l) fr hps Q := by
  intro junk w hS
  unfold jU
  refine tj hg (nZ (Q' := _) (fun a w ⟨j, ic, ha, cu⟩ => ?_) _ (h junk w hS))
  subst ha
  exact ⟨.inr (cu.pick hn (hp j)), K j ic w cu⟩
theorem iE.last (hg : gB ops i = true) (h : ah P β N (nY ops i) i fr hps (NP Q)) : iE P β N ops S [(false, i)] fr hps Q := by
  intro junk w hS
  unfold jU
  exact tj hg (nZ (Q' := _) (fun a w hq => ⟨.inl rfl, by unfold jU; exact hq⟩) _ (h junk w hS))
end mix
end Go.Proofs.YtkiedlmhocglhaaGreat
end
section
namespace Go.Proofs.YtkiedlmhocglhaaGreat
open Go.RowKit Go.Maps HeapM TabM
attribute [local irreducible] ah aI af aj
abbrev BL (cb : Nat) (c : aU) := (pC cb { c with other := 0, mode := 0, uid := 0, gid := 0, sec := 0, nano := 0 } : HP)
abbrev BM (cb : Nat) (c : aU) (S : aH) (tk : Nat) := (pC cb { c with other := 0, mode := 0, uid := 0, gid := 0, sec := 0, nano := 0, answer := (obj S.O tk).id } : HP)
abbrev Lk (cb : Nat) (c : aU) (S : aH) (tk : Nat) := (pC cb { c with other := 1, mode := (obj S.O tk).mode, uid := (obj S.O tk).uid, gid := 0, sec := 0, nano := 0, answer := (obj S.O tk).id } : HP)
abbrev Ll (cb : Nat) (c : aU) (S : aH) (tk : Nat) := (pC cb { c with other := 1, mode := (obj S.O tk).mode, uid := (obj S.O tk).uid, gid := (obj S.O tk).gid, sec := 0, nano := 0, answer := (obj S.O tk).id } : HP)
abbrev Lm (cb : Nat) (c : aU) (S : aH) (tk : Nat) := (pC cb { c with other := 2, mode := (obj S.O tk).mode, uid := (obj S.O tk).uid, gid := 0, sec := 0, nano := 0, answer := (obj S.O tk).id } : HP)
abbrev Ln (cb : Nat) (c : aU) (S : aH) (tk : Nat) := (pC cb { c with other := 2, mode := (obj S.O tk).mode, uid := (obj S.O tk).uid, gid := (obj S.O tk).gid, sec := 0, nano := 0, answer := (obj S.O tk).id } : HP)
abbrev Lp (cb : Nat) (c : aU) (S : aH) (tk : Nat) := (pC cb { c with other := 3, mode := (obj S.O tk).mode, uid := (obj S.O tk).uid, gid := 0, sec := 0, nano := 0, answer := (obj S.O tk).id } : HP)
abbrev Lr (cb : Nat) (c : aU) (S : aH) (tk : Nat) := (pC cb { c with other := 3, mode := (obj S.O tk).mode, uid := (obj S.O tk).uid, gid := (obj S.O tk).gid, sec := 0, nano := 0, answer := (obj S.O tk).id } : HP)
abbrev kB (S : aH) (tk : Nat) := ([(40, vI ((obj S.O tk).mode)), (44, vI ((obj S.O tk).uid)), (48, vI ((obj S.O tk).gid)), (52, .agg #[vI ((obj S.O tk).sec), vI ((obj S.O tk).nano)])] : Fr)
abbrev nE (S : aH) (tk : Nat) := ([(48, vI ((obj S.O tk).gid)), (52, .agg #[vI ((obj S.O tk).sec), vI ((obj S.O tk).nano)])] : Fr)
abbrev rA (cb : Nat) (S : aH) (tk : Nat) := ([(26, vP cb), (27, vP cb), (28, vP cb), (29, vP cb), (30, vP cb), (34, vI ((obj S.O tk).id))] : Fr)
abbrev nF (f : Nat) (m : Nat) (t) (S : aH) (L : HL) (cb : Nat) (c) (R : bJ) := ([pF f m t S.X, pI m L S.idx, pO S.O L, pD S.O L, pE S.O L, pC cb c, .abs R] : List HP)
abbrev CV := ([(2, .int .i64 0), (6, .int .i64 0), (7, .int .i64 0), (8, .int .i64 0), (9, .int .i64 0), (10, .int .i64 0)] : Fr)
abbrev nG (cb : Nat) := ([(28, vP cb), (29, vP cb), (30, vP cb)] : Fr)
abbrev tq (L : HL) (to : Nat) (c : aU) := ([(61, .map (some (L.m to))), (65, .string c.text)] : Fr)
abbrev xH (cb : Nat) (S : aH) (tk : Nat) := ([(29, vP cb), (30, vP cb), (44, vI ((obj S.O tk).uid))] : Fr)
abbrev FP (S : aH) (tk : Nat) (cb : Nat) := ([(52, .agg #[vI ((obj S.O tk).sec), vI ((obj S.O tk).nano)]), (64, .pointer (some ⟨cb, 9, none⟩))] : Fr)
abbrev CW (L : HL) (tk : Nat) := ([(5, .iface 92 (.pointer (some ⟨(L.b tk), 0, none⟩))), (6, .int .i64 0)] : Fr)
abbrev CX (L : HL) (tk : Nat) := ([(5, .iface 98 (.pointer (some ⟨(L.b tk), 0, none⟩))), (6, .int .i64 0)] : Fr)
abbrev FQ (t) (c : aU) := ([(13, .pointer (some ⟨t, 0, none⟩)), (17, .int .i64 (c.handle))] : Fr)
abbrev FR (t) (c : aU) := ([(11, .pointer (some ⟨t, 0, none⟩)), (15, .int .i64 (c.handle))] : Fr)
abbrev FT (S : aH) (tk : Nat) := ([(9, .int .i64 ((obj S.O tk).sec)), (10, .int .i64 ((obj S.O tk).nano))] : Fr)
set_option maxRecDepth 100000 in
set_option maxHeartbeats 4000000 in
theorem CY {β : Bs} (S : aH) (L : HL) (f m t : Nat) (hI : Inv S) (cb : Nat) (c : aU) (hC : dR β c) :
    Spec Tryz.prog β 65 #[.pointer (some ⟨f, 0, none⟩), .pointer (some ⟨cb, 0, none⟩)] ((pA f m t L S) ++ [pC cb c]) (fun v l => ∃ L2, v = .int .i64 (bV S c).1 ∧ l = ((pA f m t L2 ((bV S c).2.1)) ++ [.blk cb (fT ((bV S c).2.2)) 39])) := by
 have hX := hI.hX
 refine Spec.enter Tryz.func65 rfl Tryz.ntmps65 (Nat.le_of_ble_eq_true rfl) (fun R => ?_)
 refine SR ?_
 refine gK 1 [] [] ?_
 refine NN (af.seq ?_)
 refine af.bC (by kernel_rfl) (by kernel_rfl) ?_
 refine gQ 9 [(10, .pointer (some ⟨f, 0, none⟩)), (14, .int .i64 (c.handle)), (18, .string c.name)] [(4, a_ 6 cb), (8, a_ 6 cb)] ?_
 rcases jm hI.toInv0 c.handle c.name 64 with ⟨e, hab, hne⟩ | ⟨d, hab, hd, iK, iL, cD⟩
 ·
  refine aI.call (f := 111) (args := #[.pointer (some ⟨f, 0, none⟩), .int .i64 (c.handle), .string c.name, .int .i64 64]) (d := (some 19)) (pre := (l6 f m t S L)) (R := (lq m L S cb c R)) (pk := [0, 2, 3, 1, 4, 5, 6, 7]) (fN := [0, 3, 1, 2, 4, 5, 6, 7]) (v0 := .tuple #[.pointer none, .int .i64 (e)]) (fun _ => by kernel_rfl) ((by have h := cX S L f m t hI c.handle hC.hw c.name hC.nm 64 (β := β); rw [hab] at h; exact h)) rfl (by kernel_rfl) rfl (by kernel_rfl) (fun _ _ h => h) ?_
  refine gQ 5 [(5, .pointer none), (6, .int .i64 (e))] [] ?_
  refine NQ (NX (af.seq (SR ?_)))
  refine gK 2 [(23, .bool (!(decide ((e : Int) = (0 : Int)))))] [] ?_
  refine NN ?_
  refine af.cT (p := (e : Int) = (0 : Int)) (fun _ => by kernel_rfl) (fun h23 => ?_) (fun h23 => ?_)
  ·
   refine SR ?_
   refine gK 2 [(4, .int .i64 (e))] [] ?_
   refine NN (af.ret (aj.av ?_))
   exact RT (.int .i64 (e)) [0, 1, 2, 3, 4, 5, 6, 7] (⟨L, by rw [show (bV S c) = (e, S, c) by unfold bV; rw [hab]] <;> exact ⟨rfl, rfl⟩⟩)
  ·
   exact absurd h23 hne
 ·
  have hkd : (obj S.O d).kind = 2 := hI.kind hd
  refine aI.call (f := 111) (args := #[.pointer (some ⟨f, 0, none⟩), .int .i64 (c.handle), .string c.name, .int .i64 64]) (d := (some 19)) (pre := (l6 f m t S L)) (R := (lq m L S cb c R)) (pk := [0, 2, 3, 1, 4, 5, 6, 7]) (fN := [0, 3, 1, 2, 4, 5, 6, 7]) (v0 := .tuple #[.pointer (some ⟨(L.b d), 0, none⟩), .int .i64 0]) (fun _ => by kernel_rfl) ((by have h := cX S L f m t hI c.handle hC.hw c.name hC.nm 64 (β := β); rw [hab] at h; exact h)) rfl (by kernel_rfl) rfl (by kernel_rfl) (fun _ _ h => h) ?_
  refine gQ 5 (Aj L d) [] ?_
  refine NQ (NX (af.seq (SR ?_)))
  refine gK 2 [(23, .bool false)] [] ?_
  refine NN ?_
  refine CF ?_
  refine af.skip (NX (af.seq ?_))
  refine af.bC (by kernel_rfl) (by kernel_rfl) ?_
  refine gQ 9 [(26, .pointer (some ⟨f, 0, none⟩)), (30, .int .i64 (c.other)), (34, .string c.text)] [(4, a_ 6 cb), (8, a_ 6 cb)] ?_
  rcases jm hI.toInv0 c.other c.text 192 with ⟨e2, gU, FO⟩ | ⟨to, gU, hd2, Mb, Mc, Md⟩
  ·
   refine aI.call (f := 111) (args := #[.pointer (some ⟨f, 0, none⟩), .int .i64 (c.other), .string c.text, .int .i64 192]) (d := (some 35)) (pre := (l6 f m t S L)) (R := (lq m L S cb c R)) (pk := [0, 2, 3, 1, 4, 5, 6, 7]) (fN := [0, 3, 1, 2, 4, 5, 6, 7]) (v0 := .tuple #[.pointer none, .int .i64 (e2)]) (fun _ => by kernel_rfl) ((by have h := cX S L f m t hI c.other hC.ow c.text hC.tx 192 (β := β); rw [gU] at h; exact h)) rfl (by kernel_rfl) rfl (by kernel_rfl) (fun _ _ h => h) ?_
   refine gQ 5 [(6, .int .i64 (e2)), (7, .pointer none)] [] ?_
   refine NQ (NX (af.seq (SR ?_)))
   refine gK 2 [(39, .bool (!(decide ((e2 : Int) = (0 : Int)))))] [] ?_
   refine NN ?_
   refine af.cT (p := (e2 : Int) = (0 : Int)) (fun _ => by kernel_rfl) (fun qw => ?_) (fun qw => ?_)
   ·
    refine SR ?_
    refine gK 2 [(4, .int .i64 (e2))] [] ?_
    refine NN (af.ret (aj.av ?_))
    exact RT (.int .i64 (e2)) [0, 1, 2, 3, 4, 5, 6, 7] (⟨L, by rw [show (bV S c) = (e2, S, c) by unfold bV; rw [hab]; simp only; rw [gU]] <;> exact ⟨rfl, rfl⟩⟩)
   ·
    exact absurd qw FO
  ·
   have dg : (obj S.O to).kind = 2 := hI.kind hd2
   refine aI.call (f := 111) (args := #[.pointer (some ⟨f, 0, none⟩), .int .i64 (c.other), .string c.text, .int .i64 192]) (d := (some 35)) (pre := (l6 f m t S L)) (R := (lq m L S cb c R)) (pk := [0, 2, 3, 1, 4, 5, 6, 7]) (fN := [0, 3, 1, 2, 4, 5, 6, 7]) (v0 := .tuple #[.pointer (some ⟨(L.b to), 0, none⟩), .int .i64 0]) (fun _ => by kernel_rfl) ((by have h := cX S L f m t hI c.other hC.ow c.text hC.tx 192 (β := β); rw [gU] at h; exact h)) rfl (by kernel_rfl) rfl (by kernel_rfl) (fun _ _ h => h) ?_
   refine gQ 5 [(6, .int .i64 0), (7, .pointer (some ⟨(L.b to), 0, none⟩))] [] ?_
   refine NQ (NX (af.seq (SR ?_)))
   refine gK 2 [(39, .bool false)] [] ?_
   refine NN ?_
   refine CF ?_
   refine af.skip (NX (af.seq ?_))
   have hel : (obj S.O d).ai.length ≤ 8192 := hI.eG hd
   have KW := hC.nm
   rcases hI.kK hd c.name with hlk | ⟨tk, hlk, hlv⟩ | ⟨tk, hlk, hlv⟩ | ⟨tk, hlk, hlv⟩
   ·
    refine af.bC (by kernel_rfl) (by kernel_rfl) ?_
    refine gQ 8 [(44, .map (some (L.m d))), (48, .string c.name)] [(3, v_ 3 (bE L hkd)), (7, a_ 6 cb)] ?_
    refine nK 5 hkd hlk ?_
    refine gQ 1 [(8, .nilIface)] [] ?_
    refine NQ (NX (af.seq (af.block (SR ?_))))
    refine gK 3 [(50, .bool true)] [] ?_
    refine NN ?_
    refine CT ?_
    refine SR ?_
    refine gK 1 [(4, .int .i64 170)] [] ?_
    refine NN (af.ret (aj.aO (aj.av ?_)))
    exact RT (.int .i64 170) [0, 1, 2, 3, 4, 5, 6, 7] (⟨L, by rw [show (bV S c) = (170, S, c) by unfold bV; rw [hab]; simp only; rw [gU]; simp only; rw [show (linkM S d c.name to c.text) = (170, S) by unfold linkM; rw [hlk]]] <;> exact ⟨rfl, rfl⟩⟩)
   ·
    have hkt : (obj S.O tk).kind = 1 := hI.kind hlv
    refine af.bC (by kernel_rfl) (by kernel_rfl) ?_
    refine gQ 8 [(44, .map (some (L.m d))), (48, .string c.name)] [(3, v_ 3 (bE L hkd)), (7, a_ 6 cb)] ?_
    refine nK 5 hkd hlk ?_
    refine gQ 1 [(8, .iface 92 (.pointer (some ⟨(L.b tk), 0, none⟩)))] [] ?_
    refine NQ (NX (af.seq (af.block (SR ?_))))
    refine gK 3 [(50, .bool false)] [] ?_
    refine NN ?_
    refine CF ?_
    refine SR ?_
    refine gK 1 [(54, .iface 92 (.pointer (some ⟨(L.b tk), 0, none⟩)))] [] ?_
    refine gL [] (jf (.pointer (some ⟨(L.b tk), 0, none⟩))) ?_
    rintro _ _ ⟨rfl, rfl⟩
    refine gK 2 [(53, .bool false)] [] ?_
    refine NN ?_
    refine CF ?_
    refine af.seq ?_
    have vu : (obj S.O to).ai.length ≤ 8192 := hI.eG hd2
    have JJ := hC.tx
    rcases hI.kK hd2 c.text with bp | ⟨ok, bp, dO⟩ | ⟨ok, bp, dO⟩ | ⟨ok, bp, dO⟩
    ·
     refine af.bC (by kernel_rfl) (by kernel_rfl) ?_
     refine gQ 8 (tq L to c) [(3, v_ 3 (bE L dg)), (7, a_ 6 cb)] ?_
     refine nK 5 dg bp ?_
     refine gQ 2 [(57, .bool false)] [] ?_
     refine NQ (NX ?_)
     refine CF ?_
     refine SR ?_
     refine gK 1 [(69, .pointer (some ⟨f, 0, none⟩))] [] ?_
     refine gL [0] (qh S.X f m t) ?_
     rintro _ _ ⟨rfl, rfl⟩
     refine gK 2 [(68, .bool (!(decide (S.X.ai < 8192))))] [] ?_
     refine NN ?_
     refine af.cT (p := S.X.ai < 8192) (fun _ => by kernel_rfl) (fun h68 => ?_) (fun h68 => ?_)
     ·
      refine SR ?_
      refine gK 1 [(4, .int .i64 177)] [] ?_
      refine NN (af.ret (aj.aO (aj.av ?_)))
      exact RT (.int .i64 177) [0, 1, 2, 3, 4, 5, 6, 7] (⟨L, by rw [show (bV S c) = (177, S, c) by unfold bV; rw [hab]; simp only; rw [gU]; simp only; rw [show (linkM S d c.name to c.text) = (177, S) by unfold linkM; rw [hlk]; exact (if_neg (by simp)).trans ((if_pos bp).trans (if_neg h68))]] <;> exact ⟨rfl, rfl⟩⟩)
     ·
      refine af.skip (aj.aW (NX (SR ?_)))
      refine gK 7 [(72, .pointer (some ⟨f, 0, none⟩)), (73, .pointer (some ⟨(L.b to), 0, none⟩)), (77, .string c.text), (78, .iface 92 (.pointer (some ⟨(L.b tk), 0, none⟩)))] [(5, a_ 6 cb)] ?_
      refine gL [0, 3, 5] (fo S.X f m t hX S.O L to dg c.text hC.tx bp (by omega) ⟨tk, 1⟩ hkt (by simp) (by have := hI.lb hlv; simp only at this ⊢; omega)) ?_
      rintro _ _ ⟨rfl, rfl⟩
      refine NS ?_
      refine ah.mem (aK := [.blk f [.int .i64 (S.X.cN), .int .i64 (S.X.cB), .int .i64 (S.X.cH), .int .i64 (S.X.cS), .int .i64 (S.X.cZ), .map (some m), .pointer (some ⟨t, 0, none⟩), .int .i64 (S.X.last), .int .i64 (S.X.ai + 1), .int .i64 (S.X.used)] 89, .abs (aq (aS (bh S.X S.O to c.text ⟨tk, 1⟩) L)), .abs (aq (bw (bh S.X S.O to c.text ⟨tk, 1⟩) L)), .abs (aC Tryz.prog 3 m (aN (aJ L S.idx)) S.idx.length), .abs (aZ 143 t S.X.cH S.au (aJ L S.us)), .abs (aq (aY (bh S.X S.O to c.text ⟨tk, 1⟩) L)), .blk cb [.int .i64 (c.op), .int .i64 (c.handle), .int .i64 (c.other), .string c.name, .string c.text, .slice c.dA (c.data.length) (c.dC), .int .i64 (c.mode), .int .i64 (c.uid), .int .i64 (c.gid), .int .i64 (c.sec), .int .i64 (c.nano), .int .i64 (c.code), .int .i64 (c.answer)] 39, .abs R]) (fun w hS => by rw [show aY (bh S.X S.O to c.text ⟨tk, 1⟩) L = aY S.O L from fw]; exact hS) ?_
      refine gK 1 [(4, .int .i64 0)] [] ?_
      refine NN (af.ret ?_)
      exact RT (.int .i64 0) [0, 3, 4, 1, 5, 2, 6, 7] (⟨L, by rw [show (bV S c) = (0, { S with X := { S.X with ai := S.X.ai + 1 }, O := bh S.X S.O to c.text ⟨tk, 1⟩ }, c) by unfold bV; rw [hab]; simp only; rw [gU]; simp only; rw [show (linkM S d c.name to c.text) = (0, { S with X := { S.X with ai := S.X.ai + 1 }, O := bh S.X S.O to c.text ⟨tk, 1⟩ }) by unfold linkM; rw [hlk]; exact (if_neg (by simp)).trans ((if_pos bp).trans (if_pos h68))]] <;> exact ⟨rfl, rfl⟩⟩)
    ·
     have jT : (obj S.O ok).kind = 1 := hI.kind dO
     refine af.bC (by kernel_rfl) (by kernel_rfl) ?_
     refine gQ 8 (tq L to c) [(3, v_ 3 (bE L dg)), (7, a_ 6 cb)] ?_
     refine nK 5 dg bp ?_
     refine gQ 2 [(57, .bool true)] [] ?_
     refine NQ (NX ?_)
     refine CT ?_
     refine SR ?_
     refine gK 1 [(4, .int .i64 171)] [] ?_
     refine NN (af.ret (aj.aO (aj.av ?_)))
     exact RT (.int .i64 171) [0, 1, 2, 3, 4, 5, 6, 7] (⟨L, by rw [show (bV S c) = (171, S, c) by unfold bV; rw [hab]; simp only; rw [gU]; simp only; rw [show (linkM S d c.name to c.text) = (171, S) by unfold linkM; rw [hlk]; exact (if_neg (by simp)).trans (if_neg (by rw [bp]; simp))]] <;> exact ⟨rfl, rfl⟩⟩)
    ·
     have jT : (obj S.O ok).kind = 2 := hI.kind dO
     refine af.bC (by kernel_rfl) (by kernel_rfl) ?_
     refine gQ 8 (tq L to c) [(3, v_ 3 (bE L dg)), (7, a_ 6 cb)] ?_
     refine nK 5 dg bp ?_
     refine gQ 2 [(57, .bool true)] [] ?_
     refine NQ (NX ?_)
     refine CT ?_
     refine SR ?_
     refine gK 1 [(4, .int .i64 171)] [] ?_
     refine NN (af.ret (aj.aO (aj.av ?_)))
     exact RT (.int .i64 171) [0, 1, 2, 3, 4, 5, 6, 7] (⟨L, by rw [show (bV S c) = (171, S, c) by unfold bV; rw [hab]; simp only; rw [gU]; simp only; rw [show (linkM S d c.name to c.text) = (171, S) by unfold linkM; rw [hlk]; exact (if_neg (by simp)).trans (if_neg (by rw [bp]; simp))]] <;> exact ⟨rfl, rfl⟩⟩)
    ·
     have jT : (obj S.O ok).kind = 3 := hI.kind dO
     refine af.bC (by kernel_rfl) (by kernel_rfl) ?_
     refine gQ 8 (tq L to c) [(3, v_ 3 (bE L dg)), (7, a_ 6 cb)] ?_
     refine nK 5 dg bp ?_
     refine gQ 2 [(57, .bool true)] [] ?_
     refine NQ (NX ?_)
     refine CT ?_
     refine SR ?_
     refine gK 1 [(4, .int .i64 171)] [] ?_
     refine NN (af.ret (aj.aO (aj.av ?_)))
     exact RT (.int .i64 171) [0, 1, 2, 3, 4, 5, 6, 7] (⟨L, by rw [show (bV S c) = (171, S, c) by unfold bV; rw [hab]; simp only; rw [gU]; simp only; rw [show (linkM S d c.name to c.text) = (171, S) by unfold linkM; rw [hlk]; exact (if_neg (by simp)).trans (if_neg (by rw [bp]; simp))]] <;> exact ⟨rfl, rfl⟩⟩)
   ·
    have hkt : (obj S.O tk).kind = 2 := hI.kind hlv
    refine af.bC (by kernel_rfl) (by kernel_rfl) ?_
    refine gQ 8 [(44, .map (some (L.m d))), (48, .string c.name)] [(3, v_ 3 (bE L hkd)), (7, a_ 6 cb)] ?_
    refine nK 5 hkd hlk ?_
    refine gQ 1 [(8, .iface 98 (.pointer (some ⟨(L.b tk), 0, none⟩)))] [] ?_
    refine NQ (NX (af.seq (af.block (SR ?_))))
    refine gK 3 [(50, .bool false)] [] ?_
    refine NN ?_
    refine CF ?_
    refine SR ?_
    refine gK 1 [(54, .iface 98 (.pointer (some ⟨(L.b tk), 0, none⟩)))] [] ?_
    refine gL [] (jg (.pointer (some ⟨(L.b tk), 0, none⟩))) ?_
    rintro _ _ ⟨rfl, rfl⟩
    refine gK 2 [(53, .bool true)] [] ?_
    refine NN ?_
    refine CT ?_
    refine SR ?_
    refine gK 1 [(4, .int .i64 172)] [] ?_
    refine NN (af.ret (aj.aO (aj.av ?_)))
    exact RT (.int .i64 172) [0, 1, 2, 3, 4, 5, 6, 7] (⟨L, by rw [show (bV S c) = (172, S, c) by unfold bV; rw [hab]; simp only; rw [gU]; simp only; rw [show (linkM S d c.name to c.text) = (172, S) by unfold linkM; rw [hlk]; exact if_pos rfl]] <;> exact ⟨rfl, rfl⟩⟩)
   ·
    have hkt : (obj S.O tk).kind = 3 := hI.kind hlv
    refine af.bC (by kernel_rfl) (by kernel_rfl) ?_
    refine gQ 8 [(44, .map (some (L.m d))), (48, .string c.name)] [(3, v_ 3 (bE L hkd)), (7, a_ 6 cb)] ?_
    refine nK 5 hkd hlk ?_
    refine gQ 1 [(8, .iface 95 (.pointer (some ⟨(L.b tk), 0, none⟩)))] [] ?_
    refine NQ (NX (af.seq (af.block (SR ?_))))
    refine gK 3 [(50, .bool false)] [] ?_
    refine NN ?_
    refine CF ?_
    refine SR ?_
    refine gK 1 [(54, .iface 95 (.pointer (some ⟨(L.b tk), 0, none⟩)))] [] ?_
    refine gL [] (jN (.pointer (some ⟨(L.b tk), 0, none⟩))) ?_
    rintro _ _ ⟨rfl, rfl⟩
    refine gK 2 [(53, .bool false)] [] ?_
    refine NN ?_
    refine CF ?_
    refine af.seq ?_
    have vu : (obj S.O to).ai.length ≤ 8192 := hI.eG hd2
    have JJ := hC.tx
    rcases hI.kK hd2 c.text with bp | ⟨ok, bp, dO⟩ | ⟨ok, bp, dO⟩ | ⟨ok, bp, dO⟩
    ·
     refine af.bC (by kernel_rfl) (by kernel_rfl) ?_
     refine gQ 8 (tq L to c) [(3, v_ 3 (bE L dg)), (7, a_ 6 cb)] ?_
     refine nK 5 dg bp ?_
     refine gQ 2 [(57, .bool false)] [] ?_
     refine NQ (NX ?_)
     refine CF ?_
     refine SR ?_
     refine gK 1 [(69, .pointer (some ⟨f, 0, none⟩))] [] ?_
     refine gL [0] (qh S.X f m t) ?_
     rintro _ _ ⟨rfl, rfl⟩
     refine gK 2 [(68, .bool (!(decide (S.X.ai < 8192))))] [] ?_
     refine NN ?_
     refine af.cT (p := S.X.ai < 8192) (fun _ => by kernel_rfl) (fun h68 => ?_) (fun h68 => ?_)
     ·
      refine SR ?_
      refine gK 1 [(4, .int .i64 177)] [] ?_
      refine NN (af.ret (aj.aO (aj.av ?_)))
      exact RT (.int .i64 177) [0, 1, 2, 3, 4, 5, 6, 7] (⟨L, by rw [show (bV S c) = (177, S, c) by unfold bV; rw [hab]; simp only; rw [gU]; simp only; rw [show (linkM S d c.name to c.text) = (177, S) by unfold linkM; rw [hlk]; exact (if_neg (by simp)).trans ((if_pos bp).trans (if_neg h68))]] <;> exact ⟨rfl, rfl⟩⟩)
     ·
      refine af.skip (aj.aW (NX (SR ?_)))
      refine gK 7 [(72, .pointer (some ⟨f, 0, none⟩)), (73, .pointer (some ⟨(L.b to), 0, none⟩)), (77, .string c.text), (78, .iface 95 (.pointer (some ⟨(L.b tk), 0, none⟩)))] [(5, a_ 6 cb)] ?_
      refine gL [0, 3, 5] (fo S.X f m t hX S.O L to dg c.text hC.tx bp (by omega) ⟨tk, 3⟩ hkt (by simp) (by have := hI.lb hlv; simp only at this ⊢; omega)) ?_
      rintro _ _ ⟨rfl, rfl⟩
      refine NS ?_
      refine ah.mem (aK := [.blk f [.int .i64 (S.X.cN), .int .i64 (S.X.cB), .int .i64 (S.X.cH), .int .i64 (S.X.cS), .int .i64 (S.X.cZ), .map (some m), .pointer (some ⟨t, 0, none⟩), .int .i64 (S.X.last), .int .i64 (S.X.ai + 1), .int .i64 (S.X.used)] 89, .abs (aq (aS (bh S.X S.O to c.text ⟨tk, 3⟩) L)), .abs (aq (bw (bh S.X S.O to c.text ⟨tk, 3⟩) L)), .abs (aC Tryz.prog 3 m (aN (aJ L S.idx)) S.idx.length), .abs (aZ 143 t S.X.cH S.au (aJ L S.us)), .abs (aq (aY (bh S.X S.O to c.text ⟨tk, 3⟩) L)), .blk cb [.int .i64 (c.op), .int .i64 (c.handle), .int .i64 (c.other), .string c.name, .string c.text, .slice c.dA (c.data.length) (c.dC), .int .i64 (c.mode), .int .i64 (c.uid), .int .i64 (c.gid), .int .i64 (c.sec), .int .i64 (c.nano), .int .i64 (c.code), .int .i64 (c.answer)] 39, .abs R]) (fun w hS => by rw [show aY (bh S.X S.O to c.text ⟨tk, 3⟩) L = aY S.O L from fw]; exact hS) ?_
      refine gK 1 [(4, .int .i64 0)] [] ?_
      refine NN (af.ret ?_)
      exact RT (.int .i64 0) [0, 3, 4, 1, 5, 2, 6, 7] (⟨L, by rw [show (bV S c) = (0, { S with X := { S.X with ai := S.X.ai + 1 }, O := bh S.X S.O to c.text ⟨tk, 3⟩ }, c) by unfold bV; rw [hab]; simp only; rw [gU]; simp only; rw [show (linkM S d c.name to c.text) = (0, { S with X := { S.X with ai := S.X.ai + 1 }, O := bh S.X S.O to c.text ⟨tk, 3⟩ }) by unfold linkM; rw [hlk]; exact (if_neg (by simp)).trans ((if_pos bp).trans (if_pos h68))]] <;> exact ⟨rfl, rfl⟩⟩)
    ·
     have jT : (obj S.O ok).kind = 1 := hI.kind dO
     refine af.bC (by kernel_rfl) (by kernel_rfl) ?_
     refine gQ 8 (tq L to c) [(3, v_ 3 (bE L dg)), (7, a_ 6 cb)] ?_
     refine nK 5 dg bp ?_
     refine gQ 2 [(57, .bool true)] [] ?_
     refine NQ (NX ?_)
     refine CT ?_
     refine SR ?_
     refine gK 1 [(4, .int .i64 171)] [] ?_
     refine NN (af.ret (aj.aO (aj.av ?_)))
     exact RT (.int .i64 171) [0, 1, 2, 3, 4, 5, 6, 7] (⟨L, by rw [show (bV S c) = (171, S, c) by unfold bV; rw [hab]; simp only; rw [gU]; simp only; rw [show (linkM S d c.name to c.text) = (171, S) by unfold linkM; rw [hlk]; exact (if_neg (by simp)).trans (if_neg (by rw [bp]; simp))]] <;> exact ⟨rfl, rfl⟩⟩)
    ·
     have jT : (obj S.O ok).kind = 2 := hI.kind dO
     refine af.bC (by kernel_rfl) (by kernel_rfl) ?_
     refine gQ 8 (tq L to c) [(3, v_ 3 (bE L dg)), (7, a_ 6 cb)] ?_
     refine nK 5 dg bp ?_
     refine gQ 2 [(57, .bool true)] [] ?_
     refine NQ (NX ?_)
     refine CT ?_
     refine SR ?_
     refine gK 1 [(4, .int .i64 171)] [] ?_
     refine NN (af.ret (aj.aO (aj.av ?_)))
     exact RT (.int .i64 171) [0, 1, 2, 3, 4, 5, 6, 7] (⟨L, by rw [show (bV S c) = (171, S, c) by unfold bV; rw [hab]; simp only; rw [gU]; simp only; rw [show (linkM S d c.name to c.text) = (171, S) by unfold linkM; rw [hlk]; exact (if_neg (by simp)).trans (if_neg (by rw [bp]; simp))]] <;> exact ⟨rfl, rfl⟩⟩)
    ·
     have jT : (obj S.O ok).kind = 3 := hI.kind dO
     refine af.bC (by kernel_rfl) (by kernel_rfl) ?_
     refine gQ 8 (tq L to c) [(3, v_ 3 (bE L dg)), (7, a_ 6 cb)] ?_
     refine nK 5 dg bp ?_
     refine gQ 2 [(57, .bool true)] [] ?_
     refine NQ (NX ?_)
     refine CT ?_
     refine SR ?_
     refine gK 1 [(4, .int .i64 171)] [] ?_
     refine NN (af.ret (aj.aO (aj.av ?_)))
     exact RT (.int .i64 171) [0, 1, 2, 3, 4, 5, 6, 7] (⟨L, by rw [show (bV S c) = (171, S, c) by unfold bV; rw [hab]; simp only; rw [gU]; simp only; rw [show (linkM S d c.name to c.text) = (171, S) by unfold linkM; rw [hlk]; exact (if_neg (by simp)).trans (if_neg (by rw [bp]; simp))]] <;> exact ⟨rfl, rfl⟩⟩)
set_option maxRecDepth 100000 in
set_option maxHeartbeats 4000000 in
theorem Bf {β : Bs} (S : aH) (L : HL) (f m t : Nat) (hI : Inv S) (cb : Nat) (c : aU) (hC : dR β c) :
    Spec Tryz.prog β 67 #[.pointer (some ⟨f, 0, none⟩), .pointer (some ⟨cb, 0, none⟩)] ((pA f m t L S) ++ [pC cb c]) (fun v l => ∃ L2, v = .int .i64 (eO S c).1 ∧ l = ((pA f m t L2 ((eO S c).2.1)) ++ [.blk cb (fT ((eO S c).2.2)) 39])) := by
 have hX := hI.hX
 refine Spec.enter Tryz.func67 rfl Tryz.ntmps67 (Nat.le_of_ble_eq_true rfl) (fun R => ?_)
 refine af.seq ?_
 rcases hI.hand c.handle with cD | ⟨tk, cD, hlv⟩ | ⟨tk, cD, hlv⟩
 ·
  refine af.region ?_
  refine gK 1 [] [] ?_
  refine NN (af.seq ?_)
  refine af.bC (by kernel_rfl) (by kernel_rfl) ?_
  refine gQ 8 (FQ t c) [(3, a_ 0 f), (7, a_ 6 cb)] ?_
  refine aI.call (f := 120) (args := #[.pointer (some ⟨t, 0, none⟩), .int .i64 (c.handle)]) (d := (some 18)) (pre := [jo t S L]) (R := (nF f m t S L cb c R)) (pk := [2, 0, 1, 3, 4, 5, 6, 7]) (fN := [1, 2, 0, 3, 4, 5, 6, 7]) (v0 := .tuple #[.nilIface, .int .i64 131]) (fun _ => by kernel_rfl) (ni t S.X.cH S.au (aJ L S.us) c.handle hC.hw (mz cD)) rfl (by kernel_rfl) rfl (by kernel_rfl) (fun _ _ h => h) ?_
  refine gQ 5 [(5, .nilIface), (6, .int .i64 131)] [] ?_
  refine NQ (NX (af.seq (SR ?_)))
  refine gK 2 [(22, .bool true)] [] ?_
  refine NN ?_
  refine CT ?_
  refine SR ?_
  refine gK 2 [(4, .int .i64 131)] [] ?_
  refine NN (af.ret (aj.av ?_))
  exact RT (.int .i64 131) [0, 1, 2, 3, 4, 5, 6, 7] (⟨L, by rw [show (eO S c) = (131, S, c) by unfold eO; rw [cD]] <;> exact ⟨rfl, rfl⟩⟩)
 ·
  have hkt : (obj S.O tk).kind = 1 := hI.kind hlv
  refine af.region ?_
  refine gK 1 [] [] ?_
  refine NN (af.seq ?_)
  refine af.bC (by kernel_rfl) (by kernel_rfl) ?_
  refine gQ 8 (FQ t c) [(3, a_ 0 f), (7, a_ 6 cb)] ?_
  refine aI.call (f := 120) (args := #[.pointer (some ⟨t, 0, none⟩), .int .i64 (c.handle)]) (d := (some 18)) (pre := [jo t S L]) (R := (nF f m t S L cb c R)) (pk := [2, 0, 1, 3, 4, 5, 6, 7]) (fN := [1, 2, 0, 3, 4, 5, 6, 7]) (v0 := .tuple #[.iface 92 (.pointer (some ⟨(L.b tk), 0, none⟩)), .int .i64 0]) (fun _ => by kernel_rfl) (ji t S.X.cH S.au (aJ L S.us) c.handle hC.hw (cM L ⟨tk, 1⟩) (iC cD)) rfl (by kernel_rfl) rfl (by kernel_rfl) (fun _ _ h => h) ?_
  refine gQ 5 (CW L tk) [] ?_
  refine NQ (NX (af.seq (SR ?_)))
  refine gK 2 [(22, .bool false)] [] ?_
  refine NN ?_
  refine CF ?_
  refine af.skip (NX (SR ?_))
  refine gK 7 [(7, .pointer (some ⟨(L.b tk), 0, none⟩)), (8, .bool true)] [] ?_
  refine NN (af.seq (SR ?_))
  refine gK 2 [(30, .bool false)] [] ?_
  refine NN ?_
  refine CF ?_
  refine af.skip (NX (SR ?_))
  refine gK 7 [(32, .pointer (some ⟨cb, 0, none⟩)), (33, .pointer (some ⟨f, 0, none⟩)), (34, .pointer (some ⟨(L.b tk), 0, none⟩)), (38, .slice c.dA (c.data.length) (c.dC))] [(6, a_ 6 cb)] ?_
  refine gL [0, 1, 2, 3, 4, 5] (Eg S L f m t hI tk hlv c.dA c.dC c.data hC.da hC.dl hC.dc) ?_
  rintro _ _ ⟨L2, rfl, rfl⟩
  refine gC 7 [(6, .int .i64 ((writeM S tk c.data).2.1))] [(5, a_ 6 cb)] [(6, [(12, .int .i64 ((writeM S tk c.data).1))])] ?_
  refine NS ?_
  refine gK 2 [(4, .int .i64 ((writeM S tk c.data).2.1))] [] ?_
  refine NN (af.ret ?_)
  exact RT (.int .i64 ((writeM S tk c.data).2.1)) [0, 1, 2, 3, 4, 5, 6, 7] (⟨L2, by rw [show (eO S c) = ((writeM S tk c.data).2.1, (writeM S tk c.data).2.2, { c with answer := (writeM S tk c.data).1 }) by unfold eO; rw [cD]; exact if_pos rfl] <;> exact ⟨rfl, rfl⟩⟩)
 ·
  have hkt : (obj S.O tk).kind = 2 := hI.kind hlv
  refine af.region ?_
  refine gK 1 [] [] ?_
  refine NN (af.seq ?_)
  refine af.bC (by kernel_rfl) (by kernel_rfl) ?_
  refine gQ 8 (FQ t c) [(3, a_ 0 f), (7, a_ 6 cb)] ?_
  refine aI.call (f := 120) (args := #[.pointer (some ⟨t, 0, none⟩), .int .i64 (c.handle)]) (d := (some 18)) (pre := [jo t S L]) (R := (nF f m t S L cb c R)) (pk := [2, 0, 1, 3, 4, 5, 6, 7]) (fN := [1, 2, 0, 3, 4, 5, 6, 7]) (v0 := .tuple #[.iface 98 (.pointer (some ⟨(L.b tk), 0, none⟩)), .int .i64 0]) (fun _ => by kernel_rfl) (ji t S.X.cH S.au (aJ L S.us) c.handle hC.hw (cM L ⟨tk, 2⟩) (iC cD)) rfl (by kernel_rfl) rfl (by kernel_rfl) (fun _ _ h => h) ?_
  refine gQ 5 (CX L tk) [] ?_
  refine NQ (NX (af.seq (SR ?_)))
  refine gK 2 [(22, .bool false)] [] ?_
  refine NN ?_
  refine CF ?_
  refine af.skip (NX (SR ?_))
  refine gK 7 [(7, .pointer none), (8, .bool false)] [] ?_
  refine NN (af.seq (SR ?_))
  refine gK 2 [(30, .bool true)] [] ?_
  refine NN ?_
  refine CT ?_
  refine SR ?_
  refine gK 1 [(4, .int .i64 172)] [] ?_
  refine NN (af.ret (aj.av ?_))
  exact RT (.int .i64 172) [0, 1, 2, 3, 4, 5, 6, 7] (⟨L, by rw [show (eO S c) = (172, S, c) by unfold eO; rw [cD]; exact if_neg (by simp)] <;> exact ⟨rfl, rfl⟩⟩)
set_option maxRecDepth 100000 in
set_option maxHeartbeats 4000000 in
theorem kS {β : Bs} (S : aH) (L : HL) (hI : Inv S) (cb : Nat) (c : aU) (ot : Option Th) (ht : ot = none ∨ (∃ k, ot = some ⟨k, 1⟩ ∧ Live S.idx ⟨k, 1⟩) ∨ (∃ k, ot = some ⟨k, 2⟩ ∧ Live S.idx ⟨k, 2⟩) ∨ ∃ k, ot = some ⟨k, 3⟩ ∧ Live S.idx ⟨k, 3⟩) :
    Spec Tryz.prog β 122 #[.pointer (some ⟨cb, 0, none⟩), (match ot with | none => .nilIface | some th => cM L th)] [pO S.O L, pC cb c] (fun v l => v = .tuple #[] ∧ l = [pO S.O L, .blk cb (fT (kJ S.O c ot)) 39]) := by
 refine Spec.enter Tryz.func122 rfl Tryz.ntmps122 (Nat.le_of_ble_eq_true rfl) (fun R => ?_)
 refine af.seq ?_
 rcases ht with rfl | ⟨tk, rfl, hlv⟩ | ⟨tk, rfl, hlv⟩ | ⟨tk, rfl, hlv⟩
 ·
  refine af.region ?_
  refine gC 21 [] [(8, a_ 1 cb), (11, a_ 1 cb), (14, a_ 1 cb), (17, a_ 1 cb), (20, A_ 1 cb 2)] [(1, (CV))] ?_
  refine NN (af.seq (SR ?_))
  refine gK 2 [(22, .bool true)] [] ?_
  refine NN ?_
  refine CT ?_
  refine af.ret (aj.av ?_)
  exact RT (.tuple #[]) [0, 1, 2] (⟨rfl, rfl⟩)
 ·
  have hkt : (obj S.O tk).kind = 1 := hI.kind hlv
  refine af.region ?_
  refine gC 21 [] [(8, a_ 1 cb), (11, a_ 1 cb), (14, a_ 1 cb), (17, a_ 1 cb), (20, A_ 1 cb 2)] [(1, (CV))] ?_
  refine NN (af.seq (SR ?_))
  refine gK 2 [(22, .bool false)] [] ?_
  refine NN ?_
  refine CF ?_
  refine af.skip (NX (SR ?_))
  refine gK 1 [(23, .iface 92 (.pointer (some ⟨(L.b tk), 0, none⟩)))] [] ?_
  refine gL [] (cg (L.b tk)) ?_
  rintro _ _ ⟨rfl, rfl⟩
  refine gK 1 [(4, .pointer (some ⟨(L.b tk), 0, none⟩))] [] ?_
  refine NN ?_
  refine af.bT (S := [pO S.O L]) [0, 1, 2, 3, 4, 5, 6, 7, 8, 9, 10, 12, 13, 14, 15, 16, 17, 18, 19, 20, 21, 22, 23, 24, 25, 26, 27, 11, 28, 29, 30, 31, 32, 33, 34, 35, 36, 37, 38, 39, 40, 41, 42, 43, 44, 45] 27 [0] (by kernel_rfl) (by kernel_rfl) rfl (by kernel_rfl) ?_
  refine aD.reads (r := 0) (l := [11, 28, 29, 30, 31, 32, 33, 34, 35, 36, 37, 38, 39, 40, 41, 42, 43, 44, 45]) (fr' := ([(25, vP cb)] ++ rA cb S tk ++ [(35, .iface 92 (vP (L.b tk)))] ++ kB S tk)) (ak := [(∀ F w, (aq (aS S.O L)).h F w → w.cell? ⟨(L.b tk), 5, none⟩ = some (.int .i64 ((obj S.O tk).nano))), (∀ F w, (aq (aS S.O L)).h F w → w.cell? ⟨(L.b tk), 4, none⟩ = some (.int .i64 ((obj S.O tk).sec))), (∀ F w, (aq (aS S.O L)).h F w → w.cell? ⟨(L.b tk), 3, none⟩ = some (.int .i64 ((obj S.O tk).gid))), (∀ F w, (aq (aS S.O L)).h F w → w.cell? ⟨(L.b tk), 2, none⟩ = some (.int .i64 ((obj S.O tk).uid))), (∀ F w, (aq (aS S.O L)).h F w → w.cell? ⟨(L.b tk), 1, none⟩ = some (.int .i64 ((obj S.O tk).mode))), (∀ F w, (aq (aS S.O L)).h F w → w.cell? ⟨(L.b tk), 0, none⟩ = some (.int .i64 ((obj S.O tk).id)))]) [0, 1, 2, 3, 4, 5, 6, 7, 8, 9, 10, 12, 13, 14, 15, 16, 17, 18, 19, 20, 21, 22, 23, 24, 25, 26, 27] [o_, o_, o_, o_, o_, o_, o_, o_, o_, ⟨[.view 0 (.int .i64 ((obj S.O tk).id))], none, none, none, none⟩, o_, o_, o_, o_, ⟨[.view 0 (.int .i64 ((obj S.O tk).mode))], none, none, none, none⟩, o_, o_, o_, ⟨[.view 0 (.int .i64 ((obj S.O tk).uid))], none, none, none, none⟩, o_, o_, o_, ⟨[.view 0 (.int .i64 ((obj S.O tk).gid))], none, none, none, none⟩, o_, o_, o_, ⟨[.view 0 (.int .i64 ((obj S.O tk).sec)), .view 0 (.int .i64 ((obj S.O tk).nano))], none, none, none, none⟩] [25, 26, 27, 28, 29, 30, 34, 35, 40, 44, 48, 52] (fun _ => by kernel_rfl) ⟨bg (by rw [hkt]; decide) (rfl), bg (by rw [hkt]; decide) (rfl), bg (by rw [hkt]; decide) (rfl), bg (by rw [hkt]; decide) (rfl), bg (by rw [hkt]; decide) (rfl), bg (by rw [hkt]; decide) (rfl), trivial⟩ rfl rfl ?_
  refine mL [0] [] (jf (.pointer (some ⟨(L.b tk), 0, none⟩))) ?_ (by rintro _ _ ⟨rfl, rfl⟩; rfl)
  rintro _ _ ⟨rfl, rfl⟩
  refine aD.cut (ι := Unit) (fr' := fun (_ : Unit) => (rA cb S tk ++ [(36, vI 1)] ++ kB S tk ++ [(53, vP cb)])) (hp' := fun (_ : Unit) => [pO S.O L, BL cb c, .abs R]) [0] rfl rfl ?_ rfl (fun _ => by kernel_rfl) ?_
  ·
   refine gK 1 [(53, .pointer (some ⟨cb, 0, none⟩))] [] ?_
   refine NL ?_
   exact MD () [26, 27, 28, 29, 30, 34, 36, 40, 44, 48, 52, 53] [0, 1, 2]
  rintro _
  refine aD.cut (ι := Unit) (fr' := fun (_ : Unit) => (rA cb S tk ++ [(36, vI 1)] ++ kB S tk ++ [(54, .pointer (some ⟨cb, 12, none⟩))])) (hp' := fun (_ : Unit) => [pO S.O L, BL cb c, .abs R]) [0] rfl rfl ?_ rfl (fun _ => by kernel_rfl) ?_
  ·
   refine gK 1 [(54, .pointer (some ⟨cb, 12, none⟩))] [] ?_
   refine NL ?_
   exact MD () [26, 27, 28, 29, 30, 34, 36, 40, 44, 48, 52, 54] [0, 1, 2]
  rintro _
  refine mC [0] [] [(0, a_ 1 cb)] [(1, [(12, .int .i64 ((obj S.O tk).id))])] ?_
  refine aD.cut (ι := Unit) (fr' := fun (_ : Unit) => ([(27, vP cb)] ++ nG cb ++ [(36, vI 1)] ++ kB S tk ++ [(55, vP cb)])) (hp' := fun (_ : Unit) => [pO S.O L, BM cb c S tk, .abs R]) [0] rfl rfl ?_ rfl (fun _ => by kernel_rfl) ?_
  ·
   refine gK 1 [(55, .pointer (some ⟨cb, 0, none⟩))] [] ?_
   refine NL ?_
   exact MD () [27, 28, 29, 30, 36, 40, 44, 48, 52, 55] [0, 1, 2]
  rintro _
  refine aD.cut (ι := Unit) (fr' := fun (_ : Unit) => ([(27, vP cb)] ++ nG cb ++ [(36, vI 1)] ++ kB S tk ++ [(56, .pointer (some ⟨cb, 2, none⟩))])) (hp' := fun (_ : Unit) => [pO S.O L, BM cb c S tk, .abs R]) [0] rfl rfl ?_ rfl (fun _ => by kernel_rfl) ?_
  ·
   refine gK 1 [(56, .pointer (some ⟨cb, 2, none⟩))] [] ?_
   refine NL ?_
   exact MD () [27, 28, 29, 30, 36, 40, 44, 48, 52, 56] [0, 1, 2]
  rintro _
  refine mC [0] [] [(0, a_ 1 cb)] [(1, [(2, .int .i64 1)])] ?_
  refine aD.cut (ι := Unit) (fr' := fun (_ : Unit) => (nG cb ++ kB S tk ++ [(57, vP cb)])) (hp' := fun (_ : Unit) => [pO S.O L, pC cb { c with other := 1, mode := 0, uid := 0, gid := 0, sec := 0, nano := 0, answer := (obj S.O tk).id }, .abs R]) [0] rfl rfl ?_ rfl (fun _ => by kernel_rfl) ?_
  ·
   refine gK 1 [(57, .pointer (some ⟨cb, 0, none⟩))] [] ?_
   refine NL ?_
   exact MD () [28, 29, 30, 40, 44, 48, 52, 57] [0, 1, 2]
  rintro _
  refine aD.cut (ι := Unit) (fr' := fun (_ : Unit) => (nG cb ++ kB S tk ++ [(58, .pointer (some ⟨cb, 6, none⟩))])) (hp' := fun (_ : Unit) => [pO S.O L, pC cb { c with other := 1, mode := 0, uid := 0, gid := 0, sec := 0, nano := 0, answer := (obj S.O tk).id }, .abs R]) [0] rfl rfl ?_ rfl (fun _ => by kernel_rfl) ?_
  ·
   refine gK 1 [(58, .pointer (some ⟨cb, 6, none⟩))] [] ?_
   refine NL ?_
   exact MD () [28, 29, 30, 40, 44, 48, 52, 58] [0, 1, 2]
  rintro _
  refine mC [0] [] [(0, a_ 1 cb)] [(1, [(6, .int .i64 ((obj S.O tk).mode))])] ?_
  refine aD.cut (ι := Unit) (fr' := fun (_ : Unit) => (xH cb S tk ++ nE S tk ++ [(59, vP cb)])) (hp' := fun (_ : Unit) => [pO S.O L, pC cb { c with other := 1, mode := (obj S.O tk).mode, uid := 0, gid := 0, sec := 0, nano := 0, answer := (obj S.O tk).id }, .abs R]) [0] rfl rfl ?_ rfl (fun _ => by kernel_rfl) ?_
  ·
   refine gK 1 [(59, .pointer (some ⟨cb, 0, none⟩))] [] ?_
   refine NL ?_
   exact MD () [29, 30, 44, 48, 52, 59] [0, 1, 2]
  rintro _
  refine aD.cut (ι := Unit) (fr' := fun (_ : Unit) => (xH cb S tk ++ nE S tk ++ [(60, .pointer (some ⟨cb, 7, none⟩))])) (hp' := fun (_ : Unit) => [pO S.O L, pC cb { c with other := 1, mode := (obj S.O tk).mode, uid := 0, gid := 0, sec := 0, nano := 0, answer := (obj S.O tk).id }, .abs R]) [0] rfl rfl ?_ rfl (fun _ => by kernel_rfl) ?_
  ·
   refine gK 1 [(60, .pointer (some ⟨cb, 7, none⟩))] [] ?_
   refine NL ?_
   exact MD () [29, 30, 44, 48, 52, 60] [0, 1, 2]
  rintro _
  refine mC [0] [] [(0, a_ 1 cb)] [(1, [(7, .int .i64 ((obj S.O tk).uid))])] ?_
  refine aD.cut (ι := Unit) (fr' := fun (_ : Unit) => ([(30, vP cb)] ++ nE S tk ++ [(61, vP cb)])) (hp' := fun (_ : Unit) => [pO S.O L, Lk cb c S tk, .abs R]) [0] rfl rfl ?_ rfl (fun _ => by kernel_rfl) ?_
  ·
   refine gK 1 [(61, .pointer (some ⟨cb, 0, none⟩))] [] ?_
   refine NL ?_
   exact MD () [30, 48, 52, 61] [0, 1, 2]
  rintro _
  refine aD.cut (ι := Unit) (fr' := fun (_ : Unit) => ([(30, vP cb)] ++ nE S tk ++ [(62, .pointer (some ⟨cb, 8, none⟩))])) (hp' := fun (_ : Unit) => [pO S.O L, Lk cb c S tk, .abs R]) [0] rfl rfl ?_ rfl (fun _ => by kernel_rfl) ?_
  ·
   refine gK 1 [(62, .pointer (some ⟨cb, 8, none⟩))] [] ?_
   refine NL ?_
   exact MD () [30, 48, 52, 62] [0, 1, 2]
  rintro _
  refine mC [0] [] [(0, a_ 1 cb)] [(1, [(8, .int .i64 ((obj S.O tk).gid))])] ?_
  refine aD.cut (ι := Unit) (fr' := fun (_ : Unit) => [(52, .agg #[vI ((obj S.O tk).sec), vI ((obj S.O tk).nano)]), (63, vP cb)]) (hp' := fun (_ : Unit) => [pO S.O L, Ll cb c S tk, .abs R]) [0] rfl rfl ?_ rfl (fun _ => by kernel_rfl) ?_
  ·
   refine gK 1 [(63, .pointer (some ⟨cb, 0, none⟩))] [] ?_
   refine NL ?_
   exact MD () [52, 63] [0, 1, 2]
  rintro _
  refine aD.cut (ι := Unit) (fr' := fun (_ : Unit) => (FP S tk cb)) (hp' := fun (_ : Unit) => [pO S.O L, Ll cb c S tk, .abs R]) [0] rfl rfl ?_ rfl (fun _ => by kernel_rfl) ?_
  ·
   refine gK 1 [(64, .pointer (some ⟨cb, 9, none⟩))] [] ?_
   refine NL ?_
   exact MD () [52, 64] [0, 1, 2]
  rintro _
  refine aD.last rfl rfl ?_
  refine gC 1 [] [(0, A_ 1 cb 2)] [(1, (FT S tk))] ?_
  refine NL (aj.np ?_)
  exact RF (.tuple #[]) [0, 1, 2] (⟨rfl, rfl⟩)
 ·
  have hkt : (obj S.O tk).kind = 2 := hI.kind hlv
  refine af.region ?_
  refine gC 21 [] [(8, a_ 1 cb), (11, a_ 1 cb), (14, a_ 1 cb), (17, a_ 1 cb), (20, A_ 1 cb 2)] [(1, (CV))] ?_
  refine NN (af.seq (SR ?_))
  refine gK 2 [(22, .bool false)] [] ?_
  refine NN ?_
  refine CF ?_
  refine af.skip (NX (SR ?_))
  refine gK 1 [(23, .iface 98 (.pointer (some ⟨(L.b tk), 0, none⟩)))] [] ?_
  refine gL [] (cg (L.b tk)) ?_
  rintro _ _ ⟨rfl, rfl⟩
  refine gK 1 [(4, .pointer (some ⟨(L.b tk), 0, none⟩))] [] ?_
  refine NN ?_
  refine af.bT (S := [pO S.O L]) [0, 1, 2, 3, 4, 5, 6, 7, 8, 9, 10, 12, 13, 14, 15, 16, 17, 18, 19, 20, 21, 22, 23, 24, 25, 26, 27, 11, 28, 29, 30, 31, 32, 33, 34, 35, 36, 37, 38, 39, 40, 41, 42, 43, 44, 45] 27 [0] (by kernel_rfl) (by kernel_rfl) rfl (by kernel_rfl) ?_
  refine aD.reads (r := 0) (l := [11, 28, 29, 30, 31, 32, 33, 34, 35, 36, 37, 38, 39, 40, 41, 42, 43, 44, 45]) (fr' := ([(25, vP cb)] ++ rA cb S tk ++ [(35, .iface 98 (vP (L.b tk)))] ++ kB S tk)) (ak := [(∀ F w, (aq (aS S.O L)).h F w → w.cell? ⟨(L.b tk), 5, none⟩ = some (.int .i64 ((obj S.O tk).nano))), (∀ F w, (aq (aS S.O L)).h F w → w.cell? ⟨(L.b tk), 4, none⟩ = some (.int .i64 ((obj S.O tk).sec))), (∀ F w, (aq (aS S.O L)).h F w → w.cell? ⟨(L.b tk), 3, none⟩ = some (.int .i64 ((obj S.O tk).gid))), (∀ F w, (aq (aS S.O L)).h F w → w.cell? ⟨(L.b tk), 2, none⟩ = some (.int .i64 ((obj S.O tk).uid))), (∀ F w, (aq (aS S.O L)).h F w → w.cell? ⟨(L.b tk), 1, none⟩ = some (.int .i64 ((obj S.O tk).mode))), (∀ F w, (aq (aS S.O L)).h F w → w.cell? ⟨(L.b tk), 0, none⟩ = some (.int .i64 ((obj S.O tk).id)))]) [0, 1, 2, 3, 4, 5, 6, 7, 8, 9, 10, 12, 13, 14, 15, 16, 17, 18, 19, 20, 21, 22, 23, 24, 25, 26, 27] [o_, o_, o_, o_, o_, o_, o_, o_, o_, ⟨[.view 0 (.int .i64 ((obj S.O tk).id))], none, none, none, none⟩, o_, o_, o_, o_, ⟨[.view 0 (.int .i64 ((obj S.O tk).mode))], none, none, none, none⟩, o_, o_, o_, ⟨[.view 0 (.int .i64 ((obj S.O tk).uid))], none, none, none, none⟩, o_, o_, o_, ⟨[.view 0 (.int .i64 ((obj S.O tk).gid))], none, none, none, none⟩, o_, o_, o_, ⟨[.view 0 (.int .i64 ((obj S.O tk).sec)), .view 0 (.int .i64 ((obj S.O tk).nano))], none, none, none, none⟩] [25, 26, 27, 28, 29, 30, 34, 35, 40, 44, 48, 52] (fun _ => by kernel_rfl) ⟨bg (by rw [hkt]; decide) (rfl), bg (by rw [hkt]; decide) (rfl), bg (by rw [hkt]; decide) (rfl), bg (by rw [hkt]; decide) (rfl), bg (by rw [hkt]; decide) (rfl), bg (by rw [hkt]; decide) (rfl), trivial⟩ rfl rfl ?_
  refine mL [0] [] (jg (.pointer (some ⟨(L.b tk), 0, none⟩))) ?_ (by rintro _ _ ⟨rfl, rfl⟩; rfl)
  rintro _ _ ⟨rfl, rfl⟩
  refine aD.cut (ι := Unit) (fr' := fun (_ : Unit) => (rA cb S tk ++ [(36, vI 2)] ++ kB S tk ++ [(53, vP cb)])) (hp' := fun (_ : Unit) => [pO S.O L, BL cb c, .abs R]) [0] rfl rfl ?_ rfl (fun _ => by kernel_rfl) ?_
  ·
   refine gK 1 [(53, .pointer (some ⟨cb, 0, none⟩))] [] ?_
   refine NL ?_
   exact MD () [26, 27, 28, 29, 30, 34, 36, 40, 44, 48, 52, 53] [0, 1, 2]
  rintro _
  refine aD.cut (ι := Unit) (fr' := fun (_ : Unit) => (rA cb S tk ++ [(36, vI 2)] ++ kB S tk ++ [(54, .pointer (some ⟨cb, 12, none⟩))])) (hp' := fun (_ : Unit) => [pO S.O L, BL cb c, .abs R]) [0] rfl rfl ?_ rfl (fun _ => by kernel_rfl) ?_
  ·
   refine gK 1 [(54, .pointer (some ⟨cb, 12, none⟩))] [] ?_
   refine NL ?_
   exact MD () [26, 27, 28, 29, 30, 34, 36, 40, 44, 48, 52, 54] [0, 1, 2]
  rintro _
  refine mC [0] [] [(0, a_ 1 cb)] [(1, [(12, .int .i64 ((obj S.O tk).id))])] ?_
  refine aD.cut (ι := Unit) (fr' := fun (_ : Unit) => ([(27, vP cb)] ++ nG cb ++ [(36, vI 2)] ++ kB S tk ++ [(55, vP cb)])) (hp' := fun (_ : Unit) => [pO S.O L, BM cb c S tk, .abs R]) [0] rfl rfl ?_ rfl (fun _ => by kernel_rfl) ?_
  ·
   refine gK 1 [(55, .pointer (some ⟨cb, 0, none⟩))] [] ?_
   refine NL ?_
   exact MD () [27, 28, 29, 30, 36, 40, 44, 48, 52, 55] [0, 1, 2]
  rintro _
  refine aD.cut (ι := Unit) (fr' := fun (_ : Unit) => ([(27, vP cb)] ++ nG cb ++ [(36, vI 2)] ++ kB S tk ++ [(56, .pointer (some ⟨cb, 2, none⟩))])) (hp' := fun (_ : Unit) => [pO S.O L, BM cb c S tk, .abs R]) [0] rfl rfl ?_ rfl (fun _ => by kernel_rfl) ?_
  ·
   refine gK 1 [(56, .pointer (some ⟨cb, 2, none⟩))] [] ?_
   refine NL ?_
   exact MD () [27, 28, 29, 30, 36, 40, 44, 48, 52, 56] [0, 1, 2]
  rintro _
  refine mC [0] [] [(0, a_ 1 cb)] [(1, [(2, .int .i64 2)])] ?_
  refine aD.cut (ι := Unit) (fr' := fun (_ : Unit) => (nG cb ++ kB S tk ++ [(57, vP cb)])) (hp' := fun (_ : Unit) => [pO S.O L, pC cb { c with other := 2, mode := 0, uid := 0, gid := 0, sec := 0, nano := 0, answer := (obj S.O tk).id }, .abs R]) [0] rfl rfl ?_ rfl (fun _ => by kernel_rfl) ?_
  ·
   refine gK 1 [(57, .pointer (some ⟨cb, 0, none⟩))] [] ?_
   refine NL ?_
   exact MD () [28, 29, 30, 40, 44, 48, 52, 57] [0, 1, 2]
  rintro _
  refine aD.cut (ι := Unit) (fr' := fun (_ : Unit) => (nG cb ++ kB S tk ++ [(58, .pointer (some ⟨cb, 6, none⟩))])) (hp' := fun (_ : Unit) => [pO S.O L, pC cb { c with other := 2, mode := 0, uid := 0, gid := 0, sec := 0, nano := 0, answer := (obj S.O tk).id }, .abs R]) [0] rfl rfl ?_ rfl (fun _ => by kernel_rfl) ?_
  ·
   refine gK 1 [(58, .pointer (some ⟨cb, 6, none⟩))] [] ?_
   refine NL ?_
   exact MD () [28, 29, 30, 40, 44, 48, 52, 58] [0, 1, 2]
  rintro _
  refine mC [0] [] [(0, a_ 1 cb)] [(1, [(6, .int .i64 ((obj S.O tk).mode))])] ?_
  refine aD.cut (ι := Unit) (fr' := fun (_ : Unit) => (xH cb S tk ++ nE S tk ++ [(59, vP cb)])) (hp' := fun (_ : Unit) => [pO S.O L, pC cb { c with other := 2, mode := (obj S.O tk).mode, uid := 0, gid := 0, sec := 0, nano := 0, answer := (obj S.O tk).id }, .abs R]) [0] rfl rfl ?_ rfl (fun _ => by kernel_rfl) ?_
  ·
   refine gK 1 [(59, .pointer (some ⟨cb, 0, none⟩))] [] ?_
   refine NL ?_
   exact MD () [29, 30, 44, 48, 52, 59] [0, 1, 2]
  rintro _
  refine aD.cut (ι := Unit) (fr' := fun (_ : Unit) => (xH cb S tk ++ nE S tk ++ [(60, .pointer (some ⟨cb, 7, none⟩))])) (hp' := fun (_ : Unit) => [pO S.O L, pC cb { c with other := 2, mode := (obj S.O tk).mode, uid := 0, gid := 0, sec := 0, nano := 0, answer := (obj S.O tk).id }, .abs R]) [0] rfl rfl ?_ rfl (fun _ => by kernel_rfl) ?_
  ·
   refine gK 1 [(60, .pointer (some ⟨cb, 7, none⟩))] [] ?_
   refine NL ?_
   exact MD () [29, 30, 44, 48, 52, 60] [0, 1, 2]
  rintro _
  refine mC [0] [] [(0, a_ 1 cb)] [(1, [(7, .int .i64 ((obj S.O tk).uid))])] ?_
  refine aD.cut (ι := Unit) (fr' := fun (_ : Unit) => ([(30, vP cb)] ++ nE S tk ++ [(61, vP cb)])) (hp' := fun (_ : Unit) => [pO S.O L, Lm cb c S tk, .abs R]) [0] rfl rfl ?_ rfl (fun _ => by kernel_rfl) ?_
  ·
   refine gK 1 [(61, .pointer (some ⟨cb, 0, none⟩))] [] ?_
   refine NL ?_
   exact MD () [30, 48, 52, 61] [0, 1, 2]
  rintro _
  refine aD.cut (ι := Unit) (fr' := fun (_ : Unit) => ([(30, vP cb)] ++ nE S tk ++ [(62, .pointer (some ⟨cb, 8, none⟩))])) (hp' := fun (_ : Unit) => [pO S.O L, Lm cb c S tk, .abs R]) [0] rfl rfl ?_ rfl (fun _ => by kernel_rfl) ?_
  ·
   refine gK 1 [(62, .pointer (some ⟨cb, 8, none⟩))] [] ?_
   refine NL ?_
   exact MD () [30, 48, 52, 62] [0, 1, 2]
  rintro _
  refine mC [0] [] [(0, a_ 1 cb)] [(1, [(8, .int .i64 ((obj S.O tk).gid))])] ?_
  refine aD.cut (ι := Unit) (fr' := fun (_ : Unit) => [(52, .agg #[vI ((obj S.O tk).sec), vI ((obj S.O tk).nano)]), (63, vP cb)]) (hp' := fun (_ : Unit) => [pO S.O L, Ln cb c S tk, .abs R]) [0] rfl rfl ?_ rfl (fun _ => by kernel_rfl) ?_
  ·
   refine gK 1 [(63, .pointer (some ⟨cb, 0, none⟩))] [] ?_
   refine NL ?_
   exact MD () [52, 63] [0, 1, 2]
  rintro _
  refine aD.cut (ι := Unit) (fr' := fun (_ : Unit) => (FP S tk cb)) (hp' := fun (_ : Unit) => [pO S.O L, Ln cb c S tk, .abs R]) [0] rfl rfl ?_ rfl (fun _ => by kernel_rfl) ?_
  ·
   refine gK 1 [(64, .pointer (some ⟨cb, 9, none⟩))] [] ?_
   refine NL ?_
   exact MD () [52, 64] [0, 1, 2]
  rintro _
  refine aD.last rfl rfl ?_
  refine gC 1 [] [(0, A_ 1 cb 2)] [(1, (FT S tk))] ?_
  refine NL (aj.np ?_)
  exact RF (.tuple #[]) [0, 1, 2] (⟨rfl, rfl⟩)
 ·
  have hkt : (obj S.O tk).kind = 3 := hI.kind hlv
  refine af.region ?_
  refine gC 21 [] [(8, a_ 1 cb), (11, a_ 1 cb), (14, a_ 1 cb), (17, a_ 1 cb), (20, A_ 1 cb 2)] [(1, (CV))] ?_
  refine NN (af.seq (SR ?_))
  refine gK 2 [(22, .bool false)] [] ?_
  refine NN ?_
  refine CF ?_
  refine af.skip (NX (SR ?_))
  refine gK 1 [(23, .iface 95 (.pointer (some ⟨(L.b tk), 0, none⟩)))] [] ?_
  refine gL [] (cg (L.b tk)) ?_
  rintro _ _ ⟨rfl, rfl⟩
  refine gK 1 [(4, .pointer (some ⟨(L.b tk), 0, none⟩))] [] ?_
  refine NN ?_
  refine af.bT (S := [pO S.O L]) [0, 1, 2, 3, 4, 5, 6, 7, 8, 9, 10, 12, 13, 14, 15, 16, 17, 18, 19, 20, 21, 22, 23, 24, 25, 26, 27, 11, 28, 29, 30, 31, 32, 33, 34, 35, 36, 37, 38, 39, 40, 41, 42, 43, 44, 45] 27 [0] (by kernel_rfl) (by kernel_rfl) rfl (by kernel_rfl) ?_
  refine aD.reads (r := 0) (l := [11, 28, 29, 30, 31, 32, 33, 34, 35, 36, 37, 38, 39, 40, 41, 42, 43, 44, 45]) (fr' := ([(25, vP cb)] ++ rA cb S tk ++ [(35, .iface 95 (vP (L.b tk)))] ++ kB S tk)) (ak := [(∀ F w, (aq (aS S.O L)).h F w → w.cell? ⟨(L.b tk), 5, none⟩ = some (.int .i64 ((obj S.O tk).nano))), (∀ F w, (aq (aS S.O L)).h F w → w.cell? ⟨(L.b tk), 4, none⟩ = some (.int .i64 ((obj S.O tk).sec))), (∀ F w, (aq (aS S.O L)).h F w → w.cell? ⟨(L.b tk), 3, none⟩ = some (.int .i64 ((obj S.O tk).gid))), (∀ F w, (aq (aS S.O L)).h F w → w.cell? ⟨(L.b tk), 2, none⟩ = some (.int .i64 ((obj S.O tk).uid))), (∀ F w, (aq (aS S.O L)).h F w → w.cell? ⟨(L.b tk), 1, none⟩ = some (.int .i64 ((obj S.O tk).mode))), (∀ F w, (aq (aS S.O L)).h F w → w.cell? ⟨(L.b tk), 0, none⟩ = some (.int .i64 ((obj S.O tk).id)))]) [0, 1, 2, 3, 4, 5, 6, 7, 8, 9, 10, 12, 13, 14, 15, 16, 17, 18, 19, 20, 21, 22, 23, 24, 25, 26, 27] [o_, o_, o_, o_, o_, o_, o_, o_, o_, ⟨[.view 0 (.int .i64 ((obj S.O tk).id))], none, none, none, none⟩, o_, o_, o_, o_, ⟨[.view 0 (.int .i64 ((obj S.O tk).mode))], none, none, none, none⟩, o_, o_, o_, ⟨[.view 0 (.int .i64 ((obj S.O tk).uid))], none, none, none, none⟩, o_, o_, o_, ⟨[.view 0 (.int .i64 ((obj S.O tk).gid))], none, none, none, none⟩, o_, o_, o_, ⟨[.view 0 (.int .i64 ((obj S.O tk).sec)), .view 0 (.int .i64 ((obj S.O tk).nano))], none, none, none, none⟩] [25, 26, 27, 28, 29, 30, 34, 35, 40, 44, 48, 52] (fun _ => by kernel_rfl) ⟨bg (by rw [hkt]; decide) (rfl), bg (by rw [hkt]; decide) (rfl), bg (by rw [hkt]; decide) (rfl), bg (by rw [hkt]; decide) (rfl), bg (by rw [hkt]; decide) (rfl), bg (by rw [hkt]; decide) (rfl), trivial⟩ rfl rfl ?_
  refine mL [0] [] (jN (.pointer (some ⟨(L.b tk), 0, none⟩))) ?_ (by rintro _ _ ⟨rfl, rfl⟩; rfl)
  rintro _ _ ⟨rfl, rfl⟩
  refine aD.cut (ι := Unit) (fr' := fun (_ : Unit) => (rA cb S tk ++ [(36, vI 3)] ++ kB S tk ++ [(53, vP cb)])) (hp' := fun (_ : Unit) => [pO S.O L, BL cb c, .abs R]) [0] rfl rfl ?_ rfl (fun _ => by kernel_rfl) ?_
  ·
   refine gK 1 [(53, .pointer (some ⟨cb, 0, none⟩))] [] ?_
   refine NL ?_
   exact MD () [26, 27, 28, 29, 30, 34, 36, 40, 44, 48, 52, 53] [0, 1, 2]
  rintro _
  refine aD.cut (ι := Unit) (fr' := fun (_ : Unit) => (rA cb S tk ++ [(36, vI 3)] ++ kB S tk ++ [(54, .pointer (some ⟨cb, 12, none⟩))])) (hp' := fun (_ : Unit) => [pO S.O L, BL cb c, .abs R]) [0] rfl rfl ?_ rfl (fun _ => by kernel_rfl) ?_
  ·
   refine gK 1 [(54, .pointer (some ⟨cb, 12, none⟩))] [] ?_
   refine NL ?_
   exact MD () [26, 27, 28, 29, 30, 34, 36, 40, 44, 48, 52, 54] [0, 1, 2]
  rintro _
  refine mC [0] [] [(0, a_ 1 cb)] [(1, [(12, .int .i64 ((obj S.O tk).id))])] ?_
  refine aD.cut (ι := Unit) (fr' := fun (_ : Unit) => ([(27, vP cb)] ++ nG cb ++ [(36, vI 3)] ++ kB S tk ++ [(55, vP cb)])) (hp' := fun (_ : Unit) => [pO S.O L, BM cb c S tk, .abs R]) [0] rfl rfl ?_ rfl (fun _ => by kernel_rfl) ?_
  ·
   refine gK 1 [(55, .pointer (some ⟨cb, 0, none⟩))] [] ?_
   refine NL ?_
   exact MD () [27, 28, 29, 30, 36, 40, 44, 48, 52, 55] [0, 1, 2]
  rintro _
  refine aD.cut (ι := Unit) (fr' := fun (_ : Unit) => ([(27, vP cb)] ++ nG cb ++ [(36, vI 3)] ++ kB S tk ++ [(56, .pointer (some ⟨cb, 2, none⟩))])) (hp' := fun (_ : Unit) => [pO S.O L, BM cb c S tk, .abs R]) [0] rfl rfl ?_ rfl (fun _ => by kernel_rfl) ?_
  ·
   refine gK 1 [(56, .pointer (some ⟨cb, 2, none⟩))] [] ?_
   refine NL ?_
   exact MD () [27, 28, 29, 30, 36, 40, 44, 48, 52, 56] [0, 1, 2]
  rintro _
  refine mC [0] [] [(0, a_ 1 cb)] [(1, [(2, .int .i64 3)])] ?_
  refine aD.cut (ι := Unit) (fr' := fun (_ : Unit) => (nG cb ++ kB S tk ++ [(57, vP cb)])) (hp' := fun (_ : Unit) => [pO S.O L, pC cb { c with other := 3, mode := 0, uid := 0, gid := 0, sec := 0, nano := 0, answer := (obj S.O tk).id }, .abs R]) [0] rfl rfl ?_ rfl (fun _ => by kernel_rfl) ?_
  ·
   refine gK 1 [(57, .pointer (some ⟨cb, 0, none⟩))] [] ?_
   refine NL ?_
   exact MD () [28, 29, 30, 40, 44, 48, 52, 57] [0, 1, 2]
  rintro _
  refine aD.cut (ι := Unit) (fr' := fun (_ : Unit) => (nG cb ++ kB S tk ++ [(58, .pointer (some ⟨cb, 6, none⟩))])) (hp' := fun (_ : Unit) => [pO S.O L, pC cb { c with other := 3, mode := 0, uid := 0, gid := 0, sec := 0, nano := 0, answer := (obj S.O tk).id }, .abs R]) [0] rfl rfl ?_ rfl (fun _ => by kernel_rfl) ?_
  ·
   refine gK 1 [(58, .pointer (some ⟨cb, 6, none⟩))] [] ?_
   refine NL ?_
   exact MD () [28, 29, 30, 40, 44, 48, 52, 58] [0, 1, 2]
  rintro _
  refine mC [0] [] [(0, a_ 1 cb)] [(1, [(6, .int .i64 ((obj S.O tk).mode))])] ?_
  refine aD.cut (ι := Unit) (fr' := fun (_ : Unit) => (xH cb S tk ++ nE S tk ++ [(59, vP cb)])) (hp' := fun (_ : Unit) => [pO S.O L, pC cb { c with other := 3, mode := (obj S.O tk).mode, uid := 0, gid := 0, sec := 0, nano := 0, answer := (obj S.O tk).id }, .abs R]) [0] rfl rfl ?_ rfl (fun _ => by kernel_rfl) ?_
  ·
   refine gK 1 [(59, .pointer (some ⟨cb, 0, none⟩))] [] ?_
   refine NL ?_
   exact MD () [29, 30, 44, 48, 52, 59] [0, 1, 2]
  rintro _
  refine aD.cut (ι := Unit) (fr' := fun (_ : Unit) => (xH cb S tk ++ nE S tk ++ [(60, .pointer (some ⟨cb, 7, none⟩))])) (hp' := fun (_ : Unit) => [pO S.O L, pC cb { c with other := 3, mode := (obj S.O tk).mode, uid := 0, gid := 0, sec := 0, nano := 0, answer := (obj S.O tk).id }, .abs R]) [0] rfl rfl ?_ rfl (fun _ => by kernel_rfl) ?_
  ·
   refine gK 1 [(60, .pointer (some ⟨cb, 7, none⟩))] [] ?_
   refine NL ?_
   exact MD () [29, 30, 44, 48, 52, 60] [0, 1, 2]
  rintro _
  refine mC [0] [] [(0, a_ 1 cb)] [(1, [(7, .int .i64 ((obj S.O tk).uid))])] ?_
  refine aD.cut (ι := Unit) (fr' := fun (_ : Unit) => ([(30, vP cb)] ++ nE S tk ++ [(61, vP cb)])) (hp' := fun (_ : Unit) => [pO S.O L, Lp cb c S tk, .abs R]) [0] rfl rfl ?_ rfl (fun _ => by kernel_rfl) ?_
  ·
   refine gK 1 [(61, .pointer (some ⟨cb, 0, none⟩))] [] ?_
   refine NL ?_
   exact MD () [30, 48, 52, 61] [0, 1, 2]
  rintro _
  refine aD.cut (ι := Unit) (fr' := fun (_ : Unit) => ([(30, vP cb)] ++ nE S tk ++ [(62, .pointer (some ⟨cb, 8, none⟩))])) (hp' := fun (_ : Unit) => [pO S.O L, Lp cb c S tk, .abs R]) [0] rfl rfl ?_ rfl (fun _ => by kernel_rfl) ?_
  ·
   refine gK 1 [(62, .pointer (some ⟨cb, 8, none⟩))] [] ?_
   refine NL ?_
   exact MD () [30, 48, 52, 62] [0, 1, 2]
  rintro _
  refine mC [0] [] [(0, a_ 1 cb)] [(1, [(8, .int .i64 ((obj S.O tk).gid))])] ?_
  refine aD.cut (ι := Unit) (fr' := fun (_ : Unit) => [(52, .agg #[vI ((obj S.O tk).sec), vI ((obj S.O tk).nano)]), (63, vP cb)]) (hp' := fun (_ : Unit) => [pO S.O L, Lr cb c S tk, .abs R]) [0] rfl rfl ?_ rfl (fun _ => by kernel_rfl) ?_
  ·
   refine gK 1 [(63, .pointer (some ⟨cb, 0, none⟩))] [] ?_
   refine NL ?_
   exact MD () [52, 63] [0, 1, 2]
  rintro _
  refine aD.cut (ι := Unit) (fr' := fun (_ : Unit) => (FP S tk cb)) (hp' := fun (_ : Unit) => [pO S.O L, Lr cb c S tk, .abs R]) [0] rfl rfl ?_ rfl (fun _ => by kernel_rfl) ?_
  ·
   refine gK 1 [(64, .pointer (some ⟨cb, 9, none⟩))] [] ?_
   refine NL ?_
   exact MD () [52, 64] [0, 1, 2]
  rintro _
  refine aD.last rfl rfl ?_
  refine gC 1 [] [(0, A_ 1 cb 2)] [(1, (FT S tk))] ?_
  refine NL (aj.np ?_)
  exact RF (.tuple #[]) [0, 1, 2] (⟨rfl, rfl⟩)
set_option maxRecDepth 100000 in
set_option maxHeartbeats 4000000 in
theorem CZ {β : Bs} (S : aH) (L : HL) (f m t : Nat) (hI : Inv S) (cb : Nat) (c : aU) (hC : dR β c) :
    Spec Tryz.prog β 69 #[.pointer (some ⟨f, 0, none⟩), .pointer (some ⟨cb, 0, none⟩)] ((pA f m t L S) ++ [pC cb c]) (fun v l => ∃ L2, v = .int .i64 (jA S c).1 ∧ l = ((pA f m t L2 ((jA S c).2.1)) ++ [.blk cb (fT ((jA S c).2.2)) 39])) := by
 have hX := hI.hX
 refine Spec.enter Tryz.func69 rfl Tryz.ntmps69 (Nat.le_of_ble_eq_true rfl) (fun R => ?_)
 refine af.seq ?_
 rcases hI.hand c.handle with cD | ⟨tk, cD, hlv⟩ | ⟨tk, cD, hlv⟩
 ·
  refine af.region ?_
  refine gK 1 [] [] ?_
  refine NN (af.seq ?_)
  refine af.bC (by kernel_rfl) (by kernel_rfl) ?_
  refine gQ 8 (FR t c) [(3, a_ 0 f), (7, a_ 6 cb)] ?_
  refine aI.call (f := 120) (args := #[.pointer (some ⟨t, 0, none⟩), .int .i64 (c.handle)]) (d := (some 16)) (pre := [jo t S L]) (R := (nF f m t S L cb c R)) (pk := [2, 0, 1, 3, 4, 5, 6, 7]) (fN := [1, 2, 0, 3, 4, 5, 6, 7]) (v0 := .tuple #[.nilIface, .int .i64 131]) (fun _ => by kernel_rfl) (ni t S.X.cH S.au (aJ L S.us) c.handle hC.hw (mz cD)) rfl (by kernel_rfl) rfl (by kernel_rfl) (fun _ _ h => h) ?_
  refine gQ 5 [(5, .nilIface), (6, .int .i64 131)] [] ?_
  refine NQ (NX (SR ?_))
  refine gK 2 [(19, .pointer (some ⟨cb, 0, none⟩)), (20, .nilIface)] [] ?_
  refine gL [3, 6] (kS S L hI cb c none (.inl rfl)) ?_
  rintro _ _ ⟨rfl, rfl⟩
  refine NS ?_
  refine gK 2 [(4, .int .i64 131)] [] ?_
  refine NN (af.ret ?_)
  exact RT (.int .i64 131) [2, 3, 4, 0, 5, 6, 1, 7] (⟨L, by rw [show (jA S c) = (131, S, kJ S.O c none) by unfold jA; rw [cD]] <;> exact ⟨rfl, rfl⟩⟩)
 ·
  have hkt : (obj S.O tk).kind = 1 := hI.kind hlv
  refine af.region ?_
  refine gK 1 [] [] ?_
  refine NN (af.seq ?_)
  refine af.bC (by kernel_rfl) (by kernel_rfl) ?_
  refine gQ 8 (FR t c) [(3, a_ 0 f), (7, a_ 6 cb)] ?_
  refine aI.call (f := 120) (args := #[.pointer (some ⟨t, 0, none⟩), .int .i64 (c.handle)]) (d := (some 16)) (pre := [jo t S L]) (R := (nF f m t S L cb c R)) (pk := [2, 0, 1, 3, 4, 5, 6, 7]) (fN := [1, 2, 0, 3, 4, 5, 6, 7]) (v0 := .tuple #[.iface 92 (.pointer (some ⟨(L.b tk), 0, none⟩)), .int .i64 0]) (fun _ => by kernel_rfl) (ji t S.X.cH S.au (aJ L S.us) c.handle hC.hw (cM L ⟨tk, 1⟩) (iC cD)) rfl (by kernel_rfl) rfl (by kernel_rfl) (fun _ _ h => h) ?_
  refine gQ 5 (CW L tk) [] ?_
  refine NQ (NX (SR ?_))
  refine gK 2 [(19, .pointer (some ⟨cb, 0, none⟩)), (20, .iface 92 (.pointer (some ⟨(L.b tk), 0, none⟩)))] [] ?_
  refine gL [3, 6] (kS S L hI cb c (some ⟨tk, 1⟩) (.inr (.inl ⟨tk, rfl, hlv⟩))) ?_
  rintro _ _ ⟨rfl, rfl⟩
  refine NS ?_
  refine gK 2 [(4, .int .i64 0)] [] ?_
  refine NN (af.ret ?_)
  exact RT (.int .i64 0) [2, 3, 4, 0, 5, 6, 1, 7] (⟨L, by rw [show (jA S c) = (0, S, kJ S.O c (some ⟨tk, 1⟩)) by unfold jA; rw [cD]] <;> exact ⟨rfl, rfl⟩⟩)
 ·
  have hkt : (obj S.O tk).kind = 2 := hI.kind hlv
  refine af.region ?_
  refine gK 1 [] [] ?_
  refine NN (af.seq ?_)
  refine af.bC (by kernel_rfl) (by kernel_rfl) ?_
  refine gQ 8 (FR t c) [(3, a_ 0 f), (7, a_ 6 cb)] ?_
  refine aI.call (f := 120) (args := #[.pointer (some ⟨t, 0, none⟩), .int .i64 (c.handle)]) (d := (some 16)) (pre := [jo t S L]) (R := (nF f m t S L cb c R)) (pk := [2, 0, 1, 3, 4, 5, 6, 7]) (fN := [1, 2, 0, 3, 4, 5, 6, 7]) (v0 := .tuple #[.iface 98 (.pointer (some ⟨(L.b tk), 0, none⟩)), .int .i64 0]) (fun _ => by kernel_rfl) (ji t S.X.cH S.au (aJ L S.us) c.handle hC.hw (cM L ⟨tk, 2⟩) (iC cD)) rfl (by kernel_rfl) rfl (by kernel_rfl) (fun _ _ h => h) ?_
  refine gQ 5 (CX L tk) [] ?_
  refine NQ (NX (SR ?_))
  refine gK 2 [(19, .pointer (some ⟨cb, 0, none⟩)), (20, .iface 98 (.pointer (some ⟨(L.b tk), 0, none⟩)))] [] ?_
  refine gL [3, 6] (kS S L hI cb c (some ⟨tk, 2⟩) (.inr (.inr (.inl ⟨tk, rfl, hlv⟩)))) ?_
  rintro _ _ ⟨rfl, rfl⟩
  refine NS ?_
  refine gK 2 [(4, .int .i64 0)] [] ?_
  refine NN (af.ret ?_)
  exact RT (.int .i64 0) [2, 3, 4, 0, 5, 6, 1, 7] (⟨L, by rw [show (jA S c) = (0, S, kJ S.O c (some ⟨tk, 2⟩)) by unfold jA; rw [cD]] <;> exact ⟨rfl, rfl⟩⟩)
set_option maxRecDepth 100000 in
set_option maxHeartbeats 4000000 in
theorem Ao {β : Bs} (S : aH) (L : HL) (f m t : Nat) (hI : Inv S) (cb : Nat) (c : aU) (hC : dR β c) :
    Spec Tryz.prog β 70 #[.pointer (some ⟨f, 0, none⟩), .pointer (some ⟨cb, 0, none⟩)] ((pA f m t L S) ++ [pC cb c]) (fun v l => ∃ L2, v = .int .i64 (eY S c).1 ∧ l = ((pA f m t L2 ((eY S c).2.1)) ++ [.blk cb (fT ((eY S c).2.2)) 39])) := by
 have hX := hI.hX
 refine Spec.enter Tryz.func70 rfl Tryz.ntmps70 (Nat.le_of_ble_eq_true rfl) (fun R => ?_)
 refine SR ?_
 refine gK 1 [] [] ?_
 refine NS ?_
 refine gK 2 [(8, .pointer (some ⟨f, 0, none⟩)), (9, .pointer (some ⟨cb, 0, none⟩))] [] ?_
 rcases wA hI.toInv0 c with ⟨e, hnm, hne⟩ | ⟨tk, hnm, hlv⟩ | ⟨tk, hnm, hlv⟩ | ⟨tk, hnm, hlv⟩
 ·
  refine gL (f := 110) (args := #[.pointer (some ⟨f, 0, none⟩), .pointer (some ⟨cb, 0, none⟩)]) (pre := ((pA f m t L S) ++ [pC cb c])) [0, 1, 2, 3, 4, 5, 6] ((by have h := fA S L f m t hI cb c hC (β := β); rw [hnm] at h; exact h)) ?_
  rintro _ _ ⟨rfl, rfl⟩
  refine gK 5 [(5, .nilIface), (6, .int .i64 (e))] [] ?_
  refine NS ?_
  refine gK 2 [(13, .pointer (some ⟨cb, 0, none⟩)), (14, .nilIface)] [] ?_
  refine gL [3, 6] (kS S L hI cb c none (.inl rfl)) ?_
  rintro _ _ ⟨rfl, rfl⟩
  refine NS ?_
  refine gK 2 [(4, .int .i64 (e))] [] ?_
  refine NN (af.ret ?_)
  exact RT (.int .i64 (e)) [2, 3, 4, 0, 5, 6, 1, 7] (⟨L, by rw [show (eY S c) = (e, S, kJ S.O c none) by unfold eY; rw [hnm]] <;> exact ⟨rfl, rfl⟩⟩)
 ·
  have hkt : (obj S.O tk).kind = 1 := hI.kind hlv
  refine gL (f := 110) (args := #[.pointer (some ⟨f, 0, none⟩), .pointer (some ⟨cb, 0, none⟩)]) (pre := ((pA f m t L S) ++ [pC cb c])) [0, 1, 2, 3, 4, 5, 6] ((by have h := fA S L f m t hI cb c hC (β := β); rw [hnm] at h; exact h)) ?_
  rintro _ _ ⟨rfl, rfl⟩
  refine gK 5 (CW L tk) [] ?_
  refine NS ?_
  refine gK 2 [(13, .pointer (some ⟨cb, 0, none⟩)), (14, .iface 92 (.pointer (some ⟨(L.b tk), 0, none⟩)))] [] ?_
  refine gL [3, 6] (kS S L hI cb c (some ⟨tk, 1⟩) (.inr (.inl ⟨tk, rfl, hlv⟩))) ?_
  rintro _ _ ⟨rfl, rfl⟩
  refine NS ?_
  refine gK 2 [(4, .int .i64 0)] [] ?_
  refine NN (af.ret ?_)
  exact RT (.int .i64 0) [2, 3, 4, 0, 5, 6, 1, 7] (⟨L, by rw [show (eY S c) = (0, S, kJ S.O c (some ⟨tk, 1⟩)) by unfold eY; rw [hnm]] <;> exact ⟨rfl, rfl⟩⟩)
 ·
  have hkt : (obj S.O tk).kind = 2 := hI.kind hlv
  refine gL (f := 110) (args := #[.pointer (some ⟨f, 0, none⟩), .pointer (some ⟨cb, 0, none⟩)]) (pre := ((pA f m t L S) ++ [pC cb c])) [0, 1, 2, 3, 4, 5, 6] ((by have h := fA S L f m t hI cb c hC (β := β); rw [hnm] at h; exact h)) ?_
  rintro _ _ ⟨rfl, rfl⟩
  refine gK 5 (CX L tk) [] ?_
  refine NS ?_
  refine gK 2 [(13, .pointer (some ⟨cb, 0, none⟩)), (14, .iface 98 (.pointer (some ⟨(L.b tk), 0, none⟩)))] [] ?_
  refine gL [3, 6] (kS S L hI cb c (some ⟨tk, 2⟩) (.inr (.inr (.inl ⟨tk, rfl, hlv⟩)))) ?_
  rintro _ _ ⟨rfl, rfl⟩
  refine NS ?_
  refine gK 2 [(4, .int .i64 0)] [] ?_
  refine NN (af.ret ?_)
  exact RT (.int .i64 0) [2, 3, 4, 0, 5, 6, 1, 7] (⟨L, by rw [show (eY S c) = (0, S, kJ S.O c (some ⟨tk, 2⟩)) by unfold eY; rw [hnm]] <;> exact ⟨rfl, rfl⟩⟩)
 ·
  have hkt : (obj S.O tk).kind = 3 := hI.kind hlv
  refine gL (f := 110) (args := #[.pointer (some ⟨f, 0, none⟩), .pointer (some ⟨cb, 0, none⟩)]) (pre := ((pA f m t L S) ++ [pC cb c])) [0, 1, 2, 3, 4, 5, 6] ((by have h := fA S L f m t hI cb c hC (β := β); rw [hnm] at h; exact h)) ?_
  rintro _ _ ⟨rfl, rfl⟩
  refine gK 5 [(5, .iface 95 (.pointer (some ⟨(L.b tk), 0, none⟩))), (6, .int .i64 0)] [] ?_
  refine NS ?_
  refine gK 2 [(13, .pointer (some ⟨cb, 0, none⟩)), (14, .iface 95 (.pointer (some ⟨(L.b tk), 0, none⟩)))] [] ?_
  refine gL [3, 6] (kS S L hI cb c (some ⟨tk, 3⟩) (.inr (.inr (.inr ⟨tk, rfl, hlv⟩)))) ?_
  rintro _ _ ⟨rfl, rfl⟩
  refine NS ?_
  refine gK 2 [(4, .int .i64 0)] [] ?_
  refine NN (af.ret ?_)
  exact RT (.int .i64 0) [2, 3, 4, 0, 5, 6, 1, 7] (⟨L, by rw [show (eY S c) = (0, S, kJ S.O c (some ⟨tk, 3⟩)) by unfold eY; rw [hnm]] <;> exact ⟨rfl, rfl⟩⟩)
set_option maxRecDepth 100000 in
set_option maxHeartbeats 4000000 in
theorem Bg {β : Bs} (S : aH) (L : HL) (f m t : Nat) (hI : Inv S) (cb : Nat) (c : aU) (hC : dR β c) :
    Spec Tryz.prog β 71 #[.pointer (some ⟨f, 0, none⟩), .pointer (some ⟨cb, 0, none⟩)] ((pA f m t L S) ++ [pC cb c]) (fun v l => ∃ L2, v = .int .i64 (gG S c).1 ∧ l = ((pA f m t L2 ((gG S c).2.1)) ++ [.blk cb (fT ((gG S c).2.2)) 39])) := by
 have hX := hI.hX
 refine Spec.enter Tryz.func71 rfl Tryz.ntmps71 (Nat.le_of_ble_eq_true rfl) (fun R => ?_)
 refine af.seq ?_
 rcases hI.hand c.handle with cD | ⟨tk, cD, hlv⟩ | ⟨tk, cD, hlv⟩
 ·
  refine af.region ?_
  refine gK 1 [] [] ?_
  refine NN (af.seq ?_)
  refine af.ru (S := [pF f m t S.X, pC cb c]) [(true, 0), (true, 1), (true, 2), (true, 3), (true, 4), (true, 5), (true, 6), (true, 7), (false, 8), (true, 9), (true, 10), (true, 11), (true, 12), (false, 13)] [0, 6] (by kernel_rfl) (by kernel_rfl) rfl (by kernel_rfl) ?_
  refine iE.reads (l := [(false, 8), (true, 9), (true, 10), (true, 11), (true, 12), (false, 13)]) (fr' := [(0, vP f), (11, vP t), (15, vI (c.handle))]) (ak := [cb = cb, f = f]) [0, 1, 2, 3, 4, 5, 6, 7] [o_, o_, o_, ⟨[.at 0], none, none, none, none⟩, o_, o_, o_, ⟨[.at 1], none, none, none, none⟩] [0, 11, 15] (fun _ => by kernel_rfl) ⟨rfl, rfl, trivial⟩ rfl ?_
  refine iE.cut (ι := Unit) (fr' := fun (_ : Unit) => [(0, vP f), (16, .tuple #[.nilIface, vI 131])]) (hp' := fun (_ : Unit) => ([jo t S L] ++ nF f m t S L cb c R)) [1, 6] (by kernel_rfl) ?_ rfl (fun _ => by kernel_rfl) ?_
  ·
   refine gL [2] (AZ t S.X.cH S.au (aJ L S.us) c.handle hC.hw (mz cD)) ?_
   rintro _ _ ⟨rfl, rfl⟩
   refine NL ?_
   exact MD () [0, 16] [0, 1, 2, 3, 4, 5, 6, 7]
  rintro _
  refine iE.reads (l := [(false, 13)]) (fr' := [(0, vP f), (5, .nilIface), (18, vI 131)]) (ak := []) [9, 10, 11, 12] [o_, o_, o_, o_] [0, 5, 18] (fun _ => by kernel_rfl) trivial rfl ?_
  refine iE.last (by kernel_rfl) ?_
  refine gK 1 [(6, .int .i64 131)] [] ?_
  refine NL (aj.np (NX (af.seq (SR ?_))))
  refine gK 2 [(20, .bool true)] [] ?_
  refine NN ?_
  refine CT ?_
  refine SR ?_
  refine gK 2 [(4, .int .i64 131)] [] ?_
  refine NN (af.ret (aj.av ?_))
  exact RT (.int .i64 131) [1, 2, 0, 3, 4, 5, 6, 7] (⟨L, by rw [show (gG S c) = (131, S, c) by unfold gG; rw [cD]] <;> exact ⟨rfl, rfl⟩⟩)
 ·
  have hkt : (obj S.O tk).kind = 1 := hI.kind hlv
  have hid := hI.ob _ hlv
  have mA := hI.D3 hlv
  have hdl := hI.zT hlv
  have hop : 0 < (obj S.O tk).opens ∧ (obj S.O tk).opens ≤ 1024 := ⟨by have h1 := hI.opens _ hlv; have h2 := BJ cD; simp only at h1 h2; omega, (hI.yD hlv).2⟩
  refine af.region ?_
  refine gK 1 [] [] ?_
  refine NN (af.seq ?_)
  refine af.ru (S := [pF f m t S.X, pC cb c]) [(true, 0), (true, 1), (true, 2), (true, 3), (true, 4), (true, 5), (true, 6), (true, 7), (false, 8), (true, 9), (true, 10), (true, 11), (true, 12), (false, 13)] [0, 6] (by kernel_rfl) (by kernel_rfl) rfl (by kernel_rfl) ?_
  refine iE.reads (l := [(false, 8), (true, 9), (true, 10), (true, 11), (true, 12), (false, 13)]) (fr' := [(0, vP f), (11, vP t), (15, vI (c.handle))]) (ak := [cb = cb, f = f]) [0, 1, 2, 3, 4, 5, 6, 7] [o_, o_, o_, ⟨[.at 0], none, none, none, none⟩, o_, o_, o_, ⟨[.at 1], none, none, none, none⟩] [0, 11, 15] (fun _ => by kernel_rfl) ⟨rfl, rfl, trivial⟩ rfl ?_
  refine iE.cut (ι := Unit) (fr' := fun (_ : Unit) => [(0, vP f), (16, .tuple #[.iface 92 (vP (L.b tk)), vI 0])]) (hp' := fun (_ : Unit) => ([pT t S.X.cH S.au L (del c.handle S.us)] ++ nF f m t S L cb c R)) [1, 6] (by kernel_rfl) ?_ rfl (fun _ => by kernel_rfl) ?_
  ·
   refine gL (f := 123) (args := #[.pointer (some ⟨t, 0, none⟩), .int .i64 (c.handle)]) (pre := [jo t S L]) [2] ((by have h := yB (β := β) t S.X.cH S.au (aJ L S.us) c.handle hC.hw (cM L ⟨tk, 1⟩) (iC cD); rw [← Aa] at h; exact h)) ?_
   rintro _ _ ⟨rfl, rfl⟩
   refine NL ?_
   exact MD () [0, 16] [0, 1, 2, 3, 4, 5, 6, 7]
  rintro _
  refine iE.reads (l := [(false, 13)]) (fr' := [(0, vP f), (5, .iface 92 (vP (L.b tk))), (18, vI 0)]) (ak := []) [9, 10, 11, 12] [o_, o_, o_, o_] [0, 5, 18] (fun _ => by kernel_rfl) trivial rfl ?_
  refine iE.last (by kernel_rfl) ?_
  refine gK 1 [(6, .int .i64 0)] [] ?_
  refine NL (aj.np (NX (af.seq (SR ?_))))
  refine gK 2 [(20, .bool false)] [] ?_
  refine NN ?_
  refine CF ?_
  refine af.skip (NX (SR ?_))
  refine gK 1 [(22, .iface 92 (.pointer (some ⟨(L.b tk), 0, none⟩)))] [] ?_
  refine gL [] (cg (L.b tk)) ?_
  rintro _ _ ⟨rfl, rfl⟩
  refine gK 6 [(27, .int .i64 ((obj S.O tk).opens - 1)), (29, .pointer (some ⟨(L.b tk), 7, none⟩))] [(2, v_ 3 (gX L hkt)), (3, p_ ⟨[], none, none, none, some (.int .i64 ((obj S.O tk).opens - 1))⟩ [(Value.int .i64 (IntKind.wrap .i64 ((obj S.O tk).opens - 1))) = (.int .i64 ((obj S.O tk).opens - 1))] ⟨bQ (by omega) (by omega) (by omega), trivial⟩)] ?_
  refine oK 3 [(5, 1), (4, 2)] tk 7 (fun o => { o with opens := o.opens - 1 }) hkt (fun bF bK => ?_)
  have gS := ku bK hkt
  have hf2 : (obj bF tk).id = (obj S.O tk).id := fu aM.id bK rfl
  have hf3 : (obj bF tk).data = (obj S.O tk).data := fu aM.data bK rfl
  refine NS ?_
  have FU : (obj bF tk).opens = (obj S.O tk).opens - 1 := by rw [bK]; exact congrArg aM.opens bA
  refine gK 2 [(30, .pointer (some ⟨f, 0, none⟩)), (31, .iface 92 (.pointer (some ⟨(L.b tk), 0, none⟩)))] [] ?_
  refine gL [3, 1, 2] (nj S.X f m t hX bF L S.idx hI.rise ⟨tk, 1⟩ gS (by simp) (by rw [FU]; omega) (fun _ => by rw [hf2, hid.1]; exact hlv) (by rw [hf2]; exact mA) (by rw [hf3]; exact hdl)) ?_
  rintro _ _ ⟨rfl, rfl⟩
  refine NS ?_
  refine gK 1 [(4, .int .i64 0)] [] ?_
  refine NN (af.ret ?_)
  exact RT (l := [pF f m t { S.X with used := fF bF S.X.used ⟨tk, 1⟩ }, pI m L (eW bF S.idx ⟨tk, 1⟩), pT t S.X.cH S.au L (del c.handle S.us), pO bF L, pD bF L, pE bF L, pC cb c]) (.int .i64 0) [1, 2, 3, 0, 4, 5, 6, 7] (⟨L, by subst bK; rw [show gG S c = (0, _, c) by unfold gG; rw [cD]]; exact ⟨rfl, rfl⟩⟩)
 ·
  have hkt : (obj S.O tk).kind = 2 := hI.kind hlv
  have hid := hI.ob _ hlv
  have mA := hI.D3 hlv
  have hdl := hI.zT hlv
  have hop : 0 < (obj S.O tk).opens ∧ (obj S.O tk).opens ≤ 1024 := ⟨by have h1 := hI.opens _ hlv; have h2 := BJ cD; simp only at h1 h2; omega, (hI.yD hlv).2⟩
  refine af.region ?_
  refine gK 1 [] [] ?_
  refine NN (af.seq ?_)
  refine af.ru (S := [pF f m t S.X, pC cb c]) [(true, 0), (true, 1), (true, 2), (true, 3), (true, 4), (true, 5), (true, 6), (true, 7), (false, 8), (true, 9), (true, 10), (true, 11), (true, 12), (false, 13)] [0, 6] (by kernel_rfl) (by kernel_rfl) rfl (by kernel_rfl) ?_
  refine iE.reads (l := [(false, 8), (true, 9), (true, 10), (true, 11), (true, 12), (false, 13)]) (fr' := [(0, vP f), (11, vP t), (15, vI (c.handle))]) (ak := [cb = cb, f = f]) [0, 1, 2, 3, 4, 5, 6, 7] [o_, o_, o_, ⟨[.at 0], none, none, none, none⟩, o_, o_, o_, ⟨[.at 1], none, none, none, none⟩] [0, 11, 15] (fun _ => by kernel_rfl) ⟨rfl, rfl, trivial⟩ rfl ?_
  refine iE.cut (ι := Unit) (fr' := fun (_ : Unit) => [(0, vP f), (16, .tuple #[.iface 98 (vP (L.b tk)), vI 0])]) (hp' := fun (_ : Unit) => ([pT t S.X.cH S.au L (del c.handle S.us)] ++ nF f m t S L cb c R)) [1, 6] (by kernel_rfl) ?_ rfl (fun _ => by kernel_rfl) ?_
  ·
   refine gL (f := 123) (args := #[.pointer (some ⟨t, 0, none⟩), .int .i64 (c.handle)]) (pre := [jo t S L]) [2] ((by have h := yB (β := β) t S.X.cH S.au (aJ L S.us) c.handle hC.hw (cM L ⟨tk, 2⟩) (iC cD); rw [← Aa] at h; exact h)) ?_
   rintro _ _ ⟨rfl, rfl⟩
   refine NL ?_
   exact MD () [0, 16] [0, 1, 2, 3, 4, 5, 6, 7]
  rintro _
  refine iE.reads (l := [(false, 13)]) (fr' := [(0, vP f), (5, .iface 98 (vP (L.b tk))), (18, vI 0)]) (ak := []) [9, 10, 11, 12] [o_, o_, o_, o_] [0, 5, 18] (fun _ => by kernel_rfl) trivial rfl ?_
  refine iE.last (by kernel_rfl) ?_
  refine gK 1 [(6, .int .i64 0)] [] ?_
  refine NL (aj.np (NX (af.seq (SR ?_))))
  refine gK 2 [(20, .bool false)] [] ?_
  refine NN ?_
  refine CF ?_
  refine af.skip (NX (SR ?_))
  refine gK 1 [(22, .iface 98 (.pointer (some ⟨(L.b tk), 0, none⟩)))] [] ?_
  refine gL [] (cg (L.b tk)) ?_
  rintro _ _ ⟨rfl, rfl⟩
  refine gK 6 [(27, .int .i64 ((obj S.O tk).opens - 1)), (29, .pointer (some ⟨(L.b tk), 7, none⟩))] [(2, v_ 3 (gX L hkt)), (3, p_ ⟨[], none, none, none, some (.int .i64 ((obj S.O tk).opens - 1))⟩ [(Value.int .i64 (IntKind.wrap .i64 ((obj S.O tk).opens - 1))) = (.int .i64 ((obj S.O tk).opens - 1))] ⟨bQ (by omega) (by omega) (by omega), trivial⟩)] ?_
  refine oK 3 [(5, 1), (4, 2)] tk 7 (fun o => { o with opens := o.opens - 1 }) hkt (fun bF bK => ?_)
  have sF := ku bK hkt
  have D6 : (obj bF tk).id = (obj S.O tk).id := fu aM.id bK rfl
  have Jv : (obj bF tk).data = (obj S.O tk).data := fu aM.data bK rfl
  refine NS ?_
  have FU : (obj bF tk).opens = (obj S.O tk).opens - 1 := by rw [bK]; exact congrArg aM.opens bA
  refine gK 2 [(30, .pointer (some ⟨f, 0, none⟩)), (31, .iface 98 (.pointer (some ⟨(L.b tk), 0, none⟩)))] [] ?_
  refine gL [3, 1, 2] (nj S.X f m t hX bF L S.idx hI.rise ⟨tk, 2⟩ sF (by simp) (by rw [FU]; omega) (fun _ => by rw [D6, hid.1]; exact hlv) (by rw [D6]; exact mA) (by rw [Jv]; exact hdl)) ?_
  rintro _ _ ⟨rfl, rfl⟩
  refine NS ?_
  refine gK 1 [(4, .int .i64 0)] [] ?_
  refine NN (af.ret ?_)
  exact RT (l := [pF f m t { S.X with used := fF bF S.X.used ⟨tk, 2⟩ }, pI m L (eW bF S.idx ⟨tk, 2⟩), pT t S.X.cH S.au L (del c.handle S.us), pO bF L, pD bF L, pE bF L, pC cb c]) (.int .i64 0) [1, 2, 3, 0, 4, 5, 6, 7] (⟨L, by subst bK; rw [show gG S c = (0, _, c) by unfold gG; rw [cD]]; exact ⟨rfl, rfl⟩⟩)
end Go.Proofs.YtkiedlmhocglhaaGreat
end
section
namespace Go.Proofs.YtkiedlmhocglhaaGreat
open Go.RowKit Go.Maps HeapM TabM
attribute [local irreducible] ah aI af aj
abbrev ML (S : aH) (L : HL) (tk : Nat) := (.abs (aq (gP (aS S.O L) tk bJ.none)) : HP)
abbrev GY (L : HL) (tk : Nat) (S : aH) (c : aU) := (.blk (L.b tk) [.int .i64 ((obj S.O tk).id), .int .i64 (c.mode), .int .i64 ((obj S.O tk).uid), .int .i64 ((obj S.O tk).gid), .int .i64 ((obj S.O tk).sec), .int .i64 ((obj S.O tk).nano), .int .i64 ((obj S.O tk).links), .int .i64 ((obj S.O tk).opens), .bool (obj S.O tk).gone, .slice (L.dA tk) ((obj S.O tk).data.length) ((L.dC tk))] 94 : HP)
abbrev GZ (L : HL) (tk : Nat) (S : aH) (c : aU) := (.blk (L.b tk) [.int .i64 ((obj S.O tk).id), .int .i64 (c.mode), .int .i64 (c.uid), .int .i64 ((obj S.O tk).gid), .int .i64 ((obj S.O tk).sec), .int .i64 ((obj S.O tk).nano), .int .i64 ((obj S.O tk).links), .int .i64 ((obj S.O tk).opens), .bool (obj S.O tk).gone, .slice (L.dA tk) ((obj S.O tk).data.length) ((L.dC tk))] 94 : HP)
abbrev G0 (L : HL) (tk : Nat) (S : aH) (c : aU) := (.blk (L.b tk) [.int .i64 ((obj S.O tk).id), .int .i64 (c.mode), .int .i64 (c.uid), .int .i64 (c.gid), .int .i64 ((obj S.O tk).sec), .int .i64 ((obj S.O tk).nano), .int .i64 ((obj S.O tk).links), .int .i64 ((obj S.O tk).opens), .bool (obj S.O tk).gone, .slice (L.dA tk) ((obj S.O tk).data.length) ((L.dC tk))] 94 : HP)
abbrev Ls (L : HL) (tk : Nat) (S : aH) (c : aU) := (.blk (L.b tk) [.int .i64 ((obj S.O tk).id), .int .i64 (c.mode), .int .i64 ((obj S.O tk).uid), .int .i64 ((obj S.O tk).gid), .int .i64 ((obj S.O tk).sec), .int .i64 ((obj S.O tk).nano), .int .i64 ((obj S.O tk).links), .int .i64 ((obj S.O tk).opens), .bool (obj S.O tk).gone, .map (some (L.m tk)), (pP L (obj S.O tk).up)] 101 : HP)
abbrev Lu (L : HL) (tk : Nat) (S : aH) (c : aU) := (.blk (L.b tk) [.int .i64 ((obj S.O tk).id), .int .i64 (c.mode), .int .i64 (c.uid), .int .i64 ((obj S.O tk).gid), .int .i64 ((obj S.O tk).sec), .int .i64 ((obj S.O tk).nano), .int .i64 ((obj S.O tk).links), .int .i64 ((obj S.O tk).opens), .bool (obj S.O tk).gone, .map (some (L.m tk)), (pP L (obj S.O tk).up)] 101 : HP)
abbrev Lv (L : HL) (tk : Nat) (S : aH) (c : aU) := (.blk (L.b tk) [.int .i64 ((obj S.O tk).id), .int .i64 (c.mode), .int .i64 (c.uid), .int .i64 (c.gid), .int .i64 ((obj S.O tk).sec), .int .i64 ((obj S.O tk).nano), .int .i64 ((obj S.O tk).links), .int .i64 ((obj S.O tk).opens), .bool (obj S.O tk).gone, .map (some (L.m tk)), (pP L (obj S.O tk).up)] 101 : HP)
abbrev JK (S : aH) (c : aU) (L2 : HL) := (pO (aB S.O (aE S.X) (fun _ => (⟨0, c.mode, 0, 0, 0, 0, 0, 0, false, 1, [], ⟨#[]⟩, [], none⟩ : aM))) L2 : HP)
abbrev MN (S : aH) (c : aU) (L2 : HL) := (pE (aB S.O (aE S.X) (fun _ => (⟨0, c.mode, 0, 0, 0, 0, 0, 0, false, 1, [], ⟨#[]⟩, [], none⟩ : aM))) L2 : HP)
abbrev JL (S : aH) (c : aU) (L2 : HL) := (pD (aB S.O (aE S.X) (fun _ => (⟨0, c.mode, 0, 0, 0, 0, 0, 0, false, 1, [], ⟨#[]⟩, [], none⟩ : aM))) L2 : HP)
abbrev ju (f : Nat) (m : Nat) (t) (S : aH) (L : HL) (tk : Nat) (cb : Nat) (c) (R : bJ) := ([pF f m t S.X, pI m L S.idx, jo t S L, ML S L tk, pD S.O L, pE S.O L, pC cb c, .abs R] : List HP)
abbrev kT (c : aU) := ([(79, vI (c.gid)), (83, .agg #[vI (c.sec), vI (c.nano)])] : Fr)
abbrev xI (L : HL) (tk : Nat) (c : aU) := ([(66, vP (L.b tk)), (67, vP (L.b tk)), (75, vI (c.uid))] : Fr)
abbrev FV (L : HL) (tk : Nat) (c : aU) := ([(65, vP (L.b tk)), (66, vP (L.b tk)), (67, vP (L.b tk)), (71, vI (c.mode)), (75, vI (c.uid))] : Fr)
abbrev xJ (S : aH) (c) (L2 : HL) (f : Nat) (m : Nat) (t) (L : HL) := ([JK S c L2, pF f m t S.X, pI m L S.idx, MN S c L2, jo t S L] : List HP)
abbrev FW (c : aU) (L : HL) (tk : Nat) := ([(83, .agg #[vI (c.sec), vI (c.nano)]), (91, .pointer (some ⟨(L.b tk), 4, none⟩))] : Fr)
abbrev FX (t) (c : aU) := ([(12, .pointer (some ⟨t, 0, none⟩)), (16, .int .i64 (c.handle))] : Fr)
abbrev JM (cb : Nat) (f : Nat) (b4 : Nat) := ([(49, .pointer (some ⟨cb, 0, none⟩)), (50, .pointer (some ⟨f, 0, none⟩)), (52, .iface 92 (.pointer (some ⟨b4, 0, none⟩)))] : Fr)
set_option maxRecDepth 100000 in
set_option maxHeartbeats 4000000 in
theorem yR {β : Bs} (S : aH) (L : HL) (f m t : Nat) (hI : Inv S) (cb : Nat) (c : aU) (hC : dR β c) :
    Spec Tryz.prog β 68 #[.pointer (some ⟨f, 0, none⟩), .pointer (some ⟨cb, 0, none⟩)] ((pA f m t L S) ++ [pC cb c]) (fun v l => ∃ L2, v = .int .i64 (bB S c).1 ∧ l = ((pA f m t L2 ((bB S c).2.1)) ++ [.blk cb (fT ((bB S c).2.2)) 39])) := by
 have hX := hI.hX
 refine Spec.enter Tryz.func68 rfl Tryz.ntmps68 (Nat.le_of_ble_eq_true rfl) (fun R => ?_)
 refine af.seq ?_
 rcases hI.hand c.handle with cD | ⟨tk, cD, hlv⟩ | ⟨tk, cD, hlv⟩
 ·
  refine af.region ?_
  refine gK 1 [] [] ?_
  refine NN (af.seq ?_)
  refine af.bC (by kernel_rfl) (by kernel_rfl) ?_
  refine gQ 8 (FX t c) [(3, a_ 0 f), (7, a_ 6 cb)] ?_
  refine aI.call (f := 120) (args := #[.pointer (some ⟨t, 0, none⟩), .int .i64 (c.handle)]) (d := (some 17)) (pre := [jo t S L]) (R := (nF f m t S L cb c R)) (pk := [2, 0, 1, 3, 4, 5, 6, 7]) (fN := [1, 2, 0, 3, 4, 5, 6, 7]) (v0 := .tuple #[.nilIface, .int .i64 131]) (fun _ => by kernel_rfl) (ni t S.X.cH S.au (aJ L S.us) c.handle hC.hw (mz cD)) rfl (by kernel_rfl) rfl (by kernel_rfl) (fun _ _ h => h) ?_
  refine gQ 5 [(5, .nilIface), (6, .int .i64 131)] [] ?_
  refine NQ (NX (af.seq (SR ?_)))
  refine gK 2 [(21, .bool true)] [] ?_
  refine NN ?_
  refine CT ?_
  refine SR ?_
  refine gK 2 [(4, .int .i64 131)] [] ?_
  refine NN (af.ret (aj.av ?_))
  exact RT (.int .i64 131) [0, 1, 2, 3, 4, 5, 6, 7] (⟨L, by rw [show (bB S c) = (131, S, c) by unfold bB; rw [cD]] <;> exact ⟨rfl, rfl⟩⟩)
 ·
  have hkt : (obj S.O tk).kind = 1 := hI.kind hlv
  refine af.region ?_
  refine gK 1 [] [] ?_
  refine NN (af.seq ?_)
  refine af.bC (by kernel_rfl) (by kernel_rfl) ?_
  refine gQ 8 (FX t c) [(3, a_ 0 f), (7, a_ 6 cb)] ?_
  refine aI.call (f := 120) (args := #[.pointer (some ⟨t, 0, none⟩), .int .i64 (c.handle)]) (d := (some 17)) (pre := [jo t S L]) (R := (nF f m t S L cb c R)) (pk := [2, 0, 1, 3, 4, 5, 6, 7]) (fN := [1, 2, 0, 3, 4, 5, 6, 7]) (v0 := .tuple #[.iface 92 (.pointer (some ⟨(L.b tk), 0, none⟩)), .int .i64 0]) (fun _ => by kernel_rfl) (ji t S.X.cH S.au (aJ L S.us) c.handle hC.hw (cM L ⟨tk, 1⟩) (iC cD)) rfl (by kernel_rfl) rfl (by kernel_rfl) (fun _ _ h => h) ?_
  refine gQ 5 (CW L tk) [] ?_
  refine NQ (NX (af.seq (SR ?_)))
  refine gK 2 [(21, .bool false)] [] ?_
  refine NN ?_
  refine CF ?_
  refine af.skip (NX (SR ?_))
  refine gK 1 [(23, .iface 92 (.pointer (some ⟨(L.b tk), 0, none⟩)))] [] ?_
  refine gL [] (cg (L.b tk)) ?_
  rintro _ _ ⟨rfl, rfl⟩
  refine gK 1 [(7, .pointer (some ⟨(L.b tk), 0, none⟩))] [] ?_
  refine NN (af.seq (af.block (SR ?_)))
  refine gK 5 [(30, .bool (obj S.O tk).gone)] [(3, v_ 3 (lN L hkt))] ?_
  refine ah.iM 30 (obj S.O tk).gone (fun _ => by kernel_rfl) (fun jR => ?_) (fun jR => ?_)
  ·
   refine gK 1 [(31, .iface 92 (.pointer (some ⟨(L.b tk), 0, none⟩)))] [] ?_
   refine gL [] (jf (.pointer (some ⟨(L.b tk), 0, none⟩))) ?_
   rintro _ _ ⟨rfl, rfl⟩
   refine gK 3 [(25, .bool false)] [] ?_
   refine NN ?_
   refine CF ?_
   refine SR ?_
   refine gK 4 [(39, .int .i64 (c.mode))] [(3, a_ 6 cb)] ?_
   refine gL [] (dQ (c.mode) 4095) ?_
   rintro _ _ ⟨rfl, rfl⟩
   refine gK 2 [(35, .bool (!(decide (0 ≤ c.mode ∧ c.mode ≤ 4095))))] [] ?_
   refine NN ?_
   refine af.cT (p := 0 ≤ c.mode ∧ c.mode ≤ 4095) (fun _ => by kernel_rfl) (fun jB => ?_) (fun jB => ?_)
   ·
    refine SR ?_
    refine gK 1 [(4, .int .i64 120)] [] ?_
    refine NN (af.ret (aj.aO (aj.av ?_)))
    exact RT (.int .i64 120) [0, 1, 2, 3, 4, 5, 6, 7] (⟨L, by rw [show (bB S c) = (120, S, c) by unfold bB; rw [cD]; exact (if_neg (fun h => absurd h.2 (by simp))).trans (if_neg jB)] <;> exact ⟨rfl, rfl⟩⟩)
   ·
    refine SR ?_
    refine gK 4 [(46, .int .i64 (c.uid))] [(3, a_ 6 cb)] ?_
    refine gL [] (dQ (c.uid) 2147483647) ?_
    rintro _ _ ⟨rfl, rfl⟩
    refine gK 2 [(49, .bool (!(decide (0 ≤ c.uid ∧ c.uid ≤ 2147483647))))] [] ?_
    refine ah.iN 49 (0 ≤ c.uid ∧ c.uid ≤ 2147483647) (fun _ => by kernel_rfl) (fun pY => ?_) (fun pY => ?_)
    ·
     refine gK 8 [(42, .bool true)] [] ?_
     refine NN ?_
     refine CT ?_
     refine SR ?_
     refine gK 1 [(4, .int .i64 11)] [] ?_
     refine NN (af.ret (aj.aO (aj.av ?_)))
     exact RT (.int .i64 11) [0, 1, 2, 3, 4, 5, 6, 7] (⟨L, by rw [show (bB S c) = (11, S, c) by unfold bB; rw [cD]; exact (if_neg (fun h => absurd h.2 (by simp))).trans ((if_pos jB).trans (if_neg (fun h => pY h.1)))] <;> exact ⟨rfl, rfl⟩⟩)
    ·
     refine gK 4 [(53, .int .i64 (c.gid))] [(3, a_ 6 cb)] ?_
     refine gL [] (dQ (c.gid) 2147483647) ?_
     rintro _ _ ⟨rfl, rfl⟩
     refine gK 3 [(42, .bool (!(decide (0 ≤ c.gid ∧ c.gid ≤ 2147483647))))] [] ?_
     refine NN ?_
     refine af.cT (p := 0 ≤ c.gid ∧ c.gid ≤ 2147483647) (fun _ => by kernel_rfl) (fun pZ => ?_) (fun pZ => ?_)
     ·
      refine SR ?_
      refine gK 1 [(4, .int .i64 11)] [] ?_
      refine NN (af.ret (aj.aO (aj.av ?_)))
      exact RT (.int .i64 11) [0, 1, 2, 3, 4, 5, 6, 7] (⟨L, by rw [show (bB S c) = (11, S, c) by unfold bB; rw [cD]; exact (if_neg (fun h => absurd h.2 (by simp))).trans ((if_pos jB).trans (if_neg (fun h => pZ h.2)))] <;> exact ⟨rfl, rfl⟩⟩)
     ·
      refine SR ?_
      refine gK 4 [(61, .agg #[.int .i64 (c.sec), .int .i64 (c.nano)])] [(3, A_ 6 cb 2)] ?_
      refine gL [] (fk c.sec c.nano) ?_
      rintro _ _ ⟨rfl, rfl⟩
      refine gK 2 [(57, .bool (!(decide (cL c.sec c.nano))))] [] ?_
      refine NN ?_
      refine af.cT (p := cL c.sec c.nano) (fun _ => by kernel_rfl) (fun tu => ?_) (fun tu => ?_)
      ·
       refine SR ?_
       refine gK 1 [(4, .int .i64 20)] [] ?_
       refine NN (af.ret (aj.aO (aj.av ?_)))
       exact RT (.int .i64 20) [0, 1, 2, 3, 4, 5, 6, 7] (⟨L, by rw [show (bB S c) = (20, S, c) by unfold bB; rw [cD]; exact (if_neg (fun h => absurd h.2 (by simp))).trans ((if_pos jB).trans ((if_pos ⟨pY, pZ⟩).trans (if_neg tu)))] <;> exact ⟨rfl, rfl⟩⟩)
      ·
       refine af.skip (aj.aW (NX (af.seq ?_)))
       skip
       ·
        refine af.mem (aK := [.blk f [.int .i64 (S.X.cN), .int .i64 (S.X.cB), .int .i64 (S.X.cH), .int .i64 (S.X.cS), .int .i64 (S.X.cZ), .map (some m), .pointer (some ⟨t, 0, none⟩), .int .i64 (S.X.last), .int .i64 (S.X.ai), .int .i64 (S.X.used)] 89, .abs (aC Tryz.prog 3 m (aN (aJ L S.idx)) S.idx.length), .abs (aZ 143 t S.X.cH S.au (aJ L S.us)), .abs (aq (gP (aS S.O L) tk bJ.none)), .abs (aq (aY S.O L)), .abs (aq (bw S.O L)), .blk cb [.int .i64 (c.op), .int .i64 (c.handle), .int .i64 (c.other), .string c.name, .string c.text, .slice c.dA (c.data.length) (c.dC), .int .i64 (c.mode), .int .i64 (c.uid), .int .i64 (c.gid), .int .i64 (c.sec), .int .i64 (c.nano), .int .i64 (c.code), .int .i64 (c.answer)] 39, .abs R, .blk (L.b tk) [.int .i64 ((obj S.O tk).id), .int .i64 ((obj S.O tk).mode), .int .i64 ((obj S.O tk).uid), .int .i64 ((obj S.O tk).gid), .int .i64 ((obj S.O tk).sec), .int .i64 ((obj S.O tk).nano), .int .i64 ((obj S.O tk).links), .int .i64 ((obj S.O tk).opens), .bool (obj S.O tk).gone, .slice (L.dA tk) ((obj S.O tk).data.length) ((L.dC tk))] 94]) (fun w hS => hS.sE (i := 3) (k := tk) rfl (by rw [hkt]; decide) (ef (hkt)) (by rw [hkt]; rfl)) ?_
        refine af.bT (S := [pC cb c]) [0, 1, 2, 3, 4, 5, 6, 7, 8, 9, 10, 11, 12, 13, 14, 15, 16, 17, 18, 19, 20, 21, 22, 23, 24, 25, 26, 27, 28, 29, 30, 31] 22 [6] (by kernel_rfl) (by kernel_rfl) rfl (by kernel_rfl) ?_
        refine aD.reads (r := 0) (l := [22, 23, 24, 25, 26, 27, 28, 29, 30, 31]) (fr' := (FV L tk c ++ kT c ++ [(85, .pointer (some ⟨(L.b tk), 1, none⟩))])) (ak := [cb = cb, cb = cb, cb = cb, cb = cb, cb = cb]) [0, 1, 2, 3, 4, 5, 6, 7, 8, 9, 10, 11, 12, 13, 14, 15, 16, 17, 18, 19, 20, 21] [o_, o_, o_, o_, o_, o_, o_, ⟨[.at 0], none, none, none, none⟩, o_, o_, o_, ⟨[.at 0], none, none, none, none⟩, o_, o_, o_, ⟨[.at 0], none, none, none, none⟩, o_, o_, o_, ⟨[.at 0, .at 0], none, none, none, none⟩, o_, o_] [65, 66, 67, 71, 75, 79, 83, 85] (fun _ => by kernel_rfl) ⟨rfl, rfl, rfl, rfl, rfl, trivial⟩ rfl rfl ?_
        refine mC [6] [] [(0, a_ 8 (L.b tk))] [(8, [(1, .int .i64 (c.mode))])] ?_
        refine aD.cut (ι := Unit) (fr' := fun (_ : Unit) => (xI L tk c ++ kT c ++ [(86, vP (L.b tk))])) (hp' := fun (_ : Unit) => (ju f m t S L tk cb c R ++ [GY L tk S c])) [6] rfl rfl ?_ rfl (fun _ => by kernel_rfl) ?_
        ·
         refine gK 1 [(86, .pointer (some ⟨(L.b tk), 0, none⟩))] [] ?_
         refine NL ?_
         exact MD () [66, 67, 75, 79, 83, 86] [0, 1, 2, 3, 4, 5, 6, 7, 8]
        rintro _
        refine aD.cut (ι := Unit) (fr' := fun (_ : Unit) => (xI L tk c ++ kT c ++ [(87, .pointer (some ⟨(L.b tk), 2, none⟩))])) (hp' := fun (_ : Unit) => (ju f m t S L tk cb c R ++ [GY L tk S c])) [6] rfl rfl ?_ rfl (fun _ => by kernel_rfl) ?_
        ·
         refine gK 1 [(87, .pointer (some ⟨(L.b tk), 2, none⟩))] [] ?_
         refine NL ?_
         exact MD () [66, 67, 75, 79, 83, 87] [0, 1, 2, 3, 4, 5, 6, 7, 8]
        rintro _
        refine mC [6] [] [(0, a_ 8 (L.b tk))] [(8, [(2, .int .i64 (c.uid))])] ?_
        refine aD.cut (ι := Unit) (fr' := fun (_ : Unit) => ([(67, vP (L.b tk))] ++ kT c ++ [(88, vP (L.b tk))])) (hp' := fun (_ : Unit) => (ju f m t S L tk cb c R ++ [GZ L tk S c])) [6] rfl rfl ?_ rfl (fun _ => by kernel_rfl) ?_
        ·
         refine gK 1 [(88, .pointer (some ⟨(L.b tk), 0, none⟩))] [] ?_
         refine NL ?_
         exact MD () [67, 79, 83, 88] [0, 1, 2, 3, 4, 5, 6, 7, 8]
        rintro _
        refine aD.cut (ι := Unit) (fr' := fun (_ : Unit) => ([(67, vP (L.b tk))] ++ kT c ++ [(89, .pointer (some ⟨(L.b tk), 3, none⟩))])) (hp' := fun (_ : Unit) => (ju f m t S L tk cb c R ++ [GZ L tk S c])) [6] rfl rfl ?_ rfl (fun _ => by kernel_rfl) ?_
        ·
         refine gK 1 [(89, .pointer (some ⟨(L.b tk), 3, none⟩))] [] ?_
         refine NL ?_
         exact MD () [67, 79, 83, 89] [0, 1, 2, 3, 4, 5, 6, 7, 8]
        rintro _
        refine mC [6] [] [(0, a_ 8 (L.b tk))] [(8, [(3, .int .i64 (c.gid))])] ?_
        refine aD.cut (ι := Unit) (fr' := fun (_ : Unit) => [(83, .agg #[vI (c.sec), vI (c.nano)]), (90, vP (L.b tk))]) (hp' := fun (_ : Unit) => (ju f m t S L tk cb c R ++ [G0 L tk S c])) [6] rfl rfl ?_ rfl (fun _ => by kernel_rfl) ?_
        ·
         refine gK 1 [(90, .pointer (some ⟨(L.b tk), 0, none⟩))] [] ?_
         refine NL ?_
         exact MD () [83, 90] [0, 1, 2, 3, 4, 5, 6, 7, 8]
        rintro _
        refine aD.cut (ι := Unit) (fr' := fun (_ : Unit) => (FW c L tk)) (hp' := fun (_ : Unit) => (ju f m t S L tk cb c R ++ [G0 L tk S c])) [6] rfl rfl ?_ rfl (fun _ => by kernel_rfl) ?_
        ·
         refine gK 1 [(91, .pointer (some ⟨(L.b tk), 4, none⟩))] [] ?_
         refine NL ?_
         exact MD () [83, 91] [0, 1, 2, 3, 4, 5, 6, 7, 8]
        rintro _
        refine aD.last rfl rfl ?_
        refine gC 1 [] [(0, A_ 8 (L.b tk) 2)] [(8, [(4, .int .i64 (c.sec)), (5, .int .i64 (c.nano))])] ?_
        refine NL (aj.np (NX (SR ?_)))
        refine ah.mem (aK := [.abs (aq (aS (aB S.O tk (fun o => { o with mode := c.mode, uid := c.uid, gid := c.gid, sec := c.sec, nano := c.nano })) L)), .blk f [.int .i64 (S.X.cN), .int .i64 (S.X.cB), .int .i64 (S.X.cH), .int .i64 (S.X.cS), .int .i64 (S.X.cZ), .map (some m), .pointer (some ⟨t, 0, none⟩), .int .i64 (S.X.last), .int .i64 (S.X.ai), .int .i64 (S.X.used)] 89, .abs (aC Tryz.prog 3 m (aN (aJ L S.idx)) S.idx.length), .abs (aZ 143 t S.X.cH S.au (aJ L S.us)), .abs (aq (aY (aB S.O tk (fun o => { o with mode := c.mode, uid := c.uid, gid := c.gid, sec := c.sec, nano := c.nano })) L)), .abs (aq (bw (aB S.O tk (fun o => { o with mode := c.mode, uid := c.uid, gid := c.gid, sec := c.sec, nano := c.nano })) L)), .blk cb [.int .i64 (c.op), .int .i64 (c.handle), .int .i64 (c.other), .string c.name, .string c.text, .slice c.dA (c.data.length) (c.dC), .int .i64 (c.mode), .int .i64 (c.uid), .int .i64 (c.gid), .int .i64 (c.sec), .int .i64 (c.nano), .int .i64 (c.code), .int .i64 (c.answer)] 39, .abs R]) (fun w hS => by have h := hS.tV (O := S.O) (L := L) (i := 3) (j := 8) (idx := [0, 1, 2, 4, 5, 6, 7]) (k := tk) (f := (fun o => { o with mode := c.mode, uid := c.uid, gid := c.gid, sec := c.sec, nano := c.nano })) rfl (fun _ hx => kZ hx) rfl (by kernel_rfl) rfl (by show (obj S.O tk).kind ≠ 0; rw [hkt]; decide) ((ef (o := (fun o => { o with mode := c.mode, uid := c.uid, gid := c.gid, sec := c.sec, nano := c.nano }) (obj S.O tk)) (hkt)).trans rfl) (by show kg (obj S.O tk).kind = _; rw [hkt]; rfl); rw [jZ (O := S.O) (k := tk) (f := (fun o => { o with mode := c.mode, uid := c.uid, gid := c.gid, sec := c.sec, nano := c.nano })) rfl rfl, j3 (O := S.O) (k := tk) (f := (fun o => { o with mode := c.mode, uid := c.uid, gid := c.gid, sec := c.sec, nano := c.nano })) rfl rfl]; exact h) ?_
        have gS : (obj (aB S.O tk (fun o => { o with mode := c.mode, uid := c.uid, gid := c.gid, sec := c.sec, nano := c.nano })) tk).kind = 1 := (gE (f := (fun o => { o with mode := c.mode, uid := c.uid, gid := c.gid, sec := c.sec, nano := c.nano })) (fun _ => rfl)).trans (hkt)
        generalize bK : (aB S.O tk (fun o => { o with mode := c.mode, uid := c.uid, gid := c.gid, sec := c.sec, nano := c.nano })) = bF at gS ⊢
        refine gK 1 [(4, .int .i64 0)] [] ?_
        refine NN (af.ret ?_)
        exact RT (l := [pF f m t S.X, pI m L S.idx, jo t S L, pO bF L, pD bF L, pE bF L, pC cb c]) (.int .i64 0) [1, 2, 3, 0, 4, 5, 6, 7] (⟨L, by subst bK; rw [show (bB S c) = (0, { S with O := aB S.O tk (fun o => { o with mode := c.mode, uid := c.uid, gid := c.gid, sec := c.sec, nano := c.nano }) }, c) by unfold bB; rw [cD]; exact (if_neg (fun h => absurd h.2 (by simp))).trans ((if_pos jB).trans ((if_pos ⟨pY, pZ⟩).trans (if_pos tu)))] <;> exact ⟨rfl, rfl⟩⟩)
  ·
   refine gK 5 [(25, .bool false)] [] ?_
   refine NN ?_
   refine CF ?_
   refine SR ?_
   refine gK 4 [(39, .int .i64 (c.mode))] [(3, a_ 6 cb)] ?_
   refine gL [] (dQ (c.mode) 4095) ?_
   rintro _ _ ⟨rfl, rfl⟩
   refine gK 2 [(35, .bool (!(decide (0 ≤ c.mode ∧ c.mode ≤ 4095))))] [] ?_
   refine NN ?_
   refine af.cT (p := 0 ≤ c.mode ∧ c.mode ≤ 4095) (fun _ => by kernel_rfl) (fun jB => ?_) (fun jB => ?_)
   ·
    refine SR ?_
    refine gK 1 [(4, .int .i64 120)] [] ?_
    refine NN (af.ret (aj.aO (aj.av ?_)))
    exact RT (.int .i64 120) [0, 1, 2, 3, 4, 5, 6, 7] (⟨L, by rw [show (bB S c) = (120, S, c) by unfold bB; rw [cD]; exact (if_neg (fun h => absurd h.2 (by simp))).trans (if_neg jB)] <;> exact ⟨rfl, rfl⟩⟩)
   ·
    refine SR ?_
    refine gK 4 [(46, .int .i64 (c.uid))] [(3, a_ 6 cb)] ?_
    refine gL [] (dQ (c.uid) 2147483647) ?_
    rintro _ _ ⟨rfl, rfl⟩
    refine gK 2 [(49, .bool (!(decide (0 ≤ c.uid ∧ c.uid ≤ 2147483647))))] [] ?_
    refine ah.iN 49 (0 ≤ c.uid ∧ c.uid ≤ 2147483647) (fun _ => by kernel_rfl) (fun pY => ?_) (fun pY => ?_)
    ·
     refine gK 8 [(42, .bool true)] [] ?_
     refine NN ?_
     refine CT ?_
     refine SR ?_
     refine gK 1 [(4, .int .i64 11)] [] ?_
     refine NN (af.ret (aj.aO (aj.av ?_)))
     exact RT (.int .i64 11) [0, 1, 2, 3, 4, 5, 6, 7] (⟨L, by rw [show (bB S c) = (11, S, c) by unfold bB; rw [cD]; exact (if_neg (fun h => absurd h.2 (by simp))).trans ((if_pos jB).trans (if_neg (fun h => pY h.1)))] <;> exact ⟨rfl, rfl⟩⟩)
    ·
     refine gK 4 [(53, .int .i64 (c.gid))] [(3, a_ 6 cb)] ?_
     refine gL [] (dQ (c.gid) 2147483647) ?_
     rintro _ _ ⟨rfl, rfl⟩
     refine gK 3 [(42, .bool (!(decide (0 ≤ c.gid ∧ c.gid ≤ 2147483647))))] [] ?_
     refine NN ?_
     refine af.cT (p := 0 ≤ c.gid ∧ c.gid ≤ 2147483647) (fun _ => by kernel_rfl) (fun pZ => ?_) (fun pZ => ?_)
     ·
      refine SR ?_
      refine gK 1 [(4, .int .i64 11)] [] ?_
      refine NN (af.ret (aj.aO (aj.av ?_)))
      exact RT (.int .i64 11) [0, 1, 2, 3, 4, 5, 6, 7] (⟨L, by rw [show (bB S c) = (11, S, c) by unfold bB; rw [cD]; exact (if_neg (fun h => absurd h.2 (by simp))).trans ((if_pos jB).trans (if_neg (fun h => pZ h.2)))] <;> exact ⟨rfl, rfl⟩⟩)
     ·
      refine SR ?_
      refine gK 4 [(61, .agg #[.int .i64 (c.sec), .int .i64 (c.nano)])] [(3, A_ 6 cb 2)] ?_
      refine gL [] (fk c.sec c.nano) ?_
      rintro _ _ ⟨rfl, rfl⟩
      refine gK 2 [(57, .bool (!(decide (cL c.sec c.nano))))] [] ?_
      refine NN ?_
      refine af.cT (p := cL c.sec c.nano) (fun _ => by kernel_rfl) (fun tu => ?_) (fun tu => ?_)
      ·
       refine SR ?_
       refine gK 1 [(4, .int .i64 20)] [] ?_
       refine NN (af.ret (aj.aO (aj.av ?_)))
       exact RT (.int .i64 20) [0, 1, 2, 3, 4, 5, 6, 7] (⟨L, by rw [show (bB S c) = (20, S, c) by unfold bB; rw [cD]; exact (if_neg (fun h => absurd h.2 (by simp))).trans ((if_pos jB).trans ((if_pos ⟨pY, pZ⟩).trans (if_neg tu)))] <;> exact ⟨rfl, rfl⟩⟩)
      ·
       refine af.skip (aj.aW (NX (af.seq ?_)))
       skip
       ·
        refine af.mem (aK := [.blk f [.int .i64 (S.X.cN), .int .i64 (S.X.cB), .int .i64 (S.X.cH), .int .i64 (S.X.cS), .int .i64 (S.X.cZ), .map (some m), .pointer (some ⟨t, 0, none⟩), .int .i64 (S.X.last), .int .i64 (S.X.ai), .int .i64 (S.X.used)] 89, .abs (aC Tryz.prog 3 m (aN (aJ L S.idx)) S.idx.length), .abs (aZ 143 t S.X.cH S.au (aJ L S.us)), .abs (aq (gP (aS S.O L) tk bJ.none)), .abs (aq (aY S.O L)), .abs (aq (bw S.O L)), .blk cb [.int .i64 (c.op), .int .i64 (c.handle), .int .i64 (c.other), .string c.name, .string c.text, .slice c.dA (c.data.length) (c.dC), .int .i64 (c.mode), .int .i64 (c.uid), .int .i64 (c.gid), .int .i64 (c.sec), .int .i64 (c.nano), .int .i64 (c.code), .int .i64 (c.answer)] 39, .abs R, .blk (L.b tk) [.int .i64 ((obj S.O tk).id), .int .i64 ((obj S.O tk).mode), .int .i64 ((obj S.O tk).uid), .int .i64 ((obj S.O tk).gid), .int .i64 ((obj S.O tk).sec), .int .i64 ((obj S.O tk).nano), .int .i64 ((obj S.O tk).links), .int .i64 ((obj S.O tk).opens), .bool (obj S.O tk).gone, .slice (L.dA tk) ((obj S.O tk).data.length) ((L.dC tk))] 94]) (fun w hS => hS.sE (i := 3) (k := tk) rfl (by rw [hkt]; decide) (ef (hkt)) (by rw [hkt]; rfl)) ?_
        refine af.bT (S := [pC cb c]) [0, 1, 2, 3, 4, 5, 6, 7, 8, 9, 10, 11, 12, 13, 14, 15, 16, 17, 18, 19, 20, 21, 22, 23, 24, 25, 26, 27, 28, 29, 30, 31] 22 [6] (by kernel_rfl) (by kernel_rfl) rfl (by kernel_rfl) ?_
        refine aD.reads (r := 0) (l := [22, 23, 24, 25, 26, 27, 28, 29, 30, 31]) (fr' := (FV L tk c ++ kT c ++ [(85, .pointer (some ⟨(L.b tk), 1, none⟩))])) (ak := [cb = cb, cb = cb, cb = cb, cb = cb, cb = cb]) [0, 1, 2, 3, 4, 5, 6, 7, 8, 9, 10, 11, 12, 13, 14, 15, 16, 17, 18, 19, 20, 21] [o_, o_, o_, o_, o_, o_, o_, ⟨[.at 0], none, none, none, none⟩, o_, o_, o_, ⟨[.at 0], none, none, none, none⟩, o_, o_, o_, ⟨[.at 0], none, none, none, none⟩, o_, o_, o_, ⟨[.at 0, .at 0], none, none, none, none⟩, o_, o_] [65, 66, 67, 71, 75, 79, 83, 85] (fun _ => by kernel_rfl) ⟨rfl, rfl, rfl, rfl, rfl, trivial⟩ rfl rfl ?_
        refine mC [6] [] [(0, a_ 8 (L.b tk))] [(8, [(1, .int .i64 (c.mode))])] ?_
        refine aD.cut (ι := Unit) (fr' := fun (_ : Unit) => (xI L tk c ++ kT c ++ [(86, vP (L.b tk))])) (hp' := fun (_ : Unit) => (ju f m t S L tk cb c R ++ [GY L tk S c])) [6] rfl rfl ?_ rfl (fun _ => by kernel_rfl) ?_
        ·
         refine gK 1 [(86, .pointer (some ⟨(L.b tk), 0, none⟩))] [] ?_
         refine NL ?_
         exact MD () [66, 67, 75, 79, 83, 86] [0, 1, 2, 3, 4, 5, 6, 7, 8]
        rintro _
        refine aD.cut (ι := Unit) (fr' := fun (_ : Unit) => (xI L tk c ++ kT c ++ [(87, .pointer (some ⟨(L.b tk), 2, none⟩))])) (hp' := fun (_ : Unit) => (ju f m t S L tk cb c R ++ [GY L tk S c])) [6] rfl rfl ?_ rfl (fun _ => by kernel_rfl) ?_
        ·
         refine gK 1 [(87, .pointer (some ⟨(L.b tk), 2, none⟩))] [] ?_
         refine NL ?_
         exact MD () [66, 67, 75, 79, 83, 87] [0, 1, 2, 3, 4, 5, 6, 7, 8]
        rintro _
        refine mC [6] [] [(0, a_ 8 (L.b tk))] [(8, [(2, .int .i64 (c.uid))])] ?_
        refine aD.cut (ι := Unit) (fr' := fun (_ : Unit) => ([(67, vP (L.b tk))] ++ kT c ++ [(88, vP (L.b tk))])) (hp' := fun (_ : Unit) => (ju f m t S L tk cb c R ++ [GZ L tk S c])) [6] rfl rfl ?_ rfl (fun _ => by kernel_rfl) ?_
        ·
         refine gK 1 [(88, .pointer (some ⟨(L.b tk), 0, none⟩))] [] ?_
         refine NL ?_
         exact MD () [67, 79, 83, 88] [0, 1, 2, 3, 4, 5, 6, 7, 8]
        rintro _
        refine aD.cut (ι := Unit) (fr' := fun (_ : Unit) => ([(67, vP (L.b tk))] ++ kT c ++ [(89, .pointer (some ⟨(L.b tk), 3, none⟩))])) (hp' := fun (_ : Unit) => (ju f m t S L tk cb c R ++ [GZ L tk S c])) [6] rfl rfl ?_ rfl (fun _ => by kernel_rfl) ?_
        ·
         refine gK 1 [(89, .pointer (some ⟨(L.b tk), 3, none⟩))] [] ?_
         refine NL ?_
         exact MD () [67, 79, 83, 89] [0, 1, 2, 3, 4, 5, 6, 7, 8]
        rintro _
        refine mC [6] [] [(0, a_ 8 (L.b tk))] [(8, [(3, .int .i64 (c.gid))])] ?_
        refine aD.cut (ι := Unit) (fr' := fun (_ : Unit) => [(83, .agg #[vI (c.sec), vI (c.nano)]), (90, vP (L.b tk))]) (hp' := fun (_ : Unit) => (ju f m t S L tk cb c R ++ [G0 L tk S c])) [6] rfl rfl ?_ rfl (fun _ => by kernel_rfl) ?_
        ·
         refine gK 1 [(90, .pointer (some ⟨(L.b tk), 0, none⟩))] [] ?_
         refine NL ?_
         exact MD () [83, 90] [0, 1, 2, 3, 4, 5, 6, 7, 8]
        rintro _
        refine aD.cut (ι := Unit) (fr' := fun (_ : Unit) => (FW c L tk)) (hp' := fun (_ : Unit) => (ju f m t S L tk cb c R ++ [G0 L tk S c])) [6] rfl rfl ?_ rfl (fun _ => by kernel_rfl) ?_
        ·
         refine gK 1 [(91, .pointer (some ⟨(L.b tk), 4, none⟩))] [] ?_
         refine NL ?_
         exact MD () [83, 91] [0, 1, 2, 3, 4, 5, 6, 7, 8]
        rintro _
        refine aD.last rfl rfl ?_
        refine gC 1 [] [(0, A_ 8 (L.b tk) 2)] [(8, [(4, .int .i64 (c.sec)), (5, .int .i64 (c.nano))])] ?_
        refine NL (aj.np (NX (SR ?_)))
        refine ah.mem (aK := [.abs (aq (aS (aB S.O tk (fun o => { o with mode := c.mode, uid := c.uid, gid := c.gid, sec := c.sec, nano := c.nano })) L)), .blk f [.int .i64 (S.X.cN), .int .i64 (S.X.cB), .int .i64 (S.X.cH), .int .i64 (S.X.cS), .int .i64 (S.X.cZ), .map (some m), .pointer (some ⟨t, 0, none⟩), .int .i64 (S.X.last), .int .i64 (S.X.ai), .int .i64 (S.X.used)] 89, .abs (aC Tryz.prog 3 m (aN (aJ L S.idx)) S.idx.length), .abs (aZ 143 t S.X.cH S.au (aJ L S.us)), .abs (aq (aY (aB S.O tk (fun o => { o with mode := c.mode, uid := c.uid, gid := c.gid, sec := c.sec, nano := c.nano })) L)), .abs (aq (bw (aB S.O tk (fun o => { o with mode := c.mode, uid := c.uid, gid := c.gid, sec := c.sec, nano := c.nano })) L)), .blk cb [.int .i64 (c.op), .int .i64 (c.handle), .int .i64 (c.other), .string c.name, .string c.text, .slice c.dA (c.data.length) (c.dC), .int .i64 (c.mode), .int .i64 (c.uid), .int .i64 (c.gid), .int .i64 (c.sec), .int .i64 (c.nano), .int .i64 (c.code), .int .i64 (c.answer)] 39, .abs R]) (fun w hS => by have h := hS.tV (O := S.O) (L := L) (i := 3) (j := 8) (idx := [0, 1, 2, 4, 5, 6, 7]) (k := tk) (f := (fun o => { o with mode := c.mode, uid := c.uid, gid := c.gid, sec := c.sec, nano := c.nano })) rfl (fun _ hx => kZ hx) rfl (by kernel_rfl) rfl (by show (obj S.O tk).kind ≠ 0; rw [hkt]; decide) ((ef (o := (fun o => { o with mode := c.mode, uid := c.uid, gid := c.gid, sec := c.sec, nano := c.nano }) (obj S.O tk)) (hkt)).trans rfl) (by show kg (obj S.O tk).kind = _; rw [hkt]; rfl); rw [jZ (O := S.O) (k := tk) (f := (fun o => { o with mode := c.mode, uid := c.uid, gid := c.gid, sec := c.sec, nano := c.nano })) rfl rfl, j3 (O := S.O) (k := tk) (f := (fun o => { o with mode := c.mode, uid := c.uid, gid := c.gid, sec := c.sec, nano := c.nano })) rfl rfl]; exact h) ?_
        have jO : (obj (aB S.O tk (fun o => { o with mode := c.mode, uid := c.uid, gid := c.gid, sec := c.sec, nano := c.nano })) tk).kind = 1 := (gE (f := (fun o => { o with mode := c.mode, uid := c.uid, gid := c.gid, sec := c.sec, nano := c.nano })) (fun _ => rfl)).trans (hkt)
        generalize bK : (aB S.O tk (fun o => { o with mode := c.mode, uid := c.uid, gid := c.gid, sec := c.sec, nano := c.nano })) = bF at jO ⊢
        refine gK 1 [(4, .int .i64 0)] [] ?_
        refine NN (af.ret ?_)
        exact RT (l := [pF f m t S.X, pI m L S.idx, jo t S L, pO bF L, pD bF L, pE bF L, pC cb c]) (.int .i64 0) [1, 2, 3, 0, 4, 5, 6, 7] (⟨L, by subst bK; rw [show (bB S c) = (0, { S with O := aB S.O tk (fun o => { o with mode := c.mode, uid := c.uid, gid := c.gid, sec := c.sec, nano := c.nano }) }, c) by unfold bB; rw [cD]; exact (if_neg (fun h => absurd h.2 (by simp))).trans ((if_pos jB).trans ((if_pos ⟨pY, pZ⟩).trans (if_pos tu)))] <;> exact ⟨rfl, rfl⟩⟩)
 ·
  have hkt : (obj S.O tk).kind = 2 := hI.kind hlv
  refine af.region ?_
  refine gK 1 [] [] ?_
  refine NN (af.seq ?_)
  refine af.bC (by kernel_rfl) (by kernel_rfl) ?_
  refine gQ 8 (FX t c) [(3, a_ 0 f), (7, a_ 6 cb)] ?_
  refine aI.call (f := 120) (args := #[.pointer (some ⟨t, 0, none⟩), .int .i64 (c.handle)]) (d := (some 17)) (pre := [jo t S L]) (R := (nF f m t S L cb c R)) (pk := [2, 0, 1, 3, 4, 5, 6, 7]) (fN := [1, 2, 0, 3, 4, 5, 6, 7]) (v0 := .tuple #[.iface 98 (.pointer (some ⟨(L.b tk), 0, none⟩)), .int .i64 0]) (fun _ => by kernel_rfl) (ji t S.X.cH S.au (aJ L S.us) c.handle hC.hw (cM L ⟨tk, 2⟩) (iC cD)) rfl (by kernel_rfl) rfl (by kernel_rfl) (fun _ _ h => h) ?_
  refine gQ 5 (CX L tk) [] ?_
  refine NQ (NX (af.seq (SR ?_)))
  refine gK 2 [(21, .bool false)] [] ?_
  refine NN ?_
  refine CF ?_
  refine af.skip (NX (SR ?_))
  refine gK 1 [(23, .iface 98 (.pointer (some ⟨(L.b tk), 0, none⟩)))] [] ?_
  refine gL [] (cg (L.b tk)) ?_
  rintro _ _ ⟨rfl, rfl⟩
  refine gK 1 [(7, .pointer (some ⟨(L.b tk), 0, none⟩))] [] ?_
  refine NN (af.seq (af.block (SR ?_)))
  refine gK 5 [(30, .bool (obj S.O tk).gone)] [(3, v_ 3 (lN L hkt))] ?_
  refine ah.iM 30 (obj S.O tk).gone (fun _ => by kernel_rfl) (fun jR => ?_) (fun jR => ?_)
  ·
   refine gK 1 [(31, .iface 98 (.pointer (some ⟨(L.b tk), 0, none⟩)))] [] ?_
   refine gL [] (jg (.pointer (some ⟨(L.b tk), 0, none⟩))) ?_
   rintro _ _ ⟨rfl, rfl⟩
   refine gK 3 [(25, .bool true)] [] ?_
   refine NN ?_
   refine CT ?_
   refine SR ?_
   refine gK 1 [(4, .int .i64 170)] [] ?_
   refine NN (af.ret (aj.aO (aj.av ?_)))
   exact RT (.int .i64 170) [0, 1, 2, 3, 4, 5, 6, 7] (⟨L, by rw [show (bB S c) = (170, S, c) by unfold bB; rw [cD]; exact if_pos ⟨jR, rfl⟩] <;> exact ⟨rfl, rfl⟩⟩)
  ·
   refine gK 5 [(25, .bool false)] [] ?_
   refine NN ?_
   refine CF ?_
   refine SR ?_
   refine gK 4 [(39, .int .i64 (c.mode))] [(3, a_ 6 cb)] ?_
   refine gL [] (dQ (c.mode) 4095) ?_
   rintro _ _ ⟨rfl, rfl⟩
   refine gK 2 [(35, .bool (!(decide (0 ≤ c.mode ∧ c.mode ≤ 4095))))] [] ?_
   refine NN ?_
   refine af.cT (p := 0 ≤ c.mode ∧ c.mode ≤ 4095) (fun _ => by kernel_rfl) (fun jB => ?_) (fun jB => ?_)
   ·
    refine SR ?_
    refine gK 1 [(4, .int .i64 120)] [] ?_
    refine NN (af.ret (aj.aO (aj.av ?_)))
    exact RT (.int .i64 120) [0, 1, 2, 3, 4, 5, 6, 7] (⟨L, by rw [show (bB S c) = (120, S, c) by unfold bB; rw [cD]; exact (if_neg (fun h => absurd h.1 (by rw [jR]; decide))).trans (if_neg jB)] <;> exact ⟨rfl, rfl⟩⟩)
   ·
    refine SR ?_
    refine gK 4 [(46, .int .i64 (c.uid))] [(3, a_ 6 cb)] ?_
    refine gL [] (dQ (c.uid) 2147483647) ?_
    rintro _ _ ⟨rfl, rfl⟩
    refine gK 2 [(49, .bool (!(decide (0 ≤ c.uid ∧ c.uid ≤ 2147483647))))] [] ?_
    refine ah.iN 49 (0 ≤ c.uid ∧ c.uid ≤ 2147483647) (fun _ => by kernel_rfl) (fun pY => ?_) (fun pY => ?_)
    ·
     refine gK 8 [(42, .bool true)] [] ?_
     refine NN ?_
     refine CT ?_
     refine SR ?_
     refine gK 1 [(4, .int .i64 11)] [] ?_
     refine NN (af.ret (aj.aO (aj.av ?_)))
     exact RT (.int .i64 11) [0, 1, 2, 3, 4, 5, 6, 7] (⟨L, by rw [show (bB S c) = (11, S, c) by unfold bB; rw [cD]; exact (if_neg (fun h => absurd h.1 (by rw [jR]; decide))).trans ((if_pos jB).trans (if_neg (fun h => pY h.1)))] <;> exact ⟨rfl, rfl⟩⟩)
    ·
     refine gK 4 [(53, .int .i64 (c.gid))] [(3, a_ 6 cb)] ?_
     refine gL [] (dQ (c.gid) 2147483647) ?_
     rintro _ _ ⟨rfl, rfl⟩
     refine gK 3 [(42, .bool (!(decide (0 ≤ c.gid ∧ c.gid ≤ 2147483647))))] [] ?_
     refine NN ?_
     refine af.cT (p := 0 ≤ c.gid ∧ c.gid ≤ 2147483647) (fun _ => by kernel_rfl) (fun pZ => ?_) (fun pZ => ?_)
     ·
      refine SR ?_
      refine gK 1 [(4, .int .i64 11)] [] ?_
      refine NN (af.ret (aj.aO (aj.av ?_)))
      exact RT (.int .i64 11) [0, 1, 2, 3, 4, 5, 6, 7] (⟨L, by rw [show (bB S c) = (11, S, c) by unfold bB; rw [cD]; exact (if_neg (fun h => absurd h.1 (by rw [jR]; decide))).trans ((if_pos jB).trans (if_neg (fun h => pZ h.2)))] <;> exact ⟨rfl, rfl⟩⟩)
     ·
      refine SR ?_
      refine gK 4 [(61, .agg #[.int .i64 (c.sec), .int .i64 (c.nano)])] [(3, A_ 6 cb 2)] ?_
      refine gL [] (fk c.sec c.nano) ?_
      rintro _ _ ⟨rfl, rfl⟩
      refine gK 2 [(57, .bool (!(decide (cL c.sec c.nano))))] [] ?_
      refine NN ?_
      refine af.cT (p := cL c.sec c.nano) (fun _ => by kernel_rfl) (fun tu => ?_) (fun tu => ?_)
      ·
       refine SR ?_
       refine gK 1 [(4, .int .i64 20)] [] ?_
       refine NN (af.ret (aj.aO (aj.av ?_)))
       exact RT (.int .i64 20) [0, 1, 2, 3, 4, 5, 6, 7] (⟨L, by rw [show (bB S c) = (20, S, c) by unfold bB; rw [cD]; exact (if_neg (fun h => absurd h.1 (by rw [jR]; decide))).trans ((if_pos jB).trans ((if_pos ⟨pY, pZ⟩).trans (if_neg tu)))] <;> exact ⟨rfl, rfl⟩⟩)
      ·
       refine af.skip (aj.aW (NX (af.seq ?_)))
       skip
       ·
        refine af.mem (aK := [.blk f [.int .i64 (S.X.cN), .int .i64 (S.X.cB), .int .i64 (S.X.cH), .int .i64 (S.X.cS), .int .i64 (S.X.cZ), .map (some m), .pointer (some ⟨t, 0, none⟩), .int .i64 (S.X.last), .int .i64 (S.X.ai), .int .i64 (S.X.used)] 89, .abs (aC Tryz.prog 3 m (aN (aJ L S.idx)) S.idx.length), .abs (aZ 143 t S.X.cH S.au (aJ L S.us)), .abs (aq (gP (aS S.O L) tk bJ.none)), .abs (aq (aY S.O L)), .abs (aq (bw S.O L)), .blk cb [.int .i64 (c.op), .int .i64 (c.handle), .int .i64 (c.other), .string c.name, .string c.text, .slice c.dA (c.data.length) (c.dC), .int .i64 (c.mode), .int .i64 (c.uid), .int .i64 (c.gid), .int .i64 (c.sec), .int .i64 (c.nano), .int .i64 (c.code), .int .i64 (c.answer)] 39, .abs R, .blk (L.b tk) [.int .i64 ((obj S.O tk).id), .int .i64 ((obj S.O tk).mode), .int .i64 ((obj S.O tk).uid), .int .i64 ((obj S.O tk).gid), .int .i64 ((obj S.O tk).sec), .int .i64 ((obj S.O tk).nano), .int .i64 ((obj S.O tk).links), .int .i64 ((obj S.O tk).opens), .bool (obj S.O tk).gone, .map (some (L.m tk)), (pP L (obj S.O tk).up)] 101]) (fun w hS => hS.sE (i := 3) (k := tk) rfl (by rw [hkt]; decide) (fW (hkt)) (by rw [hkt]; rfl)) ?_
        refine af.bT (S := [pC cb c]) [0, 1, 2, 3, 4, 5, 6, 7, 8, 9, 10, 11, 12, 13, 14, 15, 16, 17, 18, 19, 20, 21, 22, 23, 24, 25, 26, 27, 28, 29, 30, 31] 22 [6] (by kernel_rfl) (by kernel_rfl) rfl (by kernel_rfl) ?_
        refine aD.reads (r := 0) (l := [22, 23, 24, 25, 26, 27, 28, 29, 30, 31]) (fr' := (FV L tk c ++ kT c ++ [(85, .pointer (some ⟨(L.b tk), 1, none⟩))])) (ak := [cb = cb, cb = cb, cb = cb, cb = cb, cb = cb]) [0, 1, 2, 3, 4, 5, 6, 7, 8, 9, 10, 11, 12, 13, 14, 15, 16, 17, 18, 19, 20, 21] [o_, o_, o_, o_, o_, o_, o_, ⟨[.at 0], none, none, none, none⟩, o_, o_, o_, ⟨[.at 0], none, none, none, none⟩, o_, o_, o_, ⟨[.at 0], none, none, none, none⟩, o_, o_, o_, ⟨[.at 0, .at 0], none, none, none, none⟩, o_, o_] [65, 66, 67, 71, 75, 79, 83, 85] (fun _ => by kernel_rfl) ⟨rfl, rfl, rfl, rfl, rfl, trivial⟩ rfl rfl ?_
        refine mC [6] [] [(0, a_ 8 (L.b tk))] [(8, [(1, .int .i64 (c.mode))])] ?_
        refine aD.cut (ι := Unit) (fr' := fun (_ : Unit) => (xI L tk c ++ kT c ++ [(86, vP (L.b tk))])) (hp' := fun (_ : Unit) => (ju f m t S L tk cb c R ++ [Ls L tk S c])) [6] rfl rfl ?_ rfl (fun _ => by kernel_rfl) ?_
        ·
         refine gK 1 [(86, .pointer (some ⟨(L.b tk), 0, none⟩))] [] ?_
         refine NL ?_
         exact MD () [66, 67, 75, 79, 83, 86] [0, 1, 2, 3, 4, 5, 6, 7, 8]
        rintro _
        refine aD.cut (ι := Unit) (fr' := fun (_ : Unit) => (xI L tk c ++ kT c ++ [(87, .pointer (some ⟨(L.b tk), 2, none⟩))])) (hp' := fun (_ : Unit) => (ju f m t S L tk cb c R ++ [Ls L tk S c])) [6] rfl rfl ?_ rfl (fun _ => by kernel_rfl) ?_
        ·
         refine gK 1 [(87, .pointer (some ⟨(L.b tk), 2, none⟩))] [] ?_
         refine NL ?_
         exact MD () [66, 67, 75, 79, 83, 87] [0, 1, 2, 3, 4, 5, 6, 7, 8]
        rintro _
        refine mC [6] [] [(0, a_ 8 (L.b tk))] [(8, [(2, .int .i64 (c.uid))])] ?_
        refine aD.cut (ι := Unit) (fr' := fun (_ : Unit) => ([(67, vP (L.b tk))] ++ kT c ++ [(88, vP (L.b tk))])) (hp' := fun (_ : Unit) => (ju f m t S L tk cb c R ++ [Lu L tk S c])) [6] rfl rfl ?_ rfl (fun _ => by kernel_rfl) ?_
        ·
         refine gK 1 [(88, .pointer (some ⟨(L.b tk), 0, none⟩))] [] ?_
         refine NL ?_
         exact MD () [67, 79, 83, 88] [0, 1, 2, 3, 4, 5, 6, 7, 8]
        rintro _
        refine aD.cut (ι := Unit) (fr' := fun (_ : Unit) => ([(67, vP (L.b tk))] ++ kT c ++ [(89, .pointer (some ⟨(L.b tk), 3, none⟩))])) (hp' := fun (_ : Unit) => (ju f m t S L tk cb c R ++ [Lu L tk S c])) [6] rfl rfl ?_ rfl (fun _ => by kernel_rfl) ?_
        ·
         refine gK 1 [(89, .pointer (some ⟨(L.b tk), 3, none⟩))] [] ?_
         refine NL ?_
         exact MD () [67, 79, 83, 89] [0, 1, 2, 3, 4, 5, 6, 7, 8]
        rintro _
        refine mC [6] [] [(0, a_ 8 (L.b tk))] [(8, [(3, .int .i64 (c.gid))])] ?_
        refine aD.cut (ι := Unit) (fr' := fun (_ : Unit) => [(83, .agg #[vI (c.sec), vI (c.nano)]), (90, vP (L.b tk))]) (hp' := fun (_ : Unit) => (ju f m t S L tk cb c R ++ [Lv L tk S c])) [6] rfl rfl ?_ rfl (fun _ => by kernel_rfl) ?_
        ·
         refine gK 1 [(90, .pointer (some ⟨(L.b tk), 0, none⟩))] [] ?_
         refine NL ?_
         exact MD () [83, 90] [0, 1, 2, 3, 4, 5, 6, 7, 8]
        rintro _
        refine aD.cut (ι := Unit) (fr' := fun (_ : Unit) => (FW c L tk)) (hp' := fun (_ : Unit) => (ju f m t S L tk cb c R ++ [Lv L tk S c])) [6] rfl rfl ?_ rfl (fun _ => by kernel_rfl) ?_
        ·
         refine gK 1 [(91, .pointer (some ⟨(L.b tk), 4, none⟩))] [] ?_
         refine NL ?_
         exact MD () [83, 91] [0, 1, 2, 3, 4, 5, 6, 7, 8]
        rintro _
        refine aD.last rfl rfl ?_
        refine gC 1 [] [(0, A_ 8 (L.b tk) 2)] [(8, [(4, .int .i64 (c.sec)), (5, .int .i64 (c.nano))])] ?_
        refine NL (aj.np (NX (SR ?_)))
        refine ah.mem (aK := [.abs (aq (aS (aB S.O tk (fun o => { o with mode := c.mode, uid := c.uid, gid := c.gid, sec := c.sec, nano := c.nano })) L)), .blk f [.int .i64 (S.X.cN), .int .i64 (S.X.cB), .int .i64 (S.X.cH), .int .i64 (S.X.cS), .int .i64 (S.X.cZ), .map (some m), .pointer (some ⟨t, 0, none⟩), .int .i64 (S.X.last), .int .i64 (S.X.ai), .int .i64 (S.X.used)] 89, .abs (aC Tryz.prog 3 m (aN (aJ L S.idx)) S.idx.length), .abs (aZ 143 t S.X.cH S.au (aJ L S.us)), .abs (aq (aY (aB S.O tk (fun o => { o with mode := c.mode, uid := c.uid, gid := c.gid, sec := c.sec, nano := c.nano })) L)), .abs (aq (bw (aB S.O tk (fun o => { o with mode := c.mode, uid := c.uid, gid := c.gid, sec := c.sec, nano := c.nano })) L)), .blk cb [.int .i64 (c.op), .int .i64 (c.handle), .int .i64 (c.other), .string c.name, .string c.text, .slice c.dA (c.data.length) (c.dC), .int .i64 (c.mode), .int .i64 (c.uid), .int .i64 (c.gid), .int .i64 (c.sec), .int .i64 (c.nano), .int .i64 (c.code), .int .i64 (c.answer)] 39, .abs R]) (fun w hS => by have h := hS.tV (O := S.O) (L := L) (i := 3) (j := 8) (idx := [0, 1, 2, 4, 5, 6, 7]) (k := tk) (f := (fun o => { o with mode := c.mode, uid := c.uid, gid := c.gid, sec := c.sec, nano := c.nano })) rfl (fun _ hx => kZ hx) rfl (by kernel_rfl) rfl (by show (obj S.O tk).kind ≠ 0; rw [hkt]; decide) ((fW (o := (fun o => { o with mode := c.mode, uid := c.uid, gid := c.gid, sec := c.sec, nano := c.nano }) (obj S.O tk)) (hkt)).trans rfl) (by show kg (obj S.O tk).kind = _; rw [hkt]; rfl); rw [jZ (O := S.O) (k := tk) (f := (fun o => { o with mode := c.mode, uid := c.uid, gid := c.gid, sec := c.sec, nano := c.nano })) rfl rfl, j3 (O := S.O) (k := tk) (f := (fun o => { o with mode := c.mode, uid := c.uid, gid := c.gid, sec := c.sec, nano := c.nano })) rfl rfl]; exact h) ?_
        have xw : (obj (aB S.O tk (fun o => { o with mode := c.mode, uid := c.uid, gid := c.gid, sec := c.sec, nano := c.nano })) tk).kind = 2 := (gE (f := (fun o => { o with mode := c.mode, uid := c.uid, gid := c.gid, sec := c.sec, nano := c.nano })) (fun _ => rfl)).trans (hkt)
        generalize bK : (aB S.O tk (fun o => { o with mode := c.mode, uid := c.uid, gid := c.gid, sec := c.sec, nano := c.nano })) = bF at xw ⊢
        refine gK 1 [(4, .int .i64 0)] [] ?_
        refine NN (af.ret ?_)
        exact RT (l := [pF f m t S.X, pI m L S.idx, jo t S L, pO bF L, pD bF L, pE bF L, pC cb c]) (.int .i64 0) [1, 2, 3, 0, 4, 5, 6, 7] (⟨L, by subst bK; rw [show (bB S c) = (0, { S with O := aB S.O tk (fun o => { o with mode := c.mode, uid := c.uid, gid := c.gid, sec := c.sec, nano := c.nano }) }, c) by unfold bB; rw [cD]; exact (if_neg (fun h => absurd h.1 (by rw [jR]; decide))).trans ((if_pos jB).trans ((if_pos ⟨pY, pZ⟩).trans (if_pos tu)))] <;> exact ⟨rfl, rfl⟩⟩)
set_option maxRecDepth 100000 in
set_option maxHeartbeats 4000000 in
theorem Ap {β : Bs} (S : aH) (L : HL) (f m t : Nat) (hI : Inv S) (cb : Nat) (c : aU) (hC : dR β c) :
    Spec Tryz.prog β 63 #[.pointer (some ⟨f, 0, none⟩), .pointer (some ⟨cb, 0, none⟩)] ((pA f m t L S) ++ [pC cb c]) (fun v l => ∃ L2, v = .int .i64 (dm S c).1 ∧ l = ((pA f m t L2 ((dm S c).2.1)) ++ [.blk cb (fT ((dm S c).2.2)) 39])) := by
 have hX := hI.hX
 refine Spec.enter Tryz.func63 rfl Tryz.ntmps63 (Nat.le_of_ble_eq_true rfl) (fun R => ?_)
 refine SR ?_
 refine gK 1 [] [] ?_
 refine NN (af.seq ?_)
 refine af.bC (by kernel_rfl) (by kernel_rfl) ?_
 refine gQ 9 [(10, .pointer (some ⟨f, 0, none⟩)), (14, .int .i64 (c.handle)), (18, .string c.name)] [(4, a_ 6 cb), (8, a_ 6 cb)] ?_
 rcases jm hI.toInv0 c.handle c.name 192 with ⟨e, hab, hne⟩ | ⟨d, hab, hd, iK, iL, cD⟩
 ·
  refine aI.call (f := 111) (args := #[.pointer (some ⟨f, 0, none⟩), .int .i64 (c.handle), .string c.name, .int .i64 192]) (d := (some 19)) (pre := [pF f m t S.X, jo t S L, pO S.O L]) (R := (lq m L S cb c R)) (pk := [0, 2, 3, 1, 4, 5, 6, 7]) (fN := [0, 3, 1, 2, 4, 5, 6, 7]) (v0 := .tuple #[.pointer none, .int .i64 (e)]) (fun _ => by kernel_rfl) ((by have h := cX S L f m t hI c.handle hC.hw c.name hC.nm 192 (β := β); rw [hab] at h; exact h)) rfl (by kernel_rfl) rfl (by kernel_rfl) (fun _ _ h => h) ?_
  refine gQ 5 [(5, .pointer none), (6, .int .i64 (e))] [] ?_
  refine NQ (NX (af.seq (SR ?_)))
  refine gK 2 [(23, .bool (!(decide ((e : Int) = (0 : Int)))))] [] ?_
  refine NN ?_
  refine af.cT (p := (e : Int) = (0 : Int)) (fun _ => by kernel_rfl) (fun h23 => ?_) (fun h23 => ?_)
  ·
   refine SR ?_
   refine gK 2 [(4, .int .i64 (e))] [] ?_
   refine NN (af.ret (aj.av ?_))
   exact RT (.int .i64 (e)) [0, 1, 2, 3, 4, 5, 6, 7] (⟨L, by rw [show (dm S c) = (e, S, c) by unfold dm; rw [hab]] <;> exact ⟨rfl, rfl⟩⟩)
  ·
   exact absurd h23 hne
 ·
  have hkd : (obj S.O d).kind = 2 := hI.kind hd
  refine aI.call (f := 111) (args := #[.pointer (some ⟨f, 0, none⟩), .int .i64 (c.handle), .string c.name, .int .i64 192]) (d := (some 19)) (pre := [pF f m t S.X, jo t S L, pO S.O L]) (R := (lq m L S cb c R)) (pk := [0, 2, 3, 1, 4, 5, 6, 7]) (fN := [0, 3, 1, 2, 4, 5, 6, 7]) (v0 := .tuple #[.pointer (some ⟨(L.b d), 0, none⟩), .int .i64 0]) (fun _ => by kernel_rfl) ((by have h := cX S L f m t hI c.handle hC.hw c.name hC.nm 192 (β := β); rw [hab] at h; exact h)) rfl (by kernel_rfl) rfl (by kernel_rfl) (fun _ _ h => h) ?_
  refine gQ 5 (Aj L d) [] ?_
  refine NQ (NX (af.seq (SR ?_)))
  refine gK 2 [(23, .bool false)] [] ?_
  refine NN ?_
  refine CF ?_
  refine af.skip (NX (af.seq (SR ?_)))
  refine gK 4 [(28, .int .i64 (c.mode))] [(3, a_ 6 cb)] ?_
  refine gL [] (dQ (c.mode) 4095) ?_
  rintro _ _ ⟨rfl, rfl⟩
  refine gK 1 [(30, .bool (!(decide (0 ≤ c.mode ∧ c.mode ≤ 4095))))] [] ?_
  refine NN ?_
  refine af.cT (p := 0 ≤ c.mode ∧ c.mode ≤ 4095) (fun _ => by kernel_rfl) (fun jR => ?_) (fun jR => ?_)
  ·
   refine SR ?_
   refine gK 1 [(4, .int .i64 120)] [] ?_
   refine NN (af.ret (aj.av ?_))
   exact RT (.int .i64 120) [0, 1, 2, 3, 4, 5, 6, 7] (⟨L, by rw [show (dm S c) = (120, S, c) by unfold dm; rw [hab]; exact if_neg jR] <;> exact ⟨rfl, rfl⟩⟩)
  ·
   refine af.skip (NX (af.seq (SR ?_)))
   refine gK 6 [(31, .pointer (some ⟨f, 0, none⟩)), (32, .pointer (some ⟨(L.b d), 0, none⟩)), (36, .string c.name)] [(5, a_ 6 cb)] ?_
   refine gL [0, 1, 5, 3] (sV S L f m t hI d hd c.name hC.nm) ?_
   rintro _ _ ⟨rfl, rfl⟩
   refine gK 1 [(6, .int .i64 ((bY S.X S.O S.idx d c.name)))] [] ?_
   refine NS ?_
   refine gK 2 [(39, .bool (!(decide (((bY S.X S.O S.idx d c.name) : Int) = (0 : Int)))))] [] ?_
   refine NN ?_
   refine af.cT (p := ((bY S.X S.O S.idx d c.name) : Int) = (0 : Int)) (fun _ => by kernel_rfl) (fun h0 => ?_) (fun h0 => ?_)
   ·
    refine SR ?_
    refine gK 2 [(4, .int .i64 ((bY S.X S.O S.idx d c.name)))] [] ?_
    refine NN (af.ret (aj.av ?_))
    exact RT (.int .i64 ((bY S.X S.O S.idx d c.name))) [0, 1, 4, 3, 5, 2, 6, 7] (⟨L, by rw [show (dm S c) = (bY S.X S.O S.idx d c.name, S, c) by unfold dm; rw [hab]; exact (if_pos jR).trans (if_neg h0)] <;> exact ⟨rfl, rfl⟩⟩)
   ·
    have hno := nu h0
    refine af.skip (NX (SR ?_))
    refine gN 8 (fun b4 => [(7, .pointer (some ⟨b4, 0, none⟩))]) (fun b4 => [(3, a_ 6 cb)]) (fun _ => []) (fun b4 => .blk b4 [.int .i64 0, .int .i64 (c.mode), .int .i64 0, .int .i64 0, .int .i64 0, .int .i64 0, .int .i64 0, .int .i64 0, .bool false, .slice none (0) (0)] 94) (fun b4 => ?_)
    refine NN (af.seq (af.seq ?_))
    rcases Int.lt_or_le (S.us.length : Int) S.X.cH with pW | pW
    ·
     refine af.region ?_
     refine gK 4 (JM cb f b4) [] ?_
     obtain ⟨L2, hL2⟩ : ∃ L2 : HL, L2 = L.put (aE S.X) b4 0 none 0 := ⟨_, rfl⟩
     have hfr := hI.toInv0.fresh
     refine ah.mem (aK := [.abs (aq (aS (aB S.O (aE S.X) (fun _ => (⟨0, c.mode, 0, 0, 0, 0, 0, 0, false, 1, [], ⟨#[]⟩, [], none⟩ : aM))) L2)), .blk f [.int .i64 (S.X.cN), .int .i64 (S.X.cB), .int .i64 (S.X.cH), .int .i64 (S.X.cS), .int .i64 (S.X.cZ), .map (some m), .pointer (some ⟨t, 0, none⟩), .int .i64 (S.X.last), .int .i64 (S.X.ai), .int .i64 (S.X.used)] 89, .abs (aC Tryz.prog 3 m (aN (aJ L S.idx)) S.idx.length), .abs (aq (bw S.O L)), .abs (aZ 143 t S.X.cH S.au (aJ L S.us)), .abs (aq (aY S.O L)), .blk cb [.int .i64 (c.op), .int .i64 (c.handle), .int .i64 (c.other), .string c.name, .string c.text, .slice c.dA (c.data.length) (c.dC), .int .i64 (c.mode), .int .i64 (c.uid), .int .i64 (c.gid), .int .i64 (c.sec), .int .i64 (c.nano), .int .i64 (c.code), .int .i64 (c.answer)] 39, .abs R]) (fun w hS => hS.q9 hL2 hfr (o := (⟨0, c.mode, 0, 0, 0, 0, 0, 0, false, 1, [], ⟨#[]⟩, [], none⟩ : aM)) (i := 3) (j := 8) (ix := [0, 1, 2, 4, 5, 6, 7]) rfl rfl (by kernel_rfl) rfl (by show (1 : Int) ≠ 0; decide) ((ef (L := L2) (k := (aE S.X)) (o := (⟨0, c.mode, 0, 0, 0, 0, 0, 0, false, 1, [], ⟨#[]⟩, [], none⟩ : aM)) rfl).trans (by rw [show L2.dA (aE S.X) = none by rw [hL2]; exact if_pos rfl, show L2.dC (aE S.X) = 0 by rw [hL2]; exact if_pos rfl]; rfl)) rfl) ?_
     refine ah.mem (aK := (xJ S c L2 f m t L ++ [pD S.O L, pC cb c, .abs R])) (fun w hS => hS.sY hL2 hfr (o := (⟨0, c.mode, 0, 0, 0, 0, 0, 0, false, 1, [], ⟨#[]⟩, [], none⟩ : aM)) (i := 3) rfl (by show (1 : Int) ≠ 2; decide)) ?_
     refine ah.mem (aK := (xJ S c L2 f m t L ++ [pD S.O L, pC cb c, .abs R, .abs (aF 5 1 none 0 0 ([]))])) (fun w hS => hS.jJ (e := 5) (size := 1)) ?_
     refine ah.mem (aK := ([JL S c L2] ++ xJ S c L2 f m t L ++ [pC cb c, .abs R])) (fun w hS => hS.GP hL2 (o := (⟨0, c.mode, 0, 0, 0, 0, 0, 0, false, 1, [], ⟨#[]⟩, [], none⟩ : aM)) (i := 5) (j := 8) (ix := [0, 1, 2, 3, 4, 6, 7]) rfl rfl (by kernel_rfl) rfl rfl rfl) ?_
     refine ah.mem (aK := [.abs (aq (aY (aB S.O (aE S.X) (fun _ => (⟨0, c.mode, 0, 0, 0, 0, 0, 0, false, 1, [], ⟨#[]⟩, [], none⟩ : aM))) L2)), .abs (aq (aS (aB S.O (aE S.X) (fun _ => (⟨0, c.mode, 0, 0, 0, 0, 0, 0, false, 1, [], ⟨#[]⟩, [], none⟩ : aM))) L2)), .blk f [.int .i64 (S.X.cN), .int .i64 (S.X.cB), .int .i64 (S.X.cH), .int .i64 (S.X.cS), .int .i64 (S.X.cZ), .map (some m), .pointer (some ⟨t, 0, none⟩), .int .i64 (S.X.last), .int .i64 (S.X.ai), .int .i64 (S.X.used)] 89, .abs (aC Tryz.prog 3 m (aN (aJ L2 S.idx)) S.idx.length), .abs (aq (bw (aB S.O (aE S.X) (fun _ => (⟨0, c.mode, 0, 0, 0, 0, 0, 0, false, 1, [], ⟨#[]⟩, [], none⟩ : aM))) L2)), .abs (aZ 143 t S.X.cH S.au (aJ L2 S.us)), .blk cb [.int .i64 (c.op), .int .i64 (c.handle), .int .i64 (c.other), .string c.name, .string c.text, .slice c.dA (c.data.length) (c.dC), .int .i64 (c.mode), .int .i64 (c.uid), .int .i64 (c.gid), .int .i64 (c.sec), .int .i64 (c.nano), .int .i64 (c.code), .int .i64 (c.answer)] 39, .abs R]) (fun w hS => by rw [eZ hL2 hfr.idx, eZ hL2 hfr.us]; exact hS) ?_
     refine gL (f := 109) (args := #[.pointer (some ⟨f, 0, none⟩), .iface 92 (.pointer (some ⟨b4, 0, none⟩))]) (pre := [pF f m t S.X, jo t S L2, JK S c L2]) [2, 5, 1] ((by have h := oQ (β := β) { S with O := (aB S.O (aE S.X) (fun _ => (⟨0, c.mode, 0, 0, 0, 0, 0, 0, false, 1, [], ⟨#[]⟩, [], none⟩ : aM))) } L2 f m t ⟨(aE S.X), 1⟩ (by show (obj (aB S.O (aE S.X) (fun _ => (⟨0, c.mode, 0, 0, 0, 0, 0, 0, false, 1, [], ⟨#[]⟩, [], none⟩ : aM))) (aE S.X)).kind = 1; rw [bA]) (by simp) (by show 0 ≤ (obj (aB S.O (aE S.X) (fun _ => (⟨0, c.mode, 0, 0, 0, 0, 0, 0, false, 1, [], ⟨#[]⟩, [], none⟩ : aM))) (aE S.X)).opens ∧ (obj (aB S.O (aE S.X) (fun _ => (⟨0, c.mode, 0, 0, 0, 0, 0, 0, false, 1, [], ⟨#[]⟩, [], none⟩ : aM))) (aE S.X)).opens ≤ 1048576; rw [bA]; exact ⟨Int.le_refl _, by show (0 : Int) ≤ 1048576; decide⟩); rw [mB hL2, gy (S := { S with O := (aB S.O (aE S.X) (fun _ => (⟨0, c.mode, 0, 0, 0, 0, 0, 0, false, 1, [], ⟨#[]⟩, [], none⟩ : aM))) }) (t := ⟨(aE S.X), 1⟩) pW] at h; exact h)) ?_
     rintro _ _ ⟨rfl, rfl⟩
     refine gC 7 [(6, .int .i64 0)] [(5, a_ 6 cb)] [(6, [(12, .int .i64 ((TabM.least S.us)))])] ?_
     refine NS ?_
     refine gK 2 [(59, .bool false)] [] ?_
     refine NN ?_
     refine CF ?_
     refine af.skip (NX (SR ?_))
     refine ah.slot 7 (.pointer (some ⟨b4, 0, none⟩)) (.pointer (some ⟨(L2.b (aE S.X)), 0, none⟩)) (fun _ => by kernel_rfl) (by rw [zV hL2]) ?_
     refine ah.mem (aK := [.blk f [.int .i64 (S.X.cN), .int .i64 (S.X.cB), .int .i64 (S.X.cH), .int .i64 (S.X.cS), .int .i64 (S.X.cZ), .map (some m), .pointer (some ⟨t, 0, none⟩), .int .i64 (S.X.last), .int .i64 (S.X.ai), .int .i64 (S.X.used)] 89, .abs (aZ 143 t S.X.cH (max S.au ((S.us.length : Int) + 1)) (aJ L2 (ins (TabM.least S.us) ⟨(aE S.X), 1⟩ S.us))), .abs (aq (aS (aB (aB S.O (aE S.X) (fun _ => (⟨0, c.mode, 0, 0, 0, 0, 0, 0, false, 1, [], ⟨#[]⟩, [], none⟩ : aM))) (aE S.X) (fun o => { o with opens := o.opens + 1 })) L2)), .abs (aq (aY (aB (aB S.O (aE S.X) (fun _ => (⟨0, c.mode, 0, 0, 0, 0, 0, 0, false, 1, [], ⟨#[]⟩, [], none⟩ : aM))) (aE S.X) (fun o => { o with opens := o.opens + 1 })) L2)), .abs (aC Tryz.prog 3 m (aN (aJ L2 S.idx)) S.idx.length), .abs (aq (bw (aB (aB S.O (aE S.X) (fun _ => (⟨0, c.mode, 0, 0, 0, 0, 0, 0, false, 1, [], ⟨#[]⟩, [], none⟩ : aM))) (aE S.X) (fun o => { o with opens := o.opens + 1 })) L2)), .blk cb [.int .i64 (c.op), .int .i64 (c.handle), .int .i64 (c.other), .string c.name, .string c.text, .slice c.dA (c.data.length) (c.dC), .int .i64 (c.mode), .int .i64 (c.uid), .int .i64 (c.gid), .int .i64 (c.sec), .int .i64 (c.nano), .int .i64 (c.code), .int .i64 ((TabM.least S.us))] 39, .abs R]) (fun w hS => by rw [jZ (O := (aB S.O (aE S.X) (fun _ => (⟨0, c.mode, 0, 0, 0, 0, 0, 0, false, 1, [], ⟨#[]⟩, [], none⟩ : aM)))) (k := (aE S.X)) (f := (fun o => { o with opens := o.opens + 1 })) rfl rfl, j3 (O := (aB S.O (aE S.X) (fun _ => (⟨0, c.mode, 0, 0, 0, 0, 0, 0, false, 1, [], ⟨#[]⟩, [], none⟩ : aM)))) (k := (aE S.X)) (f := (fun o => { o with opens := o.opens + 1 })) rfl rfl]; exact hS) ?_
     have hkN : (obj (aB (aB S.O (aE S.X) (fun _ => (⟨0, c.mode, 0, 0, 0, 0, 0, 0, false, 1, [], ⟨#[]⟩, [], none⟩ : aM))) (aE S.X) (fun o => { o with opens := o.opens + 1 })) (aE S.X)).kind = 1 := by rw [bA, bA]
     have Lw : (obj (aB (aB S.O (aE S.X) (fun _ => (⟨0, c.mode, 0, 0, 0, 0, 0, 0, false, 1, [], ⟨#[]⟩, [], none⟩ : aM))) (aE S.X) (fun o => { o with opens := o.opens + 1 })) (aE S.X)).opens = 1 := by rw [bA, bA]; rfl
     generalize bK : (aB (aB S.O (aE S.X) (fun _ => (⟨0, c.mode, 0, 0, 0, 0, 0, 0, false, 1, [], ⟨#[]⟩, [], none⟩ : aM))) (aE S.X) (fun o => { o with opens := o.opens + 1 })) = bF at hkN Lw ⊢
     refine gK 6 [(8, .int .i64 ((obj bF (aE S.X)).opens))] [(4, v_ 2 (gX L2 hkN))] ?_
     refine NS ?_
     refine gK 6 [(66, .pointer (some ⟨(L2.b (aE S.X)), 0, none⟩)), (67, .pointer (some ⟨f, 0, none⟩)), (71, .int .i64 (c.mode))] [(5, a_ 6 cb)] ?_
     refine gL [0] (sN S.X f m t hX c.mode) ?_
     rintro _ _ ⟨rfl, rfl⟩
     refine gK 2 [(74, .pointer (some ⟨(L2.b (aE S.X)), 0, none⟩))] [] ?_
     refine ah.mem (aK := [.blk f [.int .i64 (S.X.cN), .int .i64 (S.X.cB), .int .i64 (S.X.cH), .int .i64 (S.X.cS), .int .i64 (S.X.cZ), .map (some m), .pointer (some ⟨t, 0, none⟩), .int .i64 (S.X.last + 1), .int .i64 (S.X.ai), .int .i64 (S.X.used)] 89, .abs (aZ 143 t S.X.cH (max S.au ((S.us.length : Int) + 1)) (aJ L2 (ins (TabM.least S.us) ⟨(aE S.X), 1⟩ S.us))), .abs (aq (gP (aS bF L2) (aE S.X) bJ.none)), .abs (aq (aY bF L2)), .abs (aC Tryz.prog 3 m (aN (aJ L2 S.idx)) S.idx.length), .abs (aq (bw bF L2)), .blk cb [.int .i64 (c.op), .int .i64 (c.handle), .int .i64 (c.other), .string c.name, .string c.text, .slice c.dA (c.data.length) (c.dC), .int .i64 (c.mode), .int .i64 (c.uid), .int .i64 (c.gid), .int .i64 (c.sec), .int .i64 (c.nano), .int .i64 (c.code), .int .i64 ((TabM.least S.us))] 39, .abs R, .blk (L2.b (aE S.X)) [.int .i64 ((obj bF (aE S.X)).id), .int .i64 ((obj bF (aE S.X)).mode), .int .i64 ((obj bF (aE S.X)).uid), .int .i64 ((obj bF (aE S.X)).gid), .int .i64 ((obj bF (aE S.X)).sec), .int .i64 ((obj bF (aE S.X)).nano), .int .i64 ((obj bF (aE S.X)).links), .int .i64 ((obj bF (aE S.X)).opens), .bool (obj bF (aE S.X)).gone, .slice (L2.dA (aE S.X)) ((obj bF (aE S.X)).data.length) ((L2.dC (aE S.X)))] 94]) (fun w hS => hS.sE (i := 2) (k := (aE S.X)) rfl (by rw [hkN]; decide) (ef (hkN)) (by rw [hkN]; rfl)) ?_
     refine gC 1 [] [(0, A_ 8 (L2.b (aE S.X)) 9)] [(8, [(0, .int .i64 (S.X.last + 1)), (1, .int .i64 (c.mode)), (2, .int .i64 0), (3, .int .i64 0), (4, .int .i64 (S.X.cS)), (5, .int .i64 (S.X.cZ)), (6, .int .i64 0), (7, .int .i64 0), (8, .bool false)])] ?_
     refine ah.mem (aK := [.abs (aq (aS (aB bF (aE S.X) (fun o => { o with id := S.X.last + 1, mode := c.mode, uid := 0, gid := 0, sec := S.X.cS, nano := S.X.cZ, links := 0, opens := 0, gone := false })) L2)), .blk f [.int .i64 (S.X.cN), .int .i64 (S.X.cB), .int .i64 (S.X.cH), .int .i64 (S.X.cS), .int .i64 (S.X.cZ), .map (some m), .pointer (some ⟨t, 0, none⟩), .int .i64 (S.X.last + 1), .int .i64 (S.X.ai), .int .i64 (S.X.used)] 89, .abs (aZ 143 t S.X.cH (max S.au ((S.us.length : Int) + 1)) (aJ L2 (ins (TabM.least S.us) ⟨(aE S.X), 1⟩ S.us))), .abs (aq (aY (aB bF (aE S.X) (fun o => { o with id := S.X.last + 1, mode := c.mode, uid := 0, gid := 0, sec := S.X.cS, nano := S.X.cZ, links := 0, opens := 0, gone := false })) L2)), .abs (aC Tryz.prog 3 m (aN (aJ L2 S.idx)) S.idx.length), .abs (aq (bw (aB bF (aE S.X) (fun o => { o with id := S.X.last + 1, mode := c.mode, uid := 0, gid := 0, sec := S.X.cS, nano := S.X.cZ, links := 0, opens := 0, gone := false })) L2)), .blk cb [.int .i64 (c.op), .int .i64 (c.handle), .int .i64 (c.other), .string c.name, .string c.text, .slice c.dA (c.data.length) (c.dC), .int .i64 (c.mode), .int .i64 (c.uid), .int .i64 (c.gid), .int .i64 (c.sec), .int .i64 (c.nano), .int .i64 (c.code), .int .i64 ((TabM.least S.us))] 39, .abs R]) (fun w hS => by have h := hS.tV (O := bF) (L := L2) (i := 2) (j := 8) (idx := [0, 1, 3, 4, 5, 6, 7]) (k := (aE S.X)) (f := (fun o => { o with id := S.X.last + 1, mode := c.mode, uid := 0, gid := 0, sec := S.X.cS, nano := S.X.cZ, links := 0, opens := 0, gone := false })) rfl (fun _ hx => kZ hx) rfl (by kernel_rfl) rfl (by show (obj bF (aE S.X)).kind ≠ 0; rw [hkN]; decide) ((ef (o := (fun o => { o with id := S.X.last + 1, mode := c.mode, uid := 0, gid := 0, sec := S.X.cS, nano := S.X.cZ, links := 0, opens := 0, gone := false }) (obj bF (aE S.X))) (hkN)).trans rfl) (by show kg (obj bF (aE S.X)).kind = _; rw [hkN]; rfl); rw [jZ (O := bF) (k := (aE S.X)) (f := (fun o => { o with id := S.X.last + 1, mode := c.mode, uid := 0, gid := 0, sec := S.X.cS, nano := S.X.cZ, links := 0, opens := 0, gone := false })) rfl rfl, j3 (O := bF) (k := (aE S.X)) (f := (fun o => { o with id := S.X.last + 1, mode := c.mode, uid := 0, gid := 0, sec := S.X.cS, nano := S.X.cZ, links := 0, opens := 0, gone := false })) rfl rfl]; exact h) ?_
     have sG : (obj (aB bF (aE S.X) (fun o => { o with id := S.X.last + 1, mode := c.mode, uid := 0, gid := 0, sec := S.X.cS, nano := S.X.cZ, links := 0, opens := 0, gone := false })) (aE S.X)).kind = 1 := (gE (f := (fun o => { o with id := S.X.last + 1, mode := c.mode, uid := 0, gid := 0, sec := S.X.cS, nano := S.X.cZ, links := 0, opens := 0, gone := false })) (fun _ => rfl)).trans (hkN)
     generalize cq : (aB bF (aE S.X) (fun o => { o with id := S.X.last + 1, mode := c.mode, uid := 0, gid := 0, sec := S.X.cS, nano := S.X.cZ, links := 0, opens := 0, gone := false })) = cU at sG ⊢
     refine NS ?_
     refine gK 5 [(76, .int .i64 ((obj bF (aE S.X)).opens)), (79, .pointer (some ⟨(L2.b (aE S.X)), 7, none⟩))] [] ?_
     refine oK 0 [(5, 1), (3, 2)] (aE S.X) 7 (fun o => { o with opens := (obj bF (aE S.X)).opens }) sG (fun qD jt => ?_)
     have Fa := ku jt sG
     refine NS ?_
     have hfin : qD = aB S.O (aE S.X) (fun _ => { aQ S.X 1 c.mode with opens := 1 }) := by subst jt; subst cq; rw [Lw]; subst bK; simp only [pK]; rfl
     subst hfin
     show ah _ _ _ _ _ _ [pO (aB S.O (aE S.X) (fun _ => { aQ S.X 1 c.mode with opens := 1 })) L2, wm f m t S, pT t S.X.cH (max S.au ((S.us.length : Int) + 1)) L2 (ins (TabM.least S.us) ⟨(aE S.X), 1⟩ S.us), pD (aB S.O (aE S.X) (fun _ => { aQ S.X 1 c.mode with opens := 1 })) L2, pI m L2 S.idx, pE (aB S.O (aE S.X) (fun _ => { aQ S.X 1 c.mode with opens := 1 })) L2, pC cb { c with answer := TabM.least S.us }, .abs R] _
     refine gK 8 [(80, .pointer (some ⟨f, 0, none⟩)), (81, .pointer (some ⟨(L.b d), 0, none⟩)), (85, .string c.name), (87, .iface 92 (.pointer (some ⟨(L2.b (aE S.X)), 0, none⟩)))] [(5, a_ 6 cb)] ?_
     refine gL (f := 115) (args := #[.pointer (some ⟨f, 0, none⟩), .pointer (some ⟨(L.b d), 0, none⟩), .string c.name, .iface 92 (.pointer (some ⟨(L2.b (aE S.X)), 0, none⟩))]) (pre := [wm f m t S, pI m L2 S.idx, pO (aB S.O (aE S.X) (fun _ => { aQ S.X 1 c.mode with opens := 1 })) L2, pE (aB S.O (aE S.X) (fun _ => { aQ S.X 1 c.mode with opens := 1 })) L2]) [1, 4, 0, 5] ((by have h := rf (β := β) S L2 f m t hI.toInv0 d hd c.name hC.nm hno { aQ S.X 1 c.mode with opens := 1 } rfl (by simp [aQ]) rfl (qj h0); rw [t7 hL2 (hI.sW hd)] at h; exact h)) ?_
     rintro _ _ ⟨rfl, rfl⟩
     refine NS ?_
     refine ah.mem (aK := [.blk f [.int .i64 ((ct S d c.name { aQ S.X 1 c.mode with opens := 1 }).X.cN), .int .i64 ((ct S d c.name { aQ S.X 1 c.mode with opens := 1 }).X.cB), .int .i64 ((ct S d c.name { aQ S.X 1 c.mode with opens := 1 }).X.cH), .int .i64 ((ct S d c.name { aQ S.X 1 c.mode with opens := 1 }).X.cS), .int .i64 ((ct S d c.name { aQ S.X 1 c.mode with opens := 1 }).X.cZ), .map (some m), .pointer (some ⟨t, 0, none⟩), .int .i64 ((ct S d c.name { aQ S.X 1 c.mode with opens := 1 }).X.last), .int .i64 ((ct S d c.name { aQ S.X 1 c.mode with opens := 1 }).X.ai), .int .i64 ((ct S d c.name { aQ S.X 1 c.mode with opens := 1 }).X.used)] 89, .abs (aC Tryz.prog 3 m (aN (aJ L2 (ct S d c.name { aQ S.X 1 c.mode with opens := 1 }).idx)) ((ct S d c.name { aQ S.X 1 c.mode with opens := 1 }).idx.length)), .abs (aq (aS ((ct S d c.name { aQ S.X 1 c.mode with opens := 1 }).O) L2)), .abs (aq (bw ((ct S d c.name { aQ S.X 1 c.mode with opens := 1 }).O) L2)), .abs (aZ 143 t S.X.cH (max S.au ((S.us.length : Int) + 1)) (aJ L2 (ins (TabM.least S.us) ⟨(aE S.X), 1⟩ S.us))), .abs (aq (aY ((ct S d c.name { aQ S.X 1 c.mode with opens := 1 }).O) L2)), .blk cb [.int .i64 (c.op), .int .i64 (c.handle), .int .i64 (c.other), .string c.name, .string c.text, .slice c.dA (c.data.length) (c.dC), .int .i64 (c.mode), .int .i64 (c.uid), .int .i64 (c.gid), .int .i64 (c.sec), .int .i64 (c.nano), .int .i64 (c.code), .int .i64 ((TabM.least S.us))] 39, .abs R]) (fun w hS => by rw [show aY ((ct S d c.name { aQ S.X 1 c.mode with opens := 1 }).O) L2 = aY (aB S.O (aE S.X) (fun _ => { aQ S.X 1 c.mode with opens := 1 })) L2 from fw]; exact hS) ?_
     refine gK 1 [(4, .int .i64 0)] [] ?_
     refine NN (af.ret ?_)
     exact RT (.int .i64 0) [0, 1, 4, 2, 5, 3, 6, 7] (⟨L2, by rw [show (dm S c) = (0, (ct { S with us := (ins (TabM.least S.us) ⟨(aE S.X), 1⟩ S.us), au := (max S.au ((S.us.length : Int) + 1)) } d c.name { aQ S.X 1 c.mode with opens := 1 }), { c with answer := TabM.least S.us }) by unfold dm; rw [hab]; exact (if_pos jR).trans ((if_pos h0).trans (by rw [show createM S d c.name c.mode = (TabM.least S.us, 0, (ct { S with us := (ins (TabM.least S.us) ⟨(aE S.X), 1⟩ S.us), au := (max S.au ((S.us.length : Int) + 1)) } d c.name { aQ S.X 1 c.mode with opens := 1 })) from (if_pos h0).trans (if_pos pW)]))] <;> exact ⟨rfl, rfl⟩⟩)
    ·
     refine af.region ?_
     refine gK 4 (JM cb f b4) [] ?_
     obtain ⟨L2, hL2⟩ : ∃ L2 : HL, L2 = L.put (aE S.X) b4 0 none 0 := ⟨_, rfl⟩
     have hfr := hI.toInv0.fresh
     refine ah.mem (aK := [.abs (aq (aS (aB S.O (aE S.X) (fun _ => (⟨0, c.mode, 0, 0, 0, 0, 0, 0, false, 1, [], ⟨#[]⟩, [], none⟩ : aM))) L2)), .blk f [.int .i64 (S.X.cN), .int .i64 (S.X.cB), .int .i64 (S.X.cH), .int .i64 (S.X.cS), .int .i64 (S.X.cZ), .map (some m), .pointer (some ⟨t, 0, none⟩), .int .i64 (S.X.last), .int .i64 (S.X.ai), .int .i64 (S.X.used)] 89, .abs (aC Tryz.prog 3 m (aN (aJ L S.idx)) S.idx.length), .abs (aq (bw S.O L)), .abs (aZ 143 t S.X.cH S.au (aJ L S.us)), .abs (aq (aY S.O L)), .blk cb [.int .i64 (c.op), .int .i64 (c.handle), .int .i64 (c.other), .string c.name, .string c.text, .slice c.dA (c.data.length) (c.dC), .int .i64 (c.mode), .int .i64 (c.uid), .int .i64 (c.gid), .int .i64 (c.sec), .int .i64 (c.nano), .int .i64 (c.code), .int .i64 (c.answer)] 39, .abs R]) (fun w hS => hS.q9 hL2 hfr (o := (⟨0, c.mode, 0, 0, 0, 0, 0, 0, false, 1, [], ⟨#[]⟩, [], none⟩ : aM)) (i := 3) (j := 8) (ix := [0, 1, 2, 4, 5, 6, 7]) rfl rfl (by kernel_rfl) rfl (by show (1 : Int) ≠ 0; decide) ((ef (L := L2) (k := (aE S.X)) (o := (⟨0, c.mode, 0, 0, 0, 0, 0, 0, false, 1, [], ⟨#[]⟩, [], none⟩ : aM)) rfl).trans (by rw [show L2.dA (aE S.X) = none by rw [hL2]; exact if_pos rfl, show L2.dC (aE S.X) = 0 by rw [hL2]; exact if_pos rfl]; rfl)) rfl) ?_
     refine ah.mem (aK := (xJ S c L2 f m t L ++ [pD S.O L, pC cb c, .abs R])) (fun w hS => hS.sY hL2 hfr (o := (⟨0, c.mode, 0, 0, 0, 0, 0, 0, false, 1, [], ⟨#[]⟩, [], none⟩ : aM)) (i := 3) rfl (by show (1 : Int) ≠ 2; decide)) ?_
     refine ah.mem (aK := (xJ S c L2 f m t L ++ [pD S.O L, pC cb c, .abs R, .abs (aF 5 1 none 0 0 ([]))])) (fun w hS => hS.jJ (e := 5) (size := 1)) ?_
     refine ah.mem (aK := ([JL S c L2] ++ xJ S c L2 f m t L ++ [pC cb c, .abs R])) (fun w hS => hS.GP hL2 (o := (⟨0, c.mode, 0, 0, 0, 0, 0, 0, false, 1, [], ⟨#[]⟩, [], none⟩ : aM)) (i := 5) (j := 8) (ix := [0, 1, 2, 3, 4, 6, 7]) rfl rfl (by kernel_rfl) rfl rfl rfl) ?_
     refine ah.mem (aK := [.abs (aq (aY (aB S.O (aE S.X) (fun _ => (⟨0, c.mode, 0, 0, 0, 0, 0, 0, false, 1, [], ⟨#[]⟩, [], none⟩ : aM))) L2)), .abs (aq (aS (aB S.O (aE S.X) (fun _ => (⟨0, c.mode, 0, 0, 0, 0, 0, 0, false, 1, [], ⟨#[]⟩, [], none⟩ : aM))) L2)), .blk f [.int .i64 (S.X.cN), .int .i64 (S.X.cB), .int .i64 (S.X.cH), .int .i64 (S.X.cS), .int .i64 (S.X.cZ), .map (some m), .pointer (some ⟨t, 0, none⟩), .int .i64 (S.X.last), .int .i64 (S.X.ai), .int .i64 (S.X.used)] 89, .abs (aC Tryz.prog 3 m (aN (aJ L2 S.idx)) S.idx.length), .abs (aq (bw (aB S.O (aE S.X) (fun _ => (⟨0, c.mode, 0, 0, 0, 0, 0, 0, false, 1, [], ⟨#[]⟩, [], none⟩ : aM))) L2)), .abs (aZ 143 t S.X.cH S.au (aJ L2 S.us)), .blk cb [.int .i64 (c.op), .int .i64 (c.handle), .int .i64 (c.other), .string c.name, .string c.text, .slice c.dA (c.data.length) (c.dC), .int .i64 (c.mode), .int .i64 (c.uid), .int .i64 (c.gid), .int .i64 (c.sec), .int .i64 (c.nano), .int .i64 (c.code), .int .i64 (c.answer)] 39, .abs R]) (fun w hS => by rw [eZ hL2 hfr.idx, eZ hL2 hfr.us]; exact hS) ?_
     refine gL (f := 109) (args := #[.pointer (some ⟨f, 0, none⟩), .iface 92 (.pointer (some ⟨b4, 0, none⟩))]) (pre := [pF f m t S.X, jo t S L2, JK S c L2]) [2, 5, 1] ((by have h := oQ (β := β) { S with O := (aB S.O (aE S.X) (fun _ => (⟨0, c.mode, 0, 0, 0, 0, 0, 0, false, 1, [], ⟨#[]⟩, [], none⟩ : aM))) } L2 f m t ⟨(aE S.X), 1⟩ (by show (obj (aB S.O (aE S.X) (fun _ => (⟨0, c.mode, 0, 0, 0, 0, 0, 0, false, 1, [], ⟨#[]⟩, [], none⟩ : aM))) (aE S.X)).kind = 1; rw [bA]) (by simp) (by show 0 ≤ (obj (aB S.O (aE S.X) (fun _ => (⟨0, c.mode, 0, 0, 0, 0, 0, 0, false, 1, [], ⟨#[]⟩, [], none⟩ : aM))) (aE S.X)).opens ∧ (obj (aB S.O (aE S.X) (fun _ => (⟨0, c.mode, 0, 0, 0, 0, 0, 0, false, 1, [], ⟨#[]⟩, [], none⟩ : aM))) (aE S.X)).opens ≤ 1048576; rw [bA]; exact ⟨Int.le_refl _, by show (0 : Int) ≤ 1048576; decide⟩); rw [mB hL2, jP (S := { S with O := (aB S.O (aE S.X) (fun _ => (⟨0, c.mode, 0, 0, 0, 0, 0, 0, false, 1, [], ⟨#[]⟩, [], none⟩ : aM))) }) (t := ⟨(aE S.X), 1⟩) (by show ¬ (S.us.length : Int) < S.X.cH; omega)] at h; exact h)) ?_
     rintro _ _ ⟨rfl, rfl⟩
     refine gC 7 [(6, .int .i64 130)] [(5, a_ 6 cb)] [(6, [(12, .int .i64 0)])] ?_
     refine NS ?_
     refine gK 2 [(59, .bool true)] [] ?_
     refine NN ?_
     refine CT ?_
     refine SR ?_
     have hk0 : (obj S.O (aE S.X)).kind = 0 := hI.nX _ (by have := oq hI.toInv0; omega)
     refine ah.mem (aK := [.blk f [.int .i64 (S.X.cN), .int .i64 (S.X.cB), .int .i64 (S.X.cH), .int .i64 (S.X.cS), .int .i64 (S.X.cZ), .map (some m), .pointer (some ⟨t, 0, none⟩), .int .i64 (S.X.last), .int .i64 (S.X.ai), .int .i64 (S.X.used)] 89, .abs (aZ 143 t S.X.cH S.au (aJ L2 S.us)), .abs (aq (aS S.O L)), .abs (aq (aY (aB S.O (aE S.X) (fun _ => (⟨0, c.mode, 0, 0, 0, 0, 0, 0, false, 1, [], ⟨#[]⟩, [], none⟩ : aM))) L2)), .abs (aC Tryz.prog 3 m (aN (aJ L2 S.idx)) S.idx.length), .abs (aq (bw (aB S.O (aE S.X) (fun _ => (⟨0, c.mode, 0, 0, 0, 0, 0, 0, false, 1, [], ⟨#[]⟩, [], none⟩ : aM))) L2)), .blk cb [.int .i64 (c.op), .int .i64 (c.handle), .int .i64 (c.other), .string c.name, .string c.text, .slice c.dA (c.data.length) (c.dC), .int .i64 (c.mode), .int .i64 (c.uid), .int .i64 (c.gid), .int .i64 (c.sec), .int .i64 (c.nano), .int .i64 (c.code), .int .i64 0] 39, .abs R]) (fun w hS => hS.sX (i := 2) rfl (aE S.X) (fun x hx => by rw [qy hx, BF hL2 hfr hx]) (by unfold aS; rw [hk0]; rfl)) ?_
     refine ah.mem (aK := [.blk f [.int .i64 (S.X.cN), .int .i64 (S.X.cB), .int .i64 (S.X.cH), .int .i64 (S.X.cS), .int .i64 (S.X.cZ), .map (some m), .pointer (some ⟨t, 0, none⟩), .int .i64 (S.X.last), .int .i64 (S.X.ai), .int .i64 (S.X.used)] 89, .abs (aZ 143 t S.X.cH S.au (aJ L2 S.us)), .abs (aq (aS S.O L)), .abs (aq (aY (aB S.O (aE S.X) (fun _ => (⟨0, c.mode, 0, 0, 0, 0, 0, 0, false, 1, [], ⟨#[]⟩, [], none⟩ : aM))) L2)), .abs (aC Tryz.prog 3 m (aN (aJ L2 S.idx)) S.idx.length), .abs (aq (bw S.O L)), .blk cb [.int .i64 (c.op), .int .i64 (c.handle), .int .i64 (c.other), .string c.name, .string c.text, .slice c.dA (c.data.length) (c.dC), .int .i64 (c.mode), .int .i64 (c.uid), .int .i64 (c.gid), .int .i64 (c.sec), .int .i64 (c.nano), .int .i64 (c.code), .int .i64 0] 39, .abs R]) (fun w hS => hS.sX (i := 5) rfl (aE S.X) (fun x hx => by rw [sA hx, xB hL2 hfr hx]) (by unfold bw; rw [hk0]; rfl)) ?_
     refine ah.mem (aK := [.blk f [.int .i64 (S.X.cN), .int .i64 (S.X.cB), .int .i64 (S.X.cH), .int .i64 (S.X.cS), .int .i64 (S.X.cZ), .map (some m), .pointer (some ⟨t, 0, none⟩), .int .i64 (S.X.last), .int .i64 (S.X.ai), .int .i64 (S.X.used)] 89, .abs (aZ 143 t S.X.cH S.au (aJ L2 S.us)), .abs (aq (aS S.O L)), .abs (aq (aY S.O L)), .abs (aC Tryz.prog 3 m (aN (aJ L2 S.idx)) S.idx.length), .abs (aq (bw S.O L)), .blk cb [.int .i64 (c.op), .int .i64 (c.handle), .int .i64 (c.other), .string c.name, .string c.text, .slice c.dA (c.data.length) (c.dC), .int .i64 (c.mode), .int .i64 (c.uid), .int .i64 (c.gid), .int .i64 (c.sec), .int .i64 (c.nano), .int .i64 (c.code), .int .i64 0] 39, .abs R]) (fun w hS => hS.sX (i := 3) rfl (aE S.X) (fun x hx => by rw [sB hx, t8 hL2 hx]) (by unfold aY; rw [hk0]; rfl)) ?_
     refine ah.mem (aK := [.blk f [.int .i64 (S.X.cN), .int .i64 (S.X.cB), .int .i64 (S.X.cH), .int .i64 (S.X.cS), .int .i64 (S.X.cZ), .map (some m), .pointer (some ⟨t, 0, none⟩), .int .i64 (S.X.last), .int .i64 (S.X.ai), .int .i64 (S.X.used)] 89, .abs (aZ 143 t S.X.cH S.au (aJ L S.us)), .abs (aq (aS S.O L)), .abs (aq (aY S.O L)), .abs (aC Tryz.prog 3 m (aN (aJ L S.idx)) S.idx.length), .abs (aq (bw S.O L)), .blk cb [.int .i64 (c.op), .int .i64 (c.handle), .int .i64 (c.other), .string c.name, .string c.text, .slice c.dA (c.data.length) (c.dC), .int .i64 (c.mode), .int .i64 (c.uid), .int .i64 (c.gid), .int .i64 (c.sec), .int .i64 (c.nano), .int .i64 (c.code), .int .i64 0] 39, .abs R]) (fun w hS => by rw [eZ hL2 hfr.idx, eZ hL2 hfr.us] at hS; exact hS) ?_
     refine gK 2 [(4, .int .i64 130)] [] ?_
     refine NN (af.ret (aj.av ?_))
     exact RT (.int .i64 130) [0, 4, 1, 2, 3, 5, 6, 7] (⟨L, by rw [show (dm S c) = (130, S, { c with answer := 0 }) by unfold dm; rw [hab]; exact (if_pos jR).trans ((if_pos h0).trans (by rw [show createM S d c.name c.mode = (0, 130, S) from (if_pos h0).trans (if_neg (by omega))]))] <;> exact ⟨rfl, rfl⟩⟩)
end Go.Proofs.YtkiedlmhocglhaaGreat
end
section
namespace Go.Proofs.YtkiedlmhocglhaaGreat
open Go.RowKit
def qI (b : Nat) (v : Value) : bJ where
  h F w := ∃ cs T, cs[0]? = some v ∧ (HP.blk b cs T).h F w
  lt := fun ⟨_, _, _, h⟩ => HP.lt h
  st := fun ⟨cs, T, hv, h⟩ _ _ hk hd => ⟨cs, T, hv, HP.st h hk hd⟩
theorem qI.cell {b : Nat} {v : Value} : ∀ F w, (qI b v).h F w → w.cell? ⟨b, 0, none⟩ = some v := by
  rintro F w ⟨cs, T, hv, h⟩
  exact (eD h.1 rfl rfl hv).1
theorem Sat.first {β : Bs} {l : List HP} {w : World} {i b : Nat} {cs : List Value} {T : TypeId} {v : Value} (h : Sat β l w) (hp : l[i]? = some (.blk b cs T)) (hv : cs[0]? = some v) : Sat β [.abs (qI b v)] w := by
  obtain ⟨ho, φ, h1, h2, h3⟩ := h
  have hi := bq hp
  refine ⟨ho, fun _ => φ i, fun j q hq => ?_, fun j hj => h2 i hi, fun j k hj hk hne => ?_⟩
  · have hj := bq hq
    simp at hj
    subst hj
    simp at hq
    subst hq
    exact ⟨cs, T, hv, h1 i _ hp⟩
  · simp at hj hk
    omega
section mix
variable {P : Program} {β : Bs} {N : Nat} {ops : Array Oper} {S : List HP} {l : List Nat} {fr : Fr} {hps : List HP} {Q : Post} {i : Nat}
theorem af.C0 {id : Nat} (perm : List Nat) (nr : Nat) (hm : P.follows .mixedOrders = true) (hB : vQ ops perm nr = true) (hp : ∀ w, Sat β hps w → Sat β S w) (h : aD P β N ops S nr perm fr hps Q) : af P β N (.region id ops true) fr hps Q := by
  intro junk w hS
  unfold vQ at hB
  simp only [Bool.and_eq_true, beq_iff_eq] at hB
  obtain ⟨⟨⟨h1, h2⟩, h3⟩, h4⟩ := hB
  have cu := hS.drewN 1
  have h5 := wV (Q := Q) h1 h2 nr perm _ _ _ h4 (fun j oj _ hl => by simp [Array.getD_eq_getD_getElem?, Array.getElem?_replicate] at hl; split at hl <;> simp at hl) (hp _ cu) (h junk (w.drewN 1) cu)
  rw [h3] at h5
  refine Code.wp_mono (fun e a w q => ?_) (wp_region_any hm (lI _ _ _ _ h5))
  cases e with
  | normal => exact q
  | exit id => exact q.elim
  | goto l => exact q.elim
  | ret => exact q.elim
  | panic ch => exact q.elim
  | outgrown => exact q.elim
theorem aD.C2 {ι : Type} {fr' : ι → Fr} {hp' : ι → List HP} {o : Oper} (hop : ops[i]? = some o) (hg : o.guard = none) (h : ah P β N #[o] 0 fr hps (NP (iJ β N fr' hp'))) (hp : ∀ j w, Sat β (hp' j) w → Sat β S w)
    (K : ∀ j, aD P β N ops S 0 l (fr' j) (hp' j) Q) : aD P β N ops S 0 (i :: l) fr hps Q := by
  intro junk w hS
  unfold jY
  refine eE hop hg ?_
  have h1 := h junk w hS
  have h2 : wpList P #[o] (NP (iJ β N fr' hp')) [o] (cF N fr junk) w := h1
  refine gq (fun a w ⟨j, ic, ha, cu⟩ => ?_) h2
  subst ha
  exact ⟨.inr (hp j _ cu), K j ic w cu⟩
end mix
end Go.Proofs.YtkiedlmhocglhaaGreat
end
section
namespace Go.Proofs.YtkiedlmhocglhaaGreat
open Go.RowKit Go.Maps HeapM TabM
def El : List Nat := [59, 60, 61, 62, 63, 64, 65, 66, 67, 68, 69, 70, 71, 72, 73]
def Lx : Value := .agg ⟨.nilFunc :: El.map (fun f => .func (.func f) #[] #[])⟩
theorem C3 {n : Int} (h : 1 ≤ n ∧ n ≤ 15) : n = 1 ∨ n = 2 ∨ n = 3 ∨ n = 4 ∨ n = 5 ∨ n = 6 ∨ n = 7 ∨ n = 8 ∨ n = 9 ∨ n = 10 ∨ n = 11 ∨ n = 12 ∨ n = 13 ∨ n = 14 ∨ n = 15 := by omega
theorem JN {w : World} {o : Oper} {ev : Operand → Value} {x y : Operand} {n : Int} (ho : o.op = .index 105 x y) (hx : ev x = Lx) (hy : ev y = .int .i64 n) (hn : 1 ≤ n ∧ n ≤ 15) : lu Tryz.prog ev o w (.func (.func (El.getD (n.toNat - 1) 0)) #[] #[]) w := by
  obtain ⟨dst, op, type, pos, after, guard⟩ := o
  cases ho
  refine .inl ?_
  simp only [execOp, hx, hy]
  rcases C3 hn with h | h | h | h | h | h | h | h | h | h | h | h | h | h | h <;> subst h <;> kernel_rfl
theorem ah.hn {β : Bs} {N k : Nat} {ops : Array Oper} {fr : Fr} {hps : List HP} {Q : Post} {d : Option Tmp} {x y : Operand} {n : Int} (hn : 1 ≤ n ∧ n ≤ 15) (K : ah Tryz.prog β N ops (k + 1) (cA fr d (.func (.func (El.getD (n.toNat - 1) 0)) #[] #[])) hps Q)
    (hop : ∀ junk, dx N junk ops fr k = some (.index 105 x y, d) := by intro _; kernel_rfl) (hx : ∀ junk, bZ N fr junk x = Lx := by intro _; kernel_rfl) (hy : ∀ junk, bZ N fr junk y = .int .i64 n := by intro _; kernel_rfl) : ah Tryz.prog β N ops k fr hps Q :=
  ah.fO hop (fun _ junk w ho hS => ⟨w, JN ho (hx junk) (hy junk) hn, hS⟩) K
theorem KX {β : Bs} {S : aH} {L : HL} {f m t b : Nat} {c : aU} (n : Int) (hI : Inv S) (hC : dR β c) (h : 1 ≤ n ∧ n ≤ 15) (he : c.op = n) : Spec Tryz.prog β (El.getD (n.toNat - 1) 0) #[vP f, vP b] (pA f m t L S ++ [pC b c]) (fun v l => ∃ L2, v = vI (opM S c).1 ∧ l = pA f m t L2 (opM S c).2.1 ++ [pC b (opM S c).2.2]) := by
  subst he
  rcases C3 h with h | h | h | h | h | h | h | h | h | h | h | h | h | h | h <;> rw [h]
  · rw [y4 h]; exact CS S L f m t hI b c hC
  · rw [y5 h]; exact yP S L f m t hI b c hC
  · rw [y6 h]; exact xG S L f m t hI b c hC
  · rw [y7 h]; exact Bd S L f m t hI b c hC
  · rw [CP h]; exact Ap S L f m t hI b c hC
  · rw [CQ h]; exact yQ S L f m t hI b c hC
  · rw [CR h]; exact CY S L f m t hI b c hC
  · rw [y8 h]; exact Ak S L f m t hI b c hC
  · rw [y9 h]; exact Bf S L f m t hI b c hC
  · rw [Ac h]; exact yR S L f m t hI b c hC
  · rw [Ad h]; exact CZ S L f m t hI b c hC
  · rw [Af h]; exact Ao S L f m t hI b c hC
  · rw [wB h]; exact Bg S L f m t hI b c hC
  · rw [Ag h]; exact Be S L f m t hI b c hC
  · rw [Ah h]; exact Al S L f m t hI b c hC
theorem Em {S : aH} {c : aU} (h : 1 ≤ c.op ∧ c.op ≤ 15) : (opM S c).2.2.op = c.op := by
  rcases C3 h with h | h | h | h | h | h | h | h | h | h | h | h | h | h | h
  · rw [y4 h]; exact HY
  · rw [y5 h]; exact CJ
  · rw [y6 h]; exact A9
  · rw [y7 h]; exact CK
  · rw [CP h]; exact Ba
  · rw [CQ h]; exact Ab
  · rw [CR h]; exact Eh
  · rw [y8 h]; exact Bb
  · rw [y9 h]; exact CN
  · rw [Ac h]; exact CO
  · rw [Ad h]; exact HZ
  · rw [Af h]; exact Ei
  · rw [wB h]; exact FN
  · rw [Ag h]; exact CM
  · rw [Ah h]; exact Bc
end Go.Proofs.YtkiedlmhocglhaaGreat
end
