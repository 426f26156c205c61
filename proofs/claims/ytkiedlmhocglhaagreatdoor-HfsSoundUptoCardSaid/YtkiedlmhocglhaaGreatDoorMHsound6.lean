/-
  PROVED HERE: lemmas and contracts of functions (texts of this repo, joined; what the claim does not use is left out): LS, Zl.
  CONDITIONS: as the theorems say.
-/
import Derived.Test.YtkiedlmhocglhaaGreatDoorMHsound5
import Derived.Test.YtkiedlmhocglhaaGreatDoorRows
import Derived.Shelf.Vars
import Derived.Deep.DeepLaidRun
import Derived.LaidHandle
import Derived.ChangeMaps5
set_option maxRecDepth 100000
set_option maxHeartbeats 4000000
namespace Go.Proofs.YtkiedlmhocglhaaGreatDoor
section
open Go.RowKit Go.Maps HeapM TabM
attribute [local irreducible] aj aS af ai
theorem law_sound (W : World) (A : Option Addr) (c : Nat) (ns : List aK) (Y : Lay) (X : FM) (hG : aD (B0 W) A ns Y) (hB : nV ns 1048576) (A1 : Option Addr) (c1 : Nat) (xs : List iz) (hS : cg (B0 W) A1 xs) (hxl : xs.length ≤ 1048576) (hxc : xs.length ≤ c1) (hg : ig (B0 W)) :
    Spec Tryz.prog (B0 W) 6 #[.agg #[.slice A (ns.length) (c), vI (X.cN), vI (X.cB), vI (X.cH), vI (X.cS), vI (X.cZ)], .slice A1 (xs.length) (c1)] [] (fun v _ => v = .bool true) := by
 have hle0 := B0.refl W
 refine Spec.enter Tryz.func6 rfl Tryz.ntmps6 (Nat.le_of_ble_eq_true rfl) (fun R => ?_)
 refine SR ?_
 refine gN 2 (fun b1 => [(2, vP b1)]) (fun _ => []) (fun _ => []) (fun b1 => .blk b1 [.slice A (ns.length) (c), vI (X.cN), vI (X.cB), vI (X.cH), vI (X.cS), vI (X.cZ)] 30) (fun b1 => ?_)
 refine NN (af.seq (SR ?_))
 refine aj.nu (d := (some 16)) (R := [.abs R, .blk b1 [.slice A (ns.length) (c), vI (X.cN), vI (X.cB), vI (X.cH), vI (X.cS), vI (X.cZ)] 30]) (pk := [0, 1]) (fun _ => by kernel_rfl) (Js) rfl (by kernel_rfl) ?_
 rintro qo _ _ kz ⟨rfl, rfl⟩
 replace hG := hG.le kz
 replace hS := hS.le kz
 replace hg := hg.le kz
 replace hle0 := hle0.trans kz
 refine gK 1 [(17, .bool false)] [] ?_
 refine NN ?_
 refine CF ?_
 refine af.skip (NX (af.seq ?_))
 by_cases Ju : oV X ∧ bL ns
 ·refine af.mA (S := [.blk b1 [.slice A (ns.length) (c), vI (X.cN), vI (X.cB), vI (X.cH), vI (X.cS), vI (X.cZ)] 30]) [(true, 0), (true, 1), (true, 3), (true, 4), (false, 2), (false, 5), (true, 6), (true, 7), (true, 8), (true, 9), (false, 10)] [1] (by kernel_rfl) (by kernel_rfl) rfl (by kernel_rfl) ?_
  refine fq.reads (l := [(false, 2), (false, 5), (true, 6), (true, 7), (true, 8), (true, 9), (false, 10)]) (fr' := [(1, .slice A1 (xs.length) (c1)), (2, vP b1), (20, .agg #[.slice A (ns.length) (c)]), (23, .agg #[vI (X.cN), vI (X.cB), vI (X.cH), vI (X.cS), vI (X.cZ)])]) (aV := [b1 = b1, b1 = b1, b1 = b1, b1 = b1, b1 = b1, b1 = b1]) [0, 1, 3, 4] [o_, ⟨[.at 0], none, none, none, none⟩, o_, ⟨[.at 0, .at 0, .at 0, .at 0, .at 0], none, none, none, none⟩] [1, 2, 20, 23] (fun _ => by kernel_rfl) ⟨rfl, rfl, rfl, rfl, rfl, rfl, trivial⟩ rfl ?_
  refine fq.cut (ι := (Option Addr) × Nat) (fr' := fun ((B, cp) : (Option Addr) × Nat) => [(1, .slice A1 (xs.length) (c1)), (2, vP b1), (21, .agg #[.slice B (ns.length) (cp)]), (23, .agg #[vI (X.cN), vI (X.cB), vI (X.cH), vI (X.cS), vI (X.cZ)])]) (hp' := fun ((B, cp) : (Option Addr) × Nat) => [.abs (mw qo (fun β' => ∃ K, aD β' B ns K)), .abs R, .blk b1 [.slice A (ns.length) (c), vI (X.cN), vI (X.cB), vI (X.cH), vI (X.cS), vI (X.cZ)] 30]) [2] (by kernel_rfl) ?_ rfl (fun _ => by kernel_rfl) ?_
  ·refine gL [] (tD (β := qo) A c ns Y hG (vo hB) (yL hB)) ?_
   rintro _ _ ⟨B, cp, rfl, rfl⟩
   refine NL ?_
   exact MD (B, cp) [1, 2, 21, 23] [0, 1, 2]
  rintro ⟨B, cp⟩
  refine fq.cut (ι := (Fs X ns) × Nat × Nat × Nat × HL) (fr' := fun ((N, f, m, t, L) : (Fs X ns) × Nat × Nat × Nat × HL) => [(1, .slice A1 (xs.length) (c1)), (2, vP b1), (24, .tuple #[vP f, vI 0])]) (hp' := fun ((N, f, m, t, L) : (Fs X ns) × Nat × Nat × Nat × HL) => [.blk f [vI (N.1.X.cN), vI (N.1.X.cB), vI (N.1.X.cH), vI (N.1.X.cS), vI (N.1.X.cZ), .map (some m), vP t, vI (N.1.X.last), vI (N.1.X.ah), vI (N.1.X.used)] 86, .abs (aI Tryz.prog 3 m (aM (aJ L N.1.idx)) N.1.idx.length), .abs (aX 156 t N.1.X.cH N.1.aq (aJ L N.1.us)), .abs (ak (aN N.1.O L)), .abs (ak (aY N.1.O L)), .abs (ak (bh N.1.O L)), .abs R, .blk b1 [.slice A (ns.length) (c), vI (X.cN), vI (X.cB), vI (X.cH), vI (X.cS), vI (X.cZ)] 30]) [7] (by kernel_rfl) ?_ rfl (fun _ => by kernel_rfl) ?_
  ·refine gL [0] (Jt (β := qo) (X := X) Ju.1 Ju.2 B cp (vo hB) (yL hB) (Hf hB) (Hg hB)) ?_
   rintro _ _ ⟨N, f, m, t, L, rfl, rfl⟩
   refine NL ?_
   exact MD (N, f, m, t, L) [1, 2, 24] [0, 1, 2, 3, 4, 5, 6, 7]
  rintro ⟨N, f, m, t, L⟩
  refine fq.reads (l := [(false, 10)]) (fr' := [(1, .slice A1 (xs.length) (c1)), (2, vP b1), (5, vP f), (26, vI 0)]) (aV := []) [6, 7, 8, 9] [o_, o_, o_, o_] [1, 2, 5, 26] (fun _ => by kernel_rfl) trivial rfl ?_
  refine fq.last (by kernel_rfl) ?_
  refine gK 1 [(6, vI 0)] [] ?_
  refine NL (ai.np (NX (af.seq (SR ?_))))
  refine gK 6 [(32, .bool false)] [] ?_
  refine NN ?_
  refine CF ?_
  refine af.skip (NX (SR ?_))
  refine gK 1 [(39, .slice A1 (xs.length) (c1))] [] ?_
  refine gL [] (MX A1 c1 xs hxc) ?_
  rintro _ _ ⟨n, hn, rfl, rfl⟩
  refine gK 1 [(1, .slice A1 (n) (c1))] [] ?_
  refine NS ?_
  refine gK 1 [(7, vI 0)] [] ?_
  refine NN (af.seq (SR ?_))
  refine gK 1 [(8, vI 0)] [] ?_
  refine NN (af.block ?_)
  refine af.Jz (ι := Nat × Bs × aE × HL × Int) (fun ((i, b, S, L, uN) : Nat × Bs × aE × HL × Int) => b) (fun ((i, b, S, L, uN) : Nat × Bs × aE × HL × Int) => (i ≤ n) ∧ ((B0 W).le b) ∧ (cg b A1 xs) ∧ (ig b) ∧ (Inv S) ∧ (aD b A ns Y) ∧ (S.X.cH = X.cH) ∧ (S.X.cB = X.cB) ∧ (uN ≤ S.aq) ∧ (i = 0 → S.X.used = ((bP ns ns.length : Nat) : Int))) (fun ((i, b, S, L, uN) : Nat × Bs × aE × HL × Int) => n - i) (fun ((i, b, S, L, uN) : Nat × Bs × aE × HL × Int) => [(1, .slice A1 (n) (c1)), (2, vP b1), (5, vP f), (7, vI (uN)), (8, vI ↑i)]) (fun ((i, b, S, L, uN) : Nat × Bs × aE × HL × Int) => [.blk b1 [.slice A (ns.length) (c), vI (X.cN), vI (X.cB), vI (X.cH), vI (X.cS), vI (X.cZ)] 30, pF f m t S.X, pI m L S.idx, pT t S.X.cH S.aq L S.us, pO S.O L, pD S.O L, pE S.O L, .abs R]) (0, qo, N.1, L, 0) rfl (idx := [1, 2, 5, 7, 8]) (pk := [7, 0, 1, 2, 3, 4, 5, 6]) (show (0 ≤ n) ∧ ((B0 W).le qo) ∧ (cg qo A1 xs) ∧ (ig qo) ∧ (Inv N.1) ∧ (aD qo A ns Y) ∧ (N.1.X.cH = X.cH) ∧ (N.1.X.cB = X.cB) ∧ (0 ≤ N.1.aq) ∧ (0 = 0 → N.1.X.used = ((bP ns ns.length : Nat) : Int)) from ⟨Nat.zero_le _, hle0, hS, hg, N.2.full, hG, by rw [N.2.cap], by rw [N.2.cap], by rw [N.2.aq]; exact Int.le_refl _, fun _ => by rw [N.2.cap]⟩) (fun _ => by kernel_rfl) rfl (by kernel_rfl) ?_
  rintro ⟨i, b, S, L, uN⟩ ⟨hi, hle0, hS, hg, hI, hG, Qh, hcB, QH, h0⟩
  show af _ b _ _ [(1, .slice A1 (n) (c1)), (2, vP b1), (5, vP f), (7, vI (uN)), (8, vI ↑i)] [.blk b1 [.slice A (ns.length) (c), vI (X.cN), vI (X.cB), vI (X.cH), vI (X.cS), vI (X.cZ)] 30, pF f m t S.X, pI m L S.idx, pT t S.X.cH S.aq L S.us, pO S.O L, pD S.O L, pE S.O L, .abs R] _
  refine af.seq (SR ?_)
  refine gK 4 [(44, .bool (decide ((((i : Nat) : Int) : Int) < (((n : Nat) : Int) : Int))))] [] ?_
  refine NN ?_
  refine af.bA (p := (((i : Nat) : Int) : Int) < (((n : Nat) : Int) : Int)) (fun _ => by kernel_rfl) (fun BK => ?_) (fun BK => ?_)
  ·refine af.skip (NX (af.seq (af.block (SR ?_))))
   refine gK 5 [(47, vP f), (51, .agg #[vI ((cR xs i).c.op), vI ((cR xs i).c.handle), vI ((cR xs i).c.other), .string (cR xs i).c.name, .string (cR xs i).c.text, .slice (cR xs i).c.dA ((cR xs i).c.data.length) ((cR xs i).c.dC), vI ((cR xs i).c.mode), vI ((cR xs i).c.uid), vI ((cR xs i).c.gid), vI ((cR xs i).c.sec), vI ((cR xs i).c.nano), vI ((cR xs i).c.code), vI ((cR xs i).c.answer), vI ((cR xs i).a.at_), vI ((cR xs i).a.op), .string (cR xs i).a.path, .string (cR xs i).a.to, .string (cR xs i).a.text, vI ((cR xs i).root)])] [(3, p_ ⟨[], some i, none, some ⟨(aB A1), ay A1, none⟩, none⟩ [((i : Nat) : Int) = ((i : Nat) : Int), i < n, (⟨(aB A1), ay A1, none⟩ : Addr).spot = none, (A1 : Option Addr) = some ⟨(aB A1), ay A1, none⟩] ⟨rfl, by omega, rfl, cg.hd hS (i := i) (by omega), trivial⟩), (4, p_ ⟨[.old (.int .i64 ((cR xs i).c.op)), .old (.int .i64 ((cR xs i).c.handle)), .old (.int .i64 ((cR xs i).c.other)), .old (.string (cR xs i).c.name), .old (.string (cR xs i).c.text), .old (.slice (cR xs i).c.dA ((cR xs i).c.data.length) ((cR xs i).c.dC)), .old (.int .i64 ((cR xs i).c.mode)), .old (.int .i64 ((cR xs i).c.uid)), .old (.int .i64 ((cR xs i).c.gid)), .old (.int .i64 ((cR xs i).c.sec)), .old (.int .i64 ((cR xs i).c.nano)), .old (.int .i64 ((cR xs i).c.code)), .old (.int .i64 ((cR xs i).c.answer)), .old (.int .i64 ((cR xs i).a.at_)), .old (.int .i64 ((cR xs i).a.op)), .old (.string (cR xs i).a.path), .old (.string (cR xs i).a.to), .old (.string (cR xs i).a.text), .old (.int .i64 ((cR xs i).root))], none, none, none, none⟩ [(Rd b ⟨(aB A1), ay A1 + i * 19 + 18, none⟩ (.int .i64 ((cR xs i).root))), (Rd b ⟨(aB A1), ay A1 + i * 19 + 17, none⟩ (.string (cR xs i).a.text)), (Rd b ⟨(aB A1), ay A1 + i * 19 + 16, none⟩ (.string (cR xs i).a.to)), (Rd b ⟨(aB A1), ay A1 + i * 19 + 15, none⟩ (.string (cR xs i).a.path)), (Rd b ⟨(aB A1), ay A1 + i * 19 + 14, none⟩ (.int .i64 ((cR xs i).a.op))), (Rd b ⟨(aB A1), ay A1 + i * 19 + 13, none⟩ (.int .i64 ((cR xs i).a.at_))), (Rd b ⟨(aB A1), ay A1 + i * 19 + 12, none⟩ (.int .i64 ((cR xs i).c.answer))), (Rd b ⟨(aB A1), ay A1 + i * 19 + 11, none⟩ (.int .i64 ((cR xs i).c.code))), (Rd b ⟨(aB A1), ay A1 + i * 19 + 10, none⟩ (.int .i64 ((cR xs i).c.nano))), (Rd b ⟨(aB A1), ay A1 + i * 19 + 9, none⟩ (.int .i64 ((cR xs i).c.sec))), (Rd b ⟨(aB A1), ay A1 + i * 19 + 8, none⟩ (.int .i64 ((cR xs i).c.gid))), (Rd b ⟨(aB A1), ay A1 + i * 19 + 7, none⟩ (.int .i64 ((cR xs i).c.uid))), (Rd b ⟨(aB A1), ay A1 + i * 19 + 6, none⟩ (.int .i64 ((cR xs i).c.mode))), (Rd b ⟨(aB A1), ay A1 + i * 19 + 5, none⟩ (.slice (cR xs i).c.dA ((cR xs i).c.data.length) ((cR xs i).c.dC))), (Rd b ⟨(aB A1), ay A1 + i * 19 + 4, none⟩ (.string (cR xs i).c.text)), (Rd b ⟨(aB A1), ay A1 + i * 19 + 3, none⟩ (.string (cR xs i).c.name)), (Rd b ⟨(aB A1), ay A1 + i * 19 + 2, none⟩ (.int .i64 ((cR xs i).c.other))), (Rd b ⟨(aB A1), ay A1 + i * 19 + 1, none⟩ (.int .i64 ((cR xs i).c.handle))), (Rd b ⟨(aB A1), ay A1 + i * 19, none⟩ (.int .i64 ((cR xs i).c.op)))] ⟨cg.rd hS (i := i) (by omega) (j := 18) rfl, cg.rd hS (i := i) (by omega) (j := 17) rfl, cg.rd hS (i := i) (by omega) (j := 16) rfl, cg.rd hS (i := i) (by omega) (j := 15) rfl, cg.rd hS (i := i) (by omega) (j := 14) rfl, cg.rd hS (i := i) (by omega) (j := 13) rfl, cg.rd hS (i := i) (by omega) (j := 12) rfl, cg.rd hS (i := i) (by omega) (j := 11) rfl, cg.rd hS (i := i) (by omega) (j := 10) rfl, cg.rd hS (i := i) (by omega) (j := 9) rfl, cg.rd hS (i := i) (by omega) (j := 8) rfl, cg.rd hS (i := i) (by omega) (j := 7) rfl, cg.rd hS (i := i) (by omega) (j := 6) rfl, cg.rd hS (i := i) (by omega) (j := 5) rfl, cg.rd hS (i := i) (by omega) (j := 4) rfl, cg.rd hS (i := i) (by omega) (j := 3) rfl, cg.rd hS (i := i) (by omega) (j := 2) rfl, cg.rd hS (i := i) (by omega) (j := 1) rfl, cg.rd hS (i := i) (by omega) (j := 0) rfl, trivial⟩)] ?_
   refine aj.nu (d := (some 52)) (R := [.blk b1 [.slice A (ns.length) (c), vI (X.cN), vI (X.cB), vI (X.cH), vI (X.cS), vI (X.cZ)] 30, .abs R]) (pk := [1, 2, 3, 4, 5, 6, 0, 7]) (fun _ => by kernel_rfl) (KS (β := b) S L f m t hI (cR xs i) (hS.st i (by omega)) hg) rfl (by kernel_rfl) ?_
   rintro Ou _ _ o5 ⟨L2, S2, e, hp, rfl, rfl⟩
   replace hG := hG.le o5
   replace hS := hS.le o5
   replace hg := hg.le o5
   replace hle0 := hle0.trans o5
   refine NS ?_
   have mF := hp.inv hI
   have hgl := Dc mF.toInv0
   have hnl := vo hB
   have hw2 := hp.grow
   have hsum := Ht mF.toInv0
   have hup := KU mF.toInv0
   have hpk := mF.aq
   have QI := mF.xG
   have Jv : S2.X.cH = X.cH := hw2.cH.trans Qh
   have Jw : S2.X.cB = X.cB := hw2.cB.trans hcB
   have QJ := hw2.aq
   have Me := hw2.used
   refine gK 1 [(53, vP f)] [] ?_
   refine aj.nu (d := (some 54)) (R := [pT t S2.X.cH S2.aq L2 S2.us, .blk b1 [.slice A (ns.length) (c), vI (X.cN), vI (X.cB), vI (X.cH), vI (X.cS), vI (X.cZ)] 30, .abs R]) (pk := [0, 1, 3, 4, 5, 2, 6, 7]) (fun _ => by kernel_rfl) (yI (β := Ou) (S := S2) (L := L2) (f := f) (m := m) (t := t) mF) rfl (by kernel_rfl) ?_
   rintro Ov _ _ vr ⟨G4, c5, K6, rfl, rfl, hH⟩
   replace hG := hG.le vr
   replace hS := hS.le vr
   replace hg := hg.le vr
   replace hle0 := hle0.trans vr
   refine gN 2 (fun b8 => [(9, vP b8)]) (fun b8 => [(1, a_ 8 b8)]) (fun _ => []) (fun b8 => .blk b8 [.slice G4 ((ax S2).length) (c5)] 24) (fun b8 => ?_)
   refine NS ?_
   refine gK 1 [(10, vI 0)] [] ?_
   refine NN (af.seq (SR ?_))
   refine gK 1 [(11, vI 0)] [] ?_
   refine NN (af.block ?_)
   refine af.loop (ι := Nat) (fun (j : Nat) => (j ≤ (ax S2).length)) (fun (j : Nat) => (ax S2).length - j) (fun (j : Nat) => [(1, .slice A1 (n) (c1)), (2, vP b1), (5, vP f), (7, vI (uN)), (8, vI ↑i), (9, vP b8), (10, vI ↑(bP (ax S2) j)), (11, vI ↑j)]) (fun (j : Nat) => [pF f m t S2.X, pI m L2 S2.idx, pO S2.O L2, pD S2.O L2, pE S2.O L2, pT t S2.X.cH S2.aq L2 S2.us, .blk b1 [.slice A (ns.length) (c), vI (X.cN), vI (X.cB), vI (X.cH), vI (X.cS), vI (X.cZ)] 30, .abs R, .blk b8 [.slice G4 ((ax S2).length) (c5)] 24]) 0 (idx := [1, 2, 5, 7, 8, 9, 10, 11]) (pk := [0, 1, 2, 3, 4, 5, 6, 7, 8]) (show (0 ≤ (ax S2).length) from Nat.zero_le _) (fun _ => by kernel_rfl) rfl (by kernel_rfl) ?_
   rintro j hj
   show af _ _ _ _ [(1, .slice A1 (n) (c1)), (2, vP b1), (5, vP f), (7, vI (uN)), (8, vI ↑i), (9, vP b8), (10, vI ↑(bP (ax S2) j)), (11, vI ↑j)] [pF f m t S2.X, pI m L2 S2.idx, pO S2.O L2, pD S2.O L2, pE S2.O L2, pT t S2.X.cH S2.aq L2 S2.us, .blk b1 [.slice A (ns.length) (c), vI (X.cN), vI (X.cB), vI (X.cH), vI (X.cS), vI (X.cZ)] 30, .abs R, .blk b8 [.slice G4 ((ax S2).length) (c5)] 24] _
   refine af.seq (SR ?_)
   refine gK 5 [(59, .bool (decide ((((j : Nat) : Int) : Int) < ((((ax S2).length : Nat) : Int) : Int))))] [(2, a_ 8 b8)] ?_
   refine NN ?_
   refine af.bA (p := (((j : Nat) : Int) : Int) < ((((ax S2).length : Nat) : Int) : Int)) (fun _ => by kernel_rfl) (fun Mv => ?_) (fun Mv => ?_)
   ·refine af.skip (NX (af.seq (af.block (af.region ?_))))
    refine gK 10 [(10, vI ↑(bP (ax S2) (j + 1)))] [(2, a_ 8 b8), (4, p_ ⟨[], some j, none, some ⟨(aB G4), ay G4, none⟩, none⟩ [((j : Nat) : Int) = ((j : Nat) : Int), j < (ax S2).length, (⟨(aB G4), ay G4, none⟩ : Addr).spot = none, (G4 : Option Addr) = some ⟨(aB G4), ay G4, none⟩] ⟨rfl, by omega, rfl, aD.hd hH (i := j) (by omega), trivial⟩), (6, p_ ⟨[.old (.slice (K6.dA j) ((nd (ax S2) j).data.length) ((K6.dC j)))], none, none, none, none⟩ [(Rd Ov ⟨(aB G4), ay G4 + j * 10 + 7, none⟩ (.slice (K6.dA j) ((nd (ax S2) j).data.length) ((K6.dC j))))] ⟨aD.rd hH (i := j) (by omega) (j := 7) rfl, trivial⟩), (8, p_ ⟨[], none, none, none, some (vI ↑(bP (ax S2) (j + 1)))⟩ [(Value.int .i64 (IntKind.wrap .i64 ((((bP (ax S2) j) : Nat) : Int) + (((nd (ax S2) j).data.length : Nat) : Int)))) = (.int .i64 ↑(bP (ax S2) (j + 1)))] ⟨bF (Int.natCast_add _ _).symm (by omega) (by have := Fq (ns := (ax S2)) (i := j + 1) (by omega); omega), trivial⟩)] ?_
    refine NL (ai.aP (NX (af.region ?_)))
    refine gK 3 [(11, vI ↑(j + 1))] [(1, p_ ⟨[], none, none, none, some (vI ↑(j + 1))⟩ [(Value.int .i64 (IntKind.wrap .i64 (((j : Nat) : Int) + 1))) = (.int .i64 ↑(j + 1))] ⟨bF (by omega) (by omega) (by omega), trivial⟩)] ?_
    refine NL ?_
    exact ai.turn ((j + 1)) (idx := [1, 2, 5, 7, 8, 9, 10, 11]) (pk := [0, 1, 2, 3, 4, 5, 6, 7, 8]) (show (((j + 1)) ≤ (ax S2).length) from by omega) (by show (ax S2).length - ((j + 1)) < (ax S2).length - j; omega) (fun _ => by kernel_rfl) rfl (by kernel_rfl)
   refine af.exit (ai.bq (ai.bq (ai.cL (NX (SR ?_)))))
   refine gK 1 [(71, vP f)] [] ?_
   refine aj.nu (d := (some 72)) (R := [pI m L2 S2.idx, pO S2.O L2, pD S2.O L2, pE S2.O L2, .blk b1 [.slice A (ns.length) (c), vI (X.cN), vI (X.cB), vI (X.cH), vI (X.cS), vI (X.cZ)] 30, .abs R, .blk b8 [.slice G4 ((ax S2).length) (c5)] 24]) (pk := [0, 5, 1, 2, 3, 4, 6, 7, 8]) (fun _ => by kernel_rfl) (Fu (β := Ov) S2 L2 f m t) rfl (by kernel_rfl) ?_
   rintro kg _ _ qi ⟨H9, c10, rfl, rfl, Ro⟩
   replace hG := hG.le qi
   replace hS := hS.le qi
   replace hg := hg.le qi
   replace hH := hH.le qi
   replace hle0 := hle0.trans qi
   refine gK 1 [(12, .slice H9 (S2.us.length) (c10))] [] ?_
   refine NS ?_
   refine gK 1 [(73, vP f)] [] ?_
   refine gL [0, 1] (Jq (β := kg) S2 L2 f m t) ?_
   rintro _ _ ⟨rfl, rfl⟩
   refine gK 1 [(13, vI (S2.aq))] [] ?_
   refine NN (af.seq (SR ?_))
   have hdj : bP (ax S2) j = (bP (ax S2) (ax S2).length) := by rw [show j = (ax S2).length by omega]
   refine gK 1 [(75, .agg #[.slice G4 ((ax S2).length) (c5)])] [(0, a_ 8 b8)] ?_
   refine gL [] ((CY G4 c5 (ax S2) K6 hH (Dc mF.toInv0) (Jp mF.toInv0) (Hr mF.toInv0) (Hs mF.toInv0)).val (congrArg (Value.int .i64) (if_pos mF.toInv0.KQ))) ?_
   rintro _ _ ⟨rfl, rfl⟩
   refine gK 4 [(78, .bool false), (79, vI ↑(bP (ax S2) j)), (80, vP f)] [] ?_
   refine gL [0] ((Jl f m t S2.X).val (congrArg (Value.int .i64) hsum.1)) ?_
   rintro _ _ ⟨rfl, rfl⟩
   refine gK 28 [(109, .bool false)] [(0, p_ ⟨[], none, none, none, some (.bool false)⟩ [((.bool (!(decide (((((bP (ax S2) j) : Nat) : Int) : Int) = ((((bP (ax S2) (ax S2).length) : Nat) : Int) : Int)))) : Value)) = (.bool false)] ⟨congrArg (fun b => Value.bool !b) (decide_eq_true (by rw [hdj])), trivial⟩), (7, a_ 6 b1), (8, p_ ⟨[], none, none, none, some (.bool false)⟩ [((.bool (decide ((((S2.us.length : Nat) : Int) : Int) > (X.cH : Int))) : Value)) = (.bool false)] ⟨congrArg Value.bool (decide_eq_false (by omega)), trivial⟩), (14, p_ ⟨[], none, none, none, some (.bool false)⟩ [((.bool (decide ((S2.aq : Int) < (((S2.us.length : Nat) : Int) : Int))) : Value)) = (.bool false)] ⟨congrArg Value.bool (decide_eq_false (by omega)), trivial⟩), (19, p_ ⟨[], none, none, none, some (.bool false)⟩ [((.bool (decide ((S2.aq : Int) < (uN : Int))) : Value)) = (.bool false)] ⟨congrArg Value.bool (decide_eq_false (by omega)), trivial⟩), (25, a_ 6 b1), (26, p_ ⟨[], none, none, none, some (.bool false)⟩ [((.bool (decide ((S2.aq : Int) > (X.cH : Int))) : Value)) = (.bool false)] ⟨congrArg Value.bool (decide_eq_false (by omega)), trivial⟩)] ?_
   refine NN ?_
   refine CF ?_
   refine af.skip (NX (af.seq (SR ?_)))
   refine gK 2 [(111, .bool (decide ((((i : Nat) : Int) : Int) = (0 : Int))))] [] ?_
   refine NN ?_
   refine af.bA (p := (((i : Nat) : Int) : Int) = (0 : Int)) (fun _ => by kernel_rfl) (fun Pj => ?_) (fun Pj => ?_)
   ·refine SR ?_
    refine gK 1 [(14, vI 0)] [] ?_
    refine NN (af.seq (SR ?_))
    refine gK 1 [(15, vI 0)] [] ?_
    refine NN (af.block ?_)
    refine af.loop (ι := Nat) (fun (k : Nat) => (k ≤ ns.length)) (fun (k : Nat) => ns.length - k) (fun (k : Nat) => [(1, .slice A1 (n) (c1)), (2, vP b1), (5, vP f), (8, vI ↑i), (10, vI ↑(bP (ax S2) j)), (13, vI (S2.aq)), (14, vI ↑(bP ns k)), (15, vI ↑k)]) (fun (k : Nat) => [pF f m t S2.X, pT t S2.X.cH S2.aq L2 S2.us, pI m L2 S2.idx, pO S2.O L2, pD S2.O L2, pE S2.O L2, .blk b1 [.slice A (ns.length) (c), vI (X.cN), vI (X.cB), vI (X.cH), vI (X.cS), vI (X.cZ)] 30, .abs R, .blk b8 [.slice G4 ((ax S2).length) (c5)] 24]) 0 (idx := [1, 2, 5, 8, 10, 13, 14, 15]) (pk := [0, 1, 2, 3, 4, 5, 6, 7, 8]) (show (0 ≤ ns.length) from Nat.zero_le _) (fun _ => by kernel_rfl) rfl (by kernel_rfl) ?_
    rintro k hk
    show af _ _ _ _ [(1, .slice A1 (n) (c1)), (2, vP b1), (5, vP f), (8, vI ↑i), (10, vI ↑(bP (ax S2) j)), (13, vI (S2.aq)), (14, vI ↑(bP ns k)), (15, vI ↑k)] [pF f m t S2.X, pT t S2.X.cH S2.aq L2 S2.us, pI m L2 S2.idx, pO S2.O L2, pD S2.O L2, pE S2.O L2, .blk b1 [.slice A (ns.length) (c), vI (X.cN), vI (X.cB), vI (X.cH), vI (X.cS), vI (X.cZ)] 30, .abs R, .blk b8 [.slice G4 ((ax S2).length) (c5)] 24] _
    refine af.seq (SR ?_)
    refine gK 6 [(117, .bool (decide ((((k : Nat) : Int) : Int) < (((ns.length : Nat) : Int) : Int))))] [(3, a_ 6 b1)] ?_
    refine NN ?_
    refine af.bA (p := (((k : Nat) : Int) : Int) < (((ns.length : Nat) : Int) : Int)) (fun _ => by kernel_rfl) (fun Pk => ?_) (fun Pk => ?_)
    ·refine af.skip (NX (af.seq (af.block (af.region ?_))))
     refine gK 11 [(14, vI ↑(bP ns (k + 1)))] [(3, a_ 6 b1), (5, p_ ⟨[], some k, none, some ⟨(aB A), ay A, none⟩, none⟩ [((k : Nat) : Int) = ((k : Nat) : Int), k < ns.length, (⟨(aB A), ay A, none⟩ : Addr).spot = none, (A : Option Addr) = some ⟨(aB A), ay A, none⟩] ⟨rfl, by omega, rfl, aD.hd hG (i := k) (by omega), trivial⟩), (7, p_ ⟨[.old (.slice (Y.dA k) ((nd ns k).data.length) ((Y.dC k)))], none, none, none, none⟩ [(Rd kg ⟨(aB A), ay A + k * 10 + 7, none⟩ (.slice (Y.dA k) ((nd ns k).data.length) ((Y.dC k))))] ⟨aD.rd hG (i := k) (by omega) (j := 7) rfl, trivial⟩), (9, p_ ⟨[], none, none, none, some (vI ↑(bP ns (k + 1)))⟩ [(Value.int .i64 (IntKind.wrap .i64 ((((bP ns k) : Nat) : Int) + (((nd ns k).data.length : Nat) : Int)))) = (.int .i64 ↑(bP ns (k + 1)))] ⟨bF (Int.natCast_add _ _).symm (by omega) (by have := uE (fun i hi => (yL hB i hi).1) (show k + 1 ≤ ns.length by omega); have := vo hB; omega), trivial⟩)] ?_
     refine NL (ai.aP (NX (af.region ?_)))
     refine gK 3 [(15, vI ↑(k + 1))] [(1, p_ ⟨[], none, none, none, some (vI ↑(k + 1))⟩ [(Value.int .i64 (IntKind.wrap .i64 (((k : Nat) : Int) + 1))) = (.int .i64 ↑(k + 1))] ⟨bF (by omega) (by omega) (by omega), trivial⟩)] ?_
     refine NL ?_
     exact ai.turn ((k + 1)) (idx := [1, 2, 5, 8, 10, 13, 14, 15]) (pk := [0, 1, 2, 3, 4, 5, 6, 7, 8]) (show (((k + 1)) ≤ ns.length) from by omega) (by show ns.length - ((k + 1)) < ns.length - k; omega) (fun _ => by kernel_rfl) rfl (by kernel_rfl)
    refine af.exit (ai.bq (ai.bq (ai.cL (NX (SR ?_)))))
    have hdk : bP ns k = bP ns ns.length := by rw [show k = ns.length by omega]
    refine gK 4 [(133, .bool (decide (((((bP (ax S2) j) : Nat) : Int) : Int) > ((((bP ns k) : Nat) : Int) : Int))))] [] ?_
    refine aj.fU 133 (((((bP (ax S2) j) : Nat) : Int) : Int) > ((((bP ns k) : Nat) : Int) : Int)) (fun _ => by kernel_rfl) (fun Ji => ?_) (fun Ji => ?_)
    ·refine gK 6 [(139, .bool (decide (((((bP (ax S2) j) : Nat) : Int) : Int) > (X.cB : Int))))] [(3, a_ 6 b1)] ?_
     refine NN ?_
     refine af.bA (p := ((((bP (ax S2) j) : Nat) : Int) : Int) > (X.cB : Int)) (fun _ => by kernel_rfl) (fun Pm => ?_) (fun Pm => ?_)
     ·have h1 := h0 (by omega); omega
     refine af.skip (NX (af.region ?_))
     refine gK 2 [(7, vI (S2.aq))] [] ?_
     refine NL (ai.aP (NX (af.region ?_)))
     refine gK 3 [(8, vI ↑(i + 1))] [(1, p_ ⟨[], none, none, none, some (vI ↑(i + 1))⟩ [(Value.int .i64 (IntKind.wrap .i64 (((i : Nat) : Int) + 1))) = (.int .i64 ↑(i + 1))] ⟨bF (by omega) (by omega) (by omega), trivial⟩)] ?_
     refine NL ?_
     exact ai.AV ((i + 1), kg, S2, L2, S2.aq) (hb := rfl) (idx := [1, 2, 5, 7, 8]) (pk := [6, 0, 2, 1, 3, 4, 5, 7]) (show (((i + 1)) ≤ n) ∧ ((B0 W).le kg) ∧ (cg kg A1 xs) ∧ (ig kg) ∧ (Inv S2) ∧ (aD kg A ns Y) ∧ (S2.X.cH = X.cH) ∧ (S2.X.cB = X.cB) ∧ (S2.aq ≤ S2.aq) ∧ (((i + 1)) = 0 → S2.X.used = ((bP ns ns.length : Nat) : Int)) from ⟨by omega, hle0, hS, hg, mF, hG, Jv, Jw, Int.le_refl _, fun h => absurd h (Nat.succ_ne_zero _)⟩) (by show n - ((i + 1)) < n - i; omega) (fun _ => by kernel_rfl) rfl (by kernel_rfl)
    refine gK 6 [(139, .bool false)] [] ?_
    refine NN ?_
    refine CF ?_
    refine af.skip (NX (af.region ?_))
    refine gK 2 [(7, vI (S2.aq))] [] ?_
    refine NL (ai.aP (NX (af.region ?_)))
    refine gK 3 [(8, vI ↑(i + 1))] [(1, p_ ⟨[], none, none, none, some (vI ↑(i + 1))⟩ [(Value.int .i64 (IntKind.wrap .i64 (((i : Nat) : Int) + 1))) = (.int .i64 ↑(i + 1))] ⟨bF (by omega) (by omega) (by omega), trivial⟩)] ?_
    refine NL ?_
    exact ai.AV ((i + 1), kg, S2, L2, S2.aq) (hb := rfl) (idx := [1, 2, 5, 7, 8]) (pk := [6, 0, 2, 1, 3, 4, 5, 7]) (show (((i + 1)) ≤ n) ∧ ((B0 W).le kg) ∧ (cg kg A1 xs) ∧ (ig kg) ∧ (Inv S2) ∧ (aD kg A ns Y) ∧ (S2.X.cH = X.cH) ∧ (S2.X.cB = X.cB) ∧ (S2.aq ≤ S2.aq) ∧ (((i + 1)) = 0 → S2.X.used = ((bP ns ns.length : Nat) : Int)) from ⟨by omega, hle0, hS, hg, mF, hG, Jv, Jw, Int.le_refl _, fun h => absurd h (Nat.succ_ne_zero _)⟩) (by show n - ((i + 1)) < n - i; omega) (fun _ => by kernel_rfl) rfl (by kernel_rfl)
   refine af.skip (NX (af.region ?_))
   refine gK 2 [(7, vI (S2.aq))] [] ?_
   refine NL (ai.aP (NX (af.region ?_)))
   refine gK 3 [(8, vI ↑(i + 1))] [(1, p_ ⟨[], none, none, none, some (vI ↑(i + 1))⟩ [(Value.int .i64 (IntKind.wrap .i64 (((i : Nat) : Int) + 1))) = (.int .i64 ↑(i + 1))] ⟨bF (by omega) (by omega) (by omega), trivial⟩)] ?_
   refine NL ?_
   exact ai.AV ((i + 1), kg, S2, L2, S2.aq) (hb := rfl) (idx := [1, 2, 5, 7, 8]) (pk := [6, 0, 2, 1, 3, 4, 5, 7]) (show (((i + 1)) ≤ n) ∧ ((B0 W).le kg) ∧ (cg kg A1 xs) ∧ (ig kg) ∧ (Inv S2) ∧ (aD kg A ns Y) ∧ (S2.X.cH = X.cH) ∧ (S2.X.cB = X.cB) ∧ (S2.aq ≤ S2.aq) ∧ (((i + 1)) = 0 → S2.X.used = ((bP ns ns.length : Nat) : Int)) from ⟨by omega, hle0, hS, hg, mF, hG, Jv, Jw, Int.le_refl _, fun h => absurd h (Nat.succ_ne_zero _)⟩) (by show n - ((i + 1)) < n - i; omega) (fun _ => by kernel_rfl) rfl (by kernel_rfl)
  refine af.exit (ai.bq (ai.bq (ai.cL (NX (SR ?_)))))
  refine gK 1 [(4, .bool true)] [] ?_
  refine NN (af.ret ?_)
  exact ai.KY (v := .bool true) (l := []) (aV := []) [] [7] hle0 (fun _ => by kernel_rfl) trivial rfl (by kernel_rfl) (rfl)
 refine af.mA (S := [.blk b1 [.slice A (ns.length) (c), vI (X.cN), vI (X.cB), vI (X.cH), vI (X.cS), vI (X.cZ)] 30]) [(true, 0), (true, 1), (true, 3), (true, 4), (false, 2), (false, 5), (true, 6), (true, 7), (true, 8), (true, 9), (false, 10)] [1] (by kernel_rfl) (by kernel_rfl) rfl (by kernel_rfl) ?_
 refine fq.reads (l := [(false, 2), (false, 5), (true, 6), (true, 7), (true, 8), (true, 9), (false, 10)]) (fr' := [(1, .slice A1 (xs.length) (c1)), (2, vP b1), (20, .agg #[.slice A (ns.length) (c)]), (23, .agg #[vI (X.cN), vI (X.cB), vI (X.cH), vI (X.cS), vI (X.cZ)])]) (aV := [b1 = b1, b1 = b1, b1 = b1, b1 = b1, b1 = b1, b1 = b1]) [0, 1, 3, 4] [o_, ⟨[.at 0], none, none, none, none⟩, o_, ⟨[.at 0, .at 0, .at 0, .at 0, .at 0], none, none, none, none⟩] [1, 2, 20, 23] (fun _ => by kernel_rfl) ⟨rfl, rfl, rfl, rfl, rfl, rfl, trivial⟩ rfl ?_
 refine fq.cut (ι := (Option Addr) × Nat) (fr' := fun ((B, cp) : (Option Addr) × Nat) => [(1, .slice A1 (xs.length) (c1)), (2, vP b1), (21, .agg #[.slice B (ns.length) (cp)]), (23, .agg #[vI (X.cN), vI (X.cB), vI (X.cH), vI (X.cS), vI (X.cZ)])]) (hp' := fun ((B, cp) : (Option Addr) × Nat) => [.abs (mw qo (fun β' => ∃ K, aD β' B ns K)), .abs R, .blk b1 [.slice A (ns.length) (c), vI (X.cN), vI (X.cB), vI (X.cH), vI (X.cS), vI (X.cZ)] 30]) [2] (by kernel_rfl) ?_ rfl (fun _ => by kernel_rfl) ?_
 ·refine gL [] (tD (β := qo) A c ns Y hG (vo hB) (yL hB)) ?_
  rintro _ _ ⟨B, cp, rfl, rfl⟩
  refine NL ?_
  exact MD (B, cp) [1, 2, 21, 23] [0, 1, 2]
 rintro ⟨B, cp⟩
 refine fq.cut (ι := Kb) (fr' := fun (e : Kb) => [(1, .slice A1 (xs.length) (c1)), (2, vP b1), (24, .tuple #[.pointer none, vI (e.1)])]) (hp' := fun (e : Kb) => [.abs R, .blk b1 [.slice A (ns.length) (c), vI (X.cN), vI (X.cB), vI (X.cH), vI (X.cS), vI (X.cZ)] 30]) [1] (by kernel_rfl) ?_ rfl (fun _ => by kernel_rfl) ?_
 ·refine gL [0] (Hq (β := qo) (X := X) Ju B cp (vo hB) (yL hB) (Hf hB) (Hg hB)) ?_
  rintro _ _ ⟨e, rfl, rfl⟩
  refine NL ?_
  exact MD e [1, 2, 24] [0, 1]
 rintro e
 refine fq.reads (l := [(false, 10)]) (fr' := [(1, .slice A1 (xs.length) (c1)), (2, vP b1), (5, .pointer none), (26, vI (e.1))]) (aV := []) [6, 7, 8, 9] [o_, o_, o_, o_] [1, 2, 5, 26] (fun _ => by kernel_rfl) trivial rfl ?_
 refine fq.last (by kernel_rfl) ?_
 refine gK 1 [(6, vI (e.1))] [] ?_
 refine NL (ai.np (NX (af.seq (SR ?_))))
 refine gK 3 [(29, .bool (!(decide ((e.1 : Int) = (0 : Int)))))] [] ?_
 refine aj.jl 29 ((e.1 : Int) = (0 : Int)) (fun _ => by kernel_rfl) (fun AA => ?_) (fun AA => ?_)
 ·refine gK 3 [(32, .bool true)] [] ?_
  refine NN ?_
  refine CT ?_
  refine SR ?_
  refine gK 7 [(4, .bool true)] [(4, p_ ⟨[], none, none, none, some (.bool true)⟩ [((.bool (!(decide ((e.1 : Int) = (0 : Int)))) : Value)) = (.bool true)] ⟨by simp [e.2], trivial⟩)] ?_
  refine NN (af.ret (ai.ar ?_))
  exact ai.KY (v := .bool true) (l := []) (aV := []) [] [0] hle0 (fun _ => by kernel_rfl) trivial rfl (by kernel_rfl) (rfl)
 exact absurd AA e.2
end
section
open Go.RowKit
def Dd (h : Array Obj) (g : Nat) (cs : List Nat) : Array Obj := h.modify g fun
  | .cells _ t frozen => .cells (cs.map (fun (n : Nat) => Value.int .u8 n)).toArray t frozen
  | o => o
noncomputable def laidWorld (os : Os) : World :=
  { World.holding Tryz.prog os ⟨#[], #[], []⟩ with heap := Dd (Dd (World.holding Tryz.prog os ⟨#[], #[], []⟩).heap 1 Go.Pinned.utf8FirstZ) 2 ([128, 191, 160, 191, 128, 159, 144, 191, 128, 143] ++ List.replicate 22 0) }
theorem laidWorld_met (os : Os) (args : Array Value) : laidMetH Tryz.prog Rows.hfsRefusedUptoRow.laid ((laidWorld os).forCall (fun _ _ => 0) ⟨#[], args, []⟩).memory :=
  laidMetH_of_parts (laidMet_of_run3 8 (by kernel_rfl) (by kernel_rfl) (by kernel_rfl)) (by kernel_rfl)
theorem glob_ok {W : World} (h : W.ShapedOpen Tryz.prog) : ig (B0 W) := by
  obtain ⟨m, hm⟩ := cell_of_shapedOpen_int (g := 0) (t := 3) (zero := #[.int .i64 0]) (k := .i64) h (Nat.le_of_ble_eq_true (by kernel_rfl)) (by kernel_rfl) rfl (by kernel_rfl) (by kernel_rfl) Tryz.underlying3
  exact ⟨m, Ef hm, hm⟩
end
end Go.Proofs.YtkiedlmhocglhaaGreatDoor
