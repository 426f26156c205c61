/-
  PROVED HERE: lemmas and contracts of functions (texts of this repo, joined; what the claim does not use is left out): HA, HB, GEnter, GR, GRead, GP, GOk, Nw, H12, Lw, LA, Row, GO, GRef, GW, Lc, HW, Og, LC, St, Pl, Sx, LB, LP, Oh.
  CONDITIONS: as the theorems say.
-/
import Derived.Test.YtkiedlmhocglhaaGreatDoorMHsound4
import Derived.Test.YtkiedlmhocglhaaGreatDoorRows
import Derived.ProofKit
import Derived.OpenShut
import Derived.Carry
import Derived.Deep.Slices
set_option maxRecDepth 100000
set_option maxHeartbeats 4000000
namespace Go.Proofs.YtkiedlmhocglhaaGreatDoor
section
open Go.RowKit Go.Maps HeapM TabM
attribute [local irreducible] aj aS af ai
theorem vn {β : Bs} (S : aE) (L : HL) (f : Nat) (hI : Inv S) (d : Nat) (hd : Live S.idx ⟨d, 2⟩) (path : ByteArray) (hsz : path.size ≤ 1048576) (hg : ig β) :
    Spec Tryz.prog β 53 #[vP f, vP (L.b d), .string path] [.abs (ak (aN S.O L)), .abs (ak (bh S.O L))] (fun v l => v = wJ L (gJ S.O d path) ∧ l = [.abs (ak (aN S.O L)), .abs (ak (bh S.O L))]) := by
 have hkd : (obj S.O d).kind = 2 := hI.kind hd
 obtain ⟨ps, hps⟩ : ∃ ps, ps = gA path := ⟨_, rfl⟩
 have hpl : 1 ≤ ps.length ∧ ps.length ≤ 1048577 := by rw [hps, yj]; have := um path; omega
 have GW : ∀ q, q < ps.length → (pc ps q).size ≤ 1048576 := fun q hq => Nat.le_trans (Dv (hps ▸ Gy hq)) hsz
 refine Spec.enter Tryz.func53 rfl Tryz.ntmps53 (Nat.le_of_ble_eq_true rfl) (fun R => ?_)
 refine SR ?_
 refine gK 3 [] [] ?_
 refine NS ?_
 refine gK 1 [(19, .string path)] [] ?_
 refine gL [] (Gx hg path hsz hps) ?_
 rintro _ _ ⟨b1, rfl, rfl⟩
 refine gK 1 [(9, .slice (some ⟨b1, 0, none⟩) (ps.length) (ps.length))] [] ?_
 refine NN (af.seq (SR ?_))
 refine gK 3 [(21, .slice (some ⟨b1, 0, none⟩) (ps.length) (ps.length)), (22, vI ↑ps.length), (23, vI 0)] [] ?_
 refine NN (af.block ?_)
 refine af.loop (ι := Nat) (fun (j : Nat) => (j ≤ ps.length) ∧ (∀ q, q < j → bB (pc ps q))) (fun (j : Nat) => ps.length - j) (fun (j : Nat) => [(1, vP (L.b d)), (9, .slice (some ⟨b1, 0, none⟩) (ps.length) (ps.length)), (21, .slice (some ⟨b1, 0, none⟩) (ps.length) (ps.length)), (22, vI ↑ps.length), (23, vI ↑j)]) (fun (j : Nat) => [pO S.O L, pE S.O L, .abs (aG 9 1 (some ⟨b1, 0, none⟩) ps.length ps.length (jN ps)), .abs R]) 0 (idx := [1, 9, 21, 22, 23]) (pk := [1, 2, 0, 3]) (show (0 ≤ ps.length) ∧ (∀ q, q < 0 → bB (pc ps q)) from ⟨Nat.zero_le _, fun q h => absurd h (Nat.not_lt_zero q)⟩) (fun _ => by kernel_rfl) rfl (by kernel_rfl) ?_
 rintro j ⟨hj, hgd⟩
 show af _ _ _ _ [(1, vP (L.b d)), (9, .slice (some ⟨b1, 0, none⟩) (ps.length) (ps.length)), (21, .slice (some ⟨b1, 0, none⟩) (ps.length) (ps.length)), (22, vI ↑ps.length), (23, vI ↑j)] [pO S.O L, pE S.O L, .abs (aG 9 1 (some ⟨b1, 0, none⟩) ps.length ps.length (jN ps)), .abs R] _
 refine SR ?_
 refine gK 1 [(24, .bool (decide ((((j : Nat) : Int) : Int) < (((ps.length : Nat) : Int) : Int))))] [] ?_
 refine NN (af.seq ?_)
 refine af.bA (p := (((j : Nat) : Int) : Int) < (((ps.length : Nat) : Int) : Int)) (fun _ => by kernel_rfl) (fun yh => ?_) (fun yh => ?_)
 ·refine af.skip (NX (af.seq (af.block (SR ?_))))
  refine gK 3 [(11, .string (pc ps j))] [(0, p_ ⟨[], some j, none, none, some (.pointer (some ⟨b1, j, none⟩))⟩ [(Value.pointer (some ⟨b1, 0 + j * 1, none⟩)) = (.pointer (some ⟨b1, j, none⟩)), ((j : Nat) : Int) = ((j : Nat) : Int), j < ps.length, (⟨b1, 0, none⟩ : Addr).spot = none] ⟨by simp, rfl, by omega, rfl, trivial⟩), (1, p_ ⟨[.view 2 (.string (pc ps j))], none, none, none, none⟩ [(∀ F w, (aG 9 1 (some ⟨b1, 0, none⟩) ps.length ps.length (jN ps)).h F w → w.cell? ⟨b1, j, none⟩ = some (.string (pc ps j)))] ⟨aG.cell (wH (by omega)), trivial⟩)] ?_
  refine NS ?_
  refine gK 1 [(27, .string (pc ps j))] [] ?_
  refine gL [] (pG (pc ps j) (by have := GW j (by omega); omega)) ?_
  rintro _ _ ⟨rfl, rfl⟩
  refine gK 1 [(29, .bool (!(decide (bB (pc ps j)))))] [] ?_
  refine NN ?_
  refine af.cI (p := bB (pc ps j)) (fun _ => by kernel_rfl) (fun AA => ?_) (fun AA => ?_)
  ·refine SR ?_
   refine gK 3 [(6, .pointer none), (7, .string ⟨#[]⟩), (8, vI 95)] [] ?_
   refine NN (af.ret (ai.aH (ai.ar (ai.ar (ai.aH (ai.ar ?_))))))
   exact RT (l := [.abs (ak (aN S.O L)), .abs (ak (bh S.O L))]) (.tuple #[.pointer none, .string ⟨#[]⟩, vI 95]) [0, 1, 3] (⟨congrArg (wJ L) (Eq.symm (show gJ S.O d path = .error 95 from if_neg (fun h => AA (Cx.1 (hps ▸ h) j (by omega))))), rfl⟩)
  refine af.skip (ai.aP (NX (af.region ?_)))
  refine gK 2 [(23, vI ↑(j + 1))] [(0, p_ ⟨[], none, none, none, some (vI ↑(j + 1))⟩ [(Value.int .i64 (IntKind.wrap .i64 (((j : Nat) : Int) + 1))) = (.int .i64 ↑(j + 1))] ⟨bF (by omega) (by omega) (by omega), trivial⟩)] ?_
  refine NL ?_
  exact ai.turn ((j + 1)) (idx := [1, 9, 21, 22, 23]) (pk := [0, 1, 2, 3]) (show (((j + 1)) ≤ ps.length) ∧ (∀ q, q < ((j + 1)) → bB (pc ps q)) from ⟨by omega, fun q hq => (Nat.lt_succ_iff_lt_or_eq.1 hq).elim (hgd q) (fun e => e ▸ AA)⟩) (by show ps.length - ((j + 1)) < ps.length - j; omega) (fun _ => by kernel_rfl) rfl (by kernel_rfl)
 refine af.exit (ai.bq (ai.bq (ai.cL (NX (SR ?_)))))
 have hall : ∀ p ∈ ps, bB p := Cx.2 (fun q hq => hgd q (by omega))
 refine gK 4 [(12, vI ↑(ps.length - 1))] [(2, p_ ⟨[], none, none, none, some (vI ↑(ps.length - 1))⟩ [(Value.int .i64 (IntKind.wrap .i64 (((ps.length : Nat) : Int) - 1))) = (.int .i64 ↑(ps.length - 1))] ⟨bF (by omega) (by omega) (by omega), trivial⟩)] ?_
 refine NN (af.seq (SR ?_))
 refine gK 5 [(36, .slice (some ⟨b1, 0, none⟩) ((ps.length - 1)) (ps.length)), (37, vI ↑(ps.length - 1)), (38, vI 0)] [(2, p_ ⟨[], some (ps.length - 1), none, none, none⟩ [(((ps.length - 1) : Nat) : Int) = (((ps.length - 1) : Nat) : Int), (ps.length - 1) ≤ ps.length] ⟨rfl, by omega, trivial⟩)] ?_
 refine NN (af.block ?_)
 refine af.loop (ι := Nat × Nat) (fun ((j, e) : Nat × Nat) => (j ≤ ps.length - 1) ∧ (Live S.idx ⟨e, 2⟩) ∧ (iE S.O d ps = iE S.O e (ps.drop j))) (fun ((j, e) : Nat × Nat) => ps.length - 1 - j) (fun ((j, e) : Nat × Nat) => [(1, vP (L.b e)), (9, .slice (some ⟨b1, 0, none⟩) (ps.length) (ps.length)), (12, vI ↑(ps.length - 1)), (36, .slice (some ⟨b1, 0, none⟩) ((ps.length - 1)) (ps.length)), (37, vI ↑(ps.length - 1)), (38, vI ↑j)]) (fun ((j, e) : Nat × Nat) => [pO S.O L, pE S.O L, .abs (aG 9 1 (some ⟨b1, 0, none⟩) ps.length ps.length (jN ps)), .abs R]) (0, d) (idx := [1, 9, 12, 36, 37, 38]) (pk := [0, 1, 2, 3]) (show (0 ≤ ps.length - 1) ∧ (Live S.idx ⟨d, 2⟩) ∧ (iE S.O d ps = iE S.O d (ps.drop 0)) from ⟨Nat.zero_le _, hd, by rw [List.drop_zero]⟩) (fun _ => by kernel_rfl) rfl (by kernel_rfl) ?_
 rintro ⟨j, e⟩ ⟨hj, hle, hw⟩
 show af _ _ _ _ [(1, vP (L.b e)), (9, .slice (some ⟨b1, 0, none⟩) (ps.length) (ps.length)), (12, vI ↑(ps.length - 1)), (36, .slice (some ⟨b1, 0, none⟩) ((ps.length - 1)) (ps.length)), (37, vI ↑(ps.length - 1)), (38, vI ↑j)] [pO S.O L, pE S.O L, .abs (aG 9 1 (some ⟨b1, 0, none⟩) ps.length ps.length (jN ps)), .abs R] _
 have hke : (obj S.O e).kind = 2 := hI.kind hle
 refine SR ?_
 refine gK 1 [(39, .bool (decide ((((j : Nat) : Int) : Int) < ((((ps.length - 1) : Nat) : Int) : Int))))] [] ?_
 refine NN (af.seq ?_)
 refine af.bA (p := (((j : Nat) : Int) : Int) < ((((ps.length - 1) : Nat) : Int) : Int)) (fun _ => by kernel_rfl) (fun pH => ?_) (fun pH => ?_)
 ·have mz : (pc ps j).size ≤ 1048576 := GW j (by omega)
  have hee : (obj S.O e).ah.length ≤ 8192 := hI.eG hle
  refine af.skip (NX (af.seq (af.block (SR ?_))))
  refine gK 3 [(14, .string (pc ps j))] [(0, p_ ⟨[], some j, none, none, some (.pointer (some ⟨b1, j, none⟩))⟩ [(Value.pointer (some ⟨b1, 0 + j * 1, none⟩)) = (.pointer (some ⟨b1, j, none⟩)), ((j : Nat) : Int) = ((j : Nat) : Int), j < (ps.length - 1), (⟨b1, 0, none⟩ : Addr).spot = none] ⟨by simp, rfl, by omega, rfl, trivial⟩), (1, p_ ⟨[.view 2 (.string (pc ps j))], none, none, none, none⟩ [(∀ F w, (aG 9 1 (some ⟨b1, 0, none⟩) ps.length ps.length (jN ps)).h F w → w.cell? ⟨b1, j, none⟩ = some (.string (pc ps j)))] ⟨aG.cell (wH (by omega)), trivial⟩)] ?_
  refine NN (af.seq ?_)
  rcases hI.jS hle (pc ps j) with hlk | ⟨tk, hlk, hlv⟩ | ⟨tk, hlk, hlv⟩ | ⟨tk, hlk, hlv⟩
  ·refine af.region ?_
   refine gK 5 [(45, .map (some (L.m e))), (46, .string (pc ps j))] [(3, v_ 0 (bw L hke))] ?_
   refine fM 1 hke hlk ?_
   refine NN (af.block (SR ?_))
   refine gK 1 [(48, .bool true)] [] ?_
   refine NN ?_
   refine CT ?_
   refine SR ?_
   refine gK 1 [] [] ?_
   refine NS ?_
   refine gK 3 [(6, .pointer none), (7, .string ⟨#[]⟩), (8, vI 170)] [] ?_
   refine NN (af.ret (ai.aH (ai.aH (ai.ar (ai.ar (ai.aH (ai.ar ?_)))))))
   exact RT (l := [.abs (ak (aN S.O L)), .abs (ak (bh S.O L))]) (.tuple #[.pointer none, .string ⟨#[]⟩, vI 170]) [0, 1, 3] (⟨congrArg (wJ L) (Eq.symm (show gJ S.O d path = .error 170 from (show gJ S.O d path = iE S.O d ps by unfold gJ; rw [← hps]; exact if_pos hall).trans (hw.trans ((qD (by omega)).trans (by rw [hlk] <;> rfl))))), rfl⟩)
  ·have hkt : (obj S.O tk).kind = 1 := hI.kind hlv
   refine af.region ?_
   refine gK 5 [(45, .map (some (L.m e))), (46, .string (pc ps j))] [(3, v_ 0 (bw L hke))] ?_
   refine fM 1 hke hlk ?_
   refine NN (af.block (SR ?_))
   refine gK 1 [(48, .bool false)] [] ?_
   refine NN ?_
   refine CF ?_
   refine SR ?_
   refine gK 3 [(50, .bool false), (51, .pointer none)] [] ?_
   refine NN ?_
   refine CF ?_
   refine SR ?_
   refine gK 3 [(53, .bool true), (54, vP (L.b tk))] [] ?_
   refine NN ?_
   refine CT ?_
   refine SR ?_
   refine gK 1 [] [] ?_
   refine NS ?_
   refine gK 3 [(6, .pointer none), (7, .string ⟨#[]⟩), (8, vI 173)] [] ?_
   refine NN (af.ret (ai.aH (ai.aH (ai.ar (ai.ar (ai.aH (ai.ar ?_)))))))
   exact RT (l := [.abs (ak (aN S.O L)), .abs (ak (bh S.O L))]) (.tuple #[.pointer none, .string ⟨#[]⟩, vI 173]) [0, 1, 3] (⟨congrArg (wJ L) (Eq.symm (show gJ S.O d path = .error 173 from (show gJ S.O d path = iE S.O d ps by unfold gJ; rw [← hps]; exact if_pos hall).trans (hw.trans ((qD (by omega)).trans (by rw [hlk] <;> rfl))))), rfl⟩)
  ·have hkt : (obj S.O tk).kind = 2 := hI.kind hlv
   refine af.region ?_
   refine gK 5 [(45, .map (some (L.m e))), (46, .string (pc ps j))] [(3, v_ 0 (bw L hke))] ?_
   refine fM 1 hke hlk ?_
   refine NN (af.block (SR ?_))
   refine gK 1 [(48, .bool false)] [] ?_
   refine NN ?_
   refine CF ?_
   refine SR ?_
   refine gK 3 [(50, .bool false), (51, .pointer none)] [] ?_
   refine NN ?_
   refine CF ?_
   refine SR ?_
   refine gK 3 [(53, .bool false), (54, .pointer none)] [] ?_
   refine NN ?_
   refine CF ?_
   refine SR ?_
   refine gK 3 [(56, .bool true), (57, vP (L.b tk))] [] ?_
   refine NN ?_
   refine CT ?_
   refine SR ?_
   refine gK 1 [(18, vP (L.b tk))] [] ?_
   refine NN (af.region ?_)
   refine gK 2 [(1, vP (L.b tk))] [] ?_
   refine NL (ai.aP (ai.aP (NX (af.region ?_))))
   refine gK 2 [(38, vI ↑(j + 1))] [(0, p_ ⟨[], none, none, none, some (vI ↑(j + 1))⟩ [(Value.int .i64 (IntKind.wrap .i64 (((j : Nat) : Int) + 1))) = (.int .i64 ↑(j + 1))] ⟨bF (by omega) (by omega) (by omega), trivial⟩)] ?_
   refine NL ?_
   exact ai.turn ((j + 1), tk) (idx := [1, 9, 12, 36, 37, 38]) (pk := [0, 1, 2, 3]) (show (((j + 1)) ≤ ps.length - 1) ∧ (Live S.idx ⟨tk, 2⟩) ∧ (iE S.O d ps = iE S.O tk (ps.drop ((j + 1)))) from ⟨by omega, hlv, hw.trans ((qD (by omega)).trans (by rw [hlk] <;> rfl))⟩) (by show ps.length - 1 - ((j + 1)) < ps.length - 1 - j; omega) (fun _ => by kernel_rfl) rfl (by kernel_rfl)
  have hkt : (obj S.O tk).kind = 3 := hI.kind hlv
  refine af.region ?_
  refine gK 5 [(45, .map (some (L.m e))), (46, .string (pc ps j))] [(3, v_ 0 (bw L hke))] ?_
  refine fM 1 hke hlk ?_
  refine NN (af.block (SR ?_))
  refine gK 1 [(48, .bool false)] [] ?_
  refine NN ?_
  refine CF ?_
  refine SR ?_
  refine gK 3 [(50, .bool true), (51, vP (L.b tk))] [] ?_
  refine NN ?_
  refine CT ?_
  refine SR ?_
  refine gK 1 [] [] ?_
  refine NS ?_
  refine gK 3 [(6, .pointer none), (7, .string ⟨#[]⟩), (8, vI 174)] [] ?_
  refine NN (af.ret (ai.aH (ai.aH (ai.ar (ai.ar (ai.aH (ai.ar ?_)))))))
  exact RT (l := [.abs (ak (aN S.O L)), .abs (ak (bh S.O L))]) (.tuple #[.pointer none, .string ⟨#[]⟩, vI 174]) [0, 1, 3] (⟨congrArg (wJ L) (Eq.symm (show gJ S.O d path = .error 174 from (show gJ S.O d path = iE S.O d ps by unfold gJ; rw [← hps]; exact if_pos hall).trans (hw.trans ((qD (by omega)).trans (by rw [hlk] <;> rfl))))), rfl⟩)
 have ej : j = ps.length - 1 := by omega
 refine af.exit (ai.bq (ai.bq (ai.cL (NX (af.seq (SR ?_))))))
 refine gK 5 [(64, .bool (obj S.O e).gone)] [(4, v_ 0 (kS L hke))] ?_
 refine NN ?_
 refine af.cond (b := (obj S.O e).gone) (fun _ => by kernel_rfl) (fun Mu => ?_) (fun Mu => ?_)
 ·refine SR ?_
  refine gK 3 [(6, .pointer none), (7, .string ⟨#[]⟩), (8, vI 170)] [] ?_
  refine NN (af.ret (ai.ar ?_))
  exact RT (l := [.abs (ak (aN S.O L)), .abs (ak (bh S.O L))]) (.tuple #[.pointer none, .string ⟨#[]⟩, vI 170]) [0, 1, 3] (⟨congrArg (wJ L) (Eq.symm ((show gJ S.O d path = iE S.O d ps by unfold gJ; rw [← hps]; exact if_pos hall).trans (hw.trans ((Ax (by omega)).trans (if_pos Mu))))), rfl⟩)
 refine af.skip (NX (af.seq ?_))
 refine af.bG (by kernel_rfl) (by kernel_rfl) ?_
 refine gQ 8 [(6, vP (L.b e)), (7, .string (pc ps (ps.length - 1))), (8, vI 0)] [(3, p_ ⟨[], some (ps.length - 1), none, none, some (.pointer (some ⟨b1, (ps.length - 1), none⟩))⟩ [(Value.pointer (some ⟨b1, 0 + (ps.length - 1) * 1, none⟩)) = (.pointer (some ⟨b1, (ps.length - 1), none⟩)), (((ps.length - 1) : Nat) : Int) = (((ps.length - 1) : Nat) : Int), (ps.length - 1) < ps.length, (⟨b1, 0, none⟩ : Addr).spot = none] ⟨by simp, rfl, by omega, rfl, trivial⟩), (4, p_ ⟨[.view 2 (.string (pc ps (ps.length - 1)))], none, none, none, none⟩ [(∀ F w, (aG 9 1 (some ⟨b1, 0, none⟩) ps.length ps.length (jN ps)).h F w → w.cell? ⟨b1, (ps.length - 1), none⟩ = some (.string (pc ps (ps.length - 1))))] ⟨aG.cell (wH (by omega)), trivial⟩)] ?_
 refine NQ (NX (af.ret ?_))
 exact RT (l := [.abs (ak (aN S.O L)), .abs (ak (bh S.O L))]) (.tuple #[vP (L.b e), .string (pc ps (ps.length - 1)), vI 0]) [0, 1, 3] (⟨by rw [← ej]; exact congrArg (wJ L) (Eq.symm (show gJ S.O d path = .ok (e, pc ps j) from (show gJ S.O d path = iE S.O d ps by unfold gJ; rw [← hps]; exact if_pos hall).trans (hw.trans ((Ax (by omega)).trans (if_neg (by rw [Mu]; exact Bool.false_ne_true)))))), rfl⟩)
end
section
open Go.RowKit Go.Maps HeapM TabM
attribute [local irreducible] aj aS af ai
theorem Kz {β : Bs} (S : aE) (L : HL) (f m t : Nat) (hI : Inv S) (root : Int) (hrw : (Lit.int .i64 root).wf = true) (a : wF) (GW : a.path.size ≤ 1048576) (JT : a.to.size ≤ 1048576) (hxz : a.text.size ≤ 1048576) (hg : ig β) :
    Spec Tryz.prog β 22 #[vP f, vI (root), .agg #[vI (a.at_), vI (a.op), .string a.path, .string a.to, .string a.text]] [.blk f [vI (S.X.cN), vI (S.X.cB), vI (S.X.cH), vI (S.X.cS), vI (S.X.cZ), .map (some m), vP t, vI (S.X.last), vI (S.X.ah), vI (S.X.used)] 86, .abs (aI Tryz.prog 3 m (aM (aJ L S.idx)) S.idx.length), .abs (aX 156 t S.X.cH S.aq (aJ L S.us)), .abs (ak (aN S.O L)), .abs (ak (aY S.O L)), .abs (ak (bh S.O L))] (fun v l => ∃ L2, v = vI (actM S root a).1 ∧ l = [.blk f [vI ((actM S root a).2.X.cN), vI ((actM S root a).2.X.cB), vI ((actM S root a).2.X.cH), vI ((actM S root a).2.X.cS), vI ((actM S root a).2.X.cZ), .map (some m), vP t, vI ((actM S root a).2.X.last), vI ((actM S root a).2.X.ah), vI ((actM S root a).2.X.used)] 86, .abs (aI Tryz.prog 3 m (aM (aJ L2 (actM S root a).2.idx)) ((actM S root a).2.idx.length)), .abs (aX 156 t (actM S root a).2.X.cH ((actM S root a).2.aq) (aJ L2 ((actM S root a).2.us))), .abs (ak (aN ((actM S root a).2.O) L2)), .abs (ak (aY ((actM S root a).2.O) L2)), .abs (ak (bh ((actM S root a).2.O) L2))]) := by
 have hX := hI.hX
 refine Spec.enter Tryz.func22 rfl Tryz.ntmps22 (Nat.le_of_ble_eq_true rfl) (fun R => ?_)
 refine SR ?_
 refine gN 2 (fun b1 => [(5, vP b1)]) (fun _ => []) (fun _ => []) (fun b1 => .blk b1 [vI (a.at_), vI (a.op), .string a.path, .string a.to, .string a.text] 45) (fun b1 => ?_)
 refine NN (af.seq (SR ?_))
 refine gK 4 [(25, .bool (decide ((a.op : Int) < (1 : Int))))] [(1, a_ 7 b1)] ?_
 refine aj.fU 25 ((a.op : Int) < (1 : Int)) (fun _ => by kernel_rfl) (fun Li => ?_) (fun Li => ?_)
 ·refine gK 4 [(29, .bool true)] [] ?_
  refine NN ?_
  refine CT ?_
  refine SR ?_
  refine gK 1 [(6, vI 230)] [] ?_
  refine NN (af.ret (ai.ar ?_))
  exact RT (vI 230) [0, 1, 2, 3, 4, 5, 6] (⟨L, by rw [show (actM S root a) = (230, S) by unfold actM; exact if_pos (by omega)] <;> exact ⟨rfl, rfl⟩⟩)
 refine gK 4 [(29, .bool (decide ((a.op : Int) > (7 : Int))))] [(1, a_ 7 b1)] ?_
 refine NN ?_
 refine af.bA (p := (a.op : Int) > (7 : Int)) (fun _ => by kernel_rfl) (fun AA => ?_) (fun AA => ?_)
 ·refine SR ?_
  refine gK 1 [(6, vI 230)] [] ?_
  refine NN (af.ret (ai.ar ?_))
  exact RT (vI 230) [0, 1, 2, 3, 4, 5, 6] (⟨L, by rw [show (actM S root a) = (230, S) by unfold actM; exact if_pos (by omega)] <;> exact ⟨rfl, rfl⟩⟩)
 refine af.skip (NX (af.seq ?_))
 rcases hI.LF root with hix | ⟨tk, hix, hlv⟩ | ⟨tk, hix, hlv⟩ | ⟨tk, hix, hlv⟩
 ·refine af.region ?_
  refine gK 5 [(33, .map (some m)), (34, vI (root))] [(3, a_ 0 f)] ?_
  refine aj.dM 1 (d := (some 35)) (t := 80) (K := 3) (E := 84) (b := m) (n := S.idx.length) (f := (aM (aJ L S.idx))) (x := (.tmp 33)) (ix := (.tmp 34)) (key := .int .i64 (root)) (z := .nilIface) (kl := (.int .i64 root)) (r := none) (fun _ => by kernel_rfl) (by kernel_rfl) (fun _ => by kernel_rfl) (fun _ => by kernel_rfl) dF Tryz.underlying80 (fun _ => by kernel_rfl) (gE hrw) (by rw [dN, hix]; rfl) ?_
  refine gK 1 [(7, .nilIface)] [] ?_
  refine NN (af.seq (SR ?_))
  refine gK 2 [(37, .bool true)] [] ?_
  refine NN ?_
  refine CT ?_
  refine SR ?_
  refine gK 1 [(6, vI 141)] [] ?_
  refine NN (af.ret (ai.ar ?_))
  exact RT (vI 141) [0, 1, 2, 3, 4, 5, 6] (⟨L, by rw [show (actM S root a) = (141, S) by unfold actM; rw [if_neg (by omega), hix]] <;> exact ⟨rfl, rfl⟩⟩)
 ·have hkt : (obj S.O tk).kind = 1 := hI.kind hlv
  refine af.region ?_
  refine gK 5 [(33, .map (some m)), (34, vI (root))] [(3, a_ 0 f)] ?_
  refine aj.dM 1 (d := (some 35)) (t := 80) (K := 3) (E := 84) (b := m) (n := S.idx.length) (f := (aM (aJ L S.idx))) (x := (.tmp 33)) (ix := (.tmp 34)) (key := .int .i64 (root)) (z := .nilIface) (kl := (.int .i64 root)) (r := (some (cF L ⟨tk, 1⟩))) (fun _ => by kernel_rfl) (by kernel_rfl) (fun _ => by kernel_rfl) (fun _ => by kernel_rfl) dF Tryz.underlying80 (fun _ => by kernel_rfl) (gE hrw) (by rw [dN, hix]; rfl) ?_
  refine gK 1 [(7, .iface 89 (vP (L.b tk)))] [] ?_
  refine NN (af.seq (SR ?_))
  refine gK 2 [(37, .bool false)] [] ?_
  refine NN ?_
  refine CF ?_
  refine af.skip (NX (SR ?_))
  refine gK 7 [(8, .pointer none), (9, .bool false)] [] ?_
  refine NN (af.seq (SR ?_))
  refine gK 2 [(44, .bool true)] [] ?_
  refine NN ?_
  refine CT ?_
  refine SR ?_
  refine gK 1 [(6, vI 173)] [] ?_
  refine NN (af.ret (ai.ar ?_))
  exact RT (vI 173) [0, 1, 2, 3, 4, 5, 6] (⟨L, by rw [show (actM S root a) = (173, S) by unfold actM; rw [if_neg (by omega), hix]; simp only; exact if_neg (by simp)] <;> exact ⟨rfl, rfl⟩⟩)
 ·have hkt : (obj S.O tk).kind = 2 := hI.kind hlv
  refine af.region ?_
  refine gK 5 [(33, .map (some m)), (34, vI (root))] [(3, a_ 0 f)] ?_
  refine aj.dM 1 (d := (some 35)) (t := 80) (K := 3) (E := 84) (b := m) (n := S.idx.length) (f := (aM (aJ L S.idx))) (x := (.tmp 33)) (ix := (.tmp 34)) (key := .int .i64 (root)) (z := .nilIface) (kl := (.int .i64 root)) (r := (some (cF L ⟨tk, 2⟩))) (fun _ => by kernel_rfl) (by kernel_rfl) (fun _ => by kernel_rfl) (fun _ => by kernel_rfl) dF Tryz.underlying80 (fun _ => by kernel_rfl) (gE hrw) (by rw [dN, hix]; rfl) ?_
  refine gK 1 [(7, .iface 96 (vP (L.b tk)))] [] ?_
  refine NN (af.seq (SR ?_))
  refine gK 2 [(37, .bool false)] [] ?_
  refine NN ?_
  refine CF ?_
  refine af.skip (NX (SR ?_))
  refine gK 7 [(8, vP (L.b tk)), (9, .bool true)] [] ?_
  refine NN (af.seq (SR ?_))
  refine gK 2 [(44, .bool false)] [] ?_
  refine NN ?_
  refine CF ?_
  refine af.skip (NX (SR ?_))
  refine gK 4 [(46, vP f), (47, vP (L.b tk)), (49, .string a.path)] [(3, a_ 7 b1)] ?_
  rcases Av hI hlv a.path with ⟨e, gZ, hne⟩ | ⟨d, name, gZ, hd, fZ, hgn⟩
  ·refine gL (f := 53) (args := #[vP f, vP (L.b tk), .string a.path]) (pre := [.abs (ak (aN S.O L)), .abs (ak (bh S.O L))]) [3, 5] ((by have h := vn (β := β) S L f hI tk hlv a.path GW hg; rw [gZ] at h; exact h)) ?_
   rintro _ _ ⟨rfl, rfl⟩
   refine gK 7 [(10, .pointer none), (11, .string ⟨#[]⟩), (12, vI (e))] [] ?_
   refine NN (af.seq (SR ?_))
   refine gK 2 [(55, .bool (!(decide ((e : Int) = (0 : Int)))))] [] ?_
   refine NN ?_
   refine af.cI (p := (e : Int) = (0 : Int)) (fun _ => by kernel_rfl) (fun Ol => ?_) (fun Ol => ?_)
   ·refine SR ?_
    refine gK 2 [(6, vI (e))] [] ?_
    refine NN (af.ret (ai.ar ?_))
    exact RT (vI (e)) [2, 3, 4, 0, 5, 1, 6] (⟨L, by rw [show (actM S root a) = (e, S) by unfold actM; rw [if_neg (by omega), hix]; simp only; rw [if_pos trivial, gZ]] <;> exact ⟨rfl, rfl⟩⟩)
   exact absurd Ol hne
  have hkd : (obj S.O d).kind = 2 := hI.kind hd
  have hsz : name.size ≤ 1048576 := Au hgn
  refine gL (f := 53) (args := #[vP f, vP (L.b tk), .string a.path]) (pre := [.abs (ak (aN S.O L)), .abs (ak (bh S.O L))]) [3, 5] ((by have h := vn (β := β) S L f hI tk hlv a.path GW hg; rw [gZ] at h; exact h)) ?_
  rintro _ _ ⟨rfl, rfl⟩
  refine gK 7 [(10, vP (L.b d)), (11, .string name), (12, vI 0)] [] ?_
  refine NN (af.seq (SR ?_))
  refine gK 2 [(55, .bool false)] [] ?_
  refine NN ?_
  refine CF ?_
  refine af.skip (NX (af.seq (SR ?_)))
  refine gK 2 [(58, vI (a.op))] [(1, a_ 7 b1)] ?_
  refine NN (af.block (SR ?_))
  refine gK 2 [(59, .bool (decide ((a.op : Int) = (1 : Int))))] [] ?_
  refine NN ?_
  refine af.bA (p := (a.op : Int) = (1 : Int)) (fun _ => by kernel_rfl) (fun Mv => ?_) (fun Mv => ?_)
  ·refine af.seq (SR ?_)
   refine gK 3 [(61, vP f), (62, vP (L.b d)), (63, .string name)] [] ?_
   refine gL [2, 3, 1, 0] (qB S L f m t hI d hd name hsz) ?_
   rintro _ _ ⟨rfl, rfl⟩
   refine gK 1 [(12, vI ((bN S.X S.O S.idx d name)))] [] ?_
   refine NS ?_
   refine gK 2 [(66, .bool (!(decide (((bN S.X S.O S.idx d name) : Int) = (0 : Int)))))] [] ?_
   refine NN ?_
   refine af.cI (p := ((bN S.X S.O S.idx d name) : Int) = (0 : Int)) (fun _ => by kernel_rfl) (fun h0 => ?_) (fun h0 => ?_)
   ·refine SR ?_
    refine gK 2 [(6, vI ((bN S.X S.O S.idx d name)))] [] ?_
    refine NN (af.ret (ai.ar (ai.aH (ai.ar ?_))))
    exact RT (vI ((bN S.X S.O S.idx d name))) [0, 1, 4, 3, 5, 2, 6] (⟨L, by rw [show (actM S root a) = (bN S.X S.O S.idx d name, S) by unfold actM; rw [if_neg (by omega), hix]; simp only; rw [if_pos trivial, gZ]; simp only; unfold actR; rw [if_pos (by omega)]; unfold actNew; exact if_neg h0] <;> exact ⟨rfl, rfl⟩⟩)
   have hno := lV h0
   refine af.skip (NX (SR ?_))
   refine gK 1 [(68, vP f)] [] ?_
   refine gL [0] (qA S.X f m t hX 420) ?_
   rintro _ _ ⟨rfl, rfl⟩
   refine gN 2 (fun b2 => [(71, vP b2)]) (fun _ => []) (fun _ => []) (fun b2 => .blk b2 [vI (S.X.last + 1), vI (420), vI 0, vI 0, vI (S.X.cS), vI (S.X.cZ), vI 0, vI 0, .bool false, .slice none (0) (0)] 92) (fun b2 => ?_)
   obtain ⟨L2, hL2⟩ : ∃ L2 : HL, L2 = L.put (aC S.X) b2 0 none 0 := ⟨_, rfl⟩
   have hfr := hI.toInv0.fresh
   refine aj.mem (aQ := [.abs (ak (aN (av S.O (aC S.X) (fun _ => (aA S.X 1 420))) L2)), .blk f [vI (S.X.cN), vI (S.X.cB), vI (S.X.cH), vI (S.X.cS), vI (S.X.cZ), .map (some m), vP t, vI (S.X.last + 1), vI (S.X.ah), vI (S.X.used)] 86, .abs (aI Tryz.prog 3 m (aM (aJ L S.idx)) S.idx.length), .abs (ak (bh S.O L)), .abs (aX 156 t S.X.cH S.aq (aJ L S.us)), .abs (ak (aY S.O L)), .abs R, .blk b1 [vI (a.at_), vI (a.op), .string a.path, .string a.to, .string a.text] 45]) (fun w hS => hS.qy hL2 hfr (o := (aA S.X 1 420)) (i := 3) (j := 8) (ix := [0, 1, 2, 4, 5, 6, 7]) rfl rfl (by kernel_rfl) rfl (by show (1 : Int) ≠ 0; decide) ((d9 (L := L2) (k := (aC S.X)) (o := (aA S.X 1 420)) rfl).trans (by rw [show L2.dA (aC S.X) = none by rw [hL2]; exact if_pos rfl, show L2.dC (aC S.X) = 0 by rw [hL2]; exact if_pos rfl]; rfl)) rfl) ?_
   refine aj.mem (aQ := [pO (av S.O (aC S.X) (fun _ => (aA S.X 1 420))) L2, pF f m t { S.X with last := S.X.last + 1 }, pI m L S.idx, pE (av S.O (aC S.X) (fun _ => (aA S.X 1 420))) L2, pT t S.X.cH S.aq L S.us, pD S.O L, .abs R, .blk b1 [vI (a.at_), vI (a.op), .string a.path, .string a.to, .string a.text] 45]) (fun w hS => hS.rG hL2 hfr (o := (aA S.X 1 420)) (i := 3) rfl (by show (1 : Int) ≠ 2; decide)) ?_
   refine aj.mem (aQ := [pO (av S.O (aC S.X) (fun _ => (aA S.X 1 420))) L2, pF f m t { S.X with last := S.X.last + 1 }, pI m L S.idx, pE (av S.O (aC S.X) (fun _ => (aA S.X 1 420))) L2, pT t S.X.cH S.aq L S.us, pD S.O L, .abs R, .blk b1 [vI (a.at_), vI (a.op), .string a.path, .string a.to, .string a.text] 45, .abs (aG 5 1 none 0 0 ([]))]) (fun w hS => hS.jG (e := 5) (size := 1)) ?_
   refine aj.mem (aQ := [pD (av S.O (aC S.X) (fun _ => (aA S.X 1 420))) L2, pO (av S.O (aC S.X) (fun _ => (aA S.X 1 420))) L2, pF f m t { S.X with last := S.X.last + 1 }, pI m L S.idx, pE (av S.O (aC S.X) (fun _ => (aA S.X 1 420))) L2, pT t S.X.cH S.aq L S.us, .abs R, .blk b1 [vI (a.at_), vI (a.op), .string a.path, .string a.to, .string a.text] 45]) (fun w hS => hS.Ew hL2 (o := (aA S.X 1 420)) (i := 5) (j := 8) (ix := [0, 1, 2, 3, 4, 6, 7]) rfl rfl (by kernel_rfl) rfl rfl rfl) ?_
   refine aj.mem (aQ := [.abs (ak (aY (av S.O (aC S.X) (fun _ => (aA S.X 1 420))) L2)), .abs (ak (aN (av S.O (aC S.X) (fun _ => (aA S.X 1 420))) L2)), .blk f [vI (S.X.cN), vI (S.X.cB), vI (S.X.cH), vI (S.X.cS), vI (S.X.cZ), .map (some m), vP t, vI (S.X.last + 1), vI (S.X.ah), vI (S.X.used)] 86, .abs (aI Tryz.prog 3 m (aM (aJ L2 S.idx)) S.idx.length), .abs (ak (bh (av S.O (aC S.X) (fun _ => (aA S.X 1 420))) L2)), .abs (aX 156 t S.X.cH S.aq (aJ L2 S.us)), .abs R, .blk b1 [vI (a.at_), vI (a.op), .string a.path, .string a.to, .string a.text] 45]) (fun w hS => by rw [eT hL2 hfr.idx, eT hL2 hfr.us]; exact hS) ?_
   refine gK 1 [(13, vP b2)] [] ?_
   refine NS ?_
   refine gK 5 [(72, vP f), (73, vP (L.b d)), (74, .string name), (76, .iface 89 (vP b2))] [] ?_
   refine gL (f := 56) (args := #[vP f, vP (L.b d), .string name, .iface 89 (vP b2)]) (pre := [.blk f [vI (S.X.cN), vI (S.X.cB), vI (S.X.cH), vI (S.X.cS), vI (S.X.cZ), .map (some m), vP t, vI (S.X.last + 1), vI (S.X.ah), vI (S.X.used)] 86, .abs (aI Tryz.prog 3 m (aM (aJ L2 S.idx)) S.idx.length), .abs (ak (aN (av S.O (aC S.X) (fun _ => (aA S.X 1 420))) L2)), .abs (ak (bh (av S.O (aC S.X) (fun _ => (aA S.X 1 420))) L2))]) [2, 3, 1, 4] ((by have h := oO (β := β) S L2 f m t hI.toInv0 d hd name hsz hno (aA S.X 1 420) rfl (by simp [aA]) rfl (nC h0); rw [sC hL2 (hI.rF hd), lU hL2] at h; exact h)) ?_
   rintro _ _ ⟨rfl, rfl⟩
   refine NS ?_
   refine aj.mem (aQ := [.blk f [vI ((bC S d name (aA S.X 1 420)).X.cN), vI ((bC S d name (aA S.X 1 420)).X.cB), vI ((bC S d name (aA S.X 1 420)).X.cH), vI ((bC S d name (aA S.X 1 420)).X.cS), vI ((bC S d name (aA S.X 1 420)).X.cZ), .map (some m), vP t, vI ((bC S d name (aA S.X 1 420)).X.last), vI ((bC S d name (aA S.X 1 420)).X.ah), vI ((bC S d name (aA S.X 1 420)).X.used)] 86, .abs (aI Tryz.prog 3 m (aM (aJ L2 (bC S d name (aA S.X 1 420)).idx)) ((bC S d name (aA S.X 1 420)).idx.length)), .abs (ak (aN ((bC S d name (aA S.X 1 420)).O) L2)), .abs (ak (bh ((bC S d name (aA S.X 1 420)).O) L2)), .abs (ak (aY ((bC S d name (aA S.X 1 420)).O) L2)), .abs (aX 156 t S.X.cH S.aq (aJ L2 S.us)), .abs R, .blk b1 [vI (a.at_), vI (a.op), .string a.path, .string a.to, .string a.text] 45]) (fun w hS => by rw [show aY ((bC S d name (aA S.X 1 420)).O) L2 = aY (av S.O (aC S.X) (fun _ => (aA S.X 1 420))) L2 from fC]; exact hS) ?_
   have mF : Inv (bC S d name (aA S.X 1 420)) := hI.Be hd fZ hgn h0 (.inl rfl) ⟨by decide, by decide⟩ (.inl ⟨by decide, rfl⟩)
   have PV : Live (bC S d name (aA S.X 1 420)).idx ⟨(aC S.X), 1⟩ := Cp hI (o := (aA S.X 1 420))
   refine gK 4 [(78, vP f), (79, vP b2), (81, .string a.text)] [(3, a_ 7 b1)] ?_
   refine aj.Cz (d := (some 82)) (t1 := 9) (t2 := 41) (e := 5) (x := (.tmp 81)) (s := a.text) (fun _ => by kernel_rfl) (fun _ => by kernel_rfl) Tryz.underlying9 Tryz.underlying41 Tryz.underlying5 (fun b3 c4 O4 => ?_)
   refine gL (f := 57) (args := #[vP f, vP b2, .slice (some ⟨b3, 0, none⟩) (a.text.data.toList.length) (c4)]) (pre := [.abs (mw β (fun β' => bW β' (some ⟨b3, 0, none⟩) a.text.data.toList)), .blk f [vI ((bC S d name (aA S.X 1 420)).X.cN), vI ((bC S d name (aA S.X 1 420)).X.cB), vI ((bC S d name (aA S.X 1 420)).X.cH), vI ((bC S d name (aA S.X 1 420)).X.cS), vI ((bC S d name (aA S.X 1 420)).X.cZ), .map (some m), vP t, vI ((bC S d name (aA S.X 1 420)).X.last), vI ((bC S d name (aA S.X 1 420)).X.ah), vI ((bC S d name (aA S.X 1 420)).X.used)] 86, .abs (aI Tryz.prog 3 m (aM (aJ L2 (bC S d name (aA S.X 1 420)).idx)) ((bC S d name (aA S.X 1 420)).idx.length)), .abs (aX 156 t S.X.cH S.aq (aJ L2 S.us)), .abs (ak (aN ((bC S d name (aA S.X 1 420)).O) L2)), .abs (ak (aY ((bC S d name (aA S.X 1 420)).O) L2)), .abs (ak (bh ((bC S d name (aA S.X 1 420)).O) L2))]) [8, 0, 1, 5, 2, 4, 3] ((by have h := yq (β := β) (bC S d name (aA S.X 1 420)) L2 f m t mF (aC S.X) PV (some ⟨b3, 0, none⟩) c4 a.text.data.toList (by rw [Array.length_toList]; have : a.text.data.size = a.text.size := rfl; omega) O4; rw [xI hL2] at h; exact h)) ?_
   rintro _ _ ⟨L3, rfl, rfl⟩
   refine NS ?_
   refine gK 1 [(6, vI 0)] [] ?_
   refine NN (af.ret (ai.aH (ai.ar ?_)))
   exact RT (vI 0) [0, 1, 2, 3, 4, 5, 6] (⟨L3, by rw [show (actM S root a) = (0, (writeM (bC S d name (aA S.X 1 420)) (aC S.X) a.text.data.toList).2.2) by unfold actM; rw [if_neg (by omega), hix]; simp only; rw [if_pos trivial, gZ]; simp only; unfold actR; rw [if_pos (by omega)]; unfold actNew; exact if_pos h0] <;> exact ⟨rfl, rfl⟩⟩)
  refine SR ?_
  refine gK 2 [(84, .bool (decide ((a.op : Int) = (2 : Int))))] [] ?_
  refine NN ?_
  refine af.bA (p := (a.op : Int) = (2 : Int)) (fun _ => by kernel_rfl) (fun PW => ?_) (fun PW => ?_)
  ·refine SR ?_
   refine gK 3 [(86, vP f), (87, vP (L.b d)), (88, .string name)] [] ?_
   refine gL [2, 3, 4, 0, 5, 1] (Ap S L f m t hI d hd name hsz 493) ?_
   rintro _ _ ⟨L2, rfl, rfl⟩
   refine gK 1 [(6, vI ((mkdirM S d name 493).1))] [] ?_
   refine NN (af.ret (ai.aH (ai.ar ?_)))
   exact RT (vI ((mkdirM S d name 493).1)) [0, 1, 2, 3, 4, 5, 6] (⟨L2, by rw [show (actM S root a) = ((mkdirM S d name 493).1, (mkdirM S d name 493).2) by unfold actM; rw [if_neg (by omega), hix]; simp only; rw [if_pos trivial, gZ]; simp only; unfold actR; rw [if_neg (by omega)]; exact if_pos (by omega)] <;> exact ⟨rfl, rfl⟩⟩)
  refine SR ?_
  refine gK 2 [(90, .bool (decide ((a.op : Int) = (3 : Int))))] [] ?_
  refine NN ?_
  refine af.bA (p := (a.op : Int) = (3 : Int)) (fun _ => by kernel_rfl) (fun PX => ?_) (fun PX => ?_)
  ·refine SR ?_
   refine gK 5 [(92, vP f), (93, vP (L.b d)), (94, .string name), (96, .string a.text)] [(4, a_ 7 b1)] ?_
   refine gL [2, 3, 4, 0, 5, 1] (vJ S L f m t hI d hd name hsz a.text hxz) ?_
   rintro _ _ ⟨L2, rfl, rfl⟩
   refine gK 1 [(6, vI ((symlinkM S d name a.text).1))] [] ?_
   refine NN (af.ret (ai.aH (ai.ar ?_)))
   exact RT (vI ((symlinkM S d name a.text).1)) [0, 1, 2, 3, 4, 5, 6] (⟨L2, by rw [show (actM S root a) = ((symlinkM S d name a.text).1, (symlinkM S d name a.text).2) by unfold actM; rw [if_neg (by omega), hix]; simp only; rw [if_pos trivial, gZ]; simp only; unfold actR; rw [if_neg (by omega)]; rw [if_neg (by omega)]; exact if_pos (by omega)] <;> exact ⟨rfl, rfl⟩⟩)
  refine SR ?_
  refine gK 2 [(98, .bool (decide ((a.op : Int) = (4 : Int))))] [] ?_
  refine NN ?_
  refine af.bA (p := (a.op : Int) = (4 : Int)) (fun _ => by kernel_rfl) (fun PY => ?_) (fun PY => ?_)
  ·refine SR ?_
   refine gK 3 [(100, vP f), (101, vP (L.b d)), (102, .string name)] [] ?_
   refine gL [2, 3, 4, 0, 5, 1] (ye S L f m t hI d hd name hsz) ?_
   rintro _ _ ⟨L2, rfl, rfl⟩
   refine gK 1 [(6, vI ((unlinkM S d name).1))] [] ?_
   refine NN (af.ret (ai.aH (ai.ar ?_)))
   exact RT (vI ((unlinkM S d name).1)) [0, 1, 2, 3, 4, 5, 6] (⟨L2, by rw [show (actM S root a) = ((unlinkM S d name).1, (unlinkM S d name).2) by unfold actM; rw [if_neg (by omega), hix]; simp only; rw [if_pos trivial, gZ]; simp only; unfold actR; rw [if_neg (by omega)]; rw [if_neg (by omega)]; rw [if_neg (by omega)]; exact if_pos (by omega)] <;> exact ⟨rfl, rfl⟩⟩)
  refine SR ?_
  refine gK 2 [(104, .bool (decide ((a.op : Int) = (5 : Int))))] [] ?_
  refine NN ?_
  refine af.bA (p := (a.op : Int) = (5 : Int)) (fun _ => by kernel_rfl) (fun O5 => ?_) (fun O5 => ?_)
  ·refine SR ?_
   refine gK 3 [(106, vP f), (107, vP (L.b d)), (108, .string name)] [] ?_
   refine gL [2, 3, 4, 0, 5, 1] (Aq S L f m t hI d hd name hsz) ?_
   rintro _ _ ⟨L2, rfl, rfl⟩
   refine gK 1 [(6, vI ((rmdirM S d name).1))] [] ?_
   refine NN (af.ret (ai.aH (ai.ar ?_)))
   exact RT (vI ((rmdirM S d name).1)) [0, 1, 2, 3, 4, 5, 6] (⟨L2, by rw [show (actM S root a) = ((rmdirM S d name).1, (rmdirM S d name).2) by unfold actM; rw [if_neg (by omega), hix]; simp only; rw [if_pos trivial, gZ]; simp only; unfold actR; rw [if_neg (by omega)]; rw [if_neg (by omega)]; rw [if_neg (by omega)]; rw [if_neg (by omega)]; exact if_pos (by omega)] <;> exact ⟨rfl, rfl⟩⟩)
  refine SR ?_
  refine gK 2 [(110, .bool (decide ((a.op : Int) = (6 : Int))))] [] ?_
  refine NN ?_
  refine af.bA (p := (a.op : Int) = (6 : Int)) (fun _ => by kernel_rfl) (fun O6 => ?_) (fun O6 => ?_)
  ·refine SR ?_
   refine gK 4 [(113, vP f), (114, vP (L.b tk)), (116, .string a.to)] [(3, a_ 7 b1)] ?_
   rcases Av hI hlv a.to with ⟨e2, yw, CD⟩ | ⟨to, toName, yw, hd2, Md, IW⟩
   ·refine gL (f := 53) (args := #[vP f, vP (L.b tk), .string a.to]) (pre := [.abs (ak (aN S.O L)), .abs (ak (bh S.O L))]) [0, 1] ((by have h := vn (β := β) S L f hI tk hlv a.to JT hg; rw [yw] at h; exact h)) ?_
    rintro _ _ ⟨rfl, rfl⟩
    refine gK 7 [(14, .pointer none), (15, .string ⟨#[]⟩), (16, vI (e2))] [] ?_
    refine NN (af.seq (SR ?_))
    refine gK 2 [(122, .bool (!(decide ((e2 : Int) = (0 : Int)))))] [] ?_
    refine NN ?_
    refine af.cI (p := (e2 : Int) = (0 : Int)) (fun _ => by kernel_rfl) (fun Mw => ?_) (fun Mw => ?_)
    ·refine SR ?_
     refine gK 2 [(6, vI (e2))] [] ?_
     refine NN (af.ret (ai.ar (ai.aH (ai.ar ?_))))
     exact RT (vI (e2)) [2, 3, 4, 0, 5, 1, 6] (⟨L, by rw [show (actM S root a) = (e2, S) by unfold actM; rw [if_neg (by omega), hix]; simp only; rw [if_pos trivial, gZ]; simp only; unfold actR; rw [if_neg (by omega)]; rw [if_neg (by omega)]; rw [if_neg (by omega)]; rw [if_neg (by omega)]; rw [if_neg (by omega)]; rw [if_pos (by omega)]; rw [yw]] <;> exact ⟨rfl, rfl⟩⟩)
    exact absurd Mw CD
   have dg : (obj S.O to).kind = 2 := hI.kind hd2
   have mz : toName.size ≤ 1048576 := Au IW
   refine gL (f := 53) (args := #[vP f, vP (L.b tk), .string a.to]) (pre := [.abs (ak (aN S.O L)), .abs (ak (bh S.O L))]) [0, 1] ((by have h := vn (β := β) S L f hI tk hlv a.to JT hg; rw [yw] at h; exact h)) ?_
   rintro _ _ ⟨rfl, rfl⟩
   refine gK 7 [(14, vP (L.b to)), (15, .string toName), (16, vI 0)] [] ?_
   refine NN (af.seq (SR ?_))
   refine gK 2 [(122, .bool false)] [] ?_
   refine NN ?_
   refine CF ?_
   refine af.skip (NX (SR ?_))
   refine gK 5 [(124, vP f), (125, vP (L.b d)), (126, .string name), (127, vP (L.b to)), (128, .string toName)] [] ?_
   refine gL [2, 3, 4, 0, 5, 1] (yg S L f m t hI d hd name hsz to hd2 toName mz) ?_
   rintro _ _ ⟨L2, rfl, rfl⟩
   refine gK 1 [(6, vI ((renameM S d name to toName).1))] [] ?_
   refine NN (af.ret (ai.aH (ai.ar ?_)))
   exact RT (vI ((renameM S d name to toName).1)) [0, 1, 2, 3, 4, 5, 6] (⟨L2, by rw [show (actM S root a) = ((renameM S d name to toName).1, (renameM S d name to toName).2) by unfold actM; rw [if_neg (by omega), hix]; simp only; rw [if_pos trivial, gZ]; simp only; unfold actR; rw [if_neg (by omega)]; rw [if_neg (by omega)]; rw [if_neg (by omega)]; rw [if_neg (by omega)]; rw [if_neg (by omega)]; rw [if_pos (by omega)]; rw [yw]] <;> exact ⟨rfl, rfl⟩⟩)
  refine af.skip (ai.aP (NX (af.seq (af.seq ?_))))
  have hel : (obj S.O d).ah.length ≤ 8192 := hI.eG hd
  have GD := hsz
  rcases hI.jS hd name with bg | ⟨ok, bg, dm⟩ | ⟨ok, bg, dm⟩ | ⟨ok, bg, dm⟩
  ·refine af.region ?_
   refine gK 5 [(133, .map (some (L.m d))), (134, .string name)] [(3, v_ 0 (bw L hkd))] ?_
   refine fM 1 hkd bg ?_
   refine NN (af.block (SR ?_))
   refine gK 3 [(137, .bool false), (138, .pointer none)] [] ?_
   refine NN ?_
   refine CF ?_
   refine SR ?_
   refine gK 3 [(140, .bool false), (141, .pointer none)] [] ?_
   refine NN ?_
   refine CF ?_
   refine SR ?_
   refine gK 3 [(143, .bool false), (144, .pointer none)] [] ?_
   refine NN ?_
   refine CF ?_
   refine af.skip (ai.aP (NX (SR ?_)))
   refine gK 1 [(6, vI 170)] [] ?_
   refine NN (af.ret ?_)
   exact RT (vI 170) [2, 3, 4, 0, 5, 1, 6] (⟨L, by rw [show (actM S root a) = (170, S) by unfold actM; rw [if_neg (by omega), hix]; simp only; rw [if_pos trivial, gZ]; simp only; unfold actR; rw [if_neg (by omega)]; rw [if_neg (by omega)]; rw [if_neg (by omega)]; rw [if_neg (by omega)]; rw [if_neg (by omega)]; rw [if_neg (by omega)]; unfold actWrite; rw [bg]] <;> exact ⟨rfl, rfl⟩⟩)
  ·have jh : (obj S.O ok).kind = 1 := hI.kind dm
   refine af.region ?_
   refine gK 5 [(133, .map (some (L.m d))), (134, .string name)] [(3, v_ 0 (bw L hkd))] ?_
   refine fM 1 hkd bg ?_
   refine NN (af.block (SR ?_))
   refine gK 3 [(137, .bool false), (138, .pointer none)] [] ?_
   refine NN ?_
   refine CF ?_
   refine SR ?_
   refine gK 3 [(140, .bool false), (141, .pointer none)] [] ?_
   refine NN ?_
   refine CF ?_
   refine SR ?_
   refine gK 3 [(143, .bool true), (144, vP (L.b ok))] [] ?_
   refine NN ?_
   refine CT ?_
   refine SR ?_
   refine gK 1 [(19, vP (L.b ok))] [] ?_
   refine NS ?_
   refine gK 4 [(146, vP f), (147, vP (L.b ok)), (149, .string a.text)] [(3, a_ 7 b1)] ?_
   refine aj.Cz (d := (some 150)) (t1 := 9) (t2 := 41) (e := 5) (x := (.tmp 149)) (s := a.text) (fun _ => by kernel_rfl) (fun _ => by kernel_rfl) Tryz.underlying9 Tryz.underlying41 Tryz.underlying5 (fun b6 c7 O7 => ?_)
   refine gL [8, 2, 3, 4, 0, 5, 1] (yq (β := β) S L f m t hI ok dm (some ⟨b6, 0, none⟩) c7 a.text.data.toList (by rw [Array.length_toList]; have : a.text.data.size = a.text.size := rfl; omega) O7) ?_
   rintro _ _ ⟨L3, rfl, rfl⟩
   refine gK 5 [(21, vI ((writeM S ok a.text.data.toList).2.1))] [] ?_
   refine NS ?_
   refine gK 2 [(6, vI ((writeM S ok a.text.data.toList).2.1))] [] ?_
   refine NN (af.ret (ai.aH (ai.ar ?_)))
   exact RT (vI ((writeM S ok a.text.data.toList).2.1)) [0, 1, 2, 3, 4, 5, 6] (⟨L3, by rw [show (actM S root a) = ((writeM S ok a.text.data.toList).2.1, (writeM S ok a.text.data.toList).2.2) by unfold actM; rw [if_neg (by omega), hix]; simp only; rw [if_pos trivial, gZ]; simp only; unfold actR; rw [if_neg (by omega)]; rw [if_neg (by omega)]; rw [if_neg (by omega)]; rw [if_neg (by omega)]; rw [if_neg (by omega)]; rw [if_neg (by omega)]; unfold actWrite; rw [bg]; exact (if_neg (by simp)).trans (if_neg (by simp))] <;> exact ⟨rfl, rfl⟩⟩)
  ·have jh : (obj S.O ok).kind = 2 := hI.kind dm
   refine af.region ?_
   refine gK 5 [(133, .map (some (L.m d))), (134, .string name)] [(3, v_ 0 (bw L hkd))] ?_
   refine fM 1 hkd bg ?_
   refine NN (af.block (SR ?_))
   refine gK 3 [(137, .bool false), (138, .pointer none)] [] ?_
   refine NN ?_
   refine CF ?_
   refine SR ?_
   refine gK 3 [(140, .bool true), (141, vP (L.b ok))] [] ?_
   refine NN ?_
   refine CT ?_
   refine SR ?_
   refine gK 1 [] [] ?_
   refine NS ?_
   refine gK 1 [(6, vI 172)] [] ?_
   refine NN (af.ret (ai.aH (ai.ar ?_)))
   exact RT (vI 172) [2, 3, 4, 0, 5, 1, 6] (⟨L, by rw [show (actM S root a) = (172, S) by unfold actM; rw [if_neg (by omega), hix]; simp only; rw [if_pos trivial, gZ]; simp only; unfold actR; rw [if_neg (by omega)]; rw [if_neg (by omega)]; rw [if_neg (by omega)]; rw [if_neg (by omega)]; rw [if_neg (by omega)]; rw [if_neg (by omega)]; unfold actWrite; rw [bg]; exact (if_neg (by simp)).trans (if_pos rfl)] <;> exact ⟨rfl, rfl⟩⟩)
  have jh : (obj S.O ok).kind = 3 := hI.kind dm
  refine af.region ?_
  refine gK 5 [(133, .map (some (L.m d))), (134, .string name)] [(3, v_ 0 (bw L hkd))] ?_
  refine fM 1 hkd bg ?_
  refine NN (af.block (SR ?_))
  refine gK 3 [(137, .bool true), (138, vP (L.b ok))] [] ?_
  refine NN ?_
  refine CT ?_
  refine SR ?_
  refine gK 1 [] [] ?_
  refine NS ?_
  refine gK 1 [(6, vI 174)] [] ?_
  refine NN (af.ret (ai.aH (ai.ar ?_)))
  exact RT (vI 174) [2, 3, 4, 0, 5, 1, 6] (⟨L, by rw [show (actM S root a) = (174, S) by unfold actM; rw [if_neg (by omega), hix]; simp only; rw [if_pos trivial, gZ]; simp only; unfold actR; rw [if_neg (by omega)]; rw [if_neg (by omega)]; rw [if_neg (by omega)]; rw [if_neg (by omega)]; rw [if_neg (by omega)]; rw [if_neg (by omega)]; unfold actWrite; rw [bg]; exact if_pos rfl] <;> exact ⟨rfl, rfl⟩⟩)
 have hkt : (obj S.O tk).kind = 3 := hI.kind hlv
 refine af.region ?_
 refine gK 5 [(33, .map (some m)), (34, vI (root))] [(3, a_ 0 f)] ?_
 refine aj.dM 1 (d := (some 35)) (t := 80) (K := 3) (E := 84) (b := m) (n := S.idx.length) (f := (aM (aJ L S.idx))) (x := (.tmp 33)) (ix := (.tmp 34)) (key := .int .i64 (root)) (z := .nilIface) (kl := (.int .i64 root)) (r := (some (cF L ⟨tk, 3⟩))) (fun _ => by kernel_rfl) (by kernel_rfl) (fun _ => by kernel_rfl) (fun _ => by kernel_rfl) dF Tryz.underlying80 (fun _ => by kernel_rfl) (gE hrw) (by rw [dN, hix]; rfl) ?_
 refine gK 1 [(7, .iface 93 (vP (L.b tk)))] [] ?_
 refine NN (af.seq (SR ?_))
 refine gK 2 [(37, .bool false)] [] ?_
 refine NN ?_
 refine CF ?_
 refine af.skip (NX (SR ?_))
 refine gK 7 [(8, .pointer none), (9, .bool false)] [] ?_
 refine NN (af.seq (SR ?_))
 refine gK 2 [(44, .bool true)] [] ?_
 refine NN ?_
 refine CT ?_
 refine SR ?_
 refine gK 1 [(6, vI 173)] [] ?_
 refine NN (af.ret (ai.ar ?_))
 exact RT (vI 173) [0, 1, 2, 3, 4, 5, 6] (⟨L, by rw [show (actM S root a) = (173, S) by unfold actM; rw [if_neg (by omega), hix]; simp only; exact if_neg (by simp)] <;> exact ⟨rfl, rfl⟩⟩)
end
section
open Go.RowKit
attribute [local irreducible] aj aS af ai
theorem Jc {β : Bs} (A : Option Addr) (ns : List aK) (L : Lay) (hG : aD β A ns L) (hr : bV ns) (i : Nat) (hi : i < ns.length) (hel : (nd ns i).ah.length ≤ 1048576) (hwf : ∀ j, j < (nd ns i).ah.length → -9223372036854775808 ≤ (ent ns i j).id ∧ (ent ns i j).id ≤ 9223372036854775807) (hnm : ∀ j, j < (nd ns i).ah.length → (ent ns i j).name.size ≤ 1048576)
    (mb mp : Nat) (ps : List (Nat × Nat)) (hpl : ps.length ≤ 16777216) (hps : ∀ p, p ∈ ps → p.1 < ns.length) (hnp : (ps.map Prod.fst).Nodup) :
    Spec Tryz.prog β 120 #[.pointer (some ⟨(aB A), ay A + i * 10, none⟩), .map (some mb), .map (some mp)] [.abs (aI Tryz.prog 3 mb (mf (bf A ns ns.length)) ns.length), .abs (aI Tryz.prog 3 mp (mf (pf ((ps).map (fw ns)))) ((ps).length))] (fun v l => (v = .bool true ∧ r9 ns i ps ∧ l = [.abs (aI Tryz.prog 3 mb (mf (bf A ns ns.length)) ns.length), .abs (aI Tryz.prog 3 mp (mf (pf ((cx ns i (nd ns i).ah.length ++ ps).map (fw ns)))) ((cx ns i (nd ns i).ah.length ++ ps).length))]) ∨ (v = .bool false ∧ ¬ r9 ns i ps ∧ l = [])) := by
 refine Spec.enter Tryz.func120 rfl Tryz.ntmps120 (Nat.le_of_ble_eq_true rfl) (fun R => ?_)
 refine SR ?_
 refine gK 1 [] [] ?_
 refine NS ?_
 refine gK 1 [(7, .string ⟨#[]⟩)] [] ?_
 refine NN (af.seq (SR ?_))
 refine gK 6 [(16, .slice (L.eA i) ((nd ns i).ah.length) ((L.eC i))), (17, vI ↑((nd ns i).ah.length)), (18, vI 0)] [(3, p_ ⟨[.old (.slice (L.eA i) ((nd ns i).ah.length) ((L.eC i)))], none, none, none, none⟩ [(Rd β ⟨(aB A), ay A + i * 10 + 9, none⟩ (.slice (L.eA i) ((nd ns i).ah.length) ((L.eC i))))] ⟨aD.rd hG (i := i) (by omega) (j := 9) rfl, trivial⟩)] ?_
 refine NN (af.block ?_)
 refine af.loop (ι := Nat) (fun (j : Nat) => (j ≤ (nd ns i).ah.length) ∧ (∀ t, t < j → jR ns i t) ∧ (((cx ns i j ++ ps).map Prod.fst).Nodup)) (fun (j : Nat) => (nd ns i).ah.length - j) (fun (j : Nat) => [(0, .pointer (some ⟨(aB A), ay A + i * 10, none⟩)), (1, .map (some mb)), (2, .map (some mp)), (7, .string (jr ns i j)), (16, .slice (L.eA i) ((nd ns i).ah.length) ((L.eC i))), (17, vI ↑((nd ns i).ah.length)), (18, vI ↑j)]) (fun (j : Nat) => [.abs (aI Tryz.prog 3 mb (mf (bf A ns ns.length)) ns.length), .abs (aI Tryz.prog 3 mp (mf (pf ((cx ns i j ++ ps).map (fw ns)))) ((cx ns i j ++ ps).length)), .abs R]) 0 (idx := [0, 1, 2, 7, 16, 17, 18]) (pk := [0, 1, 2]) (show (0 ≤ (nd ns i).ah.length) ∧ (∀ t, t < 0 → jR ns i t) ∧ (((cx ns i 0 ++ ps).map Prod.fst).Nodup) from ⟨Nat.zero_le _, fun t ht => absurd ht (Nat.not_lt_zero t), hnp⟩) (fun _ => by kernel_rfl) rfl (by kernel_rfl) ?_
 rintro j ⟨hj, hok, hnd⟩
 show af _ _ _ _ [(0, .pointer (some ⟨(aB A), ay A + i * 10, none⟩)), (1, .map (some mb)), (2, .map (some mp)), (7, .string (jr ns i j)), (16, .slice (L.eA i) ((nd ns i).ah.length) ((L.eC i))), (17, vI ↑((nd ns i).ah.length)), (18, vI ↑j)] [.abs (aI Tryz.prog 3 mb (mf (bf A ns ns.length)) ns.length), .abs (aI Tryz.prog 3 mp (mf (pf ((cx ns i j ++ ps).map (fw ns)))) ((cx ns i j ++ ps).length)), .abs R] _
 refine SR ?_
 refine gK 1 [(19, .bool (decide ((((j : Nat) : Int) : Int) < ((((nd ns i).ah.length : Nat) : Int) : Int))))] [] ?_
 refine NN (af.seq ?_)
 refine af.bA (p := (((j : Nat) : Int) : Int) < ((((nd ns i).ah.length : Nat) : Int) : Int)) (fun _ => by kernel_rfl) (fun PZ => ?_) (fun PZ => ?_)
 ·refine af.skip (NX (af.seq (af.block (SR ?_))))
  refine gN 4 (fun b1 => [(9, vP b1)]) (fun b1 => [(0, p_ ⟨[], some j, none, some ⟨(aB (L.eA i)), ay (L.eA i), none⟩, none⟩ [((j : Nat) : Int) = ((j : Nat) : Int), j < (nd ns i).ah.length, (⟨(aB (L.eA i)), ay (L.eA i), none⟩ : Addr).spot = none, ((L.eA i) : Option Addr) = some ⟨(aB (L.eA i)), ay (L.eA i), none⟩] ⟨rfl, by omega, rfl, dK.hd (hG.ah i (by omega)) (i := j) (by omega), trivial⟩), (1, p_ ⟨[.old (.string (en (nd ns i).ah j).name), .old (.int .i64 ((en (nd ns i).ah j).id))], none, none, none, none⟩ [(Rd β ⟨(aB (L.eA i)), ay (L.eA i) + j * 2 + 1, none⟩ (.int .i64 ((en (nd ns i).ah j).id))), (Rd β ⟨(aB (L.eA i)), ay (L.eA i) + j * 2, none⟩ (.string (en (nd ns i).ah j).name))] ⟨dK.rd (hG.ah i (by omega)) (i := j) (by omega) (j := 1) rfl, dK.rd (hG.ah i (by omega)) (i := j) (by omega) (j := 0) rfl, trivial⟩), (3, A_ 3 b1 2)]) (fun _ => []) (fun b1 => .blk b1 [.string (en (nd ns i).ah j).name, vI ((en (nd ns i).ah j).id)] 101) (fun b1 => ?_)
  refine NS ?_
  refine gK 3 [(22, .map (some mb)), (24, vI ((en (nd ns i).ah j).id))] [(2, a_ 3 b1)] ?_
  by_cases hat : 0 ≤ jZ ns (en (nd ns i).ah j).id
  ·have htl := kO hat
   refine aj.dM 0 (d := (some 25)) (t := 143) (K := 3) (E := 146) (b := mb) (n := ns.length) (f := (mf (bf A ns ns.length))) (x := (.tmp 22)) (ix := (.tmp 24)) (key := .int .i64 ((en (nd ns i).ah j).id)) (z := .pointer none) (kl := (.int .i64 (en (nd ns i).ah j).id)) (r := (some (.pointer (some ⟨(aB A), ay A + (tgt ns (en (nd ns i).ah j).id) * 10, none⟩)))) (fun _ => by kernel_rfl) (by kernel_rfl) (fun _ => by kernel_rfl) (fun _ => by kernel_rfl) dF Tryz.underlying143 (fun _ => by kernel_rfl) (mO (hwf j (by omega)).1 (hwf j (by omega)).2) (M9 hat htl.1) ?_
   refine gK 1 [(10, .pointer (some ⟨(aB A), ay A + (tgt ns (en (nd ns i).ah j).id) * 10, none⟩))] [] ?_
   refine NN (af.seq (SR ?_))
   refine gK 5 [(28, .bool false), (30, .string (en (nd ns i).ah j).name)] [(4, a_ 3 b1)] ?_
   refine gL [] (pG (en (nd ns i).ah j).name (hnm j (by omega))) ?_
   rintro _ _ ⟨rfl, rfl⟩
   refine gK 3 [(34, .bool (!(decide (bB (en (nd ns i).ah j).name))))] [] ?_
   refine aj.jl 34 (bB (en (nd ns i).ah j).name) (fun _ => by kernel_rfl) (fun vH => ?_) (fun vH => ?_)
   ·refine gK 5 [(39, .bool true)] [] ?_
    refine NN ?_
    refine CT ?_
    refine SR ?_
    refine gK 1 [(6, .bool false)] [] ?_
    refine NN (af.ret (ai.ar (ai.aH (ai.ar (ai.ar (ai.aH (ai.ar ?_)))))))
    exact RT (l := []) (.bool false) [2] (.inr ⟨rfl, fun h => vH (h.ah j (by omega)).good, rfl⟩)
   refine gK 5 [(39, .bool (decide (gq ((en (nd ns i).ah j).name) (jr ns i j))))] [(1, a_ 3 b1), (3, p_ ⟨[], none, none, none, some (.bool (decide (gq ((en (nd ns i).ah j).name) (jr ns i j))))⟩ [(Value.bool (Op.bytesLess (((en (nd ns i).ah j).name) : ByteArray).toList (((jr ns i j)) : ByteArray).toList || (((en (nd ns i).ah j).name) : ByteArray).toList == (((jr ns i j)) : ByteArray).toList)) = (.bool (decide (gq ((en (nd ns i).ah j).name) (jr ns i j))))] ⟨Ln _ _, trivial⟩)] ?_
   refine NN ?_
   refine af.bA (p := gq ((en (nd ns i).ah j).name) (jr ns i j)) (fun _ => by kernel_rfl) (fun pH => ?_) (fun pH => ?_)
   ·refine SR ?_
    refine gK 1 [(6, .bool false)] [] ?_
    refine NN (af.ret (ai.ar (ai.aH (ai.ar (ai.ar (ai.aH (ai.ar ?_)))))))
    exact RT (l := []) (.bool false) [2] (.inr ⟨rfl, fun h => (h.ah j (by omega)).ord pH, rfl⟩)
   refine af.skip (NX (SR ?_))
   refine gK 3 [(7, .string (en (nd ns i).ah j).name)] [(1, a_ 3 b1)] ?_
   refine NN (af.seq (SR ?_))
   refine gK 5 [(46, .bool (!(decide (((nd ns (tgt ns (en (nd ns i).ah j).id)).kind : Int) = (2 : Int)))))] [(3, p_ ⟨[.old (.int .i64 ((nd ns (tgt ns (en (nd ns i).ah j).id)).kind))], none, none, none, none⟩ [(Rd β ⟨(aB A), ay A + (tgt ns (en (nd ns i).ah j).id) * 10 + 1, none⟩ (.int .i64 ((nd ns (tgt ns (en (nd ns i).ah j).id)).kind)))] ⟨aD.rd hG (i := (tgt ns (en (nd ns i).ah j).id)) (by omega) (j := 1) rfl, trivial⟩)] ?_
   refine NN ?_
   refine af.cI (p := ((nd ns (tgt ns (en (nd ns i).ah j).id)).kind : Int) = (2 : Int)) (fun _ => by kernel_rfl) (fun h46 => ?_) (fun h46 => ?_)
   ·refine af.exit (ai.bq (ai.cL (NX (af.region ?_))))
    refine aj.eH 1 (p := .abs (aI Tryz.prog 3 mp (mf (pf ((cx ns i j ++ ps).map (fw ns)))) ((cx ns i j ++ ps).length))) (p' := .abs (aI Tryz.prog 3 mp (mf (pf ((cx ns i (j + 1) ++ ps).map (fw ns)))) ((cx ns i (j + 1) ++ ps).length))) (by kernel_rfl) (by rw [nH h46]) ?_
    refine gK 2 [(18, vI ↑(j + 1))] [(0, p_ ⟨[], none, none, none, some (vI ↑(j + 1))⟩ [(Value.int .i64 (IntKind.wrap .i64 (((j : Nat) : Int) + 1))) = (.int .i64 ↑(j + 1))] ⟨bF (by omega) (by omega) (by omega), trivial⟩)] ?_
    refine NL ?_
    exact ai.turn ((j + 1)) (idx := [0, 1, 2, 7, 16, 17, 18]) (pk := [0, 1, 2]) (show (((j + 1)) ≤ (nd ns i).ah.length) ∧ (∀ t, t < ((j + 1)) → jR ns i t) ∧ (((cx ns i ((j + 1)) ++ ps).map Prod.fst).Nodup) from ⟨by omega, fun t ht => (by rcases Nat.lt_succ_iff_lt_or_eq.1 ht with h | h; exact hok t h; subst h; exact ⟨hat, vH, pH⟩), (by rw [nH h46]; exact hnd)⟩) (by show (nd ns i).ah.length - ((j + 1)) < (nd ns i).ah.length - j; omega) (fun _ => by kernel_rfl) rfl (by kernel_rfl)
   refine af.skip (NX (af.seq (SR ?_)))
   refine gK 3 [(48, .map (some mp)), (50, vI ((en (nd ns i).ah j).id))] [(2, a_ 3 b1)] ?_
   rcases hup : up ((cx ns i j ++ ps).map (fw ns)) (en (nd ns i).ah j).id with _ | y
   ·refine aj.ql 1 (d := (some 51)) (t := 183) (K := 3) (E := 3) (b := mp) (n := (cx ns i j ++ ps).length) (f := (mf (pf ((cx ns i j ++ ps).map (fw ns))))) (x := (.tmp 48)) (ix := (.tmp 50)) (key := .int .i64 ((en (nd ns i).ah j).id)) (z := .int .i64 0) (kl := (.int .i64 (en (nd ns i).ah j).id)) (r := none) (fun _ => by kernel_rfl) (by kernel_rfl) (fun _ => by kernel_rfl) (fun _ => by kernel_rfl) dF Tryz.underlying183 (fun _ => by kernel_rfl) (mO (hwf j (by omega)).1 (hwf j (by omega)).2) (r8 hup) ?_
    refine gK 5 [(12, .bool false)] [] ?_
    refine NS ?_
    refine gK 1 [(54, .bool false)] [] ?_
    refine NN ?_
    refine CF ?_
    refine af.skip (NX ?_)
    refine af.qP 7 (by kernel_rfl) (by kernel_rfl) ?_
    refine fI.seg (k' := 7) (fr' := [(0, .pointer (some ⟨(aB A), ay A + i * 10, none⟩)), (1, .map (some mb)), (2, .map (some mp)), (7, .string (en (nd ns i).ah j).name), (16, .slice (L.eA i) ((nd ns i).ah.length) ((L.eC i))), (17, vI ↑((nd ns i).ah.length)), (18, vI ↑j), (55, .map (some mp)), (57, vI ((en (nd ns i).ah j).id)), (61, vI ((nd ns i).id))]) (aV := [(Rd β ⟨(aB A), ay A + i * 10, none⟩ (.int .i64 ((nd ns i).id))), b1 = b1]) [o_, o_, ⟨[.at 3], none, none, none, none⟩, o_, o_, o_, ⟨[.old (.int .i64 ((nd ns i).id))], none, none, none, none⟩] [0, 1, 2, 7, 16, 17, 18, 55, 57, 61] (fun _ _ => by kernel_rfl) ⟨aD.rd hG (i := i) (by omega) (j := 0) rfl, rfl, trivial⟩ (by decide) ?_
    refine fI.done rfl ?_
    refine aj.jY 1 (d := none) (t := 183) (K := 3) (E := 3) (b := mp) (n := (cx ns i j ++ ps).length) (f := (mf (pf ((cx ns i j ++ ps).map (fw ns))))) (x := (.tmp 55)) (ix := (.tmp 57)) (y := (.tmp 61)) (key := .int .i64 ((en (nd ns i).ah j).id)) (u := .int .i64 ((nd ns i).id)) (kl := (.int .i64 (en (nd ns i).ah j).id)) (n' := (cx ns i (j + 1) ++ ps).length) (f' := (mf (pf ((cx ns i (j + 1) ++ ps).map (fw ns))))) (fun _ => by kernel_rfl) (by kernel_rfl) (fun _ => by kernel_rfl) (fun _ => by kernel_rfl) (fun _ => by kernel_rfl) dF Tryz.underlying183 (by have := BN ns i j; rw [List.length_append]; unfold maxLen; omega) (mO (hwf j (by omega)).1 (hwf j (by omega)).2) (HV (r8 hup) h46) (HT hat h46) ?_
    refine NL (ai.aP (NX (af.region ?_)))
    refine gK 2 [(18, vI ↑(j + 1))] [(0, p_ ⟨[], none, none, none, some (vI ↑(j + 1))⟩ [(Value.int .i64 (IntKind.wrap .i64 (((j : Nat) : Int) + 1))) = (.int .i64 ↑(j + 1))] ⟨bF (by omega) (by omega) (by omega), trivial⟩)] ?_
    refine NL ?_
    exact ai.turn ((j + 1)) (idx := [0, 1, 2, 7, 16, 17, 18]) (pk := [0, 1, 2]) (show (((j + 1)) ≤ (nd ns i).ah.length) ∧ (∀ t, t < ((j + 1)) → jR ns i t) ∧ (((cx ns i ((j + 1)) ++ ps).map Prod.fst).Nodup) from ⟨by omega, fun t ht => (by rcases Nat.lt_succ_iff_lt_or_eq.1 ht with h | h; exact hok t h; subst h; exact ⟨hat, vH, pH⟩), (Ek hat h46 hup hnd)⟩) (by show (nd ns i).ah.length - ((j + 1)) < (nd ns i).ah.length - j; omega) (fun _ => by kernel_rfl) rfl (by kernel_rfl)
   refine aj.ql 1 (d := (some 51)) (t := 183) (K := 3) (E := 3) (b := mp) (n := (cx ns i j ++ ps).length) (f := (mf (pf ((cx ns i j ++ ps).map (fw ns))))) (x := (.tmp 48)) (ix := (.tmp 50)) (key := .int .i64 ((en (nd ns i).ah j).id)) (z := .int .i64 0) (kl := (.int .i64 (en (nd ns i).ah j).id)) (r := (some (vI y))) (fun _ => by kernel_rfl) (by kernel_rfl) (fun _ => by kernel_rfl) (fun _ => by kernel_rfl) dF Tryz.underlying183 (fun _ => by kernel_rfl) (mO (hwf j (by omega)).1 (hwf j (by omega)).2) (JE hup) ?_
   refine gK 5 [(12, .bool true)] [] ?_
   refine NS ?_
   refine gK 1 [(54, .bool true)] [] ?_
   refine NN ?_
   refine CT ?_
   refine SR ?_
   refine gK 1 [(6, .bool false)] [] ?_
   refine NN (af.ret (ai.ar (ai.aH (ai.ar (ai.ar (ai.aH (ai.ar ?_)))))))
   exact RT (l := []) (.bool false) [2] (.inr ⟨rfl, Dj hr hps hok hat h46 hup (by omega), rfl⟩)
  refine aj.dM 0 (d := (some 25)) (t := 143) (K := 3) (E := 146) (b := mb) (n := ns.length) (f := (mf (bf A ns ns.length))) (x := (.tmp 22)) (ix := (.tmp 24)) (key := .int .i64 ((en (nd ns i).ah j).id)) (z := .pointer none) (kl := (.int .i64 (en (nd ns i).ah j).id)) (r := none) (fun _ => by kernel_rfl) (by kernel_rfl) (fun _ => by kernel_rfl) (fun _ => by kernel_rfl) dF Tryz.underlying143 (fun _ => by kernel_rfl) (mO (hwf j (by omega)).1 (hwf j (by omega)).2) (Kh hat) ?_
  refine gK 1 [(10, .pointer none)] [] ?_
  refine NN (af.seq (SR ?_))
  refine gK 14 [(39, .bool true)] [] ?_
  refine NN ?_
  refine CT ?_
  refine SR ?_
  refine gK 1 [(6, .bool false)] [] ?_
  refine NN (af.ret (ai.ar (ai.aH (ai.ar (ai.ar (ai.aH (ai.ar ?_)))))))
  exact RT (l := []) (.bool false) [2] (.inr ⟨rfl, fun h => hat (h.ah j (by omega)).at_, rfl⟩)
 refine af.exit (ai.bq (ai.bq (ai.cL (NX (SR ?_)))))
 refine gK 1 [(6, .bool true)] [] ?_
 refine NN (af.ret ?_)
 exact RT (l := [.abs (aI Tryz.prog 3 mb (mf (bf A ns ns.length)) ns.length), .abs (aI Tryz.prog 3 mp (mf (pf ((cx ns i j ++ ps).map (fw ns)))) ((cx ns i j ++ ps).length))]) (.bool true) [0, 1, 2] (.inl ⟨rfl, ⟨fun t ht => hok t (by omega), by have := hnd; rwa [show j = (nd ns i).ah.length by omega] at this⟩, by rw [show j = (nd ns i).ah.length by omega]⟩)
end
section
open Go.RowKit Go.Maps
def cX (ns : List aK) : Nat → Nat
  | 0 => 0
  | k + 1 => cX ns k + (nd ns k).ah.length
def jJ (ns : List aK) : Nat → Int
  | 0 => 0
  | k + 1 => (nd ns k).id
structure bL (ns : List aK) : Prop where
  len : ns.length ≤ 4096
  node : ∀ i, i < ns.length → kN (nd ns i)
  ids : ∀ i, i < ns.length → 1 ≤ (nd ns i).id ∧ (nd ns i).id ≤ 1099511627776
  rise : bV ns
  sum : cX ns ns.length ≤ 8192
  ah : ∀ i, i < ns.length → ∀ j, j < (nd ns i).ah.length → jR ns i j
  nodup : ((dz ns ns.length).map Prod.fst).Nodup
  ends : ru ((dz ns ns.length).map (fw ns))
noncomputable instance (ns : List aK) : Decidable (bL ns) := Classical.propDecidable _
theorem bL.last {ns : List aK} (h : bL ns) {k : Nat} (hk : k < ns.length) : jJ ns k < (nd ns k).id := by
  cases k with
  | zero => have := (h.ids 0 hk).1; show (0 : Int) < _; omega
  | succ k => exact h.rise k (k + 1) (Nat.lt_succ_self k) hk
structure nj (ns : List aK) (k : Nat) : Prop where
  node : ∀ i, i < k → kN (nd ns i)
  ids : ∀ i, i < k → 1 ≤ (nd ns i).id ∧ (nd ns i).id ≤ 1099511627776
  rise : ∀ i j, i < j → j < k → (nd ns i).id < (nd ns j).id
theorem nj.zero (ns : List aK) : nj ns 0 := ⟨fun i h => absurd h (Nat.not_lt_zero i), fun i h => absurd h (Nat.not_lt_zero i), fun _ j _ h => absurd h (Nat.not_lt_zero j)⟩
theorem nj.last {ns : List aK} {k : Nat} (h : nj ns k) : 0 ≤ jJ ns k ∧ jJ ns k ≤ 1099511627776 := by
  cases k with
  | zero => exact ⟨Int.le_refl _, by show (0 : Int) ≤ 1099511627776; decide⟩
  | succ k => have := h.ids k (Nat.lt_succ_self k); exact ⟨by show 0 ≤ (nd ns k).id; omega, this.2⟩
theorem nj.step {ns : List aK} {k : Nat} (h : nj ns k) (h1 : jJ ns k < (nd ns k).id) (h2 : (nd ns k).id ≤ 1099511627776) (h3 : kN (nd ns k)) : nj ns (k + 1) := by
  have hl := h.last
  refine ⟨fun i hi => ?_, fun i hi => ?_, fun i j hij hj => ?_⟩
  ·rcases Nat.lt_succ_iff_lt_or_eq.1 hi with e | e
   ·exact h.node i e
   rw [e]; exact h3
  ·rcases Nat.lt_succ_iff_lt_or_eq.1 hi with e | e
   ·exact h.ids i e
   rw [e]; omega
  rcases Nat.lt_succ_iff_lt_or_eq.1 hj with e | e
  ·exact h.rise i j hij e
  subst e
  cases j with
  | zero => omega
  | succ m =>
    have h4 : (nd ns m).id < (nd ns (m + 1)).id := h1
    rcases Nat.lt_succ_iff_lt_or_eq.1 hij with e | e
    ·have := h.rise i m e (Nat.lt_succ_self m); omega
    rw [e]; exact h4
theorem CW {ns : List aK} {k : Nat} (h : ∀ i, i < k → (nd ns i).id < (nd ns k).id) (hk : k < ns.length) : jZ ns (nd ns k).id = (k : Int) := by
  unfold jZ
  have hg : ∀ j (hj : j < ns.length), nd ns j = ns[j] := fun j hj => by
    unfold nd
    rw [List.getD_eq_getElem?_getD, List.getElem?_eq_getElem hj]
    rfl
  have : ns.findIdx? (fun n => n.id == (nd ns k).id) = some k := by
    rw [List.findIdx?_eq_some_iff_getElem]
    refine ⟨hk, by rw [← hg k hk]; simp, fun j hj => ?_⟩
    have := h j hj
    rw [← hg j (by omega)]
    simp
    omega
  rw [this]
theorem Mx {A : Option Addr} {ns : List aK} {k : Nat} (h : ∀ i, i < k → (nd ns i).id < (nd ns k).id) (hk : k < ns.length) :
    jF (mf (bf A ns k)) (.int .i64 (nd ns k).id) (some (.pointer (some ⟨aB A, ay A + k * 10, none⟩))) = mf (bf A ns (k + 1)) := by
  have ha := CW h hk
  rw [BG]
  congr 1
  funext z
  unfold bf
  by_cases e : z = (nd ns k).id
  ·subst e
   rw [if_pos rfl, if_pos ⟨by omega, by omega⟩]
   unfold tgt
   rw [ha]
   rfl
  rw [if_neg e]
  by_cases e1 : 0 ≤ jZ ns z ∧ jZ ns z < (k : Int)
  ·rw [if_pos e1, if_pos ⟨e1.1, by omega⟩]
  rw [if_neg e1, if_neg (fun e2 => ?_)]
  have e3 : jZ ns z = (k : Int) := by omega
  have e4 := (kO e2.1).2
  rw [e4.2] at e3
  have e5 : tgt ns z = k := by omega
  rw [e5] at e4
  exact e e4.1.symm
theorem Jd {A : Option Addr} {ns : List aK} {k : Nat} (h : ∀ i, i < k → (nd ns i).id < (nd ns k).id) (hk : k < ns.length) : (if ((mf (bf A ns k)) (.int .i64 (nd ns k).id)).isSome then k else k + 1) = k + 1 := by
  have ha := CW h hk
  have : mf (bf A ns k) (.int .i64 (nd ns k).id) = none := if_neg (fun e => by omega)
  rw [this]
  rfl
theorem nj.below {ns : List aK} {k : Nat} (h : nj ns k) (h1 : jJ ns k < (nd ns k).id) : ∀ i, i < k → (nd ns i).id < (nd ns k).id := by
  intro i hi
  cases k with
  | zero => omega
  | succ m =>
    have h1 : (nd ns m).id < (nd ns (m + 1)).id := h1
    rcases Nat.lt_succ_iff_lt_or_eq.1 hi with e | e
    ·have := h.rise i m e (Nat.lt_succ_self m); omega
    rw [e]; exact h1
theorem KA {A : Option Addr} {ns : List aK} : mf (bf A ns 0) = fun _ => none := by
  rw [← yZ]
  congr 1
  funext z
  exact if_neg (fun e => by omega)
theorem KC {ns : List aK} : mf (pf ((dz ns 0).map (fw ns))) = fun _ => none := by
  rw [← yZ]
  congr 1
theorem sM {ns : List aK} {i : Nat} (hi : i ≤ ns.length) (h : ∀ a, a < i → ∀ j, j < (nd ns a).ah.length → jR ns a j) : ∀ p, p ∈ dz ns i → p.1 < ns.length ∧ p.2 < ns.length := by
  induction i with
  | zero => intro p hp; cases hp
  | succ i ih =>
    intro p hp
    rw [dz] at hp
    rcases List.mem_append.1 hp with hp | hp
    ·have := BO (h i (Nat.lt_succ_self i)) p hp
     exact ⟨this.1, by omega⟩
    exact ih (by omega) (fun a ha => h a (by omega)) p hp
theorem CX (ns : List aK) (i : Nat) : (dz ns i).length ≤ cX ns i := by
  induction i with
  | zero => exact Nat.le_refl _
  | succ i ih =>
    rw [dz, cX, List.length_append]
    have := BN ns i (nd ns i).ah.length
    omega
theorem qY {ns : List aK} {i m : Nat} (h : i ≤ m) : cX ns i ≤ cX ns m := by
  induction m with
  | zero => rw [Nat.le_zero.1 h]; exact Nat.le_refl _
  | succ m ih =>
    rcases Nat.lt_or_ge m i with h1 | h1
    ·have : i = m + 1 := by omega
     subst this
     exact Nat.le_refl _
    have := ih h1
    rw [cX]
    omega
theorem GX {ns : List aK} {ps : List (Nat × Nat)} (hp : ∀ p, p ∈ ps → p.1 < ns.length ∧ p.2 < ns.length) (hid : ∀ i, i < ns.length → 1 ≤ (nd ns i).id ∧ (nd ns i).id ≤ 1099511627776) :
    ∀ z y, up (ps.map (fw ns)) z = some y → (-9223372036854775808 ≤ z ∧ z ≤ 9223372036854775807) ∧ (-9223372036854775808 ≤ y ∧ y ≤ 9223372036854775807) := by
  intro z y h
  unfold up at h
  induction ps with
  | nil => cases h
  | cons p ps ih =>
    obtain ⟨a, b⟩ := p
    rw [List.map_cons, fw, List.lookup_cons] at h
    by_cases e : (z == (nd ns a).id) = true
    ·rw [e] at h
     cases h
     have h1 := hp (a, b) (List.mem_cons_self ..)
     have h2 := hid a h1.1
     have h3 := hid b h1.2
     have : z = (nd ns a).id := by simpa using e
     show (_ ∧ _) ∧ (-9223372036854775808 ≤ (nd ns b).id ∧ (nd ns b).id ≤ 9223372036854775807)
     omega
    have e : (z == (nd ns a).id) = false := by simpa using e
    rw [e] at h
    exact ih (fun p hp' => hp p (List.mem_cons_of_mem _ hp')) h
theorem Mz {p : Prop} [Decidable p] {v : Value} {l : List HP} (h : v = .bool (decide p) ∧ l = []) : (v = .bool true ∧ p ∧ l = []) ∨ (v = .bool false ∧ ¬ p ∧ l = []) := by
  by_cases hp : p
  ·exact .inl ⟨by rw [h.1, decide_eq_true hp], hp, h.2⟩
  exact .inr ⟨by rw [h.1, decide_eq_false hp], hp, h.2⟩
theorem r9.next {ns : List aK} {i : Nat} (h : r9 ns i (dz ns i)) : ((dz ns (i + 1)).map Prod.fst).Nodup := h.nodup
theorem bL.row {ns : List aK} (h : bL ns) {i : Nat} (hi : i < ns.length) : r9 ns i (dz ns i) := by
  refine ⟨h.ah i hi, ?_⟩
  obtain ⟨l, hl⟩ := FK (ns := ns) (show i + 1 ≤ ns.length from hi)
  have := h.nodup
  rw [hl] at this
  exact tM this
end
section
open Go.RowKit
attribute [local irreducible] aj aS af ai
theorem KD {β : Bs} (A : Option Addr) (c : Nat) (ns : List aK) (L : Lay) (hG : aD β A ns L) (hl : ns.length ≤ 1048576) (hd : ∀ i, i < ns.length → (nd ns i).data.length ≤ 140737488355328 ∧ (nd ns i).ah.length ≤ 1048576) (hwf : ∀ i, i < ns.length → ∀ j, j < (nd ns i).ah.length → -9223372036854775808 ≤ (ent ns i j).id ∧ (ent ns i j).id ≤ 9223372036854775807) (hnm : ∀ i, i < ns.length → ∀ j, j < (nd ns i).ah.length → (ent ns i j).name.size ≤ 1048576) :
    Spec Tryz.prog β 68 #[.agg #[.slice A ns.length c]] [] (fun v l => (∃ mb, v = .tuple #[.map (some mb), .bool true] ∧ bL ns ∧ l = [.abs (aI Tryz.prog 3 mb (mf (bf A ns ns.length)) ns.length)]) ∨ (∃ m, v = .tuple #[m, .bool false] ∧ ¬ bL ns ∧ l = [])) := by
 refine Spec.enter Tryz.func68 rfl Tryz.ntmps68 (Nat.le_of_ble_eq_true rfl) (fun R => ?_)
 refine SR ?_
 refine gN 3 (fun b1 => [(1, vP b1)]) (fun _ => []) (fun _ => []) (fun b1 => .blk b1 [.slice A (ns.length) (c)] 24) (fun b1 => ?_)
 refine NN (af.seq (SR ?_))
 refine gK 4 [(14, .bool (decide ((((ns.length : Nat) : Int) : Int) > (4096 : Int))))] [(1, a_ 1 b1)] ?_
 refine NN ?_
 refine af.bA (p := (((ns.length : Nat) : Int) : Int) > (4096 : Int)) (fun _ => by kernel_rfl) (fun gH => ?_) (fun gH => ?_)
 ·refine SR ?_
  refine gK 2 [(2, .map none), (3, .bool false)] [] ?_
  refine NN (af.ret (ai.ar ?_))
  exact RT (.tuple #[.map none, .bool false]) [0] (.inr ⟨_, rfl, fun h => by have := h.len; omega, rfl⟩)
 refine af.skip (NX (SR ?_))
 refine aj.lJ (d := (some 15)) (t := 143) (fun _ => by kernel_rfl) Tryz.prog rfl 3 (fun m2 => ?_)
 refine gK 1 [(4, .map (some m2))] [] ?_
 refine NS ?_
 refine aj.eH 2 (p := .abs (aI Tryz.prog 3 m2 (fun _ => none) 0)) (p' := .abs (aI Tryz.prog 3 m2 (mf (bf A ns 0)) 0)) (by kernel_rfl) (by rw [KA]) ?_
 refine gK 2 [(5, vI 0), (6, vI 0)] [] ?_
 refine NN (af.seq (SR ?_))
 refine gK 4 [(18, vI ↑ns.length), (19, vI 0)] [(1, a_ 1 b1)] ?_
 refine NN (af.block ?_)
 refine af.loop (ι := Nat) (fun (k : Nat) => (k ≤ ns.length) ∧ (nj ns k) ∧ (cX ns k ≤ k * 1048576)) (fun (k : Nat) => ns.length - k) (fun (k : Nat) => [(1, vP b1), (4, .map (some m2)), (5, vI (jJ ns k)), (6, vI ↑(cX ns k)), (18, vI ↑ns.length), (19, vI ↑k)]) (fun (k : Nat) => [.blk b1 [.slice A (ns.length) (c)] 24, .abs (aI Tryz.prog 3 m2 (mf (bf A ns k)) k), .abs R]) 0 (idx := [1, 4, 5, 6, 18, 19]) (pk := [1, 2, 0]) (show (0 ≤ ns.length) ∧ (nj ns 0) ∧ (cX ns 0 ≤ 0 * 1048576) from ⟨Nat.zero_le _, nj.zero ns, Nat.zero_le _⟩) (fun _ => by kernel_rfl) rfl (by kernel_rfl) ?_
 rintro k ⟨hk, hu, hs⟩
 show af _ _ _ _ [(1, vP b1), (4, .map (some m2)), (5, vI (jJ ns k)), (6, vI ↑(cX ns k)), (18, vI ↑ns.length), (19, vI ↑k)] [.blk b1 [.slice A (ns.length) (c)] 24, .abs (aI Tryz.prog 3 m2 (mf (bf A ns k)) k), .abs R] _
 have hk4 := (hd k)
 refine SR ?_
 refine gK 1 [(20, .bool (decide ((((k : Nat) : Int) : Int) < (((ns.length : Nat) : Int) : Int))))] [] ?_
 refine NN (af.seq ?_)
 refine af.bA (p := (((k : Nat) : Int) : Int) < (((ns.length : Nat) : Int) : Int)) (fun _ => by kernel_rfl) (fun mK => ?_) (fun mK => ?_)
 ·refine af.skip (NX (af.seq (af.block (SR ?_))))
  refine gK 2 [(7, vI ↑k)] [] ?_
  refine NS ?_
  refine gK 5 [(8, .pointer (some ⟨(aB A), ay A + k * 10, none⟩))] [(1, a_ 0 b1), (3, p_ ⟨[], some k, none, some ⟨(aB A), ay A, none⟩, none⟩ [((k : Nat) : Int) = ((k : Nat) : Int), k < ns.length, (⟨(aB A), ay A, none⟩ : Addr).spot = none, (A : Option Addr) = some ⟨(aB A), ay A, none⟩] ⟨rfl, by omega, rfl, aD.hd hG (i := k) (by omega), trivial⟩)] ?_
  refine NN (af.seq (SR ?_))
  refine gK 7 [(32, .bool (decide (((nd ns k).id : Int) ≤ (jJ ns k : Int))))] [(3, p_ ⟨[.old (.int .i64 ((nd ns k).id))], none, none, none, none⟩ [(Rd β ⟨(aB A), ay A + k * 10, none⟩ (.int .i64 ((nd ns k).id)))] ⟨aD.rd hG (i := k) (by omega) (j := 0) rfl, trivial⟩)] ?_
  refine aj.fU 32 (((nd ns k).id : Int) ≤ (jJ ns k : Int)) (fun _ => by kernel_rfl) (fun Lj => ?_) (fun Lj => ?_)
  ·refine gK 11 [(43, .bool true)] [] ?_
   refine NN ?_
   refine CT ?_
   refine SR ?_
   refine gK 2 [(2, .map none), (3, .bool false)] [] ?_
   refine NN (af.ret (ai.ar (ai.aH (ai.ar (ai.ar (ai.aH (ai.ar ?_)))))))
   exact RT (.tuple #[.map none, .bool false]) [2] (.inr ⟨_, rfl, fun h => by have := h.last (show k < ns.length by omega); omega, rfl⟩)
  refine gK 7 [(39, .bool (decide (((nd ns k).id : Int) > (1099511627776 : Int))))] [(3, p_ ⟨[.old (.int .i64 ((nd ns k).id))], none, none, none, none⟩ [(Rd β ⟨(aB A), ay A + k * 10, none⟩ (.int .i64 ((nd ns k).id)))] ⟨aD.rd hG (i := k) (by omega) (j := 0) rfl, trivial⟩)] ?_
  refine aj.fU 39 (((nd ns k).id : Int) > (1099511627776 : Int)) (fun _ => by kernel_rfl) (fun pH => ?_) (fun pH => ?_)
  ·refine gK 4 [(43, .bool true)] [] ?_
   refine NN ?_
   refine CT ?_
   refine SR ?_
   refine gK 2 [(2, .map none), (3, .bool false)] [] ?_
   refine NN (af.ret (ai.ar (ai.aH (ai.ar (ai.ar (ai.aH (ai.ar ?_)))))))
   exact RT (.tuple #[.map none, .bool false]) [2] (.inr ⟨_, rfl, fun h => by have := (h.ids k (by omega)).2; omega, rfl⟩)
  refine gK 1 [(40, .pointer (some ⟨(aB A), ay A + k * 10, none⟩))] [] ?_
  refine gL [] (HM A ns L hG k (by omega)) ?_
  rintro _ _ ⟨rfl, rfl⟩
  refine gK 2 [(43, .bool (!(decide (kN (nd ns k)))))] [] ?_
  refine NN ?_
  refine af.cI (p := kN (nd ns k)) (fun _ => by kernel_rfl) (fun MB => ?_) (fun MB => ?_)
  ·refine SR ?_
   refine gK 2 [(2, .map none), (3, .bool false)] [] ?_
   refine NN (af.ret (ai.ar (ai.aH (ai.ar (ai.ar (ai.aH (ai.ar ?_)))))))
   exact RT (.tuple #[.map none, .bool false]) [2] (.inr ⟨_, rfl, fun h => MB (h.node k (by omega)), rfl⟩)
  refine af.skip (NX (SR ?_))
  refine gK 5 [(5, vI ((nd ns k).id))] [(3, p_ ⟨[.old (.int .i64 ((nd ns k).id))], none, none, none, none⟩ [(Rd β ⟨(aB A), ay A + k * 10, none⟩ (.int .i64 ((nd ns k).id)))] ⟨aD.rd hG (i := k) (by omega) (j := 0) rfl, trivial⟩)] ?_
  refine NS ?_
  refine gK 6 [(48, .map (some m2)), (52, vI ((nd ns k).id)), (53, .pointer (some ⟨(aB A), ay A + k * 10, none⟩))] [(4, p_ ⟨[.old (.int .i64 ((nd ns k).id))], none, none, none, none⟩ [(Rd β ⟨(aB A), ay A + k * 10, none⟩ (.int .i64 ((nd ns k).id)))] ⟨aD.rd hG (i := k) (by omega) (j := 0) rfl, trivial⟩)] ?_
  refine aj.jY 1 (d := none) (t := 143) (K := 3) (E := 146) (b := m2) (n := k) (f := (mf (bf A ns k))) (x := (.tmp 48)) (ix := (.tmp 52)) (y := (.tmp 53)) (key := .int .i64 ((nd ns k).id)) (u := .pointer (some ⟨(aB A), ay A + k * 10, none⟩)) (kl := (.int .i64 (nd ns k).id)) (n' := k + 1) (f' := (mf (bf A ns (k + 1)))) (fun _ => by kernel_rfl) (by kernel_rfl) (fun _ => by kernel_rfl) (fun _ => by kernel_rfl) (fun _ => by kernel_rfl) dF Tryz.underlying143 (by unfold maxLen; omega) (mO (by have := hu.last; omega) (by omega)) (Jd (hu.below (by omega)) (by omega)) (Mx (hu.below (by omega)) (by omega)) ?_
  refine NN (af.region ?_)
  refine gK 8 [(6, vI ↑((cX ns k) + ((nd ns k).ah.length)))] [(4, p_ ⟨[.old (.slice (L.eA k) ((nd ns k).ah.length) ((L.eC k)))], none, none, none, none⟩ [(Rd β ⟨(aB A), ay A + k * 10 + 9, none⟩ (.slice (L.eA k) ((nd ns k).ah.length) ((L.eC k))))] ⟨aD.rd hG (i := k) (by omega) (j := 9) rfl, trivial⟩), (6, p_ ⟨[], none, none, none, some (vI ↑((cX ns k) + ((nd ns k).ah.length)))⟩ [(Value.int .i64 (IntKind.wrap .i64 (((cX ns k : Nat) : Int) + (((nd ns k).ah.length : Nat) : Int)))) = (.int .i64 ↑((cX ns k) + ((nd ns k).ah.length)))] ⟨bF (by omega) (by omega) (by omega), trivial⟩)] ?_
  refine NL (ai.aP (NX (af.region ?_)))
  refine gK 2 [(19, vI ↑(k + 1))] [(0, p_ ⟨[], none, none, none, some (vI ↑(k + 1))⟩ [(Value.int .i64 (IntKind.wrap .i64 (((k : Nat) : Int) + 1))) = (.int .i64 ↑(k + 1))] ⟨bF (by omega) (by omega) (by omega), trivial⟩)] ?_
  refine NL ?_
  exact ai.turn ((k + 1)) (idx := [1, 4, 5, 6, 18, 19]) (pk := [0, 1, 2]) (show (((k + 1)) ≤ ns.length) ∧ (nj ns ((k + 1))) ∧ (cX ns ((k + 1)) ≤ ((k + 1)) * 1048576) from ⟨by omega, hu.step (by omega) (by omega) MB, by have := (hd k (by omega)).2; show cX ns k + _ ≤ _; omega⟩) (by show ns.length - ((k + 1)) < ns.length - k; omega) (fun _ => by kernel_rfl) rfl (by kernel_rfl)
 refine af.exit (ai.bq (ai.bq (ai.cL (NX (af.seq (SR ?_))))))
 refine gK 2 [(63, .bool (decide ((((cX ns k : Nat) : Int) : Int) > (8192 : Int))))] [] ?_
 refine NN ?_
 refine af.bA (p := (((cX ns k : Nat) : Int) : Int) > (8192 : Int)) (fun _ => by kernel_rfl) (fun h63 => ?_) (fun h63 => ?_)
 ·refine SR ?_
  refine gK 2 [(2, .map none), (3, .bool false)] [] ?_
  refine NN (af.ret (ai.ar ?_))
  exact RT (.tuple #[.map none, .bool false]) [2] (.inr ⟨_, rfl, fun h => by have h1 := h.sum; rw [show ns.length = k by omega] at h1; omega, rfl⟩)
 refine af.skip (NX (SR ?_))
 refine aj.lJ (d := (some 64)) (t := 183) (fun _ => by kernel_rfl) Tryz.prog rfl 3 (fun m3 => ?_)
 refine gK 1 [(9, .map (some m3))] [] ?_
 refine NN (af.seq (SR ?_))
 refine aj.eH 3 (p := .abs (aI Tryz.prog 3 m3 (fun _ => none) 0)) (p' := .abs (aI Tryz.prog 3 m3 (mf (pf ((dz ns 0).map (fw ns)))) ((dz ns 0).length))) (by kernel_rfl) (by rw [KC]; rfl) ?_
 refine aj.eH 1 (p := .abs (aI Tryz.prog 3 m2 (mf (bf A ns k)) k)) (p' := .abs (aI Tryz.prog 3 m2 (mf (bf A ns ns.length)) ns.length)) (by kernel_rfl) (by rw [show k = ns.length by omega]) ?_
 refine gK 4 [(67, vI ↑ns.length), (68, vI 0)] [(1, a_ 0 b1)] ?_
 refine NN (af.block ?_)
 have J6 : bV ns := fun a b hab hb => hu.rise a b hab (by omega)
 have hsum : cX ns ns.length ≤ 8192 := by rw [show ns.length = k by omega]; omega
 refine af.loop (ι := Nat) (fun (i : Nat) => (i ≤ ns.length) ∧ (∀ a, a < i → ∀ j, j < (nd ns a).ah.length → jR ns a j) ∧ (((dz ns i).map Prod.fst).Nodup)) (fun (i : Nat) => ns.length - i) (fun (i : Nat) => [(1, vP b1), (4, .map (some m2)), (9, .map (some m3)), (67, vI ↑ns.length), (68, vI ↑i)]) (fun (i : Nat) => [.blk b1 [.slice A (ns.length) (c)] 24, .abs (aI Tryz.prog 3 m2 (mf (bf A ns ns.length)) ns.length), .abs (aI Tryz.prog 3 m3 (mf (pf ((dz ns i).map (fw ns)))) ((dz ns i).length)), .abs R]) 0 (idx := [1, 4, 9, 67, 68]) (pk := [0, 1, 3, 2]) (show (0 ≤ ns.length) ∧ (∀ a, a < 0 → ∀ j, j < (nd ns a).ah.length → jR ns a j) ∧ (((dz ns 0).map Prod.fst).Nodup) from ⟨Nat.zero_le _, fun a ha => absurd ha (Nat.not_lt_zero a), List.nodup_nil⟩) (fun _ => by kernel_rfl) rfl (by kernel_rfl) ?_
 rintro i ⟨hi, Bj, hnd⟩
 show af _ _ _ _ [(1, vP b1), (4, .map (some m2)), (9, .map (some m3)), (67, vI ↑ns.length), (68, vI ↑i)] [.blk b1 [.slice A (ns.length) (c)] 24, .abs (aI Tryz.prog 3 m2 (mf (bf A ns ns.length)) ns.length), .abs (aI Tryz.prog 3 m3 (mf (pf ((dz ns i).map (fw ns)))) ((dz ns i).length)), .abs R] _
 refine SR ?_
 refine gK 1 [(69, .bool (decide ((((i : Nat) : Int) : Int) < (((ns.length : Nat) : Int) : Int))))] [] ?_
 refine NN (af.seq ?_)
 refine af.bA (p := (((i : Nat) : Int) : Int) < (((ns.length : Nat) : Int) : Int)) (fun _ => by kernel_rfl) (fun P0 => ?_) (fun P0 => ?_)
 ·refine af.skip (NX (af.seq (af.block (SR ?_))))
  refine gK 2 [(10, vI ↑i)] [] ?_
  refine NS ?_
  refine gK 6 [(74, .pointer (some ⟨(aB A), ay A + i * 10, none⟩)), (75, .map (some m2)), (76, .map (some m3))] [(1, a_ 0 b1), (3, p_ ⟨[], some i, none, some ⟨(aB A), ay A, none⟩, none⟩ [((i : Nat) : Int) = ((i : Nat) : Int), i < ns.length, (⟨(aB A), ay A, none⟩ : Addr).spot = none, (A : Option Addr) = some ⟨(aB A), ay A, none⟩] ⟨rfl, by omega, rfl, aD.hd hG (i := i) (by omega), trivial⟩)] ?_
  refine gL [1, 2] (Jc A ns L hG J6 i (by omega) (hd i (by omega)).2 (hwf i (by omega)) (hnm i (by omega)) m2 m3 (dz ns i) (by have := CX ns i; have := qY (ns := ns) (show i ≤ ns.length by omega); omega) (fun p hp => (sM (by omega) Bj p hp).1) hnd) ?_
  rintro _ _ (⟨rfl, hro, rfl⟩ | ⟨rfl, hro, rfl⟩)
  ·refine gK 1 [(78, .bool false)] [] ?_
   refine NN ?_
   refine CF ?_
   refine af.skip (ai.aP (NX (af.region ?_)))
   refine gK 2 [(68, vI ↑(i + 1))] [(0, p_ ⟨[], none, none, none, some (vI ↑(i + 1))⟩ [(Value.int .i64 (IntKind.wrap .i64 (((i : Nat) : Int) + 1))) = (.int .i64 ↑(i + 1))] ⟨bF (by omega) (by omega) (by omega), trivial⟩)] ?_
   refine NL ?_
   exact ai.turn ((i + 1)) (idx := [1, 4, 9, 67, 68]) (pk := [2, 0, 1, 3]) (show (((i + 1)) ≤ ns.length) ∧ (∀ a, a < ((i + 1)) → ∀ j, j < (nd ns a).ah.length → jR ns a j) ∧ (((dz ns ((i + 1))).map Prod.fst).Nodup) from ⟨by omega, fun a ha => (by rcases Nat.lt_succ_iff_lt_or_eq.1 ha with h | h; exact Bj a h; subst h; exact hro.ah), hro.next⟩) (by show ns.length - ((i + 1)) < ns.length - i; omega) (fun _ => by kernel_rfl) rfl (by kernel_rfl)
  refine gK 1 [(78, .bool true)] [] ?_
  refine NN ?_
  refine CT ?_
  refine SR ?_
  refine gK 2 [(2, .map none), (3, .bool false)] [] ?_
  refine NN (af.ret (ai.aH (ai.ar (ai.ar (ai.aH (ai.ar ?_))))))
  exact RT (.tuple #[.map none, .bool false]) [1] (.inr ⟨_, rfl, fun h => hro (h.row (by omega)), rfl⟩)
 refine af.exit (ai.bq (ai.bq (ai.cL (NX (SR ?_)))))
 refine gK 2 [(80, .map (some m2)), (81, .map (some m3))] [] ?_
 refine aj.eH 2 (p := .abs (aI Tryz.prog 3 m3 (mf (pf ((dz ns i).map (fw ns)))) ((dz ns i).length))) (p' := .abs (aI Tryz.prog 3 m3 (mf (pf ((dz ns i).map (fw ns)))) (((dz ns i).map (fw ns)).length))) (by kernel_rfl) (by rw [List.length_map]) ?_
 refine gL [2] ((FI m3 ((dz ns i).map (fw ns)) (by rw [List.length_map]; have := CX ns i; have := qY (ns := ns) (show i ≤ ns.length by omega); omega) (GX (sM (by omega) Bj) (fun a ha => hu.ids a (by omega)))).mono (fun v l h => Mz h)) ?_
 rintro _ _ (⟨rfl, MC, rfl⟩ | ⟨rfl, MC, rfl⟩)
 ·refine gK 2 [(2, .map (some m2)), (3, .bool true)] [] ?_
  refine NN (af.ret ?_)
  exact RT (.tuple #[.map (some m2), .bool true]) [1, 2] (.inl ⟨m2, rfl, ⟨by omega, fun a ha => hu.node a (by omega), fun a ha => hu.ids a (by omega), J6, by omega, fun a ha => Bj a (by omega), by have := hnd; rwa [show i = ns.length by omega] at this, by have := MC; rwa [show i = ns.length by omega] at this⟩, rfl⟩)
 refine gK 2 [(2, .map (some m2)), (3, .bool false)] [] ?_
 refine NN (af.ret ?_)
 exact RT (.tuple #[.map (some m2), .bool false]) [2] (.inr ⟨_, rfl, fun h => MC (by have := h.ends; rwa [show ns.length = i by omega] at this), rfl⟩)
theorem CY {β : Bs} (A : Option Addr) (c : Nat) (ns : List aK) (L : Lay) (hG : aD β A ns L) (hl : ns.length ≤ 1048576) (hd : ∀ i, i < ns.length → (nd ns i).data.length ≤ 140737488355328 ∧ (nd ns i).ah.length ≤ 1048576) (hwf : ∀ i, i < ns.length → ∀ j, j < (nd ns i).ah.length → -9223372036854775808 ≤ (ent ns i j).id ∧ (ent ns i j).id ≤ 9223372036854775807) (hnm : ∀ i, i < ns.length → ∀ j, j < (nd ns i).ah.length → (ent ns i j).name.size ≤ 1048576) :
    Spec Tryz.prog β 27 #[.agg #[.slice A ns.length c]] [] (fun v l => v = vI (if bL ns then 0 else 140) ∧ l = []) := by
 refine Spec.enter Tryz.func27 rfl Tryz.ntmps27 (Nat.le_of_ble_eq_true rfl) (fun R => ?_)
 refine SR ?_
 refine gN 2 (fun b4 => [(1, vP b4)]) (fun _ => []) (fun _ => []) (fun b4 => .blk b4 [.slice A (ns.length) (c)] 24) (fun b4 => ?_)
 refine NN (af.seq (SR ?_))
 refine gK 1 [(6, .agg #[.slice A (ns.length) (c)])] [(0, a_ 1 b4)] ?_
 refine gL [] (KD A c ns L hG hl hd hwf hnm) ?_
 rintro _ _ (⟨mb, rfl, hok, rfl⟩ | ⟨m, rfl, hok, rfl⟩)
 ·refine gK 5 [(4, .bool true)] [] ?_
  refine NS ?_
  refine gK 2 [(11, .bool false)] [] ?_
  refine NN ?_
  refine CF ?_
  refine af.skip (NX (SR ?_))
  refine gK 1 [(2, vI 0)] [] ?_
  refine NN (af.ret ?_)
  exact RT (vI 0) [1] (⟨congrArg (Value.int .i64) (if_pos hok).symm, rfl⟩)
 refine gK 5 [(4, .bool false)] [] ?_
 refine NS ?_
 refine gK 2 [(11, .bool true)] [] ?_
 refine NN ?_
 refine CT ?_
 refine SR ?_
 refine gK 1 [(2, vI 140)] [] ?_
 refine NN (af.ret (ai.ar ?_))
 exact RT (vI 140) [0] (⟨congrArg (Value.int .i64) (if_neg hok).symm, rfl⟩)
end
section
open Go.RowKit Go.Maps
def O8 (ed : List (Nat × Nat)) (k : Nat) : Int := match ed.lookup k with | some a => (a : Int) | none => -1
structure Q0 (n : Nat) (pl : List Int) (ed : List (Nat × Nat)) : Prop where
  len : pl.length = n
  at_ : ∀ k, k < n → pl.getD k 0 = O8 ed k
theorem GY {ns : List aK} {ed : List (Nat × Nat)} (hp : ∀ p, p ∈ ed → p.1 < ns.length) (h : ∀ i, i < ns.length → Ends (ed.map (fw ns)) (nd ns i).id) : ru (ed.map (fw ns)) := by
  intro z
  cases hu : up (ed.map (fw ns)) z with
  | none => exact ⟨0, hu⟩
  | some y =>
    have : ∃ p, p ∈ ed ∧ z = (nd ns p.1).id := by
      unfold up at hu
      clear h
      induction ed with
      | nil => cases hu
      | cons p ed ih =>
        rw [List.map_cons, fw, List.lookup_cons] at hu
        by_cases e : (z == (nd ns p.1).id) = true
        ·exact ⟨p, List.mem_cons_self .., by simpa using e⟩
        have e : (z == (nd ns p.1).id) = false := by simpa using e
        rw [e] at hu
        obtain ⟨q, hq, h2⟩ := ih (fun p hp' => hp p (List.mem_cons_of_mem _ hp')) hu
        exact ⟨q, List.mem_cons_of_mem _ hq, h2⟩
    obtain ⟨p, h1, rfl⟩ := this
    exact h p.1 (hp p h1)
theorem Je {ns : List aK} {i j : Nat} (h1 : 0 ≤ jZ ns (ent ns i j).id) (h2 : bB (ent ns i j).name) (h3 : 0 < j → ¬ gq (ent ns i j).name (ent ns i (j - 1)).name) : jR ns i j := by
  refine ⟨h1, h2, ?_⟩
  cases j with
  | zero =>
    intro h
    have := Dh.1 h
    have h4 := h2.1
    rw [this] at h4
    exact absurd h4 (by decide)
  | succ j => exact h3 (Nat.succ_pos j)
end
section
open Go.RowKit Go.Maps
structure zM (ns : List aK) (i j : Nat) : Prop where
  J7 : i < ns.length
  oy : j < (nd ns i).ah.length
  dir : (nd ns (tgt ns (ent ns i j).id)).kind = 2
section
variable {ns : List aK}
theorem lF {i m : Nat} {p : Nat × Nat} : p ∈ cx ns i m ↔ ∃ j, j < m ∧ (nd ns (tgt ns (ent ns i j).id)).kind = 2 ∧ p = (tgt ns (ent ns i j).id, i) := by
  induction m with
  | zero => simp [cx]
  | succ m ih =>
    by_cases h : (nd ns (tgt ns (ent ns i m).id)).kind = 2
    ·rw [lg h, List.mem_cons, ih]
     refine ⟨fun hp => ?_, fun ⟨j, hj, h1, h2⟩ => ?_⟩
     ·rcases hp with rfl | ⟨j, hj, h1, h2⟩
      ·exact ⟨m, Nat.lt_succ_self m, h, rfl⟩
      exact ⟨j, Nat.lt_succ_of_lt hj, h1, h2⟩
     rcases Nat.lt_succ_iff_lt_or_eq.1 hj with e | e
     ·exact .inr ⟨j, e, h1, h2⟩
     subst e; exact .inl h2
    rw [nH h, ih]
    refine ⟨fun ⟨j, hj, h1⟩ => ⟨j, Nat.lt_succ_of_lt hj, h1⟩, fun ⟨j, hj, h1, h2⟩ => ?_⟩
    rcases Nat.lt_succ_iff_lt_or_eq.1 hj with e | e
    ·exact ⟨j, e, h1, h2⟩
    subst e; exact absurd h1 h
theorem lG {m : Nat} {p : Nat × Nat} : p ∈ dz ns m ↔ ∃ i j, i < m ∧ j < (nd ns i).ah.length ∧ (nd ns (tgt ns (ent ns i j).id)).kind = 2 ∧ p = (tgt ns (ent ns i j).id, i) := by
  induction m with
  | zero => simp [dz]
  | succ m ih =>
    rw [dz, List.mem_append, lF, ih]
    refine ⟨fun h => ?_, fun ⟨i, j, hi, hj, h1, h2⟩ => ?_⟩
    ·rcases h with ⟨j, hj, h1, h2⟩ | ⟨i, j, hi, h⟩
     ·exact ⟨m, j, Nat.lt_succ_self m, hj, h1, h2⟩
     exact ⟨i, j, Nat.lt_succ_of_lt hi, h⟩
    rcases Nat.lt_succ_iff_lt_or_eq.1 hi with e | e
    ·exact .inr ⟨i, j, e, hj, h1, h2⟩
    subst e; exact .inl ⟨j, hj, h1, h2⟩
theorem zM.mem {i j : Nat} (h : zM ns i j) : (tgt ns (ent ns i j).id, i) ∈ dz ns ns.length := lG.2 ⟨i, j, h.J7, h.oy, h.dir, rfl⟩
def Bk (ns : List aK) (m : Nat) : Prop := ∀ i j i' j', zM ns i j → zM ns i' j' → i < m → i' < m → tgt ns (ent ns i j).id = tgt ns (ent ns i' j').id → i = i' ∧ j = j'
theorem Fe {i m : Nat} (h : ∀ j j', j < m → j' < m → (nd ns (tgt ns (ent ns i j).id)).kind = 2 → (nd ns (tgt ns (ent ns i j').id)).kind = 2 → tgt ns (ent ns i j).id = tgt ns (ent ns i j').id → j = j') : ((cx ns i m).map Prod.fst).Nodup := by
  induction m with
  | zero => simp [cx]
  | succ m ih =>
    have ih := ih (fun j j' h1 h2 => h j j' (by omega) (by omega))
    by_cases hk : (nd ns (tgt ns (ent ns i m).id)).kind = 2
    ·rw [lg hk, List.map_cons, List.nodup_cons]
     refine ⟨fun hm => ?_, ih⟩
     obtain ⟨p, hp, e⟩ := List.mem_map.1 hm
     obtain ⟨j, hj, h1, rfl⟩ := lF.1 hp
     have := h j m (by omega) (by omega) h1 hk e
     omega
    rw [nH hk]; exact ih
theorem GZ {i m : Nat} (h : ((cx ns i m).map Prod.fst).Nodup) : ∀ j j', j < m → j' < m → (nd ns (tgt ns (ent ns i j).id)).kind = 2 → (nd ns (tgt ns (ent ns i j').id)).kind = 2 → tgt ns (ent ns i j).id = tgt ns (ent ns i j').id → j = j' := by
  induction m with
  | zero => intro j j' hj; omega
  | succ m ih =>
    intro j j' hj hj' hk hk' e
    by_cases hm : (nd ns (tgt ns (ent ns i m).id)).kind = 2
    ·rw [lg hm, List.map_cons, List.nodup_cons] at h
     rcases Nat.lt_succ_iff_lt_or_eq.1 hj with e1 | e1
     ·rcases Nat.lt_succ_iff_lt_or_eq.1 hj' with e2 | e2
      ·exact ih h.2 j j' e1 e2 hk hk' e
      subst e2; exact absurd (List.mem_map.2 ⟨_, lF.2 ⟨j, e1, hk, rfl⟩, e⟩) h.1
     rcases Nat.lt_succ_iff_lt_or_eq.1 hj' with e2 | e2
     ·subst e1; exact absurd (List.mem_map.2 ⟨_, lF.2 ⟨j', e2, hk', rfl⟩, e.symm⟩) h.1
     omega
    rw [nH hm] at h
    rcases Nat.lt_succ_iff_lt_or_eq.1 hj with e1 | e1
    ·rcases Nat.lt_succ_iff_lt_or_eq.1 hj' with e2 | e2
     ·exact ih h j j' e1 e2 hk hk' e
     subst e2; exact absurd hk' hm
    subst e1; exact absurd hk hm
theorem Ff {m : Nat} (hm : m ≤ ns.length) (h : Bk ns m) : ((dz ns m).map Prod.fst).Nodup := by
  induction m with
  | zero => simp [dz]
  | succ m ih =>
    have ih := ih (by omega) (fun i j i' j' h1 h2 h3 h4 => h i j i' j' h1 h2 (by omega) (by omega))
    rw [dz, List.map_append]
    refine List.nodup_append.2 ⟨Fe fun j j' hj hj' hk hk' e => (h m j m j' ⟨by omega, hj, hk⟩ ⟨by omega, hj', hk'⟩ (by omega) (by omega) e).2, ih, fun a ha b hb e => ?_⟩
    obtain ⟨p, hp, rfl⟩ := List.mem_map.1 ha
    obtain ⟨q, hq, rfl⟩ := List.mem_map.1 hb
    obtain ⟨j, hj, hk, rfl⟩ := lF.1 hp
    obtain ⟨i', j', hi', hj', hk', rfl⟩ := lG.1 hq
    have := (h m j i' j' ⟨by omega, hj, hk⟩ ⟨by omega, hj', hk'⟩ (by omega) (by omega) e).1
    omega
theorem G0 {m : Nat} (h : ((dz ns m).map Prod.fst).Nodup) : Bk ns m := by
  induction m with
  | zero => intro i j i' j' _ _ hi; omega
  | succ m ih =>
    rw [dz, List.map_append] at h
    obtain ⟨h1, h2, h3⟩ := List.nodup_append.1 h
    intro i j i' j' g g' hi hi' e
    rcases Nat.lt_succ_iff_lt_or_eq.1 hi with e1 | e1
    ·rcases Nat.lt_succ_iff_lt_or_eq.1 hi' with e2 | e2
     ·exact ih h2 i j i' j' g g' e1 e2 e
     subst e2
     exact absurd e.symm (h3 _ (List.mem_map.2 ⟨_, lF.2 ⟨j', g'.oy, g'.dir, rfl⟩, rfl⟩) _ (List.mem_map.2 ⟨_, lG.2 ⟨i, j, e1, g.oy, g.dir, rfl⟩, rfl⟩))
    rcases Nat.lt_succ_iff_lt_or_eq.1 hi' with e2 | e2
    ·subst e1
     exact absurd e (h3 _ (List.mem_map.2 ⟨_, lF.2 ⟨j, g.oy, g.dir, rfl⟩, rfl⟩) _ (List.mem_map.2 ⟨_, lG.2 ⟨i', j', e2, g'.oy, g'.dir, rfl⟩, rfl⟩))
    subst e1; subst e2
    exact ⟨rfl, GZ h1 j j' g.oy g'.oy g.dir g'.dir e⟩
def zN (ns : List aK) (d : Nat → Nat) : Prop := ∀ i j, zM ns i j → d i < d (tgt ns (ent ns i j).id)
theorem bL.KE (h1 : ns.length ≤ 4096) (h2 : ∀ i, i < ns.length → kN (nd ns i)) (h3 : ∀ i, i < ns.length → 1 ≤ (nd ns i).id ∧ (nd ns i).id ≤ 1099511627776) (h4 : bV ns) (h5 : cX ns ns.length ≤ 8192)
    (h6 : ∀ i, i < ns.length → ∀ j, j < (nd ns i).ah.length → jR ns i j) (h7 : Bk ns ns.length) {d : Nat → Nat} (h8 : zN ns d) : bL ns := by
  refine ⟨h1, h2, h3, h4, h5, h6, Ff (Nat.le_refl _) h7, ?_⟩
  have hp := sM (ns := ns) (Nat.le_refl _) h6
  refine GY (fun p hp' => (hp p hp').1) ?_
  have key : ∀ n i, d i ≤ n → i < ns.length → Ends ((dz ns ns.length).map (fw ns)) (nd ns i).id := by
    intro n
    induction n with
    | zero =>
      intro i hd hi
      cases hu : up ((dz ns ns.length).map (fw ns)) (nd ns i).id with
      | none => exact ⟨0, hu⟩
      | some y =>
        obtain ⟨_, p, g1, g2, _⟩ := uU h4 hi (fun p hp' => (hp p hp').1) hu
        obtain ⟨a, j, ha, hj, hk, rfl⟩ := lG.1 g1
        have := h8 a j ⟨ha, hj, hk⟩
        have g2 : tgt ns (ent ns a j).id = i := g2
        rw [g2] at this
        omega
    | succ n ih =>
      intro i hd hi
      cases hu : up ((dz ns ns.length).map (fw ns)) (nd ns i).id with
      | none => exact ⟨0, hu⟩
      | some y =>
        obtain ⟨_, p, g1, g2, g3⟩ := uU h4 hi (fun p hp' => (hp p hp').1) hu
        obtain ⟨a, j, ha, hj, hk, rfl⟩ := lG.1 g1
        have := h8 a j ⟨ha, hj, hk⟩
        have g2 : tgt ns (ent ns a j).id = i := g2
        rw [g2] at this
        obtain ⟨m, hm⟩ := ih a (by omega) ha
        exact ⟨m + 1, y, hu, by rw [g3]; exact hm⟩
  exact fun i hi => key (d i) i (Nat.le_refl _) hi
theorem bL.uniq (h : bL ns) : Bk ns ns.length := G0 h.nodup
theorem bL.deep (h : bL ns) : ∃ d, zN ns d := by
  refine ⟨fun k => Classical.choose (h.ends (nd ns k).id), fun i j g => ?_⟩
  have hp := sM (ns := ns) (Nat.le_refl _) h.ah
  have hat := (h.ah i g.J7 j g.oy).at_
  have htl := kO hat
  have e1 := Classical.choose_spec (h.ends (nd ns i).id)
  have e2 := Classical.choose_spec (h.ends (nd ns (tgt ns (ent ns i j).id)).id)
  show Classical.choose (h.ends (nd ns i).id) < Classical.choose (h.ends (nd ns (tgt ns (ent ns i j).id)).id)
  generalize Classical.choose (h.ends (nd ns i).id) = x at e1 ⊢
  generalize Classical.choose (h.ends (nd ns (tgt ns (ent ns i j).id)).id) = y at e2 ⊢
  cases hu : up ((dz ns ns.length).map (fw ns)) (nd ns (tgt ns (ent ns i j).id)).id with
  | none =>
    have := DM hu
    exact absurd (List.mem_map.2 ⟨_, g.mem, rfl⟩) this
  | some z =>
    obtain ⟨_, p, g1, g2, g3⟩ := uU h.rise htl.1 (fun p hp' => (hp p hp').1) hu
    obtain ⟨a, b, ha, hb, hk, rfl⟩ := lG.1 g1
    have g2 : tgt ns (ent ns a b).id = tgt ns (ent ns i j).id := g2
    obtain ⟨rfl, rfl⟩ := h.uniq a b i j ⟨ha, hb, hk⟩ g ha g.J7 g2
    have g3 : z = (nd ns a).id := g3
    cases y with
    | zero =>
      have e2 : up _ _ = none := e2
      rw [hu] at e2; cases e2
    | succ y =>
      obtain ⟨z', h1, h2⟩ := e2
      rw [hu] at h1
      cases h1
      rw [g3] at h2
      have := e1.uniq h2
      show x < y + 1
      omega
end
end
section
open Go.RowKit Go.Maps HeapM TabM
structure oV (X : FM) : Prop where
  cN : 0 ≤ X.cN ∧ X.cN ≤ 4096
  cB : 0 ≤ X.cB ∧ X.cB ≤ 1099511627776
  cH : 0 ≤ X.cH ∧ X.cH ≤ 1024
  now : cQ X.cS X.cZ
def dX (n : aK) : Nat := n.id.toNat
def mG (n : aK) : Th := ⟨dX n, n.kind⟩
def nS (n : aK) : aO := ⟨n.id, n.mode, n.uid, n.gid, n.sec, n.nano, 0, 0, false, n.kind, n.data, n.target, [], none⟩
def NA : aO := ⟨0, 0, 0, 0, 0, 0, 0, 0, false, 0, [], ⟨#[]⟩, [], none⟩
def fk (X : FM) : aE := ⟨{ X with last := 0, ah := 0, used := 0 }, fun _ => NA, [], [], 0⟩
def aZ (S : aE) (n : aK) : aE := { S with X := { S.X with last := n.id, used := S.X.used + n.data.length }, O := av S.O (dX n) (fun _ => nS n), idx := ins n.id (mG n) S.idx }
def jV (ns : List aK) (e : gX) : Th := mG (nd ns (tgt ns e.id))
def jj (ns : List aK) (S : aE) (n : aK) (e : gX) : aE := { S with X := { S.X with ah := S.X.ah + 1 }, O := mr S.O (dX n) e.name (jV ns e) }
def bP (ns : List aK) : Nat → Nat
  | 0 => 0
  | k + 1 => bP ns k + (nd ns k).data.length
def CZ (ns : List aK) : Used Th := ns.map (fun n => (n.id, mG n))
structure jW (X : FM) (ns : List aK) (k : Nat) (S : aE) : Prop where
  inv : Inv0 S
  idx : S.idx = CZ (ns.take k)
  us : S.us = []
  aq : S.aq = 0
  cap : S.X = { X with last := jJ ns k, ah := 0, used := (bP ns k : Int) }
  ob : ∀ a, a < k → obj S.O (dX (nd ns a)) = nS (nd ns a)
section base
variable {X : FM} {ns : List aK} {i j k a b : Nat} {S : aE}
theorem uD (h : bL ns) (hk : k < ns.length) : (dX (nd ns k) : Int) = (nd ns k).id := by
  have := h.ids k hk
  unfold dX; omega
theorem o4 (h : bL ns) (ha : a < ns.length) (hb : b < ns.length) (e : dX (nd ns a) = dX (nd ns b)) : a = b :=
  h.rise.inj ha hb (by rw [← uD h ha, ← uD h hb, e])
theorem yx (hk : k < ns.length) : ns[k]? = some (nd ns k) := getD_some hk
theorem KF (hk : k < ns.length) : ns.take (k + 1) = ns.take k ++ [nd ns k] := by
  rw [List.take_add_one, yx hk]; rfl
theorem G1 (hX : oV X) : jW X ns 0 (fk X) := by
  refine ⟨?_, rfl, rfl, rfl, rfl, fun a h => absurd h (Nat.not_lt_zero a)⟩
  have hn : ∀ t, ¬ Live ([] : Used Th) t := fun t h => by cases h
  exact ⟨hX.cN, hX.cB, hX.cH, hX.now, by show (0 : Int) ≤ 0 ∧ (0 : Int) ≤ _; omega, .nil, Nat.zero_le _, fun _ _ e => (by cases e), fun t h => absurd h (hn t), fun t h => absurd h (hn t), fun t h => absurd h (hn t), fun t h => absurd h (hn t),
    fun _ _ => ⟨rfl, rfl⟩, fun _ _ => rfl, ⟨rfl, by show (0 : Int) ≤ 8192; omega⟩, fun t h => absurd h (hn t), fun t h => absurd h (hn t), fun t h => absurd h (hn t), .nil, fun x hx => (by cases hx), (by show ((0 : Nat) : Int) ≤ X.cH; have := hX.cH; omega), ⟨Int.le_refl _, hX.cH.1⟩, fun _ _ e => (by cases e), fun t h => absurd h (hn t), fun t h => absurd h (hn t), ⟨fun _ => 0, fun k d e => (by cases e)⟩, ⟨rfl, by show (0 : Int) ≤ _; omega⟩⟩
theorem Ed (h : bL ns) (hk : k < ns.length) : ∀ x ∈ keys (CZ (ns.take k)), x < (nd ns k).id := by
  intro x hx
  obtain ⟨p, hp, rfl⟩ := List.mem_map.1 hx
  obtain ⟨n, hn, rfl⟩ := List.mem_map.1 hp
  obtain ⟨a, ha, e⟩ := List.mem_iff_getElem.1 hn
  rw [List.length_take] at ha
  rw [List.getElem_take] at e
  have e2 : nd ns a = n := by
    have := yx (ns := ns) (k := a) (by omega)
    rw [List.getElem?_eq_getElem (by omega), e] at this
    exact (Option.some.inj this).symm
  rw [← e2]
  exact h.rise a k (by omega) hk
theorem uE (hd : ∀ i, i < ns.length → (nd ns i).data.length ≤ 1048576) (hk : k ≤ ns.length) : bP ns k ≤ 1048576 * k := by
  induction k with
  | zero => exact Nat.le_refl _
  | succ k ih =>
    have h1 := ih (by omega)
    have h2 := hd k hk
    show bP ns k + (nd ns k).data.length ≤ _
    omega
theorem uF (h : bL ns) (hd : ∀ i, i < ns.length → (nd ns i).data.length ≤ 1048576) (hk : k < ns.length) (hB : jW X ns k S) : jW X ns (k + 1) (aZ S (nd ns k)) := by
  have hs := uE hd (Nat.le_of_lt hk)
  have hn := h.node k hk
  have hid := uD h hk
  have Jf := h.ids k hk
  have hu : S.X.used = (bP ns k : Int) := by rw [hB.cap]
  have hl : S.X.last = jJ ns k := by rw [hB.cap]
  have hlen := h.len
  have hdk := hd k hk
  have Qt : S.idx.length = k := by
    rw [hB.idx]; unfold CZ; rw [List.length_map, List.length_take]; omega
  have h1 := hB.inv.newAt (k0 := dX (nd ns k)) (o := nS (nd ns k)) (iZ := S.X.used + (nd ns k).data.length) (us' := S.us) (eF := S.aq) (by rw [hid, hl]; exact h.last hk) (by rw [hid]; exact Jf.2) ⟨rfl, by rw [hu]; omega⟩ hid.symm
    (by have := hn.kind; show (nd ns k).kind = 1 ∨ (nd ns k).kind = 2 ∨ (nd ns k).kind = 3; omega) rfl rfl rfl rfl
    ⟨hn.mode, hn.uid, hn.gid, hn.time, fun e => List.eq_nil_of_length_eq_zero (hn.data e), fun _ => rfl, hn.target⟩ (by omega)
    hB.inv.usr hB.inv.s5 hB.inv.xG hB.inv.aq (fun h t e => ⟨.inl (hB.inv.us h t e).1, (hB.inv.us h t e).2⟩) (fun _ _ => rfl) (by rw [hB.us]; rfl)
  rw [hid] at h1
  refine ⟨h1, ?_, hB.us, hB.aq, ?_, fun a ha => ?_⟩
  ·show ins (nd ns k).id (mG (nd ns k)) S.idx = _
   rw [hB.idx, Ig (Ed h hk), KF hk]
   unfold CZ; rw [List.map_append]; rfl
  ·show ({ S.X with last := (nd ns k).id, used := S.X.used + ((nd ns k).data.length : Int) } : FM) = _
   rw [hu, hB.cap]
   show (⟨_, _, _, _, _, _, _, _⟩ : FM) = ⟨_, _, _, _, _, _, _, _⟩
   congr 1
  show obj (av S.O (dX (nd ns k)) (fun _ => nS (nd ns k))) (dX (nd ns a)) = _
  rcases Nat.lt_succ_iff_lt_or_eq.1 ha with e | e
  ·rw [bS (fun e2 => by have := o4 h (by omega) hk e2; omega)]
   exact hB.ob a e
  subst e; exact bE
theorem jW.fresh (h : bL ns) (hk : k < ns.length) (hB : jW X ns k S) : qx S.O S.idx S.us (dX (nd ns k)) := hB.inv.zi (by rw [uD h hk, hB.cap]; exact h.last hk)
theorem jW.new (h : bL ns) (hk : k < ns.length) (hB : jW X ns k S) : TabM.get S.idx (nd ns k).id = none := get_none.2 (fun hm => by
  rw [hB.idx] at hm
  exact absurd (Ed h hk _ hm) (by omega))
theorem wO (X : FM) (L : HL) : (∀ k, aN (fk X).O L k = bR.none) ∧ (∀ k, aY (fk X).O L k = bR.none) ∧ ∀ k, bh (fk X).O L k = bR.none := ⟨fun _ => if_pos rfl, fun _ => if_neg (by show ¬ (0 : Int) = 1; omega), fun _ => if_neg (by show ¬ (0 : Int) = 2; omega)⟩
theorem Sat.NC {β : Bs} {l l' : List HP} {w : World} {i j b m c : Nat} {ix : List Nat} {O : bJ} {L L' : HL} {A : Option Addr} {o : aO} (h : Sat β l w) (hL : L' = L.put k b m A c) (hp : l[i]? = some (.abs (ak (aY O L)))) (hq : l[j]? = some (.abs (aG 5 1 A o.data.length c (bI o.data)))) (hd : nodupB (i :: j :: ix) = true) (hl : bM l ix = some l') (h1 : o.kind = 1) : Sat β (.abs (ak (aY (av O k (fun _ => o)) L')) :: l') w := by
  refine h.oH hp hq (fun _ _ h => h) hd hl k (fun x hx => by rw [tP hx, vf hL hx]) ?_
  rw [pK (by rw [bE]; exact h1), bE]
  subst hL
  simp only [HL.put, if_true]
end base
theorem KG {O : bJ} {L : HL} {d : Nat} {name : ByteArray} {t : Th} : aY (mr O d name t) L = aY O L :=
  pR (fun _ => wo (g := aO.data) (fun _ _ => rfl) (fun _ _ => rfl) (fun _ _ => rfl)) (fun _ => tR)
def mH (ns : List aK) (i j a : Nat) : Nat := if a < i then (nd ns a).ah.length else if a = i then j else 0
def qf (ns : List aK) (a m : Nat) : dQ Th := ((nd ns a).ah.take m).map (fun e => (e.name, jV ns e))
structure dY (X : FM) (ns : List aK) (i j : Nat) (S : aE) : Prop where
  inv : Inv0 S
  idx : S.idx = CZ ns
  us : S.us = []
  aq : S.aq = 0
  cap : S.X = { X with last := jJ ns ns.length, ah := ((cX ns i + j : Nat) : Int), used := (bP ns ns.length : Int) }
  ob : ∀ a, a < ns.length → ∃ l u, obj S.O (dX (nd ns a)) = { nS (nd ns a) with links := l, ah := qf ns a (mH ns i j a), up := u }
section ah
variable {X : FM} {ns : List aK} {i j k a b m : Nat} {S : aE} {t : Th}
theorem jW.ah (h : jW X ns ns.length S) : dY X ns 0 0 S := by
  refine ⟨h.inv, by rw [h.idx, List.take_of_length_le (Nat.le_refl _)], h.us, h.aq, h.cap, fun a ha => ⟨0, none, ?_⟩⟩
  rw [h.ob a ha]
  have : mH ns 0 0 a = 0 := by
    unfold mH; rw [if_neg (Nat.not_lt_zero a)]; split <;> rfl
  rw [this]; rfl
theorem dY.get (h : dY X ns i j S) (ha : a < ns.length) : TabM.get S.idx (nd ns a).id = some (mG (nd ns a)) := by
  refine lT h.inv.rise ?_
  rw [h.idx]
  exact List.mem_map.2 ⟨nd ns a, List.mem_of_getElem? (yx ha), rfl⟩
theorem dY.live (hG : bL ns) (h : dY X ns i j S) (ha : a < ns.length) : Live S.idx (mG (nd ns a)) := by
  have := h.get ha
  rw [← uD hG ha] at this
  exact this
theorem dY.of (h : dY X ns i j S) {x : Int} (e : TabM.get S.idx x = some t) : ∃ a, a < ns.length ∧ t = mG (nd ns a) := by
  have hm := get_mem e
  rw [h.idx] at hm
  obtain ⟨n, hn, e2⟩ := List.mem_map.1 hm
  obtain ⟨a, ha, e3⟩ := List.mem_iff_getElem.1 hn
  have e4 : nd ns a = n := by
    have := yx ha
    rw [List.getElem?_eq_getElem ha, e3] at this
    exact (Option.some.inj this).symm
  cases e2
  exact ⟨a, ha, by rw [e4]⟩
theorem G2 {es : List gX} {q : Nat} (hq : q < es.length) : es[q]? = some (en es q) := getD_some hq
theorem sN {e : ByteArray × Th} (h : e ∈ qf ns a m) : ∃ q, q < m ∧ q < (nd ns a).ah.length ∧ e.1 = (ent ns a q).name ∧ e.2 = jV ns (ent ns a q) := by
  obtain ⟨x, hx, rfl⟩ := List.mem_map.1 h
  obtain ⟨q, hq, e⟩ := List.mem_iff_getElem.1 hx
  rw [List.length_take] at hq
  rw [List.getElem_take] at e
  have e2 : ent ns a q = x := by
    have := G2 (es := (nd ns a).ah) (q := q) (by omega)
    rw [List.getElem?_eq_getElem (by omega), e] at this
    exact (Option.some.inj this).symm
  exact ⟨q, by omega, by omega, by rw [e2], by rw [e2]⟩
theorem G3 (hj : j < (nd ns i).ah.length) : qf ns i (j + 1) = qf ns i j ++ [((ent ns i j).name, jV ns (ent ns i j))] := by
  unfold qf
  rw [List.take_add_one, G2 hj, List.map_append]; rfl
theorem zO (hG : bL ns) (hi : i < ns.length) {q : Nat} : ∀ {j}, q < j → j < (nd ns i).ah.length → lf (ent ns i q).name (ent ns i j).name < 0
  | 0, h, _ => absurd h (Nat.not_lt_zero q)
  | j + 1, h, hj => by
    have h1 := pS.1 (hG.ah i hi (j + 1) hj).ord
    have h1 : lf (ent ns i j).name (ent ns i (j + 1)).name < 0 := h1
    rcases Nat.lt_succ_iff_lt_or_eq.1 h with e | e
    ·exact wZ (zO hG hi e (by omega)) (Int.le_of_lt h1)
    rw [e]; exact h1
theorem Jg (hG : bL ns) (hi : i < ns.length) (hj : j < (nd ns i).ah.length) : aR (ent ns i j).name (qf ns i j) = none := by
  refine si.2 (fun e he e1 => ?_)
  obtain ⟨q, h1, h2, h3, _⟩ := sN he
  have := zO hG hi h1 hj
  rw [← h3, e1] at this
  have h4 := Aa (ent ns i j).name
  omega
theorem AB {n : ByteArray} : ∀ {es : dQ Th}, (∀ e ∈ es, lf e.1 n < 0) → eu n t es = es ++ [(n, t)]
  | [], _ => rfl
  | e :: r, h => by
    have h1 := h e (List.mem_cons_self ..)
    unfold eu
    rw [if_neg (fun hc => by have := pS.1 hc; have := tI e.1 n; omega), AB (fun x hx => h x (List.mem_cons_of_mem _ hx))]; rfl
theorem Jh (hG : bL ns) (hi : i < ns.length) (hj : j < (nd ns i).ah.length) : eu (ent ns i j).name (jV ns (ent ns i j)) (qf ns i j) = qf ns i (j + 1) := by
  rw [G3 hj]
  refine AB (fun e he => ?_)
  obtain ⟨q, h1, _, h3, _⟩ := sN he
  rw [h3]
  exact zO hG hi h1 hj
theorem rO (hG : bL ns) (hi : i < ns.length) (hj : j < (nd ns i).ah.length) : tgt ns (ent ns i j).id < ns.length ∧ (nd ns (tgt ns (ent ns i j).id)).id = (ent ns i j).id := by
  have := kO (hG.ah i hi j hj).at_
  exact ⟨this.1, this.2.1⟩
theorem Ee {O : bJ} {d x : Nat} {name : ByteArray} (h : t.k ≠ d) : obj (mr O d name t) x = if x = d then { obj O d with ah := eu name t (obj O d).ah } else if x = t.k then { obj O x with links := (obj O x).links + 1, up := if t.kind = 2 then some d else (obj O x).up } else obj O x := by
  have key : ∀ O2 : bJ, O2 = av (av O d (fun o => { o with ah := eu name t o.ah })) t.k (fun o => { o with links := o.links + 1 }) → obj (if t.kind = 2 then av O2 t.k (fun o => { o with up := some d }) else O2) x = if x = d then { obj O d with ah := eu name t (obj O d).ah } else if x = t.k then { obj O x with links := (obj O x).links + 1, up := if t.kind = 2 then some d else (obj O x).up } else obj O x := by
    intro O2 e
    by_cases hk : t.kind = 2
    ·rw [if_pos hk, if_pos hk, iR, e, iR, iR]
     by_cases e1 : x = d
     ·subst e1; rw [if_neg (fun e => h e.symm), if_neg (fun e => h e.symm), if_pos rfl, if_pos rfl]
     by_cases e2 : x = t.k
     ·rw [if_pos e2, if_pos e2, if_neg e1, if_neg e1, if_pos e2]
     rw [if_neg e2, if_neg e2, if_neg e1, if_neg e1, if_neg e2]
    rw [if_neg hk, if_neg hk, e, iR, iR]
    by_cases e1 : x = d
    ·subst e1; rw [if_neg (fun e => h e.symm), if_pos rfl, if_pos rfl]
    by_cases e2 : x = t.k
    ·rw [if_pos e2, if_neg e1, if_neg e1, if_pos e2]
    rw [if_neg e2, if_neg e1, if_neg e1, if_neg e2]
  exact key _ rfl
theorem dY.O9 (hG : bL ns) (h : dY X ns i j S) {d : Nat} (hd : Live S.idx ⟨d, 2⟩) {n : ByteArray} (ha : a < ns.length) (hk : (nd ns a).kind = 2) (hl : aR n (obj S.O d).ah = some (mG (nd ns a))) : ∃ b q, b < ns.length ∧ d = dX (nd ns b) ∧ zM ns b q ∧ tgt ns (ent ns b q).id = a := by
  obtain ⟨b, hb, e⟩ := h.of hd
  have e : (⟨d, 2⟩ : Th) = ⟨dX (nd ns b), (nd ns b).kind⟩ := e
  have e1 : d = dX (nd ns b) := congrArg Th.k e
  subst e1
  obtain ⟨l, u, ho⟩ := h.ob b hb
  have hm := j3 hl
  rw [ho] at hm
  obtain ⟨q, h1, h2, _, h4⟩ := sN hm
  have ht := rO hG hb h2
  have h5 : dX (nd ns a) = dX (nd ns (tgt ns (ent ns b q).id)) := congrArg Th.k h4
  have h6 := o4 hG ha ht.1 h5
  exact ⟨b, q, hb, rfl, ⟨hb, h2, by rw [← h6]; exact hk⟩, h6.symm⟩
theorem dY.below (hG : bL ns) (h : dY X ns i j S) {dp : Nat → Nat} (hdp : zN ns dp) {s k : Nat} (hb : iA S.O s k) : ∀ {a b}, a < ns.length → k = dX (nd ns a) → b < ns.length → s = dX (nd ns b) → dp b ≤ dp a := by
  induction hb with
  | here =>
    intro a b ha e1 hb e2
    have := o4 hG ha hb (by rw [← e1, ← e2])
    rw [this]; exact Nat.le_refl _
  | up hup _ ih =>
    intro a b ha e1 hb e2
    subst e1
    have hlv := h.live hG ha
    obtain ⟨h1, h2, n, h3⟩ := (h.inv.up _ hlv _).1 hup
    obtain ⟨c, q, hc, e3, hD, e4⟩ := h.O9 hG h2 ha h1 h3
    have h5 := hdp c q hD
    rw [e4] at h5
    have := ih hc e3 hb e2
    omega
theorem dY.links (hG : bL ns) (h : dY X ns i j S) (hi : i < ns.length) (hj : j < (nd ns i).ah.length) (hk : (jV ns (ent ns i j)).kind = 2) : (obj S.O (jV ns (ent ns i j)).k).links = 0 := by
  have ht := rO hG hi hj
  have hlv : Live S.idx (jV ns (ent ns i j)) := h.live hG ht.1
  rw [h.inv.links _ hlv]
  cases hz : fL S.idx S.O (jV ns (ent ns i j)).k with
  | zero => rfl
  | succ z =>
    exfalso
    obtain ⟨x, u, hu, e, he, e1⟩ := xH h.inv.rise (show 0 < fL S.idx S.O (jV ns (ent ns i j)).k by omega)
    obtain ⟨b, hb, rfl⟩ := h.of hu
    obtain ⟨l, u, ho⟩ := h.ob b hb
    have he : e ∈ (obj S.O (dX (nd ns b))).ah := he
    rw [ho] at he
    obtain ⟨q, h1, h2, _, h4⟩ := sN he
    have ht2 := rO hG hb h2
    have h5 : dX (nd ns (tgt ns (ent ns b q).id)) = dX (nd ns (tgt ns (ent ns i j).id)) := by
      rw [h4] at e1; exact e1
    have h6 := o4 hG ht2.1 ht.1 h5
    obtain ⟨rfl, rfl⟩ := hG.uniq b q i j ⟨hb, h2, by rw [h6]; exact hk⟩ ⟨hi, hj, hk⟩ hb hi h6
    unfold mH at h1
    rw [if_neg (Nat.lt_irrefl _), if_pos rfl] at h1
    omega
theorem dY.look (hG : bL ns) (h : dY X ns i j S) (hi : i < ns.length) (hj : j < (nd ns i).ah.length) : (obj S.O (dX (nd ns i))).ah = qf ns i j ∧ aR (ent ns i j).name (obj S.O (dX (nd ns i))).ah = none ∧ (nd ns i).kind = 2 := by
  obtain ⟨l, u, ho⟩ := h.ob i hi
  have e1 : (obj S.O (dX (nd ns i))).ah = qf ns i j := by
    rw [ho]
    show qf ns i (mH ns i j i) = _
    unfold mH; rw [if_neg (Nat.lt_irrefl _), if_pos rfl]
  refine ⟨e1, by rw [e1]; exact Jg hG hi hj, ?_⟩
  cases Decidable.em ((nd ns i).kind = 2) with
  | inl h => exact h
  | inr h => have := (hG.node i hi).ah h; omega
theorem dY.gone (h : dY X ns i j S) (ha : a < ns.length) : (obj S.O (dX (nd ns a))).gone = false := by
  obtain ⟨l, u, ho⟩ := h.ob a ha
  rw [ho]; rfl
theorem dY.ne (hG : bL ns) (hi : i < ns.length) (hj : j < (nd ns i).ah.length) (hk : (nd ns i).kind = 2) : (jV ns (ent ns i j)).k ≠ dX (nd ns i) := fun e => by
  have ht := rO hG hi hj
  have h1 := o4 hG ht.1 hi e
  obtain ⟨dp, hdp⟩ := hG.deep
  have := hdp i j ⟨hi, hj, by rw [h1]; exact hk⟩
  rw [h1] at this
  exact Nat.lt_irrefl _ this
theorem dY.step (hG : bL ns) (h : dY X ns i j S) (hi : i < ns.length) (hj : j < (nd ns i).ah.length) : dY X ns i (j + 1) (jj ns S (nd ns i) (ent ns i j)) := by
  obtain ⟨l1, l2, l3⟩ := h.look hG hi hj
  have ht := rO hG hi hj
  have hne := dY.ne hG hi hj l3
  have hld : Live S.idx ⟨dX (nd ns i), 2⟩ := by
    have := h.live hG hi
    unfold mG at this
    rw [l3] at this
    exact this
  have hlt : Live S.idx (jV ns (ent ns i j)) := h.live hG ht.1
  have hX : S.X.ah = ((cX ns i + j : Nat) : Int) := by rw [h.cap]
  have hsum : cX ns i + j < 8192 := by
    have h1 : cX ns (i + 1) ≤ cX ns ns.length := qY hi
    have h2 : cX ns (i + 1) = cX ns i + (nd ns i).ah.length := rfl
    have h3 := hG.sum
    omega
  have h1 := h.inv.put (O' := mr S.O (dX (nd ns i)) (ent ns i j).name (jV ns (ent ns i j))) (ta := (obj S.O (dX (nd ns i))).sec) (tb := (obj S.O (dX (nd ns i))).nano) hld (h.gone hi) l2 (hG.ah i hi j hj).good hlt (h.gone ht.1) (fun hk => ⟨h.links hG hi hj hk, fun hb => by
      obtain ⟨dp, hdp⟩ := hG.deep
      have h2 := h.below hG hdp hb hi rfl ht.1 rfl
      have h3 := hdp i j ⟨hi, hj, hk⟩
      omega⟩) hne (by rw [hX]; omega) (h.inv.mt _ hld).time (fun x => Ee hne)
  refine ⟨h1, h.idx, h.us, h.aq, ?_, fun a ha => ?_⟩
  ·show ({ S.X with ah := S.X.ah + 1 } : FM) = _
   rw [hX, h.cap]
   show (⟨_, _, _, _, _, _, _, _⟩ : FM) = ⟨_, _, _, _, _, _, _, _⟩
   congr 1
  obtain ⟨l, u, ho⟩ := h.ob a ha
  show ∃ l u, obj (mr S.O (dX (nd ns i)) (ent ns i j).name (jV ns (ent ns i j))) (dX (nd ns a)) = _
  rw [Ee hne]
  by_cases e : a = i
  ·subst e
   refine ⟨l, u, ?_⟩
   rw [if_pos rfl, l1, Jh hG hi hj, ho]
   have hc : mH ns a (j + 1) a = j + 1 := by unfold mH; rw [if_neg (Nat.lt_irrefl _), if_pos rfl]
   rw [hc]
  have hc : mH ns i (j + 1) a = mH ns i j a := by
    unfold mH; rw [if_neg e, if_neg e]
  rw [if_neg (fun e2 => e (o4 hG ha hi e2)), hc]
  split
  ·rw [ho]; exact ⟨_, _, rfl⟩
  exact ⟨l, u, ho⟩
theorem dY.next (h : dY X ns i (nd ns i).ah.length S) : dY X ns (i + 1) 0 S := by
  refine ⟨h.inv, h.idx, h.us, h.aq, h.cap, fun a ha => ?_⟩
  obtain ⟨l, u, ho⟩ := h.ob a ha
  refine ⟨l, u, ?_⟩
  rw [ho]
  have : mH ns (i + 1) 0 a = mH ns i (nd ns i).ah.length a := by
    unfold mH
    by_cases e : a = i
    ·subst e; rw [if_pos (by omega), if_neg (by omega), if_pos rfl]
    by_cases e2 : a < i
    ·rw [if_pos (by omega), if_pos e2]
    rw [if_neg (by omega), if_neg e2, if_neg e]; split <;> rfl
  rw [this]
theorem dY.full (h : dY X ns i j S) : Inv S := by
  refine ⟨h.inv, fun t ht hg => ?_⟩
  obtain ⟨a, ha, rfl⟩ := h.of ht
  have : (obj S.O (dX (nd ns a))).gone = true := hg
  rw [h.gone ha] at this
  cases this
end ah
end
section
open Go.RowKit Go.Maps HeapM TabM
attribute [local irreducible] aj aS af ai
abbrev AF (b2 : Nat) (X : FM) := (.blk b2 [vI (X.cN), vI (X.cB), vI (X.cH), vI (X.cS), vI (X.cZ)] 28 : HP)
abbrev vO (b1 : Nat) (A : Option Addr) (ns : List aK) (c) := (.blk b1 [.slice A (ns.length) (c)] 24 : HP)
abbrev nT (b8 : Nat) (ns) (k : Nat) (Y : Lay) := (.blk b8 [vI ((nd ns k).id), vI ((nd ns k).kind), vI ((nd ns k).mode), vI ((nd ns k).uid), vI ((nd ns k).gid), vI ((nd ns k).sec), vI ((nd ns k).nano), .slice (Y.dA k) ((nd ns k).data.length) ((Y.dC k)), .string (nd ns k).target, .slice (Y.eA k) ((nd ns k).ah.length) ((Y.eC k))] 70 : HP)
abbrev uG (b9 : Nat) (ns) (k : Nat) := (.blk b9 [vI ((nd ns k).id), vI ((nd ns k).mode), vI ((nd ns k).uid), vI ((nd ns k).gid), vI ((nd ns k).sec), vI ((nd ns k).nano), vI 0, vI 0, .bool false] 88 : HP)
abbrev tB (b1 : Nat) (A : Option Addr) (ns) (c) (b7 : Nat) (m3 : Nat) (t4 : Nat) (S : aE) (L : HL) (R : bR) := ([vO b1 A ns c, pF b7 m3 t4 S.X, pI m3 L S.idx, jI t4 S L, pO S.O L, pD S.O L, pE S.O L, .abs R] : List HP)
abbrev yA (b1 : Nat) (b7 : Nat) (b8 : Nat) (A : Option Addr) (ns : List aK) (c) (k : Nat) := ([(2, vP b1), (6, vP b7), (8, vP b8), (47, .slice A (ns.length) (c)), (48, vI ↑ns.length), (49, vI ↑k)] : Fr)
abbrev J8 (b1 : Nat) (X : FM) := ([(2, vP b1), (39, .agg #[vI (X.cN), vI (X.cB), vI (X.cH), vI (X.cS), vI (X.cZ)])] : Fr)
abbrev ME (b1 : Nat) (b7 : Nat) (A : Option Addr) (ns : List aK) (c) (k : Nat) (S : aE) := ([(2, vP b1), (6, vP b7), (47, .slice A (ns.length) (c)), (48, vI ↑ns.length), (49, vI ↑k), (118, vI (S.X.used + (((nd ns k).data.length : Nat) : Int))), (120, .pointer (some ⟨b7, 9, none⟩))] : Fr)
abbrev Om (b7 : Nat) (b16 : Nat) (A : Option Addr) (ns : List aK) (c) (i : Nat) (Y : Lay) (j : Nat) := ([(6, vP b7), (11, vP b16), (123, .slice A (ns.length) (c)), (124, vI ↑ns.length), (125, vI ↑i), (130, .slice (Y.eA i) ((nd ns i).ah.length) ((Y.eC i))), (131, vI ↑((nd ns i).ah.length)), (132, vI ↑j)] : Fr)
abbrev MF (m3 : Nat) (ns) (k : Nat) := ([(69, .map (some m3)), (71, vI ((nd ns k).id)), (72, .agg #[vI ((nd ns k).id), vI ((nd ns k).mode), vI ((nd ns k).uid), vI ((nd ns k).gid), vI ((nd ns k).sec), vI ((nd ns k).nano), vI 0, vI 0, .bool false])] : Fr)
abbrev MG (A : Option Addr) (ns : List aK) (c) (i : Nat) (Y : Lay) (j : Nat) := ([(123, .slice A (ns.length) (c)), (124, vI ↑ns.length), (125, vI ↑i), (130, .slice (Y.eA i) ((nd ns i).ah.length) ((Y.eC i))), (131, vI ↑((nd ns i).ah.length)), (132, vI ↑j)] : Fr)
theorem zP {β : Bs} (A : Option Addr) (c : Nat) (ns : List aK) (Y : Lay) (hG : aD β A ns Y) (hl : ns.length ≤ 1048576) (hd : ∀ i, i < ns.length → (nd ns i).data.length ≤ 1048576 ∧ (nd ns i).ah.length ≤ 1048576) (hwf : ∀ i, i < ns.length → ∀ j, j < (nd ns i).ah.length → -9223372036854775808 ≤ (ent ns i j).id ∧ (ent ns i j).id ≤ 9223372036854775807) (hnm : ∀ i, i < ns.length → ∀ j, j < (nd ns i).ah.length → (ent ns i j).name.size ≤ 1048576) (X : FM) :
    Spec Tryz.prog β 9 #[.agg #[.slice A (ns.length) (c)], .agg #[vI (X.cN), vI (X.cB), vI (X.cH), vI (X.cS), vI (X.cZ)]] [] (fun v l => (¬ oV X ∧ v = .tuple #[.pointer none, vI 179] ∧ l = []) ∨ (oV X ∧ ¬ bL ns ∧ v = .tuple #[.pointer none, vI 140] ∧ l = []) ∨ (oV X ∧ bL ns ∧ ∃ S f m t L, dY X ns ns.length 0 S ∧ v = .tuple #[vP f, vI 0] ∧ l = pA f m t L S)) := by
 refine Spec.enter Tryz.func9 rfl Tryz.ntmps9 (Nat.le_of_ble_eq_true rfl) (fun R => ?_)
 refine SR ?_
 refine gN 1 (fun b1 => [(2, vP b1)]) (fun _ => []) (fun _ => []) (fun b1 => .blk b1 [.slice A (ns.length) (c)] 24) (fun b1 => ?_)
 refine gN 3 (fun b2 => [(3, vP b2)]) (fun _ => []) (fun _ => []) (fun b2 => .blk b2 [vI (X.cN), vI (X.cB), vI (X.cH), vI (X.cS), vI (X.cZ)] 28) (fun b2 => ?_)
 refine NN (af.seq (SR ?_))
 refine gK 2 [(15, vI (X.cN))] [(1, a_ 2 b2)] ?_
 refine gL [] (dW X.cN 4096) ?_
 rintro _ _ ⟨rfl, rfl⟩
 refine gK 2 [(18, .bool (!(decide ((0 ≤ X.cN ∧ X.cN ≤ 4096)))))] [] ?_
 refine aj.jl 18 ((0 ≤ X.cN ∧ X.cN ≤ 4096)) (fun _ => by kernel_rfl) (fun nG => ?_) (fun nG => ?_)
 ·refine gK 17 [(35, .bool true)] [] ?_
  refine NN ?_
  refine CT ?_
  refine SR ?_
  refine gK 2 [(4, .pointer none), (5, vI 179)] [] ?_
  refine NN (af.ret (ai.ar ?_))
  exact RT (.tuple #[.pointer none, vI 179]) [0] (.inl ⟨fun h => nG h.cN, rfl, rfl⟩)
 refine gK 2 [(20, vI (X.cB))] [(1, a_ 2 b2)] ?_
 refine gL [] (dW X.cB 1099511627776) ?_
 rintro _ _ ⟨rfl, rfl⟩
 refine gK 3 [(24, .bool (!(decide ((0 ≤ X.cB ∧ X.cB ≤ 1099511627776)))))] [] ?_
 refine aj.jl 24 ((0 ≤ X.cB ∧ X.cB ≤ 1099511627776)) (fun _ => by kernel_rfl) (fun yh => ?_) (fun yh => ?_)
 ·refine gK 11 [(35, .bool true)] [] ?_
  refine NN ?_
  refine CT ?_
  refine SR ?_
  refine gK 2 [(4, .pointer none), (5, vI 179)] [] ?_
  refine NN (af.ret (ai.ar ?_))
  exact RT (.tuple #[.pointer none, vI 179]) [0] (.inl ⟨fun h => yh h.cB, rfl, rfl⟩)
 refine gK 2 [(26, vI (X.cH))] [(1, a_ 2 b2)] ?_
 refine gL [] (dW X.cH 1024) ?_
 rintro _ _ ⟨rfl, rfl⟩
 refine gK 3 [(30, .bool (!(decide ((0 ≤ X.cH ∧ X.cH ≤ 1024)))))] [] ?_
 refine aj.jl 30 ((0 ≤ X.cH ∧ X.cH ≤ 1024)) (fun _ => by kernel_rfl) (fun j9 => ?_) (fun j9 => ?_)
 ·refine gK 5 [(35, .bool true)] [] ?_
  refine NN ?_
  refine CT ?_
  refine SR ?_
  refine gK 2 [(4, .pointer none), (5, vI 179)] [] ?_
  refine NN (af.ret (ai.ar ?_))
  exact RT (.tuple #[.pointer none, vI 179]) [0] (.inl ⟨fun h => j9 h.cH, rfl, rfl⟩)
 refine gK 2 [(32, .agg #[vI (X.cS), vI (X.cZ)])] [(1, A_ 2 b2 2)] ?_
 refine gL [] (fO X.cS X.cZ) ?_
 rintro _ _ ⟨rfl, rfl⟩
 refine gK 2 [(35, .bool (!(decide (cQ X.cS X.cZ))))] [] ?_
 refine NN ?_
 refine af.cI (p := cQ X.cS X.cZ) (fun _ => by kernel_rfl) (fun jT => ?_) (fun jT => ?_)
 ·refine SR ?_
  refine gK 2 [(4, .pointer none), (5, vI 179)] [] ?_
  refine NN (af.ret (ai.ar ?_))
  exact RT (.tuple #[.pointer none, vI 179]) [0] (.inl ⟨fun h => jT h.now, rfl, rfl⟩)
 have hcap : oV X := ⟨nG, yh, j9, jT⟩
 refine af.skip (NX (af.seq (SR ?_)))
 refine gK 1 [(36, .agg #[.slice A (ns.length) (c)])] [(0, a_ 1 b1)] ?_
 refine gL [] (CY A c ns Y hG hl (fun i hi => ⟨Nat.le_trans (hd i hi).1 (by decide), (hd i hi).2⟩) hwf hnm) ?_
 rintro _ _ ⟨rfl, rfl⟩
 refine gK 1 [(38, .bool (!(decide (((if bL ns then 0 else 140) : Int) = (0 : Int)))))] [] ?_
 refine NN ?_
 refine af.cI (p := ((if bL ns then 0 else 140) : Int) = (0 : Int)) (fun _ => by kernel_rfl) (fun xq => ?_) (fun xq => ?_)
 ·have P4 : ¬ bL ns := fun h => xq (if_pos h)
  refine SR ?_
  refine gK 2 [(4, .pointer none), (5, vI 140)] [] ?_
  refine NN (af.ret (ai.ar ?_))
  exact RT (.tuple #[.pointer none, vI 140]) [0] (.inr (.inl ⟨hcap, P4, rfl, rfl⟩))
 have hok : bL ns := Classical.byContradiction (fun h => by rw [if_neg h] at xq; exact absurd xq (by decide))
 refine af.skip (NX (af.seq ?_))
 refine af.oU (S := [AF b2 X]) [0, 2, 3] [.two 1 4, .one 5, .one 6, .one 7] [2] (by kernel_rfl) (by kernel_rfl) rfl (by kernel_rfl) ?_
 refine fN.reads (rs := []) (fr' := [(2, vP b1), (39, .agg #[vI (X.cN), vI (X.cB), vI (X.cH), vI (X.cS), vI (X.cZ)]), (42, vI (X.cH))]) (aV := [b2 = b2, b2 = b2, b2 = b2, b2 = b2, b2 = b2, b2 = b2]) [0, 2, 3] [⟨[.at 0, .at 0, .at 0, .at 0, .at 0], none, none, none, none⟩, o_, ⟨[.at 0], none, none, none, none⟩] [2, 39, 42] (fun _ => by kernel_rfl) ⟨rfl, rfl, rfl, rfl, rfl, rfl, trivial⟩ ?_
 refine fN.pair (ι := Nat × Nat) (Mn := Nat) (Mp := Nat) (GJ := fun (m3 : Nat) => (J8 b1 X ++ [(40, .map (some m3)), (42, vI (X.cH))])) (hpi := fun (m3 : Nat) => [.abs R, vO b1 A ns c, AF b2 X, .abs (aI Tryz.prog 3 m3 (fun _ => none) 0)]) (GK := fun (t5 : Nat) => (J8 b1 X ++ [(43, vP t5)])) (GL := fun (t5 : Nat) => [.abs (aX 156 t5 (min (max X.cH 0) 1024) 0 []), .abs R, vO b1 A ns c, AF b2 X]) (fr' := fun ((m3, t4) : Nat × Nat) => [(2, vP b1), (39, .agg #[vI (X.cN), vI (X.cB), vI (X.cH), vI (X.cS), vI (X.cZ)]), (40, .map (some m3)), (43, vP t4)]) (hp' := fun ((m3, t4) : Nat × Nat) => [.abs (aX 156 t4 (min (max X.cH 0) 1024) 0 []), .abs R, vO b1 A ns c, AF b2 X, .abs (aI Tryz.prog 3 m3 (fun _ => none) 0)]) [2] [3] [3] rfl rfl rfl rfl ?_ ?_ ?_ ?_ rfl (fun _ => by kernel_rfl) rfl (fun _ => by kernel_rfl) rfl (fun _ => by kernel_rfl) ?_
 ·refine aj.lJ (d := (some 40)) (t := 80) (fun _ => by kernel_rfl) Tryz.prog rfl 3 (fun m3 => ?_)
  refine NL ?_
  exact MD m3 [2, 39, 40, 42] [0, 1, 2, 3]
 ·rintro m3
  show aj _ _ _ _ _ (J8 b1 X ++ [(40, .map (some m3)), (42, vI (X.cH))]) [.abs R, vO b1 A ns c, AF b2 X, .abs (aI Tryz.prog 3 m3 (fun _ => none) 0)] _
  refine gL [] (Cb X.cH) ?_
  rintro _ _ ⟨t4, rfl, rfl⟩
  refine NL ?_
  exact MD (m3, t4) [2, 39, 40, 43] [0, 1, 2, 3, 4]
 ·refine gL [] (Cb X.cH) ?_
  rintro _ _ ⟨t5, rfl, rfl⟩
  refine NL ?_
  exact MD t5 [2, 39, 43] [0, 1, 2, 3]
 ·rintro t5
  show aj _ _ _ _ _ (J8 b1 X ++ [(43, vP t5)]) [.abs (aX 156 t5 (min (max X.cH 0) 1024) 0 []), .abs R, vO b1 A ns c, AF b2 X] _
  refine aj.lJ (d := (some 40)) (t := 80) (fun _ => by kernel_rfl) Tryz.prog rfl 3 (fun m6 => ?_)
  refine NL ?_
  exact MD (m6, t5) [2, 39, 40, 43] [0, 1, 2, 3, 4]
 rintro ⟨m3, t4⟩
 refine fN.cut (ι := Unit) (fr' := fun (_ : Unit) => [(2, vP b1), (44, .agg #[vI (X.cN), vI (X.cB), vI (X.cH), vI (X.cS), vI (X.cZ), .map (some m3), vP t4, vI 0, vI 0, vI 0])]) (hp' := fun (_ : Unit) => [.abs (aX 156 t4 (min (max X.cH 0) 1024) 0 []), .abs R, vO b1 A ns c, AF b2 X, .abs (aI Tryz.prog 3 m3 (fun _ => none) 0)]) [3] rfl rfl ?_ rfl (fun _ => by kernel_rfl) ?_
 ·refine gK 1 [(44, .agg #[vI (X.cN), vI (X.cB), vI (X.cH), vI (X.cS), vI (X.cZ), .map (some m3), vP t4, vI 0, vI 0, vI 0])] [] ?_
  refine NL ?_
  exact MD () [2, 44] [0, 1, 2, 3, 4]
 rintro _
 refine fN.cut (ι := Nat) (fr' := fun (b7 : Nat) => [(2, vP b1), (45, vP b7)]) (hp' := fun (b7 : Nat) => [.abs (aX 156 t4 (min (max X.cH 0) 1024) 0 []), .abs R, vO b1 A ns c, AF b2 X, .abs (aI Tryz.prog 3 m3 (fun _ => none) 0), pF b7 m3 t4 { X with last := 0, ah := 0, used := 0 }]) [3] rfl rfl ?_ rfl (fun _ => by kernel_rfl) ?_
 ·refine gN 1 (fun b7 => [(45, vP b7)]) (fun _ => []) (fun _ => []) (fun b7 => pF b7 m3 t4 { X with last := 0, ah := 0, used := 0 }) (fun b7 => ?_)
  refine NL ?_
  exact MD b7 [2, 45] [0, 1, 2, 3, 4, 5]
 rintro b7
 refine fN.last rfl rfl ?_
 refine gK 1 [(6, vP b7)] [] ?_
 refine NL (ai.np (NX (af.seq (SR ?_))))
 obtain ⟨L, Q5⟩ : ∃ L : HL, L = ⟨fun _ => 0, fun _ => 0, fun _ => none, fun _ => 0⟩ := ⟨_, rfl⟩
 refine aj.mem (fun w hS => hS.El (aN (fk X).O L) (wO X L).1) ?_
 refine aj.mem (fun w hS => hS.El (aY (fk X).O L) (wO X L).2.1) ?_
 refine aj.mem (fun w hS => hS.El (bh (fk X).O L) (wO X L).2.2) ?_
 have hc : min (max X.cH 0) 1024 = X.cH := by have := hcap.cH; omega
 refine aj.mem (aQ := [.abs (aX 156 t4 (fk X).X.cH (fk X).aq (aJ L (fk X).us)), .abs R, .blk b1 [.slice A (ns.length) (c)] 24, .blk b2 [vI (X.cN), vI (X.cB), vI (X.cH), vI (X.cS), vI (X.cZ)] 28, .abs (aI Tryz.prog 3 m3 (aM (aJ L (fk X).idx)) ((fk X).idx.length)), .blk b7 [vI ((fk X).X.cN), vI ((fk X).X.cB), vI ((fk X).X.cH), vI ((fk X).X.cS), vI ((fk X).X.cZ), .map (some m3), vP t4, vI ((fk X).X.last), vI ((fk X).X.ah), vI ((fk X).X.used)] 86, .abs (ak (aN ((fk X).O) L)), .abs (ak (aY ((fk X).O) L)), .abs (ak (bh ((fk X).O) L))]) (fun w hS => by rw [hc, ← BZ] at hS; exact hS) ?_
 refine gK 4 [(47, .slice A (ns.length) (c)), (48, vI ↑ns.length), (49, vI 0)] [(1, a_ 2 b1)] ?_
 refine NN (af.block ?_)
 refine af.loop (ι := Nat × aE × HL) (fun ((k, S, L) : Nat × aE × HL) => (k ≤ ns.length) ∧ (jW X ns k S)) (fun ((k, S, L) : Nat × aE × HL) => ns.length - k) (fun ((k, S, L) : Nat × aE × HL) => [(2, vP b1), (6, vP b7), (47, .slice A (ns.length) (c)), (48, vI ↑ns.length), (49, vI ↑k)]) (fun ((k, S, L) : Nat × aE × HL) => (tB b1 A ns c b7 m3 t4 S L R)) (0, (fk X), L) (idx := [2, 6, 47, 48, 49]) (pk := [2, 5, 4, 0, 6, 7, 8, 1]) (show (0 ≤ ns.length) ∧ (jW X ns 0 ((fk X))) from ⟨Nat.zero_le _, G1 hcap⟩) (fun _ => by kernel_rfl) rfl (by kernel_rfl) ?_
 rintro ⟨k, S, L⟩ ⟨hk, hB⟩
 show af _ _ _ _ [(2, vP b1), (6, vP b7), (47, .slice A (ns.length) (c)), (48, vI ↑ns.length), (49, vI ↑k)] (tB b1 A ns c b7 m3 t4 S L R) _
 refine SR ?_
 refine gK 1 [(50, .bool (decide ((((k : Nat) : Int) : Int) < (((ns.length : Nat) : Int) : Int))))] [] ?_
 refine NN (af.seq ?_)
 refine af.bA (p := (((k : Nat) : Int) : Int) < (((ns.length : Nat) : Int) : Int)) (fun _ => by kernel_rfl) (fun h50 => ?_) (fun h50 => ?_)
 ·have hk2 : k < ns.length := by omega
  have hdk := hd k hk2
  have hds := uE (fun i hi => (hd i hi).1) hk
  have Jf := hok.ids k hk2
  have hni := hB.new hok hk2
  have mY : (Lit.int .i64 (nd ns k).id).wf = true := WalkArith.wf_i64 (by omega)
  have hkk := (hok.node k hk2).kind
  have cE : S.X.used = (bP ns k : Int) := by rw [hB.cap]
  have hil := hB.inv.len
  refine af.skip (NX (af.seq (af.block (SR ?_))))
  refine gN 4 (fun b8 => [(8, vP b8)]) (fun b8 => [(0, p_ ⟨[], some k, none, some ⟨(aB A), ay A, none⟩, none⟩ [((k : Nat) : Int) = ((k : Nat) : Int), k < ns.length, (⟨(aB A), ay A, none⟩ : Addr).spot = none, (A : Option Addr) = some ⟨(aB A), ay A, none⟩] ⟨rfl, by omega, rfl, aD.hd hG (i := k) (by omega), trivial⟩), (1, p_ ⟨[.old (.int .i64 ((nd ns k).id)), .old (.int .i64 ((nd ns k).kind)), .old (.int .i64 ((nd ns k).mode)), .old (.int .i64 ((nd ns k).uid)), .old (.int .i64 ((nd ns k).gid)), .old (.int .i64 ((nd ns k).sec)), .old (.int .i64 ((nd ns k).nano)), .old (.slice (Y.dA k) ((nd ns k).data.length) ((Y.dC k))), .old (.string (nd ns k).target), .old (.slice (Y.eA k) ((nd ns k).ah.length) ((Y.eC k)))], none, none, none, none⟩ [(Rd β ⟨(aB A), ay A + k * 10 + 9, none⟩ (.slice (Y.eA k) ((nd ns k).ah.length) ((Y.eC k)))), (Rd β ⟨(aB A), ay A + k * 10 + 8, none⟩ (.string (nd ns k).target)), (Rd β ⟨(aB A), ay A + k * 10 + 7, none⟩ (.slice (Y.dA k) ((nd ns k).data.length) ((Y.dC k)))), (Rd β ⟨(aB A), ay A + k * 10 + 6, none⟩ (.int .i64 ((nd ns k).nano))), (Rd β ⟨(aB A), ay A + k * 10 + 5, none⟩ (.int .i64 ((nd ns k).sec))), (Rd β ⟨(aB A), ay A + k * 10 + 4, none⟩ (.int .i64 ((nd ns k).gid))), (Rd β ⟨(aB A), ay A + k * 10 + 3, none⟩ (.int .i64 ((nd ns k).uid))), (Rd β ⟨(aB A), ay A + k * 10 + 2, none⟩ (.int .i64 ((nd ns k).mode))), (Rd β ⟨(aB A), ay A + k * 10 + 1, none⟩ (.int .i64 ((nd ns k).kind))), (Rd β ⟨(aB A), ay A + k * 10, none⟩ (.int .i64 ((nd ns k).id)))] ⟨aD.rd hG (i := k) (by omega) (j := 9) rfl, aD.rd hG (i := k) (by omega) (j := 8) rfl, aD.rd hG (i := k) (by omega) (j := 7) rfl, aD.rd hG (i := k) (by omega) (j := 6) rfl, aD.rd hG (i := k) (by omega) (j := 5) rfl, aD.rd hG (i := k) (by omega) (j := 4) rfl, aD.rd hG (i := k) (by omega) (j := 3) rfl, aD.rd hG (i := k) (by omega) (j := 2) rfl, aD.rd hG (i := k) (by omega) (j := 1) rfl, aD.rd hG (i := k) (by omega) (j := 0) rfl, trivial⟩), (3, A_ 8 b8 10)]) (fun _ => []) (fun b8 => .blk b8 [vI ((nd ns k).id), vI ((nd ns k).kind), vI ((nd ns k).mode), vI ((nd ns k).uid), vI ((nd ns k).gid), vI ((nd ns k).sec), vI ((nd ns k).nano), .slice (Y.dA k) ((nd ns k).data.length) ((Y.dC k)), .string (nd ns k).target, .slice (Y.eA k) ((nd ns k).ah.length) ((Y.eC k))] 70) (fun b8 => ?_)
  refine NS ?_
  refine gN 13 (fun b9 => [(9, vP b9)]) (fun b9 => [(1, a_ 8 b8), (3, a_ 8 b8), (5, a_ 8 b8), (7, a_ 8 b8), (9, A_ 8 b8 2), (12, A_ 9 b9 9)]) (fun _ => []) (fun b9 => .blk b9 [vI ((nd ns k).id), vI ((nd ns k).mode), vI ((nd ns k).uid), vI ((nd ns k).gid), vI ((nd ns k).sec), vI ((nd ns k).nano), vI 0, vI 0, .bool false] 88) (fun b9 => ?_)
  refine NN (af.seq (SR ?_))
  refine gK 2 [(65, vI ((nd ns k).kind))] [(1, a_ 8 b8)] ?_
  refine NN (af.block (SR ?_))
  refine gK 2 [(77, .bool (decide (((nd ns k).kind : Int) = (1 : Int))))] [] ?_
  refine NN ?_
  refine af.bA (p := ((nd ns k).kind : Int) = (1 : Int)) (fun _ => by kernel_rfl) (fun hk1 => ?_) (fun hk1 => ?_)
  ·refine af.bZ (S := [pF b7 m3 t4 S.X, nT b8 ns k Y, uG b9 ns k]) [0, 1, 2, 3, 4, 5, 6, 7, 8, 9, 10, 11, 12, 13] 9 [1, 8, 9] (by kernel_rfl) (by kernel_rfl) rfl (by kernel_rfl) ?_
   refine aF.reads (r := 0) (l := [9, 10, 11, 12, 13]) (fr' := (yA b1 b7 b8 A ns c k ++ [(82, .map (some m3)), (84, vI ((nd ns k).id)), (85, .agg #[vI ((nd ns k).id), vI ((nd ns k).mode), vI ((nd ns k).uid), vI ((nd ns k).gid), vI ((nd ns k).sec), vI ((nd ns k).nano), vI 0, vI 0, .bool false]), (87, .slice (Y.dA k) ((nd ns k).data.length) ((Y.dC k)))])) (aV := [b8 = b8, b9 = b9, b9 = b9, b9 = b9, b9 = b9, b9 = b9, b9 = b9, b9 = b9, b9 = b9, b9 = b9, b8 = b8, b7 = b7]) [0, 1, 2, 3, 4, 5, 6, 7, 8] [o_, o_, o_, ⟨[.at 0], none, none, none, none⟩, o_, ⟨[.at 1], none, none, none, none⟩, ⟨[.at 2, .at 2, .at 2, .at 2, .at 2, .at 2, .at 2, .at 2, .at 2], none, none, none, none⟩, o_, ⟨[.at 1], none, none, none, none⟩] [2, 6, 8, 47, 48, 49, 82, 84, 85, 87] (fun _ => by kernel_rfl) ⟨rfl, rfl, rfl, rfl, rfl, rfl, rfl, rfl, rfl, rfl, rfl, rfl, trivial⟩ rfl rfl ?_
   refine mL [2, 9, 10] [] (vM (Y.dA k) (Y.dC k) (nd ns k).data (hG.data k (by omega)) (by have := (hd k (by omega)).1; omega)) ?_ (by rintro _ _ ⟨uH, c11, rfl, rfl⟩; rfl)
   rintro _ _ ⟨uH, c11, rfl, rfl⟩
   refine aF.cut (ι := Unit) (fr' := fun (_ : Unit) => (yA b1 b7 b8 A ns c k ++ [(82, .map (some m3)), (84, vI ((nd ns k).id)), (89, .agg #[vI ((nd ns k).id), vI ((nd ns k).mode), vI ((nd ns k).uid), vI ((nd ns k).gid), vI ((nd ns k).sec), vI ((nd ns k).nano), vI 0, vI 0, .bool false, .slice uH ((nd ns k).data.length) (c11)])])) (hp' := fun (_ : Unit) => ([.abs (aG 5 1 uH ((nd ns k).data.length) c11 (bI (nd ns k).data))] ++ tB b1 A ns c b7 m3 t4 S L R ++ [nT b8 ns k Y, uG b9 ns k])) [2, 9, 10] rfl rfl ?_ rfl (fun _ => by kernel_rfl) ?_
   ·refine gK 1 [(89, .agg #[vI ((nd ns k).id), vI ((nd ns k).mode), vI ((nd ns k).uid), vI ((nd ns k).gid), vI ((nd ns k).sec), vI ((nd ns k).nano), vI 0, vI 0, .bool false, .slice uH ((nd ns k).data.length) (c11)])] [] ?_
    refine NL ?_
    exact MD () [2, 6, 8, 47, 48, 49, 82, 84, 89] [0, 1, 2, 3, 4, 5, 6, 7, 8, 9, 10]
   rintro _
   refine mN [2, 9, 10] (fun b12 => [(90, vP b12)]) (fun _ => []) (fun b12 => .blk b12 [vI ((nd ns k).id), vI ((nd ns k).mode), vI ((nd ns k).uid), vI ((nd ns k).gid), vI ((nd ns k).sec), vI ((nd ns k).nano), vI 0, vI 0, .bool false, .slice uH ((nd ns k).data.length) (c11)] 92) (fun b12 => ?_)
   refine aF.cut (ι := Unit) (fr' := fun (_ : Unit) => (yA b1 b7 b8 A ns c k ++ [(82, .map (some m3)), (84, vI ((nd ns k).id)), (91, .iface 89 (vP b12))])) (hp' := fun (_ : Unit) => ([.abs (aG 5 1 uH ((nd ns k).data.length) c11 (bI (nd ns k).data))] ++ tB b1 A ns c b7 m3 t4 S L R ++ [nT b8 ns k Y, uG b9 ns k, .blk b12 [vI ((nd ns k).id), vI ((nd ns k).mode), vI ((nd ns k).uid), vI ((nd ns k).gid), vI ((nd ns k).sec), vI ((nd ns k).nano), vI 0, vI 0, .bool false, .slice uH ((nd ns k).data.length) (c11)] 92])) [2, 9, 10] rfl rfl ?_ rfl (fun _ => by kernel_rfl) ?_
   ·refine gK 1 [(91, .iface 89 (vP b12))] [] ?_
    refine NL ?_
    exact MD () [2, 6, 8, 47, 48, 49, 82, 84, 91] [0, 1, 2, 3, 4, 5, 6, 7, 8, 9, 10, 11]
   rintro _
   refine aF.last rfl rfl ?_
   obtain ⟨L2, hL2⟩ : ∃ L2 : HL, L2 = L.put (dX (nd ns k)) b12 0 uH c11 := ⟨_, rfl⟩
   have hfr := hB.fresh hok (by omega)
   refine aj.mem (aQ := [.abs (ak (aN ((aZ S (nd ns k)).O) L2)), .abs (aG 5 1 uH ((nd ns k).data.length) c11 (bI (nd ns k).data)), .blk b1 [.slice A (ns.length) (c)] 24, .blk b7 [vI (S.X.cN), vI (S.X.cB), vI (S.X.cH), vI (S.X.cS), vI (S.X.cZ), .map (some m3), vP t4, vI (S.X.last), vI (S.X.ah), vI (S.X.used)] 86, .abs (aI Tryz.prog 3 m3 (aM (aJ L S.idx)) S.idx.length), .abs (aX 156 t4 S.X.cH S.aq (aJ L S.us)), .abs (ak (aY S.O L)), .abs (ak (bh S.O L)), .abs R, .blk b8 [vI ((nd ns k).id), vI ((nd ns k).kind), vI ((nd ns k).mode), vI ((nd ns k).uid), vI ((nd ns k).gid), vI ((nd ns k).sec), vI ((nd ns k).nano), .slice (Y.dA k) ((nd ns k).data.length) ((Y.dC k)), .string (nd ns k).target, .slice (Y.eA k) ((nd ns k).ah.length) ((Y.eC k))] 70, .blk b9 [vI ((nd ns k).id), vI ((nd ns k).mode), vI ((nd ns k).uid), vI ((nd ns k).gid), vI ((nd ns k).sec), vI ((nd ns k).nano), vI 0, vI 0, .bool false] 88]) (fun w hS => hS.qy hL2 hfr (o := (nS (nd ns k))) (i := 5) (j := 11) (ix := [0, 1, 2, 3, 4, 6, 7, 8, 9, 10]) rfl rfl (by kernel_rfl) rfl (by show (nd ns k).kind ≠ 0; rw [hk1]; decide) ((d9 (L := L2) (k := (dX (nd ns k))) (o := (nS (nd ns k))) hk1).trans (by rw [show L2.dA (dX (nd ns k)) = uH by rw [hL2]; exact if_pos rfl, show L2.dC (dX (nd ns k)) = c11 by rw [hL2]; exact if_pos rfl]; rfl)) (by show kI (nd ns k).kind = _; rw [hk1]; rfl)) ?_
   refine aj.mem (aQ := [.abs (ak (aN ((aZ S (nd ns k)).O) L2)), .abs (aG 5 1 uH ((nd ns k).data.length) c11 (bI (nd ns k).data)), .blk b1 [.slice A (ns.length) (c)] 24, .blk b7 [vI (S.X.cN), vI (S.X.cB), vI (S.X.cH), vI (S.X.cS), vI (S.X.cZ), .map (some m3), vP t4, vI (S.X.last), vI (S.X.ah), vI (S.X.used)] 86, .abs (aI Tryz.prog 3 m3 (aM (aJ L S.idx)) S.idx.length), .abs (aX 156 t4 S.X.cH S.aq (aJ L S.us)), .abs (ak (aY S.O L)), .abs (ak (bh ((aZ S (nd ns k)).O) L2)), .abs R, .blk b8 [vI ((nd ns k).id), vI ((nd ns k).kind), vI ((nd ns k).mode), vI ((nd ns k).uid), vI ((nd ns k).gid), vI ((nd ns k).sec), vI ((nd ns k).nano), .slice (Y.dA k) ((nd ns k).data.length) ((Y.dC k)), .string (nd ns k).target, .slice (Y.eA k) ((nd ns k).ah.length) ((Y.eC k))] 70, .blk b9 [vI ((nd ns k).id), vI ((nd ns k).mode), vI ((nd ns k).uid), vI ((nd ns k).gid), vI ((nd ns k).sec), vI ((nd ns k).nano), vI 0, vI 0, .bool false] 88]) (fun w hS => hS.rG hL2 hfr (o := (nS (nd ns k))) (i := 7) rfl (by show ¬ (nd ns k).kind = 2; rw [hk1]; decide)) ?_
   refine aj.mem (aQ := [pD ((aZ S (nd ns k)).O) L2, pO ((aZ S (nd ns k)).O) L2, vO b1 A ns c, pF b7 m3 t4 S.X, pI m3 L S.idx, jI t4 S L, pE ((aZ S (nd ns k)).O) L2, .abs R, nT b8 ns k Y, uG b9 ns k]) (fun w hS => hS.NC hL2 (o := (nS (nd ns k))) (i := 6) (j := 1) (ix := [0, 2, 3, 4, 5, 7, 8, 9, 10]) rfl rfl (by kernel_rfl) rfl hk1) ?_
   refine aj.mem (aQ := [.abs (ak (aY ((aZ S (nd ns k)).O) L2)), .abs (ak (aN ((aZ S (nd ns k)).O) L2)), .blk b1 [.slice A (ns.length) (c)] 24, .blk b7 [vI (S.X.cN), vI (S.X.cB), vI (S.X.cH), vI (S.X.cS), vI (S.X.cZ), .map (some m3), vP t4, vI (S.X.last), vI (S.X.ah), vI (S.X.used)] 86, .abs (aI Tryz.prog 3 m3 (aM (aJ L2 S.idx)) S.idx.length), .abs (aX 156 t4 S.X.cH S.aq (aJ L2 S.us)), .abs (ak (bh ((aZ S (nd ns k)).O) L2)), .abs R, .blk b8 [vI ((nd ns k).id), vI ((nd ns k).kind), vI ((nd ns k).mode), vI ((nd ns k).uid), vI ((nd ns k).gid), vI ((nd ns k).sec), vI ((nd ns k).nano), .slice (Y.dA k) ((nd ns k).data.length) ((Y.dC k)), .string (nd ns k).target, .slice (Y.eA k) ((nd ns k).ah.length) ((Y.eC k))] 70, .blk b9 [vI ((nd ns k).id), vI ((nd ns k).mode), vI ((nd ns k).uid), vI ((nd ns k).gid), vI ((nd ns k).sec), vI ((nd ns k).nano), vI 0, vI 0, .bool false] 88]) (fun w hS => by rw [eT hL2 hfr.idx, eT hL2 hfr.us]; exact hS) ?_
   have C0 : cF L2 (mG (nd ns k)) = .iface 89 (vP b12) := by unfold mG; rw [lU hL2, hk1]; rfl
   refine aj.jY 4 (d := none) (t := 80) (K := 3) (E := 84) (b := m3) (n := S.idx.length) (f := (aM (aJ L2 S.idx))) (x := (.tmp 82)) (ix := (.tmp 84)) (y := (.tmp 91)) (key := .int .i64 ((nd ns k).id)) (u := .iface 89 (vP b12)) (kl := (.int .i64 (nd ns k).id)) (n' := (S.idx.length + 1)) (f' := (aM (aJ L2 (ins (nd ns k).id (mG (nd ns k)) S.idx)))) (fun _ => by kernel_rfl) (by kernel_rfl) (fun _ => by kernel_rfl) (fun _ => by kernel_rfl) (fun _ => by kernel_rfl) dF Tryz.underlying80 (by unfold maxLen; omega) (gE mY) (by rw [dN, hni]; rfl) (by rw [← C0]; exact o3 hni) ?_
   refine NL (ai.np (ai.aP (NX (SR ?_))))
   refine gC 6 [] [(2, a_ 8 b8), (5, a_ 3 b7)] [(3, [(7, vI ((nd ns k).id))])] ?_
   refine NN ?_
   refine af.bZ (S := [pF b7 m3 t4 { S.X with last := (nd ns k).id }, nT b8 ns k Y]) [0, 1, 2, 3, 4, 5, 6, 7, 8, 9, 10] 10 [3, 8] (by kernel_rfl) (by kernel_rfl) rfl (by kernel_rfl) ?_
   refine aF.reads (r := 0) (l := [10]) (fr' := (ME b1 b7 A ns c k S)) (aV := [(Value.int .i64 (IntKind.wrap .i64 (S.X.used + (((nd ns k).data.length : Nat) : Int)))) = (.int .i64 (S.X.used + (((nd ns k).data.length : Nat) : Int))), b8 = b8, b7 = b7]) [0, 1, 2, 3, 4, 5, 6, 7, 8, 9] [o_, o_, o_, ⟨[.at 0], none, none, none, none⟩, o_, ⟨[.at 1], none, none, none, none⟩, o_, ⟨[], none, none, none, some (vI (S.X.used + (((nd ns k).data.length : Nat) : Int)))⟩, o_, o_] [2, 6, 47, 48, 49, 118, 120] (fun _ => by kernel_rfl) ⟨bF (by omega) (by omega) (by omega), rfl, rfl, trivial⟩ rfl rfl ?_
   refine aF.last rfl rfl ?_
   refine gC 1 [] [(0, a_ 3 b7)] [(3, [(9, vI (S.X.used + (((nd ns k).data.length : Nat) : Int)))])] ?_
   refine NL (ai.np (ai.aP (NX (af.region ?_))))
   refine gK 2 [(49, vI ↑(k + 1))] [(0, p_ ⟨[], none, none, none, some (vI ↑(k + 1))⟩ [(Value.int .i64 (IntKind.wrap .i64 (((k : Nat) : Int) + 1))) = (.int .i64 ↑(k + 1))] ⟨bF (by omega) (by omega) (by omega), trivial⟩)] ?_
   refine NL ?_
   refine ai.mem (aQ := [.abs (ak (aY ((aZ S (nd ns k)).O) L2)), .abs (ak (aN ((aZ S (nd ns k)).O) L2)), .blk b1 [.slice A (ns.length) (c)] 24, .blk b7 [vI ((aZ S (nd ns k)).X.cN), vI ((aZ S (nd ns k)).X.cB), vI ((aZ S (nd ns k)).X.cH), vI ((aZ S (nd ns k)).X.cS), vI ((aZ S (nd ns k)).X.cZ), .map (some m3), vP t4, vI ((aZ S (nd ns k)).X.last), vI ((aZ S (nd ns k)).X.ah), vI ((aZ S (nd ns k)).X.used)] 86, .abs (aI Tryz.prog 3 m3 (aM (aJ L2 (aZ S (nd ns k)).idx)) ((aZ S (nd ns k)).idx.length)), .abs (aX 156 t4 (aZ S (nd ns k)).X.cH (aZ S (nd ns k)).aq (aJ L2 (aZ S (nd ns k)).us)), .abs (ak (bh ((aZ S (nd ns k)).O) L2)), .abs R, .blk b8 [vI ((nd ns k).id), vI ((nd ns k).kind), vI ((nd ns k).mode), vI ((nd ns k).uid), vI ((nd ns k).gid), vI ((nd ns k).sec), vI ((nd ns k).nano), .slice (Y.dA k) ((nd ns k).data.length) ((Y.dC k)), .string (nd ns k).target, .slice (Y.eA k) ((nd ns k).ah.length) ((Y.eC k))] 70, .blk b9 [vI ((nd ns k).id), vI ((nd ns k).mode), vI ((nd ns k).uid), vI ((nd ns k).gid), vI ((nd ns k).sec), vI ((nd ns k).nano), vI 0, vI 0, .bool false] 88]) (fun w hS => by rw [show (aZ S (nd ns k)).idx.length = S.idx.length + 1 from fW _ _ _]; exact hS) ?_
   exact ai.turn ((k + 1), (aZ S (nd ns k)), L2) (idx := [2, 6, 47, 48, 49]) (pk := [2, 3, 4, 5, 1, 0, 6, 7]) (show (((k + 1)) ≤ ns.length) ∧ (jW X ns ((k + 1)) ((aZ S (nd ns k)))) from ⟨by omega, uF hok (fun i hi => (hd i hi).1) (by omega) hB⟩) (by show ns.length - ((k + 1)) < ns.length - k; omega) (fun _ => by kernel_rfl) rfl (by kernel_rfl)
  refine SR ?_
  refine gK 2 [(92, .bool (decide (((nd ns k).kind : Int) = (3 : Int))))] [] ?_
  refine NN ?_
  refine af.bA (p := ((nd ns k).kind : Int) = (3 : Int)) (fun _ => by kernel_rfl) (fun hk3 => ?_) (fun hk3 => ?_)
  ·refine af.bZ (S := [pF b7 m3 t4 S.X, nT b8 ns k Y, uG b9 ns k]) [0, 1, 2, 3, 4, 5, 6, 7, 8, 9, 10, 11, 12] 10 [1, 8, 9] (by kernel_rfl) (by kernel_rfl) rfl (by kernel_rfl) ?_
   refine aF.reads (r := 0) (l := [10, 11, 12]) (fr' := (yA b1 b7 b8 A ns c k ++ [(97, .map (some m3)), (99, vI ((nd ns k).id)), (103, .agg #[vI ((nd ns k).id), vI ((nd ns k).mode), vI ((nd ns k).uid), vI ((nd ns k).gid), vI ((nd ns k).sec), vI ((nd ns k).nano), vI 0, vI 0, .bool false, .string (nd ns k).target])])) (aV := [b8 = b8, b9 = b9, b9 = b9, b9 = b9, b9 = b9, b9 = b9, b9 = b9, b9 = b9, b9 = b9, b9 = b9, b8 = b8, b7 = b7]) [0, 1, 2, 3, 4, 5, 6, 7, 8, 9] [o_, o_, o_, ⟨[.at 0], none, none, none, none⟩, o_, ⟨[.at 1], none, none, none, none⟩, ⟨[.at 2, .at 2, .at 2, .at 2, .at 2, .at 2, .at 2, .at 2, .at 2], none, none, none, none⟩, o_, ⟨[.at 1], none, none, none, none⟩, o_] [2, 6, 8, 47, 48, 49, 97, 99, 103] (fun _ => by kernel_rfl) ⟨rfl, rfl, rfl, rfl, rfl, rfl, rfl, rfl, rfl, rfl, rfl, rfl, trivial⟩ rfl rfl ?_
   refine mN [1, 8, 9] (fun b13 => [(104, vP b13)]) (fun _ => []) (fun b13 => .blk b13 [vI ((nd ns k).id), vI ((nd ns k).mode), vI ((nd ns k).uid), vI ((nd ns k).gid), vI ((nd ns k).sec), vI ((nd ns k).nano), vI 0, vI 0, .bool false, .string (nd ns k).target] 95) (fun b13 => ?_)
   refine aF.cut (ι := Unit) (fr' := fun (_ : Unit) => (yA b1 b7 b8 A ns c k ++ [(97, .map (some m3)), (99, vI ((nd ns k).id)), (105, .iface 93 (vP b13))])) (hp' := fun (_ : Unit) => (tB b1 A ns c b7 m3 t4 S L R ++ [nT b8 ns k Y, uG b9 ns k, .blk b13 [vI ((nd ns k).id), vI ((nd ns k).mode), vI ((nd ns k).uid), vI ((nd ns k).gid), vI ((nd ns k).sec), vI ((nd ns k).nano), vI 0, vI 0, .bool false, .string (nd ns k).target] 95])) [1, 8, 9] rfl rfl ?_ rfl (fun _ => by kernel_rfl) ?_
   ·refine gK 1 [(105, .iface 93 (vP b13))] [] ?_
    refine NL ?_
    exact MD () [2, 6, 8, 47, 48, 49, 97, 99, 105] [0, 1, 2, 3, 4, 5, 6, 7, 8, 9, 10]
   rintro _
   refine aF.last rfl rfl ?_
   obtain ⟨L2, hL2⟩ : ∃ L2 : HL, L2 = L.put (dX (nd ns k)) b13 0 none 0 := ⟨_, rfl⟩
   have hfr := hB.fresh hok (by omega)
   refine aj.mem (aQ := [.abs (ak (aN ((aZ S (nd ns k)).O) L2)), .blk b1 [.slice A (ns.length) (c)] 24, .blk b7 [vI (S.X.cN), vI (S.X.cB), vI (S.X.cH), vI (S.X.cS), vI (S.X.cZ), .map (some m3), vP t4, vI (S.X.last), vI (S.X.ah), vI (S.X.used)] 86, .abs (aI Tryz.prog 3 m3 (aM (aJ L S.idx)) S.idx.length), .abs (aX 156 t4 S.X.cH S.aq (aJ L S.us)), .abs (ak (aY S.O L)), .abs (ak (bh S.O L)), .abs R, .blk b8 [vI ((nd ns k).id), vI ((nd ns k).kind), vI ((nd ns k).mode), vI ((nd ns k).uid), vI ((nd ns k).gid), vI ((nd ns k).sec), vI ((nd ns k).nano), .slice (Y.dA k) ((nd ns k).data.length) ((Y.dC k)), .string (nd ns k).target, .slice (Y.eA k) ((nd ns k).ah.length) ((Y.eC k))] 70, .blk b9 [vI ((nd ns k).id), vI ((nd ns k).mode), vI ((nd ns k).uid), vI ((nd ns k).gid), vI ((nd ns k).sec), vI ((nd ns k).nano), vI 0, vI 0, .bool false] 88]) (fun w hS => hS.qy hL2 hfr (o := (nS (nd ns k))) (i := 4) (j := 10) (ix := [0, 1, 2, 3, 5, 6, 7, 8, 9]) rfl rfl (by kernel_rfl) rfl (by show (nd ns k).kind ≠ 0; rw [hk3]; decide) ((tQ (L := L2) (k := (dX (nd ns k))) (o := (nS (nd ns k))) hk3).trans (by rfl)) (by show kI (nd ns k).kind = _; rw [hk3]; rfl)) ?_
   refine aj.mem (aQ := [.abs (ak (aN ((aZ S (nd ns k)).O) L2)), .blk b1 [.slice A (ns.length) (c)] 24, .blk b7 [vI (S.X.cN), vI (S.X.cB), vI (S.X.cH), vI (S.X.cS), vI (S.X.cZ), .map (some m3), vP t4, vI (S.X.last), vI (S.X.ah), vI (S.X.used)] 86, .abs (aI Tryz.prog 3 m3 (aM (aJ L S.idx)) S.idx.length), .abs (aX 156 t4 S.X.cH S.aq (aJ L S.us)), .abs (ak (aY S.O L)), .abs (ak (bh ((aZ S (nd ns k)).O) L2)), .abs R, .blk b8 [vI ((nd ns k).id), vI ((nd ns k).kind), vI ((nd ns k).mode), vI ((nd ns k).uid), vI ((nd ns k).gid), vI ((nd ns k).sec), vI ((nd ns k).nano), .slice (Y.dA k) ((nd ns k).data.length) ((Y.dC k)), .string (nd ns k).target, .slice (Y.eA k) ((nd ns k).ah.length) ((Y.eC k))] 70, .blk b9 [vI ((nd ns k).id), vI ((nd ns k).mode), vI ((nd ns k).uid), vI ((nd ns k).gid), vI ((nd ns k).sec), vI ((nd ns k).nano), vI 0, vI 0, .bool false] 88]) (fun w hS => hS.rG hL2 hfr (o := (nS (nd ns k))) (i := 6) rfl (by show ¬ (nd ns k).kind = 2; rw [hk3]; decide)) ?_
   refine aj.mem (aQ := [.abs (ak (aN ((aZ S (nd ns k)).O) L2)), .blk b1 [.slice A (ns.length) (c)] 24, .blk b7 [vI (S.X.cN), vI (S.X.cB), vI (S.X.cH), vI (S.X.cS), vI (S.X.cZ), .map (some m3), vP t4, vI (S.X.last), vI (S.X.ah), vI (S.X.used)] 86, .abs (aI Tryz.prog 3 m3 (aM (aJ L S.idx)) S.idx.length), .abs (aX 156 t4 S.X.cH S.aq (aJ L S.us)), .abs (ak (aY ((aZ S (nd ns k)).O) L2)), .abs (ak (bh ((aZ S (nd ns k)).O) L2)), .abs R, .blk b8 [vI ((nd ns k).id), vI ((nd ns k).kind), vI ((nd ns k).mode), vI ((nd ns k).uid), vI ((nd ns k).gid), vI ((nd ns k).sec), vI ((nd ns k).nano), .slice (Y.dA k) ((nd ns k).data.length) ((Y.dC k)), .string (nd ns k).target, .slice (Y.eA k) ((nd ns k).ah.length) ((Y.eC k))] 70, .blk b9 [vI ((nd ns k).id), vI ((nd ns k).mode), vI ((nd ns k).uid), vI ((nd ns k).gid), vI ((nd ns k).sec), vI ((nd ns k).nano), vI 0, vI 0, .bool false] 88]) (fun w hS => hS.xK hL2 (o := (nS (nd ns k))) (i := 5) rfl (by show ¬ (nd ns k).kind = 1; rw [hk3]; decide)) ?_
   refine aj.mem (aQ := [.abs (ak (aN ((aZ S (nd ns k)).O) L2)), .blk b1 [.slice A (ns.length) (c)] 24, .blk b7 [vI (S.X.cN), vI (S.X.cB), vI (S.X.cH), vI (S.X.cS), vI (S.X.cZ), .map (some m3), vP t4, vI (S.X.last), vI (S.X.ah), vI (S.X.used)] 86, .abs (aI Tryz.prog 3 m3 (aM (aJ L2 S.idx)) S.idx.length), .abs (aX 156 t4 S.X.cH S.aq (aJ L2 S.us)), .abs (ak (aY ((aZ S (nd ns k)).O) L2)), .abs (ak (bh ((aZ S (nd ns k)).O) L2)), .abs R, .blk b8 [vI ((nd ns k).id), vI ((nd ns k).kind), vI ((nd ns k).mode), vI ((nd ns k).uid), vI ((nd ns k).gid), vI ((nd ns k).sec), vI ((nd ns k).nano), .slice (Y.dA k) ((nd ns k).data.length) ((Y.dC k)), .string (nd ns k).target, .slice (Y.eA k) ((nd ns k).ah.length) ((Y.eC k))] 70, .blk b9 [vI ((nd ns k).id), vI ((nd ns k).mode), vI ((nd ns k).uid), vI ((nd ns k).gid), vI ((nd ns k).sec), vI ((nd ns k).nano), vI 0, vI 0, .bool false] 88]) (fun w hS => by rw [eT hL2 hfr.idx, eT hL2 hfr.us]; exact hS) ?_
   have C0 : cF L2 (mG (nd ns k)) = .iface 93 (vP b13) := by unfold mG; rw [lU hL2, hk3]; rfl
   refine aj.jY 3 (d := none) (t := 80) (K := 3) (E := 84) (b := m3) (n := S.idx.length) (f := (aM (aJ L2 S.idx))) (x := (.tmp 97)) (ix := (.tmp 99)) (y := (.tmp 105)) (key := .int .i64 ((nd ns k).id)) (u := .iface 93 (vP b13)) (kl := (.int .i64 (nd ns k).id)) (n' := (S.idx.length + 1)) (f' := (aM (aJ L2 (ins (nd ns k).id (mG (nd ns k)) S.idx)))) (fun _ => by kernel_rfl) (by kernel_rfl) (fun _ => by kernel_rfl) (fun _ => by kernel_rfl) (fun _ => by kernel_rfl) dF Tryz.underlying80 (by unfold maxLen; omega) (gE mY) (by rw [dN, hni]; rfl) (by rw [← C0]; exact o3 hni) ?_
   refine NL (ai.np (ai.aP (NX (SR ?_))))
   refine gC 6 [] [(2, a_ 8 b8), (5, a_ 2 b7)] [(2, [(7, vI ((nd ns k).id))])] ?_
   refine NN ?_
   refine af.bZ (S := [pF b7 m3 t4 { S.X with last := (nd ns k).id }, nT b8 ns k Y]) [0, 1, 2, 3, 4, 5, 6, 7, 8, 9, 10] 10 [2, 8] (by kernel_rfl) (by kernel_rfl) rfl (by kernel_rfl) ?_
   refine aF.reads (r := 0) (l := [10]) (fr' := (ME b1 b7 A ns c k S)) (aV := [(Value.int .i64 (IntKind.wrap .i64 (S.X.used + (((nd ns k).data.length : Nat) : Int)))) = (.int .i64 (S.X.used + (((nd ns k).data.length : Nat) : Int))), b8 = b8, b7 = b7]) [0, 1, 2, 3, 4, 5, 6, 7, 8, 9] [o_, o_, o_, ⟨[.at 0], none, none, none, none⟩, o_, ⟨[.at 1], none, none, none, none⟩, o_, ⟨[], none, none, none, some (vI (S.X.used + (((nd ns k).data.length : Nat) : Int)))⟩, o_, o_] [2, 6, 47, 48, 49, 118, 120] (fun _ => by kernel_rfl) ⟨bF (by omega) (by omega) (by omega), rfl, rfl, trivial⟩ rfl rfl ?_
   refine aF.last rfl rfl ?_
   refine gC 1 [] [(0, a_ 2 b7)] [(2, [(9, vI (S.X.used + (((nd ns k).data.length : Nat) : Int)))])] ?_
   refine NL (ai.np (ai.aP (NX (af.region ?_))))
   refine gK 2 [(49, vI ↑(k + 1))] [(0, p_ ⟨[], none, none, none, some (vI ↑(k + 1))⟩ [(Value.int .i64 (IntKind.wrap .i64 (((k : Nat) : Int) + 1))) = (.int .i64 ↑(k + 1))] ⟨bF (by omega) (by omega) (by omega), trivial⟩)] ?_
   refine NL ?_
   refine ai.mem (aQ := [.abs (ak (aN ((aZ S (nd ns k)).O) L2)), .blk b1 [.slice A (ns.length) (c)] 24, .blk b7 [vI ((aZ S (nd ns k)).X.cN), vI ((aZ S (nd ns k)).X.cB), vI ((aZ S (nd ns k)).X.cH), vI ((aZ S (nd ns k)).X.cS), vI ((aZ S (nd ns k)).X.cZ), .map (some m3), vP t4, vI ((aZ S (nd ns k)).X.last), vI ((aZ S (nd ns k)).X.ah), vI ((aZ S (nd ns k)).X.used)] 86, .abs (aI Tryz.prog 3 m3 (aM (aJ L2 (aZ S (nd ns k)).idx)) ((aZ S (nd ns k)).idx.length)), .abs (aX 156 t4 (aZ S (nd ns k)).X.cH (aZ S (nd ns k)).aq (aJ L2 (aZ S (nd ns k)).us)), .abs (ak (aY ((aZ S (nd ns k)).O) L2)), .abs (ak (bh ((aZ S (nd ns k)).O) L2)), .abs R, .blk b8 [vI ((nd ns k).id), vI ((nd ns k).kind), vI ((nd ns k).mode), vI ((nd ns k).uid), vI ((nd ns k).gid), vI ((nd ns k).sec), vI ((nd ns k).nano), .slice (Y.dA k) ((nd ns k).data.length) ((Y.dC k)), .string (nd ns k).target, .slice (Y.eA k) ((nd ns k).ah.length) ((Y.eC k))] 70, .blk b9 [vI ((nd ns k).id), vI ((nd ns k).mode), vI ((nd ns k).uid), vI ((nd ns k).gid), vI ((nd ns k).sec), vI ((nd ns k).nano), vI 0, vI 0, .bool false] 88]) (fun w hS => by rw [show (aZ S (nd ns k)).idx.length = S.idx.length + 1 from fW _ _ _]; exact hS) ?_
   exact ai.turn ((k + 1), (aZ S (nd ns k)), L2) (idx := [2, 6, 47, 48, 49]) (pk := [1, 2, 3, 4, 0, 5, 6, 7]) (show (((k + 1)) ≤ ns.length) ∧ (jW X ns ((k + 1)) ((aZ S (nd ns k)))) from ⟨by omega, uF hok (fun i hi => (hd i hi).1) (by omega) hB⟩) (by show ns.length - ((k + 1)) < ns.length - k; omega) (fun _ => by kernel_rfl) rfl (by kernel_rfl)
  have j8 : (nd ns k).kind = 2 := by omega
  refine af.bZ (S := [pF b7 m3 t4 S.X, nT b8 ns k Y, uG b9 ns k]) [0, 1, 2, 3, 4, 5, 6, 7, 8, 9, 10, 11] 7 [1, 8, 9] (by kernel_rfl) (by kernel_rfl) rfl (by kernel_rfl) ?_
  refine aF.reads (r := 0) (l := [7, 8, 9, 10, 11]) (fr' := (yA b1 b7 b8 A ns c k ++ MF m3 ns k)) (aV := [b9 = b9, b9 = b9, b9 = b9, b9 = b9, b9 = b9, b9 = b9, b9 = b9, b9 = b9, b9 = b9, b8 = b8, b7 = b7]) [0, 1, 2, 3, 4, 5, 6] [o_, o_, o_, ⟨[.at 0], none, none, none, none⟩, o_, ⟨[.at 1], none, none, none, none⟩, ⟨[.at 2, .at 2, .at 2, .at 2, .at 2, .at 2, .at 2, .at 2, .at 2], none, none, none, none⟩] [2, 6, 8, 47, 48, 49, 69, 71, 72] (fun _ => by kernel_rfl) ⟨rfl, rfl, rfl, rfl, rfl, rfl, rfl, rfl, rfl, rfl, rfl, trivial⟩ rfl rfl ?_
  refine aF.cut (ι := Nat) (fr' := fun (m14 : Nat) => (yA b1 b7 b8 A ns c k ++ MF m3 ns k ++ [(73, .map (some m14))])) (hp' := fun (m14 : Nat) => (tB b1 A ns c b7 m3 t4 S L R ++ [nT b8 ns k Y, uG b9 ns k, .abs (aI Tryz.prog 9 m14 (fun _ => none) 0)])) [1, 8, 9] rfl rfl ?_ rfl (fun _ => by kernel_rfl) ?_
  ·refine aj.lJ (d := (some 73)) (t := 97) (fun _ => by kernel_rfl) Tryz.prog rfl 9 (fun m14 => ?_)
   refine NL ?_
   exact MD m14 [2, 6, 8, 47, 48, 49, 69, 71, 72, 73] [0, 1, 2, 3, 4, 5, 6, 7, 8, 9, 10]
  rintro m14
  refine aF.cut (ι := Unit) (fr' := fun (_ : Unit) => (yA b1 b7 b8 A ns c k ++ [(69, .map (some m3)), (71, vI ((nd ns k).id)), (74, .agg #[vI ((nd ns k).id), vI ((nd ns k).mode), vI ((nd ns k).uid), vI ((nd ns k).gid), vI ((nd ns k).sec), vI ((nd ns k).nano), vI 0, vI 0, .bool false, .map (some m14), .pointer none])])) (hp' := fun (_ : Unit) => (tB b1 A ns c b7 m3 t4 S L R ++ [nT b8 ns k Y, uG b9 ns k, .abs (aI Tryz.prog 9 m14 (fun _ => none) 0)])) [1, 8, 9] rfl rfl ?_ rfl (fun _ => by kernel_rfl) ?_
  ·refine gK 1 [(74, .agg #[vI ((nd ns k).id), vI ((nd ns k).mode), vI ((nd ns k).uid), vI ((nd ns k).gid), vI ((nd ns k).sec), vI ((nd ns k).nano), vI 0, vI 0, .bool false, .map (some m14), .pointer none])] [] ?_
   refine NL ?_
   exact MD () [2, 6, 8, 47, 48, 49, 69, 71, 74] [0, 1, 2, 3, 4, 5, 6, 7, 8, 9, 10]
  rintro _
  refine mN [1, 8, 9] (fun b15 => [(75, vP b15)]) (fun _ => []) (fun b15 => .blk b15 [vI ((nd ns k).id), vI ((nd ns k).mode), vI ((nd ns k).uid), vI ((nd ns k).gid), vI ((nd ns k).sec), vI ((nd ns k).nano), vI 0, vI 0, .bool false, .map (some m14), .pointer none] 99) (fun b15 => ?_)
  refine aF.cut (ι := Unit) (fr' := fun (_ : Unit) => (yA b1 b7 b8 A ns c k ++ [(69, .map (some m3)), (71, vI ((nd ns k).id)), (76, .iface 96 (vP b15))])) (hp' := fun (_ : Unit) => (tB b1 A ns c b7 m3 t4 S L R ++ [nT b8 ns k Y, uG b9 ns k, .abs (aI Tryz.prog 9 m14 (fun _ => none) 0), .blk b15 [vI ((nd ns k).id), vI ((nd ns k).mode), vI ((nd ns k).uid), vI ((nd ns k).gid), vI ((nd ns k).sec), vI ((nd ns k).nano), vI 0, vI 0, .bool false, .map (some m14), .pointer none] 99])) [1, 8, 9] rfl rfl ?_ rfl (fun _ => by kernel_rfl) ?_
  ·refine gK 1 [(76, .iface 96 (vP b15))] [] ?_
   refine NL ?_
   exact MD () [2, 6, 8, 47, 48, 49, 69, 71, 76] [0, 1, 2, 3, 4, 5, 6, 7, 8, 9, 10, 11]
  rintro _
  refine aF.last rfl rfl ?_
  obtain ⟨L2, hL2⟩ : ∃ L2 : HL, L2 = L.put (dX (nd ns k)) b15 m14 none 0 := ⟨_, rfl⟩
  have hfr := hB.fresh hok (by omega)
  refine aj.mem (aQ := [.abs (ak (aN ((aZ S (nd ns k)).O) L2)), .blk b1 [.slice A (ns.length) (c)] 24, .blk b7 [vI (S.X.cN), vI (S.X.cB), vI (S.X.cH), vI (S.X.cS), vI (S.X.cZ), .map (some m3), vP t4, vI (S.X.last), vI (S.X.ah), vI (S.X.used)] 86, .abs (aI Tryz.prog 3 m3 (aM (aJ L S.idx)) S.idx.length), .abs (aX 156 t4 S.X.cH S.aq (aJ L S.us)), .abs (ak (aY S.O L)), .abs (ak (bh S.O L)), .abs R, .blk b8 [vI ((nd ns k).id), vI ((nd ns k).kind), vI ((nd ns k).mode), vI ((nd ns k).uid), vI ((nd ns k).gid), vI ((nd ns k).sec), vI ((nd ns k).nano), .slice (Y.dA k) ((nd ns k).data.length) ((Y.dC k)), .string (nd ns k).target, .slice (Y.eA k) ((nd ns k).ah.length) ((Y.eC k))] 70, .blk b9 [vI ((nd ns k).id), vI ((nd ns k).mode), vI ((nd ns k).uid), vI ((nd ns k).gid), vI ((nd ns k).sec), vI ((nd ns k).nano), vI 0, vI 0, .bool false] 88, .abs (aI Tryz.prog 9 m14 (fun _ => none) 0)]) (fun w hS => hS.qy hL2 hfr (o := (nS (nd ns k))) (i := 4) (j := 11) (ix := [0, 1, 2, 3, 5, 6, 7, 8, 9, 10]) rfl rfl (by kernel_rfl) rfl (by show (nd ns k).kind ≠ 0; rw [j8]; decide) ((gD (L := L2) (k := (dX (nd ns k))) (o := (nS (nd ns k))) j8).trans (by rw [Ci hL2]; rfl)) (by show kI (nd ns k).kind = _; rw [j8]; rfl)) ?_
  refine aj.mem (aQ := [pE ((aZ S (nd ns k)).O) L2, pO ((aZ S (nd ns k)).O) L2, vO b1 A ns c, pF b7 m3 t4 S.X, pI m3 L S.idx, jI t4 S L, pD S.O L, .abs R, nT b8 ns k Y, uG b9 ns k]) (fun w hS => hS.JI hL2 hfr (o := (nS (nd ns k))) (i := 6) (j := 10) (ix := [0, 1, 2, 3, 4, 5, 7, 8, 9]) rfl rfl (by kernel_rfl) rfl j8 rfl) ?_
  refine aj.mem (aQ := [.abs (ak (bh ((aZ S (nd ns k)).O) L2)), .abs (ak (aN ((aZ S (nd ns k)).O) L2)), .blk b1 [.slice A (ns.length) (c)] 24, .blk b7 [vI (S.X.cN), vI (S.X.cB), vI (S.X.cH), vI (S.X.cS), vI (S.X.cZ), .map (some m3), vP t4, vI (S.X.last), vI (S.X.ah), vI (S.X.used)] 86, .abs (aI Tryz.prog 3 m3 (aM (aJ L S.idx)) S.idx.length), .abs (aX 156 t4 S.X.cH S.aq (aJ L S.us)), .abs (ak (aY ((aZ S (nd ns k)).O) L2)), .abs R, .blk b8 [vI ((nd ns k).id), vI ((nd ns k).kind), vI ((nd ns k).mode), vI ((nd ns k).uid), vI ((nd ns k).gid), vI ((nd ns k).sec), vI ((nd ns k).nano), .slice (Y.dA k) ((nd ns k).data.length) ((Y.dC k)), .string (nd ns k).target, .slice (Y.eA k) ((nd ns k).ah.length) ((Y.eC k))] 70, .blk b9 [vI ((nd ns k).id), vI ((nd ns k).mode), vI ((nd ns k).uid), vI ((nd ns k).gid), vI ((nd ns k).sec), vI ((nd ns k).nano), vI 0, vI 0, .bool false] 88]) (fun w hS => hS.xK hL2 (o := (nS (nd ns k))) (i := 6) rfl (by show ¬ (nd ns k).kind = 1; rw [j8]; decide)) ?_
  refine aj.mem (aQ := [.abs (ak (bh ((aZ S (nd ns k)).O) L2)), .abs (ak (aN ((aZ S (nd ns k)).O) L2)), .blk b1 [.slice A (ns.length) (c)] 24, .blk b7 [vI (S.X.cN), vI (S.X.cB), vI (S.X.cH), vI (S.X.cS), vI (S.X.cZ), .map (some m3), vP t4, vI (S.X.last), vI (S.X.ah), vI (S.X.used)] 86, .abs (aI Tryz.prog 3 m3 (aM (aJ L2 S.idx)) S.idx.length), .abs (aX 156 t4 S.X.cH S.aq (aJ L2 S.us)), .abs (ak (aY ((aZ S (nd ns k)).O) L2)), .abs R, .blk b8 [vI ((nd ns k).id), vI ((nd ns k).kind), vI ((nd ns k).mode), vI ((nd ns k).uid), vI ((nd ns k).gid), vI ((nd ns k).sec), vI ((nd ns k).nano), .slice (Y.dA k) ((nd ns k).data.length) ((Y.dC k)), .string (nd ns k).target, .slice (Y.eA k) ((nd ns k).ah.length) ((Y.eC k))] 70, .blk b9 [vI ((nd ns k).id), vI ((nd ns k).mode), vI ((nd ns k).uid), vI ((nd ns k).gid), vI ((nd ns k).sec), vI ((nd ns k).nano), vI 0, vI 0, .bool false] 88]) (fun w hS => by rw [eT hL2 hfr.idx, eT hL2 hfr.us]; exact hS) ?_
  have C0 : cF L2 (mG (nd ns k)) = .iface 96 (vP b15) := by unfold mG; rw [lU hL2, j8]; rfl
  refine aj.jY 4 (d := none) (t := 80) (K := 3) (E := 84) (b := m3) (n := S.idx.length) (f := (aM (aJ L2 S.idx))) (x := (.tmp 69)) (ix := (.tmp 71)) (y := (.tmp 76)) (key := .int .i64 ((nd ns k).id)) (u := .iface 96 (vP b15)) (kl := (.int .i64 (nd ns k).id)) (n' := (S.idx.length + 1)) (f' := (aM (aJ L2 (ins (nd ns k).id (mG (nd ns k)) S.idx)))) (fun _ => by kernel_rfl) (by kernel_rfl) (fun _ => by kernel_rfl) (fun _ => by kernel_rfl) (fun _ => by kernel_rfl) dF Tryz.underlying80 (by unfold maxLen; omega) (gE mY) (by rw [dN, hni]; rfl) (by rw [← C0]; exact o3 hni) ?_
  refine NL (ai.np (ai.aP (NX (SR ?_))))
  refine gC 6 [] [(2, a_ 8 b8), (5, a_ 3 b7)] [(3, [(7, vI ((nd ns k).id))])] ?_
  refine NN ?_
  refine af.bZ (S := [pF b7 m3 t4 { S.X with last := (nd ns k).id }, nT b8 ns k Y]) [0, 1, 2, 3, 4, 5, 6, 7, 8, 9, 10] 10 [3, 8] (by kernel_rfl) (by kernel_rfl) rfl (by kernel_rfl) ?_
  refine aF.reads (r := 0) (l := [10]) (fr' := (ME b1 b7 A ns c k S)) (aV := [(Value.int .i64 (IntKind.wrap .i64 (S.X.used + (((nd ns k).data.length : Nat) : Int)))) = (.int .i64 (S.X.used + (((nd ns k).data.length : Nat) : Int))), b8 = b8, b7 = b7]) [0, 1, 2, 3, 4, 5, 6, 7, 8, 9] [o_, o_, o_, ⟨[.at 0], none, none, none, none⟩, o_, ⟨[.at 1], none, none, none, none⟩, o_, ⟨[], none, none, none, some (vI (S.X.used + (((nd ns k).data.length : Nat) : Int)))⟩, o_, o_] [2, 6, 47, 48, 49, 118, 120] (fun _ => by kernel_rfl) ⟨bF (by omega) (by omega) (by omega), rfl, rfl, trivial⟩ rfl rfl ?_
  refine aF.last rfl rfl ?_
  refine gC 1 [] [(0, a_ 3 b7)] [(3, [(9, vI (S.X.used + (((nd ns k).data.length : Nat) : Int)))])] ?_
  refine NL (ai.np (ai.aP (NX (af.region ?_))))
  refine gK 2 [(49, vI ↑(k + 1))] [(0, p_ ⟨[], none, none, none, some (vI ↑(k + 1))⟩ [(Value.int .i64 (IntKind.wrap .i64 (((k : Nat) : Int) + 1))) = (.int .i64 ↑(k + 1))] ⟨bF (by omega) (by omega) (by omega), trivial⟩)] ?_
  refine NL ?_
  refine ai.mem (aQ := [.abs (ak (bh ((aZ S (nd ns k)).O) L2)), .abs (ak (aN ((aZ S (nd ns k)).O) L2)), .blk b1 [.slice A (ns.length) (c)] 24, .blk b7 [vI ((aZ S (nd ns k)).X.cN), vI ((aZ S (nd ns k)).X.cB), vI ((aZ S (nd ns k)).X.cH), vI ((aZ S (nd ns k)).X.cS), vI ((aZ S (nd ns k)).X.cZ), .map (some m3), vP t4, vI ((aZ S (nd ns k)).X.last), vI ((aZ S (nd ns k)).X.ah), vI ((aZ S (nd ns k)).X.used)] 86, .abs (aI Tryz.prog 3 m3 (aM (aJ L2 (aZ S (nd ns k)).idx)) ((aZ S (nd ns k)).idx.length)), .abs (aX 156 t4 (aZ S (nd ns k)).X.cH (aZ S (nd ns k)).aq (aJ L2 (aZ S (nd ns k)).us)), .abs (ak (aY ((aZ S (nd ns k)).O) L2)), .abs R, .blk b8 [vI ((nd ns k).id), vI ((nd ns k).kind), vI ((nd ns k).mode), vI ((nd ns k).uid), vI ((nd ns k).gid), vI ((nd ns k).sec), vI ((nd ns k).nano), .slice (Y.dA k) ((nd ns k).data.length) ((Y.dC k)), .string (nd ns k).target, .slice (Y.eA k) ((nd ns k).ah.length) ((Y.eC k))] 70, .blk b9 [vI ((nd ns k).id), vI ((nd ns k).mode), vI ((nd ns k).uid), vI ((nd ns k).gid), vI ((nd ns k).sec), vI ((nd ns k).nano), vI 0, vI 0, .bool false] 88]) (fun w hS => by rw [show (aZ S (nd ns k)).idx.length = S.idx.length + 1 from fW _ _ _]; exact hS) ?_
  exact ai.turn ((k + 1), (aZ S (nd ns k)), L2) (idx := [2, 6, 47, 48, 49]) (pk := [2, 3, 4, 5, 1, 6, 0, 7]) (show (((k + 1)) ≤ ns.length) ∧ (jW X ns ((k + 1)) ((aZ S (nd ns k)))) from ⟨by omega, uF hok (fun i hi => (hd i hi).1) (by omega) hB⟩) (by show ns.length - ((k + 1)) < ns.length - k; omega) (fun _ => by kernel_rfl) rfl (by kernel_rfl)
 refine af.exit (ai.bq (ai.bq (ai.cL (NX (af.seq (SR ?_))))))
 refine gK 4 [(123, .slice A (ns.length) (c)), (124, vI ↑ns.length), (125, vI 0)] [(1, a_ 0 b1)] ?_
 refine NN (af.block ?_)
 refine af.loop (ι := Nat × aE) (fun ((i, S1) : Nat × aE) => (i ≤ ns.length) ∧ (dY X ns i 0 S1)) (fun ((i, S1) : Nat × aE) => ns.length - i) (fun ((i, S1) : Nat × aE) => [(6, vP b7), (123, .slice A (ns.length) (c)), (124, vI ↑ns.length), (125, vI ↑i)]) (fun ((i, S1) : Nat × aE) => (tB b1 A ns c b7 m3 t4 S1 L R)) (0, S) (idx := [6, 123, 124, 125]) (pk := [0, 1, 2, 3, 4, 5, 6, 7]) (show (0 ≤ ns.length) ∧ (dY X ns 0 0 S) from ⟨Nat.zero_le _, by have h := hB; rw [show k = ns.length by omega] at h; exact h.ah⟩) (fun _ => by kernel_rfl) rfl (by kernel_rfl) ?_
 rintro ⟨i, S1⟩ ⟨hi, hE⟩
 show af _ _ _ _ [(6, vP b7), (123, .slice A (ns.length) (c)), (124, vI ↑ns.length), (125, vI ↑i)] (tB b1 A ns c b7 m3 t4 S1 L R) _
 refine SR ?_
 refine gK 1 [(126, .bool (decide ((((i : Nat) : Int) : Int) < (((ns.length : Nat) : Int) : Int))))] [] ?_
 refine NN (af.seq ?_)
 refine af.bA (p := (((i : Nat) : Int) : Int) < (((ns.length : Nat) : Int) : Int)) (fun _ => by kernel_rfl) (fun Pa => ?_) (fun Pa => ?_)
 ·refine af.skip (NX (af.seq (af.block (SR ?_))))
  refine gN 4 (fun b16 => [(11, vP b16)]) (fun b16 => [(0, p_ ⟨[], some i, none, some ⟨(aB A), ay A, none⟩, none⟩ [((i : Nat) : Int) = ((i : Nat) : Int), i < ns.length, (⟨(aB A), ay A, none⟩ : Addr).spot = none, (A : Option Addr) = some ⟨(aB A), ay A, none⟩] ⟨rfl, by omega, rfl, aD.hd hG (i := i) (by omega), trivial⟩), (1, p_ ⟨[.old (.int .i64 ((nd ns i).id)), .old (.int .i64 ((nd ns i).kind)), .old (.int .i64 ((nd ns i).mode)), .old (.int .i64 ((nd ns i).uid)), .old (.int .i64 ((nd ns i).gid)), .old (.int .i64 ((nd ns i).sec)), .old (.int .i64 ((nd ns i).nano)), .old (.slice (Y.dA i) ((nd ns i).data.length) ((Y.dC i))), .old (.string (nd ns i).target), .old (.slice (Y.eA i) ((nd ns i).ah.length) ((Y.eC i)))], none, none, none, none⟩ [(Rd β ⟨(aB A), ay A + i * 10 + 9, none⟩ (.slice (Y.eA i) ((nd ns i).ah.length) ((Y.eC i)))), (Rd β ⟨(aB A), ay A + i * 10 + 8, none⟩ (.string (nd ns i).target)), (Rd β ⟨(aB A), ay A + i * 10 + 7, none⟩ (.slice (Y.dA i) ((nd ns i).data.length) ((Y.dC i)))), (Rd β ⟨(aB A), ay A + i * 10 + 6, none⟩ (.int .i64 ((nd ns i).nano))), (Rd β ⟨(aB A), ay A + i * 10 + 5, none⟩ (.int .i64 ((nd ns i).sec))), (Rd β ⟨(aB A), ay A + i * 10 + 4, none⟩ (.int .i64 ((nd ns i).gid))), (Rd β ⟨(aB A), ay A + i * 10 + 3, none⟩ (.int .i64 ((nd ns i).uid))), (Rd β ⟨(aB A), ay A + i * 10 + 2, none⟩ (.int .i64 ((nd ns i).mode))), (Rd β ⟨(aB A), ay A + i * 10 + 1, none⟩ (.int .i64 ((nd ns i).kind))), (Rd β ⟨(aB A), ay A + i * 10, none⟩ (.int .i64 ((nd ns i).id)))] ⟨aD.rd hG (i := i) (by omega) (j := 9) rfl, aD.rd hG (i := i) (by omega) (j := 8) rfl, aD.rd hG (i := i) (by omega) (j := 7) rfl, aD.rd hG (i := i) (by omega) (j := 6) rfl, aD.rd hG (i := i) (by omega) (j := 5) rfl, aD.rd hG (i := i) (by omega) (j := 4) rfl, aD.rd hG (i := i) (by omega) (j := 3) rfl, aD.rd hG (i := i) (by omega) (j := 2) rfl, aD.rd hG (i := i) (by omega) (j := 1) rfl, aD.rd hG (i := i) (by omega) (j := 0) rfl, trivial⟩), (3, A_ 8 b16 10)]) (fun _ => []) (fun b16 => .blk b16 [vI ((nd ns i).id), vI ((nd ns i).kind), vI ((nd ns i).mode), vI ((nd ns i).uid), vI ((nd ns i).gid), vI ((nd ns i).sec), vI ((nd ns i).nano), .slice (Y.dA i) ((nd ns i).data.length) ((Y.dC i)), .string (nd ns i).target, .slice (Y.eA i) ((nd ns i).ah.length) ((Y.eC i))] 70) (fun b16 => ?_)
  refine NS ?_
  refine gK 4 [(130, .slice (Y.eA i) ((nd ns i).ah.length) ((Y.eC i))), (131, vI ↑((nd ns i).ah.length)), (132, vI 0)] [(1, a_ 8 b16)] ?_
  refine NN (af.block ?_)
  refine af.loop (ι := Nat × aE) (fun ((j, S2) : Nat × aE) => (j ≤ (nd ns i).ah.length) ∧ (dY X ns i j S2)) (fun ((j, S2) : Nat × aE) => (nd ns i).ah.length - j) (fun ((j, S2) : Nat × aE) => (Om b7 b16 A ns c i Y j)) (fun ((j, S2) : Nat × aE) => ([nT b16 ns i Y] ++ tB b1 A ns c b7 m3 t4 S2 L R)) (0, S1) (idx := [6, 11, 123, 124, 125, 130, 131, 132]) (pk := [8, 0, 1, 2, 3, 4, 5, 6, 7]) (show (0 ≤ (nd ns i).ah.length) ∧ (dY X ns i 0 S1) from ⟨Nat.zero_le _, hE⟩) (fun _ => by kernel_rfl) rfl (by kernel_rfl) ?_
  rintro ⟨j, S2⟩ ⟨hj, rP⟩
  show af _ _ _ _ (Om b7 b16 A ns c i Y j) ([nT b16 ns i Y] ++ tB b1 A ns c b7 m3 t4 S2 L R) _
  refine SR ?_
  refine gK 1 [(133, .bool (decide ((((j : Nat) : Int) : Int) < ((((nd ns i).ah.length : Nat) : Int) : Int))))] [] ?_
  refine NN (af.seq ?_)
  refine af.bA (p := (((j : Nat) : Int) : Int) < ((((nd ns i).ah.length : Nat) : Int) : Int)) (fun _ => by kernel_rfl) (fun Ji => ?_) (fun Ji => ?_)
  ·have hj2 : j < (nd ns i).ah.length := by omega
   have hi2 : i < ns.length := by omega
   have Pb := rP.get hi2
   obtain ⟨hes, hno, hk2⟩ := rP.look hok hi2 hj2
   have MH := rO hok hi2 hj2
   have CP : TabM.get S2.idx (nd ns i).id = some ⟨(dX (nd ns i)), 2⟩ := by rw [Pb]; unfold mG; rw [hk2]
   have hge : TabM.get S2.idx (ent ns i j).id = some (jV ns (ent ns i j)) := by rw [← MH.2]; exact rP.get MH.1
   have Jf := hok.ids i hi2
   have hiw : (Lit.int .i64 (nd ns i).id).wf = true := WalkArith.wf_i64 (by omega)
   have P5 : (Lit.int .i64 (ent ns i j).id).wf = true := WalkArith.wf_i64 (by have := hwf i hi2 j hj2; omega)
   have hld := rP.live hok hi2
   have hlt := rP.live hok MH.1
   have hkd : (obj S2.O (dX (nd ns i))).kind = 2 := (rP.inv.kind hld).trans hk2
   have hkt : (obj S2.O (jV ns (ent ns i j)).k).kind = (jV ns (ent ns i j)).kind := rP.inv.kind hlt
   have h3 : (jV ns (ent ns i j)).kind = 1 ∨ (jV ns (ent ns i j)).kind = 2 ∨ (jV ns (ent ns i j)).kind = 3 := (rP.inv.ob _ hlt).2.2
   have hlb : 0 ≤ (obj S2.O (jV ns (ent ns i j)).k).links ∧ (obj S2.O (jV ns (ent ns i j)).k).links ≤ 8192 := rP.inv.lb hlt
   have hel : (obj S2.O (dX (nd ns i))).ah.length ≤ 8192 := rP.inv.eG hld
   have hsz := hnm i hi2 j hj2
   have hde := hd i hi2
   have Q6 := rP.inv.hX
   refine af.skip (NX (af.seq (af.block (SR ?_))))
   refine gN 4 (fun b17 => [(13, vP b17)]) (fun b17 => [(0, p_ ⟨[], some j, none, some ⟨(aB (Y.eA i)), ay (Y.eA i), none⟩, none⟩ [((j : Nat) : Int) = ((j : Nat) : Int), j < (nd ns i).ah.length, (⟨(aB (Y.eA i)), ay (Y.eA i), none⟩ : Addr).spot = none, ((Y.eA i) : Option Addr) = some ⟨(aB (Y.eA i)), ay (Y.eA i), none⟩] ⟨rfl, by omega, rfl, dK.hd (hG.ah i (by omega)) (i := j) (by omega), trivial⟩), (1, p_ ⟨[.old (.string (en (nd ns i).ah j).name), .old (.int .i64 ((en (nd ns i).ah j).id))], none, none, none, none⟩ [(Rd β ⟨(aB (Y.eA i)), ay (Y.eA i) + j * 2 + 1, none⟩ (.int .i64 ((en (nd ns i).ah j).id))), (Rd β ⟨(aB (Y.eA i)), ay (Y.eA i) + j * 2, none⟩ (.string (en (nd ns i).ah j).name))] ⟨dK.rd (hG.ah i (by omega)) (i := j) (by omega) (j := 1) rfl, dK.rd (hG.ah i (by omega)) (i := j) (by omega) (j := 0) rfl, trivial⟩), (3, A_ 9 b17 2)]) (fun _ => []) (fun b17 => .blk b17 [.string (en (nd ns i).ah j).name, vI ((en (nd ns i).ah j).id)] 101) (fun b17 => ?_)
   refine NN (af.seq ?_)
   refine af.bZ (S := [pF b7 m3 t4 S2.X, pI m3 L S2.idx, nT b16 ns i Y, .blk b17 [.string (en (nd ns i).ah j).name, vI ((en (nd ns i).ah j).id)] 101]) [0, 1, 2, 3, 4, 5, 6, 7, 8, 9, 10, 11, 12, 13, 14, 15, 16, 17] 17 [2, 3, 0, 9] (by kernel_rfl) (by kernel_rfl) rfl (by kernel_rfl) ?_
   refine aF.reads (r := 11) (l := [6, 7, 8, 9, 10, 11, 12, 13, 14, 15, 16, 17]) (fr' := ([(6, vP b7), (11, vP b16), (13, vP b17)] ++ MG A ns c i Y j ++ [(139, .map (some m3)), (141, vI ((nd ns i).id))])) (aV := [b16 = b16, b7 = b7]) [0, 1, 2, 3, 4, 5] [o_, o_, o_, ⟨[.at 0], none, none, none, none⟩, o_, ⟨[.at 2], none, none, none, none⟩] [6, 11, 13, 123, 124, 125, 130, 131, 132, 139, 141] (fun _ => by kernel_rfl) ⟨rfl, rfl, trivial⟩ rfl rfl ?_
   refine aF.dM 1 (d := (some 142)) (t := 80) (K := 3) (E := 84) (b := m3) (cnt := S2.idx.length) (f := (aM (aJ L S2.idx))) (x := (.tmp 139)) (ix := (.tmp 141)) (key := .int .i64 ((nd ns i).id)) (z := .nilIface) (kl := (.int .i64 (nd ns i).id)) (q := (some (cF L ⟨(dX (nd ns i)), 2⟩))) (by kernel_rfl) (by kernel_rfl) (fun _ => by kernel_rfl) (fun _ => by kernel_rfl) dF Tryz.underlying80 (fun _ => by kernel_rfl) (gE hiw) (by rw [dN, CP]; rfl) (by kernel_rfl) ?_
   refine aF.reads (r := 1) (l := [16, 17]) (fr' := ([(6, vP b7), (11, vP b16)] ++ MG A ns c i Y j ++ [(143, vP (L.b (dX (nd ns i)))), (145, .string (en (nd ns i).ah j).name), (149, .map (some m3)), (151, vI ((en (nd ns i).ah j).id))])) (aV := [b17 = b17, b7 = b7, b17 = b17]) [7, 8, 9, 10, 11, 12, 13, 14, 15] [o_, o_, ⟨[.at 3], none, none, none, none⟩, o_, o_, o_, ⟨[.at 0], none, none, none, none⟩, o_, ⟨[.at 3], none, none, none, none⟩] [6, 11, 123, 124, 125, 130, 131, 132, 143, 145, 149, 151] (fun _ => by kernel_rfl) ⟨rfl, rfl, rfl, trivial⟩ rfl rfl ?_
   refine aF.dM 1 (d := (some 152)) (t := 80) (K := 3) (E := 84) (b := m3) (cnt := S2.idx.length) (f := (aM (aJ L S2.idx))) (x := (.tmp 149)) (ix := (.tmp 151)) (key := .int .i64 ((en (nd ns i).ah j).id)) (z := .nilIface) (kl := (.int .i64 (ent ns i j).id)) (q := (some (cF L (jV ns (ent ns i j))))) (by kernel_rfl) (by kernel_rfl) (fun _ => by kernel_rfl) (fun _ => by kernel_rfl) dF Tryz.underlying80 (fun _ => by kernel_rfl) (gE P5) (by rw [dN, hge]; rfl) (by kernel_rfl) ?_
   refine aF.last rfl rfl ?_
   refine gL [5, 7] (D4 S2.O L (dX (nd ns i)) hkd (ent ns i j).name hsz hno (by omega) (jV ns (ent ns i j)) hkt h3 (by omega)) ?_
   rintro _ _ ⟨rfl, rfl⟩
   refine NL (ai.np (NX (af.region ?_)))
   refine gC 8 [] [(3, a_ 4 b7), (4, p_ ⟨[], none, none, none, some (vI (S2.X.ah + 1))⟩ [(Value.int .i64 (IntKind.wrap .i64 (S2.X.ah + 1))) = (.int .i64 (S2.X.ah + 1))] ⟨bF (by omega) (by omega) (by omega), trivial⟩), (7, a_ 4 b7)] [(4, [(8, vI (S2.X.ah + 1))])] ?_
   refine NL (ai.aP (NX (af.region ?_)))
   refine gK 2 [(132, vI ↑(j + 1))] [(0, p_ ⟨[], none, none, none, some (vI ↑(j + 1))⟩ [(Value.int .i64 (IntKind.wrap .i64 (((j : Nat) : Int) + 1))) = (.int .i64 ↑(j + 1))] ⟨bF (by omega) (by omega) (by omega), trivial⟩)] ?_
   refine NL ?_
   refine ai.mem (aQ := [.abs (ak (aN ((jj ns S2 (nd ns i) (ent ns i j)).O) L)), .abs (ak (bh ((jj ns S2 (nd ns i) (ent ns i j)).O) L)), .blk b16 [vI ((nd ns i).id), vI ((nd ns i).kind), vI ((nd ns i).mode), vI ((nd ns i).uid), vI ((nd ns i).gid), vI ((nd ns i).sec), vI ((nd ns i).nano), .slice (Y.dA i) ((nd ns i).data.length) ((Y.dC i)), .string (nd ns i).target, .slice (Y.eA i) ((nd ns i).ah.length) ((Y.eC i))] 70, .blk b1 [.slice A (ns.length) (c)] 24, .blk b7 [vI ((jj ns S2 (nd ns i) (ent ns i j)).X.cN), vI ((jj ns S2 (nd ns i) (ent ns i j)).X.cB), vI ((jj ns S2 (nd ns i) (ent ns i j)).X.cH), vI ((jj ns S2 (nd ns i) (ent ns i j)).X.cS), vI ((jj ns S2 (nd ns i) (ent ns i j)).X.cZ), .map (some m3), vP t4, vI ((jj ns S2 (nd ns i) (ent ns i j)).X.last), vI ((jj ns S2 (nd ns i) (ent ns i j)).X.ah), vI ((jj ns S2 (nd ns i) (ent ns i j)).X.used)] 86, .abs (aI Tryz.prog 3 m3 (aM (aJ L (jj ns S2 (nd ns i) (ent ns i j)).idx)) ((jj ns S2 (nd ns i) (ent ns i j)).idx.length)), .abs (aX 156 t4 (jj ns S2 (nd ns i) (ent ns i j)).X.cH (jj ns S2 (nd ns i) (ent ns i j)).aq (aJ L (jj ns S2 (nd ns i) (ent ns i j)).us)), .abs (ak (aY ((jj ns S2 (nd ns i) (ent ns i j)).O) L)), .abs R, .blk b17 [.string (en (nd ns i).ah j).name, vI ((en (nd ns i).ah j).id)] 101]) (fun w hS => by rw [show aY (jj ns S2 (nd ns i) (ent ns i j)).O L = aY S2.O L from KG]; exact hS) ?_
   exact ai.turn ((j + 1), (jj ns S2 (nd ns i) (ent ns i j))) (idx := [6, 11, 123, 124, 125, 130, 131, 132]) (pk := [2, 3, 4, 5, 6, 0, 7, 1, 8]) (show (((j + 1)) ≤ (nd ns i).ah.length) ∧ (dY X ns i ((j + 1)) ((jj ns S2 (nd ns i) (ent ns i j)))) from ⟨by omega, rP.step hok (by omega) (by omega)⟩) (by show (nd ns i).ah.length - ((j + 1)) < (nd ns i).ah.length - j; omega) (fun _ => by kernel_rfl) rfl (by kernel_rfl)
  refine af.exit (ai.bq (ai.bq (ai.cL (ai.aP (NX (af.region ?_))))))
  refine gK 2 [(125, vI ↑(i + 1))] [(0, p_ ⟨[], none, none, none, some (vI ↑(i + 1))⟩ [(Value.int .i64 (IntKind.wrap .i64 (((i : Nat) : Int) + 1))) = (.int .i64 ↑(i + 1))] ⟨bF (by omega) (by omega) (by omega), trivial⟩)] ?_
  refine NL ?_
  exact ai.turn ((i + 1), S2) (idx := [6, 123, 124, 125]) (pk := [1, 2, 3, 4, 5, 6, 7, 8]) (show (((i + 1)) ≤ ns.length) ∧ (dY X ns ((i + 1)) 0 S2) from ⟨by omega, by have h := rP; rw [show j = (nd ns i).ah.length by omega] at h; exact h.next⟩) (by show ns.length - ((i + 1)) < ns.length - i; omega) (fun _ => by kernel_rfl) rfl (by kernel_rfl)
 refine af.exit (ai.bq (ai.bq (ai.cL (NX (SR ?_)))))
 refine gK 3 [(4, vP b7), (5, vI 0)] [] ?_
 refine NN (af.ret ?_)
 exact RT (.tuple #[vP b7, vI 0]) [1, 2, 3, 4, 5, 6, 7] (.inr (.inr ⟨hcap, hok, S1, b7, m3, t4, L, by have h := hE; rw [show i = ns.length by omega] at h; exact h, rfl, rfl⟩))
end
section
open Go.RowKit Go.Maps HeapM TabM
theorem C2 {b : UInt8} (h0 : ¬ b = 0) (h1 : ¬ b = 47) (h2 : ¬ b = 46) : bB ⟨#[b]⟩ := by
  refine ⟨Nat.le_refl _, (by show 1 ≤ 255; decide), fun e => h2 ?_, fun e => ?_, fun j hj => ?_⟩
  ·injection e with e
   have e : [b] = [46] := congrArg Array.toList e
   injection e
  ·injection e with e
   have e : [b] = [46, 46] := congrArg Array.toList e
   injection e with _ e
   cases e
  have : j = 0 := by have hj : j < 1 := hj; omega
  subst this
  show ¬ b.toNat = 0 ∧ ¬ b.toNat = 47
  exact ⟨fun e => h0 (UInt8.toNat_inj.1 e), fun e => h1 (UInt8.toNat_inj.1 e)⟩
theorem uI : cQ 0 0 := ⟨by decide, by decide, by decide, by decide, by decide⟩
def Fg : aK := ⟨1, 2, 493, 0, 0, 0, 0, [], ⟨#[]⟩, [⟨⟨#[102]⟩, 2⟩]⟩
def ND : aK := ⟨2, 1, 420, 0, 0, 0, 0, [], ⟨#[]⟩, []⟩
def nk : List aK := [Fg, ND]
def Jj (room : Int) : FM := ⟨9, room, 9, 0, 0, 0, 0, 0⟩
theorem sO {i : Nat} (h : i < nk.length) : i = 0 ∨ i = 1 := by
  have h : i < 2 := h
  omega
theorem MI : bL nk := by
  refine ⟨by decide, fun i hi => ?_, fun i hi => ?_, fun i j hij hj => ?_, by decide, fun i hi j hj => ?_, by decide, fun z => ?_⟩
  ·rcases sO hi with rfl | rfl
   ·exact ⟨by decide, by decide, by decide, by decide, uI, fun _ => rfl, fun h => absurd rfl h, .inl ⟨by decide, rfl⟩⟩
   exact ⟨by decide, by decide, by decide, by decide, uI, fun h => absurd rfl h, fun _ => rfl, .inl ⟨by decide, rfl⟩⟩
  ·rcases sO hi with rfl | rfl <;> exact ⟨by decide, by decide⟩
  ·rcases sO hj with rfl | rfl
   ·omega
   have : i = 0 := by omega
   subst this; decide
  ·rcases sO hi with rfl | rfl
   ·have hj : j < 1 := hj
    have : j = 0 := by omega
    subst this
    exact ⟨by decide, C2 (by decide) (by decide) (by decide), by show ¬ gq ⟨#[102]⟩ ⟨#[]⟩; unfold gq; decide +kernel⟩
   exact absurd hj (Nat.not_lt_zero j)
  have e : (dz nk nk.length).map (fw nk) = [] := by decide
  rw [e]
  exact ⟨0, rfl⟩
theorem MJ {β : Bs} {B : Option Addr} {e : Nat} (hR : fF β B (cq ⟨fun _ => none, fun i => if i = 0 then some ⟨e, 0, none⟩ else none, fun _ => 0, fun i => if i = 0 then 1 else 0⟩ nk)) (h1 : dK β (some ⟨e, 0, none⟩) Fg.ah) : aD β B nk ⟨fun _ => none, fun i => if i = 0 then some ⟨e, 0, none⟩ else none, fun _ => 0, fun i => if i = 0 then 1 else 0⟩ := by
  have hn : ∀ {A : Option Addr}, fF β A [] := fun j v hj => by simp at hj
  refine ⟨hR, fun i hi => ?_, fun i hi => ?_⟩
  ·rcases sO hi with rfl | rfl <;> exact hn
  rcases sO hi with rfl | rfl
  ·exact h1
  exact hn
theorem KH {room : Int} (h : 0 ≤ room ∧ room ≤ 1099511627776) : oV (Jj room) := ⟨by show (0 : Int) ≤ 9 ∧ (9 : Int) ≤ 4096; decide, h, by show (0 : Int) ≤ 9 ∧ (9 : Int) ≤ 1024; decide, uI⟩
section ops
variable {S : aE} {c : aT} {t : Th} {d : Nat}
theorem C3 {O : bJ} {us : Used Th} {h : Int} {name : ByteArray} {need : Int} (h1 : TabM.get us h = some t) (h2 : t.kind = 2) (h3 : (obj O t.k).gone = false) (h4 : bB name) (h5 : bits BinOp.and .i64 (obj O t.k).mode need = need) : cK O us h name need = .ok t.k := by
  unfold cK
  rw [h1]
  simp only
  rw [if_pos h2, if_neg (by rw [h3]; decide), if_pos h4, if_pos h5]
theorem KI (hop : c.op = 1) (h1 : TabM.get S.idx c.other = some t) (h2 : t.kind = 2) (h3 : (S.us.length : Int) < S.X.cH) : doM S c = ({ S with O := av S.O t.k (fun o => { o with opens := o.opens + 1 }), us := ins (least S.us) t S.us, aq := max S.aq ((S.us.length : Int) + 1) }, { c with answer := least S.us, code := 0 }) := by
  unfold doM
  rw [xQ (by exact hop)]
  unfold iw
  simp only
  rw [h1]
  simp only
  rw [if_pos h2, iL h3]
theorem Fh (hop : c.op = 2) (ha : cK S.O S.us c.handle c.name 64 = .ok d) (hl : aR c.name (obj S.O d).ah = some t) (h2 : t.kind = 2) (h3 : (S.us.length : Int) < S.X.cH) : doM S c = ({ S with O := av S.O t.k (fun o => { o with opens := o.opens + 1 }), us := ins (least S.us) t S.us, aq := max S.aq ((S.us.length : Int) + 1) }, { c with answer := least S.us, code := 0 }) := by
  unfold doM
  rw [xR (by exact hop)]
  unfold dU eY
  simp only
  rw [ha]
  simp only
  rw [hl]
  simp only
  rw [if_neg (by omega), if_neg (by omega), iL h3]
theorem Jk (hop : c.op = 4) (ha : cK S.O S.us c.handle c.name 192 = .ok d) (hm : kR c.mode) (hl : aR c.name (obj S.O d).ah = none) (hr : Room S.X S.idx) : doM S c = (bC S d c.name (aA S.X 2 c.mode), { c with answer := 0, code := 0 }) := by
  unfold doM
  rw [xS (by exact hop)]
  unfold eP
  simp only
  rw [ha]
  simp only
  rw [if_pos hm]
  unfold mkdirM bN
  rw [if_pos hl, if_pos hr, if_pos rfl]
end ops
structure Fj (room : Int) (S : aE) : Prop where
  inv : Inv S
  idx : S.idx = [(1, ⟨1, 2⟩), (2, ⟨2, 1⟩)]
  us : S.us = []
  X : S.X = ⟨9, room, 9, 0, 0, 2, 1, 0⟩
  o1 : ∃ l u, obj S.O 1 = ⟨1, 493, 0, 0, 0, 0, l, 0, false, 2, [], ⟨#[]⟩, [(⟨#[102]⟩, ⟨2, 1⟩)], u⟩
  o2 : ∃ u, obj S.O 2 = ⟨2, 420, 0, 0, 0, 0, 1, 0, false, 1, [], ⟨#[]⟩, [], u⟩
theorem KJ {room : Int} {S : aE} (h : dY (Jj room) nk nk.length 0 S) : Fj room S := by
  have hi : S.idx = [(1, ⟨1, 2⟩), (2, ⟨2, 1⟩)] := h.idx
  have MK : Inv S := h.full
  obtain ⟨l1, u1, h1⟩ := h.ob 0 (by decide)
  obtain ⟨l2, u2, h2⟩ := h.ob 1 (by decide)
  have h1 : obj S.O 1 = ⟨1, 493, 0, 0, 0, 0, l1, 0, false, 2, [], ⟨#[]⟩, [(⟨#[102]⟩, ⟨2, 1⟩)], u1⟩ := h1
  have h2 : obj S.O 2 = ⟨2, 420, 0, 0, 0, 0, l2, 0, false, 1, [], ⟨#[]⟩, [], u2⟩ := h2
  have hl := MK.links ⟨2, 1⟩ (by rw [hi]; rfl)
  have hl2 : l2 = 1 := by
    rw [hi] at hl
    have e : fL [(1, ⟨1, 2⟩), (2, ⟨2, 1⟩)] S.O 2 = 1 := by
      show (obj S.O 1).ah.countP _ + ((obj S.O 2).ah.countP _ + 0) = 1
      rw [h1, h2]; rfl
    simp only at hl
    rw [e, h2] at hl
    exact hl
  subst hl2
  exact ⟨MK, hi, h.us, h.cap, ⟨l1, u1, h1⟩, ⟨u2, h2⟩⟩
theorem G5 : bB ⟨#[100]⟩ := C2 (by decide) (by decide) (by decide)
def sP : aT := ⟨1, 0, 1, ⟨#[]⟩, ⟨#[]⟩, none, 0, [], 0, 0, 0, 0, 0, 0, 0⟩
def rQ : aT := ⟨4, 1, 0, ⟨#[100]⟩, ⟨#[]⟩, none, 0, [], 448, 0, 0, 0, 0, 0, 0⟩
def yB : aT := ⟨2, 1, 0, ⟨#[100]⟩, ⟨#[]⟩, none, 0, [], 0, 0, 0, 0, 0, 0, 0⟩
theorem ML : bits BinOp.and .i64 493 192 = 192 := by kernel_rfl
theorem MN : bits BinOp.and .i64 493 64 = 64 := by kernel_rfl
section chain
variable {room : Int} {S : aE}
def S1 (S : aE) : aE := { S with O := av S.O 1 (fun o => { o with opens := o.opens + 1 }), us := [(1, ⟨1, 2⟩)], aq := max S.aq 1 }
theorem Pc : obj (S1 S).O 1 = { obj S.O 1 with opens := (obj S.O 1).opens + 1 } := rfl
theorem C4 (h : Fj room S) : doM S sP = (S1 S, { sP with answer := 1, code := 0 }) := by
  rw [KI (S := S) (c := sP) (t := ⟨1, 2⟩) rfl (by rw [h.idx]; rfl) rfl (by rw [h.us, h.X]; show (0 : Int) < 9; decide), h.us]
  rfl
theorem MO {X : FM} {O : bJ} {o : aO} : obj (bp X (av O 3 (fun _ => o)) 1 ⟨#[100]⟩ ⟨3, 2⟩) 1 = { obj O 1 with ah := eu ⟨#[100]⟩ ⟨3, 2⟩ (obj O 1).ah, sec := X.cS, nano := X.cZ } := rfl
theorem MP (h : Fj room S) : ∃ S2, doM (S1 S) rQ = (S2, { rQ with answer := 0, code := 0 }) ∧ S2.us = [(1, ⟨1, 2⟩)] ∧ S2.idx.length = 3 ∧ S2.X.cH = 9 ∧ cK S2.O S2.us 1 ⟨#[100]⟩ 64 = .ok 1 ∧ aR ⟨#[100]⟩ (obj S2.O 1).ah = some ⟨3, 2⟩ := by
  obtain ⟨l, u, h1⟩ := h.o1
  have e1 : obj (S1 S).O 1 = ⟨1, 493, 0, 0, 0, 0, l, 1, false, 2, [], ⟨#[]⟩, [(⟨#[102]⟩, ⟨2, 1⟩)], u⟩ := by
    rw [Pc, h1]; rfl
  have hX : (S1 S).X = ⟨9, room, 9, 0, 0, 2, 1, 0⟩ := h.X
  have hi : (S1 S).idx = [(1, ⟨1, 2⟩), (2, ⟨2, 1⟩)] := h.idx
  have ha : cK (S1 S).O (S1 S).us 1 ⟨#[100]⟩ 192 = .ok 1 := C3 (t := ⟨1, 2⟩) rfl rfl (by rw [e1]) G5 (by rw [e1]; exact ML)
  have hn : aC (S1 S).X = 3 := by rw [hX]; rfl
  have e2 : obj (bC (S1 S) 1 rQ.name (aA (S1 S).X 2 rQ.mode)).O 1 = ⟨1, 493, 0, 0, 0, 0, l, 1, false, 2, [], ⟨#[]⟩, [(⟨#[100]⟩, ⟨3, 2⟩), (⟨#[102]⟩, ⟨2, 1⟩)], u⟩ := by
    show obj (bp (S1 S).X (av (S1 S).O (aC (S1 S).X) (fun _ => _)) 1 ⟨#[100]⟩ ⟨aC (S1 S).X, 2⟩) 1 = _
    rw [hn, MO, e1, hX]
    simp only [eu]
    rw [if_pos (by unfold gq; decide +kernel)]
  refine ⟨_, Jk (c := rQ) rfl ha ⟨by decide, by decide⟩ (by rw [e1]; rfl) ⟨by rw [hX, hi]; show (2 : Int) < 9; decide, by rw [hX]; show (2 : Int) < 1099511627776; decide, by rw [hX]; show (1 : Int) < 8192; decide⟩, rfl, ?_, by show (S1 S).X.cH = 9; rw [hX], ?_, ?_⟩
  ·show (ins _ _ (S1 S).idx).length = 3
   rw [hX, hi]; rfl
  ·exact C3 (t := ⟨1, 2⟩) rfl rfl (by rw [e2]) G5 (by rw [e2]; exact MN)
  rw [e2]; rfl
theorem MQ {S2 : aE} (h1 : S2.us = [(1, ⟨1, 2⟩)]) (h2 : S2.X.cH = 9) (h3 : cK S2.O S2.us 1 ⟨#[100]⟩ 64 = .ok 1) (h4 : aR ⟨#[100]⟩ (obj S2.O 1).ah = some ⟨3, 2⟩) : ∃ S3, doM S2 yB = (S3, { yB with answer := 2, code := 0 }) ∧ S3.idx = S2.idx := by
  have h := Fh (S := S2) (c := yB) rfl h3 h4 rfl (by rw [h1, h2]; show (1 : Int) < 9; decide)
  have e : least S2.us = 2 := by rw [h1]; rfl
  rw [e] at h
  exact ⟨_, h, rfl⟩
structure Q7 (room : Int) (ds : List UInt8) (S : aE) : Prop where
  inv : Inv S
  idx : S.idx = [(1, ⟨1, 2⟩), (2, ⟨2, 1⟩)]
  us : S.us = [(1, ⟨1, 2⟩), (2, ⟨2, 1⟩)]
  X : S.X = ⟨9, room, 9, 0, 0, 2, 1, ds.length⟩
  o1 : ∃ l n u, obj S.O 1 = ⟨1, 493, 0, 0, 0, 0, l, n, false, 2, [], ⟨#[]⟩, [(⟨#[102]⟩, ⟨2, 1⟩)], u⟩
  o2 : ∃ u, obj S.O 2 = ⟨2, 420, 0, 0, 0, 0, 1, 1, false, 1, ds, ⟨#[]⟩, [], u⟩
structure Q8 (ds : List UInt8) (S : aE) : Prop where
  inv : Inv S
  idx : S.idx = [(1, ⟨1, 2⟩), (2, ⟨2, 1⟩)]
  us : S.us = [(1, ⟨1, 2⟩), (2, ⟨2, 1⟩)]
  used : S.X.used = ds.length
  o2 : ∃ s z u, obj S.O 2 = ⟨2, 420, 0, 0, s, z, 0, 1, true, 1, ds, ⟨#[]⟩, [], u⟩
end chain
end
section
open Go.RowKit Go.Maps HeapM TabM
attribute [local irreducible] aj aS af ai
theorem yC {β : Bs} (A : Option Addr) (c : Nat) (d : List UInt8) (hA : bW β A d) (hl : d.length ≤ 1048576) :
    Spec Tryz.prog β 39 #[.slice A d.length c] [] (fun v l => ∃ B cap, v = .slice B d.length cap ∧ l = [.abs (aG 5 1 B d.length cap (bI d))]) := by
 refine Spec.enter Tryz.func39 rfl Tryz.ntmps39 (Nat.le_of_ble_eq_true rfl) (fun R => ?_)
 refine SR ?_
 refine gK 1 [] [] ?_
 refine NS ?_
 refine gN 2 (fun b1 => [(3, .slice (some ⟨b1, 0, none⟩) (0) (0))]) (fun _ => []) (fun _ => []) (fun b1 => .blk b1 [] 5) (fun b1 => ?_)
 refine NS ?_
 refine aj.mem (fun w hS => hS.rU (i := 1) (b := b1) (cs := []) (e := 5) 1 0 (by kernel_rfl) rfl (by decide)) ?_
 refine gK 2 [(5, .slice (some ⟨b1, 0, none⟩) (0) (0)), (6, .slice A (d.length) (c))] [] ?_
 refine aj.append 1 (d := (some 7)) (t := 41) (e := 5) (z := .int .u8 0) (size := 1) (bytes := 1) (n := 0) (cap := 0) (A := some ⟨b1, 0, none⟩) (xs := []) (s := (.tmp 5)) (x := (.tmp 6)) (ats := #[41, 41]) (A' := A) (m := d.length) (c' := c) (news := (bI d)) (fun _ => by kernel_rfl) rfl (by kernel_rfl) (fun _ => by kernel_rfl) (fun _ => by kernel_rfl) Tryz.underlying41 (by kernel_rfl) rfl (by decide) (by rw [oC, Nat.mul_one]) (kZ d) (hA.src) (by unfold maxLen; omega) (by omega) (fun A2 c3 => ?_)
 refine aj.eH 1 (p := .abs (aG 5 1 A2 (0 + d.length) c3 ([] ++ (bI d)))) (p' := .abs (aG 5 1 A2 d.length c3 (bI d))) (by kernel_rfl) (by rw [Nat.zero_add, List.nil_append]) ?_
 refine aj.slot 7 (.slice A2 (0 + d.length) (c3)) (.slice A2 (d.length) (c3)) (fun _ => by kernel_rfl) (by rw [Nat.zero_add]) ?_
 refine gK 1 [(3, .slice A2 (d.length) (c3))] [] ?_
 refine NS ?_
 refine gK 2 [(2, .slice A2 (d.length) (c3))] [] ?_
 refine NN (af.ret ?_)
 exact RT (.slice A2 (d.length) (c3)) [1, 0] (⟨A2, c3, rfl, rfl⟩)
theorem Jl {β : Bs} (f m t : Nat) (X : FM) : Spec Tryz.prog β 28 #[vP f] [.blk f [vI (X.cN), vI (X.cB), vI (X.cH), vI (X.cS), vI (X.cZ), .map (some m), vP t, vI (X.last), vI (X.ah), vI (X.used)] 86] (fun v l => v = vI X.used ∧ l = [.blk f [vI (X.cN), vI (X.cB), vI (X.cH), vI (X.cS), vI (X.cZ), .map (some m), vP t, vI (X.last), vI (X.ah), vI (X.used)] 86]) := by
 refine Spec.enter Tryz.func28 rfl Tryz.ntmps28 (Nat.le_of_ble_eq_true rfl) (fun R => ?_)
 refine SR ?_
 refine gK 1 [] [] ?_
 refine NS ?_
 refine gK 5 [(2, vI (X.used))] [(3, a_ 0 f)] ?_
 refine NN (af.ret ?_)
 exact RT (vI (X.used)) [0, 1] (⟨rfl, rfl⟩)
theorem G6 {β : Bs} : dV Tryz.prog β 31 #[] [] (fun β' v l => ∃ B Y, v = .agg #[.slice B 2 2, vI 9, vI 99, vI 9, vI 0, vI 0] ∧ l = [] ∧ aD β' B nk Y) := by
 refine dV.enter Tryz.func31 rfl Tryz.ntmps31 (Nat.le_of_ble_eq_true rfl) (fun hle0 R => ?_)
 refine SR ?_
 refine gN 1 (fun b4 => [(0, vP b4)]) (fun _ => []) (fun _ => []) (fun b4 => .blk b4 [.slice none (0) (0), vI 0, vI 0, vI 0, vI 0, vI 0] 30) (fun b4 => ?_)
 refine NS ?_
 refine gN 4 (fun b5 => [(4, .agg #[vI 1, vI 2, vI 493, vI 0, vI 0, vI 0, vI 0, .slice none (0) (0), .string ⟨#[]⟩, .slice (some ⟨b5, 0, none⟩) (1) (1)]), (5, .agg #[vI 2, vI 1, vI 420, vI 0, vI 0, vI 0, vI 0, .slice none (0) (0), .string ⟨#[]⟩, .slice none (0) (0)])]) (fun _ => []) (fun _ => []) (fun b5 => .blk b5 [.string ⟨#[102]⟩, vI 2] 101) (fun b5 => ?_)
 refine gN 2 (fun b6 => [(7, .agg #[.slice (some ⟨b6, 0, none⟩) (2) (2)])]) (fun _ => []) (fun _ => []) (fun b6 => .blk b6 [vI 1, vI 2, vI 493, vI 0, vI 0, vI 0, vI 0, .slice none (0) (0), .string ⟨#[]⟩, .slice (some ⟨b5, 0, none⟩) (1) (1), vI 2, vI 1, vI 420, vI 0, vI 0, vI 0, vI 0, .slice none (0) (0), .string ⟨#[]⟩, .slice none (0) (0)] 70) (fun b6 => ?_)
 refine gN 2 (fun b7 => [(1, vP b7)]) (fun b7 => [(1, a_ 4 b7)]) (fun _ => []) (fun b7 => .blk b7 [.slice (some ⟨b6, 0, none⟩) (2) (2)] 24) (fun b7 => ?_)
 refine NS ?_
 refine aj.mem (fun w hS => hS.rU (i := 2) (b := b5) (cs := [.string ⟨#[102]⟩, vI 2]) (e := 101) 2 1 (by kernel_rfl) rfl (by decide)) ?_
 refine aj.pq (Φ := fun β' => dK β' (some ⟨b5, 0, none⟩) Fg.ah) 2 [0, 1, 3, 4] (aQ := [.abs R, .blk b4 [.slice none (0) (0), vI 0, vI 0, vI 0, vI 0, vI 0] 30, .blk b6 [vI 1, vI 2, vI 493, vI 0, vI 0, vI 0, vI 0, .slice none (0) (0), .string ⟨#[]⟩, .slice (some ⟨b5, 0, none⟩) (1) (1), vI 2, vI 1, vI 420, vI 0, vI 0, vI 0, vI 0, .slice none (0) (0), .string ⟨#[]⟩, .slice none (0) (0)] 70, .blk b7 [.slice (some ⟨b6, 0, none⟩) (2) (2)] 24]) rfl rfl (by kernel_rfl) (fun F w h β' h1 h2 => fF.kM h h1 h2) (fun Q9 KL hE => ?_)
 replace hle0 := hle0.trans KL
 refine aj.mem (fun w hS => hS.rU (i := 2) (b := b6) (cs := [vI 1, vI 2, vI 493, vI 0, vI 0, vI 0, vI 0, .slice none (0) (0), .string ⟨#[]⟩, .slice (some ⟨b5, 0, none⟩) (1) (1), vI 2, vI 1, vI 420, vI 0, vI 0, vI 0, vI 0, .slice none (0) (0), .string ⟨#[]⟩, .slice none (0) (0)]) (e := 70) 10 2 (by kernel_rfl) rfl (by decide)) ?_
 refine aj.pq (Φ := fun β' => fF β' (some ⟨b6, 0, none⟩) (cq ⟨fun _ => none, fun i => if i = 0 then some ⟨b5, 0, none⟩ else none, fun _ => 0, fun i => if i = 0 then 1 else 0⟩ nk)) 2 [0, 1, 3] (aQ := [.abs R, .blk b4 [.slice none (0) (0), vI 0, vI 0, vI 0, vI 0, vI 0] 30, .blk b7 [.slice (some ⟨b6, 0, none⟩) (2) (2)] 24]) rfl rfl (by kernel_rfl) (fun F w h β' h1 h2 => fF.kM h h1 h2) (fun P6 rR hR => ?_)
 replace hE := hE.le rR
 replace hle0 := hle0.trans rR
 refine gC 4 [] [(0, a_ 2 b7), (3, A_ 1 b4 6)] [(1, [(0, .slice (some ⟨b6, 0, none⟩) (2) (2)), (1, vI 9), (2, vI 99), (3, vI 9)])] ?_
 refine NN (af.ret ?_)
 exact ai.tG (v := .agg #[.slice (some ⟨b6, 0, none⟩) (2) (2), vI 9, vI 99, vI 9, vI 0, vI 0]) (l := []) (aV := [b4 = b4, b4 = b4, b4 = b4, b4 = b4, b4 = b4, b4 = b4]) [.at 1, .at 1, .at 1, .at 1, .at 1, .at 1] [0] hle0 (fun _ => by kernel_rfl) ⟨rfl, rfl, rfl, rfl, rfl, rfl, trivial⟩ rfl (by kernel_rfl) (⟨_, _, rfl, rfl, MJ hR hE⟩)
end
section
open Go.RowKit Go.WideShapes Go.ChangeShapes Go.ChangeAt Go.Deep
theorem laidOut : laidOutB Tryz.prog = true := by kernel_rfl
theorem own : ownKnob Tryz.prog.godebug = none := by kernel_rfl
section row
variable {H : Type} {enc : TypeId × Value → H} {P : Program}
theorem tC (hl : laidOutB P = true) {W W' : World} (hb : Below W.heap.size W W') {sp : Nat → Bool} : ∀ {ts : List TypeId} {vs : List Value} {ds : List (DataW H)} {ps : List MemPlace},
    (∀ t ∈ ts, P.readableRec t = true ∧ t < P.types.size) → DataW.TrodAll enc P W 0 (fun _ => true) true ts vs ds ps → (∀ x ∈ ps, x.block < W.heap.size) → (∀ x ∈ ps, sp x.block = true) → DataW.TrodAll enc P W' 0 sp true ts vs ds ps
  | [], vs, ds, ps, _, h, _, _ => by
    obtain ⟨rfl, rfl, rfl⟩ := trodAll_nil h
    exact trodAll_mk0
  | t :: ts, vs, ds, ps, hr, h, hlt, hsp => by
    obtain ⟨v, vs', d, ds', p, q, rfl, rfl, rfl, h1, h2⟩ := trodAll_cons h
    have h3 := hr t List.mem_cons_self
    exact trodAll_cons_mk (WideElems.Trod_stays hl h3.1 h3.2 h1 (fun x hx => hb.same (hlt x (List.mem_append.2 (.inl hx)))) (fun x hx => hsp x (List.mem_append.2 (.inl hx))))
      (tC hl hb (fun t ht => hr t (List.mem_cons_of_mem _ ht)) h2 (fun x hx => hlt x (List.mem_append.2 (.inr hx))) (fun x hx => hsp x (List.mem_append.2 (.inr hx))))
def Pf (P : Program) (f : Func) : Bool := f.params.toList.all fun t => P.readableRec t && decide (t < P.types.size)
theorem law_post (hl : laidOutB P = true) {f : Func} {s : ChangeSpec} {apart fresh handsOn again : Bool} {W W' : World} {args : Array Value} {ds gs : List (DataW H)} {before : List MemPlace} {tb : TypeId} {rb : Bool}
    (hW : DataW.Whole enc P f.params.toList s.vars apart W args.toList ds gs before) (hvars : s.vars = []) (hrow : Pf P f = true) (hres : f.resultTypes = #[tb]) (hb0 : P.underlying tb = some .bool)
    (hfn : (s.fn H (ds ++ gs)).results = [.lit (.bool rb)]) (hargs : (s.fn H (ds ++ gs)).args = ds) (hv : (s.fn H (ds ++ gs)).vars = []) (hb : Below W.heap.size W W') :
    s.post enc P f apart fresh handsOn again W args (.bool rb) W' := by
  have hW' := hW
  obtain ⟨p, q, hA, hV, rfl, _, _⟩ := hW
  rw [hvars] at hV
  obtain ⟨rfl, rfl⟩ := trodVars_none hV
  have hlt : ∀ x ∈ p, x.block < W.heap.size := fun x hx => hW'.lt x (List.mem_append.2 (.inl hx))
  have hr : ∀ t ∈ f.params.toList, P.readableRec t = true ∧ t < P.types.size := fun t ht => by
    have := List.all_eq_true.1 hrow t ht
    simpa using this
  refine AK (pa := p) (pv := []) hW' (fun b sp hd => ?_) (fun sp hsp => ?_) (fun sp _ => ?_) (by simp) hb ?_
  ·rw [hfn, hres]
   exact trodAll_cons_mk (shut_bool hb0 _) trodAll_mk0
  ·rw [hargs]
   exact tC hl hb hr hA hlt (fun x hx => hsp x (List.mem_append.2 (.inl hx)))
  ·rw [hvars, hv]
   exact rfl
  exact ok_one hres rfl (okWide_bool_mk hb0 _)
end row
end
section
open Go.RowKit Go.WideShapes Go.ChangeShapes Go.ChangeAt Go.Deep
abbrev B0 (W : World) : Bs := ⟨(· < W.heap.size), W⟩
theorem Ef {w : World} {a : Addr} {v : Value} (h : w.cell? a = some v) : a.block < w.heap.size := by
  unfold World.cell? at h
  split at h
  ·rename_i hb; exact lt_of_some hb
  cases h
theorem G7 {w : World} {a : Addr} {v : Value} (h : w.cell? a = some v) : a.spot = none := by
  unfold World.cell? at h
  split at h
  ·split at h
   ·cases h
   rename_i h0
   cases hs : a.spot with
   | none => rfl
   | some x => rw [hs] at h0; exact absurd rfl h0
  cases h
theorem add_plain {a : Addr} (k : Nat) (h : a.spot = none) : a.add k = ⟨a.block, a.off + k, none⟩ := by
  obtain ⟨b, o, s⟩ := a
  cases h
  unfold Addr.add
  split
  ·rename_i h0; subst h0; rfl
  rfl
theorem wP {H : Type} {D : Nat → DataW H} {n i : Nat} (hi : i < n) : Rows.uptoBulk (D i) ≤ Rows.uptoBulkAll ((List.range n).map D) := by
  have hm : D i ∈ (List.range n).map D := List.mem_map.2 ⟨i, List.mem_range.2 hi, rfl⟩
  generalize (List.range n).map D = l at hm
  induction l with
  | nil => cases hm
  | cons x r ih =>
    simp only [Rows.uptoBulkAll]
    rcases List.mem_cons.1 hm with e | hm
    ·subst e; omega
    have := ih hm; omega
theorem Jm {H : Type} (d : DataW H) : 1 ≤ Rows.uptoBulk d := by
  cases d with
  | lit l => cases l <;> simp [Rows.uptoBulk]
  | nil => simp [Rows.uptoBulk]
  | ptr d => simp [Rows.uptoBulk]
  | slice elems spare => simp [Rows.uptoBulk]
  | agg parts => simp [Rows.uptoBulk]
  | iface t d => simp [Rows.uptoBulk]
  | map entries => simp [Rows.uptoBulk]
  | held h => simp [Rows.uptoBulk]
theorem sQ {H : Type} (l : List (DataW H)) : l.length ≤ Rows.uptoBulkAll l := by
  induction l with
  | nil => simp [Rows.uptoBulkAll]
  | cons x r ih => have := Jm x; simp only [Rows.uptoBulkAll, List.length_cons]; omega
theorem bulk_mem {H : Type} {d : DataW H} {l : List (DataW H)} (h : d ∈ l) : Rows.uptoBulk d ≤ Rows.uptoBulkAll l := by
  induction l with
  | nil => cases h
  | cons x r ih =>
    simp only [Rows.uptoBulkAll]
    rcases List.mem_cons.1 h with e | h
    ·subst e; omega
    have := ih h; omega
section open_
variable {H : Type} {enc : TypeId × Value → H} {P : Program} {W : World} {sp : Nat → Bool}
theorem sR {α : Type} [Inhabited α] {t e : TypeId} {size : Nat} {f : α → List Value} {Q : α → DataW H → Prop} (ht : P.underlying t = some (.slice e)) (hC : P.cellsOf e = size) (h0 : 0 < size)
    (hel : ∀ n cs x, DataW.trod enc P W 0 sp true n e cs = some x → ∃ a, cs = f a ∧ Q a x.1) (hf : ∀ a, (f a).length = size)
    {fuel : Nat} {cs : List Value} {x : DataW H × List MemPlace} (h : DataW.trod enc P W 0 sp true fuel t cs = some x) :
    ∃ A c, ∃ xs : List α, ∃ D : Nat → DataW H, cs = [.slice A xs.length c] ∧ xs.length ≤ c ∧ c ≤ maxLen ∧ fF (B0 W) A (dD (fun _ a => f a) 0 xs) ∧ (∀ i, i < xs.length → Q (xs.getD i default) (D i)) ∧
      Rows.uptoBulkAll ((List.range xs.length).map D) + 1 ≤ Rows.uptoBulk x.1 := by
  rcases open_slice ht h with ⟨hv, hx⟩ | ⟨a, len, cap, m, n, D, Pl, hcs, hb, hl, hm, hmm, hx, hi⟩
  ·subst hv
   refine ⟨none, 0, [], fun _ => .nil, rfl, Nat.le_refl _, Nat.zero_le _, fun j v hj => by simp [dD] at hj, fun i hi => absurd hi (Nat.not_lt_zero i), ?_⟩
   rw [hx]
   simp [Rows.uptoBulk, Rows.uptoBulkAll]
  have Ra : len ≤ m := by rw [hmm]; split <;> omega
  have hch : ∀ i, ∃ b : α, i < len → (W.cells? 0 (a.add (i * P.cellsOf e)) (P.cellsOf e) = some (f b) ∧ Q b (D i)) := fun i => by
    by_cases hil : i < len
    ·obtain ⟨cs', h1, h2⟩ := hi i (by omega)
     obtain ⟨b, rfl, h3⟩ := hel _ _ _ h2
     exact ⟨b, fun _ => ⟨h1, h3⟩⟩
    exact ⟨default, fun h => absurd h hil⟩
  have hg := fun i => Classical.choose_spec (hch i)
  generalize hG : (fun i => Classical.choose (hch i)) = g at hg
  have hg : ∀ i, i < len → W.cells? 0 (a.add (i * P.cellsOf e)) (P.cellsOf e) = some (f (g i)) ∧ Q (g i) (D i) := fun i hi => by
    have h1 := hg i hi
    have h2 : Classical.choose (hch i) = g i := congrFun hG i
    rw [h2] at h1
    exact h1
  have hlen : ((List.range len).map g).length = len := by simp
  have hget : ∀ i, i < len → ((List.range len).map g)[i]? = some (g i) := fun i hi => by simp [hi]
  have NE : ∀ i, i < len → ((List.range len).map g).getD i default = g i := fun i hi => by rw [List.getD_eq_getElem?_getD, hget i hi]; rfl
  have hs1 : 0 < len → a.spot = none := fun hl0 => by
    obtain ⟨h2, -⟩ := hg 0 hl0
    rw [hC] at h2
    obtain ⟨_, hcl, hat⟩ := World.cells?_some h2
    have h3 := hat 0 h0
    rw [List.getElem?_eq_getElem (by rw [hcl]; exact h0)] at h3
    have e : (a.add (0 * size)).add 0 = a := by rw [Nat.zero_mul]; rfl
    rw [e] at h3
    exact G7 h3
  refine ⟨some a, cap, (List.range len).map g, D, by rw [hlen]; exact hcs, by rw [hlen]; exact hl, hm, fun j v hj => ?_, fun i hi' => ?_, ?_⟩
  ·have hfl := tH (f := fun _ a => f a) (s := size) (fun _ a => hf a) ((List.range len).map g) 0
   have hjl := br hj
   rw [hfl, hlen] at hjl
   have mI : j / size < len := (Nat.div_lt_iff_lt_mul h0).2 hjl
   have hj2 : j % size < size := Nat.mod_lt _ h0
   have e := Nat.div_add_mod j size
   rw [Nat.mul_comm] at e
   have h1 := nE (f := fun _ a => f a) (s := size) (fun _ a => hf a) _ 0 _ (j % size) _ (hget _ mI) hj2
   rw [e, hj] at h1
   obtain ⟨h2, -⟩ := hg _ mI
   rw [hC] at h2
   obtain ⟨_, _, hat⟩ := World.cells?_some h2
   have h3 := hat _ hj2
   rw [← h1] at h3
   have hs1 := hs1 (Nat.lt_of_le_of_lt (Nat.zero_le _) mI)
   rw [add_plain _ hs1] at h3
   rw [add_plain (a := ⟨a.block, a.off + j / size * size, none⟩) _ rfl] at h3
   have e2 : a.off + j / size * size + j % size = a.off + j := by omega
   have h4 : W.cell? ⟨a.block, a.off + j, none⟩ = some v := by rw [← e2]; exact h3
   have ea : (some a : Option Addr) = some ⟨aB (some a), ay (some a), none⟩ := by
     obtain ⟨b, o, s⟩ := a
     cases hs1
     rfl
   exact ⟨ea, Ef h4, h4⟩
  ·rw [hlen] at hi'
   rw [NE i hi']
   exact (hg i hi').2
  rw [hx, hlen]
  simp only [Rows.uptoBulk]
  omega
theorem KM {t : TypeId} {n : Nat} {cs : List Value} {x : DataW H × List MemPlace} (ht : P.underlying t = some (.int .u8)) (h : DataW.trod enc P W 0 sp true n t cs = some x) : ∃ b : UInt8, cs = [rV b] ∧ True := by
  obtain ⟨z, h1, _, h3⟩ := DataW.trod_int ht h
  have h4 : 0 ≤ z ∧ z ≤ 255 := by simpa [Lit.wf, IntKind.min, IntKind.max, IntKind.signed, IntKind.bits] using h3
  refine ⟨UInt8.ofNat z.toNat, ?_, trivial⟩
  have e : (((UInt8.ofNat z.toNat).toNat : Nat) : Int) = z := by
    rw [UInt8.toNat_ofNat']
    omega
  rw [rV, e]
  exact h1
def qg (z : Int) : Prop := -9223372036854775808 ≤ z ∧ z ≤ 9223372036854775807
theorem fY {t : TypeId} {n : Nat} {c : Value} {x : DataW H × List MemPlace} (ht : P.underlying t = some (.int .i64)) (h : DataW.trod enc P W 0 sp true n t [c] = some x) : ∃ z, c = .int .i64 z ∧ qg z := by
  obtain ⟨z, h1, _, h3⟩ := DataW.trod_int ht h
  cases h1
  exact ⟨z, rfl, by unfold qg; simpa [Lit.wf, IntKind.min, IntKind.max, IntKind.signed, IntKind.bits] using h3⟩
theorem lH {t : TypeId} {n : Nat} {c : Value} {x : DataW H × List MemPlace} (ht : P.underlying t = some .string) (h : DataW.trod enc P W 0 sp true n t [c] = some x) : ∃ s : ByteArray, c = .string s ∧ s.size + 1 ≤ Rows.uptoBulk x.1 := by
  obtain ⟨s, h1, h2, _⟩ := DataW.trod_string ht h
  cases h1
  refine ⟨s, rfl, ?_⟩
  rw [h2]
  simp only [Rows.uptoBulk, Array.length_toList]
  exact Nat.le_refl _
end open_
section graph
variable {H : Type} {enc : TypeId × Value → H} {W : World} {sp : Nat → Bool}
theorem yD : ∀ (d : List UInt8) (k : Nat), dD (fun _ b => [rV b]) k d = bI d
  | [], _ => rfl
  | b :: r, k => by rw [dD, yD r (k + 1)]; rfl
theorem yE {n : Nat} {c : Value} {x : DataW H × List MemPlace} (h : DataW.trod enc Tryz.prog W 0 sp true n 41 [c] = some x) :
    ∃ A cp, ∃ d : List UInt8, c = .slice A d.length cp ∧ bW (B0 W) A d ∧ d.length + 1 ≤ Rows.uptoBulk x.1 := by
  obtain ⟨A, cp, xs, D, h1, _, _, h2, _, h3⟩ := sR (α := UInt8) (f := fun b => [rV b]) (Q := fun _ _ => True) Tryz.underlying41 (size := 1) (by kernel_rfl) (by decide) (fun n cs x h => KM Tryz.underlying5 h) (fun _ => rfl) h
  cases h1
  have := sQ ((List.range xs.length).map D)
  refine ⟨A, cp, xs, rfl, ?_, by simp at this; omega⟩
  rw [yD] at h2
  exact h2
structure Fk (e : gX) (b : Nat) : Prop where
  id : qg e.id
  name : e.name.size + 1 ≤ b
theorem aW {n : Nat} {cs : List Value} {xs : List (DataW H × List MemPlace)} {i : Nat} {t : TypeId} (h : DataW.trod enc Tryz.prog W 0 sp true n t cs = xs[i]?) (hi : i < xs.length) : DataW.trod enc Tryz.prog W 0 sp true n t cs = some xs[i] ∧ Rows.uptoBulk (xs[i]).1 ≤ Rows.uptoBulk (.agg (xs.map (·.1))) := by
  refine ⟨h.trans (List.getElem?_eq_getElem hi), ?_⟩
  have hm : (xs[i]).1 ∈ xs.map (·.1) := List.mem_map.2 ⟨xs[i], List.getElem_mem hi, rfl⟩
  have := bulk_mem hm
  simp only [Rows.uptoBulk]
  omega
theorem Jo {n : Nat} {cs : List Value} {x : DataW H × List MemPlace} (h : DataW.trod enc Tryz.prog W 0 sp true n 101 cs = some x) : ∃ e : gX, cs = vX e ∧ Fk e (Rows.uptoBulk x.1) := by
  obtain ⟨ys, m, _, hx, hl, kX, hf⟩ := DataW.trod_struct Tryz.underlying101 h
  have hC : Tryz.prog.cellsOf 101 = 2 := by kernel_rfl
  rw [hC] at hl
  match cs, hl with
  | [c0, c1], _ =>
    obtain ⟨h0, b0⟩ := aW (hf 0 _ rfl) (by rw [kX]; decide)
    obtain ⟨h1, _⟩ := aW (hf 1 _ rfl) (by rw [kX]; decide)
    obtain ⟨s, rfl, hs⟩ := lH Tryz.underlying9 h0
    obtain ⟨z, rfl, hz⟩ := fY Tryz.underlying3 h1
    exact ⟨⟨s, z⟩, rfl, ⟨hz, by rw [hx]; exact Nat.le_trans hs b0⟩⟩
theorem G8 {n : Nat} {c : Value} {x : DataW H × List MemPlace} (h : DataW.trod enc Tryz.prog W 0 sp true n 68 [c] = some x) :
    ∃ A cp, ∃ es : List gX, c = .slice A es.length cp ∧ dK (B0 W) A es ∧ es.length + 1 ≤ Rows.uptoBulk x.1 ∧ ∀ i, i < es.length → Fk (en es i) (Rows.uptoBulk x.1) := by
  obtain ⟨A, cp, xs, D, h1, _, _, h2, h4, h3⟩ := sR (α := gX) (f := vX) (Q := fun e d => Fk e (Rows.uptoBulk d)) Tryz.underlying68 (size := 2) (by kernel_rfl) (by decide) (fun n cs x h => Jo h) (fun _ => rfl) h
  cases h1
  have h5 := sQ ((List.range xs.length).map D)
  refine ⟨A, cp, xs, rfl, h2, by simp at h5; omega, fun i hi => ⟨(h4 i hi).id, ?_⟩⟩
  have h6 := (h4 i hi).name
  have h7 := wP (D := D) hi
  unfold en
  omega
structure J9 (nd : aK) (b : Nat) : Prop where
  ids : qg nd.id ∧ qg nd.kind ∧ qg nd.mode ∧ qg nd.uid ∧ qg nd.gid ∧ qg nd.sec ∧ qg nd.nano
  data : nd.data.length + 1 ≤ b
  target : nd.target.size + 1 ≤ b
  ah : nd.ah.length + 1 ≤ b
  ent : ∀ i, i < nd.ah.length → Fk (en nd.ah i) b
structure yG where
  n : aK
  dA : Option Addr
  dC : Nat
  eA : Option Addr
  eC : Nat
deriving Inhabited
def MR (a : yG) : List Value := [.int .i64 a.n.id, .int .i64 a.n.kind, .int .i64 a.n.mode, .int .i64 a.n.uid, .int .i64 a.n.gid, .int .i64 a.n.sec, .int .i64 a.n.nano, .slice a.dA a.n.data.length a.dC, .string a.n.target, .slice a.eA a.n.ah.length a.eC]
structure Ka (W : World) (a : yG) (b : Nat) : Prop where
  nb : J9 a.n b
  data : bW (B0 W) a.dA a.n.data
  ah : dK (B0 W) a.eA a.n.ah
theorem G9 {n : Nat} {cs : List Value} {x : DataW H × List MemPlace} (h : DataW.trod enc Tryz.prog W 0 sp true n 70 cs = some x) : ∃ a : yG, cs = MR a ∧ Ka W a (Rows.uptoBulk x.1) := by
  obtain ⟨ys, m, _, hx, hl, kX, hf⟩ := DataW.trod_struct Tryz.underlying70 h
  have hC : Tryz.prog.cellsOf 70 = 10 := by kernel_rfl
  rw [hC] at hl
  match cs, hl with
  | [c0, c1, c2, c3, c4, c5, c6, c7, c8, c9], _ =>
    obtain ⟨h0, _⟩ := aW (hf 0 _ rfl) (by rw [kX]; decide)
    obtain ⟨h1, _⟩ := aW (hf 1 _ rfl) (by rw [kX]; decide)
    obtain ⟨h2, _⟩ := aW (hf 2 _ rfl) (by rw [kX]; decide)
    obtain ⟨h3, _⟩ := aW (hf 3 _ rfl) (by rw [kX]; decide)
    obtain ⟨h4, _⟩ := aW (hf 4 _ rfl) (by rw [kX]; decide)
    obtain ⟨h5, _⟩ := aW (hf 5 _ rfl) (by rw [kX]; decide)
    obtain ⟨h6, b6⟩ := aW (hf 6 _ rfl) (by rw [kX]; decide)
    obtain ⟨h7, b7⟩ := aW (hf 7 _ rfl) (by rw [kX]; decide)
    obtain ⟨h8, b8⟩ := aW (hf 8 _ rfl) (by rw [kX]; decide)
    obtain ⟨z0, rfl, w0⟩ := fY Tryz.underlying3 h0
    obtain ⟨z1, rfl, w1⟩ := fY Tryz.underlying3 h1
    obtain ⟨z2, rfl, w2⟩ := fY Tryz.underlying3 h2
    obtain ⟨z3, rfl, w3⟩ := fY Tryz.underlying3 h3
    obtain ⟨z4, rfl, w4⟩ := fY Tryz.underlying3 h4
    obtain ⟨us, _, _, _, _, nU, hu⟩ := DataW.trod_struct Tryz.underlying26 h5
    obtain ⟨g0, _⟩ := aW (hu 0 _ rfl) (by rw [nU]; decide)
    obtain ⟨g1, _⟩ := aW (hu 1 _ rfl) (by rw [nU]; decide)
    obtain ⟨z5, rfl, w5⟩ := fY (c := c5) Tryz.underlying3 g0
    obtain ⟨z6, rfl, w6⟩ := fY (c := c6) Tryz.underlying3 g1
    obtain ⟨A7, p7, d7, rfl, q7, l7⟩ := yE (c := c7) h6
    obtain ⟨s8, rfl, l8⟩ := lH (c := c8) Tryz.underlying9 h7
    obtain ⟨A9, p9, e9, rfl, q9, l9, k9⟩ := G8 (c := c9) h8
    rw [hx]
    exact ⟨⟨⟨z0, z1, z2, z3, z4, z5, z6, d7, s8, e9⟩, A7, p7, A9, p9⟩, rfl, ⟨⟨w0, w1, w2, w3, w4, w5, w6⟩, Nat.le_trans l7 b6, Nat.le_trans l8 b7, Nat.le_trans l9 b8, fun i hi => ⟨(k9 i hi).id, Nat.le_trans (k9 i hi).name b8⟩⟩, q7, q9⟩
structure nV (ns : List aK) (b : Nat) : Prop where
  len : ns.length + 1 ≤ b
  node : ∀ i, i < ns.length → J9 (nd ns i) b
theorem yH (L : Lay) : ∀ (xs : List yG) (k : Nat), (∀ i, i < xs.length → L.dA (k + i) = (xs.getD i default).dA ∧ L.dC (k + i) = (xs.getD i default).dC ∧ L.eA (k + i) = (xs.getD i default).eA ∧ L.eC (k + i) = (xs.getD i default).eC) → dD (fun _ a => MR a) k xs = dD (ny L) k (xs.map (·.n))
  | [], _, _ => rfl
  | a :: r, k, h => by
    obtain ⟨h1, h2, h3, h4⟩ := h 0 (by simp)
    simp only [Nat.add_zero, List.getD_cons_zero] at h1 h2 h3 h4
    rw [dD, List.map_cons, dD, yH L r (k + 1) (fun i hi => by
      have := h (i + 1) (by simp; omega)
      rw [List.getD_cons_succ] at this
      have e : k + (i + 1) = k + 1 + i := by omega
      rw [e] at this
      exact this)]
    rw [ny, h1, h2, h3, h4]
    rfl
theorem Fl {n : Nat} {c : Value} {x : DataW H × List MemPlace} (h : DataW.trod enc Tryz.prog W 0 sp true n 22 [c] = some x) :
    ∃ A cp, ∃ ns : List aK, ∃ L : Lay, c = .slice A ns.length cp ∧ aD (B0 W) A ns L ∧ nV ns (Rows.uptoBulk x.1) := by
  obtain ⟨A, cp, xs, D, h1, _, _, h2, h4, h3⟩ := sR (α := yG) (f := MR) (Q := fun a d => Ka W a (Rows.uptoBulk d)) Tryz.underlying22 (size := 10) (by kernel_rfl) (by decide) (fun n cs x h => G9 h) (fun _ => rfl) h
  cases h1
  have h5 := sQ ((List.range xs.length).map D)
  have e : (xs.map (·.n)).length = xs.length := by simp
  have hnd : ∀ i, i < xs.length → nd (xs.map (·.n)) i = (xs.getD i default).n := fun i hi => by
    simp [nd, List.getD_eq_getElem?_getD, hi]
  refine ⟨A, cp, xs.map (·.n), ⟨fun i => (xs.getD i default).dA, fun i => (xs.getD i default).eA, fun i => (xs.getD i default).dC, fun i => (xs.getD i default).eC⟩, by rw [e], ⟨?_, fun i hi => ?_, fun i hi => ?_⟩, by simp at h5; rw [e]; omega, fun i hi => ?_⟩
  ·rw [yH ⟨fun i => (xs.getD i default).dA, fun i => (xs.getD i default).eA, fun i => (xs.getD i default).dC, fun i => (xs.getD i default).eC⟩ xs 0 (fun i _ => by rw [Nat.zero_add]; exact ⟨rfl, rfl, rfl, rfl⟩)] at h2
   exact h2
  ·rw [e] at hi
   rw [hnd i hi]
   exact (h4 i hi).data
  ·rw [e] at hi
   rw [hnd i hi]
   exact (h4 i hi).ah
  rw [e] at hi
  rw [hnd i hi]
  have h7 := wP (D := D) hi
  have h8 := (h4 i hi).nb
  exact ⟨h8.ids, by have := h8.data; omega, by have := h8.target; omega, by have := h8.ah; omega, fun j hj => ⟨(h8.ent j hj).id, by have := (h8.ent j hj).name; omega⟩⟩
end graph
end
section
open Go.RowKit
theorem B0.refl (W : World) : (B0 W).le (B0 W) := ⟨fun _ h => h, rfl, rfl, rfl, Nat.le_refl _, fun _ hk => ⟨hk, rfl⟩⟩
theorem Spec.val {P : Program} {β : Bs} {f : FuncId} {args : Array Value} {pre : List HP} {x y : Value} {l0 : List HP} (h : Spec P β f args pre (fun v l => v = x ∧ l = l0)) (e : x = y) : Spec P β f args pre (fun v l => v = y ∧ l = l0) := h.mono fun _ _ h => ⟨h.1.trans e, h.2⟩
section gb
variable {ns : List aK} {b : Nat}
variable (h : nV ns 1048576)
include h
end gb
def L0 : Lay := ⟨fun _ => none, fun _ => none, fun _ => 0, fun _ => 0⟩
end
section
open Go.RowKit Go.Maps HeapM TabM
theorem Spec.Fm {P : Program} {β : Bs} {f : FuncId} {args : Array Value} {pre : List HP} {post : Value → List HP → Prop} {Ψ : Bs → Value → List HP → Prop} (h : Spec P β f args pre post) (Bq : ∀ v l, post v l → ∃ l1 l2, l = l1 ++ l2 ∧ ∀ β', pJ β l2 β' → Ψ β' v l1) : dV P β f args pre Ψ := by
  intro A w hS
  refine (h A w hS).mono ?_
  rintro e w' ⟨v, l, h1, h2, h3⟩
  obtain ⟨l1, l2, rfl, hl⟩ := Bq v l h2
  have h4 : Sat β (([.abs A] ++ l1) ++ l2) w' := by rw [List.append_assoc]; exact Sat.turn h3
  obtain ⟨β', g1, _, g3⟩ := h4.BQ
  exact ⟨β', v, l1, g1.le, h1, hl β' g1, Sat.turn g3⟩
section c
variable {β : Bs} {S S2 : aE} {L : HL} {f m t : Nat} {c c2 : aT}
theorem wQ (hI : Inv S) (hC : fD β c) (h : doM S c = (S2, c2)) : Spec Tryz.prog β 16 #[vP f, .agg ⟨fV c⟩] (pA f m t L S) (fun v l => ∃ L2, v = .agg ⟨fV c2⟩ ∧ l = pA f m t L2 S2) := by
  have h1 := GI (β := β) S L f m t hI c hC
  rw [h] at h1
  exact h1
theorem yI (hI : Inv S) : dV Tryz.prog β 15 #[vP f] [pF f m t S.X, pI m L S.idx, pO S.O L, pD S.O L, pE S.O L] (fun β' v l => ∃ A cp K, v = .agg #[.slice A (ax S).length cp] ∧ l = [pF f m t S.X, pI m L S.idx, pO S.O L, pD S.O L, pE S.O L] ∧ aD β' A (ax S) K) :=
  (GU S L f m t hI).Fm (by
    rintro v l ⟨A, cp, K, rfl, rfl⟩
    exact ⟨_, _, rfl, fun β' h => ⟨A, cp, K, rfl, rfl, h.graph⟩⟩)
theorem zQ (h1 : (Lit.int .i64 c.handle).wf = true) (h2 : (Lit.int .i64 c.other).wf = true) (h3 : c.name.size ≤ 1048576) (h4 : c.text.size ≤ 1048576) (h5 : c.data = []) : fD β c :=
  ⟨h1, h2, h3, h4, by rw [h5]; exact fun j v hj => by simp [bI] at hj, by rw [h5]; decide, by rw [h5]; exact Nat.zero_le _⟩
theorem AR (A : Option Addr) (cp : Nat) (d : List UInt8) (hA : bW β A d) (hl : d.length ≤ 1048576) : dV Tryz.prog β 39 #[.slice A d.length cp] [] (fun β' v l => ∃ B cap, v = .slice B d.length cap ∧ l = [] ∧ bW β' B d ∧ d.length ≤ cap) :=
  (yC A cp d hA hl).Fm (by
    rintro v l ⟨B, cap, rfl, rfl⟩
    refine ⟨[], _, rfl, fun β' h => ⟨B, cap, rfl, rfl, h.bytes, ?_⟩⟩
    obtain ⟨F, h1, _⟩ := h.get 0 rfl
    exact (aG.len h1).2)
theorem Fo {room : Int} (hr : 0 ≤ room ∧ room ≤ 1099511627776) {B : Option Addr} {cp : Nat} {Y : Lay} (hG : aD β B nk Y) : Spec Tryz.prog β 9 #[.agg #[.slice B 2 cp], .agg #[.int .i64 9, .int .i64 room, .int .i64 9, .int .i64 0, .int .i64 0]] [] (fun v l => ∃ S f m t L, Fj room S ∧ v = .tuple #[.pointer (some ⟨f, 0, none⟩), .int .i64 0] ∧ l = pA f m t L S) := by
  refine (zP B cp nk Y hG (by decide) (fun i hi => ?_) (fun i hi j hj => ?_) (fun i hi j hj => ?_) (Jj room)).mono ?_
  ·rcases sO hi with rfl | rfl <;> exact ⟨by decide, by decide⟩
  ·rcases sO hi with rfl | rfl
   ·have : j = 0 := by have hj : j < 1 := hj; omega
    subst this; exact ⟨by decide, by decide⟩
   exact absurd hj (Nat.not_lt_zero j)
  ·rcases sO hi with rfl | rfl
   ·have : j = 0 := by have hj : j < 1 := hj; omega
    subst this; decide
   exact absurd hj (Nat.not_lt_zero j)
  rintro v l (⟨h, _⟩ | ⟨_, h, _⟩ | ⟨_, _, S, f, m, t, L, h1, h2, h3⟩)
  ·exact absurd (KH hr) h
  ·exact absurd MI h
  exact ⟨S, f, m, t, L, KJ h1, h2, h3⟩
end c
end
section
open Go.RowKit Go.Maps HeapM TabM
theorem KN {α : Type} {l : List α} {p : α → Bool} {i j : Nat} {a b : α} (hij : i < j) (ha : l[i]? = some a) (hb : l[j]? = some b) (pa : p a = true) (pb : p b = true) : 2 ≤ l.countP p := by
  have e := List.take_append_drop j l
  rw [← e, List.countP_append]
  have h1 : 0 < (l.take j).countP p := List.countP_pos_iff.2 ⟨a, List.mem_of_getElem? (by rw [List.getElem?_take, if_pos hij]; exact ha), pa⟩
  have h2 : 0 < (l.drop j).countP p := List.countP_pos_iff.2 ⟨b, List.mem_of_getElem? (i := 0) (by rw [List.getElem?_drop, Nat.add_zero]; exact hb), pb⟩
  omega
theorem C5 {V : Type} {g : Int × V → Nat} : ∀ {a b : Used V}, ct g (a ++ b) = ct g a + ct g b
  | [], b => (Nat.zero_add _).symm
  | p :: r, b => by
    show g p + ct g (r ++ b) = g p + ct g r + ct g b
    rw [C5]; omega
theorem DE {ns : List aK} {i j : Nat} (h : i ≤ j) : bP ns i ≤ bP ns j := by
  induction j with
  | zero => rw [Nat.le_zero.1 h]; exact Nat.le_refl _
  | succ j ih =>
    rcases Nat.lt_or_ge j i with e | e
    ·rw [show i = j + 1 by omega]; exact Nat.le_refl _
    exact Nat.le_trans (ih e) (Nat.le_add_right ..)
theorem Fq {ns : List aK} {i : Nat} (h : i ≤ ns.length) : bP ns i ≤ bP ns ns.length := DE h
section at_
variable {S : aE} {i j : Nat}
theorem ij (hi : i < S.idx.length) : nd (ax S) i = vm S.O (bK S i) (ck S i) := by
  unfold nd ax
  rw [List.getD_eq_getElem?_getD, List.getElem?_map, rM hi]; rfl
theorem zR (h : Inv0 S) (hij : i < j) (hj : j < S.idx.length) : bK S i < bK S j := by
  have h1 := CJ (S := S) (show i < S.idx.length by omega)
  have h2 := CJ hj
  obtain ⟨g1, e1⟩ := List.getElem?_eq_some_iff.1 h1
  obtain ⟨g2, e2⟩ := List.getElem?_eq_some_iff.1 h2
  have := List.pairwise_iff_getElem.1 h.rise i j g1 g2 hij
  rw [e1, e2] at this
  exact this
theorem yJ (h : Inv0 S) : bV (ax S) := fun i j hij hj => by
  rw [dr] at hj
  rw [ij (by omega), ij hj]
  exact zR h hij hj
theorem MS {t : Th} (hl : Live S.idx t) : ∃ i, i < S.idx.length ∧ ck S i = t ∧ bK S i = (t.k : Int) := by
  obtain ⟨i, hi, e⟩ := List.getElem_of_mem (get_mem hl)
  have h1 := rM hi
  rw [List.getElem?_eq_getElem hi, e] at h1
  injection h1 with h1
  injection h1 with h1 h2
  exact ⟨i, hi, h2.symm, h1.symm⟩
theorem MT (h : Inv0 S) (hi : i < S.idx.length) (hj : j < S.idx.length) (e : bK S i = bK S j) : i = j := by
  rcases Nat.lt_trichotomy i j with h1 | h1 | h1
  ·have := zR h h1 hj; omega
  ·exact h1
  have := zR h h1 hi; omega
theorem nW (hi : i < S.idx.length) (hj : j < (nd (ax S) i).ah.length) : j < (obj S.O (ck S i).k).ah.length ∧ ent (ax S) i j = ⟨dG (obj S.O (ck S i).k).ah j, (obj S.O (kK (obj S.O (ck S i).k).ah j).k).id⟩ := by
  rw [ij hi] at hj
  have hj : j < ((obj S.O (ck S i).k).ah.map (ji S.O)).length := hj
  rw [List.length_map] at hj
  refine ⟨hj, ?_⟩
  unfold ent en
  rw [ij hi]
  show ((obj S.O (ck S i).k).ah.map (ji S.O)).getD j default = _
  rw [List.getD_eq_getElem?_getD, List.getElem?_map, oR hj]; rfl
theorem qh (h : Inv0 S) (hi : i < S.idx.length) (hj : j < (obj S.O (ck S i).k).ah.length) : Live S.idx (kK (obj S.O (ck S i).k).ah j) ∧ bB (dG (obj S.O (ck S i).k).ah j) ∧ aR (dG (obj S.O (ck S i).k).ah j) (obj S.O (ck S i).k).ah = some (kK (obj S.O (ck S i).k).ah j) ∧ (ck S i).kind = 2 := by
  have hl := (kH h hi).1
  have hm := List.mem_of_getElem? (oR hj)
  have h1 := h.ah _ hl _ hm
  refine ⟨h1.2, h1.1, pQ (h.twice hl) hm, Classical.byContradiction fun hk => ?_⟩
  rw [(h.mt _ hl).ah (by rw [h.kind hl]; exact hk)] at hj
  exact absurd hj (Nat.not_lt_zero j)
theorem qL (h : Inv0 S) (hi : i < S.idx.length) (hj : j < (nd (ax S) i).ah.length) : ∃ a, a < S.idx.length ∧ ck S a = kK (obj S.O (ck S i).k).ah j ∧ tgt (ax S) (ent (ax S) i j).id = a ∧ jZ (ax S) (ent (ax S) i j).id = (a : Int) := by
  obtain ⟨hj2, e⟩ := nW hi hj
  have hl := (qh h hi hj2).1
  obtain ⟨a, ha, h1, h2⟩ := MS hl
  have h3 : jZ (ax S) (ent (ax S) i j).id = (a : Int) := Hz (yJ h) (by rw [dr]; exact ha) (by
    rw [ij ha, e]
    show bK S a = (obj S.O _).id
    rw [h2, (h.ob _ hl).1])
  exact ⟨a, ha, h1, by unfold tgt; rw [h3]; rfl, h3⟩
theorem yK (hi : i < S.idx.length) : (nd (ax S) i).kind = (ck S i).kind := by rw [ij hi]; rfl
theorem KO (h : Inv0 S) (hi : i < S.idx.length) : kN (nd (ax S) i) := by
  have hl := (kH h hi).1
  have hk := h.kind hl
  have h3 := (h.ob _ hl).2.2
  have hm := h.mt _ hl
  rw [ij hi]
  refine ⟨?_, hm.mode, hm.uid, hm.gid, hm.time, fun hn => ?_, fun hn => ?_, ?_⟩
  ·show 1 ≤ (ck S i).kind ∧ (ck S i).kind ≤ 3
   omega
  ·show (obj S.O (ck S i).k).data.length = 0
   rw [hm.data (by rw [hk]; exact hn)]; rfl
  ·show ((obj S.O (ck S i).k).ah.map _).length = 0
   rw [hm.ah (by rw [hk]; exact hn)]; rfl
  show dx (ck S i).kind (obj S.O (ck S i).k).target
  rw [← hk]; exact hm.target
theorem uJ (f : aO → Nat) (s : List aK → Nat → Nat) (h0 : ∀ ns, s ns 0 = 0) (hs : ∀ k, k < S.idx.length → s (ax S) (k + 1) = s (ax S) k + f (obj S.O (ck S k).k)) : ∀ k, k ≤ S.idx.length → s (ax S) k = ct (fun p => f (obj S.O p.2.k)) (S.idx.take k)
  | 0, _ => by rw [h0]; rfl
  | k + 1, hk => by
    rw [hs k hk, uJ f s h0 hs k (by omega), List.take_add_one, rM hk, C5]
    rfl
theorem C6 : bP (ax S) S.idx.length = bytes S.idx S.O := by
  have h := uJ (S := S) (fun o => o.data.length) bP (fun _ => rfl) (fun k hk => by show bP (ax S) k + _ = _; rw [ij hk]; rfl) S.idx.length (Nat.le_refl _)
  rw [List.take_length] at h
  exact h
theorem C8 : cX (ax S) S.idx.length = tot S.idx S.O := by
  have h := uJ (S := S) (fun o => o.ah.length) cX (fun _ => rfl) (fun k hk => by
    show cX (ax S) k + _ = _
    rw [ij hk]
    show _ + ((obj S.O (ck S k).k).ah.map _).length = _
    rw [List.length_map]) S.idx.length (Nat.le_refl _)
  rw [List.take_length] at h
  exact h
theorem KP (h : Inv0 S) {t : Th} (hl : Live S.idx t) (hk : t.kind = 2) (hi : i < S.idx.length) {a b : Nat} (ha : a < (obj S.O (ck S i).k).ah.length) (hb : b < (obj S.O (ck S i).k).ah.length) (ea : kK (obj S.O (ck S i).k).ah a = t) (eb : kK (obj S.O (ck S i).k).ah b = t) : a = b := by
  have h1 := h.once t hl hk
  rw [h.links t hl] at h1
  have h2 : (fun p : Int × Th => (obj S.O p.2.k).ah.countP (fun e => decide (e.2.k = t.k))) (bK S i, ck S i) ≤ fL S.idx S.O t.k := jc (g := fun p : Int × Th => (obj S.O p.2.k).ah.countP (fun e => decide (e.2.k = t.k))) (get_at h hi)
  have h2 : (obj S.O (ck S i).k).ah.countP (fun e => decide (e.2.k = t.k)) ≤ fL S.idx S.O t.k := h2
  have key : ∀ a b, a < b → b < (obj S.O (ck S i).k).ah.length → kK (obj S.O (ck S i).k).ah a = t → kK (obj S.O (ck S i).k).ah b = t → False := fun a b hab hb ea eb => by
    have := KN (p := fun e : ByteArray × Th => decide (e.2.k = t.k)) hab (oR (by omega)) (oR hb) (by simp [ea]) (by simp [eb])
    omega
  rcases Nat.lt_trichotomy a b with e | e | e
  ·exact (key a b e hb ea eb).elim
  ·exact e
  exact (key b a e ha eb ea).elim
theorem Inv0.KQ (h : Inv0 S) : bL (ax S) := by
  obtain ⟨dp, hdp⟩ := h.deep
  have hup : ∀ {i j a : Nat}, i < S.idx.length → j < (nd (ax S) i).ah.length → ck S a = kK (obj S.O (ck S i).k).ah j → (ck S a).kind = 2 → (obj S.O (ck S a).k).up = some (ck S i).k   := fun {i j a} hi hj e hk => by
    have hj2 := (nW hi hj).1
    obtain ⟨h1, _, h3, h4⟩ := qh h hi hj2
    rw [← e] at h1 h3
    have hl := (kH h hi).1
    have e2 : ck S i = ⟨(ck S i).k, 2⟩ := by rw [← h4]
    rw [e2] at hl
    exact (h.up _ h1 _).2 ⟨hk, hl, _, h3⟩
  refine bL.KE (by rw [dr]; exact h.len) (fun i hi => KO h (by rw [dr] at hi; exact hi)) (fun i hi => ?_) (yJ h) ?_ (fun i hi j hj => ?_) (fun i j i' j' g g' hi hi' e => ?_) (d := fun i => dp (ck S i).k) (fun i j g => ?_)
  ·rw [dr] at hi
   rw [ij hi]
   have h1 := h.idx _ _ (get_at h hi)
   have h2 := h.last
   show 1 ≤ bK S i ∧ bK S i ≤ _
   omega
  ·rw [dr, C8]
   have := h.total
   omega
  ·rw [dr] at hi
   obtain ⟨hj2, e⟩ := nW hi hj
   obtain ⟨a, ha, h1, h2, h3⟩ := qL h hi hj
   obtain ⟨g1, g2, _⟩ := qh h hi hj2
   refine Je (by omega) (by rw [e]; exact g2) (fun h0 => ?_)
   have e2 := (nW hi (show j - 1 < _ by omega)).2
   rw [e, e2]
   obtain ⟨x1, y1⟩ := List.getElem?_eq_some_iff.1 (oR (show j - 1 < (obj S.O (ck S i).k).ah.length by omega))
   obtain ⟨x2, y2⟩ := List.getElem?_eq_some_iff.1 (oR hj2)
   have := List.pairwise_iff_getElem.1 (h.sorted _ (kH h hi).1) (j - 1) j x1 x2 (by omega)
   rw [y1, y2] at this
   exact this
  ·rw [dr] at hi hi'
   obtain ⟨a, ha, h1, h2, _⟩ := qL h hi g.oy
   obtain ⟨b, hb, h1', h2', _⟩ := qL h hi' g'.oy
   have e3 : a = b := by rw [← h2, ← h2']; exact e
   subst e3
   have hk : (ck S a).kind = 2 := by rw [← yK ha, ← h2]; exact g.dir
   have u1 := hup hi g.oy h1 hk
   have u2 := hup hi' g'.oy h1' hk
   rw [u1] at u2
   have e4 : bK S i = bK S i' := by rw [(kH h hi).2, (kH h hi').2]; exact congrArg (fun z : Option Nat => ((z.getD 0 : Nat) : Int)) u2
   have e5 := MT h hi hi' e4
   subst e5
   exact ⟨rfl, KP h (kH h ha).1 hk hi (nW hi g.oy).1 (nW hi g'.oy).1 h1.symm h1'.symm⟩
  have hi := g.J7
  rw [dr] at hi
  obtain ⟨a, ha, h1, h2, _⟩ := qL h hi g.oy
  have hk : (ck S a).kind = 2 := by rw [← yK ha, ← h2]; exact g.dir
  rw [h2]
  exact hdp _ _ (hup hi g.oy h1 hk)
end at_
end
section
open Go.RowKit HeapM TabM Go.Maps
section ints
variable {β : Bs} {A : Option Addr} {l : List Int} {j : Nat}
end ints
theorem C9 {β : Bs} (t : Nat) (most aq : Int) (L : HL) (us : Used Th) :
    Spec Tryz.prog β 45 #[.pointer (some ⟨t, 0, none⟩)] [.abs (aX 156 t most aq (aJ L us))] (fun v l => ∃ A c, v = .slice A us.length c ∧ l = [.abs (aX 156 t most aq (aJ L us)), .abs (aG 3 1 A us.length c (ints (keys us)))]) := by
  have h := Cd (β := β) t most aq (aJ L us)
  have e : keys (aJ L us) = keys us := keys_map (cF L) us
  have e2 : (keys us).length = us.length := List.length_map ..
  rw [e, e2] at h
  exact h
theorem Jp {S : aE} (h : Inv0 S) : ∀ i, i < (ax S).length → (nd (ax S) i).data.length ≤ 140737488355328 ∧ (nd (ax S) i).ah.length ≤ 1048576 := fun i hi => by
  rw [dr] at hi
  have h1 : (obj S.O (ck S i).k).data.length ≤ bytes S.idx S.O := jc (g := fun p : Int × Th => (obj S.O p.2.k).data.length) (get_at h hi)
  have h2 : (obj S.O (ck S i).k).ah.length ≤ tot S.idx S.O := jc (g := fun p : Int × Th => (obj S.O p.2.k).ah.length) (get_at h hi)
  have h3 := h.used
  have h4 := h.total
  rw [ij hi]
  refine ⟨by show (obj S.O (ck S i).k).data.length ≤ _; omega, ?_⟩
  show ((obj S.O (ck S i).k).ah.map _).length ≤ _
  rw [List.length_map]
  omega
theorem tD {β : Bs} (A : Option Addr) (c : Nat) (ns : List aK) (L : Lay) (hG : aD β A ns L) (hl : ns.length ≤ 1048576) (hd : ∀ i, i < ns.length → (nd ns i).data.length ≤ 1048576 ∧ (nd ns i).ah.length ≤ 1048576) :
    Spec Tryz.prog β 10 #[.agg #[.slice A ns.length c]] [] (fun v l => ∃ B cap, v = .agg #[.slice B ns.length cap] ∧ l = [.abs (mw β (fun β' => ∃ K, aD β' B ns K))]) :=
  (dV.LR (ι := Option Addr × Nat) (vv := fun x => .agg #[.slice x.1 ns.length x.2]) (ll := fun _ => []) (Φ := fun x β' => ∃ K, aD β' x.1 ns K)
    ((BB A c ns L hG hl hd).mono (by rintro β' v l _ ⟨B, cap, K, rfl, rfl, h⟩; exact ⟨(B, cap), rfl, rfl, K, h⟩))).mono (by rintro v l ⟨⟨B, cap⟩, rfl, rfl⟩; exact ⟨B, cap, rfl, rfl⟩)
end
section
open Go.RowKit Go.Maps HeapM TabM
attribute [local irreducible] aj aS af ai
theorem He {β : Bs} (S : aE) (L : HL) (f m t : Nat) : Spec Tryz.prog β 18 #[vP f] [pF f m t S.X, pT t S.X.cH S.aq L S.us] (fun v l => ∃ A c, v = .slice A S.us.length c ∧ l = [pF f m t S.X, pT t S.X.cH S.aq L S.us, .abs (aG 3 1 A S.us.length c (ints (keys S.us)))]) := by
 refine Spec.enter Tryz.func18 rfl Tryz.ntmps18 (Nat.le_of_ble_eq_true rfl) (fun R => ?_)
 refine SR ?_
 refine gK 1 [] [] ?_
 refine NS ?_
 refine gK 4 [(6, vP t)] [(3, a_ 0 f)] ?_
 refine gL [1] (C9 t S.X.cH S.aq L S.us) ?_
 rintro _ _ ⟨A, c, rfl, rfl⟩
 refine gK 1 [(2, .slice A (S.us.length) (c))] [] ?_
 refine NN (af.ret ?_)
 exact RT (.slice A (S.us.length) (c)) [2, 0, 1, 3] (⟨A, c, rfl, rfl⟩)
theorem Jq {β : Bs} (S : aE) (L : HL) (f m t : Nat) : Spec Tryz.prog β 26 #[vP f] [pF f m t S.X, pT t S.X.cH S.aq L S.us] (fun v l => v = vI S.aq ∧ l = [pF f m t S.X, pT t S.X.cH S.aq L S.us]) := by
 refine Spec.enter Tryz.func26 rfl Tryz.ntmps26 (Nat.le_of_ble_eq_true rfl) (fun R => ?_)
 refine SR ?_
 refine gK 1 [] [] ?_
 refine NS ?_
 refine gK 4 [(6, vP t)] [(3, a_ 0 f)] ?_
 refine gL [1] (F6 t S.X.cH S.aq (aJ L S.us)) ?_
 rintro _ _ ⟨rfl, rfl⟩
 refine gK 1 [(2, vI (S.aq))] [] ?_
 refine NN (af.ret ?_)
 exact RT (vI (S.aq)) [1, 0, 2] (⟨rfl, rfl⟩)
end
section
open Go.RowKit Go.WideShapes Go.ChangeShapes Go.ChangeAt Go.Deep
theorem nV.wide {ns : List aK} {b b' : Nat} (h : nV ns b) (hb : b ≤ b') : nV ns b' := ⟨Nat.le_trans h.len hb, fun i hi => by
  have := h.node i hi
  exact ⟨this.ids, Nat.le_trans this.data hb, Nat.le_trans this.target hb, Nat.le_trans this.ah hb, fun j hj => ⟨(this.ent j hj).id, Nat.le_trans (this.ent j hj).name hb⟩⟩⟩
section gb
variable {ns : List aK} (h : nV ns 1048576)
include h
theorem vo : ns.length ≤ 1048576 := by have := h.len; omega
theorem yL : ∀ i, i < ns.length → (nd ns i).data.length ≤ 1048576 ∧ (nd ns i).ah.length ≤ 1048576 := fun i hi => by
  have h1 := (h.node i hi).data
  have h2 := (h.node i hi).ah
  omega
theorem Hf : ∀ i, i < ns.length → ∀ j, j < (nd ns i).ah.length → -9223372036854775808 ≤ (ent ns i j).id ∧ (ent ns i j).id ≤ 9223372036854775807 := fun i hi j hj => ((h.node i hi).ent j hj).id
theorem Hg : ∀ i, i < ns.length → ∀ j, j < (nd ns i).ah.length → (ent ns i j).name.size ≤ 1048576 := fun i hi j hj => by
  have h1 := ((h.node i hi).ent j hj).name
  unfold ent
  omega
end gb
section a
variable {H : Type} {enc : TypeId × Value → H} {W : World} {sp : Nat → Bool}
def MU (A : Option Addr) (n cp : Nat) (X : FM) : Value := .agg #[.slice A n cp, .int .i64 X.cN, .int .i64 X.cB, .int .i64 X.cH, .int .i64 X.cS, .int .i64 X.cZ]
structure Pg (X : FM) : Prop where
  cN : qg X.cN
  cB : qg X.cB
  cH : qg X.cH
  cS : qg X.cS
  cZ : qg X.cZ
theorem open_start {v : Value} {d : DataW H} {ps : List MemPlace} {r : Go.Reach} {b0 : Nat} (hval : Value.okWide Tryz.prog W r b0 30 v) (h : DataW.Trod enc Tryz.prog W 0 sp true 30 v d ps) :
    ∃ A cp, ∃ ns : List aK, ∃ L : Lay, ∃ X : FM, v = MU A ns.length cp X ∧ aD (B0 W) A ns L ∧ nV ns (Rows.uptoBulk d) ∧ Pg X := by
  obtain ⟨cs, rfl, hcs⟩ := okWide_struct Tryz.underlying30 hval
  obtain ⟨fuel, h⟩ := h
  obtain ⟨ys, m, _, hx, hl, kX, hf⟩ := DataW.trod_struct Tryz.underlying30 h
  have hC : Tryz.prog.cellsOf 30 = 6 := by kernel_rfl
  rw [hC] at hcs
  obtain ⟨cs⟩ := cs
  match cs, hcs with
  | [c0, c1, c2, c3, c4, c5], _ =>
    obtain ⟨h0, b0⟩ := aW (hf 0 _ rfl) (by rw [kX]; decide)
    obtain ⟨h1, _⟩ := aW (hf 1 _ rfl) (by rw [kX]; decide)
    obtain ⟨us, _, _, MV, _, nU, hu⟩ := DataW.trod_struct Tryz.underlying24 h0
    obtain ⟨g0, e0⟩ := aW (hu 0 _ rfl) (by rw [nU]; decide)
    obtain ⟨A, cp, ns, L, rfl, hG, hB⟩ := Fl (c := c0) g0
    obtain ⟨vs, _, _, _, _, hvl, hv⟩ := DataW.trod_struct Tryz.underlying28 h1
    obtain ⟨k0, _⟩ := aW (hv 0 _ rfl) (by rw [hvl]; decide)
    obtain ⟨k1, _⟩ := aW (hv 1 _ rfl) (by rw [hvl]; decide)
    obtain ⟨k2, _⟩ := aW (hv 2 _ rfl) (by rw [hvl]; decide)
    obtain ⟨k3, _⟩ := aW (hv 3 _ rfl) (by rw [hvl]; decide)
    obtain ⟨ts, _, _, _, _, htl, ht⟩ := DataW.trod_struct Tryz.underlying26 k3
    obtain ⟨t0, _⟩ := aW (ht 0 _ rfl) (by rw [htl]; decide)
    obtain ⟨t1, _⟩ := aW (ht 1 _ rfl) (by rw [htl]; decide)
    obtain ⟨z0, rfl, w0⟩ := fY (c := c1) Tryz.underlying3 k0
    obtain ⟨z1, rfl, w1⟩ := fY (c := c2) Tryz.underlying3 k1
    obtain ⟨z2, rfl, w2⟩ := fY (c := c3) Tryz.underlying3 k2
    obtain ⟨z3, rfl, w3⟩ := fY (c := c4) Tryz.underlying3 t0
    obtain ⟨z4, rfl, w4⟩ := fY (c := c5) Tryz.underlying3 t1
    cases hx
    rw [MV] at b0
    exact ⟨A, cp, ns, L, ⟨z0, z1, z2, z3, z4, 0, 0, 0⟩, rfl, hG, hB.wide (Nat.le_trans e0 b0), ⟨w0, w1, w2, w3, w4⟩⟩
end a
end
section
open Go.RowKit Go.Maps HeapM TabM
structure iz where
  c : aT
  a : wF
  root : Int
def sS (x : iz) : List Value := [.int .i64 x.c.op, .int .i64 x.c.handle, .int .i64 x.c.other, .string x.c.name, .string x.c.text, .slice x.c.dA x.c.data.length x.c.dC, .int .i64 x.c.mode, .int .i64 x.c.uid, .int .i64 x.c.gid, .int .i64 x.c.sec, .int .i64 x.c.nano, .int .i64 x.c.code, .int .i64 x.c.answer, .int .i64 x.a.at_, .int .i64 x.a.op, .string x.a.path, .string x.a.to, .string x.a.text, .int .i64 x.root]
instance : Inhabited iz := ⟨⟨⟨0, 0, 0, ⟨#[]⟩, ⟨#[]⟩, none, 0, [], 0, 0, 0, 0, 0, 0, 0⟩, ⟨0, 0, ⟨#[]⟩, ⟨#[]⟩, ⟨#[]⟩⟩, 0⟩⟩
def cR (xs : List iz) (i : Nat) : iz := xs.getD i default
inductive sU (S : aE) (x : iz) : aE → Int → Prop
  | act (h : ¬ x.a.op = 0) : sU S x (actM S x.root x.a).2 (actM S x.root x.a).1
  | call (h : x.a.op = 0) (A : Option Addr) (n : Nat) : sU S x (doM S { x.c with dA := A, dC := n }).1 (doM S { x.c with dA := A, dC := n }).2.code
section p
variable {S S2 S3 : aE} {x : iz} {e : Int} {d to : Nat} {name toName text : ByteArray} {t : Th} {c : aT} {O : bJ}
theorem sU.inv (h : sU S x S2 e) (hI : Inv S) : Inv S2 := by
  cases h
  ·exact hI.actM
  exact hI.doM _
structure Grow (S S2 : aE) : Prop where
  used : S2.X.used ≤ S.X.used ∨ S2.X.used ≤ S.X.cB
  cB : S2.X.cB = S.X.cB
  cH : S2.X.cH = S.X.cH
  aq : S.aq ≤ S2.aq
theorem Grow.rfl : Grow S S := ⟨.inl (Int.le_refl _), _root_.rfl, _root_.rfl, Int.le_refl _⟩
theorem Grow.trans (h : Grow S S2) (g : Grow S2 S3) : Grow S S3 := ⟨by
  have h1 := h.used; have h2 := g.used; have h3 := h.cB
  omega, g.cB.trans h.cB, g.cH.trans h.cH, Int.le_trans h.aq g.aq⟩
theorem Da {u : Int} : gu O u t ≤ u := by
  unfold gu
  split
  ·split <;> omega
  exact Int.le_refl _
theorem uK : Grow S (au S d name t) := ⟨.inl (by
  show (if _ then gu _ _ _ else _) ≤ _
  split
  ·exact Da
  exact Int.le_refl _), _root_.rfl, _root_.rfl, Int.le_refl _⟩
theorem DF {O' : bJ} : Grow S { au S d name t with O := O' } := by
  have h : Grow S (au S d name t) := uK
  exact ⟨h.used, h.cB, h.cH, h.aq⟩
theorem wR {o : aO} : Grow S (bC S d name o) := ⟨.inl (Int.le_refl _), _root_.rfl, _root_.rfl, Int.le_refl _⟩
theorem AJ : Grow S (kD S d name to toName t) := ⟨.inl (Int.le_refl _), _root_.rfl, _root_.rfl, Int.le_refl _⟩
theorem sV {k : Nat} {bs : List UInt8} : Grow S (writeM S k bs).2.2 := by
  unfold writeM
  split
  ·exact .rfl
  split
  ·exact .rfl
  refine ⟨.inr ?_, _root_.rfl, _root_.rfl, Int.le_refl _⟩
  show S.X.used + ((aU S.X bs.length : Nat) : Int) ≤ S.X.cB
  unfold aU
  omega
theorem uL : Grow S (openM S t).2.2 := by
  unfold openM
  refine ⟨.inl (Int.le_refl _), _root_.rfl, _root_.rfl, ?_⟩
  show S.aq ≤ if _ then _ else _
  split
  ·exact Int.le_max_left ..
  exact Int.le_refl _
theorem yM {m : Int} : Grow S (mkdirM S d name m).2 := by
  unfold mkdirM
  split
  ·exact wR
  exact .rfl
theorem uM : Grow S (symlinkM S d name text).2 := by
  unfold symlinkM
  (repeat' split) <;> first | exact .rfl | exact wR
theorem vQ : Grow S (unlinkM S d name).2 := by
  unfold unlinkM
  (repeat' split) <;> first | exact .rfl | exact uK
theorem yN : Grow S (rmdirM S d name).2 := by
  unfold rmdirM
  (repeat' split) <;> first | exact .rfl | exact DF
theorem vR : Grow S (renameM S d name to toName).2 := by
  unfold renameM
  (repeat' split) <;> first | exact .rfl | exact AJ | exact uK.trans AJ
theorem Hj : Grow S (linkM S d name to toName).2 := by
  unfold linkM
  (repeat' split) <;> first | exact .rfl | exact ⟨.inl (Int.le_refl _), _root_.rfl, _root_.rfl, Int.le_refl _⟩
theorem DG {m : Int} : Grow S (createM S d name m).2.2 := by
  unfold createM
  (repeat' split) <;> first | exact .rfl | exact ⟨.inl (Int.le_refl _), _root_.rfl, _root_.rfl, Int.le_max_left ..⟩
theorem KR : Grow S (opM S c).2.1 := by
  by_cases hop : 1 ≤ c.op ∧ c.op ≤ 15
  case neg => rw [xZ hop]; exact .rfl
  have hop : c.op = 1 ∨ c.op = 2 ∨ c.op = 3 ∨ c.op = 4 ∨ c.op = 5 ∨ c.op = 6 ∨ c.op = 7 ∨ c.op = 8 ∨ c.op = 9 ∨ c.op = 10 ∨ c.op = 11 ∨ c.op = 12 ∨ c.op = 13 ∨ c.op = 14 ∨ c.op = 15 := by omega
  rcases hop with q | q | q | q | q | q | q | q | q | q | q | q | q | q | q
  ·rw [xQ q]; unfold iw; (repeat' split) <;> first | exact .rfl | exact uL
  ·rw [xR q]; unfold dU; (repeat' split) <;> first | exact .rfl | exact uL
  ·rw [A6 q]; unfold dL; (repeat' split) <;> first | exact .rfl | exact uL
  ·rw [xS q]; unfold eP; (repeat' split) <;> first | exact .rfl | exact yM
  ·rw [A8 q]; unfold di; (repeat' split) <;> first | exact .rfl | exact DG
  ·rw [Ba q]; unfold eD; split <;> first | exact .rfl | exact uM
  ·rw [Bb q]; unfold bX; (repeat' split) <;> first | exact .rfl | exact Hj
  ·rw [Bc q]; unfold fA; split <;> first | exact .rfl | exact vQ
  ·rw [Bd q]; unfold fo; (repeat' split) <;> first | exact .rfl | exact sV
  ·rw [xT q]; unfold bD; (repeat' split) <;> first | exact .rfl | exact ⟨.inl (Int.le_refl _), _root_.rfl, _root_.rfl, Int.le_refl _⟩
  ·rw [xU q]; unfold jB; split <;> exact .rfl
  ·rw [xV q]; unfold fB; split <;> exact .rfl
  ·rw [xW q]; unfold ic; split <;> first | exact .rfl | exact ⟨.inl Da, _root_.rfl, _root_.rfl, Int.le_refl _⟩
  ·rw [xX q]; unfold fX; split <;> first | exact .rfl | exact yN
  rw [xY q]; unfold ef; (repeat' split) <;> first | exact .rfl | exact vR
theorem Jr {root : Int} {a : wF} : Grow S (actM S root a).2 := by
  unfold actM
  split
  ·exact .rfl
  split
  ·exact .rfl
  split
  ·split
   ·exact .rfl
   unfold actR
   split
   ·unfold actNew
    split
    ·exact wR.trans sV
    exact .rfl
   split
   ·exact yM
   split
   ·exact uM
   split
   ·exact vQ
   split
   ·exact yN
   split
   ·split
    ·exact .rfl
    exact vR
   unfold actWrite
   (repeat' split) <;> first | exact .rfl | exact sV
  exact .rfl
theorem sU.grow (h : sU S x S2 e) : Grow S S2 := by
  cases h
  ·exact Jr
  exact KR
end p
end
section
open Go.RowKit Go.WideShapes Go.ChangeShapes Go.ChangeAt Go.Deep
def MW (xs : List iz) : List Value := dD (fun _ x => sS x) 0 xs
structure sW (β : Bs) (x : iz) (b : Nat) : Prop where
  data : bW β x.c.dA x.c.data
  len : x.c.data.length ≤ b
  name : x.c.name.size ≤ b
  text : x.c.text.size ≤ b
  path : x.a.path.size ≤ b
  to : x.a.to.size ≤ b
  txt : x.a.text.size ≤ b
  hw : (Lit.int .i64 x.c.handle).wf = true
  ow : (Lit.int .i64 x.c.other).wf = true
  rw : (Lit.int .i64 x.root).wf = true
theorem sW.le {β β' : Bs} {x : iz} {b : Nat} (h : sW β x b) (hle : β.le β') : sW β' x b := ⟨h.data.le hle, h.len, h.name, h.text, h.path, h.to, h.txt, h.hw, h.ow, h.rw⟩
structure cg (β : Bs) (A : Option Addr) (xs : List iz) : Prop where
  row : fF β A (MW xs)
  st : ∀ i, i < xs.length → sW β (cR xs i) 1048576
theorem cg.le {β β' : Bs} {A : Option Addr} {xs : List iz} (h : cg β A xs) (hle : β.le β') : cg β' A xs := ⟨h.row.le hle, fun i hi => (h.st i hi).le hle⟩
section s
variable {β : Bs} {A : Option Addr} {xs : List iz} {i j : Nat} {v : Value}
theorem cg.get (h : cg β A xs) (hi : i < xs.length) (hv : (sS (cR xs i))[j]? = some v) : A = some ⟨aB A, ay A, none⟩ ∧ Rd β ⟨aB A, ay A + i * 19 + j, none⟩ v := by
  have hj : j < 19 := br hv
  have h1 := nE (f := fun _ x => sS x) (s := 19) (fun _ _ => rfl) xs 0 i j _ (getD_some (x := default) hi) hj
  have := h.row (i * 19 + j) v (h1.trans hv)
  rw [← Nat.add_assoc] at this
  exact this
theorem cg.hd (h : cg β A xs) (hi : i < xs.length) : A = some ⟨aB A, ay A, none⟩ := (h.get hi (j := 0) rfl).1
theorem cg.rd (h : cg β A xs) (hi : i < xs.length) (hv : (sS (cR xs i))[j]? = some v) : Rd β ⟨aB A, ay A + i * 19 + j, none⟩ v := (h.get hi hv).2
end s
section a
variable {H : Type} {enc : TypeId × Value → H} {W : World} {sp : Nat → Bool}
theorem gV {t : TypeId} {n : Nat} {c : Value} {x : DataW H × List MemPlace} (ht : Tryz.prog.underlying t = some (.int .i64)) (h : DataW.trod enc Tryz.prog W 0 sp true n t [c] = some x) : ∃ z, c = .int .i64 z ∧ (Lit.int .i64 z).wf = true := by
  obtain ⟨z, h1, _, h3⟩ := DataW.trod_int ht h
  cases h1
  exact ⟨z, rfl, h3⟩
theorem Hl {n : Nat} {cs : List Value} {x : DataW H × List MemPlace} (h : DataW.trod enc Tryz.prog W 0 sp true n 47 cs = some x) : ∃ a : iz, cs = sS a ∧ sW (B0 W) a (Rows.uptoBulk x.1) := by
  obtain ⟨ys, m, _, hx, hl, kX, hf⟩ := DataW.trod_struct Tryz.underlying47 h
  have hC : Tryz.prog.cellsOf 47 = 19 := by kernel_rfl
  rw [hC] at hl
  match cs, hl with
  | [c0, c1, c2, c3, c4, c5, c6, c7, c8, c9, c10, c11, c12, c13, c14, c15, c16, c17, c18], _ =>
    obtain ⟨hc, bc⟩ := aW (hf 0 _ rfl) (by rw [kX]; decide)
    obtain ⟨ha, ba⟩ := aW (hf 1 _ rfl) (by rw [kX]; decide)
    obtain ⟨hr, _⟩ := aW (hf 2 _ rfl) (by rw [kX]; decide)
    obtain ⟨us, _, _, MV, _, nU, hu⟩ := DataW.trod_struct Tryz.underlying43 hc
    obtain ⟨h0, _⟩ := aW (hu 0 _ rfl) (by rw [nU]; decide)
    obtain ⟨h1, _⟩ := aW (hu 1 _ rfl) (by rw [nU]; decide)
    obtain ⟨h2, _⟩ := aW (hu 2 _ rfl) (by rw [nU]; decide)
    obtain ⟨h3, b3⟩ := aW (hu 3 _ rfl) (by rw [nU]; decide)
    obtain ⟨h4, b4⟩ := aW (hu 4 _ rfl) (by rw [nU]; decide)
    obtain ⟨h5, b5⟩ := aW (hu 5 _ rfl) (by rw [nU]; decide)
    obtain ⟨h6, _⟩ := aW (hu 6 _ rfl) (by rw [nU]; decide)
    obtain ⟨h7, _⟩ := aW (hu 7 _ rfl) (by rw [nU]; decide)
    obtain ⟨h8, _⟩ := aW (hu 8 _ rfl) (by rw [nU]; decide)
    obtain ⟨h9, _⟩ := aW (hu 9 _ rfl) (by rw [nU]; decide)
    obtain ⟨h10, _⟩ := aW (hu 10 _ rfl) (by rw [nU]; decide)
    obtain ⟨h11, _⟩ := aW (hu 11 _ rfl) (by rw [nU]; decide)
    obtain ⟨ts, _, _, _, _, htl, ht⟩ := DataW.trod_struct Tryz.underlying26 h9
    obtain ⟨t0, _⟩ := aW (ht 0 _ rfl) (by rw [htl]; decide)
    obtain ⟨t1, _⟩ := aW (ht 1 _ rfl) (by rw [htl]; decide)
    obtain ⟨vs, _, _, P7, _, hvl, hv⟩ := DataW.trod_struct Tryz.underlying45 ha
    obtain ⟨a0, _⟩ := aW (hv 0 _ rfl) (by rw [hvl]; decide)
    obtain ⟨a1, _⟩ := aW (hv 1 _ rfl) (by rw [hvl]; decide)
    obtain ⟨a2, e2⟩ := aW (hv 2 _ rfl) (by rw [hvl]; decide)
    obtain ⟨a3, e3⟩ := aW (hv 3 _ rfl) (by rw [hvl]; decide)
    obtain ⟨a4, e4⟩ := aW (hv 4 _ rfl) (by rw [hvl]; decide)
    obtain ⟨z0, rfl, w0⟩ := gV (c := c0) Tryz.underlying3 h0
    obtain ⟨z1, rfl, w1⟩ := gV (c := c1) Tryz.underlying3 h1
    obtain ⟨z2, rfl, w2⟩ := gV (c := c2) Tryz.underlying3 h2
    obtain ⟨s3, rfl, l3⟩ := lH (c := c3) Tryz.underlying9 h3
    obtain ⟨s4, rfl, l4⟩ := lH (c := c4) Tryz.underlying9 h4
    obtain ⟨A5, p5, d5, rfl, q5, l5⟩ := yE (c := c5) h5
    obtain ⟨z6, rfl, w6⟩ := gV (c := c6) Tryz.underlying3 h6
    obtain ⟨z7, rfl, w7⟩ := gV (c := c7) Tryz.underlying3 h7
    obtain ⟨z8, rfl, w8⟩ := gV (c := c8) Tryz.underlying3 h8
    obtain ⟨z9, rfl, w9⟩ := gV (c := c9) Tryz.underlying3 t0
    obtain ⟨P8, rfl, Rb⟩ := gV (c := c10) Tryz.underlying3 t1
    obtain ⟨P9, rfl, Rc⟩ := gV (c := c11) Tryz.underlying34 h10
    obtain ⟨z12, rfl, Rf⟩ := gV (c := c12) Tryz.underlying3 h11
    obtain ⟨Qa, rfl, Rg⟩ := gV (c := c13) Tryz.underlying3 a0
    obtain ⟨Qb, rfl, Rh⟩ := gV (c := c14) Tryz.underlying3 a1
    obtain ⟨Oo, rfl, Ri⟩ := lH (c := c15) Tryz.underlying9 a2
    obtain ⟨Oq, rfl, Rj⟩ := lH (c := c16) Tryz.underlying9 a3
    obtain ⟨Ot, rfl, Rk⟩ := lH (c := c17) Tryz.underlying9 a4
    obtain ⟨Qc, rfl, Qd⟩ := gV (c := c18) Tryz.underlying3 hr
    have hbx : Rows.uptoBulk x.1 = Rows.uptoBulk (.agg (ys.map (·.1))) := by rw [hx]
    have Rl : Rows.uptoBulk (ys[0]'(by rw [kX]; decide)).1 = Rows.uptoBulk (.agg (us.map (·.1))) := by rw [MV]
    have Rm : Rows.uptoBulk (ys[1]'(by rw [kX]; decide)).1 = Rows.uptoBulk (.agg (vs.map (·.1))) := by rw [P7]
    exact ⟨⟨⟨z0, z1, z2, s3, s4, A5, p5, d5, z6, z7, z8, z9, P8, P9, z12⟩, ⟨Qa, Qb, Oo, Oq, Ot⟩, Qc⟩, rfl, ⟨q5, by show d5.length ≤ _; omega, by show s3.size ≤ _; omega, by show s4.size ≤ _; omega, by show Oo.size ≤ _; omega, by show Oq.size ≤ _; omega, by show Ot.size ≤ _; omega, w1, w2, Qd⟩⟩
theorem open_steps {v : Value} {d : DataW H} {ps : List MemPlace} {r : Go.Reach} {b0 : Nat} (hval : Value.okWide Tryz.prog W r b0 31 v) (h : DataW.Trod enc Tryz.prog W 0 sp true 31 v d ps) (hb : Rows.uptoBulk d ≤ 1048576) :
    ∃ A cp, ∃ xs : List iz, v = .slice A xs.length cp ∧ cg (B0 W) A xs ∧ xs.length ≤ 1048576 ∧ xs.length ≤ cp := by
  obtain ⟨a, n, c, rfl⟩ := okWide_slice Tryz.underlying31 hval
  obtain ⟨fuel, h⟩ := h
  obtain ⟨A, cp, xs, D, h1, Ho, _, h2, h4, h3⟩ := sR (α := iz) (f := sS) (Q := fun a d => sW (B0 W) a (Rows.uptoBulk d)) Tryz.underlying31 (size := 19) (by kernel_rfl) (by decide) (fun n cs x h => Hl h) (fun _ => rfl) h
  cases h1
  have h5 := sQ ((List.range xs.length).map D)
  have h3 : Rows.uptoBulkAll ((List.range xs.length).map D) + 1 ≤ Rows.uptoBulk d := h3
  refine ⟨a, c, xs, rfl, ⟨h2, fun i hi => ?_⟩, by simp at h5; omega, Ho⟩
  have h6 := h4 i hi
  have h7 := wP (D := D) hi
  exact ⟨h6.data, Nat.le_trans h6.len (by omega), Nat.le_trans h6.name (by omega), Nat.le_trans h6.text (by omega), Nat.le_trans h6.path (by omega), Nat.le_trans h6.to (by omega), Nat.le_trans h6.txt (by omega), h6.hw, h6.ow, h6.rw⟩
end a
end
section
open Go.RowKit Go.Maps HeapM TabM
attribute [local irreducible] aj aS af ai
theorem Js {β : Bs} : dV Tryz.prog β 8 #[] [] (fun _ v l => v = .bool true ∧ l = []) := by
 refine dV.enter Tryz.func8 rfl Tryz.ntmps8 (Nat.le_of_ble_eq_true rfl) (fun hle0 R => ?_)
 refine SR ?_
 refine gK 1 [] [] ?_
 refine NS ?_
 refine aj.nu (d := (some 7)) (R := [.abs R]) (pk := [0]) (fun _ => by kernel_rfl) (G6) rfl (by kernel_rfl) ?_
 rintro β1 _ _ lN ⟨B, Y, rfl, rfl, hG⟩
 replace hle0 := hle0.trans lN
 refine gN 2 (fun b2 => [(1, vP b2)]) (fun b2 => [(1, A_ 1 b2 6)]) (fun _ => []) (fun b2 => .blk b2 [.slice B (2) (2), vI 9, vI 99, vI 9, vI 0, vI 0] 30) (fun b2 => ?_)
 refine NS ?_
 refine gK 4 [(10, .agg #[.slice B (2) (2)]), (12, .agg #[vI 9, vI 99, vI 9, vI 0, vI 0])] [(1, a_ 1 b2), (3, A_ 1 b2 5)] ?_
 refine gL [] (Fo (room := 99) (cp := 2) (by decide) hG) ?_
 rintro _ _ ⟨S, f3, m4, t5, L, h0, rfl, rfl⟩
 refine gK 5 [(2, vP f3), (3, vI 0)] [] ?_
 refine NN (af.seq (SR ?_))
 refine gK 6 [(21, .bool false)] [] ?_
 refine NN ?_
 refine CF ?_
 refine af.skip (NX (SR ?_))
 refine gK 2 [(22, vP f3), (23, .agg #[vI 1, vI 0, vI 1, .string ⟨#[]⟩, .string ⟨#[]⟩, .slice none (0) (0), vI 0, vI 0, vI 0, vI 0, vI 0, vI 0, vI 0])] [] ?_
 have bT : Inv (S1 S) := by have h := h0.inv.doM sP; rw [C4 h0] at h; exact h
 refine gL [0, 1, 2, 3, 4, 5] (wQ (β := β1) (f := f3) (m := m4) (t := t5) (L := L) h0.inv (zQ (by decide) (by decide) (by decide) (by decide) rfl) (C4 h0)) ?_
 rintro _ _ ⟨L1, rfl, rfl⟩
 refine gN 2 (fun b6 => [(4, vP b6)]) (fun b6 => [(1, A_ 8 b6 13)]) (fun _ => []) (fun b6 => .blk b6 [vI 1, vI 0, vI 1, .string ⟨#[]⟩, .string ⟨#[]⟩, .slice none (0) (0), vI 0, vI 0, vI 0, vI 0, vI 0, vI 0, vI 1] 43) (fun b6 => ?_)
 refine NS ?_
 refine gK 2 [(25, vP f3), (26, .agg #[vI 4, vI 1, vI 0, .string ⟨#[100]⟩, .string ⟨#[]⟩, .slice none (0) (0), vI 448, vI 0, vI 0, vI 0, vI 0, vI 0, vI 0])] [] ?_
 obtain ⟨S2, hd2, Qe, hn2, hc2, ha2, hk2⟩ := MP h0
 have mF : Inv S2 := by have h := bT.doM rQ; rw [hd2] at h; exact h
 refine gL [0, 1, 2, 3, 4, 5] (wQ (β := β1) (f := f3) (m := m4) (t := t5) (L := L1) bT (zQ (by decide) (by decide) (by decide) (by decide) rfl) hd2) ?_
 rintro _ _ ⟨L2, rfl, rfl⟩
 refine gN 2 (fun b7 => [(5, vP b7)]) (fun b7 => [(1, A_ 9 b7 13)]) (fun _ => []) (fun b7 => .blk b7 [vI 4, vI 1, vI 0, .string ⟨#[100]⟩, .string ⟨#[]⟩, .slice none (0) (0), vI 448, vI 0, vI 0, vI 0, vI 0, vI 0, vI 0] 43) (fun b7 => ?_)
 refine NS ?_
 refine gK 2 [(28, vP f3), (29, .agg #[vI 2, vI 1, vI 0, .string ⟨#[100]⟩, .string ⟨#[]⟩, .slice none (0) (0), vI 0, vI 0, vI 0, vI 0, vI 0, vI 0, vI 0])] [] ?_
 obtain ⟨S3, hd3, Qf⟩ := MQ Qe hc2 ha2 hk2
 have Qg : Inv S3 := by have h := mF.doM yB; rw [hd3] at h; exact h
 refine gL [0, 1, 2, 3, 4, 5] (wQ (β := β1) (f := f3) (m := m4) (t := t5) (L := L2) mF (zQ (by decide) (by decide) (by decide) (by decide) rfl) hd3) ?_
 rintro _ _ ⟨L3, rfl, rfl⟩
 refine gN 2 (fun b8 => [(6, vP b8)]) (fun b8 => [(1, A_ 10 b8 13)]) (fun _ => []) (fun b8 => .blk b8 [vI 2, vI 1, vI 0, .string ⟨#[100]⟩, .string ⟨#[]⟩, .slice none (0) (0), vI 0, vI 0, vI 0, vI 0, vI 0, vI 0, vI 2] 43) (fun b8 => ?_)
 refine NS ?_
 refine gK 20 [(49, .bool true), (50, vP f3)] [(1, a_ 8 b6), (5, a_ 8 b6), (10, a_ 9 b7), (15, a_ 10 b8)] ?_
 refine aj.nu (d := (some 51)) (R := [pT t5 S3.X.cH S3.aq L3 S3.us, .abs R, .blk b2 [.slice B (2) (2), vI 9, vI 99, vI 9, vI 0, vI 0] 30, .blk b6 [vI 1, vI 0, vI 1, .string ⟨#[]⟩, .string ⟨#[]⟩, .slice none (0) (0), vI 0, vI 0, vI 0, vI 0, vI 0, vI 0, vI 1] 43, .blk b7 [vI 4, vI 1, vI 0, .string ⟨#[100]⟩, .string ⟨#[]⟩, .slice none (0) (0), vI 448, vI 0, vI 0, vI 0, vI 0, vI 0, vI 0] 43, .blk b8 [vI 2, vI 1, vI 0, .string ⟨#[100]⟩, .string ⟨#[]⟩, .slice none (0) (0), vI 0, vI 0, vI 0, vI 0, vI 0, vI 0, vI 2] 43]) (pk := [0, 1, 3, 4, 5, 2, 6, 7, 8, 9, 10]) (fun _ => by kernel_rfl) (yI (β := β1) (S := S3) (L := L3) (f := f3) (m := m4) (t := t5) Qg) rfl (by kernel_rfl) ?_
 rintro P6 _ _ rR ⟨A4, c4, K4, rfl, rfl, _⟩
 replace hG := hG.le rR
 replace hle0 := hle0.trans rR
 refine gK 5 [(0, .bool (decide ((((3 : Nat) : Int) : Int) = (3 : Int))))] [(1, p_ ⟨[], none, none, none, some (vI (((3 : Nat) : Int)))⟩ [((.int .i64 ↑((ax S3).length) : Value)) = (.int .i64 (((3 : Nat) : Int)))] ⟨by rw [dr, Qf, hn2], trivial⟩)] ?_
 refine NN (af.ret ?_)
 exact ai.tG (v := .bool (decide ((((3 : Nat) : Int) : Int) = (3 : Int)))) (l := []) (aV := []) [] [6] hle0 (fun _ => by kernel_rfl) trivial rfl (by kernel_rfl) (⟨rfl, rfl⟩)
end
section
open Go.RowKit Go.Maps HeapM TabM
attribute [local irreducible] aj aS af ai
theorem DH {β : Bs} (c : aT) (hD : bW β c.dA c.data) (hl : c.data.length ≤ 1048576) :
    dV Tryz.prog β 14 #[.agg ⟨fV c⟩] [] (fun β' v l => ∃ B cp, v = .agg ⟨fV { c with dA := B, dC := cp }⟩ ∧ l = [] ∧ bW β' B c.data ∧ c.data.length ≤ cp) := by
 refine dV.enter Tryz.func14 rfl Tryz.ntmps14 (Nat.le_of_ble_eq_true rfl) (fun hle0 R => ?_)
 refine SR ?_
 refine gN 1 (fun b1 => [(1, vP b1)]) (fun _ => []) (fun _ => []) (fun b1 => .blk b1 [vI (c.op), vI (c.handle), vI (c.other), .string c.name, .string c.text, .slice c.dA (c.data.length) (c.dC), vI (c.mode), vI (c.uid), vI (c.gid), vI (c.sec), vI (c.nano), vI (c.code), vI (c.answer)] 43) (fun b1 => ?_)
 refine gN 1 (fun b2 => [(2, vP b2)]) (fun _ => []) (fun _ => []) (fun b2 => .blk b2 [vI 0, vI 0, vI 0, .string ⟨#[]⟩, .string ⟨#[]⟩, .slice none (0) (0), vI 0, vI 0, vI 0, vI 0, vI 0, vI 0, vI 0] 43) (fun b2 => ?_)
 refine NS ?_
 refine gK 2 [(4, .slice c.dA (c.data.length) (c.dC))] [(1, a_ 1 b1)] ?_
 refine aj.nu (d := (some 5)) (R := [.abs R, pC b1 c, .blk b2 [vI 0, vI 0, vI 0, .string ⟨#[]⟩, .string ⟨#[]⟩, .slice none (0) (0), vI 0, vI 0, vI 0, vI 0, vI 0, vI 0, vI 0] 43]) (pk := [0, 1, 2]) (fun _ => by kernel_rfl) (AR c.dA c.dC c.data hD hl) rfl (by kernel_rfl) ?_
 rintro Ou _ _ o5 ⟨B, cp, rfl, rfl, hB, Ho⟩
 replace hle0 := hle0.trans o5
 refine gC 2 [] [(1, a_ 1 b1)] [(1, [(5, .slice B (c.data.length) (cp))])] ?_
 refine NS ?_
 refine gC 2 [] [(0, A_ 1 b1 13), (1, A_ 2 b2 13)] [(2, [(0, vI (c.op)), (1, vI (c.handle)), (2, vI (c.other)), (3, .string c.name), (4, .string c.text), (5, .slice B (c.data.length) (cp)), (6, vI (c.mode)), (7, vI (c.uid)), (8, vI (c.gid)), (9, vI (c.sec)), (10, vI (c.nano)), (11, vI (c.code)), (12, vI (c.answer))])] ?_
 refine NN (af.ret ?_)
 exact ai.tG (v := .agg #[vI (c.op), vI (c.handle), vI (c.other), .string c.name, .string c.text, .slice B (c.data.length) (cp), vI (c.mode), vI (c.uid), vI (c.gid), vI (c.sec), vI (c.nano), vI (c.code), vI (c.answer)]) (l := []) (aV := [b2 = b2, b2 = b2, b2 = b2, b2 = b2, b2 = b2, b2 = b2, b2 = b2, b2 = b2, b2 = b2, b2 = b2, b2 = b2, b2 = b2, b2 = b2]) [.at 2, .at 2, .at 2, .at 2, .at 2, .at 2, .at 2, .at 2, .at 2, .at 2, .at 2, .at 2, .at 2] [0] hle0 (fun _ => by kernel_rfl) ⟨rfl, rfl, rfl, rfl, rfl, rfl, rfl, rfl, rfl, rfl, rfl, rfl, rfl, trivial⟩ rfl (by kernel_rfl) (⟨B, cp, rfl, rfl, hB, Ho⟩)
theorem KS {β : Bs} (S : aE) (L : HL) (f m t : Nat) (hI : Inv S) (x : iz) (hq : sW β x 1048576) (hg : ig β) :
    dV Tryz.prog β 13 #[vP f, .agg ⟨sS x⟩] [.blk f [vI (S.X.cN), vI (S.X.cB), vI (S.X.cH), vI (S.X.cS), vI (S.X.cZ), .map (some m), vP t, vI (S.X.last), vI (S.X.ah), vI (S.X.used)] 86, .abs (aI Tryz.prog 3 m (aM (aJ L S.idx)) S.idx.length), .abs (aX 156 t S.X.cH S.aq (aJ L S.us)), .abs (ak (aN S.O L)), .abs (ak (aY S.O L)), .abs (ak (bh S.O L))] (fun _ v l => ∃ L2 S2 e, sU S x S2 e ∧ v = vI e ∧ l = [.blk f [vI (S2.X.cN), vI (S2.X.cB), vI (S2.X.cH), vI (S2.X.cS), vI (S2.X.cZ), .map (some m), vP t, vI (S2.X.last), vI (S2.X.ah), vI (S2.X.used)] 86, .abs (aI Tryz.prog 3 m (aM (aJ L2 S2.idx)) S2.idx.length), .abs (aX 156 t S2.X.cH S2.aq (aJ L2 S2.us)), .abs (ak (aN S2.O L2)), .abs (ak (aY S2.O L2)), .abs (ak (bh S2.O L2))]) := by
 refine dV.enter Tryz.func13 rfl Tryz.ntmps13 (Nat.le_of_ble_eq_true rfl) (fun hle0 R => ?_)
 refine SR ?_
 refine gN 2 (fun b4 => [(3, vP b4)]) (fun _ => []) (fun _ => []) (fun b4 => .blk b4 [vI (x.c.op), vI (x.c.handle), vI (x.c.other), .string x.c.name, .string x.c.text, .slice x.c.dA (x.c.data.length) (x.c.dC), vI (x.c.mode), vI (x.c.uid), vI (x.c.gid), vI (x.c.sec), vI (x.c.nano), vI (x.c.code), vI (x.c.answer), vI (x.a.at_), vI (x.a.op), .string x.a.path, .string x.a.to, .string x.a.text, vI (x.root)] 47) (fun b4 => ?_)
 refine NN (af.seq (SR ?_))
 refine gK 4 [(8, .bool (!(decide ((x.a.op : Int) = (0 : Int)))))] [(2, a_ 7 b4)] ?_
 refine NN ?_
 refine af.cI (p := (x.a.op : Int) = (0 : Int)) (fun _ => by kernel_rfl) (fun h8 => ?_) (fun h8 => ?_)
 ·refine SR ?_
  refine gK 5 [(9, vP f), (11, vI (x.root)), (13, .agg #[vI (x.a.at_), vI (x.a.op), .string x.a.path, .string x.a.to, .string x.a.text])] [(2, a_ 7 b4), (4, A_ 7 b4 5)] ?_
  refine gL [0, 1, 2, 3, 4, 5] (Kz S L f m t hI x.root hq.rw x.a hq.path hq.to hq.txt hg) ?_
  rintro _ _ ⟨L2, rfl, rfl⟩
  refine gK 1 [(4, vI ((actM S x.root x.a).1))] [] ?_
  refine NN (af.ret (ai.ar ?_))
  exact ai.tG (v := .int .i64 ((actM S x.root x.a).1)) (l := (pA f m t L2 ((actM S x.root x.a).2))) (aV := []) [] [0, 1, 2, 3, 4, 5, 6] hle0 (fun _ => by kernel_rfl) trivial rfl (by kernel_rfl) (⟨L2, _, _, .act h8, rfl, rfl⟩)
 refine af.skip (NX (SR ?_))
 refine gK 3 [(15, vP f), (17, .agg #[vI (x.c.op), vI (x.c.handle), vI (x.c.other), .string x.c.name, .string x.c.text, .slice x.c.dA (x.c.data.length) (x.c.dC), vI (x.c.mode), vI (x.c.uid), vI (x.c.gid), vI (x.c.sec), vI (x.c.nano), vI (x.c.code), vI (x.c.answer)])] [(2, A_ 7 b4 13)] ?_
 refine aj.nu (d := (some 18)) (R := ((pA f m t L S) ++ [.abs R, .blk b4 [vI (x.c.op), vI (x.c.handle), vI (x.c.other), .string x.c.name, .string x.c.text, .slice x.c.dA (x.c.data.length) (x.c.dC), vI (x.c.mode), vI (x.c.uid), vI (x.c.gid), vI (x.c.sec), vI (x.c.nano), vI (x.c.code), vI (x.c.answer), vI (x.a.at_), vI (x.a.op), .string x.a.path, .string x.a.to, .string x.a.text, vI (x.root)] 47])) (pk := [0, 1, 2, 3, 4, 5, 6, 7]) (fun _ => by kernel_rfl) (DH x.c hq.data hq.len) rfl (by kernel_rfl) ?_
 rintro Rn _ _ KT ⟨B, cp, rfl, rfl, hB, Ho⟩
 replace hle0 := hle0.trans KT
 refine gL [0, 1, 2, 3, 4, 5] (GI S L f m t hI { x.c with dA := B, dC := cp } ⟨hq.hw, hq.ow, hq.name, hq.text, hB, Nat.le_trans hq.len (by decide), Ho⟩) ?_
 rintro _ _ ⟨L2, rfl, rfl⟩
 refine gK 2 [(4, vI ((doM S { x.c with dA := B, dC := cp }).2.code))] [] ?_
 refine NN (af.ret ?_)
 exact ai.tG (v := .int .i64 ((doM S { x.c with dA := B, dC := cp }).2.code)) (l := (pA f m t L2 ((doM S { x.c with dA := B, dC := cp }).1))) (aV := []) [] [0, 1, 2, 3, 4, 5, 6] hle0 (fun _ => by kernel_rfl) trivial rfl (by kernel_rfl) (⟨L2, _, _, .call h8 B cp, rfl, rfl⟩)
theorem MX {β : Bs} (A : Option Addr) (c : Nat) (xs : List iz) (hc : xs.length ≤ c) :
    Spec Tryz.prog β 12 #[.slice A xs.length c] [] (fun v l => ∃ n, n ≤ xs.length ∧ v = .slice A n c ∧ l = []) := by
 refine Spec.enter Tryz.func12 rfl Tryz.ntmps12 (Nat.le_of_ble_eq_true rfl) (fun R => ?_)
 refine SR ?_
 refine gK 1 [] [] ?_
 refine NN (af.seq (SR ?_))
 refine gK 3 [(5, .bool (decide ((((xs.length : Nat) : Int) : Int) > (300 : Int))))] [] ?_
 refine NN ?_
 refine af.bA (p := (((xs.length : Nat) : Int) : Int) > (300 : Int)) (fun _ => by kernel_rfl) (fun h5 => ?_) (fun h5 => ?_)
 ·refine SR ?_
  refine gK 3 [(2, .slice A (300) (c))] [(1, p_ ⟨[], some 300, none, none, none⟩ [300 = ((300 : Nat) : Int), 300 ≤ c] ⟨rfl, by omega, trivial⟩)] ?_
  refine NN (af.ret (ai.ar ?_))
  exact RT (.slice A (300) (c)) [0] (⟨300, by omega, rfl, rfl⟩)
 refine af.skip (NX (SR ?_))
 refine gK 2 [(2, .slice A (xs.length) (c))] [] ?_
 refine NN (af.ret ?_)
 exact RT (.slice A (xs.length) (c)) [0] (⟨xs.length, Nat.le_refl _, rfl, rfl⟩)
end
section
open Go.RowKit HeapM TabM Go.Maps
abbrev Fs (X : FM) (ns : List aK) := { S : aE // dY X ns ns.length 0 S }
abbrev Kb := { e : Int // e ≠ 0 }
theorem Jt {β : Bs} {ns : List aK} {X : FM} (hcap : oV X) (hok : bL ns) (B : Option Addr) (cp : Nat) (hl : ns.length ≤ 1048576) (hd : ∀ i, i < ns.length → (nd ns i).data.length ≤ 1048576 ∧ (nd ns i).ah.length ≤ 1048576) (hwf : ∀ i, i < ns.length → ∀ j, j < (nd ns i).ah.length → -9223372036854775808 ≤ (ent ns i j).id ∧ (ent ns i j).id ≤ 9223372036854775807) (hnm : ∀ i, i < ns.length → ∀ j, j < (nd ns i).ah.length → (ent ns i j).name.size ≤ 1048576) :
    Spec Tryz.prog β 9 #[.agg #[.slice B ns.length cp], .agg #[.int .i64 X.cN, .int .i64 X.cB, .int .i64 X.cH, .int .i64 X.cS, .int .i64 X.cZ]] [.abs (mw β (fun β' => ∃ K, aD β' B ns K))] (fun v l => ∃ (S : Fs X ns) (f m t : Nat) (L : HL), v = .tuple #[.pointer (some ⟨f, 0, none⟩), .int .i64 0] ∧ l = pA f m t L S.1) :=
  Spec.EK fun _ _ ⟨K, hG⟩ => (zP B cp ns K hG hl hd hwf hnm X).mono (by
    rintro v l (⟨h, _⟩ | ⟨_, h, _⟩ | ⟨_, _, h⟩)
    ·exact absurd hcap h
    ·exact absurd hok h
    obtain ⟨S, f, m, t, L, h1, h2, h3⟩ := h
    exact ⟨⟨S, h1⟩, f, m, t, L, h2, h3⟩)
theorem Hq {β : Bs} {ns : List aK} {X : FM} (Ph : ¬ (oV X ∧ bL ns)) (B : Option Addr) (cp : Nat) (hl : ns.length ≤ 1048576) (hd : ∀ i, i < ns.length → (nd ns i).data.length ≤ 1048576 ∧ (nd ns i).ah.length ≤ 1048576) (hwf : ∀ i, i < ns.length → ∀ j, j < (nd ns i).ah.length → -9223372036854775808 ≤ (ent ns i j).id ∧ (ent ns i j).id ≤ 9223372036854775807) (hnm : ∀ i, i < ns.length → ∀ j, j < (nd ns i).ah.length → (ent ns i j).name.size ≤ 1048576) :
    Spec Tryz.prog β 9 #[.agg #[.slice B ns.length cp], .agg #[.int .i64 X.cN, .int .i64 X.cB, .int .i64 X.cH, .int .i64 X.cS, .int .i64 X.cZ]] [.abs (mw β (fun β' => ∃ K, aD β' B ns K))] (fun v l => ∃ e : Kb, v = .tuple #[.pointer none, .int .i64 e.1] ∧ l = []) :=
  Spec.EK fun _ _ ⟨K, hG⟩ => (zP B cp ns K hG hl hd hwf hnm X).mono (by
    rintro v l (⟨_, h1, h2⟩ | ⟨_, _, h1, h2⟩ | ⟨h1, h2, _⟩)
    ·exact ⟨⟨179, by decide⟩, h1, h2⟩
    ·exact ⟨⟨140, by decide⟩, h1, h2⟩
    exact absurd ⟨h1, h2⟩ Ph)
theorem Fu {β : Bs} (S : aE) (L : HL) (f m t : Nat) : dV Tryz.prog β 18 #[vP f] [pF f m t S.X, pT t S.X.cH S.aq L S.us] (fun β' v l => ∃ A c, v = .slice A S.us.length c ∧ l = [pF f m t S.X, pT t S.X.cH S.aq L S.us] ∧ fF β' A (ints (keys S.us))) :=
  (He S L f m t).Fm (by
    rintro v l ⟨A, c, rfl, rfl⟩
    refine ⟨[_, _], _, rfl, fun β' h => ⟨A, c, rfl, rfl, ?_⟩⟩
    obtain ⟨F, h1, h2⟩ := h.get 0 rfl
    exact fF.kM h1 h2 rfl)
theorem sD (us : Used Th) : us.length = (keys us).length := (List.length_map ..).symm
theorem Db : ∀ {l : List Int} {a p : Int}, TabM.bV l → (∀ x ∈ l, a ≤ x ∧ x ≤ p) → a ≤ p + 1 → (l.length : Int) ≤ p - a + 1
  | [], a, p, _, _, h => by
    show ((0 : Nat) : Int) ≤ _
    omega
  | x :: r, a, p, hr, h, _ => by
    obtain ⟨h1, h2⟩ := List.pairwise_cons.1 hr
    have h3 := h x List.mem_cons_self
    have := Db (l := r) (a := x + 1) (p := p) h2 (fun y hy => ⟨by have := h1 y hy; omega, (h y (List.mem_cons_of_mem _ hy)).2⟩) (by omega)
    rw [List.length_cons]
    omega
theorem KU {S : aE} (h : Inv0 S) : (S.us.length : Int) ≤ S.aq := by
  have h1 := Db (l := keys S.us) (a := 1) (p := S.aq) h.usr h.s5 (by have := h.aq; omega)
  rw [← sD] at h1
  omega
theorem Hr {S : aE} (h : Inv0 S) : ∀ i, i < (ax S).length → ∀ j, j < (nd (ax S) i).ah.length → -9223372036854775808 ≤ (ent (ax S) i j).id ∧ (ent (ax S) i j).id ≤ 9223372036854775807 := fun i hi j hj => by
  rw [dr] at hi
  obtain ⟨hj2, e⟩ := nW hi hj
  have hl := (qh h hi hj2).1
  have h1 := (h.ob _ hl).1
  have h2 := h.idx _ _ hl
  have h3 := h.last
  rw [e]
  show -9223372036854775808 ≤ (obj S.O _).id ∧ (obj S.O _).id ≤ _
  omega
theorem Hs {S : aE} (h : Inv0 S) : ∀ i, i < (ax S).length → ∀ j, j < (nd (ax S) i).ah.length → (ent (ax S) i j).name.size ≤ 1048576 := fun i hi j hj => by
  rw [dr] at hi
  obtain ⟨hj2, e⟩ := nW hi hj
  rw [e]
  exact Nat.le_trans (qh h hi hj2).2.1.2.1 (by decide)
theorem Ht {S : aE} (h : Inv0 S) : S.X.used = ((bP (ax S) (ax S).length : Nat) : Int) ∧ bP (ax S) (ax S).length ≤ 140737488355328 := by
  rw [dr, C6]
  have := h.used
  omega
theorem Dc {S : aE} (h : Inv0 S) : (ax S).length ≤ 1048576 := by
  rw [dr]
  have := h.len
  omega
end
end Go.Proofs.YtkiedlmhocglhaaGreatDoor
