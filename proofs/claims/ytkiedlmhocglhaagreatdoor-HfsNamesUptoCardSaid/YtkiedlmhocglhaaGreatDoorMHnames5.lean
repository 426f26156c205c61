/-
  PROVED HERE: lemmas and contracts of functions (texts of this repo, joined; what the claim does not use is left out): H11, HA, HB, GEnter, GR, GRead, GP, GOk, Nw, H12, Lw, LA, Row.
  CONDITIONS: as the theorems say.
-/
import Derived.Test.YtkiedlmhocglhaaGreatDoorMHnames4
import Derived.Test.YtkiedlmhocglhaaGreatDoorRows
import Derived.ProofKit
import Derived.OpenShut
import Derived.Carry
import Derived.Deep.Slices
set_option maxRecDepth 100000
set_option maxHeartbeats 4000000
namespace Go.Proofs.YtkiedlmhocglhaaGreatDoor
section
open Go.RowKit Go.Maps HeapM TabM
attribute [local irreducible] aj aT af ai
abbrev JL := (.abs (aH 5 1 none 0 0 ([])) : HP)
abbrev DP (B) (d : List UInt8) (cap) := (.abs (aH 5 1 B d.length cap (bL d)) : HP)
abbrev JM (A7 : Option Addr) (S : aG) (c8 : Nat) := (.abs (aH 3 1 A7 ((keys S.idx).length) c8 (ints (keys S.idx))) : HP)
abbrev DQ (b4 : Nat) := (.blk b4 [.slice none (0) (0)] 24 : HP)
abbrev LX (b5 : Nat) (An : Option Addr) (i : Nat) (cn : Nat) := (.blk b5 [.slice An (i) (cn)] 24 : HP)
abbrev LY (An : Option Addr) (i : Nat) (cn : Nat) (K) (S : aG) := (.abs (aH 70 10 An i cn (cg K ((aO S).take i))) : HP)
abbrev vA (S : aG) (i : Nat) (K) := (.abs (dY (gS ((aO S).take i) K) i) : HP)
abbrev Cy (S : aG) (i : Nat) (K) := (.abs (dY (gu ((aO S).take i) K) i) : HP)
abbrev kP (b10 : Nat) := (.blk b10 [vI 0, vI 0, vI 0, vI 0, vI 0, vI 0, vI 0, .slice none (0) (0), .string ⟨#[]⟩, .slice none (0) (0)] 70 : HP)
abbrev LZ (b9 : Nat) (S : aG) (i : Nat) (tk : Nat) := (.blk b9 [vI ((bY S i)), vI 1, vI ((obj S.O tk).mode), vI ((obj S.O tk).uid), vI ((obj S.O tk).gid), vI ((obj S.O tk).sec), vI ((obj S.O tk).nano), .slice none (0) (0), .string ⟨#[]⟩, .slice none (0) (0)] 70 : HP)
abbrev sB (b5 : Nat) (qw : Option Addr) (i : Nat) (c16 : Nat) := (.blk b5 [.slice qw ((i + 1)) (c16)] 24 : HP)
abbrev zo (b9 : Nat) (S : aG) (i : Nat) (tk : Nat) (jU : Option Addr) (c13 : Nat) := (.blk b9 [vI ((bY S i)), vI 1, vI ((obj S.O tk).mode), vI ((obj S.O tk).uid), vI ((obj S.O tk).gid), vI ((obj S.O tk).sec), vI ((obj S.O tk).nano), .slice jU ((obj S.O tk).data.length) (c13), .string ⟨#[]⟩, .slice none (0) (0)] 70 : HP)
abbrev EU := (.abs (aH 101 2 none 0 0 ([])) : HP)
abbrev iV (S : aG) (L : HL) (tk : Nat) := (.abs (ak (iC (bg S.O L) tk bR.none)) : HP)
abbrev pS (L : HL) (tk : Nat) (S : aG) := (.abs (aI Tryz.prog 9 (L.m tk) (fR L (obj S.O tk).ah) ((obj S.O tk).ah.length)) : HP)
abbrev lC (b17 : Nat) (S : aG) (i : Nat) (tk : Nat) (Ae : Option Addr) (j : Nat) (ce : Nat) := (.blk b17 [vI ((bY S i)), vI 2, vI ((obj S.O tk).mode), vI ((obj S.O tk).uid), vI ((obj S.O tk).gid), vI ((obj S.O tk).sec), vI ((obj S.O tk).nano), .slice none (0) (0), .string ⟨#[]⟩, .slice Ae (j) (ce)] 70 : HP)
abbrev EV (Ae : Option Addr) (j : Nat) (ce : Nat) (S : aG) (tk : Nat) := (.abs (aH 101 2 Ae j ce (fo (((obj S.O tk).ah.take j).map (jO S.O)))) : HP)
abbrev qJ (b20 : Nat) (L : HL) (tk : Nat) := (.blk b20 [.map (some (L.m tk))] 97 : HP)
abbrev qK (cR : Option Addr) (S : aG) (tk : Nat) (dH : Nat) := (.abs (aH 9 1 cR ((obj S.O tk).ah.length) dH (mA (obj S.O tk).ah)) : HP)
abbrev zq (ou : Option Addr) (j : Nat) (ox : Nat) (S : aG) (tk : Nat) := (.abs (aH 101 2 ou (j + 1) ox (fo (((obj S.O tk).ah.take (j + 1)).map (jO S.O)))) : HP)
abbrev zu (x3 : Nat) (S : aG) (tk : Nat) (j : Nat) (ek : Nat) := (.blk x3 [.string (dO (obj S.O tk).ah j), vI ((obj S.O ek).id)] 101 : HP)
abbrev EW (oy : Option Addr) (i : Nat) (oz : Nat) (K : Lay) (S : aG) := (.abs (aH 70 10 oy (i + 1) oz (cg (K.put i none 0 none 0) ((aO S).take (i + 1)))) : HP)
abbrev ur (gV : Nat) (S : aG) (i : Nat) (tk : Nat) := (.blk gV [vI ((bY S i)), vI 3, vI ((obj S.O tk).mode), vI ((obj S.O tk).uid), vI ((obj S.O tk).gid), vI ((obj S.O tk).sec), vI ((obj S.O tk).nano), .slice none (0) (0), .string (obj S.O tk).target, .slice none (0) (0)] 70 : HP)
abbrev iW (f : Nat) (b4 : Nat) (b5 : Nat) (b17 : Nat) (L : HL) (tk : Nat) (A7 : Option Addr) (S : aG) (c8 : Nat) (i : Nat) (cR : Option Addr) (dH : Nat) (j : Nat) := ([(0, vP f), (2, vP b4), (3, vP b5), (8, vP b17), (11, vP (L.b tk)), (19, .slice A7 ((keys S.idx).length) (c8)), (20, vI ↑((keys S.idx).length)), (21, vI ↑i), (79, .slice cR ((obj S.O tk).ah.length) (dH)), (80, vI ↑((obj S.O tk).ah.length)), (81, vI ↑j)] : Fr)
abbrev cO (b5 : Nat) (An : Option Addr) (i : Nat) (cn : Nat) (K) (S : aG) (A7 : Option Addr) (c8 : Nat) (b4 : Nat) (f : Nat) (m : Nat) (t) (L : HL) := ([LX b5 An i cn, LY An i cn K S, vA S i K, Cy S i K, JM A7 S c8, DQ b4, pF f m t S.X, pI m L S.idx, pO S.O L, pD S.O L] : List HP)
abbrev iX (S : aG) (tk : Nat) := ([(39, vI ((obj S.O tk).mode)), (43, vI ((obj S.O tk).uid)), (47, vI ((obj S.O tk).gid)), (51, .agg #[vI ((obj S.O tk).sec), vI ((obj S.O tk).nano)])] : Fr)
abbrev fS (f : Nat) (b4 : Nat) (b5 : Nat) := ([(0, vP f), (2, vP b4), (3, vP b5)] : Fr)
abbrev jQ (b10 : Nat) (A7 : Option Addr) (S : aG) (c8 : Nat) (i : Nat) := ([(8, vP b10), (19, .slice A7 ((keys S.idx).length) (c8)), (20, vI ↑((keys S.idx).length)), (21, vI ↑i), (33, vI ((bY S i)))] : Fr)
abbrev qL (A7 : Option Addr) (S : aG) (c8 : Nat) (i : Nat) := ([(19, .slice A7 ((keys S.idx).length) (c8)), (20, vI ↑((keys S.idx).length)), (21, vI ↑i)] : Fr)
abbrev mD (b17 : Nat) (S : aG) (i : Nat) (tk : Nat) (Ae : Option Addr) (j : Nat) (ce : Nat) (L : HL) (b20 : Nat) (cR : Option Addr) (dH : Nat) := ([lC b17 S i tk Ae j ce, EV Ae j ce S tk, pS L tk S, qJ b20 L tk, qK cR S tk dH] : List HP)
abbrev og (Ae : Option Addr) (j : Nat) (ce : Nat) (S : aG) (tk : Nat) := ([(86, .slice Ae (j) (ce)), (87, .string (dO (obj S.O tk).ah j))] : Fr)
abbrev zw (A7 : Option Addr) (S : aG) (c8 : Nat) (i : Nat) := ([(19, .slice A7 ((keys S.idx).length) (c8)), (20, vI ↑((keys S.idx).length)), (21, vI ↑i)] : Fr)
abbrev IJ (S : aG) (tk : Nat) := ([(2, vI ((obj S.O tk).mode)), (3, vI ((obj S.O tk).uid)), (4, vI ((obj S.O tk).gid)), (5, vI ((obj S.O tk).sec)), (6, vI ((obj S.O tk).nano))] : Fr)
abbrev IK (S : aG) (tk : Nat) := ([(39, vI ((obj S.O tk).mode)), (43, vI ((obj S.O tk).uid)), (47, vI ((obj S.O tk).gid)), (51, .agg #[vI ((obj S.O tk).sec), vI ((obj S.O tk).nano)])] : Fr)
abbrev pU (A7 : Option Addr) (S : aG) (c8 : Nat) (b4 : Nat) (f : Nat) (m : Nat) (t) (L : HL) := ([JM A7 S c8, DQ b4, pF f m t S.X, pI m L S.idx, pO S.O L] : List HP)
theorem zx {β : Bs} (c : Nat) : Spec Tryz.prog β 35 #[.slice none 0 c] [] (fun v l => ∃ B cap, v = .slice B 0 cap ∧ l = [.abs (aH 5 1 B 0 cap [])]) := by
 refine Spec.enter Tryz.func35 rfl Tryz.ntmps35 (Nat.le_of_ble_eq_true rfl) (fun R => ?_)
 refine SR ?_
 refine gK 1 [] [] ?_
 refine NN (af.seq (SR ?_))
 refine gK 2 [(4, .bool true)] [] ?_
 refine NN ?_
 refine CT ?_
 refine SR ?_
 refine gK 1 [(2, .slice none (0) (0))] [] ?_
 refine NN (af.ret (ai.aq ?_))
 refine ai.mem (fun w hS => (hS.jD (e := 5) (size := 1)).pick (idx := [1, 0]) (l' := [JL, .abs R]) rfl (by kernel_rfl)) ?_
 exact RT (.slice none (0) (0)) [0, 1] (⟨none, 0, rfl, rfl⟩)
theorem x5 {β : Bs} (a : Addr) (c : Nat) (d : List UInt8) (hA : bJ β (some a) d) (hl : d.length ≤ 140737488355328) : Spec Tryz.prog β 35 #[.slice (some a) d.length c] [] (fun v l => ∃ B cap, v = .slice B d.length cap ∧ l = [DP B d cap]) := by
 refine Spec.enter Tryz.func35 rfl Tryz.ntmps35 (Nat.le_of_ble_eq_true rfl) (fun R => ?_)
 refine SR ?_
 refine gK 1 [] [] ?_
 refine NN (af.seq (SR ?_))
 refine gK 2 [(4, .bool false)] [] ?_
 refine NN ?_
 refine CF ?_
 refine af.skip (NX (SR ?_))
 refine gN 1 (fun b1 => [(5, .slice (some ⟨b1, 0, none⟩) (0) (0))]) (fun _ => []) (fun _ => []) (fun b1 => .blk b1 [] 5) (fun b1 => ?_)
 refine aj.mem (fun w hS => hS.rJ (i := 1) (b := b1) (cs := []) (e := 5) 1 0 (by kernel_rfl) rfl (by decide)) ?_
 refine gK 1 [(6, .slice (some a) (d.length) (c))] [] ?_
 refine aj.append 1 (d := (some 7)) (t := 41) (e := 5) (z := .int .u8 0) (size := 1) (bytes := 1) (n := 0) (cap := 0) (A := some ⟨b1, 0, none⟩) (xs := []) (s := (.tmp 5)) (x := (.tmp 6)) (ats := #[41, 41]) (A' := (some a)) (m := d.length) (c' := c) (news := (bL d)) (fun _ => by kernel_rfl) rfl (by kernel_rfl) (fun _ => by kernel_rfl) (fun _ => by kernel_rfl) Tryz.underlying41 (by kernel_rfl) rfl (by decide) (by rw [oF, Nat.mul_one]) (kU d) (hA.src) (by unfold maxLen; omega) (by omega) (fun A2 c3 => ?_)
 refine aj.eO 1 (p := .abs (aH 5 1 A2 (0 + d.length) c3 ([] ++ (bL d)))) (p' := .abs (aH 5 1 A2 d.length c3 (bL d))) (by kernel_rfl) (by rw [Nat.zero_add, List.nil_append]) ?_
 refine aj.slot 7 (.slice A2 (0 + d.length) (c3)) (.slice A2 (d.length) (c3)) (fun _ => by kernel_rfl) (by rw [Nat.zero_add]) ?_
 refine gK 1 [(2, .slice A2 (d.length) (c3))] [] ?_
 refine NN (af.ret ?_)
 exact RT (.slice A2 (d.length) (c3)) [1, 0] (⟨A2, c3, rfl, rfl⟩)
theorem vB {β : Bs} (A : Option Addr) (c : Nat) (d : List UInt8) (hA : bJ β A d) (hl : d.length ≤ 140737488355328) : Spec Tryz.prog β 35 #[.slice A d.length c] [] (fun v l => ∃ B cap, v = .slice B d.length cap ∧ l = [DP B d cap]) := by
  cases A with
  | some a => exact x5 a c d hA hl
  | none =>
    cases d with
    | nil => exact zx c
    | cons b r => have h := bJ.hd hA (j := 0) (by simp); cases h
theorem Cz {β : Bs} (A : Option Addr) (c : Nat) (d : List UInt8) (hl : d.length ≤ 140737488355328) : Spec Tryz.prog β 35 #[.slice A d.length c] [DP A d c] (fun v l => ∃ B cap, v = .slice B d.length cap ∧ l = [DP B d cap, DP A d c]) :=
  (Spec.yL (pre := []) (R := [DP A d c]) (fun _ h => vB A c d h.bytes hl)).mono (by rintro v l ⟨l0, ⟨B, cap, rfl, rfl⟩, rfl⟩; exact ⟨B, cap, rfl, rfl⟩)
theorem CA {β : Bs} (L : HL) (b bk : Nat) (idx : Used Th) (hr : TabM.cq (keys idx)) (hn : idx.length ≤ 4096) :
    Spec Tryz.prog β 40 #[wZ bk] [pI b L idx, .blk bk [.map (some b)] 80] (fun v l => ∃ A cap, v = .slice A (keys idx).length cap ∧ l = [pI b L idx, .blk bk [.map (some b)] 80, .abs (aH 3 1 A (keys idx).length cap (ints (keys idx)))]) :=
  (Ea b bk idx.length (aM (aJ L idx)) (by omega)).mono (by
    rintro v l ⟨A, cap, ss, rfl, hk, _, rfl⟩
    have e := J8 (us := aJ L idx) (by rw [v7]; exact hr) hk
    rw [v7] at e
    subst e
    exact ⟨A, cap, rfl, rfl⟩)
theorem Ai {β : Bs} (S : aG) (L : HL) (f m t : Nat) (hI : Inv S) :
    Spec Tryz.prog β 15 #[vP f] [pF f m t S.X, pI m L S.idx, pO S.O L, pD S.O L, pE S.O L] (fun v l => ∃ A c K, v = .agg #[.slice A (aO S).length c] ∧ l = [pF f m t S.X, pI m L S.idx, pO S.O L, pD S.O L, pE S.O L] ++ EP A c (aO S) K) := by
 have hX := hI.hX
 have hkl : (keys S.idx).length = S.idx.length := wj _
 have hil := hI.len
 refine Spec.enter Tryz.func15 rfl Tryz.ntmps15 (Nat.le_of_ble_eq_true rfl) (fun R => ?_)
 refine SR ?_
 refine gN 1 (fun b4 => [(2, vP b4)]) (fun _ => []) (fun _ => []) (fun b4 => .blk b4 [.slice none (0) (0)] 24) (fun b4 => ?_)
 refine NS ?_
 refine gN 1 (fun b5 => [(3, vP b5)]) (fun _ => []) (fun _ => []) (fun b5 => .blk b5 [.slice none (0) (0)] 24) (fun b5 => ?_)
 refine NN (af.seq (SR ?_))
 refine gK 4 [(17, .map (some m))] [(3, a_ 0 f)] ?_
 refine gL [] (HE (some m)) ?_
 rintro _ _ ⟨b6, rfl, rfl⟩
 refine gL [2, 0] (CA L m b6 S.idx hI.rise hI.len) ?_
 rintro _ _ ⟨A7, c8, rfl, rfl⟩
 refine gK 1 [(20, vI ↑((keys S.idx).length))] [] ?_
 refine aj.mem (fun w hS => hS.jD (e := 70) (size := 10)) ?_
 refine aj.mem (aR := [pI m L S.idx, .blk b6 [.map (some m)] 80, JM A7 S c8, pF f m t S.X, pO S.O L, pD S.O L, pE S.O L, .abs R, DQ b4, DQ b5, .abs (aH 70 10 none 0 0 ([])), .abs (dY (gS [] zm) 0)]) (fun w hS => hS.Fx (gS [] zm)) ?_
 refine aj.mem (aR := [pI m L S.idx, .blk b6 [.map (some m)] 80, JM A7 S c8, pF f m t S.X, pO S.O L, pD S.O L, pE S.O L, .abs R, DQ b4, DQ b5, .abs (aH 70 10 none 0 0 ([])), .abs (dY (gS [] zm) 0), .abs (dY (gu [] zm) 0)]) (fun w hS => hS.Fx (gu [] zm)) ?_
 refine gK 1 [(21, vI 0)] [] ?_
 refine NN (af.block ?_)
 refine af.loop (ι := Nat × (Option Addr) × Nat × Lay) (fun ((i, An, cn, K) : Nat × (Option Addr) × Nat × Lay) => (i ≤ S.idx.length)) (fun ((i, An, cn, K) : Nat × (Option Addr) × Nat × Lay) => S.idx.length - i) (fun ((i, An, cn, K) : Nat × (Option Addr) × Nat × Lay) => (fS f b4 b5 ++ qL A7 S c8 i)) (fun ((i, An, cn, K) : Nat × (Option Addr) × Nat × Lay) => (cO b5 An i cn K S A7 c8 b4 f m t L ++ [pE S.O L, .abs R])) (0, none, 0, zm) (idx := [0, 2, 3, 19, 20, 21]) (pk := [9, 10, 11, 12, 2, 8, 3, 0, 4, 5, 6, 7]) (show (0 ≤ S.idx.length) from (Nat.zero_le _)) (fun _ => by kernel_rfl) rfl (by kernel_rfl) ?_
 rintro ⟨i, An, cn, K⟩ hi
 show af _ _ _ _ (fS f b4 b5 ++ qL A7 S c8 i) (cO b5 An i cn K S A7 c8 b4 f m t L ++ [pE S.O L, .abs R]) _
 refine SR ?_
 refine gK 1 [(22, .bool (decide ((((i : Nat) : Int) : Int) < ((((keys S.idx).length : Nat) : Int) : Int))))] [] ?_
 refine NN (af.seq ?_)
 refine af.bB (p := (((i : Nat) : Int) : Int) < ((((keys S.idx).length : Nat) : Int) : Int)) (fun _ => by kernel_rfl) (fun JG => ?_) (fun JG => ?_)
 ·have hi2 : i < S.idx.length := by omega
  refine af.skip (NX (af.seq (af.block (SR ?_))))
  refine aj.tell (p := (A7 = some ⟨ax A7, av A7, none⟩)) (fun w hS => let ⟨F, h⟩ := hS.get (i := 4) rfl; (aH.DV h (by omega)).1) (fun hAk => ?_)
  refine gK 3 [(5, vI ((bY S i)))] [(0, p_ ⟨[], some i, none, some ⟨(ax A7), av A7, none⟩, none⟩ [((i : Nat) : Int) = ((i : Nat) : Int), i < (keys S.idx).length, (⟨(ax A7), av A7, none⟩ : Addr).spot = none, (A7 : Option Addr) = some ⟨(ax A7), av A7, none⟩] ⟨rfl, by omega, rfl, hAk, trivial⟩), (1, p_ ⟨[.view 4 (.int .i64 ((bY S i)))], none, none, none, none⟩ [(∀ F w, (aH 3 1 A7 ((keys S.idx).length) c8 (ints (keys S.idx))).h F w → w.cell? ⟨(ax A7), av A7 + i * 1, none⟩ = some (vI ((bY S i))))] ⟨aH.cellAt (i := i) (j := 0) (by omega) (II hi2), trivial⟩)] ?_
  refine NN (af.seq ?_)
  have Ql := (DL hI.toInv0 hi2).1
  have hget := get_at hI.toInv0 hi2
  rcases Nc hI.toInv0 hi2 with ⟨tk, jk, hlv⟩ | ⟨tk, jk, hlv⟩ | ⟨tk, jk, hlv⟩
  ·have hkt : (obj S.O tk).kind = 1 := hI.kind hlv
   have hel : (obj S.O tk).ah.length ≤ 8192 := hI.eM hlv
   have hdl : (obj S.O tk).data.length ≤ 140737488355328 := hI.Ec hlv
   refine af.region ?_
   refine gK 5 [(28, .map (some m)), (29, vI ((bY S i)))] [(3, a_ 6 f)] ?_
   refine aj.dI 7 (d := (some 30)) (t := 80) (K := 3) (E := 84) (b := m) (n := S.idx.length) (f := (aM (aJ L S.idx))) (x := (.tmp 28)) (ix := (.tmp 29)) (key := .int .i64 ((bY S i))) (z := .nilIface) (kl := (.int .i64 (bY S i))) (r := (some (cI L ⟨tk, 1⟩))) (fun _ => by kernel_rfl) (by kernel_rfl) (fun _ => by kernel_rfl) (fun _ => by kernel_rfl) dr Tryz.underlying80 (fun _ => by kernel_rfl) (gG (zn hI.toInv0 hi2)) (by rw [dJ, hget, jk]; rfl) ?_
   refine gK 1 [(6, .iface 89 (vP (L.b tk)))] [] ?_
   refine NS ?_
   refine gK 1 [(31, .iface 89 (vP (L.b tk)))] [] ?_
   refine gL [] (cr (L.b tk)) ?_
   rintro _ _ ⟨rfl, rfl⟩
   refine gK 1 [(7, vP (L.b tk))] [] ?_
   refine NN (af.seq ?_)
   refine af.oP (S := [pO S.O L]) [0, 1, 3, 4, 5, 6, 7, 8, 9, 10, 11, 12, 13, 14, 15, 16, 17, 18] [.three 2 19 20, .one 21] [8] (by kernel_rfl) (by kernel_rfl) rfl (by kernel_rfl) ?_
   refine fL.reads (rs := []) (fr' := ([(0, vP f), (2, vP b4), (3, vP b5), (6, .iface 89 (vP (L.b tk)))] ++ zw A7 S c8 i ++ [(33, vI (bY S i)), (34, .iface 89 (vP (L.b tk)))] ++ IK S tk)) (aV := [(∀ F w, (ak (aN S.O L)).h F w → w.cell? ⟨(L.b tk), 5, none⟩ = some (vI ((obj S.O tk).nano))), (∀ F w, (ak (aN S.O L)).h F w → w.cell? ⟨(L.b tk), 4, none⟩ = some (vI ((obj S.O tk).sec))), (∀ F w, (ak (aN S.O L)).h F w → w.cell? ⟨(L.b tk), 3, none⟩ = some (vI ((obj S.O tk).gid))), (∀ F w, (ak (aN S.O L)).h F w → w.cell? ⟨(L.b tk), 2, none⟩ = some (vI ((obj S.O tk).uid))), (∀ F w, (ak (aN S.O L)).h F w → w.cell? ⟨(L.b tk), 1, none⟩ = some (vI ((obj S.O tk).mode)))]) [0, 1, 3, 4, 5, 6, 7, 8, 9, 10, 11, 12, 13, 14, 15, 16, 17, 18] [o_, o_, o_, o_, o_, ⟨[.view 0 (.int .i64 ((obj S.O tk).mode))], none, none, none, none⟩, o_, o_, o_, ⟨[.view 0 (.int .i64 ((obj S.O tk).uid))], none, none, none, none⟩, o_, o_, o_, ⟨[.view 0 (.int .i64 ((obj S.O tk).gid))], none, none, none, none⟩, o_, o_, o_, ⟨[.view 0 (.int .i64 ((obj S.O tk).sec)), .view 0 (.int .i64 ((obj S.O tk).nano))], none, none, none, none⟩] [0, 2, 3, 6, 19, 20, 21, 33, 34, 39, 43, 47, 51] (fun _ => by kernel_rfl) ⟨bq (by rw [hkt]; decide) (rfl), bq (by rw [hkt]; decide) (rfl), bq (by rw [hkt]; decide) (rfl), bq (by rw [hkt]; decide) (rfl), bq (by rw [hkt]; decide) (rfl), trivial⟩ ?_
   refine fL.three (ι := Nat) (fa := fun (_ : Unit) => (fS f b4 b5 ++ [(6, .iface 89 (vP (L.b tk)))] ++ qL A7 S c8 i ++ [(33, vI ((bY S i))), (35, vI 1)] ++ iX S tk)) (ha := fun (_ : Unit) => (cO b5 An i cn K S A7 c8 b4 f m t L ++ [pE S.O L, .abs R])) (Gv := Unit) (fb := fun (_ : Unit) => (fS f b4 b5 ++ [(6, .iface 89 (vP (L.b tk)))] ++ qL A7 S c8 i ++ [(52, .agg #[vI ((bY S i)), vI 1, vI ((obj S.O tk).mode), vI ((obj S.O tk).uid), vI ((obj S.O tk).gid), vI ((obj S.O tk).sec), vI ((obj S.O tk).nano), .slice none (0) (0), .string ⟨#[]⟩, .slice none (0) (0)])])) (hb := fun (_ : Unit) => (cO b5 An i cn K S A7 c8 b4 f m t L ++ [pE S.O L, .abs R])) (Gw := Unit) (fc := fun (b10 : Nat) => (fS f b4 b5 ++ [(6, .iface 89 (vP (L.b tk)))] ++ jQ b10 A7 S c8 i ++ [(35, vI 1)] ++ iX S tk)) (hc := fun (b10 : Nat) => (cO b5 An i cn K S A7 c8 b4 f m t L ++ [pE S.O L, .abs R, kP b10])) (Gx := Nat) (fd := fun (b11 : Nat) => (fS f b4 b5 ++ [(6, .iface 89 (vP (L.b tk)))] ++ jQ b11 A7 S c8 i ++ [(34, .iface 89 (vP (L.b tk)))] ++ iX S tk)) (hd := fun (b11 : Nat) => (cO b5 An i cn K S A7 c8 b4 f m t L ++ [pE S.O L, .abs R, kP b11])) (Gy := Nat) (fe := fun (b11 : Nat) => (fS f b4 b5 ++ [(6, .iface 89 (vP (L.b tk)))] ++ jQ b11 A7 S c8 i ++ [(35, vI 1)] ++ iX S tk)) (he := fun (b11 : Nat) => (cO b5 An i cn K S A7 c8 b4 f m t L ++ [pE S.O L, .abs R, kP b11])) (Gz := Nat) (fr' := fun (b9 : Nat) => ([(0, vP f), (2, vP b4), (3, vP b5), (6, .iface 89 (vP (L.b tk))), (8, vP b9)] ++ zw A7 S c8 i ++ [(52, .agg #[vI (bY S i), vI 1, vI ((obj S.O tk).mode), vI ((obj S.O tk).uid), vI ((obj S.O tk).gid), vI ((obj S.O tk).sec), vI ((obj S.O tk).nano), .slice none (0) (0), .string ⟨#[]⟩, .slice none (0) (0)])])) (hp' := fun (b9 : Nat) => (cO b5 An i cn K S A7 c8 b4 f m t L ++ [pE S.O L, .abs R, kP b9])) [8] [8] [8] [8] [8] [8] rfl rfl rfl rfl rfl rfl ?_ ?_ ?_ ?_ ?_ ?_ ?_ ?_ rfl (fun _ => by kernel_rfl) rfl (fun _ => by kernel_rfl) rfl (fun _ => by kernel_rfl) rfl (fun _ => by kernel_rfl) rfl (fun _ => by kernel_rfl) rfl (fun _ => by kernel_rfl) ?_
   ·refine gL [] (jw (vP (L.b tk))) ?_
    rintro _ _ ⟨rfl, rfl⟩
    refine NL ?_
    exact MD () [0, 2, 3, 6, 19, 20, 21, 33, 35, 39, 43, 47, 51] [0, 1, 2, 3, 4, 5, 6, 7, 8, 9, 10, 11]
   ·rintro _
    refine gK 1 [(52, .agg #[vI ((bY S i)), vI 1, vI ((obj S.O tk).mode), vI ((obj S.O tk).uid), vI ((obj S.O tk).gid), vI ((obj S.O tk).sec), vI ((obj S.O tk).nano), .slice none (0) (0), .string ⟨#[]⟩, .slice none (0) (0)])] [] ?_
    refine NL ?_
    exact MD () [0, 2, 3, 6, 19, 20, 21, 52] [0, 1, 2, 3, 4, 5, 6, 7, 8, 9, 10, 11]
   ·rintro _
    refine gN 1 (fun b9 => [(8, vP b9)]) (fun _ => []) (fun _ => []) (fun b9 => .blk b9 [vI 0, vI 0, vI 0, vI 0, vI 0, vI 0, vI 0, .slice none (0) (0), .string ⟨#[]⟩, .slice none (0) (0)] 70) (fun b9 => ?_)
    refine NL ?_
    exact MD b9 [0, 2, 3, 6, 8, 19, 20, 21, 52] [0, 1, 2, 3, 4, 5, 6, 7, 8, 9, 10, 11, 12]
   ·rintro _
    refine gN 1 (fun b10 => [(8, vP b10)]) (fun _ => []) (fun _ => []) (fun b10 => .blk b10 [vI 0, vI 0, vI 0, vI 0, vI 0, vI 0, vI 0, .slice none (0) (0), .string ⟨#[]⟩, .slice none (0) (0)] 70) (fun b10 => ?_)
    refine NL ?_
    exact MD b10 [0, 2, 3, 6, 8, 19, 20, 21, 33, 35, 39, 43, 47, 51] [0, 1, 2, 3, 4, 5, 6, 7, 8, 9, 10, 11, 12]
   ·rintro b10
    show aj _ _ _ _ _ (fS f b4 b5 ++ [(6, .iface 89 (vP (L.b tk)))] ++ jQ b10 A7 S c8 i ++ [(35, vI 1)] ++ iX S tk) (cO b5 An i cn K S A7 c8 b4 f m t L ++ [pE S.O L, .abs R, kP b10]) _
    refine gK 1 [(52, .agg #[vI ((bY S i)), vI 1, vI ((obj S.O tk).mode), vI ((obj S.O tk).uid), vI ((obj S.O tk).gid), vI ((obj S.O tk).sec), vI ((obj S.O tk).nano), .slice none (0) (0), .string ⟨#[]⟩, .slice none (0) (0)])] [] ?_
    refine NL ?_
    exact MD b10 [0, 2, 3, 6, 8, 19, 20, 21, 52] [0, 1, 2, 3, 4, 5, 6, 7, 8, 9, 10, 11, 12]
   ·refine gN 1 (fun b11 => [(8, vP b11)]) (fun _ => []) (fun _ => []) (fun b11 => .blk b11 [vI 0, vI 0, vI 0, vI 0, vI 0, vI 0, vI 0, .slice none (0) (0), .string ⟨#[]⟩, .slice none (0) (0)] 70) (fun b11 => ?_)
    refine NL ?_
    exact MD b11 [0, 2, 3, 6, 8, 19, 20, 21, 33, 34, 39, 43, 47, 51] [0, 1, 2, 3, 4, 5, 6, 7, 8, 9, 10, 11, 12]
   ·rintro b11
    show aj _ _ _ _ _ (fS f b4 b5 ++ [(6, .iface 89 (vP (L.b tk)))] ++ jQ b11 A7 S c8 i ++ [(34, .iface 89 (vP (L.b tk)))] ++ iX S tk) (cO b5 An i cn K S A7 c8 b4 f m t L ++ [pE S.O L, .abs R, kP b11]) _
    refine gL [] (jw (vP (L.b tk))) ?_
    rintro _ _ ⟨rfl, rfl⟩
    refine NL ?_
    exact MD b11 [0, 2, 3, 6, 8, 19, 20, 21, 33, 35, 39, 43, 47, 51] [0, 1, 2, 3, 4, 5, 6, 7, 8, 9, 10, 11, 12]
   ·rintro b11
    show aj _ _ _ _ _ (fS f b4 b5 ++ [(6, .iface 89 (vP (L.b tk)))] ++ jQ b11 A7 S c8 i ++ [(35, vI 1)] ++ iX S tk) (cO b5 An i cn K S A7 c8 b4 f m t L ++ [pE S.O L, .abs R, kP b11]) _
    refine gK 1 [(52, .agg #[vI ((bY S i)), vI 1, vI ((obj S.O tk).mode), vI ((obj S.O tk).uid), vI ((obj S.O tk).gid), vI ((obj S.O tk).sec), vI ((obj S.O tk).nano), .slice none (0) (0), .string ⟨#[]⟩, .slice none (0) (0)])] [] ?_
    refine NL ?_
    exact MD b11 [0, 2, 3, 6, 8, 19, 20, 21, 52] [0, 1, 2, 3, 4, 5, 6, 7, 8, 9, 10, 11, 12]
   rintro b9
   refine fL.last rfl rfl ?_
   refine gC 1 [] [(0, A_ 12 b9 10)] [(12, ([(0, vI ((bY S i))), (1, vI 1)] ++ IJ S tk))] ?_
   refine NL (ai.np (NX (af.seq (SR ?_))))
   refine gK 1 [(53, .iface 89 (vP (L.b tk)))] [] ?_
   refine NN (af.block (SR ?_))
   refine gK 3 [(55, .bool true), (56, vP (L.b tk))] [] ?_
   refine NN ?_
   refine CT ?_
   refine SR ?_
   refine gK 1 [(9, vP (L.b tk))] [] ?_
   refine NN (af.region ?_)
   refine gK 4 [(60, .slice (L.dA tk) ((obj S.O tk).data.length) ((L.dC tk)))] [(3, v_ 8 (Ls L hkt))] ?_
   refine aj.mem (aR := ([LX b5 An i cn, LY An i cn K S, vA S i K, Cy S i K] ++ pU A7 S c8 b4 f m t L ++ [Nw S L tk, pE S.O L, .abs R, LZ b9 S i tk, .abs (aH 5 1 (L.dA tk) ((obj S.O tk).data.length) (L.dC tk) (bL (obj S.O tk).data))])) (fun w hS => hS.Fz (i := 9) (k := tk) rfl hkt) ?_
   refine gL [13] (Cz (L.dA tk) (L.dC tk) (obj S.O tk).data hdl) ?_
   rintro _ _ ⟨jU, c13, rfl, rfl⟩
   refine aj.mem (aR := ([pD S.O L, .abs (aH 5 1 jU ((obj S.O tk).data.length) c13 (bL (obj S.O tk).data)), LX b5 An i cn, LY An i cn K S, vA S i K, Cy S i K] ++ pU A7 S c8 b4 f m t L ++ [pE S.O L, .abs R, LZ b9 S i tk])) (fun w hS => hS.LR (i := 11) (j := 1) (ix := [0, 2, 3, 4, 5, 6, 7, 8, 9, 10, 12, 13, 14]) rfl rfl (by kernel_rfl) rfl hkt) ?_
   refine gC 2 [] [(1, a_ 13 b9)] [(13, [(7, .slice jU ((obj S.O tk).data.length) (c13))])] ?_
   refine NL (ai.aQ (NX (af.region ?_)))
   refine gN 4 (fun b14 => [(104, .slice An (i) (cn)), (106, .slice (some ⟨b14, 0, none⟩) (1) (1))]) (fun b14 => [(1, a_ 2 b5), (2, A_ 13 b9 10)]) (fun _ => []) (fun b14 => .blk b14 [vI ((bY S i)), vI 1, vI ((obj S.O tk).mode), vI ((obj S.O tk).uid), vI ((obj S.O tk).gid), vI ((obj S.O tk).sec), vI ((obj S.O tk).nano), .slice jU ((obj S.O tk).data.length) (c13), .string ⟨#[]⟩, .slice none (0) (0)] 70) (fun b14 => ?_)
   refine aj.append 3 (d := (some 107)) (t := 22) (e := 70) (z := .agg #[vI 0, vI 0, vI 0, vI 0, vI 0, vI 0, vI 0, .slice none (0) (0), .string ⟨#[]⟩, .slice none (0) (0)]) (size := 10) (bytes := 120) (n := i) (cap := cn) (A := An) (xs := (cg K ((aO S).take i))) (s := (.tmp 104)) (x := (.tmp 106)) (ats := #[22, 22]) (A' := some ⟨b14, 0, none⟩) (m := 1) (c' := 1) (news := [vI ((bY S i)), vI 1, vI ((obj S.O tk).mode), vI ((obj S.O tk).uid), vI ((obj S.O tk).gid), vI ((obj S.O tk).sec), vI ((obj S.O tk).nano), .slice jU ((obj S.O tk).data.length) (c13), .string ⟨#[]⟩, .slice none (0) (0)]) (fun _ => by kernel_rfl) rfl (by kernel_rfl) (fun _ => by kernel_rfl) (fun _ => by kernel_rfl) Tryz.underlying22 (by kernel_rfl) rfl (by decide) (rfl) (by simp [Value.oneCell']) (lG (j := 14) rfl) (by unfold maxLen; omega) (by omega) (fun qw c16 => ?_)
   refine aj.eO 3 (p := .abs (aH 70 10 qw (i + 1) c16 ((cg K ((aO S).take i)) ++ [vI ((bY S i)), vI 1, vI ((obj S.O tk).mode), vI ((obj S.O tk).uid), vI ((obj S.O tk).gid), vI ((obj S.O tk).sec), vI ((obj S.O tk).nano), .slice jU ((obj S.O tk).data.length) (c13), .string ⟨#[]⟩, .slice none (0) (0)]))) (p' := .abs (aH 70 10 qw (i + 1) c16 (cg (K.put i jU c13 none 0) ((aO S).take (i + 1))))) (by kernel_rfl) (congrArg (fun x => HP.abs (aH 70 10 _ _ _ x)) (su (cM (by omega)) (nQ hI.toInv0 hi2 jk hlv) rfl rfl)) ?_
   refine aj.slot 107 (.slice qw (i + 1) (c16)) (.slice qw ((i + 1)) (c16)) (fun _ => by kernel_rfl) (rfl) ?_
   refine gC 2 [] [(1, a_ 2 b5)] [(2, [(0, .slice qw ((i + 1)) (c16))])] ?_
   refine NL (ai.aQ (NX (af.region ?_)))
   refine gK 2 [(21, vI ↑(i + 1))] [(0, p_ ⟨[], none, none, none, some (vI ↑(i + 1))⟩ [(Value.int .i64 (IntKind.wrap .i64 (((i : Nat) : Int) + 1))) = (.int .i64 ↑(i + 1))] ⟨bI (by omega) (by omega) (by omega), trivial⟩)] ?_
   refine NL ?_
   refine ai.mem (aR := ([pD S.O L, .abs (aH 5 1 jU ((obj S.O tk).data.length) c13 (bL (obj S.O tk).data)), sB b5 qw i c16, .abs (aH 70 10 qw (i + 1) c16 (cg (K.put i jU c13 none 0) ((aO S).take (i + 1)))), vA S i K, Cy S i K] ++ pU A7 S c8 b4 f m t L ++ [pE S.O L, .abs R, zo b9 S i tk jU c13, zo b14 S i tk jU c13, EU])) (fun w hS => hS.jD (e := 101) (size := 2)) ?_
   refine ai.mem (aR := ([.abs (dY (gu ((aO S).take (i + 1)) (K.put i jU c13 none 0)) (i + 1)), pD S.O L, sB b5 qw i c16, .abs (aH 70 10 qw (i + 1) c16 (cg (K.put i jU c13 none 0) ((aO S).take (i + 1)))), vA S i K] ++ pU A7 S c8 b4 f m t L ++ [pE S.O L, .abs R, zo b9 S i tk jU c13, zo b14 S i tk jU c13, EU])) (fun w hS => hS.oR (R' := (gu ((aO S).take (i + 1)) (K.put i jU c13 none 0))) (i := 5) (j := 1) (idx := [0, 2, 3, 4, 6, 7, 8, 9, 10, 11, 12, 13, 14, 15]) rfl rfl (by kernel_rfl) rfl (wA (cM (by omega)) (nQ hI.toInv0 hi2 jk hlv)) (um (cM (by omega)) (nQ hI.toInv0 hi2 jk hlv) rfl)) ?_
   refine ai.mem (aR := ([.abs (dY (gS ((aO S).take (i + 1)) (K.put i jU c13 none 0)) (i + 1)), .abs (dY (gu ((aO S).take (i + 1)) (K.put i jU c13 none 0)) (i + 1)), pD S.O L, sB b5 qw i c16, .abs (aH 70 10 qw (i + 1) c16 (cg (K.put i jU c13 none 0) ((aO S).take (i + 1))))] ++ pU A7 S c8 b4 f m t L ++ [pE S.O L, .abs R, zo b9 S i tk jU c13, zo b14 S i tk jU c13])) (fun w hS => hS.oR (R' := (gS ((aO S).take (i + 1)) (K.put i jU c13 none 0))) (i := 4) (j := 14) (idx := [0, 1, 2, 3, 5, 6, 7, 8, 9, 10, 11, 12, 13]) rfl rfl (by kernel_rfl) rfl (wB (cM (by omega)) (nQ hI.toInv0 hi2 jk hlv)) ((uo (cM (by omega)) (nQ hI.toInv0 hi2 jk hlv) rfl))) ?_
   exact ai.turn ((i + 1), qw, c16, (K.put i jU c13 none 0)) (idx := [0, 2, 3, 19, 20, 21]) (pk := [3, 4, 0, 1, 5, 6, 7, 8, 9, 2, 10, 11]) (show (((i + 1)) ≤ S.idx.length) from (by omega)) (by show S.idx.length - ((i + 1)) < S.idx.length - i; omega) (fun _ => by kernel_rfl) rfl (by kernel_rfl)
  ·have hkt : (obj S.O tk).kind = 2 := hI.kind hlv
   have hel : (obj S.O tk).ah.length ≤ 8192 := hI.eM hlv
   have hdl : (obj S.O tk).data.length ≤ 140737488355328 := hI.Ec hlv
   refine af.region ?_
   refine gK 5 [(28, .map (some m)), (29, vI ((bY S i)))] [(3, a_ 6 f)] ?_
   refine aj.dI 7 (d := (some 30)) (t := 80) (K := 3) (E := 84) (b := m) (n := S.idx.length) (f := (aM (aJ L S.idx))) (x := (.tmp 28)) (ix := (.tmp 29)) (key := .int .i64 ((bY S i))) (z := .nilIface) (kl := (.int .i64 (bY S i))) (r := (some (cI L ⟨tk, 2⟩))) (fun _ => by kernel_rfl) (by kernel_rfl) (fun _ => by kernel_rfl) (fun _ => by kernel_rfl) dr Tryz.underlying80 (fun _ => by kernel_rfl) (gG (zn hI.toInv0 hi2)) (by rw [dJ, hget, jk]; rfl) ?_
   refine gK 1 [(6, .iface 96 (vP (L.b tk)))] [] ?_
   refine NS ?_
   refine gK 1 [(31, .iface 96 (vP (L.b tk)))] [] ?_
   refine gL [] (cr (L.b tk)) ?_
   rintro _ _ ⟨rfl, rfl⟩
   refine gK 1 [(7, vP (L.b tk))] [] ?_
   refine NN (af.seq ?_)
   refine af.oP (S := [pO S.O L]) [0, 1, 3, 4, 5, 6, 7, 8, 9, 10, 11, 12, 13, 14, 15, 16, 17, 18] [.three 2 19 20, .one 21] [8] (by kernel_rfl) (by kernel_rfl) rfl (by kernel_rfl) ?_
   refine fL.reads (rs := []) (fr' := ([(0, vP f), (2, vP b4), (3, vP b5), (6, .iface 96 (vP (L.b tk)))] ++ zw A7 S c8 i ++ [(33, vI (bY S i)), (34, .iface 96 (vP (L.b tk)))] ++ IK S tk)) (aV := [(∀ F w, (ak (aN S.O L)).h F w → w.cell? ⟨(L.b tk), 5, none⟩ = some (vI ((obj S.O tk).nano))), (∀ F w, (ak (aN S.O L)).h F w → w.cell? ⟨(L.b tk), 4, none⟩ = some (vI ((obj S.O tk).sec))), (∀ F w, (ak (aN S.O L)).h F w → w.cell? ⟨(L.b tk), 3, none⟩ = some (vI ((obj S.O tk).gid))), (∀ F w, (ak (aN S.O L)).h F w → w.cell? ⟨(L.b tk), 2, none⟩ = some (vI ((obj S.O tk).uid))), (∀ F w, (ak (aN S.O L)).h F w → w.cell? ⟨(L.b tk), 1, none⟩ = some (vI ((obj S.O tk).mode)))]) [0, 1, 3, 4, 5, 6, 7, 8, 9, 10, 11, 12, 13, 14, 15, 16, 17, 18] [o_, o_, o_, o_, o_, ⟨[.view 0 (.int .i64 ((obj S.O tk).mode))], none, none, none, none⟩, o_, o_, o_, ⟨[.view 0 (.int .i64 ((obj S.O tk).uid))], none, none, none, none⟩, o_, o_, o_, ⟨[.view 0 (.int .i64 ((obj S.O tk).gid))], none, none, none, none⟩, o_, o_, o_, ⟨[.view 0 (.int .i64 ((obj S.O tk).sec)), .view 0 (.int .i64 ((obj S.O tk).nano))], none, none, none, none⟩] [0, 2, 3, 6, 19, 20, 21, 33, 34, 39, 43, 47, 51] (fun _ => by kernel_rfl) ⟨bq (by rw [hkt]; decide) (rfl), bq (by rw [hkt]; decide) (rfl), bq (by rw [hkt]; decide) (rfl), bq (by rw [hkt]; decide) (rfl), bq (by rw [hkt]; decide) (rfl), trivial⟩ ?_
   refine fL.three (ι := Nat) (fa := fun (_ : Unit) => (fS f b4 b5 ++ [(6, .iface 96 (vP (L.b tk)))] ++ qL A7 S c8 i ++ [(33, vI ((bY S i))), (35, vI 2)] ++ iX S tk)) (ha := fun (_ : Unit) => (cO b5 An i cn K S A7 c8 b4 f m t L ++ [pE S.O L, .abs R])) (Gv := Unit) (fb := fun (_ : Unit) => (fS f b4 b5 ++ [(6, .iface 96 (vP (L.b tk)))] ++ qL A7 S c8 i ++ [(52, .agg #[vI ((bY S i)), vI 2, vI ((obj S.O tk).mode), vI ((obj S.O tk).uid), vI ((obj S.O tk).gid), vI ((obj S.O tk).sec), vI ((obj S.O tk).nano), .slice none (0) (0), .string ⟨#[]⟩, .slice none (0) (0)])])) (hb := fun (_ : Unit) => (cO b5 An i cn K S A7 c8 b4 f m t L ++ [pE S.O L, .abs R])) (Gw := Unit) (fc := fun (b18 : Nat) => (fS f b4 b5 ++ [(6, .iface 96 (vP (L.b tk)))] ++ jQ b18 A7 S c8 i ++ [(35, vI 2)] ++ iX S tk)) (hc := fun (b18 : Nat) => (cO b5 An i cn K S A7 c8 b4 f m t L ++ [pE S.O L, .abs R, kP b18])) (Gx := Nat) (fd := fun (b19 : Nat) => (fS f b4 b5 ++ [(6, .iface 96 (vP (L.b tk)))] ++ jQ b19 A7 S c8 i ++ [(34, .iface 96 (vP (L.b tk)))] ++ iX S tk)) (hd := fun (b19 : Nat) => (cO b5 An i cn K S A7 c8 b4 f m t L ++ [pE S.O L, .abs R, kP b19])) (Gy := Nat) (fe := fun (b19 : Nat) => (fS f b4 b5 ++ [(6, .iface 96 (vP (L.b tk)))] ++ jQ b19 A7 S c8 i ++ [(35, vI 2)] ++ iX S tk)) (he := fun (b19 : Nat) => (cO b5 An i cn K S A7 c8 b4 f m t L ++ [pE S.O L, .abs R, kP b19])) (Gz := Nat) (fr' := fun (b17 : Nat) => ([(0, vP f), (2, vP b4), (3, vP b5), (6, .iface 96 (vP (L.b tk))), (8, vP b17)] ++ zw A7 S c8 i ++ [(52, .agg #[vI (bY S i), vI 2, vI ((obj S.O tk).mode), vI ((obj S.O tk).uid), vI ((obj S.O tk).gid), vI ((obj S.O tk).sec), vI ((obj S.O tk).nano), .slice none (0) (0), .string ⟨#[]⟩, .slice none (0) (0)])])) (hp' := fun (b17 : Nat) => (cO b5 An i cn K S A7 c8 b4 f m t L ++ [pE S.O L, .abs R, kP b17])) [8] [8] [8] [8] [8] [8] rfl rfl rfl rfl rfl rfl ?_ ?_ ?_ ?_ ?_ ?_ ?_ ?_ rfl (fun _ => by kernel_rfl) rfl (fun _ => by kernel_rfl) rfl (fun _ => by kernel_rfl) rfl (fun _ => by kernel_rfl) rfl (fun _ => by kernel_rfl) rfl (fun _ => by kernel_rfl) ?_
   ·refine gL [] (jA (vP (L.b tk))) ?_
    rintro _ _ ⟨rfl, rfl⟩
    refine NL ?_
    exact MD () [0, 2, 3, 6, 19, 20, 21, 33, 35, 39, 43, 47, 51] [0, 1, 2, 3, 4, 5, 6, 7, 8, 9, 10, 11]
   ·rintro _
    refine gK 1 [(52, .agg #[vI ((bY S i)), vI 2, vI ((obj S.O tk).mode), vI ((obj S.O tk).uid), vI ((obj S.O tk).gid), vI ((obj S.O tk).sec), vI ((obj S.O tk).nano), .slice none (0) (0), .string ⟨#[]⟩, .slice none (0) (0)])] [] ?_
    refine NL ?_
    exact MD () [0, 2, 3, 6, 19, 20, 21, 52] [0, 1, 2, 3, 4, 5, 6, 7, 8, 9, 10, 11]
   ·rintro _
    refine gN 1 (fun b17 => [(8, vP b17)]) (fun _ => []) (fun _ => []) (fun b17 => .blk b17 [vI 0, vI 0, vI 0, vI 0, vI 0, vI 0, vI 0, .slice none (0) (0), .string ⟨#[]⟩, .slice none (0) (0)] 70) (fun b17 => ?_)
    refine NL ?_
    exact MD b17 [0, 2, 3, 6, 8, 19, 20, 21, 52] [0, 1, 2, 3, 4, 5, 6, 7, 8, 9, 10, 11, 12]
   ·rintro _
    refine gN 1 (fun b18 => [(8, vP b18)]) (fun _ => []) (fun _ => []) (fun b18 => .blk b18 [vI 0, vI 0, vI 0, vI 0, vI 0, vI 0, vI 0, .slice none (0) (0), .string ⟨#[]⟩, .slice none (0) (0)] 70) (fun b18 => ?_)
    refine NL ?_
    exact MD b18 [0, 2, 3, 6, 8, 19, 20, 21, 33, 35, 39, 43, 47, 51] [0, 1, 2, 3, 4, 5, 6, 7, 8, 9, 10, 11, 12]
   ·rintro b18
    show aj _ _ _ _ _ (fS f b4 b5 ++ [(6, .iface 96 (vP (L.b tk)))] ++ jQ b18 A7 S c8 i ++ [(35, vI 2)] ++ iX S tk) (cO b5 An i cn K S A7 c8 b4 f m t L ++ [pE S.O L, .abs R, kP b18]) _
    refine gK 1 [(52, .agg #[vI ((bY S i)), vI 2, vI ((obj S.O tk).mode), vI ((obj S.O tk).uid), vI ((obj S.O tk).gid), vI ((obj S.O tk).sec), vI ((obj S.O tk).nano), .slice none (0) (0), .string ⟨#[]⟩, .slice none (0) (0)])] [] ?_
    refine NL ?_
    exact MD b18 [0, 2, 3, 6, 8, 19, 20, 21, 52] [0, 1, 2, 3, 4, 5, 6, 7, 8, 9, 10, 11, 12]
   ·refine gN 1 (fun b19 => [(8, vP b19)]) (fun _ => []) (fun _ => []) (fun b19 => .blk b19 [vI 0, vI 0, vI 0, vI 0, vI 0, vI 0, vI 0, .slice none (0) (0), .string ⟨#[]⟩, .slice none (0) (0)] 70) (fun b19 => ?_)
    refine NL ?_
    exact MD b19 [0, 2, 3, 6, 8, 19, 20, 21, 33, 34, 39, 43, 47, 51] [0, 1, 2, 3, 4, 5, 6, 7, 8, 9, 10, 11, 12]
   ·rintro b19
    show aj _ _ _ _ _ (fS f b4 b5 ++ [(6, .iface 96 (vP (L.b tk)))] ++ jQ b19 A7 S c8 i ++ [(34, .iface 96 (vP (L.b tk)))] ++ iX S tk) (cO b5 An i cn K S A7 c8 b4 f m t L ++ [pE S.O L, .abs R, kP b19]) _
    refine gL [] (jA (vP (L.b tk))) ?_
    rintro _ _ ⟨rfl, rfl⟩
    refine NL ?_
    exact MD b19 [0, 2, 3, 6, 8, 19, 20, 21, 33, 35, 39, 43, 47, 51] [0, 1, 2, 3, 4, 5, 6, 7, 8, 9, 10, 11, 12]
   ·rintro b19
    show aj _ _ _ _ _ (fS f b4 b5 ++ [(6, .iface 96 (vP (L.b tk)))] ++ jQ b19 A7 S c8 i ++ [(35, vI 2)] ++ iX S tk) (cO b5 An i cn K S A7 c8 b4 f m t L ++ [pE S.O L, .abs R, kP b19]) _
    refine gK 1 [(52, .agg #[vI ((bY S i)), vI 2, vI ((obj S.O tk).mode), vI ((obj S.O tk).uid), vI ((obj S.O tk).gid), vI ((obj S.O tk).sec), vI ((obj S.O tk).nano), .slice none (0) (0), .string ⟨#[]⟩, .slice none (0) (0)])] [] ?_
    refine NL ?_
    exact MD b19 [0, 2, 3, 6, 8, 19, 20, 21, 52] [0, 1, 2, 3, 4, 5, 6, 7, 8, 9, 10, 11, 12]
   rintro b17
   refine fL.last rfl rfl ?_
   refine gC 1 [] [(0, A_ 12 b17 10)] [(12, ([(0, vI ((bY S i))), (1, vI 2)] ++ IJ S tk))] ?_
   refine NL (ai.np (NX (af.seq (SR ?_))))
   refine gK 1 [(53, .iface 96 (vP (L.b tk)))] [] ?_
   refine NN (af.block (SR ?_))
   refine gK 3 [(55, .bool false), (56, .pointer none)] [] ?_
   refine NN ?_
   refine CF ?_
   refine SR ?_
   refine gK 3 [(64, .bool false), (65, .pointer none)] [] ?_
   refine NN ?_
   refine CF ?_
   refine SR ?_
   refine gK 3 [(72, .bool true), (73, vP (L.b tk))] [] ?_
   refine NN ?_
   refine CT ?_
   refine SR ?_
   refine gK 1 [(11, vP (L.b tk))] [] ?_
   refine NS ?_
   refine gK 4 [(77, .map (some (L.m tk)))] [(3, v_ 8 (bC L hkt))] ?_
   refine aj.mem (aR := (cO b5 An i cn K S A7 c8 b4 f m t L ++ [iV S L tk, .abs R, .blk b17 [vI ((bY S i)), vI 2, vI ((obj S.O tk).mode), vI ((obj S.O tk).uid), vI ((obj S.O tk).gid), vI ((obj S.O tk).sec), vI ((obj S.O tk).nano), .slice none (0) (0), .string ⟨#[]⟩, .slice none (0) (0)] 70, pS L tk S])) (fun w hS => hS.KY (i := 10) (k := tk) rfl (hkt)) ?_
   refine gL [] (IE (some (L.m tk))) ?_
   rintro _ _ ⟨b20, rfl, rfl⟩
   refine gL [14, 0] (EO L (L.m tk) b20 (obj S.O tk).ah.length (obj S.O tk).ah (hI.sorted _ hlv) hel) ?_
   rintro _ _ ⟨cR, dH, rfl, rfl⟩
   refine gK 1 [(80, vI ↑((obj S.O tk).ah.length))] [] ?_
   refine aj.mem (fun w hS => hS.jD (e := 101) (size := 2)) ?_
   refine gK 1 [(81, vI 0)] [] ?_
   refine NN (af.block ?_)
   refine af.loop (ι := Nat × (Option Addr) × Nat) (fun ((j, Ae, ce) : Nat × (Option Addr) × Nat) => (j ≤ (obj S.O tk).ah.length)) (fun ((j, Ae, ce) : Nat × (Option Addr) × Nat) => (obj S.O tk).ah.length - j) (fun ((j, Ae, ce) : Nat × (Option Addr) × Nat) => (fS f b4 b5 ++ [(8, vP b17), (11, vP (L.b tk))] ++ qL A7 S c8 i ++ [(79, .slice cR ((obj S.O tk).ah.length) (dH)), (80, vI ↑((obj S.O tk).ah.length)), (81, vI ↑j)])) (fun ((j, Ae, ce) : Nat × (Option Addr) × Nat) => (mD b17 S i tk Ae j ce L b20 cR dH ++ cO b5 An i cn K S A7 c8 b4 f m t L ++ [iV S L tk, .abs R])) (0, none, 0) (idx := [0, 2, 3, 8, 11, 19, 20, 21, 79, 80, 81]) (pk := [15, 16, 0, 1, 2, 3, 4, 5, 6, 7, 8, 9, 10, 11, 12, 13, 14]) (show (0 ≤ (obj S.O tk).ah.length) from (Nat.zero_le _)) (fun _ => by kernel_rfl) rfl (by kernel_rfl) ?_
   rintro ⟨j, Ae, ce⟩ hj
   show af _ _ _ _ (fS f b4 b5 ++ [(8, vP b17), (11, vP (L.b tk))] ++ qL A7 S c8 i ++ [(79, .slice cR ((obj S.O tk).ah.length) (dH)), (80, vI ↑((obj S.O tk).ah.length)), (81, vI ↑j)]) (mD b17 S i tk Ae j ce L b20 cR dH ++ cO b5 An i cn K S A7 c8 b4 f m t L ++ [iV S L tk, .abs R]) _
   refine SR ?_
   refine gK 1 [(82, .bool (decide ((((j : Nat) : Int) : Int) < ((((obj S.O tk).ah.length : Nat) : Int) : Int))))] [] ?_
   refine NN (af.seq ?_)
   refine af.bB (p := (((j : Nat) : Int) : Int) < ((((obj S.O tk).ah.length : Nat) : Int) : Int)) (fun _ => by kernel_rfl) (fun Po => ?_) (fun Po => ?_)
   ·have hj2 : j < (obj S.O tk).ah.length := by omega
    refine af.skip (NX (af.seq (af.block (SR ?_))))
    refine aj.tell (p := (cR = some ⟨ax cR, av cR, none⟩)) (fun w hS => let ⟨F, h⟩ := hS.get (i := 4) rfl; (aH.DV h (by omega)).1) (fun Pp => ?_)
    refine gK 3 [(13, .string (dO (obj S.O tk).ah j))] [(0, p_ ⟨[], some j, none, some ⟨(ax cR), av cR, none⟩, none⟩ [((j : Nat) : Int) = ((j : Nat) : Int), j < (obj S.O tk).ah.length, (⟨(ax cR), av cR, none⟩ : Addr).spot = none, (cR : Option Addr) = some ⟨(ax cR), av cR, none⟩] ⟨rfl, by omega, rfl, Pp, trivial⟩), (1, p_ ⟨[.view 4 (.string (dO (obj S.O tk).ah j))], none, none, none, none⟩ [(∀ F w, (aH 9 1 cR ((obj S.O tk).ah.length) dH (mA (obj S.O tk).ah)).h F w → w.cell? ⟨(ax cR), av cR + j * 1, none⟩ = some (.string (dO (obj S.O tk).ah j)))] ⟨aH.cellAt (i := j) (j := 0) (by omega) (ES hj2), trivial⟩)] ?_
    refine NN ?_
    obtain ⟨hgd, h4⟩ := Oy hI.toInv0 hlv hj2
    have hgs : (dO (obj S.O tk).ah j).size ≤ 255 := hgd.2.1
    rcases h4 with ⟨ek, hle, wz, GA⟩ | ⟨ek, hle, wz, GA⟩ | ⟨ek, hle, wz, GA⟩
    ·have hke : (obj S.O ek).kind = 1 := hI.kind wz
     refine af.bZ (S := [pS L tk S, pO S.O L, lC b17 S i tk Ae j ce]) [0, 1, 2, 3, 4, 5, 6, 7, 8, 9, 10, 11, 12, 13, 14, 15, 16, 17] 9 [2, 13, 0] (by kernel_rfl) (by kernel_rfl) rfl (by kernel_rfl) ?_
     refine aF.reads (r := 1) (l := [8, 9, 10, 11, 12, 13, 14, 15, 16, 17]) (fr' := (iW f b4 b5 b17 L tk A7 S c8 i cR dH j ++ og Ae j ce S tk ++ [(91, .map (some (L.m tk))), (92, .string (dO (obj S.O tk).ah j))])) (aV := [(∀ F w, (ak (aN S.O L)).h F w → w.cell? ⟨(L.b tk), 9, none⟩ = some (.map (some (L.m tk)))), b17 = b17]) [0, 1, 2, 3, 4, 5, 6, 7] [o_, ⟨[.at 2], none, none, none, none⟩, o_, o_, o_, o_, ⟨[.view 1 (.map (some (L.m tk)))], none, none, none, none⟩, o_] [0, 2, 3, 8, 11, 19, 20, 21, 79, 80, 81, 86, 87, 91, 92] (fun _ => by kernel_rfl) ⟨bq (by rw [hkt]; decide) (by rw [gF (hkt)]; rfl), rfl, trivial⟩ rfl rfl ?_
     refine aF.dI 0 (d := (some 93)) (t := 97) (K := 9) (E := 84) (b := (L.m tk)) (cnt := (obj S.O tk).ah.length) (f := (fR L (obj S.O tk).ah)) (x := (.tmp 91)) (ix := (.tmp 92)) (key := .string (dO (obj S.O tk).ah j)) (z := .nilIface) (kl := (.string (dO (obj S.O tk).ah j).data.toList)) (q := (some (cI L ⟨ek, 1⟩))) (by kernel_rfl) (by kernel_rfl) (fun _ => by kernel_rfl) (fun _ => by kernel_rfl) vW Tryz.underlying97 (fun _ => by kernel_rfl) (yM (by omega)) (by rw [oU, hle]; rfl) (by kernel_rfl) ?_
     refine mL [2, 13, 0] [] (cr (L.b ek)) ?_ (by rintro _ _ ⟨rfl, rfl⟩; rfl)
     rintro _ _ ⟨rfl, rfl⟩
     refine aF.cut (ι := Unit) (fr' := fun (_ : Unit) => (iW f b4 b5 b17 L tk A7 S c8 i cR dH j ++ og Ae j ce S tk ++ [(95, vP (L.b ek))])) (hp' := fun (_ : Unit) => (mD b17 S i tk Ae j ce L b20 cR dH ++ cO b5 An i cn K S A7 c8 b4 f m t L ++ [iV S L tk, .abs R])) [2, 13, 0] rfl rfl ?_ rfl (fun _ => by kernel_rfl) ?_
     ·refine gK 1 [(95, vP (L.b ek))] [] ?_
      refine NL ?_
      exact MD () [0, 2, 3, 8, 11, 19, 20, 21, 79, 80, 81, 86, 87, 95] [0, 1, 2, 3, 4, 5, 6, 7, 8, 9, 10, 11, 12, 13, 14, 15, 16]
     rintro _
     refine aF.cut (ι := Unit) (fr' := fun (_ : Unit) => (iW f b4 b5 b17 L tk A7 S c8 i cR dH j ++ og Ae j ce S tk ++ [(96, vP (L.b ek))])) (hp' := fun (_ : Unit) => (mD b17 S i tk Ae j ce L b20 cR dH ++ cO b5 An i cn K S A7 c8 b4 f m t L ++ [iV S L tk, .abs R])) [2, 13, 0] rfl rfl ?_ rfl (fun _ => by kernel_rfl) ?_
     ·refine gK 1 [(96, vP (L.b ek))] [] ?_
      refine NL ?_
      exact MD () [0, 2, 3, 8, 11, 19, 20, 21, 79, 80, 81, 86, 87, 96] [0, 1, 2, 3, 4, 5, 6, 7, 8, 9, 10, 11, 12, 13, 14, 15, 16]
     rintro _
     refine aF.cut (ι := Unit) (fr' := fun (_ : Unit) => (iW f b4 b5 b17 L tk A7 S c8 i cR dH j ++ og Ae j ce S tk ++ [(97, vI ((obj S.O ek).id))])) (hp' := fun (_ : Unit) => (mD b17 S i tk Ae j ce L b20 cR dH ++ cO b5 An i cn K S A7 c8 b4 f m t L ++ [iV S L tk, .abs R])) [2, 13, 0] rfl rfl ?_ rfl (fun _ => by kernel_rfl) ?_
     ·refine gK 1 [(97, vI ((obj S.O ek).id))] [(0, v_ 13 (y5 L hke))] ?_
      refine NL ?_
      exact MD () [0, 2, 3, 8, 11, 19, 20, 21, 79, 80, 81, 86, 87, 97] [0, 1, 2, 3, 4, 5, 6, 7, 8, 9, 10, 11, 12, 13, 14, 15, 16]
     rintro _
     refine aF.cut (ι := Unit) (fr' := fun (_ : Unit) => (iW f b4 b5 b17 L tk A7 S c8 i cR dH j ++ [(86, .slice Ae (j) (ce)), (98, .agg #[.string (dO (obj S.O tk).ah j), vI ((obj S.O ek).id)])])) (hp' := fun (_ : Unit) => (mD b17 S i tk Ae j ce L b20 cR dH ++ cO b5 An i cn K S A7 c8 b4 f m t L ++ [iV S L tk, .abs R])) [2, 13, 0] rfl rfl ?_ rfl (fun _ => by kernel_rfl) ?_
     ·refine gK 1 [(98, .agg #[.string (dO (obj S.O tk).ah j), vI ((obj S.O ek).id)])] [] ?_
      refine NL ?_
      exact MD () [0, 2, 3, 8, 11, 19, 20, 21, 79, 80, 81, 86, 98] [0, 1, 2, 3, 4, 5, 6, 7, 8, 9, 10, 11, 12, 13, 14, 15, 16]
     rintro _
     refine mN [2, 13, 0] (fun x3 => [(99, .slice (some ⟨x3, 0, none⟩) (1) (1))]) (fun _ => []) (fun x3 => .blk x3 [.string (dO (obj S.O tk).ah j), vI ((obj S.O ek).id)] 101) (fun x3 => ?_)
     refine aF.cut (ι := (Option Addr) × Nat) (fr' := fun ((ou, ox) : (Option Addr) × Nat) => (iW f b4 b5 b17 L tk A7 S c8 i cR dH j ++ [(100, .slice ou ((j + 1)) (ox))])) (hp' := fun ((ou, ox) : (Option Addr) × Nat) => ([lC b17 S i tk Ae j ce, zq ou j ox S tk, pS L tk S, qJ b20 L tk, qK cR S tk dH] ++ cO b5 An i cn K S A7 c8 b4 f m t L ++ [iV S L tk, .abs R, zu x3 S tk j ek])) [2, 13, 0] rfl rfl ?_ rfl (fun _ => by kernel_rfl) ?_
     ·refine aj.append 1 (d := (some 100)) (t := 68) (e := 101) (z := .agg #[.string ⟨#[]⟩, vI 0]) (size := 2) (bytes := 24) (n := j) (cap := ce) (A := Ae) (xs := (fo (((obj S.O tk).ah.take j).map (jO S.O)))) (s := (.tmp 86)) (x := (.tmp 99)) (ats := #[68, 68]) (A' := some ⟨x3, 0, none⟩) (m := 1) (c' := 1) (news := [.string (dO (obj S.O tk).ah j), vI ((obj S.O ek).id)]) (fun _ => by kernel_rfl) rfl (by kernel_rfl) (fun _ => by kernel_rfl) (fun _ => by kernel_rfl) Tryz.underlying68 (by kernel_rfl) rfl (by decide) (rfl) (by simp [Value.oneCell']) (lG (j := 17) rfl) (by unfold maxLen; omega) (by omega) (fun ou ox => ?_)
      refine aj.eO 1 (p := .abs (aH 101 2 ou (j + 1) ox ((fo (((obj S.O tk).ah.take j).map (jO S.O))) ++ [.string (dO (obj S.O tk).ah j), vI ((obj S.O ek).id)]))) (p' := .abs (aH 101 2 ou (j + 1) ox (fo (((obj S.O tk).ah.take (j + 1)).map (jO S.O))))) (by kernel_rfl) (congrArg (fun x => HP.abs (aH 101 2 _ _ _ x)) (uq hj2 GA)) ?_
      refine aj.slot 100 (.slice ou (j + 1) (ox)) (.slice ou ((j + 1)) (ox)) (fun _ => by kernel_rfl) (rfl) ?_
      refine NL ?_
      exact MD (ou, ox) [0, 2, 3, 8, 11, 19, 20, 21, 79, 80, 81, 100] [0, 1, 2, 3, 4, 5, 6, 7, 8, 9, 10, 11, 12, 13, 14, 15, 16, 17]
     rintro ⟨ou, ox⟩
     refine aF.cut (ι := Unit) (fr' := fun (_ : Unit) => (iW f b4 b5 b17 L tk A7 S c8 i cR dH j ++ [(100, .slice ou ((j + 1)) (ox)), (101, .pointer (some ⟨b17, 9, none⟩))])) (hp' := fun (_ : Unit) => ([lC b17 S i tk Ae j ce, zq ou j ox S tk, pS L tk S, qJ b20 L tk, qK cR S tk dH] ++ cO b5 An i cn K S A7 c8 b4 f m t L ++ [iV S L tk, .abs R, zu x3 S tk j ek])) [2, 13, 0] rfl rfl ?_ rfl (fun _ => by kernel_rfl) ?_
     ·refine gK 1 [(101, .pointer (some ⟨b17, 9, none⟩))] [] ?_
      refine NL ?_
      exact MD () [0, 2, 3, 8, 11, 19, 20, 21, 79, 80, 81, 100, 101] [0, 1, 2, 3, 4, 5, 6, 7, 8, 9, 10, 11, 12, 13, 14, 15, 16, 17]
     rintro _
     refine aF.last rfl rfl ?_
     refine gC 1 [] [(0, a_ 0 b17)] [(0, [(9, .slice ou ((j + 1)) (ox))])] ?_
     refine NL (ai.np (ai.aQ (NX (af.region ?_))))
     refine gK 2 [(81, vI ↑(j + 1))] [(0, p_ ⟨[], none, none, none, some (vI ↑(j + 1))⟩ [(Value.int .i64 (IntKind.wrap .i64 (((j : Nat) : Int) + 1))) = (.int .i64 ↑(j + 1))] ⟨bI (by omega) (by omega) (by omega), trivial⟩)] ?_
     refine NL ?_
     exact ai.turn ((j + 1), ou, ox) (idx := [0, 2, 3, 8, 11, 19, 20, 21, 79, 80, 81]) (pk := [0, 1, 2, 3, 4, 5, 6, 7, 8, 9, 10, 11, 12, 13, 14, 15, 16]) (show (((j + 1)) ≤ (obj S.O tk).ah.length) from (by omega)) (by show (obj S.O tk).ah.length - ((j + 1)) < (obj S.O tk).ah.length - j; omega) (fun _ => by kernel_rfl) rfl (by kernel_rfl)
    ·have hke : (obj S.O ek).kind = 2 := hI.kind wz
     refine af.bZ (S := [pS L tk S, pO S.O L, lC b17 S i tk Ae j ce]) [0, 1, 2, 3, 4, 5, 6, 7, 8, 9, 10, 11, 12, 13, 14, 15, 16, 17] 9 [2, 13, 0] (by kernel_rfl) (by kernel_rfl) rfl (by kernel_rfl) ?_
     refine aF.reads (r := 1) (l := [8, 9, 10, 11, 12, 13, 14, 15, 16, 17]) (fr' := (iW f b4 b5 b17 L tk A7 S c8 i cR dH j ++ og Ae j ce S tk ++ [(91, .map (some (L.m tk))), (92, .string (dO (obj S.O tk).ah j))])) (aV := [(∀ F w, (ak (aN S.O L)).h F w → w.cell? ⟨(L.b tk), 9, none⟩ = some (.map (some (L.m tk)))), b17 = b17]) [0, 1, 2, 3, 4, 5, 6, 7] [o_, ⟨[.at 2], none, none, none, none⟩, o_, o_, o_, o_, ⟨[.view 1 (.map (some (L.m tk)))], none, none, none, none⟩, o_] [0, 2, 3, 8, 11, 19, 20, 21, 79, 80, 81, 86, 87, 91, 92] (fun _ => by kernel_rfl) ⟨bq (by rw [hkt]; decide) (by rw [gF (hkt)]; rfl), rfl, trivial⟩ rfl rfl ?_
     refine aF.dI 0 (d := (some 93)) (t := 97) (K := 9) (E := 84) (b := (L.m tk)) (cnt := (obj S.O tk).ah.length) (f := (fR L (obj S.O tk).ah)) (x := (.tmp 91)) (ix := (.tmp 92)) (key := .string (dO (obj S.O tk).ah j)) (z := .nilIface) (kl := (.string (dO (obj S.O tk).ah j).data.toList)) (q := (some (cI L ⟨ek, 2⟩))) (by kernel_rfl) (by kernel_rfl) (fun _ => by kernel_rfl) (fun _ => by kernel_rfl) vW Tryz.underlying97 (fun _ => by kernel_rfl) (yM (by omega)) (by rw [oU, hle]; rfl) (by kernel_rfl) ?_
     refine mL [2, 13, 0] [] (cr (L.b ek)) ?_ (by rintro _ _ ⟨rfl, rfl⟩; rfl)
     rintro _ _ ⟨rfl, rfl⟩
     refine aF.cut (ι := Unit) (fr' := fun (_ : Unit) => (iW f b4 b5 b17 L tk A7 S c8 i cR dH j ++ og Ae j ce S tk ++ [(95, vP (L.b ek))])) (hp' := fun (_ : Unit) => (mD b17 S i tk Ae j ce L b20 cR dH ++ cO b5 An i cn K S A7 c8 b4 f m t L ++ [iV S L tk, .abs R])) [2, 13, 0] rfl rfl ?_ rfl (fun _ => by kernel_rfl) ?_
     ·refine gK 1 [(95, vP (L.b ek))] [] ?_
      refine NL ?_
      exact MD () [0, 2, 3, 8, 11, 19, 20, 21, 79, 80, 81, 86, 87, 95] [0, 1, 2, 3, 4, 5, 6, 7, 8, 9, 10, 11, 12, 13, 14, 15, 16]
     rintro _
     refine aF.cut (ι := Unit) (fr' := fun (_ : Unit) => (iW f b4 b5 b17 L tk A7 S c8 i cR dH j ++ og Ae j ce S tk ++ [(96, vP (L.b ek))])) (hp' := fun (_ : Unit) => (mD b17 S i tk Ae j ce L b20 cR dH ++ cO b5 An i cn K S A7 c8 b4 f m t L ++ [iV S L tk, .abs R])) [2, 13, 0] rfl rfl ?_ rfl (fun _ => by kernel_rfl) ?_
     ·refine gK 1 [(96, vP (L.b ek))] [] ?_
      refine NL ?_
      exact MD () [0, 2, 3, 8, 11, 19, 20, 21, 79, 80, 81, 86, 87, 96] [0, 1, 2, 3, 4, 5, 6, 7, 8, 9, 10, 11, 12, 13, 14, 15, 16]
     rintro _
     refine aF.cut (ι := Unit) (fr' := fun (_ : Unit) => (iW f b4 b5 b17 L tk A7 S c8 i cR dH j ++ og Ae j ce S tk ++ [(97, vI ((obj S.O ek).id))])) (hp' := fun (_ : Unit) => (mD b17 S i tk Ae j ce L b20 cR dH ++ cO b5 An i cn K S A7 c8 b4 f m t L ++ [iV S L tk, .abs R])) [2, 13, 0] rfl rfl ?_ rfl (fun _ => by kernel_rfl) ?_
     ·refine gK 1 [(97, vI ((obj S.O ek).id))] [(0, v_ 13 (y5 L hke))] ?_
      refine NL ?_
      exact MD () [0, 2, 3, 8, 11, 19, 20, 21, 79, 80, 81, 86, 87, 97] [0, 1, 2, 3, 4, 5, 6, 7, 8, 9, 10, 11, 12, 13, 14, 15, 16]
     rintro _
     refine aF.cut (ι := Unit) (fr' := fun (_ : Unit) => (iW f b4 b5 b17 L tk A7 S c8 i cR dH j ++ [(86, .slice Ae (j) (ce)), (98, .agg #[.string (dO (obj S.O tk).ah j), vI ((obj S.O ek).id)])])) (hp' := fun (_ : Unit) => (mD b17 S i tk Ae j ce L b20 cR dH ++ cO b5 An i cn K S A7 c8 b4 f m t L ++ [iV S L tk, .abs R])) [2, 13, 0] rfl rfl ?_ rfl (fun _ => by kernel_rfl) ?_
     ·refine gK 1 [(98, .agg #[.string (dO (obj S.O tk).ah j), vI ((obj S.O ek).id)])] [] ?_
      refine NL ?_
      exact MD () [0, 2, 3, 8, 11, 19, 20, 21, 79, 80, 81, 86, 98] [0, 1, 2, 3, 4, 5, 6, 7, 8, 9, 10, 11, 12, 13, 14, 15, 16]
     rintro _
     refine mN [2, 13, 0] (fun CB => [(99, .slice (some ⟨CB, 0, none⟩) (1) (1))]) (fun _ => []) (fun CB => .blk CB [.string (dO (obj S.O tk).ah j), vI ((obj S.O ek).id)] 101) (fun CB => ?_)
     refine aF.cut (ι := (Option Addr) × Nat) (fr' := fun ((qx, qy) : (Option Addr) × Nat) => (iW f b4 b5 b17 L tk A7 S c8 i cR dH j ++ [(100, .slice qx ((j + 1)) (qy))])) (hp' := fun ((qx, qy) : (Option Addr) × Nat) => ([lC b17 S i tk Ae j ce, zq qx j qy S tk, pS L tk S, qJ b20 L tk, qK cR S tk dH] ++ cO b5 An i cn K S A7 c8 b4 f m t L ++ [iV S L tk, .abs R, zu CB S tk j ek])) [2, 13, 0] rfl rfl ?_ rfl (fun _ => by kernel_rfl) ?_
     ·refine aj.append 1 (d := (some 100)) (t := 68) (e := 101) (z := .agg #[.string ⟨#[]⟩, vI 0]) (size := 2) (bytes := 24) (n := j) (cap := ce) (A := Ae) (xs := (fo (((obj S.O tk).ah.take j).map (jO S.O)))) (s := (.tmp 86)) (x := (.tmp 99)) (ats := #[68, 68]) (A' := some ⟨CB, 0, none⟩) (m := 1) (c' := 1) (news := [.string (dO (obj S.O tk).ah j), vI ((obj S.O ek).id)]) (fun _ => by kernel_rfl) rfl (by kernel_rfl) (fun _ => by kernel_rfl) (fun _ => by kernel_rfl) Tryz.underlying68 (by kernel_rfl) rfl (by decide) (rfl) (by simp [Value.oneCell']) (lG (j := 17) rfl) (by unfold maxLen; omega) (by omega) (fun qx qy => ?_)
      refine aj.eO 1 (p := .abs (aH 101 2 qx (j + 1) qy ((fo (((obj S.O tk).ah.take j).map (jO S.O))) ++ [.string (dO (obj S.O tk).ah j), vI ((obj S.O ek).id)]))) (p' := .abs (aH 101 2 qx (j + 1) qy (fo (((obj S.O tk).ah.take (j + 1)).map (jO S.O))))) (by kernel_rfl) (congrArg (fun x => HP.abs (aH 101 2 _ _ _ x)) (uq hj2 GA)) ?_
      refine aj.slot 100 (.slice qx (j + 1) (qy)) (.slice qx ((j + 1)) (qy)) (fun _ => by kernel_rfl) (rfl) ?_
      refine NL ?_
      exact MD (qx, qy) [0, 2, 3, 8, 11, 19, 20, 21, 79, 80, 81, 100] [0, 1, 2, 3, 4, 5, 6, 7, 8, 9, 10, 11, 12, 13, 14, 15, 16, 17]
     rintro ⟨qx, qy⟩
     refine aF.cut (ι := Unit) (fr' := fun (_ : Unit) => (iW f b4 b5 b17 L tk A7 S c8 i cR dH j ++ [(100, .slice qx ((j + 1)) (qy)), (101, .pointer (some ⟨b17, 9, none⟩))])) (hp' := fun (_ : Unit) => ([lC b17 S i tk Ae j ce, zq qx j qy S tk, pS L tk S, qJ b20 L tk, qK cR S tk dH] ++ cO b5 An i cn K S A7 c8 b4 f m t L ++ [iV S L tk, .abs R, zu CB S tk j ek])) [2, 13, 0] rfl rfl ?_ rfl (fun _ => by kernel_rfl) ?_
     ·refine gK 1 [(101, .pointer (some ⟨b17, 9, none⟩))] [] ?_
      refine NL ?_
      exact MD () [0, 2, 3, 8, 11, 19, 20, 21, 79, 80, 81, 100, 101] [0, 1, 2, 3, 4, 5, 6, 7, 8, 9, 10, 11, 12, 13, 14, 15, 16, 17]
     rintro _
     refine aF.last rfl rfl ?_
     refine gC 1 [] [(0, a_ 0 b17)] [(0, [(9, .slice qx ((j + 1)) (qy))])] ?_
     refine NL (ai.np (ai.aQ (NX (af.region ?_))))
     refine gK 2 [(81, vI ↑(j + 1))] [(0, p_ ⟨[], none, none, none, some (vI ↑(j + 1))⟩ [(Value.int .i64 (IntKind.wrap .i64 (((j : Nat) : Int) + 1))) = (.int .i64 ↑(j + 1))] ⟨bI (by omega) (by omega) (by omega), trivial⟩)] ?_
     refine NL ?_
     exact ai.turn ((j + 1), qx, qy) (idx := [0, 2, 3, 8, 11, 19, 20, 21, 79, 80, 81]) (pk := [0, 1, 2, 3, 4, 5, 6, 7, 8, 9, 10, 11, 12, 13, 14, 15, 16]) (show (((j + 1)) ≤ (obj S.O tk).ah.length) from (by omega)) (by show (obj S.O tk).ah.length - ((j + 1)) < (obj S.O tk).ah.length - j; omega) (fun _ => by kernel_rfl) rfl (by kernel_rfl)
    have hke : (obj S.O ek).kind = 3 := hI.kind wz
    refine af.bZ (S := [pS L tk S, pO S.O L, lC b17 S i tk Ae j ce]) [0, 1, 2, 3, 4, 5, 6, 7, 8, 9, 10, 11, 12, 13, 14, 15, 16, 17] 9 [2, 13, 0] (by kernel_rfl) (by kernel_rfl) rfl (by kernel_rfl) ?_
    refine aF.reads (r := 1) (l := [8, 9, 10, 11, 12, 13, 14, 15, 16, 17]) (fr' := (iW f b4 b5 b17 L tk A7 S c8 i cR dH j ++ og Ae j ce S tk ++ [(91, .map (some (L.m tk))), (92, .string (dO (obj S.O tk).ah j))])) (aV := [(∀ F w, (ak (aN S.O L)).h F w → w.cell? ⟨(L.b tk), 9, none⟩ = some (.map (some (L.m tk)))), b17 = b17]) [0, 1, 2, 3, 4, 5, 6, 7] [o_, ⟨[.at 2], none, none, none, none⟩, o_, o_, o_, o_, ⟨[.view 1 (.map (some (L.m tk)))], none, none, none, none⟩, o_] [0, 2, 3, 8, 11, 19, 20, 21, 79, 80, 81, 86, 87, 91, 92] (fun _ => by kernel_rfl) ⟨bq (by rw [hkt]; decide) (by rw [gF (hkt)]; rfl), rfl, trivial⟩ rfl rfl ?_
    refine aF.dI 0 (d := (some 93)) (t := 97) (K := 9) (E := 84) (b := (L.m tk)) (cnt := (obj S.O tk).ah.length) (f := (fR L (obj S.O tk).ah)) (x := (.tmp 91)) (ix := (.tmp 92)) (key := .string (dO (obj S.O tk).ah j)) (z := .nilIface) (kl := (.string (dO (obj S.O tk).ah j).data.toList)) (q := (some (cI L ⟨ek, 3⟩))) (by kernel_rfl) (by kernel_rfl) (fun _ => by kernel_rfl) (fun _ => by kernel_rfl) vW Tryz.underlying97 (fun _ => by kernel_rfl) (yM (by omega)) (by rw [oU, hle]; rfl) (by kernel_rfl) ?_
    refine mL [2, 13, 0] [] (cr (L.b ek)) ?_ (by rintro _ _ ⟨rfl, rfl⟩; rfl)
    rintro _ _ ⟨rfl, rfl⟩
    refine aF.cut (ι := Unit) (fr' := fun (_ : Unit) => (iW f b4 b5 b17 L tk A7 S c8 i cR dH j ++ og Ae j ce S tk ++ [(95, vP (L.b ek))])) (hp' := fun (_ : Unit) => (mD b17 S i tk Ae j ce L b20 cR dH ++ cO b5 An i cn K S A7 c8 b4 f m t L ++ [iV S L tk, .abs R])) [2, 13, 0] rfl rfl ?_ rfl (fun _ => by kernel_rfl) ?_
    ·refine gK 1 [(95, vP (L.b ek))] [] ?_
     refine NL ?_
     exact MD () [0, 2, 3, 8, 11, 19, 20, 21, 79, 80, 81, 86, 87, 95] [0, 1, 2, 3, 4, 5, 6, 7, 8, 9, 10, 11, 12, 13, 14, 15, 16]
    rintro _
    refine aF.cut (ι := Unit) (fr' := fun (_ : Unit) => (iW f b4 b5 b17 L tk A7 S c8 i cR dH j ++ og Ae j ce S tk ++ [(96, vP (L.b ek))])) (hp' := fun (_ : Unit) => (mD b17 S i tk Ae j ce L b20 cR dH ++ cO b5 An i cn K S A7 c8 b4 f m t L ++ [iV S L tk, .abs R])) [2, 13, 0] rfl rfl ?_ rfl (fun _ => by kernel_rfl) ?_
    ·refine gK 1 [(96, vP (L.b ek))] [] ?_
     refine NL ?_
     exact MD () [0, 2, 3, 8, 11, 19, 20, 21, 79, 80, 81, 86, 87, 96] [0, 1, 2, 3, 4, 5, 6, 7, 8, 9, 10, 11, 12, 13, 14, 15, 16]
    rintro _
    refine aF.cut (ι := Unit) (fr' := fun (_ : Unit) => (iW f b4 b5 b17 L tk A7 S c8 i cR dH j ++ og Ae j ce S tk ++ [(97, vI ((obj S.O ek).id))])) (hp' := fun (_ : Unit) => (mD b17 S i tk Ae j ce L b20 cR dH ++ cO b5 An i cn K S A7 c8 b4 f m t L ++ [iV S L tk, .abs R])) [2, 13, 0] rfl rfl ?_ rfl (fun _ => by kernel_rfl) ?_
    ·refine gK 1 [(97, vI ((obj S.O ek).id))] [(0, v_ 13 (y5 L hke))] ?_
     refine NL ?_
     exact MD () [0, 2, 3, 8, 11, 19, 20, 21, 79, 80, 81, 86, 87, 97] [0, 1, 2, 3, 4, 5, 6, 7, 8, 9, 10, 11, 12, 13, 14, 15, 16]
    rintro _
    refine aF.cut (ι := Unit) (fr' := fun (_ : Unit) => (iW f b4 b5 b17 L tk A7 S c8 i cR dH j ++ [(86, .slice Ae (j) (ce)), (98, .agg #[.string (dO (obj S.O tk).ah j), vI ((obj S.O ek).id)])])) (hp' := fun (_ : Unit) => (mD b17 S i tk Ae j ce L b20 cR dH ++ cO b5 An i cn K S A7 c8 b4 f m t L ++ [iV S L tk, .abs R])) [2, 13, 0] rfl rfl ?_ rfl (fun _ => by kernel_rfl) ?_
    ·refine gK 1 [(98, .agg #[.string (dO (obj S.O tk).ah j), vI ((obj S.O ek).id)])] [] ?_
     refine NL ?_
     exact MD () [0, 2, 3, 8, 11, 19, 20, 21, 79, 80, 81, 86, 98] [0, 1, 2, 3, 4, 5, 6, 7, 8, 9, 10, 11, 12, 13, 14, 15, 16]
    rintro _
    refine mN [2, 13, 0] (fun CC => [(99, .slice (some ⟨CC, 0, none⟩) (1) (1))]) (fun _ => []) (fun CC => .blk CC [.string (dO (obj S.O tk).ah j), vI ((obj S.O ek).id)] 101) (fun CC => ?_)
    refine aF.cut (ι := (Option Addr) × Nat) (fr' := fun ((qz, qA) : (Option Addr) × Nat) => (iW f b4 b5 b17 L tk A7 S c8 i cR dH j ++ [(100, .slice qz ((j + 1)) (qA))])) (hp' := fun ((qz, qA) : (Option Addr) × Nat) => ([lC b17 S i tk Ae j ce, zq qz j qA S tk, pS L tk S, qJ b20 L tk, qK cR S tk dH] ++ cO b5 An i cn K S A7 c8 b4 f m t L ++ [iV S L tk, .abs R, zu CC S tk j ek])) [2, 13, 0] rfl rfl ?_ rfl (fun _ => by kernel_rfl) ?_
    ·refine aj.append 1 (d := (some 100)) (t := 68) (e := 101) (z := .agg #[.string ⟨#[]⟩, vI 0]) (size := 2) (bytes := 24) (n := j) (cap := ce) (A := Ae) (xs := (fo (((obj S.O tk).ah.take j).map (jO S.O)))) (s := (.tmp 86)) (x := (.tmp 99)) (ats := #[68, 68]) (A' := some ⟨CC, 0, none⟩) (m := 1) (c' := 1) (news := [.string (dO (obj S.O tk).ah j), vI ((obj S.O ek).id)]) (fun _ => by kernel_rfl) rfl (by kernel_rfl) (fun _ => by kernel_rfl) (fun _ => by kernel_rfl) Tryz.underlying68 (by kernel_rfl) rfl (by decide) (rfl) (by simp [Value.oneCell']) (lG (j := 17) rfl) (by unfold maxLen; omega) (by omega) (fun qz qA => ?_)
     refine aj.eO 1 (p := .abs (aH 101 2 qz (j + 1) qA ((fo (((obj S.O tk).ah.take j).map (jO S.O))) ++ [.string (dO (obj S.O tk).ah j), vI ((obj S.O ek).id)]))) (p' := .abs (aH 101 2 qz (j + 1) qA (fo (((obj S.O tk).ah.take (j + 1)).map (jO S.O))))) (by kernel_rfl) (congrArg (fun x => HP.abs (aH 101 2 _ _ _ x)) (uq hj2 GA)) ?_
     refine aj.slot 100 (.slice qz (j + 1) (qA)) (.slice qz ((j + 1)) (qA)) (fun _ => by kernel_rfl) (rfl) ?_
     refine NL ?_
     exact MD (qz, qA) [0, 2, 3, 8, 11, 19, 20, 21, 79, 80, 81, 100] [0, 1, 2, 3, 4, 5, 6, 7, 8, 9, 10, 11, 12, 13, 14, 15, 16, 17]
    rintro ⟨qz, qA⟩
    refine aF.cut (ι := Unit) (fr' := fun (_ : Unit) => (iW f b4 b5 b17 L tk A7 S c8 i cR dH j ++ [(100, .slice qz ((j + 1)) (qA)), (101, .pointer (some ⟨b17, 9, none⟩))])) (hp' := fun (_ : Unit) => ([lC b17 S i tk Ae j ce, zq qz j qA S tk, pS L tk S, qJ b20 L tk, qK cR S tk dH] ++ cO b5 An i cn K S A7 c8 b4 f m t L ++ [iV S L tk, .abs R, zu CC S tk j ek])) [2, 13, 0] rfl rfl ?_ rfl (fun _ => by kernel_rfl) ?_
    ·refine gK 1 [(101, .pointer (some ⟨b17, 9, none⟩))] [] ?_
     refine NL ?_
     exact MD () [0, 2, 3, 8, 11, 19, 20, 21, 79, 80, 81, 100, 101] [0, 1, 2, 3, 4, 5, 6, 7, 8, 9, 10, 11, 12, 13, 14, 15, 16, 17]
    rintro _
    refine aF.last rfl rfl ?_
    refine gC 1 [] [(0, a_ 0 b17)] [(0, [(9, .slice qz ((j + 1)) (qA))])] ?_
    refine NL (ai.np (ai.aQ (NX (af.region ?_))))
    refine gK 2 [(81, vI ↑(j + 1))] [(0, p_ ⟨[], none, none, none, some (vI ↑(j + 1))⟩ [(Value.int .i64 (IntKind.wrap .i64 (((j : Nat) : Int) + 1))) = (.int .i64 ↑(j + 1))] ⟨bI (by omega) (by omega) (by omega), trivial⟩)] ?_
    refine NL ?_
    exact ai.turn ((j + 1), qz, qA) (idx := [0, 2, 3, 8, 11, 19, 20, 21, 79, 80, 81]) (pk := [0, 1, 2, 3, 4, 5, 6, 7, 8, 9, 10, 11, 12, 13, 14, 15, 16]) (show (((j + 1)) ≤ (obj S.O tk).ah.length) from (by omega)) (by show (obj S.O tk).ah.length - ((j + 1)) < (obj S.O tk).ah.length - j; omega) (fun _ => by kernel_rfl) rfl (by kernel_rfl)
   refine af.exit (ai.aW (ai.aW (ai.ck (ai.aQ (NX (af.region ?_))))))
   have hjl : j = (obj S.O tk).ah.length := by omega
   refine aj.mem (aR := ([pE S.O L, lC b17 S i tk Ae j ce, EV Ae j ce S tk, qJ b20 L tk, qK cR S tk dH] ++ cO b5 An i cn K S A7 c8 b4 f m t L ++ [.abs R])) (fun w hS => hS.KZ (i := 15) (j := 2) (idx := [0, 1, 3, 4, 5, 6, 7, 8, 9, 10, 11, 12, 13, 14, 16]) (k := tk) rfl rfl (by kernel_rfl) rfl (hkt)) ?_
   refine gN 4 (fun b32 => [(104, .slice An (i) (cn)), (106, .slice (some ⟨b32, 0, none⟩) (1) (1))]) (fun b32 => [(1, a_ 5 b5), (2, A_ 1 b17 10)]) (fun _ => []) (fun b32 => .blk b32 [vI ((bY S i)), vI 2, vI ((obj S.O tk).mode), vI ((obj S.O tk).uid), vI ((obj S.O tk).gid), vI ((obj S.O tk).sec), vI ((obj S.O tk).nano), .slice none (0) (0), .string ⟨#[]⟩, .slice Ae (j) (ce)] 70) (fun b32 => ?_)
   refine aj.append 6 (d := (some 107)) (t := 22) (e := 70) (z := .agg #[vI 0, vI 0, vI 0, vI 0, vI 0, vI 0, vI 0, .slice none (0) (0), .string ⟨#[]⟩, .slice none (0) (0)]) (size := 10) (bytes := 120) (n := i) (cap := cn) (A := An) (xs := (cg K ((aO S).take i))) (s := (.tmp 104)) (x := (.tmp 106)) (ats := #[22, 22]) (A' := some ⟨b32, 0, none⟩) (m := 1) (c' := 1) (news := [vI ((bY S i)), vI 2, vI ((obj S.O tk).mode), vI ((obj S.O tk).uid), vI ((obj S.O tk).gid), vI ((obj S.O tk).sec), vI ((obj S.O tk).nano), .slice none (0) (0), .string ⟨#[]⟩, .slice Ae (j) (ce)]) (fun _ => by kernel_rfl) rfl (by kernel_rfl) (fun _ => by kernel_rfl) (fun _ => by kernel_rfl) Tryz.underlying22 (by kernel_rfl) rfl (by decide) (rfl) (by simp [Value.oneCell']) (lG (j := 16) rfl) (by unfold maxLen; omega) (by omega) (fun sS sU => ?_)
   refine aj.eO 6 (p := .abs (aH 70 10 sS (i + 1) sU ((cg K ((aO S).take i)) ++ [vI ((bY S i)), vI 2, vI ((obj S.O tk).mode), vI ((obj S.O tk).uid), vI ((obj S.O tk).gid), vI ((obj S.O tk).sec), vI ((obj S.O tk).nano), .slice none (0) (0), .string ⟨#[]⟩, .slice Ae (j) (ce)]))) (p' := .abs (aH 70 10 sS (i + 1) sU (cg (K.put i none 0 Ae ce) ((aO S).take (i + 1))))) (by kernel_rfl) (congrArg (fun x => HP.abs (aH 70 10 _ _ _ x)) (su (cM (by omega)) (pQ hI.toInv0 hi2 jk hlv) rfl (by show ((obj S.O tk).ah.map (jO S.O)).length = j; rw [List.length_map, hjl]))) ?_
   refine aj.slot 107 (.slice sS (i + 1) (sU)) (.slice sS ((i + 1)) (sU)) (fun _ => by kernel_rfl) (rfl) ?_
   refine gC 2 [] [(1, a_ 5 b5)] [(5, [(0, .slice sS ((i + 1)) (sU))])] ?_
   refine NL (ai.aQ (NX (af.region ?_)))
   refine gK 2 [(21, vI ↑(i + 1))] [(0, p_ ⟨[], none, none, none, some (vI ↑(i + 1))⟩ [(Value.int .i64 (IntKind.wrap .i64 (((i : Nat) : Int) + 1))) = (.int .i64 ↑(i + 1))] ⟨bI (by omega) (by omega) (by omega), trivial⟩)] ?_
   refine NL ?_
   refine ai.mem (aR := ([pE S.O L, lC b17 S i tk Ae j ce, EV Ae j ce S tk, qJ b20 L tk, qK cR S tk dH, sB b5 sS i sU, .abs (aH 70 10 sS (i + 1) sU (cg (K.put i none 0 Ae ce) ((aO S).take (i + 1)))), vA S i K, Cy S i K] ++ pU A7 S c8 b4 f m t L ++ [pD S.O L, .abs R, lC b32 S i tk Ae j ce, JL])) (fun w hS => hS.jD (e := 5) (size := 1)) ?_
   refine ai.mem (aR := ([.abs (dY (gu ((aO S).take (i + 1)) (K.put i none 0 Ae ce)) (i + 1)), pE S.O L, lC b17 S i tk Ae j ce, EV Ae j ce S tk, qJ b20 L tk, qK cR S tk dH, sB b5 sS i sU, .abs (aH 70 10 sS (i + 1) sU (cg (K.put i none 0 Ae ce) ((aO S).take (i + 1)))), vA S i K] ++ pU A7 S c8 b4 f m t L ++ [pD S.O L, .abs R, lC b32 S i tk Ae j ce])) (fun w hS => hS.oR (R' := (gu ((aO S).take (i + 1)) (K.put i none 0 Ae ce))) (i := 8) (j := 17) (idx := [0, 1, 2, 3, 4, 5, 6, 7, 9, 10, 11, 12, 13, 14, 15, 16]) rfl rfl (by kernel_rfl) rfl (wA (cM (by omega)) (pQ hI.toInv0 hi2 jk hlv)) (um (cM (by omega)) (pQ hI.toInv0 hi2 jk hlv) rfl)) ?_
   refine ai.mem (aR := [.abs (dY (gS ((aO S).take (i + 1)) (K.put i none 0 Ae ce)) (i + 1)), .abs (dY (gu ((aO S).take (i + 1)) (K.put i none 0 Ae ce)) (i + 1)), .abs (ak (bg S.O L)), .blk b17 [vI ((bY S i)), vI 2, vI ((obj S.O tk).mode), vI ((obj S.O tk).uid), vI ((obj S.O tk).gid), vI ((obj S.O tk).sec), vI ((obj S.O tk).nano), .slice none (0) (0), .string ⟨#[]⟩, .slice Ae (j) (ce)] 70, .blk b20 [.map (some (L.m tk))] 97, .abs (aH 9 1 cR ((obj S.O tk).ah.length) dH (mA (obj S.O tk).ah)), .blk b5 [.slice sS ((i + 1)) (sU)] 24, .abs (aH 70 10 sS (i + 1) sU (cg (K.put i none 0 Ae ce) ((aO S).take (i + 1)))), .abs (aH 3 1 A7 ((keys S.idx).length) c8 (ints (keys S.idx))), .blk b4 [.slice none (0) (0)] 24, .blk f [vI (S.X.cN), vI (S.X.cB), vI (S.X.cH), vI (S.X.cS), vI (S.X.cZ), .map (some m), vP t, vI (S.X.last), vI (S.X.ah), vI (S.X.used)] 86, .abs (aI Tryz.prog 3 m (aM (aJ L S.idx)) S.idx.length), .abs (ak (aN S.O L)), .abs (ak (aY S.O L)), .abs R, .blk b32 [vI ((bY S i)), vI 2, vI ((obj S.O tk).mode), vI ((obj S.O tk).uid), vI ((obj S.O tk).gid), vI ((obj S.O tk).sec), vI ((obj S.O tk).nano), .slice none (0) (0), .string ⟨#[]⟩, .slice Ae (j) (ce)] 70]) (fun w hS => hS.oR (R' := (gS ((aO S).take (i + 1)) (K.put i none 0 Ae ce))) (i := 8) (j := 3) (idx := [0, 1, 2, 4, 5, 6, 7, 9, 10, 11, 12, 13, 14, 15, 16]) rfl rfl (by kernel_rfl) rfl (wB (cM (by omega)) (pQ hI.toInv0 hi2 jk hlv)) ((uo (cM (by omega)) (pQ hI.toInv0 hi2 jk hlv) (by show ((obj S.O tk).ah.map (jO S.O)).length = j; rw [List.length_map, hjl])).trans (by rw [hjl, List.take_length]))) ?_
   exact ai.turn ((i + 1), sS, sU, (K.put i none 0 Ae ce)) (idx := [0, 2, 3, 19, 20, 21]) (pk := [6, 7, 0, 1, 8, 9, 10, 11, 12, 13, 2, 14]) (show (((i + 1)) ≤ S.idx.length) from (by omega)) (by show S.idx.length - ((i + 1)) < S.idx.length - i; omega) (fun _ => by kernel_rfl) rfl (by kernel_rfl)
  have hkt : (obj S.O tk).kind = 3 := hI.kind hlv
  have hel : (obj S.O tk).ah.length ≤ 8192 := hI.eM hlv
  have hdl : (obj S.O tk).data.length ≤ 140737488355328 := hI.Ec hlv
  refine af.region ?_
  refine gK 5 [(28, .map (some m)), (29, vI ((bY S i)))] [(3, a_ 6 f)] ?_
  refine aj.dI 7 (d := (some 30)) (t := 80) (K := 3) (E := 84) (b := m) (n := S.idx.length) (f := (aM (aJ L S.idx))) (x := (.tmp 28)) (ix := (.tmp 29)) (key := .int .i64 ((bY S i))) (z := .nilIface) (kl := (.int .i64 (bY S i))) (r := (some (cI L ⟨tk, 3⟩))) (fun _ => by kernel_rfl) (by kernel_rfl) (fun _ => by kernel_rfl) (fun _ => by kernel_rfl) dr Tryz.underlying80 (fun _ => by kernel_rfl) (gG (zn hI.toInv0 hi2)) (by rw [dJ, hget, jk]; rfl) ?_
  refine gK 1 [(6, .iface 93 (vP (L.b tk)))] [] ?_
  refine NS ?_
  refine gK 1 [(31, .iface 93 (vP (L.b tk)))] [] ?_
  refine gL [] (cr (L.b tk)) ?_
  rintro _ _ ⟨rfl, rfl⟩
  refine gK 1 [(7, vP (L.b tk))] [] ?_
  refine NN (af.seq ?_)
  refine af.oP (S := [pO S.O L]) [0, 1, 3, 4, 5, 6, 7, 8, 9, 10, 11, 12, 13, 14, 15, 16, 17, 18] [.three 2 19 20, .one 21] [8] (by kernel_rfl) (by kernel_rfl) rfl (by kernel_rfl) ?_
  refine fL.reads (rs := []) (fr' := ([(0, vP f), (2, vP b4), (3, vP b5), (6, .iface 93 (vP (L.b tk)))] ++ zw A7 S c8 i ++ [(33, vI (bY S i)), (34, .iface 93 (vP (L.b tk)))] ++ IK S tk)) (aV := [(∀ F w, (ak (aN S.O L)).h F w → w.cell? ⟨(L.b tk), 5, none⟩ = some (vI ((obj S.O tk).nano))), (∀ F w, (ak (aN S.O L)).h F w → w.cell? ⟨(L.b tk), 4, none⟩ = some (vI ((obj S.O tk).sec))), (∀ F w, (ak (aN S.O L)).h F w → w.cell? ⟨(L.b tk), 3, none⟩ = some (vI ((obj S.O tk).gid))), (∀ F w, (ak (aN S.O L)).h F w → w.cell? ⟨(L.b tk), 2, none⟩ = some (vI ((obj S.O tk).uid))), (∀ F w, (ak (aN S.O L)).h F w → w.cell? ⟨(L.b tk), 1, none⟩ = some (vI ((obj S.O tk).mode)))]) [0, 1, 3, 4, 5, 6, 7, 8, 9, 10, 11, 12, 13, 14, 15, 16, 17, 18] [o_, o_, o_, o_, o_, ⟨[.view 0 (.int .i64 ((obj S.O tk).mode))], none, none, none, none⟩, o_, o_, o_, ⟨[.view 0 (.int .i64 ((obj S.O tk).uid))], none, none, none, none⟩, o_, o_, o_, ⟨[.view 0 (.int .i64 ((obj S.O tk).gid))], none, none, none, none⟩, o_, o_, o_, ⟨[.view 0 (.int .i64 ((obj S.O tk).sec)), .view 0 (.int .i64 ((obj S.O tk).nano))], none, none, none, none⟩] [0, 2, 3, 6, 19, 20, 21, 33, 34, 39, 43, 47, 51] (fun _ => by kernel_rfl) ⟨bq (by rw [hkt]; decide) (rfl), bq (by rw [hkt]; decide) (rfl), bq (by rw [hkt]; decide) (rfl), bq (by rw [hkt]; decide) (rfl), bq (by rw [hkt]; decide) (rfl), trivial⟩ ?_
  refine fL.three (ι := Nat) (fa := fun (_ : Unit) => (fS f b4 b5 ++ [(6, .iface 93 (vP (L.b tk)))] ++ qL A7 S c8 i ++ [(33, vI ((bY S i))), (35, vI 3)] ++ iX S tk)) (ha := fun (_ : Unit) => (cO b5 An i cn K S A7 c8 b4 f m t L ++ [pE S.O L, .abs R])) (Gv := Unit) (fb := fun (_ : Unit) => (fS f b4 b5 ++ [(6, .iface 93 (vP (L.b tk)))] ++ qL A7 S c8 i ++ [(52, .agg #[vI ((bY S i)), vI 3, vI ((obj S.O tk).mode), vI ((obj S.O tk).uid), vI ((obj S.O tk).gid), vI ((obj S.O tk).sec), vI ((obj S.O tk).nano), .slice none (0) (0), .string ⟨#[]⟩, .slice none (0) (0)])])) (hb := fun (_ : Unit) => (cO b5 An i cn K S A7 c8 b4 f m t L ++ [pE S.O L, .abs R])) (Gw := Unit) (fc := fun (jE : Nat) => (fS f b4 b5 ++ [(6, .iface 93 (vP (L.b tk)))] ++ jQ jE A7 S c8 i ++ [(35, vI 3)] ++ iX S tk)) (hc := fun (jE : Nat) => (cO b5 An i cn K S A7 c8 b4 f m t L ++ [pE S.O L, .abs R, kP jE])) (Gx := Nat) (fd := fun (kQ : Nat) => (fS f b4 b5 ++ [(6, .iface 93 (vP (L.b tk)))] ++ jQ kQ A7 S c8 i ++ [(34, .iface 93 (vP (L.b tk)))] ++ iX S tk)) (hd := fun (kQ : Nat) => (cO b5 An i cn K S A7 c8 b4 f m t L ++ [pE S.O L, .abs R, kP kQ])) (Gy := Nat) (fe := fun (kQ : Nat) => (fS f b4 b5 ++ [(6, .iface 93 (vP (L.b tk)))] ++ jQ kQ A7 S c8 i ++ [(35, vI 3)] ++ iX S tk)) (he := fun (kQ : Nat) => (cO b5 An i cn K S A7 c8 b4 f m t L ++ [pE S.O L, .abs R, kP kQ])) (Gz := Nat) (fr' := fun (gV : Nat) => ([(0, vP f), (2, vP b4), (3, vP b5), (6, .iface 93 (vP (L.b tk))), (8, vP gV)] ++ zw A7 S c8 i ++ [(52, .agg #[vI (bY S i), vI 3, vI ((obj S.O tk).mode), vI ((obj S.O tk).uid), vI ((obj S.O tk).gid), vI ((obj S.O tk).sec), vI ((obj S.O tk).nano), .slice none (0) (0), .string ⟨#[]⟩, .slice none (0) (0)])])) (hp' := fun (gV : Nat) => (cO b5 An i cn K S A7 c8 b4 f m t L ++ [pE S.O L, .abs R, kP gV])) [8] [8] [8] [8] [8] [8] rfl rfl rfl rfl rfl rfl ?_ ?_ ?_ ?_ ?_ ?_ ?_ ?_ rfl (fun _ => by kernel_rfl) rfl (fun _ => by kernel_rfl) rfl (fun _ => by kernel_rfl) rfl (fun _ => by kernel_rfl) rfl (fun _ => by kernel_rfl) rfl (fun _ => by kernel_rfl) ?_
  ·refine gL [] (j5 (vP (L.b tk))) ?_
   rintro _ _ ⟨rfl, rfl⟩
   refine NL ?_
   exact MD () [0, 2, 3, 6, 19, 20, 21, 33, 35, 39, 43, 47, 51] [0, 1, 2, 3, 4, 5, 6, 7, 8, 9, 10, 11]
  ·rintro _
   refine gK 1 [(52, .agg #[vI ((bY S i)), vI 3, vI ((obj S.O tk).mode), vI ((obj S.O tk).uid), vI ((obj S.O tk).gid), vI ((obj S.O tk).sec), vI ((obj S.O tk).nano), .slice none (0) (0), .string ⟨#[]⟩, .slice none (0) (0)])] [] ?_
   refine NL ?_
   exact MD () [0, 2, 3, 6, 19, 20, 21, 52] [0, 1, 2, 3, 4, 5, 6, 7, 8, 9, 10, 11]
  ·rintro _
   refine gN 1 (fun gV => [(8, vP gV)]) (fun _ => []) (fun _ => []) (fun gV => .blk gV [vI 0, vI 0, vI 0, vI 0, vI 0, vI 0, vI 0, .slice none (0) (0), .string ⟨#[]⟩, .slice none (0) (0)] 70) (fun gV => ?_)
   refine NL ?_
   exact MD gV [0, 2, 3, 6, 8, 19, 20, 21, 52] [0, 1, 2, 3, 4, 5, 6, 7, 8, 9, 10, 11, 12]
  ·rintro _
   refine gN 1 (fun jE => [(8, vP jE)]) (fun _ => []) (fun _ => []) (fun jE => .blk jE [vI 0, vI 0, vI 0, vI 0, vI 0, vI 0, vI 0, .slice none (0) (0), .string ⟨#[]⟩, .slice none (0) (0)] 70) (fun jE => ?_)
   refine NL ?_
   exact MD jE [0, 2, 3, 6, 8, 19, 20, 21, 33, 35, 39, 43, 47, 51] [0, 1, 2, 3, 4, 5, 6, 7, 8, 9, 10, 11, 12]
  ·rintro jE
   show aj _ _ _ _ _ (fS f b4 b5 ++ [(6, .iface 93 (vP (L.b tk)))] ++ jQ jE A7 S c8 i ++ [(35, vI 3)] ++ iX S tk) (cO b5 An i cn K S A7 c8 b4 f m t L ++ [pE S.O L, .abs R, kP jE]) _
   refine gK 1 [(52, .agg #[vI ((bY S i)), vI 3, vI ((obj S.O tk).mode), vI ((obj S.O tk).uid), vI ((obj S.O tk).gid), vI ((obj S.O tk).sec), vI ((obj S.O tk).nano), .slice none (0) (0), .string ⟨#[]⟩, .slice none (0) (0)])] [] ?_
   refine NL ?_
   exact MD jE [0, 2, 3, 6, 8, 19, 20, 21, 52] [0, 1, 2, 3, 4, 5, 6, 7, 8, 9, 10, 11, 12]
  ·refine gN 1 (fun kQ => [(8, vP kQ)]) (fun _ => []) (fun _ => []) (fun kQ => .blk kQ [vI 0, vI 0, vI 0, vI 0, vI 0, vI 0, vI 0, .slice none (0) (0), .string ⟨#[]⟩, .slice none (0) (0)] 70) (fun kQ => ?_)
   refine NL ?_
   exact MD kQ [0, 2, 3, 6, 8, 19, 20, 21, 33, 34, 39, 43, 47, 51] [0, 1, 2, 3, 4, 5, 6, 7, 8, 9, 10, 11, 12]
  ·rintro kQ
   show aj _ _ _ _ _ (fS f b4 b5 ++ [(6, .iface 93 (vP (L.b tk)))] ++ jQ kQ A7 S c8 i ++ [(34, .iface 93 (vP (L.b tk)))] ++ iX S tk) (cO b5 An i cn K S A7 c8 b4 f m t L ++ [pE S.O L, .abs R, kP kQ]) _
   refine gL [] (j5 (vP (L.b tk))) ?_
   rintro _ _ ⟨rfl, rfl⟩
   refine NL ?_
   exact MD kQ [0, 2, 3, 6, 8, 19, 20, 21, 33, 35, 39, 43, 47, 51] [0, 1, 2, 3, 4, 5, 6, 7, 8, 9, 10, 11, 12]
  ·rintro kQ
   show aj _ _ _ _ _ (fS f b4 b5 ++ [(6, .iface 93 (vP (L.b tk)))] ++ jQ kQ A7 S c8 i ++ [(35, vI 3)] ++ iX S tk) (cO b5 An i cn K S A7 c8 b4 f m t L ++ [pE S.O L, .abs R, kP kQ]) _
   refine gK 1 [(52, .agg #[vI ((bY S i)), vI 3, vI ((obj S.O tk).mode), vI ((obj S.O tk).uid), vI ((obj S.O tk).gid), vI ((obj S.O tk).sec), vI ((obj S.O tk).nano), .slice none (0) (0), .string ⟨#[]⟩, .slice none (0) (0)])] [] ?_
   refine NL ?_
   exact MD kQ [0, 2, 3, 6, 8, 19, 20, 21, 52] [0, 1, 2, 3, 4, 5, 6, 7, 8, 9, 10, 11, 12]
  rintro gV
  refine fL.last rfl rfl ?_
  refine gC 1 [] [(0, A_ 12 gV 10)] [(12, ([(0, vI ((bY S i))), (1, vI 3)] ++ IJ S tk))] ?_
  refine NL (ai.np (NX (af.seq (SR ?_))))
  refine gK 1 [(53, .iface 93 (vP (L.b tk)))] [] ?_
  refine NN (af.block (SR ?_))
  refine gK 3 [(55, .bool false), (56, .pointer none)] [] ?_
  refine NN ?_
  refine CF ?_
  refine SR ?_
  refine gK 3 [(64, .bool true), (65, vP (L.b tk))] [] ?_
  refine NN ?_
  refine CT ?_
  refine SR ?_
  refine gK 1 [(10, vP (L.b tk))] [] ?_
  refine NN (af.region ?_)
  refine gC 6 [] [(3, v_ 8 (MZ L hkt)), (5, a_ 12 gV)] [(12, [(8, .string (obj S.O tk).target)])] ?_
  refine NL (ai.aQ (NX (af.region ?_)))
  refine gN 4 (fun vC => [(104, .slice An (i) (cn)), (106, .slice (some ⟨vC, 0, none⟩) (1) (1))]) (fun vC => [(1, a_ 0 b5), (2, A_ 12 gV 10)]) (fun _ => []) (fun vC => .blk vC [vI ((bY S i)), vI 3, vI ((obj S.O tk).mode), vI ((obj S.O tk).uid), vI ((obj S.O tk).gid), vI ((obj S.O tk).sec), vI ((obj S.O tk).nano), .slice none (0) (0), .string (obj S.O tk).target, .slice none (0) (0)] 70) (fun vC => ?_)
  refine aj.append 1 (d := (some 107)) (t := 22) (e := 70) (z := .agg #[vI 0, vI 0, vI 0, vI 0, vI 0, vI 0, vI 0, .slice none (0) (0), .string ⟨#[]⟩, .slice none (0) (0)]) (size := 10) (bytes := 120) (n := i) (cap := cn) (A := An) (xs := (cg K ((aO S).take i))) (s := (.tmp 104)) (x := (.tmp 106)) (ats := #[22, 22]) (A' := some ⟨vC, 0, none⟩) (m := 1) (c' := 1) (news := [vI ((bY S i)), vI 3, vI ((obj S.O tk).mode), vI ((obj S.O tk).uid), vI ((obj S.O tk).gid), vI ((obj S.O tk).sec), vI ((obj S.O tk).nano), .slice none (0) (0), .string (obj S.O tk).target, .slice none (0) (0)]) (fun _ => by kernel_rfl) rfl (by kernel_rfl) (fun _ => by kernel_rfl) (fun _ => by kernel_rfl) Tryz.underlying22 (by kernel_rfl) rfl (by decide) (rfl) (by simp [Value.oneCell']) (lG (j := 13) rfl) (by unfold maxLen; omega) (by omega) (fun oy oz => ?_)
  refine aj.eO 1 (p := .abs (aH 70 10 oy (i + 1) oz ((cg K ((aO S).take i)) ++ [vI ((bY S i)), vI 3, vI ((obj S.O tk).mode), vI ((obj S.O tk).uid), vI ((obj S.O tk).gid), vI ((obj S.O tk).sec), vI ((obj S.O tk).nano), .slice none (0) (0), .string (obj S.O tk).target, .slice none (0) (0)]))) (p' := .abs (aH 70 10 oy (i + 1) oz (cg (K.put i none 0 none 0) ((aO S).take (i + 1))))) (by kernel_rfl) (congrArg (fun x => HP.abs (aH 70 10 _ _ _ x)) (su (cM (by omega)) (nR hI.toInv0 hi2 jk hlv) rfl rfl)) ?_
  refine aj.slot 107 (.slice oy (i + 1) (oz)) (.slice oy ((i + 1)) (oz)) (fun _ => by kernel_rfl) (rfl) ?_
  refine gC 2 [] [(1, a_ 0 b5)] [(0, [(0, .slice oy ((i + 1)) (oz))])] ?_
  refine NL (ai.aQ (NX (af.region ?_)))
  refine gK 2 [(21, vI ↑(i + 1))] [(0, p_ ⟨[], none, none, none, some (vI ↑(i + 1))⟩ [(Value.int .i64 (IntKind.wrap .i64 (((i : Nat) : Int) + 1))) = (.int .i64 ↑(i + 1))] ⟨bI (by omega) (by omega) (by omega), trivial⟩)] ?_
  refine NL ?_
  refine ai.mem (aR := ([sB b5 oy i oz, EW oy i oz K S, vA S i K, Cy S i K] ++ pU A7 S c8 b4 f m t L ++ [pD S.O L, pE S.O L, .abs R, ur gV S i tk, ur vC S i tk, JL])) (fun w hS => hS.jD (e := 5) (size := 1)) ?_
  refine ai.mem (aR := ([sB b5 oy i oz, EW oy i oz K S, vA S i K, Cy S i K] ++ pU A7 S c8 b4 f m t L ++ [pD S.O L, pE S.O L, .abs R, ur gV S i tk, ur vC S i tk, JL, EU])) (fun w hS => hS.jD (e := 101) (size := 2)) ?_
  refine ai.mem (aR := ([.abs (dY (gu ((aO S).take (i + 1)) (K.put i none 0 none 0)) (i + 1)), sB b5 oy i oz, EW oy i oz K S, vA S i K] ++ pU A7 S c8 b4 f m t L ++ [pD S.O L, pE S.O L, .abs R, ur gV S i tk, ur vC S i tk, EU])) (fun w hS => hS.oR (R' := (gu ((aO S).take (i + 1)) (K.put i none 0 none 0))) (i := 3) (j := 14) (idx := [0, 1, 2, 4, 5, 6, 7, 8, 9, 10, 11, 12, 13, 15]) rfl rfl (by kernel_rfl) rfl (wA (cM (by omega)) (nR hI.toInv0 hi2 jk hlv)) (um (cM (by omega)) (nR hI.toInv0 hi2 jk hlv) rfl)) ?_
  refine ai.mem (aR := ([.abs (dY (gS ((aO S).take (i + 1)) (K.put i none 0 none 0)) (i + 1)), .abs (dY (gu ((aO S).take (i + 1)) (K.put i none 0 none 0)) (i + 1)), sB b5 oy i oz, EW oy i oz K S] ++ pU A7 S c8 b4 f m t L ++ [pD S.O L, pE S.O L, .abs R, ur gV S i tk, ur vC S i tk])) (fun w hS => hS.oR (R' := (gS ((aO S).take (i + 1)) (K.put i none 0 none 0))) (i := 3) (j := 14) (idx := [0, 1, 2, 4, 5, 6, 7, 8, 9, 10, 11, 12, 13]) rfl rfl (by kernel_rfl) rfl (wB (cM (by omega)) (nR hI.toInv0 hi2 jk hlv)) ((uo (cM (by omega)) (nR hI.toInv0 hi2 jk hlv) rfl))) ?_
  exact ai.turn ((i + 1), oy, oz, (K.put i none 0 none 0)) (idx := [0, 2, 3, 19, 20, 21]) (pk := [2, 3, 0, 1, 4, 5, 6, 7, 8, 9, 10, 11]) (show (((i + 1)) ≤ S.idx.length) from (by omega)) (by show S.idx.length - ((i + 1)) < S.idx.length - i; omega) (fun _ => by kernel_rfl) rfl (by kernel_rfl)
 refine af.exit (ai.aW (ai.aW (ai.ck (NX (SR ?_)))))
 have hie : (aO S).length = i := by rw [mB]; omega
 have hgt : ((aO S).take i) = (aO S) := by rw [← hie, List.take_length]
 refine aj.eO 1 (p := .abs (aH 70 10 An i cn (cg K ((aO S).take i)))) (p' := .abs (aH 70 10 An ((aO S).length) cn (cg K (aO S)))) (by kernel_rfl) (by rw [hgt, hie]) ?_
 refine aj.eO 2 (p := .abs (dY (gS ((aO S).take i) K) i)) (p' := .abs (dY (gS (aO S) K) ((aO S).length))) (by kernel_rfl) (by rw [hgt, hie]) ?_
 refine aj.eO 3 (p := .abs (dY (gu ((aO S).take i) K) i)) (p' := .abs (dY (gu (aO S) K) ((aO S).length))) (by kernel_rfl) (by rw [hgt, hie]) ?_
 refine gC 2 [] [(0, a_ 0 b5), (1, a_ 5 b4)] [(5, [(0, .slice An (i) (cn))])] ?_
 refine NN (af.ret ?_)
 exact ai.ret (v := .agg #[.slice An (i) (cn)]) (l := [pF f m t S.X, pI m L S.idx, pO S.O L, pD S.O L, pE S.O L, .abs (aH 70 10 An ((aO S).length) cn (cg K (aO S))), .abs (dY (gS (aO S) K) ((aO S).length)), .abs (dY (gu (aO S) K) ((aO S).length))]) (aV := [b4 = b4]) [.at 5] [6, 7, 8, 9, 10, 1, 2, 3, 11] (fun _ => by kernel_rfl) ⟨rfl, trivial⟩ rfl (by kernel_rfl) (⟨An, cn, K, by rw [hie], rfl⟩)
end
section
open Go.RowKit Go.Maps HeapM TabM
attribute [local irreducible] aj aT af ai
theorem uX {β : Bs} (S : aG) (L : HL) (f : Nat) (hI : Inv S) (d : Nat) (hd : Live S.idx ⟨d, 2⟩) (path : ByteArray) (hsz : path.size ≤ 1048576) (hg : fV β) :
    Spec Tryz.prog β 53 #[vP f, vP (L.b d), .string path] [.abs (ak (aN S.O L)), .abs (ak (bg S.O L))] (fun v l => v = wu L (gP S.O d path) ∧ l = [.abs (ak (aN S.O L)), .abs (ak (bg S.O L))]) := by
 have hkd : (obj S.O d).kind = 2 := hI.kind hd
 obtain ⟨ps, hps⟩ : ∃ ps, ps = gE path := ⟨_, rfl⟩
 have hpl : 1 ≤ ps.length ∧ ps.length ≤ 1048577 := by rw [hps, xX]; have := ug path; omega
 have GD : ∀ q, q < ps.length → (pc ps q).size ≤ 1048576 := fun q hq => Nat.le_trans (Da (hps ▸ Gl hq)) hsz
 refine Spec.enter Tryz.func53 rfl Tryz.ntmps53 (Nat.le_of_ble_eq_true rfl) (fun R => ?_)
 refine SR ?_
 refine gK 3 [] [] ?_
 refine NS ?_
 refine gK 1 [(19, .string path)] [] ?_
 refine gL [] (Gj hg path hsz hps) ?_
 rintro _ _ ⟨b1, rfl, rfl⟩
 refine gK 1 [(9, .slice (some ⟨b1, 0, none⟩) (ps.length) (ps.length))] [] ?_
 refine NN (af.seq (SR ?_))
 refine gK 3 [(21, .slice (some ⟨b1, 0, none⟩) (ps.length) (ps.length)), (22, vI ↑ps.length), (23, vI 0)] [] ?_
 refine NN (af.block ?_)
 refine af.loop (ι := Nat) (fun (j : Nat) => (j ≤ ps.length) ∧ (∀ q, q < j → bw (pc ps q))) (fun (j : Nat) => ps.length - j) (fun (j : Nat) => [(1, vP (L.b d)), (9, .slice (some ⟨b1, 0, none⟩) (ps.length) (ps.length)), (21, .slice (some ⟨b1, 0, none⟩) (ps.length) (ps.length)), (22, vI ↑ps.length), (23, vI ↑j)]) (fun (j : Nat) => [pO S.O L, pE S.O L, .abs (aH 9 1 (some ⟨b1, 0, none⟩) ps.length ps.length (jM ps)), .abs R]) 0 (idx := [1, 9, 21, 22, 23]) (pk := [1, 2, 0, 3]) (show (0 ≤ ps.length) ∧ (∀ q, q < 0 → bw (pc ps q)) from ⟨Nat.zero_le _, fun q h => absurd h (Nat.not_lt_zero q)⟩) (fun _ => by kernel_rfl) rfl (by kernel_rfl) ?_
 rintro j ⟨hj, hgd⟩
 show af _ _ _ _ [(1, vP (L.b d)), (9, .slice (some ⟨b1, 0, none⟩) (ps.length) (ps.length)), (21, .slice (some ⟨b1, 0, none⟩) (ps.length) (ps.length)), (22, vI ↑ps.length), (23, vI ↑j)] [pO S.O L, pE S.O L, .abs (aH 9 1 (some ⟨b1, 0, none⟩) ps.length ps.length (jM ps)), .abs R] _
 refine SR ?_
 refine gK 1 [(24, .bool (decide ((((j : Nat) : Int) : Int) < (((ps.length : Nat) : Int) : Int))))] [] ?_
 refine NN (af.seq ?_)
 refine af.bB (p := (((j : Nat) : Int) : Int) < (((ps.length : Nat) : Int) : Int)) (fun _ => by kernel_rfl) (fun xW => ?_) (fun xW => ?_)
 ·refine af.skip (NX (af.seq (af.block (SR ?_))))
  refine gK 3 [(11, .string (pc ps j))] [(0, p_ ⟨[], some j, none, none, some (.pointer (some ⟨b1, j, none⟩))⟩ [(Value.pointer (some ⟨b1, 0 + j * 1, none⟩)) = (.pointer (some ⟨b1, j, none⟩)), ((j : Nat) : Int) = ((j : Nat) : Int), j < ps.length, (⟨b1, 0, none⟩ : Addr).spot = none] ⟨by simp, rfl, by omega, rfl, trivial⟩), (1, p_ ⟨[.view 2 (.string (pc ps j))], none, none, none, none⟩ [(∀ F w, (aH 9 1 (some ⟨b1, 0, none⟩) ps.length ps.length (jM ps)).h F w → w.cell? ⟨b1, j, none⟩ = some (.string (pc ps j)))] ⟨aH.cell (wq (by omega)), trivial⟩)] ?_
  refine NS ?_
  refine gK 1 [(27, .string (pc ps j))] [] ?_
  refine gL [] (mq (pc ps j) (by have := GD j (by omega); omega)) ?_
  rintro _ _ ⟨rfl, rfl⟩
  refine gK 1 [(29, .bool (!(decide (bw (pc ps j)))))] [] ?_
  refine NN ?_
  refine af.ct (p := bw (pc ps j)) (fun _ => by kernel_rfl) (fun GF => ?_) (fun GF => ?_)
  ·refine SR ?_
   refine gK 3 [(6, .pointer none), (7, .string ⟨#[]⟩), (8, vI 95)] [] ?_
   refine NN (af.ret (ai.aE (ai.aq (ai.aq (ai.aE (ai.aq ?_))))))
   exact RT (l := [.abs (ak (aN S.O L)), .abs (ak (bg S.O L))]) (.tuple #[.pointer none, .string ⟨#[]⟩, vI 95]) [0, 1, 3] (⟨congrArg (wu L) (Eq.symm (show gP S.O d path = .error 95 from if_neg (fun h => GF (Ci.1 (hps ▸ h) j (by omega))))), rfl⟩)
  refine af.skip (ai.aQ (NX (af.region ?_)))
  refine gK 2 [(23, vI ↑(j + 1))] [(0, p_ ⟨[], none, none, none, some (vI ↑(j + 1))⟩ [(Value.int .i64 (IntKind.wrap .i64 (((j : Nat) : Int) + 1))) = (.int .i64 ↑(j + 1))] ⟨bI (by omega) (by omega) (by omega), trivial⟩)] ?_
  refine NL ?_
  exact ai.turn ((j + 1)) (idx := [1, 9, 21, 22, 23]) (pk := [0, 1, 2, 3]) (show (((j + 1)) ≤ ps.length) ∧ (∀ q, q < ((j + 1)) → bw (pc ps q)) from ⟨by omega, fun q hq => (Nat.lt_succ_iff_lt_or_eq.1 hq).elim (hgd q) (fun e => e ▸ GF)⟩) (by show ps.length - ((j + 1)) < ps.length - j; omega) (fun _ => by kernel_rfl) rfl (by kernel_rfl)
 refine af.exit (ai.aW (ai.aW (ai.ck (NX (SR ?_)))))
 have hall : ∀ p ∈ ps, bw p := Ci.2 (fun q hq => hgd q (by omega))
 refine gK 4 [(12, vI ↑(ps.length - 1))] [(2, p_ ⟨[], none, none, none, some (vI ↑(ps.length - 1))⟩ [(Value.int .i64 (IntKind.wrap .i64 (((ps.length : Nat) : Int) - 1))) = (.int .i64 ↑(ps.length - 1))] ⟨bI (by omega) (by omega) (by omega), trivial⟩)] ?_
 refine NN (af.seq (SR ?_))
 refine gK 5 [(36, .slice (some ⟨b1, 0, none⟩) ((ps.length - 1)) (ps.length)), (37, vI ↑(ps.length - 1)), (38, vI 0)] [(2, p_ ⟨[], some (ps.length - 1), none, none, none⟩ [(((ps.length - 1) : Nat) : Int) = (((ps.length - 1) : Nat) : Int), (ps.length - 1) ≤ ps.length] ⟨rfl, by omega, trivial⟩)] ?_
 refine NN (af.block ?_)
 refine af.loop (ι := Nat × Nat) (fun ((j, e) : Nat × Nat) => (j ≤ ps.length - 1) ∧ (Live S.idx ⟨e, 2⟩) ∧ (iE S.O d ps = iE S.O e (ps.drop j))) (fun ((j, e) : Nat × Nat) => ps.length - 1 - j) (fun ((j, e) : Nat × Nat) => [(1, vP (L.b e)), (9, .slice (some ⟨b1, 0, none⟩) (ps.length) (ps.length)), (12, vI ↑(ps.length - 1)), (36, .slice (some ⟨b1, 0, none⟩) ((ps.length - 1)) (ps.length)), (37, vI ↑(ps.length - 1)), (38, vI ↑j)]) (fun ((j, e) : Nat × Nat) => [pO S.O L, pE S.O L, .abs (aH 9 1 (some ⟨b1, 0, none⟩) ps.length ps.length (jM ps)), .abs R]) (0, d) (idx := [1, 9, 12, 36, 37, 38]) (pk := [0, 1, 2, 3]) (show (0 ≤ ps.length - 1) ∧ (Live S.idx ⟨d, 2⟩) ∧ (iE S.O d ps = iE S.O d (ps.drop 0)) from ⟨Nat.zero_le _, hd, by rw [List.drop_zero]⟩) (fun _ => by kernel_rfl) rfl (by kernel_rfl) ?_
 rintro ⟨j, e⟩ ⟨hj, hle, hw⟩
 show af _ _ _ _ [(1, vP (L.b e)), (9, .slice (some ⟨b1, 0, none⟩) (ps.length) (ps.length)), (12, vI ↑(ps.length - 1)), (36, .slice (some ⟨b1, 0, none⟩) ((ps.length - 1)) (ps.length)), (37, vI ↑(ps.length - 1)), (38, vI ↑j)] [pO S.O L, pE S.O L, .abs (aH 9 1 (some ⟨b1, 0, none⟩) ps.length ps.length (jM ps)), .abs R] _
 have hke : (obj S.O e).kind = 2 := hI.kind hle
 refine SR ?_
 refine gK 1 [(39, .bool (decide ((((j : Nat) : Int) : Int) < ((((ps.length - 1) : Nat) : Int) : Int))))] [] ?_
 refine NN (af.seq ?_)
 refine af.bB (p := (((j : Nat) : Int) : Int) < ((((ps.length - 1) : Nat) : Int) : Int)) (fun _ => by kernel_rfl) (fun mI => ?_) (fun mI => ?_)
 ·have mz : (pc ps j).size ≤ 1048576 := GD j (by omega)
  have hee : (obj S.O e).ah.length ≤ 8192 := hI.eM hle
  refine af.skip (NX (af.seq (af.block (SR ?_))))
  refine gK 3 [(14, .string (pc ps j))] [(0, p_ ⟨[], some j, none, none, some (.pointer (some ⟨b1, j, none⟩))⟩ [(Value.pointer (some ⟨b1, 0 + j * 1, none⟩)) = (.pointer (some ⟨b1, j, none⟩)), ((j : Nat) : Int) = ((j : Nat) : Int), j < (ps.length - 1), (⟨b1, 0, none⟩ : Addr).spot = none] ⟨by simp, rfl, by omega, rfl, trivial⟩), (1, p_ ⟨[.view 2 (.string (pc ps j))], none, none, none, none⟩ [(∀ F w, (aH 9 1 (some ⟨b1, 0, none⟩) ps.length ps.length (jM ps)).h F w → w.cell? ⟨b1, j, none⟩ = some (.string (pc ps j)))] ⟨aH.cell (wq (by omega)), trivial⟩)] ?_
  refine NN (af.seq ?_)
  rcases hI.jS hle (pc ps j) with hlk | ⟨tk, hlk, hlv⟩ | ⟨tk, hlk, hlv⟩ | ⟨tk, hlk, hlv⟩
  ·refine af.region ?_
   refine gK 5 [(45, .map (some (L.m e))), (46, .string (pc ps j))] [(3, v_ 0 (bC L hke))] ?_
   refine fK 1 hke hlk ?_
   refine NN (af.block (SR ?_))
   refine gK 1 [(48, .bool true)] [] ?_
   refine NN ?_
   refine CT ?_
   refine SR ?_
   refine gK 1 [] [] ?_
   refine NS ?_
   refine gK 3 [(6, .pointer none), (7, .string ⟨#[]⟩), (8, vI 170)] [] ?_
   refine NN (af.ret (ai.aE (ai.aE (ai.aq (ai.aq (ai.aE (ai.aq ?_)))))))
   exact RT (l := [.abs (ak (aN S.O L)), .abs (ak (bg S.O L))]) (.tuple #[.pointer none, .string ⟨#[]⟩, vI 170]) [0, 1, 3] (⟨congrArg (wu L) (Eq.symm (show gP S.O d path = .error 170 from (show gP S.O d path = iE S.O d ps by unfold gP; rw [← hps]; exact if_pos hall).trans (hw.trans ((qu (by omega)).trans (by rw [hlk] <;> rfl))))), rfl⟩)
  ·have hkt : (obj S.O tk).kind = 1 := hI.kind hlv
   refine af.region ?_
   refine gK 5 [(45, .map (some (L.m e))), (46, .string (pc ps j))] [(3, v_ 0 (bC L hke))] ?_
   refine fK 1 hke hlk ?_
   refine NN (af.block (SR ?_))
   refine gK 1 [(48, .bool false)] [] ?_
   refine NN ?_
   refine CF ?_
   refine SR ?_
   refine gK 3 [(50, .bool false), (51, .pointer none)] [] ?_
   refine NN ?_
   refine CF ?_
   refine SR ?_
   refine gK 3 [(53, .bool true), (54, vP (L.b tk))] [] ?_
   refine NN ?_
   refine CT ?_
   refine SR ?_
   refine gK 1 [] [] ?_
   refine NS ?_
   refine gK 3 [(6, .pointer none), (7, .string ⟨#[]⟩), (8, vI 173)] [] ?_
   refine NN (af.ret (ai.aE (ai.aE (ai.aq (ai.aq (ai.aE (ai.aq ?_)))))))
   exact RT (l := [.abs (ak (aN S.O L)), .abs (ak (bg S.O L))]) (.tuple #[.pointer none, .string ⟨#[]⟩, vI 173]) [0, 1, 3] (⟨congrArg (wu L) (Eq.symm (show gP S.O d path = .error 173 from (show gP S.O d path = iE S.O d ps by unfold gP; rw [← hps]; exact if_pos hall).trans (hw.trans ((qu (by omega)).trans (by rw [hlk] <;> rfl))))), rfl⟩)
  ·have hkt : (obj S.O tk).kind = 2 := hI.kind hlv
   refine af.region ?_
   refine gK 5 [(45, .map (some (L.m e))), (46, .string (pc ps j))] [(3, v_ 0 (bC L hke))] ?_
   refine fK 1 hke hlk ?_
   refine NN (af.block (SR ?_))
   refine gK 1 [(48, .bool false)] [] ?_
   refine NN ?_
   refine CF ?_
   refine SR ?_
   refine gK 3 [(50, .bool false), (51, .pointer none)] [] ?_
   refine NN ?_
   refine CF ?_
   refine SR ?_
   refine gK 3 [(53, .bool false), (54, .pointer none)] [] ?_
   refine NN ?_
   refine CF ?_
   refine SR ?_
   refine gK 3 [(56, .bool true), (57, vP (L.b tk))] [] ?_
   refine NN ?_
   refine CT ?_
   refine SR ?_
   refine gK 1 [(18, vP (L.b tk))] [] ?_
   refine NN (af.region ?_)
   refine gK 2 [(1, vP (L.b tk))] [] ?_
   refine NL (ai.aQ (ai.aQ (NX (af.region ?_))))
   refine gK 2 [(38, vI ↑(j + 1))] [(0, p_ ⟨[], none, none, none, some (vI ↑(j + 1))⟩ [(Value.int .i64 (IntKind.wrap .i64 (((j : Nat) : Int) + 1))) = (.int .i64 ↑(j + 1))] ⟨bI (by omega) (by omega) (by omega), trivial⟩)] ?_
   refine NL ?_
   exact ai.turn ((j + 1), tk) (idx := [1, 9, 12, 36, 37, 38]) (pk := [0, 1, 2, 3]) (show (((j + 1)) ≤ ps.length - 1) ∧ (Live S.idx ⟨tk, 2⟩) ∧ (iE S.O d ps = iE S.O tk (ps.drop ((j + 1)))) from ⟨by omega, hlv, hw.trans ((qu (by omega)).trans (by rw [hlk] <;> rfl))⟩) (by show ps.length - 1 - ((j + 1)) < ps.length - 1 - j; omega) (fun _ => by kernel_rfl) rfl (by kernel_rfl)
  have hkt : (obj S.O tk).kind = 3 := hI.kind hlv
  refine af.region ?_
  refine gK 5 [(45, .map (some (L.m e))), (46, .string (pc ps j))] [(3, v_ 0 (bC L hke))] ?_
  refine fK 1 hke hlk ?_
  refine NN (af.block (SR ?_))
  refine gK 1 [(48, .bool false)] [] ?_
  refine NN ?_
  refine CF ?_
  refine SR ?_
  refine gK 3 [(50, .bool true), (51, vP (L.b tk))] [] ?_
  refine NN ?_
  refine CT ?_
  refine SR ?_
  refine gK 1 [] [] ?_
  refine NS ?_
  refine gK 3 [(6, .pointer none), (7, .string ⟨#[]⟩), (8, vI 174)] [] ?_
  refine NN (af.ret (ai.aE (ai.aE (ai.aq (ai.aq (ai.aE (ai.aq ?_)))))))
  exact RT (l := [.abs (ak (aN S.O L)), .abs (ak (bg S.O L))]) (.tuple #[.pointer none, .string ⟨#[]⟩, vI 174]) [0, 1, 3] (⟨congrArg (wu L) (Eq.symm (show gP S.O d path = .error 174 from (show gP S.O d path = iE S.O d ps by unfold gP; rw [← hps]; exact if_pos hall).trans (hw.trans ((qu (by omega)).trans (by rw [hlk] <;> rfl))))), rfl⟩)
 have ej : j = ps.length - 1 := by omega
 refine af.exit (ai.aW (ai.aW (ai.ck (NX (af.seq (SR ?_))))))
 refine gK 5 [(64, .bool (obj S.O e).gone)] [(4, v_ 0 (kM L hke))] ?_
 refine NN ?_
 refine af.cond (b := (obj S.O e).gone) (fun _ => by kernel_rfl) (fun L5 => ?_) (fun L5 => ?_)
 ·refine SR ?_
  refine gK 3 [(6, .pointer none), (7, .string ⟨#[]⟩), (8, vI 170)] [] ?_
  refine NN (af.ret (ai.aq ?_))
  exact RT (l := [.abs (ak (aN S.O L)), .abs (ak (bg S.O L))]) (.tuple #[.pointer none, .string ⟨#[]⟩, vI 170]) [0, 1, 3] (⟨congrArg (wu L) (Eq.symm ((show gP S.O d path = iE S.O d ps by unfold gP; rw [← hps]; exact if_pos hall).trans (hw.trans ((Af (by omega)).trans (if_pos L5))))), rfl⟩)
 refine af.skip (NX (af.seq ?_))
 refine af.bG (by kernel_rfl) (by kernel_rfl) ?_
 refine gQ 8 [(6, vP (L.b e)), (7, .string (pc ps (ps.length - 1))), (8, vI 0)] [(3, p_ ⟨[], some (ps.length - 1), none, none, some (.pointer (some ⟨b1, (ps.length - 1), none⟩))⟩ [(Value.pointer (some ⟨b1, 0 + (ps.length - 1) * 1, none⟩)) = (.pointer (some ⟨b1, (ps.length - 1), none⟩)), (((ps.length - 1) : Nat) : Int) = (((ps.length - 1) : Nat) : Int), (ps.length - 1) < ps.length, (⟨b1, 0, none⟩ : Addr).spot = none] ⟨by simp, rfl, by omega, rfl, trivial⟩), (4, p_ ⟨[.view 2 (.string (pc ps (ps.length - 1)))], none, none, none, none⟩ [(∀ F w, (aH 9 1 (some ⟨b1, 0, none⟩) ps.length ps.length (jM ps)).h F w → w.cell? ⟨b1, (ps.length - 1), none⟩ = some (.string (pc ps (ps.length - 1))))] ⟨aH.cell (wq (by omega)), trivial⟩)] ?_
 refine NQ (NX (af.ret ?_))
 exact RT (l := [.abs (ak (aN S.O L)), .abs (ak (bg S.O L))]) (.tuple #[vP (L.b e), .string (pc ps (ps.length - 1)), vI 0]) [0, 1, 3] (⟨by rw [← ej]; exact congrArg (wu L) (Eq.symm (show gP S.O d path = .ok (e, pc ps j) from (show gP S.O d path = iE S.O d ps by unfold gP; rw [← hps]; exact if_pos hall).trans (hw.trans ((Af (by omega)).trans (if_neg (by rw [L5]; exact Bool.false_ne_true)))))), rfl⟩)
end
section
open Go.RowKit Go.Maps HeapM TabM
attribute [local irreducible] aj aT af ai
theorem Kl {β : Bs} (S : aG) (L : HL) (f m t : Nat) (hI : Inv S) (root : Int) (hrw : (Lit.int .i64 root).wf = true) (a : yZ) (GD : a.path.size ≤ 1048576) (JA : a.to.size ≤ 1048576) (hxz : a.text.size ≤ 1048576) (hg : fV β) :
    Spec Tryz.prog β 22 #[vP f, vI (root), .agg #[vI (a.at_), vI (a.op), .string a.path, .string a.to, .string a.text]] [.blk f [vI (S.X.cN), vI (S.X.cB), vI (S.X.cH), vI (S.X.cS), vI (S.X.cZ), .map (some m), vP t, vI (S.X.last), vI (S.X.ah), vI (S.X.used)] 86, .abs (aI Tryz.prog 3 m (aM (aJ L S.idx)) S.idx.length), .abs (bp 156 t S.X.cH S.au (aJ L S.us)), .abs (ak (aN S.O L)), .abs (ak (aY S.O L)), .abs (ak (bg S.O L))] (fun v l => ∃ L2, v = vI (actM S root a).1 ∧ l = [.blk f [vI ((actM S root a).2.X.cN), vI ((actM S root a).2.X.cB), vI ((actM S root a).2.X.cH), vI ((actM S root a).2.X.cS), vI ((actM S root a).2.X.cZ), .map (some m), vP t, vI ((actM S root a).2.X.last), vI ((actM S root a).2.X.ah), vI ((actM S root a).2.X.used)] 86, .abs (aI Tryz.prog 3 m (aM (aJ L2 (actM S root a).2.idx)) ((actM S root a).2.idx.length)), .abs (bp 156 t (actM S root a).2.X.cH ((actM S root a).2.au) (aJ L2 ((actM S root a).2.us))), .abs (ak (aN ((actM S root a).2.O) L2)), .abs (ak (aY ((actM S root a).2.O) L2)), .abs (ak (bg ((actM S root a).2.O) L2))]) := by
 have hX := hI.hX
 refine Spec.enter Tryz.func22 rfl Tryz.ntmps22 (Nat.le_of_ble_eq_true rfl) (fun R => ?_)
 refine SR ?_
 refine gN 2 (fun b1 => [(5, vP b1)]) (fun _ => []) (fun _ => []) (fun b1 => .blk b1 [vI (a.at_), vI (a.op), .string a.path, .string a.to, .string a.text] 45) (fun b1 => ?_)
 refine NN (af.seq (SR ?_))
 refine gK 4 [(25, .bool (decide ((a.op : Int) < (1 : Int))))] [(1, a_ 7 b1)] ?_
 refine aj.fk 25 ((a.op : Int) < (1 : Int)) (fun _ => by kernel_rfl) (fun qU => ?_) (fun qU => ?_)
 ·refine gK 4 [(29, .bool true)] [] ?_
  refine NN ?_
  refine CT ?_
  refine SR ?_
  refine gK 1 [(6, vI 230)] [] ?_
  refine NN (af.ret (ai.aq ?_))
  exact RT (vI 230) [0, 1, 2, 3, 4, 5, 6] (⟨L, by rw [show (actM S root a) = (230, S) by unfold actM; exact if_pos (by omega)] <;> exact ⟨rfl, rfl⟩⟩)
 refine gK 4 [(29, .bool (decide ((a.op : Int) > (7 : Int))))] [(1, a_ 7 b1)] ?_
 refine NN ?_
 refine af.bB (p := (a.op : Int) > (7 : Int)) (fun _ => by kernel_rfl) (fun GF => ?_) (fun GF => ?_)
 ·refine SR ?_
  refine gK 1 [(6, vI 230)] [] ?_
  refine NN (af.ret (ai.aq ?_))
  exact RT (vI 230) [0, 1, 2, 3, 4, 5, 6] (⟨L, by rw [show (actM S root a) = (230, S) by unfold actM; exact if_pos (by omega)] <;> exact ⟨rfl, rfl⟩⟩)
 refine af.skip (NX (af.seq ?_))
 rcases hI.Ld root with hix | ⟨tk, hix, hlv⟩ | ⟨tk, hix, hlv⟩ | ⟨tk, hix, hlv⟩
 ·refine af.region ?_
  refine gK 5 [(33, .map (some m)), (34, vI (root))] [(3, a_ 0 f)] ?_
  refine aj.dI 1 (d := (some 35)) (t := 80) (K := 3) (E := 84) (b := m) (n := S.idx.length) (f := (aM (aJ L S.idx))) (x := (.tmp 33)) (ix := (.tmp 34)) (key := .int .i64 (root)) (z := .nilIface) (kl := (.int .i64 root)) (r := none) (fun _ => by kernel_rfl) (by kernel_rfl) (fun _ => by kernel_rfl) (fun _ => by kernel_rfl) dr Tryz.underlying80 (fun _ => by kernel_rfl) (gG hrw) (by rw [dJ, hix]; rfl) ?_
  refine gK 1 [(7, .nilIface)] [] ?_
  refine NN (af.seq (SR ?_))
  refine gK 2 [(37, .bool true)] [] ?_
  refine NN ?_
  refine CT ?_
  refine SR ?_
  refine gK 1 [(6, vI 141)] [] ?_
  refine NN (af.ret (ai.aq ?_))
  exact RT (vI 141) [0, 1, 2, 3, 4, 5, 6] (⟨L, by rw [show (actM S root a) = (141, S) by unfold actM; rw [if_neg (by omega), hix]] <;> exact ⟨rfl, rfl⟩⟩)
 ·have hkt : (obj S.O tk).kind = 1 := hI.kind hlv
  refine af.region ?_
  refine gK 5 [(33, .map (some m)), (34, vI (root))] [(3, a_ 0 f)] ?_
  refine aj.dI 1 (d := (some 35)) (t := 80) (K := 3) (E := 84) (b := m) (n := S.idx.length) (f := (aM (aJ L S.idx))) (x := (.tmp 33)) (ix := (.tmp 34)) (key := .int .i64 (root)) (z := .nilIface) (kl := (.int .i64 root)) (r := (some (cI L ⟨tk, 1⟩))) (fun _ => by kernel_rfl) (by kernel_rfl) (fun _ => by kernel_rfl) (fun _ => by kernel_rfl) dr Tryz.underlying80 (fun _ => by kernel_rfl) (gG hrw) (by rw [dJ, hix]; rfl) ?_
  refine gK 1 [(7, .iface 89 (vP (L.b tk)))] [] ?_
  refine NN (af.seq (SR ?_))
  refine gK 2 [(37, .bool false)] [] ?_
  refine NN ?_
  refine CF ?_
  refine af.skip (NX (SR ?_))
  refine gK 7 [(8, .pointer none), (9, .bool false)] [] ?_
  refine NN (af.seq (SR ?_))
  refine gK 2 [(44, .bool true)] [] ?_
  refine NN ?_
  refine CT ?_
  refine SR ?_
  refine gK 1 [(6, vI 173)] [] ?_
  refine NN (af.ret (ai.aq ?_))
  exact RT (vI 173) [0, 1, 2, 3, 4, 5, 6] (⟨L, by rw [show (actM S root a) = (173, S) by unfold actM; rw [if_neg (by omega), hix]; simp only; exact if_neg (by simp)] <;> exact ⟨rfl, rfl⟩⟩)
 ·have hkt : (obj S.O tk).kind = 2 := hI.kind hlv
  refine af.region ?_
  refine gK 5 [(33, .map (some m)), (34, vI (root))] [(3, a_ 0 f)] ?_
  refine aj.dI 1 (d := (some 35)) (t := 80) (K := 3) (E := 84) (b := m) (n := S.idx.length) (f := (aM (aJ L S.idx))) (x := (.tmp 33)) (ix := (.tmp 34)) (key := .int .i64 (root)) (z := .nilIface) (kl := (.int .i64 root)) (r := (some (cI L ⟨tk, 2⟩))) (fun _ => by kernel_rfl) (by kernel_rfl) (fun _ => by kernel_rfl) (fun _ => by kernel_rfl) dr Tryz.underlying80 (fun _ => by kernel_rfl) (gG hrw) (by rw [dJ, hix]; rfl) ?_
  refine gK 1 [(7, .iface 96 (vP (L.b tk)))] [] ?_
  refine NN (af.seq (SR ?_))
  refine gK 2 [(37, .bool false)] [] ?_
  refine NN ?_
  refine CF ?_
  refine af.skip (NX (SR ?_))
  refine gK 7 [(8, vP (L.b tk)), (9, .bool true)] [] ?_
  refine NN (af.seq (SR ?_))
  refine gK 2 [(44, .bool false)] [] ?_
  refine NN ?_
  refine CF ?_
  refine af.skip (NX (SR ?_))
  refine gK 4 [(46, vP f), (47, vP (L.b tk)), (49, .string a.path)] [(3, a_ 7 b1)] ?_
  rcases Ad hI hlv a.path with ⟨e, ig, hne⟩ | ⟨d, name, ig, hd, fY, hgn⟩
  ·refine gL (f := 53) (args := #[vP f, vP (L.b tk), .string a.path]) (pre := [.abs (ak (aN S.O L)), .abs (ak (bg S.O L))]) [3, 5] ((by have h := uX (β := β) S L f hI tk hlv a.path GD hg; rw [ig] at h; exact h)) ?_
   rintro _ _ ⟨rfl, rfl⟩
   refine gK 7 [(10, .pointer none), (11, .string ⟨#[]⟩), (12, vI (e))] [] ?_
   refine NN (af.seq (SR ?_))
   refine gK 2 [(55, .bool (!(decide ((e : Int) = (0 : Int)))))] [] ?_
   refine NN ?_
   refine af.ct (p := (e : Int) = (0 : Int)) (fun _ => by kernel_rfl) (fun NT => ?_) (fun NT => ?_)
   ·refine SR ?_
    refine gK 2 [(6, vI (e))] [] ?_
    refine NN (af.ret (ai.aq ?_))
    exact RT (vI (e)) [2, 3, 4, 0, 5, 1, 6] (⟨L, by rw [show (actM S root a) = (e, S) by unfold actM; rw [if_neg (by omega), hix]; simp only; rw [if_pos trivial, ig]] <;> exact ⟨rfl, rfl⟩⟩)
   exact absurd NT hne
  have hkd : (obj S.O d).kind = 2 := hI.kind hd
  have hsz : name.size ≤ 1048576 := Ac hgn
  refine gL (f := 53) (args := #[vP f, vP (L.b tk), .string a.path]) (pre := [.abs (ak (aN S.O L)), .abs (ak (bg S.O L))]) [3, 5] ((by have h := uX (β := β) S L f hI tk hlv a.path GD hg; rw [ig] at h; exact h)) ?_
  rintro _ _ ⟨rfl, rfl⟩
  refine gK 7 [(10, vP (L.b d)), (11, .string name), (12, vI 0)] [] ?_
  refine NN (af.seq (SR ?_))
  refine gK 2 [(55, .bool false)] [] ?_
  refine NN ?_
  refine CF ?_
  refine af.skip (NX (af.seq (SR ?_)))
  refine gK 2 [(58, vI (a.op))] [(1, a_ 7 b1)] ?_
  refine NN (af.block (SR ?_))
  refine gK 2 [(59, .bool (decide ((a.op : Int) = (1 : Int))))] [] ?_
  refine NN ?_
  refine af.bB (p := (a.op : Int) = (1 : Int)) (fun _ => by kernel_rfl) (fun Pq => ?_) (fun Pq => ?_)
  ·refine af.seq (SR ?_)
   refine gK 3 [(61, vP f), (62, vP (L.b d)), (63, .string name)] [] ?_
   refine gL [2, 3, 1, 0] (qq S L f m t hI d hd name hsz) ?_
   rintro _ _ ⟨rfl, rfl⟩
   refine gK 1 [(12, vI ((bO S.X S.O S.idx d name)))] [] ?_
   refine NS ?_
   refine gK 2 [(66, .bool (!(decide (((bO S.X S.O S.idx d name) : Int) = (0 : Int)))))] [] ?_
   refine NN ?_
   refine af.ct (p := ((bO S.X S.O S.idx d name) : Int) = (0 : Int)) (fun _ => by kernel_rfl) (fun h0 => ?_) (fun h0 => ?_)
   ·refine SR ?_
    refine gK 2 [(6, vI ((bO S.X S.O S.idx d name)))] [] ?_
    refine NN (af.ret (ai.aq (ai.aE (ai.aq ?_))))
    exact RT (vI ((bO S.X S.O S.idx d name))) [0, 1, 4, 3, 5, 2, 6] (⟨L, by rw [show (actM S root a) = (bO S.X S.O S.idx d name, S) by unfold actM; rw [if_neg (by omega), hix]; simp only; rw [if_pos trivial, ig]; simp only; unfold actR; rw [if_pos (by omega)]; unfold actNew; exact if_neg h0] <;> exact ⟨rfl, rfl⟩⟩)
   have hno := lS h0
   refine af.skip (NX (SR ?_))
   refine gK 1 [(68, vP f)] [] ?_
   refine gL [0] (qp S.X f m t hX 420) ?_
   rintro _ _ ⟨rfl, rfl⟩
   refine gN 2 (fun b2 => [(71, vP b2)]) (fun _ => []) (fun _ => []) (fun b2 => .blk b2 [vI (S.X.last + 1), vI (420), vI 0, vI 0, vI (S.X.cS), vI (S.X.cZ), vI 0, vI 0, .bool false, .slice none (0) (0)] 92) (fun b2 => ?_)
   obtain ⟨L2, hL2⟩ : ∃ L2 : HL, L2 = L.put (aD S.X) b2 0 none 0 := ⟨_, rfl⟩
   have hfr := hI.toInv0.fresh
   refine aj.mem (aR := [.abs (ak (aN (ay S.O (aD S.X) (fun _ => (aC S.X 1 420))) L2)), .blk f [vI (S.X.cN), vI (S.X.cB), vI (S.X.cH), vI (S.X.cS), vI (S.X.cZ), .map (some m), vP t, vI (S.X.last + 1), vI (S.X.ah), vI (S.X.used)] 86, .abs (aI Tryz.prog 3 m (aM (aJ L S.idx)) S.idx.length), .abs (ak (bg S.O L)), .abs (bp 156 t S.X.cH S.au (aJ L S.us)), .abs (ak (aY S.O L)), .abs R, .blk b1 [vI (a.at_), vI (a.op), .string a.path, .string a.to, .string a.text] 45]) (fun w hS => hS.qm hL2 hfr (o := (aC S.X 1 420)) (i := 3) (j := 8) (ix := [0, 1, 2, 4, 5, 6, 7]) rfl rfl (by kernel_rfl) rfl (by show (1 : Int) ≠ 0; decide) ((eu (L := L2) (k := (aD S.X)) (o := (aC S.X 1 420)) rfl).trans (by rw [show L2.dA (aD S.X) = none by rw [hL2]; exact if_pos rfl, show L2.dC (aD S.X) = 0 by rw [hL2]; exact if_pos rfl]; rfl)) rfl) ?_
   refine aj.mem (aR := [pO (ay S.O (aD S.X) (fun _ => (aC S.X 1 420))) L2, pF f m t { S.X with last := S.X.last + 1 }, pI m L S.idx, pE (ay S.O (aD S.X) (fun _ => (aC S.X 1 420))) L2, pT t S.X.cH S.au L S.us, pD S.O L, .abs R, .blk b1 [vI (a.at_), vI (a.op), .string a.path, .string a.to, .string a.text] 45]) (fun w hS => hS.rf hL2 hfr (o := (aC S.X 1 420)) (i := 3) rfl (by show (1 : Int) ≠ 2; decide)) ?_
   refine aj.mem (aR := [pO (ay S.O (aD S.X) (fun _ => (aC S.X 1 420))) L2, pF f m t { S.X with last := S.X.last + 1 }, pI m L S.idx, pE (ay S.O (aD S.X) (fun _ => (aC S.X 1 420))) L2, pT t S.X.cH S.au L S.us, pD S.O L, .abs R, .blk b1 [vI (a.at_), vI (a.op), .string a.path, .string a.to, .string a.text] 45, .abs (aH 5 1 none 0 0 ([]))]) (fun w hS => hS.jD (e := 5) (size := 1)) ?_
   refine aj.mem (aR := [pD (ay S.O (aD S.X) (fun _ => (aC S.X 1 420))) L2, pO (ay S.O (aD S.X) (fun _ => (aC S.X 1 420))) L2, pF f m t { S.X with last := S.X.last + 1 }, pI m L S.idx, pE (ay S.O (aD S.X) (fun _ => (aC S.X 1 420))) L2, pT t S.X.cH S.au L S.us, .abs R, .blk b1 [vI (a.at_), vI (a.op), .string a.path, .string a.to, .string a.text] 45]) (fun w hS => hS.Ed hL2 (o := (aC S.X 1 420)) (i := 5) (j := 8) (ix := [0, 1, 2, 3, 4, 6, 7]) rfl rfl (by kernel_rfl) rfl rfl rfl) ?_
   refine aj.mem (aR := [.abs (ak (aY (ay S.O (aD S.X) (fun _ => (aC S.X 1 420))) L2)), .abs (ak (aN (ay S.O (aD S.X) (fun _ => (aC S.X 1 420))) L2)), .blk f [vI (S.X.cN), vI (S.X.cB), vI (S.X.cH), vI (S.X.cS), vI (S.X.cZ), .map (some m), vP t, vI (S.X.last + 1), vI (S.X.ah), vI (S.X.used)] 86, .abs (aI Tryz.prog 3 m (aM (aJ L2 S.idx)) S.idx.length), .abs (ak (bg (ay S.O (aD S.X) (fun _ => (aC S.X 1 420))) L2)), .abs (bp 156 t S.X.cH S.au (aJ L2 S.us)), .abs R, .blk b1 [vI (a.at_), vI (a.op), .string a.path, .string a.to, .string a.text] 45]) (fun w hS => by rw [eW hL2 hfr.idx, eW hL2 hfr.us]; exact hS) ?_
   refine gK 1 [(13, vP b2)] [] ?_
   refine NS ?_
   refine gK 5 [(72, vP f), (73, vP (L.b d)), (74, .string name), (76, .iface 89 (vP b2))] [] ?_
   refine gL (f := 56) (args := #[vP f, vP (L.b d), .string name, .iface 89 (vP b2)]) (pre := [.blk f [vI (S.X.cN), vI (S.X.cB), vI (S.X.cH), vI (S.X.cS), vI (S.X.cZ), .map (some m), vP t, vI (S.X.last + 1), vI (S.X.ah), vI (S.X.used)] 86, .abs (aI Tryz.prog 3 m (aM (aJ L2 S.idx)) S.idx.length), .abs (ak (aN (ay S.O (aD S.X) (fun _ => (aC S.X 1 420))) L2)), .abs (ak (bg (ay S.O (aD S.X) (fun _ => (aC S.X 1 420))) L2))]) [2, 3, 1, 4] ((by have h := oL (β := β) S L2 f m t hI.toInv0 d hd name hsz hno (aC S.X 1 420) rfl (by simp [aC]) rfl (nC h0); rw [rZ hL2 (hI.q8 hd), lQ hL2] at h; exact h)) ?_
   rintro _ _ ⟨rfl, rfl⟩
   refine NS ?_
   refine aj.mem (aR := [.blk f [vI ((bE S d name (aC S.X 1 420)).X.cN), vI ((bE S d name (aC S.X 1 420)).X.cB), vI ((bE S d name (aC S.X 1 420)).X.cH), vI ((bE S d name (aC S.X 1 420)).X.cS), vI ((bE S d name (aC S.X 1 420)).X.cZ), .map (some m), vP t, vI ((bE S d name (aC S.X 1 420)).X.last), vI ((bE S d name (aC S.X 1 420)).X.ah), vI ((bE S d name (aC S.X 1 420)).X.used)] 86, .abs (aI Tryz.prog 3 m (aM (aJ L2 (bE S d name (aC S.X 1 420)).idx)) ((bE S d name (aC S.X 1 420)).idx.length)), .abs (ak (aN ((bE S d name (aC S.X 1 420)).O) L2)), .abs (ak (bg ((bE S d name (aC S.X 1 420)).O) L2)), .abs (ak (aY ((bE S d name (aC S.X 1 420)).O) L2)), .abs (bp 156 t S.X.cH S.au (aJ L2 S.us)), .abs R, .blk b1 [vI (a.at_), vI (a.op), .string a.path, .string a.to, .string a.text] 45]) (fun w hS => by rw [show aY ((bE S d name (aC S.X 1 420)).O) L2 = aY (ay S.O (aD S.X) (fun _ => (aC S.X 1 420))) L2 from fA]; exact hS) ?_
   have nS : Inv (bE S d name (aC S.X 1 420)) := hI.AO hd fY hgn h0 (.inl rfl) ⟨by decide, by decide⟩ (.inl ⟨by decide, rfl⟩)
   have Pr : Live (bE S d name (aC S.X 1 420)).idx ⟨(aD S.X), 1⟩ := BX hI (o := (aC S.X 1 420))
   refine gK 4 [(78, vP f), (79, vP b2), (81, .string a.text)] [(3, a_ 7 b1)] ?_
   refine aj.Ck (d := (some 82)) (t1 := 9) (t2 := 41) (e := 5) (x := (.tmp 81)) (s := a.text) (fun _ => by kernel_rfl) (fun _ => by kernel_rfl) Tryz.underlying9 Tryz.underlying41 Tryz.underlying5 (fun b3 c4 OB => ?_)
   refine gL (f := 57) (args := #[vP f, vP b2, .slice (some ⟨b3, 0, none⟩) (a.text.data.toList.length) (c4)]) (pre := [.abs (mw β (fun β' => bJ β' (some ⟨b3, 0, none⟩) a.text.data.toList)), .blk f [vI ((bE S d name (aC S.X 1 420)).X.cN), vI ((bE S d name (aC S.X 1 420)).X.cB), vI ((bE S d name (aC S.X 1 420)).X.cH), vI ((bE S d name (aC S.X 1 420)).X.cS), vI ((bE S d name (aC S.X 1 420)).X.cZ), .map (some m), vP t, vI ((bE S d name (aC S.X 1 420)).X.last), vI ((bE S d name (aC S.X 1 420)).X.ah), vI ((bE S d name (aC S.X 1 420)).X.used)] 86, .abs (aI Tryz.prog 3 m (aM (aJ L2 (bE S d name (aC S.X 1 420)).idx)) ((bE S d name (aC S.X 1 420)).idx.length)), .abs (bp 156 t S.X.cH S.au (aJ L2 S.us)), .abs (ak (aN ((bE S d name (aC S.X 1 420)).O) L2)), .abs (ak (aY ((bE S d name (aC S.X 1 420)).O) L2)), .abs (ak (bg ((bE S d name (aC S.X 1 420)).O) L2))]) [8, 0, 1, 5, 2, 4, 3] ((by have h := xY (β := β) (bE S d name (aC S.X 1 420)) L2 f m t nS (aD S.X) Pr (some ⟨b3, 0, none⟩) c4 a.text.data.toList (by rw [Array.length_toList]; have : a.text.data.size = a.text.size := rfl; omega) OB; rw [xk hL2] at h; exact h)) ?_
   rintro _ _ ⟨L3, rfl, rfl⟩
   refine NS ?_
   refine gK 1 [(6, vI 0)] [] ?_
   refine NN (af.ret (ai.aE (ai.aq ?_)))
   exact RT (vI 0) [0, 1, 2, 3, 4, 5, 6] (⟨L3, by rw [show (actM S root a) = (0, (writeM (bE S d name (aC S.X 1 420)) (aD S.X) a.text.data.toList).2.2) by unfold actM; rw [if_neg (by omega), hix]; simp only; rw [if_pos trivial, ig]; simp only; unfold actR; rw [if_pos (by omega)]; unfold actNew; exact if_pos h0] <;> exact ⟨rfl, rfl⟩⟩)
  refine SR ?_
  refine gK 2 [(84, .bool (decide ((a.op : Int) = (2 : Int))))] [] ?_
  refine NN ?_
  refine af.bB (p := (a.op : Int) = (2 : Int)) (fun _ => by kernel_rfl) (fun Pt => ?_) (fun Pt => ?_)
  ·refine SR ?_
   refine gK 3 [(86, vP f), (87, vP (L.b d)), (88, .string name)] [] ?_
   refine gL [2, 3, 4, 0, 5, 1] (zZ S L f m t hI d hd name hsz 493) ?_
   rintro _ _ ⟨L2, rfl, rfl⟩
   refine gK 1 [(6, vI ((mkdirM S d name 493).1))] [] ?_
   refine NN (af.ret (ai.aE (ai.aq ?_)))
   exact RT (vI ((mkdirM S d name 493).1)) [0, 1, 2, 3, 4, 5, 6] (⟨L2, by rw [show (actM S root a) = ((mkdirM S d name 493).1, (mkdirM S d name 493).2) by unfold actM; rw [if_neg (by omega), hix]; simp only; rw [if_pos trivial, ig]; simp only; unfold actR; rw [if_neg (by omega)]; exact if_pos (by omega)] <;> exact ⟨rfl, rfl⟩⟩)
  refine SR ?_
  refine gK 2 [(90, .bool (decide ((a.op : Int) = (3 : Int))))] [] ?_
  refine NN ?_
  refine af.bB (p := (a.op : Int) = (3 : Int)) (fun _ => by kernel_rfl) (fun Pu => ?_) (fun Pu => ?_)
  ·refine SR ?_
   refine gK 5 [(92, vP f), (93, vP (L.b d)), (94, .string name), (96, .string a.text)] [(4, a_ 7 b1)] ?_
   refine gL [2, 3, 4, 0, 5, 1] (vw S L f m t hI d hd name hsz a.text hxz) ?_
   rintro _ _ ⟨L2, rfl, rfl⟩
   refine gK 1 [(6, vI ((symlinkM S d name a.text).1))] [] ?_
   refine NN (af.ret (ai.aE (ai.aq ?_)))
   exact RT (vI ((symlinkM S d name a.text).1)) [0, 1, 2, 3, 4, 5, 6] (⟨L2, by rw [show (actM S root a) = ((symlinkM S d name a.text).1, (symlinkM S d name a.text).2) by unfold actM; rw [if_neg (by omega), hix]; simp only; rw [if_pos trivial, ig]; simp only; unfold actR; rw [if_neg (by omega)]; rw [if_neg (by omega)]; exact if_pos (by omega)] <;> exact ⟨rfl, rfl⟩⟩)
  refine SR ?_
  refine gK 2 [(98, .bool (decide ((a.op : Int) = (4 : Int))))] [] ?_
  refine NN ?_
  refine af.bB (p := (a.op : Int) = (4 : Int)) (fun _ => by kernel_rfl) (fun Pv => ?_) (fun Pv => ?_)
  ·refine SR ?_
   refine gK 3 [(100, vP f), (101, vP (L.b d)), (102, .string name)] [] ?_
   refine gL [2, 3, 4, 0, 5, 1] (xU S L f m t hI d hd name hsz) ?_
   rintro _ _ ⟨L2, rfl, rfl⟩
   refine gK 1 [(6, vI ((unlinkM S d name).1))] [] ?_
   refine NN (af.ret (ai.aE (ai.aq ?_)))
   exact RT (vI ((unlinkM S d name).1)) [0, 1, 2, 3, 4, 5, 6] (⟨L2, by rw [show (actM S root a) = ((unlinkM S d name).1, (unlinkM S d name).2) by unfold actM; rw [if_neg (by omega), hix]; simp only; rw [if_pos trivial, ig]; simp only; unfold actR; rw [if_neg (by omega)]; rw [if_neg (by omega)]; rw [if_neg (by omega)]; exact if_pos (by omega)] <;> exact ⟨rfl, rfl⟩⟩)
  refine SR ?_
  refine gK 2 [(104, .bool (decide ((a.op : Int) = (5 : Int))))] [] ?_
  refine NN ?_
  refine af.bB (p := (a.op : Int) = (5 : Int)) (fun _ => by kernel_rfl) (fun OC => ?_) (fun OC => ?_)
  ·refine SR ?_
   refine gK 3 [(106, vP f), (107, vP (L.b d)), (108, .string name)] [] ?_
   refine gL [2, 3, 4, 0, 5, 1] (Aa S L f m t hI d hd name hsz) ?_
   rintro _ _ ⟨L2, rfl, rfl⟩
   refine gK 1 [(6, vI ((rmdirM S d name).1))] [] ?_
   refine NN (af.ret (ai.aE (ai.aq ?_)))
   exact RT (vI ((rmdirM S d name).1)) [0, 1, 2, 3, 4, 5, 6] (⟨L2, by rw [show (actM S root a) = ((rmdirM S d name).1, (rmdirM S d name).2) by unfold actM; rw [if_neg (by omega), hix]; simp only; rw [if_pos trivial, ig]; simp only; unfold actR; rw [if_neg (by omega)]; rw [if_neg (by omega)]; rw [if_neg (by omega)]; rw [if_neg (by omega)]; exact if_pos (by omega)] <;> exact ⟨rfl, rfl⟩⟩)
  refine SR ?_
  refine gK 2 [(110, .bool (decide ((a.op : Int) = (6 : Int))))] [] ?_
  refine NN ?_
  refine af.bB (p := (a.op : Int) = (6 : Int)) (fun _ => by kernel_rfl) (fun OD => ?_) (fun OD => ?_)
  ·refine SR ?_
   refine gK 4 [(113, vP f), (114, vP (L.b tk)), (116, .string a.to)] [(3, a_ 7 b1)] ?_
   rcases Ad hI hlv a.to with ⟨e2, x6, Co⟩ | ⟨to, toName, x6, hd2, LI, Iq⟩
   ·refine gL (f := 53) (args := #[vP f, vP (L.b tk), .string a.to]) (pre := [.abs (ak (aN S.O L)), .abs (ak (bg S.O L))]) [0, 1] ((by have h := uX (β := β) S L f hI tk hlv a.to JA hg; rw [x6] at h; exact h)) ?_
    rintro _ _ ⟨rfl, rfl⟩
    refine gK 7 [(14, .pointer none), (15, .string ⟨#[]⟩), (16, vI (e2))] [] ?_
    refine NN (af.seq (SR ?_))
    refine gK 2 [(122, .bool (!(decide ((e2 : Int) = (0 : Int)))))] [] ?_
    refine NN ?_
    refine af.ct (p := (e2 : Int) = (0 : Int)) (fun _ => by kernel_rfl) (fun L6 => ?_) (fun L6 => ?_)
    ·refine SR ?_
     refine gK 2 [(6, vI (e2))] [] ?_
     refine NN (af.ret (ai.aq (ai.aE (ai.aq ?_))))
     exact RT (vI (e2)) [2, 3, 4, 0, 5, 1, 6] (⟨L, by rw [show (actM S root a) = (e2, S) by unfold actM; rw [if_neg (by omega), hix]; simp only; rw [if_pos trivial, ig]; simp only; unfold actR; rw [if_neg (by omega)]; rw [if_neg (by omega)]; rw [if_neg (by omega)]; rw [if_neg (by omega)]; rw [if_neg (by omega)]; rw [if_pos (by omega)]; rw [x6]] <;> exact ⟨rfl, rfl⟩⟩)
    exact absurd L6 Co
   have cY : (obj S.O to).kind = 2 := hI.kind hd2
   have mz : toName.size ≤ 1048576 := Ac Iq
   refine gL (f := 53) (args := #[vP f, vP (L.b tk), .string a.to]) (pre := [.abs (ak (aN S.O L)), .abs (ak (bg S.O L))]) [0, 1] ((by have h := uX (β := β) S L f hI tk hlv a.to JA hg; rw [x6] at h; exact h)) ?_
   rintro _ _ ⟨rfl, rfl⟩
   refine gK 7 [(14, vP (L.b to)), (15, .string toName), (16, vI 0)] [] ?_
   refine NN (af.seq (SR ?_))
   refine gK 2 [(122, .bool false)] [] ?_
   refine NN ?_
   refine CF ?_
   refine af.skip (NX (SR ?_))
   refine gK 5 [(124, vP f), (125, vP (L.b d)), (126, .string name), (127, vP (L.b to)), (128, .string toName)] [] ?_
   refine gL [2, 3, 4, 0, 5, 1] (xV S L f m t hI d hd name hsz to hd2 toName mz) ?_
   rintro _ _ ⟨L2, rfl, rfl⟩
   refine gK 1 [(6, vI ((renameM S d name to toName).1))] [] ?_
   refine NN (af.ret (ai.aE (ai.aq ?_)))
   exact RT (vI ((renameM S d name to toName).1)) [0, 1, 2, 3, 4, 5, 6] (⟨L2, by rw [show (actM S root a) = ((renameM S d name to toName).1, (renameM S d name to toName).2) by unfold actM; rw [if_neg (by omega), hix]; simp only; rw [if_pos trivial, ig]; simp only; unfold actR; rw [if_neg (by omega)]; rw [if_neg (by omega)]; rw [if_neg (by omega)]; rw [if_neg (by omega)]; rw [if_neg (by omega)]; rw [if_pos (by omega)]; rw [x6]] <;> exact ⟨rfl, rfl⟩⟩)
  refine af.skip (ai.aQ (NX (af.seq (af.seq ?_))))
  have hel : (obj S.O d).ah.length ≤ 8192 := hI.eM hd
  have Gp := hsz
  rcases hI.jS hd name with bn | ⟨ok, bn, dh⟩ | ⟨ok, bn, dh⟩ | ⟨ok, bn, dh⟩
  ·refine af.region ?_
   refine gK 5 [(133, .map (some (L.m d))), (134, .string name)] [(3, v_ 0 (bC L hkd))] ?_
   refine fK 1 hkd bn ?_
   refine NN (af.block (SR ?_))
   refine gK 3 [(137, .bool false), (138, .pointer none)] [] ?_
   refine NN ?_
   refine CF ?_
   refine SR ?_
   refine gK 3 [(140, .bool false), (141, .pointer none)] [] ?_
   refine NN ?_
   refine CF ?_
   refine SR ?_
   refine gK 3 [(143, .bool false), (144, .pointer none)] [] ?_
   refine NN ?_
   refine CF ?_
   refine af.skip (ai.aQ (NX (SR ?_)))
   refine gK 1 [(6, vI 170)] [] ?_
   refine NN (af.ret ?_)
   exact RT (vI 170) [2, 3, 4, 0, 5, 1, 6] (⟨L, by rw [show (actM S root a) = (170, S) by unfold actM; rw [if_neg (by omega), hix]; simp only; rw [if_pos trivial, ig]; simp only; unfold actR; rw [if_neg (by omega)]; rw [if_neg (by omega)]; rw [if_neg (by omega)]; rw [if_neg (by omega)]; rw [if_neg (by omega)]; rw [if_neg (by omega)]; unfold actWrite; rw [bn]] <;> exact ⟨rfl, rfl⟩⟩)
  ·have jh : (obj S.O ok).kind = 1 := hI.kind dh
   refine af.region ?_
   refine gK 5 [(133, .map (some (L.m d))), (134, .string name)] [(3, v_ 0 (bC L hkd))] ?_
   refine fK 1 hkd bn ?_
   refine NN (af.block (SR ?_))
   refine gK 3 [(137, .bool false), (138, .pointer none)] [] ?_
   refine NN ?_
   refine CF ?_
   refine SR ?_
   refine gK 3 [(140, .bool false), (141, .pointer none)] [] ?_
   refine NN ?_
   refine CF ?_
   refine SR ?_
   refine gK 3 [(143, .bool true), (144, vP (L.b ok))] [] ?_
   refine NN ?_
   refine CT ?_
   refine SR ?_
   refine gK 1 [(19, vP (L.b ok))] [] ?_
   refine NS ?_
   refine gK 4 [(146, vP f), (147, vP (L.b ok)), (149, .string a.text)] [(3, a_ 7 b1)] ?_
   refine aj.Ck (d := (some 150)) (t1 := 9) (t2 := 41) (e := 5) (x := (.tmp 149)) (s := a.text) (fun _ => by kernel_rfl) (fun _ => by kernel_rfl) Tryz.underlying9 Tryz.underlying41 Tryz.underlying5 (fun b6 c7 OE => ?_)
   refine gL [8, 2, 3, 4, 0, 5, 1] (xY (β := β) S L f m t hI ok dh (some ⟨b6, 0, none⟩) c7 a.text.data.toList (by rw [Array.length_toList]; have : a.text.data.size = a.text.size := rfl; omega) OE) ?_
   rintro _ _ ⟨L3, rfl, rfl⟩
   refine gK 5 [(21, vI ((writeM S ok a.text.data.toList).2.1))] [] ?_
   refine NS ?_
   refine gK 2 [(6, vI ((writeM S ok a.text.data.toList).2.1))] [] ?_
   refine NN (af.ret (ai.aE (ai.aq ?_)))
   exact RT (vI ((writeM S ok a.text.data.toList).2.1)) [0, 1, 2, 3, 4, 5, 6] (⟨L3, by rw [show (actM S root a) = ((writeM S ok a.text.data.toList).2.1, (writeM S ok a.text.data.toList).2.2) by unfold actM; rw [if_neg (by omega), hix]; simp only; rw [if_pos trivial, ig]; simp only; unfold actR; rw [if_neg (by omega)]; rw [if_neg (by omega)]; rw [if_neg (by omega)]; rw [if_neg (by omega)]; rw [if_neg (by omega)]; rw [if_neg (by omega)]; unfold actWrite; rw [bn]; exact (if_neg (by simp)).trans (if_neg (by simp))] <;> exact ⟨rfl, rfl⟩⟩)
  ·have jh : (obj S.O ok).kind = 2 := hI.kind dh
   refine af.region ?_
   refine gK 5 [(133, .map (some (L.m d))), (134, .string name)] [(3, v_ 0 (bC L hkd))] ?_
   refine fK 1 hkd bn ?_
   refine NN (af.block (SR ?_))
   refine gK 3 [(137, .bool false), (138, .pointer none)] [] ?_
   refine NN ?_
   refine CF ?_
   refine SR ?_
   refine gK 3 [(140, .bool true), (141, vP (L.b ok))] [] ?_
   refine NN ?_
   refine CT ?_
   refine SR ?_
   refine gK 1 [] [] ?_
   refine NS ?_
   refine gK 1 [(6, vI 172)] [] ?_
   refine NN (af.ret (ai.aE (ai.aq ?_)))
   exact RT (vI 172) [2, 3, 4, 0, 5, 1, 6] (⟨L, by rw [show (actM S root a) = (172, S) by unfold actM; rw [if_neg (by omega), hix]; simp only; rw [if_pos trivial, ig]; simp only; unfold actR; rw [if_neg (by omega)]; rw [if_neg (by omega)]; rw [if_neg (by omega)]; rw [if_neg (by omega)]; rw [if_neg (by omega)]; rw [if_neg (by omega)]; unfold actWrite; rw [bn]; exact (if_neg (by simp)).trans (if_pos rfl)] <;> exact ⟨rfl, rfl⟩⟩)
  have jh : (obj S.O ok).kind = 3 := hI.kind dh
  refine af.region ?_
  refine gK 5 [(133, .map (some (L.m d))), (134, .string name)] [(3, v_ 0 (bC L hkd))] ?_
  refine fK 1 hkd bn ?_
  refine NN (af.block (SR ?_))
  refine gK 3 [(137, .bool true), (138, vP (L.b ok))] [] ?_
  refine NN ?_
  refine CT ?_
  refine SR ?_
  refine gK 1 [] [] ?_
  refine NS ?_
  refine gK 1 [(6, vI 174)] [] ?_
  refine NN (af.ret (ai.aE (ai.aq ?_)))
  exact RT (vI 174) [2, 3, 4, 0, 5, 1, 6] (⟨L, by rw [show (actM S root a) = (174, S) by unfold actM; rw [if_neg (by omega), hix]; simp only; rw [if_pos trivial, ig]; simp only; unfold actR; rw [if_neg (by omega)]; rw [if_neg (by omega)]; rw [if_neg (by omega)]; rw [if_neg (by omega)]; rw [if_neg (by omega)]; rw [if_neg (by omega)]; unfold actWrite; rw [bn]; exact if_pos rfl] <;> exact ⟨rfl, rfl⟩⟩)
 have hkt : (obj S.O tk).kind = 3 := hI.kind hlv
 refine af.region ?_
 refine gK 5 [(33, .map (some m)), (34, vI (root))] [(3, a_ 0 f)] ?_
 refine aj.dI 1 (d := (some 35)) (t := 80) (K := 3) (E := 84) (b := m) (n := S.idx.length) (f := (aM (aJ L S.idx))) (x := (.tmp 33)) (ix := (.tmp 34)) (key := .int .i64 (root)) (z := .nilIface) (kl := (.int .i64 root)) (r := (some (cI L ⟨tk, 3⟩))) (fun _ => by kernel_rfl) (by kernel_rfl) (fun _ => by kernel_rfl) (fun _ => by kernel_rfl) dr Tryz.underlying80 (fun _ => by kernel_rfl) (gG hrw) (by rw [dJ, hix]; rfl) ?_
 refine gK 1 [(7, .iface 93 (vP (L.b tk)))] [] ?_
 refine NN (af.seq (SR ?_))
 refine gK 2 [(37, .bool false)] [] ?_
 refine NN ?_
 refine CF ?_
 refine af.skip (NX (SR ?_))
 refine gK 7 [(8, .pointer none), (9, .bool false)] [] ?_
 refine NN (af.seq (SR ?_))
 refine gK 2 [(44, .bool true)] [] ?_
 refine NN ?_
 refine CT ?_
 refine SR ?_
 refine gK 1 [(6, vI 173)] [] ?_
 refine NN (af.ret (ai.aq ?_))
 exact RT (vI 173) [0, 1, 2, 3, 4, 5, 6] (⟨L, by rw [show (actM S root a) = (173, S) by unfold actM; rw [if_neg (by omega), hix]; simp only; exact if_neg (by simp)] <;> exact ⟨rfl, rfl⟩⟩)
end
section
open Go.RowKit
attribute [local irreducible] aj aT af ai
theorem IL {β : Bs} (A : Option Addr) (ns : List aK) (L : Lay) (hG : aB β A ns L) (hr : cq ns) (i : Nat) (hi : i < ns.length) (hel : (nd ns i).ah.length ≤ 1048576) (hwf : ∀ j, j < (nd ns i).ah.length → -9223372036854775808 ≤ (ent ns i j).id ∧ (ent ns i j).id ≤ 9223372036854775807) (hnm : ∀ j, j < (nd ns i).ah.length → (ent ns i j).name.size ≤ 1048576)
    (mb mp : Nat) (ps : List (Nat × Nat)) (hpl : ps.length ≤ 16777216) (hps : ∀ p, p ∈ ps → p.1 < ns.length) (hnp : (ps.map Prod.fst).Nodup) :
    Spec Tryz.prog β 120 #[.pointer (some ⟨(ax A), av A + i * 10, none⟩), .map (some mb), .map (some mp)] [.abs (aI Tryz.prog 3 mb (mf (bf A ns ns.length)) ns.length), .abs (aI Tryz.prog 3 mp (mf (pf ((ps).map (gA ns)))) ((ps).length))] (fun v l => (v = .bool true ∧ rR ns i ps ∧ l = [.abs (aI Tryz.prog 3 mb (mf (bf A ns ns.length)) ns.length), .abs (aI Tryz.prog 3 mp (mf (pf ((cA ns i (nd ns i).ah.length ++ ps).map (gA ns)))) ((cA ns i (nd ns i).ah.length ++ ps).length))]) ∨ (v = .bool false ∧ ¬ rR ns i ps ∧ l = [])) := by
 refine Spec.enter Tryz.func120 rfl Tryz.ntmps120 (Nat.le_of_ble_eq_true rfl) (fun R => ?_)
 refine SR ?_
 refine gK 1 [] [] ?_
 refine NS ?_
 refine gK 1 [(7, .string ⟨#[]⟩)] [] ?_
 refine NN (af.seq (SR ?_))
 refine gK 6 [(16, .slice (L.eA i) ((nd ns i).ah.length) ((L.eC i))), (17, vI ↑((nd ns i).ah.length)), (18, vI 0)] [(3, p_ ⟨[.old (.slice (L.eA i) ((nd ns i).ah.length) ((L.eC i)))], none, none, none, none⟩ [(Rd β ⟨(ax A), av A + i * 10 + 9, none⟩ (.slice (L.eA i) ((nd ns i).ah.length) ((L.eC i))))] ⟨aB.rd hG (i := i) (by omega) (j := 9) rfl, trivial⟩)] ?_
 refine NN (af.block ?_)
 refine af.loop (ι := Nat) (fun (j : Nat) => (j ≤ (nd ns i).ah.length) ∧ (∀ t, t < j → kV ns i t) ∧ (((cA ns i j ++ ps).map Prod.fst).Nodup)) (fun (j : Nat) => (nd ns i).ah.length - j) (fun (j : Nat) => [(0, .pointer (some ⟨(ax A), av A + i * 10, none⟩)), (1, .map (some mb)), (2, .map (some mp)), (7, .string (jq ns i j)), (16, .slice (L.eA i) ((nd ns i).ah.length) ((L.eC i))), (17, vI ↑((nd ns i).ah.length)), (18, vI ↑j)]) (fun (j : Nat) => [.abs (aI Tryz.prog 3 mb (mf (bf A ns ns.length)) ns.length), .abs (aI Tryz.prog 3 mp (mf (pf ((cA ns i j ++ ps).map (gA ns)))) ((cA ns i j ++ ps).length)), .abs R]) 0 (idx := [0, 1, 2, 7, 16, 17, 18]) (pk := [0, 1, 2]) (show (0 ≤ (nd ns i).ah.length) ∧ (∀ t, t < 0 → kV ns i t) ∧ (((cA ns i 0 ++ ps).map Prod.fst).Nodup) from ⟨Nat.zero_le _, fun t ht => absurd ht (Nat.not_lt_zero t), hnp⟩) (fun _ => by kernel_rfl) rfl (by kernel_rfl) ?_
 rintro j ⟨hj, hok, hnd⟩
 show af _ _ _ _ [(0, .pointer (some ⟨(ax A), av A + i * 10, none⟩)), (1, .map (some mb)), (2, .map (some mp)), (7, .string (jq ns i j)), (16, .slice (L.eA i) ((nd ns i).ah.length) ((L.eC i))), (17, vI ↑((nd ns i).ah.length)), (18, vI ↑j)] [.abs (aI Tryz.prog 3 mb (mf (bf A ns ns.length)) ns.length), .abs (aI Tryz.prog 3 mp (mf (pf ((cA ns i j ++ ps).map (gA ns)))) ((cA ns i j ++ ps).length)), .abs R] _
 refine SR ?_
 refine gK 1 [(19, .bool (decide ((((j : Nat) : Int) : Int) < ((((nd ns i).ah.length : Nat) : Int) : Int))))] [] ?_
 refine NN (af.seq ?_)
 refine af.bB (p := (((j : Nat) : Int) : Int) < ((((nd ns i).ah.length : Nat) : Int) : Int)) (fun _ => by kernel_rfl) (fun Pw => ?_) (fun Pw => ?_)
 ·refine af.skip (NX (af.seq (af.block (SR ?_))))
  refine gN 4 (fun b1 => [(9, vP b1)]) (fun b1 => [(0, p_ ⟨[], some j, none, some ⟨(ax (L.eA i)), av (L.eA i), none⟩, none⟩ [((j : Nat) : Int) = ((j : Nat) : Int), j < (nd ns i).ah.length, (⟨(ax (L.eA i)), av (L.eA i), none⟩ : Addr).spot = none, ((L.eA i) : Option Addr) = some ⟨(ax (L.eA i)), av (L.eA i), none⟩] ⟨rfl, by omega, rfl, cK.hd (hG.ah i (by omega)) (i := j) (by omega), trivial⟩), (1, p_ ⟨[.old (.string (en (nd ns i).ah j).name), .old (.int .i64 ((en (nd ns i).ah j).id))], none, none, none, none⟩ [(Rd β ⟨(ax (L.eA i)), av (L.eA i) + j * 2 + 1, none⟩ (.int .i64 ((en (nd ns i).ah j).id))), (Rd β ⟨(ax (L.eA i)), av (L.eA i) + j * 2, none⟩ (.string (en (nd ns i).ah j).name))] ⟨cK.rd (hG.ah i (by omega)) (i := j) (by omega) (j := 1) rfl, cK.rd (hG.ah i (by omega)) (i := j) (by omega) (j := 0) rfl, trivial⟩), (3, A_ 3 b1 2)]) (fun _ => []) (fun b1 => .blk b1 [.string (en (nd ns i).ah j).name, vI ((en (nd ns i).ah j).id)] 101) (fun b1 => ?_)
  refine NS ?_
  refine gK 3 [(22, .map (some mb)), (24, vI ((en (nd ns i).ah j).id))] [(2, a_ 3 b1)] ?_
  by_cases hat : 0 ≤ mJ ns (en (nd ns i).ah j).id
  ·have htl := kI hat
   refine aj.dI 0 (d := (some 25)) (t := 143) (K := 3) (E := 146) (b := mb) (n := ns.length) (f := (mf (bf A ns ns.length))) (x := (.tmp 22)) (ix := (.tmp 24)) (key := .int .i64 ((en (nd ns i).ah j).id)) (z := .pointer none) (kl := (.int .i64 (en (nd ns i).ah j).id)) (r := (some (.pointer (some ⟨(ax A), av A + (tgt ns (en (nd ns i).ah j).id) * 10, none⟩)))) (fun _ => by kernel_rfl) (by kernel_rfl) (fun _ => by kernel_rfl) (fun _ => by kernel_rfl) dr Tryz.underlying143 (fun _ => by kernel_rfl) (mO (hwf j (by omega)).1 (hwf j (by omega)).2) (ML hat htl.1) ?_
   refine gK 1 [(10, .pointer (some ⟨(ax A), av A + (tgt ns (en (nd ns i).ah j).id) * 10, none⟩))] [] ?_
   refine NN (af.seq (SR ?_))
   refine gK 5 [(28, .bool false), (30, .string (en (nd ns i).ah j).name)] [(4, a_ 3 b1)] ?_
   refine gL [] (mq (en (nd ns i).ah j).name (hnm j (by omega))) ?_
   rintro _ _ ⟨rfl, rfl⟩
   refine gK 3 [(34, .bool (!(decide (bw (en (nd ns i).ah j).name))))] [] ?_
   refine aj.fD 34 (bw (en (nd ns i).ah j).name) (fun _ => by kernel_rfl) (fun vu => ?_) (fun vu => ?_)
   ·refine gK 5 [(39, .bool true)] [] ?_
    refine NN ?_
    refine CT ?_
    refine SR ?_
    refine gK 1 [(6, .bool false)] [] ?_
    refine NN (af.ret (ai.aq (ai.aE (ai.aq (ai.aq (ai.aE (ai.aq ?_)))))))
    exact RT (l := []) (.bool false) [2] (.inr ⟨rfl, fun h => vu (h.ah j (by omega)).good, rfl⟩)
   refine gK 5 [(39, .bool (decide (iK ((en (nd ns i).ah j).name) (jq ns i j))))] [(1, a_ 3 b1), (3, p_ ⟨[], none, none, none, some (.bool (decide (iK ((en (nd ns i).ah j).name) (jq ns i j))))⟩ [(Value.bool (Op.bytesLess (((en (nd ns i).ah j).name) : ByteArray).toList (((jq ns i j)) : ByteArray).toList || (((en (nd ns i).ah j).name) : ByteArray).toList == (((jq ns i j)) : ByteArray).toList)) = (.bool (decide (iK ((en (nd ns i).ah j).name) (jq ns i j))))] ⟨KX _ _, trivial⟩)] ?_
   refine NN ?_
   refine af.bB (p := iK ((en (nd ns i).ah j).name) (jq ns i j)) (fun _ => by kernel_rfl) (fun mI => ?_) (fun mI => ?_)
   ·refine SR ?_
    refine gK 1 [(6, .bool false)] [] ?_
    refine NN (af.ret (ai.aq (ai.aE (ai.aq (ai.aq (ai.aE (ai.aq ?_)))))))
    exact RT (l := []) (.bool false) [2] (.inr ⟨rfl, fun h => (h.ah j (by omega)).ord mI, rfl⟩)
   refine af.skip (NX (SR ?_))
   refine gK 3 [(7, .string (en (nd ns i).ah j).name)] [(1, a_ 3 b1)] ?_
   refine NN (af.seq (SR ?_))
   refine gK 5 [(46, .bool (!(decide (((nd ns (tgt ns (en (nd ns i).ah j).id)).kind : Int) = (2 : Int)))))] [(3, p_ ⟨[.old (.int .i64 ((nd ns (tgt ns (en (nd ns i).ah j).id)).kind))], none, none, none, none⟩ [(Rd β ⟨(ax A), av A + (tgt ns (en (nd ns i).ah j).id) * 10 + 1, none⟩ (.int .i64 ((nd ns (tgt ns (en (nd ns i).ah j).id)).kind)))] ⟨aB.rd hG (i := (tgt ns (en (nd ns i).ah j).id)) (by omega) (j := 1) rfl, trivial⟩)] ?_
   refine NN ?_
   refine af.ct (p := ((nd ns (tgt ns (en (nd ns i).ah j).id)).kind : Int) = (2 : Int)) (fun _ => by kernel_rfl) (fun h46 => ?_) (fun h46 => ?_)
   ·refine af.exit (ai.aW (ai.ck (NX (af.region ?_))))
    refine aj.eO 1 (p := .abs (aI Tryz.prog 3 mp (mf (pf ((cA ns i j ++ ps).map (gA ns)))) ((cA ns i j ++ ps).length))) (p' := .abs (aI Tryz.prog 3 mp (mf (pf ((cA ns i (j + 1) ++ ps).map (gA ns)))) ((cA ns i (j + 1) ++ ps).length))) (by kernel_rfl) (by rw [qf h46]) ?_
    refine gK 2 [(18, vI ↑(j + 1))] [(0, p_ ⟨[], none, none, none, some (vI ↑(j + 1))⟩ [(Value.int .i64 (IntKind.wrap .i64 (((j : Nat) : Int) + 1))) = (.int .i64 ↑(j + 1))] ⟨bI (by omega) (by omega) (by omega), trivial⟩)] ?_
    refine NL ?_
    exact ai.turn ((j + 1)) (idx := [0, 1, 2, 7, 16, 17, 18]) (pk := [0, 1, 2]) (show (((j + 1)) ≤ (nd ns i).ah.length) ∧ (∀ t, t < ((j + 1)) → kV ns i t) ∧ (((cA ns i ((j + 1)) ++ ps).map Prod.fst).Nodup) from ⟨by omega, fun t ht => (by rcases Nat.lt_succ_iff_lt_or_eq.1 ht with h | h; exact hok t h; subst h; exact ⟨hat, vu, mI⟩), (by rw [qf h46]; exact hnd)⟩) (by show (nd ns i).ah.length - ((j + 1)) < (nd ns i).ah.length - j; omega) (fun _ => by kernel_rfl) rfl (by kernel_rfl)
   refine af.skip (NX (af.seq (SR ?_)))
   refine gK 3 [(48, .map (some mp)), (50, vI ((en (nd ns i).ah j).id))] [(2, a_ 3 b1)] ?_
   rcases hup : up ((cA ns i j ++ ps).map (gA ns)) (en (nd ns i).ah j).id with _ | y
   ·refine aj.p4 1 (d := (some 51)) (t := 183) (K := 3) (E := 3) (b := mp) (n := (cA ns i j ++ ps).length) (f := (mf (pf ((cA ns i j ++ ps).map (gA ns))))) (x := (.tmp 48)) (ix := (.tmp 50)) (key := .int .i64 ((en (nd ns i).ah j).id)) (z := .int .i64 0) (kl := (.int .i64 (en (nd ns i).ah j).id)) (r := none) (fun _ => by kernel_rfl) (by kernel_rfl) (fun _ => by kernel_rfl) (fun _ => by kernel_rfl) dr Tryz.underlying183 (fun _ => by kernel_rfl) (mO (hwf j (by omega)).1 (hwf j (by omega)).2) (rQ hup) ?_
    refine gK 5 [(12, .bool false)] [] ?_
    refine NS ?_
    refine gK 1 [(54, .bool false)] [] ?_
    refine NN ?_
    refine CF ?_
    refine af.skip (NX ?_)
    refine af.qF 7 (by kernel_rfl) (by kernel_rfl) ?_
    refine fF.seg (k' := 7) (fr' := [(0, .pointer (some ⟨(ax A), av A + i * 10, none⟩)), (1, .map (some mb)), (2, .map (some mp)), (7, .string (en (nd ns i).ah j).name), (16, .slice (L.eA i) ((nd ns i).ah.length) ((L.eC i))), (17, vI ↑((nd ns i).ah.length)), (18, vI ↑j), (55, .map (some mp)), (57, vI ((en (nd ns i).ah j).id)), (61, vI ((nd ns i).id))]) (aV := [(Rd β ⟨(ax A), av A + i * 10, none⟩ (.int .i64 ((nd ns i).id))), b1 = b1]) [o_, o_, ⟨[.at 3], none, none, none, none⟩, o_, o_, o_, ⟨[.old (.int .i64 ((nd ns i).id))], none, none, none, none⟩] [0, 1, 2, 7, 16, 17, 18, 55, 57, 61] (fun _ _ => by kernel_rfl) ⟨aB.rd hG (i := i) (by omega) (j := 0) rfl, rfl, trivial⟩ (by decide) ?_
    refine fF.done rfl ?_
    refine aj.jY 1 (d := none) (t := 183) (K := 3) (E := 3) (b := mp) (n := (cA ns i j ++ ps).length) (f := (mf (pf ((cA ns i j ++ ps).map (gA ns))))) (x := (.tmp 55)) (ix := (.tmp 57)) (y := (.tmp 61)) (key := .int .i64 ((en (nd ns i).ah j).id)) (u := .int .i64 ((nd ns i).id)) (kl := (.int .i64 (en (nd ns i).ah j).id)) (n' := (cA ns i (j + 1) ++ ps).length) (f' := (mf (pf ((cA ns i (j + 1) ++ ps).map (gA ns))))) (fun _ => by kernel_rfl) (by kernel_rfl) (fun _ => by kernel_rfl) (fun _ => by kernel_rfl) (fun _ => by kernel_rfl) dr Tryz.underlying183 (by have := Bz ns i j; rw [List.length_append]; unfold maxLen; omega) (mO (hwf j (by omega)).1 (hwf j (by omega)).2) (Hf (rQ hup) h46) (He hat h46) ?_
    refine NL (ai.aQ (NX (af.region ?_)))
    refine gK 2 [(18, vI ↑(j + 1))] [(0, p_ ⟨[], none, none, none, some (vI ↑(j + 1))⟩ [(Value.int .i64 (IntKind.wrap .i64 (((j : Nat) : Int) + 1))) = (.int .i64 ↑(j + 1))] ⟨bI (by omega) (by omega) (by omega), trivial⟩)] ?_
    refine NL ?_
    exact ai.turn ((j + 1)) (idx := [0, 1, 2, 7, 16, 17, 18]) (pk := [0, 1, 2]) (show (((j + 1)) ≤ (nd ns i).ah.length) ∧ (∀ t, t < ((j + 1)) → kV ns i t) ∧ (((cA ns i ((j + 1)) ++ ps).map Prod.fst).Nodup) from ⟨by omega, fun t ht => (by rcases Nat.lt_succ_iff_lt_or_eq.1 ht with h | h; exact hok t h; subst h; exact ⟨hat, vu, mI⟩), (D1 hat h46 hup hnd)⟩) (by show (nd ns i).ah.length - ((j + 1)) < (nd ns i).ah.length - j; omega) (fun _ => by kernel_rfl) rfl (by kernel_rfl)
   refine aj.p4 1 (d := (some 51)) (t := 183) (K := 3) (E := 3) (b := mp) (n := (cA ns i j ++ ps).length) (f := (mf (pf ((cA ns i j ++ ps).map (gA ns))))) (x := (.tmp 48)) (ix := (.tmp 50)) (key := .int .i64 ((en (nd ns i).ah j).id)) (z := .int .i64 0) (kl := (.int .i64 (en (nd ns i).ah j).id)) (r := (some (vI y))) (fun _ => by kernel_rfl) (by kernel_rfl) (fun _ => by kernel_rfl) (fun _ => by kernel_rfl) dr Tryz.underlying183 (fun _ => by kernel_rfl) (mO (hwf j (by omega)).1 (hwf j (by omega)).2) (Jk hup) ?_
   refine gK 5 [(12, .bool true)] [] ?_
   refine NS ?_
   refine gK 1 [(54, .bool true)] [] ?_
   refine NN ?_
   refine CT ?_
   refine SR ?_
   refine gK 1 [(6, .bool false)] [] ?_
   refine NN (af.ret (ai.aq (ai.aE (ai.aq (ai.aq (ai.aE (ai.aq ?_)))))))
   exact RT (l := []) (.bool false) [2] (.inr ⟨rfl, CU hr hps hok hat h46 hup (by omega), rfl⟩)
  refine aj.dI 0 (d := (some 25)) (t := 143) (K := 3) (E := 146) (b := mb) (n := ns.length) (f := (mf (bf A ns ns.length))) (x := (.tmp 22)) (ix := (.tmp 24)) (key := .int .i64 ((en (nd ns i).ah j).id)) (z := .pointer none) (kl := (.int .i64 (en (nd ns i).ah j).id)) (r := none) (fun _ => by kernel_rfl) (by kernel_rfl) (fun _ => by kernel_rfl) (fun _ => by kernel_rfl) dr Tryz.underlying143 (fun _ => by kernel_rfl) (mO (hwf j (by omega)).1 (hwf j (by omega)).2) (J0 hat) ?_
  refine gK 1 [(10, .pointer none)] [] ?_
  refine NN (af.seq (SR ?_))
  refine gK 14 [(39, .bool true)] [] ?_
  refine NN ?_
  refine CT ?_
  refine SR ?_
  refine gK 1 [(6, .bool false)] [] ?_
  refine NN (af.ret (ai.aq (ai.aE (ai.aq (ai.aq (ai.aE (ai.aq ?_)))))))
  exact RT (l := []) (.bool false) [2] (.inr ⟨rfl, fun h => hat (h.ah j (by omega)).at_, rfl⟩)
 refine af.exit (ai.aW (ai.aW (ai.ck (NX (SR ?_)))))
 refine gK 1 [(6, .bool true)] [] ?_
 refine NN (af.ret ?_)
 exact RT (l := [.abs (aI Tryz.prog 3 mb (mf (bf A ns ns.length)) ns.length), .abs (aI Tryz.prog 3 mp (mf (pf ((cA ns i j ++ ps).map (gA ns)))) ((cA ns i j ++ ps).length))]) (.bool true) [0, 1, 2] (.inl ⟨rfl, ⟨fun t ht => hok t (by omega), by have := hnd; rwa [show j = (nd ns i).ah.length by omega] at this⟩, by rw [show j = (nd ns i).ah.length by omega]⟩)
end
section
open Go.RowKit Go.Maps
def dF (ns : List aK) : Nat → Nat
  | 0 => 0
  | k + 1 => dF ns k + (nd ns k).ah.length
def jG (ns : List aK) : Nat → Int
  | 0 => 0
  | k + 1 => (nd ns k).id
structure bV (ns : List aK) : Prop where
  len : ns.length ≤ 4096
  node : ∀ i, i < ns.length → nH (nd ns i)
  ids : ∀ i, i < ns.length → 1 ≤ (nd ns i).id ∧ (nd ns i).id ≤ 1099511627776
  rise : cq ns
  sum : dF ns ns.length ≤ 8192
  ah : ∀ i, i < ns.length → ∀ j, j < (nd ns i).ah.length → kV ns i j
  nodup : ((dU ns ns.length).map Prod.fst).Nodup
  ends : tA ((dU ns ns.length).map (gA ns))
noncomputable instance (ns : List aK) : Decidable (bV ns) := Classical.propDecidable _
theorem bV.last {ns : List aK} (h : bV ns) {k : Nat} (hk : k < ns.length) : jG ns k < (nd ns k).id := by
  cases k with
  | zero => have := (h.ids 0 hk).1; show (0 : Int) < _; omega
  | succ k => exact h.rise k (k + 1) (Nat.lt_succ_self k) hk
structure nj (ns : List aK) (k : Nat) : Prop where
  node : ∀ i, i < k → nH (nd ns i)
  ids : ∀ i, i < k → 1 ≤ (nd ns i).id ∧ (nd ns i).id ≤ 1099511627776
  rise : ∀ i j, i < j → j < k → (nd ns i).id < (nd ns j).id
theorem nj.zero (ns : List aK) : nj ns 0 := ⟨fun i h => absurd h (Nat.not_lt_zero i), fun i h => absurd h (Nat.not_lt_zero i), fun _ j _ h => absurd h (Nat.not_lt_zero j)⟩
theorem nj.last {ns : List aK} {k : Nat} (h : nj ns k) : 0 ≤ jG ns k ∧ jG ns k ≤ 1099511627776 := by
  cases k with
  | zero => exact ⟨Int.le_refl _, by show (0 : Int) ≤ 1099511627776; decide⟩
  | succ k => have := h.ids k (Nat.lt_succ_self k); exact ⟨by show 0 ≤ (nd ns k).id; omega, this.2⟩
theorem nj.step {ns : List aK} {k : Nat} (h : nj ns k) (h1 : jG ns k < (nd ns k).id) (h2 : (nd ns k).id ≤ 1099511627776) (h3 : nH (nd ns k)) : nj ns (k + 1) := by
  have hl := h.last
  refine ⟨fun i hi => ?_, fun i hi => ?_, fun i j hij hj => ?_⟩
  ·rcases Nat.lt_succ_iff_lt_or_eq.1 hi with e | e
   ·exact h.node i e
   rw [e]; exact h3
  ·rcases Nat.lt_succ_iff_lt_or_eq.1 hi with e | e
   ·exact h.ids i e
   rw [e]; omega
  rcases Nat.lt_succ_iff_lt_or_eq.1 hj with e | e
  ·exact h.rise i j hij e
  subst e
  cases j with
  | zero => omega
  | succ m =>
    have h4 : (nd ns m).id < (nd ns (m + 1)).id := h1
    rcases Nat.lt_succ_iff_lt_or_eq.1 hij with e | e
    ·have := h.rise i m e (Nat.lt_succ_self m); omega
    rw [e]; exact h4
theorem CD {ns : List aK} {k : Nat} (h : ∀ i, i < k → (nd ns i).id < (nd ns k).id) (hk : k < ns.length) : mJ ns (nd ns k).id = (k : Int) := by
  unfold mJ
  have hg : ∀ j (hj : j < ns.length), nd ns j = ns[j] := fun j hj => by
    unfold nd
    rw [List.getD_eq_getElem?_getD, List.getElem?_eq_getElem hj]
    rfl
  have : ns.findIdx? (fun n => n.id == (nd ns k).id) = some k := by
    rw [List.findIdx?_eq_some_iff_getElem]
    refine ⟨hk, by rw [← hg k hk]; simp, fun j hj => ?_⟩
    have := h j hj
    rw [← hg j (by omega)]
    simp
    omega
  rw [this]
theorem L7 {A : Option Addr} {ns : List aK} {k : Nat} (h : ∀ i, i < k → (nd ns i).id < (nd ns k).id) (hk : k < ns.length) :
    jC (mf (bf A ns k)) (.int .i64 (nd ns k).id) (some (.pointer (some ⟨ax A, av A + k * 10, none⟩))) = mf (bf A ns (k + 1)) := by
  have ha := CD h hk
  rw [Br]
  congr 1
  funext z
  unfold bf
  by_cases e : z = (nd ns k).id
  ·subst e
   rw [if_pos rfl, if_pos ⟨by omega, by omega⟩]
   unfold tgt
   rw [ha]
   rfl
  rw [if_neg e]
  by_cases e1 : 0 ≤ mJ ns z ∧ mJ ns z < (k : Int)
  ·rw [if_pos e1, if_pos ⟨e1.1, by omega⟩]
  rw [if_neg e1, if_neg (fun e2 => ?_)]
  have e3 : mJ ns z = (k : Int) := by omega
  have e4 := (kI e2.1).2
  rw [e4.2] at e3
  have e5 : tgt ns z = k := by omega
  rw [e5] at e4
  exact e e4.1.symm
theorem IQ {A : Option Addr} {ns : List aK} {k : Nat} (h : ∀ i, i < k → (nd ns i).id < (nd ns k).id) (hk : k < ns.length) : (if ((mf (bf A ns k)) (.int .i64 (nd ns k).id)).isSome then k else k + 1) = k + 1 := by
  have ha := CD h hk
  have : mf (bf A ns k) (.int .i64 (nd ns k).id) = none := if_neg (fun e => by omega)
  rw [this]
  rfl
theorem nj.below {ns : List aK} {k : Nat} (h : nj ns k) (h1 : jG ns k < (nd ns k).id) : ∀ i, i < k → (nd ns i).id < (nd ns k).id := by
  intro i hi
  cases k with
  | zero => omega
  | succ m =>
    have h1 : (nd ns m).id < (nd ns (m + 1)).id := h1
    rcases Nat.lt_succ_iff_lt_or_eq.1 hi with e | e
    ·have := h.rise i m e (Nat.lt_succ_self m); omega
    rw [e]; exact h1
theorem Km {A : Option Addr} {ns : List aK} : mf (bf A ns 0) = fun _ => none := by
  rw [← yJ]
  congr 1
  funext z
  exact if_neg (fun e => by omega)
theorem Kn {ns : List aK} : mf (pf ((dU ns 0).map (gA ns))) = fun _ => none := by
  rw [← yJ]
  congr 1
theorem wD {ns : List aK} {i : Nat} (hi : i ≤ ns.length) (h : ∀ a, a < i → ∀ j, j < (nd ns a).ah.length → kV ns a j) : ∀ p, p ∈ dU ns i → p.1 < ns.length ∧ p.2 < ns.length := by
  induction i with
  | zero => intro p hp; cases hp
  | succ i ih =>
    intro p hp
    rw [dU] at hp
    rcases List.mem_append.1 hp with hp | hp
    ·have := BA (h i (Nat.lt_succ_self i)) p hp
     exact ⟨this.1, by omega⟩
    exact ih (by omega) (fun a ha => h a (by omega)) p hp
theorem CG (ns : List aK) (i : Nat) : (dU ns i).length ≤ dF ns i := by
  induction i with
  | zero => exact Nat.le_refl _
  | succ i ih =>
    rw [dU, dF, List.length_append]
    have := Bz ns i (nd ns i).ah.length
    omega
theorem qM {ns : List aK} {i m : Nat} (h : i ≤ m) : dF ns i ≤ dF ns m := by
  induction m with
  | zero => rw [Nat.le_zero.1 h]; exact Nat.le_refl _
  | succ m ih =>
    rcases Nat.lt_or_ge m i with h1 | h1
    ·have : i = m + 1 := by omega
     subst this
     exact Nat.le_refl _
    have := ih h1
    rw [dF]
    omega
theorem GH {ns : List aK} {ps : List (Nat × Nat)} (hp : ∀ p, p ∈ ps → p.1 < ns.length ∧ p.2 < ns.length) (hid : ∀ i, i < ns.length → 1 ≤ (nd ns i).id ∧ (nd ns i).id ≤ 1099511627776) :
    ∀ z y, up (ps.map (gA ns)) z = some y → (-9223372036854775808 ≤ z ∧ z ≤ 9223372036854775807) ∧ (-9223372036854775808 ≤ y ∧ y ≤ 9223372036854775807) := by
  intro z y h
  unfold up at h
  induction ps with
  | nil => cases h
  | cons p ps ih =>
    obtain ⟨a, b⟩ := p
    rw [List.map_cons, gA, List.lookup_cons] at h
    by_cases e : (z == (nd ns a).id) = true
    ·rw [e] at h
     cases h
     have h1 := hp (a, b) (List.mem_cons_self ..)
     have h2 := hid a h1.1
     have h3 := hid b h1.2
     have : z = (nd ns a).id := by simpa using e
     show (_ ∧ _) ∧ (-9223372036854775808 ≤ (nd ns b).id ∧ (nd ns b).id ≤ 9223372036854775807)
     omega
    have e : (z == (nd ns a).id) = false := by simpa using e
    rw [e] at h
    exact ih (fun p hp' => hp p (List.mem_cons_of_mem _ hp')) h
theorem L8 {p : Prop} [Decidable p] {v : Value} {l : List HP} (h : v = .bool (decide p) ∧ l = []) : (v = .bool true ∧ p ∧ l = []) ∨ (v = .bool false ∧ ¬ p ∧ l = []) := by
  by_cases hp : p
  ·exact .inl ⟨by rw [h.1, decide_eq_true hp], hp, h.2⟩
  exact .inr ⟨by rw [h.1, decide_eq_false hp], hp, h.2⟩
theorem rR.next {ns : List aK} {i : Nat} (h : rR ns i (dU ns i)) : ((dU ns (i + 1)).map Prod.fst).Nodup := h.nodup
theorem bV.row {ns : List aK} (h : bV ns) {i : Nat} (hi : i < ns.length) : rR ns i (dU ns i) := by
  refine ⟨h.ah i hi, ?_⟩
  obtain ⟨l, hl⟩ := Fu (ns := ns) (show i + 1 ≤ ns.length from hi)
  have := h.nodup
  rw [hl] at this
  exact tB this
end
section
open Go.RowKit
attribute [local irreducible] aj aT af ai
theorem Kp {β : Bs} (A : Option Addr) (c : Nat) (ns : List aK) (L : Lay) (hG : aB β A ns L) (hl : ns.length ≤ 1048576) (hd : ∀ i, i < ns.length → (nd ns i).data.length ≤ 140737488355328 ∧ (nd ns i).ah.length ≤ 1048576) (hwf : ∀ i, i < ns.length → ∀ j, j < (nd ns i).ah.length → -9223372036854775808 ≤ (ent ns i j).id ∧ (ent ns i j).id ≤ 9223372036854775807) (hnm : ∀ i, i < ns.length → ∀ j, j < (nd ns i).ah.length → (ent ns i j).name.size ≤ 1048576) :
    Spec Tryz.prog β 68 #[.agg #[.slice A ns.length c]] [] (fun v l => (∃ mb, v = .tuple #[.map (some mb), .bool true] ∧ bV ns ∧ l = [.abs (aI Tryz.prog 3 mb (mf (bf A ns ns.length)) ns.length)]) ∨ (∃ m, v = .tuple #[m, .bool false] ∧ ¬ bV ns ∧ l = [])) := by
 refine Spec.enter Tryz.func68 rfl Tryz.ntmps68 (Nat.le_of_ble_eq_true rfl) (fun R => ?_)
 refine SR ?_
 refine gN 3 (fun b1 => [(1, vP b1)]) (fun _ => []) (fun _ => []) (fun b1 => .blk b1 [.slice A (ns.length) (c)] 24) (fun b1 => ?_)
 refine NN (af.seq (SR ?_))
 refine gK 4 [(14, .bool (decide ((((ns.length : Nat) : Int) : Int) > (4096 : Int))))] [(1, a_ 1 b1)] ?_
 refine NN ?_
 refine af.bB (p := (((ns.length : Nat) : Int) : Int) > (4096 : Int)) (fun _ => by kernel_rfl) (fun gj => ?_) (fun gj => ?_)
 ·refine SR ?_
  refine gK 2 [(2, .map none), (3, .bool false)] [] ?_
  refine NN (af.ret (ai.aq ?_))
  exact RT (.tuple #[.map none, .bool false]) [0] (.inr ⟨_, rfl, fun h => by have := h.len; omega, rfl⟩)
 refine af.skip (NX (SR ?_))
 refine aj.lF (d := (some 15)) (t := 143) (fun _ => by kernel_rfl) Tryz.prog rfl 3 (fun m2 => ?_)
 refine gK 1 [(4, .map (some m2))] [] ?_
 refine NS ?_
 refine aj.eO 2 (p := .abs (aI Tryz.prog 3 m2 (fun _ => none) 0)) (p' := .abs (aI Tryz.prog 3 m2 (mf (bf A ns 0)) 0)) (by kernel_rfl) (by rw [Km]) ?_
 refine gK 2 [(5, vI 0), (6, vI 0)] [] ?_
 refine NN (af.seq (SR ?_))
 refine gK 4 [(18, vI ↑ns.length), (19, vI 0)] [(1, a_ 1 b1)] ?_
 refine NN (af.block ?_)
 refine af.loop (ι := Nat) (fun (k : Nat) => (k ≤ ns.length) ∧ (nj ns k) ∧ (dF ns k ≤ k * 1048576)) (fun (k : Nat) => ns.length - k) (fun (k : Nat) => [(1, vP b1), (4, .map (some m2)), (5, vI (jG ns k)), (6, vI ↑(dF ns k)), (18, vI ↑ns.length), (19, vI ↑k)]) (fun (k : Nat) => [.blk b1 [.slice A (ns.length) (c)] 24, .abs (aI Tryz.prog 3 m2 (mf (bf A ns k)) k), .abs R]) 0 (idx := [1, 4, 5, 6, 18, 19]) (pk := [1, 2, 0]) (show (0 ≤ ns.length) ∧ (nj ns 0) ∧ (dF ns 0 ≤ 0 * 1048576) from ⟨Nat.zero_le _, nj.zero ns, Nat.zero_le _⟩) (fun _ => by kernel_rfl) rfl (by kernel_rfl) ?_
 rintro k ⟨hk, hu, hs⟩
 show af _ _ _ _ [(1, vP b1), (4, .map (some m2)), (5, vI (jG ns k)), (6, vI ↑(dF ns k)), (18, vI ↑ns.length), (19, vI ↑k)] [.blk b1 [.slice A (ns.length) (c)] 24, .abs (aI Tryz.prog 3 m2 (mf (bf A ns k)) k), .abs R] _
 have hk4 := (hd k)
 refine SR ?_
 refine gK 1 [(20, .bool (decide ((((k : Nat) : Int) : Int) < (((ns.length : Nat) : Int) : Int))))] [] ?_
 refine NN (af.seq ?_)
 refine af.bB (p := (((k : Nat) : Int) : Int) < (((ns.length : Nat) : Int) : Int)) (fun _ => by kernel_rfl) (fun mK => ?_) (fun mK => ?_)
 ·refine af.skip (NX (af.seq (af.block (SR ?_))))
  refine gK 2 [(7, vI ↑k)] [] ?_
  refine NS ?_
  refine gK 5 [(8, .pointer (some ⟨(ax A), av A + k * 10, none⟩))] [(1, a_ 0 b1), (3, p_ ⟨[], some k, none, some ⟨(ax A), av A, none⟩, none⟩ [((k : Nat) : Int) = ((k : Nat) : Int), k < ns.length, (⟨(ax A), av A, none⟩ : Addr).spot = none, (A : Option Addr) = some ⟨(ax A), av A, none⟩] ⟨rfl, by omega, rfl, aB.hd hG (i := k) (by omega), trivial⟩)] ?_
  refine NN (af.seq (SR ?_))
  refine gK 7 [(32, .bool (decide (((nd ns k).id : Int) ≤ (jG ns k : Int))))] [(3, p_ ⟨[.old (.int .i64 ((nd ns k).id))], none, none, none, none⟩ [(Rd β ⟨(ax A), av A + k * 10, none⟩ (.int .i64 ((nd ns k).id)))] ⟨aB.rd hG (i := k) (by omega) (j := 0) rfl, trivial⟩)] ?_
  refine aj.fk 32 (((nd ns k).id : Int) ≤ (jG ns k : Int)) (fun _ => by kernel_rfl) (fun Dm => ?_) (fun Dm => ?_)
  ·refine gK 11 [(43, .bool true)] [] ?_
   refine NN ?_
   refine CT ?_
   refine SR ?_
   refine gK 2 [(2, .map none), (3, .bool false)] [] ?_
   refine NN (af.ret (ai.aq (ai.aE (ai.aq (ai.aq (ai.aE (ai.aq ?_)))))))
   exact RT (.tuple #[.map none, .bool false]) [2] (.inr ⟨_, rfl, fun h => by have := h.last (show k < ns.length by omega); omega, rfl⟩)
  refine gK 7 [(39, .bool (decide (((nd ns k).id : Int) > (1099511627776 : Int))))] [(3, p_ ⟨[.old (.int .i64 ((nd ns k).id))], none, none, none, none⟩ [(Rd β ⟨(ax A), av A + k * 10, none⟩ (.int .i64 ((nd ns k).id)))] ⟨aB.rd hG (i := k) (by omega) (j := 0) rfl, trivial⟩)] ?_
  refine aj.fk 39 (((nd ns k).id : Int) > (1099511627776 : Int)) (fun _ => by kernel_rfl) (fun mI => ?_) (fun mI => ?_)
  ·refine gK 4 [(43, .bool true)] [] ?_
   refine NN ?_
   refine CT ?_
   refine SR ?_
   refine gK 2 [(2, .map none), (3, .bool false)] [] ?_
   refine NN (af.ret (ai.aq (ai.aE (ai.aq (ai.aq (ai.aE (ai.aq ?_)))))))
   exact RT (.tuple #[.map none, .bool false]) [2] (.inr ⟨_, rfl, fun h => by have := (h.ids k (by omega)).2; omega, rfl⟩)
  refine gK 1 [(40, .pointer (some ⟨(ax A), av A + k * 10, none⟩))] [] ?_
  refine gL [] (G9 A ns L hG k (by omega)) ?_
  rintro _ _ ⟨rfl, rfl⟩
  refine gK 2 [(43, .bool (!(decide (nH (nd ns k)))))] [] ?_
  refine NN ?_
  refine af.ct (p := nH (nd ns k)) (fun _ => by kernel_rfl) (fun L9 => ?_) (fun L9 => ?_)
  ·refine SR ?_
   refine gK 2 [(2, .map none), (3, .bool false)] [] ?_
   refine NN (af.ret (ai.aq (ai.aE (ai.aq (ai.aq (ai.aE (ai.aq ?_)))))))
   exact RT (.tuple #[.map none, .bool false]) [2] (.inr ⟨_, rfl, fun h => L9 (h.node k (by omega)), rfl⟩)
  refine af.skip (NX (SR ?_))
  refine gK 5 [(5, vI ((nd ns k).id))] [(3, p_ ⟨[.old (.int .i64 ((nd ns k).id))], none, none, none, none⟩ [(Rd β ⟨(ax A), av A + k * 10, none⟩ (.int .i64 ((nd ns k).id)))] ⟨aB.rd hG (i := k) (by omega) (j := 0) rfl, trivial⟩)] ?_
  refine NS ?_
  refine gK 6 [(48, .map (some m2)), (52, vI ((nd ns k).id)), (53, .pointer (some ⟨(ax A), av A + k * 10, none⟩))] [(4, p_ ⟨[.old (.int .i64 ((nd ns k).id))], none, none, none, none⟩ [(Rd β ⟨(ax A), av A + k * 10, none⟩ (.int .i64 ((nd ns k).id)))] ⟨aB.rd hG (i := k) (by omega) (j := 0) rfl, trivial⟩)] ?_
  refine aj.jY 1 (d := none) (t := 143) (K := 3) (E := 146) (b := m2) (n := k) (f := (mf (bf A ns k))) (x := (.tmp 48)) (ix := (.tmp 52)) (y := (.tmp 53)) (key := .int .i64 ((nd ns k).id)) (u := .pointer (some ⟨(ax A), av A + k * 10, none⟩)) (kl := (.int .i64 (nd ns k).id)) (n' := k + 1) (f' := (mf (bf A ns (k + 1)))) (fun _ => by kernel_rfl) (by kernel_rfl) (fun _ => by kernel_rfl) (fun _ => by kernel_rfl) (fun _ => by kernel_rfl) dr Tryz.underlying143 (by unfold maxLen; omega) (mO (by have := hu.last; omega) (by omega)) (IQ (hu.below (by omega)) (by omega)) (L7 (hu.below (by omega)) (by omega)) ?_
  refine NN (af.region ?_)
  refine gK 8 [(6, vI ↑((dF ns k) + ((nd ns k).ah.length)))] [(4, p_ ⟨[.old (.slice (L.eA k) ((nd ns k).ah.length) ((L.eC k)))], none, none, none, none⟩ [(Rd β ⟨(ax A), av A + k * 10 + 9, none⟩ (.slice (L.eA k) ((nd ns k).ah.length) ((L.eC k))))] ⟨aB.rd hG (i := k) (by omega) (j := 9) rfl, trivial⟩), (6, p_ ⟨[], none, none, none, some (vI ↑((dF ns k) + ((nd ns k).ah.length)))⟩ [(Value.int .i64 (IntKind.wrap .i64 (((dF ns k : Nat) : Int) + (((nd ns k).ah.length : Nat) : Int)))) = (.int .i64 ↑((dF ns k) + ((nd ns k).ah.length)))] ⟨bI (by omega) (by omega) (by omega), trivial⟩)] ?_
  refine NL (ai.aQ (NX (af.region ?_)))
  refine gK 2 [(19, vI ↑(k + 1))] [(0, p_ ⟨[], none, none, none, some (vI ↑(k + 1))⟩ [(Value.int .i64 (IntKind.wrap .i64 (((k : Nat) : Int) + 1))) = (.int .i64 ↑(k + 1))] ⟨bI (by omega) (by omega) (by omega), trivial⟩)] ?_
  refine NL ?_
  exact ai.turn ((k + 1)) (idx := [1, 4, 5, 6, 18, 19]) (pk := [0, 1, 2]) (show (((k + 1)) ≤ ns.length) ∧ (nj ns ((k + 1))) ∧ (dF ns ((k + 1)) ≤ ((k + 1)) * 1048576) from ⟨by omega, hu.step (by omega) (by omega) L9, by have := (hd k (by omega)).2; show dF ns k + _ ≤ _; omega⟩) (by show ns.length - ((k + 1)) < ns.length - k; omega) (fun _ => by kernel_rfl) rfl (by kernel_rfl)
 refine af.exit (ai.aW (ai.aW (ai.ck (NX (af.seq (SR ?_))))))
 refine gK 2 [(63, .bool (decide ((((dF ns k : Nat) : Int) : Int) > (8192 : Int))))] [] ?_
 refine NN ?_
 refine af.bB (p := (((dF ns k : Nat) : Int) : Int) > (8192 : Int)) (fun _ => by kernel_rfl) (fun h63 => ?_) (fun h63 => ?_)
 ·refine SR ?_
  refine gK 2 [(2, .map none), (3, .bool false)] [] ?_
  refine NN (af.ret (ai.aq ?_))
  exact RT (.tuple #[.map none, .bool false]) [2] (.inr ⟨_, rfl, fun h => by have h1 := h.sum; rw [show ns.length = k by omega] at h1; omega, rfl⟩)
 refine af.skip (NX (SR ?_))
 refine aj.lF (d := (some 64)) (t := 183) (fun _ => by kernel_rfl) Tryz.prog rfl 3 (fun m3 => ?_)
 refine gK 1 [(9, .map (some m3))] [] ?_
 refine NN (af.seq (SR ?_))
 refine aj.eO 3 (p := .abs (aI Tryz.prog 3 m3 (fun _ => none) 0)) (p' := .abs (aI Tryz.prog 3 m3 (mf (pf ((dU ns 0).map (gA ns)))) ((dU ns 0).length))) (by kernel_rfl) (by rw [Kn]; rfl) ?_
 refine aj.eO 1 (p := .abs (aI Tryz.prog 3 m2 (mf (bf A ns k)) k)) (p' := .abs (aI Tryz.prog 3 m2 (mf (bf A ns ns.length)) ns.length)) (by kernel_rfl) (by rw [show k = ns.length by omega]) ?_
 refine gK 4 [(67, vI ↑ns.length), (68, vI 0)] [(1, a_ 0 b1)] ?_
 refine NN (af.block ?_)
 have JN : cq ns := fun a b hab hb => hu.rise a b hab (by omega)
 have hsum : dF ns ns.length ≤ 8192 := by rw [show ns.length = k by omega]; omega
 refine af.loop (ι := Nat) (fun (i : Nat) => (i ≤ ns.length) ∧ (∀ a, a < i → ∀ j, j < (nd ns a).ah.length → kV ns a j) ∧ (((dU ns i).map Prod.fst).Nodup)) (fun (i : Nat) => ns.length - i) (fun (i : Nat) => [(1, vP b1), (4, .map (some m2)), (9, .map (some m3)), (67, vI ↑ns.length), (68, vI ↑i)]) (fun (i : Nat) => [.blk b1 [.slice A (ns.length) (c)] 24, .abs (aI Tryz.prog 3 m2 (mf (bf A ns ns.length)) ns.length), .abs (aI Tryz.prog 3 m3 (mf (pf ((dU ns i).map (gA ns)))) ((dU ns i).length)), .abs R]) 0 (idx := [1, 4, 9, 67, 68]) (pk := [0, 1, 3, 2]) (show (0 ≤ ns.length) ∧ (∀ a, a < 0 → ∀ j, j < (nd ns a).ah.length → kV ns a j) ∧ (((dU ns 0).map Prod.fst).Nodup) from ⟨Nat.zero_le _, fun a ha => absurd ha (Nat.not_lt_zero a), List.nodup_nil⟩) (fun _ => by kernel_rfl) rfl (by kernel_rfl) ?_
 rintro i ⟨hi, AU, hnd⟩
 show af _ _ _ _ [(1, vP b1), (4, .map (some m2)), (9, .map (some m3)), (67, vI ↑ns.length), (68, vI ↑i)] [.blk b1 [.slice A (ns.length) (c)] 24, .abs (aI Tryz.prog 3 m2 (mf (bf A ns ns.length)) ns.length), .abs (aI Tryz.prog 3 m3 (mf (pf ((dU ns i).map (gA ns)))) ((dU ns i).length)), .abs R] _
 refine SR ?_
 refine gK 1 [(69, .bool (decide ((((i : Nat) : Int) : Int) < (((ns.length : Nat) : Int) : Int))))] [] ?_
 refine NN (af.seq ?_)
 refine af.bB (p := (((i : Nat) : Int) : Int) < (((ns.length : Nat) : Int) : Int)) (fun _ => by kernel_rfl) (fun Jj => ?_) (fun Jj => ?_)
 ·refine af.skip (NX (af.seq (af.block (SR ?_))))
  refine gK 2 [(10, vI ↑i)] [] ?_
  refine NS ?_
  refine gK 6 [(74, .pointer (some ⟨(ax A), av A + i * 10, none⟩)), (75, .map (some m2)), (76, .map (some m3))] [(1, a_ 0 b1), (3, p_ ⟨[], some i, none, some ⟨(ax A), av A, none⟩, none⟩ [((i : Nat) : Int) = ((i : Nat) : Int), i < ns.length, (⟨(ax A), av A, none⟩ : Addr).spot = none, (A : Option Addr) = some ⟨(ax A), av A, none⟩] ⟨rfl, by omega, rfl, aB.hd hG (i := i) (by omega), trivial⟩)] ?_
  refine gL [1, 2] (IL A ns L hG JN i (by omega) (hd i (by omega)).2 (hwf i (by omega)) (hnm i (by omega)) m2 m3 (dU ns i) (by have := CG ns i; have := qM (ns := ns) (show i ≤ ns.length by omega); omega) (fun p hp => (wD (by omega) AU p hp).1) hnd) ?_
  rintro _ _ (⟨rfl, hro, rfl⟩ | ⟨rfl, hro, rfl⟩)
  ·refine gK 1 [(78, .bool false)] [] ?_
   refine NN ?_
   refine CF ?_
   refine af.skip (ai.aQ (NX (af.region ?_)))
   refine gK 2 [(68, vI ↑(i + 1))] [(0, p_ ⟨[], none, none, none, some (vI ↑(i + 1))⟩ [(Value.int .i64 (IntKind.wrap .i64 (((i : Nat) : Int) + 1))) = (.int .i64 ↑(i + 1))] ⟨bI (by omega) (by omega) (by omega), trivial⟩)] ?_
   refine NL ?_
   exact ai.turn ((i + 1)) (idx := [1, 4, 9, 67, 68]) (pk := [2, 0, 1, 3]) (show (((i + 1)) ≤ ns.length) ∧ (∀ a, a < ((i + 1)) → ∀ j, j < (nd ns a).ah.length → kV ns a j) ∧ (((dU ns ((i + 1))).map Prod.fst).Nodup) from ⟨by omega, fun a ha => (by rcases Nat.lt_succ_iff_lt_or_eq.1 ha with h | h; exact AU a h; subst h; exact hro.ah), hro.next⟩) (by show ns.length - ((i + 1)) < ns.length - i; omega) (fun _ => by kernel_rfl) rfl (by kernel_rfl)
  refine gK 1 [(78, .bool true)] [] ?_
  refine NN ?_
  refine CT ?_
  refine SR ?_
  refine gK 2 [(2, .map none), (3, .bool false)] [] ?_
  refine NN (af.ret (ai.aE (ai.aq (ai.aq (ai.aE (ai.aq ?_))))))
  exact RT (.tuple #[.map none, .bool false]) [1] (.inr ⟨_, rfl, fun h => hro (h.row (by omega)), rfl⟩)
 refine af.exit (ai.aW (ai.aW (ai.ck (NX (SR ?_)))))
 refine gK 2 [(80, .map (some m2)), (81, .map (some m3))] [] ?_
 refine aj.eO 2 (p := .abs (aI Tryz.prog 3 m3 (mf (pf ((dU ns i).map (gA ns)))) ((dU ns i).length))) (p' := .abs (aI Tryz.prog 3 m3 (mf (pf ((dU ns i).map (gA ns)))) (((dU ns i).map (gA ns)).length))) (by kernel_rfl) (by rw [List.length_map]) ?_
 refine gL [2] ((Fm m3 ((dU ns i).map (gA ns)) (by rw [List.length_map]; have := CG ns i; have := qM (ns := ns) (show i ≤ ns.length by omega); omega) (GH (wD (by omega) AU) (fun a ha => hu.ids a (by omega)))).mono (fun v l h => L8 h)) ?_
 rintro _ _ (⟨rfl, Ma, rfl⟩ | ⟨rfl, Ma, rfl⟩)
 ·refine gK 2 [(2, .map (some m2)), (3, .bool true)] [] ?_
  refine NN (af.ret ?_)
  exact RT (.tuple #[.map (some m2), .bool true]) [1, 2] (.inl ⟨m2, rfl, ⟨by omega, fun a ha => hu.node a (by omega), fun a ha => hu.ids a (by omega), JN, by omega, fun a ha => AU a (by omega), by have := hnd; rwa [show i = ns.length by omega] at this, by have := Ma; rwa [show i = ns.length by omega] at this⟩, rfl⟩)
 refine gK 2 [(2, .map (some m2)), (3, .bool false)] [] ?_
 refine NN (af.ret ?_)
 exact RT (.tuple #[.map (some m2), .bool false]) [2] (.inr ⟨_, rfl, fun h => Ma (by have := h.ends; rwa [show ns.length = i by omega] at this), rfl⟩)
theorem IU {β : Bs} (A : Option Addr) (c : Nat) (ns : List aK) (L : Lay) (hG : aB β A ns L) (hl : ns.length ≤ 1048576) (hd : ∀ i, i < ns.length → (nd ns i).data.length ≤ 140737488355328 ∧ (nd ns i).ah.length ≤ 1048576) (hwf : ∀ i, i < ns.length → ∀ j, j < (nd ns i).ah.length → -9223372036854775808 ≤ (ent ns i j).id ∧ (ent ns i j).id ≤ 9223372036854775807) (hnm : ∀ i, i < ns.length → ∀ j, j < (nd ns i).ah.length → (ent ns i j).name.size ≤ 1048576) :
    Spec Tryz.prog β 27 #[.agg #[.slice A ns.length c]] [] (fun v l => v = vI (if bV ns then 0 else 140) ∧ l = []) := by
 refine Spec.enter Tryz.func27 rfl Tryz.ntmps27 (Nat.le_of_ble_eq_true rfl) (fun R => ?_)
 refine SR ?_
 refine gN 2 (fun b4 => [(1, vP b4)]) (fun _ => []) (fun _ => []) (fun b4 => .blk b4 [.slice A (ns.length) (c)] 24) (fun b4 => ?_)
 refine NN (af.seq (SR ?_))
 refine gK 1 [(6, .agg #[.slice A (ns.length) (c)])] [(0, a_ 1 b4)] ?_
 refine gL [] (Kp A c ns L hG hl hd hwf hnm) ?_
 rintro _ _ (⟨mb, rfl, hok, rfl⟩ | ⟨m, rfl, hok, rfl⟩)
 ·refine gK 5 [(4, .bool true)] [] ?_
  refine NS ?_
  refine gK 2 [(11, .bool false)] [] ?_
  refine NN ?_
  refine CF ?_
  refine af.skip (NX (SR ?_))
  refine gK 1 [(2, vI 0)] [] ?_
  refine NN (af.ret ?_)
  exact RT (vI 0) [1] (⟨congrArg (Value.int .i64) (if_pos hok).symm, rfl⟩)
 refine gK 5 [(4, .bool false)] [] ?_
 refine NS ?_
 refine gK 2 [(11, .bool true)] [] ?_
 refine NN ?_
 refine CT ?_
 refine SR ?_
 refine gK 1 [(2, vI 140)] [] ?_
 refine NN (af.ret (ai.aq ?_))
 exact RT (vI 140) [0] (⟨congrArg (Value.int .i64) (if_neg hok).symm, rfl⟩)
end
section
open Go.RowKit Go.Maps
def OG (ed : List (Nat × Nat)) (k : Nat) : Int := match ed.lookup k with | some a => (a : Int) | none => -1
structure Qz (n : Nat) (pl : List Int) (ed : List (Nat × Nat)) : Prop where
  len : pl.length = n
  at_ : ∀ k, k < n → pl.getD k 0 = OG ed k
end
section
open Go.RowKit Go.Maps
structure zy (ns : List aK) (i j : Nat) : Prop where
  Mb : i < ns.length
  Aj : j < (nd ns i).ah.length
  dir : (nd ns (tgt ns (ent ns i j).id)).kind = 2
section
variable {ns : List aK}
theorem pV {i m : Nat} {p : Nat × Nat} : p ∈ cA ns i m ↔ ∃ j, j < m ∧ (nd ns (tgt ns (ent ns i j).id)).kind = 2 ∧ p = (tgt ns (ent ns i j).id, i) := by
  induction m with
  | zero => simp [cA]
  | succ m ih =>
    by_cases h : (nd ns (tgt ns (ent ns i m).id)).kind = 2
    ·rw [mQ h, List.mem_cons, ih]
     refine ⟨fun hp => ?_, fun ⟨j, hj, h1, h2⟩ => ?_⟩
     ·rcases hp with rfl | ⟨j, hj, h1, h2⟩
      ·exact ⟨m, Nat.lt_succ_self m, h, rfl⟩
      exact ⟨j, Nat.lt_succ_of_lt hj, h1, h2⟩
     rcases Nat.lt_succ_iff_lt_or_eq.1 hj with e | e
     ·exact .inr ⟨j, e, h1, h2⟩
     subst e; exact .inl h2
    rw [qf h, ih]
    refine ⟨fun ⟨j, hj, h1⟩ => ⟨j, Nat.lt_succ_of_lt hj, h1⟩, fun ⟨j, hj, h1, h2⟩ => ?_⟩
    rcases Nat.lt_succ_iff_lt_or_eq.1 hj with e | e
    ·exact ⟨j, e, h1, h2⟩
    subst e; exact absurd h1 h
theorem sC {m : Nat} {p : Nat × Nat} : p ∈ dU ns m ↔ ∃ i j, i < m ∧ j < (nd ns i).ah.length ∧ (nd ns (tgt ns (ent ns i j).id)).kind = 2 ∧ p = (tgt ns (ent ns i j).id, i) := by
  induction m with
  | zero => simp [dU]
  | succ m ih =>
    rw [dU, List.mem_append, pV, ih]
    refine ⟨fun h => ?_, fun ⟨i, j, hi, hj, h1, h2⟩ => ?_⟩
    ·rcases h with ⟨j, hj, h1, h2⟩ | ⟨i, j, hi, h⟩
     ·exact ⟨m, j, Nat.lt_succ_self m, hj, h1, h2⟩
     exact ⟨i, j, Nat.lt_succ_of_lt hi, h⟩
    rcases Nat.lt_succ_iff_lt_or_eq.1 hi with e | e
    ·exact .inr ⟨i, j, e, hj, h1, h2⟩
    subst e; exact .inl ⟨j, hj, h1, h2⟩
theorem zy.mem {i j : Nat} (h : zy ns i j) : (tgt ns (ent ns i j).id, i) ∈ dU ns ns.length := sC.2 ⟨i, j, h.Mb, h.Aj, h.dir, rfl⟩
def JO (ns : List aK) (m : Nat) : Prop := ∀ i j i' j', zy ns i j → zy ns i' j' → i < m → i' < m → tgt ns (ent ns i j).id = tgt ns (ent ns i' j').id → i = i' ∧ j = j'
theorem GI {i m : Nat} (h : ((cA ns i m).map Prod.fst).Nodup) : ∀ j j', j < m → j' < m → (nd ns (tgt ns (ent ns i j).id)).kind = 2 → (nd ns (tgt ns (ent ns i j').id)).kind = 2 → tgt ns (ent ns i j).id = tgt ns (ent ns i j').id → j = j' := by
  induction m with
  | zero => intro j j' hj; omega
  | succ m ih =>
    intro j j' hj hj' hk hk' e
    by_cases hm : (nd ns (tgt ns (ent ns i m).id)).kind = 2
    ·rw [mQ hm, List.map_cons, List.nodup_cons] at h
     rcases Nat.lt_succ_iff_lt_or_eq.1 hj with e1 | e1
     ·rcases Nat.lt_succ_iff_lt_or_eq.1 hj' with e2 | e2
      ·exact ih h.2 j j' e1 e2 hk hk' e
      subst e2; exact absurd (List.mem_map.2 ⟨_, pV.2 ⟨j, e1, hk, rfl⟩, e⟩) h.1
     rcases Nat.lt_succ_iff_lt_or_eq.1 hj' with e2 | e2
     ·subst e1; exact absurd (List.mem_map.2 ⟨_, pV.2 ⟨j', e2, hk', rfl⟩, e.symm⟩) h.1
     omega
    rw [qf hm] at h
    rcases Nat.lt_succ_iff_lt_or_eq.1 hj with e1 | e1
    ·rcases Nat.lt_succ_iff_lt_or_eq.1 hj' with e2 | e2
     ·exact ih h j j' e1 e2 hk hk' e
     subst e2; exact absurd hk' hm
    subst e1; exact absurd hk hm
theorem GJ {m : Nat} (h : ((dU ns m).map Prod.fst).Nodup) : JO ns m := by
  induction m with
  | zero => intro i j i' j' _ _ hi; omega
  | succ m ih =>
    rw [dU, List.map_append] at h
    obtain ⟨h1, h2, h3⟩ := List.nodup_append.1 h
    intro i j i' j' g g' hi hi' e
    rcases Nat.lt_succ_iff_lt_or_eq.1 hi with e1 | e1
    ·rcases Nat.lt_succ_iff_lt_or_eq.1 hi' with e2 | e2
     ·exact ih h2 i j i' j' g g' e1 e2 e
     subst e2
     exact absurd e.symm (h3 _ (List.mem_map.2 ⟨_, pV.2 ⟨j', g'.Aj, g'.dir, rfl⟩, rfl⟩) _ (List.mem_map.2 ⟨_, sC.2 ⟨i, j, e1, g.Aj, g.dir, rfl⟩, rfl⟩))
    rcases Nat.lt_succ_iff_lt_or_eq.1 hi' with e2 | e2
    ·subst e1
     exact absurd e (h3 _ (List.mem_map.2 ⟨_, pV.2 ⟨j, g.Aj, g.dir, rfl⟩, rfl⟩) _ (List.mem_map.2 ⟨_, sC.2 ⟨i', j', e2, g'.Aj, g'.dir, rfl⟩, rfl⟩))
    subst e1; subst e2
    exact ⟨rfl, GI h1 j j' g.Aj g'.Aj g.dir g'.dir e⟩
def DR (ns : List aK) (d : Nat → Nat) : Prop := ∀ i j, zy ns i j → d i < d (tgt ns (ent ns i j).id)
theorem bV.uniq (h : bV ns) : JO ns ns.length := GJ h.nodup
theorem bV.deep (h : bV ns) : ∃ d, DR ns d := by
  refine ⟨fun k => Classical.choose (h.ends (nd ns k).id), fun i j g => ?_⟩
  have hp := wD (ns := ns) (Nat.le_refl _) h.ah
  have hat := (h.ah i g.Mb j g.Aj).at_
  have htl := kI hat
  have e1 := Classical.choose_spec (h.ends (nd ns i).id)
  have e2 := Classical.choose_spec (h.ends (nd ns (tgt ns (ent ns i j).id)).id)
  show Classical.choose (h.ends (nd ns i).id) < Classical.choose (h.ends (nd ns (tgt ns (ent ns i j).id)).id)
  generalize Classical.choose (h.ends (nd ns i).id) = x at e1 ⊢
  generalize Classical.choose (h.ends (nd ns (tgt ns (ent ns i j).id)).id) = y at e2 ⊢
  cases hu : up ((dU ns ns.length).map (gA ns)) (nd ns (tgt ns (ent ns i j).id)).id with
  | none =>
    have := Dq hu
    exact absurd (List.mem_map.2 ⟨_, g.mem, rfl⟩) this
  | some z =>
    obtain ⟨_, p, g1, g2, g3⟩ := Dr h.rise htl.1 (fun p hp' => (hp p hp').1) hu
    obtain ⟨a, b, ha, hb, hk, rfl⟩ := sC.1 g1
    have g2 : tgt ns (ent ns a b).id = tgt ns (ent ns i j).id := g2
    obtain ⟨rfl, rfl⟩ := h.uniq a b i j ⟨ha, hb, hk⟩ g ha g.Mb g2
    have g3 : z = (nd ns a).id := g3
    cases y with
    | zero =>
      have e2 : up _ _ = none := e2
      rw [hu] at e2; cases e2
    | succ y =>
      obtain ⟨z', h1, h2⟩ := e2
      rw [hu] at h1
      cases h1
      rw [g3] at h2
      have := e1.uniq h2
      show x < y + 1
      omega
end
end
section
open Go.RowKit Go.Maps HeapM TabM
structure oQ (X : FM) : Prop where
  cN : 0 ≤ X.cN ∧ X.cN ≤ 4096
  cB : 0 ≤ X.cB ∧ X.cB ≤ 1099511627776
  cH : 0 ≤ X.cH ∧ X.cH ≤ 1024
  now : cQ X.cS X.cZ
def dX (n : aK) : Nat := n.id.toNat
def mE (n : aK) : Th := ⟨dX n, n.kind⟩
def nT (n : aK) : aP := ⟨n.id, n.mode, n.uid, n.gid, n.sec, n.nano, 0, 0, false, n.kind, n.data, n.target, [], none⟩
def Nd : aP := ⟨0, 0, 0, 0, 0, 0, 0, 0, false, 0, [], ⟨#[]⟩, [], none⟩
def fq (X : FM) : aG := ⟨{ X with last := 0, ah := 0, used := 0 }, fun _ => Nd, [], [], 0⟩
def bh (S : aG) (n : aK) : aG := { S with X := { S.X with last := n.id, used := S.X.used + n.data.length }, O := ay S.O (dX n) (fun _ => nT n), idx := ins n.id (mE n) S.idx }
def jV (ns : List aK) (e : gM) : Th := mE (nd ns (tgt ns e.id))
def ji (ns : List aK) (S : aG) (n : aK) (e : gM) : aG := { S with X := { S.X with ah := S.X.ah + 1 }, O := mr S.O (dX n) e.name (jV ns e) }
def pW (ns : List aK) : Nat → Nat
  | 0 => 0
  | k + 1 => pW ns k + (nd ns k).data.length
def CH (ns : List aK) : Used Th := ns.map (fun n => (n.id, mE n))
structure jW (X : FM) (ns : List aK) (k : Nat) (S : aG) : Prop where
  inv : Inv0 S
  idx : S.idx = CH (ns.take k)
  us : S.us = []
  au : S.au = 0
  cap : S.X = { X with last := jG ns k, ah := 0, used := (pW ns k : Int) }
  ob : ∀ a, a < k → obj S.O (dX (nd ns a)) = nT (nd ns a)
section base
variable {X : FM} {ns : List aK} {i j k a b : Nat} {S : aG}
theorem uw (h : bV ns) (hk : k < ns.length) : (dX (nd ns k) : Int) = (nd ns k).id := by
  have := h.ids k hk
  unfold dX; omega
theorem oY (h : bV ns) (ha : a < ns.length) (hb : b < ns.length) (e : dX (nd ns a) = dX (nd ns b)) : a = b :=
  h.rise.inj ha hb (by rw [← uw h ha, ← uw h hb, e])
theorem x7 (hk : k < ns.length) : ns[k]? = some (nd ns k) := getD_some hk
theorem Kq (hk : k < ns.length) : ns.take (k + 1) = ns.take k ++ [nd ns k] := by
  rw [List.take_add_one, x7 hk]; rfl
theorem GK (hX : oQ X) : jW X ns 0 (fq X) := by
  refine ⟨?_, rfl, rfl, rfl, rfl, fun a h => absurd h (Nat.not_lt_zero a)⟩
  have hn : ∀ t, ¬ Live ([] : Used Th) t := fun t h => by cases h
  exact ⟨hX.cN, hX.cB, hX.cH, hX.now, by show (0 : Int) ≤ 0 ∧ (0 : Int) ≤ _; omega, .nil, Nat.zero_le _, fun _ _ e => (by cases e), fun t h => absurd h (hn t), fun t h => absurd h (hn t), fun t h => absurd h (hn t), fun t h => absurd h (hn t),
    fun _ _ => ⟨rfl, rfl⟩, fun _ _ => rfl, ⟨rfl, by show (0 : Int) ≤ 8192; omega⟩, fun t h => absurd h (hn t), fun t h => absurd h (hn t), fun t h => absurd h (hn t), .nil, fun x hx => (by cases hx), (by show ((0 : Nat) : Int) ≤ X.cH; have := hX.cH; omega), ⟨Int.le_refl _, hX.cH.1⟩, fun _ _ e => (by cases e), fun t h => absurd h (hn t), fun t h => absurd h (hn t), ⟨fun _ => 0, fun k d e => (by cases e)⟩, ⟨rfl, by show (0 : Int) ≤ _; omega⟩⟩
theorem DS (h : bV ns) (hk : k < ns.length) : ∀ x ∈ keys (CH (ns.take k)), x < (nd ns k).id := by
  intro x hx
  obtain ⟨p, hp, rfl⟩ := List.mem_map.1 hx
  obtain ⟨n, hn, rfl⟩ := List.mem_map.1 hp
  obtain ⟨a, ha, e⟩ := List.mem_iff_getElem.1 hn
  rw [List.length_take] at ha
  rw [List.getElem_take] at e
  have e2 : nd ns a = n := by
    have := x7 (ns := ns) (k := a) (by omega)
    rw [List.getElem?_eq_getElem (by omega), e] at this
    exact (Option.some.inj this).symm
  rw [← e2]
  exact h.rise a k (by omega) hk
theorem Ak (hd : ∀ i, i < ns.length → (nd ns i).data.length ≤ 1048576) (hk : k ≤ ns.length) : pW ns k ≤ 1048576 * k := by
  induction k with
  | zero => exact Nat.le_refl _
  | succ k ih =>
    have h1 := ih (by omega)
    have h2 := hd k hk
    show pW ns k + (nd ns k).data.length ≤ _
    omega
theorem ux (h : bV ns) (hd : ∀ i, i < ns.length → (nd ns i).data.length ≤ 1048576) (hk : k < ns.length) (hB : jW X ns k S) : jW X ns (k + 1) (bh S (nd ns k)) := by
  have hs := Ak hd (Nat.le_of_lt hk)
  have hn := h.node k hk
  have hid := uw h hk
  have IV := h.ids k hk
  have hu : S.X.used = (pW ns k : Int) := by rw [hB.cap]
  have hl : S.X.last = jG ns k := by rw [hB.cap]
  have hlen := h.len
  have hdk := hd k hk
  have P8 : S.idx.length = k := by
    rw [hB.idx]; unfold CH; rw [List.length_map, List.length_take]; omega
  have h1 := hB.inv.newAt (k0 := dX (nd ns k)) (o := nT (nd ns k)) (iZ := S.X.used + (nd ns k).data.length) (us' := S.us) (eH := S.au) (by rw [hid, hl]; exact h.last hk) (by rw [hid]; exact IV.2) ⟨rfl, by rw [hu]; omega⟩ hid.symm
    (by have := hn.kind; show (nd ns k).kind = 1 ∨ (nd ns k).kind = 2 ∨ (nd ns k).kind = 3; omega) rfl rfl rfl rfl
    ⟨hn.mode, hn.uid, hn.gid, hn.time, fun e => List.eq_nil_of_length_eq_zero (hn.data e), fun _ => rfl, hn.target⟩ (by omega)
    hB.inv.usr hB.inv.tN hB.inv.zW hB.inv.au (fun h t e => ⟨.inl (hB.inv.us h t e).1, (hB.inv.us h t e).2⟩) (fun _ _ => rfl) (by rw [hB.us]; rfl)
  rw [hid] at h1
  refine ⟨h1, ?_, hB.us, hB.au, ?_, fun a ha => ?_⟩
  ·show ins (nd ns k).id (mE (nd ns k)) S.idx = _
   rw [hB.idx, Hy (DS h hk), Kq hk]
   unfold CH; rw [List.map_append]; rfl
  ·show ({ S.X with last := (nd ns k).id, used := S.X.used + ((nd ns k).data.length : Int) } : FM) = _
   rw [hu, hB.cap]
   show (⟨_, _, _, _, _, _, _, _⟩ : FM) = ⟨_, _, _, _, _, _, _, _⟩
   congr 1
  show obj (ay S.O (dX (nd ns k)) (fun _ => nT (nd ns k))) (dX (nd ns a)) = _
  rcases Nat.lt_succ_iff_lt_or_eq.1 ha with e | e
  ·rw [bS (fun e2 => by have := oY h (by omega) hk e2; omega)]
   exact hB.ob a e
  subst e; exact bH
theorem jW.fresh (h : bV ns) (hk : k < ns.length) (hB : jW X ns k S) : ql S.O S.idx S.us (dX (nd ns k)) := hB.inv.yV (by rw [uw h hk, hB.cap]; exact h.last hk)
theorem jW.new (h : bV ns) (hk : k < ns.length) (hB : jW X ns k S) : TabM.get S.idx (nd ns k).id = none := get_none.2 (fun hm => by
  rw [hB.idx] at hm
  exact absurd (DS h hk _ hm) (by omega))
theorem wE (X : FM) (L : HL) : (∀ k, aN (fq X).O L k = bR.none) ∧ (∀ k, aY (fq X).O L k = bR.none) ∧ ∀ k, bg (fq X).O L k = bR.none := ⟨fun _ => if_pos rfl, fun _ => if_neg (by show ¬ (0 : Int) = 1; omega), fun _ => if_neg (by show ¬ (0 : Int) = 2; omega)⟩
theorem Sat.Nf {β : Bs} {l l' : List HP} {w : World} {i j b m c : Nat} {ix : List Nat} {O : bM} {L L' : HL} {A : Option Addr} {o : aP} (h : Sat β l w) (hL : L' = L.put k b m A c) (hp : l[i]? = some (.abs (ak (aY O L)))) (hq : l[j]? = some (.abs (aH 5 1 A o.data.length c (bL o.data)))) (hd : nodupB (i :: j :: ix) = true) (hl : bN l ix = some l') (h1 : o.kind = 1) : Sat β (.abs (ak (aY (ay O k (fun _ => o)) L')) :: l') w := by
  refine h.oI hp hq (fun _ _ h => h) hd hl k (fun x hx => by rw [tE hx, uQ hL hx]) ?_
  rw [o9 (by rw [bH]; exact h1), bH]
  subst hL
  simp only [HL.put, if_true]
end base
theorem Kr {O : bM} {L : HL} {d : Nat} {name : ByteArray} {t : Th} : aY (mr O d name t) L = aY O L :=
  pz (fun _ => vY (g := aP.data) (fun _ _ => rfl) (fun _ _ => rfl) (fun _ _ => rfl)) (fun _ => tG)
def mF (ns : List aK) (i j a : Nat) : Nat := if a < i then (nd ns a).ah.length else if a = i then j else 0
def pX (ns : List aK) (a m : Nat) : dM Th := ((nd ns a).ah.take m).map (fun e => (e.name, jV ns e))
structure dZ (X : FM) (ns : List aK) (i j : Nat) (S : aG) : Prop where
  inv : Inv0 S
  idx : S.idx = CH ns
  us : S.us = []
  au : S.au = 0
  cap : S.X = { X with last := jG ns ns.length, ah := ((dF ns i + j : Nat) : Int), used := (pW ns ns.length : Int) }
  ob : ∀ a, a < ns.length → ∃ l u, obj S.O (dX (nd ns a)) = { nT (nd ns a) with links := l, ah := pX ns a (mF ns i j a), up := u }
section ah
variable {X : FM} {ns : List aK} {i j k a b m : Nat} {S : aG} {t : Th}
theorem jW.ah (h : jW X ns ns.length S) : dZ X ns 0 0 S := by
  refine ⟨h.inv, by rw [h.idx, List.take_of_length_le (Nat.le_refl _)], h.us, h.au, h.cap, fun a ha => ⟨0, none, ?_⟩⟩
  rw [h.ob a ha]
  have : mF ns 0 0 a = 0 := by
    unfold mF; rw [if_neg (Nat.not_lt_zero a)]; split <;> rfl
  rw [this]; rfl
theorem dZ.get (h : dZ X ns i j S) (ha : a < ns.length) : TabM.get S.idx (nd ns a).id = some (mE (nd ns a)) := by
  refine lP h.inv.rise ?_
  rw [h.idx]
  exact List.mem_map.2 ⟨nd ns a, List.mem_of_getElem? (x7 ha), rfl⟩
theorem dZ.live (hG : bV ns) (h : dZ X ns i j S) (ha : a < ns.length) : Live S.idx (mE (nd ns a)) := by
  have := h.get ha
  rw [← uw hG ha] at this
  exact this
theorem dZ.of (h : dZ X ns i j S) {x : Int} (e : TabM.get S.idx x = some t) : ∃ a, a < ns.length ∧ t = mE (nd ns a) := by
  have hm := get_mem e
  rw [h.idx] at hm
  obtain ⟨n, hn, e2⟩ := List.mem_map.1 hm
  obtain ⟨a, ha, e3⟩ := List.mem_iff_getElem.1 hn
  have e4 : nd ns a = n := by
    have := x7 ha
    rw [List.getElem?_eq_getElem ha, e3] at this
    exact (Option.some.inj this).symm
  cases e2
  exact ⟨a, ha, by rw [e4]⟩
theorem GL {es : List gM} {q : Nat} (hq : q < es.length) : es[q]? = some (en es q) := getD_some hq
theorem sD {e : ByteArray × Th} (h : e ∈ pX ns a m) : ∃ q, q < m ∧ q < (nd ns a).ah.length ∧ e.1 = (ent ns a q).name ∧ e.2 = jV ns (ent ns a q) := by
  obtain ⟨x, hx, rfl⟩ := List.mem_map.1 h
  obtain ⟨q, hq, e⟩ := List.mem_iff_getElem.1 hx
  rw [List.length_take] at hq
  rw [List.getElem_take] at e
  have e2 : ent ns a q = x := by
    have := GL (es := (nd ns a).ah) (q := q) (by omega)
    rw [List.getElem?_eq_getElem (by omega), e] at this
    exact (Option.some.inj this).symm
  exact ⟨q, by omega, by omega, by rw [e2], by rw [e2]⟩
theorem GN (hj : j < (nd ns i).ah.length) : pX ns i (j + 1) = pX ns i j ++ [((ent ns i j).name, jV ns (ent ns i j))] := by
  unfold pX
  rw [List.take_add_one, GL hj, List.map_append]; rfl
theorem zA (hG : bV ns) (hi : i < ns.length) {q : Nat} : ∀ {j}, q < j → j < (nd ns i).ah.length → kY (ent ns i q).name (ent ns i j).name < 0
  | 0, h, _ => absurd h (Nat.not_lt_zero q)
  | j + 1, h, hj => by
    have h1 := pG.1 (hG.ah i hi (j + 1) hj).ord
    have h1 : kY (ent ns i j).name (ent ns i (j + 1)).name < 0 := h1
    rcases Nat.lt_succ_iff_lt_or_eq.1 h with e | e
    ·exact wP (zA hG hi e (by omega)) (Int.le_of_lt h1)
    rw [e]; exact h1
theorem IW (hG : bV ns) (hi : i < ns.length) (hj : j < (nd ns i).ah.length) : aS (ent ns i j).name (pX ns i j) = none := by
  refine rS.2 (fun e he e1 => ?_)
  obtain ⟨q, h1, h2, h3, _⟩ := sD he
  have := zA hG hi h1 hj
  rw [← h3, e1] at this
  have h4 := zM (ent ns i j).name
  omega
theorem Al {n : ByteArray} : ∀ {es : dM Th}, (∀ e ∈ es, kY e.1 n < 0) → eF n t es = es ++ [(n, t)]
  | [], _ => rfl
  | e :: r, h => by
    have h1 := h e (List.mem_cons_self ..)
    unfold eF
    rw [if_neg (fun hc => by have := pG.1 hc; have := tj e.1 n; omega), Al (fun x hx => h x (List.mem_cons_of_mem _ hx))]; rfl
theorem IX (hG : bV ns) (hi : i < ns.length) (hj : j < (nd ns i).ah.length) : eF (ent ns i j).name (jV ns (ent ns i j)) (pX ns i j) = pX ns i (j + 1) := by
  rw [GN hj]
  refine Al (fun e he => ?_)
  obtain ⟨q, h1, _, h3, _⟩ := sD he
  rw [h3]
  exact zA hG hi h1 hj
theorem rE (hG : bV ns) (hi : i < ns.length) (hj : j < (nd ns i).ah.length) : tgt ns (ent ns i j).id < ns.length ∧ (nd ns (tgt ns (ent ns i j).id)).id = (ent ns i j).id := by
  have := kI (hG.ah i hi j hj).at_
  exact ⟨this.1, this.2.1⟩
theorem DT {O : bM} {d x : Nat} {name : ByteArray} (h : t.k ≠ d) : obj (mr O d name t) x = if x = d then { obj O d with ah := eF name t (obj O d).ah } else if x = t.k then { obj O x with links := (obj O x).links + 1, up := if t.kind = 2 then some d else (obj O x).up } else obj O x := by
  have key : ∀ O2 : bM, O2 = ay (ay O d (fun o => { o with ah := eF name t o.ah })) t.k (fun o => { o with links := o.links + 1 }) → obj (if t.kind = 2 then ay O2 t.k (fun o => { o with up := some d }) else O2) x = if x = d then { obj O d with ah := eF name t (obj O d).ah } else if x = t.k then { obj O x with links := (obj O x).links + 1, up := if t.kind = 2 then some d else (obj O x).up } else obj O x := by
    intro O2 e
    by_cases hk : t.kind = 2
    ·rw [if_pos hk, if_pos hk, iR, e, iR, iR]
     by_cases e1 : x = d
     ·subst e1; rw [if_neg (fun e => h e.symm), if_neg (fun e => h e.symm), if_pos rfl, if_pos rfl]
     by_cases e2 : x = t.k
     ·rw [if_pos e2, if_pos e2, if_neg e1, if_neg e1, if_pos e2]
     rw [if_neg e2, if_neg e2, if_neg e1, if_neg e1, if_neg e2]
    rw [if_neg hk, if_neg hk, e, iR, iR]
    by_cases e1 : x = d
    ·subst e1; rw [if_neg (fun e => h e.symm), if_pos rfl, if_pos rfl]
    by_cases e2 : x = t.k
    ·rw [if_pos e2, if_neg e1, if_neg e1, if_pos e2]
    rw [if_neg e2, if_neg e1, if_neg e1, if_neg e2]
  exact key _ rfl
theorem dZ.OI (hG : bV ns) (h : dZ X ns i j S) {d : Nat} (hd : Live S.idx ⟨d, 2⟩) {n : ByteArray} (ha : a < ns.length) (hk : (nd ns a).kind = 2) (hl : aS n (obj S.O d).ah = some (mE (nd ns a))) : ∃ b q, b < ns.length ∧ d = dX (nd ns b) ∧ zy ns b q ∧ tgt ns (ent ns b q).id = a := by
  obtain ⟨b, hb, e⟩ := h.of hd
  have e : (⟨d, 2⟩ : Th) = ⟨dX (nd ns b), (nd ns b).kind⟩ := e
  have e1 : d = dX (nd ns b) := congrArg Th.k e
  subst e1
  obtain ⟨l, u, ho⟩ := h.ob b hb
  have hm := jZ hl
  rw [ho] at hm
  obtain ⟨q, h1, h2, _, h4⟩ := sD hm
  have ht := rE hG hb h2
  have h5 : dX (nd ns a) = dX (nd ns (tgt ns (ent ns b q).id)) := congrArg Th.k h4
  have h6 := oY hG ha ht.1 h5
  exact ⟨b, q, hb, rfl, ⟨hb, h2, by rw [← h6]; exact hk⟩, h6.symm⟩
theorem dZ.below (hG : bV ns) (h : dZ X ns i j S) {dp : Nat → Nat} (hdp : DR ns dp) {s k : Nat} (hb : iB S.O s k) : ∀ {a b}, a < ns.length → k = dX (nd ns a) → b < ns.length → s = dX (nd ns b) → dp b ≤ dp a := by
  induction hb with
  | here =>
    intro a b ha e1 hb e2
    have := oY hG ha hb (by rw [← e1, ← e2])
    rw [this]; exact Nat.le_refl _
  | up hup _ ih =>
    intro a b ha e1 hb e2
    subst e1
    have hlv := h.live hG ha
    obtain ⟨h1, h2, n, h3⟩ := (h.inv.up _ hlv _).1 hup
    obtain ⟨c, q, hc, e3, hD, e4⟩ := h.OI hG h2 ha h1 h3
    have h5 := hdp c q hD
    rw [e4] at h5
    have := ih hc e3 hb e2
    omega
theorem dZ.links (hG : bV ns) (h : dZ X ns i j S) (hi : i < ns.length) (hj : j < (nd ns i).ah.length) (hk : (jV ns (ent ns i j)).kind = 2) : (obj S.O (jV ns (ent ns i j)).k).links = 0 := by
  have ht := rE hG hi hj
  have hlv : Live S.idx (jV ns (ent ns i j)) := h.live hG ht.1
  rw [h.inv.links _ hlv]
  cases hz : fU S.idx S.O (jV ns (ent ns i j)).k with
  | zero => rfl
  | succ z =>
    exfalso
    obtain ⟨x, u, hu, e, he, e1⟩ := xj h.inv.rise (show 0 < fU S.idx S.O (jV ns (ent ns i j)).k by omega)
    obtain ⟨b, hb, rfl⟩ := h.of hu
    obtain ⟨l, u, ho⟩ := h.ob b hb
    have he : e ∈ (obj S.O (dX (nd ns b))).ah := he
    rw [ho] at he
    obtain ⟨q, h1, h2, _, h4⟩ := sD he
    have ht2 := rE hG hb h2
    have h5 : dX (nd ns (tgt ns (ent ns b q).id)) = dX (nd ns (tgt ns (ent ns i j).id)) := by
      rw [h4] at e1; exact e1
    have h6 := oY hG ht2.1 ht.1 h5
    obtain ⟨rfl, rfl⟩ := hG.uniq b q i j ⟨hb, h2, by rw [h6]; exact hk⟩ ⟨hi, hj, hk⟩ hb hi h6
    unfold mF at h1
    rw [if_neg (Nat.lt_irrefl _), if_pos rfl] at h1
    omega
theorem dZ.look (hG : bV ns) (h : dZ X ns i j S) (hi : i < ns.length) (hj : j < (nd ns i).ah.length) : (obj S.O (dX (nd ns i))).ah = pX ns i j ∧ aS (ent ns i j).name (obj S.O (dX (nd ns i))).ah = none ∧ (nd ns i).kind = 2 := by
  obtain ⟨l, u, ho⟩ := h.ob i hi
  have e1 : (obj S.O (dX (nd ns i))).ah = pX ns i j := by
    rw [ho]
    show pX ns i (mF ns i j i) = _
    unfold mF; rw [if_neg (Nat.lt_irrefl _), if_pos rfl]
  refine ⟨e1, by rw [e1]; exact IW hG hi hj, ?_⟩
  cases Decidable.em ((nd ns i).kind = 2) with
  | inl h => exact h
  | inr h => have := (hG.node i hi).ah h; omega
theorem dZ.gone (h : dZ X ns i j S) (ha : a < ns.length) : (obj S.O (dX (nd ns a))).gone = false := by
  obtain ⟨l, u, ho⟩ := h.ob a ha
  rw [ho]; rfl
theorem dZ.ne (hG : bV ns) (hi : i < ns.length) (hj : j < (nd ns i).ah.length) (hk : (nd ns i).kind = 2) : (jV ns (ent ns i j)).k ≠ dX (nd ns i) := fun e => by
  have ht := rE hG hi hj
  have h1 := oY hG ht.1 hi e
  obtain ⟨dp, hdp⟩ := hG.deep
  have := hdp i j ⟨hi, hj, by rw [h1]; exact hk⟩
  rw [h1] at this
  exact Nat.lt_irrefl _ this
theorem dZ.step (hG : bV ns) (h : dZ X ns i j S) (hi : i < ns.length) (hj : j < (nd ns i).ah.length) : dZ X ns i (j + 1) (ji ns S (nd ns i) (ent ns i j)) := by
  obtain ⟨l1, l2, l3⟩ := h.look hG hi hj
  have ht := rE hG hi hj
  have hne := dZ.ne hG hi hj l3
  have hld : Live S.idx ⟨dX (nd ns i), 2⟩ := by
    have := h.live hG hi
    unfold mE at this
    rw [l3] at this
    exact this
  have hlt : Live S.idx (jV ns (ent ns i j)) := h.live hG ht.1
  have hX : S.X.ah = ((dF ns i + j : Nat) : Int) := by rw [h.cap]
  have hsum : dF ns i + j < 8192 := by
    have h1 : dF ns (i + 1) ≤ dF ns ns.length := qM hi
    have h2 : dF ns (i + 1) = dF ns i + (nd ns i).ah.length := rfl
    have h3 := hG.sum
    omega
  have h1 := h.inv.put (O' := mr S.O (dX (nd ns i)) (ent ns i j).name (jV ns (ent ns i j))) (ta := (obj S.O (dX (nd ns i))).sec) (tb := (obj S.O (dX (nd ns i))).nano) hld (h.gone hi) l2 (hG.ah i hi j hj).good hlt (h.gone ht.1) (fun hk => ⟨h.links hG hi hj hk, fun hb => by
      obtain ⟨dp, hdp⟩ := hG.deep
      have h2 := h.below hG hdp hb hi rfl ht.1 rfl
      have h3 := hdp i j ⟨hi, hj, hk⟩
      omega⟩) hne (by rw [hX]; omega) (h.inv.mt _ hld).time (fun x => DT hne)
  refine ⟨h1, h.idx, h.us, h.au, ?_, fun a ha => ?_⟩
  ·show ({ S.X with ah := S.X.ah + 1 } : FM) = _
   rw [hX, h.cap]
   show (⟨_, _, _, _, _, _, _, _⟩ : FM) = ⟨_, _, _, _, _, _, _, _⟩
   congr 1
  obtain ⟨l, u, ho⟩ := h.ob a ha
  show ∃ l u, obj (mr S.O (dX (nd ns i)) (ent ns i j).name (jV ns (ent ns i j))) (dX (nd ns a)) = _
  rw [DT hne]
  by_cases e : a = i
  ·subst e
   refine ⟨l, u, ?_⟩
   rw [if_pos rfl, l1, IX hG hi hj, ho]
   have hc : mF ns a (j + 1) a = j + 1 := by unfold mF; rw [if_neg (Nat.lt_irrefl _), if_pos rfl]
   rw [hc]
  have hc : mF ns i (j + 1) a = mF ns i j a := by
    unfold mF; rw [if_neg e, if_neg e]
  rw [if_neg (fun e2 => e (oY hG ha hi e2)), hc]
  split
  ·rw [ho]; exact ⟨_, _, rfl⟩
  exact ⟨l, u, ho⟩
theorem dZ.next (h : dZ X ns i (nd ns i).ah.length S) : dZ X ns (i + 1) 0 S := by
  refine ⟨h.inv, h.idx, h.us, h.au, h.cap, fun a ha => ?_⟩
  obtain ⟨l, u, ho⟩ := h.ob a ha
  refine ⟨l, u, ?_⟩
  rw [ho]
  have : mF ns (i + 1) 0 a = mF ns i (nd ns i).ah.length a := by
    unfold mF
    by_cases e : a = i
    ·subst e; rw [if_pos (by omega), if_neg (by omega), if_pos rfl]
    by_cases e2 : a < i
    ·rw [if_pos (by omega), if_pos e2]
    rw [if_neg (by omega), if_neg e2, if_neg e]; split <;> rfl
  rw [this]
theorem dZ.full (h : dZ X ns i j S) : Inv S := by
  refine ⟨h.inv, fun t ht hg => ?_⟩
  obtain ⟨a, ha, rfl⟩ := h.of ht
  have : (obj S.O (dX (nd ns a))).gone = true := hg
  rw [h.gone ha] at this
  cases this
end ah
end
section
open Go.RowKit Go.Maps HeapM TabM
attribute [local irreducible] aj aT af ai
abbrev Am (b2 : Nat) (X : FM) := (.blk b2 [vI (X.cN), vI (X.cB), vI (X.cH), vI (X.cS), vI (X.cZ)] 28 : HP)
abbrev vD (b1 : Nat) (A : Option Addr) (ns : List aK) (c) := (.blk b1 [.slice A (ns.length) (c)] 24 : HP)
abbrev nU (b8 : Nat) (ns) (k : Nat) (Y : Lay) := (.blk b8 [vI ((nd ns k).id), vI ((nd ns k).kind), vI ((nd ns k).mode), vI ((nd ns k).uid), vI ((nd ns k).gid), vI ((nd ns k).sec), vI ((nd ns k).nano), .slice (Y.dA k) ((nd ns k).data.length) ((Y.dC k)), .string (nd ns k).target, .slice (Y.eA k) ((nd ns k).ah.length) ((Y.eC k))] 70 : HP)
abbrev uy (b9 : Nat) (ns) (k : Nat) := (.blk b9 [vI ((nd ns k).id), vI ((nd ns k).mode), vI ((nd ns k).uid), vI ((nd ns k).gid), vI ((nd ns k).sec), vI ((nd ns k).nano), vI 0, vI 0, .bool false] 88 : HP)
abbrev sV (b1 : Nat) (A : Option Addr) (ns) (c) (b7 : Nat) (m3 : Nat) (t4 : Nat) (S : aG) (L : HL) (R : bR) := ([vD b1 A ns c, pF b7 m3 t4 S.X, pI m3 L S.idx, jF t4 S L, pO S.O L, pD S.O L, pE S.O L, .abs R] : List HP)
abbrev x9 (b1 : Nat) (b7 : Nat) (b8 : Nat) (A : Option Addr) (ns : List aK) (c) (k : Nat) := ([(2, vP b1), (6, vP b7), (8, vP b8), (47, .slice A (ns.length) (c)), (48, vI ↑ns.length), (49, vI ↑k)] : Fr)
abbrev JQ (b1 : Nat) (X : FM) := ([(2, vP b1), (39, .agg #[vI (X.cN), vI (X.cB), vI (X.cH), vI (X.cS), vI (X.cZ)])] : Fr)
abbrev Mc (b1 : Nat) (b7 : Nat) (A : Option Addr) (ns : List aK) (c) (k : Nat) (S : aG) := ([(2, vP b1), (6, vP b7), (47, .slice A (ns.length) (c)), (48, vI ↑ns.length), (49, vI ↑k), (118, vI (S.X.used + (((nd ns k).data.length : Nat) : Int))), (120, .pointer (some ⟨b7, 9, none⟩))] : Fr)
abbrev NU (b7 : Nat) (b16 : Nat) (A : Option Addr) (ns : List aK) (c) (i : Nat) (Y : Lay) (j : Nat) := ([(6, vP b7), (11, vP b16), (123, .slice A (ns.length) (c)), (124, vI ↑ns.length), (125, vI ↑i), (130, .slice (Y.eA i) ((nd ns i).ah.length) ((Y.eC i))), (131, vI ↑((nd ns i).ah.length)), (132, vI ↑j)] : Fr)
abbrev Md (m3 : Nat) (ns) (k : Nat) := ([(69, .map (some m3)), (71, vI ((nd ns k).id)), (72, .agg #[vI ((nd ns k).id), vI ((nd ns k).mode), vI ((nd ns k).uid), vI ((nd ns k).gid), vI ((nd ns k).sec), vI ((nd ns k).nano), vI 0, vI 0, .bool false])] : Fr)
abbrev Me (A : Option Addr) (ns : List aK) (c) (i : Nat) (Y : Lay) (j : Nat) := ([(123, .slice A (ns.length) (c)), (124, vI ↑ns.length), (125, vI ↑i), (130, .slice (Y.eA i) ((nd ns i).ah.length) ((Y.eC i))), (131, vI ↑((nd ns i).ah.length)), (132, vI ↑j)] : Fr)
theorem zB {β : Bs} (A : Option Addr) (c : Nat) (ns : List aK) (Y : Lay) (hG : aB β A ns Y) (hl : ns.length ≤ 1048576) (hd : ∀ i, i < ns.length → (nd ns i).data.length ≤ 1048576 ∧ (nd ns i).ah.length ≤ 1048576) (hwf : ∀ i, i < ns.length → ∀ j, j < (nd ns i).ah.length → -9223372036854775808 ≤ (ent ns i j).id ∧ (ent ns i j).id ≤ 9223372036854775807) (hnm : ∀ i, i < ns.length → ∀ j, j < (nd ns i).ah.length → (ent ns i j).name.size ≤ 1048576) (X : FM) :
    Spec Tryz.prog β 9 #[.agg #[.slice A (ns.length) (c)], .agg #[vI (X.cN), vI (X.cB), vI (X.cH), vI (X.cS), vI (X.cZ)]] [] (fun v l => (¬ oQ X ∧ v = .tuple #[.pointer none, vI 179] ∧ l = []) ∨ (oQ X ∧ ¬ bV ns ∧ v = .tuple #[.pointer none, vI 140] ∧ l = []) ∨ (oQ X ∧ bV ns ∧ ∃ S f m t L, dZ X ns ns.length 0 S ∧ v = .tuple #[vP f, vI 0] ∧ l = pA f m t L S)) := by
 refine Spec.enter Tryz.func9 rfl Tryz.ntmps9 (Nat.le_of_ble_eq_true rfl) (fun R => ?_)
 refine SR ?_
 refine gN 1 (fun b1 => [(2, vP b1)]) (fun _ => []) (fun _ => []) (fun b1 => .blk b1 [.slice A (ns.length) (c)] 24) (fun b1 => ?_)
 refine gN 3 (fun b2 => [(3, vP b2)]) (fun _ => []) (fun _ => []) (fun b2 => .blk b2 [vI (X.cN), vI (X.cB), vI (X.cH), vI (X.cS), vI (X.cZ)] 28) (fun b2 => ?_)
 refine NN (af.seq (SR ?_))
 refine gK 2 [(15, vI (X.cN))] [(1, a_ 2 b2)] ?_
 refine gL [] (dW X.cN 4096) ?_
 rintro _ _ ⟨rfl, rfl⟩
 refine gK 2 [(18, .bool (!(decide ((0 ≤ X.cN ∧ X.cN ≤ 4096)))))] [] ?_
 refine aj.fD 18 ((0 ≤ X.cN ∧ X.cN ≤ 4096)) (fun _ => by kernel_rfl) (fun lJ => ?_) (fun lJ => ?_)
 ·refine gK 17 [(35, .bool true)] [] ?_
  refine NN ?_
  refine CT ?_
  refine SR ?_
  refine gK 2 [(4, .pointer none), (5, vI 179)] [] ?_
  refine NN (af.ret (ai.aq ?_))
  exact RT (.tuple #[.pointer none, vI 179]) [0] (.inl ⟨fun h => lJ h.cN, rfl, rfl⟩)
 refine gK 2 [(20, vI (X.cB))] [(1, a_ 2 b2)] ?_
 refine gL [] (dW X.cB 1099511627776) ?_
 rintro _ _ ⟨rfl, rfl⟩
 refine gK 3 [(24, .bool (!(decide ((0 ≤ X.cB ∧ X.cB ≤ 1099511627776)))))] [] ?_
 refine aj.fD 24 ((0 ≤ X.cB ∧ X.cB ≤ 1099511627776)) (fun _ => by kernel_rfl) (fun xW => ?_) (fun xW => ?_)
 ·refine gK 11 [(35, .bool true)] [] ?_
  refine NN ?_
  refine CT ?_
  refine SR ?_
  refine gK 2 [(4, .pointer none), (5, vI 179)] [] ?_
  refine NN (af.ret (ai.aq ?_))
  exact RT (.tuple #[.pointer none, vI 179]) [0] (.inl ⟨fun h => xW h.cB, rfl, rfl⟩)
 refine gK 2 [(26, vI (X.cH))] [(1, a_ 2 b2)] ?_
 refine gL [] (dW X.cH 1024) ?_
 rintro _ _ ⟨rfl, rfl⟩
 refine gK 3 [(30, .bool (!(decide ((0 ≤ X.cH ∧ X.cH ≤ 1024)))))] [] ?_
 refine aj.fD 30 ((0 ≤ X.cH ∧ X.cH ≤ 1024)) (fun _ => by kernel_rfl) (fun j7 => ?_) (fun j7 => ?_)
 ·refine gK 5 [(35, .bool true)] [] ?_
  refine NN ?_
  refine CT ?_
  refine SR ?_
  refine gK 2 [(4, .pointer none), (5, vI 179)] [] ?_
  refine NN (af.ret (ai.aq ?_))
  exact RT (.tuple #[.pointer none, vI 179]) [0] (.inl ⟨fun h => j7 h.cH, rfl, rfl⟩)
 refine gK 2 [(32, .agg #[vI (X.cS), vI (X.cZ)])] [(1, A_ 2 b2 2)] ?_
 refine gL [] (fM X.cS X.cZ) ?_
 rintro _ _ ⟨rfl, rfl⟩
 refine gK 2 [(35, .bool (!(decide (cQ X.cS X.cZ))))] [] ?_
 refine NN ?_
 refine af.ct (p := cQ X.cS X.cZ) (fun _ => by kernel_rfl) (fun jT => ?_) (fun jT => ?_)
 ·refine SR ?_
  refine gK 2 [(4, .pointer none), (5, vI 179)] [] ?_
  refine NN (af.ret (ai.aq ?_))
  exact RT (.tuple #[.pointer none, vI 179]) [0] (.inl ⟨fun h => jT h.now, rfl, rfl⟩)
 have hcap : oQ X := ⟨lJ, xW, j7, jT⟩
 refine af.skip (NX (af.seq (SR ?_)))
 refine gK 1 [(36, .agg #[.slice A (ns.length) (c)])] [(0, a_ 1 b1)] ?_
 refine gL [] (IU A c ns Y hG hl (fun i hi => ⟨Nat.le_trans (hd i hi).1 (by decide), (hd i hi).2⟩) hwf hnm) ?_
 rintro _ _ ⟨rfl, rfl⟩
 refine gK 1 [(38, .bool (!(decide (((if bV ns then 0 else 140) : Int) = (0 : Int)))))] [] ?_
 refine NN ?_
 refine af.ct (p := ((if bV ns then 0 else 140) : Int) = (0 : Int)) (fun _ => by kernel_rfl) (fun wU => ?_) (fun wU => ?_)
 ·have Mf : ¬ bV ns := fun h => wU (if_pos h)
  refine SR ?_
  refine gK 2 [(4, .pointer none), (5, vI 140)] [] ?_
  refine NN (af.ret (ai.aq ?_))
  exact RT (.tuple #[.pointer none, vI 140]) [0] (.inr (.inl ⟨hcap, Mf, rfl, rfl⟩))
 have hok : bV ns := Classical.byContradiction (fun h => by rw [if_neg h] at wU; exact absurd wU (by decide))
 refine af.skip (NX (af.seq ?_))
 refine af.oP (S := [Am b2 X]) [0, 2, 3] [.two 1 4, .one 5, .one 6, .one 7] [2] (by kernel_rfl) (by kernel_rfl) rfl (by kernel_rfl) ?_
 refine fL.reads (rs := []) (fr' := [(2, vP b1), (39, .agg #[vI (X.cN), vI (X.cB), vI (X.cH), vI (X.cS), vI (X.cZ)]), (42, vI (X.cH))]) (aV := [b2 = b2, b2 = b2, b2 = b2, b2 = b2, b2 = b2, b2 = b2]) [0, 2, 3] [⟨[.at 0, .at 0, .at 0, .at 0, .at 0], none, none, none, none⟩, o_, ⟨[.at 0], none, none, none, none⟩] [2, 39, 42] (fun _ => by kernel_rfl) ⟨rfl, rfl, rfl, rfl, rfl, rfl, trivial⟩ ?_
 refine fL.pair (ι := Nat × Nat) (LU := Nat) (LV := Nat) (Gs := fun (m3 : Nat) => (JQ b1 X ++ [(40, .map (some m3)), (42, vI (X.cH))])) (hpi := fun (m3 : Nat) => [.abs R, vD b1 A ns c, Am b2 X, .abs (aI Tryz.prog 3 m3 (fun _ => none) 0)]) (Gt := fun (t5 : Nat) => (JQ b1 X ++ [(43, vP t5)])) (Gu := fun (t5 : Nat) => [.abs (bp 156 t5 (min (max X.cH 0) 1024) 0 []), .abs R, vD b1 A ns c, Am b2 X]) (fr' := fun ((m3, t4) : Nat × Nat) => [(2, vP b1), (39, .agg #[vI (X.cN), vI (X.cB), vI (X.cH), vI (X.cS), vI (X.cZ)]), (40, .map (some m3)), (43, vP t4)]) (hp' := fun ((m3, t4) : Nat × Nat) => [.abs (bp 156 t4 (min (max X.cH 0) 1024) 0 []), .abs R, vD b1 A ns c, Am b2 X, .abs (aI Tryz.prog 3 m3 (fun _ => none) 0)]) [2] [3] [3] rfl rfl rfl rfl ?_ ?_ ?_ ?_ rfl (fun _ => by kernel_rfl) rfl (fun _ => by kernel_rfl) rfl (fun _ => by kernel_rfl) ?_
 ·refine aj.lF (d := (some 40)) (t := 80) (fun _ => by kernel_rfl) Tryz.prog rfl 3 (fun m3 => ?_)
  refine NL ?_
  exact MD m3 [2, 39, 40, 42] [0, 1, 2, 3]
 ·rintro m3
  show aj _ _ _ _ _ (JQ b1 X ++ [(40, .map (some m3)), (42, vI (X.cH))]) [.abs R, vD b1 A ns c, Am b2 X, .abs (aI Tryz.prog 3 m3 (fun _ => none) 0)] _
  refine gL [] (BL X.cH) ?_
  rintro _ _ ⟨t4, rfl, rfl⟩
  refine NL ?_
  exact MD (m3, t4) [2, 39, 40, 43] [0, 1, 2, 3, 4]
 ·refine gL [] (BL X.cH) ?_
  rintro _ _ ⟨t5, rfl, rfl⟩
  refine NL ?_
  exact MD t5 [2, 39, 43] [0, 1, 2, 3]
 ·rintro t5
  show aj _ _ _ _ _ (JQ b1 X ++ [(43, vP t5)]) [.abs (bp 156 t5 (min (max X.cH 0) 1024) 0 []), .abs R, vD b1 A ns c, Am b2 X] _
  refine aj.lF (d := (some 40)) (t := 80) (fun _ => by kernel_rfl) Tryz.prog rfl 3 (fun m6 => ?_)
  refine NL ?_
  exact MD (m6, t5) [2, 39, 40, 43] [0, 1, 2, 3, 4]
 rintro ⟨m3, t4⟩
 refine fL.cut (ι := Unit) (fr' := fun (_ : Unit) => [(2, vP b1), (44, .agg #[vI (X.cN), vI (X.cB), vI (X.cH), vI (X.cS), vI (X.cZ), .map (some m3), vP t4, vI 0, vI 0, vI 0])]) (hp' := fun (_ : Unit) => [.abs (bp 156 t4 (min (max X.cH 0) 1024) 0 []), .abs R, vD b1 A ns c, Am b2 X, .abs (aI Tryz.prog 3 m3 (fun _ => none) 0)]) [3] rfl rfl ?_ rfl (fun _ => by kernel_rfl) ?_
 ·refine gK 1 [(44, .agg #[vI (X.cN), vI (X.cB), vI (X.cH), vI (X.cS), vI (X.cZ), .map (some m3), vP t4, vI 0, vI 0, vI 0])] [] ?_
  refine NL ?_
  exact MD () [2, 44] [0, 1, 2, 3, 4]
 rintro _
 refine fL.cut (ι := Nat) (fr' := fun (b7 : Nat) => [(2, vP b1), (45, vP b7)]) (hp' := fun (b7 : Nat) => [.abs (bp 156 t4 (min (max X.cH 0) 1024) 0 []), .abs R, vD b1 A ns c, Am b2 X, .abs (aI Tryz.prog 3 m3 (fun _ => none) 0), pF b7 m3 t4 { X with last := 0, ah := 0, used := 0 }]) [3] rfl rfl ?_ rfl (fun _ => by kernel_rfl) ?_
 ·refine gN 1 (fun b7 => [(45, vP b7)]) (fun _ => []) (fun _ => []) (fun b7 => pF b7 m3 t4 { X with last := 0, ah := 0, used := 0 }) (fun b7 => ?_)
  refine NL ?_
  exact MD b7 [2, 45] [0, 1, 2, 3, 4, 5]
 rintro b7
 refine fL.last rfl rfl ?_
 refine gK 1 [(6, vP b7)] [] ?_
 refine NL (ai.np (NX (af.seq (SR ?_))))
 obtain ⟨L, QA⟩ : ∃ L : HL, L = ⟨fun _ => 0, fun _ => 0, fun _ => none, fun _ => 0⟩ := ⟨_, rfl⟩
 refine aj.mem (fun w hS => hS.D2 (aN (fq X).O L) (wE X L).1) ?_
 refine aj.mem (fun w hS => hS.D2 (aY (fq X).O L) (wE X L).2.1) ?_
 refine aj.mem (fun w hS => hS.D2 (bg (fq X).O L) (wE X L).2.2) ?_
 have hc : min (max X.cH 0) 1024 = X.cH := by have := hcap.cH; omega
 refine aj.mem (aR := [.abs (bp 156 t4 (fq X).X.cH (fq X).au (aJ L (fq X).us)), .abs R, .blk b1 [.slice A (ns.length) (c)] 24, .blk b2 [vI (X.cN), vI (X.cB), vI (X.cH), vI (X.cS), vI (X.cZ)] 28, .abs (aI Tryz.prog 3 m3 (aM (aJ L (fq X).idx)) ((fq X).idx.length)), .blk b7 [vI ((fq X).X.cN), vI ((fq X).X.cB), vI ((fq X).X.cH), vI ((fq X).X.cS), vI ((fq X).X.cZ), .map (some m3), vP t4, vI ((fq X).X.last), vI ((fq X).X.ah), vI ((fq X).X.used)] 86, .abs (ak (aN ((fq X).O) L)), .abs (ak (aY ((fq X).O) L)), .abs (ak (bg ((fq X).O) L))]) (fun w hS => by rw [hc, ← BK] at hS; exact hS) ?_
 refine gK 4 [(47, .slice A (ns.length) (c)), (48, vI ↑ns.length), (49, vI 0)] [(1, a_ 2 b1)] ?_
 refine NN (af.block ?_)
 refine af.loop (ι := Nat × aG × HL) (fun ((k, S, L) : Nat × aG × HL) => (k ≤ ns.length) ∧ (jW X ns k S)) (fun ((k, S, L) : Nat × aG × HL) => ns.length - k) (fun ((k, S, L) : Nat × aG × HL) => [(2, vP b1), (6, vP b7), (47, .slice A (ns.length) (c)), (48, vI ↑ns.length), (49, vI ↑k)]) (fun ((k, S, L) : Nat × aG × HL) => (sV b1 A ns c b7 m3 t4 S L R)) (0, (fq X), L) (idx := [2, 6, 47, 48, 49]) (pk := [2, 5, 4, 0, 6, 7, 8, 1]) (show (0 ≤ ns.length) ∧ (jW X ns 0 ((fq X))) from ⟨Nat.zero_le _, GK hcap⟩) (fun _ => by kernel_rfl) rfl (by kernel_rfl) ?_
 rintro ⟨k, S, L⟩ ⟨hk, hB⟩
 show af _ _ _ _ [(2, vP b1), (6, vP b7), (47, .slice A (ns.length) (c)), (48, vI ↑ns.length), (49, vI ↑k)] (sV b1 A ns c b7 m3 t4 S L R) _
 refine SR ?_
 refine gK 1 [(50, .bool (decide ((((k : Nat) : Int) : Int) < (((ns.length : Nat) : Int) : Int))))] [] ?_
 refine NN (af.seq ?_)
 refine af.bB (p := (((k : Nat) : Int) : Int) < (((ns.length : Nat) : Int) : Int)) (fun _ => by kernel_rfl) (fun h50 => ?_) (fun h50 => ?_)
 ·have hk2 : k < ns.length := by omega
  have hdk := hd k hk2
  have hds := Ak (fun i hi => (hd i hi).1) hk
  have IV := hok.ids k hk2
  have hni := hB.new hok hk2
  have mY : (Lit.int .i64 (nd ns k).id).wf = true := WalkArith.wf_i64 (by omega)
  have hkk := (hok.node k hk2).kind
  have cE : S.X.used = (pW ns k : Int) := by rw [hB.cap]
  have hil := hB.inv.len
  refine af.skip (NX (af.seq (af.block (SR ?_))))
  refine gN 4 (fun b8 => [(8, vP b8)]) (fun b8 => [(0, p_ ⟨[], some k, none, some ⟨(ax A), av A, none⟩, none⟩ [((k : Nat) : Int) = ((k : Nat) : Int), k < ns.length, (⟨(ax A), av A, none⟩ : Addr).spot = none, (A : Option Addr) = some ⟨(ax A), av A, none⟩] ⟨rfl, by omega, rfl, aB.hd hG (i := k) (by omega), trivial⟩), (1, p_ ⟨[.old (.int .i64 ((nd ns k).id)), .old (.int .i64 ((nd ns k).kind)), .old (.int .i64 ((nd ns k).mode)), .old (.int .i64 ((nd ns k).uid)), .old (.int .i64 ((nd ns k).gid)), .old (.int .i64 ((nd ns k).sec)), .old (.int .i64 ((nd ns k).nano)), .old (.slice (Y.dA k) ((nd ns k).data.length) ((Y.dC k))), .old (.string (nd ns k).target), .old (.slice (Y.eA k) ((nd ns k).ah.length) ((Y.eC k)))], none, none, none, none⟩ [(Rd β ⟨(ax A), av A + k * 10 + 9, none⟩ (.slice (Y.eA k) ((nd ns k).ah.length) ((Y.eC k)))), (Rd β ⟨(ax A), av A + k * 10 + 8, none⟩ (.string (nd ns k).target)), (Rd β ⟨(ax A), av A + k * 10 + 7, none⟩ (.slice (Y.dA k) ((nd ns k).data.length) ((Y.dC k)))), (Rd β ⟨(ax A), av A + k * 10 + 6, none⟩ (.int .i64 ((nd ns k).nano))), (Rd β ⟨(ax A), av A + k * 10 + 5, none⟩ (.int .i64 ((nd ns k).sec))), (Rd β ⟨(ax A), av A + k * 10 + 4, none⟩ (.int .i64 ((nd ns k).gid))), (Rd β ⟨(ax A), av A + k * 10 + 3, none⟩ (.int .i64 ((nd ns k).uid))), (Rd β ⟨(ax A), av A + k * 10 + 2, none⟩ (.int .i64 ((nd ns k).mode))), (Rd β ⟨(ax A), av A + k * 10 + 1, none⟩ (.int .i64 ((nd ns k).kind))), (Rd β ⟨(ax A), av A + k * 10, none⟩ (.int .i64 ((nd ns k).id)))] ⟨aB.rd hG (i := k) (by omega) (j := 9) rfl, aB.rd hG (i := k) (by omega) (j := 8) rfl, aB.rd hG (i := k) (by omega) (j := 7) rfl, aB.rd hG (i := k) (by omega) (j := 6) rfl, aB.rd hG (i := k) (by omega) (j := 5) rfl, aB.rd hG (i := k) (by omega) (j := 4) rfl, aB.rd hG (i := k) (by omega) (j := 3) rfl, aB.rd hG (i := k) (by omega) (j := 2) rfl, aB.rd hG (i := k) (by omega) (j := 1) rfl, aB.rd hG (i := k) (by omega) (j := 0) rfl, trivial⟩), (3, A_ 8 b8 10)]) (fun _ => []) (fun b8 => .blk b8 [vI ((nd ns k).id), vI ((nd ns k).kind), vI ((nd ns k).mode), vI ((nd ns k).uid), vI ((nd ns k).gid), vI ((nd ns k).sec), vI ((nd ns k).nano), .slice (Y.dA k) ((nd ns k).data.length) ((Y.dC k)), .string (nd ns k).target, .slice (Y.eA k) ((nd ns k).ah.length) ((Y.eC k))] 70) (fun b8 => ?_)
  refine NS ?_
  refine gN 13 (fun b9 => [(9, vP b9)]) (fun b9 => [(1, a_ 8 b8), (3, a_ 8 b8), (5, a_ 8 b8), (7, a_ 8 b8), (9, A_ 8 b8 2), (12, A_ 9 b9 9)]) (fun _ => []) (fun b9 => .blk b9 [vI ((nd ns k).id), vI ((nd ns k).mode), vI ((nd ns k).uid), vI ((nd ns k).gid), vI ((nd ns k).sec), vI ((nd ns k).nano), vI 0, vI 0, .bool false] 88) (fun b9 => ?_)
  refine NN (af.seq (SR ?_))
  refine gK 2 [(65, vI ((nd ns k).kind))] [(1, a_ 8 b8)] ?_
  refine NN (af.block (SR ?_))
  refine gK 2 [(77, .bool (decide (((nd ns k).kind : Int) = (1 : Int))))] [] ?_
  refine NN ?_
  refine af.bB (p := ((nd ns k).kind : Int) = (1 : Int)) (fun _ => by kernel_rfl) (fun hk1 => ?_) (fun hk1 => ?_)
  ·refine af.bZ (S := [pF b7 m3 t4 S.X, nU b8 ns k Y, uy b9 ns k]) [0, 1, 2, 3, 4, 5, 6, 7, 8, 9, 10, 11, 12, 13] 9 [1, 8, 9] (by kernel_rfl) (by kernel_rfl) rfl (by kernel_rfl) ?_
   refine aF.reads (r := 0) (l := [9, 10, 11, 12, 13]) (fr' := (x9 b1 b7 b8 A ns c k ++ [(82, .map (some m3)), (84, vI ((nd ns k).id)), (85, .agg #[vI ((nd ns k).id), vI ((nd ns k).mode), vI ((nd ns k).uid), vI ((nd ns k).gid), vI ((nd ns k).sec), vI ((nd ns k).nano), vI 0, vI 0, .bool false]), (87, .slice (Y.dA k) ((nd ns k).data.length) ((Y.dC k)))])) (aV := [b8 = b8, b9 = b9, b9 = b9, b9 = b9, b9 = b9, b9 = b9, b9 = b9, b9 = b9, b9 = b9, b9 = b9, b8 = b8, b7 = b7]) [0, 1, 2, 3, 4, 5, 6, 7, 8] [o_, o_, o_, ⟨[.at 0], none, none, none, none⟩, o_, ⟨[.at 1], none, none, none, none⟩, ⟨[.at 2, .at 2, .at 2, .at 2, .at 2, .at 2, .at 2, .at 2, .at 2], none, none, none, none⟩, o_, ⟨[.at 1], none, none, none, none⟩] [2, 6, 8, 47, 48, 49, 82, 84, 85, 87] (fun _ => by kernel_rfl) ⟨rfl, rfl, rfl, rfl, rfl, rfl, rfl, rfl, rfl, rfl, rfl, rfl, trivial⟩ rfl rfl ?_
   refine mL [2, 9, 10] [] (vB (Y.dA k) (Y.dC k) (nd ns k).data (hG.data k (by omega)) (by have := (hd k (by omega)).1; omega)) ?_ (by rintro _ _ ⟨uz, c11, rfl, rfl⟩; rfl)
   rintro _ _ ⟨uz, c11, rfl, rfl⟩
   refine aF.cut (ι := Unit) (fr' := fun (_ : Unit) => (x9 b1 b7 b8 A ns c k ++ [(82, .map (some m3)), (84, vI ((nd ns k).id)), (89, .agg #[vI ((nd ns k).id), vI ((nd ns k).mode), vI ((nd ns k).uid), vI ((nd ns k).gid), vI ((nd ns k).sec), vI ((nd ns k).nano), vI 0, vI 0, .bool false, .slice uz ((nd ns k).data.length) (c11)])])) (hp' := fun (_ : Unit) => ([.abs (aH 5 1 uz ((nd ns k).data.length) c11 (bL (nd ns k).data))] ++ sV b1 A ns c b7 m3 t4 S L R ++ [nU b8 ns k Y, uy b9 ns k])) [2, 9, 10] rfl rfl ?_ rfl (fun _ => by kernel_rfl) ?_
   ·refine gK 1 [(89, .agg #[vI ((nd ns k).id), vI ((nd ns k).mode), vI ((nd ns k).uid), vI ((nd ns k).gid), vI ((nd ns k).sec), vI ((nd ns k).nano), vI 0, vI 0, .bool false, .slice uz ((nd ns k).data.length) (c11)])] [] ?_
    refine NL ?_
    exact MD () [2, 6, 8, 47, 48, 49, 82, 84, 89] [0, 1, 2, 3, 4, 5, 6, 7, 8, 9, 10]
   rintro _
   refine mN [2, 9, 10] (fun b12 => [(90, vP b12)]) (fun _ => []) (fun b12 => .blk b12 [vI ((nd ns k).id), vI ((nd ns k).mode), vI ((nd ns k).uid), vI ((nd ns k).gid), vI ((nd ns k).sec), vI ((nd ns k).nano), vI 0, vI 0, .bool false, .slice uz ((nd ns k).data.length) (c11)] 92) (fun b12 => ?_)
   refine aF.cut (ι := Unit) (fr' := fun (_ : Unit) => (x9 b1 b7 b8 A ns c k ++ [(82, .map (some m3)), (84, vI ((nd ns k).id)), (91, .iface 89 (vP b12))])) (hp' := fun (_ : Unit) => ([.abs (aH 5 1 uz ((nd ns k).data.length) c11 (bL (nd ns k).data))] ++ sV b1 A ns c b7 m3 t4 S L R ++ [nU b8 ns k Y, uy b9 ns k, .blk b12 [vI ((nd ns k).id), vI ((nd ns k).mode), vI ((nd ns k).uid), vI ((nd ns k).gid), vI ((nd ns k).sec), vI ((nd ns k).nano), vI 0, vI 0, .bool false, .slice uz ((nd ns k).data.length) (c11)] 92])) [2, 9, 10] rfl rfl ?_ rfl (fun _ => by kernel_rfl) ?_
   ·refine gK 1 [(91, .iface 89 (vP b12))] [] ?_
    refine NL ?_
    exact MD () [2, 6, 8, 47, 48, 49, 82, 84, 91] [0, 1, 2, 3, 4, 5, 6, 7, 8, 9, 10, 11]
   rintro _
   refine aF.last rfl rfl ?_
   obtain ⟨L2, hL2⟩ : ∃ L2 : HL, L2 = L.put (dX (nd ns k)) b12 0 uz c11 := ⟨_, rfl⟩
   have hfr := hB.fresh hok (by omega)
   refine aj.mem (aR := [.abs (ak (aN ((bh S (nd ns k)).O) L2)), .abs (aH 5 1 uz ((nd ns k).data.length) c11 (bL (nd ns k).data)), .blk b1 [.slice A (ns.length) (c)] 24, .blk b7 [vI (S.X.cN), vI (S.X.cB), vI (S.X.cH), vI (S.X.cS), vI (S.X.cZ), .map (some m3), vP t4, vI (S.X.last), vI (S.X.ah), vI (S.X.used)] 86, .abs (aI Tryz.prog 3 m3 (aM (aJ L S.idx)) S.idx.length), .abs (bp 156 t4 S.X.cH S.au (aJ L S.us)), .abs (ak (aY S.O L)), .abs (ak (bg S.O L)), .abs R, .blk b8 [vI ((nd ns k).id), vI ((nd ns k).kind), vI ((nd ns k).mode), vI ((nd ns k).uid), vI ((nd ns k).gid), vI ((nd ns k).sec), vI ((nd ns k).nano), .slice (Y.dA k) ((nd ns k).data.length) ((Y.dC k)), .string (nd ns k).target, .slice (Y.eA k) ((nd ns k).ah.length) ((Y.eC k))] 70, .blk b9 [vI ((nd ns k).id), vI ((nd ns k).mode), vI ((nd ns k).uid), vI ((nd ns k).gid), vI ((nd ns k).sec), vI ((nd ns k).nano), vI 0, vI 0, .bool false] 88]) (fun w hS => hS.qm hL2 hfr (o := (nT (nd ns k))) (i := 5) (j := 11) (ix := [0, 1, 2, 3, 4, 6, 7, 8, 9, 10]) rfl rfl (by kernel_rfl) rfl (by show (nd ns k).kind ≠ 0; rw [hk1]; decide) ((eu (L := L2) (k := (dX (nd ns k))) (o := (nT (nd ns k))) hk1).trans (by rw [show L2.dA (dX (nd ns k)) = uz by rw [hL2]; exact if_pos rfl, show L2.dC (dX (nd ns k)) = c11 by rw [hL2]; exact if_pos rfl]; rfl)) (by show kF (nd ns k).kind = _; rw [hk1]; rfl)) ?_
   refine aj.mem (aR := [.abs (ak (aN ((bh S (nd ns k)).O) L2)), .abs (aH 5 1 uz ((nd ns k).data.length) c11 (bL (nd ns k).data)), .blk b1 [.slice A (ns.length) (c)] 24, .blk b7 [vI (S.X.cN), vI (S.X.cB), vI (S.X.cH), vI (S.X.cS), vI (S.X.cZ), .map (some m3), vP t4, vI (S.X.last), vI (S.X.ah), vI (S.X.used)] 86, .abs (aI Tryz.prog 3 m3 (aM (aJ L S.idx)) S.idx.length), .abs (bp 156 t4 S.X.cH S.au (aJ L S.us)), .abs (ak (aY S.O L)), .abs (ak (bg ((bh S (nd ns k)).O) L2)), .abs R, .blk b8 [vI ((nd ns k).id), vI ((nd ns k).kind), vI ((nd ns k).mode), vI ((nd ns k).uid), vI ((nd ns k).gid), vI ((nd ns k).sec), vI ((nd ns k).nano), .slice (Y.dA k) ((nd ns k).data.length) ((Y.dC k)), .string (nd ns k).target, .slice (Y.eA k) ((nd ns k).ah.length) ((Y.eC k))] 70, .blk b9 [vI ((nd ns k).id), vI ((nd ns k).mode), vI ((nd ns k).uid), vI ((nd ns k).gid), vI ((nd ns k).sec), vI ((nd ns k).nano), vI 0, vI 0, .bool false] 88]) (fun w hS => hS.rf hL2 hfr (o := (nT (nd ns k))) (i := 7) rfl (by show ¬ (nd ns k).kind = 2; rw [hk1]; decide)) ?_
   refine aj.mem (aR := [pD ((bh S (nd ns k)).O) L2, pO ((bh S (nd ns k)).O) L2, vD b1 A ns c, pF b7 m3 t4 S.X, pI m3 L S.idx, jF t4 S L, pE ((bh S (nd ns k)).O) L2, .abs R, nU b8 ns k Y, uy b9 ns k]) (fun w hS => hS.Nf hL2 (o := (nT (nd ns k))) (i := 6) (j := 1) (ix := [0, 2, 3, 4, 5, 7, 8, 9, 10]) rfl rfl (by kernel_rfl) rfl hk1) ?_
   refine aj.mem (aR := [.abs (ak (aY ((bh S (nd ns k)).O) L2)), .abs (ak (aN ((bh S (nd ns k)).O) L2)), .blk b1 [.slice A (ns.length) (c)] 24, .blk b7 [vI (S.X.cN), vI (S.X.cB), vI (S.X.cH), vI (S.X.cS), vI (S.X.cZ), .map (some m3), vP t4, vI (S.X.last), vI (S.X.ah), vI (S.X.used)] 86, .abs (aI Tryz.prog 3 m3 (aM (aJ L2 S.idx)) S.idx.length), .abs (bp 156 t4 S.X.cH S.au (aJ L2 S.us)), .abs (ak (bg ((bh S (nd ns k)).O) L2)), .abs R, .blk b8 [vI ((nd ns k).id), vI ((nd ns k).kind), vI ((nd ns k).mode), vI ((nd ns k).uid), vI ((nd ns k).gid), vI ((nd ns k).sec), vI ((nd ns k).nano), .slice (Y.dA k) ((nd ns k).data.length) ((Y.dC k)), .string (nd ns k).target, .slice (Y.eA k) ((nd ns k).ah.length) ((Y.eC k))] 70, .blk b9 [vI ((nd ns k).id), vI ((nd ns k).mode), vI ((nd ns k).uid), vI ((nd ns k).gid), vI ((nd ns k).sec), vI ((nd ns k).nano), vI 0, vI 0, .bool false] 88]) (fun w hS => by rw [eW hL2 hfr.idx, eW hL2 hfr.us]; exact hS) ?_
   have CI : cI L2 (mE (nd ns k)) = .iface 89 (vP b12) := by unfold mE; rw [lQ hL2, hk1]; rfl
   refine aj.jY 4 (d := none) (t := 80) (K := 3) (E := 84) (b := m3) (n := S.idx.length) (f := (aM (aJ L2 S.idx))) (x := (.tmp 82)) (ix := (.tmp 84)) (y := (.tmp 91)) (key := .int .i64 ((nd ns k).id)) (u := .iface 89 (vP b12)) (kl := (.int .i64 (nd ns k).id)) (n' := (S.idx.length + 1)) (f' := (aM (aJ L2 (ins (nd ns k).id (mE (nd ns k)) S.idx)))) (fun _ => by kernel_rfl) (by kernel_rfl) (fun _ => by kernel_rfl) (fun _ => by kernel_rfl) (fun _ => by kernel_rfl) dr Tryz.underlying80 (by unfold maxLen; omega) (gG mY) (by rw [dJ, hni]; rfl) (by rw [← CI]; exact oW hni) ?_
   refine NL (ai.np (ai.aQ (NX (SR ?_))))
   refine gC 6 [] [(2, a_ 8 b8), (5, a_ 3 b7)] [(3, [(7, vI ((nd ns k).id))])] ?_
   refine NN ?_
   refine af.bZ (S := [pF b7 m3 t4 { S.X with last := (nd ns k).id }, nU b8 ns k Y]) [0, 1, 2, 3, 4, 5, 6, 7, 8, 9, 10] 10 [3, 8] (by kernel_rfl) (by kernel_rfl) rfl (by kernel_rfl) ?_
   refine aF.reads (r := 0) (l := [10]) (fr' := (Mc b1 b7 A ns c k S)) (aV := [(Value.int .i64 (IntKind.wrap .i64 (S.X.used + (((nd ns k).data.length : Nat) : Int)))) = (.int .i64 (S.X.used + (((nd ns k).data.length : Nat) : Int))), b8 = b8, b7 = b7]) [0, 1, 2, 3, 4, 5, 6, 7, 8, 9] [o_, o_, o_, ⟨[.at 0], none, none, none, none⟩, o_, ⟨[.at 1], none, none, none, none⟩, o_, ⟨[], none, none, none, some (vI (S.X.used + (((nd ns k).data.length : Nat) : Int)))⟩, o_, o_] [2, 6, 47, 48, 49, 118, 120] (fun _ => by kernel_rfl) ⟨bI (by omega) (by omega) (by omega), rfl, rfl, trivial⟩ rfl rfl ?_
   refine aF.last rfl rfl ?_
   refine gC 1 [] [(0, a_ 3 b7)] [(3, [(9, vI (S.X.used + (((nd ns k).data.length : Nat) : Int)))])] ?_
   refine NL (ai.np (ai.aQ (NX (af.region ?_))))
   refine gK 2 [(49, vI ↑(k + 1))] [(0, p_ ⟨[], none, none, none, some (vI ↑(k + 1))⟩ [(Value.int .i64 (IntKind.wrap .i64 (((k : Nat) : Int) + 1))) = (.int .i64 ↑(k + 1))] ⟨bI (by omega) (by omega) (by omega), trivial⟩)] ?_
   refine NL ?_
   refine ai.mem (aR := [.abs (ak (aY ((bh S (nd ns k)).O) L2)), .abs (ak (aN ((bh S (nd ns k)).O) L2)), .blk b1 [.slice A (ns.length) (c)] 24, .blk b7 [vI ((bh S (nd ns k)).X.cN), vI ((bh S (nd ns k)).X.cB), vI ((bh S (nd ns k)).X.cH), vI ((bh S (nd ns k)).X.cS), vI ((bh S (nd ns k)).X.cZ), .map (some m3), vP t4, vI ((bh S (nd ns k)).X.last), vI ((bh S (nd ns k)).X.ah), vI ((bh S (nd ns k)).X.used)] 86, .abs (aI Tryz.prog 3 m3 (aM (aJ L2 (bh S (nd ns k)).idx)) ((bh S (nd ns k)).idx.length)), .abs (bp 156 t4 (bh S (nd ns k)).X.cH (bh S (nd ns k)).au (aJ L2 (bh S (nd ns k)).us)), .abs (ak (bg ((bh S (nd ns k)).O) L2)), .abs R, .blk b8 [vI ((nd ns k).id), vI ((nd ns k).kind), vI ((nd ns k).mode), vI ((nd ns k).uid), vI ((nd ns k).gid), vI ((nd ns k).sec), vI ((nd ns k).nano), .slice (Y.dA k) ((nd ns k).data.length) ((Y.dC k)), .string (nd ns k).target, .slice (Y.eA k) ((nd ns k).ah.length) ((Y.eC k))] 70, .blk b9 [vI ((nd ns k).id), vI ((nd ns k).mode), vI ((nd ns k).uid), vI ((nd ns k).gid), vI ((nd ns k).sec), vI ((nd ns k).nano), vI 0, vI 0, .bool false] 88]) (fun w hS => by rw [show (bh S (nd ns k)).idx.length = S.idx.length + 1 from fW _ _ _]; exact hS) ?_
   exact ai.turn ((k + 1), (bh S (nd ns k)), L2) (idx := [2, 6, 47, 48, 49]) (pk := [2, 3, 4, 5, 1, 0, 6, 7]) (show (((k + 1)) ≤ ns.length) ∧ (jW X ns ((k + 1)) ((bh S (nd ns k)))) from ⟨by omega, ux hok (fun i hi => (hd i hi).1) (by omega) hB⟩) (by show ns.length - ((k + 1)) < ns.length - k; omega) (fun _ => by kernel_rfl) rfl (by kernel_rfl)
  refine SR ?_
  refine gK 2 [(92, .bool (decide (((nd ns k).kind : Int) = (3 : Int))))] [] ?_
  refine NN ?_
  refine af.bB (p := ((nd ns k).kind : Int) = (3 : Int)) (fun _ => by kernel_rfl) (fun hk3 => ?_) (fun hk3 => ?_)
  ·refine af.bZ (S := [pF b7 m3 t4 S.X, nU b8 ns k Y, uy b9 ns k]) [0, 1, 2, 3, 4, 5, 6, 7, 8, 9, 10, 11, 12] 10 [1, 8, 9] (by kernel_rfl) (by kernel_rfl) rfl (by kernel_rfl) ?_
   refine aF.reads (r := 0) (l := [10, 11, 12]) (fr' := (x9 b1 b7 b8 A ns c k ++ [(97, .map (some m3)), (99, vI ((nd ns k).id)), (103, .agg #[vI ((nd ns k).id), vI ((nd ns k).mode), vI ((nd ns k).uid), vI ((nd ns k).gid), vI ((nd ns k).sec), vI ((nd ns k).nano), vI 0, vI 0, .bool false, .string (nd ns k).target])])) (aV := [b8 = b8, b9 = b9, b9 = b9, b9 = b9, b9 = b9, b9 = b9, b9 = b9, b9 = b9, b9 = b9, b9 = b9, b8 = b8, b7 = b7]) [0, 1, 2, 3, 4, 5, 6, 7, 8, 9] [o_, o_, o_, ⟨[.at 0], none, none, none, none⟩, o_, ⟨[.at 1], none, none, none, none⟩, ⟨[.at 2, .at 2, .at 2, .at 2, .at 2, .at 2, .at 2, .at 2, .at 2], none, none, none, none⟩, o_, ⟨[.at 1], none, none, none, none⟩, o_] [2, 6, 8, 47, 48, 49, 97, 99, 103] (fun _ => by kernel_rfl) ⟨rfl, rfl, rfl, rfl, rfl, rfl, rfl, rfl, rfl, rfl, rfl, rfl, trivial⟩ rfl rfl ?_
   refine mN [1, 8, 9] (fun b13 => [(104, vP b13)]) (fun _ => []) (fun b13 => .blk b13 [vI ((nd ns k).id), vI ((nd ns k).mode), vI ((nd ns k).uid), vI ((nd ns k).gid), vI ((nd ns k).sec), vI ((nd ns k).nano), vI 0, vI 0, .bool false, .string (nd ns k).target] 95) (fun b13 => ?_)
   refine aF.cut (ι := Unit) (fr' := fun (_ : Unit) => (x9 b1 b7 b8 A ns c k ++ [(97, .map (some m3)), (99, vI ((nd ns k).id)), (105, .iface 93 (vP b13))])) (hp' := fun (_ : Unit) => (sV b1 A ns c b7 m3 t4 S L R ++ [nU b8 ns k Y, uy b9 ns k, .blk b13 [vI ((nd ns k).id), vI ((nd ns k).mode), vI ((nd ns k).uid), vI ((nd ns k).gid), vI ((nd ns k).sec), vI ((nd ns k).nano), vI 0, vI 0, .bool false, .string (nd ns k).target] 95])) [1, 8, 9] rfl rfl ?_ rfl (fun _ => by kernel_rfl) ?_
   ·refine gK 1 [(105, .iface 93 (vP b13))] [] ?_
    refine NL ?_
    exact MD () [2, 6, 8, 47, 48, 49, 97, 99, 105] [0, 1, 2, 3, 4, 5, 6, 7, 8, 9, 10]
   rintro _
   refine aF.last rfl rfl ?_
   obtain ⟨L2, hL2⟩ : ∃ L2 : HL, L2 = L.put (dX (nd ns k)) b13 0 none 0 := ⟨_, rfl⟩
   have hfr := hB.fresh hok (by omega)
   refine aj.mem (aR := [.abs (ak (aN ((bh S (nd ns k)).O) L2)), .blk b1 [.slice A (ns.length) (c)] 24, .blk b7 [vI (S.X.cN), vI (S.X.cB), vI (S.X.cH), vI (S.X.cS), vI (S.X.cZ), .map (some m3), vP t4, vI (S.X.last), vI (S.X.ah), vI (S.X.used)] 86, .abs (aI Tryz.prog 3 m3 (aM (aJ L S.idx)) S.idx.length), .abs (bp 156 t4 S.X.cH S.au (aJ L S.us)), .abs (ak (aY S.O L)), .abs (ak (bg S.O L)), .abs R, .blk b8 [vI ((nd ns k).id), vI ((nd ns k).kind), vI ((nd ns k).mode), vI ((nd ns k).uid), vI ((nd ns k).gid), vI ((nd ns k).sec), vI ((nd ns k).nano), .slice (Y.dA k) ((nd ns k).data.length) ((Y.dC k)), .string (nd ns k).target, .slice (Y.eA k) ((nd ns k).ah.length) ((Y.eC k))] 70, .blk b9 [vI ((nd ns k).id), vI ((nd ns k).mode), vI ((nd ns k).uid), vI ((nd ns k).gid), vI ((nd ns k).sec), vI ((nd ns k).nano), vI 0, vI 0, .bool false] 88]) (fun w hS => hS.qm hL2 hfr (o := (nT (nd ns k))) (i := 4) (j := 10) (ix := [0, 1, 2, 3, 5, 6, 7, 8, 9]) rfl rfl (by kernel_rfl) rfl (by show (nd ns k).kind ≠ 0; rw [hk3]; decide) ((tF (L := L2) (k := (dX (nd ns k))) (o := (nT (nd ns k))) hk3).trans (by rfl)) (by show kF (nd ns k).kind = _; rw [hk3]; rfl)) ?_
   refine aj.mem (aR := [.abs (ak (aN ((bh S (nd ns k)).O) L2)), .blk b1 [.slice A (ns.length) (c)] 24, .blk b7 [vI (S.X.cN), vI (S.X.cB), vI (S.X.cH), vI (S.X.cS), vI (S.X.cZ), .map (some m3), vP t4, vI (S.X.last), vI (S.X.ah), vI (S.X.used)] 86, .abs (aI Tryz.prog 3 m3 (aM (aJ L S.idx)) S.idx.length), .abs (bp 156 t4 S.X.cH S.au (aJ L S.us)), .abs (ak (aY S.O L)), .abs (ak (bg ((bh S (nd ns k)).O) L2)), .abs R, .blk b8 [vI ((nd ns k).id), vI ((nd ns k).kind), vI ((nd ns k).mode), vI ((nd ns k).uid), vI ((nd ns k).gid), vI ((nd ns k).sec), vI ((nd ns k).nano), .slice (Y.dA k) ((nd ns k).data.length) ((Y.dC k)), .string (nd ns k).target, .slice (Y.eA k) ((nd ns k).ah.length) ((Y.eC k))] 70, .blk b9 [vI ((nd ns k).id), vI ((nd ns k).mode), vI ((nd ns k).uid), vI ((nd ns k).gid), vI ((nd ns k).sec), vI ((nd ns k).nano), vI 0, vI 0, .bool false] 88]) (fun w hS => hS.rf hL2 hfr (o := (nT (nd ns k))) (i := 6) rfl (by show ¬ (nd ns k).kind = 2; rw [hk3]; decide)) ?_
   refine aj.mem (aR := [.abs (ak (aN ((bh S (nd ns k)).O) L2)), .blk b1 [.slice A (ns.length) (c)] 24, .blk b7 [vI (S.X.cN), vI (S.X.cB), vI (S.X.cH), vI (S.X.cS), vI (S.X.cZ), .map (some m3), vP t4, vI (S.X.last), vI (S.X.ah), vI (S.X.used)] 86, .abs (aI Tryz.prog 3 m3 (aM (aJ L S.idx)) S.idx.length), .abs (bp 156 t4 S.X.cH S.au (aJ L S.us)), .abs (ak (aY ((bh S (nd ns k)).O) L2)), .abs (ak (bg ((bh S (nd ns k)).O) L2)), .abs R, .blk b8 [vI ((nd ns k).id), vI ((nd ns k).kind), vI ((nd ns k).mode), vI ((nd ns k).uid), vI ((nd ns k).gid), vI ((nd ns k).sec), vI ((nd ns k).nano), .slice (Y.dA k) ((nd ns k).data.length) ((Y.dC k)), .string (nd ns k).target, .slice (Y.eA k) ((nd ns k).ah.length) ((Y.eC k))] 70, .blk b9 [vI ((nd ns k).id), vI ((nd ns k).mode), vI ((nd ns k).uid), vI ((nd ns k).gid), vI ((nd ns k).sec), vI ((nd ns k).nano), vI 0, vI 0, .bool false] 88]) (fun w hS => hS.xu hL2 (o := (nT (nd ns k))) (i := 5) rfl (by show ¬ (nd ns k).kind = 1; rw [hk3]; decide)) ?_
   refine aj.mem (aR := [.abs (ak (aN ((bh S (nd ns k)).O) L2)), .blk b1 [.slice A (ns.length) (c)] 24, .blk b7 [vI (S.X.cN), vI (S.X.cB), vI (S.X.cH), vI (S.X.cS), vI (S.X.cZ), .map (some m3), vP t4, vI (S.X.last), vI (S.X.ah), vI (S.X.used)] 86, .abs (aI Tryz.prog 3 m3 (aM (aJ L2 S.idx)) S.idx.length), .abs (bp 156 t4 S.X.cH S.au (aJ L2 S.us)), .abs (ak (aY ((bh S (nd ns k)).O) L2)), .abs (ak (bg ((bh S (nd ns k)).O) L2)), .abs R, .blk b8 [vI ((nd ns k).id), vI ((nd ns k).kind), vI ((nd ns k).mode), vI ((nd ns k).uid), vI ((nd ns k).gid), vI ((nd ns k).sec), vI ((nd ns k).nano), .slice (Y.dA k) ((nd ns k).data.length) ((Y.dC k)), .string (nd ns k).target, .slice (Y.eA k) ((nd ns k).ah.length) ((Y.eC k))] 70, .blk b9 [vI ((nd ns k).id), vI ((nd ns k).mode), vI ((nd ns k).uid), vI ((nd ns k).gid), vI ((nd ns k).sec), vI ((nd ns k).nano), vI 0, vI 0, .bool false] 88]) (fun w hS => by rw [eW hL2 hfr.idx, eW hL2 hfr.us]; exact hS) ?_
   have CI : cI L2 (mE (nd ns k)) = .iface 93 (vP b13) := by unfold mE; rw [lQ hL2, hk3]; rfl
   refine aj.jY 3 (d := none) (t := 80) (K := 3) (E := 84) (b := m3) (n := S.idx.length) (f := (aM (aJ L2 S.idx))) (x := (.tmp 97)) (ix := (.tmp 99)) (y := (.tmp 105)) (key := .int .i64 ((nd ns k).id)) (u := .iface 93 (vP b13)) (kl := (.int .i64 (nd ns k).id)) (n' := (S.idx.length + 1)) (f' := (aM (aJ L2 (ins (nd ns k).id (mE (nd ns k)) S.idx)))) (fun _ => by kernel_rfl) (by kernel_rfl) (fun _ => by kernel_rfl) (fun _ => by kernel_rfl) (fun _ => by kernel_rfl) dr Tryz.underlying80 (by unfold maxLen; omega) (gG mY) (by rw [dJ, hni]; rfl) (by rw [← CI]; exact oW hni) ?_
   refine NL (ai.np (ai.aQ (NX (SR ?_))))
   refine gC 6 [] [(2, a_ 8 b8), (5, a_ 2 b7)] [(2, [(7, vI ((nd ns k).id))])] ?_
   refine NN ?_
   refine af.bZ (S := [pF b7 m3 t4 { S.X with last := (nd ns k).id }, nU b8 ns k Y]) [0, 1, 2, 3, 4, 5, 6, 7, 8, 9, 10] 10 [2, 8] (by kernel_rfl) (by kernel_rfl) rfl (by kernel_rfl) ?_
   refine aF.reads (r := 0) (l := [10]) (fr' := (Mc b1 b7 A ns c k S)) (aV := [(Value.int .i64 (IntKind.wrap .i64 (S.X.used + (((nd ns k).data.length : Nat) : Int)))) = (.int .i64 (S.X.used + (((nd ns k).data.length : Nat) : Int))), b8 = b8, b7 = b7]) [0, 1, 2, 3, 4, 5, 6, 7, 8, 9] [o_, o_, o_, ⟨[.at 0], none, none, none, none⟩, o_, ⟨[.at 1], none, none, none, none⟩, o_, ⟨[], none, none, none, some (vI (S.X.used + (((nd ns k).data.length : Nat) : Int)))⟩, o_, o_] [2, 6, 47, 48, 49, 118, 120] (fun _ => by kernel_rfl) ⟨bI (by omega) (by omega) (by omega), rfl, rfl, trivial⟩ rfl rfl ?_
   refine aF.last rfl rfl ?_
   refine gC 1 [] [(0, a_ 2 b7)] [(2, [(9, vI (S.X.used + (((nd ns k).data.length : Nat) : Int)))])] ?_
   refine NL (ai.np (ai.aQ (NX (af.region ?_))))
   refine gK 2 [(49, vI ↑(k + 1))] [(0, p_ ⟨[], none, none, none, some (vI ↑(k + 1))⟩ [(Value.int .i64 (IntKind.wrap .i64 (((k : Nat) : Int) + 1))) = (.int .i64 ↑(k + 1))] ⟨bI (by omega) (by omega) (by omega), trivial⟩)] ?_
   refine NL ?_
   refine ai.mem (aR := [.abs (ak (aN ((bh S (nd ns k)).O) L2)), .blk b1 [.slice A (ns.length) (c)] 24, .blk b7 [vI ((bh S (nd ns k)).X.cN), vI ((bh S (nd ns k)).X.cB), vI ((bh S (nd ns k)).X.cH), vI ((bh S (nd ns k)).X.cS), vI ((bh S (nd ns k)).X.cZ), .map (some m3), vP t4, vI ((bh S (nd ns k)).X.last), vI ((bh S (nd ns k)).X.ah), vI ((bh S (nd ns k)).X.used)] 86, .abs (aI Tryz.prog 3 m3 (aM (aJ L2 (bh S (nd ns k)).idx)) ((bh S (nd ns k)).idx.length)), .abs (bp 156 t4 (bh S (nd ns k)).X.cH (bh S (nd ns k)).au (aJ L2 (bh S (nd ns k)).us)), .abs (ak (aY ((bh S (nd ns k)).O) L2)), .abs (ak (bg ((bh S (nd ns k)).O) L2)), .abs R, .blk b8 [vI ((nd ns k).id), vI ((nd ns k).kind), vI ((nd ns k).mode), vI ((nd ns k).uid), vI ((nd ns k).gid), vI ((nd ns k).sec), vI ((nd ns k).nano), .slice (Y.dA k) ((nd ns k).data.length) ((Y.dC k)), .string (nd ns k).target, .slice (Y.eA k) ((nd ns k).ah.length) ((Y.eC k))] 70, .blk b9 [vI ((nd ns k).id), vI ((nd ns k).mode), vI ((nd ns k).uid), vI ((nd ns k).gid), vI ((nd ns k).sec), vI ((nd ns k).nano), vI 0, vI 0, .bool false] 88]) (fun w hS => by rw [show (bh S (nd ns k)).idx.length = S.idx.length + 1 from fW _ _ _]; exact hS) ?_
   exact ai.turn ((k + 1), (bh S (nd ns k)), L2) (idx := [2, 6, 47, 48, 49]) (pk := [1, 2, 3, 4, 0, 5, 6, 7]) (show (((k + 1)) ≤ ns.length) ∧ (jW X ns ((k + 1)) ((bh S (nd ns k)))) from ⟨by omega, ux hok (fun i hi => (hd i hi).1) (by omega) hB⟩) (by show ns.length - ((k + 1)) < ns.length - k; omega) (fun _ => by kernel_rfl) rfl (by kernel_rfl)
  have j6 : (nd ns k).kind = 2 := by omega
  refine af.bZ (S := [pF b7 m3 t4 S.X, nU b8 ns k Y, uy b9 ns k]) [0, 1, 2, 3, 4, 5, 6, 7, 8, 9, 10, 11] 7 [1, 8, 9] (by kernel_rfl) (by kernel_rfl) rfl (by kernel_rfl) ?_
  refine aF.reads (r := 0) (l := [7, 8, 9, 10, 11]) (fr' := (x9 b1 b7 b8 A ns c k ++ Md m3 ns k)) (aV := [b9 = b9, b9 = b9, b9 = b9, b9 = b9, b9 = b9, b9 = b9, b9 = b9, b9 = b9, b9 = b9, b8 = b8, b7 = b7]) [0, 1, 2, 3, 4, 5, 6] [o_, o_, o_, ⟨[.at 0], none, none, none, none⟩, o_, ⟨[.at 1], none, none, none, none⟩, ⟨[.at 2, .at 2, .at 2, .at 2, .at 2, .at 2, .at 2, .at 2, .at 2], none, none, none, none⟩] [2, 6, 8, 47, 48, 49, 69, 71, 72] (fun _ => by kernel_rfl) ⟨rfl, rfl, rfl, rfl, rfl, rfl, rfl, rfl, rfl, rfl, rfl, trivial⟩ rfl rfl ?_
  refine aF.cut (ι := Nat) (fr' := fun (m14 : Nat) => (x9 b1 b7 b8 A ns c k ++ Md m3 ns k ++ [(73, .map (some m14))])) (hp' := fun (m14 : Nat) => (sV b1 A ns c b7 m3 t4 S L R ++ [nU b8 ns k Y, uy b9 ns k, .abs (aI Tryz.prog 9 m14 (fun _ => none) 0)])) [1, 8, 9] rfl rfl ?_ rfl (fun _ => by kernel_rfl) ?_
  ·refine aj.lF (d := (some 73)) (t := 97) (fun _ => by kernel_rfl) Tryz.prog rfl 9 (fun m14 => ?_)
   refine NL ?_
   exact MD m14 [2, 6, 8, 47, 48, 49, 69, 71, 72, 73] [0, 1, 2, 3, 4, 5, 6, 7, 8, 9, 10]
  rintro m14
  refine aF.cut (ι := Unit) (fr' := fun (_ : Unit) => (x9 b1 b7 b8 A ns c k ++ [(69, .map (some m3)), (71, vI ((nd ns k).id)), (74, .agg #[vI ((nd ns k).id), vI ((nd ns k).mode), vI ((nd ns k).uid), vI ((nd ns k).gid), vI ((nd ns k).sec), vI ((nd ns k).nano), vI 0, vI 0, .bool false, .map (some m14), .pointer none])])) (hp' := fun (_ : Unit) => (sV b1 A ns c b7 m3 t4 S L R ++ [nU b8 ns k Y, uy b9 ns k, .abs (aI Tryz.prog 9 m14 (fun _ => none) 0)])) [1, 8, 9] rfl rfl ?_ rfl (fun _ => by kernel_rfl) ?_
  ·refine gK 1 [(74, .agg #[vI ((nd ns k).id), vI ((nd ns k).mode), vI ((nd ns k).uid), vI ((nd ns k).gid), vI ((nd ns k).sec), vI ((nd ns k).nano), vI 0, vI 0, .bool false, .map (some m14), .pointer none])] [] ?_
   refine NL ?_
   exact MD () [2, 6, 8, 47, 48, 49, 69, 71, 74] [0, 1, 2, 3, 4, 5, 6, 7, 8, 9, 10]
  rintro _
  refine mN [1, 8, 9] (fun b15 => [(75, vP b15)]) (fun _ => []) (fun b15 => .blk b15 [vI ((nd ns k).id), vI ((nd ns k).mode), vI ((nd ns k).uid), vI ((nd ns k).gid), vI ((nd ns k).sec), vI ((nd ns k).nano), vI 0, vI 0, .bool false, .map (some m14), .pointer none] 99) (fun b15 => ?_)
  refine aF.cut (ι := Unit) (fr' := fun (_ : Unit) => (x9 b1 b7 b8 A ns c k ++ [(69, .map (some m3)), (71, vI ((nd ns k).id)), (76, .iface 96 (vP b15))])) (hp' := fun (_ : Unit) => (sV b1 A ns c b7 m3 t4 S L R ++ [nU b8 ns k Y, uy b9 ns k, .abs (aI Tryz.prog 9 m14 (fun _ => none) 0), .blk b15 [vI ((nd ns k).id), vI ((nd ns k).mode), vI ((nd ns k).uid), vI ((nd ns k).gid), vI ((nd ns k).sec), vI ((nd ns k).nano), vI 0, vI 0, .bool false, .map (some m14), .pointer none] 99])) [1, 8, 9] rfl rfl ?_ rfl (fun _ => by kernel_rfl) ?_
  ·refine gK 1 [(76, .iface 96 (vP b15))] [] ?_
   refine NL ?_
   exact MD () [2, 6, 8, 47, 48, 49, 69, 71, 76] [0, 1, 2, 3, 4, 5, 6, 7, 8, 9, 10, 11]
  rintro _
  refine aF.last rfl rfl ?_
  obtain ⟨L2, hL2⟩ : ∃ L2 : HL, L2 = L.put (dX (nd ns k)) b15 m14 none 0 := ⟨_, rfl⟩
  have hfr := hB.fresh hok (by omega)
  refine aj.mem (aR := [.abs (ak (aN ((bh S (nd ns k)).O) L2)), .blk b1 [.slice A (ns.length) (c)] 24, .blk b7 [vI (S.X.cN), vI (S.X.cB), vI (S.X.cH), vI (S.X.cS), vI (S.X.cZ), .map (some m3), vP t4, vI (S.X.last), vI (S.X.ah), vI (S.X.used)] 86, .abs (aI Tryz.prog 3 m3 (aM (aJ L S.idx)) S.idx.length), .abs (bp 156 t4 S.X.cH S.au (aJ L S.us)), .abs (ak (aY S.O L)), .abs (ak (bg S.O L)), .abs R, .blk b8 [vI ((nd ns k).id), vI ((nd ns k).kind), vI ((nd ns k).mode), vI ((nd ns k).uid), vI ((nd ns k).gid), vI ((nd ns k).sec), vI ((nd ns k).nano), .slice (Y.dA k) ((nd ns k).data.length) ((Y.dC k)), .string (nd ns k).target, .slice (Y.eA k) ((nd ns k).ah.length) ((Y.eC k))] 70, .blk b9 [vI ((nd ns k).id), vI ((nd ns k).mode), vI ((nd ns k).uid), vI ((nd ns k).gid), vI ((nd ns k).sec), vI ((nd ns k).nano), vI 0, vI 0, .bool false] 88, .abs (aI Tryz.prog 9 m14 (fun _ => none) 0)]) (fun w hS => hS.qm hL2 hfr (o := (nT (nd ns k))) (i := 4) (j := 11) (ix := [0, 1, 2, 3, 5, 6, 7, 8, 9, 10]) rfl rfl (by kernel_rfl) rfl (by show (nd ns k).kind ≠ 0; rw [j6]; decide) ((gF (L := L2) (k := (dX (nd ns k))) (o := (nT (nd ns k))) j6).trans (by rw [BP hL2]; rfl)) (by show kF (nd ns k).kind = _; rw [j6]; rfl)) ?_
  refine aj.mem (aR := [pE ((bh S (nd ns k)).O) L2, pO ((bh S (nd ns k)).O) L2, vD b1 A ns c, pF b7 m3 t4 S.X, pI m3 L S.idx, jF t4 S L, pD S.O L, .abs R, nU b8 ns k Y, uy b9 ns k]) (fun w hS => hS.Jq hL2 hfr (o := (nT (nd ns k))) (i := 6) (j := 10) (ix := [0, 1, 2, 3, 4, 5, 7, 8, 9]) rfl rfl (by kernel_rfl) rfl j6 rfl) ?_
  refine aj.mem (aR := [.abs (ak (bg ((bh S (nd ns k)).O) L2)), .abs (ak (aN ((bh S (nd ns k)).O) L2)), .blk b1 [.slice A (ns.length) (c)] 24, .blk b7 [vI (S.X.cN), vI (S.X.cB), vI (S.X.cH), vI (S.X.cS), vI (S.X.cZ), .map (some m3), vP t4, vI (S.X.last), vI (S.X.ah), vI (S.X.used)] 86, .abs (aI Tryz.prog 3 m3 (aM (aJ L S.idx)) S.idx.length), .abs (bp 156 t4 S.X.cH S.au (aJ L S.us)), .abs (ak (aY ((bh S (nd ns k)).O) L2)), .abs R, .blk b8 [vI ((nd ns k).id), vI ((nd ns k).kind), vI ((nd ns k).mode), vI ((nd ns k).uid), vI ((nd ns k).gid), vI ((nd ns k).sec), vI ((nd ns k).nano), .slice (Y.dA k) ((nd ns k).data.length) ((Y.dC k)), .string (nd ns k).target, .slice (Y.eA k) ((nd ns k).ah.length) ((Y.eC k))] 70, .blk b9 [vI ((nd ns k).id), vI ((nd ns k).mode), vI ((nd ns k).uid), vI ((nd ns k).gid), vI ((nd ns k).sec), vI ((nd ns k).nano), vI 0, vI 0, .bool false] 88]) (fun w hS => hS.xu hL2 (o := (nT (nd ns k))) (i := 6) rfl (by show ¬ (nd ns k).kind = 1; rw [j6]; decide)) ?_
  refine aj.mem (aR := [.abs (ak (bg ((bh S (nd ns k)).O) L2)), .abs (ak (aN ((bh S (nd ns k)).O) L2)), .blk b1 [.slice A (ns.length) (c)] 24, .blk b7 [vI (S.X.cN), vI (S.X.cB), vI (S.X.cH), vI (S.X.cS), vI (S.X.cZ), .map (some m3), vP t4, vI (S.X.last), vI (S.X.ah), vI (S.X.used)] 86, .abs (aI Tryz.prog 3 m3 (aM (aJ L2 S.idx)) S.idx.length), .abs (bp 156 t4 S.X.cH S.au (aJ L2 S.us)), .abs (ak (aY ((bh S (nd ns k)).O) L2)), .abs R, .blk b8 [vI ((nd ns k).id), vI ((nd ns k).kind), vI ((nd ns k).mode), vI ((nd ns k).uid), vI ((nd ns k).gid), vI ((nd ns k).sec), vI ((nd ns k).nano), .slice (Y.dA k) ((nd ns k).data.length) ((Y.dC k)), .string (nd ns k).target, .slice (Y.eA k) ((nd ns k).ah.length) ((Y.eC k))] 70, .blk b9 [vI ((nd ns k).id), vI ((nd ns k).mode), vI ((nd ns k).uid), vI ((nd ns k).gid), vI ((nd ns k).sec), vI ((nd ns k).nano), vI 0, vI 0, .bool false] 88]) (fun w hS => by rw [eW hL2 hfr.idx, eW hL2 hfr.us]; exact hS) ?_
  have CI : cI L2 (mE (nd ns k)) = .iface 96 (vP b15) := by unfold mE; rw [lQ hL2, j6]; rfl
  refine aj.jY 4 (d := none) (t := 80) (K := 3) (E := 84) (b := m3) (n := S.idx.length) (f := (aM (aJ L2 S.idx))) (x := (.tmp 69)) (ix := (.tmp 71)) (y := (.tmp 76)) (key := .int .i64 ((nd ns k).id)) (u := .iface 96 (vP b15)) (kl := (.int .i64 (nd ns k).id)) (n' := (S.idx.length + 1)) (f' := (aM (aJ L2 (ins (nd ns k).id (mE (nd ns k)) S.idx)))) (fun _ => by kernel_rfl) (by kernel_rfl) (fun _ => by kernel_rfl) (fun _ => by kernel_rfl) (fun _ => by kernel_rfl) dr Tryz.underlying80 (by unfold maxLen; omega) (gG mY) (by rw [dJ, hni]; rfl) (by rw [← CI]; exact oW hni) ?_
  refine NL (ai.np (ai.aQ (NX (SR ?_))))
  refine gC 6 [] [(2, a_ 8 b8), (5, a_ 3 b7)] [(3, [(7, vI ((nd ns k).id))])] ?_
  refine NN ?_
  refine af.bZ (S := [pF b7 m3 t4 { S.X with last := (nd ns k).id }, nU b8 ns k Y]) [0, 1, 2, 3, 4, 5, 6, 7, 8, 9, 10] 10 [3, 8] (by kernel_rfl) (by kernel_rfl) rfl (by kernel_rfl) ?_
  refine aF.reads (r := 0) (l := [10]) (fr' := (Mc b1 b7 A ns c k S)) (aV := [(Value.int .i64 (IntKind.wrap .i64 (S.X.used + (((nd ns k).data.length : Nat) : Int)))) = (.int .i64 (S.X.used + (((nd ns k).data.length : Nat) : Int))), b8 = b8, b7 = b7]) [0, 1, 2, 3, 4, 5, 6, 7, 8, 9] [o_, o_, o_, ⟨[.at 0], none, none, none, none⟩, o_, ⟨[.at 1], none, none, none, none⟩, o_, ⟨[], none, none, none, some (vI (S.X.used + (((nd ns k).data.length : Nat) : Int)))⟩, o_, o_] [2, 6, 47, 48, 49, 118, 120] (fun _ => by kernel_rfl) ⟨bI (by omega) (by omega) (by omega), rfl, rfl, trivial⟩ rfl rfl ?_
  refine aF.last rfl rfl ?_
  refine gC 1 [] [(0, a_ 3 b7)] [(3, [(9, vI (S.X.used + (((nd ns k).data.length : Nat) : Int)))])] ?_
  refine NL (ai.np (ai.aQ (NX (af.region ?_))))
  refine gK 2 [(49, vI ↑(k + 1))] [(0, p_ ⟨[], none, none, none, some (vI ↑(k + 1))⟩ [(Value.int .i64 (IntKind.wrap .i64 (((k : Nat) : Int) + 1))) = (.int .i64 ↑(k + 1))] ⟨bI (by omega) (by omega) (by omega), trivial⟩)] ?_
  refine NL ?_
  refine ai.mem (aR := [.abs (ak (bg ((bh S (nd ns k)).O) L2)), .abs (ak (aN ((bh S (nd ns k)).O) L2)), .blk b1 [.slice A (ns.length) (c)] 24, .blk b7 [vI ((bh S (nd ns k)).X.cN), vI ((bh S (nd ns k)).X.cB), vI ((bh S (nd ns k)).X.cH), vI ((bh S (nd ns k)).X.cS), vI ((bh S (nd ns k)).X.cZ), .map (some m3), vP t4, vI ((bh S (nd ns k)).X.last), vI ((bh S (nd ns k)).X.ah), vI ((bh S (nd ns k)).X.used)] 86, .abs (aI Tryz.prog 3 m3 (aM (aJ L2 (bh S (nd ns k)).idx)) ((bh S (nd ns k)).idx.length)), .abs (bp 156 t4 (bh S (nd ns k)).X.cH (bh S (nd ns k)).au (aJ L2 (bh S (nd ns k)).us)), .abs (ak (aY ((bh S (nd ns k)).O) L2)), .abs R, .blk b8 [vI ((nd ns k).id), vI ((nd ns k).kind), vI ((nd ns k).mode), vI ((nd ns k).uid), vI ((nd ns k).gid), vI ((nd ns k).sec), vI ((nd ns k).nano), .slice (Y.dA k) ((nd ns k).data.length) ((Y.dC k)), .string (nd ns k).target, .slice (Y.eA k) ((nd ns k).ah.length) ((Y.eC k))] 70, .blk b9 [vI ((nd ns k).id), vI ((nd ns k).mode), vI ((nd ns k).uid), vI ((nd ns k).gid), vI ((nd ns k).sec), vI ((nd ns k).nano), vI 0, vI 0, .bool false] 88]) (fun w hS => by rw [show (bh S (nd ns k)).idx.length = S.idx.length + 1 from fW _ _ _]; exact hS) ?_
  exact ai.turn ((k + 1), (bh S (nd ns k)), L2) (idx := [2, 6, 47, 48, 49]) (pk := [2, 3, 4, 5, 1, 6, 0, 7]) (show (((k + 1)) ≤ ns.length) ∧ (jW X ns ((k + 1)) ((bh S (nd ns k)))) from ⟨by omega, ux hok (fun i hi => (hd i hi).1) (by omega) hB⟩) (by show ns.length - ((k + 1)) < ns.length - k; omega) (fun _ => by kernel_rfl) rfl (by kernel_rfl)
 refine af.exit (ai.aW (ai.aW (ai.ck (NX (af.seq (SR ?_))))))
 refine gK 4 [(123, .slice A (ns.length) (c)), (124, vI ↑ns.length), (125, vI 0)] [(1, a_ 0 b1)] ?_
 refine NN (af.block ?_)
 refine af.loop (ι := Nat × aG) (fun ((i, S1) : Nat × aG) => (i ≤ ns.length) ∧ (dZ X ns i 0 S1)) (fun ((i, S1) : Nat × aG) => ns.length - i) (fun ((i, S1) : Nat × aG) => [(6, vP b7), (123, .slice A (ns.length) (c)), (124, vI ↑ns.length), (125, vI ↑i)]) (fun ((i, S1) : Nat × aG) => (sV b1 A ns c b7 m3 t4 S1 L R)) (0, S) (idx := [6, 123, 124, 125]) (pk := [0, 1, 2, 3, 4, 5, 6, 7]) (show (0 ≤ ns.length) ∧ (dZ X ns 0 0 S) from ⟨Nat.zero_le _, by have h := hB; rw [show k = ns.length by omega] at h; exact h.ah⟩) (fun _ => by kernel_rfl) rfl (by kernel_rfl) ?_
 rintro ⟨i, S1⟩ ⟨hi, hE⟩
 show af _ _ _ _ [(6, vP b7), (123, .slice A (ns.length) (c)), (124, vI ↑ns.length), (125, vI ↑i)] (sV b1 A ns c b7 m3 t4 S1 L R) _
 refine SR ?_
 refine gK 1 [(126, .bool (decide ((((i : Nat) : Int) : Int) < (((ns.length : Nat) : Int) : Int))))] [] ?_
 refine NN (af.seq ?_)
 refine af.bB (p := (((i : Nat) : Int) : Int) < (((ns.length : Nat) : Int) : Int)) (fun _ => by kernel_rfl) (fun OJ => ?_) (fun OJ => ?_)
 ·refine af.skip (NX (af.seq (af.block (SR ?_))))
  refine gN 4 (fun b16 => [(11, vP b16)]) (fun b16 => [(0, p_ ⟨[], some i, none, some ⟨(ax A), av A, none⟩, none⟩ [((i : Nat) : Int) = ((i : Nat) : Int), i < ns.length, (⟨(ax A), av A, none⟩ : Addr).spot = none, (A : Option Addr) = some ⟨(ax A), av A, none⟩] ⟨rfl, by omega, rfl, aB.hd hG (i := i) (by omega), trivial⟩), (1, p_ ⟨[.old (.int .i64 ((nd ns i).id)), .old (.int .i64 ((nd ns i).kind)), .old (.int .i64 ((nd ns i).mode)), .old (.int .i64 ((nd ns i).uid)), .old (.int .i64 ((nd ns i).gid)), .old (.int .i64 ((nd ns i).sec)), .old (.int .i64 ((nd ns i).nano)), .old (.slice (Y.dA i) ((nd ns i).data.length) ((Y.dC i))), .old (.string (nd ns i).target), .old (.slice (Y.eA i) ((nd ns i).ah.length) ((Y.eC i)))], none, none, none, none⟩ [(Rd β ⟨(ax A), av A + i * 10 + 9, none⟩ (.slice (Y.eA i) ((nd ns i).ah.length) ((Y.eC i)))), (Rd β ⟨(ax A), av A + i * 10 + 8, none⟩ (.string (nd ns i).target)), (Rd β ⟨(ax A), av A + i * 10 + 7, none⟩ (.slice (Y.dA i) ((nd ns i).data.length) ((Y.dC i)))), (Rd β ⟨(ax A), av A + i * 10 + 6, none⟩ (.int .i64 ((nd ns i).nano))), (Rd β ⟨(ax A), av A + i * 10 + 5, none⟩ (.int .i64 ((nd ns i).sec))), (Rd β ⟨(ax A), av A + i * 10 + 4, none⟩ (.int .i64 ((nd ns i).gid))), (Rd β ⟨(ax A), av A + i * 10 + 3, none⟩ (.int .i64 ((nd ns i).uid))), (Rd β ⟨(ax A), av A + i * 10 + 2, none⟩ (.int .i64 ((nd ns i).mode))), (Rd β ⟨(ax A), av A + i * 10 + 1, none⟩ (.int .i64 ((nd ns i).kind))), (Rd β ⟨(ax A), av A + i * 10, none⟩ (.int .i64 ((nd ns i).id)))] ⟨aB.rd hG (i := i) (by omega) (j := 9) rfl, aB.rd hG (i := i) (by omega) (j := 8) rfl, aB.rd hG (i := i) (by omega) (j := 7) rfl, aB.rd hG (i := i) (by omega) (j := 6) rfl, aB.rd hG (i := i) (by omega) (j := 5) rfl, aB.rd hG (i := i) (by omega) (j := 4) rfl, aB.rd hG (i := i) (by omega) (j := 3) rfl, aB.rd hG (i := i) (by omega) (j := 2) rfl, aB.rd hG (i := i) (by omega) (j := 1) rfl, aB.rd hG (i := i) (by omega) (j := 0) rfl, trivial⟩), (3, A_ 8 b16 10)]) (fun _ => []) (fun b16 => .blk b16 [vI ((nd ns i).id), vI ((nd ns i).kind), vI ((nd ns i).mode), vI ((nd ns i).uid), vI ((nd ns i).gid), vI ((nd ns i).sec), vI ((nd ns i).nano), .slice (Y.dA i) ((nd ns i).data.length) ((Y.dC i)), .string (nd ns i).target, .slice (Y.eA i) ((nd ns i).ah.length) ((Y.eC i))] 70) (fun b16 => ?_)
  refine NS ?_
  refine gK 4 [(130, .slice (Y.eA i) ((nd ns i).ah.length) ((Y.eC i))), (131, vI ↑((nd ns i).ah.length)), (132, vI 0)] [(1, a_ 8 b16)] ?_
  refine NN (af.block ?_)
  refine af.loop (ι := Nat × aG) (fun ((j, S2) : Nat × aG) => (j ≤ (nd ns i).ah.length) ∧ (dZ X ns i j S2)) (fun ((j, S2) : Nat × aG) => (nd ns i).ah.length - j) (fun ((j, S2) : Nat × aG) => (NU b7 b16 A ns c i Y j)) (fun ((j, S2) : Nat × aG) => ([nU b16 ns i Y] ++ sV b1 A ns c b7 m3 t4 S2 L R)) (0, S1) (idx := [6, 11, 123, 124, 125, 130, 131, 132]) (pk := [8, 0, 1, 2, 3, 4, 5, 6, 7]) (show (0 ≤ (nd ns i).ah.length) ∧ (dZ X ns i 0 S1) from ⟨Nat.zero_le _, hE⟩) (fun _ => by kernel_rfl) rfl (by kernel_rfl) ?_
  rintro ⟨j, S2⟩ ⟨hj, nG⟩
  show af _ _ _ _ (NU b7 b16 A ns c i Y j) ([nU b16 ns i Y] ++ sV b1 A ns c b7 m3 t4 S2 L R) _
  refine SR ?_
  refine gK 1 [(133, .bool (decide ((((j : Nat) : Int) : Int) < ((((nd ns i).ah.length : Nat) : Int) : Int))))] [] ?_
  refine NN (af.seq ?_)
  refine af.bB (p := (((j : Nat) : Int) : Int) < ((((nd ns i).ah.length : Nat) : Int) : Int)) (fun _ => by kernel_rfl) (fun OL => ?_) (fun OL => ?_)
  ·have hj2 : j < (nd ns i).ah.length := by omega
   have hi2 : i < ns.length := by omega
   have OM := nG.get hi2
   obtain ⟨hes, hno, hk2⟩ := nG.look hok hi2 hj2
   have Mg := rE hok hi2 hj2
   have Cx : TabM.get S2.idx (nd ns i).id = some ⟨(dX (nd ns i)), 2⟩ := by rw [OM]; unfold mE; rw [hk2]
   have hge : TabM.get S2.idx (ent ns i j).id = some (jV ns (ent ns i j)) := by rw [← Mg.2]; exact nG.get Mg.1
   have IV := hok.ids i hi2
   have hiw : (Lit.int .i64 (nd ns i).id).wf = true := WalkArith.wf_i64 (by omega)
   have Px : (Lit.int .i64 (ent ns i j).id).wf = true := WalkArith.wf_i64 (by have := hwf i hi2 j hj2; omega)
   have hld := nG.live hok hi2
   have hlt := nG.live hok Mg.1
   have hkd : (obj S2.O (dX (nd ns i))).kind = 2 := (nG.inv.kind hld).trans hk2
   have hkt : (obj S2.O (jV ns (ent ns i j)).k).kind = (jV ns (ent ns i j)).kind := nG.inv.kind hlt
   have h3 : (jV ns (ent ns i j)).kind = 1 ∨ (jV ns (ent ns i j)).kind = 2 ∨ (jV ns (ent ns i j)).kind = 3 := (nG.inv.ob _ hlt).2.2
   have hlb : 0 ≤ (obj S2.O (jV ns (ent ns i j)).k).links ∧ (obj S2.O (jV ns (ent ns i j)).k).links ≤ 8192 := nG.inv.lb hlt
   have hel : (obj S2.O (dX (nd ns i))).ah.length ≤ 8192 := nG.inv.eM hld
   have hsz := hnm i hi2 j hj2
   have hde := hd i hi2
   have QB := nG.inv.hX
   refine af.skip (NX (af.seq (af.block (SR ?_))))
   refine gN 4 (fun b17 => [(13, vP b17)]) (fun b17 => [(0, p_ ⟨[], some j, none, some ⟨(ax (Y.eA i)), av (Y.eA i), none⟩, none⟩ [((j : Nat) : Int) = ((j : Nat) : Int), j < (nd ns i).ah.length, (⟨(ax (Y.eA i)), av (Y.eA i), none⟩ : Addr).spot = none, ((Y.eA i) : Option Addr) = some ⟨(ax (Y.eA i)), av (Y.eA i), none⟩] ⟨rfl, by omega, rfl, cK.hd (hG.ah i (by omega)) (i := j) (by omega), trivial⟩), (1, p_ ⟨[.old (.string (en (nd ns i).ah j).name), .old (.int .i64 ((en (nd ns i).ah j).id))], none, none, none, none⟩ [(Rd β ⟨(ax (Y.eA i)), av (Y.eA i) + j * 2 + 1, none⟩ (.int .i64 ((en (nd ns i).ah j).id))), (Rd β ⟨(ax (Y.eA i)), av (Y.eA i) + j * 2, none⟩ (.string (en (nd ns i).ah j).name))] ⟨cK.rd (hG.ah i (by omega)) (i := j) (by omega) (j := 1) rfl, cK.rd (hG.ah i (by omega)) (i := j) (by omega) (j := 0) rfl, trivial⟩), (3, A_ 9 b17 2)]) (fun _ => []) (fun b17 => .blk b17 [.string (en (nd ns i).ah j).name, vI ((en (nd ns i).ah j).id)] 101) (fun b17 => ?_)
   refine NN (af.seq ?_)
   refine af.bZ (S := [pF b7 m3 t4 S2.X, pI m3 L S2.idx, nU b16 ns i Y, .blk b17 [.string (en (nd ns i).ah j).name, vI ((en (nd ns i).ah j).id)] 101]) [0, 1, 2, 3, 4, 5, 6, 7, 8, 9, 10, 11, 12, 13, 14, 15, 16, 17] 17 [2, 3, 0, 9] (by kernel_rfl) (by kernel_rfl) rfl (by kernel_rfl) ?_
   refine aF.reads (r := 11) (l := [6, 7, 8, 9, 10, 11, 12, 13, 14, 15, 16, 17]) (fr' := ([(6, vP b7), (11, vP b16), (13, vP b17)] ++ Me A ns c i Y j ++ [(139, .map (some m3)), (141, vI ((nd ns i).id))])) (aV := [b16 = b16, b7 = b7]) [0, 1, 2, 3, 4, 5] [o_, o_, o_, ⟨[.at 0], none, none, none, none⟩, o_, ⟨[.at 2], none, none, none, none⟩] [6, 11, 13, 123, 124, 125, 130, 131, 132, 139, 141] (fun _ => by kernel_rfl) ⟨rfl, rfl, trivial⟩ rfl rfl ?_
   refine aF.dI 1 (d := (some 142)) (t := 80) (K := 3) (E := 84) (b := m3) (cnt := S2.idx.length) (f := (aM (aJ L S2.idx))) (x := (.tmp 139)) (ix := (.tmp 141)) (key := .int .i64 ((nd ns i).id)) (z := .nilIface) (kl := (.int .i64 (nd ns i).id)) (q := (some (cI L ⟨(dX (nd ns i)), 2⟩))) (by kernel_rfl) (by kernel_rfl) (fun _ => by kernel_rfl) (fun _ => by kernel_rfl) dr Tryz.underlying80 (fun _ => by kernel_rfl) (gG hiw) (by rw [dJ, Cx]; rfl) (by kernel_rfl) ?_
   refine aF.reads (r := 1) (l := [16, 17]) (fr' := ([(6, vP b7), (11, vP b16)] ++ Me A ns c i Y j ++ [(143, vP (L.b (dX (nd ns i)))), (145, .string (en (nd ns i).ah j).name), (149, .map (some m3)), (151, vI ((en (nd ns i).ah j).id))])) (aV := [b17 = b17, b7 = b7, b17 = b17]) [7, 8, 9, 10, 11, 12, 13, 14, 15] [o_, o_, ⟨[.at 3], none, none, none, none⟩, o_, o_, o_, ⟨[.at 0], none, none, none, none⟩, o_, ⟨[.at 3], none, none, none, none⟩] [6, 11, 123, 124, 125, 130, 131, 132, 143, 145, 149, 151] (fun _ => by kernel_rfl) ⟨rfl, rfl, rfl, trivial⟩ rfl rfl ?_
   refine aF.dI 1 (d := (some 152)) (t := 80) (K := 3) (E := 84) (b := m3) (cnt := S2.idx.length) (f := (aM (aJ L S2.idx))) (x := (.tmp 149)) (ix := (.tmp 151)) (key := .int .i64 ((en (nd ns i).ah j).id)) (z := .nilIface) (kl := (.int .i64 (ent ns i j).id)) (q := (some (cI L (jV ns (ent ns i j))))) (by kernel_rfl) (by kernel_rfl) (fun _ => by kernel_rfl) (fun _ => by kernel_rfl) dr Tryz.underlying80 (fun _ => by kernel_rfl) (gG Px) (by rw [dJ, hge]; rfl) (by kernel_rfl) ?_
   refine aF.last rfl rfl ?_
   refine gL [5, 7] (DG S2.O L (dX (nd ns i)) hkd (ent ns i j).name hsz hno (by omega) (jV ns (ent ns i j)) hkt h3 (by omega)) ?_
   rintro _ _ ⟨rfl, rfl⟩
   refine NL (ai.np (NX (af.region ?_)))
   refine gC 8 [] [(3, a_ 4 b7), (4, p_ ⟨[], none, none, none, some (vI (S2.X.ah + 1))⟩ [(Value.int .i64 (IntKind.wrap .i64 (S2.X.ah + 1))) = (.int .i64 (S2.X.ah + 1))] ⟨bI (by omega) (by omega) (by omega), trivial⟩), (7, a_ 4 b7)] [(4, [(8, vI (S2.X.ah + 1))])] ?_
   refine NL (ai.aQ (NX (af.region ?_)))
   refine gK 2 [(132, vI ↑(j + 1))] [(0, p_ ⟨[], none, none, none, some (vI ↑(j + 1))⟩ [(Value.int .i64 (IntKind.wrap .i64 (((j : Nat) : Int) + 1))) = (.int .i64 ↑(j + 1))] ⟨bI (by omega) (by omega) (by omega), trivial⟩)] ?_
   refine NL ?_
   refine ai.mem (aR := [.abs (ak (aN ((ji ns S2 (nd ns i) (ent ns i j)).O) L)), .abs (ak (bg ((ji ns S2 (nd ns i) (ent ns i j)).O) L)), .blk b16 [vI ((nd ns i).id), vI ((nd ns i).kind), vI ((nd ns i).mode), vI ((nd ns i).uid), vI ((nd ns i).gid), vI ((nd ns i).sec), vI ((nd ns i).nano), .slice (Y.dA i) ((nd ns i).data.length) ((Y.dC i)), .string (nd ns i).target, .slice (Y.eA i) ((nd ns i).ah.length) ((Y.eC i))] 70, .blk b1 [.slice A (ns.length) (c)] 24, .blk b7 [vI ((ji ns S2 (nd ns i) (ent ns i j)).X.cN), vI ((ji ns S2 (nd ns i) (ent ns i j)).X.cB), vI ((ji ns S2 (nd ns i) (ent ns i j)).X.cH), vI ((ji ns S2 (nd ns i) (ent ns i j)).X.cS), vI ((ji ns S2 (nd ns i) (ent ns i j)).X.cZ), .map (some m3), vP t4, vI ((ji ns S2 (nd ns i) (ent ns i j)).X.last), vI ((ji ns S2 (nd ns i) (ent ns i j)).X.ah), vI ((ji ns S2 (nd ns i) (ent ns i j)).X.used)] 86, .abs (aI Tryz.prog 3 m3 (aM (aJ L (ji ns S2 (nd ns i) (ent ns i j)).idx)) ((ji ns S2 (nd ns i) (ent ns i j)).idx.length)), .abs (bp 156 t4 (ji ns S2 (nd ns i) (ent ns i j)).X.cH (ji ns S2 (nd ns i) (ent ns i j)).au (aJ L (ji ns S2 (nd ns i) (ent ns i j)).us)), .abs (ak (aY ((ji ns S2 (nd ns i) (ent ns i j)).O) L)), .abs R, .blk b17 [.string (en (nd ns i).ah j).name, vI ((en (nd ns i).ah j).id)] 101]) (fun w hS => by rw [show aY (ji ns S2 (nd ns i) (ent ns i j)).O L = aY S2.O L from Kr]; exact hS) ?_
   exact ai.turn ((j + 1), (ji ns S2 (nd ns i) (ent ns i j))) (idx := [6, 11, 123, 124, 125, 130, 131, 132]) (pk := [2, 3, 4, 5, 6, 0, 7, 1, 8]) (show (((j + 1)) ≤ (nd ns i).ah.length) ∧ (dZ X ns i ((j + 1)) ((ji ns S2 (nd ns i) (ent ns i j)))) from ⟨by omega, nG.step hok (by omega) (by omega)⟩) (by show (nd ns i).ah.length - ((j + 1)) < (nd ns i).ah.length - j; omega) (fun _ => by kernel_rfl) rfl (by kernel_rfl)
  refine af.exit (ai.aW (ai.aW (ai.ck (ai.aQ (NX (af.region ?_))))))
  refine gK 2 [(125, vI ↑(i + 1))] [(0, p_ ⟨[], none, none, none, some (vI ↑(i + 1))⟩ [(Value.int .i64 (IntKind.wrap .i64 (((i : Nat) : Int) + 1))) = (.int .i64 ↑(i + 1))] ⟨bI (by omega) (by omega) (by omega), trivial⟩)] ?_
  refine NL ?_
  exact ai.turn ((i + 1), S2) (idx := [6, 123, 124, 125]) (pk := [1, 2, 3, 4, 5, 6, 7, 8]) (show (((i + 1)) ≤ ns.length) ∧ (dZ X ns ((i + 1)) 0 S2) from ⟨by omega, by have h := nG; rw [show j = (nd ns i).ah.length by omega] at h; exact h.next⟩) (by show ns.length - ((i + 1)) < ns.length - i; omega) (fun _ => by kernel_rfl) rfl (by kernel_rfl)
 refine af.exit (ai.aW (ai.aW (ai.ck (NX (SR ?_)))))
 refine gK 3 [(4, vP b7), (5, vI 0)] [] ?_
 refine NN (af.ret ?_)
 exact RT (.tuple #[vP b7, vI 0]) [1, 2, 3, 4, 5, 6, 7] (.inr (.inr ⟨hcap, hok, S1, b7, m3, t4, L, by have h := hE; rw [show i = ns.length by omega] at h; exact h, rfl, rfl⟩))
end
section
open Go.RowKit Go.Maps HeapM TabM
theorem CJ {b : UInt8} (h0 : ¬ b = 0) (h1 : ¬ b = 47) (h2 : ¬ b = 46) : bw ⟨#[b]⟩ := by
  refine ⟨Nat.le_refl _, (by show 1 ≤ 255; decide), fun e => h2 ?_, fun e => ?_, fun j hj => ?_⟩
  ·injection e with e
   have e : [b] = [46] := congrArg Array.toList e
   injection e
  ·injection e with e
   have e : [b] = [46, 46] := congrArg Array.toList e
   injection e with _ e
   cases e
  have : j = 0 := by have hj : j < 1 := hj; omega
  subst this
  show ¬ b.toNat = 0 ∧ ¬ b.toNat = 47
  exact ⟨fun e => h0 (UInt8.toNat_inj.1 e), fun e => h1 (UInt8.toNat_inj.1 e)⟩
theorem uD : cQ 0 0 := ⟨by decide, by decide, by decide, by decide, by decide⟩
def EX : aK := ⟨1, 2, 493, 0, 0, 0, 0, [], ⟨#[]⟩, [⟨⟨#[102]⟩, 2⟩]⟩
def Ng : aK := ⟨2, 1, 420, 0, 0, 0, 0, [], ⟨#[]⟩, []⟩
def nk : List aK := [EX, Ng]
def IY (room : Int) : FM := ⟨9, room, 9, 0, 0, 0, 0, 0⟩
theorem sE {i : Nat} (h : i < nk.length) : i = 0 ∨ i = 1 := by
  have h : i < 2 := h
  omega
theorem Mh : bV nk := by
  refine ⟨by decide, fun i hi => ?_, fun i hi => ?_, fun i j hij hj => ?_, by decide, fun i hi j hj => ?_, by decide, fun z => ?_⟩
  ·rcases sE hi with rfl | rfl
   ·exact ⟨by decide, by decide, by decide, by decide, uD, fun _ => rfl, fun h => absurd rfl h, .inl ⟨by decide, rfl⟩⟩
   exact ⟨by decide, by decide, by decide, by decide, uD, fun h => absurd rfl h, fun _ => rfl, .inl ⟨by decide, rfl⟩⟩
  ·rcases sE hi with rfl | rfl <;> exact ⟨by decide, by decide⟩
  ·rcases sE hj with rfl | rfl
   ·omega
   have : i = 0 := by omega
   subst this; decide
  ·rcases sE hi with rfl | rfl
   ·have hj : j < 1 := hj
    have : j = 0 := by omega
    subst this
    exact ⟨by decide, CJ (by decide) (by decide) (by decide), by show ¬ iK ⟨#[102]⟩ ⟨#[]⟩; unfold iK; decide +kernel⟩
   exact absurd hj (Nat.not_lt_zero j)
  have e : (dU nk nk.length).map (gA nk) = [] := by decide
  rw [e]
  exact ⟨0, rfl⟩
theorem Mi {β : Bs} {B : Option Addr} {e : Nat} (hR : fQ β B (cg ⟨fun _ => none, fun i => if i = 0 then some ⟨e, 0, none⟩ else none, fun _ => 0, fun i => if i = 0 then 1 else 0⟩ nk)) (h1 : cK β (some ⟨e, 0, none⟩) EX.ah) : aB β B nk ⟨fun _ => none, fun i => if i = 0 then some ⟨e, 0, none⟩ else none, fun _ => 0, fun i => if i = 0 then 1 else 0⟩ := by
  have hn : ∀ {A : Option Addr}, fQ β A [] := fun j v hj => by simp at hj
  refine ⟨hR, fun i hi => ?_, fun i hi => ?_⟩
  ·rcases sE hi with rfl | rfl <;> exact hn
  rcases sE hi with rfl | rfl
  ·exact h1
  exact hn
theorem Kt {room : Int} (h : 0 ≤ room ∧ room ≤ 1099511627776) : oQ (IY room) := ⟨by show (0 : Int) ≤ 9 ∧ (9 : Int) ≤ 4096; decide, h, by show (0 : Int) ≤ 9 ∧ (9 : Int) ≤ 1024; decide, uD⟩
section ops
variable {S : aG} {c : aU} {t : Th} {d : Nat}
theorem CK {O : bM} {us : Used Th} {h : Int} {name : ByteArray} {need : Int} (h1 : TabM.get us h = some t) (h2 : t.kind = 2) (h3 : (obj O t.k).gone = false) (h4 : bw name) (h5 : bits BinOp.and .i64 (obj O t.k).mode need = need) : cF O us h name need = .ok t.k := by
  unfold cF
  rw [h1]
  simp only
  rw [if_pos h2, if_neg (by rw [h3]; decide), if_pos h4, if_pos h5]
theorem Ku (hop : c.op = 1) (h1 : TabM.get S.idx c.other = some t) (h2 : t.kind = 2) (h3 : (S.us.length : Int) < S.X.cH) : doM S c = ({ S with O := ay S.O t.k (fun o => { o with opens := o.opens + 1 }), us := ins (least S.us) t S.us, au := max S.au ((S.us.length : Int) + 1) }, { c with answer := least S.us, code := 0 }) := by
  unfold doM
  rw [xD (by exact hop)]
  unfold iy
  simp only
  rw [h1]
  simp only
  rw [if_pos h2, gX h3]
theorem EY (hop : c.op = 2) (ha : cF S.O S.us c.handle c.name 64 = .ok d) (hl : aS c.name (obj S.O d).ah = some t) (h2 : t.kind = 2) (h3 : (S.us.length : Int) < S.X.cH) : doM S c = ({ S with O := ay S.O t.k (fun o => { o with opens := o.opens + 1 }), us := ins (least S.us) t S.us, au := max S.au ((S.us.length : Int) + 1) }, { c with answer := least S.us, code := 0 }) := by
  unfold doM
  rw [uS (by exact hop)]
  unfold dN ez
  simp only
  rw [ha]
  simp only
  rw [hl]
  simp only
  rw [if_neg (by omega), if_neg (by omega), gX h3]
theorem IZ (hop : c.op = 4) (ha : cF S.O S.us c.handle c.name 192 = .ok d) (hm : kL c.mode) (hl : aS c.name (obj S.O d).ah = none) (hr : Room S.X S.idx) : doM S c = (bE S d c.name (aC S.X 2 c.mode), { c with answer := 0, code := 0 }) := by
  unfold doM
  rw [uT (by exact hop)]
  unfold eE
  simp only
  rw [ha]
  simp only
  rw [if_pos hm]
  unfold mkdirM bO
  rw [if_pos hl, if_pos hr, if_pos rfl]
end ops
structure EZ (room : Int) (S : aG) : Prop where
  inv : Inv S
  idx : S.idx = [(1, ⟨1, 2⟩), (2, ⟨2, 1⟩)]
  us : S.us = []
  X : S.X = ⟨9, room, 9, 0, 0, 2, 1, 0⟩
  o1 : ∃ l u, obj S.O 1 = ⟨1, 493, 0, 0, 0, 0, l, 0, false, 2, [], ⟨#[]⟩, [(⟨#[102]⟩, ⟨2, 1⟩)], u⟩
  o2 : ∃ u, obj S.O 2 = ⟨2, 420, 0, 0, 0, 0, 1, 0, false, 1, [], ⟨#[]⟩, [], u⟩
theorem Kv {room : Int} {S : aG} (h : dZ (IY room) nk nk.length 0 S) : EZ room S := by
  have hi : S.idx = [(1, ⟨1, 2⟩), (2, ⟨2, 1⟩)] := h.idx
  have Mj : Inv S := h.full
  obtain ⟨l1, u1, h1⟩ := h.ob 0 (by decide)
  obtain ⟨l2, u2, h2⟩ := h.ob 1 (by decide)
  have h1 : obj S.O 1 = ⟨1, 493, 0, 0, 0, 0, l1, 0, false, 2, [], ⟨#[]⟩, [(⟨#[102]⟩, ⟨2, 1⟩)], u1⟩ := h1
  have h2 : obj S.O 2 = ⟨2, 420, 0, 0, 0, 0, l2, 0, false, 1, [], ⟨#[]⟩, [], u2⟩ := h2
  have hl := Mj.links ⟨2, 1⟩ (by rw [hi]; rfl)
  have hl2 : l2 = 1 := by
    rw [hi] at hl
    have e : fU [(1, ⟨1, 2⟩), (2, ⟨2, 1⟩)] S.O 2 = 1 := by
      show (obj S.O 1).ah.countP _ + ((obj S.O 2).ah.countP _ + 0) = 1
      rw [h1, h2]; rfl
    simp only at hl
    rw [e, h2] at hl
    exact hl
  subst hl2
  exact ⟨Mj, hi, h.us, h.cap, ⟨l1, u1, h1⟩, ⟨u2, h2⟩⟩
theorem GP : bw ⟨#[100]⟩ := CJ (by decide) (by decide) (by decide)
def sF : aU := ⟨1, 0, 1, ⟨#[]⟩, ⟨#[]⟩, none, 0, [], 0, 0, 0, 0, 0, 0, 0⟩
def rF : aU := ⟨4, 1, 0, ⟨#[100]⟩, ⟨#[]⟩, none, 0, [], 448, 0, 0, 0, 0, 0, 0⟩
def yc : aU := ⟨2, 1, 0, ⟨#[100]⟩, ⟨#[]⟩, none, 0, [], 0, 0, 0, 0, 0, 0, 0⟩
theorem Mk : bits BinOp.and .i64 493 192 = 192 := by kernel_rfl
theorem Ml : bits BinOp.and .i64 493 64 = 64 := by kernel_rfl
section chain
variable {room : Int} {S : aG}
def S1 (S : aG) : aG := { S with O := ay S.O 1 (fun o => { o with opens := o.opens + 1 }), us := [(1, ⟨1, 2⟩)], au := max S.au 1 }
theorem OO : obj (S1 S).O 1 = { obj S.O 1 with opens := (obj S.O 1).opens + 1 } := rfl
theorem CM (h : EZ room S) : doM S sF = (S1 S, { sF with answer := 1, code := 0 }) := by
  rw [Ku (S := S) (c := sF) (t := ⟨1, 2⟩) rfl (by rw [h.idx]; rfl) rfl (by rw [h.us, h.X]; show (0 : Int) < 9; decide), h.us]
  rfl
theorem Mn {X : FM} {O : bM} {o : aP} : obj (br X (ay O 3 (fun _ => o)) 1 ⟨#[100]⟩ ⟨3, 2⟩) 1 = { obj O 1 with ah := eF ⟨#[100]⟩ ⟨3, 2⟩ (obj O 1).ah, sec := X.cS, nano := X.cZ } := rfl
theorem Mp (h : EZ room S) : ∃ S2, doM (S1 S) rF = (S2, { rF with answer := 0, code := 0 }) ∧ S2.us = [(1, ⟨1, 2⟩)] ∧ S2.idx.length = 3 ∧ S2.X.cH = 9 ∧ cF S2.O S2.us 1 ⟨#[100]⟩ 64 = .ok 1 ∧ aS ⟨#[100]⟩ (obj S2.O 1).ah = some ⟨3, 2⟩ := by
  obtain ⟨l, u, h1⟩ := h.o1
  have e1 : obj (S1 S).O 1 = ⟨1, 493, 0, 0, 0, 0, l, 1, false, 2, [], ⟨#[]⟩, [(⟨#[102]⟩, ⟨2, 1⟩)], u⟩ := by
    rw [OO, h1]; rfl
  have hX : (S1 S).X = ⟨9, room, 9, 0, 0, 2, 1, 0⟩ := h.X
  have hi : (S1 S).idx = [(1, ⟨1, 2⟩), (2, ⟨2, 1⟩)] := h.idx
  have ha : cF (S1 S).O (S1 S).us 1 ⟨#[100]⟩ 192 = .ok 1 := CK (t := ⟨1, 2⟩) rfl rfl (by rw [e1]) GP (by rw [e1]; exact Mk)
  have hn : aD (S1 S).X = 3 := by rw [hX]; rfl
  have e2 : obj (bE (S1 S) 1 rF.name (aC (S1 S).X 2 rF.mode)).O 1 = ⟨1, 493, 0, 0, 0, 0, l, 1, false, 2, [], ⟨#[]⟩, [(⟨#[100]⟩, ⟨3, 2⟩), (⟨#[102]⟩, ⟨2, 1⟩)], u⟩ := by
    show obj (br (S1 S).X (ay (S1 S).O (aD (S1 S).X) (fun _ => _)) 1 ⟨#[100]⟩ ⟨aD (S1 S).X, 2⟩) 1 = _
    rw [hn, Mn, e1, hX]
    simp only [eF]
    rw [if_pos (by unfold iK; decide +kernel)]
  refine ⟨_, IZ (c := rF) rfl ha ⟨by decide, by decide⟩ (by rw [e1]; rfl) ⟨by rw [hX, hi]; show (2 : Int) < 9; decide, by rw [hX]; show (2 : Int) < 1099511627776; decide, by rw [hX]; show (1 : Int) < 8192; decide⟩, rfl, ?_, by show (S1 S).X.cH = 9; rw [hX], ?_, ?_⟩
  ·show (ins _ _ (S1 S).idx).length = 3
   rw [hX, hi]; rfl
  ·exact CK (t := ⟨1, 2⟩) rfl rfl (by rw [e2]) GP (by rw [e2]; exact Ml)
  rw [e2]; rfl
theorem Mq {S2 : aG} (h1 : S2.us = [(1, ⟨1, 2⟩)]) (h2 : S2.X.cH = 9) (h3 : cF S2.O S2.us 1 ⟨#[100]⟩ 64 = .ok 1) (h4 : aS ⟨#[100]⟩ (obj S2.O 1).ah = some ⟨3, 2⟩) : ∃ S3, doM S2 yc = (S3, { yc with answer := 2, code := 0 }) ∧ S3.idx = S2.idx := by
  have h := EY (S := S2) (c := yc) rfl h3 h4 rfl (by rw [h1, h2]; show (1 : Int) < 9; decide)
  have e : least S2.us = 2 := by rw [h1]; rfl
  rw [e] at h
  exact ⟨_, h, rfl⟩
structure QC (room : Int) (ds : List UInt8) (S : aG) : Prop where
  inv : Inv S
  idx : S.idx = [(1, ⟨1, 2⟩), (2, ⟨2, 1⟩)]
  us : S.us = [(1, ⟨1, 2⟩), (2, ⟨2, 1⟩)]
  X : S.X = ⟨9, room, 9, 0, 0, 2, 1, ds.length⟩
  o1 : ∃ l n u, obj S.O 1 = ⟨1, 493, 0, 0, 0, 0, l, n, false, 2, [], ⟨#[]⟩, [(⟨#[102]⟩, ⟨2, 1⟩)], u⟩
  o2 : ∃ u, obj S.O 2 = ⟨2, 420, 0, 0, 0, 0, 1, 1, false, 1, ds, ⟨#[]⟩, [], u⟩
structure QD (ds : List UInt8) (S : aG) : Prop where
  inv : Inv S
  idx : S.idx = [(1, ⟨1, 2⟩), (2, ⟨2, 1⟩)]
  us : S.us = [(1, ⟨1, 2⟩), (2, ⟨2, 1⟩)]
  used : S.X.used = ds.length
  o2 : ∃ s z u, obj S.O 2 = ⟨2, 420, 0, 0, s, z, 0, 1, true, 1, ds, ⟨#[]⟩, [], u⟩
end chain
end
section
open Go.RowKit Go.Maps HeapM TabM
attribute [local irreducible] aj aT af ai
theorem ye {β : Bs} (A : Option Addr) (c : Nat) (d : List UInt8) (hA : bJ β A d) (hl : d.length ≤ 1048576) :
    Spec Tryz.prog β 39 #[.slice A d.length c] [] (fun v l => ∃ B cap, v = .slice B d.length cap ∧ l = [.abs (aH 5 1 B d.length cap (bL d))]) := by
 refine Spec.enter Tryz.func39 rfl Tryz.ntmps39 (Nat.le_of_ble_eq_true rfl) (fun R => ?_)
 refine SR ?_
 refine gK 1 [] [] ?_
 refine NS ?_
 refine gN 2 (fun b1 => [(3, .slice (some ⟨b1, 0, none⟩) (0) (0))]) (fun _ => []) (fun _ => []) (fun b1 => .blk b1 [] 5) (fun b1 => ?_)
 refine NS ?_
 refine aj.mem (fun w hS => hS.rJ (i := 1) (b := b1) (cs := []) (e := 5) 1 0 (by kernel_rfl) rfl (by decide)) ?_
 refine gK 2 [(5, .slice (some ⟨b1, 0, none⟩) (0) (0)), (6, .slice A (d.length) (c))] [] ?_
 refine aj.append 1 (d := (some 7)) (t := 41) (e := 5) (z := .int .u8 0) (size := 1) (bytes := 1) (n := 0) (cap := 0) (A := some ⟨b1, 0, none⟩) (xs := []) (s := (.tmp 5)) (x := (.tmp 6)) (ats := #[41, 41]) (A' := A) (m := d.length) (c' := c) (news := (bL d)) (fun _ => by kernel_rfl) rfl (by kernel_rfl) (fun _ => by kernel_rfl) (fun _ => by kernel_rfl) Tryz.underlying41 (by kernel_rfl) rfl (by decide) (by rw [oF, Nat.mul_one]) (kU d) (hA.src) (by unfold maxLen; omega) (by omega) (fun A2 c3 => ?_)
 refine aj.eO 1 (p := .abs (aH 5 1 A2 (0 + d.length) c3 ([] ++ (bL d)))) (p' := .abs (aH 5 1 A2 d.length c3 (bL d))) (by kernel_rfl) (by rw [Nat.zero_add, List.nil_append]) ?_
 refine aj.slot 7 (.slice A2 (0 + d.length) (c3)) (.slice A2 (d.length) (c3)) (fun _ => by kernel_rfl) (by rw [Nat.zero_add]) ?_
 refine gK 1 [(3, .slice A2 (d.length) (c3))] [] ?_
 refine NS ?_
 refine gK 2 [(2, .slice A2 (d.length) (c3))] [] ?_
 refine NN (af.ret ?_)
 exact RT (.slice A2 (d.length) (c3)) [1, 0] (⟨A2, c3, rfl, rfl⟩)
theorem GQ {β : Bs} : d9 Tryz.prog β 31 #[] [] (fun β' v l => ∃ B Y, v = .agg #[.slice B 2 2, vI 9, vI 99, vI 9, vI 0, vI 0] ∧ l = [] ∧ aB β' B nk Y) := by
 refine d9.enter Tryz.func31 rfl Tryz.ntmps31 (Nat.le_of_ble_eq_true rfl) (fun hle0 R => ?_)
 refine SR ?_
 refine gN 1 (fun b4 => [(0, vP b4)]) (fun _ => []) (fun _ => []) (fun b4 => .blk b4 [.slice none (0) (0), vI 0, vI 0, vI 0, vI 0, vI 0] 30) (fun b4 => ?_)
 refine NS ?_
 refine gN 4 (fun b5 => [(4, .agg #[vI 1, vI 2, vI 493, vI 0, vI 0, vI 0, vI 0, .slice none (0) (0), .string ⟨#[]⟩, .slice (some ⟨b5, 0, none⟩) (1) (1)]), (5, .agg #[vI 2, vI 1, vI 420, vI 0, vI 0, vI 0, vI 0, .slice none (0) (0), .string ⟨#[]⟩, .slice none (0) (0)])]) (fun _ => []) (fun _ => []) (fun b5 => .blk b5 [.string ⟨#[102]⟩, vI 2] 101) (fun b5 => ?_)
 refine gN 2 (fun b6 => [(7, .agg #[.slice (some ⟨b6, 0, none⟩) (2) (2)])]) (fun _ => []) (fun _ => []) (fun b6 => .blk b6 [vI 1, vI 2, vI 493, vI 0, vI 0, vI 0, vI 0, .slice none (0) (0), .string ⟨#[]⟩, .slice (some ⟨b5, 0, none⟩) (1) (1), vI 2, vI 1, vI 420, vI 0, vI 0, vI 0, vI 0, .slice none (0) (0), .string ⟨#[]⟩, .slice none (0) (0)] 70) (fun b6 => ?_)
 refine gN 2 (fun b7 => [(1, vP b7)]) (fun b7 => [(1, a_ 4 b7)]) (fun _ => []) (fun b7 => .blk b7 [.slice (some ⟨b6, 0, none⟩) (2) (2)] 24) (fun b7 => ?_)
 refine NS ?_
 refine aj.mem (fun w hS => hS.rJ (i := 2) (b := b5) (cs := [.string ⟨#[102]⟩, vI 2]) (e := 101) 2 1 (by kernel_rfl) rfl (by decide)) ?_
 refine aj.o6 (Φ := fun β' => cK β' (some ⟨b5, 0, none⟩) EX.ah) 2 [0, 1, 3, 4] (aR := [.abs R, .blk b4 [.slice none (0) (0), vI 0, vI 0, vI 0, vI 0, vI 0] 30, .blk b6 [vI 1, vI 2, vI 493, vI 0, vI 0, vI 0, vI 0, .slice none (0) (0), .string ⟨#[]⟩, .slice (some ⟨b5, 0, none⟩) (1) (1), vI 2, vI 1, vI 420, vI 0, vI 0, vI 0, vI 0, .slice none (0) (0), .string ⟨#[]⟩, .slice none (0) (0)] 70, .blk b7 [.slice (some ⟨b6, 0, none⟩) (2) (2)] 24]) rfl rfl (by kernel_rfl) (fun F w h β' h1 h2 => fQ.lW h h1 h2) (fun QE Kw hE => ?_)
 replace hle0 := hle0.trans Kw
 refine aj.mem (fun w hS => hS.rJ (i := 2) (b := b6) (cs := [vI 1, vI 2, vI 493, vI 0, vI 0, vI 0, vI 0, .slice none (0) (0), .string ⟨#[]⟩, .slice (some ⟨b5, 0, none⟩) (1) (1), vI 2, vI 1, vI 420, vI 0, vI 0, vI 0, vI 0, .slice none (0) (0), .string ⟨#[]⟩, .slice none (0) (0)]) (e := 70) 10 2 (by kernel_rfl) rfl (by decide)) ?_
 refine aj.o6 (Φ := fun β' => fQ β' (some ⟨b6, 0, none⟩) (cg ⟨fun _ => none, fun i => if i = 0 then some ⟨b5, 0, none⟩ else none, fun _ => 0, fun i => if i = 0 then 1 else 0⟩ nk)) 2 [0, 1, 3] (aR := [.abs R, .blk b4 [.slice none (0) (0), vI 0, vI 0, vI 0, vI 0, vI 0] 30, .blk b7 [.slice (some ⟨b6, 0, none⟩) (2) (2)] 24]) rfl rfl (by kernel_rfl) (fun F w h β' h1 h2 => fQ.lW h h1 h2) (fun Ap jK hR => ?_)
 replace hE := hE.le jK
 replace hle0 := hle0.trans jK
 refine gC 4 [] [(0, a_ 2 b7), (3, A_ 1 b4 6)] [(1, [(0, .slice (some ⟨b6, 0, none⟩) (2) (2)), (1, vI 9), (2, vI 99), (3, vI 9)])] ?_
 refine NN (af.ret ?_)
 exact ai.s5 (v := .agg #[.slice (some ⟨b6, 0, none⟩) (2) (2), vI 9, vI 99, vI 9, vI 0, vI 0]) (l := []) (aV := [b4 = b4, b4 = b4, b4 = b4, b4 = b4, b4 = b4, b4 = b4]) [.at 1, .at 1, .at 1, .at 1, .at 1, .at 1] [0] hle0 (fun _ => by kernel_rfl) ⟨rfl, rfl, rfl, rfl, rfl, rfl, trivial⟩ rfl (by kernel_rfl) (⟨_, _, rfl, rfl, Mi hR hE⟩)
end
section
open Go.RowKit Go.WideShapes Go.ChangeShapes Go.ChangeAt Go.Deep
theorem laidOut : laidOutB Tryz.prog = true := by kernel_rfl
theorem own : ownKnob Tryz.prog.godebug = none := by kernel_rfl
section row
variable {H : Type} {enc : TypeId × Value → H} {P : Program}
theorem sW (hl : laidOutB P = true) {W W' : World} (hb : Below W.heap.size W W') {sp : Nat → Bool} : ∀ {ts : List TypeId} {vs : List Value} {ds : List (DataW H)} {ps : List MemPlace},
    (∀ t ∈ ts, P.readableRec t = true ∧ t < P.types.size) → DataW.TrodAll enc P W 0 (fun _ => true) true ts vs ds ps → (∀ x ∈ ps, x.block < W.heap.size) → (∀ x ∈ ps, sp x.block = true) → DataW.TrodAll enc P W' 0 sp true ts vs ds ps
  | [], vs, ds, ps, _, h, _, _ => by
    obtain ⟨rfl, rfl, rfl⟩ := trodAll_nil h
    exact trodAll_mk0
  | t :: ts, vs, ds, ps, hr, h, hlt, hsp => by
    obtain ⟨v, vs', d, ds', p, q, rfl, rfl, rfl, h1, h2⟩ := trodAll_cons h
    have h3 := hr t List.mem_cons_self
    exact trodAll_cons_mk (WideElems.Trod_stays hl h3.1 h3.2 h1 (fun x hx => hb.same (hlt x (List.mem_append.2 (.inl hx)))) (fun x hx => hsp x (List.mem_append.2 (.inl hx))))
      (sW hl hb (fun t ht => hr t (List.mem_cons_of_mem _ ht)) h2 (fun x hx => hlt x (List.mem_append.2 (.inr hx))) (fun x hx => hsp x (List.mem_append.2 (.inr hx))))
def OQ (P : Program) (f : Func) : Bool := f.params.toList.all fun t => P.readableRec t && decide (t < P.types.size)
theorem law_post (hl : laidOutB P = true) {f : Func} {s : ChangeSpec} {apart fresh handsOn again : Bool} {W W' : World} {args : Array Value} {ds gs : List (DataW H)} {before : List MemPlace} {tb : TypeId} {rb : Bool}
    (hW : DataW.Whole enc P f.params.toList s.vars apart W args.toList ds gs before) (hvars : s.vars = []) (hrow : OQ P f = true) (hres : f.resultTypes = #[tb]) (hb0 : P.underlying tb = some .bool)
    (hfn : (s.fn H (ds ++ gs)).results = [.lit (.bool rb)]) (hargs : (s.fn H (ds ++ gs)).args = ds) (hv : (s.fn H (ds ++ gs)).vars = []) (hb : Below W.heap.size W W') :
    s.post enc P f apart fresh handsOn again W args (.bool rb) W' := by
  have hW' := hW
  obtain ⟨p, q, hA, hV, rfl, _, _⟩ := hW
  rw [hvars] at hV
  obtain ⟨rfl, rfl⟩ := trodVars_none hV
  have hlt : ∀ x ∈ p, x.block < W.heap.size := fun x hx => hW'.lt x (List.mem_append.2 (.inl hx))
  have hr : ∀ t ∈ f.params.toList, P.readableRec t = true ∧ t < P.types.size := fun t ht => by
    have := List.all_eq_true.1 hrow t ht
    simpa using this
  refine Ar (pa := p) (pv := []) hW' (fun b sp hd => ?_) (fun sp hsp => ?_) (fun sp _ => ?_) (by simp) hb ?_
  ·rw [hfn, hres]
   exact trodAll_cons_mk (shut_bool hb0 _) trodAll_mk0
  ·rw [hargs]
   exact sW hl hb hr hA hlt (fun x hx => hsp x (List.mem_append.2 (.inl hx)))
  ·rw [hvars, hv]
   exact rfl
  exact ok_one hres rfl (okWide_bool_mk hb0 _)
end row
end
end Go.Proofs.YtkiedlmhocglhaaGreatDoor
