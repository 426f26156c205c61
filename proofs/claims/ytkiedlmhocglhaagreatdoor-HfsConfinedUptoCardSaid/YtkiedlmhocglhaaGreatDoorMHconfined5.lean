/-
  PROVED HERE: lemmas and contracts of functions (texts of this repo, joined; what the claim does not use is left out): H11, HA, HB, GEnter, GR, GRead, GP, GOk, Nw, H12, Lw, LA, Row.
  CONDITIONS: as the theorems say.
-/
import Derived.Test.YtkiedlmhocglhaaGreatDoorMHconfined4
import Derived.Test.YtkiedlmhocglhaaGreatDoorRows
import Derived.ProofKit
import Derived.OpenShut
import Derived.Carry
import Derived.Deep.Slices
set_option maxRecDepth 100000
set_option maxHeartbeats 4000000
namespace Go.Proofs.YtkiedlmhocglhaaGreatDoor
section
open Go.RowKit Go.Maps HeapM TabM
attribute [local irreducible] aj aR af ai
abbrev KG := (.abs (aI 5 1 none 0 0 ([])) : HP)
abbrev Ey (B) (d : List UInt8) (cap) := (.abs (aI 5 1 B d.length cap (bL d)) : HP)
abbrev KH (A7 : Option Addr) (S : aG) (c8 : Nat) := (.abs (aI 3 1 A7 ((keys S.idx).length) c8 (ints (keys S.idx))) : HP)
abbrev Ez (b4 : Nat) := (.blk b4 [.slice none (0) (0)] 24 : HP)
abbrev MW (b5 : Nat) (An : Option Addr) (i : Nat) (cn : Nat) := (.blk b5 [.slice An (i) (cn)] 24 : HP)
abbrev MX (An : Option Addr) (i : Nat) (cn : Nat) (K) (S : aG) := (.abs (aI 70 10 An i cn (cr K ((ax S).take i))) : HP)
abbrev v8 (S : aG) (i : Nat) (K) := (.abs (fw (iT ((ax S).take i) K) i) : HP)
abbrev Dg (S : aG) (i : Nat) (K) := (.abs (fw (ig ((ax S).take i) K) i) : HP)
abbrev lF (b10 : Nat) := (.blk b10 [vI 0, vI 0, vI 0, vI 0, vI 0, vI 0, vI 0, .slice none (0) (0), .string ⟨#[]⟩, .slice none (0) (0)] 70 : HP)
abbrev MY (b9 : Nat) (S : aG) (i : Nat) (tk : Nat) := (.blk b9 [vI ((bS S i)), vI 1, vI ((obj S.O tk).mode), vI ((obj S.O tk).uid), vI ((obj S.O tk).gid), vI ((obj S.O tk).sec), vI ((obj S.O tk).nano), .slice none (0) (0), .string ⟨#[]⟩, .slice none (0) (0)] 70 : HP)
abbrev tf (b5 : Nat) (qW : Option Addr) (i : Nat) (c16 : Nat) := (.blk b5 [.slice qW ((i + 1)) (c16)] 24 : HP)
abbrev zZ (b9 : Nat) (S : aG) (i : Nat) (tk : Nat) (kq : Option Addr) (c13 : Nat) := (.blk b9 [vI ((bS S i)), vI 1, vI ((obj S.O tk).mode), vI ((obj S.O tk).uid), vI ((obj S.O tk).gid), vI ((obj S.O tk).sec), vI ((obj S.O tk).nano), .slice kq ((obj S.O tk).data.length) (c13), .string ⟨#[]⟩, .slice none (0) (0)] 70 : HP)
abbrev FK := (.abs (aI 101 2 none 0 0 ([])) : HP)
abbrev jk (S : aG) (L : HL) (tk : Nat) := (.abs (ak (iO (bh S.O L) tk bT.none)) : HP)
abbrev qw (L : HL) (tk : Nat) (S : aG) := (.abs (aE Tryz.prog 9 (L.m tk) (fX L (obj S.O tk).ah) ((obj S.O tk).ah.length)) : HP)
abbrev lZ (b17 : Nat) (S : aG) (i : Nat) (tk : Nat) (Ae : Option Addr) (j : Nat) (ce : Nat) := (.blk b17 [vI ((bS S i)), vI 2, vI ((obj S.O tk).mode), vI ((obj S.O tk).uid), vI ((obj S.O tk).gid), vI ((obj S.O tk).sec), vI ((obj S.O tk).nano), .slice none (0) (0), .string ⟨#[]⟩, .slice Ae (j) (ce)] 70 : HP)
abbrev FL (Ae : Option Addr) (j : Nat) (ce : Nat) (S : aG) (tk : Nat) := (.abs (aI 101 2 Ae j ce (fA (((obj S.O tk).ah.take j).map (iJ S.O)))) : HP)
abbrev rG (b20 : Nat) (L : HL) (tk : Nat) := (.blk b20 [.map (some (L.m tk))] 97 : HP)
abbrev rH (cV : Option Addr) (S : aG) (tk : Nat) (dN : Nat) := (.abs (aI 9 1 cV ((obj S.O tk).ah.length) dN (mZ (obj S.O tk).ah)) : HP)
abbrev Aa (oQ : Option Addr) (j : Nat) (oR : Nat) (S : aG) (tk : Nat) := (.abs (aI 101 2 oQ (j + 1) oR (fA (((obj S.O tk).ah.take (j + 1)).map (iJ S.O)))) : HP)
abbrev Ab (yS : Nat) (S : aG) (tk : Nat) (j : Nat) (ek : Nat) := (.blk yS [.string (dG (obj S.O tk).ah j), vI ((obj S.O ek).id)] 101 : HP)
abbrev FN (oU : Option Addr) (i : Nat) (oV : Nat) (K : Lay) (S : aG) := (.abs (aI 70 10 oU (i + 1) oV (cr (K.put i none 0 none 0) ((ax S).take (i + 1)))) : HP)
abbrev uR (ng : Nat) (S : aG) (i : Nat) (tk : Nat) := (.blk ng [vI ((bS S i)), vI 3, vI ((obj S.O tk).mode), vI ((obj S.O tk).uid), vI ((obj S.O tk).gid), vI ((obj S.O tk).sec), vI ((obj S.O tk).nano), .slice none (0) (0), .string (obj S.O tk).target, .slice none (0) (0)] 70 : HP)
abbrev jl (f : Nat) (b4 : Nat) (b5 : Nat) (b17 : Nat) (L : HL) (tk : Nat) (A7 : Option Addr) (S : aG) (c8 : Nat) (i : Nat) (cV : Option Addr) (dN : Nat) (j : Nat) := ([(0, vP f), (2, vP b4), (3, vP b5), (8, vP b17), (11, vP (L.b tk)), (19, .slice A7 ((keys S.idx).length) (c8)), (20, vI ↑((keys S.idx).length)), (21, vI ↑i), (79, .slice cV ((obj S.O tk).ah.length) (dN)), (80, vI ↑((obj S.O tk).ah.length)), (81, vI ↑j)] : Fr)
abbrev cQ (b5 : Nat) (An : Option Addr) (i : Nat) (cn : Nat) (K) (S : aG) (A7 : Option Addr) (c8 : Nat) (b4 : Nat) (f : Nat) (m : Nat) (t) (L : HL) := ([MW b5 An i cn, MX An i cn K S, v8 S i K, Dg S i K, KH A7 S c8, Ez b4, pF f m t S.X, pI m L S.idx, pO S.O L, pD S.O L] : List HP)
abbrev jm (S : aG) (tk : Nat) := ([(39, vI ((obj S.O tk).mode)), (43, vI ((obj S.O tk).uid)), (47, vI ((obj S.O tk).gid)), (51, .agg #[vI ((obj S.O tk).sec), vI ((obj S.O tk).nano)])] : Fr)
abbrev fY (f : Nat) (b4 : Nat) (b5 : Nat) := ([(0, vP f), (2, vP b4), (3, vP b5)] : Fr)
abbrev j9 (b10 : Nat) (A7 : Option Addr) (S : aG) (c8 : Nat) (i : Nat) := ([(8, vP b10), (19, .slice A7 ((keys S.idx).length) (c8)), (20, vI ↑((keys S.idx).length)), (21, vI ↑i), (33, vI ((bS S i)))] : Fr)
abbrev rI (A7 : Option Addr) (S : aG) (c8 : Nat) (i : Nat) := ([(19, .slice A7 ((keys S.idx).length) (c8)), (20, vI ↑((keys S.idx).length)), (21, vI ↑i)] : Fr)
abbrev ni (b17 : Nat) (S : aG) (i : Nat) (tk : Nat) (Ae : Option Addr) (j : Nat) (ce : Nat) (L : HL) (b20 : Nat) (cV : Option Addr) (dN : Nat) := ([lZ b17 S i tk Ae j ce, FL Ae j ce S tk, qw L tk S, rG b20 L tk, rH cV S tk dN] : List HP)
abbrev oK (Ae : Option Addr) (j : Nat) (ce : Nat) (S : aG) (tk : Nat) := ([(86, .slice Ae (j) (ce)), (87, .string (dG (obj S.O tk).ah j))] : Fr)
abbrev Ac (A7 : Option Addr) (S : aG) (c8 : Nat) (i : Nat) := ([(19, .slice A7 ((keys S.idx).length) (c8)), (20, vI ↑((keys S.idx).length)), (21, vI ↑i)] : Fr)
abbrev JG (S : aG) (tk : Nat) := ([(2, vI ((obj S.O tk).mode)), (3, vI ((obj S.O tk).uid)), (4, vI ((obj S.O tk).gid)), (5, vI ((obj S.O tk).sec)), (6, vI ((obj S.O tk).nano))] : Fr)
abbrev JH (S : aG) (tk : Nat) := ([(39, vI ((obj S.O tk).mode)), (43, vI ((obj S.O tk).uid)), (47, vI ((obj S.O tk).gid)), (51, .agg #[vI ((obj S.O tk).sec), vI ((obj S.O tk).nano)])] : Fr)
abbrev qx (A7 : Option Addr) (S : aG) (c8 : Nat) (b4 : Nat) (f : Nat) (m : Nat) (t) (L : HL) := ([KH A7 S c8, Ez b4, pF f m t S.X, pI m L S.idx, pO S.O L] : List HP)
theorem Ad {β : Bs} (c : Nat) : Spec Tryz.prog β 35 #[.slice none 0 c] [] (fun v l => ∃ B cap, v = .slice B 0 cap ∧ l = [.abs (aI 5 1 B 0 cap [])]) := by
 refine Spec.enter Tryz.func35 rfl Tryz.ntmps35 (Nat.le_of_ble_eq_true rfl) (fun R => ?_)
 refine SR ?_
 refine gK 1 [] [] ?_
 refine NN (af.seq (SR ?_))
 refine gK 2 [(4, .bool true)] [] ?_
 refine NN ?_
 refine CT ?_
 refine SR ?_
 refine gK 1 [(2, .slice none (0) (0))] [] ?_
 refine NN (af.ret (ai.aq ?_))
 refine ai.mem (fun w hS => (hS.jX (e := 5) (size := 1)).pick (idx := [1, 0]) (l' := [KG, .abs R]) rfl (by kernel_rfl)) ?_
 exact RT (.slice none (0) (0)) [0, 1] (⟨none, 0, rfl, rfl⟩)
theorem yT {β : Bs} (a : Addr) (c : Nat) (d : List UInt8) (hA : bH β (some a) d) (hl : d.length ≤ 140737488355328) : Spec Tryz.prog β 35 #[.slice (some a) d.length c] [] (fun v l => ∃ B cap, v = .slice B d.length cap ∧ l = [Ey B d cap]) := by
 refine Spec.enter Tryz.func35 rfl Tryz.ntmps35 (Nat.le_of_ble_eq_true rfl) (fun R => ?_)
 refine SR ?_
 refine gK 1 [] [] ?_
 refine NN (af.seq (SR ?_))
 refine gK 2 [(4, .bool false)] [] ?_
 refine NN ?_
 refine CF ?_
 refine af.skip (NX (SR ?_))
 refine gN 1 (fun b1 => [(5, .slice (some ⟨b1, 0, none⟩) (0) (0))]) (fun _ => []) (fun _ => []) (fun b1 => .blk b1 [] 5) (fun b1 => ?_)
 refine aj.mem (fun w hS => hS.sC (i := 1) (b := b1) (cs := []) (e := 5) 1 0 (by kernel_rfl) rfl (by decide)) ?_
 refine gK 1 [(6, .slice (some a) (d.length) (c))] [] ?_
 refine aj.append 1 (d := (some 7)) (t := 41) (e := 5) (z := .int .u8 0) (size := 1) (bytes := 1) (n := 0) (cap := 0) (A := some ⟨b1, 0, none⟩) (xs := []) (s := (.tmp 5)) (x := (.tmp 6)) (ats := #[41, 41]) (A' := (some a)) (m := d.length) (c' := c) (news := (bL d)) (fun _ => by kernel_rfl) rfl (by kernel_rfl) (fun _ => by kernel_rfl) (fun _ => by kernel_rfl) Tryz.underlying41 (by kernel_rfl) rfl (by decide) (by rw [o3, Nat.mul_one]) (lM d) (hA.src) (by unfold maxLen; omega) (by omega) (fun A2 c3 => ?_)
 refine aj.dH 1 (p := .abs (aI 5 1 A2 (0 + d.length) c3 ([] ++ (bL d)))) (p' := .abs (aI 5 1 A2 d.length c3 (bL d))) (by kernel_rfl) (by rw [Nat.zero_add, List.nil_append]) ?_
 refine aj.slot 7 (.slice A2 (0 + d.length) (c3)) (.slice A2 (d.length) (c3)) (fun _ => by kernel_rfl) (by rw [Nat.zero_add]) ?_
 refine gK 1 [(2, .slice A2 (d.length) (c3))] [] ?_
 refine NN (af.ret ?_)
 exact RT (.slice A2 (d.length) (c3)) [1, 0] (⟨A2, c3, rfl, rfl⟩)
theorem wg {β : Bs} (A : Option Addr) (c : Nat) (d : List UInt8) (hA : bH β A d) (hl : d.length ≤ 140737488355328) : Spec Tryz.prog β 35 #[.slice A d.length c] [] (fun v l => ∃ B cap, v = .slice B d.length cap ∧ l = [Ey B d cap]) := by
  cases A with
  | some a => exact yT a c d hA hl
  | none =>
    cases d with
    | nil => exact Ad c
    | cons b r => have h := bH.hd hA (j := 0) (by simp); cases h
theorem Dh {β : Bs} (A : Option Addr) (c : Nat) (d : List UInt8) (hl : d.length ≤ 140737488355328) : Spec Tryz.prog β 35 #[.slice A d.length c] [Ey A d c] (fun v l => ∃ B cap, v = .slice B d.length cap ∧ l = [Ey B d cap, Ey A d c]) :=
  (Spec.Cq (pre := []) (R := [Ey A d c]) (fun _ h => wg A c d h.bytes hl)).mono (by rintro v l ⟨l0, ⟨B, cap, rfl, rfl⟩, rfl⟩; exact ⟨B, cap, rfl, rfl⟩)
theorem Di {β : Bs} (L : HL) (b bk : Nat) (idx : Used Th) (hr : TabM.bP (keys idx)) (hn : idx.length ≤ 4096) :
    Spec Tryz.prog β 40 #[x3 bk] [pI b L idx, .blk bk [.map (some b)] 80] (fun v l => ∃ A cap, v = .slice A (keys idx).length cap ∧ l = [pI b L idx, .blk bk [.map (some b)] 80, .abs (aI 3 1 A (keys idx).length cap (ints (keys idx)))]) :=
  (EX b bk idx.length (aO (aK L idx)) (by omega)).mono (by
    rintro v l ⟨A, cap, ss, rfl, hk, _, rfl⟩
    have e := K8 (us := aK L idx) (by rw [wO]; exact hr) hk
    rw [wO] at e
    subst e
    exact ⟨A, cap, rfl, rfl⟩)
theorem HE {β : Bs} (S : aG) (L : HL) (f m t : Nat) (hI : Inv S) :
    Spec Tryz.prog β 15 #[vP f] [pF f m t S.X, pI m L S.idx, pO S.O L, pD S.O L, pE S.O L] (fun v l => ∃ A c K, v = .agg #[.slice A (ax S).length c] ∧ l = [pF f m t S.X, pI m L S.idx, pO S.O L, pD S.O L, pE S.O L] ++ MR A c (ax S) K) := by
 have hX := hI.hX
 have hkl : (keys S.idx).length = S.idx.length := wT _
 have hil := hI.len
 refine Spec.enter Tryz.func15 rfl Tryz.ntmps15 (Nat.le_of_ble_eq_true rfl) (fun R => ?_)
 refine SR ?_
 refine gN 1 (fun b4 => [(2, vP b4)]) (fun _ => []) (fun _ => []) (fun b4 => .blk b4 [.slice none (0) (0)] 24) (fun b4 => ?_)
 refine NS ?_
 refine gN 1 (fun b5 => [(3, vP b5)]) (fun _ => []) (fun _ => []) (fun b5 => .blk b5 [.slice none (0) (0)] 24) (fun b5 => ?_)
 refine NN (af.seq (SR ?_))
 refine gK 4 [(17, .map (some m))] [(3, a_ 0 f)] ?_
 refine gL [] (I5 (some m)) ?_
 rintro _ _ ⟨b6, rfl, rfl⟩
 refine gL [2, 0] (Di L m b6 S.idx hI.rise hI.len) ?_
 rintro _ _ ⟨A7, c8, rfl, rfl⟩
 refine gK 1 [(20, vI ↑((keys S.idx).length))] [] ?_
 refine aj.mem (fun w hS => hS.jX (e := 70) (size := 10)) ?_
 refine aj.mem (aP := [pI m L S.idx, .blk b6 [.map (some m)] 80, KH A7 S c8, pF f m t S.X, pO S.O L, pD S.O L, pE S.O L, .abs R, Ez b4, Ez b5, .abs (aI 70 10 none 0 0 ([])), .abs (fw (iT [] zX) 0)]) (fun w hS => hS.Gr (iT [] zX)) ?_
 refine aj.mem (aP := [pI m L S.idx, .blk b6 [.map (some m)] 80, KH A7 S c8, pF f m t S.X, pO S.O L, pD S.O L, pE S.O L, .abs R, Ez b4, Ez b5, .abs (aI 70 10 none 0 0 ([])), .abs (fw (iT [] zX) 0), .abs (fw (ig [] zX) 0)]) (fun w hS => hS.Gr (ig [] zX)) ?_
 refine gK 1 [(21, vI 0)] [] ?_
 refine NN (af.block ?_)
 refine af.loop (ι := Nat × (Option Addr) × Nat × Lay) (fun ((i, An, cn, K) : Nat × (Option Addr) × Nat × Lay) => (i ≤ S.idx.length)) (fun ((i, An, cn, K) : Nat × (Option Addr) × Nat × Lay) => S.idx.length - i) (fun ((i, An, cn, K) : Nat × (Option Addr) × Nat × Lay) => (fY f b4 b5 ++ rI A7 S c8 i)) (fun ((i, An, cn, K) : Nat × (Option Addr) × Nat × Lay) => (cQ b5 An i cn K S A7 c8 b4 f m t L ++ [pE S.O L, .abs R])) (0, none, 0, zX) (idx := [0, 2, 3, 19, 20, 21]) (pk := [9, 10, 11, 12, 2, 8, 3, 0, 4, 5, 6, 7]) (show (0 ≤ S.idx.length) from (Nat.zero_le _)) (fun _ => by kernel_rfl) rfl (by kernel_rfl) ?_
 rintro ⟨i, An, cn, K⟩ hi
 show af _ _ _ _ (fY f b4 b5 ++ rI A7 S c8 i) (cQ b5 An i cn K S A7 c8 b4 f m t L ++ [pE S.O L, .abs R]) _
 refine SR ?_
 refine gK 1 [(22, .bool (decide ((((i : Nat) : Int) : Int) < ((((keys S.idx).length : Nat) : Int) : Int))))] [] ?_
 refine NN (af.seq ?_)
 refine af.bn (p := (((i : Nat) : Int) : Int) < ((((keys S.idx).length : Nat) : Int) : Int)) (fun _ => by kernel_rfl) (fun KA => ?_) (fun KA => ?_)
 ·have hi2 : i < S.idx.length := by omega
  refine af.skip (NX (af.seq (af.block (SR ?_))))
  refine aj.tell (p := (A7 = some ⟨au A7, ar A7, none⟩)) (fun w hS => let ⟨F, h⟩ := hS.get (i := 4) rfl; (aI.EI h (by omega)).1) (fun hAk => ?_)
  refine gK 3 [(5, vI ((bS S i)))] [(0, p_ ⟨[], some i, none, some ⟨(au A7), ar A7, none⟩, none⟩ [((i : Nat) : Int) = ((i : Nat) : Int), i < (keys S.idx).length, (⟨(au A7), ar A7, none⟩ : Addr).spot = none, (A7 : Option Addr) = some ⟨(au A7), ar A7, none⟩] ⟨rfl, by omega, rfl, hAk, trivial⟩), (1, p_ ⟨[.view 4 (.int .i64 ((bS S i)))], none, none, none, none⟩ [(∀ F w, (aI 3 1 A7 ((keys S.idx).length) c8 (ints (keys S.idx))).h F w → w.cell? ⟨(au A7), ar A7 + i * 1, none⟩ = some (vI ((bS S i))))] ⟨aI.cellAt (i := i) (j := 0) (by omega) (JF hi2), trivial⟩)] ?_
  refine NN (af.seq ?_)
  have Ry := (mH hI.toInv0 hi2).1
  have hget := get_at hI.toInv0 hi2
  rcases Ov hI.toInv0 hi2 with ⟨tk, jJ, hlv⟩ | ⟨tk, jJ, hlv⟩ | ⟨tk, jJ, hlv⟩
  ·have hkt : (obj S.O tk).kind = 1 := hI.kind hlv
   have hel : (obj S.O tk).ah.length ≤ 8192 := hI.eV hlv
   have hdl : (obj S.O tk).data.length ≤ 140737488355328 := hI.EZ hlv
   refine af.region ?_
   refine gK 5 [(28, .map (some m)), (29, vI ((bS S i)))] [(3, a_ 6 f)] ?_
   refine aj.dm 7 (d := (some 30)) (t := 80) (K := 3) (E := 84) (b := m) (n := S.idx.length) (f := (aO (aK L S.idx))) (x := (.tmp 28)) (ix := (.tmp 29)) (key := .int .i64 ((bS S i))) (z := .nilIface) (kl := (.int .i64 (bS S i))) (r := (some (cO L ⟨tk, 1⟩))) (fun _ => by kernel_rfl) (by kernel_rfl) (fun _ => by kernel_rfl) (fun _ => by kernel_rfl) cU Tryz.underlying80 (fun _ => by kernel_rfl) (gX (zY hI.toInv0 hi2)) (by rw [dQ, hget, jJ]; rfl) ?_
   refine gK 1 [(6, .iface 89 (vP (L.b tk)))] [] ?_
   refine NS ?_
   refine gK 1 [(31, .iface 89 (vP (L.b tk)))] [] ?_
   refine gL [] (cu (L.b tk)) ?_
   rintro _ _ ⟨rfl, rfl⟩
   refine gK 1 [(7, vP (L.b tk))] [] ?_
   refine NN (af.seq ?_)
   refine af.pG (S := [pO S.O L]) [0, 1, 3, 4, 5, 6, 7, 8, 9, 10, 11, 12, 13, 14, 15, 16, 17, 18] [.three 2 19 20, .one 21] [8] (by kernel_rfl) (by kernel_rfl) rfl (by kernel_rfl) ?_
   refine fS.reads (rs := []) (fr' := ([(0, vP f), (2, vP b4), (3, vP b5), (6, .iface 89 (vP (L.b tk)))] ++ Ac A7 S c8 i ++ [(33, vI (bS S i)), (34, .iface 89 (vP (L.b tk)))] ++ JH S tk)) (aU := [(∀ F w, (ak (aN S.O L)).h F w → w.cell? ⟨(L.b tk), 5, none⟩ = some (vI ((obj S.O tk).nano))), (∀ F w, (ak (aN S.O L)).h F w → w.cell? ⟨(L.b tk), 4, none⟩ = some (vI ((obj S.O tk).sec))), (∀ F w, (ak (aN S.O L)).h F w → w.cell? ⟨(L.b tk), 3, none⟩ = some (vI ((obj S.O tk).gid))), (∀ F w, (ak (aN S.O L)).h F w → w.cell? ⟨(L.b tk), 2, none⟩ = some (vI ((obj S.O tk).uid))), (∀ F w, (ak (aN S.O L)).h F w → w.cell? ⟨(L.b tk), 1, none⟩ = some (vI ((obj S.O tk).mode)))]) [0, 1, 3, 4, 5, 6, 7, 8, 9, 10, 11, 12, 13, 14, 15, 16, 17, 18] [o_, o_, o_, o_, o_, ⟨[.view 0 (.int .i64 ((obj S.O tk).mode))], none, none, none, none⟩, o_, o_, o_, ⟨[.view 0 (.int .i64 ((obj S.O tk).uid))], none, none, none, none⟩, o_, o_, o_, ⟨[.view 0 (.int .i64 ((obj S.O tk).gid))], none, none, none, none⟩, o_, o_, o_, ⟨[.view 0 (.int .i64 ((obj S.O tk).sec)), .view 0 (.int .i64 ((obj S.O tk).nano))], none, none, none, none⟩] [0, 2, 3, 6, 19, 20, 21, 33, 34, 39, 43, 47, 51] (fun _ => by kernel_rfl) ⟨bp (by rw [hkt]; decide) (rfl), bp (by rw [hkt]; decide) (rfl), bp (by rw [hkt]; decide) (rfl), bp (by rw [hkt]; decide) (rfl), bp (by rw [hkt]; decide) (rfl), trivial⟩ ?_
   refine fS.three (ι := Nat) (fa := fun (_ : Unit) => (fY f b4 b5 ++ [(6, .iface 89 (vP (L.b tk)))] ++ rI A7 S c8 i ++ [(33, vI ((bS S i))), (35, vI 1)] ++ jm S tk)) (ha := fun (_ : Unit) => (cQ b5 An i cn K S A7 c8 b4 f m t L ++ [pE S.O L, .abs R])) (Hv := Unit) (fb := fun (_ : Unit) => (fY f b4 b5 ++ [(6, .iface 89 (vP (L.b tk)))] ++ rI A7 S c8 i ++ [(52, .agg #[vI ((bS S i)), vI 1, vI ((obj S.O tk).mode), vI ((obj S.O tk).uid), vI ((obj S.O tk).gid), vI ((obj S.O tk).sec), vI ((obj S.O tk).nano), .slice none (0) (0), .string ⟨#[]⟩, .slice none (0) (0)])])) (hb := fun (_ : Unit) => (cQ b5 An i cn K S A7 c8 b4 f m t L ++ [pE S.O L, .abs R])) (Hw := Unit) (fc := fun (b10 : Nat) => (fY f b4 b5 ++ [(6, .iface 89 (vP (L.b tk)))] ++ j9 b10 A7 S c8 i ++ [(35, vI 1)] ++ jm S tk)) (hc := fun (b10 : Nat) => (cQ b5 An i cn K S A7 c8 b4 f m t L ++ [pE S.O L, .abs R, lF b10])) (Hy := Nat) (fd := fun (b11 : Nat) => (fY f b4 b5 ++ [(6, .iface 89 (vP (L.b tk)))] ++ j9 b11 A7 S c8 i ++ [(34, .iface 89 (vP (L.b tk)))] ++ jm S tk)) (hd := fun (b11 : Nat) => (cQ b5 An i cn K S A7 c8 b4 f m t L ++ [pE S.O L, .abs R, lF b11])) (Hz := Nat) (fe := fun (b11 : Nat) => (fY f b4 b5 ++ [(6, .iface 89 (vP (L.b tk)))] ++ j9 b11 A7 S c8 i ++ [(35, vI 1)] ++ jm S tk)) (he := fun (b11 : Nat) => (cQ b5 An i cn K S A7 c8 b4 f m t L ++ [pE S.O L, .abs R, lF b11])) (HB := Nat) (fr' := fun (b9 : Nat) => ([(0, vP f), (2, vP b4), (3, vP b5), (6, .iface 89 (vP (L.b tk))), (8, vP b9)] ++ Ac A7 S c8 i ++ [(52, .agg #[vI (bS S i), vI 1, vI ((obj S.O tk).mode), vI ((obj S.O tk).uid), vI ((obj S.O tk).gid), vI ((obj S.O tk).sec), vI ((obj S.O tk).nano), .slice none (0) (0), .string ⟨#[]⟩, .slice none (0) (0)])])) (hp' := fun (b9 : Nat) => (cQ b5 An i cn K S A7 c8 b4 f m t L ++ [pE S.O L, .abs R, lF b9])) [8] [8] [8] [8] [8] [8] rfl rfl rfl rfl rfl rfl ?_ ?_ ?_ ?_ ?_ ?_ ?_ ?_ rfl (fun _ => by kernel_rfl) rfl (fun _ => by kernel_rfl) rfl (fun _ => by kernel_rfl) rfl (fun _ => by kernel_rfl) rfl (fun _ => by kernel_rfl) rfl (fun _ => by kernel_rfl) ?_
   ·refine gL [] (jT (vP (L.b tk))) ?_
    rintro _ _ ⟨rfl, rfl⟩
    refine NL ?_
    exact MD () [0, 2, 3, 6, 19, 20, 21, 33, 35, 39, 43, 47, 51] [0, 1, 2, 3, 4, 5, 6, 7, 8, 9, 10, 11]
   ·rintro _
    refine gK 1 [(52, .agg #[vI ((bS S i)), vI 1, vI ((obj S.O tk).mode), vI ((obj S.O tk).uid), vI ((obj S.O tk).gid), vI ((obj S.O tk).sec), vI ((obj S.O tk).nano), .slice none (0) (0), .string ⟨#[]⟩, .slice none (0) (0)])] [] ?_
    refine NL ?_
    exact MD () [0, 2, 3, 6, 19, 20, 21, 52] [0, 1, 2, 3, 4, 5, 6, 7, 8, 9, 10, 11]
   ·rintro _
    refine gN 1 (fun b9 => [(8, vP b9)]) (fun _ => []) (fun _ => []) (fun b9 => .blk b9 [vI 0, vI 0, vI 0, vI 0, vI 0, vI 0, vI 0, .slice none (0) (0), .string ⟨#[]⟩, .slice none (0) (0)] 70) (fun b9 => ?_)
    refine NL ?_
    exact MD b9 [0, 2, 3, 6, 8, 19, 20, 21, 52] [0, 1, 2, 3, 4, 5, 6, 7, 8, 9, 10, 11, 12]
   ·rintro _
    refine gN 1 (fun b10 => [(8, vP b10)]) (fun _ => []) (fun _ => []) (fun b10 => .blk b10 [vI 0, vI 0, vI 0, vI 0, vI 0, vI 0, vI 0, .slice none (0) (0), .string ⟨#[]⟩, .slice none (0) (0)] 70) (fun b10 => ?_)
    refine NL ?_
    exact MD b10 [0, 2, 3, 6, 8, 19, 20, 21, 33, 35, 39, 43, 47, 51] [0, 1, 2, 3, 4, 5, 6, 7, 8, 9, 10, 11, 12]
   ·rintro b10
    show aj _ _ _ _ _ (fY f b4 b5 ++ [(6, .iface 89 (vP (L.b tk)))] ++ j9 b10 A7 S c8 i ++ [(35, vI 1)] ++ jm S tk) (cQ b5 An i cn K S A7 c8 b4 f m t L ++ [pE S.O L, .abs R, lF b10]) _
    refine gK 1 [(52, .agg #[vI ((bS S i)), vI 1, vI ((obj S.O tk).mode), vI ((obj S.O tk).uid), vI ((obj S.O tk).gid), vI ((obj S.O tk).sec), vI ((obj S.O tk).nano), .slice none (0) (0), .string ⟨#[]⟩, .slice none (0) (0)])] [] ?_
    refine NL ?_
    exact MD b10 [0, 2, 3, 6, 8, 19, 20, 21, 52] [0, 1, 2, 3, 4, 5, 6, 7, 8, 9, 10, 11, 12]
   ·refine gN 1 (fun b11 => [(8, vP b11)]) (fun _ => []) (fun _ => []) (fun b11 => .blk b11 [vI 0, vI 0, vI 0, vI 0, vI 0, vI 0, vI 0, .slice none (0) (0), .string ⟨#[]⟩, .slice none (0) (0)] 70) (fun b11 => ?_)
    refine NL ?_
    exact MD b11 [0, 2, 3, 6, 8, 19, 20, 21, 33, 34, 39, 43, 47, 51] [0, 1, 2, 3, 4, 5, 6, 7, 8, 9, 10, 11, 12]
   ·rintro b11
    show aj _ _ _ _ _ (fY f b4 b5 ++ [(6, .iface 89 (vP (L.b tk)))] ++ j9 b11 A7 S c8 i ++ [(34, .iface 89 (vP (L.b tk)))] ++ jm S tk) (cQ b5 An i cn K S A7 c8 b4 f m t L ++ [pE S.O L, .abs R, lF b11]) _
    refine gL [] (jT (vP (L.b tk))) ?_
    rintro _ _ ⟨rfl, rfl⟩
    refine NL ?_
    exact MD b11 [0, 2, 3, 6, 8, 19, 20, 21, 33, 35, 39, 43, 47, 51] [0, 1, 2, 3, 4, 5, 6, 7, 8, 9, 10, 11, 12]
   ·rintro b11
    show aj _ _ _ _ _ (fY f b4 b5 ++ [(6, .iface 89 (vP (L.b tk)))] ++ j9 b11 A7 S c8 i ++ [(35, vI 1)] ++ jm S tk) (cQ b5 An i cn K S A7 c8 b4 f m t L ++ [pE S.O L, .abs R, lF b11]) _
    refine gK 1 [(52, .agg #[vI ((bS S i)), vI 1, vI ((obj S.O tk).mode), vI ((obj S.O tk).uid), vI ((obj S.O tk).gid), vI ((obj S.O tk).sec), vI ((obj S.O tk).nano), .slice none (0) (0), .string ⟨#[]⟩, .slice none (0) (0)])] [] ?_
    refine NL ?_
    exact MD b11 [0, 2, 3, 6, 8, 19, 20, 21, 52] [0, 1, 2, 3, 4, 5, 6, 7, 8, 9, 10, 11, 12]
   rintro b9
   refine fS.last rfl rfl ?_
   refine gC 1 [] [(0, A_ 12 b9 10)] [(12, ([(0, vI ((bS S i))), (1, vI 1)] ++ JG S tk))] ?_
   refine NL (ai.np (NX (af.seq (SR ?_))))
   refine gK 1 [(53, .iface 89 (vP (L.b tk)))] [] ?_
   refine NN (af.block (SR ?_))
   refine gK 3 [(55, .bool true), (56, vP (L.b tk))] [] ?_
   refine NN ?_
   refine CT ?_
   refine SR ?_
   refine gK 1 [(9, vP (L.b tk))] [] ?_
   refine NN (af.region ?_)
   refine gK 4 [(60, .slice (L.dA tk) ((obj S.O tk).data.length) ((L.dC tk)))] [(3, v_ 8 (Mu L hkt))] ?_
   refine aj.mem (aP := ([MW b5 An i cn, MX An i cn K S, v8 S i K, Dg S i K] ++ qx A7 S c8 b4 f m t L ++ [OT S L tk, pE S.O L, .abs R, MY b9 S i tk, .abs (aI 5 1 (L.dA tk) ((obj S.O tk).data.length) (L.dC tk) (bL (obj S.O tk).data))])) (fun w hS => hS.Gt (i := 9) (k := tk) rfl hkt) ?_
   refine gL [13] (Dh (L.dA tk) (L.dC tk) (obj S.O tk).data hdl) ?_
   rintro _ _ ⟨kq, c13, rfl, rfl⟩
   refine aj.mem (aP := ([pD S.O L, .abs (aI 5 1 kq ((obj S.O tk).data.length) c13 (bL (obj S.O tk).data)), MW b5 An i cn, MX An i cn K S, v8 S i K, Dg S i K] ++ qx A7 S c8 b4 f m t L ++ [pE S.O L, .abs R, MY b9 S i tk])) (fun w hS => hS.MS (i := 11) (j := 1) (ix := [0, 2, 3, 4, 5, 6, 7, 8, 9, 10, 12, 13, 14]) rfl rfl (by kernel_rfl) rfl hkt) ?_
   refine gC 2 [] [(1, a_ 13 b9)] [(13, [(7, .slice kq ((obj S.O tk).data.length) (c13))])] ?_
   refine NL (ai.aL (NX (af.region ?_)))
   refine gN 4 (fun b14 => [(104, .slice An (i) (cn)), (106, .slice (some ⟨b14, 0, none⟩) (1) (1))]) (fun b14 => [(1, a_ 2 b5), (2, A_ 13 b9 10)]) (fun _ => []) (fun b14 => .blk b14 [vI ((bS S i)), vI 1, vI ((obj S.O tk).mode), vI ((obj S.O tk).uid), vI ((obj S.O tk).gid), vI ((obj S.O tk).sec), vI ((obj S.O tk).nano), .slice kq ((obj S.O tk).data.length) (c13), .string ⟨#[]⟩, .slice none (0) (0)] 70) (fun b14 => ?_)
   refine aj.append 3 (d := (some 107)) (t := 22) (e := 70) (z := .agg #[vI 0, vI 0, vI 0, vI 0, vI 0, vI 0, vI 0, .slice none (0) (0), .string ⟨#[]⟩, .slice none (0) (0)]) (size := 10) (bytes := 120) (n := i) (cap := cn) (A := An) (xs := (cr K ((ax S).take i))) (s := (.tmp 104)) (x := (.tmp 106)) (ats := #[22, 22]) (A' := some ⟨b14, 0, none⟩) (m := 1) (c' := 1) (news := [vI ((bS S i)), vI 1, vI ((obj S.O tk).mode), vI ((obj S.O tk).uid), vI ((obj S.O tk).gid), vI ((obj S.O tk).sec), vI ((obj S.O tk).nano), .slice kq ((obj S.O tk).data.length) (c13), .string ⟨#[]⟩, .slice none (0) (0)]) (fun _ => by kernel_rfl) rfl (by kernel_rfl) (fun _ => by kernel_rfl) (fun _ => by kernel_rfl) Tryz.underlying22 (by kernel_rfl) rfl (by decide) (rfl) (by simp [Value.oneCell']) (kL (j := 14) rfl) (by unfold maxLen; omega) (by omega) (fun qW c16 => ?_)
   refine aj.dH 3 (p := .abs (aI 70 10 qW (i + 1) c16 ((cr K ((ax S).take i)) ++ [vI ((bS S i)), vI 1, vI ((obj S.O tk).mode), vI ((obj S.O tk).uid), vI ((obj S.O tk).gid), vI ((obj S.O tk).sec), vI ((obj S.O tk).nano), .slice kq ((obj S.O tk).data.length) (c13), .string ⟨#[]⟩, .slice none (0) (0)]))) (p' := .abs (aI 70 10 qW (i + 1) c16 (cr (K.put i kq c13 none 0) ((ax S).take (i + 1))))) (by kernel_rfl) (congrArg (fun x => HP.abs (aI 70 10 _ _ _ x)) (sZ (cP (by omega)) (oA hI.toInv0 hi2 jJ hlv) rfl rfl)) ?_
   refine aj.slot 107 (.slice qW (i + 1) (c16)) (.slice qW ((i + 1)) (c16)) (fun _ => by kernel_rfl) (rfl) ?_
   refine gC 2 [] [(1, a_ 2 b5)] [(2, [(0, .slice qW ((i + 1)) (c16))])] ?_
   refine NL (ai.aL (NX (af.region ?_)))
   refine gK 2 [(21, vI ↑(i + 1))] [(0, p_ ⟨[], none, none, none, some (vI ↑(i + 1))⟩ [(Value.int .i64 (IntKind.wrap .i64 (((i : Nat) : Int) + 1))) = (.int .i64 ↑(i + 1))] ⟨bE (by omega) (by omega) (by omega), trivial⟩)] ?_
   refine NL ?_
   refine ai.mem (aP := ([pD S.O L, .abs (aI 5 1 kq ((obj S.O tk).data.length) c13 (bL (obj S.O tk).data)), tf b5 qW i c16, .abs (aI 70 10 qW (i + 1) c16 (cr (K.put i kq c13 none 0) ((ax S).take (i + 1)))), v8 S i K, Dg S i K] ++ qx A7 S c8 b4 f m t L ++ [pE S.O L, .abs R, zZ b9 S i tk kq c13, zZ b14 S i tk kq c13, FK])) (fun w hS => hS.jX (e := 101) (size := 2)) ?_
   refine ai.mem (aP := ([.abs (fw (ig ((ax S).take (i + 1)) (K.put i kq c13 none 0)) (i + 1)), pD S.O L, tf b5 qW i c16, .abs (aI 70 10 qW (i + 1) c16 (cr (K.put i kq c13 none 0) ((ax S).take (i + 1)))), v8 S i K] ++ qx A7 S c8 b4 f m t L ++ [pE S.O L, .abs R, zZ b9 S i tk kq c13, zZ b14 S i tk kq c13, FK])) (fun w hS => hS.pN (R' := (ig ((ax S).take (i + 1)) (K.put i kq c13 none 0))) (i := 5) (j := 1) (idx := [0, 2, 3, 4, 6, 7, 8, 9, 10, 11, 12, 13, 14, 15]) rfl rfl (by kernel_rfl) rfl (xj (cP (by omega)) (oA hI.toInv0 hi2 jJ hlv)) (uO (cP (by omega)) (oA hI.toInv0 hi2 jJ hlv) rfl)) ?_
   refine ai.mem (aP := ([.abs (fw (iT ((ax S).take (i + 1)) (K.put i kq c13 none 0)) (i + 1)), .abs (fw (ig ((ax S).take (i + 1)) (K.put i kq c13 none 0)) (i + 1)), pD S.O L, tf b5 qW i c16, .abs (aI 70 10 qW (i + 1) c16 (cr (K.put i kq c13 none 0) ((ax S).take (i + 1))))] ++ qx A7 S c8 b4 f m t L ++ [pE S.O L, .abs R, zZ b9 S i tk kq c13, zZ b14 S i tk kq c13])) (fun w hS => hS.pN (R' := (iT ((ax S).take (i + 1)) (K.put i kq c13 none 0))) (i := 4) (j := 14) (idx := [0, 1, 2, 3, 5, 6, 7, 8, 9, 10, 11, 12, 13]) rfl rfl (by kernel_rfl) rfl (xk (cP (by omega)) (oA hI.toInv0 hi2 jJ hlv)) ((uP (cP (by omega)) (oA hI.toInv0 hi2 jJ hlv) rfl))) ?_
   exact ai.turn ((i + 1), qW, c16, (K.put i kq c13 none 0)) (idx := [0, 2, 3, 19, 20, 21]) (pk := [3, 4, 0, 1, 5, 6, 7, 8, 9, 2, 10, 11]) (show (((i + 1)) ≤ S.idx.length) from (by omega)) (by show S.idx.length - ((i + 1)) < S.idx.length - i; omega) (fun _ => by kernel_rfl) rfl (by kernel_rfl)
  ·have hkt : (obj S.O tk).kind = 2 := hI.kind hlv
   have hel : (obj S.O tk).ah.length ≤ 8192 := hI.eV hlv
   have hdl : (obj S.O tk).data.length ≤ 140737488355328 := hI.EZ hlv
   refine af.region ?_
   refine gK 5 [(28, .map (some m)), (29, vI ((bS S i)))] [(3, a_ 6 f)] ?_
   refine aj.dm 7 (d := (some 30)) (t := 80) (K := 3) (E := 84) (b := m) (n := S.idx.length) (f := (aO (aK L S.idx))) (x := (.tmp 28)) (ix := (.tmp 29)) (key := .int .i64 ((bS S i))) (z := .nilIface) (kl := (.int .i64 (bS S i))) (r := (some (cO L ⟨tk, 2⟩))) (fun _ => by kernel_rfl) (by kernel_rfl) (fun _ => by kernel_rfl) (fun _ => by kernel_rfl) cU Tryz.underlying80 (fun _ => by kernel_rfl) (gX (zY hI.toInv0 hi2)) (by rw [dQ, hget, jJ]; rfl) ?_
   refine gK 1 [(6, .iface 96 (vP (L.b tk)))] [] ?_
   refine NS ?_
   refine gK 1 [(31, .iface 96 (vP (L.b tk)))] [] ?_
   refine gL [] (cu (L.b tk)) ?_
   rintro _ _ ⟨rfl, rfl⟩
   refine gK 1 [(7, vP (L.b tk))] [] ?_
   refine NN (af.seq ?_)
   refine af.pG (S := [pO S.O L]) [0, 1, 3, 4, 5, 6, 7, 8, 9, 10, 11, 12, 13, 14, 15, 16, 17, 18] [.three 2 19 20, .one 21] [8] (by kernel_rfl) (by kernel_rfl) rfl (by kernel_rfl) ?_
   refine fS.reads (rs := []) (fr' := ([(0, vP f), (2, vP b4), (3, vP b5), (6, .iface 96 (vP (L.b tk)))] ++ Ac A7 S c8 i ++ [(33, vI (bS S i)), (34, .iface 96 (vP (L.b tk)))] ++ JH S tk)) (aU := [(∀ F w, (ak (aN S.O L)).h F w → w.cell? ⟨(L.b tk), 5, none⟩ = some (vI ((obj S.O tk).nano))), (∀ F w, (ak (aN S.O L)).h F w → w.cell? ⟨(L.b tk), 4, none⟩ = some (vI ((obj S.O tk).sec))), (∀ F w, (ak (aN S.O L)).h F w → w.cell? ⟨(L.b tk), 3, none⟩ = some (vI ((obj S.O tk).gid))), (∀ F w, (ak (aN S.O L)).h F w → w.cell? ⟨(L.b tk), 2, none⟩ = some (vI ((obj S.O tk).uid))), (∀ F w, (ak (aN S.O L)).h F w → w.cell? ⟨(L.b tk), 1, none⟩ = some (vI ((obj S.O tk).mode)))]) [0, 1, 3, 4, 5, 6, 7, 8, 9, 10, 11, 12, 13, 14, 15, 16, 17, 18] [o_, o_, o_, o_, o_, ⟨[.view 0 (.int .i64 ((obj S.O tk).mode))], none, none, none, none⟩, o_, o_, o_, ⟨[.view 0 (.int .i64 ((obj S.O tk).uid))], none, none, none, none⟩, o_, o_, o_, ⟨[.view 0 (.int .i64 ((obj S.O tk).gid))], none, none, none, none⟩, o_, o_, o_, ⟨[.view 0 (.int .i64 ((obj S.O tk).sec)), .view 0 (.int .i64 ((obj S.O tk).nano))], none, none, none, none⟩] [0, 2, 3, 6, 19, 20, 21, 33, 34, 39, 43, 47, 51] (fun _ => by kernel_rfl) ⟨bp (by rw [hkt]; decide) (rfl), bp (by rw [hkt]; decide) (rfl), bp (by rw [hkt]; decide) (rfl), bp (by rw [hkt]; decide) (rfl), bp (by rw [hkt]; decide) (rfl), trivial⟩ ?_
   refine fS.three (ι := Nat) (fa := fun (_ : Unit) => (fY f b4 b5 ++ [(6, .iface 96 (vP (L.b tk)))] ++ rI A7 S c8 i ++ [(33, vI ((bS S i))), (35, vI 2)] ++ jm S tk)) (ha := fun (_ : Unit) => (cQ b5 An i cn K S A7 c8 b4 f m t L ++ [pE S.O L, .abs R])) (Hv := Unit) (fb := fun (_ : Unit) => (fY f b4 b5 ++ [(6, .iface 96 (vP (L.b tk)))] ++ rI A7 S c8 i ++ [(52, .agg #[vI ((bS S i)), vI 2, vI ((obj S.O tk).mode), vI ((obj S.O tk).uid), vI ((obj S.O tk).gid), vI ((obj S.O tk).sec), vI ((obj S.O tk).nano), .slice none (0) (0), .string ⟨#[]⟩, .slice none (0) (0)])])) (hb := fun (_ : Unit) => (cQ b5 An i cn K S A7 c8 b4 f m t L ++ [pE S.O L, .abs R])) (Hw := Unit) (fc := fun (b18 : Nat) => (fY f b4 b5 ++ [(6, .iface 96 (vP (L.b tk)))] ++ j9 b18 A7 S c8 i ++ [(35, vI 2)] ++ jm S tk)) (hc := fun (b18 : Nat) => (cQ b5 An i cn K S A7 c8 b4 f m t L ++ [pE S.O L, .abs R, lF b18])) (Hy := Nat) (fd := fun (b19 : Nat) => (fY f b4 b5 ++ [(6, .iface 96 (vP (L.b tk)))] ++ j9 b19 A7 S c8 i ++ [(34, .iface 96 (vP (L.b tk)))] ++ jm S tk)) (hd := fun (b19 : Nat) => (cQ b5 An i cn K S A7 c8 b4 f m t L ++ [pE S.O L, .abs R, lF b19])) (Hz := Nat) (fe := fun (b19 : Nat) => (fY f b4 b5 ++ [(6, .iface 96 (vP (L.b tk)))] ++ j9 b19 A7 S c8 i ++ [(35, vI 2)] ++ jm S tk)) (he := fun (b19 : Nat) => (cQ b5 An i cn K S A7 c8 b4 f m t L ++ [pE S.O L, .abs R, lF b19])) (HB := Nat) (fr' := fun (b17 : Nat) => ([(0, vP f), (2, vP b4), (3, vP b5), (6, .iface 96 (vP (L.b tk))), (8, vP b17)] ++ Ac A7 S c8 i ++ [(52, .agg #[vI (bS S i), vI 2, vI ((obj S.O tk).mode), vI ((obj S.O tk).uid), vI ((obj S.O tk).gid), vI ((obj S.O tk).sec), vI ((obj S.O tk).nano), .slice none (0) (0), .string ⟨#[]⟩, .slice none (0) (0)])])) (hp' := fun (b17 : Nat) => (cQ b5 An i cn K S A7 c8 b4 f m t L ++ [pE S.O L, .abs R, lF b17])) [8] [8] [8] [8] [8] [8] rfl rfl rfl rfl rfl rfl ?_ ?_ ?_ ?_ ?_ ?_ ?_ ?_ rfl (fun _ => by kernel_rfl) rfl (fun _ => by kernel_rfl) rfl (fun _ => by kernel_rfl) rfl (fun _ => by kernel_rfl) rfl (fun _ => by kernel_rfl) rfl (fun _ => by kernel_rfl) ?_
   ·refine gL [] (jU (vP (L.b tk))) ?_
    rintro _ _ ⟨rfl, rfl⟩
    refine NL ?_
    exact MD () [0, 2, 3, 6, 19, 20, 21, 33, 35, 39, 43, 47, 51] [0, 1, 2, 3, 4, 5, 6, 7, 8, 9, 10, 11]
   ·rintro _
    refine gK 1 [(52, .agg #[vI ((bS S i)), vI 2, vI ((obj S.O tk).mode), vI ((obj S.O tk).uid), vI ((obj S.O tk).gid), vI ((obj S.O tk).sec), vI ((obj S.O tk).nano), .slice none (0) (0), .string ⟨#[]⟩, .slice none (0) (0)])] [] ?_
    refine NL ?_
    exact MD () [0, 2, 3, 6, 19, 20, 21, 52] [0, 1, 2, 3, 4, 5, 6, 7, 8, 9, 10, 11]
   ·rintro _
    refine gN 1 (fun b17 => [(8, vP b17)]) (fun _ => []) (fun _ => []) (fun b17 => .blk b17 [vI 0, vI 0, vI 0, vI 0, vI 0, vI 0, vI 0, .slice none (0) (0), .string ⟨#[]⟩, .slice none (0) (0)] 70) (fun b17 => ?_)
    refine NL ?_
    exact MD b17 [0, 2, 3, 6, 8, 19, 20, 21, 52] [0, 1, 2, 3, 4, 5, 6, 7, 8, 9, 10, 11, 12]
   ·rintro _
    refine gN 1 (fun b18 => [(8, vP b18)]) (fun _ => []) (fun _ => []) (fun b18 => .blk b18 [vI 0, vI 0, vI 0, vI 0, vI 0, vI 0, vI 0, .slice none (0) (0), .string ⟨#[]⟩, .slice none (0) (0)] 70) (fun b18 => ?_)
    refine NL ?_
    exact MD b18 [0, 2, 3, 6, 8, 19, 20, 21, 33, 35, 39, 43, 47, 51] [0, 1, 2, 3, 4, 5, 6, 7, 8, 9, 10, 11, 12]
   ·rintro b18
    show aj _ _ _ _ _ (fY f b4 b5 ++ [(6, .iface 96 (vP (L.b tk)))] ++ j9 b18 A7 S c8 i ++ [(35, vI 2)] ++ jm S tk) (cQ b5 An i cn K S A7 c8 b4 f m t L ++ [pE S.O L, .abs R, lF b18]) _
    refine gK 1 [(52, .agg #[vI ((bS S i)), vI 2, vI ((obj S.O tk).mode), vI ((obj S.O tk).uid), vI ((obj S.O tk).gid), vI ((obj S.O tk).sec), vI ((obj S.O tk).nano), .slice none (0) (0), .string ⟨#[]⟩, .slice none (0) (0)])] [] ?_
    refine NL ?_
    exact MD b18 [0, 2, 3, 6, 8, 19, 20, 21, 52] [0, 1, 2, 3, 4, 5, 6, 7, 8, 9, 10, 11, 12]
   ·refine gN 1 (fun b19 => [(8, vP b19)]) (fun _ => []) (fun _ => []) (fun b19 => .blk b19 [vI 0, vI 0, vI 0, vI 0, vI 0, vI 0, vI 0, .slice none (0) (0), .string ⟨#[]⟩, .slice none (0) (0)] 70) (fun b19 => ?_)
    refine NL ?_
    exact MD b19 [0, 2, 3, 6, 8, 19, 20, 21, 33, 34, 39, 43, 47, 51] [0, 1, 2, 3, 4, 5, 6, 7, 8, 9, 10, 11, 12]
   ·rintro b19
    show aj _ _ _ _ _ (fY f b4 b5 ++ [(6, .iface 96 (vP (L.b tk)))] ++ j9 b19 A7 S c8 i ++ [(34, .iface 96 (vP (L.b tk)))] ++ jm S tk) (cQ b5 An i cn K S A7 c8 b4 f m t L ++ [pE S.O L, .abs R, lF b19]) _
    refine gL [] (jU (vP (L.b tk))) ?_
    rintro _ _ ⟨rfl, rfl⟩
    refine NL ?_
    exact MD b19 [0, 2, 3, 6, 8, 19, 20, 21, 33, 35, 39, 43, 47, 51] [0, 1, 2, 3, 4, 5, 6, 7, 8, 9, 10, 11, 12]
   ·rintro b19
    show aj _ _ _ _ _ (fY f b4 b5 ++ [(6, .iface 96 (vP (L.b tk)))] ++ j9 b19 A7 S c8 i ++ [(35, vI 2)] ++ jm S tk) (cQ b5 An i cn K S A7 c8 b4 f m t L ++ [pE S.O L, .abs R, lF b19]) _
    refine gK 1 [(52, .agg #[vI ((bS S i)), vI 2, vI ((obj S.O tk).mode), vI ((obj S.O tk).uid), vI ((obj S.O tk).gid), vI ((obj S.O tk).sec), vI ((obj S.O tk).nano), .slice none (0) (0), .string ⟨#[]⟩, .slice none (0) (0)])] [] ?_
    refine NL ?_
    exact MD b19 [0, 2, 3, 6, 8, 19, 20, 21, 52] [0, 1, 2, 3, 4, 5, 6, 7, 8, 9, 10, 11, 12]
   rintro b17
   refine fS.last rfl rfl ?_
   refine gC 1 [] [(0, A_ 12 b17 10)] [(12, ([(0, vI ((bS S i))), (1, vI 2)] ++ JG S tk))] ?_
   refine NL (ai.np (NX (af.seq (SR ?_))))
   refine gK 1 [(53, .iface 96 (vP (L.b tk)))] [] ?_
   refine NN (af.block (SR ?_))
   refine gK 3 [(55, .bool false), (56, .pointer none)] [] ?_
   refine NN ?_
   refine CF ?_
   refine SR ?_
   refine gK 3 [(64, .bool false), (65, .pointer none)] [] ?_
   refine NN ?_
   refine CF ?_
   refine SR ?_
   refine gK 3 [(72, .bool true), (73, vP (L.b tk))] [] ?_
   refine NN ?_
   refine CT ?_
   refine SR ?_
   refine gK 1 [(11, vP (L.b tk))] [] ?_
   refine NS ?_
   refine gK 4 [(77, .map (some (L.m tk)))] [(3, v_ 8 (bA L hkt))] ?_
   refine aj.mem (aP := (cQ b5 An i cn K S A7 c8 b4 f m t L ++ [jk S L tk, .abs R, .blk b17 [vI ((bS S i)), vI 2, vI ((obj S.O tk).mode), vI ((obj S.O tk).uid), vI ((obj S.O tk).gid), vI ((obj S.O tk).sec), vI ((obj S.O tk).nano), .slice none (0) (0), .string ⟨#[]⟩, .slice none (0) (0)] 70, qw L tk S])) (fun w hS => hS.LZ (i := 10) (k := tk) rfl (hkt)) ?_
   refine gL [] (JD (some (L.m tk))) ?_
   rintro _ _ ⟨b20, rfl, rfl⟩
   refine gL [14, 0] (FE L (L.m tk) b20 (obj S.O tk).ah.length (obj S.O tk).ah (hI.sorted _ hlv) hel) ?_
   rintro _ _ ⟨cV, dN, rfl, rfl⟩
   refine gK 1 [(80, vI ↑((obj S.O tk).ah.length))] [] ?_
   refine aj.mem (fun w hS => hS.jX (e := 101) (size := 2)) ?_
   refine gK 1 [(81, vI 0)] [] ?_
   refine NN (af.block ?_)
   refine af.loop (ι := Nat × (Option Addr) × Nat) (fun ((j, Ae, ce) : Nat × (Option Addr) × Nat) => (j ≤ (obj S.O tk).ah.length)) (fun ((j, Ae, ce) : Nat × (Option Addr) × Nat) => (obj S.O tk).ah.length - j) (fun ((j, Ae, ce) : Nat × (Option Addr) × Nat) => (fY f b4 b5 ++ [(8, vP b17), (11, vP (L.b tk))] ++ rI A7 S c8 i ++ [(79, .slice cV ((obj S.O tk).ah.length) (dN)), (80, vI ↑((obj S.O tk).ah.length)), (81, vI ↑j)])) (fun ((j, Ae, ce) : Nat × (Option Addr) × Nat) => (ni b17 S i tk Ae j ce L b20 cV dN ++ cQ b5 An i cn K S A7 c8 b4 f m t L ++ [jk S L tk, .abs R])) (0, none, 0) (idx := [0, 2, 3, 8, 11, 19, 20, 21, 79, 80, 81]) (pk := [15, 16, 0, 1, 2, 3, 4, 5, 6, 7, 8, 9, 10, 11, 12, 13, 14]) (show (0 ≤ (obj S.O tk).ah.length) from (Nat.zero_le _)) (fun _ => by kernel_rfl) rfl (by kernel_rfl) ?_
   rintro ⟨j, Ae, ce⟩ hj
   show af _ _ _ _ (fY f b4 b5 ++ [(8, vP b17), (11, vP (L.b tk))] ++ rI A7 S c8 i ++ [(79, .slice cV ((obj S.O tk).ah.length) (dN)), (80, vI ↑((obj S.O tk).ah.length)), (81, vI ↑j)]) (ni b17 S i tk Ae j ce L b20 cV dN ++ cQ b5 An i cn K S A7 c8 b4 f m t L ++ [jk S L tk, .abs R]) _
   refine SR ?_
   refine gK 1 [(82, .bool (decide ((((j : Nat) : Int) : Int) < ((((obj S.O tk).ah.length : Nat) : Int) : Int))))] [] ?_
   refine NN (af.seq ?_)
   refine af.bn (p := (((j : Nat) : Int) : Int) < ((((obj S.O tk).ah.length : Nat) : Int) : Int)) (fun _ => by kernel_rfl) (fun QD => ?_) (fun QD => ?_)
   ·have hj2 : j < (obj S.O tk).ah.length := by omega
    refine af.skip (NX (af.seq (af.block (SR ?_))))
    refine aj.tell (p := (cV = some ⟨au cV, ar cV, none⟩)) (fun w hS => let ⟨F, h⟩ := hS.get (i := 4) rfl; (aI.EI h (by omega)).1) (fun QE => ?_)
    refine gK 3 [(13, .string (dG (obj S.O tk).ah j))] [(0, p_ ⟨[], some j, none, some ⟨(au cV), ar cV, none⟩, none⟩ [((j : Nat) : Int) = ((j : Nat) : Int), j < (obj S.O tk).ah.length, (⟨(au cV), ar cV, none⟩ : Addr).spot = none, (cV : Option Addr) = some ⟨(au cV), ar cV, none⟩] ⟨rfl, by omega, rfl, QE, trivial⟩), (1, p_ ⟨[.view 4 (.string (dG (obj S.O tk).ah j))], none, none, none, none⟩ [(∀ F w, (aI 9 1 cV ((obj S.O tk).ah.length) dN (mZ (obj S.O tk).ah)).h F w → w.cell? ⟨(au cV), ar cV + j * 1, none⟩ = some (.string (dG (obj S.O tk).ah j)))] ⟨aI.cellAt (i := j) (j := 0) (by omega) (FI hj2), trivial⟩)] ?_
    refine NN ?_
    obtain ⟨hgd, h4⟩ := PO hI.toInv0 hlv hj2
    have hgs : (dG (obj S.O tk).ah j).size ≤ 255 := hgd.2.1
    rcases h4 with ⟨ek, hle, xh, HF⟩ | ⟨ek, hle, xh, HF⟩ | ⟨ek, hle, xh, HF⟩
    ·have hke : (obj S.O ek).kind = 1 := hI.kind xh
     refine af.ck (S := [qw L tk S, pO S.O L, lZ b17 S i tk Ae j ce]) [0, 1, 2, 3, 4, 5, 6, 7, 8, 9, 10, 11, 12, 13, 14, 15, 16, 17] 9 [2, 13, 0] (by kernel_rfl) (by kernel_rfl) rfl (by kernel_rfl) ?_
     refine aH.reads (r := 1) (l := [8, 9, 10, 11, 12, 13, 14, 15, 16, 17]) (fr' := (jl f b4 b5 b17 L tk A7 S c8 i cV dN j ++ oK Ae j ce S tk ++ [(91, .map (some (L.m tk))), (92, .string (dG (obj S.O tk).ah j))])) (aU := [(∀ F w, (ak (aN S.O L)).h F w → w.cell? ⟨(L.b tk), 9, none⟩ = some (.map (some (L.m tk)))), b17 = b17]) [0, 1, 2, 3, 4, 5, 6, 7] [o_, ⟨[.at 2], none, none, none, none⟩, o_, o_, o_, o_, ⟨[.view 1 (.map (some (L.m tk)))], none, none, none, none⟩, o_] [0, 2, 3, 8, 11, 19, 20, 21, 79, 80, 81, 86, 87, 91, 92] (fun _ => by kernel_rfl) ⟨bp (by rw [hkt]; decide) (by rw [gV (hkt)]; rfl), rfl, trivial⟩ rfl rfl ?_
     refine aH.dm 0 (d := (some 93)) (t := 97) (K := 9) (E := 84) (b := (L.m tk)) (cnt := (obj S.O tk).ah.length) (f := (fX L (obj S.O tk).ah)) (x := (.tmp 91)) (ix := (.tmp 92)) (key := .string (dG (obj S.O tk).ah j)) (z := .nilIface) (kl := (.string (dG (obj S.O tk).ah j).data.toList)) (q := (some (cO L ⟨ek, 1⟩))) (by kernel_rfl) (by kernel_rfl) (fun _ => by kernel_rfl) (fun _ => by kernel_rfl) wK Tryz.underlying97 (fun _ => by kernel_rfl) (zx (by omega)) (by rw [pP, hle]; rfl) (by kernel_rfl) ?_
     refine mL [2, 13, 0] [] (cu (L.b ek)) ?_ (by rintro _ _ ⟨rfl, rfl⟩; rfl)
     rintro _ _ ⟨rfl, rfl⟩
     refine aH.cut (ι := Unit) (fr' := fun (_ : Unit) => (jl f b4 b5 b17 L tk A7 S c8 i cV dN j ++ oK Ae j ce S tk ++ [(95, vP (L.b ek))])) (hp' := fun (_ : Unit) => (ni b17 S i tk Ae j ce L b20 cV dN ++ cQ b5 An i cn K S A7 c8 b4 f m t L ++ [jk S L tk, .abs R])) [2, 13, 0] rfl rfl ?_ rfl (fun _ => by kernel_rfl) ?_
     ·refine gK 1 [(95, vP (L.b ek))] [] ?_
      refine NL ?_
      exact MD () [0, 2, 3, 8, 11, 19, 20, 21, 79, 80, 81, 86, 87, 95] [0, 1, 2, 3, 4, 5, 6, 7, 8, 9, 10, 11, 12, 13, 14, 15, 16]
     rintro _
     refine aH.cut (ι := Unit) (fr' := fun (_ : Unit) => (jl f b4 b5 b17 L tk A7 S c8 i cV dN j ++ oK Ae j ce S tk ++ [(96, vP (L.b ek))])) (hp' := fun (_ : Unit) => (ni b17 S i tk Ae j ce L b20 cV dN ++ cQ b5 An i cn K S A7 c8 b4 f m t L ++ [jk S L tk, .abs R])) [2, 13, 0] rfl rfl ?_ rfl (fun _ => by kernel_rfl) ?_
     ·refine gK 1 [(96, vP (L.b ek))] [] ?_
      refine NL ?_
      exact MD () [0, 2, 3, 8, 11, 19, 20, 21, 79, 80, 81, 86, 87, 96] [0, 1, 2, 3, 4, 5, 6, 7, 8, 9, 10, 11, 12, 13, 14, 15, 16]
     rintro _
     refine aH.cut (ι := Unit) (fr' := fun (_ : Unit) => (jl f b4 b5 b17 L tk A7 S c8 i cV dN j ++ oK Ae j ce S tk ++ [(97, vI ((obj S.O ek).id))])) (hp' := fun (_ : Unit) => (ni b17 S i tk Ae j ce L b20 cV dN ++ cQ b5 An i cn K S A7 c8 b4 f m t L ++ [jk S L tk, .abs R])) [2, 13, 0] rfl rfl ?_ rfl (fun _ => by kernel_rfl) ?_
     ·refine gK 1 [(97, vI ((obj S.O ek).id))] [(0, v_ 13 (zK L hke))] ?_
      refine NL ?_
      exact MD () [0, 2, 3, 8, 11, 19, 20, 21, 79, 80, 81, 86, 87, 97] [0, 1, 2, 3, 4, 5, 6, 7, 8, 9, 10, 11, 12, 13, 14, 15, 16]
     rintro _
     refine aH.cut (ι := Unit) (fr' := fun (_ : Unit) => (jl f b4 b5 b17 L tk A7 S c8 i cV dN j ++ [(86, .slice Ae (j) (ce)), (98, .agg #[.string (dG (obj S.O tk).ah j), vI ((obj S.O ek).id)])])) (hp' := fun (_ : Unit) => (ni b17 S i tk Ae j ce L b20 cV dN ++ cQ b5 An i cn K S A7 c8 b4 f m t L ++ [jk S L tk, .abs R])) [2, 13, 0] rfl rfl ?_ rfl (fun _ => by kernel_rfl) ?_
     ·refine gK 1 [(98, .agg #[.string (dG (obj S.O tk).ah j), vI ((obj S.O ek).id)])] [] ?_
      refine NL ?_
      exact MD () [0, 2, 3, 8, 11, 19, 20, 21, 79, 80, 81, 86, 98] [0, 1, 2, 3, 4, 5, 6, 7, 8, 9, 10, 11, 12, 13, 14, 15, 16]
     rintro _
     refine mN [2, 13, 0] (fun yS => [(99, .slice (some ⟨yS, 0, none⟩) (1) (1))]) (fun _ => []) (fun yS => .blk yS [.string (dG (obj S.O tk).ah j), vI ((obj S.O ek).id)] 101) (fun yS => ?_)
     refine aH.cut (ι := (Option Addr) × Nat) (fr' := fun ((oQ, oR) : (Option Addr) × Nat) => (jl f b4 b5 b17 L tk A7 S c8 i cV dN j ++ [(100, .slice oQ ((j + 1)) (oR))])) (hp' := fun ((oQ, oR) : (Option Addr) × Nat) => ([lZ b17 S i tk Ae j ce, Aa oQ j oR S tk, qw L tk S, rG b20 L tk, rH cV S tk dN] ++ cQ b5 An i cn K S A7 c8 b4 f m t L ++ [jk S L tk, .abs R, Ab yS S tk j ek])) [2, 13, 0] rfl rfl ?_ rfl (fun _ => by kernel_rfl) ?_
     ·refine aj.append 1 (d := (some 100)) (t := 68) (e := 101) (z := .agg #[.string ⟨#[]⟩, vI 0]) (size := 2) (bytes := 24) (n := j) (cap := ce) (A := Ae) (xs := (fA (((obj S.O tk).ah.take j).map (iJ S.O)))) (s := (.tmp 86)) (x := (.tmp 99)) (ats := #[68, 68]) (A' := some ⟨yS, 0, none⟩) (m := 1) (c' := 1) (news := [.string (dG (obj S.O tk).ah j), vI ((obj S.O ek).id)]) (fun _ => by kernel_rfl) rfl (by kernel_rfl) (fun _ => by kernel_rfl) (fun _ => by kernel_rfl) Tryz.underlying68 (by kernel_rfl) rfl (by decide) (rfl) (by simp [Value.oneCell']) (kL (j := 17) rfl) (by unfold maxLen; omega) (by omega) (fun oQ oR => ?_)
      refine aj.dH 1 (p := .abs (aI 101 2 oQ (j + 1) oR ((fA (((obj S.O tk).ah.take j).map (iJ S.O))) ++ [.string (dG (obj S.O tk).ah j), vI ((obj S.O ek).id)]))) (p' := .abs (aI 101 2 oQ (j + 1) oR (fA (((obj S.O tk).ah.take (j + 1)).map (iJ S.O))))) (by kernel_rfl) (congrArg (fun x => HP.abs (aI 101 2 _ _ _ x)) (uQ hj2 HF)) ?_
      refine aj.slot 100 (.slice oQ (j + 1) (oR)) (.slice oQ ((j + 1)) (oR)) (fun _ => by kernel_rfl) (rfl) ?_
      refine NL ?_
      exact MD (oQ, oR) [0, 2, 3, 8, 11, 19, 20, 21, 79, 80, 81, 100] [0, 1, 2, 3, 4, 5, 6, 7, 8, 9, 10, 11, 12, 13, 14, 15, 16, 17]
     rintro ⟨oQ, oR⟩
     refine aH.cut (ι := Unit) (fr' := fun (_ : Unit) => (jl f b4 b5 b17 L tk A7 S c8 i cV dN j ++ [(100, .slice oQ ((j + 1)) (oR)), (101, .pointer (some ⟨b17, 9, none⟩))])) (hp' := fun (_ : Unit) => ([lZ b17 S i tk Ae j ce, Aa oQ j oR S tk, qw L tk S, rG b20 L tk, rH cV S tk dN] ++ cQ b5 An i cn K S A7 c8 b4 f m t L ++ [jk S L tk, .abs R, Ab yS S tk j ek])) [2, 13, 0] rfl rfl ?_ rfl (fun _ => by kernel_rfl) ?_
     ·refine gK 1 [(101, .pointer (some ⟨b17, 9, none⟩))] [] ?_
      refine NL ?_
      exact MD () [0, 2, 3, 8, 11, 19, 20, 21, 79, 80, 81, 100, 101] [0, 1, 2, 3, 4, 5, 6, 7, 8, 9, 10, 11, 12, 13, 14, 15, 16, 17]
     rintro _
     refine aH.last rfl rfl ?_
     refine gC 1 [] [(0, a_ 0 b17)] [(0, [(9, .slice oQ ((j + 1)) (oR))])] ?_
     refine NL (ai.np (ai.aL (NX (af.region ?_))))
     refine gK 2 [(81, vI ↑(j + 1))] [(0, p_ ⟨[], none, none, none, some (vI ↑(j + 1))⟩ [(Value.int .i64 (IntKind.wrap .i64 (((j : Nat) : Int) + 1))) = (.int .i64 ↑(j + 1))] ⟨bE (by omega) (by omega) (by omega), trivial⟩)] ?_
     refine NL ?_
     exact ai.turn ((j + 1), oQ, oR) (idx := [0, 2, 3, 8, 11, 19, 20, 21, 79, 80, 81]) (pk := [0, 1, 2, 3, 4, 5, 6, 7, 8, 9, 10, 11, 12, 13, 14, 15, 16]) (show (((j + 1)) ≤ (obj S.O tk).ah.length) from (by omega)) (by show (obj S.O tk).ah.length - ((j + 1)) < (obj S.O tk).ah.length - j; omega) (fun _ => by kernel_rfl) rfl (by kernel_rfl)
    ·have hke : (obj S.O ek).kind = 2 := hI.kind xh
     refine af.ck (S := [qw L tk S, pO S.O L, lZ b17 S i tk Ae j ce]) [0, 1, 2, 3, 4, 5, 6, 7, 8, 9, 10, 11, 12, 13, 14, 15, 16, 17] 9 [2, 13, 0] (by kernel_rfl) (by kernel_rfl) rfl (by kernel_rfl) ?_
     refine aH.reads (r := 1) (l := [8, 9, 10, 11, 12, 13, 14, 15, 16, 17]) (fr' := (jl f b4 b5 b17 L tk A7 S c8 i cV dN j ++ oK Ae j ce S tk ++ [(91, .map (some (L.m tk))), (92, .string (dG (obj S.O tk).ah j))])) (aU := [(∀ F w, (ak (aN S.O L)).h F w → w.cell? ⟨(L.b tk), 9, none⟩ = some (.map (some (L.m tk)))), b17 = b17]) [0, 1, 2, 3, 4, 5, 6, 7] [o_, ⟨[.at 2], none, none, none, none⟩, o_, o_, o_, o_, ⟨[.view 1 (.map (some (L.m tk)))], none, none, none, none⟩, o_] [0, 2, 3, 8, 11, 19, 20, 21, 79, 80, 81, 86, 87, 91, 92] (fun _ => by kernel_rfl) ⟨bp (by rw [hkt]; decide) (by rw [gV (hkt)]; rfl), rfl, trivial⟩ rfl rfl ?_
     refine aH.dm 0 (d := (some 93)) (t := 97) (K := 9) (E := 84) (b := (L.m tk)) (cnt := (obj S.O tk).ah.length) (f := (fX L (obj S.O tk).ah)) (x := (.tmp 91)) (ix := (.tmp 92)) (key := .string (dG (obj S.O tk).ah j)) (z := .nilIface) (kl := (.string (dG (obj S.O tk).ah j).data.toList)) (q := (some (cO L ⟨ek, 2⟩))) (by kernel_rfl) (by kernel_rfl) (fun _ => by kernel_rfl) (fun _ => by kernel_rfl) wK Tryz.underlying97 (fun _ => by kernel_rfl) (zx (by omega)) (by rw [pP, hle]; rfl) (by kernel_rfl) ?_
     refine mL [2, 13, 0] [] (cu (L.b ek)) ?_ (by rintro _ _ ⟨rfl, rfl⟩; rfl)
     rintro _ _ ⟨rfl, rfl⟩
     refine aH.cut (ι := Unit) (fr' := fun (_ : Unit) => (jl f b4 b5 b17 L tk A7 S c8 i cV dN j ++ oK Ae j ce S tk ++ [(95, vP (L.b ek))])) (hp' := fun (_ : Unit) => (ni b17 S i tk Ae j ce L b20 cV dN ++ cQ b5 An i cn K S A7 c8 b4 f m t L ++ [jk S L tk, .abs R])) [2, 13, 0] rfl rfl ?_ rfl (fun _ => by kernel_rfl) ?_
     ·refine gK 1 [(95, vP (L.b ek))] [] ?_
      refine NL ?_
      exact MD () [0, 2, 3, 8, 11, 19, 20, 21, 79, 80, 81, 86, 87, 95] [0, 1, 2, 3, 4, 5, 6, 7, 8, 9, 10, 11, 12, 13, 14, 15, 16]
     rintro _
     refine aH.cut (ι := Unit) (fr' := fun (_ : Unit) => (jl f b4 b5 b17 L tk A7 S c8 i cV dN j ++ oK Ae j ce S tk ++ [(96, vP (L.b ek))])) (hp' := fun (_ : Unit) => (ni b17 S i tk Ae j ce L b20 cV dN ++ cQ b5 An i cn K S A7 c8 b4 f m t L ++ [jk S L tk, .abs R])) [2, 13, 0] rfl rfl ?_ rfl (fun _ => by kernel_rfl) ?_
     ·refine gK 1 [(96, vP (L.b ek))] [] ?_
      refine NL ?_
      exact MD () [0, 2, 3, 8, 11, 19, 20, 21, 79, 80, 81, 86, 87, 96] [0, 1, 2, 3, 4, 5, 6, 7, 8, 9, 10, 11, 12, 13, 14, 15, 16]
     rintro _
     refine aH.cut (ι := Unit) (fr' := fun (_ : Unit) => (jl f b4 b5 b17 L tk A7 S c8 i cV dN j ++ oK Ae j ce S tk ++ [(97, vI ((obj S.O ek).id))])) (hp' := fun (_ : Unit) => (ni b17 S i tk Ae j ce L b20 cV dN ++ cQ b5 An i cn K S A7 c8 b4 f m t L ++ [jk S L tk, .abs R])) [2, 13, 0] rfl rfl ?_ rfl (fun _ => by kernel_rfl) ?_
     ·refine gK 1 [(97, vI ((obj S.O ek).id))] [(0, v_ 13 (zK L hke))] ?_
      refine NL ?_
      exact MD () [0, 2, 3, 8, 11, 19, 20, 21, 79, 80, 81, 86, 87, 97] [0, 1, 2, 3, 4, 5, 6, 7, 8, 9, 10, 11, 12, 13, 14, 15, 16]
     rintro _
     refine aH.cut (ι := Unit) (fr' := fun (_ : Unit) => (jl f b4 b5 b17 L tk A7 S c8 i cV dN j ++ [(86, .slice Ae (j) (ce)), (98, .agg #[.string (dG (obj S.O tk).ah j), vI ((obj S.O ek).id)])])) (hp' := fun (_ : Unit) => (ni b17 S i tk Ae j ce L b20 cV dN ++ cQ b5 An i cn K S A7 c8 b4 f m t L ++ [jk S L tk, .abs R])) [2, 13, 0] rfl rfl ?_ rfl (fun _ => by kernel_rfl) ?_
     ·refine gK 1 [(98, .agg #[.string (dG (obj S.O tk).ah j), vI ((obj S.O ek).id)])] [] ?_
      refine NL ?_
      exact MD () [0, 2, 3, 8, 11, 19, 20, 21, 79, 80, 81, 86, 98] [0, 1, 2, 3, 4, 5, 6, 7, 8, 9, 10, 11, 12, 13, 14, 15, 16]
     rintro _
     refine mN [2, 13, 0] (fun Dj => [(99, .slice (some ⟨Dj, 0, none⟩) (1) (1))]) (fun _ => []) (fun Dj => .blk Dj [.string (dG (obj S.O tk).ah j), vI ((obj S.O ek).id)] 101) (fun Dj => ?_)
     refine aH.cut (ι := (Option Addr) × Nat) (fr' := fun ((qX, qY) : (Option Addr) × Nat) => (jl f b4 b5 b17 L tk A7 S c8 i cV dN j ++ [(100, .slice qX ((j + 1)) (qY))])) (hp' := fun ((qX, qY) : (Option Addr) × Nat) => ([lZ b17 S i tk Ae j ce, Aa qX j qY S tk, qw L tk S, rG b20 L tk, rH cV S tk dN] ++ cQ b5 An i cn K S A7 c8 b4 f m t L ++ [jk S L tk, .abs R, Ab Dj S tk j ek])) [2, 13, 0] rfl rfl ?_ rfl (fun _ => by kernel_rfl) ?_
     ·refine aj.append 1 (d := (some 100)) (t := 68) (e := 101) (z := .agg #[.string ⟨#[]⟩, vI 0]) (size := 2) (bytes := 24) (n := j) (cap := ce) (A := Ae) (xs := (fA (((obj S.O tk).ah.take j).map (iJ S.O)))) (s := (.tmp 86)) (x := (.tmp 99)) (ats := #[68, 68]) (A' := some ⟨Dj, 0, none⟩) (m := 1) (c' := 1) (news := [.string (dG (obj S.O tk).ah j), vI ((obj S.O ek).id)]) (fun _ => by kernel_rfl) rfl (by kernel_rfl) (fun _ => by kernel_rfl) (fun _ => by kernel_rfl) Tryz.underlying68 (by kernel_rfl) rfl (by decide) (rfl) (by simp [Value.oneCell']) (kL (j := 17) rfl) (by unfold maxLen; omega) (by omega) (fun qX qY => ?_)
      refine aj.dH 1 (p := .abs (aI 101 2 qX (j + 1) qY ((fA (((obj S.O tk).ah.take j).map (iJ S.O))) ++ [.string (dG (obj S.O tk).ah j), vI ((obj S.O ek).id)]))) (p' := .abs (aI 101 2 qX (j + 1) qY (fA (((obj S.O tk).ah.take (j + 1)).map (iJ S.O))))) (by kernel_rfl) (congrArg (fun x => HP.abs (aI 101 2 _ _ _ x)) (uQ hj2 HF)) ?_
      refine aj.slot 100 (.slice qX (j + 1) (qY)) (.slice qX ((j + 1)) (qY)) (fun _ => by kernel_rfl) (rfl) ?_
      refine NL ?_
      exact MD (qX, qY) [0, 2, 3, 8, 11, 19, 20, 21, 79, 80, 81, 100] [0, 1, 2, 3, 4, 5, 6, 7, 8, 9, 10, 11, 12, 13, 14, 15, 16, 17]
     rintro ⟨qX, qY⟩
     refine aH.cut (ι := Unit) (fr' := fun (_ : Unit) => (jl f b4 b5 b17 L tk A7 S c8 i cV dN j ++ [(100, .slice qX ((j + 1)) (qY)), (101, .pointer (some ⟨b17, 9, none⟩))])) (hp' := fun (_ : Unit) => ([lZ b17 S i tk Ae j ce, Aa qX j qY S tk, qw L tk S, rG b20 L tk, rH cV S tk dN] ++ cQ b5 An i cn K S A7 c8 b4 f m t L ++ [jk S L tk, .abs R, Ab Dj S tk j ek])) [2, 13, 0] rfl rfl ?_ rfl (fun _ => by kernel_rfl) ?_
     ·refine gK 1 [(101, .pointer (some ⟨b17, 9, none⟩))] [] ?_
      refine NL ?_
      exact MD () [0, 2, 3, 8, 11, 19, 20, 21, 79, 80, 81, 100, 101] [0, 1, 2, 3, 4, 5, 6, 7, 8, 9, 10, 11, 12, 13, 14, 15, 16, 17]
     rintro _
     refine aH.last rfl rfl ?_
     refine gC 1 [] [(0, a_ 0 b17)] [(0, [(9, .slice qX ((j + 1)) (qY))])] ?_
     refine NL (ai.np (ai.aL (NX (af.region ?_))))
     refine gK 2 [(81, vI ↑(j + 1))] [(0, p_ ⟨[], none, none, none, some (vI ↑(j + 1))⟩ [(Value.int .i64 (IntKind.wrap .i64 (((j : Nat) : Int) + 1))) = (.int .i64 ↑(j + 1))] ⟨bE (by omega) (by omega) (by omega), trivial⟩)] ?_
     refine NL ?_
     exact ai.turn ((j + 1), qX, qY) (idx := [0, 2, 3, 8, 11, 19, 20, 21, 79, 80, 81]) (pk := [0, 1, 2, 3, 4, 5, 6, 7, 8, 9, 10, 11, 12, 13, 14, 15, 16]) (show (((j + 1)) ≤ (obj S.O tk).ah.length) from (by omega)) (by show (obj S.O tk).ah.length - ((j + 1)) < (obj S.O tk).ah.length - j; omega) (fun _ => by kernel_rfl) rfl (by kernel_rfl)
    have hke : (obj S.O ek).kind = 3 := hI.kind xh
    refine af.ck (S := [qw L tk S, pO S.O L, lZ b17 S i tk Ae j ce]) [0, 1, 2, 3, 4, 5, 6, 7, 8, 9, 10, 11, 12, 13, 14, 15, 16, 17] 9 [2, 13, 0] (by kernel_rfl) (by kernel_rfl) rfl (by kernel_rfl) ?_
    refine aH.reads (r := 1) (l := [8, 9, 10, 11, 12, 13, 14, 15, 16, 17]) (fr' := (jl f b4 b5 b17 L tk A7 S c8 i cV dN j ++ oK Ae j ce S tk ++ [(91, .map (some (L.m tk))), (92, .string (dG (obj S.O tk).ah j))])) (aU := [(∀ F w, (ak (aN S.O L)).h F w → w.cell? ⟨(L.b tk), 9, none⟩ = some (.map (some (L.m tk)))), b17 = b17]) [0, 1, 2, 3, 4, 5, 6, 7] [o_, ⟨[.at 2], none, none, none, none⟩, o_, o_, o_, o_, ⟨[.view 1 (.map (some (L.m tk)))], none, none, none, none⟩, o_] [0, 2, 3, 8, 11, 19, 20, 21, 79, 80, 81, 86, 87, 91, 92] (fun _ => by kernel_rfl) ⟨bp (by rw [hkt]; decide) (by rw [gV (hkt)]; rfl), rfl, trivial⟩ rfl rfl ?_
    refine aH.dm 0 (d := (some 93)) (t := 97) (K := 9) (E := 84) (b := (L.m tk)) (cnt := (obj S.O tk).ah.length) (f := (fX L (obj S.O tk).ah)) (x := (.tmp 91)) (ix := (.tmp 92)) (key := .string (dG (obj S.O tk).ah j)) (z := .nilIface) (kl := (.string (dG (obj S.O tk).ah j).data.toList)) (q := (some (cO L ⟨ek, 3⟩))) (by kernel_rfl) (by kernel_rfl) (fun _ => by kernel_rfl) (fun _ => by kernel_rfl) wK Tryz.underlying97 (fun _ => by kernel_rfl) (zx (by omega)) (by rw [pP, hle]; rfl) (by kernel_rfl) ?_
    refine mL [2, 13, 0] [] (cu (L.b ek)) ?_ (by rintro _ _ ⟨rfl, rfl⟩; rfl)
    rintro _ _ ⟨rfl, rfl⟩
    refine aH.cut (ι := Unit) (fr' := fun (_ : Unit) => (jl f b4 b5 b17 L tk A7 S c8 i cV dN j ++ oK Ae j ce S tk ++ [(95, vP (L.b ek))])) (hp' := fun (_ : Unit) => (ni b17 S i tk Ae j ce L b20 cV dN ++ cQ b5 An i cn K S A7 c8 b4 f m t L ++ [jk S L tk, .abs R])) [2, 13, 0] rfl rfl ?_ rfl (fun _ => by kernel_rfl) ?_
    ·refine gK 1 [(95, vP (L.b ek))] [] ?_
     refine NL ?_
     exact MD () [0, 2, 3, 8, 11, 19, 20, 21, 79, 80, 81, 86, 87, 95] [0, 1, 2, 3, 4, 5, 6, 7, 8, 9, 10, 11, 12, 13, 14, 15, 16]
    rintro _
    refine aH.cut (ι := Unit) (fr' := fun (_ : Unit) => (jl f b4 b5 b17 L tk A7 S c8 i cV dN j ++ oK Ae j ce S tk ++ [(96, vP (L.b ek))])) (hp' := fun (_ : Unit) => (ni b17 S i tk Ae j ce L b20 cV dN ++ cQ b5 An i cn K S A7 c8 b4 f m t L ++ [jk S L tk, .abs R])) [2, 13, 0] rfl rfl ?_ rfl (fun _ => by kernel_rfl) ?_
    ·refine gK 1 [(96, vP (L.b ek))] [] ?_
     refine NL ?_
     exact MD () [0, 2, 3, 8, 11, 19, 20, 21, 79, 80, 81, 86, 87, 96] [0, 1, 2, 3, 4, 5, 6, 7, 8, 9, 10, 11, 12, 13, 14, 15, 16]
    rintro _
    refine aH.cut (ι := Unit) (fr' := fun (_ : Unit) => (jl f b4 b5 b17 L tk A7 S c8 i cV dN j ++ oK Ae j ce S tk ++ [(97, vI ((obj S.O ek).id))])) (hp' := fun (_ : Unit) => (ni b17 S i tk Ae j ce L b20 cV dN ++ cQ b5 An i cn K S A7 c8 b4 f m t L ++ [jk S L tk, .abs R])) [2, 13, 0] rfl rfl ?_ rfl (fun _ => by kernel_rfl) ?_
    ·refine gK 1 [(97, vI ((obj S.O ek).id))] [(0, v_ 13 (zK L hke))] ?_
     refine NL ?_
     exact MD () [0, 2, 3, 8, 11, 19, 20, 21, 79, 80, 81, 86, 87, 97] [0, 1, 2, 3, 4, 5, 6, 7, 8, 9, 10, 11, 12, 13, 14, 15, 16]
    rintro _
    refine aH.cut (ι := Unit) (fr' := fun (_ : Unit) => (jl f b4 b5 b17 L tk A7 S c8 i cV dN j ++ [(86, .slice Ae (j) (ce)), (98, .agg #[.string (dG (obj S.O tk).ah j), vI ((obj S.O ek).id)])])) (hp' := fun (_ : Unit) => (ni b17 S i tk Ae j ce L b20 cV dN ++ cQ b5 An i cn K S A7 c8 b4 f m t L ++ [jk S L tk, .abs R])) [2, 13, 0] rfl rfl ?_ rfl (fun _ => by kernel_rfl) ?_
    ·refine gK 1 [(98, .agg #[.string (dG (obj S.O tk).ah j), vI ((obj S.O ek).id)])] [] ?_
     refine NL ?_
     exact MD () [0, 2, 3, 8, 11, 19, 20, 21, 79, 80, 81, 86, 98] [0, 1, 2, 3, 4, 5, 6, 7, 8, 9, 10, 11, 12, 13, 14, 15, 16]
    rintro _
    refine mN [2, 13, 0] (fun Dk => [(99, .slice (some ⟨Dk, 0, none⟩) (1) (1))]) (fun _ => []) (fun Dk => .blk Dk [.string (dG (obj S.O tk).ah j), vI ((obj S.O ek).id)] 101) (fun Dk => ?_)
    refine aH.cut (ι := (Option Addr) × Nat) (fr' := fun ((qZ, q4) : (Option Addr) × Nat) => (jl f b4 b5 b17 L tk A7 S c8 i cV dN j ++ [(100, .slice qZ ((j + 1)) (q4))])) (hp' := fun ((qZ, q4) : (Option Addr) × Nat) => ([lZ b17 S i tk Ae j ce, Aa qZ j q4 S tk, qw L tk S, rG b20 L tk, rH cV S tk dN] ++ cQ b5 An i cn K S A7 c8 b4 f m t L ++ [jk S L tk, .abs R, Ab Dk S tk j ek])) [2, 13, 0] rfl rfl ?_ rfl (fun _ => by kernel_rfl) ?_
    ·refine aj.append 1 (d := (some 100)) (t := 68) (e := 101) (z := .agg #[.string ⟨#[]⟩, vI 0]) (size := 2) (bytes := 24) (n := j) (cap := ce) (A := Ae) (xs := (fA (((obj S.O tk).ah.take j).map (iJ S.O)))) (s := (.tmp 86)) (x := (.tmp 99)) (ats := #[68, 68]) (A' := some ⟨Dk, 0, none⟩) (m := 1) (c' := 1) (news := [.string (dG (obj S.O tk).ah j), vI ((obj S.O ek).id)]) (fun _ => by kernel_rfl) rfl (by kernel_rfl) (fun _ => by kernel_rfl) (fun _ => by kernel_rfl) Tryz.underlying68 (by kernel_rfl) rfl (by decide) (rfl) (by simp [Value.oneCell']) (kL (j := 17) rfl) (by unfold maxLen; omega) (by omega) (fun qZ q4 => ?_)
     refine aj.dH 1 (p := .abs (aI 101 2 qZ (j + 1) q4 ((fA (((obj S.O tk).ah.take j).map (iJ S.O))) ++ [.string (dG (obj S.O tk).ah j), vI ((obj S.O ek).id)]))) (p' := .abs (aI 101 2 qZ (j + 1) q4 (fA (((obj S.O tk).ah.take (j + 1)).map (iJ S.O))))) (by kernel_rfl) (congrArg (fun x => HP.abs (aI 101 2 _ _ _ x)) (uQ hj2 HF)) ?_
     refine aj.slot 100 (.slice qZ (j + 1) (q4)) (.slice qZ ((j + 1)) (q4)) (fun _ => by kernel_rfl) (rfl) ?_
     refine NL ?_
     exact MD (qZ, q4) [0, 2, 3, 8, 11, 19, 20, 21, 79, 80, 81, 100] [0, 1, 2, 3, 4, 5, 6, 7, 8, 9, 10, 11, 12, 13, 14, 15, 16, 17]
    rintro ⟨qZ, q4⟩
    refine aH.cut (ι := Unit) (fr' := fun (_ : Unit) => (jl f b4 b5 b17 L tk A7 S c8 i cV dN j ++ [(100, .slice qZ ((j + 1)) (q4)), (101, .pointer (some ⟨b17, 9, none⟩))])) (hp' := fun (_ : Unit) => ([lZ b17 S i tk Ae j ce, Aa qZ j q4 S tk, qw L tk S, rG b20 L tk, rH cV S tk dN] ++ cQ b5 An i cn K S A7 c8 b4 f m t L ++ [jk S L tk, .abs R, Ab Dk S tk j ek])) [2, 13, 0] rfl rfl ?_ rfl (fun _ => by kernel_rfl) ?_
    ·refine gK 1 [(101, .pointer (some ⟨b17, 9, none⟩))] [] ?_
     refine NL ?_
     exact MD () [0, 2, 3, 8, 11, 19, 20, 21, 79, 80, 81, 100, 101] [0, 1, 2, 3, 4, 5, 6, 7, 8, 9, 10, 11, 12, 13, 14, 15, 16, 17]
    rintro _
    refine aH.last rfl rfl ?_
    refine gC 1 [] [(0, a_ 0 b17)] [(0, [(9, .slice qZ ((j + 1)) (q4))])] ?_
    refine NL (ai.np (ai.aL (NX (af.region ?_))))
    refine gK 2 [(81, vI ↑(j + 1))] [(0, p_ ⟨[], none, none, none, some (vI ↑(j + 1))⟩ [(Value.int .i64 (IntKind.wrap .i64 (((j : Nat) : Int) + 1))) = (.int .i64 ↑(j + 1))] ⟨bE (by omega) (by omega) (by omega), trivial⟩)] ?_
    refine NL ?_
    exact ai.turn ((j + 1), qZ, q4) (idx := [0, 2, 3, 8, 11, 19, 20, 21, 79, 80, 81]) (pk := [0, 1, 2, 3, 4, 5, 6, 7, 8, 9, 10, 11, 12, 13, 14, 15, 16]) (show (((j + 1)) ≤ (obj S.O tk).ah.length) from (by omega)) (by show (obj S.O tk).ah.length - ((j + 1)) < (obj S.O tk).ah.length - j; omega) (fun _ => by kernel_rfl) rfl (by kernel_rfl)
   refine af.exit (ai.aT (ai.aT (ai.bX (ai.aL (NX (af.region ?_))))))
   have hjl : j = (obj S.O tk).ah.length := by omega
   refine aj.mem (aP := ([pE S.O L, lZ b17 S i tk Ae j ce, FL Ae j ce S tk, rG b20 L tk, rH cV S tk dN] ++ cQ b5 An i cn K S A7 c8 b4 f m t L ++ [.abs R])) (fun w hS => hS.L5 (i := 15) (j := 2) (idx := [0, 1, 3, 4, 5, 6, 7, 8, 9, 10, 11, 12, 13, 14, 16]) (k := tk) rfl rfl (by kernel_rfl) rfl (hkt)) ?_
   refine gN 4 (fun b32 => [(104, .slice An (i) (cn)), (106, .slice (some ⟨b32, 0, none⟩) (1) (1))]) (fun b32 => [(1, a_ 5 b5), (2, A_ 1 b17 10)]) (fun _ => []) (fun b32 => .blk b32 [vI ((bS S i)), vI 2, vI ((obj S.O tk).mode), vI ((obj S.O tk).uid), vI ((obj S.O tk).gid), vI ((obj S.O tk).sec), vI ((obj S.O tk).nano), .slice none (0) (0), .string ⟨#[]⟩, .slice Ae (j) (ce)] 70) (fun b32 => ?_)
   refine aj.append 6 (d := (some 107)) (t := 22) (e := 70) (z := .agg #[vI 0, vI 0, vI 0, vI 0, vI 0, vI 0, vI 0, .slice none (0) (0), .string ⟨#[]⟩, .slice none (0) (0)]) (size := 10) (bytes := 120) (n := i) (cap := cn) (A := An) (xs := (cr K ((ax S).take i))) (s := (.tmp 104)) (x := (.tmp 106)) (ats := #[22, 22]) (A' := some ⟨b32, 0, none⟩) (m := 1) (c' := 1) (news := [vI ((bS S i)), vI 2, vI ((obj S.O tk).mode), vI ((obj S.O tk).uid), vI ((obj S.O tk).gid), vI ((obj S.O tk).sec), vI ((obj S.O tk).nano), .slice none (0) (0), .string ⟨#[]⟩, .slice Ae (j) (ce)]) (fun _ => by kernel_rfl) rfl (by kernel_rfl) (fun _ => by kernel_rfl) (fun _ => by kernel_rfl) Tryz.underlying22 (by kernel_rfl) rfl (by decide) (rfl) (by simp [Value.oneCell']) (kL (j := 16) rfl) (by unfold maxLen; omega) (by omega) (fun tM tN => ?_)
   refine aj.dH 6 (p := .abs (aI 70 10 tM (i + 1) tN ((cr K ((ax S).take i)) ++ [vI ((bS S i)), vI 2, vI ((obj S.O tk).mode), vI ((obj S.O tk).uid), vI ((obj S.O tk).gid), vI ((obj S.O tk).sec), vI ((obj S.O tk).nano), .slice none (0) (0), .string ⟨#[]⟩, .slice Ae (j) (ce)]))) (p' := .abs (aI 70 10 tM (i + 1) tN (cr (K.put i none 0 Ae ce) ((ax S).take (i + 1))))) (by kernel_rfl) (congrArg (fun x => HP.abs (aI 70 10 _ _ _ x)) (sZ (cP (by omega)) (qu hI.toInv0 hi2 jJ hlv) rfl (by show ((obj S.O tk).ah.map (iJ S.O)).length = j; rw [List.length_map, hjl]))) ?_
   refine aj.slot 107 (.slice tM (i + 1) (tN)) (.slice tM ((i + 1)) (tN)) (fun _ => by kernel_rfl) (rfl) ?_
   refine gC 2 [] [(1, a_ 5 b5)] [(5, [(0, .slice tM ((i + 1)) (tN))])] ?_
   refine NL (ai.aL (NX (af.region ?_)))
   refine gK 2 [(21, vI ↑(i + 1))] [(0, p_ ⟨[], none, none, none, some (vI ↑(i + 1))⟩ [(Value.int .i64 (IntKind.wrap .i64 (((i : Nat) : Int) + 1))) = (.int .i64 ↑(i + 1))] ⟨bE (by omega) (by omega) (by omega), trivial⟩)] ?_
   refine NL ?_
   refine ai.mem (aP := ([pE S.O L, lZ b17 S i tk Ae j ce, FL Ae j ce S tk, rG b20 L tk, rH cV S tk dN, tf b5 tM i tN, .abs (aI 70 10 tM (i + 1) tN (cr (K.put i none 0 Ae ce) ((ax S).take (i + 1)))), v8 S i K, Dg S i K] ++ qx A7 S c8 b4 f m t L ++ [pD S.O L, .abs R, lZ b32 S i tk Ae j ce, KG])) (fun w hS => hS.jX (e := 5) (size := 1)) ?_
   refine ai.mem (aP := ([.abs (fw (ig ((ax S).take (i + 1)) (K.put i none 0 Ae ce)) (i + 1)), pE S.O L, lZ b17 S i tk Ae j ce, FL Ae j ce S tk, rG b20 L tk, rH cV S tk dN, tf b5 tM i tN, .abs (aI 70 10 tM (i + 1) tN (cr (K.put i none 0 Ae ce) ((ax S).take (i + 1)))), v8 S i K] ++ qx A7 S c8 b4 f m t L ++ [pD S.O L, .abs R, lZ b32 S i tk Ae j ce])) (fun w hS => hS.pN (R' := (ig ((ax S).take (i + 1)) (K.put i none 0 Ae ce))) (i := 8) (j := 17) (idx := [0, 1, 2, 3, 4, 5, 6, 7, 9, 10, 11, 12, 13, 14, 15, 16]) rfl rfl (by kernel_rfl) rfl (xj (cP (by omega)) (qu hI.toInv0 hi2 jJ hlv)) (uO (cP (by omega)) (qu hI.toInv0 hi2 jJ hlv) rfl)) ?_
   refine ai.mem (aP := [.abs (fw (iT ((ax S).take (i + 1)) (K.put i none 0 Ae ce)) (i + 1)), .abs (fw (ig ((ax S).take (i + 1)) (K.put i none 0 Ae ce)) (i + 1)), .abs (ak (bh S.O L)), .blk b17 [vI ((bS S i)), vI 2, vI ((obj S.O tk).mode), vI ((obj S.O tk).uid), vI ((obj S.O tk).gid), vI ((obj S.O tk).sec), vI ((obj S.O tk).nano), .slice none (0) (0), .string ⟨#[]⟩, .slice Ae (j) (ce)] 70, .blk b20 [.map (some (L.m tk))] 97, .abs (aI 9 1 cV ((obj S.O tk).ah.length) dN (mZ (obj S.O tk).ah)), .blk b5 [.slice tM ((i + 1)) (tN)] 24, .abs (aI 70 10 tM (i + 1) tN (cr (K.put i none 0 Ae ce) ((ax S).take (i + 1)))), .abs (aI 3 1 A7 ((keys S.idx).length) c8 (ints (keys S.idx))), .blk b4 [.slice none (0) (0)] 24, .blk f [vI (S.X.cN), vI (S.X.cB), vI (S.X.cH), vI (S.X.cS), vI (S.X.cZ), .map (some m), vP t, vI (S.X.last), vI (S.X.ah), vI (S.X.used)] 86, .abs (aE Tryz.prog 3 m (aO (aK L S.idx)) S.idx.length), .abs (ak (aN S.O L)), .abs (ak (aY S.O L)), .abs R, .blk b32 [vI ((bS S i)), vI 2, vI ((obj S.O tk).mode), vI ((obj S.O tk).uid), vI ((obj S.O tk).gid), vI ((obj S.O tk).sec), vI ((obj S.O tk).nano), .slice none (0) (0), .string ⟨#[]⟩, .slice Ae (j) (ce)] 70]) (fun w hS => hS.pN (R' := (iT ((ax S).take (i + 1)) (K.put i none 0 Ae ce))) (i := 8) (j := 3) (idx := [0, 1, 2, 4, 5, 6, 7, 9, 10, 11, 12, 13, 14, 15, 16]) rfl rfl (by kernel_rfl) rfl (xk (cP (by omega)) (qu hI.toInv0 hi2 jJ hlv)) ((uP (cP (by omega)) (qu hI.toInv0 hi2 jJ hlv) (by show ((obj S.O tk).ah.map (iJ S.O)).length = j; rw [List.length_map, hjl])).trans (by rw [hjl, List.take_length]))) ?_
   exact ai.turn ((i + 1), tM, tN, (K.put i none 0 Ae ce)) (idx := [0, 2, 3, 19, 20, 21]) (pk := [6, 7, 0, 1, 8, 9, 10, 11, 12, 13, 2, 14]) (show (((i + 1)) ≤ S.idx.length) from (by omega)) (by show S.idx.length - ((i + 1)) < S.idx.length - i; omega) (fun _ => by kernel_rfl) rfl (by kernel_rfl)
  have hkt : (obj S.O tk).kind = 3 := hI.kind hlv
  have hel : (obj S.O tk).ah.length ≤ 8192 := hI.eV hlv
  have hdl : (obj S.O tk).data.length ≤ 140737488355328 := hI.EZ hlv
  refine af.region ?_
  refine gK 5 [(28, .map (some m)), (29, vI ((bS S i)))] [(3, a_ 6 f)] ?_
  refine aj.dm 7 (d := (some 30)) (t := 80) (K := 3) (E := 84) (b := m) (n := S.idx.length) (f := (aO (aK L S.idx))) (x := (.tmp 28)) (ix := (.tmp 29)) (key := .int .i64 ((bS S i))) (z := .nilIface) (kl := (.int .i64 (bS S i))) (r := (some (cO L ⟨tk, 3⟩))) (fun _ => by kernel_rfl) (by kernel_rfl) (fun _ => by kernel_rfl) (fun _ => by kernel_rfl) cU Tryz.underlying80 (fun _ => by kernel_rfl) (gX (zY hI.toInv0 hi2)) (by rw [dQ, hget, jJ]; rfl) ?_
  refine gK 1 [(6, .iface 93 (vP (L.b tk)))] [] ?_
  refine NS ?_
  refine gK 1 [(31, .iface 93 (vP (L.b tk)))] [] ?_
  refine gL [] (cu (L.b tk)) ?_
  rintro _ _ ⟨rfl, rfl⟩
  refine gK 1 [(7, vP (L.b tk))] [] ?_
  refine NN (af.seq ?_)
  refine af.pG (S := [pO S.O L]) [0, 1, 3, 4, 5, 6, 7, 8, 9, 10, 11, 12, 13, 14, 15, 16, 17, 18] [.three 2 19 20, .one 21] [8] (by kernel_rfl) (by kernel_rfl) rfl (by kernel_rfl) ?_
  refine fS.reads (rs := []) (fr' := ([(0, vP f), (2, vP b4), (3, vP b5), (6, .iface 93 (vP (L.b tk)))] ++ Ac A7 S c8 i ++ [(33, vI (bS S i)), (34, .iface 93 (vP (L.b tk)))] ++ JH S tk)) (aU := [(∀ F w, (ak (aN S.O L)).h F w → w.cell? ⟨(L.b tk), 5, none⟩ = some (vI ((obj S.O tk).nano))), (∀ F w, (ak (aN S.O L)).h F w → w.cell? ⟨(L.b tk), 4, none⟩ = some (vI ((obj S.O tk).sec))), (∀ F w, (ak (aN S.O L)).h F w → w.cell? ⟨(L.b tk), 3, none⟩ = some (vI ((obj S.O tk).gid))), (∀ F w, (ak (aN S.O L)).h F w → w.cell? ⟨(L.b tk), 2, none⟩ = some (vI ((obj S.O tk).uid))), (∀ F w, (ak (aN S.O L)).h F w → w.cell? ⟨(L.b tk), 1, none⟩ = some (vI ((obj S.O tk).mode)))]) [0, 1, 3, 4, 5, 6, 7, 8, 9, 10, 11, 12, 13, 14, 15, 16, 17, 18] [o_, o_, o_, o_, o_, ⟨[.view 0 (.int .i64 ((obj S.O tk).mode))], none, none, none, none⟩, o_, o_, o_, ⟨[.view 0 (.int .i64 ((obj S.O tk).uid))], none, none, none, none⟩, o_, o_, o_, ⟨[.view 0 (.int .i64 ((obj S.O tk).gid))], none, none, none, none⟩, o_, o_, o_, ⟨[.view 0 (.int .i64 ((obj S.O tk).sec)), .view 0 (.int .i64 ((obj S.O tk).nano))], none, none, none, none⟩] [0, 2, 3, 6, 19, 20, 21, 33, 34, 39, 43, 47, 51] (fun _ => by kernel_rfl) ⟨bp (by rw [hkt]; decide) (rfl), bp (by rw [hkt]; decide) (rfl), bp (by rw [hkt]; decide) (rfl), bp (by rw [hkt]; decide) (rfl), bp (by rw [hkt]; decide) (rfl), trivial⟩ ?_
  refine fS.three (ι := Nat) (fa := fun (_ : Unit) => (fY f b4 b5 ++ [(6, .iface 93 (vP (L.b tk)))] ++ rI A7 S c8 i ++ [(33, vI ((bS S i))), (35, vI 3)] ++ jm S tk)) (ha := fun (_ : Unit) => (cQ b5 An i cn K S A7 c8 b4 f m t L ++ [pE S.O L, .abs R])) (Hv := Unit) (fb := fun (_ : Unit) => (fY f b4 b5 ++ [(6, .iface 93 (vP (L.b tk)))] ++ rI A7 S c8 i ++ [(52, .agg #[vI ((bS S i)), vI 3, vI ((obj S.O tk).mode), vI ((obj S.O tk).uid), vI ((obj S.O tk).gid), vI ((obj S.O tk).sec), vI ((obj S.O tk).nano), .slice none (0) (0), .string ⟨#[]⟩, .slice none (0) (0)])])) (hb := fun (_ : Unit) => (cQ b5 An i cn K S A7 c8 b4 f m t L ++ [pE S.O L, .abs R])) (Hw := Unit) (fc := fun (sj : Nat) => (fY f b4 b5 ++ [(6, .iface 93 (vP (L.b tk)))] ++ j9 sj A7 S c8 i ++ [(35, vI 3)] ++ jm S tk)) (hc := fun (sj : Nat) => (cQ b5 An i cn K S A7 c8 b4 f m t L ++ [pE S.O L, .abs R, lF sj])) (Hy := Nat) (fd := fun (lG : Nat) => (fY f b4 b5 ++ [(6, .iface 93 (vP (L.b tk)))] ++ j9 lG A7 S c8 i ++ [(34, .iface 93 (vP (L.b tk)))] ++ jm S tk)) (hd := fun (lG : Nat) => (cQ b5 An i cn K S A7 c8 b4 f m t L ++ [pE S.O L, .abs R, lF lG])) (Hz := Nat) (fe := fun (lG : Nat) => (fY f b4 b5 ++ [(6, .iface 93 (vP (L.b tk)))] ++ j9 lG A7 S c8 i ++ [(35, vI 3)] ++ jm S tk)) (he := fun (lG : Nat) => (cQ b5 An i cn K S A7 c8 b4 f m t L ++ [pE S.O L, .abs R, lF lG])) (HB := Nat) (fr' := fun (ng : Nat) => ([(0, vP f), (2, vP b4), (3, vP b5), (6, .iface 93 (vP (L.b tk))), (8, vP ng)] ++ Ac A7 S c8 i ++ [(52, .agg #[vI (bS S i), vI 3, vI ((obj S.O tk).mode), vI ((obj S.O tk).uid), vI ((obj S.O tk).gid), vI ((obj S.O tk).sec), vI ((obj S.O tk).nano), .slice none (0) (0), .string ⟨#[]⟩, .slice none (0) (0)])])) (hp' := fun (ng : Nat) => (cQ b5 An i cn K S A7 c8 b4 f m t L ++ [pE S.O L, .abs R, lF ng])) [8] [8] [8] [8] [8] [8] rfl rfl rfl rfl rfl rfl ?_ ?_ ?_ ?_ ?_ ?_ ?_ ?_ rfl (fun _ => by kernel_rfl) rfl (fun _ => by kernel_rfl) rfl (fun _ => by kernel_rfl) rfl (fun _ => by kernel_rfl) rfl (fun _ => by kernel_rfl) rfl (fun _ => by kernel_rfl) ?_
  ·refine gL [] (kC (vP (L.b tk))) ?_
   rintro _ _ ⟨rfl, rfl⟩
   refine NL ?_
   exact MD () [0, 2, 3, 6, 19, 20, 21, 33, 35, 39, 43, 47, 51] [0, 1, 2, 3, 4, 5, 6, 7, 8, 9, 10, 11]
  ·rintro _
   refine gK 1 [(52, .agg #[vI ((bS S i)), vI 3, vI ((obj S.O tk).mode), vI ((obj S.O tk).uid), vI ((obj S.O tk).gid), vI ((obj S.O tk).sec), vI ((obj S.O tk).nano), .slice none (0) (0), .string ⟨#[]⟩, .slice none (0) (0)])] [] ?_
   refine NL ?_
   exact MD () [0, 2, 3, 6, 19, 20, 21, 52] [0, 1, 2, 3, 4, 5, 6, 7, 8, 9, 10, 11]
  ·rintro _
   refine gN 1 (fun ng => [(8, vP ng)]) (fun _ => []) (fun _ => []) (fun ng => .blk ng [vI 0, vI 0, vI 0, vI 0, vI 0, vI 0, vI 0, .slice none (0) (0), .string ⟨#[]⟩, .slice none (0) (0)] 70) (fun ng => ?_)
   refine NL ?_
   exact MD ng [0, 2, 3, 6, 8, 19, 20, 21, 52] [0, 1, 2, 3, 4, 5, 6, 7, 8, 9, 10, 11, 12]
  ·rintro _
   refine gN 1 (fun sj => [(8, vP sj)]) (fun _ => []) (fun _ => []) (fun sj => .blk sj [vI 0, vI 0, vI 0, vI 0, vI 0, vI 0, vI 0, .slice none (0) (0), .string ⟨#[]⟩, .slice none (0) (0)] 70) (fun sj => ?_)
   refine NL ?_
   exact MD sj [0, 2, 3, 6, 8, 19, 20, 21, 33, 35, 39, 43, 47, 51] [0, 1, 2, 3, 4, 5, 6, 7, 8, 9, 10, 11, 12]
  ·rintro sj
   show aj _ _ _ _ _ (fY f b4 b5 ++ [(6, .iface 93 (vP (L.b tk)))] ++ j9 sj A7 S c8 i ++ [(35, vI 3)] ++ jm S tk) (cQ b5 An i cn K S A7 c8 b4 f m t L ++ [pE S.O L, .abs R, lF sj]) _
   refine gK 1 [(52, .agg #[vI ((bS S i)), vI 3, vI ((obj S.O tk).mode), vI ((obj S.O tk).uid), vI ((obj S.O tk).gid), vI ((obj S.O tk).sec), vI ((obj S.O tk).nano), .slice none (0) (0), .string ⟨#[]⟩, .slice none (0) (0)])] [] ?_
   refine NL ?_
   exact MD sj [0, 2, 3, 6, 8, 19, 20, 21, 52] [0, 1, 2, 3, 4, 5, 6, 7, 8, 9, 10, 11, 12]
  ·refine gN 1 (fun lG => [(8, vP lG)]) (fun _ => []) (fun _ => []) (fun lG => .blk lG [vI 0, vI 0, vI 0, vI 0, vI 0, vI 0, vI 0, .slice none (0) (0), .string ⟨#[]⟩, .slice none (0) (0)] 70) (fun lG => ?_)
   refine NL ?_
   exact MD lG [0, 2, 3, 6, 8, 19, 20, 21, 33, 34, 39, 43, 47, 51] [0, 1, 2, 3, 4, 5, 6, 7, 8, 9, 10, 11, 12]
  ·rintro lG
   show aj _ _ _ _ _ (fY f b4 b5 ++ [(6, .iface 93 (vP (L.b tk)))] ++ j9 lG A7 S c8 i ++ [(34, .iface 93 (vP (L.b tk)))] ++ jm S tk) (cQ b5 An i cn K S A7 c8 b4 f m t L ++ [pE S.O L, .abs R, lF lG]) _
   refine gL [] (kC (vP (L.b tk))) ?_
   rintro _ _ ⟨rfl, rfl⟩
   refine NL ?_
   exact MD lG [0, 2, 3, 6, 8, 19, 20, 21, 33, 35, 39, 43, 47, 51] [0, 1, 2, 3, 4, 5, 6, 7, 8, 9, 10, 11, 12]
  ·rintro lG
   show aj _ _ _ _ _ (fY f b4 b5 ++ [(6, .iface 93 (vP (L.b tk)))] ++ j9 lG A7 S c8 i ++ [(35, vI 3)] ++ jm S tk) (cQ b5 An i cn K S A7 c8 b4 f m t L ++ [pE S.O L, .abs R, lF lG]) _
   refine gK 1 [(52, .agg #[vI ((bS S i)), vI 3, vI ((obj S.O tk).mode), vI ((obj S.O tk).uid), vI ((obj S.O tk).gid), vI ((obj S.O tk).sec), vI ((obj S.O tk).nano), .slice none (0) (0), .string ⟨#[]⟩, .slice none (0) (0)])] [] ?_
   refine NL ?_
   exact MD lG [0, 2, 3, 6, 8, 19, 20, 21, 52] [0, 1, 2, 3, 4, 5, 6, 7, 8, 9, 10, 11, 12]
  rintro ng
  refine fS.last rfl rfl ?_
  refine gC 1 [] [(0, A_ 12 ng 10)] [(12, ([(0, vI ((bS S i))), (1, vI 3)] ++ JG S tk))] ?_
  refine NL (ai.np (NX (af.seq (SR ?_))))
  refine gK 1 [(53, .iface 93 (vP (L.b tk)))] [] ?_
  refine NN (af.block (SR ?_))
  refine gK 3 [(55, .bool false), (56, .pointer none)] [] ?_
  refine NN ?_
  refine CF ?_
  refine SR ?_
  refine gK 3 [(64, .bool true), (65, vP (L.b tk))] [] ?_
  refine NN ?_
  refine CT ?_
  refine SR ?_
  refine gK 1 [(10, vP (L.b tk))] [] ?_
  refine NN (af.region ?_)
  refine gC 6 [] [(3, v_ 8 (Og L hkt)), (5, a_ 12 ng)] [(12, [(8, .string (obj S.O tk).target)])] ?_
  refine NL (ai.aL (NX (af.region ?_)))
  refine gN 4 (fun wh => [(104, .slice An (i) (cn)), (106, .slice (some ⟨wh, 0, none⟩) (1) (1))]) (fun wh => [(1, a_ 0 b5), (2, A_ 12 ng 10)]) (fun _ => []) (fun wh => .blk wh [vI ((bS S i)), vI 3, vI ((obj S.O tk).mode), vI ((obj S.O tk).uid), vI ((obj S.O tk).gid), vI ((obj S.O tk).sec), vI ((obj S.O tk).nano), .slice none (0) (0), .string (obj S.O tk).target, .slice none (0) (0)] 70) (fun wh => ?_)
  refine aj.append 1 (d := (some 107)) (t := 22) (e := 70) (z := .agg #[vI 0, vI 0, vI 0, vI 0, vI 0, vI 0, vI 0, .slice none (0) (0), .string ⟨#[]⟩, .slice none (0) (0)]) (size := 10) (bytes := 120) (n := i) (cap := cn) (A := An) (xs := (cr K ((ax S).take i))) (s := (.tmp 104)) (x := (.tmp 106)) (ats := #[22, 22]) (A' := some ⟨wh, 0, none⟩) (m := 1) (c' := 1) (news := [vI ((bS S i)), vI 3, vI ((obj S.O tk).mode), vI ((obj S.O tk).uid), vI ((obj S.O tk).gid), vI ((obj S.O tk).sec), vI ((obj S.O tk).nano), .slice none (0) (0), .string (obj S.O tk).target, .slice none (0) (0)]) (fun _ => by kernel_rfl) rfl (by kernel_rfl) (fun _ => by kernel_rfl) (fun _ => by kernel_rfl) Tryz.underlying22 (by kernel_rfl) rfl (by decide) (rfl) (by simp [Value.oneCell']) (kL (j := 13) rfl) (by unfold maxLen; omega) (by omega) (fun oU oV => ?_)
  refine aj.dH 1 (p := .abs (aI 70 10 oU (i + 1) oV ((cr K ((ax S).take i)) ++ [vI ((bS S i)), vI 3, vI ((obj S.O tk).mode), vI ((obj S.O tk).uid), vI ((obj S.O tk).gid), vI ((obj S.O tk).sec), vI ((obj S.O tk).nano), .slice none (0) (0), .string (obj S.O tk).target, .slice none (0) (0)]))) (p' := .abs (aI 70 10 oU (i + 1) oV (cr (K.put i none 0 none 0) ((ax S).take (i + 1))))) (by kernel_rfl) (congrArg (fun x => HP.abs (aI 70 10 _ _ _ x)) (sZ (cP (by omega)) (oB hI.toInv0 hi2 jJ hlv) rfl rfl)) ?_
  refine aj.slot 107 (.slice oU (i + 1) (oV)) (.slice oU ((i + 1)) (oV)) (fun _ => by kernel_rfl) (rfl) ?_
  refine gC 2 [] [(1, a_ 0 b5)] [(0, [(0, .slice oU ((i + 1)) (oV))])] ?_
  refine NL (ai.aL (NX (af.region ?_)))
  refine gK 2 [(21, vI ↑(i + 1))] [(0, p_ ⟨[], none, none, none, some (vI ↑(i + 1))⟩ [(Value.int .i64 (IntKind.wrap .i64 (((i : Nat) : Int) + 1))) = (.int .i64 ↑(i + 1))] ⟨bE (by omega) (by omega) (by omega), trivial⟩)] ?_
  refine NL ?_
  refine ai.mem (aP := ([tf b5 oU i oV, FN oU i oV K S, v8 S i K, Dg S i K] ++ qx A7 S c8 b4 f m t L ++ [pD S.O L, pE S.O L, .abs R, uR ng S i tk, uR wh S i tk, KG])) (fun w hS => hS.jX (e := 5) (size := 1)) ?_
  refine ai.mem (aP := ([tf b5 oU i oV, FN oU i oV K S, v8 S i K, Dg S i K] ++ qx A7 S c8 b4 f m t L ++ [pD S.O L, pE S.O L, .abs R, uR ng S i tk, uR wh S i tk, KG, FK])) (fun w hS => hS.jX (e := 101) (size := 2)) ?_
  refine ai.mem (aP := ([.abs (fw (ig ((ax S).take (i + 1)) (K.put i none 0 none 0)) (i + 1)), tf b5 oU i oV, FN oU i oV K S, v8 S i K] ++ qx A7 S c8 b4 f m t L ++ [pD S.O L, pE S.O L, .abs R, uR ng S i tk, uR wh S i tk, FK])) (fun w hS => hS.pN (R' := (ig ((ax S).take (i + 1)) (K.put i none 0 none 0))) (i := 3) (j := 14) (idx := [0, 1, 2, 4, 5, 6, 7, 8, 9, 10, 11, 12, 13, 15]) rfl rfl (by kernel_rfl) rfl (xj (cP (by omega)) (oB hI.toInv0 hi2 jJ hlv)) (uO (cP (by omega)) (oB hI.toInv0 hi2 jJ hlv) rfl)) ?_
  refine ai.mem (aP := ([.abs (fw (iT ((ax S).take (i + 1)) (K.put i none 0 none 0)) (i + 1)), .abs (fw (ig ((ax S).take (i + 1)) (K.put i none 0 none 0)) (i + 1)), tf b5 oU i oV, FN oU i oV K S] ++ qx A7 S c8 b4 f m t L ++ [pD S.O L, pE S.O L, .abs R, uR ng S i tk, uR wh S i tk])) (fun w hS => hS.pN (R' := (iT ((ax S).take (i + 1)) (K.put i none 0 none 0))) (i := 3) (j := 14) (idx := [0, 1, 2, 4, 5, 6, 7, 8, 9, 10, 11, 12, 13]) rfl rfl (by kernel_rfl) rfl (xk (cP (by omega)) (oB hI.toInv0 hi2 jJ hlv)) ((uP (cP (by omega)) (oB hI.toInv0 hi2 jJ hlv) rfl))) ?_
  exact ai.turn ((i + 1), oU, oV, (K.put i none 0 none 0)) (idx := [0, 2, 3, 19, 20, 21]) (pk := [2, 3, 0, 1, 4, 5, 6, 7, 8, 9, 10, 11]) (show (((i + 1)) ≤ S.idx.length) from (by omega)) (by show S.idx.length - ((i + 1)) < S.idx.length - i; omega) (fun _ => by kernel_rfl) rfl (by kernel_rfl)
 refine af.exit (ai.aT (ai.aT (ai.bX (NX (SR ?_)))))
 have hie : (ax S).length = i := by rw [fR]; omega
 have hgt : ((ax S).take i) = (ax S) := by rw [← hie, List.take_length]
 refine aj.dH 1 (p := .abs (aI 70 10 An i cn (cr K ((ax S).take i)))) (p' := .abs (aI 70 10 An ((ax S).length) cn (cr K (ax S)))) (by kernel_rfl) (by rw [hgt, hie]) ?_
 refine aj.dH 2 (p := .abs (fw (iT ((ax S).take i) K) i)) (p' := .abs (fw (iT (ax S) K) ((ax S).length))) (by kernel_rfl) (by rw [hgt, hie]) ?_
 refine aj.dH 3 (p := .abs (fw (ig ((ax S).take i) K) i)) (p' := .abs (fw (ig (ax S) K) ((ax S).length))) (by kernel_rfl) (by rw [hgt, hie]) ?_
 refine gC 2 [] [(0, a_ 0 b5), (1, a_ 5 b4)] [(5, [(0, .slice An (i) (cn))])] ?_
 refine NN (af.ret ?_)
 exact ai.ret (v := .agg #[.slice An (i) (cn)]) (l := [pF f m t S.X, pI m L S.idx, pO S.O L, pD S.O L, pE S.O L, .abs (aI 70 10 An ((ax S).length) cn (cr K (ax S))), .abs (fw (iT (ax S) K) ((ax S).length)), .abs (fw (ig (ax S) K) ((ax S).length))]) (aU := [b4 = b4]) [.at 5] [6, 7, 8, 9, 10, 1, 2, 3, 11] (fun _ => by kernel_rfl) ⟨rfl, trivial⟩ rfl (by kernel_rfl) (⟨An, cn, K, by rw [hie], rfl⟩)
end
section
open Go.RowKit Go.Maps HeapM TabM
attribute [local irreducible] aj aR af ai
theorem vF {β : Bs} (S : aG) (L : HL) (f : Nat) (hI : Inv S) (d : Nat) (hd : Live S.idx ⟨d, 2⟩) (path : ByteArray) (hsz : path.size ≤ 1048576) (hg : jb β) :
    Spec Tryz.prog β 53 #[vP f, vP (L.b d), .string path] [.abs (ak (aN S.O L)), .abs (ak (bh S.O L))] (fun v l => v = wZ L (wayM S.O d path) ∧ l = [.abs (ak (aN S.O L)), .abs (ak (bh S.O L))]) := by
 have hkd : (obj S.O d).kind = 2 := hI.kind hd
 obtain ⟨ps, hps⟩ : ∃ ps, ps = gS path := ⟨_, rfl⟩
 have hpl : 1 ≤ ps.length ∧ ps.length ≤ 1048577 := by rw [hps, yQ]; have := uK path; omega
 have HM : ∀ q, q < ps.length → (pc ps q).size ≤ 1048576 := fun q hq => Nat.le_trans (DQ (hps ▸ Hg hq)) hsz
 refine Spec.enter Tryz.func53 rfl Tryz.ntmps53 (Nat.le_of_ble_eq_true rfl) (fun R => ?_)
 refine SR ?_
 refine gK 3 [] [] ?_
 refine NS ?_
 refine gK 1 [(19, .string path)] [] ?_
 refine gL [] (Hf hg path hsz hps) ?_
 rintro _ _ ⟨b1, rfl, rfl⟩
 refine gK 1 [(9, .slice (some ⟨b1, 0, none⟩) (ps.length) (ps.length))] [] ?_
 refine NN (af.seq (SR ?_))
 refine gK 3 [(21, .slice (some ⟨b1, 0, none⟩) (ps.length) (ps.length)), (22, vI ↑ps.length), (23, vI 0)] [] ?_
 refine NN (af.block ?_)
 refine af.loop (ι := Nat) (fun (j : Nat) => (j ≤ ps.length) ∧ (∀ q, q < j → bB (pc ps q))) (fun (j : Nat) => ps.length - j) (fun (j : Nat) => [(1, vP (L.b d)), (9, .slice (some ⟨b1, 0, none⟩) (ps.length) (ps.length)), (21, .slice (some ⟨b1, 0, none⟩) (ps.length) (ps.length)), (22, vI ↑ps.length), (23, vI ↑j)]) (fun (j : Nat) => [pO S.O L, pE S.O L, .abs (aI 9 1 (some ⟨b1, 0, none⟩) ps.length ps.length (j7 ps)), .abs R]) 0 (idx := [1, 9, 21, 22, 23]) (pk := [1, 2, 0, 3]) (show (0 ≤ ps.length) ∧ (∀ q, q < 0 → bB (pc ps q)) from ⟨Nat.zero_le _, fun q h => absurd h (Nat.not_lt_zero q)⟩) (fun _ => by kernel_rfl) rfl (by kernel_rfl) ?_
 rintro j ⟨hj, hgd⟩
 show af _ _ _ _ [(1, vP (L.b d)), (9, .slice (some ⟨b1, 0, none⟩) (ps.length) (ps.length)), (21, .slice (some ⟨b1, 0, none⟩) (ps.length) (ps.length)), (22, vI ↑ps.length), (23, vI ↑j)] [pO S.O L, pE S.O L, .abs (aI 9 1 (some ⟨b1, 0, none⟩) ps.length ps.length (j7 ps)), .abs R] _
 refine SR ?_
 refine gK 1 [(24, .bool (decide ((((j : Nat) : Int) : Int) < (((ps.length : Nat) : Int) : Int))))] [] ?_
 refine NN (af.seq ?_)
 refine af.bn (p := (((j : Nat) : Int) : Int) < (((ps.length : Nat) : Int) : Int)) (fun _ => by kernel_rfl) (fun tK => ?_) (fun tK => ?_)
 ·refine af.skip (NX (af.seq (af.block (SR ?_))))
  refine gK 3 [(11, .string (pc ps j))] [(0, p_ ⟨[], some j, none, none, some (.pointer (some ⟨b1, j, none⟩))⟩ [(Value.pointer (some ⟨b1, 0 + j * 1, none⟩)) = (.pointer (some ⟨b1, j, none⟩)), ((j : Nat) : Int) = ((j : Nat) : Int), j < ps.length, (⟨b1, 0, none⟩ : Addr).spot = none] ⟨by simp, rfl, by omega, rfl, trivial⟩), (1, p_ ⟨[.view 2 (.string (pc ps j))], none, none, none, none⟩ [(∀ F w, (aI 9 1 (some ⟨b1, 0, none⟩) ps.length ps.length (j7 ps)).h F w → w.cell? ⟨b1, j, none⟩ = some (.string (pc ps j)))] ⟨aI.cell (wY (by omega)), trivial⟩)] ?_
  refine NS ?_
  refine gK 1 [(27, .string (pc ps j))] [] ?_
  refine gL [] (p4 (pc ps j) (by have := HM j (by omega); omega)) ?_
  rintro _ _ ⟨rfl, rfl⟩
  refine gK 1 [(29, .bool (!(decide (bB (pc ps j)))))] [] ?_
  refine NN ?_
  refine af.ct (p := bB (pc ps j)) (fun _ => by kernel_rfl) (fun HT => ?_) (fun HT => ?_)
  ·refine SR ?_
   refine gK 3 [(6, .pointer none), (7, .string ⟨#[]⟩), (8, vI 95)] [] ?_
   refine NN (af.ret (ai.aF (ai.aq (ai.aq (ai.aF (ai.aq ?_))))))
   exact RT (l := [.abs (ak (aN S.O L)), .abs (ak (bh S.O L))]) (.tuple #[.pointer none, .string ⟨#[]⟩, vI 95]) [0, 1, 3] (⟨congrArg (wZ L) (Eq.symm (show wayM S.O d path = .error 95 from if_neg (fun h => HT (CW.1 (hps ▸ h) j (by omega))))), rfl⟩)
  refine af.skip (ai.aL (NX (af.region ?_)))
  refine gK 2 [(23, vI ↑(j + 1))] [(0, p_ ⟨[], none, none, none, some (vI ↑(j + 1))⟩ [(Value.int .i64 (IntKind.wrap .i64 (((j : Nat) : Int) + 1))) = (.int .i64 ↑(j + 1))] ⟨bE (by omega) (by omega) (by omega), trivial⟩)] ?_
  refine NL ?_
  exact ai.turn ((j + 1)) (idx := [1, 9, 21, 22, 23]) (pk := [0, 1, 2, 3]) (show (((j + 1)) ≤ ps.length) ∧ (∀ q, q < ((j + 1)) → bB (pc ps q)) from ⟨by omega, fun q hq => (Nat.lt_succ_iff_lt_or_eq.1 hq).elim (hgd q) (fun e => e ▸ HT)⟩) (by show ps.length - ((j + 1)) < ps.length - j; omega) (fun _ => by kernel_rfl) rfl (by kernel_rfl)
 refine af.exit (ai.aT (ai.aT (ai.bX (NX (SR ?_)))))
 have hall : ∀ p ∈ ps, bB p := CW.2 (fun q hq => hgd q (by omega))
 refine gK 4 [(12, vI ↑(ps.length - 1))] [(2, p_ ⟨[], none, none, none, some (vI ↑(ps.length - 1))⟩ [(Value.int .i64 (IntKind.wrap .i64 (((ps.length : Nat) : Int) - 1))) = (.int .i64 ↑(ps.length - 1))] ⟨bE (by omega) (by omega) (by omega), trivial⟩)] ?_
 refine NN (af.seq (SR ?_))
 refine gK 5 [(36, .slice (some ⟨b1, 0, none⟩) ((ps.length - 1)) (ps.length)), (37, vI ↑(ps.length - 1)), (38, vI 0)] [(2, p_ ⟨[], some (ps.length - 1), none, none, none⟩ [(((ps.length - 1) : Nat) : Int) = (((ps.length - 1) : Nat) : Int), (ps.length - 1) ≤ ps.length] ⟨rfl, by omega, trivial⟩)] ?_
 refine NN (af.block ?_)
 refine af.loop (ι := Nat × Nat) (fun ((j, e) : Nat × Nat) => (j ≤ ps.length - 1) ∧ (Live S.idx ⟨e, 2⟩) ∧ (wayW S.O d ps = wayW S.O e (ps.drop j))) (fun ((j, e) : Nat × Nat) => ps.length - 1 - j) (fun ((j, e) : Nat × Nat) => [(1, vP (L.b e)), (9, .slice (some ⟨b1, 0, none⟩) (ps.length) (ps.length)), (12, vI ↑(ps.length - 1)), (36, .slice (some ⟨b1, 0, none⟩) ((ps.length - 1)) (ps.length)), (37, vI ↑(ps.length - 1)), (38, vI ↑j)]) (fun ((j, e) : Nat × Nat) => [pO S.O L, pE S.O L, .abs (aI 9 1 (some ⟨b1, 0, none⟩) ps.length ps.length (j7 ps)), .abs R]) (0, d) (idx := [1, 9, 12, 36, 37, 38]) (pk := [0, 1, 2, 3]) (show (0 ≤ ps.length - 1) ∧ (Live S.idx ⟨d, 2⟩) ∧ (wayW S.O d ps = wayW S.O d (ps.drop 0)) from ⟨Nat.zero_le _, hd, by rw [List.drop_zero]⟩) (fun _ => by kernel_rfl) rfl (by kernel_rfl) ?_
 rintro ⟨j, e⟩ ⟨hj, hle, hw⟩
 show af _ _ _ _ [(1, vP (L.b e)), (9, .slice (some ⟨b1, 0, none⟩) (ps.length) (ps.length)), (12, vI ↑(ps.length - 1)), (36, .slice (some ⟨b1, 0, none⟩) ((ps.length - 1)) (ps.length)), (37, vI ↑(ps.length - 1)), (38, vI ↑j)] [pO S.O L, pE S.O L, .abs (aI 9 1 (some ⟨b1, 0, none⟩) ps.length ps.length (j7 ps)), .abs R] _
 have hke : (obj S.O e).kind = 2 := hI.kind hle
 refine SR ?_
 refine gK 1 [(39, .bool (decide ((((j : Nat) : Int) : Int) < ((((ps.length - 1) : Nat) : Int) : Int))))] [] ?_
 refine NN (af.seq ?_)
 refine af.bn (p := (((j : Nat) : Int) : Int) < ((((ps.length - 1) : Nat) : Int) : Int)) (fun _ => by kernel_rfl) (fun nA => ?_) (fun nA => ?_)
 ·have mX : (pc ps j).size ≤ 1048576 := HM j (by omega)
  have hee : (obj S.O e).ah.length ≤ 8192 := hI.eV hle
  refine af.skip (NX (af.seq (af.block (SR ?_))))
  refine gK 3 [(14, .string (pc ps j))] [(0, p_ ⟨[], some j, none, none, some (.pointer (some ⟨b1, j, none⟩))⟩ [(Value.pointer (some ⟨b1, 0 + j * 1, none⟩)) = (.pointer (some ⟨b1, j, none⟩)), ((j : Nat) : Int) = ((j : Nat) : Int), j < (ps.length - 1), (⟨b1, 0, none⟩ : Addr).spot = none] ⟨by simp, rfl, by omega, rfl, trivial⟩), (1, p_ ⟨[.view 2 (.string (pc ps j))], none, none, none, none⟩ [(∀ F w, (aI 9 1 (some ⟨b1, 0, none⟩) ps.length ps.length (j7 ps)).h F w → w.cell? ⟨b1, j, none⟩ = some (.string (pc ps j)))] ⟨aI.cell (wY (by omega)), trivial⟩)] ?_
  refine NN (af.seq ?_)
  rcases hI.kg hle (pc ps j) with hlk | ⟨tk, hlk, hlv⟩ | ⟨tk, hlk, hlv⟩ | ⟨tk, hlk, hlv⟩
  ·refine af.region ?_
   refine gK 5 [(45, .map (some (L.m e))), (46, .string (pc ps j))] [(3, v_ 0 (bA L hke))] ?_
   refine fQ 1 hke hlk ?_
   refine NN (af.block (SR ?_))
   refine gK 1 [(48, .bool true)] [] ?_
   refine NN ?_
   refine CT ?_
   refine SR ?_
   refine gK 1 [] [] ?_
   refine NS ?_
   refine gK 3 [(6, .pointer none), (7, .string ⟨#[]⟩), (8, vI 170)] [] ?_
   refine NN (af.ret (ai.aF (ai.aF (ai.aq (ai.aq (ai.aF (ai.aq ?_)))))))
   exact RT (l := [.abs (ak (aN S.O L)), .abs (ak (bh S.O L))]) (.tuple #[.pointer none, .string ⟨#[]⟩, vI 170]) [0, 1, 3] (⟨congrArg (wZ L) (Eq.symm (show wayM S.O d path = .error 170 from (show wayM S.O d path = wayW S.O d ps by unfold wayM; rw [← hps]; exact if_pos hall).trans (hw.trans ((qR (by omega)).trans (by rw [hlk] <;> rfl))))), rfl⟩)
  ·have hkt : (obj S.O tk).kind = 1 := hI.kind hlv
   refine af.region ?_
   refine gK 5 [(45, .map (some (L.m e))), (46, .string (pc ps j))] [(3, v_ 0 (bA L hke))] ?_
   refine fQ 1 hke hlk ?_
   refine NN (af.block (SR ?_))
   refine gK 1 [(48, .bool false)] [] ?_
   refine NN ?_
   refine CF ?_
   refine SR ?_
   refine gK 3 [(50, .bool false), (51, .pointer none)] [] ?_
   refine NN ?_
   refine CF ?_
   refine SR ?_
   refine gK 3 [(53, .bool true), (54, vP (L.b tk))] [] ?_
   refine NN ?_
   refine CT ?_
   refine SR ?_
   refine gK 1 [] [] ?_
   refine NS ?_
   refine gK 3 [(6, .pointer none), (7, .string ⟨#[]⟩), (8, vI 173)] [] ?_
   refine NN (af.ret (ai.aF (ai.aF (ai.aq (ai.aq (ai.aF (ai.aq ?_)))))))
   exact RT (l := [.abs (ak (aN S.O L)), .abs (ak (bh S.O L))]) (.tuple #[.pointer none, .string ⟨#[]⟩, vI 173]) [0, 1, 3] (⟨congrArg (wZ L) (Eq.symm (show wayM S.O d path = .error 173 from (show wayM S.O d path = wayW S.O d ps by unfold wayM; rw [← hps]; exact if_pos hall).trans (hw.trans ((qR (by omega)).trans (by rw [hlk] <;> rfl))))), rfl⟩)
  ·have hkt : (obj S.O tk).kind = 2 := hI.kind hlv
   refine af.region ?_
   refine gK 5 [(45, .map (some (L.m e))), (46, .string (pc ps j))] [(3, v_ 0 (bA L hke))] ?_
   refine fQ 1 hke hlk ?_
   refine NN (af.block (SR ?_))
   refine gK 1 [(48, .bool false)] [] ?_
   refine NN ?_
   refine CF ?_
   refine SR ?_
   refine gK 3 [(50, .bool false), (51, .pointer none)] [] ?_
   refine NN ?_
   refine CF ?_
   refine SR ?_
   refine gK 3 [(53, .bool false), (54, .pointer none)] [] ?_
   refine NN ?_
   refine CF ?_
   refine SR ?_
   refine gK 3 [(56, .bool true), (57, vP (L.b tk))] [] ?_
   refine NN ?_
   refine CT ?_
   refine SR ?_
   refine gK 1 [(18, vP (L.b tk))] [] ?_
   refine NN (af.region ?_)
   refine gK 2 [(1, vP (L.b tk))] [] ?_
   refine NL (ai.aL (ai.aL (NX (af.region ?_))))
   refine gK 2 [(38, vI ↑(j + 1))] [(0, p_ ⟨[], none, none, none, some (vI ↑(j + 1))⟩ [(Value.int .i64 (IntKind.wrap .i64 (((j : Nat) : Int) + 1))) = (.int .i64 ↑(j + 1))] ⟨bE (by omega) (by omega) (by omega), trivial⟩)] ?_
   refine NL ?_
   exact ai.turn ((j + 1), tk) (idx := [1, 9, 12, 36, 37, 38]) (pk := [0, 1, 2, 3]) (show (((j + 1)) ≤ ps.length - 1) ∧ (Live S.idx ⟨tk, 2⟩) ∧ (wayW S.O d ps = wayW S.O tk (ps.drop ((j + 1)))) from ⟨by omega, hlv, hw.trans ((qR (by omega)).trans (by rw [hlk] <;> rfl))⟩) (by show ps.length - 1 - ((j + 1)) < ps.length - 1 - j; omega) (fun _ => by kernel_rfl) rfl (by kernel_rfl)
  have hkt : (obj S.O tk).kind = 3 := hI.kind hlv
  refine af.region ?_
  refine gK 5 [(45, .map (some (L.m e))), (46, .string (pc ps j))] [(3, v_ 0 (bA L hke))] ?_
  refine fQ 1 hke hlk ?_
  refine NN (af.block (SR ?_))
  refine gK 1 [(48, .bool false)] [] ?_
  refine NN ?_
  refine CF ?_
  refine SR ?_
  refine gK 3 [(50, .bool true), (51, vP (L.b tk))] [] ?_
  refine NN ?_
  refine CT ?_
  refine SR ?_
  refine gK 1 [] [] ?_
  refine NS ?_
  refine gK 3 [(6, .pointer none), (7, .string ⟨#[]⟩), (8, vI 174)] [] ?_
  refine NN (af.ret (ai.aF (ai.aF (ai.aq (ai.aq (ai.aF (ai.aq ?_)))))))
  exact RT (l := [.abs (ak (aN S.O L)), .abs (ak (bh S.O L))]) (.tuple #[.pointer none, .string ⟨#[]⟩, vI 174]) [0, 1, 3] (⟨congrArg (wZ L) (Eq.symm (show wayM S.O d path = .error 174 from (show wayM S.O d path = wayW S.O d ps by unfold wayM; rw [← hps]; exact if_pos hall).trans (hw.trans ((qR (by omega)).trans (by rw [hlk] <;> rfl))))), rfl⟩)
 have ej : j = ps.length - 1 := by omega
 refine af.exit (ai.aT (ai.aT (ai.bX (NX (af.seq (SR ?_))))))
 refine gK 5 [(64, .bool (obj S.O e).gone)] [(4, v_ 0 (lC L hke))] ?_
 refine NN ?_
 refine af.cond (b := (obj S.O e).gone) (fun _ => by kernel_rfl) (fun MZ => ?_) (fun MZ => ?_)
 ·refine SR ?_
  refine gK 3 [(6, .pointer none), (7, .string ⟨#[]⟩), (8, vI 170)] [] ?_
  refine NN (af.ret (ai.aq ?_))
  exact RT (l := [.abs (ak (aN S.O L)), .abs (ak (bh S.O L))]) (.tuple #[.pointer none, .string ⟨#[]⟩, vI 170]) [0, 1, 3] (⟨congrArg (wZ L) (Eq.symm ((show wayM S.O d path = wayW S.O d ps by unfold wayM; rw [← hps]; exact if_pos hall).trans (hw.trans ((Ba (by omega)).trans (if_pos MZ))))), rfl⟩)
 refine af.skip (NX (af.seq ?_))
 refine af.bC (by kernel_rfl) (by kernel_rfl) ?_
 refine gQ 8 [(6, vP (L.b e)), (7, .string (pc ps (ps.length - 1))), (8, vI 0)] [(3, p_ ⟨[], some (ps.length - 1), none, none, some (.pointer (some ⟨b1, (ps.length - 1), none⟩))⟩ [(Value.pointer (some ⟨b1, 0 + (ps.length - 1) * 1, none⟩)) = (.pointer (some ⟨b1, (ps.length - 1), none⟩)), (((ps.length - 1) : Nat) : Int) = (((ps.length - 1) : Nat) : Int), (ps.length - 1) < ps.length, (⟨b1, 0, none⟩ : Addr).spot = none] ⟨by simp, rfl, by omega, rfl, trivial⟩), (4, p_ ⟨[.view 2 (.string (pc ps (ps.length - 1)))], none, none, none, none⟩ [(∀ F w, (aI 9 1 (some ⟨b1, 0, none⟩) ps.length ps.length (j7 ps)).h F w → w.cell? ⟨b1, (ps.length - 1), none⟩ = some (.string (pc ps (ps.length - 1))))] ⟨aI.cell (wY (by omega)), trivial⟩)] ?_
 refine NQ (NX (af.ret ?_))
 exact RT (l := [.abs (ak (aN S.O L)), .abs (ak (bh S.O L))]) (.tuple #[vP (L.b e), .string (pc ps (ps.length - 1)), vI 0]) [0, 1, 3] (⟨by rw [← ej]; exact congrArg (wZ L) (Eq.symm (show wayM S.O d path = .ok (e, pc ps j) from (show wayM S.O d path = wayW S.O d ps by unfold wayM; rw [← hps]; exact if_pos hall).trans (hw.trans ((Ba (by omega)).trans (if_neg (by rw [MZ]; exact Bool.false_ne_true)))))), rfl⟩)
end
section
open Go.RowKit Go.Maps HeapM TabM
attribute [local irreducible] aj aR af ai
theorem Lh {β : Bs} (S : aG) (L : HL) (f m t : Nat) (hI : Inv S) (root : Int) (hrw : (Lit.int .i64 root).wf = true) (a : wW) (HM : a.path.size ≤ 1048576) (Ku : a.to.size ≤ 1048576) (hxz : a.text.size ≤ 1048576) (hg : jb β) :
    Spec Tryz.prog β 22 #[vP f, vI (root), .agg #[vI (a.at_), vI (a.op), .string a.path, .string a.to, .string a.text]] [.blk f [vI (S.X.cN), vI (S.X.cB), vI (S.X.cH), vI (S.X.cS), vI (S.X.cZ), .map (some m), vP t, vI (S.X.last), vI (S.X.ah), vI (S.X.used)] 86, .abs (aE Tryz.prog 3 m (aO (aK L S.idx)) S.idx.length), .abs (br 156 t S.X.cH S.av (aK L S.us)), .abs (ak (aN S.O L)), .abs (ak (aY S.O L)), .abs (ak (bh S.O L))] (fun v l => ∃ L2, v = vI (actM S root a).1 ∧ l = [.blk f [vI ((actM S root a).2.X.cN), vI ((actM S root a).2.X.cB), vI ((actM S root a).2.X.cH), vI ((actM S root a).2.X.cS), vI ((actM S root a).2.X.cZ), .map (some m), vP t, vI ((actM S root a).2.X.last), vI ((actM S root a).2.X.ah), vI ((actM S root a).2.X.used)] 86, .abs (aE Tryz.prog 3 m (aO (aK L2 (actM S root a).2.idx)) ((actM S root a).2.idx.length)), .abs (br 156 t (actM S root a).2.X.cH ((actM S root a).2.av) (aK L2 ((actM S root a).2.us))), .abs (ak (aN ((actM S root a).2.O) L2)), .abs (ak (aY ((actM S root a).2.O) L2)), .abs (ak (bh ((actM S root a).2.O) L2))]) := by
 have hX := hI.hX
 refine Spec.enter Tryz.func22 rfl Tryz.ntmps22 (Nat.le_of_ble_eq_true rfl) (fun R => ?_)
 refine SR ?_
 refine gN 2 (fun b1 => [(5, vP b1)]) (fun _ => []) (fun _ => []) (fun b1 => .blk b1 [vI (a.at_), vI (a.op), .string a.path, .string a.to, .string a.text] 45) (fun b1 => ?_)
 refine NN (af.seq (SR ?_))
 refine gK 4 [(25, .bool (decide ((a.op : Int) < (1 : Int))))] [(1, a_ 7 b1)] ?_
 refine aj.gA 25 ((a.op : Int) < (1 : Int)) (fun _ => by kernel_rfl) (fun vU => ?_) (fun vU => ?_)
 ·refine gK 4 [(29, .bool true)] [] ?_
  refine NN ?_
  refine CT ?_
  refine SR ?_
  refine gK 1 [(6, vI 230)] [] ?_
  refine NN (af.ret (ai.aq ?_))
  exact RT (vI 230) [0, 1, 2, 3, 4, 5, 6] (⟨L, by rw [show (actM S root a) = (230, S) by unfold actM; exact if_pos (by omega)] <;> exact ⟨rfl, rfl⟩⟩)
 refine gK 4 [(29, .bool (decide ((a.op : Int) > (7 : Int))))] [(1, a_ 7 b1)] ?_
 refine NN ?_
 refine af.bn (p := (a.op : Int) > (7 : Int)) (fun _ => by kernel_rfl) (fun HT => ?_) (fun HT => ?_)
 ·refine SR ?_
  refine gK 1 [(6, vI 230)] [] ?_
  refine NN (af.ret (ai.aq ?_))
  exact RT (vI 230) [0, 1, 2, 3, 4, 5, 6] (⟨L, by rw [show (actM S root a) = (230, S) by unfold actM; exact if_pos (by omega)] <;> exact ⟨rfl, rfl⟩⟩)
 refine af.skip (NX (af.seq ?_))
 rcases hI.Mf root with hix | ⟨tk, hix, hlv⟩ | ⟨tk, hix, hlv⟩ | ⟨tk, hix, hlv⟩
 ·refine af.region ?_
  refine gK 5 [(33, .map (some m)), (34, vI (root))] [(3, a_ 0 f)] ?_
  refine aj.dm 1 (d := (some 35)) (t := 80) (K := 3) (E := 84) (b := m) (n := S.idx.length) (f := (aO (aK L S.idx))) (x := (.tmp 33)) (ix := (.tmp 34)) (key := .int .i64 (root)) (z := .nilIface) (kl := (.int .i64 root)) (r := none) (fun _ => by kernel_rfl) (by kernel_rfl) (fun _ => by kernel_rfl) (fun _ => by kernel_rfl) cU Tryz.underlying80 (fun _ => by kernel_rfl) (gX hrw) (by rw [dQ, hix]; rfl) ?_
  refine gK 1 [(7, .nilIface)] [] ?_
  refine NN (af.seq (SR ?_))
  refine gK 2 [(37, .bool true)] [] ?_
  refine NN ?_
  refine CT ?_
  refine SR ?_
  refine gK 1 [(6, vI 141)] [] ?_
  refine NN (af.ret (ai.aq ?_))
  exact RT (vI 141) [0, 1, 2, 3, 4, 5, 6] (⟨L, by rw [show (actM S root a) = (141, S) by unfold actM; rw [if_neg (by omega), hix]] <;> exact ⟨rfl, rfl⟩⟩)
 ·have hkt : (obj S.O tk).kind = 1 := hI.kind hlv
  refine af.region ?_
  refine gK 5 [(33, .map (some m)), (34, vI (root))] [(3, a_ 0 f)] ?_
  refine aj.dm 1 (d := (some 35)) (t := 80) (K := 3) (E := 84) (b := m) (n := S.idx.length) (f := (aO (aK L S.idx))) (x := (.tmp 33)) (ix := (.tmp 34)) (key := .int .i64 (root)) (z := .nilIface) (kl := (.int .i64 root)) (r := (some (cO L ⟨tk, 1⟩))) (fun _ => by kernel_rfl) (by kernel_rfl) (fun _ => by kernel_rfl) (fun _ => by kernel_rfl) cU Tryz.underlying80 (fun _ => by kernel_rfl) (gX hrw) (by rw [dQ, hix]; rfl) ?_
  refine gK 1 [(7, .iface 89 (vP (L.b tk)))] [] ?_
  refine NN (af.seq (SR ?_))
  refine gK 2 [(37, .bool false)] [] ?_
  refine NN ?_
  refine CF ?_
  refine af.skip (NX (SR ?_))
  refine gK 7 [(8, .pointer none), (9, .bool false)] [] ?_
  refine NN (af.seq (SR ?_))
  refine gK 2 [(44, .bool true)] [] ?_
  refine NN ?_
  refine CT ?_
  refine SR ?_
  refine gK 1 [(6, vI 173)] [] ?_
  refine NN (af.ret (ai.aq ?_))
  exact RT (vI 173) [0, 1, 2, 3, 4, 5, 6] (⟨L, by rw [show (actM S root a) = (173, S) by unfold actM; rw [if_neg (by omega), hix]; simp only; exact if_neg (by simp)] <;> exact ⟨rfl, rfl⟩⟩)
 ·have hkt : (obj S.O tk).kind = 2 := hI.kind hlv
  refine af.region ?_
  refine gK 5 [(33, .map (some m)), (34, vI (root))] [(3, a_ 0 f)] ?_
  refine aj.dm 1 (d := (some 35)) (t := 80) (K := 3) (E := 84) (b := m) (n := S.idx.length) (f := (aO (aK L S.idx))) (x := (.tmp 33)) (ix := (.tmp 34)) (key := .int .i64 (root)) (z := .nilIface) (kl := (.int .i64 root)) (r := (some (cO L ⟨tk, 2⟩))) (fun _ => by kernel_rfl) (by kernel_rfl) (fun _ => by kernel_rfl) (fun _ => by kernel_rfl) cU Tryz.underlying80 (fun _ => by kernel_rfl) (gX hrw) (by rw [dQ, hix]; rfl) ?_
  refine gK 1 [(7, .iface 96 (vP (L.b tk)))] [] ?_
  refine NN (af.seq (SR ?_))
  refine gK 2 [(37, .bool false)] [] ?_
  refine NN ?_
  refine CF ?_
  refine af.skip (NX (SR ?_))
  refine gK 7 [(8, vP (L.b tk)), (9, .bool true)] [] ?_
  refine NN (af.seq (SR ?_))
  refine gK 2 [(44, .bool false)] [] ?_
  refine NN ?_
  refine CF ?_
  refine af.skip (NX (SR ?_))
  refine gK 4 [(46, vP f), (47, vP (L.b tk)), (49, .string a.path)] [(3, a_ 7 b1)] ?_
  rcases A8 hI hlv a.path with ⟨e, iG, hne⟩ | ⟨d, name, iG, hd, gy, hgn⟩
  ·refine gL (f := 53) (args := #[vP f, vP (L.b tk), .string a.path]) (pre := [.abs (ak (aN S.O L)), .abs (ak (bh S.O L))]) [3, 5] ((by have h := vF (β := β) S L f hI tk hlv a.path HM hg; rw [iG] at h; exact h)) ?_
   rintro _ _ ⟨rfl, rfl⟩
   refine gK 7 [(10, .pointer none), (11, .string ⟨#[]⟩), (12, vI (e))] [] ?_
   refine NN (af.seq (SR ?_))
   refine gK 2 [(55, .bool (!(decide ((e : Int) = (0 : Int)))))] [] ?_
   refine NN ?_
   refine af.ct (p := (e : Int) = (0 : Int)) (fun _ => by kernel_rfl) (fun Pb => ?_) (fun Pb => ?_)
   ·refine SR ?_
    refine gK 2 [(6, vI (e))] [] ?_
    refine NN (af.ret (ai.aq ?_))
    exact RT (vI (e)) [2, 3, 4, 0, 5, 1, 6] (⟨L, by rw [show (actM S root a) = (e, S) by unfold actM; rw [if_neg (by omega), hix]; simp only; rw [if_pos trivial, iG]] <;> exact ⟨rfl, rfl⟩⟩)
   exact absurd Pb hne
  have hkd : (obj S.O d).kind = 2 := hI.kind hd
  have hsz : name.size ≤ 1048576 := A6 hgn
  refine gL (f := 53) (args := #[vP f, vP (L.b tk), .string a.path]) (pre := [.abs (ak (aN S.O L)), .abs (ak (bh S.O L))]) [3, 5] ((by have h := vF (β := β) S L f hI tk hlv a.path HM hg; rw [iG] at h; exact h)) ?_
  rintro _ _ ⟨rfl, rfl⟩
  refine gK 7 [(10, vP (L.b d)), (11, .string name), (12, vI 0)] [] ?_
  refine NN (af.seq (SR ?_))
  refine gK 2 [(55, .bool false)] [] ?_
  refine NN ?_
  refine CF ?_
  refine af.skip (NX (af.seq (SR ?_)))
  refine gK 2 [(58, vI (a.op))] [(1, a_ 7 b1)] ?_
  refine NN (af.block (SR ?_))
  refine gK 2 [(59, .bool (decide ((a.op : Int) = (1 : Int))))] [] ?_
  refine NN ?_
  refine af.bn (p := (a.op : Int) = (1 : Int)) (fun _ => by kernel_rfl) (fun M0 => ?_) (fun M0 => ?_)
  ·refine af.seq (SR ?_)
   refine gK 3 [(61, vP f), (62, vP (L.b d)), (63, .string name)] [] ?_
   refine gL [2, 3, 1, 0] (qP S L f m t hI d hd name hsz) ?_
   rintro _ _ ⟨rfl, rfl⟩
   refine gK 1 [(12, vI ((bN S.X S.O S.idx d name)))] [] ?_
   refine NS ?_
   refine gK 2 [(66, .bool (!(decide (((bN S.X S.O S.idx d name) : Int) = (0 : Int)))))] [] ?_
   refine NN ?_
   refine af.ct (p := ((bN S.X S.O S.idx d name) : Int) = (0 : Int)) (fun _ => by kernel_rfl) (fun h0 => ?_) (fun h0 => ?_)
   ·refine SR ?_
    refine gK 2 [(6, vI ((bN S.X S.O S.idx d name)))] [] ?_
    refine NN (af.ret (ai.aq (ai.aF (ai.aq ?_))))
    exact RT (vI ((bN S.X S.O S.idx d name))) [0, 1, 4, 3, 5, 2, 6] (⟨L, by rw [show (actM S root a) = (bN S.X S.O S.idx d name, S) by unfold actM; rw [if_neg (by omega), hix]; simp only; rw [if_pos trivial, iG]; simp only; unfold actR; rw [if_pos (by omega)]; unfold actNew; exact if_neg h0] <;> exact ⟨rfl, rfl⟩⟩)
   have hno := mE h0
   refine af.skip (NX (SR ?_))
   refine gK 1 [(68, vP f)] [] ?_
   refine gL [0] (qO S.X f m t hX 420) ?_
   rintro _ _ ⟨rfl, rfl⟩
   refine gN 2 (fun b2 => [(71, vP b2)]) (fun _ => []) (fun _ => []) (fun b2 => .blk b2 [vI (S.X.last + 1), vI (420), vI 0, vI 0, vI (S.X.cS), vI (S.X.cZ), vI 0, vI 0, .bool false, .slice none (0) (0)] 92) (fun b2 => ?_)
   obtain ⟨L2, hL2⟩ : ∃ L2 : HL, L2 = L.put (aD S.X) b2 0 none 0 := ⟨_, rfl⟩
   have hfr := hI.toInv0.fresh
   refine aj.mem (aP := [.abs (ak (aN (ay S.O (aD S.X) (fun _ => (aB S.X 1 420))) L2)), .blk f [vI (S.X.cN), vI (S.X.cB), vI (S.X.cH), vI (S.X.cS), vI (S.X.cZ), .map (some m), vP t, vI (S.X.last + 1), vI (S.X.ah), vI (S.X.used)] 86, .abs (aE Tryz.prog 3 m (aO (aK L S.idx)) S.idx.length), .abs (ak (bh S.O L)), .abs (br 156 t S.X.cH S.av (aK L S.us)), .abs (ak (aY S.O L)), .abs R, .blk b1 [vI (a.at_), vI (a.op), .string a.path, .string a.to, .string a.text] 45]) (fun w hS => hS.qM hL2 hfr (o := (aB S.X 1 420)) (i := 3) (j := 8) (ix := [0, 1, 2, 4, 5, 6, 7]) rfl rfl (by kernel_rfl) rfl (by show (1 : Int) ≠ 0; decide) ((eH (L := L2) (k := (aD S.X)) (o := (aB S.X 1 420)) rfl).trans (by rw [show L2.dA (aD S.X) = none by rw [hL2]; exact if_pos rfl, show L2.dC (aD S.X) = 0 by rw [hL2]; exact if_pos rfl]; rfl)) rfl) ?_
   refine aj.mem (aP := [pO (ay S.O (aD S.X) (fun _ => (aB S.X 1 420))) L2, pF f m t { S.X with last := S.X.last + 1 }, pI m L S.idx, pE (ay S.O (aD S.X) (fun _ => (aB S.X 1 420))) L2, pT t S.X.cH S.av L S.us, pD S.O L, .abs R, .blk b1 [vI (a.at_), vI (a.op), .string a.path, .string a.to, .string a.text] 45]) (fun w hS => hS.rW hL2 hfr (o := (aB S.X 1 420)) (i := 3) rfl (by show (1 : Int) ≠ 2; decide)) ?_
   refine aj.mem (aP := [pO (ay S.O (aD S.X) (fun _ => (aB S.X 1 420))) L2, pF f m t { S.X with last := S.X.last + 1 }, pI m L S.idx, pE (ay S.O (aD S.X) (fun _ => (aB S.X 1 420))) L2, pT t S.X.cH S.av L S.us, pD S.O L, .abs R, .blk b1 [vI (a.at_), vI (a.op), .string a.path, .string a.to, .string a.text] 45, .abs (aI 5 1 none 0 0 ([]))]) (fun w hS => hS.jX (e := 5) (size := 1)) ?_
   refine aj.mem (aP := [pD (ay S.O (aD S.X) (fun _ => (aB S.X 1 420))) L2, pO (ay S.O (aD S.X) (fun _ => (aB S.X 1 420))) L2, pF f m t { S.X with last := S.X.last + 1 }, pI m L S.idx, pE (ay S.O (aD S.X) (fun _ => (aB S.X 1 420))) L2, pT t S.X.cH S.av L S.us, .abs R, .blk b1 [vI (a.at_), vI (a.op), .string a.path, .string a.to, .string a.text] 45]) (fun w hS => hS.E0 hL2 (o := (aB S.X 1 420)) (i := 5) (j := 8) (ix := [0, 1, 2, 3, 4, 6, 7]) rfl rfl (by kernel_rfl) rfl rfl rfl) ?_
   refine aj.mem (aP := [.abs (ak (aY (ay S.O (aD S.X) (fun _ => (aB S.X 1 420))) L2)), .abs (ak (aN (ay S.O (aD S.X) (fun _ => (aB S.X 1 420))) L2)), .blk f [vI (S.X.cN), vI (S.X.cB), vI (S.X.cH), vI (S.X.cS), vI (S.X.cZ), .map (some m), vP t, vI (S.X.last + 1), vI (S.X.ah), vI (S.X.used)] 86, .abs (aE Tryz.prog 3 m (aO (aK L2 S.idx)) S.idx.length), .abs (ak (bh (ay S.O (aD S.X) (fun _ => (aB S.X 1 420))) L2)), .abs (br 156 t S.X.cH S.av (aK L2 S.us)), .abs R, .blk b1 [vI (a.at_), vI (a.op), .string a.path, .string a.to, .string a.text] 45]) (fun w hS => by rw [fk hL2 hfr.idx, fk hL2 hfr.us]; exact hS) ?_
   refine gK 1 [(13, vP b2)] [] ?_
   refine NS ?_
   refine gK 5 [(72, vP f), (73, vP (L.b d)), (74, .string name), (76, .iface 89 (vP b2))] [] ?_
   refine gL (f := 56) (args := #[vP f, vP (L.b d), .string name, .iface 89 (vP b2)]) (pre := [.blk f [vI (S.X.cN), vI (S.X.cB), vI (S.X.cH), vI (S.X.cS), vI (S.X.cZ), .map (some m), vP t, vI (S.X.last + 1), vI (S.X.ah), vI (S.X.used)] 86, .abs (aE Tryz.prog 3 m (aO (aK L2 S.idx)) S.idx.length), .abs (ak (aN (ay S.O (aD S.X) (fun _ => (aB S.X 1 420))) L2)), .abs (ak (bh (ay S.O (aD S.X) (fun _ => (aB S.X 1 420))) L2))]) [2, 3, 1, 4] ((by have h := o9 (β := β) S L2 f m t hI.toInv0 d hd name hsz hno (aB S.X 1 420) rfl (by simp [aB]) rfl (nV h0); rw [sU hL2 (hI.rV hd), mD hL2] at h; exact h)) ?_
   rintro _ _ ⟨rfl, rfl⟩
   refine NS ?_
   refine aj.mem (aP := [.blk f [vI ((addM S d name (aB S.X 1 420)).X.cN), vI ((addM S d name (aB S.X 1 420)).X.cB), vI ((addM S d name (aB S.X 1 420)).X.cH), vI ((addM S d name (aB S.X 1 420)).X.cS), vI ((addM S d name (aB S.X 1 420)).X.cZ), .map (some m), vP t, vI ((addM S d name (aB S.X 1 420)).X.last), vI ((addM S d name (aB S.X 1 420)).X.ah), vI ((addM S d name (aB S.X 1 420)).X.used)] 86, .abs (aE Tryz.prog 3 m (aO (aK L2 (addM S d name (aB S.X 1 420)).idx)) ((addM S d name (aB S.X 1 420)).idx.length)), .abs (ak (aN ((addM S d name (aB S.X 1 420)).O) L2)), .abs (ak (bh ((addM S d name (aB S.X 1 420)).O) L2)), .abs (ak (aY ((addM S d name (aB S.X 1 420)).O) L2)), .abs (br 156 t S.X.cH S.av (aK L2 S.us)), .abs R, .blk b1 [vI (a.at_), vI (a.op), .string a.path, .string a.to, .string a.text] 45]) (fun w hS => by rw [show aY ((addM S d name (aB S.X 1 420)).O) L2 = aY (ay S.O (aD S.X) (fun _ => (aB S.X 1 420))) L2 from fI]; exact hS) ?_
   have KI : Inv (addM S d name (aB S.X 1 420)) := hI.BK hd gy hgn h0 (.inl rfl) ⟨by decide, by decide⟩ (.inl ⟨by decide, rfl⟩)
   have QF : Live (addM S d name (aB S.X 1 420)).idx ⟨(aD S.X), 1⟩ := CN hI (o := (aB S.X 1 420))
   refine gK 4 [(78, vP f), (79, vP b2), (81, .string a.text)] [(3, a_ 7 b1)] ?_
   refine aj.CY (d := (some 82)) (t1 := 9) (t2 := 41) (e := 5) (x := (.tmp 81)) (s := a.text) (fun _ => by kernel_rfl) (fun _ => by kernel_rfl) Tryz.underlying9 Tryz.underlying41 Tryz.underlying5 (fun b3 c4 PV => ?_)
   refine gL (f := 57) (args := #[vP f, vP b2, .slice (some ⟨b3, 0, none⟩) (a.text.data.toList.length) (c4)]) (pre := [.abs (mW β (fun β' => bH β' (some ⟨b3, 0, none⟩) a.text.data.toList)), .blk f [vI ((addM S d name (aB S.X 1 420)).X.cN), vI ((addM S d name (aB S.X 1 420)).X.cB), vI ((addM S d name (aB S.X 1 420)).X.cH), vI ((addM S d name (aB S.X 1 420)).X.cS), vI ((addM S d name (aB S.X 1 420)).X.cZ), .map (some m), vP t, vI ((addM S d name (aB S.X 1 420)).X.last), vI ((addM S d name (aB S.X 1 420)).X.ah), vI ((addM S d name (aB S.X 1 420)).X.used)] 86, .abs (aE Tryz.prog 3 m (aO (aK L2 (addM S d name (aB S.X 1 420)).idx)) ((addM S d name (aB S.X 1 420)).idx.length)), .abs (br 156 t S.X.cH S.av (aK L2 S.us)), .abs (ak (aN ((addM S d name (aB S.X 1 420)).O) L2)), .abs (ak (aY ((addM S d name (aB S.X 1 420)).O) L2)), .abs (ak (bh ((addM S d name (aB S.X 1 420)).O) L2))]) [8, 0, 1, 5, 2, 4, 3] ((by have h := yR (β := β) (addM S d name (aB S.X 1 420)) L2 f m t KI (aD S.X) QF (some ⟨b3, 0, none⟩) c4 a.text.data.toList (by rw [Array.length_toList]; have : a.text.data.size = a.text.size := rfl; omega) PV; rw [yc hL2] at h; exact h)) ?_
   rintro _ _ ⟨L3, rfl, rfl⟩
   refine NS ?_
   refine gK 1 [(6, vI 0)] [] ?_
   refine NN (af.ret (ai.aF (ai.aq ?_)))
   exact RT (vI 0) [0, 1, 2, 3, 4, 5, 6] (⟨L3, by rw [show (actM S root a) = (0, (writeM (addM S d name (aB S.X 1 420)) (aD S.X) a.text.data.toList).2.2) by unfold actM; rw [if_neg (by omega), hix]; simp only; rw [if_pos trivial, iG]; simp only; unfold actR; rw [if_pos (by omega)]; unfold actNew; exact if_pos h0] <;> exact ⟨rfl, rfl⟩⟩)
  refine SR ?_
  refine gK 2 [(84, .bool (decide ((a.op : Int) = (2 : Int))))] [] ?_
  refine NN ?_
  refine af.bn (p := (a.op : Int) = (2 : Int)) (fun _ => by kernel_rfl) (fun QG => ?_) (fun QG => ?_)
  ·refine SR ?_
   refine gK 3 [(86, vP f), (87, vP (L.b d)), (88, .string name)] [] ?_
   refine gL [2, 3, 4, 0, 5, 1] (AX S L f m t hI d hd name hsz 493) ?_
   rintro _ _ ⟨L2, rfl, rfl⟩
   refine gK 1 [(6, vI ((mkdirM S d name 493).1))] [] ?_
   refine NN (af.ret (ai.aF (ai.aq ?_)))
   exact RT (vI ((mkdirM S d name 493).1)) [0, 1, 2, 3, 4, 5, 6] (⟨L2, by rw [show (actM S root a) = ((mkdirM S d name 493).1, (mkdirM S d name 493).2) by unfold actM; rw [if_neg (by omega), hix]; simp only; rw [if_pos trivial, iG]; simp only; unfold actR; rw [if_neg (by omega)]; exact if_pos (by omega)] <;> exact ⟨rfl, rfl⟩⟩)
  refine SR ?_
  refine gK 2 [(90, .bool (decide ((a.op : Int) = (3 : Int))))] [] ?_
  refine NN ?_
  refine af.bn (p := (a.op : Int) = (3 : Int)) (fun _ => by kernel_rfl) (fun QH => ?_) (fun QH => ?_)
  ·refine SR ?_
   refine gK 5 [(92, vP f), (93, vP (L.b d)), (94, .string name), (96, .string a.text)] [(4, a_ 7 b1)] ?_
   refine gL [2, 3, 4, 0, 5, 1] (vZ S L f m t hI d hd name hsz a.text hxz) ?_
   rintro _ _ ⟨L2, rfl, rfl⟩
   refine gK 1 [(6, vI ((symlinkM S d name a.text).1))] [] ?_
   refine NN (af.ret (ai.aF (ai.aq ?_)))
   exact RT (vI ((symlinkM S d name a.text).1)) [0, 1, 2, 3, 4, 5, 6] (⟨L2, by rw [show (actM S root a) = ((symlinkM S d name a.text).1, (symlinkM S d name a.text).2) by unfold actM; rw [if_neg (by omega), hix]; simp only; rw [if_pos trivial, iG]; simp only; unfold actR; rw [if_neg (by omega)]; rw [if_neg (by omega)]; exact if_pos (by omega)] <;> exact ⟨rfl, rfl⟩⟩)
  refine SR ?_
  refine gK 2 [(98, .bool (decide ((a.op : Int) = (4 : Int))))] [] ?_
  refine NN ?_
  refine af.bn (p := (a.op : Int) = (4 : Int)) (fun _ => by kernel_rfl) (fun QI => ?_) (fun QI => ?_)
  ·refine SR ?_
   refine gK 3 [(100, vP f), (101, vP (L.b d)), (102, .string name)] [] ?_
   refine gL [2, 3, 4, 0, 5, 1] (yO S L f m t hI d hd name hsz) ?_
   rintro _ _ ⟨L2, rfl, rfl⟩
   refine gK 1 [(6, vI ((unlinkM S d name).1))] [] ?_
   refine NN (af.ret (ai.aF (ai.aq ?_)))
   exact RT (vI ((unlinkM S d name).1)) [0, 1, 2, 3, 4, 5, 6] (⟨L2, by rw [show (actM S root a) = ((unlinkM S d name).1, (unlinkM S d name).2) by unfold actM; rw [if_neg (by omega), hix]; simp only; rw [if_pos trivial, iG]; simp only; unfold actR; rw [if_neg (by omega)]; rw [if_neg (by omega)]; rw [if_neg (by omega)]; exact if_pos (by omega)] <;> exact ⟨rfl, rfl⟩⟩)
  refine SR ?_
  refine gK 2 [(104, .bool (decide ((a.op : Int) = (5 : Int))))] [] ?_
  refine NN ?_
  refine af.bn (p := (a.op : Int) = (5 : Int)) (fun _ => by kernel_rfl) (fun PW => ?_) (fun PW => ?_)
  ·refine SR ?_
   refine gK 3 [(106, vP f), (107, vP (L.b d)), (108, .string name)] [] ?_
   refine gL [2, 3, 4, 0, 5, 1] (AY S L f m t hI d hd name hsz) ?_
   rintro _ _ ⟨L2, rfl, rfl⟩
   refine gK 1 [(6, vI ((rmdirM S d name).1))] [] ?_
   refine NN (af.ret (ai.aF (ai.aq ?_)))
   exact RT (vI ((rmdirM S d name).1)) [0, 1, 2, 3, 4, 5, 6] (⟨L2, by rw [show (actM S root a) = ((rmdirM S d name).1, (rmdirM S d name).2) by unfold actM; rw [if_neg (by omega), hix]; simp only; rw [if_pos trivial, iG]; simp only; unfold actR; rw [if_neg (by omega)]; rw [if_neg (by omega)]; rw [if_neg (by omega)]; rw [if_neg (by omega)]; exact if_pos (by omega)] <;> exact ⟨rfl, rfl⟩⟩)
  refine SR ?_
  refine gK 2 [(110, .bool (decide ((a.op : Int) = (6 : Int))))] [] ?_
  refine NN ?_
  refine af.bn (p := (a.op : Int) = (6 : Int)) (fun _ => by kernel_rfl) (fun PX => ?_) (fun PX => ?_)
  ·refine SR ?_
   refine gK 4 [(113, vP f), (114, vP (L.b tk)), (116, .string a.to)] [(3, a_ 7 b1)] ?_
   rcases A8 hI hlv a.to with ⟨e2, yU, C3⟩ | ⟨to, toName, yU, hd2, MK, Ju⟩
   ·refine gL (f := 53) (args := #[vP f, vP (L.b tk), .string a.to]) (pre := [.abs (ak (aN S.O L)), .abs (ak (bh S.O L))]) [0, 1] ((by have h := vF (β := β) S L f hI tk hlv a.to Ku hg; rw [yU] at h; exact h)) ?_
    rintro _ _ ⟨rfl, rfl⟩
    refine gK 7 [(14, .pointer none), (15, .string ⟨#[]⟩), (16, vI (e2))] [] ?_
    refine NN (af.seq (SR ?_))
    refine gK 2 [(122, .bool (!(decide ((e2 : Int) = (0 : Int)))))] [] ?_
    refine NN ?_
    refine af.ct (p := (e2 : Int) = (0 : Int)) (fun _ => by kernel_rfl) (fun M4 => ?_) (fun M4 => ?_)
    ·refine SR ?_
     refine gK 2 [(6, vI (e2))] [] ?_
     refine NN (af.ret (ai.aq (ai.aF (ai.aq ?_))))
     exact RT (vI (e2)) [2, 3, 4, 0, 5, 1, 6] (⟨L, by rw [show (actM S root a) = (e2, S) by unfold actM; rw [if_neg (by omega), hix]; simp only; rw [if_pos trivial, iG]; simp only; unfold actR; rw [if_neg (by omega)]; rw [if_neg (by omega)]; rw [if_neg (by omega)]; rw [if_neg (by omega)]; rw [if_neg (by omega)]; rw [if_pos (by omega)]; rw [yU]] <;> exact ⟨rfl, rfl⟩⟩)
    exact absurd M4 C3
   have dh : (obj S.O to).kind = 2 := hI.kind hd2
   have mX : toName.size ≤ 1048576 := A6 Ju
   refine gL (f := 53) (args := #[vP f, vP (L.b tk), .string a.to]) (pre := [.abs (ak (aN S.O L)), .abs (ak (bh S.O L))]) [0, 1] ((by have h := vF (β := β) S L f hI tk hlv a.to Ku hg; rw [yU] at h; exact h)) ?_
   rintro _ _ ⟨rfl, rfl⟩
   refine gK 7 [(14, vP (L.b to)), (15, .string toName), (16, vI 0)] [] ?_
   refine NN (af.seq (SR ?_))
   refine gK 2 [(122, .bool false)] [] ?_
   refine NN ?_
   refine CF ?_
   refine af.skip (NX (SR ?_))
   refine gK 5 [(124, vP f), (125, vP (L.b d)), (126, .string name), (127, vP (L.b to)), (128, .string toName)] [] ?_
   refine gL [2, 3, 4, 0, 5, 1] (yP S L f m t hI d hd name hsz to hd2 toName mX) ?_
   rintro _ _ ⟨L2, rfl, rfl⟩
   refine gK 1 [(6, vI ((renameM S d name to toName).1))] [] ?_
   refine NN (af.ret (ai.aF (ai.aq ?_)))
   exact RT (vI ((renameM S d name to toName).1)) [0, 1, 2, 3, 4, 5, 6] (⟨L2, by rw [show (actM S root a) = ((renameM S d name to toName).1, (renameM S d name to toName).2) by unfold actM; rw [if_neg (by omega), hix]; simp only; rw [if_pos trivial, iG]; simp only; unfold actR; rw [if_neg (by omega)]; rw [if_neg (by omega)]; rw [if_neg (by omega)]; rw [if_neg (by omega)]; rw [if_neg (by omega)]; rw [if_pos (by omega)]; rw [yU]] <;> exact ⟨rfl, rfl⟩⟩)
  refine af.skip (ai.aL (NX (af.seq (af.seq ?_))))
  have hel : (obj S.O d).ah.length ≤ 8192 := hI.eV hd
  have Ho := hsz
  rcases hI.kg hd name with bg | ⟨ok, bg, dw⟩ | ⟨ok, bg, dw⟩ | ⟨ok, bg, dw⟩
  ·refine af.region ?_
   refine gK 5 [(133, .map (some (L.m d))), (134, .string name)] [(3, v_ 0 (bA L hkd))] ?_
   refine fQ 1 hkd bg ?_
   refine NN (af.block (SR ?_))
   refine gK 3 [(137, .bool false), (138, .pointer none)] [] ?_
   refine NN ?_
   refine CF ?_
   refine SR ?_
   refine gK 3 [(140, .bool false), (141, .pointer none)] [] ?_
   refine NN ?_
   refine CF ?_
   refine SR ?_
   refine gK 3 [(143, .bool false), (144, .pointer none)] [] ?_
   refine NN ?_
   refine CF ?_
   refine af.skip (ai.aL (NX (SR ?_)))
   refine gK 1 [(6, vI 170)] [] ?_
   refine NN (af.ret ?_)
   exact RT (vI 170) [2, 3, 4, 0, 5, 1, 6] (⟨L, by rw [show (actM S root a) = (170, S) by unfold actM; rw [if_neg (by omega), hix]; simp only; rw [if_pos trivial, iG]; simp only; unfold actR; rw [if_neg (by omega)]; rw [if_neg (by omega)]; rw [if_neg (by omega)]; rw [if_neg (by omega)]; rw [if_neg (by omega)]; rw [if_neg (by omega)]; unfold actWrite; rw [bg]] <;> exact ⟨rfl, rfl⟩⟩)
  ·have jE : (obj S.O ok).kind = 1 := hI.kind dw
   refine af.region ?_
   refine gK 5 [(133, .map (some (L.m d))), (134, .string name)] [(3, v_ 0 (bA L hkd))] ?_
   refine fQ 1 hkd bg ?_
   refine NN (af.block (SR ?_))
   refine gK 3 [(137, .bool false), (138, .pointer none)] [] ?_
   refine NN ?_
   refine CF ?_
   refine SR ?_
   refine gK 3 [(140, .bool false), (141, .pointer none)] [] ?_
   refine NN ?_
   refine CF ?_
   refine SR ?_
   refine gK 3 [(143, .bool true), (144, vP (L.b ok))] [] ?_
   refine NN ?_
   refine CT ?_
   refine SR ?_
   refine gK 1 [(19, vP (L.b ok))] [] ?_
   refine NS ?_
   refine gK 4 [(146, vP f), (147, vP (L.b ok)), (149, .string a.text)] [(3, a_ 7 b1)] ?_
   refine aj.CY (d := (some 150)) (t1 := 9) (t2 := 41) (e := 5) (x := (.tmp 149)) (s := a.text) (fun _ => by kernel_rfl) (fun _ => by kernel_rfl) Tryz.underlying9 Tryz.underlying41 Tryz.underlying5 (fun b6 c7 PY => ?_)
   refine gL [8, 2, 3, 4, 0, 5, 1] (yR (β := β) S L f m t hI ok dw (some ⟨b6, 0, none⟩) c7 a.text.data.toList (by rw [Array.length_toList]; have : a.text.data.size = a.text.size := rfl; omega) PY) ?_
   rintro _ _ ⟨L3, rfl, rfl⟩
   refine gK 5 [(21, vI ((writeM S ok a.text.data.toList).2.1))] [] ?_
   refine NS ?_
   refine gK 2 [(6, vI ((writeM S ok a.text.data.toList).2.1))] [] ?_
   refine NN (af.ret (ai.aF (ai.aq ?_)))
   exact RT (vI ((writeM S ok a.text.data.toList).2.1)) [0, 1, 2, 3, 4, 5, 6] (⟨L3, by rw [show (actM S root a) = ((writeM S ok a.text.data.toList).2.1, (writeM S ok a.text.data.toList).2.2) by unfold actM; rw [if_neg (by omega), hix]; simp only; rw [if_pos trivial, iG]; simp only; unfold actR; rw [if_neg (by omega)]; rw [if_neg (by omega)]; rw [if_neg (by omega)]; rw [if_neg (by omega)]; rw [if_neg (by omega)]; rw [if_neg (by omega)]; unfold actWrite; rw [bg]; exact (if_neg (by simp)).trans (if_neg (by simp))] <;> exact ⟨rfl, rfl⟩⟩)
  ·have jE : (obj S.O ok).kind = 2 := hI.kind dw
   refine af.region ?_
   refine gK 5 [(133, .map (some (L.m d))), (134, .string name)] [(3, v_ 0 (bA L hkd))] ?_
   refine fQ 1 hkd bg ?_
   refine NN (af.block (SR ?_))
   refine gK 3 [(137, .bool false), (138, .pointer none)] [] ?_
   refine NN ?_
   refine CF ?_
   refine SR ?_
   refine gK 3 [(140, .bool true), (141, vP (L.b ok))] [] ?_
   refine NN ?_
   refine CT ?_
   refine SR ?_
   refine gK 1 [] [] ?_
   refine NS ?_
   refine gK 1 [(6, vI 172)] [] ?_
   refine NN (af.ret (ai.aF (ai.aq ?_)))
   exact RT (vI 172) [2, 3, 4, 0, 5, 1, 6] (⟨L, by rw [show (actM S root a) = (172, S) by unfold actM; rw [if_neg (by omega), hix]; simp only; rw [if_pos trivial, iG]; simp only; unfold actR; rw [if_neg (by omega)]; rw [if_neg (by omega)]; rw [if_neg (by omega)]; rw [if_neg (by omega)]; rw [if_neg (by omega)]; rw [if_neg (by omega)]; unfold actWrite; rw [bg]; exact (if_neg (by simp)).trans (if_pos rfl)] <;> exact ⟨rfl, rfl⟩⟩)
  have jE : (obj S.O ok).kind = 3 := hI.kind dw
  refine af.region ?_
  refine gK 5 [(133, .map (some (L.m d))), (134, .string name)] [(3, v_ 0 (bA L hkd))] ?_
  refine fQ 1 hkd bg ?_
  refine NN (af.block (SR ?_))
  refine gK 3 [(137, .bool true), (138, vP (L.b ok))] [] ?_
  refine NN ?_
  refine CT ?_
  refine SR ?_
  refine gK 1 [] [] ?_
  refine NS ?_
  refine gK 1 [(6, vI 174)] [] ?_
  refine NN (af.ret (ai.aF (ai.aq ?_)))
  exact RT (vI 174) [2, 3, 4, 0, 5, 1, 6] (⟨L, by rw [show (actM S root a) = (174, S) by unfold actM; rw [if_neg (by omega), hix]; simp only; rw [if_pos trivial, iG]; simp only; unfold actR; rw [if_neg (by omega)]; rw [if_neg (by omega)]; rw [if_neg (by omega)]; rw [if_neg (by omega)]; rw [if_neg (by omega)]; rw [if_neg (by omega)]; unfold actWrite; rw [bg]; exact if_pos rfl] <;> exact ⟨rfl, rfl⟩⟩)
 have hkt : (obj S.O tk).kind = 3 := hI.kind hlv
 refine af.region ?_
 refine gK 5 [(33, .map (some m)), (34, vI (root))] [(3, a_ 0 f)] ?_
 refine aj.dm 1 (d := (some 35)) (t := 80) (K := 3) (E := 84) (b := m) (n := S.idx.length) (f := (aO (aK L S.idx))) (x := (.tmp 33)) (ix := (.tmp 34)) (key := .int .i64 (root)) (z := .nilIface) (kl := (.int .i64 root)) (r := (some (cO L ⟨tk, 3⟩))) (fun _ => by kernel_rfl) (by kernel_rfl) (fun _ => by kernel_rfl) (fun _ => by kernel_rfl) cU Tryz.underlying80 (fun _ => by kernel_rfl) (gX hrw) (by rw [dQ, hix]; rfl) ?_
 refine gK 1 [(7, .iface 93 (vP (L.b tk)))] [] ?_
 refine NN (af.seq (SR ?_))
 refine gK 2 [(37, .bool false)] [] ?_
 refine NN ?_
 refine CF ?_
 refine af.skip (NX (SR ?_))
 refine gK 7 [(8, .pointer none), (9, .bool false)] [] ?_
 refine NN (af.seq (SR ?_))
 refine gK 2 [(44, .bool true)] [] ?_
 refine NN ?_
 refine CT ?_
 refine SR ?_
 refine gK 1 [(6, vI 173)] [] ?_
 refine NN (af.ret (ai.aq ?_))
 exact RT (vI 173) [0, 1, 2, 3, 4, 5, 6] (⟨L, by rw [show (actM S root a) = (173, S) by unfold actM; rw [if_neg (by omega), hix]; simp only; exact if_neg (by simp)] <;> exact ⟨rfl, rfl⟩⟩)
end
section
open Go.RowKit
attribute [local irreducible] aj aR af ai
theorem JI {β : Bs} (A : Option Addr) (ns : List aC) (L : Lay) (hG : aA β A ns L) (hr : bP ns) (i : Nat) (hi : i < ns.length) (hel : (nd ns i).ah.length ≤ 1048576) (hwf : ∀ j, j < (nd ns i).ah.length → -9223372036854775808 ≤ (ent ns i j).id ∧ (ent ns i j).id ≤ 9223372036854775807) (hnm : ∀ j, j < (nd ns i).ah.length → (ent ns i j).name.size ≤ 1048576)
    (mb mp : Nat) (ps : List (Nat × Nat)) (hpl : ps.length ≤ 16777216) (hps : ∀ p, p ∈ ps → p.1 < ns.length) (hnp : (ps.map Prod.fst).Nodup) :
    Spec Tryz.prog β 120 #[.pointer (some ⟨(au A), ar A + i * 10, none⟩), .map (some mb), .map (some mp)] [.abs (aE Tryz.prog 3 mb (mf (bf A ns ns.length)) ns.length), .abs (aE Tryz.prog 3 mp (mf (pf ((ps).map (gM ns)))) ((ps).length))] (fun v l => (v = .bool true ∧ sJ ns i ps ∧ l = [.abs (aE Tryz.prog 3 mb (mf (bf A ns ns.length)) ns.length), .abs (aE Tryz.prog 3 mp (mf (pf ((cG ns i (nd ns i).ah.length ++ ps).map (gM ns)))) ((cG ns i (nd ns i).ah.length ++ ps).length))]) ∨ (v = .bool false ∧ ¬ sJ ns i ps ∧ l = [])) := by
 refine Spec.enter Tryz.func120 rfl Tryz.ntmps120 (Nat.le_of_ble_eq_true rfl) (fun R => ?_)
 refine SR ?_
 refine gK 1 [] [] ?_
 refine NS ?_
 refine gK 1 [(7, .string ⟨#[]⟩)] [] ?_
 refine NN (af.seq (SR ?_))
 refine gK 6 [(16, .slice (L.eA i) ((nd ns i).ah.length) ((L.eC i))), (17, vI ↑((nd ns i).ah.length)), (18, vI 0)] [(3, p_ ⟨[.old (.slice (L.eA i) ((nd ns i).ah.length) ((L.eC i)))], none, none, none, none⟩ [(Rd β ⟨(au A), ar A + i * 10 + 9, none⟩ (.slice (L.eA i) ((nd ns i).ah.length) ((L.eC i))))] ⟨aA.rd hG (i := i) (by omega) (j := 9) rfl, trivial⟩)] ?_
 refine NN (af.block ?_)
 refine af.loop (ι := Nat) (fun (j : Nat) => (j ≤ (nd ns i).ah.length) ∧ (∀ t, t < j → lN ns i t) ∧ (((cG ns i j ++ ps).map Prod.fst).Nodup)) (fun (j : Nat) => (nd ns i).ah.length - j) (fun (j : Nat) => [(0, .pointer (some ⟨(au A), ar A + i * 10, none⟩)), (1, .map (some mb)), (2, .map (some mp)), (7, .string (jO ns i j)), (16, .slice (L.eA i) ((nd ns i).ah.length) ((L.eC i))), (17, vI ↑((nd ns i).ah.length)), (18, vI ↑j)]) (fun (j : Nat) => [.abs (aE Tryz.prog 3 mb (mf (bf A ns ns.length)) ns.length), .abs (aE Tryz.prog 3 mp (mf (pf ((cG ns i j ++ ps).map (gM ns)))) ((cG ns i j ++ ps).length)), .abs R]) 0 (idx := [0, 1, 2, 7, 16, 17, 18]) (pk := [0, 1, 2]) (show (0 ≤ (nd ns i).ah.length) ∧ (∀ t, t < 0 → lN ns i t) ∧ (((cG ns i 0 ++ ps).map Prod.fst).Nodup) from ⟨Nat.zero_le _, fun t ht => absurd ht (Nat.not_lt_zero t), hnp⟩) (fun _ => by kernel_rfl) rfl (by kernel_rfl) ?_
 rintro j ⟨hj, hok, hnd⟩
 show af _ _ _ _ [(0, .pointer (some ⟨(au A), ar A + i * 10, none⟩)), (1, .map (some mb)), (2, .map (some mp)), (7, .string (jO ns i j)), (16, .slice (L.eA i) ((nd ns i).ah.length) ((L.eC i))), (17, vI ↑((nd ns i).ah.length)), (18, vI ↑j)] [.abs (aE Tryz.prog 3 mb (mf (bf A ns ns.length)) ns.length), .abs (aE Tryz.prog 3 mp (mf (pf ((cG ns i j ++ ps).map (gM ns)))) ((cG ns i j ++ ps).length)), .abs R] _
 refine SR ?_
 refine gK 1 [(19, .bool (decide ((((j : Nat) : Int) : Int) < ((((nd ns i).ah.length : Nat) : Int) : Int))))] [] ?_
 refine NN (af.seq ?_)
 refine af.bn (p := (((j : Nat) : Int) : Int) < ((((nd ns i).ah.length : Nat) : Int) : Int)) (fun _ => by kernel_rfl) (fun QJ => ?_) (fun QJ => ?_)
 ·refine af.skip (NX (af.seq (af.block (SR ?_))))
  refine gN 4 (fun b1 => [(9, vP b1)]) (fun b1 => [(0, p_ ⟨[], some j, none, some ⟨(au (L.eA i)), ar (L.eA i), none⟩, none⟩ [((j : Nat) : Int) = ((j : Nat) : Int), j < (nd ns i).ah.length, (⟨(au (L.eA i)), ar (L.eA i), none⟩ : Addr).spot = none, ((L.eA i) : Option Addr) = some ⟨(au (L.eA i)), ar (L.eA i), none⟩] ⟨rfl, by omega, rfl, cF.hd (hG.ah i (by omega)) (i := j) (by omega), trivial⟩), (1, p_ ⟨[.old (.string (en (nd ns i).ah j).name), .old (.int .i64 ((en (nd ns i).ah j).id))], none, none, none, none⟩ [(Rd β ⟨(au (L.eA i)), ar (L.eA i) + j * 2 + 1, none⟩ (.int .i64 ((en (nd ns i).ah j).id))), (Rd β ⟨(au (L.eA i)), ar (L.eA i) + j * 2, none⟩ (.string (en (nd ns i).ah j).name))] ⟨cF.rd (hG.ah i (by omega)) (i := j) (by omega) (j := 1) rfl, cF.rd (hG.ah i (by omega)) (i := j) (by omega) (j := 0) rfl, trivial⟩), (3, A_ 3 b1 2)]) (fun _ => []) (fun b1 => .blk b1 [.string (en (nd ns i).ah j).name, vI ((en (nd ns i).ah j).id)] 101) (fun b1 => ?_)
  refine NS ?_
  refine gK 3 [(22, .map (some mb)), (24, vI ((en (nd ns i).ah j).id))] [(2, a_ 3 b1)] ?_
  by_cases hat : 0 ≤ iE ns (en (nd ns i).ah j).id
  ·have htl := gH hat
   refine aj.dm 0 (d := (some 25)) (t := 143) (K := 3) (E := 146) (b := mb) (n := ns.length) (f := (mf (bf A ns ns.length))) (x := (.tmp 22)) (ix := (.tmp 24)) (key := .int .i64 ((en (nd ns i).ah j).id)) (z := .pointer none) (kl := (.int .i64 (en (nd ns i).ah j).id)) (r := (some (.pointer (some ⟨(au A), ar A + (tgt ns (en (nd ns i).ah j).id) * 10, none⟩)))) (fun _ => by kernel_rfl) (by kernel_rfl) (fun _ => by kernel_rfl) (fun _ => by kernel_rfl) cU Tryz.underlying143 (fun _ => by kernel_rfl) (jM (hwf j (by omega)).1 (hwf j (by omega)).2) (EO hat htl.1) ?_
   refine gK 1 [(10, .pointer (some ⟨(au A), ar A + (tgt ns (en (nd ns i).ah j).id) * 10, none⟩))] [] ?_
   refine NN (af.seq (SR ?_))
   refine gK 5 [(28, .bool false), (30, .string (en (nd ns i).ah j).name)] [(4, a_ 3 b1)] ?_
   refine gL [] (p4 (en (nd ns i).ah j).name (hnm j (by omega))) ?_
   rintro _ _ ⟨rfl, rfl⟩
   refine gK 3 [(34, .bool (!(decide (bB (en (nd ns i).ah j).name))))] [] ?_
   refine aj.fM 34 (bB (en (nd ns i).ah j).name) (fun _ => by kernel_rfl) (fun vY => ?_) (fun vY => ?_)
   ·refine gK 5 [(39, .bool true)] [] ?_
    refine NN ?_
    refine CT ?_
    refine SR ?_
    refine gK 1 [(6, .bool false)] [] ?_
    refine NN (af.ret (ai.aq (ai.aF (ai.aq (ai.aq (ai.aF (ai.aq ?_)))))))
    exact RT (l := []) (.bool false) [2] (.inr ⟨rfl, fun h => vY (h.ah j (by omega)).good, rfl⟩)
   refine gK 5 [(39, .bool (decide (iX ((en (nd ns i).ah j).name) (jO ns i j))))] [(1, a_ 3 b1), (3, p_ ⟨[], none, none, none, some (.bool (decide (iX ((en (nd ns i).ah j).name) (jO ns i j))))⟩ [(Value.bool (Op.bytesLess (((en (nd ns i).ah j).name) : ByteArray).toList (((jO ns i j)) : ByteArray).toList || (((en (nd ns i).ah j).name) : ByteArray).toList == (((jO ns i j)) : ByteArray).toList)) = (.bool (decide (iX ((en (nd ns i).ah j).name) (jO ns i j))))] ⟨LY _ _, trivial⟩)] ?_
   refine NN ?_
   refine af.bn (p := iX ((en (nd ns i).ah j).name) (jO ns i j)) (fun _ => by kernel_rfl) (fun nA => ?_) (fun nA => ?_)
   ·refine SR ?_
    refine gK 1 [(6, .bool false)] [] ?_
    refine NN (af.ret (ai.aq (ai.aF (ai.aq (ai.aq (ai.aF (ai.aq ?_)))))))
    exact RT (l := []) (.bool false) [2] (.inr ⟨rfl, fun h => (h.ah j (by omega)).ord nA, rfl⟩)
   refine af.skip (NX (SR ?_))
   refine gK 3 [(7, .string (en (nd ns i).ah j).name)] [(1, a_ 3 b1)] ?_
   refine NN (af.seq (SR ?_))
   refine gK 5 [(46, .bool (!(decide (((nd ns (tgt ns (en (nd ns i).ah j).id)).kind : Int) = (2 : Int)))))] [(3, p_ ⟨[.old (.int .i64 ((nd ns (tgt ns (en (nd ns i).ah j).id)).kind))], none, none, none, none⟩ [(Rd β ⟨(au A), ar A + (tgt ns (en (nd ns i).ah j).id) * 10 + 1, none⟩ (.int .i64 ((nd ns (tgt ns (en (nd ns i).ah j).id)).kind)))] ⟨aA.rd hG (i := (tgt ns (en (nd ns i).ah j).id)) (by omega) (j := 1) rfl, trivial⟩)] ?_
   refine NN ?_
   refine af.ct (p := ((nd ns (tgt ns (en (nd ns i).ah j).id)).kind : Int) = (2 : Int)) (fun _ => by kernel_rfl) (fun h46 => ?_) (fun h46 => ?_)
   ·refine af.exit (ai.aT (ai.bX (NX (af.region ?_))))
    refine aj.dH 1 (p := .abs (aE Tryz.prog 3 mp (mf (pf ((cG ns i j ++ ps).map (gM ns)))) ((cG ns i j ++ ps).length))) (p' := .abs (aE Tryz.prog 3 mp (mf (pf ((cG ns i (j + 1) ++ ps).map (gM ns)))) ((cG ns i (j + 1) ++ ps).length))) (by kernel_rfl) (by rw [qI h46]) ?_
    refine gK 2 [(18, vI ↑(j + 1))] [(0, p_ ⟨[], none, none, none, some (vI ↑(j + 1))⟩ [(Value.int .i64 (IntKind.wrap .i64 (((j : Nat) : Int) + 1))) = (.int .i64 ↑(j + 1))] ⟨bE (by omega) (by omega) (by omega), trivial⟩)] ?_
    refine NL ?_
    exact ai.turn ((j + 1)) (idx := [0, 1, 2, 7, 16, 17, 18]) (pk := [0, 1, 2]) (show (((j + 1)) ≤ (nd ns i).ah.length) ∧ (∀ t, t < ((j + 1)) → lN ns i t) ∧ (((cG ns i ((j + 1)) ++ ps).map Prod.fst).Nodup) from ⟨by omega, fun t ht => (by rcases Nat.lt_succ_iff_lt_or_eq.1 ht with h | h; exact hok t h; subst h; exact ⟨hat, vY, nA⟩), (by rw [qI h46]; exact hnd)⟩) (by show (nd ns i).ah.length - ((j + 1)) < (nd ns i).ah.length - j; omega) (fun _ => by kernel_rfl) rfl (by kernel_rfl)
   refine af.skip (NX (af.seq (SR ?_)))
   refine gK 3 [(48, .map (some mp)), (50, vI ((en (nd ns i).ah j).id))] [(2, a_ 3 b1)] ?_
   rcases hup : up ((cG ns i j ++ ps).map (gM ns)) (en (nd ns i).ah j).id with _ | y
   ·refine aj.mh 1 (d := (some 51)) (t := 183) (K := 3) (E := 3) (b := mp) (n := (cG ns i j ++ ps).length) (f := (mf (pf ((cG ns i j ++ ps).map (gM ns))))) (x := (.tmp 48)) (ix := (.tmp 50)) (key := .int .i64 ((en (nd ns i).ah j).id)) (z := .int .i64 0) (kl := (.int .i64 (en (nd ns i).ah j).id)) (r := none) (fun _ => by kernel_rfl) (by kernel_rfl) (fun _ => by kernel_rfl) (fun _ => by kernel_rfl) cU Tryz.underlying183 (fun _ => by kernel_rfl) (jM (hwf j (by omega)).1 (hwf j (by omega)).2) (sI hup) ?_
    refine gK 5 [(12, .bool false)] [] ?_
    refine NS ?_
    refine gK 1 [(54, .bool false)] [] ?_
    refine NN ?_
    refine CF ?_
    refine af.skip (NX ?_)
    refine af.rB 7 (by kernel_rfl) (by kernel_rfl) ?_
    refine fN.seg (k' := 7) (fr' := [(0, .pointer (some ⟨(au A), ar A + i * 10, none⟩)), (1, .map (some mb)), (2, .map (some mp)), (7, .string (en (nd ns i).ah j).name), (16, .slice (L.eA i) ((nd ns i).ah.length) ((L.eC i))), (17, vI ↑((nd ns i).ah.length)), (18, vI ↑j), (55, .map (some mp)), (57, vI ((en (nd ns i).ah j).id)), (61, vI ((nd ns i).id))]) (aU := [(Rd β ⟨(au A), ar A + i * 10, none⟩ (.int .i64 ((nd ns i).id))), b1 = b1]) [o_, o_, ⟨[.at 3], none, none, none, none⟩, o_, o_, o_, ⟨[.old (.int .i64 ((nd ns i).id))], none, none, none, none⟩] [0, 1, 2, 7, 16, 17, 18, 55, 57, 61] (fun _ _ => by kernel_rfl) ⟨aA.rd hG (i := i) (by omega) (j := 0) rfl, rfl, trivial⟩ (by decide) ?_
    refine fN.done rfl ?_
    refine aj.jW 1 (d := none) (t := 183) (K := 3) (E := 3) (b := mp) (n := (cG ns i j ++ ps).length) (f := (mf (pf ((cG ns i j ++ ps).map (gM ns))))) (x := (.tmp 55)) (ix := (.tmp 57)) (y := (.tmp 61)) (key := .int .i64 ((en (nd ns i).ah j).id)) (u := .int .i64 ((nd ns i).id)) (kl := (.int .i64 (en (nd ns i).ah j).id)) (n' := (cG ns i (j + 1) ++ ps).length) (f' := (mf (pf ((cG ns i (j + 1) ++ ps).map (gM ns))))) (fun _ => by kernel_rfl) (by kernel_rfl) (fun _ => by kernel_rfl) (fun _ => by kernel_rfl) (fun _ => by kernel_rfl) cU Tryz.underlying183 (by have := Cn ns i j; rw [List.length_append]; unfold maxLen; omega) (jM (hwf j (by omega)).1 (hwf j (by omega)).2) (II (sI hup) h46) (IG hat h46) ?_
    refine NL (ai.aL (NX (af.region ?_)))
    refine gK 2 [(18, vI ↑(j + 1))] [(0, p_ ⟨[], none, none, none, some (vI ↑(j + 1))⟩ [(Value.int .i64 (IntKind.wrap .i64 (((j : Nat) : Int) + 1))) = (.int .i64 ↑(j + 1))] ⟨bE (by omega) (by omega) (by omega), trivial⟩)] ?_
    refine NL ?_
    exact ai.turn ((j + 1)) (idx := [0, 1, 2, 7, 16, 17, 18]) (pk := [0, 1, 2]) (show (((j + 1)) ≤ (nd ns i).ah.length) ∧ (∀ t, t < ((j + 1)) → lN ns i t) ∧ (((cG ns i ((j + 1)) ++ ps).map Prod.fst).Nodup) from ⟨by omega, fun t ht => (by rcases Nat.lt_succ_iff_lt_or_eq.1 ht with h | h; exact hok t h; subst h; exact ⟨hat, vY, nA⟩), (EP hat h46 hup hnd)⟩) (by show (nd ns i).ah.length - ((j + 1)) < (nd ns i).ah.length - j; omega) (fun _ => by kernel_rfl) rfl (by kernel_rfl)
   refine aj.mh 1 (d := (some 51)) (t := 183) (K := 3) (E := 3) (b := mp) (n := (cG ns i j ++ ps).length) (f := (mf (pf ((cG ns i j ++ ps).map (gM ns))))) (x := (.tmp 48)) (ix := (.tmp 50)) (key := .int .i64 ((en (nd ns i).ah j).id)) (z := .int .i64 0) (kl := (.int .i64 (en (nd ns i).ah j).id)) (r := (some (vI y))) (fun _ => by kernel_rfl) (by kernel_rfl) (fun _ => by kernel_rfl) (fun _ => by kernel_rfl) cU Tryz.underlying183 (fun _ => by kernel_rfl) (jM (hwf j (by omega)).1 (hwf j (by omega)).2) (Ke hup) ?_
   refine gK 5 [(12, .bool true)] [] ?_
   refine NS ?_
   refine gK 1 [(54, .bool true)] [] ?_
   refine NN ?_
   refine CT ?_
   refine SR ?_
   refine gK 1 [(6, .bool false)] [] ?_
   refine NN (af.ret (ai.aq (ai.aF (ai.aq (ai.aq (ai.aF (ai.aq ?_)))))))
   exact RT (l := []) (.bool false) [2] (.inr ⟨rfl, DE hr hps hok hat h46 hup (by omega), rfl⟩)
  refine aj.dm 0 (d := (some 25)) (t := 143) (K := 3) (E := 146) (b := mb) (n := ns.length) (f := (mf (bf A ns ns.length))) (x := (.tmp 22)) (ix := (.tmp 24)) (key := .int .i64 ((en (nd ns i).ah j).id)) (z := .pointer none) (kl := (.int .i64 (en (nd ns i).ah j).id)) (r := none) (fun _ => by kernel_rfl) (by kernel_rfl) (fun _ => by kernel_rfl) (fun _ => by kernel_rfl) cU Tryz.underlying143 (fun _ => by kernel_rfl) (jM (hwf j (by omega)).1 (hwf j (by omega)).2) (D9 hat) ?_
  refine gK 1 [(10, .pointer none)] [] ?_
  refine NN (af.seq (SR ?_))
  refine gK 14 [(39, .bool true)] [] ?_
  refine NN ?_
  refine CT ?_
  refine SR ?_
  refine gK 1 [(6, .bool false)] [] ?_
  refine NN (af.ret (ai.aq (ai.aF (ai.aq (ai.aq (ai.aF (ai.aq ?_)))))))
  exact RT (l := []) (.bool false) [2] (.inr ⟨rfl, fun h => hat (h.ah j (by omega)).at_, rfl⟩)
 refine af.exit (ai.aT (ai.aT (ai.bX (NX (SR ?_)))))
 refine gK 1 [(6, .bool true)] [] ?_
 refine NN (af.ret ?_)
 exact RT (l := [.abs (aE Tryz.prog 3 mb (mf (bf A ns ns.length)) ns.length), .abs (aE Tryz.prog 3 mp (mf (pf ((cG ns i j ++ ps).map (gM ns)))) ((cG ns i j ++ ps).length))]) (.bool true) [0, 1, 2] (.inl ⟨rfl, ⟨fun t ht => hok t (by omega), by have := hnd; rwa [show j = (nd ns i).ah.length by omega] at this⟩, by rw [show j = (nd ns i).ah.length by omega]⟩)
end
section
open Go.RowKit Go.Maps
def dx (ns : List aC) : Nat → Nat
  | 0 => 0
  | k + 1 => dx ns k + (nd ns k).ah.length
def jZ (ns : List aC) : Nat → Int
  | 0 => 0
  | k + 1 => (nd ns k).id
structure bD (ns : List aC) : Prop where
  len : ns.length ≤ 4096
  node : ∀ i, i < ns.length → og (nd ns i)
  ids : ∀ i, i < ns.length → 1 ≤ (nd ns i).id ∧ (nd ns i).id ≤ 1099511627776
  rise : bP ns
  sum : dx ns ns.length ≤ 8192
  ah : ∀ i, i < ns.length → ∀ j, j < (nd ns i).ah.length → lN ns i j
  nodup : ((dZ ns ns.length).map Prod.fst).Nodup
  ends : tZ ((dZ ns ns.length).map (gM ns))
noncomputable instance (ns : List aC) : Decidable (bD ns) := Classical.propDecidable _
theorem bD.last {ns : List aC} (h : bD ns) {k : Nat} (hk : k < ns.length) : jZ ns k < (nd ns k).id := by
  cases k with
  | zero => have := (h.ids 0 hk).1; show (0 : Int) < _; omega
  | succ k => exact h.rise k (k + 1) (Nat.lt_succ_self k) hk
structure nQ (ns : List aC) (k : Nat) : Prop where
  node : ∀ i, i < k → og (nd ns i)
  ids : ∀ i, i < k → 1 ≤ (nd ns i).id ∧ (nd ns i).id ≤ 1099511627776
  rise : ∀ i j, i < j → j < k → (nd ns i).id < (nd ns j).id
theorem nQ.zero (ns : List aC) : nQ ns 0 := ⟨fun i h => absurd h (Nat.not_lt_zero i), fun i h => absurd h (Nat.not_lt_zero i), fun _ j _ h => absurd h (Nat.not_lt_zero j)⟩
theorem nQ.last {ns : List aC} {k : Nat} (h : nQ ns k) : 0 ≤ jZ ns k ∧ jZ ns k ≤ 1099511627776 := by
  cases k with
  | zero => exact ⟨Int.le_refl _, by show (0 : Int) ≤ 1099511627776; decide⟩
  | succ k => have := h.ids k (Nat.lt_succ_self k); exact ⟨by show 0 ≤ (nd ns k).id; omega, this.2⟩
theorem nQ.step {ns : List aC} {k : Nat} (h : nQ ns k) (h1 : jZ ns k < (nd ns k).id) (h2 : (nd ns k).id ≤ 1099511627776) (h3 : og (nd ns k)) : nQ ns (k + 1) := by
  have hl := h.last
  refine ⟨fun i hi => ?_, fun i hi => ?_, fun i j hij hj => ?_⟩
  ·rcases Nat.lt_succ_iff_lt_or_eq.1 hi with e | e
   ·exact h.node i e
   rw [e]; exact h3
  ·rcases Nat.lt_succ_iff_lt_or_eq.1 hi with e | e
   ·exact h.ids i e
   rw [e]; omega
  rcases Nat.lt_succ_iff_lt_or_eq.1 hj with e | e
  ·exact h.rise i j hij e
  subst e
  cases j with
  | zero => omega
  | succ m =>
    have h4 : (nd ns m).id < (nd ns (m + 1)).id := h1
    rcases Nat.lt_succ_iff_lt_or_eq.1 hij with e | e
    ·have := h.rise i m e (Nat.lt_succ_self m); omega
    rw [e]; exact h4
theorem Dl {ns : List aC} {k : Nat} (h : ∀ i, i < k → (nd ns i).id < (nd ns k).id) (hk : k < ns.length) : iE ns (nd ns k).id = (k : Int) := by
  unfold iE
  have hg : ∀ j (hj : j < ns.length), nd ns j = ns[j] := fun j hj => by
    unfold nd
    rw [List.getD_eq_getElem?_getD, List.getElem?_eq_getElem hj]
    rfl
  have : ns.findIdx? (fun n => n.id == (nd ns k).id) = some k := by
    rw [List.findIdx?_eq_some_iff_getElem]
    refine ⟨hk, by rw [← hg k hk]; simp, fun j hj => ?_⟩
    have := h j hj
    rw [← hg j (by omega)]
    simp
    omega
  rw [this]
theorem M5 {A : Option Addr} {ns : List aC} {k : Nat} (h : ∀ i, i < k → (nd ns i).id < (nd ns k).id) (hk : k < ns.length) :
    iD (mf (bf A ns k)) (.int .i64 (nd ns k).id) (some (.pointer (some ⟨au A, ar A + k * 10, none⟩))) = mf (bf A ns (k + 1)) := by
  have ha := Dl h hk
  rw [xS]
  congr 1
  funext z
  unfold bf
  by_cases e : z = (nd ns k).id
  ·subst e
   rw [if_pos rfl, if_pos ⟨by omega, by omega⟩]
   unfold tgt
   rw [ha]
   rfl
  rw [if_neg e]
  by_cases e1 : 0 ≤ iE ns z ∧ iE ns z < (k : Int)
  ·rw [if_pos e1, if_pos ⟨e1.1, by omega⟩]
  rw [if_neg e1, if_neg (fun e2 => ?_)]
  have e3 : iE ns z = (k : Int) := by omega
  have e4 := (gH e2.1).2
  rw [e4.2] at e3
  have e5 : tgt ns z = k := by omega
  rw [e5] at e4
  exact e e4.1.symm
theorem JJ {A : Option Addr} {ns : List aC} {k : Nat} (h : ∀ i, i < k → (nd ns i).id < (nd ns k).id) (hk : k < ns.length) : (if ((mf (bf A ns k)) (.int .i64 (nd ns k).id)).isSome then k else k + 1) = k + 1 := by
  have ha := Dl h hk
  have : mf (bf A ns k) (.int .i64 (nd ns k).id) = none := if_neg (fun e => by omega)
  rw [this]
  rfl
theorem nQ.below {ns : List aC} {k : Nat} (h : nQ ns k) (h1 : jZ ns k < (nd ns k).id) : ∀ i, i < k → (nd ns i).id < (nd ns k).id := by
  intro i hi
  cases k with
  | zero => omega
  | succ m =>
    have h1 : (nd ns m).id < (nd ns (m + 1)).id := h1
    rcases Nat.lt_succ_iff_lt_or_eq.1 hi with e | e
    ·have := h.rise i m e (Nat.lt_succ_self m); omega
    rw [e]; exact h1
theorem Li {A : Option Addr} {ns : List aC} : mf (bf A ns 0) = fun _ => none := by
  rw [← vl]
  congr 1
  funext z
  exact if_neg (fun e => by omega)
theorem Lj {ns : List aC} : mf (pf ((dZ ns 0).map (gM ns))) = fun _ => none := by
  rw [← vl]
  congr 1
theorem xq {ns : List aC} {i : Nat} (hi : i ≤ ns.length) (h : ∀ a, a < i → ∀ j, j < (nd ns a).ah.length → lN ns a j) : ∀ p, p ∈ dZ ns i → p.1 < ns.length ∧ p.2 < ns.length := by
  induction i with
  | zero => intro p hp; cases hp
  | succ i ih =>
    intro p hp
    rw [dZ] at hp
    rcases List.mem_append.1 hp with hp | hp
    ·have := Co (h i (Nat.lt_succ_self i)) p hp
     exact ⟨this.1, by omega⟩
    exact ih (by omega) (fun a ha => h a (by omega)) p hp
theorem Dm (ns : List aC) (i : Nat) : (dZ ns i).length ≤ dx ns i := by
  induction i with
  | zero => exact Nat.le_refl _
  | succ i ih =>
    rw [dZ, dx, List.length_append]
    have := Cn ns i (nd ns i).ah.length
    omega
theorem rJ {ns : List aC} {i m : Nat} (h : i ≤ m) : dx ns i ≤ dx ns m := by
  induction m with
  | zero => rw [Nat.le_zero.1 h]; exact Nat.le_refl _
  | succ m ih =>
    rcases Nat.lt_or_ge m i with h1 | h1
    ·have : i = m + 1 := by omega
     subst this
     exact Nat.le_refl _
    have := ih h1
    rw [dx]
    omega
theorem HV {ns : List aC} {ps : List (Nat × Nat)} (hp : ∀ p, p ∈ ps → p.1 < ns.length ∧ p.2 < ns.length) (hid : ∀ i, i < ns.length → 1 ≤ (nd ns i).id ∧ (nd ns i).id ≤ 1099511627776) :
    ∀ z y, up (ps.map (gM ns)) z = some y → (-9223372036854775808 ≤ z ∧ z ≤ 9223372036854775807) ∧ (-9223372036854775808 ≤ y ∧ y ≤ 9223372036854775807) := by
  intro z y h
  unfold up at h
  induction ps with
  | nil => cases h
  | cons p ps ih =>
    obtain ⟨a, b⟩ := p
    rw [List.map_cons, gM, List.lookup_cons] at h
    by_cases e : (z == (nd ns a).id) = true
    ·rw [e] at h
     cases h
     have h1 := hp (a, b) (List.mem_cons_self ..)
     have h2 := hid a h1.1
     have h3 := hid b h1.2
     have : z = (nd ns a).id := by simpa using e
     show (_ ∧ _) ∧ (-9223372036854775808 ≤ (nd ns b).id ∧ (nd ns b).id ≤ 9223372036854775807)
     omega
    have e : (z == (nd ns a).id) = false := by simpa using e
    rw [e] at h
    exact ih (fun p hp' => hp p (List.mem_cons_of_mem _ hp')) h
theorem M6 {p : Prop} [Decidable p] {v : Value} {l : List HP} (h : v = .bool (decide p) ∧ l = []) : (v = .bool true ∧ p ∧ l = []) ∨ (v = .bool false ∧ ¬ p ∧ l = []) := by
  by_cases hp : p
  ·exact .inl ⟨by rw [h.1, decide_eq_true hp], hp, h.2⟩
  exact .inr ⟨by rw [h.1, decide_eq_false hp], hp, h.2⟩
theorem sJ.next {ns : List aC} {i : Nat} (h : sJ ns i (dZ ns i)) : ((dZ ns (i + 1)).map Prod.fst).Nodup := h.nodup
theorem bD.row {ns : List aC} (h : bD ns) {i : Nat} (hi : i < ns.length) : sJ ns i (dZ ns i) := by
  refine ⟨h.ah i hi, ?_⟩
  obtain ⟨l, hl⟩ := Gn (ns := ns) (show i + 1 ≤ ns.length from hi)
  have := h.nodup
  rw [hl] at this
  exact t6 this
end
section
open Go.RowKit
attribute [local irreducible] aj aR af ai
theorem EA {β : Bs} (A : Option Addr) (c : Nat) (ns : List aC) (L : Lay) (hG : aA β A ns L) (hl : ns.length ≤ 1048576) (hd : ∀ i, i < ns.length → (nd ns i).data.length ≤ 140737488355328 ∧ (nd ns i).ah.length ≤ 1048576) (hwf : ∀ i, i < ns.length → ∀ j, j < (nd ns i).ah.length → -9223372036854775808 ≤ (ent ns i j).id ∧ (ent ns i j).id ≤ 9223372036854775807) (hnm : ∀ i, i < ns.length → ∀ j, j < (nd ns i).ah.length → (ent ns i j).name.size ≤ 1048576) :
    Spec Tryz.prog β 68 #[.agg #[.slice A ns.length c]] [] (fun v l => (∃ mb, v = .tuple #[.map (some mb), .bool true] ∧ bD ns ∧ l = [.abs (aE Tryz.prog 3 mb (mf (bf A ns ns.length)) ns.length)]) ∨ (∃ m, v = .tuple #[m, .bool false] ∧ ¬ bD ns ∧ l = [])) := by
 refine Spec.enter Tryz.func68 rfl Tryz.ntmps68 (Nat.le_of_ble_eq_true rfl) (fun R => ?_)
 refine SR ?_
 refine gN 3 (fun b1 => [(1, vP b1)]) (fun _ => []) (fun _ => []) (fun b1 => .blk b1 [.slice A (ns.length) (c)] 24) (fun b1 => ?_)
 refine NN (af.seq (SR ?_))
 refine gK 4 [(14, .bool (decide ((((ns.length : Nat) : Int) : Int) > (4096 : Int))))] [(1, a_ 1 b1)] ?_
 refine NN ?_
 refine af.bn (p := (((ns.length : Nat) : Int) : Int) > (4096 : Int)) (fun _ => by kernel_rfl) (fun gG => ?_) (fun gG => ?_)
 ·refine SR ?_
  refine gK 2 [(2, .map none), (3, .bool false)] [] ?_
  refine NN (af.ret (ai.aq ?_))
  exact RT (.tuple #[.map none, .bool false]) [0] (.inr ⟨_, rfl, fun h => by have := h.len; omega, rfl⟩)
 refine af.skip (NX (SR ?_))
 refine aj.kK (d := (some 15)) (t := 143) (fun _ => by kernel_rfl) Tryz.prog rfl 3 (fun m2 => ?_)
 refine gK 1 [(4, .map (some m2))] [] ?_
 refine NS ?_
 refine aj.dH 2 (p := .abs (aE Tryz.prog 3 m2 (fun _ => none) 0)) (p' := .abs (aE Tryz.prog 3 m2 (mf (bf A ns 0)) 0)) (by kernel_rfl) (by rw [Li]) ?_
 refine gK 2 [(5, vI 0), (6, vI 0)] [] ?_
 refine NN (af.seq (SR ?_))
 refine gK 4 [(18, vI ↑ns.length), (19, vI 0)] [(1, a_ 1 b1)] ?_
 refine NN (af.block ?_)
 refine af.loop (ι := Nat) (fun (k : Nat) => (k ≤ ns.length) ∧ (nQ ns k) ∧ (dx ns k ≤ k * 1048576)) (fun (k : Nat) => ns.length - k) (fun (k : Nat) => [(1, vP b1), (4, .map (some m2)), (5, vI (jZ ns k)), (6, vI ↑(dx ns k)), (18, vI ↑ns.length), (19, vI ↑k)]) (fun (k : Nat) => [.blk b1 [.slice A (ns.length) (c)] 24, .abs (aE Tryz.prog 3 m2 (mf (bf A ns k)) k), .abs R]) 0 (idx := [1, 4, 5, 6, 18, 19]) (pk := [1, 2, 0]) (show (0 ≤ ns.length) ∧ (nQ ns 0) ∧ (dx ns 0 ≤ 0 * 1048576) from ⟨Nat.zero_le _, nQ.zero ns, Nat.zero_le _⟩) (fun _ => by kernel_rfl) rfl (by kernel_rfl) ?_
 rintro k ⟨hk, hu, hs⟩
 show af _ _ _ _ [(1, vP b1), (4, .map (some m2)), (5, vI (jZ ns k)), (6, vI ↑(dx ns k)), (18, vI ↑ns.length), (19, vI ↑k)] [.blk b1 [.slice A (ns.length) (c)] 24, .abs (aE Tryz.prog 3 m2 (mf (bf A ns k)) k), .abs R] _
 have hk4 := (hd k)
 refine SR ?_
 refine gK 1 [(20, .bool (decide ((((k : Nat) : Int) : Int) < (((ns.length : Nat) : Int) : Int))))] [] ?_
 refine NN (af.seq ?_)
 refine af.bn (p := (((k : Nat) : Int) : Int) < (((ns.length : Nat) : Int) : Int)) (fun _ => by kernel_rfl) (fun nB => ?_) (fun nB => ?_)
 ·refine af.skip (NX (af.seq (af.block (SR ?_))))
  refine gK 2 [(7, vI ↑k)] [] ?_
  refine NS ?_
  refine gK 5 [(8, .pointer (some ⟨(au A), ar A + k * 10, none⟩))] [(1, a_ 0 b1), (3, p_ ⟨[], some k, none, some ⟨(au A), ar A, none⟩, none⟩ [((k : Nat) : Int) = ((k : Nat) : Int), k < ns.length, (⟨(au A), ar A, none⟩ : Addr).spot = none, (A : Option Addr) = some ⟨(au A), ar A, none⟩] ⟨rfl, by omega, rfl, aA.hd hG (i := k) (by omega), trivial⟩)] ?_
  refine NN (af.seq (SR ?_))
  refine gK 7 [(32, .bool (decide (((nd ns k).id : Int) ≤ (jZ ns k : Int))))] [(3, p_ ⟨[.old (.int .i64 ((nd ns k).id))], none, none, none, none⟩ [(Rd β ⟨(au A), ar A + k * 10, none⟩ (.int .i64 ((nd ns k).id)))] ⟨aA.rd hG (i := k) (by omega) (j := 0) rfl, trivial⟩)] ?_
  refine aj.gA 32 (((nd ns k).id : Int) ≤ (jZ ns k : Int)) (fun _ => by kernel_rfl) (fun D4 => ?_) (fun D4 => ?_)
  ·refine gK 11 [(43, .bool true)] [] ?_
   refine NN ?_
   refine CT ?_
   refine SR ?_
   refine gK 2 [(2, .map none), (3, .bool false)] [] ?_
   refine NN (af.ret (ai.aq (ai.aF (ai.aq (ai.aq (ai.aF (ai.aq ?_)))))))
   exact RT (.tuple #[.map none, .bool false]) [2] (.inr ⟨_, rfl, fun h => by have := h.last (show k < ns.length by omega); omega, rfl⟩)
  refine gK 7 [(39, .bool (decide (((nd ns k).id : Int) > (1099511627776 : Int))))] [(3, p_ ⟨[.old (.int .i64 ((nd ns k).id))], none, none, none, none⟩ [(Rd β ⟨(au A), ar A + k * 10, none⟩ (.int .i64 ((nd ns k).id)))] ⟨aA.rd hG (i := k) (by omega) (j := 0) rfl, trivial⟩)] ?_
  refine aj.gA 39 (((nd ns k).id : Int) > (1099511627776 : Int)) (fun _ => by kernel_rfl) (fun nA => ?_) (fun nA => ?_)
  ·refine gK 4 [(43, .bool true)] [] ?_
   refine NN ?_
   refine CT ?_
   refine SR ?_
   refine gK 2 [(2, .map none), (3, .bool false)] [] ?_
   refine NN (af.ret (ai.aq (ai.aF (ai.aq (ai.aq (ai.aF (ai.aq ?_)))))))
   exact RT (.tuple #[.map none, .bool false]) [2] (.inr ⟨_, rfl, fun h => by have := (h.ids k (by omega)).2; omega, rfl⟩)
  refine gK 1 [(40, .pointer (some ⟨(au A), ar A + k * 10, none⟩))] [] ?_
  refine gL [] (IE A ns L hG k (by omega)) ?_
  rintro _ _ ⟨rfl, rfl⟩
  refine gK 2 [(43, .bool (!(decide (og (nd ns k)))))] [] ?_
  refine NN ?_
  refine af.ct (p := og (nd ns k)) (fun _ => by kernel_rfl) (fun M7 => ?_) (fun M7 => ?_)
  ·refine SR ?_
   refine gK 2 [(2, .map none), (3, .bool false)] [] ?_
   refine NN (af.ret (ai.aq (ai.aF (ai.aq (ai.aq (ai.aF (ai.aq ?_)))))))
   exact RT (.tuple #[.map none, .bool false]) [2] (.inr ⟨_, rfl, fun h => M7 (h.node k (by omega)), rfl⟩)
  refine af.skip (NX (SR ?_))
  refine gK 5 [(5, vI ((nd ns k).id))] [(3, p_ ⟨[.old (.int .i64 ((nd ns k).id))], none, none, none, none⟩ [(Rd β ⟨(au A), ar A + k * 10, none⟩ (.int .i64 ((nd ns k).id)))] ⟨aA.rd hG (i := k) (by omega) (j := 0) rfl, trivial⟩)] ?_
  refine NS ?_
  refine gK 6 [(48, .map (some m2)), (52, vI ((nd ns k).id)), (53, .pointer (some ⟨(au A), ar A + k * 10, none⟩))] [(4, p_ ⟨[.old (.int .i64 ((nd ns k).id))], none, none, none, none⟩ [(Rd β ⟨(au A), ar A + k * 10, none⟩ (.int .i64 ((nd ns k).id)))] ⟨aA.rd hG (i := k) (by omega) (j := 0) rfl, trivial⟩)] ?_
  refine aj.jW 1 (d := none) (t := 143) (K := 3) (E := 146) (b := m2) (n := k) (f := (mf (bf A ns k))) (x := (.tmp 48)) (ix := (.tmp 52)) (y := (.tmp 53)) (key := .int .i64 ((nd ns k).id)) (u := .pointer (some ⟨(au A), ar A + k * 10, none⟩)) (kl := (.int .i64 (nd ns k).id)) (n' := k + 1) (f' := (mf (bf A ns (k + 1)))) (fun _ => by kernel_rfl) (by kernel_rfl) (fun _ => by kernel_rfl) (fun _ => by kernel_rfl) (fun _ => by kernel_rfl) cU Tryz.underlying143 (by unfold maxLen; omega) (jM (by have := hu.last; omega) (by omega)) (JJ (hu.below (by omega)) (by omega)) (M5 (hu.below (by omega)) (by omega)) ?_
  refine NN (af.region ?_)
  refine gK 8 [(6, vI ↑((dx ns k) + ((nd ns k).ah.length)))] [(4, p_ ⟨[.old (.slice (L.eA k) ((nd ns k).ah.length) ((L.eC k)))], none, none, none, none⟩ [(Rd β ⟨(au A), ar A + k * 10 + 9, none⟩ (.slice (L.eA k) ((nd ns k).ah.length) ((L.eC k))))] ⟨aA.rd hG (i := k) (by omega) (j := 9) rfl, trivial⟩), (6, p_ ⟨[], none, none, none, some (vI ↑((dx ns k) + ((nd ns k).ah.length)))⟩ [(Value.int .i64 (IntKind.wrap .i64 (((dx ns k : Nat) : Int) + (((nd ns k).ah.length : Nat) : Int)))) = (.int .i64 ↑((dx ns k) + ((nd ns k).ah.length)))] ⟨bE (by omega) (by omega) (by omega), trivial⟩)] ?_
  refine NL (ai.aL (NX (af.region ?_)))
  refine gK 2 [(19, vI ↑(k + 1))] [(0, p_ ⟨[], none, none, none, some (vI ↑(k + 1))⟩ [(Value.int .i64 (IntKind.wrap .i64 (((k : Nat) : Int) + 1))) = (.int .i64 ↑(k + 1))] ⟨bE (by omega) (by omega) (by omega), trivial⟩)] ?_
  refine NL ?_
  exact ai.turn ((k + 1)) (idx := [1, 4, 5, 6, 18, 19]) (pk := [0, 1, 2]) (show (((k + 1)) ≤ ns.length) ∧ (nQ ns ((k + 1))) ∧ (dx ns ((k + 1)) ≤ ((k + 1)) * 1048576) from ⟨by omega, hu.step (by omega) (by omega) M7, by have := (hd k (by omega)).2; show dx ns k + _ ≤ _; omega⟩) (by show ns.length - ((k + 1)) < ns.length - k; omega) (fun _ => by kernel_rfl) rfl (by kernel_rfl)
 refine af.exit (ai.aT (ai.aT (ai.bX (NX (af.seq (SR ?_))))))
 refine gK 2 [(63, .bool (decide ((((dx ns k : Nat) : Int) : Int) > (8192 : Int))))] [] ?_
 refine NN ?_
 refine af.bn (p := (((dx ns k : Nat) : Int) : Int) > (8192 : Int)) (fun _ => by kernel_rfl) (fun h63 => ?_) (fun h63 => ?_)
 ·refine SR ?_
  refine gK 2 [(2, .map none), (3, .bool false)] [] ?_
  refine NN (af.ret (ai.aq ?_))
  exact RT (.tuple #[.map none, .bool false]) [2] (.inr ⟨_, rfl, fun h => by have h1 := h.sum; rw [show ns.length = k by omega] at h1; omega, rfl⟩)
 refine af.skip (NX (SR ?_))
 refine aj.kK (d := (some 64)) (t := 183) (fun _ => by kernel_rfl) Tryz.prog rfl 3 (fun m3 => ?_)
 refine gK 1 [(9, .map (some m3))] [] ?_
 refine NN (af.seq (SR ?_))
 refine aj.dH 3 (p := .abs (aE Tryz.prog 3 m3 (fun _ => none) 0)) (p' := .abs (aE Tryz.prog 3 m3 (mf (pf ((dZ ns 0).map (gM ns)))) ((dZ ns 0).length))) (by kernel_rfl) (by rw [Lj]; rfl) ?_
 refine aj.dH 1 (p := .abs (aE Tryz.prog 3 m2 (mf (bf A ns k)) k)) (p' := .abs (aE Tryz.prog 3 m2 (mf (bf A ns ns.length)) ns.length)) (by kernel_rfl) (by rw [show k = ns.length by omega]) ?_
 refine gK 4 [(67, vI ↑ns.length), (68, vI 0)] [(1, a_ 0 b1)] ?_
 refine NN (af.block ?_)
 have KJ : bP ns := fun a b hab hb => hu.rise a b hab (by omega)
 have hsum : dx ns ns.length ≤ 8192 := by rw [show ns.length = k by omega]; omega
 refine af.loop (ι := Nat) (fun (i : Nat) => (i ≤ ns.length) ∧ (∀ a, a < i → ∀ j, j < (nd ns a).ah.length → lN ns a j) ∧ (((dZ ns i).map Prod.fst).Nodup)) (fun (i : Nat) => ns.length - i) (fun (i : Nat) => [(1, vP b1), (4, .map (some m2)), (9, .map (some m3)), (67, vI ↑ns.length), (68, vI ↑i)]) (fun (i : Nat) => [.blk b1 [.slice A (ns.length) (c)] 24, .abs (aE Tryz.prog 3 m2 (mf (bf A ns ns.length)) ns.length), .abs (aE Tryz.prog 3 m3 (mf (pf ((dZ ns i).map (gM ns)))) ((dZ ns i).length)), .abs R]) 0 (idx := [1, 4, 9, 67, 68]) (pk := [0, 1, 3, 2]) (show (0 ≤ ns.length) ∧ (∀ a, a < 0 → ∀ j, j < (nd ns a).ah.length → lN ns a j) ∧ (((dZ ns 0).map Prod.fst).Nodup) from ⟨Nat.zero_le _, fun a ha => absurd ha (Nat.not_lt_zero a), List.nodup_nil⟩) (fun _ => by kernel_rfl) rfl (by kernel_rfl) ?_
 rintro i ⟨hi, BO, hnd⟩
 show af _ _ _ _ [(1, vP b1), (4, .map (some m2)), (9, .map (some m3)), (67, vI ↑ns.length), (68, vI ↑i)] [.blk b1 [.slice A (ns.length) (c)] 24, .abs (aE Tryz.prog 3 m2 (mf (bf A ns ns.length)) ns.length), .abs (aE Tryz.prog 3 m3 (mf (pf ((dZ ns i).map (gM ns)))) ((dZ ns i).length)), .abs R] _
 refine SR ?_
 refine gK 1 [(69, .bool (decide ((((i : Nat) : Int) : Int) < (((ns.length : Nat) : Int) : Int))))] [] ?_
 refine NN (af.seq ?_)
 refine af.bn (p := (((i : Nat) : Int) : Int) < (((ns.length : Nat) : Int) : Int)) (fun _ => by kernel_rfl) (fun Kc => ?_) (fun Kc => ?_)
 ·refine af.skip (NX (af.seq (af.block (SR ?_))))
  refine gK 2 [(10, vI ↑i)] [] ?_
  refine NS ?_
  refine gK 6 [(74, .pointer (some ⟨(au A), ar A + i * 10, none⟩)), (75, .map (some m2)), (76, .map (some m3))] [(1, a_ 0 b1), (3, p_ ⟨[], some i, none, some ⟨(au A), ar A, none⟩, none⟩ [((i : Nat) : Int) = ((i : Nat) : Int), i < ns.length, (⟨(au A), ar A, none⟩ : Addr).spot = none, (A : Option Addr) = some ⟨(au A), ar A, none⟩] ⟨rfl, by omega, rfl, aA.hd hG (i := i) (by omega), trivial⟩)] ?_
  refine gL [1, 2] (JI A ns L hG KJ i (by omega) (hd i (by omega)).2 (hwf i (by omega)) (hnm i (by omega)) m2 m3 (dZ ns i) (by have := Dm ns i; have := rJ (ns := ns) (show i ≤ ns.length by omega); omega) (fun p hp => (xq (by omega) BO p hp).1) hnd) ?_
  rintro _ _ (⟨rfl, hro, rfl⟩ | ⟨rfl, hro, rfl⟩)
  ·refine gK 1 [(78, .bool false)] [] ?_
   refine NN ?_
   refine CF ?_
   refine af.skip (ai.aL (NX (af.region ?_)))
   refine gK 2 [(68, vI ↑(i + 1))] [(0, p_ ⟨[], none, none, none, some (vI ↑(i + 1))⟩ [(Value.int .i64 (IntKind.wrap .i64 (((i : Nat) : Int) + 1))) = (.int .i64 ↑(i + 1))] ⟨bE (by omega) (by omega) (by omega), trivial⟩)] ?_
   refine NL ?_
   exact ai.turn ((i + 1)) (idx := [1, 4, 9, 67, 68]) (pk := [2, 0, 1, 3]) (show (((i + 1)) ≤ ns.length) ∧ (∀ a, a < ((i + 1)) → ∀ j, j < (nd ns a).ah.length → lN ns a j) ∧ (((dZ ns ((i + 1))).map Prod.fst).Nodup) from ⟨by omega, fun a ha => (by rcases Nat.lt_succ_iff_lt_or_eq.1 ha with h | h; exact BO a h; subst h; exact hro.ah), hro.next⟩) (by show ns.length - ((i + 1)) < ns.length - i; omega) (fun _ => by kernel_rfl) rfl (by kernel_rfl)
  refine gK 1 [(78, .bool true)] [] ?_
  refine NN ?_
  refine CT ?_
  refine SR ?_
  refine gK 2 [(2, .map none), (3, .bool false)] [] ?_
  refine NN (af.ret (ai.aF (ai.aq (ai.aq (ai.aF (ai.aq ?_))))))
  exact RT (.tuple #[.map none, .bool false]) [1] (.inr ⟨_, rfl, fun h => hro (h.row (by omega)), rfl⟩)
 refine af.exit (ai.aT (ai.aT (ai.bX (NX (SR ?_)))))
 refine gK 2 [(80, .map (some m2)), (81, .map (some m3))] [] ?_
 refine aj.dH 2 (p := .abs (aE Tryz.prog 3 m3 (mf (pf ((dZ ns i).map (gM ns)))) ((dZ ns i).length))) (p' := .abs (aE Tryz.prog 3 m3 (mf (pf ((dZ ns i).map (gM ns)))) (((dZ ns i).map (gM ns)).length))) (by kernel_rfl) (by rw [List.length_map]) ?_
 refine gL [2] ((Gi m3 ((dZ ns i).map (gM ns)) (by rw [List.length_map]; have := Dm ns i; have := rJ (ns := ns) (show i ≤ ns.length by omega); omega) (HV (xq (by omega) BO) (fun a ha => hu.ids a (by omega)))).mono (fun v l h => M6 h)) ?_
 rintro _ _ (⟨rfl, M8, rfl⟩ | ⟨rfl, M8, rfl⟩)
 ·refine gK 2 [(2, .map (some m2)), (3, .bool true)] [] ?_
  refine NN (af.ret ?_)
  exact RT (.tuple #[.map (some m2), .bool true]) [1, 2] (.inl ⟨m2, rfl, ⟨by omega, fun a ha => hu.node a (by omega), fun a ha => hu.ids a (by omega), KJ, by omega, fun a ha => BO a (by omega), by have := hnd; rwa [show i = ns.length by omega] at this, by have := M8; rwa [show i = ns.length by omega] at this⟩, rfl⟩)
 refine gK 2 [(2, .map (some m2)), (3, .bool false)] [] ?_
 refine NN (af.ret ?_)
 exact RT (.tuple #[.map (some m2), .bool false]) [2] (.inr ⟨_, rfl, fun h => M8 (by have := h.ends; rwa [show ns.length = i by omega] at this), rfl⟩)
theorem JK {β : Bs} (A : Option Addr) (c : Nat) (ns : List aC) (L : Lay) (hG : aA β A ns L) (hl : ns.length ≤ 1048576) (hd : ∀ i, i < ns.length → (nd ns i).data.length ≤ 140737488355328 ∧ (nd ns i).ah.length ≤ 1048576) (hwf : ∀ i, i < ns.length → ∀ j, j < (nd ns i).ah.length → -9223372036854775808 ≤ (ent ns i j).id ∧ (ent ns i j).id ≤ 9223372036854775807) (hnm : ∀ i, i < ns.length → ∀ j, j < (nd ns i).ah.length → (ent ns i j).name.size ≤ 1048576) :
    Spec Tryz.prog β 27 #[.agg #[.slice A ns.length c]] [] (fun v l => v = vI (if bD ns then 0 else 140) ∧ l = []) := by
 refine Spec.enter Tryz.func27 rfl Tryz.ntmps27 (Nat.le_of_ble_eq_true rfl) (fun R => ?_)
 refine SR ?_
 refine gN 2 (fun b4 => [(1, vP b4)]) (fun _ => []) (fun _ => []) (fun b4 => .blk b4 [.slice A (ns.length) (c)] 24) (fun b4 => ?_)
 refine NN (af.seq (SR ?_))
 refine gK 1 [(6, .agg #[.slice A (ns.length) (c)])] [(0, a_ 1 b4)] ?_
 refine gL [] (EA A c ns L hG hl hd hwf hnm) ?_
 rintro _ _ (⟨mb, rfl, hok, rfl⟩ | ⟨m, rfl, hok, rfl⟩)
 ·refine gK 5 [(4, .bool true)] [] ?_
  refine NS ?_
  refine gK 2 [(11, .bool false)] [] ?_
  refine NN ?_
  refine CF ?_
  refine af.skip (NX (SR ?_))
  refine gK 1 [(2, vI 0)] [] ?_
  refine NN (af.ret ?_)
  exact RT (vI 0) [1] (⟨congrArg (Value.int .i64) (if_pos hok).symm, rfl⟩)
 refine gK 5 [(4, .bool false)] [] ?_
 refine NS ?_
 refine gK 2 [(11, .bool true)] [] ?_
 refine NN ?_
 refine CT ?_
 refine SR ?_
 refine gK 1 [(2, vI 140)] [] ?_
 refine NN (af.ret (ai.aq ?_))
 exact RT (vI 140) [0] (⟨congrArg (Value.int .i64) (if_neg hok).symm, rfl⟩)
end
section
open Go.RowKit Go.Maps
def PZ (ed : List (Nat × Nat)) (k : Nat) : Int := match ed.lookup k with | some a => (a : Int) | none => -1
structure RR (n : Nat) (pl : List Int) (ed : List (Nat × Nat)) : Prop where
  len : pl.length = n
  at_ : ∀ k, k < n → pl.getD k 0 = PZ ed k
theorem xu : ∀ (n : Nat) (l : List Nat), l.Nodup → (∀ x, x ∈ l → x < n) → l.length ≤ n
  | 0, [], _, _ => Nat.le_refl _
  | 0, a :: l, _, h => absurd (h a (List.mem_cons_self ..)) (Nat.not_lt_zero a)
  | n + 1, l, hn, h => by
    have h1 := xu n (l.erase n) (hn.erase n) (fun x hx => by
      have h2 := (List.Nodup.mem_erase_iff hn).1 hx
      have := h x h2.2
      omega)
    by_cases hm : n ∈ l
    ·have := List.length_erase_of_mem hm
     omega
    rw [List.erase_of_not_mem hm] at h1
    omega
end
section
open Go.RowKit Go.Maps
structure Af (ns : List aC) (i j : Nat) : Prop where
  M9 : i < ns.length
  Bd : j < (nd ns i).ah.length
  dir : (nd ns (tgt ns (ent ns i j).id)).kind = 2
section
variable {ns : List aC}
theorem qy {i m : Nat} {p : Nat × Nat} : p ∈ cG ns i m ↔ ∃ j, j < m ∧ (nd ns (tgt ns (ent ns i j).id)).kind = 2 ∧ p = (tgt ns (ent ns i j).id, i) := by
  induction m with
  | zero => simp [cG]
  | succ m ih =>
    by_cases h : (nd ns (tgt ns (ent ns i m).id)).kind = 2
    ·rw [nG h, List.mem_cons, ih]
     refine ⟨fun hp => ?_, fun ⟨j, hj, h1, h2⟩ => ?_⟩
     ·rcases hp with rfl | ⟨j, hj, h1, h2⟩
      ·exact ⟨m, Nat.lt_succ_self m, h, rfl⟩
      exact ⟨j, Nat.lt_succ_of_lt hj, h1, h2⟩
     rcases Nat.lt_succ_iff_lt_or_eq.1 hj with e | e
     ·exact .inr ⟨j, e, h1, h2⟩
     subst e; exact .inl h2
    rw [qI h, ih]
    refine ⟨fun ⟨j, hj, h1⟩ => ⟨j, Nat.lt_succ_of_lt hj, h1⟩, fun ⟨j, hj, h1, h2⟩ => ?_⟩
    rcases Nat.lt_succ_iff_lt_or_eq.1 hj with e | e
    ·exact ⟨j, e, h1, h2⟩
    subst e; exact absurd h1 h
theorem tj {m : Nat} {p : Nat × Nat} : p ∈ dZ ns m ↔ ∃ i j, i < m ∧ j < (nd ns i).ah.length ∧ (nd ns (tgt ns (ent ns i j).id)).kind = 2 ∧ p = (tgt ns (ent ns i j).id, i) := by
  induction m with
  | zero => simp [dZ]
  | succ m ih =>
    rw [dZ, List.mem_append, qy, ih]
    refine ⟨fun h => ?_, fun ⟨i, j, hi, hj, h1, h2⟩ => ?_⟩
    ·rcases h with ⟨j, hj, h1, h2⟩ | ⟨i, j, hi, h⟩
     ·exact ⟨m, j, Nat.lt_succ_self m, hj, h1, h2⟩
     exact ⟨i, j, Nat.lt_succ_of_lt hi, h⟩
    rcases Nat.lt_succ_iff_lt_or_eq.1 hi with e | e
    ·exact .inr ⟨i, j, e, hj, h1, h2⟩
    subst e; exact .inl ⟨j, hj, h1, h2⟩
theorem Af.mem {i j : Nat} (h : Af ns i j) : (tgt ns (ent ns i j).id, i) ∈ dZ ns ns.length := tj.2 ⟨i, j, h.M9, h.Bd, h.dir, rfl⟩
def KL (ns : List aC) (m : Nat) : Prop := ∀ i j i' j', Af ns i j → Af ns i' j' → i < m → i' < m → tgt ns (ent ns i j).id = tgt ns (ent ns i' j').id → i = i' ∧ j = j'
theorem HX {i m : Nat} (h : ((cG ns i m).map Prod.fst).Nodup) : ∀ j j', j < m → j' < m → (nd ns (tgt ns (ent ns i j).id)).kind = 2 → (nd ns (tgt ns (ent ns i j').id)).kind = 2 → tgt ns (ent ns i j).id = tgt ns (ent ns i j').id → j = j' := by
  induction m with
  | zero => intro j j' hj; omega
  | succ m ih =>
    intro j j' hj hj' hk hk' e
    by_cases hm : (nd ns (tgt ns (ent ns i m).id)).kind = 2
    ·rw [nG hm, List.map_cons, List.nodup_cons] at h
     rcases Nat.lt_succ_iff_lt_or_eq.1 hj with e1 | e1
     ·rcases Nat.lt_succ_iff_lt_or_eq.1 hj' with e2 | e2
      ·exact ih h.2 j j' e1 e2 hk hk' e
      subst e2; exact absurd (List.mem_map.2 ⟨_, qy.2 ⟨j, e1, hk, rfl⟩, e⟩) h.1
     rcases Nat.lt_succ_iff_lt_or_eq.1 hj' with e2 | e2
     ·subst e1; exact absurd (List.mem_map.2 ⟨_, qy.2 ⟨j', e2, hk', rfl⟩, e.symm⟩) h.1
     omega
    rw [qI hm] at h
    rcases Nat.lt_succ_iff_lt_or_eq.1 hj with e1 | e1
    ·rcases Nat.lt_succ_iff_lt_or_eq.1 hj' with e2 | e2
     ·exact ih h j j' e1 e2 hk hk' e
     subst e2; exact absurd hk' hm
    subst e1; exact absurd hk hm
theorem HY {m : Nat} (h : ((dZ ns m).map Prod.fst).Nodup) : KL ns m := by
  induction m with
  | zero => intro i j i' j' _ _ hi; omega
  | succ m ih =>
    rw [dZ, List.map_append] at h
    obtain ⟨h1, h2, h3⟩ := List.nodup_append.1 h
    intro i j i' j' g g' hi hi' e
    rcases Nat.lt_succ_iff_lt_or_eq.1 hi with e1 | e1
    ·rcases Nat.lt_succ_iff_lt_or_eq.1 hi' with e2 | e2
     ·exact ih h2 i j i' j' g g' e1 e2 e
     subst e2
     exact absurd e.symm (h3 _ (List.mem_map.2 ⟨_, qy.2 ⟨j', g'.Bd, g'.dir, rfl⟩, rfl⟩) _ (List.mem_map.2 ⟨_, tj.2 ⟨i, j, e1, g.Bd, g.dir, rfl⟩, rfl⟩))
    rcases Nat.lt_succ_iff_lt_or_eq.1 hi' with e2 | e2
    ·subst e1
     exact absurd e (h3 _ (List.mem_map.2 ⟨_, qy.2 ⟨j, g.Bd, g.dir, rfl⟩, rfl⟩) _ (List.mem_map.2 ⟨_, tj.2 ⟨i', j', e2, g'.Bd, g'.dir, rfl⟩, rfl⟩))
    subst e1; subst e2
    exact ⟨rfl, HX h1 j j' g.Bd g'.Bd g.dir g'.dir e⟩
def EB (ns : List aC) (d : Nat → Nat) : Prop := ∀ i j, Af ns i j → d i < d (tgt ns (ent ns i j).id)
theorem bD.uniq (h : bD ns) : KL ns ns.length := HY h.nodup
theorem bD.deep (h : bD ns) : ∃ d, EB ns d := by
  refine ⟨fun k => Classical.choose (h.ends (nd ns k).id), fun i j g => ?_⟩
  have hp := xq (ns := ns) (Nat.le_refl _) h.ah
  have hat := (h.ah i g.M9 j g.Bd).at_
  have htl := gH hat
  have e1 := Classical.choose_spec (h.ends (nd ns i).id)
  have e2 := Classical.choose_spec (h.ends (nd ns (tgt ns (ent ns i j).id)).id)
  show Classical.choose (h.ends (nd ns i).id) < Classical.choose (h.ends (nd ns (tgt ns (ent ns i j).id)).id)
  generalize Classical.choose (h.ends (nd ns i).id) = x at e1 ⊢
  generalize Classical.choose (h.ends (nd ns (tgt ns (ent ns i j).id)).id) = y at e2 ⊢
  cases hu : up ((dZ ns ns.length).map (gM ns)) (nd ns (tgt ns (ent ns i j).id)).id with
  | none =>
    have := D7 hu
    exact absurd (List.mem_map.2 ⟨_, g.mem, rfl⟩) this
  | some z =>
    obtain ⟨_, p, g1, g2, g3⟩ := D8 h.rise htl.1 (fun p hp' => (hp p hp').1) hu
    obtain ⟨a, b, ha, hb, hk, rfl⟩ := tj.1 g1
    have g2 : tgt ns (ent ns a b).id = tgt ns (ent ns i j).id := g2
    obtain ⟨rfl, rfl⟩ := h.uniq a b i j ⟨ha, hb, hk⟩ g ha g.M9 g2
    have g3 : z = (nd ns a).id := g3
    cases y with
    | zero =>
      have e2 : up _ _ = none := e2
      rw [hu] at e2; cases e2
    | succ y =>
      obtain ⟨z', h1, h2⟩ := e2
      rw [hu] at h1
      cases h1
      rw [g3] at h2
      have := e1.uniq h2
      show x < y + 1
      omega
end
end
section
open Go.RowKit Go.Maps HeapM TabM
structure pH (X : FM) : Prop where
  cN : 0 ≤ X.cN ∧ X.cN ≤ 4096
  cB : 0 ≤ X.cB ∧ X.cB ≤ 1099511627776
  cH : 0 ≤ X.cH ∧ X.cH ≤ 1024
  now : cT X.cS X.cZ
def dW (n : aC) : Nat := n.id.toNat
def nj (n : aC) : Th := ⟨dW n, n.kind⟩
def oC (n : aC) : aM := ⟨n.id, n.mode, n.uid, n.gid, n.sec, n.nano, 0, 0, false, n.kind, n.data, n.target, [], none⟩
def Ow : aM := ⟨0, 0, 0, 0, 0, 0, 0, 0, false, 0, [], ⟨#[]⟩, [], none⟩
def fB (X : FM) : aG := ⟨{ X with last := 0, ah := 0, used := 0 }, fun _ => Ow, [], [], 0⟩
def aZ (S : aG) (n : aC) : aG := { S with X := { S.X with last := n.id, used := S.X.used + n.data.length }, O := ay S.O (dW n) (fun _ => oC n), idx := ins n.id (nj n) S.idx }
def jK (ns : List aC) (e : gU) : Th := nj (nd ns (tgt ns e.id))
def jF (ns : List aC) (S : aG) (n : aC) (e : gU) : aG := { S with X := { S.X with ah := S.X.ah + 1 }, O := kY S.O (dW n) e.name (jK ns e) }
def qz (ns : List aC) : Nat → Nat
  | 0 => 0
  | k + 1 => qz ns k + (nd ns k).data.length
def Ag (ns : List aC) : Used Th := ns.map (fun n => (n.id, nj n))
structure kr (X : FM) (ns : List aC) (k : Nat) (S : aG) : Prop where
  inv : Inv0 S
  idx : S.idx = Ag (ns.take k)
  us : S.us = []
  av : S.av = 0
  cap : S.X = { X with last := jZ ns k, ah := 0, used := (qz ns k : Int) }
  ob : ∀ a, a < k → obj S.O (dW (nd ns a)) = oC (nd ns a)
section base
variable {X : FM} {ns : List aC} {i j k a b : Nat} {S : aG}
theorem uS (h : bD ns) (hk : k < ns.length) : (dW (nd ns k) : Int) = (nd ns k).id := by
  have := h.ids k hk
  unfold dW; omega
theorem pS (h : bD ns) (ha : a < ns.length) (hb : b < ns.length) (e : dW (nd ns a) = dW (nd ns b)) : a = b :=
  h.rise.inj ha hb (by rw [← uS h ha, ← uS h hb, e])
theorem uT (hk : k < ns.length) : ns[k]? = some (nd ns k) := getD_some hk
theorem Ll (hk : k < ns.length) : ns.take (k + 1) = ns.take k ++ [nd ns k] := by
  rw [List.take_add_one, uT hk]; rfl
theorem HZ (hX : pH X) : kr X ns 0 (fB X) := by
  refine ⟨?_, rfl, rfl, rfl, rfl, fun a h => absurd h (Nat.not_lt_zero a)⟩
  have hn : ∀ t, ¬ Live ([] : Used Th) t := fun t h => by cases h
  exact ⟨hX.cN, hX.cB, hX.cH, hX.now, by show (0 : Int) ≤ 0 ∧ (0 : Int) ≤ _; omega, .nil, Nat.zero_le _, fun _ _ e => (by cases e), fun t h => absurd h (hn t), fun t h => absurd h (hn t), fun t h => absurd h (hn t), fun t h => absurd h (hn t),
    fun _ _ => ⟨rfl, rfl⟩, fun _ _ => rfl, ⟨rfl, by show (0 : Int) ≤ 8192; omega⟩, fun t h => absurd h (hn t), fun t h => absurd h (hn t), fun t h => absurd h (hn t), .nil, fun x hx => (by cases hx), (by show ((0 : Nat) : Int) ≤ X.cH; have := hX.cH; omega), ⟨Int.le_refl _, hX.cH.1⟩, fun _ _ e => (by cases e), fun t h => absurd h (hn t), fun t h => absurd h (hn t), ⟨fun _ => 0, fun k d e => (by cases e)⟩, ⟨rfl, by show (0 : Int) ≤ _; omega⟩⟩
theorem EC (h : bD ns) (hk : k < ns.length) : ∀ x ∈ keys (Ag (ns.take k)), x < (nd ns k).id := by
  intro x hx
  obtain ⟨p, hp, rfl⟩ := List.mem_map.1 hx
  obtain ⟨n, hn, rfl⟩ := List.mem_map.1 hp
  obtain ⟨a, ha, e⟩ := List.mem_iff_getElem.1 hn
  rw [List.length_take] at ha
  rw [List.getElem_take] at e
  have e2 : nd ns a = n := by
    have := uT (ns := ns) (k := a) (by omega)
    rw [List.getElem?_eq_getElem (by omega), e] at this
    exact (Option.some.inj this).symm
  rw [← e2]
  exact h.rise a k (by omega) hk
theorem Be (hd : ∀ i, i < ns.length → (nd ns i).data.length ≤ 1048576) (hk : k ≤ ns.length) : qz ns k ≤ 1048576 * k := by
  induction k with
  | zero => exact Nat.le_refl _
  | succ k ih =>
    have h1 := ih (by omega)
    have h2 := hd k hk
    show qz ns k + (nd ns k).data.length ≤ _
    omega
theorem uU (h : bD ns) (hd : ∀ i, i < ns.length → (nd ns i).data.length ≤ 1048576) (hk : k < ns.length) (hB : kr X ns k S) : kr X ns (k + 1) (aZ S (nd ns k)) := by
  have hs := Be hd (Nat.le_of_lt hk)
  have hn := h.node k hk
  have hid := uS h hk
  have JL := h.ids k hk
  have hu : S.X.used = (qz ns k : Int) := by rw [hB.cap]
  have hl : S.X.last = jZ ns k := by rw [hB.cap]
  have hlen := h.len
  have hdk := hd k hk
  have Rk : S.idx.length = k := by
    rw [hB.idx]; unfold Ag; rw [List.length_map, List.length_take]; omega
  have h1 := hB.inv.newAt (k0 := dW (nd ns k)) (o := oC (nd ns k)) (jq := S.X.used + (nd ns k).data.length) (us' := S.us) (eU := S.av) (by rw [hid, hl]; exact h.last hk) (by rw [hid]; exact JL.2) ⟨rfl, by rw [hu]; omega⟩ hid.symm
    (by have := hn.kind; show (nd ns k).kind = 1 ∨ (nd ns k).kind = 2 ∨ (nd ns k).kind = 3; omega) rfl rfl rfl rfl
    ⟨hn.mode, hn.uid, hn.gid, hn.time, fun e => List.eq_nil_of_length_eq_zero (hn.data e), fun _ => rfl, hn.target⟩ (by omega)
    hB.inv.usr hB.inv.ur hB.inv.AR hB.inv.av (fun h t e => ⟨.inl (hB.inv.us h t e).1, (hB.inv.us h t e).2⟩) (fun _ _ => rfl) (by rw [hB.us]; rfl)
  rw [hid] at h1
  refine ⟨h1, ?_, hB.us, hB.av, ?_, fun a ha => ?_⟩
  ·show ins (nd ns k).id (nj (nd ns k)) S.idx = _
   rw [hB.idx, I0 (EC h hk), Ll hk]
   unfold Ag; rw [List.map_append]; rfl
  ·show ({ S.X with last := (nd ns k).id, used := S.X.used + ((nd ns k).data.length : Int) } : FM) = _
   rw [hu, hB.cap]
   show (⟨_, _, _, _, _, _, _, _⟩ : FM) = ⟨_, _, _, _, _, _, _, _⟩
   congr 1
  show obj (ay S.O (dW (nd ns k)) (fun _ => oC (nd ns k))) (dW (nd ns a)) = _
  rcases Nat.lt_succ_iff_lt_or_eq.1 ha with e | e
  ·rw [bQ (fun e2 => by have := pS h (by omega) hk e2; omega)]
   exact hB.ob a e
  subst e; exact bG
theorem kr.fresh (h : bD ns) (hk : k < ns.length) (hB : kr X ns k S) : qL S.O S.idx S.us (dW (nd ns k)) := hB.inv.zH (by rw [uS h hk, hB.cap]; exact h.last hk)
theorem kr.new (h : bD ns) (hk : k < ns.length) (hB : kr X ns k S) : TabM.get S.idx (nd ns k).id = none := get_none.2 (fun hm => by
  rw [hB.idx] at hm
  exact absurd (EC h hk _ hm) (by omega))
theorem xw (X : FM) (L : HL) : (∀ k, aN (fB X).O L k = bT.none) ∧ (∀ k, aY (fB X).O L k = bT.none) ∧ ∀ k, bh (fB X).O L k = bT.none := ⟨fun _ => if_pos rfl, fun _ => if_neg (by show ¬ (0 : Int) = 1; omega), fun _ => if_neg (by show ¬ (0 : Int) = 2; omega)⟩
theorem Sat.Ox {β : Bs} {l l' : List HP} {w : World} {i j b m c : Nat} {ix : List Nat} {O : bK} {L L' : HL} {A : Option Addr} {o : aM} (h : Sat β l w) (hL : L' = L.put k b m A c) (hp : l[i]? = some (.abs (ak (aY O L)))) (hq : l[j]? = some (.abs (aI 5 1 A o.data.length c (bL o.data)))) (hd : nodupB (i :: j :: ix) = true) (hl : bM l ix = some l') (h1 : o.kind = 1) : Sat β (.abs (ak (aY (ay O k (fun _ => o)) L')) :: l') w := by
  refine h.o6 hp hq (fun _ _ h => h) hd hl k (fun x hx => by rw [uf hx, vA hL hx]) ?_
  rw [p8 (by rw [bG]; exact h1), bG]
  subst hL
  simp only [HL.put, if_true]
end base
theorem Lm {O : bK} {L : HL} {d : Nat} {name : ByteArray} {t : Th} : aY (kY O d name t) L = aY O L :=
  qi (fun _ => wM (g := aM.data) (fun _ _ => rfl) (fun _ _ => rfl) (fun _ _ => rfl)) (fun _ => uh)
def kG (ns : List aC) (i j a : Nat) : Nat := if a < i then (nd ns a).ah.length else if a = i then j else 0
def nk (ns : List aC) (a m : Nat) : dU Th := ((nd ns a).ah.take m).map (fun e => (e.name, jK ns e))
structure dL (X : FM) (ns : List aC) (i j : Nat) (S : aG) : Prop where
  inv : Inv0 S
  idx : S.idx = Ag ns
  us : S.us = []
  av : S.av = 0
  cap : S.X = { X with last := jZ ns ns.length, ah := ((dx ns i + j : Nat) : Int), used := (qz ns ns.length : Int) }
  ob : ∀ a, a < ns.length → ∃ l u, obj S.O (dW (nd ns a)) = { oC (nd ns a) with links := l, ah := nk ns a (kG ns i j a), up := u }
section ah
variable {X : FM} {ns : List aC} {i j k a b m : Nat} {S : aG} {t : Th}
theorem kr.ah (h : kr X ns ns.length S) : dL X ns 0 0 S := by
  refine ⟨h.inv, by rw [h.idx, List.take_of_length_le (Nat.le_refl _)], h.us, h.av, h.cap, fun a ha => ⟨0, none, ?_⟩⟩
  rw [h.ob a ha]
  have : kG ns 0 0 a = 0 := by
    unfold kG; rw [if_neg (Nat.not_lt_zero a)]; split <;> rfl
  rw [this]; rfl
theorem dL.get (h : dL X ns i j S) (ha : a < ns.length) : TabM.get S.idx (nd ns a).id = some (nj (nd ns a)) := by
  refine kT h.inv.rise ?_
  rw [h.idx]
  exact List.mem_map.2 ⟨nd ns a, List.mem_of_getElem? (uT ha), rfl⟩
theorem dL.live (hG : bD ns) (h : dL X ns i j S) (ha : a < ns.length) : Live S.idx (nj (nd ns a)) := by
  have := h.get ha
  rw [← uS hG ha] at this
  exact this
theorem dL.of (h : dL X ns i j S) {x : Int} (e : TabM.get S.idx x = some t) : ∃ a, a < ns.length ∧ t = nj (nd ns a) := by
  have hm := get_mem e
  rw [h.idx] at hm
  obtain ⟨n, hn, e2⟩ := List.mem_map.1 hm
  obtain ⟨a, ha, e3⟩ := List.mem_iff_getElem.1 hn
  have e4 : nd ns a = n := by
    have := uT ha
    rw [List.getElem?_eq_getElem ha, e3] at this
    exact (Option.some.inj this).symm
  cases e2
  exact ⟨a, ha, by rw [e4]⟩
theorem Dn {es : List gU} {q : Nat} (hq : q < es.length) : es[q]? = some (en es q) := getD_some hq
theorem tq {e : ByteArray × Th} (h : e ∈ nk ns a m) : ∃ q, q < m ∧ q < (nd ns a).ah.length ∧ e.1 = (ent ns a q).name ∧ e.2 = jK ns (ent ns a q) := by
  obtain ⟨x, hx, rfl⟩ := List.mem_map.1 h
  obtain ⟨q, hq, e⟩ := List.mem_iff_getElem.1 hx
  rw [List.length_take] at hq
  rw [List.getElem_take] at e
  have e2 : ent ns a q = x := by
    have := Dn (es := (nd ns a).ah) (q := q) (by omega)
    rw [List.getElem?_eq_getElem (by omega), e] at this
    exact (Option.some.inj this).symm
  exact ⟨q, by omega, by omega, by rw [e2], by rw [e2]⟩
theorem H6 (hj : j < (nd ns i).ah.length) : nk ns i (j + 1) = nk ns i j ++ [((ent ns i j).name, jK ns (ent ns i j))] := by
  unfold nk
  rw [List.take_add_one, Dn hj, List.map_append]; rfl
theorem Ah (hG : bD ns) (hi : i < ns.length) {q : Nat} : ∀ {j}, q < j → j < (nd ns i).ah.length → lQ (ent ns i q).name (ent ns i j).name < 0
  | 0, h, _ => absurd h (Nat.not_lt_zero q)
  | j + 1, h, hj => by
    have h1 := qj.1 (hG.ah i hi (j + 1) hj).ord
    have h1 : lQ (ent ns i j).name (ent ns i (j + 1)).name < 0 := h1
    rcases Nat.lt_succ_iff_lt_or_eq.1 h with e | e
    ·exact xO (Ah hG hi e (by omega)) (Int.le_of_lt h1)
    rw [e]; exact h1
theorem JM (hG : bD ns) (hi : i < ns.length) (hj : j < (nd ns i).ah.length) : aQ (ent ns i j).name (nk ns i j) = none := by
  refine sK.2 (fun e he e1 => ?_)
  obtain ⟨q, h1, h2, h3, _⟩ := tq he
  have := Ah hG hi h1 hj
  rw [← h3, e1] at this
  have h4 := AA (ent ns i j).name
  omega
theorem Bf {n : ByteArray} : ∀ {es : dU Th}, (∀ e ∈ es, lQ e.1 n < 0) → eF n t es = es ++ [(n, t)]
  | [], _ => rfl
  | e :: r, h => by
    have h1 := h e (List.mem_cons_self ..)
    unfold eF
    rw [if_neg (fun hc => by have := qj.1 hc; have := tU e.1 n; omega), Bf (fun x hx => h x (List.mem_cons_of_mem _ hx))]; rfl
theorem JN (hG : bD ns) (hi : i < ns.length) (hj : j < (nd ns i).ah.length) : eF (ent ns i j).name (jK ns (ent ns i j)) (nk ns i j) = nk ns i (j + 1) := by
  rw [H6 hj]
  refine Bf (fun e he => ?_)
  obtain ⟨q, h1, _, h3, _⟩ := tq he
  rw [h3]
  exact Ah hG hi h1 hj
theorem qA (hG : bD ns) (hi : i < ns.length) (hj : j < (nd ns i).ah.length) : tgt ns (ent ns i j).id < ns.length ∧ (nd ns (tgt ns (ent ns i j).id)).id = (ent ns i j).id := by
  have := gH (hG.ah i hi j hj).at_
  exact ⟨this.1, this.2.1⟩
theorem ED {O : bK} {d x : Nat} {name : ByteArray} (h : t.k ≠ d) : obj (kY O d name t) x = if x = d then { obj O d with ah := eF name t (obj O d).ah } else if x = t.k then { obj O x with links := (obj O x).links + 1, up := if t.kind = 2 then some d else (obj O x).up } else obj O x := by
  have key : ∀ O2 : bK, O2 = ay (ay O d (fun o => { o with ah := eF name t o.ah })) t.k (fun o => { o with links := o.links + 1 }) → obj (if t.kind = 2 then ay O2 t.k (fun o => { o with up := some d }) else O2) x = if x = d then { obj O d with ah := eF name t (obj O d).ah } else if x = t.k then { obj O x with links := (obj O x).links + 1, up := if t.kind = 2 then some d else (obj O x).up } else obj O x := by
    intro O2 e
    by_cases hk : t.kind = 2
    ·rw [if_pos hk, if_pos hk, jh, e, jh, jh]
     by_cases e1 : x = d
     ·subst e1; rw [if_neg (fun e => h e.symm), if_neg (fun e => h e.symm), if_pos rfl, if_pos rfl]
     by_cases e2 : x = t.k
     ·rw [if_pos e2, if_pos e2, if_neg e1, if_neg e1, if_pos e2]
     rw [if_neg e2, if_neg e2, if_neg e1, if_neg e1, if_neg e2]
    rw [if_neg hk, if_neg hk, e, jh, jh]
    by_cases e1 : x = d
    ·subst e1; rw [if_neg (fun e => h e.symm), if_pos rfl, if_pos rfl]
    by_cases e2 : x = t.k
    ·rw [if_pos e2, if_neg e1, if_neg e1, if_pos e2]
    rw [if_neg e2, if_neg e1, if_neg e1, if_neg e2]
  exact key _ rfl
theorem dL.P0 (hG : bD ns) (h : dL X ns i j S) {d : Nat} (hd : Live S.idx ⟨d, 2⟩) {n : ByteArray} (ha : a < ns.length) (hk : (nd ns a).kind = 2) (hl : aQ n (obj S.O d).ah = some (nj (nd ns a))) : ∃ b q, b < ns.length ∧ d = dW (nd ns b) ∧ Af ns b q ∧ tgt ns (ent ns b q).id = a := by
  obtain ⟨b, hb, e⟩ := h.of hd
  have e : (⟨d, 2⟩ : Th) = ⟨dW (nd ns b), (nd ns b).kind⟩ := e
  have e1 : d = dW (nd ns b) := congrArg Th.k e
  subst e1
  obtain ⟨l, u, ho⟩ := h.ob b hb
  have hm := jH hl
  rw [ho] at hm
  obtain ⟨q, h1, h2, _, h4⟩ := tq hm
  have ht := qA hG hb h2
  have h5 : dW (nd ns a) = dW (nd ns (tgt ns (ent ns b q).id)) := congrArg Th.k h4
  have h6 := pS hG ha ht.1 h5
  exact ⟨b, q, hb, rfl, ⟨hb, h2, by rw [← h6]; exact hk⟩, h6.symm⟩
theorem dL.below (hG : bD ns) (h : dL X ns i j S) {dp : Nat → Nat} (hdp : EB ns dp) {s k : Nat} (hb : iN S.O s k) : ∀ {a b}, a < ns.length → k = dW (nd ns a) → b < ns.length → s = dW (nd ns b) → dp b ≤ dp a := by
  induction hb with
  | here =>
    intro a b ha e1 hb e2
    have := pS hG ha hb (by rw [← e1, ← e2])
    rw [this]; exact Nat.le_refl _
  | up hup _ ih =>
    intro a b ha e1 hb e2
    subst e1
    have hlv := h.live hG ha
    obtain ⟨h1, h2, n, h3⟩ := (h.inv.up _ hlv _).1 hup
    obtain ⟨c, q, hc, e3, hD, e4⟩ := h.P0 hG h2 ha h1 h3
    have h5 := hdp c q hD
    rw [e4] at h5
    have := ih hc e3 hb e2
    omega
theorem dL.links (hG : bD ns) (h : dL X ns i j S) (hi : i < ns.length) (hj : j < (nd ns i).ah.length) (hk : (jK ns (ent ns i j)).kind = 2) : (obj S.O (jK ns (ent ns i j)).k).links = 0 := by
  have ht := qA hG hi hj
  have hlv : Live S.idx (jK ns (ent ns i j)) := h.live hG ht.1
  rw [h.inv.links _ hlv]
  cases hz : gh S.idx S.O (jK ns (ent ns i j)).k with
  | zero => rfl
  | succ z =>
    exfalso
    obtain ⟨x, u, hu, e, he, e1⟩ := x9 h.inv.rise (show 0 < gh S.idx S.O (jK ns (ent ns i j)).k by omega)
    obtain ⟨b, hb, rfl⟩ := h.of hu
    obtain ⟨l, u, ho⟩ := h.ob b hb
    have he : e ∈ (obj S.O (dW (nd ns b))).ah := he
    rw [ho] at he
    obtain ⟨q, h1, h2, _, h4⟩ := tq he
    have ht2 := qA hG hb h2
    have h5 : dW (nd ns (tgt ns (ent ns b q).id)) = dW (nd ns (tgt ns (ent ns i j).id)) := by
      rw [h4] at e1; exact e1
    have h6 := pS hG ht2.1 ht.1 h5
    obtain ⟨rfl, rfl⟩ := hG.uniq b q i j ⟨hb, h2, by rw [h6]; exact hk⟩ ⟨hi, hj, hk⟩ hb hi h6
    unfold kG at h1
    rw [if_neg (Nat.lt_irrefl _), if_pos rfl] at h1
    omega
theorem dL.look (hG : bD ns) (h : dL X ns i j S) (hi : i < ns.length) (hj : j < (nd ns i).ah.length) : (obj S.O (dW (nd ns i))).ah = nk ns i j ∧ aQ (ent ns i j).name (obj S.O (dW (nd ns i))).ah = none ∧ (nd ns i).kind = 2 := by
  obtain ⟨l, u, ho⟩ := h.ob i hi
  have e1 : (obj S.O (dW (nd ns i))).ah = nk ns i j := by
    rw [ho]
    show nk ns i (kG ns i j i) = _
    unfold kG; rw [if_neg (Nat.lt_irrefl _), if_pos rfl]
  refine ⟨e1, by rw [e1]; exact JM hG hi hj, ?_⟩
  cases Decidable.em ((nd ns i).kind = 2) with
  | inl h => exact h
  | inr h => have := (hG.node i hi).ah h; omega
theorem dL.gone (h : dL X ns i j S) (ha : a < ns.length) : (obj S.O (dW (nd ns a))).gone = false := by
  obtain ⟨l, u, ho⟩ := h.ob a ha
  rw [ho]; rfl
theorem dL.ne (hG : bD ns) (hi : i < ns.length) (hj : j < (nd ns i).ah.length) (hk : (nd ns i).kind = 2) : (jK ns (ent ns i j)).k ≠ dW (nd ns i) := fun e => by
  have ht := qA hG hi hj
  have h1 := pS hG ht.1 hi e
  obtain ⟨dp, hdp⟩ := hG.deep
  have := hdp i j ⟨hi, hj, by rw [h1]; exact hk⟩
  rw [h1] at this
  exact Nat.lt_irrefl _ this
theorem dL.step (hG : bD ns) (h : dL X ns i j S) (hi : i < ns.length) (hj : j < (nd ns i).ah.length) : dL X ns i (j + 1) (jF ns S (nd ns i) (ent ns i j)) := by
  obtain ⟨l1, l2, l3⟩ := h.look hG hi hj
  have ht := qA hG hi hj
  have hne := dL.ne hG hi hj l3
  have hld : Live S.idx ⟨dW (nd ns i), 2⟩ := by
    have := h.live hG hi
    unfold nj at this
    rw [l3] at this
    exact this
  have hlt : Live S.idx (jK ns (ent ns i j)) := h.live hG ht.1
  have hX : S.X.ah = ((dx ns i + j : Nat) : Int) := by rw [h.cap]
  have hsum : dx ns i + j < 8192 := by
    have h1 : dx ns (i + 1) ≤ dx ns ns.length := rJ hi
    have h2 : dx ns (i + 1) = dx ns i + (nd ns i).ah.length := rfl
    have h3 := hG.sum
    omega
  have h1 := h.inv.put (O' := kY S.O (dW (nd ns i)) (ent ns i j).name (jK ns (ent ns i j))) (ta := (obj S.O (dW (nd ns i))).sec) (tb := (obj S.O (dW (nd ns i))).nano) hld (h.gone hi) l2 (hG.ah i hi j hj).good hlt (h.gone ht.1) (fun hk => ⟨h.links hG hi hj hk, fun hb => by
      obtain ⟨dp, hdp⟩ := hG.deep
      have h2 := h.below hG hdp hb hi rfl ht.1 rfl
      have h3 := hdp i j ⟨hi, hj, hk⟩
      omega⟩) hne (by rw [hX]; omega) (h.inv.mt _ hld).time (fun x => ED hne)
  refine ⟨h1, h.idx, h.us, h.av, ?_, fun a ha => ?_⟩
  ·show ({ S.X with ah := S.X.ah + 1 } : FM) = _
   rw [hX, h.cap]
   show (⟨_, _, _, _, _, _, _, _⟩ : FM) = ⟨_, _, _, _, _, _, _, _⟩
   congr 1
  obtain ⟨l, u, ho⟩ := h.ob a ha
  show ∃ l u, obj (kY S.O (dW (nd ns i)) (ent ns i j).name (jK ns (ent ns i j))) (dW (nd ns a)) = _
  rw [ED hne]
  by_cases e : a = i
  ·subst e
   refine ⟨l, u, ?_⟩
   rw [if_pos rfl, l1, JN hG hi hj, ho]
   have hc : kG ns a (j + 1) a = j + 1 := by unfold kG; rw [if_neg (Nat.lt_irrefl _), if_pos rfl]
   rw [hc]
  have hc : kG ns i (j + 1) a = kG ns i j a := by
    unfold kG; rw [if_neg e, if_neg e]
  rw [if_neg (fun e2 => e (pS hG ha hi e2)), hc]
  split
  ·rw [ho]; exact ⟨_, _, rfl⟩
  exact ⟨l, u, ho⟩
theorem dL.next (h : dL X ns i (nd ns i).ah.length S) : dL X ns (i + 1) 0 S := by
  refine ⟨h.inv, h.idx, h.us, h.av, h.cap, fun a ha => ?_⟩
  obtain ⟨l, u, ho⟩ := h.ob a ha
  refine ⟨l, u, ?_⟩
  rw [ho]
  have : kG ns (i + 1) 0 a = kG ns i (nd ns i).ah.length a := by
    unfold kG
    by_cases e : a = i
    ·subst e; rw [if_pos (by omega), if_neg (by omega), if_pos rfl]
    by_cases e2 : a < i
    ·rw [if_pos (by omega), if_pos e2]
    rw [if_neg (by omega), if_neg e2, if_neg e]; split <;> rfl
  rw [this]
theorem dL.full (h : dL X ns i j S) : Inv S := by
  refine ⟨h.inv, fun t ht hg => ?_⟩
  obtain ⟨a, ha, rfl⟩ := h.of ht
  have : (obj S.O (dW (nd ns a))).gone = true := hg
  rw [h.gone ha] at this
  cases this
theorem dL.graph (hG : bD ns) (h : dL X ns ns.length 0 S) : ax S = ns := by
  unfold ax
  rw [h.idx]
  unfold Ag
  rw [List.map_map]
  refine List.ext_getElem? (fun a => ?_)
  rw [List.getElem?_map]
  by_cases ha : a < ns.length
  ·rw [uT ha]
   refine congrArg some ?_
   show pz S.O (nd ns a).id ⟨dW (nd ns a), (nd ns a).kind⟩ = nd ns a
   unfold pz
   obtain ⟨l, u, ho⟩ := h.ob a ha
   rw [ho]
   have he : (nk ns a (kG ns ns.length 0 a)).map (iJ S.O) = (nd ns a).ah := by
     unfold kG
     rw [if_pos ha]
     unfold nk
     rw [List.take_of_length_le (Nat.le_refl _), List.map_map]
     refine List.ext_getElem? (fun q => ?_)
     rw [List.getElem?_map]
     by_cases hq : q < (nd ns a).ah.length
     ·rw [Dn hq]
      refine congrArg some ?_
      have ht := qA hG ha hq
      obtain ⟨l, u, ho⟩ := h.ob _ ht.1
      have e1 : (obj S.O (jK ns (en (nd ns a).ah q)).k).id = (en (nd ns a).ah q).id := by
        show (obj S.O (dW (nd ns (tgt ns (ent ns a q).id)))).id = (ent ns a q).id
        rw [ho]; exact ht.2
      show (⟨(en (nd ns a).ah q).name, (obj S.O (jK ns (en (nd ns a).ah q)).k).id⟩ : gU) = _
      rw [e1]
     rw [List.getElem?_eq_none (by omega)]; rfl
   show (⟨_, _, _, _, _, _, _, _, _, List.map (iJ S.O) (nk ns a (kG ns ns.length 0 a))⟩ : aC) = _
   rw [he]
   rfl
  rw [List.getElem?_eq_none (by omega)]; rfl
end ah
end
section
open Go.RowKit Go.Maps HeapM TabM
attribute [local irreducible] aj aR af ai
abbrev Bg (b2 : Nat) (X : FM) := (.blk b2 [vI (X.cN), vI (X.cB), vI (X.cH), vI (X.cS), vI (X.cZ)] 28 : HP)
abbrev wi (b1 : Nat) (A : Option Addr) (ns : List aC) (c) := (.blk b1 [.slice A (ns.length) (c)] 24 : HP)
abbrev oF (b8 : Nat) (ns) (k : Nat) (Y : Lay) := (.blk b8 [vI ((nd ns k).id), vI ((nd ns k).kind), vI ((nd ns k).mode), vI ((nd ns k).uid), vI ((nd ns k).gid), vI ((nd ns k).sec), vI ((nd ns k).nano), .slice (Y.dA k) ((nd ns k).data.length) ((Y.dC k)), .string (nd ns k).target, .slice (Y.eA k) ((nd ns k).ah.length) ((Y.eC k))] 70 : HP)
abbrev uV (b9 : Nat) (ns) (k : Nat) := (.blk b9 [vI ((nd ns k).id), vI ((nd ns k).mode), vI ((nd ns k).uid), vI ((nd ns k).gid), vI ((nd ns k).sec), vI ((nd ns k).nano), vI 0, vI 0, .bool false] 88 : HP)
abbrev tO (b1 : Nat) (A : Option Addr) (ns) (c) (b7 : Nat) (m3 : Nat) (t4 : Nat) (S : aG) (L : HL) (R : bT) := ([wi b1 A ns c, pF b7 m3 t4 S.X, pI m3 L S.idx, jY t4 S L, pO S.O L, pD S.O L, pE S.O L, .abs R] : List HP)
abbrev yV (b1 : Nat) (b7 : Nat) (b8 : Nat) (A : Option Addr) (ns : List aC) (c) (k : Nat) := ([(2, vP b1), (6, vP b7), (8, vP b8), (47, .slice A (ns.length) (c)), (48, vI ↑ns.length), (49, vI ↑k)] : Fr)
abbrev KM (b1 : Nat) (X : FM) := ([(2, vP b1), (39, .agg #[vI (X.cN), vI (X.cB), vI (X.cH), vI (X.cS), vI (X.cZ)])] : Fr)
abbrev Na (b1 : Nat) (b7 : Nat) (A : Option Addr) (ns : List aC) (c) (k : Nat) (S : aG) := ([(2, vP b1), (6, vP b7), (47, .slice A (ns.length) (c)), (48, vI ↑ns.length), (49, vI ↑k), (118, vI (S.X.used + (((nd ns k).data.length : Nat) : Int))), (120, .pointer (some ⟨b7, 9, none⟩))] : Fr)
abbrev Pc (b7 : Nat) (b16 : Nat) (A : Option Addr) (ns : List aC) (c) (i : Nat) (Y : Lay) (j : Nat) := ([(6, vP b7), (11, vP b16), (123, .slice A (ns.length) (c)), (124, vI ↑ns.length), (125, vI ↑i), (130, .slice (Y.eA i) ((nd ns i).ah.length) ((Y.eC i))), (131, vI ↑((nd ns i).ah.length)), (132, vI ↑j)] : Fr)
abbrev Nb (m3 : Nat) (ns) (k : Nat) := ([(69, .map (some m3)), (71, vI ((nd ns k).id)), (72, .agg #[vI ((nd ns k).id), vI ((nd ns k).mode), vI ((nd ns k).uid), vI ((nd ns k).gid), vI ((nd ns k).sec), vI ((nd ns k).nano), vI 0, vI 0, .bool false])] : Fr)
abbrev Nc (A : Option Addr) (ns : List aC) (c) (i : Nat) (Y : Lay) (j : Nat) := ([(123, .slice A (ns.length) (c)), (124, vI ↑ns.length), (125, vI ↑i), (130, .slice (Y.eA i) ((nd ns i).ah.length) ((Y.eC i))), (131, vI ↑((nd ns i).ah.length)), (132, vI ↑j)] : Fr)
theorem Ai {β : Bs} (A : Option Addr) (c : Nat) (ns : List aC) (Y : Lay) (hG : aA β A ns Y) (hl : ns.length ≤ 1048576) (hd : ∀ i, i < ns.length → (nd ns i).data.length ≤ 1048576 ∧ (nd ns i).ah.length ≤ 1048576) (hwf : ∀ i, i < ns.length → ∀ j, j < (nd ns i).ah.length → -9223372036854775808 ≤ (ent ns i j).id ∧ (ent ns i j).id ≤ 9223372036854775807) (hnm : ∀ i, i < ns.length → ∀ j, j < (nd ns i).ah.length → (ent ns i j).name.size ≤ 1048576) (X : FM) :
    Spec Tryz.prog β 9 #[.agg #[.slice A (ns.length) (c)], .agg #[vI (X.cN), vI (X.cB), vI (X.cH), vI (X.cS), vI (X.cZ)]] [] (fun v l => (¬ pH X ∧ v = .tuple #[.pointer none, vI 179] ∧ l = []) ∨ (pH X ∧ ¬ bD ns ∧ v = .tuple #[.pointer none, vI 140] ∧ l = []) ∨ (pH X ∧ bD ns ∧ ∃ S f m t L, dL X ns ns.length 0 S ∧ v = .tuple #[vP f, vI 0] ∧ l = pA f m t L S)) := by
 refine Spec.enter Tryz.func9 rfl Tryz.ntmps9 (Nat.le_of_ble_eq_true rfl) (fun R => ?_)
 refine SR ?_
 refine gN 1 (fun b1 => [(2, vP b1)]) (fun _ => []) (fun _ => []) (fun b1 => .blk b1 [.slice A (ns.length) (c)] 24) (fun b1 => ?_)
 refine gN 3 (fun b2 => [(3, vP b2)]) (fun _ => []) (fun _ => []) (fun b2 => .blk b2 [vI (X.cN), vI (X.cB), vI (X.cH), vI (X.cS), vI (X.cZ)] 28) (fun b2 => ?_)
 refine NN (af.seq (SR ?_))
 refine gK 2 [(15, vI (X.cN))] [(1, a_ 2 b2)] ?_
 refine gL [] (ef X.cN 4096) ?_
 rintro _ _ ⟨rfl, rfl⟩
 refine gK 2 [(18, .bool (!(decide ((0 ≤ X.cN ∧ X.cN ≤ 4096)))))] [] ?_
 refine aj.fM 18 ((0 ≤ X.cN ∧ X.cN ≤ 4096)) (fun _ => by kernel_rfl) (fun mr => ?_) (fun mr => ?_)
 ·refine gK 17 [(35, .bool true)] [] ?_
  refine NN ?_
  refine CT ?_
  refine SR ?_
  refine gK 2 [(4, .pointer none), (5, vI 179)] [] ?_
  refine NN (af.ret (ai.aq ?_))
  exact RT (.tuple #[.pointer none, vI 179]) [0] (.inl ⟨fun h => mr h.cN, rfl, rfl⟩)
 refine gK 2 [(20, vI (X.cB))] [(1, a_ 2 b2)] ?_
 refine gL [] (ef X.cB 1099511627776) ?_
 rintro _ _ ⟨rfl, rfl⟩
 refine gK 3 [(24, .bool (!(decide ((0 ≤ X.cB ∧ X.cB ≤ 1099511627776)))))] [] ?_
 refine aj.fM 24 ((0 ≤ X.cB ∧ X.cB ≤ 1099511627776)) (fun _ => by kernel_rfl) (fun tK => ?_) (fun tK => ?_)
 ·refine gK 11 [(35, .bool true)] [] ?_
  refine NN ?_
  refine CT ?_
  refine SR ?_
  refine gK 2 [(4, .pointer none), (5, vI 179)] [] ?_
  refine NN (af.ret (ai.aq ?_))
  exact RT (.tuple #[.pointer none, vI 179]) [0] (.inl ⟨fun h => tK h.cB, rfl, rfl⟩)
 refine gK 2 [(26, vI (X.cH))] [(1, a_ 2 b2)] ?_
 refine gL [] (ef X.cH 1024) ?_
 rintro _ _ ⟨rfl, rfl⟩
 refine gK 3 [(30, .bool (!(decide ((0 ≤ X.cH ∧ X.cH ≤ 1024)))))] [] ?_
 refine aj.fM 30 ((0 ≤ X.cH ∧ X.cH ≤ 1024)) (fun _ => by kernel_rfl) (fun kE => ?_) (fun kE => ?_)
 ·refine gK 5 [(35, .bool true)] [] ?_
  refine NN ?_
  refine CT ?_
  refine SR ?_
  refine gK 2 [(4, .pointer none), (5, vI 179)] [] ?_
  refine NN (af.ret (ai.aq ?_))
  exact RT (.tuple #[.pointer none, vI 179]) [0] (.inl ⟨fun h => kE h.cH, rfl, rfl⟩)
 refine gK 2 [(32, .agg #[vI (X.cS), vI (X.cZ)])] [(1, A_ 2 b2 2)] ?_
 refine gL [] (fT X.cS X.cZ) ?_
 rintro _ _ ⟨rfl, rfl⟩
 refine gK 2 [(35, .bool (!(decide (cT X.cS X.cZ))))] [] ?_
 refine NN ?_
 refine af.ct (p := cT X.cS X.cZ) (fun _ => by kernel_rfl) (fun ko => ?_) (fun ko => ?_)
 ·refine SR ?_
  refine gK 2 [(4, .pointer none), (5, vI 179)] [] ?_
  refine NN (af.ret (ai.aq ?_))
  exact RT (.tuple #[.pointer none, vI 179]) [0] (.inl ⟨fun h => ko h.now, rfl, rfl⟩)
 have hcap : pH X := ⟨mr, tK, kE, ko⟩
 refine af.skip (NX (af.seq (SR ?_)))
 refine gK 1 [(36, .agg #[.slice A (ns.length) (c)])] [(0, a_ 1 b1)] ?_
 refine gL [] (JK A c ns Y hG hl (fun i hi => ⟨Nat.le_trans (hd i hi).1 (by decide), (hd i hi).2⟩) hwf hnm) ?_
 rintro _ _ ⟨rfl, rfl⟩
 refine gK 1 [(38, .bool (!(decide (((if bD ns then 0 else 140) : Int) = (0 : Int)))))] [] ?_
 refine NN ?_
 refine af.ct (p := ((if bD ns then 0 else 140) : Int) = (0 : Int)) (fun _ => by kernel_rfl) (fun xV => ?_) (fun xV => ?_)
 ·have QK : ¬ bD ns := fun h => xV (if_pos h)
  refine SR ?_
  refine gK 2 [(4, .pointer none), (5, vI 140)] [] ?_
  refine NN (af.ret (ai.aq ?_))
  exact RT (.tuple #[.pointer none, vI 140]) [0] (.inr (.inl ⟨hcap, QK, rfl, rfl⟩))
 have hok : bD ns := Classical.byContradiction (fun h => by rw [if_neg h] at xV; exact absurd xV (by decide))
 refine af.skip (NX (af.seq ?_))
 refine af.pG (S := [Bg b2 X]) [0, 2, 3] [.two 1 4, .one 5, .one 6, .one 7] [2] (by kernel_rfl) (by kernel_rfl) rfl (by kernel_rfl) ?_
 refine fS.reads (rs := []) (fr' := [(2, vP b1), (39, .agg #[vI (X.cN), vI (X.cB), vI (X.cH), vI (X.cS), vI (X.cZ)]), (42, vI (X.cH))]) (aU := [b2 = b2, b2 = b2, b2 = b2, b2 = b2, b2 = b2, b2 = b2]) [0, 2, 3] [⟨[.at 0, .at 0, .at 0, .at 0, .at 0], none, none, none, none⟩, o_, ⟨[.at 0], none, none, none, none⟩] [2, 39, 42] (fun _ => by kernel_rfl) ⟨rfl, rfl, rfl, rfl, rfl, rfl, trivial⟩ ?_
 refine fS.pair (ι := Nat × Nat) (MT := Nat) (MU := Nat) (Hs := fun (m3 : Nat) => (KM b1 X ++ [(40, .map (some m3)), (42, vI (X.cH))])) (hpi := fun (m3 : Nat) => [.abs R, wi b1 A ns c, Bg b2 X, .abs (aE Tryz.prog 3 m3 (fun _ => none) 0)]) (Ht := fun (t5 : Nat) => (KM b1 X ++ [(43, vP t5)])) (Hu := fun (t5 : Nat) => [.abs (br 156 t5 (min (max X.cH 0) 1024) 0 []), .abs R, wi b1 A ns c, Bg b2 X]) (fr' := fun ((m3, t4) : Nat × Nat) => [(2, vP b1), (39, .agg #[vI (X.cN), vI (X.cB), vI (X.cH), vI (X.cS), vI (X.cZ)]), (40, .map (some m3)), (43, vP t4)]) (hp' := fun ((m3, t4) : Nat × Nat) => [.abs (br 156 t4 (min (max X.cH 0) 1024) 0 []), .abs R, wi b1 A ns c, Bg b2 X, .abs (aE Tryz.prog 3 m3 (fun _ => none) 0)]) [2] [3] [3] rfl rfl rfl rfl ?_ ?_ ?_ ?_ rfl (fun _ => by kernel_rfl) rfl (fun _ => by kernel_rfl) rfl (fun _ => by kernel_rfl) ?_
 ·refine aj.kK (d := (some 40)) (t := 80) (fun _ => by kernel_rfl) Tryz.prog rfl 3 (fun m3 => ?_)
  refine NL ?_
  exact MD m3 [2, 39, 40, 42] [0, 1, 2, 3]
 ·rintro m3
  show aj _ _ _ _ _ (KM b1 X ++ [(40, .map (some m3)), (42, vI (X.cH))]) [.abs R, wi b1 A ns c, Bg b2 X, .abs (aE Tryz.prog 3 m3 (fun _ => none) 0)] _
  refine gL [] (Cy X.cH) ?_
  rintro _ _ ⟨t4, rfl, rfl⟩
  refine NL ?_
  exact MD (m3, t4) [2, 39, 40, 43] [0, 1, 2, 3, 4]
 ·refine gL [] (Cy X.cH) ?_
  rintro _ _ ⟨t5, rfl, rfl⟩
  refine NL ?_
  exact MD t5 [2, 39, 43] [0, 1, 2, 3]
 ·rintro t5
  show aj _ _ _ _ _ (KM b1 X ++ [(43, vP t5)]) [.abs (br 156 t5 (min (max X.cH 0) 1024) 0 []), .abs R, wi b1 A ns c, Bg b2 X] _
  refine aj.kK (d := (some 40)) (t := 80) (fun _ => by kernel_rfl) Tryz.prog rfl 3 (fun m6 => ?_)
  refine NL ?_
  exact MD (m6, t5) [2, 39, 40, 43] [0, 1, 2, 3, 4]
 rintro ⟨m3, t4⟩
 refine fS.cut (ι := Unit) (fr' := fun (_ : Unit) => [(2, vP b1), (44, .agg #[vI (X.cN), vI (X.cB), vI (X.cH), vI (X.cS), vI (X.cZ), .map (some m3), vP t4, vI 0, vI 0, vI 0])]) (hp' := fun (_ : Unit) => [.abs (br 156 t4 (min (max X.cH 0) 1024) 0 []), .abs R, wi b1 A ns c, Bg b2 X, .abs (aE Tryz.prog 3 m3 (fun _ => none) 0)]) [3] rfl rfl ?_ rfl (fun _ => by kernel_rfl) ?_
 ·refine gK 1 [(44, .agg #[vI (X.cN), vI (X.cB), vI (X.cH), vI (X.cS), vI (X.cZ), .map (some m3), vP t4, vI 0, vI 0, vI 0])] [] ?_
  refine NL ?_
  exact MD () [2, 44] [0, 1, 2, 3, 4]
 rintro _
 refine fS.cut (ι := Nat) (fr' := fun (b7 : Nat) => [(2, vP b1), (45, vP b7)]) (hp' := fun (b7 : Nat) => [.abs (br 156 t4 (min (max X.cH 0) 1024) 0 []), .abs R, wi b1 A ns c, Bg b2 X, .abs (aE Tryz.prog 3 m3 (fun _ => none) 0), pF b7 m3 t4 { X with last := 0, ah := 0, used := 0 }]) [3] rfl rfl ?_ rfl (fun _ => by kernel_rfl) ?_
 ·refine gN 1 (fun b7 => [(45, vP b7)]) (fun _ => []) (fun _ => []) (fun b7 => pF b7 m3 t4 { X with last := 0, ah := 0, used := 0 }) (fun b7 => ?_)
  refine NL ?_
  exact MD b7 [2, 45] [0, 1, 2, 3, 4, 5]
 rintro b7
 refine fS.last rfl rfl ?_
 refine gK 1 [(6, vP b7)] [] ?_
 refine NL (ai.np (NX (af.seq (SR ?_))))
 obtain ⟨L, RS⟩ : ∃ L : HL, L = ⟨fun _ => 0, fun _ => 0, fun _ => none, fun _ => 0⟩ := ⟨_, rfl⟩
 refine aj.mem (fun w hS => hS.EQ (aN (fB X).O L) (xw X L).1) ?_
 refine aj.mem (fun w hS => hS.EQ (aY (fB X).O L) (xw X L).2.1) ?_
 refine aj.mem (fun w hS => hS.EQ (bh (fB X).O L) (xw X L).2.2) ?_
 have hc : min (max X.cH 0) 1024 = X.cH := by have := hcap.cH; omega
 refine aj.mem (aP := [.abs (br 156 t4 (fB X).X.cH (fB X).av (aK L (fB X).us)), .abs R, .blk b1 [.slice A (ns.length) (c)] 24, .blk b2 [vI (X.cN), vI (X.cB), vI (X.cH), vI (X.cS), vI (X.cZ)] 28, .abs (aE Tryz.prog 3 m3 (aO (aK L (fB X).idx)) ((fB X).idx.length)), .blk b7 [vI ((fB X).X.cN), vI ((fB X).X.cB), vI ((fB X).X.cH), vI ((fB X).X.cS), vI ((fB X).X.cZ), .map (some m3), vP t4, vI ((fB X).X.last), vI ((fB X).X.ah), vI ((fB X).X.used)] 86, .abs (ak (aN ((fB X).O) L)), .abs (ak (aY ((fB X).O) L)), .abs (ak (bh ((fB X).O) L))]) (fun w hS => by rw [hc, ← Cx] at hS; exact hS) ?_
 refine gK 4 [(47, .slice A (ns.length) (c)), (48, vI ↑ns.length), (49, vI 0)] [(1, a_ 2 b1)] ?_
 refine NN (af.block ?_)
 refine af.loop (ι := Nat × aG × HL) (fun ((k, S, L) : Nat × aG × HL) => (k ≤ ns.length) ∧ (kr X ns k S)) (fun ((k, S, L) : Nat × aG × HL) => ns.length - k) (fun ((k, S, L) : Nat × aG × HL) => [(2, vP b1), (6, vP b7), (47, .slice A (ns.length) (c)), (48, vI ↑ns.length), (49, vI ↑k)]) (fun ((k, S, L) : Nat × aG × HL) => (tO b1 A ns c b7 m3 t4 S L R)) (0, (fB X), L) (idx := [2, 6, 47, 48, 49]) (pk := [2, 5, 4, 0, 6, 7, 8, 1]) (show (0 ≤ ns.length) ∧ (kr X ns 0 ((fB X))) from ⟨Nat.zero_le _, HZ hcap⟩) (fun _ => by kernel_rfl) rfl (by kernel_rfl) ?_
 rintro ⟨k, S, L⟩ ⟨hk, hB⟩
 show af _ _ _ _ [(2, vP b1), (6, vP b7), (47, .slice A (ns.length) (c)), (48, vI ↑ns.length), (49, vI ↑k)] (tO b1 A ns c b7 m3 t4 S L R) _
 refine SR ?_
 refine gK 1 [(50, .bool (decide ((((k : Nat) : Int) : Int) < (((ns.length : Nat) : Int) : Int))))] [] ?_
 refine NN (af.seq ?_)
 refine af.bn (p := (((k : Nat) : Int) : Int) < (((ns.length : Nat) : Int) : Int)) (fun _ => by kernel_rfl) (fun h50 => ?_) (fun h50 => ?_)
 ·have hk2 : k < ns.length := by omega
  have hdk := hd k hk2
  have hds := Be (fun i hi => (hd i hi).1) hk
  have JL := hok.ids k hk2
  have hni := hB.new hok hk2
  have nM : (Lit.int .i64 (nd ns k).id).wf = true := WalkArith.wf_i64 (by omega)
  have hkk := (hok.node k hk2).kind
  have cK : S.X.used = (qz ns k : Int) := by rw [hB.cap]
  have hil := hB.inv.len
  refine af.skip (NX (af.seq (af.block (SR ?_))))
  refine gN 4 (fun b8 => [(8, vP b8)]) (fun b8 => [(0, p_ ⟨[], some k, none, some ⟨(au A), ar A, none⟩, none⟩ [((k : Nat) : Int) = ((k : Nat) : Int), k < ns.length, (⟨(au A), ar A, none⟩ : Addr).spot = none, (A : Option Addr) = some ⟨(au A), ar A, none⟩] ⟨rfl, by omega, rfl, aA.hd hG (i := k) (by omega), trivial⟩), (1, p_ ⟨[.old (.int .i64 ((nd ns k).id)), .old (.int .i64 ((nd ns k).kind)), .old (.int .i64 ((nd ns k).mode)), .old (.int .i64 ((nd ns k).uid)), .old (.int .i64 ((nd ns k).gid)), .old (.int .i64 ((nd ns k).sec)), .old (.int .i64 ((nd ns k).nano)), .old (.slice (Y.dA k) ((nd ns k).data.length) ((Y.dC k))), .old (.string (nd ns k).target), .old (.slice (Y.eA k) ((nd ns k).ah.length) ((Y.eC k)))], none, none, none, none⟩ [(Rd β ⟨(au A), ar A + k * 10 + 9, none⟩ (.slice (Y.eA k) ((nd ns k).ah.length) ((Y.eC k)))), (Rd β ⟨(au A), ar A + k * 10 + 8, none⟩ (.string (nd ns k).target)), (Rd β ⟨(au A), ar A + k * 10 + 7, none⟩ (.slice (Y.dA k) ((nd ns k).data.length) ((Y.dC k)))), (Rd β ⟨(au A), ar A + k * 10 + 6, none⟩ (.int .i64 ((nd ns k).nano))), (Rd β ⟨(au A), ar A + k * 10 + 5, none⟩ (.int .i64 ((nd ns k).sec))), (Rd β ⟨(au A), ar A + k * 10 + 4, none⟩ (.int .i64 ((nd ns k).gid))), (Rd β ⟨(au A), ar A + k * 10 + 3, none⟩ (.int .i64 ((nd ns k).uid))), (Rd β ⟨(au A), ar A + k * 10 + 2, none⟩ (.int .i64 ((nd ns k).mode))), (Rd β ⟨(au A), ar A + k * 10 + 1, none⟩ (.int .i64 ((nd ns k).kind))), (Rd β ⟨(au A), ar A + k * 10, none⟩ (.int .i64 ((nd ns k).id)))] ⟨aA.rd hG (i := k) (by omega) (j := 9) rfl, aA.rd hG (i := k) (by omega) (j := 8) rfl, aA.rd hG (i := k) (by omega) (j := 7) rfl, aA.rd hG (i := k) (by omega) (j := 6) rfl, aA.rd hG (i := k) (by omega) (j := 5) rfl, aA.rd hG (i := k) (by omega) (j := 4) rfl, aA.rd hG (i := k) (by omega) (j := 3) rfl, aA.rd hG (i := k) (by omega) (j := 2) rfl, aA.rd hG (i := k) (by omega) (j := 1) rfl, aA.rd hG (i := k) (by omega) (j := 0) rfl, trivial⟩), (3, A_ 8 b8 10)]) (fun _ => []) (fun b8 => .blk b8 [vI ((nd ns k).id), vI ((nd ns k).kind), vI ((nd ns k).mode), vI ((nd ns k).uid), vI ((nd ns k).gid), vI ((nd ns k).sec), vI ((nd ns k).nano), .slice (Y.dA k) ((nd ns k).data.length) ((Y.dC k)), .string (nd ns k).target, .slice (Y.eA k) ((nd ns k).ah.length) ((Y.eC k))] 70) (fun b8 => ?_)
  refine NS ?_
  refine gN 13 (fun b9 => [(9, vP b9)]) (fun b9 => [(1, a_ 8 b8), (3, a_ 8 b8), (5, a_ 8 b8), (7, a_ 8 b8), (9, A_ 8 b8 2), (12, A_ 9 b9 9)]) (fun _ => []) (fun b9 => .blk b9 [vI ((nd ns k).id), vI ((nd ns k).mode), vI ((nd ns k).uid), vI ((nd ns k).gid), vI ((nd ns k).sec), vI ((nd ns k).nano), vI 0, vI 0, .bool false] 88) (fun b9 => ?_)
  refine NN (af.seq (SR ?_))
  refine gK 2 [(65, vI ((nd ns k).kind))] [(1, a_ 8 b8)] ?_
  refine NN (af.block (SR ?_))
  refine gK 2 [(77, .bool (decide (((nd ns k).kind : Int) = (1 : Int))))] [] ?_
  refine NN ?_
  refine af.bn (p := ((nd ns k).kind : Int) = (1 : Int)) (fun _ => by kernel_rfl) (fun hk1 => ?_) (fun hk1 => ?_)
  ·refine af.ck (S := [pF b7 m3 t4 S.X, oF b8 ns k Y, uV b9 ns k]) [0, 1, 2, 3, 4, 5, 6, 7, 8, 9, 10, 11, 12, 13] 9 [1, 8, 9] (by kernel_rfl) (by kernel_rfl) rfl (by kernel_rfl) ?_
   refine aH.reads (r := 0) (l := [9, 10, 11, 12, 13]) (fr' := (yV b1 b7 b8 A ns c k ++ [(82, .map (some m3)), (84, vI ((nd ns k).id)), (85, .agg #[vI ((nd ns k).id), vI ((nd ns k).mode), vI ((nd ns k).uid), vI ((nd ns k).gid), vI ((nd ns k).sec), vI ((nd ns k).nano), vI 0, vI 0, .bool false]), (87, .slice (Y.dA k) ((nd ns k).data.length) ((Y.dC k)))])) (aU := [b8 = b8, b9 = b9, b9 = b9, b9 = b9, b9 = b9, b9 = b9, b9 = b9, b9 = b9, b9 = b9, b9 = b9, b8 = b8, b7 = b7]) [0, 1, 2, 3, 4, 5, 6, 7, 8] [o_, o_, o_, ⟨[.at 0], none, none, none, none⟩, o_, ⟨[.at 1], none, none, none, none⟩, ⟨[.at 2, .at 2, .at 2, .at 2, .at 2, .at 2, .at 2, .at 2, .at 2], none, none, none, none⟩, o_, ⟨[.at 1], none, none, none, none⟩] [2, 6, 8, 47, 48, 49, 82, 84, 85, 87] (fun _ => by kernel_rfl) ⟨rfl, rfl, rfl, rfl, rfl, rfl, rfl, rfl, rfl, rfl, rfl, rfl, trivial⟩ rfl rfl ?_
   refine mL [2, 9, 10] [] (wg (Y.dA k) (Y.dC k) (nd ns k).data (hG.data k (by omega)) (by have := (hd k (by omega)).1; omega)) ?_ (by rintro _ _ ⟨uW, c11, rfl, rfl⟩; rfl)
   rintro _ _ ⟨uW, c11, rfl, rfl⟩
   refine aH.cut (ι := Unit) (fr' := fun (_ : Unit) => (yV b1 b7 b8 A ns c k ++ [(82, .map (some m3)), (84, vI ((nd ns k).id)), (89, .agg #[vI ((nd ns k).id), vI ((nd ns k).mode), vI ((nd ns k).uid), vI ((nd ns k).gid), vI ((nd ns k).sec), vI ((nd ns k).nano), vI 0, vI 0, .bool false, .slice uW ((nd ns k).data.length) (c11)])])) (hp' := fun (_ : Unit) => ([.abs (aI 5 1 uW ((nd ns k).data.length) c11 (bL (nd ns k).data))] ++ tO b1 A ns c b7 m3 t4 S L R ++ [oF b8 ns k Y, uV b9 ns k])) [2, 9, 10] rfl rfl ?_ rfl (fun _ => by kernel_rfl) ?_
   ·refine gK 1 [(89, .agg #[vI ((nd ns k).id), vI ((nd ns k).mode), vI ((nd ns k).uid), vI ((nd ns k).gid), vI ((nd ns k).sec), vI ((nd ns k).nano), vI 0, vI 0, .bool false, .slice uW ((nd ns k).data.length) (c11)])] [] ?_
    refine NL ?_
    exact MD () [2, 6, 8, 47, 48, 49, 82, 84, 89] [0, 1, 2, 3, 4, 5, 6, 7, 8, 9, 10]
   rintro _
   refine mN [2, 9, 10] (fun b12 => [(90, vP b12)]) (fun _ => []) (fun b12 => .blk b12 [vI ((nd ns k).id), vI ((nd ns k).mode), vI ((nd ns k).uid), vI ((nd ns k).gid), vI ((nd ns k).sec), vI ((nd ns k).nano), vI 0, vI 0, .bool false, .slice uW ((nd ns k).data.length) (c11)] 92) (fun b12 => ?_)
   refine aH.cut (ι := Unit) (fr' := fun (_ : Unit) => (yV b1 b7 b8 A ns c k ++ [(82, .map (some m3)), (84, vI ((nd ns k).id)), (91, .iface 89 (vP b12))])) (hp' := fun (_ : Unit) => ([.abs (aI 5 1 uW ((nd ns k).data.length) c11 (bL (nd ns k).data))] ++ tO b1 A ns c b7 m3 t4 S L R ++ [oF b8 ns k Y, uV b9 ns k, .blk b12 [vI ((nd ns k).id), vI ((nd ns k).mode), vI ((nd ns k).uid), vI ((nd ns k).gid), vI ((nd ns k).sec), vI ((nd ns k).nano), vI 0, vI 0, .bool false, .slice uW ((nd ns k).data.length) (c11)] 92])) [2, 9, 10] rfl rfl ?_ rfl (fun _ => by kernel_rfl) ?_
   ·refine gK 1 [(91, .iface 89 (vP b12))] [] ?_
    refine NL ?_
    exact MD () [2, 6, 8, 47, 48, 49, 82, 84, 91] [0, 1, 2, 3, 4, 5, 6, 7, 8, 9, 10, 11]
   rintro _
   refine aH.last rfl rfl ?_
   obtain ⟨L2, hL2⟩ : ∃ L2 : HL, L2 = L.put (dW (nd ns k)) b12 0 uW c11 := ⟨_, rfl⟩
   have hfr := hB.fresh hok (by omega)
   refine aj.mem (aP := [.abs (ak (aN ((aZ S (nd ns k)).O) L2)), .abs (aI 5 1 uW ((nd ns k).data.length) c11 (bL (nd ns k).data)), .blk b1 [.slice A (ns.length) (c)] 24, .blk b7 [vI (S.X.cN), vI (S.X.cB), vI (S.X.cH), vI (S.X.cS), vI (S.X.cZ), .map (some m3), vP t4, vI (S.X.last), vI (S.X.ah), vI (S.X.used)] 86, .abs (aE Tryz.prog 3 m3 (aO (aK L S.idx)) S.idx.length), .abs (br 156 t4 S.X.cH S.av (aK L S.us)), .abs (ak (aY S.O L)), .abs (ak (bh S.O L)), .abs R, .blk b8 [vI ((nd ns k).id), vI ((nd ns k).kind), vI ((nd ns k).mode), vI ((nd ns k).uid), vI ((nd ns k).gid), vI ((nd ns k).sec), vI ((nd ns k).nano), .slice (Y.dA k) ((nd ns k).data.length) ((Y.dC k)), .string (nd ns k).target, .slice (Y.eA k) ((nd ns k).ah.length) ((Y.eC k))] 70, .blk b9 [vI ((nd ns k).id), vI ((nd ns k).mode), vI ((nd ns k).uid), vI ((nd ns k).gid), vI ((nd ns k).sec), vI ((nd ns k).nano), vI 0, vI 0, .bool false] 88]) (fun w hS => hS.qM hL2 hfr (o := (oC (nd ns k))) (i := 5) (j := 11) (ix := [0, 1, 2, 3, 4, 6, 7, 8, 9, 10]) rfl rfl (by kernel_rfl) rfl (by show (nd ns k).kind ≠ 0; rw [hk1]; decide) ((eH (L := L2) (k := (dW (nd ns k))) (o := (oC (nd ns k))) hk1).trans (by rw [show L2.dA (dW (nd ns k)) = uW by rw [hL2]; exact if_pos rfl, show L2.dC (dW (nd ns k)) = c11 by rw [hL2]; exact if_pos rfl]; rfl)) (by show kX (nd ns k).kind = _; rw [hk1]; rfl)) ?_
   refine aj.mem (aP := [.abs (ak (aN ((aZ S (nd ns k)).O) L2)), .abs (aI 5 1 uW ((nd ns k).data.length) c11 (bL (nd ns k).data)), .blk b1 [.slice A (ns.length) (c)] 24, .blk b7 [vI (S.X.cN), vI (S.X.cB), vI (S.X.cH), vI (S.X.cS), vI (S.X.cZ), .map (some m3), vP t4, vI (S.X.last), vI (S.X.ah), vI (S.X.used)] 86, .abs (aE Tryz.prog 3 m3 (aO (aK L S.idx)) S.idx.length), .abs (br 156 t4 S.X.cH S.av (aK L S.us)), .abs (ak (aY S.O L)), .abs (ak (bh ((aZ S (nd ns k)).O) L2)), .abs R, .blk b8 [vI ((nd ns k).id), vI ((nd ns k).kind), vI ((nd ns k).mode), vI ((nd ns k).uid), vI ((nd ns k).gid), vI ((nd ns k).sec), vI ((nd ns k).nano), .slice (Y.dA k) ((nd ns k).data.length) ((Y.dC k)), .string (nd ns k).target, .slice (Y.eA k) ((nd ns k).ah.length) ((Y.eC k))] 70, .blk b9 [vI ((nd ns k).id), vI ((nd ns k).mode), vI ((nd ns k).uid), vI ((nd ns k).gid), vI ((nd ns k).sec), vI ((nd ns k).nano), vI 0, vI 0, .bool false] 88]) (fun w hS => hS.rW hL2 hfr (o := (oC (nd ns k))) (i := 7) rfl (by show ¬ (nd ns k).kind = 2; rw [hk1]; decide)) ?_
   refine aj.mem (aP := [pD ((aZ S (nd ns k)).O) L2, pO ((aZ S (nd ns k)).O) L2, wi b1 A ns c, pF b7 m3 t4 S.X, pI m3 L S.idx, jY t4 S L, pE ((aZ S (nd ns k)).O) L2, .abs R, oF b8 ns k Y, uV b9 ns k]) (fun w hS => hS.Ox hL2 (o := (oC (nd ns k))) (i := 6) (j := 1) (ix := [0, 2, 3, 4, 5, 7, 8, 9, 10]) rfl rfl (by kernel_rfl) rfl hk1) ?_
   refine aj.mem (aP := [.abs (ak (aY ((aZ S (nd ns k)).O) L2)), .abs (ak (aN ((aZ S (nd ns k)).O) L2)), .blk b1 [.slice A (ns.length) (c)] 24, .blk b7 [vI (S.X.cN), vI (S.X.cB), vI (S.X.cH), vI (S.X.cS), vI (S.X.cZ), .map (some m3), vP t4, vI (S.X.last), vI (S.X.ah), vI (S.X.used)] 86, .abs (aE Tryz.prog 3 m3 (aO (aK L2 S.idx)) S.idx.length), .abs (br 156 t4 S.X.cH S.av (aK L2 S.us)), .abs (ak (bh ((aZ S (nd ns k)).O) L2)), .abs R, .blk b8 [vI ((nd ns k).id), vI ((nd ns k).kind), vI ((nd ns k).mode), vI ((nd ns k).uid), vI ((nd ns k).gid), vI ((nd ns k).sec), vI ((nd ns k).nano), .slice (Y.dA k) ((nd ns k).data.length) ((Y.dC k)), .string (nd ns k).target, .slice (Y.eA k) ((nd ns k).ah.length) ((Y.eC k))] 70, .blk b9 [vI ((nd ns k).id), vI ((nd ns k).mode), vI ((nd ns k).uid), vI ((nd ns k).gid), vI ((nd ns k).sec), vI ((nd ns k).nano), vI 0, vI 0, .bool false] 88]) (fun w hS => by rw [fk hL2 hfr.idx, fk hL2 hfr.us]; exact hS) ?_
   have Dp : cO L2 (nj (nd ns k)) = .iface 89 (vP b12) := by unfold nj; rw [mD hL2, hk1]; rfl
   refine aj.jW 4 (d := none) (t := 80) (K := 3) (E := 84) (b := m3) (n := S.idx.length) (f := (aO (aK L2 S.idx))) (x := (.tmp 82)) (ix := (.tmp 84)) (y := (.tmp 91)) (key := .int .i64 ((nd ns k).id)) (u := .iface 89 (vP b12)) (kl := (.int .i64 (nd ns k).id)) (n' := (S.idx.length + 1)) (f' := (aO (aK L2 (ins (nd ns k).id (nj (nd ns k)) S.idx)))) (fun _ => by kernel_rfl) (by kernel_rfl) (fun _ => by kernel_rfl) (fun _ => by kernel_rfl) (fun _ => by kernel_rfl) cU Tryz.underlying80 (by unfold maxLen; omega) (gX nM) (by rw [dQ, hni]; rfl) (by rw [← Dp]; exact pR hni) ?_
   refine NL (ai.np (ai.aL (NX (SR ?_))))
   refine gC 6 [] [(2, a_ 8 b8), (5, a_ 3 b7)] [(3, [(7, vI ((nd ns k).id))])] ?_
   refine NN ?_
   refine af.ck (S := [pF b7 m3 t4 { S.X with last := (nd ns k).id }, oF b8 ns k Y]) [0, 1, 2, 3, 4, 5, 6, 7, 8, 9, 10] 10 [3, 8] (by kernel_rfl) (by kernel_rfl) rfl (by kernel_rfl) ?_
   refine aH.reads (r := 0) (l := [10]) (fr' := (Na b1 b7 A ns c k S)) (aU := [(Value.int .i64 (IntKind.wrap .i64 (S.X.used + (((nd ns k).data.length : Nat) : Int)))) = (.int .i64 (S.X.used + (((nd ns k).data.length : Nat) : Int))), b8 = b8, b7 = b7]) [0, 1, 2, 3, 4, 5, 6, 7, 8, 9] [o_, o_, o_, ⟨[.at 0], none, none, none, none⟩, o_, ⟨[.at 1], none, none, none, none⟩, o_, ⟨[], none, none, none, some (vI (S.X.used + (((nd ns k).data.length : Nat) : Int)))⟩, o_, o_] [2, 6, 47, 48, 49, 118, 120] (fun _ => by kernel_rfl) ⟨bE (by omega) (by omega) (by omega), rfl, rfl, trivial⟩ rfl rfl ?_
   refine aH.last rfl rfl ?_
   refine gC 1 [] [(0, a_ 3 b7)] [(3, [(9, vI (S.X.used + (((nd ns k).data.length : Nat) : Int)))])] ?_
   refine NL (ai.np (ai.aL (NX (af.region ?_))))
   refine gK 2 [(49, vI ↑(k + 1))] [(0, p_ ⟨[], none, none, none, some (vI ↑(k + 1))⟩ [(Value.int .i64 (IntKind.wrap .i64 (((k : Nat) : Int) + 1))) = (.int .i64 ↑(k + 1))] ⟨bE (by omega) (by omega) (by omega), trivial⟩)] ?_
   refine NL ?_
   refine ai.mem (aP := [.abs (ak (aY ((aZ S (nd ns k)).O) L2)), .abs (ak (aN ((aZ S (nd ns k)).O) L2)), .blk b1 [.slice A (ns.length) (c)] 24, .blk b7 [vI ((aZ S (nd ns k)).X.cN), vI ((aZ S (nd ns k)).X.cB), vI ((aZ S (nd ns k)).X.cH), vI ((aZ S (nd ns k)).X.cS), vI ((aZ S (nd ns k)).X.cZ), .map (some m3), vP t4, vI ((aZ S (nd ns k)).X.last), vI ((aZ S (nd ns k)).X.ah), vI ((aZ S (nd ns k)).X.used)] 86, .abs (aE Tryz.prog 3 m3 (aO (aK L2 (aZ S (nd ns k)).idx)) ((aZ S (nd ns k)).idx.length)), .abs (br 156 t4 (aZ S (nd ns k)).X.cH (aZ S (nd ns k)).av (aK L2 (aZ S (nd ns k)).us)), .abs (ak (bh ((aZ S (nd ns k)).O) L2)), .abs R, .blk b8 [vI ((nd ns k).id), vI ((nd ns k).kind), vI ((nd ns k).mode), vI ((nd ns k).uid), vI ((nd ns k).gid), vI ((nd ns k).sec), vI ((nd ns k).nano), .slice (Y.dA k) ((nd ns k).data.length) ((Y.dC k)), .string (nd ns k).target, .slice (Y.eA k) ((nd ns k).ah.length) ((Y.eC k))] 70, .blk b9 [vI ((nd ns k).id), vI ((nd ns k).mode), vI ((nd ns k).uid), vI ((nd ns k).gid), vI ((nd ns k).sec), vI ((nd ns k).nano), vI 0, vI 0, .bool false] 88]) (fun w hS => by rw [show (aZ S (nd ns k)).idx.length = S.idx.length + 1 from gi _ _ _]; exact hS) ?_
   exact ai.turn ((k + 1), (aZ S (nd ns k)), L2) (idx := [2, 6, 47, 48, 49]) (pk := [2, 3, 4, 5, 1, 0, 6, 7]) (show (((k + 1)) ≤ ns.length) ∧ (kr X ns ((k + 1)) ((aZ S (nd ns k)))) from ⟨by omega, uU hok (fun i hi => (hd i hi).1) (by omega) hB⟩) (by show ns.length - ((k + 1)) < ns.length - k; omega) (fun _ => by kernel_rfl) rfl (by kernel_rfl)
  refine SR ?_
  refine gK 2 [(92, .bool (decide (((nd ns k).kind : Int) = (3 : Int))))] [] ?_
  refine NN ?_
  refine af.bn (p := ((nd ns k).kind : Int) = (3 : Int)) (fun _ => by kernel_rfl) (fun hk3 => ?_) (fun hk3 => ?_)
  ·refine af.ck (S := [pF b7 m3 t4 S.X, oF b8 ns k Y, uV b9 ns k]) [0, 1, 2, 3, 4, 5, 6, 7, 8, 9, 10, 11, 12] 10 [1, 8, 9] (by kernel_rfl) (by kernel_rfl) rfl (by kernel_rfl) ?_
   refine aH.reads (r := 0) (l := [10, 11, 12]) (fr' := (yV b1 b7 b8 A ns c k ++ [(97, .map (some m3)), (99, vI ((nd ns k).id)), (103, .agg #[vI ((nd ns k).id), vI ((nd ns k).mode), vI ((nd ns k).uid), vI ((nd ns k).gid), vI ((nd ns k).sec), vI ((nd ns k).nano), vI 0, vI 0, .bool false, .string (nd ns k).target])])) (aU := [b8 = b8, b9 = b9, b9 = b9, b9 = b9, b9 = b9, b9 = b9, b9 = b9, b9 = b9, b9 = b9, b9 = b9, b8 = b8, b7 = b7]) [0, 1, 2, 3, 4, 5, 6, 7, 8, 9] [o_, o_, o_, ⟨[.at 0], none, none, none, none⟩, o_, ⟨[.at 1], none, none, none, none⟩, ⟨[.at 2, .at 2, .at 2, .at 2, .at 2, .at 2, .at 2, .at 2, .at 2], none, none, none, none⟩, o_, ⟨[.at 1], none, none, none, none⟩, o_] [2, 6, 8, 47, 48, 49, 97, 99, 103] (fun _ => by kernel_rfl) ⟨rfl, rfl, rfl, rfl, rfl, rfl, rfl, rfl, rfl, rfl, rfl, rfl, trivial⟩ rfl rfl ?_
   refine mN [1, 8, 9] (fun b13 => [(104, vP b13)]) (fun _ => []) (fun b13 => .blk b13 [vI ((nd ns k).id), vI ((nd ns k).mode), vI ((nd ns k).uid), vI ((nd ns k).gid), vI ((nd ns k).sec), vI ((nd ns k).nano), vI 0, vI 0, .bool false, .string (nd ns k).target] 95) (fun b13 => ?_)
   refine aH.cut (ι := Unit) (fr' := fun (_ : Unit) => (yV b1 b7 b8 A ns c k ++ [(97, .map (some m3)), (99, vI ((nd ns k).id)), (105, .iface 93 (vP b13))])) (hp' := fun (_ : Unit) => (tO b1 A ns c b7 m3 t4 S L R ++ [oF b8 ns k Y, uV b9 ns k, .blk b13 [vI ((nd ns k).id), vI ((nd ns k).mode), vI ((nd ns k).uid), vI ((nd ns k).gid), vI ((nd ns k).sec), vI ((nd ns k).nano), vI 0, vI 0, .bool false, .string (nd ns k).target] 95])) [1, 8, 9] rfl rfl ?_ rfl (fun _ => by kernel_rfl) ?_
   ·refine gK 1 [(105, .iface 93 (vP b13))] [] ?_
    refine NL ?_
    exact MD () [2, 6, 8, 47, 48, 49, 97, 99, 105] [0, 1, 2, 3, 4, 5, 6, 7, 8, 9, 10]
   rintro _
   refine aH.last rfl rfl ?_
   obtain ⟨L2, hL2⟩ : ∃ L2 : HL, L2 = L.put (dW (nd ns k)) b13 0 none 0 := ⟨_, rfl⟩
   have hfr := hB.fresh hok (by omega)
   refine aj.mem (aP := [.abs (ak (aN ((aZ S (nd ns k)).O) L2)), .blk b1 [.slice A (ns.length) (c)] 24, .blk b7 [vI (S.X.cN), vI (S.X.cB), vI (S.X.cH), vI (S.X.cS), vI (S.X.cZ), .map (some m3), vP t4, vI (S.X.last), vI (S.X.ah), vI (S.X.used)] 86, .abs (aE Tryz.prog 3 m3 (aO (aK L S.idx)) S.idx.length), .abs (br 156 t4 S.X.cH S.av (aK L S.us)), .abs (ak (aY S.O L)), .abs (ak (bh S.O L)), .abs R, .blk b8 [vI ((nd ns k).id), vI ((nd ns k).kind), vI ((nd ns k).mode), vI ((nd ns k).uid), vI ((nd ns k).gid), vI ((nd ns k).sec), vI ((nd ns k).nano), .slice (Y.dA k) ((nd ns k).data.length) ((Y.dC k)), .string (nd ns k).target, .slice (Y.eA k) ((nd ns k).ah.length) ((Y.eC k))] 70, .blk b9 [vI ((nd ns k).id), vI ((nd ns k).mode), vI ((nd ns k).uid), vI ((nd ns k).gid), vI ((nd ns k).sec), vI ((nd ns k).nano), vI 0, vI 0, .bool false] 88]) (fun w hS => hS.qM hL2 hfr (o := (oC (nd ns k))) (i := 4) (j := 10) (ix := [0, 1, 2, 3, 5, 6, 7, 8, 9]) rfl rfl (by kernel_rfl) rfl (by show (nd ns k).kind ≠ 0; rw [hk3]; decide) ((ug (L := L2) (k := (dW (nd ns k))) (o := (oC (nd ns k))) hk3).trans (by rfl)) (by show kX (nd ns k).kind = _; rw [hk3]; rfl)) ?_
   refine aj.mem (aP := [.abs (ak (aN ((aZ S (nd ns k)).O) L2)), .blk b1 [.slice A (ns.length) (c)] 24, .blk b7 [vI (S.X.cN), vI (S.X.cB), vI (S.X.cH), vI (S.X.cS), vI (S.X.cZ), .map (some m3), vP t4, vI (S.X.last), vI (S.X.ah), vI (S.X.used)] 86, .abs (aE Tryz.prog 3 m3 (aO (aK L S.idx)) S.idx.length), .abs (br 156 t4 S.X.cH S.av (aK L S.us)), .abs (ak (aY S.O L)), .abs (ak (bh ((aZ S (nd ns k)).O) L2)), .abs R, .blk b8 [vI ((nd ns k).id), vI ((nd ns k).kind), vI ((nd ns k).mode), vI ((nd ns k).uid), vI ((nd ns k).gid), vI ((nd ns k).sec), vI ((nd ns k).nano), .slice (Y.dA k) ((nd ns k).data.length) ((Y.dC k)), .string (nd ns k).target, .slice (Y.eA k) ((nd ns k).ah.length) ((Y.eC k))] 70, .blk b9 [vI ((nd ns k).id), vI ((nd ns k).mode), vI ((nd ns k).uid), vI ((nd ns k).gid), vI ((nd ns k).sec), vI ((nd ns k).nano), vI 0, vI 0, .bool false] 88]) (fun w hS => hS.rW hL2 hfr (o := (oC (nd ns k))) (i := 6) rfl (by show ¬ (nd ns k).kind = 2; rw [hk3]; decide)) ?_
   refine aj.mem (aP := [.abs (ak (aN ((aZ S (nd ns k)).O) L2)), .blk b1 [.slice A (ns.length) (c)] 24, .blk b7 [vI (S.X.cN), vI (S.X.cB), vI (S.X.cH), vI (S.X.cS), vI (S.X.cZ), .map (some m3), vP t4, vI (S.X.last), vI (S.X.ah), vI (S.X.used)] 86, .abs (aE Tryz.prog 3 m3 (aO (aK L S.idx)) S.idx.length), .abs (br 156 t4 S.X.cH S.av (aK L S.us)), .abs (ak (aY ((aZ S (nd ns k)).O) L2)), .abs (ak (bh ((aZ S (nd ns k)).O) L2)), .abs R, .blk b8 [vI ((nd ns k).id), vI ((nd ns k).kind), vI ((nd ns k).mode), vI ((nd ns k).uid), vI ((nd ns k).gid), vI ((nd ns k).sec), vI ((nd ns k).nano), .slice (Y.dA k) ((nd ns k).data.length) ((Y.dC k)), .string (nd ns k).target, .slice (Y.eA k) ((nd ns k).ah.length) ((Y.eC k))] 70, .blk b9 [vI ((nd ns k).id), vI ((nd ns k).mode), vI ((nd ns k).uid), vI ((nd ns k).gid), vI ((nd ns k).sec), vI ((nd ns k).nano), vI 0, vI 0, .bool false] 88]) (fun w hS => hS.yg hL2 (o := (oC (nd ns k))) (i := 5) rfl (by show ¬ (nd ns k).kind = 1; rw [hk3]; decide)) ?_
   refine aj.mem (aP := [.abs (ak (aN ((aZ S (nd ns k)).O) L2)), .blk b1 [.slice A (ns.length) (c)] 24, .blk b7 [vI (S.X.cN), vI (S.X.cB), vI (S.X.cH), vI (S.X.cS), vI (S.X.cZ), .map (some m3), vP t4, vI (S.X.last), vI (S.X.ah), vI (S.X.used)] 86, .abs (aE Tryz.prog 3 m3 (aO (aK L2 S.idx)) S.idx.length), .abs (br 156 t4 S.X.cH S.av (aK L2 S.us)), .abs (ak (aY ((aZ S (nd ns k)).O) L2)), .abs (ak (bh ((aZ S (nd ns k)).O) L2)), .abs R, .blk b8 [vI ((nd ns k).id), vI ((nd ns k).kind), vI ((nd ns k).mode), vI ((nd ns k).uid), vI ((nd ns k).gid), vI ((nd ns k).sec), vI ((nd ns k).nano), .slice (Y.dA k) ((nd ns k).data.length) ((Y.dC k)), .string (nd ns k).target, .slice (Y.eA k) ((nd ns k).ah.length) ((Y.eC k))] 70, .blk b9 [vI ((nd ns k).id), vI ((nd ns k).mode), vI ((nd ns k).uid), vI ((nd ns k).gid), vI ((nd ns k).sec), vI ((nd ns k).nano), vI 0, vI 0, .bool false] 88]) (fun w hS => by rw [fk hL2 hfr.idx, fk hL2 hfr.us]; exact hS) ?_
   have Dp : cO L2 (nj (nd ns k)) = .iface 93 (vP b13) := by unfold nj; rw [mD hL2, hk3]; rfl
   refine aj.jW 3 (d := none) (t := 80) (K := 3) (E := 84) (b := m3) (n := S.idx.length) (f := (aO (aK L2 S.idx))) (x := (.tmp 97)) (ix := (.tmp 99)) (y := (.tmp 105)) (key := .int .i64 ((nd ns k).id)) (u := .iface 93 (vP b13)) (kl := (.int .i64 (nd ns k).id)) (n' := (S.idx.length + 1)) (f' := (aO (aK L2 (ins (nd ns k).id (nj (nd ns k)) S.idx)))) (fun _ => by kernel_rfl) (by kernel_rfl) (fun _ => by kernel_rfl) (fun _ => by kernel_rfl) (fun _ => by kernel_rfl) cU Tryz.underlying80 (by unfold maxLen; omega) (gX nM) (by rw [dQ, hni]; rfl) (by rw [← Dp]; exact pR hni) ?_
   refine NL (ai.np (ai.aL (NX (SR ?_))))
   refine gC 6 [] [(2, a_ 8 b8), (5, a_ 2 b7)] [(2, [(7, vI ((nd ns k).id))])] ?_
   refine NN ?_
   refine af.ck (S := [pF b7 m3 t4 { S.X with last := (nd ns k).id }, oF b8 ns k Y]) [0, 1, 2, 3, 4, 5, 6, 7, 8, 9, 10] 10 [2, 8] (by kernel_rfl) (by kernel_rfl) rfl (by kernel_rfl) ?_
   refine aH.reads (r := 0) (l := [10]) (fr' := (Na b1 b7 A ns c k S)) (aU := [(Value.int .i64 (IntKind.wrap .i64 (S.X.used + (((nd ns k).data.length : Nat) : Int)))) = (.int .i64 (S.X.used + (((nd ns k).data.length : Nat) : Int))), b8 = b8, b7 = b7]) [0, 1, 2, 3, 4, 5, 6, 7, 8, 9] [o_, o_, o_, ⟨[.at 0], none, none, none, none⟩, o_, ⟨[.at 1], none, none, none, none⟩, o_, ⟨[], none, none, none, some (vI (S.X.used + (((nd ns k).data.length : Nat) : Int)))⟩, o_, o_] [2, 6, 47, 48, 49, 118, 120] (fun _ => by kernel_rfl) ⟨bE (by omega) (by omega) (by omega), rfl, rfl, trivial⟩ rfl rfl ?_
   refine aH.last rfl rfl ?_
   refine gC 1 [] [(0, a_ 2 b7)] [(2, [(9, vI (S.X.used + (((nd ns k).data.length : Nat) : Int)))])] ?_
   refine NL (ai.np (ai.aL (NX (af.region ?_))))
   refine gK 2 [(49, vI ↑(k + 1))] [(0, p_ ⟨[], none, none, none, some (vI ↑(k + 1))⟩ [(Value.int .i64 (IntKind.wrap .i64 (((k : Nat) : Int) + 1))) = (.int .i64 ↑(k + 1))] ⟨bE (by omega) (by omega) (by omega), trivial⟩)] ?_
   refine NL ?_
   refine ai.mem (aP := [.abs (ak (aN ((aZ S (nd ns k)).O) L2)), .blk b1 [.slice A (ns.length) (c)] 24, .blk b7 [vI ((aZ S (nd ns k)).X.cN), vI ((aZ S (nd ns k)).X.cB), vI ((aZ S (nd ns k)).X.cH), vI ((aZ S (nd ns k)).X.cS), vI ((aZ S (nd ns k)).X.cZ), .map (some m3), vP t4, vI ((aZ S (nd ns k)).X.last), vI ((aZ S (nd ns k)).X.ah), vI ((aZ S (nd ns k)).X.used)] 86, .abs (aE Tryz.prog 3 m3 (aO (aK L2 (aZ S (nd ns k)).idx)) ((aZ S (nd ns k)).idx.length)), .abs (br 156 t4 (aZ S (nd ns k)).X.cH (aZ S (nd ns k)).av (aK L2 (aZ S (nd ns k)).us)), .abs (ak (aY ((aZ S (nd ns k)).O) L2)), .abs (ak (bh ((aZ S (nd ns k)).O) L2)), .abs R, .blk b8 [vI ((nd ns k).id), vI ((nd ns k).kind), vI ((nd ns k).mode), vI ((nd ns k).uid), vI ((nd ns k).gid), vI ((nd ns k).sec), vI ((nd ns k).nano), .slice (Y.dA k) ((nd ns k).data.length) ((Y.dC k)), .string (nd ns k).target, .slice (Y.eA k) ((nd ns k).ah.length) ((Y.eC k))] 70, .blk b9 [vI ((nd ns k).id), vI ((nd ns k).mode), vI ((nd ns k).uid), vI ((nd ns k).gid), vI ((nd ns k).sec), vI ((nd ns k).nano), vI 0, vI 0, .bool false] 88]) (fun w hS => by rw [show (aZ S (nd ns k)).idx.length = S.idx.length + 1 from gi _ _ _]; exact hS) ?_
   exact ai.turn ((k + 1), (aZ S (nd ns k)), L2) (idx := [2, 6, 47, 48, 49]) (pk := [1, 2, 3, 4, 0, 5, 6, 7]) (show (((k + 1)) ≤ ns.length) ∧ (kr X ns ((k + 1)) ((aZ S (nd ns k)))) from ⟨by omega, uU hok (fun i hi => (hd i hi).1) (by omega) hB⟩) (by show ns.length - ((k + 1)) < ns.length - k; omega) (fun _ => by kernel_rfl) rfl (by kernel_rfl)
  have kD : (nd ns k).kind = 2 := by omega
  refine af.ck (S := [pF b7 m3 t4 S.X, oF b8 ns k Y, uV b9 ns k]) [0, 1, 2, 3, 4, 5, 6, 7, 8, 9, 10, 11] 7 [1, 8, 9] (by kernel_rfl) (by kernel_rfl) rfl (by kernel_rfl) ?_
  refine aH.reads (r := 0) (l := [7, 8, 9, 10, 11]) (fr' := (yV b1 b7 b8 A ns c k ++ Nb m3 ns k)) (aU := [b9 = b9, b9 = b9, b9 = b9, b9 = b9, b9 = b9, b9 = b9, b9 = b9, b9 = b9, b9 = b9, b8 = b8, b7 = b7]) [0, 1, 2, 3, 4, 5, 6] [o_, o_, o_, ⟨[.at 0], none, none, none, none⟩, o_, ⟨[.at 1], none, none, none, none⟩, ⟨[.at 2, .at 2, .at 2, .at 2, .at 2, .at 2, .at 2, .at 2, .at 2], none, none, none, none⟩] [2, 6, 8, 47, 48, 49, 69, 71, 72] (fun _ => by kernel_rfl) ⟨rfl, rfl, rfl, rfl, rfl, rfl, rfl, rfl, rfl, rfl, rfl, trivial⟩ rfl rfl ?_
  refine aH.cut (ι := Nat) (fr' := fun (m14 : Nat) => (yV b1 b7 b8 A ns c k ++ Nb m3 ns k ++ [(73, .map (some m14))])) (hp' := fun (m14 : Nat) => (tO b1 A ns c b7 m3 t4 S L R ++ [oF b8 ns k Y, uV b9 ns k, .abs (aE Tryz.prog 9 m14 (fun _ => none) 0)])) [1, 8, 9] rfl rfl ?_ rfl (fun _ => by kernel_rfl) ?_
  ·refine aj.kK (d := (some 73)) (t := 97) (fun _ => by kernel_rfl) Tryz.prog rfl 9 (fun m14 => ?_)
   refine NL ?_
   exact MD m14 [2, 6, 8, 47, 48, 49, 69, 71, 72, 73] [0, 1, 2, 3, 4, 5, 6, 7, 8, 9, 10]
  rintro m14
  refine aH.cut (ι := Unit) (fr' := fun (_ : Unit) => (yV b1 b7 b8 A ns c k ++ [(69, .map (some m3)), (71, vI ((nd ns k).id)), (74, .agg #[vI ((nd ns k).id), vI ((nd ns k).mode), vI ((nd ns k).uid), vI ((nd ns k).gid), vI ((nd ns k).sec), vI ((nd ns k).nano), vI 0, vI 0, .bool false, .map (some m14), .pointer none])])) (hp' := fun (_ : Unit) => (tO b1 A ns c b7 m3 t4 S L R ++ [oF b8 ns k Y, uV b9 ns k, .abs (aE Tryz.prog 9 m14 (fun _ => none) 0)])) [1, 8, 9] rfl rfl ?_ rfl (fun _ => by kernel_rfl) ?_
  ·refine gK 1 [(74, .agg #[vI ((nd ns k).id), vI ((nd ns k).mode), vI ((nd ns k).uid), vI ((nd ns k).gid), vI ((nd ns k).sec), vI ((nd ns k).nano), vI 0, vI 0, .bool false, .map (some m14), .pointer none])] [] ?_
   refine NL ?_
   exact MD () [2, 6, 8, 47, 48, 49, 69, 71, 74] [0, 1, 2, 3, 4, 5, 6, 7, 8, 9, 10]
  rintro _
  refine mN [1, 8, 9] (fun b15 => [(75, vP b15)]) (fun _ => []) (fun b15 => .blk b15 [vI ((nd ns k).id), vI ((nd ns k).mode), vI ((nd ns k).uid), vI ((nd ns k).gid), vI ((nd ns k).sec), vI ((nd ns k).nano), vI 0, vI 0, .bool false, .map (some m14), .pointer none] 99) (fun b15 => ?_)
  refine aH.cut (ι := Unit) (fr' := fun (_ : Unit) => (yV b1 b7 b8 A ns c k ++ [(69, .map (some m3)), (71, vI ((nd ns k).id)), (76, .iface 96 (vP b15))])) (hp' := fun (_ : Unit) => (tO b1 A ns c b7 m3 t4 S L R ++ [oF b8 ns k Y, uV b9 ns k, .abs (aE Tryz.prog 9 m14 (fun _ => none) 0), .blk b15 [vI ((nd ns k).id), vI ((nd ns k).mode), vI ((nd ns k).uid), vI ((nd ns k).gid), vI ((nd ns k).sec), vI ((nd ns k).nano), vI 0, vI 0, .bool false, .map (some m14), .pointer none] 99])) [1, 8, 9] rfl rfl ?_ rfl (fun _ => by kernel_rfl) ?_
  ·refine gK 1 [(76, .iface 96 (vP b15))] [] ?_
   refine NL ?_
   exact MD () [2, 6, 8, 47, 48, 49, 69, 71, 76] [0, 1, 2, 3, 4, 5, 6, 7, 8, 9, 10, 11]
  rintro _
  refine aH.last rfl rfl ?_
  obtain ⟨L2, hL2⟩ : ∃ L2 : HL, L2 = L.put (dW (nd ns k)) b15 m14 none 0 := ⟨_, rfl⟩
  have hfr := hB.fresh hok (by omega)
  refine aj.mem (aP := [.abs (ak (aN ((aZ S (nd ns k)).O) L2)), .blk b1 [.slice A (ns.length) (c)] 24, .blk b7 [vI (S.X.cN), vI (S.X.cB), vI (S.X.cH), vI (S.X.cS), vI (S.X.cZ), .map (some m3), vP t4, vI (S.X.last), vI (S.X.ah), vI (S.X.used)] 86, .abs (aE Tryz.prog 3 m3 (aO (aK L S.idx)) S.idx.length), .abs (br 156 t4 S.X.cH S.av (aK L S.us)), .abs (ak (aY S.O L)), .abs (ak (bh S.O L)), .abs R, .blk b8 [vI ((nd ns k).id), vI ((nd ns k).kind), vI ((nd ns k).mode), vI ((nd ns k).uid), vI ((nd ns k).gid), vI ((nd ns k).sec), vI ((nd ns k).nano), .slice (Y.dA k) ((nd ns k).data.length) ((Y.dC k)), .string (nd ns k).target, .slice (Y.eA k) ((nd ns k).ah.length) ((Y.eC k))] 70, .blk b9 [vI ((nd ns k).id), vI ((nd ns k).mode), vI ((nd ns k).uid), vI ((nd ns k).gid), vI ((nd ns k).sec), vI ((nd ns k).nano), vI 0, vI 0, .bool false] 88, .abs (aE Tryz.prog 9 m14 (fun _ => none) 0)]) (fun w hS => hS.qM hL2 hfr (o := (oC (nd ns k))) (i := 4) (j := 11) (ix := [0, 1, 2, 3, 5, 6, 7, 8, 9, 10]) rfl rfl (by kernel_rfl) rfl (by show (nd ns k).kind ≠ 0; rw [kD]; decide) ((gV (L := L2) (k := (dW (nd ns k))) (o := (oC (nd ns k))) kD).trans (by rw [CD hL2]; rfl)) (by show kX (nd ns k).kind = _; rw [kD]; rfl)) ?_
  refine aj.mem (aP := [pE ((aZ S (nd ns k)).O) L2, pO ((aZ S (nd ns k)).O) L2, wi b1 A ns c, pF b7 m3 t4 S.X, pI m3 L S.idx, jY t4 S L, pD S.O L, .abs R, oF b8 ns k Y, uV b9 ns k]) (fun w hS => hS.Kj hL2 hfr (o := (oC (nd ns k))) (i := 6) (j := 10) (ix := [0, 1, 2, 3, 4, 5, 7, 8, 9]) rfl rfl (by kernel_rfl) rfl kD rfl) ?_
  refine aj.mem (aP := [.abs (ak (bh ((aZ S (nd ns k)).O) L2)), .abs (ak (aN ((aZ S (nd ns k)).O) L2)), .blk b1 [.slice A (ns.length) (c)] 24, .blk b7 [vI (S.X.cN), vI (S.X.cB), vI (S.X.cH), vI (S.X.cS), vI (S.X.cZ), .map (some m3), vP t4, vI (S.X.last), vI (S.X.ah), vI (S.X.used)] 86, .abs (aE Tryz.prog 3 m3 (aO (aK L S.idx)) S.idx.length), .abs (br 156 t4 S.X.cH S.av (aK L S.us)), .abs (ak (aY ((aZ S (nd ns k)).O) L2)), .abs R, .blk b8 [vI ((nd ns k).id), vI ((nd ns k).kind), vI ((nd ns k).mode), vI ((nd ns k).uid), vI ((nd ns k).gid), vI ((nd ns k).sec), vI ((nd ns k).nano), .slice (Y.dA k) ((nd ns k).data.length) ((Y.dC k)), .string (nd ns k).target, .slice (Y.eA k) ((nd ns k).ah.length) ((Y.eC k))] 70, .blk b9 [vI ((nd ns k).id), vI ((nd ns k).mode), vI ((nd ns k).uid), vI ((nd ns k).gid), vI ((nd ns k).sec), vI ((nd ns k).nano), vI 0, vI 0, .bool false] 88]) (fun w hS => hS.yg hL2 (o := (oC (nd ns k))) (i := 6) rfl (by show ¬ (nd ns k).kind = 1; rw [kD]; decide)) ?_
  refine aj.mem (aP := [.abs (ak (bh ((aZ S (nd ns k)).O) L2)), .abs (ak (aN ((aZ S (nd ns k)).O) L2)), .blk b1 [.slice A (ns.length) (c)] 24, .blk b7 [vI (S.X.cN), vI (S.X.cB), vI (S.X.cH), vI (S.X.cS), vI (S.X.cZ), .map (some m3), vP t4, vI (S.X.last), vI (S.X.ah), vI (S.X.used)] 86, .abs (aE Tryz.prog 3 m3 (aO (aK L2 S.idx)) S.idx.length), .abs (br 156 t4 S.X.cH S.av (aK L2 S.us)), .abs (ak (aY ((aZ S (nd ns k)).O) L2)), .abs R, .blk b8 [vI ((nd ns k).id), vI ((nd ns k).kind), vI ((nd ns k).mode), vI ((nd ns k).uid), vI ((nd ns k).gid), vI ((nd ns k).sec), vI ((nd ns k).nano), .slice (Y.dA k) ((nd ns k).data.length) ((Y.dC k)), .string (nd ns k).target, .slice (Y.eA k) ((nd ns k).ah.length) ((Y.eC k))] 70, .blk b9 [vI ((nd ns k).id), vI ((nd ns k).mode), vI ((nd ns k).uid), vI ((nd ns k).gid), vI ((nd ns k).sec), vI ((nd ns k).nano), vI 0, vI 0, .bool false] 88]) (fun w hS => by rw [fk hL2 hfr.idx, fk hL2 hfr.us]; exact hS) ?_
  have Dp : cO L2 (nj (nd ns k)) = .iface 96 (vP b15) := by unfold nj; rw [mD hL2, kD]; rfl
  refine aj.jW 4 (d := none) (t := 80) (K := 3) (E := 84) (b := m3) (n := S.idx.length) (f := (aO (aK L2 S.idx))) (x := (.tmp 69)) (ix := (.tmp 71)) (y := (.tmp 76)) (key := .int .i64 ((nd ns k).id)) (u := .iface 96 (vP b15)) (kl := (.int .i64 (nd ns k).id)) (n' := (S.idx.length + 1)) (f' := (aO (aK L2 (ins (nd ns k).id (nj (nd ns k)) S.idx)))) (fun _ => by kernel_rfl) (by kernel_rfl) (fun _ => by kernel_rfl) (fun _ => by kernel_rfl) (fun _ => by kernel_rfl) cU Tryz.underlying80 (by unfold maxLen; omega) (gX nM) (by rw [dQ, hni]; rfl) (by rw [← Dp]; exact pR hni) ?_
  refine NL (ai.np (ai.aL (NX (SR ?_))))
  refine gC 6 [] [(2, a_ 8 b8), (5, a_ 3 b7)] [(3, [(7, vI ((nd ns k).id))])] ?_
  refine NN ?_
  refine af.ck (S := [pF b7 m3 t4 { S.X with last := (nd ns k).id }, oF b8 ns k Y]) [0, 1, 2, 3, 4, 5, 6, 7, 8, 9, 10] 10 [3, 8] (by kernel_rfl) (by kernel_rfl) rfl (by kernel_rfl) ?_
  refine aH.reads (r := 0) (l := [10]) (fr' := (Na b1 b7 A ns c k S)) (aU := [(Value.int .i64 (IntKind.wrap .i64 (S.X.used + (((nd ns k).data.length : Nat) : Int)))) = (.int .i64 (S.X.used + (((nd ns k).data.length : Nat) : Int))), b8 = b8, b7 = b7]) [0, 1, 2, 3, 4, 5, 6, 7, 8, 9] [o_, o_, o_, ⟨[.at 0], none, none, none, none⟩, o_, ⟨[.at 1], none, none, none, none⟩, o_, ⟨[], none, none, none, some (vI (S.X.used + (((nd ns k).data.length : Nat) : Int)))⟩, o_, o_] [2, 6, 47, 48, 49, 118, 120] (fun _ => by kernel_rfl) ⟨bE (by omega) (by omega) (by omega), rfl, rfl, trivial⟩ rfl rfl ?_
  refine aH.last rfl rfl ?_
  refine gC 1 [] [(0, a_ 3 b7)] [(3, [(9, vI (S.X.used + (((nd ns k).data.length : Nat) : Int)))])] ?_
  refine NL (ai.np (ai.aL (NX (af.region ?_))))
  refine gK 2 [(49, vI ↑(k + 1))] [(0, p_ ⟨[], none, none, none, some (vI ↑(k + 1))⟩ [(Value.int .i64 (IntKind.wrap .i64 (((k : Nat) : Int) + 1))) = (.int .i64 ↑(k + 1))] ⟨bE (by omega) (by omega) (by omega), trivial⟩)] ?_
  refine NL ?_
  refine ai.mem (aP := [.abs (ak (bh ((aZ S (nd ns k)).O) L2)), .abs (ak (aN ((aZ S (nd ns k)).O) L2)), .blk b1 [.slice A (ns.length) (c)] 24, .blk b7 [vI ((aZ S (nd ns k)).X.cN), vI ((aZ S (nd ns k)).X.cB), vI ((aZ S (nd ns k)).X.cH), vI ((aZ S (nd ns k)).X.cS), vI ((aZ S (nd ns k)).X.cZ), .map (some m3), vP t4, vI ((aZ S (nd ns k)).X.last), vI ((aZ S (nd ns k)).X.ah), vI ((aZ S (nd ns k)).X.used)] 86, .abs (aE Tryz.prog 3 m3 (aO (aK L2 (aZ S (nd ns k)).idx)) ((aZ S (nd ns k)).idx.length)), .abs (br 156 t4 (aZ S (nd ns k)).X.cH (aZ S (nd ns k)).av (aK L2 (aZ S (nd ns k)).us)), .abs (ak (aY ((aZ S (nd ns k)).O) L2)), .abs R, .blk b8 [vI ((nd ns k).id), vI ((nd ns k).kind), vI ((nd ns k).mode), vI ((nd ns k).uid), vI ((nd ns k).gid), vI ((nd ns k).sec), vI ((nd ns k).nano), .slice (Y.dA k) ((nd ns k).data.length) ((Y.dC k)), .string (nd ns k).target, .slice (Y.eA k) ((nd ns k).ah.length) ((Y.eC k))] 70, .blk b9 [vI ((nd ns k).id), vI ((nd ns k).mode), vI ((nd ns k).uid), vI ((nd ns k).gid), vI ((nd ns k).sec), vI ((nd ns k).nano), vI 0, vI 0, .bool false] 88]) (fun w hS => by rw [show (aZ S (nd ns k)).idx.length = S.idx.length + 1 from gi _ _ _]; exact hS) ?_
  exact ai.turn ((k + 1), (aZ S (nd ns k)), L2) (idx := [2, 6, 47, 48, 49]) (pk := [2, 3, 4, 5, 1, 6, 0, 7]) (show (((k + 1)) ≤ ns.length) ∧ (kr X ns ((k + 1)) ((aZ S (nd ns k)))) from ⟨by omega, uU hok (fun i hi => (hd i hi).1) (by omega) hB⟩) (by show ns.length - ((k + 1)) < ns.length - k; omega) (fun _ => by kernel_rfl) rfl (by kernel_rfl)
 refine af.exit (ai.aT (ai.aT (ai.bX (NX (af.seq (SR ?_))))))
 refine gK 4 [(123, .slice A (ns.length) (c)), (124, vI ↑ns.length), (125, vI 0)] [(1, a_ 0 b1)] ?_
 refine NN (af.block ?_)
 refine af.loop (ι := Nat × aG) (fun ((i, S1) : Nat × aG) => (i ≤ ns.length) ∧ (dL X ns i 0 S1)) (fun ((i, S1) : Nat × aG) => ns.length - i) (fun ((i, S1) : Nat × aG) => [(6, vP b7), (123, .slice A (ns.length) (c)), (124, vI ↑ns.length), (125, vI ↑i)]) (fun ((i, S1) : Nat × aG) => (tO b1 A ns c b7 m3 t4 S1 L R)) (0, S) (idx := [6, 123, 124, 125]) (pk := [0, 1, 2, 3, 4, 5, 6, 7]) (show (0 ≤ ns.length) ∧ (dL X ns 0 0 S) from ⟨Nat.zero_le _, by have h := hB; rw [show k = ns.length by omega] at h; exact h.ah⟩) (fun _ => by kernel_rfl) rfl (by kernel_rfl) ?_
 rintro ⟨i, S1⟩ ⟨hi, hE⟩
 show af _ _ _ _ [(6, vP b7), (123, .slice A (ns.length) (c)), (124, vI ↑ns.length), (125, vI ↑i)] (tO b1 A ns c b7 m3 t4 S1 L R) _
 refine SR ?_
 refine gK 1 [(126, .bool (decide ((((i : Nat) : Int) : Int) < (((ns.length : Nat) : Int) : Int))))] [] ?_
 refine NN (af.seq ?_)
 refine af.bn (p := (((i : Nat) : Int) : Int) < (((ns.length : Nat) : Int) : Int)) (fun _ => by kernel_rfl) (fun P4 => ?_) (fun P4 => ?_)
 ·refine af.skip (NX (af.seq (af.block (SR ?_))))
  refine gN 4 (fun b16 => [(11, vP b16)]) (fun b16 => [(0, p_ ⟨[], some i, none, some ⟨(au A), ar A, none⟩, none⟩ [((i : Nat) : Int) = ((i : Nat) : Int), i < ns.length, (⟨(au A), ar A, none⟩ : Addr).spot = none, (A : Option Addr) = some ⟨(au A), ar A, none⟩] ⟨rfl, by omega, rfl, aA.hd hG (i := i) (by omega), trivial⟩), (1, p_ ⟨[.old (.int .i64 ((nd ns i).id)), .old (.int .i64 ((nd ns i).kind)), .old (.int .i64 ((nd ns i).mode)), .old (.int .i64 ((nd ns i).uid)), .old (.int .i64 ((nd ns i).gid)), .old (.int .i64 ((nd ns i).sec)), .old (.int .i64 ((nd ns i).nano)), .old (.slice (Y.dA i) ((nd ns i).data.length) ((Y.dC i))), .old (.string (nd ns i).target), .old (.slice (Y.eA i) ((nd ns i).ah.length) ((Y.eC i)))], none, none, none, none⟩ [(Rd β ⟨(au A), ar A + i * 10 + 9, none⟩ (.slice (Y.eA i) ((nd ns i).ah.length) ((Y.eC i)))), (Rd β ⟨(au A), ar A + i * 10 + 8, none⟩ (.string (nd ns i).target)), (Rd β ⟨(au A), ar A + i * 10 + 7, none⟩ (.slice (Y.dA i) ((nd ns i).data.length) ((Y.dC i)))), (Rd β ⟨(au A), ar A + i * 10 + 6, none⟩ (.int .i64 ((nd ns i).nano))), (Rd β ⟨(au A), ar A + i * 10 + 5, none⟩ (.int .i64 ((nd ns i).sec))), (Rd β ⟨(au A), ar A + i * 10 + 4, none⟩ (.int .i64 ((nd ns i).gid))), (Rd β ⟨(au A), ar A + i * 10 + 3, none⟩ (.int .i64 ((nd ns i).uid))), (Rd β ⟨(au A), ar A + i * 10 + 2, none⟩ (.int .i64 ((nd ns i).mode))), (Rd β ⟨(au A), ar A + i * 10 + 1, none⟩ (.int .i64 ((nd ns i).kind))), (Rd β ⟨(au A), ar A + i * 10, none⟩ (.int .i64 ((nd ns i).id)))] ⟨aA.rd hG (i := i) (by omega) (j := 9) rfl, aA.rd hG (i := i) (by omega) (j := 8) rfl, aA.rd hG (i := i) (by omega) (j := 7) rfl, aA.rd hG (i := i) (by omega) (j := 6) rfl, aA.rd hG (i := i) (by omega) (j := 5) rfl, aA.rd hG (i := i) (by omega) (j := 4) rfl, aA.rd hG (i := i) (by omega) (j := 3) rfl, aA.rd hG (i := i) (by omega) (j := 2) rfl, aA.rd hG (i := i) (by omega) (j := 1) rfl, aA.rd hG (i := i) (by omega) (j := 0) rfl, trivial⟩), (3, A_ 8 b16 10)]) (fun _ => []) (fun b16 => .blk b16 [vI ((nd ns i).id), vI ((nd ns i).kind), vI ((nd ns i).mode), vI ((nd ns i).uid), vI ((nd ns i).gid), vI ((nd ns i).sec), vI ((nd ns i).nano), .slice (Y.dA i) ((nd ns i).data.length) ((Y.dC i)), .string (nd ns i).target, .slice (Y.eA i) ((nd ns i).ah.length) ((Y.eC i))] 70) (fun b16 => ?_)
  refine NS ?_
  refine gK 4 [(130, .slice (Y.eA i) ((nd ns i).ah.length) ((Y.eC i))), (131, vI ↑((nd ns i).ah.length)), (132, vI 0)] [(1, a_ 8 b16)] ?_
  refine NN (af.block ?_)
  refine af.loop (ι := Nat × aG) (fun ((j, S2) : Nat × aG) => (j ≤ (nd ns i).ah.length) ∧ (dL X ns i j S2)) (fun ((j, S2) : Nat × aG) => (nd ns i).ah.length - j) (fun ((j, S2) : Nat × aG) => (Pc b7 b16 A ns c i Y j)) (fun ((j, S2) : Nat × aG) => ([oF b16 ns i Y] ++ tO b1 A ns c b7 m3 t4 S2 L R)) (0, S1) (idx := [6, 11, 123, 124, 125, 130, 131, 132]) (pk := [8, 0, 1, 2, 3, 4, 5, 6, 7]) (show (0 ≤ (nd ns i).ah.length) ∧ (dL X ns i 0 S1) from ⟨Nat.zero_le _, hE⟩) (fun _ => by kernel_rfl) rfl (by kernel_rfl) ?_
  rintro ⟨j, S2⟩ ⟨hj, oe⟩
  show af _ _ _ _ (Pc b7 b16 A ns c i Y j) ([oF b16 ns i Y] ++ tO b1 A ns c b7 m3 t4 S2 L R) _
  refine SR ?_
  refine gK 1 [(133, .bool (decide ((((j : Nat) : Int) : Int) < ((((nd ns i).ah.length : Nat) : Int) : Int))))] [] ?_
  refine NN (af.seq ?_)
  refine af.bn (p := (((j : Nat) : Int) : Int) < ((((nd ns i).ah.length : Nat) : Int) : Int)) (fun _ => by kernel_rfl) (fun P5 => ?_) (fun P5 => ?_)
  ·have hj2 : j < (nd ns i).ah.length := by omega
   have hi2 : i < ns.length := by omega
   have P6 := oe.get hi2
   obtain ⟨hes, hno, hk2⟩ := oe.look hok hi2 hj2
   have Nd := qA hok hi2 hj2
   have Df : TabM.get S2.idx (nd ns i).id = some ⟨(dW (nd ns i)), 2⟩ := by rw [P6]; unfold nj; rw [hk2]
   have hge : TabM.get S2.idx (ent ns i j).id = some (jK ns (ent ns i j)) := by rw [← Nd.2]; exact oe.get Nd.1
   have JL := hok.ids i hi2
   have hiw : (Lit.int .i64 (nd ns i).id).wf = true := WalkArith.wf_i64 (by omega)
   have QL : (Lit.int .i64 (ent ns i j).id).wf = true := WalkArith.wf_i64 (by have := hwf i hi2 j hj2; omega)
   have hld := oe.live hok hi2
   have hlt := oe.live hok Nd.1
   have hkd : (obj S2.O (dW (nd ns i))).kind = 2 := (oe.inv.kind hld).trans hk2
   have hkt : (obj S2.O (jK ns (ent ns i j)).k).kind = (jK ns (ent ns i j)).kind := oe.inv.kind hlt
   have h3 : (jK ns (ent ns i j)).kind = 1 ∨ (jK ns (ent ns i j)).kind = 2 ∨ (jK ns (ent ns i j)).kind = 3 := (oe.inv.ob _ hlt).2.2
   have hlb : 0 ≤ (obj S2.O (jK ns (ent ns i j)).k).links ∧ (obj S2.O (jK ns (ent ns i j)).k).links ≤ 8192 := oe.inv.lb hlt
   have hel : (obj S2.O (dW (nd ns i))).ah.length ≤ 8192 := oe.inv.eV hld
   have hsz := hnm i hi2 j hj2
   have hde := hd i hi2
   have RU := oe.inv.hX
   refine af.skip (NX (af.seq (af.block (SR ?_))))
   refine gN 4 (fun b17 => [(13, vP b17)]) (fun b17 => [(0, p_ ⟨[], some j, none, some ⟨(au (Y.eA i)), ar (Y.eA i), none⟩, none⟩ [((j : Nat) : Int) = ((j : Nat) : Int), j < (nd ns i).ah.length, (⟨(au (Y.eA i)), ar (Y.eA i), none⟩ : Addr).spot = none, ((Y.eA i) : Option Addr) = some ⟨(au (Y.eA i)), ar (Y.eA i), none⟩] ⟨rfl, by omega, rfl, cF.hd (hG.ah i (by omega)) (i := j) (by omega), trivial⟩), (1, p_ ⟨[.old (.string (en (nd ns i).ah j).name), .old (.int .i64 ((en (nd ns i).ah j).id))], none, none, none, none⟩ [(Rd β ⟨(au (Y.eA i)), ar (Y.eA i) + j * 2 + 1, none⟩ (.int .i64 ((en (nd ns i).ah j).id))), (Rd β ⟨(au (Y.eA i)), ar (Y.eA i) + j * 2, none⟩ (.string (en (nd ns i).ah j).name))] ⟨cF.rd (hG.ah i (by omega)) (i := j) (by omega) (j := 1) rfl, cF.rd (hG.ah i (by omega)) (i := j) (by omega) (j := 0) rfl, trivial⟩), (3, A_ 9 b17 2)]) (fun _ => []) (fun b17 => .blk b17 [.string (en (nd ns i).ah j).name, vI ((en (nd ns i).ah j).id)] 101) (fun b17 => ?_)
   refine NN (af.seq ?_)
   refine af.ck (S := [pF b7 m3 t4 S2.X, pI m3 L S2.idx, oF b16 ns i Y, .blk b17 [.string (en (nd ns i).ah j).name, vI ((en (nd ns i).ah j).id)] 101]) [0, 1, 2, 3, 4, 5, 6, 7, 8, 9, 10, 11, 12, 13, 14, 15, 16, 17] 17 [2, 3, 0, 9] (by kernel_rfl) (by kernel_rfl) rfl (by kernel_rfl) ?_
   refine aH.reads (r := 11) (l := [6, 7, 8, 9, 10, 11, 12, 13, 14, 15, 16, 17]) (fr' := ([(6, vP b7), (11, vP b16), (13, vP b17)] ++ Nc A ns c i Y j ++ [(139, .map (some m3)), (141, vI ((nd ns i).id))])) (aU := [b16 = b16, b7 = b7]) [0, 1, 2, 3, 4, 5] [o_, o_, o_, ⟨[.at 0], none, none, none, none⟩, o_, ⟨[.at 2], none, none, none, none⟩] [6, 11, 13, 123, 124, 125, 130, 131, 132, 139, 141] (fun _ => by kernel_rfl) ⟨rfl, rfl, trivial⟩ rfl rfl ?_
   refine aH.dm 1 (d := (some 142)) (t := 80) (K := 3) (E := 84) (b := m3) (cnt := S2.idx.length) (f := (aO (aK L S2.idx))) (x := (.tmp 139)) (ix := (.tmp 141)) (key := .int .i64 ((nd ns i).id)) (z := .nilIface) (kl := (.int .i64 (nd ns i).id)) (q := (some (cO L ⟨(dW (nd ns i)), 2⟩))) (by kernel_rfl) (by kernel_rfl) (fun _ => by kernel_rfl) (fun _ => by kernel_rfl) cU Tryz.underlying80 (fun _ => by kernel_rfl) (gX hiw) (by rw [dQ, Df]; rfl) (by kernel_rfl) ?_
   refine aH.reads (r := 1) (l := [16, 17]) (fr' := ([(6, vP b7), (11, vP b16)] ++ Nc A ns c i Y j ++ [(143, vP (L.b (dW (nd ns i)))), (145, .string (en (nd ns i).ah j).name), (149, .map (some m3)), (151, vI ((en (nd ns i).ah j).id))])) (aU := [b17 = b17, b7 = b7, b17 = b17]) [7, 8, 9, 10, 11, 12, 13, 14, 15] [o_, o_, ⟨[.at 3], none, none, none, none⟩, o_, o_, o_, ⟨[.at 0], none, none, none, none⟩, o_, ⟨[.at 3], none, none, none, none⟩] [6, 11, 123, 124, 125, 130, 131, 132, 143, 145, 149, 151] (fun _ => by kernel_rfl) ⟨rfl, rfl, rfl, trivial⟩ rfl rfl ?_
   refine aH.dm 1 (d := (some 152)) (t := 80) (K := 3) (E := 84) (b := m3) (cnt := S2.idx.length) (f := (aO (aK L S2.idx))) (x := (.tmp 149)) (ix := (.tmp 151)) (key := .int .i64 ((en (nd ns i).ah j).id)) (z := .nilIface) (kl := (.int .i64 (ent ns i j).id)) (q := (some (cO L (jK ns (ent ns i j))))) (by kernel_rfl) (by kernel_rfl) (fun _ => by kernel_rfl) (fun _ => by kernel_rfl) cU Tryz.underlying80 (fun _ => by kernel_rfl) (gX QL) (by rw [dQ, hge]; rfl) (by kernel_rfl) ?_
   refine aH.last rfl rfl ?_
   refine gL [5, 7] (Ep S2.O L (dW (nd ns i)) hkd (ent ns i j).name hsz hno (by omega) (jK ns (ent ns i j)) hkt h3 (by omega)) ?_
   rintro _ _ ⟨rfl, rfl⟩
   refine NL (ai.np (NX (af.region ?_)))
   refine gC 8 [] [(3, a_ 4 b7), (4, p_ ⟨[], none, none, none, some (vI (S2.X.ah + 1))⟩ [(Value.int .i64 (IntKind.wrap .i64 (S2.X.ah + 1))) = (.int .i64 (S2.X.ah + 1))] ⟨bE (by omega) (by omega) (by omega), trivial⟩), (7, a_ 4 b7)] [(4, [(8, vI (S2.X.ah + 1))])] ?_
   refine NL (ai.aL (NX (af.region ?_)))
   refine gK 2 [(132, vI ↑(j + 1))] [(0, p_ ⟨[], none, none, none, some (vI ↑(j + 1))⟩ [(Value.int .i64 (IntKind.wrap .i64 (((j : Nat) : Int) + 1))) = (.int .i64 ↑(j + 1))] ⟨bE (by omega) (by omega) (by omega), trivial⟩)] ?_
   refine NL ?_
   refine ai.mem (aP := [.abs (ak (aN ((jF ns S2 (nd ns i) (ent ns i j)).O) L)), .abs (ak (bh ((jF ns S2 (nd ns i) (ent ns i j)).O) L)), .blk b16 [vI ((nd ns i).id), vI ((nd ns i).kind), vI ((nd ns i).mode), vI ((nd ns i).uid), vI ((nd ns i).gid), vI ((nd ns i).sec), vI ((nd ns i).nano), .slice (Y.dA i) ((nd ns i).data.length) ((Y.dC i)), .string (nd ns i).target, .slice (Y.eA i) ((nd ns i).ah.length) ((Y.eC i))] 70, .blk b1 [.slice A (ns.length) (c)] 24, .blk b7 [vI ((jF ns S2 (nd ns i) (ent ns i j)).X.cN), vI ((jF ns S2 (nd ns i) (ent ns i j)).X.cB), vI ((jF ns S2 (nd ns i) (ent ns i j)).X.cH), vI ((jF ns S2 (nd ns i) (ent ns i j)).X.cS), vI ((jF ns S2 (nd ns i) (ent ns i j)).X.cZ), .map (some m3), vP t4, vI ((jF ns S2 (nd ns i) (ent ns i j)).X.last), vI ((jF ns S2 (nd ns i) (ent ns i j)).X.ah), vI ((jF ns S2 (nd ns i) (ent ns i j)).X.used)] 86, .abs (aE Tryz.prog 3 m3 (aO (aK L (jF ns S2 (nd ns i) (ent ns i j)).idx)) ((jF ns S2 (nd ns i) (ent ns i j)).idx.length)), .abs (br 156 t4 (jF ns S2 (nd ns i) (ent ns i j)).X.cH (jF ns S2 (nd ns i) (ent ns i j)).av (aK L (jF ns S2 (nd ns i) (ent ns i j)).us)), .abs (ak (aY ((jF ns S2 (nd ns i) (ent ns i j)).O) L)), .abs R, .blk b17 [.string (en (nd ns i).ah j).name, vI ((en (nd ns i).ah j).id)] 101]) (fun w hS => by rw [show aY (jF ns S2 (nd ns i) (ent ns i j)).O L = aY S2.O L from Lm]; exact hS) ?_
   exact ai.turn ((j + 1), (jF ns S2 (nd ns i) (ent ns i j))) (idx := [6, 11, 123, 124, 125, 130, 131, 132]) (pk := [2, 3, 4, 5, 6, 0, 7, 1, 8]) (show (((j + 1)) ≤ (nd ns i).ah.length) ∧ (dL X ns i ((j + 1)) ((jF ns S2 (nd ns i) (ent ns i j)))) from ⟨by omega, oe.step hok (by omega) (by omega)⟩) (by show (nd ns i).ah.length - ((j + 1)) < (nd ns i).ah.length - j; omega) (fun _ => by kernel_rfl) rfl (by kernel_rfl)
  refine af.exit (ai.aT (ai.aT (ai.bX (ai.aL (NX (af.region ?_))))))
  refine gK 2 [(125, vI ↑(i + 1))] [(0, p_ ⟨[], none, none, none, some (vI ↑(i + 1))⟩ [(Value.int .i64 (IntKind.wrap .i64 (((i : Nat) : Int) + 1))) = (.int .i64 ↑(i + 1))] ⟨bE (by omega) (by omega) (by omega), trivial⟩)] ?_
  refine NL ?_
  exact ai.turn ((i + 1), S2) (idx := [6, 123, 124, 125]) (pk := [1, 2, 3, 4, 5, 6, 7, 8]) (show (((i + 1)) ≤ ns.length) ∧ (dL X ns ((i + 1)) 0 S2) from ⟨by omega, by have h := oe; rw [show j = (nd ns i).ah.length by omega] at h; exact h.next⟩) (by show ns.length - ((i + 1)) < ns.length - i; omega) (fun _ => by kernel_rfl) rfl (by kernel_rfl)
 refine af.exit (ai.aT (ai.aT (ai.bX (NX (SR ?_)))))
 refine gK 3 [(4, vP b7), (5, vI 0)] [] ?_
 refine NN (af.ret ?_)
 exact RT (.tuple #[vP b7, vI 0]) [1, 2, 3, 4, 5, 6, 7] (.inr (.inr ⟨hcap, hok, S1, b7, m3, t4, L, by have h := hE; rw [show i = ns.length by omega] at h; exact h, rfl, rfl⟩))
end
section
open Go.RowKit Go.Maps HeapM TabM
theorem Dq {b : UInt8} (h0 : ¬ b = 0) (h1 : ¬ b = 47) (h2 : ¬ b = 46) : bB ⟨#[b]⟩ := by
  refine ⟨Nat.le_refl _, (by show 1 ≤ 255; decide), fun e => h2 ?_, fun e => ?_, fun j hj => ?_⟩
  ·injection e with e
   have e : [b] = [46] := congrArg Array.toList e
   injection e
  ·injection e with e
   have e : [b] = [46, 46] := congrArg Array.toList e
   injection e with _ e
   cases e
  have : j = 0 := by have hj : j < 1 := hj; omega
  subst this
  show ¬ b.toNat = 0 ∧ ¬ b.toNat = 47
  exact ⟨fun e => h0 (UInt8.toNat_inj.1 e), fun e => h1 (UInt8.toNat_inj.1 e)⟩
theorem uX : cT 0 0 := ⟨by decide, by decide, by decide, by decide, by decide⟩
def FO : aC := ⟨1, 2, 493, 0, 0, 0, 0, [], ⟨#[]⟩, [⟨⟨#[102]⟩, 2⟩]⟩
def Oy : aC := ⟨2, 1, 420, 0, 0, 0, 0, [], ⟨#[]⟩, []⟩
def nR : List aC := [FO, Oy]
def JO (room : Int) : FM := ⟨9, room, 9, 0, 0, 0, 0, 0⟩
theorem tu {i : Nat} (h : i < nR.length) : i = 0 ∨ i = 1 := by
  have h : i < 2 := h
  omega
theorem Nf : bD nR := by
  refine ⟨by decide, fun i hi => ?_, fun i hi => ?_, fun i j hij hj => ?_, by decide, fun i hi j hj => ?_, by decide, fun z => ?_⟩
  ·rcases tu hi with rfl | rfl
   ·exact ⟨by decide, by decide, by decide, by decide, uX, fun _ => rfl, fun h => absurd rfl h, .inl ⟨by decide, rfl⟩⟩
   exact ⟨by decide, by decide, by decide, by decide, uX, fun h => absurd rfl h, fun _ => rfl, .inl ⟨by decide, rfl⟩⟩
  ·rcases tu hi with rfl | rfl <;> exact ⟨by decide, by decide⟩
  ·rcases tu hj with rfl | rfl
   ·omega
   have : i = 0 := by omega
   subst this; decide
  ·rcases tu hi with rfl | rfl
   ·have hj : j < 1 := hj
    have : j = 0 := by omega
    subst this
    exact ⟨by decide, Dq (by decide) (by decide) (by decide), by show ¬ iX ⟨#[102]⟩ ⟨#[]⟩; unfold iX; decide +kernel⟩
   exact absurd hj (Nat.not_lt_zero j)
  have e : (dZ nR nR.length).map (gM nR) = [] := by decide
  rw [e]
  exact ⟨0, rfl⟩
theorem Ng {β : Bs} {B : Option Addr} {e : Nat} (hR : dI β B (cr ⟨fun _ => none, fun i => if i = 0 then some ⟨e, 0, none⟩ else none, fun _ => 0, fun i => if i = 0 then 1 else 0⟩ nR)) (h1 : cF β (some ⟨e, 0, none⟩) FO.ah) : aA β B nR ⟨fun _ => none, fun i => if i = 0 then some ⟨e, 0, none⟩ else none, fun _ => 0, fun i => if i = 0 then 1 else 0⟩ := by
  have hn : ∀ {A : Option Addr}, dI β A [] := fun j v hj => by simp at hj
  refine ⟨hR, fun i hi => ?_, fun i hi => ?_⟩
  ·rcases tu hi with rfl | rfl <;> exact hn
  rcases tu hi with rfl | rfl
  ·exact h1
  exact hn
theorem Ln {room : Int} (h : 0 ≤ room ∧ room ≤ 1099511627776) : pH (JO room) := ⟨by show (0 : Int) ≤ 9 ∧ (9 : Int) ≤ 4096; decide, h, by show (0 : Int) ≤ 9 ∧ (9 : Int) ≤ 1024; decide, uX⟩
section ops
variable {S : aG} {c : aS} {t : Th} {d : Nat}
theorem Dr {O : bK} {us : Used Th} {h : Int} {name : ByteArray} {need : Int} (h1 : TabM.get us h = some t) (h2 : t.kind = 2) (h3 : (obj O t.k).gone = false) (h4 : bB name) (h5 : bits BinOp.and .i64 (obj O t.k).mode need = need) : cL O us h name need = .ok t.k := by
  unfold cL
  rw [h1]
  simp only
  rw [if_pos h2, if_neg (by rw [h3]; decide), if_pos h4, if_pos h5]
theorem Lp (hop : c.op = 1) (h1 : TabM.get S.idx c.other = some t) (h2 : t.kind = 2) (h3 : (S.us.length : Int) < S.X.cH) : doM S c = ({ S with O := ay S.O t.k (fun o => { o with opens := o.opens + 1 }), us := ins (least S.us) t S.us, av := max S.av ((S.us.length : Int) + 1) }, { c with answer := least S.us, code := 0 }) := by
  unfold doM
  rw [yu (by exact hop)]
  unfold iK
  simp only
  rw [h1]
  simp only
  rw [if_pos h2, iz h3]
theorem FP (hop : c.op = 2) (ha : cL S.O S.us c.handle c.name 64 = .ok d) (hl : aQ c.name (obj S.O d).ah = some t) (h2 : t.kind = 2) (h3 : (S.us.length : Int) < S.X.cH) : doM S c = ({ S with O := ay S.O t.k (fun o => { o with opens := o.opens + 1 }), us := ins (least S.us) t S.us, av := max S.av ((S.us.length : Int) + 1) }, { c with answer := least S.us, code := 0 }) := by
  unfold doM
  rw [yw (by exact hop)]
  unfold d9 eM
  simp only
  rw [ha]
  simp only
  rw [hl]
  simp only
  rw [if_neg (by omega), if_neg (by omega), iz h3]
theorem JQ (hop : c.op = 4) (ha : cL S.O S.us c.handle c.name 192 = .ok d) (hm : lu c.mode) (hl : aQ c.name (obj S.O d).ah = none) (hr : Room S.X S.idx) : doM S c = (addM S d c.name (aB S.X 2 c.mode), { c with answer := 0, code := 0 }) := by
  unfold doM
  rw [yx (by exact hop)]
  unfold eX
  simp only
  rw [ha]
  simp only
  rw [if_pos hm]
  unfold mkdirM bN
  rw [if_pos hl, if_pos hr, if_pos rfl]
end ops
structure FQ (room : Int) (S : aG) : Prop where
  inv : Inv S
  idx : S.idx = [(1, ⟨1, 2⟩), (2, ⟨2, 1⟩)]
  us : S.us = []
  X : S.X = ⟨9, room, 9, 0, 0, 2, 1, 0⟩
  o1 : ∃ l u, obj S.O 1 = ⟨1, 493, 0, 0, 0, 0, l, 0, false, 2, [], ⟨#[]⟩, [(⟨#[102]⟩, ⟨2, 1⟩)], u⟩
  o2 : ∃ u, obj S.O 2 = ⟨2, 420, 0, 0, 0, 0, 1, 0, false, 1, [], ⟨#[]⟩, [], u⟩
theorem Lr {room : Int} {S : aG} (h : dL (JO room) nR nR.length 0 S) : FQ room S := by
  have hi : S.idx = [(1, ⟨1, 2⟩), (2, ⟨2, 1⟩)] := h.idx
  have Nh : Inv S := h.full
  obtain ⟨l1, u1, h1⟩ := h.ob 0 (by decide)
  obtain ⟨l2, u2, h2⟩ := h.ob 1 (by decide)
  have h1 : obj S.O 1 = ⟨1, 493, 0, 0, 0, 0, l1, 0, false, 2, [], ⟨#[]⟩, [(⟨#[102]⟩, ⟨2, 1⟩)], u1⟩ := h1
  have h2 : obj S.O 2 = ⟨2, 420, 0, 0, 0, 0, l2, 0, false, 1, [], ⟨#[]⟩, [], u2⟩ := h2
  have hl := Nh.links ⟨2, 1⟩ (by rw [hi]; rfl)
  have hl2 : l2 = 1 := by
    rw [hi] at hl
    have e : gh [(1, ⟨1, 2⟩), (2, ⟨2, 1⟩)] S.O 2 = 1 := by
      show (obj S.O 1).ah.countP _ + ((obj S.O 2).ah.countP _ + 0) = 1
      rw [h1, h2]; rfl
    simp only at hl
    rw [e, h2] at hl
    exact hl
  subst hl2
  exact ⟨Nh, hi, h.us, h.cap, ⟨l1, u1, h1⟩, ⟨u2, h2⟩⟩
theorem H7 : bB ⟨#[100]⟩ := Dq (by decide) (by decide) (by decide)
def tv : aS := ⟨1, 0, 1, ⟨#[]⟩, ⟨#[]⟩, none, 0, [], 0, 0, 0, 0, 0, 0, 0⟩
def su : aS := ⟨4, 1, 0, ⟨#[100]⟩, ⟨#[]⟩, none, 0, [], 448, 0, 0, 0, 0, 0, 0⟩
def yX : aS := ⟨2, 1, 0, ⟨#[100]⟩, ⟨#[]⟩, none, 0, [], 0, 0, 0, 0, 0, 0, 0⟩
theorem Ni : bits BinOp.and .i64 493 192 = 192 := by kernel_rfl
theorem Nj : bits BinOp.and .i64 493 64 = 64 := by kernel_rfl
section chain
variable {room : Int} {S : aG}
def S1 (S : aG) : aG := { S with O := ay S.O 1 (fun o => { o with opens := o.opens + 1 }), us := [(1, ⟨1, 2⟩)], av := max S.av 1 }
theorem P7 : obj (S1 S).O 1 = { obj S.O 1 with opens := (obj S.O 1).opens + 1 } := rfl
theorem Ds (h : FQ room S) : doM S tv = (S1 S, { tv with answer := 1, code := 0 }) := by
  rw [Lp (S := S) (c := tv) (t := ⟨1, 2⟩) rfl (by rw [h.idx]; rfl) rfl (by rw [h.us, h.X]; show (0 : Int) < 9; decide), h.us]
  rfl
theorem Nk {X : FM} {O : bK} {o : aM} : obj (bq X (ay O 3 (fun _ => o)) 1 ⟨#[100]⟩ ⟨3, 2⟩) 1 = { obj O 1 with ah := eF ⟨#[100]⟩ ⟨3, 2⟩ (obj O 1).ah, sec := X.cS, nano := X.cZ } := rfl
theorem Nl (h : FQ room S) : ∃ S2, doM (S1 S) su = (S2, { su with answer := 0, code := 0 }) ∧ S2.us = [(1, ⟨1, 2⟩)] ∧ S2.idx.length = 3 ∧ S2.X.cH = 9 ∧ cL S2.O S2.us 1 ⟨#[100]⟩ 64 = .ok 1 ∧ aQ ⟨#[100]⟩ (obj S2.O 1).ah = some ⟨3, 2⟩ := by
  obtain ⟨l, u, h1⟩ := h.o1
  have e1 : obj (S1 S).O 1 = ⟨1, 493, 0, 0, 0, 0, l, 1, false, 2, [], ⟨#[]⟩, [(⟨#[102]⟩, ⟨2, 1⟩)], u⟩ := by
    rw [P7, h1]; rfl
  have hX : (S1 S).X = ⟨9, room, 9, 0, 0, 2, 1, 0⟩ := h.X
  have hi : (S1 S).idx = [(1, ⟨1, 2⟩), (2, ⟨2, 1⟩)] := h.idx
  have ha : cL (S1 S).O (S1 S).us 1 ⟨#[100]⟩ 192 = .ok 1 := Dr (t := ⟨1, 2⟩) rfl rfl (by rw [e1]) H7 (by rw [e1]; exact Ni)
  have hn : aD (S1 S).X = 3 := by rw [hX]; rfl
  have e2 : obj (addM (S1 S) 1 su.name (aB (S1 S).X 2 su.mode)).O 1 = ⟨1, 493, 0, 0, 0, 0, l, 1, false, 2, [], ⟨#[]⟩, [(⟨#[100]⟩, ⟨3, 2⟩), (⟨#[102]⟩, ⟨2, 1⟩)], u⟩ := by
    show obj (bq (S1 S).X (ay (S1 S).O (aD (S1 S).X) (fun _ => _)) 1 ⟨#[100]⟩ ⟨aD (S1 S).X, 2⟩) 1 = _
    rw [hn, Nk, e1, hX]
    simp only [eF]
    rw [if_pos (by unfold iX; decide +kernel)]
  refine ⟨_, JQ (c := su) rfl ha ⟨by decide, by decide⟩ (by rw [e1]; rfl) ⟨by rw [hX, hi]; show (2 : Int) < 9; decide, by rw [hX]; show (2 : Int) < 1099511627776; decide, by rw [hX]; show (1 : Int) < 8192; decide⟩, rfl, ?_, by show (S1 S).X.cH = 9; rw [hX], ?_, ?_⟩
  ·show (ins _ _ (S1 S).idx).length = 3
   rw [hX, hi]; rfl
  ·exact Dr (t := ⟨1, 2⟩) rfl rfl (by rw [e2]) H7 (by rw [e2]; exact Nj)
  rw [e2]; rfl
theorem Nn {S2 : aG} (h1 : S2.us = [(1, ⟨1, 2⟩)]) (h2 : S2.X.cH = 9) (h3 : cL S2.O S2.us 1 ⟨#[100]⟩ 64 = .ok 1) (h4 : aQ ⟨#[100]⟩ (obj S2.O 1).ah = some ⟨3, 2⟩) : ∃ S3, doM S2 yX = (S3, { yX with answer := 2, code := 0 }) ∧ S3.idx = S2.idx := by
  have h := FP (S := S2) (c := yX) rfl h3 h4 rfl (by rw [h1, h2]; show (1 : Int) < 9; decide)
  have e : least S2.us = 2 := by rw [h1]; rfl
  rw [e] at h
  exact ⟨_, h, rfl⟩
structure RV (room : Int) (ds : List UInt8) (S : aG) : Prop where
  inv : Inv S
  idx : S.idx = [(1, ⟨1, 2⟩), (2, ⟨2, 1⟩)]
  us : S.us = [(1, ⟨1, 2⟩), (2, ⟨2, 1⟩)]
  X : S.X = ⟨9, room, 9, 0, 0, 2, 1, ds.length⟩
  o1 : ∃ l n u, obj S.O 1 = ⟨1, 493, 0, 0, 0, 0, l, n, false, 2, [], ⟨#[]⟩, [(⟨#[102]⟩, ⟨2, 1⟩)], u⟩
  o2 : ∃ u, obj S.O 2 = ⟨2, 420, 0, 0, 0, 0, 1, 1, false, 1, ds, ⟨#[]⟩, [], u⟩
structure RW (ds : List UInt8) (S : aG) : Prop where
  inv : Inv S
  idx : S.idx = [(1, ⟨1, 2⟩), (2, ⟨2, 1⟩)]
  us : S.us = [(1, ⟨1, 2⟩), (2, ⟨2, 1⟩)]
  used : S.X.used = ds.length
  o2 : ∃ s z u, obj S.O 2 = ⟨2, 420, 0, 0, s, z, 0, 1, true, 1, ds, ⟨#[]⟩, [], u⟩
end chain
end
section
open Go.RowKit Go.Maps HeapM TabM
attribute [local irreducible] aj aR af ai
theorem yY {β : Bs} (A : Option Addr) (c : Nat) (d : List UInt8) (hA : bH β A d) (hl : d.length ≤ 1048576) :
    Spec Tryz.prog β 39 #[.slice A d.length c] [] (fun v l => ∃ B cap, v = .slice B d.length cap ∧ l = [.abs (aI 5 1 B d.length cap (bL d))]) := by
 refine Spec.enter Tryz.func39 rfl Tryz.ntmps39 (Nat.le_of_ble_eq_true rfl) (fun R => ?_)
 refine SR ?_
 refine gK 1 [] [] ?_
 refine NS ?_
 refine gN 2 (fun b1 => [(3, .slice (some ⟨b1, 0, none⟩) (0) (0))]) (fun _ => []) (fun _ => []) (fun b1 => .blk b1 [] 5) (fun b1 => ?_)
 refine NS ?_
 refine aj.mem (fun w hS => hS.sC (i := 1) (b := b1) (cs := []) (e := 5) 1 0 (by kernel_rfl) rfl (by decide)) ?_
 refine gK 2 [(5, .slice (some ⟨b1, 0, none⟩) (0) (0)), (6, .slice A (d.length) (c))] [] ?_
 refine aj.append 1 (d := (some 7)) (t := 41) (e := 5) (z := .int .u8 0) (size := 1) (bytes := 1) (n := 0) (cap := 0) (A := some ⟨b1, 0, none⟩) (xs := []) (s := (.tmp 5)) (x := (.tmp 6)) (ats := #[41, 41]) (A' := A) (m := d.length) (c' := c) (news := (bL d)) (fun _ => by kernel_rfl) rfl (by kernel_rfl) (fun _ => by kernel_rfl) (fun _ => by kernel_rfl) Tryz.underlying41 (by kernel_rfl) rfl (by decide) (by rw [o3, Nat.mul_one]) (lM d) (hA.src) (by unfold maxLen; omega) (by omega) (fun A2 c3 => ?_)
 refine aj.dH 1 (p := .abs (aI 5 1 A2 (0 + d.length) c3 ([] ++ (bL d)))) (p' := .abs (aI 5 1 A2 d.length c3 (bL d))) (by kernel_rfl) (by rw [Nat.zero_add, List.nil_append]) ?_
 refine aj.slot 7 (.slice A2 (0 + d.length) (c3)) (.slice A2 (d.length) (c3)) (fun _ => by kernel_rfl) (by rw [Nat.zero_add]) ?_
 refine gK 1 [(3, .slice A2 (d.length) (c3))] [] ?_
 refine NS ?_
 refine gK 2 [(2, .slice A2 (d.length) (c3))] [] ?_
 refine NN (af.ret ?_)
 exact RT (.slice A2 (d.length) (c3)) [1, 0] (⟨A2, c3, rfl, rfl⟩)
theorem H8 {β : Bs} : dY Tryz.prog β 31 #[] [] (fun β' v l => ∃ B Y, v = .agg #[.slice B 2 2, vI 9, vI 99, vI 9, vI 0, vI 0] ∧ l = [] ∧ aA β' B nR Y) := by
 refine dY.enter Tryz.func31 rfl Tryz.ntmps31 (Nat.le_of_ble_eq_true rfl) (fun hle0 R => ?_)
 refine SR ?_
 refine gN 1 (fun b4 => [(0, vP b4)]) (fun _ => []) (fun _ => []) (fun b4 => .blk b4 [.slice none (0) (0), vI 0, vI 0, vI 0, vI 0, vI 0] 30) (fun b4 => ?_)
 refine NS ?_
 refine gN 4 (fun b5 => [(4, .agg #[vI 1, vI 2, vI 493, vI 0, vI 0, vI 0, vI 0, .slice none (0) (0), .string ⟨#[]⟩, .slice (some ⟨b5, 0, none⟩) (1) (1)]), (5, .agg #[vI 2, vI 1, vI 420, vI 0, vI 0, vI 0, vI 0, .slice none (0) (0), .string ⟨#[]⟩, .slice none (0) (0)])]) (fun _ => []) (fun _ => []) (fun b5 => .blk b5 [.string ⟨#[102]⟩, vI 2] 101) (fun b5 => ?_)
 refine gN 2 (fun b6 => [(7, .agg #[.slice (some ⟨b6, 0, none⟩) (2) (2)])]) (fun _ => []) (fun _ => []) (fun b6 => .blk b6 [vI 1, vI 2, vI 493, vI 0, vI 0, vI 0, vI 0, .slice none (0) (0), .string ⟨#[]⟩, .slice (some ⟨b5, 0, none⟩) (1) (1), vI 2, vI 1, vI 420, vI 0, vI 0, vI 0, vI 0, .slice none (0) (0), .string ⟨#[]⟩, .slice none (0) (0)] 70) (fun b6 => ?_)
 refine gN 2 (fun b7 => [(1, vP b7)]) (fun b7 => [(1, a_ 4 b7)]) (fun _ => []) (fun b7 => .blk b7 [.slice (some ⟨b6, 0, none⟩) (2) (2)] 24) (fun b7 => ?_)
 refine NS ?_
 refine aj.mem (fun w hS => hS.sC (i := 2) (b := b5) (cs := [.string ⟨#[102]⟩, vI 2]) (e := 101) 2 1 (by kernel_rfl) rfl (by decide)) ?_
 refine aj.nX (Φ := fun β' => cF β' (some ⟨b5, 0, none⟩) FO.ah) 2 [0, 1, 3, 4] (aP := [.abs R, .blk b4 [.slice none (0) (0), vI 0, vI 0, vI 0, vI 0, vI 0] 30, .blk b6 [vI 1, vI 2, vI 493, vI 0, vI 0, vI 0, vI 0, .slice none (0) (0), .string ⟨#[]⟩, .slice (some ⟨b5, 0, none⟩) (1) (1), vI 2, vI 1, vI 420, vI 0, vI 0, vI 0, vI 0, .slice none (0) (0), .string ⟨#[]⟩, .slice none (0) (0)] 70, .blk b7 [.slice (some ⟨b6, 0, none⟩) (2) (2)] 24]) rfl rfl (by kernel_rfl) (fun F w h β' h1 h2 => dI.lg h h1 h2) (fun RX Ls hE => ?_)
 replace hle0 := hle0.trans Ls
 refine aj.mem (fun w hS => hS.sC (i := 2) (b := b6) (cs := [vI 1, vI 2, vI 493, vI 0, vI 0, vI 0, vI 0, .slice none (0) (0), .string ⟨#[]⟩, .slice (some ⟨b5, 0, none⟩) (1) (1), vI 2, vI 1, vI 420, vI 0, vI 0, vI 0, vI 0, .slice none (0) (0), .string ⟨#[]⟩, .slice none (0) (0)]) (e := 70) 10 2 (by kernel_rfl) rfl (by decide)) ?_
 refine aj.nX (Φ := fun β' => dI β' (some ⟨b6, 0, none⟩) (cr ⟨fun _ => none, fun i => if i = 0 then some ⟨b5, 0, none⟩ else none, fun _ => 0, fun i => if i = 0 then 1 else 0⟩ nR)) 2 [0, 1, 3] (aP := [.abs R, .blk b4 [.slice none (0) (0), vI 0, vI 0, vI 0, vI 0, vI 0] 30, .blk b7 [.slice (some ⟨b6, 0, none⟩) (2) (2)] 24]) rfl rfl (by kernel_rfl) (fun F w h β' h1 h2 => dI.lg h h1 h2) (fun yZ jG hR => ?_)
 replace hE := hE.le jG
 replace hle0 := hle0.trans jG
 refine gC 4 [] [(0, a_ 2 b7), (3, A_ 1 b4 6)] [(1, [(0, .slice (some ⟨b6, 0, none⟩) (2) (2)), (1, vI 9), (2, vI 99), (3, vI 9)])] ?_
 refine NN (af.ret ?_)
 exact ai.rA (v := .agg #[.slice (some ⟨b6, 0, none⟩) (2) (2), vI 9, vI 99, vI 9, vI 0, vI 0]) (l := []) (aU := [b4 = b4, b4 = b4, b4 = b4, b4 = b4, b4 = b4, b4 = b4]) [.at 1, .at 1, .at 1, .at 1, .at 1, .at 1] [0] hle0 (fun _ => by kernel_rfl) ⟨rfl, rfl, rfl, rfl, rfl, rfl, trivial⟩ rfl (by kernel_rfl) (⟨_, _, rfl, rfl, Ng hR hE⟩)
end
section
open Go.RowKit Go.WideShapes Go.ChangeShapes Go.ChangeAt Go.Deep
theorem laidOut : laidOutB Tryz.prog = true := by kernel_rfl
theorem own : ownKnob Tryz.prog.godebug = none := by kernel_rfl
section row
variable {H : Type} {enc : TypeId × Value → H} {P : Program}
theorem tP (hl : laidOutB P = true) {W W' : World} (hb : Below W.heap.size W W') {sp : Nat → Bool} : ∀ {ts : List TypeId} {vs : List Value} {ds : List (DataW H)} {ps : List MemPlace},
    (∀ t ∈ ts, P.readableRec t = true ∧ t < P.types.size) → DataW.TrodAll enc P W 0 (fun _ => true) true ts vs ds ps → (∀ x ∈ ps, x.block < W.heap.size) → (∀ x ∈ ps, sp x.block = true) → DataW.TrodAll enc P W' 0 sp true ts vs ds ps
  | [], vs, ds, ps, _, h, _, _ => by
    obtain ⟨rfl, rfl, rfl⟩ := trodAll_nil h
    exact trodAll_mk0
  | t :: ts, vs, ds, ps, hr, h, hlt, hsp => by
    obtain ⟨v, vs', d, ds', p, q, rfl, rfl, rfl, h1, h2⟩ := trodAll_cons h
    have h3 := hr t List.mem_cons_self
    exact trodAll_cons_mk (WideElems.Trod_stays hl h3.1 h3.2 h1 (fun x hx => hb.same (hlt x (List.mem_append.2 (.inl hx)))) (fun x hx => hsp x (List.mem_append.2 (.inl hx))))
      (tP hl hb (fun t ht => hr t (List.mem_cons_of_mem _ ht)) h2 (fun x hx => hlt x (List.mem_append.2 (.inr hx))) (fun x hx => hsp x (List.mem_append.2 (.inr hx))))
def P8 (P : Program) (f : Func) : Bool := f.params.toList.all fun t => P.readableRec t && decide (t < P.types.size)
theorem law_post (hl : laidOutB P = true) {f : Func} {s : ChangeSpec} {apart fresh handsOn again : Bool} {W W' : World} {args : Array Value} {ds gs : List (DataW H)} {before : List MemPlace} {tb : TypeId} {rb : Bool}
    (hW : DataW.Whole enc P f.params.toList s.vars apart W args.toList ds gs before) (hvars : s.vars = []) (hrow : P8 P f = true) (hres : f.resultTypes = #[tb]) (hb0 : P.underlying tb = some .bool)
    (hfn : (s.fn H (ds ++ gs)).results = [.lit (.bool rb)]) (hargs : (s.fn H (ds ++ gs)).args = ds) (hv : (s.fn H (ds ++ gs)).vars = []) (hb : Below W.heap.size W W') :
    s.post enc P f apart fresh handsOn again W args (.bool rb) W' := by
  have hW' := hW
  obtain ⟨p, q, hA, hV, rfl, _, _⟩ := hW
  rw [hvars] at hV
  obtain ⟨rfl, rfl⟩ := trodVars_none hV
  have hlt : ∀ x ∈ p, x.block < W.heap.size := fun x hx => hW'.lt x (List.mem_append.2 (.inl hx))
  have hr : ∀ t ∈ f.params.toList, P.readableRec t = true ∧ t < P.types.size := fun t ht => by
    have := List.all_eq_true.1 hrow t ht
    simpa using this
  refine Bp (pa := p) (pv := []) hW' (fun b sp hd => ?_) (fun sp hsp => ?_) (fun sp _ => ?_) (by simp) hb ?_
  ·rw [hfn, hres]
   exact trodAll_cons_mk (shut_bool hb0 _) trodAll_mk0
  ·rw [hargs]
   exact tP hl hb hr hA hlt (fun x hx => hsp x (List.mem_append.2 (.inl hx)))
  ·rw [hvars, hv]
   exact rfl
  exact ok_one hres rfl (okWide_bool_mk hb0 _)
end row
end
end Go.Proofs.YtkiedlmhocglhaaGreatDoor
