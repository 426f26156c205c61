/-
  PROVED HERE: lemmas and contracts of functions (texts of this repo, joined; what the claim does not use is left out): H12, Lw, LA, Lc, HW, Og, LC, Row, GO, St, Pl, Sx, LB, LP, Oh, LR, Zl.
  CONDITIONS: as the theorems say.
-/
import Derived.Test.YtkiedlmhocglhaaGreatDoorMHrefused5
import Derived.Test.YtkiedlmhocglhaaGreatDoorRows
import Derived.ProofKit
import Derived.OpenShut
import Derived.Carry
import Derived.Deep.Slices
import Derived.Shelf.Vars
import Derived.Deep.DeepLaidRun
import Derived.LaidHandle
import Derived.ChangeMaps5
set_option maxRecDepth 100000
set_option maxHeartbeats 4000000
namespace Go.Proofs.YtkiedlmhocglhaaGreatDoor
section
open Go.RowKit Go.Maps HeapM TabM
attribute [local irreducible] ai aR af aj
abbrev Az (b2 : Nat) (X : FM) := (.blk b2 [vI (X.cN), vI (X.cB), vI (X.cH), vI (X.cS), vI (X.cZ)] 28 : HP)
abbrev vL (b1 : Nat) (A : Option Addr) (ns : List aN) (c) := (.blk b1 [.slice A (ns.length) (c)] 24 : HP)
abbrev nZ (b8 : Nat) (ns) (k : Nat) (Y : Lay) := (.blk b8 [vI ((nd ns k).id), vI ((nd ns k).kind), vI ((nd ns k).mode), vI ((nd ns k).uid), vI ((nd ns k).gid), vI ((nd ns k).sec), vI ((nd ns k).nano), .slice (Y.dA k) ((nd ns k).data.length) ((Y.dC k)), .string (nd ns k).target, .slice (Y.eA k) ((nd ns k).ah.length) ((Y.eC k))] 70 : HP)
abbrev uH (b9 : Nat) (ns) (k : Nat) := (.blk b9 [vI ((nd ns k).id), vI ((nd ns k).mode), vI ((nd ns k).uid), vI ((nd ns k).gid), vI ((nd ns k).sec), vI ((nd ns k).nano), vI 0, vI 0, .bool false] 88 : HP)
abbrev tq (b1 : Nat) (A : Option Addr) (ns) (c) (b7 : Nat) (m3 : Nat) (t4 : Nat) (S : aI) (L : HL) (R : bR) := ([vL b1 A ns c, pF b7 m3 t4 S.X, pI m3 L S.idx, jN t4 S L, pO S.O L, pD S.O L, pE S.O L, .abs R] : List HP)
abbrev yw (b1 : Nat) (b7 : Nat) (b8 : Nat) (A : Option Addr) (ns : List aN) (c) (k : Nat) := ([(2, vP b1), (6, vP b7), (8, vP b8), (47, .slice A (ns.length) (c)), (48, vI ↑ns.length), (49, vI ↑k)] : Fr)
abbrev J1 (b1 : Nat) (X : FM) := ([(2, vP b1), (39, .agg #[vI (X.cN), vI (X.cB), vI (X.cH), vI (X.cS), vI (X.cZ)])] : Fr)
abbrev Mq (b1 : Nat) (b7 : Nat) (A : Option Addr) (ns : List aN) (c) (k : Nat) (S : aI) := ([(2, vP b1), (6, vP b7), (47, .slice A (ns.length) (c)), (48, vI ↑ns.length), (49, vI ↑k), (118, vI (S.X.used + (((nd ns k).data.length : Nat) : Int))), (120, .pointer (some ⟨b7, 9, none⟩))] : Fr)
abbrev N9 (b7 : Nat) (b16 : Nat) (A : Option Addr) (ns : List aN) (c) (i : Nat) (Y : Lay) (j : Nat) := ([(6, vP b7), (11, vP b16), (123, .slice A (ns.length) (c)), (124, vI ↑ns.length), (125, vI ↑i), (130, .slice (Y.eA i) ((nd ns i).ah.length) ((Y.eC i))), (131, vI ↑((nd ns i).ah.length)), (132, vI ↑j)] : Fr)
abbrev Mr (m3 : Nat) (ns) (k : Nat) := ([(69, .map (some m3)), (71, vI ((nd ns k).id)), (72, .agg #[vI ((nd ns k).id), vI ((nd ns k).mode), vI ((nd ns k).uid), vI ((nd ns k).gid), vI ((nd ns k).sec), vI ((nd ns k).nano), vI 0, vI 0, .bool false])] : Fr)
abbrev Ms (A : Option Addr) (ns : List aN) (c) (i : Nat) (Y : Lay) (j : Nat) := ([(123, .slice A (ns.length) (c)), (124, vI ↑ns.length), (125, vI ↑i), (130, .slice (Y.eA i) ((nd ns i).ah.length) ((Y.eC i))), (131, vI ↑((nd ns i).ah.length)), (132, vI ↑j)] : Fr)
theorem zJ {β : Bs} (A : Option Addr) (c : Nat) (ns : List aN) (Y : Lay) (hG : aC β A ns Y) (hl : ns.length ≤ 1048576) (hd : ∀ i, i < ns.length → (nd ns i).data.length ≤ 1048576 ∧ (nd ns i).ah.length ≤ 1048576) (hwf : ∀ i, i < ns.length → ∀ j, j < (nd ns i).ah.length → -9223372036854775808 ≤ (ent ns i j).id ∧ (ent ns i j).id ≤ 9223372036854775807) (hnm : ∀ i, i < ns.length → ∀ j, j < (nd ns i).ah.length → (ent ns i j).name.size ≤ 1048576) (X : FM) :
    Spec Tryz.prog β 9 #[.agg #[.slice A (ns.length) (c)], .agg #[vI (X.cN), vI (X.cB), vI (X.cH), vI (X.cS), vI (X.cZ)]] [] (fun v l => (¬ oV X ∧ v = .tuple #[.pointer none, vI 179] ∧ l = []) ∨ (oV X ∧ ¬ bU ns ∧ v = .tuple #[.pointer none, vI 140] ∧ l = []) ∨ (oV X ∧ bU ns ∧ ∃ S f m t L, eu X ns ns.length 0 S ∧ v = .tuple #[vP f, vI 0] ∧ l = pA f m t L S)) := by
 refine Spec.enter Tryz.func9 rfl Tryz.ntmps9 (Nat.le_of_ble_eq_true rfl) (fun R => ?_)
 refine SR ?_
 refine gN 1 (fun b1 => [(2, vP b1)]) (fun _ => []) (fun _ => []) (fun b1 => .blk b1 [.slice A (ns.length) (c)] 24) (fun b1 => ?_)
 refine gN 3 (fun b2 => [(3, vP b2)]) (fun _ => []) (fun _ => []) (fun b2 => .blk b2 [vI (X.cN), vI (X.cB), vI (X.cH), vI (X.cS), vI (X.cZ)] 28) (fun b2 => ?_)
 refine NN (af.seq (SR ?_))
 refine gK 2 [(15, vI (X.cN))] [(1, a_ 2 b2)] ?_
 refine gL [] (d9 X.cN 4096) ?_
 rintro _ _ ⟨rfl, rfl⟩
 refine gK 2 [(18, .bool (!(decide ((0 ≤ X.cN ∧ X.cN ≤ 4096)))))] [] ?_
 refine ai.fM 18 ((0 ≤ X.cN ∧ X.cN ≤ 4096)) (fun _ => by kernel_rfl) (fun lQ => ?_) (fun lQ => ?_)
 ·refine gK 17 [(35, .bool true)] [] ?_
  refine NN ?_
  refine CT ?_
  refine SR ?_
  refine gK 2 [(4, .pointer none), (5, vI 179)] [] ?_
  refine NN (af.ret (aj.ar ?_))
  exact RT (.tuple #[.pointer none, vI 179]) [0] (.inl ⟨fun h => lQ h.cN, rfl, rfl⟩)
 refine gK 2 [(20, vI (X.cB))] [(1, a_ 2 b2)] ?_
 refine gL [] (d9 X.cB 1099511627776) ?_
 rintro _ _ ⟨rfl, rfl⟩
 refine gK 3 [(24, .bool (!(decide ((0 ≤ X.cB ∧ X.cB ≤ 1099511627776)))))] [] ?_
 refine ai.fM 24 ((0 ≤ X.cB ∧ X.cB ≤ 1099511627776)) (fun _ => by kernel_rfl) (fun yc => ?_) (fun yc => ?_)
 ·refine gK 11 [(35, .bool true)] [] ?_
  refine NN ?_
  refine CT ?_
  refine SR ?_
  refine gK 2 [(4, .pointer none), (5, vI 179)] [] ?_
  refine NN (af.ret (aj.ar ?_))
  exact RT (.tuple #[.pointer none, vI 179]) [0] (.inl ⟨fun h => yc h.cB, rfl, rfl⟩)
 refine gK 2 [(26, vI (X.cH))] [(1, a_ 2 b2)] ?_
 refine gL [] (d9 X.cH 1024) ?_
 rintro _ _ ⟨rfl, rfl⟩
 refine gK 3 [(30, .bool (!(decide ((0 ≤ X.cH ∧ X.cH ≤ 1024)))))] [] ?_
 refine ai.fM 30 ((0 ≤ X.cH ∧ X.cH ≤ 1024)) (fun _ => by kernel_rfl) (fun kz => ?_) (fun kz => ?_)
 ·refine gK 5 [(35, .bool true)] [] ?_
  refine NN ?_
  refine CT ?_
  refine SR ?_
  refine gK 2 [(4, .pointer none), (5, vI 179)] [] ?_
  refine NN (af.ret (aj.ar ?_))
  exact RT (.tuple #[.pointer none, vI 179]) [0] (.inl ⟨fun h => kz h.cH, rfl, rfl⟩)
 refine gK 2 [(32, .agg #[vI (X.cS), vI (X.cZ)])] [(1, A_ 2 b2 2)] ?_
 refine gL [] (fT X.cS X.cZ) ?_
 rintro _ _ ⟨rfl, rfl⟩
 refine gK 2 [(35, .bool (!(decide (cR X.cS X.cZ))))] [] ?_
 refine NN ?_
 refine af.cr (p := cR X.cS X.cZ) (fun _ => by kernel_rfl) (fun jZ => ?_) (fun jZ => ?_)
 ·refine SR ?_
  refine gK 2 [(4, .pointer none), (5, vI 179)] [] ?_
  refine NN (af.ret (aj.ar ?_))
  exact RT (.tuple #[.pointer none, vI 179]) [0] (.inl ⟨fun h => jZ h.now, rfl, rfl⟩)
 have hcap : oV X := ⟨lQ, yc, kz, jZ⟩
 refine af.skip (NX (af.seq (SR ?_)))
 refine gK 1 [(36, .agg #[.slice A (ns.length) (c)])] [(0, a_ 1 b1)] ?_
 refine gL [] (I9 A c ns Y hG hl (fun i hi => ⟨Nat.le_trans (hd i hi).1 (by decide), (hd i hi).2⟩) hwf hnm) ?_
 rintro _ _ ⟨rfl, rfl⟩
 refine gK 1 [(38, .bool (!(decide (((if bU ns then 0 else 140) : Int) = (0 : Int)))))] [] ?_
 refine NN ?_
 refine af.cr (p := ((if bU ns then 0 else 140) : Int) = (0 : Int)) (fun _ => by kernel_rfl) (fun tG => ?_) (fun tG => ?_)
 ·have PG : ¬ bU ns := fun h => tG (if_pos h)
  refine SR ?_
  refine gK 2 [(4, .pointer none), (5, vI 140)] [] ?_
  refine NN (af.ret (aj.ar ?_))
  exact RT (.tuple #[.pointer none, vI 140]) [0] (.inr (.inl ⟨hcap, PG, rfl, rfl⟩))
 have hok : bU ns := Classical.byContradiction (fun h => by rw [if_neg h] at tG; exact absurd tG (by decide))
 refine af.skip (NX (af.seq ?_))
 refine af.oU (S := [Az b2 X]) [0, 2, 3] [.two 1 4, .one 5, .one 6, .one 7] [2] (by kernel_rfl) (by kernel_rfl) rfl (by kernel_rfl) ?_
 refine fS.reads (rs := []) (fr' := [(2, vP b1), (39, .agg #[vI (X.cN), vI (X.cB), vI (X.cH), vI (X.cS), vI (X.cZ)]), (42, vI (X.cH))]) (aq := [b2 = b2, b2 = b2, b2 = b2, b2 = b2, b2 = b2, b2 = b2]) [0, 2, 3] [⟨[.at 0, .at 0, .at 0, .at 0, .at 0], none, none, none, none⟩, o_, ⟨[.at 0], none, none, none, none⟩] [2, 39, 42] (fun _ => by kernel_rfl) ⟨rfl, rfl, rfl, rfl, rfl, rfl, trivial⟩ ?_
 refine fS.pair (ι := Nat × Nat) (Mb := Nat) (Mc := Nat) (GJ := fun (m3 : Nat) => (J1 b1 X ++ [(40, .map (some m3)), (42, vI (X.cH))])) (hpi := fun (m3 : Nat) => [.abs R, vL b1 A ns c, Az b2 X, .abs (aH Tryz.prog 3 m3 (fun _ => none) 0)]) (GK := fun (t5 : Nat) => (J1 b1 X ++ [(43, vP t5)])) (GL := fun (t5 : Nat) => [.abs (aZ 156 t5 (min (max X.cH 0) 1024) 0 []), .abs R, vL b1 A ns c, Az b2 X]) (fr' := fun ((m3, t4) : Nat × Nat) => [(2, vP b1), (39, .agg #[vI (X.cN), vI (X.cB), vI (X.cH), vI (X.cS), vI (X.cZ)]), (40, .map (some m3)), (43, vP t4)]) (hp' := fun ((m3, t4) : Nat × Nat) => [.abs (aZ 156 t4 (min (max X.cH 0) 1024) 0 []), .abs R, vL b1 A ns c, Az b2 X, .abs (aH Tryz.prog 3 m3 (fun _ => none) 0)]) [2] [3] [3] rfl rfl rfl rfl ?_ ?_ ?_ ?_ rfl (fun _ => by kernel_rfl) rfl (fun _ => by kernel_rfl) rfl (fun _ => by kernel_rfl) ?_
 ·refine ai.lM (d := (some 40)) (t := 80) (fun _ => by kernel_rfl) Tryz.prog rfl 3 (fun m3 => ?_)
  refine NL ?_
  exact MD m3 [2, 39, 40, 42] [0, 1, 2, 3]
 ·rintro m3
  show ai _ _ _ _ _ (J1 b1 X ++ [(40, .map (some m3)), (42, vI (X.cH))]) [.abs R, vL b1 A ns c, Az b2 X, .abs (aH Tryz.prog 3 m3 (fun _ => none) 0)] _
  refine gL [] (BX X.cH) ?_
  rintro _ _ ⟨t4, rfl, rfl⟩
  refine NL ?_
  exact MD (m3, t4) [2, 39, 40, 43] [0, 1, 2, 3, 4]
 ·refine gL [] (BX X.cH) ?_
  rintro _ _ ⟨t5, rfl, rfl⟩
  refine NL ?_
  exact MD t5 [2, 39, 43] [0, 1, 2, 3]
 ·rintro t5
  show ai _ _ _ _ _ (J1 b1 X ++ [(43, vP t5)]) [.abs (aZ 156 t5 (min (max X.cH 0) 1024) 0 []), .abs R, vL b1 A ns c, Az b2 X] _
  refine ai.lM (d := (some 40)) (t := 80) (fun _ => by kernel_rfl) Tryz.prog rfl 3 (fun m6 => ?_)
  refine NL ?_
  exact MD (m6, t5) [2, 39, 40, 43] [0, 1, 2, 3, 4]
 rintro ⟨m3, t4⟩
 refine fS.cut (ι := Unit) (fr' := fun (_ : Unit) => [(2, vP b1), (44, .agg #[vI (X.cN), vI (X.cB), vI (X.cH), vI (X.cS), vI (X.cZ), .map (some m3), vP t4, vI 0, vI 0, vI 0])]) (hp' := fun (_ : Unit) => [.abs (aZ 156 t4 (min (max X.cH 0) 1024) 0 []), .abs R, vL b1 A ns c, Az b2 X, .abs (aH Tryz.prog 3 m3 (fun _ => none) 0)]) [3] rfl rfl ?_ rfl (fun _ => by kernel_rfl) ?_
 ·refine gK 1 [(44, .agg #[vI (X.cN), vI (X.cB), vI (X.cH), vI (X.cS), vI (X.cZ), .map (some m3), vP t4, vI 0, vI 0, vI 0])] [] ?_
  refine NL ?_
  exact MD () [2, 44] [0, 1, 2, 3, 4]
 rintro _
 refine fS.cut (ι := Nat) (fr' := fun (b7 : Nat) => [(2, vP b1), (45, vP b7)]) (hp' := fun (b7 : Nat) => [.abs (aZ 156 t4 (min (max X.cH 0) 1024) 0 []), .abs R, vL b1 A ns c, Az b2 X, .abs (aH Tryz.prog 3 m3 (fun _ => none) 0), pF b7 m3 t4 { X with last := 0, ah := 0, used := 0 }]) [3] rfl rfl ?_ rfl (fun _ => by kernel_rfl) ?_
 ·refine gN 1 (fun b7 => [(45, vP b7)]) (fun _ => []) (fun _ => []) (fun b7 => pF b7 m3 t4 { X with last := 0, ah := 0, used := 0 }) (fun b7 => ?_)
  refine NL ?_
  exact MD b7 [2, 45] [0, 1, 2, 3, 4, 5]
 rintro b7
 refine fS.last rfl rfl ?_
 refine gK 1 [(6, vP b7)] [] ?_
 refine NL (aj.np (NX (af.seq (SR ?_))))
 obtain ⟨L, QG⟩ : ∃ L : HL, L = ⟨fun _ => 0, fun _ => 0, fun _ => none, fun _ => 0⟩ := ⟨_, rfl⟩
 refine ai.mem (fun w hS => hS.Eg (aQ (fC X).O L) (wK X L).1) ?_
 refine ai.mem (fun w hS => hS.Eg (aW (fC X).O L) (wK X L).2.1) ?_
 refine ai.mem (fun w hS => hS.Eg (bh (fC X).O L) (wK X L).2.2) ?_
 have hc : min (max X.cH 0) 1024 = X.cH := by have := hcap.cH; omega
 refine ai.mem (aL := [.abs (aZ 156 t4 (fC X).X.cH (fC X).ay (aK L (fC X).us)), .abs R, .blk b1 [.slice A (ns.length) (c)] 24, .blk b2 [vI (X.cN), vI (X.cB), vI (X.cH), vI (X.cS), vI (X.cZ)] 28, .abs (aH Tryz.prog 3 m3 (aP (aK L (fC X).idx)) ((fC X).idx.length)), .blk b7 [vI ((fC X).X.cN), vI ((fC X).X.cB), vI ((fC X).X.cH), vI ((fC X).X.cS), vI ((fC X).X.cZ), .map (some m3), vP t4, vI ((fC X).X.last), vI ((fC X).X.ah), vI ((fC X).X.used)] 86, .abs (ak (aQ ((fC X).O) L)), .abs (ak (aW ((fC X).O) L)), .abs (ak (bh ((fC X).O) L))]) (fun w hS => by rw [hc, ← BS] at hS; exact hS) ?_
 refine gK 4 [(47, .slice A (ns.length) (c)), (48, vI ↑ns.length), (49, vI 0)] [(1, a_ 2 b1)] ?_
 refine NN (af.block ?_)
 refine af.loop (ι := Nat × aI × HL) (fun ((k, S, L) : Nat × aI × HL) => (k ≤ ns.length) ∧ (j5 X ns k S)) (fun ((k, S, L) : Nat × aI × HL) => ns.length - k) (fun ((k, S, L) : Nat × aI × HL) => [(2, vP b1), (6, vP b7), (47, .slice A (ns.length) (c)), (48, vI ↑ns.length), (49, vI ↑k)]) (fun ((k, S, L) : Nat × aI × HL) => (tq b1 A ns c b7 m3 t4 S L R)) (0, (fC X), L) (idx := [2, 6, 47, 48, 49]) (pk := [2, 5, 4, 0, 6, 7, 8, 1]) (show (0 ≤ ns.length) ∧ (j5 X ns 0 ((fC X))) from ⟨Nat.zero_le _, G0 hcap⟩) (fun _ => by kernel_rfl) rfl (by kernel_rfl) ?_
 rintro ⟨k, S, L⟩ ⟨hk, hB⟩
 show af _ _ _ _ [(2, vP b1), (6, vP b7), (47, .slice A (ns.length) (c)), (48, vI ↑ns.length), (49, vI ↑k)] (tq b1 A ns c b7 m3 t4 S L R) _
 refine SR ?_
 refine gK 1 [(50, .bool (decide ((((k : Nat) : Int) : Int) < (((ns.length : Nat) : Int) : Int))))] [] ?_
 refine NN (af.seq ?_)
 refine af.bB (p := (((k : Nat) : Int) : Int) < (((ns.length : Nat) : Int) : Int)) (fun _ => by kernel_rfl) (fun h50 => ?_) (fun h50 => ?_)
 ·have hk2 : k < ns.length := by omega
  have hdk := hd k hk2
  have hds := Ax (fun i hi => (hd i hi).1) hk
  have Ja := hok.ids k hk2
  have hni := hB.new hok hk2
  have ni : (Lit.int .i64 (nd ns k).id).wf = true := WalkArith.wf_i64 (by omega)
  have hkk := (hok.node k hk2).kind
  have cF : S.X.used = (p8 ns k : Int) := by rw [hB.cap]
  have hil := hB.inv.len
  refine af.skip (NX (af.seq (af.block (SR ?_))))
  refine gN 4 (fun b8 => [(8, vP b8)]) (fun b8 => [(0, p_ ⟨[], some k, none, some ⟨(av A), au A, none⟩, none⟩ [((k : Nat) : Int) = ((k : Nat) : Int), k < ns.length, (⟨(av A), au A, none⟩ : Addr).spot = none, (A : Option Addr) = some ⟨(av A), au A, none⟩] ⟨rfl, by omega, rfl, aC.hd hG (i := k) (by omega), trivial⟩), (1, p_ ⟨[.old (vI ((nd ns k).id)), .old (vI ((nd ns k).kind)), .old (vI ((nd ns k).mode)), .old (vI ((nd ns k).uid)), .old (vI ((nd ns k).gid)), .old (vI ((nd ns k).sec)), .old (vI ((nd ns k).nano)), .old (.slice (Y.dA k) ((nd ns k).data.length) ((Y.dC k))), .old (.string (nd ns k).target), .old (.slice (Y.eA k) ((nd ns k).ah.length) ((Y.eC k)))], none, none, none, none⟩ [(Rd β ⟨(av A), au A + k * 10 + 9, none⟩ (.slice (Y.eA k) ((nd ns k).ah.length) ((Y.eC k)))), (Rd β ⟨(av A), au A + k * 10 + 8, none⟩ (.string (nd ns k).target)), (Rd β ⟨(av A), au A + k * 10 + 7, none⟩ (.slice (Y.dA k) ((nd ns k).data.length) ((Y.dC k)))), (Rd β ⟨(av A), au A + k * 10 + 6, none⟩ (vI ((nd ns k).nano))), (Rd β ⟨(av A), au A + k * 10 + 5, none⟩ (vI ((nd ns k).sec))), (Rd β ⟨(av A), au A + k * 10 + 4, none⟩ (vI ((nd ns k).gid))), (Rd β ⟨(av A), au A + k * 10 + 3, none⟩ (vI ((nd ns k).uid))), (Rd β ⟨(av A), au A + k * 10 + 2, none⟩ (vI ((nd ns k).mode))), (Rd β ⟨(av A), au A + k * 10 + 1, none⟩ (vI ((nd ns k).kind))), (Rd β ⟨(av A), au A + k * 10, none⟩ (vI ((nd ns k).id)))] ⟨aC.rd hG (i := k) (by omega) (j := 9) rfl, aC.rd hG (i := k) (by omega) (j := 8) rfl, aC.rd hG (i := k) (by omega) (j := 7) rfl, aC.rd hG (i := k) (by omega) (j := 6) rfl, aC.rd hG (i := k) (by omega) (j := 5) rfl, aC.rd hG (i := k) (by omega) (j := 4) rfl, aC.rd hG (i := k) (by omega) (j := 3) rfl, aC.rd hG (i := k) (by omega) (j := 2) rfl, aC.rd hG (i := k) (by omega) (j := 1) rfl, aC.rd hG (i := k) (by omega) (j := 0) rfl, trivial⟩), (3, A_ 8 b8 10)]) (fun _ => []) (fun b8 => .blk b8 [vI ((nd ns k).id), vI ((nd ns k).kind), vI ((nd ns k).mode), vI ((nd ns k).uid), vI ((nd ns k).gid), vI ((nd ns k).sec), vI ((nd ns k).nano), .slice (Y.dA k) ((nd ns k).data.length) ((Y.dC k)), .string (nd ns k).target, .slice (Y.eA k) ((nd ns k).ah.length) ((Y.eC k))] 70) (fun b8 => ?_)
  refine NS ?_
  refine gN 13 (fun b9 => [(9, vP b9)]) (fun b9 => [(1, a_ 8 b8), (3, a_ 8 b8), (5, a_ 8 b8), (7, a_ 8 b8), (9, A_ 8 b8 2), (12, A_ 9 b9 9)]) (fun _ => []) (fun b9 => .blk b9 [vI ((nd ns k).id), vI ((nd ns k).mode), vI ((nd ns k).uid), vI ((nd ns k).gid), vI ((nd ns k).sec), vI ((nd ns k).nano), vI 0, vI 0, .bool false] 88) (fun b9 => ?_)
  refine NN (af.seq (SR ?_))
  refine gK 2 [(65, vI ((nd ns k).kind))] [(1, a_ 8 b8)] ?_
  refine NN (af.block (SR ?_))
  refine gK 2 [(77, .bool (decide (((nd ns k).kind : Int) = (1 : Int))))] [] ?_
  refine NN ?_
  refine af.bB (p := ((nd ns k).kind : Int) = (1 : Int)) (fun _ => by kernel_rfl) (fun hk1 => ?_) (fun hk1 => ?_)
  ·refine af.bZ (S := [pF b7 m3 t4 S.X, nZ b8 ns k Y, uH b9 ns k]) [0, 1, 2, 3, 4, 5, 6, 7, 8, 9, 10, 11, 12, 13] 9 [1, 8, 9] (by kernel_rfl) (by kernel_rfl) rfl (by kernel_rfl) ?_
   refine aJ.reads (r := 0) (l := [9, 10, 11, 12, 13]) (fr' := (yw b1 b7 b8 A ns c k ++ [(82, .map (some m3)), (84, vI ((nd ns k).id)), (85, .agg #[vI ((nd ns k).id), vI ((nd ns k).mode), vI ((nd ns k).uid), vI ((nd ns k).gid), vI ((nd ns k).sec), vI ((nd ns k).nano), vI 0, vI 0, .bool false]), (87, .slice (Y.dA k) ((nd ns k).data.length) ((Y.dC k)))])) (aq := [b8 = b8, b9 = b9, b9 = b9, b9 = b9, b9 = b9, b9 = b9, b9 = b9, b9 = b9, b9 = b9, b9 = b9, b8 = b8, b7 = b7]) [0, 1, 2, 3, 4, 5, 6, 7, 8] [o_, o_, o_, ⟨[.at 0], none, none, none, none⟩, o_, ⟨[.at 1], none, none, none, none⟩, ⟨[.at 2, .at 2, .at 2, .at 2, .at 2, .at 2, .at 2, .at 2, .at 2], none, none, none, none⟩, o_, ⟨[.at 1], none, none, none, none⟩] [2, 6, 8, 47, 48, 49, 82, 84, 85, 87] (fun _ => by kernel_rfl) ⟨rfl, rfl, rfl, rfl, rfl, rfl, rfl, rfl, rfl, rfl, rfl, rfl, trivial⟩ rfl rfl ?_
   refine mL [2, 9, 10] [] (vJ (Y.dA k) (Y.dC k) (nd ns k).data (hG.data k (by omega)) (by have := (hd k (by omega)).1; omega)) ?_ (by rintro _ _ ⟨uI, c11, rfl, rfl⟩; rfl)
   rintro _ _ ⟨uI, c11, rfl, rfl⟩
   refine aJ.cut (ι := Unit) (fr' := fun (_ : Unit) => (yw b1 b7 b8 A ns c k ++ [(82, .map (some m3)), (84, vI ((nd ns k).id)), (89, .agg #[vI ((nd ns k).id), vI ((nd ns k).mode), vI ((nd ns k).uid), vI ((nd ns k).gid), vI ((nd ns k).sec), vI ((nd ns k).nano), vI 0, vI 0, .bool false, .slice uI ((nd ns k).data.length) (c11)])])) (hp' := fun (_ : Unit) => ([.abs (aF 5 1 uI ((nd ns k).data.length) c11 (bL (nd ns k).data))] ++ tq b1 A ns c b7 m3 t4 S L R ++ [nZ b8 ns k Y, uH b9 ns k])) [2, 9, 10] rfl rfl ?_ rfl (fun _ => by kernel_rfl) ?_
   ·refine gK 1 [(89, .agg #[vI ((nd ns k).id), vI ((nd ns k).mode), vI ((nd ns k).uid), vI ((nd ns k).gid), vI ((nd ns k).sec), vI ((nd ns k).nano), vI 0, vI 0, .bool false, .slice uI ((nd ns k).data.length) (c11)])] [] ?_
    refine NL ?_
    exact MD () [2, 6, 8, 47, 48, 49, 82, 84, 89] [0, 1, 2, 3, 4, 5, 6, 7, 8, 9, 10]
   rintro _
   refine mN [2, 9, 10] (fun b12 => [(90, vP b12)]) (fun _ => []) (fun b12 => .blk b12 [vI ((nd ns k).id), vI ((nd ns k).mode), vI ((nd ns k).uid), vI ((nd ns k).gid), vI ((nd ns k).sec), vI ((nd ns k).nano), vI 0, vI 0, .bool false, .slice uI ((nd ns k).data.length) (c11)] 92) (fun b12 => ?_)
   refine aJ.cut (ι := Unit) (fr' := fun (_ : Unit) => (yw b1 b7 b8 A ns c k ++ [(82, .map (some m3)), (84, vI ((nd ns k).id)), (91, .iface 89 (vP b12))])) (hp' := fun (_ : Unit) => ([.abs (aF 5 1 uI ((nd ns k).data.length) c11 (bL (nd ns k).data))] ++ tq b1 A ns c b7 m3 t4 S L R ++ [nZ b8 ns k Y, uH b9 ns k, .blk b12 [vI ((nd ns k).id), vI ((nd ns k).mode), vI ((nd ns k).uid), vI ((nd ns k).gid), vI ((nd ns k).sec), vI ((nd ns k).nano), vI 0, vI 0, .bool false, .slice uI ((nd ns k).data.length) (c11)] 92])) [2, 9, 10] rfl rfl ?_ rfl (fun _ => by kernel_rfl) ?_
   ·refine gK 1 [(91, .iface 89 (vP b12))] [] ?_
    refine NL ?_
    exact MD () [2, 6, 8, 47, 48, 49, 82, 84, 91] [0, 1, 2, 3, 4, 5, 6, 7, 8, 9, 10, 11]
   rintro _
   refine aJ.last rfl rfl ?_
   obtain ⟨L2, hL2⟩ : ∃ L2 : HL, L2 = L.put (ef (nd ns k)) b12 0 uI c11 := ⟨_, rfl⟩
   have hfr := hB.fresh hok (by omega)
   refine ai.mem (aL := [.abs (ak (aQ ((bn S (nd ns k)).O) L2)), .abs (aF 5 1 uI ((nd ns k).data.length) c11 (bL (nd ns k).data)), .blk b1 [.slice A (ns.length) (c)] 24, .blk b7 [vI (S.X.cN), vI (S.X.cB), vI (S.X.cH), vI (S.X.cS), vI (S.X.cZ), .map (some m3), vP t4, vI (S.X.last), vI (S.X.ah), vI (S.X.used)] 86, .abs (aH Tryz.prog 3 m3 (aP (aK L S.idx)) S.idx.length), .abs (aZ 156 t4 S.X.cH S.ay (aK L S.us)), .abs (ak (aW S.O L)), .abs (ak (bh S.O L)), .abs R, .blk b8 [vI ((nd ns k).id), vI ((nd ns k).kind), vI ((nd ns k).mode), vI ((nd ns k).uid), vI ((nd ns k).gid), vI ((nd ns k).sec), vI ((nd ns k).nano), .slice (Y.dA k) ((nd ns k).data.length) ((Y.dC k)), .string (nd ns k).target, .slice (Y.eA k) ((nd ns k).ah.length) ((Y.eC k))] 70, .blk b9 [vI ((nd ns k).id), vI ((nd ns k).mode), vI ((nd ns k).uid), vI ((nd ns k).gid), vI ((nd ns k).sec), vI ((nd ns k).nano), vI 0, vI 0, .bool false] 88]) (fun w hS => hS.qA hL2 hfr (o := (nY (nd ns k))) (i := 5) (j := 11) (ix := [0, 1, 2, 3, 4, 6, 7, 8, 9, 10]) rfl rfl (by kernel_rfl) rfl (by show (nd ns k).kind ≠ 0; rw [hk1]; decide) ((eE (L := L2) (k := (ef (nd ns k))) (o := (nY (nd ns k))) hk1).trans (by rw [show L2.dA (ef (nd ns k)) = uI by rw [hL2]; exact if_pos rfl, show L2.dC (ef (nd ns k)) = c11 by rw [hL2]; exact if_pos rfl]; rfl)) (by show kN (nd ns k).kind = _; rw [hk1]; rfl)) ?_
   refine ai.mem (aL := [.abs (ak (aQ ((bn S (nd ns k)).O) L2)), .abs (aF 5 1 uI ((nd ns k).data.length) c11 (bL (nd ns k).data)), .blk b1 [.slice A (ns.length) (c)] 24, .blk b7 [vI (S.X.cN), vI (S.X.cB), vI (S.X.cH), vI (S.X.cS), vI (S.X.cZ), .map (some m3), vP t4, vI (S.X.last), vI (S.X.ah), vI (S.X.used)] 86, .abs (aH Tryz.prog 3 m3 (aP (aK L S.idx)) S.idx.length), .abs (aZ 156 t4 S.X.cH S.ay (aK L S.us)), .abs (ak (aW S.O L)), .abs (ak (bh ((bn S (nd ns k)).O) L2)), .abs R, .blk b8 [vI ((nd ns k).id), vI ((nd ns k).kind), vI ((nd ns k).mode), vI ((nd ns k).uid), vI ((nd ns k).gid), vI ((nd ns k).sec), vI ((nd ns k).nano), .slice (Y.dA k) ((nd ns k).data.length) ((Y.dC k)), .string (nd ns k).target, .slice (Y.eA k) ((nd ns k).ah.length) ((Y.eC k))] 70, .blk b9 [vI ((nd ns k).id), vI ((nd ns k).mode), vI ((nd ns k).uid), vI ((nd ns k).gid), vI ((nd ns k).sec), vI ((nd ns k).nano), vI 0, vI 0, .bool false] 88]) (fun w hS => hS.rG hL2 hfr (o := (nY (nd ns k))) (i := 7) rfl (by show ¬ (nd ns k).kind = 2; rw [hk1]; decide)) ?_
   refine ai.mem (aL := [pD ((bn S (nd ns k)).O) L2, pO ((bn S (nd ns k)).O) L2, vL b1 A ns c, pF b7 m3 t4 S.X, pI m3 L S.idx, jN t4 S L, pE ((bn S (nd ns k)).O) L2, .abs R, nZ b8 ns k Y, uH b9 ns k]) (fun w hS => hS.Np hL2 (o := (nY (nd ns k))) (i := 6) (j := 1) (ix := [0, 2, 3, 4, 5, 7, 8, 9, 10]) rfl rfl (by kernel_rfl) rfl hk1) ?_
   refine ai.mem (aL := [.abs (ak (aW ((bn S (nd ns k)).O) L2)), .abs (ak (aQ ((bn S (nd ns k)).O) L2)), .blk b1 [.slice A (ns.length) (c)] 24, .blk b7 [vI (S.X.cN), vI (S.X.cB), vI (S.X.cH), vI (S.X.cS), vI (S.X.cZ), .map (some m3), vP t4, vI (S.X.last), vI (S.X.ah), vI (S.X.used)] 86, .abs (aH Tryz.prog 3 m3 (aP (aK L2 S.idx)) S.idx.length), .abs (aZ 156 t4 S.X.cH S.ay (aK L2 S.us)), .abs (ak (bh ((bn S (nd ns k)).O) L2)), .abs R, .blk b8 [vI ((nd ns k).id), vI ((nd ns k).kind), vI ((nd ns k).mode), vI ((nd ns k).uid), vI ((nd ns k).gid), vI ((nd ns k).sec), vI ((nd ns k).nano), .slice (Y.dA k) ((nd ns k).data.length) ((Y.dC k)), .string (nd ns k).target, .slice (Y.eA k) ((nd ns k).ah.length) ((Y.eC k))] 70, .blk b9 [vI ((nd ns k).id), vI ((nd ns k).mode), vI ((nd ns k).uid), vI ((nd ns k).gid), vI ((nd ns k).sec), vI ((nd ns k).nano), vI 0, vI 0, .bool false] 88]) (fun w hS => by rw [fo hL2 hfr.idx, fo hL2 hfr.us]; exact hS) ?_
   have CU : cG L2 (mH (nd ns k)) = .iface 89 (vP b12) := by unfold mH; rw [lX hL2, hk1]; rfl
   refine ai.j7 4 (d := none) (t := 80) (K := 3) (E := 84) (b := m3) (n := S.idx.length) (f := (aP (aK L2 S.idx))) (x := (.tmp 82)) (ix := (.tmp 84)) (y := (.tmp 91)) (key := vI ((nd ns k).id)) (u := .iface 89 (vP b12)) (kl := (.int .i64 (nd ns k).id)) (n' := (S.idx.length + 1)) (f' := (aP (aK L2 (ins (nd ns k).id (mH (nd ns k)) S.idx)))) (fun _ => by kernel_rfl) (by kernel_rfl) (fun _ => by kernel_rfl) (fun _ => by kernel_rfl) (fun _ => by kernel_rfl) dz Tryz.underlying80 (by unfold maxLen; omega) (gX ni) (by rw [dO, hni]; rfl) (by rw [← CU]; exact o4 hni) ?_
   refine NL (aj.np (aj.aT (NX (SR ?_))))
   refine gC 6 [] [(2, a_ 8 b8), (5, a_ 3 b7)] [(3, [(7, vI ((nd ns k).id))])] ?_
   refine NN ?_
   refine af.bZ (S := [pF b7 m3 t4 { S.X with last := (nd ns k).id }, nZ b8 ns k Y]) [0, 1, 2, 3, 4, 5, 6, 7, 8, 9, 10] 10 [3, 8] (by kernel_rfl) (by kernel_rfl) rfl (by kernel_rfl) ?_
   refine aJ.reads (r := 0) (l := [10]) (fr' := (Mq b1 b7 A ns c k S)) (aq := [(Value.int .i64 (IntKind.wrap .i64 (S.X.used + (((nd ns k).data.length : Nat) : Int)))) = (vI (S.X.used + (((nd ns k).data.length : Nat) : Int))), b8 = b8, b7 = b7]) [0, 1, 2, 3, 4, 5, 6, 7, 8, 9] [o_, o_, o_, ⟨[.at 0], none, none, none, none⟩, o_, ⟨[.at 1], none, none, none, none⟩, o_, ⟨[], none, none, none, some (vI (S.X.used + (((nd ns k).data.length : Nat) : Int)))⟩, o_, o_] [2, 6, 47, 48, 49, 118, 120] (fun _ => by kernel_rfl) ⟨bJ (by omega) (by omega) (by omega), rfl, rfl, trivial⟩ rfl rfl ?_
   refine aJ.last rfl rfl ?_
   refine gC 1 [] [(0, a_ 3 b7)] [(3, [(9, vI (S.X.used + (((nd ns k).data.length : Nat) : Int)))])] ?_
   refine NL (aj.np (aj.aT (NX (af.region ?_))))
   refine gK 2 [(49, vI ↑(k + 1))] [(0, p_ ⟨[], none, none, none, some (vI ↑(k + 1))⟩ [(Value.int .i64 (IntKind.wrap .i64 (((k : Nat) : Int) + 1))) = (vI ↑(k + 1))] ⟨bJ (by omega) (by omega) (by omega), trivial⟩)] ?_
   refine NL ?_
   refine aj.mem (aL := [.abs (ak (aW ((bn S (nd ns k)).O) L2)), .abs (ak (aQ ((bn S (nd ns k)).O) L2)), .blk b1 [.slice A (ns.length) (c)] 24, .blk b7 [vI ((bn S (nd ns k)).X.cN), vI ((bn S (nd ns k)).X.cB), vI ((bn S (nd ns k)).X.cH), vI ((bn S (nd ns k)).X.cS), vI ((bn S (nd ns k)).X.cZ), .map (some m3), vP t4, vI ((bn S (nd ns k)).X.last), vI ((bn S (nd ns k)).X.ah), vI ((bn S (nd ns k)).X.used)] 86, .abs (aH Tryz.prog 3 m3 (aP (aK L2 (bn S (nd ns k)).idx)) ((bn S (nd ns k)).idx.length)), .abs (aZ 156 t4 (bn S (nd ns k)).X.cH (bn S (nd ns k)).ay (aK L2 (bn S (nd ns k)).us)), .abs (ak (bh ((bn S (nd ns k)).O) L2)), .abs R, .blk b8 [vI ((nd ns k).id), vI ((nd ns k).kind), vI ((nd ns k).mode), vI ((nd ns k).uid), vI ((nd ns k).gid), vI ((nd ns k).sec), vI ((nd ns k).nano), .slice (Y.dA k) ((nd ns k).data.length) ((Y.dC k)), .string (nd ns k).target, .slice (Y.eA k) ((nd ns k).ah.length) ((Y.eC k))] 70, .blk b9 [vI ((nd ns k).id), vI ((nd ns k).mode), vI ((nd ns k).uid), vI ((nd ns k).gid), vI ((nd ns k).sec), vI ((nd ns k).nano), vI 0, vI 0, .bool false] 88]) (fun w hS => by rw [show (bn S (nd ns k)).idx.length = S.idx.length + 1 from gq _ _ _]; exact hS) ?_
   exact aj.turn ((k + 1), (bn S (nd ns k)), L2) (idx := [2, 6, 47, 48, 49]) (pk := [2, 3, 4, 5, 1, 0, 6, 7]) (show (((k + 1)) ≤ ns.length) ∧ (j5 X ns ((k + 1)) ((bn S (nd ns k)))) from ⟨by omega, uG hok (fun i hi => (hd i hi).1) (by omega) hB⟩) (by show ns.length - ((k + 1)) < ns.length - k; omega) (fun _ => by kernel_rfl) rfl (by kernel_rfl)
  refine SR ?_
  refine gK 2 [(92, .bool (decide (((nd ns k).kind : Int) = (3 : Int))))] [] ?_
  refine NN ?_
  refine af.bB (p := ((nd ns k).kind : Int) = (3 : Int)) (fun _ => by kernel_rfl) (fun hk3 => ?_) (fun hk3 => ?_)
  ·refine af.bZ (S := [pF b7 m3 t4 S.X, nZ b8 ns k Y, uH b9 ns k]) [0, 1, 2, 3, 4, 5, 6, 7, 8, 9, 10, 11, 12] 10 [1, 8, 9] (by kernel_rfl) (by kernel_rfl) rfl (by kernel_rfl) ?_
   refine aJ.reads (r := 0) (l := [10, 11, 12]) (fr' := (yw b1 b7 b8 A ns c k ++ [(97, .map (some m3)), (99, vI ((nd ns k).id)), (103, .agg #[vI ((nd ns k).id), vI ((nd ns k).mode), vI ((nd ns k).uid), vI ((nd ns k).gid), vI ((nd ns k).sec), vI ((nd ns k).nano), vI 0, vI 0, .bool false, .string (nd ns k).target])])) (aq := [b8 = b8, b9 = b9, b9 = b9, b9 = b9, b9 = b9, b9 = b9, b9 = b9, b9 = b9, b9 = b9, b9 = b9, b8 = b8, b7 = b7]) [0, 1, 2, 3, 4, 5, 6, 7, 8, 9] [o_, o_, o_, ⟨[.at 0], none, none, none, none⟩, o_, ⟨[.at 1], none, none, none, none⟩, ⟨[.at 2, .at 2, .at 2, .at 2, .at 2, .at 2, .at 2, .at 2, .at 2], none, none, none, none⟩, o_, ⟨[.at 1], none, none, none, none⟩, o_] [2, 6, 8, 47, 48, 49, 97, 99, 103] (fun _ => by kernel_rfl) ⟨rfl, rfl, rfl, rfl, rfl, rfl, rfl, rfl, rfl, rfl, rfl, rfl, trivial⟩ rfl rfl ?_
   refine mN [1, 8, 9] (fun b13 => [(104, vP b13)]) (fun _ => []) (fun b13 => .blk b13 [vI ((nd ns k).id), vI ((nd ns k).mode), vI ((nd ns k).uid), vI ((nd ns k).gid), vI ((nd ns k).sec), vI ((nd ns k).nano), vI 0, vI 0, .bool false, .string (nd ns k).target] 95) (fun b13 => ?_)
   refine aJ.cut (ι := Unit) (fr' := fun (_ : Unit) => (yw b1 b7 b8 A ns c k ++ [(97, .map (some m3)), (99, vI ((nd ns k).id)), (105, .iface 93 (vP b13))])) (hp' := fun (_ : Unit) => (tq b1 A ns c b7 m3 t4 S L R ++ [nZ b8 ns k Y, uH b9 ns k, .blk b13 [vI ((nd ns k).id), vI ((nd ns k).mode), vI ((nd ns k).uid), vI ((nd ns k).gid), vI ((nd ns k).sec), vI ((nd ns k).nano), vI 0, vI 0, .bool false, .string (nd ns k).target] 95])) [1, 8, 9] rfl rfl ?_ rfl (fun _ => by kernel_rfl) ?_
   ·refine gK 1 [(105, .iface 93 (vP b13))] [] ?_
    refine NL ?_
    exact MD () [2, 6, 8, 47, 48, 49, 97, 99, 105] [0, 1, 2, 3, 4, 5, 6, 7, 8, 9, 10]
   rintro _
   refine aJ.last rfl rfl ?_
   obtain ⟨L2, hL2⟩ : ∃ L2 : HL, L2 = L.put (ef (nd ns k)) b13 0 none 0 := ⟨_, rfl⟩
   have hfr := hB.fresh hok (by omega)
   refine ai.mem (aL := [.abs (ak (aQ ((bn S (nd ns k)).O) L2)), .blk b1 [.slice A (ns.length) (c)] 24, .blk b7 [vI (S.X.cN), vI (S.X.cB), vI (S.X.cH), vI (S.X.cS), vI (S.X.cZ), .map (some m3), vP t4, vI (S.X.last), vI (S.X.ah), vI (S.X.used)] 86, .abs (aH Tryz.prog 3 m3 (aP (aK L S.idx)) S.idx.length), .abs (aZ 156 t4 S.X.cH S.ay (aK L S.us)), .abs (ak (aW S.O L)), .abs (ak (bh S.O L)), .abs R, .blk b8 [vI ((nd ns k).id), vI ((nd ns k).kind), vI ((nd ns k).mode), vI ((nd ns k).uid), vI ((nd ns k).gid), vI ((nd ns k).sec), vI ((nd ns k).nano), .slice (Y.dA k) ((nd ns k).data.length) ((Y.dC k)), .string (nd ns k).target, .slice (Y.eA k) ((nd ns k).ah.length) ((Y.eC k))] 70, .blk b9 [vI ((nd ns k).id), vI ((nd ns k).mode), vI ((nd ns k).uid), vI ((nd ns k).gid), vI ((nd ns k).sec), vI ((nd ns k).nano), vI 0, vI 0, .bool false] 88]) (fun w hS => hS.qA hL2 hfr (o := (nY (nd ns k))) (i := 4) (j := 10) (ix := [0, 1, 2, 3, 5, 6, 7, 8, 9]) rfl rfl (by kernel_rfl) rfl (by show (nd ns k).kind ≠ 0; rw [hk3]; decide) ((tO (L := L2) (k := (ef (nd ns k))) (o := (nY (nd ns k))) hk3).trans (by rfl)) (by show kN (nd ns k).kind = _; rw [hk3]; rfl)) ?_
   refine ai.mem (aL := [.abs (ak (aQ ((bn S (nd ns k)).O) L2)), .blk b1 [.slice A (ns.length) (c)] 24, .blk b7 [vI (S.X.cN), vI (S.X.cB), vI (S.X.cH), vI (S.X.cS), vI (S.X.cZ), .map (some m3), vP t4, vI (S.X.last), vI (S.X.ah), vI (S.X.used)] 86, .abs (aH Tryz.prog 3 m3 (aP (aK L S.idx)) S.idx.length), .abs (aZ 156 t4 S.X.cH S.ay (aK L S.us)), .abs (ak (aW S.O L)), .abs (ak (bh ((bn S (nd ns k)).O) L2)), .abs R, .blk b8 [vI ((nd ns k).id), vI ((nd ns k).kind), vI ((nd ns k).mode), vI ((nd ns k).uid), vI ((nd ns k).gid), vI ((nd ns k).sec), vI ((nd ns k).nano), .slice (Y.dA k) ((nd ns k).data.length) ((Y.dC k)), .string (nd ns k).target, .slice (Y.eA k) ((nd ns k).ah.length) ((Y.eC k))] 70, .blk b9 [vI ((nd ns k).id), vI ((nd ns k).mode), vI ((nd ns k).uid), vI ((nd ns k).gid), vI ((nd ns k).sec), vI ((nd ns k).nano), vI 0, vI 0, .bool false] 88]) (fun w hS => hS.rG hL2 hfr (o := (nY (nd ns k))) (i := 6) rfl (by show ¬ (nd ns k).kind = 2; rw [hk3]; decide)) ?_
   refine ai.mem (aL := [.abs (ak (aQ ((bn S (nd ns k)).O) L2)), .blk b1 [.slice A (ns.length) (c)] 24, .blk b7 [vI (S.X.cN), vI (S.X.cB), vI (S.X.cH), vI (S.X.cS), vI (S.X.cZ), .map (some m3), vP t4, vI (S.X.last), vI (S.X.ah), vI (S.X.used)] 86, .abs (aH Tryz.prog 3 m3 (aP (aK L S.idx)) S.idx.length), .abs (aZ 156 t4 S.X.cH S.ay (aK L S.us)), .abs (ak (aW ((bn S (nd ns k)).O) L2)), .abs (ak (bh ((bn S (nd ns k)).O) L2)), .abs R, .blk b8 [vI ((nd ns k).id), vI ((nd ns k).kind), vI ((nd ns k).mode), vI ((nd ns k).uid), vI ((nd ns k).gid), vI ((nd ns k).sec), vI ((nd ns k).nano), .slice (Y.dA k) ((nd ns k).data.length) ((Y.dC k)), .string (nd ns k).target, .slice (Y.eA k) ((nd ns k).ah.length) ((Y.eC k))] 70, .blk b9 [vI ((nd ns k).id), vI ((nd ns k).mode), vI ((nd ns k).uid), vI ((nd ns k).gid), vI ((nd ns k).sec), vI ((nd ns k).nano), vI 0, vI 0, .bool false] 88]) (fun w hS => hS.xD hL2 (o := (nY (nd ns k))) (i := 5) rfl (by show ¬ (nd ns k).kind = 1; rw [hk3]; decide)) ?_
   refine ai.mem (aL := [.abs (ak (aQ ((bn S (nd ns k)).O) L2)), .blk b1 [.slice A (ns.length) (c)] 24, .blk b7 [vI (S.X.cN), vI (S.X.cB), vI (S.X.cH), vI (S.X.cS), vI (S.X.cZ), .map (some m3), vP t4, vI (S.X.last), vI (S.X.ah), vI (S.X.used)] 86, .abs (aH Tryz.prog 3 m3 (aP (aK L2 S.idx)) S.idx.length), .abs (aZ 156 t4 S.X.cH S.ay (aK L2 S.us)), .abs (ak (aW ((bn S (nd ns k)).O) L2)), .abs (ak (bh ((bn S (nd ns k)).O) L2)), .abs R, .blk b8 [vI ((nd ns k).id), vI ((nd ns k).kind), vI ((nd ns k).mode), vI ((nd ns k).uid), vI ((nd ns k).gid), vI ((nd ns k).sec), vI ((nd ns k).nano), .slice (Y.dA k) ((nd ns k).data.length) ((Y.dC k)), .string (nd ns k).target, .slice (Y.eA k) ((nd ns k).ah.length) ((Y.eC k))] 70, .blk b9 [vI ((nd ns k).id), vI ((nd ns k).mode), vI ((nd ns k).uid), vI ((nd ns k).gid), vI ((nd ns k).sec), vI ((nd ns k).nano), vI 0, vI 0, .bool false] 88]) (fun w hS => by rw [fo hL2 hfr.idx, fo hL2 hfr.us]; exact hS) ?_
   have CU : cG L2 (mH (nd ns k)) = .iface 93 (vP b13) := by unfold mH; rw [lX hL2, hk3]; rfl
   refine ai.j7 3 (d := none) (t := 80) (K := 3) (E := 84) (b := m3) (n := S.idx.length) (f := (aP (aK L2 S.idx))) (x := (.tmp 97)) (ix := (.tmp 99)) (y := (.tmp 105)) (key := vI ((nd ns k).id)) (u := .iface 93 (vP b13)) (kl := (.int .i64 (nd ns k).id)) (n' := (S.idx.length + 1)) (f' := (aP (aK L2 (ins (nd ns k).id (mH (nd ns k)) S.idx)))) (fun _ => by kernel_rfl) (by kernel_rfl) (fun _ => by kernel_rfl) (fun _ => by kernel_rfl) (fun _ => by kernel_rfl) dz Tryz.underlying80 (by unfold maxLen; omega) (gX ni) (by rw [dO, hni]; rfl) (by rw [← CU]; exact o4 hni) ?_
   refine NL (aj.np (aj.aT (NX (SR ?_))))
   refine gC 6 [] [(2, a_ 8 b8), (5, a_ 2 b7)] [(2, [(7, vI ((nd ns k).id))])] ?_
   refine NN ?_
   refine af.bZ (S := [pF b7 m3 t4 { S.X with last := (nd ns k).id }, nZ b8 ns k Y]) [0, 1, 2, 3, 4, 5, 6, 7, 8, 9, 10] 10 [2, 8] (by kernel_rfl) (by kernel_rfl) rfl (by kernel_rfl) ?_
   refine aJ.reads (r := 0) (l := [10]) (fr' := (Mq b1 b7 A ns c k S)) (aq := [(Value.int .i64 (IntKind.wrap .i64 (S.X.used + (((nd ns k).data.length : Nat) : Int)))) = (vI (S.X.used + (((nd ns k).data.length : Nat) : Int))), b8 = b8, b7 = b7]) [0, 1, 2, 3, 4, 5, 6, 7, 8, 9] [o_, o_, o_, ⟨[.at 0], none, none, none, none⟩, o_, ⟨[.at 1], none, none, none, none⟩, o_, ⟨[], none, none, none, some (vI (S.X.used + (((nd ns k).data.length : Nat) : Int)))⟩, o_, o_] [2, 6, 47, 48, 49, 118, 120] (fun _ => by kernel_rfl) ⟨bJ (by omega) (by omega) (by omega), rfl, rfl, trivial⟩ rfl rfl ?_
   refine aJ.last rfl rfl ?_
   refine gC 1 [] [(0, a_ 2 b7)] [(2, [(9, vI (S.X.used + (((nd ns k).data.length : Nat) : Int)))])] ?_
   refine NL (aj.np (aj.aT (NX (af.region ?_))))
   refine gK 2 [(49, vI ↑(k + 1))] [(0, p_ ⟨[], none, none, none, some (vI ↑(k + 1))⟩ [(Value.int .i64 (IntKind.wrap .i64 (((k : Nat) : Int) + 1))) = (vI ↑(k + 1))] ⟨bJ (by omega) (by omega) (by omega), trivial⟩)] ?_
   refine NL ?_
   refine aj.mem (aL := [.abs (ak (aQ ((bn S (nd ns k)).O) L2)), .blk b1 [.slice A (ns.length) (c)] 24, .blk b7 [vI ((bn S (nd ns k)).X.cN), vI ((bn S (nd ns k)).X.cB), vI ((bn S (nd ns k)).X.cH), vI ((bn S (nd ns k)).X.cS), vI ((bn S (nd ns k)).X.cZ), .map (some m3), vP t4, vI ((bn S (nd ns k)).X.last), vI ((bn S (nd ns k)).X.ah), vI ((bn S (nd ns k)).X.used)] 86, .abs (aH Tryz.prog 3 m3 (aP (aK L2 (bn S (nd ns k)).idx)) ((bn S (nd ns k)).idx.length)), .abs (aZ 156 t4 (bn S (nd ns k)).X.cH (bn S (nd ns k)).ay (aK L2 (bn S (nd ns k)).us)), .abs (ak (aW ((bn S (nd ns k)).O) L2)), .abs (ak (bh ((bn S (nd ns k)).O) L2)), .abs R, .blk b8 [vI ((nd ns k).id), vI ((nd ns k).kind), vI ((nd ns k).mode), vI ((nd ns k).uid), vI ((nd ns k).gid), vI ((nd ns k).sec), vI ((nd ns k).nano), .slice (Y.dA k) ((nd ns k).data.length) ((Y.dC k)), .string (nd ns k).target, .slice (Y.eA k) ((nd ns k).ah.length) ((Y.eC k))] 70, .blk b9 [vI ((nd ns k).id), vI ((nd ns k).mode), vI ((nd ns k).uid), vI ((nd ns k).gid), vI ((nd ns k).sec), vI ((nd ns k).nano), vI 0, vI 0, .bool false] 88]) (fun w hS => by rw [show (bn S (nd ns k)).idx.length = S.idx.length + 1 from gq _ _ _]; exact hS) ?_
   exact aj.turn ((k + 1), (bn S (nd ns k)), L2) (idx := [2, 6, 47, 48, 49]) (pk := [1, 2, 3, 4, 0, 5, 6, 7]) (show (((k + 1)) ≤ ns.length) ∧ (j5 X ns ((k + 1)) ((bn S (nd ns k)))) from ⟨by omega, uG hok (fun i hi => (hd i hi).1) (by omega) hB⟩) (by show ns.length - ((k + 1)) < ns.length - k; omega) (fun _ => by kernel_rfl) rfl (by kernel_rfl)
  have kx : (nd ns k).kind = 2 := by omega
  refine af.bZ (S := [pF b7 m3 t4 S.X, nZ b8 ns k Y, uH b9 ns k]) [0, 1, 2, 3, 4, 5, 6, 7, 8, 9, 10, 11] 7 [1, 8, 9] (by kernel_rfl) (by kernel_rfl) rfl (by kernel_rfl) ?_
  refine aJ.reads (r := 0) (l := [7, 8, 9, 10, 11]) (fr' := (yw b1 b7 b8 A ns c k ++ Mr m3 ns k)) (aq := [b9 = b9, b9 = b9, b9 = b9, b9 = b9, b9 = b9, b9 = b9, b9 = b9, b9 = b9, b9 = b9, b8 = b8, b7 = b7]) [0, 1, 2, 3, 4, 5, 6] [o_, o_, o_, ⟨[.at 0], none, none, none, none⟩, o_, ⟨[.at 1], none, none, none, none⟩, ⟨[.at 2, .at 2, .at 2, .at 2, .at 2, .at 2, .at 2, .at 2, .at 2], none, none, none, none⟩] [2, 6, 8, 47, 48, 49, 69, 71, 72] (fun _ => by kernel_rfl) ⟨rfl, rfl, rfl, rfl, rfl, rfl, rfl, rfl, rfl, rfl, rfl, trivial⟩ rfl rfl ?_
  refine aJ.cut (ι := Nat) (fr' := fun (m14 : Nat) => (yw b1 b7 b8 A ns c k ++ Mr m3 ns k ++ [(73, .map (some m14))])) (hp' := fun (m14 : Nat) => (tq b1 A ns c b7 m3 t4 S L R ++ [nZ b8 ns k Y, uH b9 ns k, .abs (aH Tryz.prog 9 m14 (fun _ => none) 0)])) [1, 8, 9] rfl rfl ?_ rfl (fun _ => by kernel_rfl) ?_
  ·refine ai.lM (d := (some 73)) (t := 97) (fun _ => by kernel_rfl) Tryz.prog rfl 9 (fun m14 => ?_)
   refine NL ?_
   exact MD m14 [2, 6, 8, 47, 48, 49, 69, 71, 72, 73] [0, 1, 2, 3, 4, 5, 6, 7, 8, 9, 10]
  rintro m14
  refine aJ.cut (ι := Unit) (fr' := fun (_ : Unit) => (yw b1 b7 b8 A ns c k ++ [(69, .map (some m3)), (71, vI ((nd ns k).id)), (74, .agg #[vI ((nd ns k).id), vI ((nd ns k).mode), vI ((nd ns k).uid), vI ((nd ns k).gid), vI ((nd ns k).sec), vI ((nd ns k).nano), vI 0, vI 0, .bool false, .map (some m14), .pointer none])])) (hp' := fun (_ : Unit) => (tq b1 A ns c b7 m3 t4 S L R ++ [nZ b8 ns k Y, uH b9 ns k, .abs (aH Tryz.prog 9 m14 (fun _ => none) 0)])) [1, 8, 9] rfl rfl ?_ rfl (fun _ => by kernel_rfl) ?_
  ·refine gK 1 [(74, .agg #[vI ((nd ns k).id), vI ((nd ns k).mode), vI ((nd ns k).uid), vI ((nd ns k).gid), vI ((nd ns k).sec), vI ((nd ns k).nano), vI 0, vI 0, .bool false, .map (some m14), .pointer none])] [] ?_
   refine NL ?_
   exact MD () [2, 6, 8, 47, 48, 49, 69, 71, 74] [0, 1, 2, 3, 4, 5, 6, 7, 8, 9, 10]
  rintro _
  refine mN [1, 8, 9] (fun b15 => [(75, vP b15)]) (fun _ => []) (fun b15 => .blk b15 [vI ((nd ns k).id), vI ((nd ns k).mode), vI ((nd ns k).uid), vI ((nd ns k).gid), vI ((nd ns k).sec), vI ((nd ns k).nano), vI 0, vI 0, .bool false, .map (some m14), .pointer none] 99) (fun b15 => ?_)
  refine aJ.cut (ι := Unit) (fr' := fun (_ : Unit) => (yw b1 b7 b8 A ns c k ++ [(69, .map (some m3)), (71, vI ((nd ns k).id)), (76, .iface 96 (vP b15))])) (hp' := fun (_ : Unit) => (tq b1 A ns c b7 m3 t4 S L R ++ [nZ b8 ns k Y, uH b9 ns k, .abs (aH Tryz.prog 9 m14 (fun _ => none) 0), .blk b15 [vI ((nd ns k).id), vI ((nd ns k).mode), vI ((nd ns k).uid), vI ((nd ns k).gid), vI ((nd ns k).sec), vI ((nd ns k).nano), vI 0, vI 0, .bool false, .map (some m14), .pointer none] 99])) [1, 8, 9] rfl rfl ?_ rfl (fun _ => by kernel_rfl) ?_
  ·refine gK 1 [(76, .iface 96 (vP b15))] [] ?_
   refine NL ?_
   exact MD () [2, 6, 8, 47, 48, 49, 69, 71, 76] [0, 1, 2, 3, 4, 5, 6, 7, 8, 9, 10, 11]
  rintro _
  refine aJ.last rfl rfl ?_
  obtain ⟨L2, hL2⟩ : ∃ L2 : HL, L2 = L.put (ef (nd ns k)) b15 m14 none 0 := ⟨_, rfl⟩
  have hfr := hB.fresh hok (by omega)
  refine ai.mem (aL := [.abs (ak (aQ ((bn S (nd ns k)).O) L2)), .blk b1 [.slice A (ns.length) (c)] 24, .blk b7 [vI (S.X.cN), vI (S.X.cB), vI (S.X.cH), vI (S.X.cS), vI (S.X.cZ), .map (some m3), vP t4, vI (S.X.last), vI (S.X.ah), vI (S.X.used)] 86, .abs (aH Tryz.prog 3 m3 (aP (aK L S.idx)) S.idx.length), .abs (aZ 156 t4 S.X.cH S.ay (aK L S.us)), .abs (ak (aW S.O L)), .abs (ak (bh S.O L)), .abs R, .blk b8 [vI ((nd ns k).id), vI ((nd ns k).kind), vI ((nd ns k).mode), vI ((nd ns k).uid), vI ((nd ns k).gid), vI ((nd ns k).sec), vI ((nd ns k).nano), .slice (Y.dA k) ((nd ns k).data.length) ((Y.dC k)), .string (nd ns k).target, .slice (Y.eA k) ((nd ns k).ah.length) ((Y.eC k))] 70, .blk b9 [vI ((nd ns k).id), vI ((nd ns k).mode), vI ((nd ns k).uid), vI ((nd ns k).gid), vI ((nd ns k).sec), vI ((nd ns k).nano), vI 0, vI 0, .bool false] 88, .abs (aH Tryz.prog 9 m14 (fun _ => none) 0)]) (fun w hS => hS.qA hL2 hfr (o := (nY (nd ns k))) (i := 4) (j := 11) (ix := [0, 1, 2, 3, 5, 6, 7, 8, 9, 10]) rfl rfl (by kernel_rfl) rfl (by show (nd ns k).kind ≠ 0; rw [kx]; decide) ((gV (L := L2) (k := (ef (nd ns k))) (o := (nY (nd ns k))) kx).trans (by rw [Cd hL2]; rfl)) (by show kN (nd ns k).kind = _; rw [kx]; rfl)) ?_
  refine ai.mem (aL := [pE ((bn S (nd ns k)).O) L2, pO ((bn S (nd ns k)).O) L2, vL b1 A ns c, pF b7 m3 t4 S.X, pI m3 L S.idx, jN t4 S L, pD S.O L, .abs R, nZ b8 ns k Y, uH b9 ns k]) (fun w hS => hS.JB hL2 hfr (o := (nY (nd ns k))) (i := 6) (j := 10) (ix := [0, 1, 2, 3, 4, 5, 7, 8, 9]) rfl rfl (by kernel_rfl) rfl kx rfl) ?_
  refine ai.mem (aL := [.abs (ak (bh ((bn S (nd ns k)).O) L2)), .abs (ak (aQ ((bn S (nd ns k)).O) L2)), .blk b1 [.slice A (ns.length) (c)] 24, .blk b7 [vI (S.X.cN), vI (S.X.cB), vI (S.X.cH), vI (S.X.cS), vI (S.X.cZ), .map (some m3), vP t4, vI (S.X.last), vI (S.X.ah), vI (S.X.used)] 86, .abs (aH Tryz.prog 3 m3 (aP (aK L S.idx)) S.idx.length), .abs (aZ 156 t4 S.X.cH S.ay (aK L S.us)), .abs (ak (aW ((bn S (nd ns k)).O) L2)), .abs R, .blk b8 [vI ((nd ns k).id), vI ((nd ns k).kind), vI ((nd ns k).mode), vI ((nd ns k).uid), vI ((nd ns k).gid), vI ((nd ns k).sec), vI ((nd ns k).nano), .slice (Y.dA k) ((nd ns k).data.length) ((Y.dC k)), .string (nd ns k).target, .slice (Y.eA k) ((nd ns k).ah.length) ((Y.eC k))] 70, .blk b9 [vI ((nd ns k).id), vI ((nd ns k).mode), vI ((nd ns k).uid), vI ((nd ns k).gid), vI ((nd ns k).sec), vI ((nd ns k).nano), vI 0, vI 0, .bool false] 88]) (fun w hS => hS.xD hL2 (o := (nY (nd ns k))) (i := 6) rfl (by show ¬ (nd ns k).kind = 1; rw [kx]; decide)) ?_
  refine ai.mem (aL := [.abs (ak (bh ((bn S (nd ns k)).O) L2)), .abs (ak (aQ ((bn S (nd ns k)).O) L2)), .blk b1 [.slice A (ns.length) (c)] 24, .blk b7 [vI (S.X.cN), vI (S.X.cB), vI (S.X.cH), vI (S.X.cS), vI (S.X.cZ), .map (some m3), vP t4, vI (S.X.last), vI (S.X.ah), vI (S.X.used)] 86, .abs (aH Tryz.prog 3 m3 (aP (aK L2 S.idx)) S.idx.length), .abs (aZ 156 t4 S.X.cH S.ay (aK L2 S.us)), .abs (ak (aW ((bn S (nd ns k)).O) L2)), .abs R, .blk b8 [vI ((nd ns k).id), vI ((nd ns k).kind), vI ((nd ns k).mode), vI ((nd ns k).uid), vI ((nd ns k).gid), vI ((nd ns k).sec), vI ((nd ns k).nano), .slice (Y.dA k) ((nd ns k).data.length) ((Y.dC k)), .string (nd ns k).target, .slice (Y.eA k) ((nd ns k).ah.length) ((Y.eC k))] 70, .blk b9 [vI ((nd ns k).id), vI ((nd ns k).mode), vI ((nd ns k).uid), vI ((nd ns k).gid), vI ((nd ns k).sec), vI ((nd ns k).nano), vI 0, vI 0, .bool false] 88]) (fun w hS => by rw [fo hL2 hfr.idx, fo hL2 hfr.us]; exact hS) ?_
  have CU : cG L2 (mH (nd ns k)) = .iface 96 (vP b15) := by unfold mH; rw [lX hL2, kx]; rfl
  refine ai.j7 4 (d := none) (t := 80) (K := 3) (E := 84) (b := m3) (n := S.idx.length) (f := (aP (aK L2 S.idx))) (x := (.tmp 69)) (ix := (.tmp 71)) (y := (.tmp 76)) (key := vI ((nd ns k).id)) (u := .iface 96 (vP b15)) (kl := (.int .i64 (nd ns k).id)) (n' := (S.idx.length + 1)) (f' := (aP (aK L2 (ins (nd ns k).id (mH (nd ns k)) S.idx)))) (fun _ => by kernel_rfl) (by kernel_rfl) (fun _ => by kernel_rfl) (fun _ => by kernel_rfl) (fun _ => by kernel_rfl) dz Tryz.underlying80 (by unfold maxLen; omega) (gX ni) (by rw [dO, hni]; rfl) (by rw [← CU]; exact o4 hni) ?_
  refine NL (aj.np (aj.aT (NX (SR ?_))))
  refine gC 6 [] [(2, a_ 8 b8), (5, a_ 3 b7)] [(3, [(7, vI ((nd ns k).id))])] ?_
  refine NN ?_
  refine af.bZ (S := [pF b7 m3 t4 { S.X with last := (nd ns k).id }, nZ b8 ns k Y]) [0, 1, 2, 3, 4, 5, 6, 7, 8, 9, 10] 10 [3, 8] (by kernel_rfl) (by kernel_rfl) rfl (by kernel_rfl) ?_
  refine aJ.reads (r := 0) (l := [10]) (fr' := (Mq b1 b7 A ns c k S)) (aq := [(Value.int .i64 (IntKind.wrap .i64 (S.X.used + (((nd ns k).data.length : Nat) : Int)))) = (vI (S.X.used + (((nd ns k).data.length : Nat) : Int))), b8 = b8, b7 = b7]) [0, 1, 2, 3, 4, 5, 6, 7, 8, 9] [o_, o_, o_, ⟨[.at 0], none, none, none, none⟩, o_, ⟨[.at 1], none, none, none, none⟩, o_, ⟨[], none, none, none, some (vI (S.X.used + (((nd ns k).data.length : Nat) : Int)))⟩, o_, o_] [2, 6, 47, 48, 49, 118, 120] (fun _ => by kernel_rfl) ⟨bJ (by omega) (by omega) (by omega), rfl, rfl, trivial⟩ rfl rfl ?_
  refine aJ.last rfl rfl ?_
  refine gC 1 [] [(0, a_ 3 b7)] [(3, [(9, vI (S.X.used + (((nd ns k).data.length : Nat) : Int)))])] ?_
  refine NL (aj.np (aj.aT (NX (af.region ?_))))
  refine gK 2 [(49, vI ↑(k + 1))] [(0, p_ ⟨[], none, none, none, some (vI ↑(k + 1))⟩ [(Value.int .i64 (IntKind.wrap .i64 (((k : Nat) : Int) + 1))) = (vI ↑(k + 1))] ⟨bJ (by omega) (by omega) (by omega), trivial⟩)] ?_
  refine NL ?_
  refine aj.mem (aL := [.abs (ak (bh ((bn S (nd ns k)).O) L2)), .abs (ak (aQ ((bn S (nd ns k)).O) L2)), .blk b1 [.slice A (ns.length) (c)] 24, .blk b7 [vI ((bn S (nd ns k)).X.cN), vI ((bn S (nd ns k)).X.cB), vI ((bn S (nd ns k)).X.cH), vI ((bn S (nd ns k)).X.cS), vI ((bn S (nd ns k)).X.cZ), .map (some m3), vP t4, vI ((bn S (nd ns k)).X.last), vI ((bn S (nd ns k)).X.ah), vI ((bn S (nd ns k)).X.used)] 86, .abs (aH Tryz.prog 3 m3 (aP (aK L2 (bn S (nd ns k)).idx)) ((bn S (nd ns k)).idx.length)), .abs (aZ 156 t4 (bn S (nd ns k)).X.cH (bn S (nd ns k)).ay (aK L2 (bn S (nd ns k)).us)), .abs (ak (aW ((bn S (nd ns k)).O) L2)), .abs R, .blk b8 [vI ((nd ns k).id), vI ((nd ns k).kind), vI ((nd ns k).mode), vI ((nd ns k).uid), vI ((nd ns k).gid), vI ((nd ns k).sec), vI ((nd ns k).nano), .slice (Y.dA k) ((nd ns k).data.length) ((Y.dC k)), .string (nd ns k).target, .slice (Y.eA k) ((nd ns k).ah.length) ((Y.eC k))] 70, .blk b9 [vI ((nd ns k).id), vI ((nd ns k).mode), vI ((nd ns k).uid), vI ((nd ns k).gid), vI ((nd ns k).sec), vI ((nd ns k).nano), vI 0, vI 0, .bool false] 88]) (fun w hS => by rw [show (bn S (nd ns k)).idx.length = S.idx.length + 1 from gq _ _ _]; exact hS) ?_
  exact aj.turn ((k + 1), (bn S (nd ns k)), L2) (idx := [2, 6, 47, 48, 49]) (pk := [2, 3, 4, 5, 1, 6, 0, 7]) (show (((k + 1)) ≤ ns.length) ∧ (j5 X ns ((k + 1)) ((bn S (nd ns k)))) from ⟨by omega, uG hok (fun i hi => (hd i hi).1) (by omega) hB⟩) (by show ns.length - ((k + 1)) < ns.length - k; omega) (fun _ => by kernel_rfl) rfl (by kernel_rfl)
 refine af.exit (aj.bg (aj.bg (aj.cA (NX (af.seq (SR ?_))))))
 refine gK 4 [(123, .slice A (ns.length) (c)), (124, vI ↑ns.length), (125, vI 0)] [(1, a_ 0 b1)] ?_
 refine NN (af.block ?_)
 refine af.loop (ι := Nat × aI) (fun ((i, S1) : Nat × aI) => (i ≤ ns.length) ∧ (eu X ns i 0 S1)) (fun ((i, S1) : Nat × aI) => ns.length - i) (fun ((i, S1) : Nat × aI) => [(6, vP b7), (123, .slice A (ns.length) (c)), (124, vI ↑ns.length), (125, vI ↑i)]) (fun ((i, S1) : Nat × aI) => (tq b1 A ns c b7 m3 t4 S1 L R)) (0, S) (idx := [6, 123, 124, 125]) (pk := [0, 1, 2, 3, 4, 5, 6, 7]) (show (0 ≤ ns.length) ∧ (eu X ns 0 0 S) from ⟨Nat.zero_le _, by have h := hB; rw [show k = ns.length by omega] at h; exact h.ah⟩) (fun _ => by kernel_rfl) rfl (by kernel_rfl) ?_
 rintro ⟨i, S1⟩ ⟨hi, hE⟩
 show af _ _ _ _ [(6, vP b7), (123, .slice A (ns.length) (c)), (124, vI ↑ns.length), (125, vI ↑i)] (tq b1 A ns c b7 m3 t4 S1 L R) _
 refine SR ?_
 refine gK 1 [(126, .bool (decide ((((i : Nat) : Int) : Int) < (((ns.length : Nat) : Int) : Int))))] [] ?_
 refine NN (af.seq ?_)
 refine af.bB (p := (((i : Nat) : Int) : Int) < (((ns.length : Nat) : Int) : Int)) (fun _ => by kernel_rfl) (fun OW => ?_) (fun OW => ?_)
 ·refine af.skip (NX (af.seq (af.block (SR ?_))))
  refine gN 4 (fun b16 => [(11, vP b16)]) (fun b16 => [(0, p_ ⟨[], some i, none, some ⟨(av A), au A, none⟩, none⟩ [((i : Nat) : Int) = ((i : Nat) : Int), i < ns.length, (⟨(av A), au A, none⟩ : Addr).spot = none, (A : Option Addr) = some ⟨(av A), au A, none⟩] ⟨rfl, by omega, rfl, aC.hd hG (i := i) (by omega), trivial⟩), (1, p_ ⟨[.old (vI ((nd ns i).id)), .old (vI ((nd ns i).kind)), .old (vI ((nd ns i).mode)), .old (vI ((nd ns i).uid)), .old (vI ((nd ns i).gid)), .old (vI ((nd ns i).sec)), .old (vI ((nd ns i).nano)), .old (.slice (Y.dA i) ((nd ns i).data.length) ((Y.dC i))), .old (.string (nd ns i).target), .old (.slice (Y.eA i) ((nd ns i).ah.length) ((Y.eC i)))], none, none, none, none⟩ [(Rd β ⟨(av A), au A + i * 10 + 9, none⟩ (.slice (Y.eA i) ((nd ns i).ah.length) ((Y.eC i)))), (Rd β ⟨(av A), au A + i * 10 + 8, none⟩ (.string (nd ns i).target)), (Rd β ⟨(av A), au A + i * 10 + 7, none⟩ (.slice (Y.dA i) ((nd ns i).data.length) ((Y.dC i)))), (Rd β ⟨(av A), au A + i * 10 + 6, none⟩ (vI ((nd ns i).nano))), (Rd β ⟨(av A), au A + i * 10 + 5, none⟩ (vI ((nd ns i).sec))), (Rd β ⟨(av A), au A + i * 10 + 4, none⟩ (vI ((nd ns i).gid))), (Rd β ⟨(av A), au A + i * 10 + 3, none⟩ (vI ((nd ns i).uid))), (Rd β ⟨(av A), au A + i * 10 + 2, none⟩ (vI ((nd ns i).mode))), (Rd β ⟨(av A), au A + i * 10 + 1, none⟩ (vI ((nd ns i).kind))), (Rd β ⟨(av A), au A + i * 10, none⟩ (vI ((nd ns i).id)))] ⟨aC.rd hG (i := i) (by omega) (j := 9) rfl, aC.rd hG (i := i) (by omega) (j := 8) rfl, aC.rd hG (i := i) (by omega) (j := 7) rfl, aC.rd hG (i := i) (by omega) (j := 6) rfl, aC.rd hG (i := i) (by omega) (j := 5) rfl, aC.rd hG (i := i) (by omega) (j := 4) rfl, aC.rd hG (i := i) (by omega) (j := 3) rfl, aC.rd hG (i := i) (by omega) (j := 2) rfl, aC.rd hG (i := i) (by omega) (j := 1) rfl, aC.rd hG (i := i) (by omega) (j := 0) rfl, trivial⟩), (3, A_ 8 b16 10)]) (fun _ => []) (fun b16 => .blk b16 [vI ((nd ns i).id), vI ((nd ns i).kind), vI ((nd ns i).mode), vI ((nd ns i).uid), vI ((nd ns i).gid), vI ((nd ns i).sec), vI ((nd ns i).nano), .slice (Y.dA i) ((nd ns i).data.length) ((Y.dC i)), .string (nd ns i).target, .slice (Y.eA i) ((nd ns i).ah.length) ((Y.eC i))] 70) (fun b16 => ?_)
  refine NS ?_
  refine gK 4 [(130, .slice (Y.eA i) ((nd ns i).ah.length) ((Y.eC i))), (131, vI ↑((nd ns i).ah.length)), (132, vI 0)] [(1, a_ 8 b16)] ?_
  refine NN (af.block ?_)
  refine af.loop (ι := Nat × aI) (fun ((j, S2) : Nat × aI) => (j ≤ (nd ns i).ah.length) ∧ (eu X ns i j S2)) (fun ((j, S2) : Nat × aI) => (nd ns i).ah.length - j) (fun ((j, S2) : Nat × aI) => (N9 b7 b16 A ns c i Y j)) (fun ((j, S2) : Nat × aI) => ([nZ b16 ns i Y] ++ tq b1 A ns c b7 m3 t4 S2 L R)) (0, S1) (idx := [6, 11, 123, 124, 125, 130, 131, 132]) (pk := [8, 0, 1, 2, 3, 4, 5, 6, 7]) (show (0 ≤ (nd ns i).ah.length) ∧ (eu X ns i 0 S1) from ⟨Nat.zero_le _, hE⟩) (fun _ => by kernel_rfl) rfl (by kernel_rfl) ?_
  rintro ⟨j, S2⟩ ⟨hj, nL⟩
  show af _ _ _ _ (N9 b7 b16 A ns c i Y j) ([nZ b16 ns i Y] ++ tq b1 A ns c b7 m3 t4 S2 L R) _
  refine SR ?_
  refine gK 1 [(133, .bool (decide ((((j : Nat) : Int) : Int) < ((((nd ns i).ah.length : Nat) : Int) : Int))))] [] ?_
  refine NN (af.seq ?_)
  refine af.bB (p := (((j : Nat) : Int) : Int) < ((((nd ns i).ah.length : Nat) : Int) : Int)) (fun _ => by kernel_rfl) (fun OX => ?_) (fun OX => ?_)
  ·have hj2 : j < (nd ns i).ah.length := by omega
   have hi2 : i < ns.length := by omega
   have OY := nL.get hi2
   obtain ⟨hes, hno, hk2⟩ := nL.look hok hi2 hj2
   have Mt := rM hok hi2 hj2
   have CJ : TabM.get S2.idx (nd ns i).id = some ⟨(ef (nd ns i)), 2⟩ := by rw [OY]; unfold mH; rw [hk2]
   have hge : TabM.get S2.idx (ent ns i j).id = some (j4 ns (ent ns i j)) := by rw [← Mt.2]; exact nL.get Mt.1
   have Ja := hok.ids i hi2
   have hiw : (Lit.int .i64 (nd ns i).id).wf = true := WalkArith.wf_i64 (by omega)
   have PI : (Lit.int .i64 (ent ns i j).id).wf = true := WalkArith.wf_i64 (by have := hwf i hi2 j hj2; omega)
   have hld := nL.live hok hi2
   have hlt := nL.live hok Mt.1
   have hkd : (obj S2.O (ef (nd ns i))).kind = 2 := (nL.inv.kind hld).trans hk2
   have hkt : (obj S2.O (j4 ns (ent ns i j)).k).kind = (j4 ns (ent ns i j)).kind := nL.inv.kind hlt
   have h3 : (j4 ns (ent ns i j)).kind = 1 ∨ (j4 ns (ent ns i j)).kind = 2 ∨ (j4 ns (ent ns i j)).kind = 3 := (nL.inv.ob _ hlt).2.2
   have hlb : 0 ≤ (obj S2.O (j4 ns (ent ns i j)).k).links ∧ (obj S2.O (j4 ns (ent ns i j)).k).links ≤ 8192 := nL.inv.lb hlt
   have hel : (obj S2.O (ef (nd ns i))).ah.length ≤ 8192 := nL.inv.eS hld
   have hsz := hnm i hi2 j hj2
   have hde := hd i hi2
   have QH := nL.inv.hX
   refine af.skip (NX (af.seq (af.block (SR ?_))))
   refine gN 4 (fun b17 => [(13, vP b17)]) (fun b17 => [(0, p_ ⟨[], some j, none, some ⟨(av (Y.eA i)), au (Y.eA i), none⟩, none⟩ [((j : Nat) : Int) = ((j : Nat) : Int), j < (nd ns i).ah.length, (⟨(av (Y.eA i)), au (Y.eA i), none⟩ : Addr).spot = none, ((Y.eA i) : Option Addr) = some ⟨(av (Y.eA i)), au (Y.eA i), none⟩] ⟨rfl, by omega, rfl, cL.hd (hG.ah i (by omega)) (i := j) (by omega), trivial⟩), (1, p_ ⟨[.old (.string (en (nd ns i).ah j).name), .old (vI ((en (nd ns i).ah j).id))], none, none, none, none⟩ [(Rd β ⟨(av (Y.eA i)), au (Y.eA i) + j * 2 + 1, none⟩ (vI ((en (nd ns i).ah j).id))), (Rd β ⟨(av (Y.eA i)), au (Y.eA i) + j * 2, none⟩ (.string (en (nd ns i).ah j).name))] ⟨cL.rd (hG.ah i (by omega)) (i := j) (by omega) (j := 1) rfl, cL.rd (hG.ah i (by omega)) (i := j) (by omega) (j := 0) rfl, trivial⟩), (3, A_ 9 b17 2)]) (fun _ => []) (fun b17 => .blk b17 [.string (en (nd ns i).ah j).name, vI ((en (nd ns i).ah j).id)] 101) (fun b17 => ?_)
   refine NN (af.seq ?_)
   refine af.bZ (S := [pF b7 m3 t4 S2.X, pI m3 L S2.idx, nZ b16 ns i Y, .blk b17 [.string (en (nd ns i).ah j).name, vI ((en (nd ns i).ah j).id)] 101]) [0, 1, 2, 3, 4, 5, 6, 7, 8, 9, 10, 11, 12, 13, 14, 15, 16, 17] 17 [2, 3, 0, 9] (by kernel_rfl) (by kernel_rfl) rfl (by kernel_rfl) ?_
   refine aJ.reads (r := 11) (l := [6, 7, 8, 9, 10, 11, 12, 13, 14, 15, 16, 17]) (fr' := ([(6, vP b7), (11, vP b16), (13, vP b17)] ++ Ms A ns c i Y j ++ [(139, .map (some m3)), (141, vI ((nd ns i).id))])) (aq := [b16 = b16, b7 = b7]) [0, 1, 2, 3, 4, 5] [o_, o_, o_, ⟨[.at 0], none, none, none, none⟩, o_, ⟨[.at 2], none, none, none, none⟩] [6, 11, 13, 123, 124, 125, 130, 131, 132, 139, 141] (fun _ => by kernel_rfl) ⟨rfl, rfl, trivial⟩ rfl rfl ?_
   refine aJ.dN 1 (d := (some 142)) (t := 80) (K := 3) (E := 84) (b := m3) (cnt := S2.idx.length) (f := (aP (aK L S2.idx))) (x := (.tmp 139)) (ix := (.tmp 141)) (key := vI ((nd ns i).id)) (z := .nilIface) (kl := (.int .i64 (nd ns i).id)) (q := (some (cG L ⟨(ef (nd ns i)), 2⟩))) (by kernel_rfl) (by kernel_rfl) (fun _ => by kernel_rfl) (fun _ => by kernel_rfl) dz Tryz.underlying80 (fun _ => by kernel_rfl) (gX hiw) (by rw [dO, CJ]; rfl) (by kernel_rfl) ?_
   refine aJ.reads (r := 1) (l := [16, 17]) (fr' := ([(6, vP b7), (11, vP b16)] ++ Ms A ns c i Y j ++ [(143, vP (L.b (ef (nd ns i)))), (145, .string (en (nd ns i).ah j).name), (149, .map (some m3)), (151, vI ((en (nd ns i).ah j).id))])) (aq := [b17 = b17, b7 = b7, b17 = b17]) [7, 8, 9, 10, 11, 12, 13, 14, 15] [o_, o_, ⟨[.at 3], none, none, none, none⟩, o_, o_, o_, ⟨[.at 0], none, none, none, none⟩, o_, ⟨[.at 3], none, none, none, none⟩] [6, 11, 123, 124, 125, 130, 131, 132, 143, 145, 149, 151] (fun _ => by kernel_rfl) ⟨rfl, rfl, rfl, trivial⟩ rfl rfl ?_
   refine aJ.dN 1 (d := (some 152)) (t := 80) (K := 3) (E := 84) (b := m3) (cnt := S2.idx.length) (f := (aP (aK L S2.idx))) (x := (.tmp 149)) (ix := (.tmp 151)) (key := vI ((en (nd ns i).ah j).id)) (z := .nilIface) (kl := (.int .i64 (ent ns i j).id)) (q := (some (cG L (j4 ns (ent ns i j))))) (by kernel_rfl) (by kernel_rfl) (fun _ => by kernel_rfl) (fun _ => by kernel_rfl) dz Tryz.underlying80 (fun _ => by kernel_rfl) (gX PI) (by rw [dO, hge]; rfl) (by kernel_rfl) ?_
   refine aJ.last rfl rfl ?_
   refine gL [5, 7] (DU S2.O L (ef (nd ns i)) hkd (ent ns i j).name hsz hno (by omega) (j4 ns (ent ns i j)) hkt h3 (by omega)) ?_
   rintro _ _ ⟨rfl, rfl⟩
   refine NL (aj.np (NX (af.region ?_)))
   refine gC 8 [] [(3, a_ 4 b7), (4, p_ ⟨[], none, none, none, some (vI (S2.X.ah + 1))⟩ [(Value.int .i64 (IntKind.wrap .i64 (S2.X.ah + 1))) = (vI (S2.X.ah + 1))] ⟨bJ (by omega) (by omega) (by omega), trivial⟩), (7, a_ 4 b7)] [(4, [(8, vI (S2.X.ah + 1))])] ?_
   refine NL (aj.aT (NX (af.region ?_)))
   refine gK 2 [(132, vI ↑(j + 1))] [(0, p_ ⟨[], none, none, none, some (vI ↑(j + 1))⟩ [(Value.int .i64 (IntKind.wrap .i64 (((j : Nat) : Int) + 1))) = (vI ↑(j + 1))] ⟨bJ (by omega) (by omega) (by omega), trivial⟩)] ?_
   refine NL ?_
   refine aj.mem (aL := [.abs (ak (aQ ((ju ns S2 (nd ns i) (ent ns i j)).O) L)), .abs (ak (bh ((ju ns S2 (nd ns i) (ent ns i j)).O) L)), .blk b16 [vI ((nd ns i).id), vI ((nd ns i).kind), vI ((nd ns i).mode), vI ((nd ns i).uid), vI ((nd ns i).gid), vI ((nd ns i).sec), vI ((nd ns i).nano), .slice (Y.dA i) ((nd ns i).data.length) ((Y.dC i)), .string (nd ns i).target, .slice (Y.eA i) ((nd ns i).ah.length) ((Y.eC i))] 70, .blk b1 [.slice A (ns.length) (c)] 24, .blk b7 [vI ((ju ns S2 (nd ns i) (ent ns i j)).X.cN), vI ((ju ns S2 (nd ns i) (ent ns i j)).X.cB), vI ((ju ns S2 (nd ns i) (ent ns i j)).X.cH), vI ((ju ns S2 (nd ns i) (ent ns i j)).X.cS), vI ((ju ns S2 (nd ns i) (ent ns i j)).X.cZ), .map (some m3), vP t4, vI ((ju ns S2 (nd ns i) (ent ns i j)).X.last), vI ((ju ns S2 (nd ns i) (ent ns i j)).X.ah), vI ((ju ns S2 (nd ns i) (ent ns i j)).X.used)] 86, .abs (aH Tryz.prog 3 m3 (aP (aK L (ju ns S2 (nd ns i) (ent ns i j)).idx)) ((ju ns S2 (nd ns i) (ent ns i j)).idx.length)), .abs (aZ 156 t4 (ju ns S2 (nd ns i) (ent ns i j)).X.cH (ju ns S2 (nd ns i) (ent ns i j)).ay (aK L (ju ns S2 (nd ns i) (ent ns i j)).us)), .abs (ak (aW ((ju ns S2 (nd ns i) (ent ns i j)).O) L)), .abs R, .blk b17 [.string (en (nd ns i).ah j).name, vI ((en (nd ns i).ah j).id)] 101]) (fun w hS => by rw [show aW (ju ns S2 (nd ns i) (ent ns i j)).O L = aW S2.O L from KC]; exact hS) ?_
   exact aj.turn ((j + 1), (ju ns S2 (nd ns i) (ent ns i j))) (idx := [6, 11, 123, 124, 125, 130, 131, 132]) (pk := [2, 3, 4, 5, 6, 0, 7, 1, 8]) (show (((j + 1)) ≤ (nd ns i).ah.length) ∧ (eu X ns i ((j + 1)) ((ju ns S2 (nd ns i) (ent ns i j)))) from ⟨by omega, nL.step hok (by omega) (by omega)⟩) (by show (nd ns i).ah.length - ((j + 1)) < (nd ns i).ah.length - j; omega) (fun _ => by kernel_rfl) rfl (by kernel_rfl)
  refine af.exit (aj.bg (aj.bg (aj.cA (aj.aT (NX (af.region ?_))))))
  refine gK 2 [(125, vI ↑(i + 1))] [(0, p_ ⟨[], none, none, none, some (vI ↑(i + 1))⟩ [(Value.int .i64 (IntKind.wrap .i64 (((i : Nat) : Int) + 1))) = (vI ↑(i + 1))] ⟨bJ (by omega) (by omega) (by omega), trivial⟩)] ?_
  refine NL ?_
  exact aj.turn ((i + 1), S2) (idx := [6, 123, 124, 125]) (pk := [1, 2, 3, 4, 5, 6, 7, 8]) (show (((i + 1)) ≤ ns.length) ∧ (eu X ns ((i + 1)) 0 S2) from ⟨by omega, by have h := nL; rw [show j = (nd ns i).ah.length by omega] at h; exact h.next⟩) (by show ns.length - ((i + 1)) < ns.length - i; omega) (fun _ => by kernel_rfl) rfl (by kernel_rfl)
 refine af.exit (aj.bg (aj.bg (aj.cA (NX (SR ?_)))))
 refine gK 3 [(4, vP b7), (5, vI 0)] [] ?_
 refine NN (af.ret ?_)
 exact RT (.tuple #[vP b7, vI 0]) [1, 2, 3, 4, 5, 6, 7] (.inr (.inr ⟨hcap, hok, S1, b7, m3, t4, L, by have h := hE; rw [show i = ns.length by omega] at h; exact h, rfl, rfl⟩))
end
section
open Go.RowKit Go.Maps HeapM TabM
theorem CV {b : UInt8} (h0 : ¬ b = 0) (h1 : ¬ b = 47) (h2 : ¬ b = 46) : bE ⟨#[b]⟩ := by
  refine ⟨Nat.le_refl _, (by show 1 ≤ 255; decide), fun e => h2 ?_, fun e => ?_, fun j hj => ?_⟩
  ·injection e with e
   have e : [b] = [46] := congrArg Array.toList e
   injection e
  ·injection e with e
   have e : [b] = [46, 46] := congrArg Array.toList e
   injection e with _ e
   cases e
  have : j = 0 := by have hj : j < 1 := hj; omega
  subst this
  show ¬ b.toNat = 0 ∧ ¬ b.toNat = 47
  exact ⟨fun e => h0 (UInt8.toNat_inj.1 e), fun e => h1 (UInt8.toNat_inj.1 e)⟩
theorem uJ : cR 0 0 := ⟨by decide, by decide, by decide, by decide, by decide⟩
def Fb : aN := ⟨1, 2, 493, 0, 0, 0, 0, [], ⟨#[]⟩, [⟨⟨#[102]⟩, 2⟩]⟩
def Nq : aN := ⟨2, 1, 420, 0, 0, 0, 0, [], ⟨#[]⟩, []⟩
def nA : List aN := [Fb, Nq]
def Jd (room : Int) : FM := ⟨9, room, 9, 0, 0, 0, 0, 0⟩
theorem sJ {i : Nat} (h : i < nA.length) : i = 0 ∨ i = 1 := by
  have h : i < 2 := h
  omega
theorem Mu : bU nA := by
  refine ⟨by decide, fun i hi => ?_, fun i hi => ?_, fun i j hij hj => ?_, by decide, fun i hi j hj => ?_, by decide, fun z => ?_⟩
  ·rcases sJ hi with rfl | rfl
   ·exact ⟨by decide, by decide, by decide, by decide, uJ, fun _ => rfl, fun h => absurd rfl h, .inl ⟨by decide, rfl⟩⟩
   exact ⟨by decide, by decide, by decide, by decide, uJ, fun h => absurd rfl h, fun _ => rfl, .inl ⟨by decide, rfl⟩⟩
  ·rcases sJ hi with rfl | rfl <;> exact ⟨by decide, by decide⟩
  ·rcases sJ hj with rfl | rfl
   ·omega
   have : i = 0 := by omega
   subst this; decide
  ·rcases sJ hi with rfl | rfl
   ·have hj : j < 1 := hj
    have : j = 0 := by omega
    subst this
    exact ⟨by decide, CV (by decide) (by decide) (by decide), by show ¬ iU ⟨#[102]⟩ ⟨#[]⟩; unfold iU; decide +kernel⟩
   exact absurd hj (Nat.not_lt_zero j)
  have e : (dH nA nA.length).map (fP nA) = [] := by decide
  rw [e]
  exact ⟨0, rfl⟩
theorem Mv {β : Bs} {B : Option Addr} {e : Nat} (hR : dX β B (bV ⟨fun _ => none, fun i => if i = 0 then some ⟨e, 0, none⟩ else none, fun _ => 0, fun i => if i = 0 then 1 else 0⟩ nA)) (h1 : cL β (some ⟨e, 0, none⟩) Fb.ah) : aC β B nA ⟨fun _ => none, fun i => if i = 0 then some ⟨e, 0, none⟩ else none, fun _ => 0, fun i => if i = 0 then 1 else 0⟩ := by
  have hn : ∀ {A : Option Addr}, dX β A [] := fun j v hj => by simp at hj
  refine ⟨hR, fun i hi => ?_, fun i hi => ?_⟩
  ·rcases sJ hi with rfl | rfl <;> exact hn
  rcases sJ hi with rfl | rfl
  ·exact h1
  exact hn
theorem KD {room : Int} (h : 0 ≤ room ∧ room ≤ 1099511627776) : oV (Jd room) := ⟨by show (0 : Int) ≤ 9 ∧ (9 : Int) ≤ 4096; decide, h, by show (0 : Int) ≤ 9 ∧ (9 : Int) ≤ 1024; decide, uJ⟩
section ops
variable {S : aI} {c : aV} {t : Th} {d : Nat}
theorem CW {O : bM} {us : Used Th} {h : Int} {name : ByteArray} {need : Int} (h1 : TabM.get us h = some t) (h2 : t.kind = 2) (h3 : (obj O t.k).gone = false) (h4 : bE name) (h5 : bits BinOp.and .i64 (obj O t.k).mode need = need) : cO O us h name need = .ok t.k := by
  unfold cO
  rw [h1]
  simp only
  rw [if_pos h2, if_neg (by rw [h3]; decide), if_pos h4, if_pos h5]
theorem KE (hop : c.op = 1) (h1 : TabM.get S.idx c.other = some t) (h2 : t.kind = 2) (h3 : (S.us.length : Int) < S.X.cH) : doM S c = ({ S with O := aB S.O t.k (fun o => { o with opens := o.opens + 1 }), us := ins (least S.us) t S.us, ay := max S.ay ((S.us.length : Int) + 1) }, { c with answer := least S.us, code := 0 }) := by
  unfold doM
  rw [xJ (by exact hop)]
  unfold iG
  simp only
  rw [h1]
  simp only
  rw [if_pos h2, iq h3]
theorem Fc (hop : c.op = 2) (ha : cO S.O S.us c.handle c.name 64 = .ok d) (hl : aU c.name (obj S.O d).ah = some t) (h2 : t.kind = 2) (h3 : (S.us.length : Int) < S.X.cH) : doM S c = ({ S with O := aB S.O t.k (fun o => { o with opens := o.opens + 1 }), us := ins (least S.us) t S.us, ay := max S.ay ((S.us.length : Int) + 1) }, { c with answer := least S.us, code := 0 }) := by
  unfold doM
  rw [xK (by exact hop)]
  unfold dY fA
  simp only
  rw [ha]
  simp only
  rw [hl]
  simp only
  rw [if_neg (by omega), if_neg (by omega), iq h3]
theorem Je (hop : c.op = 4) (ha : cO S.O S.us c.handle c.name 192 = .ok d) (hm : kS c.mode) (hl : aU c.name (obj S.O d).ah = none) (hr : Room S.X S.idx) : doM S c = (bD S d c.name (aD S.X 2 c.mode), { c with answer := 0, code := 0 }) := by
  unfold doM
  rw [xL (by exact hop)]
  unfold eZ
  simp only
  rw [ha]
  simp only
  rw [if_pos hm]
  unfold mkdirM bO
  rw [if_pos hl, if_pos hr, if_pos rfl]
end ops
structure Fe (room : Int) (S : aI) : Prop where
  inv : Inv S
  idx : S.idx = [(1, ⟨1, 2⟩), (2, ⟨2, 1⟩)]
  us : S.us = []
  X : S.X = ⟨9, room, 9, 0, 0, 2, 1, 0⟩
  o1 : ∃ l u, obj S.O 1 = ⟨1, 493, 0, 0, 0, 0, l, 0, false, 2, [], ⟨#[]⟩, [(⟨#[102]⟩, ⟨2, 1⟩)], u⟩
  o2 : ∃ u, obj S.O 2 = ⟨2, 420, 0, 0, 0, 0, 1, 0, false, 1, [], ⟨#[]⟩, [], u⟩
theorem KF {room : Int} {S : aI} (h : eu (Jd room) nA nA.length 0 S) : Fe room S := by
  have hi : S.idx = [(1, ⟨1, 2⟩), (2, ⟨2, 1⟩)] := h.idx
  have Mw : Inv S := h.full
  obtain ⟨l1, u1, h1⟩ := h.ob 0 (by decide)
  obtain ⟨l2, u2, h2⟩ := h.ob 1 (by decide)
  have h1 : obj S.O 1 = ⟨1, 493, 0, 0, 0, 0, l1, 0, false, 2, [], ⟨#[]⟩, [(⟨#[102]⟩, ⟨2, 1⟩)], u1⟩ := h1
  have h2 : obj S.O 2 = ⟨2, 420, 0, 0, 0, 0, l2, 0, false, 1, [], ⟨#[]⟩, [], u2⟩ := h2
  have hl := Mw.links ⟨2, 1⟩ (by rw [hi]; rfl)
  have hl2 : l2 = 1 := by
    rw [hi] at hl
    have e : gj [(1, ⟨1, 2⟩), (2, ⟨2, 1⟩)] S.O 2 = 1 := by
      show (obj S.O 1).ah.countP _ + ((obj S.O 2).ah.countP _ + 0) = 1
      rw [h1, h2]; rfl
    simp only at hl
    rw [e, h2] at hl
    exact hl
  subst hl2
  exact ⟨Mw, hi, h.us, h.cap, ⟨l1, u1, h1⟩, ⟨u2, h2⟩⟩
theorem G4 : bE ⟨#[100]⟩ := CV (by decide) (by decide) (by decide)
def sK : aV := ⟨1, 0, 1, ⟨#[]⟩, ⟨#[]⟩, none, 0, [], 0, 0, 0, 0, 0, 0, 0⟩
def rN : aV := ⟨4, 1, 0, ⟨#[100]⟩, ⟨#[]⟩, none, 0, [], 448, 0, 0, 0, 0, 0, 0⟩
def yx : aV := ⟨2, 1, 0, ⟨#[100]⟩, ⟨#[]⟩, none, 0, [], 0, 0, 0, 0, 0, 0, 0⟩
theorem Mx : bits BinOp.and .i64 493 192 = 192 := by kernel_rfl
theorem Mz : bits BinOp.and .i64 493 64 = 64 := by kernel_rfl
section chain
variable {room : Int} {S : aI}
def S1 (S : aI) : aI := { S with O := aB S.O 1 (fun o => { o with opens := o.opens + 1 }), us := [(1, ⟨1, 2⟩)], ay := max S.ay 1 }
theorem OZ : obj (S1 S).O 1 = { obj S.O 1 with opens := (obj S.O 1).opens + 1 } := rfl
theorem CX (h : Fe room S) : doM S sK = (S1 S, { sK with answer := 1, code := 0 }) := by
  rw [KE (S := S) (c := sK) (t := ⟨1, 2⟩) rfl (by rw [h.idx]; rfl) rfl (by rw [h.us, h.X]; show (0 : Int) < 9; decide), h.us]
  rfl
theorem MB {X : FM} {O : bM} {o : aS} : obj (br X (aB O 3 (fun _ => o)) 1 ⟨#[100]⟩ ⟨3, 2⟩) 1 = { obj O 1 with ah := eH ⟨#[100]⟩ ⟨3, 2⟩ (obj O 1).ah, sec := X.cS, nano := X.cZ } := rfl
theorem MC (h : Fe room S) : ∃ S2, doM (S1 S) rN = (S2, { rN with answer := 0, code := 0 }) ∧ S2.us = [(1, ⟨1, 2⟩)] ∧ S2.idx.length = 3 ∧ S2.X.cH = 9 ∧ cO S2.O S2.us 1 ⟨#[100]⟩ 64 = .ok 1 ∧ aU ⟨#[100]⟩ (obj S2.O 1).ah = some ⟨3, 2⟩ := by
  obtain ⟨l, u, h1⟩ := h.o1
  have e1 : obj (S1 S).O 1 = ⟨1, 493, 0, 0, 0, 0, l, 1, false, 2, [], ⟨#[]⟩, [(⟨#[102]⟩, ⟨2, 1⟩)], u⟩ := by
    rw [OZ, h1]; rfl
  have hX : (S1 S).X = ⟨9, room, 9, 0, 0, 2, 1, 0⟩ := h.X
  have hi : (S1 S).idx = [(1, ⟨1, 2⟩), (2, ⟨2, 1⟩)] := h.idx
  have ha : cO (S1 S).O (S1 S).us 1 ⟨#[100]⟩ 192 = .ok 1 := CW (t := ⟨1, 2⟩) rfl rfl (by rw [e1]) G4 (by rw [e1]; exact Mx)
  have hn : aE (S1 S).X = 3 := by rw [hX]; rfl
  have e2 : obj (bD (S1 S) 1 rN.name (aD (S1 S).X 2 rN.mode)).O 1 = ⟨1, 493, 0, 0, 0, 0, l, 1, false, 2, [], ⟨#[]⟩, [(⟨#[100]⟩, ⟨3, 2⟩), (⟨#[102]⟩, ⟨2, 1⟩)], u⟩ := by
    show obj (br (S1 S).X (aB (S1 S).O (aE (S1 S).X) (fun _ => _)) 1 ⟨#[100]⟩ ⟨aE (S1 S).X, 2⟩) 1 = _
    rw [hn, MB, e1, hX]
    simp only [eH]
    rw [if_pos (by unfold iU; decide +kernel)]
  refine ⟨_, Je (c := rN) rfl ha ⟨by decide, by decide⟩ (by rw [e1]; rfl) ⟨by rw [hX, hi]; show (2 : Int) < 9; decide, by rw [hX]; show (2 : Int) < 1099511627776; decide, by rw [hX]; show (1 : Int) < 8192; decide⟩, rfl, ?_, by show (S1 S).X.cH = 9; rw [hX], ?_, ?_⟩
  ·show (ins _ _ (S1 S).idx).length = 3
   rw [hX, hi]; rfl
  ·exact CW (t := ⟨1, 2⟩) rfl rfl (by rw [e2]) G4 (by rw [e2]; exact Mz)
  rw [e2]; rfl
theorem ME {S2 : aI} (h1 : S2.us = [(1, ⟨1, 2⟩)]) (h2 : S2.X.cH = 9) (h3 : cO S2.O S2.us 1 ⟨#[100]⟩ 64 = .ok 1) (h4 : aU ⟨#[100]⟩ (obj S2.O 1).ah = some ⟨3, 2⟩) : ∃ S3, doM S2 yx = (S3, { yx with answer := 2, code := 0 }) ∧ S3.idx = S2.idx := by
  have h := Fc (S := S2) (c := yx) rfl h3 h4 rfl (by rw [h1, h2]; show (1 : Int) < 9; decide)
  have e : least S2.us = 2 := by rw [h1]; rfl
  rw [e] at h
  exact ⟨_, h, rfl⟩
structure QI (room : Int) (ds : List UInt8) (S : aI) : Prop where
  inv : Inv S
  idx : S.idx = [(1, ⟨1, 2⟩), (2, ⟨2, 1⟩)]
  us : S.us = [(1, ⟨1, 2⟩), (2, ⟨2, 1⟩)]
  X : S.X = ⟨9, room, 9, 0, 0, 2, 1, ds.length⟩
  o1 : ∃ l n u, obj S.O 1 = ⟨1, 493, 0, 0, 0, 0, l, n, false, 2, [], ⟨#[]⟩, [(⟨#[102]⟩, ⟨2, 1⟩)], u⟩
  o2 : ∃ u, obj S.O 2 = ⟨2, 420, 0, 0, 0, 0, 1, 1, false, 1, ds, ⟨#[]⟩, [], u⟩
structure QJ (ds : List UInt8) (S : aI) : Prop where
  inv : Inv S
  idx : S.idx = [(1, ⟨1, 2⟩), (2, ⟨2, 1⟩)]
  us : S.us = [(1, ⟨1, 2⟩), (2, ⟨2, 1⟩)]
  used : S.X.used = ds.length
  o2 : ∃ s z u, obj S.O 2 = ⟨2, 420, 0, 0, s, z, 0, 1, true, 1, ds, ⟨#[]⟩, [], u⟩
end chain
end
section
open Go.RowKit Go.Maps HeapM TabM
attribute [local irreducible] ai aR af aj
theorem yA {β : Bs} (A : Option Addr) (c : Nat) (d : List UInt8) (hA : bI β A d) (hl : d.length ≤ 1048576) :
    Spec Tryz.prog β 39 #[.slice A d.length c] [] (fun v l => ∃ B cap, v = .slice B d.length cap ∧ l = [.abs (aF 5 1 B d.length cap (bL d))]) := by
 refine Spec.enter Tryz.func39 rfl Tryz.ntmps39 (Nat.le_of_ble_eq_true rfl) (fun R => ?_)
 refine SR ?_
 refine gK 1 [] [] ?_
 refine NS ?_
 refine gN 2 (fun b1 => [(3, .slice (some ⟨b1, 0, none⟩) (0) (0))]) (fun _ => []) (fun _ => []) (fun b1 => .blk b1 [] 5) (fun b1 => ?_)
 refine NS ?_
 refine ai.mem (fun w hS => hS.rR (i := 1) (b := b1) (cs := []) (e := 5) 1 0 (by kernel_rfl) rfl (by decide)) ?_
 refine gK 2 [(5, .slice (some ⟨b1, 0, none⟩) (0) (0)), (6, .slice A (d.length) (c))] [] ?_
 refine ai.append 1 (d := (some 7)) (t := 41) (e := 5) (z := .int .u8 0) (size := 1) (bytes := 1) (n := 0) (cap := 0) (A := some ⟨b1, 0, none⟩) (xs := []) (s := (.tmp 5)) (x := (.tmp 6)) (ats := #[41, 41]) (A' := A) (m := d.length) (c' := c) (news := (bL d)) (fun _ => by kernel_rfl) rfl (by kernel_rfl) (fun _ => by kernel_rfl) (fun _ => by kernel_rfl) Tryz.underlying41 (by kernel_rfl) rfl (by decide) (by rw [oJ, Nat.mul_one]) (lf d) (hA.src) (by unfold maxLen; omega) (by omega) (fun A2 c3 => ?_)
 refine ai.eT 1 (p := .abs (aF 5 1 A2 (0 + d.length) c3 ([] ++ (bL d)))) (p' := .abs (aF 5 1 A2 d.length c3 (bL d))) (by kernel_rfl) (by rw [Nat.zero_add, List.nil_append]) ?_
 refine ai.slot 7 (.slice A2 (0 + d.length) (c3)) (.slice A2 (d.length) (c3)) (fun _ => by kernel_rfl) (by rw [Nat.zero_add]) ?_
 refine gK 1 [(3, .slice A2 (d.length) (c3))] [] ?_
 refine NS ?_
 refine gK 2 [(2, .slice A2 (d.length) (c3))] [] ?_
 refine NN (af.ret ?_)
 exact RT (.slice A2 (d.length) (c3)) [1, 0] (⟨A2, c3, rfl, rfl⟩)
theorem G5 {β : Bs} : dZ Tryz.prog β 31 #[] [] (fun β' v l => ∃ B Y, v = .agg #[.slice B 2 2, vI 9, vI 99, vI 9, vI 0, vI 0] ∧ l = [] ∧ aC β' B nA Y) := by
 refine dZ.enter Tryz.func31 rfl Tryz.ntmps31 (Nat.le_of_ble_eq_true rfl) (fun hle0 R => ?_)
 refine SR ?_
 refine gN 1 (fun b4 => [(0, vP b4)]) (fun _ => []) (fun _ => []) (fun b4 => .blk b4 [.slice none (0) (0), vI 0, vI 0, vI 0, vI 0, vI 0] 30) (fun b4 => ?_)
 refine NS ?_
 refine gN 4 (fun b5 => [(4, .agg #[vI 1, vI 2, vI 493, vI 0, vI 0, vI 0, vI 0, .slice none (0) (0), .string ⟨#[]⟩, .slice (some ⟨b5, 0, none⟩) (1) (1)]), (5, .agg #[vI 2, vI 1, vI 420, vI 0, vI 0, vI 0, vI 0, .slice none (0) (0), .string ⟨#[]⟩, .slice none (0) (0)])]) (fun _ => []) (fun _ => []) (fun b5 => .blk b5 [.string ⟨#[102]⟩, vI 2] 101) (fun b5 => ?_)
 refine gN 2 (fun b6 => [(7, .agg #[.slice (some ⟨b6, 0, none⟩) (2) (2)])]) (fun _ => []) (fun _ => []) (fun b6 => .blk b6 [vI 1, vI 2, vI 493, vI 0, vI 0, vI 0, vI 0, .slice none (0) (0), .string ⟨#[]⟩, .slice (some ⟨b5, 0, none⟩) (1) (1), vI 2, vI 1, vI 420, vI 0, vI 0, vI 0, vI 0, .slice none (0) (0), .string ⟨#[]⟩, .slice none (0) (0)] 70) (fun b6 => ?_)
 refine gN 2 (fun b7 => [(1, vP b7)]) (fun b7 => [(1, a_ 4 b7)]) (fun _ => []) (fun b7 => .blk b7 [.slice (some ⟨b6, 0, none⟩) (2) (2)] 24) (fun b7 => ?_)
 refine NS ?_
 refine ai.mem (fun w hS => hS.rR (i := 2) (b := b5) (cs := [.string ⟨#[102]⟩, vI 2]) (e := 101) 2 1 (by kernel_rfl) rfl (by decide)) ?_
 refine ai.pu (Φ := fun β' => cL β' (some ⟨b5, 0, none⟩) Fb.ah) 2 [0, 1, 3, 4] (aL := [.abs R, .blk b4 [.slice none (0) (0), vI 0, vI 0, vI 0, vI 0, vI 0] 30, .blk b6 [vI 1, vI 2, vI 493, vI 0, vI 0, vI 0, vI 0, .slice none (0) (0), .string ⟨#[]⟩, .slice (some ⟨b5, 0, none⟩) (1) (1), vI 2, vI 1, vI 420, vI 0, vI 0, vI 0, vI 0, .slice none (0) (0), .string ⟨#[]⟩, .slice none (0) (0)] 70, .blk b7 [.slice (some ⟨b6, 0, none⟩) (2) (2)] 24]) rfl rfl (by kernel_rfl) (fun F w h β' h1 h2 => dX.j8 h h1 h2) (fun QK KG hE => ?_)
 replace hle0 := hle0.trans KG
 refine ai.mem (fun w hS => hS.rR (i := 2) (b := b6) (cs := [vI 1, vI 2, vI 493, vI 0, vI 0, vI 0, vI 0, .slice none (0) (0), .string ⟨#[]⟩, .slice (some ⟨b5, 0, none⟩) (1) (1), vI 2, vI 1, vI 420, vI 0, vI 0, vI 0, vI 0, .slice none (0) (0), .string ⟨#[]⟩, .slice none (0) (0)]) (e := 70) 10 2 (by kernel_rfl) rfl (by decide)) ?_
 refine ai.pu (Φ := fun β' => dX β' (some ⟨b6, 0, none⟩) (bV ⟨fun _ => none, fun i => if i = 0 then some ⟨b5, 0, none⟩ else none, fun _ => 0, fun i => if i = 0 then 1 else 0⟩ nA)) 2 [0, 1, 3] (aL := [.abs R, .blk b4 [.slice none (0) (0), vI 0, vI 0, vI 0, vI 0, vI 0] 30, .blk b7 [.slice (some ⟨b6, 0, none⟩) (2) (2)] 24]) rfl rfl (by kernel_rfl) (fun F w h β' h1 h2 => dX.j8 h h1 h2) (fun PJ rO hR => ?_)
 replace hE := hE.le rO
 replace hle0 := hle0.trans rO
 refine gC 4 [] [(0, a_ 2 b7), (3, A_ 1 b4 6)] [(1, [(0, .slice (some ⟨b6, 0, none⟩) (2) (2)), (1, vI 9), (2, vI 99), (3, vI 9)])] ?_
 refine NN (af.ret ?_)
 exact aj.tC (v := .agg #[.slice (some ⟨b6, 0, none⟩) (2) (2), vI 9, vI 99, vI 9, vI 0, vI 0]) (l := []) (aq := [b4 = b4, b4 = b4, b4 = b4, b4 = b4, b4 = b4, b4 = b4]) [.at 1, .at 1, .at 1, .at 1, .at 1, .at 1] [0] hle0 (fun _ => by kernel_rfl) ⟨rfl, rfl, rfl, rfl, rfl, rfl, trivial⟩ rfl (by kernel_rfl) (⟨_, _, rfl, rfl, Mv hR hE⟩)
end
section
open Go.RowKit Go.Maps HeapM TabM
theorem Spec.Ff {P : Program} {β : Bs} {f : FuncId} {args : Array Value} {pre : List HP} {post : Value → List HP → Prop} {Ψ : Bs → Value → List HP → Prop} (h : Spec P β f args pre post) (Bo : ∀ v l, post v l → ∃ l1 l2, l = l1 ++ l2 ∧ ∀ β', og β l2 β' → Ψ β' v l1) : dZ P β f args pre Ψ := by
  intro A w hS
  refine (h A w hS).mono ?_
  rintro e w' ⟨v, l, h1, h2, h3⟩
  obtain ⟨l1, l2, rfl, hl⟩ := Bo v l h2
  have h4 : Sat β (([.abs A] ++ l1) ++ l2) w' := by rw [List.append_assoc]; exact Sat.turn h3
  obtain ⟨β', g1, _, g3⟩ := h4.yT
  exact ⟨β', v, l1, g1.le, h1, hl β' g1, Sat.turn g3⟩
section c
variable {β : Bs} {S S2 : aI} {L : HL} {f m t : Nat} {c c2 : aV}
theorem wL (hI : Inv S) (hC : fJ β c) (h : doM S c = (S2, c2)) : Spec Tryz.prog β 16 #[vP f, .agg ⟨gh c⟩] (pA f m t L S) (fun v l => ∃ L2, v = .agg ⟨gh c2⟩ ∧ l = pA f m t L2 S2) := by
  have h1 := GI (β := β) S L f m t hI c hC
  rw [h] at h1
  exact h1
theorem yB (hI : Inv S) : dZ Tryz.prog β 15 #[vP f] [pF f m t S.X, pI m L S.idx, pO S.O L, pD S.O L, pE S.O L] (fun β' v l => ∃ A cp K, v = .agg #[.slice A (aM S).length cp] ∧ l = [pF f m t S.X, pI m L S.idx, pO S.O L, pD S.O L, pE S.O L] ∧ aC β' A (aM S) K) :=
  (Au S L f m t hI).Ff (by
    rintro v l ⟨A, cp, K, rfl, rfl⟩
    exact ⟨_, _, rfl, fun β' h => ⟨A, cp, K, rfl, rfl, h.graph⟩⟩)
theorem zK (h1 : (Lit.int .i64 c.handle).wf = true) (h2 : (Lit.int .i64 c.other).wf = true) (h3 : c.name.size ≤ 1048576) (h4 : c.text.size ≤ 1048576) (h5 : c.data = []) : fJ β c :=
  ⟨h1, h2, h3, h4, by rw [h5]; exact fun j v hj => by simp [bL] at hj, by rw [h5]; decide, by rw [h5]; exact Nat.zero_le _⟩
theorem AO (A : Option Addr) (cp : Nat) (d : List UInt8) (hA : bI β A d) (hl : d.length ≤ 1048576) : dZ Tryz.prog β 39 #[.slice A d.length cp] [] (fun β' v l => ∃ B cap, v = .slice B d.length cap ∧ l = [] ∧ bI β' B d ∧ d.length ≤ cap) :=
  (yA A cp d hA hl).Ff (by
    rintro v l ⟨B, cap, rfl, rfl⟩
    refine ⟨[], _, rfl, fun β' h => ⟨B, cap, rfl, rfl, h.bytes, ?_⟩⟩
    obtain ⟨F, h1, _⟩ := h.get 0 rfl
    exact (aF.len h1).2)
theorem Fg {room : Int} (hr : 0 ≤ room ∧ room ≤ 1099511627776) {B : Option Addr} {cp : Nat} {Y : Lay} (hG : aC β B nA Y) : Spec Tryz.prog β 9 #[.agg #[.slice B 2 cp], .agg #[.int .i64 9, .int .i64 room, .int .i64 9, .int .i64 0, .int .i64 0]] [] (fun v l => ∃ S f m t L, Fe room S ∧ v = .tuple #[.pointer (some ⟨f, 0, none⟩), .int .i64 0] ∧ l = pA f m t L S) := by
  refine (zJ B cp nA Y hG (by decide) (fun i hi => ?_) (fun i hi j hj => ?_) (fun i hi j hj => ?_) (Jd room)).mono ?_
  ·rcases sJ hi with rfl | rfl <;> exact ⟨by decide, by decide⟩
  ·rcases sJ hi with rfl | rfl
   ·have : j = 0 := by have hj : j < 1 := hj; omega
    subst this; exact ⟨by decide, by decide⟩
   exact absurd hj (Nat.not_lt_zero j)
  ·rcases sJ hi with rfl | rfl
   ·have : j = 0 := by have hj : j < 1 := hj; omega
    subst this; decide
   exact absurd hj (Nat.not_lt_zero j)
  rintro v l (⟨h, _⟩ | ⟨_, h, _⟩ | ⟨_, _, S, f, m, t, L, h1, h2, h3⟩)
  ·exact absurd (KD hr) h
  ·exact absurd Mu h
  exact ⟨S, f, m, t, L, KF h1, h2, h3⟩
end c
end
section
open Go.RowKit Go.Maps HeapM TabM
section at_
variable {S : aI} {i j : Nat}
theorem Jf (hi : i < S.idx.length) : nd (aM S) i = vf S.O (bY S i) (jW S i) := by
  unfold nd aM
  rw [List.getD_eq_getElem?_getD, List.getElem?_map, yh hi]; rfl
end at_
end
section
open Go.RowKit HeapM TabM Go.Maps
theorem Spec.Ef {P : Program} {β : Bs} {f : FuncId} {args : Array Value} {pre R : List HP} {post : Value → List HP → Prop} (h : ∀ β' : Bs, og β R β' → Spec P β' f args pre post) : Spec P β f args (pre ++ R) (fun v l => ∃ l0, post v l0 ∧ l = l0 ++ R) := by
  intro A w hS
  have h1 := Sat.turn hS
  rw [← List.append_assoc] at h1
  obtain ⟨β', g1, _, g3⟩ := h1.yT
  refine (h β' g1 A w (Sat.turn g3)).mono ?_
  rintro e w' ⟨v, l, h1, h2, h3⟩
  refine ⟨v, l ++ R, h1, ⟨l, h2, rfl⟩, ?_⟩
  have h4 := g1.back (Sat.turn h3)
  rw [List.append_assoc] at h4
  exact Sat.turn h4
section ints
variable {β : Bs} {A : Option Addr} {l : List Int} {j : Nat}
theorem qN.get (h : dX β A (ints l)) (hj : j < l.length) : A = some ⟨av A, au A, none⟩ ∧ Rd β ⟨av A, au A + j * 1, none⟩ (.int .i64 (l.getD j 0)) := by
  rw [Nat.mul_one]
  refine h j _ ?_
  unfold ints
  rw [List.getElem?_map, List.getElem?_eq_getElem hj, List.getD_eq_getElem?_getD, List.getElem?_eq_getElem hj]; rfl
theorem qN.hd (h : dX β A (ints l)) (hj : j < l.length) : A = some ⟨av A, au A, none⟩ := (qN.get h hj).1
theorem qN.rd (h : dX β A (ints l)) (hj : j < l.length) : Rd β ⟨av A, au A + j * 1, none⟩ (.int .i64 (l.getD j 0)) := (qN.get h hj).2
end ints
theorem AP {β : Bs} (A B : Option Addr) (c c' : Nat) (ns ms : List aN) (L K : Lay) (hH : aC β B ms K) (hl : ns.length ≤ 1048576) (hd : ∀ i, i < ns.length → (nd ns i).data.length ≤ 140737488355328 ∧ (nd ns i).ah.length ≤ 1048576) {b : Bool} (hb : decide (ns = ms) = b) :
    Spec Tryz.prog β 17 #[.agg #[.slice A ns.length c], .agg #[.slice B ms.length c']] (E0 A c ns L) (fun v l => v = .bool b ∧ l = E0 A c ns L) :=
  (Spec.Ef (pre := []) (fun _ g => Bu A B c c' ns ms L K g.graph (hH.le g.le) hl hd)).mono (by rintro v l ⟨l0, ⟨rfl, rfl⟩, rfl⟩; exact ⟨congrArg Value.bool hb, rfl⟩)
theorem CY {β : Bs} (t : Nat) (most ay : Int) (L : HL) (us : Used Th) :
    Spec Tryz.prog β 45 #[.pointer (some ⟨t, 0, none⟩)] [.abs (aZ 156 t most ay (aK L us))] (fun v l => ∃ A c, v = .slice A us.length c ∧ l = [.abs (aZ 156 t most ay (aK L us)), .abs (aF 3 1 A us.length c (ints (keys us)))]) := by
  have h := BZ (β := β) t most ay (aK L us)
  have e : keys (aK L us) = keys us := keys_map (cG L) us
  have e2 : (keys us).length = us.length := List.length_map ..
  rw [e, e2] at h
  exact h
theorem Jg {S : aI} (h : Inv0 S) : ∀ i, i < (aM S).length → (nd (aM S) i).data.length ≤ 140737488355328 ∧ (nd (aM S) i).ah.length ≤ 1048576 := fun i hi => by
  rw [mF] at hi
  have h1 : (obj S.O (jW S i).k).data.length ≤ bytes S.idx S.O := jQ (g := fun p : Int × Th => (obj S.O p.2.k).data.length) (get_at h hi)
  have h2 : (obj S.O (jW S i).k).ah.length ≤ tot S.idx S.O := jQ (g := fun p : Int × Th => (obj S.O p.2.k).ah.length) (get_at h hi)
  have h3 := h.used
  have h4 := h.total
  rw [Jf hi]
  refine ⟨by show (obj S.O (jW S i).k).data.length ≤ _; omega, ?_⟩
  show ((obj S.O (jW S i).k).ah.map _).length ≤ _
  rw [List.length_map]
  omega
theorem tu {β : Bs} (A : Option Addr) (c : Nat) (ns : List aN) (L : Lay) (hG : aC β A ns L) (hl : ns.length ≤ 1048576) (hd : ∀ i, i < ns.length → (nd ns i).data.length ≤ 1048576 ∧ (nd ns i).ah.length ≤ 1048576) :
    Spec Tryz.prog β 10 #[.agg #[.slice A ns.length c]] [] (fun v l => ∃ B cap, v = .agg #[.slice B ns.length cap] ∧ l = [.abs (mB β (fun β' => ∃ K, aC β' B ns K))]) :=
  (dZ.LF (ι := Option Addr × Nat) (vv := fun x => .agg #[.slice x.1 ns.length x.2]) (ll := fun _ => []) (Φ := fun x β' => ∃ K, aC β' x.1 ns K)
    ((Bt A c ns L hG hl hd).mono (by rintro β' v l _ ⟨B, cap, K, rfl, rfl, h⟩; exact ⟨(B, cap), rfl, rfl, K, h⟩))).mono (by rintro v l ⟨⟨B, cap⟩, rfl, rfl⟩; exact ⟨B, cap, rfl, rfl⟩)
end
section
open Go.RowKit Go.Maps HeapM TabM
attribute [local irreducible] ai aR af aj
theorem Jh {β : Bs} (A B : Option Addr) (c d : Nat) (l : List Int) (hA : dX β A (ints l)) (hB : dX β B (ints l)) (hl : l.length ≤ 1048576) :
    Spec Tryz.prog β 19 #[.slice A l.length c, .slice B l.length d] [] (fun v l => v = .bool true ∧ l = []) := by
 refine Spec.enter Tryz.func19 rfl Tryz.ntmps19 (Nat.le_of_ble_eq_true rfl) (fun R => ?_)
 refine SR ?_
 refine gK 1 [] [] ?_
 refine NN (af.seq (SR ?_))
 refine gK 5 [(10, .bool false)] [(4, p_ ⟨[], none, none, none, some (.bool false)⟩ [(Value.bool (!decide ((((l.length : Nat) : Int) : Int) = (((l.length : Nat) : Int) : Int)))) = (.bool false)] ⟨by simp, trivial⟩)] ?_
 refine NN ?_
 refine CF ?_
 refine af.skip (NX (af.seq (SR ?_)))
 refine gK 1 [(5, vI 0)] [] ?_
 refine NN (af.block ?_)
 refine af.loop (ι := Nat) (fun (i : Nat) => (i ≤ l.length)) (fun (i : Nat) => l.length - i) (fun (i : Nat) => [(0, .slice A (l.length) (c)), (1, .slice B (l.length) (d)), (5, vI ↑i)]) (fun (i : Nat) => [.abs R]) 0 (idx := [0, 1, 5]) (pk := [0]) (show (0 ≤ l.length) from Nat.zero_le _) (fun _ => by kernel_rfl) rfl (by kernel_rfl) ?_
 rintro i hi
 show af _ _ _ _ [(0, .slice A (l.length) (c)), (1, .slice B (l.length) (d)), (5, vI ↑i)] [.abs R] _
 refine af.seq (SR ?_)
 refine gK 4 [(14, .bool (decide ((((i : Nat) : Int) : Int) < (((l.length : Nat) : Int) : Int))))] [] ?_
 refine NN ?_
 refine af.bB (p := (((i : Nat) : Int) : Int) < (((l.length : Nat) : Int) : Int)) (fun _ => by kernel_rfl) (fun gi => ?_) (fun gi => ?_)
 ·refine af.skip (NX (af.seq (af.block (af.seq ?_))))
  refine af.bF (by kernel_rfl) (by kernel_rfl) ?_
  refine gQ 9 [(25, .bool false)] [(2, p_ ⟨[], some i, none, some ⟨(av A), au A, none⟩, none⟩ [((i : Nat) : Int) = ((i : Nat) : Int), i < l.length, (⟨(av A), au A, none⟩ : Addr).spot = none, (A : Option Addr) = some ⟨(av A), au A, none⟩] ⟨rfl, by omega, rfl, qN.hd hA (j := i) (by omega), trivial⟩), (3, p_ ⟨[.old (vI ((l.getD i 0)))], none, none, none, none⟩ [(Rd β ⟨(av A), au A + i * 1, none⟩ (vI ((l.getD i 0))))] ⟨qN.rd hA (j := i) (by omega), trivial⟩), (6, p_ ⟨[], some i, none, some ⟨(av B), au B, none⟩, none⟩ [((i : Nat) : Int) = ((i : Nat) : Int), i < l.length, (⟨(av B), au B, none⟩ : Addr).spot = none, (B : Option Addr) = some ⟨(av B), au B, none⟩] ⟨rfl, by omega, rfl, qN.hd hB (j := i) (by omega), trivial⟩), (7, p_ ⟨[.old (vI ((l.getD i 0)))], none, none, none, none⟩ [(Rd β ⟨(av B), au B + i * 1, none⟩ (vI ((l.getD i 0))))] ⟨qN.rd hB (j := i) (by omega), trivial⟩), (8, p_ ⟨[], none, none, none, some (.bool false)⟩ [(Value.bool (!decide (((l.getD i 0) : Int) = ((l.getD i 0) : Int)))) = (.bool false)] ⟨by simp, trivial⟩)] ?_
  refine NQ (NX ?_)
  refine CF ?_
  refine af.skip (aj.aT (NX (af.region ?_)))
  refine gK 3 [(5, vI ↑(i + 1))] [(1, p_ ⟨[], none, none, none, some (vI ↑(i + 1))⟩ [(Value.int .i64 (IntKind.wrap .i64 (((i : Nat) : Int) + 1))) = (vI ↑(i + 1))] ⟨bJ (by omega) (by omega) (by omega), trivial⟩)] ?_
  refine NL ?_
  exact aj.turn ((i + 1)) (idx := [0, 1, 5]) (pk := [0]) (show (((i + 1)) ≤ l.length) from by omega) (by show l.length - ((i + 1)) < l.length - i; omega) (fun _ => by kernel_rfl) rfl (by kernel_rfl)
 refine af.exit (aj.bg (aj.bg (aj.cA (NX (SR ?_)))))
 refine gK 1 [(4, .bool true)] [] ?_
 refine NN (af.ret ?_)
 exact RT (.bool true) [0] (⟨rfl, rfl⟩)
theorem AA {β : Bs} (S : aI) (L : HL) (f m t : Nat) : Spec Tryz.prog β 18 #[vP f] [pF f m t S.X, pT t S.X.cH S.ay L S.us] (fun v l => ∃ A c, v = .slice A S.us.length c ∧ l = [pF f m t S.X, pT t S.X.cH S.ay L S.us, .abs (aF 3 1 A S.us.length c (ints (keys S.us)))]) := by
 refine Spec.enter Tryz.func18 rfl Tryz.ntmps18 (Nat.le_of_ble_eq_true rfl) (fun R => ?_)
 refine SR ?_
 refine gK 1 [] [] ?_
 refine NS ?_
 refine gK 4 [(6, vP t)] [(3, a_ 0 f)] ?_
 refine gL [1] (CY t S.X.cH S.ay L S.us) ?_
 rintro _ _ ⟨A, c, rfl, rfl⟩
 refine gK 1 [(2, .slice A (S.us.length) (c))] [] ?_
 refine NN (af.ret ?_)
 exact RT (.slice A (S.us.length) (c)) [2, 0, 1, 3] (⟨A, c, rfl, rfl⟩)
end
section
open Go.RowKit Go.WideShapes Go.ChangeShapes Go.ChangeAt Go.Deep
theorem laidOut : laidOutB Tryz.prog = true := by kernel_rfl
theorem own : ownKnob Tryz.prog.godebug = none := by kernel_rfl
section row
variable {H : Type} {enc : TypeId × Value → H} {P : Program}
theorem tv (hl : laidOutB P = true) {W W' : World} (hb : Below W.heap.size W W') {sp : Nat → Bool} : ∀ {ts : List TypeId} {vs : List Value} {ds : List (DataW H)} {ps : List MemPlace},
    (∀ t ∈ ts, P.readableRec t = true ∧ t < P.types.size) → DataW.TrodAll enc P W 0 (fun _ => true) true ts vs ds ps → (∀ x ∈ ps, x.block < W.heap.size) → (∀ x ∈ ps, sp x.block = true) → DataW.TrodAll enc P W' 0 sp true ts vs ds ps
  | [], vs, ds, ps, _, h, _, _ => by
    obtain ⟨rfl, rfl, rfl⟩ := trodAll_nil h
    exact trodAll_mk0
  | t :: ts, vs, ds, ps, hr, h, hlt, hsp => by
    obtain ⟨v, vs', d, ds', p, q, rfl, rfl, rfl, h1, h2⟩ := trodAll_cons h
    have h3 := hr t List.mem_cons_self
    exact trodAll_cons_mk (WideElems.Trod_stays hl h3.1 h3.2 h1 (fun x hx => hb.same (hlt x (List.mem_append.2 (.inl hx)))) (fun x hx => hsp x (List.mem_append.2 (.inl hx))))
      (tv hl hb (fun t ht => hr t (List.mem_cons_of_mem _ ht)) h2 (fun x hx => hlt x (List.mem_append.2 (.inr hx))) (fun x hx => hsp x (List.mem_append.2 (.inr hx))))
def O0 (P : Program) (f : Func) : Bool := f.params.toList.all fun t => P.readableRec t && decide (t < P.types.size)
theorem law_post (hl : laidOutB P = true) {f : Func} {s : ChangeSpec} {apart fresh handsOn again : Bool} {W W' : World} {args : Array Value} {ds gs : List (DataW H)} {before : List MemPlace} {tb : TypeId} {rb : Bool}
    (hW : DataW.Whole enc P f.params.toList s.vars apart W args.toList ds gs before) (hvars : s.vars = []) (hrow : O0 P f = true) (hres : f.resultTypes = #[tb]) (hb0 : P.underlying tb = some .bool)
    (hfn : (s.fn H (ds ++ gs)).results = [.lit (.bool rb)]) (hargs : (s.fn H (ds ++ gs)).args = ds) (hv : (s.fn H (ds ++ gs)).vars = []) (hb : Below W.heap.size W W') :
    s.post enc P f apart fresh handsOn again W args (.bool rb) W' := by
  have hW' := hW
  obtain ⟨p, q, hA, hV, rfl, _, _⟩ := hW
  rw [hvars] at hV
  obtain ⟨rfl, rfl⟩ := trodVars_none hV
  have hlt : ∀ x ∈ p, x.block < W.heap.size := fun x hx => hW'.lt x (List.mem_append.2 (.inl hx))
  have hr : ∀ t ∈ f.params.toList, P.readableRec t = true ∧ t < P.types.size := fun t ht => by
    have := List.all_eq_true.1 hrow t ht
    simpa using this
  refine AB (pa := p) (pv := []) hW' (fun b sp hd => ?_) (fun sp hsp => ?_) (fun sp _ => ?_) (by simp) hb ?_
  ·rw [hfn, hres]
   exact trodAll_cons_mk (shut_bool hb0 _) trodAll_mk0
  ·rw [hargs]
   exact tv hl hb hr hA hlt (fun x hx => hsp x (List.mem_append.2 (.inl hx)))
  ·rw [hvars, hv]
   exact rfl
  exact ok_one hres rfl (okWide_bool_mk hb0 _)
end row
end
section
open Go.RowKit Go.WideShapes Go.ChangeShapes Go.ChangeAt Go.Deep
abbrev B0 (W : World) : Bs := ⟨(· < W.heap.size), W⟩
theorem D8 {w : World} {a : Addr} {v : Value} (h : w.cell? a = some v) : a.block < w.heap.size := by
  unfold World.cell? at h
  split at h
  ·rename_i hb; exact lt_of_some hb
  cases h
theorem G6 {w : World} {a : Addr} {v : Value} (h : w.cell? a = some v) : a.spot = none := by
  unfold World.cell? at h
  split at h
  ·split at h
   ·cases h
   rename_i h0
   cases hs : a.spot with
   | none => rfl
   | some x => rw [hs] at h0; exact absurd rfl h0
  cases h
theorem add_plain {a : Addr} (k : Nat) (h : a.spot = none) : a.add k = ⟨a.block, a.off + k, none⟩ := by
  obtain ⟨b, o, s⟩ := a
  cases h
  unfold Addr.add
  split
  ·rename_i h0; subst h0; rfl
  rfl
theorem wM {H : Type} {D : Nat → DataW H} {n i : Nat} (hi : i < n) : Rows.uptoBulk (D i) ≤ Rows.uptoBulkAll ((List.range n).map D) := by
  have hm : D i ∈ (List.range n).map D := List.mem_map.2 ⟨i, List.mem_range.2 hi, rfl⟩
  generalize (List.range n).map D = l at hm
  induction l with
  | nil => cases hm
  | cons x r ih =>
    simp only [Rows.uptoBulkAll]
    rcases List.mem_cons.1 hm with e | hm
    ·subst e; omega
    have := ih hm; omega
theorem Ji {H : Type} (d : DataW H) : 1 ≤ Rows.uptoBulk d := by
  cases d with
  | lit l => cases l <;> simp [Rows.uptoBulk]
  | nil => simp [Rows.uptoBulk]
  | ptr d => simp [Rows.uptoBulk]
  | slice elems spare => simp [Rows.uptoBulk]
  | agg parts => simp [Rows.uptoBulk]
  | iface t d => simp [Rows.uptoBulk]
  | map entries => simp [Rows.uptoBulk]
  | held h => simp [Rows.uptoBulk]
theorem sM {H : Type} (l : List (DataW H)) : l.length ≤ Rows.uptoBulkAll l := by
  induction l with
  | nil => simp [Rows.uptoBulkAll]
  | cons x r ih => have := Ji x; simp only [Rows.uptoBulkAll, List.length_cons]; omega
theorem bulk_mem {H : Type} {d : DataW H} {l : List (DataW H)} (h : d ∈ l) : Rows.uptoBulk d ≤ Rows.uptoBulkAll l := by
  induction l with
  | nil => cases h
  | cons x r ih =>
    simp only [Rows.uptoBulkAll]
    rcases List.mem_cons.1 h with e | h
    ·subst e; omega
    have := ih h; omega
section open_
variable {H : Type} {enc : TypeId × Value → H} {P : Program} {W : World} {sp : Nat → Bool}
theorem sN {α : Type} [Inhabited α] {t e : TypeId} {size : Nat} {f : α → List Value} {Q : α → DataW H → Prop} (ht : P.underlying t = some (.slice e)) (hC : P.cellsOf e = size) (h0 : 0 < size)
    (hel : ∀ n cs x, DataW.trod enc P W 0 sp true n e cs = some x → ∃ a, cs = f a ∧ Q a x.1) (hf : ∀ a, (f a).length = size)
    {fuel : Nat} {cs : List Value} {x : DataW H × List MemPlace} (h : DataW.trod enc P W 0 sp true fuel t cs = some x) :
    ∃ A c, ∃ xs : List α, ∃ D : Nat → DataW H, cs = [.slice A xs.length c] ∧ xs.length ≤ c ∧ c ≤ maxLen ∧ dX (B0 W) A (dx (fun _ a => f a) 0 xs) ∧ (∀ i, i < xs.length → Q (xs.getD i default) (D i)) ∧
      Rows.uptoBulkAll ((List.range xs.length).map D) + 1 ≤ Rows.uptoBulk x.1 := by
  rcases open_slice ht h with ⟨hv, hx⟩ | ⟨a, len, cap, m, n, D, Pl, hcs, hb, hl, hm, hmm, hx, hi⟩
  ·subst hv
   refine ⟨none, 0, [], fun _ => .nil, rfl, Nat.le_refl _, Nat.zero_le _, fun j v hj => by simp [dx] at hj, fun i hi => absurd hi (Nat.not_lt_zero i), ?_⟩
   rw [hx]
   simp [Rows.uptoBulk, Rows.uptoBulkAll]
  have QL : len ≤ m := by rw [hmm]; split <;> omega
  have hch : ∀ i, ∃ b : α, i < len → (W.cells? 0 (a.add (i * P.cellsOf e)) (P.cellsOf e) = some (f b) ∧ Q b (D i)) := fun i => by
    by_cases hil : i < len
    ·obtain ⟨cs', h1, h2⟩ := hi i (by omega)
     obtain ⟨b, rfl, h3⟩ := hel _ _ _ h2
     exact ⟨b, fun _ => ⟨h1, h3⟩⟩
    exact ⟨default, fun h => absurd h hil⟩
  have hg := fun i => Classical.choose_spec (hch i)
  generalize hG : (fun i => Classical.choose (hch i)) = g at hg
  have hg : ∀ i, i < len → W.cells? 0 (a.add (i * P.cellsOf e)) (P.cellsOf e) = some (f (g i)) ∧ Q (g i) (D i) := fun i hi => by
    have h1 := hg i hi
    have h2 : Classical.choose (hch i) = g i := congrFun hG i
    rw [h2] at h1
    exact h1
  have hlen : ((List.range len).map g).length = len := by simp
  have hget : ∀ i, i < len → ((List.range len).map g)[i]? = some (g i) := fun i hi => by simp [hi]
  have Nr : ∀ i, i < len → ((List.range len).map g).getD i default = g i := fun i hi => by rw [List.getD_eq_getElem?_getD, hget i hi]; rfl
  have hs1 : 0 < len → a.spot = none := fun hl0 => by
    obtain ⟨h2, -⟩ := hg 0 hl0
    rw [hC] at h2
    obtain ⟨_, hcl, hat⟩ := World.cells?_some h2
    have h3 := hat 0 h0
    rw [List.getElem?_eq_getElem (by rw [hcl]; exact h0)] at h3
    have e : (a.add (0 * size)).add 0 = a := by rw [Nat.zero_mul]; rfl
    rw [e] at h3
    exact G6 h3
  refine ⟨some a, cap, (List.range len).map g, D, by rw [hlen]; exact hcs, by rw [hlen]; exact hl, hm, fun j v hj => ?_, fun i hi' => ?_, ?_⟩
  ·have hfl := tD (f := fun _ a => f a) (s := size) (fun _ a => hf a) ((List.range len).map g) 0
   have hjl := bA hj
   rw [hfl, hlen] at hjl
   have mJ : j / size < len := (Nat.div_lt_iff_lt_mul h0).2 hjl
   have hj2 : j % size < size := Nat.mod_lt _ h0
   have e := Nat.div_add_mod j size
   rw [Nat.mul_comm] at e
   have h1 := nK (f := fun _ a => f a) (s := size) (fun _ a => hf a) _ 0 _ (j % size) _ (hget _ mJ) hj2
   rw [e, hj] at h1
   obtain ⟨h2, -⟩ := hg _ mJ
   rw [hC] at h2
   obtain ⟨_, _, hat⟩ := World.cells?_some h2
   have h3 := hat _ hj2
   rw [← h1] at h3
   have hs1 := hs1 (Nat.lt_of_le_of_lt (Nat.zero_le _) mJ)
   rw [add_plain _ hs1] at h3
   rw [add_plain (a := ⟨a.block, a.off + j / size * size, none⟩) _ rfl] at h3
   have e2 : a.off + j / size * size + j % size = a.off + j := by omega
   have h4 : W.cell? ⟨a.block, a.off + j, none⟩ = some v := by rw [← e2]; exact h3
   have ea : (some a : Option Addr) = some ⟨av (some a), au (some a), none⟩ := by
     obtain ⟨b, o, s⟩ := a
     cases hs1
     rfl
   exact ⟨ea, D8 h4, h4⟩
  ·rw [hlen] at hi'
   rw [Nr i hi']
   exact (hg i hi').2
  rw [hx, hlen]
  simp only [Rows.uptoBulk]
  omega
theorem KH {t : TypeId} {n : Nat} {cs : List Value} {x : DataW H × List MemPlace} (ht : P.underlying t = some (.int .u8)) (h : DataW.trod enc P W 0 sp true n t cs = some x) : ∃ b : UInt8, cs = [rS b] ∧ True := by
  obtain ⟨z, h1, _, h3⟩ := DataW.trod_int ht h
  have h4 : 0 ≤ z ∧ z ≤ 255 := by simpa [Lit.wf, IntKind.min, IntKind.max, IntKind.signed, IntKind.bits] using h3
  refine ⟨UInt8.ofNat z.toNat, ?_, trivial⟩
  have e : (((UInt8.ofNat z.toNat).toNat : Nat) : Int) = z := by
    rw [UInt8.toNat_ofNat']
    omega
  rw [rS, e]
  exact h1
def qg (z : Int) : Prop := -9223372036854775808 ≤ z ∧ z ≤ 9223372036854775807
theorem gy {t : TypeId} {n : Nat} {c : Value} {x : DataW H × List MemPlace} (ht : P.underlying t = some (.int .i64)) (h : DataW.trod enc P W 0 sp true n t [c] = some x) : ∃ z, c = .int .i64 z ∧ qg z := by
  obtain ⟨z, h1, _, h3⟩ := DataW.trod_int ht h
  cases h1
  exact ⟨z, rfl, by unfold qg; simpa [Lit.wf, IntKind.min, IntKind.max, IntKind.signed, IntKind.bits] using h3⟩
theorem lI {t : TypeId} {n : Nat} {c : Value} {x : DataW H × List MemPlace} (ht : P.underlying t = some .string) (h : DataW.trod enc P W 0 sp true n t [c] = some x) : ∃ s : ByteArray, c = .string s ∧ s.size + 1 ≤ Rows.uptoBulk x.1 := by
  obtain ⟨s, h1, h2, _⟩ := DataW.trod_string ht h
  cases h1
  refine ⟨s, rfl, ?_⟩
  rw [h2]
  simp only [Rows.uptoBulk, Array.length_toList]
  exact Nat.le_refl _
end open_
section graph
variable {H : Type} {enc : TypeId × Value → H} {W : World} {sp : Nat → Bool}
theorem yC : ∀ (d : List UInt8) (k : Nat), dx (fun _ b => [rS b]) k d = bL d
  | [], _ => rfl
  | b :: r, k => by rw [dx, yC r (k + 1)]; rfl
theorem yD {n : Nat} {c : Value} {x : DataW H × List MemPlace} (h : DataW.trod enc Tryz.prog W 0 sp true n 41 [c] = some x) :
    ∃ A cp, ∃ d : List UInt8, c = .slice A d.length cp ∧ bI (B0 W) A d ∧ d.length + 1 ≤ Rows.uptoBulk x.1 := by
  obtain ⟨A, cp, xs, D, h1, _, _, h2, _, h3⟩ := sN (α := UInt8) (f := fun b => [rS b]) (Q := fun _ _ => True) Tryz.underlying41 (size := 1) (by kernel_rfl) (by decide) (fun n cs x h => KH Tryz.underlying5 h) (fun _ => rfl) h
  cases h1
  have := sM ((List.range xs.length).map D)
  refine ⟨A, cp, xs, rfl, ?_, by simp at this; omega⟩
  rw [yC] at h2
  exact h2
structure Fh (e : ic) (b : Nat) : Prop where
  id : qg e.id
  name : e.name.size + 1 ≤ b
theorem aY {n : Nat} {cs : List Value} {xs : List (DataW H × List MemPlace)} {i : Nat} {t : TypeId} (h : DataW.trod enc Tryz.prog W 0 sp true n t cs = xs[i]?) (hi : i < xs.length) : DataW.trod enc Tryz.prog W 0 sp true n t cs = some xs[i] ∧ Rows.uptoBulk (xs[i]).1 ≤ Rows.uptoBulk (.agg (xs.map (·.1))) := by
  refine ⟨h.trans (List.getElem?_eq_getElem hi), ?_⟩
  have hm : (xs[i]).1 ∈ xs.map (·.1) := List.mem_map.2 ⟨xs[i], List.getElem_mem hi, rfl⟩
  have := bulk_mem hm
  simp only [Rows.uptoBulk]
  omega
theorem Jj {n : Nat} {cs : List Value} {x : DataW H × List MemPlace} (h : DataW.trod enc Tryz.prog W 0 sp true n 101 cs = some x) : ∃ e : ic, cs = vR e ∧ Fh e (Rows.uptoBulk x.1) := by
  obtain ⟨ys, m, _, hx, hl, kY, hf⟩ := DataW.trod_struct Tryz.underlying101 h
  have hC : Tryz.prog.cellsOf 101 = 2 := by kernel_rfl
  rw [hC] at hl
  match cs, hl with
  | [c0, c1], _ =>
    obtain ⟨h0, b0⟩ := aY (hf 0 _ rfl) (by rw [kY]; decide)
    obtain ⟨h1, _⟩ := aY (hf 1 _ rfl) (by rw [kY]; decide)
    obtain ⟨s, rfl, hs⟩ := lI Tryz.underlying9 h0
    obtain ⟨z, rfl, hz⟩ := gy Tryz.underlying3 h1
    exact ⟨⟨s, z⟩, rfl, ⟨hz, by rw [hx]; exact Nat.le_trans hs b0⟩⟩
theorem G7 {n : Nat} {c : Value} {x : DataW H × List MemPlace} (h : DataW.trod enc Tryz.prog W 0 sp true n 68 [c] = some x) :
    ∃ A cp, ∃ es : List ic, c = .slice A es.length cp ∧ cL (B0 W) A es ∧ es.length + 1 ≤ Rows.uptoBulk x.1 ∧ ∀ i, i < es.length → Fh (en es i) (Rows.uptoBulk x.1) := by
  obtain ⟨A, cp, xs, D, h1, _, _, h2, h4, h3⟩ := sN (α := ic) (f := vR) (Q := fun e d => Fh e (Rows.uptoBulk d)) Tryz.underlying68 (size := 2) (by kernel_rfl) (by decide) (fun n cs x h => Jj h) (fun _ => rfl) h
  cases h1
  have h5 := sM ((List.range xs.length).map D)
  refine ⟨A, cp, xs, rfl, h2, by simp at h5; omega, fun i hi => ⟨(h4 i hi).id, ?_⟩⟩
  have h6 := (h4 i hi).name
  have h7 := wM (D := D) hi
  unfold en
  omega
structure J2 (nd : aN) (b : Nat) : Prop where
  ids : qg nd.id ∧ qg nd.kind ∧ qg nd.mode ∧ qg nd.uid ∧ qg nd.gid ∧ qg nd.sec ∧ qg nd.nano
  data : nd.data.length + 1 ≤ b
  target : nd.target.size + 1 ≤ b
  ah : nd.ah.length + 1 ≤ b
  ent : ∀ i, i < nd.ah.length → Fh (en nd.ah i) b
structure yE where
  n : aN
  dA : Option Addr
  dC : Nat
  eA : Option Addr
  eC : Nat
deriving Inhabited
def MF (a : yE) : List Value := [.int .i64 a.n.id, .int .i64 a.n.kind, .int .i64 a.n.mode, .int .i64 a.n.uid, .int .i64 a.n.gid, .int .i64 a.n.sec, .int .i64 a.n.nano, .slice a.dA a.n.data.length a.dC, .string a.n.target, .slice a.eA a.n.ah.length a.eC]
structure J3 (W : World) (a : yE) (b : Nat) : Prop where
  nb : J2 a.n b
  data : bI (B0 W) a.dA a.n.data
  ah : cL (B0 W) a.eA a.n.ah
theorem G8 {n : Nat} {cs : List Value} {x : DataW H × List MemPlace} (h : DataW.trod enc Tryz.prog W 0 sp true n 70 cs = some x) : ∃ a : yE, cs = MF a ∧ J3 W a (Rows.uptoBulk x.1) := by
  obtain ⟨ys, m, _, hx, hl, kY, hf⟩ := DataW.trod_struct Tryz.underlying70 h
  have hC : Tryz.prog.cellsOf 70 = 10 := by kernel_rfl
  rw [hC] at hl
  match cs, hl with
  | [c0, c1, c2, c3, c4, c5, c6, c7, c8, c9], _ =>
    obtain ⟨h0, _⟩ := aY (hf 0 _ rfl) (by rw [kY]; decide)
    obtain ⟨h1, _⟩ := aY (hf 1 _ rfl) (by rw [kY]; decide)
    obtain ⟨h2, _⟩ := aY (hf 2 _ rfl) (by rw [kY]; decide)
    obtain ⟨h3, _⟩ := aY (hf 3 _ rfl) (by rw [kY]; decide)
    obtain ⟨h4, _⟩ := aY (hf 4 _ rfl) (by rw [kY]; decide)
    obtain ⟨h5, _⟩ := aY (hf 5 _ rfl) (by rw [kY]; decide)
    obtain ⟨h6, b6⟩ := aY (hf 6 _ rfl) (by rw [kY]; decide)
    obtain ⟨h7, b7⟩ := aY (hf 7 _ rfl) (by rw [kY]; decide)
    obtain ⟨h8, b8⟩ := aY (hf 8 _ rfl) (by rw [kY]; decide)
    obtain ⟨z0, rfl, w0⟩ := gy Tryz.underlying3 h0
    obtain ⟨z1, rfl, w1⟩ := gy Tryz.underlying3 h1
    obtain ⟨z2, rfl, w2⟩ := gy Tryz.underlying3 h2
    obtain ⟨z3, rfl, w3⟩ := gy Tryz.underlying3 h3
    obtain ⟨z4, rfl, w4⟩ := gy Tryz.underlying3 h4
    obtain ⟨us, _, _, _, _, oe, hu⟩ := DataW.trod_struct Tryz.underlying26 h5
    obtain ⟨g0, _⟩ := aY (hu 0 _ rfl) (by rw [oe]; decide)
    obtain ⟨g1, _⟩ := aY (hu 1 _ rfl) (by rw [oe]; decide)
    obtain ⟨z5, rfl, w5⟩ := gy (c := c5) Tryz.underlying3 g0
    obtain ⟨z6, rfl, w6⟩ := gy (c := c6) Tryz.underlying3 g1
    obtain ⟨A7, p7, d7, rfl, q7, l7⟩ := yD (c := c7) h6
    obtain ⟨s8, rfl, l8⟩ := lI (c := c8) Tryz.underlying9 h7
    obtain ⟨A9, p9, e9, rfl, q9, l9, k9⟩ := G7 (c := c9) h8
    rw [hx]
    exact ⟨⟨⟨z0, z1, z2, z3, z4, z5, z6, d7, s8, e9⟩, A7, p7, A9, p9⟩, rfl, ⟨⟨w0, w1, w2, w3, w4, w5, w6⟩, Nat.le_trans l7 b6, Nat.le_trans l8 b7, Nat.le_trans l9 b8, fun i hi => ⟨(k9 i hi).id, Nat.le_trans (k9 i hi).name b8⟩⟩, q7, q9⟩
structure qh (ns : List aN) (b : Nat) : Prop where
  len : ns.length + 1 ≤ b
  node : ∀ i, i < ns.length → J2 (nd ns i) b
theorem yG (L : Lay) : ∀ (xs : List yE) (k : Nat), (∀ i, i < xs.length → L.dA (k + i) = (xs.getD i default).dA ∧ L.dC (k + i) = (xs.getD i default).dC ∧ L.eA (k + i) = (xs.getD i default).eA ∧ L.eC (k + i) = (xs.getD i default).eC) → dx (fun _ a => MF a) k xs = dx (nE L) k (xs.map (·.n))
  | [], _, _ => rfl
  | a :: r, k, h => by
    obtain ⟨h1, h2, h3, h4⟩ := h 0 (by simp)
    simp only [Nat.add_zero, List.getD_cons_zero] at h1 h2 h3 h4
    rw [dx, List.map_cons, dx, yG L r (k + 1) (fun i hi => by
      have := h (i + 1) (by simp; omega)
      rw [List.getD_cons_succ] at this
      have e : k + (i + 1) = k + 1 + i := by omega
      rw [e] at this
      exact this)]
    rw [nE, h1, h2, h3, h4]
    rfl
theorem Fj {n : Nat} {c : Value} {x : DataW H × List MemPlace} (h : DataW.trod enc Tryz.prog W 0 sp true n 22 [c] = some x) :
    ∃ A cp, ∃ ns : List aN, ∃ L : Lay, c = .slice A ns.length cp ∧ aC (B0 W) A ns L ∧ qh ns (Rows.uptoBulk x.1) := by
  obtain ⟨A, cp, xs, D, h1, _, _, h2, h4, h3⟩ := sN (α := yE) (f := MF) (Q := fun a d => J3 W a (Rows.uptoBulk d)) Tryz.underlying22 (size := 10) (by kernel_rfl) (by decide) (fun n cs x h => G8 h) (fun _ => rfl) h
  cases h1
  have h5 := sM ((List.range xs.length).map D)
  have e : (xs.map (·.n)).length = xs.length := by simp
  have hnd : ∀ i, i < xs.length → nd (xs.map (·.n)) i = (xs.getD i default).n := fun i hi => by
    simp [nd, List.getD_eq_getElem?_getD, hi]
  refine ⟨A, cp, xs.map (·.n), ⟨fun i => (xs.getD i default).dA, fun i => (xs.getD i default).eA, fun i => (xs.getD i default).dC, fun i => (xs.getD i default).eC⟩, by rw [e], ⟨?_, fun i hi => ?_, fun i hi => ?_⟩, by simp at h5; rw [e]; omega, fun i hi => ?_⟩
  ·rw [yG ⟨fun i => (xs.getD i default).dA, fun i => (xs.getD i default).eA, fun i => (xs.getD i default).dC, fun i => (xs.getD i default).eC⟩ xs 0 (fun i _ => by rw [Nat.zero_add]; exact ⟨rfl, rfl, rfl, rfl⟩)] at h2
   exact h2
  ·rw [e] at hi
   rw [hnd i hi]
   exact (h4 i hi).data
  ·rw [e] at hi
   rw [hnd i hi]
   exact (h4 i hi).ah
  rw [e] at hi
  rw [hnd i hi]
  have h7 := wM (D := D) hi
  have h8 := (h4 i hi).nb
  exact ⟨h8.ids, by have := h8.data; omega, by have := h8.target; omega, by have := h8.ah; omega, fun j hj => ⟨(h8.ent j hj).id, by have := (h8.ent j hj).name; omega⟩⟩
end graph
end
section
open Go.RowKit Go.WideShapes Go.ChangeShapes Go.ChangeAt Go.Deep
theorem B0.refl (W : World) : (B0 W).le (B0 W) := ⟨fun _ h => h, rfl, rfl, rfl, Nat.le_refl _, fun _ hk => ⟨hk, rfl⟩⟩
theorem qh.wide {ns : List aN} {b b' : Nat} (h : qh ns b) (hb : b ≤ b') : qh ns b' := ⟨Nat.le_trans h.len hb, fun i hi => by
  have := h.node i hi
  exact ⟨this.ids, Nat.le_trans this.data hb, Nat.le_trans this.target hb, Nat.le_trans this.ah hb, fun j hj => ⟨(this.ent j hj).id, Nat.le_trans (this.ent j hj).name hb⟩⟩⟩
section gb
variable {ns : List aN} (h : qh ns 1048576)
include h
theorem Bg : ns.length ≤ 1048576 := by have := h.len; omega
theorem Bh : ∀ i, i < ns.length → (nd ns i).data.length ≤ 1048576 ∧ (nd ns i).ah.length ≤ 1048576 := fun i hi => by
  have h1 := (h.node i hi).data
  have h2 := (h.node i hi).ah
  omega
theorem G9 : ∀ i, i < ns.length → ∀ j, j < (nd ns i).ah.length → -9223372036854775808 ≤ (ent ns i j).id ∧ (ent ns i j).id ≤ 9223372036854775807 := fun i hi j hj => ((h.node i hi).ent j hj).id
theorem He : ∀ i, i < ns.length → ∀ j, j < (nd ns i).ah.length → (ent ns i j).name.size ≤ 1048576 := fun i hi j hj => by
  have h1 := ((h.node i hi).ent j hj).name
  unfold ent
  omega
end gb
section a
variable {H : Type} {enc : TypeId × Value → H} {W : World} {sp : Nat → Bool}
def MG (A : Option Addr) (n cp : Nat) (X : FM) : Value := .agg #[.slice A n cp, .int .i64 X.cN, .int .i64 X.cB, .int .i64 X.cH, .int .i64 X.cS, .int .i64 X.cZ]
structure O3 (X : FM) : Prop where
  cN : qg X.cN
  cB : qg X.cB
  cH : qg X.cH
  cS : qg X.cS
  cZ : qg X.cZ
theorem open_start {v : Value} {d : DataW H} {ps : List MemPlace} {r : Go.Reach} {b0 : Nat} (hval : Value.okWide Tryz.prog W r b0 30 v) (h : DataW.Trod enc Tryz.prog W 0 sp true 30 v d ps) :
    ∃ A cp, ∃ ns : List aN, ∃ L : Lay, ∃ X : FM, v = MG A ns.length cp X ∧ aC (B0 W) A ns L ∧ qh ns (Rows.uptoBulk d) ∧ O3 X := by
  obtain ⟨cs, rfl, hcs⟩ := okWide_struct Tryz.underlying30 hval
  obtain ⟨fuel, h⟩ := h
  obtain ⟨ys, m, _, hx, hl, kY, hf⟩ := DataW.trod_struct Tryz.underlying30 h
  have hC : Tryz.prog.cellsOf 30 = 6 := by kernel_rfl
  rw [hC] at hcs
  obtain ⟨cs⟩ := cs
  match cs, hcs with
  | [c0, c1, c2, c3, c4, c5], _ =>
    obtain ⟨h0, b0⟩ := aY (hf 0 _ rfl) (by rw [kY]; decide)
    obtain ⟨h1, _⟩ := aY (hf 1 _ rfl) (by rw [kY]; decide)
    obtain ⟨us, _, _, MH, _, oe, hu⟩ := DataW.trod_struct Tryz.underlying24 h0
    obtain ⟨g0, e0⟩ := aY (hu 0 _ rfl) (by rw [oe]; decide)
    obtain ⟨A, cp, ns, L, rfl, hG, hB⟩ := Fj (c := c0) g0
    obtain ⟨vs, _, _, _, _, hvl, hv⟩ := DataW.trod_struct Tryz.underlying28 h1
    obtain ⟨k0, _⟩ := aY (hv 0 _ rfl) (by rw [hvl]; decide)
    obtain ⟨k1, _⟩ := aY (hv 1 _ rfl) (by rw [hvl]; decide)
    obtain ⟨k2, _⟩ := aY (hv 2 _ rfl) (by rw [hvl]; decide)
    obtain ⟨k3, _⟩ := aY (hv 3 _ rfl) (by rw [hvl]; decide)
    obtain ⟨ts, _, _, _, _, htl, ht⟩ := DataW.trod_struct Tryz.underlying26 k3
    obtain ⟨t0, _⟩ := aY (ht 0 _ rfl) (by rw [htl]; decide)
    obtain ⟨t1, _⟩ := aY (ht 1 _ rfl) (by rw [htl]; decide)
    obtain ⟨z0, rfl, w0⟩ := gy (c := c1) Tryz.underlying3 k0
    obtain ⟨z1, rfl, w1⟩ := gy (c := c2) Tryz.underlying3 k1
    obtain ⟨z2, rfl, w2⟩ := gy (c := c3) Tryz.underlying3 k2
    obtain ⟨z3, rfl, w3⟩ := gy (c := c4) Tryz.underlying3 t0
    obtain ⟨z4, rfl, w4⟩ := gy (c := c5) Tryz.underlying3 t1
    cases hx
    rw [MH] at b0
    exact ⟨A, cp, ns, L, ⟨z0, z1, z2, z3, z4, 0, 0, 0⟩, rfl, hG, hB.wide (Nat.le_trans e0 b0), ⟨w0, w1, w2, w3, w4⟩⟩
end a
end
section
open Go.RowKit Go.Maps HeapM TabM
structure iI where
  c : aV
  a : wz
  root : Int
def sO (x : iI) : List Value := [.int .i64 x.c.op, .int .i64 x.c.handle, .int .i64 x.c.other, .string x.c.name, .string x.c.text, .slice x.c.dA x.c.data.length x.c.dC, .int .i64 x.c.mode, .int .i64 x.c.uid, .int .i64 x.c.gid, .int .i64 x.c.sec, .int .i64 x.c.nano, .int .i64 x.c.code, .int .i64 x.c.answer, .int .i64 x.a.at_, .int .i64 x.a.op, .string x.a.path, .string x.a.to, .string x.a.text, .int .i64 x.root]
instance : Inhabited iI := ⟨⟨⟨0, 0, 0, ⟨#[]⟩, ⟨#[]⟩, none, 0, [], 0, 0, 0, 0, 0, 0, 0⟩, ⟨0, 0, ⟨#[]⟩, ⟨#[]⟩, ⟨#[]⟩⟩, 0⟩⟩
def cT (xs : List iI) (i : Nat) : iI := xs.getD i default
inductive sP (S : aI) (x : iI) : aI → Int → Prop
  | act (h : ¬ x.a.op = 0) : sP S x (actM S x.root x.a).2 (actM S x.root x.a).1
  | call (h : x.a.op = 0) (A : Option Addr) (n : Nat) : sP S x (doM S { x.c with dA := A, dC := n }).1 (doM S { x.c with dA := A, dC := n }).2.code
section p
variable {S S2 S3 : aI} {x : iI} {e : Int} {d to : Nat} {name toName text : ByteArray} {t : Th} {c : aV} {O : bM}
theorem sP.inv (h : sP S x S2 e) (hI : Inv S) : Inv S2 := by
  cases h
  ·exact hI.actM
  exact hI.doM _
theorem sP.err (h : sP S x S2 e) (he : ¬ e = 0) : S2 = S := by
  cases h
  ·exact IB he
  exact Kr he
structure Grow (S S2 : aI) : Prop where
  used : S2.X.used ≤ S.X.used ∨ S2.X.used ≤ S.X.cB
  cB : S2.X.cB = S.X.cB
  cH : S2.X.cH = S.X.cH
  ay : S.ay ≤ S2.ay
end p
end
section
open Go.RowKit Go.WideShapes Go.ChangeShapes Go.ChangeAt Go.Deep
def MI (xs : List iI) : List Value := dx (fun _ x => sO x) 0 xs
structure sQ (β : Bs) (x : iI) (b : Nat) : Prop where
  data : bI β x.c.dA x.c.data
  len : x.c.data.length ≤ b
  name : x.c.name.size ≤ b
  text : x.c.text.size ≤ b
  path : x.a.path.size ≤ b
  to : x.a.to.size ≤ b
  txt : x.a.text.size ≤ b
  hw : (Lit.int .i64 x.c.handle).wf = true
  ow : (Lit.int .i64 x.c.other).wf = true
  rw : (Lit.int .i64 x.root).wf = true
theorem sQ.le {β β' : Bs} {x : iI} {b : Nat} (h : sQ β x b) (hle : β.le β') : sQ β' x b := ⟨h.data.le hle, h.len, h.name, h.text, h.path, h.to, h.txt, h.hw, h.ow, h.rw⟩
structure cg (β : Bs) (A : Option Addr) (xs : List iI) : Prop where
  row : dX β A (MI xs)
  st : ∀ i, i < xs.length → sQ β (cT xs i) 1048576
theorem cg.le {β β' : Bs} {A : Option Addr} {xs : List iI} (h : cg β A xs) (hle : β.le β') : cg β' A xs := ⟨h.row.le hle, fun i hi => (h.st i hi).le hle⟩
section s
variable {β : Bs} {A : Option Addr} {xs : List iI} {i j : Nat} {v : Value}
theorem cg.get (h : cg β A xs) (hi : i < xs.length) (hv : (sO (cT xs i))[j]? = some v) : A = some ⟨av A, au A, none⟩ ∧ Rd β ⟨av A, au A + i * 19 + j, none⟩ v := by
  have hj : j < 19 := bA hv
  have h1 := nK (f := fun _ x => sO x) (s := 19) (fun _ _ => rfl) xs 0 i j _ (getD_some (x := default) hi) hj
  have := h.row (i * 19 + j) v (h1.trans hv)
  rw [← Nat.add_assoc] at this
  exact this
theorem cg.hd (h : cg β A xs) (hi : i < xs.length) : A = some ⟨av A, au A, none⟩ := (h.get hi (j := 0) rfl).1
theorem cg.rd (h : cg β A xs) (hi : i < xs.length) (hv : (sO (cT xs i))[j]? = some v) : Rd β ⟨av A, au A + i * 19 + j, none⟩ v := (h.get hi hv).2
end s
section a
variable {H : Type} {enc : TypeId × Value → H} {W : World} {sp : Nat → Bool}
theorem iz {t : TypeId} {n : Nat} {c : Value} {x : DataW H × List MemPlace} (ht : Tryz.prog.underlying t = some (.int .i64)) (h : DataW.trod enc Tryz.prog W 0 sp true n t [c] = some x) : ∃ z, c = .int .i64 z ∧ (Lit.int .i64 z).wf = true := by
  obtain ⟨z, h1, _, h3⟩ := DataW.trod_int ht h
  cases h1
  exact ⟨z, rfl, h3⟩
theorem Hf {n : Nat} {cs : List Value} {x : DataW H × List MemPlace} (h : DataW.trod enc Tryz.prog W 0 sp true n 47 cs = some x) : ∃ a : iI, cs = sO a ∧ sQ (B0 W) a (Rows.uptoBulk x.1) := by
  obtain ⟨ys, m, _, hx, hl, kY, hf⟩ := DataW.trod_struct Tryz.underlying47 h
  have hC : Tryz.prog.cellsOf 47 = 19 := by kernel_rfl
  rw [hC] at hl
  match cs, hl with
  | [c0, c1, c2, c3, c4, c5, c6, c7, c8, c9, c10, c11, c12, c13, c14, c15, c16, c17, c18], _ =>
    obtain ⟨hc, bc⟩ := aY (hf 0 _ rfl) (by rw [kY]; decide)
    obtain ⟨ha, ba⟩ := aY (hf 1 _ rfl) (by rw [kY]; decide)
    obtain ⟨hr, _⟩ := aY (hf 2 _ rfl) (by rw [kY]; decide)
    obtain ⟨us, _, _, MH, _, oe, hu⟩ := DataW.trod_struct Tryz.underlying43 hc
    obtain ⟨h0, _⟩ := aY (hu 0 _ rfl) (by rw [oe]; decide)
    obtain ⟨h1, _⟩ := aY (hu 1 _ rfl) (by rw [oe]; decide)
    obtain ⟨h2, _⟩ := aY (hu 2 _ rfl) (by rw [oe]; decide)
    obtain ⟨h3, b3⟩ := aY (hu 3 _ rfl) (by rw [oe]; decide)
    obtain ⟨h4, b4⟩ := aY (hu 4 _ rfl) (by rw [oe]; decide)
    obtain ⟨h5, b5⟩ := aY (hu 5 _ rfl) (by rw [oe]; decide)
    obtain ⟨h6, _⟩ := aY (hu 6 _ rfl) (by rw [oe]; decide)
    obtain ⟨h7, _⟩ := aY (hu 7 _ rfl) (by rw [oe]; decide)
    obtain ⟨h8, _⟩ := aY (hu 8 _ rfl) (by rw [oe]; decide)
    obtain ⟨h9, _⟩ := aY (hu 9 _ rfl) (by rw [oe]; decide)
    obtain ⟨h10, _⟩ := aY (hu 10 _ rfl) (by rw [oe]; decide)
    obtain ⟨h11, _⟩ := aY (hu 11 _ rfl) (by rw [oe]; decide)
    obtain ⟨ts, _, _, _, _, htl, ht⟩ := DataW.trod_struct Tryz.underlying26 h9
    obtain ⟨t0, _⟩ := aY (ht 0 _ rfl) (by rw [htl]; decide)
    obtain ⟨t1, _⟩ := aY (ht 1 _ rfl) (by rw [htl]; decide)
    obtain ⟨vs, _, _, PK, _, hvl, hv⟩ := DataW.trod_struct Tryz.underlying45 ha
    obtain ⟨a0, _⟩ := aY (hv 0 _ rfl) (by rw [hvl]; decide)
    obtain ⟨a1, _⟩ := aY (hv 1 _ rfl) (by rw [hvl]; decide)
    obtain ⟨a2, e2⟩ := aY (hv 2 _ rfl) (by rw [hvl]; decide)
    obtain ⟨a3, e3⟩ := aY (hv 3 _ rfl) (by rw [hvl]; decide)
    obtain ⟨a4, e4⟩ := aY (hv 4 _ rfl) (by rw [hvl]; decide)
    obtain ⟨z0, rfl, w0⟩ := iz (c := c0) Tryz.underlying3 h0
    obtain ⟨z1, rfl, w1⟩ := iz (c := c1) Tryz.underlying3 h1
    obtain ⟨z2, rfl, w2⟩ := iz (c := c2) Tryz.underlying3 h2
    obtain ⟨s3, rfl, l3⟩ := lI (c := c3) Tryz.underlying9 h3
    obtain ⟨s4, rfl, l4⟩ := lI (c := c4) Tryz.underlying9 h4
    obtain ⟨A5, p5, d5, rfl, q5, l5⟩ := yD (c := c5) h5
    obtain ⟨z6, rfl, w6⟩ := iz (c := c6) Tryz.underlying3 h6
    obtain ⟨z7, rfl, w7⟩ := iz (c := c7) Tryz.underlying3 h7
    obtain ⟨z8, rfl, w8⟩ := iz (c := c8) Tryz.underlying3 h8
    obtain ⟨z9, rfl, w9⟩ := iz (c := c9) Tryz.underlying3 t0
    obtain ⟨PL, rfl, QM⟩ := iz (c := c10) Tryz.underlying3 t1
    obtain ⟨PN, rfl, QN⟩ := iz (c := c11) Tryz.underlying34 h10
    obtain ⟨z12, rfl, QO⟩ := iz (c := c12) Tryz.underlying3 h11
    obtain ⟨PO, rfl, QS⟩ := iz (c := c13) Tryz.underlying3 a0
    obtain ⟨PS, rfl, QT⟩ := iz (c := c14) Tryz.underlying3 a1
    obtain ⟨Oa, rfl, QU⟩ := lI (c := c15) Tryz.underlying9 a2
    obtain ⟨Ob, rfl, QV⟩ := lI (c := c16) Tryz.underlying9 a3
    obtain ⟨Oc, rfl, QW⟩ := lI (c := c17) Tryz.underlying9 a4
    obtain ⟨PU, rfl, PV⟩ := iz (c := c18) Tryz.underlying3 hr
    have hbx : Rows.uptoBulk x.1 = Rows.uptoBulk (.agg (ys.map (·.1))) := by rw [hx]
    have QX : Rows.uptoBulk (ys[0]'(by rw [kY]; decide)).1 = Rows.uptoBulk (.agg (us.map (·.1))) := by rw [MH]
    have QY : Rows.uptoBulk (ys[1]'(by rw [kY]; decide)).1 = Rows.uptoBulk (.agg (vs.map (·.1))) := by rw [PK]
    exact ⟨⟨⟨z0, z1, z2, s3, s4, A5, p5, d5, z6, z7, z8, z9, PL, PN, z12⟩, ⟨PO, PS, Oa, Ob, Oc⟩, PU⟩, rfl, ⟨q5, by show d5.length ≤ _; omega, by show s3.size ≤ _; omega, by show s4.size ≤ _; omega, by show Oa.size ≤ _; omega, by show Ob.size ≤ _; omega, by show Oc.size ≤ _; omega, w1, w2, PV⟩⟩
theorem open_steps {v : Value} {d : DataW H} {ps : List MemPlace} {r : Go.Reach} {b0 : Nat} (hval : Value.okWide Tryz.prog W r b0 31 v) (h : DataW.Trod enc Tryz.prog W 0 sp true 31 v d ps) (hb : Rows.uptoBulk d ≤ 1048576) :
    ∃ A cp, ∃ xs : List iI, v = .slice A xs.length cp ∧ cg (B0 W) A xs ∧ xs.length ≤ 1048576 ∧ xs.length ≤ cp := by
  obtain ⟨a, n, c, rfl⟩ := okWide_slice Tryz.underlying31 hval
  obtain ⟨fuel, h⟩ := h
  obtain ⟨A, cp, xs, D, h1, Hg, _, h2, h4, h3⟩ := sN (α := iI) (f := sO) (Q := fun a d => sQ (B0 W) a (Rows.uptoBulk d)) Tryz.underlying31 (size := 19) (by kernel_rfl) (by decide) (fun n cs x h => Hf h) (fun _ => rfl) h
  cases h1
  have h5 := sM ((List.range xs.length).map D)
  have h3 : Rows.uptoBulkAll ((List.range xs.length).map D) + 1 ≤ Rows.uptoBulk d := h3
  refine ⟨a, c, xs, rfl, ⟨h2, fun i hi => ?_⟩, by simp at h5; omega, Hg⟩
  have h6 := h4 i hi
  have h7 := wM (D := D) hi
  exact ⟨h6.data, Nat.le_trans h6.len (by omega), Nat.le_trans h6.name (by omega), Nat.le_trans h6.text (by omega), Nat.le_trans h6.path (by omega), Nat.le_trans h6.to (by omega), Nat.le_trans h6.txt (by omega), h6.hw, h6.ow, h6.rw⟩
end a
end
section
open Go.RowKit Go.Maps HeapM TabM
attribute [local irreducible] ai aR af aj
theorem Jk {β : Bs} : dZ Tryz.prog β 8 #[] [] (fun _ v l => v = .bool true ∧ l = []) := by
 refine dZ.enter Tryz.func8 rfl Tryz.ntmps8 (Nat.le_of_ble_eq_true rfl) (fun hle0 R => ?_)
 refine SR ?_
 refine gK 1 [] [] ?_
 refine NS ?_
 refine ai.nD (d := (some 7)) (R := [.abs R]) (pk := [0]) (fun _ => by kernel_rfl) (G5) rfl (by kernel_rfl) ?_
 rintro β1 _ _ lP ⟨B, Y, rfl, rfl, hG⟩
 replace hle0 := hle0.trans lP
 refine gN 2 (fun b2 => [(1, vP b2)]) (fun b2 => [(1, A_ 1 b2 6)]) (fun _ => []) (fun b2 => .blk b2 [.slice B (2) (2), vI 9, vI 99, vI 9, vI 0, vI 0] 30) (fun b2 => ?_)
 refine NS ?_
 refine gK 4 [(10, .agg #[.slice B (2) (2)]), (12, .agg #[vI 9, vI 99, vI 9, vI 0, vI 0])] [(1, a_ 1 b2), (3, A_ 1 b2 5)] ?_
 refine gL [] (Fg (room := 99) (cp := 2) (by decide) hG) ?_
 rintro _ _ ⟨S, f3, m4, t5, L, h0, rfl, rfl⟩
 refine gK 5 [(2, vP f3), (3, vI 0)] [] ?_
 refine NN (af.seq (SR ?_))
 refine gK 6 [(21, .bool false)] [] ?_
 refine NN ?_
 refine CF ?_
 refine af.skip (NX (SR ?_))
 refine gK 2 [(22, vP f3), (23, .agg #[vI 1, vI 0, vI 1, .string ⟨#[]⟩, .string ⟨#[]⟩, .slice none (0) (0), vI 0, vI 0, vI 0, vI 0, vI 0, vI 0, vI 0])] [] ?_
 have bT : Inv (S1 S) := by have h := h0.inv.doM sK; rw [CX h0] at h; exact h
 refine gL [0, 1, 2, 3, 4, 5] (wL (β := β1) (f := f3) (m := m4) (t := t5) (L := L) h0.inv (zK (by decide) (by decide) (by decide) (by decide) rfl) (CX h0)) ?_
 rintro _ _ ⟨L1, rfl, rfl⟩
 refine gN 2 (fun b6 => [(4, vP b6)]) (fun b6 => [(1, A_ 8 b6 13)]) (fun _ => []) (fun b6 => .blk b6 [vI 1, vI 0, vI 1, .string ⟨#[]⟩, .string ⟨#[]⟩, .slice none (0) (0), vI 0, vI 0, vI 0, vI 0, vI 0, vI 0, vI 1] 43) (fun b6 => ?_)
 refine NS ?_
 refine gK 2 [(25, vP f3), (26, .agg #[vI 4, vI 1, vI 0, .string ⟨#[100]⟩, .string ⟨#[]⟩, .slice none (0) (0), vI 448, vI 0, vI 0, vI 0, vI 0, vI 0, vI 0])] [] ?_
 obtain ⟨S2, hd2, PW, hn2, hc2, ha2, hk2⟩ := MC h0
 have tj : Inv S2 := by have h := bT.doM rN; rw [hd2] at h; exact h
 refine gL [0, 1, 2, 3, 4, 5] (wL (β := β1) (f := f3) (m := m4) (t := t5) (L := L1) bT (zK (by decide) (by decide) (by decide) (by decide) rfl) hd2) ?_
 rintro _ _ ⟨L2, rfl, rfl⟩
 refine gN 2 (fun b7 => [(5, vP b7)]) (fun b7 => [(1, A_ 9 b7 13)]) (fun _ => []) (fun b7 => .blk b7 [vI 4, vI 1, vI 0, .string ⟨#[100]⟩, .string ⟨#[]⟩, .slice none (0) (0), vI 448, vI 0, vI 0, vI 0, vI 0, vI 0, vI 0] 43) (fun b7 => ?_)
 refine NS ?_
 refine gK 2 [(28, vP f3), (29, .agg #[vI 2, vI 1, vI 0, .string ⟨#[100]⟩, .string ⟨#[]⟩, .slice none (0) (0), vI 0, vI 0, vI 0, vI 0, vI 0, vI 0, vI 0])] [] ?_
 obtain ⟨S3, hd3, PX⟩ := ME PW hc2 ha2 hk2
 have PY : Inv S3 := by have h := tj.doM yx; rw [hd3] at h; exact h
 refine gL [0, 1, 2, 3, 4, 5] (wL (β := β1) (f := f3) (m := m4) (t := t5) (L := L2) tj (zK (by decide) (by decide) (by decide) (by decide) rfl) hd3) ?_
 rintro _ _ ⟨L3, rfl, rfl⟩
 refine gN 2 (fun b8 => [(6, vP b8)]) (fun b8 => [(1, A_ 10 b8 13)]) (fun _ => []) (fun b8 => .blk b8 [vI 2, vI 1, vI 0, .string ⟨#[100]⟩, .string ⟨#[]⟩, .slice none (0) (0), vI 0, vI 0, vI 0, vI 0, vI 0, vI 0, vI 2] 43) (fun b8 => ?_)
 refine NS ?_
 refine gK 20 [(49, .bool true), (50, vP f3)] [(1, a_ 8 b6), (5, a_ 8 b6), (10, a_ 9 b7), (15, a_ 10 b8)] ?_
 refine ai.nD (d := (some 51)) (R := [pT t5 S3.X.cH S3.ay L3 S3.us, .abs R, .blk b2 [.slice B (2) (2), vI 9, vI 99, vI 9, vI 0, vI 0] 30, .blk b6 [vI 1, vI 0, vI 1, .string ⟨#[]⟩, .string ⟨#[]⟩, .slice none (0) (0), vI 0, vI 0, vI 0, vI 0, vI 0, vI 0, vI 1] 43, .blk b7 [vI 4, vI 1, vI 0, .string ⟨#[100]⟩, .string ⟨#[]⟩, .slice none (0) (0), vI 448, vI 0, vI 0, vI 0, vI 0, vI 0, vI 0] 43, .blk b8 [vI 2, vI 1, vI 0, .string ⟨#[100]⟩, .string ⟨#[]⟩, .slice none (0) (0), vI 0, vI 0, vI 0, vI 0, vI 0, vI 0, vI 2] 43]) (pk := [0, 1, 3, 4, 5, 2, 6, 7, 8, 9, 10]) (fun _ => by kernel_rfl) (yB (β := β1) (S := S3) (L := L3) (f := f3) (m := m4) (t := t5) PY) rfl (by kernel_rfl) ?_
 rintro PJ _ _ rO ⟨A4, c4, K4, rfl, rfl, _⟩
 replace hG := hG.le rO
 replace hle0 := hle0.trans rO
 refine gK 5 [(0, .bool (decide ((((3 : Nat) : Int) : Int) = (3 : Int))))] [(1, p_ ⟨[], none, none, none, some (vI (((3 : Nat) : Int)))⟩ [((vI ↑((aM S3).length) : Value)) = (vI (((3 : Nat) : Int)))] ⟨by rw [mF, PX, hn2], trivial⟩)] ?_
 refine NN (af.ret ?_)
 exact aj.tC (v := .bool (decide ((((3 : Nat) : Int) : Int) = (3 : Int)))) (l := []) (aq := []) [] [6] hle0 (fun _ => by kernel_rfl) trivial rfl (by kernel_rfl) (⟨rfl, rfl⟩)
end
section
open Go.RowKit Go.Maps HeapM TabM
attribute [local irreducible] ai aR af aj
theorem Dt {β : Bs} (c : aV) (hD : bI β c.dA c.data) (hl : c.data.length ≤ 1048576) :
    dZ Tryz.prog β 14 #[.agg ⟨gh c⟩] [] (fun β' v l => ∃ B cp, v = .agg ⟨gh { c with dA := B, dC := cp }⟩ ∧ l = [] ∧ bI β' B c.data ∧ c.data.length ≤ cp) := by
 refine dZ.enter Tryz.func14 rfl Tryz.ntmps14 (Nat.le_of_ble_eq_true rfl) (fun hle0 R => ?_)
 refine SR ?_
 refine gN 1 (fun b1 => [(1, vP b1)]) (fun _ => []) (fun _ => []) (fun b1 => .blk b1 [vI (c.op), vI (c.handle), vI (c.other), .string c.name, .string c.text, .slice c.dA (c.data.length) (c.dC), vI (c.mode), vI (c.uid), vI (c.gid), vI (c.sec), vI (c.nano), vI (c.code), vI (c.answer)] 43) (fun b1 => ?_)
 refine gN 1 (fun b2 => [(2, vP b2)]) (fun _ => []) (fun _ => []) (fun b2 => .blk b2 [vI 0, vI 0, vI 0, .string ⟨#[]⟩, .string ⟨#[]⟩, .slice none (0) (0), vI 0, vI 0, vI 0, vI 0, vI 0, vI 0, vI 0] 43) (fun b2 => ?_)
 refine NS ?_
 refine gK 2 [(4, .slice c.dA (c.data.length) (c.dC))] [(1, a_ 1 b1)] ?_
 refine ai.nD (d := (some 5)) (R := [.abs R, pC b1 c, .blk b2 [vI 0, vI 0, vI 0, .string ⟨#[]⟩, .string ⟨#[]⟩, .slice none (0) (0), vI 0, vI 0, vI 0, vI 0, vI 0, vI 0, vI 0] 43]) (pk := [0, 1, 2]) (fun _ => by kernel_rfl) (AO c.dA c.dC c.data hD hl) rfl (by kernel_rfl) ?_
 rintro QZ _ _ KI ⟨B, cp, rfl, rfl, hB, Hg⟩
 replace hle0 := hle0.trans KI
 refine gC 2 [] [(1, a_ 1 b1)] [(1, [(5, .slice B (c.data.length) (cp))])] ?_
 refine NS ?_
 refine gC 2 [] [(0, A_ 1 b1 13), (1, A_ 2 b2 13)] [(2, [(0, vI (c.op)), (1, vI (c.handle)), (2, vI (c.other)), (3, .string c.name), (4, .string c.text), (5, .slice B (c.data.length) (cp)), (6, vI (c.mode)), (7, vI (c.uid)), (8, vI (c.gid)), (9, vI (c.sec)), (10, vI (c.nano)), (11, vI (c.code)), (12, vI (c.answer))])] ?_
 refine NN (af.ret ?_)
 exact aj.tC (v := .agg #[vI (c.op), vI (c.handle), vI (c.other), .string c.name, .string c.text, .slice B (c.data.length) (cp), vI (c.mode), vI (c.uid), vI (c.gid), vI (c.sec), vI (c.nano), vI (c.code), vI (c.answer)]) (l := []) (aq := [b2 = b2, b2 = b2, b2 = b2, b2 = b2, b2 = b2, b2 = b2, b2 = b2, b2 = b2, b2 = b2, b2 = b2, b2 = b2, b2 = b2, b2 = b2]) [.at 2, .at 2, .at 2, .at 2, .at 2, .at 2, .at 2, .at 2, .at 2, .at 2, .at 2, .at 2, .at 2] [0] hle0 (fun _ => by kernel_rfl) ⟨rfl, rfl, rfl, rfl, rfl, rfl, rfl, rfl, rfl, rfl, rfl, rfl, rfl, trivial⟩ rfl (by kernel_rfl) (⟨B, cp, rfl, rfl, hB, Hg⟩)
theorem KJ {β : Bs} (S : aI) (L : HL) (f m t : Nat) (hI : Inv S) (x : iI) (hq : sQ β x 1048576) (hg : iY β) :
    dZ Tryz.prog β 13 #[vP f, .agg ⟨sO x⟩] [.blk f [vI (S.X.cN), vI (S.X.cB), vI (S.X.cH), vI (S.X.cS), vI (S.X.cZ), .map (some m), vP t, vI (S.X.last), vI (S.X.ah), vI (S.X.used)] 86, .abs (aH Tryz.prog 3 m (aP (aK L S.idx)) S.idx.length), .abs (aZ 156 t S.X.cH S.ay (aK L S.us)), .abs (ak (aQ S.O L)), .abs (ak (aW S.O L)), .abs (ak (bh S.O L))] (fun _ v l => ∃ L2 S2 e, sP S x S2 e ∧ v = vI e ∧ l = [.blk f [vI (S2.X.cN), vI (S2.X.cB), vI (S2.X.cH), vI (S2.X.cS), vI (S2.X.cZ), .map (some m), vP t, vI (S2.X.last), vI (S2.X.ah), vI (S2.X.used)] 86, .abs (aH Tryz.prog 3 m (aP (aK L2 S2.idx)) S2.idx.length), .abs (aZ 156 t S2.X.cH S2.ay (aK L2 S2.us)), .abs (ak (aQ S2.O L2)), .abs (ak (aW S2.O L2)), .abs (ak (bh S2.O L2))]) := by
 refine dZ.enter Tryz.func13 rfl Tryz.ntmps13 (Nat.le_of_ble_eq_true rfl) (fun hle0 R => ?_)
 refine SR ?_
 refine gN 2 (fun b4 => [(3, vP b4)]) (fun _ => []) (fun _ => []) (fun b4 => .blk b4 [vI (x.c.op), vI (x.c.handle), vI (x.c.other), .string x.c.name, .string x.c.text, .slice x.c.dA (x.c.data.length) (x.c.dC), vI (x.c.mode), vI (x.c.uid), vI (x.c.gid), vI (x.c.sec), vI (x.c.nano), vI (x.c.code), vI (x.c.answer), vI (x.a.at_), vI (x.a.op), .string x.a.path, .string x.a.to, .string x.a.text, vI (x.root)] 47) (fun b4 => ?_)
 refine NN (af.seq (SR ?_))
 refine gK 4 [(8, .bool (!(decide ((x.a.op : Int) = (0 : Int)))))] [(2, a_ 7 b4)] ?_
 refine NN ?_
 refine af.cr (p := (x.a.op : Int) = (0 : Int)) (fun _ => by kernel_rfl) (fun h8 => ?_) (fun h8 => ?_)
 ·refine SR ?_
  refine gK 5 [(9, vP f), (11, vI (x.root)), (13, .agg #[vI (x.a.at_), vI (x.a.op), .string x.a.path, .string x.a.to, .string x.a.text])] [(2, a_ 7 b4), (4, A_ 7 b4 5)] ?_
  refine gL [0, 1, 2, 3, 4, 5] (Kw S L f m t hI x.root hq.rw x.a hq.path hq.to hq.txt hg) ?_
  rintro _ _ ⟨L2, rfl, rfl⟩
  refine gK 1 [(4, vI ((actM S x.root x.a).1))] [] ?_
  refine NN (af.ret (aj.ar ?_))
  exact aj.tC (v := vI ((actM S x.root x.a).1)) (l := (pA f m t L2 ((actM S x.root x.a).2))) (aq := []) [] [0, 1, 2, 3, 4, 5, 6] hle0 (fun _ => by kernel_rfl) trivial rfl (by kernel_rfl) (⟨L2, _, _, .act h8, rfl, rfl⟩)
 refine af.skip (NX (SR ?_))
 refine gK 3 [(15, vP f), (17, .agg #[vI (x.c.op), vI (x.c.handle), vI (x.c.other), .string x.c.name, .string x.c.text, .slice x.c.dA (x.c.data.length) (x.c.dC), vI (x.c.mode), vI (x.c.uid), vI (x.c.gid), vI (x.c.sec), vI (x.c.nano), vI (x.c.code), vI (x.c.answer)])] [(2, A_ 7 b4 13)] ?_
 refine ai.nD (d := (some 18)) (R := ((pA f m t L S) ++ [.abs R, .blk b4 [vI (x.c.op), vI (x.c.handle), vI (x.c.other), .string x.c.name, .string x.c.text, .slice x.c.dA (x.c.data.length) (x.c.dC), vI (x.c.mode), vI (x.c.uid), vI (x.c.gid), vI (x.c.sec), vI (x.c.nano), vI (x.c.code), vI (x.c.answer), vI (x.a.at_), vI (x.a.op), .string x.a.path, .string x.a.to, .string x.a.text, vI (x.root)] 47])) (pk := [0, 1, 2, 3, 4, 5, 6, 7]) (fun _ => by kernel_rfl) (Dt x.c hq.data hq.len) rfl (by kernel_rfl) ?_
 rintro Q0 _ _ KL ⟨B, cp, rfl, rfl, hB, Hg⟩
 replace hle0 := hle0.trans KL
 refine gL [0, 1, 2, 3, 4, 5] (GI S L f m t hI { x.c with dA := B, dC := cp } ⟨hq.hw, hq.ow, hq.name, hq.text, hB, Nat.le_trans hq.len (by decide), Hg⟩) ?_
 rintro _ _ ⟨L2, rfl, rfl⟩
 refine gK 2 [(4, vI ((doM S { x.c with dA := B, dC := cp }).2.code))] [] ?_
 refine NN (af.ret ?_)
 exact aj.tC (v := vI ((doM S { x.c with dA := B, dC := cp }).2.code)) (l := (pA f m t L2 ((doM S { x.c with dA := B, dC := cp }).1))) (aq := []) [] [0, 1, 2, 3, 4, 5, 6] hle0 (fun _ => by kernel_rfl) trivial rfl (by kernel_rfl) (⟨L2, _, _, .call h8 B cp, rfl, rfl⟩)
theorem MJ {β : Bs} (A : Option Addr) (c : Nat) (xs : List iI) (hc : xs.length ≤ c) :
    Spec Tryz.prog β 12 #[.slice A xs.length c] [] (fun v l => ∃ n, n ≤ xs.length ∧ v = .slice A n c ∧ l = []) := by
 refine Spec.enter Tryz.func12 rfl Tryz.ntmps12 (Nat.le_of_ble_eq_true rfl) (fun R => ?_)
 refine SR ?_
 refine gK 1 [] [] ?_
 refine NN (af.seq (SR ?_))
 refine gK 3 [(5, .bool (decide ((((xs.length : Nat) : Int) : Int) > (300 : Int))))] [] ?_
 refine NN ?_
 refine af.bB (p := (((xs.length : Nat) : Int) : Int) > (300 : Int)) (fun _ => by kernel_rfl) (fun h5 => ?_) (fun h5 => ?_)
 ·refine SR ?_
  refine gK 3 [(2, .slice A (300) (c))] [(1, p_ ⟨[], some 300, none, none, none⟩ [300 = ((300 : Nat) : Int), 300 ≤ c] ⟨rfl, by omega, trivial⟩)] ?_
  refine NN (af.ret (aj.ar ?_))
  exact RT (.slice A (300) (c)) [0] (⟨300, by omega, rfl, rfl⟩)
 refine af.skip (NX (SR ?_))
 refine gK 2 [(2, .slice A (xs.length) (c))] [] ?_
 refine NN (af.ret ?_)
 exact RT (.slice A (xs.length) (c)) [0] (⟨xs.length, Nat.le_refl _, rfl, rfl⟩)
end
section
open Go.RowKit HeapM TabM Go.Maps
abbrev Fk (X : FM) (ns : List aN) := { S : aI // eu X ns ns.length 0 S }
abbrev J4 := { e : Int // e ≠ 0 }
theorem Jl {β : Bs} {ns : List aN} {X : FM} (hcap : oV X) (hok : bU ns) (B : Option Addr) (cp : Nat) (hl : ns.length ≤ 1048576) (hd : ∀ i, i < ns.length → (nd ns i).data.length ≤ 1048576 ∧ (nd ns i).ah.length ≤ 1048576) (hwf : ∀ i, i < ns.length → ∀ j, j < (nd ns i).ah.length → -9223372036854775808 ≤ (ent ns i j).id ∧ (ent ns i j).id ≤ 9223372036854775807) (hnm : ∀ i, i < ns.length → ∀ j, j < (nd ns i).ah.length → (ent ns i j).name.size ≤ 1048576) :
    Spec Tryz.prog β 9 #[.agg #[.slice B ns.length cp], .agg #[.int .i64 X.cN, .int .i64 X.cB, .int .i64 X.cH, .int .i64 X.cS, .int .i64 X.cZ]] [.abs (mB β (fun β' => ∃ K, aC β' B ns K))] (fun v l => ∃ (S : Fk X ns) (f m t : Nat) (L : HL), v = .tuple #[.pointer (some ⟨f, 0, none⟩), .int .i64 0] ∧ l = pA f m t L S.1) :=
  Spec.EG fun _ _ ⟨K, hG⟩ => (zJ B cp ns K hG hl hd hwf hnm X).mono (by
    rintro v l (⟨h, _⟩ | ⟨_, h, _⟩ | ⟨_, _, h⟩)
    ·exact absurd hcap h
    ·exact absurd hok h
    obtain ⟨S, f, m, t, L, h1, h2, h3⟩ := h
    exact ⟨⟨S, h1⟩, f, m, t, L, h2, h3⟩)
theorem Hj {β : Bs} {ns : List aN} {X : FM} (O4 : ¬ (oV X ∧ bU ns)) (B : Option Addr) (cp : Nat) (hl : ns.length ≤ 1048576) (hd : ∀ i, i < ns.length → (nd ns i).data.length ≤ 1048576 ∧ (nd ns i).ah.length ≤ 1048576) (hwf : ∀ i, i < ns.length → ∀ j, j < (nd ns i).ah.length → -9223372036854775808 ≤ (ent ns i j).id ∧ (ent ns i j).id ≤ 9223372036854775807) (hnm : ∀ i, i < ns.length → ∀ j, j < (nd ns i).ah.length → (ent ns i j).name.size ≤ 1048576) :
    Spec Tryz.prog β 9 #[.agg #[.slice B ns.length cp], .agg #[.int .i64 X.cN, .int .i64 X.cB, .int .i64 X.cH, .int .i64 X.cS, .int .i64 X.cZ]] [.abs (mB β (fun β' => ∃ K, aC β' B ns K))] (fun v l => ∃ e : J4, v = .tuple #[.pointer none, .int .i64 e.1] ∧ l = []) :=
  Spec.EG fun _ _ ⟨K, hG⟩ => (zJ B cp ns K hG hl hd hwf hnm X).mono (by
    rintro v l (⟨_, h1, h2⟩ | ⟨_, _, h1, h2⟩ | ⟨h1, h2, _⟩)
    ·exact ⟨⟨179, by decide⟩, h1, h2⟩
    ·exact ⟨⟨140, by decide⟩, h1, h2⟩
    exact absurd ⟨h1, h2⟩ O4)
theorem Fl {β : Bs} (S : aI) (L : HL) (f m t : Nat) : dZ Tryz.prog β 18 #[vP f] [pF f m t S.X, pT t S.X.cH S.ay L S.us] (fun β' v l => ∃ A c, v = .slice A S.us.length c ∧ l = [pF f m t S.X, pT t S.X.cH S.ay L S.us] ∧ dX β' A (ints (keys S.us))) :=
  (AA S L f m t).Ff (by
    rintro v l ⟨A, c, rfl, rfl⟩
    refine ⟨[_, _], _, rfl, fun β' h => ⟨A, c, rfl, rfl, ?_⟩⟩
    obtain ⟨F, h1, h2⟩ := h.get 0 rfl
    exact dX.j8 h1 h2 rfl)
theorem Hl {β : Bs} (A B : Option Addr) (c d : Nat) {n1 n2 : Nat} {l1 l2 : List Int} (e1 : n1 = l1.length) (e2 : n2 = l2.length) (e : l1 = l2) (hB : dX β B (ints l2)) (hl : l1.length ≤ 1048576) :
    Spec Tryz.prog β 19 #[.slice A n1 c, .slice B n2 d] [.abs (aF 3 1 A n1 c (ints l1))] (fun v l => v = .bool true ∧ l = [.abs (aF 3 1 A n1 c (ints l1))]) := by
  subst e1 e2 e
  refine (Spec.Ef (pre := []) (post := fun v l => v = .bool true ∧ l = []) (fun β' g => ?_)).mono (by rintro v l ⟨l0, ⟨rfl, rfl⟩, rfl⟩; exact ⟨rfl, rfl⟩)
  obtain ⟨F, h1, h2⟩ := g.get 0 rfl
  exact Jh A B c d l1 (dX.j8 h1 h2 rfl) (hB.le g.le) hl
theorem mZ (us : Used Th) : us.length = (keys us).length := (List.length_map ..).symm
theorem MK {S : aI} (h : Inv0 S) : (keys S.us).length ≤ 1048576 := by
  rw [← mZ]
  have h1 := h.xw
  have h2 := h.cH
  omega
theorem Jm {S : aI} (h : Inv0 S) : (aM S).length ≤ 1048576 := by
  rw [mF]
  have := h.len
  omega
end
section
open Go.RowKit Go.Maps HeapM TabM
attribute [local irreducible] ai aR af aj
theorem law_refused (W : World) (A : Option Addr) (c : Nat) (ns : List aN) (Y : Lay) (X : FM) (hG : aC (B0 W) A ns Y) (hB : qh ns 1048576) (A1 : Option Addr) (c1 : Nat) (xs : List iI) (hS : cg (B0 W) A1 xs) (hxl : xs.length ≤ 1048576) (hxc : xs.length ≤ c1) (hg : iY (B0 W)) :
    Spec Tryz.prog (B0 W) 4 #[.agg #[.slice A (ns.length) (c), vI (X.cN), vI (X.cB), vI (X.cH), vI (X.cS), vI (X.cZ)], .slice A1 (xs.length) (c1)] [] (fun v _ => v = .bool true) := by
 have hle0 := B0.refl W
 refine Spec.enter Tryz.func4 rfl Tryz.ntmps4 (Nat.le_of_ble_eq_true rfl) (fun R => ?_)
 refine SR ?_
 refine gN 2 (fun b1 => [(2, vP b1)]) (fun _ => []) (fun _ => []) (fun b1 => .blk b1 [.slice A (ns.length) (c), vI (X.cN), vI (X.cB), vI (X.cH), vI (X.cS), vI (X.cZ)] 30) (fun b1 => ?_)
 refine NN (af.seq (SR ?_))
 refine ai.nD (d := (some 10)) (R := [.abs R, .blk b1 [.slice A (ns.length) (c), vI (X.cN), vI (X.cB), vI (X.cH), vI (X.cS), vI (X.cZ)] 30]) (pk := [0, 1]) (fun _ => by kernel_rfl) (Jk) rfl (by kernel_rfl) ?_
 rintro rf _ _ kC ⟨rfl, rfl⟩
 replace hG := hG.le kC
 replace hS := hS.le kC
 replace hg := hg.le kC
 replace hle0 := hle0.trans kC
 refine gK 1 [(11, .bool false)] [] ?_
 refine NN ?_
 refine CF ?_
 refine af.skip (NX (af.seq ?_))
 by_cases Jo : oV X ∧ bU ns
 ·refine af.kM (S := [.blk b1 [.slice A (ns.length) (c), vI (X.cN), vI (X.cB), vI (X.cH), vI (X.cS), vI (X.cZ)] 30]) [(true, 0), (true, 1), (true, 3), (true, 4), (false, 2), (false, 5), (true, 6), (true, 7), (true, 8), (true, 9), (false, 10)] [1] (by kernel_rfl) (by kernel_rfl) rfl (by kernel_rfl) ?_
  refine dS.reads (l := [(false, 2), (false, 5), (true, 6), (true, 7), (true, 8), (true, 9), (false, 10)]) (fr' := [(1, .slice A1 (xs.length) (c1)), (14, .agg #[.slice A (ns.length) (c)]), (17, .agg #[vI (X.cN), vI (X.cB), vI (X.cH), vI (X.cS), vI (X.cZ)])]) (aq := [b1 = b1, b1 = b1, b1 = b1, b1 = b1, b1 = b1, b1 = b1]) [0, 1, 3, 4] [o_, ⟨[.at 0], none, none, none, none⟩, o_, ⟨[.at 0, .at 0, .at 0, .at 0, .at 0], none, none, none, none⟩] [1, 14, 17] (fun _ => by kernel_rfl) ⟨rfl, rfl, rfl, rfl, rfl, rfl, trivial⟩ rfl ?_
  refine dS.cut (ι := (Option Addr) × Nat) (fr' := fun ((B, cp) : (Option Addr) × Nat) => [(1, .slice A1 (xs.length) (c1)), (15, .agg #[.slice B (ns.length) (cp)]), (17, .agg #[vI (X.cN), vI (X.cB), vI (X.cH), vI (X.cS), vI (X.cZ)])]) (hp' := fun ((B, cp) : (Option Addr) × Nat) => [.abs (mB rf (fun β' => ∃ K, aC β' B ns K)), .abs R, .blk b1 [.slice A (ns.length) (c), vI (X.cN), vI (X.cB), vI (X.cH), vI (X.cS), vI (X.cZ)] 30]) [2] (by kernel_rfl) ?_ rfl (fun _ => by kernel_rfl) ?_
  ·refine gL [] (tu (β := rf) A c ns Y hG (Bg hB) (Bh hB)) ?_
   rintro _ _ ⟨B, cp, rfl, rfl⟩
   refine NL ?_
   exact MD (B, cp) [1, 15, 17] [0, 1, 2]
  rintro ⟨B, cp⟩
  refine dS.cut (ι := (Fk X ns) × Nat × Nat × Nat × HL) (fr' := fun ((N, f, m, t, L) : (Fk X ns) × Nat × Nat × Nat × HL) => [(1, .slice A1 (xs.length) (c1)), (18, .tuple #[vP f, vI 0])]) (hp' := fun ((N, f, m, t, L) : (Fk X ns) × Nat × Nat × Nat × HL) => [.blk f [vI (N.1.X.cN), vI (N.1.X.cB), vI (N.1.X.cH), vI (N.1.X.cS), vI (N.1.X.cZ), .map (some m), vP t, vI (N.1.X.last), vI (N.1.X.ah), vI (N.1.X.used)] 86, .abs (aH Tryz.prog 3 m (aP (aK L N.1.idx)) N.1.idx.length), .abs (aZ 156 t N.1.X.cH N.1.ay (aK L N.1.us)), .abs (ak (aQ N.1.O L)), .abs (ak (aW N.1.O L)), .abs (ak (bh N.1.O L)), .abs R, .blk b1 [.slice A (ns.length) (c), vI (X.cN), vI (X.cB), vI (X.cH), vI (X.cS), vI (X.cZ)] 30]) [7] (by kernel_rfl) ?_ rfl (fun _ => by kernel_rfl) ?_
  ·refine gL [0] (Jl (β := rf) (X := X) Jo.1 Jo.2 B cp (Bg hB) (Bh hB) (G9 hB) (He hB)) ?_
   rintro _ _ ⟨N, f, m, t, L, rfl, rfl⟩
   refine NL ?_
   exact MD (N, f, m, t, L) [1, 18] [0, 1, 2, 3, 4, 5, 6, 7]
  rintro ⟨N, f, m, t, L⟩
  refine dS.reads (l := [(false, 10)]) (fr' := [(1, .slice A1 (xs.length) (c1)), (5, vP f), (20, vI 0)]) (aq := []) [6, 7, 8, 9] [o_, o_, o_, o_] [1, 5, 20] (fun _ => by kernel_rfl) trivial rfl ?_
  refine dS.last (by kernel_rfl) ?_
  refine gK 1 [(6, vI 0)] [] ?_
  refine NL (aj.np (NX (af.seq (SR ?_))))
  refine gK 6 [(26, .bool false)] [] ?_
  refine NN ?_
  refine CF ?_
  refine af.skip (NX (SR ?_))
  refine gK 1 [(33, .slice A1 (xs.length) (c1))] [] ?_
  refine gL [] (MJ A1 c1 xs hxc) ?_
  rintro _ _ ⟨n, hn, rfl, rfl⟩
  refine gK 1 [(1, .slice A1 (n) (c1))] [] ?_
  refine NN (af.seq (SR ?_))
  refine gK 1 [(7, vI 0)] [] ?_
  refine NN (af.block ?_)
  refine af.Jr (ι := Nat × Bs × aI × HL) (fun ((i, b, S, L) : Nat × Bs × aI × HL) => b) (fun ((i, b, S, L) : Nat × Bs × aI × HL) => (i ≤ n) ∧ ((B0 W).le b) ∧ (cg b A1 xs) ∧ (iY b) ∧ (Inv S)) (fun ((i, b, S, L) : Nat × Bs × aI × HL) => n - i) (fun ((i, b, S, L) : Nat × Bs × aI × HL) => [(1, .slice A1 (n) (c1)), (5, vP f), (7, vI ↑i)]) (fun ((i, b, S, L) : Nat × Bs × aI × HL) => [.blk b1 [.slice A (ns.length) (c), vI (X.cN), vI (X.cB), vI (X.cH), vI (X.cS), vI (X.cZ)] 30, pF f m t S.X, pI m L S.idx, pT t S.X.cH S.ay L S.us, pO S.O L, pD S.O L, pE S.O L, .abs R]) (0, rf, N.1, L) rfl (idx := [1, 5, 7]) (pk := [7, 0, 1, 2, 3, 4, 5, 6]) (show (0 ≤ n) ∧ ((B0 W).le rf) ∧ (cg rf A1 xs) ∧ (iY rf) ∧ (Inv N.1) from ⟨Nat.zero_le _, hle0, hS, hg, N.2.full⟩) (fun _ => by kernel_rfl) rfl (by kernel_rfl) ?_
  rintro ⟨i, b, S, L⟩ ⟨hi, hle0, hS, hg, hI⟩
  show af _ b _ _ [(1, .slice A1 (n) (c1)), (5, vP f), (7, vI ↑i)] [.blk b1 [.slice A (ns.length) (c), vI (X.cN), vI (X.cB), vI (X.cH), vI (X.cS), vI (X.cZ)] 30, pF f m t S.X, pI m L S.idx, pT t S.X.cH S.ay L S.us, pO S.O L, pD S.O L, pE S.O L, .abs R] _
  refine af.seq (SR ?_)
  refine gK 4 [(38, .bool (decide ((((i : Nat) : Int) : Int) < (((n : Nat) : Int) : Int))))] [] ?_
  refine NN ?_
  refine af.bB (p := (((i : Nat) : Int) : Int) < (((n : Nat) : Int) : Int)) (fun _ => by kernel_rfl) (fun tG => ?_) (fun tG => ?_)
  ·refine af.skip (NX (af.seq (af.block (SR ?_))))
   refine gK 1 [(41, vP f)] [] ?_
   refine ai.nD (d := (some 42)) (R := [.blk b1 [.slice A (ns.length) (c), vI (X.cN), vI (X.cB), vI (X.cH), vI (X.cS), vI (X.cZ)] 30, pT t S.X.cH S.ay L S.us, .abs R]) (pk := [1, 2, 4, 5, 6, 0, 3, 7]) (fun _ => by kernel_rfl) (yB (β := b) (S := S) (L := L) (f := f) (m := m) (t := t) hI) rfl (by kernel_rfl) ?_
   rintro PZ _ _ zL ⟨G3, c4, K5, rfl, rfl, hH⟩
   replace hS := hS.le zL
   replace hg := hg.le zL
   replace hle0 := hle0.trans zL
   refine gN 2 (fun b7 => [(8, vP b7)]) (fun b7 => [(1, a_ 8 b7)]) (fun _ => []) (fun b7 => .blk b7 [.slice G3 ((aM S).length) (c4)] 24) (fun b7 => ?_)
   refine NS ?_
   refine gK 1 [(43, vP f)] [] ?_
   refine ai.nD (d := (some 44)) (R := [pI m L S.idx, pO S.O L, pD S.O L, pE S.O L, .blk b1 [.slice A (ns.length) (c), vI (X.cN), vI (X.cB), vI (X.cH), vI (X.cS), vI (X.cZ)] 30, .abs R, .blk b7 [.slice G3 ((aM S).length) (c4)] 24]) (pk := [0, 6, 1, 2, 3, 4, 5, 7, 8]) (fun _ => by kernel_rfl) (Fl (β := PZ) S L f m t) rfl (by kernel_rfl) ?_
   rintro jv _ _ sR ⟨H8, c9, rfl, rfl, ML⟩
   replace hS := hS.le sR
   replace hg := hg.le sR
   replace hH := hH.le sR
   replace hle0 := hle0.trans sR
   refine gK 1 [(9, .slice H8 (S.us.length) (c9))] [] ?_
   refine NN (af.seq (SR ?_))
   refine gK 5 [(45, vP f), (49, .agg #[vI ((cT xs i).c.op), vI ((cT xs i).c.handle), vI ((cT xs i).c.other), .string (cT xs i).c.name, .string (cT xs i).c.text, .slice (cT xs i).c.dA ((cT xs i).c.data.length) ((cT xs i).c.dC), vI ((cT xs i).c.mode), vI ((cT xs i).c.uid), vI ((cT xs i).c.gid), vI ((cT xs i).c.sec), vI ((cT xs i).c.nano), vI ((cT xs i).c.code), vI ((cT xs i).c.answer), vI ((cT xs i).a.at_), vI ((cT xs i).a.op), .string (cT xs i).a.path, .string (cT xs i).a.to, .string (cT xs i).a.text, vI ((cT xs i).root)])] [(3, p_ ⟨[], some i, none, some ⟨(av A1), au A1, none⟩, none⟩ [((i : Nat) : Int) = ((i : Nat) : Int), i < n, (⟨(av A1), au A1, none⟩ : Addr).spot = none, (A1 : Option Addr) = some ⟨(av A1), au A1, none⟩] ⟨rfl, by omega, rfl, cg.hd hS (i := i) (by omega), trivial⟩), (4, p_ ⟨[.old (vI ((cT xs i).c.op)), .old (vI ((cT xs i).c.handle)), .old (vI ((cT xs i).c.other)), .old (.string (cT xs i).c.name), .old (.string (cT xs i).c.text), .old (.slice (cT xs i).c.dA ((cT xs i).c.data.length) ((cT xs i).c.dC)), .old (vI ((cT xs i).c.mode)), .old (vI ((cT xs i).c.uid)), .old (vI ((cT xs i).c.gid)), .old (vI ((cT xs i).c.sec)), .old (vI ((cT xs i).c.nano)), .old (vI ((cT xs i).c.code)), .old (vI ((cT xs i).c.answer)), .old (vI ((cT xs i).a.at_)), .old (vI ((cT xs i).a.op)), .old (.string (cT xs i).a.path), .old (.string (cT xs i).a.to), .old (.string (cT xs i).a.text), .old (vI ((cT xs i).root))], none, none, none, none⟩ [(Rd jv ⟨(av A1), au A1 + i * 19 + 18, none⟩ (vI ((cT xs i).root))), (Rd jv ⟨(av A1), au A1 + i * 19 + 17, none⟩ (.string (cT xs i).a.text)), (Rd jv ⟨(av A1), au A1 + i * 19 + 16, none⟩ (.string (cT xs i).a.to)), (Rd jv ⟨(av A1), au A1 + i * 19 + 15, none⟩ (.string (cT xs i).a.path)), (Rd jv ⟨(av A1), au A1 + i * 19 + 14, none⟩ (vI ((cT xs i).a.op))), (Rd jv ⟨(av A1), au A1 + i * 19 + 13, none⟩ (vI ((cT xs i).a.at_))), (Rd jv ⟨(av A1), au A1 + i * 19 + 12, none⟩ (vI ((cT xs i).c.answer))), (Rd jv ⟨(av A1), au A1 + i * 19 + 11, none⟩ (vI ((cT xs i).c.code))), (Rd jv ⟨(av A1), au A1 + i * 19 + 10, none⟩ (vI ((cT xs i).c.nano))), (Rd jv ⟨(av A1), au A1 + i * 19 + 9, none⟩ (vI ((cT xs i).c.sec))), (Rd jv ⟨(av A1), au A1 + i * 19 + 8, none⟩ (vI ((cT xs i).c.gid))), (Rd jv ⟨(av A1), au A1 + i * 19 + 7, none⟩ (vI ((cT xs i).c.uid))), (Rd jv ⟨(av A1), au A1 + i * 19 + 6, none⟩ (vI ((cT xs i).c.mode))), (Rd jv ⟨(av A1), au A1 + i * 19 + 5, none⟩ (.slice (cT xs i).c.dA ((cT xs i).c.data.length) ((cT xs i).c.dC))), (Rd jv ⟨(av A1), au A1 + i * 19 + 4, none⟩ (.string (cT xs i).c.text)), (Rd jv ⟨(av A1), au A1 + i * 19 + 3, none⟩ (.string (cT xs i).c.name)), (Rd jv ⟨(av A1), au A1 + i * 19 + 2, none⟩ (vI ((cT xs i).c.other))), (Rd jv ⟨(av A1), au A1 + i * 19 + 1, none⟩ (vI ((cT xs i).c.handle))), (Rd jv ⟨(av A1), au A1 + i * 19, none⟩ (vI ((cT xs i).c.op)))] ⟨cg.rd hS (i := i) (by omega) (j := 18) rfl, cg.rd hS (i := i) (by omega) (j := 17) rfl, cg.rd hS (i := i) (by omega) (j := 16) rfl, cg.rd hS (i := i) (by omega) (j := 15) rfl, cg.rd hS (i := i) (by omega) (j := 14) rfl, cg.rd hS (i := i) (by omega) (j := 13) rfl, cg.rd hS (i := i) (by omega) (j := 12) rfl, cg.rd hS (i := i) (by omega) (j := 11) rfl, cg.rd hS (i := i) (by omega) (j := 10) rfl, cg.rd hS (i := i) (by omega) (j := 9) rfl, cg.rd hS (i := i) (by omega) (j := 8) rfl, cg.rd hS (i := i) (by omega) (j := 7) rfl, cg.rd hS (i := i) (by omega) (j := 6) rfl, cg.rd hS (i := i) (by omega) (j := 5) rfl, cg.rd hS (i := i) (by omega) (j := 4) rfl, cg.rd hS (i := i) (by omega) (j := 3) rfl, cg.rd hS (i := i) (by omega) (j := 2) rfl, cg.rd hS (i := i) (by omega) (j := 1) rfl, cg.rd hS (i := i) (by omega) (j := 0) rfl, trivial⟩)] ?_
   refine ai.nD (d := (some 50)) (R := [.blk b1 [.slice A (ns.length) (c), vI (X.cN), vI (X.cB), vI (X.cH), vI (X.cS), vI (X.cZ)] 30, .abs R, .blk b7 [.slice G3 ((aM S).length) (c4)] 24]) (pk := [0, 2, 1, 3, 4, 5, 6, 7, 8]) (fun _ => by kernel_rfl) (KJ (β := jv) S L f m t hI (cT xs i) (hS.st i (by omega)) hg) rfl (by kernel_rfl) ?_
   rintro qZ _ _ qi ⟨L2, S2, e, hp, rfl, rfl⟩
   replace hS := hS.le qi
   replace hg := hg.le qi
   replace hH := hH.le qi
   replace ML := ML.le qi
   replace hle0 := hle0.trans qi
   refine gK 1 [(51, .bool (decide ((e : Int) = (0 : Int))))] [] ?_
   refine NN ?_
   refine af.bB (p := (e : Int) = (0 : Int)) (fun _ => by kernel_rfl) (fun Od => ?_) (fun Od => ?_)
   ·have tj := hp.inv hI
    refine af.exit (aj.bg (aj.cA (NX (af.region ?_))))
    refine gK 3 [(7, vI ↑(i + 1))] [(1, p_ ⟨[], none, none, none, some (vI ↑(i + 1))⟩ [(Value.int .i64 (IntKind.wrap .i64 (((i : Nat) : Int) + 1))) = (vI ↑(i + 1))] ⟨bJ (by omega) (by omega) (by omega), trivial⟩)] ?_
    refine NL ?_
    exact aj.Ea ((i + 1), qZ, S2, L2) (hb := rfl) (idx := [1, 5, 7]) (pk := [6, 0, 1, 2, 3, 4, 5, 7]) (show (((i + 1)) ≤ n) ∧ ((B0 W).le qZ) ∧ (cg qZ A1 xs) ∧ (iY qZ) ∧ (Inv S2) from ⟨by omega, hle0, hS, hg, tj⟩) (by show n - ((i + 1)) < n - i; omega) (fun _ => by kernel_rfl) rfl (by kernel_rfl)
   have tj := hp.inv hI
   have ox : S2 = S := hp.err Od
   refine af.skip (NX (af.seq ?_))
   refine af.kM (S := [.blk b7 [.slice G3 ((aM S).length) (c4)] 24]) [(true, 0), (true, 2), (false, 1), (false, 3), (true, 4), (true, 5), (true, 6), (true, 8), (false, 7), (false, 9), (true, 10), (false, 11)] [8] (by kernel_rfl) (by kernel_rfl) rfl (by kernel_rfl) ?_
   refine dS.reads (l := [(false, 1), (false, 3), (true, 4), (true, 5), (true, 6), (true, 8), (false, 7), (false, 9), (true, 10), (false, 11)]) (fr' := [(1, .slice A1 (n) (c1)), (5, vP f), (7, vI ↑i), (9, .slice H8 (S.us.length) (c9)), (52, vP f), (54, .agg #[.slice G3 ((aM S).length) (c4)])]) (aq := [b7 = b7]) [0, 2] [o_, ⟨[.at 0], none, none, none, none⟩] [1, 5, 7, 9, 52, 54] (fun _ => by kernel_rfl) ⟨rfl, trivial⟩ rfl ?_
   refine dS.cut (ι := (Option Addr) × Nat × Lay) (fr' := fun ((Ao, co, Ko) : (Option Addr) × Nat × Lay) => [(1, .slice A1 (n) (c1)), (5, vP f), (7, vI ↑i), (9, .slice H8 (S.us.length) (c9)), (53, .agg #[.slice Ao ((aM S2).length) (co)]), (54, .agg #[.slice G3 ((aM S).length) (c4)])]) (hp' := fun ((Ao, co, Ko) : (Option Addr) × Nat × Lay) => [.blk f [vI (S2.X.cN), vI (S2.X.cB), vI (S2.X.cH), vI (S2.X.cS), vI (S2.X.cZ), .map (some m), vP t, vI (S2.X.last), vI (S2.X.ah), vI (S2.X.used)] 86, .abs (aH Tryz.prog 3 m (aP (aK L2 S2.idx)) S2.idx.length), .abs (ak (aQ S2.O L2)), .abs (ak (aW S2.O L2)), .abs (ak (bh S2.O L2)), .abs (aF 70 10 Ao ((aM S2).length) co (bV Ko (aM S2))), .abs (dL (gJ (aM S2) Ko) (aM S2).length), .abs (dL (fY (aM S2) Ko) (aM S2).length), .abs (aZ 156 t S2.X.cH S2.ay (aK L2 S2.us)), .blk b1 [.slice A (ns.length) (c), vI (X.cN), vI (X.cB), vI (X.cH), vI (X.cS), vI (X.cZ)] 30, .abs R, .blk b7 [.slice G3 ((aM S).length) (c4)] 24]) [11] (by kernel_rfl) ?_ rfl (fun _ => by kernel_rfl) ?_
   ·refine gL [0, 1, 3, 4, 5] (Au (β := qZ) S2 L2 f m t tj) ?_
    rintro _ _ ⟨Ao, co, Ko, rfl, rfl⟩
    refine NL ?_
    exact MD (Ao, co, Ko) [1, 5, 7, 9, 53, 54] [0, 1, 2, 3, 4, 5, 6, 7, 8, 9, 10, 11]
   rintro ⟨Ao, co, Ko⟩
   refine dS.cut (ι := Unit) (fr' := fun (_ : Unit) => [(1, .slice A1 (n) (c1)), (5, vP f), (7, vI ↑i), (9, .slice H8 (S.us.length) (c9)), (55, .bool true)]) (hp' := fun (_ : Unit) => [.abs (aF 70 10 Ao ((aM S2).length) co (bV Ko (aM S2))), .abs (dL (gJ (aM S2) Ko) (aM S2).length), .abs (dL (fY (aM S2) Ko) (aM S2).length), .blk f [vI (S2.X.cN), vI (S2.X.cB), vI (S2.X.cH), vI (S2.X.cS), vI (S2.X.cZ), .map (some m), vP t, vI (S2.X.last), vI (S2.X.ah), vI (S2.X.used)] 86, .abs (aH Tryz.prog 3 m (aP (aK L2 S2.idx)) S2.idx.length), .abs (ak (aQ S2.O L2)), .abs (ak (aW S2.O L2)), .abs (ak (bh S2.O L2)), .abs (aZ 156 t S2.X.cH S2.ay (aK L2 S2.us)), .blk b1 [.slice A (ns.length) (c), vI (X.cN), vI (X.cB), vI (X.cH), vI (X.cS), vI (X.cZ)] 30, .abs R, .blk b7 [.slice G3 ((aM S).length) (c4)] 24]) [11] (by kernel_rfl) ?_ rfl (fun _ => by kernel_rfl) ?_
   ·refine gL [5, 6, 7] (AP Ao G3 co c4 (aM S2) (aM S) Ko K5 hH (Jm tj.toInv0) (Jg tj.toInv0) (decide_eq_true (by rw [ox]))) ?_
    rintro _ _ ⟨rfl, rfl⟩
    refine NL ?_
    exact MD () [1, 5, 7, 9, 55] [0, 1, 2, 3, 4, 5, 6, 7, 8, 9, 10, 11]
   rintro _
   refine dS.reads (l := [(false, 7), (false, 9), (true, 10), (false, 11)]) (fr' := [(1, .slice A1 (n) (c1)), (5, vP f), (7, vI ↑i), (57, .bool false), (58, vP f), (60, .slice H8 (S.us.length) (c9))]) (aq := []) [4, 5, 6, 8] [o_, o_, o_, o_] [1, 5, 7, 57, 58, 60] (fun _ => by kernel_rfl) trivial rfl ?_
   refine dS.cut (ι := (Option Addr) × Nat) (fr' := fun ((Ah, ch) : (Option Addr) × Nat) => [(1, .slice A1 (n) (c1)), (5, vP f), (7, vI ↑i), (57, .bool false), (59, .slice Ah (S2.us.length) (ch)), (60, .slice H8 (S.us.length) (c9))]) (hp' := fun ((Ah, ch) : (Option Addr) × Nat) => [.blk f [vI (S2.X.cN), vI (S2.X.cB), vI (S2.X.cH), vI (S2.X.cS), vI (S2.X.cZ), .map (some m), vP t, vI (S2.X.last), vI (S2.X.ah), vI (S2.X.used)] 86, .abs (aZ 156 t S2.X.cH S2.ay (aK L2 S2.us)), .abs (aF 3 1 Ah S2.us.length ch (ints (keys S2.us))), .abs (aF 70 10 Ao ((aM S2).length) co (bV Ko (aM S2))), .abs (dL (gJ (aM S2) Ko) (aM S2).length), .abs (dL (fY (aM S2) Ko) (aM S2).length), .abs (aH Tryz.prog 3 m (aP (aK L2 S2.idx)) S2.idx.length), .abs (ak (aQ S2.O L2)), .abs (ak (aW S2.O L2)), .abs (ak (bh S2.O L2)), .blk b1 [.slice A (ns.length) (c), vI (X.cN), vI (X.cB), vI (X.cH), vI (X.cS), vI (X.cZ)] 30, .abs R, .blk b7 [.slice G3 ((aM S).length) (c4)] 24]) [12] (by kernel_rfl) ?_ rfl (fun _ => by kernel_rfl) ?_
   ·refine gL [3, 8] (AA (β := qZ) S2 L2 f m t) ?_
    rintro _ _ ⟨Ah, ch, rfl, rfl⟩
    refine NL ?_
    exact MD (Ah, ch) [1, 5, 7, 57, 59, 60] [0, 1, 2, 3, 4, 5, 6, 7, 8, 9, 10, 11, 12]
   rintro ⟨Ah, ch⟩
   refine dS.cut (ι := Unit) (fr' := fun (_ : Unit) => [(1, .slice A1 (n) (c1)), (5, vP f), (7, vI ↑i), (57, .bool false), (61, .bool true)]) (hp' := fun (_ : Unit) => [.abs (aF 3 1 Ah S2.us.length ch (ints (keys S2.us))), .blk f [vI (S2.X.cN), vI (S2.X.cB), vI (S2.X.cH), vI (S2.X.cS), vI (S2.X.cZ), .map (some m), vP t, vI (S2.X.last), vI (S2.X.ah), vI (S2.X.used)] 86, .abs (aZ 156 t S2.X.cH S2.ay (aK L2 S2.us)), .abs (aF 70 10 Ao ((aM S2).length) co (bV Ko (aM S2))), .abs (dL (gJ (aM S2) Ko) (aM S2).length), .abs (dL (fY (aM S2) Ko) (aM S2).length), .abs (aH Tryz.prog 3 m (aP (aK L2 S2.idx)) S2.idx.length), .abs (ak (aQ S2.O L2)), .abs (ak (aW S2.O L2)), .abs (ak (bh S2.O L2)), .blk b1 [.slice A (ns.length) (c), vI (X.cN), vI (X.cB), vI (X.cH), vI (X.cS), vI (X.cZ)] 30, .abs R, .blk b7 [.slice G3 ((aM S).length) (c4)] 24]) [12] (by kernel_rfl) ?_ rfl (fun _ => by kernel_rfl) ?_
   ·refine gL [2] (Hl Ah H8 ch c9 (mZ S2.us) (mZ S.us) (by rw [ox]) ML (MK tj.toInv0)) ?_
    rintro _ _ ⟨rfl, rfl⟩
    refine NL ?_
    exact MD () [1, 5, 7, 57, 61] [0, 1, 2, 3, 4, 5, 6, 7, 8, 9, 10, 11, 12]
   rintro _
   refine dS.reads (l := [(false, 11)]) (fr' := [(1, .slice A1 (n) (c1)), (5, vP f), (7, vI ↑i), (57, .bool false), (62, .bool false)]) (aq := []) [10] [o_] [1, 5, 7, 57, 62] (fun _ => by kernel_rfl) trivial rfl ?_
   refine dS.last (by kernel_rfl) ?_
   refine gK 1 [(63, .bool false)] [] ?_
   refine NL (aj.np (NX ?_))
   refine CF ?_
   refine af.skip (aj.aT (NX (af.region ?_)))
   refine gK 3 [(7, vI ↑(i + 1))] [(1, p_ ⟨[], none, none, none, some (vI ↑(i + 1))⟩ [(Value.int .i64 (IntKind.wrap .i64 (((i : Nat) : Int) + 1))) = (vI ↑(i + 1))] ⟨bJ (by omega) (by omega) (by omega), trivial⟩)] ?_
   refine NL ?_
   exact aj.Ea ((i + 1), qZ, S2, L2) (hb := rfl) (idx := [1, 5, 7]) (pk := [10, 1, 6, 2, 7, 8, 9, 11]) (show (((i + 1)) ≤ n) ∧ ((B0 W).le qZ) ∧ (cg qZ A1 xs) ∧ (iY qZ) ∧ (Inv S2) from ⟨by omega, hle0, hS, hg, tj⟩) (by show n - ((i + 1)) < n - i; omega) (fun _ => by kernel_rfl) rfl (by kernel_rfl)
  refine af.exit (aj.bg (aj.bg (aj.cA (NX (SR ?_)))))
  refine gK 1 [(4, .bool true)] [] ?_
  refine NN (af.ret ?_)
  exact aj.KO (v := .bool true) (l := []) (aq := []) [] [7] hle0 (fun _ => by kernel_rfl) trivial rfl (by kernel_rfl) (rfl)
 refine af.kM (S := [.blk b1 [.slice A (ns.length) (c), vI (X.cN), vI (X.cB), vI (X.cH), vI (X.cS), vI (X.cZ)] 30]) [(true, 0), (true, 1), (true, 3), (true, 4), (false, 2), (false, 5), (true, 6), (true, 7), (true, 8), (true, 9), (false, 10)] [1] (by kernel_rfl) (by kernel_rfl) rfl (by kernel_rfl) ?_
 refine dS.reads (l := [(false, 2), (false, 5), (true, 6), (true, 7), (true, 8), (true, 9), (false, 10)]) (fr' := [(1, .slice A1 (xs.length) (c1)), (14, .agg #[.slice A (ns.length) (c)]), (17, .agg #[vI (X.cN), vI (X.cB), vI (X.cH), vI (X.cS), vI (X.cZ)])]) (aq := [b1 = b1, b1 = b1, b1 = b1, b1 = b1, b1 = b1, b1 = b1]) [0, 1, 3, 4] [o_, ⟨[.at 0], none, none, none, none⟩, o_, ⟨[.at 0, .at 0, .at 0, .at 0, .at 0], none, none, none, none⟩] [1, 14, 17] (fun _ => by kernel_rfl) ⟨rfl, rfl, rfl, rfl, rfl, rfl, trivial⟩ rfl ?_
 refine dS.cut (ι := (Option Addr) × Nat) (fr' := fun ((B, cp) : (Option Addr) × Nat) => [(1, .slice A1 (xs.length) (c1)), (15, .agg #[.slice B (ns.length) (cp)]), (17, .agg #[vI (X.cN), vI (X.cB), vI (X.cH), vI (X.cS), vI (X.cZ)])]) (hp' := fun ((B, cp) : (Option Addr) × Nat) => [.abs (mB rf (fun β' => ∃ K, aC β' B ns K)), .abs R, .blk b1 [.slice A (ns.length) (c), vI (X.cN), vI (X.cB), vI (X.cH), vI (X.cS), vI (X.cZ)] 30]) [2] (by kernel_rfl) ?_ rfl (fun _ => by kernel_rfl) ?_
 ·refine gL [] (tu (β := rf) A c ns Y hG (Bg hB) (Bh hB)) ?_
  rintro _ _ ⟨B, cp, rfl, rfl⟩
  refine NL ?_
  exact MD (B, cp) [1, 15, 17] [0, 1, 2]
 rintro ⟨B, cp⟩
 refine dS.cut (ι := J4) (fr' := fun (e : J4) => [(1, .slice A1 (xs.length) (c1)), (18, .tuple #[.pointer none, vI (e.1)])]) (hp' := fun (e : J4) => [.abs R, .blk b1 [.slice A (ns.length) (c), vI (X.cN), vI (X.cB), vI (X.cH), vI (X.cS), vI (X.cZ)] 30]) [1] (by kernel_rfl) ?_ rfl (fun _ => by kernel_rfl) ?_
 ·refine gL [0] (Hj (β := rf) (X := X) Jo B cp (Bg hB) (Bh hB) (G9 hB) (He hB)) ?_
  rintro _ _ ⟨e, rfl, rfl⟩
  refine NL ?_
  exact MD e [1, 18] [0, 1]
 rintro e
 refine dS.reads (l := [(false, 10)]) (fr' := [(1, .slice A1 (xs.length) (c1)), (5, .pointer none), (20, vI (e.1))]) (aq := []) [6, 7, 8, 9] [o_, o_, o_, o_] [1, 5, 20] (fun _ => by kernel_rfl) trivial rfl ?_
 refine dS.last (by kernel_rfl) ?_
 refine gK 1 [(6, vI (e.1))] [] ?_
 refine NL (aj.np (NX (af.seq (SR ?_))))
 refine gK 3 [(23, .bool (!(decide ((e.1 : Int) = (0 : Int)))))] [] ?_
 refine ai.fM 23 ((e.1 : Int) = (0 : Int)) (fun _ => by kernel_rfl) (fun h23 => ?_) (fun h23 => ?_)
 ·refine gK 3 [(26, .bool true)] [] ?_
  refine NN ?_
  refine CT ?_
  refine SR ?_
  refine gK 7 [(4, .bool true)] [(4, p_ ⟨[], none, none, none, some (.bool true)⟩ [((.bool (!(decide ((e.1 : Int) = (0 : Int)))) : Value)) = (.bool true)] ⟨by simp [e.2], trivial⟩)] ?_
  refine NN (af.ret (aj.ar ?_))
  exact aj.KO (v := .bool true) (l := []) (aq := []) [] [0] hle0 (fun _ => by kernel_rfl) trivial rfl (by kernel_rfl) (rfl)
 exact absurd h23 e.2
end
section
open Go.RowKit
def CZ (h : Array Obj) (g : Nat) (cs : List Nat) : Array Obj := h.modify g fun
  | .cells _ t frozen => .cells (cs.map (fun (n : Nat) => Value.int .u8 n)).toArray t frozen
  | o => o
noncomputable def laidWorld (os : Os) : World :=
  { World.holding Tryz.prog os ⟨#[], #[], []⟩ with heap := CZ (CZ (World.holding Tryz.prog os ⟨#[], #[], []⟩).heap 1 Go.Pinned.utf8FirstZ) 2 ([128, 191, 160, 191, 128, 159, 144, 191, 128, 143] ++ List.replicate 22 0) }
theorem laidWorld_met (os : Os) (args : Array Value) : laidMetH Tryz.prog Rows.hfsRefusedUptoRow.laid ((laidWorld os).forCall (fun _ _ => 0) ⟨#[], args, []⟩).memory :=
  laidMetH_of_parts (laidMet_of_run3 8 (by kernel_rfl) (by kernel_rfl) (by kernel_rfl)) (by kernel_rfl)
theorem glob_ok {W : World} (h : W.ShapedOpen Tryz.prog) : iY (B0 W) := by
  obtain ⟨m, hm⟩ := cell_of_shapedOpen_int (g := 0) (t := 3) (zero := #[.int .i64 0]) (k := .i64) h (Nat.le_of_ble_eq_true (by kernel_rfl)) (by kernel_rfl) rfl (by kernel_rfl) (by kernel_rfl) Tryz.underlying3
  exact ⟨m, D8 hm, hm⟩
end
end Go.Proofs.YtkiedlmhocglhaaGreatDoor
