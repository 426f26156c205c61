/-
  PROVED HERE: lemmas and contracts of functions (texts of this repo, joined; what the claim does not use is left out): H12, Lw, LA, Lc, LB, Row, GO, Le, LW.
  CONDITIONS: as the theorems say.
-/
import Derived.Test.YtkiedlmhocglhaaGreatMHwrites5
import Derived.Test.YtkiedlmhocglhaaGreatRows
import Derived.ProofKit
import Derived.OpenShut
import Derived.Carry
import Derived.Deep.Slices
section
namespace Go.Proofs.YtkiedlmhocglhaaGreat
open Go.RowKit Go.Maps HeapM TabM
attribute [local irreducible] ah aI af aj
abbrev yL (b2 : Nat) (X : FM) := (.blk b2 [.int .i64 (X.cN), .int .i64 (X.cB), .int .i64 (X.cH), .int .i64 (X.cS), .int .i64 (X.cZ)] 30 : HP)
abbrev uH (b1 : Nat) (A : Option Addr) (ns : List aL) (c) := (.blk b1 [.slice A (ns.length) (c)] 26 : HP)
abbrev nD (b8 : Nat) (ns) (k : Nat) (Y : Lay) := (.blk b8 [.int .i64 ((nd ns k).id), .int .i64 ((nd ns k).kind), .int .i64 ((nd ns k).mode), .int .i64 ((nd ns k).uid), .int .i64 ((nd ns k).gid), .int .i64 ((nd ns k).sec), .int .i64 ((nd ns k).nano), .slice (Y.dA k) ((nd ns k).data.length) ((Y.dC k)), .string (nd ns k).target, .slice (Y.eA k) ((nd ns k).ai.length) ((Y.eC k))] 46 : HP)
abbrev tI (b9 : Nat) (ns) (k : Nat) := (.blk b9 [.int .i64 ((nd ns k).id), .int .i64 ((nd ns k).mode), .int .i64 ((nd ns k).uid), .int .i64 ((nd ns k).gid), .int .i64 ((nd ns k).sec), .int .i64 ((nd ns k).nano), .int .i64 0, .int .i64 0, .bool false] 91 : HP)
abbrev rT (b1 : Nat) (A : Option Addr) (ns) (c) (b7 : Nat) (m3 : Nat) (t4 : Nat) (S : aH) (L : HL) (R : bJ) := ([uH b1 A ns c, pF b7 m3 t4 S.X, pI m3 L S.idx, jo t4 S L, pO S.O L, pD S.O L, pE S.O L, .abs R] : List HP)
abbrev wE (b1 : Nat) (b7 : Nat) (b8 : Nat) (A : Option Addr) (ns : List aL) (c) (k : Nat) := ([(2, vP b1), (6, vP b7), (8, vP b8), (47, .slice A (ns.length) (c)), (48, vI ↑ns.length), (49, vI ↑k)] : Fr)
abbrev He (b1 : Nat) (X : FM) := ([(2, .pointer (some ⟨b1, 0, none⟩)), (39, .agg #[.int .i64 (X.cN), .int .i64 (X.cB), .int .i64 (X.cH), .int .i64 (X.cS), .int .i64 (X.cZ)])] : Fr)
abbrev J8 (b1 : Nat) (b7 : Nat) (A : Option Addr) (ns : List aL) (c) (k : Nat) (S : aH) := ([(2, vP b1), (6, vP b7), (47, .slice A (ns.length) (c)), (48, vI ↑ns.length), (49, vI ↑k), (118, vI (S.X.used + (((nd ns k).data.length : Nat) : Int))), (120, .pointer (some ⟨b7, 9, none⟩))] : Fr)
abbrev LD (b7 : Nat) (b16 : Nat) (A : Option Addr) (ns : List aL) (c) (i : Nat) (Y : Lay) (j : Nat) := ([(6, .pointer (some ⟨b7, 0, none⟩)), (11, .pointer (some ⟨b16, 0, none⟩)), (123, .slice A (ns.length) (c)), (124, .int .i64 ↑ns.length), (125, .int .i64 ↑i), (130, .slice (Y.eA i) ((nd ns i).ai.length) ((Y.eC i))), (131, .int .i64 ↑((nd ns i).ai.length)), (132, .int .i64 ↑j)] : Fr)
abbrev J9 (m3 : Nat) (ns) (k : Nat) := ([(69, .map (some m3)), (71, vI ((nd ns k).id)), (72, .agg #[vI ((nd ns k).id), vI ((nd ns k).mode), vI ((nd ns k).uid), vI ((nd ns k).gid), vI ((nd ns k).sec), vI ((nd ns k).nano), vI 0, vI 0, .bool false])] : Fr)
abbrev Ka (A : Option Addr) (ns : List aL) (c) (i : Nat) (Y : Lay) (j : Nat) := ([(123, .slice A (ns.length) (c)), (124, vI ↑ns.length), (125, vI ↑i), (130, .slice (Y.eA i) ((nd ns i).ai.length) ((Y.eC i))), (131, vI ↑((nd ns i).ai.length)), (132, vI ↑j)] : Fr)
set_option maxRecDepth 100000 in
set_option maxHeartbeats 4000000 in
theorem Ic {β : Bs} (A : Option Addr) (c : Nat) (ns : List aL) (Y : Lay) (hG : aR β A ns Y) (hl : ns.length ≤ 1048576) (hd : ∀ i, i < ns.length → (nd ns i).data.length ≤ 1048576 ∧ (nd ns i).ai.length ≤ 1048576) (hwf : ∀ i, i < ns.length → ∀ j, j < (nd ns i).ai.length → -9223372036854775808 ≤ (ent ns i j).id ∧ (ent ns i j).id ≤ 9223372036854775807) (hnm : ∀ i, i < ns.length → ∀ j, j < (nd ns i).ai.length → (ent ns i j).name.size ≤ 1048576) (X : FM) :
    Spec Tryz.prog β 9 #[.agg #[.slice A (ns.length) (c)], .agg #[.int .i64 (X.cN), .int .i64 (X.cB), .int .i64 (X.cH), .int .i64 (X.cS), .int .i64 (X.cZ)]] [] (fun v l => (¬ ug X ∧ v = .tuple #[.pointer none, .int .i64 179] ∧ l = []) ∨ (ug X ∧ ¬ bR ns ∧ v = .tuple #[.pointer none, .int .i64 140] ∧ l = []) ∨ (ug X ∧ bR ns ∧ ∃ S f m t L, dP X ns ns.length 0 S ∧ v = .tuple #[.pointer (some ⟨f, 0, none⟩), .int .i64 0] ∧ l = pA f m t L S)) := by
 refine Spec.enter Tryz.func9 rfl Tryz.ntmps9 (Nat.le_of_ble_eq_true rfl) (fun R => ?_)
 refine SR ?_
 refine gN 1 (fun b1 => [(2, .pointer (some ⟨b1, 0, none⟩))]) (fun _ => []) (fun _ => []) (fun b1 => .blk b1 [.slice A (ns.length) (c)] 26) (fun b1 => ?_)
 refine gN 3 (fun b2 => [(3, .pointer (some ⟨b2, 0, none⟩))]) (fun _ => []) (fun _ => []) (fun b2 => .blk b2 [.int .i64 (X.cN), .int .i64 (X.cB), .int .i64 (X.cH), .int .i64 (X.cS), .int .i64 (X.cZ)] 30) (fun b2 => ?_)
 refine NN (af.seq (SR ?_))
 refine gK 2 [(15, .int .i64 (X.cN))] [(1, a_ 2 b2)] ?_
 refine gL [] (dQ X.cN 4096) ?_
 rintro _ _ ⟨rfl, rfl⟩
 refine gK 2 [(18, .bool (!(decide ((0 ≤ X.cN ∧ X.cN ≤ 4096)))))] [] ?_
 refine ah.iN 18 ((0 ≤ X.cN ∧ X.cN ≤ 4096)) (fun _ => by kernel_rfl) (fun mX => ?_) (fun mX => ?_)
 ·
  refine gK 17 [(35, .bool true)] [] ?_
  refine NN ?_
  refine CT ?_
  refine SR ?_
  refine gK 2 [(4, .pointer none), (5, .int .i64 179)] [] ?_
  refine NN (af.ret (aj.av ?_))
  exact RT (.tuple #[.pointer none, .int .i64 179]) [0] (.inl ⟨fun h => mX h.cN, rfl, rfl⟩)
 ·
  refine gK 2 [(20, .int .i64 (X.cB))] [(1, a_ 2 b2)] ?_
  refine gL [] (dQ X.cB 1099511627776) ?_
  rintro _ _ ⟨rfl, rfl⟩
  refine gK 3 [(24, .bool (!(decide ((0 ≤ X.cB ∧ X.cB ≤ 1099511627776)))))] [] ?_
  refine ah.iN 24 ((0 ≤ X.cB ∧ X.cB ≤ 1099511627776)) (fun _ => by kernel_rfl) (fun wz => ?_) (fun wz => ?_)
  ·
   refine gK 11 [(35, .bool true)] [] ?_
   refine NN ?_
   refine CT ?_
   refine SR ?_
   refine gK 2 [(4, .pointer none), (5, .int .i64 179)] [] ?_
   refine NN (af.ret (aj.av ?_))
   exact RT (.tuple #[.pointer none, .int .i64 179]) [0] (.inl ⟨fun h => wz h.cB, rfl, rfl⟩)
  ·
   refine gK 2 [(26, .int .i64 (X.cH))] [(1, a_ 2 b2)] ?_
   refine gL [] (dQ X.cH 1024) ?_
   rintro _ _ ⟨rfl, rfl⟩
   refine gK 3 [(30, .bool (!(decide ((0 ≤ X.cH ∧ X.cH ≤ 1024)))))] [] ?_
   refine ah.iN 30 ((0 ≤ X.cH ∧ X.cH ≤ 1024)) (fun _ => by kernel_rfl) (fun jR => ?_) (fun jR => ?_)
   ·
    refine gK 5 [(35, .bool true)] [] ?_
    refine NN ?_
    refine CT ?_
    refine SR ?_
    refine gK 2 [(4, .pointer none), (5, .int .i64 179)] [] ?_
    refine NN (af.ret (aj.av ?_))
    exact RT (.tuple #[.pointer none, .int .i64 179]) [0] (.inl ⟨fun h => jR h.cH, rfl, rfl⟩)
   ·
    refine gK 2 [(32, .agg #[.int .i64 (X.cS), .int .i64 (X.cZ)])] [(1, A_ 2 b2 2)] ?_
    refine gL [] (fk X.cS X.cZ) ?_
    rintro _ _ ⟨rfl, rfl⟩
    refine gK 2 [(35, .bool (!(decide (cL X.cS X.cZ))))] [] ?_
    refine NN ?_
    refine af.cT (p := cL X.cS X.cZ) (fun _ => by kernel_rfl) (fun jB => ?_) (fun jB => ?_)
    ·
     refine SR ?_
     refine gK 2 [(4, .pointer none), (5, .int .i64 179)] [] ?_
     refine NN (af.ret (aj.av ?_))
     exact RT (.tuple #[.pointer none, .int .i64 179]) [0] (.inl ⟨fun h => jB h.now, rfl, rfl⟩)
    ·
     have hcap : ug X := ⟨mX, wz, jR, jB⟩
     refine af.skip (NX (af.seq (SR ?_)))
     refine gK 1 [(36, .agg #[.slice A (ns.length) (c)])] [(0, a_ 1 b1)] ?_
     refine gL [] (Ga A c ns Y hG hl hd hwf hnm) ?_
     rintro _ _ ⟨rfl, rfl⟩
     refine gK 1 [(38, .bool (!(decide (((if bR ns then 0 else 140) : Int) = (0 : Int)))))] [] ?_
     refine NN ?_
     refine af.cT (p := ((if bR ns then 0 else 140) : Int) = (0 : Int)) (fun _ => by kernel_rfl) (fun vM => ?_) (fun vM => ?_)
     ·
      have MW : ¬ bR ns := fun h => vM (if_pos h)
      refine SR ?_
      refine gK 2 [(4, .pointer none), (5, .int .i64 140)] [] ?_
      refine NN (af.ret (aj.av ?_))
      exact RT (.tuple #[.pointer none, .int .i64 140]) [0] (.inr (.inl ⟨hcap, MW, rfl, rfl⟩))
     ·
      have hok : bR ns := Classical.byContradiction (fun h => by rw [if_neg h] at vM; exact absurd vM (by decide))
      refine af.skip (NX (af.seq ?_))
      refine af.oe (S := [yL b2 X]) [0, 2, 3] [.two 1 4, .one 5, .one 6, .one 7] [2] (by kernel_rfl) (by kernel_rfl) rfl (by kernel_rfl) ?_
      refine eX.reads (rs := []) (fr' := [(2, vP b1), (39, .agg #[vI (X.cN), vI (X.cB), vI (X.cH), vI (X.cS), vI (X.cZ)]), (42, vI (X.cH))]) (ak := [b2 = b2, b2 = b2, b2 = b2, b2 = b2, b2 = b2, b2 = b2]) [0, 2, 3] [⟨[.at 0, .at 0, .at 0, .at 0, .at 0], none, none, none, none⟩, o_, ⟨[.at 0], none, none, none, none⟩] [2, 39, 42] (fun _ => by kernel_rfl) ⟨rfl, rfl, rfl, rfl, rfl, rfl, trivial⟩ ?_
      refine eX.pair (ι := Nat × Nat) (JV := Nat) (JW := Nat) (Eo := fun (m3 : Nat) => (He b1 X ++ [(40, .map (some m3)), (42, .int .i64 (X.cH))])) (hpi := fun (m3 : Nat) => [.abs R, uH b1 A ns c, yL b2 X, .abs (aC Tryz.prog 3 m3 (fun _ => none) 0)]) (Ep := fun (t5 : Nat) => (He b1 X ++ [(43, .pointer (some ⟨t5, 0, none⟩))])) (Er := fun (t5 : Nat) => [.abs (aZ 143 t5 (min (max X.cH 0) 1024) 0 []), .abs R, uH b1 A ns c, yL b2 X]) (fr' := fun ((m3, t4) : Nat × Nat) => [(2, vP b1), (39, .agg #[vI (X.cN), vI (X.cB), vI (X.cH), vI (X.cS), vI (X.cZ)]), (40, .map (some m3)), (43, vP t4)]) (hp' := fun ((m3, t4) : Nat × Nat) => [.abs (aZ 143 t4 (min (max X.cH 0) 1024) 0 []), .abs R, uH b1 A ns c, yL b2 X, .abs (aC Tryz.prog 3 m3 (fun _ => none) 0)]) [2] [3] [3] rfl rfl rfl rfl ?_ ?_ ?_ ?_ rfl (fun _ => by kernel_rfl) rfl (fun _ => by kernel_rfl) rfl (fun _ => by kernel_rfl) ?_
      ·
       refine ah.kX (d := (some 40)) (t := 83) (fun _ => by kernel_rfl) Tryz.prog rfl 3 (fun m3 => ?_)
       refine NL ?_
       exact MD m3 [2, 39, 40, 42] [0, 1, 2, 3]
      ·
       rintro m3
       show ah _ _ _ _ _ (He b1 X ++ [(40, .map (some m3)), (42, .int .i64 (X.cH))]) [.abs R, uH b1 A ns c, yL b2 X, .abs (aC Tryz.prog 3 m3 (fun _ => none) 0)] _
       refine gL [] (zQ X.cH) ?_
       rintro _ _ ⟨t4, rfl, rfl⟩
       refine NL ?_
       exact MD (m3, t4) [2, 39, 40, 43] [0, 1, 2, 3, 4]
      ·
       refine gL [] (zQ X.cH) ?_
       rintro _ _ ⟨t5, rfl, rfl⟩
       refine NL ?_
       exact MD t5 [2, 39, 43] [0, 1, 2, 3]
      ·
       rintro t5
       show ah _ _ _ _ _ (He b1 X ++ [(43, .pointer (some ⟨t5, 0, none⟩))]) [.abs (aZ 143 t5 (min (max X.cH 0) 1024) 0 []), .abs R, uH b1 A ns c, yL b2 X] _
       refine ah.kX (d := (some 40)) (t := 83) (fun _ => by kernel_rfl) Tryz.prog rfl 3 (fun m6 => ?_)
       refine NL ?_
       exact MD (m6, t5) [2, 39, 40, 43] [0, 1, 2, 3, 4]
      rintro ⟨m3, t4⟩
      refine eX.cut (ι := Unit) (fr' := fun (_ : Unit) => [(2, vP b1), (44, .agg #[vI (X.cN), vI (X.cB), vI (X.cH), vI (X.cS), vI (X.cZ), .map (some m3), vP t4, vI 0, vI 0, vI 0])]) (hp' := fun (_ : Unit) => [.abs (aZ 143 t4 (min (max X.cH 0) 1024) 0 []), .abs R, uH b1 A ns c, yL b2 X, .abs (aC Tryz.prog 3 m3 (fun _ => none) 0)]) [3] rfl rfl ?_ rfl (fun _ => by kernel_rfl) ?_
      ·
       refine gK 1 [(44, .agg #[.int .i64 (X.cN), .int .i64 (X.cB), .int .i64 (X.cH), .int .i64 (X.cS), .int .i64 (X.cZ), .map (some m3), .pointer (some ⟨t4, 0, none⟩), .int .i64 0, .int .i64 0, .int .i64 0])] [] ?_
       refine NL ?_
       exact MD () [2, 44] [0, 1, 2, 3, 4]
      rintro _
      refine eX.cut (ι := Nat) (fr' := fun (b7 : Nat) => [(2, vP b1), (45, vP b7)]) (hp' := fun (b7 : Nat) => [.abs (aZ 143 t4 (min (max X.cH 0) 1024) 0 []), .abs R, uH b1 A ns c, yL b2 X, .abs (aC Tryz.prog 3 m3 (fun _ => none) 0), pF b7 m3 t4 { X with last := 0, ai := 0, used := 0 }]) [3] rfl rfl ?_ rfl (fun _ => by kernel_rfl) ?_
      ·
       refine gN 1 (fun b7 => [(45, .pointer (some ⟨b7, 0, none⟩))]) (fun _ => []) (fun _ => []) (fun b7 => pF b7 m3 t4 { X with last := 0, ai := 0, used := 0 }) (fun b7 => ?_)
       refine NL ?_
       exact MD b7 [2, 45] [0, 1, 2, 3, 4, 5]
      rintro b7
      refine eX.last rfl rfl ?_
      refine gK 1 [(6, .pointer (some ⟨b7, 0, none⟩))] [] ?_
      refine NL (aj.np (NX (af.seq (SR ?_))))
      obtain ⟨L, NW⟩ : ∃ L : HL, L = ⟨fun _ => 0, fun _ => 0, fun _ => none, fun _ => 0⟩ := ⟨_, rfl⟩
      refine ah.mem (fun w hS => hS.Ce (aS (eM X).O L) (vB X L).1) ?_
      refine ah.mem (fun w hS => hS.Ce (aY (eM X).O L) (vB X L).2.1) ?_
      refine ah.mem (fun w hS => hS.Ce (bw (eM X).O L) (vB X L).2.2) ?_
      have hc : min (max X.cH 0) 1024 = X.cH := by have := hcap.cH; omega
      refine ah.mem (aK := [.abs (aZ 143 t4 (eM X).X.cH (eM X).au (aJ L (eM X).us)), .abs R, .blk b1 [.slice A (ns.length) (c)] 26, .blk b2 [.int .i64 (X.cN), .int .i64 (X.cB), .int .i64 (X.cH), .int .i64 (X.cS), .int .i64 (X.cZ)] 30, .abs (aC Tryz.prog 3 m3 (aN (aJ L (eM X).idx)) ((eM X).idx.length)), .blk b7 [.int .i64 ((eM X).X.cN), .int .i64 ((eM X).X.cB), .int .i64 ((eM X).X.cH), .int .i64 ((eM X).X.cS), .int .i64 ((eM X).X.cZ), .map (some m3), .pointer (some ⟨t4, 0, none⟩), .int .i64 ((eM X).X.last), .int .i64 ((eM X).X.ai), .int .i64 ((eM X).X.used)] 89, .abs (aq (aS ((eM X).O) L)), .abs (aq (aY ((eM X).O) L)), .abs (aq (bw ((eM X).O) L))]) (fun w hS => by rw [hc, ← zP] at hS; exact hS) ?_
      refine gK 4 [(47, .slice A (ns.length) (c)), (48, .int .i64 ↑ns.length), (49, .int .i64 0)] [(1, a_ 2 b1)] ?_
      refine NN (af.block ?_)
      refine af.loop (ι := Nat × aH × HL) (fun ((k, S, L) : Nat × aH × HL) => (k ≤ ns.length) ∧ (jF X ns k S)) (fun ((k, S, L) : Nat × aH × HL) => ns.length - k) (fun ((k, S, L) : Nat × aH × HL) => [(2, .pointer (some ⟨b1, 0, none⟩)), (6, .pointer (some ⟨b7, 0, none⟩)), (47, .slice A (ns.length) (c)), (48, .int .i64 ↑ns.length), (49, .int .i64 ↑k)]) (fun ((k, S, L) : Nat × aH × HL) => (rT b1 A ns c b7 m3 t4 S L R)) (0, (eM X), L) (idx := [2, 6, 47, 48, 49]) (pk := [2, 5, 4, 0, 6, 7, 8, 1]) (show (0 ≤ ns.length) ∧ (jF X ns 0 ((eM X))) from ⟨Nat.zero_le _, ED hcap⟩) (fun _ => by kernel_rfl) rfl (by kernel_rfl) ?_
      rintro ⟨k, S, L⟩ ⟨hk, hB⟩
      show af _ _ _ _ [(2, .pointer (some ⟨b1, 0, none⟩)), (6, .pointer (some ⟨b7, 0, none⟩)), (47, .slice A (ns.length) (c)), (48, .int .i64 ↑ns.length), (49, .int .i64 ↑k)] (rT b1 A ns c b7 m3 t4 S L R) _
      refine SR ?_
      refine gK 1 [(50, .bool (decide ((((k : Nat) : Int) : Int) < (((ns.length : Nat) : Int) : Int))))] [] ?_
      refine NN (af.seq ?_)
      refine af.bH (p := (((k : Nat) : Int) : Int) < (((ns.length : Nat) : Int) : Int)) (fun _ => by kernel_rfl) (fun h50 => ?_) (fun h50 => ?_)
      ·
       have hk2 : k < ns.length := by omega
       have hdk := hd k hk2
       have hds := yJ (fun i hi => (hd i hi).1) hk
       have Gc := hok.ids k hk2
       have hni := hB.new hok hk2
       have mA : (Lit.int .i64 (nd ns k).id).wf = true := WalkArith.wf_i64 (by omega)
       have hkk := (hok.node k hk2).kind
       have cD : S.X.used = (o7 ns k : Int) := by rw [hB.cap]
       have hil := hB.inv.len
       refine af.skip (NX (af.seq (af.block (SR ?_))))
       refine gN 4 (fun b8 => [(8, .pointer (some ⟨b8, 0, none⟩))]) (fun b8 => [(0, p_ ⟨[], some k, none, some ⟨(ay A), ax A, none⟩, none⟩ [((k : Nat) : Int) = ((k : Nat) : Int), k < ns.length, (⟨(ay A), ax A, none⟩ : Addr).spot = none, (A : Option Addr) = some ⟨(ay A), ax A, none⟩] ⟨rfl, by omega, rfl, aR.hd hG (i := k) (by omega), trivial⟩), (1, p_ ⟨[.old (.int .i64 ((nd ns k).id)), .old (.int .i64 ((nd ns k).kind)), .old (.int .i64 ((nd ns k).mode)), .old (.int .i64 ((nd ns k).uid)), .old (.int .i64 ((nd ns k).gid)), .old (.int .i64 ((nd ns k).sec)), .old (.int .i64 ((nd ns k).nano)), .old (.slice (Y.dA k) ((nd ns k).data.length) ((Y.dC k))), .old (.string (nd ns k).target), .old (.slice (Y.eA k) ((nd ns k).ai.length) ((Y.eC k)))], none, none, none, none⟩ [(Rd β ⟨(ay A), ax A + k * 10 + 9, none⟩ (.slice (Y.eA k) ((nd ns k).ai.length) ((Y.eC k)))), (Rd β ⟨(ay A), ax A + k * 10 + 8, none⟩ (.string (nd ns k).target)), (Rd β ⟨(ay A), ax A + k * 10 + 7, none⟩ (.slice (Y.dA k) ((nd ns k).data.length) ((Y.dC k)))), (Rd β ⟨(ay A), ax A + k * 10 + 6, none⟩ (.int .i64 ((nd ns k).nano))), (Rd β ⟨(ay A), ax A + k * 10 + 5, none⟩ (.int .i64 ((nd ns k).sec))), (Rd β ⟨(ay A), ax A + k * 10 + 4, none⟩ (.int .i64 ((nd ns k).gid))), (Rd β ⟨(ay A), ax A + k * 10 + 3, none⟩ (.int .i64 ((nd ns k).uid))), (Rd β ⟨(ay A), ax A + k * 10 + 2, none⟩ (.int .i64 ((nd ns k).mode))), (Rd β ⟨(ay A), ax A + k * 10 + 1, none⟩ (.int .i64 ((nd ns k).kind))), (Rd β ⟨(ay A), ax A + k * 10, none⟩ (.int .i64 ((nd ns k).id)))] ⟨aR.rd hG (i := k) (by omega) (j := 9) rfl, aR.rd hG (i := k) (by omega) (j := 8) rfl, aR.rd hG (i := k) (by omega) (j := 7) rfl, aR.rd hG (i := k) (by omega) (j := 6) rfl, aR.rd hG (i := k) (by omega) (j := 5) rfl, aR.rd hG (i := k) (by omega) (j := 4) rfl, aR.rd hG (i := k) (by omega) (j := 3) rfl, aR.rd hG (i := k) (by omega) (j := 2) rfl, aR.rd hG (i := k) (by omega) (j := 1) rfl, aR.rd hG (i := k) (by omega) (j := 0) rfl, trivial⟩), (3, A_ 8 b8 10)]) (fun _ => []) (fun b8 => .blk b8 [.int .i64 ((nd ns k).id), .int .i64 ((nd ns k).kind), .int .i64 ((nd ns k).mode), .int .i64 ((nd ns k).uid), .int .i64 ((nd ns k).gid), .int .i64 ((nd ns k).sec), .int .i64 ((nd ns k).nano), .slice (Y.dA k) ((nd ns k).data.length) ((Y.dC k)), .string (nd ns k).target, .slice (Y.eA k) ((nd ns k).ai.length) ((Y.eC k))] 46) (fun b8 => ?_)
       refine NS ?_
       refine gN 13 (fun b9 => [(9, .pointer (some ⟨b9, 0, none⟩))]) (fun b9 => [(1, a_ 8 b8), (3, a_ 8 b8), (5, a_ 8 b8), (7, a_ 8 b8), (9, A_ 8 b8 2), (12, A_ 9 b9 9)]) (fun _ => []) (fun b9 => .blk b9 [.int .i64 ((nd ns k).id), .int .i64 ((nd ns k).mode), .int .i64 ((nd ns k).uid), .int .i64 ((nd ns k).gid), .int .i64 ((nd ns k).sec), .int .i64 ((nd ns k).nano), .int .i64 0, .int .i64 0, .bool false] 91) (fun b9 => ?_)
       refine NN (af.seq (SR ?_))
       refine gK 2 [(65, .int .i64 ((nd ns k).kind))] [(1, a_ 8 b8)] ?_
       refine NN (af.block (SR ?_))
       refine gK 2 [(77, .bool (decide (((nd ns k).kind : Int) = (1 : Int))))] [] ?_
       refine NN ?_
       refine af.bH (p := ((nd ns k).kind : Int) = (1 : Int)) (fun _ => by kernel_rfl) (fun hk1 => ?_) (fun hk1 => ?_)
       ·
        refine af.bT (S := [pF b7 m3 t4 S.X, nD b8 ns k Y, tI b9 ns k]) [0, 1, 2, 3, 4, 5, 6, 7, 8, 9, 10, 11, 12, 13] 9 [1, 8, 9] (by kernel_rfl) (by kernel_rfl) rfl (by kernel_rfl) ?_
        refine aD.reads (r := 0) (l := [9, 10, 11, 12, 13]) (fr' := (wE b1 b7 b8 A ns c k ++ [(82, .map (some m3)), (84, vI ((nd ns k).id)), (85, .agg #[vI ((nd ns k).id), vI ((nd ns k).mode), vI ((nd ns k).uid), vI ((nd ns k).gid), vI ((nd ns k).sec), vI ((nd ns k).nano), vI 0, vI 0, .bool false]), (87, .slice (Y.dA k) ((nd ns k).data.length) ((Y.dC k)))])) (ak := [b8 = b8, b9 = b9, b9 = b9, b9 = b9, b9 = b9, b9 = b9, b9 = b9, b9 = b9, b9 = b9, b9 = b9, b8 = b8, b7 = b7]) [0, 1, 2, 3, 4, 5, 6, 7, 8] [o_, o_, o_, ⟨[.at 0], none, none, none, none⟩, o_, ⟨[.at 1], none, none, none, none⟩, ⟨[.at 2, .at 2, .at 2, .at 2, .at 2, .at 2, .at 2, .at 2, .at 2], none, none, none, none⟩, o_, ⟨[.at 1], none, none, none, none⟩] [2, 6, 8, 47, 48, 49, 82, 84, 85, 87] (fun _ => by kernel_rfl) ⟨rfl, rfl, rfl, rfl, rfl, rfl, rfl, rfl, rfl, rfl, rfl, rfl, trivial⟩ rfl rfl ?_
        refine mL [2, 9, 10] [] (uF (Y.dA k) (Y.dC k) (nd ns k).data (hG.data k (by omega)) (by have := (hd k (by omega)).1; omega)) ?_ (by rintro _ _ ⟨tJ, c11, rfl, rfl⟩; rfl)
        rintro _ _ ⟨tJ, c11, rfl, rfl⟩
        refine aD.cut (ι := Unit) (fr' := fun (_ : Unit) => (wE b1 b7 b8 A ns c k ++ [(82, .map (some m3)), (84, vI ((nd ns k).id)), (89, .agg #[vI ((nd ns k).id), vI ((nd ns k).mode), vI ((nd ns k).uid), vI ((nd ns k).gid), vI ((nd ns k).sec), vI ((nd ns k).nano), vI 0, vI 0, .bool false, .slice tJ ((nd ns k).data.length) (c11)])])) (hp' := fun (_ : Unit) => ([.abs (aF 5 1 tJ ((nd ns k).data.length) c11 (bD (nd ns k).data))] ++ rT b1 A ns c b7 m3 t4 S L R ++ [nD b8 ns k Y, tI b9 ns k])) [2, 9, 10] rfl rfl ?_ rfl (fun _ => by kernel_rfl) ?_
        ·
         refine gK 1 [(89, .agg #[.int .i64 ((nd ns k).id), .int .i64 ((nd ns k).mode), .int .i64 ((nd ns k).uid), .int .i64 ((nd ns k).gid), .int .i64 ((nd ns k).sec), .int .i64 ((nd ns k).nano), .int .i64 0, .int .i64 0, .bool false, .slice tJ ((nd ns k).data.length) (c11)])] [] ?_
         refine NL ?_
         exact MD () [2, 6, 8, 47, 48, 49, 82, 84, 89] [0, 1, 2, 3, 4, 5, 6, 7, 8, 9, 10]
        rintro _
        refine mN [2, 9, 10] (fun b12 => [(90, .pointer (some ⟨b12, 0, none⟩))]) (fun _ => []) (fun b12 => .blk b12 [.int .i64 ((nd ns k).id), .int .i64 ((nd ns k).mode), .int .i64 ((nd ns k).uid), .int .i64 ((nd ns k).gid), .int .i64 ((nd ns k).sec), .int .i64 ((nd ns k).nano), .int .i64 0, .int .i64 0, .bool false, .slice tJ ((nd ns k).data.length) (c11)] 94) (fun b12 => ?_)
        refine aD.cut (ι := Unit) (fr' := fun (_ : Unit) => (wE b1 b7 b8 A ns c k ++ [(82, .map (some m3)), (84, vI ((nd ns k).id)), (91, .iface 92 (vP b12))])) (hp' := fun (_ : Unit) => ([.abs (aF 5 1 tJ ((nd ns k).data.length) c11 (bD (nd ns k).data))] ++ rT b1 A ns c b7 m3 t4 S L R ++ [nD b8 ns k Y, tI b9 ns k, .blk b12 [.int .i64 ((nd ns k).id), .int .i64 ((nd ns k).mode), .int .i64 ((nd ns k).uid), .int .i64 ((nd ns k).gid), .int .i64 ((nd ns k).sec), .int .i64 ((nd ns k).nano), .int .i64 0, .int .i64 0, .bool false, .slice tJ ((nd ns k).data.length) (c11)] 94])) [2, 9, 10] rfl rfl ?_ rfl (fun _ => by kernel_rfl) ?_
        ·
         refine gK 1 [(91, .iface 92 (.pointer (some ⟨b12, 0, none⟩)))] [] ?_
         refine NL ?_
         exact MD () [2, 6, 8, 47, 48, 49, 82, 84, 91] [0, 1, 2, 3, 4, 5, 6, 7, 8, 9, 10, 11]
        rintro _
        refine aD.last rfl rfl ?_
        obtain ⟨L2, hL2⟩ : ∃ L2 : HL, L2 = L.put (dM (nd ns k)) b12 0 tJ c11 := ⟨_, rfl⟩
        have hfr := hB.fresh hok (by omega)
        refine ah.mem (aK := [.abs (aq (aS ((aX S (nd ns k)).O) L2)), .abs (aF 5 1 tJ ((nd ns k).data.length) c11 (bD (nd ns k).data)), .blk b1 [.slice A (ns.length) (c)] 26, .blk b7 [.int .i64 (S.X.cN), .int .i64 (S.X.cB), .int .i64 (S.X.cH), .int .i64 (S.X.cS), .int .i64 (S.X.cZ), .map (some m3), .pointer (some ⟨t4, 0, none⟩), .int .i64 (S.X.last), .int .i64 (S.X.ai), .int .i64 (S.X.used)] 89, .abs (aC Tryz.prog 3 m3 (aN (aJ L S.idx)) S.idx.length), .abs (aZ 143 t4 S.X.cH S.au (aJ L S.us)), .abs (aq (aY S.O L)), .abs (aq (bw S.O L)), .abs R, .blk b8 [.int .i64 ((nd ns k).id), .int .i64 ((nd ns k).kind), .int .i64 ((nd ns k).mode), .int .i64 ((nd ns k).uid), .int .i64 ((nd ns k).gid), .int .i64 ((nd ns k).sec), .int .i64 ((nd ns k).nano), .slice (Y.dA k) ((nd ns k).data.length) ((Y.dC k)), .string (nd ns k).target, .slice (Y.eA k) ((nd ns k).ai.length) ((Y.eC k))] 46, .blk b9 [.int .i64 ((nd ns k).id), .int .i64 ((nd ns k).mode), .int .i64 ((nd ns k).uid), .int .i64 ((nd ns k).gid), .int .i64 ((nd ns k).sec), .int .i64 ((nd ns k).nano), .int .i64 0, .int .i64 0, .bool false] 91]) (fun w hS => hS.q9 hL2 hfr (o := (nC (nd ns k))) (i := 5) (j := 11) (ix := [0, 1, 2, 3, 4, 6, 7, 8, 9, 10]) rfl rfl (by kernel_rfl) rfl (by show (nd ns k).kind ≠ 0; rw [hk1]; decide) ((ef (L := L2) (k := (dM (nd ns k))) (o := (nC (nd ns k))) hk1).trans (by rw [show L2.dA (dM (nd ns k)) = tJ by rw [hL2]; exact if_pos rfl, show L2.dC (dM (nd ns k)) = c11 by rw [hL2]; exact if_pos rfl]; rfl)) (by show kg (nd ns k).kind = _; rw [hk1]; rfl)) ?_
        refine ah.mem (aK := [.abs (aq (aS ((aX S (nd ns k)).O) L2)), .abs (aF 5 1 tJ ((nd ns k).data.length) c11 (bD (nd ns k).data)), .blk b1 [.slice A (ns.length) (c)] 26, .blk b7 [.int .i64 (S.X.cN), .int .i64 (S.X.cB), .int .i64 (S.X.cH), .int .i64 (S.X.cS), .int .i64 (S.X.cZ), .map (some m3), .pointer (some ⟨t4, 0, none⟩), .int .i64 (S.X.last), .int .i64 (S.X.ai), .int .i64 (S.X.used)] 89, .abs (aC Tryz.prog 3 m3 (aN (aJ L S.idx)) S.idx.length), .abs (aZ 143 t4 S.X.cH S.au (aJ L S.us)), .abs (aq (aY S.O L)), .abs (aq (bw ((aX S (nd ns k)).O) L2)), .abs R, .blk b8 [.int .i64 ((nd ns k).id), .int .i64 ((nd ns k).kind), .int .i64 ((nd ns k).mode), .int .i64 ((nd ns k).uid), .int .i64 ((nd ns k).gid), .int .i64 ((nd ns k).sec), .int .i64 ((nd ns k).nano), .slice (Y.dA k) ((nd ns k).data.length) ((Y.dC k)), .string (nd ns k).target, .slice (Y.eA k) ((nd ns k).ai.length) ((Y.eC k))] 46, .blk b9 [.int .i64 ((nd ns k).id), .int .i64 ((nd ns k).mode), .int .i64 ((nd ns k).uid), .int .i64 ((nd ns k).gid), .int .i64 ((nd ns k).sec), .int .i64 ((nd ns k).nano), .int .i64 0, .int .i64 0, .bool false] 91]) (fun w hS => hS.sY hL2 hfr (o := (nC (nd ns k))) (i := 7) rfl (by show ¬ (nd ns k).kind = 2; rw [hk1]; decide)) ?_
        refine ah.mem (aK := [pD ((aX S (nd ns k)).O) L2, pO ((aX S (nd ns k)).O) L2, uH b1 A ns c, pF b7 m3 t4 S.X, pI m3 L S.idx, jo t4 S L, pE ((aX S (nd ns k)).O) L2, .abs R, nD b8 ns k Y, tI b9 ns k]) (fun w hS => hS.K1 hL2 (o := (nC (nd ns k))) (i := 6) (j := 1) (ix := [0, 2, 3, 4, 5, 7, 8, 9, 10]) rfl rfl (by kernel_rfl) rfl hk1) ?_
        refine ah.mem (aK := [.abs (aq (aY ((aX S (nd ns k)).O) L2)), .abs (aq (aS ((aX S (nd ns k)).O) L2)), .blk b1 [.slice A (ns.length) (c)] 26, .blk b7 [.int .i64 (S.X.cN), .int .i64 (S.X.cB), .int .i64 (S.X.cH), .int .i64 (S.X.cS), .int .i64 (S.X.cZ), .map (some m3), .pointer (some ⟨t4, 0, none⟩), .int .i64 (S.X.last), .int .i64 (S.X.ai), .int .i64 (S.X.used)] 89, .abs (aC Tryz.prog 3 m3 (aN (aJ L2 S.idx)) S.idx.length), .abs (aZ 143 t4 S.X.cH S.au (aJ L2 S.us)), .abs (aq (bw ((aX S (nd ns k)).O) L2)), .abs R, .blk b8 [.int .i64 ((nd ns k).id), .int .i64 ((nd ns k).kind), .int .i64 ((nd ns k).mode), .int .i64 ((nd ns k).uid), .int .i64 ((nd ns k).gid), .int .i64 ((nd ns k).sec), .int .i64 ((nd ns k).nano), .slice (Y.dA k) ((nd ns k).data.length) ((Y.dC k)), .string (nd ns k).target, .slice (Y.eA k) ((nd ns k).ai.length) ((Y.eC k))] 46, .blk b9 [.int .i64 ((nd ns k).id), .int .i64 ((nd ns k).mode), .int .i64 ((nd ns k).uid), .int .i64 ((nd ns k).gid), .int .i64 ((nd ns k).sec), .int .i64 ((nd ns k).nano), .int .i64 0, .int .i64 0, .bool false] 91]) (fun w hS => by rw [eZ hL2 hfr.idx, eZ hL2 hfr.us]; exact hS) ?_
        have AO : cM L2 (lU (nd ns k)) = .iface 92 (.pointer (some ⟨b12, 0, none⟩)) := by unfold lU; rw [mB hL2, hk1]; rfl
        refine ah.jI 4 (d := none) (t := 83) (K := 3) (E := 87) (b := m3) (n := S.idx.length) (f := (aN (aJ L2 S.idx))) (x := (.tmp 82)) (ix := (.tmp 84)) (y := (.tmp 91)) (key := .int .i64 ((nd ns k).id)) (u := .iface 92 (.pointer (some ⟨b12, 0, none⟩))) (kl := (.int .i64 (nd ns k).id)) (n' := (S.idx.length + 1)) (f' := (aN (aJ L2 (ins (nd ns k).id (lU (nd ns k)) S.idx)))) (fun _ => by kernel_rfl) (by kernel_rfl) (fun _ => by kernel_rfl) (fun _ => by kernel_rfl) (fun _ => by kernel_rfl) dL Tryz.underlying83 (by unfold maxLen; omega) (iB mA) (by rw [ez, hni]; rfl) (by rw [← AO]; exact oo hni) ?_
        refine NL (aj.np (aj.aW (NX (SR ?_))))
        refine gC 6 [] [(2, a_ 8 b8), (5, a_ 3 b7)] [(3, [(7, .int .i64 ((nd ns k).id))])] ?_
        refine NN ?_
        refine af.bT (S := [pF b7 m3 t4 { S.X with last := (nd ns k).id }, nD b8 ns k Y]) [0, 1, 2, 3, 4, 5, 6, 7, 8, 9, 10] 10 [3, 8] (by kernel_rfl) (by kernel_rfl) rfl (by kernel_rfl) ?_
        refine aD.reads (r := 0) (l := [10]) (fr' := (J8 b1 b7 A ns c k S)) (ak := [(Value.int .i64 (IntKind.wrap .i64 (S.X.used + (((nd ns k).data.length : Nat) : Int)))) = (.int .i64 (S.X.used + (((nd ns k).data.length : Nat) : Int))), b8 = b8, b7 = b7]) [0, 1, 2, 3, 4, 5, 6, 7, 8, 9] [o_, o_, o_, ⟨[.at 0], none, none, none, none⟩, o_, ⟨[.at 1], none, none, none, none⟩, o_, ⟨[], none, none, none, some (.int .i64 (S.X.used + (((nd ns k).data.length : Nat) : Int)))⟩, o_, o_] [2, 6, 47, 48, 49, 118, 120] (fun _ => by kernel_rfl) ⟨bQ (by omega) (by omega) (by omega), rfl, rfl, trivial⟩ rfl rfl ?_
        refine aD.last rfl rfl ?_
        refine gC 1 [] [(0, a_ 3 b7)] [(3, [(9, .int .i64 (S.X.used + (((nd ns k).data.length : Nat) : Int)))])] ?_
        refine NL (aj.np (aj.aW (NX (af.region ?_))))
        refine gK 2 [(49, .int .i64 ↑(k + 1))] [(0, p_ ⟨[], none, none, none, some (.int .i64 ↑(k + 1))⟩ [(Value.int .i64 (IntKind.wrap .i64 (((k : Nat) : Int) + 1))) = (.int .i64 ↑(k + 1))] ⟨bQ (by omega) (by omega) (by omega), trivial⟩)] ?_
        refine NL ?_
        refine aj.mem (aK := [.abs (aq (aY ((aX S (nd ns k)).O) L2)), .abs (aq (aS ((aX S (nd ns k)).O) L2)), .blk b1 [.slice A (ns.length) (c)] 26, .blk b7 [.int .i64 ((aX S (nd ns k)).X.cN), .int .i64 ((aX S (nd ns k)).X.cB), .int .i64 ((aX S (nd ns k)).X.cH), .int .i64 ((aX S (nd ns k)).X.cS), .int .i64 ((aX S (nd ns k)).X.cZ), .map (some m3), .pointer (some ⟨t4, 0, none⟩), .int .i64 ((aX S (nd ns k)).X.last), .int .i64 ((aX S (nd ns k)).X.ai), .int .i64 ((aX S (nd ns k)).X.used)] 89, .abs (aC Tryz.prog 3 m3 (aN (aJ L2 (aX S (nd ns k)).idx)) ((aX S (nd ns k)).idx.length)), .abs (aZ 143 t4 (aX S (nd ns k)).X.cH (aX S (nd ns k)).au (aJ L2 (aX S (nd ns k)).us)), .abs (aq (bw ((aX S (nd ns k)).O) L2)), .abs R, .blk b8 [.int .i64 ((nd ns k).id), .int .i64 ((nd ns k).kind), .int .i64 ((nd ns k).mode), .int .i64 ((nd ns k).uid), .int .i64 ((nd ns k).gid), .int .i64 ((nd ns k).sec), .int .i64 ((nd ns k).nano), .slice (Y.dA k) ((nd ns k).data.length) ((Y.dC k)), .string (nd ns k).target, .slice (Y.eA k) ((nd ns k).ai.length) ((Y.eC k))] 46, .blk b9 [.int .i64 ((nd ns k).id), .int .i64 ((nd ns k).mode), .int .i64 ((nd ns k).uid), .int .i64 ((nd ns k).gid), .int .i64 ((nd ns k).sec), .int .i64 ((nd ns k).nano), .int .i64 0, .int .i64 0, .bool false] 91]) (fun w hS => by rw [show (aX S (nd ns k)).idx.length = S.idx.length + 1 from fJ _ _ _]; exact hS) ?_
        exact aj.turn ((k + 1), (aX S (nd ns k)), L2) (idx := [2, 6, 47, 48, 49]) (pk := [2, 3, 4, 5, 1, 0, 6, 7]) (show (((k + 1)) ≤ ns.length) ∧ (jF X ns ((k + 1)) ((aX S (nd ns k)))) from ⟨by omega, tH hok (fun i hi => (hd i hi).1) (by omega) hB⟩) (by show ns.length - ((k + 1)) < ns.length - k; omega) (fun _ => by kernel_rfl) rfl (by kernel_rfl)
       ·
        refine SR ?_
        refine gK 2 [(92, .bool (decide (((nd ns k).kind : Int) = (3 : Int))))] [] ?_
        refine NN ?_
        refine af.bH (p := ((nd ns k).kind : Int) = (3 : Int)) (fun _ => by kernel_rfl) (fun hk3 => ?_) (fun hk3 => ?_)
        ·
         refine af.bT (S := [pF b7 m3 t4 S.X, nD b8 ns k Y, tI b9 ns k]) [0, 1, 2, 3, 4, 5, 6, 7, 8, 9, 10, 11, 12] 10 [1, 8, 9] (by kernel_rfl) (by kernel_rfl) rfl (by kernel_rfl) ?_
         refine aD.reads (r := 0) (l := [10, 11, 12]) (fr' := (wE b1 b7 b8 A ns c k ++ [(97, .map (some m3)), (99, vI ((nd ns k).id)), (103, .agg #[vI ((nd ns k).id), vI ((nd ns k).mode), vI ((nd ns k).uid), vI ((nd ns k).gid), vI ((nd ns k).sec), vI ((nd ns k).nano), vI 0, vI 0, .bool false, .string (nd ns k).target])])) (ak := [b8 = b8, b9 = b9, b9 = b9, b9 = b9, b9 = b9, b9 = b9, b9 = b9, b9 = b9, b9 = b9, b9 = b9, b8 = b8, b7 = b7]) [0, 1, 2, 3, 4, 5, 6, 7, 8, 9] [o_, o_, o_, ⟨[.at 0], none, none, none, none⟩, o_, ⟨[.at 1], none, none, none, none⟩, ⟨[.at 2, .at 2, .at 2, .at 2, .at 2, .at 2, .at 2, .at 2, .at 2], none, none, none, none⟩, o_, ⟨[.at 1], none, none, none, none⟩, o_] [2, 6, 8, 47, 48, 49, 97, 99, 103] (fun _ => by kernel_rfl) ⟨rfl, rfl, rfl, rfl, rfl, rfl, rfl, rfl, rfl, rfl, rfl, rfl, trivial⟩ rfl rfl ?_
         refine mN [1, 8, 9] (fun b13 => [(104, .pointer (some ⟨b13, 0, none⟩))]) (fun _ => []) (fun b13 => .blk b13 [.int .i64 ((nd ns k).id), .int .i64 ((nd ns k).mode), .int .i64 ((nd ns k).uid), .int .i64 ((nd ns k).gid), .int .i64 ((nd ns k).sec), .int .i64 ((nd ns k).nano), .int .i64 0, .int .i64 0, .bool false, .string (nd ns k).target] 97) (fun b13 => ?_)
         refine aD.cut (ι := Unit) (fr' := fun (_ : Unit) => (wE b1 b7 b8 A ns c k ++ [(97, .map (some m3)), (99, vI ((nd ns k).id)), (105, .iface 95 (vP b13))])) (hp' := fun (_ : Unit) => (rT b1 A ns c b7 m3 t4 S L R ++ [nD b8 ns k Y, tI b9 ns k, .blk b13 [.int .i64 ((nd ns k).id), .int .i64 ((nd ns k).mode), .int .i64 ((nd ns k).uid), .int .i64 ((nd ns k).gid), .int .i64 ((nd ns k).sec), .int .i64 ((nd ns k).nano), .int .i64 0, .int .i64 0, .bool false, .string (nd ns k).target] 97])) [1, 8, 9] rfl rfl ?_ rfl (fun _ => by kernel_rfl) ?_
         ·
          refine gK 1 [(105, .iface 95 (.pointer (some ⟨b13, 0, none⟩)))] [] ?_
          refine NL ?_
          exact MD () [2, 6, 8, 47, 48, 49, 97, 99, 105] [0, 1, 2, 3, 4, 5, 6, 7, 8, 9, 10]
         rintro _
         refine aD.last rfl rfl ?_
         obtain ⟨L2, hL2⟩ : ∃ L2 : HL, L2 = L.put (dM (nd ns k)) b13 0 none 0 := ⟨_, rfl⟩
         have hfr := hB.fresh hok (by omega)
         refine ah.mem (aK := [.abs (aq (aS ((aX S (nd ns k)).O) L2)), .blk b1 [.slice A (ns.length) (c)] 26, .blk b7 [.int .i64 (S.X.cN), .int .i64 (S.X.cB), .int .i64 (S.X.cH), .int .i64 (S.X.cS), .int .i64 (S.X.cZ), .map (some m3), .pointer (some ⟨t4, 0, none⟩), .int .i64 (S.X.last), .int .i64 (S.X.ai), .int .i64 (S.X.used)] 89, .abs (aC Tryz.prog 3 m3 (aN (aJ L S.idx)) S.idx.length), .abs (aZ 143 t4 S.X.cH S.au (aJ L S.us)), .abs (aq (aY S.O L)), .abs (aq (bw S.O L)), .abs R, .blk b8 [.int .i64 ((nd ns k).id), .int .i64 ((nd ns k).kind), .int .i64 ((nd ns k).mode), .int .i64 ((nd ns k).uid), .int .i64 ((nd ns k).gid), .int .i64 ((nd ns k).sec), .int .i64 ((nd ns k).nano), .slice (Y.dA k) ((nd ns k).data.length) ((Y.dC k)), .string (nd ns k).target, .slice (Y.eA k) ((nd ns k).ai.length) ((Y.eC k))] 46, .blk b9 [.int .i64 ((nd ns k).id), .int .i64 ((nd ns k).mode), .int .i64 ((nd ns k).uid), .int .i64 ((nd ns k).gid), .int .i64 ((nd ns k).sec), .int .i64 ((nd ns k).nano), .int .i64 0, .int .i64 0, .bool false] 91]) (fun w hS => hS.q9 hL2 hfr (o := (nC (nd ns k))) (i := 4) (j := 10) (ix := [0, 1, 2, 3, 5, 6, 7, 8, 9]) rfl rfl (by kernel_rfl) rfl (by show (nd ns k).kind ≠ 0; rw [hk3]; decide) ((sC (L := L2) (k := (dM (nd ns k))) (o := (nC (nd ns k))) hk3).trans (by rfl)) (by show kg (nd ns k).kind = _; rw [hk3]; rfl)) ?_
         refine ah.mem (aK := [.abs (aq (aS ((aX S (nd ns k)).O) L2)), .blk b1 [.slice A (ns.length) (c)] 26, .blk b7 [.int .i64 (S.X.cN), .int .i64 (S.X.cB), .int .i64 (S.X.cH), .int .i64 (S.X.cS), .int .i64 (S.X.cZ), .map (some m3), .pointer (some ⟨t4, 0, none⟩), .int .i64 (S.X.last), .int .i64 (S.X.ai), .int .i64 (S.X.used)] 89, .abs (aC Tryz.prog 3 m3 (aN (aJ L S.idx)) S.idx.length), .abs (aZ 143 t4 S.X.cH S.au (aJ L S.us)), .abs (aq (aY S.O L)), .abs (aq (bw ((aX S (nd ns k)).O) L2)), .abs R, .blk b8 [.int .i64 ((nd ns k).id), .int .i64 ((nd ns k).kind), .int .i64 ((nd ns k).mode), .int .i64 ((nd ns k).uid), .int .i64 ((nd ns k).gid), .int .i64 ((nd ns k).sec), .int .i64 ((nd ns k).nano), .slice (Y.dA k) ((nd ns k).data.length) ((Y.dC k)), .string (nd ns k).target, .slice (Y.eA k) ((nd ns k).ai.length) ((Y.eC k))] 46, .blk b9 [.int .i64 ((nd ns k).id), .int .i64 ((nd ns k).mode), .int .i64 ((nd ns k).uid), .int .i64 ((nd ns k).gid), .int .i64 ((nd ns k).sec), .int .i64 ((nd ns k).nano), .int .i64 0, .int .i64 0, .bool false] 91]) (fun w hS => hS.sY hL2 hfr (o := (nC (nd ns k))) (i := 6) rfl (by show ¬ (nd ns k).kind = 2; rw [hk3]; decide)) ?_
         refine ah.mem (aK := [.abs (aq (aS ((aX S (nd ns k)).O) L2)), .blk b1 [.slice A (ns.length) (c)] 26, .blk b7 [.int .i64 (S.X.cN), .int .i64 (S.X.cB), .int .i64 (S.X.cH), .int .i64 (S.X.cS), .int .i64 (S.X.cZ), .map (some m3), .pointer (some ⟨t4, 0, none⟩), .int .i64 (S.X.last), .int .i64 (S.X.ai), .int .i64 (S.X.used)] 89, .abs (aC Tryz.prog 3 m3 (aN (aJ L S.idx)) S.idx.length), .abs (aZ 143 t4 S.X.cH S.au (aJ L S.us)), .abs (aq (aY ((aX S (nd ns k)).O) L2)), .abs (aq (bw ((aX S (nd ns k)).O) L2)), .abs R, .blk b8 [.int .i64 ((nd ns k).id), .int .i64 ((nd ns k).kind), .int .i64 ((nd ns k).mode), .int .i64 ((nd ns k).uid), .int .i64 ((nd ns k).gid), .int .i64 ((nd ns k).sec), .int .i64 ((nd ns k).nano), .slice (Y.dA k) ((nd ns k).data.length) ((Y.dC k)), .string (nd ns k).target, .slice (Y.eA k) ((nd ns k).ai.length) ((Y.eC k))] 46, .blk b9 [.int .i64 ((nd ns k).id), .int .i64 ((nd ns k).mode), .int .i64 ((nd ns k).uid), .int .i64 ((nd ns k).gid), .int .i64 ((nd ns k).sec), .int .i64 ((nd ns k).nano), .int .i64 0, .int .i64 0, .bool false] 91]) (fun w hS => hS.wk hL2 (o := (nC (nd ns k))) (i := 5) rfl (by show ¬ (nd ns k).kind = 1; rw [hk3]; decide)) ?_
         refine ah.mem (aK := [.abs (aq (aS ((aX S (nd ns k)).O) L2)), .blk b1 [.slice A (ns.length) (c)] 26, .blk b7 [.int .i64 (S.X.cN), .int .i64 (S.X.cB), .int .i64 (S.X.cH), .int .i64 (S.X.cS), .int .i64 (S.X.cZ), .map (some m3), .pointer (some ⟨t4, 0, none⟩), .int .i64 (S.X.last), .int .i64 (S.X.ai), .int .i64 (S.X.used)] 89, .abs (aC Tryz.prog 3 m3 (aN (aJ L2 S.idx)) S.idx.length), .abs (aZ 143 t4 S.X.cH S.au (aJ L2 S.us)), .abs (aq (aY ((aX S (nd ns k)).O) L2)), .abs (aq (bw ((aX S (nd ns k)).O) L2)), .abs R, .blk b8 [.int .i64 ((nd ns k).id), .int .i64 ((nd ns k).kind), .int .i64 ((nd ns k).mode), .int .i64 ((nd ns k).uid), .int .i64 ((nd ns k).gid), .int .i64 ((nd ns k).sec), .int .i64 ((nd ns k).nano), .slice (Y.dA k) ((nd ns k).data.length) ((Y.dC k)), .string (nd ns k).target, .slice (Y.eA k) ((nd ns k).ai.length) ((Y.eC k))] 46, .blk b9 [.int .i64 ((nd ns k).id), .int .i64 ((nd ns k).mode), .int .i64 ((nd ns k).uid), .int .i64 ((nd ns k).gid), .int .i64 ((nd ns k).sec), .int .i64 ((nd ns k).nano), .int .i64 0, .int .i64 0, .bool false] 91]) (fun w hS => by rw [eZ hL2 hfr.idx, eZ hL2 hfr.us]; exact hS) ?_
         have AO : cM L2 (lU (nd ns k)) = .iface 95 (.pointer (some ⟨b13, 0, none⟩)) := by unfold lU; rw [mB hL2, hk3]; rfl
         refine ah.jI 3 (d := none) (t := 83) (K := 3) (E := 87) (b := m3) (n := S.idx.length) (f := (aN (aJ L2 S.idx))) (x := (.tmp 97)) (ix := (.tmp 99)) (y := (.tmp 105)) (key := .int .i64 ((nd ns k).id)) (u := .iface 95 (.pointer (some ⟨b13, 0, none⟩))) (kl := (.int .i64 (nd ns k).id)) (n' := (S.idx.length + 1)) (f' := (aN (aJ L2 (ins (nd ns k).id (lU (nd ns k)) S.idx)))) (fun _ => by kernel_rfl) (by kernel_rfl) (fun _ => by kernel_rfl) (fun _ => by kernel_rfl) (fun _ => by kernel_rfl) dL Tryz.underlying83 (by unfold maxLen; omega) (iB mA) (by rw [ez, hni]; rfl) (by rw [← AO]; exact oo hni) ?_
         refine NL (aj.np (aj.aW (NX (SR ?_))))
         refine gC 6 [] [(2, a_ 8 b8), (5, a_ 2 b7)] [(2, [(7, .int .i64 ((nd ns k).id))])] ?_
         refine NN ?_
         refine af.bT (S := [pF b7 m3 t4 { S.X with last := (nd ns k).id }, nD b8 ns k Y]) [0, 1, 2, 3, 4, 5, 6, 7, 8, 9, 10] 10 [2, 8] (by kernel_rfl) (by kernel_rfl) rfl (by kernel_rfl) ?_
         refine aD.reads (r := 0) (l := [10]) (fr' := (J8 b1 b7 A ns c k S)) (ak := [(Value.int .i64 (IntKind.wrap .i64 (S.X.used + (((nd ns k).data.length : Nat) : Int)))) = (.int .i64 (S.X.used + (((nd ns k).data.length : Nat) : Int))), b8 = b8, b7 = b7]) [0, 1, 2, 3, 4, 5, 6, 7, 8, 9] [o_, o_, o_, ⟨[.at 0], none, none, none, none⟩, o_, ⟨[.at 1], none, none, none, none⟩, o_, ⟨[], none, none, none, some (.int .i64 (S.X.used + (((nd ns k).data.length : Nat) : Int)))⟩, o_, o_] [2, 6, 47, 48, 49, 118, 120] (fun _ => by kernel_rfl) ⟨bQ (by omega) (by omega) (by omega), rfl, rfl, trivial⟩ rfl rfl ?_
         refine aD.last rfl rfl ?_
         refine gC 1 [] [(0, a_ 2 b7)] [(2, [(9, .int .i64 (S.X.used + (((nd ns k).data.length : Nat) : Int)))])] ?_
         refine NL (aj.np (aj.aW (NX (af.region ?_))))
         refine gK 2 [(49, .int .i64 ↑(k + 1))] [(0, p_ ⟨[], none, none, none, some (.int .i64 ↑(k + 1))⟩ [(Value.int .i64 (IntKind.wrap .i64 (((k : Nat) : Int) + 1))) = (.int .i64 ↑(k + 1))] ⟨bQ (by omega) (by omega) (by omega), trivial⟩)] ?_
         refine NL ?_
         refine aj.mem (aK := [.abs (aq (aS ((aX S (nd ns k)).O) L2)), .blk b1 [.slice A (ns.length) (c)] 26, .blk b7 [.int .i64 ((aX S (nd ns k)).X.cN), .int .i64 ((aX S (nd ns k)).X.cB), .int .i64 ((aX S (nd ns k)).X.cH), .int .i64 ((aX S (nd ns k)).X.cS), .int .i64 ((aX S (nd ns k)).X.cZ), .map (some m3), .pointer (some ⟨t4, 0, none⟩), .int .i64 ((aX S (nd ns k)).X.last), .int .i64 ((aX S (nd ns k)).X.ai), .int .i64 ((aX S (nd ns k)).X.used)] 89, .abs (aC Tryz.prog 3 m3 (aN (aJ L2 (aX S (nd ns k)).idx)) ((aX S (nd ns k)).idx.length)), .abs (aZ 143 t4 (aX S (nd ns k)).X.cH (aX S (nd ns k)).au (aJ L2 (aX S (nd ns k)).us)), .abs (aq (aY ((aX S (nd ns k)).O) L2)), .abs (aq (bw ((aX S (nd ns k)).O) L2)), .abs R, .blk b8 [.int .i64 ((nd ns k).id), .int .i64 ((nd ns k).kind), .int .i64 ((nd ns k).mode), .int .i64 ((nd ns k).uid), .int .i64 ((nd ns k).gid), .int .i64 ((nd ns k).sec), .int .i64 ((nd ns k).nano), .slice (Y.dA k) ((nd ns k).data.length) ((Y.dC k)), .string (nd ns k).target, .slice (Y.eA k) ((nd ns k).ai.length) ((Y.eC k))] 46, .blk b9 [.int .i64 ((nd ns k).id), .int .i64 ((nd ns k).mode), .int .i64 ((nd ns k).uid), .int .i64 ((nd ns k).gid), .int .i64 ((nd ns k).sec), .int .i64 ((nd ns k).nano), .int .i64 0, .int .i64 0, .bool false] 91]) (fun w hS => by rw [show (aX S (nd ns k)).idx.length = S.idx.length + 1 from fJ _ _ _]; exact hS) ?_
         exact aj.turn ((k + 1), (aX S (nd ns k)), L2) (idx := [2, 6, 47, 48, 49]) (pk := [1, 2, 3, 4, 0, 5, 6, 7]) (show (((k + 1)) ≤ ns.length) ∧ (jF X ns ((k + 1)) ((aX S (nd ns k)))) from ⟨by omega, tH hok (fun i hi => (hd i hi).1) (by omega) hB⟩) (by show ns.length - ((k + 1)) < ns.length - k; omega) (fun _ => by kernel_rfl) rfl (by kernel_rfl)
        ·
         have jO : (nd ns k).kind = 2 := by omega
         refine af.bT (S := [pF b7 m3 t4 S.X, nD b8 ns k Y, tI b9 ns k]) [0, 1, 2, 3, 4, 5, 6, 7, 8, 9, 10, 11] 7 [1, 8, 9] (by kernel_rfl) (by kernel_rfl) rfl (by kernel_rfl) ?_
         refine aD.reads (r := 0) (l := [7, 8, 9, 10, 11]) (fr' := (wE b1 b7 b8 A ns c k ++ J9 m3 ns k)) (ak := [b9 = b9, b9 = b9, b9 = b9, b9 = b9, b9 = b9, b9 = b9, b9 = b9, b9 = b9, b9 = b9, b8 = b8, b7 = b7]) [0, 1, 2, 3, 4, 5, 6] [o_, o_, o_, ⟨[.at 0], none, none, none, none⟩, o_, ⟨[.at 1], none, none, none, none⟩, ⟨[.at 2, .at 2, .at 2, .at 2, .at 2, .at 2, .at 2, .at 2, .at 2], none, none, none, none⟩] [2, 6, 8, 47, 48, 49, 69, 71, 72] (fun _ => by kernel_rfl) ⟨rfl, rfl, rfl, rfl, rfl, rfl, rfl, rfl, rfl, rfl, rfl, trivial⟩ rfl rfl ?_
         refine aD.cut (ι := Nat) (fr' := fun (m14 : Nat) => (wE b1 b7 b8 A ns c k ++ J9 m3 ns k ++ [(73, .map (some m14))])) (hp' := fun (m14 : Nat) => (rT b1 A ns c b7 m3 t4 S L R ++ [nD b8 ns k Y, tI b9 ns k, .abs (aC Tryz.prog 9 m14 (fun _ => none) 0)])) [1, 8, 9] rfl rfl ?_ rfl (fun _ => by kernel_rfl) ?_
         ·
          refine ah.kX (d := (some 73)) (t := 99) (fun _ => by kernel_rfl) Tryz.prog rfl 9 (fun m14 => ?_)
          refine NL ?_
          exact MD m14 [2, 6, 8, 47, 48, 49, 69, 71, 72, 73] [0, 1, 2, 3, 4, 5, 6, 7, 8, 9, 10]
         rintro m14
         refine aD.cut (ι := Unit) (fr' := fun (_ : Unit) => (wE b1 b7 b8 A ns c k ++ [(69, .map (some m3)), (71, vI ((nd ns k).id)), (74, .agg #[vI ((nd ns k).id), vI ((nd ns k).mode), vI ((nd ns k).uid), vI ((nd ns k).gid), vI ((nd ns k).sec), vI ((nd ns k).nano), vI 0, vI 0, .bool false, .map (some m14), .pointer none])])) (hp' := fun (_ : Unit) => (rT b1 A ns c b7 m3 t4 S L R ++ [nD b8 ns k Y, tI b9 ns k, .abs (aC Tryz.prog 9 m14 (fun _ => none) 0)])) [1, 8, 9] rfl rfl ?_ rfl (fun _ => by kernel_rfl) ?_
         ·
          refine gK 1 [(74, .agg #[.int .i64 ((nd ns k).id), .int .i64 ((nd ns k).mode), .int .i64 ((nd ns k).uid), .int .i64 ((nd ns k).gid), .int .i64 ((nd ns k).sec), .int .i64 ((nd ns k).nano), .int .i64 0, .int .i64 0, .bool false, .map (some m14), .pointer none])] [] ?_
          refine NL ?_
          exact MD () [2, 6, 8, 47, 48, 49, 69, 71, 74] [0, 1, 2, 3, 4, 5, 6, 7, 8, 9, 10]
         rintro _
         refine mN [1, 8, 9] (fun b15 => [(75, .pointer (some ⟨b15, 0, none⟩))]) (fun _ => []) (fun b15 => .blk b15 [.int .i64 ((nd ns k).id), .int .i64 ((nd ns k).mode), .int .i64 ((nd ns k).uid), .int .i64 ((nd ns k).gid), .int .i64 ((nd ns k).sec), .int .i64 ((nd ns k).nano), .int .i64 0, .int .i64 0, .bool false, .map (some m14), .pointer none] 101) (fun b15 => ?_)
         refine aD.cut (ι := Unit) (fr' := fun (_ : Unit) => (wE b1 b7 b8 A ns c k ++ [(69, .map (some m3)), (71, vI ((nd ns k).id)), (76, .iface 98 (vP b15))])) (hp' := fun (_ : Unit) => (rT b1 A ns c b7 m3 t4 S L R ++ [nD b8 ns k Y, tI b9 ns k, .abs (aC Tryz.prog 9 m14 (fun _ => none) 0), .blk b15 [.int .i64 ((nd ns k).id), .int .i64 ((nd ns k).mode), .int .i64 ((nd ns k).uid), .int .i64 ((nd ns k).gid), .int .i64 ((nd ns k).sec), .int .i64 ((nd ns k).nano), .int .i64 0, .int .i64 0, .bool false, .map (some m14), .pointer none] 101])) [1, 8, 9] rfl rfl ?_ rfl (fun _ => by kernel_rfl) ?_
         ·
          refine gK 1 [(76, .iface 98 (.pointer (some ⟨b15, 0, none⟩)))] [] ?_
          refine NL ?_
          exact MD () [2, 6, 8, 47, 48, 49, 69, 71, 76] [0, 1, 2, 3, 4, 5, 6, 7, 8, 9, 10, 11]
         rintro _
         refine aD.last rfl rfl ?_
         obtain ⟨L2, hL2⟩ : ∃ L2 : HL, L2 = L.put (dM (nd ns k)) b15 m14 none 0 := ⟨_, rfl⟩
         have hfr := hB.fresh hok (by omega)
         refine ah.mem (aK := [.abs (aq (aS ((aX S (nd ns k)).O) L2)), .blk b1 [.slice A (ns.length) (c)] 26, .blk b7 [.int .i64 (S.X.cN), .int .i64 (S.X.cB), .int .i64 (S.X.cH), .int .i64 (S.X.cS), .int .i64 (S.X.cZ), .map (some m3), .pointer (some ⟨t4, 0, none⟩), .int .i64 (S.X.last), .int .i64 (S.X.ai), .int .i64 (S.X.used)] 89, .abs (aC Tryz.prog 3 m3 (aN (aJ L S.idx)) S.idx.length), .abs (aZ 143 t4 S.X.cH S.au (aJ L S.us)), .abs (aq (aY S.O L)), .abs (aq (bw S.O L)), .abs R, .blk b8 [.int .i64 ((nd ns k).id), .int .i64 ((nd ns k).kind), .int .i64 ((nd ns k).mode), .int .i64 ((nd ns k).uid), .int .i64 ((nd ns k).gid), .int .i64 ((nd ns k).sec), .int .i64 ((nd ns k).nano), .slice (Y.dA k) ((nd ns k).data.length) ((Y.dC k)), .string (nd ns k).target, .slice (Y.eA k) ((nd ns k).ai.length) ((Y.eC k))] 46, .blk b9 [.int .i64 ((nd ns k).id), .int .i64 ((nd ns k).mode), .int .i64 ((nd ns k).uid), .int .i64 ((nd ns k).gid), .int .i64 ((nd ns k).sec), .int .i64 ((nd ns k).nano), .int .i64 0, .int .i64 0, .bool false] 91, .abs (aC Tryz.prog 9 m14 (fun _ => none) 0)]) (fun w hS => hS.q9 hL2 hfr (o := (nC (nd ns k))) (i := 4) (j := 11) (ix := [0, 1, 2, 3, 5, 6, 7, 8, 9, 10]) rfl rfl (by kernel_rfl) rfl (by show (nd ns k).kind ≠ 0; rw [jO]; decide) ((fW (L := L2) (k := (dM (nd ns k))) (o := (nC (nd ns k))) jO).trans (by rw [zW hL2]; rfl)) (by show kg (nd ns k).kind = _; rw [jO]; rfl)) ?_
         refine ah.mem (aK := [pE ((aX S (nd ns k)).O) L2, pO ((aX S (nd ns k)).O) L2, uH b1 A ns c, pF b7 m3 t4 S.X, pI m3 L S.idx, jo t4 S L, pD S.O L, .abs R, nD b8 ns k Y, tI b9 ns k]) (fun w hS => hS.GN hL2 hfr (o := (nC (nd ns k))) (i := 6) (j := 10) (ix := [0, 1, 2, 3, 4, 5, 7, 8, 9]) rfl rfl (by kernel_rfl) rfl jO rfl) ?_
         refine ah.mem (aK := [.abs (aq (bw ((aX S (nd ns k)).O) L2)), .abs (aq (aS ((aX S (nd ns k)).O) L2)), .blk b1 [.slice A (ns.length) (c)] 26, .blk b7 [.int .i64 (S.X.cN), .int .i64 (S.X.cB), .int .i64 (S.X.cH), .int .i64 (S.X.cS), .int .i64 (S.X.cZ), .map (some m3), .pointer (some ⟨t4, 0, none⟩), .int .i64 (S.X.last), .int .i64 (S.X.ai), .int .i64 (S.X.used)] 89, .abs (aC Tryz.prog 3 m3 (aN (aJ L S.idx)) S.idx.length), .abs (aZ 143 t4 S.X.cH S.au (aJ L S.us)), .abs (aq (aY ((aX S (nd ns k)).O) L2)), .abs R, .blk b8 [.int .i64 ((nd ns k).id), .int .i64 ((nd ns k).kind), .int .i64 ((nd ns k).mode), .int .i64 ((nd ns k).uid), .int .i64 ((nd ns k).gid), .int .i64 ((nd ns k).sec), .int .i64 ((nd ns k).nano), .slice (Y.dA k) ((nd ns k).data.length) ((Y.dC k)), .string (nd ns k).target, .slice (Y.eA k) ((nd ns k).ai.length) ((Y.eC k))] 46, .blk b9 [.int .i64 ((nd ns k).id), .int .i64 ((nd ns k).mode), .int .i64 ((nd ns k).uid), .int .i64 ((nd ns k).gid), .int .i64 ((nd ns k).sec), .int .i64 ((nd ns k).nano), .int .i64 0, .int .i64 0, .bool false] 91]) (fun w hS => hS.wk hL2 (o := (nC (nd ns k))) (i := 6) rfl (by show ¬ (nd ns k).kind = 1; rw [jO]; decide)) ?_
         refine ah.mem (aK := [.abs (aq (bw ((aX S (nd ns k)).O) L2)), .abs (aq (aS ((aX S (nd ns k)).O) L2)), .blk b1 [.slice A (ns.length) (c)] 26, .blk b7 [.int .i64 (S.X.cN), .int .i64 (S.X.cB), .int .i64 (S.X.cH), .int .i64 (S.X.cS), .int .i64 (S.X.cZ), .map (some m3), .pointer (some ⟨t4, 0, none⟩), .int .i64 (S.X.last), .int .i64 (S.X.ai), .int .i64 (S.X.used)] 89, .abs (aC Tryz.prog 3 m3 (aN (aJ L2 S.idx)) S.idx.length), .abs (aZ 143 t4 S.X.cH S.au (aJ L2 S.us)), .abs (aq (aY ((aX S (nd ns k)).O) L2)), .abs R, .blk b8 [.int .i64 ((nd ns k).id), .int .i64 ((nd ns k).kind), .int .i64 ((nd ns k).mode), .int .i64 ((nd ns k).uid), .int .i64 ((nd ns k).gid), .int .i64 ((nd ns k).sec), .int .i64 ((nd ns k).nano), .slice (Y.dA k) ((nd ns k).data.length) ((Y.dC k)), .string (nd ns k).target, .slice (Y.eA k) ((nd ns k).ai.length) ((Y.eC k))] 46, .blk b9 [.int .i64 ((nd ns k).id), .int .i64 ((nd ns k).mode), .int .i64 ((nd ns k).uid), .int .i64 ((nd ns k).gid), .int .i64 ((nd ns k).sec), .int .i64 ((nd ns k).nano), .int .i64 0, .int .i64 0, .bool false] 91]) (fun w hS => by rw [eZ hL2 hfr.idx, eZ hL2 hfr.us]; exact hS) ?_
         have AO : cM L2 (lU (nd ns k)) = .iface 98 (.pointer (some ⟨b15, 0, none⟩)) := by unfold lU; rw [mB hL2, jO]; rfl
         refine ah.jI 4 (d := none) (t := 83) (K := 3) (E := 87) (b := m3) (n := S.idx.length) (f := (aN (aJ L2 S.idx))) (x := (.tmp 69)) (ix := (.tmp 71)) (y := (.tmp 76)) (key := .int .i64 ((nd ns k).id)) (u := .iface 98 (.pointer (some ⟨b15, 0, none⟩))) (kl := (.int .i64 (nd ns k).id)) (n' := (S.idx.length + 1)) (f' := (aN (aJ L2 (ins (nd ns k).id (lU (nd ns k)) S.idx)))) (fun _ => by kernel_rfl) (by kernel_rfl) (fun _ => by kernel_rfl) (fun _ => by kernel_rfl) (fun _ => by kernel_rfl) dL Tryz.underlying83 (by unfold maxLen; omega) (iB mA) (by rw [ez, hni]; rfl) (by rw [← AO]; exact oo hni) ?_
         refine NL (aj.np (aj.aW (NX (SR ?_))))
         refine gC 6 [] [(2, a_ 8 b8), (5, a_ 3 b7)] [(3, [(7, .int .i64 ((nd ns k).id))])] ?_
         refine NN ?_
         refine af.bT (S := [pF b7 m3 t4 { S.X with last := (nd ns k).id }, nD b8 ns k Y]) [0, 1, 2, 3, 4, 5, 6, 7, 8, 9, 10] 10 [3, 8] (by kernel_rfl) (by kernel_rfl) rfl (by kernel_rfl) ?_
         refine aD.reads (r := 0) (l := [10]) (fr' := (J8 b1 b7 A ns c k S)) (ak := [(Value.int .i64 (IntKind.wrap .i64 (S.X.used + (((nd ns k).data.length : Nat) : Int)))) = (.int .i64 (S.X.used + (((nd ns k).data.length : Nat) : Int))), b8 = b8, b7 = b7]) [0, 1, 2, 3, 4, 5, 6, 7, 8, 9] [o_, o_, o_, ⟨[.at 0], none, none, none, none⟩, o_, ⟨[.at 1], none, none, none, none⟩, o_, ⟨[], none, none, none, some (.int .i64 (S.X.used + (((nd ns k).data.length : Nat) : Int)))⟩, o_, o_] [2, 6, 47, 48, 49, 118, 120] (fun _ => by kernel_rfl) ⟨bQ (by omega) (by omega) (by omega), rfl, rfl, trivial⟩ rfl rfl ?_
         refine aD.last rfl rfl ?_
         refine gC 1 [] [(0, a_ 3 b7)] [(3, [(9, .int .i64 (S.X.used + (((nd ns k).data.length : Nat) : Int)))])] ?_
         refine NL (aj.np (aj.aW (NX (af.region ?_))))
         refine gK 2 [(49, .int .i64 ↑(k + 1))] [(0, p_ ⟨[], none, none, none, some (.int .i64 ↑(k + 1))⟩ [(Value.int .i64 (IntKind.wrap .i64 (((k : Nat) : Int) + 1))) = (.int .i64 ↑(k + 1))] ⟨bQ (by omega) (by omega) (by omega), trivial⟩)] ?_
         refine NL ?_
         refine aj.mem (aK := [.abs (aq (bw ((aX S (nd ns k)).O) L2)), .abs (aq (aS ((aX S (nd ns k)).O) L2)), .blk b1 [.slice A (ns.length) (c)] 26, .blk b7 [.int .i64 ((aX S (nd ns k)).X.cN), .int .i64 ((aX S (nd ns k)).X.cB), .int .i64 ((aX S (nd ns k)).X.cH), .int .i64 ((aX S (nd ns k)).X.cS), .int .i64 ((aX S (nd ns k)).X.cZ), .map (some m3), .pointer (some ⟨t4, 0, none⟩), .int .i64 ((aX S (nd ns k)).X.last), .int .i64 ((aX S (nd ns k)).X.ai), .int .i64 ((aX S (nd ns k)).X.used)] 89, .abs (aC Tryz.prog 3 m3 (aN (aJ L2 (aX S (nd ns k)).idx)) ((aX S (nd ns k)).idx.length)), .abs (aZ 143 t4 (aX S (nd ns k)).X.cH (aX S (nd ns k)).au (aJ L2 (aX S (nd ns k)).us)), .abs (aq (aY ((aX S (nd ns k)).O) L2)), .abs R, .blk b8 [.int .i64 ((nd ns k).id), .int .i64 ((nd ns k).kind), .int .i64 ((nd ns k).mode), .int .i64 ((nd ns k).uid), .int .i64 ((nd ns k).gid), .int .i64 ((nd ns k).sec), .int .i64 ((nd ns k).nano), .slice (Y.dA k) ((nd ns k).data.length) ((Y.dC k)), .string (nd ns k).target, .slice (Y.eA k) ((nd ns k).ai.length) ((Y.eC k))] 46, .blk b9 [.int .i64 ((nd ns k).id), .int .i64 ((nd ns k).mode), .int .i64 ((nd ns k).uid), .int .i64 ((nd ns k).gid), .int .i64 ((nd ns k).sec), .int .i64 ((nd ns k).nano), .int .i64 0, .int .i64 0, .bool false] 91]) (fun w hS => by rw [show (aX S (nd ns k)).idx.length = S.idx.length + 1 from fJ _ _ _]; exact hS) ?_
         exact aj.turn ((k + 1), (aX S (nd ns k)), L2) (idx := [2, 6, 47, 48, 49]) (pk := [2, 3, 4, 5, 1, 6, 0, 7]) (show (((k + 1)) ≤ ns.length) ∧ (jF X ns ((k + 1)) ((aX S (nd ns k)))) from ⟨by omega, tH hok (fun i hi => (hd i hi).1) (by omega) hB⟩) (by show ns.length - ((k + 1)) < ns.length - k; omega) (fun _ => by kernel_rfl) rfl (by kernel_rfl)
      ·
       refine af.exit (aj.bG (aj.bG (aj.dw (NX (af.seq (SR ?_))))))
       refine gK 4 [(123, .slice A (ns.length) (c)), (124, .int .i64 ↑ns.length), (125, .int .i64 0)] [(1, a_ 0 b1)] ?_
       refine NN (af.block ?_)
       refine af.loop (ι := Nat × aH) (fun ((i, S1) : Nat × aH) => (i ≤ ns.length) ∧ (dP X ns i 0 S1)) (fun ((i, S1) : Nat × aH) => ns.length - i) (fun ((i, S1) : Nat × aH) => [(6, .pointer (some ⟨b7, 0, none⟩)), (123, .slice A (ns.length) (c)), (124, .int .i64 ↑ns.length), (125, .int .i64 ↑i)]) (fun ((i, S1) : Nat × aH) => (rT b1 A ns c b7 m3 t4 S1 L R)) (0, S) (idx := [6, 123, 124, 125]) (pk := [0, 1, 2, 3, 4, 5, 6, 7]) (show (0 ≤ ns.length) ∧ (dP X ns 0 0 S) from ⟨Nat.zero_le _, by have h := hB; rw [show k = ns.length by omega] at h; exact h.ai⟩) (fun _ => by kernel_rfl) rfl (by kernel_rfl) ?_
       rintro ⟨i, S1⟩ ⟨hi, hE⟩
       show af _ _ _ _ [(6, .pointer (some ⟨b7, 0, none⟩)), (123, .slice A (ns.length) (c)), (124, .int .i64 ↑ns.length), (125, .int .i64 ↑i)] (rT b1 A ns c b7 m3 t4 S1 L R) _
       refine SR ?_
       refine gK 1 [(126, .bool (decide ((((i : Nat) : Int) : Int) < (((ns.length : Nat) : Int) : Int))))] [] ?_
       refine NN (af.seq ?_)
       refine af.bH (p := (((i : Nat) : Int) : Int) < (((ns.length : Nat) : Int) : Int)) (fun _ => by kernel_rfl) (fun Mj => ?_) (fun Mj => ?_)
       ·
        refine af.skip (NX (af.seq (af.block (SR ?_))))
        refine gN 4 (fun b16 => [(11, .pointer (some ⟨b16, 0, none⟩))]) (fun b16 => [(0, p_ ⟨[], some i, none, some ⟨(ay A), ax A, none⟩, none⟩ [((i : Nat) : Int) = ((i : Nat) : Int), i < ns.length, (⟨(ay A), ax A, none⟩ : Addr).spot = none, (A : Option Addr) = some ⟨(ay A), ax A, none⟩] ⟨rfl, by omega, rfl, aR.hd hG (i := i) (by omega), trivial⟩), (1, p_ ⟨[.old (.int .i64 ((nd ns i).id)), .old (.int .i64 ((nd ns i).kind)), .old (.int .i64 ((nd ns i).mode)), .old (.int .i64 ((nd ns i).uid)), .old (.int .i64 ((nd ns i).gid)), .old (.int .i64 ((nd ns i).sec)), .old (.int .i64 ((nd ns i).nano)), .old (.slice (Y.dA i) ((nd ns i).data.length) ((Y.dC i))), .old (.string (nd ns i).target), .old (.slice (Y.eA i) ((nd ns i).ai.length) ((Y.eC i)))], none, none, none, none⟩ [(Rd β ⟨(ay A), ax A + i * 10 + 9, none⟩ (.slice (Y.eA i) ((nd ns i).ai.length) ((Y.eC i)))), (Rd β ⟨(ay A), ax A + i * 10 + 8, none⟩ (.string (nd ns i).target)), (Rd β ⟨(ay A), ax A + i * 10 + 7, none⟩ (.slice (Y.dA i) ((nd ns i).data.length) ((Y.dC i)))), (Rd β ⟨(ay A), ax A + i * 10 + 6, none⟩ (.int .i64 ((nd ns i).nano))), (Rd β ⟨(ay A), ax A + i * 10 + 5, none⟩ (.int .i64 ((nd ns i).sec))), (Rd β ⟨(ay A), ax A + i * 10 + 4, none⟩ (.int .i64 ((nd ns i).gid))), (Rd β ⟨(ay A), ax A + i * 10 + 3, none⟩ (.int .i64 ((nd ns i).uid))), (Rd β ⟨(ay A), ax A + i * 10 + 2, none⟩ (.int .i64 ((nd ns i).mode))), (Rd β ⟨(ay A), ax A + i * 10 + 1, none⟩ (.int .i64 ((nd ns i).kind))), (Rd β ⟨(ay A), ax A + i * 10, none⟩ (.int .i64 ((nd ns i).id)))] ⟨aR.rd hG (i := i) (by omega) (j := 9) rfl, aR.rd hG (i := i) (by omega) (j := 8) rfl, aR.rd hG (i := i) (by omega) (j := 7) rfl, aR.rd hG (i := i) (by omega) (j := 6) rfl, aR.rd hG (i := i) (by omega) (j := 5) rfl, aR.rd hG (i := i) (by omega) (j := 4) rfl, aR.rd hG (i := i) (by omega) (j := 3) rfl, aR.rd hG (i := i) (by omega) (j := 2) rfl, aR.rd hG (i := i) (by omega) (j := 1) rfl, aR.rd hG (i := i) (by omega) (j := 0) rfl, trivial⟩), (3, A_ 8 b16 10)]) (fun _ => []) (fun b16 => .blk b16 [.int .i64 ((nd ns i).id), .int .i64 ((nd ns i).kind), .int .i64 ((nd ns i).mode), .int .i64 ((nd ns i).uid), .int .i64 ((nd ns i).gid), .int .i64 ((nd ns i).sec), .int .i64 ((nd ns i).nano), .slice (Y.dA i) ((nd ns i).data.length) ((Y.dC i)), .string (nd ns i).target, .slice (Y.eA i) ((nd ns i).ai.length) ((Y.eC i))] 46) (fun b16 => ?_)
        refine NS ?_
        refine gK 4 [(130, .slice (Y.eA i) ((nd ns i).ai.length) ((Y.eC i))), (131, .int .i64 ↑((nd ns i).ai.length)), (132, .int .i64 0)] [(1, a_ 8 b16)] ?_
        refine NN (af.block ?_)
        refine af.loop (ι := Nat × aH) (fun ((j, S2) : Nat × aH) => (j ≤ (nd ns i).ai.length) ∧ (dP X ns i j S2)) (fun ((j, S2) : Nat × aH) => (nd ns i).ai.length - j) (fun ((j, S2) : Nat × aH) => (LD b7 b16 A ns c i Y j)) (fun ((j, S2) : Nat × aH) => ([nD b16 ns i Y] ++ rT b1 A ns c b7 m3 t4 S2 L R)) (0, S1) (idx := [6, 11, 123, 124, 125, 130, 131, 132]) (pk := [8, 0, 1, 2, 3, 4, 5, 6, 7]) (show (0 ≤ (nd ns i).ai.length) ∧ (dP X ns i 0 S1) from ⟨Nat.zero_le _, hE⟩) (fun _ => by kernel_rfl) rfl (by kernel_rfl) ?_
        rintro ⟨j, S2⟩ ⟨hj, qK⟩
        show af _ _ _ _ (LD b7 b16 A ns c i Y j) ([nD b16 ns i Y] ++ rT b1 A ns c b7 m3 t4 S2 L R) _
        refine SR ?_
        refine gK 1 [(133, .bool (decide ((((j : Nat) : Int) : Int) < ((((nd ns i).ai.length : Nat) : Int) : Int))))] [] ?_
        refine NN (af.seq ?_)
        refine af.bH (p := (((j : Nat) : Int) : Int) < ((((nd ns i).ai.length : Nat) : Int) : Int)) (fun _ => by kernel_rfl) (fun Mk => ?_) (fun Mk => ?_)
        ·
         have hj2 : j < (nd ns i).ai.length := by omega
         have hi2 : i < ns.length := by omega
         have Ml := qK.get hi2
         obtain ⟨hes, hno, hk2⟩ := qK.look hok hi2 hj2
         have Kb := o8 hok hi2 hj2
         have Ax : TabM.get S2.idx (nd ns i).id = some ⟨(dM (nd ns i)), 2⟩ := by rw [Ml]; unfold lU; rw [hk2]
         have hge : TabM.get S2.idx (ent ns i j).id = some (ja ns (ent ns i j)) := by rw [← Kb.2]; exact qK.get Kb.1
         have Gc := hok.ids i hi2
         have hiw : (Lit.int .i64 (nd ns i).id).wf = true := WalkArith.wf_i64 (by omega)
         have MX : (Lit.int .i64 (ent ns i j).id).wf = true := WalkArith.wf_i64 (by have := hwf i hi2 j hj2; omega)
         have hld := qK.live hok hi2
         have hlt := qK.live hok Kb.1
         have hkd : (obj S2.O (dM (nd ns i))).kind = 2 := (qK.inv.kind hld).trans hk2
         have hkt : (obj S2.O (ja ns (ent ns i j)).k).kind = (ja ns (ent ns i j)).kind := qK.inv.kind hlt
         have h3 : (ja ns (ent ns i j)).kind = 1 ∨ (ja ns (ent ns i j)).kind = 2 ∨ (ja ns (ent ns i j)).kind = 3 := (qK.inv.ob _ hlt).2.2
         have hlb : 0 ≤ (obj S2.O (ja ns (ent ns i j)).k).links ∧ (obj S2.O (ja ns (ent ns i j)).k).links ≤ 8192 := qK.inv.lb hlt
         have hel : (obj S2.O (dM (nd ns i))).ai.length ≤ 8192 := qK.inv.eG hld
         have hsz := hnm i hi2 j hj2
         have hde := hd i hi2
         have NY := qK.inv.hX
         refine af.skip (NX (af.seq (af.block (SR ?_))))
         refine gN 4 (fun b17 => [(13, .pointer (some ⟨b17, 0, none⟩))]) (fun b17 => [(0, p_ ⟨[], some j, none, some ⟨(ay (Y.eA i)), ax (Y.eA i), none⟩, none⟩ [((j : Nat) : Int) = ((j : Nat) : Int), j < (nd ns i).ai.length, (⟨(ay (Y.eA i)), ax (Y.eA i), none⟩ : Addr).spot = none, ((Y.eA i) : Option Addr) = some ⟨(ay (Y.eA i)), ax (Y.eA i), none⟩] ⟨rfl, by omega, rfl, dZ.hd (hG.ai i (by omega)) (i := j) (by omega), trivial⟩), (1, p_ ⟨[.old (.string (en (nd ns i).ai j).name), .old (.int .i64 ((en (nd ns i).ai j).id))], none, none, none, none⟩ [(Rd β ⟨(ay (Y.eA i)), ax (Y.eA i) + j * 2 + 1, none⟩ (.int .i64 ((en (nd ns i).ai j).id))), (Rd β ⟨(ay (Y.eA i)), ax (Y.eA i) + j * 2, none⟩ (.string (en (nd ns i).ai j).name))] ⟨dZ.rd (hG.ai i (by omega)) (i := j) (by omega) (j := 1) rfl, dZ.rd (hG.ai i (by omega)) (i := j) (by omega) (j := 0) rfl, trivial⟩), (3, A_ 9 b17 2)]) (fun _ => []) (fun b17 => .blk b17 [.string (en (nd ns i).ai j).name, .int .i64 ((en (nd ns i).ai j).id)] 62) (fun b17 => ?_)
         refine NN (af.seq ?_)
         refine af.bT (S := [pF b7 m3 t4 S2.X, pI m3 L S2.idx, nD b16 ns i Y, .blk b17 [.string (en (nd ns i).ai j).name, .int .i64 ((en (nd ns i).ai j).id)] 62]) [0, 1, 2, 3, 4, 5, 6, 7, 8, 9, 10, 11, 12, 13, 14, 15, 16, 17] 17 [2, 3, 0, 9] (by kernel_rfl) (by kernel_rfl) rfl (by kernel_rfl) ?_
         refine aD.reads (r := 11) (l := [6, 7, 8, 9, 10, 11, 12, 13, 14, 15, 16, 17]) (fr' := ([(6, vP b7), (11, vP b16), (13, vP b17)] ++ Ka A ns c i Y j ++ [(139, .map (some m3)), (141, vI ((nd ns i).id))])) (ak := [b16 = b16, b7 = b7]) [0, 1, 2, 3, 4, 5] [o_, o_, o_, ⟨[.at 0], none, none, none, none⟩, o_, ⟨[.at 2], none, none, none, none⟩] [6, 11, 13, 123, 124, 125, 130, 131, 132, 139, 141] (fun _ => by kernel_rfl) ⟨rfl, rfl, trivial⟩ rfl rfl ?_
         refine aD.dV 1 (d := (some 142)) (t := 83) (K := 3) (E := 87) (b := m3) (cnt := S2.idx.length) (f := (aN (aJ L S2.idx))) (x := (.tmp 139)) (ix := (.tmp 141)) (key := .int .i64 ((nd ns i).id)) (z := .nilIface) (kl := (.int .i64 (nd ns i).id)) (q := (some (cM L ⟨(dM (nd ns i)), 2⟩))) (by kernel_rfl) (by kernel_rfl) (fun _ => by kernel_rfl) (fun _ => by kernel_rfl) dL Tryz.underlying83 (fun _ => by kernel_rfl) (iB hiw) (by rw [ez, Ax]; rfl) (by kernel_rfl) ?_
         refine aD.reads (r := 1) (l := [16, 17]) (fr' := ([(6, vP b7), (11, vP b16)] ++ Ka A ns c i Y j ++ [(143, .pointer (some ⟨(L.b (dM (nd ns i))), 0, none⟩)), (145, .string (en (nd ns i).ai j).name), (149, .map (some m3)), (151, vI ((en (nd ns i).ai j).id))])) (ak := [b17 = b17, b7 = b7, b17 = b17]) [7, 8, 9, 10, 11, 12, 13, 14, 15] [o_, o_, ⟨[.at 3], none, none, none, none⟩, o_, o_, o_, ⟨[.at 0], none, none, none, none⟩, o_, ⟨[.at 3], none, none, none, none⟩] [6, 11, 123, 124, 125, 130, 131, 132, 143, 145, 149, 151] (fun _ => by kernel_rfl) ⟨rfl, rfl, rfl, trivial⟩ rfl rfl ?_
         refine aD.dV 1 (d := (some 152)) (t := 83) (K := 3) (E := 87) (b := m3) (cnt := S2.idx.length) (f := (aN (aJ L S2.idx))) (x := (.tmp 149)) (ix := (.tmp 151)) (key := .int .i64 ((en (nd ns i).ai j).id)) (z := .nilIface) (kl := (.int .i64 (ent ns i j).id)) (q := (some (cM L (ja ns (ent ns i j))))) (by kernel_rfl) (by kernel_rfl) (fun _ => by kernel_rfl) (fun _ => by kernel_rfl) dL Tryz.underlying83 (fun _ => by kernel_rfl) (iB MX) (by rw [ez, hge]; rfl) (by kernel_rfl) ?_
         refine aD.last rfl rfl ?_
         refine gL [5, 7] (Bv S2.O L (dM (nd ns i)) hkd (ent ns i j).name hsz hno (by omega) (ja ns (ent ns i j)) hkt h3 (by omega)) ?_
         rintro _ _ ⟨rfl, rfl⟩
         refine NL (aj.np (NX (af.region ?_)))
         refine gC 8 [] [(3, a_ 4 b7), (4, p_ ⟨[], none, none, none, some (.int .i64 (S2.X.ai + 1))⟩ [(Value.int .i64 (IntKind.wrap .i64 (S2.X.ai + 1))) = (.int .i64 (S2.X.ai + 1))] ⟨bQ (by omega) (by omega) (by omega), trivial⟩), (7, a_ 4 b7)] [(4, [(8, .int .i64 (S2.X.ai + 1))])] ?_
         refine NL (aj.aW (NX (af.region ?_)))
         refine gK 2 [(132, .int .i64 ↑(j + 1))] [(0, p_ ⟨[], none, none, none, some (.int .i64 ↑(j + 1))⟩ [(Value.int .i64 (IntKind.wrap .i64 (((j : Nat) : Int) + 1))) = (.int .i64 ↑(j + 1))] ⟨bQ (by omega) (by omega) (by omega), trivial⟩)] ?_
         refine NL ?_
         refine aj.mem (aK := [.abs (aq (aS ((iY ns S2 (nd ns i) (ent ns i j)).O) L)), .abs (aq (bw ((iY ns S2 (nd ns i) (ent ns i j)).O) L)), .blk b16 [.int .i64 ((nd ns i).id), .int .i64 ((nd ns i).kind), .int .i64 ((nd ns i).mode), .int .i64 ((nd ns i).uid), .int .i64 ((nd ns i).gid), .int .i64 ((nd ns i).sec), .int .i64 ((nd ns i).nano), .slice (Y.dA i) ((nd ns i).data.length) ((Y.dC i)), .string (nd ns i).target, .slice (Y.eA i) ((nd ns i).ai.length) ((Y.eC i))] 46, .blk b1 [.slice A (ns.length) (c)] 26, .blk b7 [.int .i64 ((iY ns S2 (nd ns i) (ent ns i j)).X.cN), .int .i64 ((iY ns S2 (nd ns i) (ent ns i j)).X.cB), .int .i64 ((iY ns S2 (nd ns i) (ent ns i j)).X.cH), .int .i64 ((iY ns S2 (nd ns i) (ent ns i j)).X.cS), .int .i64 ((iY ns S2 (nd ns i) (ent ns i j)).X.cZ), .map (some m3), .pointer (some ⟨t4, 0, none⟩), .int .i64 ((iY ns S2 (nd ns i) (ent ns i j)).X.last), .int .i64 ((iY ns S2 (nd ns i) (ent ns i j)).X.ai), .int .i64 ((iY ns S2 (nd ns i) (ent ns i j)).X.used)] 89, .abs (aC Tryz.prog 3 m3 (aN (aJ L (iY ns S2 (nd ns i) (ent ns i j)).idx)) ((iY ns S2 (nd ns i) (ent ns i j)).idx.length)), .abs (aZ 143 t4 (iY ns S2 (nd ns i) (ent ns i j)).X.cH (iY ns S2 (nd ns i) (ent ns i j)).au (aJ L (iY ns S2 (nd ns i) (ent ns i j)).us)), .abs (aq (aY ((iY ns S2 (nd ns i) (ent ns i j)).O) L)), .abs R, .blk b17 [.string (en (nd ns i).ai j).name, .int .i64 ((en (nd ns i).ai j).id)] 62]) (fun w hS => by rw [show aY (iY ns S2 (nd ns i) (ent ns i j)).O L = aY S2.O L from Ib]; exact hS) ?_
         exact aj.turn ((j + 1), (iY ns S2 (nd ns i) (ent ns i j))) (idx := [6, 11, 123, 124, 125, 130, 131, 132]) (pk := [2, 3, 4, 5, 6, 0, 7, 1, 8]) (show (((j + 1)) ≤ (nd ns i).ai.length) ∧ (dP X ns i ((j + 1)) ((iY ns S2 (nd ns i) (ent ns i j)))) from ⟨by omega, qK.step hok (by omega) (by omega)⟩) (by show (nd ns i).ai.length - ((j + 1)) < (nd ns i).ai.length - j; omega) (fun _ => by kernel_rfl) rfl (by kernel_rfl)
        ·
         refine af.exit (aj.bG (aj.bG (aj.dw (aj.aW (NX (af.region ?_))))))
         refine gK 2 [(125, .int .i64 ↑(i + 1))] [(0, p_ ⟨[], none, none, none, some (.int .i64 ↑(i + 1))⟩ [(Value.int .i64 (IntKind.wrap .i64 (((i : Nat) : Int) + 1))) = (.int .i64 ↑(i + 1))] ⟨bQ (by omega) (by omega) (by omega), trivial⟩)] ?_
         refine NL ?_
         exact aj.turn ((i + 1), S2) (idx := [6, 123, 124, 125]) (pk := [1, 2, 3, 4, 5, 6, 7, 8]) (show (((i + 1)) ≤ ns.length) ∧ (dP X ns ((i + 1)) 0 S2) from ⟨by omega, by have h := qK; rw [show j = (nd ns i).ai.length by omega] at h; exact h.next⟩) (by show ns.length - ((i + 1)) < ns.length - i; omega) (fun _ => by kernel_rfl) rfl (by kernel_rfl)
       ·
        refine af.exit (aj.bG (aj.bG (aj.dw (NX (SR ?_)))))
        refine gK 3 [(4, .pointer (some ⟨b7, 0, none⟩)), (5, .int .i64 0)] [] ?_
        refine NN (af.ret ?_)
        exact RT (.tuple #[.pointer (some ⟨b7, 0, none⟩), .int .i64 0]) [1, 2, 3, 4, 5, 6, 7] (.inr (.inr ⟨hcap, hok, S1, b7, m3, t4, L, by have h := hE; rw [show i = ns.length by omega] at h; exact h, rfl, rfl⟩))
end Go.Proofs.YtkiedlmhocglhaaGreat
end
section
namespace Go.Proofs.YtkiedlmhocglhaaGreat
open Go.RowKit Go.Maps HeapM TabM
theorem vC {b : UInt8} (h0 : ¬ b = 0) (h1 : ¬ b = 47) (h2 : ¬ b = 46) : cC ⟨#[b]⟩ := by
  refine ⟨Nat.le_refl _, (by show 1 ≤ 255; decide), fun e => h2 ?_, fun e => ?_, fun j hj => ?_⟩
  · injection e with e
    have e : [b] = [46] := congrArg Array.toList e
    injection e
  · injection e with e
    have e : [b] = [46, 46] := congrArg Array.toList e
    injection e with _ e
    cases e
  · have : j = 0 := by have hj : j < 1 := hj; omega
    subst this
    show ¬ b.toNat = 0 ∧ ¬ b.toNat = 47
    exact ⟨fun e => h0 (UInt8.toNat_inj.1 e), fun e => h1 (UInt8.toNat_inj.1 e)⟩
theorem tK : cL 0 0 := ⟨by decide, by decide, by decide, by decide, by decide⟩
def Df : aL := ⟨1, 2, 493, 0, 0, 0, 0, [], ⟨#[]⟩, [⟨⟨#[102]⟩, 2⟩]⟩
def K2 : aL := ⟨2, 1, 420, 0, 0, 0, 0, [], ⟨#[]⟩, []⟩
def mK : List aL := [Df, K2]
def Gf (room : Int) : FM := ⟨9, room, 9, 0, 0, 0, 0, 0⟩
theorem rJ {i : Nat} (h : i < mK.length) : i = 0 ∨ i = 1 := by
  have h : i < 2 := h
  omega
theorem Kc : bR mK := by
  refine ⟨by decide, fun i hi => ?_, fun i hi => ?_, fun i j hij hj => ?_, by decide, fun i hi j hj => ?_, by decide, fun z => ?_⟩
  · rcases rJ hi with rfl | rfl
    · exact ⟨by decide, by decide, by decide, by decide, tK, fun _ => rfl, fun h => absurd rfl h, .inl ⟨by decide, rfl⟩⟩
    · exact ⟨by decide, by decide, by decide, by decide, tK, fun h => absurd rfl h, fun _ => rfl, .inl ⟨by decide, rfl⟩⟩
  · rcases rJ hi with rfl | rfl <;> exact ⟨by decide, by decide⟩
  · rcases rJ hj with rfl | rfl
    · omega
    · have : i = 0 := by omega
      subst this; decide
  · rcases rJ hi with rfl | rfl
    · have hj : j < 1 := hj
      have : j = 0 := by omega
      subst this
      exact ⟨by decide, vC (by decide) (by decide) (by decide), by show ¬ ig ⟨#[102]⟩ ⟨#[]⟩; unfold ig; decide +kernel⟩
    · exact absurd hj (Nat.not_lt_zero j)
  · have e : (dB mK mK.length).map (eU mK) = [] := by decide
    rw [e]
    exact ⟨0, rfl⟩
theorem Ke {β : Bs} {B : Option Addr} {e : Nat} (hR : gD β B (cQ ⟨fun _ => none, fun i => if i = 0 then some ⟨e, 0, none⟩ else none, fun _ => 0, fun i => if i = 0 then 1 else 0⟩ mK)) (h1 : dZ β (some ⟨e, 0, none⟩) Df.ai) : aR β B mK ⟨fun _ => none, fun i => if i = 0 then some ⟨e, 0, none⟩ else none, fun _ => 0, fun i => if i = 0 then 1 else 0⟩ := by
  have hn : ∀ {A : Option Addr}, gD β A [] := fun j v hj => by simp at hj
  refine ⟨hR, fun i hi => ?_, fun i hi => ?_⟩
  · rcases rJ hi with rfl | rfl <;> exact hn
  · rcases rJ hi with rfl | rfl
    · exact h1
    · exact hn
theorem Ie {room : Int} (h : 0 ≤ room ∧ room ≤ 1099511627776) : ug (Gf room) := ⟨by show (0 : Int) ≤ 9 ∧ (9 : Int) ≤ 4096; decide, h, by show (0 : Int) ≤ 9 ∧ (9 : Int) ≤ 1024; decide, tK⟩
section ops
variable {S : aH} {c : aU} {t : Th} {d : Nat}
theorem rK {O : bM} {us : Used Th} {h : Int} {name : ByteArray} {need : Int} (h1 : TabM.get us h = some t) (h2 : t.kind = 2) (h3 : (obj O t.k).gone = false) (h4 : cC name) (h5 : bits BinOp.and .i64 (obj O t.k).mode need = need) : cx O us h name need = .ok t.k := by
  unfold cx
  rw [h1]
  simp only
  rw [if_pos h2, if_neg (by rw [h3]; decide), if_pos h4, if_pos h5]
theorem Ig (hop : c.op = 1) (h1 : TabM.get S.idx c.other = some t) (h2 : t.kind = 2) (h3 : (S.us.length : Int) < S.X.cH) : doM S c = ({ S with O := aB S.O t.k (fun o => { o with opens := o.opens + 1 }), us := ins (least S.us) t S.us, au := max S.au ((S.us.length : Int) + 1) }, { c with answer := least S.us, code := 0 }) := by
  unfold doM
  rw [y4 (by exact hop)]
  unfold ij
  simp only
  rw [h1]
  simp only
  rw [if_pos h2, gy h3]
theorem Dg (hop : c.op = 2) (ha : cx S.O S.us c.handle c.name 64 = .ok d) (hl : aT c.name (obj S.O d).ai = some t) (h2 : t.kind = 2) (h3 : (S.us.length : Int) < S.X.cH) : doM S c = ({ S with O := aB S.O t.k (fun o => { o with opens := o.opens + 1 }), us := ins (least S.us) t S.us, au := max S.au ((S.us.length : Int) + 1) }, { c with answer := least S.us, code := 0 }) := by
  unfold doM
  rw [y5 (by exact hop)]
  unfold dU d6
  simp only
  rw [ha]
  simp only
  rw [hl]
  simp only
  rw [if_neg (by omega), if_neg (by omega), gy h3]
theorem Bl (hop : c.op = 3) (ha : cx S.O S.us c.handle c.name 64 = .ok d) (hl : aT c.name (obj S.O d).ai = some t) (h2 : t.kind = 1) (h3 : (S.us.length : Int) < S.X.cH) : doM S c = ({ S with O := aB S.O t.k (fun o => { o with opens := o.opens + 1 }), us := ins (least S.us) t S.us, au := max S.au ((S.us.length : Int) + 1) }, { c with answer := least S.us, code := 0 }) := by
  unfold doM
  rw [y6 (by exact hop)]
  unfold dI d6
  simp only
  rw [ha]
  simp only
  rw [hl]
  simp only
  rw [if_neg (by omega), if_neg (by omega), gy h3]
theorem Gg (hop : c.op = 4) (ha : cx S.O S.us c.handle c.name 192 = .ok d) (hm : kA c.mode) (hl : aT c.name (obj S.O d).ai = none) (hr : Room S.X S.idx) : doM S c = (ct S d c.name (aQ S.X 2 c.mode), { c with answer := 0, code := 0 }) := by
  unfold doM
  rw [y7 (by exact hop)]
  unfold eN
  simp only
  rw [ha]
  simp only
  rw [if_pos hm]
  unfold mkdirM bY
  rw [if_pos hl, if_pos hr, if_pos rfl]
theorem Gh (hop : c.op = 9) (h1 : TabM.get S.us c.handle = some t) (h2 : t.kind = 1) : doM S c = ((writeM S t.k c.data).2.2, { c with answer := (writeM S t.k c.data).1, code := (writeM S t.k c.data).2.1 }) := by
  unfold doM
  rw [y9 (by exact hop)]
  unfold eO
  simp only
  rw [h1]
  simp only
  rw [if_pos h2]
theorem EG (hop : c.op = 8) (ha : cx S.O S.us c.handle c.name 192 = .ok d) (hl : aT c.name (obj S.O d).ai = some t) (h2 : t.kind ≠ 2) : doM S c = (ar S d c.name t, { c with answer := 0, code := 0 }) := by
  unfold doM
  rw [y8 (by exact hop)]
  unfold eS unlinkM
  simp only
  rw [ha]
  simp only
  rw [hl]
  simp only
  rw [if_neg h2]
theorem Gi (hop : c.op = 13) (h1 : TabM.get S.us c.handle = some t) : doM S c = ({ S with
      X := { S.X with used := fF (gh S.O t.k) S.X.used t }
      O := gh S.O t.k
      idx := eW (gh S.O t.k) S.idx t
      us := del c.handle S.us }, { c with answer := 0, code := 0 }) := by
  unfold doM
  rw [wB (by exact hop)]
  unfold gG
  simp only
  rw [h1]
end ops
structure AP (room : Int) (S : aH) : Prop where
  inv : Inv S
  idx : S.idx = [(1, ⟨1, 2⟩), (2, ⟨2, 1⟩)]
  us : S.us = []
  X : S.X = ⟨9, room, 9, 0, 0, 2, 1, 0⟩
  o1 : ∃ l u, obj S.O 1 = ⟨1, 493, 0, 0, 0, 0, l, 0, false, 2, [], ⟨#[]⟩, [(⟨#[102]⟩, ⟨2, 1⟩)], u⟩
  o2 : ∃ u, obj S.O 2 = ⟨2, 420, 0, 0, 0, 0, 1, 0, false, 1, [], ⟨#[]⟩, [], u⟩
theorem Ih {room : Int} {S : aH} (h : dP (Gf room) mK mK.length 0 S) : AP room S := by
  have hi : S.idx = [(1, ⟨1, 2⟩), (2, ⟨2, 1⟩)] := h.idx
  have Kf : Inv S := h.full
  obtain ⟨l1, u1, h1⟩ := h.ob 0 (by decide)
  obtain ⟨l2, u2, h2⟩ := h.ob 1 (by decide)
  have h1 : obj S.O 1 = ⟨1, 493, 0, 0, 0, 0, l1, 0, false, 2, [], ⟨#[]⟩, [(⟨#[102]⟩, ⟨2, 1⟩)], u1⟩ := h1
  have h2 : obj S.O 2 = ⟨2, 420, 0, 0, 0, 0, l2, 0, false, 1, [], ⟨#[]⟩, [], u2⟩ := h2
  have hl := Kf.links ⟨2, 1⟩ (by rw [hi]; rfl)
  have hl2 : l2 = 1 := by
    rw [hi] at hl
    have e : fH [(1, ⟨1, 2⟩), (2, ⟨2, 1⟩)] S.O 2 = 1 := by
      show (obj S.O 1).ai.countP _ + ((obj S.O 2).ai.countP _ + 0) = 1
      rw [h1, h2]; rfl
    simp only at hl
    rw [e, h2] at hl
    exact hl
  subst hl2
  exact ⟨Kf, hi, h.us, h.cap, ⟨l1, u1, h1⟩, ⟨u2, h2⟩⟩
theorem EH : cC ⟨#[102]⟩ := vC (by decide) (by decide) (by decide)
theorem EI : cC ⟨#[100]⟩ := vC (by decide) (by decide) (by decide)
def mM : aU := ⟨1, 0, 1, ⟨#[]⟩, ⟨#[]⟩, none, 0, [], 0, 0, 0, 0, 0, 0, 0⟩
def qL : aU := ⟨4, 1, 0, ⟨#[100]⟩, ⟨#[]⟩, none, 0, [], 448, 0, 0, 0, 0, 0, 0⟩
def wF : aU := ⟨2, 1, 0, ⟨#[100]⟩, ⟨#[]⟩, none, 0, [], 0, 0, 0, 0, 0, 0, 0⟩
def wG : aU := ⟨3, 1, 0, ⟨#[102]⟩, ⟨#[]⟩, none, 0, [], 0, 0, 0, 0, 0, 0, 0⟩
def qM (h : Int) (A : Option Addr) (cp : Nat) (bs : List UInt8) : aU := ⟨9, h, 0, ⟨#[]⟩, ⟨#[]⟩, A, cp, bs, 0, 0, 0, 0, 0, 0, 0⟩
def tL : aU := ⟨8, 1, 0, ⟨#[102]⟩, ⟨#[]⟩, none, 0, [], 0, 0, 0, 0, 0, 0, 0⟩
def wH (h : Int) : aU := ⟨13, h, 0, ⟨#[]⟩, ⟨#[]⟩, none, 0, [], 0, 0, 0, 0, 0, 0, 0⟩
theorem EJ : bits BinOp.and .i64 493 192 = 192 := by kernel_rfl
theorem EK : bits BinOp.and .i64 493 64 = 64 := by kernel_rfl
section chain
variable {room : Int} {S : aH}
def S1 (S : aH) : aH := { S with O := aB S.O 1 (fun o => { o with opens := o.opens + 1 }), us := [(1, ⟨1, 2⟩)], au := max S.au 1 }
theorem Kg : obj (S1 S).O 1 = { obj S.O 1 with opens := (obj S.O 1).opens + 1 } := rfl
theorem Mn : obj (S1 S).O 2 = obj S.O 2 := rfl
theorem o9 (h : AP room S) : doM S mM = (S1 S, { mM with answer := 1, code := 0 }) := by
  rw [Ig (S := S) (c := mM) (t := ⟨1, 2⟩) rfl (by rw [h.idx]; rfl) rfl (by rw [h.us, h.X]; show (0 : Int) < 9; decide), h.us]
  rfl
theorem Kh {X : FM} {O : bM} {o : aM} : obj (bh X (aB O 3 (fun _ => o)) 1 ⟨#[100]⟩ ⟨3, 2⟩) 1 = { obj O 1 with ai := dN ⟨#[100]⟩ ⟨3, 2⟩ (obj O 1).ai, sec := X.cS, nano := X.cZ } := rfl
theorem Ki (h : AP room S) : ∃ S2, doM (S1 S) qL = (S2, { qL with answer := 0, code := 0 }) ∧ S2.us = [(1, ⟨1, 2⟩)] ∧ S2.idx.length = 3 ∧ S2.X.cH = 9 ∧ cx S2.O S2.us 1 ⟨#[100]⟩ 64 = .ok 1 ∧ aT ⟨#[100]⟩ (obj S2.O 1).ai = some ⟨3, 2⟩ := by
  obtain ⟨l, u, h1⟩ := h.o1
  have e1 : obj (S1 S).O 1 = ⟨1, 493, 0, 0, 0, 0, l, 1, false, 2, [], ⟨#[]⟩, [(⟨#[102]⟩, ⟨2, 1⟩)], u⟩ := by
    rw [Kg, h1]; rfl
  have hX : (S1 S).X = ⟨9, room, 9, 0, 0, 2, 1, 0⟩ := h.X
  have hi : (S1 S).idx = [(1, ⟨1, 2⟩), (2, ⟨2, 1⟩)] := h.idx
  have ha : cx (S1 S).O (S1 S).us 1 ⟨#[100]⟩ 192 = .ok 1 := rK (t := ⟨1, 2⟩) rfl rfl (by rw [e1]) EI (by rw [e1]; exact EJ)
  have hn : aE (S1 S).X = 3 := by rw [hX]; rfl
  have e2 : obj (ct (S1 S) 1 qL.name (aQ (S1 S).X 2 qL.mode)).O 1 = ⟨1, 493, 0, 0, 0, 0, l, 1, false, 2, [], ⟨#[]⟩, [(⟨#[100]⟩, ⟨3, 2⟩), (⟨#[102]⟩, ⟨2, 1⟩)], u⟩ := by
    show obj (bh (S1 S).X (aB (S1 S).O (aE (S1 S).X) (fun _ => _)) 1 ⟨#[100]⟩ ⟨aE (S1 S).X, 2⟩) 1 = _
    rw [hn, Kh, e1, hX]
    simp only [dN]
    rw [if_pos (by unfold ig; decide +kernel)]
  refine ⟨_, Gg (c := qL) rfl ha ⟨by decide, by decide⟩ (by rw [e1]; rfl) ⟨by rw [hX, hi]; show (2 : Int) < 9; decide, by rw [hX]; show (2 : Int) < 1099511627776; decide, by rw [hX]; show (1 : Int) < 8192; decide⟩, rfl, ?_, by show (S1 S).X.cH = 9; rw [hX], ?_, ?_⟩
  · show (ins _ _ (S1 S).idx).length = 3
    rw [hX, hi]; rfl
  · exact rK (t := ⟨1, 2⟩) rfl rfl (by rw [e2]) EI (by rw [e2]; exact EK)
  · rw [e2]; rfl
theorem Kj {S2 : aH} (h1 : S2.us = [(1, ⟨1, 2⟩)]) (h2 : S2.X.cH = 9) (h3 : cx S2.O S2.us 1 ⟨#[100]⟩ 64 = .ok 1) (h4 : aT ⟨#[100]⟩ (obj S2.O 1).ai = some ⟨3, 2⟩) : ∃ S3, doM S2 wF = (S3, { wF with answer := 2, code := 0 }) ∧ S3.idx = S2.idx := by
  have h := Dg (S := S2) (c := wF) rfl h3 h4 rfl (by rw [h1, h2]; show (1 : Int) < 9; decide)
  have e : least S2.us = 2 := by rw [h1]; rfl
  rw [e] at h
  exact ⟨_, h, rfl⟩
structure BX (room : Int) (ds : List UInt8) (S : aH) : Prop where
  inv : Inv S
  idx : S.idx = [(1, ⟨1, 2⟩), (2, ⟨2, 1⟩)]
  us : S.us = [(1, ⟨1, 2⟩), (2, ⟨2, 1⟩)]
  X : S.X = ⟨9, room, 9, 0, 0, 2, 1, ds.length⟩
  o1 : ∃ l n u, obj S.O 1 = ⟨1, 493, 0, 0, 0, 0, l, n, false, 2, [], ⟨#[]⟩, [(⟨#[102]⟩, ⟨2, 1⟩)], u⟩
  o2 : ∃ u, obj S.O 2 = ⟨2, 420, 0, 0, 0, 0, 1, 1, false, 1, ds, ⟨#[]⟩, [], u⟩
theorem Kk (h : AP room S) : ∃ S2, doM (S1 S) wG = (S2, { wG with answer := 2, code := 0 }) ∧ BX room [] S2 := by
  obtain ⟨l, u, h1⟩ := h.o1
  obtain ⟨u2, h2⟩ := h.o2
  have e1 : obj (S1 S).O 1 = ⟨1, 493, 0, 0, 0, 0, l, 1, false, 2, [], ⟨#[]⟩, [(⟨#[102]⟩, ⟨2, 1⟩)], u⟩ := by
    rw [Kg, h1]; rfl
  have e2 : obj (S1 S).O 2 = ⟨2, 420, 0, 0, 0, 0, 1, 0, false, 1, [], ⟨#[]⟩, [], u2⟩ := by
    rw [Mn, h2]
  have hI : Inv (S1 S) := by
    have := h.inv.doM mM
    rw [o9 h] at this
    exact this
  have ha : cx (S1 S).O (S1 S).us 1 ⟨#[102]⟩ 64 = .ok 1 := rK (t := ⟨1, 2⟩) rfl rfl (by rw [e1]) EH (by rw [e1]; exact EK)
  have hX : (S1 S).X = ⟨9, room, 9, 0, 0, 2, 1, 0⟩ := h.X
  have hd := Bl (c := wG) rfl ha (t := ⟨2, 1⟩) (by rw [e1]; rfl) rfl (by rw [hX]; show (1 : Int) < 9; decide)
  have lW := hI.doM wG
  rw [hd] at lW
  exact ⟨_, hd, lW, h.idx, rfl, h.X, ⟨l, 1, u, Eq.trans (b := obj (S1 S).O 1) rfl e1⟩, ⟨u2, Eq.trans (b := { obj (S1 S).O 2 with opens := (obj (S1 S).O 2).opens + 1 }) rfl (by rw [e2]; rfl)⟩⟩
def di (room : Int) (k n : Nat) : Nat := min n (room.toNat - k)
theorem EL {ds : List UInt8} (h : BX room ds S) (hr : (ds.length : Int) ≤ room) (A : Option Addr) (cp : Nat) (bs : List UInt8) : ∃ S2 e, doM S (qM 2 A cp bs) = (S2, { qM 2 A cp bs with answer := (di room ds.length bs.length : Int), code := e }) ∧ BX room (ds ++ bs.take (di room ds.length bs.length)) S2 := by
  have hd := Gh (S := S) (c := qM 2 A cp bs) (t := ⟨2, 1⟩) rfl (by rw [h.us]; rfl) rfl
  have lW := h.inv.doM (qM 2 A cp bs)
  rw [hd] at lW
  have hcl : (qM 2 A cp bs).data = bs := rfl
  rw [hcl] at hd lW
  simp only at hd lW
  obtain ⟨l, n, u, h1⟩ := h.o1
  obtain ⟨u2, h2⟩ := h.o2
  by_cases hb : bs = []
  · subst hb
    have hw : writeM S 2 [] = (0, 0, S) := by unfold writeM; rw [if_pos rfl]
    rw [hw] at hd
    refine ⟨_, _, hd, ?_⟩
    rw [List.take_nil, List.append_nil]
    exact h
  by_cases hp : S.X.cB - S.X.used ≤ 0
  · have hw : writeM S 2 bs = (0, 176, S) := by unfold writeM; rw [if_neg hb, if_pos hp]
    rw [hw] at hd
    have hz : di room ds.length bs.length = 0 := by
      rw [h.X] at hp
      simp only at hp
      unfold di; omega
    rw [hz]
    refine ⟨_, _, hd, ?_⟩
    rw [List.take_zero, List.append_nil]
    exact h
  · have hw : writeM S 2 bs = ((aV S.X bs.length : Int), 0, { S with
        X := { S.X with used := S.X.used + (aV S.X bs.length : Int) }
        O := aB S.O 2 (fun o => { o with data := o.data ++ bs.take (aV S.X bs.length), sec := S.X.cS, nano := S.X.cZ }) }) := by unfold writeM; rw [if_neg hb, if_neg hp]
    have hz : aV S.X bs.length = di room ds.length bs.length := by
      rw [h.X] at hp ⊢
      simp only at hp
      unfold aV di
      simp only
      omega
    rw [hw, hz] at hd lW
    refine ⟨_, _, hd, lW, h.idx, h.us, ?_, ⟨l, n, u, ?_⟩, ⟨u2, ?_⟩⟩
    · show ({ S.X with used := S.X.used + (di room ds.length bs.length : Int) } : FM) = _
      rw [h.X]
      have : (ds ++ bs.take (di room ds.length bs.length)).length = ds.length + di room ds.length bs.length := by
        rw [List.length_append, List.length_take]
        unfold di; omega
      rw [this]
      simp
    · exact Eq.trans (b := obj S.O 1) rfl h1
    · refine Eq.trans (b := { obj S.O 2 with data := (obj S.O 2).data ++ bs.take (di room ds.length bs.length), sec := S.X.cS, nano := S.X.cZ }) rfl ?_
      rw [h2, h.X]
theorem BX.graph {ds : List UInt8} (h : BX room ds S) : (aP S).length = 2 ∧ (nd (aP S) 1).data = ds := by
  obtain ⟨u2, h2⟩ := h.o2
  unfold aP
  rw [h.idx]
  refine ⟨rfl, ?_⟩
  show (obj S.O 2).data = ds
  rw [h2]
structure Hf (ds : List UInt8) (S : aH) : Prop where
  inv : Inv S
  idx : S.idx = [(1, ⟨1, 2⟩), (2, ⟨2, 1⟩)]
  us : S.us = [(1, ⟨1, 2⟩), (2, ⟨2, 1⟩)]
  used : S.X.used = ds.length
  o2 : ∃ s z u, obj S.O 2 = ⟨2, 420, 0, 0, s, z, 0, 1, true, 1, ds, ⟨#[]⟩, [], u⟩
theorem Kl {ds : List UInt8} (h : BX room ds S) : ∃ S2, doM S tL = (S2, { tL with answer := 0, code := 0 }) ∧ Hf ds S2 := by
  obtain ⟨l, n, u, h1⟩ := h.o1
  obtain ⟨u2, h2⟩ := h.o2
  have ha : cx S.O S.us 1 ⟨#[102]⟩ 192 = .ok 1 := by
    rw [h.us]
    exact rK (t := ⟨1, 2⟩) rfl rfl (by rw [h1]) EH (by rw [h1]; exact EJ)
  have hd := EG (c := tL) (t := ⟨2, 1⟩) rfl ha (by rw [h1]; rfl) (by decide)
  have lW := h.inv.doM tL
  rw [hd] at lW
  have e2 : obj (aG S.X S.O 1 ⟨#[102]⟩ ⟨2, 1⟩) 2 = ⟨2, 420, 0, 0, 0, 0, 0, 1, false, 1, ds, ⟨#[]⟩, [], u2⟩ := by
    have : obj (aG S.X S.O 1 ⟨#[102]⟩ ⟨2, 1⟩) 2 = { obj S.O 2 with links := (obj S.O 2).links - 1 } := rfl
    rw [this, h2]; rfl
  have hp : ar S 1 ⟨#[102]⟩ ⟨2, 1⟩ = _ := nk (by rw [e2])
  have e3 : obj (j8 (aG S.X S.O 1 ⟨#[102]⟩ ⟨2, 1⟩) 2) 2 = ⟨2, 420, 0, 0, 0, 0, 0, 1, true, 1, ds, ⟨#[]⟩, [], u2⟩ := by
    unfold j8
    rw [bA, e2]
  have hf : ¬ lP (j8 (aG S.X S.O 1 ⟨#[102]⟩ ⟨2, 1⟩) 2) ⟨2, 1⟩ := fun ⟨_, hh⟩ => by
    simp only at hh
    rw [e3] at hh
    exact absurd hh (show ¬ (1 : Int) = 0 by decide)
  have hcl : tL.name = ⟨#[102]⟩ := rfl
  rw [hcl] at hd lW
  rw [hp] at hd lW
  refine ⟨_, hd, lW, ?_, h.us, ?_, ⟨0, 0, u2, e3⟩⟩
  · show eW _ S.idx _ = _
    unfold eW
    rw [if_neg hf, h.idx]
  · show fF _ S.X.used _ = _
    unfold fF
    rw [if_neg hf, h.X]
theorem Hf.graph {ds : List UInt8} (h : Hf ds S) : (aP S).length = 2 := by
  unfold aP
  rw [h.idx]; rfl
theorem Km {ds : List UInt8} (h : Hf ds S) : ∃ S2, doM S (wH 2) = (S2, { wH 2 with answer := 0, code := 0 }) ∧ Inv S2 ∧ (aP S2).length = 1 ∧ S2.X.used = 0 := by
  obtain ⟨s, z, u2, h2⟩ := h.o2
  have hd := Gi (S := S) (c := wH 2) (t := ⟨2, 1⟩) rfl (by rw [h.us]; rfl)
  have lW := h.inv.doM (wH 2)
  rw [hd] at lW
  have e2 : obj (gh S.O 2) 2 = ⟨2, 420, 0, 0, s, z, 0, 0, true, 1, ds, ⟨#[]⟩, [], u2⟩ := by
    unfold gh
    rw [bA, h2]; rfl
  have hf : lP (gh S.O 2) ⟨2, 1⟩ := ⟨by simp only; rw [e2], by simp only; rw [e2]⟩
  refine ⟨_, hd, lW, ?_, ?_⟩
  · unfold aP
    rw [List.length_map]
    show (eW (gh S.O 2) S.idx ⟨2, 1⟩).length = 1
    unfold eW
    rw [if_pos hf, h.idx]
    simp only
    rw [e2]; rfl
  · show fF (gh S.O 2) S.X.used ⟨2, 1⟩ = 0
    unfold fF
    rw [if_pos hf, if_pos rfl, h.used]
    simp only
    rw [e2]
    simp
theorem Ii (a b : List UInt8) {room : Int} : a.take (di room 0 a.length) ++ b.take (di room (a.take (di room 0 a.length)).length b.length) = (a ++ b).take (min (a.length + b.length) room.toNat) ∧ di room 0 a.length + di room (a.take (di room 0 a.length)).length b.length = min (a.length + b.length) room.toNat := by
  have hl : (a.take (di room 0 a.length)).length = di room 0 a.length := by
    rw [List.length_take]; unfold di; omega
  rw [hl]
  have h1 : di room 0 a.length = min a.length room.toNat := by unfold di; omega
  have h2 : di room (di room 0 a.length) b.length = min (a.length + b.length) room.toNat - min a.length room.toNat := by rw [h1]; unfold di; omega
  rw [h2, h1]
  refine ⟨?_, by omega⟩
  rw [List.take_append]
  congr 1
  · by_cases h : a.length ≤ room.toNat
    · rw [List.take_of_length_le (by omega), List.take_of_length_le (by omega)]
    · rw [Nat.min_eq_right (by omega), Nat.min_eq_right (by omega)]
  · by_cases h : a.length ≤ room.toNat
    · rw [Nat.min_eq_left h]
    · congr 1
      omega
end chain
end Go.Proofs.YtkiedlmhocglhaaGreat
end
section
namespace Go.Proofs.YtkiedlmhocglhaaGreat
open Go.RowKit Go.Maps HeapM TabM
attribute [local irreducible] ah aI af aj
set_option maxRecDepth 100000 in
set_option maxHeartbeats 4000000 in
theorem p8 {β : Bs} (A : Option Addr) (c : Nat) (d : List UInt8) (hA : bO β A d) (hl : d.length ≤ 1048576) :
    Spec Tryz.prog β 11 #[.slice A d.length c] [] (fun v l => ∃ B cap, v = .slice B d.length cap ∧ l = [.abs (aF 5 1 B d.length cap (bD d))]) := by
 refine Spec.enter Tryz.func11 rfl Tryz.ntmps11 (Nat.le_of_ble_eq_true rfl) (fun R => ?_)
 refine SR ?_
 refine gK 1 [] [] ?_
 refine NS ?_
 refine gN 2 (fun b1 => [(3, .slice (some ⟨b1, 0, none⟩) (0) (0))]) (fun _ => []) (fun _ => []) (fun b1 => .blk b1 [] 5) (fun b1 => ?_)
 refine NS ?_
 refine ah.mem (fun w hS => hS.yU (i := 1) (b := b1) (cs := []) (e := 5) 1 0 (by kernel_rfl) rfl (by decide)) ?_
 refine gK 2 [(5, .slice (some ⟨b1, 0, none⟩) (0) (0)), (6, .slice A (d.length) (c))] [] ?_
 refine ah.append 1 (d := (some 7)) (t := 22) (e := 5) (z := .int .u8 0) (size := 1) (bytes := 1) (n := 0) (cap := 0) (A := some ⟨b1, 0, none⟩) (xs := []) (s := (.tmp 5)) (x := (.tmp 6)) (ats := #[22, 22]) (A' := A) (m := d.length) (c' := c) (news := (bD d)) (fun _ => by kernel_rfl) rfl (by kernel_rfl) (fun _ => by kernel_rfl) (fun _ => by kernel_rfl) Tryz.underlying22 (by kernel_rfl) rfl (by decide) (by rw [nU, Nat.mul_one]) (kG d) (hA.src) (by unfold maxLen; omega) (by omega) (fun A2 c3 => ?_)
 refine ah.eP 1 (p := .abs (aF 5 1 A2 (0 + d.length) c3 ([] ++ (bD d)))) (p' := .abs (aF 5 1 A2 d.length c3 (bD d))) (by kernel_rfl) (by rw [Nat.zero_add, List.nil_append]) ?_
 refine ah.slot 7 (.slice A2 (0 + d.length) (c3)) (.slice A2 (d.length) (c3)) (fun _ => by kernel_rfl) (by rw [Nat.zero_add]) ?_
 refine gK 1 [(3, .slice A2 (d.length) (c3))] [] ?_
 refine NS ?_
 refine gK 2 [(2, .slice A2 (d.length) (c3))] [] ?_
 refine NN (af.ret ?_)
 exact RT (.slice A2 (d.length) (c3)) [1, 0] (⟨A2, c3, rfl, rfl⟩)
set_option maxRecDepth 100000 in
set_option maxHeartbeats 4000000 in
theorem vD {β : Bs} (f m t : Nat) (X : FM) : Spec Tryz.prog β 14 #[.pointer (some ⟨f, 0, none⟩)] [.blk f [.int .i64 (X.cN), .int .i64 (X.cB), .int .i64 (X.cH), .int .i64 (X.cS), .int .i64 (X.cZ), .map (some m), .pointer (some ⟨t, 0, none⟩), .int .i64 (X.last), .int .i64 (X.ai), .int .i64 (X.used)] 89] (fun v l => v = .int .i64 X.used ∧ l = [.blk f [.int .i64 (X.cN), .int .i64 (X.cB), .int .i64 (X.cH), .int .i64 (X.cS), .int .i64 (X.cZ), .map (some m), .pointer (some ⟨t, 0, none⟩), .int .i64 (X.last), .int .i64 (X.ai), .int .i64 (X.used)] 89]) := by
 refine Spec.enter Tryz.func14 rfl Tryz.ntmps14 (Nat.le_of_ble_eq_true rfl) (fun R => ?_)
 refine SR ?_
 refine gK 1 [] [] ?_
 refine NS ?_
 refine gK 5 [(2, .int .i64 (X.used))] [(3, a_ 0 f)] ?_
 refine NN (af.ret ?_)
 exact RT (.int .i64 (X.used)) [0, 1] (⟨rfl, rfl⟩)
set_option maxRecDepth 100000 in
set_option maxHeartbeats 4000000 in
theorem yM {β : Bs} : iO Tryz.prog β 8 #[] [] (fun β' v l => ∃ B Y, v = .agg #[.slice B 2 2, .int .i64 9, .int .i64 99, .int .i64 9, .int .i64 0, .int .i64 0] ∧ l = [] ∧ aR β' B mK Y) := by
 refine iO.enter Tryz.func8 rfl Tryz.ntmps8 (Nat.le_of_ble_eq_true rfl) (fun hle0 R => ?_)
 refine SR ?_
 refine gN 1 (fun b4 => [(0, .pointer (some ⟨b4, 0, none⟩))]) (fun _ => []) (fun _ => []) (fun b4 => .blk b4 [.slice none (0) (0), .int .i64 0, .int .i64 0, .int .i64 0, .int .i64 0, .int .i64 0] 32) (fun b4 => ?_)
 refine NS ?_
 refine gN 4 (fun b5 => [(4, .agg #[.int .i64 1, .int .i64 2, .int .i64 493, .int .i64 0, .int .i64 0, .int .i64 0, .int .i64 0, .slice none (0) (0), .string ⟨#[]⟩, .slice (some ⟨b5, 0, none⟩) (1) (1)]), (5, .agg #[.int .i64 2, .int .i64 1, .int .i64 420, .int .i64 0, .int .i64 0, .int .i64 0, .int .i64 0, .slice none (0) (0), .string ⟨#[]⟩, .slice none (0) (0)])]) (fun _ => []) (fun _ => []) (fun b5 => .blk b5 [.string ⟨#[102]⟩, .int .i64 2] 62) (fun b5 => ?_)
 refine gN 2 (fun b6 => [(7, .agg #[.slice (some ⟨b6, 0, none⟩) (2) (2)])]) (fun _ => []) (fun _ => []) (fun b6 => .blk b6 [.int .i64 1, .int .i64 2, .int .i64 493, .int .i64 0, .int .i64 0, .int .i64 0, .int .i64 0, .slice none (0) (0), .string ⟨#[]⟩, .slice (some ⟨b5, 0, none⟩) (1) (1), .int .i64 2, .int .i64 1, .int .i64 420, .int .i64 0, .int .i64 0, .int .i64 0, .int .i64 0, .slice none (0) (0), .string ⟨#[]⟩, .slice none (0) (0)] 46) (fun b6 => ?_)
 refine gN 2 (fun b7 => [(1, .pointer (some ⟨b7, 0, none⟩))]) (fun b7 => [(1, a_ 4 b7)]) (fun _ => []) (fun b7 => .blk b7 [.slice (some ⟨b6, 0, none⟩) (2) (2)] 26) (fun b7 => ?_)
 refine NS ?_
 refine ah.mem (fun w hS => hS.yU (i := 2) (b := b5) (cs := [.string ⟨#[102]⟩, .int .i64 2]) (e := 62) 2 1 (by kernel_rfl) rfl (by decide)) ?_
 refine ah.oF (Φ := fun β' => dZ β' (some ⟨b5, 0, none⟩) Df.ai) 2 [0, 1, 3, 4] (aK := [.abs R, .blk b4 [.slice none (0) (0), .int .i64 0, .int .i64 0, .int .i64 0, .int .i64 0, .int .i64 0] 32, .blk b6 [.int .i64 1, .int .i64 2, .int .i64 493, .int .i64 0, .int .i64 0, .int .i64 0, .int .i64 0, .slice none (0) (0), .string ⟨#[]⟩, .slice (some ⟨b5, 0, none⟩) (1) (1), .int .i64 2, .int .i64 1, .int .i64 420, .int .i64 0, .int .i64 0, .int .i64 0, .int .i64 0, .slice none (0) (0), .string ⟨#[]⟩, .slice none (0) (0)] 46, .blk b7 [.slice (some ⟨b6, 0, none⟩) (2) (2)] 26]) rfl rfl (by kernel_rfl) (fun F w h β' h1 h2 => gD.oG h h1 h2) (fun NZ Ij hE => ?_)
 replace hle0 := hle0.trans Ij
 refine ah.mem (fun w hS => hS.yU (i := 2) (b := b6) (cs := [.int .i64 1, .int .i64 2, .int .i64 493, .int .i64 0, .int .i64 0, .int .i64 0, .int .i64 0, .slice none (0) (0), .string ⟨#[]⟩, .slice (some ⟨b5, 0, none⟩) (1) (1), .int .i64 2, .int .i64 1, .int .i64 420, .int .i64 0, .int .i64 0, .int .i64 0, .int .i64 0, .slice none (0) (0), .string ⟨#[]⟩, .slice none (0) (0)]) (e := 46) 10 2 (by kernel_rfl) rfl (by decide)) ?_
 refine ah.oF (Φ := fun β' => gD β' (some ⟨b6, 0, none⟩) (cQ ⟨fun _ => none, fun i => if i = 0 then some ⟨b5, 0, none⟩ else none, fun _ => 0, fun i => if i = 0 then 1 else 0⟩ mK)) 2 [0, 1, 3] (aK := [.abs R, .blk b4 [.slice none (0) (0), .int .i64 0, .int .i64 0, .int .i64 0, .int .i64 0, .int .i64 0] 32, .blk b7 [.slice (some ⟨b6, 0, none⟩) (2) (2)] 26]) rfl rfl (by kernel_rfl) (fun F w h β' h1 h2 => gD.oG h h1 h2) (fun Kn jr hR => ?_)
 replace hE := hE.le jr
 replace hle0 := hle0.trans jr
 refine gC 4 [] [(0, a_ 2 b7), (3, A_ 1 b4 6)] [(1, [(0, .slice (some ⟨b6, 0, none⟩) (2) (2)), (1, .int .i64 9), (2, .int .i64 99), (3, .int .i64 9)])] ?_
 refine NN (af.ret ?_)
 exact aj.IC (v := .agg #[.slice (some ⟨b6, 0, none⟩) (2) (2), .int .i64 9, .int .i64 99, .int .i64 9, .int .i64 0, .int .i64 0]) (l := []) (ak := [b4 = b4, b4 = b4, b4 = b4, b4 = b4, b4 = b4, b4 = b4]) [.at 1, .at 1, .at 1, .at 1, .at 1, .at 1] [0] hle0 (fun _ => by kernel_rfl) ⟨rfl, rfl, rfl, rfl, rfl, rfl, trivial⟩ rfl (by kernel_rfl) (⟨_, _, rfl, rfl, Ke hR hE⟩)
end Go.Proofs.YtkiedlmhocglhaaGreat
end
section
namespace Go.Proofs.YtkiedlmhocglhaaGreat
open Go.RowKit Go.Maps HeapM TabM
theorem Spec.Hg {P : Program} {β : Bs} {f : FuncId} {args : Array Value} {pre : List HP} {post : Value → List HP → Prop} {Ψ : Bs → Value → List HP → Prop} (h : Spec P β f args pre post) (vJ : ∀ v l, post v l → ∃ l1 l2, l = l1 ++ l2 ∧ ∀ β', jM β l2 β' → Ψ β' v l1) : iO P β f args pre Ψ := by
  intro A w hS
  refine (h A w hS).mono ?_
  rintro e w' ⟨v, l, h1, h2, h3⟩
  obtain ⟨l1, l2, rfl, hl⟩ := vJ v l h2
  have h4 : Sat β (([.abs A] ++ l1) ++ l2) w' := by rw [List.append_assoc]; exact Sat.turn h3
  obtain ⟨β', g1, _, g3⟩ := h4.qg
  exact ⟨β', v, l1, g1.le, h1, hl β' g1, Sat.turn g3⟩
theorem Spec.val {P : Program} {β : Bs} {f : FuncId} {args : Array Value} {pre : List HP} {x y : Value} {l0 : List HP} (h : Spec P β f args pre (fun v l => v = x ∧ l = l0)) (e : x = y) : Spec P β f args pre (fun v l => v = y ∧ l = l0) := h.mono fun _ _ h => ⟨h.1.trans e, h.2⟩
section c
variable {β : Bs} {S S2 : aH} {L : HL} {f m t : Nat} {c c2 : aU}
theorem jj (hI : Inv S) (hC : dR β c) (h : doM S c = (S2, c2)) : Spec Tryz.prog β 10 #[vP f, .agg ⟨fT c⟩] (pA f m t L S) (fun v l => ∃ L2, v = .agg ⟨fT c2⟩ ∧ l = pA f m t L2 S2) := by
  have h1 := JO (β := β) S L f m t hI c hC
  rw [h] at h1
  exact h1
theorem og (hI : Inv S) : iO Tryz.prog β 12 #[vP f] [pF f m t S.X, pI m L S.idx, pO S.O L, pD S.O L, pE S.O L] (fun β' v l => ∃ A cp K, v = .agg #[.slice A (aP S).length cp] ∧ l = [pF f m t S.X, pI m L S.idx, pO S.O L, pD S.O L, pE S.O L] ∧ aR β' A (aP S) K) :=
  (Ey S L f m t hI).Hg (by
    rintro v l ⟨A, cp, K, rfl, rfl⟩
    exact ⟨_, _, rfl, fun β' h => ⟨A, cp, K, rfl, rfl, h.graph⟩⟩)
theorem mO (h1 : (Lit.int .i64 c.handle).wf = true) (h2 : (Lit.int .i64 c.other).wf = true) (h3 : c.name.size ≤ 1048576) (h4 : c.text.size ≤ 1048576) (h5 : c.data = []) : dR β c :=
  ⟨h1, h2, h3, h4, by rw [h5]; exact fun j v hj => by simp [bD] at hj, by rw [h5]; decide, by rw [h5]; exact Nat.zero_le _⟩
theorem Hj {A : Option Addr} {cp : Nat} {bs : List UInt8} (h1 : bO β A bs) (h2 : bs.length ≤ 1099511627776) (h3 : bs.length ≤ cp) : dR β (qM 2 A cp bs) := ⟨by show (Lit.int .i64 2).wf = true; decide, by show (Lit.int .i64 0).wf = true; decide, Nat.zero_le _, Nat.zero_le _, h1, h2, h3⟩
theorem rU (A : Option Addr) (cp : Nat) (d : List UInt8) (hA : bO β A d) (hl : d.length ≤ 1048576) : iO Tryz.prog β 11 #[.slice A d.length cp] [] (fun β' v l => ∃ B cap, v = .slice B d.length cap ∧ l = [] ∧ bO β' B d ∧ d.length ≤ cap) :=
  (p8 A cp d hA hl).Hg (by
    rintro v l ⟨B, cap, rfl, rfl⟩
    refine ⟨[], _, rfl, fun β' h => ⟨B, cap, rfl, rfl, h.bytes, ?_⟩⟩
    obtain ⟨F, h1, _⟩ := h.get 0 rfl
    exact (aF.len h1).2)
theorem yS (A1 A2 : Option Addr) (c1 c2 : Nat) (d1 d2 : List UInt8) (Gs : bO β A1 d1) (lY : bO β A2 d2) (hl : d1.length ≤ 1048576) {n1 n2 : Nat} (h1 : d1.length = n1) (h2 : d2.length = n2) : Spec Tryz.prog β 13 #[.slice A1 n1 c1, .slice A2 n2 c2] [] (fun v l => v = .bool (decide (d1 = d2)) ∧ l = []) := by
  subst h1 h2
  exact zi A1 A2 c1 c2 d1 d2 Gs lY hl
theorem wI {room : Int} (hr : 0 ≤ room ∧ room ≤ 1099511627776) {B : Option Addr} {cp : Nat} {Y : Lay} (hG : aR β B mK Y) : Spec Tryz.prog β 9 #[.agg #[.slice B 2 cp], .agg #[.int .i64 9, .int .i64 room, .int .i64 9, .int .i64 0, .int .i64 0]] [] (fun v l => ∃ S f m t L, AP room S ∧ v = .tuple #[.pointer (some ⟨f, 0, none⟩), .int .i64 0] ∧ l = pA f m t L S) := by
  refine (Ic B cp mK Y hG (by decide) (fun i hi => ?_) (fun i hi j hj => ?_) (fun i hi j hj => ?_) (Gf room)).mono ?_
  · rcases rJ hi with rfl | rfl <;> exact ⟨by decide, by decide⟩
  · rcases rJ hi with rfl | rfl
    · have : j = 0 := by have hj : j < 1 := hj; omega
      subst this; exact ⟨by decide, by decide⟩
    · exact absurd hj (Nat.not_lt_zero j)
  · rcases rJ hi with rfl | rfl
    · have : j = 0 := by have hj : j < 1 := hj; omega
      subst this; decide
    · exact absurd hj (Nat.not_lt_zero j)
  · rintro v l (⟨h, _⟩ | ⟨_, h, _⟩ | ⟨_, _, S, f, m, t, L, h1, h2, h3⟩)
    · exact absurd (Ie hr) h
    · exact absurd Kc h
    · exact ⟨S, f, m, t, L, Ih h1, h2, h3⟩
end c
end Go.Proofs.YtkiedlmhocglhaaGreat
end
section
namespace Go.Proofs.YtkiedlmhocglhaaGreat
open Go.RowKit Go.Maps HeapM TabM
attribute [local irreducible] ah aI af aj
set_option maxRecDepth 100000 in
set_option maxHeartbeats 4000000 in
theorem Gj {β : Bs} : iO Tryz.prog β 7 #[] [] (fun _ v l => v = .bool true ∧ l = []) := by
 refine iO.enter Tryz.func7 rfl Tryz.ntmps7 (Nat.le_of_ble_eq_true rfl) (fun hle0 R => ?_)
 refine SR ?_
 refine gK 1 [] [] ?_
 refine NS ?_
 refine ah.nT (d := (some 7)) (R := [.abs R]) (pk := [0]) (fun _ => by kernel_rfl) (yM) rfl (by kernel_rfl) ?_
 rintro β1 _ _ qN ⟨B, Y, rfl, rfl, hG⟩
 replace hle0 := hle0.trans qN
 refine gN 2 (fun b2 => [(1, .pointer (some ⟨b2, 0, none⟩))]) (fun b2 => [(1, A_ 1 b2 6)]) (fun _ => []) (fun b2 => .blk b2 [.slice B (2) (2), .int .i64 9, .int .i64 99, .int .i64 9, .int .i64 0, .int .i64 0] 32) (fun b2 => ?_)
 refine NS ?_
 refine gK 4 [(10, .agg #[.slice B (2) (2)]), (12, .agg #[.int .i64 9, .int .i64 99, .int .i64 9, .int .i64 0, .int .i64 0])] [(1, a_ 1 b2), (3, A_ 1 b2 5)] ?_
 refine gL [] (wI (room := 99) (cp := 2) (by decide) hG) ?_
 rintro _ _ ⟨S, f3, m4, t5, L, h0, rfl, rfl⟩
 refine gK 5 [(2, .pointer (some ⟨f3, 0, none⟩)), (3, .int .i64 0)] [] ?_
 refine NN (af.seq (SR ?_))
 refine gK 6 [(21, .bool false)] [] ?_
 refine NN ?_
 refine CF ?_
 refine af.skip (NX (SR ?_))
 refine gK 2 [(22, .pointer (some ⟨f3, 0, none⟩)), (23, .agg #[.int .i64 1, .int .i64 0, .int .i64 1, .string ⟨#[]⟩, .string ⟨#[]⟩, .slice none (0) (0), .int .i64 0, .int .i64 0, .int .i64 0, .int .i64 0, .int .i64 0, .int .i64 0, .int .i64 0])] [] ?_
 have bN : Inv (S1 S) := by have h := h0.inv.doM mM; rw [o9 h0] at h; exact h
 refine gL [0, 1, 2, 3, 4, 5] (jj (β := β1) (f := f3) (m := m4) (t := t5) (L := L) h0.inv (mO (by decide) (by decide) (by decide) (by decide) rfl) (o9 h0)) ?_
 rintro _ _ ⟨L1, rfl, rfl⟩
 refine gN 2 (fun b6 => [(4, .pointer (some ⟨b6, 0, none⟩))]) (fun b6 => [(1, A_ 8 b6 13)]) (fun _ => []) (fun b6 => .blk b6 [.int .i64 1, .int .i64 0, .int .i64 1, .string ⟨#[]⟩, .string ⟨#[]⟩, .slice none (0) (0), .int .i64 0, .int .i64 0, .int .i64 0, .int .i64 0, .int .i64 0, .int .i64 0, .int .i64 1] 39) (fun b6 => ?_)
 refine NS ?_
 refine gK 2 [(25, .pointer (some ⟨f3, 0, none⟩)), (26, .agg #[.int .i64 4, .int .i64 1, .int .i64 0, .string ⟨#[100]⟩, .string ⟨#[]⟩, .slice none (0) (0), .int .i64 448, .int .i64 0, .int .i64 0, .int .i64 0, .int .i64 0, .int .i64 0, .int .i64 0])] [] ?_
 obtain ⟨S2, hd2, MY, hn2, hc2, ha2, hk2⟩ := Ki h0
 have lW : Inv S2 := by have h := bN.doM qL; rw [hd2] at h; exact h
 refine gL [0, 1, 2, 3, 4, 5] (jj (β := β1) (f := f3) (m := m4) (t := t5) (L := L1) bN (mO (by decide) (by decide) (by decide) (by decide) rfl) hd2) ?_
 rintro _ _ ⟨L2, rfl, rfl⟩
 refine gN 2 (fun b7 => [(5, .pointer (some ⟨b7, 0, none⟩))]) (fun b7 => [(1, A_ 9 b7 13)]) (fun _ => []) (fun b7 => .blk b7 [.int .i64 4, .int .i64 1, .int .i64 0, .string ⟨#[100]⟩, .string ⟨#[]⟩, .slice none (0) (0), .int .i64 448, .int .i64 0, .int .i64 0, .int .i64 0, .int .i64 0, .int .i64 0, .int .i64 0] 39) (fun b7 => ?_)
 refine NS ?_
 refine gK 2 [(28, .pointer (some ⟨f3, 0, none⟩)), (29, .agg #[.int .i64 2, .int .i64 1, .int .i64 0, .string ⟨#[100]⟩, .string ⟨#[]⟩, .slice none (0) (0), .int .i64 0, .int .i64 0, .int .i64 0, .int .i64 0, .int .i64 0, .int .i64 0, .int .i64 0])] [] ?_
 obtain ⟨S3, hd3, MZ⟩ := Kj MY hc2 ha2 hk2
 have M0 : Inv S3 := by have h := lW.doM wF; rw [hd3] at h; exact h
 refine gL [0, 1, 2, 3, 4, 5] (jj (β := β1) (f := f3) (m := m4) (t := t5) (L := L2) lW (mO (by decide) (by decide) (by decide) (by decide) rfl) hd3) ?_
 rintro _ _ ⟨L3, rfl, rfl⟩
 refine gN 2 (fun b8 => [(6, .pointer (some ⟨b8, 0, none⟩))]) (fun b8 => [(1, A_ 10 b8 13)]) (fun _ => []) (fun b8 => .blk b8 [.int .i64 2, .int .i64 1, .int .i64 0, .string ⟨#[100]⟩, .string ⟨#[]⟩, .slice none (0) (0), .int .i64 0, .int .i64 0, .int .i64 0, .int .i64 0, .int .i64 0, .int .i64 0, .int .i64 2] 39) (fun b8 => ?_)
 refine NS ?_
 refine gK 20 [(49, .bool true), (50, .pointer (some ⟨f3, 0, none⟩))] [(1, a_ 8 b6), (5, a_ 8 b6), (10, a_ 9 b7), (15, a_ 10 b8)] ?_
 refine ah.nT (d := (some 51)) (R := [pT t5 S3.X.cH S3.au L3 S3.us, .abs R, .blk b2 [.slice B (2) (2), .int .i64 9, .int .i64 99, .int .i64 9, .int .i64 0, .int .i64 0] 32, .blk b6 [.int .i64 1, .int .i64 0, .int .i64 1, .string ⟨#[]⟩, .string ⟨#[]⟩, .slice none (0) (0), .int .i64 0, .int .i64 0, .int .i64 0, .int .i64 0, .int .i64 0, .int .i64 0, .int .i64 1] 39, .blk b7 [.int .i64 4, .int .i64 1, .int .i64 0, .string ⟨#[100]⟩, .string ⟨#[]⟩, .slice none (0) (0), .int .i64 448, .int .i64 0, .int .i64 0, .int .i64 0, .int .i64 0, .int .i64 0, .int .i64 0] 39, .blk b8 [.int .i64 2, .int .i64 1, .int .i64 0, .string ⟨#[100]⟩, .string ⟨#[]⟩, .slice none (0) (0), .int .i64 0, .int .i64 0, .int .i64 0, .int .i64 0, .int .i64 0, .int .i64 0, .int .i64 2] 39]) (pk := [0, 1, 3, 4, 5, 2, 6, 7, 8, 9, 10]) (fun _ => by kernel_rfl) (og (β := β1) (S := S3) (L := L3) (f := f3) (m := m4) (t := t5) M0) rfl (by kernel_rfl) ?_
 rintro Kn _ _ jr ⟨A4, c4, K4, rfl, rfl, _⟩
 replace hG := hG.le jr
 replace hle0 := hle0.trans jr
 refine gK 5 [(0, .bool (decide ((((3 : Nat) : Int) : Int) = (3 : Int))))] [(1, p_ ⟨[], none, none, none, some (.int .i64 (((3 : Nat) : Int)))⟩ [((.int .i64 ↑((aP S3).length) : Value)) = (.int .i64 (((3 : Nat) : Int)))] ⟨by rw [rC, MZ, hn2], trivial⟩)] ?_
 refine NN (af.ret ?_)
 exact aj.IC (v := .bool (decide ((((3 : Nat) : Int) : Int) = (3 : Int)))) (l := []) (ak := []) [] [6] hle0 (fun _ => by kernel_rfl) trivial rfl (by kernel_rfl) (⟨rfl, rfl⟩)
end Go.Proofs.YtkiedlmhocglhaaGreat
end
section
namespace Go.Proofs.YtkiedlmhocglhaaGreat
open Go.RowKit Go.WideShapes Go.ChangeShapes Go.ChangeAt Go.Deep
theorem laidOut : laidOutB Tryz.prog = true := by kernel_rfl
theorem own : ownKnob Tryz.prog.godebug = none := by kernel_rfl
section row
variable {H : Type} {enc : TypeId × Value → H} {P : Program}
theorem rV (hl : laidOutB P = true) {W W' : World} (hb : Below W.heap.size W W') {sp : Nat → Bool} : ∀ {ts : List TypeId} {vs : List Value} {ds : List (DataW H)} {ps : List MemPlace},
    (∀ t ∈ ts, P.readableRec t = true ∧ t < P.types.size) → DataW.TrodAll enc P W 0 (fun _ => true) true ts vs ds ps → (∀ x ∈ ps, x.block < W.heap.size) → (∀ x ∈ ps, sp x.block = true) → DataW.TrodAll enc P W' 0 sp true ts vs ds ps
  | [], vs, ds, ps, _, h, _, _ => by
    obtain ⟨rfl, rfl, rfl⟩ := trodAll_nil h
    exact trodAll_mk0
  | t :: ts, vs, ds, ps, hr, h, hlt, hsp => by
    obtain ⟨v, vs', d, ds', p, q, rfl, rfl, rfl, h1, h2⟩ := trodAll_cons h
    have h3 := hr t List.mem_cons_self
    exact trodAll_cons_mk (WideElems.Trod_stays hl h3.1 h3.2 h1 (fun x hx => hb.same (hlt x (List.mem_append.2 (.inl hx)))) (fun x hx => hsp x (List.mem_append.2 (.inl hx))))
      (rV hl hb (fun t ht => hr t (List.mem_cons_of_mem _ ht)) h2 (fun x hx => hlt x (List.mem_append.2 (.inr hx))) (fun x hx => hsp x (List.mem_append.2 (.inr hx))))
def Mp (P : Program) (f : Func) : Bool := f.params.toList.all fun t => P.readableRec t && decide (t < P.types.size)
theorem law_post (hl : laidOutB P = true) {f : Func} {s : ChangeSpec} {apart fresh handsOn again : Bool} {W W' : World} {args : Array Value} {ds gs : List (DataW H)} {before : List MemPlace} {tb : TypeId} {rb : Bool}
    (hW : DataW.Whole enc P f.params.toList s.vars apart W args.toList ds gs before) (hvars : s.vars = []) (hrow : Mp P f = true) (hres : f.resultTypes = #[tb]) (hb0 : P.underlying tb = some .bool)
    (hfn : (s.fn H (ds ++ gs)).results = [.lit (.bool rb)]) (hargs : (s.fn H (ds ++ gs)).args = ds) (hv : (s.fn H (ds ++ gs)).vars = []) (hb : Below W.heap.size W W') :
    s.post enc P f apart fresh handsOn again W args (.bool rb) W' := by
  have hW' := hW
  obtain ⟨p, q, hA, hV, rfl, _, _⟩ := hW
  rw [hvars] at hV
  obtain ⟨rfl, rfl⟩ := trodVars_none hV
  have hlt : ∀ x ∈ p, x.block < W.heap.size := fun x hx => hW'.lt x (List.mem_append.2 (.inl hx))
  have hr : ∀ t ∈ f.params.toList, P.readableRec t = true ∧ t < P.types.size := fun t ht => by
    have := List.all_eq_true.1 hrow t ht
    simpa using this
  refine yN (pa := p) (pv := []) hW' (fun b sp hd => ?_) (fun sp hsp => ?_) (fun sp _ => ?_) (by simp) hb ?_
  · rw [hfn, hres]
    exact trodAll_cons_mk (shut_bool hb0 _) trodAll_mk0
  · rw [hargs]
    exact rV hl hb hr hA hlt (fun x hx => hsp x (List.mem_append.2 (.inl hx)))
  · rw [hvars, hv]
    exact rfl
  · exact ok_one hres rfl (okWide_bool_mk hb0 _)
end row
end Go.Proofs.YtkiedlmhocglhaaGreat
end
section
namespace Go.Proofs.YtkiedlmhocglhaaGreat
open Go.RowKit Go.WideShapes Go.ChangeShapes Go.ChangeAt Go.Deep
abbrev B0 (W : World) : Bs := ⟨(· < W.heap.size), W⟩
theorem Ik {w : World} {a : Addr} {v : Value} (h : w.cell? a = some v) : a.block < w.heap.size := by
  unfold World.cell? at h
  split at h
  · rename_i hb; exact lt_of_some hb
  · cases h
theorem EM {w : World} {a : Addr} {v : Value} (h : w.cell? a = some v) : a.spot = none := by
  unfold World.cell? at h
  split at h
  · split at h
    · cases h
    · rename_i h0
      cases hs : a.spot with
      | none => rfl
      | some x => rw [hs] at h0; exact absurd rfl h0
  · cases h
theorem add_plain {a : Addr} (k : Nat) (h : a.spot = none) : a.add k = ⟨a.block, a.off + k, none⟩ := by
  obtain ⟨b, o, s⟩ := a
  cases h
  unfold Addr.add
  split
  · rename_i h0; subst h0; rfl
  · rfl
theorem Gl {H : Type} (d : DataW H) : 1 ≤ Rows.uptoBulk d := by
  cases d with
  | lit l => cases l <;> simp [Rows.uptoBulk]
  | nil => simp [Rows.uptoBulk]
  | ptr d => simp [Rows.uptoBulk]
  | slice elems spare => simp [Rows.uptoBulk]
  | agg parts => simp [Rows.uptoBulk]
  | iface t d => simp [Rows.uptoBulk]
  | map entries => simp [Rows.uptoBulk]
  | held h => simp [Rows.uptoBulk]
theorem Gm {H : Type} (l : List (DataW H)) : l.length ≤ Rows.uptoBulkAll l := by
  induction l with
  | nil => simp [Rows.uptoBulkAll]
  | cons x r ih => have := Gl x; simp only [Rows.uptoBulkAll, List.length_cons]; omega
section open_
variable {H : Type} {enc : TypeId × Value → H} {P : Program} {W : World} {sp : Nat → Bool}
theorem Gn {α : Type} [Inhabited α] {t e : TypeId} {size : Nat} {f : α → List Value} {Q : α → DataW H → Prop} (ht : P.underlying t = some (.slice e)) (hC : P.cellsOf e = size) (h0 : 0 < size)
    (hel : ∀ n cs x, DataW.trod enc P W 0 sp true n e cs = some x → ∃ a, cs = f a ∧ Q a x.1) (hf : ∀ a, (f a).length = size)
    {fuel : Nat} {cs : List Value} {x : DataW H × List MemPlace} (h : DataW.trod enc P W 0 sp true fuel t cs = some x) :
    ∃ A c, ∃ xs : List α, ∃ D : Nat → DataW H, cs = [.slice A xs.length c] ∧ xs.length ≤ c ∧ c ≤ maxLen ∧ gD (B0 W) A (d9 (fun _ a => f a) 0 xs) ∧ (∀ i, i < xs.length → Q (xs.getD i default) (D i)) ∧
      Rows.uptoBulkAll ((List.range xs.length).map D) + 1 ≤ Rows.uptoBulk x.1 := by
  rcases open_slice ht h with ⟨hv, hx⟩ | ⟨a, len, cap, m, n, D, Pl, hcs, hb, hl, hm, hmm, hx, hi⟩
  · subst hv
    refine ⟨none, 0, [], fun _ => .nil, rfl, Nat.le_refl _, Nat.zero_le _, fun j v hj => by simp [d9] at hj, fun i hi => absurd hi (Nat.not_lt_zero i), ?_⟩
    rw [hx]
    simp [Rows.uptoBulk, Rows.uptoBulkAll]
  · have N0 : len ≤ m := by rw [hmm]; split <;> omega
    have hch : ∀ i, ∃ b : α, i < len → (W.cells? 0 (a.add (i * P.cellsOf e)) (P.cellsOf e) = some (f b) ∧ Q b (D i)) := fun i => by
      by_cases hil : i < len
      · obtain ⟨cs', h1, h2⟩ := hi i (by omega)
        obtain ⟨b, rfl, h3⟩ := hel _ _ _ h2
        exact ⟨b, fun _ => ⟨h1, h3⟩⟩
      · exact ⟨default, fun h => absurd h hil⟩
    have hg := fun i => Classical.choose_spec (hch i)
    generalize hG : (fun i => Classical.choose (hch i)) = g at hg
    have hg : ∀ i, i < len → W.cells? 0 (a.add (i * P.cellsOf e)) (P.cellsOf e) = some (f (g i)) ∧ Q (g i) (D i) := fun i hi => by
      have h1 := hg i hi
      have h2 : Classical.choose (hch i) = g i := congrFun hG i
      rw [h2] at h1
      exact h1
    have hlen : ((List.range len).map g).length = len := by simp
    have hget : ∀ i, i < len → ((List.range len).map g)[i]? = some (g i) := fun i hi => by simp [hi]
    have K3 : ∀ i, i < len → ((List.range len).map g).getD i default = g i := fun i hi => by rw [List.getD_eq_getElem?_getD, hget i hi]; rfl
    have hs1 : 0 < len → a.spot = none := fun hl0 => by
      obtain ⟨h2, -⟩ := hg 0 hl0
      rw [hC] at h2
      obtain ⟨_, hcl, hat⟩ := World.cells?_some h2
      have h3 := hat 0 h0
      rw [List.getElem?_eq_getElem (by rw [hcl]; exact h0)] at h3
      have e : (a.add (0 * size)).add 0 = a := by rw [Nat.zero_mul]; rfl
      rw [e] at h3
      exact EM h3
    refine ⟨some a, cap, (List.range len).map g, D, by rw [hlen]; exact hcs, by rw [hlen]; exact hl, hm, fun j v hj => ?_, fun i hi' => ?_, ?_⟩
    · have hfl := x6 (f := fun _ a => f a) (s := size) (fun _ a => hf a) ((List.range len).map g) 0
      have hjl := bq hj
      rw [hfl, hlen] at hjl
      have lX : j / size < len := (Nat.div_lt_iff_lt_mul h0).2 hjl
      have hj2 : j % size < size := Nat.mod_lt _ h0
      have e := Nat.div_add_mod j size
      rw [Nat.mul_comm] at e
      have h1 := pG (f := fun _ a => f a) (s := size) (fun _ a => hf a) _ 0 _ (j % size) _ (hget _ lX) hj2
      rw [e, hj] at h1
      obtain ⟨h2, -⟩ := hg _ lX
      rw [hC] at h2
      obtain ⟨_, _, hat⟩ := World.cells?_some h2
      have h3 := hat _ hj2
      rw [← h1] at h3
      have hs1 := hs1 (Nat.lt_of_le_of_lt (Nat.zero_le _) lX)
      rw [add_plain _ hs1] at h3
      rw [add_plain (a := ⟨a.block, a.off + j / size * size, none⟩) _ rfl] at h3
      have e2 : a.off + j / size * size + j % size = a.off + j := by omega
      have h4 : W.cell? ⟨a.block, a.off + j, none⟩ = some v := by rw [← e2]; exact h3
      have ea : (some a : Option Addr) = some ⟨ay (some a), ax (some a), none⟩ := by
        obtain ⟨b, o, s⟩ := a
        cases hs1
        rfl
      exact ⟨ea, Ik h4, h4⟩
    · rw [hlen] at hi'
      rw [K3 i hi']
      exact (hg i hi').2
    · rw [hx, hlen]
      simp only [Rows.uptoBulk]
      omega
theorem Il {t : TypeId} {n : Nat} {cs : List Value} {x : DataW H × List MemPlace} (ht : P.underlying t = some (.int .u8)) (h : DataW.trod enc P W 0 sp true n t cs = some x) : ∃ b : UInt8, cs = [tP b] ∧ True := by
  obtain ⟨z, h1, _, h3⟩ := DataW.trod_int ht h
  have h4 : 0 ≤ z ∧ z ≤ 255 := by simpa [Lit.wf, IntKind.min, IntKind.max, IntKind.signed, IntKind.bits] using h3
  refine ⟨UInt8.ofNat z.toNat, ?_, trivial⟩
  have e : (((UInt8.ofNat z.toNat).toNat : Nat) : Int) = z := by
    rw [UInt8.toNat_ofNat']
    omega
  rw [tP, e]
  exact h1
def uI (z : Int) : Prop := -9223372036854775808 ≤ z ∧ z ≤ 9223372036854775807
theorem i64_of {z : Int} (h : (Lit.int .i64 z).wf = true) : uI z := by
  unfold uI
  simpa [Lit.wf, IntKind.min, IntKind.max, IntKind.signed, IntKind.bits] using h
end open_
section graph
variable {H : Type} {enc : TypeId × Value → H} {W : World} {sp : Nat → Bool}
theorem wJ : ∀ (d : List UInt8) (k : Nat), d9 (fun _ b => [tP b]) k d = bD d
  | [], _ => rfl
  | b :: r, k => by rw [d9, wJ r (k + 1)]; rfl
set_option maxRecDepth 100000 in
theorem Dh {n : Nat} {c : Value} {x : DataW H × List MemPlace} (h : DataW.trod enc Tryz.prog W 0 sp true n 22 [c] = some x) :
    ∃ A cp, ∃ d : List UInt8, c = .slice A d.length cp ∧ bO (B0 W) A d ∧ d.length + 1 ≤ Rows.uptoBulk x.1 := by
  obtain ⟨A, cp, xs, D, h1, _, _, h2, _, h3⟩ := Gn (α := UInt8) (f := fun b => [tP b]) (Q := fun _ _ => True) Tryz.underlying22 (size := 1) (by kernel_rfl) (by decide) (fun n cs x h => Il Tryz.underlying5 h) (fun _ => rfl) h
  cases h1
  have := Gm ((List.range xs.length).map D)
  refine ⟨A, cp, xs, rfl, ?_, by simp at this; omega⟩
  rw [wJ] at h2
  exact h2
structure Mq (e : jb) (b : Nat) : Prop where
  id : uI e.id
  name : e.name.size + 1 ≤ b
structure Hl (nd : aL) (b : Nat) : Prop where
  ids : uI nd.id ∧ uI nd.kind ∧ uI nd.mode ∧ uI nd.uid ∧ uI nd.gid ∧ uI nd.sec ∧ uI nd.nano
  data : nd.data.length + 1 ≤ b
  target : nd.target.size + 1 ≤ b
  ai : nd.ai.length + 1 ≤ b
  ent : ∀ i, i < nd.ai.length → Mq (en nd.ai i) b
structure K7 where
  n : aL
  dA : Option Addr
  dC : Nat
  eA : Option Addr
  eC : Nat
deriving Inhabited
structure Ns (W : World) (a : K7) (b : Nat) : Prop where
  nb : Hl a.n b
  data : bO (B0 W) a.dA a.n.data
  ai : dZ (B0 W) a.eA a.n.ai
structure M4 (ns : List aL) (b : Nat) : Prop where
  len : ns.length + 1 ≤ b
  node : ∀ i, i < ns.length → Hl (nd ns i) b
end graph
end Go.Proofs.YtkiedlmhocglhaaGreat
end
section
namespace Go.Proofs.YtkiedlmhocglhaaGreat
open Go.RowKit Go.WideShapes Go.ChangeShapes Go.ChangeAt Go.Deep
theorem B0.refl (W : World) : (B0 W).le (B0 W) := ⟨fun _ h => h, rfl, rfl, rfl, Nat.le_refl _, fun _ hk => ⟨hk, rfl⟩⟩
section a
variable {H : Type} {enc : TypeId × Value → H} {W : World} {sp : Nat → Bool}
set_option maxRecDepth 100000 in
theorem open_bytesA {v : Value} {d : DataW H} {ps : List MemPlace} {r : Go.Reach} {b0 : Nat} (hval : Value.okWide Tryz.prog W r b0 22 v) (h : DataW.Trod enc Tryz.prog W 0 sp true 22 v d ps) :
    ∃ A cp, ∃ bs : List UInt8, v = .slice A bs.length cp ∧ bO (B0 W) A bs ∧ bs.length + 1 ≤ Rows.uptoBulk d := by
  obtain ⟨a, n, c, rfl⟩ := okWide_slice Tryz.underlying22 hval
  obtain ⟨fuel, h⟩ := h
  exact Dh h
end a
end Go.Proofs.YtkiedlmhocglhaaGreat
end
section
namespace Go.Proofs.YtkiedlmhocglhaaGreat
open Go.RowKit Go.Maps HeapM TabM
attribute [local irreducible] ah aI af aj
set_option maxRecDepth 100000 in
set_option maxHeartbeats 4000000 in
theorem law_writes (W : World) (A : Option Addr) (c : Nat) (a : List UInt8) (hA : bO (B0 W) A a) (B : Option Addr) (cb : Nat) (b : List UInt8) (hB : bO (B0 W) B b) (hl : a.length + b.length ≤ 1048576) (room : Int) :
    Spec Tryz.prog (B0 W) 3 #[.slice A (a.length) (c), .slice B (b.length) (cb), .int .i64 (room)] [] (fun v _ => v = .bool true) := by
 have hle0 := B0.refl W
 refine Spec.enter Tryz.func3 rfl Tryz.ntmps3 (Nat.le_of_ble_eq_true rfl) (fun R => ?_)
 refine SR ?_
 refine gK 1 [] [] ?_
 refine NN (af.seq (SR ?_))
 refine ah.nT (d := (some 16)) (R := [.abs R]) (pk := [0]) (fun _ => by kernel_rfl) (Gj) rfl (by kernel_rfl) ?_
 rintro β1 _ _ qN ⟨rfl, rfl⟩
 replace hA := hA.le qN
 replace hB := hB.le qN
 replace hle0 := hle0.trans qN
 refine gK 1 [(17, .bool false)] [] ?_
 refine NN ?_
 refine CF ?_
 refine af.skip (NX (SR ?_))
 refine ah.nT (d := (some 18)) (R := [.abs R]) (pk := [0]) (fun _ => by kernel_rfl) (yM) rfl (by kernel_rfl) ?_
 rintro ur _ _ xX ⟨B1, Y, rfl, rfl, hG⟩
 replace hA := hA.le xX
 replace hB := hB.le xX
 replace hle0 := hle0.trans xX
 refine gN 2 (fun b3 => [(7, .pointer (some ⟨b3, 0, none⟩))]) (fun b3 => [(1, A_ 1 b3 6)]) (fun _ => []) (fun b3 => .blk b3 [.slice B1 (2) (2), .int .i64 9, .int .i64 99, .int .i64 9, .int .i64 0, .int .i64 0] 32) (fun b3 => ?_)
 refine NN ?_
 refine af.join (ι := Int) (fun (r : Int) => (0 ≤ r ∧ r ≤ 1099511627776)) (fun (r : Int) => [(0, .slice A (a.length) (c)), (1, .slice B (b.length) (cb)), (2, .int .i64 (r)), (7, .pointer (some ⟨b3, 0, none⟩))]) (fun (r : Int) => [.abs R, .blk b3 [.slice B1 (2) (2), .int .i64 9, .int .i64 99, .int .i64 9, .int .i64 0, .int .i64 0] 32]) ?_ ?_
 ·
  rintro r hr
  show af _ _ _ _ [(0, .slice A (a.length) (c)), (1, .slice B (b.length) (cb)), (2, .int .i64 (r)), (7, .pointer (some ⟨b3, 0, none⟩))] [.abs R, .blk b3 [.slice B1 (2) (2), .int .i64 9, .int .i64 99, .int .i64 9, .int .i64 0, .int .i64 0] 32] _
  have hr0 : ((([] : List UInt8).length : Nat) : Int) ≤ r := hr.1
  refine SR ?_
  refine gC 4 [] [(3, a_ 1 b3)] [(1, [(2, .int .i64 (r))])] ?_
  refine NS ?_
  refine gK 4 [(30, .agg #[.slice B1 (2) (2)]), (32, .agg #[.int .i64 9, .int .i64 (r), .int .i64 9, .int .i64 0, .int .i64 0])] [(1, a_ 1 b3), (3, A_ 1 b3 5)] ?_
  refine gL [] (wI (room := r) (cp := 2) hr hG) ?_
  rintro _ _ ⟨S, f4, m5, t6, L, h0, rfl, rfl⟩
  refine gK 5 [(8, .pointer (some ⟨f4, 0, none⟩)), (9, .int .i64 0)] [] ?_
  refine NN (af.seq (SR ?_))
  refine gK 6 [(41, .bool false)] [] ?_
  refine NN ?_
  refine CF ?_
  refine af.skip (NX (SR ?_))
  refine gK 2 [(42, .pointer (some ⟨f4, 0, none⟩)), (43, .agg #[.int .i64 1, .int .i64 0, .int .i64 1, .string ⟨#[]⟩, .string ⟨#[]⟩, .slice none (0) (0), .int .i64 0, .int .i64 0, .int .i64 0, .int .i64 0, .int .i64 0, .int .i64 0, .int .i64 0])] [] ?_
  have bN : Inv (S1 S) := by have h := h0.inv.doM mM; rw [o9 h0] at h; exact h
  refine gL [0, 1, 2, 3, 4, 5] (jj (β := ur) (f := f4) (m := m5) (t := t6) (L := L) h0.inv (mO (by decide) (by decide) (by decide) (by decide) rfl) (o9 h0)) ?_
  rintro _ _ ⟨L1, rfl, rfl⟩
  refine NS ?_
  refine gK 2 [(45, .pointer (some ⟨f4, 0, none⟩)), (46, .agg #[.int .i64 3, .int .i64 1, .int .i64 0, .string ⟨#[102]⟩, .string ⟨#[]⟩, .slice none (0) (0), .int .i64 0, .int .i64 0, .int .i64 0, .int .i64 0, .int .i64 0, .int .i64 0, .int .i64 0])] [] ?_
  obtain ⟨S2, hd2, hw2⟩ := Kk h0
  refine gL [0, 1, 2, 3, 4, 5] (jj (β := ur) (f := f4) (m := m5) (t := t6) (L := L1) bN (mO (by decide) (by decide) (by decide) (by decide) rfl) hd2) ?_
  rintro _ _ ⟨L2, rfl, rfl⟩
  refine gK 2 [(10, .int .i64 2)] [] ?_
  refine NS ?_
  refine gK 3 [(49, .pointer (some ⟨f4, 0, none⟩)), (50, .int .i64 2), (51, .slice A (a.length) (c))] [] ?_
  refine ah.nT (d := (some 52)) (R := ((pA f4 m5 t6 L2 S2) ++ [.abs R, .blk b3 [.slice B1 (2) (2), .int .i64 9, .int .i64 (r), .int .i64 9, .int .i64 0, .int .i64 0] 32])) (pk := [0, 1, 2, 3, 4, 5, 6, 7]) (fun _ => by kernel_rfl) (rU A c a hA (by omega)) rfl (by kernel_rfl) ?_
  rintro Kn _ _ jr ⟨A7, c8, rfl, rfl, lY, M5⟩
  replace hA := hA.le jr
  replace hB := hB.le jr
  replace hG := hG.le jr
  replace hle0 := hle0.trans jr
  refine gK 1 [(53, .agg #[.int .i64 9, .int .i64 2, .int .i64 0, .string ⟨#[]⟩, .string ⟨#[]⟩, .slice A7 (a.length) (c8), .int .i64 0, .int .i64 0, .int .i64 0, .int .i64 0, .int .i64 0, .int .i64 0, .int .i64 0])] [] ?_
  obtain ⟨S3, uJ, Mr, Ko⟩ := EL hw2 hr0 A7 c8 a
  refine gL [0, 1, 2, 3, 4, 5] (jj (β := Kn) (f := f4) (m := m5) (t := t6) (L := L2) hw2.inv (Hj lY (by omega) M5) Mr) ?_
  rintro _ _ ⟨L3, rfl, rfl⟩
  refine gN 2 (fun b10 => [(11, .pointer (some ⟨b10, 0, none⟩))]) (fun b10 => [(1, A_ 8 b10 13)]) (fun _ => []) (fun b10 => .blk b10 [.int .i64 9, .int .i64 2, .int .i64 0, .string ⟨#[]⟩, .string ⟨#[]⟩, .slice A7 (a.length) (c8), .int .i64 0, .int .i64 0, .int .i64 0, .int .i64 0, .int .i64 0, .int .i64 (uJ), .int .i64 ↑(di r 0 a.length)] 39) (fun b10 => ?_)
  refine NS ?_
  have hr1 : (([] ++ a.take (di r 0 a.length)).length : Int) ≤ r := by rw [List.nil_append, List.length_take]; unfold di; have := hr.1; omega
  refine gK 3 [(55, .pointer (some ⟨f4, 0, none⟩)), (56, .int .i64 2), (57, .slice B (b.length) (cb))] [] ?_
  refine ah.nT (d := (some 58)) (R := ((pA f4 m5 t6 L3 S3) ++ [.abs R, .blk b3 [.slice B1 (2) (2), .int .i64 9, .int .i64 (r), .int .i64 9, .int .i64 0, .int .i64 0] 32, .blk b10 [.int .i64 9, .int .i64 2, .int .i64 0, .string ⟨#[]⟩, .string ⟨#[]⟩, .slice A7 (a.length) (c8), .int .i64 0, .int .i64 0, .int .i64 0, .int .i64 0, .int .i64 0, .int .i64 (uJ), .int .i64 ↑(di r 0 a.length)] 39])) (pk := [0, 1, 2, 3, 4, 5, 6, 7, 8]) (fun _ => by kernel_rfl) (rU B cb b hB (by omega)) rfl (by kernel_rfl) ?_
  rintro Kp _ _ pq ⟨tM, tN, rfl, rfl, wK, M6⟩
  replace hA := hA.le pq
  replace hB := hB.le pq
  replace hG := hG.le pq
  replace lY := lY.le pq
  replace hle0 := hle0.trans pq
  refine gK 1 [(59, .agg #[.int .i64 9, .int .i64 2, .int .i64 0, .string ⟨#[]⟩, .string ⟨#[]⟩, .slice tM (b.length) (tN), .int .i64 0, .int .i64 0, .int .i64 0, .int .i64 0, .int .i64 0, .int .i64 0, .int .i64 0])] [] ?_
  obtain ⟨S4, wL, Ms, xY⟩ := EL Ko hr1 tM tN b
  refine gL [0, 1, 2, 3, 4, 5] (jj (β := Kp) (f := f4) (m := m5) (t := t6) (L := L3) Ko.inv (Hj wK (by omega) M6) Ms) ?_
  rintro _ _ ⟨L4, rfl, rfl⟩
  refine gN 2 (fun b14 => [(12, .pointer (some ⟨b14, 0, none⟩))]) (fun b14 => [(1, A_ 9 b14 13)]) (fun _ => []) (fun b14 => .blk b14 [.int .i64 9, .int .i64 2, .int .i64 0, .string ⟨#[]⟩, .string ⟨#[]⟩, .slice tM (b.length) (tN), .int .i64 0, .int .i64 0, .int .i64 0, .int .i64 0, .int .i64 0, .int .i64 (wL), .int .i64 ↑(di r (a.take (di r 0 a.length)).length b.length)] 39) (fun b14 => ?_)
  refine NS ?_
  refine gK 1 [(61, .slice A (a.length) (c))] [] ?_
  refine gL [] (p8 A c a hA (by omega)) ?_
  rintro _ _ ⟨Aw, cw, rfl, rfl⟩
  refine gK 1 [(13, .slice Aw (a.length) (cw))] [] ?_
  refine NS ?_
  refine gK 2 [(63, .slice Aw (a.length) (cw)), (64, .slice B (b.length) (cb))] [] ?_
  refine ah.append 0 (d := (some 65)) (t := 22) (e := 5) (z := .int .u8 0) (size := 1) (bytes := 1) (n := a.length) (cap := cw) (A := Aw) (xs := (bD a)) (s := (.tmp 63)) (x := (.tmp 64)) (ats := #[22, 22]) (A' := B) (m := b.length) (c' := cb) (news := (bD b)) (fun _ => by kernel_rfl) rfl (by kernel_rfl) (fun _ => by kernel_rfl) (fun _ => by kernel_rfl) Tryz.underlying22 (by kernel_rfl) rfl (by decide) (by rw [nU, Nat.mul_one]) (kG b) (hB.src) (by unfold maxLen; omega) (by omega) (fun iw gM => ?_)
  refine ah.eP 0 (p := .abs (aF 5 1 iw (a.length + b.length) gM ((bD a) ++ (bD b)))) (p' := .abs (aF 5 1 iw (a.length + b.length) gM (bD (a ++ b)))) (by kernel_rfl) (by rw [wv]) ?_
  refine ah.slot 65 (.slice iw (a.length + b.length) (gM)) (.slice iw ((a.length + b.length)) (gM)) (fun _ => by kernel_rfl) (rfl) ?_
  refine gK 1 [(13, .slice iw ((a.length + b.length)) (gM))] [] ?_
  refine NS ?_
  refine gK 3 [(14, .int .i64 ↑(a.length + b.length))] [] ?_
  refine NN ?_
  refine af.join (ι := Unit) (fun (u : Unit) => True) (fun (u : Unit) => [(8, .pointer (some ⟨f4, 0, none⟩)), (10, .int .i64 2), (11, .pointer (some ⟨b10, 0, none⟩)), (12, .pointer (some ⟨b14, 0, none⟩)), (13, .slice iw ((a.length + b.length)) (gM)), (14, .int .i64 ↑(min (a.length + b.length) r.toNat))]) (fun (u : Unit) => [.abs (aF 5 1 iw (a.length + b.length) gM (bD (a ++ b))), pF f4 m5 t6 S4.X, pI m5 L4 S4.idx, pT t6 S4.X.cH S4.au L4 S4.us, pO S4.O L4, pD S4.O L4, pE S4.O L4, .abs R, .blk b3 [.slice B1 (2) (2), .int .i64 9, .int .i64 (r), .int .i64 9, .int .i64 0, .int .i64 0] 32, .blk b10 [.int .i64 9, .int .i64 2, .int .i64 0, .string ⟨#[]⟩, .string ⟨#[]⟩, .slice A7 (a.length) (c8), .int .i64 0, .int .i64 0, .int .i64 0, .int .i64 0, .int .i64 0, .int .i64 (uJ), .int .i64 ↑(di r 0 a.length)] 39, .blk b14 [.int .i64 9, .int .i64 2, .int .i64 0, .string ⟨#[]⟩, .string ⟨#[]⟩, .slice tM (b.length) (tN), .int .i64 0, .int .i64 0, .int .i64 0, .int .i64 0, .int .i64 0, .int .i64 (wL), .int .i64 ↑(di r (a.take (di r 0 a.length)).length b.length)] 39]) ?_ ?_
  ·
   rintro u _
   show af _ _ _ _ [(8, .pointer (some ⟨f4, 0, none⟩)), (10, .int .i64 2), (11, .pointer (some ⟨b10, 0, none⟩)), (12, .pointer (some ⟨b14, 0, none⟩)), (13, .slice iw ((a.length + b.length)) (gM)), (14, .int .i64 ↑(min (a.length + b.length) r.toNat))] [.abs (aF 5 1 iw (a.length + b.length) gM (bD (a ++ b))), pF f4 m5 t6 S4.X, pI m5 L4 S4.idx, pT t6 S4.X.cH S4.au L4 S4.us, pO S4.O L4, pD S4.O L4, pE S4.O L4, .abs R, .blk b3 [.slice B1 (2) (2), .int .i64 9, .int .i64 (r), .int .i64 9, .int .i64 0, .int .i64 0] 32, .blk b10 [.int .i64 9, .int .i64 2, .int .i64 0, .string ⟨#[]⟩, .string ⟨#[]⟩, .slice A7 (a.length) (c8), .int .i64 0, .int .i64 0, .int .i64 0, .int .i64 0, .int .i64 0, .int .i64 (uJ), .int .i64 ↑(di r 0 a.length)] 39, .blk b14 [.int .i64 9, .int .i64 2, .int .i64 0, .string ⟨#[]⟩, .string ⟨#[]⟩, .slice tM (b.length) (tN), .int .i64 0, .int .i64 0, .int .i64 0, .int .i64 0, .int .i64 0, .int .i64 (wL), .int .i64 ↑(di r (a.take (di r 0 a.length)).length b.length)] 39] _
   refine SR ?_
   refine gK 1 [(72, .pointer (some ⟨f4, 0, none⟩))] [] ?_
   refine ah.nT (d := (some 73)) (R := [.abs (aF 5 1 iw (a.length + b.length) gM (bD (a ++ b))), pT t6 S4.X.cH S4.au L4 S4.us, .abs R, .blk b3 [.slice B1 (2) (2), .int .i64 9, .int .i64 (r), .int .i64 9, .int .i64 0, .int .i64 0] 32, .blk b10 [.int .i64 9, .int .i64 2, .int .i64 0, .string ⟨#[]⟩, .string ⟨#[]⟩, .slice A7 (a.length) (c8), .int .i64 0, .int .i64 0, .int .i64 0, .int .i64 0, .int .i64 0, .int .i64 (uJ), .int .i64 ↑(di r 0 a.length)] 39, .blk b14 [.int .i64 9, .int .i64 2, .int .i64 0, .string ⟨#[]⟩, .string ⟨#[]⟩, .slice tM (b.length) (tN), .int .i64 0, .int .i64 0, .int .i64 0, .int .i64 0, .int .i64 0, .int .i64 (wL), .int .i64 ↑(di r (a.take (di r 0 a.length)).length b.length)] 39]) (pk := [1, 2, 4, 5, 6, 0, 3, 7, 8, 9, 10]) (fun _ => by kernel_rfl) (og (β := Kp) (S := S4) (L := L4) (f := f4) (m := m5) (t := t6) xY.inv) rfl (by kernel_rfl) ?_
   rintro NE _ _ mP ⟨G4, n4, K4, rfl, rfl, wM⟩
   replace hA := hA.le mP
   replace hB := hB.le mP
   replace hG := hG.le mP
   replace lY := lY.le mP
   replace wK := wK.le mP
   replace hle0 := hle0.trans mP
   refine ah.tell (p := (a.length + b.length ≤ gM)) (fun w hS => let ⟨F, h⟩ := hS.get (i := 5) rfl; (aF.len h).2) (fun N5 => ?_)
   refine ah.oF (Φ := fun β' => bO β' iw (a ++ b)) 5 [0, 1, 2, 3, 4, 6, 7, 8, 9, 10] (aK := [.blk f4 [.int .i64 (S4.X.cN), .int .i64 (S4.X.cB), .int .i64 (S4.X.cH), .int .i64 (S4.X.cS), .int .i64 (S4.X.cZ), .map (some m5), .pointer (some ⟨t6, 0, none⟩), .int .i64 (S4.X.last), .int .i64 (S4.X.ai), .int .i64 (S4.X.used)] 89, .abs (aC Tryz.prog 3 m5 (aN (aJ L4 S4.idx)) S4.idx.length), .abs (aq (aS S4.O L4)), .abs (aq (aY S4.O L4)), .abs (aq (bw S4.O L4)), .abs (aZ 143 t6 S4.X.cH S4.au (aJ L4 S4.us)), .abs R, .blk b3 [.slice B1 (2) (2), .int .i64 9, .int .i64 (r), .int .i64 9, .int .i64 0, .int .i64 0] 32, .blk b10 [.int .i64 9, .int .i64 2, .int .i64 0, .string ⟨#[]⟩, .string ⟨#[]⟩, .slice A7 (a.length) (c8), .int .i64 0, .int .i64 0, .int .i64 0, .int .i64 0, .int .i64 0, .int .i64 (uJ), .int .i64 ↑(di r 0 a.length)] 39, .blk b14 [.int .i64 9, .int .i64 2, .int .i64 0, .string ⟨#[]⟩, .string ⟨#[]⟩, .slice tM (b.length) (tN), .int .i64 0, .int .i64 0, .int .i64 0, .int .i64 0, .int .i64 0, .int .i64 (wL), .int .i64 ↑(di r (a.take (di r 0 a.length)).length b.length)] 39]) rfl rfl (by kernel_rfl) (fun F w h β' h1 h2 => gD.oG h h1 h2) (fun Gp kV hall => ?_)
   replace hA := hA.le kV
   replace hB := hB.le kV
   replace hG := hG.le kV
   replace lY := lY.le kV
   replace wK := wK.le kV
   replace wM := wM.le kV
   replace hle0 := hle0.trans kV
   obtain ⟨vF, hwn⟩ := Ii (room := r) a b
   have hgl := xY.graph.1
   have hgd := xY.graph.2
   have htl : ((a ++ b).take (min (a.length + b.length) r.toNat)).length = (min (a.length + b.length) r.toNat) := by rw [List.length_take, List.length_append]; omega
   have cD : S4.X.used = (((min (a.length + b.length) r.toNat) : Nat) : Int) := by rw [xY.X]; exact congrArg (fun z : Nat => (z : Int)) ((congrArg List.length vF).trans htl)
   have Kq : (nd (aP S4) 1).data = (a ++ b).take (min (a.length + b.length) r.toNat) := hgd.trans vF
   refine gN 2 (fun b19 => [(15, .pointer (some ⟨b19, 0, none⟩))]) (fun b19 => [(1, a_ 10 b19)]) (fun _ => []) (fun b19 => .blk b19 [.slice G4 ((aP S4).length) (n4)] 26) (fun b19 => ?_)
   refine NN (af.seq (af.seq ?_))
   refine af.bC (by kernel_rfl) (by kernel_rfl) ?_
   refine gQ 22 [(87, .bool false), (92, .slice (K4.dA 1) ((nd (aP S4) 1).data.length) ((K4.dC 1))), (95, .slice iw ((min (a.length + b.length) r.toNat)) (gM))] [(1, a_ 8 b10), (3, a_ 9 b14), (4, p_ ⟨[], none, none, none, some (.int .i64 ↑(min (a.length + b.length) r.toNat))⟩ [(Value.int .i64 (IntKind.wrap .i64 ((((di r 0 a.length) : Nat) : Int) + (((di r (a.take (di r 0 a.length)).length b.length) : Nat) : Int)))) = (.int .i64 ↑(min (a.length + b.length) r.toNat))] ⟨bQ (by have := hwn; simp only [List.nil_append] at *; omega) (by omega) (by omega), trivial⟩), (6, p_ ⟨[], none, none, none, some (.bool false)⟩ [(Value.bool (!decide (((((min (a.length + b.length) r.toNat) : Nat) : Int) : Int) = ((((min (a.length + b.length) r.toNat) : Nat) : Int) : Int)))) = (.bool false)] ⟨by simp, trivial⟩), (9, a_ 10 b19), (10, p_ ⟨[], none, none, none, some (.int .i64 2)⟩ [((.int .i64 ↑((aP S4).length) : Value)) = (.int .i64 2)] ⟨by rw [hgl]; rfl, trivial⟩), (15, a_ 10 b19), (16, p_ ⟨[], some 1, none, some ⟨(ay G4), ax G4, none⟩, none⟩ [1 = ((1 : Nat) : Int), 1 < (aP S4).length, (⟨(ay G4), ax G4, none⟩ : Addr).spot = none, (G4 : Option Addr) = some ⟨(ay G4), ax G4, none⟩] ⟨rfl, by omega, rfl, aR.hd wM (i := 1) (by omega), trivial⟩), (18, p_ ⟨[.old (.slice (K4.dA 1) ((nd (aP S4) 1).data.length) ((K4.dC 1)))], none, none, none, none⟩ [(Rd Gp ⟨(ay G4), ax G4 + 1 * 10 + 7, none⟩ (.slice (K4.dA 1) ((nd (aP S4) 1).data.length) ((K4.dC 1))))] ⟨aR.rd wM (i := 1) (by omega) (j := 7) rfl, trivial⟩), (21, p_ ⟨[], some (min (a.length + b.length) r.toNat), none, none, none⟩ [(((min (a.length + b.length) r.toNat) : Nat) : Int) = (((min (a.length + b.length) r.toNat) : Nat) : Int), (min (a.length + b.length) r.toNat) ≤ gM] ⟨rfl, by omega, trivial⟩)] ?_
   refine aI.call (f := 13) (args := #[.slice (K4.dA 1) ((nd (aP S4) 1).data.length) ((K4.dC 1)), .slice iw ((min (a.length + b.length) r.toNat)) (gM)]) (d := (some 96)) (pre := []) (R := [pF f4 m5 t6 S4.X, pI m5 L4 S4.idx, pO S4.O L4, pD S4.O L4, pE S4.O L4, pT t6 S4.X.cH S4.au L4 S4.us, .abs R, .blk b3 [.slice B1 (2) (2), .int .i64 9, .int .i64 (r), .int .i64 9, .int .i64 0, .int .i64 0] 32, .blk b10 [.int .i64 9, .int .i64 2, .int .i64 0, .string ⟨#[]⟩, .string ⟨#[]⟩, .slice A7 (a.length) (c8), .int .i64 0, .int .i64 0, .int .i64 0, .int .i64 0, .int .i64 0, .int .i64 (uJ), .int .i64 ↑(di r 0 a.length)] 39, .blk b14 [.int .i64 9, .int .i64 2, .int .i64 0, .string ⟨#[]⟩, .string ⟨#[]⟩, .slice tM (b.length) (tN), .int .i64 0, .int .i64 0, .int .i64 0, .int .i64 0, .int .i64 0, .int .i64 (wL), .int .i64 ↑(di r (a.take (di r 0 a.length)).length b.length)] 39, .blk b19 [.slice G4 ((aP S4).length) (n4)] 26]) (pk := [0, 1, 2, 3, 4, 5, 6, 7, 8, 9, 10]) (fN := [0, 1, 2, 3, 4, 5, 6, 7, 8, 9, 10]) (v0 := .bool true) (fun _ => by kernel_rfl) ((yS (K4.dA 1) iw (K4.dC 1) gM (nd (aP S4) 1).data ((a ++ b).take (min (a.length + b.length) r.toNat)) (wM.data 1 (by omega)) (hall.take (min (a.length + b.length) r.toNat)) (by rw [Kq, htl]; omega) rfl htl).val (congrArg Value.bool (decide_eq_true Kq))) rfl (by kernel_rfl) rfl (by kernel_rfl) (fun _ _ h => h) ?_
   refine gQ 4 [(99, .bool false), (100, .pointer (some ⟨f4, 0, none⟩))] [] ?_
   refine aI.call (f := 14) (args := #[.pointer (some ⟨f4, 0, none⟩)]) (d := (some 101)) (pre := [pF f4 m5 t6 S4.X]) (R := [pI m5 L4 S4.idx, pO S4.O L4, pD S4.O L4, pE S4.O L4, pT t6 S4.X.cH S4.au L4 S4.us, .abs R, .blk b3 [.slice B1 (2) (2), .int .i64 9, .int .i64 (r), .int .i64 9, .int .i64 0, .int .i64 0] 32, .blk b10 [.int .i64 9, .int .i64 2, .int .i64 0, .string ⟨#[]⟩, .string ⟨#[]⟩, .slice A7 (a.length) (c8), .int .i64 0, .int .i64 0, .int .i64 0, .int .i64 0, .int .i64 0, .int .i64 (uJ), .int .i64 ↑(di r 0 a.length)] 39, .blk b14 [.int .i64 9, .int .i64 2, .int .i64 0, .string ⟨#[]⟩, .string ⟨#[]⟩, .slice tM (b.length) (tN), .int .i64 0, .int .i64 0, .int .i64 0, .int .i64 0, .int .i64 0, .int .i64 (wL), .int .i64 ↑(di r (a.take (di r 0 a.length)).length b.length)] 39, .blk b19 [.slice G4 ((aP S4).length) (n4)] 26]) (pk := [0, 1, 2, 3, 4, 5, 6, 7, 8, 9, 10]) (fN := [0, 1, 2, 3, 4, 5, 6, 7, 8, 9, 10]) (v0 := .int .i64 ↑(min (a.length + b.length) r.toNat)) (fun _ => by kernel_rfl) ((vD f4 m5 t6 S4.X).val (congrArg (Value.int .i64) cD)) rfl (by kernel_rfl) rfl (by kernel_rfl) (fun _ _ h => h) ?_
   refine gQ 3 [(104, .bool false)] [(1, p_ ⟨[], none, none, none, some (.bool false)⟩ [(Value.bool (!decide (((((min (a.length + b.length) r.toNat) : Nat) : Int) : Int) = ((((min (a.length + b.length) r.toNat) : Nat) : Int) : Int)))) = (.bool false)] ⟨by simp, trivial⟩)] ?_
   refine NQ (NX ?_)
   refine CF ?_
   refine af.skip (NX (af.seq (SR ?_)))
   refine gK 2 [(105, .pointer (some ⟨f4, 0, none⟩)), (106, .agg #[.int .i64 8, .int .i64 1, .int .i64 0, .string ⟨#[102]⟩, .string ⟨#[]⟩, .slice none (0) (0), .int .i64 0, .int .i64 0, .int .i64 0, .int .i64 0, .int .i64 0, .int .i64 0, .int .i64 0])] [] ?_
   obtain ⟨S5, M7, EN⟩ := Kl xY
   refine gL [0, 1, 5, 2, 3, 4] (jj (β := Gp) (f := f4) (m := m5) (t := t6) (L := L4) xY.inv (mO (by decide) (by decide) (by decide) (by decide) rfl) M7) ?_
   rintro _ _ ⟨L5, rfl, rfl⟩
   refine gK 3 [(110, .bool false)] [] ?_
   have Mt : S5.X.used = (((min (a.length + b.length) r.toNat) : Nat) : Int) := by rw [EN.used]; exact congrArg (fun z : Nat => (z : Int)) ((congrArg List.length vF).trans htl)
   refine gK 1 [(111, .pointer (some ⟨f4, 0, none⟩))] [] ?_
   refine ah.nT (d := (some 112)) (R := [pT t6 S5.X.cH S5.au L5 S5.us, .abs R, .blk b3 [.slice B1 (2) (2), .int .i64 9, .int .i64 (r), .int .i64 9, .int .i64 0, .int .i64 0] 32, .blk b10 [.int .i64 9, .int .i64 2, .int .i64 0, .string ⟨#[]⟩, .string ⟨#[]⟩, .slice A7 (a.length) (c8), .int .i64 0, .int .i64 0, .int .i64 0, .int .i64 0, .int .i64 0, .int .i64 (uJ), .int .i64 ↑(di r 0 a.length)] 39, .blk b14 [.int .i64 9, .int .i64 2, .int .i64 0, .string ⟨#[]⟩, .string ⟨#[]⟩, .slice tM (b.length) (tN), .int .i64 0, .int .i64 0, .int .i64 0, .int .i64 0, .int .i64 0, .int .i64 (wL), .int .i64 ↑(di r (a.take (di r 0 a.length)).length b.length)] 39, .blk b19 [.slice G4 ((aP S4).length) (n4)] 26]) (pk := [0, 1, 3, 4, 5, 2, 6, 7, 8, 9, 10]) (fun _ => by kernel_rfl) (og (β := Gp) (S := S5) (L := L5) (f := f4) (m := m5) (t := t6) EN.inv) rfl (by kernel_rfl) ?_
   rintro Kr _ _ jW ⟨G5, n5, K5, rfl, rfl, LF⟩
   replace hA := hA.le jW
   replace hB := hB.le jW
   replace hG := hG.le jW
   replace lY := lY.le jW
   replace wK := wK.le jW
   replace wM := wM.le jW
   replace hall := hall.le jW
   replace hle0 := hle0.trans jW
   refine gK 6 [(117, .bool false), (118, .pointer (some ⟨f4, 0, none⟩))] [(1, p_ ⟨[], none, none, none, some (.int .i64 2)⟩ [((.int .i64 ↑((aP S5).length) : Value)) = (.int .i64 2)] ⟨by rw [EN.graph]; rfl, trivial⟩)] ?_
   refine gL [0] ((vD f4 m5 t6 S5.X).val (congrArg (Value.int .i64) Mt)) ?_
   rintro _ _ ⟨rfl, rfl⟩
   refine gK 3 [(122, .bool false)] [(1, p_ ⟨[], none, none, none, some (.bool false)⟩ [(Value.bool (!decide (((((min (a.length + b.length) r.toNat) : Nat) : Int) : Int) = ((((min (a.length + b.length) r.toNat) : Nat) : Int) : Int)))) = (.bool false)] ⟨by simp, trivial⟩)] ?_
   refine NN ?_
   refine CF ?_
   refine af.skip (NX (SR ?_))
   refine gK 3 [(123, .pointer (some ⟨f4, 0, none⟩)), (125, .agg #[.int .i64 13, .int .i64 2, .int .i64 0, .string ⟨#[]⟩, .string ⟨#[]⟩, .slice none (0) (0), .int .i64 0, .int .i64 0, .int .i64 0, .int .i64 0, .int .i64 0, .int .i64 0, .int .i64 0])] [] ?_
   obtain ⟨S6, M8, M9, Na, Nb⟩ := Km EN
   refine gL [0, 1, 5, 2, 3, 4] (jj (β := Kr) (f := f4) (m := m5) (t := t6) (L := L5) EN.inv (mO (by decide) (by decide) (by decide) (by decide) rfl) M8) ?_
   rintro _ _ ⟨L6, rfl, rfl⟩
   refine gK 4 [(129, .bool true), (130, .pointer (some ⟨f4, 0, none⟩))] [] ?_
   refine ah.nT (d := (some 131)) (R := [pT t6 S6.X.cH S6.au L6 S6.us, .abs R, .blk b3 [.slice B1 (2) (2), .int .i64 9, .int .i64 (r), .int .i64 9, .int .i64 0, .int .i64 0] 32, .blk b10 [.int .i64 9, .int .i64 2, .int .i64 0, .string ⟨#[]⟩, .string ⟨#[]⟩, .slice A7 (a.length) (c8), .int .i64 0, .int .i64 0, .int .i64 0, .int .i64 0, .int .i64 0, .int .i64 (uJ), .int .i64 ↑(di r 0 a.length)] 39, .blk b14 [.int .i64 9, .int .i64 2, .int .i64 0, .string ⟨#[]⟩, .string ⟨#[]⟩, .slice tM (b.length) (tN), .int .i64 0, .int .i64 0, .int .i64 0, .int .i64 0, .int .i64 0, .int .i64 (wL), .int .i64 ↑(di r (a.take (di r 0 a.length)).length b.length)] 39, .blk b19 [.slice G4 ((aP S4).length) (n4)] 26]) (pk := [0, 1, 3, 4, 5, 2, 6, 7, 8, 9, 10]) (fun _ => by kernel_rfl) (og (β := Kr) (S := S6) (L := L6) (f := f4) (m := m5) (t := t6) M9) rfl (by kernel_rfl) ?_
   rintro NG _ _ jk ⟨G6, n6, K6, rfl, rfl, N6⟩
   replace hA := hA.le jk
   replace hB := hB.le jk
   replace hG := hG.le jk
   replace lY := lY.le jk
   replace wK := wK.le jk
   replace wM := wM.le jk
   replace hall := hall.le jk
   replace LF := LF.le jk
   replace hle0 := hle0.trans jk
   refine gK 6 [(136, .bool true), (137, .pointer (some ⟨f4, 0, none⟩))] [(1, p_ ⟨[], none, none, none, some (.int .i64 1)⟩ [((.int .i64 ↑((aP S6).length) : Value)) = (.int .i64 1)] ⟨by rw [Na]; rfl, trivial⟩)] ?_
   refine gL [0] ((vD f4 m5 t6 S6.X).val (congrArg (Value.int .i64) Nb)) ?_
   rintro _ _ ⟨rfl, rfl⟩
   refine gK 3 [(6, .bool true)] [] ?_
   refine NN (af.ret ?_)
   exact aj.LI (v := .bool true) (l := []) (ak := []) [] [6] hle0 (fun _ => by kernel_rfl) trivial rfl (by kernel_rfl) (rfl)
  ·
   refine SR ?_
   refine gK 3 [(70, .bool (decide (((((a.length + b.length) : Nat) : Int) : Int) > (r : Int))))] [] ?_
   refine NN ?_
   refine af.bH (p := ((((a.length + b.length) : Nat) : Int) : Int) > (r : Int)) (fun _ => by kernel_rfl) (fun Nc => ?_) (fun Nc => ?_)
   ·
    refine af.region ?_
    refine gK 2 [(14, .int .i64 (r))] [] ?_
    refine NL ?_
    refine aj.slot 14 (.int .i64 (r)) (.int .i64 ↑(min (a.length + b.length) r.toNat)) (fun _ => by kernel_rfl) (Gq (by have := hr.1; omega)) ?_
    exact aj.meet () (idx := [8, 10, 11, 12, 13, 14]) (pk := [0, 1, 2, 3, 4, 5, 6, 7, 8, 9, 10]) (show True from trivial) (fun _ => by kernel_rfl) rfl (by kernel_rfl)
   ·
    refine af.skip ?_
    refine aj.slot 14 (.int .i64 ↑(a.length + b.length)) (.int .i64 ↑(min (a.length + b.length) r.toNat)) (fun _ => by kernel_rfl) (Gq (by have := hr.1; omega)) ?_
    exact aj.meet () (idx := [8, 10, 11, 12, 13, 14]) (pk := [0, 1, 2, 3, 4, 5, 6, 7, 8, 9, 10]) (show True from trivial) (fun _ => by kernel_rfl) rfl (by kernel_rfl)
 ·
  refine SR ?_
  refine gK 3 [(21, .bool (decide ((room : Int) < (0 : Int))))] [] ?_
  refine ah.fD 21 ((room : Int) < (0 : Int)) (fun _ => by kernel_rfl) (fun oO => ?_) (fun oO => ?_)
  ·
   refine gK 3 [(24, .bool true)] [] ?_
   refine NN ?_
   refine CT ?_
   refine af.region ?_
   refine gK 1 [(2, .int .i64 99)] [] ?_
   refine NL ?_
   exact aj.meet 99 (idx := [0, 1, 2, 7]) (pk := [0, 1]) (show (0 ≤ 99 ∧ 99 ≤ 1099511627776) from by omega) (fun _ => by kernel_rfl) rfl (by kernel_rfl)
  ·
   refine gK 3 [(24, .bool (decide ((room : Int) > (1099511627776 : Int))))] [] ?_
   refine NN ?_
   refine af.bH (p := (room : Int) > (1099511627776 : Int)) (fun _ => by kernel_rfl) (fun wz => ?_) (fun wz => ?_)
   ·
    refine af.region ?_
    refine gK 1 [(2, .int .i64 99)] [] ?_
    refine NL ?_
    exact aj.meet 99 (idx := [0, 1, 2, 7]) (pk := [0, 1]) (show (0 ≤ 99 ∧ 99 ≤ 1099511627776) from by omega) (fun _ => by kernel_rfl) rfl (by kernel_rfl)
   ·
    refine af.skip ?_
    exact aj.meet room (idx := [0, 1, 2, 7]) (pk := [0, 1]) (show (0 ≤ room ∧ room ≤ 1099511627776) from by omega) (fun _ => by kernel_rfl) rfl (by kernel_rfl)
end Go.Proofs.YtkiedlmhocglhaaGreat
end
