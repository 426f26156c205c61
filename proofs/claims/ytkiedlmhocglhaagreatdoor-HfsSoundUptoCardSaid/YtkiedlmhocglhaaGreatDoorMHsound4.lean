/-
  PROVED HERE: lemmas and contracts of functions (texts of this repo, joined; what the claim does not use is left out): Vg, H8, H9, Vh, HD, H10, ShelfS, SK, HG, Vp, H11.
  CONDITIONS: as the theorems say.
-/
import Derived.Test.YtkiedlmhocglhaaGreatDoorMHsound3
import Derived.Shelf.SlGeneric
import Derived.Shelf.SlIter.Nil
import Derived.Shelf.SortM.Plain
import Derived.Shelf.SortM.SortNone
import Derived.Ground.GgzProg
import Derived.Ground.SlgmProg
import Derived.Test.YtkiedlmhocglhaaGreatDoorProg
set_option maxRecDepth 100000
set_option maxHeartbeats 4000000
namespace Go.Proofs.YtkiedlmhocglhaaGreatDoor
section
open Go.RowKit
section order
variable {P : Program} {ops : Array Oper} {Q Q' : Post} {n : Nat} {S : World → Prop}
def kf (P : Program) (ops : Array Oper) (Q : Post) (S : World → Prop) : List (Bool × Nat) → Act → World → Prop
  | [], a, w => Q .normal a w
  | (false, i) :: l, a, w => wpOp P ops Q i (fun a' w' => (l = [] ∨ S w') ∧ kf P ops Q S l a' w') a w
  | (true, i) :: l, a, w => ∃ o v, ops[i]? = some o ∧ YieldsIf P ops S o v a ∧ kf P ops Q S l (a.put o.dst v) w
def vl (ops : Array Oper) (n : Nat) : List (Bool × Nat) → Array Bool → Bool
  | [], listed => (Region.ready .any ops listed).isEmpty
  | (false, i) :: l, listed => (Region.ready .any ops listed == [i]) && (!l.isEmpty || i == n) && vl ops n l (listed.setIfInBounds i true)
  | (true, i) :: l, listed => decide (i < n) && Region.free .any ops listed i && (Region.ready .any ops listed).contains i && vl ops n l (listed.setIfInBounds i true)
theorem wK (hsel : Region.noSelect ops = true) (mh : Region.sinkB .any ops n = true) : ∀ (l : List (Bool × Nat)) (listed : Array Bool) (a : Act) (w : World), vl ops n l listed = true → Closed ops listed → (l = [] ∨ S w) → kf P ops (NP Q) S l a w → ja P ops (NP Q) n S l.length listed a w
  | [], listed, a, w, hb, _, _, h => ⟨List.isEmpty_iff.1 hb, h⟩
  | (false, i) :: l, listed, a, w, hb, hc, _, h => by
    unfold vl at hb
    simp only [Bool.and_eq_true, beq_iff_eq] at hb
    obtain ⟨⟨h1, h2⟩, h3⟩ := hb
    refine ⟨fun h0 => (by rw [h1] at h0; cases h0), fun j hj => ?_⟩
    have hr := hj
    rw [h1] at hj
    have hj : j = i := by simpa using hj
    subst hj
    refine wpOp_mono (fun a' w' h4 => ⟨?_, wK hsel mh l _ a' w' h3 (hc.set hr) h4.1 h4.2⟩) h
    rcases h4.1 with h5 | h5
    ·subst h5; exact .inl (by simpa using h2)
    exact .inr h5
  | (true, i) :: l, listed, a, w, hb, hc, hS, h => by
    unfold vl at hb
    simp only [Bool.and_eq_true, decide_eq_true_iff] at hb
    obtain ⟨⟨⟨h1, h2⟩, h3⟩, h4⟩ := hb
    obtain ⟨o, v, ho, hy, hk⟩ := h
    have hS : S w := hS.resolve_left (by simp)
    have hr : i ∈ Region.ready .any ops listed := by simpa using h3
    exact pu ho hsel mh h1 l.length listed a w hc (Region.free_spec ho h2) hr hy hS (wK hsel mh l _ _ w h4 (hc.set hr) (.inr hS) hk)
def D5 (ops : Array Oper) (l : List (Bool × Nat)) : Bool :=
  Region.noSelect ops && Region.sinkB .any ops (ops.size - 1) && (l.length == ops.size) && vl ops (ops.size - 1) l (Array.replicate ops.size false)
def oP (ops : Array Oper) (i : Nat) : Array Oper := ⟨ops.toList.take (i + 1)⟩
def gB (ops : Array Oper) (i : Nat) : Bool := match ops[i]? with
  | some o => match o.guard with
    | none => true
    | some (j, _) => decide (j ≤ i)
  | none => false
theorem GA {i j : Nat} (h : j ≤ i) : (oP ops i)[j]? = ops[j]? := by
  unfold oP
  obtain ⟨l⟩ := ops
  simp only [List.getElem?_toArray, List.getElem?_take]
  rw [if_pos (by omega)]
theorem uo {i : Nat} {a : Act} {w : World} {K : Act → World → Prop} (hg : gB ops i = true) (h : wpList P (oP ops i) (NP fun _ a w => K a w) ((oP ops i).toList.drop i) a w) : wpOp P ops (NP Q) i K a w := by
  unfold gB at hg
  split at hg
  ·rename_i o ho
   have hd : (oP ops i).toList.drop i = [o] := by
     have hl : ops.toList[i]? = some o := by simpa using ho
     have hi : i < ops.toList.length := br hl
     show (ops.toList.take (i + 1)).drop i = [o]
     rw [List.drop_take]
     rw [show i + 1 - i = 1 by omega, List.drop_eq_getElem_cons hi]
     rw [List.getElem?_eq_getElem hi] at hl
     cases hl
     rfl
   have hw : Region.wanted o (yielded (oP ops i) a.tmps) = Region.wanted o (yielded ops a.tmps) := by
     unfold Region.wanted
     split at hg
     ·rename_i hn; rw [hn]
     rename_i j b hn
     rw [hn]
     have hj : j ≤ i := by simpa using hg
     have : yielded (oP ops i) a.tmps j = yielded ops a.tmps j := by
       unfold yielded
       rw [GA hj]
     simp only [this]
   rw [hd] at h
   unfold wpOp
   simp only [ho]
   unfold wpList at h
   rw [hw] at h
   split at h
   ·rename_i hw
    rw [if_pos hw]
    rcases h with h | ⟨_, h⟩
    ·exact .inl (AX (Oper.wp_mono (fun a w h => h) h))
    exact (l6 h).elim
   rename_i hw
   rw [if_neg hw]
   exact h
  cases hg
end order
theorem oQ {P : Program} {ops : Array Oper} {Q Q' : Post} (hq : ∀ a w, Q .normal a w → Q' .normal a w) : ∀ (l : List Oper) {a : Act} {w : World}, wpList P ops (NP Q) l a w → wpList P ops (NP Q') l a w
  | [], _, _, h => hq _ _ h
  | o :: r, a, w, h => by
    unfold wpList at *
    split
    ·rename_i hw
     rw [if_pos hw] at h
     rcases h with h | ⟨_, h⟩
     ·exact .inl (AX (Oper.wp_mono (fun a w h => oQ hq r h) h))
     exact (l6 h).elim
    rename_i hw
    rw [if_neg hw] at h
    exact oQ hq r h
section mix
variable {P : Program} {β : Bs} {N : Nat} {ops : Array Oper} {S : List HP} {l l' : List (Bool × Nat)} {fr fr' : Fr} {hps : List HP} {Q : Post} {aV : List Prop} {i : Nat} {pk : List Nat}
def fq (P : Program) (β : Bs) (N : Nat) (ops : Array Oper) (S : List HP) (l : List (Bool × Nat)) (fr : Fr) (hps : List HP) (Q : Post) : Prop :=
  ∀ junk w, Sat β hps w → kf P ops (NP Q) (Sat β S) l (cA N fr junk) w
theorem af.mA {id : Nat} (l : List (Bool × Nat)) (pk : List Nat) (hm : P.follows .mixedOrders = true) (hB : D5 ops l = true) (hn : nodupB pk = true) (hp : bM hps pk = some S) (h : fq P β N ops S l fr hps Q) : af P β N (.region id ops true) fr hps Q := by
  intro junk w hS
  unfold D5 at hB
  simp only [Bool.and_eq_true, beq_iff_eq] at hB
  obtain ⟨⟨⟨h1, h2⟩, h3⟩, h4⟩ := hB
  have cP := hS.drewN 1
  have h5 := wK (Q := Q) h1 h2 l _ _ _ h4 (fun j oj _ hl => by simp [Array.getD_eq_getD_getElem?, Array.getElem?_replicate] at hl; split at hl <;> simp at hl) (.inr (cP.pick hn hp)) (h junk (w.drewN 1) cP)
  rw [h3] at h5
  refine Code.wp_mono (fun e a w q => ?_) (wp_region_any hm (mg _ _ _ _ h5))
  cases e with
  | normal => exact q
  | exit id => exact q.elim
  | goto l => exact q.elim
  | ret => exact q.elim
  | panic ch => exact q.elim
  | outgrown => exact q.elim
def pX (P : Program) (β : Bs) (N : Nat) (junk : Nat → Value) (ops : Array Oper) : List OH → List Nat → Fr → SS → Option (Fr × SS)
  | [], [], fr, S => some (fr, S)
  | h :: hs, i :: is, fr, S =>
    match ops[i]? with
    | some o =>
      match Region.wanted o (yF ops N fr junk) with
      | true =>
        match o7 P β 0 true (cC N fr junk) o h S with
        | some (v, S') =>
          match tJ v with
          | true => pX P β N junk ops hs is (cG fr o.dst v) S'
          | false => none
        | none => none
      | false => pX P β N junk ops hs is (cG fr o.dst undef) S
    | none => none
  | _, _, _, _ => none
def CG (P : Program) (β : Bs) (N : Nat) (junk : Nat → Value) (ops : Array Oper) (hs : List OH) (is : List Nat) (fr : Fr) (S : List HP) (idx : List Nat) : Option (Fr × List Prop) :=
  match pX P β N junk ops hs is fr ⟨[], S, [], true⟩ with
  | some (fr', S') => some (gI fr' junk idx, S'.aV)
  | none => none
theorem sF {junk : Nat → Value} : ∀ {hs : List OH} {is : List Nat} {fr fr' : Fr} {S S' : SS}, pX P β N junk ops hs is fr S = some (fr', S') → ∀ p, p ∈ S.aV → p ∈ S'.aV
  | [], [], fr, fr', S, S', h, p, hp => by cases h; exact hp
  | h :: hs, i :: is, fr, fr', S, S', hr, p, hp => by
    unfold pX at hr
    repeat' split at hr
    all_goals first | (cases hr; done) | skip
    ·rename_i h0 _ _
     exact sF hr p (vT h0 p hp)
    exact sF hr p hp
  | [], _ :: _, _, _, _, _, h, _, _ => by cases h
  | _ :: _, [], _, _, _, _, h, _, _ => by cases h
theorem pY {junk : Nat → Value} {w : World} : ∀ {hs : List OH} {is : List Nat} {fr fr' : Fr} {T T' : SS}, pX P β N junk ops hs is fr T = some (fr', T') → (∀ p, p ∈ T'.aV → p) → T.used = true → T.hps = S →
    kf P ops (NP Q) (Sat β S) l (cA N fr' junk) w → kf P ops (NP Q) (Sat β S) (is.map (fun i => (true, i)) ++ l) (cA N fr junk) w
  | [], [], fr, fr', T, T', h, ho, hu, hT, hK => by cases h; exact hK
  | h :: hs, i :: is, fr, fr', T, T', hr, ho, hu, hT, hK => by
    unfold pX at hr
    repeat' split at hr
    all_goals first | (cases hr; done) | skip
    ·rename_i o hget _ hwant _ v T1 h0 _ hv
     obtain ⟨e1, e2⟩ := qZ h0
     rw [List.map_cons, List.cons_append]
     unfold kf
     refine ⟨o, v, hget, .inl ⟨by rw [dO]; exact hwant, fun w' cP => ?_⟩, ?_⟩
     ·rw [dw]
      obtain ⟨w2, h1, _, _, h4⟩ := ko h0 (fun p hp => ho p (sF hr p hp)) (by rw [hT]; exact cP) (fun e => by rw [hu] at e; cases e)
      obtain ⟨ew, _⟩ := h4 rfl
      rw [ew] at h1
      rcases h1 with h1 | ⟨h1, _⟩
      ·exact h1
      exact absurd h1 (qm hv)
     rw [dh]
     exact pY hr ho (e2.trans hu) (e1.trans hT) hK
    rename_i o hget _ hwant
    rw [List.map_cons, List.cons_append]
    unfold kf
    refine ⟨o, undef, hget, .inr ⟨by rw [dO]; exact hwant, rfl⟩, ?_⟩
    rw [dh]
    exact pY hr ho hu hT hK
  | [], _ :: _, _, _, _, _, h, _, _, _, _ => by cases h
  | _ :: _, [], _, _, _, _, h, _, _, _, _ => by cases h
theorem fq.reads (is : List Nat) (hs : List OH) (idx : List Nat) (h : ∀ junk, CG P β N junk ops hs is fr S idx = some (fr', aV)) (ho : iP aV) (hl : l' = is.map (fun i => (true, i)) ++ l) (K : fq P β N ops S l fr' hps Q) : fq P β N ops S l' fr hps Q := by
  intro junk w hS
  subst hl
  have h0 := h junk
  unfold CG at h0
  split at h0
  ·rename_i jQ S1 h1
   cases h0
   have hK := K (lk jQ junk) w hS
   rw [← iO] at hK
   exact pY h1 (fun p hp => ho.mem hp) rfl rfl hK
  cases h0
theorem fq.cut {ι : Type} {fr' : ι → Fr} {hp' : ι → List HP} (pk : List Nat) (hg : gB ops i = true) (h : aj P β N (oP ops i) i fr hps (NP (iY β N fr' hp'))) (hn : nodupB pk = true) (hp : ∀ j, bM (hp' j) pk = some S)
    (K : ∀ j, fq P β N ops S l (fr' j) (hp' j) Q) : fq P β N ops S ((false, i) :: l) fr hps Q := by
  intro junk w hS
  unfold kf
  refine uo hg (oQ (Q' := _) (fun a w ⟨j, fH, ha, cP⟩ => ?_) _ (h junk w hS))
  subst ha
  exact ⟨.inr (cP.pick hn (hp j)), K j fH w cP⟩
theorem fq.last (hg : gB ops i = true) (h : aj P β N (oP ops i) i fr hps (NP Q)) : fq P β N ops S [(false, i)] fr hps Q := by
  intro junk w hS
  unfold kf
  exact uo hg (oQ (Q' := _) (fun a w hq => ⟨.inl rfl, by unfold kf; exact hq⟩) _ (h junk w hS))
end mix
end
section
open Go.RowKit Go.Maps HeapM TabM
attribute [local irreducible] aj aS af ai
abbrev D6 (cb : Nat) (c : aT) := (pC cb { c with other := 0, mode := 0, uid := 0, gid := 0, sec := 0, nano := 0 } : HP)
abbrev D7 (cb : Nat) (c : aT) (S : aE) (tk : Nat) := (pC cb { c with other := 0, mode := 0, uid := 0, gid := 0, sec := 0, nano := 0, answer := (obj S.O tk).id } : HP)
abbrev NY (cb : Nat) (c : aT) (S : aE) (tk : Nat) := (pC cb { c with other := 1, mode := (obj S.O tk).mode, uid := (obj S.O tk).uid, gid := 0, sec := 0, nano := 0, answer := (obj S.O tk).id } : HP)
abbrev NZ (cb : Nat) (c : aT) (S : aE) (tk : Nat) := (pC cb { c with other := 1, mode := (obj S.O tk).mode, uid := (obj S.O tk).uid, gid := (obj S.O tk).gid, sec := 0, nano := 0, answer := (obj S.O tk).id } : HP)
abbrev N0 (cb : Nat) (c : aT) (S : aE) (tk : Nat) := (pC cb { c with other := 2, mode := (obj S.O tk).mode, uid := (obj S.O tk).uid, gid := 0, sec := 0, nano := 0, answer := (obj S.O tk).id } : HP)
abbrev N7 (cb : Nat) (c : aT) (S : aE) (tk : Nat) := (pC cb { c with other := 2, mode := (obj S.O tk).mode, uid := (obj S.O tk).uid, gid := (obj S.O tk).gid, sec := 0, nano := 0, answer := (obj S.O tk).id } : HP)
abbrev N8 (cb : Nat) (c : aT) (S : aE) (tk : Nat) := (pC cb { c with other := 3, mode := (obj S.O tk).mode, uid := (obj S.O tk).uid, gid := 0, sec := 0, nano := 0, answer := (obj S.O tk).id } : HP)
abbrev N9 (cb : Nat) (c : aT) (S : aE) (tk : Nat) := (pC cb { c with other := 3, mode := (obj S.O tk).mode, uid := (obj S.O tk).uid, gid := (obj S.O tk).gid, sec := 0, nano := 0, answer := (obj S.O tk).id } : HP)
abbrev kT (S : aE) (tk : Nat) := ([(40, vI ((obj S.O tk).mode)), (44, vI ((obj S.O tk).uid)), (48, vI ((obj S.O tk).gid)), (52, .agg #[vI ((obj S.O tk).sec), vI ((obj S.O tk).nano)])] : Fr)
abbrev nX (S : aE) (tk : Nat) := ([(48, vI ((obj S.O tk).gid)), (52, .agg #[vI ((obj S.O tk).sec), vI ((obj S.O tk).nano)])] : Fr)
abbrev sG (cb : Nat) (S : aE) (tk : Nat) := ([(26, vP cb), (27, vP cb), (28, vP cb), (29, vP cb), (30, vP cb), (34, vI ((obj S.O tk).id))] : Fr)
abbrev nY (f : Nat) (m : Nat) (t) (S : aE) (L : HL) (cb : Nat) (c) (R : bR) := ([pF f m t S.X, pI m L S.idx, pO S.O L, pD S.O L, pE S.O L, pC cb c, .abs R] : List HP)
abbrev EV := ([(2, vI 0), (6, vI 0), (7, vI 0), (8, vI 0), (9, vI 0), (10, vI 0)] : Fr)
abbrev nZ (cb : Nat) := ([(28, vP cb), (29, vP cb), (30, vP cb)] : Fr)
abbrev uq (L : HL) (to : Nat) (c : aT) := ([(61, .map (some (L.m to))), (65, .string c.text)] : Fr)
abbrev zA (cb : Nat) (S : aE) (tk : Nat) := ([(29, vP cb), (30, vP cb), (44, vI ((obj S.O tk).uid))] : Fr)
abbrev IX (S : aE) (tk : Nat) (cb : Nat) := ([(52, .agg #[vI ((obj S.O tk).sec), vI ((obj S.O tk).nano)]), (64, .pointer (some ⟨cb, 9, none⟩))] : Fr)
abbrev EW (L : HL) (tk : Nat) := ([(5, .iface 89 (vP (L.b tk))), (6, vI 0)] : Fr)
abbrev EX (L : HL) (tk : Nat) := ([(5, .iface 96 (vP (L.b tk))), (6, vI 0)] : Fr)
abbrev IY (t) (c : aT) := ([(13, vP t), (17, vI (c.handle))] : Fr)
abbrev IZ (t) (c : aT) := ([(11, vP t), (15, vI (c.handle))] : Fr)
abbrev I0 (S : aE) (tk : Nat) := ([(9, vI ((obj S.O tk).sec)), (10, vI ((obj S.O tk).nano))] : Fr)
theorem EY {β : Bs} (S : aE) (L : HL) (f m t : Nat) (hI : Inv S) (cb : Nat) (c : aT) (hC : fD β c) :
    Spec Tryz.prog β 84 #[vP f, vP cb] ((pA f m t L S) ++ [pC cb c]) (fun v l => ∃ L2, v = vI (bX S c).1 ∧ l = ((pA f m t L2 ((bX S c).2.1)) ++ [.blk cb (fV ((bX S c).2.2)) 43])) := by
 have hX := hI.hX
 refine Spec.enter Tryz.func84 rfl Tryz.ntmps84 (Nat.le_of_ble_eq_true rfl) (fun R => ?_)
 refine SR ?_
 refine gK 1 [] [] ?_
 refine NN (af.seq ?_)
 refine af.bG (by kernel_rfl) (by kernel_rfl) ?_
 refine gQ 9 [(10, vP f), (14, vI (c.handle)), (18, .string c.name)] [(4, a_ 6 cb), (8, a_ 6 cb)] ?_
 rcases jH hI.toInv0 c.handle c.name 64 with ⟨e, hab, hne⟩ | ⟨d, hab, hd, fZ, hgn, cE⟩
 ·refine aS.call (f := 134) (args := #[vP f, vI (c.handle), .string c.name, vI 64]) (d := (some 19)) (pre := (mM f m t S L)) (R := (lX m L S cb c R)) (pk := [0, 2, 3, 1, 4, 5, 6, 7]) (gF := [0, 3, 1, 2, 4, 5, 6, 7]) (v0 := .tuple #[.pointer none, vI (e)]) (fun _ => by kernel_rfl) ((by have h := cY S L f m t hI c.handle hC.hw c.name hC.nm 64 (β := β); rw [hab] at h; exact h)) rfl (by kernel_rfl) rfl (by kernel_rfl) (fun _ _ h => h) ?_
  refine gQ 5 [(5, .pointer none), (6, vI (e))] [] ?_
  refine NQ (NX (af.seq (SR ?_)))
  refine gK 2 [(23, .bool (!(decide ((e : Int) = (0 : Int)))))] [] ?_
  refine NN ?_
  refine af.cI (p := (e : Int) = (0 : Int)) (fun _ => by kernel_rfl) (fun h23 => ?_) (fun h23 => ?_)
  ·refine SR ?_
   refine gK 2 [(4, vI (e))] [] ?_
   refine NN (af.ret (ai.ar ?_))
   exact RT (vI (e)) [0, 1, 2, 3, 4, 5, 6, 7] (⟨L, by rw [show (bX S c) = (e, S, c) by unfold bX; rw [hab]] <;> exact ⟨rfl, rfl⟩⟩)
  exact absurd h23 hne
 have hkd : (obj S.O d).kind = 2 := hI.kind hd
 refine aS.call (f := 134) (args := #[vP f, vI (c.handle), .string c.name, vI 64]) (d := (some 19)) (pre := (mM f m t S L)) (R := (lX m L S cb c R)) (pk := [0, 2, 3, 1, 4, 5, 6, 7]) (gF := [0, 3, 1, 2, 4, 5, 6, 7]) (v0 := .tuple #[vP (L.b d), vI 0]) (fun _ => by kernel_rfl) ((by have h := cY S L f m t hI c.handle hC.hw c.name hC.nm 64 (β := β); rw [hab] at h; exact h)) rfl (by kernel_rfl) rfl (by kernel_rfl) (fun _ _ h => h) ?_
 refine gQ 5 (CA L d) [] ?_
 refine NQ (NX (af.seq (SR ?_)))
 refine gK 2 [(23, .bool false)] [] ?_
 refine NN ?_
 refine CF ?_
 refine af.skip (NX (af.seq ?_))
 refine af.bG (by kernel_rfl) (by kernel_rfl) ?_
 refine gQ 9 [(26, vP f), (30, vI (c.other)), (34, .string c.text)] [(4, a_ 6 cb), (8, a_ 6 cb)] ?_
 rcases jH hI.toInv0 c.other c.text 192 with ⟨e2, iG, CD⟩ | ⟨to, iG, hd2, Md, IW, Me⟩
 ·refine aS.call (f := 134) (args := #[vP f, vI (c.other), .string c.text, vI 192]) (d := (some 35)) (pre := (mM f m t S L)) (R := (lX m L S cb c R)) (pk := [0, 2, 3, 1, 4, 5, 6, 7]) (gF := [0, 3, 1, 2, 4, 5, 6, 7]) (v0 := .tuple #[.pointer none, vI (e2)]) (fun _ => by kernel_rfl) ((by have h := cY S L f m t hI c.other hC.ow c.text hC.tx 192 (β := β); rw [iG] at h; exact h)) rfl (by kernel_rfl) rfl (by kernel_rfl) (fun _ _ h => h) ?_
  refine gQ 5 [(6, vI (e2)), (7, .pointer none)] [] ?_
  refine NQ (NX (af.seq (SR ?_)))
  refine gK 2 [(39, .bool (!(decide ((e2 : Int) = (0 : Int)))))] [] ?_
  refine NN ?_
  refine af.cI (p := (e2 : Int) = (0 : Int)) (fun _ => by kernel_rfl) (fun pH => ?_) (fun pH => ?_)
  ·refine SR ?_
   refine gK 2 [(4, vI (e2))] [] ?_
   refine NN (af.ret (ai.ar ?_))
   exact RT (vI (e2)) [0, 1, 2, 3, 4, 5, 6, 7] (⟨L, by rw [show (bX S c) = (e2, S, c) by unfold bX; rw [hab]; simp only; rw [iG]] <;> exact ⟨rfl, rfl⟩⟩)
  exact absurd pH CD
 have dg : (obj S.O to).kind = 2 := hI.kind hd2
 refine aS.call (f := 134) (args := #[vP f, vI (c.other), .string c.text, vI 192]) (d := (some 35)) (pre := (mM f m t S L)) (R := (lX m L S cb c R)) (pk := [0, 2, 3, 1, 4, 5, 6, 7]) (gF := [0, 3, 1, 2, 4, 5, 6, 7]) (v0 := .tuple #[vP (L.b to), vI 0]) (fun _ => by kernel_rfl) ((by have h := cY S L f m t hI c.other hC.ow c.text hC.tx 192 (β := β); rw [iG] at h; exact h)) rfl (by kernel_rfl) rfl (by kernel_rfl) (fun _ _ h => h) ?_
 refine gQ 5 [(6, vI 0), (7, vP (L.b to))] [] ?_
 refine NQ (NX (af.seq (SR ?_)))
 refine gK 2 [(39, .bool false)] [] ?_
 refine NN ?_
 refine CF ?_
 refine af.skip (NX (af.seq ?_))
 have hel : (obj S.O d).ah.length ≤ 8192 := hI.eG hd
 have Nx := hC.nm
 rcases hI.jS hd c.name with hlk | ⟨tk, hlk, hlv⟩ | ⟨tk, hlk, hlv⟩ | ⟨tk, hlk, hlv⟩
 ·refine af.bG (by kernel_rfl) (by kernel_rfl) ?_
  refine gQ 8 [(44, .map (some (L.m d))), (48, .string c.name)] [(3, v_ 3 (bw L hkd)), (7, a_ 6 cb)] ?_
  refine om 5 hkd hlk ?_
  refine gQ 1 [(8, .nilIface)] [] ?_
  refine NQ (NX (af.seq (af.block (SR ?_))))
  refine gK 3 [(50, .bool true)] [] ?_
  refine NN ?_
  refine CT ?_
  refine SR ?_
  refine gK 1 [(4, vI 170)] [] ?_
  refine NN (af.ret (ai.aH (ai.ar ?_)))
  exact RT (vI 170) [0, 1, 2, 3, 4, 5, 6, 7] (⟨L, by rw [show (bX S c) = (170, S, c) by unfold bX; rw [hab]; simp only; rw [iG]; simp only; rw [show (linkM S d c.name to c.text) = (170, S) by unfold linkM; rw [hlk]]] <;> exact ⟨rfl, rfl⟩⟩)
 ·have hkt : (obj S.O tk).kind = 1 := hI.kind hlv
  refine af.bG (by kernel_rfl) (by kernel_rfl) ?_
  refine gQ 8 [(44, .map (some (L.m d))), (48, .string c.name)] [(3, v_ 3 (bw L hkd)), (7, a_ 6 cb)] ?_
  refine om 5 hkd hlk ?_
  refine gQ 1 [(8, .iface 89 (vP (L.b tk)))] [] ?_
  refine NQ (NX (af.seq (af.block (SR ?_))))
  refine gK 3 [(50, .bool false)] [] ?_
  refine NN ?_
  refine CF ?_
  refine SR ?_
  refine gK 1 [(54, .iface 89 (vP (L.b tk)))] [] ?_
  refine gL [] (jC (vP (L.b tk))) ?_
  rintro _ _ ⟨rfl, rfl⟩
  refine gK 2 [(53, .bool false)] [] ?_
  refine NN ?_
  refine CF ?_
  refine af.seq ?_
  have wL : (obj S.O to).ah.length ≤ 8192 := hI.eG hd2
  have GD := hC.tx
  rcases hI.jS hd2 c.text with bg | ⟨ok, bg, dm⟩ | ⟨ok, bg, dm⟩ | ⟨ok, bg, dm⟩
  ·refine af.bG (by kernel_rfl) (by kernel_rfl) ?_
   refine gQ 8 (uq L to c) [(3, v_ 3 (bw L dg)), (7, a_ 6 cb)] ?_
   refine om 5 dg bg ?_
   refine gQ 2 [(57, .bool false)] [] ?_
   refine NQ (NX ?_)
   refine CF ?_
   refine SR ?_
   refine gK 1 [(69, vP f)] [] ?_
   refine gL [0] (qR S.X f m t) ?_
   rintro _ _ ⟨rfl, rfl⟩
   refine gK 2 [(68, .bool (!(decide (S.X.ah < 8192))))] [] ?_
   refine NN ?_
   refine af.cI (p := S.X.ah < 8192) (fun _ => by kernel_rfl) (fun h68 => ?_) (fun h68 => ?_)
   ·refine SR ?_
    refine gK 1 [(4, vI 177)] [] ?_
    refine NN (af.ret (ai.aH (ai.ar ?_)))
    exact RT (vI 177) [0, 1, 2, 3, 4, 5, 6, 7] (⟨L, by rw [show (bX S c) = (177, S, c) by unfold bX; rw [hab]; simp only; rw [iG]; simp only; rw [show (linkM S d c.name to c.text) = (177, S) by unfold linkM; rw [hlk]; exact (if_neg (by simp)).trans ((if_pos bg).trans (if_neg h68))]] <;> exact ⟨rfl, rfl⟩⟩)
   refine af.skip (ai.aP (NX (SR ?_)))
   refine gK 7 [(72, vP f), (73, vP (L.b to)), (77, .string c.text), (78, .iface 89 (vP (L.b tk)))] [(5, a_ 6 cb)] ?_
   refine gL [0, 3, 5] (fQ S.X f m t hX S.O L to dg c.text hC.tx bg (by omega) ⟨tk, 1⟩ hkt (by simp) (by have := hI.lb hlv; simp only at this ⊢; omega)) ?_
   rintro _ _ ⟨rfl, rfl⟩
   refine NS ?_
   refine aj.mem (aQ := [.blk f [vI (S.X.cN), vI (S.X.cB), vI (S.X.cH), vI (S.X.cS), vI (S.X.cZ), .map (some m), vP t, vI (S.X.last), vI (S.X.ah + 1), vI (S.X.used)] 86, .abs (ak (aN (bp S.X S.O to c.text ⟨tk, 1⟩) L)), .abs (ak (bh (bp S.X S.O to c.text ⟨tk, 1⟩) L)), .abs (aI Tryz.prog 3 m (aM (aJ L S.idx)) S.idx.length), .abs (aX 156 t S.X.cH S.aq (aJ L S.us)), .abs (ak (aY (bp S.X S.O to c.text ⟨tk, 1⟩) L)), .blk cb [vI (c.op), vI (c.handle), vI (c.other), .string c.name, .string c.text, .slice c.dA (c.data.length) (c.dC), vI (c.mode), vI (c.uid), vI (c.gid), vI (c.sec), vI (c.nano), vI (c.code), vI (c.answer)] 43, .abs R]) (fun w hS => by rw [show aY (bp S.X S.O to c.text ⟨tk, 1⟩) L = aY S.O L from fC]; exact hS) ?_
   refine gK 1 [(4, vI 0)] [] ?_
   refine NN (af.ret ?_)
   exact RT (vI 0) [0, 3, 4, 1, 5, 2, 6, 7] (⟨L, by rw [show (bX S c) = (0, { S with X := { S.X with ah := S.X.ah + 1 }, O := bp S.X S.O to c.text ⟨tk, 1⟩ }, c) by unfold bX; rw [hab]; simp only; rw [iG]; simp only; rw [show (linkM S d c.name to c.text) = (0, { S with X := { S.X with ah := S.X.ah + 1 }, O := bp S.X S.O to c.text ⟨tk, 1⟩ }) by unfold linkM; rw [hlk]; exact (if_neg (by simp)).trans ((if_pos bg).trans (if_pos h68))]] <;> exact ⟨rfl, rfl⟩⟩)
  ·have jh : (obj S.O ok).kind = 1 := hI.kind dm
   refine af.bG (by kernel_rfl) (by kernel_rfl) ?_
   refine gQ 8 (uq L to c) [(3, v_ 3 (bw L dg)), (7, a_ 6 cb)] ?_
   refine om 5 dg bg ?_
   refine gQ 2 [(57, .bool true)] [] ?_
   refine NQ (NX ?_)
   refine CT ?_
   refine SR ?_
   refine gK 1 [(4, vI 171)] [] ?_
   refine NN (af.ret (ai.aH (ai.ar ?_)))
   exact RT (vI 171) [0, 1, 2, 3, 4, 5, 6, 7] (⟨L, by rw [show (bX S c) = (171, S, c) by unfold bX; rw [hab]; simp only; rw [iG]; simp only; rw [show (linkM S d c.name to c.text) = (171, S) by unfold linkM; rw [hlk]; exact (if_neg (by simp)).trans (if_neg (by rw [bg]; simp))]] <;> exact ⟨rfl, rfl⟩⟩)
  ·have jh : (obj S.O ok).kind = 2 := hI.kind dm
   refine af.bG (by kernel_rfl) (by kernel_rfl) ?_
   refine gQ 8 (uq L to c) [(3, v_ 3 (bw L dg)), (7, a_ 6 cb)] ?_
   refine om 5 dg bg ?_
   refine gQ 2 [(57, .bool true)] [] ?_
   refine NQ (NX ?_)
   refine CT ?_
   refine SR ?_
   refine gK 1 [(4, vI 171)] [] ?_
   refine NN (af.ret (ai.aH (ai.ar ?_)))
   exact RT (vI 171) [0, 1, 2, 3, 4, 5, 6, 7] (⟨L, by rw [show (bX S c) = (171, S, c) by unfold bX; rw [hab]; simp only; rw [iG]; simp only; rw [show (linkM S d c.name to c.text) = (171, S) by unfold linkM; rw [hlk]; exact (if_neg (by simp)).trans (if_neg (by rw [bg]; simp))]] <;> exact ⟨rfl, rfl⟩⟩)
  have jh : (obj S.O ok).kind = 3 := hI.kind dm
  refine af.bG (by kernel_rfl) (by kernel_rfl) ?_
  refine gQ 8 (uq L to c) [(3, v_ 3 (bw L dg)), (7, a_ 6 cb)] ?_
  refine om 5 dg bg ?_
  refine gQ 2 [(57, .bool true)] [] ?_
  refine NQ (NX ?_)
  refine CT ?_
  refine SR ?_
  refine gK 1 [(4, vI 171)] [] ?_
  refine NN (af.ret (ai.aH (ai.ar ?_)))
  exact RT (vI 171) [0, 1, 2, 3, 4, 5, 6, 7] (⟨L, by rw [show (bX S c) = (171, S, c) by unfold bX; rw [hab]; simp only; rw [iG]; simp only; rw [show (linkM S d c.name to c.text) = (171, S) by unfold linkM; rw [hlk]; exact (if_neg (by simp)).trans (if_neg (by rw [bg]; simp))]] <;> exact ⟨rfl, rfl⟩⟩)
 ·have hkt : (obj S.O tk).kind = 2 := hI.kind hlv
  refine af.bG (by kernel_rfl) (by kernel_rfl) ?_
  refine gQ 8 [(44, .map (some (L.m d))), (48, .string c.name)] [(3, v_ 3 (bw L hkd)), (7, a_ 6 cb)] ?_
  refine om 5 hkd hlk ?_
  refine gQ 1 [(8, .iface 96 (vP (L.b tk)))] [] ?_
  refine NQ (NX (af.seq (af.block (SR ?_))))
  refine gK 3 [(50, .bool false)] [] ?_
  refine NN ?_
  refine CF ?_
  refine SR ?_
  refine gK 1 [(54, .iface 96 (vP (L.b tk)))] [] ?_
  refine gL [] (jD (vP (L.b tk))) ?_
  rintro _ _ ⟨rfl, rfl⟩
  refine gK 2 [(53, .bool true)] [] ?_
  refine NN ?_
  refine CT ?_
  refine SR ?_
  refine gK 1 [(4, vI 172)] [] ?_
  refine NN (af.ret (ai.aH (ai.ar ?_)))
  exact RT (vI 172) [0, 1, 2, 3, 4, 5, 6, 7] (⟨L, by rw [show (bX S c) = (172, S, c) by unfold bX; rw [hab]; simp only; rw [iG]; simp only; rw [show (linkM S d c.name to c.text) = (172, S) by unfold linkM; rw [hlk]; exact if_pos rfl]] <;> exact ⟨rfl, rfl⟩⟩)
 have hkt : (obj S.O tk).kind = 3 := hI.kind hlv
 refine af.bG (by kernel_rfl) (by kernel_rfl) ?_
 refine gQ 8 [(44, .map (some (L.m d))), (48, .string c.name)] [(3, v_ 3 (bw L hkd)), (7, a_ 6 cb)] ?_
 refine om 5 hkd hlk ?_
 refine gQ 1 [(8, .iface 93 (vP (L.b tk)))] [] ?_
 refine NQ (NX (af.seq (af.block (SR ?_))))
 refine gK 3 [(50, .bool false)] [] ?_
 refine NN ?_
 refine CF ?_
 refine SR ?_
 refine gK 1 [(54, .iface 93 (vP (L.b tk)))] [] ?_
 refine gL [] (j7 (vP (L.b tk))) ?_
 rintro _ _ ⟨rfl, rfl⟩
 refine gK 2 [(53, .bool false)] [] ?_
 refine NN ?_
 refine CF ?_
 refine af.seq ?_
 have wL : (obj S.O to).ah.length ≤ 8192 := hI.eG hd2
 have GD := hC.tx
 rcases hI.jS hd2 c.text with bg | ⟨ok, bg, dm⟩ | ⟨ok, bg, dm⟩ | ⟨ok, bg, dm⟩
 ·refine af.bG (by kernel_rfl) (by kernel_rfl) ?_
  refine gQ 8 (uq L to c) [(3, v_ 3 (bw L dg)), (7, a_ 6 cb)] ?_
  refine om 5 dg bg ?_
  refine gQ 2 [(57, .bool false)] [] ?_
  refine NQ (NX ?_)
  refine CF ?_
  refine SR ?_
  refine gK 1 [(69, vP f)] [] ?_
  refine gL [0] (qR S.X f m t) ?_
  rintro _ _ ⟨rfl, rfl⟩
  refine gK 2 [(68, .bool (!(decide (S.X.ah < 8192))))] [] ?_
  refine NN ?_
  refine af.cI (p := S.X.ah < 8192) (fun _ => by kernel_rfl) (fun h68 => ?_) (fun h68 => ?_)
  ·refine SR ?_
   refine gK 1 [(4, vI 177)] [] ?_
   refine NN (af.ret (ai.aH (ai.ar ?_)))
   exact RT (vI 177) [0, 1, 2, 3, 4, 5, 6, 7] (⟨L, by rw [show (bX S c) = (177, S, c) by unfold bX; rw [hab]; simp only; rw [iG]; simp only; rw [show (linkM S d c.name to c.text) = (177, S) by unfold linkM; rw [hlk]; exact (if_neg (by simp)).trans ((if_pos bg).trans (if_neg h68))]] <;> exact ⟨rfl, rfl⟩⟩)
  refine af.skip (ai.aP (NX (SR ?_)))
  refine gK 7 [(72, vP f), (73, vP (L.b to)), (77, .string c.text), (78, .iface 93 (vP (L.b tk)))] [(5, a_ 6 cb)] ?_
  refine gL [0, 3, 5] (fQ S.X f m t hX S.O L to dg c.text hC.tx bg (by omega) ⟨tk, 3⟩ hkt (by simp) (by have := hI.lb hlv; simp only at this ⊢; omega)) ?_
  rintro _ _ ⟨rfl, rfl⟩
  refine NS ?_
  refine aj.mem (aQ := [.blk f [vI (S.X.cN), vI (S.X.cB), vI (S.X.cH), vI (S.X.cS), vI (S.X.cZ), .map (some m), vP t, vI (S.X.last), vI (S.X.ah + 1), vI (S.X.used)] 86, .abs (ak (aN (bp S.X S.O to c.text ⟨tk, 3⟩) L)), .abs (ak (bh (bp S.X S.O to c.text ⟨tk, 3⟩) L)), .abs (aI Tryz.prog 3 m (aM (aJ L S.idx)) S.idx.length), .abs (aX 156 t S.X.cH S.aq (aJ L S.us)), .abs (ak (aY (bp S.X S.O to c.text ⟨tk, 3⟩) L)), .blk cb [vI (c.op), vI (c.handle), vI (c.other), .string c.name, .string c.text, .slice c.dA (c.data.length) (c.dC), vI (c.mode), vI (c.uid), vI (c.gid), vI (c.sec), vI (c.nano), vI (c.code), vI (c.answer)] 43, .abs R]) (fun w hS => by rw [show aY (bp S.X S.O to c.text ⟨tk, 3⟩) L = aY S.O L from fC]; exact hS) ?_
  refine gK 1 [(4, vI 0)] [] ?_
  refine NN (af.ret ?_)
  exact RT (vI 0) [0, 3, 4, 1, 5, 2, 6, 7] (⟨L, by rw [show (bX S c) = (0, { S with X := { S.X with ah := S.X.ah + 1 }, O := bp S.X S.O to c.text ⟨tk, 3⟩ }, c) by unfold bX; rw [hab]; simp only; rw [iG]; simp only; rw [show (linkM S d c.name to c.text) = (0, { S with X := { S.X with ah := S.X.ah + 1 }, O := bp S.X S.O to c.text ⟨tk, 3⟩ }) by unfold linkM; rw [hlk]; exact (if_neg (by simp)).trans ((if_pos bg).trans (if_pos h68))]] <;> exact ⟨rfl, rfl⟩⟩)
 ·have jh : (obj S.O ok).kind = 1 := hI.kind dm
  refine af.bG (by kernel_rfl) (by kernel_rfl) ?_
  refine gQ 8 (uq L to c) [(3, v_ 3 (bw L dg)), (7, a_ 6 cb)] ?_
  refine om 5 dg bg ?_
  refine gQ 2 [(57, .bool true)] [] ?_
  refine NQ (NX ?_)
  refine CT ?_
  refine SR ?_
  refine gK 1 [(4, vI 171)] [] ?_
  refine NN (af.ret (ai.aH (ai.ar ?_)))
  exact RT (vI 171) [0, 1, 2, 3, 4, 5, 6, 7] (⟨L, by rw [show (bX S c) = (171, S, c) by unfold bX; rw [hab]; simp only; rw [iG]; simp only; rw [show (linkM S d c.name to c.text) = (171, S) by unfold linkM; rw [hlk]; exact (if_neg (by simp)).trans (if_neg (by rw [bg]; simp))]] <;> exact ⟨rfl, rfl⟩⟩)
 ·have jh : (obj S.O ok).kind = 2 := hI.kind dm
  refine af.bG (by kernel_rfl) (by kernel_rfl) ?_
  refine gQ 8 (uq L to c) [(3, v_ 3 (bw L dg)), (7, a_ 6 cb)] ?_
  refine om 5 dg bg ?_
  refine gQ 2 [(57, .bool true)] [] ?_
  refine NQ (NX ?_)
  refine CT ?_
  refine SR ?_
  refine gK 1 [(4, vI 171)] [] ?_
  refine NN (af.ret (ai.aH (ai.ar ?_)))
  exact RT (vI 171) [0, 1, 2, 3, 4, 5, 6, 7] (⟨L, by rw [show (bX S c) = (171, S, c) by unfold bX; rw [hab]; simp only; rw [iG]; simp only; rw [show (linkM S d c.name to c.text) = (171, S) by unfold linkM; rw [hlk]; exact (if_neg (by simp)).trans (if_neg (by rw [bg]; simp))]] <;> exact ⟨rfl, rfl⟩⟩)
 have jh : (obj S.O ok).kind = 3 := hI.kind dm
 refine af.bG (by kernel_rfl) (by kernel_rfl) ?_
 refine gQ 8 (uq L to c) [(3, v_ 3 (bw L dg)), (7, a_ 6 cb)] ?_
 refine om 5 dg bg ?_
 refine gQ 2 [(57, .bool true)] [] ?_
 refine NQ (NX ?_)
 refine CT ?_
 refine SR ?_
 refine gK 1 [(4, vI 171)] [] ?_
 refine NN (af.ret (ai.aH (ai.ar ?_)))
 exact RT (vI 171) [0, 1, 2, 3, 4, 5, 6, 7] (⟨L, by rw [show (bX S c) = (171, S, c) by unfold bX; rw [hab]; simp only; rw [iG]; simp only; rw [show (linkM S d c.name to c.text) = (171, S) by unfold linkM; rw [hlk]; exact (if_neg (by simp)).trans (if_neg (by rw [bg]; simp))]] <;> exact ⟨rfl, rfl⟩⟩)
theorem Dy {β : Bs} (S : aE) (L : HL) (f m t : Nat) (hI : Inv S) (cb : Nat) (c : aT) (hC : fD β c) :
    Spec Tryz.prog β 86 #[vP f, vP cb] ((pA f m t L S) ++ [pC cb c]) (fun v l => ∃ L2, v = vI (fo S c).1 ∧ l = ((pA f m t L2 ((fo S c).2.1)) ++ [.blk cb (fV ((fo S c).2.2)) 43])) := by
 have hX := hI.hX
 refine Spec.enter Tryz.func86 rfl Tryz.ntmps86 (Nat.le_of_ble_eq_true rfl) (fun R => ?_)
 refine af.seq ?_
 rcases hI.hand c.handle with cE | ⟨tk, cE, hlv⟩ | ⟨tk, cE, hlv⟩
 ·refine af.region ?_
  refine gK 1 [] [] ?_
  refine NN (af.seq ?_)
  refine af.bG (by kernel_rfl) (by kernel_rfl) ?_
  refine gQ 8 (IY t c) [(3, a_ 0 f), (7, a_ 6 cb)] ?_
  refine aS.call (f := 136) (args := #[vP t, vI (c.handle)]) (d := (some 18)) (pre := [jI t S L]) (R := (nY f m t S L cb c R)) (pk := [2, 0, 1, 3, 4, 5, 6, 7]) (gF := [1, 2, 0, 3, 4, 5, 6, 7]) (v0 := .tuple #[.nilIface, vI 131]) (fun _ => by kernel_rfl) (nK t S.X.cH S.aq (aJ L S.us) c.handle hC.hw (mU cE)) rfl (by kernel_rfl) rfl (by kernel_rfl) (fun _ _ h => h) ?_
  refine gQ 5 [(5, .nilIface), (6, vI 131)] [] ?_
  refine NQ (NX (af.seq (SR ?_)))
  refine gK 2 [(22, .bool true)] [] ?_
  refine NN ?_
  refine CT ?_
  refine SR ?_
  refine gK 2 [(4, vI 131)] [] ?_
  refine NN (af.ret (ai.ar ?_))
  exact RT (vI 131) [0, 1, 2, 3, 4, 5, 6, 7] (⟨L, by rw [show (fo S c) = (131, S, c) by unfold fo; rw [cE]] <;> exact ⟨rfl, rfl⟩⟩)
 ·have hkt : (obj S.O tk).kind = 1 := hI.kind hlv
  refine af.region ?_
  refine gK 1 [] [] ?_
  refine NN (af.seq ?_)
  refine af.bG (by kernel_rfl) (by kernel_rfl) ?_
  refine gQ 8 (IY t c) [(3, a_ 0 f), (7, a_ 6 cb)] ?_
  refine aS.call (f := 136) (args := #[vP t, vI (c.handle)]) (d := (some 18)) (pre := [jI t S L]) (R := (nY f m t S L cb c R)) (pk := [2, 0, 1, 3, 4, 5, 6, 7]) (gF := [1, 2, 0, 3, 4, 5, 6, 7]) (v0 := .tuple #[.iface 89 (vP (L.b tk)), vI 0]) (fun _ => by kernel_rfl) (jA t S.X.cH S.aq (aJ L S.us) c.handle hC.hw (cF L ⟨tk, 1⟩) (iT cE)) rfl (by kernel_rfl) rfl (by kernel_rfl) (fun _ _ h => h) ?_
  refine gQ 5 (EW L tk) [] ?_
  refine NQ (NX (af.seq (SR ?_)))
  refine gK 2 [(22, .bool false)] [] ?_
  refine NN ?_
  refine CF ?_
  refine af.skip (NX (SR ?_))
  refine gK 7 [(7, vP (L.b tk)), (8, .bool true)] [] ?_
  refine NN (af.seq (SR ?_))
  refine gK 2 [(30, .bool false)] [] ?_
  refine NN ?_
  refine CF ?_
  refine af.skip (NX (SR ?_))
  refine gK 7 [(32, vP cb), (33, vP f), (34, vP (L.b tk)), (38, .slice c.dA (c.data.length) (c.dC))] [(6, a_ 6 cb)] ?_
  refine gL [0, 1, 2, 3, 4, 5] (Ar S L f m t hI tk hlv c.dA c.dC c.data hC.da hC.dl hC.dc) ?_
  rintro _ _ ⟨L2, rfl, rfl⟩
  refine gC 7 [(6, vI ((writeM S tk c.data).2.1))] [(5, a_ 6 cb)] [(6, [(12, vI ((writeM S tk c.data).1))])] ?_
  refine NS ?_
  refine gK 2 [(4, vI ((writeM S tk c.data).2.1))] [] ?_
  refine NN (af.ret ?_)
  exact RT (vI ((writeM S tk c.data).2.1)) [0, 1, 2, 3, 4, 5, 6, 7] (⟨L2, by rw [show (fo S c) = ((writeM S tk c.data).2.1, (writeM S tk c.data).2.2, { c with answer := (writeM S tk c.data).1 }) by unfold fo; rw [cE]; exact if_pos rfl] <;> exact ⟨rfl, rfl⟩⟩)
 have hkt : (obj S.O tk).kind = 2 := hI.kind hlv
 refine af.region ?_
 refine gK 1 [] [] ?_
 refine NN (af.seq ?_)
 refine af.bG (by kernel_rfl) (by kernel_rfl) ?_
 refine gQ 8 (IY t c) [(3, a_ 0 f), (7, a_ 6 cb)] ?_
 refine aS.call (f := 136) (args := #[vP t, vI (c.handle)]) (d := (some 18)) (pre := [jI t S L]) (R := (nY f m t S L cb c R)) (pk := [2, 0, 1, 3, 4, 5, 6, 7]) (gF := [1, 2, 0, 3, 4, 5, 6, 7]) (v0 := .tuple #[.iface 96 (vP (L.b tk)), vI 0]) (fun _ => by kernel_rfl) (jA t S.X.cH S.aq (aJ L S.us) c.handle hC.hw (cF L ⟨tk, 2⟩) (iT cE)) rfl (by kernel_rfl) rfl (by kernel_rfl) (fun _ _ h => h) ?_
 refine gQ 5 (EX L tk) [] ?_
 refine NQ (NX (af.seq (SR ?_)))
 refine gK 2 [(22, .bool false)] [] ?_
 refine NN ?_
 refine CF ?_
 refine af.skip (NX (SR ?_))
 refine gK 7 [(7, .pointer none), (8, .bool false)] [] ?_
 refine NN (af.seq (SR ?_))
 refine gK 2 [(30, .bool true)] [] ?_
 refine NN ?_
 refine CT ?_
 refine SR ?_
 refine gK 1 [(4, vI 172)] [] ?_
 refine NN (af.ret (ai.ar ?_))
 exact RT (vI 172) [0, 1, 2, 3, 4, 5, 6, 7] (⟨L, by rw [show (fo S c) = (172, S, c) by unfold fo; rw [cE]; exact if_neg (by simp)] <;> exact ⟨rfl, rfl⟩⟩)
theorem lC {β : Bs} (S : aE) (L : HL) (hI : Inv S) (cb : Nat) (c : aT) (ot : Option Th) (ht : ot = none ∨ (∃ k, ot = some ⟨k, 1⟩ ∧ Live S.idx ⟨k, 1⟩) ∨ (∃ k, ot = some ⟨k, 2⟩ ∧ Live S.idx ⟨k, 2⟩) ∨ ∃ k, ot = some ⟨k, 3⟩ ∧ Live S.idx ⟨k, 3⟩) :
    Spec Tryz.prog β 137 #[vP cb, (match ot with | none => .nilIface | some th => cF L th)] [pO S.O L, pC cb c] (fun v l => v = .tuple #[] ∧ l = [pO S.O L, .blk cb (fV (ld S.O c ot)) 43]) := by
 refine Spec.enter Tryz.func137 rfl Tryz.ntmps137 (Nat.le_of_ble_eq_true rfl) (fun R => ?_)
 refine af.seq ?_
 rcases ht with rfl | ⟨tk, rfl, hlv⟩ | ⟨tk, rfl, hlv⟩ | ⟨tk, rfl, hlv⟩
 ·refine af.region ?_
  refine gC 21 [] [(8, a_ 1 cb), (11, a_ 1 cb), (14, a_ 1 cb), (17, a_ 1 cb), (20, A_ 1 cb 2)] [(1, (EV))] ?_
  refine NN (af.seq (SR ?_))
  refine gK 2 [(22, .bool true)] [] ?_
  refine NN ?_
  refine CT ?_
  refine af.ret (ai.ar ?_)
  exact RT (.tuple #[]) [0, 1, 2] (⟨rfl, rfl⟩)
 ·have hkt : (obj S.O tk).kind = 1 := hI.kind hlv
  refine af.region ?_
  refine gC 21 [] [(8, a_ 1 cb), (11, a_ 1 cb), (14, a_ 1 cb), (17, a_ 1 cb), (20, A_ 1 cb 2)] [(1, (EV))] ?_
  refine NN (af.seq (SR ?_))
  refine gK 2 [(22, .bool false)] [] ?_
  refine NN ?_
  refine CF ?_
  refine af.skip (NX (SR ?_))
  refine gK 1 [(23, .iface 89 (vP (L.b tk)))] [] ?_
  refine gL [] (cr (L.b tk)) ?_
  rintro _ _ ⟨rfl, rfl⟩
  refine gK 1 [(4, vP (L.b tk))] [] ?_
  refine NN ?_
  refine af.bZ (S := [pO S.O L]) [0, 1, 2, 3, 4, 5, 6, 7, 8, 9, 10, 12, 13, 14, 15, 16, 17, 18, 19, 20, 21, 22, 23, 24, 25, 26, 27, 11, 28, 29, 30, 31, 32, 33, 34, 35, 36, 37, 38, 39, 40, 41, 42, 43, 44, 45] 27 [0] (by kernel_rfl) (by kernel_rfl) rfl (by kernel_rfl) ?_
  refine aF.reads (r := 0) (l := [11, 28, 29, 30, 31, 32, 33, 34, 35, 36, 37, 38, 39, 40, 41, 42, 43, 44, 45]) (fr' := ([(25, vP cb)] ++ sG cb S tk ++ [(35, .iface 89 (vP (L.b tk)))] ++ kT S tk)) (aV := [(∀ F w, (ak (aN S.O L)).h F w → w.cell? ⟨(L.b tk), 5, none⟩ = some (vI ((obj S.O tk).nano))), (∀ F w, (ak (aN S.O L)).h F w → w.cell? ⟨(L.b tk), 4, none⟩ = some (vI ((obj S.O tk).sec))), (∀ F w, (ak (aN S.O L)).h F w → w.cell? ⟨(L.b tk), 3, none⟩ = some (vI ((obj S.O tk).gid))), (∀ F w, (ak (aN S.O L)).h F w → w.cell? ⟨(L.b tk), 2, none⟩ = some (vI ((obj S.O tk).uid))), (∀ F w, (ak (aN S.O L)).h F w → w.cell? ⟨(L.b tk), 1, none⟩ = some (vI ((obj S.O tk).mode))), (∀ F w, (ak (aN S.O L)).h F w → w.cell? ⟨(L.b tk), 0, none⟩ = some (vI ((obj S.O tk).id)))]) [0, 1, 2, 3, 4, 5, 6, 7, 8, 9, 10, 12, 13, 14, 15, 16, 17, 18, 19, 20, 21, 22, 23, 24, 25, 26, 27] [o_, o_, o_, o_, o_, o_, o_, o_, o_, ⟨[.view 0 (.int .i64 ((obj S.O tk).id))], none, none, none, none⟩, o_, o_, o_, o_, ⟨[.view 0 (.int .i64 ((obj S.O tk).mode))], none, none, none, none⟩, o_, o_, o_, ⟨[.view 0 (.int .i64 ((obj S.O tk).uid))], none, none, none, none⟩, o_, o_, o_, ⟨[.view 0 (.int .i64 ((obj S.O tk).gid))], none, none, none, none⟩, o_, o_, o_, ⟨[.view 0 (.int .i64 ((obj S.O tk).sec)), .view 0 (.int .i64 ((obj S.O tk).nano))], none, none, none, none⟩] [25, 26, 27, 28, 29, 30, 34, 35, 40, 44, 48, 52] (fun _ => by kernel_rfl) ⟨bn (by rw [hkt]; decide) (rfl), bn (by rw [hkt]; decide) (rfl), bn (by rw [hkt]; decide) (rfl), bn (by rw [hkt]; decide) (rfl), bn (by rw [hkt]; decide) (rfl), bn (by rw [hkt]; decide) (rfl), trivial⟩ rfl rfl ?_
  refine mL [0] [] (jC (vP (L.b tk))) ?_ (by rintro _ _ ⟨rfl, rfl⟩; rfl)
  rintro _ _ ⟨rfl, rfl⟩
  refine aF.cut (ι := Unit) (fr' := fun (_ : Unit) => (sG cb S tk ++ [(36, vI 1)] ++ kT S tk ++ [(53, vP cb)])) (hp' := fun (_ : Unit) => [pO S.O L, D6 cb c, .abs R]) [0] rfl rfl ?_ rfl (fun _ => by kernel_rfl) ?_
  ·refine gK 1 [(53, vP cb)] [] ?_
   refine NL ?_
   exact MD () [26, 27, 28, 29, 30, 34, 36, 40, 44, 48, 52, 53] [0, 1, 2]
  rintro _
  refine aF.cut (ι := Unit) (fr' := fun (_ : Unit) => (sG cb S tk ++ [(36, vI 1)] ++ kT S tk ++ [(54, .pointer (some ⟨cb, 12, none⟩))])) (hp' := fun (_ : Unit) => [pO S.O L, D6 cb c, .abs R]) [0] rfl rfl ?_ rfl (fun _ => by kernel_rfl) ?_
  ·refine gK 1 [(54, .pointer (some ⟨cb, 12, none⟩))] [] ?_
   refine NL ?_
   exact MD () [26, 27, 28, 29, 30, 34, 36, 40, 44, 48, 52, 54] [0, 1, 2]
  rintro _
  refine mC [0] [] [(0, a_ 1 cb)] [(1, [(12, vI ((obj S.O tk).id))])] ?_
  refine aF.cut (ι := Unit) (fr' := fun (_ : Unit) => ([(27, vP cb)] ++ nZ cb ++ [(36, vI 1)] ++ kT S tk ++ [(55, vP cb)])) (hp' := fun (_ : Unit) => [pO S.O L, D7 cb c S tk, .abs R]) [0] rfl rfl ?_ rfl (fun _ => by kernel_rfl) ?_
  ·refine gK 1 [(55, vP cb)] [] ?_
   refine NL ?_
   exact MD () [27, 28, 29, 30, 36, 40, 44, 48, 52, 55] [0, 1, 2]
  rintro _
  refine aF.cut (ι := Unit) (fr' := fun (_ : Unit) => ([(27, vP cb)] ++ nZ cb ++ [(36, vI 1)] ++ kT S tk ++ [(56, .pointer (some ⟨cb, 2, none⟩))])) (hp' := fun (_ : Unit) => [pO S.O L, D7 cb c S tk, .abs R]) [0] rfl rfl ?_ rfl (fun _ => by kernel_rfl) ?_
  ·refine gK 1 [(56, .pointer (some ⟨cb, 2, none⟩))] [] ?_
   refine NL ?_
   exact MD () [27, 28, 29, 30, 36, 40, 44, 48, 52, 56] [0, 1, 2]
  rintro _
  refine mC [0] [] [(0, a_ 1 cb)] [(1, [(2, vI 1)])] ?_
  refine aF.cut (ι := Unit) (fr' := fun (_ : Unit) => (nZ cb ++ kT S tk ++ [(57, vP cb)])) (hp' := fun (_ : Unit) => [pO S.O L, pC cb { c with other := 1, mode := 0, uid := 0, gid := 0, sec := 0, nano := 0, answer := (obj S.O tk).id }, .abs R]) [0] rfl rfl ?_ rfl (fun _ => by kernel_rfl) ?_
  ·refine gK 1 [(57, vP cb)] [] ?_
   refine NL ?_
   exact MD () [28, 29, 30, 40, 44, 48, 52, 57] [0, 1, 2]
  rintro _
  refine aF.cut (ι := Unit) (fr' := fun (_ : Unit) => (nZ cb ++ kT S tk ++ [(58, .pointer (some ⟨cb, 6, none⟩))])) (hp' := fun (_ : Unit) => [pO S.O L, pC cb { c with other := 1, mode := 0, uid := 0, gid := 0, sec := 0, nano := 0, answer := (obj S.O tk).id }, .abs R]) [0] rfl rfl ?_ rfl (fun _ => by kernel_rfl) ?_
  ·refine gK 1 [(58, .pointer (some ⟨cb, 6, none⟩))] [] ?_
   refine NL ?_
   exact MD () [28, 29, 30, 40, 44, 48, 52, 58] [0, 1, 2]
  rintro _
  refine mC [0] [] [(0, a_ 1 cb)] [(1, [(6, vI ((obj S.O tk).mode))])] ?_
  refine aF.cut (ι := Unit) (fr' := fun (_ : Unit) => (zA cb S tk ++ nX S tk ++ [(59, vP cb)])) (hp' := fun (_ : Unit) => [pO S.O L, pC cb { c with other := 1, mode := (obj S.O tk).mode, uid := 0, gid := 0, sec := 0, nano := 0, answer := (obj S.O tk).id }, .abs R]) [0] rfl rfl ?_ rfl (fun _ => by kernel_rfl) ?_
  ·refine gK 1 [(59, vP cb)] [] ?_
   refine NL ?_
   exact MD () [29, 30, 44, 48, 52, 59] [0, 1, 2]
  rintro _
  refine aF.cut (ι := Unit) (fr' := fun (_ : Unit) => (zA cb S tk ++ nX S tk ++ [(60, .pointer (some ⟨cb, 7, none⟩))])) (hp' := fun (_ : Unit) => [pO S.O L, pC cb { c with other := 1, mode := (obj S.O tk).mode, uid := 0, gid := 0, sec := 0, nano := 0, answer := (obj S.O tk).id }, .abs R]) [0] rfl rfl ?_ rfl (fun _ => by kernel_rfl) ?_
  ·refine gK 1 [(60, .pointer (some ⟨cb, 7, none⟩))] [] ?_
   refine NL ?_
   exact MD () [29, 30, 44, 48, 52, 60] [0, 1, 2]
  rintro _
  refine mC [0] [] [(0, a_ 1 cb)] [(1, [(7, vI ((obj S.O tk).uid))])] ?_
  refine aF.cut (ι := Unit) (fr' := fun (_ : Unit) => ([(30, vP cb)] ++ nX S tk ++ [(61, vP cb)])) (hp' := fun (_ : Unit) => [pO S.O L, NY cb c S tk, .abs R]) [0] rfl rfl ?_ rfl (fun _ => by kernel_rfl) ?_
  ·refine gK 1 [(61, vP cb)] [] ?_
   refine NL ?_
   exact MD () [30, 48, 52, 61] [0, 1, 2]
  rintro _
  refine aF.cut (ι := Unit) (fr' := fun (_ : Unit) => ([(30, vP cb)] ++ nX S tk ++ [(62, .pointer (some ⟨cb, 8, none⟩))])) (hp' := fun (_ : Unit) => [pO S.O L, NY cb c S tk, .abs R]) [0] rfl rfl ?_ rfl (fun _ => by kernel_rfl) ?_
  ·refine gK 1 [(62, .pointer (some ⟨cb, 8, none⟩))] [] ?_
   refine NL ?_
   exact MD () [30, 48, 52, 62] [0, 1, 2]
  rintro _
  refine mC [0] [] [(0, a_ 1 cb)] [(1, [(8, vI ((obj S.O tk).gid))])] ?_
  refine aF.cut (ι := Unit) (fr' := fun (_ : Unit) => [(52, .agg #[vI ((obj S.O tk).sec), vI ((obj S.O tk).nano)]), (63, vP cb)]) (hp' := fun (_ : Unit) => [pO S.O L, NZ cb c S tk, .abs R]) [0] rfl rfl ?_ rfl (fun _ => by kernel_rfl) ?_
  ·refine gK 1 [(63, vP cb)] [] ?_
   refine NL ?_
   exact MD () [52, 63] [0, 1, 2]
  rintro _
  refine aF.cut (ι := Unit) (fr' := fun (_ : Unit) => (IX S tk cb)) (hp' := fun (_ : Unit) => [pO S.O L, NZ cb c S tk, .abs R]) [0] rfl rfl ?_ rfl (fun _ => by kernel_rfl) ?_
  ·refine gK 1 [(64, .pointer (some ⟨cb, 9, none⟩))] [] ?_
   refine NL ?_
   exact MD () [52, 64] [0, 1, 2]
  rintro _
  refine aF.last rfl rfl ?_
  refine gC 1 [] [(0, A_ 1 cb 2)] [(1, (I0 S tk))] ?_
  refine NL (ai.np ?_)
  exact RF (.tuple #[]) [0, 1, 2] (⟨rfl, rfl⟩)
 ·have hkt : (obj S.O tk).kind = 2 := hI.kind hlv
  refine af.region ?_
  refine gC 21 [] [(8, a_ 1 cb), (11, a_ 1 cb), (14, a_ 1 cb), (17, a_ 1 cb), (20, A_ 1 cb 2)] [(1, (EV))] ?_
  refine NN (af.seq (SR ?_))
  refine gK 2 [(22, .bool false)] [] ?_
  refine NN ?_
  refine CF ?_
  refine af.skip (NX (SR ?_))
  refine gK 1 [(23, .iface 96 (vP (L.b tk)))] [] ?_
  refine gL [] (cr (L.b tk)) ?_
  rintro _ _ ⟨rfl, rfl⟩
  refine gK 1 [(4, vP (L.b tk))] [] ?_
  refine NN ?_
  refine af.bZ (S := [pO S.O L]) [0, 1, 2, 3, 4, 5, 6, 7, 8, 9, 10, 12, 13, 14, 15, 16, 17, 18, 19, 20, 21, 22, 23, 24, 25, 26, 27, 11, 28, 29, 30, 31, 32, 33, 34, 35, 36, 37, 38, 39, 40, 41, 42, 43, 44, 45] 27 [0] (by kernel_rfl) (by kernel_rfl) rfl (by kernel_rfl) ?_
  refine aF.reads (r := 0) (l := [11, 28, 29, 30, 31, 32, 33, 34, 35, 36, 37, 38, 39, 40, 41, 42, 43, 44, 45]) (fr' := ([(25, vP cb)] ++ sG cb S tk ++ [(35, .iface 96 (vP (L.b tk)))] ++ kT S tk)) (aV := [(∀ F w, (ak (aN S.O L)).h F w → w.cell? ⟨(L.b tk), 5, none⟩ = some (vI ((obj S.O tk).nano))), (∀ F w, (ak (aN S.O L)).h F w → w.cell? ⟨(L.b tk), 4, none⟩ = some (vI ((obj S.O tk).sec))), (∀ F w, (ak (aN S.O L)).h F w → w.cell? ⟨(L.b tk), 3, none⟩ = some (vI ((obj S.O tk).gid))), (∀ F w, (ak (aN S.O L)).h F w → w.cell? ⟨(L.b tk), 2, none⟩ = some (vI ((obj S.O tk).uid))), (∀ F w, (ak (aN S.O L)).h F w → w.cell? ⟨(L.b tk), 1, none⟩ = some (vI ((obj S.O tk).mode))), (∀ F w, (ak (aN S.O L)).h F w → w.cell? ⟨(L.b tk), 0, none⟩ = some (vI ((obj S.O tk).id)))]) [0, 1, 2, 3, 4, 5, 6, 7, 8, 9, 10, 12, 13, 14, 15, 16, 17, 18, 19, 20, 21, 22, 23, 24, 25, 26, 27] [o_, o_, o_, o_, o_, o_, o_, o_, o_, ⟨[.view 0 (.int .i64 ((obj S.O tk).id))], none, none, none, none⟩, o_, o_, o_, o_, ⟨[.view 0 (.int .i64 ((obj S.O tk).mode))], none, none, none, none⟩, o_, o_, o_, ⟨[.view 0 (.int .i64 ((obj S.O tk).uid))], none, none, none, none⟩, o_, o_, o_, ⟨[.view 0 (.int .i64 ((obj S.O tk).gid))], none, none, none, none⟩, o_, o_, o_, ⟨[.view 0 (.int .i64 ((obj S.O tk).sec)), .view 0 (.int .i64 ((obj S.O tk).nano))], none, none, none, none⟩] [25, 26, 27, 28, 29, 30, 34, 35, 40, 44, 48, 52] (fun _ => by kernel_rfl) ⟨bn (by rw [hkt]; decide) (rfl), bn (by rw [hkt]; decide) (rfl), bn (by rw [hkt]; decide) (rfl), bn (by rw [hkt]; decide) (rfl), bn (by rw [hkt]; decide) (rfl), bn (by rw [hkt]; decide) (rfl), trivial⟩ rfl rfl ?_
  refine mL [0] [] (jD (vP (L.b tk))) ?_ (by rintro _ _ ⟨rfl, rfl⟩; rfl)
  rintro _ _ ⟨rfl, rfl⟩
  refine aF.cut (ι := Unit) (fr' := fun (_ : Unit) => (sG cb S tk ++ [(36, vI 2)] ++ kT S tk ++ [(53, vP cb)])) (hp' := fun (_ : Unit) => [pO S.O L, D6 cb c, .abs R]) [0] rfl rfl ?_ rfl (fun _ => by kernel_rfl) ?_
  ·refine gK 1 [(53, vP cb)] [] ?_
   refine NL ?_
   exact MD () [26, 27, 28, 29, 30, 34, 36, 40, 44, 48, 52, 53] [0, 1, 2]
  rintro _
  refine aF.cut (ι := Unit) (fr' := fun (_ : Unit) => (sG cb S tk ++ [(36, vI 2)] ++ kT S tk ++ [(54, .pointer (some ⟨cb, 12, none⟩))])) (hp' := fun (_ : Unit) => [pO S.O L, D6 cb c, .abs R]) [0] rfl rfl ?_ rfl (fun _ => by kernel_rfl) ?_
  ·refine gK 1 [(54, .pointer (some ⟨cb, 12, none⟩))] [] ?_
   refine NL ?_
   exact MD () [26, 27, 28, 29, 30, 34, 36, 40, 44, 48, 52, 54] [0, 1, 2]
  rintro _
  refine mC [0] [] [(0, a_ 1 cb)] [(1, [(12, vI ((obj S.O tk).id))])] ?_
  refine aF.cut (ι := Unit) (fr' := fun (_ : Unit) => ([(27, vP cb)] ++ nZ cb ++ [(36, vI 2)] ++ kT S tk ++ [(55, vP cb)])) (hp' := fun (_ : Unit) => [pO S.O L, D7 cb c S tk, .abs R]) [0] rfl rfl ?_ rfl (fun _ => by kernel_rfl) ?_
  ·refine gK 1 [(55, vP cb)] [] ?_
   refine NL ?_
   exact MD () [27, 28, 29, 30, 36, 40, 44, 48, 52, 55] [0, 1, 2]
  rintro _
  refine aF.cut (ι := Unit) (fr' := fun (_ : Unit) => ([(27, vP cb)] ++ nZ cb ++ [(36, vI 2)] ++ kT S tk ++ [(56, .pointer (some ⟨cb, 2, none⟩))])) (hp' := fun (_ : Unit) => [pO S.O L, D7 cb c S tk, .abs R]) [0] rfl rfl ?_ rfl (fun _ => by kernel_rfl) ?_
  ·refine gK 1 [(56, .pointer (some ⟨cb, 2, none⟩))] [] ?_
   refine NL ?_
   exact MD () [27, 28, 29, 30, 36, 40, 44, 48, 52, 56] [0, 1, 2]
  rintro _
  refine mC [0] [] [(0, a_ 1 cb)] [(1, [(2, vI 2)])] ?_
  refine aF.cut (ι := Unit) (fr' := fun (_ : Unit) => (nZ cb ++ kT S tk ++ [(57, vP cb)])) (hp' := fun (_ : Unit) => [pO S.O L, pC cb { c with other := 2, mode := 0, uid := 0, gid := 0, sec := 0, nano := 0, answer := (obj S.O tk).id }, .abs R]) [0] rfl rfl ?_ rfl (fun _ => by kernel_rfl) ?_
  ·refine gK 1 [(57, vP cb)] [] ?_
   refine NL ?_
   exact MD () [28, 29, 30, 40, 44, 48, 52, 57] [0, 1, 2]
  rintro _
  refine aF.cut (ι := Unit) (fr' := fun (_ : Unit) => (nZ cb ++ kT S tk ++ [(58, .pointer (some ⟨cb, 6, none⟩))])) (hp' := fun (_ : Unit) => [pO S.O L, pC cb { c with other := 2, mode := 0, uid := 0, gid := 0, sec := 0, nano := 0, answer := (obj S.O tk).id }, .abs R]) [0] rfl rfl ?_ rfl (fun _ => by kernel_rfl) ?_
  ·refine gK 1 [(58, .pointer (some ⟨cb, 6, none⟩))] [] ?_
   refine NL ?_
   exact MD () [28, 29, 30, 40, 44, 48, 52, 58] [0, 1, 2]
  rintro _
  refine mC [0] [] [(0, a_ 1 cb)] [(1, [(6, vI ((obj S.O tk).mode))])] ?_
  refine aF.cut (ι := Unit) (fr' := fun (_ : Unit) => (zA cb S tk ++ nX S tk ++ [(59, vP cb)])) (hp' := fun (_ : Unit) => [pO S.O L, pC cb { c with other := 2, mode := (obj S.O tk).mode, uid := 0, gid := 0, sec := 0, nano := 0, answer := (obj S.O tk).id }, .abs R]) [0] rfl rfl ?_ rfl (fun _ => by kernel_rfl) ?_
  ·refine gK 1 [(59, vP cb)] [] ?_
   refine NL ?_
   exact MD () [29, 30, 44, 48, 52, 59] [0, 1, 2]
  rintro _
  refine aF.cut (ι := Unit) (fr' := fun (_ : Unit) => (zA cb S tk ++ nX S tk ++ [(60, .pointer (some ⟨cb, 7, none⟩))])) (hp' := fun (_ : Unit) => [pO S.O L, pC cb { c with other := 2, mode := (obj S.O tk).mode, uid := 0, gid := 0, sec := 0, nano := 0, answer := (obj S.O tk).id }, .abs R]) [0] rfl rfl ?_ rfl (fun _ => by kernel_rfl) ?_
  ·refine gK 1 [(60, .pointer (some ⟨cb, 7, none⟩))] [] ?_
   refine NL ?_
   exact MD () [29, 30, 44, 48, 52, 60] [0, 1, 2]
  rintro _
  refine mC [0] [] [(0, a_ 1 cb)] [(1, [(7, vI ((obj S.O tk).uid))])] ?_
  refine aF.cut (ι := Unit) (fr' := fun (_ : Unit) => ([(30, vP cb)] ++ nX S tk ++ [(61, vP cb)])) (hp' := fun (_ : Unit) => [pO S.O L, N0 cb c S tk, .abs R]) [0] rfl rfl ?_ rfl (fun _ => by kernel_rfl) ?_
  ·refine gK 1 [(61, vP cb)] [] ?_
   refine NL ?_
   exact MD () [30, 48, 52, 61] [0, 1, 2]
  rintro _
  refine aF.cut (ι := Unit) (fr' := fun (_ : Unit) => ([(30, vP cb)] ++ nX S tk ++ [(62, .pointer (some ⟨cb, 8, none⟩))])) (hp' := fun (_ : Unit) => [pO S.O L, N0 cb c S tk, .abs R]) [0] rfl rfl ?_ rfl (fun _ => by kernel_rfl) ?_
  ·refine gK 1 [(62, .pointer (some ⟨cb, 8, none⟩))] [] ?_
   refine NL ?_
   exact MD () [30, 48, 52, 62] [0, 1, 2]
  rintro _
  refine mC [0] [] [(0, a_ 1 cb)] [(1, [(8, vI ((obj S.O tk).gid))])] ?_
  refine aF.cut (ι := Unit) (fr' := fun (_ : Unit) => [(52, .agg #[vI ((obj S.O tk).sec), vI ((obj S.O tk).nano)]), (63, vP cb)]) (hp' := fun (_ : Unit) => [pO S.O L, N7 cb c S tk, .abs R]) [0] rfl rfl ?_ rfl (fun _ => by kernel_rfl) ?_
  ·refine gK 1 [(63, vP cb)] [] ?_
   refine NL ?_
   exact MD () [52, 63] [0, 1, 2]
  rintro _
  refine aF.cut (ι := Unit) (fr' := fun (_ : Unit) => (IX S tk cb)) (hp' := fun (_ : Unit) => [pO S.O L, N7 cb c S tk, .abs R]) [0] rfl rfl ?_ rfl (fun _ => by kernel_rfl) ?_
  ·refine gK 1 [(64, .pointer (some ⟨cb, 9, none⟩))] [] ?_
   refine NL ?_
   exact MD () [52, 64] [0, 1, 2]
  rintro _
  refine aF.last rfl rfl ?_
  refine gC 1 [] [(0, A_ 1 cb 2)] [(1, (I0 S tk))] ?_
  refine NL (ai.np ?_)
  exact RF (.tuple #[]) [0, 1, 2] (⟨rfl, rfl⟩)
 have hkt : (obj S.O tk).kind = 3 := hI.kind hlv
 refine af.region ?_
 refine gC 21 [] [(8, a_ 1 cb), (11, a_ 1 cb), (14, a_ 1 cb), (17, a_ 1 cb), (20, A_ 1 cb 2)] [(1, (EV))] ?_
 refine NN (af.seq (SR ?_))
 refine gK 2 [(22, .bool false)] [] ?_
 refine NN ?_
 refine CF ?_
 refine af.skip (NX (SR ?_))
 refine gK 1 [(23, .iface 93 (vP (L.b tk)))] [] ?_
 refine gL [] (cr (L.b tk)) ?_
 rintro _ _ ⟨rfl, rfl⟩
 refine gK 1 [(4, vP (L.b tk))] [] ?_
 refine NN ?_
 refine af.bZ (S := [pO S.O L]) [0, 1, 2, 3, 4, 5, 6, 7, 8, 9, 10, 12, 13, 14, 15, 16, 17, 18, 19, 20, 21, 22, 23, 24, 25, 26, 27, 11, 28, 29, 30, 31, 32, 33, 34, 35, 36, 37, 38, 39, 40, 41, 42, 43, 44, 45] 27 [0] (by kernel_rfl) (by kernel_rfl) rfl (by kernel_rfl) ?_
 refine aF.reads (r := 0) (l := [11, 28, 29, 30, 31, 32, 33, 34, 35, 36, 37, 38, 39, 40, 41, 42, 43, 44, 45]) (fr' := ([(25, vP cb)] ++ sG cb S tk ++ [(35, .iface 93 (vP (L.b tk)))] ++ kT S tk)) (aV := [(∀ F w, (ak (aN S.O L)).h F w → w.cell? ⟨(L.b tk), 5, none⟩ = some (vI ((obj S.O tk).nano))), (∀ F w, (ak (aN S.O L)).h F w → w.cell? ⟨(L.b tk), 4, none⟩ = some (vI ((obj S.O tk).sec))), (∀ F w, (ak (aN S.O L)).h F w → w.cell? ⟨(L.b tk), 3, none⟩ = some (vI ((obj S.O tk).gid))), (∀ F w, (ak (aN S.O L)).h F w → w.cell? ⟨(L.b tk), 2, none⟩ = some (vI ((obj S.O tk).uid))), (∀ F w, (ak (aN S.O L)).h F w → w.cell? ⟨(L.b tk), 1, none⟩ = some (vI ((obj S.O tk).mode))), (∀ F w, (ak (aN S.O L)).h F w → w.cell? ⟨(L.b tk), 0, none⟩ = some (vI ((obj S.O tk).id)))]) [0, 1, 2, 3, 4, 5, 6, 7, 8, 9, 10, 12, 13, 14, 15, 16, 17, 18, 19, 20, 21, 22, 23, 24, 25, 26, 27] [o_, o_, o_, o_, o_, o_, o_, o_, o_, ⟨[.view 0 (.int .i64 ((obj S.O tk).id))], none, none, none, none⟩, o_, o_, o_, o_, ⟨[.view 0 (.int .i64 ((obj S.O tk).mode))], none, none, none, none⟩, o_, o_, o_, ⟨[.view 0 (.int .i64 ((obj S.O tk).uid))], none, none, none, none⟩, o_, o_, o_, ⟨[.view 0 (.int .i64 ((obj S.O tk).gid))], none, none, none, none⟩, o_, o_, o_, ⟨[.view 0 (.int .i64 ((obj S.O tk).sec)), .view 0 (.int .i64 ((obj S.O tk).nano))], none, none, none, none⟩] [25, 26, 27, 28, 29, 30, 34, 35, 40, 44, 48, 52] (fun _ => by kernel_rfl) ⟨bn (by rw [hkt]; decide) (rfl), bn (by rw [hkt]; decide) (rfl), bn (by rw [hkt]; decide) (rfl), bn (by rw [hkt]; decide) (rfl), bn (by rw [hkt]; decide) (rfl), bn (by rw [hkt]; decide) (rfl), trivial⟩ rfl rfl ?_
 refine mL [0] [] (j7 (vP (L.b tk))) ?_ (by rintro _ _ ⟨rfl, rfl⟩; rfl)
 rintro _ _ ⟨rfl, rfl⟩
 refine aF.cut (ι := Unit) (fr' := fun (_ : Unit) => (sG cb S tk ++ [(36, vI 3)] ++ kT S tk ++ [(53, vP cb)])) (hp' := fun (_ : Unit) => [pO S.O L, D6 cb c, .abs R]) [0] rfl rfl ?_ rfl (fun _ => by kernel_rfl) ?_
 ·refine gK 1 [(53, vP cb)] [] ?_
  refine NL ?_
  exact MD () [26, 27, 28, 29, 30, 34, 36, 40, 44, 48, 52, 53] [0, 1, 2]
 rintro _
 refine aF.cut (ι := Unit) (fr' := fun (_ : Unit) => (sG cb S tk ++ [(36, vI 3)] ++ kT S tk ++ [(54, .pointer (some ⟨cb, 12, none⟩))])) (hp' := fun (_ : Unit) => [pO S.O L, D6 cb c, .abs R]) [0] rfl rfl ?_ rfl (fun _ => by kernel_rfl) ?_
 ·refine gK 1 [(54, .pointer (some ⟨cb, 12, none⟩))] [] ?_
  refine NL ?_
  exact MD () [26, 27, 28, 29, 30, 34, 36, 40, 44, 48, 52, 54] [0, 1, 2]
 rintro _
 refine mC [0] [] [(0, a_ 1 cb)] [(1, [(12, vI ((obj S.O tk).id))])] ?_
 refine aF.cut (ι := Unit) (fr' := fun (_ : Unit) => ([(27, vP cb)] ++ nZ cb ++ [(36, vI 3)] ++ kT S tk ++ [(55, vP cb)])) (hp' := fun (_ : Unit) => [pO S.O L, D7 cb c S tk, .abs R]) [0] rfl rfl ?_ rfl (fun _ => by kernel_rfl) ?_
 ·refine gK 1 [(55, vP cb)] [] ?_
  refine NL ?_
  exact MD () [27, 28, 29, 30, 36, 40, 44, 48, 52, 55] [0, 1, 2]
 rintro _
 refine aF.cut (ι := Unit) (fr' := fun (_ : Unit) => ([(27, vP cb)] ++ nZ cb ++ [(36, vI 3)] ++ kT S tk ++ [(56, .pointer (some ⟨cb, 2, none⟩))])) (hp' := fun (_ : Unit) => [pO S.O L, D7 cb c S tk, .abs R]) [0] rfl rfl ?_ rfl (fun _ => by kernel_rfl) ?_
 ·refine gK 1 [(56, .pointer (some ⟨cb, 2, none⟩))] [] ?_
  refine NL ?_
  exact MD () [27, 28, 29, 30, 36, 40, 44, 48, 52, 56] [0, 1, 2]
 rintro _
 refine mC [0] [] [(0, a_ 1 cb)] [(1, [(2, vI 3)])] ?_
 refine aF.cut (ι := Unit) (fr' := fun (_ : Unit) => (nZ cb ++ kT S tk ++ [(57, vP cb)])) (hp' := fun (_ : Unit) => [pO S.O L, pC cb { c with other := 3, mode := 0, uid := 0, gid := 0, sec := 0, nano := 0, answer := (obj S.O tk).id }, .abs R]) [0] rfl rfl ?_ rfl (fun _ => by kernel_rfl) ?_
 ·refine gK 1 [(57, vP cb)] [] ?_
  refine NL ?_
  exact MD () [28, 29, 30, 40, 44, 48, 52, 57] [0, 1, 2]
 rintro _
 refine aF.cut (ι := Unit) (fr' := fun (_ : Unit) => (nZ cb ++ kT S tk ++ [(58, .pointer (some ⟨cb, 6, none⟩))])) (hp' := fun (_ : Unit) => [pO S.O L, pC cb { c with other := 3, mode := 0, uid := 0, gid := 0, sec := 0, nano := 0, answer := (obj S.O tk).id }, .abs R]) [0] rfl rfl ?_ rfl (fun _ => by kernel_rfl) ?_
 ·refine gK 1 [(58, .pointer (some ⟨cb, 6, none⟩))] [] ?_
  refine NL ?_
  exact MD () [28, 29, 30, 40, 44, 48, 52, 58] [0, 1, 2]
 rintro _
 refine mC [0] [] [(0, a_ 1 cb)] [(1, [(6, vI ((obj S.O tk).mode))])] ?_
 refine aF.cut (ι := Unit) (fr' := fun (_ : Unit) => (zA cb S tk ++ nX S tk ++ [(59, vP cb)])) (hp' := fun (_ : Unit) => [pO S.O L, pC cb { c with other := 3, mode := (obj S.O tk).mode, uid := 0, gid := 0, sec := 0, nano := 0, answer := (obj S.O tk).id }, .abs R]) [0] rfl rfl ?_ rfl (fun _ => by kernel_rfl) ?_
 ·refine gK 1 [(59, vP cb)] [] ?_
  refine NL ?_
  exact MD () [29, 30, 44, 48, 52, 59] [0, 1, 2]
 rintro _
 refine aF.cut (ι := Unit) (fr' := fun (_ : Unit) => (zA cb S tk ++ nX S tk ++ [(60, .pointer (some ⟨cb, 7, none⟩))])) (hp' := fun (_ : Unit) => [pO S.O L, pC cb { c with other := 3, mode := (obj S.O tk).mode, uid := 0, gid := 0, sec := 0, nano := 0, answer := (obj S.O tk).id }, .abs R]) [0] rfl rfl ?_ rfl (fun _ => by kernel_rfl) ?_
 ·refine gK 1 [(60, .pointer (some ⟨cb, 7, none⟩))] [] ?_
  refine NL ?_
  exact MD () [29, 30, 44, 48, 52, 60] [0, 1, 2]
 rintro _
 refine mC [0] [] [(0, a_ 1 cb)] [(1, [(7, vI ((obj S.O tk).uid))])] ?_
 refine aF.cut (ι := Unit) (fr' := fun (_ : Unit) => ([(30, vP cb)] ++ nX S tk ++ [(61, vP cb)])) (hp' := fun (_ : Unit) => [pO S.O L, N8 cb c S tk, .abs R]) [0] rfl rfl ?_ rfl (fun _ => by kernel_rfl) ?_
 ·refine gK 1 [(61, vP cb)] [] ?_
  refine NL ?_
  exact MD () [30, 48, 52, 61] [0, 1, 2]
 rintro _
 refine aF.cut (ι := Unit) (fr' := fun (_ : Unit) => ([(30, vP cb)] ++ nX S tk ++ [(62, .pointer (some ⟨cb, 8, none⟩))])) (hp' := fun (_ : Unit) => [pO S.O L, N8 cb c S tk, .abs R]) [0] rfl rfl ?_ rfl (fun _ => by kernel_rfl) ?_
 ·refine gK 1 [(62, .pointer (some ⟨cb, 8, none⟩))] [] ?_
  refine NL ?_
  exact MD () [30, 48, 52, 62] [0, 1, 2]
 rintro _
 refine mC [0] [] [(0, a_ 1 cb)] [(1, [(8, vI ((obj S.O tk).gid))])] ?_
 refine aF.cut (ι := Unit) (fr' := fun (_ : Unit) => [(52, .agg #[vI ((obj S.O tk).sec), vI ((obj S.O tk).nano)]), (63, vP cb)]) (hp' := fun (_ : Unit) => [pO S.O L, N9 cb c S tk, .abs R]) [0] rfl rfl ?_ rfl (fun _ => by kernel_rfl) ?_
 ·refine gK 1 [(63, vP cb)] [] ?_
  refine NL ?_
  exact MD () [52, 63] [0, 1, 2]
 rintro _
 refine aF.cut (ι := Unit) (fr' := fun (_ : Unit) => (IX S tk cb)) (hp' := fun (_ : Unit) => [pO S.O L, N9 cb c S tk, .abs R]) [0] rfl rfl ?_ rfl (fun _ => by kernel_rfl) ?_
 ·refine gK 1 [(64, .pointer (some ⟨cb, 9, none⟩))] [] ?_
  refine NL ?_
  exact MD () [52, 64] [0, 1, 2]
 rintro _
 refine aF.last rfl rfl ?_
 refine gC 1 [] [(0, A_ 1 cb 2)] [(1, (I0 S tk))] ?_
 refine NL (ai.np ?_)
 exact RF (.tuple #[]) [0, 1, 2] (⟨rfl, rfl⟩)
theorem EZ {β : Bs} (S : aE) (L : HL) (f m t : Nat) (hI : Inv S) (cb : Nat) (c : aT) (hC : fD β c) :
    Spec Tryz.prog β 88 #[vP f, vP cb] ((pA f m t L S) ++ [pC cb c]) (fun v l => ∃ L2, v = vI (jB S c).1 ∧ l = ((pA f m t L2 ((jB S c).2.1)) ++ [.blk cb (fV ((jB S c).2.2)) 43])) := by
 have hX := hI.hX
 refine Spec.enter Tryz.func88 rfl Tryz.ntmps88 (Nat.le_of_ble_eq_true rfl) (fun R => ?_)
 refine af.seq ?_
 rcases hI.hand c.handle with cE | ⟨tk, cE, hlv⟩ | ⟨tk, cE, hlv⟩
 ·refine af.region ?_
  refine gK 1 [] [] ?_
  refine NN (af.seq ?_)
  refine af.bG (by kernel_rfl) (by kernel_rfl) ?_
  refine gQ 8 (IZ t c) [(3, a_ 0 f), (7, a_ 6 cb)] ?_
  refine aS.call (f := 136) (args := #[vP t, vI (c.handle)]) (d := (some 16)) (pre := [jI t S L]) (R := (nY f m t S L cb c R)) (pk := [2, 0, 1, 3, 4, 5, 6, 7]) (gF := [1, 2, 0, 3, 4, 5, 6, 7]) (v0 := .tuple #[.nilIface, vI 131]) (fun _ => by kernel_rfl) (nK t S.X.cH S.aq (aJ L S.us) c.handle hC.hw (mU cE)) rfl (by kernel_rfl) rfl (by kernel_rfl) (fun _ _ h => h) ?_
  refine gQ 5 [(5, .nilIface), (6, vI 131)] [] ?_
  refine NQ (NX (SR ?_))
  refine gK 2 [(19, vP cb), (20, .nilIface)] [] ?_
  refine gL [3, 6] (lC S L hI cb c none (.inl rfl)) ?_
  rintro _ _ ⟨rfl, rfl⟩
  refine NS ?_
  refine gK 2 [(4, vI 131)] [] ?_
  refine NN (af.ret ?_)
  exact RT (vI 131) [2, 3, 4, 0, 5, 6, 1, 7] (⟨L, by rw [show (jB S c) = (131, S, ld S.O c none) by unfold jB; rw [cE]] <;> exact ⟨rfl, rfl⟩⟩)
 ·have hkt : (obj S.O tk).kind = 1 := hI.kind hlv
  refine af.region ?_
  refine gK 1 [] [] ?_
  refine NN (af.seq ?_)
  refine af.bG (by kernel_rfl) (by kernel_rfl) ?_
  refine gQ 8 (IZ t c) [(3, a_ 0 f), (7, a_ 6 cb)] ?_
  refine aS.call (f := 136) (args := #[vP t, vI (c.handle)]) (d := (some 16)) (pre := [jI t S L]) (R := (nY f m t S L cb c R)) (pk := [2, 0, 1, 3, 4, 5, 6, 7]) (gF := [1, 2, 0, 3, 4, 5, 6, 7]) (v0 := .tuple #[.iface 89 (vP (L.b tk)), vI 0]) (fun _ => by kernel_rfl) (jA t S.X.cH S.aq (aJ L S.us) c.handle hC.hw (cF L ⟨tk, 1⟩) (iT cE)) rfl (by kernel_rfl) rfl (by kernel_rfl) (fun _ _ h => h) ?_
  refine gQ 5 (EW L tk) [] ?_
  refine NQ (NX (SR ?_))
  refine gK 2 [(19, vP cb), (20, .iface 89 (vP (L.b tk)))] [] ?_
  refine gL [3, 6] (lC S L hI cb c (some ⟨tk, 1⟩) (.inr (.inl ⟨tk, rfl, hlv⟩))) ?_
  rintro _ _ ⟨rfl, rfl⟩
  refine NS ?_
  refine gK 2 [(4, vI 0)] [] ?_
  refine NN (af.ret ?_)
  exact RT (vI 0) [2, 3, 4, 0, 5, 6, 1, 7] (⟨L, by rw [show (jB S c) = (0, S, ld S.O c (some ⟨tk, 1⟩)) by unfold jB; rw [cE]] <;> exact ⟨rfl, rfl⟩⟩)
 have hkt : (obj S.O tk).kind = 2 := hI.kind hlv
 refine af.region ?_
 refine gK 1 [] [] ?_
 refine NN (af.seq ?_)
 refine af.bG (by kernel_rfl) (by kernel_rfl) ?_
 refine gQ 8 (IZ t c) [(3, a_ 0 f), (7, a_ 6 cb)] ?_
 refine aS.call (f := 136) (args := #[vP t, vI (c.handle)]) (d := (some 16)) (pre := [jI t S L]) (R := (nY f m t S L cb c R)) (pk := [2, 0, 1, 3, 4, 5, 6, 7]) (gF := [1, 2, 0, 3, 4, 5, 6, 7]) (v0 := .tuple #[.iface 96 (vP (L.b tk)), vI 0]) (fun _ => by kernel_rfl) (jA t S.X.cH S.aq (aJ L S.us) c.handle hC.hw (cF L ⟨tk, 2⟩) (iT cE)) rfl (by kernel_rfl) rfl (by kernel_rfl) (fun _ _ h => h) ?_
 refine gQ 5 (EX L tk) [] ?_
 refine NQ (NX (SR ?_))
 refine gK 2 [(19, vP cb), (20, .iface 96 (vP (L.b tk)))] [] ?_
 refine gL [3, 6] (lC S L hI cb c (some ⟨tk, 2⟩) (.inr (.inr (.inl ⟨tk, rfl, hlv⟩)))) ?_
 rintro _ _ ⟨rfl, rfl⟩
 refine NS ?_
 refine gK 2 [(4, vI 0)] [] ?_
 refine NN (af.ret ?_)
 exact RT (vI 0) [2, 3, 4, 0, 5, 6, 1, 7] (⟨L, by rw [show (jB S c) = (0, S, ld S.O c (some ⟨tk, 2⟩)) by unfold jB; rw [cE]] <;> exact ⟨rfl, rfl⟩⟩)
theorem CH {β : Bs} (S : aE) (L : HL) (f m t : Nat) (hI : Inv S) (cb : Nat) (c : aT) (hC : fD β c) :
    Spec Tryz.prog β 89 #[vP f, vP cb] ((pA f m t L S) ++ [pC cb c]) (fun v l => ∃ L2, v = vI (fB S c).1 ∧ l = ((pA f m t L2 ((fB S c).2.1)) ++ [.blk cb (fV ((fB S c).2.2)) 43])) := by
 have hX := hI.hX
 refine Spec.enter Tryz.func89 rfl Tryz.ntmps89 (Nat.le_of_ble_eq_true rfl) (fun R => ?_)
 refine SR ?_
 refine gK 1 [] [] ?_
 refine NS ?_
 refine gK 2 [(8, vP f), (9, vP cb)] [] ?_
 rcases xP hI.toInv0 c with ⟨e, hnm, hne⟩ | ⟨tk, hnm, hlv⟩ | ⟨tk, hnm, hlv⟩ | ⟨tk, hnm, hlv⟩
 ·refine gL (f := 133) (args := #[vP f, vP cb]) (pre := ((pA f m t L S) ++ [pC cb c])) [0, 1, 2, 3, 4, 5, 6] ((by have h := fR S L f m t hI cb c hC (β := β); rw [hnm] at h; exact h)) ?_
  rintro _ _ ⟨rfl, rfl⟩
  refine gK 5 [(5, .nilIface), (6, vI (e))] [] ?_
  refine NS ?_
  refine gK 2 [(13, vP cb), (14, .nilIface)] [] ?_
  refine gL [3, 6] (lC S L hI cb c none (.inl rfl)) ?_
  rintro _ _ ⟨rfl, rfl⟩
  refine NS ?_
  refine gK 2 [(4, vI (e))] [] ?_
  refine NN (af.ret ?_)
  exact RT (vI (e)) [2, 3, 4, 0, 5, 6, 1, 7] (⟨L, by rw [show (fB S c) = (e, S, ld S.O c none) by unfold fB; rw [hnm]] <;> exact ⟨rfl, rfl⟩⟩)
 ·have hkt : (obj S.O tk).kind = 1 := hI.kind hlv
  refine gL (f := 133) (args := #[vP f, vP cb]) (pre := ((pA f m t L S) ++ [pC cb c])) [0, 1, 2, 3, 4, 5, 6] ((by have h := fR S L f m t hI cb c hC (β := β); rw [hnm] at h; exact h)) ?_
  rintro _ _ ⟨rfl, rfl⟩
  refine gK 5 (EW L tk) [] ?_
  refine NS ?_
  refine gK 2 [(13, vP cb), (14, .iface 89 (vP (L.b tk)))] [] ?_
  refine gL [3, 6] (lC S L hI cb c (some ⟨tk, 1⟩) (.inr (.inl ⟨tk, rfl, hlv⟩))) ?_
  rintro _ _ ⟨rfl, rfl⟩
  refine NS ?_
  refine gK 2 [(4, vI 0)] [] ?_
  refine NN (af.ret ?_)
  exact RT (vI 0) [2, 3, 4, 0, 5, 6, 1, 7] (⟨L, by rw [show (fB S c) = (0, S, ld S.O c (some ⟨tk, 1⟩)) by unfold fB; rw [hnm]] <;> exact ⟨rfl, rfl⟩⟩)
 ·have hkt : (obj S.O tk).kind = 2 := hI.kind hlv
  refine gL (f := 133) (args := #[vP f, vP cb]) (pre := ((pA f m t L S) ++ [pC cb c])) [0, 1, 2, 3, 4, 5, 6] ((by have h := fR S L f m t hI cb c hC (β := β); rw [hnm] at h; exact h)) ?_
  rintro _ _ ⟨rfl, rfl⟩
  refine gK 5 (EX L tk) [] ?_
  refine NS ?_
  refine gK 2 [(13, vP cb), (14, .iface 96 (vP (L.b tk)))] [] ?_
  refine gL [3, 6] (lC S L hI cb c (some ⟨tk, 2⟩) (.inr (.inr (.inl ⟨tk, rfl, hlv⟩)))) ?_
  rintro _ _ ⟨rfl, rfl⟩
  refine NS ?_
  refine gK 2 [(4, vI 0)] [] ?_
  refine NN (af.ret ?_)
  exact RT (vI 0) [2, 3, 4, 0, 5, 6, 1, 7] (⟨L, by rw [show (fB S c) = (0, S, ld S.O c (some ⟨tk, 2⟩)) by unfold fB; rw [hnm]] <;> exact ⟨rfl, rfl⟩⟩)
 have hkt : (obj S.O tk).kind = 3 := hI.kind hlv
 refine gL (f := 133) (args := #[vP f, vP cb]) (pre := ((pA f m t L S) ++ [pC cb c])) [0, 1, 2, 3, 4, 5, 6] ((by have h := fR S L f m t hI cb c hC (β := β); rw [hnm] at h; exact h)) ?_
 rintro _ _ ⟨rfl, rfl⟩
 refine gK 5 [(5, .iface 93 (vP (L.b tk))), (6, vI 0)] [] ?_
 refine NS ?_
 refine gK 2 [(13, vP cb), (14, .iface 93 (vP (L.b tk)))] [] ?_
 refine gL [3, 6] (lC S L hI cb c (some ⟨tk, 3⟩) (.inr (.inr (.inr ⟨tk, rfl, hlv⟩)))) ?_
 rintro _ _ ⟨rfl, rfl⟩
 refine NS ?_
 refine gK 2 [(4, vI 0)] [] ?_
 refine NN (af.ret ?_)
 exact RT (vI 0) [2, 3, 4, 0, 5, 6, 1, 7] (⟨L, by rw [show (fB S c) = (0, S, ld S.O c (some ⟨tk, 3⟩)) by unfold fB; rw [hnm]] <;> exact ⟨rfl, rfl⟩⟩)
theorem Dz {β : Bs} (S : aE) (L : HL) (f m t : Nat) (hI : Inv S) (cb : Nat) (c : aT) (hC : fD β c) :
    Spec Tryz.prog β 90 #[vP f, vP cb] ((pA f m t L S) ++ [pC cb c]) (fun v l => ∃ L2, v = vI (ic S c).1 ∧ l = ((pA f m t L2 ((ic S c).2.1)) ++ [.blk cb (fV ((ic S c).2.2)) 43])) := by
 have hX := hI.hX
 refine Spec.enter Tryz.func90 rfl Tryz.ntmps90 (Nat.le_of_ble_eq_true rfl) (fun R => ?_)
 refine af.seq ?_
 rcases hI.hand c.handle with cE | ⟨tk, cE, hlv⟩ | ⟨tk, cE, hlv⟩
 ·refine af.region ?_
  refine gK 1 [] [] ?_
  refine NN (af.seq ?_)
  refine af.mA (S := [pF f m t S.X, pC cb c]) [(true, 0), (true, 1), (true, 2), (true, 3), (true, 4), (true, 5), (true, 6), (true, 7), (false, 8), (true, 9), (true, 10), (true, 11), (true, 12), (false, 13)] [0, 6] (by kernel_rfl) (by kernel_rfl) rfl (by kernel_rfl) ?_
  refine fq.reads (l := [(false, 8), (true, 9), (true, 10), (true, 11), (true, 12), (false, 13)]) (fr' := [(0, vP f), (11, vP t), (15, vI (c.handle))]) (aV := [cb = cb, f = f]) [0, 1, 2, 3, 4, 5, 6, 7] [o_, o_, o_, ⟨[.at 0], none, none, none, none⟩, o_, o_, o_, ⟨[.at 1], none, none, none, none⟩] [0, 11, 15] (fun _ => by kernel_rfl) ⟨rfl, rfl, trivial⟩ rfl ?_
  refine fq.cut (ι := Unit) (fr' := fun (_ : Unit) => [(0, vP f), (16, .tuple #[.nilIface, vI 131])]) (hp' := fun (_ : Unit) => ([jI t S L] ++ nY f m t S L cb c R)) [1, 6] (by kernel_rfl) ?_ rfl (fun _ => by kernel_rfl) ?_
  ·refine gL [2] (Dn t S.X.cH S.aq (aJ L S.us) c.handle hC.hw (mU cE)) ?_
   rintro _ _ ⟨rfl, rfl⟩
   refine NL ?_
   exact MD () [0, 16] [0, 1, 2, 3, 4, 5, 6, 7]
  rintro _
  refine fq.reads (l := [(false, 13)]) (fr' := [(0, vP f), (5, .nilIface), (18, vI 131)]) (aV := []) [9, 10, 11, 12] [o_, o_, o_, o_] [0, 5, 18] (fun _ => by kernel_rfl) trivial rfl ?_
  refine fq.last (by kernel_rfl) ?_
  refine gK 1 [(6, vI 131)] [] ?_
  refine NL (ai.np (NX (af.seq (SR ?_))))
  refine gK 2 [(20, .bool true)] [] ?_
  refine NN ?_
  refine CT ?_
  refine SR ?_
  refine gK 2 [(4, vI 131)] [] ?_
  refine NN (af.ret (ai.ar ?_))
  exact RT (vI 131) [1, 2, 0, 3, 4, 5, 6, 7] (⟨L, by rw [show (ic S c) = (131, S, c) by unfold ic; rw [cE]] <;> exact ⟨rfl, rfl⟩⟩)
 ·have hkt : (obj S.O tk).kind = 1 := hI.kind hlv
  have hid := hI.ob _ hlv
  have mY := hI.Gb hlv
  have hdl := hI.Cg hlv
  have hop : 0 < (obj S.O tk).opens ∧ (obj S.O tk).opens ≤ 1024 := ⟨by have h1 := hI.opens _ hlv; have h2 := D1 cE; simp only at h1 h2; omega, (hI.Al hlv).2⟩
  refine af.region ?_
  refine gK 1 [] [] ?_
  refine NN (af.seq ?_)
  refine af.mA (S := [pF f m t S.X, pC cb c]) [(true, 0), (true, 1), (true, 2), (true, 3), (true, 4), (true, 5), (true, 6), (true, 7), (false, 8), (true, 9), (true, 10), (true, 11), (true, 12), (false, 13)] [0, 6] (by kernel_rfl) (by kernel_rfl) rfl (by kernel_rfl) ?_
  refine fq.reads (l := [(false, 8), (true, 9), (true, 10), (true, 11), (true, 12), (false, 13)]) (fr' := [(0, vP f), (11, vP t), (15, vI (c.handle))]) (aV := [cb = cb, f = f]) [0, 1, 2, 3, 4, 5, 6, 7] [o_, o_, o_, ⟨[.at 0], none, none, none, none⟩, o_, o_, o_, ⟨[.at 1], none, none, none, none⟩] [0, 11, 15] (fun _ => by kernel_rfl) ⟨rfl, rfl, trivial⟩ rfl ?_
  refine fq.cut (ι := Unit) (fr' := fun (_ : Unit) => [(0, vP f), (16, .tuple #[.iface 89 (vP (L.b tk)), vI 0])]) (hp' := fun (_ : Unit) => ([pT t S.X.cH S.aq L (del c.handle S.us)] ++ nY f m t S L cb c R)) [1, 6] (by kernel_rfl) ?_ rfl (fun _ => by kernel_rfl) ?_
  ·refine gL (f := 138) (args := #[vP t, vI (c.handle)]) (pre := [jI t S L]) [2] ((by have h := Ak (β := β) t S.X.cH S.aq (aJ L S.us) c.handle hC.hw (cF L ⟨tk, 1⟩) (iT cE); rw [← Cm] at h; exact h)) ?_
   rintro _ _ ⟨rfl, rfl⟩
   refine NL ?_
   exact MD () [0, 16] [0, 1, 2, 3, 4, 5, 6, 7]
  rintro _
  refine fq.reads (l := [(false, 13)]) (fr' := [(0, vP f), (5, .iface 89 (vP (L.b tk))), (18, vI 0)]) (aV := []) [9, 10, 11, 12] [o_, o_, o_, o_] [0, 5, 18] (fun _ => by kernel_rfl) trivial rfl ?_
  refine fq.last (by kernel_rfl) ?_
  refine gK 1 [(6, vI 0)] [] ?_
  refine NL (ai.np (NX (af.seq (SR ?_))))
  refine gK 2 [(20, .bool false)] [] ?_
  refine NN ?_
  refine CF ?_
  refine af.skip (NX (SR ?_))
  refine gK 1 [(22, .iface 89 (vP (L.b tk)))] [] ?_
  refine gL [] (cr (L.b tk)) ?_
  rintro _ _ ⟨rfl, rfl⟩
  refine gK 6 [(27, vI ((obj S.O tk).opens - 1)), (29, .pointer (some ⟨(L.b tk), 7, none⟩))] [(2, v_ 3 (iI L hkt)), (3, p_ ⟨[], none, none, none, some (vI ((obj S.O tk).opens - 1))⟩ [(Value.int .i64 (IntKind.wrap .i64 ((obj S.O tk).opens - 1))) = (.int .i64 ((obj S.O tk).opens - 1))] ⟨bF (by omega) (by omega) (by omega), trivial⟩)] ?_
  refine pU 3 [(5, 1), (4, 2)] tk 7 (fun o => { o with opens := o.opens - 1 }) hkt (fun bH bO => ?_)
  have iF := ku bO hkt
  have hf2 : (obj bH tk).id = (obj S.O tk).id := fu aO.id bO rfl
  have hf3 : (obj bH tk).data = (obj S.O tk).data := fu aO.data bO rfl
  refine NS ?_
  have I3 : (obj bH tk).opens = (obj S.O tk).opens - 1 := by rw [bO]; exact congrArg aO.opens bE
  refine gK 2 [(30, vP f), (31, .iface 89 (vP (L.b tk)))] [] ?_
  refine gL [3, 1, 2] (nP S.X f m t hX bH L S.idx hI.rise ⟨tk, 1⟩ iF (by simp) (by rw [I3]; omega) (fun _ => by rw [hf2, hid.1]; exact hlv) (by rw [hf2]; exact mY) (by rw [hf3]; exact hdl)) ?_
  rintro _ _ ⟨rfl, rfl⟩
  refine NS ?_
  refine gK 1 [(4, vI 0)] [] ?_
  refine NN (af.ret ?_)
  exact RT (l := [pF f m t { S.X with used := gu bH S.X.used ⟨tk, 1⟩ }, pI m L (iq bH S.idx ⟨tk, 1⟩), pT t S.X.cH S.aq L (del c.handle S.us), pO bH L, pD bH L, pE bH L, pC cb c]) (.int .i64 0) [1, 2, 3, 0, 4, 5, 6, 7] (⟨L, by subst bO; rw [show ic S c = (0, _, c) by unfold ic; rw [cE]]; exact ⟨rfl, rfl⟩⟩)
 have hkt : (obj S.O tk).kind = 2 := hI.kind hlv
 have hid := hI.ob _ hlv
 have mY := hI.Gb hlv
 have hdl := hI.Cg hlv
 have hop : 0 < (obj S.O tk).opens ∧ (obj S.O tk).opens ≤ 1024 := ⟨by have h1 := hI.opens _ hlv; have h2 := D1 cE; simp only at h1 h2; omega, (hI.Al hlv).2⟩
 refine af.region ?_
 refine gK 1 [] [] ?_
 refine NN (af.seq ?_)
 refine af.mA (S := [pF f m t S.X, pC cb c]) [(true, 0), (true, 1), (true, 2), (true, 3), (true, 4), (true, 5), (true, 6), (true, 7), (false, 8), (true, 9), (true, 10), (true, 11), (true, 12), (false, 13)] [0, 6] (by kernel_rfl) (by kernel_rfl) rfl (by kernel_rfl) ?_
 refine fq.reads (l := [(false, 8), (true, 9), (true, 10), (true, 11), (true, 12), (false, 13)]) (fr' := [(0, vP f), (11, vP t), (15, vI (c.handle))]) (aV := [cb = cb, f = f]) [0, 1, 2, 3, 4, 5, 6, 7] [o_, o_, o_, ⟨[.at 0], none, none, none, none⟩, o_, o_, o_, ⟨[.at 1], none, none, none, none⟩] [0, 11, 15] (fun _ => by kernel_rfl) ⟨rfl, rfl, trivial⟩ rfl ?_
 refine fq.cut (ι := Unit) (fr' := fun (_ : Unit) => [(0, vP f), (16, .tuple #[.iface 96 (vP (L.b tk)), vI 0])]) (hp' := fun (_ : Unit) => ([pT t S.X.cH S.aq L (del c.handle S.us)] ++ nY f m t S L cb c R)) [1, 6] (by kernel_rfl) ?_ rfl (fun _ => by kernel_rfl) ?_
 ·refine gL (f := 138) (args := #[vP t, vI (c.handle)]) (pre := [jI t S L]) [2] ((by have h := Ak (β := β) t S.X.cH S.aq (aJ L S.us) c.handle hC.hw (cF L ⟨tk, 2⟩) (iT cE); rw [← Cm] at h; exact h)) ?_
  rintro _ _ ⟨rfl, rfl⟩
  refine NL ?_
  exact MD () [0, 16] [0, 1, 2, 3, 4, 5, 6, 7]
 rintro _
 refine fq.reads (l := [(false, 13)]) (fr' := [(0, vP f), (5, .iface 96 (vP (L.b tk))), (18, vI 0)]) (aV := []) [9, 10, 11, 12] [o_, o_, o_, o_] [0, 5, 18] (fun _ => by kernel_rfl) trivial rfl ?_
 refine fq.last (by kernel_rfl) ?_
 refine gK 1 [(6, vI 0)] [] ?_
 refine NL (ai.np (NX (af.seq (SR ?_))))
 refine gK 2 [(20, .bool false)] [] ?_
 refine NN ?_
 refine CF ?_
 refine af.skip (NX (SR ?_))
 refine gK 1 [(22, .iface 96 (vP (L.b tk)))] [] ?_
 refine gL [] (cr (L.b tk)) ?_
 rintro _ _ ⟨rfl, rfl⟩
 refine gK 6 [(27, vI ((obj S.O tk).opens - 1)), (29, .pointer (some ⟨(L.b tk), 7, none⟩))] [(2, v_ 3 (iI L hkt)), (3, p_ ⟨[], none, none, none, some (vI ((obj S.O tk).opens - 1))⟩ [(Value.int .i64 (IntKind.wrap .i64 ((obj S.O tk).opens - 1))) = (.int .i64 ((obj S.O tk).opens - 1))] ⟨bF (by omega) (by omega) (by omega), trivial⟩)] ?_
 refine pU 3 [(5, 1), (4, 2)] tk 7 (fun o => { o with opens := o.opens - 1 }) hkt (fun bH bO => ?_)
 have ud := ku bO hkt
 have Gv : (obj bH tk).id = (obj S.O tk).id := fu aO.id bO rfl
 have L6 : (obj bH tk).data = (obj S.O tk).data := fu aO.data bO rfl
 refine NS ?_
 have I3 : (obj bH tk).opens = (obj S.O tk).opens - 1 := by rw [bO]; exact congrArg aO.opens bE
 refine gK 2 [(30, vP f), (31, .iface 96 (vP (L.b tk)))] [] ?_
 refine gL [3, 1, 2] (nP S.X f m t hX bH L S.idx hI.rise ⟨tk, 2⟩ ud (by simp) (by rw [I3]; omega) (fun _ => by rw [Gv, hid.1]; exact hlv) (by rw [Gv]; exact mY) (by rw [L6]; exact hdl)) ?_
 rintro _ _ ⟨rfl, rfl⟩
 refine NS ?_
 refine gK 1 [(4, vI 0)] [] ?_
 refine NN (af.ret ?_)
 exact RT (l := [pF f m t { S.X with used := gu bH S.X.used ⟨tk, 2⟩ }, pI m L (iq bH S.idx ⟨tk, 2⟩), pT t S.X.cH S.aq L (del c.handle S.us), pO bH L, pD bH L, pE bH L, pC cb c]) (.int .i64 0) [1, 2, 3, 0, 4, 5, 6, 7] (⟨L, by subst bO; rw [show ic S c = (0, _, c) by unfold ic; rw [cE]]; exact ⟨rfl, rfl⟩⟩)
end
section
open Go.RowKit Go.Maps HeapM TabM
attribute [local irreducible] aj aS af ai
abbrev PI (S : aE) (L : HL) (tk : Nat) := (.abs (ak (iC (aN S.O L) tk bR.none)) : HP)
abbrev J0 (L : HL) (tk : Nat) (S : aE) (c : aT) := (.blk (L.b tk) [vI ((obj S.O tk).id), vI (c.mode), vI ((obj S.O tk).uid), vI ((obj S.O tk).gid), vI ((obj S.O tk).sec), vI ((obj S.O tk).nano), vI ((obj S.O tk).links), vI ((obj S.O tk).opens), .bool (obj S.O tk).gone, .slice (L.dA tk) ((obj S.O tk).data.length) ((L.dC tk))] 92 : HP)
abbrev J1 (L : HL) (tk : Nat) (S : aE) (c : aT) := (.blk (L.b tk) [vI ((obj S.O tk).id), vI (c.mode), vI (c.uid), vI ((obj S.O tk).gid), vI ((obj S.O tk).sec), vI ((obj S.O tk).nano), vI ((obj S.O tk).links), vI ((obj S.O tk).opens), .bool (obj S.O tk).gone, .slice (L.dA tk) ((obj S.O tk).data.length) ((L.dC tk))] 92 : HP)
abbrev J2 (L : HL) (tk : Nat) (S : aE) (c : aT) := (.blk (L.b tk) [vI ((obj S.O tk).id), vI (c.mode), vI (c.uid), vI (c.gid), vI ((obj S.O tk).sec), vI ((obj S.O tk).nano), vI ((obj S.O tk).links), vI ((obj S.O tk).opens), .bool (obj S.O tk).gone, .slice (L.dA tk) ((obj S.O tk).data.length) ((L.dC tk))] 92 : HP)
abbrev Oa (L : HL) (tk : Nat) (S : aE) (c : aT) := (.blk (L.b tk) [vI ((obj S.O tk).id), vI (c.mode), vI ((obj S.O tk).uid), vI ((obj S.O tk).gid), vI ((obj S.O tk).sec), vI ((obj S.O tk).nano), vI ((obj S.O tk).links), vI ((obj S.O tk).opens), .bool (obj S.O tk).gone, .map (some (L.m tk)), (qt L (obj S.O tk).up)] 99 : HP)
abbrev Ob (L : HL) (tk : Nat) (S : aE) (c : aT) := (.blk (L.b tk) [vI ((obj S.O tk).id), vI (c.mode), vI (c.uid), vI ((obj S.O tk).gid), vI ((obj S.O tk).sec), vI ((obj S.O tk).nano), vI ((obj S.O tk).links), vI ((obj S.O tk).opens), .bool (obj S.O tk).gone, .map (some (L.m tk)), (qt L (obj S.O tk).up)] 99 : HP)
abbrev Oc (L : HL) (tk : Nat) (S : aE) (c : aT) := (.blk (L.b tk) [vI ((obj S.O tk).id), vI (c.mode), vI (c.uid), vI (c.gid), vI ((obj S.O tk).sec), vI ((obj S.O tk).nano), vI ((obj S.O tk).links), vI ((obj S.O tk).opens), .bool (obj S.O tk).gone, .map (some (L.m tk)), (qt L (obj S.O tk).up)] 99 : HP)
abbrev Mf (S : aE) (c : aT) (L2 : HL) := (pO (av S.O (aC S.X) (fun _ => (⟨0, c.mode, 0, 0, 0, 0, 0, 0, false, 1, [], ⟨#[]⟩, [], none⟩ : aO))) L2 : HP)
abbrev PJ (S : aE) (c : aT) (L2 : HL) := (pE (av S.O (aC S.X) (fun _ => (⟨0, c.mode, 0, 0, 0, 0, 0, 0, false, 1, [], ⟨#[]⟩, [], none⟩ : aO))) L2 : HP)
abbrev Mg (S : aE) (c : aT) (L2 : HL) := (pD (av S.O (aC S.X) (fun _ => (⟨0, c.mode, 0, 0, 0, 0, 0, 0, false, 1, [], ⟨#[]⟩, [], none⟩ : aO))) L2 : HP)
abbrev jO (f : Nat) (m : Nat) (t) (S : aE) (L : HL) (tk : Nat) (cb : Nat) (c) (R : bR) := ([pF f m t S.X, pI m L S.idx, jI t S L, PI S L tk, pD S.O L, pE S.O L, pC cb c, .abs R] : List HP)
abbrev lD (c : aT) := ([(79, vI (c.gid)), (83, .agg #[vI (c.sec), vI (c.nano)])] : Fr)
abbrev zB (L : HL) (tk : Nat) (c : aT) := ([(66, vP (L.b tk)), (67, vP (L.b tk)), (75, vI (c.uid))] : Fr)
abbrev I4 (L : HL) (tk : Nat) (c : aT) := ([(65, vP (L.b tk)), (66, vP (L.b tk)), (67, vP (L.b tk)), (71, vI (c.mode)), (75, vI (c.uid))] : Fr)
abbrev zC (S : aE) (c) (L2 : HL) (f : Nat) (m : Nat) (t) (L : HL) := ([Mf S c L2, pF f m t S.X, pI m L S.idx, PJ S c L2, jI t S L] : List HP)
abbrev I5 (c : aT) (L : HL) (tk : Nat) := ([(83, .agg #[vI (c.sec), vI (c.nano)]), (91, .pointer (some ⟨(L.b tk), 4, none⟩))] : Fr)
abbrev I6 (t) (c : aT) := ([(12, vP t), (16, vI (c.handle))] : Fr)
abbrev Mh (cb : Nat) (f : Nat) (b4 : Nat) := ([(49, vP cb), (50, vP f), (52, .iface 89 (vP b4))] : Fr)
theorem AQ {β : Bs} (S : aE) (L : HL) (f m t : Nat) (hI : Inv S) (cb : Nat) (c : aT) (hC : fD β c) :
    Spec Tryz.prog β 87 #[vP f, vP cb] ((pA f m t L S) ++ [pC cb c]) (fun v l => ∃ L2, v = vI (bD S c).1 ∧ l = ((pA f m t L2 ((bD S c).2.1)) ++ [.blk cb (fV ((bD S c).2.2)) 43])) := by
 have hX := hI.hX
 refine Spec.enter Tryz.func87 rfl Tryz.ntmps87 (Nat.le_of_ble_eq_true rfl) (fun R => ?_)
 refine af.seq ?_
 rcases hI.hand c.handle with cE | ⟨tk, cE, hlv⟩ | ⟨tk, cE, hlv⟩
 ·refine af.region ?_
  refine gK 1 [] [] ?_
  refine NN (af.seq ?_)
  refine af.bG (by kernel_rfl) (by kernel_rfl) ?_
  refine gQ 8 (I6 t c) [(3, a_ 0 f), (7, a_ 6 cb)] ?_
  refine aS.call (f := 136) (args := #[vP t, vI (c.handle)]) (d := (some 17)) (pre := [jI t S L]) (R := (nY f m t S L cb c R)) (pk := [2, 0, 1, 3, 4, 5, 6, 7]) (gF := [1, 2, 0, 3, 4, 5, 6, 7]) (v0 := .tuple #[.nilIface, vI 131]) (fun _ => by kernel_rfl) (nK t S.X.cH S.aq (aJ L S.us) c.handle hC.hw (mU cE)) rfl (by kernel_rfl) rfl (by kernel_rfl) (fun _ _ h => h) ?_
  refine gQ 5 [(5, .nilIface), (6, vI 131)] [] ?_
  refine NQ (NX (af.seq (SR ?_)))
  refine gK 2 [(21, .bool true)] [] ?_
  refine NN ?_
  refine CT ?_
  refine SR ?_
  refine gK 2 [(4, vI 131)] [] ?_
  refine NN (af.ret (ai.ar ?_))
  exact RT (vI 131) [0, 1, 2, 3, 4, 5, 6, 7] (⟨L, by rw [show (bD S c) = (131, S, c) by unfold bD; rw [cE]] <;> exact ⟨rfl, rfl⟩⟩)
 ·have hkt : (obj S.O tk).kind = 1 := hI.kind hlv
  refine af.region ?_
  refine gK 1 [] [] ?_
  refine NN (af.seq ?_)
  refine af.bG (by kernel_rfl) (by kernel_rfl) ?_
  refine gQ 8 (I6 t c) [(3, a_ 0 f), (7, a_ 6 cb)] ?_
  refine aS.call (f := 136) (args := #[vP t, vI (c.handle)]) (d := (some 17)) (pre := [jI t S L]) (R := (nY f m t S L cb c R)) (pk := [2, 0, 1, 3, 4, 5, 6, 7]) (gF := [1, 2, 0, 3, 4, 5, 6, 7]) (v0 := .tuple #[.iface 89 (vP (L.b tk)), vI 0]) (fun _ => by kernel_rfl) (jA t S.X.cH S.aq (aJ L S.us) c.handle hC.hw (cF L ⟨tk, 1⟩) (iT cE)) rfl (by kernel_rfl) rfl (by kernel_rfl) (fun _ _ h => h) ?_
  refine gQ 5 (EW L tk) [] ?_
  refine NQ (NX (af.seq (SR ?_)))
  refine gK 2 [(21, .bool false)] [] ?_
  refine NN ?_
  refine CF ?_
  refine af.skip (NX (SR ?_))
  refine gK 1 [(23, .iface 89 (vP (L.b tk)))] [] ?_
  refine gL [] (cr (L.b tk)) ?_
  rintro _ _ ⟨rfl, rfl⟩
  refine gK 1 [(7, vP (L.b tk))] [] ?_
  refine NN (af.seq (af.block (SR ?_)))
  refine gK 5 [(30, .bool (obj S.O tk).gone)] [(3, v_ 3 (kS L hkt))] ?_
  refine aj.kY 30 (obj S.O tk).gone (fun _ => by kernel_rfl) (fun j9 => ?_) (fun j9 => ?_)
  ·refine gK 1 [(31, .iface 89 (vP (L.b tk)))] [] ?_
   refine gL [] (jC (vP (L.b tk))) ?_
   rintro _ _ ⟨rfl, rfl⟩
   refine gK 3 [(25, .bool false)] [] ?_
   refine NN ?_
   refine CF ?_
   refine SR ?_
   refine gK 4 [(39, vI (c.mode))] [(3, a_ 6 cb)] ?_
   refine gL [] (dW (c.mode) 4095) ?_
   rintro _ _ ⟨rfl, rfl⟩
   refine gK 2 [(35, .bool (!(decide (0 ≤ c.mode ∧ c.mode ≤ 4095))))] [] ?_
   refine NN ?_
   refine af.cI (p := 0 ≤ c.mode ∧ c.mode ≤ 4095) (fun _ => by kernel_rfl) (fun jT => ?_) (fun jT => ?_)
   ·refine SR ?_
    refine gK 1 [(4, vI 120)] [] ?_
    refine NN (af.ret (ai.aH (ai.ar ?_)))
    exact RT (vI 120) [0, 1, 2, 3, 4, 5, 6, 7] (⟨L, by rw [show (bD S c) = (120, S, c) by unfold bD; rw [cE]; exact (if_neg (fun h => absurd h.2 (by simp))).trans (if_neg jT)] <;> exact ⟨rfl, rfl⟩⟩)
   refine SR ?_
   refine gK 4 [(46, vI (c.uid))] [(3, a_ 6 cb)] ?_
   refine gL [] (dW (c.uid) 2147483647) ?_
   rintro _ _ ⟨rfl, rfl⟩
   refine gK 2 [(49, .bool (!(decide (0 ≤ c.uid ∧ c.uid ≤ 2147483647))))] [] ?_
   refine aj.jl 49 (0 ≤ c.uid ∧ c.uid ≤ 2147483647) (fun _ => by kernel_rfl) (fun qE => ?_) (fun qE => ?_)
   ·refine gK 8 [(42, .bool true)] [] ?_
    refine NN ?_
    refine CT ?_
    refine SR ?_
    refine gK 1 [(4, vI 11)] [] ?_
    refine NN (af.ret (ai.aH (ai.ar ?_)))
    exact RT (vI 11) [0, 1, 2, 3, 4, 5, 6, 7] (⟨L, by rw [show (bD S c) = (11, S, c) by unfold bD; rw [cE]; exact (if_neg (fun h => absurd h.2 (by simp))).trans ((if_pos jT).trans (if_neg (fun h => qE h.1)))] <;> exact ⟨rfl, rfl⟩⟩)
   refine gK 4 [(53, vI (c.gid))] [(3, a_ 6 cb)] ?_
   refine gL [] (dW (c.gid) 2147483647) ?_
   rintro _ _ ⟨rfl, rfl⟩
   refine gK 3 [(42, .bool (!(decide (0 ≤ c.gid ∧ c.gid ≤ 2147483647))))] [] ?_
   refine NN ?_
   refine af.cI (p := 0 ≤ c.gid ∧ c.gid ≤ 2147483647) (fun _ => by kernel_rfl) (fun qF => ?_) (fun qF => ?_)
   ·refine SR ?_
    refine gK 1 [(4, vI 11)] [] ?_
    refine NN (af.ret (ai.aH (ai.ar ?_)))
    exact RT (vI 11) [0, 1, 2, 3, 4, 5, 6, 7] (⟨L, by rw [show (bD S c) = (11, S, c) by unfold bD; rw [cE]; exact (if_neg (fun h => absurd h.2 (by simp))).trans ((if_pos jT).trans (if_neg (fun h => qF h.2)))] <;> exact ⟨rfl, rfl⟩⟩)
   refine SR ?_
   refine gK 4 [(61, .agg #[vI (c.sec), vI (c.nano)])] [(3, A_ 6 cb 2)] ?_
   refine gL [] (fO c.sec c.nano) ?_
   rintro _ _ ⟨rfl, rfl⟩
   refine gK 2 [(57, .bool (!(decide (cQ c.sec c.nano))))] [] ?_
   refine NN ?_
   refine af.cI (p := cQ c.sec c.nano) (fun _ => by kernel_rfl) (fun ur => ?_) (fun ur => ?_)
   ·refine SR ?_
    refine gK 1 [(4, vI 20)] [] ?_
    refine NN (af.ret (ai.aH (ai.ar ?_)))
    exact RT (vI 20) [0, 1, 2, 3, 4, 5, 6, 7] (⟨L, by rw [show (bD S c) = (20, S, c) by unfold bD; rw [cE]; exact (if_neg (fun h => absurd h.2 (by simp))).trans ((if_pos jT).trans ((if_pos ⟨qE, qF⟩).trans (if_neg ur)))] <;> exact ⟨rfl, rfl⟩⟩)
   refine af.skip (ai.aP (NX (af.seq ?_)))
   skip
   refine af.mem (aQ := [.blk f [vI (S.X.cN), vI (S.X.cB), vI (S.X.cH), vI (S.X.cS), vI (S.X.cZ), .map (some m), vP t, vI (S.X.last), vI (S.X.ah), vI (S.X.used)] 86, .abs (aI Tryz.prog 3 m (aM (aJ L S.idx)) S.idx.length), .abs (aX 156 t S.X.cH S.aq (aJ L S.us)), .abs (ak (iC (aN S.O L) tk bR.none)), .abs (ak (aY S.O L)), .abs (ak (bh S.O L)), .blk cb [vI (c.op), vI (c.handle), vI (c.other), .string c.name, .string c.text, .slice c.dA (c.data.length) (c.dC), vI (c.mode), vI (c.uid), vI (c.gid), vI (c.sec), vI (c.nano), vI (c.code), vI (c.answer)] 43, .abs R, .blk (L.b tk) [vI ((obj S.O tk).id), vI ((obj S.O tk).mode), vI ((obj S.O tk).uid), vI ((obj S.O tk).gid), vI ((obj S.O tk).sec), vI ((obj S.O tk).nano), vI ((obj S.O tk).links), vI ((obj S.O tk).opens), .bool (obj S.O tk).gone, .slice (L.dA tk) ((obj S.O tk).data.length) ((L.dC tk))] 92]) (fun w hS => hS.tS (i := 3) (k := tk) rfl (by rw [hkt]; decide) (d9 (hkt)) (by rw [hkt]; rfl)) ?_
   refine af.bZ (S := [pC cb c]) [0, 1, 2, 3, 4, 5, 6, 7, 8, 9, 10, 11, 12, 13, 14, 15, 16, 17, 18, 19, 20, 21, 22, 23, 24, 25, 26, 27, 28, 29, 30, 31] 22 [6] (by kernel_rfl) (by kernel_rfl) rfl (by kernel_rfl) ?_
   refine aF.reads (r := 0) (l := [22, 23, 24, 25, 26, 27, 28, 29, 30, 31]) (fr' := (I4 L tk c ++ lD c ++ [(85, .pointer (some ⟨(L.b tk), 1, none⟩))])) (aV := [cb = cb, cb = cb, cb = cb, cb = cb, cb = cb]) [0, 1, 2, 3, 4, 5, 6, 7, 8, 9, 10, 11, 12, 13, 14, 15, 16, 17, 18, 19, 20, 21] [o_, o_, o_, o_, o_, o_, o_, ⟨[.at 0], none, none, none, none⟩, o_, o_, o_, ⟨[.at 0], none, none, none, none⟩, o_, o_, o_, ⟨[.at 0], none, none, none, none⟩, o_, o_, o_, ⟨[.at 0, .at 0], none, none, none, none⟩, o_, o_] [65, 66, 67, 71, 75, 79, 83, 85] (fun _ => by kernel_rfl) ⟨rfl, rfl, rfl, rfl, rfl, trivial⟩ rfl rfl ?_
   refine mC [6] [] [(0, a_ 8 (L.b tk))] [(8, [(1, vI (c.mode))])] ?_
   refine aF.cut (ι := Unit) (fr' := fun (_ : Unit) => (zB L tk c ++ lD c ++ [(86, vP (L.b tk))])) (hp' := fun (_ : Unit) => (jO f m t S L tk cb c R ++ [J0 L tk S c])) [6] rfl rfl ?_ rfl (fun _ => by kernel_rfl) ?_
   ·refine gK 1 [(86, vP (L.b tk))] [] ?_
    refine NL ?_
    exact MD () [66, 67, 75, 79, 83, 86] [0, 1, 2, 3, 4, 5, 6, 7, 8]
   rintro _
   refine aF.cut (ι := Unit) (fr' := fun (_ : Unit) => (zB L tk c ++ lD c ++ [(87, .pointer (some ⟨(L.b tk), 2, none⟩))])) (hp' := fun (_ : Unit) => (jO f m t S L tk cb c R ++ [J0 L tk S c])) [6] rfl rfl ?_ rfl (fun _ => by kernel_rfl) ?_
   ·refine gK 1 [(87, .pointer (some ⟨(L.b tk), 2, none⟩))] [] ?_
    refine NL ?_
    exact MD () [66, 67, 75, 79, 83, 87] [0, 1, 2, 3, 4, 5, 6, 7, 8]
   rintro _
   refine mC [6] [] [(0, a_ 8 (L.b tk))] [(8, [(2, vI (c.uid))])] ?_
   refine aF.cut (ι := Unit) (fr' := fun (_ : Unit) => ([(67, vP (L.b tk))] ++ lD c ++ [(88, vP (L.b tk))])) (hp' := fun (_ : Unit) => (jO f m t S L tk cb c R ++ [J1 L tk S c])) [6] rfl rfl ?_ rfl (fun _ => by kernel_rfl) ?_
   ·refine gK 1 [(88, vP (L.b tk))] [] ?_
    refine NL ?_
    exact MD () [67, 79, 83, 88] [0, 1, 2, 3, 4, 5, 6, 7, 8]
   rintro _
   refine aF.cut (ι := Unit) (fr' := fun (_ : Unit) => ([(67, vP (L.b tk))] ++ lD c ++ [(89, .pointer (some ⟨(L.b tk), 3, none⟩))])) (hp' := fun (_ : Unit) => (jO f m t S L tk cb c R ++ [J1 L tk S c])) [6] rfl rfl ?_ rfl (fun _ => by kernel_rfl) ?_
   ·refine gK 1 [(89, .pointer (some ⟨(L.b tk), 3, none⟩))] [] ?_
    refine NL ?_
    exact MD () [67, 79, 83, 89] [0, 1, 2, 3, 4, 5, 6, 7, 8]
   rintro _
   refine mC [6] [] [(0, a_ 8 (L.b tk))] [(8, [(3, vI (c.gid))])] ?_
   refine aF.cut (ι := Unit) (fr' := fun (_ : Unit) => [(83, .agg #[vI (c.sec), vI (c.nano)]), (90, vP (L.b tk))]) (hp' := fun (_ : Unit) => (jO f m t S L tk cb c R ++ [J2 L tk S c])) [6] rfl rfl ?_ rfl (fun _ => by kernel_rfl) ?_
   ·refine gK 1 [(90, vP (L.b tk))] [] ?_
    refine NL ?_
    exact MD () [83, 90] [0, 1, 2, 3, 4, 5, 6, 7, 8]
   rintro _
   refine aF.cut (ι := Unit) (fr' := fun (_ : Unit) => (I5 c L tk)) (hp' := fun (_ : Unit) => (jO f m t S L tk cb c R ++ [J2 L tk S c])) [6] rfl rfl ?_ rfl (fun _ => by kernel_rfl) ?_
   ·refine gK 1 [(91, .pointer (some ⟨(L.b tk), 4, none⟩))] [] ?_
    refine NL ?_
    exact MD () [83, 91] [0, 1, 2, 3, 4, 5, 6, 7, 8]
   rintro _
   refine aF.last rfl rfl ?_
   refine gC 1 [] [(0, A_ 8 (L.b tk) 2)] [(8, [(4, vI (c.sec)), (5, vI (c.nano))])] ?_
   refine NL (ai.np (NX (SR ?_)))
   refine aj.mem (aQ := [.abs (ak (aN (av S.O tk (fun o => { o with mode := c.mode, uid := c.uid, gid := c.gid, sec := c.sec, nano := c.nano })) L)), .blk f [vI (S.X.cN), vI (S.X.cB), vI (S.X.cH), vI (S.X.cS), vI (S.X.cZ), .map (some m), vP t, vI (S.X.last), vI (S.X.ah), vI (S.X.used)] 86, .abs (aI Tryz.prog 3 m (aM (aJ L S.idx)) S.idx.length), .abs (aX 156 t S.X.cH S.aq (aJ L S.us)), .abs (ak (aY (av S.O tk (fun o => { o with mode := c.mode, uid := c.uid, gid := c.gid, sec := c.sec, nano := c.nano })) L)), .abs (ak (bh (av S.O tk (fun o => { o with mode := c.mode, uid := c.uid, gid := c.gid, sec := c.sec, nano := c.nano })) L)), .blk cb [vI (c.op), vI (c.handle), vI (c.other), .string c.name, .string c.text, .slice c.dA (c.data.length) (c.dC), vI (c.mode), vI (c.uid), vI (c.gid), vI (c.sec), vI (c.nano), vI (c.code), vI (c.answer)] 43, .abs R]) (fun w hS => by have h := hS.uX (O := S.O) (L := L) (i := 3) (j := 8) (idx := [0, 1, 2, 4, 5, 6, 7]) (k := tk) (f := (fun o => { o with mode := c.mode, uid := c.uid, gid := c.gid, sec := c.sec, nano := c.nano })) rfl (fun _ hx => lS hx) rfl (by kernel_rfl) rfl (by show (obj S.O tk).kind ≠ 0; rw [hkt]; decide) ((d9 (o := (fun o => { o with mode := c.mode, uid := c.uid, gid := c.gid, sec := c.sec, nano := c.nano }) (obj S.O tk)) (hkt)).trans rfl) (by show kI (obj S.O tk).kind = _; rw [hkt]; rfl); rw [kA (O := S.O) (k := tk) (f := (fun o => { o with mode := c.mode, uid := c.uid, gid := c.gid, sec := c.sec, nano := c.nano })) rfl rfl, kB (O := S.O) (k := tk) (f := (fun o => { o with mode := c.mode, uid := c.uid, gid := c.gid, sec := c.sec, nano := c.nano })) rfl rfl]; exact h) ?_
   have iF : (obj (av S.O tk (fun o => { o with mode := c.mode, uid := c.uid, gid := c.gid, sec := c.sec, nano := c.nano })) tk).kind = 1 := (ia (f := (fun o => { o with mode := c.mode, uid := c.uid, gid := c.gid, sec := c.sec, nano := c.nano })) (fun _ => rfl)).trans (hkt)
   generalize bO : (av S.O tk (fun o => { o with mode := c.mode, uid := c.uid, gid := c.gid, sec := c.sec, nano := c.nano })) = bH at iF ⊢
   refine gK 1 [(4, vI 0)] [] ?_
   refine NN (af.ret ?_)
   exact RT (l := [pF f m t S.X, pI m L S.idx, jI t S L, pO bH L, pD bH L, pE bH L, pC cb c]) (.int .i64 0) [1, 2, 3, 0, 4, 5, 6, 7] (⟨L, by subst bO; rw [show (bD S c) = (0, { S with O := av S.O tk (fun o => { o with mode := c.mode, uid := c.uid, gid := c.gid, sec := c.sec, nano := c.nano }) }, c) by unfold bD; rw [cE]; exact (if_neg (fun h => absurd h.2 (by simp))).trans ((if_pos jT).trans ((if_pos ⟨qE, qF⟩).trans (if_pos ur)))] <;> exact ⟨rfl, rfl⟩⟩)
  refine gK 5 [(25, .bool false)] [] ?_
  refine NN ?_
  refine CF ?_
  refine SR ?_
  refine gK 4 [(39, vI (c.mode))] [(3, a_ 6 cb)] ?_
  refine gL [] (dW (c.mode) 4095) ?_
  rintro _ _ ⟨rfl, rfl⟩
  refine gK 2 [(35, .bool (!(decide (0 ≤ c.mode ∧ c.mode ≤ 4095))))] [] ?_
  refine NN ?_
  refine af.cI (p := 0 ≤ c.mode ∧ c.mode ≤ 4095) (fun _ => by kernel_rfl) (fun jT => ?_) (fun jT => ?_)
  ·refine SR ?_
   refine gK 1 [(4, vI 120)] [] ?_
   refine NN (af.ret (ai.aH (ai.ar ?_)))
   exact RT (vI 120) [0, 1, 2, 3, 4, 5, 6, 7] (⟨L, by rw [show (bD S c) = (120, S, c) by unfold bD; rw [cE]; exact (if_neg (fun h => absurd h.2 (by simp))).trans (if_neg jT)] <;> exact ⟨rfl, rfl⟩⟩)
  refine SR ?_
  refine gK 4 [(46, vI (c.uid))] [(3, a_ 6 cb)] ?_
  refine gL [] (dW (c.uid) 2147483647) ?_
  rintro _ _ ⟨rfl, rfl⟩
  refine gK 2 [(49, .bool (!(decide (0 ≤ c.uid ∧ c.uid ≤ 2147483647))))] [] ?_
  refine aj.jl 49 (0 ≤ c.uid ∧ c.uid ≤ 2147483647) (fun _ => by kernel_rfl) (fun qE => ?_) (fun qE => ?_)
  ·refine gK 8 [(42, .bool true)] [] ?_
   refine NN ?_
   refine CT ?_
   refine SR ?_
   refine gK 1 [(4, vI 11)] [] ?_
   refine NN (af.ret (ai.aH (ai.ar ?_)))
   exact RT (vI 11) [0, 1, 2, 3, 4, 5, 6, 7] (⟨L, by rw [show (bD S c) = (11, S, c) by unfold bD; rw [cE]; exact (if_neg (fun h => absurd h.2 (by simp))).trans ((if_pos jT).trans (if_neg (fun h => qE h.1)))] <;> exact ⟨rfl, rfl⟩⟩)
  refine gK 4 [(53, vI (c.gid))] [(3, a_ 6 cb)] ?_
  refine gL [] (dW (c.gid) 2147483647) ?_
  rintro _ _ ⟨rfl, rfl⟩
  refine gK 3 [(42, .bool (!(decide (0 ≤ c.gid ∧ c.gid ≤ 2147483647))))] [] ?_
  refine NN ?_
  refine af.cI (p := 0 ≤ c.gid ∧ c.gid ≤ 2147483647) (fun _ => by kernel_rfl) (fun qF => ?_) (fun qF => ?_)
  ·refine SR ?_
   refine gK 1 [(4, vI 11)] [] ?_
   refine NN (af.ret (ai.aH (ai.ar ?_)))
   exact RT (vI 11) [0, 1, 2, 3, 4, 5, 6, 7] (⟨L, by rw [show (bD S c) = (11, S, c) by unfold bD; rw [cE]; exact (if_neg (fun h => absurd h.2 (by simp))).trans ((if_pos jT).trans (if_neg (fun h => qF h.2)))] <;> exact ⟨rfl, rfl⟩⟩)
  refine SR ?_
  refine gK 4 [(61, .agg #[vI (c.sec), vI (c.nano)])] [(3, A_ 6 cb 2)] ?_
  refine gL [] (fO c.sec c.nano) ?_
  rintro _ _ ⟨rfl, rfl⟩
  refine gK 2 [(57, .bool (!(decide (cQ c.sec c.nano))))] [] ?_
  refine NN ?_
  refine af.cI (p := cQ c.sec c.nano) (fun _ => by kernel_rfl) (fun ur => ?_) (fun ur => ?_)
  ·refine SR ?_
   refine gK 1 [(4, vI 20)] [] ?_
   refine NN (af.ret (ai.aH (ai.ar ?_)))
   exact RT (vI 20) [0, 1, 2, 3, 4, 5, 6, 7] (⟨L, by rw [show (bD S c) = (20, S, c) by unfold bD; rw [cE]; exact (if_neg (fun h => absurd h.2 (by simp))).trans ((if_pos jT).trans ((if_pos ⟨qE, qF⟩).trans (if_neg ur)))] <;> exact ⟨rfl, rfl⟩⟩)
  refine af.skip (ai.aP (NX (af.seq ?_)))
  skip
  refine af.mem (aQ := [.blk f [vI (S.X.cN), vI (S.X.cB), vI (S.X.cH), vI (S.X.cS), vI (S.X.cZ), .map (some m), vP t, vI (S.X.last), vI (S.X.ah), vI (S.X.used)] 86, .abs (aI Tryz.prog 3 m (aM (aJ L S.idx)) S.idx.length), .abs (aX 156 t S.X.cH S.aq (aJ L S.us)), .abs (ak (iC (aN S.O L) tk bR.none)), .abs (ak (aY S.O L)), .abs (ak (bh S.O L)), .blk cb [vI (c.op), vI (c.handle), vI (c.other), .string c.name, .string c.text, .slice c.dA (c.data.length) (c.dC), vI (c.mode), vI (c.uid), vI (c.gid), vI (c.sec), vI (c.nano), vI (c.code), vI (c.answer)] 43, .abs R, .blk (L.b tk) [vI ((obj S.O tk).id), vI ((obj S.O tk).mode), vI ((obj S.O tk).uid), vI ((obj S.O tk).gid), vI ((obj S.O tk).sec), vI ((obj S.O tk).nano), vI ((obj S.O tk).links), vI ((obj S.O tk).opens), .bool (obj S.O tk).gone, .slice (L.dA tk) ((obj S.O tk).data.length) ((L.dC tk))] 92]) (fun w hS => hS.tS (i := 3) (k := tk) rfl (by rw [hkt]; decide) (d9 (hkt)) (by rw [hkt]; rfl)) ?_
  refine af.bZ (S := [pC cb c]) [0, 1, 2, 3, 4, 5, 6, 7, 8, 9, 10, 11, 12, 13, 14, 15, 16, 17, 18, 19, 20, 21, 22, 23, 24, 25, 26, 27, 28, 29, 30, 31] 22 [6] (by kernel_rfl) (by kernel_rfl) rfl (by kernel_rfl) ?_
  refine aF.reads (r := 0) (l := [22, 23, 24, 25, 26, 27, 28, 29, 30, 31]) (fr' := (I4 L tk c ++ lD c ++ [(85, .pointer (some ⟨(L.b tk), 1, none⟩))])) (aV := [cb = cb, cb = cb, cb = cb, cb = cb, cb = cb]) [0, 1, 2, 3, 4, 5, 6, 7, 8, 9, 10, 11, 12, 13, 14, 15, 16, 17, 18, 19, 20, 21] [o_, o_, o_, o_, o_, o_, o_, ⟨[.at 0], none, none, none, none⟩, o_, o_, o_, ⟨[.at 0], none, none, none, none⟩, o_, o_, o_, ⟨[.at 0], none, none, none, none⟩, o_, o_, o_, ⟨[.at 0, .at 0], none, none, none, none⟩, o_, o_] [65, 66, 67, 71, 75, 79, 83, 85] (fun _ => by kernel_rfl) ⟨rfl, rfl, rfl, rfl, rfl, trivial⟩ rfl rfl ?_
  refine mC [6] [] [(0, a_ 8 (L.b tk))] [(8, [(1, vI (c.mode))])] ?_
  refine aF.cut (ι := Unit) (fr' := fun (_ : Unit) => (zB L tk c ++ lD c ++ [(86, vP (L.b tk))])) (hp' := fun (_ : Unit) => (jO f m t S L tk cb c R ++ [J0 L tk S c])) [6] rfl rfl ?_ rfl (fun _ => by kernel_rfl) ?_
  ·refine gK 1 [(86, vP (L.b tk))] [] ?_
   refine NL ?_
   exact MD () [66, 67, 75, 79, 83, 86] [0, 1, 2, 3, 4, 5, 6, 7, 8]
  rintro _
  refine aF.cut (ι := Unit) (fr' := fun (_ : Unit) => (zB L tk c ++ lD c ++ [(87, .pointer (some ⟨(L.b tk), 2, none⟩))])) (hp' := fun (_ : Unit) => (jO f m t S L tk cb c R ++ [J0 L tk S c])) [6] rfl rfl ?_ rfl (fun _ => by kernel_rfl) ?_
  ·refine gK 1 [(87, .pointer (some ⟨(L.b tk), 2, none⟩))] [] ?_
   refine NL ?_
   exact MD () [66, 67, 75, 79, 83, 87] [0, 1, 2, 3, 4, 5, 6, 7, 8]
  rintro _
  refine mC [6] [] [(0, a_ 8 (L.b tk))] [(8, [(2, vI (c.uid))])] ?_
  refine aF.cut (ι := Unit) (fr' := fun (_ : Unit) => ([(67, vP (L.b tk))] ++ lD c ++ [(88, vP (L.b tk))])) (hp' := fun (_ : Unit) => (jO f m t S L tk cb c R ++ [J1 L tk S c])) [6] rfl rfl ?_ rfl (fun _ => by kernel_rfl) ?_
  ·refine gK 1 [(88, vP (L.b tk))] [] ?_
   refine NL ?_
   exact MD () [67, 79, 83, 88] [0, 1, 2, 3, 4, 5, 6, 7, 8]
  rintro _
  refine aF.cut (ι := Unit) (fr' := fun (_ : Unit) => ([(67, vP (L.b tk))] ++ lD c ++ [(89, .pointer (some ⟨(L.b tk), 3, none⟩))])) (hp' := fun (_ : Unit) => (jO f m t S L tk cb c R ++ [J1 L tk S c])) [6] rfl rfl ?_ rfl (fun _ => by kernel_rfl) ?_
  ·refine gK 1 [(89, .pointer (some ⟨(L.b tk), 3, none⟩))] [] ?_
   refine NL ?_
   exact MD () [67, 79, 83, 89] [0, 1, 2, 3, 4, 5, 6, 7, 8]
  rintro _
  refine mC [6] [] [(0, a_ 8 (L.b tk))] [(8, [(3, vI (c.gid))])] ?_
  refine aF.cut (ι := Unit) (fr' := fun (_ : Unit) => [(83, .agg #[vI (c.sec), vI (c.nano)]), (90, vP (L.b tk))]) (hp' := fun (_ : Unit) => (jO f m t S L tk cb c R ++ [J2 L tk S c])) [6] rfl rfl ?_ rfl (fun _ => by kernel_rfl) ?_
  ·refine gK 1 [(90, vP (L.b tk))] [] ?_
   refine NL ?_
   exact MD () [83, 90] [0, 1, 2, 3, 4, 5, 6, 7, 8]
  rintro _
  refine aF.cut (ι := Unit) (fr' := fun (_ : Unit) => (I5 c L tk)) (hp' := fun (_ : Unit) => (jO f m t S L tk cb c R ++ [J2 L tk S c])) [6] rfl rfl ?_ rfl (fun _ => by kernel_rfl) ?_
  ·refine gK 1 [(91, .pointer (some ⟨(L.b tk), 4, none⟩))] [] ?_
   refine NL ?_
   exact MD () [83, 91] [0, 1, 2, 3, 4, 5, 6, 7, 8]
  rintro _
  refine aF.last rfl rfl ?_
  refine gC 1 [] [(0, A_ 8 (L.b tk) 2)] [(8, [(4, vI (c.sec)), (5, vI (c.nano))])] ?_
  refine NL (ai.np (NX (SR ?_)))
  refine aj.mem (aQ := [.abs (ak (aN (av S.O tk (fun o => { o with mode := c.mode, uid := c.uid, gid := c.gid, sec := c.sec, nano := c.nano })) L)), .blk f [vI (S.X.cN), vI (S.X.cB), vI (S.X.cH), vI (S.X.cS), vI (S.X.cZ), .map (some m), vP t, vI (S.X.last), vI (S.X.ah), vI (S.X.used)] 86, .abs (aI Tryz.prog 3 m (aM (aJ L S.idx)) S.idx.length), .abs (aX 156 t S.X.cH S.aq (aJ L S.us)), .abs (ak (aY (av S.O tk (fun o => { o with mode := c.mode, uid := c.uid, gid := c.gid, sec := c.sec, nano := c.nano })) L)), .abs (ak (bh (av S.O tk (fun o => { o with mode := c.mode, uid := c.uid, gid := c.gid, sec := c.sec, nano := c.nano })) L)), .blk cb [vI (c.op), vI (c.handle), vI (c.other), .string c.name, .string c.text, .slice c.dA (c.data.length) (c.dC), vI (c.mode), vI (c.uid), vI (c.gid), vI (c.sec), vI (c.nano), vI (c.code), vI (c.answer)] 43, .abs R]) (fun w hS => by have h := hS.uX (O := S.O) (L := L) (i := 3) (j := 8) (idx := [0, 1, 2, 4, 5, 6, 7]) (k := tk) (f := (fun o => { o with mode := c.mode, uid := c.uid, gid := c.gid, sec := c.sec, nano := c.nano })) rfl (fun _ hx => lS hx) rfl (by kernel_rfl) rfl (by show (obj S.O tk).kind ≠ 0; rw [hkt]; decide) ((d9 (o := (fun o => { o with mode := c.mode, uid := c.uid, gid := c.gid, sec := c.sec, nano := c.nano }) (obj S.O tk)) (hkt)).trans rfl) (by show kI (obj S.O tk).kind = _; rw [hkt]; rfl); rw [kA (O := S.O) (k := tk) (f := (fun o => { o with mode := c.mode, uid := c.uid, gid := c.gid, sec := c.sec, nano := c.nano })) rfl rfl, kB (O := S.O) (k := tk) (f := (fun o => { o with mode := c.mode, uid := c.uid, gid := c.gid, sec := c.sec, nano := c.nano })) rfl rfl]; exact h) ?_
  have j8 : (obj (av S.O tk (fun o => { o with mode := c.mode, uid := c.uid, gid := c.gid, sec := c.sec, nano := c.nano })) tk).kind = 1 := (ia (f := (fun o => { o with mode := c.mode, uid := c.uid, gid := c.gid, sec := c.sec, nano := c.nano })) (fun _ => rfl)).trans (hkt)
  generalize bO : (av S.O tk (fun o => { o with mode := c.mode, uid := c.uid, gid := c.gid, sec := c.sec, nano := c.nano })) = bH at j8 ⊢
  refine gK 1 [(4, vI 0)] [] ?_
  refine NN (af.ret ?_)
  exact RT (l := [pF f m t S.X, pI m L S.idx, jI t S L, pO bH L, pD bH L, pE bH L, pC cb c]) (.int .i64 0) [1, 2, 3, 0, 4, 5, 6, 7] (⟨L, by subst bO; rw [show (bD S c) = (0, { S with O := av S.O tk (fun o => { o with mode := c.mode, uid := c.uid, gid := c.gid, sec := c.sec, nano := c.nano }) }, c) by unfold bD; rw [cE]; exact (if_neg (fun h => absurd h.2 (by simp))).trans ((if_pos jT).trans ((if_pos ⟨qE, qF⟩).trans (if_pos ur)))] <;> exact ⟨rfl, rfl⟩⟩)
 have hkt : (obj S.O tk).kind = 2 := hI.kind hlv
 refine af.region ?_
 refine gK 1 [] [] ?_
 refine NN (af.seq ?_)
 refine af.bG (by kernel_rfl) (by kernel_rfl) ?_
 refine gQ 8 (I6 t c) [(3, a_ 0 f), (7, a_ 6 cb)] ?_
 refine aS.call (f := 136) (args := #[vP t, vI (c.handle)]) (d := (some 17)) (pre := [jI t S L]) (R := (nY f m t S L cb c R)) (pk := [2, 0, 1, 3, 4, 5, 6, 7]) (gF := [1, 2, 0, 3, 4, 5, 6, 7]) (v0 := .tuple #[.iface 96 (vP (L.b tk)), vI 0]) (fun _ => by kernel_rfl) (jA t S.X.cH S.aq (aJ L S.us) c.handle hC.hw (cF L ⟨tk, 2⟩) (iT cE)) rfl (by kernel_rfl) rfl (by kernel_rfl) (fun _ _ h => h) ?_
 refine gQ 5 (EX L tk) [] ?_
 refine NQ (NX (af.seq (SR ?_)))
 refine gK 2 [(21, .bool false)] [] ?_
 refine NN ?_
 refine CF ?_
 refine af.skip (NX (SR ?_))
 refine gK 1 [(23, .iface 96 (vP (L.b tk)))] [] ?_
 refine gL [] (cr (L.b tk)) ?_
 rintro _ _ ⟨rfl, rfl⟩
 refine gK 1 [(7, vP (L.b tk))] [] ?_
 refine NN (af.seq (af.block (SR ?_)))
 refine gK 5 [(30, .bool (obj S.O tk).gone)] [(3, v_ 3 (kS L hkt))] ?_
 refine aj.kY 30 (obj S.O tk).gone (fun _ => by kernel_rfl) (fun j9 => ?_) (fun j9 => ?_)
 ·refine gK 1 [(31, .iface 96 (vP (L.b tk)))] [] ?_
  refine gL [] (jD (vP (L.b tk))) ?_
  rintro _ _ ⟨rfl, rfl⟩
  refine gK 3 [(25, .bool true)] [] ?_
  refine NN ?_
  refine CT ?_
  refine SR ?_
  refine gK 1 [(4, vI 170)] [] ?_
  refine NN (af.ret (ai.aH (ai.ar ?_)))
  exact RT (vI 170) [0, 1, 2, 3, 4, 5, 6, 7] (⟨L, by rw [show (bD S c) = (170, S, c) by unfold bD; rw [cE]; exact if_pos ⟨j9, rfl⟩] <;> exact ⟨rfl, rfl⟩⟩)
 refine gK 5 [(25, .bool false)] [] ?_
 refine NN ?_
 refine CF ?_
 refine SR ?_
 refine gK 4 [(39, vI (c.mode))] [(3, a_ 6 cb)] ?_
 refine gL [] (dW (c.mode) 4095) ?_
 rintro _ _ ⟨rfl, rfl⟩
 refine gK 2 [(35, .bool (!(decide (0 ≤ c.mode ∧ c.mode ≤ 4095))))] [] ?_
 refine NN ?_
 refine af.cI (p := 0 ≤ c.mode ∧ c.mode ≤ 4095) (fun _ => by kernel_rfl) (fun jT => ?_) (fun jT => ?_)
 ·refine SR ?_
  refine gK 1 [(4, vI 120)] [] ?_
  refine NN (af.ret (ai.aH (ai.ar ?_)))
  exact RT (vI 120) [0, 1, 2, 3, 4, 5, 6, 7] (⟨L, by rw [show (bD S c) = (120, S, c) by unfold bD; rw [cE]; exact (if_neg (fun h => absurd h.1 (by rw [j9]; decide))).trans (if_neg jT)] <;> exact ⟨rfl, rfl⟩⟩)
 refine SR ?_
 refine gK 4 [(46, vI (c.uid))] [(3, a_ 6 cb)] ?_
 refine gL [] (dW (c.uid) 2147483647) ?_
 rintro _ _ ⟨rfl, rfl⟩
 refine gK 2 [(49, .bool (!(decide (0 ≤ c.uid ∧ c.uid ≤ 2147483647))))] [] ?_
 refine aj.jl 49 (0 ≤ c.uid ∧ c.uid ≤ 2147483647) (fun _ => by kernel_rfl) (fun qE => ?_) (fun qE => ?_)
 ·refine gK 8 [(42, .bool true)] [] ?_
  refine NN ?_
  refine CT ?_
  refine SR ?_
  refine gK 1 [(4, vI 11)] [] ?_
  refine NN (af.ret (ai.aH (ai.ar ?_)))
  exact RT (vI 11) [0, 1, 2, 3, 4, 5, 6, 7] (⟨L, by rw [show (bD S c) = (11, S, c) by unfold bD; rw [cE]; exact (if_neg (fun h => absurd h.1 (by rw [j9]; decide))).trans ((if_pos jT).trans (if_neg (fun h => qE h.1)))] <;> exact ⟨rfl, rfl⟩⟩)
 refine gK 4 [(53, vI (c.gid))] [(3, a_ 6 cb)] ?_
 refine gL [] (dW (c.gid) 2147483647) ?_
 rintro _ _ ⟨rfl, rfl⟩
 refine gK 3 [(42, .bool (!(decide (0 ≤ c.gid ∧ c.gid ≤ 2147483647))))] [] ?_
 refine NN ?_
 refine af.cI (p := 0 ≤ c.gid ∧ c.gid ≤ 2147483647) (fun _ => by kernel_rfl) (fun qF => ?_) (fun qF => ?_)
 ·refine SR ?_
  refine gK 1 [(4, vI 11)] [] ?_
  refine NN (af.ret (ai.aH (ai.ar ?_)))
  exact RT (vI 11) [0, 1, 2, 3, 4, 5, 6, 7] (⟨L, by rw [show (bD S c) = (11, S, c) by unfold bD; rw [cE]; exact (if_neg (fun h => absurd h.1 (by rw [j9]; decide))).trans ((if_pos jT).trans (if_neg (fun h => qF h.2)))] <;> exact ⟨rfl, rfl⟩⟩)
 refine SR ?_
 refine gK 4 [(61, .agg #[vI (c.sec), vI (c.nano)])] [(3, A_ 6 cb 2)] ?_
 refine gL [] (fO c.sec c.nano) ?_
 rintro _ _ ⟨rfl, rfl⟩
 refine gK 2 [(57, .bool (!(decide (cQ c.sec c.nano))))] [] ?_
 refine NN ?_
 refine af.cI (p := cQ c.sec c.nano) (fun _ => by kernel_rfl) (fun ur => ?_) (fun ur => ?_)
 ·refine SR ?_
  refine gK 1 [(4, vI 20)] [] ?_
  refine NN (af.ret (ai.aH (ai.ar ?_)))
  exact RT (vI 20) [0, 1, 2, 3, 4, 5, 6, 7] (⟨L, by rw [show (bD S c) = (20, S, c) by unfold bD; rw [cE]; exact (if_neg (fun h => absurd h.1 (by rw [j9]; decide))).trans ((if_pos jT).trans ((if_pos ⟨qE, qF⟩).trans (if_neg ur)))] <;> exact ⟨rfl, rfl⟩⟩)
 refine af.skip (ai.aP (NX (af.seq ?_)))
 skip
 refine af.mem (aQ := [.blk f [vI (S.X.cN), vI (S.X.cB), vI (S.X.cH), vI (S.X.cS), vI (S.X.cZ), .map (some m), vP t, vI (S.X.last), vI (S.X.ah), vI (S.X.used)] 86, .abs (aI Tryz.prog 3 m (aM (aJ L S.idx)) S.idx.length), .abs (aX 156 t S.X.cH S.aq (aJ L S.us)), .abs (ak (iC (aN S.O L) tk bR.none)), .abs (ak (aY S.O L)), .abs (ak (bh S.O L)), .blk cb [vI (c.op), vI (c.handle), vI (c.other), .string c.name, .string c.text, .slice c.dA (c.data.length) (c.dC), vI (c.mode), vI (c.uid), vI (c.gid), vI (c.sec), vI (c.nano), vI (c.code), vI (c.answer)] 43, .abs R, .blk (L.b tk) [vI ((obj S.O tk).id), vI ((obj S.O tk).mode), vI ((obj S.O tk).uid), vI ((obj S.O tk).gid), vI ((obj S.O tk).sec), vI ((obj S.O tk).nano), vI ((obj S.O tk).links), vI ((obj S.O tk).opens), .bool (obj S.O tk).gone, .map (some (L.m tk)), (qt L (obj S.O tk).up)] 99]) (fun w hS => hS.tS (i := 3) (k := tk) rfl (by rw [hkt]; decide) (gD (hkt)) (by rw [hkt]; rfl)) ?_
 refine af.bZ (S := [pC cb c]) [0, 1, 2, 3, 4, 5, 6, 7, 8, 9, 10, 11, 12, 13, 14, 15, 16, 17, 18, 19, 20, 21, 22, 23, 24, 25, 26, 27, 28, 29, 30, 31] 22 [6] (by kernel_rfl) (by kernel_rfl) rfl (by kernel_rfl) ?_
 refine aF.reads (r := 0) (l := [22, 23, 24, 25, 26, 27, 28, 29, 30, 31]) (fr' := (I4 L tk c ++ lD c ++ [(85, .pointer (some ⟨(L.b tk), 1, none⟩))])) (aV := [cb = cb, cb = cb, cb = cb, cb = cb, cb = cb]) [0, 1, 2, 3, 4, 5, 6, 7, 8, 9, 10, 11, 12, 13, 14, 15, 16, 17, 18, 19, 20, 21] [o_, o_, o_, o_, o_, o_, o_, ⟨[.at 0], none, none, none, none⟩, o_, o_, o_, ⟨[.at 0], none, none, none, none⟩, o_, o_, o_, ⟨[.at 0], none, none, none, none⟩, o_, o_, o_, ⟨[.at 0, .at 0], none, none, none, none⟩, o_, o_] [65, 66, 67, 71, 75, 79, 83, 85] (fun _ => by kernel_rfl) ⟨rfl, rfl, rfl, rfl, rfl, trivial⟩ rfl rfl ?_
 refine mC [6] [] [(0, a_ 8 (L.b tk))] [(8, [(1, vI (c.mode))])] ?_
 refine aF.cut (ι := Unit) (fr' := fun (_ : Unit) => (zB L tk c ++ lD c ++ [(86, vP (L.b tk))])) (hp' := fun (_ : Unit) => (jO f m t S L tk cb c R ++ [Oa L tk S c])) [6] rfl rfl ?_ rfl (fun _ => by kernel_rfl) ?_
 ·refine gK 1 [(86, vP (L.b tk))] [] ?_
  refine NL ?_
  exact MD () [66, 67, 75, 79, 83, 86] [0, 1, 2, 3, 4, 5, 6, 7, 8]
 rintro _
 refine aF.cut (ι := Unit) (fr' := fun (_ : Unit) => (zB L tk c ++ lD c ++ [(87, .pointer (some ⟨(L.b tk), 2, none⟩))])) (hp' := fun (_ : Unit) => (jO f m t S L tk cb c R ++ [Oa L tk S c])) [6] rfl rfl ?_ rfl (fun _ => by kernel_rfl) ?_
 ·refine gK 1 [(87, .pointer (some ⟨(L.b tk), 2, none⟩))] [] ?_
  refine NL ?_
  exact MD () [66, 67, 75, 79, 83, 87] [0, 1, 2, 3, 4, 5, 6, 7, 8]
 rintro _
 refine mC [6] [] [(0, a_ 8 (L.b tk))] [(8, [(2, vI (c.uid))])] ?_
 refine aF.cut (ι := Unit) (fr' := fun (_ : Unit) => ([(67, vP (L.b tk))] ++ lD c ++ [(88, vP (L.b tk))])) (hp' := fun (_ : Unit) => (jO f m t S L tk cb c R ++ [Ob L tk S c])) [6] rfl rfl ?_ rfl (fun _ => by kernel_rfl) ?_
 ·refine gK 1 [(88, vP (L.b tk))] [] ?_
  refine NL ?_
  exact MD () [67, 79, 83, 88] [0, 1, 2, 3, 4, 5, 6, 7, 8]
 rintro _
 refine aF.cut (ι := Unit) (fr' := fun (_ : Unit) => ([(67, vP (L.b tk))] ++ lD c ++ [(89, .pointer (some ⟨(L.b tk), 3, none⟩))])) (hp' := fun (_ : Unit) => (jO f m t S L tk cb c R ++ [Ob L tk S c])) [6] rfl rfl ?_ rfl (fun _ => by kernel_rfl) ?_
 ·refine gK 1 [(89, .pointer (some ⟨(L.b tk), 3, none⟩))] [] ?_
  refine NL ?_
  exact MD () [67, 79, 83, 89] [0, 1, 2, 3, 4, 5, 6, 7, 8]
 rintro _
 refine mC [6] [] [(0, a_ 8 (L.b tk))] [(8, [(3, vI (c.gid))])] ?_
 refine aF.cut (ι := Unit) (fr' := fun (_ : Unit) => [(83, .agg #[vI (c.sec), vI (c.nano)]), (90, vP (L.b tk))]) (hp' := fun (_ : Unit) => (jO f m t S L tk cb c R ++ [Oc L tk S c])) [6] rfl rfl ?_ rfl (fun _ => by kernel_rfl) ?_
 ·refine gK 1 [(90, vP (L.b tk))] [] ?_
  refine NL ?_
  exact MD () [83, 90] [0, 1, 2, 3, 4, 5, 6, 7, 8]
 rintro _
 refine aF.cut (ι := Unit) (fr' := fun (_ : Unit) => (I5 c L tk)) (hp' := fun (_ : Unit) => (jO f m t S L tk cb c R ++ [Oc L tk S c])) [6] rfl rfl ?_ rfl (fun _ => by kernel_rfl) ?_
 ·refine gK 1 [(91, .pointer (some ⟨(L.b tk), 4, none⟩))] [] ?_
  refine NL ?_
  exact MD () [83, 91] [0, 1, 2, 3, 4, 5, 6, 7, 8]
 rintro _
 refine aF.last rfl rfl ?_
 refine gC 1 [] [(0, A_ 8 (L.b tk) 2)] [(8, [(4, vI (c.sec)), (5, vI (c.nano))])] ?_
 refine NL (ai.np (NX (SR ?_)))
 refine aj.mem (aQ := [.abs (ak (aN (av S.O tk (fun o => { o with mode := c.mode, uid := c.uid, gid := c.gid, sec := c.sec, nano := c.nano })) L)), .blk f [vI (S.X.cN), vI (S.X.cB), vI (S.X.cH), vI (S.X.cS), vI (S.X.cZ), .map (some m), vP t, vI (S.X.last), vI (S.X.ah), vI (S.X.used)] 86, .abs (aI Tryz.prog 3 m (aM (aJ L S.idx)) S.idx.length), .abs (aX 156 t S.X.cH S.aq (aJ L S.us)), .abs (ak (aY (av S.O tk (fun o => { o with mode := c.mode, uid := c.uid, gid := c.gid, sec := c.sec, nano := c.nano })) L)), .abs (ak (bh (av S.O tk (fun o => { o with mode := c.mode, uid := c.uid, gid := c.gid, sec := c.sec, nano := c.nano })) L)), .blk cb [vI (c.op), vI (c.handle), vI (c.other), .string c.name, .string c.text, .slice c.dA (c.data.length) (c.dC), vI (c.mode), vI (c.uid), vI (c.gid), vI (c.sec), vI (c.nano), vI (c.code), vI (c.answer)] 43, .abs R]) (fun w hS => by have h := hS.uX (O := S.O) (L := L) (i := 3) (j := 8) (idx := [0, 1, 2, 4, 5, 6, 7]) (k := tk) (f := (fun o => { o with mode := c.mode, uid := c.uid, gid := c.gid, sec := c.sec, nano := c.nano })) rfl (fun _ hx => lS hx) rfl (by kernel_rfl) rfl (by show (obj S.O tk).kind ≠ 0; rw [hkt]; decide) ((gD (o := (fun o => { o with mode := c.mode, uid := c.uid, gid := c.gid, sec := c.sec, nano := c.nano }) (obj S.O tk)) (hkt)).trans rfl) (by show kI (obj S.O tk).kind = _; rw [hkt]; rfl); rw [kA (O := S.O) (k := tk) (f := (fun o => { o with mode := c.mode, uid := c.uid, gid := c.gid, sec := c.sec, nano := c.nano })) rfl rfl, kB (O := S.O) (k := tk) (f := (fun o => { o with mode := c.mode, uid := c.uid, gid := c.gid, sec := c.sec, nano := c.nano })) rfl rfl]; exact h) ?_
 have zq : (obj (av S.O tk (fun o => { o with mode := c.mode, uid := c.uid, gid := c.gid, sec := c.sec, nano := c.nano })) tk).kind = 2 := (ia (f := (fun o => { o with mode := c.mode, uid := c.uid, gid := c.gid, sec := c.sec, nano := c.nano })) (fun _ => rfl)).trans (hkt)
 generalize bO : (av S.O tk (fun o => { o with mode := c.mode, uid := c.uid, gid := c.gid, sec := c.sec, nano := c.nano })) = bH at zq ⊢
 refine gK 1 [(4, vI 0)] [] ?_
 refine NN (af.ret ?_)
 exact RT (l := [pF f m t S.X, pI m L S.idx, jI t S L, pO bH L, pD bH L, pE bH L, pC cb c]) (.int .i64 0) [1, 2, 3, 0, 4, 5, 6, 7] (⟨L, by subst bO; rw [show (bD S c) = (0, { S with O := av S.O tk (fun o => { o with mode := c.mode, uid := c.uid, gid := c.gid, sec := c.sec, nano := c.nano }) }, c) by unfold bD; rw [cE]; exact (if_neg (fun h => absurd h.1 (by rw [j9]; decide))).trans ((if_pos jT).trans ((if_pos ⟨qE, qF⟩).trans (if_pos ur)))] <;> exact ⟨rfl, rfl⟩⟩)
theorem CI {β : Bs} (S : aE) (L : HL) (f m t : Nat) (hI : Inv S) (cb : Nat) (c : aT) (hC : fD β c) :
    Spec Tryz.prog β 82 #[vP f, vP cb] ((pA f m t L S) ++ [pC cb c]) (fun v l => ∃ L2, v = vI (di S c).1 ∧ l = ((pA f m t L2 ((di S c).2.1)) ++ [.blk cb (fV ((di S c).2.2)) 43])) := by
 have hX := hI.hX
 refine Spec.enter Tryz.func82 rfl Tryz.ntmps82 (Nat.le_of_ble_eq_true rfl) (fun R => ?_)
 refine SR ?_
 refine gK 1 [] [] ?_
 refine NN (af.seq ?_)
 refine af.bG (by kernel_rfl) (by kernel_rfl) ?_
 refine gQ 9 [(10, vP f), (14, vI (c.handle)), (18, .string c.name)] [(4, a_ 6 cb), (8, a_ 6 cb)] ?_
 rcases jH hI.toInv0 c.handle c.name 192 with ⟨e, hab, hne⟩ | ⟨d, hab, hd, fZ, hgn, cE⟩
 ·refine aS.call (f := 134) (args := #[vP f, vI (c.handle), .string c.name, vI 192]) (d := (some 19)) (pre := [pF f m t S.X, jI t S L, pO S.O L]) (R := (lX m L S cb c R)) (pk := [0, 2, 3, 1, 4, 5, 6, 7]) (gF := [0, 3, 1, 2, 4, 5, 6, 7]) (v0 := .tuple #[.pointer none, vI (e)]) (fun _ => by kernel_rfl) ((by have h := cY S L f m t hI c.handle hC.hw c.name hC.nm 192 (β := β); rw [hab] at h; exact h)) rfl (by kernel_rfl) rfl (by kernel_rfl) (fun _ _ h => h) ?_
  refine gQ 5 [(5, .pointer none), (6, vI (e))] [] ?_
  refine NQ (NX (af.seq (SR ?_)))
  refine gK 2 [(23, .bool (!(decide ((e : Int) = (0 : Int)))))] [] ?_
  refine NN ?_
  refine af.cI (p := (e : Int) = (0 : Int)) (fun _ => by kernel_rfl) (fun h23 => ?_) (fun h23 => ?_)
  ·refine SR ?_
   refine gK 2 [(4, vI (e))] [] ?_
   refine NN (af.ret (ai.ar ?_))
   exact RT (vI (e)) [0, 1, 2, 3, 4, 5, 6, 7] (⟨L, by rw [show (di S c) = (e, S, c) by unfold di; rw [hab]] <;> exact ⟨rfl, rfl⟩⟩)
  exact absurd h23 hne
 have hkd : (obj S.O d).kind = 2 := hI.kind hd
 refine aS.call (f := 134) (args := #[vP f, vI (c.handle), .string c.name, vI 192]) (d := (some 19)) (pre := [pF f m t S.X, jI t S L, pO S.O L]) (R := (lX m L S cb c R)) (pk := [0, 2, 3, 1, 4, 5, 6, 7]) (gF := [0, 3, 1, 2, 4, 5, 6, 7]) (v0 := .tuple #[vP (L.b d), vI 0]) (fun _ => by kernel_rfl) ((by have h := cY S L f m t hI c.handle hC.hw c.name hC.nm 192 (β := β); rw [hab] at h; exact h)) rfl (by kernel_rfl) rfl (by kernel_rfl) (fun _ _ h => h) ?_
 refine gQ 5 (CA L d) [] ?_
 refine NQ (NX (af.seq (SR ?_)))
 refine gK 2 [(23, .bool false)] [] ?_
 refine NN ?_
 refine CF ?_
 refine af.skip (NX (af.seq (SR ?_)))
 refine gK 4 [(28, vI (c.mode))] [(3, a_ 6 cb)] ?_
 refine gL [] (dW (c.mode) 4095) ?_
 rintro _ _ ⟨rfl, rfl⟩
 refine gK 1 [(30, .bool (!(decide (0 ≤ c.mode ∧ c.mode ≤ 4095))))] [] ?_
 refine NN ?_
 refine af.cI (p := 0 ≤ c.mode ∧ c.mode ≤ 4095) (fun _ => by kernel_rfl) (fun j9 => ?_) (fun j9 => ?_)
 ·refine SR ?_
  refine gK 1 [(4, vI 120)] [] ?_
  refine NN (af.ret (ai.ar ?_))
  exact RT (vI 120) [0, 1, 2, 3, 4, 5, 6, 7] (⟨L, by rw [show (di S c) = (120, S, c) by unfold di; rw [hab]; exact if_neg j9] <;> exact ⟨rfl, rfl⟩⟩)
 refine af.skip (NX (af.seq (SR ?_)))
 refine gK 6 [(31, vP f), (32, vP (L.b d)), (36, .string c.name)] [(5, a_ 6 cb)] ?_
 refine gL [0, 1, 5, 3] (qB S L f m t hI d hd c.name hC.nm) ?_
 rintro _ _ ⟨rfl, rfl⟩
 refine gK 1 [(6, vI ((bN S.X S.O S.idx d c.name)))] [] ?_
 refine NS ?_
 refine gK 2 [(39, .bool (!(decide (((bN S.X S.O S.idx d c.name) : Int) = (0 : Int)))))] [] ?_
 refine NN ?_
 refine af.cI (p := ((bN S.X S.O S.idx d c.name) : Int) = (0 : Int)) (fun _ => by kernel_rfl) (fun h0 => ?_) (fun h0 => ?_)
 ·refine SR ?_
  refine gK 2 [(4, vI ((bN S.X S.O S.idx d c.name)))] [] ?_
  refine NN (af.ret (ai.ar ?_))
  exact RT (vI ((bN S.X S.O S.idx d c.name))) [0, 1, 4, 3, 5, 2, 6, 7] (⟨L, by rw [show (di S c) = (bN S.X S.O S.idx d c.name, S, c) by unfold di; rw [hab]; exact (if_pos j9).trans (if_neg h0)] <;> exact ⟨rfl, rfl⟩⟩)
 have hno := lV h0
 refine af.skip (NX (SR ?_))
 refine gN 8 (fun b4 => [(7, vP b4)]) (fun b4 => [(3, a_ 6 cb)]) (fun _ => []) (fun b4 => .blk b4 [vI 0, vI (c.mode), vI 0, vI 0, vI 0, vI 0, vI 0, vI 0, .bool false, .slice none (0) (0)] 92) (fun b4 => ?_)
 refine NN (af.seq (af.seq ?_))
 rcases Int.lt_or_le (S.us.length : Int) S.X.cH with qC | qC
 ·refine af.region ?_
  refine gK 4 (Mh cb f b4) [] ?_
  obtain ⟨L2, hL2⟩ : ∃ L2 : HL, L2 = L.put (aC S.X) b4 0 none 0 := ⟨_, rfl⟩
  have hfr := hI.toInv0.fresh
  refine aj.mem (aQ := [.abs (ak (aN (av S.O (aC S.X) (fun _ => (⟨0, c.mode, 0, 0, 0, 0, 0, 0, false, 1, [], ⟨#[]⟩, [], none⟩ : aO))) L2)), .blk f [vI (S.X.cN), vI (S.X.cB), vI (S.X.cH), vI (S.X.cS), vI (S.X.cZ), .map (some m), vP t, vI (S.X.last), vI (S.X.ah), vI (S.X.used)] 86, .abs (aI Tryz.prog 3 m (aM (aJ L S.idx)) S.idx.length), .abs (ak (bh S.O L)), .abs (aX 156 t S.X.cH S.aq (aJ L S.us)), .abs (ak (aY S.O L)), .blk cb [vI (c.op), vI (c.handle), vI (c.other), .string c.name, .string c.text, .slice c.dA (c.data.length) (c.dC), vI (c.mode), vI (c.uid), vI (c.gid), vI (c.sec), vI (c.nano), vI (c.code), vI (c.answer)] 43, .abs R]) (fun w hS => hS.qy hL2 hfr (o := (⟨0, c.mode, 0, 0, 0, 0, 0, 0, false, 1, [], ⟨#[]⟩, [], none⟩ : aO)) (i := 3) (j := 8) (ix := [0, 1, 2, 4, 5, 6, 7]) rfl rfl (by kernel_rfl) rfl (by show (1 : Int) ≠ 0; decide) ((d9 (L := L2) (k := (aC S.X)) (o := (⟨0, c.mode, 0, 0, 0, 0, 0, 0, false, 1, [], ⟨#[]⟩, [], none⟩ : aO)) rfl).trans (by rw [show L2.dA (aC S.X) = none by rw [hL2]; exact if_pos rfl, show L2.dC (aC S.X) = 0 by rw [hL2]; exact if_pos rfl]; rfl)) rfl) ?_
  refine aj.mem (aQ := (zC S c L2 f m t L ++ [pD S.O L, pC cb c, .abs R])) (fun w hS => hS.rG hL2 hfr (o := (⟨0, c.mode, 0, 0, 0, 0, 0, 0, false, 1, [], ⟨#[]⟩, [], none⟩ : aO)) (i := 3) rfl (by show (1 : Int) ≠ 2; decide)) ?_
  refine aj.mem (aQ := (zC S c L2 f m t L ++ [pD S.O L, pC cb c, .abs R, .abs (aG 5 1 none 0 0 ([]))])) (fun w hS => hS.jG (e := 5) (size := 1)) ?_
  refine aj.mem (aQ := ([Mg S c L2] ++ zC S c L2 f m t L ++ [pC cb c, .abs R])) (fun w hS => hS.Ew hL2 (o := (⟨0, c.mode, 0, 0, 0, 0, 0, 0, false, 1, [], ⟨#[]⟩, [], none⟩ : aO)) (i := 5) (j := 8) (ix := [0, 1, 2, 3, 4, 6, 7]) rfl rfl (by kernel_rfl) rfl rfl rfl) ?_
  refine aj.mem (aQ := [.abs (ak (aY (av S.O (aC S.X) (fun _ => (⟨0, c.mode, 0, 0, 0, 0, 0, 0, false, 1, [], ⟨#[]⟩, [], none⟩ : aO))) L2)), .abs (ak (aN (av S.O (aC S.X) (fun _ => (⟨0, c.mode, 0, 0, 0, 0, 0, 0, false, 1, [], ⟨#[]⟩, [], none⟩ : aO))) L2)), .blk f [vI (S.X.cN), vI (S.X.cB), vI (S.X.cH), vI (S.X.cS), vI (S.X.cZ), .map (some m), vP t, vI (S.X.last), vI (S.X.ah), vI (S.X.used)] 86, .abs (aI Tryz.prog 3 m (aM (aJ L2 S.idx)) S.idx.length), .abs (ak (bh (av S.O (aC S.X) (fun _ => (⟨0, c.mode, 0, 0, 0, 0, 0, 0, false, 1, [], ⟨#[]⟩, [], none⟩ : aO))) L2)), .abs (aX 156 t S.X.cH S.aq (aJ L2 S.us)), .blk cb [vI (c.op), vI (c.handle), vI (c.other), .string c.name, .string c.text, .slice c.dA (c.data.length) (c.dC), vI (c.mode), vI (c.uid), vI (c.gid), vI (c.sec), vI (c.nano), vI (c.code), vI (c.answer)] 43, .abs R]) (fun w hS => by rw [eT hL2 hfr.idx, eT hL2 hfr.us]; exact hS) ?_
  refine gL (f := 132) (args := #[vP f, .iface 89 (vP b4)]) (pre := [pF f m t S.X, jI t S L2, Mf S c L2]) [2, 5, 1] ((by have h := pW (β := β) { S with O := (av S.O (aC S.X) (fun _ => (⟨0, c.mode, 0, 0, 0, 0, 0, 0, false, 1, [], ⟨#[]⟩, [], none⟩ : aO))) } L2 f m t ⟨(aC S.X), 1⟩ (by show (obj (av S.O (aC S.X) (fun _ => (⟨0, c.mode, 0, 0, 0, 0, 0, 0, false, 1, [], ⟨#[]⟩, [], none⟩ : aO))) (aC S.X)).kind = 1; rw [bE]) (by simp) (by show 0 ≤ (obj (av S.O (aC S.X) (fun _ => (⟨0, c.mode, 0, 0, 0, 0, 0, 0, false, 1, [], ⟨#[]⟩, [], none⟩ : aO))) (aC S.X)).opens ∧ (obj (av S.O (aC S.X) (fun _ => (⟨0, c.mode, 0, 0, 0, 0, 0, 0, false, 1, [], ⟨#[]⟩, [], none⟩ : aO))) (aC S.X)).opens ≤ 1048576; rw [bE]; exact ⟨Int.le_refl _, by show (0 : Int) ≤ 1048576; decide⟩); rw [lU hL2, iL (S := { S with O := (av S.O (aC S.X) (fun _ => (⟨0, c.mode, 0, 0, 0, 0, 0, 0, false, 1, [], ⟨#[]⟩, [], none⟩ : aO))) }) (t := ⟨(aC S.X), 1⟩) qC] at h; exact h)) ?_
  rintro _ _ ⟨rfl, rfl⟩
  refine gC 7 [(6, vI 0)] [(5, a_ 6 cb)] [(6, [(12, vI ((TabM.least S.us)))])] ?_
  refine NS ?_
  refine gK 2 [(59, .bool false)] [] ?_
  refine NN ?_
  refine CF ?_
  refine af.skip (NX (SR ?_))
  refine aj.slot 7 (vP b4) (vP (L2.b (aC S.X))) (fun _ => by kernel_rfl) (by rw [xI hL2]) ?_
  refine aj.mem (aQ := [.blk f [vI (S.X.cN), vI (S.X.cB), vI (S.X.cH), vI (S.X.cS), vI (S.X.cZ), .map (some m), vP t, vI (S.X.last), vI (S.X.ah), vI (S.X.used)] 86, .abs (aX 156 t S.X.cH (max S.aq ((S.us.length : Int) + 1)) (aJ L2 (ins (TabM.least S.us) ⟨(aC S.X), 1⟩ S.us))), .abs (ak (aN (av (av S.O (aC S.X) (fun _ => (⟨0, c.mode, 0, 0, 0, 0, 0, 0, false, 1, [], ⟨#[]⟩, [], none⟩ : aO))) (aC S.X) (fun o => { o with opens := o.opens + 1 })) L2)), .abs (ak (aY (av (av S.O (aC S.X) (fun _ => (⟨0, c.mode, 0, 0, 0, 0, 0, 0, false, 1, [], ⟨#[]⟩, [], none⟩ : aO))) (aC S.X) (fun o => { o with opens := o.opens + 1 })) L2)), .abs (aI Tryz.prog 3 m (aM (aJ L2 S.idx)) S.idx.length), .abs (ak (bh (av (av S.O (aC S.X) (fun _ => (⟨0, c.mode, 0, 0, 0, 0, 0, 0, false, 1, [], ⟨#[]⟩, [], none⟩ : aO))) (aC S.X) (fun o => { o with opens := o.opens + 1 })) L2)), .blk cb [vI (c.op), vI (c.handle), vI (c.other), .string c.name, .string c.text, .slice c.dA (c.data.length) (c.dC), vI (c.mode), vI (c.uid), vI (c.gid), vI (c.sec), vI (c.nano), vI (c.code), vI ((TabM.least S.us))] 43, .abs R]) (fun w hS => by rw [kA (O := (av S.O (aC S.X) (fun _ => (⟨0, c.mode, 0, 0, 0, 0, 0, 0, false, 1, [], ⟨#[]⟩, [], none⟩ : aO)))) (k := (aC S.X)) (f := (fun o => { o with opens := o.opens + 1 })) rfl rfl, kB (O := (av S.O (aC S.X) (fun _ => (⟨0, c.mode, 0, 0, 0, 0, 0, 0, false, 1, [], ⟨#[]⟩, [], none⟩ : aO)))) (k := (aC S.X)) (f := (fun o => { o with opens := o.opens + 1 })) rfl rfl]; exact hS) ?_
  have hkN : (obj (av (av S.O (aC S.X) (fun _ => (⟨0, c.mode, 0, 0, 0, 0, 0, 0, false, 1, [], ⟨#[]⟩, [], none⟩ : aO))) (aC S.X) (fun o => { o with opens := o.opens + 1 })) (aC S.X)).kind = 1 := by rw [bE, bE]
  have Od : (obj (av (av S.O (aC S.X) (fun _ => (⟨0, c.mode, 0, 0, 0, 0, 0, 0, false, 1, [], ⟨#[]⟩, [], none⟩ : aO))) (aC S.X) (fun o => { o with opens := o.opens + 1 })) (aC S.X)).opens = 1 := by rw [bE, bE]; rfl
  generalize bO : (av (av S.O (aC S.X) (fun _ => (⟨0, c.mode, 0, 0, 0, 0, 0, 0, false, 1, [], ⟨#[]⟩, [], none⟩ : aO))) (aC S.X) (fun o => { o with opens := o.opens + 1 })) = bH at hkN Od ⊢
  refine gK 6 [(8, vI ((obj bH (aC S.X)).opens))] [(4, v_ 2 (iI L2 hkN))] ?_
  refine NS ?_
  refine gK 6 [(66, vP (L2.b (aC S.X))), (67, vP f), (71, vI (c.mode))] [(5, a_ 6 cb)] ?_
  refine gL [0] (qA S.X f m t hX c.mode) ?_
  rintro _ _ ⟨rfl, rfl⟩
  refine gK 2 [(74, vP (L2.b (aC S.X)))] [] ?_
  refine aj.mem (aQ := [.blk f [vI (S.X.cN), vI (S.X.cB), vI (S.X.cH), vI (S.X.cS), vI (S.X.cZ), .map (some m), vP t, vI (S.X.last + 1), vI (S.X.ah), vI (S.X.used)] 86, .abs (aX 156 t S.X.cH (max S.aq ((S.us.length : Int) + 1)) (aJ L2 (ins (TabM.least S.us) ⟨(aC S.X), 1⟩ S.us))), .abs (ak (iC (aN bH L2) (aC S.X) bR.none)), .abs (ak (aY bH L2)), .abs (aI Tryz.prog 3 m (aM (aJ L2 S.idx)) S.idx.length), .abs (ak (bh bH L2)), .blk cb [vI (c.op), vI (c.handle), vI (c.other), .string c.name, .string c.text, .slice c.dA (c.data.length) (c.dC), vI (c.mode), vI (c.uid), vI (c.gid), vI (c.sec), vI (c.nano), vI (c.code), vI ((TabM.least S.us))] 43, .abs R, .blk (L2.b (aC S.X)) [vI ((obj bH (aC S.X)).id), vI ((obj bH (aC S.X)).mode), vI ((obj bH (aC S.X)).uid), vI ((obj bH (aC S.X)).gid), vI ((obj bH (aC S.X)).sec), vI ((obj bH (aC S.X)).nano), vI ((obj bH (aC S.X)).links), vI ((obj bH (aC S.X)).opens), .bool (obj bH (aC S.X)).gone, .slice (L2.dA (aC S.X)) ((obj bH (aC S.X)).data.length) ((L2.dC (aC S.X)))] 92]) (fun w hS => hS.tS (i := 2) (k := (aC S.X)) rfl (by rw [hkN]; decide) (d9 (hkN)) (by rw [hkN]; rfl)) ?_
  refine gC 1 [] [(0, A_ 8 (L2.b (aC S.X)) 9)] [(8, [(0, vI (S.X.last + 1)), (1, vI (c.mode)), (2, vI 0), (3, vI 0), (4, vI (S.X.cS)), (5, vI (S.X.cZ)), (6, vI 0), (7, vI 0), (8, .bool false)])] ?_
  refine aj.mem (aQ := [.abs (ak (aN (av bH (aC S.X) (fun o => { o with id := S.X.last + 1, mode := c.mode, uid := 0, gid := 0, sec := S.X.cS, nano := S.X.cZ, links := 0, opens := 0, gone := false })) L2)), .blk f [vI (S.X.cN), vI (S.X.cB), vI (S.X.cH), vI (S.X.cS), vI (S.X.cZ), .map (some m), vP t, vI (S.X.last + 1), vI (S.X.ah), vI (S.X.used)] 86, .abs (aX 156 t S.X.cH (max S.aq ((S.us.length : Int) + 1)) (aJ L2 (ins (TabM.least S.us) ⟨(aC S.X), 1⟩ S.us))), .abs (ak (aY (av bH (aC S.X) (fun o => { o with id := S.X.last + 1, mode := c.mode, uid := 0, gid := 0, sec := S.X.cS, nano := S.X.cZ, links := 0, opens := 0, gone := false })) L2)), .abs (aI Tryz.prog 3 m (aM (aJ L2 S.idx)) S.idx.length), .abs (ak (bh (av bH (aC S.X) (fun o => { o with id := S.X.last + 1, mode := c.mode, uid := 0, gid := 0, sec := S.X.cS, nano := S.X.cZ, links := 0, opens := 0, gone := false })) L2)), .blk cb [vI (c.op), vI (c.handle), vI (c.other), .string c.name, .string c.text, .slice c.dA (c.data.length) (c.dC), vI (c.mode), vI (c.uid), vI (c.gid), vI (c.sec), vI (c.nano), vI (c.code), vI ((TabM.least S.us))] 43, .abs R]) (fun w hS => by have h := hS.uX (O := bH) (L := L2) (i := 2) (j := 8) (idx := [0, 1, 3, 4, 5, 6, 7]) (k := (aC S.X)) (f := (fun o => { o with id := S.X.last + 1, mode := c.mode, uid := 0, gid := 0, sec := S.X.cS, nano := S.X.cZ, links := 0, opens := 0, gone := false })) rfl (fun _ hx => lS hx) rfl (by kernel_rfl) rfl (by show (obj bH (aC S.X)).kind ≠ 0; rw [hkN]; decide) ((d9 (o := (fun o => { o with id := S.X.last + 1, mode := c.mode, uid := 0, gid := 0, sec := S.X.cS, nano := S.X.cZ, links := 0, opens := 0, gone := false }) (obj bH (aC S.X))) (hkN)).trans rfl) (by show kI (obj bH (aC S.X)).kind = _; rw [hkN]; rfl); rw [kA (O := bH) (k := (aC S.X)) (f := (fun o => { o with id := S.X.last + 1, mode := c.mode, uid := 0, gid := 0, sec := S.X.cS, nano := S.X.cZ, links := 0, opens := 0, gone := false })) rfl rfl, kB (O := bH) (k := (aC S.X)) (f := (fun o => { o with id := S.X.last + 1, mode := c.mode, uid := 0, gid := 0, sec := S.X.cS, nano := S.X.cZ, links := 0, opens := 0, gone := false })) rfl rfl]; exact h) ?_
  have uf : (obj (av bH (aC S.X) (fun o => { o with id := S.X.last + 1, mode := c.mode, uid := 0, gid := 0, sec := S.X.cS, nano := S.X.cZ, links := 0, opens := 0, gone := false })) (aC S.X)).kind = 1 := (ia (f := (fun o => { o with id := S.X.last + 1, mode := c.mode, uid := 0, gid := 0, sec := S.X.cS, nano := S.X.cZ, links := 0, opens := 0, gone := false })) (fun _ => rfl)).trans (hkN)
  generalize cu : (av bH (aC S.X) (fun o => { o with id := S.X.last + 1, mode := c.mode, uid := 0, gid := 0, sec := S.X.cS, nano := S.X.cZ, links := 0, opens := 0, gone := false })) = cW at uf ⊢
  refine NS ?_
  refine gK 5 [(76, vI ((obj bH (aC S.X)).opens)), (79, .pointer (some ⟨(L2.b (aC S.X)), 7, none⟩))] [] ?_
  refine pU 0 [(5, 1), (3, 2)] (aC S.X) 7 (fun o => { o with opens := (obj bH (aC S.X)).opens }) uf (fun rJ jM => ?_)
  have IQ := ku jM uf
  refine NS ?_
  have hfin : rJ = av S.O (aC S.X) (fun _ => { aA S.X 1 c.mode with opens := 1 }) := by subst jM; subst cu; rw [Od]; subst bO; simp only [qq]; rfl
  subst hfin
  show aj _ _ _ _ _ _ [pO (av S.O (aC S.X) (fun _ => { aA S.X 1 c.mode with opens := 1 })) L2, yc f m t S, pT t S.X.cH (max S.aq ((S.us.length : Int) + 1)) L2 (ins (TabM.least S.us) ⟨(aC S.X), 1⟩ S.us), pD (av S.O (aC S.X) (fun _ => { aA S.X 1 c.mode with opens := 1 })) L2, pI m L2 S.idx, pE (av S.O (aC S.X) (fun _ => { aA S.X 1 c.mode with opens := 1 })) L2, pC cb { c with answer := TabM.least S.us }, .abs R] _
  refine gK 8 [(80, vP f), (81, vP (L.b d)), (85, .string c.name), (87, .iface 89 (vP (L2.b (aC S.X))))] [(5, a_ 6 cb)] ?_
  refine gL (f := 56) (args := #[vP f, vP (L.b d), .string c.name, .iface 89 (vP (L2.b (aC S.X)))]) (pre := [yc f m t S, pI m L2 S.idx, pO (av S.O (aC S.X) (fun _ => { aA S.X 1 c.mode with opens := 1 })) L2, pE (av S.O (aC S.X) (fun _ => { aA S.X 1 c.mode with opens := 1 })) L2]) [1, 4, 0, 5] ((by have h := oO (β := β) S L2 f m t hI.toInv0 d hd c.name hC.nm hno { aA S.X 1 c.mode with opens := 1 } rfl (by simp [aA]) rfl (nC h0); rw [sC hL2 (hI.rF hd)] at h; exact h)) ?_
  rintro _ _ ⟨rfl, rfl⟩
  refine NS ?_
  refine aj.mem (aQ := [.blk f [vI ((bC S d c.name { aA S.X 1 c.mode with opens := 1 }).X.cN), vI ((bC S d c.name { aA S.X 1 c.mode with opens := 1 }).X.cB), vI ((bC S d c.name { aA S.X 1 c.mode with opens := 1 }).X.cH), vI ((bC S d c.name { aA S.X 1 c.mode with opens := 1 }).X.cS), vI ((bC S d c.name { aA S.X 1 c.mode with opens := 1 }).X.cZ), .map (some m), vP t, vI ((bC S d c.name { aA S.X 1 c.mode with opens := 1 }).X.last), vI ((bC S d c.name { aA S.X 1 c.mode with opens := 1 }).X.ah), vI ((bC S d c.name { aA S.X 1 c.mode with opens := 1 }).X.used)] 86, .abs (aI Tryz.prog 3 m (aM (aJ L2 (bC S d c.name { aA S.X 1 c.mode with opens := 1 }).idx)) ((bC S d c.name { aA S.X 1 c.mode with opens := 1 }).idx.length)), .abs (ak (aN ((bC S d c.name { aA S.X 1 c.mode with opens := 1 }).O) L2)), .abs (ak (bh ((bC S d c.name { aA S.X 1 c.mode with opens := 1 }).O) L2)), .abs (aX 156 t S.X.cH (max S.aq ((S.us.length : Int) + 1)) (aJ L2 (ins (TabM.least S.us) ⟨(aC S.X), 1⟩ S.us))), .abs (ak (aY ((bC S d c.name { aA S.X 1 c.mode with opens := 1 }).O) L2)), .blk cb [vI (c.op), vI (c.handle), vI (c.other), .string c.name, .string c.text, .slice c.dA (c.data.length) (c.dC), vI (c.mode), vI (c.uid), vI (c.gid), vI (c.sec), vI (c.nano), vI (c.code), vI ((TabM.least S.us))] 43, .abs R]) (fun w hS => by rw [show aY ((bC S d c.name { aA S.X 1 c.mode with opens := 1 }).O) L2 = aY (av S.O (aC S.X) (fun _ => { aA S.X 1 c.mode with opens := 1 })) L2 from fC]; exact hS) ?_
  refine gK 1 [(4, vI 0)] [] ?_
  refine NN (af.ret ?_)
  exact RT (vI 0) [0, 1, 4, 2, 5, 3, 6, 7] (⟨L2, by rw [show (di S c) = (0, (bC { S with us := (ins (TabM.least S.us) ⟨(aC S.X), 1⟩ S.us), aq := (max S.aq ((S.us.length : Int) + 1)) } d c.name { aA S.X 1 c.mode with opens := 1 }), { c with answer := TabM.least S.us }) by unfold di; rw [hab]; exact (if_pos j9).trans ((if_pos h0).trans (by rw [show createM S d c.name c.mode = (TabM.least S.us, 0, (bC { S with us := (ins (TabM.least S.us) ⟨(aC S.X), 1⟩ S.us), aq := (max S.aq ((S.us.length : Int) + 1)) } d c.name { aA S.X 1 c.mode with opens := 1 })) from (if_pos h0).trans (if_pos qC)]))] <;> exact ⟨rfl, rfl⟩⟩)
 refine af.region ?_
 refine gK 4 (Mh cb f b4) [] ?_
 obtain ⟨L2, hL2⟩ : ∃ L2 : HL, L2 = L.put (aC S.X) b4 0 none 0 := ⟨_, rfl⟩
 have hfr := hI.toInv0.fresh
 refine aj.mem (aQ := [.abs (ak (aN (av S.O (aC S.X) (fun _ => (⟨0, c.mode, 0, 0, 0, 0, 0, 0, false, 1, [], ⟨#[]⟩, [], none⟩ : aO))) L2)), .blk f [vI (S.X.cN), vI (S.X.cB), vI (S.X.cH), vI (S.X.cS), vI (S.X.cZ), .map (some m), vP t, vI (S.X.last), vI (S.X.ah), vI (S.X.used)] 86, .abs (aI Tryz.prog 3 m (aM (aJ L S.idx)) S.idx.length), .abs (ak (bh S.O L)), .abs (aX 156 t S.X.cH S.aq (aJ L S.us)), .abs (ak (aY S.O L)), .blk cb [vI (c.op), vI (c.handle), vI (c.other), .string c.name, .string c.text, .slice c.dA (c.data.length) (c.dC), vI (c.mode), vI (c.uid), vI (c.gid), vI (c.sec), vI (c.nano), vI (c.code), vI (c.answer)] 43, .abs R]) (fun w hS => hS.qy hL2 hfr (o := (⟨0, c.mode, 0, 0, 0, 0, 0, 0, false, 1, [], ⟨#[]⟩, [], none⟩ : aO)) (i := 3) (j := 8) (ix := [0, 1, 2, 4, 5, 6, 7]) rfl rfl (by kernel_rfl) rfl (by show (1 : Int) ≠ 0; decide) ((d9 (L := L2) (k := (aC S.X)) (o := (⟨0, c.mode, 0, 0, 0, 0, 0, 0, false, 1, [], ⟨#[]⟩, [], none⟩ : aO)) rfl).trans (by rw [show L2.dA (aC S.X) = none by rw [hL2]; exact if_pos rfl, show L2.dC (aC S.X) = 0 by rw [hL2]; exact if_pos rfl]; rfl)) rfl) ?_
 refine aj.mem (aQ := (zC S c L2 f m t L ++ [pD S.O L, pC cb c, .abs R])) (fun w hS => hS.rG hL2 hfr (o := (⟨0, c.mode, 0, 0, 0, 0, 0, 0, false, 1, [], ⟨#[]⟩, [], none⟩ : aO)) (i := 3) rfl (by show (1 : Int) ≠ 2; decide)) ?_
 refine aj.mem (aQ := (zC S c L2 f m t L ++ [pD S.O L, pC cb c, .abs R, .abs (aG 5 1 none 0 0 ([]))])) (fun w hS => hS.jG (e := 5) (size := 1)) ?_
 refine aj.mem (aQ := ([Mg S c L2] ++ zC S c L2 f m t L ++ [pC cb c, .abs R])) (fun w hS => hS.Ew hL2 (o := (⟨0, c.mode, 0, 0, 0, 0, 0, 0, false, 1, [], ⟨#[]⟩, [], none⟩ : aO)) (i := 5) (j := 8) (ix := [0, 1, 2, 3, 4, 6, 7]) rfl rfl (by kernel_rfl) rfl rfl rfl) ?_
 refine aj.mem (aQ := [.abs (ak (aY (av S.O (aC S.X) (fun _ => (⟨0, c.mode, 0, 0, 0, 0, 0, 0, false, 1, [], ⟨#[]⟩, [], none⟩ : aO))) L2)), .abs (ak (aN (av S.O (aC S.X) (fun _ => (⟨0, c.mode, 0, 0, 0, 0, 0, 0, false, 1, [], ⟨#[]⟩, [], none⟩ : aO))) L2)), .blk f [vI (S.X.cN), vI (S.X.cB), vI (S.X.cH), vI (S.X.cS), vI (S.X.cZ), .map (some m), vP t, vI (S.X.last), vI (S.X.ah), vI (S.X.used)] 86, .abs (aI Tryz.prog 3 m (aM (aJ L2 S.idx)) S.idx.length), .abs (ak (bh (av S.O (aC S.X) (fun _ => (⟨0, c.mode, 0, 0, 0, 0, 0, 0, false, 1, [], ⟨#[]⟩, [], none⟩ : aO))) L2)), .abs (aX 156 t S.X.cH S.aq (aJ L2 S.us)), .blk cb [vI (c.op), vI (c.handle), vI (c.other), .string c.name, .string c.text, .slice c.dA (c.data.length) (c.dC), vI (c.mode), vI (c.uid), vI (c.gid), vI (c.sec), vI (c.nano), vI (c.code), vI (c.answer)] 43, .abs R]) (fun w hS => by rw [eT hL2 hfr.idx, eT hL2 hfr.us]; exact hS) ?_
 refine gL (f := 132) (args := #[vP f, .iface 89 (vP b4)]) (pre := [pF f m t S.X, jI t S L2, Mf S c L2]) [2, 5, 1] ((by have h := pW (β := β) { S with O := (av S.O (aC S.X) (fun _ => (⟨0, c.mode, 0, 0, 0, 0, 0, 0, false, 1, [], ⟨#[]⟩, [], none⟩ : aO))) } L2 f m t ⟨(aC S.X), 1⟩ (by show (obj (av S.O (aC S.X) (fun _ => (⟨0, c.mode, 0, 0, 0, 0, 0, 0, false, 1, [], ⟨#[]⟩, [], none⟩ : aO))) (aC S.X)).kind = 1; rw [bE]) (by simp) (by show 0 ≤ (obj (av S.O (aC S.X) (fun _ => (⟨0, c.mode, 0, 0, 0, 0, 0, 0, false, 1, [], ⟨#[]⟩, [], none⟩ : aO))) (aC S.X)).opens ∧ (obj (av S.O (aC S.X) (fun _ => (⟨0, c.mode, 0, 0, 0, 0, 0, 0, false, 1, [], ⟨#[]⟩, [], none⟩ : aO))) (aC S.X)).opens ≤ 1048576; rw [bE]; exact ⟨Int.le_refl _, by show (0 : Int) ≤ 1048576; decide⟩); rw [lU hL2, j4 (S := { S with O := (av S.O (aC S.X) (fun _ => (⟨0, c.mode, 0, 0, 0, 0, 0, 0, false, 1, [], ⟨#[]⟩, [], none⟩ : aO))) }) (t := ⟨(aC S.X), 1⟩) (by show ¬ (S.us.length : Int) < S.X.cH; omega)] at h; exact h)) ?_
 rintro _ _ ⟨rfl, rfl⟩
 refine gC 7 [(6, vI 130)] [(5, a_ 6 cb)] [(6, [(12, vI 0)])] ?_
 refine NS ?_
 refine gK 2 [(59, .bool true)] [] ?_
 refine NN ?_
 refine CT ?_
 refine SR ?_
 have hk0 : (obj S.O (aC S.X)).kind = 0 := hI.oM _ (by have := mV hI.toInv0; omega)
 refine aj.mem (aQ := [.blk f [vI (S.X.cN), vI (S.X.cB), vI (S.X.cH), vI (S.X.cS), vI (S.X.cZ), .map (some m), vP t, vI (S.X.last), vI (S.X.ah), vI (S.X.used)] 86, .abs (aX 156 t S.X.cH S.aq (aJ L2 S.us)), .abs (ak (aN S.O L)), .abs (ak (aY (av S.O (aC S.X) (fun _ => (⟨0, c.mode, 0, 0, 0, 0, 0, 0, false, 1, [], ⟨#[]⟩, [], none⟩ : aO))) L2)), .abs (aI Tryz.prog 3 m (aM (aJ L2 S.idx)) S.idx.length), .abs (ak (bh (av S.O (aC S.X) (fun _ => (⟨0, c.mode, 0, 0, 0, 0, 0, 0, false, 1, [], ⟨#[]⟩, [], none⟩ : aO))) L2)), .blk cb [vI (c.op), vI (c.handle), vI (c.other), .string c.name, .string c.text, .slice c.dA (c.data.length) (c.dC), vI (c.mode), vI (c.uid), vI (c.gid), vI (c.sec), vI (c.nano), vI (c.code), vI 0] 43, .abs R]) (fun w hS => hS.tY (i := 2) rfl (aC S.X) (fun x hx => by rw [rA hx, DW hL2 hfr hx]) (by unfold aN; rw [hk0]; rfl)) ?_
 refine aj.mem (aQ := [.blk f [vI (S.X.cN), vI (S.X.cB), vI (S.X.cH), vI (S.X.cS), vI (S.X.cZ), .map (some m), vP t, vI (S.X.last), vI (S.X.ah), vI (S.X.used)] 86, .abs (aX 156 t S.X.cH S.aq (aJ L2 S.us)), .abs (ak (aN S.O L)), .abs (ak (aY (av S.O (aC S.X) (fun _ => (⟨0, c.mode, 0, 0, 0, 0, 0, 0, false, 1, [], ⟨#[]⟩, [], none⟩ : aO))) L2)), .abs (aI Tryz.prog 3 m (aM (aJ L2 S.idx)) S.idx.length), .abs (ak (bh S.O L)), .blk cb [vI (c.op), vI (c.handle), vI (c.other), .string c.name, .string c.text, .slice c.dA (c.data.length) (c.dC), vI (c.mode), vI (c.uid), vI (c.gid), vI (c.sec), vI (c.nano), vI (c.code), vI 0] 43, .abs R]) (fun w hS => hS.tY (i := 5) rfl (aC S.X) (fun x hx => by rw [tO hx, zj hL2 hfr hx]) (by unfold bh; rw [hk0]; rfl)) ?_
 refine aj.mem (aQ := [.blk f [vI (S.X.cN), vI (S.X.cB), vI (S.X.cH), vI (S.X.cS), vI (S.X.cZ), .map (some m), vP t, vI (S.X.last), vI (S.X.ah), vI (S.X.used)] 86, .abs (aX 156 t S.X.cH S.aq (aJ L2 S.us)), .abs (ak (aN S.O L)), .abs (ak (aY S.O L)), .abs (aI Tryz.prog 3 m (aM (aJ L2 S.idx)) S.idx.length), .abs (ak (bh S.O L)), .blk cb [vI (c.op), vI (c.handle), vI (c.other), .string c.name, .string c.text, .slice c.dA (c.data.length) (c.dC), vI (c.mode), vI (c.uid), vI (c.gid), vI (c.sec), vI (c.nano), vI (c.code), vI 0] 43, .abs R]) (fun w hS => hS.tY (i := 3) rfl (aC S.X) (fun x hx => by rw [tP hx, vf hL2 hx]) (by unfold aY; rw [hk0]; rfl)) ?_
 refine aj.mem (aQ := [.blk f [vI (S.X.cN), vI (S.X.cB), vI (S.X.cH), vI (S.X.cS), vI (S.X.cZ), .map (some m), vP t, vI (S.X.last), vI (S.X.ah), vI (S.X.used)] 86, .abs (aX 156 t S.X.cH S.aq (aJ L S.us)), .abs (ak (aN S.O L)), .abs (ak (aY S.O L)), .abs (aI Tryz.prog 3 m (aM (aJ L S.idx)) S.idx.length), .abs (ak (bh S.O L)), .blk cb [vI (c.op), vI (c.handle), vI (c.other), .string c.name, .string c.text, .slice c.dA (c.data.length) (c.dC), vI (c.mode), vI (c.uid), vI (c.gid), vI (c.sec), vI (c.nano), vI (c.code), vI 0] 43, .abs R]) (fun w hS => by rw [eT hL2 hfr.idx, eT hL2 hfr.us] at hS; exact hS) ?_
 refine gK 2 [(4, vI 130)] [] ?_
 refine NN (af.ret (ai.ar ?_))
 exact RT (vI 130) [0, 4, 1, 2, 3, 5, 6, 7] (⟨L, by rw [show (di S c) = (130, S, { c with answer := 0 }) by unfold di; rw [hab]; exact (if_pos j9).trans ((if_pos h0).trans (by rw [show createM S d c.name c.mode = (0, 130, S) from (if_pos h0).trans (if_neg (by omega))]))] <;> exact ⟨rfl, rfl⟩⟩)
end
section
open Go.RowKit
def rL (b : Nat) (v : Value) : bR where
  h F w := ∃ cs T, cs[0]? = some v ∧ (HP.blk b cs T).h F w
  lt := fun ⟨_, _, _, h⟩ => HP.lt h
  st := fun ⟨cs, T, hv, h⟩ _ _ hk hd => ⟨cs, T, hv, HP.st h hk hd⟩
theorem rL.cell {b : Nat} {v : Value} : ∀ F w, (rL b v).h F w → w.cell? ⟨b, 0, none⟩ = some v := by
  rintro F w ⟨cs, T, hv, h⟩
  exact (eU h.1 rfl rfl hv).1
theorem Sat.first {β : Bs} {l : List HP} {w : World} {i b : Nat} {cs : List Value} {T : TypeId} {v : Value} (h : Sat β l w) (hp : l[i]? = some (.blk b cs T)) (hv : cs[0]? = some v) : Sat β [.abs (rL b v)] w := by
  obtain ⟨ho, φ, h1, h2, h3⟩ := h
  have hi := br hp
  refine ⟨ho, fun _ => φ i, fun j q hq => ?_, fun j hj => h2 i hi, fun j k hj hk hne => ?_⟩
  ·have hj := br hq
   simp at hj
   subst hj
   simp at hq
   subst hq
   exact ⟨cs, T, hv, h1 i _ hp⟩
  simp at hj hk
  omega
section mix
variable {P : Program} {β : Bs} {N : Nat} {ops : Array Oper} {S : List HP} {l : List Nat} {fr : Fr} {hps : List HP} {Q : Post} {i : Nat}
theorem af.E0 {id : Nat} (perm : List Nat) (nr : Nat) (hm : P.follows .mixedOrders = true) (hB : xg ops perm nr = true) (hp : ∀ w, Sat β hps w → Sat β S w) (h : aF P β N ops S nr perm fr hps Q) : af P β N (.region id ops true) fr hps Q := by
  intro junk w hS
  unfold xg at hB
  simp only [Bool.and_eq_true, beq_iff_eq] at hB
  obtain ⟨⟨⟨h1, h2⟩, h3⟩, h4⟩ := hB
  have cP := hS.drewN 1
  have h5 := yS (Q := Q) h1 h2 nr perm _ _ _ h4 (fun j oj _ hl => by simp [Array.getD_eq_getD_getElem?, Array.getElem?_replicate] at hl; split at hl <;> simp at hl) (hp _ cP) (h junk (w.drewN 1) cP)
  rw [h3] at h5
  refine Code.wp_mono (fun e a w q => ?_) (wp_region_any hm (mg _ _ _ _ h5))
  cases e with
  | normal => exact q
  | exit id => exact q.elim
  | goto l => exact q.elim
  | ret => exact q.elim
  | panic ch => exact q.elim
  | outgrown => exact q.elim
theorem aF.E4 {ι : Type} {fr' : ι → Fr} {hp' : ι → List HP} {o : Oper} (hop : ops[i]? = some o) (hg : o.guard = none) (h : aj P β N #[o] 0 fr hps (NP (iY β N fr' hp'))) (hp : ∀ j w, Sat β (hp' j) w → Sat β S w)
    (K : ∀ j, aF P β N ops S 0 l (fr' j) (hp' j) Q) : aF P β N ops S 0 (i :: l) fr hps Q := by
  intro junk w hS
  unfold kq
  refine eW hop hg ?_
  have h1 := h junk w hS
  have h2 : wpList P #[o] (NP (iY β N fr' hp')) [o] (cA N fr junk) w := h1
  refine gS (fun a w ⟨j, fH, ha, cP⟩ => ?_) h2
  subst ha
  exact ⟨.inr (hp j _ cP), K j fH w cP⟩
end mix
end
section
open Go.RowKit Go.Maps HeapM TabM
def GF : List Nat := [78, 79, 80, 81, 82, 83, 84, 85, 86, 87, 88, 89, 90, 91, 92]
def Oe : Value := .agg ⟨.nilFunc :: GF.map (fun f => .func (.func f) #[] #[])⟩
theorem E5 {n : Int} (h : 1 ≤ n ∧ n ≤ 15) : n = 1 ∨ n = 2 ∨ n = 3 ∨ n = 4 ∨ n = 5 ∨ n = 6 ∨ n = 7 ∨ n = 8 ∨ n = 9 ∨ n = 10 ∨ n = 11 ∨ n = 12 ∨ n = 13 ∨ n = 14 ∨ n = 15 := by omega
theorem Mi {w : World} {o : Oper} {ev : Operand → Value} {x y : Operand} {n : Int} (ho : o.op = .index 118 x y) (hx : ev x = Oe) (hy : ev y = .int .i64 n) (hn : 1 ≤ n ∧ n ≤ 15) : mJ Tryz.prog ev o w (.func (.func (GF.getD (n.toNat - 1) 0)) #[] #[]) w := by
  obtain ⟨dst, op, type, pos, after, guard⟩ := o
  cases ho
  refine .inl ?_
  simp only [execOp, hx, hy]
  rcases E5 hn with h | h | h | h | h | h | h | h | h | h | h | h | h | h | h <;> subst h <;> kernel_rfl
theorem aj.hn {β : Bs} {N k : Nat} {ops : Array Oper} {fr : Fr} {hps : List HP} {Q : Post} {d : Option Tmp} {x y : Operand} {n : Int} (hn : 1 ≤ n ∧ n ≤ 15) (K : aj Tryz.prog β N ops (k + 1) (cG fr d (.func (.func (GF.getD (n.toNat - 1) 0)) #[] #[])) hps Q)
    (hop : ∀ junk, dR N junk ops fr k = some (.index 118 x y, d) := by intro _; kernel_rfl) (hx : ∀ junk, cC N fr junk x = Oe := by intro _; kernel_rfl) (hy : ∀ junk, cC N fr junk y = .int .i64 n := by intro _; kernel_rfl) : aj Tryz.prog β N ops k fr hps Q :=
  aj.iB hop (fun _ junk w ho hS => ⟨w, Mi ho (hx junk) (hy junk) hn, hS⟩) K
theorem Ny {β : Bs} {S : aE} {L : HL} {f m t b : Nat} {c : aT} (n : Int) (hI : Inv S) (hC : fD β c) (h : 1 ≤ n ∧ n ≤ 15) (he : c.op = n) : Spec Tryz.prog β (GF.getD (n.toNat - 1) 0) #[vP f, vP b] (pA f m t L S ++ [pC b c]) (fun v l => ∃ L2, v = vI (opM S c).1 ∧ l = pA f m t L2 (opM S c).2.1 ++ [pC b (opM S c).2.2]) := by
  subst he
  rcases E5 h with h | h | h | h | h | h | h | h | h | h | h | h | h | h | h <;> rw [h]
  ·rw [xQ h]; exact EU S L f m t hI b c hC
  ·rw [xR h]; exact AO S L f m t hI b c hC
  ·rw [A6 h]; exact zy S L f m t hI b c hC
  ·rw [xS h]; exact Dw S L f m t hI b c hC
  ·rw [A8 h]; exact CI S L f m t hI b c hC
  ·rw [Ba h]; exact AP S L f m t hI b c hC
  ·rw [Bb h]; exact EY S L f m t hI b c hC
  ·rw [Bc h]; exact CB S L f m t hI b c hC
  ·rw [Bd h]; exact Dy S L f m t hI b c hC
  ·rw [xT h]; exact AQ S L f m t hI b c hC
  ·rw [xU h]; exact EZ S L f m t hI b c hC
  ·rw [xV h]; exact CH S L f m t hI b c hC
  ·rw [xW h]; exact Dz S L f m t hI b c hC
  ·rw [xX h]; exact Dx S L f m t hI b c hC
  rw [xY h]; exact CC S L f m t hI b c hC
theorem GH {S : aE} {c : aT} (h : 1 ≤ c.op ∧ c.op ≤ 15) : (opM S c).2.2.op = c.op := by
  rcases E5 h with h | h | h | h | h | h | h | h | h | h | h | h | h | h | h
  ·rw [xQ h]; exact Kr
  ·rw [xR h]; exact ED
  ·rw [A6 h]; exact Dr
  ·rw [xS h]; exact EF
  ·rw [A8 h]; exact Ds
  ·rw [Ba h]; exact Cn
  ·rw [Bb h]; exact Gl
  ·rw [Bc h]; exact Dt
  ·rw [Bd h]; exact EH
  ·rw [xT h]; exact EI
  ·rw [xU h]; exact Kt
  ·rw [xV h]; exact Gm
  ·rw [xW h]; exact IJ
  ·rw [xX h]; exact EG
  rw [xY h]; exact Du
end
section
open Go.RowKit Go.Maps HeapM TabM
attribute [local irreducible] aj aS af ai
abbrev J3 (b3 : Nat) := (.blk b3 [vI 0, vI 0, vI 0, .string ⟨#[]⟩, .string ⟨#[]⟩, .slice none (0) (0), vI 0, vI 0, vI 0, vI 0, vI 0, vI 0, vI 0] 43 : HP)
abbrev Og (c : aT) := ([(0, vI (c.op)), (1, vI (c.handle)), (2, vI (c.other)), (3, .string c.name), (4, .string c.text), (5, .slice c.dA (c.data.length) (c.dC)), (6, vI (c.mode)), (7, vI (c.uid)), (8, vI (c.gid)), (9, vI (c.sec)), (10, vI (c.nano)), (11, vI 230)] : Fr)
theorem DA {β : Bs} : Spec Tryz.prog β 44 #[] [] (fun v l => v = .agg #[.nilFunc, .func (.func 78) #[] #[], .func (.func 79) #[] #[], .func (.func 80) #[] #[], .func (.func 81) #[] #[], .func (.func 82) #[] #[], .func (.func 83) #[] #[], .func (.func 84) #[] #[], .func (.func 85) #[] #[], .func (.func 86) #[] #[], .func (.func 87) #[] #[], .func (.func 88) #[] #[], .func (.func 89) #[] #[], .func (.func 90) #[] #[], .func (.func 91) #[] #[], .func (.func 92) #[] #[]] ∧ l = []) := by
 refine Spec.enter Tryz.func44 rfl Tryz.ntmps44 (Nat.le_of_ble_eq_true rfl) (fun R => ?_)
 refine SR ?_
 refine gN 1 (fun b1 => [(0, vP b1)]) (fun _ => []) (fun _ => []) (fun b1 => .blk b1 [.nilFunc, .nilFunc, .nilFunc, .nilFunc, .nilFunc, .nilFunc, .nilFunc, .nilFunc, .nilFunc, .nilFunc, .nilFunc, .nilFunc, .nilFunc, .nilFunc, .nilFunc, .nilFunc] 118) (fun b1 => ?_)
 refine NS ?_
 refine gC 2 [] [(1, A_ 1 b1 16)] [(1, [(1, .func (.func 78) #[] #[]), (2, .func (.func 79) #[] #[]), (3, .func (.func 80) #[] #[]), (4, .func (.func 81) #[] #[]), (5, .func (.func 82) #[] #[]), (6, .func (.func 83) #[] #[]), (7, .func (.func 84) #[] #[]), (8, .func (.func 85) #[] #[]), (9, .func (.func 86) #[] #[]), (10, .func (.func 87) #[] #[]), (11, .func (.func 88) #[] #[]), (12, .func (.func 89) #[] #[]), (13, .func (.func 90) #[] #[]), (14, .func (.func 91) #[] #[]), (15, .func (.func 92) #[] #[])])] ?_
 refine NN (af.ret ?_)
 exact ai.ret (v := .agg #[.nilFunc, .func (.func 78) #[] #[], .func (.func 79) #[] #[], .func (.func 80) #[] #[], .func (.func 81) #[] #[], .func (.func 82) #[] #[], .func (.func 83) #[] #[], .func (.func 84) #[] #[], .func (.func 85) #[] #[], .func (.func 86) #[] #[], .func (.func 87) #[] #[], .func (.func 88) #[] #[], .func (.func 89) #[] #[], .func (.func 90) #[] #[], .func (.func 91) #[] #[], .func (.func 92) #[] #[]]) (l := []) (aV := [b1 = b1, b1 = b1, b1 = b1, b1 = b1, b1 = b1, b1 = b1, b1 = b1, b1 = b1, b1 = b1, b1 = b1, b1 = b1, b1 = b1, b1 = b1, b1 = b1, b1 = b1, b1 = b1]) [.at 1, .at 1, .at 1, .at 1, .at 1, .at 1, .at 1, .at 1, .at 1, .at 1, .at 1, .at 1, .at 1, .at 1, .at 1, .at 1] [0] (fun _ => by kernel_rfl) ⟨rfl, rfl, rfl, rfl, rfl, rfl, rfl, rfl, rfl, rfl, rfl, rfl, rfl, rfl, rfl, rfl, trivial⟩ rfl (by kernel_rfl) (⟨rfl, rfl⟩)
theorem GI {β : Bs} (S : aE) (L : HL) (f m t : Nat) (hI : Inv S) (c : aT) (hC : fD β c) :
    Spec Tryz.prog β 16 #[vP f, .agg #[vI (c.op), vI (c.handle), vI (c.other), .string c.name, .string c.text, .slice c.dA (c.data.length) (c.dC), vI (c.mode), vI (c.uid), vI (c.gid), vI (c.sec), vI (c.nano), vI (c.code), vI (c.answer)]] (pA f m t L S) (fun v l => ∃ L2, v = .agg ⟨fV (doM S c).2⟩ ∧ l = (pA f m t L2 ((doM S c).1))) := by
 have hX := hI.hX
 refine Spec.enter Tryz.func16 rfl Tryz.ntmps16 (Nat.le_of_ble_eq_true rfl) (fun R => ?_)
 refine SR ?_
 refine gN 1 (fun b2 => [(3, vP b2)]) (fun _ => []) (fun _ => []) (fun b2 => pC b2 c) (fun b2 => ?_)
 refine gN 1 (fun b3 => [(4, vP b3)]) (fun _ => []) (fun _ => []) (fun b3 => .blk b3 [vI 0, vI 0, vI 0, .string ⟨#[]⟩, .string ⟨#[]⟩, .slice none (0) (0), vI 0, vI 0, vI 0, vI 0, vI 0, vI 0, vI 0] 43) (fun b3 => ?_)
 refine NS ?_
 refine gC 2 [] [(1, a_ 7 b2)] [(7, [(12, vI 0)])] ?_
 refine NS ?_
 refine gC 2 [] [(1, a_ 7 b2)] [(7, [(11, vI 230)])] ?_
 refine NN (af.seq (SR ?_))
 refine gK 4 [(10, .bool (decide ((c.op : Int) ≥ (1 : Int))))] [(1, a_ 7 b2)] ?_
 refine aj.fU 10 ((c.op : Int) ≥ (1 : Int)) (fun _ => by kernel_rfl) (fun h10 => ?_) (fun h10 => ?_)
 ·refine gK 4 [(14, .bool (decide ((c.op : Int) ≤ (15 : Int))))] [(1, a_ 7 b2)] ?_
  refine NN ?_
  refine af.bA (p := (c.op : Int) ≤ (15 : Int)) (fun _ => by kernel_rfl) (fun gH => ?_) (fun gH => ?_)
  ·have hop : 1 ≤ c.op ∧ c.op ≤ 15 := ⟨h10, gH⟩
   refine af.E0 (S := [.abs (rL b2 (.int .i64 c.op))]) [1, 2, 4, 0, 3, 5, 6, 7] 3 (by kernel_rfl) (by kernel_rfl) (fun w hS => hS.first (i := 7) (b := b2) rfl rfl) ?_
   refine aF.reads (r := 0) (l := [0, 3, 5, 6, 7]) (fr' := [(3, vP b2), (4, vP b3), (17, vI (c.op)), (19, vP f)]) (aV := [(∀ F w, (rL b2 (.int .i64 c.op)).h F w → w.cell? ⟨b2, 0, none⟩ = some (vI (c.op)))]) [1, 2, 4] [o_, ⟨[.view 0 (.int .i64 (c.op))], none, none, none, none⟩, o_] [3, 4, 17, 19] (fun _ => by kernel_rfl) ⟨rL.cell, trivial⟩ rfl rfl ?_
   refine aF.E4 (ι := Unit) (fr' := fun (_ : Unit) => [(3, vP b2), (4, vP b3), (15, .agg #[.nilFunc, .func (.func 78) #[] #[], .func (.func 79) #[] #[], .func (.func 80) #[] #[], .func (.func 81) #[] #[], .func (.func 82) #[] #[], .func (.func 83) #[] #[], .func (.func 84) #[] #[], .func (.func 85) #[] #[], .func (.func 86) #[] #[], .func (.func 87) #[] #[], .func (.func 88) #[] #[], .func (.func 89) #[] #[], .func (.func 90) #[] #[], .func (.func 91) #[] #[], .func (.func 92) #[] #[]]), (17, vI (c.op)), (19, vP f)]) (hp' := fun (_ : Unit) => ((pA f m t L S) ++ [.abs R, pC b2 (c0 c), J3 b3])) rfl rfl ?_ (by rintro _ w hS; exact hS.first (i := 7) (b := b2) rfl rfl) ?_
   ·refine gL [] (DA) ?_
    rintro _ _ ⟨rfl, rfl⟩
    refine NL ?_
    exact MD () [3, 4, 15, 17, 19] [0, 1, 2, 3, 4, 5, 6, 7, 8]
   rintro _
   refine aF.E4 (ι := Unit) (fr' := fun (_ : Unit) => [(3, vP b2), (4, vP b3), (18, .func (.func (GF.getD (c.op.toNat - 1) 0)) #[] #[]), (19, vP f)]) (hp' := fun (_ : Unit) => ((pA f m t L S) ++ [.abs R, pC b2 (c0 c), J3 b3])) rfl rfl ?_ (by rintro _ w hS; exact hS.first (i := 7) (b := b2) rfl rfl) ?_
   ·refine aj.hn (x := (.tmp 15)) (y := (.tmp 17)) (d := (some 18)) hop ?_
    refine NL ?_
    exact MD () [3, 4, 18, 19] [0, 1, 2, 3, 4, 5, 6, 7, 8]
   rintro _
   refine aF.E4 (ι := HL) (fr' := fun (L2 : HL) => [(3, vP b2), (4, vP b3), (20, vI ((opM S (c0 c)).1))]) (hp' := fun (L2 : HL) => ((pA f m t L2 ((opM S (c0 c)).2.1)) ++ [pC b2 ((opM S (c0 c)).2.2), .abs R, J3 b3])) rfl rfl ?_ (by rintro L2 w hS; exact hS.first (i := 6) (b := b2) rfl (congrArg (fun z => some (Value.int .i64 z)) (GH (c := (c0 c)) hop))) ?_
   ·refine gL [0, 1, 2, 3, 4, 5, 7] (Ny (S := S) (L := L) (f := f) (m := m) (t := t) (b := b2) (c := (c0 c)) c.op hI ⟨hC.hw, hC.ow, hC.nm, hC.tx, hC.da, hC.dl, hC.dc⟩ hop rfl) ?_ (by intro _; rcases E5 hop with h | h | h | h | h | h | h | h | h | h | h | h | h | h | h <;> rw [h] <;> kernel_rfl)
    rintro _ _ ⟨L2, rfl, rfl⟩
    refine NL ?_
    exact MD L2 [3, 4, 20] [0, 1, 2, 3, 4, 5, 6, 7, 8]
   rintro L2
   refine aF.E4 (ι := Unit) (fr' := fun (_ : Unit) => [(3, vP b2), (4, vP b3), (20, vI ((opM S (c0 c)).1)), (21, .pointer (some ⟨b2, 11, none⟩))]) (hp' := fun (_ : Unit) => ((pA f m t L2 ((opM S (c0 c)).2.1)) ++ [pC b2 ((opM S (c0 c)).2.2), .abs R, J3 b3])) rfl rfl ?_ (by rintro _ w hS; exact hS.first (i := 6) (b := b2) rfl (congrArg (fun z => some (Value.int .i64 z)) (GH (c := (c0 c)) hop))) ?_
   ·refine gK 1 [(21, .pointer (some ⟨b2, 11, none⟩))] [] ?_
    refine NL ?_
    exact MD () [3, 4, 20, 21] [0, 1, 2, 3, 4, 5, 6, 7, 8]
   rintro _
   refine aF.last rfl rfl ?_
   refine gC 1 [] [(0, a_ 6 b2)] [(6, [(11, vI ((opM S (c0 c)).1))])] ?_
   refine NL (ai.np (NX (SR ?_)))
   refine gC 2 [] [(0, A_ 6 b2 13), (1, A_ 8 b3 13)] [(8, [(0, vI ((opM S (c0 c)).2.2.op)), (1, vI ((opM S (c0 c)).2.2.handle)), (2, vI ((opM S (c0 c)).2.2.other)), (3, .string (opM S (c0 c)).2.2.name), (4, .string (opM S (c0 c)).2.2.text), (5, .slice (opM S (c0 c)).2.2.dA ((opM S (c0 c)).2.2.data.length) ((opM S (c0 c)).2.2.dC)), (6, vI ((opM S (c0 c)).2.2.mode)), (7, vI ((opM S (c0 c)).2.2.uid)), (8, vI ((opM S (c0 c)).2.2.gid)), (9, vI ((opM S (c0 c)).2.2.sec)), (10, vI ((opM S (c0 c)).2.2.nano)), (11, vI ((opM S (c0 c)).1)), (12, vI ((opM S (c0 c)).2.2.answer))])] ?_
   refine NN (af.ret ?_)
   exact ai.ret (v := .agg #[vI ((opM S (c0 c)).2.2.op), vI ((opM S (c0 c)).2.2.handle), vI ((opM S (c0 c)).2.2.other), .string (opM S (c0 c)).2.2.name, .string (opM S (c0 c)).2.2.text, .slice (opM S (c0 c)).2.2.dA ((opM S (c0 c)).2.2.data.length) ((opM S (c0 c)).2.2.dC), vI ((opM S (c0 c)).2.2.mode), vI ((opM S (c0 c)).2.2.uid), vI ((opM S (c0 c)).2.2.gid), vI ((opM S (c0 c)).2.2.sec), vI ((opM S (c0 c)).2.2.nano), vI ((opM S (c0 c)).1), vI ((opM S (c0 c)).2.2.answer)]) (l := (pA f m t L2 ((opM S (c0 c)).2.1))) (aV := [b3 = b3, b3 = b3, b3 = b3, b3 = b3, b3 = b3, b3 = b3, b3 = b3, b3 = b3, b3 = b3, b3 = b3, b3 = b3, b3 = b3, b3 = b3]) [.at 8, .at 8, .at 8, .at 8, .at 8, .at 8, .at 8, .at 8, .at 8, .at 8, .at 8, .at 8, .at 8] [0, 1, 2, 3, 4, 5, 7] (fun _ => by kernel_rfl) ⟨rfl, rfl, rfl, rfl, rfl, rfl, rfl, rfl, rfl, rfl, rfl, rfl, rfl, trivial⟩ rfl (by kernel_rfl) (⟨L2, rfl, rfl⟩)
  refine af.skip (NX (SR ?_))
  refine gC 2 [] [(0, A_ 7 b2 13), (1, A_ 8 b3 13)] [(8, (Og c))] ?_
  refine NN (af.ret ?_)
  exact ai.ret (v := .agg #[vI (c.op), vI (c.handle), vI (c.other), .string c.name, .string c.text, .slice c.dA (c.data.length) (c.dC), vI (c.mode), vI (c.uid), vI (c.gid), vI (c.sec), vI (c.nano), vI 230, vI 0]) (l := (pA f m t L S)) (aV := [b3 = b3, b3 = b3, b3 = b3, b3 = b3, b3 = b3, b3 = b3, b3 = b3, b3 = b3, b3 = b3, b3 = b3, b3 = b3, b3 = b3, b3 = b3]) [.at 8, .at 8, .at 8, .at 8, .at 8, .at 8, .at 8, .at 8, .at 8, .at 8, .at 8, .at 8, .at 8] [0, 1, 2, 3, 4, 5, 6] (fun _ => by kernel_rfl) ⟨rfl, rfl, rfl, rfl, rfl, rfl, rfl, rfl, rfl, rfl, rfl, rfl, rfl, trivial⟩ rfl (by kernel_rfl) (⟨L, by unfold doM; rw [xZ (S := S) (c := (c0 c)) (by show ¬ (1 ≤ c.op ∧ c.op ≤ 15); omega)]; exact ⟨rfl, rfl⟩⟩)
 refine gK 4 [(14, .bool false)] [] ?_
 refine NN ?_
 refine CF ?_
 refine af.skip (NX (SR ?_))
 refine gC 2 [] [(0, A_ 7 b2 13), (1, A_ 8 b3 13)] [(8, (Og c))] ?_
 refine NN (af.ret ?_)
 exact ai.ret (v := .agg #[vI (c.op), vI (c.handle), vI (c.other), .string c.name, .string c.text, .slice c.dA (c.data.length) (c.dC), vI (c.mode), vI (c.uid), vI (c.gid), vI (c.sec), vI (c.nano), vI 230, vI 0]) (l := (pA f m t L S)) (aV := [b3 = b3, b3 = b3, b3 = b3, b3 = b3, b3 = b3, b3 = b3, b3 = b3, b3 = b3, b3 = b3, b3 = b3, b3 = b3, b3 = b3, b3 = b3]) [.at 8, .at 8, .at 8, .at 8, .at 8, .at 8, .at 8, .at 8, .at 8, .at 8, .at 8, .at 8, .at 8] [0, 1, 2, 3, 4, 5, 6] (fun _ => by kernel_rfl) ⟨rfl, rfl, rfl, rfl, rfl, rfl, rfl, rfl, rfl, rfl, rfl, rfl, rfl, trivial⟩ rfl (by kernel_rfl) (⟨L, by unfold doM; rw [xZ (S := S) (c := (c0 c)) (by show ¬ (1 ≤ c.op ∧ c.op ≤ 15); omega)]; exact ⟨rfl, rfl⟩⟩)
end
end Go.Proofs.YtkiedlmhocglhaaGreatDoor
section
namespace Go.Proofs
open Go.Shelf
def Tryz.keysS_ren : Go.Shelf.Ren := ⟨fun | 7 => 43 | 10 => 77 | n => n, fun | 23 => 97 | 26 => 9 | 3 => 84 | 28 => 114 | 0 => 0 | 27 => 113 | 33 => 38 | 4 => 4 | n => n, fun | n => n⟩
theorem Tryz.keysS : Go.Proofs.SlLaysZ.n7 Tryz.prog Tryz.keysS_ren := {
  mixed := by kernel_rfl
  f7 := ⟨Tryz.f43.name, by decide, Tryz.func43.trans (congrArg some (by kernel_rfl))⟩
  f10 := ⟨Tryz.f77.name, by decide, Tryz.func77.trans (congrArg some (by kernel_rfl))⟩
  t0 := Tryz.underlying0
  a0 := Tryz.isAgg0
  z0 := Tryz.sizeOf0
  v0 := Tryz.zeroValue0
  t4 := Tryz.underlying4
  a4 := Tryz.isAgg4
  z4 := Tryz.sizeOf4
  v4 := Tryz.zeroValue4
  t23 := Tryz.underlying97
  a23 := Tryz.isAgg97
  z23 := Tryz.sizeOf97
  v23 := Tryz.zeroValue97
  t26 := Tryz.underlying9
  a26 := Tryz.isAgg9
  z26 := Tryz.sizeOf9
  v26 := Tryz.zeroValue9
  t27 := Tryz.underlying113
  a27 := Tryz.isAgg113
  z27 := Tryz.sizeOf113
  v27 := Tryz.zeroValue113
  t28 := Tryz.underlying114
  a28 := Tryz.isAgg114
  z28 := Tryz.sizeOf114
  v28 := Tryz.zeroValue114
  t33 := Tryz.underlying38
  a33 := Tryz.isAgg38
  z33 := Tryz.sizeOf38
  v33 := Tryz.zeroValue38 }
def Tryz.sortedS_ren : Go.Shelf.Ren := ⟨fun | 6 => 42 | 8 => 75 | 9 => 76 | 11 => 130 | 13 => 129 | 12 => 131 | 23 => 164 | 24 => 165 | 14 => 166 | 15 => 167 | 16 => 168 | 17 => 169 | 18 => 170 | 19 => 171 | 20 => 172 | 21 => 173 | 22 => 174 | 25 => 188 | 26 => 183 | 27 => 184 | 28 => 189 | 29 => 190 | 30 => 191 | 31 => 200 | n => n, fun | 26 => 9 | 28 => 114 | 24 => 111 | 0 => 0 | 3 => 3 | 37 => 195 | 48 => 224 | 50 => 226 | 4 => 4 | 40 => 218 | 39 => 217 | 45 => 213 | 5 => 5 | 9 => 9 | 51 => 236 | 55 => 240 | 57 => 252 | 58 => 253 | 33 => 38 | n => n, fun | n => n⟩
theorem Tryz.sortedS : Go.Proofs.SlLaysZ.n6 Tryz.prog Tryz.sortedS_ren := {
  mixed := by kernel_rfl
  f6 := ⟨Tryz.f42.name, by decide, Tryz.func42.trans (congrArg some (by kernel_rfl))⟩
  f8 := ⟨Tryz.f75.name, by decide, Tryz.func75.trans (congrArg some (by kernel_rfl))⟩
  f11 := ⟨Tryz.f130.name, by decide, Tryz.func130.trans (congrArg some (by kernel_rfl))⟩
  t0 := Tryz.underlying0
  a0 := Tryz.isAgg0
  z0 := Tryz.sizeOf0
  v0 := Tryz.zeroValue0
  t24 := Tryz.underlying111
  a24 := Tryz.isAgg111
  z24 := Tryz.sizeOf111
  v24 := Tryz.zeroValue111
  t26 := Tryz.underlying9
  a26 := Tryz.isAgg9
  z26 := Tryz.sizeOf9
  v26 := Tryz.zeroValue9
  t28 := Tryz.underlying114
  a28 := Tryz.isAgg114
  z28 := Tryz.sizeOf114
  v28 := Tryz.zeroValue114
  i26 := by kernel_rfl }
def Tryz.sortS_ren : Go.Shelf.Ren := ⟨fun | 6 => 76 | 8 => 129 | 9 => 131 | 19 => 164 | 20 => 165 | 21 => 166 | 22 => 167 | 23 => 168 | 24 => 169 | 25 => 170 | 26 => 171 | 27 => 172 | 28 => 173 | 29 => 174 | 36 => 188 | 31 => 183 | 32 => 184 | 37 => 189 | 38 => 190 | 39 => 191 | 41 => 200 | n => n, fun | 27 => 111 | 29 => 9 | 3 => 3 | 32 => 195 | 26 => 111 | 0 => 0 | 44 => 224 | 46 => 226 | 4 => 4 | 36 => 218 | 35 => 217 | 41 => 213 | 5 => 5 | 9 => 9 | 53 => 236 | 57 => 240 | 63 => 252 | 64 => 253 | n => n, fun | n => n⟩
theorem Tryz.sortS : Go.Proofs.SlLaysM.n6 Tryz.prog Tryz.sortS_ren := {
  mixed := by kernel_rfl
  f6 := ⟨Tryz.f76.name, by decide, Tryz.func76.trans (congrArg some (by kernel_rfl))⟩
  f8 := Tryz.func129.trans (congrArg some (by kernel_rfl))
  f9 := ⟨Tryz.f131.name, by decide, Tryz.func131.trans (congrArg some (by kernel_rfl))⟩
  f19 := Tryz.func164.trans (congrArg some (by kernel_rfl))
  f20 := Tryz.func165.trans (congrArg some (by kernel_rfl))
  f21 := ⟨Tryz.f166.name, by decide, Tryz.func166.trans (congrArg some (by kernel_rfl))⟩
  f22 := ⟨Tryz.f167.name, by decide, Tryz.func167.trans (congrArg some (by kernel_rfl))⟩
  f23 := ⟨Tryz.f168.name, by decide, Tryz.func168.trans (congrArg some (by kernel_rfl))⟩
  f24 := ⟨Tryz.f169.name, by decide, Tryz.func169.trans (congrArg some (by kernel_rfl))⟩
  f25 := ⟨Tryz.f170.name, by decide, Tryz.func170.trans (congrArg some (by kernel_rfl))⟩
  f26 := ⟨Tryz.f171.name, by decide, Tryz.func171.trans (congrArg some (by kernel_rfl))⟩
  f27 := ⟨Tryz.f172.name, by decide, Tryz.func172.trans (congrArg some (by kernel_rfl))⟩
  f28 := ⟨Tryz.f173.name, by decide, Tryz.func173.trans (congrArg some (by kernel_rfl))⟩
  f29 := ⟨Tryz.f174.name, by decide, Tryz.func174.trans (congrArg some (by kernel_rfl))⟩
  f31 := Tryz.func183.trans (congrArg some (by kernel_rfl))
  f32 := Tryz.func184.trans (congrArg some (by kernel_rfl))
  f36 := ⟨Tryz.f188.name, by decide, Tryz.func188.trans (congrArg some (by kernel_rfl))⟩
  f37 := ⟨Tryz.f189.name, by decide, Tryz.func189.trans (congrArg some (by kernel_rfl))⟩
  f38 := ⟨Tryz.f190.name, by decide, Tryz.func190.trans (congrArg some (by kernel_rfl))⟩
  f39 := ⟨Tryz.f191.name, by decide, Tryz.func191.trans (congrArg some (by kernel_rfl))⟩
  f41 := ⟨Tryz.f200.name, by decide, Tryz.func200.trans (congrArg some (by kernel_rfl))⟩
  t0 := Tryz.underlying0
  a0 := Tryz.isAgg0
  z0 := Tryz.sizeOf0
  v0 := Tryz.zeroValue0
  t3 := Tryz.underlying3
  a3 := Tryz.isAgg3
  z3 := Tryz.sizeOf3
  v3 := Tryz.zeroValue3
  t4 := Tryz.underlying4
  a4 := Tryz.isAgg4
  z4 := Tryz.sizeOf4
  v4 := Tryz.zeroValue4
  t5 := Tryz.underlying5
  a5 := Tryz.isAgg5
  z5 := Tryz.sizeOf5
  v5 := Tryz.zeroValue5
  t9 := Tryz.underlying9
  a9 := Tryz.isAgg9
  z9 := Tryz.sizeOf9
  v9 := Tryz.zeroValue9
  t26 := Tryz.underlying111
  a26 := Tryz.isAgg111
  z26 := Tryz.sizeOf111
  v26 := Tryz.zeroValue111
  t27 := Tryz.underlying111
  a27 := Tryz.isAgg111
  z27 := Tryz.sizeOf111
  v27 := Tryz.zeroValue111
  t29 := Tryz.underlying9
  a29 := Tryz.isAgg9
  z29 := Tryz.sizeOf9
  v29 := Tryz.zeroValue9
  t32 := Tryz.underlying195
  a32 := Tryz.isAgg195
  z32 := Tryz.sizeOf195
  v32 := Tryz.zeroValue195
  t35 := Tryz.underlying217
  a35 := Tryz.isAgg217
  z35 := Tryz.sizeOf217
  v35 := Tryz.zeroValue217
  t36 := Tryz.underlying218
  a36 := Tryz.isAgg218
  z36 := Tryz.sizeOf218
  v36 := Tryz.zeroValue218
  t41 := Tryz.underlying213
  a41 := Tryz.isAgg213
  z41 := Tryz.sizeOf213
  v41 := Tryz.zeroValue213
  t44 := Tryz.underlying224
  a44 := Tryz.isAgg224
  z44 := Tryz.sizeOf224
  v44 := Tryz.zeroValue224
  t46 := Tryz.underlying226
  a46 := Tryz.isAgg226
  z46 := Tryz.sizeOf226
  v46 := Tryz.zeroValue226
  t53 := Tryz.underlying236
  a53 := Tryz.isAgg236
  z53 := Tryz.sizeOf236
  v53 := Tryz.zeroValue236
  t57 := Tryz.underlying240
  a57 := Tryz.isAgg240
  z57 := Tryz.sizeOf240
  v57 := Tryz.zeroValue240
  t63 := Tryz.underlying252
  a63 := Tryz.isAgg252
  z63 := Tryz.sizeOf252
  v63 := Tryz.zeroValue252
  t64 := Tryz.underlying253
  a64 := Tryz.isAgg253
  z64 := Tryz.sizeOf253
  v64 := Tryz.zeroValue253 }
end Go.Proofs
end
namespace Go.Proofs.YtkiedlmhocglhaaGreatDoor
section
open Go.RowKit Go.Maps Go.Sort Go.Shelf
theorem Mj (m : Nat) : AnyZ.SortsIn Tryz.prog Tryz.sortedS_ren Fence.wide m :=
  ⟨fun blk off cap ss W hH hblk hsz => callsIn_wide.2 (AnyM.slices_Sort_string Tryz.sortS blk off cap ss W hH hblk hsz),
   fun p cap W => callsIn_wide.2 (AnyM.slices_Sort_string_none Tryz.sortS p cap W)⟩
def zD (bk : Nat) : Value := .func (.func 77) #[] #[.pointer (some ⟨bk, 0, none⟩)]
theorem I7 {β : Bs} (mb : Option Nat) : Spec Tryz.prog β 43 #[.map mb] [] (fun v l => ∃ bk, v = zD bk ∧ l = [.blk bk [.map mb] 97]) :=
  Spec.Bn fun W _ => by
    have h : CallsIn Fence.wide 5 Tryz.prog 43 #[.map mb] W fun e w' => e = .returned (zD W.heap.size) ∧ w' = W.alloc (.cells #[.map mb] 97) := AnyZ.keys_in Tryz.keysS Fence.wide 5 trivial rfl mb W
    refine ((callsIn_wide (n := 5)).1 h).mono ?_
    rintro e w' ⟨rfl, rfl⟩
    refine ⟨_, _, rfl, ⟨W.heap.size, rfl, rfl⟩, (Keeps.refl _ _).alloc _, fun k => k = W.heap.size, ⟨?_, fun k => Iff.rfl⟩, fun k hk => Nat.le_of_eq hk.symm⟩
    show (W.heap.push _)[W.heap.size]? = _
    simp
def mB (es : dQ Th) : List Value := es.map (fun e => .string e.1)
theorem DB {es : dQ Th} (h : iy es) : (es.map (fun e => e.1.data.toList)).Pairwise (· < ·) := by
  refine List.pairwise_map.2 (h.imp (fun {a b} hab => ?_))
  unfold gq at hab
  have h1 : ¬ Op.bytesLess b.1.toList a.1.toList = true := fun e => hab (by rw [e]; rfl)
  have h2 : ¬ b.1.toList = a.1.toList := fun e => hab (by rw [e]; simp)
  rw [bytesLess_eq, Lib.toList_data, Lib.toList_data] at h1
  rw [Lib.toList_data, Lib.toList_data] at h2
  by_cases e : a.1.data.toList < b.1.data.toList
  ·exact e
  exfalso
  have e := List.not_lt.1 e
  rcases List.le_iff_lt_or_eq.1 e with e | e
  ·exact h1 (by simpa using e)
  exact h2 e
theorem I8 {w : World} {b n : Nat} {L : HL} {es : dQ Th} {D : DataW Value} (hr : iy es) (hown : w.ownsMap Tryz.prog 9 oz b n D) (hf : ∀ kl, Maps.has D kl = (fS L es kl).isSome) {ss : List (List UInt8)} (hp : ss.Perm (strKeys D)) :
    ss.mergeSort (fun x y => decide (x ≤ y)) = es.map (fun e => e.1.data.toList) := by
  have hsort := DB hr
  obtain ⟨es', hD, hpw, _⟩ := hown.entries wk
  obtain ⟨PK, Oh, hko⟩ := hown.keysOf
  obtain rfl : es' = PK := by rw [hD] at Oh; simpa using Oh
  have hp2 : (es.map (fun e => e.1.data.toList)).Perm (strKeys D) := by
    rw [hD]
    refine perm_strKeys hpw (fun p hp => ?_) (hsort.imp (fun {a b} h e => by subst e; exact absurd h (List.lt_irrefl a))) (fun x => ?_)
    ·obtain ⟨v, hv⟩ := hko p hp
     obtain ⟨x, _, h, _⟩ := keyOf_str Tryz.underlying9 hv
     exact ⟨x, h⟩
    rw [← hD, hf]
    show _ ↔ ((aR ⟨x.toArray⟩ es).map (cF L)).isSome = true
    rw [Option.isSome_map]
    constructor
    ·intro hx
     obtain ⟨e, he, rfl⟩ := List.mem_map.1 hx
     have h1 : (⟨e.1.data.toList.toArray⟩ : ByteArray) = e.1 := by rw [Array.toArray_toList]
     rw [h1, pQ (t := e.2) (iy.twice hr) he]; rfl
    intro hx
    obtain ⟨t, ht⟩ := Option.isSome_iff_exists.1 hx
    exact List.mem_map.2 ⟨_, j3 ht, by simp⟩
  have h3 := mergeSort_of_perm (hp.trans hp2.symm)
  have h4 : (es.map (fun e => e.1.data.toList)).mergeSort leB = es.map (fun e => e.1.data.toList) := List.mergeSort_of_pairwise (hsort.imp (fun {a b} h => by simp only [leB, decide_eq_true_eq]; exact List.le_of_lt h))
  exact h3.trans h4
theorem E6 {β : Bs} (L : HL) (b bk n : Nat) (es : dQ Th) (hr : iy es) (hn : n ≤ 8192) :
    Spec Tryz.prog β 42 #[zD bk] [.abs (aI Tryz.prog 9 b (fS L es) n), .blk bk [.map (some b)] 97] (fun v l => ∃ A cap, v = .slice A es.length cap ∧
      l = [.abs (aI Tryz.prog 9 b (fS L es) n), .blk bk [.map (some b)] 97, .abs (aG 9 1 A es.length cap (mB es))]) := by
  intro R w hS
  obtain ⟨F1, h1⟩ := hS.get (i := 0) (p := .abs (aI Tryz.prog 9 b (fS L es) n)) rfl
  obtain ⟨F2, h2⟩ := hS.get (i := 1) (p := .blk bk [.map (some b)] 97) rfl
  obtain ⟨D, hown, hsz, hhas, _⟩ := h1.1
  have hcell : w.cell? ⟨bk, 0, none⟩ = some (.map (some b)) := (eU h2.1 rfl rfl rfl).1
  have hseq : SeqGives Fence.wide 2 Tryz.prog 77 #[.pointer (some ⟨bk, 0, none⟩)] encStr (fun ss => ss.Perm (strKeys D)) (Maps.size D) w :=
    AnyZ.keys_gives (ρ := Tryz.keysS_ren) { Tryz.keysS with } Fence.wide _ trivial rfl (by omega) bk b n D w (lt_of_some h2.1) hcell hown
  have cS := AnyZ.sorted_in Tryz.sortedS Fence.wide 5 trivial trivial trivial trivial rfl (by omega) (Mj _) (enters_of Tryz.func76 (by kernel_rfl) rfl) 77 #[.pointer (some ⟨bk, 0, none⟩)] trivial (enters_of Tryz.func77 (by kernel_rfl) rfl)
    (fun ss => ss.Perm (strKeys D)) (Maps.size D) (by rw [hsz]; unfold maxLen; omega) (by rw [hsz]; omega) w hseq
  change CallsIn _ _ Tryz.prog 42 _ _ _ at cS
  refine ((callsIn_wide (n := 5)).1 cS).mono ?_
  rintro e w' ⟨v, ss, rfl, hp, hrow, hnil, hb⟩
  have hkeys := I8 hr hown hhas hp
  have hl2 : ss.length = es.length := by
    have h3 : (ss.mergeSort (fun x y => decide (x ≤ y))).length = ss.length := List.length_mergeSort ss
    rw [hkeys, List.length_map] at h3
    exact h3.symm
  rw [hkeys, hl2] at hrow
  have tF : ∃ A cap, v = .slice A es.length cap := by
    rcases hrow.2 with ⟨e1, e2⟩ | ⟨g, cp, cur, e1, _⟩
    ·exact ⟨none, 0, by rw [e1, e2]⟩
    exact ⟨_, cp, e1⟩
  obtain ⟨A, cap, rfl⟩ := tF
  have PL : (es.map (fun e => e.1.data.toList)).map encStr = mB es := by
    rw [List.map_map]
    refine List.map_congr_left (fun e _ => ?_)
    show encStr e.1.data.toList = .string e.1
    unfold encStr
    rw [Array.toArray_toList]
  rw [PL] at hrow
  have hq : Sat β ([.abs (aI Tryz.prog 9 b (fS L es) n), .blk bk [.map (some b)] 97, .abs R] ++ [.abs (aG 9 1 A es.length cap (mB es))]) w' := by
    refine Sat.new (F := fun k => (Value.slice A es.length cap).ownBlock = some k) hS ⟨?_, fun k => Iff.rfl⟩ ⟨hb.os, hb.tape, hb.output, hb.size, fun k hk _ => hb.block k hk⟩ (fun k hk => (hrow.lt k hk).1)
    refine ⟨hrow.1, ?_⟩
    rcases hrow.2 with h | ⟨g, cp, cur, e1, _, h3, h4⟩
    ·exact .inl h
    exact .inr ⟨g, cp, cur, e1, Nat.zero_le _, h3, h4⟩
  exact ⟨_, [.abs (aI Tryz.prog 9 b (fS L es) n), .blk bk [.map (some b)] 97, .abs (aG 9 1 A es.length cap (mB es))], rfl, ⟨A, cap, rfl, rfl⟩, hq.pick (idx := [0, 1, 3, 2]) rfl rfl⟩
end
section
open Go.RowKit Go.Maps HeapM TabM
theorem D8 {ns : List aK} {n : aK} {k : Nat} (h : k < ns.length) : nd (ns ++ [n]) k = nd ns k := by
  unfold nd; rw [List.getD_eq_getElem?_getD, List.getD_eq_getElem?_getD, List.getElem?_append_left h]
theorem zE {ns : List aK} {n : aK} : nd (ns ++ [n]) ns.length = n := by
  unfold nd; rw [List.getD_eq_getElem?_getD, List.getElem?_append_right (Nat.le_refl _)]; simp
def zF : Lay := ⟨fun _ => none, fun _ => none, fun _ => 0, fun _ => 0⟩
def iH (ns : List aK) (L : Lay) (k : Nat) : bR := aG 101 2 (L.eA k) (nd ns k).ah.length (L.eC k) (eZ (nd ns k).ah)
def gM (ns : List aK) (L : Lay) (k : Nat) : bR := aG 5 1 (L.dA k) (nd ns k).data.length (L.dC k) (bI (nd ns k).data)
def OY (A : Option Addr) (c : Nat) (ns : List aK) (L : Lay) : HP := .abs (aG 70 10 A ns.length c (cq L ns))
def Mk (A : Option Addr) (c : Nat) (ns : List aK) (L : Lay) : List HP := [OY A c ns L, .abs (eX (iH ns L) ns.length), .abs (eX (gM ns L) ns.length)]
theorem pJ.graph {β β' : Bs} {A : Option Addr} {c : Nat} {ns : List aK} {L : Lay} (h : pJ β (Mk A c ns L) β') : aD β' A ns L := by
  obtain ⟨F, h1, h2⟩ := h.get 0 rfl
  obtain ⟨G, g1, g2⟩ := h.get 1 rfl
  obtain ⟨K, k1, k2⟩ := h.get 2 rfl
  exact ⟨fF.kM h1 h2 rfl,
    eX.base k1 k2 rfl (Φ := fun i b => bW b (L.dA i) (nd ns i).data) (fun i _ F hF hO => fF.kM (show (HP.abs (aG 5 1 (L.dA i) (nd ns i).data.length (L.dC i) (bI (nd ns i).data))).h F _ from hF) hO rfl),
    eX.base g1 g2 rfl (Φ := fun i b => dK b (L.eA i) (nd ns i).ah) (fun i _ F hF hO => fF.kM (show (HP.abs (aG 101 2 (L.eA i) (nd ns i).ah.length (L.eC i) (eZ (nd ns i).ah))).h F _ from hF) hO rfl)⟩
theorem DC {L : Lay} {ns : List aK} {n : aK} {dA eA : Option Addr} {dC eC : Nat} : cq L ns ++ [.int .i64 n.id, .int .i64 n.kind, .int .i64 n.mode, .int .i64 n.uid, .int .i64 n.gid, .int .i64 n.sec, .int .i64 n.nano, .slice dA n.data.length dC, .string n.target, .slice eA n.ah.length eC] = cq (L.put ns.length dA dC eA eC) (ns ++ [n]) := by
  have h := wX (ns := ns ++ [n]) (L := L) (k := ns.length) (by simp) dA dC eA eC
  rw [zE, List.take_left, List.take_of_length_le (by simp)] at h
  exact h
theorem Ay {ns : List aK} {L : Lay} {n : aK} {dA eA : Option Addr} {dC eC : Nat} : (∀ x, x < ns.length → gM (ns ++ [n]) (L.put ns.length dA dC eA eC) x = gM ns L x) ∧ gM (ns ++ [n]) (L.put ns.length dA dC eA eC) ns.length = aG 5 1 dA n.data.length dC (bI n.data) := by
  refine ⟨fun x hx => ?_, ?_⟩
  ·unfold gM Lay.put
   rw [D8 hx]
   have : ¬ x = ns.length := by omega
   simp [this]
  unfold gM Lay.put
  rw [zE]
  simp
theorem Az {ns : List aK} {L : Lay} {n : aK} {dA eA : Option Addr} {dC eC : Nat} : (∀ x, x < ns.length → iH (ns ++ [n]) (L.put ns.length dA dC eA eC) x = iH ns L x) ∧ iH (ns ++ [n]) (L.put ns.length dA dC eA eC) ns.length = aG 101 2 eA n.ah.length eC (eZ n.ah) := by
  refine ⟨fun x hx => ?_, ?_⟩
  ·unfold iH Lay.put
   rw [D8 hx]
   have : ¬ x = ns.length := by omega
   simp [this]
  unfold iH Lay.put
  rw [zE]
  simp
def ji (O : bJ) (e : ByteArray × Th) : gX := ⟨e.1, (obj O e.2.k).id⟩
def vm (O : bJ) (id : Int) (t : Th) : aK := ⟨id, t.kind, (obj O t.k).mode, (obj O t.k).uid, (obj O t.k).gid, (obj O t.k).sec, (obj O t.k).nano, (obj O t.k).data, (obj O t.k).target, (obj O t.k).ah.map (ji O)⟩
def ax (S : aE) : List aK := S.idx.map (fun p => vm S.O p.1 p.2)
theorem dr {S : aE} : (ax S).length = S.idx.length := List.length_map ..
def ck (S : aE) (i : Nat) : Th := (S.idx.getD i (0, ⟨0, 0⟩)).2
def bK (S : aE) (i : Nat) : Int := (S.idx.getD i (0, ⟨0, 0⟩)).1
section at_
variable {S : aE} {i : Nat}
theorem rM (hi : i < S.idx.length) : S.idx[i]? = some (bK S i, ck S i) := by
  unfold bK ck
  rw [List.getD_eq_getElem?_getD, List.getElem?_eq_getElem hi]; rfl
theorem get_at (h : Inv0 S) (hi : i < S.idx.length) : TabM.get S.idx (bK S i) = some (ck S i) := lT h.rise (List.mem_of_getElem? (rM hi))
theorem kH (h : Inv0 S) (hi : i < S.idx.length) : Live S.idx (ck S i) ∧ bK S i = ((ck S i).k : Int) := ⟨h.live (get_at h hi), h.key (get_at h hi)⟩
theorem CJ (hi : i < S.idx.length) : (keys S.idx)[i]? = some (bK S i) := by
  unfold keys
  rw [List.getElem?_map, rM hi]; rfl
theorem sH (hi : i < S.idx.length) : (ax S).take (i + 1) = (ax S).take i ++ [vm S.O (bK S i) (ck S i)] := by
  rw [List.take_add_one]
  congr 1
  unfold ax
  rw [List.getElem?_map, rM hi]; rfl
theorem cM (hi : i ≤ S.idx.length) : ((ax S).take i).length = i := by rw [List.length_take, dr]; omega
end at_
section sat
variable {β : Bs} {l l' : List HP} {w : World} {i j k : Nat} {O : bJ} {L : HL} {ix : List Nat}
theorem Sat.Ml (h : Sat β l w) (hp : l[i]? = some (.abs (ak (iC (aY O L) k bR.none)))) (hq : l[j]? = some (.abs (aG 5 1 (L.dA k) (obj O k).data.length (L.dC k) (bI (obj O k).data)))) (hd : nodupB (i :: j :: ix) = true) (hl : bM l ix = some l') (h2 : (obj O k).kind = 1) : Sat β (.abs (ak (aY O L)) :: l') w :=
  h.oH hp hq (fun _ _ h => h) hd hl k (fun _ hx => (lS hx).symm) (pK h2)
end sat
theorem E7 {es : List gX} {e : gX} : eZ es ++ [.string e.name, .int .i64 e.id] = eZ (es ++ [e]) := (rW e es 0).symm
section grow
variable {ns G' : List aK} {n : aK} {L : Lay} {i dn en : Nat} {dA eA : Option Addr} {dC eC : Nat}
theorem sI (hl : ns.length = i) (hG : G' = ns ++ [n]) (hd : n.data.length = dn) (he : n.ah.length = en) : cq L ns ++ [.int .i64 n.id, .int .i64 n.kind, .int .i64 n.mode, .int .i64 n.uid, .int .i64 n.gid, .int .i64 n.sec, .int .i64 n.nano, .slice dA dn dC, .string n.target, .slice eA en eC] = cq (L.put i dA dC eA eC) G' := by
  subst hl hG hd he; exact DC
theorem wM (hl : ns.length = i) (hG : G' = ns ++ [n]) : ∀ x, x < i → gM G' (L.put i dA dC eA eC) x = gM ns L x := by
  subst hl hG; exact Ay.1
theorem uw (hl : ns.length = i) (hG : G' = ns ++ [n]) (hd : n.data.length = dn) : gM G' (L.put i dA dC eA eC) i = aG 5 1 dA dn dC (bI n.data) := by
  subst hl hG hd; exact Ay.2
theorem wN (hl : ns.length = i) (hG : G' = ns ++ [n]) : ∀ x, x < i → iH G' (L.put i dA dC eA eC) x = iH ns L x := by
  subst hl hG; exact Az.1
theorem ux (hl : ns.length = i) (hG : G' = ns ++ [n]) (he : n.ah.length = en) : iH G' (L.put i dA dC eA eC) i = aG 101 2 eA en eC (eZ n.ah) := by
  subst hl hG he; exact Az.2
end grow
section more
variable {S : aE} {i j k : Nat}
theorem Nz (h : Inv0 S) (hi : i < S.idx.length) : (∃ k, ck S i = ⟨k, 1⟩ ∧ Live S.idx ⟨k, 1⟩) ∨ (∃ k, ck S i = ⟨k, 2⟩ ∧ Live S.idx ⟨k, 2⟩) ∨ ∃ k, ck S i = ⟨k, 3⟩ ∧ Live S.idx ⟨k, 3⟩ := by
  have h1 := (kH h hi).1
  generalize ck S i = t at h1 ⊢
  obtain ⟨k, kd⟩ := t
  rcases (h.ob _ h1).2.2 with e | e | e <;> simp only at e <;> subst e
  ·exact .inl ⟨k, rfl, h1⟩
  ·exact .inr (.inl ⟨k, rfl, h1⟩)
  exact .inr (.inr ⟨k, rfl, h1⟩)
theorem zG (h : Inv0 S) (hi : i < S.idx.length) : (Lit.int .i64 (bK S i)).wf = true := by
  have h1 := h.idx _ _ (get_at h hi)
  have h2 := h.last
  exact WalkArith.wf_i64 (by omega)
theorem I9 (hi : i < S.idx.length) : (ints (keys S.idx))[i * 1 + 0]? = some (.int .i64 (bK S i)) := by
  rw [Nat.mul_one, Nat.add_zero]
  unfold ints
  rw [List.getElem?_map, CJ hi]; rfl
theorem CK (h : Inv0 S) {t : Th} (hl : Live S.idx t) (hk : t.kind ≠ 3) : (obj S.O t.k).target = ⟨#[]⟩ := by
  rcases (h.mt t hl).target with e | e
  ·exact e.2
  exact absurd (h.kind hl ▸ e.1) hk
theorem nQ (h : Inv0 S) (hi : i < S.idx.length) (jk : ck S i = ⟨k, 1⟩) (hl : Live S.idx ⟨k, 1⟩) : (ax S).take (i + 1) = (ax S).take i ++ [⟨bK S i, 1, (obj S.O k).mode, (obj S.O k).uid, (obj S.O k).gid, (obj S.O k).sec, (obj S.O k).nano, (obj S.O k).data, ⟨#[]⟩, []⟩] := by
  rw [sH hi, jk]
  unfold vm
  rw [show (obj S.O k).target = ⟨#[]⟩ from CK h hl (by simp), show (obj S.O k).ah = [] from (h.mt _ hl).ah (by rw [h.kind hl]; simp)]; rfl
theorem nR (h : Inv0 S) (hi : i < S.idx.length) (jk : ck S i = ⟨k, 3⟩) (hl : Live S.idx ⟨k, 3⟩) : (ax S).take (i + 1) = (ax S).take i ++ [⟨bK S i, 3, (obj S.O k).mode, (obj S.O k).uid, (obj S.O k).gid, (obj S.O k).sec, (obj S.O k).nano, [], (obj S.O k).target, []⟩] := by
  rw [sH hi, jk]
  unfold vm
  rw [show (obj S.O k).data = [] from (h.mt _ hl).data (by rw [h.kind hl]; simp), show (obj S.O k).ah = [] from (h.mt _ hl).ah (by rw [h.kind hl]; simp)]; rfl
theorem pZ (h : Inv0 S) (hi : i < S.idx.length) (jk : ck S i = ⟨k, 2⟩) (hl : Live S.idx ⟨k, 2⟩) : (ax S).take (i + 1) = (ax S).take i ++ [⟨bK S i, 2, (obj S.O k).mode, (obj S.O k).uid, (obj S.O k).gid, (obj S.O k).sec, (obj S.O k).nano, [], ⟨#[]⟩, (obj S.O k).ah.map (ji S.O)⟩] := by
  rw [sH hi, jk]
  unfold vm
  rw [show (obj S.O k).target = ⟨#[]⟩ from CK h hl (by simp), show (obj S.O k).data = [] from (h.mt _ hl).data (by rw [h.kind hl]; simp)]
def dG (es : dQ Th) (j : Nat) : ByteArray := (es.getD j (⟨#[]⟩, ⟨0, 0⟩)).1
def kK (es : dQ Th) (j : Nat) : Th := (es.getD j (⟨#[]⟩, ⟨0, 0⟩)).2
theorem oR {es : dQ Th} (hj : j < es.length) : es[j]? = some (dG es j, kK es j) := by
  unfold dG kK
  rw [List.getD_eq_getElem?_getD, List.getElem?_eq_getElem hj]; rfl
theorem E8 {es : dQ Th} (hj : j < es.length) : (mB es)[j * 1 + 0]? = some (.string (dG es j)) := by
  rw [Nat.mul_one, Nat.add_zero]
  unfold mB
  rw [List.getElem?_map, oR hj]; rfl
theorem OZ (h : Inv0 S) {t : Th} (hl : Live S.idx t) (hj : j < (obj S.O t.k).ah.length) : bB (dG (obj S.O t.k).ah j) ∧ ((∃ k, aR (dG (obj S.O t.k).ah j) (obj S.O t.k).ah = some ⟨k, 1⟩ ∧ Live S.idx ⟨k, 1⟩ ∧ kK (obj S.O t.k).ah j = ⟨k, 1⟩) ∨ (∃ k, aR (dG (obj S.O t.k).ah j) (obj S.O t.k).ah = some ⟨k, 2⟩ ∧ Live S.idx ⟨k, 2⟩ ∧ kK (obj S.O t.k).ah j = ⟨k, 2⟩) ∨ ∃ k, aR (dG (obj S.O t.k).ah j) (obj S.O t.k).ah = some ⟨k, 3⟩ ∧ Live S.idx ⟨k, 3⟩ ∧ kK (obj S.O t.k).ah j = ⟨k, 3⟩) := by
  have hm := List.mem_of_getElem? (oR hj)
  have h1 := h.ah t hl _ hm
  have h2 := pQ (h.twice hl) hm
  refine ⟨h1.1, ?_⟩
  have h3 := h1.2
  generalize kK (obj S.O t.k).ah j = u at h2 h3 ⊢
  obtain ⟨k, kd⟩ := u
  rcases (h.ob _ h3).2.2 with e | e | e <;> simp only at e <;> subst e
  ·exact .inl ⟨k, h2, h3, rfl⟩
  ·exact .inr (.inl ⟨k, h2, h3, rfl⟩)
  exact .inr (.inr ⟨k, h2, h3, rfl⟩)
theorem uy {O : bJ} {es : dQ Th} {kd : Int} (hj : j < es.length) (he : kK es j = ⟨k, kd⟩) : eZ ((es.take j).map (ji O)) ++ [.string (dG es j), .int .i64 (obj O k).id] = eZ ((es.take (j + 1)).map (ji O)) := by
  rw [List.take_add_one, oR hj, he, List.map_append]
  exact E7 (es := (es.take j).map (ji O)) (e := ⟨dG es j, (obj O k).id⟩)
end more
theorem pJ.bytes {β β' : Bs} {A : Option Addr} {n c : Nat} {d : List UInt8} (h : pJ β [.abs (aG 5 1 A n c (bI d))] β') : bW β' A d := by
  obtain ⟨F, h1, h2⟩ := h.get 0 rfl
  exact fF.kM h1 h2 rfl
end
section
open Go.RowKit
section order
variable {P : Program} {ops : Array Oper} {Q Q' : Post} {n : Nat} {S : World → Prop}
inductive p4
  | one (i : Nat)
  | two (i j : Nat)
  | three (i k j : Nat)
  | perm (G : List Nat)
def CM (P : Program) (ops : Array Oper) (Q : Post) (S : World → Prop) (K : Act → World → Prop) : Nat → List Nat → Act → World → Prop
  | 0, _, a, w => K a w
  | n + 1, G, a, w => ∀ i ∈ G, wpOp P ops Q i (fun a' w' => S w' ∧ CM P ops Q S K n (G.erase i) a' w') a w
def Bg (ops : Array Oper) (f : Array Bool → Bool) : Nat → List Nat → Array Bool → Bool
  | 0, _, listed => f listed
  | n + 1, G, listed => (Region.ready .any ops listed == G) && !G.isEmpty && G.all (fun i => Bg ops f n (G.erase i) (listed.setIfInBounds i true))
def jE (P : Program) (ops : Array Oper) (Q : Post) (S : World → Prop) : List p4 → Act → World → Prop
  | [], a, w => Q .normal a w
  | .one i :: l, a, w => wpOp P ops Q i (fun a' w' => (l = [] ∨ S w') ∧ jE P ops Q S l a' w') a w
  | .two i j :: l, a, w =>
    wpOp P ops Q i (fun a' w' => S w' ∧ wpOp P ops Q j (fun a2 w2 => S w2 ∧ jE P ops Q S l a2 w2) a' w') a w ∧
    wpOp P ops Q j (fun a' w' => S w' ∧ wpOp P ops Q i (fun a2 w2 => S w2 ∧ jE P ops Q S l a2 w2) a' w') a w
  | .three i k j :: l, a, w =>
    wpOp P ops Q i (fun a1 w1 => S w1 ∧ wpOp P ops Q k (fun a2 w2 => S w2 ∧ wpOp P ops Q j (fun a3 w3 => S w3 ∧ jE P ops Q S l a3 w3) a2 w2) a1 w1 ∧
      wpOp P ops Q j (fun a2 w2 => S w2 ∧ wpOp P ops Q k (fun a3 w3 => S w3 ∧ jE P ops Q S l a3 w3) a2 w2) a1 w1) a w ∧
    wpOp P ops Q j (fun a1 w1 => S w1 ∧ wpOp P ops Q i (fun a2 w2 => S w2 ∧ wpOp P ops Q k (fun a3 w3 => S w3 ∧ jE P ops Q S l a3 w3) a2 w2) a1 w1) a w
  | .perm G :: l, a, w => CM P ops Q S (jE P ops Q S l) G.length G a w
def sJ (ops : Array Oper) (n : Nat) : List p4 → Array Bool → Bool
  | [], listed => (Region.ready .any ops listed).isEmpty
  | .one i :: l, listed => (Region.ready .any ops listed == [i]) && (!l.isEmpty || i == n) && sJ ops n l (listed.setIfInBounds i true)
  | .two i j :: l, listed => (Region.ready .any ops listed == [i, j]) && (Region.ready .any ops (listed.setIfInBounds i true) == [j]) && (Region.ready .any ops (listed.setIfInBounds j true) == [i]) && decide (i ≠ j) && sJ ops n l ((listed.setIfInBounds i true).setIfInBounds j true)
  | .three i k j :: l, listed => (Region.ready .any ops listed == [i, j]) && (Region.ready .any ops (listed.setIfInBounds i true) == [k, j]) && (Region.ready .any ops ((listed.setIfInBounds i true).setIfInBounds k true) == [j]) && (Region.ready .any ops ((listed.setIfInBounds i true).setIfInBounds j true) == [k]) &&
    (Region.ready .any ops (listed.setIfInBounds j true) == [i]) && decide (i ≠ j) && decide (k ≠ j) && sJ ops n l (((listed.setIfInBounds i true).setIfInBounds k true).setIfInBounds j true)
  | .perm G :: l, listed => Bg ops (sJ ops n l) G.length G listed
def qU : List p4 → Nat
  | [] => 0
  | .one _ :: l => qU l + 1
  | .two _ _ :: l => qU l + 2
  | .three _ _ _ :: l => qU l + 3
  | .perm G :: l => qU l + G.length
theorem CN {K : Act → World → Prop} {f : Array Bool → Bool} {m : Nat} (hK : ∀ listed a w, f listed = true → K a w → ja P ops (NP Q) n S m listed a w) : ∀ (k : Nat) (G : List Nat) (listed : Array Bool) (a : Act) (w : World), Bg ops f k G listed = true → CM P ops (NP Q) S K k G a w → ja P ops (NP Q) n S (m + k) listed a w
  | 0, G, listed, a, w, hb, h => hK listed a w hb h
  | k + 1, G, listed, a, w, hb, h => by
    unfold Bg at hb
    simp only [Bool.and_eq_true, beq_iff_eq] at hb
    obtain ⟨⟨h1, h2⟩, h3⟩ := hb
    refine ⟨fun h0 => (by rw [h1] at h0; rw [h0] at h2; cases h2), fun j hj => ?_⟩
    rw [h1] at hj
    exact wpOp_mono (fun a' w' g => ⟨.inr g.1, CN hK k (G.erase j) _ a' w' (List.all_eq_true.1 h3 j hj) g.2⟩) (h j hj)
theorem lY : ∀ (l : List p4) (listed : Array Bool) (a : Act) (w : World), sJ ops n l listed = true → jE P ops (NP Q) S l a w → ja P ops (NP Q) n S (qU l) listed a w
  | [], listed, a, w, hb, h => ⟨List.isEmpty_iff.1 hb, h⟩
  | .one i :: l, listed, a, w, hb, h => by
    unfold sJ at hb
    simp only [Bool.and_eq_true, beq_iff_eq] at hb
    obtain ⟨⟨h1, h2⟩, h3⟩ := hb
    refine ⟨fun h0 => (by rw [h1] at h0; cases h0), fun j hj => ?_⟩
    rw [h1] at hj
    have hj : j = i := by simpa using hj
    subst hj
    refine wpOp_mono (fun a' w' h4 => ⟨?_, lY l _ a' w' h3 h4.2⟩) h
    rcases h4.1 with h5 | h5
    ·subst h5; exact .inl (by simpa using h2)
    exact .inr h5
  | .two i j :: l, listed, a, w, hb, h => by
    unfold sJ at hb
    simp only [Bool.and_eq_true, beq_iff_eq, decide_eq_true_iff] at hb
    obtain ⟨⟨⟨⟨h1, h2⟩, h3⟩, hij⟩, h4⟩ := hb
    refine ⟨fun h0 => (by rw [h1] at h0; cases h0), fun k hk => ?_⟩
    rw [h1] at hk
    have hk : k = i ∨ k = j := by simpa using hk
    rcases hk with rfl | rfl
    ·refine wpOp_mono (fun a' w' h5 => ⟨.inr h5.1, fun h0 => (by rw [h2] at h0; cases h0), fun k' hk' => ?_⟩) h.1
     rw [h2] at hk'
     have hk' : k' = j := by simpa using hk'
     subst hk'
     exact wpOp_mono (fun a2 w2 h6 => ⟨.inr h6.1, lY l _ a2 w2 h4 h6.2⟩) h5.2
    refine wpOp_mono (fun a' w' h5 => ⟨.inr h5.1, fun h0 => (by rw [h3] at h0; cases h0), fun k' hk' => ?_⟩) h.2
    rw [h3] at hk'
    have hk' : k' = i := by simpa using hk'
    subst hk'
    refine wpOp_mono (fun a2 w2 h6 => ⟨.inr h6.1, ?_⟩) h5.2
    rw [Array.setIfInBounds_comm _ _ (fun e => hij e.symm)]
    exact lY l _ a2 w2 h4 h6.2
  | .three i k j :: l, listed, a, w, hb, h => by
    unfold sJ at hb
    simp only [Bool.and_eq_true, beq_iff_eq, decide_eq_true_iff] at hb
    obtain ⟨⟨⟨⟨⟨⟨⟨h1, h2⟩, h3⟩, h4⟩, h5⟩, hij⟩, hkj⟩, h6⟩ := hb
    have one : ∀ {x : Nat} {ls : Array Bool} {fuel : Nat} {a : Act} {w : World}, Region.ready .any ops ls = [x] → wpOp P ops (NP Q) x (fun a' w' => S w' ∧ ja P ops (NP Q) n S fuel (ls.setIfInBounds x true) a' w') a w → ja P ops (NP Q) n S (fuel + 1) ls a w := fun {x ls fuel a w} hr hx => by
      refine ⟨fun h0 => (by rw [hr] at h0; cases h0), fun y hy => ?_⟩
      rw [hr] at hy
      have hy : y = x := by simpa using hy
      subst hy
      exact wpOp_mono (fun a' w' h => ⟨.inr h.1, h.2⟩) hx
    have e1 : (((listed.setIfInBounds i true).setIfInBounds j true).setIfInBounds k true) = (((listed.setIfInBounds i true).setIfInBounds k true).setIfInBounds j true) := Array.setIfInBounds_comm _ _ (fun e => hkj e.symm)
    have e2 : ((listed.setIfInBounds j true).setIfInBounds i true) = ((listed.setIfInBounds i true).setIfInBounds j true) := Array.setIfInBounds_comm _ _ (fun e => hij e.symm)
    refine ⟨fun h0 => (by rw [h1] at h0; cases h0), fun x hx => ?_⟩
    rw [h1] at hx
    have hx : x = i ∨ x = j := by simpa using hx
    rcases hx with rfl | rfl
    ·refine wpOp_mono (fun a1 w1 g => ⟨.inr g.1, fun h0 => (by rw [h2] at h0; cases h0), fun y hy => ?_⟩) h.1
     rw [h2] at hy
     have hy : y = k ∨ y = j := by simpa using hy
     rcases hy with rfl | rfl
     ·exact wpOp_mono (fun a2 w2 g2 => ⟨.inr g2.1, one h3 (wpOp_mono (fun a3 w3 g3 => ⟨g3.1, lY l _ a3 w3 h6 g3.2⟩) g2.2)⟩) g.2.1
     exact wpOp_mono (fun a2 w2 g2 => ⟨.inr g2.1, one h4 (wpOp_mono (fun a3 w3 g3 => ⟨g3.1, by rw [e1]; exact lY l _ a3 w3 h6 g3.2⟩) g2.2)⟩) g.2.2
    refine wpOp_mono (fun a1 w1 g => ⟨.inr g.1, one h5 (wpOp_mono (fun a2 w2 g2 => ⟨g2.1, ?_⟩) g.2)⟩) h.2
    rw [e2]
    exact one h4 (wpOp_mono (fun a3 w3 g3 => ⟨g3.1, by rw [e1]; exact lY l _ a3 w3 h6 g3.2⟩) g2.2)
  | .perm G :: l, listed, a, w, hb, h => CN (m := qU l) (fun ls a w hb h => lY l ls a w hb h) G.length G listed a w hb h
def kU (P : Program) (ops : Array Oper) (Q : Post) (S : World → Prop) (es : List p4) : List Nat → Act → World → Prop
  | [], a, w => jE P ops Q S es a w
  | i :: l, a, w => ∃ o v, ops[i]? = some o ∧ YieldsIf P ops S o v a ∧ kU P ops Q S es l (a.put o.dst v) w
def Bh (ops : Array Oper) (n : Nat) (es : List p4) : List Nat → Array Bool → Bool
  | [], listed => sJ ops n es listed
  | i :: l, listed => decide (i < n) && Region.free .any ops listed i && (Region.ready .any ops listed).contains i && Bh ops n es l (listed.setIfInBounds i true)
theorem CO {es : List p4} (hsel : Region.noSelect ops = true) (mh : Region.sinkB .any ops n = true) : ∀ (l : List Nat) (listed : Array Bool) (a : Act) (w : World), Bh ops n es l listed = true → Closed ops listed → S w → kU P ops (NP Q) S es l a w → ja P ops (NP Q) n S (l.length + qU es) listed a w
  | [], listed, a, w, hb, _, _, h => by
    rw [List.length_nil, Nat.zero_add]
    exact lY es listed a w hb h
  | i :: l, listed, a, w, hb, hc, hS, h => by
    unfold Bh at hb
    simp only [Bool.and_eq_true, decide_eq_true_iff] at hb
    obtain ⟨⟨⟨h1, h2⟩, h3⟩, h4⟩ := hb
    obtain ⟨o, v, ho, hy, hk⟩ := h
    have hr : i ∈ Region.ready .any ops listed := by simpa using h3
    have e : (i :: l).length + qU es = (l.length + qU es) + 1 := by rw [List.length_cons]; omega
    rw [e]
    exact pu ho hsel mh h1 _ listed a w hc (Region.free_spec ho h2) hr hy hS (CO hsel mh l _ _ w h4 (hc.set hr) hS hk)
def D9 (ops : Array Oper) (rs : List Nat) (es : List p4) : Bool :=
  Region.noSelect ops && Region.sinkB .any ops (ops.size - 1) && (rs.length + qU es == ops.size) && Bh ops (ops.size - 1) es rs (Array.replicate ops.size false)
end order
section mix
variable {P : Program} {β : Bs} {N : Nat} {ops : Array Oper} {S : List HP} {rs : List Nat} {es : List p4} {fr fr' : Fr} {hps : List HP} {Q : Post} {aV : List Prop} {i j : Nat}
def fN (P : Program) (β : Bs) (N : Nat) (ops : Array Oper) (S : List HP) (es : List p4) (rs : List Nat) (fr : Fr) (hps : List HP) (Q : Post) : Prop :=
  ∀ junk w, Sat β hps w → kU P ops (NP Q) (Sat β S) es rs (cA N fr junk) w
theorem af.oU {id : Nat} (rs : List Nat) (es : List p4) (pk : List Nat) (hm : P.follows .mixedOrders = true) (hB : D9 ops rs es = true) (hn : nodupB pk = true) (hp : bM hps pk = some S) (h : fN P β N ops S es rs fr hps Q) : af P β N (.region id ops true) fr hps Q := by
  intro junk w hS
  unfold D9 at hB
  simp only [Bool.and_eq_true, beq_iff_eq] at hB
  obtain ⟨⟨⟨h1, h2⟩, h3⟩, h4⟩ := hB
  have cP := hS.drewN 1
  have h5 := CO (Q := Q) h1 h2 rs _ _ _ h4 (fun j oj _ hl => by simp [Array.getD_eq_getD_getElem?, Array.getElem?_replicate] at hl; split at hl <;> simp at hl) (cP.pick hn hp) (h junk (w.drewN 1) cP)
  rw [h3] at h5
  refine Code.wp_mono (fun e a w q => ?_) (wp_region_any hm (mg _ _ _ _ h5))
  cases e with
  | normal => exact q
  | exit id => exact q.elim
  | goto l => exact q.elim
  | ret => exact q.elim
  | panic ch => exact q.elim
  | outgrown => exact q.elim
theorem tu {junk : Nat → Value} {w : World} : ∀ {hs : List OH} {is : List Nat} {fr fr' : Fr} {T T' : SS}, nF P β N junk ops hs is fr T = some (fr', T') → (∀ p, p ∈ T'.aV → p) → T.used = true → T.hps = S →
    kU P ops (NP Q) (Sat β S) es rs (cA N fr' junk) w → kU P ops (NP Q) (Sat β S) es (is ++ rs) (cA N fr junk) w
  | [], [], fr, fr', T, T', h, ho, hu, hT, hK => by cases h; exact hK
  | h :: hs, i :: is, fr, fr', T, T', hr, ho, hu, hT, hK => by
    unfold nF at hr
    repeat' split at hr
    all_goals first | (cases hr; done) | skip
    rename_i o hget _ Bw _ v T1 h0 _ hv
    obtain ⟨e1, e2⟩ := qZ h0
    rw [List.cons_append]
    unfold kU
    refine ⟨o, v, hget, .inl ⟨by unfold Region.wanted; rw [Bw], fun w' cP => ?_⟩, ?_⟩
    ·rw [dw]
     obtain ⟨w2, h1, _, _, h4⟩ := ko h0 (fun p hp => ho p (rY hr p hp)) (by rw [hT]; exact cP) (fun e => by rw [hu] at e; cases e)
     obtain ⟨ew, _⟩ := h4 rfl
     rw [ew] at h1
     rcases h1 with h1 | ⟨h1, _⟩
     ·exact h1
     exact absurd h1 (qm hv)
    rw [dh]
    exact tu hr ho (e2.trans hu) (e1.trans hT) hK
  | [], _ :: _, _, _, _, _, h, _, _, _, _ => by cases h
  | _ :: _, [], _, _, _, _, h, _, _, _, _ => by cases h
theorem fN.reads (is : List Nat) (hs : List OH) (idx : List Nat) (h : ∀ junk, uQ P β N junk ops hs is fr S idx = some (fr', aV)) (ho : iP aV) (K : fN P β N ops S es rs fr' hps Q) : fN P β N ops S es (is ++ rs) fr hps Q := by
  intro junk w hS
  have h0 := h junk
  unfold uQ at h0
  split at h0
  ·rename_i jQ S1 h1
   cases h0
   have hK := K (lk jQ junk) w hS
   rw [← iO] at hK
   exact tu h1 (fun p hp => ho.mem hp) rfl rfl hK
  cases h0
theorem fN.pair {ι Mn Mp : Type} {GJ : Mn → Fr} {hpi : Mn → List HP} {GK : Mp → Fr} {GL : Mp → List HP} {fr' : ι → Fr} {hp' : ι → List HP} {oi oj : Oper} (Oi Oj pk : List Nat)
    (hi : ops[i]? = some oi) (CP : oi.guard = none) (hj : ops[j]? = some oj) (Ea : oj.guard = none)
    (h1 : aj P β N #[oi] 0 fr hps (NP (iY β N GJ hpi))) (h2 : ∀ a, aj P β N #[oj] 0 (GJ a) (hpi a) (NP (iY β N fr' hp')))
    (h3 : aj P β N #[oj] 0 fr hps (NP (iY β N GK GL))) (h4 : ∀ a, aj P β N #[oi] 0 (GK a) (GL a) (NP (iY β N fr' hp')))
    (hni : nodupB Oi = true) (O0 : ∀ a, bM (hpi a) Oi = some S) (PN : nodupB Oj = true) (O3 : ∀ a, bM (GL a) Oj = some S) (hn : nodupB pk = true) (hp : ∀ a, bM (hp' a) pk = some S)
    (K : ∀ a, fN P β N ops S es [] (fr' a) (hp' a) Q) : fN P β N ops S (.two i j :: es) [] fr hps Q := by
  intro junk w hS
  unfold kU jE
  refine ⟨eW hi CP (gS (fun a w ⟨x, fH, ha, cP⟩ => ?_) (show wpList P #[oi] (NP (iY β N GJ hpi)) [oi] (cA N fr junk) w from h1 junk w hS)), eW hj Ea (gS (fun a w ⟨x, fH, ha, cP⟩ => ?_) (show wpList P #[oj] (NP (iY β N GK GL)) [oj] (cA N fr junk) w from h3 junk w hS))⟩
  ·subst ha
   refine ⟨cP.pick hni (O0 x), eW hj Ea (gS (fun a w ⟨y, E9, ha, rE⟩ => ?_) (show wpList P #[oj] (NP (iY β N fr' hp')) [oj] (cA N (GJ x) fH) w from h2 x fH w cP))⟩
   subst ha
   exact ⟨rE.pick hn (hp y), K y E9 _ rE⟩
  subst ha
  refine ⟨cP.pick PN (O3 x), eW hi CP (gS (fun a w ⟨y, E9, ha, rE⟩ => ?_) (show wpList P #[oi] (NP (iY β N fr' hp')) [oi] (cA N (GK x) fH) w from h4 x fH w cP))⟩
  subst ha
  exact ⟨rE.pick hn (hp y), K y E9 _ rE⟩
theorem fN.three {k : Nat} {ι GN GP GQ GR GS : Type} {fa : GN → Fr} {ha : GN → List HP} {fb : GP → Fr} {hb : GP → List HP} {fc : GQ → Fr} {hc : GQ → List HP} {fd : GR → Fr} {hd : GR → List HP} {fe : GS → Fr} {he : GS → List HP} {fr' : ι → Fr} {hp' : ι → List HP} {oi ok oj : Oper} (pa pb pc pd pe pk : List Nat)
    (hi : ops[i]? = some oi) (CP : oi.guard = none) (hk : ops[k]? = some ok) (Mq : ok.guard = none) (hj : ops[j]? = some oj) (Ea : oj.guard = none)
    (h1 : aj P β N #[oi] 0 fr hps (NP (iY β N fa ha))) (h2 : ∀ x, aj P β N #[ok] 0 (fa x) (ha x) (NP (iY β N fb hb))) (h3 : ∀ x, aj P β N #[oj] 0 (fb x) (hb x) (NP (iY β N fr' hp')))
    (h4 : ∀ x, aj P β N #[oj] 0 (fa x) (ha x) (NP (iY β N fc hc))) (h5 : ∀ x, aj P β N #[ok] 0 (fc x) (hc x) (NP (iY β N fr' hp')))
    (h6 : aj P β N #[oj] 0 fr hps (NP (iY β N fd hd))) (h7 : ∀ x, aj P β N #[oi] 0 (fd x) (hd x) (NP (iY β N fe he))) (h8 : ∀ x, aj P β N #[ok] 0 (fe x) (he x) (NP (iY β N fr' hp')))
    (na : nodupB pa = true) (qa : ∀ x, bM (ha x) pa = some S) (nb : nodupB pb = true) (qb : ∀ x, bM (hb x) pb = some S) (nc : nodupB pc = true) (qc : ∀ x, bM (hc x) pc = some S) (nd : nodupB pd = true) (qd : ∀ x, bM (hd x) pd = some S) (ne : nodupB pe = true) (qe : ∀ x, bM (he x) pe = some S) (hn : nodupB pk = true) (hp : ∀ x, bM (hp' x) pk = some S)
    (K : ∀ a, fN P β N ops S es [] (fr' a) (hp' a) Q) : fN P β N ops S (.three i k j :: es) [] fr hps Q := by
  have step : ∀ {κ : Type} {g : κ → Fr} {hg : κ → List HP} {x : Nat} {o : Oper} {pg : List Nat} {f0 : Fr} {h0 : List HP} {junk : Nat → Value} {w : World} {R : Act → World → Prop}, ops[x]? = some o → o.guard = none → aj P β N #[o] 0 f0 h0 (NP (iY β N g hg)) → nodupB pg = true → (∀ y, bM (hg y) pg = some S) → Sat β h0 w →
      (∀ y junk w, Sat β (hg y) w → R (cA N (g y) junk) w) → wpOp P ops (NP Q) x (fun a w => Sat β S w ∧ R a w) (cA N f0 junk) w := fun {κ g hg x o pg f0 h0 junk w R} e1 e2 e3 e4 e5 e6 e7 =>
    eW e1 e2 (gS (fun a w ⟨y, fH, ea, cP⟩ => by subst ea; exact ⟨cP.pick e4 (e5 y), e7 y fH w cP⟩) (show wpList P #[o] (NP (iY β N g hg)) [o] (cA N f0 junk) w from e3 junk w e6))
  intro junk w hS
  unfold kU jE
  have fin : ∀ y junk w, Sat β (hp' y) w → jE P ops (NP Q) (Sat β S) es (cA N (fr' y) junk) w := fun y junk w h => K y junk w h
  refine ⟨step hi CP h1 na qa hS (fun x jx wx sx => ⟨?_, ?_⟩), step hj Ea h6 nd qd hS (fun x jx wx sx => step hi CP (h7 x) ne qe sx (fun y jy wy sy => step hk Mq (h8 y) hn hp sy fin))⟩
  ·exact step hk Mq (h2 x) nb qb sx (fun y jy wy sy => step hj Ea (h3 y) hn hp sy fin)
  exact step hj Ea (h4 x) nc qc sx (fun y jy wy sy => step hk Mq (h5 y) hn hp sy fin)
theorem fN.cut {ι : Type} {fr' : ι → Fr} {hp' : ι → List HP} {o : Oper} (pk : List Nat) (hop : ops[i]? = some o) (hg : o.guard = none) (h : aj P β N #[o] 0 fr hps (NP (iY β N fr' hp'))) (hn : nodupB pk = true) (hp : ∀ j, bM (hp' j) pk = some S)
    (K : ∀ j, fN P β N ops S es [] (fr' j) (hp' j) Q) : fN P β N ops S (.one i :: es) [] fr hps Q := by
  intro junk w hS
  unfold kU jE
  refine eW hop hg (gS (fun a w ⟨j, fH, ha, cP⟩ => ?_) (show wpList P #[o] (NP (iY β N fr' hp')) [o] (cA N fr junk) w from h junk w hS))
  subst ha
  exact ⟨.inr (cP.pick hn (hp j)), K j fH _ cP⟩
def QF (P : Program) (β : Bs) (N : Nat) (ops : Array Oper) (Q : Post) (i d : Nat) (ds : List Nat) (fr : Fr) (pre : List HP) (post : Value → List HP → Prop) : Prop :=
  ∀ junk w (A : bR), Sat β (pre ++ [.abs A]) w → wpOp P ops (NP Q) i (fun a' w' => ∃ v l fH, post v l ∧ a' = cA N fr fH ∧ fH d = v ∧ (∀ t ∈ ds, t ≠ d → fH t = junk t) ∧ Sat β (l ++ [.abs A]) w') (cA N fr junk) w
def QZ (PO : List Nat) (u : Nat → Value) : Fr := PO.map fun t => (t, u t)
theorem fN.last {o : Oper} (hop : ops[i]? = some o) (hg : o.guard = none) (h : aj P β N #[o] 0 fr hps (NP Q)) : fN P β N ops S [.one i] [] fr hps Q := by
  intro junk w hS
  unfold kU jE
  exact eW hop hg (gS (fun a w hq => ⟨.inl rfl, by unfold jE; exact hq⟩) (show wpList P #[o] (NP Q) [o] (cA N fr junk) w from h junk w hS))
end mix
end
section
open Go.RowKit Go.Maps HeapM TabM
attribute [local irreducible] aj aS af ai
abbrev J4 := (.abs (aG 5 1 none 0 0 ([])) : HP)
abbrev Eb (B) (d : List UInt8) (cap) := (.abs (aG 5 1 B d.length cap (bI d)) : HP)
abbrev J5 (A7 : Option Addr) (S : aE) (c8 : Nat) := (.abs (aG 3 1 A7 ((keys S.idx).length) c8 (ints (keys S.idx))) : HP)
abbrev Ec (b4 : Nat) := (.blk b4 [.slice none (0) (0)] 24 : HP)
abbrev Mr (b5 : Nat) (An : Option Addr) (i : Nat) (cn : Nat) := (.blk b5 [.slice An (i) (cn)] 24 : HP)
abbrev Ms (An : Option Addr) (i : Nat) (cn : Nat) (K) (S : aE) := (.abs (aG 70 10 An i cn (cq K ((ax S).take i))) : HP)
abbrev vL (S : aE) (i : Nat) (K) := (.abs (eX (iH ((ax S).take i) K) i) : HP)
abbrev CQ (S : aE) (i : Nat) (K) := (.abs (eX (gM ((ax S).take i) K) i) : HP)
abbrev kV (b10 : Nat) := (.blk b10 [vI 0, vI 0, vI 0, vI 0, vI 0, vI 0, vI 0, .slice none (0) (0), .string ⟨#[]⟩, .slice none (0) (0)] 70 : HP)
abbrev Mt (b9 : Nat) (S : aE) (i : Nat) (tk : Nat) := (.blk b9 [vI ((bK S i)), vI 1, vI ((obj S.O tk).mode), vI ((obj S.O tk).uid), vI ((obj S.O tk).gid), vI ((obj S.O tk).sec), vI ((obj S.O tk).nano), .slice none (0) (0), .string ⟨#[]⟩, .slice none (0) (0)] 70 : HP)
abbrev sK (b5 : Nat) (qG : Option Addr) (i : Nat) (c16 : Nat) := (.blk b5 [.slice qG ((i + 1)) (c16)] 24 : HP)
abbrev zH (b9 : Nat) (S : aE) (i : Nat) (tk : Nat) (jU : Option Addr) (c13 : Nat) := (.blk b9 [vI ((bK S i)), vI 1, vI ((obj S.O tk).mode), vI ((obj S.O tk).uid), vI ((obj S.O tk).gid), vI ((obj S.O tk).sec), vI ((obj S.O tk).nano), .slice jU ((obj S.O tk).data.length) (c13), .string ⟨#[]⟩, .slice none (0) (0)] 70 : HP)
abbrev Fa := (.abs (aG 101 2 none 0 0 ([])) : HP)
abbrev iV (S : aE) (L : HL) (tk : Nat) := (.abs (ak (iC (bh S.O L) tk bR.none)) : HP)
abbrev p6 (L : HL) (tk : Nat) (S : aE) := (.abs (aI Tryz.prog 9 (L.m tk) (fS L (obj S.O tk).ah) ((obj S.O tk).ah.length)) : HP)
abbrev lE (b17 : Nat) (S : aE) (i : Nat) (tk : Nat) (Ae : Option Addr) (j : Nat) (ce : Nat) := (.blk b17 [vI ((bK S i)), vI 2, vI ((obj S.O tk).mode), vI ((obj S.O tk).uid), vI ((obj S.O tk).gid), vI ((obj S.O tk).sec), vI ((obj S.O tk).nano), .slice none (0) (0), .string ⟨#[]⟩, .slice Ae (j) (ce)] 70 : HP)
abbrev Fb (Ae : Option Addr) (j : Nat) (ce : Nat) (S : aE) (tk : Nat) := (.abs (aG 101 2 Ae j ce (eZ (((obj S.O tk).ah.take j).map (ji S.O)))) : HP)
abbrev qV (b20 : Nat) (L : HL) (tk : Nat) := (.blk b20 [.map (some (L.m tk))] 97 : HP)
abbrev qW (cT : Option Addr) (S : aE) (tk : Nat) (dJ : Nat) := (.abs (aG 9 1 cT ((obj S.O tk).ah.length) dJ (mB (obj S.O tk).ah)) : HP)
abbrev zI (oo : Option Addr) (j : Nat) (oq : Nat) (S : aE) (tk : Nat) := (.abs (aG 101 2 oo (j + 1) oq (eZ (((obj S.O tk).ah.take (j + 1)).map (ji S.O)))) : HP)
abbrev zJ (yt : Nat) (S : aE) (tk : Nat) (j : Nat) (ek : Nat) := (.blk yt [.string (dG (obj S.O tk).ah j), vI ((obj S.O ek).id)] 101 : HP)
abbrev Fc (ou : Option Addr) (i : Nat) (ox : Nat) (K : Lay) (S : aE) := (.abs (aG 70 10 ou (i + 1) ox (cq (K.put i none 0 none 0) ((ax S).take (i + 1)))) : HP)
abbrev uz (mD : Nat) (S : aE) (i : Nat) (tk : Nat) := (.blk mD [vI ((bK S i)), vI 3, vI ((obj S.O tk).mode), vI ((obj S.O tk).uid), vI ((obj S.O tk).gid), vI ((obj S.O tk).sec), vI ((obj S.O tk).nano), .slice none (0) (0), .string (obj S.O tk).target, .slice none (0) (0)] 70 : HP)
abbrev iW (f : Nat) (b4 : Nat) (b5 : Nat) (b17 : Nat) (L : HL) (tk : Nat) (A7 : Option Addr) (S : aE) (c8 : Nat) (i : Nat) (cT : Option Addr) (dJ : Nat) (j : Nat) := ([(0, vP f), (2, vP b4), (3, vP b5), (8, vP b17), (11, vP (L.b tk)), (19, .slice A7 ((keys S.idx).length) (c8)), (20, vI ↑((keys S.idx).length)), (21, vI ↑i), (79, .slice cT ((obj S.O tk).ah.length) (dJ)), (80, vI ↑((obj S.O tk).ah.length)), (81, vI ↑j)] : Fr)
abbrev cO (b5 : Nat) (An : Option Addr) (i : Nat) (cn : Nat) (K) (S : aE) (A7 : Option Addr) (c8 : Nat) (b4 : Nat) (f : Nat) (m : Nat) (t) (L : HL) := ([Mr b5 An i cn, Ms An i cn K S, vL S i K, CQ S i K, J5 A7 S c8, Ec b4, pF f m t S.X, pI m L S.idx, pO S.O L, pD S.O L] : List HP)
abbrev iX (S : aE) (tk : Nat) := ([(39, vI ((obj S.O tk).mode)), (43, vI ((obj S.O tk).uid)), (47, vI ((obj S.O tk).gid)), (51, .agg #[vI ((obj S.O tk).sec), vI ((obj S.O tk).nano)])] : Fr)
abbrev fT (f : Nat) (b4 : Nat) (b5 : Nat) := ([(0, vP f), (2, vP b4), (3, vP b5)] : Fr)
abbrev jP (b10 : Nat) (A7 : Option Addr) (S : aE) (c8 : Nat) (i : Nat) := ([(8, vP b10), (19, .slice A7 ((keys S.idx).length) (c8)), (20, vI ↑((keys S.idx).length)), (21, vI ↑i), (33, vI ((bK S i)))] : Fr)
abbrev qX (A7 : Option Addr) (S : aE) (c8 : Nat) (i : Nat) := ([(19, .slice A7 ((keys S.idx).length) (c8)), (20, vI ↑((keys S.idx).length)), (21, vI ↑i)] : Fr)
abbrev mE (b17 : Nat) (S : aE) (i : Nat) (tk : Nat) (Ae : Option Addr) (j : Nat) (ce : Nat) (L : HL) (b20 : Nat) (cT : Option Addr) (dJ : Nat) := ([lE b17 S i tk Ae j ce, Fb Ae j ce S tk, p6 L tk S, qV b20 L tk, qW cT S tk dJ] : List HP)
abbrev oe (Ae : Option Addr) (j : Nat) (ce : Nat) (S : aE) (tk : Nat) := ([(86, .slice Ae (j) (ce)), (87, .string (dG (obj S.O tk).ah j))] : Fr)
abbrev zK (A7 : Option Addr) (S : aE) (c8 : Nat) (i : Nat) := ([(19, .slice A7 ((keys S.idx).length) (c8)), (20, vI ↑((keys S.idx).length)), (21, vI ↑i)] : Fr)
abbrev Ja (S : aE) (tk : Nat) := ([(2, vI ((obj S.O tk).mode)), (3, vI ((obj S.O tk).uid)), (4, vI ((obj S.O tk).gid)), (5, vI ((obj S.O tk).sec)), (6, vI ((obj S.O tk).nano))] : Fr)
abbrev Jb (S : aE) (tk : Nat) := ([(39, vI ((obj S.O tk).mode)), (43, vI ((obj S.O tk).uid)), (47, vI ((obj S.O tk).gid)), (51, .agg #[vI ((obj S.O tk).sec), vI ((obj S.O tk).nano)])] : Fr)
abbrev p8 (A7 : Option Addr) (S : aE) (c8 : Nat) (b4 : Nat) (f : Nat) (m : Nat) (t) (L : HL) := ([J5 A7 S c8, Ec b4, pF f m t S.X, pI m L S.idx, pO S.O L] : List HP)
theorem zL {β : Bs} (c : Nat) : Spec Tryz.prog β 35 #[.slice none 0 c] [] (fun v l => ∃ B cap, v = .slice B 0 cap ∧ l = [.abs (aG 5 1 B 0 cap [])]) := by
 refine Spec.enter Tryz.func35 rfl Tryz.ntmps35 (Nat.le_of_ble_eq_true rfl) (fun R => ?_)
 refine SR ?_
 refine gK 1 [] [] ?_
 refine NN (af.seq (SR ?_))
 refine gK 2 [(4, .bool true)] [] ?_
 refine NN ?_
 refine CT ?_
 refine SR ?_
 refine gK 1 [(2, .slice none (0) (0))] [] ?_
 refine NN (af.ret (ai.ar ?_))
 refine ai.mem (fun w hS => (hS.jG (e := 5) (size := 1)).pick (idx := [1, 0]) (l' := [J4, .abs R]) rfl (by kernel_rfl)) ?_
 exact RT (.slice none (0) (0)) [0, 1] (⟨none, 0, rfl, rfl⟩)
theorem yu {β : Bs} (a : Addr) (c : Nat) (d : List UInt8) (hA : bW β (some a) d) (hl : d.length ≤ 140737488355328) : Spec Tryz.prog β 35 #[.slice (some a) d.length c] [] (fun v l => ∃ B cap, v = .slice B d.length cap ∧ l = [Eb B d cap]) := by
 refine Spec.enter Tryz.func35 rfl Tryz.ntmps35 (Nat.le_of_ble_eq_true rfl) (fun R => ?_)
 refine SR ?_
 refine gK 1 [] [] ?_
 refine NN (af.seq (SR ?_))
 refine gK 2 [(4, .bool false)] [] ?_
 refine NN ?_
 refine CF ?_
 refine af.skip (NX (SR ?_))
 refine gN 1 (fun b1 => [(5, .slice (some ⟨b1, 0, none⟩) (0) (0))]) (fun _ => []) (fun _ => []) (fun b1 => .blk b1 [] 5) (fun b1 => ?_)
 refine aj.mem (fun w hS => hS.rU (i := 1) (b := b1) (cs := []) (e := 5) 1 0 (by kernel_rfl) rfl (by decide)) ?_
 refine gK 1 [(6, .slice (some a) (d.length) (c))] [] ?_
 refine aj.append 1 (d := (some 7)) (t := 41) (e := 5) (z := .int .u8 0) (size := 1) (bytes := 1) (n := 0) (cap := 0) (A := some ⟨b1, 0, none⟩) (xs := []) (s := (.tmp 5)) (x := (.tmp 6)) (ats := #[41, 41]) (A' := (some a)) (m := d.length) (c' := c) (news := (bI d)) (fun _ => by kernel_rfl) rfl (by kernel_rfl) (fun _ => by kernel_rfl) (fun _ => by kernel_rfl) Tryz.underlying41 (by kernel_rfl) rfl (by decide) (by rw [oC, Nat.mul_one]) (kZ d) (hA.src) (by unfold maxLen; omega) (by omega) (fun A2 c3 => ?_)
 refine aj.eH 1 (p := .abs (aG 5 1 A2 (0 + d.length) c3 ([] ++ (bI d)))) (p' := .abs (aG 5 1 A2 d.length c3 (bI d))) (by kernel_rfl) (by rw [Nat.zero_add, List.nil_append]) ?_
 refine aj.slot 7 (.slice A2 (0 + d.length) (c3)) (.slice A2 (d.length) (c3)) (fun _ => by kernel_rfl) (by rw [Nat.zero_add]) ?_
 refine gK 1 [(2, .slice A2 (d.length) (c3))] [] ?_
 refine NN (af.ret ?_)
 exact RT (.slice A2 (d.length) (c3)) [1, 0] (⟨A2, c3, rfl, rfl⟩)
theorem vM {β : Bs} (A : Option Addr) (c : Nat) (d : List UInt8) (hA : bW β A d) (hl : d.length ≤ 140737488355328) : Spec Tryz.prog β 35 #[.slice A d.length c] [] (fun v l => ∃ B cap, v = .slice B d.length cap ∧ l = [Eb B d cap]) := by
  cases A with
  | some a => exact yu a c d hA hl
  | none =>
    cases d with
    | nil => exact zL c
    | cons b r => have h := bW.hd hA (j := 0) (by simp); cases h
theorem CR {β : Bs} (A : Option Addr) (c : Nat) (d : List UInt8) (hl : d.length ≤ 140737488355328) : Spec Tryz.prog β 35 #[.slice A d.length c] [Eb A d c] (fun v l => ∃ B cap, v = .slice B d.length cap ∧ l = [Eb B d cap, Eb A d c]) :=
  (Spec.BQ (pre := []) (R := [Eb A d c]) (fun _ h => vM A c d h.bytes hl)).mono (by rintro v l ⟨l0, ⟨B, cap, rfl, rfl⟩, rfl⟩; exact ⟨B, cap, rfl, rfl⟩)
theorem CS {β : Bs} (L : HL) (b bk : Nat) (idx : Used Th) (hr : TabM.bV (keys idx)) (hn : idx.length ≤ 4096) :
    Spec Tryz.prog β 40 #[xB bk] [pI b L idx, .blk bk [.map (some b)] 80] (fun v l => ∃ A cap, v = .slice A (keys idx).length cap ∧ l = [pI b L idx, .blk bk [.map (some b)] 80, .abs (aG 3 1 A (keys idx).length cap (ints (keys idx)))]) :=
  (xC b bk idx.length (aM (aJ L idx)) (by omega)).mono (by
    rintro v l ⟨A, cap, ss, rfl, hk, _, rfl⟩
    have e := DS (us := aJ L idx) (by rw [wv]; exact hr) hk
    rw [wv] at e
    subst e
    exact ⟨A, cap, rfl, rfl⟩)
theorem GU {β : Bs} (S : aE) (L : HL) (f m t : Nat) (hI : Inv S) :
    Spec Tryz.prog β 15 #[vP f] [pF f m t S.X, pI m L S.idx, pO S.O L, pD S.O L, pE S.O L] (fun v l => ∃ A c K, v = .agg #[.slice A (ax S).length c] ∧ l = [pF f m t S.X, pI m L S.idx, pO S.O L, pD S.O L, pE S.O L] ++ Mk A c (ax S) K) := by
 have hX := hI.hX
 have hkl : (keys S.idx).length = S.idx.length := sD _
 have hil := hI.len
 refine Spec.enter Tryz.func15 rfl Tryz.ntmps15 (Nat.le_of_ble_eq_true rfl) (fun R => ?_)
 refine SR ?_
 refine gN 1 (fun b4 => [(2, vP b4)]) (fun _ => []) (fun _ => []) (fun b4 => .blk b4 [.slice none (0) (0)] 24) (fun b4 => ?_)
 refine NS ?_
 refine gN 1 (fun b5 => [(3, vP b5)]) (fun _ => []) (fun _ => []) (fun b5 => .blk b5 [.slice none (0) (0)] 24) (fun b5 => ?_)
 refine NN (af.seq (SR ?_))
 refine gK 4 [(17, .map (some m))] [(3, a_ 0 f)] ?_
 refine gL [] (Ca (some m)) ?_
 rintro _ _ ⟨b6, rfl, rfl⟩
 refine gL [2, 0] (CS L m b6 S.idx hI.rise hI.len) ?_
 rintro _ _ ⟨A7, c8, rfl, rfl⟩
 refine gK 1 [(20, vI ↑((keys S.idx).length))] [] ?_
 refine aj.mem (fun w hS => hS.jG (e := 70) (size := 10)) ?_
 refine aj.mem (aQ := [pI m L S.idx, .blk b6 [.map (some m)] 80, J5 A7 S c8, pF f m t S.X, pO S.O L, pD S.O L, pE S.O L, .abs R, Ec b4, Ec b5, .abs (aG 70 10 none 0 0 ([])), .abs (eX (iH [] zF) 0)]) (fun w hS => hS.FO (iH [] zF)) ?_
 refine aj.mem (aQ := [pI m L S.idx, .blk b6 [.map (some m)] 80, J5 A7 S c8, pF f m t S.X, pO S.O L, pD S.O L, pE S.O L, .abs R, Ec b4, Ec b5, .abs (aG 70 10 none 0 0 ([])), .abs (eX (iH [] zF) 0), .abs (eX (gM [] zF) 0)]) (fun w hS => hS.FO (gM [] zF)) ?_
 refine gK 1 [(21, vI 0)] [] ?_
 refine NN (af.block ?_)
 refine af.loop (ι := Nat × (Option Addr) × Nat × Lay) (fun ((i, An, cn, K) : Nat × (Option Addr) × Nat × Lay) => (i ≤ S.idx.length)) (fun ((i, An, cn, K) : Nat × (Option Addr) × Nat × Lay) => S.idx.length - i) (fun ((i, An, cn, K) : Nat × (Option Addr) × Nat × Lay) => (fT f b4 b5 ++ qX A7 S c8 i)) (fun ((i, An, cn, K) : Nat × (Option Addr) × Nat × Lay) => (cO b5 An i cn K S A7 c8 b4 f m t L ++ [pE S.O L, .abs R])) (0, none, 0, zF) (idx := [0, 2, 3, 19, 20, 21]) (pk := [9, 10, 11, 12, 2, 8, 3, 0, 4, 5, 6, 7]) (show (0 ≤ S.idx.length) from (Nat.zero_le _)) (fun _ => by kernel_rfl) rfl (by kernel_rfl) ?_
 rintro ⟨i, An, cn, K⟩ hi
 show af _ _ _ _ (fT f b4 b5 ++ qX A7 S c8 i) (cO b5 An i cn K S A7 c8 b4 f m t L ++ [pE S.O L, .abs R]) _
 refine SR ?_
 refine gK 1 [(22, .bool (decide ((((i : Nat) : Int) : Int) < ((((keys S.idx).length : Nat) : Int) : Int))))] [] ?_
 refine NN (af.seq ?_)
 refine af.bA (p := (((i : Nat) : Int) : Int) < ((((keys S.idx).length : Nat) : Int) : Int)) (fun _ => by kernel_rfl) (fun JZ => ?_) (fun JZ => ?_)
 ·have hi2 : i < S.idx.length := by omega
  refine af.skip (NX (af.seq (af.block (SR ?_))))
  refine aj.tell (p := (A7 = some ⟨aB A7, ay A7, none⟩)) (fun w hS => let ⟨F, h⟩ := hS.get (i := 4) rfl; (aG.Eg h (by omega)).1) (fun hAk => ?_)
  refine gK 3 [(5, vI ((bK S i)))] [(0, p_ ⟨[], some i, none, some ⟨(aB A7), ay A7, none⟩, none⟩ [((i : Nat) : Int) = ((i : Nat) : Int), i < (keys S.idx).length, (⟨(aB A7), ay A7, none⟩ : Addr).spot = none, (A7 : Option Addr) = some ⟨(aB A7), ay A7, none⟩] ⟨rfl, by omega, rfl, hAk, trivial⟩), (1, p_ ⟨[.view 4 (.int .i64 ((bK S i)))], none, none, none, none⟩ [(∀ F w, (aG 3 1 A7 ((keys S.idx).length) c8 (ints (keys S.idx))).h F w → w.cell? ⟨(aB A7), ay A7 + i * 1, none⟩ = some (vI ((bK S i))))] ⟨aG.cellAt (i := i) (j := 0) (by omega) (I9 hi2), trivial⟩)] ?_
  refine NN (af.seq ?_)
  have QG := (kH hI.toInv0 hi2).1
  have hget := get_at hI.toInv0 hi2
  rcases Nz hI.toInv0 hi2 with ⟨tk, jk, hlv⟩ | ⟨tk, jk, hlv⟩ | ⟨tk, jk, hlv⟩
  ·have hkt : (obj S.O tk).kind = 1 := hI.kind hlv
   have hel : (obj S.O tk).ah.length ≤ 8192 := hI.eG hlv
   have hdl : (obj S.O tk).data.length ≤ 140737488355328 := hI.Ev hlv
   refine af.region ?_
   refine gK 5 [(28, .map (some m)), (29, vI ((bK S i)))] [(3, a_ 6 f)] ?_
   refine aj.dM 7 (d := (some 30)) (t := 80) (K := 3) (E := 84) (b := m) (n := S.idx.length) (f := (aM (aJ L S.idx))) (x := (.tmp 28)) (ix := (.tmp 29)) (key := .int .i64 ((bK S i))) (z := .nilIface) (kl := (.int .i64 (bK S i))) (r := (some (cF L ⟨tk, 1⟩))) (fun _ => by kernel_rfl) (by kernel_rfl) (fun _ => by kernel_rfl) (fun _ => by kernel_rfl) dF Tryz.underlying80 (fun _ => by kernel_rfl) (gE (zG hI.toInv0 hi2)) (by rw [dN, hget, jk]; rfl) ?_
   refine gK 1 [(6, .iface 89 (vP (L.b tk)))] [] ?_
   refine NS ?_
   refine gK 1 [(31, .iface 89 (vP (L.b tk)))] [] ?_
   refine gL [] (cr (L.b tk)) ?_
   rintro _ _ ⟨rfl, rfl⟩
   refine gK 1 [(7, vP (L.b tk))] [] ?_
   refine NN (af.seq ?_)
   refine af.oU (S := [pO S.O L]) [0, 1, 3, 4, 5, 6, 7, 8, 9, 10, 11, 12, 13, 14, 15, 16, 17, 18] [.three 2 19 20, .one 21] [8] (by kernel_rfl) (by kernel_rfl) rfl (by kernel_rfl) ?_
   refine fN.reads (rs := []) (fr' := ([(0, vP f), (2, vP b4), (3, vP b5), (6, .iface 89 (vP (L.b tk)))] ++ zK A7 S c8 i ++ [(33, vI (bK S i)), (34, .iface 89 (vP (L.b tk)))] ++ Jb S tk)) (aV := [(∀ F w, (ak (aN S.O L)).h F w → w.cell? ⟨(L.b tk), 5, none⟩ = some (vI ((obj S.O tk).nano))), (∀ F w, (ak (aN S.O L)).h F w → w.cell? ⟨(L.b tk), 4, none⟩ = some (vI ((obj S.O tk).sec))), (∀ F w, (ak (aN S.O L)).h F w → w.cell? ⟨(L.b tk), 3, none⟩ = some (vI ((obj S.O tk).gid))), (∀ F w, (ak (aN S.O L)).h F w → w.cell? ⟨(L.b tk), 2, none⟩ = some (vI ((obj S.O tk).uid))), (∀ F w, (ak (aN S.O L)).h F w → w.cell? ⟨(L.b tk), 1, none⟩ = some (vI ((obj S.O tk).mode)))]) [0, 1, 3, 4, 5, 6, 7, 8, 9, 10, 11, 12, 13, 14, 15, 16, 17, 18] [o_, o_, o_, o_, o_, ⟨[.view 0 (.int .i64 ((obj S.O tk).mode))], none, none, none, none⟩, o_, o_, o_, ⟨[.view 0 (.int .i64 ((obj S.O tk).uid))], none, none, none, none⟩, o_, o_, o_, ⟨[.view 0 (.int .i64 ((obj S.O tk).gid))], none, none, none, none⟩, o_, o_, o_, ⟨[.view 0 (.int .i64 ((obj S.O tk).sec)), .view 0 (.int .i64 ((obj S.O tk).nano))], none, none, none, none⟩] [0, 2, 3, 6, 19, 20, 21, 33, 34, 39, 43, 47, 51] (fun _ => by kernel_rfl) ⟨bn (by rw [hkt]; decide) (rfl), bn (by rw [hkt]; decide) (rfl), bn (by rw [hkt]; decide) (rfl), bn (by rw [hkt]; decide) (rfl), bn (by rw [hkt]; decide) (rfl), trivial⟩ ?_
   refine fN.three (ι := Nat) (fa := fun (_ : Unit) => (fT f b4 b5 ++ [(6, .iface 89 (vP (L.b tk)))] ++ qX A7 S c8 i ++ [(33, vI ((bK S i))), (35, vI 1)] ++ iX S tk)) (ha := fun (_ : Unit) => (cO b5 An i cn K S A7 c8 b4 f m t L ++ [pE S.O L, .abs R])) (GN := Unit) (fb := fun (_ : Unit) => (fT f b4 b5 ++ [(6, .iface 89 (vP (L.b tk)))] ++ qX A7 S c8 i ++ [(52, .agg #[vI ((bK S i)), vI 1, vI ((obj S.O tk).mode), vI ((obj S.O tk).uid), vI ((obj S.O tk).gid), vI ((obj S.O tk).sec), vI ((obj S.O tk).nano), .slice none (0) (0), .string ⟨#[]⟩, .slice none (0) (0)])])) (hb := fun (_ : Unit) => (cO b5 An i cn K S A7 c8 b4 f m t L ++ [pE S.O L, .abs R])) (GP := Unit) (fc := fun (b10 : Nat) => (fT f b4 b5 ++ [(6, .iface 89 (vP (L.b tk)))] ++ jP b10 A7 S c8 i ++ [(35, vI 1)] ++ iX S tk)) (hc := fun (b10 : Nat) => (cO b5 An i cn K S A7 c8 b4 f m t L ++ [pE S.O L, .abs R, kV b10])) (GQ := Nat) (fd := fun (b11 : Nat) => (fT f b4 b5 ++ [(6, .iface 89 (vP (L.b tk)))] ++ jP b11 A7 S c8 i ++ [(34, .iface 89 (vP (L.b tk)))] ++ iX S tk)) (hd := fun (b11 : Nat) => (cO b5 An i cn K S A7 c8 b4 f m t L ++ [pE S.O L, .abs R, kV b11])) (GR := Nat) (fe := fun (b11 : Nat) => (fT f b4 b5 ++ [(6, .iface 89 (vP (L.b tk)))] ++ jP b11 A7 S c8 i ++ [(35, vI 1)] ++ iX S tk)) (he := fun (b11 : Nat) => (cO b5 An i cn K S A7 c8 b4 f m t L ++ [pE S.O L, .abs R, kV b11])) (GS := Nat) (fr' := fun (b9 : Nat) => ([(0, vP f), (2, vP b4), (3, vP b5), (6, .iface 89 (vP (L.b tk))), (8, vP b9)] ++ zK A7 S c8 i ++ [(52, .agg #[vI (bK S i), vI 1, vI ((obj S.O tk).mode), vI ((obj S.O tk).uid), vI ((obj S.O tk).gid), vI ((obj S.O tk).sec), vI ((obj S.O tk).nano), .slice none (0) (0), .string ⟨#[]⟩, .slice none (0) (0)])])) (hp' := fun (b9 : Nat) => (cO b5 An i cn K S A7 c8 b4 f m t L ++ [pE S.O L, .abs R, kV b9])) [8] [8] [8] [8] [8] [8] rfl rfl rfl rfl rfl rfl ?_ ?_ ?_ ?_ ?_ ?_ ?_ ?_ rfl (fun _ => by kernel_rfl) rfl (fun _ => by kernel_rfl) rfl (fun _ => by kernel_rfl) rfl (fun _ => by kernel_rfl) rfl (fun _ => by kernel_rfl) rfl (fun _ => by kernel_rfl) ?_
   ·refine gL [] (jC (vP (L.b tk))) ?_
    rintro _ _ ⟨rfl, rfl⟩
    refine NL ?_
    exact MD () [0, 2, 3, 6, 19, 20, 21, 33, 35, 39, 43, 47, 51] [0, 1, 2, 3, 4, 5, 6, 7, 8, 9, 10, 11]
   ·rintro _
    refine gK 1 [(52, .agg #[vI ((bK S i)), vI 1, vI ((obj S.O tk).mode), vI ((obj S.O tk).uid), vI ((obj S.O tk).gid), vI ((obj S.O tk).sec), vI ((obj S.O tk).nano), .slice none (0) (0), .string ⟨#[]⟩, .slice none (0) (0)])] [] ?_
    refine NL ?_
    exact MD () [0, 2, 3, 6, 19, 20, 21, 52] [0, 1, 2, 3, 4, 5, 6, 7, 8, 9, 10, 11]
   ·rintro _
    refine gN 1 (fun b9 => [(8, vP b9)]) (fun _ => []) (fun _ => []) (fun b9 => .blk b9 [vI 0, vI 0, vI 0, vI 0, vI 0, vI 0, vI 0, .slice none (0) (0), .string ⟨#[]⟩, .slice none (0) (0)] 70) (fun b9 => ?_)
    refine NL ?_
    exact MD b9 [0, 2, 3, 6, 8, 19, 20, 21, 52] [0, 1, 2, 3, 4, 5, 6, 7, 8, 9, 10, 11, 12]
   ·rintro _
    refine gN 1 (fun b10 => [(8, vP b10)]) (fun _ => []) (fun _ => []) (fun b10 => .blk b10 [vI 0, vI 0, vI 0, vI 0, vI 0, vI 0, vI 0, .slice none (0) (0), .string ⟨#[]⟩, .slice none (0) (0)] 70) (fun b10 => ?_)
    refine NL ?_
    exact MD b10 [0, 2, 3, 6, 8, 19, 20, 21, 33, 35, 39, 43, 47, 51] [0, 1, 2, 3, 4, 5, 6, 7, 8, 9, 10, 11, 12]
   ·rintro b10
    show aj _ _ _ _ _ (fT f b4 b5 ++ [(6, .iface 89 (vP (L.b tk)))] ++ jP b10 A7 S c8 i ++ [(35, vI 1)] ++ iX S tk) (cO b5 An i cn K S A7 c8 b4 f m t L ++ [pE S.O L, .abs R, kV b10]) _
    refine gK 1 [(52, .agg #[vI ((bK S i)), vI 1, vI ((obj S.O tk).mode), vI ((obj S.O tk).uid), vI ((obj S.O tk).gid), vI ((obj S.O tk).sec), vI ((obj S.O tk).nano), .slice none (0) (0), .string ⟨#[]⟩, .slice none (0) (0)])] [] ?_
    refine NL ?_
    exact MD b10 [0, 2, 3, 6, 8, 19, 20, 21, 52] [0, 1, 2, 3, 4, 5, 6, 7, 8, 9, 10, 11, 12]
   ·refine gN 1 (fun b11 => [(8, vP b11)]) (fun _ => []) (fun _ => []) (fun b11 => .blk b11 [vI 0, vI 0, vI 0, vI 0, vI 0, vI 0, vI 0, .slice none (0) (0), .string ⟨#[]⟩, .slice none (0) (0)] 70) (fun b11 => ?_)
    refine NL ?_
    exact MD b11 [0, 2, 3, 6, 8, 19, 20, 21, 33, 34, 39, 43, 47, 51] [0, 1, 2, 3, 4, 5, 6, 7, 8, 9, 10, 11, 12]
   ·rintro b11
    show aj _ _ _ _ _ (fT f b4 b5 ++ [(6, .iface 89 (vP (L.b tk)))] ++ jP b11 A7 S c8 i ++ [(34, .iface 89 (vP (L.b tk)))] ++ iX S tk) (cO b5 An i cn K S A7 c8 b4 f m t L ++ [pE S.O L, .abs R, kV b11]) _
    refine gL [] (jC (vP (L.b tk))) ?_
    rintro _ _ ⟨rfl, rfl⟩
    refine NL ?_
    exact MD b11 [0, 2, 3, 6, 8, 19, 20, 21, 33, 35, 39, 43, 47, 51] [0, 1, 2, 3, 4, 5, 6, 7, 8, 9, 10, 11, 12]
   ·rintro b11
    show aj _ _ _ _ _ (fT f b4 b5 ++ [(6, .iface 89 (vP (L.b tk)))] ++ jP b11 A7 S c8 i ++ [(35, vI 1)] ++ iX S tk) (cO b5 An i cn K S A7 c8 b4 f m t L ++ [pE S.O L, .abs R, kV b11]) _
    refine gK 1 [(52, .agg #[vI ((bK S i)), vI 1, vI ((obj S.O tk).mode), vI ((obj S.O tk).uid), vI ((obj S.O tk).gid), vI ((obj S.O tk).sec), vI ((obj S.O tk).nano), .slice none (0) (0), .string ⟨#[]⟩, .slice none (0) (0)])] [] ?_
    refine NL ?_
    exact MD b11 [0, 2, 3, 6, 8, 19, 20, 21, 52] [0, 1, 2, 3, 4, 5, 6, 7, 8, 9, 10, 11, 12]
   rintro b9
   refine fN.last rfl rfl ?_
   refine gC 1 [] [(0, A_ 12 b9 10)] [(12, ([(0, vI ((bK S i))), (1, vI 1)] ++ Ja S tk))] ?_
   refine NL (ai.np (NX (af.seq (SR ?_))))
   refine gK 1 [(53, .iface 89 (vP (L.b tk)))] [] ?_
   refine NN (af.block (SR ?_))
   refine gK 3 [(55, .bool true), (56, vP (L.b tk))] [] ?_
   refine NN ?_
   refine CT ?_
   refine SR ?_
   refine gK 1 [(9, vP (L.b tk))] [] ?_
   refine NN (af.region ?_)
   refine gK 4 [(60, .slice (L.dA tk) ((obj S.O tk).data.length) ((L.dC tk)))] [(3, v_ 8 (LV L hkt))] ?_
   refine aj.mem (aQ := ([Mr b5 An i cn, Ms An i cn K S, vL S i K, CQ S i K] ++ p8 A7 S c8 b4 f m t L ++ [NW S L tk, pE S.O L, .abs R, Mt b9 S i tk, .abs (aG 5 1 (L.dA tk) ((obj S.O tk).data.length) (L.dC tk) (bI (obj S.O tk).data))])) (fun w hS => hS.FQ (i := 9) (k := tk) rfl hkt) ?_
   refine gL [13] (CR (L.dA tk) (L.dC tk) (obj S.O tk).data hdl) ?_
   rintro _ _ ⟨jU, c13, rfl, rfl⟩
   refine aj.mem (aQ := ([pD S.O L, .abs (aG 5 1 jU ((obj S.O tk).data.length) c13 (bI (obj S.O tk).data)), Mr b5 An i cn, Ms An i cn K S, vL S i K, CQ S i K] ++ p8 A7 S c8 b4 f m t L ++ [pE S.O L, .abs R, Mt b9 S i tk])) (fun w hS => hS.Ml (i := 11) (j := 1) (ix := [0, 2, 3, 4, 5, 6, 7, 8, 9, 10, 12, 13, 14]) rfl rfl (by kernel_rfl) rfl hkt) ?_
   refine gC 2 [] [(1, a_ 13 b9)] [(13, [(7, .slice jU ((obj S.O tk).data.length) (c13))])] ?_
   refine NL (ai.aP (NX (af.region ?_)))
   refine gN 4 (fun b14 => [(104, .slice An (i) (cn)), (106, .slice (some ⟨b14, 0, none⟩) (1) (1))]) (fun b14 => [(1, a_ 2 b5), (2, A_ 13 b9 10)]) (fun _ => []) (fun b14 => .blk b14 [vI ((bK S i)), vI 1, vI ((obj S.O tk).mode), vI ((obj S.O tk).uid), vI ((obj S.O tk).gid), vI ((obj S.O tk).sec), vI ((obj S.O tk).nano), .slice jU ((obj S.O tk).data.length) (c13), .string ⟨#[]⟩, .slice none (0) (0)] 70) (fun b14 => ?_)
   refine aj.append 3 (d := (some 107)) (t := 22) (e := 70) (z := .agg #[vI 0, vI 0, vI 0, vI 0, vI 0, vI 0, vI 0, .slice none (0) (0), .string ⟨#[]⟩, .slice none (0) (0)]) (size := 10) (bytes := 120) (n := i) (cap := cn) (A := An) (xs := (cq K ((ax S).take i))) (s := (.tmp 104)) (x := (.tmp 106)) (ats := #[22, 22]) (A' := some ⟨b14, 0, none⟩) (m := 1) (c' := 1) (news := [vI ((bK S i)), vI 1, vI ((obj S.O tk).mode), vI ((obj S.O tk).uid), vI ((obj S.O tk).gid), vI ((obj S.O tk).sec), vI ((obj S.O tk).nano), .slice jU ((obj S.O tk).data.length) (c13), .string ⟨#[]⟩, .slice none (0) (0)]) (fun _ => by kernel_rfl) rfl (by kernel_rfl) (fun _ => by kernel_rfl) (fun _ => by kernel_rfl) Tryz.underlying22 (by kernel_rfl) rfl (by decide) (rfl) (by simp [Value.oneCell']) (lK (j := 14) rfl) (by unfold maxLen; omega) (by omega) (fun qG c16 => ?_)
   refine aj.eH 3 (p := .abs (aG 70 10 qG (i + 1) c16 ((cq K ((ax S).take i)) ++ [vI ((bK S i)), vI 1, vI ((obj S.O tk).mode), vI ((obj S.O tk).uid), vI ((obj S.O tk).gid), vI ((obj S.O tk).sec), vI ((obj S.O tk).nano), .slice jU ((obj S.O tk).data.length) (c13), .string ⟨#[]⟩, .slice none (0) (0)]))) (p' := .abs (aG 70 10 qG (i + 1) c16 (cq (K.put i jU c13 none 0) ((ax S).take (i + 1))))) (by kernel_rfl) (congrArg (fun x => HP.abs (aG 70 10 _ _ _ x)) (sI (cM (by omega)) (nQ hI.toInv0 hi2 jk hlv) rfl rfl)) ?_
   refine aj.slot 107 (.slice qG (i + 1) (c16)) (.slice qG ((i + 1)) (c16)) (fun _ => by kernel_rfl) (rfl) ?_
   refine gC 2 [] [(1, a_ 2 b5)] [(2, [(0, .slice qG ((i + 1)) (c16))])] ?_
   refine NL (ai.aP (NX (af.region ?_)))
   refine gK 2 [(21, vI ↑(i + 1))] [(0, p_ ⟨[], none, none, none, some (vI ↑(i + 1))⟩ [(Value.int .i64 (IntKind.wrap .i64 (((i : Nat) : Int) + 1))) = (.int .i64 ↑(i + 1))] ⟨bF (by omega) (by omega) (by omega), trivial⟩)] ?_
   refine NL ?_
   refine ai.mem (aQ := ([pD S.O L, .abs (aG 5 1 jU ((obj S.O tk).data.length) c13 (bI (obj S.O tk).data)), sK b5 qG i c16, .abs (aG 70 10 qG (i + 1) c16 (cq (K.put i jU c13 none 0) ((ax S).take (i + 1)))), vL S i K, CQ S i K] ++ p8 A7 S c8 b4 f m t L ++ [pE S.O L, .abs R, zH b9 S i tk jU c13, zH b14 S i tk jU c13, Fa])) (fun w hS => hS.jG (e := 101) (size := 2)) ?_
   refine ai.mem (aQ := ([.abs (eX (gM ((ax S).take (i + 1)) (K.put i jU c13 none 0)) (i + 1)), pD S.O L, sK b5 qG i c16, .abs (aG 70 10 qG (i + 1) c16 (cq (K.put i jU c13 none 0) ((ax S).take (i + 1)))), vL S i K] ++ p8 A7 S c8 b4 f m t L ++ [pE S.O L, .abs R, zH b9 S i tk jU c13, zH b14 S i tk jU c13, Fa])) (fun w hS => hS.oW (R' := (gM ((ax S).take (i + 1)) (K.put i jU c13 none 0))) (i := 5) (j := 1) (idx := [0, 2, 3, 4, 6, 7, 8, 9, 10, 11, 12, 13, 14, 15]) rfl rfl (by kernel_rfl) rfl (wM (cM (by omega)) (nQ hI.toInv0 hi2 jk hlv)) (uw (cM (by omega)) (nQ hI.toInv0 hi2 jk hlv) rfl)) ?_
   refine ai.mem (aQ := ([.abs (eX (iH ((ax S).take (i + 1)) (K.put i jU c13 none 0)) (i + 1)), .abs (eX (gM ((ax S).take (i + 1)) (K.put i jU c13 none 0)) (i + 1)), pD S.O L, sK b5 qG i c16, .abs (aG 70 10 qG (i + 1) c16 (cq (K.put i jU c13 none 0) ((ax S).take (i + 1))))] ++ p8 A7 S c8 b4 f m t L ++ [pE S.O L, .abs R, zH b9 S i tk jU c13, zH b14 S i tk jU c13])) (fun w hS => hS.oW (R' := (iH ((ax S).take (i + 1)) (K.put i jU c13 none 0))) (i := 4) (j := 14) (idx := [0, 1, 2, 3, 5, 6, 7, 8, 9, 10, 11, 12, 13]) rfl rfl (by kernel_rfl) rfl (wN (cM (by omega)) (nQ hI.toInv0 hi2 jk hlv)) ((ux (cM (by omega)) (nQ hI.toInv0 hi2 jk hlv) rfl))) ?_
   exact ai.turn ((i + 1), qG, c16, (K.put i jU c13 none 0)) (idx := [0, 2, 3, 19, 20, 21]) (pk := [3, 4, 0, 1, 5, 6, 7, 8, 9, 2, 10, 11]) (show (((i + 1)) ≤ S.idx.length) from (by omega)) (by show S.idx.length - ((i + 1)) < S.idx.length - i; omega) (fun _ => by kernel_rfl) rfl (by kernel_rfl)
  ·have hkt : (obj S.O tk).kind = 2 := hI.kind hlv
   have hel : (obj S.O tk).ah.length ≤ 8192 := hI.eG hlv
   have hdl : (obj S.O tk).data.length ≤ 140737488355328 := hI.Ev hlv
   refine af.region ?_
   refine gK 5 [(28, .map (some m)), (29, vI ((bK S i)))] [(3, a_ 6 f)] ?_
   refine aj.dM 7 (d := (some 30)) (t := 80) (K := 3) (E := 84) (b := m) (n := S.idx.length) (f := (aM (aJ L S.idx))) (x := (.tmp 28)) (ix := (.tmp 29)) (key := .int .i64 ((bK S i))) (z := .nilIface) (kl := (.int .i64 (bK S i))) (r := (some (cF L ⟨tk, 2⟩))) (fun _ => by kernel_rfl) (by kernel_rfl) (fun _ => by kernel_rfl) (fun _ => by kernel_rfl) dF Tryz.underlying80 (fun _ => by kernel_rfl) (gE (zG hI.toInv0 hi2)) (by rw [dN, hget, jk]; rfl) ?_
   refine gK 1 [(6, .iface 96 (vP (L.b tk)))] [] ?_
   refine NS ?_
   refine gK 1 [(31, .iface 96 (vP (L.b tk)))] [] ?_
   refine gL [] (cr (L.b tk)) ?_
   rintro _ _ ⟨rfl, rfl⟩
   refine gK 1 [(7, vP (L.b tk))] [] ?_
   refine NN (af.seq ?_)
   refine af.oU (S := [pO S.O L]) [0, 1, 3, 4, 5, 6, 7, 8, 9, 10, 11, 12, 13, 14, 15, 16, 17, 18] [.three 2 19 20, .one 21] [8] (by kernel_rfl) (by kernel_rfl) rfl (by kernel_rfl) ?_
   refine fN.reads (rs := []) (fr' := ([(0, vP f), (2, vP b4), (3, vP b5), (6, .iface 96 (vP (L.b tk)))] ++ zK A7 S c8 i ++ [(33, vI (bK S i)), (34, .iface 96 (vP (L.b tk)))] ++ Jb S tk)) (aV := [(∀ F w, (ak (aN S.O L)).h F w → w.cell? ⟨(L.b tk), 5, none⟩ = some (vI ((obj S.O tk).nano))), (∀ F w, (ak (aN S.O L)).h F w → w.cell? ⟨(L.b tk), 4, none⟩ = some (vI ((obj S.O tk).sec))), (∀ F w, (ak (aN S.O L)).h F w → w.cell? ⟨(L.b tk), 3, none⟩ = some (vI ((obj S.O tk).gid))), (∀ F w, (ak (aN S.O L)).h F w → w.cell? ⟨(L.b tk), 2, none⟩ = some (vI ((obj S.O tk).uid))), (∀ F w, (ak (aN S.O L)).h F w → w.cell? ⟨(L.b tk), 1, none⟩ = some (vI ((obj S.O tk).mode)))]) [0, 1, 3, 4, 5, 6, 7, 8, 9, 10, 11, 12, 13, 14, 15, 16, 17, 18] [o_, o_, o_, o_, o_, ⟨[.view 0 (.int .i64 ((obj S.O tk).mode))], none, none, none, none⟩, o_, o_, o_, ⟨[.view 0 (.int .i64 ((obj S.O tk).uid))], none, none, none, none⟩, o_, o_, o_, ⟨[.view 0 (.int .i64 ((obj S.O tk).gid))], none, none, none, none⟩, o_, o_, o_, ⟨[.view 0 (.int .i64 ((obj S.O tk).sec)), .view 0 (.int .i64 ((obj S.O tk).nano))], none, none, none, none⟩] [0, 2, 3, 6, 19, 20, 21, 33, 34, 39, 43, 47, 51] (fun _ => by kernel_rfl) ⟨bn (by rw [hkt]; decide) (rfl), bn (by rw [hkt]; decide) (rfl), bn (by rw [hkt]; decide) (rfl), bn (by rw [hkt]; decide) (rfl), bn (by rw [hkt]; decide) (rfl), trivial⟩ ?_
   refine fN.three (ι := Nat) (fa := fun (_ : Unit) => (fT f b4 b5 ++ [(6, .iface 96 (vP (L.b tk)))] ++ qX A7 S c8 i ++ [(33, vI ((bK S i))), (35, vI 2)] ++ iX S tk)) (ha := fun (_ : Unit) => (cO b5 An i cn K S A7 c8 b4 f m t L ++ [pE S.O L, .abs R])) (GN := Unit) (fb := fun (_ : Unit) => (fT f b4 b5 ++ [(6, .iface 96 (vP (L.b tk)))] ++ qX A7 S c8 i ++ [(52, .agg #[vI ((bK S i)), vI 2, vI ((obj S.O tk).mode), vI ((obj S.O tk).uid), vI ((obj S.O tk).gid), vI ((obj S.O tk).sec), vI ((obj S.O tk).nano), .slice none (0) (0), .string ⟨#[]⟩, .slice none (0) (0)])])) (hb := fun (_ : Unit) => (cO b5 An i cn K S A7 c8 b4 f m t L ++ [pE S.O L, .abs R])) (GP := Unit) (fc := fun (b18 : Nat) => (fT f b4 b5 ++ [(6, .iface 96 (vP (L.b tk)))] ++ jP b18 A7 S c8 i ++ [(35, vI 2)] ++ iX S tk)) (hc := fun (b18 : Nat) => (cO b5 An i cn K S A7 c8 b4 f m t L ++ [pE S.O L, .abs R, kV b18])) (GQ := Nat) (fd := fun (b19 : Nat) => (fT f b4 b5 ++ [(6, .iface 96 (vP (L.b tk)))] ++ jP b19 A7 S c8 i ++ [(34, .iface 96 (vP (L.b tk)))] ++ iX S tk)) (hd := fun (b19 : Nat) => (cO b5 An i cn K S A7 c8 b4 f m t L ++ [pE S.O L, .abs R, kV b19])) (GR := Nat) (fe := fun (b19 : Nat) => (fT f b4 b5 ++ [(6, .iface 96 (vP (L.b tk)))] ++ jP b19 A7 S c8 i ++ [(35, vI 2)] ++ iX S tk)) (he := fun (b19 : Nat) => (cO b5 An i cn K S A7 c8 b4 f m t L ++ [pE S.O L, .abs R, kV b19])) (GS := Nat) (fr' := fun (b17 : Nat) => ([(0, vP f), (2, vP b4), (3, vP b5), (6, .iface 96 (vP (L.b tk))), (8, vP b17)] ++ zK A7 S c8 i ++ [(52, .agg #[vI (bK S i), vI 2, vI ((obj S.O tk).mode), vI ((obj S.O tk).uid), vI ((obj S.O tk).gid), vI ((obj S.O tk).sec), vI ((obj S.O tk).nano), .slice none (0) (0), .string ⟨#[]⟩, .slice none (0) (0)])])) (hp' := fun (b17 : Nat) => (cO b5 An i cn K S A7 c8 b4 f m t L ++ [pE S.O L, .abs R, kV b17])) [8] [8] [8] [8] [8] [8] rfl rfl rfl rfl rfl rfl ?_ ?_ ?_ ?_ ?_ ?_ ?_ ?_ rfl (fun _ => by kernel_rfl) rfl (fun _ => by kernel_rfl) rfl (fun _ => by kernel_rfl) rfl (fun _ => by kernel_rfl) rfl (fun _ => by kernel_rfl) rfl (fun _ => by kernel_rfl) ?_
   ·refine gL [] (jD (vP (L.b tk))) ?_
    rintro _ _ ⟨rfl, rfl⟩
    refine NL ?_
    exact MD () [0, 2, 3, 6, 19, 20, 21, 33, 35, 39, 43, 47, 51] [0, 1, 2, 3, 4, 5, 6, 7, 8, 9, 10, 11]
   ·rintro _
    refine gK 1 [(52, .agg #[vI ((bK S i)), vI 2, vI ((obj S.O tk).mode), vI ((obj S.O tk).uid), vI ((obj S.O tk).gid), vI ((obj S.O tk).sec), vI ((obj S.O tk).nano), .slice none (0) (0), .string ⟨#[]⟩, .slice none (0) (0)])] [] ?_
    refine NL ?_
    exact MD () [0, 2, 3, 6, 19, 20, 21, 52] [0, 1, 2, 3, 4, 5, 6, 7, 8, 9, 10, 11]
   ·rintro _
    refine gN 1 (fun b17 => [(8, vP b17)]) (fun _ => []) (fun _ => []) (fun b17 => .blk b17 [vI 0, vI 0, vI 0, vI 0, vI 0, vI 0, vI 0, .slice none (0) (0), .string ⟨#[]⟩, .slice none (0) (0)] 70) (fun b17 => ?_)
    refine NL ?_
    exact MD b17 [0, 2, 3, 6, 8, 19, 20, 21, 52] [0, 1, 2, 3, 4, 5, 6, 7, 8, 9, 10, 11, 12]
   ·rintro _
    refine gN 1 (fun b18 => [(8, vP b18)]) (fun _ => []) (fun _ => []) (fun b18 => .blk b18 [vI 0, vI 0, vI 0, vI 0, vI 0, vI 0, vI 0, .slice none (0) (0), .string ⟨#[]⟩, .slice none (0) (0)] 70) (fun b18 => ?_)
    refine NL ?_
    exact MD b18 [0, 2, 3, 6, 8, 19, 20, 21, 33, 35, 39, 43, 47, 51] [0, 1, 2, 3, 4, 5, 6, 7, 8, 9, 10, 11, 12]
   ·rintro b18
    show aj _ _ _ _ _ (fT f b4 b5 ++ [(6, .iface 96 (vP (L.b tk)))] ++ jP b18 A7 S c8 i ++ [(35, vI 2)] ++ iX S tk) (cO b5 An i cn K S A7 c8 b4 f m t L ++ [pE S.O L, .abs R, kV b18]) _
    refine gK 1 [(52, .agg #[vI ((bK S i)), vI 2, vI ((obj S.O tk).mode), vI ((obj S.O tk).uid), vI ((obj S.O tk).gid), vI ((obj S.O tk).sec), vI ((obj S.O tk).nano), .slice none (0) (0), .string ⟨#[]⟩, .slice none (0) (0)])] [] ?_
    refine NL ?_
    exact MD b18 [0, 2, 3, 6, 8, 19, 20, 21, 52] [0, 1, 2, 3, 4, 5, 6, 7, 8, 9, 10, 11, 12]
   ·refine gN 1 (fun b19 => [(8, vP b19)]) (fun _ => []) (fun _ => []) (fun b19 => .blk b19 [vI 0, vI 0, vI 0, vI 0, vI 0, vI 0, vI 0, .slice none (0) (0), .string ⟨#[]⟩, .slice none (0) (0)] 70) (fun b19 => ?_)
    refine NL ?_
    exact MD b19 [0, 2, 3, 6, 8, 19, 20, 21, 33, 34, 39, 43, 47, 51] [0, 1, 2, 3, 4, 5, 6, 7, 8, 9, 10, 11, 12]
   ·rintro b19
    show aj _ _ _ _ _ (fT f b4 b5 ++ [(6, .iface 96 (vP (L.b tk)))] ++ jP b19 A7 S c8 i ++ [(34, .iface 96 (vP (L.b tk)))] ++ iX S tk) (cO b5 An i cn K S A7 c8 b4 f m t L ++ [pE S.O L, .abs R, kV b19]) _
    refine gL [] (jD (vP (L.b tk))) ?_
    rintro _ _ ⟨rfl, rfl⟩
    refine NL ?_
    exact MD b19 [0, 2, 3, 6, 8, 19, 20, 21, 33, 35, 39, 43, 47, 51] [0, 1, 2, 3, 4, 5, 6, 7, 8, 9, 10, 11, 12]
   ·rintro b19
    show aj _ _ _ _ _ (fT f b4 b5 ++ [(6, .iface 96 (vP (L.b tk)))] ++ jP b19 A7 S c8 i ++ [(35, vI 2)] ++ iX S tk) (cO b5 An i cn K S A7 c8 b4 f m t L ++ [pE S.O L, .abs R, kV b19]) _
    refine gK 1 [(52, .agg #[vI ((bK S i)), vI 2, vI ((obj S.O tk).mode), vI ((obj S.O tk).uid), vI ((obj S.O tk).gid), vI ((obj S.O tk).sec), vI ((obj S.O tk).nano), .slice none (0) (0), .string ⟨#[]⟩, .slice none (0) (0)])] [] ?_
    refine NL ?_
    exact MD b19 [0, 2, 3, 6, 8, 19, 20, 21, 52] [0, 1, 2, 3, 4, 5, 6, 7, 8, 9, 10, 11, 12]
   rintro b17
   refine fN.last rfl rfl ?_
   refine gC 1 [] [(0, A_ 12 b17 10)] [(12, ([(0, vI ((bK S i))), (1, vI 2)] ++ Ja S tk))] ?_
   refine NL (ai.np (NX (af.seq (SR ?_))))
   refine gK 1 [(53, .iface 96 (vP (L.b tk)))] [] ?_
   refine NN (af.block (SR ?_))
   refine gK 3 [(55, .bool false), (56, .pointer none)] [] ?_
   refine NN ?_
   refine CF ?_
   refine SR ?_
   refine gK 3 [(64, .bool false), (65, .pointer none)] [] ?_
   refine NN ?_
   refine CF ?_
   refine SR ?_
   refine gK 3 [(72, .bool true), (73, vP (L.b tk))] [] ?_
   refine NN ?_
   refine CT ?_
   refine SR ?_
   refine gK 1 [(11, vP (L.b tk))] [] ?_
   refine NS ?_
   refine gK 4 [(77, .map (some (L.m tk)))] [(3, v_ 8 (bw L hkt))] ?_
   refine aj.mem (aQ := (cO b5 An i cn K S A7 c8 b4 f m t L ++ [iV S L tk, .abs R, .blk b17 [vI ((bK S i)), vI 2, vI ((obj S.O tk).mode), vI ((obj S.O tk).uid), vI ((obj S.O tk).gid), vI ((obj S.O tk).sec), vI ((obj S.O tk).nano), .slice none (0) (0), .string ⟨#[]⟩, .slice none (0) (0)] 70, p6 L tk S])) (fun w hS => hS.Lp (i := 10) (k := tk) rfl (hkt)) ?_
   refine gL [] (I7 (some (L.m tk))) ?_
   rintro _ _ ⟨b20, rfl, rfl⟩
   refine gL [14, 0] (E6 L (L.m tk) b20 (obj S.O tk).ah.length (obj S.O tk).ah (hI.sorted _ hlv) hel) ?_
   rintro _ _ ⟨cT, dJ, rfl, rfl⟩
   refine gK 1 [(80, vI ↑((obj S.O tk).ah.length))] [] ?_
   refine aj.mem (fun w hS => hS.jG (e := 101) (size := 2)) ?_
   refine gK 1 [(81, vI 0)] [] ?_
   refine NN (af.block ?_)
   refine af.loop (ι := Nat × (Option Addr) × Nat) (fun ((j, Ae, ce) : Nat × (Option Addr) × Nat) => (j ≤ (obj S.O tk).ah.length)) (fun ((j, Ae, ce) : Nat × (Option Addr) × Nat) => (obj S.O tk).ah.length - j) (fun ((j, Ae, ce) : Nat × (Option Addr) × Nat) => (fT f b4 b5 ++ [(8, vP b17), (11, vP (L.b tk))] ++ qX A7 S c8 i ++ [(79, .slice cT ((obj S.O tk).ah.length) (dJ)), (80, vI ↑((obj S.O tk).ah.length)), (81, vI ↑j)])) (fun ((j, Ae, ce) : Nat × (Option Addr) × Nat) => (mE b17 S i tk Ae j ce L b20 cT dJ ++ cO b5 An i cn K S A7 c8 b4 f m t L ++ [iV S L tk, .abs R])) (0, none, 0) (idx := [0, 2, 3, 8, 11, 19, 20, 21, 79, 80, 81]) (pk := [15, 16, 0, 1, 2, 3, 4, 5, 6, 7, 8, 9, 10, 11, 12, 13, 14]) (show (0 ≤ (obj S.O tk).ah.length) from (Nat.zero_le _)) (fun _ => by kernel_rfl) rfl (by kernel_rfl) ?_
   rintro ⟨j, Ae, ce⟩ hj
   show af _ _ _ _ (fT f b4 b5 ++ [(8, vP b17), (11, vP (L.b tk))] ++ qX A7 S c8 i ++ [(79, .slice cT ((obj S.O tk).ah.length) (dJ)), (80, vI ↑((obj S.O tk).ah.length)), (81, vI ↑j)]) (mE b17 S i tk Ae j ce L b20 cT dJ ++ cO b5 An i cn K S A7 c8 b4 f m t L ++ [iV S L tk, .abs R]) _
   refine SR ?_
   refine gK 1 [(82, .bool (decide ((((j : Nat) : Int) : Int) < ((((obj S.O tk).ah.length : Nat) : Int) : Int))))] [] ?_
   refine NN (af.seq ?_)
   refine af.bA (p := (((j : Nat) : Int) : Int) < ((((obj S.O tk).ah.length : Nat) : Int) : Int)) (fun _ => by kernel_rfl) (fun PS => ?_) (fun PS => ?_)
   ·have hj2 : j < (obj S.O tk).ah.length := by omega
    refine af.skip (NX (af.seq (af.block (SR ?_))))
    refine aj.tell (p := (cT = some ⟨aB cT, ay cT, none⟩)) (fun w hS => let ⟨F, h⟩ := hS.get (i := 4) rfl; (aG.Eg h (by omega)).1) (fun PU => ?_)
    refine gK 3 [(13, .string (dG (obj S.O tk).ah j))] [(0, p_ ⟨[], some j, none, some ⟨(aB cT), ay cT, none⟩, none⟩ [((j : Nat) : Int) = ((j : Nat) : Int), j < (obj S.O tk).ah.length, (⟨(aB cT), ay cT, none⟩ : Addr).spot = none, (cT : Option Addr) = some ⟨(aB cT), ay cT, none⟩] ⟨rfl, by omega, rfl, PU, trivial⟩), (1, p_ ⟨[.view 4 (.string (dG (obj S.O tk).ah j))], none, none, none, none⟩ [(∀ F w, (aG 9 1 cT ((obj S.O tk).ah.length) dJ (mB (obj S.O tk).ah)).h F w → w.cell? ⟨(aB cT), ay cT + j * 1, none⟩ = some (.string (dG (obj S.O tk).ah j)))] ⟨aG.cellAt (i := j) (j := 0) (by omega) (E8 hj2), trivial⟩)] ?_
    refine NN ?_
    obtain ⟨hgd, h4⟩ := OZ hI.toInv0 hlv hj2
    have hgs : (dG (obj S.O tk).ah j).size ≤ 255 := hgd.2.1
    rcases h4 with ⟨ek, hle, wL, GV⟩ | ⟨ek, hle, wL, GV⟩ | ⟨ek, hle, wL, GV⟩
    ·have hke : (obj S.O ek).kind = 1 := hI.kind wL
     refine af.bZ (S := [p6 L tk S, pO S.O L, lE b17 S i tk Ae j ce]) [0, 1, 2, 3, 4, 5, 6, 7, 8, 9, 10, 11, 12, 13, 14, 15, 16, 17] 9 [2, 13, 0] (by kernel_rfl) (by kernel_rfl) rfl (by kernel_rfl) ?_
     refine aF.reads (r := 1) (l := [8, 9, 10, 11, 12, 13, 14, 15, 16, 17]) (fr' := (iW f b4 b5 b17 L tk A7 S c8 i cT dJ j ++ oe Ae j ce S tk ++ [(91, .map (some (L.m tk))), (92, .string (dG (obj S.O tk).ah j))])) (aV := [(∀ F w, (ak (aN S.O L)).h F w → w.cell? ⟨(L.b tk), 9, none⟩ = some (.map (some (L.m tk)))), b17 = b17]) [0, 1, 2, 3, 4, 5, 6, 7] [o_, ⟨[.at 2], none, none, none, none⟩, o_, o_, o_, o_, ⟨[.view 1 (.map (some (L.m tk)))], none, none, none, none⟩, o_] [0, 2, 3, 8, 11, 19, 20, 21, 79, 80, 81, 86, 87, 91, 92] (fun _ => by kernel_rfl) ⟨bn (by rw [hkt]; decide) (by rw [gD (hkt)]; rfl), rfl, trivial⟩ rfl rfl ?_
     refine aF.dM 0 (d := (some 93)) (t := 97) (K := 9) (E := 84) (b := (L.m tk)) (cnt := (obj S.O tk).ah.length) (f := (fS L (obj S.O tk).ah)) (x := (.tmp 91)) (ix := (.tmp 92)) (key := .string (dG (obj S.O tk).ah j)) (z := .nilIface) (kl := (.string (dG (obj S.O tk).ah j).data.toList)) (q := (some (cF L ⟨ek, 1⟩))) (by kernel_rfl) (by kernel_rfl) (fun _ => by kernel_rfl) (fun _ => by kernel_rfl) wk Tryz.underlying97 (fun _ => by kernel_rfl) (y5 (by omega)) (by rw [oY, hle]; rfl) (by kernel_rfl) ?_
     refine mL [2, 13, 0] [] (cr (L.b ek)) ?_ (by rintro _ _ ⟨rfl, rfl⟩; rfl)
     rintro _ _ ⟨rfl, rfl⟩
     refine aF.cut (ι := Unit) (fr' := fun (_ : Unit) => (iW f b4 b5 b17 L tk A7 S c8 i cT dJ j ++ oe Ae j ce S tk ++ [(95, vP (L.b ek))])) (hp' := fun (_ : Unit) => (mE b17 S i tk Ae j ce L b20 cT dJ ++ cO b5 An i cn K S A7 c8 b4 f m t L ++ [iV S L tk, .abs R])) [2, 13, 0] rfl rfl ?_ rfl (fun _ => by kernel_rfl) ?_
     ·refine gK 1 [(95, vP (L.b ek))] [] ?_
      refine NL ?_
      exact MD () [0, 2, 3, 8, 11, 19, 20, 21, 79, 80, 81, 86, 87, 95] [0, 1, 2, 3, 4, 5, 6, 7, 8, 9, 10, 11, 12, 13, 14, 15, 16]
     rintro _
     refine aF.cut (ι := Unit) (fr' := fun (_ : Unit) => (iW f b4 b5 b17 L tk A7 S c8 i cT dJ j ++ oe Ae j ce S tk ++ [(96, vP (L.b ek))])) (hp' := fun (_ : Unit) => (mE b17 S i tk Ae j ce L b20 cT dJ ++ cO b5 An i cn K S A7 c8 b4 f m t L ++ [iV S L tk, .abs R])) [2, 13, 0] rfl rfl ?_ rfl (fun _ => by kernel_rfl) ?_
     ·refine gK 1 [(96, vP (L.b ek))] [] ?_
      refine NL ?_
      exact MD () [0, 2, 3, 8, 11, 19, 20, 21, 79, 80, 81, 86, 87, 96] [0, 1, 2, 3, 4, 5, 6, 7, 8, 9, 10, 11, 12, 13, 14, 15, 16]
     rintro _
     refine aF.cut (ι := Unit) (fr' := fun (_ : Unit) => (iW f b4 b5 b17 L tk A7 S c8 i cT dJ j ++ oe Ae j ce S tk ++ [(97, vI ((obj S.O ek).id))])) (hp' := fun (_ : Unit) => (mE b17 S i tk Ae j ce L b20 cT dJ ++ cO b5 An i cn K S A7 c8 b4 f m t L ++ [iV S L tk, .abs R])) [2, 13, 0] rfl rfl ?_ rfl (fun _ => by kernel_rfl) ?_
     ·refine gK 1 [(97, vI ((obj S.O ek).id))] [(0, v_ 13 (zm L hke))] ?_
      refine NL ?_
      exact MD () [0, 2, 3, 8, 11, 19, 20, 21, 79, 80, 81, 86, 87, 97] [0, 1, 2, 3, 4, 5, 6, 7, 8, 9, 10, 11, 12, 13, 14, 15, 16]
     rintro _
     refine aF.cut (ι := Unit) (fr' := fun (_ : Unit) => (iW f b4 b5 b17 L tk A7 S c8 i cT dJ j ++ [(86, .slice Ae (j) (ce)), (98, .agg #[.string (dG (obj S.O tk).ah j), vI ((obj S.O ek).id)])])) (hp' := fun (_ : Unit) => (mE b17 S i tk Ae j ce L b20 cT dJ ++ cO b5 An i cn K S A7 c8 b4 f m t L ++ [iV S L tk, .abs R])) [2, 13, 0] rfl rfl ?_ rfl (fun _ => by kernel_rfl) ?_
     ·refine gK 1 [(98, .agg #[.string (dG (obj S.O tk).ah j), vI ((obj S.O ek).id)])] [] ?_
      refine NL ?_
      exact MD () [0, 2, 3, 8, 11, 19, 20, 21, 79, 80, 81, 86, 98] [0, 1, 2, 3, 4, 5, 6, 7, 8, 9, 10, 11, 12, 13, 14, 15, 16]
     rintro _
     refine mN [2, 13, 0] (fun yt => [(99, .slice (some ⟨yt, 0, none⟩) (1) (1))]) (fun _ => []) (fun yt => .blk yt [.string (dG (obj S.O tk).ah j), vI ((obj S.O ek).id)] 101) (fun yt => ?_)
     refine aF.cut (ι := (Option Addr) × Nat) (fr' := fun ((oo, oq) : (Option Addr) × Nat) => (iW f b4 b5 b17 L tk A7 S c8 i cT dJ j ++ [(100, .slice oo ((j + 1)) (oq))])) (hp' := fun ((oo, oq) : (Option Addr) × Nat) => ([lE b17 S i tk Ae j ce, zI oo j oq S tk, p6 L tk S, qV b20 L tk, qW cT S tk dJ] ++ cO b5 An i cn K S A7 c8 b4 f m t L ++ [iV S L tk, .abs R, zJ yt S tk j ek])) [2, 13, 0] rfl rfl ?_ rfl (fun _ => by kernel_rfl) ?_
     ·refine aj.append 1 (d := (some 100)) (t := 68) (e := 101) (z := .agg #[.string ⟨#[]⟩, vI 0]) (size := 2) (bytes := 24) (n := j) (cap := ce) (A := Ae) (xs := (eZ (((obj S.O tk).ah.take j).map (ji S.O)))) (s := (.tmp 86)) (x := (.tmp 99)) (ats := #[68, 68]) (A' := some ⟨yt, 0, none⟩) (m := 1) (c' := 1) (news := [.string (dG (obj S.O tk).ah j), vI ((obj S.O ek).id)]) (fun _ => by kernel_rfl) rfl (by kernel_rfl) (fun _ => by kernel_rfl) (fun _ => by kernel_rfl) Tryz.underlying68 (by kernel_rfl) rfl (by decide) (rfl) (by simp [Value.oneCell']) (lK (j := 17) rfl) (by unfold maxLen; omega) (by omega) (fun oo oq => ?_)
      refine aj.eH 1 (p := .abs (aG 101 2 oo (j + 1) oq ((eZ (((obj S.O tk).ah.take j).map (ji S.O))) ++ [.string (dG (obj S.O tk).ah j), vI ((obj S.O ek).id)]))) (p' := .abs (aG 101 2 oo (j + 1) oq (eZ (((obj S.O tk).ah.take (j + 1)).map (ji S.O))))) (by kernel_rfl) (congrArg (fun x => HP.abs (aG 101 2 _ _ _ x)) (uy hj2 GV)) ?_
      refine aj.slot 100 (.slice oo (j + 1) (oq)) (.slice oo ((j + 1)) (oq)) (fun _ => by kernel_rfl) (rfl) ?_
      refine NL ?_
      exact MD (oo, oq) [0, 2, 3, 8, 11, 19, 20, 21, 79, 80, 81, 100] [0, 1, 2, 3, 4, 5, 6, 7, 8, 9, 10, 11, 12, 13, 14, 15, 16, 17]
     rintro ⟨oo, oq⟩
     refine aF.cut (ι := Unit) (fr' := fun (_ : Unit) => (iW f b4 b5 b17 L tk A7 S c8 i cT dJ j ++ [(100, .slice oo ((j + 1)) (oq)), (101, .pointer (some ⟨b17, 9, none⟩))])) (hp' := fun (_ : Unit) => ([lE b17 S i tk Ae j ce, zI oo j oq S tk, p6 L tk S, qV b20 L tk, qW cT S tk dJ] ++ cO b5 An i cn K S A7 c8 b4 f m t L ++ [iV S L tk, .abs R, zJ yt S tk j ek])) [2, 13, 0] rfl rfl ?_ rfl (fun _ => by kernel_rfl) ?_
     ·refine gK 1 [(101, .pointer (some ⟨b17, 9, none⟩))] [] ?_
      refine NL ?_
      exact MD () [0, 2, 3, 8, 11, 19, 20, 21, 79, 80, 81, 100, 101] [0, 1, 2, 3, 4, 5, 6, 7, 8, 9, 10, 11, 12, 13, 14, 15, 16, 17]
     rintro _
     refine aF.last rfl rfl ?_
     refine gC 1 [] [(0, a_ 0 b17)] [(0, [(9, .slice oo ((j + 1)) (oq))])] ?_
     refine NL (ai.np (ai.aP (NX (af.region ?_))))
     refine gK 2 [(81, vI ↑(j + 1))] [(0, p_ ⟨[], none, none, none, some (vI ↑(j + 1))⟩ [(Value.int .i64 (IntKind.wrap .i64 (((j : Nat) : Int) + 1))) = (.int .i64 ↑(j + 1))] ⟨bF (by omega) (by omega) (by omega), trivial⟩)] ?_
     refine NL ?_
     exact ai.turn ((j + 1), oo, oq) (idx := [0, 2, 3, 8, 11, 19, 20, 21, 79, 80, 81]) (pk := [0, 1, 2, 3, 4, 5, 6, 7, 8, 9, 10, 11, 12, 13, 14, 15, 16]) (show (((j + 1)) ≤ (obj S.O tk).ah.length) from (by omega)) (by show (obj S.O tk).ah.length - ((j + 1)) < (obj S.O tk).ah.length - j; omega) (fun _ => by kernel_rfl) rfl (by kernel_rfl)
    ·have hke : (obj S.O ek).kind = 2 := hI.kind wL
     refine af.bZ (S := [p6 L tk S, pO S.O L, lE b17 S i tk Ae j ce]) [0, 1, 2, 3, 4, 5, 6, 7, 8, 9, 10, 11, 12, 13, 14, 15, 16, 17] 9 [2, 13, 0] (by kernel_rfl) (by kernel_rfl) rfl (by kernel_rfl) ?_
     refine aF.reads (r := 1) (l := [8, 9, 10, 11, 12, 13, 14, 15, 16, 17]) (fr' := (iW f b4 b5 b17 L tk A7 S c8 i cT dJ j ++ oe Ae j ce S tk ++ [(91, .map (some (L.m tk))), (92, .string (dG (obj S.O tk).ah j))])) (aV := [(∀ F w, (ak (aN S.O L)).h F w → w.cell? ⟨(L.b tk), 9, none⟩ = some (.map (some (L.m tk)))), b17 = b17]) [0, 1, 2, 3, 4, 5, 6, 7] [o_, ⟨[.at 2], none, none, none, none⟩, o_, o_, o_, o_, ⟨[.view 1 (.map (some (L.m tk)))], none, none, none, none⟩, o_] [0, 2, 3, 8, 11, 19, 20, 21, 79, 80, 81, 86, 87, 91, 92] (fun _ => by kernel_rfl) ⟨bn (by rw [hkt]; decide) (by rw [gD (hkt)]; rfl), rfl, trivial⟩ rfl rfl ?_
     refine aF.dM 0 (d := (some 93)) (t := 97) (K := 9) (E := 84) (b := (L.m tk)) (cnt := (obj S.O tk).ah.length) (f := (fS L (obj S.O tk).ah)) (x := (.tmp 91)) (ix := (.tmp 92)) (key := .string (dG (obj S.O tk).ah j)) (z := .nilIface) (kl := (.string (dG (obj S.O tk).ah j).data.toList)) (q := (some (cF L ⟨ek, 2⟩))) (by kernel_rfl) (by kernel_rfl) (fun _ => by kernel_rfl) (fun _ => by kernel_rfl) wk Tryz.underlying97 (fun _ => by kernel_rfl) (y5 (by omega)) (by rw [oY, hle]; rfl) (by kernel_rfl) ?_
     refine mL [2, 13, 0] [] (cr (L.b ek)) ?_ (by rintro _ _ ⟨rfl, rfl⟩; rfl)
     rintro _ _ ⟨rfl, rfl⟩
     refine aF.cut (ι := Unit) (fr' := fun (_ : Unit) => (iW f b4 b5 b17 L tk A7 S c8 i cT dJ j ++ oe Ae j ce S tk ++ [(95, vP (L.b ek))])) (hp' := fun (_ : Unit) => (mE b17 S i tk Ae j ce L b20 cT dJ ++ cO b5 An i cn K S A7 c8 b4 f m t L ++ [iV S L tk, .abs R])) [2, 13, 0] rfl rfl ?_ rfl (fun _ => by kernel_rfl) ?_
     ·refine gK 1 [(95, vP (L.b ek))] [] ?_
      refine NL ?_
      exact MD () [0, 2, 3, 8, 11, 19, 20, 21, 79, 80, 81, 86, 87, 95] [0, 1, 2, 3, 4, 5, 6, 7, 8, 9, 10, 11, 12, 13, 14, 15, 16]
     rintro _
     refine aF.cut (ι := Unit) (fr' := fun (_ : Unit) => (iW f b4 b5 b17 L tk A7 S c8 i cT dJ j ++ oe Ae j ce S tk ++ [(96, vP (L.b ek))])) (hp' := fun (_ : Unit) => (mE b17 S i tk Ae j ce L b20 cT dJ ++ cO b5 An i cn K S A7 c8 b4 f m t L ++ [iV S L tk, .abs R])) [2, 13, 0] rfl rfl ?_ rfl (fun _ => by kernel_rfl) ?_
     ·refine gK 1 [(96, vP (L.b ek))] [] ?_
      refine NL ?_
      exact MD () [0, 2, 3, 8, 11, 19, 20, 21, 79, 80, 81, 86, 87, 96] [0, 1, 2, 3, 4, 5, 6, 7, 8, 9, 10, 11, 12, 13, 14, 15, 16]
     rintro _
     refine aF.cut (ι := Unit) (fr' := fun (_ : Unit) => (iW f b4 b5 b17 L tk A7 S c8 i cT dJ j ++ oe Ae j ce S tk ++ [(97, vI ((obj S.O ek).id))])) (hp' := fun (_ : Unit) => (mE b17 S i tk Ae j ce L b20 cT dJ ++ cO b5 An i cn K S A7 c8 b4 f m t L ++ [iV S L tk, .abs R])) [2, 13, 0] rfl rfl ?_ rfl (fun _ => by kernel_rfl) ?_
     ·refine gK 1 [(97, vI ((obj S.O ek).id))] [(0, v_ 13 (zm L hke))] ?_
      refine NL ?_
      exact MD () [0, 2, 3, 8, 11, 19, 20, 21, 79, 80, 81, 86, 87, 97] [0, 1, 2, 3, 4, 5, 6, 7, 8, 9, 10, 11, 12, 13, 14, 15, 16]
     rintro _
     refine aF.cut (ι := Unit) (fr' := fun (_ : Unit) => (iW f b4 b5 b17 L tk A7 S c8 i cT dJ j ++ [(86, .slice Ae (j) (ce)), (98, .agg #[.string (dG (obj S.O tk).ah j), vI ((obj S.O ek).id)])])) (hp' := fun (_ : Unit) => (mE b17 S i tk Ae j ce L b20 cT dJ ++ cO b5 An i cn K S A7 c8 b4 f m t L ++ [iV S L tk, .abs R])) [2, 13, 0] rfl rfl ?_ rfl (fun _ => by kernel_rfl) ?_
     ·refine gK 1 [(98, .agg #[.string (dG (obj S.O tk).ah j), vI ((obj S.O ek).id)])] [] ?_
      refine NL ?_
      exact MD () [0, 2, 3, 8, 11, 19, 20, 21, 79, 80, 81, 86, 98] [0, 1, 2, 3, 4, 5, 6, 7, 8, 9, 10, 11, 12, 13, 14, 15, 16]
     rintro _
     refine mN [2, 13, 0] (fun CU => [(99, .slice (some ⟨CU, 0, none⟩) (1) (1))]) (fun _ => []) (fun CU => .blk CU [.string (dG (obj S.O tk).ah j), vI ((obj S.O ek).id)] 101) (fun CU => ?_)
     refine aF.cut (ι := (Option Addr) × Nat) (fr' := fun ((qH, qI) : (Option Addr) × Nat) => (iW f b4 b5 b17 L tk A7 S c8 i cT dJ j ++ [(100, .slice qH ((j + 1)) (qI))])) (hp' := fun ((qH, qI) : (Option Addr) × Nat) => ([lE b17 S i tk Ae j ce, zI qH j qI S tk, p6 L tk S, qV b20 L tk, qW cT S tk dJ] ++ cO b5 An i cn K S A7 c8 b4 f m t L ++ [iV S L tk, .abs R, zJ CU S tk j ek])) [2, 13, 0] rfl rfl ?_ rfl (fun _ => by kernel_rfl) ?_
     ·refine aj.append 1 (d := (some 100)) (t := 68) (e := 101) (z := .agg #[.string ⟨#[]⟩, vI 0]) (size := 2) (bytes := 24) (n := j) (cap := ce) (A := Ae) (xs := (eZ (((obj S.O tk).ah.take j).map (ji S.O)))) (s := (.tmp 86)) (x := (.tmp 99)) (ats := #[68, 68]) (A' := some ⟨CU, 0, none⟩) (m := 1) (c' := 1) (news := [.string (dG (obj S.O tk).ah j), vI ((obj S.O ek).id)]) (fun _ => by kernel_rfl) rfl (by kernel_rfl) (fun _ => by kernel_rfl) (fun _ => by kernel_rfl) Tryz.underlying68 (by kernel_rfl) rfl (by decide) (rfl) (by simp [Value.oneCell']) (lK (j := 17) rfl) (by unfold maxLen; omega) (by omega) (fun qH qI => ?_)
      refine aj.eH 1 (p := .abs (aG 101 2 qH (j + 1) qI ((eZ (((obj S.O tk).ah.take j).map (ji S.O))) ++ [.string (dG (obj S.O tk).ah j), vI ((obj S.O ek).id)]))) (p' := .abs (aG 101 2 qH (j + 1) qI (eZ (((obj S.O tk).ah.take (j + 1)).map (ji S.O))))) (by kernel_rfl) (congrArg (fun x => HP.abs (aG 101 2 _ _ _ x)) (uy hj2 GV)) ?_
      refine aj.slot 100 (.slice qH (j + 1) (qI)) (.slice qH ((j + 1)) (qI)) (fun _ => by kernel_rfl) (rfl) ?_
      refine NL ?_
      exact MD (qH, qI) [0, 2, 3, 8, 11, 19, 20, 21, 79, 80, 81, 100] [0, 1, 2, 3, 4, 5, 6, 7, 8, 9, 10, 11, 12, 13, 14, 15, 16, 17]
     rintro ⟨qH, qI⟩
     refine aF.cut (ι := Unit) (fr' := fun (_ : Unit) => (iW f b4 b5 b17 L tk A7 S c8 i cT dJ j ++ [(100, .slice qH ((j + 1)) (qI)), (101, .pointer (some ⟨b17, 9, none⟩))])) (hp' := fun (_ : Unit) => ([lE b17 S i tk Ae j ce, zI qH j qI S tk, p6 L tk S, qV b20 L tk, qW cT S tk dJ] ++ cO b5 An i cn K S A7 c8 b4 f m t L ++ [iV S L tk, .abs R, zJ CU S tk j ek])) [2, 13, 0] rfl rfl ?_ rfl (fun _ => by kernel_rfl) ?_
     ·refine gK 1 [(101, .pointer (some ⟨b17, 9, none⟩))] [] ?_
      refine NL ?_
      exact MD () [0, 2, 3, 8, 11, 19, 20, 21, 79, 80, 81, 100, 101] [0, 1, 2, 3, 4, 5, 6, 7, 8, 9, 10, 11, 12, 13, 14, 15, 16, 17]
     rintro _
     refine aF.last rfl rfl ?_
     refine gC 1 [] [(0, a_ 0 b17)] [(0, [(9, .slice qH ((j + 1)) (qI))])] ?_
     refine NL (ai.np (ai.aP (NX (af.region ?_))))
     refine gK 2 [(81, vI ↑(j + 1))] [(0, p_ ⟨[], none, none, none, some (vI ↑(j + 1))⟩ [(Value.int .i64 (IntKind.wrap .i64 (((j : Nat) : Int) + 1))) = (.int .i64 ↑(j + 1))] ⟨bF (by omega) (by omega) (by omega), trivial⟩)] ?_
     refine NL ?_
     exact ai.turn ((j + 1), qH, qI) (idx := [0, 2, 3, 8, 11, 19, 20, 21, 79, 80, 81]) (pk := [0, 1, 2, 3, 4, 5, 6, 7, 8, 9, 10, 11, 12, 13, 14, 15, 16]) (show (((j + 1)) ≤ (obj S.O tk).ah.length) from (by omega)) (by show (obj S.O tk).ah.length - ((j + 1)) < (obj S.O tk).ah.length - j; omega) (fun _ => by kernel_rfl) rfl (by kernel_rfl)
    have hke : (obj S.O ek).kind = 3 := hI.kind wL
    refine af.bZ (S := [p6 L tk S, pO S.O L, lE b17 S i tk Ae j ce]) [0, 1, 2, 3, 4, 5, 6, 7, 8, 9, 10, 11, 12, 13, 14, 15, 16, 17] 9 [2, 13, 0] (by kernel_rfl) (by kernel_rfl) rfl (by kernel_rfl) ?_
    refine aF.reads (r := 1) (l := [8, 9, 10, 11, 12, 13, 14, 15, 16, 17]) (fr' := (iW f b4 b5 b17 L tk A7 S c8 i cT dJ j ++ oe Ae j ce S tk ++ [(91, .map (some (L.m tk))), (92, .string (dG (obj S.O tk).ah j))])) (aV := [(∀ F w, (ak (aN S.O L)).h F w → w.cell? ⟨(L.b tk), 9, none⟩ = some (.map (some (L.m tk)))), b17 = b17]) [0, 1, 2, 3, 4, 5, 6, 7] [o_, ⟨[.at 2], none, none, none, none⟩, o_, o_, o_, o_, ⟨[.view 1 (.map (some (L.m tk)))], none, none, none, none⟩, o_] [0, 2, 3, 8, 11, 19, 20, 21, 79, 80, 81, 86, 87, 91, 92] (fun _ => by kernel_rfl) ⟨bn (by rw [hkt]; decide) (by rw [gD (hkt)]; rfl), rfl, trivial⟩ rfl rfl ?_
    refine aF.dM 0 (d := (some 93)) (t := 97) (K := 9) (E := 84) (b := (L.m tk)) (cnt := (obj S.O tk).ah.length) (f := (fS L (obj S.O tk).ah)) (x := (.tmp 91)) (ix := (.tmp 92)) (key := .string (dG (obj S.O tk).ah j)) (z := .nilIface) (kl := (.string (dG (obj S.O tk).ah j).data.toList)) (q := (some (cF L ⟨ek, 3⟩))) (by kernel_rfl) (by kernel_rfl) (fun _ => by kernel_rfl) (fun _ => by kernel_rfl) wk Tryz.underlying97 (fun _ => by kernel_rfl) (y5 (by omega)) (by rw [oY, hle]; rfl) (by kernel_rfl) ?_
    refine mL [2, 13, 0] [] (cr (L.b ek)) ?_ (by rintro _ _ ⟨rfl, rfl⟩; rfl)
    rintro _ _ ⟨rfl, rfl⟩
    refine aF.cut (ι := Unit) (fr' := fun (_ : Unit) => (iW f b4 b5 b17 L tk A7 S c8 i cT dJ j ++ oe Ae j ce S tk ++ [(95, vP (L.b ek))])) (hp' := fun (_ : Unit) => (mE b17 S i tk Ae j ce L b20 cT dJ ++ cO b5 An i cn K S A7 c8 b4 f m t L ++ [iV S L tk, .abs R])) [2, 13, 0] rfl rfl ?_ rfl (fun _ => by kernel_rfl) ?_
    ·refine gK 1 [(95, vP (L.b ek))] [] ?_
     refine NL ?_
     exact MD () [0, 2, 3, 8, 11, 19, 20, 21, 79, 80, 81, 86, 87, 95] [0, 1, 2, 3, 4, 5, 6, 7, 8, 9, 10, 11, 12, 13, 14, 15, 16]
    rintro _
    refine aF.cut (ι := Unit) (fr' := fun (_ : Unit) => (iW f b4 b5 b17 L tk A7 S c8 i cT dJ j ++ oe Ae j ce S tk ++ [(96, vP (L.b ek))])) (hp' := fun (_ : Unit) => (mE b17 S i tk Ae j ce L b20 cT dJ ++ cO b5 An i cn K S A7 c8 b4 f m t L ++ [iV S L tk, .abs R])) [2, 13, 0] rfl rfl ?_ rfl (fun _ => by kernel_rfl) ?_
    ·refine gK 1 [(96, vP (L.b ek))] [] ?_
     refine NL ?_
     exact MD () [0, 2, 3, 8, 11, 19, 20, 21, 79, 80, 81, 86, 87, 96] [0, 1, 2, 3, 4, 5, 6, 7, 8, 9, 10, 11, 12, 13, 14, 15, 16]
    rintro _
    refine aF.cut (ι := Unit) (fr' := fun (_ : Unit) => (iW f b4 b5 b17 L tk A7 S c8 i cT dJ j ++ oe Ae j ce S tk ++ [(97, vI ((obj S.O ek).id))])) (hp' := fun (_ : Unit) => (mE b17 S i tk Ae j ce L b20 cT dJ ++ cO b5 An i cn K S A7 c8 b4 f m t L ++ [iV S L tk, .abs R])) [2, 13, 0] rfl rfl ?_ rfl (fun _ => by kernel_rfl) ?_
    ·refine gK 1 [(97, vI ((obj S.O ek).id))] [(0, v_ 13 (zm L hke))] ?_
     refine NL ?_
     exact MD () [0, 2, 3, 8, 11, 19, 20, 21, 79, 80, 81, 86, 87, 97] [0, 1, 2, 3, 4, 5, 6, 7, 8, 9, 10, 11, 12, 13, 14, 15, 16]
    rintro _
    refine aF.cut (ι := Unit) (fr' := fun (_ : Unit) => (iW f b4 b5 b17 L tk A7 S c8 i cT dJ j ++ [(86, .slice Ae (j) (ce)), (98, .agg #[.string (dG (obj S.O tk).ah j), vI ((obj S.O ek).id)])])) (hp' := fun (_ : Unit) => (mE b17 S i tk Ae j ce L b20 cT dJ ++ cO b5 An i cn K S A7 c8 b4 f m t L ++ [iV S L tk, .abs R])) [2, 13, 0] rfl rfl ?_ rfl (fun _ => by kernel_rfl) ?_
    ·refine gK 1 [(98, .agg #[.string (dG (obj S.O tk).ah j), vI ((obj S.O ek).id)])] [] ?_
     refine NL ?_
     exact MD () [0, 2, 3, 8, 11, 19, 20, 21, 79, 80, 81, 86, 98] [0, 1, 2, 3, 4, 5, 6, 7, 8, 9, 10, 11, 12, 13, 14, 15, 16]
    rintro _
    refine mN [2, 13, 0] (fun CV => [(99, .slice (some ⟨CV, 0, none⟩) (1) (1))]) (fun _ => []) (fun CV => .blk CV [.string (dG (obj S.O tk).ah j), vI ((obj S.O ek).id)] 101) (fun CV => ?_)
    refine aF.cut (ι := (Option Addr) × Nat) (fr' := fun ((qJ, qK) : (Option Addr) × Nat) => (iW f b4 b5 b17 L tk A7 S c8 i cT dJ j ++ [(100, .slice qJ ((j + 1)) (qK))])) (hp' := fun ((qJ, qK) : (Option Addr) × Nat) => ([lE b17 S i tk Ae j ce, zI qJ j qK S tk, p6 L tk S, qV b20 L tk, qW cT S tk dJ] ++ cO b5 An i cn K S A7 c8 b4 f m t L ++ [iV S L tk, .abs R, zJ CV S tk j ek])) [2, 13, 0] rfl rfl ?_ rfl (fun _ => by kernel_rfl) ?_
    ·refine aj.append 1 (d := (some 100)) (t := 68) (e := 101) (z := .agg #[.string ⟨#[]⟩, vI 0]) (size := 2) (bytes := 24) (n := j) (cap := ce) (A := Ae) (xs := (eZ (((obj S.O tk).ah.take j).map (ji S.O)))) (s := (.tmp 86)) (x := (.tmp 99)) (ats := #[68, 68]) (A' := some ⟨CV, 0, none⟩) (m := 1) (c' := 1) (news := [.string (dG (obj S.O tk).ah j), vI ((obj S.O ek).id)]) (fun _ => by kernel_rfl) rfl (by kernel_rfl) (fun _ => by kernel_rfl) (fun _ => by kernel_rfl) Tryz.underlying68 (by kernel_rfl) rfl (by decide) (rfl) (by simp [Value.oneCell']) (lK (j := 17) rfl) (by unfold maxLen; omega) (by omega) (fun qJ qK => ?_)
     refine aj.eH 1 (p := .abs (aG 101 2 qJ (j + 1) qK ((eZ (((obj S.O tk).ah.take j).map (ji S.O))) ++ [.string (dG (obj S.O tk).ah j), vI ((obj S.O ek).id)]))) (p' := .abs (aG 101 2 qJ (j + 1) qK (eZ (((obj S.O tk).ah.take (j + 1)).map (ji S.O))))) (by kernel_rfl) (congrArg (fun x => HP.abs (aG 101 2 _ _ _ x)) (uy hj2 GV)) ?_
     refine aj.slot 100 (.slice qJ (j + 1) (qK)) (.slice qJ ((j + 1)) (qK)) (fun _ => by kernel_rfl) (rfl) ?_
     refine NL ?_
     exact MD (qJ, qK) [0, 2, 3, 8, 11, 19, 20, 21, 79, 80, 81, 100] [0, 1, 2, 3, 4, 5, 6, 7, 8, 9, 10, 11, 12, 13, 14, 15, 16, 17]
    rintro ⟨qJ, qK⟩
    refine aF.cut (ι := Unit) (fr' := fun (_ : Unit) => (iW f b4 b5 b17 L tk A7 S c8 i cT dJ j ++ [(100, .slice qJ ((j + 1)) (qK)), (101, .pointer (some ⟨b17, 9, none⟩))])) (hp' := fun (_ : Unit) => ([lE b17 S i tk Ae j ce, zI qJ j qK S tk, p6 L tk S, qV b20 L tk, qW cT S tk dJ] ++ cO b5 An i cn K S A7 c8 b4 f m t L ++ [iV S L tk, .abs R, zJ CV S tk j ek])) [2, 13, 0] rfl rfl ?_ rfl (fun _ => by kernel_rfl) ?_
    ·refine gK 1 [(101, .pointer (some ⟨b17, 9, none⟩))] [] ?_
     refine NL ?_
     exact MD () [0, 2, 3, 8, 11, 19, 20, 21, 79, 80, 81, 100, 101] [0, 1, 2, 3, 4, 5, 6, 7, 8, 9, 10, 11, 12, 13, 14, 15, 16, 17]
    rintro _
    refine aF.last rfl rfl ?_
    refine gC 1 [] [(0, a_ 0 b17)] [(0, [(9, .slice qJ ((j + 1)) (qK))])] ?_
    refine NL (ai.np (ai.aP (NX (af.region ?_))))
    refine gK 2 [(81, vI ↑(j + 1))] [(0, p_ ⟨[], none, none, none, some (vI ↑(j + 1))⟩ [(Value.int .i64 (IntKind.wrap .i64 (((j : Nat) : Int) + 1))) = (.int .i64 ↑(j + 1))] ⟨bF (by omega) (by omega) (by omega), trivial⟩)] ?_
    refine NL ?_
    exact ai.turn ((j + 1), qJ, qK) (idx := [0, 2, 3, 8, 11, 19, 20, 21, 79, 80, 81]) (pk := [0, 1, 2, 3, 4, 5, 6, 7, 8, 9, 10, 11, 12, 13, 14, 15, 16]) (show (((j + 1)) ≤ (obj S.O tk).ah.length) from (by omega)) (by show (obj S.O tk).ah.length - ((j + 1)) < (obj S.O tk).ah.length - j; omega) (fun _ => by kernel_rfl) rfl (by kernel_rfl)
   refine af.exit (ai.bq (ai.bq (ai.cL (ai.aP (NX (af.region ?_))))))
   have hjl : j = (obj S.O tk).ah.length := by omega
   refine aj.mem (aQ := ([pE S.O L, lE b17 S i tk Ae j ce, Fb Ae j ce S tk, qV b20 L tk, qW cT S tk dJ] ++ cO b5 An i cn K S A7 c8 b4 f m t L ++ [.abs R])) (fun w hS => hS.Lr (i := 15) (j := 2) (idx := [0, 1, 3, 4, 5, 6, 7, 8, 9, 10, 11, 12, 13, 14, 16]) (k := tk) rfl rfl (by kernel_rfl) rfl (hkt)) ?_
   refine gN 4 (fun b32 => [(104, .slice An (i) (cn)), (106, .slice (some ⟨b32, 0, none⟩) (1) (1))]) (fun b32 => [(1, a_ 5 b5), (2, A_ 1 b17 10)]) (fun _ => []) (fun b32 => .blk b32 [vI ((bK S i)), vI 2, vI ((obj S.O tk).mode), vI ((obj S.O tk).uid), vI ((obj S.O tk).gid), vI ((obj S.O tk).sec), vI ((obj S.O tk).nano), .slice none (0) (0), .string ⟨#[]⟩, .slice Ae (j) (ce)] 70) (fun b32 => ?_)
   refine aj.append 6 (d := (some 107)) (t := 22) (e := 70) (z := .agg #[vI 0, vI 0, vI 0, vI 0, vI 0, vI 0, vI 0, .slice none (0) (0), .string ⟨#[]⟩, .slice none (0) (0)]) (size := 10) (bytes := 120) (n := i) (cap := cn) (A := An) (xs := (cq K ((ax S).take i))) (s := (.tmp 104)) (x := (.tmp 106)) (ats := #[22, 22]) (A' := some ⟨b32, 0, none⟩) (m := 1) (c' := 1) (news := [vI ((bK S i)), vI 2, vI ((obj S.O tk).mode), vI ((obj S.O tk).uid), vI ((obj S.O tk).gid), vI ((obj S.O tk).sec), vI ((obj S.O tk).nano), .slice none (0) (0), .string ⟨#[]⟩, .slice Ae (j) (ce)]) (fun _ => by kernel_rfl) rfl (by kernel_rfl) (fun _ => by kernel_rfl) (fun _ => by kernel_rfl) Tryz.underlying22 (by kernel_rfl) rfl (by decide) (rfl) (by simp [Value.oneCell']) (lK (j := 16) rfl) (by unfold maxLen; omega) (by omega) (fun tv tA => ?_)
   refine aj.eH 6 (p := .abs (aG 70 10 tv (i + 1) tA ((cq K ((ax S).take i)) ++ [vI ((bK S i)), vI 2, vI ((obj S.O tk).mode), vI ((obj S.O tk).uid), vI ((obj S.O tk).gid), vI ((obj S.O tk).sec), vI ((obj S.O tk).nano), .slice none (0) (0), .string ⟨#[]⟩, .slice Ae (j) (ce)]))) (p' := .abs (aG 70 10 tv (i + 1) tA (cq (K.put i none 0 Ae ce) ((ax S).take (i + 1))))) (by kernel_rfl) (congrArg (fun x => HP.abs (aG 70 10 _ _ _ x)) (sI (cM (by omega)) (pZ hI.toInv0 hi2 jk hlv) rfl (by show ((obj S.O tk).ah.map (ji S.O)).length = j; rw [List.length_map, hjl]))) ?_
   refine aj.slot 107 (.slice tv (i + 1) (tA)) (.slice tv ((i + 1)) (tA)) (fun _ => by kernel_rfl) (rfl) ?_
   refine gC 2 [] [(1, a_ 5 b5)] [(5, [(0, .slice tv ((i + 1)) (tA))])] ?_
   refine NL (ai.aP (NX (af.region ?_)))
   refine gK 2 [(21, vI ↑(i + 1))] [(0, p_ ⟨[], none, none, none, some (vI ↑(i + 1))⟩ [(Value.int .i64 (IntKind.wrap .i64 (((i : Nat) : Int) + 1))) = (.int .i64 ↑(i + 1))] ⟨bF (by omega) (by omega) (by omega), trivial⟩)] ?_
   refine NL ?_
   refine ai.mem (aQ := ([pE S.O L, lE b17 S i tk Ae j ce, Fb Ae j ce S tk, qV b20 L tk, qW cT S tk dJ, sK b5 tv i tA, .abs (aG 70 10 tv (i + 1) tA (cq (K.put i none 0 Ae ce) ((ax S).take (i + 1)))), vL S i K, CQ S i K] ++ p8 A7 S c8 b4 f m t L ++ [pD S.O L, .abs R, lE b32 S i tk Ae j ce, J4])) (fun w hS => hS.jG (e := 5) (size := 1)) ?_
   refine ai.mem (aQ := ([.abs (eX (gM ((ax S).take (i + 1)) (K.put i none 0 Ae ce)) (i + 1)), pE S.O L, lE b17 S i tk Ae j ce, Fb Ae j ce S tk, qV b20 L tk, qW cT S tk dJ, sK b5 tv i tA, .abs (aG 70 10 tv (i + 1) tA (cq (K.put i none 0 Ae ce) ((ax S).take (i + 1)))), vL S i K] ++ p8 A7 S c8 b4 f m t L ++ [pD S.O L, .abs R, lE b32 S i tk Ae j ce])) (fun w hS => hS.oW (R' := (gM ((ax S).take (i + 1)) (K.put i none 0 Ae ce))) (i := 8) (j := 17) (idx := [0, 1, 2, 3, 4, 5, 6, 7, 9, 10, 11, 12, 13, 14, 15, 16]) rfl rfl (by kernel_rfl) rfl (wM (cM (by omega)) (pZ hI.toInv0 hi2 jk hlv)) (uw (cM (by omega)) (pZ hI.toInv0 hi2 jk hlv) rfl)) ?_
   refine ai.mem (aQ := [.abs (eX (iH ((ax S).take (i + 1)) (K.put i none 0 Ae ce)) (i + 1)), .abs (eX (gM ((ax S).take (i + 1)) (K.put i none 0 Ae ce)) (i + 1)), .abs (ak (bh S.O L)), .blk b17 [vI ((bK S i)), vI 2, vI ((obj S.O tk).mode), vI ((obj S.O tk).uid), vI ((obj S.O tk).gid), vI ((obj S.O tk).sec), vI ((obj S.O tk).nano), .slice none (0) (0), .string ⟨#[]⟩, .slice Ae (j) (ce)] 70, .blk b20 [.map (some (L.m tk))] 97, .abs (aG 9 1 cT ((obj S.O tk).ah.length) dJ (mB (obj S.O tk).ah)), .blk b5 [.slice tv ((i + 1)) (tA)] 24, .abs (aG 70 10 tv (i + 1) tA (cq (K.put i none 0 Ae ce) ((ax S).take (i + 1)))), .abs (aG 3 1 A7 ((keys S.idx).length) c8 (ints (keys S.idx))), .blk b4 [.slice none (0) (0)] 24, .blk f [vI (S.X.cN), vI (S.X.cB), vI (S.X.cH), vI (S.X.cS), vI (S.X.cZ), .map (some m), vP t, vI (S.X.last), vI (S.X.ah), vI (S.X.used)] 86, .abs (aI Tryz.prog 3 m (aM (aJ L S.idx)) S.idx.length), .abs (ak (aN S.O L)), .abs (ak (aY S.O L)), .abs R, .blk b32 [vI ((bK S i)), vI 2, vI ((obj S.O tk).mode), vI ((obj S.O tk).uid), vI ((obj S.O tk).gid), vI ((obj S.O tk).sec), vI ((obj S.O tk).nano), .slice none (0) (0), .string ⟨#[]⟩, .slice Ae (j) (ce)] 70]) (fun w hS => hS.oW (R' := (iH ((ax S).take (i + 1)) (K.put i none 0 Ae ce))) (i := 8) (j := 3) (idx := [0, 1, 2, 4, 5, 6, 7, 9, 10, 11, 12, 13, 14, 15, 16]) rfl rfl (by kernel_rfl) rfl (wN (cM (by omega)) (pZ hI.toInv0 hi2 jk hlv)) ((ux (cM (by omega)) (pZ hI.toInv0 hi2 jk hlv) (by show ((obj S.O tk).ah.map (ji S.O)).length = j; rw [List.length_map, hjl])).trans (by rw [hjl, List.take_length]))) ?_
   exact ai.turn ((i + 1), tv, tA, (K.put i none 0 Ae ce)) (idx := [0, 2, 3, 19, 20, 21]) (pk := [6, 7, 0, 1, 8, 9, 10, 11, 12, 13, 2, 14]) (show (((i + 1)) ≤ S.idx.length) from (by omega)) (by show S.idx.length - ((i + 1)) < S.idx.length - i; omega) (fun _ => by kernel_rfl) rfl (by kernel_rfl)
  have hkt : (obj S.O tk).kind = 3 := hI.kind hlv
  have hel : (obj S.O tk).ah.length ≤ 8192 := hI.eG hlv
  have hdl : (obj S.O tk).data.length ≤ 140737488355328 := hI.Ev hlv
  refine af.region ?_
  refine gK 5 [(28, .map (some m)), (29, vI ((bK S i)))] [(3, a_ 6 f)] ?_
  refine aj.dM 7 (d := (some 30)) (t := 80) (K := 3) (E := 84) (b := m) (n := S.idx.length) (f := (aM (aJ L S.idx))) (x := (.tmp 28)) (ix := (.tmp 29)) (key := .int .i64 ((bK S i))) (z := .nilIface) (kl := (.int .i64 (bK S i))) (r := (some (cF L ⟨tk, 3⟩))) (fun _ => by kernel_rfl) (by kernel_rfl) (fun _ => by kernel_rfl) (fun _ => by kernel_rfl) dF Tryz.underlying80 (fun _ => by kernel_rfl) (gE (zG hI.toInv0 hi2)) (by rw [dN, hget, jk]; rfl) ?_
  refine gK 1 [(6, .iface 93 (vP (L.b tk)))] [] ?_
  refine NS ?_
  refine gK 1 [(31, .iface 93 (vP (L.b tk)))] [] ?_
  refine gL [] (cr (L.b tk)) ?_
  rintro _ _ ⟨rfl, rfl⟩
  refine gK 1 [(7, vP (L.b tk))] [] ?_
  refine NN (af.seq ?_)
  refine af.oU (S := [pO S.O L]) [0, 1, 3, 4, 5, 6, 7, 8, 9, 10, 11, 12, 13, 14, 15, 16, 17, 18] [.three 2 19 20, .one 21] [8] (by kernel_rfl) (by kernel_rfl) rfl (by kernel_rfl) ?_
  refine fN.reads (rs := []) (fr' := ([(0, vP f), (2, vP b4), (3, vP b5), (6, .iface 93 (vP (L.b tk)))] ++ zK A7 S c8 i ++ [(33, vI (bK S i)), (34, .iface 93 (vP (L.b tk)))] ++ Jb S tk)) (aV := [(∀ F w, (ak (aN S.O L)).h F w → w.cell? ⟨(L.b tk), 5, none⟩ = some (vI ((obj S.O tk).nano))), (∀ F w, (ak (aN S.O L)).h F w → w.cell? ⟨(L.b tk), 4, none⟩ = some (vI ((obj S.O tk).sec))), (∀ F w, (ak (aN S.O L)).h F w → w.cell? ⟨(L.b tk), 3, none⟩ = some (vI ((obj S.O tk).gid))), (∀ F w, (ak (aN S.O L)).h F w → w.cell? ⟨(L.b tk), 2, none⟩ = some (vI ((obj S.O tk).uid))), (∀ F w, (ak (aN S.O L)).h F w → w.cell? ⟨(L.b tk), 1, none⟩ = some (vI ((obj S.O tk).mode)))]) [0, 1, 3, 4, 5, 6, 7, 8, 9, 10, 11, 12, 13, 14, 15, 16, 17, 18] [o_, o_, o_, o_, o_, ⟨[.view 0 (.int .i64 ((obj S.O tk).mode))], none, none, none, none⟩, o_, o_, o_, ⟨[.view 0 (.int .i64 ((obj S.O tk).uid))], none, none, none, none⟩, o_, o_, o_, ⟨[.view 0 (.int .i64 ((obj S.O tk).gid))], none, none, none, none⟩, o_, o_, o_, ⟨[.view 0 (.int .i64 ((obj S.O tk).sec)), .view 0 (.int .i64 ((obj S.O tk).nano))], none, none, none, none⟩] [0, 2, 3, 6, 19, 20, 21, 33, 34, 39, 43, 47, 51] (fun _ => by kernel_rfl) ⟨bn (by rw [hkt]; decide) (rfl), bn (by rw [hkt]; decide) (rfl), bn (by rw [hkt]; decide) (rfl), bn (by rw [hkt]; decide) (rfl), bn (by rw [hkt]; decide) (rfl), trivial⟩ ?_
  refine fN.three (ι := Nat) (fa := fun (_ : Unit) => (fT f b4 b5 ++ [(6, .iface 93 (vP (L.b tk)))] ++ qX A7 S c8 i ++ [(33, vI ((bK S i))), (35, vI 3)] ++ iX S tk)) (ha := fun (_ : Unit) => (cO b5 An i cn K S A7 c8 b4 f m t L ++ [pE S.O L, .abs R])) (GN := Unit) (fb := fun (_ : Unit) => (fT f b4 b5 ++ [(6, .iface 93 (vP (L.b tk)))] ++ qX A7 S c8 i ++ [(52, .agg #[vI ((bK S i)), vI 3, vI ((obj S.O tk).mode), vI ((obj S.O tk).uid), vI ((obj S.O tk).gid), vI ((obj S.O tk).sec), vI ((obj S.O tk).nano), .slice none (0) (0), .string ⟨#[]⟩, .slice none (0) (0)])])) (hb := fun (_ : Unit) => (cO b5 An i cn K S A7 c8 b4 f m t L ++ [pE S.O L, .abs R])) (GP := Unit) (fc := fun (rN : Nat) => (fT f b4 b5 ++ [(6, .iface 93 (vP (L.b tk)))] ++ jP rN A7 S c8 i ++ [(35, vI 3)] ++ iX S tk)) (hc := fun (rN : Nat) => (cO b5 An i cn K S A7 c8 b4 f m t L ++ [pE S.O L, .abs R, kV rN])) (GQ := Nat) (fd := fun (kW : Nat) => (fT f b4 b5 ++ [(6, .iface 93 (vP (L.b tk)))] ++ jP kW A7 S c8 i ++ [(34, .iface 93 (vP (L.b tk)))] ++ iX S tk)) (hd := fun (kW : Nat) => (cO b5 An i cn K S A7 c8 b4 f m t L ++ [pE S.O L, .abs R, kV kW])) (GR := Nat) (fe := fun (kW : Nat) => (fT f b4 b5 ++ [(6, .iface 93 (vP (L.b tk)))] ++ jP kW A7 S c8 i ++ [(35, vI 3)] ++ iX S tk)) (he := fun (kW : Nat) => (cO b5 An i cn K S A7 c8 b4 f m t L ++ [pE S.O L, .abs R, kV kW])) (GS := Nat) (fr' := fun (mD : Nat) => ([(0, vP f), (2, vP b4), (3, vP b5), (6, .iface 93 (vP (L.b tk))), (8, vP mD)] ++ zK A7 S c8 i ++ [(52, .agg #[vI (bK S i), vI 3, vI ((obj S.O tk).mode), vI ((obj S.O tk).uid), vI ((obj S.O tk).gid), vI ((obj S.O tk).sec), vI ((obj S.O tk).nano), .slice none (0) (0), .string ⟨#[]⟩, .slice none (0) (0)])])) (hp' := fun (mD : Nat) => (cO b5 An i cn K S A7 c8 b4 f m t L ++ [pE S.O L, .abs R, kV mD])) [8] [8] [8] [8] [8] [8] rfl rfl rfl rfl rfl rfl ?_ ?_ ?_ ?_ ?_ ?_ ?_ ?_ rfl (fun _ => by kernel_rfl) rfl (fun _ => by kernel_rfl) rfl (fun _ => by kernel_rfl) rfl (fun _ => by kernel_rfl) rfl (fun _ => by kernel_rfl) rfl (fun _ => by kernel_rfl) ?_
  ·refine gL [] (j7 (vP (L.b tk))) ?_
   rintro _ _ ⟨rfl, rfl⟩
   refine NL ?_
   exact MD () [0, 2, 3, 6, 19, 20, 21, 33, 35, 39, 43, 47, 51] [0, 1, 2, 3, 4, 5, 6, 7, 8, 9, 10, 11]
  ·rintro _
   refine gK 1 [(52, .agg #[vI ((bK S i)), vI 3, vI ((obj S.O tk).mode), vI ((obj S.O tk).uid), vI ((obj S.O tk).gid), vI ((obj S.O tk).sec), vI ((obj S.O tk).nano), .slice none (0) (0), .string ⟨#[]⟩, .slice none (0) (0)])] [] ?_
   refine NL ?_
   exact MD () [0, 2, 3, 6, 19, 20, 21, 52] [0, 1, 2, 3, 4, 5, 6, 7, 8, 9, 10, 11]
  ·rintro _
   refine gN 1 (fun mD => [(8, vP mD)]) (fun _ => []) (fun _ => []) (fun mD => .blk mD [vI 0, vI 0, vI 0, vI 0, vI 0, vI 0, vI 0, .slice none (0) (0), .string ⟨#[]⟩, .slice none (0) (0)] 70) (fun mD => ?_)
   refine NL ?_
   exact MD mD [0, 2, 3, 6, 8, 19, 20, 21, 52] [0, 1, 2, 3, 4, 5, 6, 7, 8, 9, 10, 11, 12]
  ·rintro _
   refine gN 1 (fun rN => [(8, vP rN)]) (fun _ => []) (fun _ => []) (fun rN => .blk rN [vI 0, vI 0, vI 0, vI 0, vI 0, vI 0, vI 0, .slice none (0) (0), .string ⟨#[]⟩, .slice none (0) (0)] 70) (fun rN => ?_)
   refine NL ?_
   exact MD rN [0, 2, 3, 6, 8, 19, 20, 21, 33, 35, 39, 43, 47, 51] [0, 1, 2, 3, 4, 5, 6, 7, 8, 9, 10, 11, 12]
  ·rintro rN
   show aj _ _ _ _ _ (fT f b4 b5 ++ [(6, .iface 93 (vP (L.b tk)))] ++ jP rN A7 S c8 i ++ [(35, vI 3)] ++ iX S tk) (cO b5 An i cn K S A7 c8 b4 f m t L ++ [pE S.O L, .abs R, kV rN]) _
   refine gK 1 [(52, .agg #[vI ((bK S i)), vI 3, vI ((obj S.O tk).mode), vI ((obj S.O tk).uid), vI ((obj S.O tk).gid), vI ((obj S.O tk).sec), vI ((obj S.O tk).nano), .slice none (0) (0), .string ⟨#[]⟩, .slice none (0) (0)])] [] ?_
   refine NL ?_
   exact MD rN [0, 2, 3, 6, 8, 19, 20, 21, 52] [0, 1, 2, 3, 4, 5, 6, 7, 8, 9, 10, 11, 12]
  ·refine gN 1 (fun kW => [(8, vP kW)]) (fun _ => []) (fun _ => []) (fun kW => .blk kW [vI 0, vI 0, vI 0, vI 0, vI 0, vI 0, vI 0, .slice none (0) (0), .string ⟨#[]⟩, .slice none (0) (0)] 70) (fun kW => ?_)
   refine NL ?_
   exact MD kW [0, 2, 3, 6, 8, 19, 20, 21, 33, 34, 39, 43, 47, 51] [0, 1, 2, 3, 4, 5, 6, 7, 8, 9, 10, 11, 12]
  ·rintro kW
   show aj _ _ _ _ _ (fT f b4 b5 ++ [(6, .iface 93 (vP (L.b tk)))] ++ jP kW A7 S c8 i ++ [(34, .iface 93 (vP (L.b tk)))] ++ iX S tk) (cO b5 An i cn K S A7 c8 b4 f m t L ++ [pE S.O L, .abs R, kV kW]) _
   refine gL [] (j7 (vP (L.b tk))) ?_
   rintro _ _ ⟨rfl, rfl⟩
   refine NL ?_
   exact MD kW [0, 2, 3, 6, 8, 19, 20, 21, 33, 35, 39, 43, 47, 51] [0, 1, 2, 3, 4, 5, 6, 7, 8, 9, 10, 11, 12]
  ·rintro kW
   show aj _ _ _ _ _ (fT f b4 b5 ++ [(6, .iface 93 (vP (L.b tk)))] ++ jP kW A7 S c8 i ++ [(35, vI 3)] ++ iX S tk) (cO b5 An i cn K S A7 c8 b4 f m t L ++ [pE S.O L, .abs R, kV kW]) _
   refine gK 1 [(52, .agg #[vI ((bK S i)), vI 3, vI ((obj S.O tk).mode), vI ((obj S.O tk).uid), vI ((obj S.O tk).gid), vI ((obj S.O tk).sec), vI ((obj S.O tk).nano), .slice none (0) (0), .string ⟨#[]⟩, .slice none (0) (0)])] [] ?_
   refine NL ?_
   exact MD kW [0, 2, 3, 6, 8, 19, 20, 21, 52] [0, 1, 2, 3, 4, 5, 6, 7, 8, 9, 10, 11, 12]
  rintro mD
  refine fN.last rfl rfl ?_
  refine gC 1 [] [(0, A_ 12 mD 10)] [(12, ([(0, vI ((bK S i))), (1, vI 3)] ++ Ja S tk))] ?_
  refine NL (ai.np (NX (af.seq (SR ?_))))
  refine gK 1 [(53, .iface 93 (vP (L.b tk)))] [] ?_
  refine NN (af.block (SR ?_))
  refine gK 3 [(55, .bool false), (56, .pointer none)] [] ?_
  refine NN ?_
  refine CF ?_
  refine SR ?_
  refine gK 3 [(64, .bool true), (65, vP (L.b tk))] [] ?_
  refine NN ?_
  refine CT ?_
  refine SR ?_
  refine gK 1 [(10, vP (L.b tk))] [] ?_
  refine NN (af.region ?_)
  refine gC 6 [] [(3, v_ 8 (Np L hkt)), (5, a_ 12 mD)] [(12, [(8, .string (obj S.O tk).target)])] ?_
  refine NL (ai.aP (NX (af.region ?_)))
  refine gN 4 (fun vN => [(104, .slice An (i) (cn)), (106, .slice (some ⟨vN, 0, none⟩) (1) (1))]) (fun vN => [(1, a_ 0 b5), (2, A_ 12 mD 10)]) (fun _ => []) (fun vN => .blk vN [vI ((bK S i)), vI 3, vI ((obj S.O tk).mode), vI ((obj S.O tk).uid), vI ((obj S.O tk).gid), vI ((obj S.O tk).sec), vI ((obj S.O tk).nano), .slice none (0) (0), .string (obj S.O tk).target, .slice none (0) (0)] 70) (fun vN => ?_)
  refine aj.append 1 (d := (some 107)) (t := 22) (e := 70) (z := .agg #[vI 0, vI 0, vI 0, vI 0, vI 0, vI 0, vI 0, .slice none (0) (0), .string ⟨#[]⟩, .slice none (0) (0)]) (size := 10) (bytes := 120) (n := i) (cap := cn) (A := An) (xs := (cq K ((ax S).take i))) (s := (.tmp 104)) (x := (.tmp 106)) (ats := #[22, 22]) (A' := some ⟨vN, 0, none⟩) (m := 1) (c' := 1) (news := [vI ((bK S i)), vI 3, vI ((obj S.O tk).mode), vI ((obj S.O tk).uid), vI ((obj S.O tk).gid), vI ((obj S.O tk).sec), vI ((obj S.O tk).nano), .slice none (0) (0), .string (obj S.O tk).target, .slice none (0) (0)]) (fun _ => by kernel_rfl) rfl (by kernel_rfl) (fun _ => by kernel_rfl) (fun _ => by kernel_rfl) Tryz.underlying22 (by kernel_rfl) rfl (by decide) (rfl) (by simp [Value.oneCell']) (lK (j := 13) rfl) (by unfold maxLen; omega) (by omega) (fun ou ox => ?_)
  refine aj.eH 1 (p := .abs (aG 70 10 ou (i + 1) ox ((cq K ((ax S).take i)) ++ [vI ((bK S i)), vI 3, vI ((obj S.O tk).mode), vI ((obj S.O tk).uid), vI ((obj S.O tk).gid), vI ((obj S.O tk).sec), vI ((obj S.O tk).nano), .slice none (0) (0), .string (obj S.O tk).target, .slice none (0) (0)]))) (p' := .abs (aG 70 10 ou (i + 1) ox (cq (K.put i none 0 none 0) ((ax S).take (i + 1))))) (by kernel_rfl) (congrArg (fun x => HP.abs (aG 70 10 _ _ _ x)) (sI (cM (by omega)) (nR hI.toInv0 hi2 jk hlv) rfl rfl)) ?_
  refine aj.slot 107 (.slice ou (i + 1) (ox)) (.slice ou ((i + 1)) (ox)) (fun _ => by kernel_rfl) (rfl) ?_
  refine gC 2 [] [(1, a_ 0 b5)] [(0, [(0, .slice ou ((i + 1)) (ox))])] ?_
  refine NL (ai.aP (NX (af.region ?_)))
  refine gK 2 [(21, vI ↑(i + 1))] [(0, p_ ⟨[], none, none, none, some (vI ↑(i + 1))⟩ [(Value.int .i64 (IntKind.wrap .i64 (((i : Nat) : Int) + 1))) = (.int .i64 ↑(i + 1))] ⟨bF (by omega) (by omega) (by omega), trivial⟩)] ?_
  refine NL ?_
  refine ai.mem (aQ := ([sK b5 ou i ox, Fc ou i ox K S, vL S i K, CQ S i K] ++ p8 A7 S c8 b4 f m t L ++ [pD S.O L, pE S.O L, .abs R, uz mD S i tk, uz vN S i tk, J4])) (fun w hS => hS.jG (e := 5) (size := 1)) ?_
  refine ai.mem (aQ := ([sK b5 ou i ox, Fc ou i ox K S, vL S i K, CQ S i K] ++ p8 A7 S c8 b4 f m t L ++ [pD S.O L, pE S.O L, .abs R, uz mD S i tk, uz vN S i tk, J4, Fa])) (fun w hS => hS.jG (e := 101) (size := 2)) ?_
  refine ai.mem (aQ := ([.abs (eX (gM ((ax S).take (i + 1)) (K.put i none 0 none 0)) (i + 1)), sK b5 ou i ox, Fc ou i ox K S, vL S i K] ++ p8 A7 S c8 b4 f m t L ++ [pD S.O L, pE S.O L, .abs R, uz mD S i tk, uz vN S i tk, Fa])) (fun w hS => hS.oW (R' := (gM ((ax S).take (i + 1)) (K.put i none 0 none 0))) (i := 3) (j := 14) (idx := [0, 1, 2, 4, 5, 6, 7, 8, 9, 10, 11, 12, 13, 15]) rfl rfl (by kernel_rfl) rfl (wM (cM (by omega)) (nR hI.toInv0 hi2 jk hlv)) (uw (cM (by omega)) (nR hI.toInv0 hi2 jk hlv) rfl)) ?_
  refine ai.mem (aQ := ([.abs (eX (iH ((ax S).take (i + 1)) (K.put i none 0 none 0)) (i + 1)), .abs (eX (gM ((ax S).take (i + 1)) (K.put i none 0 none 0)) (i + 1)), sK b5 ou i ox, Fc ou i ox K S] ++ p8 A7 S c8 b4 f m t L ++ [pD S.O L, pE S.O L, .abs R, uz mD S i tk, uz vN S i tk])) (fun w hS => hS.oW (R' := (iH ((ax S).take (i + 1)) (K.put i none 0 none 0))) (i := 3) (j := 14) (idx := [0, 1, 2, 4, 5, 6, 7, 8, 9, 10, 11, 12, 13]) rfl rfl (by kernel_rfl) rfl (wN (cM (by omega)) (nR hI.toInv0 hi2 jk hlv)) ((ux (cM (by omega)) (nR hI.toInv0 hi2 jk hlv) rfl))) ?_
  exact ai.turn ((i + 1), ou, ox, (K.put i none 0 none 0)) (idx := [0, 2, 3, 19, 20, 21]) (pk := [2, 3, 0, 1, 4, 5, 6, 7, 8, 9, 10, 11]) (show (((i + 1)) ≤ S.idx.length) from (by omega)) (by show S.idx.length - ((i + 1)) < S.idx.length - i; omega) (fun _ => by kernel_rfl) rfl (by kernel_rfl)
 refine af.exit (ai.bq (ai.bq (ai.cL (NX (SR ?_)))))
 have hie : (ax S).length = i := by rw [dr]; omega
 have hgt : ((ax S).take i) = (ax S) := by rw [← hie, List.take_length]
 refine aj.eH 1 (p := .abs (aG 70 10 An i cn (cq K ((ax S).take i)))) (p' := .abs (aG 70 10 An ((ax S).length) cn (cq K (ax S)))) (by kernel_rfl) (by rw [hgt, hie]) ?_
 refine aj.eH 2 (p := .abs (eX (iH ((ax S).take i) K) i)) (p' := .abs (eX (iH (ax S) K) ((ax S).length))) (by kernel_rfl) (by rw [hgt, hie]) ?_
 refine aj.eH 3 (p := .abs (eX (gM ((ax S).take i) K) i)) (p' := .abs (eX (gM (ax S) K) ((ax S).length))) (by kernel_rfl) (by rw [hgt, hie]) ?_
 refine gC 2 [] [(0, a_ 0 b5), (1, a_ 5 b4)] [(5, [(0, .slice An (i) (cn))])] ?_
 refine NN (af.ret ?_)
 exact ai.ret (v := .agg #[.slice An (i) (cn)]) (l := [pF f m t S.X, pI m L S.idx, pO S.O L, pD S.O L, pE S.O L, .abs (aG 70 10 An ((ax S).length) cn (cq K (ax S))), .abs (eX (iH (ax S) K) ((ax S).length)), .abs (eX (gM (ax S) K) ((ax S).length))]) (aV := [b4 = b4]) [.at 5] [6, 7, 8, 9, 10, 1, 2, 3, 11] (fun _ => by kernel_rfl) ⟨rfl, trivial⟩ rfl (by kernel_rfl) (⟨An, cn, K, by rw [hie], rfl⟩)
end
end Go.Proofs.YtkiedlmhocglhaaGreatDoor
