/-
  PROVED HERE: lemmas and contracts of functions (texts of this repo, joined; what the claim does not use is left out): HG, Vp, H11, HA, HB, GEnter, GR, GRead, GP, GOk, Nw.
  CONDITIONS: as the theorems say.
-/
import Derived.Test.YtkiedlmhocglhaaGreatDoorMHrefused4
set_option maxRecDepth 100000
set_option maxHeartbeats 4000000
namespace Go.Proofs.YtkiedlmhocglhaaGreatDoor
section
open Go.RowKit Go.Maps HeapM TabM
theorem DY {ns : List aN} {n : aN} {k : Nat} (h : k < ns.length) : nd (ns ++ [n]) k = nd ns k := by
  unfold nd; rw [List.getD_eq_getElem?_getD, List.getD_eq_getElem?_getD, List.getElem?_append_left h]
theorem zy {ns : List aN} {n : aN} : nd (ns ++ [n]) ns.length = n := by
  unfold nd; rw [List.getD_eq_getElem?_getD, List.getElem?_append_right (Nat.le_refl _)]; simp
def zA : Lay := ⟨fun _ => none, fun _ => none, fun _ => 0, fun _ => 0⟩
def gJ (ns : List aN) (L : Lay) (k : Nat) : bR := aF 101 2 (L.eA k) (nd ns k).ah.length (L.eC k) (fB (nd ns k).ah)
def fY (ns : List aN) (L : Lay) (k : Nat) : bR := aF 5 1 (L.dA k) (nd ns k).data.length (L.dC k) (bL (nd ns k).data)
def OG (A : Option Addr) (c : Nat) (ns : List aN) (L : Lay) : HP := .abs (aF 70 10 A ns.length c (bV L ns))
def E0 (A : Option Addr) (c : Nat) (ns : List aN) (L : Lay) : List HP := [OG A c ns L, .abs (dL (gJ ns L) ns.length), .abs (dL (fY ns L) ns.length)]
theorem og.graph {β β' : Bs} {A : Option Addr} {c : Nat} {ns : List aN} {L : Lay} (h : og β (E0 A c ns L) β') : aC β' A ns L := by
  obtain ⟨F, h1, h2⟩ := h.get 0 rfl
  obtain ⟨G, g1, g2⟩ := h.get 1 rfl
  obtain ⟨K, k1, k2⟩ := h.get 2 rfl
  exact ⟨dX.j8 h1 h2 rfl,
    dL.base k1 k2 rfl (Φ := fun i b => bI b (L.dA i) (nd ns i).data) (fun i _ F hF hO => dX.j8 (show (HP.abs (aF 5 1 (L.dA i) (nd ns i).data.length (L.dC i) (bL (nd ns i).data))).h F _ from hF) hO rfl),
    dL.base g1 g2 rfl (Φ := fun i b => cL b (L.eA i) (nd ns i).ah) (fun i _ F hF hO => dX.j8 (show (HP.abs (aF 101 2 (L.eA i) (nd ns i).ah.length (L.eC i) (fB (nd ns i).ah))).h F _ from hF) hO rfl)⟩
theorem Ds {L : Lay} {ns : List aN} {n : aN} {dA eA : Option Addr} {dC eC : Nat} : bV L ns ++ [.int .i64 n.id, .int .i64 n.kind, .int .i64 n.mode, .int .i64 n.uid, .int .i64 n.gid, .int .i64 n.sec, .int .i64 n.nano, .slice dA n.data.length dC, .string n.target, .slice eA n.ah.length eC] = bV (L.put ns.length dA dC eA eC) (ns ++ [n]) := by
  have h := wS (ns := ns ++ [n]) (L := L) (k := ns.length) (by simp) dA dC eA eC
  rw [zy, List.take_left, List.take_of_length_le (by simp)] at h
  exact h
theorem Aq {ns : List aN} {L : Lay} {n : aN} {dA eA : Option Addr} {dC eC : Nat} : (∀ x, x < ns.length → fY (ns ++ [n]) (L.put ns.length dA dC eA eC) x = fY ns L x) ∧ fY (ns ++ [n]) (L.put ns.length dA dC eA eC) ns.length = aF 5 1 dA n.data.length dC (bL n.data) := by
  refine ⟨fun x hx => ?_, ?_⟩
  ·unfold fY Lay.put
   rw [DY hx]
   have : ¬ x = ns.length := by omega
   simp [this]
  unfold fY Lay.put
  rw [zy]
  simp
theorem Ar {ns : List aN} {L : Lay} {n : aN} {dA eA : Option Addr} {dC eC : Nat} : (∀ x, x < ns.length → gJ (ns ++ [n]) (L.put ns.length dA dC eA eC) x = gJ ns L x) ∧ gJ (ns ++ [n]) (L.put ns.length dA dC eA eC) ns.length = aF 101 2 eA n.ah.length eC (fB n.ah) := by
  refine ⟨fun x hx => ?_, ?_⟩
  ·unfold gJ Lay.put
   rw [DY hx]
   have : ¬ x = ns.length := by omega
   simp [this]
  unfold gJ Lay.put
  rw [zy]
  simp
def jV (O : bM) (e : ByteArray × Th) : ic := ⟨e.1, (obj O e.2.k).id⟩
def vf (O : bM) (id : Int) (t : Th) : aN := ⟨id, t.kind, (obj O t.k).mode, (obj O t.k).uid, (obj O t.k).gid, (obj O t.k).sec, (obj O t.k).nano, (obj O t.k).data, (obj O t.k).target, (obj O t.k).ah.map (jV O)⟩
def aM (S : aI) : List aN := S.idx.map (fun p => vf S.O p.1 p.2)
theorem mF {S : aI} : (aM S).length = S.idx.length := List.length_map ..
def jW (S : aI) (i : Nat) : Th := (S.idx.getD i (0, ⟨0, 0⟩)).2
def bY (S : aI) (i : Nat) : Int := (S.idx.getD i (0, ⟨0, 0⟩)).1
section at_
variable {S : aI} {i : Nat}
theorem yh (hi : i < S.idx.length) : S.idx[i]? = some (bY S i, jW S i) := by
  unfold bY jW
  rw [List.getD_eq_getElem?_getD, List.getElem?_eq_getElem hi]; rfl
theorem get_at (h : Inv0 S) (hi : i < S.idx.length) : TabM.get S.idx (bY S i) = some (jW S i) := lW h.rise (List.mem_of_getElem? (yh hi))
theorem DZ (h : Inv0 S) (hi : i < S.idx.length) : Live S.idx (jW S i) ∧ bY S i = ((jW S i).k : Int) := ⟨h.live (get_at h hi), h.key (get_at h hi)⟩
theorem L9 (hi : i < S.idx.length) : (keys S.idx)[i]? = some (bY S i) := by
  unfold keys
  rw [List.getElem?_map, yh hi]; rfl
theorem sD (hi : i < S.idx.length) : (aM S).take (i + 1) = (aM S).take i ++ [vf S.O (bY S i) (jW S i)] := by
  rw [List.take_add_one]
  congr 1
  unfold aM
  rw [List.getElem?_map, yh hi]; rfl
theorem cP (hi : i ≤ S.idx.length) : ((aM S).take i).length = i := by rw [List.length_take, mF]; omega
end at_
section sat
variable {β : Bs} {l l' : List HP} {w : World} {i j k : Nat} {O : bM} {L : HL} {ix : List Nat}
theorem Sat.Ma (h : Sat β l w) (hp : l[i]? = some (.abs (ak (iK (aW O L) k bR.none)))) (hq : l[j]? = some (.abs (aF 5 1 (L.dA k) (obj O k).data.length (L.dC k) (bL (obj O k).data)))) (hd : nodupB (i :: j :: ix) = true) (hl : bN l ix = some l') (h2 : (obj O k).kind = 1) : Sat β (.abs (ak (aW O L)) :: l') w :=
  h.oK hp hq (fun _ _ h => h) hd hl k (fun _ hx => (lU hx).symm) (pH h2)
end sat
theorem E4 {es : List ic} {e : ic} : fB es ++ [.string e.name, .int .i64 e.id] = fB (es ++ [e]) := (rT e es 0).symm
section grow
variable {ns G' : List aN} {n : aN} {L : Lay} {i dn en : Nat} {dA eA : Option Addr} {dC eC : Nat}
theorem sE (hl : ns.length = i) (hG : G' = ns ++ [n]) (hd : n.data.length = dn) (he : n.ah.length = en) : bV L ns ++ [.int .i64 n.id, .int .i64 n.kind, .int .i64 n.mode, .int .i64 n.uid, .int .i64 n.gid, .int .i64 n.sec, .int .i64 n.nano, .slice dA dn dC, .string n.target, .slice eA en eC] = bV (L.put i dA dC eA eC) G' := by
  subst hl hG hd he; exact Ds
theorem wF (hl : ns.length = i) (hG : G' = ns ++ [n]) : ∀ x, x < i → fY G' (L.put i dA dC eA eC) x = fY ns L x := by
  subst hl hG; exact Aq.1
theorem uy (hl : ns.length = i) (hG : G' = ns ++ [n]) (hd : n.data.length = dn) : fY G' (L.put i dA dC eA eC) i = aF 5 1 dA dn dC (bL n.data) := by
  subst hl hG hd; exact Aq.2
theorem wG (hl : ns.length = i) (hG : G' = ns ++ [n]) : ∀ x, x < i → gJ G' (L.put i dA dC eA eC) x = gJ ns L x := by
  subst hl hG; exact Ar.1
theorem uz (hl : ns.length = i) (hG : G' = ns ++ [n]) (he : n.ah.length = en) : gJ G' (L.put i dA dC eA eC) i = aF 101 2 eA en eC (fB n.ah) := by
  subst hl hG he; exact Ar.2
end grow
section more
variable {S : aI} {i j k : Nat}
theorem Nl (h : Inv0 S) (hi : i < S.idx.length) : (∃ k, jW S i = ⟨k, 1⟩ ∧ Live S.idx ⟨k, 1⟩) ∨ (∃ k, jW S i = ⟨k, 2⟩ ∧ Live S.idx ⟨k, 2⟩) ∨ ∃ k, jW S i = ⟨k, 3⟩ ∧ Live S.idx ⟨k, 3⟩ := by
  have h1 := (DZ h hi).1
  generalize jW S i = t at h1 ⊢
  obtain ⟨k, kd⟩ := t
  rcases (h.ob _ h1).2.2 with e | e | e <;> simp only at e <;> subst e
  ·exact .inl ⟨k, rfl, h1⟩
  ·exact .inr (.inl ⟨k, rfl, h1⟩)
  exact .inr (.inr ⟨k, rfl, h1⟩)
theorem zB (h : Inv0 S) (hi : i < S.idx.length) : (Lit.int .i64 (bY S i)).wf = true := by
  have h1 := h.idx _ _ (get_at h hi)
  have h2 := h.last
  exact WalkArith.wf_i64 (by omega)
theorem I4 (hi : i < S.idx.length) : (ints (keys S.idx))[i * 1 + 0]? = some (.int .i64 (bY S i)) := by
  rw [Nat.mul_one, Nat.add_zero]
  unfold ints
  rw [List.getElem?_map, L9 hi]; rfl
theorem CD (h : Inv0 S) {t : Th} (hl : Live S.idx t) (hk : t.kind ≠ 3) : (obj S.O t.k).target = ⟨#[]⟩ := by
  rcases (h.mt t hl).target with e | e
  ·exact e.2
  exact absurd (h.kind hl ▸ e.1) hk
theorem nW (h : Inv0 S) (hi : i < S.idx.length) (jA : jW S i = ⟨k, 1⟩) (hl : Live S.idx ⟨k, 1⟩) : (aM S).take (i + 1) = (aM S).take i ++ [⟨bY S i, 1, (obj S.O k).mode, (obj S.O k).uid, (obj S.O k).gid, (obj S.O k).sec, (obj S.O k).nano, (obj S.O k).data, ⟨#[]⟩, []⟩] := by
  rw [sD hi, jA]
  unfold vf
  rw [show (obj S.O k).target = ⟨#[]⟩ from CD h hl (by simp), show (obj S.O k).ah = [] from (h.mt _ hl).ah (by rw [h.kind hl]; simp)]; rfl
theorem nX (h : Inv0 S) (hi : i < S.idx.length) (jA : jW S i = ⟨k, 3⟩) (hl : Live S.idx ⟨k, 3⟩) : (aM S).take (i + 1) = (aM S).take i ++ [⟨bY S i, 3, (obj S.O k).mode, (obj S.O k).uid, (obj S.O k).gid, (obj S.O k).sec, (obj S.O k).nano, [], (obj S.O k).target, []⟩] := by
  rw [sD hi, jA]
  unfold vf
  rw [show (obj S.O k).data = [] from (h.mt _ hl).data (by rw [h.kind hl]; simp), show (obj S.O k).ah = [] from (h.mt _ hl).ah (by rw [h.kind hl]; simp)]; rfl
theorem pX (h : Inv0 S) (hi : i < S.idx.length) (jA : jW S i = ⟨k, 2⟩) (hl : Live S.idx ⟨k, 2⟩) : (aM S).take (i + 1) = (aM S).take i ++ [⟨bY S i, 2, (obj S.O k).mode, (obj S.O k).uid, (obj S.O k).gid, (obj S.O k).sec, (obj S.O k).nano, [], ⟨#[]⟩, (obj S.O k).ah.map (jV S.O)⟩] := by
  rw [sD hi, jA]
  unfold vf
  rw [show (obj S.O k).target = ⟨#[]⟩ from CD h hl (by simp), show (obj S.O k).data = [] from (h.mt _ hl).data (by rw [h.kind hl]; simp)]
def dU (es : dR Th) (j : Nat) : ByteArray := (es.getD j (⟨#[]⟩, ⟨0, 0⟩)).1
def wH (es : dR Th) (j : Nat) : Th := (es.getD j (⟨#[]⟩, ⟨0, 0⟩)).2
theorem E5 {es : dR Th} (hj : j < es.length) : es[j]? = some (dU es j, wH es j) := by
  unfold dU wH
  rw [List.getD_eq_getElem?_getD, List.getElem?_eq_getElem hj]; rfl
theorem E6 {es : dR Th} (hj : j < es.length) : (mE es)[j * 1 + 0]? = some (.string (dU es j)) := by
  rw [Nat.mul_one, Nat.add_zero]
  unfold mE
  rw [List.getElem?_map, E5 hj]; rfl
theorem OI (h : Inv0 S) {t : Th} (hl : Live S.idx t) (hj : j < (obj S.O t.k).ah.length) : bE (dU (obj S.O t.k).ah j) ∧ ((∃ k, aU (dU (obj S.O t.k).ah j) (obj S.O t.k).ah = some ⟨k, 1⟩ ∧ Live S.idx ⟨k, 1⟩ ∧ wH (obj S.O t.k).ah j = ⟨k, 1⟩) ∨ (∃ k, aU (dU (obj S.O t.k).ah j) (obj S.O t.k).ah = some ⟨k, 2⟩ ∧ Live S.idx ⟨k, 2⟩ ∧ wH (obj S.O t.k).ah j = ⟨k, 2⟩) ∨ ∃ k, aU (dU (obj S.O t.k).ah j) (obj S.O t.k).ah = some ⟨k, 3⟩ ∧ Live S.idx ⟨k, 3⟩ ∧ wH (obj S.O t.k).ah j = ⟨k, 3⟩) := by
  have hm := List.mem_of_getElem? (E5 hj)
  have h1 := h.ah t hl _ hm
  have h2 := tV (h.twice hl) hm
  refine ⟨h1.1, ?_⟩
  have h3 := h1.2
  generalize wH (obj S.O t.k).ah j = u at h2 h3 ⊢
  obtain ⟨k, kd⟩ := u
  rcases (h.ob _ h3).2.2 with e | e | e <;> simp only at e <;> subst e
  ·exact .inl ⟨k, h2, h3, rfl⟩
  ·exact .inr (.inl ⟨k, h2, h3, rfl⟩)
  exact .inr (.inr ⟨k, h2, h3, rfl⟩)
theorem uD {O : bM} {es : dR Th} {kd : Int} (hj : j < es.length) (he : wH es j = ⟨k, kd⟩) : fB ((es.take j).map (jV O)) ++ [.string (dU es j), .int .i64 (obj O k).id] = fB ((es.take (j + 1)).map (jV O)) := by
  rw [List.take_add_one, E5 hj, he, List.map_append]
  exact E4 (es := (es.take j).map (jV O)) (e := ⟨dU es j, (obj O k).id⟩)
end more
theorem og.bytes {β β' : Bs} {A : Option Addr} {n c : Nat} {d : List UInt8} (h : og β [.abs (aF 5 1 A n c (bL d))] β') : bI β' A d := by
  obtain ⟨F, h1, h2⟩ := h.get 0 rfl
  exact dX.j8 h1 h2 rfl
end
section
open Go.RowKit
section order
variable {P : Program} {ops : Array Oper} {Q Q' : Post} {n : Nat} {S : World → Prop}
inductive pY
  | one (i : Nat)
  | two (i j : Nat)
  | three (i k j : Nat)
  | perm (G : List Nat)
def CG (P : Program) (ops : Array Oper) (Q : Post) (S : World → Prop) (K : Act → World → Prop) : Nat → List Nat → Act → World → Prop
  | 0, _, a, w => K a w
  | n + 1, G, a, w => ∀ i ∈ G, wpOp P ops Q i (fun a' w' => S w' ∧ CG P ops Q S K n (G.erase i) a' w') a w
def Bd (ops : Array Oper) (f : Array Bool → Bool) : Nat → List Nat → Array Bool → Bool
  | 0, _, listed => f listed
  | n + 1, G, listed => (Region.ready .any ops listed == G) && !G.isEmpty && G.all (fun i => Bd ops f n (G.erase i) (listed.setIfInBounds i true))
def jJ (P : Program) (ops : Array Oper) (Q : Post) (S : World → Prop) : List pY → Act → World → Prop
  | [], a, w => Q .normal a w
  | .one i :: l, a, w => wpOp P ops Q i (fun a' w' => (l = [] ∨ S w') ∧ jJ P ops Q S l a' w') a w
  | .two i j :: l, a, w =>
    wpOp P ops Q i (fun a' w' => S w' ∧ wpOp P ops Q j (fun a2 w2 => S w2 ∧ jJ P ops Q S l a2 w2) a' w') a w ∧
    wpOp P ops Q j (fun a' w' => S w' ∧ wpOp P ops Q i (fun a2 w2 => S w2 ∧ jJ P ops Q S l a2 w2) a' w') a w
  | .three i k j :: l, a, w =>
    wpOp P ops Q i (fun a1 w1 => S w1 ∧ wpOp P ops Q k (fun a2 w2 => S w2 ∧ wpOp P ops Q j (fun a3 w3 => S w3 ∧ jJ P ops Q S l a3 w3) a2 w2) a1 w1 ∧
      wpOp P ops Q j (fun a2 w2 => S w2 ∧ wpOp P ops Q k (fun a3 w3 => S w3 ∧ jJ P ops Q S l a3 w3) a2 w2) a1 w1) a w ∧
    wpOp P ops Q j (fun a1 w1 => S w1 ∧ wpOp P ops Q i (fun a2 w2 => S w2 ∧ wpOp P ops Q k (fun a3 w3 => S w3 ∧ jJ P ops Q S l a3 w3) a2 w2) a1 w1) a w
  | .perm G :: l, a, w => CG P ops Q S (jJ P ops Q S l) G.length G a w
def sF (ops : Array Oper) (n : Nat) : List pY → Array Bool → Bool
  | [], listed => (Region.ready .any ops listed).isEmpty
  | .one i :: l, listed => (Region.ready .any ops listed == [i]) && (!l.isEmpty || i == n) && sF ops n l (listed.setIfInBounds i true)
  | .two i j :: l, listed => (Region.ready .any ops listed == [i, j]) && (Region.ready .any ops (listed.setIfInBounds i true) == [j]) && (Region.ready .any ops (listed.setIfInBounds j true) == [i]) && decide (i ≠ j) && sF ops n l ((listed.setIfInBounds i true).setIfInBounds j true)
  | .three i k j :: l, listed => (Region.ready .any ops listed == [i, j]) && (Region.ready .any ops (listed.setIfInBounds i true) == [k, j]) && (Region.ready .any ops ((listed.setIfInBounds i true).setIfInBounds k true) == [j]) && (Region.ready .any ops ((listed.setIfInBounds i true).setIfInBounds j true) == [k]) &&
    (Region.ready .any ops (listed.setIfInBounds j true) == [i]) && decide (i ≠ j) && decide (k ≠ j) && sF ops n l (((listed.setIfInBounds i true).setIfInBounds k true).setIfInBounds j true)
  | .perm G :: l, listed => Bd ops (sF ops n l) G.length G listed
def qU : List pY → Nat
  | [] => 0
  | .one _ :: l => qU l + 1
  | .two _ _ :: l => qU l + 2
  | .three _ _ _ :: l => qU l + 3
  | .perm G :: l => qU l + G.length
theorem CH {K : Act → World → Prop} {f : Array Bool → Bool} {m : Nat} (hK : ∀ listed a w, f listed = true → K a w → jk P ops (NP Q) n S m listed a w) : ∀ (k : Nat) (G : List Nat) (listed : Array Bool) (a : Act) (w : World), Bd ops f k G listed = true → CG P ops (NP Q) S K k G a w → jk P ops (NP Q) n S (m + k) listed a w
  | 0, G, listed, a, w, hb, h => hK listed a w hb h
  | k + 1, G, listed, a, w, hb, h => by
    unfold Bd at hb
    simp only [Bool.and_eq_true, beq_iff_eq] at hb
    obtain ⟨⟨h1, h2⟩, h3⟩ := hb
    refine ⟨fun h0 => (by rw [h1] at h0; rw [h0] at h2; cases h2), fun j hj => ?_⟩
    rw [h1] at hj
    exact wpOp_mono (fun a' w' g => ⟨.inr g.1, CH hK k (G.erase j) _ a' w' (List.all_eq_true.1 h3 j hj) g.2⟩) (h j hj)
theorem mg : ∀ (l : List pY) (listed : Array Bool) (a : Act) (w : World), sF ops n l listed = true → jJ P ops (NP Q) S l a w → jk P ops (NP Q) n S (qU l) listed a w
  | [], listed, a, w, hb, h => ⟨List.isEmpty_iff.1 hb, h⟩
  | .one i :: l, listed, a, w, hb, h => by
    unfold sF at hb
    simp only [Bool.and_eq_true, beq_iff_eq] at hb
    obtain ⟨⟨h1, h2⟩, h3⟩ := hb
    refine ⟨fun h0 => (by rw [h1] at h0; cases h0), fun j hj => ?_⟩
    rw [h1] at hj
    have hj : j = i := by simpa using hj
    subst hj
    refine wpOp_mono (fun a' w' h4 => ⟨?_, mg l _ a' w' h3 h4.2⟩) h
    rcases h4.1 with h5 | h5
    ·subst h5; exact .inl (by simpa using h2)
    exact .inr h5
  | .two i j :: l, listed, a, w, hb, h => by
    unfold sF at hb
    simp only [Bool.and_eq_true, beq_iff_eq, decide_eq_true_iff] at hb
    obtain ⟨⟨⟨⟨h1, h2⟩, h3⟩, hij⟩, h4⟩ := hb
    refine ⟨fun h0 => (by rw [h1] at h0; cases h0), fun k hk => ?_⟩
    rw [h1] at hk
    have hk : k = i ∨ k = j := by simpa using hk
    rcases hk with rfl | rfl
    ·refine wpOp_mono (fun a' w' h5 => ⟨.inr h5.1, fun h0 => (by rw [h2] at h0; cases h0), fun k' hk' => ?_⟩) h.1
     rw [h2] at hk'
     have hk' : k' = j := by simpa using hk'
     subst hk'
     exact wpOp_mono (fun a2 w2 h6 => ⟨.inr h6.1, mg l _ a2 w2 h4 h6.2⟩) h5.2
    refine wpOp_mono (fun a' w' h5 => ⟨.inr h5.1, fun h0 => (by rw [h3] at h0; cases h0), fun k' hk' => ?_⟩) h.2
    rw [h3] at hk'
    have hk' : k' = i := by simpa using hk'
    subst hk'
    refine wpOp_mono (fun a2 w2 h6 => ⟨.inr h6.1, ?_⟩) h5.2
    rw [Array.setIfInBounds_comm _ _ (fun e => hij e.symm)]
    exact mg l _ a2 w2 h4 h6.2
  | .three i k j :: l, listed, a, w, hb, h => by
    unfold sF at hb
    simp only [Bool.and_eq_true, beq_iff_eq, decide_eq_true_iff] at hb
    obtain ⟨⟨⟨⟨⟨⟨⟨h1, h2⟩, h3⟩, h4⟩, h5⟩, hij⟩, hkj⟩, h6⟩ := hb
    have one : ∀ {x : Nat} {ls : Array Bool} {fuel : Nat} {a : Act} {w : World}, Region.ready .any ops ls = [x] → wpOp P ops (NP Q) x (fun a' w' => S w' ∧ jk P ops (NP Q) n S fuel (ls.setIfInBounds x true) a' w') a w → jk P ops (NP Q) n S (fuel + 1) ls a w := fun {x ls fuel a w} hr hx => by
      refine ⟨fun h0 => (by rw [hr] at h0; cases h0), fun y hy => ?_⟩
      rw [hr] at hy
      have hy : y = x := by simpa using hy
      subst hy
      exact wpOp_mono (fun a' w' h => ⟨.inr h.1, h.2⟩) hx
    have e1 : (((listed.setIfInBounds i true).setIfInBounds j true).setIfInBounds k true) = (((listed.setIfInBounds i true).setIfInBounds k true).setIfInBounds j true) := Array.setIfInBounds_comm _ _ (fun e => hkj e.symm)
    have e2 : ((listed.setIfInBounds j true).setIfInBounds i true) = ((listed.setIfInBounds i true).setIfInBounds j true) := Array.setIfInBounds_comm _ _ (fun e => hij e.symm)
    refine ⟨fun h0 => (by rw [h1] at h0; cases h0), fun x hx => ?_⟩
    rw [h1] at hx
    have hx : x = i ∨ x = j := by simpa using hx
    rcases hx with rfl | rfl
    ·refine wpOp_mono (fun a1 w1 g => ⟨.inr g.1, fun h0 => (by rw [h2] at h0; cases h0), fun y hy => ?_⟩) h.1
     rw [h2] at hy
     have hy : y = k ∨ y = j := by simpa using hy
     rcases hy with rfl | rfl
     ·exact wpOp_mono (fun a2 w2 g2 => ⟨.inr g2.1, one h3 (wpOp_mono (fun a3 w3 g3 => ⟨g3.1, mg l _ a3 w3 h6 g3.2⟩) g2.2)⟩) g.2.1
     exact wpOp_mono (fun a2 w2 g2 => ⟨.inr g2.1, one h4 (wpOp_mono (fun a3 w3 g3 => ⟨g3.1, by rw [e1]; exact mg l _ a3 w3 h6 g3.2⟩) g2.2)⟩) g.2.2
    refine wpOp_mono (fun a1 w1 g => ⟨.inr g.1, one h5 (wpOp_mono (fun a2 w2 g2 => ⟨g2.1, ?_⟩) g.2)⟩) h.2
    rw [e2]
    exact one h4 (wpOp_mono (fun a3 w3 g3 => ⟨g3.1, by rw [e1]; exact mg l _ a3 w3 h6 g3.2⟩) g2.2)
  | .perm G :: l, listed, a, w, hb, h => CH (m := qU l) (fun ls a w hb h => mg l ls a w hb h) G.length G listed a w hb h
def kV (P : Program) (ops : Array Oper) (Q : Post) (S : World → Prop) (es : List pY) : List Nat → Act → World → Prop
  | [], a, w => jJ P ops Q S es a w
  | i :: l, a, w => ∃ o v, ops[i]? = some o ∧ YieldsIf P ops S o v a ∧ kV P ops Q S es l (a.put o.dst v) w
def Be (ops : Array Oper) (n : Nat) (es : List pY) : List Nat → Array Bool → Bool
  | [], listed => sF ops n es listed
  | i :: l, listed => decide (i < n) && Region.free .any ops listed i && (Region.ready .any ops listed).contains i && Be ops n es l (listed.setIfInBounds i true)
theorem CI {es : List pY} (hsel : Region.noSelect ops = true) (mw : Region.sinkB .any ops n = true) : ∀ (l : List Nat) (listed : Array Bool) (a : Act) (w : World), Be ops n es l listed = true → Closed ops listed → S w → kV P ops (NP Q) S es l a w → jk P ops (NP Q) n S (l.length + qU es) listed a w
  | [], listed, a, w, hb, _, _, h => by
    rw [List.length_nil, Nat.zero_add]
    exact mg es listed a w hb h
  | i :: l, listed, a, w, hb, hc, hS, h => by
    unfold Be at hb
    simp only [Bool.and_eq_true, decide_eq_true_iff] at hb
    obtain ⟨⟨⟨h1, h2⟩, h3⟩, h4⟩ := hb
    obtain ⟨o, v, ho, hy, hk⟩ := h
    have hr : i ∈ Region.ready .any ops listed := by simpa using h3
    have e : (i :: l).length + qU es = (l.length + qU es) + 1 := by rw [List.length_cons]; omega
    rw [e]
    exact pG ho hsel mw h1 _ listed a w hc (Region.free_spec ho h2) hr hy hS (CI hsel mw l _ _ w h4 (hc.set hr) hS hk)
def D1 (ops : Array Oper) (rs : List Nat) (es : List pY) : Bool :=
  Region.noSelect ops && Region.sinkB .any ops (ops.size - 1) && (rs.length + qU es == ops.size) && Be ops (ops.size - 1) es rs (Array.replicate ops.size false)
end order
section mix
variable {P : Program} {β : Bs} {N : Nat} {ops : Array Oper} {S : List HP} {rs : List Nat} {es : List pY} {fr fr' : Fr} {hps : List HP} {Q : Post} {aq : List Prop} {i j : Nat}
def fS (P : Program) (β : Bs) (N : Nat) (ops : Array Oper) (S : List HP) (es : List pY) (rs : List Nat) (fr : Fr) (hps : List HP) (Q : Post) : Prop :=
  ∀ junk w, Sat β hps w → kV P ops (NP Q) (Sat β S) es rs (cC N fr junk) w
theorem af.oU {id : Nat} (rs : List Nat) (es : List pY) (pk : List Nat) (hm : P.follows .mixedOrders = true) (hB : D1 ops rs es = true) (hn : nodupB pk = true) (hp : bN hps pk = some S) (h : fS P β N ops S es rs fr hps Q) : af P β N (.region id ops true) fr hps Q := by
  intro junk w hS
  unfold D1 at hB
  simp only [Bool.and_eq_true, beq_iff_eq] at hB
  obtain ⟨⟨⟨h1, h2⟩, h3⟩, h4⟩ := hB
  have cK := hS.drewN 1
  have h5 := CI (Q := Q) h1 h2 rs _ _ _ h4 (fun j oj _ hl => by simp [Array.getD_eq_getD_getElem?, Array.getElem?_replicate] at hl; split at hl <;> simp at hl) (cK.pick hn hp) (h junk (w.drewN 1) cK)
  rw [h3] at h5
  refine Code.wp_mono (fun e a w q => ?_) (wp_region_any hm (mr _ _ _ _ h5))
  cases e with
  | normal => exact q
  | exit id => exact q.elim
  | goto l => exact q.elim
  | ret => exact q.elim
  | panic ch => exact q.elim
  | outgrown => exact q.elim
theorem sZ {junk : Nat → Value} {w : World} : ∀ {hs : List OH} {is : List Nat} {fr fr' : Fr} {T T' : SS}, nO P β N junk ops hs is fr T = some (fr', T') → (∀ p, p ∈ T'.aq → p) → T.used = true → T.hps = S →
    kV P ops (NP Q) (Sat β S) es rs (cC N fr' junk) w → kV P ops (NP Q) (Sat β S) es (is ++ rs) (cC N fr junk) w
  | [], [], fr, fr', T, T', h, ho, hu, hT, hK => by cases h; exact hK
  | h :: hs, i :: is, fr, fr', T, T', hr, ho, hu, hT, hK => by
    unfold nO at hr
    repeat' split at hr
    all_goals first | (cases hr; done) | skip
    rename_i o hget _ BM _ v T1 h0 _ hv
    obtain ⟨e1, e2⟩ := q4 h0
    rw [List.cons_append]
    unfold kV
    refine ⟨o, v, hget, .inl ⟨by unfold Region.wanted; rw [BM], fun w' cK => ?_⟩, ?_⟩
    ·rw [dw]
     obtain ⟨w2, h1, _, _, h4⟩ := kB h0 (fun p hp => ho p (rY hr p hp)) (by rw [hT]; exact cK) (fun e => by rw [hu] at e; cases e)
     obtain ⟨ew, _⟩ := h4 rfl
     rw [ew] at h1
     rcases h1 with h1 | ⟨h1, _⟩
     ·exact h1
     exact absurd h1 (qq hv)
    rw [di]
    exact sZ hr ho (e2.trans hu) (e1.trans hT) hK
  | [], _ :: _, _, _, _, _, h, _, _, _, _ => by cases h
  | _ :: _, [], _, _, _, _, h, _, _, _, _ => by cases h
theorem fS.reads (is : List Nat) (hs : List OH) (idx : List Nat) (h : ∀ junk, uO P β N junk ops hs is fr S idx = some (fr', aq)) (ho : gU aq) (K : fS P β N ops S es rs fr' hps Q) : fS P β N ops S es (is ++ rs) fr hps Q := by
  intro junk w hS
  have h0 := h junk
  unfold uO at h0
  split at h0
  ·rename_i jg S1 h1
   cases h0
   have hK := K (lk jg junk) w hS
   rw [← gT] at hK
   exact sZ h1 (fun p hp => ho.mem hp) rfl rfl hK
  cases h0
theorem fS.pair {ι Mb Mc : Type} {GJ : Mb → Fr} {hpi : Mb → List HP} {GK : Mc → Fr} {GL : Mc → List HP} {fr' : ι → Fr} {hp' : ι → List HP} {oi oj : Oper} (N0 N7 pk : List Nat)
    (hi : ops[i]? = some oi) (CJ : oi.guard = none) (hj : ops[j]? = some oj) (D2 : oj.guard = none)
    (h1 : ai P β N #[oi] 0 fr hps (NP (jh β N GJ hpi))) (h2 : ∀ a, ai P β N #[oj] 0 (GJ a) (hpi a) (NP (jh β N fr' hp')))
    (h3 : ai P β N #[oj] 0 fr hps (NP (jh β N GK GL))) (h4 : ∀ a, ai P β N #[oi] 0 (GK a) (GL a) (NP (jh β N fr' hp')))
    (hni : nodupB N0 = true) (OJ : ∀ a, bN (hpi a) N0 = some S) (Pv : nodupB N7 = true) (OL : ∀ a, bN (GL a) N7 = some S) (hn : nodupB pk = true) (hp : ∀ a, bN (hp' a) pk = some S)
    (K : ∀ a, fS P β N ops S es [] (fr' a) (hp' a) Q) : fS P β N ops S (.two i j :: es) [] fr hps Q := by
  intro junk w hS
  unfold kV jJ
  refine ⟨fw hi CJ (ij (fun a w ⟨x, fL, ha, cK⟩ => ?_) (show wpList P #[oi] (NP (jh β N GJ hpi)) [oi] (cC N fr junk) w from h1 junk w hS)), fw hj D2 (ij (fun a w ⟨x, fL, ha, cK⟩ => ?_) (show wpList P #[oj] (NP (jh β N GK GL)) [oj] (cC N fr junk) w from h3 junk w hS))⟩
  ·subst ha
   refine ⟨cK.pick hni (OJ x), fw hj D2 (ij (fun a w ⟨y, E7, ha, ox⟩ => ?_) (show wpList P #[oj] (NP (jh β N fr' hp')) [oj] (cC N (GJ x) fL) w from h2 x fL w cK))⟩
   subst ha
   exact ⟨ox.pick hn (hp y), K y E7 _ ox⟩
  subst ha
  refine ⟨cK.pick Pv (OL x), fw hi CJ (ij (fun a w ⟨y, E7, ha, ox⟩ => ?_) (show wpList P #[oi] (NP (jh β N fr' hp')) [oi] (cC N (GK x) fL) w from h4 x fL w cK))⟩
  subst ha
  exact ⟨ox.pick hn (hp y), K y E7 _ ox⟩
theorem fS.three {k : Nat} {ι GN GP GQ GR GS : Type} {fa : GN → Fr} {ha : GN → List HP} {fb : GP → Fr} {hb : GP → List HP} {fc : GQ → Fr} {hc : GQ → List HP} {fd : GR → Fr} {hd : GR → List HP} {fe : GS → Fr} {he : GS → List HP} {fr' : ι → Fr} {hp' : ι → List HP} {oi ok oj : Oper} (pa pb pc pd pe pk : List Nat)
    (hi : ops[i]? = some oi) (CJ : oi.guard = none) (hk : ops[k]? = some ok) (Md : ok.guard = none) (hj : ops[j]? = some oj) (D2 : oj.guard = none)
    (h1 : ai P β N #[oi] 0 fr hps (NP (jh β N fa ha))) (h2 : ∀ x, ai P β N #[ok] 0 (fa x) (ha x) (NP (jh β N fb hb))) (h3 : ∀ x, ai P β N #[oj] 0 (fb x) (hb x) (NP (jh β N fr' hp')))
    (h4 : ∀ x, ai P β N #[oj] 0 (fa x) (ha x) (NP (jh β N fc hc))) (h5 : ∀ x, ai P β N #[ok] 0 (fc x) (hc x) (NP (jh β N fr' hp')))
    (h6 : ai P β N #[oj] 0 fr hps (NP (jh β N fd hd))) (h7 : ∀ x, ai P β N #[oi] 0 (fd x) (hd x) (NP (jh β N fe he))) (h8 : ∀ x, ai P β N #[ok] 0 (fe x) (he x) (NP (jh β N fr' hp')))
    (na : nodupB pa = true) (qa : ∀ x, bN (ha x) pa = some S) (nb : nodupB pb = true) (qb : ∀ x, bN (hb x) pb = some S) (nc : nodupB pc = true) (qc : ∀ x, bN (hc x) pc = some S) (nd : nodupB pd = true) (qd : ∀ x, bN (hd x) pd = some S) (ne : nodupB pe = true) (qe : ∀ x, bN (he x) pe = some S) (hn : nodupB pk = true) (hp : ∀ x, bN (hp' x) pk = some S)
    (K : ∀ a, fS P β N ops S es [] (fr' a) (hp' a) Q) : fS P β N ops S (.three i k j :: es) [] fr hps Q := by
  have step : ∀ {κ : Type} {g : κ → Fr} {hg : κ → List HP} {x : Nat} {o : Oper} {pg : List Nat} {f0 : Fr} {h0 : List HP} {junk : Nat → Value} {w : World} {R : Act → World → Prop}, ops[x]? = some o → o.guard = none → ai P β N #[o] 0 f0 h0 (NP (jh β N g hg)) → nodupB pg = true → (∀ y, bN (hg y) pg = some S) → Sat β h0 w →
      (∀ y junk w, Sat β (hg y) w → R (cC N (g y) junk) w) → wpOp P ops (NP Q) x (fun a w => Sat β S w ∧ R a w) (cC N f0 junk) w := fun {κ g hg x o pg f0 h0 junk w R} e1 e2 e3 e4 e5 e6 e7 =>
    fw e1 e2 (ij (fun a w ⟨y, fL, ea, cK⟩ => by subst ea; exact ⟨cK.pick e4 (e5 y), e7 y fL w cK⟩) (show wpList P #[o] (NP (jh β N g hg)) [o] (cC N f0 junk) w from e3 junk w e6))
  intro junk w hS
  unfold kV jJ
  have fin : ∀ y junk w, Sat β (hp' y) w → jJ P ops (NP Q) (Sat β S) es (cC N (fr' y) junk) w := fun y junk w h => K y junk w h
  refine ⟨step hi CJ h1 na qa hS (fun x jx wx sx => ⟨?_, ?_⟩), step hj D2 h6 nd qd hS (fun x jx wx sx => step hi CJ (h7 x) ne qe sx (fun y jy wy sy => step hk Md (h8 y) hn hp sy fin))⟩
  ·exact step hk Md (h2 x) nb qb sx (fun y jy wy sy => step hj D2 (h3 y) hn hp sy fin)
  exact step hj D2 (h4 x) nc qc sx (fun y jy wy sy => step hk Md (h5 y) hn hp sy fin)
theorem fS.cut {ι : Type} {fr' : ι → Fr} {hp' : ι → List HP} {o : Oper} (pk : List Nat) (hop : ops[i]? = some o) (hg : o.guard = none) (h : ai P β N #[o] 0 fr hps (NP (jh β N fr' hp'))) (hn : nodupB pk = true) (hp : ∀ j, bN (hp' j) pk = some S)
    (K : ∀ j, fS P β N ops S es [] (fr' j) (hp' j) Q) : fS P β N ops S (.one i :: es) [] fr hps Q := by
  intro junk w hS
  unfold kV jJ
  refine fw hop hg (ij (fun a w ⟨j, fL, ha, cK⟩ => ?_) (show wpList P #[o] (NP (jh β N fr' hp')) [o] (cC N fr junk) w from h junk w hS))
  subst ha
  exact ⟨.inr (cK.pick hn (hp j)), K j fL _ cK⟩
def Qq (P : Program) (β : Bs) (N : Nat) (ops : Array Oper) (Q : Post) (i d : Nat) (ds : List Nat) (fr : Fr) (pre : List HP) (post : Value → List HP → Prop) : Prop :=
  ∀ junk w (A : bR), Sat β (pre ++ [.abs A]) w → wpOp P ops (NP Q) i (fun a' w' => ∃ v l fL, post v l ∧ a' = cC N fr fL ∧ fL d = v ∧ (∀ t ∈ ds, t ≠ d → fL t = junk t) ∧ Sat β (l ++ [.abs A]) w') (cC N fr junk) w
def QE (Pw : List Nat) (u : Nat → Value) : Fr := Pw.map fun t => (t, u t)
theorem fS.last {o : Oper} (hop : ops[i]? = some o) (hg : o.guard = none) (h : ai P β N #[o] 0 fr hps (NP Q)) : fS P β N ops S [.one i] [] fr hps Q := by
  intro junk w hS
  unfold kV jJ
  exact fw hop hg (ij (fun a w hq => ⟨.inl rfl, by unfold jJ; exact hq⟩) (show wpList P #[o] (NP Q) [o] (cC N fr junk) w from h junk w hS))
end mix
end
section
open Go.RowKit Go.Maps HeapM TabM
attribute [local irreducible] ai aR af aj
abbrev JX := (.abs (aF 5 1 none 0 0 ([])) : HP)
abbrev D3 (B) (d : List UInt8) (cap) := (.abs (aF 5 1 B d.length cap (bL d)) : HP)
abbrev JY (A7 : Option Addr) (S : aI) (c8 : Nat) := (.abs (aF 3 1 A7 ((keys S.idx).length) c8 (ints (keys S.idx))) : HP)
abbrev D4 (b4 : Nat) := (.blk b4 [.slice none (0) (0)] 24 : HP)
abbrev Me (b5 : Nat) (An : Option Addr) (i : Nat) (cn : Nat) := (.blk b5 [.slice An (i) (cn)] 24 : HP)
abbrev Mf (An : Option Addr) (i : Nat) (cn : Nat) (K) (S : aI) := (.abs (aF 70 10 An i cn (bV K ((aM S).take i))) : HP)
abbrev vH (S : aI) (i : Nat) (K) := (.abs (dL (gJ ((aM S).take i) K) i) : HP)
abbrev CK (S : aI) (i : Nat) (K) := (.abs (dL (fY ((aM S).take i) K) i) : HP)
abbrev kW (b10 : Nat) := (.blk b10 [vI 0, vI 0, vI 0, vI 0, vI 0, vI 0, vI 0, .slice none (0) (0), .string ⟨#[]⟩, .slice none (0) (0)] 70 : HP)
abbrev Mg (b9 : Nat) (S : aI) (i : Nat) (tk : Nat) := (.blk b9 [vI ((bY S i)), vI 1, vI ((obj S.O tk).mode), vI ((obj S.O tk).uid), vI ((obj S.O tk).gid), vI ((obj S.O tk).sec), vI ((obj S.O tk).nano), .slice none (0) (0), .string ⟨#[]⟩, .slice none (0) (0)] 70 : HP)
abbrev sG (b5 : Nat) (qI : Option Addr) (i : Nat) (c16 : Nat) := (.blk b5 [.slice qI ((i + 1)) (c16)] 24 : HP)
abbrev zC (b9 : Nat) (S : aI) (i : Nat) (tk : Nat) (j3 : Option Addr) (c13 : Nat) := (.blk b9 [vI ((bY S i)), vI 1, vI ((obj S.O tk).mode), vI ((obj S.O tk).uid), vI ((obj S.O tk).gid), vI ((obj S.O tk).sec), vI ((obj S.O tk).nano), .slice j3 ((obj S.O tk).data.length) (c13), .string ⟨#[]⟩, .slice none (0) (0)] 70 : HP)
abbrev E8 := (.abs (aF 101 2 none 0 0 ([])) : HP)
abbrev jd (S : aI) (L : HL) (tk : Nat) := (.abs (ak (iK (bh S.O L) tk bR.none)) : HP)
abbrev pZ (L : HL) (tk : Nat) (S : aI) := (.abs (aH Tryz.prog 9 (L.m tk) (fX L (obj S.O tk).ah) ((obj S.O tk).ah.length)) : HP)
abbrev lH (b17 : Nat) (S : aI) (i : Nat) (tk : Nat) (Ae : Option Addr) (j : Nat) (ce : Nat) := (.blk b17 [vI ((bY S i)), vI 2, vI ((obj S.O tk).mode), vI ((obj S.O tk).uid), vI ((obj S.O tk).gid), vI ((obj S.O tk).sec), vI ((obj S.O tk).nano), .slice none (0) (0), .string ⟨#[]⟩, .slice Ae (j) (ce)] 70 : HP)
abbrev E9 (Ae : Option Addr) (j : Nat) (ce : Nat) (S : aI) (tk : Nat) := (.abs (aF 101 2 Ae j ce (fB (((obj S.O tk).ah.take j).map (jV S.O)))) : HP)
abbrev qV (b20 : Nat) (L : HL) (tk : Nat) := (.blk b20 [.map (some (L.m tk))] 97 : HP)
abbrev qW (cU : Option Addr) (S : aI) (tk : Nat) (dK : Nat) := (.abs (aF 9 1 cU ((obj S.O tk).ah.length) dK (mE (obj S.O tk).ah)) : HP)
abbrev zD (oA : Option Addr) (j : Nat) (oB : Nat) (S : aI) (tk : Nat) := (.abs (aF 101 2 oA (j + 1) oB (fB (((obj S.O tk).ah.take (j + 1)).map (jV S.O)))) : HP)
abbrev zE (yj : Nat) (S : aI) (tk : Nat) (j : Nat) (ek : Nat) := (.blk yj [.string (dU (obj S.O tk).ah j), vI ((obj S.O ek).id)] 101 : HP)
abbrev Fa (oC : Option Addr) (i : Nat) (oF : Nat) (K : Lay) (S : aI) := (.abs (aF 70 10 oC (i + 1) oF (bV (K.put i none 0 none 0) ((aM S).take (i + 1)))) : HP)
abbrev uE (eU : Nat) (S : aI) (i : Nat) (tk : Nat) := (.blk eU [vI ((bY S i)), vI 3, vI ((obj S.O tk).mode), vI ((obj S.O tk).uid), vI ((obj S.O tk).gid), vI ((obj S.O tk).sec), vI ((obj S.O tk).nano), .slice none (0) (0), .string (obj S.O tk).target, .slice none (0) (0)] 70 : HP)
abbrev je (f : Nat) (b4 : Nat) (b5 : Nat) (b17 : Nat) (L : HL) (tk : Nat) (A7 : Option Addr) (S : aI) (c8 : Nat) (i : Nat) (cU : Option Addr) (dK : Nat) (j : Nat) := ([(0, vP f), (2, vP b4), (3, vP b5), (8, vP b17), (11, vP (L.b tk)), (19, .slice A7 ((keys S.idx).length) (c8)), (20, vI ↑((keys S.idx).length)), (21, vI ↑i), (79, .slice cU ((obj S.O tk).ah.length) (dK)), (80, vI ↑((obj S.O tk).ah.length)), (81, vI ↑j)] : Fr)
abbrev cQ (b5 : Nat) (An : Option Addr) (i : Nat) (cn : Nat) (K) (S : aI) (A7 : Option Addr) (c8 : Nat) (b4 : Nat) (f : Nat) (m : Nat) (t) (L : HL) := ([Me b5 An i cn, Mf An i cn K S, vH S i K, CK S i K, JY A7 S c8, D4 b4, pF f m t S.X, pI m L S.idx, pO S.O L, pD S.O L] : List HP)
abbrev jf (S : aI) (tk : Nat) := ([(39, vI ((obj S.O tk).mode)), (43, vI ((obj S.O tk).uid)), (47, vI ((obj S.O tk).gid)), (51, .agg #[vI ((obj S.O tk).sec), vI ((obj S.O tk).nano)])] : Fr)
abbrev fZ (f : Nat) (b4 : Nat) (b5 : Nat) := ([(0, vP f), (2, vP b4), (3, vP b5)] : Fr)
abbrev jX (b10 : Nat) (A7 : Option Addr) (S : aI) (c8 : Nat) (i : Nat) := ([(8, vP b10), (19, .slice A7 ((keys S.idx).length) (c8)), (20, vI ↑((keys S.idx).length)), (21, vI ↑i), (33, vI ((bY S i)))] : Fr)
abbrev qX (A7 : Option Addr) (S : aI) (c8 : Nat) (i : Nat) := ([(19, .slice A7 ((keys S.idx).length) (c8)), (20, vI ↑((keys S.idx).length)), (21, vI ↑i)] : Fr)
abbrev mG (b17 : Nat) (S : aI) (i : Nat) (tk : Nat) (Ae : Option Addr) (j : Nat) (ce : Nat) (L : HL) (b20 : Nat) (cU : Option Addr) (dK : Nat) := ([lH b17 S i tk Ae j ce, E9 Ae j ce S tk, pZ L tk S, qV b20 L tk, qW cU S tk dK] : List HP)
abbrev oo (Ae : Option Addr) (j : Nat) (ce : Nat) (S : aI) (tk : Nat) := ([(86, .slice Ae (j) (ce)), (87, .string (dU (obj S.O tk).ah j))] : Fr)
abbrev zF (A7 : Option Addr) (S : aI) (c8 : Nat) (i : Nat) := ([(19, .slice A7 ((keys S.idx).length) (c8)), (20, vI ↑((keys S.idx).length)), (21, vI ↑i)] : Fr)
abbrev I5 (S : aI) (tk : Nat) := ([(2, vI ((obj S.O tk).mode)), (3, vI ((obj S.O tk).uid)), (4, vI ((obj S.O tk).gid)), (5, vI ((obj S.O tk).sec)), (6, vI ((obj S.O tk).nano))] : Fr)
abbrev I6 (S : aI) (tk : Nat) := ([(39, vI ((obj S.O tk).mode)), (43, vI ((obj S.O tk).uid)), (47, vI ((obj S.O tk).gid)), (51, .agg #[vI ((obj S.O tk).sec), vI ((obj S.O tk).nano)])] : Fr)
abbrev p4 (A7 : Option Addr) (S : aI) (c8 : Nat) (b4 : Nat) (f : Nat) (m : Nat) (t) (L : HL) := ([JY A7 S c8, D4 b4, pF f m t S.X, pI m L S.idx, pO S.O L] : List HP)
theorem zG {β : Bs} (c : Nat) : Spec Tryz.prog β 35 #[.slice none 0 c] [] (fun v l => ∃ B cap, v = .slice B 0 cap ∧ l = [.abs (aF 5 1 B 0 cap [])]) := by
 refine Spec.enter Tryz.func35 rfl Tryz.ntmps35 (Nat.le_of_ble_eq_true rfl) (fun R => ?_)
 refine SR ?_
 refine gK 1 [] [] ?_
 refine NN (af.seq (SR ?_))
 refine gK 2 [(4, .bool true)] [] ?_
 refine NN ?_
 refine CT ?_
 refine SR ?_
 refine gK 1 [(2, .slice none (0) (0))] [] ?_
 refine NN (af.ret (aj.ar ?_))
 refine aj.mem (fun w hS => (hS.jL (e := 5) (size := 1)).pick (idx := [1, 0]) (l' := [JX, .abs R]) rfl (by kernel_rfl)) ?_
 exact RT (.slice none (0) (0)) [0, 1] (⟨none, 0, rfl, rfl⟩)
theorem yq {β : Bs} (a : Addr) (c : Nat) (d : List UInt8) (hA : bI β (some a) d) (hl : d.length ≤ 140737488355328) : Spec Tryz.prog β 35 #[.slice (some a) d.length c] [] (fun v l => ∃ B cap, v = .slice B d.length cap ∧ l = [D3 B d cap]) := by
 refine Spec.enter Tryz.func35 rfl Tryz.ntmps35 (Nat.le_of_ble_eq_true rfl) (fun R => ?_)
 refine SR ?_
 refine gK 1 [] [] ?_
 refine NN (af.seq (SR ?_))
 refine gK 2 [(4, .bool false)] [] ?_
 refine NN ?_
 refine CF ?_
 refine af.skip (NX (SR ?_))
 refine gN 1 (fun b1 => [(5, .slice (some ⟨b1, 0, none⟩) (0) (0))]) (fun _ => []) (fun _ => []) (fun b1 => .blk b1 [] 5) (fun b1 => ?_)
 refine ai.mem (fun w hS => hS.rR (i := 1) (b := b1) (cs := []) (e := 5) 1 0 (by kernel_rfl) rfl (by decide)) ?_
 refine gK 1 [(6, .slice (some a) (d.length) (c))] [] ?_
 refine ai.append 1 (d := (some 7)) (t := 41) (e := 5) (z := .int .u8 0) (size := 1) (bytes := 1) (n := 0) (cap := 0) (A := some ⟨b1, 0, none⟩) (xs := []) (s := (.tmp 5)) (x := (.tmp 6)) (ats := #[41, 41]) (A' := (some a)) (m := d.length) (c' := c) (news := (bL d)) (fun _ => by kernel_rfl) rfl (by kernel_rfl) (fun _ => by kernel_rfl) (fun _ => by kernel_rfl) Tryz.underlying41 (by kernel_rfl) rfl (by decide) (by rw [oJ, Nat.mul_one]) (lf d) (hA.src) (by unfold maxLen; omega) (by omega) (fun A2 c3 => ?_)
 refine ai.eT 1 (p := .abs (aF 5 1 A2 (0 + d.length) c3 ([] ++ (bL d)))) (p' := .abs (aF 5 1 A2 d.length c3 (bL d))) (by kernel_rfl) (by rw [Nat.zero_add, List.nil_append]) ?_
 refine ai.slot 7 (.slice A2 (0 + d.length) (c3)) (.slice A2 (d.length) (c3)) (fun _ => by kernel_rfl) (by rw [Nat.zero_add]) ?_
 refine gK 1 [(2, .slice A2 (d.length) (c3))] [] ?_
 refine NN (af.ret ?_)
 exact RT (.slice A2 (d.length) (c3)) [1, 0] (⟨A2, c3, rfl, rfl⟩)
theorem vJ {β : Bs} (A : Option Addr) (c : Nat) (d : List UInt8) (hA : bI β A d) (hl : d.length ≤ 140737488355328) : Spec Tryz.prog β 35 #[.slice A d.length c] [] (fun v l => ∃ B cap, v = .slice B d.length cap ∧ l = [D3 B d cap]) := by
  cases A with
  | some a => exact yq a c d hA hl
  | none =>
    cases d with
    | nil => exact zG c
    | cons b r => have h := bI.hd hA (j := 0) (by simp); cases h
theorem CM {β : Bs} (A : Option Addr) (c : Nat) (d : List UInt8) (hl : d.length ≤ 140737488355328) : Spec Tryz.prog β 35 #[.slice A d.length c] [D3 A d c] (fun v l => ∃ B cap, v = .slice B d.length cap ∧ l = [D3 B d cap, D3 A d c]) :=
  (Spec.yT (pre := []) (R := [D3 A d c]) (fun _ h => vJ A c d h.bytes hl)).mono (by rintro v l ⟨l0, ⟨B, cap, rfl, rfl⟩, rfl⟩; exact ⟨B, cap, rfl, rfl⟩)
theorem CN {β : Bs} (L : HL) (b bk : Nat) (idx : Used Th) (hr : TabM.ck (keys idx)) (hn : idx.length ≤ 4096) :
    Spec Tryz.prog β 40 #[xh bk] [pI b L idx, .blk bk [.map (some b)] 80] (fun v l => ∃ A cap, v = .slice A (keys idx).length cap ∧ l = [pI b L idx, .blk bk [.map (some b)] 80, .abs (aF 3 1 A (keys idx).length cap (ints (keys idx)))]) :=
  (xj b bk idx.length (aP (aK L idx)) (by omega)).mono (by
    rintro v l ⟨A, cap, ss, rfl, hk, _, rfl⟩
    have e := DI (us := aK L idx) (by rw [wj]; exact hr) hk
    rw [wj] at e
    subst e
    exact ⟨A, cap, rfl, rfl⟩)
theorem Au {β : Bs} (S : aI) (L : HL) (f m t : Nat) (hI : Inv S) :
    Spec Tryz.prog β 15 #[vP f] [pF f m t S.X, pI m L S.idx, pO S.O L, pD S.O L, pE S.O L] (fun v l => ∃ A c K, v = .agg #[.slice A (aM S).length c] ∧ l = [pF f m t S.X, pI m L S.idx, pO S.O L, pD S.O L, pE S.O L] ++ E0 A c (aM S) K) := by
 have hX := hI.hX
 have hkl : (keys S.idx).length = S.idx.length := mZ _
 have hil := hI.len
 refine Spec.enter Tryz.func15 rfl Tryz.ntmps15 (Nat.le_of_ble_eq_true rfl) (fun R => ?_)
 refine SR ?_
 refine gN 1 (fun b4 => [(2, vP b4)]) (fun _ => []) (fun _ => []) (fun b4 => .blk b4 [.slice none (0) (0)] 24) (fun b4 => ?_)
 refine NS ?_
 refine gN 1 (fun b5 => [(3, vP b5)]) (fun _ => []) (fun _ => []) (fun b5 => .blk b5 [.slice none (0) (0)] 24) (fun b5 => ?_)
 refine NN (af.seq (SR ?_))
 refine gK 4 [(17, .map (some m))] [(3, a_ 0 f)] ?_
 refine gL [] (BU (some m)) ?_
 rintro _ _ ⟨b6, rfl, rfl⟩
 refine gL [2, 0] (CN L m b6 S.idx hI.rise hI.len) ?_
 rintro _ _ ⟨A7, c8, rfl, rfl⟩
 refine gK 1 [(20, vI ↑((keys S.idx).length))] [] ?_
 refine ai.mem (fun w hS => hS.jL (e := 70) (size := 10)) ?_
 refine ai.mem (aL := [pI m L S.idx, .blk b6 [.map (some m)] 80, JY A7 S c8, pF f m t S.X, pO S.O L, pD S.O L, pE S.O L, .abs R, D4 b4, D4 b5, .abs (aF 70 10 none 0 0 ([])), .abs (dL (gJ [] zA) 0)]) (fun w hS => hS.FK (gJ [] zA)) ?_
 refine ai.mem (aL := [pI m L S.idx, .blk b6 [.map (some m)] 80, JY A7 S c8, pF f m t S.X, pO S.O L, pD S.O L, pE S.O L, .abs R, D4 b4, D4 b5, .abs (aF 70 10 none 0 0 ([])), .abs (dL (gJ [] zA) 0), .abs (dL (fY [] zA) 0)]) (fun w hS => hS.FK (fY [] zA)) ?_
 refine gK 1 [(21, vI 0)] [] ?_
 refine NN (af.block ?_)
 refine af.loop (ι := Nat × (Option Addr) × Nat × Lay) (fun ((i, An, cn, K) : Nat × (Option Addr) × Nat × Lay) => (i ≤ S.idx.length)) (fun ((i, An, cn, K) : Nat × (Option Addr) × Nat × Lay) => S.idx.length - i) (fun ((i, An, cn, K) : Nat × (Option Addr) × Nat × Lay) => (fZ f b4 b5 ++ qX A7 S c8 i)) (fun ((i, An, cn, K) : Nat × (Option Addr) × Nat × Lay) => (cQ b5 An i cn K S A7 c8 b4 f m t L ++ [pE S.O L, .abs R])) (0, none, 0, zA) (idx := [0, 2, 3, 19, 20, 21]) (pk := [9, 10, 11, 12, 2, 8, 3, 0, 4, 5, 6, 7]) (show (0 ≤ S.idx.length) from (Nat.zero_le _)) (fun _ => by kernel_rfl) rfl (by kernel_rfl) ?_
 rintro ⟨i, An, cn, K⟩ hi
 show af _ _ _ _ (fZ f b4 b5 ++ qX A7 S c8 i) (cQ b5 An i cn K S A7 c8 b4 f m t L ++ [pE S.O L, .abs R]) _
 refine SR ?_
 refine gK 1 [(22, .bool (decide ((((i : Nat) : Int) : Int) < ((((keys S.idx).length : Nat) : Int) : Int))))] [] ?_
 refine NN (af.seq ?_)
 refine af.bB (p := (((i : Nat) : Int) : Int) < ((((keys S.idx).length : Nat) : Int) : Int)) (fun _ => by kernel_rfl) (fun JS => ?_) (fun JS => ?_)
 ·have hi2 : i < S.idx.length := by omega
  refine af.skip (NX (af.seq (af.block (SR ?_))))
  refine ai.tell (p := (A7 = some ⟨av A7, au A7, none⟩)) (fun w hS => let ⟨F, h⟩ := hS.get (i := 4) rfl; (aF.D9 h (by omega)).1) (fun hAk => ?_)
  refine gK 3 [(5, vI ((bY S i)))] [(0, p_ ⟨[], some i, none, some ⟨(av A7), au A7, none⟩, none⟩ [((i : Nat) : Int) = ((i : Nat) : Int), i < (keys S.idx).length, (⟨(av A7), au A7, none⟩ : Addr).spot = none, (A7 : Option Addr) = some ⟨(av A7), au A7, none⟩] ⟨rfl, by omega, rfl, hAk, trivial⟩), (1, p_ ⟨[.view 4 (vI ((bY S i)))], none, none, none, none⟩ [(∀ F w, (aF 3 1 A7 ((keys S.idx).length) c8 (ints (keys S.idx))).h F w → w.cell? ⟨(av A7), au A7 + i * 1, none⟩ = some (vI ((bY S i))))] ⟨aF.cellAt (i := i) (j := 0) (by omega) (I4 hi2), trivial⟩)] ?_
  refine NN (af.seq ?_)
  have Qr := (DZ hI.toInv0 hi2).1
  have hget := get_at hI.toInv0 hi2
  rcases Nl hI.toInv0 hi2 with ⟨tk, jA, hlv⟩ | ⟨tk, jA, hlv⟩ | ⟨tk, jA, hlv⟩
  ·have hkt : (obj S.O tk).kind = 1 := hI.kind hlv
   have hel : (obj S.O tk).ah.length ≤ 8192 := hI.eS hlv
   have hdl : (obj S.O tk).data.length ≤ 140737488355328 := hI.Er hlv
   refine af.region ?_
   refine gK 5 [(28, .map (some m)), (29, vI ((bY S i)))] [(3, a_ 6 f)] ?_
   refine ai.dN 7 (d := (some 30)) (t := 80) (K := 3) (E := 84) (b := m) (n := S.idx.length) (f := (aP (aK L S.idx))) (x := (.tmp 28)) (ix := (.tmp 29)) (key := vI ((bY S i))) (z := .nilIface) (kl := (.int .i64 (bY S i))) (r := (some (cG L ⟨tk, 1⟩))) (fun _ => by kernel_rfl) (by kernel_rfl) (fun _ => by kernel_rfl) (fun _ => by kernel_rfl) dz Tryz.underlying80 (fun _ => by kernel_rfl) (gX (zB hI.toInv0 hi2)) (by rw [dO, hget, jA]; rfl) ?_
   refine gK 1 [(6, .iface 89 (vP (L.b tk)))] [] ?_
   refine NS ?_
   refine gK 1 [(31, .iface 89 (vP (L.b tk)))] [] ?_
   refine gL [] (cq (L.b tk)) ?_
   rintro _ _ ⟨rfl, rfl⟩
   refine gK 1 [(7, vP (L.b tk))] [] ?_
   refine NN (af.seq ?_)
   refine af.oU (S := [pO S.O L]) [0, 1, 3, 4, 5, 6, 7, 8, 9, 10, 11, 12, 13, 14, 15, 16, 17, 18] [.three 2 19 20, .one 21] [8] (by kernel_rfl) (by kernel_rfl) rfl (by kernel_rfl) ?_
   refine fS.reads (rs := []) (fr' := ([(0, vP f), (2, vP b4), (3, vP b5), (6, .iface 89 (vP (L.b tk)))] ++ zF A7 S c8 i ++ [(33, vI (bY S i)), (34, .iface 89 (vP (L.b tk)))] ++ I6 S tk)) (aq := [(∀ F w, (ak (aQ S.O L)).h F w → w.cell? ⟨(L.b tk), 5, none⟩ = some (vI ((obj S.O tk).nano))), (∀ F w, (ak (aQ S.O L)).h F w → w.cell? ⟨(L.b tk), 4, none⟩ = some (vI ((obj S.O tk).sec))), (∀ F w, (ak (aQ S.O L)).h F w → w.cell? ⟨(L.b tk), 3, none⟩ = some (vI ((obj S.O tk).gid))), (∀ F w, (ak (aQ S.O L)).h F w → w.cell? ⟨(L.b tk), 2, none⟩ = some (vI ((obj S.O tk).uid))), (∀ F w, (ak (aQ S.O L)).h F w → w.cell? ⟨(L.b tk), 1, none⟩ = some (vI ((obj S.O tk).mode)))]) [0, 1, 3, 4, 5, 6, 7, 8, 9, 10, 11, 12, 13, 14, 15, 16, 17, 18] [o_, o_, o_, o_, o_, ⟨[.view 0 (vI ((obj S.O tk).mode))], none, none, none, none⟩, o_, o_, o_, ⟨[.view 0 (vI ((obj S.O tk).uid))], none, none, none, none⟩, o_, o_, o_, ⟨[.view 0 (vI ((obj S.O tk).gid))], none, none, none, none⟩, o_, o_, o_, ⟨[.view 0 (vI ((obj S.O tk).sec)), .view 0 (vI ((obj S.O tk).nano))], none, none, none, none⟩] [0, 2, 3, 6, 19, 20, 21, 33, 34, 39, 43, 47, 51] (fun _ => by kernel_rfl) ⟨bq (by rw [hkt]; decide) (rfl), bq (by rw [hkt]; decide) (rfl), bq (by rw [hkt]; decide) (rfl), bq (by rw [hkt]; decide) (rfl), bq (by rw [hkt]; decide) (rfl), trivial⟩ ?_
   refine fS.three (ι := Nat) (fa := fun (_ : Unit) => (fZ f b4 b5 ++ [(6, .iface 89 (vP (L.b tk)))] ++ qX A7 S c8 i ++ [(33, vI ((bY S i))), (35, vI 1)] ++ jf S tk)) (ha := fun (_ : Unit) => (cQ b5 An i cn K S A7 c8 b4 f m t L ++ [pE S.O L, .abs R])) (GN := Unit) (fb := fun (_ : Unit) => (fZ f b4 b5 ++ [(6, .iface 89 (vP (L.b tk)))] ++ qX A7 S c8 i ++ [(52, .agg #[vI ((bY S i)), vI 1, vI ((obj S.O tk).mode), vI ((obj S.O tk).uid), vI ((obj S.O tk).gid), vI ((obj S.O tk).sec), vI ((obj S.O tk).nano), .slice none (0) (0), .string ⟨#[]⟩, .slice none (0) (0)])])) (hb := fun (_ : Unit) => (cQ b5 An i cn K S A7 c8 b4 f m t L ++ [pE S.O L, .abs R])) (GP := Unit) (fc := fun (b10 : Nat) => (fZ f b4 b5 ++ [(6, .iface 89 (vP (L.b tk)))] ++ jX b10 A7 S c8 i ++ [(35, vI 1)] ++ jf S tk)) (hc := fun (b10 : Nat) => (cQ b5 An i cn K S A7 c8 b4 f m t L ++ [pE S.O L, .abs R, kW b10])) (GQ := Nat) (fd := fun (b11 : Nat) => (fZ f b4 b5 ++ [(6, .iface 89 (vP (L.b tk)))] ++ jX b11 A7 S c8 i ++ [(34, .iface 89 (vP (L.b tk)))] ++ jf S tk)) (hd := fun (b11 : Nat) => (cQ b5 An i cn K S A7 c8 b4 f m t L ++ [pE S.O L, .abs R, kW b11])) (GR := Nat) (fe := fun (b11 : Nat) => (fZ f b4 b5 ++ [(6, .iface 89 (vP (L.b tk)))] ++ jX b11 A7 S c8 i ++ [(35, vI 1)] ++ jf S tk)) (he := fun (b11 : Nat) => (cQ b5 An i cn K S A7 c8 b4 f m t L ++ [pE S.O L, .abs R, kW b11])) (GS := Nat) (fr' := fun (b9 : Nat) => ([(0, vP f), (2, vP b4), (3, vP b5), (6, .iface 89 (vP (L.b tk))), (8, vP b9)] ++ zF A7 S c8 i ++ [(52, .agg #[vI (bY S i), vI 1, vI ((obj S.O tk).mode), vI ((obj S.O tk).uid), vI ((obj S.O tk).gid), vI ((obj S.O tk).sec), vI ((obj S.O tk).nano), .slice none (0) (0), .string ⟨#[]⟩, .slice none (0) (0)])])) (hp' := fun (b9 : Nat) => (cQ b5 An i cn K S A7 c8 b4 f m t L ++ [pE S.O L, .abs R, kW b9])) [8] [8] [8] [8] [8] [8] rfl rfl rfl rfl rfl rfl ?_ ?_ ?_ ?_ ?_ ?_ ?_ ?_ rfl (fun _ => by kernel_rfl) rfl (fun _ => by kernel_rfl) rfl (fun _ => by kernel_rfl) rfl (fun _ => by kernel_rfl) rfl (fun _ => by kernel_rfl) rfl (fun _ => by kernel_rfl) ?_
   ·refine gL [] (jH (vP (L.b tk))) ?_
    rintro _ _ ⟨rfl, rfl⟩
    refine NL ?_
    exact MD () [0, 2, 3, 6, 19, 20, 21, 33, 35, 39, 43, 47, 51] [0, 1, 2, 3, 4, 5, 6, 7, 8, 9, 10, 11]
   ·rintro _
    refine gK 1 [(52, .agg #[vI ((bY S i)), vI 1, vI ((obj S.O tk).mode), vI ((obj S.O tk).uid), vI ((obj S.O tk).gid), vI ((obj S.O tk).sec), vI ((obj S.O tk).nano), .slice none (0) (0), .string ⟨#[]⟩, .slice none (0) (0)])] [] ?_
    refine NL ?_
    exact MD () [0, 2, 3, 6, 19, 20, 21, 52] [0, 1, 2, 3, 4, 5, 6, 7, 8, 9, 10, 11]
   ·rintro _
    refine gN 1 (fun b9 => [(8, vP b9)]) (fun _ => []) (fun _ => []) (fun b9 => .blk b9 [vI 0, vI 0, vI 0, vI 0, vI 0, vI 0, vI 0, .slice none (0) (0), .string ⟨#[]⟩, .slice none (0) (0)] 70) (fun b9 => ?_)
    refine NL ?_
    exact MD b9 [0, 2, 3, 6, 8, 19, 20, 21, 52] [0, 1, 2, 3, 4, 5, 6, 7, 8, 9, 10, 11, 12]
   ·rintro _
    refine gN 1 (fun b10 => [(8, vP b10)]) (fun _ => []) (fun _ => []) (fun b10 => .blk b10 [vI 0, vI 0, vI 0, vI 0, vI 0, vI 0, vI 0, .slice none (0) (0), .string ⟨#[]⟩, .slice none (0) (0)] 70) (fun b10 => ?_)
    refine NL ?_
    exact MD b10 [0, 2, 3, 6, 8, 19, 20, 21, 33, 35, 39, 43, 47, 51] [0, 1, 2, 3, 4, 5, 6, 7, 8, 9, 10, 11, 12]
   ·rintro b10
    show ai _ _ _ _ _ (fZ f b4 b5 ++ [(6, .iface 89 (vP (L.b tk)))] ++ jX b10 A7 S c8 i ++ [(35, vI 1)] ++ jf S tk) (cQ b5 An i cn K S A7 c8 b4 f m t L ++ [pE S.O L, .abs R, kW b10]) _
    refine gK 1 [(52, .agg #[vI ((bY S i)), vI 1, vI ((obj S.O tk).mode), vI ((obj S.O tk).uid), vI ((obj S.O tk).gid), vI ((obj S.O tk).sec), vI ((obj S.O tk).nano), .slice none (0) (0), .string ⟨#[]⟩, .slice none (0) (0)])] [] ?_
    refine NL ?_
    exact MD b10 [0, 2, 3, 6, 8, 19, 20, 21, 52] [0, 1, 2, 3, 4, 5, 6, 7, 8, 9, 10, 11, 12]
   ·refine gN 1 (fun b11 => [(8, vP b11)]) (fun _ => []) (fun _ => []) (fun b11 => .blk b11 [vI 0, vI 0, vI 0, vI 0, vI 0, vI 0, vI 0, .slice none (0) (0), .string ⟨#[]⟩, .slice none (0) (0)] 70) (fun b11 => ?_)
    refine NL ?_
    exact MD b11 [0, 2, 3, 6, 8, 19, 20, 21, 33, 34, 39, 43, 47, 51] [0, 1, 2, 3, 4, 5, 6, 7, 8, 9, 10, 11, 12]
   ·rintro b11
    show ai _ _ _ _ _ (fZ f b4 b5 ++ [(6, .iface 89 (vP (L.b tk)))] ++ jX b11 A7 S c8 i ++ [(34, .iface 89 (vP (L.b tk)))] ++ jf S tk) (cQ b5 An i cn K S A7 c8 b4 f m t L ++ [pE S.O L, .abs R, kW b11]) _
    refine gL [] (jH (vP (L.b tk))) ?_
    rintro _ _ ⟨rfl, rfl⟩
    refine NL ?_
    exact MD b11 [0, 2, 3, 6, 8, 19, 20, 21, 33, 35, 39, 43, 47, 51] [0, 1, 2, 3, 4, 5, 6, 7, 8, 9, 10, 11, 12]
   ·rintro b11
    show ai _ _ _ _ _ (fZ f b4 b5 ++ [(6, .iface 89 (vP (L.b tk)))] ++ jX b11 A7 S c8 i ++ [(35, vI 1)] ++ jf S tk) (cQ b5 An i cn K S A7 c8 b4 f m t L ++ [pE S.O L, .abs R, kW b11]) _
    refine gK 1 [(52, .agg #[vI ((bY S i)), vI 1, vI ((obj S.O tk).mode), vI ((obj S.O tk).uid), vI ((obj S.O tk).gid), vI ((obj S.O tk).sec), vI ((obj S.O tk).nano), .slice none (0) (0), .string ⟨#[]⟩, .slice none (0) (0)])] [] ?_
    refine NL ?_
    exact MD b11 [0, 2, 3, 6, 8, 19, 20, 21, 52] [0, 1, 2, 3, 4, 5, 6, 7, 8, 9, 10, 11, 12]
   rintro b9
   refine fS.last rfl rfl ?_
   refine gC 1 [] [(0, A_ 12 b9 10)] [(12, ([(0, vI ((bY S i))), (1, vI 1)] ++ I5 S tk))] ?_
   refine NL (aj.np (NX (af.seq (SR ?_))))
   refine gK 1 [(53, .iface 89 (vP (L.b tk)))] [] ?_
   refine NN (af.block (SR ?_))
   refine gK 3 [(55, .bool true), (56, vP (L.b tk))] [] ?_
   refine NN ?_
   refine CT ?_
   refine SR ?_
   refine gK 1 [(9, vP (L.b tk))] [] ?_
   refine NN (af.region ?_)
   refine gK 4 [(60, .slice (L.dA tk) ((obj S.O tk).data.length) ((L.dC tk)))] [(3, v_ 8 (LH L hkt))] ?_
   refine ai.mem (aL := ([Me b5 An i cn, Mf An i cn K S, vH S i K, CK S i K] ++ p4 A7 S c8 b4 f m t L ++ [NG S L tk, pE S.O L, .abs R, Mg b9 S i tk, .abs (aF 5 1 (L.dA tk) ((obj S.O tk).data.length) (L.dC tk) (bL (obj S.O tk).data))])) (fun w hS => hS.FN (i := 9) (k := tk) rfl hkt) ?_
   refine gL [13] (CM (L.dA tk) (L.dC tk) (obj S.O tk).data hdl) ?_
   rintro _ _ ⟨j3, c13, rfl, rfl⟩
   refine ai.mem (aL := ([pD S.O L, .abs (aF 5 1 j3 ((obj S.O tk).data.length) c13 (bL (obj S.O tk).data)), Me b5 An i cn, Mf An i cn K S, vH S i K, CK S i K] ++ p4 A7 S c8 b4 f m t L ++ [pE S.O L, .abs R, Mg b9 S i tk])) (fun w hS => hS.Ma (i := 11) (j := 1) (ix := [0, 2, 3, 4, 5, 6, 7, 8, 9, 10, 12, 13, 14]) rfl rfl (by kernel_rfl) rfl hkt) ?_
   refine gC 2 [] [(1, a_ 13 b9)] [(13, [(7, .slice j3 ((obj S.O tk).data.length) (c13))])] ?_
   refine NL (aj.aT (NX (af.region ?_)))
   refine gN 4 (fun b14 => [(104, .slice An (i) (cn)), (106, .slice (some ⟨b14, 0, none⟩) (1) (1))]) (fun b14 => [(1, a_ 2 b5), (2, A_ 13 b9 10)]) (fun _ => []) (fun b14 => .blk b14 [vI ((bY S i)), vI 1, vI ((obj S.O tk).mode), vI ((obj S.O tk).uid), vI ((obj S.O tk).gid), vI ((obj S.O tk).sec), vI ((obj S.O tk).nano), .slice j3 ((obj S.O tk).data.length) (c13), .string ⟨#[]⟩, .slice none (0) (0)] 70) (fun b14 => ?_)
   refine ai.append 3 (d := (some 107)) (t := 22) (e := 70) (z := .agg #[vI 0, vI 0, vI 0, vI 0, vI 0, vI 0, vI 0, .slice none (0) (0), .string ⟨#[]⟩, .slice none (0) (0)]) (size := 10) (bytes := 120) (n := i) (cap := cn) (A := An) (xs := (bV K ((aM S).take i))) (s := (.tmp 104)) (x := (.tmp 106)) (ats := #[22, 22]) (A' := some ⟨b14, 0, none⟩) (m := 1) (c' := 1) (news := [vI ((bY S i)), vI 1, vI ((obj S.O tk).mode), vI ((obj S.O tk).uid), vI ((obj S.O tk).gid), vI ((obj S.O tk).sec), vI ((obj S.O tk).nano), .slice j3 ((obj S.O tk).data.length) (c13), .string ⟨#[]⟩, .slice none (0) (0)]) (fun _ => by kernel_rfl) rfl (by kernel_rfl) (fun _ => by kernel_rfl) (fun _ => by kernel_rfl) Tryz.underlying22 (by kernel_rfl) rfl (by decide) (rfl) (by simp [Value.oneCell']) (lN (j := 14) rfl) (by unfold maxLen; omega) (by omega) (fun qI c16 => ?_)
   refine ai.eT 3 (p := .abs (aF 70 10 qI (i + 1) c16 ((bV K ((aM S).take i)) ++ [vI ((bY S i)), vI 1, vI ((obj S.O tk).mode), vI ((obj S.O tk).uid), vI ((obj S.O tk).gid), vI ((obj S.O tk).sec), vI ((obj S.O tk).nano), .slice j3 ((obj S.O tk).data.length) (c13), .string ⟨#[]⟩, .slice none (0) (0)]))) (p' := .abs (aF 70 10 qI (i + 1) c16 (bV (K.put i j3 c13 none 0) ((aM S).take (i + 1))))) (by kernel_rfl) (congrArg (fun x => HP.abs (aF 70 10 _ _ _ x)) (sE (cP (by omega)) (nW hI.toInv0 hi2 jA hlv) rfl rfl)) ?_
   refine ai.slot 107 (.slice qI (i + 1) (c16)) (.slice qI ((i + 1)) (c16)) (fun _ => by kernel_rfl) (rfl) ?_
   refine gC 2 [] [(1, a_ 2 b5)] [(2, [(0, .slice qI ((i + 1)) (c16))])] ?_
   refine NL (aj.aT (NX (af.region ?_)))
   refine gK 2 [(21, vI ↑(i + 1))] [(0, p_ ⟨[], none, none, none, some (vI ↑(i + 1))⟩ [(Value.int .i64 (IntKind.wrap .i64 (((i : Nat) : Int) + 1))) = (vI ↑(i + 1))] ⟨bJ (by omega) (by omega) (by omega), trivial⟩)] ?_
   refine NL ?_
   refine aj.mem (aL := ([pD S.O L, .abs (aF 5 1 j3 ((obj S.O tk).data.length) c13 (bL (obj S.O tk).data)), sG b5 qI i c16, .abs (aF 70 10 qI (i + 1) c16 (bV (K.put i j3 c13 none 0) ((aM S).take (i + 1)))), vH S i K, CK S i K] ++ p4 A7 S c8 b4 f m t L ++ [pE S.O L, .abs R, zC b9 S i tk j3 c13, zC b14 S i tk j3 c13, E8])) (fun w hS => hS.jL (e := 101) (size := 2)) ?_
   refine aj.mem (aL := ([.abs (dL (fY ((aM S).take (i + 1)) (K.put i j3 c13 none 0)) (i + 1)), pD S.O L, sG b5 qI i c16, .abs (aF 70 10 qI (i + 1) c16 (bV (K.put i j3 c13 none 0) ((aM S).take (i + 1)))), vH S i K] ++ p4 A7 S c8 b4 f m t L ++ [pE S.O L, .abs R, zC b9 S i tk j3 c13, zC b14 S i tk j3 c13, E8])) (fun w hS => hS.oW (R' := (fY ((aM S).take (i + 1)) (K.put i j3 c13 none 0))) (i := 5) (j := 1) (idx := [0, 2, 3, 4, 6, 7, 8, 9, 10, 11, 12, 13, 14, 15]) rfl rfl (by kernel_rfl) rfl (wF (cP (by omega)) (nW hI.toInv0 hi2 jA hlv)) (uy (cP (by omega)) (nW hI.toInv0 hi2 jA hlv) rfl)) ?_
   refine aj.mem (aL := ([.abs (dL (gJ ((aM S).take (i + 1)) (K.put i j3 c13 none 0)) (i + 1)), .abs (dL (fY ((aM S).take (i + 1)) (K.put i j3 c13 none 0)) (i + 1)), pD S.O L, sG b5 qI i c16, .abs (aF 70 10 qI (i + 1) c16 (bV (K.put i j3 c13 none 0) ((aM S).take (i + 1))))] ++ p4 A7 S c8 b4 f m t L ++ [pE S.O L, .abs R, zC b9 S i tk j3 c13, zC b14 S i tk j3 c13])) (fun w hS => hS.oW (R' := (gJ ((aM S).take (i + 1)) (K.put i j3 c13 none 0))) (i := 4) (j := 14) (idx := [0, 1, 2, 3, 5, 6, 7, 8, 9, 10, 11, 12, 13]) rfl rfl (by kernel_rfl) rfl (wG (cP (by omega)) (nW hI.toInv0 hi2 jA hlv)) ((uz (cP (by omega)) (nW hI.toInv0 hi2 jA hlv) rfl))) ?_
   exact aj.turn ((i + 1), qI, c16, (K.put i j3 c13 none 0)) (idx := [0, 2, 3, 19, 20, 21]) (pk := [3, 4, 0, 1, 5, 6, 7, 8, 9, 2, 10, 11]) (show (((i + 1)) ≤ S.idx.length) from (by omega)) (by show S.idx.length - ((i + 1)) < S.idx.length - i; omega) (fun _ => by kernel_rfl) rfl (by kernel_rfl)
  ·have hkt : (obj S.O tk).kind = 2 := hI.kind hlv
   have hel : (obj S.O tk).ah.length ≤ 8192 := hI.eS hlv
   have hdl : (obj S.O tk).data.length ≤ 140737488355328 := hI.Er hlv
   refine af.region ?_
   refine gK 5 [(28, .map (some m)), (29, vI ((bY S i)))] [(3, a_ 6 f)] ?_
   refine ai.dN 7 (d := (some 30)) (t := 80) (K := 3) (E := 84) (b := m) (n := S.idx.length) (f := (aP (aK L S.idx))) (x := (.tmp 28)) (ix := (.tmp 29)) (key := vI ((bY S i))) (z := .nilIface) (kl := (.int .i64 (bY S i))) (r := (some (cG L ⟨tk, 2⟩))) (fun _ => by kernel_rfl) (by kernel_rfl) (fun _ => by kernel_rfl) (fun _ => by kernel_rfl) dz Tryz.underlying80 (fun _ => by kernel_rfl) (gX (zB hI.toInv0 hi2)) (by rw [dO, hget, jA]; rfl) ?_
   refine gK 1 [(6, .iface 96 (vP (L.b tk)))] [] ?_
   refine NS ?_
   refine gK 1 [(31, .iface 96 (vP (L.b tk)))] [] ?_
   refine gL [] (cq (L.b tk)) ?_
   rintro _ _ ⟨rfl, rfl⟩
   refine gK 1 [(7, vP (L.b tk))] [] ?_
   refine NN (af.seq ?_)
   refine af.oU (S := [pO S.O L]) [0, 1, 3, 4, 5, 6, 7, 8, 9, 10, 11, 12, 13, 14, 15, 16, 17, 18] [.three 2 19 20, .one 21] [8] (by kernel_rfl) (by kernel_rfl) rfl (by kernel_rfl) ?_
   refine fS.reads (rs := []) (fr' := ([(0, vP f), (2, vP b4), (3, vP b5), (6, .iface 96 (vP (L.b tk)))] ++ zF A7 S c8 i ++ [(33, vI (bY S i)), (34, .iface 96 (vP (L.b tk)))] ++ I6 S tk)) (aq := [(∀ F w, (ak (aQ S.O L)).h F w → w.cell? ⟨(L.b tk), 5, none⟩ = some (vI ((obj S.O tk).nano))), (∀ F w, (ak (aQ S.O L)).h F w → w.cell? ⟨(L.b tk), 4, none⟩ = some (vI ((obj S.O tk).sec))), (∀ F w, (ak (aQ S.O L)).h F w → w.cell? ⟨(L.b tk), 3, none⟩ = some (vI ((obj S.O tk).gid))), (∀ F w, (ak (aQ S.O L)).h F w → w.cell? ⟨(L.b tk), 2, none⟩ = some (vI ((obj S.O tk).uid))), (∀ F w, (ak (aQ S.O L)).h F w → w.cell? ⟨(L.b tk), 1, none⟩ = some (vI ((obj S.O tk).mode)))]) [0, 1, 3, 4, 5, 6, 7, 8, 9, 10, 11, 12, 13, 14, 15, 16, 17, 18] [o_, o_, o_, o_, o_, ⟨[.view 0 (vI ((obj S.O tk).mode))], none, none, none, none⟩, o_, o_, o_, ⟨[.view 0 (vI ((obj S.O tk).uid))], none, none, none, none⟩, o_, o_, o_, ⟨[.view 0 (vI ((obj S.O tk).gid))], none, none, none, none⟩, o_, o_, o_, ⟨[.view 0 (vI ((obj S.O tk).sec)), .view 0 (vI ((obj S.O tk).nano))], none, none, none, none⟩] [0, 2, 3, 6, 19, 20, 21, 33, 34, 39, 43, 47, 51] (fun _ => by kernel_rfl) ⟨bq (by rw [hkt]; decide) (rfl), bq (by rw [hkt]; decide) (rfl), bq (by rw [hkt]; decide) (rfl), bq (by rw [hkt]; decide) (rfl), bq (by rw [hkt]; decide) (rfl), trivial⟩ ?_
   refine fS.three (ι := Nat) (fa := fun (_ : Unit) => (fZ f b4 b5 ++ [(6, .iface 96 (vP (L.b tk)))] ++ qX A7 S c8 i ++ [(33, vI ((bY S i))), (35, vI 2)] ++ jf S tk)) (ha := fun (_ : Unit) => (cQ b5 An i cn K S A7 c8 b4 f m t L ++ [pE S.O L, .abs R])) (GN := Unit) (fb := fun (_ : Unit) => (fZ f b4 b5 ++ [(6, .iface 96 (vP (L.b tk)))] ++ qX A7 S c8 i ++ [(52, .agg #[vI ((bY S i)), vI 2, vI ((obj S.O tk).mode), vI ((obj S.O tk).uid), vI ((obj S.O tk).gid), vI ((obj S.O tk).sec), vI ((obj S.O tk).nano), .slice none (0) (0), .string ⟨#[]⟩, .slice none (0) (0)])])) (hb := fun (_ : Unit) => (cQ b5 An i cn K S A7 c8 b4 f m t L ++ [pE S.O L, .abs R])) (GP := Unit) (fc := fun (b18 : Nat) => (fZ f b4 b5 ++ [(6, .iface 96 (vP (L.b tk)))] ++ jX b18 A7 S c8 i ++ [(35, vI 2)] ++ jf S tk)) (hc := fun (b18 : Nat) => (cQ b5 An i cn K S A7 c8 b4 f m t L ++ [pE S.O L, .abs R, kW b18])) (GQ := Nat) (fd := fun (b19 : Nat) => (fZ f b4 b5 ++ [(6, .iface 96 (vP (L.b tk)))] ++ jX b19 A7 S c8 i ++ [(34, .iface 96 (vP (L.b tk)))] ++ jf S tk)) (hd := fun (b19 : Nat) => (cQ b5 An i cn K S A7 c8 b4 f m t L ++ [pE S.O L, .abs R, kW b19])) (GR := Nat) (fe := fun (b19 : Nat) => (fZ f b4 b5 ++ [(6, .iface 96 (vP (L.b tk)))] ++ jX b19 A7 S c8 i ++ [(35, vI 2)] ++ jf S tk)) (he := fun (b19 : Nat) => (cQ b5 An i cn K S A7 c8 b4 f m t L ++ [pE S.O L, .abs R, kW b19])) (GS := Nat) (fr' := fun (b17 : Nat) => ([(0, vP f), (2, vP b4), (3, vP b5), (6, .iface 96 (vP (L.b tk))), (8, vP b17)] ++ zF A7 S c8 i ++ [(52, .agg #[vI (bY S i), vI 2, vI ((obj S.O tk).mode), vI ((obj S.O tk).uid), vI ((obj S.O tk).gid), vI ((obj S.O tk).sec), vI ((obj S.O tk).nano), .slice none (0) (0), .string ⟨#[]⟩, .slice none (0) (0)])])) (hp' := fun (b17 : Nat) => (cQ b5 An i cn K S A7 c8 b4 f m t L ++ [pE S.O L, .abs R, kW b17])) [8] [8] [8] [8] [8] [8] rfl rfl rfl rfl rfl rfl ?_ ?_ ?_ ?_ ?_ ?_ ?_ ?_ rfl (fun _ => by kernel_rfl) rfl (fun _ => by kernel_rfl) rfl (fun _ => by kernel_rfl) rfl (fun _ => by kernel_rfl) rfl (fun _ => by kernel_rfl) rfl (fun _ => by kernel_rfl) ?_
   ·refine gL [] (jI (vP (L.b tk))) ?_
    rintro _ _ ⟨rfl, rfl⟩
    refine NL ?_
    exact MD () [0, 2, 3, 6, 19, 20, 21, 33, 35, 39, 43, 47, 51] [0, 1, 2, 3, 4, 5, 6, 7, 8, 9, 10, 11]
   ·rintro _
    refine gK 1 [(52, .agg #[vI ((bY S i)), vI 2, vI ((obj S.O tk).mode), vI ((obj S.O tk).uid), vI ((obj S.O tk).gid), vI ((obj S.O tk).sec), vI ((obj S.O tk).nano), .slice none (0) (0), .string ⟨#[]⟩, .slice none (0) (0)])] [] ?_
    refine NL ?_
    exact MD () [0, 2, 3, 6, 19, 20, 21, 52] [0, 1, 2, 3, 4, 5, 6, 7, 8, 9, 10, 11]
   ·rintro _
    refine gN 1 (fun b17 => [(8, vP b17)]) (fun _ => []) (fun _ => []) (fun b17 => .blk b17 [vI 0, vI 0, vI 0, vI 0, vI 0, vI 0, vI 0, .slice none (0) (0), .string ⟨#[]⟩, .slice none (0) (0)] 70) (fun b17 => ?_)
    refine NL ?_
    exact MD b17 [0, 2, 3, 6, 8, 19, 20, 21, 52] [0, 1, 2, 3, 4, 5, 6, 7, 8, 9, 10, 11, 12]
   ·rintro _
    refine gN 1 (fun b18 => [(8, vP b18)]) (fun _ => []) (fun _ => []) (fun b18 => .blk b18 [vI 0, vI 0, vI 0, vI 0, vI 0, vI 0, vI 0, .slice none (0) (0), .string ⟨#[]⟩, .slice none (0) (0)] 70) (fun b18 => ?_)
    refine NL ?_
    exact MD b18 [0, 2, 3, 6, 8, 19, 20, 21, 33, 35, 39, 43, 47, 51] [0, 1, 2, 3, 4, 5, 6, 7, 8, 9, 10, 11, 12]
   ·rintro b18
    show ai _ _ _ _ _ (fZ f b4 b5 ++ [(6, .iface 96 (vP (L.b tk)))] ++ jX b18 A7 S c8 i ++ [(35, vI 2)] ++ jf S tk) (cQ b5 An i cn K S A7 c8 b4 f m t L ++ [pE S.O L, .abs R, kW b18]) _
    refine gK 1 [(52, .agg #[vI ((bY S i)), vI 2, vI ((obj S.O tk).mode), vI ((obj S.O tk).uid), vI ((obj S.O tk).gid), vI ((obj S.O tk).sec), vI ((obj S.O tk).nano), .slice none (0) (0), .string ⟨#[]⟩, .slice none (0) (0)])] [] ?_
    refine NL ?_
    exact MD b18 [0, 2, 3, 6, 8, 19, 20, 21, 52] [0, 1, 2, 3, 4, 5, 6, 7, 8, 9, 10, 11, 12]
   ·refine gN 1 (fun b19 => [(8, vP b19)]) (fun _ => []) (fun _ => []) (fun b19 => .blk b19 [vI 0, vI 0, vI 0, vI 0, vI 0, vI 0, vI 0, .slice none (0) (0), .string ⟨#[]⟩, .slice none (0) (0)] 70) (fun b19 => ?_)
    refine NL ?_
    exact MD b19 [0, 2, 3, 6, 8, 19, 20, 21, 33, 34, 39, 43, 47, 51] [0, 1, 2, 3, 4, 5, 6, 7, 8, 9, 10, 11, 12]
   ·rintro b19
    show ai _ _ _ _ _ (fZ f b4 b5 ++ [(6, .iface 96 (vP (L.b tk)))] ++ jX b19 A7 S c8 i ++ [(34, .iface 96 (vP (L.b tk)))] ++ jf S tk) (cQ b5 An i cn K S A7 c8 b4 f m t L ++ [pE S.O L, .abs R, kW b19]) _
    refine gL [] (jI (vP (L.b tk))) ?_
    rintro _ _ ⟨rfl, rfl⟩
    refine NL ?_
    exact MD b19 [0, 2, 3, 6, 8, 19, 20, 21, 33, 35, 39, 43, 47, 51] [0, 1, 2, 3, 4, 5, 6, 7, 8, 9, 10, 11, 12]
   ·rintro b19
    show ai _ _ _ _ _ (fZ f b4 b5 ++ [(6, .iface 96 (vP (L.b tk)))] ++ jX b19 A7 S c8 i ++ [(35, vI 2)] ++ jf S tk) (cQ b5 An i cn K S A7 c8 b4 f m t L ++ [pE S.O L, .abs R, kW b19]) _
    refine gK 1 [(52, .agg #[vI ((bY S i)), vI 2, vI ((obj S.O tk).mode), vI ((obj S.O tk).uid), vI ((obj S.O tk).gid), vI ((obj S.O tk).sec), vI ((obj S.O tk).nano), .slice none (0) (0), .string ⟨#[]⟩, .slice none (0) (0)])] [] ?_
    refine NL ?_
    exact MD b19 [0, 2, 3, 6, 8, 19, 20, 21, 52] [0, 1, 2, 3, 4, 5, 6, 7, 8, 9, 10, 11, 12]
   rintro b17
   refine fS.last rfl rfl ?_
   refine gC 1 [] [(0, A_ 12 b17 10)] [(12, ([(0, vI ((bY S i))), (1, vI 2)] ++ I5 S tk))] ?_
   refine NL (aj.np (NX (af.seq (SR ?_))))
   refine gK 1 [(53, .iface 96 (vP (L.b tk)))] [] ?_
   refine NN (af.block (SR ?_))
   refine gK 3 [(55, .bool false), (56, .pointer none)] [] ?_
   refine NN ?_
   refine CF ?_
   refine SR ?_
   refine gK 3 [(64, .bool false), (65, .pointer none)] [] ?_
   refine NN ?_
   refine CF ?_
   refine SR ?_
   refine gK 3 [(72, .bool true), (73, vP (L.b tk))] [] ?_
   refine NN ?_
   refine CT ?_
   refine SR ?_
   refine gK 1 [(11, vP (L.b tk))] [] ?_
   refine NS ?_
   refine gK 4 [(77, .map (some (L.m tk)))] [(3, v_ 8 (bC L hkt))] ?_
   refine ai.mem (aL := (cQ b5 An i cn K S A7 c8 b4 f m t L ++ [jd S L tk, .abs R, .blk b17 [vI ((bY S i)), vI 2, vI ((obj S.O tk).mode), vI ((obj S.O tk).uid), vI ((obj S.O tk).gid), vI ((obj S.O tk).sec), vI ((obj S.O tk).nano), .slice none (0) (0), .string ⟨#[]⟩, .slice none (0) (0)] 70, pZ L tk S])) (fun w hS => hS.K9 (i := 10) (k := tk) rfl (hkt)) ?_
   refine gL [] (I0 (some (L.m tk))) ?_
   rintro _ _ ⟨b20, rfl, rfl⟩
   refine gL [14, 0] (EZ L (L.m tk) b20 (obj S.O tk).ah.length (obj S.O tk).ah (hI.sorted _ hlv) hel) ?_
   rintro _ _ ⟨cU, dK, rfl, rfl⟩
   refine gK 1 [(80, vI ↑((obj S.O tk).ah.length))] [] ?_
   refine ai.mem (fun w hS => hS.jL (e := 101) (size := 2)) ?_
   refine gK 1 [(81, vI 0)] [] ?_
   refine NN (af.block ?_)
   refine af.loop (ι := Nat × (Option Addr) × Nat) (fun ((j, Ae, ce) : Nat × (Option Addr) × Nat) => (j ≤ (obj S.O tk).ah.length)) (fun ((j, Ae, ce) : Nat × (Option Addr) × Nat) => (obj S.O tk).ah.length - j) (fun ((j, Ae, ce) : Nat × (Option Addr) × Nat) => (fZ f b4 b5 ++ [(8, vP b17), (11, vP (L.b tk))] ++ qX A7 S c8 i ++ [(79, .slice cU ((obj S.O tk).ah.length) (dK)), (80, vI ↑((obj S.O tk).ah.length)), (81, vI ↑j)])) (fun ((j, Ae, ce) : Nat × (Option Addr) × Nat) => (mG b17 S i tk Ae j ce L b20 cU dK ++ cQ b5 An i cn K S A7 c8 b4 f m t L ++ [jd S L tk, .abs R])) (0, none, 0) (idx := [0, 2, 3, 8, 11, 19, 20, 21, 79, 80, 81]) (pk := [15, 16, 0, 1, 2, 3, 4, 5, 6, 7, 8, 9, 10, 11, 12, 13, 14]) (show (0 ≤ (obj S.O tk).ah.length) from (Nat.zero_le _)) (fun _ => by kernel_rfl) rfl (by kernel_rfl) ?_
   rintro ⟨j, Ae, ce⟩ hj
   show af _ _ _ _ (fZ f b4 b5 ++ [(8, vP b17), (11, vP (L.b tk))] ++ qX A7 S c8 i ++ [(79, .slice cU ((obj S.O tk).ah.length) (dK)), (80, vI ↑((obj S.O tk).ah.length)), (81, vI ↑j)]) (mG b17 S i tk Ae j ce L b20 cU dK ++ cQ b5 An i cn K S A7 c8 b4 f m t L ++ [jd S L tk, .abs R]) _
   refine SR ?_
   refine gK 1 [(82, .bool (decide ((((j : Nat) : Int) : Int) < ((((obj S.O tk).ah.length : Nat) : Int) : Int))))] [] ?_
   refine NN (af.seq ?_)
   refine af.bB (p := (((j : Nat) : Int) : Int) < ((((obj S.O tk).ah.length : Nat) : Int) : Int)) (fun _ => by kernel_rfl) (fun Px => ?_) (fun Px => ?_)
   ·have hj2 : j < (obj S.O tk).ah.length := by omega
    refine af.skip (NX (af.seq (af.block (SR ?_))))
    refine ai.tell (p := (cU = some ⟨av cU, au cU, none⟩)) (fun w hS => let ⟨F, h⟩ := hS.get (i := 4) rfl; (aF.D9 h (by omega)).1) (fun Py => ?_)
    refine gK 3 [(13, .string (dU (obj S.O tk).ah j))] [(0, p_ ⟨[], some j, none, some ⟨(av cU), au cU, none⟩, none⟩ [((j : Nat) : Int) = ((j : Nat) : Int), j < (obj S.O tk).ah.length, (⟨(av cU), au cU, none⟩ : Addr).spot = none, (cU : Option Addr) = some ⟨(av cU), au cU, none⟩] ⟨rfl, by omega, rfl, Py, trivial⟩), (1, p_ ⟨[.view 4 (.string (dU (obj S.O tk).ah j))], none, none, none, none⟩ [(∀ F w, (aF 9 1 cU ((obj S.O tk).ah.length) dK (mE (obj S.O tk).ah)).h F w → w.cell? ⟨(av cU), au cU + j * 1, none⟩ = some (.string (dU (obj S.O tk).ah j)))] ⟨aF.cellAt (i := j) (j := 0) (by omega) (E6 hj2), trivial⟩)] ?_
    refine NN ?_
    obtain ⟨hgd, h4⟩ := OI hI.toInv0 hlv hj2
    have hgs : (dU (obj S.O tk).ah j).size ≤ 255 := hgd.2.1
    rcases h4 with ⟨ek, hle, wE, GU⟩ | ⟨ek, hle, wE, GU⟩ | ⟨ek, hle, wE, GU⟩
    ·have hke : (obj S.O ek).kind = 1 := hI.kind wE
     refine af.bZ (S := [pZ L tk S, pO S.O L, lH b17 S i tk Ae j ce]) [0, 1, 2, 3, 4, 5, 6, 7, 8, 9, 10, 11, 12, 13, 14, 15, 16, 17] 9 [2, 13, 0] (by kernel_rfl) (by kernel_rfl) rfl (by kernel_rfl) ?_
     refine aJ.reads (r := 1) (l := [8, 9, 10, 11, 12, 13, 14, 15, 16, 17]) (fr' := (je f b4 b5 b17 L tk A7 S c8 i cU dK j ++ oo Ae j ce S tk ++ [(91, .map (some (L.m tk))), (92, .string (dU (obj S.O tk).ah j))])) (aq := [(∀ F w, (ak (aQ S.O L)).h F w → w.cell? ⟨(L.b tk), 9, none⟩ = some (.map (some (L.m tk)))), b17 = b17]) [0, 1, 2, 3, 4, 5, 6, 7] [o_, ⟨[.at 2], none, none, none, none⟩, o_, o_, o_, o_, ⟨[.view 1 (.map (some (L.m tk)))], none, none, none, none⟩, o_] [0, 2, 3, 8, 11, 19, 20, 21, 79, 80, 81, 86, 87, 91, 92] (fun _ => by kernel_rfl) ⟨bq (by rw [hkt]; decide) (by rw [gV (hkt)]; rfl), rfl, trivial⟩ rfl rfl ?_
     refine aJ.dN 0 (d := (some 93)) (t := 97) (K := 9) (E := 84) (b := (L.m tk)) (cnt := (obj S.O tk).ah.length) (f := (fX L (obj S.O tk).ah)) (x := (.tmp 91)) (ix := (.tmp 92)) (key := .string (dU (obj S.O tk).ah j)) (z := .nilIface) (kl := (.string (dU (obj S.O tk).ah j).data.toList)) (q := (some (cG L ⟨ek, 1⟩))) (by kernel_rfl) (by kernel_rfl) (fun _ => by kernel_rfl) (fun _ => by kernel_rfl) v7 Tryz.underlying97 (fun _ => by kernel_rfl) (yU (by omega)) (by rw [oY, hle]; rfl) (by kernel_rfl) ?_
     refine mL [2, 13, 0] [] (cq (L.b ek)) ?_ (by rintro _ _ ⟨rfl, rfl⟩; rfl)
     rintro _ _ ⟨rfl, rfl⟩
     refine aJ.cut (ι := Unit) (fr' := fun (_ : Unit) => (je f b4 b5 b17 L tk A7 S c8 i cU dK j ++ oo Ae j ce S tk ++ [(95, vP (L.b ek))])) (hp' := fun (_ : Unit) => (mG b17 S i tk Ae j ce L b20 cU dK ++ cQ b5 An i cn K S A7 c8 b4 f m t L ++ [jd S L tk, .abs R])) [2, 13, 0] rfl rfl ?_ rfl (fun _ => by kernel_rfl) ?_
     ·refine gK 1 [(95, vP (L.b ek))] [] ?_
      refine NL ?_
      exact MD () [0, 2, 3, 8, 11, 19, 20, 21, 79, 80, 81, 86, 87, 95] [0, 1, 2, 3, 4, 5, 6, 7, 8, 9, 10, 11, 12, 13, 14, 15, 16]
     rintro _
     refine aJ.cut (ι := Unit) (fr' := fun (_ : Unit) => (je f b4 b5 b17 L tk A7 S c8 i cU dK j ++ oo Ae j ce S tk ++ [(96, vP (L.b ek))])) (hp' := fun (_ : Unit) => (mG b17 S i tk Ae j ce L b20 cU dK ++ cQ b5 An i cn K S A7 c8 b4 f m t L ++ [jd S L tk, .abs R])) [2, 13, 0] rfl rfl ?_ rfl (fun _ => by kernel_rfl) ?_
     ·refine gK 1 [(96, vP (L.b ek))] [] ?_
      refine NL ?_
      exact MD () [0, 2, 3, 8, 11, 19, 20, 21, 79, 80, 81, 86, 87, 96] [0, 1, 2, 3, 4, 5, 6, 7, 8, 9, 10, 11, 12, 13, 14, 15, 16]
     rintro _
     refine aJ.cut (ι := Unit) (fr' := fun (_ : Unit) => (je f b4 b5 b17 L tk A7 S c8 i cU dK j ++ oo Ae j ce S tk ++ [(97, vI ((obj S.O ek).id))])) (hp' := fun (_ : Unit) => (mG b17 S i tk Ae j ce L b20 cU dK ++ cQ b5 An i cn K S A7 c8 b4 f m t L ++ [jd S L tk, .abs R])) [2, 13, 0] rfl rfl ?_ rfl (fun _ => by kernel_rfl) ?_
     ·refine gK 1 [(97, vI ((obj S.O ek).id))] [(0, v_ 13 (zh L hke))] ?_
      refine NL ?_
      exact MD () [0, 2, 3, 8, 11, 19, 20, 21, 79, 80, 81, 86, 87, 97] [0, 1, 2, 3, 4, 5, 6, 7, 8, 9, 10, 11, 12, 13, 14, 15, 16]
     rintro _
     refine aJ.cut (ι := Unit) (fr' := fun (_ : Unit) => (je f b4 b5 b17 L tk A7 S c8 i cU dK j ++ [(86, .slice Ae (j) (ce)), (98, .agg #[.string (dU (obj S.O tk).ah j), vI ((obj S.O ek).id)])])) (hp' := fun (_ : Unit) => (mG b17 S i tk Ae j ce L b20 cU dK ++ cQ b5 An i cn K S A7 c8 b4 f m t L ++ [jd S L tk, .abs R])) [2, 13, 0] rfl rfl ?_ rfl (fun _ => by kernel_rfl) ?_
     ·refine gK 1 [(98, .agg #[.string (dU (obj S.O tk).ah j), vI ((obj S.O ek).id)])] [] ?_
      refine NL ?_
      exact MD () [0, 2, 3, 8, 11, 19, 20, 21, 79, 80, 81, 86, 98] [0, 1, 2, 3, 4, 5, 6, 7, 8, 9, 10, 11, 12, 13, 14, 15, 16]
     rintro _
     refine mN [2, 13, 0] (fun yj => [(99, .slice (some ⟨yj, 0, none⟩) (1) (1))]) (fun _ => []) (fun yj => .blk yj [.string (dU (obj S.O tk).ah j), vI ((obj S.O ek).id)] 101) (fun yj => ?_)
     refine aJ.cut (ι := (Option Addr) × Nat) (fr' := fun ((oA, oB) : (Option Addr) × Nat) => (je f b4 b5 b17 L tk A7 S c8 i cU dK j ++ [(100, .slice oA ((j + 1)) (oB))])) (hp' := fun ((oA, oB) : (Option Addr) × Nat) => ([lH b17 S i tk Ae j ce, zD oA j oB S tk, pZ L tk S, qV b20 L tk, qW cU S tk dK] ++ cQ b5 An i cn K S A7 c8 b4 f m t L ++ [jd S L tk, .abs R, zE yj S tk j ek])) [2, 13, 0] rfl rfl ?_ rfl (fun _ => by kernel_rfl) ?_
     ·refine ai.append 1 (d := (some 100)) (t := 68) (e := 101) (z := .agg #[.string ⟨#[]⟩, vI 0]) (size := 2) (bytes := 24) (n := j) (cap := ce) (A := Ae) (xs := (fB (((obj S.O tk).ah.take j).map (jV S.O)))) (s := (.tmp 86)) (x := (.tmp 99)) (ats := #[68, 68]) (A' := some ⟨yj, 0, none⟩) (m := 1) (c' := 1) (news := [.string (dU (obj S.O tk).ah j), vI ((obj S.O ek).id)]) (fun _ => by kernel_rfl) rfl (by kernel_rfl) (fun _ => by kernel_rfl) (fun _ => by kernel_rfl) Tryz.underlying68 (by kernel_rfl) rfl (by decide) (rfl) (by simp [Value.oneCell']) (lN (j := 17) rfl) (by unfold maxLen; omega) (by omega) (fun oA oB => ?_)
      refine ai.eT 1 (p := .abs (aF 101 2 oA (j + 1) oB ((fB (((obj S.O tk).ah.take j).map (jV S.O))) ++ [.string (dU (obj S.O tk).ah j), vI ((obj S.O ek).id)]))) (p' := .abs (aF 101 2 oA (j + 1) oB (fB (((obj S.O tk).ah.take (j + 1)).map (jV S.O))))) (by kernel_rfl) (congrArg (fun x => HP.abs (aF 101 2 _ _ _ x)) (uD hj2 GU)) ?_
      refine ai.slot 100 (.slice oA (j + 1) (oB)) (.slice oA ((j + 1)) (oB)) (fun _ => by kernel_rfl) (rfl) ?_
      refine NL ?_
      exact MD (oA, oB) [0, 2, 3, 8, 11, 19, 20, 21, 79, 80, 81, 100] [0, 1, 2, 3, 4, 5, 6, 7, 8, 9, 10, 11, 12, 13, 14, 15, 16, 17]
     rintro ⟨oA, oB⟩
     refine aJ.cut (ι := Unit) (fr' := fun (_ : Unit) => (je f b4 b5 b17 L tk A7 S c8 i cU dK j ++ [(100, .slice oA ((j + 1)) (oB)), (101, .pointer (some ⟨b17, 9, none⟩))])) (hp' := fun (_ : Unit) => ([lH b17 S i tk Ae j ce, zD oA j oB S tk, pZ L tk S, qV b20 L tk, qW cU S tk dK] ++ cQ b5 An i cn K S A7 c8 b4 f m t L ++ [jd S L tk, .abs R, zE yj S tk j ek])) [2, 13, 0] rfl rfl ?_ rfl (fun _ => by kernel_rfl) ?_
     ·refine gK 1 [(101, .pointer (some ⟨b17, 9, none⟩))] [] ?_
      refine NL ?_
      exact MD () [0, 2, 3, 8, 11, 19, 20, 21, 79, 80, 81, 100, 101] [0, 1, 2, 3, 4, 5, 6, 7, 8, 9, 10, 11, 12, 13, 14, 15, 16, 17]
     rintro _
     refine aJ.last rfl rfl ?_
     refine gC 1 [] [(0, a_ 0 b17)] [(0, [(9, .slice oA ((j + 1)) (oB))])] ?_
     refine NL (aj.np (aj.aT (NX (af.region ?_))))
     refine gK 2 [(81, vI ↑(j + 1))] [(0, p_ ⟨[], none, none, none, some (vI ↑(j + 1))⟩ [(Value.int .i64 (IntKind.wrap .i64 (((j : Nat) : Int) + 1))) = (vI ↑(j + 1))] ⟨bJ (by omega) (by omega) (by omega), trivial⟩)] ?_
     refine NL ?_
     exact aj.turn ((j + 1), oA, oB) (idx := [0, 2, 3, 8, 11, 19, 20, 21, 79, 80, 81]) (pk := [0, 1, 2, 3, 4, 5, 6, 7, 8, 9, 10, 11, 12, 13, 14, 15, 16]) (show (((j + 1)) ≤ (obj S.O tk).ah.length) from (by omega)) (by show (obj S.O tk).ah.length - ((j + 1)) < (obj S.O tk).ah.length - j; omega) (fun _ => by kernel_rfl) rfl (by kernel_rfl)
    ·have hke : (obj S.O ek).kind = 2 := hI.kind wE
     refine af.bZ (S := [pZ L tk S, pO S.O L, lH b17 S i tk Ae j ce]) [0, 1, 2, 3, 4, 5, 6, 7, 8, 9, 10, 11, 12, 13, 14, 15, 16, 17] 9 [2, 13, 0] (by kernel_rfl) (by kernel_rfl) rfl (by kernel_rfl) ?_
     refine aJ.reads (r := 1) (l := [8, 9, 10, 11, 12, 13, 14, 15, 16, 17]) (fr' := (je f b4 b5 b17 L tk A7 S c8 i cU dK j ++ oo Ae j ce S tk ++ [(91, .map (some (L.m tk))), (92, .string (dU (obj S.O tk).ah j))])) (aq := [(∀ F w, (ak (aQ S.O L)).h F w → w.cell? ⟨(L.b tk), 9, none⟩ = some (.map (some (L.m tk)))), b17 = b17]) [0, 1, 2, 3, 4, 5, 6, 7] [o_, ⟨[.at 2], none, none, none, none⟩, o_, o_, o_, o_, ⟨[.view 1 (.map (some (L.m tk)))], none, none, none, none⟩, o_] [0, 2, 3, 8, 11, 19, 20, 21, 79, 80, 81, 86, 87, 91, 92] (fun _ => by kernel_rfl) ⟨bq (by rw [hkt]; decide) (by rw [gV (hkt)]; rfl), rfl, trivial⟩ rfl rfl ?_
     refine aJ.dN 0 (d := (some 93)) (t := 97) (K := 9) (E := 84) (b := (L.m tk)) (cnt := (obj S.O tk).ah.length) (f := (fX L (obj S.O tk).ah)) (x := (.tmp 91)) (ix := (.tmp 92)) (key := .string (dU (obj S.O tk).ah j)) (z := .nilIface) (kl := (.string (dU (obj S.O tk).ah j).data.toList)) (q := (some (cG L ⟨ek, 2⟩))) (by kernel_rfl) (by kernel_rfl) (fun _ => by kernel_rfl) (fun _ => by kernel_rfl) v7 Tryz.underlying97 (fun _ => by kernel_rfl) (yU (by omega)) (by rw [oY, hle]; rfl) (by kernel_rfl) ?_
     refine mL [2, 13, 0] [] (cq (L.b ek)) ?_ (by rintro _ _ ⟨rfl, rfl⟩; rfl)
     rintro _ _ ⟨rfl, rfl⟩
     refine aJ.cut (ι := Unit) (fr' := fun (_ : Unit) => (je f b4 b5 b17 L tk A7 S c8 i cU dK j ++ oo Ae j ce S tk ++ [(95, vP (L.b ek))])) (hp' := fun (_ : Unit) => (mG b17 S i tk Ae j ce L b20 cU dK ++ cQ b5 An i cn K S A7 c8 b4 f m t L ++ [jd S L tk, .abs R])) [2, 13, 0] rfl rfl ?_ rfl (fun _ => by kernel_rfl) ?_
     ·refine gK 1 [(95, vP (L.b ek))] [] ?_
      refine NL ?_
      exact MD () [0, 2, 3, 8, 11, 19, 20, 21, 79, 80, 81, 86, 87, 95] [0, 1, 2, 3, 4, 5, 6, 7, 8, 9, 10, 11, 12, 13, 14, 15, 16]
     rintro _
     refine aJ.cut (ι := Unit) (fr' := fun (_ : Unit) => (je f b4 b5 b17 L tk A7 S c8 i cU dK j ++ oo Ae j ce S tk ++ [(96, vP (L.b ek))])) (hp' := fun (_ : Unit) => (mG b17 S i tk Ae j ce L b20 cU dK ++ cQ b5 An i cn K S A7 c8 b4 f m t L ++ [jd S L tk, .abs R])) [2, 13, 0] rfl rfl ?_ rfl (fun _ => by kernel_rfl) ?_
     ·refine gK 1 [(96, vP (L.b ek))] [] ?_
      refine NL ?_
      exact MD () [0, 2, 3, 8, 11, 19, 20, 21, 79, 80, 81, 86, 87, 96] [0, 1, 2, 3, 4, 5, 6, 7, 8, 9, 10, 11, 12, 13, 14, 15, 16]
     rintro _
     refine aJ.cut (ι := Unit) (fr' := fun (_ : Unit) => (je f b4 b5 b17 L tk A7 S c8 i cU dK j ++ oo Ae j ce S tk ++ [(97, vI ((obj S.O ek).id))])) (hp' := fun (_ : Unit) => (mG b17 S i tk Ae j ce L b20 cU dK ++ cQ b5 An i cn K S A7 c8 b4 f m t L ++ [jd S L tk, .abs R])) [2, 13, 0] rfl rfl ?_ rfl (fun _ => by kernel_rfl) ?_
     ·refine gK 1 [(97, vI ((obj S.O ek).id))] [(0, v_ 13 (zh L hke))] ?_
      refine NL ?_
      exact MD () [0, 2, 3, 8, 11, 19, 20, 21, 79, 80, 81, 86, 87, 97] [0, 1, 2, 3, 4, 5, 6, 7, 8, 9, 10, 11, 12, 13, 14, 15, 16]
     rintro _
     refine aJ.cut (ι := Unit) (fr' := fun (_ : Unit) => (je f b4 b5 b17 L tk A7 S c8 i cU dK j ++ [(86, .slice Ae (j) (ce)), (98, .agg #[.string (dU (obj S.O tk).ah j), vI ((obj S.O ek).id)])])) (hp' := fun (_ : Unit) => (mG b17 S i tk Ae j ce L b20 cU dK ++ cQ b5 An i cn K S A7 c8 b4 f m t L ++ [jd S L tk, .abs R])) [2, 13, 0] rfl rfl ?_ rfl (fun _ => by kernel_rfl) ?_
     ·refine gK 1 [(98, .agg #[.string (dU (obj S.O tk).ah j), vI ((obj S.O ek).id)])] [] ?_
      refine NL ?_
      exact MD () [0, 2, 3, 8, 11, 19, 20, 21, 79, 80, 81, 86, 98] [0, 1, 2, 3, 4, 5, 6, 7, 8, 9, 10, 11, 12, 13, 14, 15, 16]
     rintro _
     refine mN [2, 13, 0] (fun CO => [(99, .slice (some ⟨CO, 0, none⟩) (1) (1))]) (fun _ => []) (fun CO => .blk CO [.string (dU (obj S.O tk).ah j), vI ((obj S.O ek).id)] 101) (fun CO => ?_)
     refine aJ.cut (ι := (Option Addr) × Nat) (fr' := fun ((qJ, qK) : (Option Addr) × Nat) => (je f b4 b5 b17 L tk A7 S c8 i cU dK j ++ [(100, .slice qJ ((j + 1)) (qK))])) (hp' := fun ((qJ, qK) : (Option Addr) × Nat) => ([lH b17 S i tk Ae j ce, zD qJ j qK S tk, pZ L tk S, qV b20 L tk, qW cU S tk dK] ++ cQ b5 An i cn K S A7 c8 b4 f m t L ++ [jd S L tk, .abs R, zE CO S tk j ek])) [2, 13, 0] rfl rfl ?_ rfl (fun _ => by kernel_rfl) ?_
     ·refine ai.append 1 (d := (some 100)) (t := 68) (e := 101) (z := .agg #[.string ⟨#[]⟩, vI 0]) (size := 2) (bytes := 24) (n := j) (cap := ce) (A := Ae) (xs := (fB (((obj S.O tk).ah.take j).map (jV S.O)))) (s := (.tmp 86)) (x := (.tmp 99)) (ats := #[68, 68]) (A' := some ⟨CO, 0, none⟩) (m := 1) (c' := 1) (news := [.string (dU (obj S.O tk).ah j), vI ((obj S.O ek).id)]) (fun _ => by kernel_rfl) rfl (by kernel_rfl) (fun _ => by kernel_rfl) (fun _ => by kernel_rfl) Tryz.underlying68 (by kernel_rfl) rfl (by decide) (rfl) (by simp [Value.oneCell']) (lN (j := 17) rfl) (by unfold maxLen; omega) (by omega) (fun qJ qK => ?_)
      refine ai.eT 1 (p := .abs (aF 101 2 qJ (j + 1) qK ((fB (((obj S.O tk).ah.take j).map (jV S.O))) ++ [.string (dU (obj S.O tk).ah j), vI ((obj S.O ek).id)]))) (p' := .abs (aF 101 2 qJ (j + 1) qK (fB (((obj S.O tk).ah.take (j + 1)).map (jV S.O))))) (by kernel_rfl) (congrArg (fun x => HP.abs (aF 101 2 _ _ _ x)) (uD hj2 GU)) ?_
      refine ai.slot 100 (.slice qJ (j + 1) (qK)) (.slice qJ ((j + 1)) (qK)) (fun _ => by kernel_rfl) (rfl) ?_
      refine NL ?_
      exact MD (qJ, qK) [0, 2, 3, 8, 11, 19, 20, 21, 79, 80, 81, 100] [0, 1, 2, 3, 4, 5, 6, 7, 8, 9, 10, 11, 12, 13, 14, 15, 16, 17]
     rintro ⟨qJ, qK⟩
     refine aJ.cut (ι := Unit) (fr' := fun (_ : Unit) => (je f b4 b5 b17 L tk A7 S c8 i cU dK j ++ [(100, .slice qJ ((j + 1)) (qK)), (101, .pointer (some ⟨b17, 9, none⟩))])) (hp' := fun (_ : Unit) => ([lH b17 S i tk Ae j ce, zD qJ j qK S tk, pZ L tk S, qV b20 L tk, qW cU S tk dK] ++ cQ b5 An i cn K S A7 c8 b4 f m t L ++ [jd S L tk, .abs R, zE CO S tk j ek])) [2, 13, 0] rfl rfl ?_ rfl (fun _ => by kernel_rfl) ?_
     ·refine gK 1 [(101, .pointer (some ⟨b17, 9, none⟩))] [] ?_
      refine NL ?_
      exact MD () [0, 2, 3, 8, 11, 19, 20, 21, 79, 80, 81, 100, 101] [0, 1, 2, 3, 4, 5, 6, 7, 8, 9, 10, 11, 12, 13, 14, 15, 16, 17]
     rintro _
     refine aJ.last rfl rfl ?_
     refine gC 1 [] [(0, a_ 0 b17)] [(0, [(9, .slice qJ ((j + 1)) (qK))])] ?_
     refine NL (aj.np (aj.aT (NX (af.region ?_))))
     refine gK 2 [(81, vI ↑(j + 1))] [(0, p_ ⟨[], none, none, none, some (vI ↑(j + 1))⟩ [(Value.int .i64 (IntKind.wrap .i64 (((j : Nat) : Int) + 1))) = (vI ↑(j + 1))] ⟨bJ (by omega) (by omega) (by omega), trivial⟩)] ?_
     refine NL ?_
     exact aj.turn ((j + 1), qJ, qK) (idx := [0, 2, 3, 8, 11, 19, 20, 21, 79, 80, 81]) (pk := [0, 1, 2, 3, 4, 5, 6, 7, 8, 9, 10, 11, 12, 13, 14, 15, 16]) (show (((j + 1)) ≤ (obj S.O tk).ah.length) from (by omega)) (by show (obj S.O tk).ah.length - ((j + 1)) < (obj S.O tk).ah.length - j; omega) (fun _ => by kernel_rfl) rfl (by kernel_rfl)
    have hke : (obj S.O ek).kind = 3 := hI.kind wE
    refine af.bZ (S := [pZ L tk S, pO S.O L, lH b17 S i tk Ae j ce]) [0, 1, 2, 3, 4, 5, 6, 7, 8, 9, 10, 11, 12, 13, 14, 15, 16, 17] 9 [2, 13, 0] (by kernel_rfl) (by kernel_rfl) rfl (by kernel_rfl) ?_
    refine aJ.reads (r := 1) (l := [8, 9, 10, 11, 12, 13, 14, 15, 16, 17]) (fr' := (je f b4 b5 b17 L tk A7 S c8 i cU dK j ++ oo Ae j ce S tk ++ [(91, .map (some (L.m tk))), (92, .string (dU (obj S.O tk).ah j))])) (aq := [(∀ F w, (ak (aQ S.O L)).h F w → w.cell? ⟨(L.b tk), 9, none⟩ = some (.map (some (L.m tk)))), b17 = b17]) [0, 1, 2, 3, 4, 5, 6, 7] [o_, ⟨[.at 2], none, none, none, none⟩, o_, o_, o_, o_, ⟨[.view 1 (.map (some (L.m tk)))], none, none, none, none⟩, o_] [0, 2, 3, 8, 11, 19, 20, 21, 79, 80, 81, 86, 87, 91, 92] (fun _ => by kernel_rfl) ⟨bq (by rw [hkt]; decide) (by rw [gV (hkt)]; rfl), rfl, trivial⟩ rfl rfl ?_
    refine aJ.dN 0 (d := (some 93)) (t := 97) (K := 9) (E := 84) (b := (L.m tk)) (cnt := (obj S.O tk).ah.length) (f := (fX L (obj S.O tk).ah)) (x := (.tmp 91)) (ix := (.tmp 92)) (key := .string (dU (obj S.O tk).ah j)) (z := .nilIface) (kl := (.string (dU (obj S.O tk).ah j).data.toList)) (q := (some (cG L ⟨ek, 3⟩))) (by kernel_rfl) (by kernel_rfl) (fun _ => by kernel_rfl) (fun _ => by kernel_rfl) v7 Tryz.underlying97 (fun _ => by kernel_rfl) (yU (by omega)) (by rw [oY, hle]; rfl) (by kernel_rfl) ?_
    refine mL [2, 13, 0] [] (cq (L.b ek)) ?_ (by rintro _ _ ⟨rfl, rfl⟩; rfl)
    rintro _ _ ⟨rfl, rfl⟩
    refine aJ.cut (ι := Unit) (fr' := fun (_ : Unit) => (je f b4 b5 b17 L tk A7 S c8 i cU dK j ++ oo Ae j ce S tk ++ [(95, vP (L.b ek))])) (hp' := fun (_ : Unit) => (mG b17 S i tk Ae j ce L b20 cU dK ++ cQ b5 An i cn K S A7 c8 b4 f m t L ++ [jd S L tk, .abs R])) [2, 13, 0] rfl rfl ?_ rfl (fun _ => by kernel_rfl) ?_
    ·refine gK 1 [(95, vP (L.b ek))] [] ?_
     refine NL ?_
     exact MD () [0, 2, 3, 8, 11, 19, 20, 21, 79, 80, 81, 86, 87, 95] [0, 1, 2, 3, 4, 5, 6, 7, 8, 9, 10, 11, 12, 13, 14, 15, 16]
    rintro _
    refine aJ.cut (ι := Unit) (fr' := fun (_ : Unit) => (je f b4 b5 b17 L tk A7 S c8 i cU dK j ++ oo Ae j ce S tk ++ [(96, vP (L.b ek))])) (hp' := fun (_ : Unit) => (mG b17 S i tk Ae j ce L b20 cU dK ++ cQ b5 An i cn K S A7 c8 b4 f m t L ++ [jd S L tk, .abs R])) [2, 13, 0] rfl rfl ?_ rfl (fun _ => by kernel_rfl) ?_
    ·refine gK 1 [(96, vP (L.b ek))] [] ?_
     refine NL ?_
     exact MD () [0, 2, 3, 8, 11, 19, 20, 21, 79, 80, 81, 86, 87, 96] [0, 1, 2, 3, 4, 5, 6, 7, 8, 9, 10, 11, 12, 13, 14, 15, 16]
    rintro _
    refine aJ.cut (ι := Unit) (fr' := fun (_ : Unit) => (je f b4 b5 b17 L tk A7 S c8 i cU dK j ++ oo Ae j ce S tk ++ [(97, vI ((obj S.O ek).id))])) (hp' := fun (_ : Unit) => (mG b17 S i tk Ae j ce L b20 cU dK ++ cQ b5 An i cn K S A7 c8 b4 f m t L ++ [jd S L tk, .abs R])) [2, 13, 0] rfl rfl ?_ rfl (fun _ => by kernel_rfl) ?_
    ·refine gK 1 [(97, vI ((obj S.O ek).id))] [(0, v_ 13 (zh L hke))] ?_
     refine NL ?_
     exact MD () [0, 2, 3, 8, 11, 19, 20, 21, 79, 80, 81, 86, 87, 97] [0, 1, 2, 3, 4, 5, 6, 7, 8, 9, 10, 11, 12, 13, 14, 15, 16]
    rintro _
    refine aJ.cut (ι := Unit) (fr' := fun (_ : Unit) => (je f b4 b5 b17 L tk A7 S c8 i cU dK j ++ [(86, .slice Ae (j) (ce)), (98, .agg #[.string (dU (obj S.O tk).ah j), vI ((obj S.O ek).id)])])) (hp' := fun (_ : Unit) => (mG b17 S i tk Ae j ce L b20 cU dK ++ cQ b5 An i cn K S A7 c8 b4 f m t L ++ [jd S L tk, .abs R])) [2, 13, 0] rfl rfl ?_ rfl (fun _ => by kernel_rfl) ?_
    ·refine gK 1 [(98, .agg #[.string (dU (obj S.O tk).ah j), vI ((obj S.O ek).id)])] [] ?_
     refine NL ?_
     exact MD () [0, 2, 3, 8, 11, 19, 20, 21, 79, 80, 81, 86, 98] [0, 1, 2, 3, 4, 5, 6, 7, 8, 9, 10, 11, 12, 13, 14, 15, 16]
    rintro _
    refine mN [2, 13, 0] (fun CP => [(99, .slice (some ⟨CP, 0, none⟩) (1) (1))]) (fun _ => []) (fun CP => .blk CP [.string (dU (obj S.O tk).ah j), vI ((obj S.O ek).id)] 101) (fun CP => ?_)
    refine aJ.cut (ι := (Option Addr) × Nat) (fr' := fun ((qL, qM) : (Option Addr) × Nat) => (je f b4 b5 b17 L tk A7 S c8 i cU dK j ++ [(100, .slice qL ((j + 1)) (qM))])) (hp' := fun ((qL, qM) : (Option Addr) × Nat) => ([lH b17 S i tk Ae j ce, zD qL j qM S tk, pZ L tk S, qV b20 L tk, qW cU S tk dK] ++ cQ b5 An i cn K S A7 c8 b4 f m t L ++ [jd S L tk, .abs R, zE CP S tk j ek])) [2, 13, 0] rfl rfl ?_ rfl (fun _ => by kernel_rfl) ?_
    ·refine ai.append 1 (d := (some 100)) (t := 68) (e := 101) (z := .agg #[.string ⟨#[]⟩, vI 0]) (size := 2) (bytes := 24) (n := j) (cap := ce) (A := Ae) (xs := (fB (((obj S.O tk).ah.take j).map (jV S.O)))) (s := (.tmp 86)) (x := (.tmp 99)) (ats := #[68, 68]) (A' := some ⟨CP, 0, none⟩) (m := 1) (c' := 1) (news := [.string (dU (obj S.O tk).ah j), vI ((obj S.O ek).id)]) (fun _ => by kernel_rfl) rfl (by kernel_rfl) (fun _ => by kernel_rfl) (fun _ => by kernel_rfl) Tryz.underlying68 (by kernel_rfl) rfl (by decide) (rfl) (by simp [Value.oneCell']) (lN (j := 17) rfl) (by unfold maxLen; omega) (by omega) (fun qL qM => ?_)
     refine ai.eT 1 (p := .abs (aF 101 2 qL (j + 1) qM ((fB (((obj S.O tk).ah.take j).map (jV S.O))) ++ [.string (dU (obj S.O tk).ah j), vI ((obj S.O ek).id)]))) (p' := .abs (aF 101 2 qL (j + 1) qM (fB (((obj S.O tk).ah.take (j + 1)).map (jV S.O))))) (by kernel_rfl) (congrArg (fun x => HP.abs (aF 101 2 _ _ _ x)) (uD hj2 GU)) ?_
     refine ai.slot 100 (.slice qL (j + 1) (qM)) (.slice qL ((j + 1)) (qM)) (fun _ => by kernel_rfl) (rfl) ?_
     refine NL ?_
     exact MD (qL, qM) [0, 2, 3, 8, 11, 19, 20, 21, 79, 80, 81, 100] [0, 1, 2, 3, 4, 5, 6, 7, 8, 9, 10, 11, 12, 13, 14, 15, 16, 17]
    rintro ⟨qL, qM⟩
    refine aJ.cut (ι := Unit) (fr' := fun (_ : Unit) => (je f b4 b5 b17 L tk A7 S c8 i cU dK j ++ [(100, .slice qL ((j + 1)) (qM)), (101, .pointer (some ⟨b17, 9, none⟩))])) (hp' := fun (_ : Unit) => ([lH b17 S i tk Ae j ce, zD qL j qM S tk, pZ L tk S, qV b20 L tk, qW cU S tk dK] ++ cQ b5 An i cn K S A7 c8 b4 f m t L ++ [jd S L tk, .abs R, zE CP S tk j ek])) [2, 13, 0] rfl rfl ?_ rfl (fun _ => by kernel_rfl) ?_
    ·refine gK 1 [(101, .pointer (some ⟨b17, 9, none⟩))] [] ?_
     refine NL ?_
     exact MD () [0, 2, 3, 8, 11, 19, 20, 21, 79, 80, 81, 100, 101] [0, 1, 2, 3, 4, 5, 6, 7, 8, 9, 10, 11, 12, 13, 14, 15, 16, 17]
    rintro _
    refine aJ.last rfl rfl ?_
    refine gC 1 [] [(0, a_ 0 b17)] [(0, [(9, .slice qL ((j + 1)) (qM))])] ?_
    refine NL (aj.np (aj.aT (NX (af.region ?_))))
    refine gK 2 [(81, vI ↑(j + 1))] [(0, p_ ⟨[], none, none, none, some (vI ↑(j + 1))⟩ [(Value.int .i64 (IntKind.wrap .i64 (((j : Nat) : Int) + 1))) = (vI ↑(j + 1))] ⟨bJ (by omega) (by omega) (by omega), trivial⟩)] ?_
    refine NL ?_
    exact aj.turn ((j + 1), qL, qM) (idx := [0, 2, 3, 8, 11, 19, 20, 21, 79, 80, 81]) (pk := [0, 1, 2, 3, 4, 5, 6, 7, 8, 9, 10, 11, 12, 13, 14, 15, 16]) (show (((j + 1)) ≤ (obj S.O tk).ah.length) from (by omega)) (by show (obj S.O tk).ah.length - ((j + 1)) < (obj S.O tk).ah.length - j; omega) (fun _ => by kernel_rfl) rfl (by kernel_rfl)
   refine af.exit (aj.bg (aj.bg (aj.cA (aj.aT (NX (af.region ?_))))))
   have hjl : j = (obj S.O tk).ah.length := by omega
   refine ai.mem (aL := ([pE S.O L, lH b17 S i tk Ae j ce, E9 Ae j ce S tk, qV b20 L tk, qW cU S tk dK] ++ cQ b5 An i cn K S A7 c8 b4 f m t L ++ [.abs R])) (fun w hS => hS.La (i := 15) (j := 2) (idx := [0, 1, 3, 4, 5, 6, 7, 8, 9, 10, 11, 12, 13, 14, 16]) (k := tk) rfl rfl (by kernel_rfl) rfl (hkt)) ?_
   refine gN 4 (fun b32 => [(104, .slice An (i) (cn)), (106, .slice (some ⟨b32, 0, none⟩) (1) (1))]) (fun b32 => [(1, a_ 5 b5), (2, A_ 1 b17 10)]) (fun _ => []) (fun b32 => .blk b32 [vI ((bY S i)), vI 2, vI ((obj S.O tk).mode), vI ((obj S.O tk).uid), vI ((obj S.O tk).gid), vI ((obj S.O tk).sec), vI ((obj S.O tk).nano), .slice none (0) (0), .string ⟨#[]⟩, .slice Ae (j) (ce)] 70) (fun b32 => ?_)
   refine ai.append 6 (d := (some 107)) (t := 22) (e := 70) (z := .agg #[vI 0, vI 0, vI 0, vI 0, vI 0, vI 0, vI 0, .slice none (0) (0), .string ⟨#[]⟩, .slice none (0) (0)]) (size := 10) (bytes := 120) (n := i) (cap := cn) (A := An) (xs := (bV K ((aM S).take i))) (s := (.tmp 104)) (x := (.tmp 106)) (ats := #[22, 22]) (A' := some ⟨b32, 0, none⟩) (m := 1) (c' := 1) (news := [vI ((bY S i)), vI 2, vI ((obj S.O tk).mode), vI ((obj S.O tk).uid), vI ((obj S.O tk).gid), vI ((obj S.O tk).sec), vI ((obj S.O tk).nano), .slice none (0) (0), .string ⟨#[]⟩, .slice Ae (j) (ce)]) (fun _ => by kernel_rfl) rfl (by kernel_rfl) (fun _ => by kernel_rfl) (fun _ => by kernel_rfl) Tryz.underlying22 (by kernel_rfl) rfl (by decide) (rfl) (by simp [Value.oneCell']) (lN (j := 16) rfl) (by unfold maxLen; omega) (by omega) (fun s5 tf => ?_)
   refine ai.eT 6 (p := .abs (aF 70 10 s5 (i + 1) tf ((bV K ((aM S).take i)) ++ [vI ((bY S i)), vI 2, vI ((obj S.O tk).mode), vI ((obj S.O tk).uid), vI ((obj S.O tk).gid), vI ((obj S.O tk).sec), vI ((obj S.O tk).nano), .slice none (0) (0), .string ⟨#[]⟩, .slice Ae (j) (ce)]))) (p' := .abs (aF 70 10 s5 (i + 1) tf (bV (K.put i none 0 Ae ce) ((aM S).take (i + 1))))) (by kernel_rfl) (congrArg (fun x => HP.abs (aF 70 10 _ _ _ x)) (sE (cP (by omega)) (pX hI.toInv0 hi2 jA hlv) rfl (by show ((obj S.O tk).ah.map (jV S.O)).length = j; rw [List.length_map, hjl]))) ?_
   refine ai.slot 107 (.slice s5 (i + 1) (tf)) (.slice s5 ((i + 1)) (tf)) (fun _ => by kernel_rfl) (rfl) ?_
   refine gC 2 [] [(1, a_ 5 b5)] [(5, [(0, .slice s5 ((i + 1)) (tf))])] ?_
   refine NL (aj.aT (NX (af.region ?_)))
   refine gK 2 [(21, vI ↑(i + 1))] [(0, p_ ⟨[], none, none, none, some (vI ↑(i + 1))⟩ [(Value.int .i64 (IntKind.wrap .i64 (((i : Nat) : Int) + 1))) = (vI ↑(i + 1))] ⟨bJ (by omega) (by omega) (by omega), trivial⟩)] ?_
   refine NL ?_
   refine aj.mem (aL := ([pE S.O L, lH b17 S i tk Ae j ce, E9 Ae j ce S tk, qV b20 L tk, qW cU S tk dK, sG b5 s5 i tf, .abs (aF 70 10 s5 (i + 1) tf (bV (K.put i none 0 Ae ce) ((aM S).take (i + 1)))), vH S i K, CK S i K] ++ p4 A7 S c8 b4 f m t L ++ [pD S.O L, .abs R, lH b32 S i tk Ae j ce, JX])) (fun w hS => hS.jL (e := 5) (size := 1)) ?_
   refine aj.mem (aL := ([.abs (dL (fY ((aM S).take (i + 1)) (K.put i none 0 Ae ce)) (i + 1)), pE S.O L, lH b17 S i tk Ae j ce, E9 Ae j ce S tk, qV b20 L tk, qW cU S tk dK, sG b5 s5 i tf, .abs (aF 70 10 s5 (i + 1) tf (bV (K.put i none 0 Ae ce) ((aM S).take (i + 1)))), vH S i K] ++ p4 A7 S c8 b4 f m t L ++ [pD S.O L, .abs R, lH b32 S i tk Ae j ce])) (fun w hS => hS.oW (R' := (fY ((aM S).take (i + 1)) (K.put i none 0 Ae ce))) (i := 8) (j := 17) (idx := [0, 1, 2, 3, 4, 5, 6, 7, 9, 10, 11, 12, 13, 14, 15, 16]) rfl rfl (by kernel_rfl) rfl (wF (cP (by omega)) (pX hI.toInv0 hi2 jA hlv)) (uy (cP (by omega)) (pX hI.toInv0 hi2 jA hlv) rfl)) ?_
   refine aj.mem (aL := [.abs (dL (gJ ((aM S).take (i + 1)) (K.put i none 0 Ae ce)) (i + 1)), .abs (dL (fY ((aM S).take (i + 1)) (K.put i none 0 Ae ce)) (i + 1)), .abs (ak (bh S.O L)), .blk b17 [vI ((bY S i)), vI 2, vI ((obj S.O tk).mode), vI ((obj S.O tk).uid), vI ((obj S.O tk).gid), vI ((obj S.O tk).sec), vI ((obj S.O tk).nano), .slice none (0) (0), .string ⟨#[]⟩, .slice Ae (j) (ce)] 70, .blk b20 [.map (some (L.m tk))] 97, .abs (aF 9 1 cU ((obj S.O tk).ah.length) dK (mE (obj S.O tk).ah)), .blk b5 [.slice s5 ((i + 1)) (tf)] 24, .abs (aF 70 10 s5 (i + 1) tf (bV (K.put i none 0 Ae ce) ((aM S).take (i + 1)))), .abs (aF 3 1 A7 ((keys S.idx).length) c8 (ints (keys S.idx))), .blk b4 [.slice none (0) (0)] 24, .blk f [vI (S.X.cN), vI (S.X.cB), vI (S.X.cH), vI (S.X.cS), vI (S.X.cZ), .map (some m), vP t, vI (S.X.last), vI (S.X.ah), vI (S.X.used)] 86, .abs (aH Tryz.prog 3 m (aP (aK L S.idx)) S.idx.length), .abs (ak (aQ S.O L)), .abs (ak (aW S.O L)), .abs R, .blk b32 [vI ((bY S i)), vI 2, vI ((obj S.O tk).mode), vI ((obj S.O tk).uid), vI ((obj S.O tk).gid), vI ((obj S.O tk).sec), vI ((obj S.O tk).nano), .slice none (0) (0), .string ⟨#[]⟩, .slice Ae (j) (ce)] 70]) (fun w hS => hS.oW (R' := (gJ ((aM S).take (i + 1)) (K.put i none 0 Ae ce))) (i := 8) (j := 3) (idx := [0, 1, 2, 4, 5, 6, 7, 9, 10, 11, 12, 13, 14, 15, 16]) rfl rfl (by kernel_rfl) rfl (wG (cP (by omega)) (pX hI.toInv0 hi2 jA hlv)) ((uz (cP (by omega)) (pX hI.toInv0 hi2 jA hlv) (by show ((obj S.O tk).ah.map (jV S.O)).length = j; rw [List.length_map, hjl])).trans (by rw [hjl, List.take_length]))) ?_
   exact aj.turn ((i + 1), s5, tf, (K.put i none 0 Ae ce)) (idx := [0, 2, 3, 19, 20, 21]) (pk := [6, 7, 0, 1, 8, 9, 10, 11, 12, 13, 2, 14]) (show (((i + 1)) ≤ S.idx.length) from (by omega)) (by show S.idx.length - ((i + 1)) < S.idx.length - i; omega) (fun _ => by kernel_rfl) rfl (by kernel_rfl)
  have hkt : (obj S.O tk).kind = 3 := hI.kind hlv
  have hel : (obj S.O tk).ah.length ≤ 8192 := hI.eS hlv
  have hdl : (obj S.O tk).data.length ≤ 140737488355328 := hI.Er hlv
  refine af.region ?_
  refine gK 5 [(28, .map (some m)), (29, vI ((bY S i)))] [(3, a_ 6 f)] ?_
  refine ai.dN 7 (d := (some 30)) (t := 80) (K := 3) (E := 84) (b := m) (n := S.idx.length) (f := (aP (aK L S.idx))) (x := (.tmp 28)) (ix := (.tmp 29)) (key := vI ((bY S i))) (z := .nilIface) (kl := (.int .i64 (bY S i))) (r := (some (cG L ⟨tk, 3⟩))) (fun _ => by kernel_rfl) (by kernel_rfl) (fun _ => by kernel_rfl) (fun _ => by kernel_rfl) dz Tryz.underlying80 (fun _ => by kernel_rfl) (gX (zB hI.toInv0 hi2)) (by rw [dO, hget, jA]; rfl) ?_
  refine gK 1 [(6, .iface 93 (vP (L.b tk)))] [] ?_
  refine NS ?_
  refine gK 1 [(31, .iface 93 (vP (L.b tk)))] [] ?_
  refine gL [] (cq (L.b tk)) ?_
  rintro _ _ ⟨rfl, rfl⟩
  refine gK 1 [(7, vP (L.b tk))] [] ?_
  refine NN (af.seq ?_)
  refine af.oU (S := [pO S.O L]) [0, 1, 3, 4, 5, 6, 7, 8, 9, 10, 11, 12, 13, 14, 15, 16, 17, 18] [.three 2 19 20, .one 21] [8] (by kernel_rfl) (by kernel_rfl) rfl (by kernel_rfl) ?_
  refine fS.reads (rs := []) (fr' := ([(0, vP f), (2, vP b4), (3, vP b5), (6, .iface 93 (vP (L.b tk)))] ++ zF A7 S c8 i ++ [(33, vI (bY S i)), (34, .iface 93 (vP (L.b tk)))] ++ I6 S tk)) (aq := [(∀ F w, (ak (aQ S.O L)).h F w → w.cell? ⟨(L.b tk), 5, none⟩ = some (vI ((obj S.O tk).nano))), (∀ F w, (ak (aQ S.O L)).h F w → w.cell? ⟨(L.b tk), 4, none⟩ = some (vI ((obj S.O tk).sec))), (∀ F w, (ak (aQ S.O L)).h F w → w.cell? ⟨(L.b tk), 3, none⟩ = some (vI ((obj S.O tk).gid))), (∀ F w, (ak (aQ S.O L)).h F w → w.cell? ⟨(L.b tk), 2, none⟩ = some (vI ((obj S.O tk).uid))), (∀ F w, (ak (aQ S.O L)).h F w → w.cell? ⟨(L.b tk), 1, none⟩ = some (vI ((obj S.O tk).mode)))]) [0, 1, 3, 4, 5, 6, 7, 8, 9, 10, 11, 12, 13, 14, 15, 16, 17, 18] [o_, o_, o_, o_, o_, ⟨[.view 0 (vI ((obj S.O tk).mode))], none, none, none, none⟩, o_, o_, o_, ⟨[.view 0 (vI ((obj S.O tk).uid))], none, none, none, none⟩, o_, o_, o_, ⟨[.view 0 (vI ((obj S.O tk).gid))], none, none, none, none⟩, o_, o_, o_, ⟨[.view 0 (vI ((obj S.O tk).sec)), .view 0 (vI ((obj S.O tk).nano))], none, none, none, none⟩] [0, 2, 3, 6, 19, 20, 21, 33, 34, 39, 43, 47, 51] (fun _ => by kernel_rfl) ⟨bq (by rw [hkt]; decide) (rfl), bq (by rw [hkt]; decide) (rfl), bq (by rw [hkt]; decide) (rfl), bq (by rw [hkt]; decide) (rfl), bq (by rw [hkt]; decide) (rfl), trivial⟩ ?_
  refine fS.three (ι := Nat) (fa := fun (_ : Unit) => (fZ f b4 b5 ++ [(6, .iface 93 (vP (L.b tk)))] ++ qX A7 S c8 i ++ [(33, vI ((bY S i))), (35, vI 3)] ++ jf S tk)) (ha := fun (_ : Unit) => (cQ b5 An i cn K S A7 c8 b4 f m t L ++ [pE S.O L, .abs R])) (GN := Unit) (fb := fun (_ : Unit) => (fZ f b4 b5 ++ [(6, .iface 93 (vP (L.b tk)))] ++ qX A7 S c8 i ++ [(52, .agg #[vI ((bY S i)), vI 3, vI ((obj S.O tk).mode), vI ((obj S.O tk).uid), vI ((obj S.O tk).gid), vI ((obj S.O tk).sec), vI ((obj S.O tk).nano), .slice none (0) (0), .string ⟨#[]⟩, .slice none (0) (0)])])) (hb := fun (_ : Unit) => (cQ b5 An i cn K S A7 c8 b4 f m t L ++ [pE S.O L, .abs R])) (GP := Unit) (fc := fun (gF : Nat) => (fZ f b4 b5 ++ [(6, .iface 93 (vP (L.b tk)))] ++ jX gF A7 S c8 i ++ [(35, vI 3)] ++ jf S tk)) (hc := fun (gF : Nat) => (cQ b5 An i cn K S A7 c8 b4 f m t L ++ [pE S.O L, .abs R, kW gF])) (GQ := Nat) (fd := fun (kX : Nat) => (fZ f b4 b5 ++ [(6, .iface 93 (vP (L.b tk)))] ++ jX kX A7 S c8 i ++ [(34, .iface 93 (vP (L.b tk)))] ++ jf S tk)) (hd := fun (kX : Nat) => (cQ b5 An i cn K S A7 c8 b4 f m t L ++ [pE S.O L, .abs R, kW kX])) (GR := Nat) (fe := fun (kX : Nat) => (fZ f b4 b5 ++ [(6, .iface 93 (vP (L.b tk)))] ++ jX kX A7 S c8 i ++ [(35, vI 3)] ++ jf S tk)) (he := fun (kX : Nat) => (cQ b5 An i cn K S A7 c8 b4 f m t L ++ [pE S.O L, .abs R, kW kX])) (GS := Nat) (fr' := fun (eU : Nat) => ([(0, vP f), (2, vP b4), (3, vP b5), (6, .iface 93 (vP (L.b tk))), (8, vP eU)] ++ zF A7 S c8 i ++ [(52, .agg #[vI (bY S i), vI 3, vI ((obj S.O tk).mode), vI ((obj S.O tk).uid), vI ((obj S.O tk).gid), vI ((obj S.O tk).sec), vI ((obj S.O tk).nano), .slice none (0) (0), .string ⟨#[]⟩, .slice none (0) (0)])])) (hp' := fun (eU : Nat) => (cQ b5 An i cn K S A7 c8 b4 f m t L ++ [pE S.O L, .abs R, kW eU])) [8] [8] [8] [8] [8] [8] rfl rfl rfl rfl rfl rfl ?_ ?_ ?_ ?_ ?_ ?_ ?_ ?_ rfl (fun _ => by kernel_rfl) rfl (fun _ => by kernel_rfl) rfl (fun _ => by kernel_rfl) rfl (fun _ => by kernel_rfl) rfl (fun _ => by kernel_rfl) rfl (fun _ => by kernel_rfl) ?_
  ·refine gL [] (kr (vP (L.b tk))) ?_
   rintro _ _ ⟨rfl, rfl⟩
   refine NL ?_
   exact MD () [0, 2, 3, 6, 19, 20, 21, 33, 35, 39, 43, 47, 51] [0, 1, 2, 3, 4, 5, 6, 7, 8, 9, 10, 11]
  ·rintro _
   refine gK 1 [(52, .agg #[vI ((bY S i)), vI 3, vI ((obj S.O tk).mode), vI ((obj S.O tk).uid), vI ((obj S.O tk).gid), vI ((obj S.O tk).sec), vI ((obj S.O tk).nano), .slice none (0) (0), .string ⟨#[]⟩, .slice none (0) (0)])] [] ?_
   refine NL ?_
   exact MD () [0, 2, 3, 6, 19, 20, 21, 52] [0, 1, 2, 3, 4, 5, 6, 7, 8, 9, 10, 11]
  ·rintro _
   refine gN 1 (fun eU => [(8, vP eU)]) (fun _ => []) (fun _ => []) (fun eU => .blk eU [vI 0, vI 0, vI 0, vI 0, vI 0, vI 0, vI 0, .slice none (0) (0), .string ⟨#[]⟩, .slice none (0) (0)] 70) (fun eU => ?_)
   refine NL ?_
   exact MD eU [0, 2, 3, 6, 8, 19, 20, 21, 52] [0, 1, 2, 3, 4, 5, 6, 7, 8, 9, 10, 11, 12]
  ·rintro _
   refine gN 1 (fun gF => [(8, vP gF)]) (fun _ => []) (fun _ => []) (fun gF => .blk gF [vI 0, vI 0, vI 0, vI 0, vI 0, vI 0, vI 0, .slice none (0) (0), .string ⟨#[]⟩, .slice none (0) (0)] 70) (fun gF => ?_)
   refine NL ?_
   exact MD gF [0, 2, 3, 6, 8, 19, 20, 21, 33, 35, 39, 43, 47, 51] [0, 1, 2, 3, 4, 5, 6, 7, 8, 9, 10, 11, 12]
  ·rintro gF
   show ai _ _ _ _ _ (fZ f b4 b5 ++ [(6, .iface 93 (vP (L.b tk)))] ++ jX gF A7 S c8 i ++ [(35, vI 3)] ++ jf S tk) (cQ b5 An i cn K S A7 c8 b4 f m t L ++ [pE S.O L, .abs R, kW gF]) _
   refine gK 1 [(52, .agg #[vI ((bY S i)), vI 3, vI ((obj S.O tk).mode), vI ((obj S.O tk).uid), vI ((obj S.O tk).gid), vI ((obj S.O tk).sec), vI ((obj S.O tk).nano), .slice none (0) (0), .string ⟨#[]⟩, .slice none (0) (0)])] [] ?_
   refine NL ?_
   exact MD gF [0, 2, 3, 6, 8, 19, 20, 21, 52] [0, 1, 2, 3, 4, 5, 6, 7, 8, 9, 10, 11, 12]
  ·refine gN 1 (fun kX => [(8, vP kX)]) (fun _ => []) (fun _ => []) (fun kX => .blk kX [vI 0, vI 0, vI 0, vI 0, vI 0, vI 0, vI 0, .slice none (0) (0), .string ⟨#[]⟩, .slice none (0) (0)] 70) (fun kX => ?_)
   refine NL ?_
   exact MD kX [0, 2, 3, 6, 8, 19, 20, 21, 33, 34, 39, 43, 47, 51] [0, 1, 2, 3, 4, 5, 6, 7, 8, 9, 10, 11, 12]
  ·rintro kX
   show ai _ _ _ _ _ (fZ f b4 b5 ++ [(6, .iface 93 (vP (L.b tk)))] ++ jX kX A7 S c8 i ++ [(34, .iface 93 (vP (L.b tk)))] ++ jf S tk) (cQ b5 An i cn K S A7 c8 b4 f m t L ++ [pE S.O L, .abs R, kW kX]) _
   refine gL [] (kr (vP (L.b tk))) ?_
   rintro _ _ ⟨rfl, rfl⟩
   refine NL ?_
   exact MD kX [0, 2, 3, 6, 8, 19, 20, 21, 33, 35, 39, 43, 47, 51] [0, 1, 2, 3, 4, 5, 6, 7, 8, 9, 10, 11, 12]
  ·rintro kX
   show ai _ _ _ _ _ (fZ f b4 b5 ++ [(6, .iface 93 (vP (L.b tk)))] ++ jX kX A7 S c8 i ++ [(35, vI 3)] ++ jf S tk) (cQ b5 An i cn K S A7 c8 b4 f m t L ++ [pE S.O L, .abs R, kW kX]) _
   refine gK 1 [(52, .agg #[vI ((bY S i)), vI 3, vI ((obj S.O tk).mode), vI ((obj S.O tk).uid), vI ((obj S.O tk).gid), vI ((obj S.O tk).sec), vI ((obj S.O tk).nano), .slice none (0) (0), .string ⟨#[]⟩, .slice none (0) (0)])] [] ?_
   refine NL ?_
   exact MD kX [0, 2, 3, 6, 8, 19, 20, 21, 52] [0, 1, 2, 3, 4, 5, 6, 7, 8, 9, 10, 11, 12]
  rintro eU
  refine fS.last rfl rfl ?_
  refine gC 1 [] [(0, A_ 12 eU 10)] [(12, ([(0, vI ((bY S i))), (1, vI 3)] ++ I5 S tk))] ?_
  refine NL (aj.np (NX (af.seq (SR ?_))))
  refine gK 1 [(53, .iface 93 (vP (L.b tk)))] [] ?_
  refine NN (af.block (SR ?_))
  refine gK 3 [(55, .bool false), (56, .pointer none)] [] ?_
  refine NN ?_
  refine CF ?_
  refine SR ?_
  refine gK 3 [(64, .bool true), (65, vP (L.b tk))] [] ?_
  refine NN ?_
  refine CT ?_
  refine SR ?_
  refine gK 1 [(10, vP (L.b tk))] [] ?_
  refine NN (af.region ?_)
  refine gC 6 [] [(3, v_ 8 (Na L hkt)), (5, a_ 12 eU)] [(12, [(8, .string (obj S.O tk).target)])] ?_
  refine NL (aj.aT (NX (af.region ?_)))
  refine gN 4 (fun vK => [(104, .slice An (i) (cn)), (106, .slice (some ⟨vK, 0, none⟩) (1) (1))]) (fun vK => [(1, a_ 0 b5), (2, A_ 12 eU 10)]) (fun _ => []) (fun vK => .blk vK [vI ((bY S i)), vI 3, vI ((obj S.O tk).mode), vI ((obj S.O tk).uid), vI ((obj S.O tk).gid), vI ((obj S.O tk).sec), vI ((obj S.O tk).nano), .slice none (0) (0), .string (obj S.O tk).target, .slice none (0) (0)] 70) (fun vK => ?_)
  refine ai.append 1 (d := (some 107)) (t := 22) (e := 70) (z := .agg #[vI 0, vI 0, vI 0, vI 0, vI 0, vI 0, vI 0, .slice none (0) (0), .string ⟨#[]⟩, .slice none (0) (0)]) (size := 10) (bytes := 120) (n := i) (cap := cn) (A := An) (xs := (bV K ((aM S).take i))) (s := (.tmp 104)) (x := (.tmp 106)) (ats := #[22, 22]) (A' := some ⟨vK, 0, none⟩) (m := 1) (c' := 1) (news := [vI ((bY S i)), vI 3, vI ((obj S.O tk).mode), vI ((obj S.O tk).uid), vI ((obj S.O tk).gid), vI ((obj S.O tk).sec), vI ((obj S.O tk).nano), .slice none (0) (0), .string (obj S.O tk).target, .slice none (0) (0)]) (fun _ => by kernel_rfl) rfl (by kernel_rfl) (fun _ => by kernel_rfl) (fun _ => by kernel_rfl) Tryz.underlying22 (by kernel_rfl) rfl (by decide) (rfl) (by simp [Value.oneCell']) (lN (j := 13) rfl) (by unfold maxLen; omega) (by omega) (fun oC oF => ?_)
  refine ai.eT 1 (p := .abs (aF 70 10 oC (i + 1) oF ((bV K ((aM S).take i)) ++ [vI ((bY S i)), vI 3, vI ((obj S.O tk).mode), vI ((obj S.O tk).uid), vI ((obj S.O tk).gid), vI ((obj S.O tk).sec), vI ((obj S.O tk).nano), .slice none (0) (0), .string (obj S.O tk).target, .slice none (0) (0)]))) (p' := .abs (aF 70 10 oC (i + 1) oF (bV (K.put i none 0 none 0) ((aM S).take (i + 1))))) (by kernel_rfl) (congrArg (fun x => HP.abs (aF 70 10 _ _ _ x)) (sE (cP (by omega)) (nX hI.toInv0 hi2 jA hlv) rfl rfl)) ?_
  refine ai.slot 107 (.slice oC (i + 1) (oF)) (.slice oC ((i + 1)) (oF)) (fun _ => by kernel_rfl) (rfl) ?_
  refine gC 2 [] [(1, a_ 0 b5)] [(0, [(0, .slice oC ((i + 1)) (oF))])] ?_
  refine NL (aj.aT (NX (af.region ?_)))
  refine gK 2 [(21, vI ↑(i + 1))] [(0, p_ ⟨[], none, none, none, some (vI ↑(i + 1))⟩ [(Value.int .i64 (IntKind.wrap .i64 (((i : Nat) : Int) + 1))) = (vI ↑(i + 1))] ⟨bJ (by omega) (by omega) (by omega), trivial⟩)] ?_
  refine NL ?_
  refine aj.mem (aL := ([sG b5 oC i oF, Fa oC i oF K S, vH S i K, CK S i K] ++ p4 A7 S c8 b4 f m t L ++ [pD S.O L, pE S.O L, .abs R, uE eU S i tk, uE vK S i tk, JX])) (fun w hS => hS.jL (e := 5) (size := 1)) ?_
  refine aj.mem (aL := ([sG b5 oC i oF, Fa oC i oF K S, vH S i K, CK S i K] ++ p4 A7 S c8 b4 f m t L ++ [pD S.O L, pE S.O L, .abs R, uE eU S i tk, uE vK S i tk, JX, E8])) (fun w hS => hS.jL (e := 101) (size := 2)) ?_
  refine aj.mem (aL := ([.abs (dL (fY ((aM S).take (i + 1)) (K.put i none 0 none 0)) (i + 1)), sG b5 oC i oF, Fa oC i oF K S, vH S i K] ++ p4 A7 S c8 b4 f m t L ++ [pD S.O L, pE S.O L, .abs R, uE eU S i tk, uE vK S i tk, E8])) (fun w hS => hS.oW (R' := (fY ((aM S).take (i + 1)) (K.put i none 0 none 0))) (i := 3) (j := 14) (idx := [0, 1, 2, 4, 5, 6, 7, 8, 9, 10, 11, 12, 13, 15]) rfl rfl (by kernel_rfl) rfl (wF (cP (by omega)) (nX hI.toInv0 hi2 jA hlv)) (uy (cP (by omega)) (nX hI.toInv0 hi2 jA hlv) rfl)) ?_
  refine aj.mem (aL := ([.abs (dL (gJ ((aM S).take (i + 1)) (K.put i none 0 none 0)) (i + 1)), .abs (dL (fY ((aM S).take (i + 1)) (K.put i none 0 none 0)) (i + 1)), sG b5 oC i oF, Fa oC i oF K S] ++ p4 A7 S c8 b4 f m t L ++ [pD S.O L, pE S.O L, .abs R, uE eU S i tk, uE vK S i tk])) (fun w hS => hS.oW (R' := (gJ ((aM S).take (i + 1)) (K.put i none 0 none 0))) (i := 3) (j := 14) (idx := [0, 1, 2, 4, 5, 6, 7, 8, 9, 10, 11, 12, 13]) rfl rfl (by kernel_rfl) rfl (wG (cP (by omega)) (nX hI.toInv0 hi2 jA hlv)) ((uz (cP (by omega)) (nX hI.toInv0 hi2 jA hlv) rfl))) ?_
  exact aj.turn ((i + 1), oC, oF, (K.put i none 0 none 0)) (idx := [0, 2, 3, 19, 20, 21]) (pk := [2, 3, 0, 1, 4, 5, 6, 7, 8, 9, 10, 11]) (show (((i + 1)) ≤ S.idx.length) from (by omega)) (by show S.idx.length - ((i + 1)) < S.idx.length - i; omega) (fun _ => by kernel_rfl) rfl (by kernel_rfl)
 refine af.exit (aj.bg (aj.bg (aj.cA (NX (SR ?_)))))
 have hie : (aM S).length = i := by rw [mF]; omega
 have hgt : ((aM S).take i) = (aM S) := by rw [← hie, List.take_length]
 refine ai.eT 1 (p := .abs (aF 70 10 An i cn (bV K ((aM S).take i)))) (p' := .abs (aF 70 10 An ((aM S).length) cn (bV K (aM S)))) (by kernel_rfl) (by rw [hgt, hie]) ?_
 refine ai.eT 2 (p := .abs (dL (gJ ((aM S).take i) K) i)) (p' := .abs (dL (gJ (aM S) K) ((aM S).length))) (by kernel_rfl) (by rw [hgt, hie]) ?_
 refine ai.eT 3 (p := .abs (dL (fY ((aM S).take i) K) i)) (p' := .abs (dL (fY (aM S) K) ((aM S).length))) (by kernel_rfl) (by rw [hgt, hie]) ?_
 refine gC 2 [] [(0, a_ 0 b5), (1, a_ 5 b4)] [(5, [(0, .slice An (i) (cn))])] ?_
 refine NN (af.ret ?_)
 exact aj.ret (v := .agg #[.slice An (i) (cn)]) (l := [pF f m t S.X, pI m L S.idx, pO S.O L, pD S.O L, pE S.O L, .abs (aF 70 10 An ((aM S).length) cn (bV K (aM S))), .abs (dL (gJ (aM S) K) ((aM S).length)), .abs (dL (fY (aM S) K) ((aM S).length))]) (aq := [b4 = b4]) [.at 5] [6, 7, 8, 9, 10, 1, 2, 3, 11] (fun _ => by kernel_rfl) ⟨rfl, trivial⟩ rfl (by kernel_rfl) (⟨An, cn, K, by rw [hie], rfl⟩)
end
section
open Go.RowKit Go.Maps HeapM TabM
attribute [local irreducible] ai aR af aj
theorem vg {β : Bs} (S : aI) (L : HL) (f : Nat) (hI : Inv S) (d : Nat) (hd : Live S.idx ⟨d, 2⟩) (path : ByteArray) (hsz : path.size ≤ 1048576) (hg : iY β) :
    Spec Tryz.prog β 53 #[vP f, vP (L.b d), .string path] [.abs (ak (aQ S.O L)), .abs (ak (bh S.O L))] (fun v l => v = wC L (gI S.O d path) ∧ l = [.abs (ak (aQ S.O L)), .abs (ak (bh S.O L))]) := by
 have hkd : (obj S.O d).kind = 2 := hI.kind hd
 obtain ⟨ps, hps⟩ : ∃ ps, ps = gS path := ⟨_, rfl⟩
 have hpl : 1 ≤ ps.length ∧ ps.length ≤ 1048577 := by rw [hps, ye]; have := uq path; omega
 have GV : ∀ q, q < ps.length → (pc ps q).size ≤ 1048576 := fun q hq => Nat.le_trans (Dk (hps ▸ Gy hq)) hsz
 refine Spec.enter Tryz.func53 rfl Tryz.ntmps53 (Nat.le_of_ble_eq_true rfl) (fun R => ?_)
 refine SR ?_
 refine gK 3 [] [] ?_
 refine NS ?_
 refine gK 1 [(19, .string path)] [] ?_
 refine gL [] (Gx hg path hsz hps) ?_
 rintro _ _ ⟨b1, rfl, rfl⟩
 refine gK 1 [(9, .slice (some ⟨b1, 0, none⟩) (ps.length) (ps.length))] [] ?_
 refine NN (af.seq (SR ?_))
 refine gK 3 [(21, .slice (some ⟨b1, 0, none⟩) (ps.length) (ps.length)), (22, vI ↑ps.length), (23, vI 0)] [] ?_
 refine NN (af.block ?_)
 refine af.loop (ι := Nat) (fun (j : Nat) => (j ≤ ps.length) ∧ (∀ q, q < j → bE (pc ps q))) (fun (j : Nat) => ps.length - j) (fun (j : Nat) => [(1, vP (L.b d)), (9, .slice (some ⟨b1, 0, none⟩) (ps.length) (ps.length)), (21, .slice (some ⟨b1, 0, none⟩) (ps.length) (ps.length)), (22, vI ↑ps.length), (23, vI ↑j)]) (fun (j : Nat) => [pO S.O L, pE S.O L, .abs (aF 9 1 (some ⟨b1, 0, none⟩) ps.length ps.length (jT ps)), .abs R]) 0 (idx := [1, 9, 21, 22, 23]) (pk := [1, 2, 0, 3]) (show (0 ≤ ps.length) ∧ (∀ q, q < 0 → bE (pc ps q)) from ⟨Nat.zero_le _, fun q h => absurd h (Nat.not_lt_zero q)⟩) (fun _ => by kernel_rfl) rfl (by kernel_rfl) ?_
 rintro j ⟨hj, hgd⟩
 show af _ _ _ _ [(1, vP (L.b d)), (9, .slice (some ⟨b1, 0, none⟩) (ps.length) (ps.length)), (21, .slice (some ⟨b1, 0, none⟩) (ps.length) (ps.length)), (22, vI ↑ps.length), (23, vI ↑j)] [pO S.O L, pE S.O L, .abs (aF 9 1 (some ⟨b1, 0, none⟩) ps.length ps.length (jT ps)), .abs R] _
 refine SR ?_
 refine gK 1 [(24, .bool (decide ((((j : Nat) : Int) : Int) < (((ps.length : Nat) : Int) : Int))))] [] ?_
 refine NN (af.seq ?_)
 refine af.bB (p := (((j : Nat) : Int) : Int) < (((ps.length : Nat) : Int) : Int)) (fun _ => by kernel_rfl) (fun yc => ?_) (fun yc => ?_)
 ·refine af.skip (NX (af.seq (af.block (SR ?_))))
  refine gK 3 [(11, .string (pc ps j))] [(0, p_ ⟨[], some j, none, none, some (.pointer (some ⟨b1, j, none⟩))⟩ [(Value.pointer (some ⟨b1, 0 + j * 1, none⟩)) = (.pointer (some ⟨b1, j, none⟩)), ((j : Nat) : Int) = ((j : Nat) : Int), j < ps.length, (⟨b1, 0, none⟩ : Addr).spot = none] ⟨by simp, rfl, by omega, rfl, trivial⟩), (1, p_ ⟨[.view 2 (.string (pc ps j))], none, none, none, none⟩ [(∀ F w, (aF 9 1 (some ⟨b1, 0, none⟩) ps.length ps.length (jT ps)).h F w → w.cell? ⟨b1, j, none⟩ = some (.string (pc ps j)))] ⟨aF.cell (wB (by omega)), trivial⟩)] ?_
  refine NS ?_
  refine gK 1 [(27, .string (pc ps j))] [] ?_
  refine gL [] (pz (pc ps j) (by have := GV j (by omega); omega)) ?_
  rintro _ _ ⟨rfl, rfl⟩
  refine gK 1 [(29, .bool (!(decide (bE (pc ps j)))))] [] ?_
  refine NN ?_
  refine af.cr (p := bE (pc ps j)) (fun _ => by kernel_rfl) (fun GW => ?_) (fun GW => ?_)
  ·refine SR ?_
   refine gK 3 [(6, .pointer none), (7, .string ⟨#[]⟩), (8, vI 95)] [] ?_
   refine NN (af.ret (aj.aG (aj.ar (aj.ar (aj.aG (aj.ar ?_))))))
   exact RT (l := [.abs (ak (aQ S.O L)), .abs (ak (bh S.O L))]) (.tuple #[.pointer none, .string ⟨#[]⟩, vI 95]) [0, 1, 3] (⟨congrArg (wC L) (Eq.symm (show gI S.O d path = .error 95 from if_neg (fun h => GW (Ct.1 (hps ▸ h) j (by omega))))), rfl⟩)
  refine af.skip (aj.aT (NX (af.region ?_)))
  refine gK 2 [(23, vI ↑(j + 1))] [(0, p_ ⟨[], none, none, none, some (vI ↑(j + 1))⟩ [(Value.int .i64 (IntKind.wrap .i64 (((j : Nat) : Int) + 1))) = (vI ↑(j + 1))] ⟨bJ (by omega) (by omega) (by omega), trivial⟩)] ?_
  refine NL ?_
  exact aj.turn ((j + 1)) (idx := [1, 9, 21, 22, 23]) (pk := [0, 1, 2, 3]) (show (((j + 1)) ≤ ps.length) ∧ (∀ q, q < ((j + 1)) → bE (pc ps q)) from ⟨by omega, fun q hq => (Nat.lt_succ_iff_lt_or_eq.1 hq).elim (hgd q) (fun e => e ▸ GW)⟩) (by show ps.length - ((j + 1)) < ps.length - j; omega) (fun _ => by kernel_rfl) rfl (by kernel_rfl)
 refine af.exit (aj.bg (aj.bg (aj.cA (NX (SR ?_)))))
 have hall : ∀ p ∈ ps, bE p := Ct.2 (fun q hq => hgd q (by omega))
 refine gK 4 [(12, vI ↑(ps.length - 1))] [(2, p_ ⟨[], none, none, none, some (vI ↑(ps.length - 1))⟩ [(Value.int .i64 (IntKind.wrap .i64 (((ps.length : Nat) : Int) - 1))) = (vI ↑(ps.length - 1))] ⟨bJ (by omega) (by omega) (by omega), trivial⟩)] ?_
 refine NN (af.seq (SR ?_))
 refine gK 5 [(36, .slice (some ⟨b1, 0, none⟩) ((ps.length - 1)) (ps.length)), (37, vI ↑(ps.length - 1)), (38, vI 0)] [(2, p_ ⟨[], some (ps.length - 1), none, none, none⟩ [(((ps.length - 1) : Nat) : Int) = (((ps.length - 1) : Nat) : Int), (ps.length - 1) ≤ ps.length] ⟨rfl, by omega, trivial⟩)] ?_
 refine NN (af.block ?_)
 refine af.loop (ι := Nat × Nat) (fun ((j, e) : Nat × Nat) => (j ≤ ps.length - 1) ∧ (Live S.idx ⟨e, 2⟩) ∧ (iM S.O d ps = iM S.O e (ps.drop j))) (fun ((j, e) : Nat × Nat) => ps.length - 1 - j) (fun ((j, e) : Nat × Nat) => [(1, vP (L.b e)), (9, .slice (some ⟨b1, 0, none⟩) (ps.length) (ps.length)), (12, vI ↑(ps.length - 1)), (36, .slice (some ⟨b1, 0, none⟩) ((ps.length - 1)) (ps.length)), (37, vI ↑(ps.length - 1)), (38, vI ↑j)]) (fun ((j, e) : Nat × Nat) => [pO S.O L, pE S.O L, .abs (aF 9 1 (some ⟨b1, 0, none⟩) ps.length ps.length (jT ps)), .abs R]) (0, d) (idx := [1, 9, 12, 36, 37, 38]) (pk := [0, 1, 2, 3]) (show (0 ≤ ps.length - 1) ∧ (Live S.idx ⟨d, 2⟩) ∧ (iM S.O d ps = iM S.O d (ps.drop 0)) from ⟨Nat.zero_le _, hd, by rw [List.drop_zero]⟩) (fun _ => by kernel_rfl) rfl (by kernel_rfl) ?_
 rintro ⟨j, e⟩ ⟨hj, hle, hw⟩
 show af _ _ _ _ [(1, vP (L.b e)), (9, .slice (some ⟨b1, 0, none⟩) (ps.length) (ps.length)), (12, vI ↑(ps.length - 1)), (36, .slice (some ⟨b1, 0, none⟩) ((ps.length - 1)) (ps.length)), (37, vI ↑(ps.length - 1)), (38, vI ↑j)] [pO S.O L, pE S.O L, .abs (aF 9 1 (some ⟨b1, 0, none⟩) ps.length ps.length (jT ps)), .abs R] _
 have hke : (obj S.O e).kind = 2 := hI.kind hle
 refine SR ?_
 refine gK 1 [(39, .bool (decide ((((j : Nat) : Int) : Int) < ((((ps.length - 1) : Nat) : Int) : Int))))] [] ?_
 refine NN (af.seq ?_)
 refine af.bB (p := (((j : Nat) : Int) : Int) < ((((ps.length - 1) : Nat) : Int) : Int)) (fun _ => by kernel_rfl) (fun mK => ?_) (fun mK => ?_)
 ·have mD : (pc ps j).size ≤ 1048576 := GV j (by omega)
  have hee : (obj S.O e).ah.length ≤ 8192 := hI.eS hle
  refine af.skip (NX (af.seq (af.block (SR ?_))))
  refine gK 3 [(14, .string (pc ps j))] [(0, p_ ⟨[], some j, none, none, some (.pointer (some ⟨b1, j, none⟩))⟩ [(Value.pointer (some ⟨b1, 0 + j * 1, none⟩)) = (.pointer (some ⟨b1, j, none⟩)), ((j : Nat) : Int) = ((j : Nat) : Int), j < (ps.length - 1), (⟨b1, 0, none⟩ : Addr).spot = none] ⟨by simp, rfl, by omega, rfl, trivial⟩), (1, p_ ⟨[.view 2 (.string (pc ps j))], none, none, none, none⟩ [(∀ F w, (aF 9 1 (some ⟨b1, 0, none⟩) ps.length ps.length (jT ps)).h F w → w.cell? ⟨b1, j, none⟩ = some (.string (pc ps j)))] ⟨aF.cell (wB (by omega)), trivial⟩)] ?_
  refine NN (af.seq ?_)
  rcases hI.jY hle (pc ps j) with hlk | ⟨tk, hlk, hlv⟩ | ⟨tk, hlk, hlv⟩ | ⟨tk, hlk, hlv⟩
  ·refine af.region ?_
   refine gK 5 [(45, .map (some (L.m e))), (46, .string (pc ps j))] [(3, v_ 0 (bC L hke))] ?_
   refine fR 1 hke hlk ?_
   refine NN (af.block (SR ?_))
   refine gK 1 [(48, .bool true)] [] ?_
   refine NN ?_
   refine CT ?_
   refine SR ?_
   refine gK 1 [] [] ?_
   refine NS ?_
   refine gK 3 [(6, .pointer none), (7, .string ⟨#[]⟩), (8, vI 170)] [] ?_
   refine NN (af.ret (aj.aG (aj.aG (aj.ar (aj.ar (aj.aG (aj.ar ?_)))))))
   exact RT (l := [.abs (ak (aQ S.O L)), .abs (ak (bh S.O L))]) (.tuple #[.pointer none, .string ⟨#[]⟩, vI 170]) [0, 1, 3] (⟨congrArg (wC L) (Eq.symm (show gI S.O d path = .error 170 from (show gI S.O d path = iM S.O d ps by unfold gI; rw [← hps]; exact if_pos hall).trans (hw.trans ((qF (by omega)).trans (by rw [hlk] <;> rfl))))), rfl⟩)
  ·have hkt : (obj S.O tk).kind = 1 := hI.kind hlv
   refine af.region ?_
   refine gK 5 [(45, .map (some (L.m e))), (46, .string (pc ps j))] [(3, v_ 0 (bC L hke))] ?_
   refine fR 1 hke hlk ?_
   refine NN (af.block (SR ?_))
   refine gK 1 [(48, .bool false)] [] ?_
   refine NN ?_
   refine CF ?_
   refine SR ?_
   refine gK 3 [(50, .bool false), (51, .pointer none)] [] ?_
   refine NN ?_
   refine CF ?_
   refine SR ?_
   refine gK 3 [(53, .bool true), (54, vP (L.b tk))] [] ?_
   refine NN ?_
   refine CT ?_
   refine SR ?_
   refine gK 1 [] [] ?_
   refine NS ?_
   refine gK 3 [(6, .pointer none), (7, .string ⟨#[]⟩), (8, vI 173)] [] ?_
   refine NN (af.ret (aj.aG (aj.aG (aj.ar (aj.ar (aj.aG (aj.ar ?_)))))))
   exact RT (l := [.abs (ak (aQ S.O L)), .abs (ak (bh S.O L))]) (.tuple #[.pointer none, .string ⟨#[]⟩, vI 173]) [0, 1, 3] (⟨congrArg (wC L) (Eq.symm (show gI S.O d path = .error 173 from (show gI S.O d path = iM S.O d ps by unfold gI; rw [← hps]; exact if_pos hall).trans (hw.trans ((qF (by omega)).trans (by rw [hlk] <;> rfl))))), rfl⟩)
  ·have hkt : (obj S.O tk).kind = 2 := hI.kind hlv
   refine af.region ?_
   refine gK 5 [(45, .map (some (L.m e))), (46, .string (pc ps j))] [(3, v_ 0 (bC L hke))] ?_
   refine fR 1 hke hlk ?_
   refine NN (af.block (SR ?_))
   refine gK 1 [(48, .bool false)] [] ?_
   refine NN ?_
   refine CF ?_
   refine SR ?_
   refine gK 3 [(50, .bool false), (51, .pointer none)] [] ?_
   refine NN ?_
   refine CF ?_
   refine SR ?_
   refine gK 3 [(53, .bool false), (54, .pointer none)] [] ?_
   refine NN ?_
   refine CF ?_
   refine SR ?_
   refine gK 3 [(56, .bool true), (57, vP (L.b tk))] [] ?_
   refine NN ?_
   refine CT ?_
   refine SR ?_
   refine gK 1 [(18, vP (L.b tk))] [] ?_
   refine NN (af.region ?_)
   refine gK 2 [(1, vP (L.b tk))] [] ?_
   refine NL (aj.aT (aj.aT (NX (af.region ?_))))
   refine gK 2 [(38, vI ↑(j + 1))] [(0, p_ ⟨[], none, none, none, some (vI ↑(j + 1))⟩ [(Value.int .i64 (IntKind.wrap .i64 (((j : Nat) : Int) + 1))) = (vI ↑(j + 1))] ⟨bJ (by omega) (by omega) (by omega), trivial⟩)] ?_
   refine NL ?_
   exact aj.turn ((j + 1), tk) (idx := [1, 9, 12, 36, 37, 38]) (pk := [0, 1, 2, 3]) (show (((j + 1)) ≤ ps.length - 1) ∧ (Live S.idx ⟨tk, 2⟩) ∧ (iM S.O d ps = iM S.O tk (ps.drop ((j + 1)))) from ⟨by omega, hlv, hw.trans ((qF (by omega)).trans (by rw [hlk] <;> rfl))⟩) (by show ps.length - 1 - ((j + 1)) < ps.length - 1 - j; omega) (fun _ => by kernel_rfl) rfl (by kernel_rfl)
  have hkt : (obj S.O tk).kind = 3 := hI.kind hlv
  refine af.region ?_
  refine gK 5 [(45, .map (some (L.m e))), (46, .string (pc ps j))] [(3, v_ 0 (bC L hke))] ?_
  refine fR 1 hke hlk ?_
  refine NN (af.block (SR ?_))
  refine gK 1 [(48, .bool false)] [] ?_
  refine NN ?_
  refine CF ?_
  refine SR ?_
  refine gK 3 [(50, .bool true), (51, vP (L.b tk))] [] ?_
  refine NN ?_
  refine CT ?_
  refine SR ?_
  refine gK 1 [] [] ?_
  refine NS ?_
  refine gK 3 [(6, .pointer none), (7, .string ⟨#[]⟩), (8, vI 174)] [] ?_
  refine NN (af.ret (aj.aG (aj.aG (aj.ar (aj.ar (aj.aG (aj.ar ?_)))))))
  exact RT (l := [.abs (ak (aQ S.O L)), .abs (ak (bh S.O L))]) (.tuple #[.pointer none, .string ⟨#[]⟩, vI 174]) [0, 1, 3] (⟨congrArg (wC L) (Eq.symm (show gI S.O d path = .error 174 from (show gI S.O d path = iM S.O d ps by unfold gI; rw [← hps]; exact if_pos hall).trans (hw.trans ((qF (by omega)).trans (by rw [hlk] <;> rfl))))), rfl⟩)
 have ej : j = ps.length - 1 := by omega
 refine af.exit (aj.bg (aj.bg (aj.cA (NX (af.seq (SR ?_))))))
 refine gK 5 [(64, .bool (obj S.O e).gone)] [(4, v_ 0 (kT L hke))] ?_
 refine NN ?_
 refine af.cond (b := (obj S.O e).gone) (fun _ => by kernel_rfl) (fun Mh => ?_) (fun Mh => ?_)
 ·refine SR ?_
  refine gK 3 [(6, .pointer none), (7, .string ⟨#[]⟩), (8, vI 170)] [] ?_
  refine NN (af.ret (aj.ar ?_))
  exact RT (l := [.abs (ak (aQ S.O L)), .abs (ak (bh S.O L))]) (.tuple #[.pointer none, .string ⟨#[]⟩, vI 170]) [0, 1, 3] (⟨congrArg (wC L) (Eq.symm ((show gI S.O d path = iM S.O d ps by unfold gI; rw [← hps]; exact if_pos hall).trans (hw.trans ((Ap (by omega)).trans (if_pos Mh))))), rfl⟩)
 refine af.skip (NX (af.seq ?_))
 refine af.bF (by kernel_rfl) (by kernel_rfl) ?_
 refine gQ 8 [(6, vP (L.b e)), (7, .string (pc ps (ps.length - 1))), (8, vI 0)] [(3, p_ ⟨[], some (ps.length - 1), none, none, some (.pointer (some ⟨b1, (ps.length - 1), none⟩))⟩ [(Value.pointer (some ⟨b1, 0 + (ps.length - 1) * 1, none⟩)) = (.pointer (some ⟨b1, (ps.length - 1), none⟩)), (((ps.length - 1) : Nat) : Int) = (((ps.length - 1) : Nat) : Int), (ps.length - 1) < ps.length, (⟨b1, 0, none⟩ : Addr).spot = none] ⟨by simp, rfl, by omega, rfl, trivial⟩), (4, p_ ⟨[.view 2 (.string (pc ps (ps.length - 1)))], none, none, none, none⟩ [(∀ F w, (aF 9 1 (some ⟨b1, 0, none⟩) ps.length ps.length (jT ps)).h F w → w.cell? ⟨b1, (ps.length - 1), none⟩ = some (.string (pc ps (ps.length - 1))))] ⟨aF.cell (wB (by omega)), trivial⟩)] ?_
 refine NQ (NX (af.ret ?_))
 exact RT (l := [.abs (ak (aQ S.O L)), .abs (ak (bh S.O L))]) (.tuple #[vP (L.b e), .string (pc ps (ps.length - 1)), vI 0]) [0, 1, 3] (⟨by rw [← ej]; exact congrArg (wC L) (Eq.symm (show gI S.O d path = .ok (e, pc ps j) from (show gI S.O d path = iM S.O d ps by unfold gI; rw [← hps]; exact if_pos hall).trans (hw.trans ((Ap (by omega)).trans (if_neg (by rw [Mh]; exact Bool.false_ne_true)))))), rfl⟩)
end
section
open Go.RowKit Go.Maps HeapM TabM
attribute [local irreducible] ai aR af aj
theorem Kw {β : Bs} (S : aI) (L : HL) (f m t : Nat) (hI : Inv S) (root : Int) (hrw : (Lit.int .i64 root).wf = true) (a : wz) (GV : a.path.size ≤ 1048576) (JL : a.to.size ≤ 1048576) (hxz : a.text.size ≤ 1048576) (hg : iY β) :
    Spec Tryz.prog β 22 #[vP f, vI (root), .agg #[vI (a.at_), vI (a.op), .string a.path, .string a.to, .string a.text]] [.blk f [vI (S.X.cN), vI (S.X.cB), vI (S.X.cH), vI (S.X.cS), vI (S.X.cZ), .map (some m), vP t, vI (S.X.last), vI (S.X.ah), vI (S.X.used)] 86, .abs (aH Tryz.prog 3 m (aP (aK L S.idx)) S.idx.length), .abs (aZ 156 t S.X.cH S.ay (aK L S.us)), .abs (ak (aQ S.O L)), .abs (ak (aW S.O L)), .abs (ak (bh S.O L))] (fun v l => ∃ L2, v = vI (actM S root a).1 ∧ l = [.blk f [vI ((actM S root a).2.X.cN), vI ((actM S root a).2.X.cB), vI ((actM S root a).2.X.cH), vI ((actM S root a).2.X.cS), vI ((actM S root a).2.X.cZ), .map (some m), vP t, vI ((actM S root a).2.X.last), vI ((actM S root a).2.X.ah), vI ((actM S root a).2.X.used)] 86, .abs (aH Tryz.prog 3 m (aP (aK L2 (actM S root a).2.idx)) ((actM S root a).2.idx.length)), .abs (aZ 156 t (actM S root a).2.X.cH ((actM S root a).2.ay) (aK L2 ((actM S root a).2.us))), .abs (ak (aQ ((actM S root a).2.O) L2)), .abs (ak (aW ((actM S root a).2.O) L2)), .abs (ak (bh ((actM S root a).2.O) L2))]) := by
 have hX := hI.hX
 refine Spec.enter Tryz.func22 rfl Tryz.ntmps22 (Nat.le_of_ble_eq_true rfl) (fun R => ?_)
 refine SR ?_
 refine gN 2 (fun b1 => [(5, vP b1)]) (fun _ => []) (fun _ => []) (fun b1 => .blk b1 [vI (a.at_), vI (a.op), .string a.path, .string a.to, .string a.text] 45) (fun b1 => ?_)
 refine NN (af.seq (SR ?_))
 refine gK 4 [(25, .bool (decide ((a.op : Int) < (1 : Int))))] [(1, a_ 7 b1)] ?_
 refine ai.gD 25 ((a.op : Int) < (1 : Int)) (fun _ => by kernel_rfl) (fun vr => ?_) (fun vr => ?_)
 ·refine gK 4 [(29, .bool true)] [] ?_
  refine NN ?_
  refine CT ?_
  refine SR ?_
  refine gK 1 [(6, vI 230)] [] ?_
  refine NN (af.ret (aj.ar ?_))
  exact RT (vI 230) [0, 1, 2, 3, 4, 5, 6] (⟨L, by rw [show (actM S root a) = (230, S) by unfold actM; exact if_pos (by omega)] <;> exact ⟨rfl, rfl⟩⟩)
 refine gK 4 [(29, .bool (decide ((a.op : Int) > (7 : Int))))] [(1, a_ 7 b1)] ?_
 refine NN ?_
 refine af.bB (p := (a.op : Int) > (7 : Int)) (fun _ => by kernel_rfl) (fun GW => ?_) (fun GW => ?_)
 ·refine SR ?_
  refine gK 1 [(6, vI 230)] [] ?_
  refine NN (af.ret (aj.ar ?_))
  exact RT (vI 230) [0, 1, 2, 3, 4, 5, 6] (⟨L, by rw [show (actM S root a) = (230, S) by unfold actM; exact if_pos (by omega)] <;> exact ⟨rfl, rfl⟩⟩)
 refine af.skip (NX (af.seq ?_))
 rcases hI.Ls root with hix | ⟨tk, hix, hlv⟩ | ⟨tk, hix, hlv⟩ | ⟨tk, hix, hlv⟩
 ·refine af.region ?_
  refine gK 5 [(33, .map (some m)), (34, vI (root))] [(3, a_ 0 f)] ?_
  refine ai.dN 1 (d := (some 35)) (t := 80) (K := 3) (E := 84) (b := m) (n := S.idx.length) (f := (aP (aK L S.idx))) (x := (.tmp 33)) (ix := (.tmp 34)) (key := vI (root)) (z := .nilIface) (kl := (.int .i64 root)) (r := none) (fun _ => by kernel_rfl) (by kernel_rfl) (fun _ => by kernel_rfl) (fun _ => by kernel_rfl) dz Tryz.underlying80 (fun _ => by kernel_rfl) (gX hrw) (by rw [dO, hix]; rfl) ?_
  refine gK 1 [(7, .nilIface)] [] ?_
  refine NN (af.seq (SR ?_))
  refine gK 2 [(37, .bool true)] [] ?_
  refine NN ?_
  refine CT ?_
  refine SR ?_
  refine gK 1 [(6, vI 141)] [] ?_
  refine NN (af.ret (aj.ar ?_))
  exact RT (vI 141) [0, 1, 2, 3, 4, 5, 6] (⟨L, by rw [show (actM S root a) = (141, S) by unfold actM; rw [if_neg (by omega), hix]] <;> exact ⟨rfl, rfl⟩⟩)
 ·have hkt : (obj S.O tk).kind = 1 := hI.kind hlv
  refine af.region ?_
  refine gK 5 [(33, .map (some m)), (34, vI (root))] [(3, a_ 0 f)] ?_
  refine ai.dN 1 (d := (some 35)) (t := 80) (K := 3) (E := 84) (b := m) (n := S.idx.length) (f := (aP (aK L S.idx))) (x := (.tmp 33)) (ix := (.tmp 34)) (key := vI (root)) (z := .nilIface) (kl := (.int .i64 root)) (r := (some (cG L ⟨tk, 1⟩))) (fun _ => by kernel_rfl) (by kernel_rfl) (fun _ => by kernel_rfl) (fun _ => by kernel_rfl) dz Tryz.underlying80 (fun _ => by kernel_rfl) (gX hrw) (by rw [dO, hix]; rfl) ?_
  refine gK 1 [(7, .iface 89 (vP (L.b tk)))] [] ?_
  refine NN (af.seq (SR ?_))
  refine gK 2 [(37, .bool false)] [] ?_
  refine NN ?_
  refine CF ?_
  refine af.skip (NX (SR ?_))
  refine gK 7 [(8, .pointer none), (9, .bool false)] [] ?_
  refine NN (af.seq (SR ?_))
  refine gK 2 [(44, .bool true)] [] ?_
  refine NN ?_
  refine CT ?_
  refine SR ?_
  refine gK 1 [(6, vI 173)] [] ?_
  refine NN (af.ret (aj.ar ?_))
  exact RT (vI 173) [0, 1, 2, 3, 4, 5, 6] (⟨L, by rw [show (actM S root a) = (173, S) by unfold actM; rw [if_neg (by omega), hix]; simp only; exact if_neg (by simp)] <;> exact ⟨rfl, rfl⟩⟩)
 ·have hkt : (obj S.O tk).kind = 2 := hI.kind hlv
  refine af.region ?_
  refine gK 5 [(33, .map (some m)), (34, vI (root))] [(3, a_ 0 f)] ?_
  refine ai.dN 1 (d := (some 35)) (t := 80) (K := 3) (E := 84) (b := m) (n := S.idx.length) (f := (aP (aK L S.idx))) (x := (.tmp 33)) (ix := (.tmp 34)) (key := vI (root)) (z := .nilIface) (kl := (.int .i64 root)) (r := (some (cG L ⟨tk, 2⟩))) (fun _ => by kernel_rfl) (by kernel_rfl) (fun _ => by kernel_rfl) (fun _ => by kernel_rfl) dz Tryz.underlying80 (fun _ => by kernel_rfl) (gX hrw) (by rw [dO, hix]; rfl) ?_
  refine gK 1 [(7, .iface 96 (vP (L.b tk)))] [] ?_
  refine NN (af.seq (SR ?_))
  refine gK 2 [(37, .bool false)] [] ?_
  refine NN ?_
  refine CF ?_
  refine af.skip (NX (SR ?_))
  refine gK 7 [(8, vP (L.b tk)), (9, .bool true)] [] ?_
  refine NN (af.seq (SR ?_))
  refine gK 2 [(44, .bool false)] [] ?_
  refine NN ?_
  refine CF ?_
  refine af.skip (NX (SR ?_))
  refine gK 4 [(46, vP f), (47, vP (L.b tk)), (49, .string a.path)] [(3, a_ 7 b1)] ?_
  rcases Am hI hlv a.path with ⟨e, iB, hne⟩ | ⟨d, name, iB, hd, gA, hgn⟩
  ·refine gL (f := 53) (args := #[vP f, vP (L.b tk), .string a.path]) (pre := [.abs (ak (aQ S.O L)), .abs (ak (bh S.O L))]) [3, 5] ((by have h := vg (β := β) S L f hI tk hlv a.path GV hg; rw [iB] at h; exact h)) ?_
   rintro _ _ ⟨rfl, rfl⟩
   refine gK 7 [(10, .pointer none), (11, .string ⟨#[]⟩), (12, vI (e))] [] ?_
   refine NN (af.seq (SR ?_))
   refine gK 2 [(55, .bool (!(decide ((e : Int) = (0 : Int)))))] [] ?_
   refine NN ?_
   refine af.cr (p := (e : Int) = (0 : Int)) (fun _ => by kernel_rfl) (fun N8 => ?_) (fun N8 => ?_)
   ·refine SR ?_
    refine gK 2 [(6, vI (e))] [] ?_
    refine NN (af.ret (aj.ar ?_))
    exact RT (vI (e)) [2, 3, 4, 0, 5, 1, 6] (⟨L, by rw [show (actM S root a) = (e, S) by unfold actM; rw [if_neg (by omega), hix]; simp only; rw [if_pos trivial, iB]] <;> exact ⟨rfl, rfl⟩⟩)
   exact absurd N8 hne
  have hkd : (obj S.O d).kind = 2 := hI.kind hd
  have hsz : name.size ≤ 1048576 := Al hgn
  refine gL (f := 53) (args := #[vP f, vP (L.b tk), .string a.path]) (pre := [.abs (ak (aQ S.O L)), .abs (ak (bh S.O L))]) [3, 5] ((by have h := vg (β := β) S L f hI tk hlv a.path GV hg; rw [iB] at h; exact h)) ?_
  rintro _ _ ⟨rfl, rfl⟩
  refine gK 7 [(10, vP (L.b d)), (11, .string name), (12, vI 0)] [] ?_
  refine NN (af.seq (SR ?_))
  refine gK 2 [(55, .bool false)] [] ?_
  refine NN ?_
  refine CF ?_
  refine af.skip (NX (af.seq (SR ?_)))
  refine gK 2 [(58, vI (a.op))] [(1, a_ 7 b1)] ?_
  refine NN (af.block (SR ?_))
  refine gK 2 [(59, .bool (decide ((a.op : Int) = (1 : Int))))] [] ?_
  refine NN ?_
  refine af.bB (p := (a.op : Int) = (1 : Int)) (fun _ => by kernel_rfl) (fun Pz => ?_) (fun Pz => ?_)
  ·refine af.seq (SR ?_)
   refine gK 3 [(61, vP f), (62, vP (L.b d)), (63, .string name)] [] ?_
   refine gL [2, 3, 1, 0] (qD S L f m t hI d hd name hsz) ?_
   rintro _ _ ⟨rfl, rfl⟩
   refine gK 1 [(12, vI ((bO S.X S.O S.idx d name)))] [] ?_
   refine NS ?_
   refine gK 2 [(66, .bool (!(decide (((bO S.X S.O S.idx d name) : Int) = (0 : Int)))))] [] ?_
   refine NN ?_
   refine af.cr (p := ((bO S.X S.O S.idx d name) : Int) = (0 : Int)) (fun _ => by kernel_rfl) (fun h0 => ?_) (fun h0 => ?_)
   ·refine SR ?_
    refine gK 2 [(6, vI ((bO S.X S.O S.idx d name)))] [] ?_
    refine NN (af.ret (aj.ar (aj.aG (aj.ar ?_))))
    exact RT (vI ((bO S.X S.O S.idx d name))) [0, 1, 4, 3, 5, 2, 6] (⟨L, by rw [show (actM S root a) = (bO S.X S.O S.idx d name, S) by unfold actM; rw [if_neg (by omega), hix]; simp only; rw [if_pos trivial, iB]; simp only; unfold actR; rw [if_pos (by omega)]; unfold actNew; exact if_neg h0] <;> exact ⟨rfl, rfl⟩⟩)
   have hno := lY h0
   refine af.skip (NX (SR ?_))
   refine gK 1 [(68, vP f)] [] ?_
   refine gL [0] (qC S.X f m t hX 420) ?_
   rintro _ _ ⟨rfl, rfl⟩
   refine gN 2 (fun b2 => [(71, vP b2)]) (fun _ => []) (fun _ => []) (fun b2 => .blk b2 [vI (S.X.last + 1), vI (420), vI 0, vI 0, vI (S.X.cS), vI (S.X.cZ), vI 0, vI 0, .bool false, .slice none (0) (0)] 92) (fun b2 => ?_)
   obtain ⟨L2, hL2⟩ : ∃ L2 : HL, L2 = L.put (aE S.X) b2 0 none 0 := ⟨_, rfl⟩
   have hfr := hI.toInv0.fresh
   refine ai.mem (aL := [.abs (ak (aQ (aB S.O (aE S.X) (fun _ => (aD S.X 1 420))) L2)), .blk f [vI (S.X.cN), vI (S.X.cB), vI (S.X.cH), vI (S.X.cS), vI (S.X.cZ), .map (some m), vP t, vI (S.X.last + 1), vI (S.X.ah), vI (S.X.used)] 86, .abs (aH Tryz.prog 3 m (aP (aK L S.idx)) S.idx.length), .abs (ak (bh S.O L)), .abs (aZ 156 t S.X.cH S.ay (aK L S.us)), .abs (ak (aW S.O L)), .abs R, .blk b1 [vI (a.at_), vI (a.op), .string a.path, .string a.to, .string a.text] 45]) (fun w hS => hS.qA hL2 hfr (o := (aD S.X 1 420)) (i := 3) (j := 8) (ix := [0, 1, 2, 4, 5, 6, 7]) rfl rfl (by kernel_rfl) rfl (by show (1 : Int) ≠ 0; decide) ((eE (L := L2) (k := (aE S.X)) (o := (aD S.X 1 420)) rfl).trans (by rw [show L2.dA (aE S.X) = none by rw [hL2]; exact if_pos rfl, show L2.dC (aE S.X) = 0 by rw [hL2]; exact if_pos rfl]; rfl)) rfl) ?_
   refine ai.mem (aL := [pO (aB S.O (aE S.X) (fun _ => (aD S.X 1 420))) L2, pF f m t { S.X with last := S.X.last + 1 }, pI m L S.idx, pE (aB S.O (aE S.X) (fun _ => (aD S.X 1 420))) L2, pT t S.X.cH S.ay L S.us, pD S.O L, .abs R, .blk b1 [vI (a.at_), vI (a.op), .string a.path, .string a.to, .string a.text] 45]) (fun w hS => hS.rG hL2 hfr (o := (aD S.X 1 420)) (i := 3) rfl (by show (1 : Int) ≠ 2; decide)) ?_
   refine ai.mem (aL := [pO (aB S.O (aE S.X) (fun _ => (aD S.X 1 420))) L2, pF f m t { S.X with last := S.X.last + 1 }, pI m L S.idx, pE (aB S.O (aE S.X) (fun _ => (aD S.X 1 420))) L2, pT t S.X.cH S.ay L S.us, pD S.O L, .abs R, .blk b1 [vI (a.at_), vI (a.op), .string a.path, .string a.to, .string a.text] 45, .abs (aF 5 1 none 0 0 ([]))]) (fun w hS => hS.jL (e := 5) (size := 1)) ?_
   refine ai.mem (aL := [pD (aB S.O (aE S.X) (fun _ => (aD S.X 1 420))) L2, pO (aB S.O (aE S.X) (fun _ => (aD S.X 1 420))) L2, pF f m t { S.X with last := S.X.last + 1 }, pI m L S.idx, pE (aB S.O (aE S.X) (fun _ => (aD S.X 1 420))) L2, pT t S.X.cH S.ay L S.us, .abs R, .blk b1 [vI (a.at_), vI (a.op), .string a.path, .string a.to, .string a.text] 45]) (fun w hS => hS.Es hL2 (o := (aD S.X 1 420)) (i := 5) (j := 8) (ix := [0, 1, 2, 3, 4, 6, 7]) rfl rfl (by kernel_rfl) rfl rfl rfl) ?_
   refine ai.mem (aL := [.abs (ak (aW (aB S.O (aE S.X) (fun _ => (aD S.X 1 420))) L2)), .abs (ak (aQ (aB S.O (aE S.X) (fun _ => (aD S.X 1 420))) L2)), .blk f [vI (S.X.cN), vI (S.X.cB), vI (S.X.cH), vI (S.X.cS), vI (S.X.cZ), .map (some m), vP t, vI (S.X.last + 1), vI (S.X.ah), vI (S.X.used)] 86, .abs (aH Tryz.prog 3 m (aP (aK L2 S.idx)) S.idx.length), .abs (ak (bh (aB S.O (aE S.X) (fun _ => (aD S.X 1 420))) L2)), .abs (aZ 156 t S.X.cH S.ay (aK L2 S.us)), .abs R, .blk b1 [vI (a.at_), vI (a.op), .string a.path, .string a.to, .string a.text] 45]) (fun w hS => by rw [fo hL2 hfr.idx, fo hL2 hfr.us]; exact hS) ?_
   refine gK 1 [(13, vP b2)] [] ?_
   refine NS ?_
   refine gK 5 [(72, vP f), (73, vP (L.b d)), (74, .string name), (76, .iface 89 (vP b2))] [] ?_
   refine gL (f := 56) (args := #[vP f, vP (L.b d), .string name, .iface 89 (vP b2)]) (pre := [.blk f [vI (S.X.cN), vI (S.X.cB), vI (S.X.cH), vI (S.X.cS), vI (S.X.cZ), .map (some m), vP t, vI (S.X.last + 1), vI (S.X.ah), vI (S.X.used)] 86, .abs (aH Tryz.prog 3 m (aP (aK L2 S.idx)) S.idx.length), .abs (ak (aQ (aB S.O (aE S.X) (fun _ => (aD S.X 1 420))) L2)), .abs (ak (bh (aB S.O (aE S.X) (fun _ => (aD S.X 1 420))) L2))]) [2, 3, 1, 4] ((by have h := oP (β := β) S L2 f m t hI.toInv0 d hd name hsz hno (aD S.X 1 420) rfl (by simp [aD]) rfl (nI h0); rw [su hL2 (hI.rF hd), lX hL2] at h; exact h)) ?_
   rintro _ _ ⟨rfl, rfl⟩
   refine NS ?_
   refine ai.mem (aL := [.blk f [vI ((bD S d name (aD S.X 1 420)).X.cN), vI ((bD S d name (aD S.X 1 420)).X.cB), vI ((bD S d name (aD S.X 1 420)).X.cH), vI ((bD S d name (aD S.X 1 420)).X.cS), vI ((bD S d name (aD S.X 1 420)).X.cZ), .map (some m), vP t, vI ((bD S d name (aD S.X 1 420)).X.last), vI ((bD S d name (aD S.X 1 420)).X.ah), vI ((bD S d name (aD S.X 1 420)).X.used)] 86, .abs (aH Tryz.prog 3 m (aP (aK L2 (bD S d name (aD S.X 1 420)).idx)) ((bD S d name (aD S.X 1 420)).idx.length)), .abs (ak (aQ ((bD S d name (aD S.X 1 420)).O) L2)), .abs (ak (bh ((bD S d name (aD S.X 1 420)).O) L2)), .abs (ak (aW ((bD S d name (aD S.X 1 420)).O) L2)), .abs (aZ 156 t S.X.cH S.ay (aK L2 S.us)), .abs R, .blk b1 [vI (a.at_), vI (a.op), .string a.path, .string a.to, .string a.text] 45]) (fun w hS => by rw [show aW ((bD S d name (aD S.X 1 420)).O) L2 = aW (aB S.O (aE S.X) (fun _ => (aD S.X 1 420))) L2 from fI]; exact hS) ?_
   have tj : Inv (bD S d name (aD S.X 1 420)) := hI.Bb hd gA hgn h0 (.inl rfl) ⟨by decide, by decide⟩ (.inl ⟨by decide, rfl⟩)
   have PA : Live (bD S d name (aD S.X 1 420)).idx ⟨(aE S.X), 1⟩ := Cl hI (o := (aD S.X 1 420))
   refine gK 4 [(78, vP f), (79, vP b2), (81, .string a.text)] [(3, a_ 7 b1)] ?_
   refine ai.Cv (d := (some 82)) (t1 := 9) (t2 := 41) (e := 5) (x := (.tmp 81)) (s := a.text) (fun _ => by kernel_rfl) (fun _ => by kernel_rfl) Tryz.underlying9 Tryz.underlying41 Tryz.underlying5 (fun b3 c4 OM => ?_)
   refine gL (f := 57) (args := #[vP f, vP b2, .slice (some ⟨b3, 0, none⟩) (a.text.data.toList.length) (c4)]) (pre := [.abs (mB β (fun β' => bI β' (some ⟨b3, 0, none⟩) a.text.data.toList)), .blk f [vI ((bD S d name (aD S.X 1 420)).X.cN), vI ((bD S d name (aD S.X 1 420)).X.cB), vI ((bD S d name (aD S.X 1 420)).X.cH), vI ((bD S d name (aD S.X 1 420)).X.cS), vI ((bD S d name (aD S.X 1 420)).X.cZ), .map (some m), vP t, vI ((bD S d name (aD S.X 1 420)).X.last), vI ((bD S d name (aD S.X 1 420)).X.ah), vI ((bD S d name (aD S.X 1 420)).X.used)] 86, .abs (aH Tryz.prog 3 m (aP (aK L2 (bD S d name (aD S.X 1 420)).idx)) ((bD S d name (aD S.X 1 420)).idx.length)), .abs (aZ 156 t S.X.cH S.ay (aK L2 S.us)), .abs (ak (aQ ((bD S d name (aD S.X 1 420)).O) L2)), .abs (ak (aW ((bD S d name (aD S.X 1 420)).O) L2)), .abs (ak (bh ((bD S d name (aD S.X 1 420)).O) L2))]) [8, 0, 1, 5, 2, 4, 3] ((by have h := yg (β := β) (bD S d name (aD S.X 1 420)) L2 f m t tj (aE S.X) PA (some ⟨b3, 0, none⟩) c4 a.text.data.toList (by rw [Array.length_toList]; have : a.text.data.size = a.text.size := rfl; omega) OM; rw [xB hL2] at h; exact h)) ?_
   rintro _ _ ⟨L3, rfl, rfl⟩
   refine NS ?_
   refine gK 1 [(6, vI 0)] [] ?_
   refine NN (af.ret (aj.aG (aj.ar ?_)))
   exact RT (vI 0) [0, 1, 2, 3, 4, 5, 6] (⟨L3, by rw [show (actM S root a) = (0, (writeM (bD S d name (aD S.X 1 420)) (aE S.X) a.text.data.toList).2.2) by unfold actM; rw [if_neg (by omega), hix]; simp only; rw [if_pos trivial, iB]; simp only; unfold actR; rw [if_pos (by omega)]; unfold actNew; exact if_pos h0] <;> exact ⟨rfl, rfl⟩⟩)
  refine SR ?_
  refine gK 2 [(84, .bool (decide ((a.op : Int) = (2 : Int))))] [] ?_
  refine NN ?_
  refine af.bB (p := (a.op : Int) = (2 : Int)) (fun _ => by kernel_rfl) (fun PB => ?_) (fun PB => ?_)
  ·refine SR ?_
   refine gK 3 [(86, vP f), (87, vP (L.b d)), (88, .string name)] [] ?_
   refine gL [2, 3, 4, 0, 5, 1] (Ai S L f m t hI d hd name hsz 493) ?_
   rintro _ _ ⟨L2, rfl, rfl⟩
   refine gK 1 [(6, vI ((mkdirM S d name 493).1))] [] ?_
   refine NN (af.ret (aj.aG (aj.ar ?_)))
   exact RT (vI ((mkdirM S d name 493).1)) [0, 1, 2, 3, 4, 5, 6] (⟨L2, by rw [show (actM S root a) = ((mkdirM S d name 493).1, (mkdirM S d name 493).2) by unfold actM; rw [if_neg (by omega), hix]; simp only; rw [if_pos trivial, iB]; simp only; unfold actR; rw [if_neg (by omega)]; exact if_pos (by omega)] <;> exact ⟨rfl, rfl⟩⟩)
  refine SR ?_
  refine gK 2 [(90, .bool (decide ((a.op : Int) = (3 : Int))))] [] ?_
  refine NN ?_
  refine af.bB (p := (a.op : Int) = (3 : Int)) (fun _ => by kernel_rfl) (fun PD => ?_) (fun PD => ?_)
  ·refine SR ?_
   refine gK 5 [(92, vP f), (93, vP (L.b d)), (94, .string name), (96, .string a.text)] [(4, a_ 7 b1)] ?_
   refine gL [2, 3, 4, 0, 5, 1] (vF S L f m t hI d hd name hsz a.text hxz) ?_
   rintro _ _ ⟨L2, rfl, rfl⟩
   refine gK 1 [(6, vI ((symlinkM S d name a.text).1))] [] ?_
   refine NN (af.ret (aj.aG (aj.ar ?_)))
   exact RT (vI ((symlinkM S d name a.text).1)) [0, 1, 2, 3, 4, 5, 6] (⟨L2, by rw [show (actM S root a) = ((symlinkM S d name a.text).1, (symlinkM S d name a.text).2) by unfold actM; rw [if_neg (by omega), hix]; simp only; rw [if_pos trivial, iB]; simp only; unfold actR; rw [if_neg (by omega)]; rw [if_neg (by omega)]; exact if_pos (by omega)] <;> exact ⟨rfl, rfl⟩⟩)
  refine SR ?_
  refine gK 2 [(98, .bool (decide ((a.op : Int) = (4 : Int))))] [] ?_
  refine NN ?_
  refine af.bB (p := (a.op : Int) = (4 : Int)) (fun _ => by kernel_rfl) (fun PE => ?_) (fun PE => ?_)
  ·refine SR ?_
   refine gK 3 [(100, vP f), (101, vP (L.b d)), (102, .string name)] [] ?_
   refine gL [2, 3, 4, 0, 5, 1] (x7 S L f m t hI d hd name hsz) ?_
   rintro _ _ ⟨L2, rfl, rfl⟩
   refine gK 1 [(6, vI ((unlinkM S d name).1))] [] ?_
   refine NN (af.ret (aj.aG (aj.ar ?_)))
   exact RT (vI ((unlinkM S d name).1)) [0, 1, 2, 3, 4, 5, 6] (⟨L2, by rw [show (actM S root a) = ((unlinkM S d name).1, (unlinkM S d name).2) by unfold actM; rw [if_neg (by omega), hix]; simp only; rw [if_pos trivial, iB]; simp only; unfold actR; rw [if_neg (by omega)]; rw [if_neg (by omega)]; rw [if_neg (by omega)]; exact if_pos (by omega)] <;> exact ⟨rfl, rfl⟩⟩)
  refine SR ?_
  refine gK 2 [(104, .bool (decide ((a.op : Int) = (5 : Int))))] [] ?_
  refine NN ?_
  refine af.bB (p := (a.op : Int) = (5 : Int)) (fun _ => by kernel_rfl) (fun OO => ?_) (fun OO => ?_)
  ·refine SR ?_
   refine gK 3 [(106, vP f), (107, vP (L.b d)), (108, .string name)] [] ?_
   refine gL [2, 3, 4, 0, 5, 1] (Aj S L f m t hI d hd name hsz) ?_
   rintro _ _ ⟨L2, rfl, rfl⟩
   refine gK 1 [(6, vI ((rmdirM S d name).1))] [] ?_
   refine NN (af.ret (aj.aG (aj.ar ?_)))
   exact RT (vI ((rmdirM S d name).1)) [0, 1, 2, 3, 4, 5, 6] (⟨L2, by rw [show (actM S root a) = ((rmdirM S d name).1, (rmdirM S d name).2) by unfold actM; rw [if_neg (by omega), hix]; simp only; rw [if_pos trivial, iB]; simp only; unfold actR; rw [if_neg (by omega)]; rw [if_neg (by omega)]; rw [if_neg (by omega)]; rw [if_neg (by omega)]; exact if_pos (by omega)] <;> exact ⟨rfl, rfl⟩⟩)
  refine SR ?_
  refine gK 2 [(110, .bool (decide ((a.op : Int) = (6 : Int))))] [] ?_
  refine NN ?_
  refine af.bB (p := (a.op : Int) = (6 : Int)) (fun _ => by kernel_rfl) (fun OQ => ?_) (fun OQ => ?_)
  ·refine SR ?_
   refine gK 4 [(113, vP f), (114, vP (L.b tk)), (116, .string a.to)] [(3, a_ 7 b1)] ?_
   rcases Am hI hlv a.to with ⟨e2, yt, Cz⟩ | ⟨to, toName, yt, hd2, LY, IK⟩
   ·refine gL (f := 53) (args := #[vP f, vP (L.b tk), .string a.to]) (pre := [.abs (ak (aQ S.O L)), .abs (ak (bh S.O L))]) [0, 1] ((by have h := vg (β := β) S L f hI tk hlv a.to JL hg; rw [yt] at h; exact h)) ?_
    rintro _ _ ⟨rfl, rfl⟩
    refine gK 7 [(14, .pointer none), (15, .string ⟨#[]⟩), (16, vI (e2))] [] ?_
    refine NN (af.seq (SR ?_))
    refine gK 2 [(122, .bool (!(decide ((e2 : Int) = (0 : Int)))))] [] ?_
    refine NN ?_
    refine af.cr (p := (e2 : Int) = (0 : Int)) (fun _ => by kernel_rfl) (fun Mi => ?_) (fun Mi => ?_)
    ·refine SR ?_
     refine gK 2 [(6, vI (e2))] [] ?_
     refine NN (af.ret (aj.ar (aj.aG (aj.ar ?_))))
     exact RT (vI (e2)) [2, 3, 4, 0, 5, 1, 6] (⟨L, by rw [show (actM S root a) = (e2, S) by unfold actM; rw [if_neg (by omega), hix]; simp only; rw [if_pos trivial, iB]; simp only; unfold actR; rw [if_neg (by omega)]; rw [if_neg (by omega)]; rw [if_neg (by omega)]; rw [if_neg (by omega)]; rw [if_neg (by omega)]; rw [if_pos (by omega)]; rw [yt]] <;> exact ⟨rfl, rfl⟩⟩)
    exact absurd Mi Cz
   have dg : (obj S.O to).kind = 2 := hI.kind hd2
   have mD : toName.size ≤ 1048576 := Al IK
   refine gL (f := 53) (args := #[vP f, vP (L.b tk), .string a.to]) (pre := [.abs (ak (aQ S.O L)), .abs (ak (bh S.O L))]) [0, 1] ((by have h := vg (β := β) S L f hI tk hlv a.to JL hg; rw [yt] at h; exact h)) ?_
   rintro _ _ ⟨rfl, rfl⟩
   refine gK 7 [(14, vP (L.b to)), (15, .string toName), (16, vI 0)] [] ?_
   refine NN (af.seq (SR ?_))
   refine gK 2 [(122, .bool false)] [] ?_
   refine NN ?_
   refine CF ?_
   refine af.skip (NX (SR ?_))
   refine gK 5 [(124, vP f), (125, vP (L.b d)), (126, .string name), (127, vP (L.b to)), (128, .string toName)] [] ?_
   refine gL [2, 3, 4, 0, 5, 1] (x9 S L f m t hI d hd name hsz to hd2 toName mD) ?_
   rintro _ _ ⟨L2, rfl, rfl⟩
   refine gK 1 [(6, vI ((renameM S d name to toName).1))] [] ?_
   refine NN (af.ret (aj.aG (aj.ar ?_)))
   exact RT (vI ((renameM S d name to toName).1)) [0, 1, 2, 3, 4, 5, 6] (⟨L2, by rw [show (actM S root a) = ((renameM S d name to toName).1, (renameM S d name to toName).2) by unfold actM; rw [if_neg (by omega), hix]; simp only; rw [if_pos trivial, iB]; simp only; unfold actR; rw [if_neg (by omega)]; rw [if_neg (by omega)]; rw [if_neg (by omega)]; rw [if_neg (by omega)]; rw [if_neg (by omega)]; rw [if_pos (by omega)]; rw [yt]] <;> exact ⟨rfl, rfl⟩⟩)
  refine af.skip (aj.aT (NX (af.seq (af.seq ?_))))
  have hel : (obj S.O d).ah.length ≤ 8192 := hI.eS hd
  have GD := hsz
  rcases hI.jY hd name with bp | ⟨ok, bp, dr⟩ | ⟨ok, bp, dr⟩ | ⟨ok, bp, dr⟩
  ·refine af.region ?_
   refine gK 5 [(133, .map (some (L.m d))), (134, .string name)] [(3, v_ 0 (bC L hkd))] ?_
   refine fR 1 hkd bp ?_
   refine NN (af.block (SR ?_))
   refine gK 3 [(137, .bool false), (138, .pointer none)] [] ?_
   refine NN ?_
   refine CF ?_
   refine SR ?_
   refine gK 3 [(140, .bool false), (141, .pointer none)] [] ?_
   refine NN ?_
   refine CF ?_
   refine SR ?_
   refine gK 3 [(143, .bool false), (144, .pointer none)] [] ?_
   refine NN ?_
   refine CF ?_
   refine af.skip (aj.aT (NX (SR ?_)))
   refine gK 1 [(6, vI 170)] [] ?_
   refine NN (af.ret ?_)
   exact RT (vI 170) [2, 3, 4, 0, 5, 1, 6] (⟨L, by rw [show (actM S root a) = (170, S) by unfold actM; rw [if_neg (by omega), hix]; simp only; rw [if_pos trivial, iB]; simp only; unfold actR; rw [if_neg (by omega)]; rw [if_neg (by omega)]; rw [if_neg (by omega)]; rw [if_neg (by omega)]; rw [if_neg (by omega)]; rw [if_neg (by omega)]; unfold actWrite; rw [bp]] <;> exact ⟨rfl, rfl⟩⟩)
  ·have jt : (obj S.O ok).kind = 1 := hI.kind dr
   refine af.region ?_
   refine gK 5 [(133, .map (some (L.m d))), (134, .string name)] [(3, v_ 0 (bC L hkd))] ?_
   refine fR 1 hkd bp ?_
   refine NN (af.block (SR ?_))
   refine gK 3 [(137, .bool false), (138, .pointer none)] [] ?_
   refine NN ?_
   refine CF ?_
   refine SR ?_
   refine gK 3 [(140, .bool false), (141, .pointer none)] [] ?_
   refine NN ?_
   refine CF ?_
   refine SR ?_
   refine gK 3 [(143, .bool true), (144, vP (L.b ok))] [] ?_
   refine NN ?_
   refine CT ?_
   refine SR ?_
   refine gK 1 [(19, vP (L.b ok))] [] ?_
   refine NS ?_
   refine gK 4 [(146, vP f), (147, vP (L.b ok)), (149, .string a.text)] [(3, a_ 7 b1)] ?_
   refine ai.Cv (d := (some 150)) (t1 := 9) (t2 := 41) (e := 5) (x := (.tmp 149)) (s := a.text) (fun _ => by kernel_rfl) (fun _ => by kernel_rfl) Tryz.underlying9 Tryz.underlying41 Tryz.underlying5 (fun b6 c7 OT => ?_)
   refine gL [8, 2, 3, 4, 0, 5, 1] (yg (β := β) S L f m t hI ok dr (some ⟨b6, 0, none⟩) c7 a.text.data.toList (by rw [Array.length_toList]; have : a.text.data.size = a.text.size := rfl; omega) OT) ?_
   rintro _ _ ⟨L3, rfl, rfl⟩
   refine gK 5 [(21, vI ((writeM S ok a.text.data.toList).2.1))] [] ?_
   refine NS ?_
   refine gK 2 [(6, vI ((writeM S ok a.text.data.toList).2.1))] [] ?_
   refine NN (af.ret (aj.aG (aj.ar ?_)))
   exact RT (vI ((writeM S ok a.text.data.toList).2.1)) [0, 1, 2, 3, 4, 5, 6] (⟨L3, by rw [show (actM S root a) = ((writeM S ok a.text.data.toList).2.1, (writeM S ok a.text.data.toList).2.2) by unfold actM; rw [if_neg (by omega), hix]; simp only; rw [if_pos trivial, iB]; simp only; unfold actR; rw [if_neg (by omega)]; rw [if_neg (by omega)]; rw [if_neg (by omega)]; rw [if_neg (by omega)]; rw [if_neg (by omega)]; rw [if_neg (by omega)]; unfold actWrite; rw [bp]; exact (if_neg (by simp)).trans (if_neg (by simp))] <;> exact ⟨rfl, rfl⟩⟩)
  ·have jt : (obj S.O ok).kind = 2 := hI.kind dr
   refine af.region ?_
   refine gK 5 [(133, .map (some (L.m d))), (134, .string name)] [(3, v_ 0 (bC L hkd))] ?_
   refine fR 1 hkd bp ?_
   refine NN (af.block (SR ?_))
   refine gK 3 [(137, .bool false), (138, .pointer none)] [] ?_
   refine NN ?_
   refine CF ?_
   refine SR ?_
   refine gK 3 [(140, .bool true), (141, vP (L.b ok))] [] ?_
   refine NN ?_
   refine CT ?_
   refine SR ?_
   refine gK 1 [] [] ?_
   refine NS ?_
   refine gK 1 [(6, vI 172)] [] ?_
   refine NN (af.ret (aj.aG (aj.ar ?_)))
   exact RT (vI 172) [2, 3, 4, 0, 5, 1, 6] (⟨L, by rw [show (actM S root a) = (172, S) by unfold actM; rw [if_neg (by omega), hix]; simp only; rw [if_pos trivial, iB]; simp only; unfold actR; rw [if_neg (by omega)]; rw [if_neg (by omega)]; rw [if_neg (by omega)]; rw [if_neg (by omega)]; rw [if_neg (by omega)]; rw [if_neg (by omega)]; unfold actWrite; rw [bp]; exact (if_neg (by simp)).trans (if_pos rfl)] <;> exact ⟨rfl, rfl⟩⟩)
  have jt : (obj S.O ok).kind = 3 := hI.kind dr
  refine af.region ?_
  refine gK 5 [(133, .map (some (L.m d))), (134, .string name)] [(3, v_ 0 (bC L hkd))] ?_
  refine fR 1 hkd bp ?_
  refine NN (af.block (SR ?_))
  refine gK 3 [(137, .bool true), (138, vP (L.b ok))] [] ?_
  refine NN ?_
  refine CT ?_
  refine SR ?_
  refine gK 1 [] [] ?_
  refine NS ?_
  refine gK 1 [(6, vI 174)] [] ?_
  refine NN (af.ret (aj.aG (aj.ar ?_)))
  exact RT (vI 174) [2, 3, 4, 0, 5, 1, 6] (⟨L, by rw [show (actM S root a) = (174, S) by unfold actM; rw [if_neg (by omega), hix]; simp only; rw [if_pos trivial, iB]; simp only; unfold actR; rw [if_neg (by omega)]; rw [if_neg (by omega)]; rw [if_neg (by omega)]; rw [if_neg (by omega)]; rw [if_neg (by omega)]; rw [if_neg (by omega)]; unfold actWrite; rw [bp]; exact if_pos rfl] <;> exact ⟨rfl, rfl⟩⟩)
 have hkt : (obj S.O tk).kind = 3 := hI.kind hlv
 refine af.region ?_
 refine gK 5 [(33, .map (some m)), (34, vI (root))] [(3, a_ 0 f)] ?_
 refine ai.dN 1 (d := (some 35)) (t := 80) (K := 3) (E := 84) (b := m) (n := S.idx.length) (f := (aP (aK L S.idx))) (x := (.tmp 33)) (ix := (.tmp 34)) (key := vI (root)) (z := .nilIface) (kl := (.int .i64 root)) (r := (some (cG L ⟨tk, 3⟩))) (fun _ => by kernel_rfl) (by kernel_rfl) (fun _ => by kernel_rfl) (fun _ => by kernel_rfl) dz Tryz.underlying80 (fun _ => by kernel_rfl) (gX hrw) (by rw [dO, hix]; rfl) ?_
 refine gK 1 [(7, .iface 93 (vP (L.b tk)))] [] ?_
 refine NN (af.seq (SR ?_))
 refine gK 2 [(37, .bool false)] [] ?_
 refine NN ?_
 refine CF ?_
 refine af.skip (NX (SR ?_))
 refine gK 7 [(8, .pointer none), (9, .bool false)] [] ?_
 refine NN (af.seq (SR ?_))
 refine gK 2 [(44, .bool true)] [] ?_
 refine NN ?_
 refine CT ?_
 refine SR ?_
 refine gK 1 [(6, vI 173)] [] ?_
 refine NN (af.ret (aj.ar ?_))
 exact RT (vI 173) [0, 1, 2, 3, 4, 5, 6] (⟨L, by rw [show (actM S root a) = (173, S) by unfold actM; rw [if_neg (by omega), hix]; simp only; exact if_neg (by simp)] <;> exact ⟨rfl, rfl⟩⟩)
end
section
open Go.RowKit
attribute [local irreducible] ai aR af aj
theorem I7 {β : Bs} (A : Option Addr) (ns : List aN) (L : Lay) (hG : aC β A ns L) (hr : ck ns) (i : Nat) (hi : i < ns.length) (hel : (nd ns i).ah.length ≤ 1048576) (hwf : ∀ j, j < (nd ns i).ah.length → -9223372036854775808 ≤ (ent ns i j).id ∧ (ent ns i j).id ≤ 9223372036854775807) (hnm : ∀ j, j < (nd ns i).ah.length → (ent ns i j).name.size ≤ 1048576)
    (mb mp : Nat) (ps : List (Nat × Nat)) (hpl : ps.length ≤ 16777216) (hps : ∀ p, p ∈ ps → p.1 < ns.length) (hnp : (ps.map Prod.fst).Nodup) :
    Spec Tryz.prog β 120 #[.pointer (some ⟨(av A), au A + i * 10, none⟩), .map (some mb), .map (some mp)] [.abs (aH Tryz.prog 3 mb (mf (bf A ns ns.length)) ns.length), .abs (aH Tryz.prog 3 mp (mf (pf ((ps).map (fP ns)))) ((ps).length))] (fun v l => (v = .bool true ∧ rV ns i ps ∧ l = [.abs (aH Tryz.prog 3 mb (mf (bf A ns ns.length)) ns.length), .abs (aH Tryz.prog 3 mp (mf (pf ((ct ns i (nd ns i).ah.length ++ ps).map (fP ns)))) ((ct ns i (nd ns i).ah.length ++ ps).length))]) ∨ (v = .bool false ∧ ¬ rV ns i ps ∧ l = [])) := by
 refine Spec.enter Tryz.func120 rfl Tryz.ntmps120 (Nat.le_of_ble_eq_true rfl) (fun R => ?_)
 refine af.seq (af.region ?_)
 refine ai.aA (k' := 1) (fr' := [(0, .pointer (some ⟨(av A), au A + i * 10, none⟩)), (1, .map (some mb)), (2, .map (some mp))]) (aq := []) [o_] [0, 1, 2] (fun _ _ => by kernel_rfl) trivial ?_
 refine ai.nil (by kernel_rfl) (aj.next (af.seq (af.region ?_)))
 refine ai.aA (k' := 1) (fr' := [(0, .pointer (some ⟨(av A), au A + i * 10, none⟩)), (1, .map (some mb)), (2, .map (some mp)), (7, .string ⟨#[]⟩)]) (aq := []) [o_] [0, 1, 2, 7] (fun _ _ => by kernel_rfl) trivial ?_
 refine ai.nil (by kernel_rfl) (aj.next (af.seq (af.seq (af.region ?_))))
 refine ai.aA (k' := 6) (fr' := [(0, .pointer (some ⟨(av A), au A + i * 10, none⟩)), (1, .map (some mb)), (2, .map (some mp)), (7, .string ⟨#[]⟩), (16, .slice (L.eA i) ((nd ns i).ah.length) ((L.eC i))), (17, vI ↑((nd ns i).ah.length)), (18, vI 0)]) (aq := [(Rd β ⟨(av A), au A + i * 10 + 9, none⟩ (.slice (L.eA i) ((nd ns i).ah.length) ((L.eC i))))]) [o_, o_, o_, ⟨[.old (.slice (L.eA i) ((nd ns i).ah.length) ((L.eC i)))], none, none, none, none⟩, o_, o_] [0, 1, 2, 7, 16, 17, 18] (fun _ _ => by kernel_rfl) ⟨aC.rd hG (i := i) (by omega) (j := 9) rfl, trivial⟩ ?_
 refine ai.nil (by kernel_rfl) (aj.next (af.block ?_))
 refine af.loop (ι := Nat) (fun (j : Nat) => (j ≤ (nd ns i).ah.length) ∧ (∀ t, t < j → lg ns i t) ∧ (((ct ns i j ++ ps).map Prod.fst).Nodup)) (fun (j : Nat) => (nd ns i).ah.length - j) (fun (j : Nat) => [(0, .pointer (some ⟨(av A), au A + i * 10, none⟩)), (1, .map (some mb)), (2, .map (some mp)), (7, .string (eW ns i j)), (16, .slice (L.eA i) ((nd ns i).ah.length) ((L.eC i))), (17, vI ↑((nd ns i).ah.length)), (18, vI ↑j)]) (fun (j : Nat) => [.abs (aH Tryz.prog 3 mb (mf (bf A ns ns.length)) ns.length), .abs (aH Tryz.prog 3 mp (mf (pf ((ct ns i j ++ ps).map (fP ns)))) ((ct ns i j ++ ps).length)), .abs R]) 0 (idx := [0, 1, 2, 7, 16, 17, 18]) (pk := [0, 1, 2]) (show (0 ≤ (nd ns i).ah.length) ∧ (∀ t, t < 0 → lg ns i t) ∧ (((ct ns i 0 ++ ps).map Prod.fst).Nodup) from ⟨Nat.zero_le _, fun t ht => absurd ht (Nat.not_lt_zero t), hnp⟩) (fun _ => by kernel_rfl) rfl (by kernel_rfl) ?_
 rintro j ⟨hj, hok, hnd⟩
 show af _ _ _ _ [(0, .pointer (some ⟨(av A), au A + i * 10, none⟩)), (1, .map (some mb)), (2, .map (some mp)), (7, .string (eW ns i j)), (16, .slice (L.eA i) ((nd ns i).ah.length) ((L.eC i))), (17, vI ↑((nd ns i).ah.length)), (18, vI ↑j)] [.abs (aH Tryz.prog 3 mb (mf (bf A ns ns.length)) ns.length), .abs (aH Tryz.prog 3 mp (mf (pf ((ct ns i j ++ ps).map (fP ns)))) ((ct ns i j ++ ps).length)), .abs R] _
 refine af.seq (af.region ?_)
 refine ai.aA (k' := 1) (fr' := [(0, .pointer (some ⟨(av A), au A + i * 10, none⟩)), (1, .map (some mb)), (2, .map (some mp)), (7, .string (eW ns i j)), (16, .slice (L.eA i) ((nd ns i).ah.length) ((L.eC i))), (17, vI ↑((nd ns i).ah.length)), (18, vI ↑j), (19, .bool (decide ((((j : Nat) : Int) : Int) < ((((nd ns i).ah.length : Nat) : Int) : Int))))]) (aq := []) [o_] [0, 1, 2, 7, 16, 17, 18, 19] (fun _ _ => by kernel_rfl) trivial ?_
 refine ai.nil (by kernel_rfl) (aj.next (af.seq ?_))
 refine af.bB (p := (((j : Nat) : Int) : Int) < ((((nd ns i).ah.length : Nat) : Int) : Int)) (fun _ => by kernel_rfl) (fun PF => ?_) (fun PF => ?_)
 ·refine af.skip (aj.next (af.seq (af.block (af.seq (af.region ?_)))))
  refine ai.jR (k' := 4) (fr' := fun b1 => [(0, .pointer (some ⟨(av A), au A + i * 10, none⟩)), (1, .map (some mb)), (2, .map (some mp)), (7, .string (eW ns i j)), (9, vP b1), (16, .slice (L.eA i) ((nd ns i).ah.length) ((L.eC i))), (17, vI ↑((nd ns i).ah.length)), (18, vI ↑j)]) (aL := fun b1 => [.abs (aH Tryz.prog 3 mb (mf (bf A ns ns.length)) ns.length), .abs (aH Tryz.prog 3 mp (mf (pf ((ct ns i j ++ ps).map (fP ns)))) ((ct ns i j ++ ps).length)), .abs R, .blk b1 [.string (en (nd ns i).ah j).name, vI ((en (nd ns i).ah j).id)] 101]) (aq := fun b1 => [b1 = b1, b1 = b1, (Rd β ⟨(av (L.eA i)), au (L.eA i) + j * 2 + 1, none⟩ (vI ((en (nd ns i).ah j).id))), (Rd β ⟨(av (L.eA i)), au (L.eA i) + j * 2, none⟩ (.string (en (nd ns i).ah j).name)), ((j : Nat) : Int) = ((j : Nat) : Int), j < (nd ns i).ah.length, (⟨(av (L.eA i)), au (L.eA i), none⟩ : Addr).spot = none, ((L.eA i) : Option Addr) = some ⟨(av (L.eA i)), au (L.eA i), none⟩]) [⟨[], some j, none, some ⟨(av (L.eA i)), au (L.eA i), none⟩, none⟩, ⟨[.old (.string (en (nd ns i).ah j).name), .old (vI ((en (nd ns i).ah j).id))], none, none, none, none⟩, o_, ⟨[.at 3, .at 3], none, none, none, none⟩] [0, 1, 2, 7, 9, 16, 17, 18] [0, 1, 2, 3] (fun _ _ => by kernel_rfl) (fun b1 => ⟨rfl, rfl, cL.rd (hG.ah i (by omega)) (i := j) (by omega) (j := 1) rfl, cL.rd (hG.ah i (by omega)) (i := j) (by omega) (j := 0) rfl, rfl, by omega, rfl, cL.hd (hG.ah i (by omega)) (i := j) (by omega), trivial⟩) (fun b1 => ?_)
  refine ai.nil (by kernel_rfl) (aj.next (af.seq (af.region ?_)))
  refine ai.aA (k' := 3) (fr' := [(0, .pointer (some ⟨(av A), au A + i * 10, none⟩)), (1, .map (some mb)), (2, .map (some mp)), (7, .string (eW ns i j)), (9, vP b1), (16, .slice (L.eA i) ((nd ns i).ah.length) ((L.eC i))), (17, vI ↑((nd ns i).ah.length)), (18, vI ↑j), (22, .map (some mb)), (24, vI ((en (nd ns i).ah j).id))]) (aq := [b1 = b1]) [o_, o_, ⟨[.at 3], none, none, none, none⟩] [0, 1, 2, 7, 9, 16, 17, 18, 22, 24] (fun _ _ => by kernel_rfl) ⟨rfl, trivial⟩ ?_
  by_cases hat : 0 ≤ mM ns (en (nd ns i).ah j).id
  ·have htl := kP hat
   refine ai.dN 0 (d := (some 25)) (t := 143) (K := 3) (E := 146) (b := mb) (n := ns.length) (f := (mf (bf A ns ns.length))) (x := (.tmp 22)) (ix := (.tmp 24)) (key := vI ((en (nd ns i).ah j).id)) (z := .pointer none) (kl := (.int .i64 (en (nd ns i).ah j).id)) (r := (some (.pointer (some ⟨(av A), au A + (tgt ns (en (nd ns i).ah j).id) * 10, none⟩)))) (fun _ => by kernel_rfl) (by kernel_rfl) (fun _ => by kernel_rfl) (fun _ => by kernel_rfl) dz Tryz.underlying143 (fun _ => by kernel_rfl) (mQ (hwf j (by omega)).1 (hwf j (by omega)).2) (MT hat htl.1) ?_
   refine ai.aA (k' := 5) (fr' := [(0, .pointer (some ⟨(av A), au A + i * 10, none⟩)), (1, .map (some mb)), (2, .map (some mp)), (7, .string (eW ns i j)), (9, vP b1), (10, .pointer (some ⟨(av A), au A + (tgt ns (en (nd ns i).ah j).id) * 10, none⟩)), (16, .slice (L.eA i) ((nd ns i).ah.length) ((L.eC i))), (17, vI ↑((nd ns i).ah.length)), (18, vI ↑j)]) (aq := []) [o_] [0, 1, 2, 7, 9, 10, 16, 17, 18] (fun _ _ => by kernel_rfl) trivial ?_
   refine ai.nil (by kernel_rfl) (aj.next (af.seq (af.seq (af.region ?_))))
   refine ai.aA (k' := 5) (fr' := [(0, .pointer (some ⟨(av A), au A + i * 10, none⟩)), (1, .map (some mb)), (2, .map (some mp)), (7, .string (eW ns i j)), (9, vP b1), (10, .pointer (some ⟨(av A), au A + (tgt ns (en (nd ns i).ah j).id) * 10, none⟩)), (16, .slice (L.eA i) ((nd ns i).ah.length) ((L.eC i))), (17, vI ↑((nd ns i).ah.length)), (18, vI ↑j), (28, .bool false), (30, .string (en (nd ns i).ah j).name)]) (aq := [b1 = b1]) [o_, o_, o_, o_, ⟨[.at 3], none, none, none, none⟩] [0, 1, 2, 7, 9, 10, 16, 17, 18, 28, 30] (fun _ _ => by kernel_rfl) ⟨rfl, trivial⟩ ?_
   refine ai.call (f := 11) (args := #[.string (en (nd ns i).ah j).name]) (d := (some 31)) (pre := []) (R := [.abs (aH Tryz.prog 3 mb (mf (bf A ns ns.length)) ns.length), .abs (aH Tryz.prog 3 mp (mf (pf ((ct ns i j ++ ps).map (fP ns)))) ((ct ns i j ++ ps).length)), .abs R, .blk b1 [.string (en (nd ns i).ah j).name, vI ((en (nd ns i).ah j).id)] 101]) (pk := [0, 1, 2, 3]) (fun _ => by kernel_rfl) (pz (en (nd ns i).ah j).name (hnm j (by omega))) rfl (by kernel_rfl) ?_
   rintro _ _ ⟨rfl, rfl⟩
   refine ai.aA (k' := 9) (fr' := [(0, .pointer (some ⟨(av A), au A + i * 10, none⟩)), (1, .map (some mb)), (2, .map (some mp)), (7, .string (eW ns i j)), (9, vP b1), (10, .pointer (some ⟨(av A), au A + (tgt ns (en (nd ns i).ah j).id) * 10, none⟩)), (16, .slice (L.eA i) ((nd ns i).ah.length) ((L.eC i))), (17, vI ↑((nd ns i).ah.length)), (18, vI ↑j), (34, .bool (!(decide (bE (en (nd ns i).ah j).name))))]) (aq := []) [o_, o_, o_] [0, 1, 2, 7, 9, 10, 16, 17, 18, 34] (fun _ _ => by kernel_rfl) trivial ?_
   refine ai.fM 34 (bE (en (nd ns i).ah j).name) (fun _ => by kernel_rfl) (fun vE => ?_) (fun vE => ?_)
   ·refine ai.aA (k' := 14) (fr' := [(0, .pointer (some ⟨(av A), au A + i * 10, none⟩)), (1, .map (some mb)), (2, .map (some mp)), (9, vP b1), (10, .pointer (some ⟨(av A), au A + (tgt ns (en (nd ns i).ah j).id) * 10, none⟩)), (16, .slice (L.eA i) ((nd ns i).ah.length) ((L.eC i))), (17, vI ↑((nd ns i).ah.length)), (18, vI ↑j), (39, .bool true)]) (aq := []) [o_, o_, o_, o_, o_] [0, 1, 2, 9, 10, 16, 17, 18, 39] (fun _ _ => by kernel_rfl) trivial ?_
    refine ai.nil (by kernel_rfl) (aj.next ?_)
    refine af.eG (fun _ => by kernel_rfl) ?_
    refine af.seq (af.region ?_)
    refine ai.aA (k' := 1) (fr' := [(6, .bool false)]) (aq := []) [o_] [6] (fun _ _ => by kernel_rfl) trivial ?_
    refine ai.nil (by kernel_rfl) (aj.next (af.ret (aj.ar (aj.aG (aj.ar (aj.ar (aj.aG (aj.ar ?_))))))))
    exact aj.ret (v := .bool false) (l := []) (aq := []) [] [2] (fun _ => by kernel_rfl) trivial rfl (by kernel_rfl) (.inr ⟨rfl, fun h => vE (h.ah j (by omega)).good, rfl⟩)
   refine ai.aA (k' := 14) (fr' := [(0, .pointer (some ⟨(av A), au A + i * 10, none⟩)), (1, .map (some mb)), (2, .map (some mp)), (9, vP b1), (10, .pointer (some ⟨(av A), au A + (tgt ns (en (nd ns i).ah j).id) * 10, none⟩)), (16, .slice (L.eA i) ((nd ns i).ah.length) ((L.eC i))), (17, vI ↑((nd ns i).ah.length)), (18, vI ↑j), (39, .bool (decide (iU ((en (nd ns i).ah j).name) (eW ns i j))))]) (aq := [(Value.bool (Op.bytesLess (((en (nd ns i).ah j).name) : ByteArray).toList (((eW ns i j)) : ByteArray).toList || (((en (nd ns i).ah j).name) : ByteArray).toList == (((eW ns i j)) : ByteArray).toList)) = (.bool (decide (iU ((en (nd ns i).ah j).name) (eW ns i j)))), b1 = b1]) [o_, ⟨[.at 3], none, none, none, none⟩, o_, ⟨[], none, none, none, some (.bool (decide (iU ((en (nd ns i).ah j).name) (eW ns i j))))⟩, o_] [0, 1, 2, 9, 10, 16, 17, 18, 39] (fun _ _ => by kernel_rfl) ⟨K7 _ _, rfl, trivial⟩ ?_
   refine ai.nil (by kernel_rfl) (aj.next ?_)
   refine af.bB (p := iU ((en (nd ns i).ah j).name) (eW ns i j)) (fun _ => by kernel_rfl) (fun mK => ?_) (fun mK => ?_)
   ·refine af.seq (af.region ?_)
    refine ai.aA (k' := 1) (fr' := [(6, .bool false)]) (aq := []) [o_] [6] (fun _ _ => by kernel_rfl) trivial ?_
    refine ai.nil (by kernel_rfl) (aj.next (af.ret (aj.ar (aj.aG (aj.ar (aj.ar (aj.aG (aj.ar ?_))))))))
    exact aj.ret (v := .bool false) (l := []) (aq := []) [] [2] (fun _ => by kernel_rfl) trivial rfl (by kernel_rfl) (.inr ⟨rfl, fun h => (h.ah j (by omega)).ord mK, rfl⟩)
   refine af.skip (aj.next (af.seq (af.region ?_)))
   refine ai.aA (k' := 3) (fr' := [(0, .pointer (some ⟨(av A), au A + i * 10, none⟩)), (1, .map (some mb)), (2, .map (some mp)), (7, .string (en (nd ns i).ah j).name), (9, vP b1), (10, .pointer (some ⟨(av A), au A + (tgt ns (en (nd ns i).ah j).id) * 10, none⟩)), (16, .slice (L.eA i) ((nd ns i).ah.length) ((L.eC i))), (17, vI ↑((nd ns i).ah.length)), (18, vI ↑j)]) (aq := [b1 = b1]) [o_, ⟨[.at 3], none, none, none, none⟩, o_] [0, 1, 2, 7, 9, 10, 16, 17, 18] (fun _ _ => by kernel_rfl) ⟨rfl, trivial⟩ ?_
   refine ai.nil (by kernel_rfl) (aj.next (af.seq (af.seq (af.region ?_))))
   refine ai.aA (k' := 5) (fr' := [(0, .pointer (some ⟨(av A), au A + i * 10, none⟩)), (1, .map (some mb)), (2, .map (some mp)), (7, .string (en (nd ns i).ah j).name), (9, vP b1), (16, .slice (L.eA i) ((nd ns i).ah.length) ((L.eC i))), (17, vI ↑((nd ns i).ah.length)), (18, vI ↑j), (46, .bool (!(decide (((nd ns (tgt ns (en (nd ns i).ah j).id)).kind : Int) = (2 : Int)))))]) (aq := [(Rd β ⟨(av A), au A + (tgt ns (en (nd ns i).ah j).id) * 10 + 1, none⟩ (vI ((nd ns (tgt ns (en (nd ns i).ah j).id)).kind)))]) [o_, o_, o_, ⟨[.old (vI ((nd ns (tgt ns (en (nd ns i).ah j).id)).kind))], none, none, none, none⟩, o_] [0, 1, 2, 7, 9, 16, 17, 18, 46] (fun _ _ => by kernel_rfl) ⟨aC.rd hG (i := (tgt ns (en (nd ns i).ah j).id)) (by omega) (j := 1) rfl, trivial⟩ ?_
   refine ai.nil (by kernel_rfl) (aj.next ?_)
   refine af.cr (p := ((nd ns (tgt ns (en (nd ns i).ah j).id)).kind : Int) = (2 : Int)) (fun _ => by kernel_rfl) (fun h46 => ?_) (fun h46 => ?_)
   ·refine af.exit (aj.bg (aj.cA (aj.next (af.region ?_))))
    refine ai.eT 1 (p := .abs (aH Tryz.prog 3 mp (mf (pf ((ct ns i j ++ ps).map (fP ns)))) ((ct ns i j ++ ps).length))) (p' := .abs (aH Tryz.prog 3 mp (mf (pf ((ct ns i (j + 1) ++ ps).map (fP ns)))) ((ct ns i (j + 1) ++ ps).length))) (by kernel_rfl) (by rw [qo h46]) ?_
    refine ai.aA (k' := 2) (fr' := [(0, .pointer (some ⟨(av A), au A + i * 10, none⟩)), (1, .map (some mb)), (2, .map (some mp)), (7, .string (en (nd ns i).ah j).name), (16, .slice (L.eA i) ((nd ns i).ah.length) ((L.eC i))), (17, vI ↑((nd ns i).ah.length)), (18, vI ↑(j + 1))]) (aq := [(Value.int .i64 (IntKind.wrap .i64 (((j : Nat) : Int) + 1))) = (vI ↑(j + 1))]) [⟨[], none, none, none, some (vI ↑(j + 1))⟩, o_] [0, 1, 2, 7, 16, 17, 18] (fun _ _ => by kernel_rfl) ⟨bJ (by omega) (by omega) (by omega), trivial⟩ ?_
    refine ai.nil (by kernel_rfl) ?_
    exact aj.turn ((j + 1)) (idx := [0, 1, 2, 7, 16, 17, 18]) (pk := [0, 1, 2]) (show (((j + 1)) ≤ (nd ns i).ah.length) ∧ (∀ t, t < ((j + 1)) → lg ns i t) ∧ (((ct ns i ((j + 1)) ++ ps).map Prod.fst).Nodup) from ⟨by omega, fun t ht => (by rcases Nat.lt_succ_iff_lt_or_eq.1 ht with h | h; exact hok t h; subst h; exact ⟨hat, vE, mK⟩), (by rw [qo h46]; exact hnd)⟩) (by show (nd ns i).ah.length - ((j + 1)) < (nd ns i).ah.length - j; omega) (fun _ => by kernel_rfl) rfl (by kernel_rfl)
   refine af.skip (aj.next (af.seq (af.seq (af.region ?_))))
   refine ai.aA (k' := 3) (fr' := [(0, .pointer (some ⟨(av A), au A + i * 10, none⟩)), (1, .map (some mb)), (2, .map (some mp)), (7, .string (en (nd ns i).ah j).name), (9, vP b1), (16, .slice (L.eA i) ((nd ns i).ah.length) ((L.eC i))), (17, vI ↑((nd ns i).ah.length)), (18, vI ↑j), (48, .map (some mp)), (50, vI ((en (nd ns i).ah j).id))]) (aq := [b1 = b1]) [o_, o_, ⟨[.at 3], none, none, none, none⟩] [0, 1, 2, 7, 9, 16, 17, 18, 48, 50] (fun _ _ => by kernel_rfl) ⟨rfl, trivial⟩ ?_
   rcases hup : up ((ct ns i j ++ ps).map (fP ns)) (en (nd ns i).ah j).id with _ | y
   ·refine ai.ql 1 (d := (some 51)) (t := 183) (K := 3) (E := 3) (b := mp) (n := (ct ns i j ++ ps).length) (f := (mf (pf ((ct ns i j ++ ps).map (fP ns))))) (x := (.tmp 48)) (ix := (.tmp 50)) (key := vI ((en (nd ns i).ah j).id)) (z := vI 0) (kl := (.int .i64 (en (nd ns i).ah j).id)) (r := none) (fun _ => by kernel_rfl) (by kernel_rfl) (fun _ => by kernel_rfl) (fun _ => by kernel_rfl) dz Tryz.underlying183 (fun _ => by kernel_rfl) (mQ (hwf j (by omega)).1 (hwf j (by omega)).2) (rU hup) ?_
    refine ai.aA (k' := 9) (fr' := [(0, .pointer (some ⟨(av A), au A + i * 10, none⟩)), (1, .map (some mb)), (2, .map (some mp)), (7, .string (en (nd ns i).ah j).name), (9, vP b1), (12, .bool false), (16, .slice (L.eA i) ((nd ns i).ah.length) ((L.eC i))), (17, vI ↑((nd ns i).ah.length)), (18, vI ↑j)]) (aq := []) [o_, o_, o_, o_, o_] [0, 1, 2, 7, 9, 12, 16, 17, 18] (fun _ _ => by kernel_rfl) trivial ?_
    refine ai.nil (by kernel_rfl) (aj.next (af.seq (af.region ?_)))
    refine ai.aA (k' := 1) (fr' := [(0, .pointer (some ⟨(av A), au A + i * 10, none⟩)), (1, .map (some mb)), (2, .map (some mp)), (7, .string (en (nd ns i).ah j).name), (9, vP b1), (16, .slice (L.eA i) ((nd ns i).ah.length) ((L.eC i))), (17, vI ↑((nd ns i).ah.length)), (18, vI ↑j), (54, .bool false)]) (aq := []) [o_] [0, 1, 2, 7, 9, 16, 17, 18, 54] (fun _ _ => by kernel_rfl) trivial ?_
    refine ai.nil (by kernel_rfl) (aj.next ?_)
    refine af.kZ (fun _ => by kernel_rfl) ?_
    refine af.skip (aj.next ?_)
    refine af.qP 7 (by kernel_rfl) (by kernel_rfl) ?_
    refine fN.seg (k' := 7) (fr' := [(0, .pointer (some ⟨(av A), au A + i * 10, none⟩)), (1, .map (some mb)), (2, .map (some mp)), (7, .string (en (nd ns i).ah j).name), (16, .slice (L.eA i) ((nd ns i).ah.length) ((L.eC i))), (17, vI ↑((nd ns i).ah.length)), (18, vI ↑j), (55, .map (some mp)), (57, vI ((en (nd ns i).ah j).id)), (61, vI ((nd ns i).id))]) (aq := [(Rd β ⟨(av A), au A + i * 10, none⟩ (vI ((nd ns i).id))), b1 = b1]) [o_, o_, ⟨[.at 3], none, none, none, none⟩, o_, o_, o_, ⟨[.old (vI ((nd ns i).id))], none, none, none, none⟩] [0, 1, 2, 7, 16, 17, 18, 55, 57, 61] (fun _ _ => by kernel_rfl) ⟨aC.rd hG (i := i) (by omega) (j := 0) rfl, rfl, trivial⟩ (by decide) ?_
    refine fN.done rfl ?_
    refine ai.j7 1 (d := none) (t := 183) (K := 3) (E := 3) (b := mp) (n := (ct ns i j ++ ps).length) (f := (mf (pf ((ct ns i j ++ ps).map (fP ns))))) (x := (.tmp 55)) (ix := (.tmp 57)) (y := (.tmp 61)) (key := vI ((en (nd ns i).ah j).id)) (u := vI ((nd ns i).id)) (kl := (.int .i64 (en (nd ns i).ah j).id)) (n' := (ct ns i (j + 1) ++ ps).length) (f' := (mf (pf ((ct ns i (j + 1) ++ ps).map (fP ns))))) (fun _ => by kernel_rfl) (by kernel_rfl) (fun _ => by kernel_rfl) (fun _ => by kernel_rfl) (fun _ => by kernel_rfl) dz Tryz.underlying183 (by have := BJ ns i j; rw [List.length_append]; unfold maxLen; omega) (mQ (hwf j (by omega)).1 (hwf j (by omega)).2) (Hy (rU hup) h46) (Hw hat h46) ?_
    refine ai.nil (by kernel_rfl) (aj.aT (aj.next (af.region ?_)))
    refine ai.aA (k' := 2) (fr' := [(0, .pointer (some ⟨(av A), au A + i * 10, none⟩)), (1, .map (some mb)), (2, .map (some mp)), (7, .string (en (nd ns i).ah j).name), (16, .slice (L.eA i) ((nd ns i).ah.length) ((L.eC i))), (17, vI ↑((nd ns i).ah.length)), (18, vI ↑(j + 1))]) (aq := [(Value.int .i64 (IntKind.wrap .i64 (((j : Nat) : Int) + 1))) = (vI ↑(j + 1))]) [⟨[], none, none, none, some (vI ↑(j + 1))⟩, o_] [0, 1, 2, 7, 16, 17, 18] (fun _ _ => by kernel_rfl) ⟨bJ (by omega) (by omega) (by omega), trivial⟩ ?_
    refine ai.nil (by kernel_rfl) ?_
    exact aj.turn ((j + 1)) (idx := [0, 1, 2, 7, 16, 17, 18]) (pk := [0, 1, 2]) (show (((j + 1)) ≤ (nd ns i).ah.length) ∧ (∀ t, t < ((j + 1)) → lg ns i t) ∧ (((ct ns i ((j + 1)) ++ ps).map Prod.fst).Nodup) from ⟨by omega, fun t ht => (by rcases Nat.lt_succ_iff_lt_or_eq.1 ht with h | h; exact hok t h; subst h; exact ⟨hat, vE, mK⟩), (Ee hat h46 hup hnd)⟩) (by show (nd ns i).ah.length - ((j + 1)) < (nd ns i).ah.length - j; omega) (fun _ => by kernel_rfl) rfl (by kernel_rfl)
   refine ai.ql 1 (d := (some 51)) (t := 183) (K := 3) (E := 3) (b := mp) (n := (ct ns i j ++ ps).length) (f := (mf (pf ((ct ns i j ++ ps).map (fP ns))))) (x := (.tmp 48)) (ix := (.tmp 50)) (key := vI ((en (nd ns i).ah j).id)) (z := vI 0) (kl := (.int .i64 (en (nd ns i).ah j).id)) (r := (some (vI y))) (fun _ => by kernel_rfl) (by kernel_rfl) (fun _ => by kernel_rfl) (fun _ => by kernel_rfl) dz Tryz.underlying183 (fun _ => by kernel_rfl) (mQ (hwf j (by omega)).1 (hwf j (by omega)).2) (Jv hup) ?_
   refine ai.aA (k' := 9) (fr' := [(0, .pointer (some ⟨(av A), au A + i * 10, none⟩)), (1, .map (some mb)), (2, .map (some mp)), (7, .string (en (nd ns i).ah j).name), (9, vP b1), (12, .bool true), (16, .slice (L.eA i) ((nd ns i).ah.length) ((L.eC i))), (17, vI ↑((nd ns i).ah.length)), (18, vI ↑j)]) (aq := []) [o_, o_, o_, o_, o_] [0, 1, 2, 7, 9, 12, 16, 17, 18] (fun _ _ => by kernel_rfl) trivial ?_
   refine ai.nil (by kernel_rfl) (aj.next (af.seq (af.region ?_)))
   refine ai.aA (k' := 1) (fr' := [(0, .pointer (some ⟨(av A), au A + i * 10, none⟩)), (1, .map (some mb)), (2, .map (some mp)), (7, .string (en (nd ns i).ah j).name), (9, vP b1), (16, .slice (L.eA i) ((nd ns i).ah.length) ((L.eC i))), (17, vI ↑((nd ns i).ah.length)), (18, vI ↑j), (54, .bool true)]) (aq := []) [o_] [0, 1, 2, 7, 9, 16, 17, 18, 54] (fun _ _ => by kernel_rfl) trivial ?_
   refine ai.nil (by kernel_rfl) (aj.next ?_)
   refine af.eG (fun _ => by kernel_rfl) ?_
   refine af.seq (af.region ?_)
   refine ai.aA (k' := 1) (fr' := [(6, .bool false)]) (aq := []) [o_] [6] (fun _ _ => by kernel_rfl) trivial ?_
   refine ai.nil (by kernel_rfl) (aj.next (af.ret (aj.ar (aj.aG (aj.ar (aj.ar (aj.aG (aj.ar ?_))))))))
   exact aj.ret (v := .bool false) (l := []) (aq := []) [] [2] (fun _ => by kernel_rfl) trivial rfl (by kernel_rfl) (.inr ⟨rfl, C6 hr hps hok hat h46 hup (by omega), rfl⟩)
  refine ai.dN 0 (d := (some 25)) (t := 143) (K := 3) (E := 146) (b := mb) (n := ns.length) (f := (mf (bf A ns ns.length))) (x := (.tmp 22)) (ix := (.tmp 24)) (key := vI ((en (nd ns i).ah j).id)) (z := .pointer none) (kl := (.int .i64 (en (nd ns i).ah j).id)) (r := none) (fun _ => by kernel_rfl) (by kernel_rfl) (fun _ => by kernel_rfl) (fun _ => by kernel_rfl) dz Tryz.underlying143 (fun _ => by kernel_rfl) (mQ (hwf j (by omega)).1 (hwf j (by omega)).2) (Ka hat) ?_
  refine ai.aA (k' := 5) (fr' := [(0, .pointer (some ⟨(av A), au A + i * 10, none⟩)), (1, .map (some mb)), (2, .map (some mp)), (7, .string (eW ns i j)), (9, vP b1), (10, .pointer none), (16, .slice (L.eA i) ((nd ns i).ah.length) ((L.eC i))), (17, vI ↑((nd ns i).ah.length)), (18, vI ↑j)]) (aq := []) [o_] [0, 1, 2, 7, 9, 10, 16, 17, 18] (fun _ _ => by kernel_rfl) trivial ?_
  refine ai.nil (by kernel_rfl) (aj.next (af.seq (af.seq (af.region ?_))))
  refine ai.aA (k' := 14) (fr' := [(0, .pointer (some ⟨(av A), au A + i * 10, none⟩)), (1, .map (some mb)), (2, .map (some mp)), (9, vP b1), (10, .pointer none), (16, .slice (L.eA i) ((nd ns i).ah.length) ((L.eC i))), (17, vI ↑((nd ns i).ah.length)), (18, vI ↑j), (39, .bool true)]) (aq := []) [o_, o_, o_, o_, o_, o_, o_, o_, o_, o_, o_, o_, o_, o_] [0, 1, 2, 9, 10, 16, 17, 18, 39] (fun _ _ => by kernel_rfl) trivial ?_
  refine ai.nil (by kernel_rfl) (aj.next ?_)
  refine af.eG (fun _ => by kernel_rfl) ?_
  refine af.seq (af.region ?_)
  refine ai.aA (k' := 1) (fr' := [(6, .bool false)]) (aq := []) [o_] [6] (fun _ _ => by kernel_rfl) trivial ?_
  refine ai.nil (by kernel_rfl) (aj.next (af.ret (aj.ar (aj.aG (aj.ar (aj.ar (aj.aG (aj.ar ?_))))))))
  exact aj.ret (v := .bool false) (l := []) (aq := []) [] [2] (fun _ => by kernel_rfl) trivial rfl (by kernel_rfl) (.inr ⟨rfl, fun h => hat (h.ah j (by omega)).at_, rfl⟩)
 refine af.exit (aj.bg (aj.bg (aj.cA (aj.next (af.seq (af.region ?_))))))
 refine ai.aA (k' := 1) (fr' := [(6, .bool true)]) (aq := []) [o_] [6] (fun _ _ => by kernel_rfl) trivial ?_
 refine ai.nil (by kernel_rfl) (aj.next (af.ret ?_))
 exact aj.ret (v := .bool true) (l := [.abs (aH Tryz.prog 3 mb (mf (bf A ns ns.length)) ns.length), .abs (aH Tryz.prog 3 mp (mf (pf ((ct ns i j ++ ps).map (fP ns)))) ((ct ns i j ++ ps).length))]) (aq := []) [] [0, 1, 2] (fun _ => by kernel_rfl) trivial rfl (by kernel_rfl) (.inl ⟨rfl, ⟨fun t ht => hok t (by omega), by have := hnd; rwa [show j = (nd ns i).ah.length by omega] at this⟩, by rw [show j = (nd ns i).ah.length by omega]⟩)
end
section
open Go.RowKit Go.Maps
def cx (ns : List aN) : Nat → Nat
  | 0 => 0
  | k + 1 => cx ns k + (nd ns k).ah.length
def iE (ns : List aN) : Nat → Int
  | 0 => 0
  | k + 1 => (nd ns k).id
structure bU (ns : List aN) : Prop where
  len : ns.length ≤ 4096
  node : ∀ i, i < ns.length → nM (nd ns i)
  ids : ∀ i, i < ns.length → 1 ≤ (nd ns i).id ∧ (nd ns i).id ≤ 1099511627776
  rise : ck ns
  sum : cx ns ns.length ≤ 8192
  ah : ∀ i, i < ns.length → ∀ j, j < (nd ns i).ah.length → lg ns i j
  nodup : ((dH ns ns.length).map Prod.fst).Nodup
  ends : tF ((dH ns ns.length).map (fP ns))
noncomputable instance (ns : List aN) : Decidable (bU ns) := Classical.propDecidable _
theorem bU.last {ns : List aN} (h : bU ns) {k : Nat} (hk : k < ns.length) : iE ns k < (nd ns k).id := by
  cases k with
  | zero => have := (h.ids 0 hk).1; show (0 : Int) < _; omega
  | succ k => exact h.rise k (k + 1) (Nat.lt_succ_self k) hk
structure ny (ns : List aN) (k : Nat) : Prop where
  node : ∀ i, i < k → nM (nd ns i)
  ids : ∀ i, i < k → 1 ≤ (nd ns i).id ∧ (nd ns i).id ≤ 1099511627776
  rise : ∀ i j, i < j → j < k → (nd ns i).id < (nd ns j).id
theorem ny.zero (ns : List aN) : ny ns 0 := ⟨fun i h => absurd h (Nat.not_lt_zero i), fun i h => absurd h (Nat.not_lt_zero i), fun _ j _ h => absurd h (Nat.not_lt_zero j)⟩
theorem ny.last {ns : List aN} {k : Nat} (h : ny ns k) : 0 ≤ iE ns k ∧ iE ns k ≤ 1099511627776 := by
  cases k with
  | zero => exact ⟨Int.le_refl _, by show (0 : Int) ≤ 1099511627776; decide⟩
  | succ k => have := h.ids k (Nat.lt_succ_self k); exact ⟨by show 0 ≤ (nd ns k).id; omega, this.2⟩
theorem ny.step {ns : List aN} {k : Nat} (h : ny ns k) (h1 : iE ns k < (nd ns k).id) (h2 : (nd ns k).id ≤ 1099511627776) (h3 : nM (nd ns k)) : ny ns (k + 1) := by
  have hl := h.last
  refine ⟨fun i hi => ?_, fun i hi => ?_, fun i j hij hj => ?_⟩
  ·rcases Nat.lt_succ_iff_lt_or_eq.1 hi with e | e
   ·exact h.node i e
   rw [e]; exact h3
  ·rcases Nat.lt_succ_iff_lt_or_eq.1 hi with e | e
   ·exact h.ids i e
   rw [e]; omega
  rcases Nat.lt_succ_iff_lt_or_eq.1 hj with e | e
  ·exact h.rise i j hij e
  subst e
  cases j with
  | zero => omega
  | succ m =>
    have h4 : (nd ns m).id < (nd ns (m + 1)).id := h1
    rcases Nat.lt_succ_iff_lt_or_eq.1 hij with e | e
    ·have := h.rise i m e (Nat.lt_succ_self m); omega
    rw [e]; exact h4
theorem CQ {ns : List aN} {k : Nat} (h : ∀ i, i < k → (nd ns i).id < (nd ns k).id) (hk : k < ns.length) : mM ns (nd ns k).id = (k : Int) := by
  unfold mM
  have hg : ∀ j (hj : j < ns.length), nd ns j = ns[j] := fun j hj => by
    unfold nd
    rw [List.getD_eq_getElem?_getD, List.getElem?_eq_getElem hj]
    rfl
  have : ns.findIdx? (fun n => n.id == (nd ns k).id) = some k := by
    rw [List.findIdx?_eq_some_iff_getElem]
    refine ⟨hk, by rw [← hg k hk]; simp, fun j hj => ?_⟩
    have := h j hj
    rw [← hg j (by omega)]
    simp
    omega
  rw [this]
theorem Mj {A : Option Addr} {ns : List aN} {k : Nat} (h : ∀ i, i < k → (nd ns i).id < (nd ns k).id) (hk : k < ns.length) :
    jK (mf (bf A ns k)) (.int .i64 (nd ns k).id) (some (.pointer (some ⟨av A, au A + k * 10, none⟩))) = mf (bf A ns (k + 1)) := by
  have ha := CQ h hk
  rw [BB]
  congr 1
  funext z
  unfold bf
  by_cases e : z = (nd ns k).id
  ·subst e
   rw [if_pos rfl, if_pos ⟨by omega, by omega⟩]
   unfold tgt
   rw [ha]
   rfl
  rw [if_neg e]
  by_cases e1 : 0 ≤ mM ns z ∧ mM ns z < (k : Int)
  ·rw [if_pos e1, if_pos ⟨e1.1, by omega⟩]
  rw [if_neg e1, if_neg (fun e2 => ?_)]
  have e3 : mM ns z = (k : Int) := by omega
  have e4 := (kP e2.1).2
  rw [e4.2] at e3
  have e5 : tgt ns z = k := by omega
  rw [e5] at e4
  exact e e4.1.symm
theorem I8 {A : Option Addr} {ns : List aN} {k : Nat} (h : ∀ i, i < k → (nd ns i).id < (nd ns k).id) (hk : k < ns.length) : (if ((mf (bf A ns k)) (.int .i64 (nd ns k).id)).isSome then k else k + 1) = k + 1 := by
  have ha := CQ h hk
  have : mf (bf A ns k) (.int .i64 (nd ns k).id) = none := if_neg (fun e => by omega)
  rw [this]
  rfl
theorem ny.below {ns : List aN} {k : Nat} (h : ny ns k) (h1 : iE ns k < (nd ns k).id) : ∀ i, i < k → (nd ns i).id < (nd ns k).id := by
  intro i hi
  cases k with
  | zero => omega
  | succ m =>
    have h1 : (nd ns m).id < (nd ns (m + 1)).id := h1
    rcases Nat.lt_succ_iff_lt_or_eq.1 hi with e | e
    ·have := h.rise i m e (Nat.lt_succ_self m); omega
    rw [e]; exact h1
theorem Kx {A : Option Addr} {ns : List aN} : mf (bf A ns 0) = fun _ => none := by
  rw [← yQ]
  congr 1
  funext z
  exact if_neg (fun e => by omega)
theorem Ky {ns : List aN} : mf (pf ((dH ns 0).map (fP ns))) = fun _ => none := by
  rw [← yQ]
  congr 1
theorem wJ {ns : List aN} {i : Nat} (hi : i ≤ ns.length) (h : ∀ a, a < i → ∀ j, j < (nd ns a).ah.length → lg ns a j) : ∀ p, p ∈ dH ns i → p.1 < ns.length ∧ p.2 < ns.length := by
  induction i with
  | zero => intro p hp; cases hp
  | succ i ih =>
    intro p hp
    rw [dH] at hp
    rcases List.mem_append.1 hp with hp | hp
    ·have := BK (h i (Nat.lt_succ_self i)) p hp
     exact ⟨this.1, by omega⟩
    exact ih (by omega) (fun a ha => h a (by omega)) p hp
theorem CR (ns : List aN) (i : Nat) : (dH ns i).length ≤ cx ns i := by
  induction i with
  | zero => exact Nat.le_refl _
  | succ i ih =>
    rw [dH, cx, List.length_append]
    have := BJ ns i (nd ns i).ah.length
    omega
theorem qY {ns : List aN} {i m : Nat} (h : i ≤ m) : cx ns i ≤ cx ns m := by
  induction m with
  | zero => rw [Nat.le_zero.1 h]; exact Nat.le_refl _
  | succ m ih =>
    rcases Nat.lt_or_ge m i with h1 | h1
    ·have : i = m + 1 := by omega
     subst this
     exact Nat.le_refl _
    have := ih h1
    rw [cx]
    omega
theorem GX {ns : List aN} {ps : List (Nat × Nat)} (hp : ∀ p, p ∈ ps → p.1 < ns.length ∧ p.2 < ns.length) (hid : ∀ i, i < ns.length → 1 ≤ (nd ns i).id ∧ (nd ns i).id ≤ 1099511627776) :
    ∀ z y, up (ps.map (fP ns)) z = some y → (-9223372036854775808 ≤ z ∧ z ≤ 9223372036854775807) ∧ (-9223372036854775808 ≤ y ∧ y ≤ 9223372036854775807) := by
  intro z y h
  unfold up at h
  induction ps with
  | nil => cases h
  | cons p ps ih =>
    obtain ⟨a, b⟩ := p
    rw [List.map_cons, fP, List.lookup_cons] at h
    by_cases e : (z == (nd ns a).id) = true
    ·rw [e] at h
     cases h
     have h1 := hp (a, b) (List.mem_cons_self ..)
     have h2 := hid a h1.1
     have h3 := hid b h1.2
     have : z = (nd ns a).id := by simpa using e
     show (_ ∧ _) ∧ (-9223372036854775808 ≤ (nd ns b).id ∧ (nd ns b).id ≤ 9223372036854775807)
     omega
    have e : (z == (nd ns a).id) = false := by simpa using e
    rw [e] at h
    exact ih (fun p hp' => hp p (List.mem_cons_of_mem _ hp')) h
theorem Mk {p : Prop} [Decidable p] {v : Value} {l : List HP} (h : v = .bool (decide p) ∧ l = []) : (v = .bool true ∧ p ∧ l = []) ∨ (v = .bool false ∧ ¬ p ∧ l = []) := by
  by_cases hp : p
  ·exact .inl ⟨by rw [h.1, decide_eq_true hp], hp, h.2⟩
  exact .inr ⟨by rw [h.1, decide_eq_false hp], hp, h.2⟩
theorem rV.next {ns : List aN} {i : Nat} (h : rV ns i (dH ns i)) : ((dH ns (i + 1)).map Prod.fst).Nodup := h.nodup
theorem bU.row {ns : List aN} (h : bU ns) {i : Nat} (hi : i < ns.length) : rV ns i (dH ns i) := by
  refine ⟨h.ah i hi, ?_⟩
  obtain ⟨l, hl⟩ := FH (ns := ns) (show i + 1 ≤ ns.length from hi)
  have := h.nodup
  rw [hl] at this
  exact tH this
end
section
open Go.RowKit
attribute [local irreducible] ai aR af aj
theorem Kz {β : Bs} (A : Option Addr) (c : Nat) (ns : List aN) (L : Lay) (hG : aC β A ns L) (hl : ns.length ≤ 1048576) (hd : ∀ i, i < ns.length → (nd ns i).data.length ≤ 140737488355328 ∧ (nd ns i).ah.length ≤ 1048576) (hwf : ∀ i, i < ns.length → ∀ j, j < (nd ns i).ah.length → -9223372036854775808 ≤ (ent ns i j).id ∧ (ent ns i j).id ≤ 9223372036854775807) (hnm : ∀ i, i < ns.length → ∀ j, j < (nd ns i).ah.length → (ent ns i j).name.size ≤ 1048576) :
    Spec Tryz.prog β 68 #[.agg #[.slice A ns.length c]] [] (fun v l => (∃ mb, v = .tuple #[.map (some mb), .bool true] ∧ bU ns ∧ l = [.abs (aH Tryz.prog 3 mb (mf (bf A ns ns.length)) ns.length)]) ∨ (∃ m, v = .tuple #[m, .bool false] ∧ ¬ bU ns ∧ l = [])) := by
 refine Spec.enter Tryz.func68 rfl Tryz.ntmps68 (Nat.le_of_ble_eq_true rfl) (fun R => ?_)
 refine af.seq (af.region ?_)
 refine ai.jR (k' := 3) (fr' := fun b1 => [(1, vP b1)]) (aL := fun b1 => [.abs R, .blk b1 [.slice A (ns.length) (c)] 24]) (aq := fun b1 => []) [o_, o_, o_] [1] [0, 1] (fun _ _ => by kernel_rfl) (fun b1 => trivial) (fun b1 => ?_)
 refine ai.nil (by kernel_rfl) (aj.next (af.seq (af.seq (af.region ?_))))
 refine ai.aA (k' := 4) (fr' := [(1, vP b1), (14, .bool (decide ((((ns.length : Nat) : Int) : Int) > (4096 : Int))))]) (aq := [b1 = b1]) [o_, ⟨[.at 1], none, none, none, none⟩, o_, o_] [1, 14] (fun _ _ => by kernel_rfl) ⟨rfl, trivial⟩ ?_
 refine ai.nil (by kernel_rfl) (aj.next ?_)
 refine af.bB (p := (((ns.length : Nat) : Int) : Int) > (4096 : Int)) (fun _ => by kernel_rfl) (fun gi => ?_) (fun gi => ?_)
 ·refine af.seq (af.region ?_)
  refine ai.aA (k' := 2) (fr' := [(2, .map none), (3, .bool false)]) (aq := []) [o_, o_] [2, 3] (fun _ _ => by kernel_rfl) trivial ?_
  refine ai.nil (by kernel_rfl) (aj.next (af.ret (aj.ar ?_)))
  exact aj.ret (v := .tuple #[.map none, .bool false]) (l := []) (aq := []) [] [0] (fun _ => by kernel_rfl) trivial rfl (by kernel_rfl) (.inr ⟨_, rfl, fun h => by have := h.len; omega, rfl⟩)
 refine af.skip (aj.next (af.seq (af.region ?_)))
 refine ai.lM (d := (some 15)) (t := 143) (fun _ => by kernel_rfl) Tryz.prog rfl 3 (fun m2 => ?_)
 refine ai.aA (k' := 2) (fr' := [(1, vP b1), (4, .map (some m2))]) (aq := []) [o_] [1, 4] (fun _ _ => by kernel_rfl) trivial ?_
 refine ai.nil (by kernel_rfl) (aj.next (af.seq (af.region ?_)))
 refine ai.eT 2 (p := .abs (aH Tryz.prog 3 m2 (fun _ => none) 0)) (p' := .abs (aH Tryz.prog 3 m2 (mf (bf A ns 0)) 0)) (by kernel_rfl) (by rw [Kx]) ?_
 refine ai.aA (k' := 2) (fr' := [(1, vP b1), (4, .map (some m2)), (5, vI 0), (6, vI 0)]) (aq := []) [o_, o_] [1, 4, 5, 6] (fun _ _ => by kernel_rfl) trivial ?_
 refine ai.nil (by kernel_rfl) (aj.next (af.seq (af.seq (af.region ?_))))
 refine ai.aA (k' := 4) (fr' := [(1, vP b1), (4, .map (some m2)), (5, vI 0), (6, vI 0), (18, vI ↑ns.length), (19, vI 0)]) (aq := [b1 = b1]) [o_, ⟨[.at 1], none, none, none, none⟩, o_, o_] [1, 4, 5, 6, 18, 19] (fun _ _ => by kernel_rfl) ⟨rfl, trivial⟩ ?_
 refine ai.nil (by kernel_rfl) (aj.next (af.block ?_))
 refine af.loop (ι := Nat) (fun (k : Nat) => (k ≤ ns.length) ∧ (ny ns k) ∧ (cx ns k ≤ k * 1048576)) (fun (k : Nat) => ns.length - k) (fun (k : Nat) => [(1, vP b1), (4, .map (some m2)), (5, vI (iE ns k)), (6, vI ↑(cx ns k)), (18, vI ↑ns.length), (19, vI ↑k)]) (fun (k : Nat) => [.blk b1 [.slice A (ns.length) (c)] 24, .abs (aH Tryz.prog 3 m2 (mf (bf A ns k)) k), .abs R]) 0 (idx := [1, 4, 5, 6, 18, 19]) (pk := [1, 2, 0]) (show (0 ≤ ns.length) ∧ (ny ns 0) ∧ (cx ns 0 ≤ 0 * 1048576) from ⟨Nat.zero_le _, ny.zero ns, Nat.zero_le _⟩) (fun _ => by kernel_rfl) rfl (by kernel_rfl) ?_
 rintro k ⟨hk, hu, hs⟩
 show af _ _ _ _ [(1, vP b1), (4, .map (some m2)), (5, vI (iE ns k)), (6, vI ↑(cx ns k)), (18, vI ↑ns.length), (19, vI ↑k)] [.blk b1 [.slice A (ns.length) (c)] 24, .abs (aH Tryz.prog 3 m2 (mf (bf A ns k)) k), .abs R] _
 have hk4 := (hd k)
 refine af.seq (af.region ?_)
 refine ai.aA (k' := 1) (fr' := [(1, vP b1), (4, .map (some m2)), (5, vI (iE ns k)), (6, vI ↑(cx ns k)), (18, vI ↑ns.length), (19, vI ↑k), (20, .bool (decide ((((k : Nat) : Int) : Int) < (((ns.length : Nat) : Int) : Int))))]) (aq := []) [o_] [1, 4, 5, 6, 18, 19, 20] (fun _ _ => by kernel_rfl) trivial ?_
 refine ai.nil (by kernel_rfl) (aj.next (af.seq ?_))
 refine af.bB (p := (((k : Nat) : Int) : Int) < (((ns.length : Nat) : Int) : Int)) (fun _ => by kernel_rfl) (fun mO => ?_) (fun mO => ?_)
 ·refine af.skip (aj.next (af.seq (af.block (af.seq (af.region ?_)))))
  refine ai.aA (k' := 2) (fr' := [(1, vP b1), (4, .map (some m2)), (5, vI (iE ns k)), (6, vI ↑(cx ns k)), (7, vI ↑k), (18, vI ↑ns.length), (19, vI ↑k)]) (aq := []) [o_, o_] [1, 4, 5, 6, 7, 18, 19] (fun _ _ => by kernel_rfl) trivial ?_
  refine ai.nil (by kernel_rfl) (aj.next (af.seq (af.region ?_)))
  refine ai.aA (k' := 5) (fr' := [(1, vP b1), (4, .map (some m2)), (5, vI (iE ns k)), (6, vI ↑(cx ns k)), (8, .pointer (some ⟨(av A), au A + k * 10, none⟩)), (18, vI ↑ns.length), (19, vI ↑k)]) (aq := [((k : Nat) : Int) = ((k : Nat) : Int), k < ns.length, (⟨(av A), au A, none⟩ : Addr).spot = none, (A : Option Addr) = some ⟨(av A), au A, none⟩, b1 = b1]) [o_, ⟨[.at 0], none, none, none, none⟩, o_, ⟨[], some k, none, some ⟨(av A), au A, none⟩, none⟩, o_] [1, 4, 5, 6, 8, 18, 19] (fun _ _ => by kernel_rfl) ⟨rfl, by omega, rfl, aC.hd hG (i := k) (by omega), rfl, trivial⟩ ?_
  refine ai.nil (by kernel_rfl) (aj.next (af.seq (af.seq (af.region ?_))))
  refine ai.aA (k' := 7) (fr' := [(1, vP b1), (4, .map (some m2)), (6, vI ↑(cx ns k)), (8, .pointer (some ⟨(av A), au A + k * 10, none⟩)), (18, vI ↑ns.length), (19, vI ↑k), (32, .bool (decide (((nd ns k).id : Int) ≤ (iE ns k : Int))))]) (aq := [(Rd β ⟨(av A), au A + k * 10, none⟩ (vI ((nd ns k).id)))]) [o_, o_, o_, ⟨[.old (vI ((nd ns k).id))], none, none, none, none⟩, o_, o_, o_] [1, 4, 6, 8, 18, 19, 32] (fun _ _ => by kernel_rfl) ⟨aC.rd hG (i := k) (by omega) (j := 0) rfl, trivial⟩ ?_
  refine ai.gD 32 (((nd ns k).id : Int) ≤ (iE ns k : Int)) (fun _ => by kernel_rfl) (fun Dv => ?_) (fun Dv => ?_)
  ·refine ai.aA (k' := 18) (fr' := [(1, vP b1), (4, .map (some m2)), (6, vI ↑(cx ns k)), (8, .pointer (some ⟨(av A), au A + k * 10, none⟩)), (18, vI ↑ns.length), (19, vI ↑k), (43, .bool true)]) (aq := []) [o_, o_, o_, o_, o_, o_, o_, o_, o_, o_, o_] [1, 4, 6, 8, 18, 19, 43] (fun _ _ => by kernel_rfl) trivial ?_
   refine ai.nil (by kernel_rfl) (aj.next ?_)
   refine af.eG (fun _ => by kernel_rfl) ?_
   refine af.seq (af.region ?_)
   refine ai.aA (k' := 2) (fr' := [(2, .map none), (3, .bool false)]) (aq := []) [o_, o_] [2, 3] (fun _ _ => by kernel_rfl) trivial ?_
   refine ai.nil (by kernel_rfl) (aj.next (af.ret (aj.ar (aj.aG (aj.ar (aj.ar (aj.aG (aj.ar ?_))))))))
   exact aj.ret (v := .tuple #[.map none, .bool false]) (l := []) (aq := []) [] [2] (fun _ => by kernel_rfl) trivial rfl (by kernel_rfl) (.inr ⟨_, rfl, fun h => by have := h.last (show k < ns.length by omega); omega, rfl⟩)
  refine ai.aA (k' := 14) (fr' := [(1, vP b1), (4, .map (some m2)), (6, vI ↑(cx ns k)), (8, .pointer (some ⟨(av A), au A + k * 10, none⟩)), (18, vI ↑ns.length), (19, vI ↑k), (39, .bool (decide (((nd ns k).id : Int) > (1099511627776 : Int))))]) (aq := [(Rd β ⟨(av A), au A + k * 10, none⟩ (vI ((nd ns k).id)))]) [o_, o_, o_, ⟨[.old (vI ((nd ns k).id))], none, none, none, none⟩, o_, o_, o_] [1, 4, 6, 8, 18, 19, 39] (fun _ _ => by kernel_rfl) ⟨aC.rd hG (i := k) (by omega) (j := 0) rfl, trivial⟩ ?_
  refine ai.gD 39 (((nd ns k).id : Int) > (1099511627776 : Int)) (fun _ => by kernel_rfl) (fun mK => ?_) (fun mK => ?_)
  ·refine ai.aA (k' := 18) (fr' := [(1, vP b1), (4, .map (some m2)), (6, vI ↑(cx ns k)), (8, .pointer (some ⟨(av A), au A + k * 10, none⟩)), (18, vI ↑ns.length), (19, vI ↑k), (43, .bool true)]) (aq := []) [o_, o_, o_, o_] [1, 4, 6, 8, 18, 19, 43] (fun _ _ => by kernel_rfl) trivial ?_
   refine ai.nil (by kernel_rfl) (aj.next ?_)
   refine af.eG (fun _ => by kernel_rfl) ?_
   refine af.seq (af.region ?_)
   refine ai.aA (k' := 2) (fr' := [(2, .map none), (3, .bool false)]) (aq := []) [o_, o_] [2, 3] (fun _ _ => by kernel_rfl) trivial ?_
   refine ai.nil (by kernel_rfl) (aj.next (af.ret (aj.ar (aj.aG (aj.ar (aj.ar (aj.aG (aj.ar ?_))))))))
   exact aj.ret (v := .tuple #[.map none, .bool false]) (l := []) (aq := []) [] [2] (fun _ => by kernel_rfl) trivial rfl (by kernel_rfl) (.inr ⟨_, rfl, fun h => by have := (h.ids k (by omega)).2; omega, rfl⟩)
  refine ai.aA (k' := 15) (fr' := [(1, vP b1), (4, .map (some m2)), (6, vI ↑(cx ns k)), (8, .pointer (some ⟨(av A), au A + k * 10, none⟩)), (18, vI ↑ns.length), (19, vI ↑k), (39, .bool false), (40, .pointer (some ⟨(av A), au A + k * 10, none⟩))]) (aq := []) [o_] [1, 4, 6, 8, 18, 19, 39, 40] (fun _ _ => by kernel_rfl) trivial ?_
  refine ai.call (f := 119) (args := #[.pointer (some ⟨(av A), au A + k * 10, none⟩)]) (d := (some 41)) (pre := []) (R := [.blk b1 [.slice A (ns.length) (c)] 24, .abs (aH Tryz.prog 3 m2 (mf (bf A ns k)) k), .abs R]) (pk := [0, 1, 2]) (fun _ => by kernel_rfl) (Hv A ns L hG k (by omega)) rfl (by kernel_rfl) ?_
  rintro _ _ ⟨rfl, rfl⟩
  refine ai.aA (k' := 18) (fr' := [(1, vP b1), (4, .map (some m2)), (6, vI ↑(cx ns k)), (8, .pointer (some ⟨(av A), au A + k * 10, none⟩)), (18, vI ↑ns.length), (19, vI ↑k), (43, .bool (!(decide (nM (nd ns k)))))]) (aq := []) [o_, o_] [1, 4, 6, 8, 18, 19, 43] (fun _ _ => by kernel_rfl) trivial ?_
  refine ai.nil (by kernel_rfl) (aj.next ?_)
  refine af.cr (p := nM (nd ns k)) (fun _ => by kernel_rfl) (fun Ml => ?_) (fun Ml => ?_)
  ·refine af.seq (af.region ?_)
   refine ai.aA (k' := 2) (fr' := [(2, .map none), (3, .bool false)]) (aq := []) [o_, o_] [2, 3] (fun _ _ => by kernel_rfl) trivial ?_
   refine ai.nil (by kernel_rfl) (aj.next (af.ret (aj.ar (aj.aG (aj.ar (aj.ar (aj.aG (aj.ar ?_))))))))
   exact aj.ret (v := .tuple #[.map none, .bool false]) (l := []) (aq := []) [] [2] (fun _ => by kernel_rfl) trivial rfl (by kernel_rfl) (.inr ⟨_, rfl, fun h => Ml (h.node k (by omega)), rfl⟩)
  refine af.skip (aj.next (af.seq (af.region ?_)))
  refine ai.aA (k' := 5) (fr' := [(1, vP b1), (4, .map (some m2)), (5, vI ((nd ns k).id)), (6, vI ↑(cx ns k)), (8, .pointer (some ⟨(av A), au A + k * 10, none⟩)), (18, vI ↑ns.length), (19, vI ↑k)]) (aq := [(Rd β ⟨(av A), au A + k * 10, none⟩ (vI ((nd ns k).id)))]) [o_, o_, o_, ⟨[.old (vI ((nd ns k).id))], none, none, none, none⟩, o_] [1, 4, 5, 6, 8, 18, 19] (fun _ _ => by kernel_rfl) ⟨aC.rd hG (i := k) (by omega) (j := 0) rfl, trivial⟩ ?_
  refine ai.nil (by kernel_rfl) (aj.next (af.seq (af.region ?_)))
  refine ai.aA (k' := 6) (fr' := [(1, vP b1), (4, .map (some m2)), (5, vI ((nd ns k).id)), (6, vI ↑(cx ns k)), (8, .pointer (some ⟨(av A), au A + k * 10, none⟩)), (18, vI ↑ns.length), (19, vI ↑k), (48, .map (some m2)), (52, vI ((nd ns k).id)), (53, .pointer (some ⟨(av A), au A + k * 10, none⟩))]) (aq := [(Rd β ⟨(av A), au A + k * 10, none⟩ (vI ((nd ns k).id)))]) [o_, o_, o_, o_, ⟨[.old (vI ((nd ns k).id))], none, none, none, none⟩, o_] [1, 4, 5, 6, 8, 18, 19, 48, 52, 53] (fun _ _ => by kernel_rfl) ⟨aC.rd hG (i := k) (by omega) (j := 0) rfl, trivial⟩ ?_
  refine ai.j7 1 (d := none) (t := 143) (K := 3) (E := 146) (b := m2) (n := k) (f := (mf (bf A ns k))) (x := (.tmp 48)) (ix := (.tmp 52)) (y := (.tmp 53)) (key := vI ((nd ns k).id)) (u := .pointer (some ⟨(av A), au A + k * 10, none⟩)) (kl := (.int .i64 (nd ns k).id)) (n' := k + 1) (f' := (mf (bf A ns (k + 1)))) (fun _ => by kernel_rfl) (by kernel_rfl) (fun _ => by kernel_rfl) (fun _ => by kernel_rfl) (fun _ => by kernel_rfl) dz Tryz.underlying143 (by unfold maxLen; omega) (mQ (by have := hu.last; omega) (by omega)) (I8 (hu.below (by omega)) (by omega)) (Mj (hu.below (by omega)) (by omega)) ?_
  refine ai.nil (by kernel_rfl) (aj.next (af.region ?_))
  refine ai.aA (k' := 8) (fr' := [(1, vP b1), (4, .map (some m2)), (5, vI ((nd ns k).id)), (6, vI ↑((cx ns k) + ((nd ns k).ah.length))), (18, vI ↑ns.length), (19, vI ↑k)]) (aq := [(Value.int .i64 (IntKind.wrap .i64 (((cx ns k : Nat) : Int) + (((nd ns k).ah.length : Nat) : Int)))) = (vI ↑((cx ns k) + ((nd ns k).ah.length))), (Rd β ⟨(av A), au A + k * 10 + 9, none⟩ (.slice (L.eA k) ((nd ns k).ah.length) ((L.eC k))))]) [o_, o_, o_, o_, ⟨[.old (.slice (L.eA k) ((nd ns k).ah.length) ((L.eC k)))], none, none, none, none⟩, o_, ⟨[], none, none, none, some (vI ↑((cx ns k) + ((nd ns k).ah.length)))⟩, o_] [1, 4, 5, 6, 18, 19] (fun _ _ => by kernel_rfl) ⟨bJ (by omega) (by omega) (by omega), aC.rd hG (i := k) (by omega) (j := 9) rfl, trivial⟩ ?_
  refine ai.nil (by kernel_rfl) (aj.aT (aj.next (af.region ?_)))
  refine ai.aA (k' := 2) (fr' := [(1, vP b1), (4, .map (some m2)), (5, vI ((nd ns k).id)), (6, vI ↑((cx ns k) + ((nd ns k).ah.length))), (18, vI ↑ns.length), (19, vI ↑(k + 1))]) (aq := [(Value.int .i64 (IntKind.wrap .i64 (((k : Nat) : Int) + 1))) = (vI ↑(k + 1))]) [⟨[], none, none, none, some (vI ↑(k + 1))⟩, o_] [1, 4, 5, 6, 18, 19] (fun _ _ => by kernel_rfl) ⟨bJ (by omega) (by omega) (by omega), trivial⟩ ?_
  refine ai.nil (by kernel_rfl) ?_
  exact aj.turn ((k + 1)) (idx := [1, 4, 5, 6, 18, 19]) (pk := [0, 1, 2]) (show (((k + 1)) ≤ ns.length) ∧ (ny ns ((k + 1))) ∧ (cx ns ((k + 1)) ≤ ((k + 1)) * 1048576) from ⟨by omega, hu.step (by omega) (by omega) Ml, by have := (hd k (by omega)).2; show cx ns k + _ ≤ _; omega⟩) (by show ns.length - ((k + 1)) < ns.length - k; omega) (fun _ => by kernel_rfl) rfl (by kernel_rfl)
 refine af.exit (aj.bg (aj.bg (aj.cA (aj.next (af.seq (af.seq (af.region ?_)))))))
 refine ai.aA (k' := 2) (fr' := [(1, vP b1), (4, .map (some m2)), (63, .bool (decide ((((cx ns k : Nat) : Int) : Int) > (8192 : Int))))]) (aq := []) [o_, o_] [1, 4, 63] (fun _ _ => by kernel_rfl) trivial ?_
 refine ai.nil (by kernel_rfl) (aj.next ?_)
 refine af.bB (p := (((cx ns k : Nat) : Int) : Int) > (8192 : Int)) (fun _ => by kernel_rfl) (fun h63 => ?_) (fun h63 => ?_)
 ·refine af.seq (af.region ?_)
  refine ai.aA (k' := 2) (fr' := [(2, .map none), (3, .bool false)]) (aq := []) [o_, o_] [2, 3] (fun _ _ => by kernel_rfl) trivial ?_
  refine ai.nil (by kernel_rfl) (aj.next (af.ret (aj.ar ?_)))
  exact aj.ret (v := .tuple #[.map none, .bool false]) (l := []) (aq := []) [] [2] (fun _ => by kernel_rfl) trivial rfl (by kernel_rfl) (.inr ⟨_, rfl, fun h => by have h1 := h.sum; rw [show ns.length = k by omega] at h1; omega, rfl⟩)
 refine af.skip (aj.next (af.seq (af.region ?_)))
 refine ai.lM (d := (some 64)) (t := 183) (fun _ => by kernel_rfl) Tryz.prog rfl 3 (fun m3 => ?_)
 refine ai.aA (k' := 2) (fr' := [(1, vP b1), (4, .map (some m2)), (9, .map (some m3))]) (aq := []) [o_] [1, 4, 9] (fun _ _ => by kernel_rfl) trivial ?_
 refine ai.nil (by kernel_rfl) (aj.next (af.seq (af.seq (af.region ?_))))
 refine ai.eT 3 (p := .abs (aH Tryz.prog 3 m3 (fun _ => none) 0)) (p' := .abs (aH Tryz.prog 3 m3 (mf (pf ((dH ns 0).map (fP ns)))) ((dH ns 0).length))) (by kernel_rfl) (by rw [Ky]; rfl) ?_
 refine ai.eT 1 (p := .abs (aH Tryz.prog 3 m2 (mf (bf A ns k)) k)) (p' := .abs (aH Tryz.prog 3 m2 (mf (bf A ns ns.length)) ns.length)) (by kernel_rfl) (by rw [show k = ns.length by omega]) ?_
 refine ai.aA (k' := 4) (fr' := [(1, vP b1), (4, .map (some m2)), (9, .map (some m3)), (67, vI ↑ns.length), (68, vI 0)]) (aq := [b1 = b1]) [o_, ⟨[.at 0], none, none, none, none⟩, o_, o_] [1, 4, 9, 67, 68] (fun _ _ => by kernel_rfl) ⟨rfl, trivial⟩ ?_
 refine ai.nil (by kernel_rfl) (aj.next (af.block ?_))
 have JZ : ck ns := fun a b hab hb => hu.rise a b hab (by omega)
 have hsum : cx ns ns.length ≤ 8192 := by rw [show ns.length = k by omega]; omega
 refine af.loop (ι := Nat) (fun (i : Nat) => (i ≤ ns.length) ∧ (∀ a, a < i → ∀ j, j < (nd ns a).ah.length → lg ns a j) ∧ (((dH ns i).map Prod.fst).Nodup)) (fun (i : Nat) => ns.length - i) (fun (i : Nat) => [(1, vP b1), (4, .map (some m2)), (9, .map (some m3)), (67, vI ↑ns.length), (68, vI ↑i)]) (fun (i : Nat) => [.blk b1 [.slice A (ns.length) (c)] 24, .abs (aH Tryz.prog 3 m2 (mf (bf A ns ns.length)) ns.length), .abs (aH Tryz.prog 3 m3 (mf (pf ((dH ns i).map (fP ns)))) ((dH ns i).length)), .abs R]) 0 (idx := [1, 4, 9, 67, 68]) (pk := [0, 1, 3, 2]) (show (0 ≤ ns.length) ∧ (∀ a, a < 0 → ∀ j, j < (nd ns a).ah.length → lg ns a j) ∧ (((dH ns 0).map Prod.fst).Nodup) from ⟨Nat.zero_le _, fun a ha => absurd ha (Nat.not_lt_zero a), List.nodup_nil⟩) (fun _ => by kernel_rfl) rfl (by kernel_rfl) ?_
 rintro i ⟨hi, Bf, hnd⟩
 show af _ _ _ _ [(1, vP b1), (4, .map (some m2)), (9, .map (some m3)), (67, vI ↑ns.length), (68, vI ↑i)] [.blk b1 [.slice A (ns.length) (c)] 24, .abs (aH Tryz.prog 3 m2 (mf (bf A ns ns.length)) ns.length), .abs (aH Tryz.prog 3 m3 (mf (pf ((dH ns i).map (fP ns)))) ((dH ns i).length)), .abs R] _
 refine af.seq (af.region ?_)
 refine ai.aA (k' := 1) (fr' := [(1, vP b1), (4, .map (some m2)), (9, .map (some m3)), (67, vI ↑ns.length), (68, vI ↑i), (69, .bool (decide ((((i : Nat) : Int) : Int) < (((ns.length : Nat) : Int) : Int))))]) (aq := []) [o_] [1, 4, 9, 67, 68, 69] (fun _ _ => by kernel_rfl) trivial ?_
 refine ai.nil (by kernel_rfl) (aj.next (af.seq ?_))
 refine af.bB (p := (((i : Nat) : Int) : Int) < (((ns.length : Nat) : Int) : Int)) (fun _ => by kernel_rfl) (fun Ju => ?_) (fun Ju => ?_)
 ·refine af.skip (aj.next (af.seq (af.block (af.seq (af.region ?_)))))
  refine ai.aA (k' := 2) (fr' := [(1, vP b1), (4, .map (some m2)), (9, .map (some m3)), (10, vI ↑i), (67, vI ↑ns.length), (68, vI ↑i)]) (aq := []) [o_, o_] [1, 4, 9, 10, 67, 68] (fun _ _ => by kernel_rfl) trivial ?_
  refine ai.nil (by kernel_rfl) (aj.next (af.seq (af.region ?_)))
  refine ai.aA (k' := 6) (fr' := [(1, vP b1), (4, .map (some m2)), (9, .map (some m3)), (67, vI ↑ns.length), (68, vI ↑i), (74, .pointer (some ⟨(av A), au A + i * 10, none⟩)), (75, .map (some m2)), (76, .map (some m3))]) (aq := [((i : Nat) : Int) = ((i : Nat) : Int), i < ns.length, (⟨(av A), au A, none⟩ : Addr).spot = none, (A : Option Addr) = some ⟨(av A), au A, none⟩, b1 = b1]) [o_, ⟨[.at 0], none, none, none, none⟩, o_, ⟨[], some i, none, some ⟨(av A), au A, none⟩, none⟩, o_, o_] [1, 4, 9, 67, 68, 74, 75, 76] (fun _ _ => by kernel_rfl) ⟨rfl, by omega, rfl, aC.hd hG (i := i) (by omega), rfl, trivial⟩ ?_
  refine ai.call (f := 120) (args := #[.pointer (some ⟨(av A), au A + i * 10, none⟩), .map (some m2), .map (some m3)]) (d := (some 77)) (pre := [.abs (aH Tryz.prog 3 m2 (mf (bf A ns ns.length)) ns.length), .abs (aH Tryz.prog 3 m3 (mf (pf ((dH ns i).map (fP ns)))) ((dH ns i).length))]) (R := [.blk b1 [.slice A (ns.length) (c)] 24, .abs R]) (pk := [1, 2, 0, 3]) (fun _ => by kernel_rfl) (I7 A ns L hG JZ i (by omega) (hd i (by omega)).2 (hwf i (by omega)) (hnm i (by omega)) m2 m3 (dH ns i) (by have := CR ns i; have := qY (ns := ns) (show i ≤ ns.length by omega); omega) (fun p hp => (wJ (by omega) Bf p hp).1) hnd) rfl (by kernel_rfl) ?_
  rintro _ _ (⟨rfl, hro, rfl⟩ | ⟨rfl, hro, rfl⟩)
  ·refine ai.aA (k' := 8) (fr' := [(1, vP b1), (4, .map (some m2)), (9, .map (some m3)), (67, vI ↑ns.length), (68, vI ↑i), (78, .bool false)]) (aq := []) [o_] [1, 4, 9, 67, 68, 78] (fun _ _ => by kernel_rfl) trivial ?_
   refine ai.nil (by kernel_rfl) (aj.next ?_)
   refine af.kZ (fun _ => by kernel_rfl) ?_
   refine af.skip (aj.aT (aj.next (af.region ?_)))
   refine ai.aA (k' := 2) (fr' := [(1, vP b1), (4, .map (some m2)), (9, .map (some m3)), (67, vI ↑ns.length), (68, vI ↑(i + 1))]) (aq := [(Value.int .i64 (IntKind.wrap .i64 (((i : Nat) : Int) + 1))) = (vI ↑(i + 1))]) [⟨[], none, none, none, some (vI ↑(i + 1))⟩, o_] [1, 4, 9, 67, 68] (fun _ _ => by kernel_rfl) ⟨bJ (by omega) (by omega) (by omega), trivial⟩ ?_
   refine ai.nil (by kernel_rfl) ?_
   exact aj.turn ((i + 1)) (idx := [1, 4, 9, 67, 68]) (pk := [2, 0, 1, 3]) (show (((i + 1)) ≤ ns.length) ∧ (∀ a, a < ((i + 1)) → ∀ j, j < (nd ns a).ah.length → lg ns a j) ∧ (((dH ns ((i + 1))).map Prod.fst).Nodup) from ⟨by omega, fun a ha => (by rcases Nat.lt_succ_iff_lt_or_eq.1 ha with h | h; exact Bf a h; subst h; exact hro.ah), hro.next⟩) (by show ns.length - ((i + 1)) < ns.length - i; omega) (fun _ => by kernel_rfl) rfl (by kernel_rfl)
  refine ai.aA (k' := 8) (fr' := [(1, vP b1), (4, .map (some m2)), (9, .map (some m3)), (67, vI ↑ns.length), (68, vI ↑i), (78, .bool true)]) (aq := []) [o_] [1, 4, 9, 67, 68, 78] (fun _ _ => by kernel_rfl) trivial ?_
  refine ai.nil (by kernel_rfl) (aj.next ?_)
  refine af.eG (fun _ => by kernel_rfl) ?_
  refine af.seq (af.region ?_)
  refine ai.aA (k' := 2) (fr' := [(2, .map none), (3, .bool false)]) (aq := []) [o_, o_] [2, 3] (fun _ _ => by kernel_rfl) trivial ?_
  refine ai.nil (by kernel_rfl) (aj.next (af.ret (aj.aG (aj.ar (aj.ar (aj.aG (aj.ar ?_)))))))
  exact aj.ret (v := .tuple #[.map none, .bool false]) (l := []) (aq := []) [] [1] (fun _ => by kernel_rfl) trivial rfl (by kernel_rfl) (.inr ⟨_, rfl, fun h => hro (h.row (by omega)), rfl⟩)
 refine af.exit (aj.bg (aj.bg (aj.cA (aj.next (af.seq (af.region ?_))))))
 refine ai.aA (k' := 2) (fr' := [(80, .map (some m2)), (81, .map (some m3))]) (aq := []) [o_, o_] [80, 81] (fun _ _ => by kernel_rfl) trivial ?_
 refine ai.eT 2 (p := .abs (aH Tryz.prog 3 m3 (mf (pf ((dH ns i).map (fP ns)))) ((dH ns i).length))) (p' := .abs (aH Tryz.prog 3 m3 (mf (pf ((dH ns i).map (fP ns)))) (((dH ns i).map (fP ns)).length))) (by kernel_rfl) (by rw [List.length_map]) ?_
 refine ai.call (f := 121) (args := #[.map (some m3)]) (d := (some 82)) (pre := [.abs (aH Tryz.prog 3 m3 (mf (pf ((dH ns i).map (fP ns)))) (((dH ns i).map (fP ns)).length))]) (R := [.blk b1 [.slice A (ns.length) (c)] 24, .abs (aH Tryz.prog 3 m2 (mf (bf A ns ns.length)) ns.length), .abs R]) (pk := [2, 0, 1, 3]) (fun _ => by kernel_rfl) ((FC m3 ((dH ns i).map (fP ns)) (by rw [List.length_map]; have := CR ns i; have := qY (ns := ns) (show i ≤ ns.length by omega); omega) (GX (wJ (by omega) Bf) (fun a ha => hu.ids a (by omega)))).mono (fun v l h => Mk h)) rfl (by kernel_rfl) ?_
 rintro _ _ (⟨rfl, Mn, rfl⟩ | ⟨rfl, Mn, rfl⟩)
 ·refine ai.aA (k' := 5) (fr' := [(2, .map (some m2)), (3, .bool true)]) (aq := []) [o_, o_] [2, 3] (fun _ _ => by kernel_rfl) trivial ?_
  refine ai.nil (by kernel_rfl) (aj.next (af.ret ?_))
  exact aj.ret (v := .tuple #[.map (some m2), .bool true]) (l := [.abs (aH Tryz.prog 3 m2 (mf (bf A ns ns.length)) ns.length)]) (aq := []) [] [1, 2] (fun _ => by kernel_rfl) trivial rfl (by kernel_rfl) (.inl ⟨m2, rfl, ⟨by omega, fun a ha => hu.node a (by omega), fun a ha => hu.ids a (by omega), JZ, by omega, fun a ha => Bf a (by omega), by have := hnd; rwa [show i = ns.length by omega] at this, by have := Mn; rwa [show i = ns.length by omega] at this⟩, rfl⟩)
 refine ai.aA (k' := 5) (fr' := [(2, .map (some m2)), (3, .bool false)]) (aq := []) [o_, o_] [2, 3] (fun _ _ => by kernel_rfl) trivial ?_
 refine ai.nil (by kernel_rfl) (aj.next (af.ret ?_))
 exact aj.ret (v := .tuple #[.map (some m2), .bool false]) (l := []) (aq := []) [] [2] (fun _ => by kernel_rfl) trivial rfl (by kernel_rfl) (.inr ⟨_, rfl, fun h => Mn (by have := h.ends; rwa [show ns.length = i by omega] at this), rfl⟩)
theorem I9 {β : Bs} (A : Option Addr) (c : Nat) (ns : List aN) (L : Lay) (hG : aC β A ns L) (hl : ns.length ≤ 1048576) (hd : ∀ i, i < ns.length → (nd ns i).data.length ≤ 140737488355328 ∧ (nd ns i).ah.length ≤ 1048576) (hwf : ∀ i, i < ns.length → ∀ j, j < (nd ns i).ah.length → -9223372036854775808 ≤ (ent ns i j).id ∧ (ent ns i j).id ≤ 9223372036854775807) (hnm : ∀ i, i < ns.length → ∀ j, j < (nd ns i).ah.length → (ent ns i j).name.size ≤ 1048576) :
    Spec Tryz.prog β 27 #[.agg #[.slice A ns.length c]] [] (fun v l => v = vI (if bU ns then 0 else 140) ∧ l = []) := by
 refine Spec.enter Tryz.func27 rfl Tryz.ntmps27 (Nat.le_of_ble_eq_true rfl) (fun R => ?_)
 refine af.seq (af.region ?_)
 refine ai.jR (k' := 2) (fr' := fun b4 => [(1, vP b4)]) (aL := fun b4 => [.abs R, .blk b4 [.slice A (ns.length) (c)] 24]) (aq := fun b4 => []) [o_, o_] [1] [0, 1] (fun _ _ => by kernel_rfl) (fun b4 => trivial) (fun b4 => ?_)
 refine ai.nil (by kernel_rfl) (aj.next (af.seq (af.seq (af.region ?_))))
 refine ai.aA (k' := 1) (fr' := [(6, .agg #[.slice A (ns.length) (c)])]) (aq := [b4 = b4]) [⟨[.at 1], none, none, none, none⟩] [6] (fun _ _ => by kernel_rfl) ⟨rfl, trivial⟩ ?_
 refine ai.call (f := 68) (args := #[.agg #[.slice A (ns.length) (c)]]) (d := (some 7)) (pre := []) (R := [.abs R, .blk b4 [.slice A (ns.length) (c)] 24]) (pk := [0, 1]) (fun _ => by kernel_rfl) (Kz A c ns L hG hl hd hwf hnm) rfl (by kernel_rfl) ?_
 rintro _ _ (⟨mb, rfl, hok, rfl⟩ | ⟨m, rfl, hok, rfl⟩)
 ·refine ai.aA (k' := 7) (fr' := [(4, .bool true)]) (aq := []) [o_, o_, o_, o_, o_] [4] (fun _ _ => by kernel_rfl) trivial ?_
  refine ai.nil (by kernel_rfl) (aj.next (af.seq (af.region ?_)))
  refine ai.aA (k' := 2) (fr' := [(11, .bool false)]) (aq := []) [o_, o_] [11] (fun _ _ => by kernel_rfl) trivial ?_
  refine ai.nil (by kernel_rfl) (aj.next ?_)
  refine af.kZ (fun _ => by kernel_rfl) ?_
  refine af.skip (aj.next (af.seq (af.region ?_)))
  refine ai.aA (k' := 1) (fr' := [(2, vI 0)]) (aq := []) [o_] [2] (fun _ _ => by kernel_rfl) trivial ?_
  refine ai.nil (by kernel_rfl) (aj.next (af.ret ?_))
  exact aj.ret (v := vI 0) (l := []) (aq := []) [] [1] (fun _ => by kernel_rfl) trivial rfl (by kernel_rfl) (⟨congrArg (Value.int .i64) (if_pos hok).symm, rfl⟩)
 refine ai.aA (k' := 7) (fr' := [(4, .bool false)]) (aq := []) [o_, o_, o_, o_, o_] [4] (fun _ _ => by kernel_rfl) trivial ?_
 refine ai.nil (by kernel_rfl) (aj.next (af.seq (af.region ?_)))
 refine ai.aA (k' := 2) (fr' := [(11, .bool true)]) (aq := []) [o_, o_] [11] (fun _ _ => by kernel_rfl) trivial ?_
 refine ai.nil (by kernel_rfl) (aj.next ?_)
 refine af.eG (fun _ => by kernel_rfl) ?_
 refine af.seq (af.region ?_)
 refine ai.aA (k' := 1) (fr' := [(2, vI 140)]) (aq := []) [o_] [2] (fun _ _ => by kernel_rfl) trivial ?_
 refine ai.nil (by kernel_rfl) (aj.next (af.ret (aj.ar ?_)))
 exact aj.ret (v := vI 140) (l := []) (aq := []) [] [0] (fun _ => by kernel_rfl) trivial rfl (by kernel_rfl) (⟨congrArg (Value.int .i64) (if_neg hok).symm, rfl⟩)
end
section
open Go.RowKit Go.Maps
def OU (ed : List (Nat × Nat)) (k : Nat) : Int := match ed.lookup k with | some a => (a : Int) | none => -1
structure QF (n : Nat) (pl : List Int) (ed : List (Nat × Nat)) : Prop where
  len : pl.length = n
  at_ : ∀ k, k < n → pl.getD k 0 = OU ed k
end
section
open Go.RowKit Go.Maps
structure zH (ns : List aN) (i j : Nat) : Prop where
  Mp : i < ns.length
  Av : j < (nd ns i).ah.length
  dir : (nd ns (tgt ns (ent ns i j).id)).kind = 2
section
variable {ns : List aN}
theorem p6 {i m : Nat} {p : Nat × Nat} : p ∈ ct ns i m ↔ ∃ j, j < m ∧ (nd ns (tgt ns (ent ns i j).id)).kind = 2 ∧ p = (tgt ns (ent ns i j).id, i) := by
  induction m with
  | zero => simp [ct]
  | succ m ih =>
    by_cases h : (nd ns (tgt ns (ent ns i m).id)).kind = 2
    ·rw [mT h, List.mem_cons, ih]
     refine ⟨fun hp => ?_, fun ⟨j, hj, h1, h2⟩ => ?_⟩
     ·rcases hp with rfl | ⟨j, hj, h1, h2⟩
      ·exact ⟨m, Nat.lt_succ_self m, h, rfl⟩
      exact ⟨j, Nat.lt_succ_of_lt hj, h1, h2⟩
     rcases Nat.lt_succ_iff_lt_or_eq.1 hj with e | e
     ·exact .inr ⟨j, e, h1, h2⟩
     subst e; exact .inl h2
    rw [qo h, ih]
    refine ⟨fun ⟨j, hj, h1⟩ => ⟨j, Nat.lt_succ_of_lt hj, h1⟩, fun ⟨j, hj, h1, h2⟩ => ?_⟩
    rcases Nat.lt_succ_iff_lt_or_eq.1 hj with e | e
    ·exact ⟨j, e, h1, h2⟩
    subst e; exact absurd h1 h
theorem sH {m : Nat} {p : Nat × Nat} : p ∈ dH ns m ↔ ∃ i j, i < m ∧ j < (nd ns i).ah.length ∧ (nd ns (tgt ns (ent ns i j).id)).kind = 2 ∧ p = (tgt ns (ent ns i j).id, i) := by
  induction m with
  | zero => simp [dH]
  | succ m ih =>
    rw [dH, List.mem_append, p6, ih]
    refine ⟨fun h => ?_, fun ⟨i, j, hi, hj, h1, h2⟩ => ?_⟩
    ·rcases h with ⟨j, hj, h1, h2⟩ | ⟨i, j, hi, h⟩
     ·exact ⟨m, j, Nat.lt_succ_self m, hj, h1, h2⟩
     exact ⟨i, j, Nat.lt_succ_of_lt hi, h⟩
    rcases Nat.lt_succ_iff_lt_or_eq.1 hi with e | e
    ·exact .inr ⟨i, j, e, hj, h1, h2⟩
    subst e; exact .inl ⟨j, hj, h1, h2⟩
theorem zH.mem {i j : Nat} (h : zH ns i j) : (tgt ns (ent ns i j).id, i) ∈ dH ns ns.length := sH.2 ⟨i, j, h.Mp, h.Av, h.dir, rfl⟩
def J0 (ns : List aN) (m : Nat) : Prop := ∀ i j i' j', zH ns i j → zH ns i' j' → i < m → i' < m → tgt ns (ent ns i j).id = tgt ns (ent ns i' j').id → i = i' ∧ j = j'
theorem GY {i m : Nat} (h : ((ct ns i m).map Prod.fst).Nodup) : ∀ j j', j < m → j' < m → (nd ns (tgt ns (ent ns i j).id)).kind = 2 → (nd ns (tgt ns (ent ns i j').id)).kind = 2 → tgt ns (ent ns i j).id = tgt ns (ent ns i j').id → j = j' := by
  induction m with
  | zero => intro j j' hj; omega
  | succ m ih =>
    intro j j' hj hj' hk hk' e
    by_cases hm : (nd ns (tgt ns (ent ns i m).id)).kind = 2
    ·rw [mT hm, List.map_cons, List.nodup_cons] at h
     rcases Nat.lt_succ_iff_lt_or_eq.1 hj with e1 | e1
     ·rcases Nat.lt_succ_iff_lt_or_eq.1 hj' with e2 | e2
      ·exact ih h.2 j j' e1 e2 hk hk' e
      subst e2; exact absurd (List.mem_map.2 ⟨_, p6.2 ⟨j, e1, hk, rfl⟩, e⟩) h.1
     rcases Nat.lt_succ_iff_lt_or_eq.1 hj' with e2 | e2
     ·subst e1; exact absurd (List.mem_map.2 ⟨_, p6.2 ⟨j', e2, hk', rfl⟩, e.symm⟩) h.1
     omega
    rw [qo hm] at h
    rcases Nat.lt_succ_iff_lt_or_eq.1 hj with e1 | e1
    ·rcases Nat.lt_succ_iff_lt_or_eq.1 hj' with e2 | e2
     ·exact ih h j j' e1 e2 hk hk' e
     subst e2; exact absurd hk' hm
    subst e1; exact absurd hk hm
theorem GZ {m : Nat} (h : ((dH ns m).map Prod.fst).Nodup) : J0 ns m := by
  induction m with
  | zero => intro i j i' j' _ _ hi; omega
  | succ m ih =>
    rw [dH, List.map_append] at h
    obtain ⟨h1, h2, h3⟩ := List.nodup_append.1 h
    intro i j i' j' g g' hi hi' e
    rcases Nat.lt_succ_iff_lt_or_eq.1 hi with e1 | e1
    ·rcases Nat.lt_succ_iff_lt_or_eq.1 hi' with e2 | e2
     ·exact ih h2 i j i' j' g g' e1 e2 e
     subst e2
     exact absurd e.symm (h3 _ (List.mem_map.2 ⟨_, p6.2 ⟨j', g'.Av, g'.dir, rfl⟩, rfl⟩) _ (List.mem_map.2 ⟨_, sH.2 ⟨i, j, e1, g.Av, g.dir, rfl⟩, rfl⟩))
    rcases Nat.lt_succ_iff_lt_or_eq.1 hi' with e2 | e2
    ·subst e1
     exact absurd e (h3 _ (List.mem_map.2 ⟨_, p6.2 ⟨j, g.Av, g.dir, rfl⟩, rfl⟩) _ (List.mem_map.2 ⟨_, sH.2 ⟨i', j', e2, g'.Av, g'.dir, rfl⟩, rfl⟩))
    subst e1; subst e2
    exact ⟨rfl, GY h1 j j' g.Av g'.Av g.dir g'.dir e⟩
def D5 (ns : List aN) (d : Nat → Nat) : Prop := ∀ i j, zH ns i j → d i < d (tgt ns (ent ns i j).id)
theorem bU.uniq (h : bU ns) : J0 ns ns.length := GZ h.nodup
theorem bU.deep (h : bU ns) : ∃ d, D5 ns d := by
  refine ⟨fun k => Classical.choose (h.ends (nd ns k).id), fun i j g => ?_⟩
  have hp := wJ (ns := ns) (Nat.le_refl _) h.ah
  have hat := (h.ah i g.Mp j g.Av).at_
  have htl := kP hat
  have e1 := Classical.choose_spec (h.ends (nd ns i).id)
  have e2 := Classical.choose_spec (h.ends (nd ns (tgt ns (ent ns i j).id)).id)
  show Classical.choose (h.ends (nd ns i).id) < Classical.choose (h.ends (nd ns (tgt ns (ent ns i j).id)).id)
  generalize Classical.choose (h.ends (nd ns i).id) = x at e1 ⊢
  generalize Classical.choose (h.ends (nd ns (tgt ns (ent ns i j).id)).id) = y at e2 ⊢
  cases hu : up ((dH ns ns.length).map (fP ns)) (nd ns (tgt ns (ent ns i j).id)).id with
  | none =>
    have := DA hu
    exact absurd (List.mem_map.2 ⟨_, g.mem, rfl⟩) this
  | some z =>
    obtain ⟨_, p, g1, g2, g3⟩ := DB h.rise htl.1 (fun p hp' => (hp p hp').1) hu
    obtain ⟨a, b, ha, hb, hk, rfl⟩ := sH.1 g1
    have g2 : tgt ns (ent ns a b).id = tgt ns (ent ns i j).id := g2
    obtain ⟨rfl, rfl⟩ := h.uniq a b i j ⟨ha, hb, hk⟩ g ha g.Mp g2
    have g3 : z = (nd ns a).id := g3
    cases y with
    | zero =>
      have e2 : up _ _ = none := e2
      rw [hu] at e2; cases e2
    | succ y =>
      obtain ⟨z', h1, h2⟩ := e2
      rw [hu] at h1
      cases h1
      rw [g3] at h2
      have := e1.uniq h2
      show x < y + 1
      omega
end
end
section
open Go.RowKit Go.Maps HeapM TabM
structure oV (X : FM) : Prop where
  cN : 0 ≤ X.cN ∧ X.cN ≤ 4096
  cB : 0 ≤ X.cB ∧ X.cB ≤ 1099511627776
  cH : 0 ≤ X.cH ∧ X.cH ≤ 1024
  now : cR X.cS X.cZ
def ef (n : aN) : Nat := n.id.toNat
def mH (n : aN) : Th := ⟨ef n, n.kind⟩
def nY (n : aN) : aS := ⟨n.id, n.mode, n.uid, n.gid, n.sec, n.nano, 0, 0, false, n.kind, n.data, n.target, [], none⟩
def Nn : aS := ⟨0, 0, 0, 0, 0, 0, 0, 0, false, 0, [], ⟨#[]⟩, [], none⟩
def fC (X : FM) : aI := ⟨{ X with last := 0, ah := 0, used := 0 }, fun _ => Nn, [], [], 0⟩
def bn (S : aI) (n : aN) : aI := { S with X := { S.X with last := n.id, used := S.X.used + n.data.length }, O := aB S.O (ef n) (fun _ => nY n), idx := ins n.id (mH n) S.idx }
def j4 (ns : List aN) (e : ic) : Th := mH (nd ns (tgt ns e.id))
def ju (ns : List aN) (S : aI) (n : aN) (e : ic) : aI := { S with X := { S.X with ah := S.X.ah + 1 }, O := mz S.O (ef n) e.name (j4 ns e) }
def p8 (ns : List aN) : Nat → Nat
  | 0 => 0
  | k + 1 => p8 ns k + (nd ns k).data.length
def CS (ns : List aN) : Used Th := ns.map (fun n => (n.id, mH n))
structure j5 (X : FM) (ns : List aN) (k : Nat) (S : aI) : Prop where
  inv : Inv0 S
  idx : S.idx = CS (ns.take k)
  us : S.us = []
  ay : S.ay = 0
  cap : S.X = { X with last := iE ns k, ah := 0, used := (p8 ns k : Int) }
  ob : ∀ a, a < k → obj S.O (ef (nd ns a)) = nY (nd ns a)
section base
variable {X : FM} {ns : List aN} {i j k a b : Nat} {S : aI}
theorem uF (h : bU ns) (hk : k < ns.length) : (ef (nd ns k) : Int) = (nd ns k).id := by
  have := h.ids k hk
  unfold ef; omega
theorem o5 (h : bU ns) (ha : a < ns.length) (hb : b < ns.length) (e : ef (nd ns a) = ef (nd ns b)) : a = b :=
  h.rise.inj ha hb (by rw [← uF h ha, ← uF h hb, e])
theorem yu (hk : k < ns.length) : ns[k]? = some (nd ns k) := getD_some hk
theorem KA (hk : k < ns.length) : ns.take (k + 1) = ns.take k ++ [nd ns k] := by
  rw [List.take_add_one, yu hk]; rfl
theorem G0 (hX : oV X) : j5 X ns 0 (fC X) := by
  refine ⟨?_, rfl, rfl, rfl, rfl, fun a h => absurd h (Nat.not_lt_zero a)⟩
  have hn : ∀ t, ¬ Live ([] : Used Th) t := fun t h => by cases h
  exact ⟨hX.cN, hX.cB, hX.cH, hX.now, by show (0 : Int) ≤ 0 ∧ (0 : Int) ≤ _; omega, .nil, Nat.zero_le _, fun _ _ e => (by cases e), fun t h => absurd h (hn t), fun t h => absurd h (hn t), fun t h => absurd h (hn t), fun t h => absurd h (hn t),
    fun _ _ => ⟨rfl, rfl⟩, fun _ _ => rfl, ⟨rfl, by show (0 : Int) ≤ 8192; omega⟩, fun t h => absurd h (hn t), fun t h => absurd h (hn t), fun t h => absurd h (hn t), .nil, fun x hx => (by cases hx), (by show ((0 : Nat) : Int) ≤ X.cH; have := hX.cH; omega), ⟨Int.le_refl _, hX.cH.1⟩, fun _ _ e => (by cases e), fun t h => absurd h (hn t), fun t h => absurd h (hn t), ⟨fun _ => 0, fun k d e => (by cases e)⟩, ⟨rfl, by show (0 : Int) ≤ _; omega⟩⟩
theorem D6 (h : bU ns) (hk : k < ns.length) : ∀ x ∈ keys (CS (ns.take k)), x < (nd ns k).id := by
  intro x hx
  obtain ⟨p, hp, rfl⟩ := List.mem_map.1 hx
  obtain ⟨n, hn, rfl⟩ := List.mem_map.1 hp
  obtain ⟨a, ha, e⟩ := List.mem_iff_getElem.1 hn
  rw [List.length_take] at ha
  rw [List.getElem_take] at e
  have e2 : nd ns a = n := by
    have := yu (ns := ns) (k := a) (by omega)
    rw [List.getElem?_eq_getElem (by omega), e] at this
    exact (Option.some.inj this).symm
  rw [← e2]
  exact h.rise a k (by omega) hk
theorem Ax (hd : ∀ i, i < ns.length → (nd ns i).data.length ≤ 1048576) (hk : k ≤ ns.length) : p8 ns k ≤ 1048576 * k := by
  induction k with
  | zero => exact Nat.le_refl _
  | succ k ih =>
    have h1 := ih (by omega)
    have h2 := hd k hk
    show p8 ns k + (nd ns k).data.length ≤ _
    omega
theorem uG (h : bU ns) (hd : ∀ i, i < ns.length → (nd ns i).data.length ≤ 1048576) (hk : k < ns.length) (hB : j5 X ns k S) : j5 X ns (k + 1) (bn S (nd ns k)) := by
  have hs := Ax hd (Nat.le_of_lt hk)
  have hn := h.node k hk
  have hid := uF h hk
  have Ja := h.ids k hk
  have hu : S.X.used = (p8 ns k : Int) := by rw [hB.cap]
  have hl : S.X.last = iE ns k := by rw [hB.cap]
  have hlen := h.len
  have hdk := hd k hk
  have Qe : S.idx.length = k := by
    rw [hB.idx]; unfold CS; rw [List.length_map, List.length_take]; omega
  have h1 := hB.inv.newAt (k0 := ef (nd ns k)) (o := nY (nd ns k)) (jj := S.X.used + (nd ns k).data.length) (us' := S.us) (eP := S.ay) (by rw [hid, hl]; exact h.last hk) (by rw [hid]; exact Ja.2) ⟨rfl, by rw [hu]; omega⟩ hid.symm
    (by have := hn.kind; show (nd ns k).kind = 1 ∨ (nd ns k).kind = 2 ∨ (nd ns k).kind = 3; omega) rfl rfl rfl rfl
    ⟨hn.mode, hn.uid, hn.gid, hn.time, fun e => List.eq_nil_of_length_eq_zero (hn.data e), fun _ => rfl, hn.target⟩ (by omega)
    hB.inv.usr hB.inv.tW hB.inv.xw hB.inv.ay (fun h t e => ⟨.inl (hB.inv.us h t e).1, (hB.inv.us h t e).2⟩) (fun _ _ => rfl) (by rw [hB.us]; rfl)
  rw [hid] at h1
  refine ⟨h1, ?_, hB.us, hB.ay, ?_, fun a ha => ?_⟩
  ·show ins (nd ns k).id (mH (nd ns k)) S.idx = _
   rw [hB.idx, H7 (D6 h hk), KA hk]
   unfold CS; rw [List.map_append]; rfl
  ·show ({ S.X with last := (nd ns k).id, used := S.X.used + ((nd ns k).data.length : Int) } : FM) = _
   rw [hu, hB.cap]
   show (⟨_, _, _, _, _, _, _, _⟩ : FM) = ⟨_, _, _, _, _, _, _, _⟩
   congr 1
  show obj (aB S.O (ef (nd ns k)) (fun _ => nY (nd ns k))) (ef (nd ns a)) = _
  rcases Nat.lt_succ_iff_lt_or_eq.1 ha with e | e
  ·rw [bS (fun e2 => by have := o5 h (by omega) hk e2; omega)]
   exact hB.ob a e
  subst e; exact bH
theorem j5.fresh (h : bU ns) (hk : k < ns.length) (hB : j5 X ns k S) : qz S.O S.idx S.us (ef (nd ns k)) := hB.inv.y9 (by rw [uF h hk, hB.cap]; exact h.last hk)
theorem j5.new (h : bU ns) (hk : k < ns.length) (hB : j5 X ns k S) : TabM.get S.idx (nd ns k).id = none := get_none.2 (fun hm => by
  rw [hB.idx] at hm
  exact absurd (D6 h hk _ hm) (by omega))
theorem wK (X : FM) (L : HL) : (∀ k, aQ (fC X).O L k = bR.none) ∧ (∀ k, aW (fC X).O L k = bR.none) ∧ ∀ k, bh (fC X).O L k = bR.none := ⟨fun _ => if_pos rfl, fun _ => if_neg (by show ¬ (0 : Int) = 1; omega), fun _ => if_neg (by show ¬ (0 : Int) = 2; omega)⟩
theorem Sat.Np {β : Bs} {l l' : List HP} {w : World} {i j b m c : Nat} {ix : List Nat} {O : bM} {L L' : HL} {A : Option Addr} {o : aS} (h : Sat β l w) (hL : L' = L.put k b m A c) (hp : l[i]? = some (.abs (ak (aW O L)))) (hq : l[j]? = some (.abs (aF 5 1 A o.data.length c (bL o.data)))) (hd : nodupB (i :: j :: ix) = true) (hl : bN l ix = some l') (h1 : o.kind = 1) : Sat β (.abs (ak (aW (aB O k (fun _ => o)) L')) :: l') w := by
  refine h.oK hp hq (fun _ _ h => h) hd hl k (fun x hx => by rw [tN hx, uW hL hx]) ?_
  rw [pH (by rw [bH]; exact h1), bH]
  subst hL
  simp only [HL.put, if_true]
end base
theorem KC {O : bM} {L : HL} {d : Nat} {name : ByteArray} {t : Th} : aW (mz O d name t) L = aW O L :=
  pP (fun _ => wg (g := aS.data) (fun _ _ => rfl) (fun _ _ => rfl) (fun _ _ => rfl)) (fun _ => tP)
def mI (ns : List aN) (i j a : Nat) : Nat := if a < i then (nd ns a).ah.length else if a = i then j else 0
def qf (ns : List aN) (a m : Nat) : dR Th := ((nd ns a).ah.take m).map (fun e => (e.name, j4 ns e))
structure eu (X : FM) (ns : List aN) (i j : Nat) (S : aI) : Prop where
  inv : Inv0 S
  idx : S.idx = CS ns
  us : S.us = []
  ay : S.ay = 0
  cap : S.X = { X with last := iE ns ns.length, ah := ((cx ns i + j : Nat) : Int), used := (p8 ns ns.length : Int) }
  ob : ∀ a, a < ns.length → ∃ l u, obj S.O (ef (nd ns a)) = { nY (nd ns a) with links := l, ah := qf ns a (mI ns i j a), up := u }
section ah
variable {X : FM} {ns : List aN} {i j k a b m : Nat} {S : aI} {t : Th}
theorem j5.ah (h : j5 X ns ns.length S) : eu X ns 0 0 S := by
  refine ⟨h.inv, by rw [h.idx, List.take_of_length_le (Nat.le_refl _)], h.us, h.ay, h.cap, fun a ha => ⟨0, none, ?_⟩⟩
  rw [h.ob a ha]
  have : mI ns 0 0 a = 0 := by
    unfold mI; rw [if_neg (Nat.not_lt_zero a)]; split <;> rfl
  rw [this]; rfl
theorem eu.get (h : eu X ns i j S) (ha : a < ns.length) : TabM.get S.idx (nd ns a).id = some (mH (nd ns a)) := by
  refine lW h.inv.rise ?_
  rw [h.idx]
  exact List.mem_map.2 ⟨nd ns a, List.mem_of_getElem? (yu ha), rfl⟩
theorem eu.live (hG : bU ns) (h : eu X ns i j S) (ha : a < ns.length) : Live S.idx (mH (nd ns a)) := by
  have := h.get ha
  rw [← uF hG ha] at this
  exact this
theorem eu.of (h : eu X ns i j S) {x : Int} (e : TabM.get S.idx x = some t) : ∃ a, a < ns.length ∧ t = mH (nd ns a) := by
  have hm := get_mem e
  rw [h.idx] at hm
  obtain ⟨n, hn, e2⟩ := List.mem_map.1 hm
  obtain ⟨a, ha, e3⟩ := List.mem_iff_getElem.1 hn
  have e4 : nd ns a = n := by
    have := yu ha
    rw [List.getElem?_eq_getElem ha, e3] at this
    exact (Option.some.inj this).symm
  cases e2
  exact ⟨a, ha, by rw [e4]⟩
theorem G1 {es : List ic} {q : Nat} (hq : q < es.length) : es[q]? = some (en es q) := getD_some hq
theorem sI {e : ByteArray × Th} (h : e ∈ qf ns a m) : ∃ q, q < m ∧ q < (nd ns a).ah.length ∧ e.1 = (ent ns a q).name ∧ e.2 = j4 ns (ent ns a q) := by
  obtain ⟨x, hx, rfl⟩ := List.mem_map.1 h
  obtain ⟨q, hq, e⟩ := List.mem_iff_getElem.1 hx
  rw [List.length_take] at hq
  rw [List.getElem_take] at e
  have e2 : ent ns a q = x := by
    have := G1 (es := (nd ns a).ah) (q := q) (by omega)
    rw [List.getElem?_eq_getElem (by omega), e] at this
    exact (Option.some.inj this).symm
  exact ⟨q, by omega, by omega, by rw [e2], by rw [e2]⟩
theorem G2 (hj : j < (nd ns i).ah.length) : qf ns i (j + 1) = qf ns i j ++ [((ent ns i j).name, j4 ns (ent ns i j))] := by
  unfold qf
  rw [List.take_add_one, G1 hj, List.map_append]; rfl
theorem zI (hG : bU ns) (hi : i < ns.length) {q : Nat} : ∀ {j}, q < j → j < (nd ns i).ah.length → lu (ent ns i q).name (ent ns i j).name < 0
  | 0, h, _ => absurd h (Nat.not_lt_zero q)
  | j + 1, h, hj => by
    have h1 := pQ.1 (hG.ah i hi (j + 1) hj).ord
    have h1 : lu (ent ns i j).name (ent ns i (j + 1)).name < 0 := h1
    rcases Nat.lt_succ_iff_lt_or_eq.1 h with e | e
    ·exact wW (zI hG hi e (by omega)) (Int.le_of_lt h1)
    rw [e]; exact h1
theorem Jb (hG : bU ns) (hi : i < ns.length) (hj : j < (nd ns i).ah.length) : aU (ent ns i j).name (qf ns i j) = none := by
  refine rW.2 (fun e he e1 => ?_)
  obtain ⟨q, h1, h2, h3, _⟩ := sI he
  have := zI hG hi h1 hj
  rw [← h3, e1] at this
  have h4 := zW (ent ns i j).name
  omega
theorem Ay {n : ByteArray} : ∀ {es : dR Th}, (∀ e ∈ es, lu e.1 n < 0) → eH n t es = es ++ [(n, t)]
  | [], _ => rfl
  | e :: r, h => by
    have h1 := h e (List.mem_cons_self ..)
    unfold eH
    rw [if_neg (fun hc => by have := pQ.1 hc; have := tJ e.1 n; omega), Ay (fun x hx => h x (List.mem_cons_of_mem _ hx))]; rfl
theorem Jc (hG : bU ns) (hi : i < ns.length) (hj : j < (nd ns i).ah.length) : eH (ent ns i j).name (j4 ns (ent ns i j)) (qf ns i j) = qf ns i (j + 1) := by
  rw [G2 hj]
  refine Ay (fun e he => ?_)
  obtain ⟨q, h1, _, h3, _⟩ := sI he
  rw [h3]
  exact zI hG hi h1 hj
theorem rM (hG : bU ns) (hi : i < ns.length) (hj : j < (nd ns i).ah.length) : tgt ns (ent ns i j).id < ns.length ∧ (nd ns (tgt ns (ent ns i j).id)).id = (ent ns i j).id := by
  have := kP (hG.ah i hi j hj).at_
  exact ⟨this.1, this.2.1⟩
theorem D7 {O : bM} {d x : Nat} {name : ByteArray} (h : t.k ≠ d) : obj (mz O d name t) x = if x = d then { obj O d with ah := eH name t (obj O d).ah } else if x = t.k then { obj O x with links := (obj O x).links + 1, up := if t.kind = 2 then some d else (obj O x).up } else obj O x := by
  have key : ∀ O2 : bM, O2 = aB (aB O d (fun o => { o with ah := eH name t o.ah })) t.k (fun o => { o with links := o.links + 1 }) → obj (if t.kind = 2 then aB O2 t.k (fun o => { o with up := some d }) else O2) x = if x = d then { obj O d with ah := eH name t (obj O d).ah } else if x = t.k then { obj O x with links := (obj O x).links + 1, up := if t.kind = 2 then some d else (obj O x).up } else obj O x := by
    intro O2 e
    by_cases hk : t.kind = 2
    ·rw [if_pos hk, if_pos hk, iZ, e, iZ, iZ]
     by_cases e1 : x = d
     ·subst e1; rw [if_neg (fun e => h e.symm), if_neg (fun e => h e.symm), if_pos rfl, if_pos rfl]
     by_cases e2 : x = t.k
     ·rw [if_pos e2, if_pos e2, if_neg e1, if_neg e1, if_pos e2]
     rw [if_neg e2, if_neg e2, if_neg e1, if_neg e1, if_neg e2]
    rw [if_neg hk, if_neg hk, e, iZ, iZ]
    by_cases e1 : x = d
    ·subst e1; rw [if_neg (fun e => h e.symm), if_pos rfl, if_pos rfl]
    by_cases e2 : x = t.k
    ·rw [if_pos e2, if_neg e1, if_neg e1, if_pos e2]
    rw [if_neg e2, if_neg e1, if_neg e1, if_neg e2]
  exact key _ rfl
theorem eu.OV (hG : bU ns) (h : eu X ns i j S) {d : Nat} (hd : Live S.idx ⟨d, 2⟩) {n : ByteArray} (ha : a < ns.length) (hk : (nd ns a).kind = 2) (hl : aU n (obj S.O d).ah = some (mH (nd ns a))) : ∃ b q, b < ns.length ∧ d = ef (nd ns b) ∧ zH ns b q ∧ tgt ns (ent ns b q).id = a := by
  obtain ⟨b, hb, e⟩ := h.of hd
  have e : (⟨d, 2⟩ : Th) = ⟨ef (nd ns b), (nd ns b).kind⟩ := e
  have e1 : d = ef (nd ns b) := congrArg Th.k e
  subst e1
  obtain ⟨l, u, ho⟩ := h.ob b hb
  have hm := j9 hl
  rw [ho] at hm
  obtain ⟨q, h1, h2, _, h4⟩ := sI hm
  have ht := rM hG hb h2
  have h5 : ef (nd ns a) = ef (nd ns (tgt ns (ent ns b q).id)) := congrArg Th.k h4
  have h6 := o5 hG ha ht.1 h5
  exact ⟨b, q, hb, rfl, ⟨hb, h2, by rw [← h6]; exact hk⟩, h6.symm⟩
theorem eu.below (hG : bU ns) (h : eu X ns i j S) {dp : Nat → Nat} (hdp : D5 ns dp) {s k : Nat} (hb : iJ S.O s k) : ∀ {a b}, a < ns.length → k = ef (nd ns a) → b < ns.length → s = ef (nd ns b) → dp b ≤ dp a := by
  induction hb with
  | here =>
    intro a b ha e1 hb e2
    have := o5 hG ha hb (by rw [← e1, ← e2])
    rw [this]; exact Nat.le_refl _
  | up hup _ ih =>
    intro a b ha e1 hb e2
    subst e1
    have hlv := h.live hG ha
    obtain ⟨h1, h2, n, h3⟩ := (h.inv.up _ hlv _).1 hup
    obtain ⟨c, q, hc, e3, hD, e4⟩ := h.OV hG h2 ha h1 h3
    have h5 := hdp c q hD
    rw [e4] at h5
    have := ih hc e3 hb e2
    omega
theorem eu.links (hG : bU ns) (h : eu X ns i j S) (hi : i < ns.length) (hj : j < (nd ns i).ah.length) (hk : (j4 ns (ent ns i j)).kind = 2) : (obj S.O (j4 ns (ent ns i j)).k).links = 0 := by
  have ht := rM hG hi hj
  have hlv : Live S.idx (j4 ns (ent ns i j)) := h.live hG ht.1
  rw [h.inv.links _ hlv]
  cases hz : gj S.idx S.O (j4 ns (ent ns i j)).k with
  | zero => rfl
  | succ z =>
    exfalso
    obtain ⟨x, u, hu, e, he, e1⟩ := xA h.inv.rise (show 0 < gj S.idx S.O (j4 ns (ent ns i j)).k by omega)
    obtain ⟨b, hb, rfl⟩ := h.of hu
    obtain ⟨l, u, ho⟩ := h.ob b hb
    have he : e ∈ (obj S.O (ef (nd ns b))).ah := he
    rw [ho] at he
    obtain ⟨q, h1, h2, _, h4⟩ := sI he
    have ht2 := rM hG hb h2
    have h5 : ef (nd ns (tgt ns (ent ns b q).id)) = ef (nd ns (tgt ns (ent ns i j).id)) := by
      rw [h4] at e1; exact e1
    have h6 := o5 hG ht2.1 ht.1 h5
    obtain ⟨rfl, rfl⟩ := hG.uniq b q i j ⟨hb, h2, by rw [h6]; exact hk⟩ ⟨hi, hj, hk⟩ hb hi h6
    unfold mI at h1
    rw [if_neg (Nat.lt_irrefl _), if_pos rfl] at h1
    omega
theorem eu.look (hG : bU ns) (h : eu X ns i j S) (hi : i < ns.length) (hj : j < (nd ns i).ah.length) : (obj S.O (ef (nd ns i))).ah = qf ns i j ∧ aU (ent ns i j).name (obj S.O (ef (nd ns i))).ah = none ∧ (nd ns i).kind = 2 := by
  obtain ⟨l, u, ho⟩ := h.ob i hi
  have e1 : (obj S.O (ef (nd ns i))).ah = qf ns i j := by
    rw [ho]
    show qf ns i (mI ns i j i) = _
    unfold mI; rw [if_neg (Nat.lt_irrefl _), if_pos rfl]
  refine ⟨e1, by rw [e1]; exact Jb hG hi hj, ?_⟩
  cases Decidable.em ((nd ns i).kind = 2) with
  | inl h => exact h
  | inr h => have := (hG.node i hi).ah h; omega
theorem eu.gone (h : eu X ns i j S) (ha : a < ns.length) : (obj S.O (ef (nd ns a))).gone = false := by
  obtain ⟨l, u, ho⟩ := h.ob a ha
  rw [ho]; rfl
theorem eu.ne (hG : bU ns) (hi : i < ns.length) (hj : j < (nd ns i).ah.length) (hk : (nd ns i).kind = 2) : (j4 ns (ent ns i j)).k ≠ ef (nd ns i) := fun e => by
  have ht := rM hG hi hj
  have h1 := o5 hG ht.1 hi e
  obtain ⟨dp, hdp⟩ := hG.deep
  have := hdp i j ⟨hi, hj, by rw [h1]; exact hk⟩
  rw [h1] at this
  exact Nat.lt_irrefl _ this
theorem eu.step (hG : bU ns) (h : eu X ns i j S) (hi : i < ns.length) (hj : j < (nd ns i).ah.length) : eu X ns i (j + 1) (ju ns S (nd ns i) (ent ns i j)) := by
  obtain ⟨l1, l2, l3⟩ := h.look hG hi hj
  have ht := rM hG hi hj
  have hne := eu.ne hG hi hj l3
  have hld : Live S.idx ⟨ef (nd ns i), 2⟩ := by
    have := h.live hG hi
    unfold mH at this
    rw [l3] at this
    exact this
  have hlt : Live S.idx (j4 ns (ent ns i j)) := h.live hG ht.1
  have hX : S.X.ah = ((cx ns i + j : Nat) : Int) := by rw [h.cap]
  have hsum : cx ns i + j < 8192 := by
    have h1 : cx ns (i + 1) ≤ cx ns ns.length := qY hi
    have h2 : cx ns (i + 1) = cx ns i + (nd ns i).ah.length := rfl
    have h3 := hG.sum
    omega
  have h1 := h.inv.put (O' := mz S.O (ef (nd ns i)) (ent ns i j).name (j4 ns (ent ns i j))) (ta := (obj S.O (ef (nd ns i))).sec) (tb := (obj S.O (ef (nd ns i))).nano) hld (h.gone hi) l2 (hG.ah i hi j hj).good hlt (h.gone ht.1) (fun hk => ⟨h.links hG hi hj hk, fun hb => by
      obtain ⟨dp, hdp⟩ := hG.deep
      have h2 := h.below hG hdp hb hi rfl ht.1 rfl
      have h3 := hdp i j ⟨hi, hj, hk⟩
      omega⟩) hne (by rw [hX]; omega) (h.inv.mt _ hld).time (fun x => D7 hne)
  refine ⟨h1, h.idx, h.us, h.ay, ?_, fun a ha => ?_⟩
  ·show ({ S.X with ah := S.X.ah + 1 } : FM) = _
   rw [hX, h.cap]
   show (⟨_, _, _, _, _, _, _, _⟩ : FM) = ⟨_, _, _, _, _, _, _, _⟩
   congr 1
  obtain ⟨l, u, ho⟩ := h.ob a ha
  show ∃ l u, obj (mz S.O (ef (nd ns i)) (ent ns i j).name (j4 ns (ent ns i j))) (ef (nd ns a)) = _
  rw [D7 hne]
  by_cases e : a = i
  ·subst e
   refine ⟨l, u, ?_⟩
   rw [if_pos rfl, l1, Jc hG hi hj, ho]
   have hc : mI ns a (j + 1) a = j + 1 := by unfold mI; rw [if_neg (Nat.lt_irrefl _), if_pos rfl]
   rw [hc]
  have hc : mI ns i (j + 1) a = mI ns i j a := by
    unfold mI; rw [if_neg e, if_neg e]
  rw [if_neg (fun e2 => e (o5 hG ha hi e2)), hc]
  split
  ·rw [ho]; exact ⟨_, _, rfl⟩
  exact ⟨l, u, ho⟩
theorem eu.next (h : eu X ns i (nd ns i).ah.length S) : eu X ns (i + 1) 0 S := by
  refine ⟨h.inv, h.idx, h.us, h.ay, h.cap, fun a ha => ?_⟩
  obtain ⟨l, u, ho⟩ := h.ob a ha
  refine ⟨l, u, ?_⟩
  rw [ho]
  have : mI ns (i + 1) 0 a = mI ns i (nd ns i).ah.length a := by
    unfold mI
    by_cases e : a = i
    ·subst e; rw [if_pos (by omega), if_neg (by omega), if_pos rfl]
    by_cases e2 : a < i
    ·rw [if_pos (by omega), if_pos e2]
    rw [if_neg (by omega), if_neg e2, if_neg e]; split <;> rfl
  rw [this]
theorem eu.full (h : eu X ns i j S) : Inv S := by
  refine ⟨h.inv, fun t ht hg => ?_⟩
  obtain ⟨a, ha, rfl⟩ := h.of ht
  have : (obj S.O (ef (nd ns a))).gone = true := hg
  rw [h.gone ha] at this
  cases this
end ah
end
end Go.Proofs.YtkiedlmhocglhaaGreatDoor
