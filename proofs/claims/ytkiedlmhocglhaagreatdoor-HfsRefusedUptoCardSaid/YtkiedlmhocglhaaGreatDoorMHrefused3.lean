/-
  PROVED HERE: lemmas and contracts of functions (texts of this repo, joined; what the claim does not use is left out): Hk, Hl, Hq, Hr, Ht, Hu, TabMath2, Hv, Hw, Hx, Hy, Hz, Ac, Fz, Hc, Hd, H1, H2, H3, H4.
  CONDITIONS: as the theorems say.
-/
import Derived.Test.YtkiedlmhocglhaaGreatDoorMHrefused2
import Derived.LaidEqlPtr
import Derived.Lib.Split
set_option maxRecDepth 100000
set_option maxHeartbeats 4000000
namespace Go.Proofs.YtkiedlmhocglhaaGreatDoor
section
open Go.RowKit Go.Maps HeapM TabM
section inv
variable {S : aI} {d k : Nat} {name : ByteArray} {t u : Th}
theorem Inv0.key (h : Inv0 S) {i : Int} (e : TabM.get S.idx i = some t) : i = (t.k : Int) := (h.idx i t e).1
theorem Inv0.live (h : Inv0 S) {i : Int} (e : TabM.get S.idx i = some t) : Live S.idx t := by
  have := h.key e
  subst this
  exact e
theorem fk {idx : Used Th} (h1 : Live idx t) (h2 : Live idx u) (e : t.k = u.k) : t = u := by
  unfold Live at h1 h2
  rw [e, h2] at h1
  exact (Option.some.inj h1).symm
theorem Inv0.kind (h : Inv0 S) (hl : Live S.idx t) : (obj S.O t.k).kind = t.kind := (h.ob t hl).2.1
theorem Ep {x : ByteArray} : iU x x := by unfold iU; simp
theorem iH.twice {es : dR Th} (h : iH es) : lS es := List.Pairwise.imp (fun {a b} hab e => hab (by rw [e]; exact Ep)) h
theorem Inv0.twice (h : Inv0 S) (hl : Live S.idx t) : lS (obj S.O t.k).ah := (h.sorted t hl).twice
theorem Inv0.ent (h : Inv0 S) (hd : Live S.idx u) (hl : aU name (obj S.O u.k).ah = some t) : bE name ∧ Live S.idx t := h.ah u hd _ (j9 hl)
theorem Inv0.ne (h : Inv0 S) (hd : Live S.idx ⟨d, 2⟩) (hl : aU name (obj S.O d).ah = some t) : t.k ≠ d := fun e => by
  have h1 := (h.ent hd hl).2
  have h2 : t = ⟨d, 2⟩ := fk h1 hd e
  subst h2
  have h3 := (h.up _ hd d).2 ⟨rfl, hd, name, hl⟩
  obtain ⟨dp, hdp⟩ := h.deep
  have : dp d < dp d := hdp _ _ h3
  omega
theorem Inv0.free (h : Inv0 S) (hk : S.X.last < (k : Int)) (hl : Live S.idx t) : t.k ≠ k := fun e => by
  have := (h.idx _ t hl).2.2
  subst e
  omega
theorem jm.of {o o' : aS} (h : jm o) (e1 : o'.mode = o.mode) (e2 : o'.uid = o.uid) (e3 : o'.gid = o.gid) (e4 : cR o'.sec o'.nano) (e5 : o'.kind = o.kind) (e6 : o'.data = o.data ∨ o.kind = 1) (e7 : o'.ah = o.ah ∨ o.kind = 2) (e8 : o'.target = o.target) : jm o' :=
  ⟨e1 ▸ h.mode, e2 ▸ h.uid, e3 ▸ h.gid, e4, fun hk => by
    rw [e5] at hk
    rcases e6 with e | e
    ·rw [e]; exact h.data hk
    ·exact absurd e hk, fun hk => by
    rw [e5] at hk
    rcases e7 with e | e
    ·rw [e]; exact h.ah hk
    exact absurd e hk, by rw [e5, e8]; exact h.target⟩
theorem Inv0.own (h : Inv0 S) {f : aS → aS} {jj eP : Int} {us' : Used Th} (f1 : ∀ o, (f o).id = o.id) (f2 : ∀ o, (f o).kind = o.kind) (f3 : ∀ o, (f o).ah = o.ah) (f4 : ∀ o, (f o).up = o.up) (f5 : ∀ o, (f o).links = o.links) (f6 : ∀ o, (f o).gone = o.gone)
    (hm : ∀ t, Live S.idx t → t.k = k → jm (f (obj S.O k))) (ho : ∀ t, Live S.idx t → (obj (aB S.O k f) t.k).opens = (hnd us' t.k : Int))
    (u1 : TabM.ck (keys us')) (u2 : ∀ x ∈ keys us', 1 ≤ x ∧ x ≤ eP) (u3 : (us'.length : Int) ≤ S.X.cH) (u4 : 0 ≤ eP ∧ eP ≤ S.X.cH) (u5 : ∀ h t, TabM.get us' h = some t → Live S.idx t ∧ t.kind ≠ 3)
    (hu : jj = (bytes S.idx (aB S.O k f) : Int) ∧ jj ≤ 140737488355328) : Inv0 { S with X := { S.X with used := jj }, O := aB S.O k f, us := us', ay := eP } := by
  have g1 : ∀ x, (obj (aB S.O k f) x).id = (obj S.O x).id := fun x => cM (g := aS.id) f1
  have g2 : ∀ x, (obj (aB S.O k f) x).kind = (obj S.O x).kind := fun x => cM (g := aS.kind) f2
  have g3 : ∀ x, (obj (aB S.O k f) x).ah = (obj S.O x).ah := fun x => cM (g := aS.ah) f3
  have g4 : ∀ x, (obj (aB S.O k f) x).up = (obj S.O x).up := fun x => cM (g := aS.up) f4
  have g5 : ∀ x, (obj (aB S.O k f) x).links = (obj S.O x).links := fun x => cM (g := aS.links) f5
  have g6 : ∀ x, (obj (aB S.O k f) x).gone = (obj S.O x).gone := fun x => cM (g := aS.gone) f6
  refine { h with ob := fun t hl => ?_, mt := fun t hl => ?_, ah := fun t hl => ?_, sorted := fun t hl => ?_, dead := fun x hx => ?_, oO := fun x hx => by rw [g2]; exact h.oO x hx, total := ?_, links := fun t hl => ?_, once := fun t hl => ?_, opens := ho, usr := u1, tW := u2, xw := u3, ay := u4, us := u5, gone := fun t hl => ?_, up := fun t hl e => ?_, deep := ?_, used := hu }
  ·rw [g1, g2]; exact h.ob t hl
  ·show jm (obj (aB S.O k f) t.k)
   by_cases e : t.k = k
   ·rw [e, bH]; exact hm t hl e
   rw [bS e]; exact h.mt t hl
  ·rw [g3]; exact h.ah t hl
  ·rw [g3]; exact h.sorted t hl
  ·rw [g3, g4]; exact h.dead x hx
  ·have : tot S.idx (aB S.O k f) = tot S.idx S.O := eO (fun p _ => by rw [g3])
   show S.X.ah = (tot S.idx (aB S.O k f) : Int) ∧ _
   rw [this]; exact h.total
  ·show (obj (aB S.O k f) t.k).links = (gj S.idx (aB S.O k f) t.k : Int)
   have : gj S.idx (aB S.O k f) t.k = gj S.idx S.O t.k := F8 g3
   rw [g5, this]; exact h.links t hl
  ·rw [g5]; exact h.once t hl
  ·rw [g6, g5, g3]; exact h.gone t hl
  ·show (obj (aB S.O k f) t.k).up = some e ↔ t.kind = 2 ∧ Live S.idx ⟨e, 2⟩ ∧ ∃ n, aU n (obj (aB S.O k f) e).ah = some t
   rw [g4, g3]; exact h.up t hl e
  obtain ⟨dp, hdp⟩ := h.deep
  exact ⟨dp, fun x e he => hdp x e (by rw [g4] at he; exact he)⟩
def freeM (S : aI) (t : Th) : aI := { S with X := { S.X with used := iV S.O S.X.used t }, idx := iF S.O S.idx t }
theorem Inv0.freeM (h : Inv0 S) (ht : Live S.idx t) (hf : ∀ u, Live S.idx u → u ≠ t → (obj S.O u.k).gone = true → 0 < (obj S.O u.k).opens) : Inv (Proofs.YtkiedlmhocglhaaGreatDoor.freeM S t) := by
  by_cases hF : oM S.O t
  ·have e1 : Proofs.YtkiedlmhocglhaaGreatDoor.freeM S t = { S with X := { S.X with used := S.X.used - (obj S.O t.k).data.length }, idx := del (t.k : Int) S.idx } := by
     unfold Proofs.YtkiedlmhocglhaaGreatDoor.freeM iV iF
     rw [if_pos hF, if_pos hF, (h.ob t ht).1]
     split
     ·rfl
     rename_i e
     have := (h.mt t ht).data (by rw [h.kind ht]; exact e)
     rw [this]
     simp
   rw [e1]
   obtain ⟨hg, hop⟩ := hF
   obtain ⟨hlk, hen⟩ := h.gone t ht hg
   have dJ : ∀ x, Live (del (t.k : Int) S.idx) x ↔ Live S.idx x ∧ x.k ≠ t.k := fun x => by
     unfold Live
     rw [rC]
     constructor
     ·intro e
      split at e
      ·cases e
      rename_i e2; exact ⟨e, fun e3 => e2 (by rw [e3])⟩
     rintro ⟨e, e2⟩
     rw [if_neg (by omega)]; exact e
   have hl0 : gj S.idx S.O t.k = 0 := by have := h.links t ht; omega
   have hne : ∀ x, Live S.idx x → ∀ e ∈ (obj S.O x.k).ah, e.2.k ≠ t.k := fun x hx e he hk => by
     have : 0 < gj S.idx S.O t.k := Nat.lt_of_lt_of_le (List.countP_pos_iff.2 ⟨e, he, by simpa using hk⟩) (jQ (g := fun p => (obj S.O p.2.k).ah.countP (fun e => decide (e.2.k = t.k))) hx)
     omega
   have hsum : ∀ q : ByteArray × Th → Bool, cI (fun p => (obj S.O p.2.k).ah.countP q) (del (t.k : Int) S.idx) = cI (fun p => (obj S.O p.2.k).ah.countP q) S.idx := fun q => by
     have h1 := wo (g := fun p : Int × Th => (obj S.O p.2.k).ah.countP q) h.rise ht
     have h2 : (obj S.O t.k).ah.countP q = 0 := by rw [hen]; rfl
     have h3 : cI (fun p : Int × Th => (obj S.O p.2.k).ah.countP q) (del (t.k : Int) S.idx) + (obj S.O t.k).ah.countP q = _ := h1
     omega
   refine { h with rise := Ca h.rise, len := ?_, idx := fun i x e => ?_, ob := fun x hx => h.ob x ((dJ x).1 hx).1, mt := fun x hx => h.mt x ((dJ x).1 hx).1, ah := fun x hx e he => ?_, sorted := fun x hx => h.sorted x ((dJ x).1 hx).1, dead := fun x hx => ?_, total := ?_, links := fun x hx => ?_, once := fun x hx => h.once x ((dJ x).1 hx).1, opens := fun x hx => h.opens x ((dJ x).1 hx).1, us := fun i x e => ?_, gone := fun x hx => h.gone x ((dJ x).1 hx).1, up := fun x hx e => ?_, used := ?_, full := fun x hx hg => hf x ((dJ x).1 hx).1 (fun e => ((dJ x).1 hx).2 (by rw [e])) hg }
   ·have h1 := mU h.rise (get_some ht)
    have h2 := h.len
    show (del (t.k : Int) S.idx).length ≤ 4096
    omega
   ·have e : TabM.get (del (t.k : Int) S.idx) i = some x := e
    rw [rC] at e
    split at e
    ·cases e
    exact h.idx i x e
   ·have hx' := ((dJ x).1 hx).1
    have h1 := h.ah x hx' e he
    exact ⟨h1.1, (dJ _).2 ⟨h1.2, hne x hx' e he⟩⟩
   ·by_cases e : x = t.k
    ·subst e
     refine ⟨hen, ?_⟩
     cases hu : (obj S.O t.k).up with
     | none => rfl
     | some y =>
       obtain ⟨_, h2, n, h3⟩ := (h.up t ht y).1 hu
       exact absurd rfl (hne _ h2 _ (j9 h3))
    exact h.dead x (fun y hy e2 => hx y ((dJ y).2 ⟨hy, fun e3 => e (e2.symm.trans e3)⟩) e2)
   ·show S.X.ah = (tot (del (t.k : Int) S.idx) S.O : Int) ∧ _
    rw [ko, hsum, ← ko]; exact h.total
   ·show _ = (gj (del (t.k : Int) S.idx) S.O x.k : Int)
    have : gj (del (t.k : Int) S.idx) S.O x.k = gj S.idx S.O x.k := hsum _
    rw [this]; exact h.links x ((dJ x).1 hx).1
   ·obtain ⟨h1, h2⟩ := h.us i x e
    refine ⟨(dJ x).2 ⟨h1, fun e2 => ?_⟩, h2⟩
    have h3 := h.opens t ht
    have h4 : 0 < hnd S.us t.k := Nat.lt_of_lt_of_le (by simp [e2]) (jQ (g := fun p : Int × Th => if p.2.k = t.k then 1 else 0) e)
    omega
   ·rw [h.up x ((dJ x).1 hx).1 e]
    constructor
    ·rintro ⟨h1, h2, n, h3⟩
     refine ⟨h1, (dJ _).2 ⟨h2, fun e2 => ?_⟩, n, h3⟩
     have e2 : e = t.k := e2
     rw [e2, hen] at h3; cases h3
    rintro ⟨h1, h2, h3⟩
    exact ⟨h1, ((dJ _).1 h2).1, h3⟩
   obtain ⟨h1, h2⟩ := h.used
   have h3 : cI (fun p : Int × Th => (obj S.O p.2.k).data.length) (del (t.k : Int) S.idx) + (obj S.O t.k).data.length = cI (fun p : Int × Th => (obj S.O p.2.k).data.length) S.idx := wo (g := fun p : Int × Th => (obj S.O p.2.k).data.length) h.rise ht
   show S.X.used - ((obj S.O t.k).data.length : Int) = (bytes (del (t.k : Int) S.idx) S.O : Int) ∧ S.X.used - ((obj S.O t.k).data.length : Int) ≤ 140737488355328
   unfold bytes at h1 ⊢
   omega
  have e1 : Proofs.YtkiedlmhocglhaaGreatDoor.freeM S t = S := by
    unfold Proofs.YtkiedlmhocglhaaGreatDoor.freeM iV iF
    rw [if_neg hF, if_neg hF]
  rw [e1]
  refine { h with full := fun u hu hg => ?_ }
  by_cases e : u = t
  ·subst e
   have h1 := h.opens u hu
   have : ¬ (obj S.O u.k).opens = 0 := fun e => hF ⟨hg, e⟩
   omega
  exact hf u hu e hg
end inv
end
section
open Go.RowKit Go.Maps HeapM TabM
section facts
variable {S : aI} {X : FM} {O : bM} {d k : Nat} {name : ByteArray} {t u : Th}
theorem cE {α : Type} {g : aS → α} (h1 : ∀ o es, g { o with ah := es } = g o) (h2 : ∀ o l, g { o with links := l } = g o) (h3 : ∀ o a b, g { o with sec := a, nano := b } = g o) : g (obj (aO X O d name t) k) = g (obj O k) := by
  unfold aO nP
  rw [cM (fun o => h2 o _), cM (fun o => h3 o _ _), cM (fun o => h1 o _)]
theorem kK {α : Type} {g : aS → α} (h1 : ∀ o es, g { o with ah := es } = g o) (h2 : ∀ o l, g { o with links := l } = g o) (h3 : ∀ o a b, g { o with sec := a, nano := b } = g o) (h4 : ∀ o u, g { o with up := u } = g o) : g (obj (br X O d name t) k) = g (obj O k) := by
  unfold br nP
  rw [cM (fun o => h3 o _ _), wg h1 h2 h4]
theorem Inv0.hX (h : Inv0 S) : 0 ≤ S.X.ah ∧ S.X.ah ≤ 1048576 ∧ -1125899906842624 ≤ S.X.used ∧ S.X.used ≤ 1125899906842624 ∧ 0 ≤ S.X.last ∧ S.X.last ≤ 1125899906842624 := by
  have := h.total; have := h.used; have := h.last
  omega
theorem Inv0.eS (h : Inv0 S) (hl : Live S.idx t) : (obj S.O t.k).ah.length ≤ 8192 := by
  have h1 := h.total
  have h2 : (obj S.O t.k).ah.length ≤ tot S.idx S.O := jQ (g := fun p : Int × Th => (obj S.O p.2.k).ah.length) hl
  omega
theorem Inv0.lb (h : Inv0 S) (hl : Live S.idx t) : 0 ≤ (obj S.O t.k).links ∧ (obj S.O t.k).links ≤ 8192 := by
  have h1 := h.total
  have h2 := h.links t hl
  have h3 : gj S.idx S.O t.k ≤ tot S.idx S.O := F9
  omega
theorem Lr {us : Used Th} : hnd us k ≤ us.length := by
  have : hnd us k ≤ cI (fun _ => 1) us := DK (fun p _ => by split <;> omega)
  have h2 : ∀ us : Used Th, cI (fun _ => 1) us = us.length := fun us => by
    induction us with
    | nil => rfl
    | cons p r ih => show 1 + _ = _; rw [ih, List.length_cons]; omega
  rw [h2] at this; exact this
theorem Inv0.Af (h : Inv0 S) (hl : Live S.idx t) : 0 ≤ (obj S.O t.k).opens ∧ (obj S.O t.k).opens ≤ 1024 := by
  have h1 := h.opens t hl
  have h2 : hnd S.us t.k ≤ S.us.length := Lr
  have := h.xw; have := h.cH
  omega
theorem Inv0.Cb (h : Inv0 S) (hl : Live S.idx t) : (obj S.O t.k).data.length ≤ 1125899906842624 := by
  have h1 := h.used
  have h2 : (obj S.O t.k).data.length ≤ bytes S.idx S.O := jQ (g := fun p : Int × Th => (obj S.O p.2.k).data.length) hl
  omega
theorem Inv0.Er (h : Inv0 S) (hl : Live S.idx t) : (obj S.O t.k).data.length ≤ 140737488355328 := by
  have h1 := h.used
  have h2 : (obj S.O t.k).data.length ≤ bytes S.idx S.O := jQ (g := fun p : Int × Th => (obj S.O p.2.k).data.length) hl
  omega
theorem Inv0.Ga (h : Inv0 S) (hl : Live S.idx t) : (Lit.int .i64 (obj S.O t.k).id).wf = true := by
  have h1 := h.ob t hl
  have h2 := h.idx _ t hl
  have h3 := h.last
  exact WalkArith.wf_i64 (by omega)
theorem Inv0.jY (h : Inv0 S) (hd : Live S.idx ⟨d, 2⟩) (name : ByteArray) : aU name (obj S.O d).ah = none ∨ (∃ k, aU name (obj S.O d).ah = some ⟨k, 1⟩ ∧ Live S.idx ⟨k, 1⟩) ∨ (∃ k, aU name (obj S.O d).ah = some ⟨k, 2⟩ ∧ Live S.idx ⟨k, 2⟩) ∨ ∃ k, aU name (obj S.O d).ah = some ⟨k, 3⟩ ∧ Live S.idx ⟨k, 3⟩ := by
  cases e : aU name (obj S.O d).ah with
  | none => exact .inl rfl
  | some t =>
    obtain ⟨k, kd⟩ := t
    have h1 := (h.ent hd e).2
    rcases (h.ob _ h1).2.2 with e2 | e2 | e2 <;> subst e2
    ·exact .inr (.inl ⟨k, rfl, h1⟩)
    ·exact .inr (.inr (.inl ⟨k, rfl, h1⟩))
    exact .inr (.inr (.inr ⟨k, rfl, h1⟩))
theorem Inv0.Ls (h : Inv0 S) (i : Int) : TabM.get S.idx i = none ∨ (∃ k, TabM.get S.idx i = some ⟨k, 1⟩ ∧ Live S.idx ⟨k, 1⟩) ∨ (∃ k, TabM.get S.idx i = some ⟨k, 2⟩ ∧ Live S.idx ⟨k, 2⟩) ∨ ∃ k, TabM.get S.idx i = some ⟨k, 3⟩ ∧ Live S.idx ⟨k, 3⟩ := by
  cases e : TabM.get S.idx i with
  | none => exact .inl rfl
  | some t =>
    obtain ⟨k, kd⟩ := t
    have h1 := h.live e
    rcases (h.ob _ h1).2.2 with e2 | e2 | e2 <;> subst e2
    ·exact .inr (.inl ⟨k, rfl, h1⟩)
    ·exact .inr (.inr (.inl ⟨k, rfl, h1⟩))
    exact .inr (.inr (.inr ⟨k, rfl, h1⟩))
theorem Inv0.hand (h : Inv0 S) (i : Int) : TabM.get S.us i = none ∨ (∃ k, TabM.get S.us i = some ⟨k, 1⟩ ∧ Live S.idx ⟨k, 1⟩) ∨ ∃ k, TabM.get S.us i = some ⟨k, 2⟩ ∧ Live S.idx ⟨k, 2⟩ := by
  cases e : TabM.get S.us i with
  | none => exact .inl rfl
  | some t =>
    obtain ⟨k, kd⟩ := t
    obtain ⟨h1, h0⟩ := h.us i _ e
    rcases (h.ob _ h1).2.2 with e2 | e2 | e2
    ·simp only at e2; subst e2; exact .inr (.inl ⟨k, rfl, h1⟩)
    ·simp only at e2; subst e2; exact .inr (.inr ⟨k, rfl, h1⟩)
    exact absurd e2 h0
theorem Inv0.M5 (h : Inv0 S) (hd : Live S.idx ⟨d, 2⟩) (hl : aU name (obj S.O d).ah = some t) : 1 ≤ S.X.ah := by
  have h1 := h.total
  have h2 : 0 < gj S.idx S.O t.k := kJ hd hl
  have h3 : gj S.idx S.O t.k ≤ tot S.idx S.O := F9
  omega
theorem Inv0.vw (h : Inv0 S) (hd : Live S.idx ⟨d, 2⟩) (hl : aU name (obj S.O d).ah = some t) : 0 ≤ S.X.ah - 1 ∧ S.X.ah - 1 ≤ 1048576 ∧ -1125899906842624 ≤ S.X.used ∧ S.X.used ≤ 1125899906842624 ∧ 0 ≤ S.X.last ∧ S.X.last ≤ 1125899906842624 := by
  have := h.M5 hd hl; have := h.hX
  omega
theorem mW {L : HL} {us : Used Th} {h : Int} (e : TabM.get us h = none) : TabM.get (aK L us) h = none := by
  unfold aK; rw [get_map, e]; rfl
theorem jb {L : HL} {us : Used Th} {h : Int} (e : TabM.get us h = some t) : TabM.get (aK L us) h = some (cG L t) := by
  unfold aK; rw [get_map, e]; rfl
theorem o4 {L : HL} {us : Used Th} {h : Int} (hn : TabM.get us h = none) : jK (aP (aK L us)) (.int .i64 h) (some (cG L t)) = aP (aK L (ins h t us)) := by
  rw [yZ (get_none.1 (mW hn))]
  exact congrArg aP (DC (cG L) h t us).symm
theorem Gb {L : HL} {us : Used Th} : TabM.least (aK L us) = TabM.least us := by unfold TabM.least; rw [wj]
theorem y6 {TT : TypeId} {L : HL} {us : Used Th} {v : Value} {l : List HP} {b : Nat} {most ay : Int} (h : v = .tuple #[.int .i64 (TabM.least (aK L us)), .int .i64 0] ∧ l = [.abs (aZ TT b most (max ay (((aK L us).length : Int) + 1)) (ins (TabM.least (aK L us)) (cG L t) (aK L us)))]) : v = .tuple #[.int .i64 (TabM.least us), .int .i64 0] ∧ l = [.abs (aZ TT b most (max ay ((us.length : Int) + 1)) (aK L (ins (TabM.least us) t us)))] := by
  rw [Gb, mV] at h
  have e : ins (TabM.least us) (cG L t) (aK L us) = aK L (ins (TabM.least us) t us) := (DC (cG L) (TabM.least us) t us).symm
  rw [e] at h
  exact h
theorem Ih {α : Type} {es : dR α} {n : ByteArray} (h : es = []) : aU n es = none := by rw [h]; rfl
end facts
section blocks
variable {O : bM} {L : HL} {k j : Nat} {t u : Th}
theorem uV (hk : (obj O k).kind ≠ 0) {F : Fp} {w : World} (h : (ak (aQ O L)).h F w) : ∃ cs T, w.heap[L.b k]? = some (.cells cs T (0, 0)) := by
  obtain ⟨G, g⟩ := ak.at k h
  rw [jD hk] at g
  exact ⟨_, _, g.1⟩
theorem DL (hk : (obj O k).kind ≠ 0) (hj : (obj O j).kind ≠ 0) {F : Fp} {w : World} (h : (ak (aQ O L)).h F w) (e : L.b k = L.b j) : k = j := by
  apply Classical.byContradiction
  intro hne
  obtain ⟨φ, h1, h2, _⟩ := h
  have g1 := h1 k
  have g2 := h1 j
  rw [jD hk] at g1
  rw [jD hj] at g2
  exact h2 k j hne (L.b k) ((g1.2 _).2 rfl) ((g2.2 _).2 e)
theorem y7 : Tryz.prog.underlying 96 = some (.pointer 99) := by kernel_rfl
theorem Ii : Tryz.prog.underlying 89 = some (.pointer 92) := by kernel_rfl
theorem Ij : Tryz.prog.underlying 93 = some (.pointer 95) := by kernel_rfl
end blocks
end
section
open Go.RowKit Go.Maps HeapM TabM
theorem Ik {s : ByteArray} : 0 ≤ Lib.indexByte s.data.toList ((0 : Int).toNat.toUInt8) ↔ ¬ uM s := by
  have hge := Lib.indexByte_ge s.data.toList ((0 : Int).toNat.toUInt8)
  constructor
  ·intro h hn
   obtain ⟨o, ho⟩ := Int.eq_ofNat_of_zero_le h
   have h1 := (Lib.indexByte_some ho).1
   obtain ⟨h2, h3⟩ := tE h1
   exact hn o h2 h3
  intro hn
  apply Classical.byContradiction
  intro hlt
  refine hn (fun j hj h0 => Lib.indexByte_none (show Lib.indexByte s.data.toList ((0 : Int).toNat.toUInt8) = -1 by omega) j ?_)
  rw [nF hj]
  congr 1
  apply UInt8.toNat_inj.1
  exact h0
theorem Dc {β : Bs} (s : ByteArray) : Spec Tryz.prog β 146 #[.string s, .int .u8 0] [] (fun v l => (∃ x : Int, v = .int .i64 x ∧ (0 ≤ x ↔ ¬ uM s)) ∧ l = []) :=
  fun _ w hS => (Tryz.strings_IndexByte s 0 w).mono fun _ _ ⟨h1, h2⟩ => ⟨_, [], h1, ⟨⟨_, rfl, Ik⟩, rfl⟩, h2 ▸ hS⟩
section ptr
variable {O : bM} {L : HL} {k j : Nat}
theorem Il : ∃ j, Tryz.prog.info? 99 = some j ∧ j.size ≠ 0 := by
  have h : (match Tryz.prog.info? 99 with | some j => j.size != 0 | none => false) = true := by kernel_rfl
  cases e : Tryz.prog.info? 99 with
  | none => rw [e] at h; cases h
  | some j => rw [e] at h; exact ⟨j, rfl, by simpa using h⟩
theorem Gc {w : World} {o : Oper} {ev : Operand → Value} {x y : Operand} (ho : o.op = .binOp .eql 96 x y 96) (hx : ev x = .pointer (some ⟨L.b k, 0, none⟩)) (hy : ev y = .pointer (some ⟨L.b j, 0, none⟩)) (hk : (obj O k).kind ≠ 0) (hj : (obj O j).kind ≠ 0) {F : Fp} (hF : (ak (aQ O L)).h F w) :
    lJ Tryz.prog ev o w (.bool (decide (k = j))) w := by
  obtain ⟨dst, op, type, pos, after, guard⟩ := o
  cases ho
  refine .inl ?_
  simp only [execOp, hx, hy]
  obtain ⟨ca, ta, ha⟩ := uV hk hF
  obtain ⟨cb, tb, hb⟩ := uV hj hF
  obtain ⟨i, hi, hsz⟩ := Il
  have h1 : (binOp .eql 96 (.pointer (some ⟨L.b k, 0, none⟩)) (.pointer (some ⟨L.b j, 0, none⟩))).run Tryz.prog w = .ok (.bool (decide (k = j))) w := by
    by_cases e : k = j
    ·subst e
     rw [run_eql_ptr_same _ _ y7 hi]
     simp
    rw [run_eql_ptr_other _ y7 hi hsz (fun h => e (DL hk hj hF (congrArg Addr.block h))) ha hb]
    simp [e]
  simp [go_sem, eqGuard, h1]
def Cc (tp te : TypeId) : Prop := Tryz.prog.underlying tp = some (.pointer te) ∧ (∃ i, Tryz.prog.info? tp = some i ∧ i.comparable = true) ∧ ∃ j, Tryz.prog.info? te = some j ∧ j.size ≠ 0
theorem y8 {tp te : TypeId} (h1 : Tryz.prog.underlying tp = some (.pointer te)) (h2 : (match Tryz.prog.info? tp with | some j => j.comparable | none => false) = true) (h3 : (match Tryz.prog.info? te with | some j => j.size != 0 | none => false) = true) : Cc tp te := by
  refine ⟨h1, ?_, ?_⟩
  ·cases e : Tryz.prog.info? tp with
   | none => rw [e] at h2; cases h2
   | some j => rw [e] at h2; exact ⟨j, rfl, h2⟩
  cases e : Tryz.prog.info? te with
  | none => rw [e] at h3; cases h3
  | some j => rw [e] at h3; exact ⟨j, rfl, by simpa using h3⟩
theorem Lu : Cc 89 92 := y8 Ii (by kernel_rfl) (by kernel_rfl)
theorem M6 : Cc 96 99 := y8 y7 (by kernel_rfl) (by kernel_rfl)
theorem Lv : Cc 93 95 := y8 Ij (by kernel_rfl) (by kernel_rfl)
theorem wq {tp te : TypeId} (hT : Cc tp te) {w : World} {o : Oper} {ev : Operand → Value} {x y : Operand} (ho : o.op = .binOp .eql 84 x y 84) (hx : ev x = .iface tp (.pointer (some ⟨L.b k, 0, none⟩))) (hy : ev y = .iface tp (.pointer (some ⟨L.b j, 0, none⟩))) (hk : (obj O k).kind ≠ 0) (hj : (obj O j).kind ≠ 0) {F : Fp} (hF : (ak (aQ O L)).h F w) :
    lJ Tryz.prog ev o w (.bool (decide (k = j))) w := by
  obtain ⟨dst, op, type, pos, after, guard⟩ := o
  cases ho
  refine .inl ?_
  simp only [execOp, hx, hy]
  obtain ⟨ca, ta, ha⟩ := uV hk hF
  obtain ⟨cb, tb, hb⟩ := uV hj hF
  obtain ⟨g1, ⟨i, hi, hc⟩, j', hj', hsz⟩ := hT
  have h1 : (binOp .eql 84 (.iface tp (.pointer (some ⟨L.b k, 0, none⟩))) (.iface tp (.pointer (some ⟨L.b j, 0, none⟩)))).run Tryz.prog w = .ok (.bool (decide (k = j))) w := by
    by_cases e : k = j
    ·subst e
     rw [run_eql_iface_ptr_same _ _ Tryz.underlying84 g1 hi hc hj']
     simp
    rw [run_eql_iface_ptr_other _ Tryz.underlying84 g1 hi hc hj' hsz (fun h => e (DL hk hj hF (congrArg Addr.block h))) ha hb]
    simp [e]
  simp [go_sem, eqGuard, h1]
end ptr
end
section
open Go.RowKit Go.Maps HeapM TabM
structure qz (O : bM) (idx us : Used Th) (k : Nat) : Prop where
  up : ∀ x, (obj O x).up ≠ some k
  ah : ∀ x, ∀ e ∈ (obj O x).ah, e.2.k ≠ k
  idx : ∀ p ∈ idx, p.2.k ≠ k
  us : ∀ p ∈ us, p.2.k ≠ k
section fresh
variable {S : aI} {O : bM} {idx us : Used Th} {L L' : HL} {k b m c : Nat} {A : Option Addr} {o : aS} {t : Th}
theorem mX (h : Inv0 S) : (aE S.X : Int) = S.X.last + 1 := by
  have := h.last
  unfold aE
  omega
theorem Inv0.rF (h : Inv0 S) (ht : Live S.idx t) : t.k ≠ aE S.X := h.free (by have := mX h; omega) ht
theorem Inv0.y9 (h : Inv0 S) (hk : S.X.last < (k : Int)) : qz S.O S.idx S.us k := by
  have key : ∀ x, (∃ t, Live S.idx t ∧ t.k = x) ∨ (obj S.O x).ah = [] ∧ (obj S.O x).up = none := fun x => by
    by_cases hx : ∃ t, Live S.idx t ∧ t.k = x
    ·exact .inl hx
    exact .inr (h.dead x (fun t ht e => hx ⟨t, ht, e⟩))
  refine ⟨fun x e => ?_, fun x e he => ?_, fun p hp => ?_, fun p hp => ?_⟩
  ·rcases key x with ⟨t, ht, rfl⟩ | hx
   ·obtain ⟨_, h2, _⟩ := (h.up t ht _).1 e
    exact h.free hk h2 rfl
   rw [hx.2] at e; cases e
  ·rcases key x with ⟨t, ht, rfl⟩ | hx
   ·exact h.free hk (h.ah t ht e he).2
   rw [hx.1] at he; cases he
  ·exact h.free hk (h.live (lW h.rise hp))
  exact h.free hk (h.us _ _ (lW h.usr hp)).1
theorem Inv0.fresh (h : Inv0 S) : qz S.O S.idx S.us (aE S.X) := h.y9 (by have := mX h; omega)
theorem su (hL : L' = L.put k b m A c) {x : Nat} (h : x ≠ k) : L'.b x = L.b x := by subst hL; exact if_neg h
theorem xB (hL : L' = L.put k b m A c) : L'.b k = b := by subst hL; exact if_pos rfl
theorem Cd (hL : L' = L.put k b m A c) : L'.m k = m := by subst hL; exact if_pos rfl
theorem Gd (hL : L' = L.put k b m A c) (h : t.k ≠ k) : cG L' t = cG L t := by unfold cG; rw [su hL h]
theorem lX (hL : L' = L.put k b m A c) (kind : Int) : cG L' ⟨k, kind⟩ = .iface (Nw kind) (.pointer (some ⟨b, 0, none⟩)) := by unfold cG; rw [xB hL]
theorem fo (hL : L' = L.put k b m A c) (h : ∀ p ∈ us, p.2.k ≠ k) : aK L' us = aK L us := List.map_congr_left (fun p hp => by rw [Gd hL (h p hp)])
theorem Im {es : dR Th} {n : ByteArray} (h : ∀ e ∈ es, e.2.k ≠ k) (e : aU n es = some t) : t.k ≠ k := h _ (j9 e)
theorem Io (hL : L' = L.put k b m A c) {es : dR Th} (h : ∀ e ∈ es, e.2.k ≠ k) : fX L' es = fX L es := by
  unfold fX
  congr 1
  funext n
  cases e : aU n es with
  | none => rfl
  | some t => exact congrArg some (Gd hL (Im h e))
theorem DM (hL : L' = L.put k b m A c) (hf : qz O idx us k) {x : Nat} (h : x ≠ k) : aQ O L' x = aQ O L x := by
  have e1 := su hL h
  have e2 : eY L' x (obj O x) = eY L x (obj O x) := by
    unfold eY uQ
    have h1 : qt L' (obj O x).up = qt L (obj O x).up := by
      cases hu : (obj O x).up with
      | none => rfl
      | some d => show Value.pointer _ = Value.pointer _; rw [su hL (fun e => hf.up x (by rw [hu, e]))]
    rw [h1]
    subst hL
    simp only [HL.put, if_neg h]
  unfold aQ
  rw [e1, e2]
theorem za (hL : L' = L.put k b m A c) (hf : qz O idx us k) {x : Nat} (h : x ≠ k) : bh O L' x = bh O L x := by
  unfold bh
  rw [Io hL (hf.ah x)]
  subst hL
  simp only [HL.put, if_neg h]
theorem uW (hL : L' = L.put k b m A c) {x : Nat} (h : x ≠ k) : aW O L' x = aW O L x := by
  unfold aW
  subst hL
  simp only [HL.put, if_neg h]
end fresh
theorem pP {O O' : bM} {L : HL} (h1 : ∀ x, (obj O' x).data = (obj O x).data) (h2 : ∀ x, (obj O' x).kind = (obj O x).kind) : aW O' L = aW O L := by
  funext x
  unfold aW
  rw [h1, h2]
theorem fI {X : FM} {O : bM} {L : HL} {d : Nat} {name : ByteArray} {t : Th} : aW (br X O d name t) L = aW O L :=
  pP (fun _ => kK (g := aS.data) (fun _ _ => rfl) (fun _ _ => rfl) (fun _ _ _ => rfl) (fun _ _ => rfl)) (fun _ => C8)
theorem iW {X : FM} {O : bM} {L : HL} {d : Nat} {name : ByteArray} {t : Th} : aW (aO X O d name t) L = aW O L :=
  pP (fun _ => cE (g := aS.data) (fun _ _ => rfl) (fun _ _ => rfl) (fun _ _ _ => rfl)) (fun _ => bX)
theorem mY {α : Type} {g : aS → α} {O : bM} {k j : Nat} (h : ∀ o b, g { o with gone := b } = g o) : g (obj (nH O j) k) = g (obj O k) := cM (f := fun o => { o with gone := true }) (fun o => h o true)
theorem Ip {O : bM} {L : HL} {k : Nat} : aW (nH O k) L = aW O L := pP (fun _ => mY (g := aS.data) (fun _ _ => rfl)) (fun _ => mY (g := aS.kind) (fun _ _ => rfl))
theorem lD {S : aI} {L : HL} {d : Nat} {name : ByteArray} {t : Th} : aW (ax S d name t).O L = aW S.O L := by
  unfold ax
  simp only
  split
  ·exact Ip.trans iW
  exact iW
theorem xC {S : aI} {d k : Nat} {name : ByteArray} {t : Th} : (obj (ax S d name t).O k).kind = (obj S.O k).kind := by
  unfold ax
  simp only
  split
  ·exact (mY (g := aS.kind) (fun _ _ => rfl)).trans bX
  exact bX
theorem lY {X : FM} {O : bM} {idx : Used Th} {d : Nat} {name : ByteArray} (h : bO X O idx d name = 0) : aU name (obj O d).ah = none := by
  unfold bO at h
  split at h
  ·assumption
  cases h
theorem qQ {X : FM} {O : bM} {idx : Used Th} {d : Nat} {name : ByteArray} (h : bO X O idx d name = 0) : Room X idx := by
  unfold bO at h
  split at h
  ·split at h
   ·assumption
   cases h
  cases h
theorem nI {X : FM} {O : bM} {idx : Used Th} {d : Nat} {name : ByteArray} (h : bO X O idx d name = 0) : X.last < 1099511627776 := (qQ h).2.1
section sat
variable {β : Bs} {l l' : List HP} {w : World} {i j k b m c : Nat} {O : bM} {us : Used Th} {idx' us' : Used Th} {L L' : HL} {cs : List Value} {T : TypeId} {ix : List Nat} {A : Option Addr} {o : aS} {R R' : Nat → bR}
theorem Sat.less {p p' : HP} (h : Sat β l w) (hp : l[i]? = some p) (hs : ∀ F, p.h F w → ∃ F', p'.h F' w ∧ ∀ x, F' x → F x) : Sat β (l.set i p') w :=
  h.set hp (fun F hF => let ⟨F', h1, h2⟩ := hs F hF; ⟨F', h1, ⟨Keeps.refl _ _, fun k hk => .inl (h2 k hk)⟩⟩)
theorem Sat.tY (h : Sat β l w) (hp : l[i]? = some (.abs (ak R))) (k : Nat) (hR : ∀ x, x ≠ k → R' x = R x) (ha : R' k = bR.none) : Sat β (l.set i (.abs (ak R'))) w := by
  refine h.less hp ?_
  rintro F ⟨φ, h1, h2, h3⟩
  refine ⟨fun x => ∃ i, i ≠ k ∧ φ i x, ⟨fun i => if i = k then fun _ => False else φ i, fun i => ?_, fun i j hne x hx hy => ?_, fun x => ⟨fun ⟨i, hne, hx⟩ => ⟨i, by simpa [hne] using hx⟩, fun ⟨i, hx⟩ => ?_⟩⟩, fun x ⟨i, _, hx⟩ => (h3 x).2 ⟨i, hx⟩⟩
  ·by_cases e : i = k
   ·subst e; simp only [if_true]; rw [ha]; exact fun _ h => h
   simp only [e, if_false]; rw [hR i e]; exact h1 i
  ·by_cases e1 : i = k
   ·simp [e1] at hx
   by_cases e2 : j = k
   ·simp [e2] at hy
   exact h2 i j hne x (by simpa [e1] using hx) (by simpa [e2] using hy)
  by_cases e1 : i = k
  ·simp [e1] at hx
  exact ⟨i, e1, by simpa [e1] using hx⟩
theorem Sat.qA (h : Sat β l w) (hL : L' = L.put k b m A c) (hf : qz O idx' us' k) (hp : l[i]? = some (.abs (ak (aQ O L)))) (hq : l[j]? = some (.blk b cs T)) (hd : nodupB (i :: j :: ix) = true) (hl : bN l ix = some l') (h0 : o.kind ≠ 0) (hc : eY L' k o = cs) (hT : kN o.kind = T) : Sat β (.abs (ak (aQ (aB O k (fun _ => o)) L')) :: l') w := by
  refine h.oK (a := v8 b cs T) hp hq (fun _ _ h => h) hd hl k (fun x hx => ?_) (by rw [rz, if_neg h0, hc, hT, xB hL])
  rw [rA hx, DM hL hf hx]
theorem Sat.JB (h : Sat β l w) (hL : L' = L.put k b m A c) (hf : qz O idx' us' k) (hp : l[i]? = some (.abs (ak (bh O L)))) (hq : l[j]? = some (.abs (aH Tryz.prog 9 m (fun _ => none) 0))) (hd : nodupB (i :: j :: ix) = true) (hl : bN l ix = some l') (h2 : o.kind = 2) (he : o.ah = []) : Sat β (.abs (ak (bh (aB O k (fun _ => o)) L')) :: l') w := by
  refine h.oK hp hq (fun _ _ h => h) hd hl k (fun x hx => by rw [tM hx, za hL hf hx]) ?_
  rw [lT (by rw [bH]; exact h2), bH, he, HM, Cd hL]; rfl
theorem Sat.rG (h : Sat β l w) (hL : L' = L.put k b m A c) (hf : qz O idx' us' k) (hp : l[i]? = some (.abs (ak (bh O L)))) (h2 : o.kind ≠ 2) : Sat β (l.set i (.abs (ak (bh (aB O k (fun _ => o)) L')))) w := by
  refine h.tY hp k (fun x hx => by rw [tM hx, za hL hf hx]) ?_
  unfold bh; rw [bH, if_neg h2]
theorem Sat.xD (h : Sat β l w) (hL : L' = L.put k b m A c) (hp : l[i]? = some (.abs (ak (aW O L)))) (h1 : o.kind ≠ 1) : Sat β (l.set i (.abs (ak (aW (aB O k (fun _ => o)) L')))) w := by
  refine h.tY hp k (fun x hx => by rw [tN hx, uW hL hx]) ?_
  unfold aW; rw [bH, if_neg h1]
theorem Sat.Es (h : Sat β l w) (hL : L' = L.put k b m none 0) (hp : l[i]? = some (.abs (ak (aW O L)))) (hq : l[j]? = some (.abs (aF 5 1 none 0 0 []))) (hd : nodupB (i :: j :: ix) = true) (hl : bN l ix = some l') (h1 : o.kind = 1) (he : o.data = []) : Sat β (.abs (ak (aW (aB O k (fun _ => o)) L')) :: l') w := by
  refine h.oK hp hq (fun _ _ h => h) hd hl k (fun x hx => by rw [tN hx, uW hL hx]) ?_
  rw [pH (by rw [bH]; exact h1), bH, he]
  subst hL
  simp only [HL.put, if_true]
  rfl
end sat
end
section
open Go.RowKit Go.Maps HeapM TabM
section inv
variable {S : aI} {d : Nat} {name : ByteArray} {t : Th} {O' : bM}
theorem iH.del {es : dR Th} (h : iH es) : iH (eX name es) := List.Pairwise.filter _ h
theorem pQ {x y : ByteArray} : ¬ iU x y ↔ lu y x < 0 := by
  unfold iU
  rw [wP, Lib.toList_data, Lib.toList_data]
  have h1 := @zU x.data.toList y.data.toList
  have h2 := @zX x y
  have h3 := tJ x y
  unfold lu at h2 h3 ⊢
  rw [Bool.or_eq_true, decide_eq_true_iff, ← h1, ← h2]
  omega
theorem iH.ins {es : dR Th} (h : iH es) (hn : aU name es = none) : iH (eH name t es) := by
  induction es with
  | nil => exact List.pairwise_singleton ..
  | cons e r ih =>
    obtain ⟨h1, h2⟩ := List.pairwise_cons.1 h
    have hall := rW.1 hn
    unfold eH
    split
    ·rename_i hlt
     refine List.pairwise_cons.2 ⟨fun x hx => ?_, h⟩
     rcases List.mem_cons.1 hx with rfl | hx
     ·exact hlt
     have h3 := h1 x hx
     exact pQ.2 (wW (pQ.1 hlt) (Int.le_of_lt (pQ.1 h3)))
    rename_i hle
    refine List.pairwise_cons.2 ⟨fun x hx => ?_, ih h2 (rW.2 (fun x hx => hall x (List.mem_cons_of_mem _ hx)))⟩
    rcases vZ.1 hx with rfl | hx
    ·have hne : ¬ e.1 = name := hall e (List.mem_cons_self ..)
     refine pQ.2 ?_
     have h4 : ¬ lu name e.1 < 0 := fun hc => hle (pQ.2 hc)
     have h5 := tJ e.1 name
     have h6 : ¬ lu e.1 name = 0 := fun hc => hne (zX.1 hc)
     show lu e.1 name < 0
     omega
    exact h1 x hx
theorem Inv0.cut (hI : Inv0 S) (hd : Live S.idx ⟨d, 2⟩) (hl : aU name (obj S.O d).ah = some t) {g : Bool}
    (hO : ∀ k, obj O' k = if k = d then { obj S.O d with ah := eX name (obj S.O d).ah, sec := S.X.cS, nano := S.X.cZ } else if k = t.k then { obj S.O k with links := (obj S.O k).links - 1, gone := g, up := none } else obj S.O k)
    (hg : g = (obj S.O t.k).gone ∨ (obj S.O t.k).links - 1 = 0 ∧ (t.kind = 2 → (obj S.O t.k).ah = [])) : Inv0 { S with X := { S.X with ah := S.X.ah - 1 }, O := O' } := by
  have hne := hI.ne hd hl
  have ht := (hI.ent hd hl).2
  have oD : obj O' d = { obj S.O d with ah := eX name (obj S.O d).ah, sec := S.X.cS, nano := S.X.cZ } := by rw [hO, if_pos rfl]
  have oT : obj O' t.k = { obj S.O t.k with links := (obj S.O t.k).links - 1, gone := g, up := none } := by rw [hO, if_neg hne, if_pos rfl]
  have oX : ∀ x, x ≠ d → x ≠ t.k → obj O' x = obj S.O x := fun x h1 h2 => by rw [hO, if_neg h1, if_neg h2]
  have vz : ∀ {α : Type} (G : aS → α), (∀ o es a b, G { o with ah := es, sec := a, nano := b } = G o) → (∀ o l g, G { o with links := l, gone := g, up := none } = G o) → ∀ x, G (obj O' x) = G (obj S.O x) := fun G h1 h2 x => by
    by_cases e : x = d
    ·subst e; rw [oD]; exact h1 _ _ _ _
    by_cases e2 : x = t.k
    ·subst e2; rw [oT]; exact h2 _ _ _
    rw [oX x e e2]
  have Lw := vz aS.id (fun _ _ _ _ => rfl) (fun _ _ _ => rfl)
  have xE := vz aS.kind (fun _ _ _ _ => rfl) (fun _ _ _ => rfl)
  have Et := vz aS.data (fun _ _ _ _ => rfl) (fun _ _ _ => rfl)
  have Lx := vz aS.opens (fun _ _ _ _ => rfl) (fun _ _ _ => rfl)
  have fE : ∀ x, x ≠ d → (obj O' x).ah = (obj S.O x).ah := fun x hx => by
    by_cases e2 : x = t.k
    ·subst e2; rw [oT]
    rw [oX x hx e2]
  have vA : (obj O' d).ah = eX name (obj S.O d).ah := by rw [oD]
  have hlk : 0 < gj S.idx S.O t.k := kJ hd hl
  have hlt := hI.links t ht
  have hky : ∀ i u, TabM.get S.idx i = some u → i = (u.k : Int) := fun i u e => hI.key e
  have hsum : ∀ q : ByteArray × Th → Bool, _ := fun q => Ie (q := q) hI.rise hd hky fE vA (hI.twice hd) hl
  have Eu : ∀ x, gj S.idx O' x + (if t.k = x then 1 else 0) = gj S.idx S.O x := fun x => by
    have h1 := hsum (fun e => decide (e.2.k = x))
    simp only [decide_eq_true_eq] at h1
    exact h1
  refine { hI with ob := fun x hx => ?_, mt := fun x hx => ?_, ah := fun x hx e he => ?_, sorted := fun x hx => ?_, dead := fun x hx => ?_, oO := fun x hx => (xE x).trans (hI.oO x hx), total := ?_, links := fun x hx => ?_, once := fun x hx hk => ?_, opens := fun x hx => ?_, gone := fun x hx gP => ?_, up := fun x hx e => ?_, deep := ?_, used := ?_ }
  ·show (obj O' x.k).id = _ ∧ (obj O' x.k).kind = _ ∧ _
   rw [Lw, xE]; exact hI.ob x hx
  ·show jm (obj O' x.k)
   have hm := hI.mt x hx
   by_cases e : x.k = d
   ·rw [e] at hm ⊢
    rw [oD]
    exact hm.of rfl rfl rfl hI.now rfl (.inl rfl) (.inr (hI.kind hd)) rfl
   by_cases e2 : x.k = t.k
   ·rw [e2] at hm ⊢
    rw [oT]
    exact hm.of rfl rfl rfl hm.time rfl (.inl rfl) (.inl rfl) rfl
   rw [oX _ e e2]; exact hm
  ·by_cases e1 : x.k = d
   ·have he : e ∈ (obj O' x.k).ah := he
    rw [e1, vA] at he
    exact hI.ah _ hd e (Ic he).1
   have he : e ∈ (obj O' x.k).ah := he
   rw [fE _ e1] at he
   exact hI.ah x hx e he
  ·show iH (obj O' x.k).ah
   by_cases e1 : x.k = d
   ·rw [e1, vA]; exact iH.del (hI.sorted _ hd)
   rw [fE _ e1]; exact hI.sorted x hx
  ·show (obj O' x).ah = [] ∧ (obj O' x).up = none
   rw [oX x (fun e => hx _ hd e.symm) (fun e => hx t ht e.symm)]
   exact hI.dead x hx
  ·have h1 := hsum (fun _ => true)
   have h2 := hI.total
   rw [ko] at h2
   show S.X.ah - 1 = (tot S.idx O' : Int) ∧ S.X.ah - 1 ≤ 8192
   rw [ko]
   simp only [if_true] at h1
   omega
  ·show (obj O' x.k).links = (gj S.idx O' x.k : Int)
   have h1 := Eu x.k
   have h2 := hI.links x hx
   by_cases e2 : x.k = t.k
   ·rw [if_pos e2.symm] at h1
    rw [e2, oT]
    rw [e2] at h1
    show (obj S.O t.k).links - 1 = _
    omega
   rw [if_neg (fun e => e2 e.symm)] at h1
   have : (obj O' x.k).links = (obj S.O x.k).links := by
     by_cases e : x.k = d
     ·rw [e, oD]
     rw [oX _ e e2]
   omega
  ·show (obj O' x.k).links ≤ 1
   have h1 := hI.once x hx hk
   by_cases e2 : x.k = t.k
   ·rw [e2] at h1 ⊢
    rw [oT]
    show (obj S.O t.k).links - 1 ≤ 1
    omega
   by_cases e : x.k = d
   ·rw [e] at h1 ⊢; rw [oD]; exact h1
   rw [oX _ e e2]; exact h1
  ·show (obj O' x.k).opens = _
   rw [Lx]; exact hI.opens x hx
  ·have gP : (obj O' x.k).gone = true := gP
   show (obj O' x.k).links = 0 ∧ (obj O' x.k).ah = []
   by_cases e2 : x.k = t.k
   ·rw [e2] at gP ⊢
    rw [fE _ hne, oT]
    rw [oT] at gP
    show (obj S.O t.k).links - 1 = 0 ∧ _
    rcases hg with h | ⟨h1, h2⟩
    ·have gP : g = true := gP
     rw [h] at gP
     have := (hI.gone t ht gP).1
     omega
    refine ⟨h1, ?_⟩
    by_cases hk : t.kind = 2
    ·exact h2 hk
    exact (hI.mt t ht).ah (by rw [hI.kind ht]; exact hk)
   by_cases e : x.k = d
   ·rw [e, oD] at gP
    have := (hI.gone _ hd gP).2
    rw [Ih this] at hl; cases hl
   rw [oX _ e e2] at gP ⊢; exact hI.gone x hx gP
  ·show (obj O' x.k).up = some e ↔ x.kind = 2 ∧ Live S.idx ⟨e, 2⟩ ∧ ∃ n, aU n (obj O' e).ah = some x
   by_cases e2 : x.k = t.k
   ·have Ge : x = t := fk hx ht e2
    subst Ge
    rw [oT]
    constructor
    ·intro h; cases h
    rintro ⟨hk, hle, n, hn⟩
    have h1 := hI.once x hx hk
    have h2 := Eu x.k
    rw [if_pos rfl] at h2
    have h3 : 0 < gj S.idx O' x.k := kJ hle hn
    omega
   have h1 : (obj O' x.k).up = (obj S.O x.k).up := by
     by_cases e : x.k = d
     ·rw [e, oD]
     rw [oX _ e e2]
   have h2 : ∀ n, aU n (obj O' e).ah = some x ↔ aU n (obj S.O e).ah = some x := fun n => by
     by_cases e3 : e = d
     ·rw [e3, vA, nN]
      by_cases hnn : n = name
      ·rw [if_pos hnn, hnn, hl]
       constructor
       ·intro h; cases h
       intro h; exact absurd (congrArg Th.k (Option.some.inj h)).symm e2
      rw [if_neg hnn]
     rw [fE _ e3]
   rw [h1, hI.up x hx e]
   simp only [h2]
  ·obtain ⟨dp, hdp⟩ := hI.deep
   refine ⟨dp, fun x e hx => ?_⟩
   have hx : (obj O' x).up = some e := hx
   by_cases e2 : x = t.k
   ·rw [e2, oT] at hx; cases hx
   by_cases e3 : x = d
   ·rw [e3, oD] at hx; rw [e3]; exact hdp _ _ hx
   rw [oX _ e3 e2] at hx; exact hdp _ _ hx
  have : bytes S.idx O' = bytes S.idx S.O := eO (fun p _ => by rw [Et])
  show S.X.used = (bytes S.idx O' : Int) ∧ _
  rw [this]; exact hI.used
theorem Ev {O O1 : bM} {s k : Nat} (h : ∀ x e, (obj O1 x).up = some e → (obj O x).up = some e) (hb : iJ O1 s k) : iJ O s k := by
  induction hb with
  | here => exact .here
  | up hu _ ih => exact .up (h _ _ hu) ih
theorem Ag {O : bM} {s k : Nat} : iJ O s k ↔ k = s ∨ ∃ e, (obj O k).up = some e ∧ iJ O s e := by
  constructor
  ·rintro (_ | ⟨h1, h2⟩)
   ·exact .inl rfl
   exact .inr ⟨_, h1, h2⟩
  rintro (h | ⟨e, h1, h2⟩)
  ·subst h; exact .here
  exact .up h1 h2
theorem Inv0.put (hI : Inv0 S) (hd : Live S.idx ⟨d, 2⟩) (gA : (obj S.O d).gone = false) (hn : aU name (obj S.O d).ah = none) (hgn : bE name) (ht : Live S.idx t) (DG : (obj S.O t.k).gone = false) (Iq : t.kind = 2 → (obj S.O t.k).links = 0 ∧ ¬ iJ S.O t.k d) (htd : t.k ≠ d) (hroom : S.X.ah < 8192) {ta tb : Int} (Pk : cR ta tb)
    (hO : ∀ k, obj O' k = if k = d then { obj S.O d with ah := eH name t (obj S.O d).ah, sec := ta, nano := tb } else if k = t.k then { obj S.O k with links := (obj S.O k).links + 1, up := if t.kind = 2 then some d else (obj S.O k).up } else obj S.O k) :
    Inv0 { S with X := { S.X with ah := S.X.ah + 1 }, O := O' } := by
  have hne := htd
  have oD : obj O' d = { obj S.O d with ah := eH name t (obj S.O d).ah, sec := ta, nano := tb } := by rw [hO, if_pos rfl]
  have oT : obj O' t.k = { obj S.O t.k with links := (obj S.O t.k).links + 1, up := if t.kind = 2 then some d else (obj S.O t.k).up } := by rw [hO, if_neg hne, if_pos rfl]
  have oX : ∀ x, x ≠ d → x ≠ t.k → obj O' x = obj S.O x := fun x h1 h2 => by rw [hO, if_neg h1, if_neg h2]
  have vz : ∀ {α : Type} (G : aS → α), (∀ o es a b, G { o with ah := es, sec := a, nano := b } = G o) → (∀ o l u, G { o with links := l, up := u } = G o) → ∀ x, G (obj O' x) = G (obj S.O x) := fun G h1 h2 x => by
    by_cases e : x = d
    ·subst e; rw [oD]; exact h1 _ _ _ _
    by_cases e2 : x = t.k
    ·subst e2; rw [oT]; exact h2 _ _ _
    rw [oX x e e2]
  have Lw := vz aS.id (fun _ _ _ _ => rfl) (fun _ _ _ => rfl)
  have xE := vz aS.kind (fun _ _ _ _ => rfl) (fun _ _ _ => rfl)
  have Et := vz aS.data (fun _ _ _ _ => rfl) (fun _ _ _ => rfl)
  have Lx := vz aS.opens (fun _ _ _ _ => rfl) (fun _ _ _ => rfl)
  have fG := vz aS.gone (fun _ _ _ _ => rfl) (fun _ _ _ => rfl)
  have fE : ∀ x, x ≠ d → (obj O' x).ah = (obj S.O x).ah := fun x hx => by
    by_cases e2 : x = t.k
    ·subst e2; rw [oT]
    rw [oX x hx e2]
  have vA : (obj O' d).ah = eH name t (obj S.O d).ah := by rw [oD]
  have hky : ∀ i u, TabM.get S.idx i = some u → i = (u.k : Int) := fun i u e => hI.key e
  have hsum : ∀ q : ByteArray × Th → Bool, _ := fun q => Ig (q := q) hI.rise hd hky fE vA
  have Eu : ∀ x, gj S.idx O' x = gj S.idx S.O x + (if t.k = x then 1 else 0) := fun x => by
    have h1 := hsum (fun e => decide (e.2.k = x))
    simp only [decide_eq_true_eq] at h1
    exact h1
  have hlt := hI.links t ht
  have Lz : t.kind = 2 → ∀ e n, Live S.idx ⟨e, 2⟩ → aU n (obj S.O e).ah ≠ some t := fun hk e n hle h => by
    have h1 : 0 < gj S.idx S.O t.k := kJ hle h
    have := (Iq hk).1
    omega
  refine { hI with ob := fun x hx => ?_, mt := fun x hx => ?_, ah := fun x hx e he => ?_, sorted := fun x hx => ?_, dead := fun x hx => ?_, oO := fun x hx => (xE x).trans (hI.oO x hx), total := ?_, links := fun x hx => ?_, once := fun x hx hk => ?_, opens := fun x hx => ?_, gone := fun x hx gP => ?_, up := fun x hx e => ?_, deep := ?_, used := ?_ }
  ·show (obj O' x.k).id = _ ∧ (obj O' x.k).kind = _ ∧ _
   rw [Lw, xE]; exact hI.ob x hx
  ·show jm (obj O' x.k)
   have hm := hI.mt x hx
   by_cases e : x.k = d
   ·rw [e] at hm ⊢
    rw [oD]
    exact hm.of rfl rfl rfl Pk rfl (.inl rfl) (.inr (hI.kind hd)) rfl
   by_cases e2 : x.k = t.k
   ·rw [e2] at hm ⊢
    rw [oT]
    exact hm.of rfl rfl rfl hm.time rfl (.inl rfl) (.inl rfl) rfl
   rw [oX _ e e2]; exact hm
  ·have he : e ∈ (obj O' x.k).ah := he
   by_cases e1 : x.k = d
   ·rw [e1, vA] at he
    rcases vZ.1 he with rfl | he
    ·exact ⟨hgn, ht⟩
    exact hI.ah _ hd e he
   rw [fE _ e1] at he
   exact hI.ah x hx e he
  ·show iH (obj O' x.k).ah
   by_cases e1 : x.k = d
   ·rw [e1, vA]; exact iH.ins (hI.sorted _ hd) hn
   rw [fE _ e1]; exact hI.sorted x hx
  ·show (obj O' x).ah = [] ∧ (obj O' x).up = none
   rw [oX x (fun e => hx _ hd e.symm) (fun e => hx t ht e.symm)]
   exact hI.dead x hx
  ·have h1 := hsum (fun _ => true)
   have h2 := hI.total
   rw [ko] at h2
   show S.X.ah + 1 = (tot S.idx O' : Int) ∧ S.X.ah + 1 ≤ 8192
   rw [ko]
   simp only [if_true] at h1
   omega
  ·show (obj O' x.k).links = (gj S.idx O' x.k : Int)
   have h1 := Eu x.k
   have h2 := hI.links x hx
   by_cases e2 : x.k = t.k
   ·rw [if_pos e2.symm] at h1
    rw [e2, oT]
    rw [e2] at h1
    show (obj S.O t.k).links + 1 = _
    omega
   rw [if_neg (fun e => e2 e.symm)] at h1
   have : (obj O' x.k).links = (obj S.O x.k).links := by
     by_cases e : x.k = d
     ·rw [e, oD]
     rw [oX _ e e2]
   omega
  ·show (obj O' x.k).links ≤ 1
   have h1 := hI.once x hx hk
   by_cases e2 : x.k = t.k
   ·have Ge : x = t := fk hx ht e2
    subst Ge
    have := (Iq hk).1
    rw [oT]
    show (obj S.O x.k).links + 1 ≤ 1
    omega
   by_cases e : x.k = d
   ·rw [e] at h1 ⊢; rw [oD]; exact h1
   rw [oX _ e e2]; exact h1
  ·show (obj O' x.k).opens = _
   rw [Lx]; exact hI.opens x hx
  ·have gP : (obj O' x.k).gone = true := gP
   rw [fG] at gP
   show (obj O' x.k).links = 0 ∧ (obj O' x.k).ah = []
   by_cases e2 : x.k = t.k
   ·rw [e2, DG] at gP; cases gP
   by_cases e : x.k = d
   ·rw [e, gA] at gP; cases gP
   rw [oX _ e e2]; exact hI.gone x hx gP
  ·show (obj O' x.k).up = some e ↔ x.kind = 2 ∧ Live S.idx ⟨e, 2⟩ ∧ ∃ n, aU n (obj O' e).ah = some x
   by_cases e2 : x.k = t.k
   ·have Ge : x = t := fk hx ht e2
    subst Ge
    rw [oT]
    show (if x.kind = 2 then some d else (obj S.O x.k).up) = some e ↔ _
    by_cases hk : x.kind = 2
    ·rw [if_pos hk]
     constructor
     ·intro h
      cases h
      exact ⟨hk, hd, name, by rw [vA, tI hn, if_pos rfl]⟩
     rintro ⟨_, hle, n, h⟩
     by_cases e3 : e = d
     ·rw [e3]
     rw [fE _ e3] at h
     exact absurd h (Lz hk e n hle)
    rw [if_neg hk, hI.up x hx e]
    constructor
    ·rintro ⟨h, _⟩; exact absurd h hk
    rintro ⟨h, _⟩; exact absurd h hk
   have h1 : (obj O' x.k).up = (obj S.O x.k).up := by
     by_cases e : x.k = d
     ·rw [e, oD]
     rw [oX _ e e2]
   have h2 : ∀ n, aU n (obj O' e).ah = some x ↔ aU n (obj S.O e).ah = some x := fun n => by
     by_cases e3 : e = d
     ·rw [e3, vA, tI hn]
      by_cases hnn : n = name
      ·rw [if_pos hnn, hnn, hn]
       constructor
       ·intro h; exact absurd (congrArg Th.k (Option.some.inj h)).symm e2
       intro h; cases h
      rw [if_neg hnn]
     rw [fE _ e3]
   rw [h1, hI.up x hx e]
   simp only [h2]
  ·obtain ⟨dp, hdp⟩ := hI.deep
   by_cases hk : t.kind = 2
   ·obtain ⟨hl0, hnb⟩ := Iq hk
    have Qj : (obj S.O t.k).up = none := by
      cases hu : (obj S.O t.k).up with
      | none => rfl
      | some e =>
        obtain ⟨_, h2, n, h3⟩ := (hI.up t ht e).1 hu
        exact absurd h3 (Lz hk e n h2)
    refine ⟨fun x => if iJ S.O t.k x then dp x + dp d + 1 else dp x, fun x e hx => ?_⟩
    have hx : (obj O' x).up = some e := hx
    by_cases e2 : x = t.k
    ·rw [e2, oT] at hx
     have hx : (if t.kind = 2 then some d else (obj S.O t.k).up) = some e := hx
     rw [if_pos hk] at hx
     cases hx
     subst e2
     simp only [if_neg hnb, if_pos (iJ.here : iJ S.O t.k t.k)]
     omega
    have hx : (obj S.O x).up = some e := by
      by_cases e3 : x = d
      ·rw [e3, oD] at hx; rw [e3]; exact hx
      rw [oX _ e3 e2] at hx; exact hx
    have h1 := hdp _ _ hx
    by_cases hb : iJ S.O t.k e
    ·simp only [if_pos hb, if_pos (iJ.up hx hb)]; omega
    have : ¬ iJ S.O t.k x := fun h => by
      rcases Ag.1 h with h | ⟨e', h1, h2⟩
      ·exact e2 h
      rw [hx] at h1; cases h1; exact hb h2
    simp only [if_neg hb, if_neg this]; exact h1
   refine ⟨dp, fun x e hx => ?_⟩
   have hx : (obj O' x).up = some e := hx
   by_cases e2 : x = t.k
   ·rw [e2, oT] at hx
    have hx : (if t.kind = 2 then some d else (obj S.O t.k).up) = some e := hx
    rw [if_neg hk] at hx
    rw [e2]; exact hdp _ _ hx
   by_cases e3 : x = d
   ·rw [e3, oD] at hx; rw [e3]; exact hdp _ _ hx
   rw [oX _ e3 e2] at hx; exact hdp _ _ hx
  have : bytes S.idx O' = bytes S.idx S.O := eO (fun p _ => by rw [Et])
  show S.X.used = (bytes S.idx O' : Int) ∧ _
  rw [this]; exact hI.used
end inv
end
section
open Go.RowKit Go.Maps HeapM TabM
section new
variable {S : aI} {d : Nat} {name : ByteArray} {t : Th} {o : aS} {us' : Used Th} {eP : Int}
theorem Inv0.newAt (hI : Inv0 S) {k0 : Nat} (hlt : S.X.last < (k0 : Int)) (hle : (k0 : Int) ≤ 1099511627776) {jj : Int} (P0 : jj = S.X.used + o.data.length ∧ jj ≤ 140737488355328) (hid : o.id = (k0 : Int)) (hk3 : o.kind = 1 ∨ o.kind = 2 ∨ o.kind = 3) (hl0 : o.links = 0) (he0 : o.ah = []) (hu0 : o.up = none) (hg0 : o.gone = false) (hm : jm o) (hlen : S.idx.length < 4096)
    (u1 : TabM.ck (keys us')) (u2 : ∀ x ∈ keys us', 1 ≤ x ∧ x ≤ eP) (u3 : (us'.length : Int) ≤ S.X.cH) (u4 : 0 ≤ eP ∧ eP ≤ S.X.cH) (u5 : ∀ h t, TabM.get us' h = some t → (Live S.idx t ∨ t = ⟨k0, o.kind⟩) ∧ t.kind ≠ 3) (u6 : ∀ k, k ≠ k0 → hnd us' k = hnd S.us k) (u7 : o.opens = (hnd us' (k0) : Int)) :
    Inv0 { S with X := { S.X with last := (k0 : Int), used := jj }, O := aB S.O (k0) (fun _ => o), idx := ins ((k0 : Int)) ⟨k0, o.kind⟩ S.idx, us := us', ay := eP } := by
  have hnot : TabM.get S.idx ((k0 : Int)) = none := by
    cases e : TabM.get S.idx ((k0 : Int)) with
    | none => rfl
    | some u => have := (hI.idx _ u e).2.2; omega
  have hget : ∀ i, TabM.get (ins ((k0 : Int)) ⟨k0, o.kind⟩ S.idx) i = if i = (k0 : Int) then some ⟨k0, o.kind⟩ else TabM.get S.idx i := fun i => oZ (get_none.1 hnot) i
  have dJ : ∀ x, Live (ins ((k0 : Int)) ⟨k0, o.kind⟩ S.idx) x ↔ x = ⟨k0, o.kind⟩ ∨ Live S.idx x := fun x => by
    unfold Live
    rw [hget]
    constructor
    ·intro h
     split at h
     ·exact .inl (Option.some.inj h).symm
     exact .inr h
    rintro (h | h)
    ·subst h; rw [if_pos rfl]
    rw [if_neg (by intro e; rw [e, hnot] at h; cases h)]; exact h
  have oN : obj (aB S.O (k0) (fun _ => o)) (k0) = o := bH
  have oX : ∀ x, Live S.idx x → obj (aB S.O (k0) (fun _ => o)) x.k = obj S.O x.k := fun x hx => bS (hI.free hlt hx)
  have hfr := hI.y9 hlt
  have hmem : ∀ p ∈ S.idx, obj (aB S.O (k0) (fun _ => o)) p.2.k = obj S.O p.2.k := fun p hp => bS (hfr.idx p hp)
  have hsum : ∀ g : aS → Nat, g o = 0 → cI (fun p : Int × Th => g (obj (aB S.O (k0) (fun _ => o)) p.2.k)) (ins ((k0 : Int)) ⟨k0, o.kind⟩ S.idx) = cI (fun p : Int × Th => g (obj S.O p.2.k)) S.idx := fun g hg => by
    rw [wk]
    show g (obj _ (k0)) + _ = _
    rw [oN, hg, Nat.zero_add]
    exact eO (fun p hp => by rw [hmem p hp])
  refine { hI with last := ?_, rise := ?_, len := ?_, idx := fun i x e => ?_, ob := fun x hx => ?_, mt := fun x hx => ?_, ah := fun x hx e he => ?_, sorted := fun x hx => ?_, dead := fun x hx => ?_, oO := fun x hx => ?_, total := ?_, links := fun x hx => ?_, once := fun x hx hk => ?_, opens := fun x hx => ?_, usr := u1, tW := u2, xw := u3, ay := u4, us := fun h x e => ?_, gone := fun x hx gP => ?_, up := fun x hx e => ?_, deep := ?_, used := ?_ }
  ·have := hI.last
   show 0 ≤ (k0 : Int) ∧ (k0 : Int) ≤ 1099511627776
   omega
  ·exact r9 hI.rise (get_none.1 hnot)
  ·have := hI.cN
   show (ins ((k0 : Int)) _ S.idx).length ≤ 4096
   rw [gq]; omega
  ·have e : TabM.get (ins ((k0 : Int)) ⟨k0, o.kind⟩ S.idx) i = some x := e
   rw [hget] at e
   have := hI.last
   show i = (x.k : Int) ∧ 0 < i ∧ i ≤ (k0 : Int)
   split at e
   ·cases e
    rename_i e2
    refine ⟨by rw [e2], by omega, by omega⟩
   have := hI.idx i x e
   omega
  ·show (obj (aB S.O (k0) (fun _ => o)) x.k).id = _ ∧ (obj (aB S.O (k0) (fun _ => o)) x.k).kind = _ ∧ _
   rcases (dJ x).1 hx with h | h
   ·subst h; rw [oN]; exact ⟨hid, rfl, hk3⟩
   rw [oX x h]; exact hI.ob x h
  ·show jm (obj (aB S.O (k0) (fun _ => o)) x.k)
   rcases (dJ x).1 hx with h | h
   ·subst h; rw [oN]; exact hm
   rw [oX x h]; exact hI.mt x h
  ·have he : e ∈ (obj (aB S.O (k0) (fun _ => o)) x.k).ah := he
   rcases (dJ x).1 hx with h | h
   ·subst h; rw [oN, he0] at he; cases he
   rw [oX x h] at he
   have h1 := hI.ah x h e he
   exact ⟨h1.1, (dJ _).2 (.inr h1.2)⟩
  ·show iH (obj (aB S.O (k0) (fun _ => o)) x.k).ah
   rcases (dJ x).1 hx with h | h
   ·subst h; rw [oN, he0]; exact List.Pairwise.nil
   rw [oX x h]; exact hI.sorted x h
  ·show (obj (aB S.O (k0) (fun _ => o)) x).ah = [] ∧ (obj (aB S.O (k0) (fun _ => o)) x).up = none
   have h1 : x ≠ k0 := fun e => hx ⟨k0, o.kind⟩ ((dJ _).2 (.inl rfl)) e.symm
   rw [bS h1]
   exact hI.dead x (fun u hu => hx u ((dJ _).2 (.inr hu)))
  ·have hx : (k0 : Int) < (x : Int) := hx
   show (obj (aB S.O (k0) (fun _ => o)) x).kind = 0
   rw [bS (fun e => by rw [e] at hx; omega)]
   exact hI.oO x (by omega)
  ·show S.X.ah = (tot _ _ : Int) ∧ S.X.ah ≤ 8192
   have : tot (ins ((k0 : Int)) ⟨k0, o.kind⟩ S.idx) (aB S.O (k0) (fun _ => o)) = tot S.idx S.O := hsum (fun o => o.ah.length) (by rw [he0]; rfl)
   rw [this]; exact hI.total
  ·show (obj (aB S.O (k0) (fun _ => o)) x.k).links = (gj _ _ x.k : Int)
   have : gj (ins ((k0 : Int)) ⟨k0, o.kind⟩ S.idx) (aB S.O (k0) (fun _ => o)) x.k = gj S.idx S.O x.k := hsum (fun o => o.ah.countP (fun e : ByteArray × Th => decide (e.2.k = x.k))) (by rw [he0]; rfl)
   rw [this]
   rcases (dJ x).1 hx with h | h
   ·subst h
    rw [oN, hl0]
    have : gj S.idx S.O (k0) = 0 := by
      apply Classical.byContradiction
      intro hne
      obtain ⟨i, u, hu, e, he, hek⟩ := xA hI.rise (Nat.pos_of_ne_zero hne)
      exact hfr.ah u.k e he hek
    rw [this]; rfl
   rw [oX x h]; exact hI.links x h
  ·show (obj (aB S.O (k0) (fun _ => o)) x.k).links ≤ 1
   rcases (dJ x).1 hx with h | h
   ·subst h; rw [oN, hl0]; decide
   rw [oX x h]; exact hI.once x h hk
  ·show (obj (aB S.O (k0) (fun _ => o)) x.k).opens = (hnd us' x.k : Int)
   rcases (dJ x).1 hx with h | h
   ·subst h; rw [oN]; exact u7
   rw [oX x h, u6 _ (hI.free hlt h)]; exact hI.opens x h
  ·obtain ⟨h1, h2⟩ := u5 h x e
   exact ⟨(dJ x).2 h1.symm, h2⟩
  ·have gP : (obj (aB S.O (k0) (fun _ => o)) x.k).gone = true := gP
   show (obj (aB S.O (k0) (fun _ => o)) x.k).links = 0 ∧ (obj (aB S.O (k0) (fun _ => o)) x.k).ah = []
   rcases (dJ x).1 hx with h | h
   ·subst h; rw [oN, hg0] at gP; cases gP
   rw [oX x h] at gP ⊢; exact hI.gone x h gP
  ·show (obj (aB S.O (k0) (fun _ => o)) x.k).up = some e ↔ x.kind = 2 ∧ Live _ ⟨e, 2⟩ ∧ ∃ n, aU n (obj (aB S.O (k0) (fun _ => o)) e).ah = some x
   rcases (dJ x).1 hx with h | h
   ·subst h
    rw [oN, hu0]
    constructor
    ·intro h; cases h
    rintro ⟨_, hle, n, h⟩
    by_cases e2 : e = k0
    ·rw [e2, oN, he0] at h; cases h
    rw [bS e2] at h; exact absurd rfl (hfr.ah e _ (j9 h))
   rw [oX x h, hI.up x h e]
   constructor
   ·rintro ⟨h1, h2, n, h3⟩
    exact ⟨h1, (dJ _).2 (.inr h2), n, by rw [oX ⟨e, 2⟩ h2]; exact h3⟩
   rintro ⟨h1, h2, n, h3⟩
   by_cases e2 : e = k0
   ·rw [e2, oN, he0] at h3; cases h3
   rw [bS e2] at h3
   refine ⟨h1, ?_, n, h3⟩
   rcases (dJ _).1 h2 with h4 | h4
   ·exact absurd (congrArg Th.k h4) e2
   exact h4
  ·obtain ⟨dp, hdp⟩ := hI.deep
   refine ⟨dp, fun x e hx => ?_⟩
   have hx : (obj (aB S.O (k0) (fun _ => o)) x).up = some e := hx
   by_cases e2 : x = k0
   ·rw [e2, oN, hu0] at hx; cases hx
   rw [bS e2] at hx; exact hdp _ _ hx
  show jj = (bytes _ _ : Int) ∧ _
  have h1 : bytes (ins (k0 : Int) ⟨k0, o.kind⟩ S.idx) (aB S.O k0 (fun _ => o)) = o.data.length + bytes S.idx S.O := by
    unfold bytes
    rw [wk]
    show (obj _ k0).data.length + _ = _
    rw [oN]
    congr 1
    exact eO (fun p hp => by rw [hmem p hp])
  have h2 := hI.used
  rw [h1]
  show jj = _ ∧ jj ≤ 140737488355328
  omega
theorem Inv0.new (hI : Inv0 S) (hid : o.id = S.X.last + 1) (hk3 : o.kind = 1 ∨ o.kind = 2 ∨ o.kind = 3) (hl0 : o.links = 0) (he0 : o.ah = []) (hu0 : o.up = none) (hg0 : o.gone = false) (LA : o.data = []) (hm : jm o) (hlast : S.X.last < 1099511627776) (hlen : (S.idx.length : Int) < S.X.cN)
    (u1 : TabM.ck (keys us')) (u2 : ∀ x ∈ keys us', 1 ≤ x ∧ x ≤ eP) (u3 : (us'.length : Int) ≤ S.X.cH) (u4 : 0 ≤ eP ∧ eP ≤ S.X.cH) (u5 : ∀ h t, TabM.get us' h = some t → (Live S.idx t ∨ t = ⟨aE S.X, o.kind⟩) ∧ t.kind ≠ 3) (u6 : ∀ k, k ≠ aE S.X → hnd us' k = hnd S.us k) (u7 : o.opens = (hnd us' (aE S.X) : Int)) :
    Inv0 { S with X := { S.X with last := S.X.last + 1 }, O := aB S.O (aE S.X) (fun _ => o), idx := ins (S.X.last + 1) ⟨aE S.X, o.kind⟩ S.idx, us := us', ay := eP } := by
  have hnk := mX hI
  have h := hI.newAt (k0 := aE S.X) (jj := S.X.used) (by omega) (by omega) ⟨by rw [LA]; simp, hI.used.2⟩ (hid.trans hnk.symm) hk3 hl0 he0 hu0 hg0 hm (by have := hI.cN; omega) u1 u2 u3 u4 u5 u6 u7
  rw [hnk] at h
  exact h
theorem Inv.add (hI : Inv S) (hd : Live S.idx ⟨d, 2⟩) (gA : (obj S.O d).gone = false) (hn : aU name (obj S.O d).ah = none) (hgn : bE name) (hroom : Room S.X S.idx)
    (hid : o.id = S.X.last + 1) (hk3 : o.kind = 1 ∨ o.kind = 2 ∨ o.kind = 3) (hl0 : o.links = 0) (he0 : o.ah = []) (hu0 : o.up = none) (hg0 : o.gone = false) (LA : o.data = []) (hm : jm o)
    (u1 : TabM.ck (keys us')) (u2 : ∀ x ∈ keys us', 1 ≤ x ∧ x ≤ eP) (u3 : (us'.length : Int) ≤ S.X.cH) (u4 : 0 ≤ eP ∧ eP ≤ S.X.cH) (u5 : ∀ h t, TabM.get us' h = some t → (Live S.idx t ∨ t = ⟨aE S.X, o.kind⟩) ∧ t.kind ≠ 3) (u6 : ∀ k, k ≠ aE S.X → hnd us' k = hnd S.us k) (u7 : o.opens = (hnd us' (aE S.X) : Int)) :
    Inv (bD { S with us := us', ay := eP } d name o) := by
  have h1 := hI.toInv0.new hid hk3 hl0 he0 hu0 hg0 LA hm hroom.2.1 hroom.1 u1 u2 u3 u4 u5 u6 u7
  have hne : d ≠ aE S.X := hI.rF hd
  have hnk := mX hI.toInv0
  have hnot : TabM.get S.idx (S.X.last + 1) = none := by
    cases e : TabM.get S.idx (S.X.last + 1) with
    | none => rfl
    | some u => have := (hI.idx _ u e).2.2; omega
  have hget : ∀ i, TabM.get (ins (S.X.last + 1) ⟨aE S.X, o.kind⟩ S.idx) i = if i = S.X.last + 1 then some ⟨aE S.X, o.kind⟩ else TabM.get S.idx i := fun i => oZ (get_none.1 hnot) i
  have hdl : Live (ins (S.X.last + 1) ⟨aE S.X, o.kind⟩ S.idx) ⟨d, 2⟩ := by
    unfold Live
    rw [hget, if_neg (by intro e; have : TabM.get S.idx ((d : Nat) : Int) = some ⟨d, 2⟩ := hd; rw [show ((⟨d, 2⟩ : Th).k : Int) = (d : Int) from rfl] at e; rw [e, hnot] at this; cases this)]
    exact hd
  have hnl : Live (ins (S.X.last + 1) ⟨aE S.X, o.kind⟩ S.idx) ⟨aE S.X, o.kind⟩ := by
    unfold Live
    rw [hget, if_pos hnk]
  have oN : obj (aB S.O (aE S.X) (fun _ => o)) (aE S.X) = o := bH
  have oD : obj (aB S.O (aE S.X) (fun _ => o)) d = obj S.O d := bS hne
  have hnb : ¬ iJ (aB S.O (aE S.X) (fun _ => o)) (aE S.X) d := fun hb => by
    have key : ∀ x, iJ (aB S.O (aE S.X) (fun _ => o)) (aE S.X) x → x = aE S.X := fun x hx => by
      induction hx with
      | here => rfl
      | @up k j hu _ ih =>
        subst ih
        by_cases e : k = aE S.X
        ·exact e
        rw [bS e] at hu; exact absurd hu (hI.fresh.up k)
    exact hne (key d hb)
  have h2 := h1.put (d := d) (name := name) (t := ⟨aE S.X, o.kind⟩) (O' := (bD { S with us := us', ay := eP } d name o).O) hdl (by rw [oD]; exact gA) (by rw [oD]; exact hn) hgn hnl (by rw [oN]; exact hg0) (fun _ => ⟨by rw [oN]; exact hl0, hnb⟩) (fun e => hne e.symm) hroom.2.2 h1.now (fun k => tX (fun e => hne e.symm))
  refine ⟨h2, fun x hx gP => ?_⟩
  have g1 : ∀ k, (obj (bD { S with us := us', ay := eP } d name o).O k).gone = (obj (aB S.O (aE S.X) (fun _ => o)) k).gone := fun k => kK (g := aS.gone) (fun _ _ => rfl) (fun _ _ => rfl) (fun _ _ _ => rfl) (fun _ _ => rfl)
  have g2 : ∀ k, (obj (bD { S with us := us', ay := eP } d name o).O k).opens = (obj (aB S.O (aE S.X) (fun _ => o)) k).opens := fun k => kK (g := aS.opens) (fun _ _ => rfl) (fun _ _ => rfl) (fun _ _ _ => rfl) (fun _ _ => rfl)
  rw [g1] at gP
  rw [g2]
  by_cases e : x.k = aE S.X
  ·rw [e, oN, hg0] at gP; cases gP
  rw [bS e] at gP ⊢
  refine hI.full x ?_ gP
  have hx : TabM.get (ins (S.X.last + 1) ⟨aE S.X, o.kind⟩ S.idx) x.k = some x := hx
  rw [hget] at hx
  split at hx
  ·exact absurd (congrArg Th.k (Option.some.inj hx)).symm e
  exact hx
end new
section drop
variable {S : aI} {d : Nat} {name : ByteArray} {t : Th}
theorem gE {α : Type} {g : aS → α} {O : bM} {k j : Nat} (h : ∀ o, g { o with up := none } = g o) : g (obj (orphan O j) k) = g (obj O k) := cM (f := fun o => { o with up := none }) h
theorem tZ {O : bM} {k : Nat} : oM (orphan O k) t ↔ oM O t := by
  unfold oM
  rw [gE (g := aS.gone) (fun _ => rfl), gE (g := aS.opens) (fun _ => rfl)]
theorem Ce {O : bM} {k : Nat} {u : Int} : iV (orphan O k) u t = iV O u t := by
  unfold iV
  simp only [tZ, gE (g := aS.data) (fun _ => rfl)]
theorem Cg {O : bM} {k : Nat} {idx : Used Th} : iF (orphan O k) idx t = iF O idx t := by
  unfold iF
  simp only [tZ, gE (g := aS.id) (fun _ => rfl)]
theorem Inv.drop (hI : Inv S) (hd : Live S.idx ⟨d, 2⟩) (hl : aU name (obj S.O d).ah = some t) (he : t.kind = 2 → (obj S.O t.k).ah = []) : Inv { ax S d name t with O := orphan (ax S d name t).O t.k } := by
  have hne := hI.ne hd hl
  have ht := (hI.ent hd hl).2
  have hlk : (obj (aO S.X S.O d name t) t.k).links = (obj S.O t.k).links - 1 := by rw [gH hne, if_neg hne, if_pos rfl]
  have hfull : ∀ (O2 : bM), (∀ u, u ≠ t.k → (obj O2 u).gone = (obj S.O u).gone ∧ (obj O2 u).opens = (obj S.O u).opens) → ∀ u, Live S.idx u → u ≠ t → (obj O2 u.k).gone = true → 0 < (obj O2 u.k).opens := fun O2 h u hu hut hg => by
    have hk : u.k ≠ t.k := fun e => hut (fk hu ht e)
    rw [(h _ hk).1] at hg
    rw [(h _ hk).2]
    exact hI.full u hu hg
  by_cases h0 : (obj (aO S.X S.O d name t) t.k).links = 0
  ·have e1 : ax S d name t = _ := qx h0
   have hO : ∀ k, obj (orphan (nH (aO S.X S.O d name t) t.k) t.k) k = if k = d then { obj S.O d with ah := eX name (obj S.O d).ah, sec := S.X.cS, nano := S.X.cZ } else if k = t.k then { obj S.O k with links := (obj S.O k).links - 1, gone := true, up := none } else obj S.O k := fun k => by
     unfold orphan nH
     rw [qp, iZ]
     by_cases e : k = t.k
     ·rw [if_pos e, gH hne, if_neg (fun e2 => hne (e.symm.trans e2)), if_pos e, if_neg (fun e2 => hne (e.symm.trans e2)), if_pos e]
     rw [if_neg e, gH hne, if_neg e, if_neg e]
   have h1 := hI.toInv0.cut hd hl hO (.inr ⟨by rw [← hlk]; exact h0, he⟩)
   have h2 := h1.freeM (t := t) ht (hfull _ (fun u hu => by
     rw [gE (g := aS.gone) (fun _ => rfl), gE (g := aS.opens) (fun _ => rfl)]
     show (obj (aB _ t.k _) u).gone = _ ∧ (obj (aB _ t.k _) u).opens = _
     rw [bS hu, cE (g := aS.gone) (fun _ _ => rfl) (fun _ _ => rfl) (fun _ _ _ => rfl), cE (g := aS.opens) (fun _ _ => rfl) (fun _ _ => rfl) (fun _ _ _ => rfl)]
     exact ⟨rfl, rfl⟩))
   rw [e1]
   unfold freeM at h2
   simp only [Ce, Cg] at h2
   exact h2
  have e1 : ax S d name t = _ := qy h0
  have hnd : t.kind ≠ 2 := fun hk => by
    have h1 := hI.once t ht hk
    have h2 := hI.links t ht
    have h3 : 0 < gj S.idx S.O t.k := kJ hd hl
    omega
  have Ew : (obj S.O t.k).up = none := by
    cases hu : (obj S.O t.k).up with
    | none => rfl
    | some e => exact absurd ((hI.up t ht e).1 hu).1 hnd
  have hO : ∀ k, obj (orphan (aO S.X S.O d name t) t.k) k = if k = d then { obj S.O d with ah := eX name (obj S.O d).ah, sec := S.X.cS, nano := S.X.cZ } else if k = t.k then { obj S.O k with links := (obj S.O k).links - 1, gone := (obj S.O t.k).gone, up := none } else obj S.O k := fun k => by
    unfold orphan
    rw [iZ]
    by_cases e : k = t.k
    ·rw [if_pos e, gH hne, if_neg (fun e2 => hne (e.symm.trans e2)), if_pos e, if_neg (fun e2 => hne (e.symm.trans e2)), if_pos e, e]
    rw [if_neg e, gH hne, if_neg e, if_neg e]
  have h1 := hI.toInv0.cut hd hl hO (.inl rfl)
  rw [e1]
  refine ⟨h1, fun u hu hg => ?_⟩
  have hg : (obj (orphan (aO S.X S.O d name t) t.k) u.k).gone = true := hg
  show 0 < (obj (orphan (aO S.X S.O d name t) t.k) u.k).opens
  rw [gE (g := aS.gone) (fun _ => rfl), cE (g := aS.gone) (fun _ _ => rfl) (fun _ _ => rfl) (fun _ _ _ => rfl)] at hg
  rw [gE (g := aS.opens) (fun _ => rfl), cE (g := aS.opens) (fun _ _ => rfl) (fun _ _ => rfl) (fun _ _ _ => rfl)]
  exact hI.full u hu hg
theorem Ir {k : Nat} : (obj (ax S d name t).O k).up = (obj S.O k).up := by
  unfold ax
  simp only
  split
  ·exact (mY (g := aS.up) (fun _ _ => rfl)).trans (cE (g := aS.up) (fun _ _ => rfl) (fun _ _ => rfl) (fun _ _ _ => rfl))
  exact cE (g := aS.up) (fun _ _ => rfl) (fun _ _ => rfl) (fun _ _ _ => rfl)
theorem Inv.uX (hI : Inv S) (hd : Live S.idx ⟨d, 2⟩) (hl : aU name (obj S.O d).ah = some t) (hk : t.kind ≠ 2) : Inv (ax S d name t) := by
  have h := hI.drop hd hl (fun e => absurd e hk)
  have ht := (hI.ent hd hl).2
  have Ew : (obj S.O t.k).up = none := by
    cases hu : (obj S.O t.k).up with
    | none => rfl
    | some e => exact absurd ((hI.up t ht e).1 hu).1 hk
  have e : orphan (ax S d name t).O t.k = (ax S d name t).O := Kb (by
    have : (obj (ax S d name t).O t.k).up = none := Ir.trans Ew
    rw [← this])
  rw [e] at h
  exact h
end drop
end
end Go.Proofs.YtkiedlmhocglhaaGreatDoor
section
namespace Go.Proofs.YtkiedlmhocglhaaGreatDoor.TabM
open HeapM
variable {V : Type}
theorem mZ (us : Used V) : (keys us).length = us.length := by simp [keys]
theorem least_le {us : Used V} (hr : ck (keys us)) (hp : ∀ x ∈ keys us, 1 ≤ x) : 1 ≤ least us ∧ least us ∉ keys us ∧ ∀ x, 1 ≤ x → x < least us → x ∈ keys us := kG (keys us) 1 hr hp
theorem t6 : ∀ (ks : List Int) (h : Int), fU h ks ≤ h + ks.length
  | [], h => by simp [fU]
  | k :: r, h => by
    unfold fU
    split
    ·have := t6 r (h + 1); simp only [List.length_cons]; push_cast; omega
    simp only [List.length_cons]; push_cast; omega
theorem Dd (us : Used V) : least us ≤ us.length + 1 := by
  have := t6 (keys us) 1
  rw [mZ] at this
  unfold least; omega
end Go.Proofs.YtkiedlmhocglhaaGreatDoor.TabM
end
namespace Go.Proofs.YtkiedlmhocglhaaGreatDoor
section
open Go.RowKit Go.Maps HeapM TabM
section ops
variable {S : aI} {d to : Nat} {name toName : ByteArray} {t : Th}
theorem Inv.link (hI : Inv S) (hd : Live S.idx ⟨d, 2⟩) (gA : (obj S.O d).gone = false) (hn : aU name (obj S.O d).ah = none) (hgn : bE name) (ht : Live S.idx t) (DG : (obj S.O t.k).gone = false) (hk : t.kind ≠ 2) (hroom : S.X.ah < 8192) :
    Inv { S with X := { S.X with ah := S.X.ah + 1 }, O := br S.X S.O d name t } := by
  have hne : t.k ≠ d := fun e => hk (congrArg Th.kind (fk ht hd e))
  have h1 := hI.toInv0.put hd gA hn hgn ht DG (fun e => absurd e hk) hne hroom hI.now (fun k => tX hne)
  refine ⟨h1, fun x hx hg => ?_⟩
  have hg : (obj (br S.X S.O d name t) x.k).gone = true := hg
  show 0 < (obj (br S.X S.O d name t) x.k).opens
  rw [kK (g := aS.gone) (fun _ _ => rfl) (fun _ _ => rfl) (fun _ _ _ => rfl) (fun _ _ => rfl)] at hg
  rw [kK (g := aS.opens) (fun _ _ => rfl) (fun _ _ => rfl) (fun _ _ _ => rfl) (fun _ _ => rfl)]
  exact hI.full x hx hg
theorem iX (hne : t.k ≠ d) {X : FM} {O : bM} (h : aU toName (obj O to).ah = none) : aU toName (obj (aO X O d name t) to).ah = none := by
  rw [gH hne]
  split
  ·rename_i e
   subst e
   show aU toName (eX name (obj O to).ah) = none
   rw [nN]; split
   ·rfl
   exact h
  split
  ·exact h
  exact h
theorem Inv.move (hI : Inv S) (hd : Live S.idx ⟨d, 2⟩) (hl : aU name (obj S.O d).ah = some t) (hto : Live S.idx ⟨to, 2⟩) (gA : (obj S.O to).gone = false) (hn : aU toName (obj S.O to).ah = none) (hgn : bE toName) (hb : t.kind = 2 → ¬ iJ S.O t.k to) : Inv (lp S d name to toName t) := by
  have hne := hI.ne hd hl
  have ht := (hI.ent hd hl).2
  have Iu : t.k ≠ to := fun e => by
    have h1 : t = ⟨to, 2⟩ := fk ht hto e
    exact hb (by rw [h1]) (by rw [e]; exact .here)
  have hgt : (obj S.O t.k).gone = false := by
    cases hg : (obj S.O t.k).gone with
    | false => rfl
    | true =>
      have h1 := (hI.gone t ht hg).1
      have h2 := hI.links t ht
      have h3 : 0 < gj S.idx S.O t.k := kJ hd hl
      omega
  have hO : ∀ k, obj (orphan (aO S.X S.O d name t) t.k) k = if k = d then { obj S.O d with ah := eX name (obj S.O d).ah, sec := S.X.cS, nano := S.X.cZ } else if k = t.k then { obj S.O k with links := (obj S.O k).links - 1, gone := (obj S.O t.k).gone, up := none } else obj S.O k := fun k => by
    unfold orphan
    rw [iZ]
    by_cases e : k = t.k
    ·rw [if_pos e, gH hne, if_neg (fun e2 => hne (e.symm.trans e2)), if_pos e, if_neg (fun e2 => hne (e.symm.trans e2)), if_pos e, e]
    rw [if_neg e, gH hne, if_neg e, if_neg e]
  have h1 := hI.toInv0.cut hd hl hO (.inl rfl)
  have g0 : ∀ {α : Type} (g : aS → α), (∀ o es, g { o with ah := es } = g o) → (∀ o l, g { o with links := l } = g o) → (∀ o a b, g { o with sec := a, nano := b } = g o) → (∀ o u, g { o with up := u } = g o) → ∀ k, g (obj (orphan (aO S.X S.O d name t) t.k) k) = g (obj S.O k) := fun g a b c e k => (gE (fun o => e o none)).trans (cE a b c)
  have hlk := hI.links t ht
  have hlp : 0 < gj S.idx S.O t.k := kJ hd hl
  have hend : (obj (orphan (aO S.X S.O d name t) t.k) to).ah = (obj (aO S.X S.O d name t) to).ah := gE (g := aS.ah) (fun _ => rfl)
  have h2 := h1.put (d := to) (name := toName) (t := t) (O' := (lp S d name to toName t).O) hto (by
      show (obj (orphan (aO S.X S.O d name t) t.k) to).gone = false
      rw [g0 aS.gone (fun _ _ => rfl) (fun _ _ => rfl) (fun _ _ _ => rfl) (fun _ _ => rfl)]; exact gA) (by
      show aU toName (obj (orphan (aO S.X S.O d name t) t.k) to).ah = none
      rw [hend]; exact iX hne hn) hgn ht (by
      show (obj (orphan (aO S.X S.O d name t) t.k) t.k).gone = false
      rw [g0 aS.gone (fun _ _ => rfl) (fun _ _ => rfl) (fun _ _ _ => rfl) (fun _ _ => rfl)]; exact hgt) (fun hk => ⟨by
        have h3 := hI.once t ht hk
        show (obj (orphan (aO S.X S.O d name t) t.k) t.k).links = 0
        rw [hO, if_neg hne, if_pos rfl]
        show (obj S.O t.k).links - 1 = 0
        omega, fun hb2 => hb hk (Ev (fun x e hx => by
          have hx : (obj (orphan (aO S.X S.O d name t) t.k) x).up = some e := hx
          by_cases e1 : x = t.k
          ·rw [hO, if_neg (by rw [e1]; exact hne), if_pos e1] at hx; cases hx
          rw [hO] at hx
          split at hx
          ·rename_i e2; rw [e2]; exact hx
          first | exact hx | (rw [if_neg e1] at hx; exact hx)) hb2)⟩) Iu (by
      have := hI.total
      show S.X.ah - 1 < 8192
      omega) hI.now (fun k => by
      show obj (br S.X (aO S.X S.O d name t) to toName t) k = _
      rw [tX Iu]
      by_cases e : k = to
      ·rw [if_pos e, if_pos e]
       have h3 : obj (orphan (aO S.X S.O d name t) t.k) to = obj (aO S.X S.O d name t) to := bS (fun e => Iu e.symm)
       rw [show obj _ to = _ from h3]
      rw [if_neg e, if_neg e]
      by_cases e2 : k = t.k
      ·rw [if_pos e2, if_pos e2, e2]
       show _ = { obj (orphan (aO S.X S.O d name t) t.k) t.k with links := (obj (orphan (aO S.X S.O d name t) t.k) t.k).links + 1, up := if t.kind = 2 then some to else (obj (orphan (aO S.X S.O d name t) t.k) t.k).up }
       have h3 : obj (orphan (aO S.X S.O d name t) t.k) t.k = { obj (aO S.X S.O d name t) t.k with up := none } := bH
       rw [h3]
       by_cases hk : t.kind = 2
       ·rw [if_pos hk, if_pos hk]
       rw [if_neg hk, if_neg hk]
       have Ew : (obj (aO S.X S.O d name t) t.k).up = none := by
         rw [cE (g := aS.up) (fun _ _ => rfl) (fun _ _ => rfl) (fun _ _ _ => rfl)]
         cases hu : (obj S.O t.k).up with
         | none => rfl
         | some e => exact absurd ((hI.up t ht e).1 hu).1 hk
       rw [Ew]
      rw [if_neg e2, if_neg e2]
      have h3 : obj (orphan (aO S.X S.O d name t) t.k) k = obj (aO S.X S.O d name t) k := bS e2
      exact h3.symm)
  refine ⟨h2, fun x hx hg => ?_⟩
  have g3 : ∀ {α : Type} (g : aS → α), (∀ o es, g { o with ah := es } = g o) → (∀ o l, g { o with links := l } = g o) → (∀ o a b, g { o with sec := a, nano := b } = g o) → (∀ o u, g { o with up := u } = g o) → ∀ k, g (obj (lp S d name to toName t).O k) = g (obj S.O k) := fun g a b c e k => (kK a b c e).trans (cE a b c)
  rw [g3 aS.gone (fun _ _ => rfl) (fun _ _ => rfl) (fun _ _ _ => rfl) (fun _ _ => rfl)] at hg
  rw [g3 aS.opens (fun _ _ => rfl) (fun _ _ => rfl) (fun _ _ _ => rfl) (fun _ _ => rfl)]
  exact hI.full x hx hg
theorem ze {us : Used Th} {h : Int} {k : Nat} : hnd (ins h t us) k = (if t.k = k then 1 else 0) + hnd us k := wk
theorem Kk {us : Used Th} {h : Int} {k : Nat} (hr : TabM.ck (keys us)) (e : TabM.get us h = some t) : hnd (del h us) k + (if t.k = k then 1 else 0) = hnd us k := wo (g := fun p : Int × Th => if p.2.k = k then 1 else 0) hr e
theorem DN {us : Used Th} {ay : Int} (hr : TabM.ck (keys us)) (h1 : ∀ x ∈ keys us, 1 ≤ x ∧ x ≤ ay) : TabM.ck (keys (ins (TabM.least us) t us)) ∧ ∀ x ∈ keys (ins (TabM.least us) t us), 1 ≤ x ∧ x ≤ max ay ((us.length : Int) + 1) := by
  obtain ⟨g1, g2, _⟩ := least_le hr (fun x hx => (h1 x hx).1)
  have g3 := Dd us
  refine ⟨r9 hr g2, fun x hx => ?_⟩
  rcases (jE _ _ _ _).1 hx with e | e
  ·subst e; omega
  have := h1 x e; omega
theorem Inv.openM (hI : Inv S) (ht : Live S.idx t) (hk : t.kind ≠ 3) : Inv (Proofs.YtkiedlmhocglhaaGreatDoor.openM S t).2.2 := by
  by_cases hlt : (S.us.length : Int) < S.X.cH
  ·rw [iq hlt]
   obtain ⟨g1, g2, _⟩ := least_le hI.usr (fun x hx => (hI.tW x hx).1)
   obtain ⟨v1, v2⟩ := DN (t := t) hI.usr hI.tW
   have hb : bytes S.idx (aB S.O t.k (fun o => { o with opens := o.opens + 1 })) = bytes S.idx S.O := eO (fun p _ => by rw [cM (f := fun o => { o with opens := o.opens + 1 }) (g := aS.data) (fun _ => rfl)])
   have h1 := hI.toInv0.own (k := t.k) (f := fun o => { o with opens := o.opens + 1 }) (jj := S.X.used) (us' := ins (TabM.least S.us) t S.us) (eP := max S.ay ((S.us.length : Int) + 1)) (fun _ => rfl) (fun _ => rfl) (fun _ => rfl) (fun _ => rfl) (fun _ => rfl) (fun _ => rfl)
     (fun u hu e => by rw [← e]; exact (hI.mt u hu).of rfl rfl rfl (hI.mt u hu).time rfl (.inl rfl) (.inl rfl) rfl)
     (fun u hu => by
       have h2 := hI.opens u hu
       rw [ze]
       by_cases e : u.k = t.k
       ·rw [e, bH, if_pos rfl, ← e]
        show (obj S.O u.k).opens + 1 = _
        omega
       rw [bS e, if_neg (fun e2 => e e2.symm)]; omega)
     v1 v2 (by rw [gq]; omega) (by have := hI.ay; omega) (fun h u e => by
       rw [oZ g2] at e
       split at e
       ·cases e; exact ⟨ht, hk⟩
       exact hI.us h u e) ⟨by rw [hb]; exact hI.used.1, hI.used.2⟩
   refine ⟨h1, fun u hu hg => ?_⟩
   have hg : (obj (aB S.O t.k (fun o => { o with opens := o.opens + 1 })) u.k).gone = true := hg
   rw [cM (f := fun o => { o with opens := o.opens + 1 }) (g := aS.gone) (fun _ => rfl)] at hg
   have h2 := hI.full u hu hg
   show 0 < (obj (aB S.O t.k (fun o => { o with opens := o.opens + 1 })) u.k).opens
   by_cases e : u.k = t.k
   ·rw [e, bH]; rw [e] at h2; show 0 < (obj S.O t.k).opens + 1; omega
   rw [bS e]; exact h2
  rw [jw hlt]; exact hI
theorem Inv.writeM (hI : Inv S) {k : Nat} (ht : Live S.idx ⟨k, 1⟩) (bs : List UInt8) : Inv (Proofs.YtkiedlmhocglhaaGreatDoor.writeM S k bs).2.2 := by
  unfold Proofs.YtkiedlmhocglhaaGreatDoor.writeM
  split
  ·exact hI
  split
  ·exact hI
  rename_i hroom
  have hlen : (obj (aB S.O k (fun o => { o with data := o.data ++ bs.take (aX S.X bs.length), sec := S.X.cS, nano := S.X.cZ })) k).data.length = (obj S.O k).data.length + aX S.X bs.length := by
    rw [bH]
    show ((obj S.O k).data ++ bs.take (aX S.X bs.length)).length = _
    rw [List.length_append, List.length_take]
    unfold aX
    omega
  have hb := wm (g := fun p : Int × Th => (obj S.O p.2.k).data.length) (g' := fun p : Int × Th => (obj (aB S.O k (fun o => { o with data := o.data ++ bs.take (aX S.X bs.length), sec := S.X.cS, nano := S.X.cZ })) p.2.k).data.length) hI.rise ht (fun p hp hne => by
    have h1 := hI.key (lW hI.rise hp)
    show (obj (aB _ k _) p.2.k).data.length = _
    rw [bS (fun e => hne (by rw [h1, e]))])
  have hb : bytes S.idx (aB S.O k (fun o => { o with data := o.data ++ bs.take (aX S.X bs.length), sec := S.X.cS, nano := S.X.cZ })) + (obj S.O k).data.length = bytes S.idx S.O + (obj (aB S.O k (fun o => { o with data := o.data ++ bs.take (aX S.X bs.length), sec := S.X.cS, nano := S.X.cZ })) k).data.length := hb
  have hu := hI.used
  have hcB := hI.cB
  have h1 := hI.toInv0.own (k := k) (f := fun o => { o with data := o.data ++ bs.take (aX S.X bs.length), sec := S.X.cS, nano := S.X.cZ }) (jj := S.X.used + (aX S.X bs.length : Int)) (us' := S.us) (eP := S.ay) (fun _ => rfl) (fun _ => rfl) (fun _ => rfl) (fun _ => rfl) (fun _ => rfl) (fun _ => rfl)
    (fun u hu e => by
      have hk1 : u = ⟨k, 1⟩ := fk hu ht e
      have M7 := hI.kind hu
      rw [← e]
      exact (hI.mt u hu).of rfl rfl rfl hI.now rfl (.inr (by rw [M7, hk1])) (.inl rfl) rfl)
    (fun u hu => by rw [cM (f := fun o => { o with data := o.data ++ bs.take (aX S.X bs.length), sec := S.X.cS, nano := S.X.cZ }) (g := aS.opens) (fun _ => rfl)]; exact hI.opens u hu)
    hI.usr hI.tW hI.xw hI.ay hI.us ⟨by omega, by unfold aX; omega⟩
  refine ⟨h1, fun u hu hg => ?_⟩
  have hg : (obj (aB S.O k (fun o => { o with data := o.data ++ bs.take (aX S.X bs.length), sec := S.X.cS, nano := S.X.cZ })) u.k).gone = true := hg
  rw [cM (f := fun o => { o with data := o.data ++ bs.take (aX S.X bs.length), sec := S.X.cS, nano := S.X.cZ }) (g := aS.gone) (fun _ => rfl)] at hg
  show 0 < (obj (aB S.O k (fun o => { o with data := o.data ++ bs.take (aX S.X bs.length), sec := S.X.cS, nano := S.X.cZ })) u.k).opens
  rw [cM (f := fun o => { o with data := o.data ++ bs.take (aX S.X bs.length), sec := S.X.cS, nano := S.X.cZ }) (g := aS.opens) (fun _ => rfl)]
  exact hI.full u hu hg
theorem Inv.M8 (hI : Inv S) {k : Nat} {mode uid gid sec nano : Int} (h1 : kS mode) (h2 : xu uid ∧ xu gid) (h3 : cR sec nano) : Inv { S with O := aB S.O k (fun o => { o with mode := mode, uid := uid, gid := gid, sec := sec, nano := nano }) } := by
  have hb : bytes S.idx (aB S.O k (fun o => { o with mode := mode, uid := uid, gid := gid, sec := sec, nano := nano })) = bytes S.idx S.O := eO (fun p _ => by rw [cM (f := fun o => { o with mode := mode, uid := uid, gid := gid, sec := sec, nano := nano }) (g := aS.data) (fun _ => rfl)])
  have g1 := hI.toInv0.own (k := k) (f := fun o => { o with mode := mode, uid := uid, gid := gid, sec := sec, nano := nano }) (jj := S.X.used) (us' := S.us) (eP := S.ay) (fun _ => rfl) (fun _ => rfl) (fun _ => rfl) (fun _ => rfl) (fun _ => rfl) (fun _ => rfl)
    (fun u hu e => by
      have hm := hI.mt u hu
      rw [e] at hm
      exact ⟨h1, h2.1, h2.2, h3, hm.data, hm.ah, hm.target⟩)
    (fun u hu => by rw [cM (f := fun o => { o with mode := mode, uid := uid, gid := gid, sec := sec, nano := nano }) (g := aS.opens) (fun _ => rfl)]; exact hI.opens u hu)
    hI.usr hI.tW hI.xw hI.ay hI.us ⟨by rw [hb]; exact hI.used.1, hI.used.2⟩
  refine ⟨g1, fun u hu hg => ?_⟩
  have hg : (obj (aB S.O k (fun o => { o with mode := mode, uid := uid, gid := gid, sec := sec, nano := nano })) u.k).gone = true := hg
  rw [cM (f := fun o => { o with mode := mode, uid := uid, gid := gid, sec := sec, nano := nano }) (g := aS.gone) (fun _ => rfl)] at hg
  show 0 < (obj (aB S.O k (fun o => { o with mode := mode, uid := uid, gid := gid, sec := sec, nano := nano })) u.k).opens
  rw [cM (f := fun o => { o with mode := mode, uid := uid, gid := gid, sec := sec, nano := nano }) (g := aS.opens) (fun _ => rfl)]
  exact hI.full u hu hg
theorem Inv.shut (hI : Inv S) {h : Int} (e : TabM.get S.us h = some t) : Inv { S with
      X := { S.X with used := iV (nR S.O t.k) S.X.used t }
      O := nR S.O t.k
      idx := iF (nR S.O t.k) S.idx t
      us := del h S.us } := by
  have ht := (hI.us h t e).1
  have hb : bytes S.idx (nR S.O t.k) = bytes S.idx S.O := eO (fun p _ => by unfold nR; rw [cM (f := fun o => { o with opens := o.opens - 1 }) (g := aS.data) (fun _ => rfl)])
  have hd := fun k => Kk (k := k) hI.usr e
  have h1 := hI.toInv0.own (k := t.k) (f := fun o => { o with opens := o.opens - 1 }) (jj := S.X.used) (us' := del h S.us) (eP := S.ay) (fun _ => rfl) (fun _ => rfl) (fun _ => rfl) (fun _ => rfl) (fun _ => rfl) (fun _ => rfl)
    (fun u hu e => by rw [← e]; exact (hI.mt u hu).of rfl rfl rfl (hI.mt u hu).time rfl (.inl rfl) (.inl rfl) rfl)
    (fun u hu => by
      have h2 := hI.opens u hu
      have h3 := hd u.k
      by_cases e2 : u.k = t.k
      ·rw [e2, bH]
       rw [e2] at h2 h3
       rw [if_pos rfl] at h3
       show (obj S.O t.k).opens - 1 = _
       omega
      rw [if_neg (fun e3 => e2 e3.symm)] at h3
      rw [bS e2]; omega)
    (Ca hI.usr) (fun x hx => hI.tW x (by rw [lC] at hx; exact (List.mem_filter.1 hx).1)) (by have := mU hI.usr (get_some e); have := hI.xw; omega) hI.ay (fun i u hu => by
      rw [rC] at hu
      split at hu
      ·cases hu
      exact hI.us i u hu) ⟨by rw [show bytes S.idx (aB S.O t.k (fun o => { o with opens := o.opens - 1 })) = bytes S.idx S.O from hb]; exact hI.used.1, hI.used.2⟩
  exact h1.freeM (t := t) ht (fun u hu hut hg => by
    have hk : u.k ≠ t.k := fun e => hut (fk hu ht e)
    have hg : (obj (aB S.O t.k (fun o => { o with opens := o.opens - 1 })) u.k).gone = true := hg
    rw [bS hk] at hg
    show 0 < (obj (aB S.O t.k (fun o => { o with opens := o.opens - 1 })) u.k).opens
    rw [bS hk]
    exact hI.full u hu hg)
end ops
end
section
open Go.RowKit Go.Maps HeapM TabM
section facts
variable {S : aI} {X : FM} {O : bM} {d k to : Nat} {name toName : ByteArray} {t o : Th}
def t7 (dp : Nat → Nat) : Option Nat → Nat
  | none => 0
  | some y => dp y + 1
theorem Gf {dp : Nat → Nat} (h : ∀ k d, (obj O k).up = some d → dp d < dp k) {y : Nat} : t7 dp (obj O y).up < t7 dp (some y) := by
  cases e : (obj O y).up with
  | none => exact Nat.succ_pos _
  | some z => exact Nat.succ_lt_succ (h y z e)
theorem xG {s y : Nat} (h : ¬ y = s) : iJ O s y ↔ ∃ z, (obj O y).up = some z ∧ iJ O s z := Ag.trans (or_iff_right h)
theorem xH (hne : t.k ≠ d) : (obj (ax S d name t).O k).ah = if k = d then eX name (obj S.O d).ah else (obj S.O k).ah := by
  have h1 : (obj (ax S d name t).O k).ah = (obj (aO S.X S.O d name t) k).ah := by
    unfold ax
    simp only
    split
    ·exact mY (g := aS.ah) (fun _ _ => rfl)
    rfl
  rw [h1, gH hne]
  split
  ·rfl
  split <;> rfl
theorem nS (hI : Inv0 S) (hto : Live S.idx ⟨to, 2⟩) (hl2 : aU toName (obj S.O to).ah = some o) (hl : aU name (obj S.O d).ah = some t) (hot : o ≠ t) : aU name (obj (ax S to toName o).O d).ah = some t := by
  rw [xH (hI.ne hto hl2)]
  split
  ·rename_i e
   subst e
   rw [nN, if_neg (fun e => by rw [e, hl2] at hl; exact hot (Option.some.inj hl))]
   exact hl
  exact hl
theorem nT (hI : Inv0 S) (hto : Live S.idx ⟨to, 2⟩) (hl2 : aU toName (obj S.O to).ah = some o) : aU toName (obj (ax S to toName o).O to).ah = none := by
  rw [xH (hI.ne hto hl2), if_pos rfl, nN, if_pos rfl]
theorem iw (hI : Inv0 S) (hto : Live S.idx ⟨to, 2⟩) (hl2 : aU toName (obj S.O to).ah = some o) (hx : Live S.idx t) (hk : t.k ≠ o.k) : Live (ax S to toName o).idx t := by
  unfold ax
  simp only
  split
  ·unfold iF
   split
   ·unfold Live
    rw [rC, if_neg]
    ·exact hx
    intro e
    have h1 := (hI.ob o (hI.ent hto hl2).2).1
    rw [mY (g := aS.id) (fun _ _ => rfl), cE (g := aS.id) (fun _ _ => rfl) (fun _ _ => rfl) (fun _ _ _ => rfl), h1] at e
    exact hk (by omega)
   exact hx
  exact hx
theorem kq (hne : t.k ≠ d) : (obj (aO X O d name t) k).ah.length ≤ (obj O k).ah.length := by
  rw [gH hne]
  split
  ·rename_i e
   subst e
   exact List.length_filter_le _ _
  split <;> exact Nat.le_refl _
theorem jc (hI : Inv0 S) (hd : Live S.idx ⟨d, 2⟩) (hl : aU name (obj S.O d).ah = some t) : 0 ≤ (obj (aO S.X S.O d name t) t.k).links ∧ (obj (aO S.X S.O d name t) t.k).links ≤ 1048576 := by
  have ht := (hI.ent hd hl).2
  have h1 := hI.links t ht
  have h2 : 0 < gj S.idx S.O t.k := kJ hd hl
  have h3 := hI.lb ht
  rw [gH (hI.ne hd hl), if_neg (hI.ne hd hl), if_pos rfl]
  show 0 ≤ (obj S.O t.k).links - 1 ∧ (obj S.O t.k).links - 1 ≤ 1048576
  omega
end facts
end
section
open Go.RowKit Go.Maps HeapM TabM
theorem bI.take {β : Bs} {A : Option Addr} {d : List UInt8} (h : bI β A d) (n : Nat) : bI β A (d.take n) := by
  intro j v hj
  refine h j v ?_
  unfold bL at hj ⊢
  rw [List.map_take] at hj
  rw [List.getElem?_take] at hj
  split at hj
  ·exact hj
  cases hj
theorem Ey {a b : List UInt8} : bL (a ++ b) = bL a ++ bL b := List.map_append
theorem Inv0.M9 {S : aI} {t : Th} (h : Inv0 S) (hl : Live S.idx t) : ((obj S.O t.k).data.length : Int) ≤ S.X.used := by
  have h1 := h.used
  have h2 : (obj S.O t.k).data.length ≤ bytes S.idx S.O := jQ (g := fun p : Int × Th => (obj S.O p.2.k).data.length) hl
  omega
theorem Gg {X : FM} {n : Nat} (h : 0 < X.cB - X.used) : min (n : Int) (X.cB - X.used) = (aX X n : Int) := by
  unfold aX
  omega
theorem Gh {X : FM} {n : Nat} (h : 0 < X.cB - X.used) : aX X n ≤ n ∧ (aX X n : Int) ≤ X.cB - X.used := by
  unfold aX
  omega
section data
variable {O : bM} {us : Used Th} {L L' : HL} {k c : Nat} {A : Option Addr} {t : Th}
theorem Ch (hL : L' = L.data k A c) : aK L' us = aK L us := by subst hL; rfl
theorem Iw (hL : L' = L.data k A c) : bh O L' = bh O L := by
  subst hL
  funext x
  rfl
theorem Ix (hL : L' = L.data k A c) {x : Nat} (h : x ≠ k) : aQ O L' x = aQ O L x := by
  have e2 : eY L' x (obj O x) = eY L x (obj O x) := by
    subst hL
    unfold eY uQ
    simp only [HL.data, if_neg h]
    rfl
  unfold aQ
  rw [e2]
  subst hL
  rfl
theorem Iy (hL : L' = L.data k A c) {x : Nat} (h : x ≠ k) : aW O L' x = aW O L x := by
  unfold aW
  subst hL
  simp only [HL.data, if_neg h]
theorem DP (hL : L' = L.data k A c) : L'.dA k = A := by subst hL; exact if_pos rfl
theorem DQ (hL : L' = L.data k A c) : L'.dC k = c := by subst hL; exact if_pos rfl
theorem Gi (hL : L' = L.data k A c) {x : Nat} : L'.b x = L.b x := by subst hL; rfl
end data
section sat
variable {β : Bs} {l l' : List HP} {w : World} {i j k c n : Nat} {O : bM} {L L' : HL} {f : aS → aS} {cs : List Value} {T : TypeId} {ix : List Nat} {A : Option Addr} {R : Nat → bR} {xs : List Value}
theorem Sat.LB (h : Sat β l w) (hL : L' = L.data k A c) (hp : l[i]? = some (.abs (ak (iK (aQ O L) k bR.none)))) (hq : l[j]? = some (.blk (L.b k) cs T)) (hd : nodupB (i :: j :: ix) = true) (hl : bN l ix = some l') (h0 : (f (obj O k)).kind ≠ 0) (hc : eY L' k (f (obj O k)) = cs) (hT : kN (f (obj O k)).kind = T) : Sat β (.abs (ak (aQ (aB O k f) L')) :: l') w := by
  refine h.oK (a := v8 (L.b k) cs T) hp hq (fun _ _ h => h) hd hl k (fun x hx => ?_) (by rw [rz, if_neg h0, hc, hT, Gi hL])
  rw [rA hx, Ix hL hx, lU hx]
theorem Sat.LC (h : Sat β l w) (hL : L' = L.data k A c) (hp : l[i]? = some (.abs (ak (iK (aW O L) k bR.none)))) (hq : l[j]? = some (.abs (aF 5 1 A n c xs))) (hd : nodupB (i :: j :: ix) = true) (hl : bN l ix = some l') (h1 : (f (obj O k)).kind = 1) (hn : n = (f (obj O k)).data.length) (hx : xs = bL (f (obj O k)).data) : Sat β (.abs (ak (aW (aB O k f) L')) :: l') w := by
  refine h.oK hp hq (fun _ _ h => h) hd hl k (fun x hx => by rw [tN hx, Iy hL hx, lU hx]) ?_
  rw [pH (by rw [bH]; exact h1), bH, DP hL, DQ hL, hn, hx]
end sat
end
section
open Go.RowKit Go.Maps HeapM TabM
structure fJ (β : Bs) (c : aV) : Prop where
  hw : (Lit.int .i64 c.handle).wf = true
  ow : (Lit.int .i64 c.other).wf = true
  nm : c.name.size ≤ 1048576
  tx : c.text.size ≤ 1048576
  da : bI β c.dA c.data
  dl : c.data.length ≤ 1099511627776
  dc : c.data.length ≤ c.dC
section facts
variable {S : aI} {h : Int} {name : ByteArray} {need : Int} {t : Th} {c : aV}
theorem jM (hI : Inv0 S) (h : Int) (name : ByteArray) (need : Int) : (∃ e, cO S.O S.us h name need = .error e ∧ e ≠ 0) ∨ ∃ d, cO S.O S.us h name need = .ok d ∧ Live S.idx ⟨d, 2⟩ ∧ (obj S.O d).gone = false ∧ bE name ∧ TabM.get S.us h = some ⟨d, 2⟩ := by
  unfold cO
  cases e : TabM.get S.us h with
  | none => exact .inl ⟨131, rfl, by decide⟩
  | some t =>
    simp only
    split
    ·rename_i hk
     split
     ·exact .inl ⟨170, rfl, by decide⟩
     rename_i hg
     split
     ·rename_i hn
      split
      ·obtain ⟨k, kd⟩ := t
       simp only at hk
       subst hk
       exact .inr ⟨k, rfl, (hI.us h _ e).1, by simpa using hg, hn, rfl⟩
      exact .inl ⟨175, rfl, by decide⟩
     exact .inl ⟨95, rfl, by decide⟩
    exact .inl ⟨173, rfl, by decide⟩
theorem xI (hI : Inv0 S) (c : aV) : (∃ e, fA S.O S.us c = .error e ∧ e ≠ 0) ∨ (∃ k, fA S.O S.us c = .ok ⟨k, 1⟩ ∧ Live S.idx ⟨k, 1⟩) ∨ (∃ k, fA S.O S.us c = .ok ⟨k, 2⟩ ∧ Live S.idx ⟨k, 2⟩) ∨ ∃ k, fA S.O S.us c = .ok ⟨k, 3⟩ ∧ Live S.idx ⟨k, 3⟩ := by
  unfold fA
  rcases jM hI c.handle c.name 64 with ⟨e, h1, h2⟩ | ⟨d, h1, h2, _⟩
  ·rw [h1]; exact .inl ⟨e, rfl, h2⟩
  rw [h1]
  simp only
  rcases hI.jY h2 c.name with h3 | ⟨k, h3, h4⟩ | ⟨k, h3, h4⟩ | ⟨k, h3, h4⟩
  ·rw [h3]; exact .inl ⟨170, rfl, by decide⟩
  ·rw [h3]; exact .inr (.inl ⟨k, rfl, h4⟩)
  ·rw [h3]; exact .inr (.inr (.inl ⟨k, rfl, h4⟩))
  rw [h3]; exact .inr (.inr (.inr ⟨k, rfl, h4⟩))
theorem Ci {L : HL} {us : Used Th} {h : Int} : aK L (del h us) = del h (aK L us) := DE (cG L) h us
theorem DR {us : Used Th} {h : Int} (e : TabM.get us h = some t) : 0 < hnd us t.k := Nat.lt_of_lt_of_le (by simp) (jQ (g := fun p : Int × Th => if p.2.k = t.k then 1 else 0) e)
theorem wu {L : HL} : aW (openM S t).2.2.O L = aW S.O L := by
  by_cases h : (S.us.length : Int) < S.X.cH
  ·rw [iq h]; exact pP (fun _ => cM (f := fun o => { o with opens := o.opens + 1 }) (g := aS.data) (fun _ => rfl)) (fun _ => iC (f := fun o => { o with opens := o.opens + 1 }) (fun _ => rfl))
  rw [jw h]
theorem wv {L : HL} : bh (openM S t).2.2.O L = bh S.O L := by
  by_cases h : (S.us.length : Int) < S.X.cH
  ·rw [iq h]; exact kF (f := fun o => { o with opens := o.opens + 1 }) rfl rfl
  rw [jw h]
theorem Kl : (iG S c).2.2.op = c.op := by unfold iG; (repeat' split) <;> rfl
theorem Ez : (dY S c).2.2.op = c.op := by unfold dY; (repeat' split) <;> rfl
theorem Df : (dM S c).2.2.op = c.op := by unfold dM; (repeat' split) <;> rfl
theorem EA : (eZ S c).2.2.op = c.op := by unfold eZ; (repeat' split) <;> rfl
theorem Dg : (dm S c).2.2.op = c.op := by unfold dm; (repeat' split) <;> rfl
theorem Cj : (eM S c).2.2.op = c.op := by unfold eM; (repeat' split) <;> rfl
theorem Gj : (bW S c).2.2.op = c.op := by unfold bW; (repeat' split) <;> rfl
theorem Dh : (fF S c).2.2.op = c.op := by unfold fF; (repeat' split) <;> rfl
theorem EB : (gu S c).2.2.op = c.op := by unfold gu; (repeat' split) <;> rfl
theorem Di : (eF S c).2.2.op = c.op := by unfold eF; (repeat' split) <;> rfl
theorem EC : (fD S c).2.2.op = c.op := by unfold fD; (repeat' split) <;> rfl
theorem ED : (bG S c).2.2.op = c.op := by unfold bG; (repeat' split) <;> rfl
theorem Km : (jG S c).2.2.op = c.op := by unfold jG; (repeat' split) <;> rfl
theorem Gl : (fH S c).2.2.op = c.op := by unfold fH; (repeat' split) <;> rfl
theorem Iz : (iD S c).2.2.op = c.op := by unfold iD; (repeat' split) <;> rfl
end facts
theorem xJ {S : aI} {c : aV} (h : c.op = 1) : opM S c = iG S c := by
  unfold opM
  simp [h]
theorem xK {S : aI} {c : aV} (h : c.op = 2) : opM S c = dY S c := by
  unfold opM
  simp [h]
theorem AX {S : aI} {c : aV} (h : c.op = 3) : opM S c = dM S c := by
  unfold opM
  simp [h]
theorem xL {S : aI} {c : aV} (h : c.op = 4) : opM S c = eZ S c := by
  unfold opM
  simp [h]
theorem AY {S : aI} {c : aV} (h : c.op = 5) : opM S c = dm S c := by
  unfold opM
  simp [h]
theorem AZ {S : aI} {c : aV} (h : c.op = 6) : opM S c = eM S c := by
  unfold opM
  simp [h]
theorem A6 {S : aI} {c : aV} (h : c.op = 7) : opM S c = bW S c := by
  unfold opM
  simp [h]
theorem A8 {S : aI} {c : aV} (h : c.op = 8) : opM S c = fF S c := by
  unfold opM
  simp [h]
theorem Ba {S : aI} {c : aV} (h : c.op = 9) : opM S c = fD S c := by
  unfold opM
  simp [h]
theorem xM {S : aI} {c : aV} (h : c.op = 10) : opM S c = bG S c := by
  unfold opM
  simp [h]
theorem xO {S : aI} {c : aV} (h : c.op = 11) : opM S c = jG S c := by
  unfold opM
  simp [h]
theorem xP {S : aI} {c : aV} (h : c.op = 12) : opM S c = fH S c := by
  unfold opM
  simp [h]
theorem xQ {S : aI} {c : aV} (h : c.op = 13) : opM S c = iD S c := by
  unfold opM
  simp [h]
theorem xR {S : aI} {c : aV} (h : c.op = 14) : opM S c = gu S c := by
  unfold opM
  simp [h]
theorem xS {S : aI} {c : aV} (h : c.op = 15) : opM S c = eF S c := by
  unfold opM
  simp [h]
theorem xT {S : aI} {c : aV} (h : ¬ (1 ≤ c.op ∧ c.op ≤ 15)) : opM S c = (230, S, c) := by
  unfold opM
  repeat rw [if_neg (by omega)]
end
section
open Go.RowKit Go.Maps HeapM TabM
section inv
variable {S : aI} {d to : Nat} {name toName text : ByteArray} {mode : Int} {c : aV}
theorem Ck (hI : Inv0 S) : hnd S.us (aE S.X) = 0 := by
  have : hnd S.us (aE S.X) = cI (fun _ => 0) S.us := eO (fun p hp => if_neg (hI.fresh.us p hp))
  rw [this]
  have h0 : ∀ us : Used Th, cI (fun _ => 0) us = 0 := fun us => by
    induction us with
    | nil => rfl
    | cons p r ih => show 0 + _ = 0; rw [ih]
  exact h0 _
theorem vB (hI : Inv0 S) {kind mode : Int} {tg : ByteArray} (hm : kS mode) (ht : dG kind tg) : jm { aD S.X kind mode with target := tg } :=
  ⟨hm, ⟨Int.le_refl _, by show (0 : Int) ≤ 2147483647; decide⟩, ⟨Int.le_refl _, by show (0 : Int) ≤ 2147483647; decide⟩, hI.now, fun _ => rfl, fun _ => rfl, ht⟩
theorem Inv.Bb (hI : Inv S) (hd : Live S.idx ⟨d, 2⟩) (gA : (obj S.O d).gone = false) (hgn : bE name) (h0 : bO S.X S.O S.idx d name = 0) {kind mode : Int} {tg : ByteArray} (hk : kind = 1 ∨ kind = 2 ∨ kind = 3) (hm : kS mode) (ht : dG kind tg) :
    Inv (bD S d name { aD S.X kind mode with target := tg }) := by
  have h := hI.add (us' := S.us) (eP := S.ay) (o := { aD S.X kind mode with target := tg }) hd gA (lY h0) hgn (qQ h0) rfl hk rfl rfl rfl rfl rfl (vB hI.toInv0 hm ht) hI.usr hI.tW hI.xw hI.ay (fun h t e => ⟨.inl (hI.us h t e).1, (hI.us h t e).2⟩) (fun _ _ => rfl) (by rw [Ck hI.toInv0]; rfl)
  exact h
theorem Inv.mkdirM (hI : Inv S) (hd : Live S.idx ⟨d, 2⟩) (gA : (obj S.O d).gone = false) (hgn : bE name) (hm : kS mode) : Inv (Proofs.YtkiedlmhocglhaaGreatDoor.mkdirM S d name mode).2 := by
  unfold Proofs.YtkiedlmhocglhaaGreatDoor.mkdirM
  split
  ·rename_i h0
   exact hI.Bb hd gA hgn h0 (.inr (.inl rfl)) hm (.inl ⟨by decide, rfl⟩)
  exact hI
theorem Kn {s : ByteArray} (h : kO s = 0) : dG 3 s := by
  unfold kO at h
  split at h
  ·cases h
  rename_i h1
  split at h
  ·cases h
  split at h
  ·rename_i h2 h3
   refine .inr ⟨rfl, ?_, by omega, h3⟩
   apply Classical.byContradiction
   intro hn
   have : s.size = 0 := by omega
   exact h1 (jB.1 this)
  cases h
theorem Inv.symlinkM (hI : Inv S) (hd : Live S.idx ⟨d, 2⟩) (gA : (obj S.O d).gone = false) (hgn : bE name) : Inv (Proofs.YtkiedlmhocglhaaGreatDoor.symlinkM S d name text).2 := by
  unfold Proofs.YtkiedlmhocglhaaGreatDoor.symlinkM
  split
  ·rename_i hb
   split
   ·rename_i h0
    exact hI.Bb hd gA hgn h0 (.inr (.inr rfl)) ⟨by decide, by decide⟩ (Kn hb)
   exact hI
  exact hI
theorem Inv.unlinkM (hI : Inv S) (hd : Live S.idx ⟨d, 2⟩) : Inv (Proofs.YtkiedlmhocglhaaGreatDoor.unlinkM S d name).2 := by
  unfold Proofs.YtkiedlmhocglhaaGreatDoor.unlinkM
  split
  ·exact hI
  rename_i t hl
  split
  ·exact hI
  rename_i hk
  exact hI.uX hd hl hk
theorem Inv.rmdirM (hI : Inv S) (hd : Live S.idx ⟨d, 2⟩) : Inv (Proofs.YtkiedlmhocglhaaGreatDoor.rmdirM S d name).2 := by
  unfold Proofs.YtkiedlmhocglhaaGreatDoor.rmdirM
  split
  ·exact hI
  rename_i t hl
  split
  ·split
   ·rename_i he
    exact hI.drop hd hl (fun _ => he)
   exact hI
  exact hI
theorem EF {t : Th} (ht : t.k ≠ to) : (obj (ax S d name t).O to).gone = (obj S.O to).gone := by
  have h1 : (obj (ax S d name t).O to).gone = (obj (aO S.X S.O d name t) to).gone := by
    unfold ax
    simp only
    split
    ·show (obj (aB _ t.k _) to).gone = _
     rw [bS (fun e => ht e.symm)]
    rfl
  rw [h1]
  exact cE (g := aS.gone) (fun _ _ => rfl) (fun _ _ => rfl) (fun _ _ _ => rfl)
theorem Inv.renameM (hI : Inv S) (hd : Live S.idx ⟨d, 2⟩) (hto : Live S.idx ⟨to, 2⟩) (gA : (obj S.O to).gone = false) (hgn : bE toName) : Inv (Proofs.YtkiedlmhocglhaaGreatDoor.renameM S d name to toName).2 := by
  unfold Proofs.YtkiedlmhocglhaaGreatDoor.renameM
  split
  ·exact hI
  rename_i t hl
  split
  ·exact hI
  rename_i hb
  have hb : t.kind = 2 → ¬ iJ S.O t.k to := fun h1 h2 => hb ⟨h1, h2⟩
  split
  ·rename_i hn
   exact hI.move hd hl hto gA hn hgn hb
  rename_i o hl2
  split
  ·exact hI
  rename_i hot
  split
  ·exact hI
  rename_i hok
  split
  ·exact hI
  rename_i Pm
  have ho := (hI.ent hto hl2).2
  have LD : o.k ≠ to := hI.ne hto hl2
  have h1 := hI.uX hto hl2 hok
  have hd1 : Live (ax S to toName o).idx ⟨d, 2⟩ := iw hI.toInv0 hto hl2 hd (fun e => hok (by have := fk hd ho e; rw [← this]))
  have iL : Live (ax S to toName o).idx ⟨to, 2⟩ := iw hI.toInv0 hto hl2 hto (fun e => LD e.symm)
  exact h1.move hd1 (nS hI.toInv0 hto hl2 hl hot) iL (by rw [EF LD]; exact gA) (nT hI.toInv0 hto hl2) hgn (fun h => absurd h Pm)
theorem Inv.linkM (hI : Inv S) (hd : Live S.idx ⟨d, 2⟩) (hto : Live S.idx ⟨to, 2⟩) (gA : (obj S.O to).gone = false) (hgn : bE toName) : Inv (Proofs.YtkiedlmhocglhaaGreatDoor.linkM S d name to toName).2 := by
  unfold Proofs.YtkiedlmhocglhaaGreatDoor.linkM
  split
  ·exact hI
  rename_i t hl
  have ht := (hI.ent hd hl).2
  split
  ·exact hI
  rename_i hk
  split
  ·rename_i hn
   split
   ·rename_i hr
    have hgt : (obj S.O t.k).gone = false := by
      cases hg : (obj S.O t.k).gone with
      | false => rfl
      | true =>
        have h1 := (hI.gone t ht hg).1
        have h2 := hI.links t ht
        have h3 : 0 < gj S.idx S.O t.k := kJ hd hl
        omega
    exact hI.link hto gA hn hgn ht hgt hk hr
   exact hI
  exact hI
theorem Inv.createM (hI : Inv S) (hd : Live S.idx ⟨d, 2⟩) (gA : (obj S.O d).gone = false) (hgn : bE name) (hm : kS mode) : Inv (Proofs.YtkiedlmhocglhaaGreatDoor.createM S d name mode).2.2 := by
  unfold Proofs.YtkiedlmhocglhaaGreatDoor.createM
  split
  ·rename_i h0
   split
   ·rename_i hlt
    obtain ⟨g1, g2, _⟩ := least_le hI.usr (fun x hx => (hI.tW x hx).1)
    obtain ⟨v1, v2⟩ := DN (t := ⟨aE S.X, 1⟩) hI.usr hI.tW
    have hm2 := vB (kind := 1) (tg := ⟨#[]⟩) hI.toInv0 hm (.inl ⟨by decide, rfl⟩)
    refine hI.add (us' := ins (TabM.least S.us) ⟨aE S.X, 1⟩ S.us) (eP := max S.ay ((S.us.length : Int) + 1)) (o := { aD S.X 1 mode with opens := 1 }) hd gA (lY h0) hgn (qQ h0) rfl (.inl rfl) rfl rfl rfl rfl rfl ⟨hm2.mode, hm2.uid, hm2.gid, hm2.time, hm2.data, hm2.ah, hm2.target⟩ v1 v2 (by rw [gq]; omega) (by have := hI.ay; omega) (fun h t e => ?_) (fun k hk => ?_) ?_
    ·rw [oZ g2] at e
     split at e
     ·cases e; exact ⟨.inr rfl, by show (1 : Int) ≠ 3; decide⟩
     exact ⟨.inl (hI.us h t e).1, (hI.us h t e).2⟩
    ·rw [ze, if_neg (fun e => hk e.symm), Nat.zero_add]
    rw [ze, if_pos rfl, Ck hI.toInv0]; rfl
   exact hI
  exact hI
theorem Inv.opM (hI : Inv S) (c : aV) : Inv (Proofs.YtkiedlmhocglhaaGreatDoor.opM S c).2.1 := by
  have habout : ∀ {need : Int} {d : Nat} {h : Int} {n : ByteArray}, cO S.O S.us h n need = .ok d → Live S.idx ⟨d, 2⟩ ∧ (obj S.O d).gone = false ∧ bE n := fun {need d h n} e => by
    rcases jM hI.toInv0 h n need with ⟨e2, h1, _⟩ | ⟨d2, h1, h2, h3, h4, _⟩
    ·rw [e] at h1; cases h1
    rw [e] at h1; cases h1; exact ⟨h2, h3, h4⟩
  have hnamed : ∀ {t : Th}, fA S.O S.us c = .ok t → Live S.idx t := fun {t} e => by
    rcases xI hI.toInv0 c with ⟨e2, h1, _⟩ | ⟨k, h1, h2⟩ | ⟨k, h1, h2⟩ | ⟨k, h1, h2⟩ <;> rw [e] at h1 <;> cases h1 <;> exact h2
  by_cases h : 1 ≤ c.op ∧ c.op ≤ 15
  ·have h : c.op = 1 ∨ c.op = 2 ∨ c.op = 3 ∨ c.op = 4 ∨ c.op = 5 ∨ c.op = 6 ∨ c.op = 7 ∨ c.op = 8 ∨ c.op = 9 ∨ c.op = 10 ∨ c.op = 11 ∨ c.op = 12 ∨ c.op = 13 ∨ c.op = 14 ∨ c.op = 15 := by omega
   rcases h with h | h | h | h | h | h | h | h | h | h | h | h | h | h | h
   ·rw [xJ h]
    unfold iG
    split
    ·exact hI
    rename_i t e
    split
    ·rename_i hk; exact hI.openM (hI.live e) (by rw [hk]; decide)
    exact hI
   ·rw [xK h]
    unfold dY
    split
    ·exact hI
    rename_i t e
    split
    ·exact hI
    rename_i hk
    split
    ·exact hI
    exact hI.openM (hnamed e) hk
   ·rw [AX h]
    unfold dM
    split
    ·exact hI
    rename_i t e
    split
    ·exact hI
    rename_i hk
    split
    ·exact hI
    exact hI.openM (hnamed e) hk
   ·rw [xL h]
    unfold eZ
    split
    ·exact hI
    rename_i d e
    obtain ⟨h1, h2, h3⟩ := habout e
    split
    ·rename_i hm; exact hI.mkdirM h1 h2 h3 hm
    exact hI
   ·rw [AY h]
    unfold dm
    split
    ·exact hI
    rename_i d e
    obtain ⟨h1, h2, h3⟩ := habout e
    split
    ·rename_i hm
     split
     ·exact hI.createM h1 h2 h3 hm
     exact hI
    exact hI
   ·rw [AZ h]
    unfold eM
    split
    ·exact hI
    rename_i d e
    obtain ⟨h1, h2, h3⟩ := habout e
    exact hI.symlinkM h1 h2 h3
   ·rw [A6 h]
    unfold bW
    split
    ·exact hI
    rename_i d e
    split
    ·exact hI
    rename_i to e2
    obtain ⟨h1, h2, h3⟩ := habout e2
    exact hI.linkM (habout e).1 h1 h2 h3
   ·rw [A8 h]
    unfold fF
    split
    ·exact hI
    rename_i d e
    exact hI.unlinkM (habout e).1
   ·rw [Ba h]
    unfold fD
    split
    ·exact hI
    rename_i t e
    split
    ·rename_i hk
     obtain ⟨k, kd⟩ := t
     simp only at hk
     subst hk
     exact hI.writeM (hI.us _ _ e).1 _
    exact hI
   ·rw [xM h]
    unfold bG
    split
    ·exact hI
    split
    ·exact hI
    split
    ·rename_i hm
     split
     ·rename_i ho
      split
      ·rename_i ht; exact hI.M8 hm ho ht
      exact hI
     exact hI
    exact hI
   ·rw [xO h]
    unfold jG
    split <;> exact hI
   ·rw [xP h]
    unfold fH
    split <;> exact hI
   ·rw [xQ h]
    unfold iD
    split
    ·exact hI
    rename_i t e; exact hI.shut e
   ·rw [xR h]
    unfold gu
    split
    ·exact hI
    rename_i d e
    exact hI.rmdirM (habout e).1
   rw [xS h]
   unfold eF
   split
   ·exact hI
   rename_i d e
   split
   ·exact hI
   rename_i to e2
   obtain ⟨h1, h2, h3⟩ := habout e2
   exact hI.renameM (habout e).1 h1 h2 h3
  rw [xT h]; exact hI
theorem Inv.doM (hI : Inv S) (c : aV) : Inv (Proofs.YtkiedlmhocglhaaGreatDoor.doM S c).1 := hI.opM _
end inv
end
section
open Go.RowKit Go.Maps HeapM TabM
structure wz where
  at_ : Int
  op : Int
  path : ByteArray
  to : ByteArray
  text : ByteArray
def slash : ByteArray := ⟨#[47]⟩
def gS (s : ByteArray) : List ByteArray := Lib.splitB slash 0 (Lib.countB s slash) s
noncomputable section
def iM (O : bM) : Nat → List ByteArray → Except Int (Nat × ByteArray)
  | _, [] => .error 170
  | d, [p] => if (obj O d).gone = true then .error 170 else .ok (d, p)
  | d, p :: q :: r => match aU p (obj O d).ah with
    | none => .error 170
    | some t => if t.kind = 3 then .error 174 else if t.kind = 1 then .error 173 else iM O t.k (q :: r)
instance (ps : List ByteArray) : Decidable (∀ p ∈ ps, bE p) := Classical.propDecidable _
def gI (O : bM) (d : Nat) (path : ByteArray) : Except Int (Nat × ByteArray) := if ∀ p ∈ gS path, bE p then iM O d (gS path) else .error 95
def actNew (S : aI) (d : Nat) (name text : ByteArray) : Int × aI :=
  if bO S.X S.O S.idx d name = 0 then (0, (writeM (bD S d name (aD S.X 1 420)) (aE S.X) text.data.toList).2.2) else (bO S.X S.O S.idx d name, S)
def actWrite (S : aI) (d : Nat) (name text : ByteArray) : Int × aI :=
  match aU name (obj S.O d).ah with
  | none => (170, S)
  | some t => if t.kind = 3 then (174, S) else if t.kind = 2 then (172, S) else ((writeM S t.k text.data.toList).2.1, (writeM S t.k text.data.toList).2.2)
def actR (S : aI) (top : Nat) (a : wz) (d : Nat) (name : ByteArray) : Int × aI :=
  if a.op = 1 then actNew S d name a.text
  else if a.op = 2 then mkdirM S d name 493
  else if a.op = 3 then symlinkM S d name a.text
  else if a.op = 4 then unlinkM S d name
  else if a.op = 5 then rmdirM S d name
  else if a.op = 6 then match gI S.O top a.to with
    | .error e => (e, S)
    | .ok (to, toName) => renameM S d name to toName
  else actWrite S d name a.text
def actM (S : aI) (root : Int) (a : wz) : Int × aI :=
  if a.op < 1 ∨ a.op > 7 then (230, S)
  else match TabM.get S.idx root with
    | none => (141, S)
    | some t => if t.kind = 2 then
        match gI S.O t.k a.path with
        | .error e => (e, S)
        | .ok (d, name) => actR S t.k a d name
      else (173, S)
end
section facts
variable {S : aI} {O : bM} {d d' : Nat} {name : ByteArray} {t : Th}
theorem DS (hI : Inv0 S) : ∀ (ps : List ByteArray) (d : Nat), Live S.idx ⟨d, 2⟩ → (∀ p ∈ ps, bE p) → iM S.O d ps = .ok (d', name) → Live S.idx ⟨d', 2⟩ ∧ (obj S.O d').gone = false ∧ bE name
  | [], d, _, _, h => by cases h
  | [p], d, hd, hg, h => by
    unfold iM at h
    split at h
    ·cases h
    rename_i hn
    cases h
    exact ⟨hd, by simpa using hn, hg _ (List.mem_singleton.2 rfl)⟩
  | p :: q :: r, d, hd, hg, h => by
    unfold iM at h
    cases e : aU p (obj S.O d).ah with
    | none => rw [e] at h; cases h
    | some t =>
      rw [e] at h
      simp only at h
      split at h
      ·cases h
      rename_i h3
      split at h
      ·cases h
      rename_i h1
      have hl := (hI.ent hd e).2
      have hk : t = ⟨t.k, 2⟩ := by
        have := (hI.ob _ hl).2.2
        obtain ⟨k, kd⟩ := t
        simp only at this h1 h3
        have : kd = 2 := by omega
        rw [this]
      rw [hk] at hl
      exact DS hI (q :: r) t.k hl (fun p hp => hg p (List.mem_cons_of_mem _ hp)) h
theorem zf {path : ByteArray} (hI : Inv0 S) (hd : Live S.idx ⟨d, 2⟩) (h : gI S.O d path = .ok (d', name)) : Live S.idx ⟨d', 2⟩ ∧ (obj S.O d').gone = false ∧ bE name := by
  unfold gI at h
  split at h
  ·rename_i hg
   exact DS hI _ _ hd hg h
  cases h
theorem Cl (hI : Inv S) {o : aS} : Live (ins (S.X.last + 1) ⟨aE S.X, o.kind⟩ S.idx) ⟨aE S.X, o.kind⟩ := by
  unfold Live
  have h1 := mX hI.toInv0
  have hn : S.X.last + 1 ∉ keys S.idx := by
    cases e : TabM.get S.idx (S.X.last + 1) with
    | none => exact get_none.1 e
    | some t => have := hI.idx _ _ e; omega
  rw [oZ hn]
  simp only
  rw [h1, if_pos rfl]
theorem Inv.actNew {text : ByteArray} (hI : Inv S) (hd : Live S.idx ⟨d, 2⟩) (gA : (obj S.O d).gone = false) (hgn : bE name) : Inv (Proofs.YtkiedlmhocglhaaGreatDoor.actNew S d name text).2 := by
  unfold Proofs.YtkiedlmhocglhaaGreatDoor.actNew
  split
  ·rename_i h0
   exact (hI.Bb hd gA hgn h0 (.inl rfl) ⟨by decide, by decide⟩ (.inl ⟨by decide, rfl⟩)).writeM (Cl hI (o := aD S.X 1 420)) _
  exact hI
theorem Inv.actWrite {text : ByteArray} (hI : Inv S) (hd : Live S.idx ⟨d, 2⟩) : Inv (Proofs.YtkiedlmhocglhaaGreatDoor.actWrite S d name text).2 := by
  unfold Proofs.YtkiedlmhocglhaaGreatDoor.actWrite
  split
  ·exact hI
  rename_i t e
  split
  ·exact hI
  split
  ·exact hI
  rename_i h3 h2
  have hl := (hI.ent hd e).2
  have hk : t = ⟨t.k, 1⟩ := by
    have := (hI.ob _ hl).2.2
    obtain ⟨k, kd⟩ := t
    simp only at this h2 h3
    have : kd = 1 := by omega
    rw [this]
  rw [hk] at hl
  exact hI.writeM hl _
theorem Inv.actR {top : Nat} {a : wz} (hI : Inv S) (ht : Live S.idx ⟨top, 2⟩) (hd : Live S.idx ⟨d, 2⟩) (gA : (obj S.O d).gone = false) (hgn : bE name) : Inv (Proofs.YtkiedlmhocglhaaGreatDoor.actR S top a d name).2 := by
  unfold Proofs.YtkiedlmhocglhaaGreatDoor.actR
  split
  ·exact hI.actNew hd gA hgn
  split
  ·exact hI.mkdirM hd gA hgn ⟨by decide, by decide⟩
  split
  ·exact hI.symlinkM hd gA hgn
  split
  ·exact hI.unlinkM hd
  split
  ·exact hI.rmdirM hd
  split
  ·split
   ·exact hI
   rename_i to toName e
   obtain ⟨h1, h2, h3⟩ := zf hI.toInv0 ht e
   exact hI.renameM hd h1 h2 h3
  exact hI.actWrite hd
theorem Kp {i : Int} (hI : Inv0 S) (e : TabM.get S.idx i = some t) (hk : t.kind = 2) : Live S.idx ⟨t.k, 2⟩ := by
  have := hI.live e
  obtain ⟨k, kd⟩ := t
  simp only at hk
  subst hk
  exact this
theorem Inv.actM {root : Int} {a : wz} (hI : Inv S) : Inv (Proofs.YtkiedlmhocglhaaGreatDoor.actM S root a).2 := by
  unfold Proofs.YtkiedlmhocglhaaGreatDoor.actM
  split
  ·exact hI
  split
  ·exact hI
  rename_i t e
  split
  ·rename_i hk
   split
   ·exact hI
   rename_i d name e2
   have ht := Kp hI.toInv0 e hk
   obtain ⟨h1, h2, h3⟩ := zf hI.toInv0 ht e2
   exact hI.actR ht h1 h2 h3
  exact hI
end facts
section err
variable {S : aI} {c : aV} {d to : Nat} {name toName text : ByteArray} {t : Th}
theorem ud (h : (openM S t).2.1 ≠ 0) : (openM S t).2.2 = S := by
  by_cases e : (S.us.length : Int) < S.X.cH
  ·rw [iq e] at h; exact absurd rfl h
  rw [jw e]
theorem xU {m : Int} (h : (mkdirM S d name m).1 ≠ 0) : (mkdirM S d name m).2 = S := by
  unfold mkdirM at *
  split
  ·rename_i e; rw [if_pos e] at h; exact absurd rfl h
  rfl
theorem uf (h : (symlinkM S d name text).1 ≠ 0) : (symlinkM S d name text).2 = S := by
  unfold symlinkM at *
  split
  ·rename_i e1
   rw [if_pos e1] at h
   split
   ·rename_i e; rw [if_pos e] at h; exact absurd rfl h
   rfl
  rfl
theorem vC (h : (unlinkM S d name).1 ≠ 0) : (unlinkM S d name).2 = S := by
  unfold unlinkM at *
  split
  ·rfl
  rename_i t e
  rw [e] at h
  simp only at h
  split
  ·rfl
  rename_i e2; rw [if_neg e2] at h; exact absurd rfl h
theorem xV (h : (rmdirM S d name).1 ≠ 0) : (rmdirM S d name).2 = S := by
  unfold rmdirM at *
  split
  ·rfl
  rename_i t e
  rw [e] at h
  simp only at h
  split
  ·rename_i e2
   rw [if_pos e2] at h
   split
   ·rename_i e3; rw [if_pos e3] at h; exact absurd rfl h
   rfl
  rfl
theorem vD (h : (renameM S d name to toName).1 ≠ 0) : (renameM S d name to toName).2 = S := by
  unfold renameM at *
  cases e : aU name (obj S.O d).ah with
  | none => rfl
  | some t =>
    rw [e] at h
    simp only at h ⊢
    split
    ·rfl
    rename_i e1
    rw [if_neg e1] at h
    cases e2 : aU toName (obj S.O to).ah with
    | none => rw [e2] at h; exact absurd rfl h
    | some o =>
      rw [e2] at h
      simp only at h ⊢
      split
      ·rfl
      rename_i e3
      rw [if_neg e3] at h
      split
      ·rfl
      rename_i e4
      rw [if_neg e4] at h
      split
      ·rfl
      rename_i e5
      rw [if_neg e5] at h
      exact absurd rfl h
theorem xW {k : Nat} {bs : List UInt8} (h : (writeM S k bs).2.1 ≠ 0) : (writeM S k bs).2.2 = S := by
  unfold writeM at *
  split
  ·rfl
  rename_i e
  rw [if_neg e] at h
  split
  ·rfl
  rename_i e2
  rw [if_neg e2] at h
  exact absurd rfl h
theorem Gm (h : (linkM S d name to toName).1 ≠ 0) : (linkM S d name to toName).2 = S := by
  unfold linkM at *
  cases e : aU name (obj S.O d).ah with
  | none => rfl
  | some t =>
    rw [e] at h
    simp only at h ⊢
    split
    ·rfl
    rename_i e1
    rw [if_neg e1] at h
    split
    ·rename_i e2
     rw [if_pos e2] at h
     split
     ·rename_i e3; rw [if_pos e3] at h; exact absurd rfl h
     rfl
    rfl
theorem Dj {m : Int} (h : (createM S d name m).2.1 ≠ 0) : (createM S d name m).2.2 = S := by
  unfold createM at *
  split
  ·rename_i e1
   rw [if_pos e1] at h
   split
   ·rename_i e; rw [if_pos e] at h; exact absurd rfl h
   rfl
  rfl
theorem Kq (h : (opM S c).1 ≠ 0) : (opM S c).2.1 = S := by
  by_cases hop : 1 ≤ c.op ∧ c.op ≤ 15
  case neg => rw [xT hop]
  have hop : c.op = 1 ∨ c.op = 2 ∨ c.op = 3 ∨ c.op = 4 ∨ c.op = 5 ∨ c.op = 6 ∨ c.op = 7 ∨ c.op = 8 ∨ c.op = 9 ∨ c.op = 10 ∨ c.op = 11 ∨ c.op = 12 ∨ c.op = 13 ∨ c.op = 14 ∨ c.op = 15 := by omega
  rcases hop with e | e | e | e | e | e | e | e | e | e | e | e | e | e | e
  ·rw [xJ e] at h ⊢
   unfold iG at *
   split
   ·rfl
   rename_i t e1
   rw [e1] at h
   simp only at h
   split
   ·rename_i e2; rw [if_pos e2] at h; exact ud h
   rfl
  ·rw [xK e] at h ⊢
   unfold dY at *
   split
   ·rfl
   rename_i t e1
   rw [e1] at h
   simp only at h
   split
   ·rfl
   rename_i e2
   rw [if_neg e2] at h
   split
   ·rfl
   rename_i e3
   rw [if_neg e3] at h
   exact ud h
  ·rw [AX e] at h ⊢
   unfold dM at *
   split
   ·rfl
   rename_i t e1
   rw [e1] at h
   simp only at h
   split
   ·rfl
   rename_i e2
   rw [if_neg e2] at h
   split
   ·rfl
   rename_i e3
   rw [if_neg e3] at h
   exact ud h
  ·rw [xL e] at h ⊢
   unfold eZ at *
   split
   ·rfl
   rename_i t e1
   rw [e1] at h
   simp only at h
   split
   ·rename_i e2; rw [if_pos e2] at h; exact xU h
   rfl
  ·rw [AY e] at h ⊢
   unfold dm at *
   split
   ·rfl
   rename_i t e1
   rw [e1] at h
   simp only at h
   split
   ·rename_i e2
    rw [if_pos e2] at h
    split
    ·rename_i e3; rw [if_pos e3] at h; exact Dj h
    rfl
   rfl
  ·rw [AZ e] at h ⊢
   unfold eM at *
   split
   ·rfl
   rename_i t e1
   rw [e1] at h
   exact uf h
  ·rw [A6 e] at h ⊢
   unfold bW at *
   split
   ·rfl
   rename_i t e1
   rw [e1] at h
   simp only at h
   split
   ·rfl
   rename_i t2 e2
   rw [e2] at h
   exact Gm h
  ·rw [A8 e] at h ⊢
   unfold fF at *
   split
   ·rfl
   rename_i t e1
   rw [e1] at h
   exact vC h
  ·rw [Ba e] at h ⊢
   unfold fD at *
   split
   ·rfl
   rename_i t e1
   rw [e1] at h
   simp only at h
   split
   ·rename_i e2; rw [if_pos e2] at h; exact xW h
   rfl
  ·rw [xM e] at h ⊢
   unfold bG at *
   split
   ·rfl
   rename_i t e1
   rw [e1] at h
   simp only at h
   split
   ·rfl
   rename_i e2
   rw [if_neg e2] at h
   split
   ·rename_i e3
    rw [if_pos e3] at h
    split
    ·rename_i e4
     rw [if_pos e4] at h
     split
     ·rename_i e5; rw [if_pos e5] at h; exact absurd rfl h
     rfl
    rfl
   rfl
  ·rw [xO e]
   unfold jG
   split <;> rfl
  ·rw [xP e]
   unfold fH
   split <;> rfl
  ·rw [xQ e] at h ⊢
   unfold iD at *
   split
   ·rfl
   rename_i t e1
   rw [e1] at h
   exact absurd rfl h
  ·rw [xR e] at h ⊢
   unfold gu at *
   split
   ·rfl
   rename_i t e1
   rw [e1] at h
   exact xV h
  rw [xS e] at h ⊢
  unfold eF at *
  split
  ·rfl
  rename_i t e1
  rw [e1] at h
  simp only at h
  split
  ·rfl
  rename_i t2 e2
  rw [e2] at h
  exact vD h
theorem Kr (h : (doM S c).2.code ≠ 0) : (doM S c).1 = S := Kq h
theorem IB {root : Int} {a : wz} (h : (actM S root a).1 ≠ 0) : (actM S root a).2 = S := by
  unfold actM at *
  split
  ·rfl
  rename_i e0
  rw [if_neg e0] at h
  cases e1 : TabM.get S.idx root with
  | none => rfl
  | some t =>
    rw [e1] at h
    simp only at h ⊢
    split
    ·rename_i e2
     rw [if_pos e2] at h
     cases e3 : gI S.O t.k a.path with
     | error e => rfl
     | ok x =>
       obtain ⟨d, name⟩ := x
       rw [e3] at h
       simp only at h ⊢
       unfold actR at *
       split
       ·rename_i e; rw [if_pos e] at h
        unfold actNew at *
        split
        ·rename_i e5; rw [if_pos e5] at h; exact absurd rfl h
        rfl
       rename_i e4
       rw [if_neg e4] at h
       split
       ·rename_i e; rw [if_pos e] at h; exact xU h
       rename_i e5
       rw [if_neg e5] at h
       split
       ·rename_i e; rw [if_pos e] at h; exact uf h
       rename_i e6
       rw [if_neg e6] at h
       split
       ·rename_i e; rw [if_pos e] at h; exact vC h
       rename_i e7
       rw [if_neg e7] at h
       split
       ·rename_i e; rw [if_pos e] at h; exact xV h
       rename_i e8
       rw [if_neg e8] at h
       split
       ·rename_i e; rw [if_pos e] at h
        cases e9 : gI S.O t.k a.to with
        | error e => rfl
        | ok y =>
          obtain ⟨to, toName⟩ := y
          rw [e9] at h
          exact vD h
       rename_i e9
       rw [if_neg e9] at h
       unfold actWrite at *
       cases e10 : aU name (obj S.O d).ah with
       | none => rfl
       | some t =>
         rw [e10] at h
         simp only at h ⊢
         split
         ·rfl
         rename_i e11
         rw [if_neg e11] at h
         split
         ·rfl
         rename_i e12
         rw [if_neg e12] at h
         exact xW h
    rfl
end err
end
section
open Go.RowKit
def mB (β : Bs) (Φ : Bs → Prop) : bR where
  h F w := ∃ β' : Bs, β.le β' ∧ (∀ k, β'.O k → β.O k ∨ F k) ∧ (∀ k, F k → β'.O k) ∧ β'.w0.heap.size ≤ w.heap.size ∧ (∀ k, F k → k < β'.w0.heap.size ∧ w.heap[k]? = β'.w0.heap[k]?) ∧ Φ β'
  lt := fun ⟨_, _, _, _, h4, h5, _⟩ k hk => Nat.lt_of_lt_of_le (h5 k hk).1 h4
  st := fun ⟨β', h1, h2, h3, h4, h5, h6⟩ _ _ hk hs => ⟨β', h1, h2, h3, Nat.le_trans h4 hk.size, fun k hF => ⟨(h5 k hF).1, (hk.block k (Nat.lt_of_lt_of_le (h5 k hF).1 h4) (hs k hF)).trans (h5 k hF).2⟩, h6⟩
section LF
variable {P : Program} {β : Bs} {N : Nat} {ops : Array Oper} {k : Nat} {fr : Fr} {hps aL : List HP} {Q : Post} {f : FuncId} {args : Array Value} {pre : List HP}
theorem dZ.LF {ι : Type} {vv : ι → Value} {ll : ι → List HP} {Φ : ι → Bs → Prop} (h : dZ P β f args pre (fun β' v l => ∃ x, v = vv x ∧ l = ll x ∧ Φ x β')) : Spec P β f args pre (fun v l => ∃ x, v = vv x ∧ l = .abs (mB β (Φ x)) :: ll x) := by
  intro R w hS
  refine (h R w hS).mono ?_
  rintro e w' ⟨β', v, l, hle, he, ⟨x, rfl, rfl, Bo⟩, ho, φ, h1, h2, h3⟩
  refine ⟨vv x, _, he, ⟨x, rfl, rfl⟩, ho.le hle, fun i => match i with
    | 0 => fun k => β'.O k ∧ ¬ β.O k
    | i + 1 => φ i, fun i p hp => ?_, fun i hi k hk hO => ?_, fun i j hi hj hne k hk hk' => ?_⟩
  ·cases i with
   | zero =>
     have hp : some (HP.abs (mB β (Φ x))) = some p := hp
     cases hp
     exact ⟨β', hle, fun k hk => (Classical.em (β.O k)).elim .inl (fun hn => .inr ⟨hk, hn⟩), fun k hk => hk.1, ho.size, fun k hk => ho.old k hk.1, Bo⟩
   | succ i => exact h1 i p (by simpa using hp)
  ·cases i with
   | zero => exact hk.2 hO
   | succ i => exact h2 i (by simp at hi ⊢; omega) k hk (hle.O k hO)
  cases i with
  | zero =>
    cases j with
    | zero => exact hne rfl
    | succ j => exact h2 j (by simp at hj ⊢; omega) k hk' hk.1
  | succ i =>
    cases j with
    | zero => exact h2 i (by simp at hi ⊢; omega) k hk hk'.1
    | succ j => exact h3 i j (by simp at hi ⊢; omega) (by simp at hj ⊢; omega) (by omega) k hk hk'
theorem Sat.Ov {Φ : Bs → Prop} {l : List HP} {w : World} (h : Sat β (.abs (mB β Φ) :: l) w) : ∃ β' : Bs, β.le β' ∧ Φ β' ∧ Sat β' l w := by
  obtain ⟨ho, φ, h1, h2, h3⟩ := h
  have hF : (mB β Φ).h (φ 0) w := h1 0 _ rfl
  obtain ⟨β', g1, g2, g3, g4, g5, g6⟩ := hF
  refine ⟨β', g1, g6, ⟨ho.os.trans g1.os.symm, ho.tape.trans g1.tape.symm, ho.output.trans g1.output.symm, g4, fun k hk => ?_⟩, fun j => φ (j + 1), fun j p hp => h1 (j + 1) p (by simpa using hp), fun j hj k hk hO => ?_, fun a b ha hb hne => h3 (a + 1) (b + 1) (by simp; omega) (by simp; omega) (by omega)⟩
  ·rcases g2 k hk with hb | hb
   ·have e1 := g1.old k hb
    have e2 := ho.old k hb
    exact ⟨Nat.lt_of_lt_of_le e1.1 g1.size, e2.2.trans e1.2.symm⟩
   exact g5 k hb
  rcases g2 k hO with hb | hb
  ·exact h2 (j + 1) (by simp; omega) k hk hb
  exact h3 (j + 1) 0 (by simp; omega) (by simp) (by omega) k hk hb
theorem Spec.EG {Φ : Bs → Prop} {post : Value → List HP → Prop} (h : ∀ β' : Bs, β.le β' → Φ β' → Spec P β' f args pre post) : Spec P β f args (.abs (mB β Φ) :: pre) post := by
  intro R w hS
  obtain ⟨β', g1, g2, g3⟩ := Sat.Ov (l := pre ++ [.abs R]) hS
  refine (h β' g1 g2 R w g3).mono ?_
  rintro e w' ⟨v, l, h1, h2, h3⟩
  exact ⟨v, l, h1, h2, h3.Fu g1⟩
end LF
end
section
open Go.RowKit
section
variable {O : bM} {k : Nat} {kd : Int}
theorem zh (L : HL) (h : (obj O k).kind = kd) (h0 : kd ≠ 0 := by decide) : ∀ F w, (ak (aQ O L)).h F w → w.cell? ⟨L.b k, 0, none⟩ = some (.int .i64 (obj O k).id) := bq (by rw [h]; exact h0) rfl
theorem LG (L : HL) (h : (obj O k).kind = kd) (h0 : kd ≠ 0 := by decide) : ∀ F w, (ak (aQ O L)).h F w → w.cell? ⟨L.b k, 1, none⟩ = some (.int .i64 (obj O k).mode) := bq (by rw [h]; exact h0) rfl
theorem kL (L : HL) (h : (obj O k).kind = kd) (h0 : kd ≠ 0 := by decide) : ∀ F w, (ak (aQ O L)).h F w → w.cell? ⟨L.b k, 6, none⟩ = some (.int .i64 (obj O k).links) := bq (by rw [h]; exact h0) rfl
theorem iP (L : HL) (h : (obj O k).kind = kd) (h0 : kd ≠ 0 := by decide) : ∀ F w, (ak (aQ O L)).h F w → w.cell? ⟨L.b k, 7, none⟩ = some (.int .i64 (obj O k).opens) := bq (by rw [h]; exact h0) rfl
theorem kT (L : HL) (h : (obj O k).kind = kd) (h0 : kd ≠ 0 := by decide) : ∀ F w, (ak (aQ O L)).h F w → w.cell? ⟨L.b k, 8, none⟩ = some (.bool (obj O k).gone) := bq (by rw [h]; exact h0) rfl
theorem LH (L : HL) (h : (obj O k).kind = 1) : ∀ F w, (ak (aQ O L)).h F w → w.cell? ⟨L.b k, 9, none⟩ = some (.slice (L.dA k) (obj O k).data.length (L.dC k)) := bq (by rw [h]; decide) (by rw [eE h]; rfl)
theorem bC (L : HL) (h : (obj O k).kind = 2) : ∀ F w, (ak (aQ O L)).h F w → w.cell? ⟨L.b k, 9, none⟩ = some (.map (some (L.m k))) := bq (by rw [h]; decide) (by rw [gV h]; rfl)
theorem Ow (L : HL) (h : (obj O k).kind = 2) : ∀ F w, (ak (aQ O L)).h F w → w.cell? ⟨L.b k, 10, none⟩ = some (qt L (obj O k).up) := bq (by rw [h]; decide) (by rw [gV h]; rfl)
theorem Na (L : HL) (h : (obj O k).kind = 3) : ∀ F w, (ak (aQ O L)).h F w → w.cell? ⟨L.b k, 9, none⟩ = some (.string (obj O k).target) := bq (by rw [h]; decide) (by rw [tO h]; rfl)
end
end
section
open Go.RowKit Go.Maps
theorem ak.step {R R' : Nat → bR} {k : Nat} {F : Fp} {w w' : World} (hF : (ak R).h F w) (hR : ∀ x, x ≠ k → R' x = R x) (hs : ∀ G, (R k).h G w → ∃ G', (R' k).h G' w' ∧ Step G w G' w') : ∃ F', (ak R').h F' w' ∧ Step F w F' w' := by
  obtain ⟨φ, h1, h2, h3⟩ := hF
  obtain ⟨G', g1, st⟩ := hs _ (h1 k)
  have hap : ∀ i, i ≠ k → ∀ x, G' x → φ i x → False := fun i hne x hx hy => by
    rcases st.grow x hx with e | e
    ·exact h2 i k hne x hy e
    have := (R i).lt (h1 i) x hy; omega
  refine ⟨fun x => ∃ i, (if i = k then G' else φ i) x, ⟨fun i => if i = k then G' else φ i, fun i => ?_, fun i j hne x hx hy => ?_, fun x => Iff.rfl⟩, ⟨st.keeps.mono (fun x _ hx => (h3 x).2 ⟨k, hx⟩), fun x ⟨i, hx⟩ => ?_⟩⟩
  ·by_cases e : i = k
   ·subst e; simp only [if_true]; exact g1
   simp only [e, if_false]
   rw [hR i e]
   exact (R i).st (h1 i) st.keeps (fun x hx hk => h2 i k e x hx hk)
  ·by_cases e1 : i = k
   ·have e2 : j ≠ k := fun e => hne (e1.trans e.symm)
    simp only [e1, if_true] at hx
    simp only [e2, if_false] at hy
    exact hap j e2 x hx hy
   simp only [e1, if_false] at hx
   by_cases e2 : j = k
   ·simp only [e2, if_true] at hy
    exact hap i e1 x hy hx
   simp only [e2, if_false] at hy
   exact h2 i j hne x hx hy
  by_cases e : i = k
  ·simp only [e, if_true] at hx
   rcases st.grow x hx with h | h
   ·exact .inl ((h3 x).2 ⟨k, h⟩)
   exact .inr h
  simp only [e, if_false] at hx
  exact .inl ((h3 x).2 ⟨i, hx⟩)
def zi (O : bM) (L : HL) : Nat → HP
  | 0 => .abs (ak (aQ O L))
  | 1 => .abs (ak (bh O L))
  | _ => .abs (ak (aW O L))
def ng (O : bM) (L : HL) : List (Nat × Nat) → List (Nat × HP)
  | [] => []
  | q :: r => (q.1, zi O L q.2) :: ng O L r
def qB (hps : List HP) (O : bM) (L : HL) : List (Nat × Nat) → Prop
  | [] => True
  | q :: r => hps[q.1]? = some (zi O L q.2) ∧ qB hps O L r
theorem rH {hps : List HP} {O O2 : bM} {L : HL} {p : Nat} (he : ∀ q, q ≠ p → zi O2 L q = zi O L q) : ∀ {js : List (Nat × Nat)}, qB hps O L js → lV p (js.map (·.2)) = false → kH hps (ng O2 L js) = hps
  | [], _, _ => rfl
  | q :: r, h, hn => by
    have hq : q.2 ≠ p := fun e => by
      rw [show lV p ((q :: r).map (·.2)) = true from rE.2 (by simp [e])] at hn; cases hn
    have hr : lV p (r.map (·.2)) = false := by
      cases hb : lV p (r.map (·.2)) with
      | false => rfl
      | true => rw [show lV p ((q :: r).map (·.2)) = true from rE.2 (List.mem_cons_of_mem _ (rE.1 hb))] at hn; cases hn
    show kH (hps.set q.1 (zi O2 L q.2)) (ng O2 L r) = hps
    have e : hps.set q.1 (zi O2 L q.2) = hps := by
      rw [he _ hq]
      refine List.ext_getElem? (fun n => ?_)
      rw [List.getElem?_set]
      split
      ·rename_i e; subst e
       rw [h.1]; split
       ·rfl
       rename_i hlt; exact absurd (bA h.1) hlt
      rfl
    rw [e]
    exact rH he h.2 hr
def xX (P : Program) (N : Nat) (junk : Nat → Value) (ops : Array Oper) (fr : Fr) (k : Nat) : Option (Addr × Value) :=
  match dV N junk ops fr k with
  | some (.store T a y, _) => match (P.info? T).map (·.size) with
    | some 1 => match cD N fr junk a with
      | .pointer (some ad) => some (ad, cD N fr junk y)
      | _ => none
    | _ => none
  | _ => none
def xY (N : Nat) (junk : Nat → Value) (ops : Array Oper) (fr : Fr) (k : Nat) : Option (TypeId × Nat × Value) :=
  match dV N junk ops fr k with
  | some (.lookup t x ix false, _) => match cD N fr junk x with
    | .map (some b) => some (t, b, cD N fr junk ix)
    | _ => none
  | _ => none
def setAt (N : Nat) (junk : Nat → Value) (ops : Array Oper) (fr : Fr) (k : Nat) : Option (TypeId × Nat × Value × Value) :=
  match dV N junk ops fr k with
  | some (.mapUpdate t x ix y, _) => match cD N fr junk x with
    | .map (some b) => some (t, b, cD N fr junk ix, cD N fr junk y)
    | _ => none
  | _ => none
def EH (N : Nat) (junk : Nat → Value) (ops : Array Oper) (fr : Fr) (k : Nat) : Option (TypeId × TypeId × Nat × Value) :=
  match dV N junk ops fr k with
  | some (.call ⟨.builtin .delete, xs, ts⟩, _) => match xs.toList with
    | [x, ix] => match ts.toList with
      | [t, K] => match cD N fr junk x with
        | .map (some b) => some (t, K, b, cD N fr junk ix)
        | _ => none
      | _ => none
    | _ => none
  | _ => none
def Cm (L : HL) : Option Th → Value
  | none => .nilIface
  | some t => cG L t
section rules
variable {β : Bs} {N : Nat} {ops : Array Oper} {k x : Nat} {fr : Fr} {hps : List HP} {Q : Post} {O : bM} {L : HL} {name : ByteArray} {r : Option Th} {t : Th}
theorem rI {junk : Nat → Value} {op : Op} {d : Option Tmp} (h : dV N junk ops fr k = some (op, d)) : d = gG ops k := by
  obtain ⟨o, h1, _, _, h4⟩ := cV h
  unfold gG
  rw [h1, ← h4]
theorem Cn {P : Program} {junk : Nat → Value} {ad : Addr} {u : Value} (h : xX P N junk ops fr k = some (ad, u)) : ∃ T a y, dV N junk ops fr k = some (.store T a y, gG ops k) ∧ (P.info? T).map (·.size) = some 1 ∧ cD N fr junk a = .pointer (some ad) ∧ cD N fr junk y = u := by
  unfold xX at h
  repeat' split at h
  all_goals first | (cases h; done) | skip
  rename_i T a y d h0 _ h1 _ Pn h2
  cases h
  have := rI h0
  subst this
  exact ⟨T, a, y, h0, h1, h2, rfl⟩
theorem lZ {junk : Nat → Value} {T : TypeId} {b : Nat} {key : Value} (h : xY N junk ops fr k = some (T, b, key)) : ∃ a y, dV N junk ops fr k = some (.lookup T a y false, gG ops k) ∧ cD N fr junk a = .map (some b) ∧ cD N fr junk y = key := by
  unfold xY at h
  repeat' split at h
  all_goals first | (cases h; done) | skip
  rename_i T' a y d h0 _ b' h1
  cases h
  have := rI h0
  subst this
  exact ⟨a, y, h0, h1, rfl⟩
theorem IC {junk : Nat → Value} {T : TypeId} {b : Nat} {key u : Value} (h : setAt N junk ops fr k = some (T, b, key, u)) : ∃ a y z, dV N junk ops fr k = some (.mapUpdate T a y z, gG ops k) ∧ cD N fr junk a = .map (some b) ∧ cD N fr junk y = key ∧ cD N fr junk z = u := by
  unfold setAt at h
  repeat' split at h
  all_goals first | (cases h; done) | skip
  rename_i T' a y z d h0 _ b' h1
  cases h
  have := rI h0
  subst this
  exact ⟨a, y, z, h0, h1, rfl, rfl⟩
theorem Gn {P : Program} {T : TypeId} {a y : Operand} {o : Oper} {ev : Operand → Value} {w : World} {ad : Addr} {u v0 : Value} (ho : o.op = .store T a y) (hT : (P.info? T).map (·.size) = some 1) (ha : ev a = .pointer (some ad)) (hy : ev y = u) (hu : u.oneCell' = true) (hc : w.cell? ad = some v0) (hf : w.frozen? ad = false) (hs : ad.spot = none) : lJ P ev o w undef (w.setCell ad u) := by
  obtain ⟨inf, hi, hsz⟩ : ∃ inf, P.info? T = some inf ∧ inf.size = 1 := by
    cases h : P.info? T with
    | none => rw [h] at hT; cases hT
    | some inf => rw [h] at hT; exact ⟨inf, rfl, by simpa using hT⟩
  have h3 := lK hi w
  rw [hsz] at h3
  obtain ⟨dst, op, type, pos, after, guard⟩ := o
  obtain ⟨bk, off, spot⟩ := ad
  simp only at hs
  subst hs
  cases ho
  refine .inr ⟨rfl, ?_⟩
  cases u <;> first
    | (simp [Value.oneCell'] at hu; done)
    | (simp only [execOp, ha, hy]; simp [go_sem, Instr.storeAt, Instr.sureAddr, storeVar, h3, Value.cells, storeCells, store, Addr.add, Sem.run, hc, hf])
theorem NA (i : Nat) (js : List (Nat × Nat)) (x j : Nat) (f : aS → aS) (u : Value) {kd : Int} (hk : (obj O x).kind = kd)
    (K : ∀ O2, O2 = aB O x f → ai Tryz.prog β N ops (k + 1) (cJ fr (gG ops k) undef) ((kH hps (ng O2 L js)).set i (.abs (ak (aQ O2 L)))) Q)
    (hp : hps[i]? = some (.abs (ak (aQ O L)))) (hj : qB hps O L js)
    (ho : ∀ junk, xX Tryz.prog N junk ops fr k = some (⟨L.b x, j, none⟩, u))
    (hn : lV 0 (js.map (·.2)) = false) (h0 : kd ≠ 0) (hc : eY L x (f (obj O x)) = (eY L x (obj O x)).set j u) (hu : u.oneCell' = true) (h9 : j < (eY L x (obj O x)).length)
    (he : (f (obj O x)).ah = (obj O x).ah) (hd : (f (obj O x)).data = (obj O x).data) (xZ : (f (obj O x)).kind = (obj O x).kind) : ai Tryz.prog β N ops k fr hps Q := by
  obtain ⟨T, a, y, h1, h2, h3, h4⟩ := Cn (ho (fun _ => undef))
  intro junk w hS
  obtain ⟨T, a, y, h1, h2, h3, h4⟩ := Cn (ho junk)
  obtain ⟨o, g1, g2, g3, g4⟩ := cV h1
  have hx0 : (obj O x).kind ≠ 0 := by rw [hk]; exact h0
  have Co : kH hps (ng (aB O x f) L js) = hps := rH (p := 0) (fun q hq => by
    match q, hq with
    | 0, hq => exact absurd rfl hq
    | 1, _ => exact congrArg (fun R => HP.abs (ak R)) (kF he xZ)
    | q + 2, _ => exact congrArg (fun R => HP.abs (ak R)) (kE hd xZ)) hj hn
  have hcell : ∃ v0, (eY L x (obj O x))[j]? = some v0 := ig h9
  obtain ⟨v0, hv0⟩ := hcell
  obtain ⟨F, hF⟩ := hS.get hp
  obtain ⟨G, hG⟩ := ak.at x hF
  have NC := hG
  rw [jD hx0] at NC
  obtain ⟨hb, _⟩ := NC
  obtain ⟨c1, c2⟩ := fq (a := ⟨L.b x, j, none⟩) hb rfl rfl hv0
  have ox : Sat β (hps.set i (.abs (ak (aQ (aB O x f) L)))) (w.setCell ⟨L.b x, j, none⟩ (u)) := hS.set hp (fun F hF => ak.step (k := x) (show (ak (aQ O L)).h F w from hF) (fun y hy => rA hy) (fun G hG => by
    rw [jD hx0] at hG
    rw [rz, if_neg (by rw [xZ]; exact hx0), hc, xZ]
    exact o6 hG rfl rfl))
  rw [drop_cons g1]
  unfold wpList
  rw [dP, if_pos g2]
  refine .inl (iT (v := undef) (w' := w.setCell ⟨L.b x, j, none⟩ (u)) (by rw [dw]; exact Gn g3 h2 h3 h4 hu c1 c2 rfl) ?_)
  rw [di]
  have hK := K _ rfl junk _ (by rw [Co]; exact ox)
  rw [← g4] at hK
  exact hK
theorem pR (i : Nat) (js : List (Nat × Nat)) (x j : Nat) (f : aS → aS) {kd : Int} (hk : (obj O x).kind = kd)
    (K : ∀ O2, O2 = aB O x f → ai Tryz.prog β N ops (k + 1) (cJ fr (gG ops k) undef) ((kH hps (ng O2 L js)).set i (.abs (ak (aQ O2 L)))) Q)
    (hp : hps[i]? = some (.abs (ak (aQ O L))) := by rfl) (hj : qB hps O L js := by first | exact ⟨rfl, trivial⟩ | exact ⟨rfl, rfl, trivial⟩ | exact trivial)
    (ho : ∀ junk, xX Tryz.prog N junk ops fr k = some (⟨L.b x, j, none⟩, (uP (f (obj O x))).getD j undef) := by intro _; kernel_rfl)
    (hn : lV 0 (js.map (·.2)) = false := by rfl) (h0 : kd ≠ 0 := by decide) (hc : eY L x (f (obj O x)) = (eY L x (obj O x)).set j ((uP (f (obj O x))).getD j undef) := by rfl) (hu : ((uP (f (obj O x))).getD j undef).oneCell' = true := by rfl) (h9 : Nat.blt j 9 = true := by rfl)
    (he : (f (obj O x)).ah = (obj O x).ah := by rfl) (hd : (f (obj O x)).data = (obj O x).data := by rfl) (xZ : (f (obj O x)).kind = (obj O x).kind := by rfl) : ai Tryz.prog β N ops k fr hps Q :=
  NA i js x j f _ hk K hp hj ho hn h0 hc hu (Nat.lt_of_lt_of_le (show j < 9 by simpa [Nat.blt_eq] using h9) (by unfold eY uP; simp)) he hd xZ
theorem ND (i : Nat) (js : List (Nat × Nat)) (x : Nat) (y : Option Nat) (hk : (obj O x).kind = 2)
    (K : ∀ O2, O2 = aB O x (fun o => { o with up := y }) → ai Tryz.prog β N ops (k + 1) (cJ fr (gG ops k) undef) ((kH hps (ng O2 L js)).set i (.abs (ak (aQ O2 L)))) Q)
    (hp : hps[i]? = some (.abs (ak (aQ O L))) := by rfl) (hj : qB hps O L js := by first | exact ⟨rfl, trivial⟩ | exact ⟨rfl, rfl, trivial⟩ | exact trivial)
    (ho : ∀ junk, xX Tryz.prog N junk ops fr k = some (⟨L.b x, 10, none⟩, qt L y) := by intro _; kernel_rfl) (hn : lV 0 (js.map (·.2)) = false := by rfl) : ai Tryz.prog β N ops k fr hps Q :=
  NA i js x 10 (fun o => { o with up := y }) (qt L y) hk K hp hj ho hn (by decide) (by rw [gV (show ({ obj O x with up := y } : aS).kind = 2 from hk), gV hk]; rfl) (by cases y <;> rfl) (by rw [gV hk]; exact Nat.lt_succ_self 10) rfl rfl rfl
theorem Sat.JC {w : World} {i j : Nat} {f : aS → aS} {u : Value} (hS : Sat β hps w) (hp : hps[i]? = some (.abs (ak (aQ O L)))) (hx0 : (obj O x).kind ≠ 0) (hc : eY L x (f (obj O x)) = (eY L x (obj O x)).set j u) (xZ : (f (obj O x)).kind = (obj O x).kind) (h9 : j < (eY L x (obj O x)).length) :
    Sat β (hps.set i (.abs (ak (aQ (aB O x f) L)))) (w.setCell ⟨L.b x, j, none⟩ u) ∧ (∃ v0, w.cell? ⟨L.b x, j, none⟩ = some v0) ∧ w.frozen? ⟨L.b x, j, none⟩ = false := by
  obtain ⟨v0, hv0⟩ := ig h9
  obtain ⟨F, hF⟩ := hS.get hp
  obtain ⟨G, hG⟩ := ak.at x (show (ak (aQ O L)).h F w from hF)
  rw [jD hx0] at hG
  obtain ⟨c1, c2⟩ := fq (a := ⟨L.b x, j, none⟩) hG.1 rfl rfl hv0
  refine ⟨hS.set hp (fun F hF => ak.step (k := x) (show (ak (aQ O L)).h F w from hF) (fun y hy => rA hy) (fun G hG => ?_)), ⟨v0, c1⟩, c2⟩
  rw [jD hx0] at hG
  rw [rz, if_neg (by rw [xZ]; exact hx0), hc, xZ]
  exact o6 hG rfl rfl
def Cp (P : Program) (N : Nat) (junk : Nat → Value) (ops : Array Oper) (fr : Fr) (k : Nat) : Option (Addr × Value) :=
  match dV N junk ops fr k with
  | some (.store T a y, _) => match (P.info? T).map (·.size) with
    | some 2 => match cD N fr junk a with
      | .pointer (some ad) => some (ad, cD N fr junk y)
      | _ => none
    | _ => none
  | _ => none
theorem Gp {P : Program} {junk : Nat → Value} {ad : Addr} {u : Value} (h : Cp P N junk ops fr k = some (ad, u)) : ∃ T a y, dV N junk ops fr k = some (.store T a y, gG ops k) ∧ (P.info? T).map (·.size) = some 2 ∧ cD N fr junk a = .pointer (some ad) ∧ cD N fr junk y = u := by
  unfold Cp at h
  repeat' split at h
  all_goals first | (cases h; done) | skip
  rename_i T a y d h0 _ h1 _ Pn h2
  cases h
  have := rI h0
  subst this
  exact ⟨T, a, y, h0, h1, h2, rfl⟩
theorem EI {P : Program} {T : TypeId} {a y : Operand} {o : Oper} {ev : Operand → Value} {w : World} {b j : Nat} {z1 z2 : Int} {v0 v1 : Value} (ho : o.op = .store T a y) (hT : (P.info? T).map (·.size) = some 2) (ha : ev a = .pointer (some ⟨b, j, none⟩)) (hy : ev y = .agg #[.int .i64 z1, .int .i64 z2])
    (hc : w.cell? ⟨b, j, none⟩ = some v0) (hf : w.frozen? ⟨b, j, none⟩ = false) (hc1 : (w.setCell ⟨b, j, none⟩ (.int .i64 z1)).cell? ⟨b, j + 1, none⟩ = some v1) (hf1 : (w.setCell ⟨b, j, none⟩ (.int .i64 z1)).frozen? ⟨b, j + 1, none⟩ = false) :
    lJ P ev o w undef ((w.setCell ⟨b, j, none⟩ (.int .i64 z1)).setCell ⟨b, j + 1, none⟩ (.int .i64 z2)) := by
  obtain ⟨inf, hi, hsz⟩ : ∃ inf, P.info? T = some inf ∧ inf.size = 2 := by
    cases h : P.info? T with
    | none => rw [h] at hT; cases hT
    | some inf => rw [h] at hT; exact ⟨inf, rfl, by simpa using hT⟩
  have h3 := lK hi w
  rw [hsz] at h3
  obtain ⟨dst, op, type, pos, after, guard⟩ := o
  cases ho
  refine .inr ⟨rfl, ?_⟩
  simp only [execOp, ha, hy]
  simp [go_sem, Instr.storeAt, Instr.sureAddr, storeVar, h3, Value.cells, storeCells, store, Addr.add, Sem.run, hc, hf, hc1, hf1]
theorem Gq (i : Nat) (js : List (Nat × Nat)) (x : Nat) (z1 z2 : Int) {kd : Int} (hk : (obj O x).kind = kd)
    (K : ∀ O2, O2 = aB O x (fun o => { o with sec := z1, nano := z2 }) → ai Tryz.prog β N ops (k + 1) (cJ fr (gG ops k) undef) ((kH hps (ng O2 L js)).set i (.abs (ak (aQ O2 L)))) Q)
    (hp : hps[i]? = some (.abs (ak (aQ O L))) := by rfl) (hj : qB hps O L js := by first | exact ⟨rfl, trivial⟩ | exact ⟨rfl, rfl, trivial⟩ | exact trivial)
    (ho : ∀ junk, Cp Tryz.prog N junk ops fr k = some (⟨L.b x, 4, none⟩, .agg #[.int .i64 z1, .int .i64 z2]) := by intro _; kernel_rfl)
    (hn : lV 0 (js.map (·.2)) = false := by rfl) (h0 : kd ≠ 0 := by decide) : ai Tryz.prog β N ops k fr hps Q := by
  intro junk w hS
  obtain ⟨T, a, y, h1, h2, h3, h4⟩ := Gp (ho junk)
  obtain ⟨o, g1, g2, g3, g4⟩ := cV h1
  have hx0 : (obj O x).kind ≠ 0 := by rw [hk]; exact h0
  have Co : kH hps (ng (aB O x (fun o => { o with sec := z1, nano := z2 })) L js) = hps := rH (p := 0) (fun q hq => by
    match q, hq with
    | 0, hq => exact absurd rfl hq
    | 1, _ => exact congrArg (fun R => HP.abs (ak R)) (kF rfl rfl)
    | q + 2, _ => exact congrArg (fun R => HP.abs (ak R)) (kE rfl rfl)) hj hn
  have hlen : ∀ o : aS, 9 ≤ (eY L x o).length := fun o => by unfold eY uP; simp
  obtain ⟨s1, ⟨v0, c1⟩, f1⟩ := hS.JC (x := x) (j := 4) (f := fun o => { o with sec := z1 }) (u := .int .i64 z1) hp hx0 rfl rfl (by have := hlen (obj O x); omega)
  have hi : i < hps.length := bA hp
  have e1 : obj (aB O x (fun o => { o with sec := z1 })) x = { obj O x with sec := z1 } := bH
  obtain ⟨s2, ⟨v1, c2⟩, f2⟩ := s1.JC (x := x) (j := 5) (f := fun o => { o with nano := z2 }) (u := .int .i64 z2) (i := i) (O := aB O x (fun o => { o with sec := z1 })) (by rw [List.getElem?_set, if_pos rfl, if_pos hi]) (by rw [e1]; exact hx0) rfl rfl (by have := hlen (obj (aB O x (fun o => { o with sec := z1 })) x); omega)
  rw [List.set_set, qp] at s2
  rw [drop_cons g1]
  unfold wpList
  rw [dP, if_pos g2]
  refine .inl (iT (v := undef) (w' := _) (by rw [dw]; exact EI g3 h2 h3 h4 c1 f1 c2 f2) ?_)
  rw [di]
  have hK := K _ rfl junk _ (by rw [Co]; exact s2)
  rw [← g4] at hK
  exact hK
theorem uY {w : World} {i : Nat} (hS : Sat β hps w) (hp : hps[i]? = some (.abs (ak (bh O L)))) (hd : (obj O x).kind = 2) : dW Tryz.prog 9 w (L.m x) (fX L (obj O x).ah) (obj O x).ah.length := by
  obtain ⟨F, hF⟩ := hS.get hp
  obtain ⟨G, hG⟩ := ak.at x (show (ak (bh O L)).h F w from hF)
  rw [lT hd] at hG
  exact hG.1
theorem DT {w : World} {i : Nat} {o : Oper} {ev : Operand → Value} {a y : Operand} (hS : Sat β hps w) (hp : hps[i]? = some (.abs (ak (bh O L)))) (hd : (obj O x).kind = 2) (hl : aU name (obj O x).ah = r) (h3 : o.op = .lookup 97 a y false) (ha : ev a = .map (some (L.m x))) (hy : ev y = .string name) (hsz : name.size ≤ 1048576) : lJ Tryz.prog ev o w (Cm L r) w := by
  have h := rQ (z := .nilIface) h3 (uY hS hp hd) ha hy v7 Tryz.underlying97 (by kernel_rfl) (yU (by omega))
  rw [oY, hl] at h
  cases r <;> exact h
theorem fR (i : Nat) (hd : (obj O x).kind = 2) (hl : aU name (obj O x).ah = r) (K : ai Tryz.prog β N ops (k + 1) (cJ fr (gG ops k) (Cm L r)) hps Q) (hp : hps[i]? = some (.abs (ak (bh O L))) := by rfl)
    (ho : ∀ junk, xY N junk ops fr k = some (97, L.m x, .string name) := by intro _; kernel_rfl) (hsz : name.size ≤ 1048576 := by omega) : ai Tryz.prog β N ops k fr hps Q := by
  intro junk w hS
  obtain ⟨a, y, h1, h2, h3⟩ := lZ (ho junk)
  exact ai.ia (aL := hps) (v := Cm L r) (d := gG ops k) (op := .lookup 97 a y false) (fun j => by
    obtain ⟨a', y', h1', _, _⟩ := lZ (ho j)
    obtain ⟨o, g1, g2, g3, g4⟩ := cV h1
    obtain ⟨o', nU, Gr, pS, Gs⟩ := cV h1'
    rw [g1] at nU
    cases nU
    rw [g3] at pS
    cases pS
    exact h1') (fun o junk w ho' hS => by
    obtain ⟨a', y', h1', h2', h3'⟩ := lZ (ho junk)
    obtain ⟨o1, g1, g2, g3, g4⟩ := cV h1
    obtain ⟨o', nU, Gr, pS, Gs⟩ := cV h1'
    rw [g1] at nU
    cases nU
    rw [g3] at pS
    cases pS
    exact ⟨w, DT hS hp hd hl ho' h2' h3' hsz, hS⟩) K junk w hS
theorem oz (i : Nat) (hd : (obj O x).kind = 2) (hl : aU name (obj O x).ah = r) (K : aR Tryz.prog β N ops (k + 1) (cJ fr (gG ops k) (Cm L r)) hps Q) (hp : hps[i]? = some (.abs (ak (bh O L))) := by rfl)
    (ho : ∀ junk, xY N junk ops fr k = some (97, L.m x, .string name) := by intro _; kernel_rfl) (hsz : name.size ≤ 1048576 := by omega) : aR Tryz.prog β N ops k fr hps Q := by
  intro junk
  obtain ⟨a, y, h1, h2, h3⟩ := lZ (ho junk)
  exact aR.ia (v := Cm L r) (d := gG ops k) (op := .lookup 97 a y false) (fun j => by
    obtain ⟨a', y', h1', _, _⟩ := lZ (ho j)
    obtain ⟨o, g1, g2, g3, g4⟩ := cV h1
    obtain ⟨o', nU, Gr, pS, Gs⟩ := cV h1'
    rw [g1] at nU
    cases nU
    rw [g3] at pS
    cases pS
    exact h1') (fun o junk w ho' hS => by
    obtain ⟨a', y', h1', h2', h3'⟩ := lZ (ho junk)
    obtain ⟨o1, g1, g2, g3, g4⟩ := cV h1
    obtain ⟨o', nU, Gr, pS, Gs⟩ := cV h1'
    rw [g1] at nU
    cases nU
    rw [g3] at pS
    cases pS
    exact DT hS hp hd hl ho' h2' h3' hsz) K junk
def EJ (N : Nat) (junk : Nat → Value) (ops : Array Oper) (fr : Fr) (k : Nat) : Option (TypeId × Nat) :=
  match dV N junk ops fr k with
  | some (.call ⟨.builtin .len, xs, ts⟩, _) => match xs.toList with
    | [x] => match ts.toList with
      | [t] => match cD N fr junk x with
        | .map (some b) => some (t, b)
        | _ => none
      | _ => none
    | _ => none
  | _ => none
theorem wA {junk : Nat → Value} {T : TypeId} {b : Nat} (h : EJ N junk ops fr k = some (T, b)) : ∃ a, dV N junk ops fr k = some (.call ⟨.builtin .len, #[a], #[T]⟩, gG ops k) ∧ cD N fr junk a = .map (some b) := by
  unfold EJ at h
  repeat' split at h
  all_goals first | (cases h; done) | skip
  rename_i xs ts d h0 _ a h1 _ t' h2 _ b' h3
  cases h
  have := rI h0
  subst this
  refine ⟨a, ?_, h3⟩
  rw [h0]
  obtain ⟨xs⟩ := xs
  obtain ⟨ts⟩ := ts
  cases h1
  cases h2
  rfl
theorem Po (i : Nat) (hd : (obj O x).kind = 2) (K : ai Tryz.prog β N ops (k + 1) (cJ fr (gG ops k) (.int .i64 (((obj O x).ah.length : Nat) : Int))) hps Q) (hp : hps[i]? = some (.abs (ak (bh O L))) := by rfl)
    (ho : ∀ junk, EJ N junk ops fr k = some (97, L.m x) := by intro _; kernel_rfl) : ai Tryz.prog β N ops k fr hps Q := by
  obtain ⟨a, h1, h2⟩ := wA (ho (fun _ => undef))
  obtain ⟨o, g1, g2, g3, g4⟩ := cV h1
  refine ai.ia (aL := hps) (v := .int .i64 (((obj O x).ah.length : Nat) : Int)) (d := gG ops k) (op := o.op) (fun j => ?_) (fun o' junk w ho' hS => ?_) K
  ·obtain ⟨a', h1', _⟩ := wA (ho j)
   obtain ⟨o', nU, Gr, pS, Gs⟩ := cV h1'
   rw [g1] at nU
   cases nU
   rw [pS]
   exact h1'
  obtain ⟨a', h1', h2'⟩ := wA (ho junk)
  obtain ⟨o1, nU, Gr, pS, Gs⟩ := cV h1'
  rw [g1] at nU
  cases nU
  exact ⟨w, uL (ho'.trans pS) rfl (uY hS hp hd) h2' Tryz.underlying97, hS⟩
theorem LI (i : Nat) (js : List (Nat × Nat)) {t : Th} (hd : (obj O x).kind = 2) (hno : aU name (obj O x).ah = none)
    (K : ∀ O2, O2 = aB O x (fun o => { o with ah := eH name t o.ah }) → ai Tryz.prog β N ops (k + 1) (cJ fr (gG ops k) undef) ((kH hps (ng O2 L js)).set i (.abs (ak (bh O2 L)))) Q)
    (hp : hps[i]? = some (.abs (ak (bh O L))) := by rfl) (hj : qB hps O L js := by first | exact ⟨rfl, trivial⟩ | exact ⟨rfl, rfl, trivial⟩ | exact trivial)
    (ho : ∀ junk, setAt N junk ops fr k = some (97, L.m x, .string name, cG L t) := by intro _; kernel_rfl) (hn : lV 1 (js.map (·.2)) = false := by rfl) (hsz : name.size ≤ 1048576 := by omega) (hel : (obj O x).ah.length ≤ 1048576 := by omega) : ai Tryz.prog β N ops k fr hps Q := by
  intro junk w hS
  obtain ⟨a, y, z, h1, h2, h3, h4⟩ := IC (ho junk)
  obtain ⟨o, g1, g2, g3, g4⟩ := cV h1
  have Co : kH hps (ng (aB O x (fun o => { o with ah := eH name t o.ah })) L js) = hps := rH (p := 1) (fun q hq => by
    match q, hq with
    | 0, _ => exact congrArg (fun R => HP.abs (ak R)) (BO (es := fun o => eH name t o.ah))
    | 1, hq => exact absurd rfl hq
    | q + 2, _ => exact congrArg (fun R => HP.abs (ak R)) (kE rfl rfl)) hj hn
  obtain ⟨w', m1, m2, m3⟩ := (uY hS hp hd).store v7 Tryz.underlying97 (by unfold maxLen; omega) (yU (p := name) (by omega)) (cG L t)
  have e1 : (fX L (obj O x).ah) (.string name.data.toList) = none := by rw [oY, hno]; rfl
  rw [e1, HE hno] at m2
  have ox : Sat β (hps.set i (.abs (ak (bh (aB O x (fun o => { o with ah := eH name t o.ah })) L)))) w' := hS.set hp (fun F hF => ak.step (k := x) (show (ak (bh O L)).h F w from hF) (fun y hy => tM hy) (fun G hG => by
    rw [lT hd] at hG
    rw [lT (by rw [bH]; exact hd), bH, BL]
    exact step_map hG m2 m3))
  rw [drop_cons g1]
  unfold wpList
  rw [dP, if_pos g2]
  refine .inl (iT (v := undef) (w' := w') (by
    rw [dw]
    refine .inr ⟨rfl, ?_⟩
    obtain ⟨dst, op, type, pos, after, guard⟩ := o
    cases g3
    simp only [execOp, h2, h3, h4]
    simp [go_sem, m1]) ?_)
  rw [di]
  have hK := K _ rfl junk _ (by rw [Co]; exact ox)
  rw [← g4] at hK
  exact hK
theorem IE {junk : Nat → Value} {T K0 : TypeId} {b : Nat} {key : Value} (h : EH N junk ops fr k = some (T, K0, b, key)) : ∃ a y, dV N junk ops fr k = some (.call ⟨.builtin .delete, #[a, y], #[T, K0]⟩, gG ops k) ∧ cD N fr junk a = .map (some b) ∧ cD N fr junk y = key := by
  unfold EH at h
  repeat' split at h
  all_goals first | (cases h; done) | skip
  rename_i xs ts d h0 _ a y h1 _ t' K' h2 _ b' h3
  cases h
  have := rI h0
  subst this
  refine ⟨a, y, ?_, h3, rfl⟩
  rw [h0]
  obtain ⟨xs⟩ := xs
  obtain ⟨ts⟩ := ts
  cases h1
  cases h2
  rfl
theorem LJ (i : Nat) (js : List (Nat × Nat)) {t : Th} (hd : (obj O x).kind = 2) (sA : aU name (obj O x).ah = some t) (hnt : lS (obj O x).ah)
    (K : ∀ O2, O2 = aB O x (fun o => { o with ah := eX name o.ah }) → ai Tryz.prog β N ops (k + 1) (cJ fr (gG ops k) (.tuple #[])) ((kH hps (ng O2 L js)).set i (.abs (ak (bh O2 L)))) Q)
    (hp : hps[i]? = some (.abs (ak (bh O L))) := by rfl) (hj : qB hps O L js := by first | exact ⟨rfl, trivial⟩ | exact ⟨rfl, rfl, trivial⟩ | exact trivial)
    (ho : ∀ junk, EH N junk ops fr k = some (97, 9, L.m x, .string name) := by intro _; kernel_rfl) (hn : lV 1 (js.map (·.2)) = false := by rfl) (hsz : name.size ≤ 1048576 := by omega) : ai Tryz.prog β N ops k fr hps Q := by
  intro junk w hS
  obtain ⟨a, y, h1, h2, h3⟩ := IE (ho junk)
  obtain ⟨o, g1, g2, g3, g4⟩ := cV h1
  have Co : kH hps (ng (aB O x (fun o => { o with ah := eX name o.ah })) L js) = hps := rH (p := 1) (fun q hq => by
    match q, hq with
    | 0, _ => exact congrArg (fun R => HP.abs (ak R)) (BO (es := fun o => eX name o.ah))
    | 1, hq => exact absurd rfl hq
    | q + 2, _ => exact congrArg (fun R => HP.abs (ak R)) (kE rfl rfl)) hj hn
  obtain ⟨w', m1, m2, m3⟩ := (uY hS hp hd).drop v7 Tryz.underlying97 (yU (p := name) (by omega)) o.type
  have e1 : (fX L (obj O x).ah) (.string name.data.toList) = some (cG L t) := by rw [oY, sA]; rfl
  rw [e1, HF] at m2
  have hlen := Hz hnt sA
  have ox : Sat β (hps.set i (.abs (ak (bh (aB O x (fun o => { o with ah := eX name o.ah })) L)))) w' := hS.set hp (fun F hF => ak.step (k := x) (show (ak (bh O L)).h F w from hF) (fun y hy => tM hy) (fun G hG => by
    rw [lT hd] at hG
    rw [lT (by rw [bH]; exact hd), bH]
    rw [show (eX name (obj O x).ah).length = (obj O x).ah.length - 1 by omega]
    exact step_map hG m2 m3))
  rw [drop_cons g1]
  unfold wpList
  rw [dP, if_pos g2]
  refine .inl (iT (v := .tuple #[]) (w' := w') (by
    rw [dw]
    refine .inl ?_
    obtain ⟨dst, op, type, pos, after, guard⟩ := o
    cases g3
    simp only [execOp, resolve, invoke, builtin]
    simp [go_sem, h2, h3, m1]) ?_)
  rw [di]
  have hK := K _ rfl junk _ (by rw [Co]; exact ox)
  rw [← g4] at hK
  exact hK
end rules
section after
variable {O O2 : bM} {j x : Nat} {f : aS → aS} {kd : Int}
theorem ku (e : O2 = aB O j f) (h : (obj O x).kind = kd) (hf : ∀ o, (f o).kind = o.kind := by intro _; rfl) : (obj O2 x).kind = kd := by subst e; exact (iC hf).trans h
theorem fu {α : Type} (g : aS → α) {v : α} (e : O2 = aB O j f) (h : g (obj O x) = v) (hf : ∀ o, g (f o) = g o := by intro _; rfl) : g (obj O2 x) = v := by subst e; exact (cM hf).trans h
end after
end
section
open Go.RowKit Go.Maps
attribute [local irreducible] ai aR af aj
theorem cq {β : Bs} (b : Nat) : Spec Tryz.prog β 224 #[vP b] [] (fun v l => v = vP b ∧ l = []) := by
 refine Spec.enter Tryz.func224 rfl Tryz.ntmps224 (Nat.le_of_ble_eq_true rfl) (fun R => ?_)
 refine SR ?_
 refine gK 1 [] [] ?_
 refine NS ?_
 refine gK 2 [(2, vP b)] [] ?_
 refine NN (af.ret ?_)
 exact RT (vP b) [0] (⟨rfl, rfl⟩)
theorem jH {β : Bs} (a : Value) : Spec Tryz.prog β 223 #[a] [] (fun v l => v = vI 1 ∧ l = []) := by
 refine Spec.enter Tryz.func223 rfl Tryz.ntmps223 (Nat.le_of_ble_eq_true rfl) (fun R => ?_)
 refine SR ?_
 refine gK 1 [] [] ?_
 refine NS ?_
 refine gK 1 [(2, vI 1)] [] ?_
 refine NN (af.ret ?_)
 exact RT (vI 1) [0] (⟨rfl, rfl⟩)
theorem jI {β : Bs} (a : Value) : Spec Tryz.prog β 226 #[a] [] (fun v l => v = vI 2 ∧ l = []) := by
 refine Spec.enter Tryz.func226 rfl Tryz.ntmps226 (Nat.le_of_ble_eq_true rfl) (fun R => ?_)
 refine SR ?_
 refine gK 1 [] [] ?_
 refine NS ?_
 refine gK 1 [(2, vI 2)] [] ?_
 refine NN (af.ret ?_)
 exact RT (vI 2) [0] (⟨rfl, rfl⟩)
theorem kr {β : Bs} (a : Value) : Spec Tryz.prog β 225 #[a] [] (fun v l => v = vI 3 ∧ l = []) := by
 refine Spec.enter Tryz.func225 rfl Tryz.ntmps225 (Nat.le_of_ble_eq_true rfl) (fun R => ?_)
 refine SR ?_
 refine gK 1 [] [] ?_
 refine NS ?_
 refine gK 1 [(2, vI 3)] [] ?_
 refine NN (af.ret ?_)
 exact RT (vI 3) [0] (⟨rfl, rfl⟩)
theorem DU {β : Bs} (O : bM) (L : HL) (d : Nat) (hkd : (obj O d).kind = 2) (name : ByteArray) (hsz : name.size ≤ 1048576) (hno : aU name (obj O d).ah = none) (hel : (obj O d).ah.length ≤ 1048576) (t : Th) (hkt : (obj O t.k).kind = t.kind) (h3 : t.kind = 1 ∨ t.kind = 2 ∨ t.kind = 3) (hb : 0 ≤ (obj O t.k).links ∧ (obj O t.k).links ≤ 1048576) :
    Spec Tryz.prog β 36 #[vP (L.b d), .string name, (cG L t)] [.abs (ak (aQ O L)), .abs (ak (bh O L))] (fun v l => v = .tuple #[] ∧ l = [.abs (ak (aQ (mz O d name t) L)), .abs (ak (bh (mz O d name t) L))]) := by
 refine Spec.enter Tryz.func36 rfl Tryz.ntmps36 (Nat.le_of_ble_eq_true rfl) (fun R => ?_)
 refine af.seq ?_
 obtain ⟨tk, kd⟩ := t; simp only at hkt h3; rcases h3 with rfl | rfl | rfl
 ·replace hkt : (obj O tk).kind = 1 := hkt
  replace hb : 0 ≤ (obj O tk).links ∧ (obj O tk).links ≤ 1048576 := hb
  refine af.region ?_
  refine gK 6 [(11, .map (some (L.m d))), (12, .string name), (13, .iface 89 (vP (L.b tk)))] [(3, v_ 0 (bC L hkd))] ?_
  refine LI 1 [(0, 0)] (t := ⟨tk, 1⟩) hkd hno (fun bK bP => ?_)
  have iN := ku bP hkd
  have kx := ku bP hkt
  have hf3 : (obj bK tk).links = (obj O tk).links := fu aS.links bP rfl
  refine NS ?_
  refine gK 1 [(14, .iface 89 (vP (L.b tk)))] [] ?_
  refine gL [] (cq (L.b tk)) ?_
  rintro _ _ ⟨rfl, rfl⟩
  refine gK 6 [(19, vI ((obj bK tk).links + 1)), (21, .pointer (some ⟨(L.b tk), 6, none⟩))] [(2, v_ 0 (kL L kx)), (3, p_ ⟨[], none, none, none, some (vI ((obj bK tk).links + 1))⟩ [(Value.int .i64 (IntKind.wrap .i64 ((obj bK tk).links + 1))) = (vI ((obj bK tk).links + 1))] ⟨bJ (by omega) (by omega) (by omega), trivial⟩)] ?_
  refine pR 0 [(1, 1)] tk 6 (fun o => { o with links := o.links + 1 }) kx (fun cX cu => ?_)
  have ug := ku cu iN
  have uh := ku cu kx
  refine NS ?_
  refine gK 7 [(6, .pointer none), (7, .bool false)] [] ?_
  refine NS ?_
  refine gK 1 [(27, .bool false)] [] ?_
  refine NN ?_
  refine CF ?_
  refine af.skip ?_
  exact RF (l := [.abs (ak (aQ cX L)), .abs (ak (bh cX L))]) (.tuple #[]) [0, 1, 2] (⟨rfl, by subst cu; subst bP; rfl⟩)
 ·replace hkt : (obj O tk).kind = 2 := hkt
  replace hb : 0 ≤ (obj O tk).links ∧ (obj O tk).links ≤ 1048576 := hb
  refine af.region ?_
  refine gK 6 [(11, .map (some (L.m d))), (12, .string name), (13, .iface 96 (vP (L.b tk)))] [(3, v_ 0 (bC L hkd))] ?_
  refine LI 1 [(0, 0)] (t := ⟨tk, 2⟩) hkd hno (fun bK bP => ?_)
  have IG := ku bP hkd
  have EK := ku bP hkt
  have QC : (obj bK tk).links = (obj O tk).links := fu aS.links bP rfl
  refine NS ?_
  refine gK 1 [(14, .iface 96 (vP (L.b tk)))] [] ?_
  refine gL [] (cq (L.b tk)) ?_
  rintro _ _ ⟨rfl, rfl⟩
  refine gK 6 [(19, vI ((obj bK tk).links + 1)), (21, .pointer (some ⟨(L.b tk), 6, none⟩))] [(2, v_ 0 (kL L EK)), (3, p_ ⟨[], none, none, none, some (vI ((obj bK tk).links + 1))⟩ [(Value.int .i64 (IntKind.wrap .i64 ((obj bK tk).links + 1))) = (vI ((obj bK tk).links + 1))] ⟨bJ (by omega) (by omega) (by omega), trivial⟩)] ?_
  refine pR 0 [(1, 1)] tk 6 (fun o => { o with links := o.links + 1 }) EK (fun cX cu => ?_)
  have zj := ku cu IG
  have EL := ku cu EK
  refine NS ?_
  refine gK 7 [(6, vP (L.b tk)), (7, .bool true)] [] ?_
  refine NS ?_
  refine gK 1 [(27, .bool true)] [] ?_
  refine NN ?_
  refine CT ?_
  refine af.region ?_
  refine gK 4 [(29, vP (L.b d)), (31, .pointer (some ⟨(L.b tk), 10, none⟩))] [] ?_
  refine ND 0 [(1, 1)] tk (some d) EL (fun rJ jS => ?_)
  have JD := ku jS zj
  have P4 := ku jS EL
  refine NL ?_
  exact RF (l := [.abs (ak (aQ rJ L)), .abs (ak (bh rJ L))]) (.tuple #[]) [0, 1, 2] (⟨rfl, by subst jS; subst cu; subst bP; rfl⟩)
 replace hkt : (obj O tk).kind = 3 := hkt
 replace hb : 0 ≤ (obj O tk).links ∧ (obj O tk).links ≤ 1048576 := hb
 refine af.region ?_
 refine gK 6 [(11, .map (some (L.m d))), (12, .string name), (13, .iface 93 (vP (L.b tk)))] [(3, v_ 0 (bC L hkd))] ?_
 refine LI 1 [(0, 0)] (t := ⟨tk, 3⟩) hkd hno (fun bK bP => ?_)
 have Nb := ku bP hkd
 have EM := ku bP hkt
 have Qk : (obj bK tk).links = (obj O tk).links := fu aS.links bP rfl
 refine NS ?_
 refine gK 1 [(14, .iface 93 (vP (L.b tk)))] [] ?_
 refine gL [] (cq (L.b tk)) ?_
 rintro _ _ ⟨rfl, rfl⟩
 refine gK 6 [(19, vI ((obj bK tk).links + 1)), (21, .pointer (some ⟨(L.b tk), 6, none⟩))] [(2, v_ 0 (kL L EM)), (3, p_ ⟨[], none, none, none, some (vI ((obj bK tk).links + 1))⟩ [(Value.int .i64 (IntKind.wrap .i64 ((obj bK tk).links + 1))) = (vI ((obj bK tk).links + 1))] ⟨bJ (by omega) (by omega) (by omega), trivial⟩)] ?_
 refine pR 0 [(1, 1)] tk 6 (fun o => { o with links := o.links + 1 }) EM (fun cX cu => ?_)
 have x3 := ku cu Nb
 have Nc := ku cu EM
 refine NS ?_
 refine gK 7 [(6, .pointer none), (7, .bool false)] [] ?_
 refine NS ?_
 refine gK 1 [(27, .bool false)] [] ?_
 refine NN ?_
 refine CF ?_
 refine af.skip ?_
 exact RF (l := [.abs (ak (aQ cX L)), .abs (ak (bh cX L))]) (.tuple #[]) [0, 1, 2] (⟨rfl, by subst cu; subst bP; rfl⟩)
theorem fV {β : Bs} (X : FM) (f m t : Nat) (hX : 0 ≤ X.ah ∧ X.ah ≤ 1048576 ∧ -1125899906842624 ≤ X.used ∧ X.used ≤ 1125899906842624 ∧ 0 ≤ X.last ∧ X.last ≤ 1125899906842624) (O : bM) (L : HL) (d : Nat) (hkd : (obj O d).kind = 2) (name : ByteArray) (hsz : name.size ≤ 1048576) (hno : aU name (obj O d).ah = none) (hel : (obj O d).ah.length ≤ 1048576) (th : Th) (hkt : (obj O th.k).kind = th.kind) (h3 : th.kind = 1 ∨ th.kind = 2 ∨ th.kind = 3) (hb : 0 ≤ (obj O th.k).links ∧ (obj O th.k).links ≤ 1048576) :
    Spec Tryz.prog β 104 #[vP f, vP (L.b d), .string name, (cG L th)] [.blk f [vI (X.cN), vI (X.cB), vI (X.cH), vI (X.cS), vI (X.cZ), .map (some m), vP t, vI (X.last), vI (X.ah), vI (X.used)] 86, .abs (ak (aQ O L)), .abs (ak (bh O L))] (fun v l => v = .tuple #[] ∧ l = [.blk f [vI (X.cN), vI (X.cB), vI (X.cH), vI (X.cS), vI (X.cZ), .map (some m), vP t, vI (X.last), vI (X.ah + 1), vI (X.used)] 86, .abs (ak (aQ (br X O d name th) L)), .abs (ak (bh (br X O d name th) L))]) := by
 refine Spec.enter Tryz.func104 rfl Tryz.ntmps104 (Nat.le_of_ble_eq_true rfl) (fun R => ?_)
 refine af.seq ?_
 skip
 refine af.region ?_
 refine gK 3 [(8, vP (L.b d)), (9, .string name), (10, (cG L th))] [] ?_
 refine gL [1, 2] (DU O L d hkd name hsz hno hel th hkt h3 hb) ?_
 rintro _ _ ⟨rfl, rfl⟩
 refine NS ?_
 have x5 : (obj (mz O d name th) d).kind = 2 := (tP).trans (hkd)
 generalize bP : (mz O d name th) = bK at x5 ⊢
 refine gK 9 [(17, .agg #[vI (X.cS), vI (X.cZ)]), (20, .pointer (some ⟨(L.b d), 4, none⟩))] [(5, A_ 2 f 2)] ?_
 refine Gq 0 [(1, 1)] d X.cS X.cZ x5 (fun cX cu => ?_)
 have P5 := ku cu x5
 refine NN (af.region ?_)
 refine gC 8 [] [(3, a_ 2 f), (4, p_ ⟨[], none, none, none, some (vI (X.ah + 1))⟩ [(Value.int .i64 (IntKind.wrap .i64 (X.ah + 1))) = (vI (X.ah + 1))] ⟨bJ (by omega) (by omega) (by omega), trivial⟩), (7, a_ 2 f)] [(2, [(8, vI (X.ah + 1))])] ?_
 refine NL ?_
 exact RF (l := [.blk f [vI (X.cN), vI (X.cB), vI (X.cH), vI (X.cS), vI (X.cZ), .map (some m), vP t, vI (X.last), vI (X.ah + 1), vI (X.used)] 86, .abs (ak (aQ cX L)), .abs (ak (bh cX L))]) (.tuple #[]) [2, 0, 1, 3] (⟨rfl, by subst cu; subst bP; rfl⟩)
theorem iy {β : Bs} (X : FM) (f m t : Nat) (hX : 0 ≤ X.ah ∧ X.ah ≤ 1048576 ∧ -1125899906842624 ≤ X.used ∧ X.used ≤ 1125899906842624 ∧ 0 ≤ X.last ∧ X.last ≤ 1125899906842624) (O : bM) (L : HL) (d : Nat) (hkd : (obj O d).kind = 2) (name : ByteArray) (hsz : name.size ≤ 1048576) (th : Th) (hkt : (obj O th.k).kind = th.kind) (h3 : th.kind = 1 ∨ th.kind = 2 ∨ th.kind = 3) (sA : aU name (obj O d).ah = some th) (hnt : lS (obj O d).ah) (_ : (obj O d).ah.length ≤ 1048576) (hb : 0 ≤ (obj O th.k).links ∧ (obj O th.k).links ≤ 1048576) :
    Spec Tryz.prog β 107 #[vP f, vP (L.b d), .string name] [.blk f [vI (X.cN), vI (X.cB), vI (X.cH), vI (X.cS), vI (X.cZ), .map (some m), vP t, vI (X.last), vI (X.ah), vI (X.used)] 86, .abs (ak (aQ O L)), .abs (ak (bh O L))] (fun v l => v = cG L th ∧ l = [.blk f [vI (X.cN), vI (X.cB), vI (X.cH), vI (X.cS), vI (X.cZ), .map (some m), vP t, vI (X.last), vI (X.ah - 1), vI (X.used)] 86, .abs (ak (aQ (aO X O d name th) L)), .abs (ak (bh (aO X O d name th) L))]) := by
 refine Spec.enter Tryz.func107 rfl Tryz.ntmps107 (Nat.le_of_ble_eq_true rfl) (fun R => ?_)
 refine af.seq ?_
 obtain ⟨tk, kd⟩ := th; simp only at hkt h3; rcases h3 with rfl | rfl | rfl
 ·replace hkt : (obj O tk).kind = 1 := hkt
  replace hb : 0 ≤ (obj O tk).links ∧ (obj O tk).links ≤ 1048576 := hb
  refine af.region ?_
  refine gK 1 [] [] ?_
  refine NS ?_
  refine gK 5 [(11, .map (some (L.m d))), (12, .string name)] [(3, v_ 1 (bC L hkd))] ?_
  refine fR 2 hkd sA ?_
  refine gK 1 [(7, .iface 89 (vP (L.b tk)))] [] ?_
  refine NS ?_
  refine gK 5 [(17, .map (some (L.m d))), (18, .string name)] [(3, v_ 1 (bC L hkd))] ?_
  refine LJ 2 [(1, 0)] hkd sA hnt (fun bK bP => ?_)
  have JE := ku bP hkd
  have Nd := ku bP hkt
  have Ox : (obj bK tk).links = (obj O tk).links := fu aS.links bP rfl
  refine NS ?_
  refine gK 9 [(24, .agg #[vI (X.cS), vI (X.cZ)]), (27, .pointer (some ⟨(L.b d), 4, none⟩))] [(5, A_ 0 f 2)] ?_
  refine Gq 1 [(2, 1)] d X.cS X.cZ JE (fun cX cu => ?_)
  have JF := ku cu JE
  have Bc := ku cu Nd
  have Ql : (obj cX tk).links = (obj O tk).links := fu aS.links cu Ox
  refine NS ?_
  refine gC 8 [] [(3, a_ 0 f), (4, p_ ⟨[], none, none, none, some (vI (X.ah - 1))⟩ [(Value.int .i64 (IntKind.wrap .i64 (X.ah - 1))) = (vI (X.ah - 1))] ⟨bJ (by omega) (by omega) (by omega), trivial⟩), (7, a_ 0 f)] [(0, [(8, vI (X.ah - 1))])] ?_
  refine NS ?_
  refine gK 1 [(35, .iface 89 (vP (L.b tk)))] [] ?_
  refine gL [] (cq (L.b tk)) ?_
  rintro _ _ ⟨rfl, rfl⟩
  refine gK 6 [(40, vI ((obj cX tk).links - 1)), (42, .pointer (some ⟨(L.b tk), 6, none⟩))] [(2, v_ 1 (kL L Bc)), (3, p_ ⟨[], none, none, none, some (vI ((obj cX tk).links - 1))⟩ [(Value.int .i64 (IntKind.wrap .i64 ((obj cX tk).links - 1))) = (vI ((obj cX tk).links - 1))] ⟨bJ (by omega) (by omega) (by omega), trivial⟩)] ?_
  refine pR 1 [(2, 1)] tk 6 (fun o => { o with links := o.links - 1 }) Bc (fun rJ jS => ?_)
  have P6 := ku jS JF
  have P7 := ku jS Bc
  refine NS ?_
  refine gK 2 [(6, .iface 89 (vP (L.b tk)))] [] ?_
  refine NN (af.ret ?_)
  exact RT (l := [.blk f [vI (X.cN), vI (X.cB), vI (X.cH), vI (X.cS), vI (X.cZ), .map (some m), vP t, vI (X.last), vI (X.ah - 1), vI (X.used)] 86, .abs (ak (aQ rJ L)), .abs (ak (bh rJ L))]) (.iface 89 (vP (L.b tk))) [0, 1, 2, 3] (⟨rfl, by subst jS; subst cu; subst bP; rfl⟩)
 ·replace hkt : (obj O tk).kind = 2 := hkt
  replace hb : 0 ≤ (obj O tk).links ∧ (obj O tk).links ≤ 1048576 := hb
  refine af.region ?_
  refine gK 1 [] [] ?_
  refine NS ?_
  refine gK 5 [(11, .map (some (L.m d))), (12, .string name)] [(3, v_ 1 (bC L hkd))] ?_
  refine fR 2 hkd sA ?_
  refine gK 1 [(7, .iface 96 (vP (L.b tk)))] [] ?_
  refine NS ?_
  refine gK 5 [(17, .map (some (L.m d))), (18, .string name)] [(3, v_ 1 (bC L hkd))] ?_
  refine LJ 2 [(1, 0)] hkd sA hnt (fun bK bP => ?_)
  have JG := ku bP hkd
  have Nf := ku bP hkt
  have Oy : (obj bK tk).links = (obj O tk).links := fu aS.links bP rfl
  refine NS ?_
  refine gK 9 [(24, .agg #[vI (X.cS), vI (X.cZ)]), (27, .pointer (some ⟨(L.b d), 4, none⟩))] [(5, A_ 0 f 2)] ?_
  refine Gq 1 [(2, 1)] d X.cS X.cZ JG (fun cX cu => ?_)
  have Ng := ku cu JG
  have EN := ku cu Nf
  have Qm : (obj cX tk).links = (obj O tk).links := fu aS.links cu Oy
  refine NS ?_
  refine gC 8 [] [(3, a_ 0 f), (4, p_ ⟨[], none, none, none, some (vI (X.ah - 1))⟩ [(Value.int .i64 (IntKind.wrap .i64 (X.ah - 1))) = (vI (X.ah - 1))] ⟨bJ (by omega) (by omega) (by omega), trivial⟩), (7, a_ 0 f)] [(0, [(8, vI (X.ah - 1))])] ?_
  refine NS ?_
  refine gK 1 [(35, .iface 96 (vP (L.b tk)))] [] ?_
  refine gL [] (cq (L.b tk)) ?_
  rintro _ _ ⟨rfl, rfl⟩
  refine gK 6 [(40, vI ((obj cX tk).links - 1)), (42, .pointer (some ⟨(L.b tk), 6, none⟩))] [(2, v_ 1 (kL L EN)), (3, p_ ⟨[], none, none, none, some (vI ((obj cX tk).links - 1))⟩ [(Value.int .i64 (IntKind.wrap .i64 ((obj cX tk).links - 1))) = (vI ((obj cX tk).links - 1))] ⟨bJ (by omega) (by omega) (by omega), trivial⟩)] ?_
  refine pR 1 [(2, 1)] tk 6 (fun o => { o with links := o.links - 1 }) EN (fun rJ jS => ?_)
  have P8 := ku jS Ng
  have P9 := ku jS EN
  refine NS ?_
  refine gK 2 [(6, .iface 96 (vP (L.b tk)))] [] ?_
  refine NN (af.ret ?_)
  exact RT (l := [.blk f [vI (X.cN), vI (X.cB), vI (X.cH), vI (X.cS), vI (X.cZ), .map (some m), vP t, vI (X.last), vI (X.ah - 1), vI (X.used)] 86, .abs (ak (aQ rJ L)), .abs (ak (bh rJ L))]) (.iface 96 (vP (L.b tk))) [0, 1, 2, 3] (⟨rfl, by subst jS; subst cu; subst bP; rfl⟩)
 replace hkt : (obj O tk).kind = 3 := hkt
 replace hb : 0 ≤ (obj O tk).links ∧ (obj O tk).links ≤ 1048576 := hb
 refine af.region ?_
 refine gK 1 [] [] ?_
 refine NS ?_
 refine gK 5 [(11, .map (some (L.m d))), (12, .string name)] [(3, v_ 1 (bC L hkd))] ?_
 refine fR 2 hkd sA ?_
 refine gK 1 [(7, .iface 93 (vP (L.b tk)))] [] ?_
 refine NS ?_
 refine gK 5 [(17, .map (some (L.m d))), (18, .string name)] [(3, v_ 1 (bC L hkd))] ?_
 refine LJ 2 [(1, 0)] hkd sA hnt (fun bK bP => ?_)
 have JH := ku bP hkd
 have Nh := ku bP hkt
 have Oz : (obj bK tk).links = (obj O tk).links := fu aS.links bP rfl
 refine NS ?_
 refine gK 9 [(24, .agg #[vI (X.cS), vI (X.cZ)]), (27, .pointer (some ⟨(L.b d), 4, none⟩))] [(5, A_ 0 f 2)] ?_
 refine Gq 1 [(2, 1)] d X.cS X.cZ JH (fun cX cu => ?_)
 have Ni := ku cu JH
 have EO := ku cu Nh
 have Qn : (obj cX tk).links = (obj O tk).links := fu aS.links cu Oz
 refine NS ?_
 refine gC 8 [] [(3, a_ 0 f), (4, p_ ⟨[], none, none, none, some (vI (X.ah - 1))⟩ [(Value.int .i64 (IntKind.wrap .i64 (X.ah - 1))) = (vI (X.ah - 1))] ⟨bJ (by omega) (by omega) (by omega), trivial⟩), (7, a_ 0 f)] [(0, [(8, vI (X.ah - 1))])] ?_
 refine NS ?_
 refine gK 1 [(35, .iface 93 (vP (L.b tk)))] [] ?_
 refine gL [] (cq (L.b tk)) ?_
 rintro _ _ ⟨rfl, rfl⟩
 refine gK 6 [(40, vI ((obj cX tk).links - 1)), (42, .pointer (some ⟨(L.b tk), 6, none⟩))] [(2, v_ 1 (kL L EO)), (3, p_ ⟨[], none, none, none, some (vI ((obj cX tk).links - 1))⟩ [(Value.int .i64 (IntKind.wrap .i64 ((obj cX tk).links - 1))) = (vI ((obj cX tk).links - 1))] ⟨bJ (by omega) (by omega) (by omega), trivial⟩)] ?_
 refine pR 1 [(2, 1)] tk 6 (fun o => { o with links := o.links - 1 }) EO (fun rJ jS => ?_)
 have Qa := ku jS Ni
 have Qb := ku jS EO
 refine NS ?_
 refine gK 2 [(6, .iface 93 (vP (L.b tk)))] [] ?_
 refine NN (af.ret ?_)
 exact RT (l := [.blk f [vI (X.cN), vI (X.cB), vI (X.cH), vI (X.cS), vI (X.cZ), .map (some m), vP t, vI (X.last), vI (X.ah - 1), vI (X.used)] 86, .abs (ak (aQ rJ L)), .abs (ak (bh rJ L))]) (.iface 93 (vP (L.b tk))) [0, 1, 2, 3] (⟨rfl, by subst jS; subst cu; subst bP; rfl⟩)
end
section
open Go.RowKit Go.Maps HeapM TabM
attribute [local irreducible] ai aR af aj
abbrev Gt (f : Nat) (X : FM) (m : Nat) (t) := (.blk f [vI (X.cN), vI (X.cB), vI (X.cH), vI (X.cS), vI (X.cZ), .map (some m), vP t, vI (X.last), vI (X.ah), vI (X.used)] 86 : HP)
theorem II {β : Bs} (X : FM) (f m t : Nat) (hX : 0 ≤ X.ah ∧ X.ah ≤ 1048576 ∧ -1125899906842624 ≤ X.used ∧ X.used ≤ 1125899906842624 ∧ 0 ≤ X.last ∧ X.last ≤ 1125899906842624) (O : bM) (L : HL) (idx : Used Th) (Gu : TabM.ck (keys idx)) (th : Th) (hkt : (obj O th.k).kind = th.kind) (h3 : th.kind = 1 ∨ th.kind = 2 ∨ th.kind = 3) (hg : (obj O th.k).gone = true) (ho : (obj O th.k).opens = 0) (hix : TabM.get idx (obj O th.k).id = some th) (hw : (Lit.int .i64 (obj O th.k).id).wf = true) (uj : (obj O th.k).data.length ≤ 1125899906842624) :
    Spec Tryz.prog β 139 #[vP f, (cG L th)] [pO O L, pF f m t X, pI m L idx] (fun v l => v = .tuple #[] ∧ l = [pO O L, pF f m t { X with used := if th.kind = 1 then X.used - (obj O th.k).data.length else X.used }, pI m L (del (obj O th.k).id idx)]) := by
 refine Spec.enter Tryz.func139 rfl Tryz.ntmps139 (Nat.le_of_ble_eq_true rfl) (fun R => ?_)
 refine af.seq ?_
 obtain ⟨tk, kd⟩ := th; simp only at hkt h3; rcases h3 with rfl | rfl | rfl
 ·replace hkt : (obj O tk).kind = 1 := hkt
  replace hg : (obj O tk).gone = true := hg
  replace ho : (obj O tk).opens = 0 := ho
  replace hix : TabM.get idx (obj O tk).id = some _ := hix
  replace hw : (Lit.int .i64 (obj O tk).id).wf = true := hw
  have hdl := mU Gu (get_some hix)
  replace uj : (obj O tk).data.length ≤ 1125899906842624 := uj
  refine af.region ?_
  refine gK 1 [(7, .iface 89 (vP (L.b tk)))] [] ?_
  refine gL [] (cq (L.b tk)) ?_
  rintro _ _ ⟨rfl, rfl⟩
  refine gK 1 [(4, vP (L.b tk))] [] ?_
  refine NN (af.seq (SR ?_))
  refine gK 6 [(14, .bool (!(obj O tk).gone))] [(3, v_ 0 (kT L hkt))] ?_
  refine ai.ld 14 (!(obj O tk).gone) (fun _ => by kernel_rfl) (fun gi => ?_) (fun gi => ?_)
  ·exact absurd gi (by simp [hg])
  refine gK 6 [(20, .bool (decide (((obj O tk).opens : Int) > (0 : Int))))] [(3, v_ 0 (iP L hkt))] ?_
  refine NN ?_
  refine af.bB (p := ((obj O tk).opens : Int) > (0 : Int)) (fun _ => by kernel_rfl) (fun mO => ?_) (fun mO => ?_)
  ·exact absurd mO (by omega)
  refine af.skip (NX (af.seq ?_))
  refine af.bZ (S := [pO O L, pF f m t X, pI m L idx, .abs R]) [0, 1, 2, 3, 4, 5, 6, 7, 8] 8 [0, 1, 2, 3] (by kernel_rfl) (by kernel_rfl) rfl (by kernel_rfl) ?_
  refine aJ.reads (r := 0) (l := [8]) (fr' := [(0, vP f), (1, .iface 89 (vP (L.b tk))), (24, .map (some m)), (28, vI ((obj O tk).id))]) (aq := [(∀ F w, (ak (aQ O L)).h F w → w.cell? ⟨(L.b tk), 0, none⟩ = some (vI ((obj O tk).id))), f = f]) [0, 1, 2, 3, 4, 5, 6, 7] [o_, o_, o_, ⟨[.at 1], none, none, none, none⟩, o_, o_, o_, ⟨[.view 0 (vI ((obj O tk).id))], none, none, none, none⟩] [0, 1, 24, 28] (fun _ => by kernel_rfl) ⟨bq (by rw [hkt]; decide) (rfl), rfl, trivial⟩ rfl rfl ?_
  refine aJ.last rfl rfl ?_
  refine ai.wR 2 (d := none) (t := 80) (K := 3) (E := 84) (b := m) (n := idx.length) (f := (aP (aK L idx))) (x := (.tmp 24)) (ix := (.tmp 28)) (key := vI ((obj O tk).id)) (kl := (.int .i64 (obj O tk).id)) (n' := (idx.length - 1)) (f' := (aP (aK L (del (obj O tk).id idx)))) (ats := #[80, 3]) (fun _ => by kernel_rfl) (by kernel_rfl) (fun _ => by kernel_rfl) (fun _ => by kernel_rfl) rfl dz Tryz.underlying80 (gX hw) (by rw [dO, hix]; rfl) (y5) ?_
  refine NL (aj.np (NX (SR ?_)))
  refine gK 7 [(5, vP (L.b tk)), (6, .bool true)] [] ?_
  refine NS ?_
  refine gK 1 [(34, .bool true)] [] ?_
  refine NN ?_
  refine CT ?_
  refine af.bZ (S := [pO O L, pF f m t X, .abs (aH Tryz.prog 3 m (aP (aK L (del (obj O tk).id idx))) (idx.length - 1)), .abs R]) [0, 1, 2, 3, 4, 5, 6, 7, 8, 9, 10, 11, 12] 12 [0, 1, 2, 3] (by kernel_rfl) (by kernel_rfl) rfl (by kernel_rfl) ?_
  refine aJ.reads (r := 0) (l := [12]) (fr' := [(44, vI (X.used - (((obj O tk).data.length : Nat) : Int))), (46, .pointer (some ⟨f, 9, none⟩))]) (aq := [(Value.int .i64 (IntKind.wrap .i64 (X.used - (((obj O tk).data.length : Nat) : Int)))) = (vI (X.used - (((obj O tk).data.length : Nat) : Int))), (∀ F w, (ak (aQ O L)).h F w → w.cell? ⟨(L.b tk), 9, none⟩ = some (.slice (L.dA tk) ((obj O tk).data.length) ((L.dC tk)))), f = f]) [0, 1, 2, 3, 4, 5, 6, 7, 8, 9, 10, 11] [o_, o_, o_, ⟨[.at 1], none, none, none, none⟩, o_, o_, o_, ⟨[.view 0 (.slice (L.dA tk) ((obj O tk).data.length) ((L.dC tk)))], none, none, none, none⟩, o_, ⟨[], none, none, none, some (vI (X.used - (((obj O tk).data.length : Nat) : Int)))⟩, o_, o_] [44, 46] (fun _ => by kernel_rfl) ⟨bJ (by omega) (by omega) (by omega), bq (by rw [hkt]; decide) (by rw [eE (hkt)]; rfl), rfl, trivial⟩ rfl rfl ?_
  refine aJ.last rfl rfl ?_
  refine gC 1 [] [(0, a_ 1 f)] [(1, [(9, vI (X.used - (((obj O tk).data.length : Nat) : Int)))])] ?_
  refine NL (aj.np ?_)
  refine aj.mem (aL := [.abs (ak (aQ O L)), .blk f [vI (X.cN), vI (X.cB), vI (X.cH), vI (X.cS), vI (X.cZ), .map (some m), vP t, vI (X.last), vI (X.ah), vI (X.used - (((obj O tk).data.length : Nat) : Int))] 86, .abs (aH Tryz.prog 3 m (aP (aK L (del (obj O tk).id idx))) ((del (obj O tk).id idx).length)), .abs R]) (fun w hS => by rw [show (del (obj O tk).id idx).length = idx.length - 1 by omega]; exact hS) ?_
  exact RF (.tuple #[]) [0, 1, 2, 3] (⟨rfl, rfl⟩)
 ·replace hkt : (obj O tk).kind = 2 := hkt
  replace hg : (obj O tk).gone = true := hg
  replace ho : (obj O tk).opens = 0 := ho
  replace hix : TabM.get idx (obj O tk).id = some _ := hix
  replace hw : (Lit.int .i64 (obj O tk).id).wf = true := hw
  have hdl := mU Gu (get_some hix)
  replace uj : (obj O tk).data.length ≤ 1125899906842624 := uj
  refine af.region ?_
  refine gK 1 [(7, .iface 96 (vP (L.b tk)))] [] ?_
  refine gL [] (cq (L.b tk)) ?_
  rintro _ _ ⟨rfl, rfl⟩
  refine gK 1 [(4, vP (L.b tk))] [] ?_
  refine NN (af.seq (SR ?_))
  refine gK 6 [(14, .bool (!(obj O tk).gone))] [(3, v_ 0 (kT L hkt))] ?_
  refine ai.ld 14 (!(obj O tk).gone) (fun _ => by kernel_rfl) (fun gi => ?_) (fun gi => ?_)
  ·exact absurd gi (by simp [hg])
  refine gK 6 [(20, .bool (decide (((obj O tk).opens : Int) > (0 : Int))))] [(3, v_ 0 (iP L hkt))] ?_
  refine NN ?_
  refine af.bB (p := ((obj O tk).opens : Int) > (0 : Int)) (fun _ => by kernel_rfl) (fun mO => ?_) (fun mO => ?_)
  ·exact absurd mO (by omega)
  refine af.skip (NX (af.seq ?_))
  refine af.bZ (S := [pO O L, pF f m t X, pI m L idx, .abs R]) [0, 1, 2, 3, 4, 5, 6, 7, 8] 8 [0, 1, 2, 3] (by kernel_rfl) (by kernel_rfl) rfl (by kernel_rfl) ?_
  refine aJ.reads (r := 0) (l := [8]) (fr' := [(0, vP f), (1, .iface 96 (vP (L.b tk))), (24, .map (some m)), (28, vI ((obj O tk).id))]) (aq := [(∀ F w, (ak (aQ O L)).h F w → w.cell? ⟨(L.b tk), 0, none⟩ = some (vI ((obj O tk).id))), f = f]) [0, 1, 2, 3, 4, 5, 6, 7] [o_, o_, o_, ⟨[.at 1], none, none, none, none⟩, o_, o_, o_, ⟨[.view 0 (vI ((obj O tk).id))], none, none, none, none⟩] [0, 1, 24, 28] (fun _ => by kernel_rfl) ⟨bq (by rw [hkt]; decide) (rfl), rfl, trivial⟩ rfl rfl ?_
  refine aJ.last rfl rfl ?_
  refine ai.wR 2 (d := none) (t := 80) (K := 3) (E := 84) (b := m) (n := idx.length) (f := (aP (aK L idx))) (x := (.tmp 24)) (ix := (.tmp 28)) (key := vI ((obj O tk).id)) (kl := (.int .i64 (obj O tk).id)) (n' := (idx.length - 1)) (f' := (aP (aK L (del (obj O tk).id idx)))) (ats := #[80, 3]) (fun _ => by kernel_rfl) (by kernel_rfl) (fun _ => by kernel_rfl) (fun _ => by kernel_rfl) rfl dz Tryz.underlying80 (gX hw) (by rw [dO, hix]; rfl) (y5) ?_
  refine NL (aj.np (NX (SR ?_)))
  refine gK 7 [(5, .pointer none), (6, .bool false)] [] ?_
  refine NS ?_
  refine gK 1 [(34, .bool false)] [] ?_
  refine NN ?_
  refine CF ?_
  refine af.skip ?_
  refine aj.mem (aL := [.abs (ak (aQ O L)), .blk f [vI (X.cN), vI (X.cB), vI (X.cH), vI (X.cS), vI (X.cZ), .map (some m), vP t, vI (X.last), vI (X.ah), vI (X.used)] 86, .abs (aH Tryz.prog 3 m (aP (aK L (del (obj O tk).id idx))) ((del (obj O tk).id idx).length)), .abs R]) (fun w hS => by rw [show (del (obj O tk).id idx).length = idx.length - 1 by omega]; exact hS) ?_
  exact RF (.tuple #[]) [0, 1, 2, 3] (⟨rfl, rfl⟩)
 replace hkt : (obj O tk).kind = 3 := hkt
 replace hg : (obj O tk).gone = true := hg
 replace ho : (obj O tk).opens = 0 := ho
 replace hix : TabM.get idx (obj O tk).id = some _ := hix
 replace hw : (Lit.int .i64 (obj O tk).id).wf = true := hw
 have hdl := mU Gu (get_some hix)
 replace uj : (obj O tk).data.length ≤ 1125899906842624 := uj
 refine af.region ?_
 refine gK 1 [(7, .iface 93 (vP (L.b tk)))] [] ?_
 refine gL [] (cq (L.b tk)) ?_
 rintro _ _ ⟨rfl, rfl⟩
 refine gK 1 [(4, vP (L.b tk))] [] ?_
 refine NN (af.seq (SR ?_))
 refine gK 6 [(14, .bool (!(obj O tk).gone))] [(3, v_ 0 (kT L hkt))] ?_
 refine ai.ld 14 (!(obj O tk).gone) (fun _ => by kernel_rfl) (fun gi => ?_) (fun gi => ?_)
 ·exact absurd gi (by simp [hg])
 refine gK 6 [(20, .bool (decide (((obj O tk).opens : Int) > (0 : Int))))] [(3, v_ 0 (iP L hkt))] ?_
 refine NN ?_
 refine af.bB (p := ((obj O tk).opens : Int) > (0 : Int)) (fun _ => by kernel_rfl) (fun mO => ?_) (fun mO => ?_)
 ·exact absurd mO (by omega)
 refine af.skip (NX (af.seq ?_))
 refine af.bZ (S := [pO O L, pF f m t X, pI m L idx, .abs R]) [0, 1, 2, 3, 4, 5, 6, 7, 8] 8 [0, 1, 2, 3] (by kernel_rfl) (by kernel_rfl) rfl (by kernel_rfl) ?_
 refine aJ.reads (r := 0) (l := [8]) (fr' := [(0, vP f), (1, .iface 93 (vP (L.b tk))), (24, .map (some m)), (28, vI ((obj O tk).id))]) (aq := [(∀ F w, (ak (aQ O L)).h F w → w.cell? ⟨(L.b tk), 0, none⟩ = some (vI ((obj O tk).id))), f = f]) [0, 1, 2, 3, 4, 5, 6, 7] [o_, o_, o_, ⟨[.at 1], none, none, none, none⟩, o_, o_, o_, ⟨[.view 0 (vI ((obj O tk).id))], none, none, none, none⟩] [0, 1, 24, 28] (fun _ => by kernel_rfl) ⟨bq (by rw [hkt]; decide) (rfl), rfl, trivial⟩ rfl rfl ?_
 refine aJ.last rfl rfl ?_
 refine ai.wR 2 (d := none) (t := 80) (K := 3) (E := 84) (b := m) (n := idx.length) (f := (aP (aK L idx))) (x := (.tmp 24)) (ix := (.tmp 28)) (key := vI ((obj O tk).id)) (kl := (.int .i64 (obj O tk).id)) (n' := (idx.length - 1)) (f' := (aP (aK L (del (obj O tk).id idx)))) (ats := #[80, 3]) (fun _ => by kernel_rfl) (by kernel_rfl) (fun _ => by kernel_rfl) (fun _ => by kernel_rfl) rfl dz Tryz.underlying80 (gX hw) (by rw [dO, hix]; rfl) (y5) ?_
 refine NL (aj.np (NX (SR ?_)))
 refine gK 7 [(5, .pointer none), (6, .bool false)] [] ?_
 refine NS ?_
 refine gK 1 [(34, .bool false)] [] ?_
 refine NN ?_
 refine CF ?_
 refine af.skip ?_
 refine aj.mem (aL := [.abs (ak (aQ O L)), .blk f [vI (X.cN), vI (X.cB), vI (X.cH), vI (X.cS), vI (X.cZ), .map (some m), vP t, vI (X.last), vI (X.ah), vI (X.used)] 86, .abs (aH Tryz.prog 3 m (aP (aK L (del (obj O tk).id idx))) ((del (obj O tk).id idx).length)), .abs R]) (fun w hS => by rw [show (del (obj O tk).id idx).length = idx.length - 1 by omega]; exact hS) ?_
 exact RF (.tuple #[]) [0, 1, 2, 3] (⟨rfl, rfl⟩)
theorem EP {β : Bs} (O : bM) (L : HL) (f : Nat) (th : Th) (hkt : (obj O th.k).kind = th.kind) (h3 : th.kind = 1 ∨ th.kind = 2 ∨ th.kind = 3) (hg : (obj O th.k).gone = false ∨ 0 < (obj O th.k).opens) :
    Spec Tryz.prog β 139 #[vP f, (cG L th)] [pO O L] (fun v l => v = .tuple #[] ∧ l = [pO O L]) := by
 refine Spec.enter Tryz.func139 rfl Tryz.ntmps139 (Nat.le_of_ble_eq_true rfl) (fun R => ?_)
 refine af.seq ?_
 obtain ⟨tk, kd⟩ := th; simp only at hkt h3; rcases h3 with rfl | rfl | rfl
 ·replace hkt : (obj O tk).kind = 1 := hkt
  replace hg : (obj O tk).gone = false ∨ 0 < (obj O tk).opens := hg
  refine af.region ?_
  refine gK 1 [(7, .iface 89 (vP (L.b tk)))] [] ?_
  refine gL [] (cq (L.b tk)) ?_
  rintro _ _ ⟨rfl, rfl⟩
  refine gK 1 [(4, vP (L.b tk))] [] ?_
  refine NN (af.seq (SR ?_))
  refine gK 6 [(14, .bool (!(obj O tk).gone))] [(3, v_ 0 (kT L hkt))] ?_
  refine ai.ld 14 (!(obj O tk).gone) (fun _ => by kernel_rfl) (fun gi => ?_) (fun gi => ?_)
  ·refine gK 6 [(20, .bool true)] [] ?_
   refine NN ?_
   refine CT ?_
   refine af.ret (aj.ar ?_)
   exact RT (.tuple #[]) [0, 1] (⟨rfl, rfl⟩)
  refine gK 6 [(20, .bool (decide (((obj O tk).opens : Int) > (0 : Int))))] [(3, v_ 0 (iP L hkt))] ?_
  refine NN ?_
  refine af.bB (p := ((obj O tk).opens : Int) > (0 : Int)) (fun _ => by kernel_rfl) (fun mO => ?_) (fun mO => ?_)
  ·refine af.ret (aj.ar ?_)
   exact RT (.tuple #[]) [0, 1] (⟨rfl, rfl⟩)
  exact absurd hg (by simp at gi; rw [gi]; simp; omega)
 ·replace hkt : (obj O tk).kind = 2 := hkt
  replace hg : (obj O tk).gone = false ∨ 0 < (obj O tk).opens := hg
  refine af.region ?_
  refine gK 1 [(7, .iface 96 (vP (L.b tk)))] [] ?_
  refine gL [] (cq (L.b tk)) ?_
  rintro _ _ ⟨rfl, rfl⟩
  refine gK 1 [(4, vP (L.b tk))] [] ?_
  refine NN (af.seq (SR ?_))
  refine gK 6 [(14, .bool (!(obj O tk).gone))] [(3, v_ 0 (kT L hkt))] ?_
  refine ai.ld 14 (!(obj O tk).gone) (fun _ => by kernel_rfl) (fun gi => ?_) (fun gi => ?_)
  ·refine gK 6 [(20, .bool true)] [] ?_
   refine NN ?_
   refine CT ?_
   refine af.ret (aj.ar ?_)
   exact RT (.tuple #[]) [0, 1] (⟨rfl, rfl⟩)
  refine gK 6 [(20, .bool (decide (((obj O tk).opens : Int) > (0 : Int))))] [(3, v_ 0 (iP L hkt))] ?_
  refine NN ?_
  refine af.bB (p := ((obj O tk).opens : Int) > (0 : Int)) (fun _ => by kernel_rfl) (fun mO => ?_) (fun mO => ?_)
  ·refine af.ret (aj.ar ?_)
   exact RT (.tuple #[]) [0, 1] (⟨rfl, rfl⟩)
  exact absurd hg (by simp at gi; rw [gi]; simp; omega)
 replace hkt : (obj O tk).kind = 3 := hkt
 replace hg : (obj O tk).gone = false ∨ 0 < (obj O tk).opens := hg
 refine af.region ?_
 refine gK 1 [(7, .iface 93 (vP (L.b tk)))] [] ?_
 refine gL [] (cq (L.b tk)) ?_
 rintro _ _ ⟨rfl, rfl⟩
 refine gK 1 [(4, vP (L.b tk))] [] ?_
 refine NN (af.seq (SR ?_))
 refine gK 6 [(14, .bool (!(obj O tk).gone))] [(3, v_ 0 (kT L hkt))] ?_
 refine ai.ld 14 (!(obj O tk).gone) (fun _ => by kernel_rfl) (fun gi => ?_) (fun gi => ?_)
 ·refine gK 6 [(20, .bool true)] [] ?_
  refine NN ?_
  refine CT ?_
  refine af.ret (aj.ar ?_)
  exact RT (.tuple #[]) [0, 1] (⟨rfl, rfl⟩)
 refine gK 6 [(20, .bool (decide (((obj O tk).opens : Int) > (0 : Int))))] [(3, v_ 0 (iP L hkt))] ?_
 refine NN ?_
 refine af.bB (p := ((obj O tk).opens : Int) > (0 : Int)) (fun _ => by kernel_rfl) (fun mO => ?_) (fun mO => ?_)
 ·refine af.ret (aj.ar ?_)
  exact RT (.tuple #[]) [0, 1] (⟨rfl, rfl⟩)
 exact absurd hg (by simp at gi; rw [gi]; simp; omega)
theorem nV {β : Bs} (X : FM) (f m t : Nat) (hX : 0 ≤ X.ah ∧ X.ah ≤ 1048576 ∧ -1125899906842624 ≤ X.used ∧ X.used ≤ 1125899906842624 ∧ 0 ≤ X.last ∧ X.last ≤ 1125899906842624) (O : bM) (L : HL) (idx : Used Th) (Gu : TabM.ck (keys idx)) (th : Th) (hkt : (obj O th.k).kind = th.kind) (h3 : th.kind = 1 ∨ th.kind = 2 ∨ th.kind = 3) (ho : 0 ≤ (obj O th.k).opens) (hix : oM O th → TabM.get idx (obj O th.k).id = some th) (hw : (Lit.int .i64 (obj O th.k).id).wf = true) (uj : (obj O th.k).data.length ≤ 1125899906842624) :
    Spec Tryz.prog β 139 #[vP f, (cG L th)] [pO O L, pF f m t X, pI m L idx] (fun v l => v = .tuple #[] ∧ l = [pO O L, pF f m t { X with used := iV O X.used th }, pI m L (iF O idx th)]) := by
  unfold iV iF
  by_cases h : oM O th
  ·rw [if_pos h, if_pos h]
   exact II X f m t hX O L idx Gu th hkt h3 h.1 h.2 (hix h) hw uj
  rw [if_neg h, if_neg h]
  refine (Spec.yT (pre := [pO O L]) (R := [pF f m t X, pI m L idx]) (fun _ _ => EP O L f th hkt h3 ?_)).mono (by rintro v l ⟨l0, ⟨rfl, rfl⟩, rfl⟩; exact ⟨rfl, rfl⟩)
  cases hg : (obj O th.k).gone with
  | false => exact .inl rfl
  | true => exact .inr (by have : ¬ (obj O th.k).opens = 0 := fun e => h ⟨hg, e⟩; omega)
theorem qR {β : Bs} (X : FM) (f m t : Nat) : Spec Tryz.prog β 135 #[vP f] [Gt f X m t] (fun v l => v = .bool (decide (X.ah < 8192)) ∧ l = [Gt f X m t]) := by
 refine Spec.enter Tryz.func135 rfl Tryz.ntmps135 (Nat.le_of_ble_eq_true rfl) (fun R => ?_)
 refine SR ?_
 refine gK 1 [] [] ?_
 refine NS ?_
 refine gK 6 [(2, .bool (decide ((X.ah : Int) < (8192 : Int))))] [(3, a_ 0 f)] ?_
 refine NN (af.ret ?_)
 exact RT (.bool (decide ((X.ah : Int) < (8192 : Int)))) [0, 1] (⟨rfl, rfl⟩)
theorem d9 {β : Bs} (a b : Int) : Spec Tryz.prog β 32 #[vI a, vI b] [] (fun v l => v = .bool (decide (0 ≤ a ∧ a ≤ b)) ∧ l = []) := by
 refine Spec.enter Tryz.func32 rfl Tryz.ntmps32 (Nat.le_of_ble_eq_true rfl) (fun R => ?_)
 refine SR ?_
 refine gK 1 [] [] ?_
 refine NS ?_
 refine gK 3 [(7, .bool (decide ((a : Int) ≥ (0 : Int))))] [] ?_
 refine ai.gD 7 ((a : Int) ≥ (0 : Int)) (fun _ => by kernel_rfl) (fun h7 => ?_) (fun h7 => ?_)
 ·refine gK 5 [(4, .bool (decide ((a : Int) ≤ (b : Int))))] [] ?_
  refine NN (af.ret ?_)
  exact RT (.bool (decide ((a : Int) ≤ (b : Int)))) [0] (⟨by first | exact congrArg Value.bool (decide_eq_decide.2 (by omega)) | exact congrArg Value.bool (decide_eq_true (by omega)).symm | exact congrArg Value.bool (decide_eq_false (by omega)).symm, rfl⟩)
 refine gK 5 [(4, .bool false)] [] ?_
 refine NN (af.ret ?_)
 exact RT (.bool false) [0] (⟨by first | exact congrArg Value.bool (decide_eq_decide.2 (by omega)) | exact congrArg Value.bool (decide_eq_true (by omega)).symm | exact congrArg Value.bool (decide_eq_false (by omega)).symm, rfl⟩)
theorem Cq {β : Bs} (X : FM) (f m t : Nat) (L : HL) (idx : Used Th) : Spec Tryz.prog β 103 #[vP f] [Gt f X m t, .abs (aH Tryz.prog 3 m (aP (aK L idx)) idx.length)] (fun v l => v = .bool (decide ((idx.length : Int) < X.cN ∧ X.last < 1099511627776 ∧ X.ah < 8192)) ∧ l = [Gt f X m t, .abs (aH Tryz.prog 3 m (aP (aK L idx)) idx.length)]) := by
 refine Spec.enter Tryz.func103 rfl Tryz.ntmps103 (Nat.le_of_ble_eq_true rfl) (fun R => ?_)
 refine SR ?_
 refine gK 1 [] [] ?_
 refine NN (af.seq ?_)
 refine af.bF (by kernel_rfl) (by kernel_rfl) ?_
 refine gQ 4 [(6, .map (some m))] [(3, a_ 0 f)] ?_
 refine aR.q8 1 (d := (some 7)) (t := 80) (K := 3) (E := 84) (b := m) (n := idx.length) (f := (aP (aK L idx))) (x := (.tmp 6)) (ats := #[80]) (fun _ => by kernel_rfl) (by kernel_rfl) (fun _ => by kernel_rfl) rfl Tryz.underlying80 ?_
 refine gQ 7 [(14, .bool (decide ((((idx.length : Nat) : Int) : Int) < (X.cN : Int))))] [(4, a_ 0 f)] ?_
 refine aR.gD 14 ((((idx.length : Nat) : Int) : Int) < (X.cN : Int)) (fun _ => by kernel_rfl) (fun gi => ?_) (fun gi => ?_)
 ·refine gQ 7 [(21, .bool (decide ((X.last : Int) < (1099511627776 : Int))))] [(3, a_ 0 f)] ?_
  refine aR.gD 21 ((X.last : Int) < (1099511627776 : Int)) (fun _ => by kernel_rfl) (fun rK => ?_) (fun rK => ?_)
  ·refine gQ 1 [(22, vP f)] [] ?_
   refine aR.call (f := 135) (args := #[vP f]) (d := (some 23)) (pre := [pF f m t X]) (R := [pI m L idx, .abs R]) (pk := [0, 1, 2]) (gM := [0, 1, 2]) (v0 := .bool (decide (X.ah < 8192))) (fun _ => by kernel_rfl) (qR X f m t) rfl (by kernel_rfl) rfl (by kernel_rfl) (fun _ _ h => h) ?_
   refine gQ 2 [(2, .bool (decide (X.ah < 8192)))] [] ?_
   refine NQ (NX (af.ret ?_))
   exact RT (.bool (decide (X.ah < 8192))) [0, 1, 2] (⟨by first | exact congrArg Value.bool (decide_eq_decide.2 (by omega)) | exact congrArg Value.bool (decide_eq_true (by omega)).symm | exact congrArg Value.bool (decide_eq_false (by omega)).symm, rfl⟩)
  refine gQ 4 [(2, .bool false)] [] ?_
  refine NQ (NX (af.ret ?_))
  exact RT (.bool false) [0, 1, 2] (⟨by first | exact congrArg Value.bool (decide_eq_decide.2 (by omega)) | exact congrArg Value.bool (decide_eq_true (by omega)).symm | exact congrArg Value.bool (decide_eq_false (by omega)).symm, rfl⟩)
 refine gQ 11 [(2, .bool false)] [] ?_
 refine NQ (NX (af.ret ?_))
 exact RT (.bool false) [0, 1, 2] (⟨by first | exact congrArg Value.bool (decide_eq_decide.2 (by omega)) | exact congrArg Value.bool (decide_eq_true (by omega)).symm | exact congrArg Value.bool (decide_eq_false (by omega)).symm, rfl⟩)
theorem qC {β : Bs} (X : FM) (f m t : Nat) (hX : 0 ≤ X.ah ∧ X.ah ≤ 1048576 ∧ -1125899906842624 ≤ X.used ∧ X.used ≤ 1125899906842624 ∧ 0 ≤ X.last ∧ X.last ≤ 1125899906842624) (mode : Int) : Spec Tryz.prog β 55 #[vP f, vI mode] [Gt f X m t] (fun v l => v = .agg #[vI (X.last + 1), vI mode, vI 0, vI 0, vI X.cS, vI X.cZ, vI 0, vI 0, .bool false] ∧ l = [.blk f [vI (X.cN), vI (X.cB), vI (X.cH), vI (X.cS), vI (X.cZ), .map (some m), vP t, vI (X.last + 1), vI (X.ah), vI (X.used)] 86]) := by
 refine Spec.enter Tryz.func55 rfl Tryz.ntmps55 (Nat.le_of_ble_eq_true rfl) (fun R => ?_)
 refine SR ?_
 refine gN 1 (fun b1 => [(4, vP b1)]) (fun _ => []) (fun _ => []) (fun b1 => .blk b1 [vI 0, vI 0, vI 0, vI 0, vI 0, vI 0, vI 0, vI 0, .bool false] 88) (fun b1 => ?_)
 refine NS ?_
 refine gC 8 [] [(3, a_ 0 f), (4, p_ ⟨[], none, none, none, some (vI (X.last + 1))⟩ [(Value.int .i64 (IntKind.wrap .i64 (X.last + 1))) = (vI (X.last + 1))] ⟨bJ (by omega) (by omega) (by omega), trivial⟩), (7, a_ 0 f)] [(0, [(7, vI (X.last + 1))])] ?_
 refine NN (af.seq ?_)
 refine af.bZ (S := [pF f m t { X with last := X.last + 1 }, .abs R, .blk b1 [vI 0, vI 0, vI 0, vI 0, vI 0, vI 0, vI 0, vI 0, .bool false] 88]) [0, 1, 2, 3, 4, 5, 6, 7, 8, 9, 10, 11] 11 [0, 1, 2] (by kernel_rfl) (by kernel_rfl) rfl (by kernel_rfl) ?_
 refine aJ.reads (r := 0) (l := [11]) (fr' := [(4, vP b1), (22, .agg #[vI (X.last + 1), vI (mode), vI 0, vI 0, vI (X.cS), vI (X.cZ), vI 0, vI 0, .bool false])]) (aq := [f = f, f = f, f = f]) [0, 1, 2, 3, 4, 5, 6, 7, 8, 9, 10] [o_, o_, o_, ⟨[.at 0], none, none, none, none⟩, o_, o_, o_, o_, o_, ⟨[.at 0, .at 0], none, none, none, none⟩, o_] [4, 22] (fun _ => by kernel_rfl) ⟨rfl, rfl, rfl, trivial⟩ rfl rfl ?_
 refine aJ.last rfl rfl ?_
 refine gC 1 [] [(0, A_ 2 b1 9)] [(2, [(0, vI (X.last + 1)), (1, vI (mode)), (4, vI (X.cS)), (5, vI (X.cZ))])] ?_
 refine NL (aj.np (NX (af.ret ?_)))
 exact aj.ret (v := .agg #[vI (X.last + 1), vI (mode), vI 0, vI 0, vI (X.cS), vI (X.cZ), vI 0, vI 0, .bool false]) (l := [pF f m t { X with last := X.last + 1 }]) (aq := [b1 = b1, b1 = b1, b1 = b1, b1 = b1, b1 = b1, b1 = b1, b1 = b1, b1 = b1, b1 = b1]) [.at 2, .at 2, .at 2, .at 2, .at 2, .at 2, .at 2, .at 2, .at 2] [0, 1] (fun _ => by kernel_rfl) ⟨rfl, rfl, rfl, rfl, rfl, rfl, rfl, rfl, rfl, trivial⟩ rfl (by kernel_rfl) (⟨rfl, rfl⟩)
end
section
open Go.RowKit Go.Maps HeapM TabM
attribute [local irreducible] ai aR af aj
abbrev sW (f : Nat) (L : HL) (d : Nat) (name) := ([(0, vP f), (1, vP (L.b d)), (2, .string name)] : Fr)
abbrev LK (f : Nat) (L : HL) (d : Nat) (name) := ([(18, vP f), (19, vP (L.b d)), (20, .string name)] : Fr)
abbrev LM (f : Nat) (L : HL) (d : Nat) (name) := ([(8, vP f), (9, vP (L.b d)), (10, .string name)] : Fr)
abbrev sX (f : Nat) (m : Nat) (t) (X : FM) (L : HL) (idx) (O : bM) (R : bR) := ([pF f m t X, pI m L idx, pO O L, pE O L, .abs R] : List HP)
abbrev LO (S : aI) (tk : Nat) (L : HL) := ([(24, vI ((obj S.O tk).opens + 1)), (26, .pointer (some ⟨(L.b tk), 7, none⟩))] : Fr)
theorem lE {β : Bs} (S : aI) (L : HL) (f m t : Nat) (hI : Inv S) (d : Nat) (hd : Live S.idx ⟨d, 2⟩) (name : ByteArray) (hsz : name.size ≤ 1048576) (th : Th) (hlk : aU name (obj S.O d).ah = some th) :
    Spec Tryz.prog β 106 #[vP f, vP (L.b d), .string name] [pF f m t S.X, pO S.O L, pE S.O L, pI m L S.idx] (fun v l => v = .tuple #[] ∧ l = [pF f m t ((ax S d name th).X), pO ((ax S d name th).O) L, pE ((ax S d name th).O) L, pI m L ((ax S d name th).idx)]) := by
 have hX := hI.hX
 have hel : (obj S.O d).ah.length ≤ 8192 := hI.eS hd
 have hkd : (obj S.O d).kind = 2 := hI.kind hd
 refine Spec.enter Tryz.func106 rfl Tryz.ntmps106 (Nat.le_of_ble_eq_true rfl) (fun R => ?_)
 refine af.seq ?_
 obtain ⟨tk, kd⟩ := th; have hlv := (hI.ent hd hlk).2; have Qo := hI.ne hd hlk; rcases (hI.ob _ hlv).2.2 with e0 | e0 | e0 <;> simp only at e0 <;> subst e0
 ·have hkt : (obj S.O tk).kind = 1 := hI.kind hlv
  have hlb := hI.lb hlv; have hid := hI.ob _ hlv; have hop := hI.Af hlv; have hdl := hI.Cb hlv; have ni := hI.Ga hlv
  refine af.region ?_
  refine gK 3 (LM f L d name) [] ?_
  refine gL [0, 1, 2] (iy S.X f m t hX S.O L d hkd name hsz ⟨tk, 1⟩ hkt (by simp) hlk (hI.twice hd) (by omega) (by simp only at hlb ⊢; omega)) ?_
  rintro _ _ ⟨rfl, rfl⟩
  refine gK 1 [(6, .iface 89 (vP (L.b tk)))] [] ?_
  refine NS ?_
  have iN : (obj (aO S.X S.O d name ⟨tk, 1⟩) d).kind = 2 := (bX).trans (hkd)
  have kx : (obj (aO S.X S.O d name ⟨tk, 1⟩) tk).kind = 1 := (bX).trans (hkt)
  have ul : (obj (aO S.X S.O d name ⟨tk, 1⟩) tk).id = (obj S.O tk).id := cE (g := aS.id) (fun _ _ => rfl) (fun _ _ => rfl) (fun _ _ _ => rfl)
  have um : (obj (aO S.X S.O d name ⟨tk, 1⟩) tk).opens = (obj S.O tk).opens := cE (g := aS.opens) (fun _ _ => rfl) (fun _ _ => rfl) (fun _ _ _ => rfl)
  have uo : (obj (aO S.X S.O d name ⟨tk, 1⟩) tk).data = (obj S.O tk).data := cE (g := aS.data) (fun _ _ => rfl) (fun _ _ => rfl) (fun _ _ _ => rfl)
  generalize bP : (aO S.X S.O d name ⟨tk, 1⟩) = bK at iN kx ul um uo ⊢
  refine gK 1 [(12, .iface 89 (vP (L.b tk)))] [] ?_
  refine gL [] (cq (L.b tk)) ?_
  rintro _ _ ⟨rfl, rfl⟩
  refine gK 1 [(7, vP (L.b tk))] [] ?_
  refine NS ?_
  refine gK 5 [(18, .bool (decide (((obj bK tk).links : Int) = (0 : Int))))] [(3, v_ 1 (kL L kx))] ?_
  refine NN ?_
  refine af.bB (p := ((obj bK tk).links : Int) = (0 : Int)) (fun _ => by kernel_rfl) (fun lQ => ?_) (fun lQ => ?_)
  ·refine SR ?_
   refine gK 3 [(21, .pointer (some ⟨(L.b tk), 8, none⟩))] [] ?_
   refine pR 1 [(2, 1)] tk 8 (fun o => { o with gone := true }) kx (fun cX cu => ?_)
   have zk := ku cu iN
   have ug := ku cu kx
   have Gv : (obj cX tk).id = (obj S.O tk).id := fu aS.id cu ul
   have LP : (obj cX tk).opens = (obj S.O tk).opens := fu aS.opens cu um
   have Pp : (obj cX tk).data = (obj S.O tk).data := fu aS.data cu uo
   refine NN (af.region ?_)
   refine gK 2 [(22, vP f), (23, .iface 89 (vP (L.b tk)))] [] ?_
   refine gL [1, 0, 3] (nV { S.X with ah := S.X.ah - 1 } f m t (hI.vw hd hlk) cX L S.idx hI.rise ⟨tk, 1⟩ ug (by simp) (by rw [LP]; exact hop.1) (fun _ => by rw [Gv, hid.1]; exact hlv) (by rw [Gv]; exact ni) (by rw [Pp]; exact hdl)) ?_
   rintro _ _ ⟨rfl, rfl⟩
   refine NL ?_
   exact RF (l := [pF f m t { S.X with ah := S.X.ah - 1, used := iV cX S.X.used ⟨tk, 1⟩ }, pO cX L, pE cX L, pI m L (iF cX S.idx ⟨tk, 1⟩)]) (.tuple #[]) [1, 0, 3, 2, 4] (⟨rfl, by subst cu; subst bP; rw [show ax S d name ⟨tk, 1⟩ = _ from qx lQ] <;> rfl⟩)
  refine af.skip ?_
  exact RF (l := [pF f m t { S.X with ah := S.X.ah - 1 }, pO bK L, pE bK L, pI m L S.idx]) (.tuple #[]) [0, 1, 2, 3, 4] (⟨rfl, by subst bP; rw [show ax S d name ⟨tk, 1⟩ = _ from qy lQ] <;> rfl⟩)
 ·have hkt : (obj S.O tk).kind = 2 := hI.kind hlv
  have hlb := hI.lb hlv; have hid := hI.ob _ hlv; have hop := hI.Af hlv; have hdl := hI.Cb hlv; have ni := hI.Ga hlv
  refine af.region ?_
  refine gK 3 (LM f L d name) [] ?_
  refine gL [0, 1, 2] (iy S.X f m t hX S.O L d hkd name hsz ⟨tk, 2⟩ hkt (by simp) hlk (hI.twice hd) (by omega) (by simp only at hlb ⊢; omega)) ?_
  rintro _ _ ⟨rfl, rfl⟩
  refine gK 1 [(6, .iface 96 (vP (L.b tk)))] [] ?_
  refine NS ?_
  have LQ : (obj (aO S.X S.O d name ⟨tk, 2⟩) d).kind = 2 := (bX).trans (hkd)
  have zj : (obj (aO S.X S.O d name ⟨tk, 2⟩) tk).kind = 2 := (bX).trans (hkt)
  have ul : (obj (aO S.X S.O d name ⟨tk, 2⟩) tk).id = (obj S.O tk).id := cE (g := aS.id) (fun _ _ => rfl) (fun _ _ => rfl) (fun _ _ _ => rfl)
  have um : (obj (aO S.X S.O d name ⟨tk, 2⟩) tk).opens = (obj S.O tk).opens := cE (g := aS.opens) (fun _ _ => rfl) (fun _ _ => rfl) (fun _ _ _ => rfl)
  have uo : (obj (aO S.X S.O d name ⟨tk, 2⟩) tk).data = (obj S.O tk).data := cE (g := aS.data) (fun _ _ => rfl) (fun _ _ => rfl) (fun _ _ _ => rfl)
  generalize bP : (aO S.X S.O d name ⟨tk, 2⟩) = bK at LQ zj ul um uo ⊢
  refine gK 1 [(12, .iface 96 (vP (L.b tk)))] [] ?_
  refine gL [] (cq (L.b tk)) ?_
  rintro _ _ ⟨rfl, rfl⟩
  refine gK 1 [(7, vP (L.b tk))] [] ?_
  refine NS ?_
  refine gK 5 [(18, .bool (decide (((obj bK tk).links : Int) = (0 : Int))))] [(3, v_ 1 (kL L zj))] ?_
  refine NN ?_
  refine af.bB (p := ((obj bK tk).links : Int) = (0 : Int)) (fun _ => by kernel_rfl) (fun lQ => ?_) (fun lQ => ?_)
  ·refine SR ?_
   refine gK 3 [(21, .pointer (some ⟨(L.b tk), 8, none⟩))] [] ?_
   refine pR 1 [(2, 1)] tk 8 (fun o => { o with gone := true }) zj (fun cX cu => ?_)
   have EL := ku cu LQ
   have JD := ku cu zj
   have LR : (obj cX tk).id = (obj S.O tk).id := fu aS.id cu ul
   have OA : (obj cX tk).opens = (obj S.O tk).opens := fu aS.opens cu um
   have OB : (obj cX tk).data = (obj S.O tk).data := fu aS.data cu uo
   refine NN (af.region ?_)
   refine gK 2 [(22, vP f), (23, .iface 96 (vP (L.b tk)))] [] ?_
   refine gL [1, 0, 3] (nV { S.X with ah := S.X.ah - 1 } f m t (hI.vw hd hlk) cX L S.idx hI.rise ⟨tk, 2⟩ JD (by simp) (by rw [OA]; exact hop.1) (fun _ => by rw [LR, hid.1]; exact hlv) (by rw [LR]; exact ni) (by rw [OB]; exact hdl)) ?_
   rintro _ _ ⟨rfl, rfl⟩
   refine NL ?_
   exact RF (l := [pF f m t { S.X with ah := S.X.ah - 1, used := iV cX S.X.used ⟨tk, 2⟩ }, pO cX L, pE cX L, pI m L (iF cX S.idx ⟨tk, 2⟩)]) (.tuple #[]) [1, 0, 3, 2, 4] (⟨rfl, by subst cu; subst bP; rw [show ax S d name ⟨tk, 2⟩ = _ from qx lQ] <;> rfl⟩)
  refine af.skip ?_
  exact RF (l := [pF f m t { S.X with ah := S.X.ah - 1 }, pO bK L, pE bK L, pI m L S.idx]) (.tuple #[]) [0, 1, 2, 3, 4] (⟨rfl, by subst bP; rw [show ax S d name ⟨tk, 2⟩ = _ from qy lQ] <;> rfl⟩)
 have hkt : (obj S.O tk).kind = 3 := hI.kind hlv
 have hlb := hI.lb hlv; have hid := hI.ob _ hlv; have hop := hI.Af hlv; have hdl := hI.Cb hlv; have ni := hI.Ga hlv
 refine af.region ?_
 refine gK 3 (LM f L d name) [] ?_
 refine gL [0, 1, 2] (iy S.X f m t hX S.O L d hkd name hsz ⟨tk, 3⟩ hkt (by simp) hlk (hI.twice hd) (by omega) (by simp only at hlb ⊢; omega)) ?_
 rintro _ _ ⟨rfl, rfl⟩
 refine gK 1 [(6, .iface 93 (vP (L.b tk)))] [] ?_
 refine NS ?_
 have JI : (obj (aO S.X S.O d name ⟨tk, 3⟩) d).kind = 2 := (bX).trans (hkd)
 have x3 : (obj (aO S.X S.O d name ⟨tk, 3⟩) tk).kind = 3 := (bX).trans (hkt)
 have ul : (obj (aO S.X S.O d name ⟨tk, 3⟩) tk).id = (obj S.O tk).id := cE (g := aS.id) (fun _ _ => rfl) (fun _ _ => rfl) (fun _ _ _ => rfl)
 have um : (obj (aO S.X S.O d name ⟨tk, 3⟩) tk).opens = (obj S.O tk).opens := cE (g := aS.opens) (fun _ _ => rfl) (fun _ _ => rfl) (fun _ _ _ => rfl)
 have uo : (obj (aO S.X S.O d name ⟨tk, 3⟩) tk).data = (obj S.O tk).data := cE (g := aS.data) (fun _ _ => rfl) (fun _ _ => rfl) (fun _ _ _ => rfl)
 generalize bP : (aO S.X S.O d name ⟨tk, 3⟩) = bK at JI x3 ul um uo ⊢
 refine gK 1 [(12, .iface 93 (vP (L.b tk)))] [] ?_
 refine gL [] (cq (L.b tk)) ?_
 rintro _ _ ⟨rfl, rfl⟩
 refine gK 1 [(7, vP (L.b tk))] [] ?_
 refine NS ?_
 refine gK 5 [(18, .bool (decide (((obj bK tk).links : Int) = (0 : Int))))] [(3, v_ 1 (kL L x3))] ?_
 refine NN ?_
 refine af.bB (p := ((obj bK tk).links : Int) = (0 : Int)) (fun _ => by kernel_rfl) (fun lQ => ?_) (fun lQ => ?_)
 ·refine SR ?_
  refine gK 3 [(21, .pointer (some ⟨(L.b tk), 8, none⟩))] [] ?_
  refine pR 1 [(2, 1)] tk 8 (fun o => { o with gone := true }) x3 (fun cX cu => ?_)
  have Nc := ku cu JI
  have x5 := ku cu x3
  have LU : (obj cX tk).id = (obj S.O tk).id := fu aS.id cu ul
  have OC : (obj cX tk).opens = (obj S.O tk).opens := fu aS.opens cu um
  have OD : (obj cX tk).data = (obj S.O tk).data := fu aS.data cu uo
  refine NN (af.region ?_)
  refine gK 2 [(22, vP f), (23, .iface 93 (vP (L.b tk)))] [] ?_
  refine gL [1, 0, 3] (nV { S.X with ah := S.X.ah - 1 } f m t (hI.vw hd hlk) cX L S.idx hI.rise ⟨tk, 3⟩ x5 (by simp) (by rw [OC]; exact hop.1) (fun _ => by rw [LU, hid.1]; exact hlv) (by rw [LU]; exact ni) (by rw [OD]; exact hdl)) ?_
  rintro _ _ ⟨rfl, rfl⟩
  refine NL ?_
  exact RF (l := [pF f m t { S.X with ah := S.X.ah - 1, used := iV cX S.X.used ⟨tk, 3⟩ }, pO cX L, pE cX L, pI m L (iF cX S.idx ⟨tk, 3⟩)]) (.tuple #[]) [1, 0, 3, 2, 4] (⟨rfl, by subst cu; subst bP; rw [show ax S d name ⟨tk, 3⟩ = _ from qx lQ] <;> rfl⟩)
 refine af.skip ?_
 exact RF (l := [pF f m t { S.X with ah := S.X.ah - 1 }, pO bK L, pE bK L, pI m L S.idx]) (.tuple #[]) [0, 1, 2, 3, 4] (⟨rfl, by subst bP; rw [show ax S d name ⟨tk, 3⟩ = _ from qy lQ] <;> rfl⟩)
theorem qD {β : Bs} (S : aI) (L : HL) (f m t : Nat) (hI : Inv S) (d : Nat) (hd : Live S.idx ⟨d, 2⟩) (name : ByteArray) (hsz : name.size ≤ 1048576) :
    Spec Tryz.prog β 54 #[vP f, vP (L.b d), .string name] [pF f m t S.X, pI m L S.idx, pE S.O L, pO S.O L] (fun v l => v = vI (bO S.X S.O S.idx d name) ∧ l = [pF f m t S.X, pI m L S.idx, pE S.O L, pO S.O L]) := by
 have hX := hI.hX
 have hel : (obj S.O d).ah.length ≤ 8192 := hI.eS hd
 have hkd : (obj S.O d).kind = 2 := hI.kind hd
 refine Spec.enter Tryz.func54 rfl Tryz.ntmps54 (Nat.le_of_ble_eq_true rfl) (fun R => ?_)
 refine af.seq ?_
 rcases hI.jY hd name with hlk | ⟨tk, hlk, hlv⟩ | ⟨tk, hlk, hlv⟩ | ⟨tk, hlk, hlv⟩
 ·refine af.region ?_
  refine gK 1 [] [] ?_
  refine NN (af.seq (SR ?_))
  refine gK 5 [(10, .map (some (L.m d))), (11, .string name)] [(3, v_ 3 (bC L hkd))] ?_
  refine fR 2 hkd hlk ?_
  refine gK 1 [(13, .bool false)] [] ?_
  refine NN ?_
  refine CF ?_
  refine af.skip (NX (af.seq (SR ?_)))
  refine gK 1 [(14, vP f)] [] ?_
  refine gL [0, 1] (Cq S.X f m t L S.idx) ?_
  rintro _ _ ⟨rfl, rfl⟩
  refine gK 1 [(16, .bool (!(decide (((S.idx.length : Int) < S.X.cN ∧ S.X.last < 1099511627776 ∧ S.X.ah < 8192)))))] [] ?_
  refine NN ?_
  refine af.cr (p := ((S.idx.length : Int) < S.X.cN ∧ S.X.last < 1099511627776 ∧ S.X.ah < 8192)) (fun _ => by kernel_rfl) (fun xq => ?_) (fun xq => ?_)
  ·refine SR ?_
   refine gK 1 [(6, vI 177)] [] ?_
   refine NN (af.ret (aj.ar ?_))
   exact RT (vI 177) [0, 1, 2, 3, 4] (⟨congrArg (Value.int .i64) (Eq.symm (show bO S.X S.O S.idx d name = _ from (if_pos hlk).trans (if_neg xq))), rfl⟩)
  refine af.skip (NX (SR ?_))
  refine gK 1 [(6, vI 0)] [] ?_
  refine NN (af.ret ?_)
  exact RT (vI 0) [0, 1, 2, 3, 4] (⟨congrArg (Value.int .i64) (Eq.symm (show bO S.X S.O S.idx d name = _ from (if_pos hlk).trans (if_pos xq))), rfl⟩)
 ·have hkt : (obj S.O tk).kind = 1 := hI.kind hlv
  refine af.region ?_
  refine gK 1 [] [] ?_
  refine NN (af.seq (SR ?_))
  refine gK 5 [(10, .map (some (L.m d))), (11, .string name)] [(3, v_ 3 (bC L hkd))] ?_
  refine fR 2 hkd hlk ?_
  refine gK 1 [(13, .bool true)] [] ?_
  refine NN ?_
  refine CT ?_
  refine SR ?_
  refine gK 1 [(6, vI 171)] [] ?_
  refine NN (af.ret (aj.ar ?_))
  exact RT (vI 171) [0, 1, 2, 3, 4] (⟨congrArg (Value.int .i64) (Eq.symm (show bO S.X S.O S.idx d name = _ from if_neg (by rw [hlk]; simp))), rfl⟩)
 ·have hkt : (obj S.O tk).kind = 2 := hI.kind hlv
  refine af.region ?_
  refine gK 1 [] [] ?_
  refine NN (af.seq (SR ?_))
  refine gK 5 [(10, .map (some (L.m d))), (11, .string name)] [(3, v_ 3 (bC L hkd))] ?_
  refine fR 2 hkd hlk ?_
  refine gK 1 [(13, .bool true)] [] ?_
  refine NN ?_
  refine CT ?_
  refine SR ?_
  refine gK 1 [(6, vI 171)] [] ?_
  refine NN (af.ret (aj.ar ?_))
  exact RT (vI 171) [0, 1, 2, 3, 4] (⟨congrArg (Value.int .i64) (Eq.symm (show bO S.X S.O S.idx d name = _ from if_neg (by rw [hlk]; simp))), rfl⟩)
 have hkt : (obj S.O tk).kind = 3 := hI.kind hlv
 refine af.region ?_
 refine gK 1 [] [] ?_
 refine NN (af.seq (SR ?_))
 refine gK 5 [(10, .map (some (L.m d))), (11, .string name)] [(3, v_ 3 (bC L hkd))] ?_
 refine fR 2 hkd hlk ?_
 refine gK 1 [(13, .bool true)] [] ?_
 refine NN ?_
 refine CT ?_
 refine SR ?_
 refine gK 1 [(6, vI 171)] [] ?_
 refine NN (af.ret (aj.ar ?_))
 exact RT (vI 171) [0, 1, 2, 3, 4] (⟨congrArg (Value.int .i64) (Eq.symm (show bO S.X S.O S.idx d name = _ from if_neg (by rw [hlk]; simp))), rfl⟩)
theorem Kt {β : Bs} (s : ByteArray) (hsz : s.size ≤ 1048576) :
    Spec Tryz.prog β 105 #[.string s] [] (fun v l => v = vI (kO s) ∧ l = []) := by
 refine Spec.enter Tryz.func105 rfl Tryz.ntmps105 (Nat.le_of_ble_eq_true rfl) (fun R => ?_)
 refine SR ?_
 refine gK 1 [] [] ?_
 refine NN (af.seq (af.block (SR ?_)))
 refine gK 3 [(3, .bool (decide ((s : ByteArray) = ⟨#[]⟩)))] [(1, p_ ⟨[], none, none, none, some (.bool (decide ((s : ByteArray) = ⟨#[]⟩)))⟩ [(Value.bool ((s : ByteArray).toList == (⟨#[]⟩ : ByteArray).toList)) = (.bool (decide ((s : ByteArray) = ⟨#[]⟩)))] ⟨q6 _ _, trivial⟩)] ?_
 refine NN ?_
 refine af.bB (p := (s : ByteArray) = ⟨#[]⟩) (fun _ => by kernel_rfl) (fun h3 => ?_) (fun h3 => ?_)
 ·refine SR ?_
  refine gK 1 [(2, vI 90)] [] ?_
  refine NN (af.ret (aj.aG (aj.ar ?_)))
  exact RT (vI 90) [0] (⟨congrArg (Value.int .i64) (Eq.symm (show kO s = _ from if_pos h3)), rfl⟩)
 refine SR ?_
 refine gK 4 [(6, .bool (decide (((((s : ByteArray).size : Nat) : Int) : Int) > (4096 : Int))))] [] ?_
 refine NN ?_
 refine af.bB (p := ((((s : ByteArray).size : Nat) : Int) : Int) > (4096 : Int)) (fun _ => by kernel_rfl) (fun h6 => ?_) (fun h6 => ?_)
 ·refine SR ?_
  refine gK 1 [(2, vI 93)] [] ?_
  refine NN (af.ret (aj.aG (aj.ar ?_)))
  exact RT (vI 93) [0] (⟨congrArg (Value.int .i64) (Eq.symm (show kO s = _ from (if_neg h3).trans (if_pos (by omega)))), rfl⟩)
 refine SR ?_
 refine gK 1 [(11, .string s)] [] ?_
 refine gL [] (Dc s) ?_
 rintro _ _ ⟨⟨x, rfl, hx⟩, rfl⟩
 refine gK 2 [(10, .bool (decide ((x : Int) ≥ (0 : Int))))] [] ?_
 refine NN ?_
 refine af.bB (p := (x : Int) ≥ (0 : Int)) (fun _ => by kernel_rfl) (fun h10 => ?_) (fun h10 => ?_)
 ·refine SR ?_
  refine gK 1 [(2, vI 91)] [] ?_
  refine NN (af.ret (aj.aG (aj.ar ?_)))
  exact RT (vI 91) [0] (⟨congrArg (Value.int .i64) (Eq.symm (show kO s = _ from (if_neg h3).trans ((if_neg (by omega)).trans (if_neg (hx.1 (by omega)))))), rfl⟩)
 refine af.skip (aj.aT (NX (SR ?_)))
 refine gK 1 [(2, vI 0)] [] ?_
 refine NN (af.ret ?_)
 exact RT (vI 0) [0] (⟨congrArg (Value.int .i64) (Eq.symm (show kO s = _ from (if_neg h3).trans ((if_neg (by omega)).trans (if_pos (Classical.byContradiction (fun hn => absurd (hx.2 hn) (by omega))))))), rfl⟩)
theorem pU {β : Bs} (S : aI) (L : HL) (f m t : Nat) (th : Th) (hkt : (obj S.O th.k).kind = th.kind) (h3 : th.kind = 1 ∨ th.kind = 2 ∨ th.kind = 3) (hop : 0 ≤ (obj S.O th.k).opens ∧ (obj S.O th.k).opens ≤ 1048576) :
    Spec Tryz.prog β 132 #[vP f, (cG L th)] [pF f m t S.X, pT t S.X.cH S.ay L S.us, pO S.O L] (fun v l => v = .tuple #[vI (openM S th).1, vI (openM S th).2.1] ∧ l = [pF f m t S.X, pT t S.X.cH ((openM S th).2.2.ay) L ((openM S th).2.2.us), pO ((openM S th).2.2.O) L]) := by
 refine Spec.enter Tryz.func132 rfl Tryz.ntmps132 (Nat.le_of_ble_eq_true rfl) (fun R => ?_)
 refine af.seq ?_
 obtain ⟨tk, kd⟩ := th; simp only at hkt h3; rcases Int.lt_or_le (S.us.length : Int) S.X.cH with qE | qE <;> rcases h3 with e0 | e0 | e0 <;> subst e0
 ·replace hkt : (obj S.O tk).kind = 1 := hkt
  replace hop : 0 ≤ (obj S.O tk).opens ∧ (obj S.O tk).opens ≤ 1048576 := hop
  refine af.region ?_
  refine gK 2 [] [] ?_
  refine NS ?_
  refine gK 5 [(12, vP t), (13, .iface 89 (vP (L.b tk)))] [(3, a_ 0 f)] ?_
  refine gL [1] ((wi t S.X.cH S.ay (aK L S.us) (cG L ⟨tk, 1⟩) (by rw [mV]; exact qE)).mono (fun v l h => y6 h)) ?_
  rintro _ _ ⟨rfl, rfl⟩
  refine gK 5 [(6, vI ((TabM.least S.us))), (7, vI 0)] [] ?_
  refine NN (af.seq (SR ?_))
  refine gK 2 [(18, .bool true)] [] ?_
  refine NN ?_
  refine CT ?_
  refine af.region ?_
  refine gK 1 [(19, .iface 89 (vP (L.b tk)))] [] ?_
  refine gL [] (cq (L.b tk)) ?_
  rintro _ _ ⟨rfl, rfl⟩
  refine gK 6 (LO S tk L) [(2, v_ 2 (iP L hkt)), (3, p_ ⟨[], none, none, none, some (vI ((obj S.O tk).opens + 1))⟩ [(Value.int .i64 (IntKind.wrap .i64 ((obj S.O tk).opens + 1))) = (vI ((obj S.O tk).opens + 1))] ⟨bJ (by omega) (by omega) (by omega), trivial⟩)] ?_
  refine pR 2 [] tk 7 (fun o => { o with opens := o.opens + 1 }) hkt (fun bK bP => ?_)
  have Qc := ku bP hkt
  refine NS ?_
  refine gK 4 [(4, vI ((TabM.least S.us))), (5, vI 0)] [] ?_
  refine NN (af.ret ?_)
  exact RT (l := [pF f m t S.X, pT t S.X.cH (max S.ay ((S.us.length : Int) + 1)) L (ins (TabM.least S.us) ⟨tk, 1⟩ S.us), pO bK L]) (.tuple #[vI ((TabM.least S.us)), vI 0]) [1, 0, 2, 3] (by subst bP; rw [show openM S ⟨tk, 1⟩ = _ from iq qE] <;> exact ⟨rfl, rfl⟩)
 ·replace hkt : (obj S.O tk).kind = 2 := hkt
  replace hop : 0 ≤ (obj S.O tk).opens ∧ (obj S.O tk).opens ≤ 1048576 := hop
  refine af.region ?_
  refine gK 2 [] [] ?_
  refine NS ?_
  refine gK 5 [(12, vP t), (13, .iface 96 (vP (L.b tk)))] [(3, a_ 0 f)] ?_
  refine gL [1] ((wi t S.X.cH S.ay (aK L S.us) (cG L ⟨tk, 2⟩) (by rw [mV]; exact qE)).mono (fun v l h => y6 h)) ?_
  rintro _ _ ⟨rfl, rfl⟩
  refine gK 5 [(6, vI ((TabM.least S.us))), (7, vI 0)] [] ?_
  refine NN (af.seq (SR ?_))
  refine gK 2 [(18, .bool true)] [] ?_
  refine NN ?_
  refine CT ?_
  refine af.region ?_
  refine gK 1 [(19, .iface 96 (vP (L.b tk)))] [] ?_
  refine gL [] (cq (L.b tk)) ?_
  rintro _ _ ⟨rfl, rfl⟩
  refine gK 6 (LO S tk L) [(2, v_ 2 (iP L hkt)), (3, p_ ⟨[], none, none, none, some (vI ((obj S.O tk).opens + 1))⟩ [(Value.int .i64 (IntKind.wrap .i64 ((obj S.O tk).opens + 1))) = (vI ((obj S.O tk).opens + 1))] ⟨bJ (by omega) (by omega) (by omega), trivial⟩)] ?_
  refine pR 2 [] tk 7 (fun o => { o with opens := o.opens + 1 }) hkt (fun bK bP => ?_)
  have JF := ku bP hkt
  refine NS ?_
  refine gK 4 [(4, vI ((TabM.least S.us))), (5, vI 0)] [] ?_
  refine NN (af.ret ?_)
  exact RT (l := [pF f m t S.X, pT t S.X.cH (max S.ay ((S.us.length : Int) + 1)) L (ins (TabM.least S.us) ⟨tk, 2⟩ S.us), pO bK L]) (.tuple #[vI ((TabM.least S.us)), vI 0]) [1, 0, 2, 3] (by subst bP; rw [show openM S ⟨tk, 2⟩ = _ from iq qE] <;> exact ⟨rfl, rfl⟩)
 ·replace hkt : (obj S.O tk).kind = 3 := hkt
  replace hop : 0 ≤ (obj S.O tk).opens ∧ (obj S.O tk).opens ≤ 1048576 := hop
  refine af.region ?_
  refine gK 2 [] [] ?_
  refine NS ?_
  refine gK 5 [(12, vP t), (13, .iface 93 (vP (L.b tk)))] [(3, a_ 0 f)] ?_
  refine gL [1] ((wi t S.X.cH S.ay (aK L S.us) (cG L ⟨tk, 3⟩) (by rw [mV]; exact qE)).mono (fun v l h => y6 h)) ?_
  rintro _ _ ⟨rfl, rfl⟩
  refine gK 5 [(6, vI ((TabM.least S.us))), (7, vI 0)] [] ?_
  refine NN (af.seq (SR ?_))
  refine gK 2 [(18, .bool true)] [] ?_
  refine NN ?_
  refine CT ?_
  refine af.region ?_
  refine gK 1 [(19, .iface 93 (vP (L.b tk)))] [] ?_
  refine gL [] (cq (L.b tk)) ?_
  rintro _ _ ⟨rfl, rfl⟩
  refine gK 6 (LO S tk L) [(2, v_ 2 (iP L hkt)), (3, p_ ⟨[], none, none, none, some (vI ((obj S.O tk).opens + 1))⟩ [(Value.int .i64 (IntKind.wrap .i64 ((obj S.O tk).opens + 1))) = (vI ((obj S.O tk).opens + 1))] ⟨bJ (by omega) (by omega) (by omega), trivial⟩)] ?_
  refine pR 2 [] tk 7 (fun o => { o with opens := o.opens + 1 }) hkt (fun bK bP => ?_)
  have Bc := ku bP hkt
  refine NS ?_
  refine gK 4 [(4, vI ((TabM.least S.us))), (5, vI 0)] [] ?_
  refine NN (af.ret ?_)
  exact RT (l := [pF f m t S.X, pT t S.X.cH (max S.ay ((S.us.length : Int) + 1)) L (ins (TabM.least S.us) ⟨tk, 3⟩ S.us), pO bK L]) (.tuple #[vI ((TabM.least S.us)), vI 0]) [1, 0, 2, 3] (by subst bP; rw [show openM S ⟨tk, 3⟩ = _ from iq qE] <;> exact ⟨rfl, rfl⟩)
 ·replace hkt : (obj S.O tk).kind = 1 := hkt
  replace hop : 0 ≤ (obj S.O tk).opens ∧ (obj S.O tk).opens ≤ 1048576 := hop
  refine af.region ?_
  refine gK 2 [] [] ?_
  refine NS ?_
  refine gK 5 [(12, vP t), (13, .iface 89 (vP (L.b tk)))] [(3, a_ 0 f)] ?_
  refine gL [1] (tU t S.X.cH S.ay (aK L S.us) (cG L ⟨tk, 1⟩) (by rw [mV]; exact qE)) ?_
  rintro _ _ ⟨rfl, rfl⟩
  refine gK 5 [(6, vI 0), (7, vI 130)] [] ?_
  refine NN (af.seq (SR ?_))
  refine gK 2 [(18, .bool false)] [] ?_
  refine NN ?_
  refine CF ?_
  refine af.skip (NX (SR ?_))
  refine gK 4 [(4, vI 0), (5, vI 130)] [] ?_
  refine NN (af.ret ?_)
  exact RT (.tuple #[vI 0, vI 130]) [1, 0, 2, 3] (by skip; rw [show openM S ⟨tk, 1⟩ = _ from jw (by omega)] <;> exact ⟨rfl, rfl⟩)
 ·replace hkt : (obj S.O tk).kind = 2 := hkt
  replace hop : 0 ≤ (obj S.O tk).opens ∧ (obj S.O tk).opens ≤ 1048576 := hop
  refine af.region ?_
  refine gK 2 [] [] ?_
  refine NS ?_
  refine gK 5 [(12, vP t), (13, .iface 96 (vP (L.b tk)))] [(3, a_ 0 f)] ?_
  refine gL [1] (tU t S.X.cH S.ay (aK L S.us) (cG L ⟨tk, 2⟩) (by rw [mV]; exact qE)) ?_
  rintro _ _ ⟨rfl, rfl⟩
  refine gK 5 [(6, vI 0), (7, vI 130)] [] ?_
  refine NN (af.seq (SR ?_))
  refine gK 2 [(18, .bool false)] [] ?_
  refine NN ?_
  refine CF ?_
  refine af.skip (NX (SR ?_))
  refine gK 4 [(4, vI 0), (5, vI 130)] [] ?_
  refine NN (af.ret ?_)
  exact RT (.tuple #[vI 0, vI 130]) [1, 0, 2, 3] (by skip; rw [show openM S ⟨tk, 2⟩ = _ from jw (by omega)] <;> exact ⟨rfl, rfl⟩)
 replace hkt : (obj S.O tk).kind = 3 := hkt
 replace hop : 0 ≤ (obj S.O tk).opens ∧ (obj S.O tk).opens ≤ 1048576 := hop
 refine af.region ?_
 refine gK 2 [] [] ?_
 refine NS ?_
 refine gK 5 [(12, vP t), (13, .iface 93 (vP (L.b tk)))] [(3, a_ 0 f)] ?_
 refine gL [1] (tU t S.X.cH S.ay (aK L S.us) (cG L ⟨tk, 3⟩) (by rw [mV]; exact qE)) ?_
 rintro _ _ ⟨rfl, rfl⟩
 refine gK 5 [(6, vI 0), (7, vI 130)] [] ?_
 refine NN (af.seq (SR ?_))
 refine gK 2 [(18, .bool false)] [] ?_
 refine NN ?_
 refine CF ?_
 refine af.skip (NX (SR ?_))
 refine gK 4 [(4, vI 0), (5, vI 130)] [] ?_
 refine NN (af.ret ?_)
 exact RT (.tuple #[vI 0, vI 130]) [1, 0, 2, 3] (by skip; rw [show openM S ⟨tk, 3⟩ = _ from jw (by omega)] <;> exact ⟨rfl, rfl⟩)
theorem cY {β : Bs} (S : aI) (L : HL) (f m t : Nat) (hI : Inv S) (h : Int) (hw : (Lit.int .i64 h).wf = true) (name : ByteArray) (hsz : name.size ≤ 1048576) (need : Int) :
    Spec Tryz.prog β 134 #[vP f, vI (h), .string name, vI (need)] [pF f m t S.X, pT t S.X.cH S.ay L S.us, pO S.O L] (fun v l => v = Oq L (cO S.O S.us h name need) ∧ l = [pF f m t S.X, pT t S.X.cH S.ay L S.us, pO S.O L]) := by
 refine Spec.enter Tryz.func134 rfl Tryz.ntmps134 (Nat.le_of_ble_eq_true rfl) (fun R => ?_)
 refine af.seq ?_
 rcases hI.hand h with cF | ⟨tk, cF, hlv⟩ | ⟨tk, cF, hlv⟩
 ·refine af.region ?_
  refine gK 2 [] [] ?_
  refine NS ?_
  refine gK 5 [(18, vP t), (19, vI (h))] [(3, a_ 0 f)] ?_
  refine gL [1] (nQ t S.X.cH S.ay (aK L S.us) h hw (mW cF)) ?_
  rintro _ _ ⟨rfl, rfl⟩
  refine gK 5 [(10, .nilIface), (11, vI 131)] [] ?_
  refine NN (af.seq (SR ?_))
  refine gK 2 [(24, .bool true)] [] ?_
  refine NN ?_
  refine CT ?_
  refine SR ?_
  refine gK 3 [(8, .pointer none), (9, vI 131)] [] ?_
  refine NN (af.ret (aj.ar ?_))
  exact RT (.tuple #[.pointer none, vI 131]) [1, 0, 2, 3] (⟨by rw [show cO S.O S.us h name need = .error 131 by unfold cO; rw [cF]]; rfl, rfl⟩)
 ·have hkt : (obj S.O tk).kind = 1 := hI.kind hlv
  refine af.region ?_
  refine gK 2 [] [] ?_
  refine NS ?_
  refine gK 5 [(18, vP t), (19, vI (h))] [(3, a_ 0 f)] ?_
  refine gL [1] (jF t S.X.cH S.ay (aK L S.us) h hw (cG L ⟨tk, 1⟩) (jb cF)) ?_
  rintro _ _ ⟨rfl, rfl⟩
  refine gK 5 [(10, .iface 89 (vP (L.b tk))), (11, vI 0)] [] ?_
  refine NN (af.seq (SR ?_))
  refine gK 2 [(24, .bool false)] [] ?_
  refine NN ?_
  refine CF ?_
  refine af.skip (NX (SR ?_))
  refine gK 7 [(12, .pointer none), (13, .bool false)] [] ?_
  refine NN (af.seq (af.block (SR ?_)))
  refine gK 3 [(31, .bool true)] [] ?_
  refine NN ?_
  refine CT ?_
  refine SR ?_
  refine gK 2 [(8, .pointer none), (9, vI 173)] [] ?_
  refine NN (af.ret (aj.aG (aj.ar ?_)))
  exact RT (.tuple #[.pointer none, vI 173]) [1, 0, 2, 3] (⟨by rw [show cO S.O S.us h name need = .error 173 by unfold cO; rw [cF]; exact if_neg (by simp)]; rfl, rfl⟩)
 have hkt : (obj S.O tk).kind = 2 := hI.kind hlv
 refine af.region ?_
 refine gK 2 [] [] ?_
 refine NS ?_
 refine gK 5 [(18, vP t), (19, vI (h))] [(3, a_ 0 f)] ?_
 refine gL [1] (jF t S.X.cH S.ay (aK L S.us) h hw (cG L ⟨tk, 2⟩) (jb cF)) ?_
 rintro _ _ ⟨rfl, rfl⟩
 refine gK 5 [(10, .iface 96 (vP (L.b tk))), (11, vI 0)] [] ?_
 refine NN (af.seq (SR ?_))
 refine gK 2 [(24, .bool false)] [] ?_
 refine NN ?_
 refine CF ?_
 refine af.skip (NX (SR ?_))
 refine gK 7 [(12, vP (L.b tk)), (13, .bool true)] [] ?_
 refine NN (af.seq (af.block (SR ?_)))
 refine gK 3 [(31, .bool false)] [] ?_
 refine NN ?_
 refine CF ?_
 refine SR ?_
 refine gK 6 [(34, .bool (obj S.O tk).gone)] [(4, v_ 2 (kT L hkt))] ?_
 refine NN ?_
 refine af.cond (b := (obj S.O tk).gone) (fun _ => by kernel_rfl) (fun vE => ?_) (fun vE => ?_)
 ·refine SR ?_
  refine gK 2 [(8, .pointer none), (9, vI 170)] [] ?_
  refine NN (af.ret (aj.aG (aj.ar ?_)))
  exact RT (.tuple #[.pointer none, vI 170]) [1, 0, 2, 3] (⟨by rw [show cO S.O S.us h name need = .error 170 by unfold cO; rw [cF]; exact (if_pos rfl).trans (if_pos vE)]; rfl, rfl⟩)
 refine SR ?_
 refine gK 1 [(41, .string name)] [] ?_
 refine gL [] (pz name hsz) ?_
 rintro _ _ ⟨rfl, rfl⟩
 refine gK 2 [(40, .bool (!(decide (bE name))))] [] ?_
 refine NN ?_
 refine af.cr (p := bE name) (fun _ => by kernel_rfl) (fun JJ => ?_) (fun JJ => ?_)
 ·refine SR ?_
  refine gK 2 [(8, .pointer none), (9, vI 95)] [] ?_
  refine NN (af.ret (aj.aG (aj.ar ?_)))
  exact RT (.tuple #[.pointer none, vI 95]) [1, 0, 2, 3] (⟨by rw [show cO S.O S.us h name need = .error 95 by unfold cO; rw [cF]; exact (if_pos rfl).trans ((if_neg (by rw [vE]; decide)).trans (if_neg JJ))]; rfl, rfl⟩)
 refine SR ?_
 refine gK 10 [(44, .bool (!(decide ((bits BinOp.and .i64 ((obj S.O tk).mode) need : Int) = (need : Int)))))] [(4, v_ 2 (LG L hkt))] ?_
 refine NN ?_
 refine af.cr (p := (bits BinOp.and .i64 ((obj S.O tk).mode) need : Int) = (need : Int)) (fun _ => by kernel_rfl) (fun FD => ?_) (fun FD => ?_)
 ·refine SR ?_
  refine gK 2 [(8, .pointer none), (9, vI 175)] [] ?_
  refine NN (af.ret (aj.aG (aj.ar ?_)))
  exact RT (.tuple #[.pointer none, vI 175]) [1, 0, 2, 3] (⟨by rw [show cO S.O S.us h name need = .error 175 by unfold cO; rw [cF]; exact (if_pos rfl).trans ((if_neg (by rw [vE]; decide)).trans ((if_pos JJ).trans (if_neg FD)))]; rfl, rfl⟩)
 refine af.skip (aj.aT (NX (SR ?_)))
 refine gK 3 [(8, vP (L.b tk)), (9, vI 0)] [] ?_
 refine NN (af.ret ?_)
 exact RT (.tuple #[vP (L.b tk), vI 0]) [1, 0, 2, 3] (⟨by rw [show cO S.O S.us h name need = .ok tk by unfold cO; rw [cF]; exact (if_pos rfl).trans ((if_neg (by rw [vE]; decide)).trans ((if_pos JJ).trans (if_pos FD)))]; rfl, rfl⟩)
theorem Ku {β : Bs} (X : FM) (f m t : Nat) (hX : 0 ≤ X.ah ∧ X.ah ≤ 1048576 ∧ -1125899906842624 ≤ X.used ∧ X.used ≤ 1125899906842624 ∧ 0 ≤ X.last ∧ X.last ≤ 1125899906842624) (O : bM) (L : HL) (d : Nat) (hkd : (obj O d).kind = 2) (name : ByteArray) (hsz : name.size ≤ 1048576) (hno : aU name (obj O d).ah = none) (hel : (obj O d).ah.length ≤ 1048576) (idx : Used Th) (hil : idx.length ≤ 1048576) (th : Th) (hkt : (obj O th.k).kind = th.kind) (h3 : th.kind = 1 ∨ th.kind = 2 ∨ th.kind = 3) (hb : 0 ≤ (obj O th.k).links ∧ (obj O th.k).links ≤ 1048576) (hni : TabM.get idx (obj O th.k).id = none) (hw : (Lit.int .i64 (obj O th.k).id).wf = true) :
    Spec Tryz.prog β 56 #[vP f, vP (L.b d), .string name, (cG L th)] [pF f m t X, pI m L idx, pO O L, pE O L] (fun v l => v = .tuple #[] ∧ l = [pF f m t { X with ah := X.ah + 1 }, pI m L (ins (obj O th.k).id th idx), pO (br X O d name th) L, pE (br X O d name th) L]) := by
 refine Spec.enter Tryz.func56 rfl Tryz.ntmps56 (Nat.le_of_ble_eq_true rfl) (fun R => ?_)
 refine af.seq ?_
 obtain ⟨tk, kd⟩ := th; simp only at hkt h3; rcases h3 with rfl | rfl | rfl
 ·replace hkt : (obj O tk).kind = 1 := hkt
  replace hni : TabM.get idx (obj O tk).id = none := hni
  replace hw : (Lit.int .i64 (obj O tk).id).wf = true := hw
  refine af.bZ (S := (sX f m t X L idx O R)) [0, 1, 2, 3, 4, 9, 5, 6, 7, 8, 10] 6 [0, 1, 2, 3, 4] (by kernel_rfl) (by kernel_rfl) rfl (by kernel_rfl) ?_
  refine aJ.reads (r := 0) (l := [5, 6, 7, 8, 10]) (fr' := (sW f L d name ++ [(3, .iface 89 (vP (L.b tk))), (11, .map (some m)), (12, .iface 89 (vP (L.b tk))), (17, .iface 89 (vP (L.b tk)))])) (aq := [f = f]) [0, 1, 2, 3, 4, 9] [o_, o_, o_, ⟨[.at 0], none, none, none, none⟩, o_, o_] [0, 1, 2, 3, 11, 12, 17] (fun _ => by kernel_rfl) ⟨rfl, trivial⟩ rfl rfl ?_
  refine mL [0, 1, 2, 3, 4] [] (cq (L.b tk)) ?_ (by rintro _ _ ⟨rfl, rfl⟩; rfl)
  rintro _ _ ⟨rfl, rfl⟩
  refine aJ.cut (ι := Unit) (fr' := fun (_ : Unit) => (sW f L d name ++ [(3, .iface 89 (vP (L.b tk))), (11, .map (some m)), (14, vP (L.b tk)), (17, .iface 89 (vP (L.b tk)))])) (hp' := fun (_ : Unit) => (sX f m t X L idx O R)) [0, 1, 2, 3, 4] rfl rfl ?_ rfl (fun _ => by kernel_rfl) ?_
  ·refine gK 1 [(14, vP (L.b tk))] [] ?_
   refine NL ?_
   exact MD () [0, 1, 2, 3, 11, 14, 17] [0, 1, 2, 3, 4]
  rintro _
  refine aJ.cut (ι := Unit) (fr' := fun (_ : Unit) => (sW f L d name ++ [(3, .iface 89 (vP (L.b tk))), (11, .map (some m)), (15, vP (L.b tk)), (17, .iface 89 (vP (L.b tk)))])) (hp' := fun (_ : Unit) => (sX f m t X L idx O R)) [0, 1, 2, 3, 4] rfl rfl ?_ rfl (fun _ => by kernel_rfl) ?_
  ·refine gK 1 [(15, vP (L.b tk))] [] ?_
   refine NL ?_
   exact MD () [0, 1, 2, 3, 11, 15, 17] [0, 1, 2, 3, 4]
  rintro _
  refine aJ.cut (ι := Unit) (fr' := fun (_ : Unit) => (sW f L d name ++ [(3, .iface 89 (vP (L.b tk))), (11, .map (some m)), (16, vI ((obj O tk).id)), (17, .iface 89 (vP (L.b tk)))])) (hp' := fun (_ : Unit) => (sX f m t X L idx O R)) [0, 1, 2, 3, 4] rfl rfl ?_ rfl (fun _ => by kernel_rfl) ?_
  ·refine gK 1 [(16, vI ((obj O tk).id))] [(0, v_ 2 (zh L hkt))] ?_
   refine NL ?_
   exact MD () [0, 1, 2, 3, 11, 16, 17] [0, 1, 2, 3, 4]
  rintro _
  refine aJ.last rfl rfl ?_
  refine ai.j7 1 (d := none) (t := 80) (K := 3) (E := 84) (b := m) (n := idx.length) (f := (aP (aK L idx))) (x := (.tmp 11)) (ix := (.tmp 16)) (y := (.tmp 17)) (key := vI ((obj O tk).id)) (u := .iface 89 (vP (L.b tk))) (kl := (.int .i64 (obj O tk).id)) (n' := (idx.length + 1)) (f' := (aP (aK L (ins (obj O tk).id ⟨tk, 1⟩ idx)))) (fun _ => by kernel_rfl) (by kernel_rfl) (fun _ => by kernel_rfl) (fun _ => by kernel_rfl) (fun _ => by kernel_rfl) dz Tryz.underlying80 (by unfold maxLen; omega) (gX hw) (by rw [dO, hni]; rfl) (o4 (L := L) (t := ⟨tk, 1⟩) hni) ?_
  refine NL (aj.np (NX (af.region ?_)))
  refine gK 4 (LK f L d name ++ [(21, .iface 89 (vP (L.b tk)))]) [] ?_
  refine gL [0, 2, 3] (fV X f m t hX O L d hkd name hsz hno hel ⟨tk, 1⟩ hkt (by simp) hb) ?_
  rintro _ _ ⟨rfl, rfl⟩
  refine NL ?_
  refine aj.mem (aL := [.blk f [vI (X.cN), vI (X.cB), vI (X.cH), vI (X.cS), vI (X.cZ), .map (some m), vP t, vI (X.last), vI (X.ah + 1), vI (X.used)] 86, .abs (ak (aQ (br X O d name ⟨tk, 1⟩) L)), .abs (ak (bh (br X O d name ⟨tk, 1⟩) L)), .abs (aH Tryz.prog 3 m (aP (aK L (ins (obj O tk).id ⟨tk, 1⟩ idx))) ((ins (obj O tk).id ⟨tk, 1⟩ idx).length)), .abs R]) (fun w hS => by rw [show (ins (obj O tk).id ⟨tk, 1⟩ idx).length = idx.length + 1 from gq _ _ _]; exact hS) ?_
  exact RF (.tuple #[]) [0, 3, 1, 2, 4] (⟨rfl, rfl⟩)
 ·replace hkt : (obj O tk).kind = 2 := hkt
  replace hni : TabM.get idx (obj O tk).id = none := hni
  replace hw : (Lit.int .i64 (obj O tk).id).wf = true := hw
  refine af.bZ (S := (sX f m t X L idx O R)) [0, 1, 2, 3, 4, 9, 5, 6, 7, 8, 10] 6 [0, 1, 2, 3, 4] (by kernel_rfl) (by kernel_rfl) rfl (by kernel_rfl) ?_
  refine aJ.reads (r := 0) (l := [5, 6, 7, 8, 10]) (fr' := (sW f L d name ++ [(3, .iface 96 (vP (L.b tk))), (11, .map (some m)), (12, .iface 96 (vP (L.b tk))), (17, .iface 96 (vP (L.b tk)))])) (aq := [f = f]) [0, 1, 2, 3, 4, 9] [o_, o_, o_, ⟨[.at 0], none, none, none, none⟩, o_, o_] [0, 1, 2, 3, 11, 12, 17] (fun _ => by kernel_rfl) ⟨rfl, trivial⟩ rfl rfl ?_
  refine mL [0, 1, 2, 3, 4] [] (cq (L.b tk)) ?_ (by rintro _ _ ⟨rfl, rfl⟩; rfl)
  rintro _ _ ⟨rfl, rfl⟩
  refine aJ.cut (ι := Unit) (fr' := fun (_ : Unit) => (sW f L d name ++ [(3, .iface 96 (vP (L.b tk))), (11, .map (some m)), (14, vP (L.b tk)), (17, .iface 96 (vP (L.b tk)))])) (hp' := fun (_ : Unit) => (sX f m t X L idx O R)) [0, 1, 2, 3, 4] rfl rfl ?_ rfl (fun _ => by kernel_rfl) ?_
  ·refine gK 1 [(14, vP (L.b tk))] [] ?_
   refine NL ?_
   exact MD () [0, 1, 2, 3, 11, 14, 17] [0, 1, 2, 3, 4]
  rintro _
  refine aJ.cut (ι := Unit) (fr' := fun (_ : Unit) => (sW f L d name ++ [(3, .iface 96 (vP (L.b tk))), (11, .map (some m)), (15, vP (L.b tk)), (17, .iface 96 (vP (L.b tk)))])) (hp' := fun (_ : Unit) => (sX f m t X L idx O R)) [0, 1, 2, 3, 4] rfl rfl ?_ rfl (fun _ => by kernel_rfl) ?_
  ·refine gK 1 [(15, vP (L.b tk))] [] ?_
   refine NL ?_
   exact MD () [0, 1, 2, 3, 11, 15, 17] [0, 1, 2, 3, 4]
  rintro _
  refine aJ.cut (ι := Unit) (fr' := fun (_ : Unit) => (sW f L d name ++ [(3, .iface 96 (vP (L.b tk))), (11, .map (some m)), (16, vI ((obj O tk).id)), (17, .iface 96 (vP (L.b tk)))])) (hp' := fun (_ : Unit) => (sX f m t X L idx O R)) [0, 1, 2, 3, 4] rfl rfl ?_ rfl (fun _ => by kernel_rfl) ?_
  ·refine gK 1 [(16, vI ((obj O tk).id))] [(0, v_ 2 (zh L hkt))] ?_
   refine NL ?_
   exact MD () [0, 1, 2, 3, 11, 16, 17] [0, 1, 2, 3, 4]
  rintro _
  refine aJ.last rfl rfl ?_
  refine ai.j7 1 (d := none) (t := 80) (K := 3) (E := 84) (b := m) (n := idx.length) (f := (aP (aK L idx))) (x := (.tmp 11)) (ix := (.tmp 16)) (y := (.tmp 17)) (key := vI ((obj O tk).id)) (u := .iface 96 (vP (L.b tk))) (kl := (.int .i64 (obj O tk).id)) (n' := (idx.length + 1)) (f' := (aP (aK L (ins (obj O tk).id ⟨tk, 2⟩ idx)))) (fun _ => by kernel_rfl) (by kernel_rfl) (fun _ => by kernel_rfl) (fun _ => by kernel_rfl) (fun _ => by kernel_rfl) dz Tryz.underlying80 (by unfold maxLen; omega) (gX hw) (by rw [dO, hni]; rfl) (o4 (L := L) (t := ⟨tk, 2⟩) hni) ?_
  refine NL (aj.np (NX (af.region ?_)))
  refine gK 4 (LK f L d name ++ [(21, .iface 96 (vP (L.b tk)))]) [] ?_
  refine gL [0, 2, 3] (fV X f m t hX O L d hkd name hsz hno hel ⟨tk, 2⟩ hkt (by simp) hb) ?_
  rintro _ _ ⟨rfl, rfl⟩
  refine NL ?_
  refine aj.mem (aL := [.blk f [vI (X.cN), vI (X.cB), vI (X.cH), vI (X.cS), vI (X.cZ), .map (some m), vP t, vI (X.last), vI (X.ah + 1), vI (X.used)] 86, .abs (ak (aQ (br X O d name ⟨tk, 2⟩) L)), .abs (ak (bh (br X O d name ⟨tk, 2⟩) L)), .abs (aH Tryz.prog 3 m (aP (aK L (ins (obj O tk).id ⟨tk, 2⟩ idx))) ((ins (obj O tk).id ⟨tk, 2⟩ idx).length)), .abs R]) (fun w hS => by rw [show (ins (obj O tk).id ⟨tk, 2⟩ idx).length = idx.length + 1 from gq _ _ _]; exact hS) ?_
  exact RF (.tuple #[]) [0, 3, 1, 2, 4] (⟨rfl, rfl⟩)
 replace hkt : (obj O tk).kind = 3 := hkt
 replace hni : TabM.get idx (obj O tk).id = none := hni
 replace hw : (Lit.int .i64 (obj O tk).id).wf = true := hw
 refine af.bZ (S := (sX f m t X L idx O R)) [0, 1, 2, 3, 4, 9, 5, 6, 7, 8, 10] 6 [0, 1, 2, 3, 4] (by kernel_rfl) (by kernel_rfl) rfl (by kernel_rfl) ?_
 refine aJ.reads (r := 0) (l := [5, 6, 7, 8, 10]) (fr' := (sW f L d name ++ [(3, .iface 93 (vP (L.b tk))), (11, .map (some m)), (12, .iface 93 (vP (L.b tk))), (17, .iface 93 (vP (L.b tk)))])) (aq := [f = f]) [0, 1, 2, 3, 4, 9] [o_, o_, o_, ⟨[.at 0], none, none, none, none⟩, o_, o_] [0, 1, 2, 3, 11, 12, 17] (fun _ => by kernel_rfl) ⟨rfl, trivial⟩ rfl rfl ?_
 refine mL [0, 1, 2, 3, 4] [] (cq (L.b tk)) ?_ (by rintro _ _ ⟨rfl, rfl⟩; rfl)
 rintro _ _ ⟨rfl, rfl⟩
 refine aJ.cut (ι := Unit) (fr' := fun (_ : Unit) => (sW f L d name ++ [(3, .iface 93 (vP (L.b tk))), (11, .map (some m)), (14, vP (L.b tk)), (17, .iface 93 (vP (L.b tk)))])) (hp' := fun (_ : Unit) => (sX f m t X L idx O R)) [0, 1, 2, 3, 4] rfl rfl ?_ rfl (fun _ => by kernel_rfl) ?_
 ·refine gK 1 [(14, vP (L.b tk))] [] ?_
  refine NL ?_
  exact MD () [0, 1, 2, 3, 11, 14, 17] [0, 1, 2, 3, 4]
 rintro _
 refine aJ.cut (ι := Unit) (fr' := fun (_ : Unit) => (sW f L d name ++ [(3, .iface 93 (vP (L.b tk))), (11, .map (some m)), (15, vP (L.b tk)), (17, .iface 93 (vP (L.b tk)))])) (hp' := fun (_ : Unit) => (sX f m t X L idx O R)) [0, 1, 2, 3, 4] rfl rfl ?_ rfl (fun _ => by kernel_rfl) ?_
 ·refine gK 1 [(15, vP (L.b tk))] [] ?_
  refine NL ?_
  exact MD () [0, 1, 2, 3, 11, 15, 17] [0, 1, 2, 3, 4]
 rintro _
 refine aJ.cut (ι := Unit) (fr' := fun (_ : Unit) => (sW f L d name ++ [(3, .iface 93 (vP (L.b tk))), (11, .map (some m)), (16, vI ((obj O tk).id)), (17, .iface 93 (vP (L.b tk)))])) (hp' := fun (_ : Unit) => (sX f m t X L idx O R)) [0, 1, 2, 3, 4] rfl rfl ?_ rfl (fun _ => by kernel_rfl) ?_
 ·refine gK 1 [(16, vI ((obj O tk).id))] [(0, v_ 2 (zh L hkt))] ?_
  refine NL ?_
  exact MD () [0, 1, 2, 3, 11, 16, 17] [0, 1, 2, 3, 4]
 rintro _
 refine aJ.last rfl rfl ?_
 refine ai.j7 1 (d := none) (t := 80) (K := 3) (E := 84) (b := m) (n := idx.length) (f := (aP (aK L idx))) (x := (.tmp 11)) (ix := (.tmp 16)) (y := (.tmp 17)) (key := vI ((obj O tk).id)) (u := .iface 93 (vP (L.b tk))) (kl := (.int .i64 (obj O tk).id)) (n' := (idx.length + 1)) (f' := (aP (aK L (ins (obj O tk).id ⟨tk, 3⟩ idx)))) (fun _ => by kernel_rfl) (by kernel_rfl) (fun _ => by kernel_rfl) (fun _ => by kernel_rfl) (fun _ => by kernel_rfl) dz Tryz.underlying80 (by unfold maxLen; omega) (gX hw) (by rw [dO, hni]; rfl) (o4 (L := L) (t := ⟨tk, 3⟩) hni) ?_
 refine NL (aj.np (NX (af.region ?_)))
 refine gK 4 (LK f L d name ++ [(21, .iface 93 (vP (L.b tk)))]) [] ?_
 refine gL [0, 2, 3] (fV X f m t hX O L d hkd name hsz hno hel ⟨tk, 3⟩ hkt (by simp) hb) ?_
 rintro _ _ ⟨rfl, rfl⟩
 refine NL ?_
 refine aj.mem (aL := [.blk f [vI (X.cN), vI (X.cB), vI (X.cH), vI (X.cS), vI (X.cZ), .map (some m), vP t, vI (X.last), vI (X.ah + 1), vI (X.used)] 86, .abs (ak (aQ (br X O d name ⟨tk, 3⟩) L)), .abs (ak (bh (br X O d name ⟨tk, 3⟩) L)), .abs (aH Tryz.prog 3 m (aP (aK L (ins (obj O tk).id ⟨tk, 3⟩ idx))) ((ins (obj O tk).id ⟨tk, 3⟩ idx).length)), .abs R]) (fun w hS => by rw [show (ins (obj O tk).id ⟨tk, 3⟩ idx).length = idx.length + 1 from gq _ _ _]; exact hS) ?_
 exact RF (.tuple #[]) [0, 3, 1, 2, 4] (⟨rfl, rfl⟩)
end
section
open Go.RowKit Go.Maps HeapM TabM
attribute [local irreducible] ai aR af aj
abbrev x6 (f : Nat) (m : Nat) (t) (S : aI) := (pF f m t { S.X with last := S.X.last + 1 } : HP)
abbrev JK (S : aI) (text) (L2 : HL) := (pO (aB S.O (aE S.X) (fun _ => { aD S.X 3 511 with target := text })) L2 : HP)
abbrev LV (S : aI) (text) (L2 : HL) := (pE (aB S.O (aE S.X) (fun _ => { aD S.X 3 511 with target := text })) L2 : HP)
abbrev NE (S : aI) (mode) (L2 : HL) (f : Nat) (m : Nat) (t) (L : HL) := ([pE (aB S.O (aE S.X) (fun _ => (aD S.X 2 mode))) L2, pO (aB S.O (aE S.X) (fun _ => (aD S.X 2 mode))) L2, x6 f m t S, pI m L S.idx, pT t S.X.cH S.ay L S.us] : List HP)
theorem oP {β : Bs} (S : aI) (L : HL) (f m t : Nat) (hI : Inv0 S) (d : Nat) (hd : Live S.idx ⟨d, 2⟩) (name : ByteArray) (hsz : name.size ≤ 1048576) (hno : aU name (obj S.O d).ah = none) (o : aS) (hid : o.id = S.X.last + 1) (hk3 : o.kind = 1 ∨ o.kind = 2 ∨ o.kind = 3) (hl0 : o.links = 0) (hlast : S.X.last < 1099511627776) :
    Spec Tryz.prog β 56 #[vP f, vP (L.b d), .string name, cG L ⟨(aE S.X), o.kind⟩] [x6 f m t S, pI m L S.idx, pO (aB S.O (aE S.X) (fun _ => o)) L, pE (aB S.O (aE S.X) (fun _ => o)) L] (fun v l => v = .tuple #[] ∧ l = [pF f m t ((bD S d name o).X), pI m L ((bD S d name o).idx), pO ((bD S d name o).O) L, pE ((bD S d name o).O) L]) := by
  have hX := hI.hX
  have hne : d ≠ (aE S.X) := hI.rF hd
  have hkd : (obj S.O d).kind = 2 := hI.kind hd
  have hel : (obj S.O d).ah.length ≤ 8192 := hI.eS hd
  have hlen := hI.len
  have e1 : obj (aB S.O (aE S.X) (fun _ => o)) (aE S.X) = o := bH
  have e2 : obj (aB S.O (aE S.X) (fun _ => o)) d = obj S.O d := bS hne
  have hnk := mX hI
  have h := Ku (β := β) { S.X with last := S.X.last + 1 } f m t (by simp only; omega) (aB S.O (aE S.X) (fun _ => o)) L d (by rw [e2]; exact hkd) name hsz (by rw [e2]; exact hno) (by rw [e2]; omega) S.idx (by omega) ⟨(aE S.X), o.kind⟩ (by rw [e1]) hk3 (by rw [e1, hl0]; decide) (by
    rw [e1, hid]
    cases e : TabM.get S.idx (S.X.last + 1) with
    | none => rfl
    | some u => have := (hI.idx _ u e).2.2; omega) (by rw [e1, hid]; exact WalkArith.wf_i64 (by have := hI.last; omega))
  rw [e1, hid] at h
  exact h
theorem Ai {β : Bs} (S : aI) (L : HL) (f m t : Nat) (hI : Inv S) (d : Nat) (hd : Live S.idx ⟨d, 2⟩) (name : ByteArray) (hsz : name.size ≤ 1048576) (mode : Int) :
    Spec Tryz.prog β 58 #[vP f, vP (L.b d), .string name, vI (mode)] (pA f m t L S) (fun v l => ∃ L2, v = vI (mkdirM S d name mode).1 ∧ l = (pA f m t L2 ((mkdirM S d name mode).2))) := by
 have hX := hI.hX
 have hel : (obj S.O d).ah.length ≤ 8192 := hI.eS hd
 have hkd : (obj S.O d).kind = 2 := hI.kind hd
 refine Spec.enter Tryz.func58 rfl Tryz.ntmps58 (Nat.le_of_ble_eq_true rfl) (fun R => ?_)
 refine SR ?_
 refine gK 1 [] [] ?_
 refine NS ?_
 refine gK 3 [(10, vP f), (11, vP (L.b d)), (12, .string name)] [] ?_
 refine gL [0, 1, 5, 3] (qD S L f m t hI d hd name hsz) ?_
 rintro _ _ ⟨rfl, rfl⟩
 refine gK 1 [(9, vI ((bO S.X S.O S.idx d name)))] [] ?_
 refine NN (af.seq (SR ?_))
 refine gK 2 [(15, .bool (decide (((bO S.X S.O S.idx d name) : Int) = (0 : Int))))] [] ?_
 refine NN ?_
 refine af.bB (p := ((bO S.X S.O S.idx d name) : Int) = (0 : Int)) (fun _ => by kernel_rfl) (fun h0 => ?_) (fun h0 => ?_)
 ·have hno := lY h0
  refine af.region ?_
  refine gK 5 [(16, vP f), (17, vP (L.b d)), (18, .string name), (19, vP f), (20, vI (mode))] [] ?_
  refine gL [0] (qC S.X f m t hX mode) ?_
  rintro _ _ ⟨rfl, rfl⟩
  refine ai.lM (d := (some 22)) (t := 97) (fun _ => by kernel_rfl) Tryz.prog rfl 9 (fun m1 => ?_)
  refine gN 3 (fun b2 => [(25, .iface 96 (vP b2))]) (fun _ => []) (fun _ => []) (fun b2 => .blk b2 [vI (S.X.last + 1), vI (mode), vI 0, vI 0, vI (S.X.cS), vI (S.X.cZ), vI 0, vI 0, .bool false, .map (some m1), .pointer none] 99) (fun b2 => ?_)
  obtain ⟨L2, hL2⟩ : ∃ L2 : HL, L2 = L.put (aE S.X) b2 m1 none 0 := ⟨_, rfl⟩
  have hfr := hI.toInv0.fresh
  refine ai.mem (aL := [.abs (ak (aQ (aB S.O (aE S.X) (fun _ => (aD S.X 2 mode))) L2)), .blk f [vI (S.X.cN), vI (S.X.cB), vI (S.X.cH), vI (S.X.cS), vI (S.X.cZ), .map (some m), vP t, vI (S.X.last + 1), vI (S.X.ah), vI (S.X.used)] 86, .abs (aH Tryz.prog 3 m (aP (aK L S.idx)) S.idx.length), .abs (ak (bh S.O L)), .abs (aZ 156 t S.X.cH S.ay (aK L S.us)), .abs (ak (aW S.O L)), .abs R, .abs (aH Tryz.prog 9 m1 (fun _ => none) 0)]) (fun w hS => hS.qA hL2 hfr (o := (aD S.X 2 mode)) (i := 3) (j := 8) (ix := [0, 1, 2, 4, 5, 6, 7]) rfl rfl (by kernel_rfl) rfl (by show (2 : Int) ≠ 0; decide) ((gV (L := L2) (k := (aE S.X)) (o := (aD S.X 2 mode)) rfl).trans (by rw [Cd hL2]; rfl)) rfl) ?_
  refine ai.mem (aL := (NE S mode L2 f m t L ++ [pD S.O L, .abs R])) (fun w hS => hS.JB hL2 hfr (o := (aD S.X 2 mode)) (i := 3) (j := 7) (ix := [0, 1, 2, 4, 5, 6]) rfl rfl (by kernel_rfl) rfl rfl rfl) ?_
  refine ai.mem (aL := (NE S mode L2 f m t L ++ [pD (aB S.O (aE S.X) (fun _ => (aD S.X 2 mode))) L2, .abs R])) (fun w hS => hS.xD hL2 (o := (aD S.X 2 mode)) (i := 5) rfl (by show (2 : Int) ≠ 1; decide)) ?_
  refine ai.mem (aL := [.abs (ak (bh (aB S.O (aE S.X) (fun _ => (aD S.X 2 mode))) L2)), .abs (ak (aQ (aB S.O (aE S.X) (fun _ => (aD S.X 2 mode))) L2)), .blk f [vI (S.X.cN), vI (S.X.cB), vI (S.X.cH), vI (S.X.cS), vI (S.X.cZ), .map (some m), vP t, vI (S.X.last + 1), vI (S.X.ah), vI (S.X.used)] 86, .abs (aH Tryz.prog 3 m (aP (aK L2 S.idx)) S.idx.length), .abs (aZ 156 t S.X.cH S.ay (aK L2 S.us)), .abs (ak (aW (aB S.O (aE S.X) (fun _ => (aD S.X 2 mode))) L2)), .abs R]) (fun w hS => by rw [fo hL2 hfr.idx, fo hL2 hfr.us]; exact hS) ?_
  refine gL (f := 56) (args := #[vP f, vP (L.b d), .string name, .iface 96 (vP b2)]) (pre := [x6 f m t S, pI m L2 S.idx, pO (aB S.O (aE S.X) (fun _ => (aD S.X 2 mode))) L2, pE (aB S.O (aE S.X) (fun _ => (aD S.X 2 mode))) L2]) [2, 3, 1, 0] ((by have h := oP (β := β) S L2 f m t hI.toInv0 d hd name hsz hno (aD S.X 2 mode) rfl (by simp [aD]) rfl (nI h0); rw [su hL2 (hI.rF hd), lX hL2] at h; exact h)) ?_
  rintro _ _ ⟨rfl, rfl⟩
  refine NS ?_
  refine ai.mem (aL := [.blk f [vI ((bD S d name (aD S.X 2 mode)).X.cN), vI ((bD S d name (aD S.X 2 mode)).X.cB), vI ((bD S d name (aD S.X 2 mode)).X.cH), vI ((bD S d name (aD S.X 2 mode)).X.cS), vI ((bD S d name (aD S.X 2 mode)).X.cZ), .map (some m), vP t, vI ((bD S d name (aD S.X 2 mode)).X.last), vI ((bD S d name (aD S.X 2 mode)).X.ah), vI ((bD S d name (aD S.X 2 mode)).X.used)] 86, .abs (aH Tryz.prog 3 m (aP (aK L2 (bD S d name (aD S.X 2 mode)).idx)) ((bD S d name (aD S.X 2 mode)).idx.length)), .abs (ak (aQ ((bD S d name (aD S.X 2 mode)).O) L2)), .abs (ak (bh ((bD S d name (aD S.X 2 mode)).O) L2)), .abs (aZ 156 t S.X.cH S.ay (aK L2 S.us)), .abs (ak (aW ((bD S d name (aD S.X 2 mode)).O) L2)), .abs R]) (fun w hS => by rw [show aW ((bD S d name (aD S.X 2 mode)).O) L2 = aW (aB S.O (aE S.X) (fun _ => (aD S.X 2 mode))) L2 from fI]; exact hS) ?_
  refine gK 2 [(8, vI ((bO S.X S.O S.idx d name)))] [] ?_
  refine NN (af.ret ?_)
  exact RT (vI ((bO S.X S.O S.idx d name))) [0, 1, 4, 2, 5, 3, 6] (⟨L2, by rw [show mkdirM S d name mode = _ from if_pos h0]; refine ⟨congrArg _ h0, ?_⟩; rfl⟩)
 refine af.skip (NX (SR ?_))
 refine gK 2 [(8, vI ((bO S.X S.O S.idx d name)))] [] ?_
 refine NN (af.ret ?_)
 exact RT (vI ((bO S.X S.O S.idx d name))) [0, 1, 4, 3, 5, 2, 6] (⟨L, by rw [show mkdirM S d name mode = _ from if_neg h0] <;> exact ⟨rfl, rfl⟩⟩)
theorem vF {β : Bs} (S : aI) (L : HL) (f m t : Nat) (hI : Inv S) (d : Nat) (hd : Live S.idx ⟨d, 2⟩) (name : ByteArray) (hsz : name.size ≤ 1048576) (text : ByteArray) (JL : text.size ≤ 1048576) :
    Spec Tryz.prog β 59 #[vP f, vP (L.b d), .string name, .string text] (pA f m t L S) (fun v l => ∃ L2, v = vI (symlinkM S d name text).1 ∧ l = (pA f m t L2 ((symlinkM S d name text).2))) := by
 have hX := hI.hX
 have hel : (obj S.O d).ah.length ≤ 8192 := hI.eS hd
 have hkd : (obj S.O d).kind = 2 := hI.kind hd
 refine Spec.enter Tryz.func59 rfl Tryz.ntmps59 (Nat.le_of_ble_eq_true rfl) (fun R => ?_)
 refine SR ?_
 refine gK 1 [] [] ?_
 refine NS ?_
 refine gK 1 [(10, .string text)] [] ?_
 refine gL [] (Kt text JL) ?_
 rintro _ _ ⟨rfl, rfl⟩
 refine gK 1 [(9, vI ((kO text)))] [] ?_
 refine NN (af.seq (SR ?_))
 refine gK 2 [(13, .bool (decide (((kO text) : Int) = (0 : Int))))] [] ?_
 refine NN ?_
 refine af.bB (p := ((kO text) : Int) = (0 : Int)) (fun _ => by kernel_rfl) (fun hb => ?_) (fun hb => ?_)
 ·refine af.region ?_
  refine gK 3 [(14, vP f), (15, vP (L.b d)), (16, .string name)] [] ?_
  refine gL [0, 1, 5, 3] (qD S L f m t hI d hd name hsz) ?_
  rintro _ _ ⟨rfl, rfl⟩
  refine gK 1 [(9, vI ((bO S.X S.O S.idx d name)))] [] ?_
  refine NN (af.seq (SR ?_))
  refine gK 2 [(19, .bool (decide (((bO S.X S.O S.idx d name) : Int) = (0 : Int))))] [] ?_
  refine NN ?_
  refine af.bB (p := ((bO S.X S.O S.idx d name) : Int) = (0 : Int)) (fun _ => by kernel_rfl) (fun h0 => ?_) (fun h0 => ?_)
  ·have hno := lY h0
   refine af.region ?_
   refine gK 4 [(20, vP f), (21, vP (L.b d)), (22, .string name), (23, vP f)] [] ?_
   refine gL [0] (qC S.X f m t hX 511) ?_
   rintro _ _ ⟨rfl, rfl⟩
   refine gN 4 (fun b3 => [(28, .iface 93 (vP b3))]) (fun _ => []) (fun _ => []) (fun b3 => .blk b3 [vI (S.X.last + 1), vI (511), vI 0, vI 0, vI (S.X.cS), vI (S.X.cZ), vI 0, vI 0, .bool false, .string text] 95) (fun b3 => ?_)
   obtain ⟨L2, hL2⟩ : ∃ L2 : HL, L2 = L.put (aE S.X) b3 0 none 0 := ⟨_, rfl⟩
   have hfr := hI.toInv0.fresh
   refine ai.mem (aL := [JK S text L2, x6 f m t S, pI m L S.idx, pE S.O L, pT t S.X.cH S.ay L S.us, pD S.O L, .abs R]) (fun w hS => hS.qA hL2 hfr (o := { aD S.X 3 511 with target := text }) (i := 3) (j := 7) (ix := [0, 1, 2, 4, 5, 6]) rfl rfl (by kernel_rfl) rfl (by show (3 : Int) ≠ 0; decide) ((tO (L := L2) (k := (aE S.X)) (o := { aD S.X 3 511 with target := text }) rfl).trans (by rfl)) rfl) ?_
   refine ai.mem (aL := [JK S text L2, x6 f m t S, pI m L S.idx, LV S text L2, pT t S.X.cH S.ay L S.us, pD S.O L, .abs R]) (fun w hS => hS.rG hL2 hfr (o := { aD S.X 3 511 with target := text }) (i := 3) rfl (by show (3 : Int) ≠ 2; decide)) ?_
   refine ai.mem (aL := [JK S text L2, x6 f m t S, pI m L S.idx, LV S text L2, pT t S.X.cH S.ay L S.us, pD (aB S.O (aE S.X) (fun _ => { aD S.X 3 511 with target := text })) L2, .abs R]) (fun w hS => hS.xD hL2 (o := { aD S.X 3 511 with target := text }) (i := 5) rfl (by show (3 : Int) ≠ 1; decide)) ?_
   refine ai.mem (aL := [.abs (ak (aQ (aB S.O (aE S.X) (fun _ => { aD S.X 3 511 with target := text })) L2)), .blk f [vI (S.X.cN), vI (S.X.cB), vI (S.X.cH), vI (S.X.cS), vI (S.X.cZ), .map (some m), vP t, vI (S.X.last + 1), vI (S.X.ah), vI (S.X.used)] 86, .abs (aH Tryz.prog 3 m (aP (aK L2 S.idx)) S.idx.length), .abs (ak (bh (aB S.O (aE S.X) (fun _ => { aD S.X 3 511 with target := text })) L2)), .abs (aZ 156 t S.X.cH S.ay (aK L2 S.us)), .abs (ak (aW (aB S.O (aE S.X) (fun _ => { aD S.X 3 511 with target := text })) L2)), .abs R]) (fun w hS => by rw [fo hL2 hfr.idx, fo hL2 hfr.us]; exact hS) ?_
   refine gL (f := 56) (args := #[vP f, vP (L.b d), .string name, .iface 93 (vP b3)]) (pre := [x6 f m t S, pI m L2 S.idx, JK S text L2, LV S text L2]) [1, 2, 0, 3] ((by have h := oP (β := β) S L2 f m t hI.toInv0 d hd name hsz hno { aD S.X 3 511 with target := text } rfl (by simp [aD]) rfl (nI h0); rw [su hL2 (hI.rF hd), lX hL2] at h; exact h)) ?_
   rintro _ _ ⟨rfl, rfl⟩
   refine NS ?_
   refine ai.mem (aL := [.blk f [vI ((bD S d name { aD S.X 3 511 with target := text }).X.cN), vI ((bD S d name { aD S.X 3 511 with target := text }).X.cB), vI ((bD S d name { aD S.X 3 511 with target := text }).X.cH), vI ((bD S d name { aD S.X 3 511 with target := text }).X.cS), vI ((bD S d name { aD S.X 3 511 with target := text }).X.cZ), .map (some m), vP t, vI ((bD S d name { aD S.X 3 511 with target := text }).X.last), vI ((bD S d name { aD S.X 3 511 with target := text }).X.ah), vI ((bD S d name { aD S.X 3 511 with target := text }).X.used)] 86, .abs (aH Tryz.prog 3 m (aP (aK L2 (bD S d name { aD S.X 3 511 with target := text }).idx)) ((bD S d name { aD S.X 3 511 with target := text }).idx.length)), .abs (ak (aQ ((bD S d name { aD S.X 3 511 with target := text }).O) L2)), .abs (ak (bh ((bD S d name { aD S.X 3 511 with target := text }).O) L2)), .abs (aZ 156 t S.X.cH S.ay (aK L2 S.us)), .abs (ak (aW ((bD S d name { aD S.X 3 511 with target := text }).O) L2)), .abs R]) (fun w hS => by rw [show aW ((bD S d name { aD S.X 3 511 with target := text }).O) L2 = aW (aB S.O (aE S.X) (fun _ => { aD S.X 3 511 with target := text })) L2 from fI]; exact hS) ?_
   refine gK 2 [(8, vI ((bO S.X S.O S.idx d name)))] [] ?_
   refine NN (af.ret ?_)
   exact RT (vI ((bO S.X S.O S.idx d name))) [0, 1, 4, 2, 5, 3, 6] (⟨L2, by rw [show symlinkM S d name text = _ from (if_pos hb).trans (if_pos h0)]; refine ⟨congrArg _ h0, ?_⟩; rfl⟩)
  refine af.skip (NX (SR ?_))
  refine gK 2 [(8, vI ((bO S.X S.O S.idx d name)))] [] ?_
  refine NN (af.ret ?_)
  exact RT (vI ((bO S.X S.O S.idx d name))) [0, 1, 4, 3, 5, 2, 6] (⟨L, by rw [show symlinkM S d name text = _ from (if_pos hb).trans (if_neg h0)] <;> exact ⟨rfl, rfl⟩⟩)
 refine af.skip (NX (af.seq (SR ?_)))
 refine gK 2 [(19, .bool (decide (((kO text) : Int) = (0 : Int))))] [] ?_
 refine NN ?_
 refine af.bB (p := ((kO text) : Int) = (0 : Int)) (fun _ => by kernel_rfl) (fun h0 => ?_) (fun h0 => ?_)
 ·exact absurd h0 hb
 refine af.skip (NX (SR ?_))
 refine gK 2 [(8, vI ((kO text)))] [] ?_
 refine NN (af.ret ?_)
 exact RT (vI ((kO text))) [0, 1, 2, 3, 4, 5, 6] (⟨L, by rw [show symlinkM S d name text = _ from if_neg hb] <;> exact ⟨rfl, rfl⟩⟩)
theorem x7 {β : Bs} (S : aI) (L : HL) (f m t : Nat) (hI : Inv S) (d : Nat) (hd : Live S.idx ⟨d, 2⟩) (name : ByteArray) (hsz : name.size ≤ 1048576) :
    Spec Tryz.prog β 60 #[vP f, vP (L.b d), .string name] (pA f m t L S) (fun v l => ∃ L2, v = vI (unlinkM S d name).1 ∧ l = (pA f m t L2 ((unlinkM S d name).2))) := by
 have hX := hI.hX
 have hel : (obj S.O d).ah.length ≤ 8192 := hI.eS hd
 have hkd : (obj S.O d).kind = 2 := hI.kind hd
 refine Spec.enter Tryz.func60 rfl Tryz.ntmps60 (Nat.le_of_ble_eq_true rfl) (fun R => ?_)
 refine af.seq ?_
 rcases hI.jY hd name with hlk | ⟨tk, hlk, hlv⟩ | ⟨tk, hlk, hlv⟩ | ⟨tk, hlk, hlv⟩
 ·refine af.region ?_
  refine gK 1 [] [] ?_
  refine NN (af.seq (SR ?_))
  refine gK 5 [(10, .map (some (L.m d))), (11, .string name)] [(3, v_ 3 (bC L hkd))] ?_
  refine fR 5 hkd hlk ?_
  refine NN (af.block (SR ?_))
  refine gK 1 [(13, .bool true)] [] ?_
  refine NN ?_
  refine CT ?_
  refine SR ?_
  refine gK 1 [(6, vI 170)] [] ?_
  refine NN (af.ret (aj.aG (aj.ar ?_)))
  exact RT (vI 170) [0, 1, 2, 3, 4, 5, 6] (⟨L, by rw [show unlinkM S d name = (170, S) by unfold unlinkM; rw [hlk]] <;> exact ⟨rfl, rfl⟩⟩)
 ·have hkt : (obj S.O tk).kind = 1 := hI.kind hlv
  refine af.region ?_
  refine gK 1 [] [] ?_
  refine NN (af.seq (SR ?_))
  refine gK 5 [(10, .map (some (L.m d))), (11, .string name)] [(3, v_ 3 (bC L hkd))] ?_
  refine fR 5 hkd hlk ?_
  refine NN (af.block (SR ?_))
  refine gK 1 [(13, .bool false)] [] ?_
  refine NN ?_
  refine CF ?_
  refine SR ?_
  refine gK 3 [(15, .bool false)] [] ?_
  refine NN ?_
  refine CF ?_
  refine af.skip (aj.aT (NX (SR ?_)))
  refine gK 3 [(17, vP f), (18, vP (L.b d)), (19, .string name)] [] ?_
  refine gL [0, 3, 5, 1] (lE S L f m t hI d hd name hsz ⟨tk, 1⟩ hlk) ?_
  rintro _ _ ⟨rfl, rfl⟩
  refine NS ?_
  refine ai.mem (aL := [.blk f [vI ((ax S d name ⟨tk, 1⟩).X.cN), vI ((ax S d name ⟨tk, 1⟩).X.cB), vI ((ax S d name ⟨tk, 1⟩).X.cH), vI ((ax S d name ⟨tk, 1⟩).X.cS), vI ((ax S d name ⟨tk, 1⟩).X.cZ), .map (some m), vP t, vI ((ax S d name ⟨tk, 1⟩).X.last), vI ((ax S d name ⟨tk, 1⟩).X.ah), vI ((ax S d name ⟨tk, 1⟩).X.used)] 86, .abs (ak (aQ ((ax S d name ⟨tk, 1⟩).O) L)), .abs (ak (bh ((ax S d name ⟨tk, 1⟩).O) L)), .abs (aH Tryz.prog 3 m (aP (aK L ((ax S d name ⟨tk, 1⟩).idx))) (((ax S d name ⟨tk, 1⟩).idx).length)), .abs (aZ 156 t S.X.cH S.ay (aK L S.us)), .abs (ak (aW ((ax S d name ⟨tk, 1⟩).O) L)), .abs R]) (fun w hS => by rw [show aW ((ax S d name ⟨tk, 1⟩).O) L = aW S.O L from lD]; exact hS) ?_
  refine gK 1 [(6, vI 0)] [] ?_
  refine NN (af.ret ?_)
  exact RT (vI 0) [0, 3, 4, 1, 5, 2, 6] (⟨L, by rw [show unlinkM S d name = (0, ax S d name ⟨tk, 1⟩) by unfold unlinkM; rw [hlk]; exact if_neg (by simp)] <;> exact ⟨rfl, rfl⟩⟩)
 ·have hkt : (obj S.O tk).kind = 2 := hI.kind hlv
  refine af.region ?_
  refine gK 1 [] [] ?_
  refine NN (af.seq (SR ?_))
  refine gK 5 [(10, .map (some (L.m d))), (11, .string name)] [(3, v_ 3 (bC L hkd))] ?_
  refine fR 5 hkd hlk ?_
  refine NN (af.block (SR ?_))
  refine gK 1 [(13, .bool false)] [] ?_
  refine NN ?_
  refine CF ?_
  refine SR ?_
  refine gK 3 [(15, .bool true)] [] ?_
  refine NN ?_
  refine CT ?_
  refine SR ?_
  refine gK 1 [(6, vI 172)] [] ?_
  refine NN (af.ret (aj.aG (aj.ar ?_)))
  exact RT (vI 172) [0, 1, 2, 3, 4, 5, 6] (⟨L, by rw [show unlinkM S d name = (172, S) by unfold unlinkM; rw [hlk]; exact if_pos rfl] <;> exact ⟨rfl, rfl⟩⟩)
 have hkt : (obj S.O tk).kind = 3 := hI.kind hlv
 refine af.region ?_
 refine gK 1 [] [] ?_
 refine NN (af.seq (SR ?_))
 refine gK 5 [(10, .map (some (L.m d))), (11, .string name)] [(3, v_ 3 (bC L hkd))] ?_
 refine fR 5 hkd hlk ?_
 refine NN (af.block (SR ?_))
 refine gK 1 [(13, .bool false)] [] ?_
 refine NN ?_
 refine CF ?_
 refine SR ?_
 refine gK 3 [(15, .bool false)] [] ?_
 refine NN ?_
 refine CF ?_
 refine af.skip (aj.aT (NX (SR ?_)))
 refine gK 3 [(17, vP f), (18, vP (L.b d)), (19, .string name)] [] ?_
 refine gL [0, 3, 5, 1] (lE S L f m t hI d hd name hsz ⟨tk, 3⟩ hlk) ?_
 rintro _ _ ⟨rfl, rfl⟩
 refine NS ?_
 refine ai.mem (aL := [.blk f [vI ((ax S d name ⟨tk, 3⟩).X.cN), vI ((ax S d name ⟨tk, 3⟩).X.cB), vI ((ax S d name ⟨tk, 3⟩).X.cH), vI ((ax S d name ⟨tk, 3⟩).X.cS), vI ((ax S d name ⟨tk, 3⟩).X.cZ), .map (some m), vP t, vI ((ax S d name ⟨tk, 3⟩).X.last), vI ((ax S d name ⟨tk, 3⟩).X.ah), vI ((ax S d name ⟨tk, 3⟩).X.used)] 86, .abs (ak (aQ ((ax S d name ⟨tk, 3⟩).O) L)), .abs (ak (bh ((ax S d name ⟨tk, 3⟩).O) L)), .abs (aH Tryz.prog 3 m (aP (aK L ((ax S d name ⟨tk, 3⟩).idx))) (((ax S d name ⟨tk, 3⟩).idx).length)), .abs (aZ 156 t S.X.cH S.ay (aK L S.us)), .abs (ak (aW ((ax S d name ⟨tk, 3⟩).O) L)), .abs R]) (fun w hS => by rw [show aW ((ax S d name ⟨tk, 3⟩).O) L = aW S.O L from lD]; exact hS) ?_
 refine gK 1 [(6, vI 0)] [] ?_
 refine NN (af.ret ?_)
 exact RT (vI 0) [0, 3, 4, 1, 5, 2, 6] (⟨L, by rw [show unlinkM S d name = (0, ax S d name ⟨tk, 3⟩) by unfold unlinkM; rw [hlk]; exact if_neg (by simp)] <;> exact ⟨rfl, rfl⟩⟩)
theorem Aj {β : Bs} (S : aI) (L : HL) (f m t : Nat) (hI : Inv S) (d : Nat) (hd : Live S.idx ⟨d, 2⟩) (name : ByteArray) (hsz : name.size ≤ 1048576) :
    Spec Tryz.prog β 61 #[vP f, vP (L.b d), .string name] (pA f m t L S) (fun v l => ∃ L2, v = vI (rmdirM S d name).1 ∧ l = (pA f m t L2 ((rmdirM S d name).2))) := by
 have hX := hI.hX
 have hel : (obj S.O d).ah.length ≤ 8192 := hI.eS hd
 have hkd : (obj S.O d).kind = 2 := hI.kind hd
 refine Spec.enter Tryz.func61 rfl Tryz.ntmps61 (Nat.le_of_ble_eq_true rfl) (fun R => ?_)
 refine af.seq ?_
 rcases hI.jY hd name with hlk | ⟨tk, hlk, hlv⟩ | ⟨tk, hlk, hlv⟩ | ⟨tk, hlk, hlv⟩
 ·refine af.region ?_
  refine gK 1 [] [] ?_
  refine NS ?_
  refine gK 5 [(13, .map (some (L.m d))), (14, .string name)] [(3, v_ 3 (bC L hkd))] ?_
  refine fR 5 hkd hlk ?_
  refine gK 1 [(7, .nilIface)] [] ?_
  refine NN (af.seq (SR ?_))
  refine gK 2 [(17, .bool true)] [] ?_
  refine NN ?_
  refine CT ?_
  refine SR ?_
  refine gK 1 [(6, vI 170)] [] ?_
  refine NN (af.ret (aj.ar ?_))
  exact RT (vI 170) [0, 1, 2, 3, 4, 5, 6] (⟨L, by skip; rw [show rmdirM S d name = (170, S) by unfold rmdirM; rw [hlk]] <;> exact ⟨rfl, rfl⟩⟩)
 ·have hkt : (obj S.O tk).kind = 1 := hI.kind hlv
  refine af.region ?_
  refine gK 1 [] [] ?_
  refine NS ?_
  refine gK 5 [(13, .map (some (L.m d))), (14, .string name)] [(3, v_ 3 (bC L hkd))] ?_
  refine fR 5 hkd hlk ?_
  refine gK 1 [(7, .iface 89 (vP (L.b tk)))] [] ?_
  refine NN (af.seq (SR ?_))
  refine gK 2 [(17, .bool false)] [] ?_
  refine NN ?_
  refine CF ?_
  refine af.skip (NX (SR ?_))
  refine gK 7 [(8, .pointer none), (9, .bool false)] [] ?_
  refine NN (af.seq (SR ?_))
  refine gK 2 [(24, .bool true)] [] ?_
  refine NN ?_
  refine CT ?_
  refine SR ?_
  refine gK 1 [(6, vI 173)] [] ?_
  refine NN (af.ret (aj.ar ?_))
  exact RT (vI 173) [0, 1, 2, 3, 4, 5, 6] (⟨L, by skip; rw [show rmdirM S d name = (173, S) by unfold rmdirM; rw [hlk]; exact if_neg (by simp)] <;> exact ⟨rfl, rfl⟩⟩)
 ·have hkt : (obj S.O tk).kind = 2 := hI.kind hlv
  have Qp : (obj S.O tk).ah.length ≤ 8192 := hI.eS hlv
  refine af.region ?_
  refine gK 1 [] [] ?_
  refine NS ?_
  refine gK 5 [(13, .map (some (L.m d))), (14, .string name)] [(3, v_ 3 (bC L hkd))] ?_
  refine fR 5 hkd hlk ?_
  refine gK 1 [(7, .iface 96 (vP (L.b tk)))] [] ?_
  refine NN (af.seq (SR ?_))
  refine gK 2 [(17, .bool false)] [] ?_
  refine NN ?_
  refine CF ?_
  refine af.skip (NX (SR ?_))
  refine gK 7 [(8, vP (L.b tk)), (9, .bool true)] [] ?_
  refine NN (af.seq (SR ?_))
  refine gK 2 [(24, .bool false)] [] ?_
  refine NN ?_
  refine CF ?_
  refine af.skip (NX (af.seq (SR ?_)))
  refine gK 4 [(28, .map (some (L.m tk)))] [(3, v_ 3 (bC L hkt))] ?_
  refine Po 5 hkt ?_
  refine gK 1 [(30, .bool (decide (((((obj S.O tk).ah.length : Nat) : Int) : Int) > (0 : Int))))] [] ?_
  refine NN ?_
  refine af.bB (p := ((((obj S.O tk).ah.length : Nat) : Int) : Int) > (0 : Int)) (fun _ => by kernel_rfl) (fun kz => ?_) (fun kz => ?_)
  ·refine SR ?_
   refine gK 1 [(6, vI 178)] [] ?_
   refine NN (af.ret (aj.ar ?_))
   exact RT (vI 178) [0, 1, 2, 3, 4, 5, 6] (⟨L, by skip; rw [show rmdirM S d name = (178, S) by unfold rmdirM; rw [hlk]; exact (if_pos rfl).trans (if_neg (fun e => by rw [show (obj S.O tk).ah = [] from e] at kz; simp at kz))] <;> exact ⟨rfl, rfl⟩⟩)
  refine af.skip (NX (SR ?_))
  refine gK 3 [(31, vP f), (32, vP (L.b d)), (33, .string name)] [] ?_
  refine gL [0, 3, 5, 1] (lE S L f m t hI d hd name hsz ⟨tk, 2⟩ hlk) ?_
  rintro _ _ ⟨rfl, rfl⟩
  refine NS ?_
  refine ai.mem (aL := [.blk f [vI ((ax S d name ⟨tk, 2⟩).X.cN), vI ((ax S d name ⟨tk, 2⟩).X.cB), vI ((ax S d name ⟨tk, 2⟩).X.cH), vI ((ax S d name ⟨tk, 2⟩).X.cS), vI ((ax S d name ⟨tk, 2⟩).X.cZ), .map (some m), vP t, vI ((ax S d name ⟨tk, 2⟩).X.last), vI ((ax S d name ⟨tk, 2⟩).X.ah), vI ((ax S d name ⟨tk, 2⟩).X.used)] 86, .abs (ak (aQ ((ax S d name ⟨tk, 2⟩).O) L)), .abs (ak (bh ((ax S d name ⟨tk, 2⟩).O) L)), .abs (aH Tryz.prog 3 m (aP (aK L ((ax S d name ⟨tk, 2⟩).idx))) (((ax S d name ⟨tk, 2⟩).idx).length)), .abs (aZ 156 t S.X.cH S.ay (aK L S.us)), .abs (ak (aW ((ax S d name ⟨tk, 2⟩).O) L)), .abs R]) (fun w hS => by rw [show aW ((ax S d name ⟨tk, 2⟩).O) L = aW S.O L from lD]; exact hS) ?_
  have ug : (obj (ax S d name ⟨tk, 2⟩).O d).kind = 2 := (xC).trans (hkd)
  have uh : (obj (ax S d name ⟨tk, 2⟩).O tk).kind = 2 := (xC).trans (hkt)
  generalize bP : (ax S d name ⟨tk, 2⟩).O = bK at ug uh ⊢
  refine gK 3 [(37, .pointer (some ⟨(L.b tk), 10, none⟩))] [] ?_
  refine ND 1 [(2, 1), (5, 2)] tk (none) uh (fun cX cu => ?_)
  have IG := ku cu ug
  have EK := ku cu uh
  refine NS ?_
  refine gK 1 [(6, vI 0)] [] ?_
  refine NN (af.ret ?_)
  exact RT (l := [pF f m t ((ax S d name ⟨tk, 2⟩).X), pI m L ((ax S d name ⟨tk, 2⟩).idx), pT t S.X.cH S.ay L S.us, pO cX L, pD cX L, pE cX L]) (vI 0) [0, 3, 4, 1, 5, 2, 6] (⟨L, by subst cu; subst bP; rw [show rmdirM S d name = (0, { ax S d name ⟨tk, 2⟩ with O := orphan (ax S d name ⟨tk, 2⟩).O tk }) by unfold rmdirM; rw [hlk]; exact (if_pos rfl).trans (if_pos (List.eq_nil_of_length_eq_zero (by show (obj S.O tk).ah.length = 0; omega)))] <;> exact ⟨rfl, rfl⟩⟩)
 have hkt : (obj S.O tk).kind = 3 := hI.kind hlv
 refine af.region ?_
 refine gK 1 [] [] ?_
 refine NS ?_
 refine gK 5 [(13, .map (some (L.m d))), (14, .string name)] [(3, v_ 3 (bC L hkd))] ?_
 refine fR 5 hkd hlk ?_
 refine gK 1 [(7, .iface 93 (vP (L.b tk)))] [] ?_
 refine NN (af.seq (SR ?_))
 refine gK 2 [(17, .bool false)] [] ?_
 refine NN ?_
 refine CF ?_
 refine af.skip (NX (SR ?_))
 refine gK 7 [(8, .pointer none), (9, .bool false)] [] ?_
 refine NN (af.seq (SR ?_))
 refine gK 2 [(24, .bool true)] [] ?_
 refine NN ?_
 refine CT ?_
 refine SR ?_
 refine gK 1 [(6, vI 173)] [] ?_
 refine NN (af.ret (aj.ar ?_))
 exact RT (vI 173) [0, 1, 2, 3, 4, 5, 6] (⟨L, by skip; rw [show rmdirM S d name = (173, S) by unfold rmdirM; rw [hlk]; exact if_neg (by simp)] <;> exact ⟨rfl, rfl⟩⟩)
end
end Go.Proofs.YtkiedlmhocglhaaGreatDoor
