/-
  PROVED HERE: lemmas and contracts of functions (texts of this repo, joined; what the claim does not use is left out): Hw, Hx, Hy, Hz, Ac, Fz, Hc, Hd, H1, H2, H3, H4, H5, H6, ShelfP, As, H7.
  CONDITIONS: as the theorems say.
-/
import Derived.Test.YtkiedlmhocglhaaGreatDoorMHsound2
import Derived.Lib.Split
import Derived.Shelf.Strings.Split
import Derived.Test.YtkiedlmhocglhaaGreatDoorProg
import Derived.Laws.IdiomStrings
import Derived.Lib.SplitLaws
set_option maxRecDepth 100000
set_option maxHeartbeats 4000000
namespace Go.Proofs.YtkiedlmhocglhaaGreatDoor
section
open Go.RowKit Go.Maps HeapM TabM
section facts
variable {S : aE} {X : FM} {O : bJ} {d k to : Nat} {name toName : ByteArray} {t o : Th}
def t7 (dp : Nat → Nat) : Option Nat → Nat
  | none => 0
  | some y => dp y + 1
theorem Gg {dp : Nat → Nat} (h : ∀ k d, (obj O k).up = some d → dp d < dp k) {y : Nat} : t7 dp (obj O y).up < t7 dp (some y) := by
  cases e : (obj O y).up with
  | none => exact Nat.succ_pos _
  | some z => exact Nat.succ_lt_succ (h y z e)
theorem xM {s y : Nat} (h : ¬ y = s) : iA O s y ↔ ∃ z, (obj O y).up = some z ∧ iA O s z := Am.trans (or_iff_right h)
theorem xO (hne : t.k ≠ d) : (obj (au S d name t).O k).ah = if k = d then eM name (obj S.O d).ah else (obj S.O k).ah := by
  have h1 : (obj (au S d name t).O k).ah = (obj (aL S.X S.O d name t) k).ah := by
    unfold au
    simp only
    split
    ·exact mW (g := aO.ah) (fun _ _ => rfl)
    rfl
  rw [h1, gj hne]
  split
  ·rfl
  split <;> rfl
theorem nM (hI : Inv0 S) (hto : Live S.idx ⟨to, 2⟩) (hl2 : aR toName (obj S.O to).ah = some o) (hl : aR name (obj S.O d).ah = some t) (hot : o ≠ t) : aR name (obj (au S to toName o).O d).ah = some t := by
  rw [xO (hI.ne hto hl2)]
  split
  ·rename_i e
   subst e
   rw [nI, if_neg (fun e => by rw [e, hl2] at hl; exact hot (Option.some.inj hl))]
   exact hl
  exact hl
theorem nN (hI : Inv0 S) (hto : Live S.idx ⟨to, 2⟩) (hl2 : aR toName (obj S.O to).ah = some o) : aR toName (obj (au S to toName o).O to).ah = none := by
  rw [xO (hI.ne hto hl2), if_pos rfl, nI, if_pos rfl]
theorem gT (hI : Inv0 S) (hto : Live S.idx ⟨to, 2⟩) (hl2 : aR toName (obj S.O to).ah = some o) (hx : Live S.idx t) (hk : t.k ≠ o.k) : Live (au S to toName o).idx t := by
  unfold au
  simp only
  split
  ·unfold iq
   split
   ·unfold Live
    rw [rC, if_neg]
    ·exact hx
    intro e
    have h1 := (hI.ob o (hI.ent hto hl2).2).1
    rw [mW (g := aO.id) (fun _ _ => rfl), cD (g := aO.id) (fun _ _ => rfl) (fun _ _ => rfl) (fun _ _ _ => rfl), h1] at e
    exact hk (by omega)
   exact hx
  exact hx
theorem j6 (hne : t.k ≠ d) : (obj (aL X O d name t) k).ah.length ≤ (obj O k).ah.length := by
  rw [gj hne]
  split
  ·rename_i e
   subst e
   exact List.length_filter_le _ _
  split <;> exact Nat.le_refl _
theorem iU (hI : Inv0 S) (hd : Live S.idx ⟨d, 2⟩) (hl : aR name (obj S.O d).ah = some t) : 0 ≤ (obj (aL S.X S.O d name t) t.k).links ∧ (obj (aL S.X S.O d name t) t.k).links ≤ 1048576 := by
  have ht := (hI.ent hd hl).2
  have h1 := hI.links t ht
  have h2 : 0 < fL S.idx S.O t.k := kE hd hl
  have h3 := hI.lb ht
  rw [gj (hI.ne hd hl), if_neg (hI.ne hd hl), if_pos rfl]
  show 0 ≤ (obj S.O t.k).links - 1 ∧ (obj S.O t.k).links - 1 ≤ 1048576
  omega
end facts
end
section
open Go.RowKit Go.Maps HeapM TabM
theorem bW.take {β : Bs} {A : Option Addr} {d : List UInt8} (h : bW β A d) (n : Nat) : bW β A (d.take n) := by
  intro j v hj
  refine h j v ?_
  unfold bI at hj ⊢
  rw [List.map_take] at hj
  rw [List.getElem?_take] at hj
  split at hj
  ·exact hj
  cases hj
theorem EC {a b : List UInt8} : bI (a ++ b) = bI a ++ bI b := List.map_append
theorem Inv0.Nn {S : aE} {t : Th} (h : Inv0 S) (hl : Live S.idx t) : ((obj S.O t.k).data.length : Int) ≤ S.X.used := by
  have h1 := h.used
  have h2 : (obj S.O t.k).data.length ≤ bytes S.idx S.O := jc (g := fun p : Int × Th => (obj S.O p.2.k).data.length) hl
  omega
theorem Gh {X : FM} {n : Nat} (h : 0 < X.cB - X.used) : min (n : Int) (X.cB - X.used) = (aU X n : Int) := by
  unfold aU
  omega
theorem Gi {X : FM} {n : Nat} (h : 0 < X.cB - X.used) : aU X n ≤ n ∧ (aU X n : Int) ≤ X.cB - X.used := by
  unfold aU
  omega
section data
variable {O : bJ} {us : Used Th} {L L' : HL} {k c : Nat} {A : Option Addr} {t : Th}
theorem Cl (hL : L' = L.data k A c) : aJ L' us = aJ L us := by subst hL; rfl
theorem IE (hL : L' = L.data k A c) : bh O L' = bh O L := by
  subst hL
  funext x
  rfl
theorem IG (hL : L' = L.data k A c) {x : Nat} (h : x ≠ k) : aN O L' x = aN O L x := by
  have e2 : eO L' x (obj O x) = eO L x (obj O x) := by
    subst hL
    unfold eO uW
    simp only [HL.data, if_neg h]
    rfl
  unfold aN
  rw [e2]
  subst hL
  rfl
theorem II (hL : L' = L.data k A c) {x : Nat} (h : x ≠ k) : aY O L' x = aY O L x := by
  unfold aY
  subst hL
  simp only [HL.data, if_neg h]
theorem DY (hL : L' = L.data k A c) : L'.dA k = A := by subst hL; exact if_pos rfl
theorem DZ (hL : L' = L.data k A c) : L'.dC k = c := by subst hL; exact if_pos rfl
theorem Gj (hL : L' = L.data k A c) {x : Nat} : L'.b x = L.b x := by subst hL; rfl
end data
section sat
variable {β : Bs} {l l' : List HP} {w : World} {i j k c n : Nat} {O : bJ} {L L' : HL} {f : aO → aO} {cs : List Value} {T : TypeId} {ix : List Nat} {A : Option Addr} {R : Nat → bR} {xs : List Value}
theorem Sat.LO (h : Sat β l w) (hL : L' = L.data k A c) (hp : l[i]? = some (.abs (ak (iC (aN O L) k bR.none)))) (hq : l[j]? = some (.blk (L.b k) cs T)) (hd : nodupB (i :: j :: ix) = true) (hl : bM l ix = some l') (h0 : (f (obj O k)).kind ≠ 0) (hc : eO L' k (f (obj O k)) = cs) (hT : kI (f (obj O k)).kind = T) : Sat β (.abs (ak (aN (av O k f) L')) :: l') w := by
  refine h.oH (a := wm (L.b k) cs T) hp hq (fun _ _ h => h) hd hl k (fun x hx => ?_) (by rw [rz, if_neg h0, hc, hT, Gj hL])
  rw [rA hx, IG hL hx, lS hx]
theorem Sat.LP (h : Sat β l w) (hL : L' = L.data k A c) (hp : l[i]? = some (.abs (ak (iC (aY O L) k bR.none)))) (hq : l[j]? = some (.abs (aG 5 1 A n c xs))) (hd : nodupB (i :: j :: ix) = true) (hl : bM l ix = some l') (h1 : (f (obj O k)).kind = 1) (hn : n = (f (obj O k)).data.length) (hx : xs = bI (f (obj O k)).data) : Sat β (.abs (ak (aY (av O k f) L')) :: l') w := by
  refine h.oH hp hq (fun _ _ h => h) hd hl k (fun x hx => by rw [tP hx, II hL hx, lS hx]) ?_
  rw [pK (by rw [bE]; exact h1), bE, DY hL, DZ hL, hn, hx]
end sat
end
section
open Go.RowKit Go.Maps HeapM TabM
structure fD (β : Bs) (c : aT) : Prop where
  hw : (Lit.int .i64 c.handle).wf = true
  ow : (Lit.int .i64 c.other).wf = true
  nm : c.name.size ≤ 1048576
  tx : c.text.size ≤ 1048576
  da : bW β c.dA c.data
  dl : c.data.length ≤ 1099511627776
  dc : c.data.length ≤ c.dC
section facts
variable {S : aE} {h : Int} {name : ByteArray} {need : Int} {t : Th} {c : aT}
theorem jH (hI : Inv0 S) (h : Int) (name : ByteArray) (need : Int) : (∃ e, cK S.O S.us h name need = .error e ∧ e ≠ 0) ∨ ∃ d, cK S.O S.us h name need = .ok d ∧ Live S.idx ⟨d, 2⟩ ∧ (obj S.O d).gone = false ∧ bB name ∧ TabM.get S.us h = some ⟨d, 2⟩ := by
  unfold cK
  cases e : TabM.get S.us h with
  | none => exact .inl ⟨131, rfl, by decide⟩
  | some t =>
    simp only
    split
    ·rename_i hk
     split
     ·exact .inl ⟨170, rfl, by decide⟩
     rename_i hg
     split
     ·rename_i hn
      split
      ·obtain ⟨k, kd⟩ := t
       simp only at hk
       subst hk
       exact .inr ⟨k, rfl, (hI.us h _ e).1, by simpa using hg, hn, rfl⟩
      exact .inl ⟨175, rfl, by decide⟩
     exact .inl ⟨95, rfl, by decide⟩
    exact .inl ⟨173, rfl, by decide⟩
theorem xP (hI : Inv0 S) (c : aT) : (∃ e, eY S.O S.us c = .error e ∧ e ≠ 0) ∨ (∃ k, eY S.O S.us c = .ok ⟨k, 1⟩ ∧ Live S.idx ⟨k, 1⟩) ∨ (∃ k, eY S.O S.us c = .ok ⟨k, 2⟩ ∧ Live S.idx ⟨k, 2⟩) ∨ ∃ k, eY S.O S.us c = .ok ⟨k, 3⟩ ∧ Live S.idx ⟨k, 3⟩ := by
  unfold eY
  rcases jH hI c.handle c.name 64 with ⟨e, h1, h2⟩ | ⟨d, h1, h2, _⟩
  ·rw [h1]; exact .inl ⟨e, rfl, h2⟩
  rw [h1]
  simp only
  rcases hI.jS h2 c.name with h3 | ⟨k, h3, h4⟩ | ⟨k, h3, h4⟩ | ⟨k, h3, h4⟩
  ·rw [h3]; exact .inl ⟨170, rfl, by decide⟩
  ·rw [h3]; exact .inr (.inl ⟨k, rfl, h4⟩)
  ·rw [h3]; exact .inr (.inr (.inl ⟨k, rfl, h4⟩))
  rw [h3]; exact .inr (.inr (.inr ⟨k, rfl, h4⟩))
theorem Cm {L : HL} {us : Used Th} {h : Int} : aJ L (del h us) = del h (aJ L us) := DP (cF L) h us
theorem D1 {us : Used Th} {h : Int} (e : TabM.get us h = some t) : 0 < hnd us t.k := Nat.lt_of_lt_of_le (by simp) (jc (g := fun p : Int × Th => if p.2.k = t.k then 1 else 0) e)
theorem wD {L : HL} : aY (openM S t).2.2.O L = aY S.O L := by
  by_cases h : (S.us.length : Int) < S.X.cH
  ·rw [iL h]; exact pR (fun _ => cJ (f := fun o => { o with opens := o.opens + 1 }) (g := aO.data) (fun _ => rfl)) (fun _ => ia (f := fun o => { o with opens := o.opens + 1 }) (fun _ => rfl))
  rw [j4 h]
theorem wE {L : HL} : bh (openM S t).2.2.O L = bh S.O L := by
  by_cases h : (S.us.length : Int) < S.X.cH
  ·rw [iL h]; exact kB (f := fun o => { o with opens := o.opens + 1 }) rfl rfl
  rw [j4 h]
theorem Kr : (iw S c).2.2.op = c.op := by unfold iw; (repeat' split) <;> rfl
theorem ED : (dU S c).2.2.op = c.op := by unfold dU; (repeat' split) <;> rfl
theorem Dr : (dL S c).2.2.op = c.op := by unfold dL; (repeat' split) <;> rfl
theorem EF : (eP S c).2.2.op = c.op := by unfold eP; (repeat' split) <;> rfl
theorem Ds : (di S c).2.2.op = c.op := by unfold di; (repeat' split) <;> rfl
theorem Cn : (eD S c).2.2.op = c.op := by unfold eD; (repeat' split) <;> rfl
theorem Gl : (bX S c).2.2.op = c.op := by unfold bX; (repeat' split) <;> rfl
theorem Dt : (fA S c).2.2.op = c.op := by unfold fA; (repeat' split) <;> rfl
theorem EG : (fX S c).2.2.op = c.op := by unfold fX; (repeat' split) <;> rfl
theorem Du : (ef S c).2.2.op = c.op := by unfold ef; (repeat' split) <;> rfl
theorem EH : (fo S c).2.2.op = c.op := by unfold fo; (repeat' split) <;> rfl
theorem EI : (bD S c).2.2.op = c.op := by unfold bD; (repeat' split) <;> rfl
theorem Kt : (jB S c).2.2.op = c.op := by unfold jB; (repeat' split) <;> rfl
theorem Gm : (fB S c).2.2.op = c.op := by unfold fB; (repeat' split) <;> rfl
theorem IJ : (ic S c).2.2.op = c.op := by unfold ic; (repeat' split) <;> rfl
end facts
theorem xQ {S : aE} {c : aT} (h : c.op = 1) : opM S c = iw S c := by
  unfold opM
  simp [h]
theorem xR {S : aE} {c : aT} (h : c.op = 2) : opM S c = dU S c := by
  unfold opM
  simp [h]
theorem A6 {S : aE} {c : aT} (h : c.op = 3) : opM S c = dL S c := by
  unfold opM
  simp [h]
theorem xS {S : aE} {c : aT} (h : c.op = 4) : opM S c = eP S c := by
  unfold opM
  simp [h]
theorem A8 {S : aE} {c : aT} (h : c.op = 5) : opM S c = di S c := by
  unfold opM
  simp [h]
theorem Ba {S : aE} {c : aT} (h : c.op = 6) : opM S c = eD S c := by
  unfold opM
  simp [h]
theorem Bb {S : aE} {c : aT} (h : c.op = 7) : opM S c = bX S c := by
  unfold opM
  simp [h]
theorem Bc {S : aE} {c : aT} (h : c.op = 8) : opM S c = fA S c := by
  unfold opM
  simp [h]
theorem Bd {S : aE} {c : aT} (h : c.op = 9) : opM S c = fo S c := by
  unfold opM
  simp [h]
theorem xT {S : aE} {c : aT} (h : c.op = 10) : opM S c = bD S c := by
  unfold opM
  simp [h]
theorem xU {S : aE} {c : aT} (h : c.op = 11) : opM S c = jB S c := by
  unfold opM
  simp [h]
theorem xV {S : aE} {c : aT} (h : c.op = 12) : opM S c = fB S c := by
  unfold opM
  simp [h]
theorem xW {S : aE} {c : aT} (h : c.op = 13) : opM S c = ic S c := by
  unfold opM
  simp [h]
theorem xX {S : aE} {c : aT} (h : c.op = 14) : opM S c = fX S c := by
  unfold opM
  simp [h]
theorem xY {S : aE} {c : aT} (h : c.op = 15) : opM S c = ef S c := by
  unfold opM
  simp [h]
theorem xZ {S : aE} {c : aT} (h : ¬ (1 ≤ c.op ∧ c.op ≤ 15)) : opM S c = (230, S, c) := by
  unfold opM
  repeat rw [if_neg (by omega)]
end
section
open Go.RowKit Go.Maps HeapM TabM
section inv
variable {S : aE} {d to : Nat} {name toName text : ByteArray} {mode : Int} {c : aT}
theorem Co (hI : Inv0 S) : hnd S.us (aC S.X) = 0 := by
  have : hnd S.us (aC S.X) = ct (fun _ => 0) S.us := eE (fun p hp => if_neg (hI.fresh.us p hp))
  rw [this]
  have h0 : ∀ us : Used Th, ct (fun _ => 0) us = 0 := fun us => by
    induction us with
    | nil => rfl
    | cons p r ih => show 0 + _ = 0; rw [ih]
  exact h0 _
theorem vG (hI : Inv0 S) {kind mode : Int} {tg : ByteArray} (hm : kR mode) (ht : dx kind tg) : jd { aA S.X kind mode with target := tg } :=
  ⟨hm, ⟨Int.le_refl _, by show (0 : Int) ≤ 2147483647; decide⟩, ⟨Int.le_refl _, by show (0 : Int) ≤ 2147483647; decide⟩, hI.now, fun _ => rfl, fun _ => rfl, ht⟩
theorem Inv.Be (hI : Inv S) (hd : Live S.idx ⟨d, 2⟩) (fZ : (obj S.O d).gone = false) (hgn : bB name) (h0 : bN S.X S.O S.idx d name = 0) {kind mode : Int} {tg : ByteArray} (hk : kind = 1 ∨ kind = 2 ∨ kind = 3) (hm : kR mode) (ht : dx kind tg) :
    Inv (bC S d name { aA S.X kind mode with target := tg }) := by
  have h := hI.add (us' := S.us) (eF := S.aq) (o := { aA S.X kind mode with target := tg }) hd fZ (lV h0) hgn (qQ h0) rfl hk rfl rfl rfl rfl rfl (vG hI.toInv0 hm ht) hI.usr hI.s5 hI.xG hI.aq (fun h t e => ⟨.inl (hI.us h t e).1, (hI.us h t e).2⟩) (fun _ _ => rfl) (by rw [Co hI.toInv0]; rfl)
  exact h
theorem Inv.mkdirM (hI : Inv S) (hd : Live S.idx ⟨d, 2⟩) (fZ : (obj S.O d).gone = false) (hgn : bB name) (hm : kR mode) : Inv (Proofs.YtkiedlmhocglhaaGreatDoor.mkdirM S d name mode).2 := by
  unfold Proofs.YtkiedlmhocglhaaGreatDoor.mkdirM
  split
  ·rename_i h0
   exact hI.Be hd fZ hgn h0 (.inr (.inl rfl)) hm (.inl ⟨by decide, rfl⟩)
  exact hI
theorem Ku {s : ByteArray} (h : kJ s = 0) : dx 3 s := by
  unfold kJ at h
  split at h
  ·cases h
  rename_i h1
  split at h
  ·cases h
  split at h
  ·rename_i h2 h3
   refine .inr ⟨rfl, ?_, by omega, h3⟩
   apply Classical.byContradiction
   intro hn
   have : s.size = 0 := by omega
   exact h1 (jm.1 this)
  cases h
theorem Inv.symlinkM (hI : Inv S) (hd : Live S.idx ⟨d, 2⟩) (fZ : (obj S.O d).gone = false) (hgn : bB name) : Inv (Proofs.YtkiedlmhocglhaaGreatDoor.symlinkM S d name text).2 := by
  unfold Proofs.YtkiedlmhocglhaaGreatDoor.symlinkM
  split
  ·rename_i hb
   split
   ·rename_i h0
    exact hI.Be hd fZ hgn h0 (.inr (.inr rfl)) ⟨by decide, by decide⟩ (Ku hb)
   exact hI
  exact hI
theorem Inv.unlinkM (hI : Inv S) (hd : Live S.idx ⟨d, 2⟩) : Inv (Proofs.YtkiedlmhocglhaaGreatDoor.unlinkM S d name).2 := by
  unfold Proofs.YtkiedlmhocglhaaGreatDoor.unlinkM
  split
  ·exact hI
  rename_i t hl
  split
  ·exact hI
  rename_i hk
  exact hI.vg hd hl hk
theorem Inv.rmdirM (hI : Inv S) (hd : Live S.idx ⟨d, 2⟩) : Inv (Proofs.YtkiedlmhocglhaaGreatDoor.rmdirM S d name).2 := by
  unfold Proofs.YtkiedlmhocglhaaGreatDoor.rmdirM
  split
  ·exact hI
  rename_i t hl
  split
  ·split
   ·rename_i he
    exact hI.drop hd hl (fun _ => he)
   exact hI
  exact hI
theorem EJ {t : Th} (ht : t.k ≠ to) : (obj (au S d name t).O to).gone = (obj S.O to).gone := by
  have h1 : (obj (au S d name t).O to).gone = (obj (aL S.X S.O d name t) to).gone := by
    unfold au
    simp only
    split
    ·show (obj (av _ t.k _) to).gone = _
     rw [bS (fun e => ht e.symm)]
    rfl
  rw [h1]
  exact cD (g := aO.gone) (fun _ _ => rfl) (fun _ _ => rfl) (fun _ _ _ => rfl)
theorem Inv.renameM (hI : Inv S) (hd : Live S.idx ⟨d, 2⟩) (hto : Live S.idx ⟨to, 2⟩) (fZ : (obj S.O to).gone = false) (hgn : bB toName) : Inv (Proofs.YtkiedlmhocglhaaGreatDoor.renameM S d name to toName).2 := by
  unfold Proofs.YtkiedlmhocglhaaGreatDoor.renameM
  split
  ·exact hI
  rename_i t hl
  split
  ·exact hI
  rename_i hb
  have hb : t.kind = 2 → ¬ iA S.O t.k to := fun h1 h2 => hb ⟨h1, h2⟩
  split
  ·rename_i hn
   exact hI.move hd hl hto fZ hn hgn hb
  rename_i o hl2
  split
  ·exact hI
  rename_i hot
  split
  ·exact hI
  rename_i hok
  split
  ·exact hI
  rename_i PD
  have ho := (hI.ent hto hl2).2
  have LQ : o.k ≠ to := hI.ne hto hl2
  have h1 := hI.vg hto hl2 hok
  have hd1 : Live (au S to toName o).idx ⟨d, 2⟩ := gT hI.toInv0 hto hl2 hd (fun e => hok (by have := eS hd ho e; rw [← this]))
  have iD : Live (au S to toName o).idx ⟨to, 2⟩ := gT hI.toInv0 hto hl2 hto (fun e => LQ e.symm)
  exact h1.move hd1 (nM hI.toInv0 hto hl2 hl hot) iD (by rw [EJ LQ]; exact fZ) (nN hI.toInv0 hto hl2) hgn (fun h => absurd h PD)
theorem Inv.linkM (hI : Inv S) (hd : Live S.idx ⟨d, 2⟩) (hto : Live S.idx ⟨to, 2⟩) (fZ : (obj S.O to).gone = false) (hgn : bB toName) : Inv (Proofs.YtkiedlmhocglhaaGreatDoor.linkM S d name to toName).2 := by
  unfold Proofs.YtkiedlmhocglhaaGreatDoor.linkM
  split
  ·exact hI
  rename_i t hl
  have ht := (hI.ent hd hl).2
  split
  ·exact hI
  rename_i hk
  split
  ·rename_i hn
   split
   ·rename_i hr
    have hgt : (obj S.O t.k).gone = false := by
      cases hg : (obj S.O t.k).gone with
      | false => rfl
      | true =>
        have h1 := (hI.gone t ht hg).1
        have h2 := hI.links t ht
        have h3 : 0 < fL S.idx S.O t.k := kE hd hl
        omega
    exact hI.link hto fZ hn hgn ht hgt hk hr
   exact hI
  exact hI
theorem Inv.createM (hI : Inv S) (hd : Live S.idx ⟨d, 2⟩) (fZ : (obj S.O d).gone = false) (hgn : bB name) (hm : kR mode) : Inv (Proofs.YtkiedlmhocglhaaGreatDoor.createM S d name mode).2.2 := by
  unfold Proofs.YtkiedlmhocglhaaGreatDoor.createM
  split
  ·rename_i h0
   split
   ·rename_i hlt
    obtain ⟨g1, g2, _⟩ := least_le hI.usr (fun x hx => (hI.s5 x hx).1)
    obtain ⟨v1, v2⟩ := DX (t := ⟨aC S.X, 1⟩) hI.usr hI.s5
    have hm2 := vG (kind := 1) (tg := ⟨#[]⟩) hI.toInv0 hm (.inl ⟨by decide, rfl⟩)
    refine hI.add (us' := ins (TabM.least S.us) ⟨aC S.X, 1⟩ S.us) (eF := max S.aq ((S.us.length : Int) + 1)) (o := { aA S.X 1 mode with opens := 1 }) hd fZ (lV h0) hgn (qQ h0) rfl (.inl rfl) rfl rfl rfl rfl rfl ⟨hm2.mode, hm2.uid, hm2.gid, hm2.time, hm2.data, hm2.ah, hm2.target⟩ v1 v2 (by rw [fW]; omega) (by have := hI.aq; omega) (fun h t e => ?_) (fun k hk => ?_) ?_
    ·rw [oZ g2] at e
     split at e
     ·cases e; exact ⟨.inr rfl, by show (1 : Int) ≠ 3; decide⟩
     exact ⟨.inl (hI.us h t e).1, (hI.us h t e).2⟩
    ·rw [zk, if_neg (fun e => hk e.symm), Nat.zero_add]
    rw [zk, if_pos rfl, Co hI.toInv0]; rfl
   exact hI
  exact hI
theorem Inv.opM (hI : Inv S) (c : aT) : Inv (Proofs.YtkiedlmhocglhaaGreatDoor.opM S c).2.1 := by
  have habout : ∀ {need : Int} {d : Nat} {h : Int} {n : ByteArray}, cK S.O S.us h n need = .ok d → Live S.idx ⟨d, 2⟩ ∧ (obj S.O d).gone = false ∧ bB n := fun {need d h n} e => by
    rcases jH hI.toInv0 h n need with ⟨e2, h1, _⟩ | ⟨d2, h1, h2, h3, h4, _⟩
    ·rw [e] at h1; cases h1
    rw [e] at h1; cases h1; exact ⟨h2, h3, h4⟩
  have hnamed : ∀ {t : Th}, eY S.O S.us c = .ok t → Live S.idx t := fun {t} e => by
    rcases xP hI.toInv0 c with ⟨e2, h1, _⟩ | ⟨k, h1, h2⟩ | ⟨k, h1, h2⟩ | ⟨k, h1, h2⟩ <;> rw [e] at h1 <;> cases h1 <;> exact h2
  by_cases h : 1 ≤ c.op ∧ c.op ≤ 15
  ·have h : c.op = 1 ∨ c.op = 2 ∨ c.op = 3 ∨ c.op = 4 ∨ c.op = 5 ∨ c.op = 6 ∨ c.op = 7 ∨ c.op = 8 ∨ c.op = 9 ∨ c.op = 10 ∨ c.op = 11 ∨ c.op = 12 ∨ c.op = 13 ∨ c.op = 14 ∨ c.op = 15 := by omega
   rcases h with h | h | h | h | h | h | h | h | h | h | h | h | h | h | h
   ·rw [xQ h]
    unfold iw
    split
    ·exact hI
    rename_i t e
    split
    ·rename_i hk; exact hI.openM (hI.live e) (by rw [hk]; decide)
    exact hI
   ·rw [xR h]
    unfold dU
    split
    ·exact hI
    rename_i t e
    split
    ·exact hI
    rename_i hk
    split
    ·exact hI
    exact hI.openM (hnamed e) hk
   ·rw [A6 h]
    unfold dL
    split
    ·exact hI
    rename_i t e
    split
    ·exact hI
    rename_i hk
    split
    ·exact hI
    exact hI.openM (hnamed e) hk
   ·rw [xS h]
    unfold eP
    split
    ·exact hI
    rename_i d e
    obtain ⟨h1, h2, h3⟩ := habout e
    split
    ·rename_i hm; exact hI.mkdirM h1 h2 h3 hm
    exact hI
   ·rw [A8 h]
    unfold di
    split
    ·exact hI
    rename_i d e
    obtain ⟨h1, h2, h3⟩ := habout e
    split
    ·rename_i hm
     split
     ·exact hI.createM h1 h2 h3 hm
     exact hI
    exact hI
   ·rw [Ba h]
    unfold eD
    split
    ·exact hI
    rename_i d e
    obtain ⟨h1, h2, h3⟩ := habout e
    exact hI.symlinkM h1 h2 h3
   ·rw [Bb h]
    unfold bX
    split
    ·exact hI
    rename_i d e
    split
    ·exact hI
    rename_i to e2
    obtain ⟨h1, h2, h3⟩ := habout e2
    exact hI.linkM (habout e).1 h1 h2 h3
   ·rw [Bc h]
    unfold fA
    split
    ·exact hI
    rename_i d e
    exact hI.unlinkM (habout e).1
   ·rw [Bd h]
    unfold fo
    split
    ·exact hI
    rename_i t e
    split
    ·rename_i hk
     obtain ⟨k, kd⟩ := t
     simp only at hk
     subst hk
     exact hI.writeM (hI.us _ _ e).1 _
    exact hI
   ·rw [xT h]
    unfold bD
    split
    ·exact hI
    split
    ·exact hI
    split
    ·rename_i hm
     split
     ·rename_i ho
      split
      ·rename_i ht; exact hI.Nl hm ho ht
      exact hI
     exact hI
    exact hI
   ·rw [xU h]
    unfold jB
    split <;> exact hI
   ·rw [xV h]
    unfold fB
    split <;> exact hI
   ·rw [xW h]
    unfold ic
    split
    ·exact hI
    rename_i t e; exact hI.shut e
   ·rw [xX h]
    unfold fX
    split
    ·exact hI
    rename_i d e
    exact hI.rmdirM (habout e).1
   rw [xY h]
   unfold ef
   split
   ·exact hI
   rename_i d e
   split
   ·exact hI
   rename_i to e2
   obtain ⟨h1, h2, h3⟩ := habout e2
   exact hI.renameM (habout e).1 h1 h2 h3
  rw [xZ h]; exact hI
theorem Inv.doM (hI : Inv S) (c : aT) : Inv (Proofs.YtkiedlmhocglhaaGreatDoor.doM S c).1 := hI.opM _
end inv
end
section
open Go.RowKit Go.Maps HeapM TabM
structure wF where
  at_ : Int
  op : Int
  path : ByteArray
  to : ByteArray
  text : ByteArray
def slash : ByteArray := ⟨#[47]⟩
def gA (s : ByteArray) : List ByteArray := Lib.splitB slash 0 (Lib.countB s slash) s
noncomputable section
def iE (O : bJ) : Nat → List ByteArray → Except Int (Nat × ByteArray)
  | _, [] => .error 170
  | d, [p] => if (obj O d).gone = true then .error 170 else .ok (d, p)
  | d, p :: q :: r => match aR p (obj O d).ah with
    | none => .error 170
    | some t => if t.kind = 3 then .error 174 else if t.kind = 1 then .error 173 else iE O t.k (q :: r)
instance (ps : List ByteArray) : Decidable (∀ p ∈ ps, bB p) := Classical.propDecidable _
def gJ (O : bJ) (d : Nat) (path : ByteArray) : Except Int (Nat × ByteArray) := if ∀ p ∈ gA path, bB p then iE O d (gA path) else .error 95
def actNew (S : aE) (d : Nat) (name text : ByteArray) : Int × aE :=
  if bN S.X S.O S.idx d name = 0 then (0, (writeM (bC S d name (aA S.X 1 420)) (aC S.X) text.data.toList).2.2) else (bN S.X S.O S.idx d name, S)
def actWrite (S : aE) (d : Nat) (name text : ByteArray) : Int × aE :=
  match aR name (obj S.O d).ah with
  | none => (170, S)
  | some t => if t.kind = 3 then (174, S) else if t.kind = 2 then (172, S) else ((writeM S t.k text.data.toList).2.1, (writeM S t.k text.data.toList).2.2)
def actR (S : aE) (top : Nat) (a : wF) (d : Nat) (name : ByteArray) : Int × aE :=
  if a.op = 1 then actNew S d name a.text
  else if a.op = 2 then mkdirM S d name 493
  else if a.op = 3 then symlinkM S d name a.text
  else if a.op = 4 then unlinkM S d name
  else if a.op = 5 then rmdirM S d name
  else if a.op = 6 then match gJ S.O top a.to with
    | .error e => (e, S)
    | .ok (to, toName) => renameM S d name to toName
  else actWrite S d name a.text
def actM (S : aE) (root : Int) (a : wF) : Int × aE :=
  if a.op < 1 ∨ a.op > 7 then (230, S)
  else match TabM.get S.idx root with
    | none => (141, S)
    | some t => if t.kind = 2 then
        match gJ S.O t.k a.path with
        | .error e => (e, S)
        | .ok (d, name) => actR S t.k a d name
      else (173, S)
end
section facts
variable {S : aE} {O : bJ} {d d' : Nat} {name : ByteArray} {t : Th}
theorem D2 (hI : Inv0 S) : ∀ (ps : List ByteArray) (d : Nat), Live S.idx ⟨d, 2⟩ → (∀ p ∈ ps, bB p) → iE S.O d ps = .ok (d', name) → Live S.idx ⟨d', 2⟩ ∧ (obj S.O d').gone = false ∧ bB name
  | [], d, _, _, h => by cases h
  | [p], d, hd, hg, h => by
    unfold iE at h
    split at h
    ·cases h
    rename_i hn
    cases h
    exact ⟨hd, by simpa using hn, hg _ (List.mem_singleton.2 rfl)⟩
  | p :: q :: r, d, hd, hg, h => by
    unfold iE at h
    cases e : aR p (obj S.O d).ah with
    | none => rw [e] at h; cases h
    | some t =>
      rw [e] at h
      simp only at h
      split at h
      ·cases h
      rename_i h3
      split at h
      ·cases h
      rename_i h1
      have hl := (hI.ent hd e).2
      have hk : t = ⟨t.k, 2⟩ := by
        have := (hI.ob _ hl).2.2
        obtain ⟨k, kd⟩ := t
        simp only at this h1 h3
        have : kd = 2 := by omega
        rw [this]
      rw [hk] at hl
      exact D2 hI (q :: r) t.k hl (fun p hp => hg p (List.mem_cons_of_mem _ hp)) h
theorem zl {path : ByteArray} (hI : Inv0 S) (hd : Live S.idx ⟨d, 2⟩) (h : gJ S.O d path = .ok (d', name)) : Live S.idx ⟨d', 2⟩ ∧ (obj S.O d').gone = false ∧ bB name := by
  unfold gJ at h
  split at h
  ·rename_i hg
   exact D2 hI _ _ hd hg h
  cases h
theorem Cp (hI : Inv S) {o : aO} : Live (ins (S.X.last + 1) ⟨aC S.X, o.kind⟩ S.idx) ⟨aC S.X, o.kind⟩ := by
  unfold Live
  have h1 := mV hI.toInv0
  have hn : S.X.last + 1 ∉ keys S.idx := by
    cases e : TabM.get S.idx (S.X.last + 1) with
    | none => exact get_none.1 e
    | some t => have := hI.idx _ _ e; omega
  rw [oZ hn]
  simp only
  rw [h1, if_pos rfl]
theorem Inv.actNew {text : ByteArray} (hI : Inv S) (hd : Live S.idx ⟨d, 2⟩) (fZ : (obj S.O d).gone = false) (hgn : bB name) : Inv (Proofs.YtkiedlmhocglhaaGreatDoor.actNew S d name text).2 := by
  unfold Proofs.YtkiedlmhocglhaaGreatDoor.actNew
  split
  ·rename_i h0
   exact (hI.Be hd fZ hgn h0 (.inl rfl) ⟨by decide, by decide⟩ (.inl ⟨by decide, rfl⟩)).writeM (Cp hI (o := aA S.X 1 420)) _
  exact hI
theorem Inv.actWrite {text : ByteArray} (hI : Inv S) (hd : Live S.idx ⟨d, 2⟩) : Inv (Proofs.YtkiedlmhocglhaaGreatDoor.actWrite S d name text).2 := by
  unfold Proofs.YtkiedlmhocglhaaGreatDoor.actWrite
  split
  ·exact hI
  rename_i t e
  split
  ·exact hI
  split
  ·exact hI
  rename_i h3 h2
  have hl := (hI.ent hd e).2
  have hk : t = ⟨t.k, 1⟩ := by
    have := (hI.ob _ hl).2.2
    obtain ⟨k, kd⟩ := t
    simp only at this h2 h3
    have : kd = 1 := by omega
    rw [this]
  rw [hk] at hl
  exact hI.writeM hl _
theorem Inv.actR {top : Nat} {a : wF} (hI : Inv S) (ht : Live S.idx ⟨top, 2⟩) (hd : Live S.idx ⟨d, 2⟩) (fZ : (obj S.O d).gone = false) (hgn : bB name) : Inv (Proofs.YtkiedlmhocglhaaGreatDoor.actR S top a d name).2 := by
  unfold Proofs.YtkiedlmhocglhaaGreatDoor.actR
  split
  ·exact hI.actNew hd fZ hgn
  split
  ·exact hI.mkdirM hd fZ hgn ⟨by decide, by decide⟩
  split
  ·exact hI.symlinkM hd fZ hgn
  split
  ·exact hI.unlinkM hd
  split
  ·exact hI.rmdirM hd
  split
  ·split
   ·exact hI
   rename_i to toName e
   obtain ⟨h1, h2, h3⟩ := zl hI.toInv0 ht e
   exact hI.renameM hd h1 h2 h3
  exact hI.actWrite hd
theorem Kv {i : Int} (hI : Inv0 S) (e : TabM.get S.idx i = some t) (hk : t.kind = 2) : Live S.idx ⟨t.k, 2⟩ := by
  have := hI.live e
  obtain ⟨k, kd⟩ := t
  simp only at hk
  subst hk
  exact this
theorem Inv.actM {root : Int} {a : wF} (hI : Inv S) : Inv (Proofs.YtkiedlmhocglhaaGreatDoor.actM S root a).2 := by
  unfold Proofs.YtkiedlmhocglhaaGreatDoor.actM
  split
  ·exact hI
  split
  ·exact hI
  rename_i t e
  split
  ·rename_i hk
   split
   ·exact hI
   rename_i d name e2
   have ht := Kv hI.toInv0 e hk
   obtain ⟨h1, h2, h3⟩ := zl hI.toInv0 ht e2
   exact hI.actR ht h1 h2 h3
  exact hI
end facts
section err
variable {S : aE} {c : aT} {d to : Nat} {name toName text : ByteArray} {t : Th}
end err
end
section
open Go.RowKit
def mw (β : Bs) (Φ : Bs → Prop) : bR where
  h F w := ∃ β' : Bs, β.le β' ∧ (∀ k, β'.O k → β.O k ∨ F k) ∧ (∀ k, F k → β'.O k) ∧ β'.w0.heap.size ≤ w.heap.size ∧ (∀ k, F k → k < β'.w0.heap.size ∧ w.heap[k]? = β'.w0.heap[k]?) ∧ Φ β'
  lt := fun ⟨_, _, _, _, h4, h5, _⟩ k hk => Nat.lt_of_lt_of_le (h5 k hk).1 h4
  st := fun ⟨β', h1, h2, h3, h4, h5, h6⟩ _ _ hk hs => ⟨β', h1, h2, h3, Nat.le_trans h4 hk.size, fun k hF => ⟨(h5 k hF).1, (hk.block k (Nat.lt_of_lt_of_le (h5 k hF).1 h4) (hs k hF)).trans (h5 k hF).2⟩, h6⟩
section LR
variable {P : Program} {β : Bs} {N : Nat} {ops : Array Oper} {k : Nat} {fr : Fr} {hps aQ : List HP} {Q : Post} {f : FuncId} {args : Array Value} {pre : List HP}
theorem dV.LR {ι : Type} {vv : ι → Value} {ll : ι → List HP} {Φ : ι → Bs → Prop} (h : dV P β f args pre (fun β' v l => ∃ x, v = vv x ∧ l = ll x ∧ Φ x β')) : Spec P β f args pre (fun v l => ∃ x, v = vv x ∧ l = .abs (mw β (Φ x)) :: ll x) := by
  intro R w hS
  refine (h R w hS).mono ?_
  rintro e w' ⟨β', v, l, hle, he, ⟨x, rfl, rfl, Bq⟩, ho, φ, h1, h2, h3⟩
  refine ⟨vv x, _, he, ⟨x, rfl, rfl⟩, ho.le hle, fun i => match i with
    | 0 => fun k => β'.O k ∧ ¬ β.O k
    | i + 1 => φ i, fun i p hp => ?_, fun i hi k hk hO => ?_, fun i j hi hj hne k hk hk' => ?_⟩
  ·cases i with
   | zero =>
     have hp : some (HP.abs (mw β (Φ x))) = some p := hp
     cases hp
     exact ⟨β', hle, fun k hk => (Classical.em (β.O k)).elim .inl (fun hn => .inr ⟨hk, hn⟩), fun k hk => hk.1, ho.size, fun k hk => ho.old k hk.1, Bq⟩
   | succ i => exact h1 i p (by simpa using hp)
  ·cases i with
   | zero => exact hk.2 hO
   | succ i => exact h2 i (by simp at hi ⊢; omega) k hk (hle.O k hO)
  cases i with
  | zero =>
    cases j with
    | zero => exact hne rfl
    | succ j => exact h2 j (by simp at hj ⊢; omega) k hk' hk.1
  | succ i =>
    cases j with
    | zero => exact h2 i (by simp at hi ⊢; omega) k hk hk'.1
    | succ j => exact h3 i j (by simp at hi ⊢; omega) (by simp at hj ⊢; omega) (by omega) k hk hk'
theorem Sat.OL {Φ : Bs → Prop} {l : List HP} {w : World} (h : Sat β (.abs (mw β Φ) :: l) w) : ∃ β' : Bs, β.le β' ∧ Φ β' ∧ Sat β' l w := by
  obtain ⟨ho, φ, h1, h2, h3⟩ := h
  have hF : (mw β Φ).h (φ 0) w := h1 0 _ rfl
  obtain ⟨β', g1, g2, g3, g4, g5, g6⟩ := hF
  refine ⟨β', g1, g6, ⟨ho.os.trans g1.os.symm, ho.tape.trans g1.tape.symm, ho.output.trans g1.output.symm, g4, fun k hk => ?_⟩, fun j => φ (j + 1), fun j p hp => h1 (j + 1) p (by simpa using hp), fun j hj k hk hO => ?_, fun a b ha hb hne => h3 (a + 1) (b + 1) (by simp; omega) (by simp; omega) (by omega)⟩
  ·rcases g2 k hk with hb | hb
   ·have e1 := g1.old k hb
    have e2 := ho.old k hb
    exact ⟨Nat.lt_of_lt_of_le e1.1 g1.size, e2.2.trans e1.2.symm⟩
   exact g5 k hb
  rcases g2 k hO with hb | hb
  ·exact h2 (j + 1) (by simp; omega) k hk hb
  exact h3 (j + 1) 0 (by simp; omega) (by simp) (by omega) k hk hb
theorem Spec.EK {Φ : Bs → Prop} {post : Value → List HP → Prop} (h : ∀ β' : Bs, β.le β' → Φ β' → Spec P β' f args pre post) : Spec P β f args (.abs (mw β Φ) :: pre) post := by
  intro R w hS
  obtain ⟨β', g1, g2, g3⟩ := Sat.OL (l := pre ++ [.abs R]) hS
  refine (h β' g1 g2 R w g3).mono ?_
  rintro e w' ⟨v, l, h1, h2, h3⟩
  exact ⟨v, l, h1, h2, h3.Fy g1⟩
end LR
end
section
open Go.RowKit
section
variable {O : bJ} {k : Nat} {kd : Int}
theorem zm (L : HL) (h : (obj O k).kind = kd) (h0 : kd ≠ 0 := by decide) : ∀ F w, (ak (aN O L)).h F w → w.cell? ⟨L.b k, 0, none⟩ = some (.int .i64 (obj O k).id) := bn (by rw [h]; exact h0) rfl
theorem LU (L : HL) (h : (obj O k).kind = kd) (h0 : kd ≠ 0 := by decide) : ∀ F w, (ak (aN O L)).h F w → w.cell? ⟨L.b k, 1, none⟩ = some (.int .i64 (obj O k).mode) := bn (by rw [h]; exact h0) rfl
theorem kG (L : HL) (h : (obj O k).kind = kd) (h0 : kd ≠ 0 := by decide) : ∀ F w, (ak (aN O L)).h F w → w.cell? ⟨L.b k, 6, none⟩ = some (.int .i64 (obj O k).links) := bn (by rw [h]; exact h0) rfl
theorem iI (L : HL) (h : (obj O k).kind = kd) (h0 : kd ≠ 0 := by decide) : ∀ F w, (ak (aN O L)).h F w → w.cell? ⟨L.b k, 7, none⟩ = some (.int .i64 (obj O k).opens) := bn (by rw [h]; exact h0) rfl
theorem kS (L : HL) (h : (obj O k).kind = kd) (h0 : kd ≠ 0 := by decide) : ∀ F w, (ak (aN O L)).h F w → w.cell? ⟨L.b k, 8, none⟩ = some (.bool (obj O k).gone) := bn (by rw [h]; exact h0) rfl
theorem LV (L : HL) (h : (obj O k).kind = 1) : ∀ F w, (ak (aN O L)).h F w → w.cell? ⟨L.b k, 9, none⟩ = some (.slice (L.dA k) (obj O k).data.length (L.dC k)) := bn (by rw [h]; decide) (by rw [d9 h]; rfl)
theorem bw (L : HL) (h : (obj O k).kind = 2) : ∀ F w, (ak (aN O L)).h F w → w.cell? ⟨L.b k, 9, none⟩ = some (.map (some (L.m k))) := bn (by rw [h]; decide) (by rw [gD h]; rfl)
theorem OM (L : HL) (h : (obj O k).kind = 2) : ∀ F w, (ak (aN O L)).h F w → w.cell? ⟨L.b k, 10, none⟩ = some (qt L (obj O k).up) := bn (by rw [h]; decide) (by rw [gD h]; rfl)
theorem Np (L : HL) (h : (obj O k).kind = 3) : ∀ F w, (ak (aN O L)).h F w → w.cell? ⟨L.b k, 9, none⟩ = some (.string (obj O k).target) := bn (by rw [h]; decide) (by rw [tQ h]; rfl)
end
end
section
open Go.RowKit Go.Maps
theorem ak.step {R R' : Nat → bR} {k : Nat} {F : Fp} {w w' : World} (hF : (ak R).h F w) (hR : ∀ x, x ≠ k → R' x = R x) (hs : ∀ G, (R k).h G w → ∃ G', (R' k).h G' w' ∧ Step G w G' w') : ∃ F', (ak R').h F' w' ∧ Step F w F' w' := by
  obtain ⟨φ, h1, h2, h3⟩ := hF
  obtain ⟨G', g1, st⟩ := hs _ (h1 k)
  have hap : ∀ i, i ≠ k → ∀ x, G' x → φ i x → False := fun i hne x hx hy => by
    rcases st.grow x hx with e | e
    ·exact h2 i k hne x hy e
    have := (R i).lt (h1 i) x hy; omega
  refine ⟨fun x => ∃ i, (if i = k then G' else φ i) x, ⟨fun i => if i = k then G' else φ i, fun i => ?_, fun i j hne x hx hy => ?_, fun x => Iff.rfl⟩, ⟨st.keeps.mono (fun x _ hx => (h3 x).2 ⟨k, hx⟩), fun x ⟨i, hx⟩ => ?_⟩⟩
  ·by_cases e : i = k
   ·subst e; simp only [if_true]; exact g1
   simp only [e, if_false]
   rw [hR i e]
   exact (R i).st (h1 i) st.keeps (fun x hx hk => h2 i k e x hx hk)
  ·by_cases e1 : i = k
   ·have e2 : j ≠ k := fun e => hne (e1.trans e.symm)
    simp only [e1, if_true] at hx
    simp only [e2, if_false] at hy
    exact hap j e2 x hx hy
   simp only [e1, if_false] at hx
   by_cases e2 : j = k
   ·simp only [e2, if_true] at hy
    exact hap i e1 x hy hx
   simp only [e2, if_false] at hy
   exact h2 i j hne x hx hy
  by_cases e : i = k
  ·simp only [e, if_true] at hx
   rcases st.grow x hx with h | h
   ·exact .inl ((h3 x).2 ⟨k, h⟩)
   exact .inr h
  simp only [e, if_false] at hx
  exact .inl ((h3 x).2 ⟨i, hx⟩)
def zn (O : bJ) (L : HL) : Nat → HP
  | 0 => .abs (ak (aN O L))
  | 1 => .abs (ak (bh O L))
  | _ => .abs (ak (aY O L))
def mX (O : bJ) (L : HL) : List (Nat × Nat) → List (Nat × HP)
  | [] => []
  | q :: r => (q.1, zn O L q.2) :: mX O L r
def qz (hps : List HP) (O : bJ) (L : HL) : List (Nat × Nat) → Prop
  | [] => True
  | q :: r => hps[q.1]? = some (zn O L q.2) ∧ qz hps O L r
theorem rH {hps : List HP} {O O2 : bJ} {L : HL} {p : Nat} (he : ∀ q, q ≠ p → zn O2 L q = zn O L q) : ∀ {js : List (Nat × Nat)}, qz hps O L js → lM p (js.map (·.2)) = false → kr hps (mX O2 L js) = hps
  | [], _, _ => rfl
  | q :: r, h, hn => by
    have hq : q.2 ≠ p := fun e => by
      rw [show lM p ((q :: r).map (·.2)) = true from rf.2 (by simp [e])] at hn; cases hn
    have hr : lM p (r.map (·.2)) = false := by
      cases hb : lM p (r.map (·.2)) with
      | false => rfl
      | true => rw [show lM p ((q :: r).map (·.2)) = true from rf.2 (List.mem_cons_of_mem _ (rf.1 hb))] at hn; cases hn
    show kr (hps.set q.1 (zn O2 L q.2)) (mX O2 L r) = hps
    have e : hps.set q.1 (zn O2 L q.2) = hps := by
      rw [he _ hq]
      refine List.ext_getElem? (fun n => ?_)
      rw [List.getElem?_set]
      split
      ·rename_i e; subst e
       rw [h.1]; split
       ·rfl
       rename_i hlt; exact absurd (br h.1) hlt
      rfl
    rw [e]
    exact rH he h.2 hr
def x3 (P : Program) (N : Nat) (junk : Nat → Value) (ops : Array Oper) (fr : Fr) (k : Nat) : Option (Addr × Value) :=
  match dR N junk ops fr k with
  | some (.store T a y, _) => match (P.info? T).map (·.size) with
    | some 1 => match cC N fr junk a with
      | .pointer (some ad) => some (ad, cC N fr junk y)
      | _ => none
    | _ => none
  | _ => none
def x5 (N : Nat) (junk : Nat → Value) (ops : Array Oper) (fr : Fr) (k : Nat) : Option (TypeId × Nat × Value) :=
  match dR N junk ops fr k with
  | some (.lookup t x ix false, _) => match cC N fr junk x with
    | .map (some b) => some (t, b, cC N fr junk ix)
    | _ => none
  | _ => none
def setAt (N : Nat) (junk : Nat → Value) (ops : Array Oper) (fr : Fr) (k : Nat) : Option (TypeId × Nat × Value × Value) :=
  match dR N junk ops fr k with
  | some (.mapUpdate t x ix y, _) => match cC N fr junk x with
    | .map (some b) => some (t, b, cC N fr junk ix, cC N fr junk y)
    | _ => none
  | _ => none
def EL (N : Nat) (junk : Nat → Value) (ops : Array Oper) (fr : Fr) (k : Nat) : Option (TypeId × TypeId × Nat × Value) :=
  match dR N junk ops fr k with
  | some (.call ⟨.builtin .delete, xs, ts⟩, _) => match xs.toList with
    | [x, ix] => match ts.toList with
      | [t, K] => match cC N fr junk x with
        | .map (some b) => some (t, K, b, cC N fr junk ix)
        | _ => none
      | _ => none
    | _ => none
  | _ => none
def Cq (L : HL) : Option Th → Value
  | none => .nilIface
  | some t => cF L t
section rules
variable {β : Bs} {N : Nat} {ops : Array Oper} {k x : Nat} {fr : Fr} {hps : List HP} {Q : Post} {O : bJ} {L : HL} {name : ByteArray} {r : Option Th} {t : Th}
theorem rI {junk : Nat → Value} {op : Op} {d : Option Tmp} (h : dR N junk ops fr k = some (op, d)) : d = gi ops k := by
  obtain ⟨o, h1, _, _, h4⟩ := cU h
  unfold gi
  rw [h1, ← h4]
theorem Cr {P : Program} {junk : Nat → Value} {ad : Addr} {u : Value} (h : x3 P N junk ops fr k = some (ad, u)) : ∃ T a y, dR N junk ops fr k = some (.store T a y, gi ops k) ∧ (P.info? T).map (·.size) = some 1 ∧ cC N fr junk a = .pointer (some ad) ∧ cC N fr junk y = u := by
  unfold x3 at h
  repeat' split at h
  all_goals first | (cases h; done) | skip
  rename_i T a y d h0 _ h1 _ PE h2
  cases h
  have := rI h0
  subst this
  exact ⟨T, a, y, h0, h1, h2, rfl⟩
theorem lW {junk : Nat → Value} {T : TypeId} {b : Nat} {key : Value} (h : x5 N junk ops fr k = some (T, b, key)) : ∃ a y, dR N junk ops fr k = some (.lookup T a y false, gi ops k) ∧ cC N fr junk a = .map (some b) ∧ cC N fr junk y = key := by
  unfold x5 at h
  repeat' split at h
  all_goals first | (cases h; done) | skip
  rename_i T' a y d h0 _ b' h1
  cases h
  have := rI h0
  subst this
  exact ⟨a, y, h0, h1, rfl⟩
theorem IK {junk : Nat → Value} {T : TypeId} {b : Nat} {key u : Value} (h : setAt N junk ops fr k = some (T, b, key, u)) : ∃ a y z, dR N junk ops fr k = some (.mapUpdate T a y z, gi ops k) ∧ cC N fr junk a = .map (some b) ∧ cC N fr junk y = key ∧ cC N fr junk z = u := by
  unfold setAt at h
  repeat' split at h
  all_goals first | (cases h; done) | skip
  rename_i T' a y z d h0 _ b' h1
  cases h
  have := rI h0
  subst this
  exact ⟨a, y, z, h0, h1, rfl, rfl⟩
theorem Gn {P : Program} {T : TypeId} {a y : Operand} {o : Oper} {ev : Operand → Value} {w : World} {ad : Addr} {u v0 : Value} (ho : o.op = .store T a y) (hT : (P.info? T).map (·.size) = some 1) (ha : ev a = .pointer (some ad)) (hy : ev y = u) (hu : u.oneCell' = true) (hc : w.cell? ad = some v0) (hf : w.frozen? ad = false) (hs : ad.spot = none) : mJ P ev o w undef (w.setCell ad u) := by
  obtain ⟨inf, hi, hsz⟩ : ∃ inf, P.info? T = some inf ∧ inf.size = 1 := by
    cases h : P.info? T with
    | none => rw [h] at hT; cases hT
    | some inf => rw [h] at hT; exact ⟨inf, rfl, by simpa using hT⟩
  have h3 := lI hi w
  rw [hsz] at h3
  obtain ⟨dst, op, type, pos, after, guard⟩ := o
  obtain ⟨bk, off, spot⟩ := ad
  simp only at hs
  subst hs
  cases ho
  refine .inr ⟨rfl, ?_⟩
  cases u <;> first
    | (simp [Value.oneCell'] at hu; done)
    | (simp only [execOp, ha, hy]; simp [go_sem, Instr.storeAt, Instr.sureAddr, storeVar, h3, Value.cells, storeCells, store, Addr.add, Sem.run, hc, hf])
theorem NR (i : Nat) (js : List (Nat × Nat)) (x j : Nat) (f : aO → aO) (u : Value) {kd : Int} (hk : (obj O x).kind = kd)
    (K : ∀ O2, O2 = av O x f → aj Tryz.prog β N ops (k + 1) (cG fr (gi ops k) undef) ((kr hps (mX O2 L js)).set i (.abs (ak (aN O2 L)))) Q)
    (hp : hps[i]? = some (.abs (ak (aN O L)))) (hj : qz hps O L js)
    (ho : ∀ junk, x3 Tryz.prog N junk ops fr k = some (⟨L.b x, j, none⟩, u))
    (hn : lM 0 (js.map (·.2)) = false) (h0 : kd ≠ 0) (hc : eO L x (f (obj O x)) = (eO L x (obj O x)).set j u) (hu : u.oneCell' = true) (h9 : j < (eO L x (obj O x)).length)
    (he : (f (obj O x)).ah = (obj O x).ah) (hd : (f (obj O x)).data = (obj O x).data) (x6 : (f (obj O x)).kind = (obj O x).kind) : aj Tryz.prog β N ops k fr hps Q := by
  obtain ⟨T, a, y, h1, h2, h3, h4⟩ := Cr (ho (fun _ => undef))
  intro junk w hS
  obtain ⟨T, a, y, h1, h2, h3, h4⟩ := Cr (ho junk)
  obtain ⟨o, g1, g2, g3, g4⟩ := cU h1
  have hx0 : (obj O x).kind ≠ 0 := by rw [hk]; exact h0
  have Cs : kr hps (mX (av O x f) L js) = hps := rH (p := 0) (fun q hq => by
    match q, hq with
    | 0, hq => exact absurd rfl hq
    | 1, _ => exact congrArg (fun R => HP.abs (ak R)) (kB he x6)
    | q + 2, _ => exact congrArg (fun R => HP.abs (ak R)) (kA hd x6)) hj hn
  have hcell : ∃ v0, (eO L x (obj O x))[j]? = some v0 := gP h9
  obtain ⟨v0, hv0⟩ := hcell
  obtain ⟨F, hF⟩ := hS.get hp
  obtain ⟨G, hG⟩ := ak.at x hF
  have NT := hG
  rw [jt hx0] at NT
  obtain ⟨hb, _⟩ := NT
  obtain ⟨c1, c2⟩ := eU (a := ⟨L.b x, j, none⟩) hb rfl rfl hv0
  have rE : Sat β (hps.set i (.abs (ak (aN (av O x f) L)))) (w.setCell ⟨L.b x, j, none⟩ (u)) := hS.set hp (fun F hF => ak.step (k := x) (show (ak (aN O L)).h F w from hF) (fun y hy => rA hy) (fun G hG => by
    rw [jt hx0] at hG
    rw [rz, if_neg (by rw [x6]; exact hx0), hc, x6]
    exact o6 hG rfl rfl))
  rw [drop_cons g1]
  unfold wpList
  rw [dO, if_pos g2]
  refine .inl (iK (v := undef) (w' := w.setCell ⟨L.b x, j, none⟩ (u)) (by rw [dw]; exact Gn g3 h2 h3 h4 hu c1 c2 rfl) ?_)
  rw [dh]
  have hK := K _ rfl junk _ (by rw [Cs]; exact rE)
  rw [← g4] at hK
  exact hK
theorem pU (i : Nat) (js : List (Nat × Nat)) (x j : Nat) (f : aO → aO) {kd : Int} (hk : (obj O x).kind = kd)
    (K : ∀ O2, O2 = av O x f → aj Tryz.prog β N ops (k + 1) (cG fr (gi ops k) undef) ((kr hps (mX O2 L js)).set i (.abs (ak (aN O2 L)))) Q)
    (hp : hps[i]? = some (.abs (ak (aN O L))) := by rfl) (hj : qz hps O L js := by first | exact ⟨rfl, trivial⟩ | exact ⟨rfl, rfl, trivial⟩ | exact trivial)
    (ho : ∀ junk, x3 Tryz.prog N junk ops fr k = some (⟨L.b x, j, none⟩, (uV (f (obj O x))).getD j undef) := by intro _; kernel_rfl)
    (hn : lM 0 (js.map (·.2)) = false := by rfl) (h0 : kd ≠ 0 := by decide) (hc : eO L x (f (obj O x)) = (eO L x (obj O x)).set j ((uV (f (obj O x))).getD j undef) := by rfl) (hu : ((uV (f (obj O x))).getD j undef).oneCell' = true := by rfl) (h9 : Nat.blt j 9 = true := by rfl)
    (he : (f (obj O x)).ah = (obj O x).ah := by rfl) (hd : (f (obj O x)).data = (obj O x).data := by rfl) (x6 : (f (obj O x)).kind = (obj O x).kind := by rfl) : aj Tryz.prog β N ops k fr hps Q :=
  NR i js x j f _ hk K hp hj ho hn h0 hc hu (Nat.lt_of_lt_of_le (show j < 9 by simpa [Nat.blt_eq] using h9) (by unfold eO uV; simp)) he hd x6
theorem NU (i : Nat) (js : List (Nat × Nat)) (x : Nat) (y : Option Nat) (hk : (obj O x).kind = 2)
    (K : ∀ O2, O2 = av O x (fun o => { o with up := y }) → aj Tryz.prog β N ops (k + 1) (cG fr (gi ops k) undef) ((kr hps (mX O2 L js)).set i (.abs (ak (aN O2 L)))) Q)
    (hp : hps[i]? = some (.abs (ak (aN O L))) := by rfl) (hj : qz hps O L js := by first | exact ⟨rfl, trivial⟩ | exact ⟨rfl, rfl, trivial⟩ | exact trivial)
    (ho : ∀ junk, x3 Tryz.prog N junk ops fr k = some (⟨L.b x, 10, none⟩, qt L y) := by intro _; kernel_rfl) (hn : lM 0 (js.map (·.2)) = false := by rfl) : aj Tryz.prog β N ops k fr hps Q :=
  NR i js x 10 (fun o => { o with up := y }) (qt L y) hk K hp hj ho hn (by decide) (by rw [gD (show ({ obj O x with up := y } : aO).kind = 2 from hk), gD hk]; rfl) (by cases y <;> rfl) (by rw [gD hk]; exact Nat.lt_succ_self 10) rfl rfl rfl
theorem Sat.JJ {w : World} {i j : Nat} {f : aO → aO} {u : Value} (hS : Sat β hps w) (hp : hps[i]? = some (.abs (ak (aN O L)))) (hx0 : (obj O x).kind ≠ 0) (hc : eO L x (f (obj O x)) = (eO L x (obj O x)).set j u) (x6 : (f (obj O x)).kind = (obj O x).kind) (h9 : j < (eO L x (obj O x)).length) :
    Sat β (hps.set i (.abs (ak (aN (av O x f) L)))) (w.setCell ⟨L.b x, j, none⟩ u) ∧ (∃ v0, w.cell? ⟨L.b x, j, none⟩ = some v0) ∧ w.frozen? ⟨L.b x, j, none⟩ = false := by
  obtain ⟨v0, hv0⟩ := gP h9
  obtain ⟨F, hF⟩ := hS.get hp
  obtain ⟨G, hG⟩ := ak.at x (show (ak (aN O L)).h F w from hF)
  rw [jt hx0] at hG
  obtain ⟨c1, c2⟩ := eU (a := ⟨L.b x, j, none⟩) hG.1 rfl rfl hv0
  refine ⟨hS.set hp (fun F hF => ak.step (k := x) (show (ak (aN O L)).h F w from hF) (fun y hy => rA hy) (fun G hG => ?_)), ⟨v0, c1⟩, c2⟩
  rw [jt hx0] at hG
  rw [rz, if_neg (by rw [x6]; exact hx0), hc, x6]
  exact o6 hG rfl rfl
def Ct (P : Program) (N : Nat) (junk : Nat → Value) (ops : Array Oper) (fr : Fr) (k : Nat) : Option (Addr × Value) :=
  match dR N junk ops fr k with
  | some (.store T a y, _) => match (P.info? T).map (·.size) with
    | some 2 => match cC N fr junk a with
      | .pointer (some ad) => some (ad, cC N fr junk y)
      | _ => none
    | _ => none
  | _ => none
theorem Gp {P : Program} {junk : Nat → Value} {ad : Addr} {u : Value} (h : Ct P N junk ops fr k = some (ad, u)) : ∃ T a y, dR N junk ops fr k = some (.store T a y, gi ops k) ∧ (P.info? T).map (·.size) = some 2 ∧ cC N fr junk a = .pointer (some ad) ∧ cC N fr junk y = u := by
  unfold Ct at h
  repeat' split at h
  all_goals first | (cases h; done) | skip
  rename_i T a y d h0 _ h1 _ PE h2
  cases h
  have := rI h0
  subst this
  exact ⟨T, a, y, h0, h1, h2, rfl⟩
theorem EM {P : Program} {T : TypeId} {a y : Operand} {o : Oper} {ev : Operand → Value} {w : World} {b j : Nat} {z1 z2 : Int} {v0 v1 : Value} (ho : o.op = .store T a y) (hT : (P.info? T).map (·.size) = some 2) (ha : ev a = .pointer (some ⟨b, j, none⟩)) (hy : ev y = .agg #[.int .i64 z1, .int .i64 z2])
    (hc : w.cell? ⟨b, j, none⟩ = some v0) (hf : w.frozen? ⟨b, j, none⟩ = false) (hc1 : (w.setCell ⟨b, j, none⟩ (.int .i64 z1)).cell? ⟨b, j + 1, none⟩ = some v1) (hf1 : (w.setCell ⟨b, j, none⟩ (.int .i64 z1)).frozen? ⟨b, j + 1, none⟩ = false) :
    mJ P ev o w undef ((w.setCell ⟨b, j, none⟩ (.int .i64 z1)).setCell ⟨b, j + 1, none⟩ (.int .i64 z2)) := by
  obtain ⟨inf, hi, hsz⟩ : ∃ inf, P.info? T = some inf ∧ inf.size = 2 := by
    cases h : P.info? T with
    | none => rw [h] at hT; cases hT
    | some inf => rw [h] at hT; exact ⟨inf, rfl, by simpa using hT⟩
  have h3 := lI hi w
  rw [hsz] at h3
  obtain ⟨dst, op, type, pos, after, guard⟩ := o
  cases ho
  refine .inr ⟨rfl, ?_⟩
  simp only [execOp, ha, hy]
  simp [go_sem, Instr.storeAt, Instr.sureAddr, storeVar, h3, Value.cells, storeCells, store, Addr.add, Sem.run, hc, hf, hc1, hf1]
theorem Gq (i : Nat) (js : List (Nat × Nat)) (x : Nat) (z1 z2 : Int) {kd : Int} (hk : (obj O x).kind = kd)
    (K : ∀ O2, O2 = av O x (fun o => { o with sec := z1, nano := z2 }) → aj Tryz.prog β N ops (k + 1) (cG fr (gi ops k) undef) ((kr hps (mX O2 L js)).set i (.abs (ak (aN O2 L)))) Q)
    (hp : hps[i]? = some (.abs (ak (aN O L))) := by rfl) (hj : qz hps O L js := by first | exact ⟨rfl, trivial⟩ | exact ⟨rfl, rfl, trivial⟩ | exact trivial)
    (ho : ∀ junk, Ct Tryz.prog N junk ops fr k = some (⟨L.b x, 4, none⟩, .agg #[.int .i64 z1, .int .i64 z2]) := by intro _; kernel_rfl)
    (hn : lM 0 (js.map (·.2)) = false := by rfl) (h0 : kd ≠ 0 := by decide) : aj Tryz.prog β N ops k fr hps Q := by
  intro junk w hS
  obtain ⟨T, a, y, h1, h2, h3, h4⟩ := Gp (ho junk)
  obtain ⟨o, g1, g2, g3, g4⟩ := cU h1
  have hx0 : (obj O x).kind ≠ 0 := by rw [hk]; exact h0
  have Cs : kr hps (mX (av O x (fun o => { o with sec := z1, nano := z2 })) L js) = hps := rH (p := 0) (fun q hq => by
    match q, hq with
    | 0, hq => exact absurd rfl hq
    | 1, _ => exact congrArg (fun R => HP.abs (ak R)) (kB rfl rfl)
    | q + 2, _ => exact congrArg (fun R => HP.abs (ak R)) (kA rfl rfl)) hj hn
  have hlen : ∀ o : aO, 9 ≤ (eO L x o).length := fun o => by unfold eO uV; simp
  obtain ⟨s1, ⟨v0, c1⟩, f1⟩ := hS.JJ (x := x) (j := 4) (f := fun o => { o with sec := z1 }) (u := .int .i64 z1) hp hx0 rfl rfl (by have := hlen (obj O x); omega)
  have hi : i < hps.length := br hp
  have e1 : obj (av O x (fun o => { o with sec := z1 })) x = { obj O x with sec := z1 } := bE
  obtain ⟨s2, ⟨v1, c2⟩, f2⟩ := s1.JJ (x := x) (j := 5) (f := fun o => { o with nano := z2 }) (u := .int .i64 z2) (i := i) (O := av O x (fun o => { o with sec := z1 })) (by rw [List.getElem?_set, if_pos rfl, if_pos hi]) (by rw [e1]; exact hx0) rfl rfl (by have := hlen (obj (av O x (fun o => { o with sec := z1 })) x); omega)
  rw [List.set_set, qq] at s2
  rw [drop_cons g1]
  unfold wpList
  rw [dO, if_pos g2]
  refine .inl (iK (v := undef) (w' := _) (by rw [dw]; exact EM g3 h2 h3 h4 c1 f1 c2 f2) ?_)
  rw [dh]
  have hK := K _ rfl junk _ (by rw [Cs]; exact s2)
  rw [← g4] at hK
  exact hK
theorem vk {w : World} {i : Nat} (hS : Sat β hps w) (hp : hps[i]? = some (.abs (ak (bh O L)))) (hd : (obj O x).kind = 2) : dS Tryz.prog 9 w (L.m x) (fS L (obj O x).ah) (obj O x).ah.length := by
  obtain ⟨F, hF⟩ := hS.get hp
  obtain ⟨G, hG⟩ := ak.at x (show (ak (bh O L)).h F w from hF)
  rw [lQ hd] at hG
  exact hG.1
theorem D3 {w : World} {i : Nat} {o : Oper} {ev : Operand → Value} {a y : Operand} (hS : Sat β hps w) (hp : hps[i]? = some (.abs (ak (bh O L)))) (hd : (obj O x).kind = 2) (hl : aR name (obj O x).ah = r) (h3 : o.op = .lookup 97 a y false) (ha : ev a = .map (some (L.m x))) (hy : ev y = .string name) (hsz : name.size ≤ 1048576) : mJ Tryz.prog ev o w (Cq L r) w := by
  have h := rT (z := .nilIface) h3 (vk hS hp hd) ha hy wk Tryz.underlying97 (by kernel_rfl) (y5 (by omega))
  rw [oY, hl] at h
  cases r <;> exact h
theorem fM (i : Nat) (hd : (obj O x).kind = 2) (hl : aR name (obj O x).ah = r) (K : aj Tryz.prog β N ops (k + 1) (cG fr (gi ops k) (Cq L r)) hps Q) (hp : hps[i]? = some (.abs (ak (bh O L))) := by rfl)
    (ho : ∀ junk, x5 N junk ops fr k = some (97, L.m x, .string name) := by intro _; kernel_rfl) (hsz : name.size ≤ 1048576 := by omega) : aj Tryz.prog β N ops k fr hps Q := by
  intro junk w hS
  obtain ⟨a, y, h1, h2, h3⟩ := lW (ho junk)
  exact aj.iB (aQ := hps) (v := Cq L r) (d := gi ops k) (op := .lookup 97 a y false) (fun j => by
    obtain ⟨a', y', h1', _, _⟩ := lW (ho j)
    obtain ⟨o, g1, g2, g3, g4⟩ := cU h1
    obtain ⟨o', nO, Gr, pV, Gs⟩ := cU h1'
    rw [g1] at nO
    cases nO
    rw [g3] at pV
    cases pV
    exact h1') (fun o junk w ho' hS => by
    obtain ⟨a', y', h1', h2', h3'⟩ := lW (ho junk)
    obtain ⟨o1, g1, g2, g3, g4⟩ := cU h1
    obtain ⟨o', nO, Gr, pV, Gs⟩ := cU h1'
    rw [g1] at nO
    cases nO
    rw [g3] at pV
    cases pV
    exact ⟨w, D3 hS hp hd hl ho' h2' h3' hsz, hS⟩) K junk w hS
theorem om (i : Nat) (hd : (obj O x).kind = 2) (hl : aR name (obj O x).ah = r) (K : aS Tryz.prog β N ops (k + 1) (cG fr (gi ops k) (Cq L r)) hps Q) (hp : hps[i]? = some (.abs (ak (bh O L))) := by rfl)
    (ho : ∀ junk, x5 N junk ops fr k = some (97, L.m x, .string name) := by intro _; kernel_rfl) (hsz : name.size ≤ 1048576 := by omega) : aS Tryz.prog β N ops k fr hps Q := by
  intro junk
  obtain ⟨a, y, h1, h2, h3⟩ := lW (ho junk)
  exact aS.iB (v := Cq L r) (d := gi ops k) (op := .lookup 97 a y false) (fun j => by
    obtain ⟨a', y', h1', _, _⟩ := lW (ho j)
    obtain ⟨o, g1, g2, g3, g4⟩ := cU h1
    obtain ⟨o', nO, Gr, pV, Gs⟩ := cU h1'
    rw [g1] at nO
    cases nO
    rw [g3] at pV
    cases pV
    exact h1') (fun o junk w ho' hS => by
    obtain ⟨a', y', h1', h2', h3'⟩ := lW (ho junk)
    obtain ⟨o1, g1, g2, g3, g4⟩ := cU h1
    obtain ⟨o', nO, Gr, pV, Gs⟩ := cU h1'
    rw [g1] at nO
    cases nO
    rw [g3] at pV
    cases pV
    exact D3 hS hp hd hl ho' h2' h3' hsz) K junk
def EN (N : Nat) (junk : Nat → Value) (ops : Array Oper) (fr : Fr) (k : Nat) : Option (TypeId × Nat) :=
  match dR N junk ops fr k with
  | some (.call ⟨.builtin .len, xs, ts⟩, _) => match xs.toList with
    | [x] => match ts.toList with
      | [t] => match cC N fr junk x with
        | .map (some b) => some (t, b)
        | _ => none
      | _ => none
    | _ => none
  | _ => none
theorem wG {junk : Nat → Value} {T : TypeId} {b : Nat} (h : EN N junk ops fr k = some (T, b)) : ∃ a, dR N junk ops fr k = some (.call ⟨.builtin .len, #[a], #[T]⟩, gi ops k) ∧ cC N fr junk a = .map (some b) := by
  unfold EN at h
  repeat' split at h
  all_goals first | (cases h; done) | skip
  rename_i xs ts d h0 _ a h1 _ t' h2 _ b' h3
  cases h
  have := rI h0
  subst this
  refine ⟨a, ?_, h3⟩
  rw [h0]
  obtain ⟨xs⟩ := xs
  obtain ⟨ts⟩ := ts
  cases h1
  cases h2
  rfl
theorem PF (i : Nat) (hd : (obj O x).kind = 2) (K : aj Tryz.prog β N ops (k + 1) (cG fr (gi ops k) (.int .i64 (((obj O x).ah.length : Nat) : Int))) hps Q) (hp : hps[i]? = some (.abs (ak (bh O L))) := by rfl)
    (ho : ∀ junk, EN N junk ops fr k = some (97, L.m x) := by intro _; kernel_rfl) : aj Tryz.prog β N ops k fr hps Q := by
  obtain ⟨a, h1, h2⟩ := wG (ho (fun _ => undef))
  obtain ⟨o, g1, g2, g3, g4⟩ := cU h1
  refine aj.iB (aQ := hps) (v := .int .i64 (((obj O x).ah.length : Nat) : Int)) (d := gi ops k) (op := o.op) (fun j => ?_) (fun o' junk w ho' hS => ?_) K
  ·obtain ⟨a', h1', _⟩ := wG (ho j)
   obtain ⟨o', nO, Gr, pV, Gs⟩ := cU h1'
   rw [g1] at nO
   cases nO
   rw [pV]
   exact h1'
  obtain ⟨a', h1', h2'⟩ := wG (ho junk)
  obtain ⟨o1, nO, Gr, pV, Gs⟩ := cU h1'
  rw [g1] at nO
  cases nO
  exact ⟨w, uP (ho'.trans pV) rfl (vk hS hp hd) h2' Tryz.underlying97, hS⟩
theorem LW (i : Nat) (js : List (Nat × Nat)) {t : Th} (hd : (obj O x).kind = 2) (hno : aR name (obj O x).ah = none)
    (K : ∀ O2, O2 = av O x (fun o => { o with ah := eu name t o.ah }) → aj Tryz.prog β N ops (k + 1) (cG fr (gi ops k) undef) ((kr hps (mX O2 L js)).set i (.abs (ak (bh O2 L)))) Q)
    (hp : hps[i]? = some (.abs (ak (bh O L))) := by rfl) (hj : qz hps O L js := by first | exact ⟨rfl, trivial⟩ | exact ⟨rfl, rfl, trivial⟩ | exact trivial)
    (ho : ∀ junk, setAt N junk ops fr k = some (97, L.m x, .string name, cF L t) := by intro _; kernel_rfl) (hn : lM 1 (js.map (·.2)) = false := by rfl) (hsz : name.size ≤ 1048576 := by omega) (hel : (obj O x).ah.length ≤ 1048576 := by omega) : aj Tryz.prog β N ops k fr hps Q := by
  intro junk w hS
  obtain ⟨a, y, z, h1, h2, h3, h4⟩ := IK (ho junk)
  obtain ⟨o, g1, g2, g3, g4⟩ := cU h1
  have Cs : kr hps (mX (av O x (fun o => { o with ah := eu name t o.ah })) L js) = hps := rH (p := 1) (fun q hq => by
    match q, hq with
    | 0, _ => exact congrArg (fun R => HP.abs (ak R)) (BS (es := fun o => eu name t o.ah))
    | 1, hq => exact absurd rfl hq
    | q + 2, _ => exact congrArg (fun R => HP.abs (ak R)) (kA rfl rfl)) hj hn
  obtain ⟨w', m1, m2, m3⟩ := (vk hS hp hd).store wk Tryz.underlying97 (by unfold maxLen; omega) (y5 (p := name) (by omega)) (cF L t)
  have e1 : (fS L (obj O x).ah) (.string name.data.toList) = none := by rw [oY, hno]; rfl
  rw [e1, HY hno] at m2
  have rE : Sat β (hps.set i (.abs (ak (bh (av O x (fun o => { o with ah := eu name t o.ah })) L)))) w' := hS.set hp (fun F hF => ak.step (k := x) (show (ak (bh O L)).h F w from hF) (fun y hy => tO hy) (fun G hG => by
    rw [lQ hd] at hG
    rw [lQ (by rw [bE]; exact hd), bE, BP]
    exact step_map hG m2 m3))
  rw [drop_cons g1]
  unfold wpList
  rw [dO, if_pos g2]
  refine .inl (iK (v := undef) (w' := w') (by
    rw [dw]
    refine .inr ⟨rfl, ?_⟩
    obtain ⟨dst, op, type, pos, after, guard⟩ := o
    cases g3
    simp only [execOp, h2, h3, h4]
    simp [go_sem, m1]) ?_)
  rw [dh]
  have hK := K _ rfl junk _ (by rw [Cs]; exact rE)
  rw [← g4] at hK
  exact hK
theorem IL {junk : Nat → Value} {T K0 : TypeId} {b : Nat} {key : Value} (h : EL N junk ops fr k = some (T, K0, b, key)) : ∃ a y, dR N junk ops fr k = some (.call ⟨.builtin .delete, #[a, y], #[T, K0]⟩, gi ops k) ∧ cC N fr junk a = .map (some b) ∧ cC N fr junk y = key := by
  unfold EL at h
  repeat' split at h
  all_goals first | (cases h; done) | skip
  rename_i xs ts d h0 _ a y h1 _ t' K' h2 _ b' h3
  cases h
  have := rI h0
  subst this
  refine ⟨a, y, ?_, h3, rfl⟩
  rw [h0]
  obtain ⟨xs⟩ := xs
  obtain ⟨ts⟩ := ts
  cases h1
  cases h2
  rfl
theorem LX (i : Nat) (js : List (Nat × Nat)) {t : Th} (hd : (obj O x).kind = 2) (sE : aR name (obj O x).ah = some t) (hnt : lP (obj O x).ah)
    (K : ∀ O2, O2 = av O x (fun o => { o with ah := eM name o.ah }) → aj Tryz.prog β N ops (k + 1) (cG fr (gi ops k) (.tuple #[])) ((kr hps (mX O2 L js)).set i (.abs (ak (bh O2 L)))) Q)
    (hp : hps[i]? = some (.abs (ak (bh O L))) := by rfl) (hj : qz hps O L js := by first | exact ⟨rfl, trivial⟩ | exact ⟨rfl, rfl, trivial⟩ | exact trivial)
    (ho : ∀ junk, EL N junk ops fr k = some (97, 9, L.m x, .string name) := by intro _; kernel_rfl) (hn : lM 1 (js.map (·.2)) = false := by rfl) (hsz : name.size ≤ 1048576 := by omega) : aj Tryz.prog β N ops k fr hps Q := by
  intro junk w hS
  obtain ⟨a, y, h1, h2, h3⟩ := IL (ho junk)
  obtain ⟨o, g1, g2, g3, g4⟩ := cU h1
  have Cs : kr hps (mX (av O x (fun o => { o with ah := eM name o.ah })) L js) = hps := rH (p := 1) (fun q hq => by
    match q, hq with
    | 0, _ => exact congrArg (fun R => HP.abs (ak R)) (BS (es := fun o => eM name o.ah))
    | 1, hq => exact absurd rfl hq
    | q + 2, _ => exact congrArg (fun R => HP.abs (ak R)) (kA rfl rfl)) hj hn
  obtain ⟨w', m1, m2, m3⟩ := (vk hS hp hd).drop wk Tryz.underlying97 (y5 (p := name) (by omega)) o.type
  have e1 : (fS L (obj O x).ah) (.string name.data.toList) = some (cF L t) := by rw [oY, sE]; rfl
  rw [e1, HZ] at m2
  have hlen := HX hnt sE
  have rE : Sat β (hps.set i (.abs (ak (bh (av O x (fun o => { o with ah := eM name o.ah })) L)))) w' := hS.set hp (fun F hF => ak.step (k := x) (show (ak (bh O L)).h F w from hF) (fun y hy => tO hy) (fun G hG => by
    rw [lQ hd] at hG
    rw [lQ (by rw [bE]; exact hd), bE]
    rw [show (eM name (obj O x).ah).length = (obj O x).ah.length - 1 by omega]
    exact step_map hG m2 m3))
  rw [drop_cons g1]
  unfold wpList
  rw [dO, if_pos g2]
  refine .inl (iK (v := .tuple #[]) (w' := w') (by
    rw [dw]
    refine .inl ?_
    obtain ⟨dst, op, type, pos, after, guard⟩ := o
    cases g3
    simp only [execOp, resolve, invoke, builtin]
    simp [go_sem, h2, h3, m1]) ?_)
  rw [dh]
  have hK := K _ rfl junk _ (by rw [Cs]; exact rE)
  rw [← g4] at hK
  exact hK
end rules
section after
variable {O O2 : bJ} {j x : Nat} {f : aO → aO} {kd : Int}
theorem ku (e : O2 = av O j f) (h : (obj O x).kind = kd) (hf : ∀ o, (f o).kind = o.kind := by intro _; rfl) : (obj O2 x).kind = kd := by subst e; exact (ia hf).trans h
theorem fu {α : Type} (g : aO → α) {v : α} (e : O2 = av O j f) (h : g (obj O x) = v) (hf : ∀ o, g (f o) = g o := by intro _; rfl) : g (obj O2 x) = v := by subst e; exact (cJ hf).trans h
end after
end
section
open Go.RowKit Go.Maps
attribute [local irreducible] aj aS af ai
theorem cr {β : Bs} (b : Nat) : Spec Tryz.prog β 224 #[vP b] [] (fun v l => v = vP b ∧ l = []) := by
 refine Spec.enter Tryz.func224 rfl Tryz.ntmps224 (Nat.le_of_ble_eq_true rfl) (fun R => ?_)
 refine SR ?_
 refine gK 1 [] [] ?_
 refine NS ?_
 refine gK 2 [(2, vP b)] [] ?_
 refine NN (af.ret ?_)
 exact RT (vP b) [0] (⟨rfl, rfl⟩)
theorem jC {β : Bs} (a : Value) : Spec Tryz.prog β 223 #[a] [] (fun v l => v = vI 1 ∧ l = []) := by
 refine Spec.enter Tryz.func223 rfl Tryz.ntmps223 (Nat.le_of_ble_eq_true rfl) (fun R => ?_)
 refine SR ?_
 refine gK 1 [] [] ?_
 refine NS ?_
 refine gK 1 [(2, vI 1)] [] ?_
 refine NN (af.ret ?_)
 exact RT (vI 1) [0] (⟨rfl, rfl⟩)
theorem jD {β : Bs} (a : Value) : Spec Tryz.prog β 226 #[a] [] (fun v l => v = vI 2 ∧ l = []) := by
 refine Spec.enter Tryz.func226 rfl Tryz.ntmps226 (Nat.le_of_ble_eq_true rfl) (fun R => ?_)
 refine SR ?_
 refine gK 1 [] [] ?_
 refine NS ?_
 refine gK 1 [(2, vI 2)] [] ?_
 refine NN (af.ret ?_)
 exact RT (vI 2) [0] (⟨rfl, rfl⟩)
theorem j7 {β : Bs} (a : Value) : Spec Tryz.prog β 225 #[a] [] (fun v l => v = vI 3 ∧ l = []) := by
 refine Spec.enter Tryz.func225 rfl Tryz.ntmps225 (Nat.le_of_ble_eq_true rfl) (fun R => ?_)
 refine SR ?_
 refine gK 1 [] [] ?_
 refine NS ?_
 refine gK 1 [(2, vI 3)] [] ?_
 refine NN (af.ret ?_)
 exact RT (vI 3) [0] (⟨rfl, rfl⟩)
theorem D4 {β : Bs} (O : bJ) (L : HL) (d : Nat) (hkd : (obj O d).kind = 2) (name : ByteArray) (hsz : name.size ≤ 1048576) (hno : aR name (obj O d).ah = none) (hel : (obj O d).ah.length ≤ 1048576) (t : Th) (hkt : (obj O t.k).kind = t.kind) (h3 : t.kind = 1 ∨ t.kind = 2 ∨ t.kind = 3) (hb : 0 ≤ (obj O t.k).links ∧ (obj O t.k).links ≤ 1048576) :
    Spec Tryz.prog β 36 #[vP (L.b d), .string name, (cF L t)] [.abs (ak (aN O L)), .abs (ak (bh O L))] (fun v l => v = .tuple #[] ∧ l = [.abs (ak (aN (mr O d name t) L)), .abs (ak (bh (mr O d name t) L))]) := by
 refine Spec.enter Tryz.func36 rfl Tryz.ntmps36 (Nat.le_of_ble_eq_true rfl) (fun R => ?_)
 refine af.seq ?_
 obtain ⟨tk, kd⟩ := t; simp only at hkt h3; rcases h3 with rfl | rfl | rfl
 ·replace hkt : (obj O tk).kind = 1 := hkt
  replace hb : 0 ≤ (obj O tk).links ∧ (obj O tk).links ≤ 1048576 := hb
  refine af.region ?_
  refine gK 6 [(11, .map (some (L.m d))), (12, .string name), (13, .iface 89 (vP (L.b tk)))] [(3, v_ 0 (bw L hkd))] ?_
  refine LW 1 [(0, 0)] (t := ⟨tk, 1⟩) hkd hno (fun bH bO => ?_)
  have iF := ku bO hkd
  have j8 := ku bO hkt
  have hf3 : (obj bH tk).links = (obj O tk).links := fu aO.links bO rfl
  refine NS ?_
  refine gK 1 [(14, .iface 89 (vP (L.b tk)))] [] ?_
  refine gL [] (cr (L.b tk)) ?_
  rintro _ _ ⟨rfl, rfl⟩
  refine gK 6 [(19, vI ((obj bH tk).links + 1)), (21, .pointer (some ⟨(L.b tk), 6, none⟩))] [(2, v_ 0 (kG L j8)), (3, p_ ⟨[], none, none, none, some (vI ((obj bH tk).links + 1))⟩ [(Value.int .i64 (IntKind.wrap .i64 ((obj bH tk).links + 1))) = (.int .i64 ((obj bH tk).links + 1))] ⟨bF (by omega) (by omega) (by omega), trivial⟩)] ?_
  refine pU 0 [(1, 1)] tk 6 (fun o => { o with links := o.links + 1 }) j8 (fun cW cu => ?_)
  have ud := ku cu iF
  have uf := ku cu j8
  refine NS ?_
  refine gK 7 [(6, .pointer none), (7, .bool false)] [] ?_
  refine NS ?_
  refine gK 1 [(27, .bool false)] [] ?_
  refine NN ?_
  refine CF ?_
  refine af.skip ?_
  exact RF (l := [.abs (ak (aN cW L)), .abs (ak (bh cW L))]) (.tuple #[]) [0, 1, 2] (⟨rfl, by subst cu; subst bO; rfl⟩)
 ·replace hkt : (obj O tk).kind = 2 := hkt
  replace hb : 0 ≤ (obj O tk).links ∧ (obj O tk).links ≤ 1048576 := hb
  refine af.region ?_
  refine gK 6 [(11, .map (some (L.m d))), (12, .string name), (13, .iface 96 (vP (L.b tk)))] [(3, v_ 0 (bw L hkd))] ?_
  refine LW 1 [(0, 0)] (t := ⟨tk, 2⟩) hkd hno (fun bH bO => ?_)
  have IQ := ku bO hkd
  have EO := ku bO hkt
  have QX : (obj bH tk).links = (obj O tk).links := fu aO.links bO rfl
  refine NS ?_
  refine gK 1 [(14, .iface 96 (vP (L.b tk)))] [] ?_
  refine gL [] (cr (L.b tk)) ?_
  rintro _ _ ⟨rfl, rfl⟩
  refine gK 6 [(19, vI ((obj bH tk).links + 1)), (21, .pointer (some ⟨(L.b tk), 6, none⟩))] [(2, v_ 0 (kG L EO)), (3, p_ ⟨[], none, none, none, some (vI ((obj bH tk).links + 1))⟩ [(Value.int .i64 (IntKind.wrap .i64 ((obj bH tk).links + 1))) = (.int .i64 ((obj bH tk).links + 1))] ⟨bF (by omega) (by omega) (by omega), trivial⟩)] ?_
  refine pU 0 [(1, 1)] tk 6 (fun o => { o with links := o.links + 1 }) EO (fun cW cu => ?_)
  have zo := ku cu IQ
  have EP := ku cu EO
  refine NS ?_
  refine gK 7 [(6, vP (L.b tk)), (7, .bool true)] [] ?_
  refine NS ?_
  refine gK 1 [(27, .bool true)] [] ?_
  refine NN ?_
  refine CT ?_
  refine af.region ?_
  refine gK 4 [(29, vP (L.b d)), (31, .pointer (some ⟨(L.b tk), 10, none⟩))] [] ?_
  refine NU 0 [(1, 1)] tk (some d) EP (fun rJ jM => ?_)
  have JK := ku jM zo
  have Qj := ku jM EP
  refine NL ?_
  exact RF (l := [.abs (ak (aN rJ L)), .abs (ak (bh rJ L))]) (.tuple #[]) [0, 1, 2] (⟨rfl, by subst jM; subst cu; subst bO; rfl⟩)
 replace hkt : (obj O tk).kind = 3 := hkt
 replace hb : 0 ≤ (obj O tk).links ∧ (obj O tk).links ≤ 1048576 := hb
 refine af.region ?_
 refine gK 6 [(11, .map (some (L.m d))), (12, .string name), (13, .iface 93 (vP (L.b tk)))] [(3, v_ 0 (bw L hkd))] ?_
 refine LW 1 [(0, 0)] (t := ⟨tk, 3⟩) hkd hno (fun bH bO => ?_)
 have Nq := ku bO hkd
 have EQ := ku bO hkt
 have Qz : (obj bH tk).links = (obj O tk).links := fu aO.links bO rfl
 refine NS ?_
 refine gK 1 [(14, .iface 93 (vP (L.b tk)))] [] ?_
 refine gL [] (cr (L.b tk)) ?_
 rintro _ _ ⟨rfl, rfl⟩
 refine gK 6 [(19, vI ((obj bH tk).links + 1)), (21, .pointer (some ⟨(L.b tk), 6, none⟩))] [(2, v_ 0 (kG L EQ)), (3, p_ ⟨[], none, none, none, some (vI ((obj bH tk).links + 1))⟩ [(Value.int .i64 (IntKind.wrap .i64 ((obj bH tk).links + 1))) = (.int .i64 ((obj bH tk).links + 1))] ⟨bF (by omega) (by omega) (by omega), trivial⟩)] ?_
 refine pU 0 [(1, 1)] tk 6 (fun o => { o with links := o.links + 1 }) EQ (fun cW cu => ?_)
 have x7 := ku cu Nq
 have Nr := ku cu EQ
 refine NS ?_
 refine gK 7 [(6, .pointer none), (7, .bool false)] [] ?_
 refine NS ?_
 refine gK 1 [(27, .bool false)] [] ?_
 refine NN ?_
 refine CF ?_
 refine af.skip ?_
 exact RF (l := [.abs (ak (aN cW L)), .abs (ak (bh cW L))]) (.tuple #[]) [0, 1, 2] (⟨rfl, by subst cu; subst bO; rfl⟩)
theorem fQ {β : Bs} (X : FM) (f m t : Nat) (hX : 0 ≤ X.ah ∧ X.ah ≤ 1048576 ∧ -1125899906842624 ≤ X.used ∧ X.used ≤ 1125899906842624 ∧ 0 ≤ X.last ∧ X.last ≤ 1125899906842624) (O : bJ) (L : HL) (d : Nat) (hkd : (obj O d).kind = 2) (name : ByteArray) (hsz : name.size ≤ 1048576) (hno : aR name (obj O d).ah = none) (hel : (obj O d).ah.length ≤ 1048576) (th : Th) (hkt : (obj O th.k).kind = th.kind) (h3 : th.kind = 1 ∨ th.kind = 2 ∨ th.kind = 3) (hb : 0 ≤ (obj O th.k).links ∧ (obj O th.k).links ≤ 1048576) :
    Spec Tryz.prog β 104 #[vP f, vP (L.b d), .string name, (cF L th)] [.blk f [vI (X.cN), vI (X.cB), vI (X.cH), vI (X.cS), vI (X.cZ), .map (some m), vP t, vI (X.last), vI (X.ah), vI (X.used)] 86, .abs (ak (aN O L)), .abs (ak (bh O L))] (fun v l => v = .tuple #[] ∧ l = [.blk f [vI (X.cN), vI (X.cB), vI (X.cH), vI (X.cS), vI (X.cZ), .map (some m), vP t, vI (X.last), vI (X.ah + 1), vI (X.used)] 86, .abs (ak (aN (bp X O d name th) L)), .abs (ak (bh (bp X O d name th) L))]) := by
 refine Spec.enter Tryz.func104 rfl Tryz.ntmps104 (Nat.le_of_ble_eq_true rfl) (fun R => ?_)
 refine af.seq ?_
 skip
 refine af.region ?_
 refine gK 3 [(8, vP (L.b d)), (9, .string name), (10, (cF L th))] [] ?_
 refine gL [1, 2] (D4 O L d hkd name hsz hno hel th hkt h3 hb) ?_
 rintro _ _ ⟨rfl, rfl⟩
 refine NS ?_
 have x9 : (obj (mr O d name th) d).kind = 2 := (tR).trans (hkd)
 generalize bO : (mr O d name th) = bH at x9 ⊢
 refine gK 9 [(17, .agg #[vI (X.cS), vI (X.cZ)]), (20, .pointer (some ⟨(L.b d), 4, none⟩))] [(5, A_ 2 f 2)] ?_
 refine Gq 0 [(1, 1)] d X.cS X.cZ x9 (fun cW cu => ?_)
 have Qk := ku cu x9
 refine NN (af.region ?_)
 refine gC 8 [] [(3, a_ 2 f), (4, p_ ⟨[], none, none, none, some (vI (X.ah + 1))⟩ [(Value.int .i64 (IntKind.wrap .i64 (X.ah + 1))) = (.int .i64 (X.ah + 1))] ⟨bF (by omega) (by omega) (by omega), trivial⟩), (7, a_ 2 f)] [(2, [(8, vI (X.ah + 1))])] ?_
 refine NL ?_
 exact RF (l := [.blk f [vI (X.cN), vI (X.cB), vI (X.cH), vI (X.cS), vI (X.cZ), .map (some m), vP t, vI (X.last), vI (X.ah + 1), vI (X.used)] 86, .abs (ak (aN cW L)), .abs (ak (bh cW L))]) (.tuple #[]) [2, 0, 1, 3] (⟨rfl, by subst cu; subst bO; rfl⟩)
theorem gU {β : Bs} (X : FM) (f m t : Nat) (hX : 0 ≤ X.ah ∧ X.ah ≤ 1048576 ∧ -1125899906842624 ≤ X.used ∧ X.used ≤ 1125899906842624 ∧ 0 ≤ X.last ∧ X.last ≤ 1125899906842624) (O : bJ) (L : HL) (d : Nat) (hkd : (obj O d).kind = 2) (name : ByteArray) (hsz : name.size ≤ 1048576) (th : Th) (hkt : (obj O th.k).kind = th.kind) (h3 : th.kind = 1 ∨ th.kind = 2 ∨ th.kind = 3) (sE : aR name (obj O d).ah = some th) (hnt : lP (obj O d).ah) (_ : (obj O d).ah.length ≤ 1048576) (hb : 0 ≤ (obj O th.k).links ∧ (obj O th.k).links ≤ 1048576) :
    Spec Tryz.prog β 107 #[vP f, vP (L.b d), .string name] [.blk f [vI (X.cN), vI (X.cB), vI (X.cH), vI (X.cS), vI (X.cZ), .map (some m), vP t, vI (X.last), vI (X.ah), vI (X.used)] 86, .abs (ak (aN O L)), .abs (ak (bh O L))] (fun v l => v = cF L th ∧ l = [.blk f [vI (X.cN), vI (X.cB), vI (X.cH), vI (X.cS), vI (X.cZ), .map (some m), vP t, vI (X.last), vI (X.ah - 1), vI (X.used)] 86, .abs (ak (aN (aL X O d name th) L)), .abs (ak (bh (aL X O d name th) L))]) := by
 refine Spec.enter Tryz.func107 rfl Tryz.ntmps107 (Nat.le_of_ble_eq_true rfl) (fun R => ?_)
 refine af.seq ?_
 obtain ⟨tk, kd⟩ := th; simp only at hkt h3; rcases h3 with rfl | rfl | rfl
 ·replace hkt : (obj O tk).kind = 1 := hkt
  replace hb : 0 ≤ (obj O tk).links ∧ (obj O tk).links ≤ 1048576 := hb
  refine af.region ?_
  refine gK 1 [] [] ?_
  refine NS ?_
  refine gK 5 [(11, .map (some (L.m d))), (12, .string name)] [(3, v_ 1 (bw L hkd))] ?_
  refine fM 2 hkd sE ?_
  refine gK 1 [(7, .iface 89 (vP (L.b tk)))] [] ?_
  refine NS ?_
  refine gK 5 [(17, .map (some (L.m d))), (18, .string name)] [(3, v_ 1 (bw L hkd))] ?_
  refine LX 2 [(1, 0)] hkd sE hnt (fun bH bO => ?_)
  have JL := ku bO hkd
  have Ns := ku bO hkt
  have OO : (obj bH tk).links = (obj O tk).links := fu aO.links bO rfl
  refine NS ?_
  refine gK 9 [(24, .agg #[vI (X.cS), vI (X.cZ)]), (27, .pointer (some ⟨(L.b d), 4, none⟩))] [(5, A_ 0 f 2)] ?_
  refine Gq 1 [(2, 1)] d X.cS X.cZ JL (fun cW cu => ?_)
  have JM := ku cu JL
  have Bf := ku cu Ns
  have QA : (obj cW tk).links = (obj O tk).links := fu aO.links cu OO
  refine NS ?_
  refine gC 8 [] [(3, a_ 0 f), (4, p_ ⟨[], none, none, none, some (vI (X.ah - 1))⟩ [(Value.int .i64 (IntKind.wrap .i64 (X.ah - 1))) = (.int .i64 (X.ah - 1))] ⟨bF (by omega) (by omega) (by omega), trivial⟩), (7, a_ 0 f)] [(0, [(8, vI (X.ah - 1))])] ?_
  refine NS ?_
  refine gK 1 [(35, .iface 89 (vP (L.b tk)))] [] ?_
  refine gL [] (cr (L.b tk)) ?_
  rintro _ _ ⟨rfl, rfl⟩
  refine gK 6 [(40, vI ((obj cW tk).links - 1)), (42, .pointer (some ⟨(L.b tk), 6, none⟩))] [(2, v_ 1 (kG L Bf)), (3, p_ ⟨[], none, none, none, some (vI ((obj cW tk).links - 1))⟩ [(Value.int .i64 (IntKind.wrap .i64 ((obj cW tk).links - 1))) = (.int .i64 ((obj cW tk).links - 1))] ⟨bF (by omega) (by omega) (by omega), trivial⟩)] ?_
  refine pU 1 [(2, 1)] tk 6 (fun o => { o with links := o.links - 1 }) Bf (fun rJ jM => ?_)
  have Ql := ku jM JM
  have Qm := ku jM Bf
  refine NS ?_
  refine gK 2 [(6, .iface 89 (vP (L.b tk)))] [] ?_
  refine NN (af.ret ?_)
  exact RT (l := [.blk f [vI (X.cN), vI (X.cB), vI (X.cH), vI (X.cS), vI (X.cZ), .map (some m), vP t, vI (X.last), vI (X.ah - 1), vI (X.used)] 86, .abs (ak (aN rJ L)), .abs (ak (bh rJ L))]) (.iface 89 (vP (L.b tk))) [0, 1, 2, 3] (⟨rfl, by subst jM; subst cu; subst bO; rfl⟩)
 ·replace hkt : (obj O tk).kind = 2 := hkt
  replace hb : 0 ≤ (obj O tk).links ∧ (obj O tk).links ≤ 1048576 := hb
  refine af.region ?_
  refine gK 1 [] [] ?_
  refine NS ?_
  refine gK 5 [(11, .map (some (L.m d))), (12, .string name)] [(3, v_ 1 (bw L hkd))] ?_
  refine fM 2 hkd sE ?_
  refine gK 1 [(7, .iface 96 (vP (L.b tk)))] [] ?_
  refine NS ?_
  refine gK 5 [(17, .map (some (L.m d))), (18, .string name)] [(3, v_ 1 (bw L hkd))] ?_
  refine LX 2 [(1, 0)] hkd sE hnt (fun bH bO => ?_)
  have JN := ku bO hkd
  have Nt := ku bO hkt
  have OQ : (obj bH tk).links = (obj O tk).links := fu aO.links bO rfl
  refine NS ?_
  refine gK 9 [(24, .agg #[vI (X.cS), vI (X.cZ)]), (27, .pointer (some ⟨(L.b d), 4, none⟩))] [(5, A_ 0 f 2)] ?_
  refine Gq 1 [(2, 1)] d X.cS X.cZ JN (fun cW cu => ?_)
  have Nu := ku cu JN
  have ER := ku cu Nt
  have QB : (obj cW tk).links = (obj O tk).links := fu aO.links cu OQ
  refine NS ?_
  refine gC 8 [] [(3, a_ 0 f), (4, p_ ⟨[], none, none, none, some (vI (X.ah - 1))⟩ [(Value.int .i64 (IntKind.wrap .i64 (X.ah - 1))) = (.int .i64 (X.ah - 1))] ⟨bF (by omega) (by omega) (by omega), trivial⟩), (7, a_ 0 f)] [(0, [(8, vI (X.ah - 1))])] ?_
  refine NS ?_
  refine gK 1 [(35, .iface 96 (vP (L.b tk)))] [] ?_
  refine gL [] (cr (L.b tk)) ?_
  rintro _ _ ⟨rfl, rfl⟩
  refine gK 6 [(40, vI ((obj cW tk).links - 1)), (42, .pointer (some ⟨(L.b tk), 6, none⟩))] [(2, v_ 1 (kG L ER)), (3, p_ ⟨[], none, none, none, some (vI ((obj cW tk).links - 1))⟩ [(Value.int .i64 (IntKind.wrap .i64 ((obj cW tk).links - 1))) = (.int .i64 ((obj cW tk).links - 1))] ⟨bF (by omega) (by omega) (by omega), trivial⟩)] ?_
  refine pU 1 [(2, 1)] tk 6 (fun o => { o with links := o.links - 1 }) ER (fun rJ jM => ?_)
  have Qn := ku jM Nu
  have Qo := ku jM ER
  refine NS ?_
  refine gK 2 [(6, .iface 96 (vP (L.b tk)))] [] ?_
  refine NN (af.ret ?_)
  exact RT (l := [.blk f [vI (X.cN), vI (X.cB), vI (X.cH), vI (X.cS), vI (X.cZ), .map (some m), vP t, vI (X.last), vI (X.ah - 1), vI (X.used)] 86, .abs (ak (aN rJ L)), .abs (ak (bh rJ L))]) (.iface 96 (vP (L.b tk))) [0, 1, 2, 3] (⟨rfl, by subst jM; subst cu; subst bO; rfl⟩)
 replace hkt : (obj O tk).kind = 3 := hkt
 replace hb : 0 ≤ (obj O tk).links ∧ (obj O tk).links ≤ 1048576 := hb
 refine af.region ?_
 refine gK 1 [] [] ?_
 refine NS ?_
 refine gK 5 [(11, .map (some (L.m d))), (12, .string name)] [(3, v_ 1 (bw L hkd))] ?_
 refine fM 2 hkd sE ?_
 refine gK 1 [(7, .iface 93 (vP (L.b tk)))] [] ?_
 refine NS ?_
 refine gK 5 [(17, .map (some (L.m d))), (18, .string name)] [(3, v_ 1 (bw L hkd))] ?_
 refine LX 2 [(1, 0)] hkd sE hnt (fun bH bO => ?_)
 have JO := ku bO hkd
 have Nv := ku bO hkt
 have OT : (obj bH tk).links = (obj O tk).links := fu aO.links bO rfl
 refine NS ?_
 refine gK 9 [(24, .agg #[vI (X.cS), vI (X.cZ)]), (27, .pointer (some ⟨(L.b d), 4, none⟩))] [(5, A_ 0 f 2)] ?_
 refine Gq 1 [(2, 1)] d X.cS X.cZ JO (fun cW cu => ?_)
 have Nw := ku cu JO
 have ES := ku cu Nv
 have QC : (obj cW tk).links = (obj O tk).links := fu aO.links cu OT
 refine NS ?_
 refine gC 8 [] [(3, a_ 0 f), (4, p_ ⟨[], none, none, none, some (vI (X.ah - 1))⟩ [(Value.int .i64 (IntKind.wrap .i64 (X.ah - 1))) = (.int .i64 (X.ah - 1))] ⟨bF (by omega) (by omega) (by omega), trivial⟩), (7, a_ 0 f)] [(0, [(8, vI (X.ah - 1))])] ?_
 refine NS ?_
 refine gK 1 [(35, .iface 93 (vP (L.b tk)))] [] ?_
 refine gL [] (cr (L.b tk)) ?_
 rintro _ _ ⟨rfl, rfl⟩
 refine gK 6 [(40, vI ((obj cW tk).links - 1)), (42, .pointer (some ⟨(L.b tk), 6, none⟩))] [(2, v_ 1 (kG L ES)), (3, p_ ⟨[], none, none, none, some (vI ((obj cW tk).links - 1))⟩ [(Value.int .i64 (IntKind.wrap .i64 ((obj cW tk).links - 1))) = (.int .i64 ((obj cW tk).links - 1))] ⟨bF (by omega) (by omega) (by omega), trivial⟩)] ?_
 refine pU 1 [(2, 1)] tk 6 (fun o => { o with links := o.links - 1 }) ES (fun rJ jM => ?_)
 have Qp := ku jM Nw
 have Qq := ku jM ES
 refine NS ?_
 refine gK 2 [(6, .iface 93 (vP (L.b tk)))] [] ?_
 refine NN (af.ret ?_)
 exact RT (l := [.blk f [vI (X.cN), vI (X.cB), vI (X.cH), vI (X.cS), vI (X.cZ), .map (some m), vP t, vI (X.last), vI (X.ah - 1), vI (X.used)] 86, .abs (ak (aN rJ L)), .abs (ak (bh rJ L))]) (.iface 93 (vP (L.b tk))) [0, 1, 2, 3] (⟨rfl, by subst jM; subst cu; subst bO; rfl⟩)
end
section
open Go.RowKit Go.Maps HeapM TabM
attribute [local irreducible] aj aS af ai
abbrev Gt (f : Nat) (X : FM) (m : Nat) (t) := (.blk f [vI (X.cN), vI (X.cB), vI (X.cH), vI (X.cS), vI (X.cZ), .map (some m), vP t, vI (X.last), vI (X.ah), vI (X.used)] 86 : HP)
theorem IU {β : Bs} (X : FM) (f m t : Nat) (hX : 0 ≤ X.ah ∧ X.ah ≤ 1048576 ∧ -1125899906842624 ≤ X.used ∧ X.used ≤ 1125899906842624 ∧ 0 ≤ X.last ∧ X.last ≤ 1125899906842624) (O : bJ) (L : HL) (idx : Used Th) (Gu : TabM.bV (keys idx)) (th : Th) (hkt : (obj O th.k).kind = th.kind) (h3 : th.kind = 1 ∨ th.kind = 2 ∨ th.kind = 3) (hg : (obj O th.k).gone = true) (ho : (obj O th.k).opens = 0) (hix : TabM.get idx (obj O th.k).id = some th) (hw : (Lit.int .i64 (obj O th.k).id).wf = true) (ug : (obj O th.k).data.length ≤ 1125899906842624) :
    Spec Tryz.prog β 139 #[vP f, (cF L th)] [pO O L, pF f m t X, pI m L idx] (fun v l => v = .tuple #[] ∧ l = [pO O L, pF f m t { X with used := if th.kind = 1 then X.used - (obj O th.k).data.length else X.used }, pI m L (del (obj O th.k).id idx)]) := by
 refine Spec.enter Tryz.func139 rfl Tryz.ntmps139 (Nat.le_of_ble_eq_true rfl) (fun R => ?_)
 refine af.seq ?_
 obtain ⟨tk, kd⟩ := th; simp only at hkt h3; rcases h3 with rfl | rfl | rfl
 ·replace hkt : (obj O tk).kind = 1 := hkt
  replace hg : (obj O tk).gone = true := hg
  replace ho : (obj O tk).opens = 0 := ho
  replace hix : TabM.get idx (obj O tk).id = some _ := hix
  replace hw : (Lit.int .i64 (obj O tk).id).wf = true := hw
  have hdl := mQ Gu (get_some hix)
  replace ug : (obj O tk).data.length ≤ 1125899906842624 := ug
  refine af.region ?_
  refine gK 1 [(7, .iface 89 (vP (L.b tk)))] [] ?_
  refine gL [] (cr (L.b tk)) ?_
  rintro _ _ ⟨rfl, rfl⟩
  refine gK 1 [(4, vP (L.b tk))] [] ?_
  refine NN (af.seq (SR ?_))
  refine gK 6 [(14, .bool (!(obj O tk).gone))] [(3, v_ 0 (kS L hkt))] ?_
  refine aj.kY 14 (!(obj O tk).gone) (fun _ => by kernel_rfl) (fun gH => ?_) (fun gH => ?_)
  ·exact absurd gH (by simp [hg])
  refine gK 6 [(20, .bool (decide (((obj O tk).opens : Int) > (0 : Int))))] [(3, v_ 0 (iI L hkt))] ?_
  refine NN ?_
  refine af.bA (p := ((obj O tk).opens : Int) > (0 : Int)) (fun _ => by kernel_rfl) (fun mK => ?_) (fun mK => ?_)
  ·exact absurd mK (by omega)
  refine af.skip (NX (af.seq ?_))
  refine af.bZ (S := [pO O L, pF f m t X, pI m L idx, .abs R]) [0, 1, 2, 3, 4, 5, 6, 7, 8] 8 [0, 1, 2, 3] (by kernel_rfl) (by kernel_rfl) rfl (by kernel_rfl) ?_
  refine aF.reads (r := 0) (l := [8]) (fr' := [(0, vP f), (1, .iface 89 (vP (L.b tk))), (24, .map (some m)), (28, vI ((obj O tk).id))]) (aV := [(∀ F w, (ak (aN O L)).h F w → w.cell? ⟨(L.b tk), 0, none⟩ = some (vI ((obj O tk).id))), f = f]) [0, 1, 2, 3, 4, 5, 6, 7] [o_, o_, o_, ⟨[.at 1], none, none, none, none⟩, o_, o_, o_, ⟨[.view 0 (.int .i64 ((obj O tk).id))], none, none, none, none⟩] [0, 1, 24, 28] (fun _ => by kernel_rfl) ⟨bn (by rw [hkt]; decide) (rfl), rfl, trivial⟩ rfl rfl ?_
  refine aF.last rfl rfl ?_
  refine aj.wW 2 (d := none) (t := 80) (K := 3) (E := 84) (b := m) (n := idx.length) (f := (aM (aJ L idx))) (x := (.tmp 24)) (ix := (.tmp 28)) (key := .int .i64 ((obj O tk).id)) (kl := (.int .i64 (obj O tk).id)) (n' := (idx.length - 1)) (f' := (aM (aJ L (del (obj O tk).id idx)))) (ats := #[80, 3]) (fun _ => by kernel_rfl) (by kernel_rfl) (fun _ => by kernel_rfl) (fun _ => by kernel_rfl) rfl dF Tryz.underlying80 (gE hw) (by rw [dN, hix]; rfl) (za) ?_
  refine NL (ai.np (NX (SR ?_)))
  refine gK 7 [(5, vP (L.b tk)), (6, .bool true)] [] ?_
  refine NS ?_
  refine gK 1 [(34, .bool true)] [] ?_
  refine NN ?_
  refine CT ?_
  refine af.bZ (S := [pO O L, pF f m t X, .abs (aI Tryz.prog 3 m (aM (aJ L (del (obj O tk).id idx))) (idx.length - 1)), .abs R]) [0, 1, 2, 3, 4, 5, 6, 7, 8, 9, 10, 11, 12] 12 [0, 1, 2, 3] (by kernel_rfl) (by kernel_rfl) rfl (by kernel_rfl) ?_
  refine aF.reads (r := 0) (l := [12]) (fr' := [(44, vI (X.used - (((obj O tk).data.length : Nat) : Int))), (46, .pointer (some ⟨f, 9, none⟩))]) (aV := [(Value.int .i64 (IntKind.wrap .i64 (X.used - (((obj O tk).data.length : Nat) : Int)))) = (.int .i64 (X.used - (((obj O tk).data.length : Nat) : Int))), (∀ F w, (ak (aN O L)).h F w → w.cell? ⟨(L.b tk), 9, none⟩ = some (.slice (L.dA tk) ((obj O tk).data.length) ((L.dC tk)))), f = f]) [0, 1, 2, 3, 4, 5, 6, 7, 8, 9, 10, 11] [o_, o_, o_, ⟨[.at 1], none, none, none, none⟩, o_, o_, o_, ⟨[.view 0 (.slice (L.dA tk) ((obj O tk).data.length) ((L.dC tk)))], none, none, none, none⟩, o_, ⟨[], none, none, none, some (vI (X.used - (((obj O tk).data.length : Nat) : Int)))⟩, o_, o_] [44, 46] (fun _ => by kernel_rfl) ⟨bF (by omega) (by omega) (by omega), bn (by rw [hkt]; decide) (by rw [d9 (hkt)]; rfl), rfl, trivial⟩ rfl rfl ?_
  refine aF.last rfl rfl ?_
  refine gC 1 [] [(0, a_ 1 f)] [(1, [(9, vI (X.used - (((obj O tk).data.length : Nat) : Int)))])] ?_
  refine NL (ai.np ?_)
  refine ai.mem (aQ := [.abs (ak (aN O L)), .blk f [vI (X.cN), vI (X.cB), vI (X.cH), vI (X.cS), vI (X.cZ), .map (some m), vP t, vI (X.last), vI (X.ah), vI (X.used - (((obj O tk).data.length : Nat) : Int))] 86, .abs (aI Tryz.prog 3 m (aM (aJ L (del (obj O tk).id idx))) ((del (obj O tk).id idx).length)), .abs R]) (fun w hS => by rw [show (del (obj O tk).id idx).length = idx.length - 1 by omega]; exact hS) ?_
  exact RF (.tuple #[]) [0, 1, 2, 3] (⟨rfl, rfl⟩)
 ·replace hkt : (obj O tk).kind = 2 := hkt
  replace hg : (obj O tk).gone = true := hg
  replace ho : (obj O tk).opens = 0 := ho
  replace hix : TabM.get idx (obj O tk).id = some _ := hix
  replace hw : (Lit.int .i64 (obj O tk).id).wf = true := hw
  have hdl := mQ Gu (get_some hix)
  replace ug : (obj O tk).data.length ≤ 1125899906842624 := ug
  refine af.region ?_
  refine gK 1 [(7, .iface 96 (vP (L.b tk)))] [] ?_
  refine gL [] (cr (L.b tk)) ?_
  rintro _ _ ⟨rfl, rfl⟩
  refine gK 1 [(4, vP (L.b tk))] [] ?_
  refine NN (af.seq (SR ?_))
  refine gK 6 [(14, .bool (!(obj O tk).gone))] [(3, v_ 0 (kS L hkt))] ?_
  refine aj.kY 14 (!(obj O tk).gone) (fun _ => by kernel_rfl) (fun gH => ?_) (fun gH => ?_)
  ·exact absurd gH (by simp [hg])
  refine gK 6 [(20, .bool (decide (((obj O tk).opens : Int) > (0 : Int))))] [(3, v_ 0 (iI L hkt))] ?_
  refine NN ?_
  refine af.bA (p := ((obj O tk).opens : Int) > (0 : Int)) (fun _ => by kernel_rfl) (fun mK => ?_) (fun mK => ?_)
  ·exact absurd mK (by omega)
  refine af.skip (NX (af.seq ?_))
  refine af.bZ (S := [pO O L, pF f m t X, pI m L idx, .abs R]) [0, 1, 2, 3, 4, 5, 6, 7, 8] 8 [0, 1, 2, 3] (by kernel_rfl) (by kernel_rfl) rfl (by kernel_rfl) ?_
  refine aF.reads (r := 0) (l := [8]) (fr' := [(0, vP f), (1, .iface 96 (vP (L.b tk))), (24, .map (some m)), (28, vI ((obj O tk).id))]) (aV := [(∀ F w, (ak (aN O L)).h F w → w.cell? ⟨(L.b tk), 0, none⟩ = some (vI ((obj O tk).id))), f = f]) [0, 1, 2, 3, 4, 5, 6, 7] [o_, o_, o_, ⟨[.at 1], none, none, none, none⟩, o_, o_, o_, ⟨[.view 0 (.int .i64 ((obj O tk).id))], none, none, none, none⟩] [0, 1, 24, 28] (fun _ => by kernel_rfl) ⟨bn (by rw [hkt]; decide) (rfl), rfl, trivial⟩ rfl rfl ?_
  refine aF.last rfl rfl ?_
  refine aj.wW 2 (d := none) (t := 80) (K := 3) (E := 84) (b := m) (n := idx.length) (f := (aM (aJ L idx))) (x := (.tmp 24)) (ix := (.tmp 28)) (key := .int .i64 ((obj O tk).id)) (kl := (.int .i64 (obj O tk).id)) (n' := (idx.length - 1)) (f' := (aM (aJ L (del (obj O tk).id idx)))) (ats := #[80, 3]) (fun _ => by kernel_rfl) (by kernel_rfl) (fun _ => by kernel_rfl) (fun _ => by kernel_rfl) rfl dF Tryz.underlying80 (gE hw) (by rw [dN, hix]; rfl) (za) ?_
  refine NL (ai.np (NX (SR ?_)))
  refine gK 7 [(5, .pointer none), (6, .bool false)] [] ?_
  refine NS ?_
  refine gK 1 [(34, .bool false)] [] ?_
  refine NN ?_
  refine CF ?_
  refine af.skip ?_
  refine ai.mem (aQ := [.abs (ak (aN O L)), .blk f [vI (X.cN), vI (X.cB), vI (X.cH), vI (X.cS), vI (X.cZ), .map (some m), vP t, vI (X.last), vI (X.ah), vI (X.used)] 86, .abs (aI Tryz.prog 3 m (aM (aJ L (del (obj O tk).id idx))) ((del (obj O tk).id idx).length)), .abs R]) (fun w hS => by rw [show (del (obj O tk).id idx).length = idx.length - 1 by omega]; exact hS) ?_
  exact RF (.tuple #[]) [0, 1, 2, 3] (⟨rfl, rfl⟩)
 replace hkt : (obj O tk).kind = 3 := hkt
 replace hg : (obj O tk).gone = true := hg
 replace ho : (obj O tk).opens = 0 := ho
 replace hix : TabM.get idx (obj O tk).id = some _ := hix
 replace hw : (Lit.int .i64 (obj O tk).id).wf = true := hw
 have hdl := mQ Gu (get_some hix)
 replace ug : (obj O tk).data.length ≤ 1125899906842624 := ug
 refine af.region ?_
 refine gK 1 [(7, .iface 93 (vP (L.b tk)))] [] ?_
 refine gL [] (cr (L.b tk)) ?_
 rintro _ _ ⟨rfl, rfl⟩
 refine gK 1 [(4, vP (L.b tk))] [] ?_
 refine NN (af.seq (SR ?_))
 refine gK 6 [(14, .bool (!(obj O tk).gone))] [(3, v_ 0 (kS L hkt))] ?_
 refine aj.kY 14 (!(obj O tk).gone) (fun _ => by kernel_rfl) (fun gH => ?_) (fun gH => ?_)
 ·exact absurd gH (by simp [hg])
 refine gK 6 [(20, .bool (decide (((obj O tk).opens : Int) > (0 : Int))))] [(3, v_ 0 (iI L hkt))] ?_
 refine NN ?_
 refine af.bA (p := ((obj O tk).opens : Int) > (0 : Int)) (fun _ => by kernel_rfl) (fun mK => ?_) (fun mK => ?_)
 ·exact absurd mK (by omega)
 refine af.skip (NX (af.seq ?_))
 refine af.bZ (S := [pO O L, pF f m t X, pI m L idx, .abs R]) [0, 1, 2, 3, 4, 5, 6, 7, 8] 8 [0, 1, 2, 3] (by kernel_rfl) (by kernel_rfl) rfl (by kernel_rfl) ?_
 refine aF.reads (r := 0) (l := [8]) (fr' := [(0, vP f), (1, .iface 93 (vP (L.b tk))), (24, .map (some m)), (28, vI ((obj O tk).id))]) (aV := [(∀ F w, (ak (aN O L)).h F w → w.cell? ⟨(L.b tk), 0, none⟩ = some (vI ((obj O tk).id))), f = f]) [0, 1, 2, 3, 4, 5, 6, 7] [o_, o_, o_, ⟨[.at 1], none, none, none, none⟩, o_, o_, o_, ⟨[.view 0 (.int .i64 ((obj O tk).id))], none, none, none, none⟩] [0, 1, 24, 28] (fun _ => by kernel_rfl) ⟨bn (by rw [hkt]; decide) (rfl), rfl, trivial⟩ rfl rfl ?_
 refine aF.last rfl rfl ?_
 refine aj.wW 2 (d := none) (t := 80) (K := 3) (E := 84) (b := m) (n := idx.length) (f := (aM (aJ L idx))) (x := (.tmp 24)) (ix := (.tmp 28)) (key := .int .i64 ((obj O tk).id)) (kl := (.int .i64 (obj O tk).id)) (n' := (idx.length - 1)) (f' := (aM (aJ L (del (obj O tk).id idx)))) (ats := #[80, 3]) (fun _ => by kernel_rfl) (by kernel_rfl) (fun _ => by kernel_rfl) (fun _ => by kernel_rfl) rfl dF Tryz.underlying80 (gE hw) (by rw [dN, hix]; rfl) (za) ?_
 refine NL (ai.np (NX (SR ?_)))
 refine gK 7 [(5, .pointer none), (6, .bool false)] [] ?_
 refine NS ?_
 refine gK 1 [(34, .bool false)] [] ?_
 refine NN ?_
 refine CF ?_
 refine af.skip ?_
 refine ai.mem (aQ := [.abs (ak (aN O L)), .blk f [vI (X.cN), vI (X.cB), vI (X.cH), vI (X.cS), vI (X.cZ), .map (some m), vP t, vI (X.last), vI (X.ah), vI (X.used)] 86, .abs (aI Tryz.prog 3 m (aM (aJ L (del (obj O tk).id idx))) ((del (obj O tk).id idx).length)), .abs R]) (fun w hS => by rw [show (del (obj O tk).id idx).length = idx.length - 1 by omega]; exact hS) ?_
 exact RF (.tuple #[]) [0, 1, 2, 3] (⟨rfl, rfl⟩)
theorem ET {β : Bs} (O : bJ) (L : HL) (f : Nat) (th : Th) (hkt : (obj O th.k).kind = th.kind) (h3 : th.kind = 1 ∨ th.kind = 2 ∨ th.kind = 3) (hg : (obj O th.k).gone = false ∨ 0 < (obj O th.k).opens) :
    Spec Tryz.prog β 139 #[vP f, (cF L th)] [pO O L] (fun v l => v = .tuple #[] ∧ l = [pO O L]) := by
 refine Spec.enter Tryz.func139 rfl Tryz.ntmps139 (Nat.le_of_ble_eq_true rfl) (fun R => ?_)
 refine af.seq ?_
 obtain ⟨tk, kd⟩ := th; simp only at hkt h3; rcases h3 with rfl | rfl | rfl
 ·replace hkt : (obj O tk).kind = 1 := hkt
  replace hg : (obj O tk).gone = false ∨ 0 < (obj O tk).opens := hg
  refine af.region ?_
  refine gK 1 [(7, .iface 89 (vP (L.b tk)))] [] ?_
  refine gL [] (cr (L.b tk)) ?_
  rintro _ _ ⟨rfl, rfl⟩
  refine gK 1 [(4, vP (L.b tk))] [] ?_
  refine NN (af.seq (SR ?_))
  refine gK 6 [(14, .bool (!(obj O tk).gone))] [(3, v_ 0 (kS L hkt))] ?_
  refine aj.kY 14 (!(obj O tk).gone) (fun _ => by kernel_rfl) (fun gH => ?_) (fun gH => ?_)
  ·refine gK 6 [(20, .bool true)] [] ?_
   refine NN ?_
   refine CT ?_
   refine af.ret (ai.ar ?_)
   exact RT (.tuple #[]) [0, 1] (⟨rfl, rfl⟩)
  refine gK 6 [(20, .bool (decide (((obj O tk).opens : Int) > (0 : Int))))] [(3, v_ 0 (iI L hkt))] ?_
  refine NN ?_
  refine af.bA (p := ((obj O tk).opens : Int) > (0 : Int)) (fun _ => by kernel_rfl) (fun mK => ?_) (fun mK => ?_)
  ·refine af.ret (ai.ar ?_)
   exact RT (.tuple #[]) [0, 1] (⟨rfl, rfl⟩)
  exact absurd hg (by simp at gH; rw [gH]; simp; omega)
 ·replace hkt : (obj O tk).kind = 2 := hkt
  replace hg : (obj O tk).gone = false ∨ 0 < (obj O tk).opens := hg
  refine af.region ?_
  refine gK 1 [(7, .iface 96 (vP (L.b tk)))] [] ?_
  refine gL [] (cr (L.b tk)) ?_
  rintro _ _ ⟨rfl, rfl⟩
  refine gK 1 [(4, vP (L.b tk))] [] ?_
  refine NN (af.seq (SR ?_))
  refine gK 6 [(14, .bool (!(obj O tk).gone))] [(3, v_ 0 (kS L hkt))] ?_
  refine aj.kY 14 (!(obj O tk).gone) (fun _ => by kernel_rfl) (fun gH => ?_) (fun gH => ?_)
  ·refine gK 6 [(20, .bool true)] [] ?_
   refine NN ?_
   refine CT ?_
   refine af.ret (ai.ar ?_)
   exact RT (.tuple #[]) [0, 1] (⟨rfl, rfl⟩)
  refine gK 6 [(20, .bool (decide (((obj O tk).opens : Int) > (0 : Int))))] [(3, v_ 0 (iI L hkt))] ?_
  refine NN ?_
  refine af.bA (p := ((obj O tk).opens : Int) > (0 : Int)) (fun _ => by kernel_rfl) (fun mK => ?_) (fun mK => ?_)
  ·refine af.ret (ai.ar ?_)
   exact RT (.tuple #[]) [0, 1] (⟨rfl, rfl⟩)
  exact absurd hg (by simp at gH; rw [gH]; simp; omega)
 replace hkt : (obj O tk).kind = 3 := hkt
 replace hg : (obj O tk).gone = false ∨ 0 < (obj O tk).opens := hg
 refine af.region ?_
 refine gK 1 [(7, .iface 93 (vP (L.b tk)))] [] ?_
 refine gL [] (cr (L.b tk)) ?_
 rintro _ _ ⟨rfl, rfl⟩
 refine gK 1 [(4, vP (L.b tk))] [] ?_
 refine NN (af.seq (SR ?_))
 refine gK 6 [(14, .bool (!(obj O tk).gone))] [(3, v_ 0 (kS L hkt))] ?_
 refine aj.kY 14 (!(obj O tk).gone) (fun _ => by kernel_rfl) (fun gH => ?_) (fun gH => ?_)
 ·refine gK 6 [(20, .bool true)] [] ?_
  refine NN ?_
  refine CT ?_
  refine af.ret (ai.ar ?_)
  exact RT (.tuple #[]) [0, 1] (⟨rfl, rfl⟩)
 refine gK 6 [(20, .bool (decide (((obj O tk).opens : Int) > (0 : Int))))] [(3, v_ 0 (iI L hkt))] ?_
 refine NN ?_
 refine af.bA (p := ((obj O tk).opens : Int) > (0 : Int)) (fun _ => by kernel_rfl) (fun mK => ?_) (fun mK => ?_)
 ·refine af.ret (ai.ar ?_)
  exact RT (.tuple #[]) [0, 1] (⟨rfl, rfl⟩)
 exact absurd hg (by simp at gH; rw [gH]; simp; omega)
theorem nP {β : Bs} (X : FM) (f m t : Nat) (hX : 0 ≤ X.ah ∧ X.ah ≤ 1048576 ∧ -1125899906842624 ≤ X.used ∧ X.used ≤ 1125899906842624 ∧ 0 ≤ X.last ∧ X.last ≤ 1125899906842624) (O : bJ) (L : HL) (idx : Used Th) (Gu : TabM.bV (keys idx)) (th : Th) (hkt : (obj O th.k).kind = th.kind) (h3 : th.kind = 1 ∨ th.kind = 2 ∨ th.kind = 3) (ho : 0 ≤ (obj O th.k).opens) (hix : oL O th → TabM.get idx (obj O th.k).id = some th) (hw : (Lit.int .i64 (obj O th.k).id).wf = true) (ug : (obj O th.k).data.length ≤ 1125899906842624) :
    Spec Tryz.prog β 139 #[vP f, (cF L th)] [pO O L, pF f m t X, pI m L idx] (fun v l => v = .tuple #[] ∧ l = [pO O L, pF f m t { X with used := gu O X.used th }, pI m L (iq O idx th)]) := by
  unfold gu iq
  by_cases h : oL O th
  ·rw [if_pos h, if_pos h]
   exact IU X f m t hX O L idx Gu th hkt h3 h.1 h.2 (hix h) hw ug
  rw [if_neg h, if_neg h]
  refine (Spec.BQ (pre := [pO O L]) (R := [pF f m t X, pI m L idx]) (fun _ _ => ET O L f th hkt h3 ?_)).mono (by rintro v l ⟨l0, ⟨rfl, rfl⟩, rfl⟩; exact ⟨rfl, rfl⟩)
  cases hg : (obj O th.k).gone with
  | false => exact .inl rfl
  | true => exact .inr (by have : ¬ (obj O th.k).opens = 0 := fun e => h ⟨hg, e⟩; omega)
theorem qR {β : Bs} (X : FM) (f m t : Nat) : Spec Tryz.prog β 135 #[vP f] [Gt f X m t] (fun v l => v = .bool (decide (X.ah < 8192)) ∧ l = [Gt f X m t]) := by
 refine Spec.enter Tryz.func135 rfl Tryz.ntmps135 (Nat.le_of_ble_eq_true rfl) (fun R => ?_)
 refine SR ?_
 refine gK 1 [] [] ?_
 refine NS ?_
 refine gK 6 [(2, .bool (decide ((X.ah : Int) < (8192 : Int))))] [(3, a_ 0 f)] ?_
 refine NN (af.ret ?_)
 exact RT (.bool (decide ((X.ah : Int) < (8192 : Int)))) [0, 1] (⟨rfl, rfl⟩)
theorem dW {β : Bs} (a b : Int) : Spec Tryz.prog β 32 #[vI a, vI b] [] (fun v l => v = .bool (decide (0 ≤ a ∧ a ≤ b)) ∧ l = []) := by
 refine Spec.enter Tryz.func32 rfl Tryz.ntmps32 (Nat.le_of_ble_eq_true rfl) (fun R => ?_)
 refine SR ?_
 refine gK 1 [] [] ?_
 refine NS ?_
 refine gK 3 [(7, .bool (decide ((a : Int) ≥ (0 : Int))))] [] ?_
 refine aj.fU 7 ((a : Int) ≥ (0 : Int)) (fun _ => by kernel_rfl) (fun h7 => ?_) (fun h7 => ?_)
 ·refine gK 5 [(4, .bool (decide ((a : Int) ≤ (b : Int))))] [] ?_
  refine NN (af.ret ?_)
  exact RT (.bool (decide ((a : Int) ≤ (b : Int)))) [0] (⟨by first | exact congrArg Value.bool (decide_eq_decide.2 (by omega)) | exact congrArg Value.bool (decide_eq_true (by omega)).symm | exact congrArg Value.bool (decide_eq_false (by omega)).symm, rfl⟩)
 refine gK 5 [(4, .bool false)] [] ?_
 refine NN (af.ret ?_)
 exact RT (.bool false) [0] (⟨by first | exact congrArg Value.bool (decide_eq_decide.2 (by omega)) | exact congrArg Value.bool (decide_eq_true (by omega)).symm | exact congrArg Value.bool (decide_eq_false (by omega)).symm, rfl⟩)
theorem Cu {β : Bs} (X : FM) (f m t : Nat) (L : HL) (idx : Used Th) : Spec Tryz.prog β 103 #[vP f] [Gt f X m t, .abs (aI Tryz.prog 3 m (aM (aJ L idx)) idx.length)] (fun v l => v = .bool (decide ((idx.length : Int) < X.cN ∧ X.last < 1099511627776 ∧ X.ah < 8192)) ∧ l = [Gt f X m t, .abs (aI Tryz.prog 3 m (aM (aJ L idx)) idx.length)]) := by
 refine Spec.enter Tryz.func103 rfl Tryz.ntmps103 (Nat.le_of_ble_eq_true rfl) (fun R => ?_)
 refine SR ?_
 refine gK 1 [] [] ?_
 refine NN (af.seq ?_)
 refine af.bG (by kernel_rfl) (by kernel_rfl) ?_
 refine gQ 4 [(6, .map (some m))] [(3, a_ 0 f)] ?_
 refine aS.q6 1 (d := (some 7)) (t := 80) (K := 3) (E := 84) (b := m) (n := idx.length) (f := (aM (aJ L idx))) (x := (.tmp 6)) (ats := #[80]) (fun _ => by kernel_rfl) (by kernel_rfl) (fun _ => by kernel_rfl) rfl Tryz.underlying80 ?_
 refine gQ 7 [(14, .bool (decide ((((idx.length : Nat) : Int) : Int) < (X.cN : Int))))] [(4, a_ 0 f)] ?_
 refine aS.fU 14 ((((idx.length : Nat) : Int) : Int) < (X.cN : Int)) (fun _ => by kernel_rfl) (fun gH => ?_) (fun gH => ?_)
 ·refine gQ 7 [(21, .bool (decide ((X.last : Int) < (1099511627776 : Int))))] [(3, a_ 0 f)] ?_
  refine aS.fU 21 ((X.last : Int) < (1099511627776 : Int)) (fun _ => by kernel_rfl) (fun rK => ?_) (fun rK => ?_)
  ·refine gQ 1 [(22, vP f)] [] ?_
   refine aS.call (f := 135) (args := #[vP f]) (d := (some 23)) (pre := [pF f m t X]) (R := [pI m L idx, .abs R]) (pk := [0, 1, 2]) (gF := [0, 1, 2]) (v0 := .bool (decide (X.ah < 8192))) (fun _ => by kernel_rfl) (qR X f m t) rfl (by kernel_rfl) rfl (by kernel_rfl) (fun _ _ h => h) ?_
   refine gQ 2 [(2, .bool (decide (X.ah < 8192)))] [] ?_
   refine NQ (NX (af.ret ?_))
   exact RT (.bool (decide (X.ah < 8192))) [0, 1, 2] (⟨by first | exact congrArg Value.bool (decide_eq_decide.2 (by omega)) | exact congrArg Value.bool (decide_eq_true (by omega)).symm | exact congrArg Value.bool (decide_eq_false (by omega)).symm, rfl⟩)
  refine gQ 4 [(2, .bool false)] [] ?_
  refine NQ (NX (af.ret ?_))
  exact RT (.bool false) [0, 1, 2] (⟨by first | exact congrArg Value.bool (decide_eq_decide.2 (by omega)) | exact congrArg Value.bool (decide_eq_true (by omega)).symm | exact congrArg Value.bool (decide_eq_false (by omega)).symm, rfl⟩)
 refine gQ 11 [(2, .bool false)] [] ?_
 refine NQ (NX (af.ret ?_))
 exact RT (.bool false) [0, 1, 2] (⟨by first | exact congrArg Value.bool (decide_eq_decide.2 (by omega)) | exact congrArg Value.bool (decide_eq_true (by omega)).symm | exact congrArg Value.bool (decide_eq_false (by omega)).symm, rfl⟩)
theorem qA {β : Bs} (X : FM) (f m t : Nat) (hX : 0 ≤ X.ah ∧ X.ah ≤ 1048576 ∧ -1125899906842624 ≤ X.used ∧ X.used ≤ 1125899906842624 ∧ 0 ≤ X.last ∧ X.last ≤ 1125899906842624) (mode : Int) : Spec Tryz.prog β 55 #[vP f, vI mode] [Gt f X m t] (fun v l => v = .agg #[vI (X.last + 1), vI mode, vI 0, vI 0, vI X.cS, vI X.cZ, vI 0, vI 0, .bool false] ∧ l = [.blk f [vI (X.cN), vI (X.cB), vI (X.cH), vI (X.cS), vI (X.cZ), .map (some m), vP t, vI (X.last + 1), vI (X.ah), vI (X.used)] 86]) := by
 refine Spec.enter Tryz.func55 rfl Tryz.ntmps55 (Nat.le_of_ble_eq_true rfl) (fun R => ?_)
 refine SR ?_
 refine gN 1 (fun b1 => [(4, vP b1)]) (fun _ => []) (fun _ => []) (fun b1 => .blk b1 [vI 0, vI 0, vI 0, vI 0, vI 0, vI 0, vI 0, vI 0, .bool false] 88) (fun b1 => ?_)
 refine NS ?_
 refine gC 8 [] [(3, a_ 0 f), (4, p_ ⟨[], none, none, none, some (vI (X.last + 1))⟩ [(Value.int .i64 (IntKind.wrap .i64 (X.last + 1))) = (.int .i64 (X.last + 1))] ⟨bF (by omega) (by omega) (by omega), trivial⟩), (7, a_ 0 f)] [(0, [(7, vI (X.last + 1))])] ?_
 refine NN (af.seq ?_)
 refine af.bZ (S := [pF f m t { X with last := X.last + 1 }, .abs R, .blk b1 [vI 0, vI 0, vI 0, vI 0, vI 0, vI 0, vI 0, vI 0, .bool false] 88]) [0, 1, 2, 3, 4, 5, 6, 7, 8, 9, 10, 11] 11 [0, 1, 2] (by kernel_rfl) (by kernel_rfl) rfl (by kernel_rfl) ?_
 refine aF.reads (r := 0) (l := [11]) (fr' := [(4, vP b1), (22, .agg #[vI (X.last + 1), vI (mode), vI 0, vI 0, vI (X.cS), vI (X.cZ), vI 0, vI 0, .bool false])]) (aV := [f = f, f = f, f = f]) [0, 1, 2, 3, 4, 5, 6, 7, 8, 9, 10] [o_, o_, o_, ⟨[.at 0], none, none, none, none⟩, o_, o_, o_, o_, o_, ⟨[.at 0, .at 0], none, none, none, none⟩, o_] [4, 22] (fun _ => by kernel_rfl) ⟨rfl, rfl, rfl, trivial⟩ rfl rfl ?_
 refine aF.last rfl rfl ?_
 refine gC 1 [] [(0, A_ 2 b1 9)] [(2, [(0, vI (X.last + 1)), (1, vI (mode)), (4, vI (X.cS)), (5, vI (X.cZ))])] ?_
 refine NL (ai.np (NX (af.ret ?_)))
 exact ai.ret (v := .agg #[vI (X.last + 1), vI (mode), vI 0, vI 0, vI (X.cS), vI (X.cZ), vI 0, vI 0, .bool false]) (l := [pF f m t { X with last := X.last + 1 }]) (aV := [b1 = b1, b1 = b1, b1 = b1, b1 = b1, b1 = b1, b1 = b1, b1 = b1, b1 = b1, b1 = b1]) [.at 2, .at 2, .at 2, .at 2, .at 2, .at 2, .at 2, .at 2, .at 2] [0, 1] (fun _ => by kernel_rfl) ⟨rfl, rfl, rfl, rfl, rfl, rfl, rfl, rfl, rfl, trivial⟩ rfl (by kernel_rfl) (⟨rfl, rfl⟩)
end
section
open Go.RowKit Go.Maps HeapM TabM
attribute [local irreducible] aj aS af ai
abbrev tf (f : Nat) (L : HL) (d : Nat) (name) := ([(0, vP f), (1, vP (L.b d)), (2, .string name)] : Fr)
abbrev LY (f : Nat) (L : HL) (d : Nat) (name) := ([(18, vP f), (19, vP (L.b d)), (20, .string name)] : Fr)
abbrev LZ (f : Nat) (L : HL) (d : Nat) (name) := ([(8, vP f), (9, vP (L.b d)), (10, .string name)] : Fr)
abbrev tj (f : Nat) (m : Nat) (t) (X : FM) (L : HL) (idx) (O : bJ) (R : bR) := ([pF f m t X, pI m L idx, pO O L, pE O L, .abs R] : List HP)
abbrev L5 (S : aE) (tk : Nat) (L : HL) := ([(24, vI ((obj S.O tk).opens + 1)), (26, .pointer (some ⟨(L.b tk), 7, none⟩))] : Fr)
theorem lu {β : Bs} (S : aE) (L : HL) (f m t : Nat) (hI : Inv S) (d : Nat) (hd : Live S.idx ⟨d, 2⟩) (name : ByteArray) (hsz : name.size ≤ 1048576) (th : Th) (hlk : aR name (obj S.O d).ah = some th) :
    Spec Tryz.prog β 106 #[vP f, vP (L.b d), .string name] [pF f m t S.X, pO S.O L, pE S.O L, pI m L S.idx] (fun v l => v = .tuple #[] ∧ l = [pF f m t ((au S d name th).X), pO ((au S d name th).O) L, pE ((au S d name th).O) L, pI m L ((au S d name th).idx)]) := by
 have hX := hI.hX
 have hel : (obj S.O d).ah.length ≤ 8192 := hI.eG hd
 have hkd : (obj S.O d).kind = 2 := hI.kind hd
 refine Spec.enter Tryz.func106 rfl Tryz.ntmps106 (Nat.le_of_ble_eq_true rfl) (fun R => ?_)
 refine af.seq ?_
 obtain ⟨tk, kd⟩ := th; have hlv := (hI.ent hd hlk).2; have QD := hI.ne hd hlk; rcases (hI.ob _ hlv).2.2 with e0 | e0 | e0 <;> simp only at e0 <;> subst e0
 ·have hkt : (obj S.O tk).kind = 1 := hI.kind hlv
  have hlb := hI.lb hlv; have hid := hI.ob _ hlv; have hop := hI.Al hlv; have hdl := hI.Cg hlv; have mY := hI.Gb hlv
  refine af.region ?_
  refine gK 3 (LZ f L d name) [] ?_
  refine gL [0, 1, 2] (gU S.X f m t hX S.O L d hkd name hsz ⟨tk, 1⟩ hkt (by simp) hlk (hI.twice hd) (by omega) (by simp only at hlb ⊢; omega)) ?_
  rintro _ _ ⟨rfl, rfl⟩
  refine gK 1 [(6, .iface 89 (vP (L.b tk)))] [] ?_
  refine NS ?_
  have iF : (obj (aL S.X S.O d name ⟨tk, 1⟩) d).kind = 2 := (bY).trans (hkd)
  have j8 : (obj (aL S.X S.O d name ⟨tk, 1⟩) tk).kind = 1 := (bY).trans (hkt)
  have uh : (obj (aL S.X S.O d name ⟨tk, 1⟩) tk).id = (obj S.O tk).id := cD (g := aO.id) (fun _ _ => rfl) (fun _ _ => rfl) (fun _ _ _ => rfl)
  have uj : (obj (aL S.X S.O d name ⟨tk, 1⟩) tk).opens = (obj S.O tk).opens := cD (g := aO.opens) (fun _ _ => rfl) (fun _ _ => rfl) (fun _ _ _ => rfl)
  have ul : (obj (aL S.X S.O d name ⟨tk, 1⟩) tk).data = (obj S.O tk).data := cD (g := aO.data) (fun _ _ => rfl) (fun _ _ => rfl) (fun _ _ _ => rfl)
  generalize bO : (aL S.X S.O d name ⟨tk, 1⟩) = bH at iF j8 uh uj ul ⊢
  refine gK 1 [(12, .iface 89 (vP (L.b tk)))] [] ?_
  refine gL [] (cr (L.b tk)) ?_
  rintro _ _ ⟨rfl, rfl⟩
  refine gK 1 [(7, vP (L.b tk))] [] ?_
  refine NS ?_
  refine gK 5 [(18, .bool (decide (((obj bH tk).links : Int) = (0 : Int))))] [(3, v_ 1 (kG L j8))] ?_
  refine NN ?_
  refine af.bA (p := ((obj bH tk).links : Int) = (0 : Int)) (fun _ => by kernel_rfl) (fun nG => ?_) (fun nG => ?_)
  ·refine SR ?_
   refine gK 3 [(21, .pointer (some ⟨(L.b tk), 8, none⟩))] [] ?_
   refine pU 1 [(2, 1)] tk 8 (fun o => { o with gone := true }) j8 (fun cW cu => ?_)
   have zq := ku cu iF
   have ud := ku cu j8
   have Gv : (obj cW tk).id = (obj S.O tk).id := fu aO.id cu uh
   have L6 : (obj cW tk).opens = (obj S.O tk).opens := fu aO.opens cu uj
   have PG : (obj cW tk).data = (obj S.O tk).data := fu aO.data cu ul
   refine NN (af.region ?_)
   refine gK 2 [(22, vP f), (23, .iface 89 (vP (L.b tk)))] [] ?_
   refine gL [1, 0, 3] (nP { S.X with ah := S.X.ah - 1 } f m t (hI.vD hd hlk) cW L S.idx hI.rise ⟨tk, 1⟩ ud (by simp) (by rw [L6]; exact hop.1) (fun _ => by rw [Gv, hid.1]; exact hlv) (by rw [Gv]; exact mY) (by rw [PG]; exact hdl)) ?_
   rintro _ _ ⟨rfl, rfl⟩
   refine NL ?_
   exact RF (l := [pF f m t { S.X with ah := S.X.ah - 1, used := gu cW S.X.used ⟨tk, 1⟩ }, pO cW L, pE cW L, pI m L (iq cW S.idx ⟨tk, 1⟩)]) (.tuple #[]) [1, 0, 3, 2, 4] (⟨rfl, by subst cu; subst bO; rw [show au S d name ⟨tk, 1⟩ = _ from qv nG] <;> rfl⟩)
  refine af.skip ?_
  exact RF (l := [pF f m t { S.X with ah := S.X.ah - 1 }, pO bH L, pE bH L, pI m L S.idx]) (.tuple #[]) [0, 1, 2, 3, 4] (⟨rfl, by subst bO; rw [show au S d name ⟨tk, 1⟩ = _ from qw nG] <;> rfl⟩)
 ·have hkt : (obj S.O tk).kind = 2 := hI.kind hlv
  have hlb := hI.lb hlv; have hid := hI.ob _ hlv; have hop := hI.Al hlv; have hdl := hI.Cg hlv; have mY := hI.Gb hlv
  refine af.region ?_
  refine gK 3 (LZ f L d name) [] ?_
  refine gL [0, 1, 2] (gU S.X f m t hX S.O L d hkd name hsz ⟨tk, 2⟩ hkt (by simp) hlk (hI.twice hd) (by omega) (by simp only at hlb ⊢; omega)) ?_
  rintro _ _ ⟨rfl, rfl⟩
  refine gK 1 [(6, .iface 96 (vP (L.b tk)))] [] ?_
  refine NS ?_
  have L7 : (obj (aL S.X S.O d name ⟨tk, 2⟩) d).kind = 2 := (bY).trans (hkd)
  have zo : (obj (aL S.X S.O d name ⟨tk, 2⟩) tk).kind = 2 := (bY).trans (hkt)
  have uh : (obj (aL S.X S.O d name ⟨tk, 2⟩) tk).id = (obj S.O tk).id := cD (g := aO.id) (fun _ _ => rfl) (fun _ _ => rfl) (fun _ _ _ => rfl)
  have uj : (obj (aL S.X S.O d name ⟨tk, 2⟩) tk).opens = (obj S.O tk).opens := cD (g := aO.opens) (fun _ _ => rfl) (fun _ _ => rfl) (fun _ _ _ => rfl)
  have ul : (obj (aL S.X S.O d name ⟨tk, 2⟩) tk).data = (obj S.O tk).data := cD (g := aO.data) (fun _ _ => rfl) (fun _ _ => rfl) (fun _ _ _ => rfl)
  generalize bO : (aL S.X S.O d name ⟨tk, 2⟩) = bH at L7 zo uh uj ul ⊢
  refine gK 1 [(12, .iface 96 (vP (L.b tk)))] [] ?_
  refine gL [] (cr (L.b tk)) ?_
  rintro _ _ ⟨rfl, rfl⟩
  refine gK 1 [(7, vP (L.b tk))] [] ?_
  refine NS ?_
  refine gK 5 [(18, .bool (decide (((obj bH tk).links : Int) = (0 : Int))))] [(3, v_ 1 (kG L zo))] ?_
  refine NN ?_
  refine af.bA (p := ((obj bH tk).links : Int) = (0 : Int)) (fun _ => by kernel_rfl) (fun nG => ?_) (fun nG => ?_)
  ·refine SR ?_
   refine gK 3 [(21, .pointer (some ⟨(L.b tk), 8, none⟩))] [] ?_
   refine pU 1 [(2, 1)] tk 8 (fun o => { o with gone := true }) zo (fun cW cu => ?_)
   have EP := ku cu L7
   have JK := ku cu zo
   have L8 : (obj cW tk).id = (obj S.O tk).id := fu aO.id cu uh
   have OU : (obj cW tk).opens = (obj S.O tk).opens := fu aO.opens cu uj
   have OV : (obj cW tk).data = (obj S.O tk).data := fu aO.data cu ul
   refine NN (af.region ?_)
   refine gK 2 [(22, vP f), (23, .iface 96 (vP (L.b tk)))] [] ?_
   refine gL [1, 0, 3] (nP { S.X with ah := S.X.ah - 1 } f m t (hI.vD hd hlk) cW L S.idx hI.rise ⟨tk, 2⟩ JK (by simp) (by rw [OU]; exact hop.1) (fun _ => by rw [L8, hid.1]; exact hlv) (by rw [L8]; exact mY) (by rw [OV]; exact hdl)) ?_
   rintro _ _ ⟨rfl, rfl⟩
   refine NL ?_
   exact RF (l := [pF f m t { S.X with ah := S.X.ah - 1, used := gu cW S.X.used ⟨tk, 2⟩ }, pO cW L, pE cW L, pI m L (iq cW S.idx ⟨tk, 2⟩)]) (.tuple #[]) [1, 0, 3, 2, 4] (⟨rfl, by subst cu; subst bO; rw [show au S d name ⟨tk, 2⟩ = _ from qv nG] <;> rfl⟩)
  refine af.skip ?_
  exact RF (l := [pF f m t { S.X with ah := S.X.ah - 1 }, pO bH L, pE bH L, pI m L S.idx]) (.tuple #[]) [0, 1, 2, 3, 4] (⟨rfl, by subst bO; rw [show au S d name ⟨tk, 2⟩ = _ from qw nG] <;> rfl⟩)
 have hkt : (obj S.O tk).kind = 3 := hI.kind hlv
 have hlb := hI.lb hlv; have hid := hI.ob _ hlv; have hop := hI.Al hlv; have hdl := hI.Cg hlv; have mY := hI.Gb hlv
 refine af.region ?_
 refine gK 3 (LZ f L d name) [] ?_
 refine gL [0, 1, 2] (gU S.X f m t hX S.O L d hkd name hsz ⟨tk, 3⟩ hkt (by simp) hlk (hI.twice hd) (by omega) (by simp only at hlb ⊢; omega)) ?_
 rintro _ _ ⟨rfl, rfl⟩
 refine gK 1 [(6, .iface 93 (vP (L.b tk)))] [] ?_
 refine NS ?_
 have JQ : (obj (aL S.X S.O d name ⟨tk, 3⟩) d).kind = 2 := (bY).trans (hkd)
 have x7 : (obj (aL S.X S.O d name ⟨tk, 3⟩) tk).kind = 3 := (bY).trans (hkt)
 have uh : (obj (aL S.X S.O d name ⟨tk, 3⟩) tk).id = (obj S.O tk).id := cD (g := aO.id) (fun _ _ => rfl) (fun _ _ => rfl) (fun _ _ _ => rfl)
 have uj : (obj (aL S.X S.O d name ⟨tk, 3⟩) tk).opens = (obj S.O tk).opens := cD (g := aO.opens) (fun _ _ => rfl) (fun _ _ => rfl) (fun _ _ _ => rfl)
 have ul : (obj (aL S.X S.O d name ⟨tk, 3⟩) tk).data = (obj S.O tk).data := cD (g := aO.data) (fun _ _ => rfl) (fun _ _ => rfl) (fun _ _ _ => rfl)
 generalize bO : (aL S.X S.O d name ⟨tk, 3⟩) = bH at JQ x7 uh uj ul ⊢
 refine gK 1 [(12, .iface 93 (vP (L.b tk)))] [] ?_
 refine gL [] (cr (L.b tk)) ?_
 rintro _ _ ⟨rfl, rfl⟩
 refine gK 1 [(7, vP (L.b tk))] [] ?_
 refine NS ?_
 refine gK 5 [(18, .bool (decide (((obj bH tk).links : Int) = (0 : Int))))] [(3, v_ 1 (kG L x7))] ?_
 refine NN ?_
 refine af.bA (p := ((obj bH tk).links : Int) = (0 : Int)) (fun _ => by kernel_rfl) (fun nG => ?_) (fun nG => ?_)
 ·refine SR ?_
  refine gK 3 [(21, .pointer (some ⟨(L.b tk), 8, none⟩))] [] ?_
  refine pU 1 [(2, 1)] tk 8 (fun o => { o with gone := true }) x7 (fun cW cu => ?_)
  have Nr := ku cu JQ
  have x9 := ku cu x7
  have L9 : (obj cW tk).id = (obj S.O tk).id := fu aO.id cu uh
  have OW : (obj cW tk).opens = (obj S.O tk).opens := fu aO.opens cu uj
  have OX : (obj cW tk).data = (obj S.O tk).data := fu aO.data cu ul
  refine NN (af.region ?_)
  refine gK 2 [(22, vP f), (23, .iface 93 (vP (L.b tk)))] [] ?_
  refine gL [1, 0, 3] (nP { S.X with ah := S.X.ah - 1 } f m t (hI.vD hd hlk) cW L S.idx hI.rise ⟨tk, 3⟩ x9 (by simp) (by rw [OW]; exact hop.1) (fun _ => by rw [L9, hid.1]; exact hlv) (by rw [L9]; exact mY) (by rw [OX]; exact hdl)) ?_
  rintro _ _ ⟨rfl, rfl⟩
  refine NL ?_
  exact RF (l := [pF f m t { S.X with ah := S.X.ah - 1, used := gu cW S.X.used ⟨tk, 3⟩ }, pO cW L, pE cW L, pI m L (iq cW S.idx ⟨tk, 3⟩)]) (.tuple #[]) [1, 0, 3, 2, 4] (⟨rfl, by subst cu; subst bO; rw [show au S d name ⟨tk, 3⟩ = _ from qv nG] <;> rfl⟩)
 refine af.skip ?_
 exact RF (l := [pF f m t { S.X with ah := S.X.ah - 1 }, pO bH L, pE bH L, pI m L S.idx]) (.tuple #[]) [0, 1, 2, 3, 4] (⟨rfl, by subst bO; rw [show au S d name ⟨tk, 3⟩ = _ from qw nG] <;> rfl⟩)
theorem qB {β : Bs} (S : aE) (L : HL) (f m t : Nat) (hI : Inv S) (d : Nat) (hd : Live S.idx ⟨d, 2⟩) (name : ByteArray) (hsz : name.size ≤ 1048576) :
    Spec Tryz.prog β 54 #[vP f, vP (L.b d), .string name] [pF f m t S.X, pI m L S.idx, pE S.O L, pO S.O L] (fun v l => v = vI (bN S.X S.O S.idx d name) ∧ l = [pF f m t S.X, pI m L S.idx, pE S.O L, pO S.O L]) := by
 have hX := hI.hX
 have hel : (obj S.O d).ah.length ≤ 8192 := hI.eG hd
 have hkd : (obj S.O d).kind = 2 := hI.kind hd
 refine Spec.enter Tryz.func54 rfl Tryz.ntmps54 (Nat.le_of_ble_eq_true rfl) (fun R => ?_)
 refine af.seq ?_
 rcases hI.jS hd name with hlk | ⟨tk, hlk, hlv⟩ | ⟨tk, hlk, hlv⟩ | ⟨tk, hlk, hlv⟩
 ·refine af.region ?_
  refine gK 1 [] [] ?_
  refine NN (af.seq (SR ?_))
  refine gK 5 [(10, .map (some (L.m d))), (11, .string name)] [(3, v_ 3 (bw L hkd))] ?_
  refine fM 2 hkd hlk ?_
  refine gK 1 [(13, .bool false)] [] ?_
  refine NN ?_
  refine CF ?_
  refine af.skip (NX (af.seq (SR ?_)))
  refine gK 1 [(14, vP f)] [] ?_
  refine gL [0, 1] (Cu S.X f m t L S.idx) ?_
  rintro _ _ ⟨rfl, rfl⟩
  refine gK 1 [(16, .bool (!(decide (((S.idx.length : Int) < S.X.cN ∧ S.X.last < 1099511627776 ∧ S.X.ah < 8192)))))] [] ?_
  refine NN ?_
  refine af.cI (p := ((S.idx.length : Int) < S.X.cN ∧ S.X.last < 1099511627776 ∧ S.X.ah < 8192)) (fun _ => by kernel_rfl) (fun xD => ?_) (fun xD => ?_)
  ·refine SR ?_
   refine gK 1 [(6, vI 177)] [] ?_
   refine NN (af.ret (ai.ar ?_))
   exact RT (vI 177) [0, 1, 2, 3, 4] (⟨congrArg (Value.int .i64) (Eq.symm (show bN S.X S.O S.idx d name = _ from (if_pos hlk).trans (if_neg xD))), rfl⟩)
  refine af.skip (NX (SR ?_))
  refine gK 1 [(6, vI 0)] [] ?_
  refine NN (af.ret ?_)
  exact RT (vI 0) [0, 1, 2, 3, 4] (⟨congrArg (Value.int .i64) (Eq.symm (show bN S.X S.O S.idx d name = _ from (if_pos hlk).trans (if_pos xD))), rfl⟩)
 ·have hkt : (obj S.O tk).kind = 1 := hI.kind hlv
  refine af.region ?_
  refine gK 1 [] [] ?_
  refine NN (af.seq (SR ?_))
  refine gK 5 [(10, .map (some (L.m d))), (11, .string name)] [(3, v_ 3 (bw L hkd))] ?_
  refine fM 2 hkd hlk ?_
  refine gK 1 [(13, .bool true)] [] ?_
  refine NN ?_
  refine CT ?_
  refine SR ?_
  refine gK 1 [(6, vI 171)] [] ?_
  refine NN (af.ret (ai.ar ?_))
  exact RT (vI 171) [0, 1, 2, 3, 4] (⟨congrArg (Value.int .i64) (Eq.symm (show bN S.X S.O S.idx d name = _ from if_neg (by rw [hlk]; simp))), rfl⟩)
 ·have hkt : (obj S.O tk).kind = 2 := hI.kind hlv
  refine af.region ?_
  refine gK 1 [] [] ?_
  refine NN (af.seq (SR ?_))
  refine gK 5 [(10, .map (some (L.m d))), (11, .string name)] [(3, v_ 3 (bw L hkd))] ?_
  refine fM 2 hkd hlk ?_
  refine gK 1 [(13, .bool true)] [] ?_
  refine NN ?_
  refine CT ?_
  refine SR ?_
  refine gK 1 [(6, vI 171)] [] ?_
  refine NN (af.ret (ai.ar ?_))
  exact RT (vI 171) [0, 1, 2, 3, 4] (⟨congrArg (Value.int .i64) (Eq.symm (show bN S.X S.O S.idx d name = _ from if_neg (by rw [hlk]; simp))), rfl⟩)
 have hkt : (obj S.O tk).kind = 3 := hI.kind hlv
 refine af.region ?_
 refine gK 1 [] [] ?_
 refine NN (af.seq (SR ?_))
 refine gK 5 [(10, .map (some (L.m d))), (11, .string name)] [(3, v_ 3 (bw L hkd))] ?_
 refine fM 2 hkd hlk ?_
 refine gK 1 [(13, .bool true)] [] ?_
 refine NN ?_
 refine CT ?_
 refine SR ?_
 refine gK 1 [(6, vI 171)] [] ?_
 refine NN (af.ret (ai.ar ?_))
 exact RT (vI 171) [0, 1, 2, 3, 4] (⟨congrArg (Value.int .i64) (Eq.symm (show bN S.X S.O S.idx d name = _ from if_neg (by rw [hlk]; simp))), rfl⟩)
theorem Kw {β : Bs} (s : ByteArray) (hsz : s.size ≤ 1048576) :
    Spec Tryz.prog β 105 #[.string s] [] (fun v l => v = vI (kJ s) ∧ l = []) := by
 refine Spec.enter Tryz.func105 rfl Tryz.ntmps105 (Nat.le_of_ble_eq_true rfl) (fun R => ?_)
 refine SR ?_
 refine gK 1 [] [] ?_
 refine NN (af.seq (af.block (SR ?_)))
 refine gK 3 [(3, .bool (decide ((s : ByteArray) = ⟨#[]⟩)))] [(1, p_ ⟨[], none, none, none, some (.bool (decide ((s : ByteArray) = ⟨#[]⟩)))⟩ [(Value.bool ((s : ByteArray).toList == (⟨#[]⟩ : ByteArray).toList)) = (.bool (decide ((s : ByteArray) = ⟨#[]⟩)))] ⟨q4 _ _, trivial⟩)] ?_
 refine NN ?_
 refine af.bA (p := (s : ByteArray) = ⟨#[]⟩) (fun _ => by kernel_rfl) (fun h3 => ?_) (fun h3 => ?_)
 ·refine SR ?_
  refine gK 1 [(2, vI 90)] [] ?_
  refine NN (af.ret (ai.aH (ai.ar ?_)))
  exact RT (vI 90) [0] (⟨congrArg (Value.int .i64) (Eq.symm (show kJ s = _ from if_pos h3)), rfl⟩)
 refine SR ?_
 refine gK 4 [(6, .bool (decide (((((s : ByteArray).size : Nat) : Int) : Int) > (4096 : Int))))] [] ?_
 refine NN ?_
 refine af.bA (p := ((((s : ByteArray).size : Nat) : Int) : Int) > (4096 : Int)) (fun _ => by kernel_rfl) (fun h6 => ?_) (fun h6 => ?_)
 ·refine SR ?_
  refine gK 1 [(2, vI 93)] [] ?_
  refine NN (af.ret (ai.aH (ai.ar ?_)))
  exact RT (vI 93) [0] (⟨congrArg (Value.int .i64) (Eq.symm (show kJ s = _ from (if_neg h3).trans (if_pos (by omega)))), rfl⟩)
 refine SR ?_
 refine gK 1 [(11, .string s)] [] ?_
 refine gL [] (Dp s) ?_
 rintro _ _ ⟨⟨x, rfl, hx⟩, rfl⟩
 refine gK 2 [(10, .bool (decide ((x : Int) ≥ (0 : Int))))] [] ?_
 refine NN ?_
 refine af.bA (p := (x : Int) ≥ (0 : Int)) (fun _ => by kernel_rfl) (fun h10 => ?_) (fun h10 => ?_)
 ·refine SR ?_
  refine gK 1 [(2, vI 91)] [] ?_
  refine NN (af.ret (ai.aH (ai.ar ?_)))
  exact RT (vI 91) [0] (⟨congrArg (Value.int .i64) (Eq.symm (show kJ s = _ from (if_neg h3).trans ((if_neg (by omega)).trans (if_neg (hx.1 (by omega)))))), rfl⟩)
 refine af.skip (ai.aP (NX (SR ?_)))
 refine gK 1 [(2, vI 0)] [] ?_
 refine NN (af.ret ?_)
 exact RT (vI 0) [0] (⟨congrArg (Value.int .i64) (Eq.symm (show kJ s = _ from (if_neg h3).trans ((if_neg (by omega)).trans (if_pos (Classical.byContradiction (fun hn => absurd (hx.2 hn) (by omega))))))), rfl⟩)
theorem pW {β : Bs} (S : aE) (L : HL) (f m t : Nat) (th : Th) (hkt : (obj S.O th.k).kind = th.kind) (h3 : th.kind = 1 ∨ th.kind = 2 ∨ th.kind = 3) (hop : 0 ≤ (obj S.O th.k).opens ∧ (obj S.O th.k).opens ≤ 1048576) :
    Spec Tryz.prog β 132 #[vP f, (cF L th)] [pF f m t S.X, pT t S.X.cH S.aq L S.us, pO S.O L] (fun v l => v = .tuple #[vI (openM S th).1, vI (openM S th).2.1] ∧ l = [pF f m t S.X, pT t S.X.cH ((openM S th).2.2.aq) L ((openM S th).2.2.us), pO ((openM S th).2.2.O) L]) := by
 refine Spec.enter Tryz.func132 rfl Tryz.ntmps132 (Nat.le_of_ble_eq_true rfl) (fun R => ?_)
 refine af.seq ?_
 obtain ⟨tk, kd⟩ := th; simp only at hkt h3; rcases Int.lt_or_le (S.us.length : Int) S.X.cH with qC | qC <;> rcases h3 with e0 | e0 | e0 <;> subst e0
 ·replace hkt : (obj S.O tk).kind = 1 := hkt
  replace hop : 0 ≤ (obj S.O tk).opens ∧ (obj S.O tk).opens ≤ 1048576 := hop
  refine af.region ?_
  refine gK 2 [] [] ?_
  refine NS ?_
  refine gK 5 [(12, vP t), (13, .iface 89 (vP (L.b tk)))] [(3, a_ 0 f)] ?_
  refine gL [1] ((wu t S.X.cH S.aq (aJ L S.us) (cF L ⟨tk, 1⟩) (by rw [mT]; exact qC)).mono (fun v l h => ze h)) ?_
  rintro _ _ ⟨rfl, rfl⟩
  refine gK 5 [(6, vI ((TabM.least S.us))), (7, vI 0)] [] ?_
  refine NN (af.seq (SR ?_))
  refine gK 2 [(18, .bool true)] [] ?_
  refine NN ?_
  refine CT ?_
  refine af.region ?_
  refine gK 1 [(19, .iface 89 (vP (L.b tk)))] [] ?_
  refine gL [] (cr (L.b tk)) ?_
  rintro _ _ ⟨rfl, rfl⟩
  refine gK 6 (L5 S tk L) [(2, v_ 2 (iI L hkt)), (3, p_ ⟨[], none, none, none, some (vI ((obj S.O tk).opens + 1))⟩ [(Value.int .i64 (IntKind.wrap .i64 ((obj S.O tk).opens + 1))) = (.int .i64 ((obj S.O tk).opens + 1))] ⟨bF (by omega) (by omega) (by omega), trivial⟩)] ?_
  refine pU 2 [] tk 7 (fun o => { o with opens := o.opens + 1 }) hkt (fun bH bO => ?_)
  have Qr := ku bO hkt
  refine NS ?_
  refine gK 4 [(4, vI ((TabM.least S.us))), (5, vI 0)] [] ?_
  refine NN (af.ret ?_)
  exact RT (l := [pF f m t S.X, pT t S.X.cH (max S.aq ((S.us.length : Int) + 1)) L (ins (TabM.least S.us) ⟨tk, 1⟩ S.us), pO bH L]) (.tuple #[vI ((TabM.least S.us)), vI 0]) [1, 0, 2, 3] (by subst bO; rw [show openM S ⟨tk, 1⟩ = _ from iL qC] <;> exact ⟨rfl, rfl⟩)
 ·replace hkt : (obj S.O tk).kind = 2 := hkt
  replace hop : 0 ≤ (obj S.O tk).opens ∧ (obj S.O tk).opens ≤ 1048576 := hop
  refine af.region ?_
  refine gK 2 [] [] ?_
  refine NS ?_
  refine gK 5 [(12, vP t), (13, .iface 96 (vP (L.b tk)))] [(3, a_ 0 f)] ?_
  refine gL [1] ((wu t S.X.cH S.aq (aJ L S.us) (cF L ⟨tk, 2⟩) (by rw [mT]; exact qC)).mono (fun v l h => ze h)) ?_
  rintro _ _ ⟨rfl, rfl⟩
  refine gK 5 [(6, vI ((TabM.least S.us))), (7, vI 0)] [] ?_
  refine NN (af.seq (SR ?_))
  refine gK 2 [(18, .bool true)] [] ?_
  refine NN ?_
  refine CT ?_
  refine af.region ?_
  refine gK 1 [(19, .iface 96 (vP (L.b tk)))] [] ?_
  refine gL [] (cr (L.b tk)) ?_
  rintro _ _ ⟨rfl, rfl⟩
  refine gK 6 (L5 S tk L) [(2, v_ 2 (iI L hkt)), (3, p_ ⟨[], none, none, none, some (vI ((obj S.O tk).opens + 1))⟩ [(Value.int .i64 (IntKind.wrap .i64 ((obj S.O tk).opens + 1))) = (.int .i64 ((obj S.O tk).opens + 1))] ⟨bF (by omega) (by omega) (by omega), trivial⟩)] ?_
  refine pU 2 [] tk 7 (fun o => { o with opens := o.opens + 1 }) hkt (fun bH bO => ?_)
  have JM := ku bO hkt
  refine NS ?_
  refine gK 4 [(4, vI ((TabM.least S.us))), (5, vI 0)] [] ?_
  refine NN (af.ret ?_)
  exact RT (l := [pF f m t S.X, pT t S.X.cH (max S.aq ((S.us.length : Int) + 1)) L (ins (TabM.least S.us) ⟨tk, 2⟩ S.us), pO bH L]) (.tuple #[vI ((TabM.least S.us)), vI 0]) [1, 0, 2, 3] (by subst bO; rw [show openM S ⟨tk, 2⟩ = _ from iL qC] <;> exact ⟨rfl, rfl⟩)
 ·replace hkt : (obj S.O tk).kind = 3 := hkt
  replace hop : 0 ≤ (obj S.O tk).opens ∧ (obj S.O tk).opens ≤ 1048576 := hop
  refine af.region ?_
  refine gK 2 [] [] ?_
  refine NS ?_
  refine gK 5 [(12, vP t), (13, .iface 93 (vP (L.b tk)))] [(3, a_ 0 f)] ?_
  refine gL [1] ((wu t S.X.cH S.aq (aJ L S.us) (cF L ⟨tk, 3⟩) (by rw [mT]; exact qC)).mono (fun v l h => ze h)) ?_
  rintro _ _ ⟨rfl, rfl⟩
  refine gK 5 [(6, vI ((TabM.least S.us))), (7, vI 0)] [] ?_
  refine NN (af.seq (SR ?_))
  refine gK 2 [(18, .bool true)] [] ?_
  refine NN ?_
  refine CT ?_
  refine af.region ?_
  refine gK 1 [(19, .iface 93 (vP (L.b tk)))] [] ?_
  refine gL [] (cr (L.b tk)) ?_
  rintro _ _ ⟨rfl, rfl⟩
  refine gK 6 (L5 S tk L) [(2, v_ 2 (iI L hkt)), (3, p_ ⟨[], none, none, none, some (vI ((obj S.O tk).opens + 1))⟩ [(Value.int .i64 (IntKind.wrap .i64 ((obj S.O tk).opens + 1))) = (.int .i64 ((obj S.O tk).opens + 1))] ⟨bF (by omega) (by omega) (by omega), trivial⟩)] ?_
  refine pU 2 [] tk 7 (fun o => { o with opens := o.opens + 1 }) hkt (fun bH bO => ?_)
  have Bf := ku bO hkt
  refine NS ?_
  refine gK 4 [(4, vI ((TabM.least S.us))), (5, vI 0)] [] ?_
  refine NN (af.ret ?_)
  exact RT (l := [pF f m t S.X, pT t S.X.cH (max S.aq ((S.us.length : Int) + 1)) L (ins (TabM.least S.us) ⟨tk, 3⟩ S.us), pO bH L]) (.tuple #[vI ((TabM.least S.us)), vI 0]) [1, 0, 2, 3] (by subst bO; rw [show openM S ⟨tk, 3⟩ = _ from iL qC] <;> exact ⟨rfl, rfl⟩)
 ·replace hkt : (obj S.O tk).kind = 1 := hkt
  replace hop : 0 ≤ (obj S.O tk).opens ∧ (obj S.O tk).opens ≤ 1048576 := hop
  refine af.region ?_
  refine gK 2 [] [] ?_
  refine NS ?_
  refine gK 5 [(12, vP t), (13, .iface 89 (vP (L.b tk)))] [(3, a_ 0 f)] ?_
  refine gL [1] (tW t S.X.cH S.aq (aJ L S.us) (cF L ⟨tk, 1⟩) (by rw [mT]; exact qC)) ?_
  rintro _ _ ⟨rfl, rfl⟩
  refine gK 5 [(6, vI 0), (7, vI 130)] [] ?_
  refine NN (af.seq (SR ?_))
  refine gK 2 [(18, .bool false)] [] ?_
  refine NN ?_
  refine CF ?_
  refine af.skip (NX (SR ?_))
  refine gK 4 [(4, vI 0), (5, vI 130)] [] ?_
  refine NN (af.ret ?_)
  exact RT (.tuple #[vI 0, vI 130]) [1, 0, 2, 3] (by skip; rw [show openM S ⟨tk, 1⟩ = _ from j4 (by omega)] <;> exact ⟨rfl, rfl⟩)
 ·replace hkt : (obj S.O tk).kind = 2 := hkt
  replace hop : 0 ≤ (obj S.O tk).opens ∧ (obj S.O tk).opens ≤ 1048576 := hop
  refine af.region ?_
  refine gK 2 [] [] ?_
  refine NS ?_
  refine gK 5 [(12, vP t), (13, .iface 96 (vP (L.b tk)))] [(3, a_ 0 f)] ?_
  refine gL [1] (tW t S.X.cH S.aq (aJ L S.us) (cF L ⟨tk, 2⟩) (by rw [mT]; exact qC)) ?_
  rintro _ _ ⟨rfl, rfl⟩
  refine gK 5 [(6, vI 0), (7, vI 130)] [] ?_
  refine NN (af.seq (SR ?_))
  refine gK 2 [(18, .bool false)] [] ?_
  refine NN ?_
  refine CF ?_
  refine af.skip (NX (SR ?_))
  refine gK 4 [(4, vI 0), (5, vI 130)] [] ?_
  refine NN (af.ret ?_)
  exact RT (.tuple #[vI 0, vI 130]) [1, 0, 2, 3] (by skip; rw [show openM S ⟨tk, 2⟩ = _ from j4 (by omega)] <;> exact ⟨rfl, rfl⟩)
 replace hkt : (obj S.O tk).kind = 3 := hkt
 replace hop : 0 ≤ (obj S.O tk).opens ∧ (obj S.O tk).opens ≤ 1048576 := hop
 refine af.region ?_
 refine gK 2 [] [] ?_
 refine NS ?_
 refine gK 5 [(12, vP t), (13, .iface 93 (vP (L.b tk)))] [(3, a_ 0 f)] ?_
 refine gL [1] (tW t S.X.cH S.aq (aJ L S.us) (cF L ⟨tk, 3⟩) (by rw [mT]; exact qC)) ?_
 rintro _ _ ⟨rfl, rfl⟩
 refine gK 5 [(6, vI 0), (7, vI 130)] [] ?_
 refine NN (af.seq (SR ?_))
 refine gK 2 [(18, .bool false)] [] ?_
 refine NN ?_
 refine CF ?_
 refine af.skip (NX (SR ?_))
 refine gK 4 [(4, vI 0), (5, vI 130)] [] ?_
 refine NN (af.ret ?_)
 exact RT (.tuple #[vI 0, vI 130]) [1, 0, 2, 3] (by skip; rw [show openM S ⟨tk, 3⟩ = _ from j4 (by omega)] <;> exact ⟨rfl, rfl⟩)
theorem cY {β : Bs} (S : aE) (L : HL) (f m t : Nat) (hI : Inv S) (h : Int) (hw : (Lit.int .i64 h).wf = true) (name : ByteArray) (hsz : name.size ≤ 1048576) (need : Int) :
    Spec Tryz.prog β 134 #[vP f, vI (h), .string name, vI (need)] [pF f m t S.X, pT t S.X.cH S.aq L S.us, pO S.O L] (fun v l => v = OG L (cK S.O S.us h name need) ∧ l = [pF f m t S.X, pT t S.X.cH S.aq L S.us, pO S.O L]) := by
 refine Spec.enter Tryz.func134 rfl Tryz.ntmps134 (Nat.le_of_ble_eq_true rfl) (fun R => ?_)
 refine af.seq ?_
 rcases hI.hand h with cE | ⟨tk, cE, hlv⟩ | ⟨tk, cE, hlv⟩
 ·refine af.region ?_
  refine gK 2 [] [] ?_
  refine NS ?_
  refine gK 5 [(18, vP t), (19, vI (h))] [(3, a_ 0 f)] ?_
  refine gL [1] (nK t S.X.cH S.aq (aJ L S.us) h hw (mU cE)) ?_
  rintro _ _ ⟨rfl, rfl⟩
  refine gK 5 [(10, .nilIface), (11, vI 131)] [] ?_
  refine NN (af.seq (SR ?_))
  refine gK 2 [(24, .bool true)] [] ?_
  refine NN ?_
  refine CT ?_
  refine SR ?_
  refine gK 3 [(8, .pointer none), (9, vI 131)] [] ?_
  refine NN (af.ret (ai.ar ?_))
  exact RT (.tuple #[.pointer none, vI 131]) [1, 0, 2, 3] (⟨by rw [show cK S.O S.us h name need = .error 131 by unfold cK; rw [cE]]; rfl, rfl⟩)
 ·have hkt : (obj S.O tk).kind = 1 := hI.kind hlv
  refine af.region ?_
  refine gK 2 [] [] ?_
  refine NS ?_
  refine gK 5 [(18, vP t), (19, vI (h))] [(3, a_ 0 f)] ?_
  refine gL [1] (jA t S.X.cH S.aq (aJ L S.us) h hw (cF L ⟨tk, 1⟩) (iT cE)) ?_
  rintro _ _ ⟨rfl, rfl⟩
  refine gK 5 [(10, .iface 89 (vP (L.b tk))), (11, vI 0)] [] ?_
  refine NN (af.seq (SR ?_))
  refine gK 2 [(24, .bool false)] [] ?_
  refine NN ?_
  refine CF ?_
  refine af.skip (NX (SR ?_))
  refine gK 7 [(12, .pointer none), (13, .bool false)] [] ?_
  refine NN (af.seq (af.block (SR ?_)))
  refine gK 3 [(31, .bool true)] [] ?_
  refine NN ?_
  refine CT ?_
  refine SR ?_
  refine gK 2 [(8, .pointer none), (9, vI 173)] [] ?_
  refine NN (af.ret (ai.aH (ai.ar ?_)))
  exact RT (.tuple #[.pointer none, vI 173]) [1, 0, 2, 3] (⟨by rw [show cK S.O S.us h name need = .error 173 by unfold cK; rw [cE]; exact if_neg (by simp)]; rfl, rfl⟩)
 have hkt : (obj S.O tk).kind = 2 := hI.kind hlv
 refine af.region ?_
 refine gK 2 [] [] ?_
 refine NS ?_
 refine gK 5 [(18, vP t), (19, vI (h))] [(3, a_ 0 f)] ?_
 refine gL [1] (jA t S.X.cH S.aq (aJ L S.us) h hw (cF L ⟨tk, 2⟩) (iT cE)) ?_
 rintro _ _ ⟨rfl, rfl⟩
 refine gK 5 [(10, .iface 96 (vP (L.b tk))), (11, vI 0)] [] ?_
 refine NN (af.seq (SR ?_))
 refine gK 2 [(24, .bool false)] [] ?_
 refine NN ?_
 refine CF ?_
 refine af.skip (NX (SR ?_))
 refine gK 7 [(12, vP (L.b tk)), (13, .bool true)] [] ?_
 refine NN (af.seq (af.block (SR ?_)))
 refine gK 3 [(31, .bool false)] [] ?_
 refine NN ?_
 refine CF ?_
 refine SR ?_
 refine gK 6 [(34, .bool (obj S.O tk).gone)] [(4, v_ 2 (kS L hkt))] ?_
 refine NN ?_
 refine af.cond (b := (obj S.O tk).gone) (fun _ => by kernel_rfl) (fun vH => ?_) (fun vH => ?_)
 ·refine SR ?_
  refine gK 2 [(8, .pointer none), (9, vI 170)] [] ?_
  refine NN (af.ret (ai.aH (ai.ar ?_)))
  exact RT (.tuple #[.pointer none, vI 170]) [1, 0, 2, 3] (⟨by rw [show cK S.O S.us h name need = .error 170 by unfold cK; rw [cE]; exact (if_pos rfl).trans (if_pos vH)]; rfl, rfl⟩)
 refine SR ?_
 refine gK 1 [(41, .string name)] [] ?_
 refine gL [] (pG name hsz) ?_
 rintro _ _ ⟨rfl, rfl⟩
 refine gK 2 [(40, .bool (!(decide (bB name))))] [] ?_
 refine NN ?_
 refine af.cI (p := bB name) (fun _ => by kernel_rfl) (fun JR => ?_) (fun JR => ?_)
 ·refine SR ?_
  refine gK 2 [(8, .pointer none), (9, vI 95)] [] ?_
  refine NN (af.ret (ai.aH (ai.ar ?_)))
  exact RT (.tuple #[.pointer none, vI 95]) [1, 0, 2, 3] (⟨by rw [show cK S.O S.us h name need = .error 95 by unfold cK; rw [cE]; exact (if_pos rfl).trans ((if_neg (by rw [vH]; decide)).trans (if_neg JR))]; rfl, rfl⟩)
 refine SR ?_
 refine gK 10 [(44, .bool (!(decide ((bits BinOp.and .i64 ((obj S.O tk).mode) need : Int) = (need : Int)))))] [(4, v_ 2 (LU L hkt))] ?_
 refine NN ?_
 refine af.cI (p := (bits BinOp.and .i64 ((obj S.O tk).mode) need : Int) = (need : Int)) (fun _ => by kernel_rfl) (fun BK => ?_) (fun BK => ?_)
 ·refine SR ?_
  refine gK 2 [(8, .pointer none), (9, vI 175)] [] ?_
  refine NN (af.ret (ai.aH (ai.ar ?_)))
  exact RT (.tuple #[.pointer none, vI 175]) [1, 0, 2, 3] (⟨by rw [show cK S.O S.us h name need = .error 175 by unfold cK; rw [cE]; exact (if_pos rfl).trans ((if_neg (by rw [vH]; decide)).trans ((if_pos JR).trans (if_neg BK)))]; rfl, rfl⟩)
 refine af.skip (ai.aP (NX (SR ?_)))
 refine gK 3 [(8, vP (L.b tk)), (9, vI 0)] [] ?_
 refine NN (af.ret ?_)
 exact RT (.tuple #[vP (L.b tk), vI 0]) [1, 0, 2, 3] (⟨by rw [show cK S.O S.us h name need = .ok tk by unfold cK; rw [cE]; exact (if_pos rfl).trans ((if_neg (by rw [vH]; decide)).trans ((if_pos JR).trans (if_pos BK)))]; rfl, rfl⟩)
theorem Kx {β : Bs} (X : FM) (f m t : Nat) (hX : 0 ≤ X.ah ∧ X.ah ≤ 1048576 ∧ -1125899906842624 ≤ X.used ∧ X.used ≤ 1125899906842624 ∧ 0 ≤ X.last ∧ X.last ≤ 1125899906842624) (O : bJ) (L : HL) (d : Nat) (hkd : (obj O d).kind = 2) (name : ByteArray) (hsz : name.size ≤ 1048576) (hno : aR name (obj O d).ah = none) (hel : (obj O d).ah.length ≤ 1048576) (idx : Used Th) (hil : idx.length ≤ 1048576) (th : Th) (hkt : (obj O th.k).kind = th.kind) (h3 : th.kind = 1 ∨ th.kind = 2 ∨ th.kind = 3) (hb : 0 ≤ (obj O th.k).links ∧ (obj O th.k).links ≤ 1048576) (hni : TabM.get idx (obj O th.k).id = none) (hw : (Lit.int .i64 (obj O th.k).id).wf = true) :
    Spec Tryz.prog β 56 #[vP f, vP (L.b d), .string name, (cF L th)] [pF f m t X, pI m L idx, pO O L, pE O L] (fun v l => v = .tuple #[] ∧ l = [pF f m t { X with ah := X.ah + 1 }, pI m L (ins (obj O th.k).id th idx), pO (bp X O d name th) L, pE (bp X O d name th) L]) := by
 refine Spec.enter Tryz.func56 rfl Tryz.ntmps56 (Nat.le_of_ble_eq_true rfl) (fun R => ?_)
 refine af.seq ?_
 obtain ⟨tk, kd⟩ := th; simp only at hkt h3; rcases h3 with rfl | rfl | rfl
 ·replace hkt : (obj O tk).kind = 1 := hkt
  replace hni : TabM.get idx (obj O tk).id = none := hni
  replace hw : (Lit.int .i64 (obj O tk).id).wf = true := hw
  refine af.bZ (S := (tj f m t X L idx O R)) [0, 1, 2, 3, 4, 9, 5, 6, 7, 8, 10] 6 [0, 1, 2, 3, 4] (by kernel_rfl) (by kernel_rfl) rfl (by kernel_rfl) ?_
  refine aF.reads (r := 0) (l := [5, 6, 7, 8, 10]) (fr' := (tf f L d name ++ [(3, .iface 89 (vP (L.b tk))), (11, .map (some m)), (12, .iface 89 (vP (L.b tk))), (17, .iface 89 (vP (L.b tk)))])) (aV := [f = f]) [0, 1, 2, 3, 4, 9] [o_, o_, o_, ⟨[.at 0], none, none, none, none⟩, o_, o_] [0, 1, 2, 3, 11, 12, 17] (fun _ => by kernel_rfl) ⟨rfl, trivial⟩ rfl rfl ?_
  refine mL [0, 1, 2, 3, 4] [] (cr (L.b tk)) ?_ (by rintro _ _ ⟨rfl, rfl⟩; rfl)
  rintro _ _ ⟨rfl, rfl⟩
  refine aF.cut (ι := Unit) (fr' := fun (_ : Unit) => (tf f L d name ++ [(3, .iface 89 (vP (L.b tk))), (11, .map (some m)), (14, vP (L.b tk)), (17, .iface 89 (vP (L.b tk)))])) (hp' := fun (_ : Unit) => (tj f m t X L idx O R)) [0, 1, 2, 3, 4] rfl rfl ?_ rfl (fun _ => by kernel_rfl) ?_
  ·refine gK 1 [(14, vP (L.b tk))] [] ?_
   refine NL ?_
   exact MD () [0, 1, 2, 3, 11, 14, 17] [0, 1, 2, 3, 4]
  rintro _
  refine aF.cut (ι := Unit) (fr' := fun (_ : Unit) => (tf f L d name ++ [(3, .iface 89 (vP (L.b tk))), (11, .map (some m)), (15, vP (L.b tk)), (17, .iface 89 (vP (L.b tk)))])) (hp' := fun (_ : Unit) => (tj f m t X L idx O R)) [0, 1, 2, 3, 4] rfl rfl ?_ rfl (fun _ => by kernel_rfl) ?_
  ·refine gK 1 [(15, vP (L.b tk))] [] ?_
   refine NL ?_
   exact MD () [0, 1, 2, 3, 11, 15, 17] [0, 1, 2, 3, 4]
  rintro _
  refine aF.cut (ι := Unit) (fr' := fun (_ : Unit) => (tf f L d name ++ [(3, .iface 89 (vP (L.b tk))), (11, .map (some m)), (16, vI ((obj O tk).id)), (17, .iface 89 (vP (L.b tk)))])) (hp' := fun (_ : Unit) => (tj f m t X L idx O R)) [0, 1, 2, 3, 4] rfl rfl ?_ rfl (fun _ => by kernel_rfl) ?_
  ·refine gK 1 [(16, vI ((obj O tk).id))] [(0, v_ 2 (zm L hkt))] ?_
   refine NL ?_
   exact MD () [0, 1, 2, 3, 11, 16, 17] [0, 1, 2, 3, 4]
  rintro _
  refine aF.last rfl rfl ?_
  refine aj.jY 1 (d := none) (t := 80) (K := 3) (E := 84) (b := m) (n := idx.length) (f := (aM (aJ L idx))) (x := (.tmp 11)) (ix := (.tmp 16)) (y := (.tmp 17)) (key := .int .i64 ((obj O tk).id)) (u := .iface 89 (vP (L.b tk))) (kl := (.int .i64 (obj O tk).id)) (n' := (idx.length + 1)) (f' := (aM (aJ L (ins (obj O tk).id ⟨tk, 1⟩ idx)))) (fun _ => by kernel_rfl) (by kernel_rfl) (fun _ => by kernel_rfl) (fun _ => by kernel_rfl) (fun _ => by kernel_rfl) dF Tryz.underlying80 (by unfold maxLen; omega) (gE hw) (by rw [dN, hni]; rfl) (o3 (L := L) (t := ⟨tk, 1⟩) hni) ?_
  refine NL (ai.np (NX (af.region ?_)))
  refine gK 4 (LY f L d name ++ [(21, .iface 89 (vP (L.b tk)))]) [] ?_
  refine gL [0, 2, 3] (fQ X f m t hX O L d hkd name hsz hno hel ⟨tk, 1⟩ hkt (by simp) hb) ?_
  rintro _ _ ⟨rfl, rfl⟩
  refine NL ?_
  refine ai.mem (aQ := [.blk f [vI (X.cN), vI (X.cB), vI (X.cH), vI (X.cS), vI (X.cZ), .map (some m), vP t, vI (X.last), vI (X.ah + 1), vI (X.used)] 86, .abs (ak (aN (bp X O d name ⟨tk, 1⟩) L)), .abs (ak (bh (bp X O d name ⟨tk, 1⟩) L)), .abs (aI Tryz.prog 3 m (aM (aJ L (ins (obj O tk).id ⟨tk, 1⟩ idx))) ((ins (obj O tk).id ⟨tk, 1⟩ idx).length)), .abs R]) (fun w hS => by rw [show (ins (obj O tk).id ⟨tk, 1⟩ idx).length = idx.length + 1 from fW _ _ _]; exact hS) ?_
  exact RF (.tuple #[]) [0, 3, 1, 2, 4] (⟨rfl, rfl⟩)
 ·replace hkt : (obj O tk).kind = 2 := hkt
  replace hni : TabM.get idx (obj O tk).id = none := hni
  replace hw : (Lit.int .i64 (obj O tk).id).wf = true := hw
  refine af.bZ (S := (tj f m t X L idx O R)) [0, 1, 2, 3, 4, 9, 5, 6, 7, 8, 10] 6 [0, 1, 2, 3, 4] (by kernel_rfl) (by kernel_rfl) rfl (by kernel_rfl) ?_
  refine aF.reads (r := 0) (l := [5, 6, 7, 8, 10]) (fr' := (tf f L d name ++ [(3, .iface 96 (vP (L.b tk))), (11, .map (some m)), (12, .iface 96 (vP (L.b tk))), (17, .iface 96 (vP (L.b tk)))])) (aV := [f = f]) [0, 1, 2, 3, 4, 9] [o_, o_, o_, ⟨[.at 0], none, none, none, none⟩, o_, o_] [0, 1, 2, 3, 11, 12, 17] (fun _ => by kernel_rfl) ⟨rfl, trivial⟩ rfl rfl ?_
  refine mL [0, 1, 2, 3, 4] [] (cr (L.b tk)) ?_ (by rintro _ _ ⟨rfl, rfl⟩; rfl)
  rintro _ _ ⟨rfl, rfl⟩
  refine aF.cut (ι := Unit) (fr' := fun (_ : Unit) => (tf f L d name ++ [(3, .iface 96 (vP (L.b tk))), (11, .map (some m)), (14, vP (L.b tk)), (17, .iface 96 (vP (L.b tk)))])) (hp' := fun (_ : Unit) => (tj f m t X L idx O R)) [0, 1, 2, 3, 4] rfl rfl ?_ rfl (fun _ => by kernel_rfl) ?_
  ·refine gK 1 [(14, vP (L.b tk))] [] ?_
   refine NL ?_
   exact MD () [0, 1, 2, 3, 11, 14, 17] [0, 1, 2, 3, 4]
  rintro _
  refine aF.cut (ι := Unit) (fr' := fun (_ : Unit) => (tf f L d name ++ [(3, .iface 96 (vP (L.b tk))), (11, .map (some m)), (15, vP (L.b tk)), (17, .iface 96 (vP (L.b tk)))])) (hp' := fun (_ : Unit) => (tj f m t X L idx O R)) [0, 1, 2, 3, 4] rfl rfl ?_ rfl (fun _ => by kernel_rfl) ?_
  ·refine gK 1 [(15, vP (L.b tk))] [] ?_
   refine NL ?_
   exact MD () [0, 1, 2, 3, 11, 15, 17] [0, 1, 2, 3, 4]
  rintro _
  refine aF.cut (ι := Unit) (fr' := fun (_ : Unit) => (tf f L d name ++ [(3, .iface 96 (vP (L.b tk))), (11, .map (some m)), (16, vI ((obj O tk).id)), (17, .iface 96 (vP (L.b tk)))])) (hp' := fun (_ : Unit) => (tj f m t X L idx O R)) [0, 1, 2, 3, 4] rfl rfl ?_ rfl (fun _ => by kernel_rfl) ?_
  ·refine gK 1 [(16, vI ((obj O tk).id))] [(0, v_ 2 (zm L hkt))] ?_
   refine NL ?_
   exact MD () [0, 1, 2, 3, 11, 16, 17] [0, 1, 2, 3, 4]
  rintro _
  refine aF.last rfl rfl ?_
  refine aj.jY 1 (d := none) (t := 80) (K := 3) (E := 84) (b := m) (n := idx.length) (f := (aM (aJ L idx))) (x := (.tmp 11)) (ix := (.tmp 16)) (y := (.tmp 17)) (key := .int .i64 ((obj O tk).id)) (u := .iface 96 (vP (L.b tk))) (kl := (.int .i64 (obj O tk).id)) (n' := (idx.length + 1)) (f' := (aM (aJ L (ins (obj O tk).id ⟨tk, 2⟩ idx)))) (fun _ => by kernel_rfl) (by kernel_rfl) (fun _ => by kernel_rfl) (fun _ => by kernel_rfl) (fun _ => by kernel_rfl) dF Tryz.underlying80 (by unfold maxLen; omega) (gE hw) (by rw [dN, hni]; rfl) (o3 (L := L) (t := ⟨tk, 2⟩) hni) ?_
  refine NL (ai.np (NX (af.region ?_)))
  refine gK 4 (LY f L d name ++ [(21, .iface 96 (vP (L.b tk)))]) [] ?_
  refine gL [0, 2, 3] (fQ X f m t hX O L d hkd name hsz hno hel ⟨tk, 2⟩ hkt (by simp) hb) ?_
  rintro _ _ ⟨rfl, rfl⟩
  refine NL ?_
  refine ai.mem (aQ := [.blk f [vI (X.cN), vI (X.cB), vI (X.cH), vI (X.cS), vI (X.cZ), .map (some m), vP t, vI (X.last), vI (X.ah + 1), vI (X.used)] 86, .abs (ak (aN (bp X O d name ⟨tk, 2⟩) L)), .abs (ak (bh (bp X O d name ⟨tk, 2⟩) L)), .abs (aI Tryz.prog 3 m (aM (aJ L (ins (obj O tk).id ⟨tk, 2⟩ idx))) ((ins (obj O tk).id ⟨tk, 2⟩ idx).length)), .abs R]) (fun w hS => by rw [show (ins (obj O tk).id ⟨tk, 2⟩ idx).length = idx.length + 1 from fW _ _ _]; exact hS) ?_
  exact RF (.tuple #[]) [0, 3, 1, 2, 4] (⟨rfl, rfl⟩)
 replace hkt : (obj O tk).kind = 3 := hkt
 replace hni : TabM.get idx (obj O tk).id = none := hni
 replace hw : (Lit.int .i64 (obj O tk).id).wf = true := hw
 refine af.bZ (S := (tj f m t X L idx O R)) [0, 1, 2, 3, 4, 9, 5, 6, 7, 8, 10] 6 [0, 1, 2, 3, 4] (by kernel_rfl) (by kernel_rfl) rfl (by kernel_rfl) ?_
 refine aF.reads (r := 0) (l := [5, 6, 7, 8, 10]) (fr' := (tf f L d name ++ [(3, .iface 93 (vP (L.b tk))), (11, .map (some m)), (12, .iface 93 (vP (L.b tk))), (17, .iface 93 (vP (L.b tk)))])) (aV := [f = f]) [0, 1, 2, 3, 4, 9] [o_, o_, o_, ⟨[.at 0], none, none, none, none⟩, o_, o_] [0, 1, 2, 3, 11, 12, 17] (fun _ => by kernel_rfl) ⟨rfl, trivial⟩ rfl rfl ?_
 refine mL [0, 1, 2, 3, 4] [] (cr (L.b tk)) ?_ (by rintro _ _ ⟨rfl, rfl⟩; rfl)
 rintro _ _ ⟨rfl, rfl⟩
 refine aF.cut (ι := Unit) (fr' := fun (_ : Unit) => (tf f L d name ++ [(3, .iface 93 (vP (L.b tk))), (11, .map (some m)), (14, vP (L.b tk)), (17, .iface 93 (vP (L.b tk)))])) (hp' := fun (_ : Unit) => (tj f m t X L idx O R)) [0, 1, 2, 3, 4] rfl rfl ?_ rfl (fun _ => by kernel_rfl) ?_
 ·refine gK 1 [(14, vP (L.b tk))] [] ?_
  refine NL ?_
  exact MD () [0, 1, 2, 3, 11, 14, 17] [0, 1, 2, 3, 4]
 rintro _
 refine aF.cut (ι := Unit) (fr' := fun (_ : Unit) => (tf f L d name ++ [(3, .iface 93 (vP (L.b tk))), (11, .map (some m)), (15, vP (L.b tk)), (17, .iface 93 (vP (L.b tk)))])) (hp' := fun (_ : Unit) => (tj f m t X L idx O R)) [0, 1, 2, 3, 4] rfl rfl ?_ rfl (fun _ => by kernel_rfl) ?_
 ·refine gK 1 [(15, vP (L.b tk))] [] ?_
  refine NL ?_
  exact MD () [0, 1, 2, 3, 11, 15, 17] [0, 1, 2, 3, 4]
 rintro _
 refine aF.cut (ι := Unit) (fr' := fun (_ : Unit) => (tf f L d name ++ [(3, .iface 93 (vP (L.b tk))), (11, .map (some m)), (16, vI ((obj O tk).id)), (17, .iface 93 (vP (L.b tk)))])) (hp' := fun (_ : Unit) => (tj f m t X L idx O R)) [0, 1, 2, 3, 4] rfl rfl ?_ rfl (fun _ => by kernel_rfl) ?_
 ·refine gK 1 [(16, vI ((obj O tk).id))] [(0, v_ 2 (zm L hkt))] ?_
  refine NL ?_
  exact MD () [0, 1, 2, 3, 11, 16, 17] [0, 1, 2, 3, 4]
 rintro _
 refine aF.last rfl rfl ?_
 refine aj.jY 1 (d := none) (t := 80) (K := 3) (E := 84) (b := m) (n := idx.length) (f := (aM (aJ L idx))) (x := (.tmp 11)) (ix := (.tmp 16)) (y := (.tmp 17)) (key := .int .i64 ((obj O tk).id)) (u := .iface 93 (vP (L.b tk))) (kl := (.int .i64 (obj O tk).id)) (n' := (idx.length + 1)) (f' := (aM (aJ L (ins (obj O tk).id ⟨tk, 3⟩ idx)))) (fun _ => by kernel_rfl) (by kernel_rfl) (fun _ => by kernel_rfl) (fun _ => by kernel_rfl) (fun _ => by kernel_rfl) dF Tryz.underlying80 (by unfold maxLen; omega) (gE hw) (by rw [dN, hni]; rfl) (o3 (L := L) (t := ⟨tk, 3⟩) hni) ?_
 refine NL (ai.np (NX (af.region ?_)))
 refine gK 4 (LY f L d name ++ [(21, .iface 93 (vP (L.b tk)))]) [] ?_
 refine gL [0, 2, 3] (fQ X f m t hX O L d hkd name hsz hno hel ⟨tk, 3⟩ hkt (by simp) hb) ?_
 rintro _ _ ⟨rfl, rfl⟩
 refine NL ?_
 refine ai.mem (aQ := [.blk f [vI (X.cN), vI (X.cB), vI (X.cH), vI (X.cS), vI (X.cZ), .map (some m), vP t, vI (X.last), vI (X.ah + 1), vI (X.used)] 86, .abs (ak (aN (bp X O d name ⟨tk, 3⟩) L)), .abs (ak (bh (bp X O d name ⟨tk, 3⟩) L)), .abs (aI Tryz.prog 3 m (aM (aJ L (ins (obj O tk).id ⟨tk, 3⟩ idx))) ((ins (obj O tk).id ⟨tk, 3⟩ idx).length)), .abs R]) (fun w hS => by rw [show (ins (obj O tk).id ⟨tk, 3⟩ idx).length = idx.length + 1 from fW _ _ _]; exact hS) ?_
 exact RF (.tuple #[]) [0, 3, 1, 2, 4] (⟨rfl, rfl⟩)
end
section
open Go.RowKit Go.Maps HeapM TabM
attribute [local irreducible] aj aS af ai
abbrev yc (f : Nat) (m : Nat) (t) (S : aE) := (pF f m t { S.X with last := S.X.last + 1 } : HP)
abbrev JS (S : aE) (text) (L2 : HL) := (pO (av S.O (aC S.X) (fun _ => { aA S.X 3 511 with target := text })) L2 : HP)
abbrev Ma (S : aE) (text) (L2 : HL) := (pE (av S.O (aC S.X) (fun _ => { aA S.X 3 511 with target := text })) L2 : HP)
abbrev NV (S : aE) (mode) (L2 : HL) (f : Nat) (m : Nat) (t) (L : HL) := ([pE (av S.O (aC S.X) (fun _ => (aA S.X 2 mode))) L2, pO (av S.O (aC S.X) (fun _ => (aA S.X 2 mode))) L2, yc f m t S, pI m L S.idx, pT t S.X.cH S.aq L S.us] : List HP)
theorem oO {β : Bs} (S : aE) (L : HL) (f m t : Nat) (hI : Inv0 S) (d : Nat) (hd : Live S.idx ⟨d, 2⟩) (name : ByteArray) (hsz : name.size ≤ 1048576) (hno : aR name (obj S.O d).ah = none) (o : aO) (hid : o.id = S.X.last + 1) (hk3 : o.kind = 1 ∨ o.kind = 2 ∨ o.kind = 3) (hl0 : o.links = 0) (hlast : S.X.last < 1099511627776) :
    Spec Tryz.prog β 56 #[vP f, vP (L.b d), .string name, cF L ⟨(aC S.X), o.kind⟩] [yc f m t S, pI m L S.idx, pO (av S.O (aC S.X) (fun _ => o)) L, pE (av S.O (aC S.X) (fun _ => o)) L] (fun v l => v = .tuple #[] ∧ l = [pF f m t ((bC S d name o).X), pI m L ((bC S d name o).idx), pO ((bC S d name o).O) L, pE ((bC S d name o).O) L]) := by
  have hX := hI.hX
  have hne : d ≠ (aC S.X) := hI.rF hd
  have hkd : (obj S.O d).kind = 2 := hI.kind hd
  have hel : (obj S.O d).ah.length ≤ 8192 := hI.eG hd
  have hlen := hI.len
  have e1 : obj (av S.O (aC S.X) (fun _ => o)) (aC S.X) = o := bE
  have e2 : obj (av S.O (aC S.X) (fun _ => o)) d = obj S.O d := bS hne
  have hnk := mV hI
  have h := Kx (β := β) { S.X with last := S.X.last + 1 } f m t (by simp only; omega) (av S.O (aC S.X) (fun _ => o)) L d (by rw [e2]; exact hkd) name hsz (by rw [e2]; exact hno) (by rw [e2]; omega) S.idx (by omega) ⟨(aC S.X), o.kind⟩ (by rw [e1]) hk3 (by rw [e1, hl0]; decide) (by
    rw [e1, hid]
    cases e : TabM.get S.idx (S.X.last + 1) with
    | none => rfl
    | some u => have := (hI.idx _ u e).2.2; omega) (by rw [e1, hid]; exact WalkArith.wf_i64 (by have := hI.last; omega))
  rw [e1, hid] at h
  exact h
theorem Ap {β : Bs} (S : aE) (L : HL) (f m t : Nat) (hI : Inv S) (d : Nat) (hd : Live S.idx ⟨d, 2⟩) (name : ByteArray) (hsz : name.size ≤ 1048576) (mode : Int) :
    Spec Tryz.prog β 58 #[vP f, vP (L.b d), .string name, vI (mode)] (pA f m t L S) (fun v l => ∃ L2, v = vI (mkdirM S d name mode).1 ∧ l = (pA f m t L2 ((mkdirM S d name mode).2))) := by
 have hX := hI.hX
 have hel : (obj S.O d).ah.length ≤ 8192 := hI.eG hd
 have hkd : (obj S.O d).kind = 2 := hI.kind hd
 refine Spec.enter Tryz.func58 rfl Tryz.ntmps58 (Nat.le_of_ble_eq_true rfl) (fun R => ?_)
 refine SR ?_
 refine gK 1 [] [] ?_
 refine NS ?_
 refine gK 3 [(10, vP f), (11, vP (L.b d)), (12, .string name)] [] ?_
 refine gL [0, 1, 5, 3] (qB S L f m t hI d hd name hsz) ?_
 rintro _ _ ⟨rfl, rfl⟩
 refine gK 1 [(9, vI ((bN S.X S.O S.idx d name)))] [] ?_
 refine NN (af.seq (SR ?_))
 refine gK 2 [(15, .bool (decide (((bN S.X S.O S.idx d name) : Int) = (0 : Int))))] [] ?_
 refine NN ?_
 refine af.bA (p := ((bN S.X S.O S.idx d name) : Int) = (0 : Int)) (fun _ => by kernel_rfl) (fun h0 => ?_) (fun h0 => ?_)
 ·have hno := lV h0
  refine af.region ?_
  refine gK 5 [(16, vP f), (17, vP (L.b d)), (18, .string name), (19, vP f), (20, vI (mode))] [] ?_
  refine gL [0] (qA S.X f m t hX mode) ?_
  rintro _ _ ⟨rfl, rfl⟩
  refine aj.lJ (d := (some 22)) (t := 97) (fun _ => by kernel_rfl) Tryz.prog rfl 9 (fun m1 => ?_)
  refine gN 3 (fun b2 => [(25, .iface 96 (vP b2))]) (fun _ => []) (fun _ => []) (fun b2 => .blk b2 [vI (S.X.last + 1), vI (mode), vI 0, vI 0, vI (S.X.cS), vI (S.X.cZ), vI 0, vI 0, .bool false, .map (some m1), .pointer none] 99) (fun b2 => ?_)
  obtain ⟨L2, hL2⟩ : ∃ L2 : HL, L2 = L.put (aC S.X) b2 m1 none 0 := ⟨_, rfl⟩
  have hfr := hI.toInv0.fresh
  refine aj.mem (aQ := [.abs (ak (aN (av S.O (aC S.X) (fun _ => (aA S.X 2 mode))) L2)), .blk f [vI (S.X.cN), vI (S.X.cB), vI (S.X.cH), vI (S.X.cS), vI (S.X.cZ), .map (some m), vP t, vI (S.X.last + 1), vI (S.X.ah), vI (S.X.used)] 86, .abs (aI Tryz.prog 3 m (aM (aJ L S.idx)) S.idx.length), .abs (ak (bh S.O L)), .abs (aX 156 t S.X.cH S.aq (aJ L S.us)), .abs (ak (aY S.O L)), .abs R, .abs (aI Tryz.prog 9 m1 (fun _ => none) 0)]) (fun w hS => hS.qy hL2 hfr (o := (aA S.X 2 mode)) (i := 3) (j := 8) (ix := [0, 1, 2, 4, 5, 6, 7]) rfl rfl (by kernel_rfl) rfl (by show (2 : Int) ≠ 0; decide) ((gD (L := L2) (k := (aC S.X)) (o := (aA S.X 2 mode)) rfl).trans (by rw [Ci hL2]; rfl)) rfl) ?_
  refine aj.mem (aQ := (NV S mode L2 f m t L ++ [pD S.O L, .abs R])) (fun w hS => hS.JI hL2 hfr (o := (aA S.X 2 mode)) (i := 3) (j := 7) (ix := [0, 1, 2, 4, 5, 6]) rfl rfl (by kernel_rfl) rfl rfl rfl) ?_
  refine aj.mem (aQ := (NV S mode L2 f m t L ++ [pD (av S.O (aC S.X) (fun _ => (aA S.X 2 mode))) L2, .abs R])) (fun w hS => hS.xK hL2 (o := (aA S.X 2 mode)) (i := 5) rfl (by show (2 : Int) ≠ 1; decide)) ?_
  refine aj.mem (aQ := [.abs (ak (bh (av S.O (aC S.X) (fun _ => (aA S.X 2 mode))) L2)), .abs (ak (aN (av S.O (aC S.X) (fun _ => (aA S.X 2 mode))) L2)), .blk f [vI (S.X.cN), vI (S.X.cB), vI (S.X.cH), vI (S.X.cS), vI (S.X.cZ), .map (some m), vP t, vI (S.X.last + 1), vI (S.X.ah), vI (S.X.used)] 86, .abs (aI Tryz.prog 3 m (aM (aJ L2 S.idx)) S.idx.length), .abs (aX 156 t S.X.cH S.aq (aJ L2 S.us)), .abs (ak (aY (av S.O (aC S.X) (fun _ => (aA S.X 2 mode))) L2)), .abs R]) (fun w hS => by rw [eT hL2 hfr.idx, eT hL2 hfr.us]; exact hS) ?_
  refine gL (f := 56) (args := #[vP f, vP (L.b d), .string name, .iface 96 (vP b2)]) (pre := [yc f m t S, pI m L2 S.idx, pO (av S.O (aC S.X) (fun _ => (aA S.X 2 mode))) L2, pE (av S.O (aC S.X) (fun _ => (aA S.X 2 mode))) L2]) [2, 3, 1, 0] ((by have h := oO (β := β) S L2 f m t hI.toInv0 d hd name hsz hno (aA S.X 2 mode) rfl (by simp [aA]) rfl (nC h0); rw [sC hL2 (hI.rF hd), lU hL2] at h; exact h)) ?_
  rintro _ _ ⟨rfl, rfl⟩
  refine NS ?_
  refine aj.mem (aQ := [.blk f [vI ((bC S d name (aA S.X 2 mode)).X.cN), vI ((bC S d name (aA S.X 2 mode)).X.cB), vI ((bC S d name (aA S.X 2 mode)).X.cH), vI ((bC S d name (aA S.X 2 mode)).X.cS), vI ((bC S d name (aA S.X 2 mode)).X.cZ), .map (some m), vP t, vI ((bC S d name (aA S.X 2 mode)).X.last), vI ((bC S d name (aA S.X 2 mode)).X.ah), vI ((bC S d name (aA S.X 2 mode)).X.used)] 86, .abs (aI Tryz.prog 3 m (aM (aJ L2 (bC S d name (aA S.X 2 mode)).idx)) ((bC S d name (aA S.X 2 mode)).idx.length)), .abs (ak (aN ((bC S d name (aA S.X 2 mode)).O) L2)), .abs (ak (bh ((bC S d name (aA S.X 2 mode)).O) L2)), .abs (aX 156 t S.X.cH S.aq (aJ L2 S.us)), .abs (ak (aY ((bC S d name (aA S.X 2 mode)).O) L2)), .abs R]) (fun w hS => by rw [show aY ((bC S d name (aA S.X 2 mode)).O) L2 = aY (av S.O (aC S.X) (fun _ => (aA S.X 2 mode))) L2 from fC]; exact hS) ?_
  refine gK 2 [(8, vI ((bN S.X S.O S.idx d name)))] [] ?_
  refine NN (af.ret ?_)
  exact RT (vI ((bN S.X S.O S.idx d name))) [0, 1, 4, 2, 5, 3, 6] (⟨L2, by rw [show mkdirM S d name mode = _ from if_pos h0]; refine ⟨congrArg _ h0, ?_⟩; rfl⟩)
 refine af.skip (NX (SR ?_))
 refine gK 2 [(8, vI ((bN S.X S.O S.idx d name)))] [] ?_
 refine NN (af.ret ?_)
 exact RT (vI ((bN S.X S.O S.idx d name))) [0, 1, 4, 3, 5, 2, 6] (⟨L, by rw [show mkdirM S d name mode = _ from if_neg h0] <;> exact ⟨rfl, rfl⟩⟩)
theorem vJ {β : Bs} (S : aE) (L : HL) (f m t : Nat) (hI : Inv S) (d : Nat) (hd : Live S.idx ⟨d, 2⟩) (name : ByteArray) (hsz : name.size ≤ 1048576) (text : ByteArray) (JT : text.size ≤ 1048576) :
    Spec Tryz.prog β 59 #[vP f, vP (L.b d), .string name, .string text] (pA f m t L S) (fun v l => ∃ L2, v = vI (symlinkM S d name text).1 ∧ l = (pA f m t L2 ((symlinkM S d name text).2))) := by
 have hX := hI.hX
 have hel : (obj S.O d).ah.length ≤ 8192 := hI.eG hd
 have hkd : (obj S.O d).kind = 2 := hI.kind hd
 refine Spec.enter Tryz.func59 rfl Tryz.ntmps59 (Nat.le_of_ble_eq_true rfl) (fun R => ?_)
 refine SR ?_
 refine gK 1 [] [] ?_
 refine NS ?_
 refine gK 1 [(10, .string text)] [] ?_
 refine gL [] (Kw text JT) ?_
 rintro _ _ ⟨rfl, rfl⟩
 refine gK 1 [(9, vI ((kJ text)))] [] ?_
 refine NN (af.seq (SR ?_))
 refine gK 2 [(13, .bool (decide (((kJ text) : Int) = (0 : Int))))] [] ?_
 refine NN ?_
 refine af.bA (p := ((kJ text) : Int) = (0 : Int)) (fun _ => by kernel_rfl) (fun hb => ?_) (fun hb => ?_)
 ·refine af.region ?_
  refine gK 3 [(14, vP f), (15, vP (L.b d)), (16, .string name)] [] ?_
  refine gL [0, 1, 5, 3] (qB S L f m t hI d hd name hsz) ?_
  rintro _ _ ⟨rfl, rfl⟩
  refine gK 1 [(9, vI ((bN S.X S.O S.idx d name)))] [] ?_
  refine NN (af.seq (SR ?_))
  refine gK 2 [(19, .bool (decide (((bN S.X S.O S.idx d name) : Int) = (0 : Int))))] [] ?_
  refine NN ?_
  refine af.bA (p := ((bN S.X S.O S.idx d name) : Int) = (0 : Int)) (fun _ => by kernel_rfl) (fun h0 => ?_) (fun h0 => ?_)
  ·have hno := lV h0
   refine af.region ?_
   refine gK 4 [(20, vP f), (21, vP (L.b d)), (22, .string name), (23, vP f)] [] ?_
   refine gL [0] (qA S.X f m t hX 511) ?_
   rintro _ _ ⟨rfl, rfl⟩
   refine gN 4 (fun b3 => [(28, .iface 93 (vP b3))]) (fun _ => []) (fun _ => []) (fun b3 => .blk b3 [vI (S.X.last + 1), vI (511), vI 0, vI 0, vI (S.X.cS), vI (S.X.cZ), vI 0, vI 0, .bool false, .string text] 95) (fun b3 => ?_)
   obtain ⟨L2, hL2⟩ : ∃ L2 : HL, L2 = L.put (aC S.X) b3 0 none 0 := ⟨_, rfl⟩
   have hfr := hI.toInv0.fresh
   refine aj.mem (aQ := [JS S text L2, yc f m t S, pI m L S.idx, pE S.O L, pT t S.X.cH S.aq L S.us, pD S.O L, .abs R]) (fun w hS => hS.qy hL2 hfr (o := { aA S.X 3 511 with target := text }) (i := 3) (j := 7) (ix := [0, 1, 2, 4, 5, 6]) rfl rfl (by kernel_rfl) rfl (by show (3 : Int) ≠ 0; decide) ((tQ (L := L2) (k := (aC S.X)) (o := { aA S.X 3 511 with target := text }) rfl).trans (by rfl)) rfl) ?_
   refine aj.mem (aQ := [JS S text L2, yc f m t S, pI m L S.idx, Ma S text L2, pT t S.X.cH S.aq L S.us, pD S.O L, .abs R]) (fun w hS => hS.rG hL2 hfr (o := { aA S.X 3 511 with target := text }) (i := 3) rfl (by show (3 : Int) ≠ 2; decide)) ?_
   refine aj.mem (aQ := [JS S text L2, yc f m t S, pI m L S.idx, Ma S text L2, pT t S.X.cH S.aq L S.us, pD (av S.O (aC S.X) (fun _ => { aA S.X 3 511 with target := text })) L2, .abs R]) (fun w hS => hS.xK hL2 (o := { aA S.X 3 511 with target := text }) (i := 5) rfl (by show (3 : Int) ≠ 1; decide)) ?_
   refine aj.mem (aQ := [.abs (ak (aN (av S.O (aC S.X) (fun _ => { aA S.X 3 511 with target := text })) L2)), .blk f [vI (S.X.cN), vI (S.X.cB), vI (S.X.cH), vI (S.X.cS), vI (S.X.cZ), .map (some m), vP t, vI (S.X.last + 1), vI (S.X.ah), vI (S.X.used)] 86, .abs (aI Tryz.prog 3 m (aM (aJ L2 S.idx)) S.idx.length), .abs (ak (bh (av S.O (aC S.X) (fun _ => { aA S.X 3 511 with target := text })) L2)), .abs (aX 156 t S.X.cH S.aq (aJ L2 S.us)), .abs (ak (aY (av S.O (aC S.X) (fun _ => { aA S.X 3 511 with target := text })) L2)), .abs R]) (fun w hS => by rw [eT hL2 hfr.idx, eT hL2 hfr.us]; exact hS) ?_
   refine gL (f := 56) (args := #[vP f, vP (L.b d), .string name, .iface 93 (vP b3)]) (pre := [yc f m t S, pI m L2 S.idx, JS S text L2, Ma S text L2]) [1, 2, 0, 3] ((by have h := oO (β := β) S L2 f m t hI.toInv0 d hd name hsz hno { aA S.X 3 511 with target := text } rfl (by simp [aA]) rfl (nC h0); rw [sC hL2 (hI.rF hd), lU hL2] at h; exact h)) ?_
   rintro _ _ ⟨rfl, rfl⟩
   refine NS ?_
   refine aj.mem (aQ := [.blk f [vI ((bC S d name { aA S.X 3 511 with target := text }).X.cN), vI ((bC S d name { aA S.X 3 511 with target := text }).X.cB), vI ((bC S d name { aA S.X 3 511 with target := text }).X.cH), vI ((bC S d name { aA S.X 3 511 with target := text }).X.cS), vI ((bC S d name { aA S.X 3 511 with target := text }).X.cZ), .map (some m), vP t, vI ((bC S d name { aA S.X 3 511 with target := text }).X.last), vI ((bC S d name { aA S.X 3 511 with target := text }).X.ah), vI ((bC S d name { aA S.X 3 511 with target := text }).X.used)] 86, .abs (aI Tryz.prog 3 m (aM (aJ L2 (bC S d name { aA S.X 3 511 with target := text }).idx)) ((bC S d name { aA S.X 3 511 with target := text }).idx.length)), .abs (ak (aN ((bC S d name { aA S.X 3 511 with target := text }).O) L2)), .abs (ak (bh ((bC S d name { aA S.X 3 511 with target := text }).O) L2)), .abs (aX 156 t S.X.cH S.aq (aJ L2 S.us)), .abs (ak (aY ((bC S d name { aA S.X 3 511 with target := text }).O) L2)), .abs R]) (fun w hS => by rw [show aY ((bC S d name { aA S.X 3 511 with target := text }).O) L2 = aY (av S.O (aC S.X) (fun _ => { aA S.X 3 511 with target := text })) L2 from fC]; exact hS) ?_
   refine gK 2 [(8, vI ((bN S.X S.O S.idx d name)))] [] ?_
   refine NN (af.ret ?_)
   exact RT (vI ((bN S.X S.O S.idx d name))) [0, 1, 4, 2, 5, 3, 6] (⟨L2, by rw [show symlinkM S d name text = _ from (if_pos hb).trans (if_pos h0)]; refine ⟨congrArg _ h0, ?_⟩; rfl⟩)
  refine af.skip (NX (SR ?_))
  refine gK 2 [(8, vI ((bN S.X S.O S.idx d name)))] [] ?_
  refine NN (af.ret ?_)
  exact RT (vI ((bN S.X S.O S.idx d name))) [0, 1, 4, 3, 5, 2, 6] (⟨L, by rw [show symlinkM S d name text = _ from (if_pos hb).trans (if_neg h0)] <;> exact ⟨rfl, rfl⟩⟩)
 refine af.skip (NX (af.seq (SR ?_)))
 refine gK 2 [(19, .bool (decide (((kJ text) : Int) = (0 : Int))))] [] ?_
 refine NN ?_
 refine af.bA (p := ((kJ text) : Int) = (0 : Int)) (fun _ => by kernel_rfl) (fun h0 => ?_) (fun h0 => ?_)
 ·exact absurd h0 hb
 refine af.skip (NX (SR ?_))
 refine gK 2 [(8, vI ((kJ text)))] [] ?_
 refine NN (af.ret ?_)
 exact RT (vI ((kJ text))) [0, 1, 2, 3, 4, 5, 6] (⟨L, by rw [show symlinkM S d name text = _ from if_neg hb] <;> exact ⟨rfl, rfl⟩⟩)
theorem ye {β : Bs} (S : aE) (L : HL) (f m t : Nat) (hI : Inv S) (d : Nat) (hd : Live S.idx ⟨d, 2⟩) (name : ByteArray) (hsz : name.size ≤ 1048576) :
    Spec Tryz.prog β 60 #[vP f, vP (L.b d), .string name] (pA f m t L S) (fun v l => ∃ L2, v = vI (unlinkM S d name).1 ∧ l = (pA f m t L2 ((unlinkM S d name).2))) := by
 have hX := hI.hX
 have hel : (obj S.O d).ah.length ≤ 8192 := hI.eG hd
 have hkd : (obj S.O d).kind = 2 := hI.kind hd
 refine Spec.enter Tryz.func60 rfl Tryz.ntmps60 (Nat.le_of_ble_eq_true rfl) (fun R => ?_)
 refine af.seq ?_
 rcases hI.jS hd name with hlk | ⟨tk, hlk, hlv⟩ | ⟨tk, hlk, hlv⟩ | ⟨tk, hlk, hlv⟩
 ·refine af.region ?_
  refine gK 1 [] [] ?_
  refine NN (af.seq (SR ?_))
  refine gK 5 [(10, .map (some (L.m d))), (11, .string name)] [(3, v_ 3 (bw L hkd))] ?_
  refine fM 5 hkd hlk ?_
  refine NN (af.block (SR ?_))
  refine gK 1 [(13, .bool true)] [] ?_
  refine NN ?_
  refine CT ?_
  refine SR ?_
  refine gK 1 [(6, vI 170)] [] ?_
  refine NN (af.ret (ai.aH (ai.ar ?_)))
  exact RT (vI 170) [0, 1, 2, 3, 4, 5, 6] (⟨L, by rw [show unlinkM S d name = (170, S) by unfold unlinkM; rw [hlk]] <;> exact ⟨rfl, rfl⟩⟩)
 ·have hkt : (obj S.O tk).kind = 1 := hI.kind hlv
  refine af.region ?_
  refine gK 1 [] [] ?_
  refine NN (af.seq (SR ?_))
  refine gK 5 [(10, .map (some (L.m d))), (11, .string name)] [(3, v_ 3 (bw L hkd))] ?_
  refine fM 5 hkd hlk ?_
  refine NN (af.block (SR ?_))
  refine gK 1 [(13, .bool false)] [] ?_
  refine NN ?_
  refine CF ?_
  refine SR ?_
  refine gK 3 [(15, .bool false)] [] ?_
  refine NN ?_
  refine CF ?_
  refine af.skip (ai.aP (NX (SR ?_)))
  refine gK 3 [(17, vP f), (18, vP (L.b d)), (19, .string name)] [] ?_
  refine gL [0, 3, 5, 1] (lu S L f m t hI d hd name hsz ⟨tk, 1⟩ hlk) ?_
  rintro _ _ ⟨rfl, rfl⟩
  refine NS ?_
  refine aj.mem (aQ := [.blk f [vI ((au S d name ⟨tk, 1⟩).X.cN), vI ((au S d name ⟨tk, 1⟩).X.cB), vI ((au S d name ⟨tk, 1⟩).X.cH), vI ((au S d name ⟨tk, 1⟩).X.cS), vI ((au S d name ⟨tk, 1⟩).X.cZ), .map (some m), vP t, vI ((au S d name ⟨tk, 1⟩).X.last), vI ((au S d name ⟨tk, 1⟩).X.ah), vI ((au S d name ⟨tk, 1⟩).X.used)] 86, .abs (ak (aN ((au S d name ⟨tk, 1⟩).O) L)), .abs (ak (bh ((au S d name ⟨tk, 1⟩).O) L)), .abs (aI Tryz.prog 3 m (aM (aJ L ((au S d name ⟨tk, 1⟩).idx))) (((au S d name ⟨tk, 1⟩).idx).length)), .abs (aX 156 t S.X.cH S.aq (aJ L S.us)), .abs (ak (aY ((au S d name ⟨tk, 1⟩).O) L)), .abs R]) (fun w hS => by rw [show aY ((au S d name ⟨tk, 1⟩).O) L = aY S.O L from lq]; exact hS) ?_
  refine gK 1 [(6, vI 0)] [] ?_
  refine NN (af.ret ?_)
  exact RT (vI 0) [0, 3, 4, 1, 5, 2, 6] (⟨L, by rw [show unlinkM S d name = (0, au S d name ⟨tk, 1⟩) by unfold unlinkM; rw [hlk]; exact if_neg (by simp)] <;> exact ⟨rfl, rfl⟩⟩)
 ·have hkt : (obj S.O tk).kind = 2 := hI.kind hlv
  refine af.region ?_
  refine gK 1 [] [] ?_
  refine NN (af.seq (SR ?_))
  refine gK 5 [(10, .map (some (L.m d))), (11, .string name)] [(3, v_ 3 (bw L hkd))] ?_
  refine fM 5 hkd hlk ?_
  refine NN (af.block (SR ?_))
  refine gK 1 [(13, .bool false)] [] ?_
  refine NN ?_
  refine CF ?_
  refine SR ?_
  refine gK 3 [(15, .bool true)] [] ?_
  refine NN ?_
  refine CT ?_
  refine SR ?_
  refine gK 1 [(6, vI 172)] [] ?_
  refine NN (af.ret (ai.aH (ai.ar ?_)))
  exact RT (vI 172) [0, 1, 2, 3, 4, 5, 6] (⟨L, by rw [show unlinkM S d name = (172, S) by unfold unlinkM; rw [hlk]; exact if_pos rfl] <;> exact ⟨rfl, rfl⟩⟩)
 have hkt : (obj S.O tk).kind = 3 := hI.kind hlv
 refine af.region ?_
 refine gK 1 [] [] ?_
 refine NN (af.seq (SR ?_))
 refine gK 5 [(10, .map (some (L.m d))), (11, .string name)] [(3, v_ 3 (bw L hkd))] ?_
 refine fM 5 hkd hlk ?_
 refine NN (af.block (SR ?_))
 refine gK 1 [(13, .bool false)] [] ?_
 refine NN ?_
 refine CF ?_
 refine SR ?_
 refine gK 3 [(15, .bool false)] [] ?_
 refine NN ?_
 refine CF ?_
 refine af.skip (ai.aP (NX (SR ?_)))
 refine gK 3 [(17, vP f), (18, vP (L.b d)), (19, .string name)] [] ?_
 refine gL [0, 3, 5, 1] (lu S L f m t hI d hd name hsz ⟨tk, 3⟩ hlk) ?_
 rintro _ _ ⟨rfl, rfl⟩
 refine NS ?_
 refine aj.mem (aQ := [.blk f [vI ((au S d name ⟨tk, 3⟩).X.cN), vI ((au S d name ⟨tk, 3⟩).X.cB), vI ((au S d name ⟨tk, 3⟩).X.cH), vI ((au S d name ⟨tk, 3⟩).X.cS), vI ((au S d name ⟨tk, 3⟩).X.cZ), .map (some m), vP t, vI ((au S d name ⟨tk, 3⟩).X.last), vI ((au S d name ⟨tk, 3⟩).X.ah), vI ((au S d name ⟨tk, 3⟩).X.used)] 86, .abs (ak (aN ((au S d name ⟨tk, 3⟩).O) L)), .abs (ak (bh ((au S d name ⟨tk, 3⟩).O) L)), .abs (aI Tryz.prog 3 m (aM (aJ L ((au S d name ⟨tk, 3⟩).idx))) (((au S d name ⟨tk, 3⟩).idx).length)), .abs (aX 156 t S.X.cH S.aq (aJ L S.us)), .abs (ak (aY ((au S d name ⟨tk, 3⟩).O) L)), .abs R]) (fun w hS => by rw [show aY ((au S d name ⟨tk, 3⟩).O) L = aY S.O L from lq]; exact hS) ?_
 refine gK 1 [(6, vI 0)] [] ?_
 refine NN (af.ret ?_)
 exact RT (vI 0) [0, 3, 4, 1, 5, 2, 6] (⟨L, by rw [show unlinkM S d name = (0, au S d name ⟨tk, 3⟩) by unfold unlinkM; rw [hlk]; exact if_neg (by simp)] <;> exact ⟨rfl, rfl⟩⟩)
theorem Aq {β : Bs} (S : aE) (L : HL) (f m t : Nat) (hI : Inv S) (d : Nat) (hd : Live S.idx ⟨d, 2⟩) (name : ByteArray) (hsz : name.size ≤ 1048576) :
    Spec Tryz.prog β 61 #[vP f, vP (L.b d), .string name] (pA f m t L S) (fun v l => ∃ L2, v = vI (rmdirM S d name).1 ∧ l = (pA f m t L2 ((rmdirM S d name).2))) := by
 have hX := hI.hX
 have hel : (obj S.O d).ah.length ≤ 8192 := hI.eG hd
 have hkd : (obj S.O d).kind = 2 := hI.kind hd
 refine Spec.enter Tryz.func61 rfl Tryz.ntmps61 (Nat.le_of_ble_eq_true rfl) (fun R => ?_)
 refine af.seq ?_
 rcases hI.jS hd name with hlk | ⟨tk, hlk, hlv⟩ | ⟨tk, hlk, hlv⟩ | ⟨tk, hlk, hlv⟩
 ·refine af.region ?_
  refine gK 1 [] [] ?_
  refine NS ?_
  refine gK 5 [(13, .map (some (L.m d))), (14, .string name)] [(3, v_ 3 (bw L hkd))] ?_
  refine fM 5 hkd hlk ?_
  refine gK 1 [(7, .nilIface)] [] ?_
  refine NN (af.seq (SR ?_))
  refine gK 2 [(17, .bool true)] [] ?_
  refine NN ?_
  refine CT ?_
  refine SR ?_
  refine gK 1 [(6, vI 170)] [] ?_
  refine NN (af.ret (ai.ar ?_))
  exact RT (vI 170) [0, 1, 2, 3, 4, 5, 6] (⟨L, by skip; rw [show rmdirM S d name = (170, S) by unfold rmdirM; rw [hlk]] <;> exact ⟨rfl, rfl⟩⟩)
 ·have hkt : (obj S.O tk).kind = 1 := hI.kind hlv
  refine af.region ?_
  refine gK 1 [] [] ?_
  refine NS ?_
  refine gK 5 [(13, .map (some (L.m d))), (14, .string name)] [(3, v_ 3 (bw L hkd))] ?_
  refine fM 5 hkd hlk ?_
  refine gK 1 [(7, .iface 89 (vP (L.b tk)))] [] ?_
  refine NN (af.seq (SR ?_))
  refine gK 2 [(17, .bool false)] [] ?_
  refine NN ?_
  refine CF ?_
  refine af.skip (NX (SR ?_))
  refine gK 7 [(8, .pointer none), (9, .bool false)] [] ?_
  refine NN (af.seq (SR ?_))
  refine gK 2 [(24, .bool true)] [] ?_
  refine NN ?_
  refine CT ?_
  refine SR ?_
  refine gK 1 [(6, vI 173)] [] ?_
  refine NN (af.ret (ai.ar ?_))
  exact RT (vI 173) [0, 1, 2, 3, 4, 5, 6] (⟨L, by skip; rw [show rmdirM S d name = (173, S) by unfold rmdirM; rw [hlk]; exact if_neg (by simp)] <;> exact ⟨rfl, rfl⟩⟩)
 ·have hkt : (obj S.O tk).kind = 2 := hI.kind hlv
  have QE : (obj S.O tk).ah.length ≤ 8192 := hI.eG hlv
  refine af.region ?_
  refine gK 1 [] [] ?_
  refine NS ?_
  refine gK 5 [(13, .map (some (L.m d))), (14, .string name)] [(3, v_ 3 (bw L hkd))] ?_
  refine fM 5 hkd hlk ?_
  refine gK 1 [(7, .iface 96 (vP (L.b tk)))] [] ?_
  refine NN (af.seq (SR ?_))
  refine gK 2 [(17, .bool false)] [] ?_
  refine NN ?_
  refine CF ?_
  refine af.skip (NX (SR ?_))
  refine gK 7 [(8, vP (L.b tk)), (9, .bool true)] [] ?_
  refine NN (af.seq (SR ?_))
  refine gK 2 [(24, .bool false)] [] ?_
  refine NN ?_
  refine CF ?_
  refine af.skip (NX (af.seq (SR ?_)))
  refine gK 4 [(28, .map (some (L.m tk)))] [(3, v_ 3 (bw L hkt))] ?_
  refine PF 5 hkt ?_
  refine gK 1 [(30, .bool (decide (((((obj S.O tk).ah.length : Nat) : Int) : Int) > (0 : Int))))] [] ?_
  refine NN ?_
  refine af.bA (p := ((((obj S.O tk).ah.length : Nat) : Int) : Int) > (0 : Int)) (fun _ => by kernel_rfl) (fun j9 => ?_) (fun j9 => ?_)
  ·refine SR ?_
   refine gK 1 [(6, vI 178)] [] ?_
   refine NN (af.ret (ai.ar ?_))
   exact RT (vI 178) [0, 1, 2, 3, 4, 5, 6] (⟨L, by skip; rw [show rmdirM S d name = (178, S) by unfold rmdirM; rw [hlk]; exact (if_pos rfl).trans (if_neg (fun e => by rw [show (obj S.O tk).ah = [] from e] at j9; simp at j9))] <;> exact ⟨rfl, rfl⟩⟩)
  refine af.skip (NX (SR ?_))
  refine gK 3 [(31, vP f), (32, vP (L.b d)), (33, .string name)] [] ?_
  refine gL [0, 3, 5, 1] (lu S L f m t hI d hd name hsz ⟨tk, 2⟩ hlk) ?_
  rintro _ _ ⟨rfl, rfl⟩
  refine NS ?_
  refine aj.mem (aQ := [.blk f [vI ((au S d name ⟨tk, 2⟩).X.cN), vI ((au S d name ⟨tk, 2⟩).X.cB), vI ((au S d name ⟨tk, 2⟩).X.cH), vI ((au S d name ⟨tk, 2⟩).X.cS), vI ((au S d name ⟨tk, 2⟩).X.cZ), .map (some m), vP t, vI ((au S d name ⟨tk, 2⟩).X.last), vI ((au S d name ⟨tk, 2⟩).X.ah), vI ((au S d name ⟨tk, 2⟩).X.used)] 86, .abs (ak (aN ((au S d name ⟨tk, 2⟩).O) L)), .abs (ak (bh ((au S d name ⟨tk, 2⟩).O) L)), .abs (aI Tryz.prog 3 m (aM (aJ L ((au S d name ⟨tk, 2⟩).idx))) (((au S d name ⟨tk, 2⟩).idx).length)), .abs (aX 156 t S.X.cH S.aq (aJ L S.us)), .abs (ak (aY ((au S d name ⟨tk, 2⟩).O) L)), .abs R]) (fun w hS => by rw [show aY ((au S d name ⟨tk, 2⟩).O) L = aY S.O L from lq]; exact hS) ?_
  have ud : (obj (au S d name ⟨tk, 2⟩).O d).kind = 2 := (xJ).trans (hkd)
  have uf : (obj (au S d name ⟨tk, 2⟩).O tk).kind = 2 := (xJ).trans (hkt)
  generalize bO : (au S d name ⟨tk, 2⟩).O = bH at ud uf ⊢
  refine gK 3 [(37, .pointer (some ⟨(L.b tk), 10, none⟩))] [] ?_
  refine NU 1 [(2, 1), (5, 2)] tk (none) uf (fun cW cu => ?_)
  have IQ := ku cu ud
  have EO := ku cu uf
  refine NS ?_
  refine gK 1 [(6, vI 0)] [] ?_
  refine NN (af.ret ?_)
  exact RT (l := [pF f m t ((au S d name ⟨tk, 2⟩).X), pI m L ((au S d name ⟨tk, 2⟩).idx), pT t S.X.cH S.aq L S.us, pO cW L, pD cW L, pE cW L]) (.int .i64 0) [0, 3, 4, 1, 5, 2, 6] (⟨L, by subst cu; subst bO; rw [show rmdirM S d name = (0, { au S d name ⟨tk, 2⟩ with O := orphan (au S d name ⟨tk, 2⟩).O tk }) by unfold rmdirM; rw [hlk]; exact (if_pos rfl).trans (if_pos (List.eq_nil_of_length_eq_zero (by show (obj S.O tk).ah.length = 0; omega)))] <;> exact ⟨rfl, rfl⟩⟩)
 have hkt : (obj S.O tk).kind = 3 := hI.kind hlv
 refine af.region ?_
 refine gK 1 [] [] ?_
 refine NS ?_
 refine gK 5 [(13, .map (some (L.m d))), (14, .string name)] [(3, v_ 3 (bw L hkd))] ?_
 refine fM 5 hkd hlk ?_
 refine gK 1 [(7, .iface 93 (vP (L.b tk)))] [] ?_
 refine NN (af.seq (SR ?_))
 refine gK 2 [(17, .bool false)] [] ?_
 refine NN ?_
 refine CF ?_
 refine af.skip (NX (SR ?_))
 refine gK 7 [(8, .pointer none), (9, .bool false)] [] ?_
 refine NN (af.seq (SR ?_))
 refine gK 2 [(24, .bool true)] [] ?_
 refine NN ?_
 refine CT ?_
 refine SR ?_
 refine gK 1 [(6, vI 173)] [] ?_
 refine NN (af.ret (ai.ar ?_))
 exact RT (vI 173) [0, 1, 2, 3, 4, 5, 6] (⟨L, by skip; rw [show rmdirM S d name = (173, S) by unfold rmdirM; rw [hlk]; exact if_neg (by simp)] <;> exact ⟨rfl, rfl⟩⟩)
end
section
open Go.RowKit Go.Maps HeapM TabM
attribute [local irreducible] aj aS af ai
abbrev Cv (f : Nat) (L : HL) (d : Nat) (name) := ([(61, vP f), (62, vP (L.b d)), (63, .string name)] : Fr)
abbrev Cw (f : Nat) (L : HL) (to : Nat) (toName) := ([(65, vP f), (66, vP (L.b to)), (67, .string toName)] : Fr)
abbrev JU (f : Nat) (L : HL) (d : Nat) (name) (to : Nat) (toName) := ([(0, vP f), (1, vP (L.b d)), (2, .string name), (3, vP (L.b to)), (4, .string toName)] : Fr)
abbrev tq (L : HL) (to : Nat) (toName) := ([(45, .map (some (L.m to))), (46, .string toName)] : Fr)
abbrev JV (f : Nat) (L : HL) (to : Nat) (toName) := ([(57, vP f), (58, vP (L.b to)), (59, .string toName)] : Fr)
abbrev JW (L : HL) (to : Nat) := ([(12, .pointer none), (13, .bool false), (14, vP (L.b to))] : Fr)
theorem yg {β : Bs} (S : aE) (L : HL) (f m t : Nat) (hI : Inv S) (d : Nat) (hd : Live S.idx ⟨d, 2⟩) (name : ByteArray) (hsz : name.size ≤ 1048576) (to : Nat) (hto : Live S.idx ⟨to, 2⟩) (toName : ByteArray) (mz : toName.size ≤ 1048576) :
    Spec Tryz.prog β 62 #[vP f, vP (L.b d), .string name, vP (L.b to), .string toName] (pA f m t L S) (fun v l => ∃ L2, v = vI (renameM S d name to toName).1 ∧ l = (pA f m t L2 ((renameM S d name to toName).2))) := by
 have hX := hI.hX
 have hel : (obj S.O d).ah.length ≤ 8192 := hI.eG hd
 have hkd : (obj S.O d).kind = 2 := hI.kind hd
 have dg : (obj S.O to).kind = 2 := hI.kind hto
 have Qs : (obj S.O to).ah.length ≤ 8192 := hI.eG hto
 refine Spec.enter Tryz.func62 rfl Tryz.ntmps62 (Nat.le_of_ble_eq_true rfl) (fun R => ?_)
 refine af.seq ?_
 rcases hI.jS hd name with hlk | ⟨tk, hlk, hlv⟩ | ⟨tk, hlk, hlv⟩ | ⟨tk, hlk, hlv⟩
 ·refine af.region ?_
  refine gK 1 [] [] ?_
  refine NS ?_
  refine gK 5 [(19, .map (some (L.m d))), (20, .string name)] [(3, v_ 3 (bw L hkd))] ?_
  refine fM 5 hkd hlk ?_
  refine gK 1 [(11, .nilIface)] [] ?_
  refine NN (af.seq (SR ?_))
  refine gK 2 [(23, .bool true)] [] ?_
  refine NN ?_
  refine CT ?_
  refine SR ?_
  refine gK 1 [(10, vI 170)] [] ?_
  refine NN (af.ret (ai.ar ?_))
  exact RT (vI 170) [0, 1, 2, 3, 4, 5, 6] (⟨L, by rw [show renameM S d name to toName = (170, S) by unfold renameM; rw [hlk]] <;> exact ⟨rfl, rfl⟩⟩)
 ·have hkt : (obj S.O tk).kind = 1 := hI.kind hlv
  refine af.region ?_
  refine gK 1 [] [] ?_
  refine NS ?_
  refine gK 5 [(19, .map (some (L.m d))), (20, .string name)] [(3, v_ 3 (bw L hkd))] ?_
  refine fM 5 hkd hlk ?_
  refine gK 1 [(11, .iface 89 (vP (L.b tk)))] [] ?_
  refine NN (af.seq (SR ?_))
  refine gK 2 [(23, .bool false)] [] ?_
  refine NN ?_
  refine CF ?_
  refine af.skip (NX (SR ?_))
  refine gK 7 [(12, .pointer none), (13, .bool false)] [] ?_
  refine NN (af.seq (SR ?_))
  refine gK 2 [(14, vP (L.b to))] [] ?_
  refine NN (af.block ?_)
  refine af.loop (ι := Unit) (fun (u : Unit) => True) (fun (u : Unit) => 0) (fun (u : Unit) => (JU f L d name to toName ++ [(11, .iface 89 (vP (L.b tk)))] ++ JW L to)) (fun (u : Unit) => ((pA f m t L S) ++ [.abs R])) () (idx := [0, 1, 2, 3, 4, 11, 12, 13, 14]) (pk := [0, 1, 2, 3, 4, 5, 6]) (show True from trivial) (fun _ => by kernel_rfl) rfl (by kernel_rfl) ?_
  rintro u _
  show af _ _ _ _ (JU f L d name to toName ++ [(11, .iface 89 (vP (L.b tk)))] ++ JW L to) ((pA f m t L S) ++ [.abs R]) _
  refine af.seq (SR ?_)
  refine gK 5 [(34, .bool false)] [] ?_
  refine NN ?_
  refine CF ?_
  refine af.exit (ai.bq (ai.bq (ai.cL (NX (af.seq ?_)))))
  skip
  rcases hI.jS hto toName with bg | ⟨ok, bg, dm⟩ | ⟨ok, bg, dm⟩ | ⟨ok, bg, dm⟩
  ·refine af.region ?_
   refine gK 5 (tq L to toName) [(3, v_ 3 (bw L dg))] ?_
   refine fM 5 dg bg ?_
   refine gK 1 [(15, .nilIface)] [] ?_
   refine NN (af.seq (SR ?_))
   refine gK 3 [(50, .bool false)] [] ?_
   refine NN ?_
   refine CF ?_
   refine af.skip (NX (af.seq (SR ?_)))
   refine gK 2 [(52, .bool false)] [] ?_
   refine NN ?_
   refine CF ?_
   refine af.skip (NX (SR ?_))
   have bT : Inv S := hI
   have hd1 := hd
   have dH := hlk
   have mZ := bg
   have iD := hto
   have iF : (obj S.O d).kind = 2 := bT.kind hd1
   have ng : (obj S.O to).kind = 2 := bT.kind iD
   have je : Live S.idx ⟨tk, 1⟩ := (bT.ent hd1 dH).2
   have jf : (obj S.O tk).kind = 1 := bT.kind je
   have zu : (obj S.O d).ah.length ≤ 8192 := bT.eG hd1
   have zw : (obj S.O to).ah.length ≤ 8192 := bT.eG iD
   have ni := bT.lb je
   have jg : tk ≠ d := bT.ne hd1 dH
   refine gK 3 (Cv f L d name) [] ?_
   refine gL [0, 3, 5] (gU S.X f m t bT.hX S.O L d iF name hsz ⟨tk, 1⟩ jf (by simp) dH (bT.twice hd1) (by omega) (by simp only at ni ⊢; omega)) ?_
   rintro _ _ ⟨rfl, rfl⟩
   refine NS ?_
   refine gK 4 (Cw f L to toName ++ [(68, .iface 89 (vP (L.b tk)))]) [] ?_
   refine gL [0, 1, 2] (fQ { S.X with ah := S.X.ah - 1 } f m t (bT.vD hd1 dH) (aL S.X S.O d name ⟨tk, 1⟩) L to (bY.trans ng) toName mz (iN jg mZ) (Nat.le_trans (j6 jg) (by omega)) ⟨tk, 1⟩ (bY.trans jf) (by simp) (iU bT.toInv0 hd1 dH)) ?_
   rintro _ _ ⟨rfl, rfl⟩
   refine NS ?_
   refine aj.mem (aQ := [.blk f [vI (S.X.cN), vI (S.X.cB), vI (S.X.cH), vI (S.X.cS), vI (S.X.cZ), .map (some m), vP t, vI (S.X.last), vI (S.X.ah - 1 + 1), vI (S.X.used)] 86, .abs (ak (aN (bp S.X (aL S.X S.O d name ⟨tk, 1⟩) to toName ⟨tk, 1⟩) L)), .abs (ak (bh (bp S.X (aL S.X S.O d name ⟨tk, 1⟩) to toName ⟨tk, 1⟩) L)), .abs (aI Tryz.prog 3 m (aM (aJ L S.idx)) S.idx.length), .abs (aX 156 t S.X.cH S.aq (aJ L S.us)), .abs (ak (aY (bp S.X (aL S.X S.O d name ⟨tk, 1⟩) to toName ⟨tk, 1⟩) L)), .abs R]) (fun w hS => by rw [show aY (bp S.X (aL S.X S.O d name ⟨tk, 1⟩) to toName ⟨tk, 1⟩) L = aY S.O L from fC.trans iM]; exact hS) ?_
   refine gK 1 [(10, vI 0)] [] ?_
   refine NN (af.ret ?_)
   exact RT (vI 0) [0, 3, 4, 1, 5, 2, 6] (⟨L, by rw [show renameM S d name to toName = (0, kD S d name to toName ⟨tk, 1⟩) by unfold renameM; rw [hlk]; refine (if_neg (fun h => absurd h.1 (by simp))).trans ?_; rw [bg]] <;> exact ⟨rfl, rfl⟩⟩)
  ·have jh : (obj S.O ok).kind = 1 := hI.kind dm
   refine af.region ?_
   refine gK 5 (tq L to toName) [(3, v_ 3 (bw L dg))] ?_
   refine fM 5 dg bg ?_
   refine gK 1 [(15, .iface 89 (vP (L.b ok)))] [] ?_
   refine NN (af.seq (SR ?_))
   refine gK 2 [(48, .iface 89 (vP (L.b ok))), (49, .iface 89 (vP (L.b tk)))] [] ?_
   refine aj.iB (d := (some 50)) (op := .binOp .eql 84 (.tmp 48) (.tmp 49) 84) (v := .bool (decide (ok = tk))) (fun _ => by kernel_rfl) (fun o junk w ho hS => by obtain ⟨F, hF⟩ := hS.get (i := 3) rfl; exact ⟨w, wC LG ho (by kernel_rfl) (by kernel_rfl) (by rw [jh]; decide) (by rw [hkt]; decide) hF, hS⟩) ?_
   refine NN ?_
   refine af.bA (p := ok = tk) (fun _ => by kernel_rfl) (fun h50 => ?_) (fun h50 => ?_)
   ·refine SR ?_
    refine gK 1 [(10, vI 0)] [] ?_
    refine NN (af.ret (ai.ar ?_))
    exact RT (vI 0) [0, 1, 2, 3, 4, 5, 6] (⟨L, by rw [show renameM S d name to toName = (0, S) by unfold renameM; rw [hlk]; refine (if_neg (fun h => absurd h.1 (by simp))).trans ?_; rw [bg]; exact if_pos (by rw [h50])] <;> exact ⟨rfl, rfl⟩⟩)
   refine af.skip (NX (af.seq (SR ?_)))
   refine gK 2 [(52, .bool true)] [] ?_
   refine NN ?_
   refine CT ?_
   refine af.seq (SR ?_)
   refine gK 1 [(53, .iface 89 (vP (L.b ok)))] [] ?_
   refine gL [] (jC (vP (L.b ok))) ?_
   rintro _ _ ⟨rfl, rfl⟩
   refine gK 1 [(55, .bool false)] [] ?_
   refine NN ?_
   refine CF ?_
   refine af.skip (NX (af.seq (SR ?_)))
   refine gK 1 [(56, .bool false)] [] ?_
   refine NN ?_
   refine CF ?_
   refine af.skip (NX (af.region ?_))
   refine gK 3 (JV f L to toName) [] ?_
   refine gL [0, 3, 5, 1] (lu S L f m t hI to hto toName mz ⟨ok, 1⟩ bg) ?_
   rintro _ _ ⟨rfl, rfl⟩
   refine NS ?_
   have bT : Inv (au S to toName ⟨ok, 1⟩) := hI.vg hto bg (by simp)
   have hot : (⟨ok, 1⟩ : Th) ≠ ⟨tk, 1⟩ := fun e => h50 (congrArg Th.k e)
   have hd1 : Live (au S to toName ⟨ok, 1⟩).idx ⟨d, 2⟩ := gT hI.toInv0 hto bg hd (fun e => by have := eS hd dm e; cases this)
   have iD : Live (au S to toName ⟨ok, 1⟩).idx ⟨to, 2⟩ := gT hI.toInv0 hto bg hto (fun e => by have := eS hto dm e; cases this)
   have dH : aR name (obj (au S to toName ⟨ok, 1⟩).O d).ah = some ⟨tk, 1⟩ := nM hI.toInv0 hto bg hlk hot
   have mZ : aR toName (obj (au S to toName ⟨ok, 1⟩).O to).ah = none := nN hI.toInv0 hto bg
   have iF : (obj (au S to toName ⟨ok, 1⟩).O d).kind = 2 := bT.kind hd1
   have ng : (obj (au S to toName ⟨ok, 1⟩).O to).kind = 2 := bT.kind iD
   have je : Live (au S to toName ⟨ok, 1⟩).idx ⟨tk, 1⟩ := (bT.ent hd1 dH).2
   have jf : (obj (au S to toName ⟨ok, 1⟩).O tk).kind = 1 := bT.kind je
   have zu : (obj (au S to toName ⟨ok, 1⟩).O d).ah.length ≤ 8192 := bT.eG hd1
   have zw : (obj (au S to toName ⟨ok, 1⟩).O to).ah.length ≤ 8192 := bT.eG iD
   have ni := bT.lb je
   have jg : tk ≠ d := bT.ne hd1 dH
   refine gK 3 (Cv f L d name) [] ?_
   refine gL [0, 1, 2] (gU (au S to toName ⟨ok, 1⟩).X f m t bT.hX (au S to toName ⟨ok, 1⟩).O L d iF name hsz ⟨tk, 1⟩ jf (by simp) dH (bT.twice hd1) (by omega) (by simp only at ni ⊢; omega)) ?_
   rintro _ _ ⟨rfl, rfl⟩
   refine NS ?_
   refine gK 4 (Cw f L to toName ++ [(68, .iface 89 (vP (L.b tk)))]) [] ?_
   refine gL [0, 1, 2] (fQ { (au S to toName ⟨ok, 1⟩).X with ah := (au S to toName ⟨ok, 1⟩).X.ah - 1 } f m t (bT.vD hd1 dH) (aL (au S to toName ⟨ok, 1⟩).X (au S to toName ⟨ok, 1⟩).O d name ⟨tk, 1⟩) L to (bY.trans ng) toName mz (iN jg mZ) (Nat.le_trans (j6 jg) (by omega)) ⟨tk, 1⟩ (bY.trans jf) (by simp) (iU bT.toInv0 hd1 dH)) ?_
   rintro _ _ ⟨rfl, rfl⟩
   refine NS ?_
   refine aj.mem (aQ := [.blk f [vI ((au S to toName ⟨ok, 1⟩).X.cN), vI ((au S to toName ⟨ok, 1⟩).X.cB), vI ((au S to toName ⟨ok, 1⟩).X.cH), vI ((au S to toName ⟨ok, 1⟩).X.cS), vI ((au S to toName ⟨ok, 1⟩).X.cZ), .map (some m), vP t, vI ((au S to toName ⟨ok, 1⟩).X.last), vI ((au S to toName ⟨ok, 1⟩).X.ah - 1 + 1), vI ((au S to toName ⟨ok, 1⟩).X.used)] 86, .abs (ak (aN (bp (au S to toName ⟨ok, 1⟩).X (aL (au S to toName ⟨ok, 1⟩).X (au S to toName ⟨ok, 1⟩).O d name ⟨tk, 1⟩) to toName ⟨tk, 1⟩) L)), .abs (ak (bh (bp (au S to toName ⟨ok, 1⟩).X (aL (au S to toName ⟨ok, 1⟩).X (au S to toName ⟨ok, 1⟩).O d name ⟨tk, 1⟩) to toName ⟨tk, 1⟩) L)), .abs (aI Tryz.prog 3 m (aM (aJ L ((au S to toName ⟨ok, 1⟩).idx))) (((au S to toName ⟨ok, 1⟩).idx).length)), .abs (aX 156 t S.X.cH S.aq (aJ L S.us)), .abs (ak (aY (bp (au S to toName ⟨ok, 1⟩).X (aL (au S to toName ⟨ok, 1⟩).X (au S to toName ⟨ok, 1⟩).O d name ⟨tk, 1⟩) to toName ⟨tk, 1⟩) L)), .abs R]) (fun w hS => by rw [show aY (bp (au S to toName ⟨ok, 1⟩).X (aL (au S to toName ⟨ok, 1⟩).X (au S to toName ⟨ok, 1⟩).O d name ⟨tk, 1⟩) to toName ⟨tk, 1⟩) L = aY S.O L from fC.trans (iM.trans lq)]; exact hS) ?_
   refine gK 1 [(10, vI 0)] [] ?_
   refine NN (af.ret ?_)
   exact RT (vI 0) [0, 3, 4, 1, 5, 2, 6] (⟨L, by rw [show renameM S d name to toName = (0, kD (au S to toName ⟨ok, 1⟩) d name to toName ⟨tk, 1⟩) by unfold renameM; rw [hlk]; refine (if_neg (fun h => absurd h.1 (by simp))).trans ?_; rw [bg]; exact (if_neg (fun e => h50 (congrArg Th.k e))).trans ((if_neg (by simp)).trans (if_neg (by simp)))] <;> exact ⟨rfl, rfl⟩⟩)
  ·have jh : (obj S.O ok).kind = 2 := hI.kind dm
   refine af.region ?_
   refine gK 5 (tq L to toName) [(3, v_ 3 (bw L dg))] ?_
   refine fM 5 dg bg ?_
   refine gK 1 [(15, .iface 96 (vP (L.b ok)))] [] ?_
   refine NN (af.seq (SR ?_))
   refine gK 3 [(50, .bool false)] [] ?_
   refine NN ?_
   refine CF ?_
   refine af.skip (NX (af.seq (SR ?_)))
   refine gK 2 [(52, .bool true)] [] ?_
   refine NN ?_
   refine CT ?_
   refine af.seq (SR ?_)
   refine gK 1 [(53, .iface 96 (vP (L.b ok)))] [] ?_
   refine gL [] (jD (vP (L.b ok))) ?_
   rintro _ _ ⟨rfl, rfl⟩
   refine gK 1 [(55, .bool true)] [] ?_
   refine NN ?_
   refine CT ?_
   refine SR ?_
   refine gK 1 [(10, vI 172)] [] ?_
   refine NN (af.ret (ai.ar (ai.ar ?_)))
   exact RT (vI 172) [0, 1, 2, 3, 4, 5, 6] (⟨L, by rw [show renameM S d name to toName = (172, S) by unfold renameM; rw [hlk]; refine (if_neg (fun h => absurd h.1 (by simp))).trans ?_; rw [bg]; exact (if_neg (fun e => by cases e)).trans (if_pos rfl)] <;> exact ⟨rfl, rfl⟩⟩)
  have jh : (obj S.O ok).kind = 3 := hI.kind dm
  refine af.region ?_
  refine gK 5 (tq L to toName) [(3, v_ 3 (bw L dg))] ?_
  refine fM 5 dg bg ?_
  refine gK 1 [(15, .iface 93 (vP (L.b ok)))] [] ?_
  refine NN (af.seq (SR ?_))
  refine gK 3 [(50, .bool false)] [] ?_
  refine NN ?_
  refine CF ?_
  refine af.skip (NX (af.seq (SR ?_)))
  refine gK 2 [(52, .bool true)] [] ?_
  refine NN ?_
  refine CT ?_
  refine af.seq (SR ?_)
  refine gK 1 [(53, .iface 93 (vP (L.b ok)))] [] ?_
  refine gL [] (j7 (vP (L.b ok))) ?_
  rintro _ _ ⟨rfl, rfl⟩
  refine gK 1 [(55, .bool false)] [] ?_
  refine NN ?_
  refine CF ?_
  refine af.skip (NX (af.seq (SR ?_)))
  refine gK 1 [(56, .bool false)] [] ?_
  refine NN ?_
  refine CF ?_
  refine af.skip (NX (af.region ?_))
  refine gK 3 (JV f L to toName) [] ?_
  refine gL [0, 3, 5, 1] (lu S L f m t hI to hto toName mz ⟨ok, 3⟩ bg) ?_
  rintro _ _ ⟨rfl, rfl⟩
  refine NS ?_
  have bT : Inv (au S to toName ⟨ok, 3⟩) := hI.vg hto bg (by simp)
  have hot : (⟨ok, 3⟩ : Th) ≠ ⟨tk, 1⟩ := fun e => by cases e
  have hd1 : Live (au S to toName ⟨ok, 3⟩).idx ⟨d, 2⟩ := gT hI.toInv0 hto bg hd (fun e => by have := eS hd dm e; cases this)
  have iD : Live (au S to toName ⟨ok, 3⟩).idx ⟨to, 2⟩ := gT hI.toInv0 hto bg hto (fun e => by have := eS hto dm e; cases this)
  have dH : aR name (obj (au S to toName ⟨ok, 3⟩).O d).ah = some ⟨tk, 1⟩ := nM hI.toInv0 hto bg hlk hot
  have mZ : aR toName (obj (au S to toName ⟨ok, 3⟩).O to).ah = none := nN hI.toInv0 hto bg
  have iF : (obj (au S to toName ⟨ok, 3⟩).O d).kind = 2 := bT.kind hd1
  have ng : (obj (au S to toName ⟨ok, 3⟩).O to).kind = 2 := bT.kind iD
  have je : Live (au S to toName ⟨ok, 3⟩).idx ⟨tk, 1⟩ := (bT.ent hd1 dH).2
  have jf : (obj (au S to toName ⟨ok, 3⟩).O tk).kind = 1 := bT.kind je
  have zu : (obj (au S to toName ⟨ok, 3⟩).O d).ah.length ≤ 8192 := bT.eG hd1
  have zw : (obj (au S to toName ⟨ok, 3⟩).O to).ah.length ≤ 8192 := bT.eG iD
  have ni := bT.lb je
  have jg : tk ≠ d := bT.ne hd1 dH
  refine gK 3 (Cv f L d name) [] ?_
  refine gL [0, 1, 2] (gU (au S to toName ⟨ok, 3⟩).X f m t bT.hX (au S to toName ⟨ok, 3⟩).O L d iF name hsz ⟨tk, 1⟩ jf (by simp) dH (bT.twice hd1) (by omega) (by simp only at ni ⊢; omega)) ?_
  rintro _ _ ⟨rfl, rfl⟩
  refine NS ?_
  refine gK 4 (Cw f L to toName ++ [(68, .iface 89 (vP (L.b tk)))]) [] ?_
  refine gL [0, 1, 2] (fQ { (au S to toName ⟨ok, 3⟩).X with ah := (au S to toName ⟨ok, 3⟩).X.ah - 1 } f m t (bT.vD hd1 dH) (aL (au S to toName ⟨ok, 3⟩).X (au S to toName ⟨ok, 3⟩).O d name ⟨tk, 1⟩) L to (bY.trans ng) toName mz (iN jg mZ) (Nat.le_trans (j6 jg) (by omega)) ⟨tk, 1⟩ (bY.trans jf) (by simp) (iU bT.toInv0 hd1 dH)) ?_
  rintro _ _ ⟨rfl, rfl⟩
  refine NS ?_
  refine aj.mem (aQ := [.blk f [vI ((au S to toName ⟨ok, 3⟩).X.cN), vI ((au S to toName ⟨ok, 3⟩).X.cB), vI ((au S to toName ⟨ok, 3⟩).X.cH), vI ((au S to toName ⟨ok, 3⟩).X.cS), vI ((au S to toName ⟨ok, 3⟩).X.cZ), .map (some m), vP t, vI ((au S to toName ⟨ok, 3⟩).X.last), vI ((au S to toName ⟨ok, 3⟩).X.ah - 1 + 1), vI ((au S to toName ⟨ok, 3⟩).X.used)] 86, .abs (ak (aN (bp (au S to toName ⟨ok, 3⟩).X (aL (au S to toName ⟨ok, 3⟩).X (au S to toName ⟨ok, 3⟩).O d name ⟨tk, 1⟩) to toName ⟨tk, 1⟩) L)), .abs (ak (bh (bp (au S to toName ⟨ok, 3⟩).X (aL (au S to toName ⟨ok, 3⟩).X (au S to toName ⟨ok, 3⟩).O d name ⟨tk, 1⟩) to toName ⟨tk, 1⟩) L)), .abs (aI Tryz.prog 3 m (aM (aJ L ((au S to toName ⟨ok, 3⟩).idx))) (((au S to toName ⟨ok, 3⟩).idx).length)), .abs (aX 156 t S.X.cH S.aq (aJ L S.us)), .abs (ak (aY (bp (au S to toName ⟨ok, 3⟩).X (aL (au S to toName ⟨ok, 3⟩).X (au S to toName ⟨ok, 3⟩).O d name ⟨tk, 1⟩) to toName ⟨tk, 1⟩) L)), .abs R]) (fun w hS => by rw [show aY (bp (au S to toName ⟨ok, 3⟩).X (aL (au S to toName ⟨ok, 3⟩).X (au S to toName ⟨ok, 3⟩).O d name ⟨tk, 1⟩) to toName ⟨tk, 1⟩) L = aY S.O L from fC.trans (iM.trans lq)]; exact hS) ?_
  refine gK 1 [(10, vI 0)] [] ?_
  refine NN (af.ret ?_)
  exact RT (vI 0) [0, 3, 4, 1, 5, 2, 6] (⟨L, by rw [show renameM S d name to toName = (0, kD (au S to toName ⟨ok, 3⟩) d name to toName ⟨tk, 1⟩) by unfold renameM; rw [hlk]; refine (if_neg (fun h => absurd h.1 (by simp))).trans ?_; rw [bg]; exact (if_neg (fun e => by cases e)).trans ((if_neg (by simp)).trans (if_neg (by simp)))] <;> exact ⟨rfl, rfl⟩⟩)
 ·have hkt : (obj S.O tk).kind = 2 := hI.kind hlv
  refine af.region ?_
  refine gK 1 [] [] ?_
  refine NS ?_
  refine gK 5 [(19, .map (some (L.m d))), (20, .string name)] [(3, v_ 3 (bw L hkd))] ?_
  refine fM 5 hkd hlk ?_
  refine gK 1 [(11, .iface 96 (vP (L.b tk)))] [] ?_
  refine NN (af.seq (SR ?_))
  refine gK 2 [(23, .bool false)] [] ?_
  refine NN ?_
  refine CF ?_
  refine af.skip (NX (SR ?_))
  refine gK 7 [(12, vP (L.b tk)), (13, .bool true)] [] ?_
  refine NN (af.seq (SR ?_))
  refine gK 2 [(14, vP (L.b to))] [] ?_
  refine NN (af.block ?_)
  obtain ⟨dp, hdp⟩ := hI.deep
  refine af.loop (ι := (Option Nat)) (fun (x : Option Nat) => (iA S.O tk to ↔ ∃ z0, x = some z0 ∧ iA S.O tk z0) ∧ (∀ z0, x = some z0 → Live S.idx ⟨z0, 2⟩)) (fun (x : Option Nat) => t7 dp x) (fun (x : Option Nat) => [(0, vP f), (1, vP (L.b d)), (2, .string name), (3, vP (L.b to)), (4, .string toName), (11, .iface 96 (vP (L.b tk))), (12, vP (L.b tk)), (13, .bool true), (14, (qt L x))]) (fun (x : Option Nat) => ((pA f m t L S) ++ [.abs R])) ((some to)) (idx := [0, 1, 2, 3, 4, 11, 12, 13, 14]) (pk := [0, 1, 2, 3, 4, 5, 6]) (show (iA S.O tk to ↔ ∃ z0, ((some to)) = some z0 ∧ iA S.O tk z0) ∧ (∀ z0, ((some to)) = some z0 → Live S.idx ⟨z0, 2⟩) from ⟨⟨fun h => ⟨to, rfl, h⟩, fun ⟨y, e, h⟩ => by cases e; exact h⟩, fun y e => by cases e; exact hto⟩) (fun _ => by kernel_rfl) rfl (by kernel_rfl) ?_
  rintro x ⟨hbx, hlx⟩
  show af _ _ _ _ [(0, vP f), (1, vP (L.b d)), (2, .string name), (3, vP (L.b to)), (4, .string toName), (11, .iface 96 (vP (L.b tk))), (12, vP (L.b tk)), (13, .bool true), (14, (qt L x))] ((pA f m t L S) ++ [.abs R]) _
  refine af.seq (af.seq ?_)
  rcases hx : x with _ | y
  ·refine af.region ?_
   refine gK 5 [(34, .bool false)] [] ?_
   refine NN ?_
   refine CF ?_
   refine af.exit (ai.bq (ai.bq (ai.cL (NX (af.seq ?_)))))
   have hnb : ¬ iA S.O tk to := fun h => by obtain ⟨y, e, _⟩ := hbx.1 h; rw [hx] at e; cases e
   rcases hI.jS hto toName with bg | ⟨ok, bg, dm⟩ | ⟨ok, bg, dm⟩ | ⟨ok, bg, dm⟩
   ·refine af.region ?_
    refine gK 5 (tq L to toName) [(3, v_ 3 (bw L dg))] ?_
    refine fM 5 dg bg ?_
    refine gK 1 [(15, .nilIface)] [] ?_
    refine NN (af.seq (SR ?_))
    refine gK 3 [(50, .bool false)] [] ?_
    refine NN ?_
    refine CF ?_
    refine af.skip (NX (af.seq (SR ?_)))
    refine gK 2 [(52, .bool false)] [] ?_
    refine NN ?_
    refine CF ?_
    refine af.skip (NX (SR ?_))
    have bT : Inv S := hI
    have hd1 := hd
    have dH := hlk
    have mZ := bg
    have iD := hto
    have iF : (obj S.O d).kind = 2 := bT.kind hd1
    have ng : (obj S.O to).kind = 2 := bT.kind iD
    have je : Live S.idx ⟨tk, 2⟩ := (bT.ent hd1 dH).2
    have jf : (obj S.O tk).kind = 2 := bT.kind je
    have zu : (obj S.O d).ah.length ≤ 8192 := bT.eG hd1
    have zw : (obj S.O to).ah.length ≤ 8192 := bT.eG iD
    have ni := bT.lb je
    have jg : tk ≠ d := bT.ne hd1 dH
    refine gK 3 (Cv f L d name) [] ?_
    refine gL [0, 3, 5] (gU S.X f m t bT.hX S.O L d iF name hsz ⟨tk, 2⟩ jf (by simp) dH (bT.twice hd1) (by omega) (by simp only at ni ⊢; omega)) ?_
    rintro _ _ ⟨rfl, rfl⟩
    refine NS ?_
    refine gK 4 (Cw f L to toName ++ [(68, .iface 96 (vP (L.b tk)))]) [] ?_
    refine gL [0, 1, 2] (fQ { S.X with ah := S.X.ah - 1 } f m t (bT.vD hd1 dH) (aL S.X S.O d name ⟨tk, 2⟩) L to (bY.trans ng) toName mz (iN jg mZ) (Nat.le_trans (j6 jg) (by omega)) ⟨tk, 2⟩ (bY.trans jf) (by simp) (iU bT.toInv0 hd1 dH)) ?_
    rintro _ _ ⟨rfl, rfl⟩
    refine NS ?_
    refine aj.mem (aQ := [.blk f [vI (S.X.cN), vI (S.X.cB), vI (S.X.cH), vI (S.X.cS), vI (S.X.cZ), .map (some m), vP t, vI (S.X.last), vI (S.X.ah - 1 + 1), vI (S.X.used)] 86, .abs (ak (aN (bp S.X (aL S.X S.O d name ⟨tk, 2⟩) to toName ⟨tk, 2⟩) L)), .abs (ak (bh (bp S.X (aL S.X S.O d name ⟨tk, 2⟩) to toName ⟨tk, 2⟩) L)), .abs (aI Tryz.prog 3 m (aM (aJ L S.idx)) S.idx.length), .abs (aX 156 t S.X.cH S.aq (aJ L S.us)), .abs (ak (aY (bp S.X (aL S.X S.O d name ⟨tk, 2⟩) to toName ⟨tk, 2⟩) L)), .abs R]) (fun w hS => by rw [show aY (bp S.X (aL S.X S.O d name ⟨tk, 2⟩) to toName ⟨tk, 2⟩) L = aY S.O L from fC.trans iM]; exact hS) ?_
    refine gK 1 [(10, vI 0)] [] ?_
    refine NN (af.ret ?_)
    exact RT (vI 0) [0, 3, 4, 1, 5, 2, 6] (⟨L, by rw [show renameM S d name to toName = (0, kD S d name to toName ⟨tk, 2⟩) by unfold renameM; rw [hlk]; refine (if_neg (fun h => hnb h.2)).trans ?_; rw [bg]] <;> exact ⟨rfl, rfl⟩⟩)
   ·have jh : (obj S.O ok).kind = 1 := hI.kind dm
    refine af.region ?_
    refine gK 5 (tq L to toName) [(3, v_ 3 (bw L dg))] ?_
    refine fM 5 dg bg ?_
    refine gK 1 [(15, .iface 89 (vP (L.b ok)))] [] ?_
    refine NN (af.seq (SR ?_))
    refine gK 3 [(50, .bool false)] [] ?_
    refine NN ?_
    refine CF ?_
    refine af.skip (NX (af.seq (SR ?_)))
    refine gK 2 [(52, .bool true)] [] ?_
    refine NN ?_
    refine CT ?_
    refine af.seq (SR ?_)
    refine gK 1 [(53, .iface 89 (vP (L.b ok)))] [] ?_
    refine gL [] (jC (vP (L.b ok))) ?_
    rintro _ _ ⟨rfl, rfl⟩
    refine gK 1 [(55, .bool false)] [] ?_
    refine NN ?_
    refine CF ?_
    refine af.skip (NX (af.seq (SR ?_)))
    refine gK 1 [(56, .bool true)] [] ?_
    refine NN ?_
    refine CT ?_
    refine SR ?_
    refine gK 1 [(10, vI 173)] [] ?_
    refine NN (af.ret (ai.ar (ai.ar ?_)))
    exact RT (vI 173) [0, 1, 2, 3, 4, 5, 6] (⟨L, by rw [show renameM S d name to toName = (173, S) by unfold renameM; rw [hlk]; refine (if_neg (fun h => hnb h.2)).trans ?_; rw [bg]; exact (if_neg (fun e => by cases e)).trans ((if_neg (by simp)).trans (if_pos rfl))] <;> exact ⟨rfl, rfl⟩⟩)
   ·have jh : (obj S.O ok).kind = 2 := hI.kind dm
    refine af.region ?_
    refine gK 5 (tq L to toName) [(3, v_ 3 (bw L dg))] ?_
    refine fM 5 dg bg ?_
    refine gK 1 [(15, .iface 96 (vP (L.b ok)))] [] ?_
    refine NN (af.seq (SR ?_))
    refine gK 2 [(48, .iface 96 (vP (L.b ok))), (49, .iface 96 (vP (L.b tk)))] [] ?_
    refine aj.iB (d := (some 50)) (op := .binOp .eql 84 (.tmp 48) (.tmp 49) 84) (v := .bool (decide (ok = tk))) (fun _ => by kernel_rfl) (fun o junk w ho hS => by obtain ⟨F, hF⟩ := hS.get (i := 3) rfl; exact ⟨w, wC Nj ho (by kernel_rfl) (by kernel_rfl) (by rw [jh]; decide) (by rw [hkt]; decide) hF, hS⟩) ?_
    refine NN ?_
    refine af.bA (p := ok = tk) (fun _ => by kernel_rfl) (fun h50 => ?_) (fun h50 => ?_)
    ·refine SR ?_
     refine gK 1 [(10, vI 0)] [] ?_
     refine NN (af.ret (ai.ar ?_))
     exact RT (vI 0) [0, 1, 2, 3, 4, 5, 6] (⟨L, by rw [show renameM S d name to toName = (0, S) by unfold renameM; rw [hlk]; refine (if_neg (fun h => hnb h.2)).trans ?_; rw [bg]; exact if_pos (by rw [h50])] <;> exact ⟨rfl, rfl⟩⟩)
    refine af.skip (NX (af.seq (SR ?_)))
    refine gK 2 [(52, .bool true)] [] ?_
    refine NN ?_
    refine CT ?_
    refine af.seq (SR ?_)
    refine gK 1 [(53, .iface 96 (vP (L.b ok)))] [] ?_
    refine gL [] (jD (vP (L.b ok))) ?_
    rintro _ _ ⟨rfl, rfl⟩
    refine gK 1 [(55, .bool true)] [] ?_
    refine NN ?_
    refine CT ?_
    refine SR ?_
    refine gK 1 [(10, vI 172)] [] ?_
    refine NN (af.ret (ai.ar (ai.ar ?_)))
    exact RT (vI 172) [0, 1, 2, 3, 4, 5, 6] (⟨L, by rw [show renameM S d name to toName = (172, S) by unfold renameM; rw [hlk]; refine (if_neg (fun h => hnb h.2)).trans ?_; rw [bg]; exact (if_neg (fun e => h50 (congrArg Th.k e))).trans (if_pos rfl)] <;> exact ⟨rfl, rfl⟩⟩)
   have jh : (obj S.O ok).kind = 3 := hI.kind dm
   refine af.region ?_
   refine gK 5 (tq L to toName) [(3, v_ 3 (bw L dg))] ?_
   refine fM 5 dg bg ?_
   refine gK 1 [(15, .iface 93 (vP (L.b ok)))] [] ?_
   refine NN (af.seq (SR ?_))
   refine gK 3 [(50, .bool false)] [] ?_
   refine NN ?_
   refine CF ?_
   refine af.skip (NX (af.seq (SR ?_)))
   refine gK 2 [(52, .bool true)] [] ?_
   refine NN ?_
   refine CT ?_
   refine af.seq (SR ?_)
   refine gK 1 [(53, .iface 93 (vP (L.b ok)))] [] ?_
   refine gL [] (j7 (vP (L.b ok))) ?_
   rintro _ _ ⟨rfl, rfl⟩
   refine gK 1 [(55, .bool false)] [] ?_
   refine NN ?_
   refine CF ?_
   refine af.skip (NX (af.seq (SR ?_)))
   refine gK 1 [(56, .bool true)] [] ?_
   refine NN ?_
   refine CT ?_
   refine SR ?_
   refine gK 1 [(10, vI 173)] [] ?_
   refine NN (af.ret (ai.ar (ai.ar ?_)))
   exact RT (vI 173) [0, 1, 2, 3, 4, 5, 6] (⟨L, by rw [show renameM S d name to toName = (173, S) by unfold renameM; rw [hlk]; refine (if_neg (fun h => hnb h.2)).trans ?_; rw [bg]; exact (if_neg (fun e => by cases e)).trans ((if_neg (by simp)).trans (if_pos rfl))] <;> exact ⟨rfl, rfl⟩⟩)
  have hky : (obj S.O y).kind = 2 := hI.kind (hlx y hx)
  refine af.region ?_
  refine gK 5 [(34, .bool true)] [] ?_
  refine NN ?_
  refine CT ?_
  refine af.skip (NX (af.seq (af.block (SR ?_))))
  refine gK 2 [(39, vP (L.b y)), (40, vP (L.b tk))] [] ?_
  refine aj.iB (d := (some 41)) (op := .binOp .eql 96 (.tmp 39) (.tmp 40) 96) (v := .bool (decide (y = tk))) (fun _ => by kernel_rfl) (fun o junk w ho hS => by obtain ⟨F, hF⟩ := hS.get (i := 3) rfl; exact ⟨w, Gd ho (by kernel_rfl) (by kernel_rfl) (by rw [hky]; decide) (by rw [hkt]; decide) hF, hS⟩) ?_
  refine NN ?_
  refine af.bA (p := y = tk) (fun _ => by kernel_rfl) (fun JX => ?_) (fun JX => ?_)
  ·refine SR ?_
   refine gK 1 [(10, vI 174)] [] ?_
   refine NN (af.ret (ai.aH (ai.ar (ai.ar (ai.aH (ai.ar ?_))))))
   exact RT (vI 174) [0, 1, 2, 3, 4, 5, 6] (⟨L, by rw [show renameM S d name to toName = (174, S) by unfold renameM; rw [hlk]; exact if_pos ⟨rfl, hbx.2 ⟨y, hx, by rw [JX]; exact .here⟩⟩] <;> exact ⟨rfl, rfl⟩⟩)
  refine af.skip (ai.aP (NX (af.region ?_)))
  refine gK 5 [(14, (qt L (obj S.O y).up))] [(3, v_ 3 (OM L hky))] ?_
  refine NL ?_
  exact ai.turn (((obj S.O y).up)) (idx := [0, 1, 2, 3, 4, 11, 12, 13, 14]) (pk := [0, 1, 2, 3, 4, 5, 6]) (show (iA S.O tk to ↔ ∃ z0, (((obj S.O y).up)) = some z0 ∧ iA S.O tk z0) ∧ (∀ z0, (((obj S.O y).up)) = some z0 → Live S.idx ⟨z0, 2⟩) from ⟨hbx.trans ⟨fun ⟨y2, e, h⟩ => by rw [hx] at e; cases e; exact (xM JX).1 h, fun h => ⟨y, hx, (xM JX).2 h⟩⟩, fun z e => ((hI.up ⟨y, 2⟩ (hlx y hx) z).1 e).2.1⟩) (by show t7 dp (((obj S.O y).up)) < t7 dp (some y); exact Gg hdp) (fun _ => by kernel_rfl) rfl (by kernel_rfl)
 have hkt : (obj S.O tk).kind = 3 := hI.kind hlv
 refine af.region ?_
 refine gK 1 [] [] ?_
 refine NS ?_
 refine gK 5 [(19, .map (some (L.m d))), (20, .string name)] [(3, v_ 3 (bw L hkd))] ?_
 refine fM 5 hkd hlk ?_
 refine gK 1 [(11, .iface 93 (vP (L.b tk)))] [] ?_
 refine NN (af.seq (SR ?_))
 refine gK 2 [(23, .bool false)] [] ?_
 refine NN ?_
 refine CF ?_
 refine af.skip (NX (SR ?_))
 refine gK 7 [(12, .pointer none), (13, .bool false)] [] ?_
 refine NN (af.seq (SR ?_))
 refine gK 2 [(14, vP (L.b to))] [] ?_
 refine NN (af.block ?_)
 refine af.loop (ι := Unit) (fun (u : Unit) => True) (fun (u : Unit) => 0) (fun (u : Unit) => (JU f L d name to toName ++ [(11, .iface 93 (vP (L.b tk)))] ++ JW L to)) (fun (u : Unit) => ((pA f m t L S) ++ [.abs R])) () (idx := [0, 1, 2, 3, 4, 11, 12, 13, 14]) (pk := [0, 1, 2, 3, 4, 5, 6]) (show True from trivial) (fun _ => by kernel_rfl) rfl (by kernel_rfl) ?_
 rintro u _
 show af _ _ _ _ (JU f L d name to toName ++ [(11, .iface 93 (vP (L.b tk)))] ++ JW L to) ((pA f m t L S) ++ [.abs R]) _
 refine af.seq (SR ?_)
 refine gK 5 [(34, .bool false)] [] ?_
 refine NN ?_
 refine CF ?_
 refine af.exit (ai.bq (ai.bq (ai.cL (NX (af.seq ?_)))))
 skip
 rcases hI.jS hto toName with bg | ⟨ok, bg, dm⟩ | ⟨ok, bg, dm⟩ | ⟨ok, bg, dm⟩
 ·refine af.region ?_
  refine gK 5 (tq L to toName) [(3, v_ 3 (bw L dg))] ?_
  refine fM 5 dg bg ?_
  refine gK 1 [(15, .nilIface)] [] ?_
  refine NN (af.seq (SR ?_))
  refine gK 3 [(50, .bool false)] [] ?_
  refine NN ?_
  refine CF ?_
  refine af.skip (NX (af.seq (SR ?_)))
  refine gK 2 [(52, .bool false)] [] ?_
  refine NN ?_
  refine CF ?_
  refine af.skip (NX (SR ?_))
  have bT : Inv S := hI
  have hd1 := hd
  have dH := hlk
  have mZ := bg
  have iD := hto
  have iF : (obj S.O d).kind = 2 := bT.kind hd1
  have ng : (obj S.O to).kind = 2 := bT.kind iD
  have je : Live S.idx ⟨tk, 3⟩ := (bT.ent hd1 dH).2
  have jf : (obj S.O tk).kind = 3 := bT.kind je
  have zu : (obj S.O d).ah.length ≤ 8192 := bT.eG hd1
  have zw : (obj S.O to).ah.length ≤ 8192 := bT.eG iD
  have ni := bT.lb je
  have jg : tk ≠ d := bT.ne hd1 dH
  refine gK 3 (Cv f L d name) [] ?_
  refine gL [0, 3, 5] (gU S.X f m t bT.hX S.O L d iF name hsz ⟨tk, 3⟩ jf (by simp) dH (bT.twice hd1) (by omega) (by simp only at ni ⊢; omega)) ?_
  rintro _ _ ⟨rfl, rfl⟩
  refine NS ?_
  refine gK 4 (Cw f L to toName ++ [(68, .iface 93 (vP (L.b tk)))]) [] ?_
  refine gL [0, 1, 2] (fQ { S.X with ah := S.X.ah - 1 } f m t (bT.vD hd1 dH) (aL S.X S.O d name ⟨tk, 3⟩) L to (bY.trans ng) toName mz (iN jg mZ) (Nat.le_trans (j6 jg) (by omega)) ⟨tk, 3⟩ (bY.trans jf) (by simp) (iU bT.toInv0 hd1 dH)) ?_
  rintro _ _ ⟨rfl, rfl⟩
  refine NS ?_
  refine aj.mem (aQ := [.blk f [vI (S.X.cN), vI (S.X.cB), vI (S.X.cH), vI (S.X.cS), vI (S.X.cZ), .map (some m), vP t, vI (S.X.last), vI (S.X.ah - 1 + 1), vI (S.X.used)] 86, .abs (ak (aN (bp S.X (aL S.X S.O d name ⟨tk, 3⟩) to toName ⟨tk, 3⟩) L)), .abs (ak (bh (bp S.X (aL S.X S.O d name ⟨tk, 3⟩) to toName ⟨tk, 3⟩) L)), .abs (aI Tryz.prog 3 m (aM (aJ L S.idx)) S.idx.length), .abs (aX 156 t S.X.cH S.aq (aJ L S.us)), .abs (ak (aY (bp S.X (aL S.X S.O d name ⟨tk, 3⟩) to toName ⟨tk, 3⟩) L)), .abs R]) (fun w hS => by rw [show aY (bp S.X (aL S.X S.O d name ⟨tk, 3⟩) to toName ⟨tk, 3⟩) L = aY S.O L from fC.trans iM]; exact hS) ?_
  refine gK 1 [(10, vI 0)] [] ?_
  refine NN (af.ret ?_)
  exact RT (vI 0) [0, 3, 4, 1, 5, 2, 6] (⟨L, by rw [show renameM S d name to toName = (0, kD S d name to toName ⟨tk, 3⟩) by unfold renameM; rw [hlk]; refine (if_neg (fun h => absurd h.1 (by simp))).trans ?_; rw [bg]] <;> exact ⟨rfl, rfl⟩⟩)
 ·have jh : (obj S.O ok).kind = 1 := hI.kind dm
  refine af.region ?_
  refine gK 5 (tq L to toName) [(3, v_ 3 (bw L dg))] ?_
  refine fM 5 dg bg ?_
  refine gK 1 [(15, .iface 89 (vP (L.b ok)))] [] ?_
  refine NN (af.seq (SR ?_))
  refine gK 3 [(50, .bool false)] [] ?_
  refine NN ?_
  refine CF ?_
  refine af.skip (NX (af.seq (SR ?_)))
  refine gK 2 [(52, .bool true)] [] ?_
  refine NN ?_
  refine CT ?_
  refine af.seq (SR ?_)
  refine gK 1 [(53, .iface 89 (vP (L.b ok)))] [] ?_
  refine gL [] (jC (vP (L.b ok))) ?_
  rintro _ _ ⟨rfl, rfl⟩
  refine gK 1 [(55, .bool false)] [] ?_
  refine NN ?_
  refine CF ?_
  refine af.skip (NX (af.seq (SR ?_)))
  refine gK 1 [(56, .bool false)] [] ?_
  refine NN ?_
  refine CF ?_
  refine af.skip (NX (af.region ?_))
  refine gK 3 (JV f L to toName) [] ?_
  refine gL [0, 3, 5, 1] (lu S L f m t hI to hto toName mz ⟨ok, 1⟩ bg) ?_
  rintro _ _ ⟨rfl, rfl⟩
  refine NS ?_
  have bT : Inv (au S to toName ⟨ok, 1⟩) := hI.vg hto bg (by simp)
  have hot : (⟨ok, 1⟩ : Th) ≠ ⟨tk, 3⟩ := fun e => by cases e
  have hd1 : Live (au S to toName ⟨ok, 1⟩).idx ⟨d, 2⟩ := gT hI.toInv0 hto bg hd (fun e => by have := eS hd dm e; cases this)
  have iD : Live (au S to toName ⟨ok, 1⟩).idx ⟨to, 2⟩ := gT hI.toInv0 hto bg hto (fun e => by have := eS hto dm e; cases this)
  have dH : aR name (obj (au S to toName ⟨ok, 1⟩).O d).ah = some ⟨tk, 3⟩ := nM hI.toInv0 hto bg hlk hot
  have mZ : aR toName (obj (au S to toName ⟨ok, 1⟩).O to).ah = none := nN hI.toInv0 hto bg
  have iF : (obj (au S to toName ⟨ok, 1⟩).O d).kind = 2 := bT.kind hd1
  have ng : (obj (au S to toName ⟨ok, 1⟩).O to).kind = 2 := bT.kind iD
  have je : Live (au S to toName ⟨ok, 1⟩).idx ⟨tk, 3⟩ := (bT.ent hd1 dH).2
  have jf : (obj (au S to toName ⟨ok, 1⟩).O tk).kind = 3 := bT.kind je
  have zu : (obj (au S to toName ⟨ok, 1⟩).O d).ah.length ≤ 8192 := bT.eG hd1
  have zw : (obj (au S to toName ⟨ok, 1⟩).O to).ah.length ≤ 8192 := bT.eG iD
  have ni := bT.lb je
  have jg : tk ≠ d := bT.ne hd1 dH
  refine gK 3 (Cv f L d name) [] ?_
  refine gL [0, 1, 2] (gU (au S to toName ⟨ok, 1⟩).X f m t bT.hX (au S to toName ⟨ok, 1⟩).O L d iF name hsz ⟨tk, 3⟩ jf (by simp) dH (bT.twice hd1) (by omega) (by simp only at ni ⊢; omega)) ?_
  rintro _ _ ⟨rfl, rfl⟩
  refine NS ?_
  refine gK 4 (Cw f L to toName ++ [(68, .iface 93 (vP (L.b tk)))]) [] ?_
  refine gL [0, 1, 2] (fQ { (au S to toName ⟨ok, 1⟩).X with ah := (au S to toName ⟨ok, 1⟩).X.ah - 1 } f m t (bT.vD hd1 dH) (aL (au S to toName ⟨ok, 1⟩).X (au S to toName ⟨ok, 1⟩).O d name ⟨tk, 3⟩) L to (bY.trans ng) toName mz (iN jg mZ) (Nat.le_trans (j6 jg) (by omega)) ⟨tk, 3⟩ (bY.trans jf) (by simp) (iU bT.toInv0 hd1 dH)) ?_
  rintro _ _ ⟨rfl, rfl⟩
  refine NS ?_
  refine aj.mem (aQ := [.blk f [vI ((au S to toName ⟨ok, 1⟩).X.cN), vI ((au S to toName ⟨ok, 1⟩).X.cB), vI ((au S to toName ⟨ok, 1⟩).X.cH), vI ((au S to toName ⟨ok, 1⟩).X.cS), vI ((au S to toName ⟨ok, 1⟩).X.cZ), .map (some m), vP t, vI ((au S to toName ⟨ok, 1⟩).X.last), vI ((au S to toName ⟨ok, 1⟩).X.ah - 1 + 1), vI ((au S to toName ⟨ok, 1⟩).X.used)] 86, .abs (ak (aN (bp (au S to toName ⟨ok, 1⟩).X (aL (au S to toName ⟨ok, 1⟩).X (au S to toName ⟨ok, 1⟩).O d name ⟨tk, 3⟩) to toName ⟨tk, 3⟩) L)), .abs (ak (bh (bp (au S to toName ⟨ok, 1⟩).X (aL (au S to toName ⟨ok, 1⟩).X (au S to toName ⟨ok, 1⟩).O d name ⟨tk, 3⟩) to toName ⟨tk, 3⟩) L)), .abs (aI Tryz.prog 3 m (aM (aJ L ((au S to toName ⟨ok, 1⟩).idx))) (((au S to toName ⟨ok, 1⟩).idx).length)), .abs (aX 156 t S.X.cH S.aq (aJ L S.us)), .abs (ak (aY (bp (au S to toName ⟨ok, 1⟩).X (aL (au S to toName ⟨ok, 1⟩).X (au S to toName ⟨ok, 1⟩).O d name ⟨tk, 3⟩) to toName ⟨tk, 3⟩) L)), .abs R]) (fun w hS => by rw [show aY (bp (au S to toName ⟨ok, 1⟩).X (aL (au S to toName ⟨ok, 1⟩).X (au S to toName ⟨ok, 1⟩).O d name ⟨tk, 3⟩) to toName ⟨tk, 3⟩) L = aY S.O L from fC.trans (iM.trans lq)]; exact hS) ?_
  refine gK 1 [(10, vI 0)] [] ?_
  refine NN (af.ret ?_)
  exact RT (vI 0) [0, 3, 4, 1, 5, 2, 6] (⟨L, by rw [show renameM S d name to toName = (0, kD (au S to toName ⟨ok, 1⟩) d name to toName ⟨tk, 3⟩) by unfold renameM; rw [hlk]; refine (if_neg (fun h => absurd h.1 (by simp))).trans ?_; rw [bg]; exact (if_neg (fun e => by cases e)).trans ((if_neg (by simp)).trans (if_neg (by simp)))] <;> exact ⟨rfl, rfl⟩⟩)
 ·have jh : (obj S.O ok).kind = 2 := hI.kind dm
  refine af.region ?_
  refine gK 5 (tq L to toName) [(3, v_ 3 (bw L dg))] ?_
  refine fM 5 dg bg ?_
  refine gK 1 [(15, .iface 96 (vP (L.b ok)))] [] ?_
  refine NN (af.seq (SR ?_))
  refine gK 3 [(50, .bool false)] [] ?_
  refine NN ?_
  refine CF ?_
  refine af.skip (NX (af.seq (SR ?_)))
  refine gK 2 [(52, .bool true)] [] ?_
  refine NN ?_
  refine CT ?_
  refine af.seq (SR ?_)
  refine gK 1 [(53, .iface 96 (vP (L.b ok)))] [] ?_
  refine gL [] (jD (vP (L.b ok))) ?_
  rintro _ _ ⟨rfl, rfl⟩
  refine gK 1 [(55, .bool true)] [] ?_
  refine NN ?_
  refine CT ?_
  refine SR ?_
  refine gK 1 [(10, vI 172)] [] ?_
  refine NN (af.ret (ai.ar (ai.ar ?_)))
  exact RT (vI 172) [0, 1, 2, 3, 4, 5, 6] (⟨L, by rw [show renameM S d name to toName = (172, S) by unfold renameM; rw [hlk]; refine (if_neg (fun h => absurd h.1 (by simp))).trans ?_; rw [bg]; exact (if_neg (fun e => by cases e)).trans (if_pos rfl)] <;> exact ⟨rfl, rfl⟩⟩)
 have jh : (obj S.O ok).kind = 3 := hI.kind dm
 refine af.region ?_
 refine gK 5 (tq L to toName) [(3, v_ 3 (bw L dg))] ?_
 refine fM 5 dg bg ?_
 refine gK 1 [(15, .iface 93 (vP (L.b ok)))] [] ?_
 refine NN (af.seq (SR ?_))
 refine gK 2 [(48, .iface 93 (vP (L.b ok))), (49, .iface 93 (vP (L.b tk)))] [] ?_
 refine aj.iB (d := (some 50)) (op := .binOp .eql 84 (.tmp 48) (.tmp 49) 84) (v := .bool (decide (ok = tk))) (fun _ => by kernel_rfl) (fun o junk w ho hS => by obtain ⟨F, hF⟩ := hS.get (i := 3) rfl; exact ⟨w, wC LH ho (by kernel_rfl) (by kernel_rfl) (by rw [jh]; decide) (by rw [hkt]; decide) hF, hS⟩) ?_
 refine NN ?_
 refine af.bA (p := ok = tk) (fun _ => by kernel_rfl) (fun h50 => ?_) (fun h50 => ?_)
 ·refine SR ?_
  refine gK 1 [(10, vI 0)] [] ?_
  refine NN (af.ret (ai.ar ?_))
  exact RT (vI 0) [0, 1, 2, 3, 4, 5, 6] (⟨L, by rw [show renameM S d name to toName = (0, S) by unfold renameM; rw [hlk]; refine (if_neg (fun h => absurd h.1 (by simp))).trans ?_; rw [bg]; exact if_pos (by rw [h50])] <;> exact ⟨rfl, rfl⟩⟩)
 refine af.skip (NX (af.seq (SR ?_)))
 refine gK 2 [(52, .bool true)] [] ?_
 refine NN ?_
 refine CT ?_
 refine af.seq (SR ?_)
 refine gK 1 [(53, .iface 93 (vP (L.b ok)))] [] ?_
 refine gL [] (j7 (vP (L.b ok))) ?_
 rintro _ _ ⟨rfl, rfl⟩
 refine gK 1 [(55, .bool false)] [] ?_
 refine NN ?_
 refine CF ?_
 refine af.skip (NX (af.seq (SR ?_)))
 refine gK 1 [(56, .bool false)] [] ?_
 refine NN ?_
 refine CF ?_
 refine af.skip (NX (af.region ?_))
 refine gK 3 (JV f L to toName) [] ?_
 refine gL [0, 3, 5, 1] (lu S L f m t hI to hto toName mz ⟨ok, 3⟩ bg) ?_
 rintro _ _ ⟨rfl, rfl⟩
 refine NS ?_
 have bT : Inv (au S to toName ⟨ok, 3⟩) := hI.vg hto bg (by simp)
 have hot : (⟨ok, 3⟩ : Th) ≠ ⟨tk, 3⟩ := fun e => h50 (congrArg Th.k e)
 have hd1 : Live (au S to toName ⟨ok, 3⟩).idx ⟨d, 2⟩ := gT hI.toInv0 hto bg hd (fun e => by have := eS hd dm e; cases this)
 have iD : Live (au S to toName ⟨ok, 3⟩).idx ⟨to, 2⟩ := gT hI.toInv0 hto bg hto (fun e => by have := eS hto dm e; cases this)
 have dH : aR name (obj (au S to toName ⟨ok, 3⟩).O d).ah = some ⟨tk, 3⟩ := nM hI.toInv0 hto bg hlk hot
 have mZ : aR toName (obj (au S to toName ⟨ok, 3⟩).O to).ah = none := nN hI.toInv0 hto bg
 have iF : (obj (au S to toName ⟨ok, 3⟩).O d).kind = 2 := bT.kind hd1
 have ng : (obj (au S to toName ⟨ok, 3⟩).O to).kind = 2 := bT.kind iD
 have je : Live (au S to toName ⟨ok, 3⟩).idx ⟨tk, 3⟩ := (bT.ent hd1 dH).2
 have jf : (obj (au S to toName ⟨ok, 3⟩).O tk).kind = 3 := bT.kind je
 have zu : (obj (au S to toName ⟨ok, 3⟩).O d).ah.length ≤ 8192 := bT.eG hd1
 have zw : (obj (au S to toName ⟨ok, 3⟩).O to).ah.length ≤ 8192 := bT.eG iD
 have ni := bT.lb je
 have jg : tk ≠ d := bT.ne hd1 dH
 refine gK 3 (Cv f L d name) [] ?_
 refine gL [0, 1, 2] (gU (au S to toName ⟨ok, 3⟩).X f m t bT.hX (au S to toName ⟨ok, 3⟩).O L d iF name hsz ⟨tk, 3⟩ jf (by simp) dH (bT.twice hd1) (by omega) (by simp only at ni ⊢; omega)) ?_
 rintro _ _ ⟨rfl, rfl⟩
 refine NS ?_
 refine gK 4 (Cw f L to toName ++ [(68, .iface 93 (vP (L.b tk)))]) [] ?_
 refine gL [0, 1, 2] (fQ { (au S to toName ⟨ok, 3⟩).X with ah := (au S to toName ⟨ok, 3⟩).X.ah - 1 } f m t (bT.vD hd1 dH) (aL (au S to toName ⟨ok, 3⟩).X (au S to toName ⟨ok, 3⟩).O d name ⟨tk, 3⟩) L to (bY.trans ng) toName mz (iN jg mZ) (Nat.le_trans (j6 jg) (by omega)) ⟨tk, 3⟩ (bY.trans jf) (by simp) (iU bT.toInv0 hd1 dH)) ?_
 rintro _ _ ⟨rfl, rfl⟩
 refine NS ?_
 refine aj.mem (aQ := [.blk f [vI ((au S to toName ⟨ok, 3⟩).X.cN), vI ((au S to toName ⟨ok, 3⟩).X.cB), vI ((au S to toName ⟨ok, 3⟩).X.cH), vI ((au S to toName ⟨ok, 3⟩).X.cS), vI ((au S to toName ⟨ok, 3⟩).X.cZ), .map (some m), vP t, vI ((au S to toName ⟨ok, 3⟩).X.last), vI ((au S to toName ⟨ok, 3⟩).X.ah - 1 + 1), vI ((au S to toName ⟨ok, 3⟩).X.used)] 86, .abs (ak (aN (bp (au S to toName ⟨ok, 3⟩).X (aL (au S to toName ⟨ok, 3⟩).X (au S to toName ⟨ok, 3⟩).O d name ⟨tk, 3⟩) to toName ⟨tk, 3⟩) L)), .abs (ak (bh (bp (au S to toName ⟨ok, 3⟩).X (aL (au S to toName ⟨ok, 3⟩).X (au S to toName ⟨ok, 3⟩).O d name ⟨tk, 3⟩) to toName ⟨tk, 3⟩) L)), .abs (aI Tryz.prog 3 m (aM (aJ L ((au S to toName ⟨ok, 3⟩).idx))) (((au S to toName ⟨ok, 3⟩).idx).length)), .abs (aX 156 t S.X.cH S.aq (aJ L S.us)), .abs (ak (aY (bp (au S to toName ⟨ok, 3⟩).X (aL (au S to toName ⟨ok, 3⟩).X (au S to toName ⟨ok, 3⟩).O d name ⟨tk, 3⟩) to toName ⟨tk, 3⟩) L)), .abs R]) (fun w hS => by rw [show aY (bp (au S to toName ⟨ok, 3⟩).X (aL (au S to toName ⟨ok, 3⟩).X (au S to toName ⟨ok, 3⟩).O d name ⟨tk, 3⟩) to toName ⟨tk, 3⟩) L = aY S.O L from fC.trans (iM.trans lq)]; exact hS) ?_
 refine gK 1 [(10, vI 0)] [] ?_
 refine NN (af.ret ?_)
 exact RT (vI 0) [0, 3, 4, 1, 5, 2, 6] (⟨L, by rw [show renameM S d name to toName = (0, kD (au S to toName ⟨ok, 3⟩) d name to toName ⟨tk, 3⟩) by unfold renameM; rw [hlk]; refine (if_neg (fun h => absurd h.1 (by simp))).trans ?_; rw [bg]; exact (if_neg (fun e => h50 (congrArg Th.k e))).trans ((if_neg (by simp)).trans (if_neg (by simp)))] <;> exact ⟨rfl, rfl⟩⟩)
end
section
open Go.RowKit Go.Maps HeapM TabM
attribute [local irreducible] aj aS af ai
abbrev NW (S : aE) (L : HL) (k : Nat) := (.abs (ak (iC (aY S.O L) k bR.none)) : HP)
abbrev Mb (A1 : Option Addr) (S : aE) (k : Nat) (bs : List UInt8) (c2 : Nat) := (.abs (aG 5 1 A1 (((obj S.O k).data ++ bs.take (aU S.X bs.length)).length) c2 (bI ((obj S.O k).data ++ bs.take (aU S.X bs.length)))) : HP)
abbrev Gw (f : Nat) (m : Nat) (t) (S : aE) (L : HL) (k : Nat) (R : bR) := ([pF f m t S.X, pI m L S.idx, pT t S.X.cH S.aq L S.us, pO S.O L, NW S L k, pE S.O L, .abs R] : List HP)
theorem Ar {β : Bs} (S : aE) (L : HL) (f m t : Nat) (hI : Inv S) (k : Nat) (hk : Live S.idx ⟨k, 1⟩) (A : Option Addr) (c : Nat) (bs : List UInt8) (hA : bW β A bs) (hbl : bs.length ≤ 1099511627776) (hbc : bs.length ≤ c) :
    Spec Tryz.prog β 57 #[vP f, vP (L.b k), .slice A (bs.length) (c)] (pA f m t L S) (fun v l => ∃ L2, v = .tuple #[vI (writeM S k bs).1, vI (writeM S k bs).2.1] ∧ l = (pA f m t L2 ((writeM S k bs).2.2))) := by
 have hX := hI.hX
 have hkk : (obj S.O k).kind = 1 := hI.kind hk
 have QY : ((obj S.O k).data.length : Int) ≤ S.X.used := hI.Nn hk
 have hcB := hI.cB
 refine Spec.enter Tryz.func57 rfl Tryz.ntmps57 (Nat.le_of_ble_eq_true rfl) (fun R => ?_)
 refine SR ?_
 refine gK 2 [] [] ?_
 refine NN (af.seq (SR ?_))
 refine gK 3 [(12, .bool (decide ((((bs.length : Nat) : Int) : Int) = (0 : Int))))] [] ?_
 refine NN ?_
 refine af.bA (p := (((bs.length : Nat) : Int) : Int) = (0 : Int)) (fun _ => by kernel_rfl) (fun h12 => ?_) (fun h12 => ?_)
 ·have he : bs = [] := List.eq_nil_of_length_eq_zero (by omega)
  refine SR ?_
  refine gK 2 [(6, vI 0), (7, vI 0)] [] ?_
  refine NN (af.ret (ai.ar ?_))
  exact RT (.tuple #[vI 0, vI 0]) [0, 1, 2, 3, 4, 5, 6] (⟨L, by rw [show writeM S k bs = (0, 0, S) from if_pos he] <;> exact ⟨rfl, rfl⟩⟩)
 have hlen : 0 < bs.length := by omega
 refine af.skip (NX (af.seq ?_))
 refine af.bG (by kernel_rfl) (by kernel_rfl) ?_
 refine gQ 11 [(8, vI (S.X.cB - S.X.used))] [(4, a_ 0 f), (8, a_ 0 f), (9, p_ ⟨[], none, none, none, some (vI (S.X.cB - S.X.used))⟩ [(Value.int .i64 (IntKind.wrap .i64 (S.X.cB - S.X.used))) = (.int .i64 (S.X.cB - S.X.used))] ⟨bF (by omega) (by omega) (by omega), trivial⟩)] ?_
 refine NQ (NX (af.seq (SR ?_)))
 refine gK 2 [(24, .bool (decide ((S.X.cB - S.X.used : Int) ≤ (0 : Int))))] [] ?_
 refine NN ?_
 refine af.bA (p := (S.X.cB - S.X.used : Int) ≤ (0 : Int)) (fun _ => by kernel_rfl) (fun yh => ?_) (fun yh => ?_)
 ·refine SR ?_
  refine gK 2 [(6, vI 0), (7, vI 176)] [] ?_
  refine NN (af.ret (ai.ar ?_))
  exact RT (.tuple #[vI 0, vI 176]) [0, 1, 2, 3, 4, 5, 6] (⟨L, by rw [show writeM S k bs = (0, 176, S) from (if_neg (fun e => by rw [e] at hlen; exact absurd hlen (by simp))).trans (if_pos yh)] <;> exact ⟨rfl, rfl⟩⟩)
 refine af.skip (NX (SR ?_))
 refine gK 4 [(28, vI (min ((bs.length : Nat) : Int) (S.X.cB - S.X.used)))] [(3, p_ ⟨[], none, none, none, some (vI (min ((bs.length : Nat) : Int) (S.X.cB - S.X.used)))⟩ [(Value.int .i64 (if S.X.cB - S.X.used < ((bs.length : Nat) : Int) then S.X.cB - S.X.used else ((bs.length : Nat) : Int))) = (.int .i64 (min ((bs.length : Nat) : Int) (S.X.cB - S.X.used)))] ⟨congrArg (Value.int .i64) (JH _ _), trivial⟩)] ?_
 refine aj.slot 28 (.int .i64 (min ((bs.length : Nat) : Int) (S.X.cB - S.X.used))) (.int .i64 ↑(aU S.X bs.length)) (fun _ => by kernel_rfl) (congrArg (Value.int .i64) (Gh (by omega))) ?_
 refine gK 1 [(9, vI ↑(aU S.X bs.length))] [] ?_
 refine NN (af.seq ?_)
 have hwl := Gi (X := S.X) (n := bs.length) (by omega)
 refine af.mem (aQ := (Gw f m t S L k R ++ [.abs (aG 5 1 (L.dA k) ((obj S.O k).data.length) (L.dC k) (bI (obj S.O k).data))])) (fun w hS => hS.FQ (i := 4) (k := k) rfl hkk) ?_
 refine af.bZ (S := (Gw f m t S L k R)) [0, 1, 2, 3, 4, 5, 6, 7, 8, 9, 10, 11] 8 [0, 1, 2, 3, 4, 5, 6] (by kernel_rfl) (by kernel_rfl) rfl (by kernel_rfl) ?_
 refine aF.reads (r := 0) (l := [8, 9, 10, 11]) (fr' := [(0, vP f), (1, vP (L.b k)), (9, vI ↑(aU S.X bs.length)), (29, vP (L.b k)), (33, .slice (L.dA k) ((obj S.O k).data.length) ((L.dC k))), (36, .slice A ((aU S.X bs.length)) (c))]) (aV := [(((aU S.X bs.length) : Nat) : Int) = (((aU S.X bs.length) : Nat) : Int), (aU S.X bs.length) ≤ c, (∀ F w, (ak (aN S.O L)).h F w → w.cell? ⟨(L.b k), 9, none⟩ = some (.slice (L.dA k) ((obj S.O k).data.length) ((L.dC k))))]) [0, 1, 2, 3, 4, 5, 6, 7] [o_, o_, o_, o_, ⟨[.view 3 (.slice (L.dA k) ((obj S.O k).data.length) ((L.dC k)))], none, none, none, none⟩, o_, o_, ⟨[], some (aU S.X bs.length), none, none, none⟩] [0, 1, 9, 29, 33, 36] (fun _ => by kernel_rfl) ⟨rfl, by omega, bn (by rw [hkk]; decide) (by rw [d9 (hkk)]; rfl), trivial⟩ rfl rfl ?_
 refine aF.cut (ι := (Option Addr) × Nat) (fr' := fun ((A1, c2) : (Option Addr) × Nat) => [(0, vP f), (1, vP (L.b k)), (9, vI ↑(aU S.X bs.length)), (29, vP (L.b k)), (37, .slice A1 (((obj S.O k).data ++ bs.take (aU S.X bs.length)).length) (c2))]) (hp' := fun ((A1, c2) : (Option Addr) × Nat) => (Gw f m t S L k R ++ [Mb A1 S k bs c2])) [0, 1, 2, 3, 4, 5, 6] rfl rfl ?_ rfl (fun _ => by kernel_rfl) ?_
 ·refine aj.append 7 (d := (some 37)) (t := 41) (e := 5) (z := .int .u8 0) (size := 1) (bytes := 1) (n := (obj S.O k).data.length) (cap := (L.dC k)) (A := (L.dA k)) (xs := (bI (obj S.O k).data)) (s := (.tmp 33)) (x := (.tmp 36)) (ats := #[41, 41]) (A' := A) (m := (aU S.X bs.length)) (c' := c) (news := (bI (bs.take (aU S.X bs.length)))) (fun _ => by kernel_rfl) rfl (by kernel_rfl) (fun _ => by kernel_rfl) (fun _ => by kernel_rfl) Tryz.underlying41 (by kernel_rfl) rfl (by decide) (by rw [oC, List.length_take, Nat.min_eq_left hwl.1, Nat.mul_one]) (kZ (bs.take (aU S.X bs.length))) ((hA.take (aU S.X bs.length)).src) (by unfold maxLen; omega) (by omega) (fun A1 c2 => ?_)
  refine aj.eH 7 (p := .abs (aG 5 1 A1 (((obj S.O k).data.length) + (aU S.X bs.length)) c2 ((bI (obj S.O k).data) ++ (bI (bs.take (aU S.X bs.length)))))) (p' := .abs (aG 5 1 A1 (((obj S.O k).data ++ bs.take (aU S.X bs.length)).length) c2 (bI ((obj S.O k).data ++ bs.take (aU S.X bs.length))))) (by kernel_rfl) (by rw [EC, List.length_append, List.length_take, Nat.min_eq_left hwl.1]) ?_
  refine aj.slot 37 (.slice A1 (((obj S.O k).data.length) + (aU S.X bs.length)) (c2)) (.slice A1 (((obj S.O k).data ++ bs.take (aU S.X bs.length)).length) (c2)) (fun _ => by kernel_rfl) (by rw [List.length_append, List.length_take, Nat.min_eq_left hwl.1]) ?_
  refine NL ?_
  exact MD (A1, c2) [0, 1, 9, 29, 37] [0, 1, 2, 3, 4, 5, 6, 7]
 rintro ⟨A1, c2⟩
 refine aF.cut (ι := Unit) (fr' := fun (_ : Unit) => [(0, vP f), (1, vP (L.b k)), (9, vI ↑(aU S.X bs.length)), (37, .slice A1 (((obj S.O k).data ++ bs.take (aU S.X bs.length)).length) (c2)), (38, vP (L.b k))]) (hp' := fun (_ : Unit) => (Gw f m t S L k R ++ [Mb A1 S k bs c2])) [0, 1, 2, 3, 4, 5, 6] rfl rfl ?_ rfl (fun _ => by kernel_rfl) ?_
 ·refine gK 1 [(38, vP (L.b k))] [] ?_
  refine NL ?_
  exact MD () [0, 1, 9, 37, 38] [0, 1, 2, 3, 4, 5, 6, 7]
 rintro _
 refine aF.cut (ι := Unit) (fr' := fun (_ : Unit) => [(0, vP f), (1, vP (L.b k)), (9, vI ↑(aU S.X bs.length)), (37, .slice A1 (((obj S.O k).data ++ bs.take (aU S.X bs.length)).length) (c2)), (39, .pointer (some ⟨(L.b k), 9, none⟩))]) (hp' := fun (_ : Unit) => (Gw f m t S L k R ++ [Mb A1 S k bs c2])) [0, 1, 2, 3, 4, 5, 6] rfl rfl ?_ rfl (fun _ => by kernel_rfl) ?_
 ·refine gK 1 [(39, .pointer (some ⟨(L.b k), 9, none⟩))] [] ?_
  refine NL ?_
  exact MD () [0, 1, 9, 37, 39] [0, 1, 2, 3, 4, 5, 6, 7]
 rintro _
 refine aF.last rfl rfl ?_
 refine aj.mem (aQ := [.blk f [vI (S.X.cN), vI (S.X.cB), vI (S.X.cH), vI (S.X.cS), vI (S.X.cZ), .map (some m), vP t, vI (S.X.last), vI (S.X.ah), vI (S.X.used)] 86, .abs (aI Tryz.prog 3 m (aM (aJ L S.idx)) S.idx.length), .abs (aX 156 t S.X.cH S.aq (aJ L S.us)), .abs (ak (iC (aN S.O L) k bR.none)), .abs (ak (iC (aY S.O L) k bR.none)), .abs (ak (bh S.O L)), .abs R, .abs (aG 5 1 A1 (((obj S.O k).data ++ bs.take (aU S.X bs.length)).length) c2 (bI ((obj S.O k).data ++ bs.take (aU S.X bs.length)))), .blk (L.b k) [vI ((obj S.O k).id), vI ((obj S.O k).mode), vI ((obj S.O k).uid), vI ((obj S.O k).gid), vI ((obj S.O k).sec), vI ((obj S.O k).nano), vI ((obj S.O k).links), vI ((obj S.O k).opens), .bool (obj S.O k).gone, .slice (L.dA k) ((obj S.O k).data.length) ((L.dC k))] 92]) (fun w hS => hS.tS (i := 3) (k := k) rfl (by rw [hkk]; decide) (d9 (hkk)) (by rw [hkk]; rfl)) ?_
 refine gC 1 [] [(0, a_ 8 (L.b k))] [(8, [(9, .slice A1 (((obj S.O k).data ++ bs.take (aU S.X bs.length)).length) (c2))])] ?_
 obtain ⟨L2, hL2⟩ : ∃ L2 : HL, L2 = L.data k A1 c2 := ⟨_, rfl⟩
 refine aj.mem (aQ := [.abs (ak (aN (av S.O k (fun o => { o with data := o.data ++ bs.take (aU S.X bs.length) })) L2)), .blk f [vI (S.X.cN), vI (S.X.cB), vI (S.X.cH), vI (S.X.cS), vI (S.X.cZ), .map (some m), vP t, vI (S.X.last), vI (S.X.ah), vI (S.X.used)] 86, .abs (aI Tryz.prog 3 m (aM (aJ L S.idx)) S.idx.length), .abs (aX 156 t S.X.cH S.aq (aJ L S.us)), .abs (ak (iC (aY S.O L) k bR.none)), .abs (ak (bh S.O L)), .abs R, .abs (aG 5 1 A1 (((obj S.O k).data ++ bs.take (aU S.X bs.length)).length) c2 (bI ((obj S.O k).data ++ bs.take (aU S.X bs.length))))]) (fun w hS => hS.LO hL2 (f := (fun o => { o with data := o.data ++ bs.take (aU S.X bs.length) })) (i := 3) (j := 8) (ix := [0, 1, 2, 4, 5, 6, 7]) rfl rfl (by kernel_rfl) rfl (by show (obj S.O k).kind ≠ 0; rw [hkk]; decide) ((d9 (L := L2) (k := k) (o := (fun o => { o with data := o.data ++ bs.take (aU S.X bs.length) }) (obj S.O k)) hkk).trans (by rw [DY hL2, DZ hL2] <;> rfl)) (by show kI (obj S.O k).kind = _; rw [hkk]; rfl)) ?_
 refine aj.mem (aQ := [pD (av S.O k (fun o => { o with data := o.data ++ bs.take (aU S.X bs.length) })) L2, pO (av S.O k (fun o => { o with data := o.data ++ bs.take (aU S.X bs.length) })) L2, pF f m t S.X, pI m L S.idx, pT t S.X.cH S.aq L S.us, pE S.O L, .abs R]) (fun w hS => hS.LP hL2 (f := (fun o => { o with data := o.data ++ bs.take (aU S.X bs.length) })) (i := 4) (j := 7) (ix := [0, 1, 2, 3, 5, 6]) rfl rfl (by kernel_rfl) rfl hkk rfl rfl) ?_
 refine aj.mem (aQ := [.abs (ak (aY (av S.O k (fun o => { o with data := o.data ++ bs.take (aU S.X bs.length) })) L2)), .abs (ak (aN (av S.O k (fun o => { o with data := o.data ++ bs.take (aU S.X bs.length) })) L2)), .blk f [vI (S.X.cN), vI (S.X.cB), vI (S.X.cH), vI (S.X.cS), vI (S.X.cZ), .map (some m), vP t, vI (S.X.last), vI (S.X.ah), vI (S.X.used)] 86, .abs (aI Tryz.prog 3 m (aM (aJ L2 S.idx)) S.idx.length), .abs (aX 156 t S.X.cH S.aq (aJ L2 S.us)), .abs (ak (bh (av S.O k (fun o => { o with data := o.data ++ bs.take (aU S.X bs.length) })) L2)), .abs R]) (fun w hS => by rw [Cl hL2, Cl hL2, show bh (av S.O k (fun o => { o with data := o.data ++ bs.take (aU S.X bs.length) })) L2 = bh S.O L from (kB (O := S.O) (k := k) (f := (fun o => { o with data := o.data ++ bs.take (aU S.X bs.length) })) rfl rfl).trans (IE hL2)]; exact hS) ?_
 have zq : (obj (av S.O k (fun o => { o with data := o.data ++ bs.take (aU S.X bs.length) })) k).kind = 1 := (ia (f := (fun o => { o with data := o.data ++ bs.take (aU S.X bs.length) })) (fun _ => rfl)).trans hkk
 have hbk : L2.b k = L.b k := Gj hL2
 generalize bO : (av S.O k (fun o => { o with data := o.data ++ bs.take (aU S.X bs.length) })) = bH at zq ⊢
 refine NL (ai.np (NX (SR ?_)))
 refine gK 1 [(40, vP (L.b k))] [] ?_
 refine aj.slot 40 (vP (L.b k)) (vP (L2.b k)) (fun _ => by kernel_rfl) (by rw [hbk]) ?_
 refine gK 8 [(45, .agg #[vI (S.X.cS), vI (S.X.cZ)]), (48, .pointer (some ⟨(L2.b k), 4, none⟩))] [(4, A_ 2 f 2)] ?_
 refine Gq 1 [(5, 1), (0, 2)] k S.X.cS S.X.cZ zq (fun cW cu => ?_)
 have ud := ku cu zq
 refine NS ?_
 refine gC 9 [] [(3, a_ 2 f), (5, p_ ⟨[], none, none, none, some (vI (S.X.used + (((aU S.X bs.length) : Nat) : Int)))⟩ [(Value.int .i64 (IntKind.wrap .i64 (S.X.used + (((aU S.X bs.length) : Nat) : Int)))) = (.int .i64 (S.X.used + (((aU S.X bs.length) : Nat) : Int)))] ⟨bF (by omega) (by omega) (by omega), trivial⟩), (8, a_ 2 f)] [(2, [(9, vI (S.X.used + (((aU S.X bs.length) : Nat) : Int)))])] ?_
 refine NS ?_
 refine gK 3 [(6, vI ↑(aU S.X bs.length)), (7, vI 0)] [] ?_
 refine NN (af.ret ?_)
 exact RT (l := [pF f m t { S.X with used := S.X.used + (((aU S.X bs.length) : Nat) : Int) }, pI m L2 S.idx, pT t S.X.cH S.aq L2 S.us, pO cW L2, pD cW L2, pE cW L2]) (.tuple #[vI ↑(aU S.X bs.length), vI 0]) [2, 3, 4, 1, 0, 5, 6] (⟨L2, by subst cu; subst bO; rw [show writeM S k bs = _ from (if_neg (fun e => by rw [e] at hlen; exact absurd hlen (by simp))).trans (if_neg yh)]; exact ⟨rfl, by rw [qq]⟩⟩)
end
end Go.Proofs.YtkiedlmhocglhaaGreatDoor
section
namespace Go.Proofs
open Go.Shelf
def Tryz.lays146_ren : Go.Shelf.Ren := ⟨fun | 146 => 102 | 221 => 145 | 268 => 178 | 138 => 179 | 143 => 180 | 195 => 194 | 197 => 195 | 218 => 196 | 219 => 197 | 260 => 202 | 217 => 181 | 225 => 154 | 224 => 153 | 267 => 203 | 266 => 198 | 314 => 204 | n => n, fun | 9 => 9 | 31 => 111 | 3 => 3 | 4 => 4 | 0 => 0 | 105 => 250 | 21 => 21 | 5 => 5 | 46 => 195 | 119 => 259 | 139 => 262 | 138 => 261 | 146 => 263 | 51 => 224 | n => n, fun | 1 => 0 | 3 => 1 | 4 => 2 | n => n⟩
theorem Tryz.lays146 : Go.Proofs.Lays.n146 Tryz.prog Tryz.lays146_ren := {
  mixed := by kernel_rfl
  f138 := Tryz.func179.trans (congrArg some (by kernel_rfl))
  f143 := Tryz.func180.trans (congrArg some (by kernel_rfl))
  f146 := Tryz.func102.trans (congrArg some (by kernel_rfl))
  f195 := Tryz.func194.trans (congrArg some (by kernel_rfl))
  f197 := Tryz.func195.trans (congrArg some (by kernel_rfl))
  f217 := Tryz.func181.trans (congrArg some (by kernel_rfl))
  f218 := Tryz.func196.trans (congrArg some (by kernel_rfl))
  f219 := Tryz.func197.trans (congrArg some (by kernel_rfl))
  f221 := Tryz.func145.trans (congrArg some (by kernel_rfl))
  f224 := Tryz.func153.trans (congrArg some (by kernel_rfl))
  f225 := Tryz.func154.trans (congrArg some (by kernel_rfl))
  f260 := Tryz.func202.trans (congrArg some (by kernel_rfl))
  f266 := Tryz.func198.trans (congrArg some (by kernel_rfl))
  f267 := Tryz.func203.trans (congrArg some (by kernel_rfl))
  f268 := Tryz.func178.trans (congrArg some (by kernel_rfl))
  f314 := Tryz.func204.trans (congrArg some (by kernel_rfl))
  t0 := Tryz.underlying0
  a0 := Tryz.isAgg0
  z0 := Tryz.sizeOf0
  v0 := Tryz.zeroValue0
  t3 := Tryz.underlying3
  a3 := Tryz.isAgg3
  z3 := Tryz.sizeOf3
  v3 := Tryz.zeroValue3
  t4 := Tryz.underlying4
  a4 := Tryz.isAgg4
  z4 := Tryz.sizeOf4
  v4 := Tryz.zeroValue4
  t5 := Tryz.underlying5
  a5 := Tryz.isAgg5
  z5 := Tryz.sizeOf5
  v5 := Tryz.zeroValue5
  t9 := Tryz.underlying9
  a9 := Tryz.isAgg9
  z9 := Tryz.sizeOf9
  v9 := Tryz.zeroValue9
  t21 := Tryz.underlying21
  a21 := Tryz.isAgg21
  z21 := Tryz.sizeOf21
  v21 := Tryz.zeroValue21
  t31 := Tryz.underlying111
  a31 := Tryz.isAgg111
  z31 := Tryz.sizeOf111
  v31 := Tryz.zeroValue111
  t46 := Tryz.underlying195
  a46 := Tryz.isAgg195
  z46 := Tryz.sizeOf195
  v46 := Tryz.zeroValue195
  t51 := Tryz.underlying224
  a51 := Tryz.isAgg224
  z51 := Tryz.sizeOf224
  v51 := Tryz.zeroValue224
  t105 := Tryz.underlying250
  a105 := Tryz.isAgg250
  z105 := Tryz.sizeOf250
  v105 := Tryz.zeroValue250
  t119 := Tryz.underlying259
  a119 := Tryz.isAgg259
  z119 := Tryz.sizeOf259
  t138 := Tryz.underlying261
  a138 := Tryz.isAgg261
  z138 := Tryz.sizeOf261
  v138 := Tryz.zeroValue261
  t139 := Tryz.underlying262
  a139 := Tryz.isAgg262
  z139 := Tryz.sizeOf262
  v139 := Tryz.zeroValue262
  t146 := Tryz.underlying263
  a146 := Tryz.isAgg263
  z146 := Tryz.sizeOf263
  v146 := Tryz.zeroValue263
  g1 := by kernel_rfl
  g3 := by kernel_rfl
  g4 := by kernel_rfl }
open Go.RowKit Go.Lib in
theorem Tryz.strings_Split (s sep : ByteArray) (m : Int) (w : World) (hs : s.size < 4294967281) (hm : w.cell? ⟨0, 0, none⟩ = some (.int .i64 m)) (h1 : 1 ≤ sep.size) :
    Calls Tryz.prog 102 #[.string s, .string sep] w fun e w' =>
      e = .returned (.slice (some ⟨w.heap.size, 0, none⟩) (Lib.countB s sep + 1) (Lib.countB s sep + 1)) ∧ w' = w.alloc (.cells ((Lib.splitB sep 0 (Lib.countB s sep) s).map Value.string).toArray 9) := Any.strings_Split Tryz.lays146 (by kernel_rfl) s sep m w hs hm h1
end Go.Proofs
end
namespace Go.Proofs.YtkiedlmhocglhaaGreatDoor
section
open Go.RowKit Go.Maps HeapM TabM
def ig (β : Bs) : Prop := ∃ m, Rd β ⟨0, 0, none⟩ (.int .i64 m)
theorem ig.le {β β' : Bs} (h : ig β) (hle : β.le β') : ig β' := h.imp fun _ h => h.le hle
theorem yj (s : ByteArray) : (gA s).length = Lib.countB s slash + 1 := Lib.splitB_all slash (by decide) 0 _ s rfl
theorem um (s : ByteArray) : Lib.countB s slash ≤ s.size := Lib.countB_le slash (by decide) _ s (Nat.le_refl _)
theorem vK (sep : ByteArray) : ∀ (k : Nat) (s : ByteArray), ∀ p ∈ Lib.splitB sep 0 k s, p.size ≤ s.size
  | 0, s, p, hp => by
    rw [Lib.splitB_zero] at hp
    rw [List.mem_singleton.1 hp]; exact Nat.le_refl _
  | k + 1, s, p, hp => by
    rcases Lib.indexB_cases s sep with hix | ⟨i, hix, _⟩
    ·rw [Lib.splitB_miss sep 0 (k + 1) s hix] at hp
     rw [List.mem_singleton.1 hp]; exact Nat.le_refl _
    rw [Lib.splitB_hit sep 0 k s i hix] at hp
    rcases List.mem_cons.1 hp with rfl | hp
    ·rw [ByteArray.size_extract]; omega
    have := vK sep k _ p hp
    rw [ByteArray.size_extract] at this
    omega
theorem Dv {s p : ByteArray} (hp : p ∈ gA s) : p.size ≤ s.size := vK slash _ s p hp
def jN (ps : List ByteArray) : List Value := ps.map Value.string
theorem IV {β : Bs} (hg : ig β) (s : ByteArray) (hs : s.size ≤ 1048576) : Spec Tryz.prog β 102 #[.string s, .string ⟨#[47]⟩] [] (fun v l => ∃ b, v = .slice (some ⟨b, 0, none⟩) (gA s).length (gA s).length ∧ l = [.abs (aG 9 1 (some ⟨b, 0, none⟩) (gA s).length (gA s).length (jN (gA s)))]) :=
  Spec.Bn fun W hW => by
    obtain ⟨m, hg⟩ := hg
    have hm : W.cell? ⟨0, 0, none⟩ = some (.int .i64 m) := (World.cell?_of_block (w := β.w0) (hW.old _ hg.1).2).trans hg.2
    have hl := yj s
    have hc := um s
    refine (Tryz.strings_Split s slash m W (by omega) hm (by decide)).mono ?_
    rintro e w' ⟨rfl, rfl⟩
    refine ⟨_, _, rfl, ⟨W.heap.size, by rw [hl], rfl⟩, (Keeps.refl _ _).alloc _, fun k => k = W.heap.size, ⟨⟨?_, .inr ⟨W.heap.size, (gA s).length, (jN (gA s)).toArray, rfl, Nat.zero_le _, ?_, Nat.le_refl _, ?_, ?_, ?_⟩⟩, fun k => ?_⟩, fun k hk => Nat.le_of_eq hk.symm⟩
    ·simp [jN]
    ·show (W.heap.push _)[W.heap.size]? = _
     simp [jN, gA]
    ·unfold maxLen; omega
    ·first | (simp [jN]; done) | (simp [jN]; exact List.take_of_length_le (by simp))
    ·first | (simp [jN]; done) | (simp [jN]; exact List.take_of_length_le (by simp))
    simp [Value.ownBlock, eq_comm]
theorem Gx {β : Bs} {ps : List ByteArray} (hg : ig β) (s : ByteArray) (hs : s.size ≤ 1048576) (hp : ps = gA s) : Spec Tryz.prog β 102 #[.string s, .string ⟨#[47]⟩] [] (fun v l => ∃ b, v = .slice (some ⟨b, 0, none⟩) ps.length ps.length ∧ l = [.abs (aG 9 1 (some ⟨b, 0, none⟩) ps.length ps.length (jN ps))]) := by
  subst hp; exact IV hg s hs
def pc (ps : List ByteArray) (j : Nat) : ByteArray := ps.getD j ⟨#[]⟩
theorem Gy {ps : List ByteArray} {j : Nat} (hj : j < ps.length) : pc ps j ∈ ps := by
  unfold pc
  rw [List.getD_eq_getElem?_getD, List.getElem?_eq_getElem hj]
  exact List.getElem_mem _
theorem wH {ps : List ByteArray} {j : Nat} (hj : j < ps.length) : (jN ps)[j]? = some (.string (pc ps j)) := by
  unfold jN pc
  rw [List.getElem?_map, List.getD_eq_getElem?_getD, List.getElem?_eq_getElem hj]
  rfl
theorem zx {ps : List ByteArray} {j : Nat} (hj : j < ps.length) : ps.drop j = pc ps j :: ps.drop (j + 1) := by
  unfold pc
  rw [List.getD_eq_getElem?_getD, List.getElem?_eq_getElem hj]
  exact List.drop_eq_getElem_cons hj
theorem Cx {ps : List ByteArray} : (∀ p ∈ ps, bB p) ↔ ∀ j, j < ps.length → bB (pc ps j) := by
  refine ⟨fun h j hj => h _ (Gy hj), fun h p hp => ?_⟩
  obtain ⟨j, hj, rfl⟩ := List.getElem_of_mem hp
  have := h j hj
  unfold pc at this
  rw [List.getD_eq_getElem?_getD, List.getElem?_eq_getElem hj] at this
  exact this
theorem Au {n : ByteArray} (h : bB n) : n.size ≤ 1048576 := Nat.le_trans h.2.1 (by decide)
theorem Cy {O : bJ} : ∀ {ps : List ByteArray} {d : Nat} {e : Int}, iE O d ps = .error e → e ≠ 0
  | [], d, e, h => by cases h; decide
  | [p], d, e, h => by
    unfold iE at h
    split at h
    ·cases h; decide
    cases h
  | p :: q :: r, d, e, h => by
    unfold iE at h
    split at h
    ·cases h; decide
    split at h
    ·cases h; decide
    split at h
    ·cases h; decide
    exact Cy h
theorem Av {S : aE} {d : Nat} (hI : Inv S) (hd : Live S.idx ⟨d, 2⟩) (path : ByteArray) : (∃ e, gJ S.O d path = .error e ∧ e ≠ 0) ∨ ∃ d' name, gJ S.O d path = .ok (d', name) ∧ Live S.idx ⟨d', 2⟩ ∧ (obj S.O d').gone = false ∧ bB name := by
  cases h : gJ S.O d path with
  | error e =>
    refine .inl ⟨e, rfl, ?_⟩
    unfold gJ at h
    split at h
    ·exact Cy h
    cases h; decide
  | ok x =>
    obtain ⟨d', name⟩ := x
    exact .inr ⟨d', name, rfl, zl hI.toInv0 hd h⟩
section way
variable {O : bJ} {d : Nat} {ps : List ByteArray} {j : Nat}
theorem Ax (hj : j + 1 = ps.length) : iE O d (ps.drop j) = if (obj O d).gone = true then .error 170 else .ok (d, pc ps j) := by
  rw [zx (by omega), List.drop_of_length_le (by omega)]
  rfl
theorem qD (hj : j + 1 < ps.length) : iE O d (ps.drop j) = match aR (pc ps j) (obj O d).ah with
    | none => .error 170
    | some t => if t.kind = 3 then .error 174 else if t.kind = 1 then .error 173 else iE O t.k (ps.drop (j + 1)) := by
  rw [zx (j := j) (by omega), zx (j := j + 1) hj]
  rfl
end way
section bytes
variable {P : Program} {β : Bs} {N : Nat} {ops : Array Oper} {k : Nat} {fr : Fr} {hps : List HP} {Q : Post} {d : Option Tmp} {s : ByteArray}
theorem Bs.ok.Ky {β : Bs} {w : World} (h : β.ok w) (F : Nat → Prop) : β.le ⟨fun k => β.O k ∨ F k, w⟩ := ⟨fun _ h => .inl h, h.os, h.tape, h.output, h.size, fun k hk => h.old k hk⟩
theorem aj.Cz {t1 t2 e : TypeId} {x : Operand} (hop : ∀ junk, dR N junk ops fr k = some (.convert t1 t2 x, d)) (hx : ∀ junk, cC N fr junk x = .string s) (h1 : P.underlying t1 = some .string) (h2 : P.underlying t2 = some (.slice e)) (h3 : P.underlying e = some (.int .u8))
    (K : ∀ b cap, s.data.toList.length ≤ cap → aj P β N ops (k + 1) (cG fr d (.slice (some ⟨b, 0, none⟩) s.data.toList.length cap)) (hps ++ [.abs (mw β (fun β' => bW β' (some ⟨b, 0, none⟩) s.data.toList))]) Q) : aj P β N ops k fr hps Q := by
  refine aj.Bp (ι := { p : Nat × Nat // s.data.toList.length ≤ p.2 }) (v := fun p => .slice (some ⟨p.1.1, 0, none⟩) s.data.toList.length p.1.2) (hp' := fun p => hps ++ [.abs (mw β (fun β' => bW β' (some ⟨p.1.1, 0, none⟩) s.data.toList))]) hop (fun o junk w ho hS => ?_) (fun p => K p.1.1 p.1.2 p.2)
  have hr := run_bytes_of_string (P := P) w t1 t2 e s h1 h2 h3
  have hsz : s.data.toList.length = s.size := Array.length_toList ..
  generalize hw : (w.drew.alloc (.cells (bytesRow s (grownCap w s.size 0 e)) e ((bytesRow s (grownCap w s.size 0 e)).size, (bytesRow s (grownCap w s.size 0 e)).size + 1))) = w' at hr
  have hk : Keeps (fun _ => False) w w' := by rw [← hw]; exact (Keeps.refl _ _).drew.alloc _
  have hok := hS.1.keeps hk (fun _ _ h => h)
  have hheap : w'.heap[w.heap.size]? = some (.cells (bytesRow s (grownCap w s.size 0 e)) e ((bytesRow s (grownCap w s.size 0 e)).size, (bytesRow s (grownCap w s.size 0 e)).size + 1)) := by
    rw [← hw]
    show (w.heap.push _)[w.heap.size]? = _
    simp
  have hsize : w.heap.size < w'.heap.size := by
    have := (Array.getElem?_eq_some_iff.1 hheap).1
    exact this
  refine ⟨⟨(w.heap.size, grownCap w s.size 0 e), by rw [hsz]; exact grownCap_ge w s.size 0 e⟩, w', .inl ?_, hS.new (F := fun k => k = w.heap.size) ?_ hk (fun k e => Nat.le_of_eq e.symm)⟩
  ·obtain ⟨dst, op, type, pos, after, guard⟩ := o
   cases ho
   have hr2 : (convert t1 t2 (.string s)).run P w = .ok (.slice (some ⟨w.heap.size, 0, none⟩) s.data.toList.length (grownCap w s.size 0 e)) w' := by rw [hr, hsz]
   simp only [execOp, hx]
   simp [hr2, Result.andThen]
  refine ⟨⟨fun k => β.O k ∨ k = w.heap.size, w'⟩, hok.Ky _, fun _ h => h, fun _ h => .inr h, Nat.le_refl _, fun k hk => ⟨by rw [hk]; exact hsize, rfl⟩, fun j v hj => ⟨rfl, .inr rfl, ?_⟩⟩
  show World.cell? w' ⟨w.heap.size, 0 + j, none⟩ = some v
  have hj2 := br hj
  unfold World.cell?
  rw [hheap]
  unfold bI at hj hj2
  rw [List.length_map] at hj2
  rw [List.getElem?_map, List.getElem?_eq_getElem hj2] at hj
  simp only [Option.map_some, Option.some.injEq] at hj
  subst hj
  unfold bytesRow
  rw [Nat.zero_add]
  simp only [Option.isSome_none, Bool.false_eq_true, if_false]
  have hj3 : j < s.data.size := by rw [← Array.length_toList]; exact hj2
  rw [Array.getElem?_append_left (by simpa using hj3)]
  simp [rV]
  exact ⟨_, Array.getElem?_eq_getElem hj3, rfl⟩
end bytes
theorem yq {β : Bs} (S : aE) (L : HL) (f m t : Nat) (hI : Inv S) (k : Nat) (hk : Live S.idx ⟨k, 1⟩) (A : Option Addr) (c : Nat) (bs : List UInt8) (hbl : bs.length ≤ 1099511627776) (hbc : bs.length ≤ c) :
    Spec Tryz.prog β 57 #[vP f, vP (L.b k), .slice A bs.length c] (.abs (mw β (fun β' => bW β' A bs)) :: pA f m t L S) (fun v l => ∃ L2, v = .tuple #[vI (writeM S k bs).1, vI (writeM S k bs).2.1] ∧ l = pA f m t L2 (writeM S k bs).2.2) :=
  Spec.EK fun _ _ hA => Ar S L f m t hI k hk A c bs hA hbl hbc
def wJ (L : HL) : Except Int (Nat × ByteArray) → Value
  | .error e => .tuple #[.pointer none, .string ⟨#[]⟩, .int .i64 e]
  | .ok (d, p) => .tuple #[.pointer (some ⟨L.b d, 0, none⟩), .string p, .int .i64 0]
end
section
open Go.RowKit Go.Maps HeapM TabM
attribute [local irreducible] aj aS af ai
abbrev jI (t) (S : aE) (L : HL) := (pT t S.X.cH S.aq L S.us : HP)
abbrev lX (m : Nat) (L : HL) (S : aE) (cb : Nat) (c) (R : bR) := ([pI m L S.idx, pD S.O L, pE S.O L, pC cb c, .abs R] : List HP)
abbrev JY (f : Nat) (c : aT) := ([(8, vP f), (12, vI (c.handle)), (16, .string c.name)] : Fr)
abbrev CA (L : HL) (d : Nat) := ([(5, vP (L.b d)), (6, vI 0)] : Fr)
abbrev mM (f : Nat) (m : Nat) (t) (S : aE) (L : HL) := ([pF f m t S.X, jI t S L, pO S.O L] : List HP)
abbrev Gz (e) := ([(5, .pointer none), (6, vI (e))] : Fr)
theorem fR {β : Bs} (S : aE) (L : HL) (f m t : Nat) (hI : Inv S) (cb : Nat) (c : aT) (hC : fD β c) :
    Spec Tryz.prog β 133 #[vP f, vP cb] ((pA f m t L S) ++ [pC cb c]) (fun v l => v = OI L (eY S.O S.us c) ∧ l = ((pA f m t L S) ++ [pC cb c])) := by
 refine Spec.enter Tryz.func133 rfl Tryz.ntmps133 (Nat.le_of_ble_eq_true rfl) (fun R => ?_)
 refine SR ?_
 refine gK 2 [] [] ?_
 refine NN (af.seq ?_)
 refine af.bG (by kernel_rfl) (by kernel_rfl) ?_
 refine gQ 9 [(10, vP f), (14, vI (c.handle)), (18, .string c.name)] [(4, a_ 6 cb), (8, a_ 6 cb)] ?_
 rcases jH hI.toInv0 c.handle c.name 64 with ⟨e, hab, hne⟩ | ⟨d, hab, hd, fZ, hgn, cE⟩
 ·refine aS.call (f := 134) (args := #[vP f, vI (c.handle), .string c.name, vI 64]) (d := (some 19)) (pre := (mM f m t S L)) (R := (lX m L S cb c R)) (pk := [0, 2, 3, 1, 4, 5, 6, 7]) (gF := [0, 3, 1, 2, 4, 5, 6, 7]) (v0 := .tuple #[.pointer none, vI (e)]) (fun _ => by kernel_rfl) ((by have h := cY S L f m t hI c.handle hC.hw c.name hC.nm 64 (β := β); rw [hab] at h; exact h)) rfl (by kernel_rfl) rfl (by kernel_rfl) (fun _ _ h => h) ?_
  refine gQ 5 [(6, .pointer none), (7, vI (e))] [] ?_
  refine NQ (NX (af.seq (SR ?_)))
  refine gK 2 [(23, .bool (!(decide ((e : Int) = (0 : Int)))))] [] ?_
  refine NN ?_
  refine af.cI (p := (e : Int) = (0 : Int)) (fun _ => by kernel_rfl) (fun h23 => ?_) (fun h23 => ?_)
  ·refine SR ?_
   refine gK 3 [(4, .nilIface), (5, vI (e))] [] ?_
   refine NN (af.ret (ai.ar ?_))
   exact RT (.tuple #[.nilIface, vI (e)]) [0, 1, 2, 3, 4, 5, 6, 7] (⟨by rw [show eY S.O S.us c = .error e by unfold eY; rw [hab]]; rfl, rfl⟩)
  exact absurd h23 hne
 have hkd : (obj S.O d).kind = 2 := hI.kind hd
 refine aS.call (f := 134) (args := #[vP f, vI (c.handle), .string c.name, vI 64]) (d := (some 19)) (pre := (mM f m t S L)) (R := (lX m L S cb c R)) (pk := [0, 2, 3, 1, 4, 5, 6, 7]) (gF := [0, 3, 1, 2, 4, 5, 6, 7]) (v0 := .tuple #[vP (L.b d), vI 0]) (fun _ => by kernel_rfl) ((by have h := cY S L f m t hI c.handle hC.hw c.name hC.nm 64 (β := β); rw [hab] at h; exact h)) rfl (by kernel_rfl) rfl (by kernel_rfl) (fun _ _ h => h) ?_
 refine gQ 5 [(6, vP (L.b d)), (7, vI 0)] [] ?_
 refine NQ (NX (af.seq (SR ?_)))
 refine gK 2 [(23, .bool false)] [] ?_
 refine NN ?_
 refine CF ?_
 refine af.skip (NX (af.seq ?_))
 have hel : (obj S.O d).ah.length ≤ 8192 := hI.eG hd
 have Nx := hC.nm
 rcases hI.jS hd c.name with hlk | ⟨tk, hlk, hlv⟩ | ⟨tk, hlk, hlv⟩ | ⟨tk, hlk, hlv⟩
 ·refine af.bG (by kernel_rfl) (by kernel_rfl) ?_
  refine gQ 8 [(28, .map (some (L.m d))), (32, .string c.name)] [(3, v_ 3 (bw L hkd)), (7, a_ 6 cb)] ?_
  refine om 5 hkd hlk ?_
  refine gQ 1 [(8, .nilIface)] [] ?_
  refine NQ (NX (af.seq (SR ?_)))
  refine gK 2 [(35, .bool true)] [] ?_
  refine NN ?_
  refine CT ?_
  refine SR ?_
  refine gK 2 [(4, .nilIface), (5, vI 170)] [] ?_
  refine NN (af.ret (ai.ar ?_))
  exact RT (.tuple #[.nilIface, vI 170]) [0, 1, 2, 3, 4, 5, 6, 7] (⟨by rw [show eY S.O S.us c = .error 170 by unfold eY; rw [hab]; simp only; rw [hlk]]; rfl, rfl⟩)
 ·have hkt : (obj S.O tk).kind = 1 := hI.kind hlv
  refine af.bG (by kernel_rfl) (by kernel_rfl) ?_
  refine gQ 8 [(28, .map (some (L.m d))), (32, .string c.name)] [(3, v_ 3 (bw L hkd)), (7, a_ 6 cb)] ?_
  refine om 5 hkd hlk ?_
  refine gQ 1 [(8, .iface 89 (vP (L.b tk)))] [] ?_
  refine NQ (NX (af.seq (SR ?_)))
  refine gK 2 [(35, .bool false)] [] ?_
  refine NN ?_
  refine CF ?_
  refine af.skip (NX (SR ?_))
  refine gK 3 [(4, .iface 89 (vP (L.b tk))), (5, vI 0)] [] ?_
  refine NN (af.ret ?_)
  exact RT (.tuple #[.iface 89 (vP (L.b tk)), vI 0]) [0, 1, 2, 3, 4, 5, 6, 7] (⟨by rw [show eY S.O S.us c = .ok ⟨tk, 1⟩ by unfold eY; rw [hab]; simp only; rw [hlk]]; rfl, rfl⟩)
 ·have hkt : (obj S.O tk).kind = 2 := hI.kind hlv
  refine af.bG (by kernel_rfl) (by kernel_rfl) ?_
  refine gQ 8 [(28, .map (some (L.m d))), (32, .string c.name)] [(3, v_ 3 (bw L hkd)), (7, a_ 6 cb)] ?_
  refine om 5 hkd hlk ?_
  refine gQ 1 [(8, .iface 96 (vP (L.b tk)))] [] ?_
  refine NQ (NX (af.seq (SR ?_)))
  refine gK 2 [(35, .bool false)] [] ?_
  refine NN ?_
  refine CF ?_
  refine af.skip (NX (SR ?_))
  refine gK 3 [(4, .iface 96 (vP (L.b tk))), (5, vI 0)] [] ?_
  refine NN (af.ret ?_)
  exact RT (.tuple #[.iface 96 (vP (L.b tk)), vI 0]) [0, 1, 2, 3, 4, 5, 6, 7] (⟨by rw [show eY S.O S.us c = .ok ⟨tk, 2⟩ by unfold eY; rw [hab]; simp only; rw [hlk]]; rfl, rfl⟩)
 have hkt : (obj S.O tk).kind = 3 := hI.kind hlv
 refine af.bG (by kernel_rfl) (by kernel_rfl) ?_
 refine gQ 8 [(28, .map (some (L.m d))), (32, .string c.name)] [(3, v_ 3 (bw L hkd)), (7, a_ 6 cb)] ?_
 refine om 5 hkd hlk ?_
 refine gQ 1 [(8, .iface 93 (vP (L.b tk)))] [] ?_
 refine NQ (NX (af.seq (SR ?_)))
 refine gK 2 [(35, .bool false)] [] ?_
 refine NN ?_
 refine CF ?_
 refine af.skip (NX (SR ?_))
 refine gK 3 [(4, .iface 93 (vP (L.b tk))), (5, vI 0)] [] ?_
 refine NN (af.ret ?_)
 exact RT (.tuple #[.iface 93 (vP (L.b tk)), vI 0]) [0, 1, 2, 3, 4, 5, 6, 7] (⟨by rw [show eY S.O S.us c = .ok ⟨tk, 3⟩ by unfold eY; rw [hab]; simp only; rw [hlk]]; rfl, rfl⟩)
theorem EU {β : Bs} (S : aE) (L : HL) (f m t : Nat) (hI : Inv S) (cb : Nat) (c : aT) (hC : fD β c) :
    Spec Tryz.prog β 78 #[vP f, vP cb] ((pA f m t L S) ++ [pC cb c]) (fun v l => ∃ L2, v = vI (iw S c).1 ∧ l = ((pA f m t L2 ((iw S c).2.1)) ++ [.blk cb (fV ((iw S c).2.2)) 43])) := by
 have hX := hI.hX
 refine Spec.enter Tryz.func78 rfl Tryz.ntmps78 (Nat.le_of_ble_eq_true rfl) (fun R => ?_)
 refine SR ?_
 refine gK 1 [] [] ?_
 refine NN (af.seq ?_)
 rcases hI.LF c.other with hix | ⟨tk, hix, hlv⟩ | ⟨tk, hix, hlv⟩ | ⟨tk, hix, hlv⟩
 ·refine af.bG (by kernel_rfl) (by kernel_rfl) ?_
  refine gQ 8 [(10, .map (some m)), (14, vI (c.other))] [(3, a_ 0 f), (7, a_ 6 cb)] ?_
  refine aS.dM 1 (d := (some 15)) (t := 80) (K := 3) (E := 84) (b := m) (n := S.idx.length) (f := (aM (aJ L S.idx))) (x := (.tmp 10)) (ix := (.tmp 14)) (key := .int .i64 (c.other)) (z := .nilIface) (kl := (.int .i64 c.other)) (r := none) (fun _ => by kernel_rfl) (by kernel_rfl) (fun _ => by kernel_rfl) (fun _ => by kernel_rfl) dF Tryz.underlying80 (fun _ => by kernel_rfl) (gE hC.ow) (by rw [dN, hix]; rfl) ?_
  refine gQ 1 [(5, .nilIface)] [] ?_
  refine NQ (NX (af.seq (SR ?_)))
  refine gK 2 [(17, .bool true)] [] ?_
  refine NN ?_
  refine CT ?_
  refine SR ?_
  refine gK 1 [(4, vI 141)] [] ?_
  refine NN (af.ret (ai.ar ?_))
  exact RT (vI 141) [0, 1, 2, 3, 4, 5, 6, 7] (⟨L, by rw [show (iw S c) = (141, S, c) by unfold iw; rw [hix]] <;> exact ⟨rfl, rfl⟩⟩)
 ·have hkt : (obj S.O tk).kind = 1 := hI.kind hlv
  refine af.bG (by kernel_rfl) (by kernel_rfl) ?_
  refine gQ 8 [(10, .map (some m)), (14, vI (c.other))] [(3, a_ 0 f), (7, a_ 6 cb)] ?_
  refine aS.dM 1 (d := (some 15)) (t := 80) (K := 3) (E := 84) (b := m) (n := S.idx.length) (f := (aM (aJ L S.idx))) (x := (.tmp 10)) (ix := (.tmp 14)) (key := .int .i64 (c.other)) (z := .nilIface) (kl := (.int .i64 c.other)) (r := (some (cF L ⟨tk, 1⟩))) (fun _ => by kernel_rfl) (by kernel_rfl) (fun _ => by kernel_rfl) (fun _ => by kernel_rfl) dF Tryz.underlying80 (fun _ => by kernel_rfl) (gE hC.ow) (by rw [dN, hix]; rfl) ?_
  refine gQ 1 [(5, .iface 89 (vP (L.b tk)))] [] ?_
  refine NQ (NX (af.seq (SR ?_)))
  refine gK 2 [(17, .bool false)] [] ?_
  refine NN ?_
  refine CF ?_
  refine af.skip (NX (af.seq (SR ?_)))
  refine gK 1 [(18, .iface 89 (vP (L.b tk)))] [] ?_
  refine gL [] (jC (vP (L.b tk))) ?_
  rintro _ _ ⟨rfl, rfl⟩
  refine gK 1 [(20, .bool true)] [] ?_
  refine NN ?_
  refine CT ?_
  refine SR ?_
  refine gK 1 [(4, vI 173)] [] ?_
  refine NN (af.ret (ai.ar ?_))
  exact RT (vI 173) [0, 1, 2, 3, 4, 5, 6, 7] (⟨L, by rw [show (iw S c) = (173, S, c) by unfold iw; rw [hix]; exact if_neg (by simp)] <;> exact ⟨rfl, rfl⟩⟩)
 ·have hkt : (obj S.O tk).kind = 2 := hI.kind hlv
  refine af.bG (by kernel_rfl) (by kernel_rfl) ?_
  refine gQ 8 [(10, .map (some m)), (14, vI (c.other))] [(3, a_ 0 f), (7, a_ 6 cb)] ?_
  refine aS.dM 1 (d := (some 15)) (t := 80) (K := 3) (E := 84) (b := m) (n := S.idx.length) (f := (aM (aJ L S.idx))) (x := (.tmp 10)) (ix := (.tmp 14)) (key := .int .i64 (c.other)) (z := .nilIface) (kl := (.int .i64 c.other)) (r := (some (cF L ⟨tk, 2⟩))) (fun _ => by kernel_rfl) (by kernel_rfl) (fun _ => by kernel_rfl) (fun _ => by kernel_rfl) dF Tryz.underlying80 (fun _ => by kernel_rfl) (gE hC.ow) (by rw [dN, hix]; rfl) ?_
  refine gQ 1 [(5, .iface 96 (vP (L.b tk)))] [] ?_
  refine NQ (NX (af.seq (SR ?_)))
  refine gK 2 [(17, .bool false)] [] ?_
  refine NN ?_
  refine CF ?_
  refine af.skip (NX (af.seq (SR ?_)))
  refine gK 1 [(18, .iface 96 (vP (L.b tk)))] [] ?_
  refine gL [] (jD (vP (L.b tk))) ?_
  rintro _ _ ⟨rfl, rfl⟩
  refine gK 1 [(20, .bool false)] [] ?_
  refine NN ?_
  refine CF ?_
  refine af.skip (NX (SR ?_))
  refine gK 1 [] [] ?_
  refine NS ?_
  refine gK 3 [(22, vP cb), (23, vP f), (24, .iface 96 (vP (L.b tk)))] [] ?_
  refine gL [0, 2, 3] (pW S L f m t ⟨tk, 2⟩ hkt (by simp) (by have := hI.Al hlv; simp only at this ⊢; omega)) ?_
  rintro _ _ ⟨rfl, rfl⟩
  refine gC 7 [(6, vI ((openM S ⟨tk, 2⟩).2.1))] [(5, a_ 6 cb)] [(6, [(12, vI ((openM S ⟨tk, 2⟩).1))])] ?_
  refine NS ?_
  refine aj.mem (aQ := [.blk f [vI (S.X.cN), vI (S.X.cB), vI (S.X.cH), vI (S.X.cS), vI (S.X.cZ), .map (some m), vP t, vI (S.X.last), vI (S.X.ah), vI (S.X.used)] 86, .abs (aX 156 t S.X.cH ((openM S ⟨tk, 2⟩).2.2.aq) (aJ L ((openM S ⟨tk, 2⟩).2.2.us))), .abs (ak (aN ((openM S ⟨tk, 2⟩).2.2.O) L)), .abs (aI Tryz.prog 3 m (aM (aJ L S.idx)) S.idx.length), .abs (ak (aY ((openM S ⟨tk, 2⟩).2.2.O) L)), .abs (ak (bh ((openM S ⟨tk, 2⟩).2.2.O) L)), .blk cb [vI (c.op), vI (c.handle), vI (c.other), .string c.name, .string c.text, .slice c.dA (c.data.length) (c.dC), vI (c.mode), vI (c.uid), vI (c.gid), vI (c.sec), vI (c.nano), vI (c.code), vI ((openM S ⟨tk, 2⟩).1)] 43, .abs R]) (fun w hS => by rw [wD, wE]; exact hS) ?_
  refine gK 2 [(4, vI ((openM S ⟨tk, 2⟩).2.1))] [] ?_
  refine NN (af.ret ?_)
  exact RT (vI ((openM S ⟨tk, 2⟩).2.1)) [0, 3, 1, 2, 4, 5, 6, 7] (⟨L, by rw [show (iw S c) = ((openM S ⟨tk, 2⟩).2.1, (openM S ⟨tk, 2⟩).2.2, { c with answer := (openM S ⟨tk, 2⟩).1 }) by unfold iw; rw [hix]; exact if_pos rfl] <;> exact ⟨rfl, rfl⟩⟩)
 have hkt : (obj S.O tk).kind = 3 := hI.kind hlv
 refine af.bG (by kernel_rfl) (by kernel_rfl) ?_
 refine gQ 8 [(10, .map (some m)), (14, vI (c.other))] [(3, a_ 0 f), (7, a_ 6 cb)] ?_
 refine aS.dM 1 (d := (some 15)) (t := 80) (K := 3) (E := 84) (b := m) (n := S.idx.length) (f := (aM (aJ L S.idx))) (x := (.tmp 10)) (ix := (.tmp 14)) (key := .int .i64 (c.other)) (z := .nilIface) (kl := (.int .i64 c.other)) (r := (some (cF L ⟨tk, 3⟩))) (fun _ => by kernel_rfl) (by kernel_rfl) (fun _ => by kernel_rfl) (fun _ => by kernel_rfl) dF Tryz.underlying80 (fun _ => by kernel_rfl) (gE hC.ow) (by rw [dN, hix]; rfl) ?_
 refine gQ 1 [(5, .iface 93 (vP (L.b tk)))] [] ?_
 refine NQ (NX (af.seq (SR ?_)))
 refine gK 2 [(17, .bool false)] [] ?_
 refine NN ?_
 refine CF ?_
 refine af.skip (NX (af.seq (SR ?_)))
 refine gK 1 [(18, .iface 93 (vP (L.b tk)))] [] ?_
 refine gL [] (j7 (vP (L.b tk))) ?_
 rintro _ _ ⟨rfl, rfl⟩
 refine gK 1 [(20, .bool true)] [] ?_
 refine NN ?_
 refine CT ?_
 refine SR ?_
 refine gK 1 [(4, vI 173)] [] ?_
 refine NN (af.ret (ai.ar ?_))
 exact RT (vI 173) [0, 1, 2, 3, 4, 5, 6, 7] (⟨L, by rw [show (iw S c) = (173, S, c) by unfold iw; rw [hix]; exact if_neg (by simp)] <;> exact ⟨rfl, rfl⟩⟩)
theorem AO {β : Bs} (S : aE) (L : HL) (f m t : Nat) (hI : Inv S) (cb : Nat) (c : aT) (hC : fD β c) :
    Spec Tryz.prog β 79 #[vP f, vP cb] ((pA f m t L S) ++ [pC cb c]) (fun v l => ∃ L2, v = vI (dU S c).1 ∧ l = ((pA f m t L2 ((dU S c).2.1)) ++ [.blk cb (fV ((dU S c).2.2)) 43])) := by
 have hX := hI.hX
 refine Spec.enter Tryz.func79 rfl Tryz.ntmps79 (Nat.le_of_ble_eq_true rfl) (fun R => ?_)
 refine SR ?_
 refine gK 1 [] [] ?_
 refine NS ?_
 refine gK 2 [(8, vP f), (9, vP cb)] [] ?_
 rcases xP hI.toInv0 c with ⟨e, hnm, hne⟩ | ⟨tk, hnm, hlv⟩ | ⟨tk, hnm, hlv⟩ | ⟨tk, hnm, hlv⟩
 ·refine gL (f := 133) (args := #[vP f, vP cb]) (pre := ((pA f m t L S) ++ [pC cb c])) [0, 1, 2, 3, 4, 5, 6] ((by have h := fR S L f m t hI cb c hC (β := β); rw [hnm] at h; exact h)) ?_
  rintro _ _ ⟨rfl, rfl⟩
  refine gK 5 [(5, .nilIface), (6, vI (e))] [] ?_
  refine NN (af.seq (SR ?_))
  refine gK 2 [(14, .bool (!(decide ((e : Int) = (0 : Int)))))] [] ?_
  refine NN ?_
  refine af.cI (p := (e : Int) = (0 : Int)) (fun _ => by kernel_rfl) (fun gH => ?_) (fun gH => ?_)
  ·refine SR ?_
   refine gK 2 [(4, vI (e))] [] ?_
   refine NN (af.ret (ai.ar ?_))
   exact RT (vI (e)) [0, 1, 2, 3, 4, 5, 6, 7] (⟨L, by rw [show (dU S c) = (e, S, c) by unfold dU; rw [hnm]] <;> exact ⟨rfl, rfl⟩⟩)
  exact absurd gH hne
 ·have hkt : (obj S.O tk).kind = 1 := hI.kind hlv
  refine gL (f := 133) (args := #[vP f, vP cb]) (pre := ((pA f m t L S) ++ [pC cb c])) [0, 1, 2, 3, 4, 5, 6] ((by have h := fR S L f m t hI cb c hC (β := β); rw [hnm] at h; exact h)) ?_
  rintro _ _ ⟨rfl, rfl⟩
  refine gK 5 [(5, .iface 89 (vP (L.b tk))), (6, vI 0)] [] ?_
  refine NN (af.seq (SR ?_))
  refine gK 2 [(14, .bool false)] [] ?_
  refine NN ?_
  refine CF ?_
  refine af.skip (NX (af.seq (SR ?_)))
  refine gK 1 [(16, .iface 89 (vP (L.b tk)))] [] ?_
  refine NN (af.block (SR ?_))
  refine gK 3 [(18, .bool false)] [] ?_
  refine NN ?_
  refine CF ?_
  refine SR ?_
  refine gK 3 [(21, .bool true)] [] ?_
  refine NN ?_
  refine CT ?_
  refine SR ?_
  refine gK 1 [(4, vI 173)] [] ?_
  refine NN (af.ret (ai.aH (ai.ar ?_)))
  exact RT (vI 173) [0, 1, 2, 3, 4, 5, 6, 7] (⟨L, by rw [show (dU S c) = (173, S, c) by unfold dU; rw [hnm]; exact (if_neg (by simp)).trans (if_pos rfl)] <;> exact ⟨rfl, rfl⟩⟩)
 ·have hkt : (obj S.O tk).kind = 2 := hI.kind hlv
  refine gL (f := 133) (args := #[vP f, vP cb]) (pre := ((pA f m t L S) ++ [pC cb c])) [0, 1, 2, 3, 4, 5, 6] ((by have h := fR S L f m t hI cb c hC (β := β); rw [hnm] at h; exact h)) ?_
  rintro _ _ ⟨rfl, rfl⟩
  refine gK 5 [(5, .iface 96 (vP (L.b tk))), (6, vI 0)] [] ?_
  refine NN (af.seq (SR ?_))
  refine gK 2 [(14, .bool false)] [] ?_
  refine NN ?_
  refine CF ?_
  refine af.skip (NX (af.seq (SR ?_)))
  refine gK 1 [(16, .iface 96 (vP (L.b tk)))] [] ?_
  refine NN (af.block (SR ?_))
  refine gK 3 [(18, .bool false)] [] ?_
  refine NN ?_
  refine CF ?_
  refine SR ?_
  refine gK 3 [(21, .bool false)] [] ?_
  refine NN ?_
  refine CF ?_
  refine af.skip (ai.aP (NX (SR ?_)))
  refine gK 3 [(24, vP cb), (25, vP f), (26, .iface 96 (vP (L.b tk)))] [] ?_
  refine gL [0, 2, 3] (pW S L f m t ⟨tk, 2⟩ hkt (by simp) (by have := hI.Al hlv; simp only at this ⊢; omega)) ?_
  rintro _ _ ⟨rfl, rfl⟩
  refine gC 7 [(6, vI ((openM S ⟨tk, 2⟩).2.1))] [(5, a_ 6 cb)] [(6, [(12, vI ((openM S ⟨tk, 2⟩).1))])] ?_
  refine NS ?_
  refine aj.mem (aQ := [.blk f [vI (S.X.cN), vI (S.X.cB), vI (S.X.cH), vI (S.X.cS), vI (S.X.cZ), .map (some m), vP t, vI (S.X.last), vI (S.X.ah), vI (S.X.used)] 86, .abs (aX 156 t S.X.cH ((openM S ⟨tk, 2⟩).2.2.aq) (aJ L ((openM S ⟨tk, 2⟩).2.2.us))), .abs (ak (aN ((openM S ⟨tk, 2⟩).2.2.O) L)), .abs (aI Tryz.prog 3 m (aM (aJ L S.idx)) S.idx.length), .abs (ak (aY ((openM S ⟨tk, 2⟩).2.2.O) L)), .abs (ak (bh ((openM S ⟨tk, 2⟩).2.2.O) L)), .blk cb [vI (c.op), vI (c.handle), vI (c.other), .string c.name, .string c.text, .slice c.dA (c.data.length) (c.dC), vI (c.mode), vI (c.uid), vI (c.gid), vI (c.sec), vI (c.nano), vI (c.code), vI ((openM S ⟨tk, 2⟩).1)] 43, .abs R]) (fun w hS => by rw [wD, wE]; exact hS) ?_
  refine gK 2 [(4, vI ((openM S ⟨tk, 2⟩).2.1))] [] ?_
  refine NN (af.ret ?_)
  exact RT (vI ((openM S ⟨tk, 2⟩).2.1)) [0, 3, 1, 2, 4, 5, 6, 7] (⟨L, by rw [show (dU S c) = ((openM S ⟨tk, 2⟩).2.1, (openM S ⟨tk, 2⟩).2.2, { c with answer := (openM S ⟨tk, 2⟩).1 }) by unfold dU; rw [hnm]; exact (if_neg (by simp)).trans (if_neg (by simp))] <;> exact ⟨rfl, rfl⟩⟩)
 have hkt : (obj S.O tk).kind = 3 := hI.kind hlv
 refine gL (f := 133) (args := #[vP f, vP cb]) (pre := ((pA f m t L S) ++ [pC cb c])) [0, 1, 2, 3, 4, 5, 6] ((by have h := fR S L f m t hI cb c hC (β := β); rw [hnm] at h; exact h)) ?_
 rintro _ _ ⟨rfl, rfl⟩
 refine gK 5 [(5, .iface 93 (vP (L.b tk))), (6, vI 0)] [] ?_
 refine NN (af.seq (SR ?_))
 refine gK 2 [(14, .bool false)] [] ?_
 refine NN ?_
 refine CF ?_
 refine af.skip (NX (af.seq (SR ?_)))
 refine gK 1 [(16, .iface 93 (vP (L.b tk)))] [] ?_
 refine NN (af.block (SR ?_))
 refine gK 3 [(18, .bool true)] [] ?_
 refine NN ?_
 refine CT ?_
 refine SR ?_
 refine gK 1 [(4, vI 174)] [] ?_
 refine NN (af.ret (ai.aH (ai.ar ?_)))
 exact RT (vI 174) [0, 1, 2, 3, 4, 5, 6, 7] (⟨L, by rw [show (dU S c) = (174, S, c) by unfold dU; rw [hnm]; exact if_pos rfl] <;> exact ⟨rfl, rfl⟩⟩)
theorem zy {β : Bs} (S : aE) (L : HL) (f m t : Nat) (hI : Inv S) (cb : Nat) (c : aT) (hC : fD β c) :
    Spec Tryz.prog β 80 #[vP f, vP cb] ((pA f m t L S) ++ [pC cb c]) (fun v l => ∃ L2, v = vI (dL S c).1 ∧ l = ((pA f m t L2 ((dL S c).2.1)) ++ [.blk cb (fV ((dL S c).2.2)) 43])) := by
 have hX := hI.hX
 refine Spec.enter Tryz.func80 rfl Tryz.ntmps80 (Nat.le_of_ble_eq_true rfl) (fun R => ?_)
 refine SR ?_
 refine gK 1 [] [] ?_
 refine NS ?_
 refine gK 2 [(8, vP f), (9, vP cb)] [] ?_
 rcases xP hI.toInv0 c with ⟨e, hnm, hne⟩ | ⟨tk, hnm, hlv⟩ | ⟨tk, hnm, hlv⟩ | ⟨tk, hnm, hlv⟩
 ·refine gL (f := 133) (args := #[vP f, vP cb]) (pre := ((pA f m t L S) ++ [pC cb c])) [0, 1, 2, 3, 4, 5, 6] ((by have h := fR S L f m t hI cb c hC (β := β); rw [hnm] at h; exact h)) ?_
  rintro _ _ ⟨rfl, rfl⟩
  refine gK 5 [(5, .nilIface), (6, vI (e))] [] ?_
  refine NN (af.seq (SR ?_))
  refine gK 2 [(14, .bool (!(decide ((e : Int) = (0 : Int)))))] [] ?_
  refine NN ?_
  refine af.cI (p := (e : Int) = (0 : Int)) (fun _ => by kernel_rfl) (fun gH => ?_) (fun gH => ?_)
  ·refine SR ?_
   refine gK 2 [(4, vI (e))] [] ?_
   refine NN (af.ret (ai.ar ?_))
   exact RT (vI (e)) [0, 1, 2, 3, 4, 5, 6, 7] (⟨L, by rw [show (dL S c) = (e, S, c) by unfold dL; rw [hnm]] <;> exact ⟨rfl, rfl⟩⟩)
  exact absurd gH hne
 ·have hkt : (obj S.O tk).kind = 1 := hI.kind hlv
  refine gL (f := 133) (args := #[vP f, vP cb]) (pre := ((pA f m t L S) ++ [pC cb c])) [0, 1, 2, 3, 4, 5, 6] ((by have h := fR S L f m t hI cb c hC (β := β); rw [hnm] at h; exact h)) ?_
  rintro _ _ ⟨rfl, rfl⟩
  refine gK 5 [(5, .iface 89 (vP (L.b tk))), (6, vI 0)] [] ?_
  refine NN (af.seq (SR ?_))
  refine gK 2 [(14, .bool false)] [] ?_
  refine NN ?_
  refine CF ?_
  refine af.skip (NX (af.seq (SR ?_)))
  refine gK 1 [(16, .iface 89 (vP (L.b tk)))] [] ?_
  refine NN (af.block (SR ?_))
  refine gK 3 [(18, .bool false)] [] ?_
  refine NN ?_
  refine CF ?_
  refine SR ?_
  refine gK 3 [(21, .bool false)] [] ?_
  refine NN ?_
  refine CF ?_
  refine af.skip (ai.aP (NX (SR ?_)))
  refine gK 3 [(24, vP cb), (25, vP f), (26, .iface 89 (vP (L.b tk)))] [] ?_
  refine gL [0, 2, 3] (pW S L f m t ⟨tk, 1⟩ hkt (by simp) (by have := hI.Al hlv; simp only at this ⊢; omega)) ?_
  rintro _ _ ⟨rfl, rfl⟩
  refine gC 7 [(6, vI ((openM S ⟨tk, 1⟩).2.1))] [(5, a_ 6 cb)] [(6, [(12, vI ((openM S ⟨tk, 1⟩).1))])] ?_
  refine NS ?_
  refine aj.mem (aQ := [.blk f [vI (S.X.cN), vI (S.X.cB), vI (S.X.cH), vI (S.X.cS), vI (S.X.cZ), .map (some m), vP t, vI (S.X.last), vI (S.X.ah), vI (S.X.used)] 86, .abs (aX 156 t S.X.cH ((openM S ⟨tk, 1⟩).2.2.aq) (aJ L ((openM S ⟨tk, 1⟩).2.2.us))), .abs (ak (aN ((openM S ⟨tk, 1⟩).2.2.O) L)), .abs (aI Tryz.prog 3 m (aM (aJ L S.idx)) S.idx.length), .abs (ak (aY ((openM S ⟨tk, 1⟩).2.2.O) L)), .abs (ak (bh ((openM S ⟨tk, 1⟩).2.2.O) L)), .blk cb [vI (c.op), vI (c.handle), vI (c.other), .string c.name, .string c.text, .slice c.dA (c.data.length) (c.dC), vI (c.mode), vI (c.uid), vI (c.gid), vI (c.sec), vI (c.nano), vI (c.code), vI ((openM S ⟨tk, 1⟩).1)] 43, .abs R]) (fun w hS => by rw [wD, wE]; exact hS) ?_
  refine gK 2 [(4, vI ((openM S ⟨tk, 1⟩).2.1))] [] ?_
  refine NN (af.ret ?_)
  exact RT (vI ((openM S ⟨tk, 1⟩).2.1)) [0, 3, 1, 2, 4, 5, 6, 7] (⟨L, by rw [show (dL S c) = ((openM S ⟨tk, 1⟩).2.1, (openM S ⟨tk, 1⟩).2.2, { c with answer := (openM S ⟨tk, 1⟩).1 }) by unfold dL; rw [hnm]; exact (if_neg (by simp)).trans (if_neg (by simp))] <;> exact ⟨rfl, rfl⟩⟩)
 ·have hkt : (obj S.O tk).kind = 2 := hI.kind hlv
  refine gL (f := 133) (args := #[vP f, vP cb]) (pre := ((pA f m t L S) ++ [pC cb c])) [0, 1, 2, 3, 4, 5, 6] ((by have h := fR S L f m t hI cb c hC (β := β); rw [hnm] at h; exact h)) ?_
  rintro _ _ ⟨rfl, rfl⟩
  refine gK 5 [(5, .iface 96 (vP (L.b tk))), (6, vI 0)] [] ?_
  refine NN (af.seq (SR ?_))
  refine gK 2 [(14, .bool false)] [] ?_
  refine NN ?_
  refine CF ?_
  refine af.skip (NX (af.seq (SR ?_)))
  refine gK 1 [(16, .iface 96 (vP (L.b tk)))] [] ?_
  refine NN (af.block (SR ?_))
  refine gK 3 [(18, .bool false)] [] ?_
  refine NN ?_
  refine CF ?_
  refine SR ?_
  refine gK 3 [(21, .bool true)] [] ?_
  refine NN ?_
  refine CT ?_
  refine SR ?_
  refine gK 1 [(4, vI 172)] [] ?_
  refine NN (af.ret (ai.aH (ai.ar ?_)))
  exact RT (vI 172) [0, 1, 2, 3, 4, 5, 6, 7] (⟨L, by rw [show (dL S c) = (172, S, c) by unfold dL; rw [hnm]; exact (if_neg (by simp)).trans (if_pos rfl)] <;> exact ⟨rfl, rfl⟩⟩)
 have hkt : (obj S.O tk).kind = 3 := hI.kind hlv
 refine gL (f := 133) (args := #[vP f, vP cb]) (pre := ((pA f m t L S) ++ [pC cb c])) [0, 1, 2, 3, 4, 5, 6] ((by have h := fR S L f m t hI cb c hC (β := β); rw [hnm] at h; exact h)) ?_
 rintro _ _ ⟨rfl, rfl⟩
 refine gK 5 [(5, .iface 93 (vP (L.b tk))), (6, vI 0)] [] ?_
 refine NN (af.seq (SR ?_))
 refine gK 2 [(14, .bool false)] [] ?_
 refine NN ?_
 refine CF ?_
 refine af.skip (NX (af.seq (SR ?_)))
 refine gK 1 [(16, .iface 93 (vP (L.b tk)))] [] ?_
 refine NN (af.block (SR ?_))
 refine gK 3 [(18, .bool true)] [] ?_
 refine NN ?_
 refine CT ?_
 refine SR ?_
 refine gK 1 [(4, vI 174)] [] ?_
 refine NN (af.ret (ai.aH (ai.ar ?_)))
 exact RT (vI 174) [0, 1, 2, 3, 4, 5, 6, 7] (⟨L, by rw [show (dL S c) = (174, S, c) by unfold dL; rw [hnm]; exact if_pos rfl] <;> exact ⟨rfl, rfl⟩⟩)
theorem Dw {β : Bs} (S : aE) (L : HL) (f m t : Nat) (hI : Inv S) (cb : Nat) (c : aT) (hC : fD β c) :
    Spec Tryz.prog β 81 #[vP f, vP cb] ((pA f m t L S) ++ [pC cb c]) (fun v l => ∃ L2, v = vI (eP S c).1 ∧ l = ((pA f m t L2 ((eP S c).2.1)) ++ [.blk cb (fV ((eP S c).2.2)) 43])) := by
 have hX := hI.hX
 refine Spec.enter Tryz.func81 rfl Tryz.ntmps81 (Nat.le_of_ble_eq_true rfl) (fun R => ?_)
 refine SR ?_
 refine gK 1 [] [] ?_
 refine NN (af.seq ?_)
 refine af.bG (by kernel_rfl) (by kernel_rfl) ?_
 refine gQ 9 (JY f c) [(4, a_ 6 cb), (8, a_ 6 cb)] ?_
 rcases jH hI.toInv0 c.handle c.name 192 with ⟨e, hab, hne⟩ | ⟨d, hab, hd, fZ, hgn, cE⟩
 ·refine aS.call (f := 134) (args := #[vP f, vI (c.handle), .string c.name, vI 192]) (d := (some 17)) (pre := (mM f m t S L)) (R := (lX m L S cb c R)) (pk := [0, 2, 3, 1, 4, 5, 6, 7]) (gF := [0, 3, 1, 2, 4, 5, 6, 7]) (v0 := .tuple #[.pointer none, vI (e)]) (fun _ => by kernel_rfl) ((by have h := cY S L f m t hI c.handle hC.hw c.name hC.nm 192 (β := β); rw [hab] at h; exact h)) rfl (by kernel_rfl) rfl (by kernel_rfl) (fun _ _ h => h) ?_
  refine gQ 5 (Gz e) [] ?_
  refine NQ (NX (af.seq (SR ?_)))
  refine gK 2 [(21, .bool (!(decide ((e : Int) = (0 : Int)))))] [] ?_
  refine NN ?_
  refine af.cI (p := (e : Int) = (0 : Int)) (fun _ => by kernel_rfl) (fun rK => ?_) (fun rK => ?_)
  ·refine SR ?_
   refine gK 2 [(4, vI (e))] [] ?_
   refine NN (af.ret (ai.ar ?_))
   exact RT (vI (e)) [0, 1, 2, 3, 4, 5, 6, 7] (⟨L, by rw [show (eP S c) = (e, S, c) by unfold eP; rw [hab]] <;> exact ⟨rfl, rfl⟩⟩)
  exact absurd rK hne
 have hkd : (obj S.O d).kind = 2 := hI.kind hd
 refine aS.call (f := 134) (args := #[vP f, vI (c.handle), .string c.name, vI 192]) (d := (some 17)) (pre := (mM f m t S L)) (R := (lX m L S cb c R)) (pk := [0, 2, 3, 1, 4, 5, 6, 7]) (gF := [0, 3, 1, 2, 4, 5, 6, 7]) (v0 := .tuple #[vP (L.b d), vI 0]) (fun _ => by kernel_rfl) ((by have h := cY S L f m t hI c.handle hC.hw c.name hC.nm 192 (β := β); rw [hab] at h; exact h)) rfl (by kernel_rfl) rfl (by kernel_rfl) (fun _ _ h => h) ?_
 refine gQ 5 (CA L d) [] ?_
 refine NQ (NX (af.seq (SR ?_)))
 refine gK 2 [(21, .bool false)] [] ?_
 refine NN ?_
 refine CF ?_
 refine af.skip (NX (af.seq (SR ?_)))
 refine gK 4 [(26, vI (c.mode))] [(3, a_ 6 cb)] ?_
 refine gL [] (dW (c.mode) 4095) ?_
 rintro _ _ ⟨rfl, rfl⟩
 refine gK 1 [(28, .bool (!(decide (0 ≤ c.mode ∧ c.mode ≤ 4095))))] [] ?_
 refine NN ?_
 refine af.cI (p := 0 ≤ c.mode ∧ c.mode ≤ 4095) (fun _ => by kernel_rfl) (fun Mc => ?_) (fun Mc => ?_)
 ·refine SR ?_
  refine gK 1 [(4, vI 120)] [] ?_
  refine NN (af.ret (ai.ar ?_))
  exact RT (vI 120) [0, 1, 2, 3, 4, 5, 6, 7] (⟨L, by rw [show (eP S c) = (120, S, c) by unfold eP; rw [hab]; exact if_neg Mc] <;> exact ⟨rfl, rfl⟩⟩)
 refine af.skip (NX (af.seq ?_))
 refine af.bZ (S := [pC cb c]) [0, 1, 2, 3, 4, 5, 6, 7, 8, 9, 10, 11] 10 [6] (by kernel_rfl) (by kernel_rfl) rfl (by kernel_rfl) ?_
 refine aF.reads (r := 0) (l := [10, 11]) (fr' := [(29, vP f), (30, vP (L.b d)), (34, .string c.name), (38, vI (c.mode))]) (aV := [cb = cb, cb = cb]) [0, 1, 2, 3, 4, 5, 6, 7, 8, 9] [o_, o_, o_, o_, o_, ⟨[.at 0], none, none, none, none⟩, o_, o_, o_, ⟨[.at 0], none, none, none, none⟩] [29, 30, 34, 38] (fun _ => by kernel_rfl) ⟨rfl, rfl, trivial⟩ rfl rfl ?_
 refine mL [6] [0, 1, 2, 3, 4, 5] (Ap S L f m t hI d hd c.name hC.nm c.mode) ?_ (by rintro _ _ ⟨L2, rfl, rfl⟩; rfl)
 rintro _ _ ⟨L2, rfl, rfl⟩
 refine aF.last rfl rfl ?_
 refine gK 1 [(4, vI ((mkdirM S d c.name c.mode).1))] [] ?_
 refine NL (ai.np (NX (af.ret ?_)))
 exact RT (vI ((mkdirM S d c.name c.mode).1)) [0, 1, 2, 3, 4, 5, 6, 7] (⟨L2, by rw [show (eP S c) = ((mkdirM S d c.name c.mode).1, (mkdirM S d c.name c.mode).2, c) by unfold eP; rw [hab]; exact if_pos Mc] <;> exact ⟨rfl, rfl⟩⟩)
theorem AP {β : Bs} (S : aE) (L : HL) (f m t : Nat) (hI : Inv S) (cb : Nat) (c : aT) (hC : fD β c) :
    Spec Tryz.prog β 83 #[vP f, vP cb] ((pA f m t L S) ++ [pC cb c]) (fun v l => ∃ L2, v = vI (eD S c).1 ∧ l = ((pA f m t L2 ((eD S c).2.1)) ++ [.blk cb (fV ((eD S c).2.2)) 43])) := by
 have hX := hI.hX
 refine Spec.enter Tryz.func83 rfl Tryz.ntmps83 (Nat.le_of_ble_eq_true rfl) (fun R => ?_)
 refine SR ?_
 refine gK 1 [] [] ?_
 refine NN (af.seq ?_)
 refine af.bG (by kernel_rfl) (by kernel_rfl) ?_
 refine gQ 9 (JY f c) [(4, a_ 6 cb), (8, a_ 6 cb)] ?_
 rcases jH hI.toInv0 c.handle c.name 192 with ⟨e, hab, hne⟩ | ⟨d, hab, hd, fZ, hgn, cE⟩
 ·refine aS.call (f := 134) (args := #[vP f, vI (c.handle), .string c.name, vI 192]) (d := (some 17)) (pre := (mM f m t S L)) (R := (lX m L S cb c R)) (pk := [0, 2, 3, 1, 4, 5, 6, 7]) (gF := [0, 3, 1, 2, 4, 5, 6, 7]) (v0 := .tuple #[.pointer none, vI (e)]) (fun _ => by kernel_rfl) ((by have h := cY S L f m t hI c.handle hC.hw c.name hC.nm 192 (β := β); rw [hab] at h; exact h)) rfl (by kernel_rfl) rfl (by kernel_rfl) (fun _ _ h => h) ?_
  refine gQ 5 (Gz e) [] ?_
  refine NQ (NX (af.seq (SR ?_)))
  refine gK 2 [(21, .bool (!(decide ((e : Int) = (0 : Int)))))] [] ?_
  refine NN ?_
  refine af.cI (p := (e : Int) = (0 : Int)) (fun _ => by kernel_rfl) (fun rK => ?_) (fun rK => ?_)
  ·refine SR ?_
   refine gK 2 [(4, vI (e))] [] ?_
   refine NN (af.ret (ai.ar ?_))
   exact RT (vI (e)) [0, 1, 2, 3, 4, 5, 6, 7] (⟨L, by rw [show (eD S c) = (e, S, c) by unfold eD; rw [hab]] <;> exact ⟨rfl, rfl⟩⟩)
  exact absurd rK hne
 have hkd : (obj S.O d).kind = 2 := hI.kind hd
 refine aS.call (f := 134) (args := #[vP f, vI (c.handle), .string c.name, vI 192]) (d := (some 17)) (pre := (mM f m t S L)) (R := (lX m L S cb c R)) (pk := [0, 2, 3, 1, 4, 5, 6, 7]) (gF := [0, 3, 1, 2, 4, 5, 6, 7]) (v0 := .tuple #[vP (L.b d), vI 0]) (fun _ => by kernel_rfl) ((by have h := cY S L f m t hI c.handle hC.hw c.name hC.nm 192 (β := β); rw [hab] at h; exact h)) rfl (by kernel_rfl) rfl (by kernel_rfl) (fun _ _ h => h) ?_
 refine gQ 5 (CA L d) [] ?_
 refine NQ (NX (af.seq (SR ?_)))
 refine gK 2 [(21, .bool false)] [] ?_
 refine NN ?_
 refine CF ?_
 refine af.skip (NX (af.seq ?_))
 refine af.bZ (S := [pC cb c]) [0, 1, 2, 3, 4, 5, 6, 7, 8, 9, 10, 11] 10 [6] (by kernel_rfl) (by kernel_rfl) rfl (by kernel_rfl) ?_
 refine aF.reads (r := 0) (l := [10, 11]) (fr' := [(23, vP f), (24, vP (L.b d)), (28, .string c.name), (32, .string c.text)]) (aV := [cb = cb, cb = cb]) [0, 1, 2, 3, 4, 5, 6, 7, 8, 9] [o_, o_, o_, o_, o_, ⟨[.at 0], none, none, none, none⟩, o_, o_, o_, ⟨[.at 0], none, none, none, none⟩] [23, 24, 28, 32] (fun _ => by kernel_rfl) ⟨rfl, rfl, trivial⟩ rfl rfl ?_
 refine mL [6] [0, 1, 2, 3, 4, 5] (vJ S L f m t hI d hd c.name hC.nm c.text hC.tx) ?_ (by rintro _ _ ⟨L2, rfl, rfl⟩; rfl)
 rintro _ _ ⟨L2, rfl, rfl⟩
 refine aF.last rfl rfl ?_
 refine gK 1 [(4, vI ((symlinkM S d c.name c.text).1))] [] ?_
 refine NL (ai.np (NX (af.ret ?_)))
 exact RT (vI ((symlinkM S d c.name c.text).1)) [0, 1, 2, 3, 4, 5, 6, 7] (⟨L2, by rw [show (eD S c) = ((symlinkM S d c.name c.text).1, (symlinkM S d c.name c.text).2, c) by unfold eD; rw [hab]] <;> exact ⟨rfl, rfl⟩⟩)
theorem CB {β : Bs} (S : aE) (L : HL) (f m t : Nat) (hI : Inv S) (cb : Nat) (c : aT) (hC : fD β c) :
    Spec Tryz.prog β 85 #[vP f, vP cb] ((pA f m t L S) ++ [pC cb c]) (fun v l => ∃ L2, v = vI (fA S c).1 ∧ l = ((pA f m t L2 ((fA S c).2.1)) ++ [.blk cb (fV ((fA S c).2.2)) 43])) := by
 have hX := hI.hX
 refine Spec.enter Tryz.func85 rfl Tryz.ntmps85 (Nat.le_of_ble_eq_true rfl) (fun R => ?_)
 refine SR ?_
 refine gK 1 [] [] ?_
 refine NN (af.seq ?_)
 refine af.bG (by kernel_rfl) (by kernel_rfl) ?_
 refine gQ 9 (JY f c) [(4, a_ 6 cb), (8, a_ 6 cb)] ?_
 rcases jH hI.toInv0 c.handle c.name 192 with ⟨e, hab, hne⟩ | ⟨d, hab, hd, fZ, hgn, cE⟩
 ·refine aS.call (f := 134) (args := #[vP f, vI (c.handle), .string c.name, vI 192]) (d := (some 17)) (pre := (mM f m t S L)) (R := (lX m L S cb c R)) (pk := [0, 2, 3, 1, 4, 5, 6, 7]) (gF := [0, 3, 1, 2, 4, 5, 6, 7]) (v0 := .tuple #[.pointer none, vI (e)]) (fun _ => by kernel_rfl) ((by have h := cY S L f m t hI c.handle hC.hw c.name hC.nm 192 (β := β); rw [hab] at h; exact h)) rfl (by kernel_rfl) rfl (by kernel_rfl) (fun _ _ h => h) ?_
  refine gQ 5 (Gz e) [] ?_
  refine NQ (NX (af.seq (SR ?_)))
  refine gK 2 [(21, .bool (!(decide ((e : Int) = (0 : Int)))))] [] ?_
  refine NN ?_
  refine af.cI (p := (e : Int) = (0 : Int)) (fun _ => by kernel_rfl) (fun rK => ?_) (fun rK => ?_)
  ·refine SR ?_
   refine gK 2 [(4, vI (e))] [] ?_
   refine NN (af.ret (ai.ar ?_))
   exact RT (vI (e)) [0, 1, 2, 3, 4, 5, 6, 7] (⟨L, by rw [show (fA S c) = (e, S, c) by unfold fA; rw [hab]] <;> exact ⟨rfl, rfl⟩⟩)
  exact absurd rK hne
 have hkd : (obj S.O d).kind = 2 := hI.kind hd
 refine aS.call (f := 134) (args := #[vP f, vI (c.handle), .string c.name, vI 192]) (d := (some 17)) (pre := (mM f m t S L)) (R := (lX m L S cb c R)) (pk := [0, 2, 3, 1, 4, 5, 6, 7]) (gF := [0, 3, 1, 2, 4, 5, 6, 7]) (v0 := .tuple #[vP (L.b d), vI 0]) (fun _ => by kernel_rfl) ((by have h := cY S L f m t hI c.handle hC.hw c.name hC.nm 192 (β := β); rw [hab] at h; exact h)) rfl (by kernel_rfl) rfl (by kernel_rfl) (fun _ _ h => h) ?_
 refine gQ 5 (CA L d) [] ?_
 refine NQ (NX (af.seq (SR ?_)))
 refine gK 2 [(21, .bool false)] [] ?_
 refine NN ?_
 refine CF ?_
 refine af.skip (NX (SR ?_))
 refine gK 6 [(23, vP f), (24, vP (L.b d)), (28, .string c.name)] [(5, a_ 6 cb)] ?_
 refine gL [0, 1, 2, 3, 4, 5] (ye S L f m t hI d hd c.name hC.nm) ?_
 rintro _ _ ⟨L2, rfl, rfl⟩
 refine gK 1 [(4, vI ((unlinkM S d c.name).1))] [] ?_
 refine NN (af.ret ?_)
 exact RT (vI ((unlinkM S d c.name).1)) [0, 1, 2, 3, 4, 5, 6, 7] (⟨L2, by rw [show (fA S c) = ((unlinkM S d c.name).1, (unlinkM S d c.name).2, c) by unfold fA; rw [hab]] <;> exact ⟨rfl, rfl⟩⟩)
theorem Dx {β : Bs} (S : aE) (L : HL) (f m t : Nat) (hI : Inv S) (cb : Nat) (c : aT) (hC : fD β c) :
    Spec Tryz.prog β 91 #[vP f, vP cb] ((pA f m t L S) ++ [pC cb c]) (fun v l => ∃ L2, v = vI (fX S c).1 ∧ l = ((pA f m t L2 ((fX S c).2.1)) ++ [.blk cb (fV ((fX S c).2.2)) 43])) := by
 have hX := hI.hX
 refine Spec.enter Tryz.func91 rfl Tryz.ntmps91 (Nat.le_of_ble_eq_true rfl) (fun R => ?_)
 refine SR ?_
 refine gK 1 [] [] ?_
 refine NN (af.seq ?_)
 refine af.bG (by kernel_rfl) (by kernel_rfl) ?_
 refine gQ 9 (JY f c) [(4, a_ 6 cb), (8, a_ 6 cb)] ?_
 rcases jH hI.toInv0 c.handle c.name 192 with ⟨e, hab, hne⟩ | ⟨d, hab, hd, fZ, hgn, cE⟩
 ·refine aS.call (f := 134) (args := #[vP f, vI (c.handle), .string c.name, vI 192]) (d := (some 17)) (pre := (mM f m t S L)) (R := (lX m L S cb c R)) (pk := [0, 2, 3, 1, 4, 5, 6, 7]) (gF := [0, 3, 1, 2, 4, 5, 6, 7]) (v0 := .tuple #[.pointer none, vI (e)]) (fun _ => by kernel_rfl) ((by have h := cY S L f m t hI c.handle hC.hw c.name hC.nm 192 (β := β); rw [hab] at h; exact h)) rfl (by kernel_rfl) rfl (by kernel_rfl) (fun _ _ h => h) ?_
  refine gQ 5 (Gz e) [] ?_
  refine NQ (NX (af.seq (SR ?_)))
  refine gK 2 [(21, .bool (!(decide ((e : Int) = (0 : Int)))))] [] ?_
  refine NN ?_
  refine af.cI (p := (e : Int) = (0 : Int)) (fun _ => by kernel_rfl) (fun rK => ?_) (fun rK => ?_)
  ·refine SR ?_
   refine gK 2 [(4, vI (e))] [] ?_
   refine NN (af.ret (ai.ar ?_))
   exact RT (vI (e)) [0, 1, 2, 3, 4, 5, 6, 7] (⟨L, by rw [show (fX S c) = (e, S, c) by unfold fX; rw [hab]] <;> exact ⟨rfl, rfl⟩⟩)
  exact absurd rK hne
 have hkd : (obj S.O d).kind = 2 := hI.kind hd
 refine aS.call (f := 134) (args := #[vP f, vI (c.handle), .string c.name, vI 192]) (d := (some 17)) (pre := (mM f m t S L)) (R := (lX m L S cb c R)) (pk := [0, 2, 3, 1, 4, 5, 6, 7]) (gF := [0, 3, 1, 2, 4, 5, 6, 7]) (v0 := .tuple #[vP (L.b d), vI 0]) (fun _ => by kernel_rfl) ((by have h := cY S L f m t hI c.handle hC.hw c.name hC.nm 192 (β := β); rw [hab] at h; exact h)) rfl (by kernel_rfl) rfl (by kernel_rfl) (fun _ _ h => h) ?_
 refine gQ 5 (CA L d) [] ?_
 refine NQ (NX (af.seq (SR ?_)))
 refine gK 2 [(21, .bool false)] [] ?_
 refine NN ?_
 refine CF ?_
 refine af.skip (NX (SR ?_))
 refine gK 6 [(23, vP f), (24, vP (L.b d)), (28, .string c.name)] [(5, a_ 6 cb)] ?_
 refine gL [0, 1, 2, 3, 4, 5] (Aq S L f m t hI d hd c.name hC.nm) ?_
 rintro _ _ ⟨L2, rfl, rfl⟩
 refine gK 1 [(4, vI ((rmdirM S d c.name).1))] [] ?_
 refine NN (af.ret ?_)
 exact RT (vI ((rmdirM S d c.name).1)) [0, 1, 2, 3, 4, 5, 6, 7] (⟨L2, by rw [show (fX S c) = ((rmdirM S d c.name).1, (rmdirM S d c.name).2, c) by unfold fX; rw [hab]] <;> exact ⟨rfl, rfl⟩⟩)
theorem CC {β : Bs} (S : aE) (L : HL) (f m t : Nat) (hI : Inv S) (cb : Nat) (c : aT) (hC : fD β c) :
    Spec Tryz.prog β 92 #[vP f, vP cb] ((pA f m t L S) ++ [pC cb c]) (fun v l => ∃ L2, v = vI (ef S c).1 ∧ l = ((pA f m t L2 ((ef S c).2.1)) ++ [.blk cb (fV ((ef S c).2.2)) 43])) := by
 have hX := hI.hX
 refine Spec.enter Tryz.func92 rfl Tryz.ntmps92 (Nat.le_of_ble_eq_true rfl) (fun R => ?_)
 refine SR ?_
 refine gK 1 [] [] ?_
 refine NN (af.seq ?_)
 refine af.bG (by kernel_rfl) (by kernel_rfl) ?_
 refine gQ 9 [(9, vP f), (13, vI (c.handle)), (17, .string c.name)] [(4, a_ 6 cb), (8, a_ 6 cb)] ?_
 rcases jH hI.toInv0 c.handle c.name 192 with ⟨e, hab, hne⟩ | ⟨d, hab, hd, fZ, hgn, cE⟩
 ·refine aS.call (f := 134) (args := #[vP f, vI (c.handle), .string c.name, vI 192]) (d := (some 18)) (pre := (mM f m t S L)) (R := (lX m L S cb c R)) (pk := [0, 2, 3, 1, 4, 5, 6, 7]) (gF := [0, 3, 1, 2, 4, 5, 6, 7]) (v0 := .tuple #[.pointer none, vI (e)]) (fun _ => by kernel_rfl) ((by have h := cY S L f m t hI c.handle hC.hw c.name hC.nm 192 (β := β); rw [hab] at h; exact h)) rfl (by kernel_rfl) rfl (by kernel_rfl) (fun _ _ h => h) ?_
  refine gQ 5 (Gz e) [] ?_
  refine NQ (NX (af.seq (SR ?_)))
  refine gK 2 [(22, .bool (!(decide ((e : Int) = (0 : Int)))))] [] ?_
  refine NN ?_
  refine af.cI (p := (e : Int) = (0 : Int)) (fun _ => by kernel_rfl) (fun JZ => ?_) (fun JZ => ?_)
  ·refine SR ?_
   refine gK 2 [(4, vI (e))] [] ?_
   refine NN (af.ret (ai.ar ?_))
   exact RT (vI (e)) [0, 1, 2, 3, 4, 5, 6, 7] (⟨L, by rw [show (ef S c) = (e, S, c) by unfold ef; rw [hab]] <;> exact ⟨rfl, rfl⟩⟩)
  exact absurd JZ hne
 have hkd : (obj S.O d).kind = 2 := hI.kind hd
 refine aS.call (f := 134) (args := #[vP f, vI (c.handle), .string c.name, vI 192]) (d := (some 18)) (pre := (mM f m t S L)) (R := (lX m L S cb c R)) (pk := [0, 2, 3, 1, 4, 5, 6, 7]) (gF := [0, 3, 1, 2, 4, 5, 6, 7]) (v0 := .tuple #[vP (L.b d), vI 0]) (fun _ => by kernel_rfl) ((by have h := cY S L f m t hI c.handle hC.hw c.name hC.nm 192 (β := β); rw [hab] at h; exact h)) rfl (by kernel_rfl) rfl (by kernel_rfl) (fun _ _ h => h) ?_
 refine gQ 5 (CA L d) [] ?_
 refine NQ (NX (af.seq (SR ?_)))
 refine gK 2 [(22, .bool false)] [] ?_
 refine NN ?_
 refine CF ?_
 refine af.skip (NX (af.seq ?_))
 refine af.bG (by kernel_rfl) (by kernel_rfl) ?_
 refine gQ 9 [(25, vP f), (29, vI (c.other)), (33, .string c.text)] [(4, a_ 6 cb), (8, a_ 6 cb)] ?_
 rcases jH hI.toInv0 c.other c.text 192 with ⟨e2, iG, CD⟩ | ⟨to, iG, hd2, Md, IW, Me⟩
 ·refine aS.call (f := 134) (args := #[vP f, vI (c.other), .string c.text, vI 192]) (d := (some 34)) (pre := (mM f m t S L)) (R := (lX m L S cb c R)) (pk := [0, 2, 3, 1, 4, 5, 6, 7]) (gF := [0, 3, 1, 2, 4, 5, 6, 7]) (v0 := .tuple #[.pointer none, vI (e2)]) (fun _ => by kernel_rfl) ((by have h := cY S L f m t hI c.other hC.ow c.text hC.tx 192 (β := β); rw [iG] at h; exact h)) rfl (by kernel_rfl) rfl (by kernel_rfl) (fun _ _ h => h) ?_
  refine gQ 5 [(6, vI (e2)), (7, .pointer none)] [] ?_
  refine NQ (NX (af.seq (SR ?_)))
  refine gK 2 [(38, .bool (!(decide ((e2 : Int) = (0 : Int)))))] [] ?_
  refine NN ?_
  refine af.cI (p := (e2 : Int) = (0 : Int)) (fun _ => by kernel_rfl) (fun xq => ?_) (fun xq => ?_)
  ·refine SR ?_
   refine gK 2 [(4, vI (e2))] [] ?_
   refine NN (af.ret (ai.ar ?_))
   exact RT (vI (e2)) [0, 1, 2, 3, 4, 5, 6, 7] (⟨L, by rw [show (ef S c) = (e2, S, c) by unfold ef; rw [hab]; simp only; rw [iG]] <;> exact ⟨rfl, rfl⟩⟩)
  exact absurd xq CD
 have dg : (obj S.O to).kind = 2 := hI.kind hd2
 refine aS.call (f := 134) (args := #[vP f, vI (c.other), .string c.text, vI 192]) (d := (some 34)) (pre := (mM f m t S L)) (R := (lX m L S cb c R)) (pk := [0, 2, 3, 1, 4, 5, 6, 7]) (gF := [0, 3, 1, 2, 4, 5, 6, 7]) (v0 := .tuple #[vP (L.b to), vI 0]) (fun _ => by kernel_rfl) ((by have h := cY S L f m t hI c.other hC.ow c.text hC.tx 192 (β := β); rw [iG] at h; exact h)) rfl (by kernel_rfl) rfl (by kernel_rfl) (fun _ _ h => h) ?_
 refine gQ 5 [(6, vI 0), (7, vP (L.b to))] [] ?_
 refine NQ (NX (af.seq (SR ?_)))
 refine gK 2 [(38, .bool false)] [] ?_
 refine NN ?_
 refine CF ?_
 refine af.skip (NX (af.seq ?_))
 refine af.bZ (S := [pC cb c]) [0, 1, 2, 3, 4, 5, 6, 7, 8, 9, 10, 11, 12] 11 [6] (by kernel_rfl) (by kernel_rfl) rfl (by kernel_rfl) ?_
 refine aF.reads (r := 0) (l := [11, 12]) (fr' := [(40, vP f), (41, vP (L.b d)), (45, .string c.name), (46, vP (L.b to)), (50, .string c.text)]) (aV := [cb = cb, cb = cb]) [0, 1, 2, 3, 4, 5, 6, 7, 8, 9, 10] [o_, o_, o_, o_, o_, ⟨[.at 0], none, none, none, none⟩, o_, o_, o_, o_, ⟨[.at 0], none, none, none, none⟩] [40, 41, 45, 46, 50] (fun _ => by kernel_rfl) ⟨rfl, rfl, trivial⟩ rfl rfl ?_
 refine mL [6] [0, 1, 2, 3, 4, 5] (yg S L f m t hI d hd c.name hC.nm to hd2 c.text hC.tx) ?_ (by rintro _ _ ⟨L2, rfl, rfl⟩; rfl)
 rintro _ _ ⟨L2, rfl, rfl⟩
 refine aF.last rfl rfl ?_
 refine gK 1 [(4, vI ((renameM S d c.name to c.text).1))] [] ?_
 refine NL (ai.np (NX (af.ret ?_)))
 exact RT (vI ((renameM S d c.name to c.text).1)) [0, 1, 2, 3, 4, 5, 6, 7] (⟨L2, by rw [show (ef S c) = ((renameM S d c.name to c.text).1, (renameM S d c.name to c.text).2, c) by unfold ef; rw [hab]; simp only; rw [iG]] <;> exact ⟨rfl, rfl⟩⟩)
end
end Go.Proofs.YtkiedlmhocglhaaGreatDoor
