/-
  PROVED HERE: lemmas and contracts of functions (texts of this repo, joined; what the claim does not use is left out): Hv, Hw, Hx, Hy, Hz, Ac, Fz, Hc, Hd, H1, H2, H3, H4, H5, H6, ShelfP, As.
  CONDITIONS: as the theorems say.
-/
import Derived.Test.YtkiedlmhocglhaaGreatDoorMHnames2
import Derived.Lib.Split
import Derived.Shelf.Strings.Split
import Derived.Test.YtkiedlmhocglhaaGreatDoorProg
import Derived.Laws.IdiomStrings
import Derived.Lib.SplitLaws
set_option maxRecDepth 100000
set_option maxHeartbeats 4000000
namespace Go.Proofs.YtkiedlmhocglhaaGreatDoor
section
open Go.RowKit Go.Maps HeapM TabM
section ops
variable {S : aG} {d to : Nat} {name toName : ByteArray} {t : Th}
theorem Inv.link (hI : Inv S) (hd : Live S.idx ⟨d, 2⟩) (fY : (obj S.O d).gone = false) (hn : aS name (obj S.O d).ah = none) (hgn : bw name) (ht : Live S.idx t) (Dv : (obj S.O t.k).gone = false) (hk : t.kind ≠ 2) (hroom : S.X.ah < 8192) :
    Inv { S with X := { S.X with ah := S.X.ah + 1 }, O := br S.X S.O d name t } := by
  have hne : t.k ≠ d := fun e => hk (congrArg Th.kind (eV ht hd e))
  have h1 := hI.toInv0.put hd fY hn hgn ht Dv (fun e => absurd e hk) hne hroom hI.now (fun k => tO hne)
  refine ⟨h1, fun x hx hg => ?_⟩
  have hg : (obj (br S.X S.O d name t) x.k).gone = true := hg
  show 0 < (obj (br S.X S.O d name t) x.k).opens
  rw [kC (g := aP.gone) (fun _ _ => rfl) (fun _ _ => rfl) (fun _ _ _ => rfl) (fun _ _ => rfl)] at hg
  rw [kC (g := aP.opens) (fun _ _ => rfl) (fun _ _ => rfl) (fun _ _ _ => rfl) (fun _ _ => rfl)]
  exact hI.full x hx hg
theorem iN (hne : t.k ≠ d) {X : FM} {O : bM} (h : aS toName (obj O to).ah = none) : aS toName (obj (aL X O d name t) to).ah = none := by
  rw [gq hne]
  split
  ·rename_i e
   subst e
   show aS toName (eP name (obj O to).ah) = none
   rw [nI]; split
   ·rfl
   exact h
  split
  ·exact h
  exact h
theorem Inv.move (hI : Inv S) (hd : Live S.idx ⟨d, 2⟩) (hl : aS name (obj S.O d).ah = some t) (hto : Live S.idx ⟨to, 2⟩) (fY : (obj S.O to).gone = false) (hn : aS toName (obj S.O to).ah = none) (hgn : bw toName) (hb : t.kind = 2 → ¬ iB S.O t.k to) : Inv (kW S d name to toName t) := by
  have hne := hI.ne hd hl
  have ht := (hI.ent hd hl).2
  have Ie : t.k ≠ to := fun e => by
    have h1 : t = ⟨to, 2⟩ := eV ht hto e
    exact hb (by rw [h1]) (by rw [e]; exact .here)
  have hgt : (obj S.O t.k).gone = false := by
    cases hg : (obj S.O t.k).gone with
    | false => rfl
    | true =>
      have h1 := (hI.gone t ht hg).1
      have h2 := hI.links t ht
      have h3 : 0 < fU S.idx S.O t.k := kB hd hl
      omega
  have hO : ∀ k, obj (orphan (aL S.X S.O d name t) t.k) k = if k = d then { obj S.O d with ah := eP name (obj S.O d).ah, sec := S.X.cS, nano := S.X.cZ } else if k = t.k then { obj S.O k with links := (obj S.O k).links - 1, gone := (obj S.O t.k).gone, up := none } else obj S.O k := fun k => by
    unfold orphan
    rw [iR]
    by_cases e : k = t.k
    ·rw [if_pos e, gq hne, if_neg (fun e2 => hne (e.symm.trans e2)), if_pos e, if_neg (fun e2 => hne (e.symm.trans e2)), if_pos e, e]
    rw [if_neg e, gq hne, if_neg e, if_neg e]
  have h1 := hI.toInv0.cut hd hl hO (.inl rfl)
  have g0 : ∀ {α : Type} (g : aP → α), (∀ o es, g { o with ah := es } = g o) → (∀ o l, g { o with links := l } = g o) → (∀ o a b, g { o with sec := a, nano := b } = g o) → (∀ o u, g { o with up := u } = g o) → ∀ k, g (obj (orphan (aL S.X S.O d name t) t.k) k) = g (obj S.O k) := fun g a b c e k => (gh (fun o => e o none)).trans (cD a b c)
  have hlk := hI.links t ht
  have hlp : 0 < fU S.idx S.O t.k := kB hd hl
  have hend : (obj (orphan (aL S.X S.O d name t) t.k) to).ah = (obj (aL S.X S.O d name t) to).ah := gh (g := aP.ah) (fun _ => rfl)
  have h2 := h1.put (d := to) (name := toName) (t := t) (O' := (kW S d name to toName t).O) hto (by
      show (obj (orphan (aL S.X S.O d name t) t.k) to).gone = false
      rw [g0 aP.gone (fun _ _ => rfl) (fun _ _ => rfl) (fun _ _ _ => rfl) (fun _ _ => rfl)]; exact fY) (by
      show aS toName (obj (orphan (aL S.X S.O d name t) t.k) to).ah = none
      rw [hend]; exact iN hne hn) hgn ht (by
      show (obj (orphan (aL S.X S.O d name t) t.k) t.k).gone = false
      rw [g0 aP.gone (fun _ _ => rfl) (fun _ _ => rfl) (fun _ _ _ => rfl) (fun _ _ => rfl)]; exact hgt) (fun hk => ⟨by
        have h3 := hI.once t ht hk
        show (obj (orphan (aL S.X S.O d name t) t.k) t.k).links = 0
        rw [hO, if_neg hne, if_pos rfl]
        show (obj S.O t.k).links - 1 = 0
        omega, fun hb2 => hb hk (Eg (fun x e hx => by
          have hx : (obj (orphan (aL S.X S.O d name t) t.k) x).up = some e := hx
          by_cases e1 : x = t.k
          ·rw [hO, if_neg (by rw [e1]; exact hne), if_pos e1] at hx; cases hx
          rw [hO] at hx
          split at hx
          ·rename_i e2; rw [e2]; exact hx
          first | exact hx | (rw [if_neg e1] at hx; exact hx)) hb2)⟩) Ie (by
      have := hI.total
      show S.X.ah - 1 < 8192
      omega) hI.now (fun k => by
      show obj (br S.X (aL S.X S.O d name t) to toName t) k = _
      rw [tO Ie]
      by_cases e : k = to
      ·rw [if_pos e, if_pos e]
       have h3 : obj (orphan (aL S.X S.O d name t) t.k) to = obj (aL S.X S.O d name t) to := bS (fun e => Ie e.symm)
       rw [show obj _ to = _ from h3]
      rw [if_neg e, if_neg e]
      by_cases e2 : k = t.k
      ·rw [if_pos e2, if_pos e2, e2]
       show _ = { obj (orphan (aL S.X S.O d name t) t.k) t.k with links := (obj (orphan (aL S.X S.O d name t) t.k) t.k).links + 1, up := if t.kind = 2 then some to else (obj (orphan (aL S.X S.O d name t) t.k) t.k).up }
       have h3 : obj (orphan (aL S.X S.O d name t) t.k) t.k = { obj (aL S.X S.O d name t) t.k with up := none } := bH
       rw [h3]
       by_cases hk : t.kind = 2
       ·rw [if_pos hk, if_pos hk]
       rw [if_neg hk, if_neg hk]
       have Eh : (obj (aL S.X S.O d name t) t.k).up = none := by
         rw [cD (g := aP.up) (fun _ _ => rfl) (fun _ _ => rfl) (fun _ _ _ => rfl)]
         cases hu : (obj S.O t.k).up with
         | none => rfl
         | some e => exact absurd ((hI.up t ht e).1 hu).1 hk
       rw [Eh]
      rw [if_neg e2, if_neg e2]
      have h3 : obj (orphan (aL S.X S.O d name t) t.k) k = obj (aL S.X S.O d name t) k := bS e2
      exact h3.symm)
  refine ⟨h2, fun x hx hg => ?_⟩
  have g3 : ∀ {α : Type} (g : aP → α), (∀ o es, g { o with ah := es } = g o) → (∀ o l, g { o with links := l } = g o) → (∀ o a b, g { o with sec := a, nano := b } = g o) → (∀ o u, g { o with up := u } = g o) → ∀ k, g (obj (kW S d name to toName t).O k) = g (obj S.O k) := fun g a b c e k => (kC a b c e).trans (cD a b c)
  rw [g3 aP.gone (fun _ _ => rfl) (fun _ _ => rfl) (fun _ _ _ => rfl) (fun _ _ => rfl)] at hg
  rw [g3 aP.opens (fun _ _ => rfl) (fun _ _ => rfl) (fun _ _ _ => rfl) (fun _ _ => rfl)]
  exact hI.full x hx hg
theorem yY {us : Used Th} {h : Int} {k : Nat} : hnd (ins h t us) k = (if t.k = k then 1 else 0) + hnd us k := v8
theorem Ka {us : Used Th} {h : Int} {k : Nat} (hr : TabM.cq (keys us)) (e : TabM.get us h = some t) : hnd (del h us) k + (if t.k = k then 1 else 0) = hnd us k := wh (g := fun p : Int × Th => if p.2.k = k then 1 else 0) hr e
theorem Dz {us : Used Th} {au : Int} (hr : TabM.cq (keys us)) (h1 : ∀ x ∈ keys us, 1 ≤ x ∧ x ≤ au) : TabM.cq (keys (ins (TabM.least us) t us)) ∧ ∀ x ∈ keys (ins (TabM.least us) t us), 1 ≤ x ∧ x ≤ max au ((us.length : Int) + 1) := by
  obtain ⟨g1, g2, _⟩ := least_le hr (fun x hx => (h1 x hx).1)
  have g3 := C0 us
  refine ⟨rV hr g2, fun x hx => ?_⟩
  rcases (jt _ _ _ _).1 hx with e | e
  ·subst e; omega
  have := h1 x e; omega
theorem Inv.openM (hI : Inv S) (ht : Live S.idx t) (hk : t.kind ≠ 3) : Inv (Proofs.YtkiedlmhocglhaaGreatDoor.openM S t).2.2 := by
  by_cases hlt : (S.us.length : Int) < S.X.cH
  ·rw [gX hlt]
   obtain ⟨g1, g2, _⟩ := least_le hI.usr (fun x hx => (hI.tN x hx).1)
   obtain ⟨v1, v2⟩ := Dz (t := t) hI.usr hI.tN
   have hb : bytes S.idx (ay S.O t.k (fun o => { o with opens := o.opens + 1 })) = bytes S.idx S.O := eG (fun p _ => by rw [cL (f := fun o => { o with opens := o.opens + 1 }) (g := aP.data) (fun _ => rfl)])
   have h1 := hI.toInv0.own (k := t.k) (f := fun o => { o with opens := o.opens + 1 }) (iZ := S.X.used) (us' := ins (TabM.least S.us) t S.us) (eH := max S.au ((S.us.length : Int) + 1)) (fun _ => rfl) (fun _ => rfl) (fun _ => rfl) (fun _ => rfl) (fun _ => rfl) (fun _ => rfl)
     (fun u hu e => by rw [← e]; exact (hI.mt u hu).of rfl rfl rfl (hI.mt u hu).time rfl (.inl rfl) (.inl rfl) rfl)
     (fun u hu => by
       have h2 := hI.opens u hu
       rw [yY]
       by_cases e : u.k = t.k
       ·rw [e, bH, if_pos rfl, ← e]
        show (obj S.O u.k).opens + 1 = _
        omega
       rw [bS e, if_neg (fun e2 => e e2.symm)]; omega)
     v1 v2 (by rw [fW]; omega) (by have := hI.au; omega) (fun h u e => by
       rw [oV g2] at e
       split at e
       ·cases e; exact ⟨ht, hk⟩
       exact hI.us h u e) ⟨by rw [hb]; exact hI.used.1, hI.used.2⟩
   refine ⟨h1, fun u hu hg => ?_⟩
   have hg : (obj (ay S.O t.k (fun o => { o with opens := o.opens + 1 })) u.k).gone = true := hg
   rw [cL (f := fun o => { o with opens := o.opens + 1 }) (g := aP.gone) (fun _ => rfl)] at hg
   have h2 := hI.full u hu hg
   show 0 < (obj (ay S.O t.k (fun o => { o with opens := o.opens + 1 })) u.k).opens
   by_cases e : u.k = t.k
   ·rw [e, bH]; rw [e] at h2; show 0 < (obj S.O t.k).opens + 1; omega
   rw [bS e]; exact h2
  rw [jj hlt]; exact hI
theorem Inv.writeM (hI : Inv S) {k : Nat} (ht : Live S.idx ⟨k, 1⟩) (bs : List UInt8) : Inv (Proofs.YtkiedlmhocglhaaGreatDoor.writeM S k bs).2.2 := by
  unfold Proofs.YtkiedlmhocglhaaGreatDoor.writeM
  split
  ·exact hI
  split
  ·exact hI
  rename_i hroom
  have hlen : (obj (ay S.O k (fun o => { o with data := o.data ++ bs.take (aX S.X bs.length), sec := S.X.cS, nano := S.X.cZ })) k).data.length = (obj S.O k).data.length + aX S.X bs.length := by
    rw [bH]
    show ((obj S.O k).data ++ bs.take (aX S.X bs.length)).length = _
    rw [List.length_append, List.length_take]
    unfold aX
    omega
  have hb := wg (g := fun p : Int × Th => (obj S.O p.2.k).data.length) (g' := fun p : Int × Th => (obj (ay S.O k (fun o => { o with data := o.data ++ bs.take (aX S.X bs.length), sec := S.X.cS, nano := S.X.cZ })) p.2.k).data.length) hI.rise ht (fun p hp hne => by
    have h1 := hI.key (lP hI.rise hp)
    show (obj (ay _ k _) p.2.k).data.length = _
    rw [bS (fun e => hne (by rw [h1, e]))])
  have hb : bytes S.idx (ay S.O k (fun o => { o with data := o.data ++ bs.take (aX S.X bs.length), sec := S.X.cS, nano := S.X.cZ })) + (obj S.O k).data.length = bytes S.idx S.O + (obj (ay S.O k (fun o => { o with data := o.data ++ bs.take (aX S.X bs.length), sec := S.X.cS, nano := S.X.cZ })) k).data.length := hb
  have hu := hI.used
  have hcB := hI.cB
  have h1 := hI.toInv0.own (k := k) (f := fun o => { o with data := o.data ++ bs.take (aX S.X bs.length), sec := S.X.cS, nano := S.X.cZ }) (iZ := S.X.used + (aX S.X bs.length : Int)) (us' := S.us) (eH := S.au) (fun _ => rfl) (fun _ => rfl) (fun _ => rfl) (fun _ => rfl) (fun _ => rfl) (fun _ => rfl)
    (fun u hu e => by
      have hk1 : u = ⟨k, 1⟩ := eV hu ht e
      have MW := hI.kind hu
      rw [← e]
      exact (hI.mt u hu).of rfl rfl rfl hI.now rfl (.inr (by rw [MW, hk1])) (.inl rfl) rfl)
    (fun u hu => by rw [cL (f := fun o => { o with data := o.data ++ bs.take (aX S.X bs.length), sec := S.X.cS, nano := S.X.cZ }) (g := aP.opens) (fun _ => rfl)]; exact hI.opens u hu)
    hI.usr hI.tN hI.zW hI.au hI.us ⟨by omega, by unfold aX; omega⟩
  refine ⟨h1, fun u hu hg => ?_⟩
  have hg : (obj (ay S.O k (fun o => { o with data := o.data ++ bs.take (aX S.X bs.length), sec := S.X.cS, nano := S.X.cZ })) u.k).gone = true := hg
  rw [cL (f := fun o => { o with data := o.data ++ bs.take (aX S.X bs.length), sec := S.X.cS, nano := S.X.cZ }) (g := aP.gone) (fun _ => rfl)] at hg
  show 0 < (obj (ay S.O k (fun o => { o with data := o.data ++ bs.take (aX S.X bs.length), sec := S.X.cS, nano := S.X.cZ })) u.k).opens
  rw [cL (f := fun o => { o with data := o.data ++ bs.take (aX S.X bs.length), sec := S.X.cS, nano := S.X.cZ }) (g := aP.opens) (fun _ => rfl)]
  exact hI.full u hu hg
theorem Inv.MX (hI : Inv S) {k : Nat} {mode uid gid sec nano : Int} (h1 : kL mode) (h2 : xh uid ∧ xh gid) (h3 : cQ sec nano) : Inv { S with O := ay S.O k (fun o => { o with mode := mode, uid := uid, gid := gid, sec := sec, nano := nano }) } := by
  have hb : bytes S.idx (ay S.O k (fun o => { o with mode := mode, uid := uid, gid := gid, sec := sec, nano := nano })) = bytes S.idx S.O := eG (fun p _ => by rw [cL (f := fun o => { o with mode := mode, uid := uid, gid := gid, sec := sec, nano := nano }) (g := aP.data) (fun _ => rfl)])
  have g1 := hI.toInv0.own (k := k) (f := fun o => { o with mode := mode, uid := uid, gid := gid, sec := sec, nano := nano }) (iZ := S.X.used) (us' := S.us) (eH := S.au) (fun _ => rfl) (fun _ => rfl) (fun _ => rfl) (fun _ => rfl) (fun _ => rfl) (fun _ => rfl)
    (fun u hu e => by
      have hm := hI.mt u hu
      rw [e] at hm
      exact ⟨h1, h2.1, h2.2, h3, hm.data, hm.ah, hm.target⟩)
    (fun u hu => by rw [cL (f := fun o => { o with mode := mode, uid := uid, gid := gid, sec := sec, nano := nano }) (g := aP.opens) (fun _ => rfl)]; exact hI.opens u hu)
    hI.usr hI.tN hI.zW hI.au hI.us ⟨by rw [hb]; exact hI.used.1, hI.used.2⟩
  refine ⟨g1, fun u hu hg => ?_⟩
  have hg : (obj (ay S.O k (fun o => { o with mode := mode, uid := uid, gid := gid, sec := sec, nano := nano })) u.k).gone = true := hg
  rw [cL (f := fun o => { o with mode := mode, uid := uid, gid := gid, sec := sec, nano := nano }) (g := aP.gone) (fun _ => rfl)] at hg
  show 0 < (obj (ay S.O k (fun o => { o with mode := mode, uid := uid, gid := gid, sec := sec, nano := nano })) u.k).opens
  rw [cL (f := fun o => { o with mode := mode, uid := uid, gid := gid, sec := sec, nano := nano }) (g := aP.opens) (fun _ => rfl)]
  exact hI.full u hu hg
theorem Inv.shut (hI : Inv S) {h : Int} (e : TabM.get S.us h = some t) : Inv { S with
      X := { S.X with used := iL (nL S.O t.k) S.X.used t }
      O := nL S.O t.k
      idx := iw (nL S.O t.k) S.idx t
      us := del h S.us } := by
  have ht := (hI.us h t e).1
  have hb : bytes S.idx (nL S.O t.k) = bytes S.idx S.O := eG (fun p _ => by unfold nL; rw [cL (f := fun o => { o with opens := o.opens - 1 }) (g := aP.data) (fun _ => rfl)])
  have hd := fun k => Ka (k := k) hI.usr e
  have h1 := hI.toInv0.own (k := t.k) (f := fun o => { o with opens := o.opens - 1 }) (iZ := S.X.used) (us' := del h S.us) (eH := S.au) (fun _ => rfl) (fun _ => rfl) (fun _ => rfl) (fun _ => rfl) (fun _ => rfl) (fun _ => rfl)
    (fun u hu e => by rw [← e]; exact (hI.mt u hu).of rfl rfl rfl (hI.mt u hu).time rfl (.inl rfl) (.inl rfl) rfl)
    (fun u hu => by
      have h2 := hI.opens u hu
      have h3 := hd u.k
      by_cases e2 : u.k = t.k
      ·rw [e2, bH]
       rw [e2] at h2 h3
       rw [if_pos rfl] at h3
       show (obj S.O t.k).opens - 1 = _
       omega
      rw [if_neg (fun e3 => e2 e3.symm)] at h3
      rw [bS e2]; omega)
    (BM hI.usr) (fun x hx => hI.tN x (by rw [kZ] at hx; exact (List.mem_filter.1 hx).1)) (by have := mR hI.usr (get_some e); have := hI.zW; omega) hI.au (fun i u hu => by
      rw [qZ] at hu
      split at hu
      ·cases hu
      exact hI.us i u hu) ⟨by rw [show bytes S.idx (ay S.O t.k (fun o => { o with opens := o.opens - 1 })) = bytes S.idx S.O from hb]; exact hI.used.1, hI.used.2⟩
  exact h1.freeM (t := t) ht (fun u hu hut hg => by
    have hk : u.k ≠ t.k := fun e => hut (eV hu ht e)
    have hg : (obj (ay S.O t.k (fun o => { o with opens := o.opens - 1 })) u.k).gone = true := hg
    rw [bS hk] at hg
    show 0 < (obj (ay S.O t.k (fun o => { o with opens := o.opens - 1 })) u.k).opens
    rw [bS hk]
    exact hI.full u hu hg)
end ops
end
section
open Go.RowKit Go.Maps HeapM TabM
section facts
variable {S : aG} {X : FM} {O : bM} {d k to : Nat} {name toName : ByteArray} {t o : Th}
def tS (dp : Nat → Nat) : Option Nat → Nat
  | none => 0
  | some y => dp y + 1
theorem FY {dp : Nat → Nat} (h : ∀ k d, (obj O k).up = some d → dp d < dp k) {y : Nat} : tS dp (obj O y).up < tS dp (some y) := by
  cases e : (obj O y).up with
  | none => exact Nat.succ_pos _
  | some z => exact Nat.succ_lt_succ (h y z e)
theorem xA {s y : Nat} (h : ¬ y = s) : iB O s y ↔ ∃ z, (obj O y).up = some z ∧ iB O s z := zY.trans (or_iff_right h)
theorem xB (hne : t.k ≠ d) : (obj (ar S d name t).O k).ah = if k = d then eP name (obj S.O d).ah else (obj S.O k).ah := by
  have h1 : (obj (ar S d name t).O k).ah = (obj (aL S.X S.O d name t) k).ah := by
    unfold ar
    simp only
    split
    ·exact mW (g := aP.ah) (fun _ _ => rfl)
    rfl
  rw [h1, gq hne]
  split
  ·rfl
  split <;> rfl
theorem nM (hI : Inv0 S) (hto : Live S.idx ⟨to, 2⟩) (hl2 : aS toName (obj S.O to).ah = some o) (hl : aS name (obj S.O d).ah = some t) (hot : o ≠ t) : aS name (obj (ar S to toName o).O d).ah = some t := by
  rw [xB (hI.ne hto hl2)]
  split
  ·rename_i e
   subst e
   rw [nI, if_neg (fun e => by rw [e, hl2] at hl; exact hot (Option.some.inj hl))]
   exact hl
  exact hl
theorem nN (hI : Inv0 S) (hto : Live S.idx ⟨to, 2⟩) (hl2 : aS toName (obj S.O to).ah = some o) : aS toName (obj (ar S to toName o).O to).ah = none := by
  rw [xB (hI.ne hto hl2), if_pos rfl, nI, if_pos rfl]
theorem gY (hI : Inv0 S) (hto : Live S.idx ⟨to, 2⟩) (hl2 : aS toName (obj S.O to).ah = some o) (hx : Live S.idx t) (hk : t.k ≠ o.k) : Live (ar S to toName o).idx t := by
  unfold ar
  simp only
  split
  ·unfold iw
   split
   ·unfold Live
    rw [qZ, if_neg]
    ·exact hx
    intro e
    have h1 := (hI.ob o (hI.ent hto hl2).2).1
    rw [mW (g := aP.id) (fun _ _ => rfl), cD (g := aP.id) (fun _ _ => rfl) (fun _ _ => rfl) (fun _ _ _ => rfl), h1] at e
    exact hk (by omega)
   exact hx
  exact hx
theorem j4 (hne : t.k ≠ d) : (obj (aL X O d name t) k).ah.length ≤ (obj O k).ah.length := by
  rw [gq hne]
  split
  ·rename_i e
   subst e
   exact List.length_filter_le _ _
  split <;> exact Nat.le_refl _
theorem iU (hI : Inv0 S) (hd : Live S.idx ⟨d, 2⟩) (hl : aS name (obj S.O d).ah = some t) : 0 ≤ (obj (aL S.X S.O d name t) t.k).links ∧ (obj (aL S.X S.O d name t) t.k).links ≤ 1048576 := by
  have ht := (hI.ent hd hl).2
  have h1 := hI.links t ht
  have h2 : 0 < fU S.idx S.O t.k := kB hd hl
  have h3 := hI.lb ht
  rw [gq (hI.ne hd hl), if_neg (hI.ne hd hl), if_pos rfl]
  show 0 ≤ (obj S.O t.k).links - 1 ∧ (obj S.O t.k).links - 1 ≤ 1048576
  omega
end facts
end
section
open Go.RowKit Go.Maps HeapM TabM
theorem bJ.take {β : Bs} {A : Option Addr} {d : List UInt8} (h : bJ β A d) (n : Nat) : bJ β A (d.take n) := by
  intro j v hj
  refine h j v ?_
  unfold bL at hj ⊢
  rw [List.map_take] at hj
  rw [List.getElem?_take] at hj
  split at hj
  ·exact hj
  cases hj
theorem Ei {a b : List UInt8} : bL (a ++ b) = bL a ++ bL b := List.map_append
theorem Inv0.MY {S : aG} {t : Th} (h : Inv0 S) (hl : Live S.idx t) : ((obj S.O t.k).data.length : Int) ≤ S.X.used := by
  have h1 := h.used
  have h2 : (obj S.O t.k).data.length ≤ bytes S.idx S.O := jJ (g := fun p : Int × Th => (obj S.O p.2.k).data.length) hl
  omega
theorem FZ {X : FM} {n : Nat} (h : 0 < X.cB - X.used) : min (n : Int) (X.cB - X.used) = (aX X n : Int) := by
  unfold aX
  omega
theorem F5 {X : FM} {n : Nat} (h : 0 < X.cB - X.used) : aX X n ≤ n ∧ (aX X n : Int) ≤ X.cB - X.used := by
  unfold aX
  omega
section data
variable {O : bM} {us : Used Th} {L L' : HL} {k c : Nat} {A : Option Addr} {t : Th}
theorem BS (hL : L' = L.data k A c) : aJ L' us = aJ L us := by subst hL; rfl
theorem Ig (hL : L' = L.data k A c) : bg O L' = bg O L := by
  subst hL
  funext x
  rfl
theorem Ih (hL : L' = L.data k A c) {x : Nat} (h : x ≠ k) : aN O L' x = aN O L x := by
  have e2 : eS L' x (obj O x) = eS L x (obj O x) := by
    subst hL
    unfold eS uL
    simp only [HL.data, if_neg h]
    rfl
  unfold aN
  rw [e2]
  subst hL
  rfl
theorem Ii (hL : L' = L.data k A c) {x : Nat} (h : x ≠ k) : aY O L' x = aY O L x := by
  unfold aY
  subst hL
  simp only [HL.data, if_neg h]
theorem DA (hL : L' = L.data k A c) : L'.dA k = A := by subst hL; exact if_pos rfl
theorem DB (hL : L' = L.data k A c) : L'.dC k = c := by subst hL; exact if_pos rfl
theorem F6 (hL : L' = L.data k A c) {x : Nat} : L'.b x = L.b x := by subst hL; rfl
end data
section sat
variable {β : Bs} {l l' : List HP} {w : World} {i j k c n : Nat} {O : bM} {L L' : HL} {f : aP → aP} {cs : List Value} {T : TypeId} {ix : List Nat} {A : Option Addr} {R : Nat → bR} {xs : List Value}
theorem Sat.Ll (h : Sat β l w) (hL : L' = L.data k A c) (hp : l[i]? = some (.abs (ak (iC (aN O L) k bR.none)))) (hq : l[j]? = some (.blk (L.b k) cs T)) (hd : nodupB (i :: j :: ix) = true) (hl : bN l ix = some l') (h0 : (f (obj O k)).kind ≠ 0) (hc : eS L' k (f (obj O k)) = cs) (hT : kF (f (obj O k)).kind = T) : Sat β (.abs (ak (aN (ay O k f) L')) :: l') w := by
  refine h.oI (a := vX (L.b k) cs T) hp hq (fun _ _ h => h) hd hl k (fun x hx => ?_) (by rw [qW, if_neg h0, hc, hT, F6 hL])
  rw [qX hx, Ih hL hx, lN hx]
theorem Sat.Lm (h : Sat β l w) (hL : L' = L.data k A c) (hp : l[i]? = some (.abs (ak (iC (aY O L) k bR.none)))) (hq : l[j]? = some (.abs (aH 5 1 A n c xs))) (hd : nodupB (i :: j :: ix) = true) (hl : bN l ix = some l') (h1 : (f (obj O k)).kind = 1) (hn : n = (f (obj O k)).data.length) (hx : xs = bL (f (obj O k)).data) : Sat β (.abs (ak (aY (ay O k f) L')) :: l') w := by
  refine h.oI hp hq (fun _ _ h => h) hd hl k (fun x hx => by rw [tE hx, Ii hL hx, lN hx]) ?_
  rw [o9 (by rw [bH]; exact h1), bH, DA hL, DB hL, hn, hx]
end sat
end
section
open Go.RowKit Go.Maps HeapM TabM
structure fB (β : Bs) (c : aU) : Prop where
  hw : (Lit.int .i64 c.handle).wf = true
  ow : (Lit.int .i64 c.other).wf = true
  nm : c.name.size ≤ 1048576
  tx : c.text.size ≤ 1048576
  da : bJ β c.dA c.data
  dl : c.data.length ≤ 1099511627776
  dc : c.data.length ≤ c.dC
section facts
variable {S : aG} {h : Int} {name : ByteArray} {need : Int} {t : Th} {c : aU}
theorem jd (hI : Inv0 S) (h : Int) (name : ByteArray) (need : Int) : (∃ e, cF S.O S.us h name need = .error e ∧ e ≠ 0) ∨ ∃ d, cF S.O S.us h name need = .ok d ∧ Live S.idx ⟨d, 2⟩ ∧ (obj S.O d).gone = false ∧ bw name ∧ TabM.get S.us h = some ⟨d, 2⟩ := by
  unfold cF
  cases e : TabM.get S.us h with
  | none => exact .inl ⟨131, rfl, by decide⟩
  | some t =>
    simp only
    split
    ·rename_i hk
     split
     ·exact .inl ⟨170, rfl, by decide⟩
     rename_i hg
     split
     ·rename_i hn
      split
      ·obtain ⟨k, kd⟩ := t
       simp only at hk
       subst hk
       exact .inr ⟨k, rfl, (hI.us h _ e).1, by simpa using hg, hn, rfl⟩
      exact .inl ⟨175, rfl, by decide⟩
     exact .inl ⟨95, rfl, by decide⟩
    exact .inl ⟨173, rfl, by decide⟩
theorem xC (hI : Inv0 S) (c : aU) : (∃ e, ez S.O S.us c = .error e ∧ e ≠ 0) ∨ (∃ k, ez S.O S.us c = .ok ⟨k, 1⟩ ∧ Live S.idx ⟨k, 1⟩) ∨ (∃ k, ez S.O S.us c = .ok ⟨k, 2⟩ ∧ Live S.idx ⟨k, 2⟩) ∨ ∃ k, ez S.O S.us c = .ok ⟨k, 3⟩ ∧ Live S.idx ⟨k, 3⟩ := by
  unfold ez
  rcases jd hI c.handle c.name 64 with ⟨e, h1, h2⟩ | ⟨d, h1, h2, _⟩
  ·rw [h1]; exact .inl ⟨e, rfl, h2⟩
  rw [h1]
  simp only
  rcases hI.jS h2 c.name with h3 | ⟨k, h3, h4⟩ | ⟨k, h3, h4⟩ | ⟨k, h3, h4⟩
  ·rw [h3]; exact .inl ⟨170, rfl, by decide⟩
  ·rw [h3]; exact .inr (.inl ⟨k, rfl, h4⟩)
  ·rw [h3]; exact .inr (.inr (.inl ⟨k, rfl, h4⟩))
  rw [h3]; exact .inr (.inr (.inr ⟨k, rfl, h4⟩))
theorem BU {L : HL} {us : Used Th} {h : Int} : aJ L (del h us) = del h (aJ L us) := Dt (cI L) h us
theorem DC {us : Used Th} {h : Int} (e : TabM.get us h = some t) : 0 < hnd us t.k := Nat.lt_of_lt_of_le (by simp) (jJ (g := fun p : Int × Th => if p.2.k = t.k then 1 else 0) e)
theorem wk {L : HL} : aY (openM S t).2.2.O L = aY S.O L := by
  by_cases h : (S.us.length : Int) < S.X.cH
  ·rw [gX h]; exact pz (fun _ => cL (f := fun o => { o with opens := o.opens + 1 }) (g := aP.data) (fun _ => rfl)) (fun _ => ij (f := fun o => { o with opens := o.opens + 1 }) (fun _ => rfl))
  rw [jj h]
theorem wm {L : HL} : bg (openM S t).2.2.O L = bg S.O L := by
  by_cases h : (S.us.length : Int) < S.X.cH
  ·rw [gX h]; exact kz (f := fun o => { o with opens := o.opens + 1 }) rfl rfl
  rw [jj h]
theorem Kb : (iy S c).2.2.op = c.op := by unfold iy; (repeat' split) <;> rfl
theorem Ej : (dN S c).2.2.op = c.op := by unfold dN; (repeat' split) <;> rfl
theorem C2 : (dw S c).2.2.op = c.op := by unfold dw; (repeat' split) <;> rfl
theorem Ek : (eE S c).2.2.op = c.op := by unfold eE; (repeat' split) <;> rfl
theorem C3 : (cW S c).2.2.op = c.op := by unfold cW; (repeat' split) <;> rfl
theorem BV : (dV S c).2.2.op = c.op := by unfold dV; (repeat' split) <;> rfl
theorem F7 : (bW S c).2.2.op = c.op := by unfold bW; (repeat' split) <;> rfl
theorem C4 : (eT S c).2.2.op = c.op := by unfold eT; (repeat' split) <;> rfl
theorem El : (fJ S c).2.2.op = c.op := by unfold fJ; (repeat' split) <;> rfl
theorem C5 : (dS S c).2.2.op = c.op := by unfold dS; (repeat' split) <;> rfl
theorem Em : (fw S c).2.2.op = c.op := by unfold fw; (repeat' split) <;> rfl
theorem En : (bF S c).2.2.op = c.op := by unfold bF; (repeat' split) <;> rfl
theorem Kc : (jv S c).2.2.op = c.op := by unfold jv; (repeat' split) <;> rfl
theorem F8 : (eU S c).2.2.op = c.op := by unfold eU; (repeat' split) <;> rfl
theorem Ij : (iq S c).2.2.op = c.op := by unfold iq; (repeat' split) <;> rfl
end facts
theorem xD {S : aG} {c : aU} (h : c.op = 1) : opM S c = iy S c := by
  unfold opM
  simp [h]
theorem uS {S : aG} {c : aU} (h : c.op = 2) : opM S c = dN S c := by
  unfold opM
  simp [h]
theorem xE {S : aG} {c : aU} (h : c.op = 3) : opM S c = dw S c := by
  unfold opM
  simp [h]
theorem uT {S : aG} {c : aU} (h : c.op = 4) : opM S c = eE S c := by
  unfold opM
  simp [h]
theorem xG {S : aG} {c : aU} (h : c.op = 5) : opM S c = cW S c := by
  unfold opM
  simp [h]
theorem xH {S : aG} {c : aU} (h : c.op = 6) : opM S c = dV S c := by
  unfold opM
  simp [h]
theorem xI {S : aG} {c : aU} (h : c.op = 7) : opM S c = bW S c := by
  unfold opM
  simp [h]
theorem xJ {S : aG} {c : aU} (h : c.op = 8) : opM S c = eT S c := by
  unfold opM
  simp [h]
theorem AL {S : aG} {c : aU} (h : c.op = 9) : opM S c = fw S c := by
  unfold opM
  simp [h]
theorem xK {S : aG} {c : aU} (h : c.op = 10) : opM S c = bF S c := by
  unfold opM
  simp [h]
theorem xL {S : aG} {c : aU} (h : c.op = 11) : opM S c = jv S c := by
  unfold opM
  simp [h]
theorem tT {S : aG} {c : aU} (h : c.op = 12) : opM S c = eU S c := by
  unfold opM
  simp [h]
theorem xM {S : aG} {c : aU} (h : c.op = 13) : opM S c = iq S c := by
  unfold opM
  simp [h]
theorem tU {S : aG} {c : aU} (h : c.op = 14) : opM S c = fJ S c := by
  unfold opM
  simp [h]
theorem tV {S : aG} {c : aU} (h : c.op = 15) : opM S c = dS S c := by
  unfold opM
  simp [h]
theorem tW {S : aG} {c : aU} (h : ¬ (1 ≤ c.op ∧ c.op ≤ 15)) : opM S c = (230, S, c) := by
  unfold opM
  repeat rw [if_neg (by omega)]
end
section
open Go.RowKit Go.Maps HeapM TabM
section inv
variable {S : aG} {d to : Nat} {name toName text : ByteArray} {mode : Int} {c : aU}
theorem BW (hI : Inv0 S) : hnd S.us (aD S.X) = 0 := by
  have : hnd S.us (aD S.X) = cG (fun _ => 0) S.us := eG (fun p hp => if_neg (hI.fresh.us p hp))
  rw [this]
  have h0 : ∀ us : Used Th, cG (fun _ => 0) us = 0 := fun us => by
    induction us with
    | nil => rfl
    | cons p r ih => show 0 + _ = 0; rw [ih]
  exact h0 _
theorem vr (hI : Inv0 S) {kind mode : Int} {tg : ByteArray} (hm : kL mode) (ht : dx kind tg) : jc { aC S.X kind mode with target := tg } :=
  ⟨hm, ⟨Int.le_refl _, by show (0 : Int) ≤ 2147483647; decide⟩, ⟨Int.le_refl _, by show (0 : Int) ≤ 2147483647; decide⟩, hI.now, fun _ => rfl, fun _ => rfl, ht⟩
theorem Inv.AO (hI : Inv S) (hd : Live S.idx ⟨d, 2⟩) (fY : (obj S.O d).gone = false) (hgn : bw name) (h0 : bO S.X S.O S.idx d name = 0) {kind mode : Int} {tg : ByteArray} (hk : kind = 1 ∨ kind = 2 ∨ kind = 3) (hm : kL mode) (ht : dx kind tg) :
    Inv (bE S d name { aC S.X kind mode with target := tg }) := by
  have h := hI.add (us' := S.us) (eH := S.au) (o := { aC S.X kind mode with target := tg }) hd fY (lS h0) hgn (qG h0) rfl hk rfl rfl rfl rfl rfl (vr hI.toInv0 hm ht) hI.usr hI.tN hI.zW hI.au (fun h t e => ⟨.inl (hI.us h t e).1, (hI.us h t e).2⟩) (fun _ _ => rfl) (by rw [BW hI.toInv0]; rfl)
  exact h
theorem Inv.mkdirM (hI : Inv S) (hd : Live S.idx ⟨d, 2⟩) (fY : (obj S.O d).gone = false) (hgn : bw name) (hm : kL mode) : Inv (Proofs.YtkiedlmhocglhaaGreatDoor.mkdirM S d name mode).2 := by
  unfold Proofs.YtkiedlmhocglhaaGreatDoor.mkdirM
  split
  ·rename_i h0
   exact hI.AO hd fY hgn h0 (.inr (.inl rfl)) hm (.inl ⟨by decide, rfl⟩)
  exact hI
theorem Ke {s : ByteArray} (h : kG s = 0) : dx 3 s := by
  unfold kG at h
  split at h
  ·cases h
  rename_i h1
  split at h
  ·cases h
  split at h
  ·rename_i h2 h3
   refine .inr ⟨rfl, ?_, by omega, h3⟩
   apply Classical.byContradiction
   intro hn
   have : s.size = 0 := by omega
   exact h1 (jl.1 this)
  cases h
theorem Inv.symlinkM (hI : Inv S) (hd : Live S.idx ⟨d, 2⟩) (fY : (obj S.O d).gone = false) (hgn : bw name) : Inv (Proofs.YtkiedlmhocglhaaGreatDoor.symlinkM S d name text).2 := by
  unfold Proofs.YtkiedlmhocglhaaGreatDoor.symlinkM
  split
  ·rename_i hb
   split
   ·rename_i h0
    exact hI.AO hd fY hgn h0 (.inr (.inr rfl)) ⟨by decide, by decide⟩ (Ke hb)
   exact hI
  exact hI
theorem Inv.unlinkM (hI : Inv S) (hd : Live S.idx ⟨d, 2⟩) : Inv (Proofs.YtkiedlmhocglhaaGreatDoor.unlinkM S d name).2 := by
  unfold Proofs.YtkiedlmhocglhaaGreatDoor.unlinkM
  split
  ·exact hI
  rename_i t hl
  split
  ·exact hI
  rename_i hk
  exact hI.uR hd hl hk
theorem Inv.rmdirM (hI : Inv S) (hd : Live S.idx ⟨d, 2⟩) : Inv (Proofs.YtkiedlmhocglhaaGreatDoor.rmdirM S d name).2 := by
  unfold Proofs.YtkiedlmhocglhaaGreatDoor.rmdirM
  split
  ·exact hI
  rename_i t hl
  split
  ·split
   ·rename_i he
    exact hI.drop hd hl (fun _ => he)
   exact hI
  exact hI
theorem Eo {t : Th} (ht : t.k ≠ to) : (obj (ar S d name t).O to).gone = (obj S.O to).gone := by
  have h1 : (obj (ar S d name t).O to).gone = (obj (aL S.X S.O d name t) to).gone := by
    unfold ar
    simp only
    split
    ·show (obj (ay _ t.k _) to).gone = _
     rw [bS (fun e => ht e.symm)]
    rfl
  rw [h1]
  exact cD (g := aP.gone) (fun _ _ => rfl) (fun _ _ => rfl) (fun _ _ _ => rfl)
theorem Inv.renameM (hI : Inv S) (hd : Live S.idx ⟨d, 2⟩) (hto : Live S.idx ⟨to, 2⟩) (fY : (obj S.O to).gone = false) (hgn : bw toName) : Inv (Proofs.YtkiedlmhocglhaaGreatDoor.renameM S d name to toName).2 := by
  unfold Proofs.YtkiedlmhocglhaaGreatDoor.renameM
  split
  ·exact hI
  rename_i t hl
  split
  ·exact hI
  rename_i hb
  have hb : t.kind = 2 → ¬ iB S.O t.k to := fun h1 h2 => hb ⟨h1, h2⟩
  split
  ·rename_i hn
   exact hI.move hd hl hto fY hn hgn hb
  rename_i o hl2
  split
  ·exact hI
  rename_i hot
  split
  ·exact hI
  rename_i hok
  split
  ·exact hI
  rename_i Pa
  have ho := (hI.ent hto hl2).2
  have Ln : o.k ≠ to := hI.ne hto hl2
  have h1 := hI.uR hto hl2 hok
  have hd1 : Live (ar S to toName o).idx ⟨d, 2⟩ := gY hI.toInv0 hto hl2 hd (fun e => hok (by have := eV hd ho e; rw [← this]))
  have iD : Live (ar S to toName o).idx ⟨to, 2⟩ := gY hI.toInv0 hto hl2 hto (fun e => Ln e.symm)
  exact h1.move hd1 (nM hI.toInv0 hto hl2 hl hot) iD (by rw [Eo Ln]; exact fY) (nN hI.toInv0 hto hl2) hgn (fun h => absurd h Pa)
theorem Inv.linkM (hI : Inv S) (hd : Live S.idx ⟨d, 2⟩) (hto : Live S.idx ⟨to, 2⟩) (fY : (obj S.O to).gone = false) (hgn : bw toName) : Inv (Proofs.YtkiedlmhocglhaaGreatDoor.linkM S d name to toName).2 := by
  unfold Proofs.YtkiedlmhocglhaaGreatDoor.linkM
  split
  ·exact hI
  rename_i t hl
  have ht := (hI.ent hd hl).2
  split
  ·exact hI
  rename_i hk
  split
  ·rename_i hn
   split
   ·rename_i hr
    have hgt : (obj S.O t.k).gone = false := by
      cases hg : (obj S.O t.k).gone with
      | false => rfl
      | true =>
        have h1 := (hI.gone t ht hg).1
        have h2 := hI.links t ht
        have h3 : 0 < fU S.idx S.O t.k := kB hd hl
        omega
    exact hI.link hto fY hn hgn ht hgt hk hr
   exact hI
  exact hI
theorem Inv.createM (hI : Inv S) (hd : Live S.idx ⟨d, 2⟩) (fY : (obj S.O d).gone = false) (hgn : bw name) (hm : kL mode) : Inv (Proofs.YtkiedlmhocglhaaGreatDoor.createM S d name mode).2.2 := by
  unfold Proofs.YtkiedlmhocglhaaGreatDoor.createM
  split
  ·rename_i h0
   split
   ·rename_i hlt
    obtain ⟨g1, g2, _⟩ := least_le hI.usr (fun x hx => (hI.tN x hx).1)
    obtain ⟨v1, v2⟩ := Dz (t := ⟨aD S.X, 1⟩) hI.usr hI.tN
    have hm2 := vr (kind := 1) (tg := ⟨#[]⟩) hI.toInv0 hm (.inl ⟨by decide, rfl⟩)
    refine hI.add (us' := ins (TabM.least S.us) ⟨aD S.X, 1⟩ S.us) (eH := max S.au ((S.us.length : Int) + 1)) (o := { aC S.X 1 mode with opens := 1 }) hd fY (lS h0) hgn (qG h0) rfl (.inl rfl) rfl rfl rfl rfl rfl ⟨hm2.mode, hm2.uid, hm2.gid, hm2.time, hm2.data, hm2.ah, hm2.target⟩ v1 v2 (by rw [fW]; omega) (by have := hI.au; omega) (fun h t e => ?_) (fun k hk => ?_) ?_
    ·rw [oV g2] at e
     split at e
     ·cases e; exact ⟨.inr rfl, by show (1 : Int) ≠ 3; decide⟩
     exact ⟨.inl (hI.us h t e).1, (hI.us h t e).2⟩
    ·rw [yY, if_neg (fun e => hk e.symm), Nat.zero_add]
    rw [yY, if_pos rfl, BW hI.toInv0]; rfl
   exact hI
  exact hI
theorem Inv.opM (hI : Inv S) (c : aU) : Inv (Proofs.YtkiedlmhocglhaaGreatDoor.opM S c).2.1 := by
  have habout : ∀ {need : Int} {d : Nat} {h : Int} {n : ByteArray}, cF S.O S.us h n need = .ok d → Live S.idx ⟨d, 2⟩ ∧ (obj S.O d).gone = false ∧ bw n := fun {need d h n} e => by
    rcases jd hI.toInv0 h n need with ⟨e2, h1, _⟩ | ⟨d2, h1, h2, h3, h4, _⟩
    ·rw [e] at h1; cases h1
    rw [e] at h1; cases h1; exact ⟨h2, h3, h4⟩
  have hnamed : ∀ {t : Th}, ez S.O S.us c = .ok t → Live S.idx t := fun {t} e => by
    rcases xC hI.toInv0 c with ⟨e2, h1, _⟩ | ⟨k, h1, h2⟩ | ⟨k, h1, h2⟩ | ⟨k, h1, h2⟩ <;> rw [e] at h1 <;> cases h1 <;> exact h2
  by_cases h : 1 ≤ c.op ∧ c.op ≤ 15
  ·have h : c.op = 1 ∨ c.op = 2 ∨ c.op = 3 ∨ c.op = 4 ∨ c.op = 5 ∨ c.op = 6 ∨ c.op = 7 ∨ c.op = 8 ∨ c.op = 9 ∨ c.op = 10 ∨ c.op = 11 ∨ c.op = 12 ∨ c.op = 13 ∨ c.op = 14 ∨ c.op = 15 := by omega
   rcases h with h | h | h | h | h | h | h | h | h | h | h | h | h | h | h
   ·rw [xD h]
    unfold iy
    split
    ·exact hI
    rename_i t e
    split
    ·rename_i hk; exact hI.openM (hI.live e) (by rw [hk]; decide)
    exact hI
   ·rw [uS h]
    unfold dN
    split
    ·exact hI
    rename_i t e
    split
    ·exact hI
    rename_i hk
    split
    ·exact hI
    exact hI.openM (hnamed e) hk
   ·rw [xE h]
    unfold dw
    split
    ·exact hI
    rename_i t e
    split
    ·exact hI
    rename_i hk
    split
    ·exact hI
    exact hI.openM (hnamed e) hk
   ·rw [uT h]
    unfold eE
    split
    ·exact hI
    rename_i d e
    obtain ⟨h1, h2, h3⟩ := habout e
    split
    ·rename_i hm; exact hI.mkdirM h1 h2 h3 hm
    exact hI
   ·rw [xG h]
    unfold cW
    split
    ·exact hI
    rename_i d e
    obtain ⟨h1, h2, h3⟩ := habout e
    split
    ·rename_i hm
     split
     ·exact hI.createM h1 h2 h3 hm
     exact hI
    exact hI
   ·rw [xH h]
    unfold dV
    split
    ·exact hI
    rename_i d e
    obtain ⟨h1, h2, h3⟩ := habout e
    exact hI.symlinkM h1 h2 h3
   ·rw [xI h]
    unfold bW
    split
    ·exact hI
    rename_i d e
    split
    ·exact hI
    rename_i to e2
    obtain ⟨h1, h2, h3⟩ := habout e2
    exact hI.linkM (habout e).1 h1 h2 h3
   ·rw [xJ h]
    unfold eT
    split
    ·exact hI
    rename_i d e
    exact hI.unlinkM (habout e).1
   ·rw [AL h]
    unfold fw
    split
    ·exact hI
    rename_i t e
    split
    ·rename_i hk
     obtain ⟨k, kd⟩ := t
     simp only at hk
     subst hk
     exact hI.writeM (hI.us _ _ e).1 _
    exact hI
   ·rw [xK h]
    unfold bF
    split
    ·exact hI
    split
    ·exact hI
    split
    ·rename_i hm
     split
     ·rename_i ho
      split
      ·rename_i ht; exact hI.MX hm ho ht
      exact hI
     exact hI
    exact hI
   ·rw [xL h]
    unfold jv
    split <;> exact hI
   ·rw [tT h]
    unfold eU
    split <;> exact hI
   ·rw [xM h]
    unfold iq
    split
    ·exact hI
    rename_i t e; exact hI.shut e
   ·rw [tU h]
    unfold fJ
    split
    ·exact hI
    rename_i d e
    exact hI.rmdirM (habout e).1
   rw [tV h]
   unfold dS
   split
   ·exact hI
   rename_i d e
   split
   ·exact hI
   rename_i to e2
   obtain ⟨h1, h2, h3⟩ := habout e2
   exact hI.renameM (habout e).1 h1 h2 h3
  rw [tW h]; exact hI
theorem Inv.doM (hI : Inv S) (c : aU) : Inv (Proofs.YtkiedlmhocglhaaGreatDoor.doM S c).1 := hI.opM _
end inv
end
section
open Go.RowKit Go.Maps HeapM TabM
structure yZ where
  at_ : Int
  op : Int
  path : ByteArray
  to : ByteArray
  text : ByteArray
def slash : ByteArray := ⟨#[47]⟩
def gE (s : ByteArray) : List ByteArray := Lib.splitB slash 0 (Lib.countB s slash) s
noncomputable section
def iE (O : bM) : Nat → List ByteArray → Except Int (Nat × ByteArray)
  | _, [] => .error 170
  | d, [p] => if (obj O d).gone = true then .error 170 else .ok (d, p)
  | d, p :: q :: r => match aS p (obj O d).ah with
    | none => .error 170
    | some t => if t.kind = 3 then .error 174 else if t.kind = 1 then .error 173 else iE O t.k (q :: r)
instance (ps : List ByteArray) : Decidable (∀ p ∈ ps, bw p) := Classical.propDecidable _
def gP (O : bM) (d : Nat) (path : ByteArray) : Except Int (Nat × ByteArray) := if ∀ p ∈ gE path, bw p then iE O d (gE path) else .error 95
def actNew (S : aG) (d : Nat) (name text : ByteArray) : Int × aG :=
  if bO S.X S.O S.idx d name = 0 then (0, (writeM (bE S d name (aC S.X 1 420)) (aD S.X) text.data.toList).2.2) else (bO S.X S.O S.idx d name, S)
def actWrite (S : aG) (d : Nat) (name text : ByteArray) : Int × aG :=
  match aS name (obj S.O d).ah with
  | none => (170, S)
  | some t => if t.kind = 3 then (174, S) else if t.kind = 2 then (172, S) else ((writeM S t.k text.data.toList).2.1, (writeM S t.k text.data.toList).2.2)
def actR (S : aG) (top : Nat) (a : yZ) (d : Nat) (name : ByteArray) : Int × aG :=
  if a.op = 1 then actNew S d name a.text
  else if a.op = 2 then mkdirM S d name 493
  else if a.op = 3 then symlinkM S d name a.text
  else if a.op = 4 then unlinkM S d name
  else if a.op = 5 then rmdirM S d name
  else if a.op = 6 then match gP S.O top a.to with
    | .error e => (e, S)
    | .ok (to, toName) => renameM S d name to toName
  else actWrite S d name a.text
def actM (S : aG) (root : Int) (a : yZ) : Int × aG :=
  if a.op < 1 ∨ a.op > 7 then (230, S)
  else match TabM.get S.idx root with
    | none => (141, S)
    | some t => if t.kind = 2 then
        match gP S.O t.k a.path with
        | .error e => (e, S)
        | .ok (d, name) => actR S t.k a d name
      else (173, S)
end
section facts
variable {S : aG} {O : bM} {d d' : Nat} {name : ByteArray} {t : Th}
theorem DE (hI : Inv0 S) : ∀ (ps : List ByteArray) (d : Nat), Live S.idx ⟨d, 2⟩ → (∀ p ∈ ps, bw p) → iE S.O d ps = .ok (d', name) → Live S.idx ⟨d', 2⟩ ∧ (obj S.O d').gone = false ∧ bw name
  | [], d, _, _, h => by cases h
  | [p], d, hd, hg, h => by
    unfold iE at h
    split at h
    ·cases h
    rename_i hn
    cases h
    exact ⟨hd, by simpa using hn, hg _ (List.mem_singleton.2 rfl)⟩
  | p :: q :: r, d, hd, hg, h => by
    unfold iE at h
    cases e : aS p (obj S.O d).ah with
    | none => rw [e] at h; cases h
    | some t =>
      rw [e] at h
      simp only at h
      split at h
      ·cases h
      rename_i h3
      split at h
      ·cases h
      rename_i h1
      have hl := (hI.ent hd e).2
      have hk : t = ⟨t.k, 2⟩ := by
        have := (hI.ob _ hl).2.2
        obtain ⟨k, kd⟩ := t
        simp only at this h1 h3
        have : kd = 2 := by omega
        rw [this]
      rw [hk] at hl
      exact DE hI (q :: r) t.k hl (fun p hp => hg p (List.mem_cons_of_mem _ hp)) h
theorem y4 {path : ByteArray} (hI : Inv0 S) (hd : Live S.idx ⟨d, 2⟩) (h : gP S.O d path = .ok (d', name)) : Live S.idx ⟨d', 2⟩ ∧ (obj S.O d').gone = false ∧ bw name := by
  unfold gP at h
  split at h
  ·rename_i hg
   exact DE hI _ _ hd hg h
  cases h
theorem BX (hI : Inv S) {o : aP} : Live (ins (S.X.last + 1) ⟨aD S.X, o.kind⟩ S.idx) ⟨aD S.X, o.kind⟩ := by
  unfold Live
  have h1 := mV hI.toInv0
  have hn : S.X.last + 1 ∉ keys S.idx := by
    cases e : TabM.get S.idx (S.X.last + 1) with
    | none => exact get_none.1 e
    | some t => have := hI.idx _ _ e; omega
  rw [oV hn]
  simp only
  rw [h1, if_pos rfl]
theorem Inv.actNew {text : ByteArray} (hI : Inv S) (hd : Live S.idx ⟨d, 2⟩) (fY : (obj S.O d).gone = false) (hgn : bw name) : Inv (Proofs.YtkiedlmhocglhaaGreatDoor.actNew S d name text).2 := by
  unfold Proofs.YtkiedlmhocglhaaGreatDoor.actNew
  split
  ·rename_i h0
   exact (hI.AO hd fY hgn h0 (.inl rfl) ⟨by decide, by decide⟩ (.inl ⟨by decide, rfl⟩)).writeM (BX hI (o := aC S.X 1 420)) _
  exact hI
theorem Inv.actWrite {text : ByteArray} (hI : Inv S) (hd : Live S.idx ⟨d, 2⟩) : Inv (Proofs.YtkiedlmhocglhaaGreatDoor.actWrite S d name text).2 := by
  unfold Proofs.YtkiedlmhocglhaaGreatDoor.actWrite
  split
  ·exact hI
  rename_i t e
  split
  ·exact hI
  split
  ·exact hI
  rename_i h3 h2
  have hl := (hI.ent hd e).2
  have hk : t = ⟨t.k, 1⟩ := by
    have := (hI.ob _ hl).2.2
    obtain ⟨k, kd⟩ := t
    simp only at this h2 h3
    have : kd = 1 := by omega
    rw [this]
  rw [hk] at hl
  exact hI.writeM hl _
theorem Inv.actR {top : Nat} {a : yZ} (hI : Inv S) (ht : Live S.idx ⟨top, 2⟩) (hd : Live S.idx ⟨d, 2⟩) (fY : (obj S.O d).gone = false) (hgn : bw name) : Inv (Proofs.YtkiedlmhocglhaaGreatDoor.actR S top a d name).2 := by
  unfold Proofs.YtkiedlmhocglhaaGreatDoor.actR
  split
  ·exact hI.actNew hd fY hgn
  split
  ·exact hI.mkdirM hd fY hgn ⟨by decide, by decide⟩
  split
  ·exact hI.symlinkM hd fY hgn
  split
  ·exact hI.unlinkM hd
  split
  ·exact hI.rmdirM hd
  split
  ·split
   ·exact hI
   rename_i to toName e
   obtain ⟨h1, h2, h3⟩ := y4 hI.toInv0 ht e
   exact hI.renameM hd h1 h2 h3
  exact hI.actWrite hd
theorem Kf {i : Int} (hI : Inv0 S) (e : TabM.get S.idx i = some t) (hk : t.kind = 2) : Live S.idx ⟨t.k, 2⟩ := by
  have := hI.live e
  obtain ⟨k, kd⟩ := t
  simp only at hk
  subst hk
  exact this
theorem Inv.actM {root : Int} {a : yZ} (hI : Inv S) : Inv (Proofs.YtkiedlmhocglhaaGreatDoor.actM S root a).2 := by
  unfold Proofs.YtkiedlmhocglhaaGreatDoor.actM
  split
  ·exact hI
  split
  ·exact hI
  rename_i t e
  split
  ·rename_i hk
   split
   ·exact hI
   rename_i d name e2
   have ht := Kf hI.toInv0 e hk
   obtain ⟨h1, h2, h3⟩ := y4 hI.toInv0 ht e2
   exact hI.actR ht h1 h2 h3
  exact hI
end facts
section err
variable {S : aG} {c : aU} {d to : Nat} {name toName text : ByteArray} {t : Th}
theorem tX (h : (openM S t).2.1 ≠ 0) : (openM S t).2.2 = S := by
  by_cases e : (S.us.length : Int) < S.X.cH
  ·rw [gX e] at h; exact absurd rfl h
  rw [jj e]
theorem Ep {m : Int} (h : (mkdirM S d name m).1 ≠ 0) : (mkdirM S d name m).2 = S := by
  unfold mkdirM at *
  split
  ·rename_i e; rw [if_pos e] at h; exact absurd rfl h
  rfl
theorem BZ (h : (symlinkM S d name text).1 ≠ 0) : (symlinkM S d name text).2 = S := by
  unfold symlinkM at *
  split
  ·rename_i e1
   rw [if_pos e1] at h
   split
   ·rename_i e; rw [if_pos e] at h; exact absurd rfl h
   rfl
  rfl
theorem C6 (h : (unlinkM S d name).1 ≠ 0) : (unlinkM S d name).2 = S := by
  unfold unlinkM at *
  split
  ·rfl
  rename_i t e
  rw [e] at h
  simp only at h
  split
  ·rfl
  rename_i e2; rw [if_neg e2] at h; exact absurd rfl h
theorem Er (h : (rmdirM S d name).1 ≠ 0) : (rmdirM S d name).2 = S := by
  unfold rmdirM at *
  split
  ·rfl
  rename_i t e
  rw [e] at h
  simp only at h
  split
  ·rename_i e2
   rw [if_pos e2] at h
   split
   ·rename_i e3; rw [if_pos e3] at h; exact absurd rfl h
   rfl
  rfl
theorem C8 (h : (renameM S d name to toName).1 ≠ 0) : (renameM S d name to toName).2 = S := by
  unfold renameM at *
  cases e : aS name (obj S.O d).ah with
  | none => rfl
  | some t =>
    rw [e] at h
    simp only at h ⊢
    split
    ·rfl
    rename_i e1
    rw [if_neg e1] at h
    cases e2 : aS toName (obj S.O to).ah with
    | none => rw [e2] at h; exact absurd rfl h
    | some o =>
      rw [e2] at h
      simp only at h ⊢
      split
      ·rfl
      rename_i e3
      rw [if_neg e3] at h
      split
      ·rfl
      rename_i e4
      rw [if_neg e4] at h
      split
      ·rfl
      rename_i e5
      rw [if_neg e5] at h
      exact absurd rfl h
theorem Es {k : Nat} {bs : List UInt8} (h : (writeM S k bs).2.1 ≠ 0) : (writeM S k bs).2.2 = S := by
  unfold writeM at *
  split
  ·rfl
  rename_i e
  rw [if_neg e] at h
  split
  ·rfl
  rename_i e2
  rw [if_neg e2] at h
  exact absurd rfl h
theorem F9 (h : (linkM S d name to toName).1 ≠ 0) : (linkM S d name to toName).2 = S := by
  unfold linkM at *
  cases e : aS name (obj S.O d).ah with
  | none => rfl
  | some t =>
    rw [e] at h
    simp only at h ⊢
    split
    ·rfl
    rename_i e1
    rw [if_neg e1] at h
    split
    ·rename_i e2
     rw [if_pos e2] at h
     split
     ·rename_i e3; rw [if_pos e3] at h; exact absurd rfl h
     rfl
    rfl
theorem C9 {m : Int} (h : (createM S d name m).2.1 ≠ 0) : (createM S d name m).2.2 = S := by
  unfold createM at *
  split
  ·rename_i e1
   rw [if_pos e1] at h
   split
   ·rename_i e; rw [if_pos e] at h; exact absurd rfl h
   rfl
  rfl
theorem Kg (h : (opM S c).1 ≠ 0) : (opM S c).2.1 = S := by
  by_cases hop : 1 ≤ c.op ∧ c.op ≤ 15
  case neg => rw [tW hop]
  have hop : c.op = 1 ∨ c.op = 2 ∨ c.op = 3 ∨ c.op = 4 ∨ c.op = 5 ∨ c.op = 6 ∨ c.op = 7 ∨ c.op = 8 ∨ c.op = 9 ∨ c.op = 10 ∨ c.op = 11 ∨ c.op = 12 ∨ c.op = 13 ∨ c.op = 14 ∨ c.op = 15 := by omega
  rcases hop with e | e | e | e | e | e | e | e | e | e | e | e | e | e | e
  ·rw [xD e] at h ⊢
   unfold iy at *
   split
   ·rfl
   rename_i t e1
   rw [e1] at h
   simp only at h
   split
   ·rename_i e2; rw [if_pos e2] at h; exact tX h
   rfl
  ·rw [uS e] at h ⊢
   unfold dN at *
   split
   ·rfl
   rename_i t e1
   rw [e1] at h
   simp only at h
   split
   ·rfl
   rename_i e2
   rw [if_neg e2] at h
   split
   ·rfl
   rename_i e3
   rw [if_neg e3] at h
   exact tX h
  ·rw [xE e] at h ⊢
   unfold dw at *
   split
   ·rfl
   rename_i t e1
   rw [e1] at h
   simp only at h
   split
   ·rfl
   rename_i e2
   rw [if_neg e2] at h
   split
   ·rfl
   rename_i e3
   rw [if_neg e3] at h
   exact tX h
  ·rw [uT e] at h ⊢
   unfold eE at *
   split
   ·rfl
   rename_i t e1
   rw [e1] at h
   simp only at h
   split
   ·rename_i e2; rw [if_pos e2] at h; exact Ep h
   rfl
  ·rw [xG e] at h ⊢
   unfold cW at *
   split
   ·rfl
   rename_i t e1
   rw [e1] at h
   simp only at h
   split
   ·rename_i e2
    rw [if_pos e2] at h
    split
    ·rename_i e3; rw [if_pos e3] at h; exact C9 h
    rfl
   rfl
  ·rw [xH e] at h ⊢
   unfold dV at *
   split
   ·rfl
   rename_i t e1
   rw [e1] at h
   exact BZ h
  ·rw [xI e] at h ⊢
   unfold bW at *
   split
   ·rfl
   rename_i t e1
   rw [e1] at h
   simp only at h
   split
   ·rfl
   rename_i t2 e2
   rw [e2] at h
   exact F9 h
  ·rw [xJ e] at h ⊢
   unfold eT at *
   split
   ·rfl
   rename_i t e1
   rw [e1] at h
   exact C6 h
  ·rw [AL e] at h ⊢
   unfold fw at *
   split
   ·rfl
   rename_i t e1
   rw [e1] at h
   simp only at h
   split
   ·rename_i e2; rw [if_pos e2] at h; exact Es h
   rfl
  ·rw [xK e] at h ⊢
   unfold bF at *
   split
   ·rfl
   rename_i t e1
   rw [e1] at h
   simp only at h
   split
   ·rfl
   rename_i e2
   rw [if_neg e2] at h
   split
   ·rename_i e3
    rw [if_pos e3] at h
    split
    ·rename_i e4
     rw [if_pos e4] at h
     split
     ·rename_i e5; rw [if_pos e5] at h; exact absurd rfl h
     rfl
    rfl
   rfl
  ·rw [xL e]
   unfold jv
   split <;> rfl
  ·rw [tT e]
   unfold eU
   split <;> rfl
  ·rw [xM e] at h ⊢
   unfold iq at *
   split
   ·rfl
   rename_i t e1
   rw [e1] at h
   exact absurd rfl h
  ·rw [tU e] at h ⊢
   unfold fJ at *
   split
   ·rfl
   rename_i t e1
   rw [e1] at h
   exact Er h
  rw [tV e] at h ⊢
  unfold dS at *
  split
  ·rfl
  rename_i t e1
  rw [e1] at h
  simp only at h
  split
  ·rfl
  rename_i t2 e2
  rw [e2] at h
  exact C8 h
theorem Kh (h : (doM S c).2.code ≠ 0) : (doM S c).1 = S := Kg h
end err
end
section
open Go.RowKit
def mw (β : Bs) (Φ : Bs → Prop) : bR where
  h F w := ∃ β' : Bs, β.le β' ∧ (∀ k, β'.O k → β.O k ∨ F k) ∧ (∀ k, F k → β'.O k) ∧ β'.w0.heap.size ≤ w.heap.size ∧ (∀ k, F k → k < β'.w0.heap.size ∧ w.heap[k]? = β'.w0.heap[k]?) ∧ Φ β'
  lt := fun ⟨_, _, _, _, h4, h5, _⟩ k hk => Nat.lt_of_lt_of_le (h5 k hk).1 h4
  st := fun ⟨β', h1, h2, h3, h4, h5, h6⟩ _ _ hk hs => ⟨β', h1, h2, h3, Nat.le_trans h4 hk.size, fun k hF => ⟨(h5 k hF).1, (hk.block k (Nat.lt_of_lt_of_le (h5 k hF).1 h4) (hs k hF)).trans (h5 k hF).2⟩, h6⟩
section Lp
variable {P : Program} {β : Bs} {N : Nat} {ops : Array Oper} {k : Nat} {fr : Fr} {hps aR : List HP} {Q : Post} {f : FuncId} {args : Array Value} {pre : List HP}
theorem d9.Lp {ι : Type} {vv : ι → Value} {ll : ι → List HP} {Φ : ι → Bs → Prop} (h : d9 P β f args pre (fun β' v l => ∃ x, v = vv x ∧ l = ll x ∧ Φ x β')) : Spec P β f args pre (fun v l => ∃ x, v = vv x ∧ l = .abs (mw β (Φ x)) :: ll x) := by
  intro R w hS
  refine (h R w hS).mono ?_
  rintro e w' ⟨β', v, l, hle, he, ⟨x, rfl, rfl, Ba⟩, ho, φ, h1, h2, h3⟩
  refine ⟨vv x, _, he, ⟨x, rfl, rfl⟩, ho.le hle, fun i => match i with
    | 0 => fun k => β'.O k ∧ ¬ β.O k
    | i + 1 => φ i, fun i p hp => ?_, fun i hi k hk hO => ?_, fun i j hi hj hne k hk hk' => ?_⟩
  ·cases i with
   | zero =>
     have hp : some (HP.abs (mw β (Φ x))) = some p := hp
     cases hp
     exact ⟨β', hle, fun k hk => (Classical.em (β.O k)).elim .inl (fun hn => .inr ⟨hk, hn⟩), fun k hk => hk.1, ho.size, fun k hk => ho.old k hk.1, Ba⟩
   | succ i => exact h1 i p (by simpa using hp)
  ·cases i with
   | zero => exact hk.2 hO
   | succ i => exact h2 i (by simp at hi ⊢; omega) k hk (hle.O k hO)
  cases i with
  | zero =>
    cases j with
    | zero => exact hne rfl
    | succ j => exact h2 j (by simp at hj ⊢; omega) k hk' hk.1
  | succ i =>
    cases j with
    | zero => exact h2 i (by simp at hi ⊢; omega) k hk hk'.1
    | succ j => exact h3 i j (by simp at hi ⊢; omega) (by simp at hj ⊢; omega) (by omega) k hk hk'
theorem Sat.Oi {Φ : Bs → Prop} {l : List HP} {w : World} (h : Sat β (.abs (mw β Φ) :: l) w) : ∃ β' : Bs, β.le β' ∧ Φ β' ∧ Sat β' l w := by
  obtain ⟨ho, φ, h1, h2, h3⟩ := h
  have hF : (mw β Φ).h (φ 0) w := h1 0 _ rfl
  obtain ⟨β', g1, g2, g3, g4, g5, g6⟩ := hF
  refine ⟨β', g1, g6, ⟨ho.os.trans g1.os.symm, ho.tape.trans g1.tape.symm, ho.output.trans g1.output.symm, g4, fun k hk => ?_⟩, fun j => φ (j + 1), fun j p hp => h1 (j + 1) p (by simpa using hp), fun j hj k hk hO => ?_, fun a b ha hb hne => h3 (a + 1) (b + 1) (by simp; omega) (by simp; omega) (by omega)⟩
  ·rcases g2 k hk with hb | hb
   ·have e1 := g1.old k hb
    have e2 := ho.old k hb
    exact ⟨Nat.lt_of_lt_of_le e1.1 g1.size, e2.2.trans e1.2.symm⟩
   exact g5 k hb
  rcases g2 k hO with hb | hb
  ·exact h2 (j + 1) (by simp; omega) k hk hb
  exact h3 (j + 1) 0 (by simp; omega) (by simp) (by omega) k hk hb
theorem Spec.Et {Φ : Bs → Prop} {post : Value → List HP → Prop} (h : ∀ β' : Bs, β.le β' → Φ β' → Spec P β' f args pre post) : Spec P β f args (.abs (mw β Φ) :: pre) post := by
  intro R w hS
  obtain ⟨β', g1, g2, g3⟩ := Sat.Oi (l := pre ++ [.abs R]) hS
  refine (h β' g1 g2 R w g3).mono ?_
  rintro e w' ⟨v, l, h1, h2, h3⟩
  exact ⟨v, l, h1, h2, h3.Fc g1⟩
end Lp
end
section
open Go.RowKit
section
variable {O : bM} {k : Nat} {kd : Int}
theorem y5 (L : HL) (h : (obj O k).kind = kd) (h0 : kd ≠ 0 := by decide) : ∀ F w, (ak (aN O L)).h F w → w.cell? ⟨L.b k, 0, none⟩ = some (.int .i64 (obj O k).id) := bq (by rw [h]; exact h0) rfl
theorem Lr (L : HL) (h : (obj O k).kind = kd) (h0 : kd ≠ 0 := by decide) : ∀ F w, (ak (aN O L)).h F w → w.cell? ⟨L.b k, 1, none⟩ = some (.int .i64 (obj O k).mode) := bq (by rw [h]; exact h0) rfl
theorem kD (L : HL) (h : (obj O k).kind = kd) (h0 : kd ≠ 0 := by decide) : ∀ F w, (ak (aN O L)).h F w → w.cell? ⟨L.b k, 6, none⟩ = some (.int .i64 (obj O k).links) := bq (by rw [h]; exact h0) rfl
theorem iH (L : HL) (h : (obj O k).kind = kd) (h0 : kd ≠ 0 := by decide) : ∀ F w, (ak (aN O L)).h F w → w.cell? ⟨L.b k, 7, none⟩ = some (.int .i64 (obj O k).opens) := bq (by rw [h]; exact h0) rfl
theorem kM (L : HL) (h : (obj O k).kind = kd) (h0 : kd ≠ 0 := by decide) : ∀ F w, (ak (aN O L)).h F w → w.cell? ⟨L.b k, 8, none⟩ = some (.bool (obj O k).gone) := bq (by rw [h]; exact h0) rfl
theorem Ls (L : HL) (h : (obj O k).kind = 1) : ∀ F w, (ak (aN O L)).h F w → w.cell? ⟨L.b k, 9, none⟩ = some (.slice (L.dA k) (obj O k).data.length (L.dC k)) := bq (by rw [h]; decide) (by rw [eu h]; rfl)
theorem bC (L : HL) (h : (obj O k).kind = 2) : ∀ F w, (ak (aN O L)).h F w → w.cell? ⟨L.b k, 9, none⟩ = some (.map (some (L.m k))) := bq (by rw [h]; decide) (by rw [gF h]; rfl)
theorem Oj (L : HL) (h : (obj O k).kind = 2) : ∀ F w, (ak (aN O L)).h F w → w.cell? ⟨L.b k, 10, none⟩ = some (qh L (obj O k).up) := bq (by rw [h]; decide) (by rw [gF h]; rfl)
theorem MZ (L : HL) (h : (obj O k).kind = 3) : ∀ F w, (ak (aN O L)).h F w → w.cell? ⟨L.b k, 9, none⟩ = some (.string (obj O k).target) := bq (by rw [h]; decide) (by rw [tF h]; rfl)
end
end
section
open Go.RowKit Go.Maps
theorem ak.step {R R' : Nat → bR} {k : Nat} {F : Fp} {w w' : World} (hF : (ak R).h F w) (hR : ∀ x, x ≠ k → R' x = R x) (hs : ∀ G, (R k).h G w → ∃ G', (R' k).h G' w' ∧ Step G w G' w') : ∃ F', (ak R').h F' w' ∧ Step F w F' w' := by
  obtain ⟨φ, h1, h2, h3⟩ := hF
  obtain ⟨G', g1, st⟩ := hs _ (h1 k)
  have hap : ∀ i, i ≠ k → ∀ x, G' x → φ i x → False := fun i hne x hx hy => by
    rcases st.grow x hx with e | e
    ·exact h2 i k hne x hy e
    have := (R i).lt (h1 i) x hy; omega
  refine ⟨fun x => ∃ i, (if i = k then G' else φ i) x, ⟨fun i => if i = k then G' else φ i, fun i => ?_, fun i j hne x hx hy => ?_, fun x => Iff.rfl⟩, ⟨st.keeps.mono (fun x _ hx => (h3 x).2 ⟨k, hx⟩), fun x ⟨i, hx⟩ => ?_⟩⟩
  ·by_cases e : i = k
   ·subst e; simp only [if_true]; exact g1
   simp only [e, if_false]
   rw [hR i e]
   exact (R i).st (h1 i) st.keeps (fun x hx hk => h2 i k e x hx hk)
  ·by_cases e1 : i = k
   ·have e2 : j ≠ k := fun e => hne (e1.trans e.symm)
    simp only [e1, if_true] at hx
    simp only [e2, if_false] at hy
    exact hap j e2 x hx hy
   simp only [e1, if_false] at hx
   by_cases e2 : j = k
   ·simp only [e2, if_true] at hy
    exact hap i e1 x hy hx
   simp only [e2, if_false] at hy
   exact h2 i j hne x hx hy
  by_cases e : i = k
  ·simp only [e, if_true] at hx
   rcases st.grow x hx with h | h
   ·exact .inl ((h3 x).2 ⟨k, h⟩)
   exact .inr h
  simp only [e, if_false] at hx
  exact .inl ((h3 x).2 ⟨i, hx⟩)
def y6 (O : bM) (L : HL) : Nat → HP
  | 0 => .abs (ak (aN O L))
  | 1 => .abs (ak (bg O L))
  | _ => .abs (ak (aY O L))
def mX (O : bM) (L : HL) : List (Nat × Nat) → List (Nat × HP)
  | [] => []
  | q :: r => (q.1, y6 O L q.2) :: mX O L r
def qo (hps : List HP) (O : bM) (L : HL) : List (Nat × Nat) → Prop
  | [] => True
  | q :: r => hps[q.1]? = some (y6 O L q.2) ∧ qo hps O L r
theorem ru {hps : List HP} {O O2 : bM} {L : HL} {p : Nat} (he : ∀ q, q ≠ p → y6 O2 L q = y6 O L q) : ∀ {js : List (Nat × Nat)}, qo hps O L js → lH p (js.map (·.2)) = false → ko hps (mX O2 L js) = hps
  | [], _, _ => rfl
  | q :: r, h, hn => by
    have hq : q.2 ≠ p := fun e => by
      rw [show lH p ((q :: r).map (·.2)) = true from qR.2 (by simp [e])] at hn; cases hn
    have hr : lH p (r.map (·.2)) = false := by
      cases hb : lH p (r.map (·.2)) with
      | false => rfl
      | true => rw [show lH p ((q :: r).map (·.2)) = true from qR.2 (List.mem_cons_of_mem _ (qR.1 hb))] at hn; cases hn
    show ko (hps.set q.1 (y6 O2 L q.2)) (mX O2 L r) = hps
    have e : hps.set q.1 (y6 O2 L q.2) = hps := by
      rw [he _ hq]
      refine List.ext_getElem? (fun n => ?_)
      rw [List.getElem?_set]
      split
      ·rename_i e; subst e
       rw [h.1]; split
       ·rfl
       rename_i hlt; exact absurd (bA h.1) hlt
      rfl
    rw [e]
    exact ru he h.2 hr
def xO (P : Program) (N : Nat) (junk : Nat → Value) (ops : Array Oper) (fr : Fr) (k : Nat) : Option (Addr × Value) :=
  match dP N junk ops fr k with
  | some (.store T a y, _) => match (P.info? T).map (·.size) with
    | some 1 => match cC N fr junk a with
      | .pointer (some ad) => some (ad, cC N fr junk y)
      | _ => none
    | _ => none
  | _ => none
def xP (N : Nat) (junk : Nat → Value) (ops : Array Oper) (fr : Fr) (k : Nat) : Option (TypeId × Nat × Value) :=
  match dP N junk ops fr k with
  | some (.lookup t x ix false, _) => match cC N fr junk x with
    | .map (some b) => some (t, b, cC N fr junk ix)
    | _ => none
  | _ => none
def setAt (N : Nat) (junk : Nat → Value) (ops : Array Oper) (fr : Fr) (k : Nat) : Option (TypeId × Nat × Value × Value) :=
  match dP N junk ops fr k with
  | some (.mapUpdate t x ix y, _) => match cC N fr junk x with
    | .map (some b) => some (t, b, cC N fr junk ix, cC N fr junk y)
    | _ => none
  | _ => none
def Eu (N : Nat) (junk : Nat → Value) (ops : Array Oper) (fr : Fr) (k : Nat) : Option (TypeId × TypeId × Nat × Value) :=
  match dP N junk ops fr k with
  | some (.call ⟨.builtin .delete, xs, ts⟩, _) => match xs.toList with
    | [x, ix] => match ts.toList with
      | [t, K] => match cC N fr junk x with
        | .map (some b) => some (t, K, b, cC N fr junk ix)
        | _ => none
      | _ => none
    | _ => none
  | _ => none
def Ca (L : HL) : Option Th → Value
  | none => .nilIface
  | some t => cI L t
section rules
variable {β : Bs} {N : Nat} {ops : Array Oper} {k x : Nat} {fr : Fr} {hps : List HP} {Q : Post} {O : bM} {L : HL} {name : ByteArray} {r : Option Th} {t : Th}
theorem rz {junk : Nat → Value} {op : Op} {d : Option Tmp} (h : dP N junk ops fr k = some (op, d)) : d = gi ops k := by
  obtain ⟨o, h1, _, _, h4⟩ := cT h
  unfold gi
  rw [h1, ← h4]
theorem Cb {P : Program} {junk : Nat → Value} {ad : Addr} {u : Value} (h : xO P N junk ops fr k = some (ad, u)) : ∃ T a y, dP N junk ops fr k = some (.store T a y, gi ops k) ∧ (P.info? T).map (·.size) = some 1 ∧ cC N fr junk a = .pointer (some ad) ∧ cC N fr junk y = u := by
  unfold xO at h
  repeat' split at h
  all_goals first | (cases h; done) | skip
  rename_i T a y d h0 _ h1 _ Pb h2
  cases h
  have := rz h0
  subst this
  exact ⟨T, a, y, h0, h1, h2, rfl⟩
theorem lT {junk : Nat → Value} {T : TypeId} {b : Nat} {key : Value} (h : xP N junk ops fr k = some (T, b, key)) : ∃ a y, dP N junk ops fr k = some (.lookup T a y false, gi ops k) ∧ cC N fr junk a = .map (some b) ∧ cC N fr junk y = key := by
  unfold xP at h
  repeat' split at h
  all_goals first | (cases h; done) | skip
  rename_i T' a y d h0 _ b' h1
  cases h
  have := rz h0
  subst this
  exact ⟨a, y, h0, h1, rfl⟩
theorem Ik {junk : Nat → Value} {T : TypeId} {b : Nat} {key u : Value} (h : setAt N junk ops fr k = some (T, b, key, u)) : ∃ a y z, dP N junk ops fr k = some (.mapUpdate T a y z, gi ops k) ∧ cC N fr junk a = .map (some b) ∧ cC N fr junk y = key ∧ cC N fr junk z = u := by
  unfold setAt at h
  repeat' split at h
  all_goals first | (cases h; done) | skip
  rename_i T' a y z d h0 _ b' h1
  cases h
  have := rz h0
  subst this
  exact ⟨a, y, z, h0, h1, rfl, rfl⟩
theorem Ga {P : Program} {T : TypeId} {a y : Operand} {o : Oper} {ev : Operand → Value} {w : World} {ad : Addr} {u v0 : Value} (ho : o.op = .store T a y) (hT : (P.info? T).map (·.size) = some 1) (ha : ev a = .pointer (some ad)) (hy : ev y = u) (hu : u.oneCell' = true) (hc : w.cell? ad = some v0) (hf : w.frozen? ad = false) (hs : ad.spot = none) : lD P ev o w undef (w.setCell ad u) := by
  obtain ⟨inf, hi, hsz⟩ : ∃ inf, P.info? T = some inf ∧ inf.size = 1 := by
    cases h : P.info? T with
    | none => rw [h] at hT; cases hT
    | some inf => rw [h] at hT; exact ⟨inf, rfl, by simpa using hT⟩
  have h3 := lE hi w
  rw [hsz] at h3
  obtain ⟨dst, op, type, pos, after, guard⟩ := o
  obtain ⟨bk, off, spot⟩ := ad
  simp only at hs
  subst hs
  cases ho
  refine .inr ⟨rfl, ?_⟩
  cases u <;> first
    | (simp [Value.oneCell'] at hu; done)
    | (simp only [execOp, ha, hy]; simp [go_sem, Instr.storeAt, Instr.sureAddr, storeVar, h3, Value.cells, storeCells, store, Addr.add, Sem.run, hc, hf])
theorem Ns (i : Nat) (js : List (Nat × Nat)) (x j : Nat) (f : aP → aP) (u : Value) {kd : Int} (hk : (obj O x).kind = kd)
    (K : ∀ O2, O2 = ay O x f → aj Tryz.prog β N ops (k + 1) (cJ fr (gi ops k) undef) ((ko hps (mX O2 L js)).set i (.abs (ak (aN O2 L)))) Q)
    (hp : hps[i]? = some (.abs (ak (aN O L)))) (hj : qo hps O L js)
    (ho : ∀ junk, xO Tryz.prog N junk ops fr k = some (⟨L.b x, j, none⟩, u))
    (hn : lH 0 (js.map (·.2)) = false) (h0 : kd ≠ 0) (hc : eS L x (f (obj O x)) = (eS L x (obj O x)).set j u) (hu : u.oneCell' = true) (h9 : j < (eS L x (obj O x)).length)
    (he : (f (obj O x)).ah = (obj O x).ah) (hd : (f (obj O x)).data = (obj O x).data) (xQ : (f (obj O x)).kind = (obj O x).kind) : aj Tryz.prog β N ops k fr hps Q := by
  obtain ⟨T, a, y, h1, h2, h3, h4⟩ := Cb (ho (fun _ => undef))
  intro junk w hS
  obtain ⟨T, a, y, h1, h2, h3, h4⟩ := Cb (ho junk)
  obtain ⟨o, g1, g2, g3, g4⟩ := cT h1
  have hx0 : (obj O x).kind ≠ 0 := by rw [hk]; exact h0
  have Cc : ko hps (mX (ay O x f) L js) = hps := ru (p := 0) (fun q hq => by
    match q, hq with
    | 0, hq => exact absurd rfl hq
    | 1, _ => exact congrArg (fun R => HP.abs (ak R)) (kz he xQ)
    | q + 2, _ => exact congrArg (fun R => HP.abs (ak R)) (kx hd xQ)) hj hn
  have hcell : ∃ v0, (eS L x (obj O x))[j]? = some v0 := gT h9
  obtain ⟨v0, hv0⟩ := hcell
  obtain ⟨F, hF⟩ := hS.get hp
  obtain ⟨G, hG⟩ := ak.at x hF
  have Nt := hG
  rw [jr hx0] at Nt
  obtain ⟨hb, _⟩ := Nt
  obtain ⟨c1, c2⟩ := eX (a := ⟨L.b x, j, none⟩) hb rfl rfl hv0
  have q4 : Sat β (hps.set i (.abs (ak (aN (ay O x f) L)))) (w.setCell ⟨L.b x, j, none⟩ (u)) := hS.set hp (fun F hF => ak.step (k := x) (show (ak (aN O L)).h F w from hF) (fun y hy => qX hy) (fun G hG => by
    rw [jr hx0] at hG
    rw [qW, if_neg (by rw [xQ]; exact hx0), hc, xQ]
    exact oZ hG rfl rfl))
  rw [drop_cons g1]
  unfold wpList
  rw [dK, if_pos g2]
  refine .inl (iJ (v := undef) (w' := w.setCell ⟨L.b x, j, none⟩ (u)) (by rw [di]; exact Ga g3 h2 h3 h4 hu c1 c2 rfl) ?_)
  rw [dg]
  have hK := K _ rfl junk _ (by rw [Cc]; exact q4)
  rw [← g4] at hK
  exact hK
theorem pH (i : Nat) (js : List (Nat × Nat)) (x j : Nat) (f : aP → aP) {kd : Int} (hk : (obj O x).kind = kd)
    (K : ∀ O2, O2 = ay O x f → aj Tryz.prog β N ops (k + 1) (cJ fr (gi ops k) undef) ((ko hps (mX O2 L js)).set i (.abs (ak (aN O2 L)))) Q)
    (hp : hps[i]? = some (.abs (ak (aN O L))) := by rfl) (hj : qo hps O L js := by first | exact ⟨rfl, trivial⟩ | exact ⟨rfl, rfl, trivial⟩ | exact trivial)
    (ho : ∀ junk, xO Tryz.prog N junk ops fr k = some (⟨L.b x, j, none⟩, (uK (f (obj O x))).getD j undef) := by intro _; kernel_rfl)
    (hn : lH 0 (js.map (·.2)) = false := by rfl) (h0 : kd ≠ 0 := by decide) (hc : eS L x (f (obj O x)) = (eS L x (obj O x)).set j ((uK (f (obj O x))).getD j undef) := by rfl) (hu : ((uK (f (obj O x))).getD j undef).oneCell' = true := by rfl) (h9 : Nat.blt j 9 = true := by rfl)
    (he : (f (obj O x)).ah = (obj O x).ah := by rfl) (hd : (f (obj O x)).data = (obj O x).data := by rfl) (xQ : (f (obj O x)).kind = (obj O x).kind := by rfl) : aj Tryz.prog β N ops k fr hps Q :=
  Ns i js x j f _ hk K hp hj ho hn h0 hc hu (Nat.lt_of_lt_of_le (show j < 9 by simpa [Nat.blt_eq] using h9) (by unfold eS uK; simp)) he hd xQ
theorem Nu (i : Nat) (js : List (Nat × Nat)) (x : Nat) (y : Option Nat) (hk : (obj O x).kind = 2)
    (K : ∀ O2, O2 = ay O x (fun o => { o with up := y }) → aj Tryz.prog β N ops (k + 1) (cJ fr (gi ops k) undef) ((ko hps (mX O2 L js)).set i (.abs (ak (aN O2 L)))) Q)
    (hp : hps[i]? = some (.abs (ak (aN O L))) := by rfl) (hj : qo hps O L js := by first | exact ⟨rfl, trivial⟩ | exact ⟨rfl, rfl, trivial⟩ | exact trivial)
    (ho : ∀ junk, xO Tryz.prog N junk ops fr k = some (⟨L.b x, 10, none⟩, qh L y) := by intro _; kernel_rfl) (hn : lH 0 (js.map (·.2)) = false := by rfl) : aj Tryz.prog β N ops k fr hps Q :=
  Ns i js x 10 (fun o => { o with up := y }) (qh L y) hk K hp hj ho hn (by decide) (by rw [gF (show ({ obj O x with up := y } : aP).kind = 2 from hk), gF hk]; rfl) (by cases y <;> rfl) (by rw [gF hk]; exact Nat.lt_succ_self 10) rfl rfl rfl
theorem Sat.Jr {w : World} {i j : Nat} {f : aP → aP} {u : Value} (hS : Sat β hps w) (hp : hps[i]? = some (.abs (ak (aN O L)))) (hx0 : (obj O x).kind ≠ 0) (hc : eS L x (f (obj O x)) = (eS L x (obj O x)).set j u) (xQ : (f (obj O x)).kind = (obj O x).kind) (h9 : j < (eS L x (obj O x)).length) :
    Sat β (hps.set i (.abs (ak (aN (ay O x f) L)))) (w.setCell ⟨L.b x, j, none⟩ u) ∧ (∃ v0, w.cell? ⟨L.b x, j, none⟩ = some v0) ∧ w.frozen? ⟨L.b x, j, none⟩ = false := by
  obtain ⟨v0, hv0⟩ := gT h9
  obtain ⟨F, hF⟩ := hS.get hp
  obtain ⟨G, hG⟩ := ak.at x (show (ak (aN O L)).h F w from hF)
  rw [jr hx0] at hG
  obtain ⟨c1, c2⟩ := eX (a := ⟨L.b x, j, none⟩) hG.1 rfl rfl hv0
  refine ⟨hS.set hp (fun F hF => ak.step (k := x) (show (ak (aN O L)).h F w from hF) (fun y hy => qX hy) (fun G hG => ?_)), ⟨v0, c1⟩, c2⟩
  rw [jr hx0] at hG
  rw [qW, if_neg (by rw [xQ]; exact hx0), hc, xQ]
  exact oZ hG rfl rfl
def Cd (P : Program) (N : Nat) (junk : Nat → Value) (ops : Array Oper) (fr : Fr) (k : Nat) : Option (Addr × Value) :=
  match dP N junk ops fr k with
  | some (.store T a y, _) => match (P.info? T).map (·.size) with
    | some 2 => match cC N fr junk a with
      | .pointer (some ad) => some (ad, cC N fr junk y)
      | _ => none
    | _ => none
  | _ => none
theorem Gb {P : Program} {junk : Nat → Value} {ad : Addr} {u : Value} (h : Cd P N junk ops fr k = some (ad, u)) : ∃ T a y, dP N junk ops fr k = some (.store T a y, gi ops k) ∧ (P.info? T).map (·.size) = some 2 ∧ cC N fr junk a = .pointer (some ad) ∧ cC N fr junk y = u := by
  unfold Cd at h
  repeat' split at h
  all_goals first | (cases h; done) | skip
  rename_i T a y d h0 _ h1 _ Pb h2
  cases h
  have := rz h0
  subst this
  exact ⟨T, a, y, h0, h1, h2, rfl⟩
theorem Ev {P : Program} {T : TypeId} {a y : Operand} {o : Oper} {ev : Operand → Value} {w : World} {b j : Nat} {z1 z2 : Int} {v0 v1 : Value} (ho : o.op = .store T a y) (hT : (P.info? T).map (·.size) = some 2) (ha : ev a = .pointer (some ⟨b, j, none⟩)) (hy : ev y = .agg #[.int .i64 z1, .int .i64 z2])
    (hc : w.cell? ⟨b, j, none⟩ = some v0) (hf : w.frozen? ⟨b, j, none⟩ = false) (hc1 : (w.setCell ⟨b, j, none⟩ (.int .i64 z1)).cell? ⟨b, j + 1, none⟩ = some v1) (hf1 : (w.setCell ⟨b, j, none⟩ (.int .i64 z1)).frozen? ⟨b, j + 1, none⟩ = false) :
    lD P ev o w undef ((w.setCell ⟨b, j, none⟩ (.int .i64 z1)).setCell ⟨b, j + 1, none⟩ (.int .i64 z2)) := by
  obtain ⟨inf, hi, hsz⟩ : ∃ inf, P.info? T = some inf ∧ inf.size = 2 := by
    cases h : P.info? T with
    | none => rw [h] at hT; cases hT
    | some inf => rw [h] at hT; exact ⟨inf, rfl, by simpa using hT⟩
  have h3 := lE hi w
  rw [hsz] at h3
  obtain ⟨dst, op, type, pos, after, guard⟩ := o
  cases ho
  refine .inr ⟨rfl, ?_⟩
  simp only [execOp, ha, hy]
  simp [go_sem, Instr.storeAt, Instr.sureAddr, storeVar, h3, Value.cells, storeCells, store, Addr.add, Sem.run, hc, hf, hc1, hf1]
theorem Gc (i : Nat) (js : List (Nat × Nat)) (x : Nat) (z1 z2 : Int) {kd : Int} (hk : (obj O x).kind = kd)
    (K : ∀ O2, O2 = ay O x (fun o => { o with sec := z1, nano := z2 }) → aj Tryz.prog β N ops (k + 1) (cJ fr (gi ops k) undef) ((ko hps (mX O2 L js)).set i (.abs (ak (aN O2 L)))) Q)
    (hp : hps[i]? = some (.abs (ak (aN O L))) := by rfl) (hj : qo hps O L js := by first | exact ⟨rfl, trivial⟩ | exact ⟨rfl, rfl, trivial⟩ | exact trivial)
    (ho : ∀ junk, Cd Tryz.prog N junk ops fr k = some (⟨L.b x, 4, none⟩, .agg #[.int .i64 z1, .int .i64 z2]) := by intro _; kernel_rfl)
    (hn : lH 0 (js.map (·.2)) = false := by rfl) (h0 : kd ≠ 0 := by decide) : aj Tryz.prog β N ops k fr hps Q := by
  intro junk w hS
  obtain ⟨T, a, y, h1, h2, h3, h4⟩ := Gb (ho junk)
  obtain ⟨o, g1, g2, g3, g4⟩ := cT h1
  have hx0 : (obj O x).kind ≠ 0 := by rw [hk]; exact h0
  have Cc : ko hps (mX (ay O x (fun o => { o with sec := z1, nano := z2 })) L js) = hps := ru (p := 0) (fun q hq => by
    match q, hq with
    | 0, hq => exact absurd rfl hq
    | 1, _ => exact congrArg (fun R => HP.abs (ak R)) (kz rfl rfl)
    | q + 2, _ => exact congrArg (fun R => HP.abs (ak R)) (kx rfl rfl)) hj hn
  have hlen : ∀ o : aP, 9 ≤ (eS L x o).length := fun o => by unfold eS uK; simp
  obtain ⟨s1, ⟨v0, c1⟩, f1⟩ := hS.Jr (x := x) (j := 4) (f := fun o => { o with sec := z1 }) (u := .int .i64 z1) hp hx0 rfl rfl (by have := hlen (obj O x); omega)
  have hi : i < hps.length := bA hp
  have e1 : obj (ay O x (fun o => { o with sec := z1 })) x = { obj O x with sec := z1 } := bH
  obtain ⟨s2, ⟨v1, c2⟩, f2⟩ := s1.Jr (x := x) (j := 5) (f := fun o => { o with nano := z2 }) (u := .int .i64 z2) (i := i) (O := ay O x (fun o => { o with sec := z1 })) (by rw [List.getElem?_set, if_pos rfl, if_pos hi]) (by rw [e1]; exact hx0) rfl rfl (by have := hlen (obj (ay O x (fun o => { o with sec := z1 })) x); omega)
  rw [List.set_set, qg] at s2
  rw [drop_cons g1]
  unfold wpList
  rw [dK, if_pos g2]
  refine .inl (iJ (v := undef) (w' := _) (by rw [di]; exact Ev g3 h2 h3 h4 c1 f1 c2 f2) ?_)
  rw [dg]
  have hK := K _ rfl junk _ (by rw [Cc]; exact s2)
  rw [← g4] at hK
  exact hK
theorem uU {w : World} {i : Nat} (hS : Sat β hps w) (hp : hps[i]? = some (.abs (ak (bg O L)))) (hd : (obj O x).kind = 2) : dR Tryz.prog 9 w (L.m x) (fR L (obj O x).ah) (obj O x).ah.length := by
  obtain ⟨F, hF⟩ := hS.get hp
  obtain ⟨G, hG⟩ := ak.at x (show (ak (bg O L)).h F w from hF)
  rw [lM hd] at hG
  exact hG.1
theorem DF {w : World} {i : Nat} {o : Oper} {ev : Operand → Value} {a y : Operand} (hS : Sat β hps w) (hp : hps[i]? = some (.abs (ak (bg O L)))) (hd : (obj O x).kind = 2) (hl : aS name (obj O x).ah = r) (h3 : o.op = .lookup 97 a y false) (ha : ev a = .map (some (L.m x))) (hy : ev y = .string name) (hsz : name.size ≤ 1048576) : lD Tryz.prog ev o w (Ca L r) w := by
  have h := rI (z := .nilIface) h3 (uU hS hp hd) ha hy vW Tryz.underlying97 (by kernel_rfl) (yM (by omega))
  rw [oU, hl] at h
  cases r <;> exact h
theorem fK (i : Nat) (hd : (obj O x).kind = 2) (hl : aS name (obj O x).ah = r) (K : aj Tryz.prog β N ops (k + 1) (cJ fr (gi ops k) (Ca L r)) hps Q) (hp : hps[i]? = some (.abs (ak (bg O L))) := by rfl)
    (ho : ∀ junk, xP N junk ops fr k = some (97, L.m x, .string name) := by intro _; kernel_rfl) (hsz : name.size ≤ 1048576 := by omega) : aj Tryz.prog β N ops k fr hps Q := by
  intro junk w hS
  obtain ⟨a, y, h1, h2, h3⟩ := lT (ho junk)
  exact aj.gJ (aR := hps) (v := Ca L r) (d := gi ops k) (op := .lookup 97 a y false) (fun j => by
    obtain ⟨a', y', h1', _, _⟩ := lT (ho j)
    obtain ⟨o, g1, g2, g3, g4⟩ := cT h1
    obtain ⟨o', nO, Gd, pJ, Ge⟩ := cT h1'
    rw [g1] at nO
    cases nO
    rw [g3] at pJ
    cases pJ
    exact h1') (fun o junk w ho' hS => by
    obtain ⟨a', y', h1', h2', h3'⟩ := lT (ho junk)
    obtain ⟨o1, g1, g2, g3, g4⟩ := cT h1
    obtain ⟨o', nO, Gd, pJ, Ge⟩ := cT h1'
    rw [g1] at nO
    cases nO
    rw [g3] at pJ
    cases pJ
    exact ⟨w, DF hS hp hd hl ho' h2' h3' hsz, hS⟩) K junk w hS
theorem oo (i : Nat) (hd : (obj O x).kind = 2) (hl : aS name (obj O x).ah = r) (K : aT Tryz.prog β N ops (k + 1) (cJ fr (gi ops k) (Ca L r)) hps Q) (hp : hps[i]? = some (.abs (ak (bg O L))) := by rfl)
    (ho : ∀ junk, xP N junk ops fr k = some (97, L.m x, .string name) := by intro _; kernel_rfl) (hsz : name.size ≤ 1048576 := by omega) : aT Tryz.prog β N ops k fr hps Q := by
  intro junk
  obtain ⟨a, y, h1, h2, h3⟩ := lT (ho junk)
  exact aT.gJ (v := Ca L r) (d := gi ops k) (op := .lookup 97 a y false) (fun j => by
    obtain ⟨a', y', h1', _, _⟩ := lT (ho j)
    obtain ⟨o, g1, g2, g3, g4⟩ := cT h1
    obtain ⟨o', nO, Gd, pJ, Ge⟩ := cT h1'
    rw [g1] at nO
    cases nO
    rw [g3] at pJ
    cases pJ
    exact h1') (fun o junk w ho' hS => by
    obtain ⟨a', y', h1', h2', h3'⟩ := lT (ho junk)
    obtain ⟨o1, g1, g2, g3, g4⟩ := cT h1
    obtain ⟨o', nO, Gd, pJ, Ge⟩ := cT h1'
    rw [g1] at nO
    cases nO
    rw [g3] at pJ
    cases pJ
    exact DF hS hp hd hl ho' h2' h3' hsz) K junk
def Ew (N : Nat) (junk : Nat → Value) (ops : Array Oper) (fr : Fr) (k : Nat) : Option (TypeId × Nat) :=
  match dP N junk ops fr k with
  | some (.call ⟨.builtin .len, xs, ts⟩, _) => match xs.toList with
    | [x] => match ts.toList with
      | [t] => match cC N fr junk x with
        | .map (some b) => some (t, b)
        | _ => none
      | _ => none
    | _ => none
  | _ => none
theorem wo {junk : Nat → Value} {T : TypeId} {b : Nat} (h : Ew N junk ops fr k = some (T, b)) : ∃ a, dP N junk ops fr k = some (.call ⟨.builtin .len, #[a], #[T]⟩, gi ops k) ∧ cC N fr junk a = .map (some b) := by
  unfold Ew at h
  repeat' split at h
  all_goals first | (cases h; done) | skip
  rename_i xs ts d h0 _ a h1 _ t' h2 _ b' h3
  cases h
  have := rz h0
  subst this
  refine ⟨a, ?_, h3⟩
  rw [h0]
  obtain ⟨xs⟩ := xs
  obtain ⟨ts⟩ := ts
  cases h1
  cases h2
  rfl
theorem Pc (i : Nat) (hd : (obj O x).kind = 2) (K : aj Tryz.prog β N ops (k + 1) (cJ fr (gi ops k) (.int .i64 (((obj O x).ah.length : Nat) : Int))) hps Q) (hp : hps[i]? = some (.abs (ak (bg O L))) := by rfl)
    (ho : ∀ junk, Ew N junk ops fr k = some (97, L.m x) := by intro _; kernel_rfl) : aj Tryz.prog β N ops k fr hps Q := by
  obtain ⟨a, h1, h2⟩ := wo (ho (fun _ => undef))
  obtain ⟨o, g1, g2, g3, g4⟩ := cT h1
  refine aj.gJ (aR := hps) (v := .int .i64 (((obj O x).ah.length : Nat) : Int)) (d := gi ops k) (op := o.op) (fun j => ?_) (fun o' junk w ho' hS => ?_) K
  ·obtain ⟨a', h1', _⟩ := wo (ho j)
   obtain ⟨o', nO, Gd, pJ, Ge⟩ := cT h1'
   rw [g1] at nO
   cases nO
   rw [pJ]
   exact h1'
  obtain ⟨a', h1', h2'⟩ := wo (ho junk)
  obtain ⟨o1, nO, Gd, pJ, Ge⟩ := cT h1'
  rw [g1] at nO
  cases nO
  exact ⟨w, uF (ho'.trans pJ) rfl (uU hS hp hd) h2' Tryz.underlying97, hS⟩
theorem Lu (i : Nat) (js : List (Nat × Nat)) {t : Th} (hd : (obj O x).kind = 2) (hno : aS name (obj O x).ah = none)
    (K : ∀ O2, O2 = ay O x (fun o => { o with ah := eF name t o.ah }) → aj Tryz.prog β N ops (k + 1) (cJ fr (gi ops k) undef) ((ko hps (mX O2 L js)).set i (.abs (ak (bg O2 L)))) Q)
    (hp : hps[i]? = some (.abs (ak (bg O L))) := by rfl) (hj : qo hps O L js := by first | exact ⟨rfl, trivial⟩ | exact ⟨rfl, rfl, trivial⟩ | exact trivial)
    (ho : ∀ junk, setAt N junk ops fr k = some (97, L.m x, .string name, cI L t) := by intro _; kernel_rfl) (hn : lH 1 (js.map (·.2)) = false := by rfl) (hsz : name.size ≤ 1048576 := by omega) (hel : (obj O x).ah.length ≤ 1048576 := by omega) : aj Tryz.prog β N ops k fr hps Q := by
  intro junk w hS
  obtain ⟨a, y, z, h1, h2, h3, h4⟩ := Ik (ho junk)
  obtain ⟨o, g1, g2, g3, g4⟩ := cT h1
  have Cc : ko hps (mX (ay O x (fun o => { o with ah := eF name t o.ah })) L js) = hps := ru (p := 1) (fun q hq => by
    match q, hq with
    | 0, _ => exact congrArg (fun R => HP.abs (ak R)) (BF (es := fun o => eF name t o.ah))
    | 1, hq => exact absurd rfl hq
    | q + 2, _ => exact congrArg (fun R => HP.abs (ak R)) (kx rfl rfl)) hj hn
  obtain ⟨w', m1, m2, m3⟩ := (uU hS hp hd).store vW Tryz.underlying97 (by unfold maxLen; omega) (yM (p := name) (by omega)) (cI L t)
  have e1 : (fR L (obj O x).ah) (.string name.data.toList) = none := by rw [oU, hno]; rfl
  rw [e1, Hl hno] at m2
  have q4 : Sat β (hps.set i (.abs (ak (bg (ay O x (fun o => { o with ah := eF name t o.ah })) L)))) w' := hS.set hp (fun F hF => ak.step (k := x) (show (ak (bg O L)).h F w from hF) (fun y hy => tD hy) (fun G hG => by
    rw [lM hd] at hG
    rw [lM (by rw [bH]; exact hd), bH, BB]
    exact step_map hG m2 m3))
  rw [drop_cons g1]
  unfold wpList
  rw [dK, if_pos g2]
  refine .inl (iJ (v := undef) (w' := w') (by
    rw [di]
    refine .inr ⟨rfl, ?_⟩
    obtain ⟨dst, op, type, pos, after, guard⟩ := o
    cases g3
    simp only [execOp, h2, h3, h4]
    simp [go_sem, m1]) ?_)
  rw [dg]
  have hK := K _ rfl junk _ (by rw [Cc]; exact q4)
  rw [← g4] at hK
  exact hK
theorem Il {junk : Nat → Value} {T K0 : TypeId} {b : Nat} {key : Value} (h : Eu N junk ops fr k = some (T, K0, b, key)) : ∃ a y, dP N junk ops fr k = some (.call ⟨.builtin .delete, #[a, y], #[T, K0]⟩, gi ops k) ∧ cC N fr junk a = .map (some b) ∧ cC N fr junk y = key := by
  unfold Eu at h
  repeat' split at h
  all_goals first | (cases h; done) | skip
  rename_i xs ts d h0 _ a y h1 _ t' K' h2 _ b' h3
  cases h
  have := rz h0
  subst this
  refine ⟨a, y, ?_, h3, rfl⟩
  rw [h0]
  obtain ⟨xs⟩ := xs
  obtain ⟨ts⟩ := ts
  cases h1
  cases h2
  rfl
theorem Lv (i : Nat) (js : List (Nat × Nat)) {t : Th} (hd : (obj O x).kind = 2) (r8 : aS name (obj O x).ah = some t) (hnt : lK (obj O x).ah)
    (K : ∀ O2, O2 = ay O x (fun o => { o with ah := eP name o.ah }) → aj Tryz.prog β N ops (k + 1) (cJ fr (gi ops k) (.tuple #[])) ((ko hps (mX O2 L js)).set i (.abs (ak (bg O2 L)))) Q)
    (hp : hps[i]? = some (.abs (ak (bg O L))) := by rfl) (hj : qo hps O L js := by first | exact ⟨rfl, trivial⟩ | exact ⟨rfl, rfl, trivial⟩ | exact trivial)
    (ho : ∀ junk, Eu N junk ops fr k = some (97, 9, L.m x, .string name) := by intro _; kernel_rfl) (hn : lH 1 (js.map (·.2)) = false := by rfl) (hsz : name.size ≤ 1048576 := by omega) : aj Tryz.prog β N ops k fr hps Q := by
  intro junk w hS
  obtain ⟨a, y, h1, h2, h3⟩ := Il (ho junk)
  obtain ⟨o, g1, g2, g3, g4⟩ := cT h1
  have Cc : ko hps (mX (ay O x (fun o => { o with ah := eP name o.ah })) L js) = hps := ru (p := 1) (fun q hq => by
    match q, hq with
    | 0, _ => exact congrArg (fun R => HP.abs (ak R)) (BF (es := fun o => eP name o.ah))
    | 1, hq => exact absurd rfl hq
    | q + 2, _ => exact congrArg (fun R => HP.abs (ak R)) (kx rfl rfl)) hj hn
  obtain ⟨w', m1, m2, m3⟩ := (uU hS hp hd).drop vW Tryz.underlying97 (yM (p := name) (by omega)) o.type
  have e1 : (fR L (obj O x).ah) (.string name.data.toList) = some (cI L t) := by rw [oU, r8]; rfl
  rw [e1, Ho] at m2
  have hlen := Hg hnt r8
  have q4 : Sat β (hps.set i (.abs (ak (bg (ay O x (fun o => { o with ah := eP name o.ah })) L)))) w' := hS.set hp (fun F hF => ak.step (k := x) (show (ak (bg O L)).h F w from hF) (fun y hy => tD hy) (fun G hG => by
    rw [lM hd] at hG
    rw [lM (by rw [bH]; exact hd), bH]
    rw [show (eP name (obj O x).ah).length = (obj O x).ah.length - 1 by omega]
    exact step_map hG m2 m3))
  rw [drop_cons g1]
  unfold wpList
  rw [dK, if_pos g2]
  refine .inl (iJ (v := .tuple #[]) (w' := w') (by
    rw [di]
    refine .inl ?_
    obtain ⟨dst, op, type, pos, after, guard⟩ := o
    cases g3
    simp only [execOp, resolve, invoke, builtin]
    simp [go_sem, h2, h3, m1]) ?_)
  rw [dg]
  have hK := K _ rfl junk _ (by rw [Cc]; exact q4)
  rw [← g4] at hK
  exact hK
end rules
section after
variable {O O2 : bM} {j x : Nat} {f : aP → aP} {kd : Int}
theorem ku (e : O2 = ay O j f) (h : (obj O x).kind = kd) (hf : ∀ o, (f o).kind = o.kind := by intro _; rfl) : (obj O2 x).kind = kd := by subst e; exact (ij hf).trans h
theorem fu {α : Type} (g : aP → α) {v : α} (e : O2 = ay O j f) (h : g (obj O x) = v) (hf : ∀ o, g (f o) = g o := by intro _; rfl) : g (obj O2 x) = v := by subst e; exact (cL hf).trans h
end after
end
section
open Go.RowKit Go.Maps
attribute [local irreducible] aj aT af ai
theorem cr {β : Bs} (b : Nat) : Spec Tryz.prog β 224 #[vP b] [] (fun v l => v = vP b ∧ l = []) := by
 refine Spec.enter Tryz.func224 rfl Tryz.ntmps224 (Nat.le_of_ble_eq_true rfl) (fun R => ?_)
 refine SR ?_
 refine gK 1 [] [] ?_
 refine NS ?_
 refine gK 2 [(2, vP b)] [] ?_
 refine NN (af.ret ?_)
 exact RT (vP b) [0] (⟨rfl, rfl⟩)
theorem jw {β : Bs} (a : Value) : Spec Tryz.prog β 223 #[a] [] (fun v l => v = vI 1 ∧ l = []) := by
 refine Spec.enter Tryz.func223 rfl Tryz.ntmps223 (Nat.le_of_ble_eq_true rfl) (fun R => ?_)
 refine SR ?_
 refine gK 1 [] [] ?_
 refine NS ?_
 refine gK 1 [(2, vI 1)] [] ?_
 refine NN (af.ret ?_)
 exact RT (vI 1) [0] (⟨rfl, rfl⟩)
theorem jA {β : Bs} (a : Value) : Spec Tryz.prog β 226 #[a] [] (fun v l => v = vI 2 ∧ l = []) := by
 refine Spec.enter Tryz.func226 rfl Tryz.ntmps226 (Nat.le_of_ble_eq_true rfl) (fun R => ?_)
 refine SR ?_
 refine gK 1 [] [] ?_
 refine NS ?_
 refine gK 1 [(2, vI 2)] [] ?_
 refine NN (af.ret ?_)
 exact RT (vI 2) [0] (⟨rfl, rfl⟩)
theorem j5 {β : Bs} (a : Value) : Spec Tryz.prog β 225 #[a] [] (fun v l => v = vI 3 ∧ l = []) := by
 refine Spec.enter Tryz.func225 rfl Tryz.ntmps225 (Nat.le_of_ble_eq_true rfl) (fun R => ?_)
 refine SR ?_
 refine gK 1 [] [] ?_
 refine NS ?_
 refine gK 1 [(2, vI 3)] [] ?_
 refine NN (af.ret ?_)
 exact RT (vI 3) [0] (⟨rfl, rfl⟩)
theorem DG {β : Bs} (O : bM) (L : HL) (d : Nat) (hkd : (obj O d).kind = 2) (name : ByteArray) (hsz : name.size ≤ 1048576) (hno : aS name (obj O d).ah = none) (hel : (obj O d).ah.length ≤ 1048576) (t : Th) (hkt : (obj O t.k).kind = t.kind) (h3 : t.kind = 1 ∨ t.kind = 2 ∨ t.kind = 3) (hb : 0 ≤ (obj O t.k).links ∧ (obj O t.k).links ≤ 1048576) :
    Spec Tryz.prog β 36 #[vP (L.b d), .string name, (cI L t)] [.abs (ak (aN O L)), .abs (ak (bg O L))] (fun v l => v = .tuple #[] ∧ l = [.abs (ak (aN (mr O d name t) L)), .abs (ak (bg (mr O d name t) L))]) := by
 refine Spec.enter Tryz.func36 rfl Tryz.ntmps36 (Nat.le_of_ble_eq_true rfl) (fun R => ?_)
 refine af.seq ?_
 obtain ⟨tk, kd⟩ := t; simp only at hkt h3; rcases h3 with rfl | rfl | rfl
 ·replace hkt : (obj O tk).kind = 1 := hkt
  replace hb : 0 ≤ (obj O tk).links ∧ (obj O tk).links ≤ 1048576 := hb
  refine af.region ?_
  refine gK 6 [(11, .map (some (L.m d))), (12, .string name), (13, .iface 89 (vP (L.b tk)))] [(3, v_ 0 (bC L hkd))] ?_
  refine Lu 1 [(0, 0)] (t := ⟨tk, 1⟩) hkd hno (fun bK bP => ?_)
  have iF := ku bP hkd
  have j6 := ku bP hkt
  have hf3 : (obj bK tk).links = (obj O tk).links := fu aP.links bP rfl
  refine NS ?_
  refine gK 1 [(14, .iface 89 (vP (L.b tk)))] [] ?_
  refine gL [] (cr (L.b tk)) ?_
  rintro _ _ ⟨rfl, rfl⟩
  refine gK 6 [(19, vI ((obj bK tk).links + 1)), (21, .pointer (some ⟨(L.b tk), 6, none⟩))] [(2, v_ 0 (kD L j6)), (3, p_ ⟨[], none, none, none, some (vI ((obj bK tk).links + 1))⟩ [(Value.int .i64 (IntKind.wrap .i64 ((obj bK tk).links + 1))) = (.int .i64 ((obj bK tk).links + 1))] ⟨bI (by omega) (by omega) (by omega), trivial⟩)] ?_
  refine pH 0 [(1, 1)] tk 6 (fun o => { o with links := o.links + 1 }) j6 (fun cV cu => ?_)
  have tY := ku cu iF
  have tZ := ku cu j6
  refine NS ?_
  refine gK 7 [(6, .pointer none), (7, .bool false)] [] ?_
  refine NS ?_
  refine gK 1 [(27, .bool false)] [] ?_
  refine NN ?_
  refine CF ?_
  refine af.skip ?_
  exact RF (l := [.abs (ak (aN cV L)), .abs (ak (bg cV L))]) (.tuple #[]) [0, 1, 2] (⟨rfl, by subst cu; subst bP; rfl⟩)
 ·replace hkt : (obj O tk).kind = 2 := hkt
  replace hb : 0 ≤ (obj O tk).links ∧ (obj O tk).links ≤ 1048576 := hb
  refine af.region ?_
  refine gK 6 [(11, .map (some (L.m d))), (12, .string name), (13, .iface 96 (vP (L.b tk)))] [(3, v_ 0 (bC L hkd))] ?_
  refine Lu 1 [(0, 0)] (t := ⟨tk, 2⟩) hkd hno (fun bK bP => ?_)
  have Im := ku bP hkd
  have Ey := ku bP hkt
  have Qw : (obj bK tk).links = (obj O tk).links := fu aP.links bP rfl
  refine NS ?_
  refine gK 1 [(14, .iface 96 (vP (L.b tk)))] [] ?_
  refine gL [] (cr (L.b tk)) ?_
  rintro _ _ ⟨rfl, rfl⟩
  refine gK 6 [(19, vI ((obj bK tk).links + 1)), (21, .pointer (some ⟨(L.b tk), 6, none⟩))] [(2, v_ 0 (kD L Ey)), (3, p_ ⟨[], none, none, none, some (vI ((obj bK tk).links + 1))⟩ [(Value.int .i64 (IntKind.wrap .i64 ((obj bK tk).links + 1))) = (.int .i64 ((obj bK tk).links + 1))] ⟨bI (by omega) (by omega) (by omega), trivial⟩)] ?_
  refine pH 0 [(1, 1)] tk 6 (fun o => { o with links := o.links + 1 }) Ey (fun cV cu => ?_)
  have y7 := ku cu Im
  have Ez := ku cu Ey
  refine NS ?_
  refine gK 7 [(6, vP (L.b tk)), (7, .bool true)] [] ?_
  refine NS ?_
  refine gK 1 [(27, .bool true)] [] ?_
  refine NN ?_
  refine CT ?_
  refine af.region ?_
  refine gK 4 [(29, vP (L.b d)), (31, .pointer (some ⟨(L.b tk), 10, none⟩))] [] ?_
  refine Nu 0 [(1, 1)] tk (some d) Ez (fun rA jL => ?_)
  have Js := ku jL y7
  have PV := ku jL Ez
  refine NL ?_
  exact RF (l := [.abs (ak (aN rA L)), .abs (ak (bg rA L))]) (.tuple #[]) [0, 1, 2] (⟨rfl, by subst jL; subst cu; subst bP; rfl⟩)
 replace hkt : (obj O tk).kind = 3 := hkt
 replace hb : 0 ≤ (obj O tk).links ∧ (obj O tk).links ≤ 1048576 := hb
 refine af.region ?_
 refine gK 6 [(11, .map (some (L.m d))), (12, .string name), (13, .iface 93 (vP (L.b tk)))] [(3, v_ 0 (bC L hkd))] ?_
 refine Lu 1 [(0, 0)] (t := ⟨tk, 3⟩) hkd hno (fun bK bP => ?_)
 have M0 := ku bP hkd
 have EA := ku bP hkt
 have Qe : (obj bK tk).links = (obj O tk).links := fu aP.links bP rfl
 refine NS ?_
 refine gK 1 [(14, .iface 93 (vP (L.b tk)))] [] ?_
 refine gL [] (cr (L.b tk)) ?_
 rintro _ _ ⟨rfl, rfl⟩
 refine gK 6 [(19, vI ((obj bK tk).links + 1)), (21, .pointer (some ⟨(L.b tk), 6, none⟩))] [(2, v_ 0 (kD L EA)), (3, p_ ⟨[], none, none, none, some (vI ((obj bK tk).links + 1))⟩ [(Value.int .i64 (IntKind.wrap .i64 ((obj bK tk).links + 1))) = (.int .i64 ((obj bK tk).links + 1))] ⟨bI (by omega) (by omega) (by omega), trivial⟩)] ?_
 refine pH 0 [(1, 1)] tk 6 (fun o => { o with links := o.links + 1 }) EA (fun cV cu => ?_)
 have xR := ku cu M0
 have M4 := ku cu EA
 refine NS ?_
 refine gK 7 [(6, .pointer none), (7, .bool false)] [] ?_
 refine NS ?_
 refine gK 1 [(27, .bool false)] [] ?_
 refine NN ?_
 refine CF ?_
 refine af.skip ?_
 exact RF (l := [.abs (ak (aN cV L)), .abs (ak (bg cV L))]) (.tuple #[]) [0, 1, 2] (⟨rfl, by subst cu; subst bP; rfl⟩)
theorem fO {β : Bs} (X : FM) (f m t : Nat) (hX : 0 ≤ X.ah ∧ X.ah ≤ 1048576 ∧ -1125899906842624 ≤ X.used ∧ X.used ≤ 1125899906842624 ∧ 0 ≤ X.last ∧ X.last ≤ 1125899906842624) (O : bM) (L : HL) (d : Nat) (hkd : (obj O d).kind = 2) (name : ByteArray) (hsz : name.size ≤ 1048576) (hno : aS name (obj O d).ah = none) (hel : (obj O d).ah.length ≤ 1048576) (th : Th) (hkt : (obj O th.k).kind = th.kind) (h3 : th.kind = 1 ∨ th.kind = 2 ∨ th.kind = 3) (hb : 0 ≤ (obj O th.k).links ∧ (obj O th.k).links ≤ 1048576) :
    Spec Tryz.prog β 104 #[vP f, vP (L.b d), .string name, (cI L th)] [.blk f [vI (X.cN), vI (X.cB), vI (X.cH), vI (X.cS), vI (X.cZ), .map (some m), vP t, vI (X.last), vI (X.ah), vI (X.used)] 86, .abs (ak (aN O L)), .abs (ak (bg O L))] (fun v l => v = .tuple #[] ∧ l = [.blk f [vI (X.cN), vI (X.cB), vI (X.cH), vI (X.cS), vI (X.cZ), .map (some m), vP t, vI (X.last), vI (X.ah + 1), vI (X.used)] 86, .abs (ak (aN (br X O d name th) L)), .abs (ak (bg (br X O d name th) L))]) := by
 refine Spec.enter Tryz.func104 rfl Tryz.ntmps104 (Nat.le_of_ble_eq_true rfl) (fun R => ?_)
 refine af.seq ?_
 skip
 refine af.region ?_
 refine gK 3 [(8, vP (L.b d)), (9, .string name), (10, (cI L th))] [] ?_
 refine gL [1, 2] (DG O L d hkd name hsz hno hel th hkt h3 hb) ?_
 rintro _ _ ⟨rfl, rfl⟩
 refine NS ?_
 have xS : (obj (mr O d name th) d).kind = 2 := (tG).trans (hkd)
 generalize bP : (mr O d name th) = bK at xS ⊢
 refine gK 9 [(17, .agg #[vI (X.cS), vI (X.cZ)]), (20, .pointer (some ⟨(L.b d), 4, none⟩))] [(5, A_ 2 f 2)] ?_
 refine Gc 0 [(1, 1)] d X.cS X.cZ xS (fun cV cu => ?_)
 have PW := ku cu xS
 refine NN (af.region ?_)
 refine gC 8 [] [(3, a_ 2 f), (4, p_ ⟨[], none, none, none, some (vI (X.ah + 1))⟩ [(Value.int .i64 (IntKind.wrap .i64 (X.ah + 1))) = (.int .i64 (X.ah + 1))] ⟨bI (by omega) (by omega) (by omega), trivial⟩), (7, a_ 2 f)] [(2, [(8, vI (X.ah + 1))])] ?_
 refine NL ?_
 exact RF (l := [.blk f [vI (X.cN), vI (X.cB), vI (X.cH), vI (X.cS), vI (X.cZ), .map (some m), vP t, vI (X.last), vI (X.ah + 1), vI (X.used)] 86, .abs (ak (aN cV L)), .abs (ak (bg cV L))]) (.tuple #[]) [2, 0, 1, 3] (⟨rfl, by subst cu; subst bP; rfl⟩)
theorem gZ {β : Bs} (X : FM) (f m t : Nat) (hX : 0 ≤ X.ah ∧ X.ah ≤ 1048576 ∧ -1125899906842624 ≤ X.used ∧ X.used ≤ 1125899906842624 ∧ 0 ≤ X.last ∧ X.last ≤ 1125899906842624) (O : bM) (L : HL) (d : Nat) (hkd : (obj O d).kind = 2) (name : ByteArray) (hsz : name.size ≤ 1048576) (th : Th) (hkt : (obj O th.k).kind = th.kind) (h3 : th.kind = 1 ∨ th.kind = 2 ∨ th.kind = 3) (r8 : aS name (obj O d).ah = some th) (hnt : lK (obj O d).ah) (_ : (obj O d).ah.length ≤ 1048576) (hb : 0 ≤ (obj O th.k).links ∧ (obj O th.k).links ≤ 1048576) :
    Spec Tryz.prog β 107 #[vP f, vP (L.b d), .string name] [.blk f [vI (X.cN), vI (X.cB), vI (X.cH), vI (X.cS), vI (X.cZ), .map (some m), vP t, vI (X.last), vI (X.ah), vI (X.used)] 86, .abs (ak (aN O L)), .abs (ak (bg O L))] (fun v l => v = cI L th ∧ l = [.blk f [vI (X.cN), vI (X.cB), vI (X.cH), vI (X.cS), vI (X.cZ), .map (some m), vP t, vI (X.last), vI (X.ah - 1), vI (X.used)] 86, .abs (ak (aN (aL X O d name th) L)), .abs (ak (bg (aL X O d name th) L))]) := by
 refine Spec.enter Tryz.func107 rfl Tryz.ntmps107 (Nat.le_of_ble_eq_true rfl) (fun R => ?_)
 refine af.seq ?_
 obtain ⟨tk, kd⟩ := th; simp only at hkt h3; rcases h3 with rfl | rfl | rfl
 ·replace hkt : (obj O tk).kind = 1 := hkt
  replace hb : 0 ≤ (obj O tk).links ∧ (obj O tk).links ≤ 1048576 := hb
  refine af.region ?_
  refine gK 1 [] [] ?_
  refine NS ?_
  refine gK 5 [(11, .map (some (L.m d))), (12, .string name)] [(3, v_ 1 (bC L hkd))] ?_
  refine fK 2 hkd r8 ?_
  refine gK 1 [(7, .iface 89 (vP (L.b tk)))] [] ?_
  refine NS ?_
  refine gK 5 [(17, .map (some (L.m d))), (18, .string name)] [(3, v_ 1 (bC L hkd))] ?_
  refine Lv 2 [(1, 0)] hkd r8 hnt (fun bK bP => ?_)
  have Jt := ku bP hkd
  have M5 := ku bP hkt
  have Ol : (obj bK tk).links = (obj O tk).links := fu aP.links bP rfl
  refine NS ?_
  refine gK 9 [(24, .agg #[vI (X.cS), vI (X.cZ)]), (27, .pointer (some ⟨(L.b d), 4, none⟩))] [(5, A_ 0 f 2)] ?_
  refine Gc 1 [(2, 1)] d X.cS X.cZ Jt (fun cV cu => ?_)
  have Ju := ku cu Jt
  have AP := ku cu M5
  have Qf : (obj cV tk).links = (obj O tk).links := fu aP.links cu Ol
  refine NS ?_
  refine gC 8 [] [(3, a_ 0 f), (4, p_ ⟨[], none, none, none, some (vI (X.ah - 1))⟩ [(Value.int .i64 (IntKind.wrap .i64 (X.ah - 1))) = (.int .i64 (X.ah - 1))] ⟨bI (by omega) (by omega) (by omega), trivial⟩), (7, a_ 0 f)] [(0, [(8, vI (X.ah - 1))])] ?_
  refine NS ?_
  refine gK 1 [(35, .iface 89 (vP (L.b tk)))] [] ?_
  refine gL [] (cr (L.b tk)) ?_
  rintro _ _ ⟨rfl, rfl⟩
  refine gK 6 [(40, vI ((obj cV tk).links - 1)), (42, .pointer (some ⟨(L.b tk), 6, none⟩))] [(2, v_ 1 (kD L AP)), (3, p_ ⟨[], none, none, none, some (vI ((obj cV tk).links - 1))⟩ [(Value.int .i64 (IntKind.wrap .i64 ((obj cV tk).links - 1))) = (.int .i64 ((obj cV tk).links - 1))] ⟨bI (by omega) (by omega) (by omega), trivial⟩)] ?_
  refine pH 1 [(2, 1)] tk 6 (fun o => { o with links := o.links - 1 }) AP (fun rA jL => ?_)
  have PX := ku jL Ju
  have PY := ku jL AP
  refine NS ?_
  refine gK 2 [(6, .iface 89 (vP (L.b tk)))] [] ?_
  refine NN (af.ret ?_)
  exact RT (l := [.blk f [vI (X.cN), vI (X.cB), vI (X.cH), vI (X.cS), vI (X.cZ), .map (some m), vP t, vI (X.last), vI (X.ah - 1), vI (X.used)] 86, .abs (ak (aN rA L)), .abs (ak (bg rA L))]) (.iface 89 (vP (L.b tk))) [0, 1, 2, 3] (⟨rfl, by subst jL; subst cu; subst bP; rfl⟩)
 ·replace hkt : (obj O tk).kind = 2 := hkt
  replace hb : 0 ≤ (obj O tk).links ∧ (obj O tk).links ≤ 1048576 := hb
  refine af.region ?_
  refine gK 1 [] [] ?_
  refine NS ?_
  refine gK 5 [(11, .map (some (L.m d))), (12, .string name)] [(3, v_ 1 (bC L hkd))] ?_
  refine fK 2 hkd r8 ?_
  refine gK 1 [(7, .iface 96 (vP (L.b tk)))] [] ?_
  refine NS ?_
  refine gK 5 [(17, .map (some (L.m d))), (18, .string name)] [(3, v_ 1 (bC L hkd))] ?_
  refine Lv 2 [(1, 0)] hkd r8 hnt (fun bK bP => ?_)
  have Jv := ku bP hkd
  have M6 := ku bP hkt
  have Om : (obj bK tk).links = (obj O tk).links := fu aP.links bP rfl
  refine NS ?_
  refine gK 9 [(24, .agg #[vI (X.cS), vI (X.cZ)]), (27, .pointer (some ⟨(L.b d), 4, none⟩))] [(5, A_ 0 f 2)] ?_
  refine Gc 1 [(2, 1)] d X.cS X.cZ Jv (fun cV cu => ?_)
  have M7 := ku cu Jv
  have EB := ku cu M6
  have Qg : (obj cV tk).links = (obj O tk).links := fu aP.links cu Om
  refine NS ?_
  refine gC 8 [] [(3, a_ 0 f), (4, p_ ⟨[], none, none, none, some (vI (X.ah - 1))⟩ [(Value.int .i64 (IntKind.wrap .i64 (X.ah - 1))) = (.int .i64 (X.ah - 1))] ⟨bI (by omega) (by omega) (by omega), trivial⟩), (7, a_ 0 f)] [(0, [(8, vI (X.ah - 1))])] ?_
  refine NS ?_
  refine gK 1 [(35, .iface 96 (vP (L.b tk)))] [] ?_
  refine gL [] (cr (L.b tk)) ?_
  rintro _ _ ⟨rfl, rfl⟩
  refine gK 6 [(40, vI ((obj cV tk).links - 1)), (42, .pointer (some ⟨(L.b tk), 6, none⟩))] [(2, v_ 1 (kD L EB)), (3, p_ ⟨[], none, none, none, some (vI ((obj cV tk).links - 1))⟩ [(Value.int .i64 (IntKind.wrap .i64 ((obj cV tk).links - 1))) = (.int .i64 ((obj cV tk).links - 1))] ⟨bI (by omega) (by omega) (by omega), trivial⟩)] ?_
  refine pH 1 [(2, 1)] tk 6 (fun o => { o with links := o.links - 1 }) EB (fun rA jL => ?_)
  have PZ := ku jL M7
  have P0 := ku jL EB
  refine NS ?_
  refine gK 2 [(6, .iface 96 (vP (L.b tk)))] [] ?_
  refine NN (af.ret ?_)
  exact RT (l := [.blk f [vI (X.cN), vI (X.cB), vI (X.cH), vI (X.cS), vI (X.cZ), .map (some m), vP t, vI (X.last), vI (X.ah - 1), vI (X.used)] 86, .abs (ak (aN rA L)), .abs (ak (bg rA L))]) (.iface 96 (vP (L.b tk))) [0, 1, 2, 3] (⟨rfl, by subst jL; subst cu; subst bP; rfl⟩)
 replace hkt : (obj O tk).kind = 3 := hkt
 replace hb : 0 ≤ (obj O tk).links ∧ (obj O tk).links ≤ 1048576 := hb
 refine af.region ?_
 refine gK 1 [] [] ?_
 refine NS ?_
 refine gK 5 [(11, .map (some (L.m d))), (12, .string name)] [(3, v_ 1 (bC L hkd))] ?_
 refine fK 2 hkd r8 ?_
 refine gK 1 [(7, .iface 93 (vP (L.b tk)))] [] ?_
 refine NS ?_
 refine gK 5 [(17, .map (some (L.m d))), (18, .string name)] [(3, v_ 1 (bC L hkd))] ?_
 refine Lv 2 [(1, 0)] hkd r8 hnt (fun bK bP => ?_)
 have Jw := ku bP hkd
 have M8 := ku bP hkt
 have Oo : (obj bK tk).links = (obj O tk).links := fu aP.links bP rfl
 refine NS ?_
 refine gK 9 [(24, .agg #[vI (X.cS), vI (X.cZ)]), (27, .pointer (some ⟨(L.b d), 4, none⟩))] [(5, A_ 0 f 2)] ?_
 refine Gc 1 [(2, 1)] d X.cS X.cZ Jw (fun cV cu => ?_)
 have M9 := ku cu Jw
 have EC := ku cu M8
 have Qh : (obj cV tk).links = (obj O tk).links := fu aP.links cu Oo
 refine NS ?_
 refine gC 8 [] [(3, a_ 0 f), (4, p_ ⟨[], none, none, none, some (vI (X.ah - 1))⟩ [(Value.int .i64 (IntKind.wrap .i64 (X.ah - 1))) = (.int .i64 (X.ah - 1))] ⟨bI (by omega) (by omega) (by omega), trivial⟩), (7, a_ 0 f)] [(0, [(8, vI (X.ah - 1))])] ?_
 refine NS ?_
 refine gK 1 [(35, .iface 93 (vP (L.b tk)))] [] ?_
 refine gL [] (cr (L.b tk)) ?_
 rintro _ _ ⟨rfl, rfl⟩
 refine gK 6 [(40, vI ((obj cV tk).links - 1)), (42, .pointer (some ⟨(L.b tk), 6, none⟩))] [(2, v_ 1 (kD L EC)), (3, p_ ⟨[], none, none, none, some (vI ((obj cV tk).links - 1))⟩ [(Value.int .i64 (IntKind.wrap .i64 ((obj cV tk).links - 1))) = (.int .i64 ((obj cV tk).links - 1))] ⟨bI (by omega) (by omega) (by omega), trivial⟩)] ?_
 refine pH 1 [(2, 1)] tk 6 (fun o => { o with links := o.links - 1 }) EC (fun rA jL => ?_)
 have P4 := ku jL M9
 have P5 := ku jL EC
 refine NS ?_
 refine gK 2 [(6, .iface 93 (vP (L.b tk)))] [] ?_
 refine NN (af.ret ?_)
 exact RT (l := [.blk f [vI (X.cN), vI (X.cB), vI (X.cH), vI (X.cS), vI (X.cZ), .map (some m), vP t, vI (X.last), vI (X.ah - 1), vI (X.used)] 86, .abs (ak (aN rA L)), .abs (ak (bg rA L))]) (.iface 93 (vP (L.b tk))) [0, 1, 2, 3] (⟨rfl, by subst jL; subst cu; subst bP; rfl⟩)
end
section
open Go.RowKit Go.Maps HeapM TabM
attribute [local irreducible] aj aT af ai
abbrev Gf (f : Nat) (X : FM) (m : Nat) (t) := (.blk f [vI (X.cN), vI (X.cB), vI (X.cH), vI (X.cS), vI (X.cZ), .map (some m), vP t, vI (X.last), vI (X.ah), vI (X.used)] 86 : HP)
theorem Io {β : Bs} (X : FM) (f m t : Nat) (hX : 0 ≤ X.ah ∧ X.ah ≤ 1048576 ∧ -1125899906842624 ≤ X.used ∧ X.used ≤ 1125899906842624 ∧ 0 ≤ X.last ∧ X.last ≤ 1125899906842624) (O : bM) (L : HL) (idx : Used Th) (Gg : TabM.cq (keys idx)) (th : Th) (hkt : (obj O th.k).kind = th.kind) (h3 : th.kind = 1 ∨ th.kind = 2 ∨ th.kind = 3) (hg : (obj O th.k).gone = true) (ho : (obj O th.k).opens = 0) (hix : TabM.get idx (obj O th.k).id = some th) (hw : (Lit.int .i64 (obj O th.k).id).wf = true) (t6 : (obj O th.k).data.length ≤ 1125899906842624) :
    Spec Tryz.prog β 139 #[vP f, (cI L th)] [pO O L, pF f m t X, pI m L idx] (fun v l => v = .tuple #[] ∧ l = [pO O L, pF f m t { X with used := if th.kind = 1 then X.used - (obj O th.k).data.length else X.used }, pI m L (del (obj O th.k).id idx)]) := by
 refine Spec.enter Tryz.func139 rfl Tryz.ntmps139 (Nat.le_of_ble_eq_true rfl) (fun R => ?_)
 refine af.seq ?_
 obtain ⟨tk, kd⟩ := th; simp only at hkt h3; rcases h3 with rfl | rfl | rfl
 ·replace hkt : (obj O tk).kind = 1 := hkt
  replace hg : (obj O tk).gone = true := hg
  replace ho : (obj O tk).opens = 0 := ho
  replace hix : TabM.get idx (obj O tk).id = some _ := hix
  replace hw : (Lit.int .i64 (obj O tk).id).wf = true := hw
  have hdl := mR Gg (get_some hix)
  replace t6 : (obj O tk).data.length ≤ 1125899906842624 := t6
  refine af.region ?_
  refine gK 1 [(7, .iface 89 (vP (L.b tk)))] [] ?_
  refine gL [] (cr (L.b tk)) ?_
  rintro _ _ ⟨rfl, rfl⟩
  refine gK 1 [(4, vP (L.b tk))] [] ?_
  refine NN (af.seq (SR ?_))
  refine gK 6 [(14, .bool (!(obj O tk).gone))] [(3, v_ 0 (kM L hkt))] ?_
  refine aj.kT 14 (!(obj O tk).gone) (fun _ => by kernel_rfl) (fun gj => ?_) (fun gj => ?_)
  ·exact absurd gj (by simp [hg])
  refine gK 6 [(20, .bool (decide (((obj O tk).opens : Int) > (0 : Int))))] [(3, v_ 0 (iH L hkt))] ?_
  refine NN ?_
  refine af.bB (p := ((obj O tk).opens : Int) > (0 : Int)) (fun _ => by kernel_rfl) (fun mK => ?_) (fun mK => ?_)
  ·exact absurd mK (by omega)
  refine af.skip (NX (af.seq ?_))
  refine af.bZ (S := [pO O L, pF f m t X, pI m L idx, .abs R]) [0, 1, 2, 3, 4, 5, 6, 7, 8] 8 [0, 1, 2, 3] (by kernel_rfl) (by kernel_rfl) rfl (by kernel_rfl) ?_
  refine aF.reads (r := 0) (l := [8]) (fr' := [(0, vP f), (1, .iface 89 (vP (L.b tk))), (24, .map (some m)), (28, vI ((obj O tk).id))]) (aV := [(∀ F w, (ak (aN O L)).h F w → w.cell? ⟨(L.b tk), 0, none⟩ = some (vI ((obj O tk).id))), f = f]) [0, 1, 2, 3, 4, 5, 6, 7] [o_, o_, o_, ⟨[.at 1], none, none, none, none⟩, o_, o_, o_, ⟨[.view 0 (.int .i64 ((obj O tk).id))], none, none, none, none⟩] [0, 1, 24, 28] (fun _ => by kernel_rfl) ⟨bq (by rw [hkt]; decide) (rfl), rfl, trivial⟩ rfl rfl ?_
  refine aF.last rfl rfl ?_
  refine aj.wM 2 (d := none) (t := 80) (K := 3) (E := 84) (b := m) (n := idx.length) (f := (aM (aJ L idx))) (x := (.tmp 24)) (ix := (.tmp 28)) (key := .int .i64 ((obj O tk).id)) (kl := (.int .i64 (obj O tk).id)) (n' := (idx.length - 1)) (f' := (aM (aJ L (del (obj O tk).id idx)))) (ats := #[80, 3]) (fun _ => by kernel_rfl) (by kernel_rfl) (fun _ => by kernel_rfl) (fun _ => by kernel_rfl) rfl dr Tryz.underlying80 (gG hw) (by rw [dJ, hix]; rfl) (yR) ?_
  refine NL (ai.np (NX (SR ?_)))
  refine gK 7 [(5, vP (L.b tk)), (6, .bool true)] [] ?_
  refine NS ?_
  refine gK 1 [(34, .bool true)] [] ?_
  refine NN ?_
  refine CT ?_
  refine af.bZ (S := [pO O L, pF f m t X, .abs (aI Tryz.prog 3 m (aM (aJ L (del (obj O tk).id idx))) (idx.length - 1)), .abs R]) [0, 1, 2, 3, 4, 5, 6, 7, 8, 9, 10, 11, 12] 12 [0, 1, 2, 3] (by kernel_rfl) (by kernel_rfl) rfl (by kernel_rfl) ?_
  refine aF.reads (r := 0) (l := [12]) (fr' := [(44, vI (X.used - (((obj O tk).data.length : Nat) : Int))), (46, .pointer (some ⟨f, 9, none⟩))]) (aV := [(Value.int .i64 (IntKind.wrap .i64 (X.used - (((obj O tk).data.length : Nat) : Int)))) = (.int .i64 (X.used - (((obj O tk).data.length : Nat) : Int))), (∀ F w, (ak (aN O L)).h F w → w.cell? ⟨(L.b tk), 9, none⟩ = some (.slice (L.dA tk) ((obj O tk).data.length) ((L.dC tk)))), f = f]) [0, 1, 2, 3, 4, 5, 6, 7, 8, 9, 10, 11] [o_, o_, o_, ⟨[.at 1], none, none, none, none⟩, o_, o_, o_, ⟨[.view 0 (.slice (L.dA tk) ((obj O tk).data.length) ((L.dC tk)))], none, none, none, none⟩, o_, ⟨[], none, none, none, some (vI (X.used - (((obj O tk).data.length : Nat) : Int)))⟩, o_, o_] [44, 46] (fun _ => by kernel_rfl) ⟨bI (by omega) (by omega) (by omega), bq (by rw [hkt]; decide) (by rw [eu (hkt)]; rfl), rfl, trivial⟩ rfl rfl ?_
  refine aF.last rfl rfl ?_
  refine gC 1 [] [(0, a_ 1 f)] [(1, [(9, vI (X.used - (((obj O tk).data.length : Nat) : Int)))])] ?_
  refine NL (ai.np ?_)
  refine ai.mem (aR := [.abs (ak (aN O L)), .blk f [vI (X.cN), vI (X.cB), vI (X.cH), vI (X.cS), vI (X.cZ), .map (some m), vP t, vI (X.last), vI (X.ah), vI (X.used - (((obj O tk).data.length : Nat) : Int))] 86, .abs (aI Tryz.prog 3 m (aM (aJ L (del (obj O tk).id idx))) ((del (obj O tk).id idx).length)), .abs R]) (fun w hS => by rw [show (del (obj O tk).id idx).length = idx.length - 1 by omega]; exact hS) ?_
  exact RF (.tuple #[]) [0, 1, 2, 3] (⟨rfl, rfl⟩)
 ·replace hkt : (obj O tk).kind = 2 := hkt
  replace hg : (obj O tk).gone = true := hg
  replace ho : (obj O tk).opens = 0 := ho
  replace hix : TabM.get idx (obj O tk).id = some _ := hix
  replace hw : (Lit.int .i64 (obj O tk).id).wf = true := hw
  have hdl := mR Gg (get_some hix)
  replace t6 : (obj O tk).data.length ≤ 1125899906842624 := t6
  refine af.region ?_
  refine gK 1 [(7, .iface 96 (vP (L.b tk)))] [] ?_
  refine gL [] (cr (L.b tk)) ?_
  rintro _ _ ⟨rfl, rfl⟩
  refine gK 1 [(4, vP (L.b tk))] [] ?_
  refine NN (af.seq (SR ?_))
  refine gK 6 [(14, .bool (!(obj O tk).gone))] [(3, v_ 0 (kM L hkt))] ?_
  refine aj.kT 14 (!(obj O tk).gone) (fun _ => by kernel_rfl) (fun gj => ?_) (fun gj => ?_)
  ·exact absurd gj (by simp [hg])
  refine gK 6 [(20, .bool (decide (((obj O tk).opens : Int) > (0 : Int))))] [(3, v_ 0 (iH L hkt))] ?_
  refine NN ?_
  refine af.bB (p := ((obj O tk).opens : Int) > (0 : Int)) (fun _ => by kernel_rfl) (fun mK => ?_) (fun mK => ?_)
  ·exact absurd mK (by omega)
  refine af.skip (NX (af.seq ?_))
  refine af.bZ (S := [pO O L, pF f m t X, pI m L idx, .abs R]) [0, 1, 2, 3, 4, 5, 6, 7, 8] 8 [0, 1, 2, 3] (by kernel_rfl) (by kernel_rfl) rfl (by kernel_rfl) ?_
  refine aF.reads (r := 0) (l := [8]) (fr' := [(0, vP f), (1, .iface 96 (vP (L.b tk))), (24, .map (some m)), (28, vI ((obj O tk).id))]) (aV := [(∀ F w, (ak (aN O L)).h F w → w.cell? ⟨(L.b tk), 0, none⟩ = some (vI ((obj O tk).id))), f = f]) [0, 1, 2, 3, 4, 5, 6, 7] [o_, o_, o_, ⟨[.at 1], none, none, none, none⟩, o_, o_, o_, ⟨[.view 0 (.int .i64 ((obj O tk).id))], none, none, none, none⟩] [0, 1, 24, 28] (fun _ => by kernel_rfl) ⟨bq (by rw [hkt]; decide) (rfl), rfl, trivial⟩ rfl rfl ?_
  refine aF.last rfl rfl ?_
  refine aj.wM 2 (d := none) (t := 80) (K := 3) (E := 84) (b := m) (n := idx.length) (f := (aM (aJ L idx))) (x := (.tmp 24)) (ix := (.tmp 28)) (key := .int .i64 ((obj O tk).id)) (kl := (.int .i64 (obj O tk).id)) (n' := (idx.length - 1)) (f' := (aM (aJ L (del (obj O tk).id idx)))) (ats := #[80, 3]) (fun _ => by kernel_rfl) (by kernel_rfl) (fun _ => by kernel_rfl) (fun _ => by kernel_rfl) rfl dr Tryz.underlying80 (gG hw) (by rw [dJ, hix]; rfl) (yR) ?_
  refine NL (ai.np (NX (SR ?_)))
  refine gK 7 [(5, .pointer none), (6, .bool false)] [] ?_
  refine NS ?_
  refine gK 1 [(34, .bool false)] [] ?_
  refine NN ?_
  refine CF ?_
  refine af.skip ?_
  refine ai.mem (aR := [.abs (ak (aN O L)), .blk f [vI (X.cN), vI (X.cB), vI (X.cH), vI (X.cS), vI (X.cZ), .map (some m), vP t, vI (X.last), vI (X.ah), vI (X.used)] 86, .abs (aI Tryz.prog 3 m (aM (aJ L (del (obj O tk).id idx))) ((del (obj O tk).id idx).length)), .abs R]) (fun w hS => by rw [show (del (obj O tk).id idx).length = idx.length - 1 by omega]; exact hS) ?_
  exact RF (.tuple #[]) [0, 1, 2, 3] (⟨rfl, rfl⟩)
 replace hkt : (obj O tk).kind = 3 := hkt
 replace hg : (obj O tk).gone = true := hg
 replace ho : (obj O tk).opens = 0 := ho
 replace hix : TabM.get idx (obj O tk).id = some _ := hix
 replace hw : (Lit.int .i64 (obj O tk).id).wf = true := hw
 have hdl := mR Gg (get_some hix)
 replace t6 : (obj O tk).data.length ≤ 1125899906842624 := t6
 refine af.region ?_
 refine gK 1 [(7, .iface 93 (vP (L.b tk)))] [] ?_
 refine gL [] (cr (L.b tk)) ?_
 rintro _ _ ⟨rfl, rfl⟩
 refine gK 1 [(4, vP (L.b tk))] [] ?_
 refine NN (af.seq (SR ?_))
 refine gK 6 [(14, .bool (!(obj O tk).gone))] [(3, v_ 0 (kM L hkt))] ?_
 refine aj.kT 14 (!(obj O tk).gone) (fun _ => by kernel_rfl) (fun gj => ?_) (fun gj => ?_)
 ·exact absurd gj (by simp [hg])
 refine gK 6 [(20, .bool (decide (((obj O tk).opens : Int) > (0 : Int))))] [(3, v_ 0 (iH L hkt))] ?_
 refine NN ?_
 refine af.bB (p := ((obj O tk).opens : Int) > (0 : Int)) (fun _ => by kernel_rfl) (fun mK => ?_) (fun mK => ?_)
 ·exact absurd mK (by omega)
 refine af.skip (NX (af.seq ?_))
 refine af.bZ (S := [pO O L, pF f m t X, pI m L idx, .abs R]) [0, 1, 2, 3, 4, 5, 6, 7, 8] 8 [0, 1, 2, 3] (by kernel_rfl) (by kernel_rfl) rfl (by kernel_rfl) ?_
 refine aF.reads (r := 0) (l := [8]) (fr' := [(0, vP f), (1, .iface 93 (vP (L.b tk))), (24, .map (some m)), (28, vI ((obj O tk).id))]) (aV := [(∀ F w, (ak (aN O L)).h F w → w.cell? ⟨(L.b tk), 0, none⟩ = some (vI ((obj O tk).id))), f = f]) [0, 1, 2, 3, 4, 5, 6, 7] [o_, o_, o_, ⟨[.at 1], none, none, none, none⟩, o_, o_, o_, ⟨[.view 0 (.int .i64 ((obj O tk).id))], none, none, none, none⟩] [0, 1, 24, 28] (fun _ => by kernel_rfl) ⟨bq (by rw [hkt]; decide) (rfl), rfl, trivial⟩ rfl rfl ?_
 refine aF.last rfl rfl ?_
 refine aj.wM 2 (d := none) (t := 80) (K := 3) (E := 84) (b := m) (n := idx.length) (f := (aM (aJ L idx))) (x := (.tmp 24)) (ix := (.tmp 28)) (key := .int .i64 ((obj O tk).id)) (kl := (.int .i64 (obj O tk).id)) (n' := (idx.length - 1)) (f' := (aM (aJ L (del (obj O tk).id idx)))) (ats := #[80, 3]) (fun _ => by kernel_rfl) (by kernel_rfl) (fun _ => by kernel_rfl) (fun _ => by kernel_rfl) rfl dr Tryz.underlying80 (gG hw) (by rw [dJ, hix]; rfl) (yR) ?_
 refine NL (ai.np (NX (SR ?_)))
 refine gK 7 [(5, .pointer none), (6, .bool false)] [] ?_
 refine NS ?_
 refine gK 1 [(34, .bool false)] [] ?_
 refine NN ?_
 refine CF ?_
 refine af.skip ?_
 refine ai.mem (aR := [.abs (ak (aN O L)), .blk f [vI (X.cN), vI (X.cB), vI (X.cH), vI (X.cS), vI (X.cZ), .map (some m), vP t, vI (X.last), vI (X.ah), vI (X.used)] 86, .abs (aI Tryz.prog 3 m (aM (aJ L (del (obj O tk).id idx))) ((del (obj O tk).id idx).length)), .abs R]) (fun w hS => by rw [show (del (obj O tk).id idx).length = idx.length - 1 by omega]; exact hS) ?_
 exact RF (.tuple #[]) [0, 1, 2, 3] (⟨rfl, rfl⟩)
theorem ED {β : Bs} (O : bM) (L : HL) (f : Nat) (th : Th) (hkt : (obj O th.k).kind = th.kind) (h3 : th.kind = 1 ∨ th.kind = 2 ∨ th.kind = 3) (hg : (obj O th.k).gone = false ∨ 0 < (obj O th.k).opens) :
    Spec Tryz.prog β 139 #[vP f, (cI L th)] [pO O L] (fun v l => v = .tuple #[] ∧ l = [pO O L]) := by
 refine Spec.enter Tryz.func139 rfl Tryz.ntmps139 (Nat.le_of_ble_eq_true rfl) (fun R => ?_)
 refine af.seq ?_
 obtain ⟨tk, kd⟩ := th; simp only at hkt h3; rcases h3 with rfl | rfl | rfl
 ·replace hkt : (obj O tk).kind = 1 := hkt
  replace hg : (obj O tk).gone = false ∨ 0 < (obj O tk).opens := hg
  refine af.region ?_
  refine gK 1 [(7, .iface 89 (vP (L.b tk)))] [] ?_
  refine gL [] (cr (L.b tk)) ?_
  rintro _ _ ⟨rfl, rfl⟩
  refine gK 1 [(4, vP (L.b tk))] [] ?_
  refine NN (af.seq (SR ?_))
  refine gK 6 [(14, .bool (!(obj O tk).gone))] [(3, v_ 0 (kM L hkt))] ?_
  refine aj.kT 14 (!(obj O tk).gone) (fun _ => by kernel_rfl) (fun gj => ?_) (fun gj => ?_)
  ·refine gK 6 [(20, .bool true)] [] ?_
   refine NN ?_
   refine CT ?_
   refine af.ret (ai.aq ?_)
   exact RT (.tuple #[]) [0, 1] (⟨rfl, rfl⟩)
  refine gK 6 [(20, .bool (decide (((obj O tk).opens : Int) > (0 : Int))))] [(3, v_ 0 (iH L hkt))] ?_
  refine NN ?_
  refine af.bB (p := ((obj O tk).opens : Int) > (0 : Int)) (fun _ => by kernel_rfl) (fun mK => ?_) (fun mK => ?_)
  ·refine af.ret (ai.aq ?_)
   exact RT (.tuple #[]) [0, 1] (⟨rfl, rfl⟩)
  exact absurd hg (by simp at gj; rw [gj]; simp; omega)
 ·replace hkt : (obj O tk).kind = 2 := hkt
  replace hg : (obj O tk).gone = false ∨ 0 < (obj O tk).opens := hg
  refine af.region ?_
  refine gK 1 [(7, .iface 96 (vP (L.b tk)))] [] ?_
  refine gL [] (cr (L.b tk)) ?_
  rintro _ _ ⟨rfl, rfl⟩
  refine gK 1 [(4, vP (L.b tk))] [] ?_
  refine NN (af.seq (SR ?_))
  refine gK 6 [(14, .bool (!(obj O tk).gone))] [(3, v_ 0 (kM L hkt))] ?_
  refine aj.kT 14 (!(obj O tk).gone) (fun _ => by kernel_rfl) (fun gj => ?_) (fun gj => ?_)
  ·refine gK 6 [(20, .bool true)] [] ?_
   refine NN ?_
   refine CT ?_
   refine af.ret (ai.aq ?_)
   exact RT (.tuple #[]) [0, 1] (⟨rfl, rfl⟩)
  refine gK 6 [(20, .bool (decide (((obj O tk).opens : Int) > (0 : Int))))] [(3, v_ 0 (iH L hkt))] ?_
  refine NN ?_
  refine af.bB (p := ((obj O tk).opens : Int) > (0 : Int)) (fun _ => by kernel_rfl) (fun mK => ?_) (fun mK => ?_)
  ·refine af.ret (ai.aq ?_)
   exact RT (.tuple #[]) [0, 1] (⟨rfl, rfl⟩)
  exact absurd hg (by simp at gj; rw [gj]; simp; omega)
 replace hkt : (obj O tk).kind = 3 := hkt
 replace hg : (obj O tk).gone = false ∨ 0 < (obj O tk).opens := hg
 refine af.region ?_
 refine gK 1 [(7, .iface 93 (vP (L.b tk)))] [] ?_
 refine gL [] (cr (L.b tk)) ?_
 rintro _ _ ⟨rfl, rfl⟩
 refine gK 1 [(4, vP (L.b tk))] [] ?_
 refine NN (af.seq (SR ?_))
 refine gK 6 [(14, .bool (!(obj O tk).gone))] [(3, v_ 0 (kM L hkt))] ?_
 refine aj.kT 14 (!(obj O tk).gone) (fun _ => by kernel_rfl) (fun gj => ?_) (fun gj => ?_)
 ·refine gK 6 [(20, .bool true)] [] ?_
  refine NN ?_
  refine CT ?_
  refine af.ret (ai.aq ?_)
  exact RT (.tuple #[]) [0, 1] (⟨rfl, rfl⟩)
 refine gK 6 [(20, .bool (decide (((obj O tk).opens : Int) > (0 : Int))))] [(3, v_ 0 (iH L hkt))] ?_
 refine NN ?_
 refine af.bB (p := ((obj O tk).opens : Int) > (0 : Int)) (fun _ => by kernel_rfl) (fun mK => ?_) (fun mK => ?_)
 ·refine af.ret (ai.aq ?_)
  exact RT (.tuple #[]) [0, 1] (⟨rfl, rfl⟩)
 exact absurd hg (by simp at gj; rw [gj]; simp; omega)
theorem nP {β : Bs} (X : FM) (f m t : Nat) (hX : 0 ≤ X.ah ∧ X.ah ≤ 1048576 ∧ -1125899906842624 ≤ X.used ∧ X.used ≤ 1125899906842624 ∧ 0 ≤ X.last ∧ X.last ≤ 1125899906842624) (O : bM) (L : HL) (idx : Used Th) (Gg : TabM.cq (keys idx)) (th : Th) (hkt : (obj O th.k).kind = th.kind) (h3 : th.kind = 1 ∨ th.kind = 2 ∨ th.kind = 3) (ho : 0 ≤ (obj O th.k).opens) (hix : oJ O th → TabM.get idx (obj O th.k).id = some th) (hw : (Lit.int .i64 (obj O th.k).id).wf = true) (t6 : (obj O th.k).data.length ≤ 1125899906842624) :
    Spec Tryz.prog β 139 #[vP f, (cI L th)] [pO O L, pF f m t X, pI m L idx] (fun v l => v = .tuple #[] ∧ l = [pO O L, pF f m t { X with used := iL O X.used th }, pI m L (iw O idx th)]) := by
  unfold iL iw
  by_cases h : oJ O th
  ·rw [if_pos h, if_pos h]
   exact Io X f m t hX O L idx Gg th hkt h3 h.1 h.2 (hix h) hw t6
  rw [if_neg h, if_neg h]
  refine (Spec.yL (pre := [pO O L]) (R := [pF f m t X, pI m L idx]) (fun _ _ => ED O L f th hkt h3 ?_)).mono (by rintro v l ⟨l0, ⟨rfl, rfl⟩, rfl⟩; exact ⟨rfl, rfl⟩)
  cases hg : (obj O th.k).gone with
  | false => exact .inl rfl
  | true => exact .inr (by have : ¬ (obj O th.k).opens = 0 := fun e => h ⟨hg, e⟩; omega)
theorem qH {β : Bs} (X : FM) (f m t : Nat) : Spec Tryz.prog β 135 #[vP f] [Gf f X m t] (fun v l => v = .bool (decide (X.ah < 8192)) ∧ l = [Gf f X m t]) := by
 refine Spec.enter Tryz.func135 rfl Tryz.ntmps135 (Nat.le_of_ble_eq_true rfl) (fun R => ?_)
 refine SR ?_
 refine gK 1 [] [] ?_
 refine NS ?_
 refine gK 6 [(2, .bool (decide ((X.ah : Int) < (8192 : Int))))] [(3, a_ 0 f)] ?_
 refine NN (af.ret ?_)
 exact RT (.bool (decide ((X.ah : Int) < (8192 : Int)))) [0, 1] (⟨rfl, rfl⟩)
theorem dW {β : Bs} (a b : Int) : Spec Tryz.prog β 32 #[vI a, vI b] [] (fun v l => v = .bool (decide (0 ≤ a ∧ a ≤ b)) ∧ l = []) := by
 refine Spec.enter Tryz.func32 rfl Tryz.ntmps32 (Nat.le_of_ble_eq_true rfl) (fun R => ?_)
 refine SR ?_
 refine gK 1 [] [] ?_
 refine NS ?_
 refine gK 3 [(7, .bool (decide ((a : Int) ≥ (0 : Int))))] [] ?_
 refine aj.fk 7 ((a : Int) ≥ (0 : Int)) (fun _ => by kernel_rfl) (fun h7 => ?_) (fun h7 => ?_)
 ·refine gK 5 [(4, .bool (decide ((a : Int) ≤ (b : Int))))] [] ?_
  refine NN (af.ret ?_)
  exact RT (.bool (decide ((a : Int) ≤ (b : Int)))) [0] (⟨by first | exact congrArg Value.bool (decide_eq_decide.2 (by omega)) | exact congrArg Value.bool (decide_eq_true (by omega)).symm | exact congrArg Value.bool (decide_eq_false (by omega)).symm, rfl⟩)
 refine gK 5 [(4, .bool false)] [] ?_
 refine NN (af.ret ?_)
 exact RT (.bool false) [0] (⟨by first | exact congrArg Value.bool (decide_eq_decide.2 (by omega)) | exact congrArg Value.bool (decide_eq_true (by omega)).symm | exact congrArg Value.bool (decide_eq_false (by omega)).symm, rfl⟩)
theorem Ce {β : Bs} (X : FM) (f m t : Nat) (L : HL) (idx : Used Th) : Spec Tryz.prog β 103 #[vP f] [Gf f X m t, .abs (aI Tryz.prog 3 m (aM (aJ L idx)) idx.length)] (fun v l => v = .bool (decide ((idx.length : Int) < X.cN ∧ X.last < 1099511627776 ∧ X.ah < 8192)) ∧ l = [Gf f X m t, .abs (aI Tryz.prog 3 m (aM (aJ L idx)) idx.length)]) := by
 refine Spec.enter Tryz.func103 rfl Tryz.ntmps103 (Nat.le_of_ble_eq_true rfl) (fun R => ?_)
 refine SR ?_
 refine gK 1 [] [] ?_
 refine NN (af.seq ?_)
 refine af.bG (by kernel_rfl) (by kernel_rfl) ?_
 refine gQ 4 [(6, .map (some m))] [(3, a_ 0 f)] ?_
 refine aT.qP 1 (d := (some 7)) (t := 80) (K := 3) (E := 84) (b := m) (n := idx.length) (f := (aM (aJ L idx))) (x := (.tmp 6)) (ats := #[80]) (fun _ => by kernel_rfl) (by kernel_rfl) (fun _ => by kernel_rfl) rfl Tryz.underlying80 ?_
 refine gQ 7 [(14, .bool (decide ((((idx.length : Nat) : Int) : Int) < (X.cN : Int))))] [(4, a_ 0 f)] ?_
 refine aT.fk 14 ((((idx.length : Nat) : Int) : Int) < (X.cN : Int)) (fun _ => by kernel_rfl) (fun gj => ?_) (fun gj => ?_)
 ·refine gQ 7 [(21, .bool (decide ((X.last : Int) < (1099511627776 : Int))))] [(3, a_ 0 f)] ?_
  refine aT.fk 21 ((X.last : Int) < (1099511627776 : Int)) (fun _ => by kernel_rfl) (fun rB => ?_) (fun rB => ?_)
  ·refine gQ 1 [(22, vP f)] [] ?_
   refine aT.call (f := 135) (args := #[vP f]) (d := (some 23)) (pre := [pF f m t X]) (R := [pI m L idx, .abs R]) (pk := [0, 1, 2]) (gy := [0, 1, 2]) (v0 := .bool (decide (X.ah < 8192))) (fun _ => by kernel_rfl) (qH X f m t) rfl (by kernel_rfl) rfl (by kernel_rfl) (fun _ _ h => h) ?_
   refine gQ 2 [(2, .bool (decide (X.ah < 8192)))] [] ?_
   refine NQ (NX (af.ret ?_))
   exact RT (.bool (decide (X.ah < 8192))) [0, 1, 2] (⟨by first | exact congrArg Value.bool (decide_eq_decide.2 (by omega)) | exact congrArg Value.bool (decide_eq_true (by omega)).symm | exact congrArg Value.bool (decide_eq_false (by omega)).symm, rfl⟩)
  refine gQ 4 [(2, .bool false)] [] ?_
  refine NQ (NX (af.ret ?_))
  exact RT (.bool false) [0, 1, 2] (⟨by first | exact congrArg Value.bool (decide_eq_decide.2 (by omega)) | exact congrArg Value.bool (decide_eq_true (by omega)).symm | exact congrArg Value.bool (decide_eq_false (by omega)).symm, rfl⟩)
 refine gQ 11 [(2, .bool false)] [] ?_
 refine NQ (NX (af.ret ?_))
 exact RT (.bool false) [0, 1, 2] (⟨by first | exact congrArg Value.bool (decide_eq_decide.2 (by omega)) | exact congrArg Value.bool (decide_eq_true (by omega)).symm | exact congrArg Value.bool (decide_eq_false (by omega)).symm, rfl⟩)
theorem qp {β : Bs} (X : FM) (f m t : Nat) (hX : 0 ≤ X.ah ∧ X.ah ≤ 1048576 ∧ -1125899906842624 ≤ X.used ∧ X.used ≤ 1125899906842624 ∧ 0 ≤ X.last ∧ X.last ≤ 1125899906842624) (mode : Int) : Spec Tryz.prog β 55 #[vP f, vI mode] [Gf f X m t] (fun v l => v = .agg #[vI (X.last + 1), vI mode, vI 0, vI 0, vI X.cS, vI X.cZ, vI 0, vI 0, .bool false] ∧ l = [.blk f [vI (X.cN), vI (X.cB), vI (X.cH), vI (X.cS), vI (X.cZ), .map (some m), vP t, vI (X.last + 1), vI (X.ah), vI (X.used)] 86]) := by
 refine Spec.enter Tryz.func55 rfl Tryz.ntmps55 (Nat.le_of_ble_eq_true rfl) (fun R => ?_)
 refine SR ?_
 refine gN 1 (fun b1 => [(4, vP b1)]) (fun _ => []) (fun _ => []) (fun b1 => .blk b1 [vI 0, vI 0, vI 0, vI 0, vI 0, vI 0, vI 0, vI 0, .bool false] 88) (fun b1 => ?_)
 refine NS ?_
 refine gC 8 [] [(3, a_ 0 f), (4, p_ ⟨[], none, none, none, some (vI (X.last + 1))⟩ [(Value.int .i64 (IntKind.wrap .i64 (X.last + 1))) = (.int .i64 (X.last + 1))] ⟨bI (by omega) (by omega) (by omega), trivial⟩), (7, a_ 0 f)] [(0, [(7, vI (X.last + 1))])] ?_
 refine NN (af.seq ?_)
 refine af.bZ (S := [pF f m t { X with last := X.last + 1 }, .abs R, .blk b1 [vI 0, vI 0, vI 0, vI 0, vI 0, vI 0, vI 0, vI 0, .bool false] 88]) [0, 1, 2, 3, 4, 5, 6, 7, 8, 9, 10, 11] 11 [0, 1, 2] (by kernel_rfl) (by kernel_rfl) rfl (by kernel_rfl) ?_
 refine aF.reads (r := 0) (l := [11]) (fr' := [(4, vP b1), (22, .agg #[vI (X.last + 1), vI (mode), vI 0, vI 0, vI (X.cS), vI (X.cZ), vI 0, vI 0, .bool false])]) (aV := [f = f, f = f, f = f]) [0, 1, 2, 3, 4, 5, 6, 7, 8, 9, 10] [o_, o_, o_, ⟨[.at 0], none, none, none, none⟩, o_, o_, o_, o_, o_, ⟨[.at 0, .at 0], none, none, none, none⟩, o_] [4, 22] (fun _ => by kernel_rfl) ⟨rfl, rfl, rfl, trivial⟩ rfl rfl ?_
 refine aF.last rfl rfl ?_
 refine gC 1 [] [(0, A_ 2 b1 9)] [(2, [(0, vI (X.last + 1)), (1, vI (mode)), (4, vI (X.cS)), (5, vI (X.cZ))])] ?_
 refine NL (ai.np (NX (af.ret ?_)))
 exact ai.ret (v := .agg #[vI (X.last + 1), vI (mode), vI 0, vI 0, vI (X.cS), vI (X.cZ), vI 0, vI 0, .bool false]) (l := [pF f m t { X with last := X.last + 1 }]) (aV := [b1 = b1, b1 = b1, b1 = b1, b1 = b1, b1 = b1, b1 = b1, b1 = b1, b1 = b1, b1 = b1]) [.at 2, .at 2, .at 2, .at 2, .at 2, .at 2, .at 2, .at 2, .at 2] [0, 1] (fun _ => by kernel_rfl) ⟨rfl, rfl, rfl, rfl, rfl, rfl, rfl, rfl, rfl, trivial⟩ rfl (by kernel_rfl) (⟨rfl, rfl⟩)
end
section
open Go.RowKit Go.Maps HeapM TabM
attribute [local irreducible] aj aT af ai
abbrev sO (f : Nat) (L : HL) (d : Nat) (name) := ([(0, vP f), (1, vP (L.b d)), (2, .string name)] : Fr)
abbrev Lw (f : Nat) (L : HL) (d : Nat) (name) := ([(18, vP f), (19, vP (L.b d)), (20, .string name)] : Fr)
abbrev Lx (f : Nat) (L : HL) (d : Nat) (name) := ([(8, vP f), (9, vP (L.b d)), (10, .string name)] : Fr)
abbrev sP (f : Nat) (m : Nat) (t) (X : FM) (L : HL) (idx) (O : bM) (R : bR) := ([pF f m t X, pI m L idx, pO O L, pE O L, .abs R] : List HP)
abbrev Lz (S : aG) (tk : Nat) (L : HL) := ([(24, vI ((obj S.O tk).opens + 1)), (26, .pointer (some ⟨(L.b tk), 7, none⟩))] : Fr)
theorem lp {β : Bs} (S : aG) (L : HL) (f m t : Nat) (hI : Inv S) (d : Nat) (hd : Live S.idx ⟨d, 2⟩) (name : ByteArray) (hsz : name.size ≤ 1048576) (th : Th) (hlk : aS name (obj S.O d).ah = some th) :
    Spec Tryz.prog β 106 #[vP f, vP (L.b d), .string name] [pF f m t S.X, pO S.O L, pE S.O L, pI m L S.idx] (fun v l => v = .tuple #[] ∧ l = [pF f m t ((ar S d name th).X), pO ((ar S d name th).O) L, pE ((ar S d name th).O) L, pI m L ((ar S d name th).idx)]) := by
 have hX := hI.hX
 have hel : (obj S.O d).ah.length ≤ 8192 := hI.eM hd
 have hkd : (obj S.O d).kind = 2 := hI.kind hd
 refine Spec.enter Tryz.func106 rfl Tryz.ntmps106 (Nat.le_of_ble_eq_true rfl) (fun R => ?_)
 refine af.seq ?_
 obtain ⟨tk, kd⟩ := th; have hlv := (hI.ent hd hlk).2; have Qi := hI.ne hd hlk; rcases (hI.ob _ hlv).2.2 with e0 | e0 | e0 <;> simp only at e0 <;> subst e0
 ·have hkt : (obj S.O tk).kind = 1 := hI.kind hlv
  have hlb := hI.lb hlv; have hid := hI.ob _ hlv; have hop := hI.zX hlv; have hdl := hI.BN hlv; have mY := hI.FT hlv
  refine af.region ?_
  refine gK 3 (Lx f L d name) [] ?_
  refine gL [0, 1, 2] (gZ S.X f m t hX S.O L d hkd name hsz ⟨tk, 1⟩ hkt (by simp) hlk (hI.twice hd) (by omega) (by simp only at hlb ⊢; omega)) ?_
  rintro _ _ ⟨rfl, rfl⟩
  refine gK 1 [(6, .iface 89 (vP (L.b tk)))] [] ?_
  refine NS ?_
  have iF : (obj (aL S.X S.O d name ⟨tk, 1⟩) d).kind = 2 := (bX).trans (hkd)
  have j6 : (obj (aL S.X S.O d name ⟨tk, 1⟩) tk).kind = 1 := (bX).trans (hkt)
  have t7 : (obj (aL S.X S.O d name ⟨tk, 1⟩) tk).id = (obj S.O tk).id := cD (g := aP.id) (fun _ _ => rfl) (fun _ _ => rfl) (fun _ _ _ => rfl)
  have ud : (obj (aL S.X S.O d name ⟨tk, 1⟩) tk).opens = (obj S.O tk).opens := cD (g := aP.opens) (fun _ _ => rfl) (fun _ _ => rfl) (fun _ _ _ => rfl)
  have uf : (obj (aL S.X S.O d name ⟨tk, 1⟩) tk).data = (obj S.O tk).data := cD (g := aP.data) (fun _ _ => rfl) (fun _ _ => rfl) (fun _ _ _ => rfl)
  generalize bP : (aL S.X S.O d name ⟨tk, 1⟩) = bK at iF j6 t7 ud uf ⊢
  refine gK 1 [(12, .iface 89 (vP (L.b tk)))] [] ?_
  refine gL [] (cr (L.b tk)) ?_
  rintro _ _ ⟨rfl, rfl⟩
  refine gK 1 [(7, vP (L.b tk))] [] ?_
  refine NS ?_
  refine gK 5 [(18, .bool (decide (((obj bK tk).links : Int) = (0 : Int))))] [(3, v_ 1 (kD L j6))] ?_
  refine NN ?_
  refine af.bB (p := ((obj bK tk).links : Int) = (0 : Int)) (fun _ => by kernel_rfl) (fun lJ => ?_) (fun lJ => ?_)
  ·refine SR ?_
   refine gK 3 [(21, .pointer (some ⟨(L.b tk), 8, none⟩))] [] ?_
   refine pH 1 [(2, 1)] tk 8 (fun o => { o with gone := true }) j6 (fun cV cu => ?_)
   have y8 := ku cu iF
   have tY := ku cu j6
   have Gh : (obj cV tk).id = (obj S.O tk).id := fu aP.id cu t7
   have LA : (obj cV tk).opens = (obj S.O tk).opens := fu aP.opens cu ud
   have Pf : (obj cV tk).data = (obj S.O tk).data := fu aP.data cu uf
   refine NN (af.region ?_)
   refine gK 2 [(22, vP f), (23, .iface 89 (vP (L.b tk)))] [] ?_
   refine gL [1, 0, 3] (nP { S.X with ah := S.X.ah - 1 } f m t (hI.vm hd hlk) cV L S.idx hI.rise ⟨tk, 1⟩ tY (by simp) (by rw [LA]; exact hop.1) (fun _ => by rw [Gh, hid.1]; exact hlv) (by rw [Gh]; exact mY) (by rw [Pf]; exact hdl)) ?_
   rintro _ _ ⟨rfl, rfl⟩
   refine NL ?_
   exact RF (l := [pF f m t { S.X with ah := S.X.ah - 1, used := iL cV S.X.used ⟨tk, 1⟩ }, pO cV L, pE cV L, pI m L (iw cV S.idx ⟨tk, 1⟩)]) (.tuple #[]) [1, 0, 3, 2, 4] (⟨rfl, by subst cu; subst bP; rw [show ar S d name ⟨tk, 1⟩ = _ from qi lJ] <;> rfl⟩)
  refine af.skip ?_
  exact RF (l := [pF f m t { S.X with ah := S.X.ah - 1 }, pO bK L, pE bK L, pI m L S.idx]) (.tuple #[]) [0, 1, 2, 3, 4] (⟨rfl, by subst bP; rw [show ar S d name ⟨tk, 1⟩ = _ from qj lJ] <;> rfl⟩)
 ·have hkt : (obj S.O tk).kind = 2 := hI.kind hlv
  have hlb := hI.lb hlv; have hid := hI.ob _ hlv; have hop := hI.zX hlv; have hdl := hI.BN hlv; have mY := hI.FT hlv
  refine af.region ?_
  refine gK 3 (Lx f L d name) [] ?_
  refine gL [0, 1, 2] (gZ S.X f m t hX S.O L d hkd name hsz ⟨tk, 2⟩ hkt (by simp) hlk (hI.twice hd) (by omega) (by simp only at hlb ⊢; omega)) ?_
  rintro _ _ ⟨rfl, rfl⟩
  refine gK 1 [(6, .iface 96 (vP (L.b tk)))] [] ?_
  refine NS ?_
  have LB : (obj (aL S.X S.O d name ⟨tk, 2⟩) d).kind = 2 := (bX).trans (hkd)
  have y7 : (obj (aL S.X S.O d name ⟨tk, 2⟩) tk).kind = 2 := (bX).trans (hkt)
  have t7 : (obj (aL S.X S.O d name ⟨tk, 2⟩) tk).id = (obj S.O tk).id := cD (g := aP.id) (fun _ _ => rfl) (fun _ _ => rfl) (fun _ _ _ => rfl)
  have ud : (obj (aL S.X S.O d name ⟨tk, 2⟩) tk).opens = (obj S.O tk).opens := cD (g := aP.opens) (fun _ _ => rfl) (fun _ _ => rfl) (fun _ _ _ => rfl)
  have uf : (obj (aL S.X S.O d name ⟨tk, 2⟩) tk).data = (obj S.O tk).data := cD (g := aP.data) (fun _ _ => rfl) (fun _ _ => rfl) (fun _ _ _ => rfl)
  generalize bP : (aL S.X S.O d name ⟨tk, 2⟩) = bK at LB y7 t7 ud uf ⊢
  refine gK 1 [(12, .iface 96 (vP (L.b tk)))] [] ?_
  refine gL [] (cr (L.b tk)) ?_
  rintro _ _ ⟨rfl, rfl⟩
  refine gK 1 [(7, vP (L.b tk))] [] ?_
  refine NS ?_
  refine gK 5 [(18, .bool (decide (((obj bK tk).links : Int) = (0 : Int))))] [(3, v_ 1 (kD L y7))] ?_
  refine NN ?_
  refine af.bB (p := ((obj bK tk).links : Int) = (0 : Int)) (fun _ => by kernel_rfl) (fun lJ => ?_) (fun lJ => ?_)
  ·refine SR ?_
   refine gK 3 [(21, .pointer (some ⟨(L.b tk), 8, none⟩))] [] ?_
   refine pH 1 [(2, 1)] tk 8 (fun o => { o with gone := true }) y7 (fun cV cu => ?_)
   have Ez := ku cu LB
   have Js := ku cu y7
   have LC : (obj cV tk).id = (obj S.O tk).id := fu aP.id cu t7
   have Oq : (obj cV tk).opens = (obj S.O tk).opens := fu aP.opens cu ud
   have Ot : (obj cV tk).data = (obj S.O tk).data := fu aP.data cu uf
   refine NN (af.region ?_)
   refine gK 2 [(22, vP f), (23, .iface 96 (vP (L.b tk)))] [] ?_
   refine gL [1, 0, 3] (nP { S.X with ah := S.X.ah - 1 } f m t (hI.vm hd hlk) cV L S.idx hI.rise ⟨tk, 2⟩ Js (by simp) (by rw [Oq]; exact hop.1) (fun _ => by rw [LC, hid.1]; exact hlv) (by rw [LC]; exact mY) (by rw [Ot]; exact hdl)) ?_
   rintro _ _ ⟨rfl, rfl⟩
   refine NL ?_
   exact RF (l := [pF f m t { S.X with ah := S.X.ah - 1, used := iL cV S.X.used ⟨tk, 2⟩ }, pO cV L, pE cV L, pI m L (iw cV S.idx ⟨tk, 2⟩)]) (.tuple #[]) [1, 0, 3, 2, 4] (⟨rfl, by subst cu; subst bP; rw [show ar S d name ⟨tk, 2⟩ = _ from qi lJ] <;> rfl⟩)
  refine af.skip ?_
  exact RF (l := [pF f m t { S.X with ah := S.X.ah - 1 }, pO bK L, pE bK L, pI m L S.idx]) (.tuple #[]) [0, 1, 2, 3, 4] (⟨rfl, by subst bP; rw [show ar S d name ⟨tk, 2⟩ = _ from qj lJ] <;> rfl⟩)
 have hkt : (obj S.O tk).kind = 3 := hI.kind hlv
 have hlb := hI.lb hlv; have hid := hI.ob _ hlv; have hop := hI.zX hlv; have hdl := hI.BN hlv; have mY := hI.FT hlv
 refine af.region ?_
 refine gK 3 (Lx f L d name) [] ?_
 refine gL [0, 1, 2] (gZ S.X f m t hX S.O L d hkd name hsz ⟨tk, 3⟩ hkt (by simp) hlk (hI.twice hd) (by omega) (by simp only at hlb ⊢; omega)) ?_
 rintro _ _ ⟨rfl, rfl⟩
 refine gK 1 [(6, .iface 93 (vP (L.b tk)))] [] ?_
 refine NS ?_
 have Jx : (obj (aL S.X S.O d name ⟨tk, 3⟩) d).kind = 2 := (bX).trans (hkd)
 have xR : (obj (aL S.X S.O d name ⟨tk, 3⟩) tk).kind = 3 := (bX).trans (hkt)
 have t7 : (obj (aL S.X S.O d name ⟨tk, 3⟩) tk).id = (obj S.O tk).id := cD (g := aP.id) (fun _ _ => rfl) (fun _ _ => rfl) (fun _ _ _ => rfl)
 have ud : (obj (aL S.X S.O d name ⟨tk, 3⟩) tk).opens = (obj S.O tk).opens := cD (g := aP.opens) (fun _ _ => rfl) (fun _ _ => rfl) (fun _ _ _ => rfl)
 have uf : (obj (aL S.X S.O d name ⟨tk, 3⟩) tk).data = (obj S.O tk).data := cD (g := aP.data) (fun _ _ => rfl) (fun _ _ => rfl) (fun _ _ _ => rfl)
 generalize bP : (aL S.X S.O d name ⟨tk, 3⟩) = bK at Jx xR t7 ud uf ⊢
 refine gK 1 [(12, .iface 93 (vP (L.b tk)))] [] ?_
 refine gL [] (cr (L.b tk)) ?_
 rintro _ _ ⟨rfl, rfl⟩
 refine gK 1 [(7, vP (L.b tk))] [] ?_
 refine NS ?_
 refine gK 5 [(18, .bool (decide (((obj bK tk).links : Int) = (0 : Int))))] [(3, v_ 1 (kD L xR))] ?_
 refine NN ?_
 refine af.bB (p := ((obj bK tk).links : Int) = (0 : Int)) (fun _ => by kernel_rfl) (fun lJ => ?_) (fun lJ => ?_)
 ·refine SR ?_
  refine gK 3 [(21, .pointer (some ⟨(L.b tk), 8, none⟩))] [] ?_
  refine pH 1 [(2, 1)] tk 8 (fun o => { o with gone := true }) xR (fun cV cu => ?_)
  have M4 := ku cu Jx
  have xS := ku cu xR
  have LD : (obj cV tk).id = (obj S.O tk).id := fu aP.id cu t7
  have Ou : (obj cV tk).opens = (obj S.O tk).opens := fu aP.opens cu ud
  have Ov : (obj cV tk).data = (obj S.O tk).data := fu aP.data cu uf
  refine NN (af.region ?_)
  refine gK 2 [(22, vP f), (23, .iface 93 (vP (L.b tk)))] [] ?_
  refine gL [1, 0, 3] (nP { S.X with ah := S.X.ah - 1 } f m t (hI.vm hd hlk) cV L S.idx hI.rise ⟨tk, 3⟩ xS (by simp) (by rw [Ou]; exact hop.1) (fun _ => by rw [LD, hid.1]; exact hlv) (by rw [LD]; exact mY) (by rw [Ov]; exact hdl)) ?_
  rintro _ _ ⟨rfl, rfl⟩
  refine NL ?_
  exact RF (l := [pF f m t { S.X with ah := S.X.ah - 1, used := iL cV S.X.used ⟨tk, 3⟩ }, pO cV L, pE cV L, pI m L (iw cV S.idx ⟨tk, 3⟩)]) (.tuple #[]) [1, 0, 3, 2, 4] (⟨rfl, by subst cu; subst bP; rw [show ar S d name ⟨tk, 3⟩ = _ from qi lJ] <;> rfl⟩)
 refine af.skip ?_
 exact RF (l := [pF f m t { S.X with ah := S.X.ah - 1 }, pO bK L, pE bK L, pI m L S.idx]) (.tuple #[]) [0, 1, 2, 3, 4] (⟨rfl, by subst bP; rw [show ar S d name ⟨tk, 3⟩ = _ from qj lJ] <;> rfl⟩)
theorem qq {β : Bs} (S : aG) (L : HL) (f m t : Nat) (hI : Inv S) (d : Nat) (hd : Live S.idx ⟨d, 2⟩) (name : ByteArray) (hsz : name.size ≤ 1048576) :
    Spec Tryz.prog β 54 #[vP f, vP (L.b d), .string name] [pF f m t S.X, pI m L S.idx, pE S.O L, pO S.O L] (fun v l => v = vI (bO S.X S.O S.idx d name) ∧ l = [pF f m t S.X, pI m L S.idx, pE S.O L, pO S.O L]) := by
 have hX := hI.hX
 have hel : (obj S.O d).ah.length ≤ 8192 := hI.eM hd
 have hkd : (obj S.O d).kind = 2 := hI.kind hd
 refine Spec.enter Tryz.func54 rfl Tryz.ntmps54 (Nat.le_of_ble_eq_true rfl) (fun R => ?_)
 refine af.seq ?_
 rcases hI.jS hd name with hlk | ⟨tk, hlk, hlv⟩ | ⟨tk, hlk, hlv⟩ | ⟨tk, hlk, hlv⟩
 ·refine af.region ?_
  refine gK 1 [] [] ?_
  refine NN (af.seq (SR ?_))
  refine gK 5 [(10, .map (some (L.m d))), (11, .string name)] [(3, v_ 3 (bC L hkd))] ?_
  refine fK 2 hkd hlk ?_
  refine gK 1 [(13, .bool false)] [] ?_
  refine NN ?_
  refine CF ?_
  refine af.skip (NX (af.seq (SR ?_)))
  refine gK 1 [(14, vP f)] [] ?_
  refine gL [0, 1] (Ce S.X f m t L S.idx) ?_
  rintro _ _ ⟨rfl, rfl⟩
  refine gK 1 [(16, .bool (!(decide (((S.idx.length : Int) < S.X.cN ∧ S.X.last < 1099511627776 ∧ S.X.ah < 8192)))))] [] ?_
  refine NN ?_
  refine af.ct (p := ((S.idx.length : Int) < S.X.cN ∧ S.X.last < 1099511627776 ∧ S.X.ah < 8192)) (fun _ => by kernel_rfl) (fun xg => ?_) (fun xg => ?_)
  ·refine SR ?_
   refine gK 1 [(6, vI 177)] [] ?_
   refine NN (af.ret (ai.aq ?_))
   exact RT (vI 177) [0, 1, 2, 3, 4] (⟨congrArg (Value.int .i64) (Eq.symm (show bO S.X S.O S.idx d name = _ from (if_pos hlk).trans (if_neg xg))), rfl⟩)
  refine af.skip (NX (SR ?_))
  refine gK 1 [(6, vI 0)] [] ?_
  refine NN (af.ret ?_)
  exact RT (vI 0) [0, 1, 2, 3, 4] (⟨congrArg (Value.int .i64) (Eq.symm (show bO S.X S.O S.idx d name = _ from (if_pos hlk).trans (if_pos xg))), rfl⟩)
 ·have hkt : (obj S.O tk).kind = 1 := hI.kind hlv
  refine af.region ?_
  refine gK 1 [] [] ?_
  refine NN (af.seq (SR ?_))
  refine gK 5 [(10, .map (some (L.m d))), (11, .string name)] [(3, v_ 3 (bC L hkd))] ?_
  refine fK 2 hkd hlk ?_
  refine gK 1 [(13, .bool true)] [] ?_
  refine NN ?_
  refine CT ?_
  refine SR ?_
  refine gK 1 [(6, vI 171)] [] ?_
  refine NN (af.ret (ai.aq ?_))
  exact RT (vI 171) [0, 1, 2, 3, 4] (⟨congrArg (Value.int .i64) (Eq.symm (show bO S.X S.O S.idx d name = _ from if_neg (by rw [hlk]; simp))), rfl⟩)
 ·have hkt : (obj S.O tk).kind = 2 := hI.kind hlv
  refine af.region ?_
  refine gK 1 [] [] ?_
  refine NN (af.seq (SR ?_))
  refine gK 5 [(10, .map (some (L.m d))), (11, .string name)] [(3, v_ 3 (bC L hkd))] ?_
  refine fK 2 hkd hlk ?_
  refine gK 1 [(13, .bool true)] [] ?_
  refine NN ?_
  refine CT ?_
  refine SR ?_
  refine gK 1 [(6, vI 171)] [] ?_
  refine NN (af.ret (ai.aq ?_))
  exact RT (vI 171) [0, 1, 2, 3, 4] (⟨congrArg (Value.int .i64) (Eq.symm (show bO S.X S.O S.idx d name = _ from if_neg (by rw [hlk]; simp))), rfl⟩)
 have hkt : (obj S.O tk).kind = 3 := hI.kind hlv
 refine af.region ?_
 refine gK 1 [] [] ?_
 refine NN (af.seq (SR ?_))
 refine gK 5 [(10, .map (some (L.m d))), (11, .string name)] [(3, v_ 3 (bC L hkd))] ?_
 refine fK 2 hkd hlk ?_
 refine gK 1 [(13, .bool true)] [] ?_
 refine NN ?_
 refine CT ?_
 refine SR ?_
 refine gK 1 [(6, vI 171)] [] ?_
 refine NN (af.ret (ai.aq ?_))
 exact RT (vI 171) [0, 1, 2, 3, 4] (⟨congrArg (Value.int .i64) (Eq.symm (show bO S.X S.O S.idx d name = _ from if_neg (by rw [hlk]; simp))), rfl⟩)
theorem Ki {β : Bs} (s : ByteArray) (hsz : s.size ≤ 1048576) :
    Spec Tryz.prog β 105 #[.string s] [] (fun v l => v = vI (kG s) ∧ l = []) := by
 refine Spec.enter Tryz.func105 rfl Tryz.ntmps105 (Nat.le_of_ble_eq_true rfl) (fun R => ?_)
 refine SR ?_
 refine gK 1 [] [] ?_
 refine NN (af.seq (af.block (SR ?_)))
 refine gK 3 [(3, .bool (decide ((s : ByteArray) = ⟨#[]⟩)))] [(1, p_ ⟨[], none, none, none, some (.bool (decide ((s : ByteArray) = ⟨#[]⟩)))⟩ [(Value.bool ((s : ByteArray).toList == (⟨#[]⟩ : ByteArray).toList)) = (.bool (decide ((s : ByteArray) = ⟨#[]⟩)))] ⟨qO _ _, trivial⟩)] ?_
 refine NN ?_
 refine af.bB (p := (s : ByteArray) = ⟨#[]⟩) (fun _ => by kernel_rfl) (fun h3 => ?_) (fun h3 => ?_)
 ·refine SR ?_
  refine gK 1 [(2, vI 90)] [] ?_
  refine NN (af.ret (ai.aE (ai.aq ?_)))
  exact RT (vI 90) [0] (⟨congrArg (Value.int .i64) (Eq.symm (show kG s = _ from if_pos h3)), rfl⟩)
 refine SR ?_
 refine gK 4 [(6, .bool (decide (((((s : ByteArray).size : Nat) : Int) : Int) > (4096 : Int))))] [] ?_
 refine NN ?_
 refine af.bB (p := ((((s : ByteArray).size : Nat) : Int) : Int) > (4096 : Int)) (fun _ => by kernel_rfl) (fun h6 => ?_) (fun h6 => ?_)
 ·refine SR ?_
  refine gK 1 [(2, vI 93)] [] ?_
  refine NN (af.ret (ai.aE (ai.aq ?_)))
  exact RT (vI 93) [0] (⟨congrArg (Value.int .i64) (Eq.symm (show kG s = _ from (if_neg h3).trans (if_pos (by omega)))), rfl⟩)
 refine SR ?_
 refine gK 1 [(11, .string s)] [] ?_
 refine gL [] (CZ s) ?_
 rintro _ _ ⟨⟨x, rfl, hx⟩, rfl⟩
 refine gK 2 [(10, .bool (decide ((x : Int) ≥ (0 : Int))))] [] ?_
 refine NN ?_
 refine af.bB (p := (x : Int) ≥ (0 : Int)) (fun _ => by kernel_rfl) (fun h10 => ?_) (fun h10 => ?_)
 ·refine SR ?_
  refine gK 1 [(2, vI 91)] [] ?_
  refine NN (af.ret (ai.aE (ai.aq ?_)))
  exact RT (vI 91) [0] (⟨congrArg (Value.int .i64) (Eq.symm (show kG s = _ from (if_neg h3).trans ((if_neg (by omega)).trans (if_neg (hx.1 (by omega)))))), rfl⟩)
 refine af.skip (ai.aQ (NX (SR ?_)))
 refine gK 1 [(2, vI 0)] [] ?_
 refine NN (af.ret ?_)
 exact RT (vI 0) [0] (⟨congrArg (Value.int .i64) (Eq.symm (show kG s = _ from (if_neg h3).trans ((if_neg (by omega)).trans (if_pos (Classical.byContradiction (fun hn => absurd (hx.2 hn) (by omega))))))), rfl⟩)
theorem pK {β : Bs} (S : aG) (L : HL) (f m t : Nat) (th : Th) (hkt : (obj S.O th.k).kind = th.kind) (h3 : th.kind = 1 ∨ th.kind = 2 ∨ th.kind = 3) (hop : 0 ≤ (obj S.O th.k).opens ∧ (obj S.O th.k).opens ≤ 1048576) :
    Spec Tryz.prog β 132 #[vP f, (cI L th)] [pF f m t S.X, pT t S.X.cH S.au L S.us, pO S.O L] (fun v l => v = .tuple #[vI (openM S th).1, vI (openM S th).2.1] ∧ l = [pF f m t S.X, pT t S.X.cH ((openM S th).2.2.au) L ((openM S th).2.2.us), pO ((openM S th).2.2.O) L]) := by
 refine Spec.enter Tryz.func132 rfl Tryz.ntmps132 (Nat.le_of_ble_eq_true rfl) (fun R => ?_)
 refine af.seq ?_
 obtain ⟨tk, kd⟩ := th; simp only at hkt h3; rcases Int.lt_or_le (S.us.length : Int) S.X.cH with qt | qt <;> rcases h3 with e0 | e0 | e0 <;> subst e0
 ·replace hkt : (obj S.O tk).kind = 1 := hkt
  replace hop : 0 ≤ (obj S.O tk).opens ∧ (obj S.O tk).opens ≤ 1048576 := hop
  refine af.region ?_
  refine gK 2 [] [] ?_
  refine NS ?_
  refine gK 5 [(12, vP t), (13, .iface 89 (vP (L.b tk)))] [(3, a_ 0 f)] ?_
  refine gL [1] ((vZ t S.X.cH S.au (aJ L S.us) (cI L ⟨tk, 1⟩) (by rw [mT]; exact qt)).mono (fun v l h => yS h)) ?_
  rintro _ _ ⟨rfl, rfl⟩
  refine gK 5 [(6, vI ((TabM.least S.us))), (7, vI 0)] [] ?_
  refine NN (af.seq (SR ?_))
  refine gK 2 [(18, .bool true)] [] ?_
  refine NN ?_
  refine CT ?_
  refine af.region ?_
  refine gK 1 [(19, .iface 89 (vP (L.b tk)))] [] ?_
  refine gL [] (cr (L.b tk)) ?_
  rintro _ _ ⟨rfl, rfl⟩
  refine gK 6 (Lz S tk L) [(2, v_ 2 (iH L hkt)), (3, p_ ⟨[], none, none, none, some (vI ((obj S.O tk).opens + 1))⟩ [(Value.int .i64 (IntKind.wrap .i64 ((obj S.O tk).opens + 1))) = (.int .i64 ((obj S.O tk).opens + 1))] ⟨bI (by omega) (by omega) (by omega), trivial⟩)] ?_
  refine pH 2 [] tk 7 (fun o => { o with opens := o.opens + 1 }) hkt (fun bK bP => ?_)
  have P6 := ku bP hkt
  refine NS ?_
  refine gK 4 [(4, vI ((TabM.least S.us))), (5, vI 0)] [] ?_
  refine NN (af.ret ?_)
  exact RT (l := [pF f m t S.X, pT t S.X.cH (max S.au ((S.us.length : Int) + 1)) L (ins (TabM.least S.us) ⟨tk, 1⟩ S.us), pO bK L]) (.tuple #[vI ((TabM.least S.us)), vI 0]) [1, 0, 2, 3] (by subst bP; rw [show openM S ⟨tk, 1⟩ = _ from gX qt] <;> exact ⟨rfl, rfl⟩)
 ·replace hkt : (obj S.O tk).kind = 2 := hkt
  replace hop : 0 ≤ (obj S.O tk).opens ∧ (obj S.O tk).opens ≤ 1048576 := hop
  refine af.region ?_
  refine gK 2 [] [] ?_
  refine NS ?_
  refine gK 5 [(12, vP t), (13, .iface 96 (vP (L.b tk)))] [(3, a_ 0 f)] ?_
  refine gL [1] ((vZ t S.X.cH S.au (aJ L S.us) (cI L ⟨tk, 2⟩) (by rw [mT]; exact qt)).mono (fun v l h => yS h)) ?_
  rintro _ _ ⟨rfl, rfl⟩
  refine gK 5 [(6, vI ((TabM.least S.us))), (7, vI 0)] [] ?_
  refine NN (af.seq (SR ?_))
  refine gK 2 [(18, .bool true)] [] ?_
  refine NN ?_
  refine CT ?_
  refine af.region ?_
  refine gK 1 [(19, .iface 96 (vP (L.b tk)))] [] ?_
  refine gL [] (cr (L.b tk)) ?_
  rintro _ _ ⟨rfl, rfl⟩
  refine gK 6 (Lz S tk L) [(2, v_ 2 (iH L hkt)), (3, p_ ⟨[], none, none, none, some (vI ((obj S.O tk).opens + 1))⟩ [(Value.int .i64 (IntKind.wrap .i64 ((obj S.O tk).opens + 1))) = (.int .i64 ((obj S.O tk).opens + 1))] ⟨bI (by omega) (by omega) (by omega), trivial⟩)] ?_
  refine pH 2 [] tk 7 (fun o => { o with opens := o.opens + 1 }) hkt (fun bK bP => ?_)
  have Ju := ku bP hkt
  refine NS ?_
  refine gK 4 [(4, vI ((TabM.least S.us))), (5, vI 0)] [] ?_
  refine NN (af.ret ?_)
  exact RT (l := [pF f m t S.X, pT t S.X.cH (max S.au ((S.us.length : Int) + 1)) L (ins (TabM.least S.us) ⟨tk, 2⟩ S.us), pO bK L]) (.tuple #[vI ((TabM.least S.us)), vI 0]) [1, 0, 2, 3] (by subst bP; rw [show openM S ⟨tk, 2⟩ = _ from gX qt] <;> exact ⟨rfl, rfl⟩)
 ·replace hkt : (obj S.O tk).kind = 3 := hkt
  replace hop : 0 ≤ (obj S.O tk).opens ∧ (obj S.O tk).opens ≤ 1048576 := hop
  refine af.region ?_
  refine gK 2 [] [] ?_
  refine NS ?_
  refine gK 5 [(12, vP t), (13, .iface 93 (vP (L.b tk)))] [(3, a_ 0 f)] ?_
  refine gL [1] ((vZ t S.X.cH S.au (aJ L S.us) (cI L ⟨tk, 3⟩) (by rw [mT]; exact qt)).mono (fun v l h => yS h)) ?_
  rintro _ _ ⟨rfl, rfl⟩
  refine gK 5 [(6, vI ((TabM.least S.us))), (7, vI 0)] [] ?_
  refine NN (af.seq (SR ?_))
  refine gK 2 [(18, .bool true)] [] ?_
  refine NN ?_
  refine CT ?_
  refine af.region ?_
  refine gK 1 [(19, .iface 93 (vP (L.b tk)))] [] ?_
  refine gL [] (cr (L.b tk)) ?_
  rintro _ _ ⟨rfl, rfl⟩
  refine gK 6 (Lz S tk L) [(2, v_ 2 (iH L hkt)), (3, p_ ⟨[], none, none, none, some (vI ((obj S.O tk).opens + 1))⟩ [(Value.int .i64 (IntKind.wrap .i64 ((obj S.O tk).opens + 1))) = (.int .i64 ((obj S.O tk).opens + 1))] ⟨bI (by omega) (by omega) (by omega), trivial⟩)] ?_
  refine pH 2 [] tk 7 (fun o => { o with opens := o.opens + 1 }) hkt (fun bK bP => ?_)
  have AP := ku bP hkt
  refine NS ?_
  refine gK 4 [(4, vI ((TabM.least S.us))), (5, vI 0)] [] ?_
  refine NN (af.ret ?_)
  exact RT (l := [pF f m t S.X, pT t S.X.cH (max S.au ((S.us.length : Int) + 1)) L (ins (TabM.least S.us) ⟨tk, 3⟩ S.us), pO bK L]) (.tuple #[vI ((TabM.least S.us)), vI 0]) [1, 0, 2, 3] (by subst bP; rw [show openM S ⟨tk, 3⟩ = _ from gX qt] <;> exact ⟨rfl, rfl⟩)
 ·replace hkt : (obj S.O tk).kind = 1 := hkt
  replace hop : 0 ≤ (obj S.O tk).opens ∧ (obj S.O tk).opens ≤ 1048576 := hop
  refine af.region ?_
  refine gK 2 [] [] ?_
  refine NS ?_
  refine gK 5 [(12, vP t), (13, .iface 89 (vP (L.b tk)))] [(3, a_ 0 f)] ?_
  refine gL [1] (tL t S.X.cH S.au (aJ L S.us) (cI L ⟨tk, 1⟩) (by rw [mT]; exact qt)) ?_
  rintro _ _ ⟨rfl, rfl⟩
  refine gK 5 [(6, vI 0), (7, vI 130)] [] ?_
  refine NN (af.seq (SR ?_))
  refine gK 2 [(18, .bool false)] [] ?_
  refine NN ?_
  refine CF ?_
  refine af.skip (NX (SR ?_))
  refine gK 4 [(4, vI 0), (5, vI 130)] [] ?_
  refine NN (af.ret ?_)
  exact RT (.tuple #[vI 0, vI 130]) [1, 0, 2, 3] (by skip; rw [show openM S ⟨tk, 1⟩ = _ from jj (by omega)] <;> exact ⟨rfl, rfl⟩)
 ·replace hkt : (obj S.O tk).kind = 2 := hkt
  replace hop : 0 ≤ (obj S.O tk).opens ∧ (obj S.O tk).opens ≤ 1048576 := hop
  refine af.region ?_
  refine gK 2 [] [] ?_
  refine NS ?_
  refine gK 5 [(12, vP t), (13, .iface 96 (vP (L.b tk)))] [(3, a_ 0 f)] ?_
  refine gL [1] (tL t S.X.cH S.au (aJ L S.us) (cI L ⟨tk, 2⟩) (by rw [mT]; exact qt)) ?_
  rintro _ _ ⟨rfl, rfl⟩
  refine gK 5 [(6, vI 0), (7, vI 130)] [] ?_
  refine NN (af.seq (SR ?_))
  refine gK 2 [(18, .bool false)] [] ?_
  refine NN ?_
  refine CF ?_
  refine af.skip (NX (SR ?_))
  refine gK 4 [(4, vI 0), (5, vI 130)] [] ?_
  refine NN (af.ret ?_)
  exact RT (.tuple #[vI 0, vI 130]) [1, 0, 2, 3] (by skip; rw [show openM S ⟨tk, 2⟩ = _ from jj (by omega)] <;> exact ⟨rfl, rfl⟩)
 replace hkt : (obj S.O tk).kind = 3 := hkt
 replace hop : 0 ≤ (obj S.O tk).opens ∧ (obj S.O tk).opens ≤ 1048576 := hop
 refine af.region ?_
 refine gK 2 [] [] ?_
 refine NS ?_
 refine gK 5 [(12, vP t), (13, .iface 93 (vP (L.b tk)))] [(3, a_ 0 f)] ?_
 refine gL [1] (tL t S.X.cH S.au (aJ L S.us) (cI L ⟨tk, 3⟩) (by rw [mT]; exact qt)) ?_
 rintro _ _ ⟨rfl, rfl⟩
 refine gK 5 [(6, vI 0), (7, vI 130)] [] ?_
 refine NN (af.seq (SR ?_))
 refine gK 2 [(18, .bool false)] [] ?_
 refine NN ?_
 refine CF ?_
 refine af.skip (NX (SR ?_))
 refine gK 4 [(4, vI 0), (5, vI 130)] [] ?_
 refine NN (af.ret ?_)
 exact RT (.tuple #[vI 0, vI 130]) [1, 0, 2, 3] (by skip; rw [show openM S ⟨tk, 3⟩ = _ from jj (by omega)] <;> exact ⟨rfl, rfl⟩)
theorem cX {β : Bs} (S : aG) (L : HL) (f m t : Nat) (hI : Inv S) (h : Int) (hw : (Lit.int .i64 h).wf = true) (name : ByteArray) (hsz : name.size ≤ 1048576) (need : Int) :
    Spec Tryz.prog β 134 #[vP f, vI (h), .string name, vI (need)] [pF f m t S.X, pT t S.X.cH S.au L S.us, pO S.O L] (fun v l => v = Oe L (cF S.O S.us h name need) ∧ l = [pF f m t S.X, pT t S.X.cH S.au L S.us, pO S.O L]) := by
 refine Spec.enter Tryz.func134 rfl Tryz.ntmps134 (Nat.le_of_ble_eq_true rfl) (fun R => ?_)
 refine af.seq ?_
 rcases hI.hand h with cE | ⟨tk, cE, hlv⟩ | ⟨tk, cE, hlv⟩
 ·refine af.region ?_
  refine gK 2 [] [] ?_
  refine NS ?_
  refine gK 5 [(18, vP t), (19, vI (h))] [(3, a_ 0 f)] ?_
  refine gL [1] (nK t S.X.cH S.au (aJ L S.us) h hw (mU cE)) ?_
  rintro _ _ ⟨rfl, rfl⟩
  refine gK 5 [(10, .nilIface), (11, vI 131)] [] ?_
  refine NN (af.seq (SR ?_))
  refine gK 2 [(24, .bool true)] [] ?_
  refine NN ?_
  refine CT ?_
  refine SR ?_
  refine gK 3 [(8, .pointer none), (9, vI 131)] [] ?_
  refine NN (af.ret (ai.aq ?_))
  exact RT (.tuple #[.pointer none, vI 131]) [1, 0, 2, 3] (⟨by rw [show cF S.O S.us h name need = .error 131 by unfold cF; rw [cE]]; rfl, rfl⟩)
 ·have hkt : (obj S.O tk).kind = 1 := hI.kind hlv
  refine af.region ?_
  refine gK 2 [] [] ?_
  refine NS ?_
  refine gK 5 [(18, vP t), (19, vI (h))] [(3, a_ 0 f)] ?_
  refine gL [1] (ju t S.X.cH S.au (aJ L S.us) h hw (cI L ⟨tk, 1⟩) (iT cE)) ?_
  rintro _ _ ⟨rfl, rfl⟩
  refine gK 5 [(10, .iface 89 (vP (L.b tk))), (11, vI 0)] [] ?_
  refine NN (af.seq (SR ?_))
  refine gK 2 [(24, .bool false)] [] ?_
  refine NN ?_
  refine CF ?_
  refine af.skip (NX (SR ?_))
  refine gK 7 [(12, .pointer none), (13, .bool false)] [] ?_
  refine NN (af.seq (af.block (SR ?_)))
  refine gK 3 [(31, .bool true)] [] ?_
  refine NN ?_
  refine CT ?_
  refine SR ?_
  refine gK 2 [(8, .pointer none), (9, vI 173)] [] ?_
  refine NN (af.ret (ai.aE (ai.aq ?_)))
  exact RT (.tuple #[.pointer none, vI 173]) [1, 0, 2, 3] (⟨by rw [show cF S.O S.us h name need = .error 173 by unfold cF; rw [cE]; exact if_neg (by simp)]; rfl, rfl⟩)
 have hkt : (obj S.O tk).kind = 2 := hI.kind hlv
 refine af.region ?_
 refine gK 2 [] [] ?_
 refine NS ?_
 refine gK 5 [(18, vP t), (19, vI (h))] [(3, a_ 0 f)] ?_
 refine gL [1] (ju t S.X.cH S.au (aJ L S.us) h hw (cI L ⟨tk, 2⟩) (iT cE)) ?_
 rintro _ _ ⟨rfl, rfl⟩
 refine gK 5 [(10, .iface 96 (vP (L.b tk))), (11, vI 0)] [] ?_
 refine NN (af.seq (SR ?_))
 refine gK 2 [(24, .bool false)] [] ?_
 refine NN ?_
 refine CF ?_
 refine af.skip (NX (SR ?_))
 refine gK 7 [(12, vP (L.b tk)), (13, .bool true)] [] ?_
 refine NN (af.seq (af.block (SR ?_)))
 refine gK 3 [(31, .bool false)] [] ?_
 refine NN ?_
 refine CF ?_
 refine SR ?_
 refine gK 6 [(34, .bool (obj S.O tk).gone)] [(4, v_ 2 (kM L hkt))] ?_
 refine NN ?_
 refine af.cond (b := (obj S.O tk).gone) (fun _ => by kernel_rfl) (fun vu => ?_) (fun vu => ?_)
 ·refine SR ?_
  refine gK 2 [(8, .pointer none), (9, vI 170)] [] ?_
  refine NN (af.ret (ai.aE (ai.aq ?_)))
  exact RT (.tuple #[.pointer none, vI 170]) [1, 0, 2, 3] (⟨by rw [show cF S.O S.us h name need = .error 170 by unfold cF; rw [cE]; exact (if_pos rfl).trans (if_pos vu)]; rfl, rfl⟩)
 refine SR ?_
 refine gK 1 [(41, .string name)] [] ?_
 refine gL [] (mq name hsz) ?_
 rintro _ _ ⟨rfl, rfl⟩
 refine gK 2 [(40, .bool (!(decide (bw name))))] [] ?_
 refine NN ?_
 refine af.ct (p := bw name) (fun _ => by kernel_rfl) (fun Jy => ?_) (fun Jy => ?_)
 ·refine SR ?_
  refine gK 2 [(8, .pointer none), (9, vI 95)] [] ?_
  refine NN (af.ret (ai.aE (ai.aq ?_)))
  exact RT (.tuple #[.pointer none, vI 95]) [1, 0, 2, 3] (⟨by rw [show cF S.O S.us h name need = .error 95 by unfold cF; rw [cE]; exact (if_pos rfl).trans ((if_neg (by rw [vu]; decide)).trans (if_neg Jy))]; rfl, rfl⟩)
 refine SR ?_
 refine gK 10 [(44, .bool (!(decide ((bits BinOp.and .i64 ((obj S.O tk).mode) need : Int) = (need : Int)))))] [(4, v_ 2 (Lr L hkt))] ?_
 refine NN ?_
 refine af.ct (p := (bits BinOp.and .i64 ((obj S.O tk).mode) need : Int) = (need : Int)) (fun _ => by kernel_rfl) (fun Fo => ?_) (fun Fo => ?_)
 ·refine SR ?_
  refine gK 2 [(8, .pointer none), (9, vI 175)] [] ?_
  refine NN (af.ret (ai.aE (ai.aq ?_)))
  exact RT (.tuple #[.pointer none, vI 175]) [1, 0, 2, 3] (⟨by rw [show cF S.O S.us h name need = .error 175 by unfold cF; rw [cE]; exact (if_pos rfl).trans ((if_neg (by rw [vu]; decide)).trans ((if_pos Jy).trans (if_neg Fo)))]; rfl, rfl⟩)
 refine af.skip (ai.aQ (NX (SR ?_)))
 refine gK 3 [(8, vP (L.b tk)), (9, vI 0)] [] ?_
 refine NN (af.ret ?_)
 exact RT (.tuple #[vP (L.b tk), vI 0]) [1, 0, 2, 3] (⟨by rw [show cF S.O S.us h name need = .ok tk by unfold cF; rw [cE]; exact (if_pos rfl).trans ((if_neg (by rw [vu]; decide)).trans ((if_pos Jy).trans (if_pos Fo)))]; rfl, rfl⟩)
theorem Kj {β : Bs} (X : FM) (f m t : Nat) (hX : 0 ≤ X.ah ∧ X.ah ≤ 1048576 ∧ -1125899906842624 ≤ X.used ∧ X.used ≤ 1125899906842624 ∧ 0 ≤ X.last ∧ X.last ≤ 1125899906842624) (O : bM) (L : HL) (d : Nat) (hkd : (obj O d).kind = 2) (name : ByteArray) (hsz : name.size ≤ 1048576) (hno : aS name (obj O d).ah = none) (hel : (obj O d).ah.length ≤ 1048576) (idx : Used Th) (hil : idx.length ≤ 1048576) (th : Th) (hkt : (obj O th.k).kind = th.kind) (h3 : th.kind = 1 ∨ th.kind = 2 ∨ th.kind = 3) (hb : 0 ≤ (obj O th.k).links ∧ (obj O th.k).links ≤ 1048576) (hni : TabM.get idx (obj O th.k).id = none) (hw : (Lit.int .i64 (obj O th.k).id).wf = true) :
    Spec Tryz.prog β 56 #[vP f, vP (L.b d), .string name, (cI L th)] [pF f m t X, pI m L idx, pO O L, pE O L] (fun v l => v = .tuple #[] ∧ l = [pF f m t { X with ah := X.ah + 1 }, pI m L (ins (obj O th.k).id th idx), pO (br X O d name th) L, pE (br X O d name th) L]) := by
 refine Spec.enter Tryz.func56 rfl Tryz.ntmps56 (Nat.le_of_ble_eq_true rfl) (fun R => ?_)
 refine af.seq ?_
 obtain ⟨tk, kd⟩ := th; simp only at hkt h3; rcases h3 with rfl | rfl | rfl
 ·replace hkt : (obj O tk).kind = 1 := hkt
  replace hni : TabM.get idx (obj O tk).id = none := hni
  replace hw : (Lit.int .i64 (obj O tk).id).wf = true := hw
  refine af.bZ (S := (sP f m t X L idx O R)) [0, 1, 2, 3, 4, 9, 5, 6, 7, 8, 10] 6 [0, 1, 2, 3, 4] (by kernel_rfl) (by kernel_rfl) rfl (by kernel_rfl) ?_
  refine aF.reads (r := 0) (l := [5, 6, 7, 8, 10]) (fr' := (sO f L d name ++ [(3, .iface 89 (vP (L.b tk))), (11, .map (some m)), (12, .iface 89 (vP (L.b tk))), (17, .iface 89 (vP (L.b tk)))])) (aV := [f = f]) [0, 1, 2, 3, 4, 9] [o_, o_, o_, ⟨[.at 0], none, none, none, none⟩, o_, o_] [0, 1, 2, 3, 11, 12, 17] (fun _ => by kernel_rfl) ⟨rfl, trivial⟩ rfl rfl ?_
  refine mL [0, 1, 2, 3, 4] [] (cr (L.b tk)) ?_ (by rintro _ _ ⟨rfl, rfl⟩; rfl)
  rintro _ _ ⟨rfl, rfl⟩
  refine aF.cut (ι := Unit) (fr' := fun (_ : Unit) => (sO f L d name ++ [(3, .iface 89 (vP (L.b tk))), (11, .map (some m)), (14, vP (L.b tk)), (17, .iface 89 (vP (L.b tk)))])) (hp' := fun (_ : Unit) => (sP f m t X L idx O R)) [0, 1, 2, 3, 4] rfl rfl ?_ rfl (fun _ => by kernel_rfl) ?_
  ·refine gK 1 [(14, vP (L.b tk))] [] ?_
   refine NL ?_
   exact MD () [0, 1, 2, 3, 11, 14, 17] [0, 1, 2, 3, 4]
  rintro _
  refine aF.cut (ι := Unit) (fr' := fun (_ : Unit) => (sO f L d name ++ [(3, .iface 89 (vP (L.b tk))), (11, .map (some m)), (15, vP (L.b tk)), (17, .iface 89 (vP (L.b tk)))])) (hp' := fun (_ : Unit) => (sP f m t X L idx O R)) [0, 1, 2, 3, 4] rfl rfl ?_ rfl (fun _ => by kernel_rfl) ?_
  ·refine gK 1 [(15, vP (L.b tk))] [] ?_
   refine NL ?_
   exact MD () [0, 1, 2, 3, 11, 15, 17] [0, 1, 2, 3, 4]
  rintro _
  refine aF.cut (ι := Unit) (fr' := fun (_ : Unit) => (sO f L d name ++ [(3, .iface 89 (vP (L.b tk))), (11, .map (some m)), (16, vI ((obj O tk).id)), (17, .iface 89 (vP (L.b tk)))])) (hp' := fun (_ : Unit) => (sP f m t X L idx O R)) [0, 1, 2, 3, 4] rfl rfl ?_ rfl (fun _ => by kernel_rfl) ?_
  ·refine gK 1 [(16, vI ((obj O tk).id))] [(0, v_ 2 (y5 L hkt))] ?_
   refine NL ?_
   exact MD () [0, 1, 2, 3, 11, 16, 17] [0, 1, 2, 3, 4]
  rintro _
  refine aF.last rfl rfl ?_
  refine aj.jY 1 (d := none) (t := 80) (K := 3) (E := 84) (b := m) (n := idx.length) (f := (aM (aJ L idx))) (x := (.tmp 11)) (ix := (.tmp 16)) (y := (.tmp 17)) (key := .int .i64 ((obj O tk).id)) (u := .iface 89 (vP (L.b tk))) (kl := (.int .i64 (obj O tk).id)) (n' := (idx.length + 1)) (f' := (aM (aJ L (ins (obj O tk).id ⟨tk, 1⟩ idx)))) (fun _ => by kernel_rfl) (by kernel_rfl) (fun _ => by kernel_rfl) (fun _ => by kernel_rfl) (fun _ => by kernel_rfl) dr Tryz.underlying80 (by unfold maxLen; omega) (gG hw) (by rw [dJ, hni]; rfl) (oW (L := L) (t := ⟨tk, 1⟩) hni) ?_
  refine NL (ai.np (NX (af.region ?_)))
  refine gK 4 (Lw f L d name ++ [(21, .iface 89 (vP (L.b tk)))]) [] ?_
  refine gL [0, 2, 3] (fO X f m t hX O L d hkd name hsz hno hel ⟨tk, 1⟩ hkt (by simp) hb) ?_
  rintro _ _ ⟨rfl, rfl⟩
  refine NL ?_
  refine ai.mem (aR := [.blk f [vI (X.cN), vI (X.cB), vI (X.cH), vI (X.cS), vI (X.cZ), .map (some m), vP t, vI (X.last), vI (X.ah + 1), vI (X.used)] 86, .abs (ak (aN (br X O d name ⟨tk, 1⟩) L)), .abs (ak (bg (br X O d name ⟨tk, 1⟩) L)), .abs (aI Tryz.prog 3 m (aM (aJ L (ins (obj O tk).id ⟨tk, 1⟩ idx))) ((ins (obj O tk).id ⟨tk, 1⟩ idx).length)), .abs R]) (fun w hS => by rw [show (ins (obj O tk).id ⟨tk, 1⟩ idx).length = idx.length + 1 from fW _ _ _]; exact hS) ?_
  exact RF (.tuple #[]) [0, 3, 1, 2, 4] (⟨rfl, rfl⟩)
 ·replace hkt : (obj O tk).kind = 2 := hkt
  replace hni : TabM.get idx (obj O tk).id = none := hni
  replace hw : (Lit.int .i64 (obj O tk).id).wf = true := hw
  refine af.bZ (S := (sP f m t X L idx O R)) [0, 1, 2, 3, 4, 9, 5, 6, 7, 8, 10] 6 [0, 1, 2, 3, 4] (by kernel_rfl) (by kernel_rfl) rfl (by kernel_rfl) ?_
  refine aF.reads (r := 0) (l := [5, 6, 7, 8, 10]) (fr' := (sO f L d name ++ [(3, .iface 96 (vP (L.b tk))), (11, .map (some m)), (12, .iface 96 (vP (L.b tk))), (17, .iface 96 (vP (L.b tk)))])) (aV := [f = f]) [0, 1, 2, 3, 4, 9] [o_, o_, o_, ⟨[.at 0], none, none, none, none⟩, o_, o_] [0, 1, 2, 3, 11, 12, 17] (fun _ => by kernel_rfl) ⟨rfl, trivial⟩ rfl rfl ?_
  refine mL [0, 1, 2, 3, 4] [] (cr (L.b tk)) ?_ (by rintro _ _ ⟨rfl, rfl⟩; rfl)
  rintro _ _ ⟨rfl, rfl⟩
  refine aF.cut (ι := Unit) (fr' := fun (_ : Unit) => (sO f L d name ++ [(3, .iface 96 (vP (L.b tk))), (11, .map (some m)), (14, vP (L.b tk)), (17, .iface 96 (vP (L.b tk)))])) (hp' := fun (_ : Unit) => (sP f m t X L idx O R)) [0, 1, 2, 3, 4] rfl rfl ?_ rfl (fun _ => by kernel_rfl) ?_
  ·refine gK 1 [(14, vP (L.b tk))] [] ?_
   refine NL ?_
   exact MD () [0, 1, 2, 3, 11, 14, 17] [0, 1, 2, 3, 4]
  rintro _
  refine aF.cut (ι := Unit) (fr' := fun (_ : Unit) => (sO f L d name ++ [(3, .iface 96 (vP (L.b tk))), (11, .map (some m)), (15, vP (L.b tk)), (17, .iface 96 (vP (L.b tk)))])) (hp' := fun (_ : Unit) => (sP f m t X L idx O R)) [0, 1, 2, 3, 4] rfl rfl ?_ rfl (fun _ => by kernel_rfl) ?_
  ·refine gK 1 [(15, vP (L.b tk))] [] ?_
   refine NL ?_
   exact MD () [0, 1, 2, 3, 11, 15, 17] [0, 1, 2, 3, 4]
  rintro _
  refine aF.cut (ι := Unit) (fr' := fun (_ : Unit) => (sO f L d name ++ [(3, .iface 96 (vP (L.b tk))), (11, .map (some m)), (16, vI ((obj O tk).id)), (17, .iface 96 (vP (L.b tk)))])) (hp' := fun (_ : Unit) => (sP f m t X L idx O R)) [0, 1, 2, 3, 4] rfl rfl ?_ rfl (fun _ => by kernel_rfl) ?_
  ·refine gK 1 [(16, vI ((obj O tk).id))] [(0, v_ 2 (y5 L hkt))] ?_
   refine NL ?_
   exact MD () [0, 1, 2, 3, 11, 16, 17] [0, 1, 2, 3, 4]
  rintro _
  refine aF.last rfl rfl ?_
  refine aj.jY 1 (d := none) (t := 80) (K := 3) (E := 84) (b := m) (n := idx.length) (f := (aM (aJ L idx))) (x := (.tmp 11)) (ix := (.tmp 16)) (y := (.tmp 17)) (key := .int .i64 ((obj O tk).id)) (u := .iface 96 (vP (L.b tk))) (kl := (.int .i64 (obj O tk).id)) (n' := (idx.length + 1)) (f' := (aM (aJ L (ins (obj O tk).id ⟨tk, 2⟩ idx)))) (fun _ => by kernel_rfl) (by kernel_rfl) (fun _ => by kernel_rfl) (fun _ => by kernel_rfl) (fun _ => by kernel_rfl) dr Tryz.underlying80 (by unfold maxLen; omega) (gG hw) (by rw [dJ, hni]; rfl) (oW (L := L) (t := ⟨tk, 2⟩) hni) ?_
  refine NL (ai.np (NX (af.region ?_)))
  refine gK 4 (Lw f L d name ++ [(21, .iface 96 (vP (L.b tk)))]) [] ?_
  refine gL [0, 2, 3] (fO X f m t hX O L d hkd name hsz hno hel ⟨tk, 2⟩ hkt (by simp) hb) ?_
  rintro _ _ ⟨rfl, rfl⟩
  refine NL ?_
  refine ai.mem (aR := [.blk f [vI (X.cN), vI (X.cB), vI (X.cH), vI (X.cS), vI (X.cZ), .map (some m), vP t, vI (X.last), vI (X.ah + 1), vI (X.used)] 86, .abs (ak (aN (br X O d name ⟨tk, 2⟩) L)), .abs (ak (bg (br X O d name ⟨tk, 2⟩) L)), .abs (aI Tryz.prog 3 m (aM (aJ L (ins (obj O tk).id ⟨tk, 2⟩ idx))) ((ins (obj O tk).id ⟨tk, 2⟩ idx).length)), .abs R]) (fun w hS => by rw [show (ins (obj O tk).id ⟨tk, 2⟩ idx).length = idx.length + 1 from fW _ _ _]; exact hS) ?_
  exact RF (.tuple #[]) [0, 3, 1, 2, 4] (⟨rfl, rfl⟩)
 replace hkt : (obj O tk).kind = 3 := hkt
 replace hni : TabM.get idx (obj O tk).id = none := hni
 replace hw : (Lit.int .i64 (obj O tk).id).wf = true := hw
 refine af.bZ (S := (sP f m t X L idx O R)) [0, 1, 2, 3, 4, 9, 5, 6, 7, 8, 10] 6 [0, 1, 2, 3, 4] (by kernel_rfl) (by kernel_rfl) rfl (by kernel_rfl) ?_
 refine aF.reads (r := 0) (l := [5, 6, 7, 8, 10]) (fr' := (sO f L d name ++ [(3, .iface 93 (vP (L.b tk))), (11, .map (some m)), (12, .iface 93 (vP (L.b tk))), (17, .iface 93 (vP (L.b tk)))])) (aV := [f = f]) [0, 1, 2, 3, 4, 9] [o_, o_, o_, ⟨[.at 0], none, none, none, none⟩, o_, o_] [0, 1, 2, 3, 11, 12, 17] (fun _ => by kernel_rfl) ⟨rfl, trivial⟩ rfl rfl ?_
 refine mL [0, 1, 2, 3, 4] [] (cr (L.b tk)) ?_ (by rintro _ _ ⟨rfl, rfl⟩; rfl)
 rintro _ _ ⟨rfl, rfl⟩
 refine aF.cut (ι := Unit) (fr' := fun (_ : Unit) => (sO f L d name ++ [(3, .iface 93 (vP (L.b tk))), (11, .map (some m)), (14, vP (L.b tk)), (17, .iface 93 (vP (L.b tk)))])) (hp' := fun (_ : Unit) => (sP f m t X L idx O R)) [0, 1, 2, 3, 4] rfl rfl ?_ rfl (fun _ => by kernel_rfl) ?_
 ·refine gK 1 [(14, vP (L.b tk))] [] ?_
  refine NL ?_
  exact MD () [0, 1, 2, 3, 11, 14, 17] [0, 1, 2, 3, 4]
 rintro _
 refine aF.cut (ι := Unit) (fr' := fun (_ : Unit) => (sO f L d name ++ [(3, .iface 93 (vP (L.b tk))), (11, .map (some m)), (15, vP (L.b tk)), (17, .iface 93 (vP (L.b tk)))])) (hp' := fun (_ : Unit) => (sP f m t X L idx O R)) [0, 1, 2, 3, 4] rfl rfl ?_ rfl (fun _ => by kernel_rfl) ?_
 ·refine gK 1 [(15, vP (L.b tk))] [] ?_
  refine NL ?_
  exact MD () [0, 1, 2, 3, 11, 15, 17] [0, 1, 2, 3, 4]
 rintro _
 refine aF.cut (ι := Unit) (fr' := fun (_ : Unit) => (sO f L d name ++ [(3, .iface 93 (vP (L.b tk))), (11, .map (some m)), (16, vI ((obj O tk).id)), (17, .iface 93 (vP (L.b tk)))])) (hp' := fun (_ : Unit) => (sP f m t X L idx O R)) [0, 1, 2, 3, 4] rfl rfl ?_ rfl (fun _ => by kernel_rfl) ?_
 ·refine gK 1 [(16, vI ((obj O tk).id))] [(0, v_ 2 (y5 L hkt))] ?_
  refine NL ?_
  exact MD () [0, 1, 2, 3, 11, 16, 17] [0, 1, 2, 3, 4]
 rintro _
 refine aF.last rfl rfl ?_
 refine aj.jY 1 (d := none) (t := 80) (K := 3) (E := 84) (b := m) (n := idx.length) (f := (aM (aJ L idx))) (x := (.tmp 11)) (ix := (.tmp 16)) (y := (.tmp 17)) (key := .int .i64 ((obj O tk).id)) (u := .iface 93 (vP (L.b tk))) (kl := (.int .i64 (obj O tk).id)) (n' := (idx.length + 1)) (f' := (aM (aJ L (ins (obj O tk).id ⟨tk, 3⟩ idx)))) (fun _ => by kernel_rfl) (by kernel_rfl) (fun _ => by kernel_rfl) (fun _ => by kernel_rfl) (fun _ => by kernel_rfl) dr Tryz.underlying80 (by unfold maxLen; omega) (gG hw) (by rw [dJ, hni]; rfl) (oW (L := L) (t := ⟨tk, 3⟩) hni) ?_
 refine NL (ai.np (NX (af.region ?_)))
 refine gK 4 (Lw f L d name ++ [(21, .iface 93 (vP (L.b tk)))]) [] ?_
 refine gL [0, 2, 3] (fO X f m t hX O L d hkd name hsz hno hel ⟨tk, 3⟩ hkt (by simp) hb) ?_
 rintro _ _ ⟨rfl, rfl⟩
 refine NL ?_
 refine ai.mem (aR := [.blk f [vI (X.cN), vI (X.cB), vI (X.cH), vI (X.cS), vI (X.cZ), .map (some m), vP t, vI (X.last), vI (X.ah + 1), vI (X.used)] 86, .abs (ak (aN (br X O d name ⟨tk, 3⟩) L)), .abs (ak (bg (br X O d name ⟨tk, 3⟩) L)), .abs (aI Tryz.prog 3 m (aM (aJ L (ins (obj O tk).id ⟨tk, 3⟩ idx))) ((ins (obj O tk).id ⟨tk, 3⟩ idx).length)), .abs R]) (fun w hS => by rw [show (ins (obj O tk).id ⟨tk, 3⟩ idx).length = idx.length + 1 from fW _ _ _]; exact hS) ?_
 exact RF (.tuple #[]) [0, 3, 1, 2, 4] (⟨rfl, rfl⟩)
end
section
open Go.RowKit Go.Maps HeapM TabM
attribute [local irreducible] aj aT af ai
abbrev xT (f : Nat) (m : Nat) (t) (S : aG) := (pF f m t { S.X with last := S.X.last + 1 } : HP)
abbrev Jz (S : aG) (text) (L2 : HL) := (pO (ay S.O (aD S.X) (fun _ => { aC S.X 3 511 with target := text })) L2 : HP)
abbrev LF (S : aG) (text) (L2 : HL) := (pE (ay S.O (aD S.X) (fun _ => { aC S.X 3 511 with target := text })) L2 : HP)
abbrev Nv (S : aG) (mode) (L2 : HL) (f : Nat) (m : Nat) (t) (L : HL) := ([pE (ay S.O (aD S.X) (fun _ => (aC S.X 2 mode))) L2, pO (ay S.O (aD S.X) (fun _ => (aC S.X 2 mode))) L2, xT f m t S, pI m L S.idx, pT t S.X.cH S.au L S.us] : List HP)
theorem oL {β : Bs} (S : aG) (L : HL) (f m t : Nat) (hI : Inv0 S) (d : Nat) (hd : Live S.idx ⟨d, 2⟩) (name : ByteArray) (hsz : name.size ≤ 1048576) (hno : aS name (obj S.O d).ah = none) (o : aP) (hid : o.id = S.X.last + 1) (hk3 : o.kind = 1 ∨ o.kind = 2 ∨ o.kind = 3) (hl0 : o.links = 0) (hlast : S.X.last < 1099511627776) :
    Spec Tryz.prog β 56 #[vP f, vP (L.b d), .string name, cI L ⟨(aD S.X), o.kind⟩] [xT f m t S, pI m L S.idx, pO (ay S.O (aD S.X) (fun _ => o)) L, pE (ay S.O (aD S.X) (fun _ => o)) L] (fun v l => v = .tuple #[] ∧ l = [pF f m t ((bE S d name o).X), pI m L ((bE S d name o).idx), pO ((bE S d name o).O) L, pE ((bE S d name o).O) L]) := by
  have hX := hI.hX
  have hne : d ≠ (aD S.X) := hI.q8 hd
  have hkd : (obj S.O d).kind = 2 := hI.kind hd
  have hel : (obj S.O d).ah.length ≤ 8192 := hI.eM hd
  have hlen := hI.len
  have e1 : obj (ay S.O (aD S.X) (fun _ => o)) (aD S.X) = o := bH
  have e2 : obj (ay S.O (aD S.X) (fun _ => o)) d = obj S.O d := bS hne
  have hnk := mV hI
  have h := Kj (β := β) { S.X with last := S.X.last + 1 } f m t (by simp only; omega) (ay S.O (aD S.X) (fun _ => o)) L d (by rw [e2]; exact hkd) name hsz (by rw [e2]; exact hno) (by rw [e2]; omega) S.idx (by omega) ⟨(aD S.X), o.kind⟩ (by rw [e1]) hk3 (by rw [e1, hl0]; decide) (by
    rw [e1, hid]
    cases e : TabM.get S.idx (S.X.last + 1) with
    | none => rfl
    | some u => have := (hI.idx _ u e).2.2; omega) (by rw [e1, hid]; exact WalkArith.wf_i64 (by have := hI.last; omega))
  rw [e1, hid] at h
  exact h
theorem zZ {β : Bs} (S : aG) (L : HL) (f m t : Nat) (hI : Inv S) (d : Nat) (hd : Live S.idx ⟨d, 2⟩) (name : ByteArray) (hsz : name.size ≤ 1048576) (mode : Int) :
    Spec Tryz.prog β 58 #[vP f, vP (L.b d), .string name, vI (mode)] (pA f m t L S) (fun v l => ∃ L2, v = vI (mkdirM S d name mode).1 ∧ l = (pA f m t L2 ((mkdirM S d name mode).2))) := by
 have hX := hI.hX
 have hel : (obj S.O d).ah.length ≤ 8192 := hI.eM hd
 have hkd : (obj S.O d).kind = 2 := hI.kind hd
 refine Spec.enter Tryz.func58 rfl Tryz.ntmps58 (Nat.le_of_ble_eq_true rfl) (fun R => ?_)
 refine SR ?_
 refine gK 1 [] [] ?_
 refine NS ?_
 refine gK 3 [(10, vP f), (11, vP (L.b d)), (12, .string name)] [] ?_
 refine gL [0, 1, 5, 3] (qq S L f m t hI d hd name hsz) ?_
 rintro _ _ ⟨rfl, rfl⟩
 refine gK 1 [(9, vI ((bO S.X S.O S.idx d name)))] [] ?_
 refine NN (af.seq (SR ?_))
 refine gK 2 [(15, .bool (decide (((bO S.X S.O S.idx d name) : Int) = (0 : Int))))] [] ?_
 refine NN ?_
 refine af.bB (p := ((bO S.X S.O S.idx d name) : Int) = (0 : Int)) (fun _ => by kernel_rfl) (fun h0 => ?_) (fun h0 => ?_)
 ·have hno := lS h0
  refine af.region ?_
  refine gK 5 [(16, vP f), (17, vP (L.b d)), (18, .string name), (19, vP f), (20, vI (mode))] [] ?_
  refine gL [0] (qp S.X f m t hX mode) ?_
  rintro _ _ ⟨rfl, rfl⟩
  refine aj.lF (d := (some 22)) (t := 97) (fun _ => by kernel_rfl) Tryz.prog rfl 9 (fun m1 => ?_)
  refine gN 3 (fun b2 => [(25, .iface 96 (vP b2))]) (fun _ => []) (fun _ => []) (fun b2 => .blk b2 [vI (S.X.last + 1), vI (mode), vI 0, vI 0, vI (S.X.cS), vI (S.X.cZ), vI 0, vI 0, .bool false, .map (some m1), .pointer none] 99) (fun b2 => ?_)
  obtain ⟨L2, hL2⟩ : ∃ L2 : HL, L2 = L.put (aD S.X) b2 m1 none 0 := ⟨_, rfl⟩
  have hfr := hI.toInv0.fresh
  refine aj.mem (aR := [.abs (ak (aN (ay S.O (aD S.X) (fun _ => (aC S.X 2 mode))) L2)), .blk f [vI (S.X.cN), vI (S.X.cB), vI (S.X.cH), vI (S.X.cS), vI (S.X.cZ), .map (some m), vP t, vI (S.X.last + 1), vI (S.X.ah), vI (S.X.used)] 86, .abs (aI Tryz.prog 3 m (aM (aJ L S.idx)) S.idx.length), .abs (ak (bg S.O L)), .abs (bp 156 t S.X.cH S.au (aJ L S.us)), .abs (ak (aY S.O L)), .abs R, .abs (aI Tryz.prog 9 m1 (fun _ => none) 0)]) (fun w hS => hS.qm hL2 hfr (o := (aC S.X 2 mode)) (i := 3) (j := 8) (ix := [0, 1, 2, 4, 5, 6, 7]) rfl rfl (by kernel_rfl) rfl (by show (2 : Int) ≠ 0; decide) ((gF (L := L2) (k := (aD S.X)) (o := (aC S.X 2 mode)) rfl).trans (by rw [BP hL2]; rfl)) rfl) ?_
  refine aj.mem (aR := (Nv S mode L2 f m t L ++ [pD S.O L, .abs R])) (fun w hS => hS.Jq hL2 hfr (o := (aC S.X 2 mode)) (i := 3) (j := 7) (ix := [0, 1, 2, 4, 5, 6]) rfl rfl (by kernel_rfl) rfl rfl rfl) ?_
  refine aj.mem (aR := (Nv S mode L2 f m t L ++ [pD (ay S.O (aD S.X) (fun _ => (aC S.X 2 mode))) L2, .abs R])) (fun w hS => hS.xu hL2 (o := (aC S.X 2 mode)) (i := 5) rfl (by show (2 : Int) ≠ 1; decide)) ?_
  refine aj.mem (aR := [.abs (ak (bg (ay S.O (aD S.X) (fun _ => (aC S.X 2 mode))) L2)), .abs (ak (aN (ay S.O (aD S.X) (fun _ => (aC S.X 2 mode))) L2)), .blk f [vI (S.X.cN), vI (S.X.cB), vI (S.X.cH), vI (S.X.cS), vI (S.X.cZ), .map (some m), vP t, vI (S.X.last + 1), vI (S.X.ah), vI (S.X.used)] 86, .abs (aI Tryz.prog 3 m (aM (aJ L2 S.idx)) S.idx.length), .abs (bp 156 t S.X.cH S.au (aJ L2 S.us)), .abs (ak (aY (ay S.O (aD S.X) (fun _ => (aC S.X 2 mode))) L2)), .abs R]) (fun w hS => by rw [eW hL2 hfr.idx, eW hL2 hfr.us]; exact hS) ?_
  refine gL (f := 56) (args := #[vP f, vP (L.b d), .string name, .iface 96 (vP b2)]) (pre := [xT f m t S, pI m L2 S.idx, pO (ay S.O (aD S.X) (fun _ => (aC S.X 2 mode))) L2, pE (ay S.O (aD S.X) (fun _ => (aC S.X 2 mode))) L2]) [2, 3, 1, 0] ((by have h := oL (β := β) S L2 f m t hI.toInv0 d hd name hsz hno (aC S.X 2 mode) rfl (by simp [aC]) rfl (nC h0); rw [rZ hL2 (hI.q8 hd), lQ hL2] at h; exact h)) ?_
  rintro _ _ ⟨rfl, rfl⟩
  refine NS ?_
  refine aj.mem (aR := [.blk f [vI ((bE S d name (aC S.X 2 mode)).X.cN), vI ((bE S d name (aC S.X 2 mode)).X.cB), vI ((bE S d name (aC S.X 2 mode)).X.cH), vI ((bE S d name (aC S.X 2 mode)).X.cS), vI ((bE S d name (aC S.X 2 mode)).X.cZ), .map (some m), vP t, vI ((bE S d name (aC S.X 2 mode)).X.last), vI ((bE S d name (aC S.X 2 mode)).X.ah), vI ((bE S d name (aC S.X 2 mode)).X.used)] 86, .abs (aI Tryz.prog 3 m (aM (aJ L2 (bE S d name (aC S.X 2 mode)).idx)) ((bE S d name (aC S.X 2 mode)).idx.length)), .abs (ak (aN ((bE S d name (aC S.X 2 mode)).O) L2)), .abs (ak (bg ((bE S d name (aC S.X 2 mode)).O) L2)), .abs (bp 156 t S.X.cH S.au (aJ L2 S.us)), .abs (ak (aY ((bE S d name (aC S.X 2 mode)).O) L2)), .abs R]) (fun w hS => by rw [show aY ((bE S d name (aC S.X 2 mode)).O) L2 = aY (ay S.O (aD S.X) (fun _ => (aC S.X 2 mode))) L2 from fA]; exact hS) ?_
  refine gK 2 [(8, vI ((bO S.X S.O S.idx d name)))] [] ?_
  refine NN (af.ret ?_)
  exact RT (vI ((bO S.X S.O S.idx d name))) [0, 1, 4, 2, 5, 3, 6] (⟨L2, by rw [show mkdirM S d name mode = _ from if_pos h0]; refine ⟨congrArg _ h0, ?_⟩; rfl⟩)
 refine af.skip (NX (SR ?_))
 refine gK 2 [(8, vI ((bO S.X S.O S.idx d name)))] [] ?_
 refine NN (af.ret ?_)
 exact RT (vI ((bO S.X S.O S.idx d name))) [0, 1, 4, 3, 5, 2, 6] (⟨L, by rw [show mkdirM S d name mode = _ from if_neg h0] <;> exact ⟨rfl, rfl⟩⟩)
theorem vw {β : Bs} (S : aG) (L : HL) (f m t : Nat) (hI : Inv S) (d : Nat) (hd : Live S.idx ⟨d, 2⟩) (name : ByteArray) (hsz : name.size ≤ 1048576) (text : ByteArray) (JA : text.size ≤ 1048576) :
    Spec Tryz.prog β 59 #[vP f, vP (L.b d), .string name, .string text] (pA f m t L S) (fun v l => ∃ L2, v = vI (symlinkM S d name text).1 ∧ l = (pA f m t L2 ((symlinkM S d name text).2))) := by
 have hX := hI.hX
 have hel : (obj S.O d).ah.length ≤ 8192 := hI.eM hd
 have hkd : (obj S.O d).kind = 2 := hI.kind hd
 refine Spec.enter Tryz.func59 rfl Tryz.ntmps59 (Nat.le_of_ble_eq_true rfl) (fun R => ?_)
 refine SR ?_
 refine gK 1 [] [] ?_
 refine NS ?_
 refine gK 1 [(10, .string text)] [] ?_
 refine gL [] (Ki text JA) ?_
 rintro _ _ ⟨rfl, rfl⟩
 refine gK 1 [(9, vI ((kG text)))] [] ?_
 refine NN (af.seq (SR ?_))
 refine gK 2 [(13, .bool (decide (((kG text) : Int) = (0 : Int))))] [] ?_
 refine NN ?_
 refine af.bB (p := ((kG text) : Int) = (0 : Int)) (fun _ => by kernel_rfl) (fun hb => ?_) (fun hb => ?_)
 ·refine af.region ?_
  refine gK 3 [(14, vP f), (15, vP (L.b d)), (16, .string name)] [] ?_
  refine gL [0, 1, 5, 3] (qq S L f m t hI d hd name hsz) ?_
  rintro _ _ ⟨rfl, rfl⟩
  refine gK 1 [(9, vI ((bO S.X S.O S.idx d name)))] [] ?_
  refine NN (af.seq (SR ?_))
  refine gK 2 [(19, .bool (decide (((bO S.X S.O S.idx d name) : Int) = (0 : Int))))] [] ?_
  refine NN ?_
  refine af.bB (p := ((bO S.X S.O S.idx d name) : Int) = (0 : Int)) (fun _ => by kernel_rfl) (fun h0 => ?_) (fun h0 => ?_)
  ·have hno := lS h0
   refine af.region ?_
   refine gK 4 [(20, vP f), (21, vP (L.b d)), (22, .string name), (23, vP f)] [] ?_
   refine gL [0] (qp S.X f m t hX 511) ?_
   rintro _ _ ⟨rfl, rfl⟩
   refine gN 4 (fun b3 => [(28, .iface 93 (vP b3))]) (fun _ => []) (fun _ => []) (fun b3 => .blk b3 [vI (S.X.last + 1), vI (511), vI 0, vI 0, vI (S.X.cS), vI (S.X.cZ), vI 0, vI 0, .bool false, .string text] 95) (fun b3 => ?_)
   obtain ⟨L2, hL2⟩ : ∃ L2 : HL, L2 = L.put (aD S.X) b3 0 none 0 := ⟨_, rfl⟩
   have hfr := hI.toInv0.fresh
   refine aj.mem (aR := [Jz S text L2, xT f m t S, pI m L S.idx, pE S.O L, pT t S.X.cH S.au L S.us, pD S.O L, .abs R]) (fun w hS => hS.qm hL2 hfr (o := { aC S.X 3 511 with target := text }) (i := 3) (j := 7) (ix := [0, 1, 2, 4, 5, 6]) rfl rfl (by kernel_rfl) rfl (by show (3 : Int) ≠ 0; decide) ((tF (L := L2) (k := (aD S.X)) (o := { aC S.X 3 511 with target := text }) rfl).trans (by rfl)) rfl) ?_
   refine aj.mem (aR := [Jz S text L2, xT f m t S, pI m L S.idx, LF S text L2, pT t S.X.cH S.au L S.us, pD S.O L, .abs R]) (fun w hS => hS.rf hL2 hfr (o := { aC S.X 3 511 with target := text }) (i := 3) rfl (by show (3 : Int) ≠ 2; decide)) ?_
   refine aj.mem (aR := [Jz S text L2, xT f m t S, pI m L S.idx, LF S text L2, pT t S.X.cH S.au L S.us, pD (ay S.O (aD S.X) (fun _ => { aC S.X 3 511 with target := text })) L2, .abs R]) (fun w hS => hS.xu hL2 (o := { aC S.X 3 511 with target := text }) (i := 5) rfl (by show (3 : Int) ≠ 1; decide)) ?_
   refine aj.mem (aR := [.abs (ak (aN (ay S.O (aD S.X) (fun _ => { aC S.X 3 511 with target := text })) L2)), .blk f [vI (S.X.cN), vI (S.X.cB), vI (S.X.cH), vI (S.X.cS), vI (S.X.cZ), .map (some m), vP t, vI (S.X.last + 1), vI (S.X.ah), vI (S.X.used)] 86, .abs (aI Tryz.prog 3 m (aM (aJ L2 S.idx)) S.idx.length), .abs (ak (bg (ay S.O (aD S.X) (fun _ => { aC S.X 3 511 with target := text })) L2)), .abs (bp 156 t S.X.cH S.au (aJ L2 S.us)), .abs (ak (aY (ay S.O (aD S.X) (fun _ => { aC S.X 3 511 with target := text })) L2)), .abs R]) (fun w hS => by rw [eW hL2 hfr.idx, eW hL2 hfr.us]; exact hS) ?_
   refine gL (f := 56) (args := #[vP f, vP (L.b d), .string name, .iface 93 (vP b3)]) (pre := [xT f m t S, pI m L2 S.idx, Jz S text L2, LF S text L2]) [1, 2, 0, 3] ((by have h := oL (β := β) S L2 f m t hI.toInv0 d hd name hsz hno { aC S.X 3 511 with target := text } rfl (by simp [aC]) rfl (nC h0); rw [rZ hL2 (hI.q8 hd), lQ hL2] at h; exact h)) ?_
   rintro _ _ ⟨rfl, rfl⟩
   refine NS ?_
   refine aj.mem (aR := [.blk f [vI ((bE S d name { aC S.X 3 511 with target := text }).X.cN), vI ((bE S d name { aC S.X 3 511 with target := text }).X.cB), vI ((bE S d name { aC S.X 3 511 with target := text }).X.cH), vI ((bE S d name { aC S.X 3 511 with target := text }).X.cS), vI ((bE S d name { aC S.X 3 511 with target := text }).X.cZ), .map (some m), vP t, vI ((bE S d name { aC S.X 3 511 with target := text }).X.last), vI ((bE S d name { aC S.X 3 511 with target := text }).X.ah), vI ((bE S d name { aC S.X 3 511 with target := text }).X.used)] 86, .abs (aI Tryz.prog 3 m (aM (aJ L2 (bE S d name { aC S.X 3 511 with target := text }).idx)) ((bE S d name { aC S.X 3 511 with target := text }).idx.length)), .abs (ak (aN ((bE S d name { aC S.X 3 511 with target := text }).O) L2)), .abs (ak (bg ((bE S d name { aC S.X 3 511 with target := text }).O) L2)), .abs (bp 156 t S.X.cH S.au (aJ L2 S.us)), .abs (ak (aY ((bE S d name { aC S.X 3 511 with target := text }).O) L2)), .abs R]) (fun w hS => by rw [show aY ((bE S d name { aC S.X 3 511 with target := text }).O) L2 = aY (ay S.O (aD S.X) (fun _ => { aC S.X 3 511 with target := text })) L2 from fA]; exact hS) ?_
   refine gK 2 [(8, vI ((bO S.X S.O S.idx d name)))] [] ?_
   refine NN (af.ret ?_)
   exact RT (vI ((bO S.X S.O S.idx d name))) [0, 1, 4, 2, 5, 3, 6] (⟨L2, by rw [show symlinkM S d name text = _ from (if_pos hb).trans (if_pos h0)]; refine ⟨congrArg _ h0, ?_⟩; rfl⟩)
  refine af.skip (NX (SR ?_))
  refine gK 2 [(8, vI ((bO S.X S.O S.idx d name)))] [] ?_
  refine NN (af.ret ?_)
  exact RT (vI ((bO S.X S.O S.idx d name))) [0, 1, 4, 3, 5, 2, 6] (⟨L, by rw [show symlinkM S d name text = _ from (if_pos hb).trans (if_neg h0)] <;> exact ⟨rfl, rfl⟩⟩)
 refine af.skip (NX (af.seq (SR ?_)))
 refine gK 2 [(19, .bool (decide (((kG text) : Int) = (0 : Int))))] [] ?_
 refine NN ?_
 refine af.bB (p := ((kG text) : Int) = (0 : Int)) (fun _ => by kernel_rfl) (fun h0 => ?_) (fun h0 => ?_)
 ·exact absurd h0 hb
 refine af.skip (NX (SR ?_))
 refine gK 2 [(8, vI ((kG text)))] [] ?_
 refine NN (af.ret ?_)
 exact RT (vI ((kG text))) [0, 1, 2, 3, 4, 5, 6] (⟨L, by rw [show symlinkM S d name text = _ from if_neg hb] <;> exact ⟨rfl, rfl⟩⟩)
theorem xU {β : Bs} (S : aG) (L : HL) (f m t : Nat) (hI : Inv S) (d : Nat) (hd : Live S.idx ⟨d, 2⟩) (name : ByteArray) (hsz : name.size ≤ 1048576) :
    Spec Tryz.prog β 60 #[vP f, vP (L.b d), .string name] (pA f m t L S) (fun v l => ∃ L2, v = vI (unlinkM S d name).1 ∧ l = (pA f m t L2 ((unlinkM S d name).2))) := by
 have hX := hI.hX
 have hel : (obj S.O d).ah.length ≤ 8192 := hI.eM hd
 have hkd : (obj S.O d).kind = 2 := hI.kind hd
 refine Spec.enter Tryz.func60 rfl Tryz.ntmps60 (Nat.le_of_ble_eq_true rfl) (fun R => ?_)
 refine af.seq ?_
 rcases hI.jS hd name with hlk | ⟨tk, hlk, hlv⟩ | ⟨tk, hlk, hlv⟩ | ⟨tk, hlk, hlv⟩
 ·refine af.region ?_
  refine gK 1 [] [] ?_
  refine NN (af.seq (SR ?_))
  refine gK 5 [(10, .map (some (L.m d))), (11, .string name)] [(3, v_ 3 (bC L hkd))] ?_
  refine fK 5 hkd hlk ?_
  refine NN (af.block (SR ?_))
  refine gK 1 [(13, .bool true)] [] ?_
  refine NN ?_
  refine CT ?_
  refine SR ?_
  refine gK 1 [(6, vI 170)] [] ?_
  refine NN (af.ret (ai.aE (ai.aq ?_)))
  exact RT (vI 170) [0, 1, 2, 3, 4, 5, 6] (⟨L, by rw [show unlinkM S d name = (170, S) by unfold unlinkM; rw [hlk]] <;> exact ⟨rfl, rfl⟩⟩)
 ·have hkt : (obj S.O tk).kind = 1 := hI.kind hlv
  refine af.region ?_
  refine gK 1 [] [] ?_
  refine NN (af.seq (SR ?_))
  refine gK 5 [(10, .map (some (L.m d))), (11, .string name)] [(3, v_ 3 (bC L hkd))] ?_
  refine fK 5 hkd hlk ?_
  refine NN (af.block (SR ?_))
  refine gK 1 [(13, .bool false)] [] ?_
  refine NN ?_
  refine CF ?_
  refine SR ?_
  refine gK 3 [(15, .bool false)] [] ?_
  refine NN ?_
  refine CF ?_
  refine af.skip (ai.aQ (NX (SR ?_)))
  refine gK 3 [(17, vP f), (18, vP (L.b d)), (19, .string name)] [] ?_
  refine gL [0, 3, 5, 1] (lp S L f m t hI d hd name hsz ⟨tk, 1⟩ hlk) ?_
  rintro _ _ ⟨rfl, rfl⟩
  refine NS ?_
  refine aj.mem (aR := [.blk f [vI ((ar S d name ⟨tk, 1⟩).X.cN), vI ((ar S d name ⟨tk, 1⟩).X.cB), vI ((ar S d name ⟨tk, 1⟩).X.cH), vI ((ar S d name ⟨tk, 1⟩).X.cS), vI ((ar S d name ⟨tk, 1⟩).X.cZ), .map (some m), vP t, vI ((ar S d name ⟨tk, 1⟩).X.last), vI ((ar S d name ⟨tk, 1⟩).X.ah), vI ((ar S d name ⟨tk, 1⟩).X.used)] 86, .abs (ak (aN ((ar S d name ⟨tk, 1⟩).O) L)), .abs (ak (bg ((ar S d name ⟨tk, 1⟩).O) L)), .abs (aI Tryz.prog 3 m (aM (aJ L ((ar S d name ⟨tk, 1⟩).idx))) (((ar S d name ⟨tk, 1⟩).idx).length)), .abs (bp 156 t S.X.cH S.au (aJ L S.us)), .abs (ak (aY ((ar S d name ⟨tk, 1⟩).O) L)), .abs R]) (fun w hS => by rw [show aY ((ar S d name ⟨tk, 1⟩).O) L = aY S.O L from lg]; exact hS) ?_
  refine gK 1 [(6, vI 0)] [] ?_
  refine NN (af.ret ?_)
  exact RT (vI 0) [0, 3, 4, 1, 5, 2, 6] (⟨L, by rw [show unlinkM S d name = (0, ar S d name ⟨tk, 1⟩) by unfold unlinkM; rw [hlk]; exact if_neg (by simp)] <;> exact ⟨rfl, rfl⟩⟩)
 ·have hkt : (obj S.O tk).kind = 2 := hI.kind hlv
  refine af.region ?_
  refine gK 1 [] [] ?_
  refine NN (af.seq (SR ?_))
  refine gK 5 [(10, .map (some (L.m d))), (11, .string name)] [(3, v_ 3 (bC L hkd))] ?_
  refine fK 5 hkd hlk ?_
  refine NN (af.block (SR ?_))
  refine gK 1 [(13, .bool false)] [] ?_
  refine NN ?_
  refine CF ?_
  refine SR ?_
  refine gK 3 [(15, .bool true)] [] ?_
  refine NN ?_
  refine CT ?_
  refine SR ?_
  refine gK 1 [(6, vI 172)] [] ?_
  refine NN (af.ret (ai.aE (ai.aq ?_)))
  exact RT (vI 172) [0, 1, 2, 3, 4, 5, 6] (⟨L, by rw [show unlinkM S d name = (172, S) by unfold unlinkM; rw [hlk]; exact if_pos rfl] <;> exact ⟨rfl, rfl⟩⟩)
 have hkt : (obj S.O tk).kind = 3 := hI.kind hlv
 refine af.region ?_
 refine gK 1 [] [] ?_
 refine NN (af.seq (SR ?_))
 refine gK 5 [(10, .map (some (L.m d))), (11, .string name)] [(3, v_ 3 (bC L hkd))] ?_
 refine fK 5 hkd hlk ?_
 refine NN (af.block (SR ?_))
 refine gK 1 [(13, .bool false)] [] ?_
 refine NN ?_
 refine CF ?_
 refine SR ?_
 refine gK 3 [(15, .bool false)] [] ?_
 refine NN ?_
 refine CF ?_
 refine af.skip (ai.aQ (NX (SR ?_)))
 refine gK 3 [(17, vP f), (18, vP (L.b d)), (19, .string name)] [] ?_
 refine gL [0, 3, 5, 1] (lp S L f m t hI d hd name hsz ⟨tk, 3⟩ hlk) ?_
 rintro _ _ ⟨rfl, rfl⟩
 refine NS ?_
 refine aj.mem (aR := [.blk f [vI ((ar S d name ⟨tk, 3⟩).X.cN), vI ((ar S d name ⟨tk, 3⟩).X.cB), vI ((ar S d name ⟨tk, 3⟩).X.cH), vI ((ar S d name ⟨tk, 3⟩).X.cS), vI ((ar S d name ⟨tk, 3⟩).X.cZ), .map (some m), vP t, vI ((ar S d name ⟨tk, 3⟩).X.last), vI ((ar S d name ⟨tk, 3⟩).X.ah), vI ((ar S d name ⟨tk, 3⟩).X.used)] 86, .abs (ak (aN ((ar S d name ⟨tk, 3⟩).O) L)), .abs (ak (bg ((ar S d name ⟨tk, 3⟩).O) L)), .abs (aI Tryz.prog 3 m (aM (aJ L ((ar S d name ⟨tk, 3⟩).idx))) (((ar S d name ⟨tk, 3⟩).idx).length)), .abs (bp 156 t S.X.cH S.au (aJ L S.us)), .abs (ak (aY ((ar S d name ⟨tk, 3⟩).O) L)), .abs R]) (fun w hS => by rw [show aY ((ar S d name ⟨tk, 3⟩).O) L = aY S.O L from lg]; exact hS) ?_
 refine gK 1 [(6, vI 0)] [] ?_
 refine NN (af.ret ?_)
 exact RT (vI 0) [0, 3, 4, 1, 5, 2, 6] (⟨L, by rw [show unlinkM S d name = (0, ar S d name ⟨tk, 3⟩) by unfold unlinkM; rw [hlk]; exact if_neg (by simp)] <;> exact ⟨rfl, rfl⟩⟩)
theorem Aa {β : Bs} (S : aG) (L : HL) (f m t : Nat) (hI : Inv S) (d : Nat) (hd : Live S.idx ⟨d, 2⟩) (name : ByteArray) (hsz : name.size ≤ 1048576) :
    Spec Tryz.prog β 61 #[vP f, vP (L.b d), .string name] (pA f m t L S) (fun v l => ∃ L2, v = vI (rmdirM S d name).1 ∧ l = (pA f m t L2 ((rmdirM S d name).2))) := by
 have hX := hI.hX
 have hel : (obj S.O d).ah.length ≤ 8192 := hI.eM hd
 have hkd : (obj S.O d).kind = 2 := hI.kind hd
 refine Spec.enter Tryz.func61 rfl Tryz.ntmps61 (Nat.le_of_ble_eq_true rfl) (fun R => ?_)
 refine af.seq ?_
 rcases hI.jS hd name with hlk | ⟨tk, hlk, hlv⟩ | ⟨tk, hlk, hlv⟩ | ⟨tk, hlk, hlv⟩
 ·refine af.region ?_
  refine gK 1 [] [] ?_
  refine NS ?_
  refine gK 5 [(13, .map (some (L.m d))), (14, .string name)] [(3, v_ 3 (bC L hkd))] ?_
  refine fK 5 hkd hlk ?_
  refine gK 1 [(7, .nilIface)] [] ?_
  refine NN (af.seq (SR ?_))
  refine gK 2 [(17, .bool true)] [] ?_
  refine NN ?_
  refine CT ?_
  refine SR ?_
  refine gK 1 [(6, vI 170)] [] ?_
  refine NN (af.ret (ai.aq ?_))
  exact RT (vI 170) [0, 1, 2, 3, 4, 5, 6] (⟨L, by skip; rw [show rmdirM S d name = (170, S) by unfold rmdirM; rw [hlk]] <;> exact ⟨rfl, rfl⟩⟩)
 ·have hkt : (obj S.O tk).kind = 1 := hI.kind hlv
  refine af.region ?_
  refine gK 1 [] [] ?_
  refine NS ?_
  refine gK 5 [(13, .map (some (L.m d))), (14, .string name)] [(3, v_ 3 (bC L hkd))] ?_
  refine fK 5 hkd hlk ?_
  refine gK 1 [(7, .iface 89 (vP (L.b tk)))] [] ?_
  refine NN (af.seq (SR ?_))
  refine gK 2 [(17, .bool false)] [] ?_
  refine NN ?_
  refine CF ?_
  refine af.skip (NX (SR ?_))
  refine gK 7 [(8, .pointer none), (9, .bool false)] [] ?_
  refine NN (af.seq (SR ?_))
  refine gK 2 [(24, .bool true)] [] ?_
  refine NN ?_
  refine CT ?_
  refine SR ?_
  refine gK 1 [(6, vI 173)] [] ?_
  refine NN (af.ret (ai.aq ?_))
  exact RT (vI 173) [0, 1, 2, 3, 4, 5, 6] (⟨L, by skip; rw [show rmdirM S d name = (173, S) by unfold rmdirM; rw [hlk]; exact if_neg (by simp)] <;> exact ⟨rfl, rfl⟩⟩)
 ·have hkt : (obj S.O tk).kind = 2 := hI.kind hlv
  have Qj : (obj S.O tk).ah.length ≤ 8192 := hI.eM hlv
  refine af.region ?_
  refine gK 1 [] [] ?_
  refine NS ?_
  refine gK 5 [(13, .map (some (L.m d))), (14, .string name)] [(3, v_ 3 (bC L hkd))] ?_
  refine fK 5 hkd hlk ?_
  refine gK 1 [(7, .iface 96 (vP (L.b tk)))] [] ?_
  refine NN (af.seq (SR ?_))
  refine gK 2 [(17, .bool false)] [] ?_
  refine NN ?_
  refine CF ?_
  refine af.skip (NX (SR ?_))
  refine gK 7 [(8, vP (L.b tk)), (9, .bool true)] [] ?_
  refine NN (af.seq (SR ?_))
  refine gK 2 [(24, .bool false)] [] ?_
  refine NN ?_
  refine CF ?_
  refine af.skip (NX (af.seq (SR ?_)))
  refine gK 4 [(28, .map (some (L.m tk)))] [(3, v_ 3 (bC L hkt))] ?_
  refine Pc 5 hkt ?_
  refine gK 1 [(30, .bool (decide (((((obj S.O tk).ah.length : Nat) : Int) : Int) > (0 : Int))))] [] ?_
  refine NN ?_
  refine af.bB (p := ((((obj S.O tk).ah.length : Nat) : Int) : Int) > (0 : Int)) (fun _ => by kernel_rfl) (fun j7 => ?_) (fun j7 => ?_)
  ·refine SR ?_
   refine gK 1 [(6, vI 178)] [] ?_
   refine NN (af.ret (ai.aq ?_))
   exact RT (vI 178) [0, 1, 2, 3, 4, 5, 6] (⟨L, by skip; rw [show rmdirM S d name = (178, S) by unfold rmdirM; rw [hlk]; exact (if_pos rfl).trans (if_neg (fun e => by rw [show (obj S.O tk).ah = [] from e] at j7; simp at j7))] <;> exact ⟨rfl, rfl⟩⟩)
  refine af.skip (NX (SR ?_))
  refine gK 3 [(31, vP f), (32, vP (L.b d)), (33, .string name)] [] ?_
  refine gL [0, 3, 5, 1] (lp S L f m t hI d hd name hsz ⟨tk, 2⟩ hlk) ?_
  rintro _ _ ⟨rfl, rfl⟩
  refine NS ?_
  refine aj.mem (aR := [.blk f [vI ((ar S d name ⟨tk, 2⟩).X.cN), vI ((ar S d name ⟨tk, 2⟩).X.cB), vI ((ar S d name ⟨tk, 2⟩).X.cH), vI ((ar S d name ⟨tk, 2⟩).X.cS), vI ((ar S d name ⟨tk, 2⟩).X.cZ), .map (some m), vP t, vI ((ar S d name ⟨tk, 2⟩).X.last), vI ((ar S d name ⟨tk, 2⟩).X.ah), vI ((ar S d name ⟨tk, 2⟩).X.used)] 86, .abs (ak (aN ((ar S d name ⟨tk, 2⟩).O) L)), .abs (ak (bg ((ar S d name ⟨tk, 2⟩).O) L)), .abs (aI Tryz.prog 3 m (aM (aJ L ((ar S d name ⟨tk, 2⟩).idx))) (((ar S d name ⟨tk, 2⟩).idx).length)), .abs (bp 156 t S.X.cH S.au (aJ L S.us)), .abs (ak (aY ((ar S d name ⟨tk, 2⟩).O) L)), .abs R]) (fun w hS => by rw [show aY ((ar S d name ⟨tk, 2⟩).O) L = aY S.O L from lg]; exact hS) ?_
  have tY : (obj (ar S d name ⟨tk, 2⟩).O d).kind = 2 := (xq).trans (hkd)
  have tZ : (obj (ar S d name ⟨tk, 2⟩).O tk).kind = 2 := (xq).trans (hkt)
  generalize bP : (ar S d name ⟨tk, 2⟩).O = bK at tY tZ ⊢
  refine gK 3 [(37, .pointer (some ⟨(L.b tk), 10, none⟩))] [] ?_
  refine Nu 1 [(2, 1), (5, 2)] tk (none) tZ (fun cV cu => ?_)
  have Im := ku cu tY
  have Ey := ku cu tZ
  refine NS ?_
  refine gK 1 [(6, vI 0)] [] ?_
  refine NN (af.ret ?_)
  exact RT (l := [pF f m t ((ar S d name ⟨tk, 2⟩).X), pI m L ((ar S d name ⟨tk, 2⟩).idx), pT t S.X.cH S.au L S.us, pO cV L, pD cV L, pE cV L]) (.int .i64 0) [0, 3, 4, 1, 5, 2, 6] (⟨L, by subst cu; subst bP; rw [show rmdirM S d name = (0, { ar S d name ⟨tk, 2⟩ with O := orphan (ar S d name ⟨tk, 2⟩).O tk }) by unfold rmdirM; rw [hlk]; exact (if_pos rfl).trans (if_pos (List.eq_nil_of_length_eq_zero (by show (obj S.O tk).ah.length = 0; omega)))] <;> exact ⟨rfl, rfl⟩⟩)
 have hkt : (obj S.O tk).kind = 3 := hI.kind hlv
 refine af.region ?_
 refine gK 1 [] [] ?_
 refine NS ?_
 refine gK 5 [(13, .map (some (L.m d))), (14, .string name)] [(3, v_ 3 (bC L hkd))] ?_
 refine fK 5 hkd hlk ?_
 refine gK 1 [(7, .iface 93 (vP (L.b tk)))] [] ?_
 refine NN (af.seq (SR ?_))
 refine gK 2 [(17, .bool false)] [] ?_
 refine NN ?_
 refine CF ?_
 refine af.skip (NX (SR ?_))
 refine gK 7 [(8, .pointer none), (9, .bool false)] [] ?_
 refine NN (af.seq (SR ?_))
 refine gK 2 [(24, .bool true)] [] ?_
 refine NN ?_
 refine CT ?_
 refine SR ?_
 refine gK 1 [(6, vI 173)] [] ?_
 refine NN (af.ret (ai.aq ?_))
 exact RT (vI 173) [0, 1, 2, 3, 4, 5, 6] (⟨L, by skip; rw [show rmdirM S d name = (173, S) by unfold rmdirM; rw [hlk]; exact if_neg (by simp)] <;> exact ⟨rfl, rfl⟩⟩)
end
section
open Go.RowKit Go.Maps HeapM TabM
attribute [local irreducible] aj aT af ai
abbrev Cg (f : Nat) (L : HL) (d : Nat) (name) := ([(61, vP f), (62, vP (L.b d)), (63, .string name)] : Fr)
abbrev Ch (f : Nat) (L : HL) (to : Nat) (toName) := ([(65, vP f), (66, vP (L.b to)), (67, .string toName)] : Fr)
abbrev JB (f : Nat) (L : HL) (d : Nat) (name) (to : Nat) (toName) := ([(0, vP f), (1, vP (L.b d)), (2, .string name), (3, vP (L.b to)), (4, .string toName)] : Fr)
abbrev sQ (L : HL) (to : Nat) (toName) := ([(45, .map (some (L.m to))), (46, .string toName)] : Fr)
abbrev JC (f : Nat) (L : HL) (to : Nat) (toName) := ([(57, vP f), (58, vP (L.b to)), (59, .string toName)] : Fr)
abbrev JD (L : HL) (to : Nat) := ([(12, .pointer none), (13, .bool false), (14, vP (L.b to))] : Fr)
theorem xV {β : Bs} (S : aG) (L : HL) (f m t : Nat) (hI : Inv S) (d : Nat) (hd : Live S.idx ⟨d, 2⟩) (name : ByteArray) (hsz : name.size ≤ 1048576) (to : Nat) (hto : Live S.idx ⟨to, 2⟩) (toName : ByteArray) (mz : toName.size ≤ 1048576) :
    Spec Tryz.prog β 62 #[vP f, vP (L.b d), .string name, vP (L.b to), .string toName] (pA f m t L S) (fun v l => ∃ L2, v = vI (renameM S d name to toName).1 ∧ l = (pA f m t L2 ((renameM S d name to toName).2))) := by
 have hX := hI.hX
 have hel : (obj S.O d).ah.length ≤ 8192 := hI.eM hd
 have hkd : (obj S.O d).kind = 2 := hI.kind hd
 have cY : (obj S.O to).kind = 2 := hI.kind hto
 have P7 : (obj S.O to).ah.length ≤ 8192 := hI.eM hto
 refine Spec.enter Tryz.func62 rfl Tryz.ntmps62 (Nat.le_of_ble_eq_true rfl) (fun R => ?_)
 refine af.seq ?_
 rcases hI.jS hd name with hlk | ⟨tk, hlk, hlv⟩ | ⟨tk, hlk, hlv⟩ | ⟨tk, hlk, hlv⟩
 ·refine af.region ?_
  refine gK 1 [] [] ?_
  refine NS ?_
  refine gK 5 [(19, .map (some (L.m d))), (20, .string name)] [(3, v_ 3 (bC L hkd))] ?_
  refine fK 5 hkd hlk ?_
  refine gK 1 [(11, .nilIface)] [] ?_
  refine NN (af.seq (SR ?_))
  refine gK 2 [(23, .bool true)] [] ?_
  refine NN ?_
  refine CT ?_
  refine SR ?_
  refine gK 1 [(10, vI 170)] [] ?_
  refine NN (af.ret (ai.aq ?_))
  exact RT (vI 170) [0, 1, 2, 3, 4, 5, 6] (⟨L, by rw [show renameM S d name to toName = (170, S) by unfold renameM; rw [hlk]] <;> exact ⟨rfl, rfl⟩⟩)
 ·have hkt : (obj S.O tk).kind = 1 := hI.kind hlv
  refine af.region ?_
  refine gK 1 [] [] ?_
  refine NS ?_
  refine gK 5 [(19, .map (some (L.m d))), (20, .string name)] [(3, v_ 3 (bC L hkd))] ?_
  refine fK 5 hkd hlk ?_
  refine gK 1 [(11, .iface 89 (vP (L.b tk)))] [] ?_
  refine NN (af.seq (SR ?_))
  refine gK 2 [(23, .bool false)] [] ?_
  refine NN ?_
  refine CF ?_
  refine af.skip (NX (SR ?_))
  refine gK 7 [(12, .pointer none), (13, .bool false)] [] ?_
  refine NN (af.seq (SR ?_))
  refine gK 2 [(14, vP (L.b to))] [] ?_
  refine NN (af.block ?_)
  refine af.loop (ι := Unit) (fun (u : Unit) => True) (fun (u : Unit) => 0) (fun (u : Unit) => (JB f L d name to toName ++ [(11, .iface 89 (vP (L.b tk)))] ++ JD L to)) (fun (u : Unit) => ((pA f m t L S) ++ [.abs R])) () (idx := [0, 1, 2, 3, 4, 11, 12, 13, 14]) (pk := [0, 1, 2, 3, 4, 5, 6]) (show True from trivial) (fun _ => by kernel_rfl) rfl (by kernel_rfl) ?_
  rintro u _
  show af _ _ _ _ (JB f L d name to toName ++ [(11, .iface 89 (vP (L.b tk)))] ++ JD L to) ((pA f m t L S) ++ [.abs R]) _
  refine af.seq (SR ?_)
  refine gK 5 [(34, .bool false)] [] ?_
  refine NN ?_
  refine CF ?_
  refine af.exit (ai.aW (ai.aW (ai.ck (NX (af.seq ?_)))))
  skip
  rcases hI.jS hto toName with bn | ⟨ok, bn, dh⟩ | ⟨ok, bn, dh⟩ | ⟨ok, bn, dh⟩
  ·refine af.region ?_
   refine gK 5 (sQ L to toName) [(3, v_ 3 (bC L cY))] ?_
   refine fK 5 cY bn ?_
   refine gK 1 [(15, .nilIface)] [] ?_
   refine NN (af.seq (SR ?_))
   refine gK 3 [(50, .bool false)] [] ?_
   refine NN ?_
   refine CF ?_
   refine af.skip (NX (af.seq (SR ?_)))
   refine gK 2 [(52, .bool false)] [] ?_
   refine NN ?_
   refine CF ?_
   refine af.skip (NX (SR ?_))
   have bT : Inv S := hI
   have hd1 := hd
   have dz := hlk
   have mZ := bn
   have iD := hto
   have iF : (obj S.O d).kind = 2 := bT.kind hd1
   have ng : (obj S.O to).kind = 2 := bT.kind iD
   have je : Live S.idx ⟨tk, 1⟩ := (bT.ent hd1 dz).2
   have jf : (obj S.O tk).kind = 1 := bT.kind je
   have y9 : (obj S.O d).ah.length ≤ 8192 := bT.eM hd1
   have za : (obj S.O to).ah.length ≤ 8192 := bT.eM iD
   have ni := bT.lb je
   have jg : tk ≠ d := bT.ne hd1 dz
   refine gK 3 (Cg f L d name) [] ?_
   refine gL [0, 3, 5] (gZ S.X f m t bT.hX S.O L d iF name hsz ⟨tk, 1⟩ jf (by simp) dz (bT.twice hd1) (by omega) (by simp only at ni ⊢; omega)) ?_
   rintro _ _ ⟨rfl, rfl⟩
   refine NS ?_
   refine gK 4 (Ch f L to toName ++ [(68, .iface 89 (vP (L.b tk)))]) [] ?_
   refine gL [0, 1, 2] (fO { S.X with ah := S.X.ah - 1 } f m t (bT.vm hd1 dz) (aL S.X S.O d name ⟨tk, 1⟩) L to (bX.trans ng) toName mz (iN jg mZ) (Nat.le_trans (j4 jg) (by omega)) ⟨tk, 1⟩ (bX.trans jf) (by simp) (iU bT.toInv0 hd1 dz)) ?_
   rintro _ _ ⟨rfl, rfl⟩
   refine NS ?_
   refine aj.mem (aR := [.blk f [vI (S.X.cN), vI (S.X.cB), vI (S.X.cH), vI (S.X.cS), vI (S.X.cZ), .map (some m), vP t, vI (S.X.last), vI (S.X.ah - 1 + 1), vI (S.X.used)] 86, .abs (ak (aN (br S.X (aL S.X S.O d name ⟨tk, 1⟩) to toName ⟨tk, 1⟩) L)), .abs (ak (bg (br S.X (aL S.X S.O d name ⟨tk, 1⟩) to toName ⟨tk, 1⟩) L)), .abs (aI Tryz.prog 3 m (aM (aJ L S.idx)) S.idx.length), .abs (bp 156 t S.X.cH S.au (aJ L S.us)), .abs (ak (aY (br S.X (aL S.X S.O d name ⟨tk, 1⟩) to toName ⟨tk, 1⟩) L)), .abs R]) (fun w hS => by rw [show aY (br S.X (aL S.X S.O d name ⟨tk, 1⟩) to toName ⟨tk, 1⟩) L = aY S.O L from fA.trans iM]; exact hS) ?_
   refine gK 1 [(10, vI 0)] [] ?_
   refine NN (af.ret ?_)
   exact RT (vI 0) [0, 3, 4, 1, 5, 2, 6] (⟨L, by rw [show renameM S d name to toName = (0, kW S d name to toName ⟨tk, 1⟩) by unfold renameM; rw [hlk]; refine (if_neg (fun h => absurd h.1 (by simp))).trans ?_; rw [bn]] <;> exact ⟨rfl, rfl⟩⟩)
  ·have jh : (obj S.O ok).kind = 1 := hI.kind dh
   refine af.region ?_
   refine gK 5 (sQ L to toName) [(3, v_ 3 (bC L cY))] ?_
   refine fK 5 cY bn ?_
   refine gK 1 [(15, .iface 89 (vP (L.b ok)))] [] ?_
   refine NN (af.seq (SR ?_))
   refine gK 2 [(48, .iface 89 (vP (L.b ok))), (49, .iface 89 (vP (L.b tk)))] [] ?_
   refine aj.gJ (d := (some 50)) (op := .binOp .eql 84 (.tmp 48) (.tmp 49) 84) (v := .bool (decide (ok = tk))) (fun _ => by kernel_rfl) (fun o junk w ho hS => by obtain ⟨F, hF⟩ := hS.get (i := 3) rfl; exact ⟨w, wi Le ho (by kernel_rfl) (by kernel_rfl) (by rw [jh]; decide) (by rw [hkt]; decide) hF, hS⟩) ?_
   refine NN ?_
   refine af.bB (p := ok = tk) (fun _ => by kernel_rfl) (fun h50 => ?_) (fun h50 => ?_)
   ·refine SR ?_
    refine gK 1 [(10, vI 0)] [] ?_
    refine NN (af.ret (ai.aq ?_))
    exact RT (vI 0) [0, 1, 2, 3, 4, 5, 6] (⟨L, by rw [show renameM S d name to toName = (0, S) by unfold renameM; rw [hlk]; refine (if_neg (fun h => absurd h.1 (by simp))).trans ?_; rw [bn]; exact if_pos (by rw [h50])] <;> exact ⟨rfl, rfl⟩⟩)
   refine af.skip (NX (af.seq (SR ?_)))
   refine gK 2 [(52, .bool true)] [] ?_
   refine NN ?_
   refine CT ?_
   refine af.seq (SR ?_)
   refine gK 1 [(53, .iface 89 (vP (L.b ok)))] [] ?_
   refine gL [] (jw (vP (L.b ok))) ?_
   rintro _ _ ⟨rfl, rfl⟩
   refine gK 1 [(55, .bool false)] [] ?_
   refine NN ?_
   refine CF ?_
   refine af.skip (NX (af.seq (SR ?_)))
   refine gK 1 [(56, .bool false)] [] ?_
   refine NN ?_
   refine CF ?_
   refine af.skip (NX (af.region ?_))
   refine gK 3 (JC f L to toName) [] ?_
   refine gL [0, 3, 5, 1] (lp S L f m t hI to hto toName mz ⟨ok, 1⟩ bn) ?_
   rintro _ _ ⟨rfl, rfl⟩
   refine NS ?_
   have bT : Inv (ar S to toName ⟨ok, 1⟩) := hI.uR hto bn (by simp)
   have hot : (⟨ok, 1⟩ : Th) ≠ ⟨tk, 1⟩ := fun e => h50 (congrArg Th.k e)
   have hd1 : Live (ar S to toName ⟨ok, 1⟩).idx ⟨d, 2⟩ := gY hI.toInv0 hto bn hd (fun e => by have := eV hd dh e; cases this)
   have iD : Live (ar S to toName ⟨ok, 1⟩).idx ⟨to, 2⟩ := gY hI.toInv0 hto bn hto (fun e => by have := eV hto dh e; cases this)
   have dz : aS name (obj (ar S to toName ⟨ok, 1⟩).O d).ah = some ⟨tk, 1⟩ := nM hI.toInv0 hto bn hlk hot
   have mZ : aS toName (obj (ar S to toName ⟨ok, 1⟩).O to).ah = none := nN hI.toInv0 hto bn
   have iF : (obj (ar S to toName ⟨ok, 1⟩).O d).kind = 2 := bT.kind hd1
   have ng : (obj (ar S to toName ⟨ok, 1⟩).O to).kind = 2 := bT.kind iD
   have je : Live (ar S to toName ⟨ok, 1⟩).idx ⟨tk, 1⟩ := (bT.ent hd1 dz).2
   have jf : (obj (ar S to toName ⟨ok, 1⟩).O tk).kind = 1 := bT.kind je
   have y9 : (obj (ar S to toName ⟨ok, 1⟩).O d).ah.length ≤ 8192 := bT.eM hd1
   have za : (obj (ar S to toName ⟨ok, 1⟩).O to).ah.length ≤ 8192 := bT.eM iD
   have ni := bT.lb je
   have jg : tk ≠ d := bT.ne hd1 dz
   refine gK 3 (Cg f L d name) [] ?_
   refine gL [0, 1, 2] (gZ (ar S to toName ⟨ok, 1⟩).X f m t bT.hX (ar S to toName ⟨ok, 1⟩).O L d iF name hsz ⟨tk, 1⟩ jf (by simp) dz (bT.twice hd1) (by omega) (by simp only at ni ⊢; omega)) ?_
   rintro _ _ ⟨rfl, rfl⟩
   refine NS ?_
   refine gK 4 (Ch f L to toName ++ [(68, .iface 89 (vP (L.b tk)))]) [] ?_
   refine gL [0, 1, 2] (fO { (ar S to toName ⟨ok, 1⟩).X with ah := (ar S to toName ⟨ok, 1⟩).X.ah - 1 } f m t (bT.vm hd1 dz) (aL (ar S to toName ⟨ok, 1⟩).X (ar S to toName ⟨ok, 1⟩).O d name ⟨tk, 1⟩) L to (bX.trans ng) toName mz (iN jg mZ) (Nat.le_trans (j4 jg) (by omega)) ⟨tk, 1⟩ (bX.trans jf) (by simp) (iU bT.toInv0 hd1 dz)) ?_
   rintro _ _ ⟨rfl, rfl⟩
   refine NS ?_
   refine aj.mem (aR := [.blk f [vI ((ar S to toName ⟨ok, 1⟩).X.cN), vI ((ar S to toName ⟨ok, 1⟩).X.cB), vI ((ar S to toName ⟨ok, 1⟩).X.cH), vI ((ar S to toName ⟨ok, 1⟩).X.cS), vI ((ar S to toName ⟨ok, 1⟩).X.cZ), .map (some m), vP t, vI ((ar S to toName ⟨ok, 1⟩).X.last), vI ((ar S to toName ⟨ok, 1⟩).X.ah - 1 + 1), vI ((ar S to toName ⟨ok, 1⟩).X.used)] 86, .abs (ak (aN (br (ar S to toName ⟨ok, 1⟩).X (aL (ar S to toName ⟨ok, 1⟩).X (ar S to toName ⟨ok, 1⟩).O d name ⟨tk, 1⟩) to toName ⟨tk, 1⟩) L)), .abs (ak (bg (br (ar S to toName ⟨ok, 1⟩).X (aL (ar S to toName ⟨ok, 1⟩).X (ar S to toName ⟨ok, 1⟩).O d name ⟨tk, 1⟩) to toName ⟨tk, 1⟩) L)), .abs (aI Tryz.prog 3 m (aM (aJ L ((ar S to toName ⟨ok, 1⟩).idx))) (((ar S to toName ⟨ok, 1⟩).idx).length)), .abs (bp 156 t S.X.cH S.au (aJ L S.us)), .abs (ak (aY (br (ar S to toName ⟨ok, 1⟩).X (aL (ar S to toName ⟨ok, 1⟩).X (ar S to toName ⟨ok, 1⟩).O d name ⟨tk, 1⟩) to toName ⟨tk, 1⟩) L)), .abs R]) (fun w hS => by rw [show aY (br (ar S to toName ⟨ok, 1⟩).X (aL (ar S to toName ⟨ok, 1⟩).X (ar S to toName ⟨ok, 1⟩).O d name ⟨tk, 1⟩) to toName ⟨tk, 1⟩) L = aY S.O L from fA.trans (iM.trans lg)]; exact hS) ?_
   refine gK 1 [(10, vI 0)] [] ?_
   refine NN (af.ret ?_)
   exact RT (vI 0) [0, 3, 4, 1, 5, 2, 6] (⟨L, by rw [show renameM S d name to toName = (0, kW (ar S to toName ⟨ok, 1⟩) d name to toName ⟨tk, 1⟩) by unfold renameM; rw [hlk]; refine (if_neg (fun h => absurd h.1 (by simp))).trans ?_; rw [bn]; exact (if_neg (fun e => h50 (congrArg Th.k e))).trans ((if_neg (by simp)).trans (if_neg (by simp)))] <;> exact ⟨rfl, rfl⟩⟩)
  ·have jh : (obj S.O ok).kind = 2 := hI.kind dh
   refine af.region ?_
   refine gK 5 (sQ L to toName) [(3, v_ 3 (bC L cY))] ?_
   refine fK 5 cY bn ?_
   refine gK 1 [(15, .iface 96 (vP (L.b ok)))] [] ?_
   refine NN (af.seq (SR ?_))
   refine gK 3 [(50, .bool false)] [] ?_
   refine NN ?_
   refine CF ?_
   refine af.skip (NX (af.seq (SR ?_)))
   refine gK 2 [(52, .bool true)] [] ?_
   refine NN ?_
   refine CT ?_
   refine af.seq (SR ?_)
   refine gK 1 [(53, .iface 96 (vP (L.b ok)))] [] ?_
   refine gL [] (jA (vP (L.b ok))) ?_
   rintro _ _ ⟨rfl, rfl⟩
   refine gK 1 [(55, .bool true)] [] ?_
   refine NN ?_
   refine CT ?_
   refine SR ?_
   refine gK 1 [(10, vI 172)] [] ?_
   refine NN (af.ret (ai.aq (ai.aq ?_)))
   exact RT (vI 172) [0, 1, 2, 3, 4, 5, 6] (⟨L, by rw [show renameM S d name to toName = (172, S) by unfold renameM; rw [hlk]; refine (if_neg (fun h => absurd h.1 (by simp))).trans ?_; rw [bn]; exact (if_neg (fun e => by cases e)).trans (if_pos rfl)] <;> exact ⟨rfl, rfl⟩⟩)
  have jh : (obj S.O ok).kind = 3 := hI.kind dh
  refine af.region ?_
  refine gK 5 (sQ L to toName) [(3, v_ 3 (bC L cY))] ?_
  refine fK 5 cY bn ?_
  refine gK 1 [(15, .iface 93 (vP (L.b ok)))] [] ?_
  refine NN (af.seq (SR ?_))
  refine gK 3 [(50, .bool false)] [] ?_
  refine NN ?_
  refine CF ?_
  refine af.skip (NX (af.seq (SR ?_)))
  refine gK 2 [(52, .bool true)] [] ?_
  refine NN ?_
  refine CT ?_
  refine af.seq (SR ?_)
  refine gK 1 [(53, .iface 93 (vP (L.b ok)))] [] ?_
  refine gL [] (j5 (vP (L.b ok))) ?_
  rintro _ _ ⟨rfl, rfl⟩
  refine gK 1 [(55, .bool false)] [] ?_
  refine NN ?_
  refine CF ?_
  refine af.skip (NX (af.seq (SR ?_)))
  refine gK 1 [(56, .bool false)] [] ?_
  refine NN ?_
  refine CF ?_
  refine af.skip (NX (af.region ?_))
  refine gK 3 (JC f L to toName) [] ?_
  refine gL [0, 3, 5, 1] (lp S L f m t hI to hto toName mz ⟨ok, 3⟩ bn) ?_
  rintro _ _ ⟨rfl, rfl⟩
  refine NS ?_
  have bT : Inv (ar S to toName ⟨ok, 3⟩) := hI.uR hto bn (by simp)
  have hot : (⟨ok, 3⟩ : Th) ≠ ⟨tk, 1⟩ := fun e => by cases e
  have hd1 : Live (ar S to toName ⟨ok, 3⟩).idx ⟨d, 2⟩ := gY hI.toInv0 hto bn hd (fun e => by have := eV hd dh e; cases this)
  have iD : Live (ar S to toName ⟨ok, 3⟩).idx ⟨to, 2⟩ := gY hI.toInv0 hto bn hto (fun e => by have := eV hto dh e; cases this)
  have dz : aS name (obj (ar S to toName ⟨ok, 3⟩).O d).ah = some ⟨tk, 1⟩ := nM hI.toInv0 hto bn hlk hot
  have mZ : aS toName (obj (ar S to toName ⟨ok, 3⟩).O to).ah = none := nN hI.toInv0 hto bn
  have iF : (obj (ar S to toName ⟨ok, 3⟩).O d).kind = 2 := bT.kind hd1
  have ng : (obj (ar S to toName ⟨ok, 3⟩).O to).kind = 2 := bT.kind iD
  have je : Live (ar S to toName ⟨ok, 3⟩).idx ⟨tk, 1⟩ := (bT.ent hd1 dz).2
  have jf : (obj (ar S to toName ⟨ok, 3⟩).O tk).kind = 1 := bT.kind je
  have y9 : (obj (ar S to toName ⟨ok, 3⟩).O d).ah.length ≤ 8192 := bT.eM hd1
  have za : (obj (ar S to toName ⟨ok, 3⟩).O to).ah.length ≤ 8192 := bT.eM iD
  have ni := bT.lb je
  have jg : tk ≠ d := bT.ne hd1 dz
  refine gK 3 (Cg f L d name) [] ?_
  refine gL [0, 1, 2] (gZ (ar S to toName ⟨ok, 3⟩).X f m t bT.hX (ar S to toName ⟨ok, 3⟩).O L d iF name hsz ⟨tk, 1⟩ jf (by simp) dz (bT.twice hd1) (by omega) (by simp only at ni ⊢; omega)) ?_
  rintro _ _ ⟨rfl, rfl⟩
  refine NS ?_
  refine gK 4 (Ch f L to toName ++ [(68, .iface 89 (vP (L.b tk)))]) [] ?_
  refine gL [0, 1, 2] (fO { (ar S to toName ⟨ok, 3⟩).X with ah := (ar S to toName ⟨ok, 3⟩).X.ah - 1 } f m t (bT.vm hd1 dz) (aL (ar S to toName ⟨ok, 3⟩).X (ar S to toName ⟨ok, 3⟩).O d name ⟨tk, 1⟩) L to (bX.trans ng) toName mz (iN jg mZ) (Nat.le_trans (j4 jg) (by omega)) ⟨tk, 1⟩ (bX.trans jf) (by simp) (iU bT.toInv0 hd1 dz)) ?_
  rintro _ _ ⟨rfl, rfl⟩
  refine NS ?_
  refine aj.mem (aR := [.blk f [vI ((ar S to toName ⟨ok, 3⟩).X.cN), vI ((ar S to toName ⟨ok, 3⟩).X.cB), vI ((ar S to toName ⟨ok, 3⟩).X.cH), vI ((ar S to toName ⟨ok, 3⟩).X.cS), vI ((ar S to toName ⟨ok, 3⟩).X.cZ), .map (some m), vP t, vI ((ar S to toName ⟨ok, 3⟩).X.last), vI ((ar S to toName ⟨ok, 3⟩).X.ah - 1 + 1), vI ((ar S to toName ⟨ok, 3⟩).X.used)] 86, .abs (ak (aN (br (ar S to toName ⟨ok, 3⟩).X (aL (ar S to toName ⟨ok, 3⟩).X (ar S to toName ⟨ok, 3⟩).O d name ⟨tk, 1⟩) to toName ⟨tk, 1⟩) L)), .abs (ak (bg (br (ar S to toName ⟨ok, 3⟩).X (aL (ar S to toName ⟨ok, 3⟩).X (ar S to toName ⟨ok, 3⟩).O d name ⟨tk, 1⟩) to toName ⟨tk, 1⟩) L)), .abs (aI Tryz.prog 3 m (aM (aJ L ((ar S to toName ⟨ok, 3⟩).idx))) (((ar S to toName ⟨ok, 3⟩).idx).length)), .abs (bp 156 t S.X.cH S.au (aJ L S.us)), .abs (ak (aY (br (ar S to toName ⟨ok, 3⟩).X (aL (ar S to toName ⟨ok, 3⟩).X (ar S to toName ⟨ok, 3⟩).O d name ⟨tk, 1⟩) to toName ⟨tk, 1⟩) L)), .abs R]) (fun w hS => by rw [show aY (br (ar S to toName ⟨ok, 3⟩).X (aL (ar S to toName ⟨ok, 3⟩).X (ar S to toName ⟨ok, 3⟩).O d name ⟨tk, 1⟩) to toName ⟨tk, 1⟩) L = aY S.O L from fA.trans (iM.trans lg)]; exact hS) ?_
  refine gK 1 [(10, vI 0)] [] ?_
  refine NN (af.ret ?_)
  exact RT (vI 0) [0, 3, 4, 1, 5, 2, 6] (⟨L, by rw [show renameM S d name to toName = (0, kW (ar S to toName ⟨ok, 3⟩) d name to toName ⟨tk, 1⟩) by unfold renameM; rw [hlk]; refine (if_neg (fun h => absurd h.1 (by simp))).trans ?_; rw [bn]; exact (if_neg (fun e => by cases e)).trans ((if_neg (by simp)).trans (if_neg (by simp)))] <;> exact ⟨rfl, rfl⟩⟩)
 ·have hkt : (obj S.O tk).kind = 2 := hI.kind hlv
  refine af.region ?_
  refine gK 1 [] [] ?_
  refine NS ?_
  refine gK 5 [(19, .map (some (L.m d))), (20, .string name)] [(3, v_ 3 (bC L hkd))] ?_
  refine fK 5 hkd hlk ?_
  refine gK 1 [(11, .iface 96 (vP (L.b tk)))] [] ?_
  refine NN (af.seq (SR ?_))
  refine gK 2 [(23, .bool false)] [] ?_
  refine NN ?_
  refine CF ?_
  refine af.skip (NX (SR ?_))
  refine gK 7 [(12, vP (L.b tk)), (13, .bool true)] [] ?_
  refine NN (af.seq (SR ?_))
  refine gK 2 [(14, vP (L.b to))] [] ?_
  refine NN (af.block ?_)
  obtain ⟨dp, hdp⟩ := hI.deep
  refine af.loop (ι := (Option Nat)) (fun (x : Option Nat) => (iB S.O tk to ↔ ∃ z0, x = some z0 ∧ iB S.O tk z0) ∧ (∀ z0, x = some z0 → Live S.idx ⟨z0, 2⟩)) (fun (x : Option Nat) => tS dp x) (fun (x : Option Nat) => [(0, vP f), (1, vP (L.b d)), (2, .string name), (3, vP (L.b to)), (4, .string toName), (11, .iface 96 (vP (L.b tk))), (12, vP (L.b tk)), (13, .bool true), (14, (qh L x))]) (fun (x : Option Nat) => ((pA f m t L S) ++ [.abs R])) ((some to)) (idx := [0, 1, 2, 3, 4, 11, 12, 13, 14]) (pk := [0, 1, 2, 3, 4, 5, 6]) (show (iB S.O tk to ↔ ∃ z0, ((some to)) = some z0 ∧ iB S.O tk z0) ∧ (∀ z0, ((some to)) = some z0 → Live S.idx ⟨z0, 2⟩) from ⟨⟨fun h => ⟨to, rfl, h⟩, fun ⟨y, e, h⟩ => by cases e; exact h⟩, fun y e => by cases e; exact hto⟩) (fun _ => by kernel_rfl) rfl (by kernel_rfl) ?_
  rintro x ⟨hbx, hlx⟩
  show af _ _ _ _ [(0, vP f), (1, vP (L.b d)), (2, .string name), (3, vP (L.b to)), (4, .string toName), (11, .iface 96 (vP (L.b tk))), (12, vP (L.b tk)), (13, .bool true), (14, (qh L x))] ((pA f m t L S) ++ [.abs R]) _
  refine af.seq (af.seq ?_)
  rcases hx : x with _ | y
  ·refine af.region ?_
   refine gK 5 [(34, .bool false)] [] ?_
   refine NN ?_
   refine CF ?_
   refine af.exit (ai.aW (ai.aW (ai.ck (NX (af.seq ?_)))))
   have hnb : ¬ iB S.O tk to := fun h => by obtain ⟨y, e, _⟩ := hbx.1 h; rw [hx] at e; cases e
   rcases hI.jS hto toName with bn | ⟨ok, bn, dh⟩ | ⟨ok, bn, dh⟩ | ⟨ok, bn, dh⟩
   ·refine af.region ?_
    refine gK 5 (sQ L to toName) [(3, v_ 3 (bC L cY))] ?_
    refine fK 5 cY bn ?_
    refine gK 1 [(15, .nilIface)] [] ?_
    refine NN (af.seq (SR ?_))
    refine gK 3 [(50, .bool false)] [] ?_
    refine NN ?_
    refine CF ?_
    refine af.skip (NX (af.seq (SR ?_)))
    refine gK 2 [(52, .bool false)] [] ?_
    refine NN ?_
    refine CF ?_
    refine af.skip (NX (SR ?_))
    have bT : Inv S := hI
    have hd1 := hd
    have dz := hlk
    have mZ := bn
    have iD := hto
    have iF : (obj S.O d).kind = 2 := bT.kind hd1
    have ng : (obj S.O to).kind = 2 := bT.kind iD
    have je : Live S.idx ⟨tk, 2⟩ := (bT.ent hd1 dz).2
    have jf : (obj S.O tk).kind = 2 := bT.kind je
    have y9 : (obj S.O d).ah.length ≤ 8192 := bT.eM hd1
    have za : (obj S.O to).ah.length ≤ 8192 := bT.eM iD
    have ni := bT.lb je
    have jg : tk ≠ d := bT.ne hd1 dz
    refine gK 3 (Cg f L d name) [] ?_
    refine gL [0, 3, 5] (gZ S.X f m t bT.hX S.O L d iF name hsz ⟨tk, 2⟩ jf (by simp) dz (bT.twice hd1) (by omega) (by simp only at ni ⊢; omega)) ?_
    rintro _ _ ⟨rfl, rfl⟩
    refine NS ?_
    refine gK 4 (Ch f L to toName ++ [(68, .iface 96 (vP (L.b tk)))]) [] ?_
    refine gL [0, 1, 2] (fO { S.X with ah := S.X.ah - 1 } f m t (bT.vm hd1 dz) (aL S.X S.O d name ⟨tk, 2⟩) L to (bX.trans ng) toName mz (iN jg mZ) (Nat.le_trans (j4 jg) (by omega)) ⟨tk, 2⟩ (bX.trans jf) (by simp) (iU bT.toInv0 hd1 dz)) ?_
    rintro _ _ ⟨rfl, rfl⟩
    refine NS ?_
    refine aj.mem (aR := [.blk f [vI (S.X.cN), vI (S.X.cB), vI (S.X.cH), vI (S.X.cS), vI (S.X.cZ), .map (some m), vP t, vI (S.X.last), vI (S.X.ah - 1 + 1), vI (S.X.used)] 86, .abs (ak (aN (br S.X (aL S.X S.O d name ⟨tk, 2⟩) to toName ⟨tk, 2⟩) L)), .abs (ak (bg (br S.X (aL S.X S.O d name ⟨tk, 2⟩) to toName ⟨tk, 2⟩) L)), .abs (aI Tryz.prog 3 m (aM (aJ L S.idx)) S.idx.length), .abs (bp 156 t S.X.cH S.au (aJ L S.us)), .abs (ak (aY (br S.X (aL S.X S.O d name ⟨tk, 2⟩) to toName ⟨tk, 2⟩) L)), .abs R]) (fun w hS => by rw [show aY (br S.X (aL S.X S.O d name ⟨tk, 2⟩) to toName ⟨tk, 2⟩) L = aY S.O L from fA.trans iM]; exact hS) ?_
    refine gK 1 [(10, vI 0)] [] ?_
    refine NN (af.ret ?_)
    exact RT (vI 0) [0, 3, 4, 1, 5, 2, 6] (⟨L, by rw [show renameM S d name to toName = (0, kW S d name to toName ⟨tk, 2⟩) by unfold renameM; rw [hlk]; refine (if_neg (fun h => hnb h.2)).trans ?_; rw [bn]] <;> exact ⟨rfl, rfl⟩⟩)
   ·have jh : (obj S.O ok).kind = 1 := hI.kind dh
    refine af.region ?_
    refine gK 5 (sQ L to toName) [(3, v_ 3 (bC L cY))] ?_
    refine fK 5 cY bn ?_
    refine gK 1 [(15, .iface 89 (vP (L.b ok)))] [] ?_
    refine NN (af.seq (SR ?_))
    refine gK 3 [(50, .bool false)] [] ?_
    refine NN ?_
    refine CF ?_
    refine af.skip (NX (af.seq (SR ?_)))
    refine gK 2 [(52, .bool true)] [] ?_
    refine NN ?_
    refine CT ?_
    refine af.seq (SR ?_)
    refine gK 1 [(53, .iface 89 (vP (L.b ok)))] [] ?_
    refine gL [] (jw (vP (L.b ok))) ?_
    rintro _ _ ⟨rfl, rfl⟩
    refine gK 1 [(55, .bool false)] [] ?_
    refine NN ?_
    refine CF ?_
    refine af.skip (NX (af.seq (SR ?_)))
    refine gK 1 [(56, .bool true)] [] ?_
    refine NN ?_
    refine CT ?_
    refine SR ?_
    refine gK 1 [(10, vI 173)] [] ?_
    refine NN (af.ret (ai.aq (ai.aq ?_)))
    exact RT (vI 173) [0, 1, 2, 3, 4, 5, 6] (⟨L, by rw [show renameM S d name to toName = (173, S) by unfold renameM; rw [hlk]; refine (if_neg (fun h => hnb h.2)).trans ?_; rw [bn]; exact (if_neg (fun e => by cases e)).trans ((if_neg (by simp)).trans (if_pos rfl))] <;> exact ⟨rfl, rfl⟩⟩)
   ·have jh : (obj S.O ok).kind = 2 := hI.kind dh
    refine af.region ?_
    refine gK 5 (sQ L to toName) [(3, v_ 3 (bC L cY))] ?_
    refine fK 5 cY bn ?_
    refine gK 1 [(15, .iface 96 (vP (L.b ok)))] [] ?_
    refine NN (af.seq (SR ?_))
    refine gK 2 [(48, .iface 96 (vP (L.b ok))), (49, .iface 96 (vP (L.b tk)))] [] ?_
    refine aj.gJ (d := (some 50)) (op := .binOp .eql 84 (.tmp 48) (.tmp 49) 84) (v := .bool (decide (ok = tk))) (fun _ => by kernel_rfl) (fun o junk w ho hS => by obtain ⟨F, hF⟩ := hS.get (i := 3) rfl; exact ⟨w, wi MV ho (by kernel_rfl) (by kernel_rfl) (by rw [jh]; decide) (by rw [hkt]; decide) hF, hS⟩) ?_
    refine NN ?_
    refine af.bB (p := ok = tk) (fun _ => by kernel_rfl) (fun h50 => ?_) (fun h50 => ?_)
    ·refine SR ?_
     refine gK 1 [(10, vI 0)] [] ?_
     refine NN (af.ret (ai.aq ?_))
     exact RT (vI 0) [0, 1, 2, 3, 4, 5, 6] (⟨L, by rw [show renameM S d name to toName = (0, S) by unfold renameM; rw [hlk]; refine (if_neg (fun h => hnb h.2)).trans ?_; rw [bn]; exact if_pos (by rw [h50])] <;> exact ⟨rfl, rfl⟩⟩)
    refine af.skip (NX (af.seq (SR ?_)))
    refine gK 2 [(52, .bool true)] [] ?_
    refine NN ?_
    refine CT ?_
    refine af.seq (SR ?_)
    refine gK 1 [(53, .iface 96 (vP (L.b ok)))] [] ?_
    refine gL [] (jA (vP (L.b ok))) ?_
    rintro _ _ ⟨rfl, rfl⟩
    refine gK 1 [(55, .bool true)] [] ?_
    refine NN ?_
    refine CT ?_
    refine SR ?_
    refine gK 1 [(10, vI 172)] [] ?_
    refine NN (af.ret (ai.aq (ai.aq ?_)))
    exact RT (vI 172) [0, 1, 2, 3, 4, 5, 6] (⟨L, by rw [show renameM S d name to toName = (172, S) by unfold renameM; rw [hlk]; refine (if_neg (fun h => hnb h.2)).trans ?_; rw [bn]; exact (if_neg (fun e => h50 (congrArg Th.k e))).trans (if_pos rfl)] <;> exact ⟨rfl, rfl⟩⟩)
   have jh : (obj S.O ok).kind = 3 := hI.kind dh
   refine af.region ?_
   refine gK 5 (sQ L to toName) [(3, v_ 3 (bC L cY))] ?_
   refine fK 5 cY bn ?_
   refine gK 1 [(15, .iface 93 (vP (L.b ok)))] [] ?_
   refine NN (af.seq (SR ?_))
   refine gK 3 [(50, .bool false)] [] ?_
   refine NN ?_
   refine CF ?_
   refine af.skip (NX (af.seq (SR ?_)))
   refine gK 2 [(52, .bool true)] [] ?_
   refine NN ?_
   refine CT ?_
   refine af.seq (SR ?_)
   refine gK 1 [(53, .iface 93 (vP (L.b ok)))] [] ?_
   refine gL [] (j5 (vP (L.b ok))) ?_
   rintro _ _ ⟨rfl, rfl⟩
   refine gK 1 [(55, .bool false)] [] ?_
   refine NN ?_
   refine CF ?_
   refine af.skip (NX (af.seq (SR ?_)))
   refine gK 1 [(56, .bool true)] [] ?_
   refine NN ?_
   refine CT ?_
   refine SR ?_
   refine gK 1 [(10, vI 173)] [] ?_
   refine NN (af.ret (ai.aq (ai.aq ?_)))
   exact RT (vI 173) [0, 1, 2, 3, 4, 5, 6] (⟨L, by rw [show renameM S d name to toName = (173, S) by unfold renameM; rw [hlk]; refine (if_neg (fun h => hnb h.2)).trans ?_; rw [bn]; exact (if_neg (fun e => by cases e)).trans ((if_neg (by simp)).trans (if_pos rfl))] <;> exact ⟨rfl, rfl⟩⟩)
  have hky : (obj S.O y).kind = 2 := hI.kind (hlx y hx)
  refine af.region ?_
  refine gK 5 [(34, .bool true)] [] ?_
  refine NN ?_
  refine CT ?_
  refine af.skip (NX (af.seq (af.block (SR ?_))))
  refine gK 2 [(39, vP (L.b y)), (40, vP (L.b tk))] [] ?_
  refine aj.gJ (d := (some 41)) (op := .binOp .eql 96 (.tmp 39) (.tmp 40) 96) (v := .bool (decide (y = tk))) (fun _ => by kernel_rfl) (fun o junk w ho hS => by obtain ⟨F, hF⟩ := hS.get (i := 3) rfl; exact ⟨w, FV ho (by kernel_rfl) (by kernel_rfl) (by rw [hky]; decide) (by rw [hkt]; decide) hF, hS⟩) ?_
  refine NN ?_
  refine af.bB (p := y = tk) (fun _ => by kernel_rfl) (fun JE => ?_) (fun JE => ?_)
  ·refine SR ?_
   refine gK 1 [(10, vI 174)] [] ?_
   refine NN (af.ret (ai.aE (ai.aq (ai.aq (ai.aE (ai.aq ?_))))))
   exact RT (vI 174) [0, 1, 2, 3, 4, 5, 6] (⟨L, by rw [show renameM S d name to toName = (174, S) by unfold renameM; rw [hlk]; exact if_pos ⟨rfl, hbx.2 ⟨y, hx, by rw [JE]; exact .here⟩⟩] <;> exact ⟨rfl, rfl⟩⟩)
  refine af.skip (ai.aQ (NX (af.region ?_)))
  refine gK 5 [(14, (qh L (obj S.O y).up))] [(3, v_ 3 (Oj L hky))] ?_
  refine NL ?_
  exact ai.turn (((obj S.O y).up)) (idx := [0, 1, 2, 3, 4, 11, 12, 13, 14]) (pk := [0, 1, 2, 3, 4, 5, 6]) (show (iB S.O tk to ↔ ∃ z0, (((obj S.O y).up)) = some z0 ∧ iB S.O tk z0) ∧ (∀ z0, (((obj S.O y).up)) = some z0 → Live S.idx ⟨z0, 2⟩) from ⟨hbx.trans ⟨fun ⟨y2, e, h⟩ => by rw [hx] at e; cases e; exact (xA JE).1 h, fun h => ⟨y, hx, (xA JE).2 h⟩⟩, fun z e => ((hI.up ⟨y, 2⟩ (hlx y hx) z).1 e).2.1⟩) (by show tS dp (((obj S.O y).up)) < tS dp (some y); exact FY hdp) (fun _ => by kernel_rfl) rfl (by kernel_rfl)
 have hkt : (obj S.O tk).kind = 3 := hI.kind hlv
 refine af.region ?_
 refine gK 1 [] [] ?_
 refine NS ?_
 refine gK 5 [(19, .map (some (L.m d))), (20, .string name)] [(3, v_ 3 (bC L hkd))] ?_
 refine fK 5 hkd hlk ?_
 refine gK 1 [(11, .iface 93 (vP (L.b tk)))] [] ?_
 refine NN (af.seq (SR ?_))
 refine gK 2 [(23, .bool false)] [] ?_
 refine NN ?_
 refine CF ?_
 refine af.skip (NX (SR ?_))
 refine gK 7 [(12, .pointer none), (13, .bool false)] [] ?_
 refine NN (af.seq (SR ?_))
 refine gK 2 [(14, vP (L.b to))] [] ?_
 refine NN (af.block ?_)
 refine af.loop (ι := Unit) (fun (u : Unit) => True) (fun (u : Unit) => 0) (fun (u : Unit) => (JB f L d name to toName ++ [(11, .iface 93 (vP (L.b tk)))] ++ JD L to)) (fun (u : Unit) => ((pA f m t L S) ++ [.abs R])) () (idx := [0, 1, 2, 3, 4, 11, 12, 13, 14]) (pk := [0, 1, 2, 3, 4, 5, 6]) (show True from trivial) (fun _ => by kernel_rfl) rfl (by kernel_rfl) ?_
 rintro u _
 show af _ _ _ _ (JB f L d name to toName ++ [(11, .iface 93 (vP (L.b tk)))] ++ JD L to) ((pA f m t L S) ++ [.abs R]) _
 refine af.seq (SR ?_)
 refine gK 5 [(34, .bool false)] [] ?_
 refine NN ?_
 refine CF ?_
 refine af.exit (ai.aW (ai.aW (ai.ck (NX (af.seq ?_)))))
 skip
 rcases hI.jS hto toName with bn | ⟨ok, bn, dh⟩ | ⟨ok, bn, dh⟩ | ⟨ok, bn, dh⟩
 ·refine af.region ?_
  refine gK 5 (sQ L to toName) [(3, v_ 3 (bC L cY))] ?_
  refine fK 5 cY bn ?_
  refine gK 1 [(15, .nilIface)] [] ?_
  refine NN (af.seq (SR ?_))
  refine gK 3 [(50, .bool false)] [] ?_
  refine NN ?_
  refine CF ?_
  refine af.skip (NX (af.seq (SR ?_)))
  refine gK 2 [(52, .bool false)] [] ?_
  refine NN ?_
  refine CF ?_
  refine af.skip (NX (SR ?_))
  have bT : Inv S := hI
  have hd1 := hd
  have dz := hlk
  have mZ := bn
  have iD := hto
  have iF : (obj S.O d).kind = 2 := bT.kind hd1
  have ng : (obj S.O to).kind = 2 := bT.kind iD
  have je : Live S.idx ⟨tk, 3⟩ := (bT.ent hd1 dz).2
  have jf : (obj S.O tk).kind = 3 := bT.kind je
  have y9 : (obj S.O d).ah.length ≤ 8192 := bT.eM hd1
  have za : (obj S.O to).ah.length ≤ 8192 := bT.eM iD
  have ni := bT.lb je
  have jg : tk ≠ d := bT.ne hd1 dz
  refine gK 3 (Cg f L d name) [] ?_
  refine gL [0, 3, 5] (gZ S.X f m t bT.hX S.O L d iF name hsz ⟨tk, 3⟩ jf (by simp) dz (bT.twice hd1) (by omega) (by simp only at ni ⊢; omega)) ?_
  rintro _ _ ⟨rfl, rfl⟩
  refine NS ?_
  refine gK 4 (Ch f L to toName ++ [(68, .iface 93 (vP (L.b tk)))]) [] ?_
  refine gL [0, 1, 2] (fO { S.X with ah := S.X.ah - 1 } f m t (bT.vm hd1 dz) (aL S.X S.O d name ⟨tk, 3⟩) L to (bX.trans ng) toName mz (iN jg mZ) (Nat.le_trans (j4 jg) (by omega)) ⟨tk, 3⟩ (bX.trans jf) (by simp) (iU bT.toInv0 hd1 dz)) ?_
  rintro _ _ ⟨rfl, rfl⟩
  refine NS ?_
  refine aj.mem (aR := [.blk f [vI (S.X.cN), vI (S.X.cB), vI (S.X.cH), vI (S.X.cS), vI (S.X.cZ), .map (some m), vP t, vI (S.X.last), vI (S.X.ah - 1 + 1), vI (S.X.used)] 86, .abs (ak (aN (br S.X (aL S.X S.O d name ⟨tk, 3⟩) to toName ⟨tk, 3⟩) L)), .abs (ak (bg (br S.X (aL S.X S.O d name ⟨tk, 3⟩) to toName ⟨tk, 3⟩) L)), .abs (aI Tryz.prog 3 m (aM (aJ L S.idx)) S.idx.length), .abs (bp 156 t S.X.cH S.au (aJ L S.us)), .abs (ak (aY (br S.X (aL S.X S.O d name ⟨tk, 3⟩) to toName ⟨tk, 3⟩) L)), .abs R]) (fun w hS => by rw [show aY (br S.X (aL S.X S.O d name ⟨tk, 3⟩) to toName ⟨tk, 3⟩) L = aY S.O L from fA.trans iM]; exact hS) ?_
  refine gK 1 [(10, vI 0)] [] ?_
  refine NN (af.ret ?_)
  exact RT (vI 0) [0, 3, 4, 1, 5, 2, 6] (⟨L, by rw [show renameM S d name to toName = (0, kW S d name to toName ⟨tk, 3⟩) by unfold renameM; rw [hlk]; refine (if_neg (fun h => absurd h.1 (by simp))).trans ?_; rw [bn]] <;> exact ⟨rfl, rfl⟩⟩)
 ·have jh : (obj S.O ok).kind = 1 := hI.kind dh
  refine af.region ?_
  refine gK 5 (sQ L to toName) [(3, v_ 3 (bC L cY))] ?_
  refine fK 5 cY bn ?_
  refine gK 1 [(15, .iface 89 (vP (L.b ok)))] [] ?_
  refine NN (af.seq (SR ?_))
  refine gK 3 [(50, .bool false)] [] ?_
  refine NN ?_
  refine CF ?_
  refine af.skip (NX (af.seq (SR ?_)))
  refine gK 2 [(52, .bool true)] [] ?_
  refine NN ?_
  refine CT ?_
  refine af.seq (SR ?_)
  refine gK 1 [(53, .iface 89 (vP (L.b ok)))] [] ?_
  refine gL [] (jw (vP (L.b ok))) ?_
  rintro _ _ ⟨rfl, rfl⟩
  refine gK 1 [(55, .bool false)] [] ?_
  refine NN ?_
  refine CF ?_
  refine af.skip (NX (af.seq (SR ?_)))
  refine gK 1 [(56, .bool false)] [] ?_
  refine NN ?_
  refine CF ?_
  refine af.skip (NX (af.region ?_))
  refine gK 3 (JC f L to toName) [] ?_
  refine gL [0, 3, 5, 1] (lp S L f m t hI to hto toName mz ⟨ok, 1⟩ bn) ?_
  rintro _ _ ⟨rfl, rfl⟩
  refine NS ?_
  have bT : Inv (ar S to toName ⟨ok, 1⟩) := hI.uR hto bn (by simp)
  have hot : (⟨ok, 1⟩ : Th) ≠ ⟨tk, 3⟩ := fun e => by cases e
  have hd1 : Live (ar S to toName ⟨ok, 1⟩).idx ⟨d, 2⟩ := gY hI.toInv0 hto bn hd (fun e => by have := eV hd dh e; cases this)
  have iD : Live (ar S to toName ⟨ok, 1⟩).idx ⟨to, 2⟩ := gY hI.toInv0 hto bn hto (fun e => by have := eV hto dh e; cases this)
  have dz : aS name (obj (ar S to toName ⟨ok, 1⟩).O d).ah = some ⟨tk, 3⟩ := nM hI.toInv0 hto bn hlk hot
  have mZ : aS toName (obj (ar S to toName ⟨ok, 1⟩).O to).ah = none := nN hI.toInv0 hto bn
  have iF : (obj (ar S to toName ⟨ok, 1⟩).O d).kind = 2 := bT.kind hd1
  have ng : (obj (ar S to toName ⟨ok, 1⟩).O to).kind = 2 := bT.kind iD
  have je : Live (ar S to toName ⟨ok, 1⟩).idx ⟨tk, 3⟩ := (bT.ent hd1 dz).2
  have jf : (obj (ar S to toName ⟨ok, 1⟩).O tk).kind = 3 := bT.kind je
  have y9 : (obj (ar S to toName ⟨ok, 1⟩).O d).ah.length ≤ 8192 := bT.eM hd1
  have za : (obj (ar S to toName ⟨ok, 1⟩).O to).ah.length ≤ 8192 := bT.eM iD
  have ni := bT.lb je
  have jg : tk ≠ d := bT.ne hd1 dz
  refine gK 3 (Cg f L d name) [] ?_
  refine gL [0, 1, 2] (gZ (ar S to toName ⟨ok, 1⟩).X f m t bT.hX (ar S to toName ⟨ok, 1⟩).O L d iF name hsz ⟨tk, 3⟩ jf (by simp) dz (bT.twice hd1) (by omega) (by simp only at ni ⊢; omega)) ?_
  rintro _ _ ⟨rfl, rfl⟩
  refine NS ?_
  refine gK 4 (Ch f L to toName ++ [(68, .iface 93 (vP (L.b tk)))]) [] ?_
  refine gL [0, 1, 2] (fO { (ar S to toName ⟨ok, 1⟩).X with ah := (ar S to toName ⟨ok, 1⟩).X.ah - 1 } f m t (bT.vm hd1 dz) (aL (ar S to toName ⟨ok, 1⟩).X (ar S to toName ⟨ok, 1⟩).O d name ⟨tk, 3⟩) L to (bX.trans ng) toName mz (iN jg mZ) (Nat.le_trans (j4 jg) (by omega)) ⟨tk, 3⟩ (bX.trans jf) (by simp) (iU bT.toInv0 hd1 dz)) ?_
  rintro _ _ ⟨rfl, rfl⟩
  refine NS ?_
  refine aj.mem (aR := [.blk f [vI ((ar S to toName ⟨ok, 1⟩).X.cN), vI ((ar S to toName ⟨ok, 1⟩).X.cB), vI ((ar S to toName ⟨ok, 1⟩).X.cH), vI ((ar S to toName ⟨ok, 1⟩).X.cS), vI ((ar S to toName ⟨ok, 1⟩).X.cZ), .map (some m), vP t, vI ((ar S to toName ⟨ok, 1⟩).X.last), vI ((ar S to toName ⟨ok, 1⟩).X.ah - 1 + 1), vI ((ar S to toName ⟨ok, 1⟩).X.used)] 86, .abs (ak (aN (br (ar S to toName ⟨ok, 1⟩).X (aL (ar S to toName ⟨ok, 1⟩).X (ar S to toName ⟨ok, 1⟩).O d name ⟨tk, 3⟩) to toName ⟨tk, 3⟩) L)), .abs (ak (bg (br (ar S to toName ⟨ok, 1⟩).X (aL (ar S to toName ⟨ok, 1⟩).X (ar S to toName ⟨ok, 1⟩).O d name ⟨tk, 3⟩) to toName ⟨tk, 3⟩) L)), .abs (aI Tryz.prog 3 m (aM (aJ L ((ar S to toName ⟨ok, 1⟩).idx))) (((ar S to toName ⟨ok, 1⟩).idx).length)), .abs (bp 156 t S.X.cH S.au (aJ L S.us)), .abs (ak (aY (br (ar S to toName ⟨ok, 1⟩).X (aL (ar S to toName ⟨ok, 1⟩).X (ar S to toName ⟨ok, 1⟩).O d name ⟨tk, 3⟩) to toName ⟨tk, 3⟩) L)), .abs R]) (fun w hS => by rw [show aY (br (ar S to toName ⟨ok, 1⟩).X (aL (ar S to toName ⟨ok, 1⟩).X (ar S to toName ⟨ok, 1⟩).O d name ⟨tk, 3⟩) to toName ⟨tk, 3⟩) L = aY S.O L from fA.trans (iM.trans lg)]; exact hS) ?_
  refine gK 1 [(10, vI 0)] [] ?_
  refine NN (af.ret ?_)
  exact RT (vI 0) [0, 3, 4, 1, 5, 2, 6] (⟨L, by rw [show renameM S d name to toName = (0, kW (ar S to toName ⟨ok, 1⟩) d name to toName ⟨tk, 3⟩) by unfold renameM; rw [hlk]; refine (if_neg (fun h => absurd h.1 (by simp))).trans ?_; rw [bn]; exact (if_neg (fun e => by cases e)).trans ((if_neg (by simp)).trans (if_neg (by simp)))] <;> exact ⟨rfl, rfl⟩⟩)
 ·have jh : (obj S.O ok).kind = 2 := hI.kind dh
  refine af.region ?_
  refine gK 5 (sQ L to toName) [(3, v_ 3 (bC L cY))] ?_
  refine fK 5 cY bn ?_
  refine gK 1 [(15, .iface 96 (vP (L.b ok)))] [] ?_
  refine NN (af.seq (SR ?_))
  refine gK 3 [(50, .bool false)] [] ?_
  refine NN ?_
  refine CF ?_
  refine af.skip (NX (af.seq (SR ?_)))
  refine gK 2 [(52, .bool true)] [] ?_
  refine NN ?_
  refine CT ?_
  refine af.seq (SR ?_)
  refine gK 1 [(53, .iface 96 (vP (L.b ok)))] [] ?_
  refine gL [] (jA (vP (L.b ok))) ?_
  rintro _ _ ⟨rfl, rfl⟩
  refine gK 1 [(55, .bool true)] [] ?_
  refine NN ?_
  refine CT ?_
  refine SR ?_
  refine gK 1 [(10, vI 172)] [] ?_
  refine NN (af.ret (ai.aq (ai.aq ?_)))
  exact RT (vI 172) [0, 1, 2, 3, 4, 5, 6] (⟨L, by rw [show renameM S d name to toName = (172, S) by unfold renameM; rw [hlk]; refine (if_neg (fun h => absurd h.1 (by simp))).trans ?_; rw [bn]; exact (if_neg (fun e => by cases e)).trans (if_pos rfl)] <;> exact ⟨rfl, rfl⟩⟩)
 have jh : (obj S.O ok).kind = 3 := hI.kind dh
 refine af.region ?_
 refine gK 5 (sQ L to toName) [(3, v_ 3 (bC L cY))] ?_
 refine fK 5 cY bn ?_
 refine gK 1 [(15, .iface 93 (vP (L.b ok)))] [] ?_
 refine NN (af.seq (SR ?_))
 refine gK 2 [(48, .iface 93 (vP (L.b ok))), (49, .iface 93 (vP (L.b tk)))] [] ?_
 refine aj.gJ (d := (some 50)) (op := .binOp .eql 84 (.tmp 48) (.tmp 49) 84) (v := .bool (decide (ok = tk))) (fun _ => by kernel_rfl) (fun o junk w ho hS => by obtain ⟨F, hF⟩ := hS.get (i := 3) rfl; exact ⟨w, wi Lf ho (by kernel_rfl) (by kernel_rfl) (by rw [jh]; decide) (by rw [hkt]; decide) hF, hS⟩) ?_
 refine NN ?_
 refine af.bB (p := ok = tk) (fun _ => by kernel_rfl) (fun h50 => ?_) (fun h50 => ?_)
 ·refine SR ?_
  refine gK 1 [(10, vI 0)] [] ?_
  refine NN (af.ret (ai.aq ?_))
  exact RT (vI 0) [0, 1, 2, 3, 4, 5, 6] (⟨L, by rw [show renameM S d name to toName = (0, S) by unfold renameM; rw [hlk]; refine (if_neg (fun h => absurd h.1 (by simp))).trans ?_; rw [bn]; exact if_pos (by rw [h50])] <;> exact ⟨rfl, rfl⟩⟩)
 refine af.skip (NX (af.seq (SR ?_)))
 refine gK 2 [(52, .bool true)] [] ?_
 refine NN ?_
 refine CT ?_
 refine af.seq (SR ?_)
 refine gK 1 [(53, .iface 93 (vP (L.b ok)))] [] ?_
 refine gL [] (j5 (vP (L.b ok))) ?_
 rintro _ _ ⟨rfl, rfl⟩
 refine gK 1 [(55, .bool false)] [] ?_
 refine NN ?_
 refine CF ?_
 refine af.skip (NX (af.seq (SR ?_)))
 refine gK 1 [(56, .bool false)] [] ?_
 refine NN ?_
 refine CF ?_
 refine af.skip (NX (af.region ?_))
 refine gK 3 (JC f L to toName) [] ?_
 refine gL [0, 3, 5, 1] (lp S L f m t hI to hto toName mz ⟨ok, 3⟩ bn) ?_
 rintro _ _ ⟨rfl, rfl⟩
 refine NS ?_
 have bT : Inv (ar S to toName ⟨ok, 3⟩) := hI.uR hto bn (by simp)
 have hot : (⟨ok, 3⟩ : Th) ≠ ⟨tk, 3⟩ := fun e => h50 (congrArg Th.k e)
 have hd1 : Live (ar S to toName ⟨ok, 3⟩).idx ⟨d, 2⟩ := gY hI.toInv0 hto bn hd (fun e => by have := eV hd dh e; cases this)
 have iD : Live (ar S to toName ⟨ok, 3⟩).idx ⟨to, 2⟩ := gY hI.toInv0 hto bn hto (fun e => by have := eV hto dh e; cases this)
 have dz : aS name (obj (ar S to toName ⟨ok, 3⟩).O d).ah = some ⟨tk, 3⟩ := nM hI.toInv0 hto bn hlk hot
 have mZ : aS toName (obj (ar S to toName ⟨ok, 3⟩).O to).ah = none := nN hI.toInv0 hto bn
 have iF : (obj (ar S to toName ⟨ok, 3⟩).O d).kind = 2 := bT.kind hd1
 have ng : (obj (ar S to toName ⟨ok, 3⟩).O to).kind = 2 := bT.kind iD
 have je : Live (ar S to toName ⟨ok, 3⟩).idx ⟨tk, 3⟩ := (bT.ent hd1 dz).2
 have jf : (obj (ar S to toName ⟨ok, 3⟩).O tk).kind = 3 := bT.kind je
 have y9 : (obj (ar S to toName ⟨ok, 3⟩).O d).ah.length ≤ 8192 := bT.eM hd1
 have za : (obj (ar S to toName ⟨ok, 3⟩).O to).ah.length ≤ 8192 := bT.eM iD
 have ni := bT.lb je
 have jg : tk ≠ d := bT.ne hd1 dz
 refine gK 3 (Cg f L d name) [] ?_
 refine gL [0, 1, 2] (gZ (ar S to toName ⟨ok, 3⟩).X f m t bT.hX (ar S to toName ⟨ok, 3⟩).O L d iF name hsz ⟨tk, 3⟩ jf (by simp) dz (bT.twice hd1) (by omega) (by simp only at ni ⊢; omega)) ?_
 rintro _ _ ⟨rfl, rfl⟩
 refine NS ?_
 refine gK 4 (Ch f L to toName ++ [(68, .iface 93 (vP (L.b tk)))]) [] ?_
 refine gL [0, 1, 2] (fO { (ar S to toName ⟨ok, 3⟩).X with ah := (ar S to toName ⟨ok, 3⟩).X.ah - 1 } f m t (bT.vm hd1 dz) (aL (ar S to toName ⟨ok, 3⟩).X (ar S to toName ⟨ok, 3⟩).O d name ⟨tk, 3⟩) L to (bX.trans ng) toName mz (iN jg mZ) (Nat.le_trans (j4 jg) (by omega)) ⟨tk, 3⟩ (bX.trans jf) (by simp) (iU bT.toInv0 hd1 dz)) ?_
 rintro _ _ ⟨rfl, rfl⟩
 refine NS ?_
 refine aj.mem (aR := [.blk f [vI ((ar S to toName ⟨ok, 3⟩).X.cN), vI ((ar S to toName ⟨ok, 3⟩).X.cB), vI ((ar S to toName ⟨ok, 3⟩).X.cH), vI ((ar S to toName ⟨ok, 3⟩).X.cS), vI ((ar S to toName ⟨ok, 3⟩).X.cZ), .map (some m), vP t, vI ((ar S to toName ⟨ok, 3⟩).X.last), vI ((ar S to toName ⟨ok, 3⟩).X.ah - 1 + 1), vI ((ar S to toName ⟨ok, 3⟩).X.used)] 86, .abs (ak (aN (br (ar S to toName ⟨ok, 3⟩).X (aL (ar S to toName ⟨ok, 3⟩).X (ar S to toName ⟨ok, 3⟩).O d name ⟨tk, 3⟩) to toName ⟨tk, 3⟩) L)), .abs (ak (bg (br (ar S to toName ⟨ok, 3⟩).X (aL (ar S to toName ⟨ok, 3⟩).X (ar S to toName ⟨ok, 3⟩).O d name ⟨tk, 3⟩) to toName ⟨tk, 3⟩) L)), .abs (aI Tryz.prog 3 m (aM (aJ L ((ar S to toName ⟨ok, 3⟩).idx))) (((ar S to toName ⟨ok, 3⟩).idx).length)), .abs (bp 156 t S.X.cH S.au (aJ L S.us)), .abs (ak (aY (br (ar S to toName ⟨ok, 3⟩).X (aL (ar S to toName ⟨ok, 3⟩).X (ar S to toName ⟨ok, 3⟩).O d name ⟨tk, 3⟩) to toName ⟨tk, 3⟩) L)), .abs R]) (fun w hS => by rw [show aY (br (ar S to toName ⟨ok, 3⟩).X (aL (ar S to toName ⟨ok, 3⟩).X (ar S to toName ⟨ok, 3⟩).O d name ⟨tk, 3⟩) to toName ⟨tk, 3⟩) L = aY S.O L from fA.trans (iM.trans lg)]; exact hS) ?_
 refine gK 1 [(10, vI 0)] [] ?_
 refine NN (af.ret ?_)
 exact RT (vI 0) [0, 3, 4, 1, 5, 2, 6] (⟨L, by rw [show renameM S d name to toName = (0, kW (ar S to toName ⟨ok, 3⟩) d name to toName ⟨tk, 3⟩) by unfold renameM; rw [hlk]; refine (if_neg (fun h => absurd h.1 (by simp))).trans ?_; rw [bn]; exact (if_neg (fun e => h50 (congrArg Th.k e))).trans ((if_neg (by simp)).trans (if_neg (by simp)))] <;> exact ⟨rfl, rfl⟩⟩)
end
section
open Go.RowKit Go.Maps HeapM TabM
attribute [local irreducible] aj aT af ai
abbrev Nw (S : aG) (L : HL) (k : Nat) := (.abs (ak (iC (aY S.O L) k bR.none)) : HP)
abbrev LG (A1 : Option Addr) (S : aG) (k : Nat) (bs : List UInt8) (c2 : Nat) := (.abs (aH 5 1 A1 (((obj S.O k).data ++ bs.take (aX S.X bs.length)).length) c2 (bL ((obj S.O k).data ++ bs.take (aX S.X bs.length)))) : HP)
abbrev Gi (f : Nat) (m : Nat) (t) (S : aG) (L : HL) (k : Nat) (R : bR) := ([pF f m t S.X, pI m L S.idx, pT t S.X.cH S.au L S.us, pO S.O L, Nw S L k, pE S.O L, .abs R] : List HP)
theorem Ab {β : Bs} (S : aG) (L : HL) (f m t : Nat) (hI : Inv S) (k : Nat) (hk : Live S.idx ⟨k, 1⟩) (A : Option Addr) (c : Nat) (bs : List UInt8) (hA : bJ β A bs) (hbl : bs.length ≤ 1099511627776) (hbc : bs.length ≤ c) :
    Spec Tryz.prog β 57 #[vP f, vP (L.b k), .slice A (bs.length) (c)] (pA f m t L S) (fun v l => ∃ L2, v = .tuple #[vI (writeM S k bs).1, vI (writeM S k bs).2.1] ∧ l = (pA f m t L2 ((writeM S k bs).2.2))) := by
 have hX := hI.hX
 have hkk : (obj S.O k).kind = 1 := hI.kind hk
 have Qx : ((obj S.O k).data.length : Int) ≤ S.X.used := hI.MY hk
 have hcB := hI.cB
 refine Spec.enter Tryz.func57 rfl Tryz.ntmps57 (Nat.le_of_ble_eq_true rfl) (fun R => ?_)
 refine SR ?_
 refine gK 2 [] [] ?_
 refine NN (af.seq (SR ?_))
 refine gK 3 [(12, .bool (decide ((((bs.length : Nat) : Int) : Int) = (0 : Int))))] [] ?_
 refine NN ?_
 refine af.bB (p := (((bs.length : Nat) : Int) : Int) = (0 : Int)) (fun _ => by kernel_rfl) (fun h12 => ?_) (fun h12 => ?_)
 ·have he : bs = [] := List.eq_nil_of_length_eq_zero (by omega)
  refine SR ?_
  refine gK 2 [(6, vI 0), (7, vI 0)] [] ?_
  refine NN (af.ret (ai.aq ?_))
  exact RT (.tuple #[vI 0, vI 0]) [0, 1, 2, 3, 4, 5, 6] (⟨L, by rw [show writeM S k bs = (0, 0, S) from if_pos he] <;> exact ⟨rfl, rfl⟩⟩)
 have hlen : 0 < bs.length := by omega
 refine af.skip (NX (af.seq ?_))
 refine af.bG (by kernel_rfl) (by kernel_rfl) ?_
 refine gQ 11 [(8, vI (S.X.cB - S.X.used))] [(4, a_ 0 f), (8, a_ 0 f), (9, p_ ⟨[], none, none, none, some (vI (S.X.cB - S.X.used))⟩ [(Value.int .i64 (IntKind.wrap .i64 (S.X.cB - S.X.used))) = (.int .i64 (S.X.cB - S.X.used))] ⟨bI (by omega) (by omega) (by omega), trivial⟩)] ?_
 refine NQ (NX (af.seq (SR ?_)))
 refine gK 2 [(24, .bool (decide ((S.X.cB - S.X.used : Int) ≤ (0 : Int))))] [] ?_
 refine NN ?_
 refine af.bB (p := (S.X.cB - S.X.used : Int) ≤ (0 : Int)) (fun _ => by kernel_rfl) (fun xW => ?_) (fun xW => ?_)
 ·refine SR ?_
  refine gK 2 [(6, vI 0), (7, vI 176)] [] ?_
  refine NN (af.ret (ai.aq ?_))
  exact RT (.tuple #[vI 0, vI 176]) [0, 1, 2, 3, 4, 5, 6] (⟨L, by rw [show writeM S k bs = (0, 176, S) from (if_neg (fun e => by rw [e] at hlen; exact absurd hlen (by simp))).trans (if_pos xW)] <;> exact ⟨rfl, rfl⟩⟩)
 refine af.skip (NX (SR ?_))
 refine gK 4 [(28, vI (min ((bs.length : Nat) : Int) (S.X.cB - S.X.used)))] [(3, p_ ⟨[], none, none, none, some (vI (min ((bs.length : Nat) : Int) (S.X.cB - S.X.used)))⟩ [(Value.int .i64 (if S.X.cB - S.X.used < ((bs.length : Nat) : Int) then S.X.cB - S.X.used else ((bs.length : Nat) : Int))) = (.int .i64 (min ((bs.length : Nat) : Int) (S.X.cB - S.X.used)))] ⟨congrArg (Value.int .i64) (Jo _ _), trivial⟩)] ?_
 refine aj.slot 28 (.int .i64 (min ((bs.length : Nat) : Int) (S.X.cB - S.X.used))) (.int .i64 ↑(aX S.X bs.length)) (fun _ => by kernel_rfl) (congrArg (Value.int .i64) (FZ (by omega))) ?_
 refine gK 1 [(9, vI ↑(aX S.X bs.length))] [] ?_
 refine NN (af.seq ?_)
 have hwl := F5 (X := S.X) (n := bs.length) (by omega)
 refine af.mem (aR := (Gi f m t S L k R ++ [.abs (aH 5 1 (L.dA k) ((obj S.O k).data.length) (L.dC k) (bL (obj S.O k).data))])) (fun w hS => hS.Fz (i := 4) (k := k) rfl hkk) ?_
 refine af.bZ (S := (Gi f m t S L k R)) [0, 1, 2, 3, 4, 5, 6, 7, 8, 9, 10, 11] 8 [0, 1, 2, 3, 4, 5, 6] (by kernel_rfl) (by kernel_rfl) rfl (by kernel_rfl) ?_
 refine aF.reads (r := 0) (l := [8, 9, 10, 11]) (fr' := [(0, vP f), (1, vP (L.b k)), (9, vI ↑(aX S.X bs.length)), (29, vP (L.b k)), (33, .slice (L.dA k) ((obj S.O k).data.length) ((L.dC k))), (36, .slice A ((aX S.X bs.length)) (c))]) (aV := [(((aX S.X bs.length) : Nat) : Int) = (((aX S.X bs.length) : Nat) : Int), (aX S.X bs.length) ≤ c, (∀ F w, (ak (aN S.O L)).h F w → w.cell? ⟨(L.b k), 9, none⟩ = some (.slice (L.dA k) ((obj S.O k).data.length) ((L.dC k))))]) [0, 1, 2, 3, 4, 5, 6, 7] [o_, o_, o_, o_, ⟨[.view 3 (.slice (L.dA k) ((obj S.O k).data.length) ((L.dC k)))], none, none, none, none⟩, o_, o_, ⟨[], some (aX S.X bs.length), none, none, none⟩] [0, 1, 9, 29, 33, 36] (fun _ => by kernel_rfl) ⟨rfl, by omega, bq (by rw [hkk]; decide) (by rw [eu (hkk)]; rfl), trivial⟩ rfl rfl ?_
 refine aF.cut (ι := (Option Addr) × Nat) (fr' := fun ((A1, c2) : (Option Addr) × Nat) => [(0, vP f), (1, vP (L.b k)), (9, vI ↑(aX S.X bs.length)), (29, vP (L.b k)), (37, .slice A1 (((obj S.O k).data ++ bs.take (aX S.X bs.length)).length) (c2))]) (hp' := fun ((A1, c2) : (Option Addr) × Nat) => (Gi f m t S L k R ++ [LG A1 S k bs c2])) [0, 1, 2, 3, 4, 5, 6] rfl rfl ?_ rfl (fun _ => by kernel_rfl) ?_
 ·refine aj.append 7 (d := (some 37)) (t := 41) (e := 5) (z := .int .u8 0) (size := 1) (bytes := 1) (n := (obj S.O k).data.length) (cap := (L.dC k)) (A := (L.dA k)) (xs := (bL (obj S.O k).data)) (s := (.tmp 33)) (x := (.tmp 36)) (ats := #[41, 41]) (A' := A) (m := (aX S.X bs.length)) (c' := c) (news := (bL (bs.take (aX S.X bs.length)))) (fun _ => by kernel_rfl) rfl (by kernel_rfl) (fun _ => by kernel_rfl) (fun _ => by kernel_rfl) Tryz.underlying41 (by kernel_rfl) rfl (by decide) (by rw [oF, List.length_take, Nat.min_eq_left hwl.1, Nat.mul_one]) (kU (bs.take (aX S.X bs.length))) ((hA.take (aX S.X bs.length)).src) (by unfold maxLen; omega) (by omega) (fun A1 c2 => ?_)
  refine aj.eO 7 (p := .abs (aH 5 1 A1 (((obj S.O k).data.length) + (aX S.X bs.length)) c2 ((bL (obj S.O k).data) ++ (bL (bs.take (aX S.X bs.length)))))) (p' := .abs (aH 5 1 A1 (((obj S.O k).data ++ bs.take (aX S.X bs.length)).length) c2 (bL ((obj S.O k).data ++ bs.take (aX S.X bs.length))))) (by kernel_rfl) (by rw [Ei, List.length_append, List.length_take, Nat.min_eq_left hwl.1]) ?_
  refine aj.slot 37 (.slice A1 (((obj S.O k).data.length) + (aX S.X bs.length)) (c2)) (.slice A1 (((obj S.O k).data ++ bs.take (aX S.X bs.length)).length) (c2)) (fun _ => by kernel_rfl) (by rw [List.length_append, List.length_take, Nat.min_eq_left hwl.1]) ?_
  refine NL ?_
  exact MD (A1, c2) [0, 1, 9, 29, 37] [0, 1, 2, 3, 4, 5, 6, 7]
 rintro ⟨A1, c2⟩
 refine aF.cut (ι := Unit) (fr' := fun (_ : Unit) => [(0, vP f), (1, vP (L.b k)), (9, vI ↑(aX S.X bs.length)), (37, .slice A1 (((obj S.O k).data ++ bs.take (aX S.X bs.length)).length) (c2)), (38, vP (L.b k))]) (hp' := fun (_ : Unit) => (Gi f m t S L k R ++ [LG A1 S k bs c2])) [0, 1, 2, 3, 4, 5, 6] rfl rfl ?_ rfl (fun _ => by kernel_rfl) ?_
 ·refine gK 1 [(38, vP (L.b k))] [] ?_
  refine NL ?_
  exact MD () [0, 1, 9, 37, 38] [0, 1, 2, 3, 4, 5, 6, 7]
 rintro _
 refine aF.cut (ι := Unit) (fr' := fun (_ : Unit) => [(0, vP f), (1, vP (L.b k)), (9, vI ↑(aX S.X bs.length)), (37, .slice A1 (((obj S.O k).data ++ bs.take (aX S.X bs.length)).length) (c2)), (39, .pointer (some ⟨(L.b k), 9, none⟩))]) (hp' := fun (_ : Unit) => (Gi f m t S L k R ++ [LG A1 S k bs c2])) [0, 1, 2, 3, 4, 5, 6] rfl rfl ?_ rfl (fun _ => by kernel_rfl) ?_
 ·refine gK 1 [(39, .pointer (some ⟨(L.b k), 9, none⟩))] [] ?_
  refine NL ?_
  exact MD () [0, 1, 9, 37, 39] [0, 1, 2, 3, 4, 5, 6, 7]
 rintro _
 refine aF.last rfl rfl ?_
 refine aj.mem (aR := [.blk f [vI (S.X.cN), vI (S.X.cB), vI (S.X.cH), vI (S.X.cS), vI (S.X.cZ), .map (some m), vP t, vI (S.X.last), vI (S.X.ah), vI (S.X.used)] 86, .abs (aI Tryz.prog 3 m (aM (aJ L S.idx)) S.idx.length), .abs (bp 156 t S.X.cH S.au (aJ L S.us)), .abs (ak (iC (aN S.O L) k bR.none)), .abs (ak (iC (aY S.O L) k bR.none)), .abs (ak (bg S.O L)), .abs R, .abs (aH 5 1 A1 (((obj S.O k).data ++ bs.take (aX S.X bs.length)).length) c2 (bL ((obj S.O k).data ++ bs.take (aX S.X bs.length)))), .blk (L.b k) [vI ((obj S.O k).id), vI ((obj S.O k).mode), vI ((obj S.O k).uid), vI ((obj S.O k).gid), vI ((obj S.O k).sec), vI ((obj S.O k).nano), vI ((obj S.O k).links), vI ((obj S.O k).opens), .bool (obj S.O k).gone, .slice (L.dA k) ((obj S.O k).data.length) ((L.dC k))] 92]) (fun w hS => hS.tH (i := 3) (k := k) rfl (by rw [hkk]; decide) (eu (hkk)) (by rw [hkk]; rfl)) ?_
 refine gC 1 [] [(0, a_ 8 (L.b k))] [(8, [(9, .slice A1 (((obj S.O k).data ++ bs.take (aX S.X bs.length)).length) (c2))])] ?_
 obtain ⟨L2, hL2⟩ : ∃ L2 : HL, L2 = L.data k A1 c2 := ⟨_, rfl⟩
 refine aj.mem (aR := [.abs (ak (aN (ay S.O k (fun o => { o with data := o.data ++ bs.take (aX S.X bs.length) })) L2)), .blk f [vI (S.X.cN), vI (S.X.cB), vI (S.X.cH), vI (S.X.cS), vI (S.X.cZ), .map (some m), vP t, vI (S.X.last), vI (S.X.ah), vI (S.X.used)] 86, .abs (aI Tryz.prog 3 m (aM (aJ L S.idx)) S.idx.length), .abs (bp 156 t S.X.cH S.au (aJ L S.us)), .abs (ak (iC (aY S.O L) k bR.none)), .abs (ak (bg S.O L)), .abs R, .abs (aH 5 1 A1 (((obj S.O k).data ++ bs.take (aX S.X bs.length)).length) c2 (bL ((obj S.O k).data ++ bs.take (aX S.X bs.length))))]) (fun w hS => hS.Ll hL2 (f := (fun o => { o with data := o.data ++ bs.take (aX S.X bs.length) })) (i := 3) (j := 8) (ix := [0, 1, 2, 4, 5, 6, 7]) rfl rfl (by kernel_rfl) rfl (by show (obj S.O k).kind ≠ 0; rw [hkk]; decide) ((eu (L := L2) (k := k) (o := (fun o => { o with data := o.data ++ bs.take (aX S.X bs.length) }) (obj S.O k)) hkk).trans (by rw [DA hL2, DB hL2] <;> rfl)) (by show kF (obj S.O k).kind = _; rw [hkk]; rfl)) ?_
 refine aj.mem (aR := [pD (ay S.O k (fun o => { o with data := o.data ++ bs.take (aX S.X bs.length) })) L2, pO (ay S.O k (fun o => { o with data := o.data ++ bs.take (aX S.X bs.length) })) L2, pF f m t S.X, pI m L S.idx, pT t S.X.cH S.au L S.us, pE S.O L, .abs R]) (fun w hS => hS.Lm hL2 (f := (fun o => { o with data := o.data ++ bs.take (aX S.X bs.length) })) (i := 4) (j := 7) (ix := [0, 1, 2, 3, 5, 6]) rfl rfl (by kernel_rfl) rfl hkk rfl rfl) ?_
 refine aj.mem (aR := [.abs (ak (aY (ay S.O k (fun o => { o with data := o.data ++ bs.take (aX S.X bs.length) })) L2)), .abs (ak (aN (ay S.O k (fun o => { o with data := o.data ++ bs.take (aX S.X bs.length) })) L2)), .blk f [vI (S.X.cN), vI (S.X.cB), vI (S.X.cH), vI (S.X.cS), vI (S.X.cZ), .map (some m), vP t, vI (S.X.last), vI (S.X.ah), vI (S.X.used)] 86, .abs (aI Tryz.prog 3 m (aM (aJ L2 S.idx)) S.idx.length), .abs (bp 156 t S.X.cH S.au (aJ L2 S.us)), .abs (ak (bg (ay S.O k (fun o => { o with data := o.data ++ bs.take (aX S.X bs.length) })) L2)), .abs R]) (fun w hS => by rw [BS hL2, BS hL2, show bg (ay S.O k (fun o => { o with data := o.data ++ bs.take (aX S.X bs.length) })) L2 = bg S.O L from (kz (O := S.O) (k := k) (f := (fun o => { o with data := o.data ++ bs.take (aX S.X bs.length) })) rfl rfl).trans (Ig hL2)]; exact hS) ?_
 have y8 : (obj (ay S.O k (fun o => { o with data := o.data ++ bs.take (aX S.X bs.length) })) k).kind = 1 := (ij (f := (fun o => { o with data := o.data ++ bs.take (aX S.X bs.length) })) (fun _ => rfl)).trans hkk
 have hbk : L2.b k = L.b k := F6 hL2
 generalize bP : (ay S.O k (fun o => { o with data := o.data ++ bs.take (aX S.X bs.length) })) = bK at y8 ⊢
 refine NL (ai.np (NX (SR ?_)))
 refine gK 1 [(40, vP (L.b k))] [] ?_
 refine aj.slot 40 (vP (L.b k)) (vP (L2.b k)) (fun _ => by kernel_rfl) (by rw [hbk]) ?_
 refine gK 8 [(45, .agg #[vI (S.X.cS), vI (S.X.cZ)]), (48, .pointer (some ⟨(L2.b k), 4, none⟩))] [(4, A_ 2 f 2)] ?_
 refine Gc 1 [(5, 1), (0, 2)] k S.X.cS S.X.cZ y8 (fun cV cu => ?_)
 have tY := ku cu y8
 refine NS ?_
 refine gC 9 [] [(3, a_ 2 f), (5, p_ ⟨[], none, none, none, some (vI (S.X.used + (((aX S.X bs.length) : Nat) : Int)))⟩ [(Value.int .i64 (IntKind.wrap .i64 (S.X.used + (((aX S.X bs.length) : Nat) : Int)))) = (.int .i64 (S.X.used + (((aX S.X bs.length) : Nat) : Int)))] ⟨bI (by omega) (by omega) (by omega), trivial⟩), (8, a_ 2 f)] [(2, [(9, vI (S.X.used + (((aX S.X bs.length) : Nat) : Int)))])] ?_
 refine NS ?_
 refine gK 3 [(6, vI ↑(aX S.X bs.length)), (7, vI 0)] [] ?_
 refine NN (af.ret ?_)
 exact RT (l := [pF f m t { S.X with used := S.X.used + (((aX S.X bs.length) : Nat) : Int) }, pI m L2 S.idx, pT t S.X.cH S.au L2 S.us, pO cV L2, pD cV L2, pE cV L2]) (.tuple #[vI ↑(aX S.X bs.length), vI 0]) [2, 3, 4, 1, 0, 5, 6] (⟨L2, by subst cu; subst bP; rw [show writeM S k bs = _ from (if_neg (fun e => by rw [e] at hlen; exact absurd hlen (by simp))).trans (if_neg xW)]; exact ⟨rfl, by rw [qg]⟩⟩)
end
end Go.Proofs.YtkiedlmhocglhaaGreatDoor
section
namespace Go.Proofs
open Go.Shelf
def Tryz.lays146_ren : Go.Shelf.Ren := ⟨fun | 146 => 102 | 221 => 145 | 268 => 178 | 138 => 179 | 143 => 180 | 195 => 194 | 197 => 195 | 218 => 196 | 219 => 197 | 260 => 202 | 217 => 181 | 225 => 154 | 224 => 153 | 267 => 203 | 266 => 198 | 314 => 204 | n => n, fun | 9 => 9 | 31 => 111 | 3 => 3 | 4 => 4 | 0 => 0 | 105 => 250 | 21 => 21 | 5 => 5 | 46 => 195 | 119 => 259 | 139 => 262 | 138 => 261 | 146 => 263 | 51 => 224 | n => n, fun | 1 => 0 | 3 => 1 | 4 => 2 | n => n⟩
theorem Tryz.lays146 : Go.Proofs.Lays.n146 Tryz.prog Tryz.lays146_ren := {
  mixed := by kernel_rfl
  f138 := Tryz.func179.trans (congrArg some (by kernel_rfl))
  f143 := Tryz.func180.trans (congrArg some (by kernel_rfl))
  f146 := Tryz.func102.trans (congrArg some (by kernel_rfl))
  f195 := Tryz.func194.trans (congrArg some (by kernel_rfl))
  f197 := Tryz.func195.trans (congrArg some (by kernel_rfl))
  f217 := Tryz.func181.trans (congrArg some (by kernel_rfl))
  f218 := Tryz.func196.trans (congrArg some (by kernel_rfl))
  f219 := Tryz.func197.trans (congrArg some (by kernel_rfl))
  f221 := Tryz.func145.trans (congrArg some (by kernel_rfl))
  f224 := Tryz.func153.trans (congrArg some (by kernel_rfl))
  f225 := Tryz.func154.trans (congrArg some (by kernel_rfl))
  f260 := Tryz.func202.trans (congrArg some (by kernel_rfl))
  f266 := Tryz.func198.trans (congrArg some (by kernel_rfl))
  f267 := Tryz.func203.trans (congrArg some (by kernel_rfl))
  f268 := Tryz.func178.trans (congrArg some (by kernel_rfl))
  f314 := Tryz.func204.trans (congrArg some (by kernel_rfl))
  t0 := Tryz.underlying0
  a0 := Tryz.isAgg0
  z0 := Tryz.sizeOf0
  v0 := Tryz.zeroValue0
  t3 := Tryz.underlying3
  a3 := Tryz.isAgg3
  z3 := Tryz.sizeOf3
  v3 := Tryz.zeroValue3
  t4 := Tryz.underlying4
  a4 := Tryz.isAgg4
  z4 := Tryz.sizeOf4
  v4 := Tryz.zeroValue4
  t5 := Tryz.underlying5
  a5 := Tryz.isAgg5
  z5 := Tryz.sizeOf5
  v5 := Tryz.zeroValue5
  t9 := Tryz.underlying9
  a9 := Tryz.isAgg9
  z9 := Tryz.sizeOf9
  v9 := Tryz.zeroValue9
  t21 := Tryz.underlying21
  a21 := Tryz.isAgg21
  z21 := Tryz.sizeOf21
  v21 := Tryz.zeroValue21
  t31 := Tryz.underlying111
  a31 := Tryz.isAgg111
  z31 := Tryz.sizeOf111
  v31 := Tryz.zeroValue111
  t46 := Tryz.underlying195
  a46 := Tryz.isAgg195
  z46 := Tryz.sizeOf195
  v46 := Tryz.zeroValue195
  t51 := Tryz.underlying224
  a51 := Tryz.isAgg224
  z51 := Tryz.sizeOf224
  v51 := Tryz.zeroValue224
  t105 := Tryz.underlying250
  a105 := Tryz.isAgg250
  z105 := Tryz.sizeOf250
  v105 := Tryz.zeroValue250
  t119 := Tryz.underlying259
  a119 := Tryz.isAgg259
  z119 := Tryz.sizeOf259
  t138 := Tryz.underlying261
  a138 := Tryz.isAgg261
  z138 := Tryz.sizeOf261
  v138 := Tryz.zeroValue261
  t139 := Tryz.underlying262
  a139 := Tryz.isAgg262
  z139 := Tryz.sizeOf262
  v139 := Tryz.zeroValue262
  t146 := Tryz.underlying263
  a146 := Tryz.isAgg263
  z146 := Tryz.sizeOf263
  v146 := Tryz.zeroValue263
  g1 := by kernel_rfl
  g3 := by kernel_rfl
  g4 := by kernel_rfl }
open Go.RowKit Go.Lib in
theorem Tryz.strings_Split (s sep : ByteArray) (m : Int) (w : World) (hs : s.size < 4294967281) (hm : w.cell? ⟨0, 0, none⟩ = some (.int .i64 m)) (h1 : 1 ≤ sep.size) :
    Calls Tryz.prog 102 #[.string s, .string sep] w fun e w' =>
      e = .returned (.slice (some ⟨w.heap.size, 0, none⟩) (Lib.countB s sep + 1) (Lib.countB s sep + 1)) ∧ w' = w.alloc (.cells ((Lib.splitB sep 0 (Lib.countB s sep) s).map Value.string).toArray 9) := Any.strings_Split Tryz.lays146 (by kernel_rfl) s sep m w hs hm h1
end Go.Proofs
end
namespace Go.Proofs.YtkiedlmhocglhaaGreatDoor
section
open Go.RowKit Go.Maps HeapM TabM
def fV (β : Bs) : Prop := ∃ m, Rd β ⟨0, 0, none⟩ (.int .i64 m)
theorem fV.le {β β' : Bs} (h : fV β) (hle : β.le β') : fV β' := h.imp fun _ h => h.le hle
theorem xX (s : ByteArray) : (gE s).length = Lib.countB s slash + 1 := Lib.splitB_all slash (by decide) 0 _ s rfl
theorem ug (s : ByteArray) : Lib.countB s slash ≤ s.size := Lib.countB_le slash (by decide) _ s (Nat.le_refl _)
theorem vz (sep : ByteArray) : ∀ (k : Nat) (s : ByteArray), ∀ p ∈ Lib.splitB sep 0 k s, p.size ≤ s.size
  | 0, s, p, hp => by
    rw [Lib.splitB_zero] at hp
    rw [List.mem_singleton.1 hp]; exact Nat.le_refl _
  | k + 1, s, p, hp => by
    rcases Lib.indexB_cases s sep with hix | ⟨i, hix, _⟩
    ·rw [Lib.splitB_miss sep 0 (k + 1) s hix] at hp
     rw [List.mem_singleton.1 hp]; exact Nat.le_refl _
    rw [Lib.splitB_hit sep 0 k s i hix] at hp
    rcases List.mem_cons.1 hp with rfl | hp
    ·rw [ByteArray.size_extract]; omega
    have := vz sep k _ p hp
    rw [ByteArray.size_extract] at this
    omega
theorem Da {s p : ByteArray} (hp : p ∈ gE s) : p.size ≤ s.size := vz slash _ s p hp
def jM (ps : List ByteArray) : List Value := ps.map Value.string
theorem Ip {β : Bs} (hg : fV β) (s : ByteArray) (hs : s.size ≤ 1048576) : Spec Tryz.prog β 102 #[.string s, .string ⟨#[47]⟩] [] (fun v l => ∃ b, v = .slice (some ⟨b, 0, none⟩) (gE s).length (gE s).length ∧ l = [.abs (aH 9 1 (some ⟨b, 0, none⟩) (gE s).length (gE s).length (jM (gE s)))]) :=
  Spec.AZ fun W hW => by
    obtain ⟨m, hg⟩ := hg
    have hm : W.cell? ⟨0, 0, none⟩ = some (.int .i64 m) := (World.cell?_of_block (w := β.w0) (hW.old _ hg.1).2).trans hg.2
    have hl := xX s
    have hc := ug s
    refine (Tryz.strings_Split s slash m W (by omega) hm (by decide)).mono ?_
    rintro e w' ⟨rfl, rfl⟩
    refine ⟨_, _, rfl, ⟨W.heap.size, by rw [hl], rfl⟩, (Keeps.refl _ _).alloc _, fun k => k = W.heap.size, ⟨⟨?_, .inr ⟨W.heap.size, (gE s).length, (jM (gE s)).toArray, rfl, Nat.zero_le _, ?_, Nat.le_refl _, ?_, ?_, ?_⟩⟩, fun k => ?_⟩, fun k hk => Nat.le_of_eq hk.symm⟩
    ·simp [jM]
    ·show (W.heap.push _)[W.heap.size]? = _
     simp [jM, gE]
    ·unfold maxLen; omega
    ·first | (simp [jM]; done) | (simp [jM]; exact List.take_of_length_le (by simp))
    ·first | (simp [jM]; done) | (simp [jM]; exact List.take_of_length_le (by simp))
    simp [Value.ownBlock, eq_comm]
theorem Gj {β : Bs} {ps : List ByteArray} (hg : fV β) (s : ByteArray) (hs : s.size ≤ 1048576) (hp : ps = gE s) : Spec Tryz.prog β 102 #[.string s, .string ⟨#[47]⟩] [] (fun v l => ∃ b, v = .slice (some ⟨b, 0, none⟩) ps.length ps.length ∧ l = [.abs (aH 9 1 (some ⟨b, 0, none⟩) ps.length ps.length (jM ps))]) := by
  subst hp; exact Ip hg s hs
def pc (ps : List ByteArray) (j : Nat) : ByteArray := ps.getD j ⟨#[]⟩
theorem Gl {ps : List ByteArray} {j : Nat} (hj : j < ps.length) : pc ps j ∈ ps := by
  unfold pc
  rw [List.getD_eq_getElem?_getD, List.getElem?_eq_getElem hj]
  exact List.getElem_mem _
theorem wq {ps : List ByteArray} {j : Nat} (hj : j < ps.length) : (jM ps)[j]? = some (.string (pc ps j)) := by
  unfold jM pc
  rw [List.getElem?_map, List.getD_eq_getElem?_getD, List.getElem?_eq_getElem hj]
  rfl
theorem ze {ps : List ByteArray} {j : Nat} (hj : j < ps.length) : ps.drop j = pc ps j :: ps.drop (j + 1) := by
  unfold pc
  rw [List.getD_eq_getElem?_getD, List.getElem?_eq_getElem hj]
  exact List.drop_eq_getElem_cons hj
theorem Ci {ps : List ByteArray} : (∀ p ∈ ps, bw p) ↔ ∀ j, j < ps.length → bw (pc ps j) := by
  refine ⟨fun h j hj => h _ (Gl hj), fun h p hp => ?_⟩
  obtain ⟨j, hj, rfl⟩ := List.getElem_of_mem hp
  have := h j hj
  unfold pc at this
  rw [List.getD_eq_getElem?_getD, List.getElem?_eq_getElem hj] at this
  exact this
theorem Ac {n : ByteArray} (h : bw n) : n.size ≤ 1048576 := Nat.le_trans h.2.1 (by decide)
theorem Cj {O : bM} : ∀ {ps : List ByteArray} {d : Nat} {e : Int}, iE O d ps = .error e → e ≠ 0
  | [], d, e, h => by cases h; decide
  | [p], d, e, h => by
    unfold iE at h
    split at h
    ·cases h; decide
    cases h
  | p :: q :: r, d, e, h => by
    unfold iE at h
    split at h
    ·cases h; decide
    split at h
    ·cases h; decide
    split at h
    ·cases h; decide
    exact Cj h
theorem Ad {S : aG} {d : Nat} (hI : Inv S) (hd : Live S.idx ⟨d, 2⟩) (path : ByteArray) : (∃ e, gP S.O d path = .error e ∧ e ≠ 0) ∨ ∃ d' name, gP S.O d path = .ok (d', name) ∧ Live S.idx ⟨d', 2⟩ ∧ (obj S.O d').gone = false ∧ bw name := by
  cases h : gP S.O d path with
  | error e =>
    refine .inl ⟨e, rfl, ?_⟩
    unfold gP at h
    split at h
    ·exact Cj h
    cases h; decide
  | ok x =>
    obtain ⟨d', name⟩ := x
    exact .inr ⟨d', name, rfl, y4 hI.toInv0 hd h⟩
section way
variable {O : bM} {d : Nat} {ps : List ByteArray} {j : Nat}
theorem Af (hj : j + 1 = ps.length) : iE O d (ps.drop j) = if (obj O d).gone = true then .error 170 else .ok (d, pc ps j) := by
  rw [ze (by omega), List.drop_of_length_le (by omega)]
  rfl
theorem qu (hj : j + 1 < ps.length) : iE O d (ps.drop j) = match aS (pc ps j) (obj O d).ah with
    | none => .error 170
    | some t => if t.kind = 3 then .error 174 else if t.kind = 1 then .error 173 else iE O t.k (ps.drop (j + 1)) := by
  rw [ze (j := j) (by omega), ze (j := j + 1) hj]
  rfl
end way
section bytes
variable {P : Program} {β : Bs} {N : Nat} {ops : Array Oper} {k : Nat} {fr : Fr} {hps : List HP} {Q : Post} {d : Option Tmp} {s : ByteArray}
theorem Bs.ok.Kk {β : Bs} {w : World} (h : β.ok w) (F : Nat → Prop) : β.le ⟨fun k => β.O k ∨ F k, w⟩ := ⟨fun _ h => .inl h, h.os, h.tape, h.output, h.size, fun k hk => h.old k hk⟩
theorem aj.Ck {t1 t2 e : TypeId} {x : Operand} (hop : ∀ junk, dP N junk ops fr k = some (.convert t1 t2 x, d)) (hx : ∀ junk, cC N fr junk x = .string s) (h1 : P.underlying t1 = some .string) (h2 : P.underlying t2 = some (.slice e)) (h3 : P.underlying e = some (.int .u8))
    (K : ∀ b cap, s.data.toList.length ≤ cap → aj P β N ops (k + 1) (cJ fr d (.slice (some ⟨b, 0, none⟩) s.data.toList.length cap)) (hps ++ [.abs (mw β (fun β' => bJ β' (some ⟨b, 0, none⟩) s.data.toList))]) Q) : aj P β N ops k fr hps Q := by
  refine aj.A8 (ι := { p : Nat × Nat // s.data.toList.length ≤ p.2 }) (v := fun p => .slice (some ⟨p.1.1, 0, none⟩) s.data.toList.length p.1.2) (hp' := fun p => hps ++ [.abs (mw β (fun β' => bJ β' (some ⟨p.1.1, 0, none⟩) s.data.toList))]) hop (fun o junk w ho hS => ?_) (fun p => K p.1.1 p.1.2 p.2)
  have hr := run_bytes_of_string (P := P) w t1 t2 e s h1 h2 h3
  have hsz : s.data.toList.length = s.size := Array.length_toList ..
  generalize hw : (w.drew.alloc (.cells (bytesRow s (grownCap w s.size 0 e)) e ((bytesRow s (grownCap w s.size 0 e)).size, (bytesRow s (grownCap w s.size 0 e)).size + 1))) = w' at hr
  have hk : Keeps (fun _ => False) w w' := by rw [← hw]; exact (Keeps.refl _ _).drew.alloc _
  have hok := hS.1.keeps hk (fun _ _ h => h)
  have hheap : w'.heap[w.heap.size]? = some (.cells (bytesRow s (grownCap w s.size 0 e)) e ((bytesRow s (grownCap w s.size 0 e)).size, (bytesRow s (grownCap w s.size 0 e)).size + 1)) := by
    rw [← hw]
    show (w.heap.push _)[w.heap.size]? = _
    simp
  have hsize : w.heap.size < w'.heap.size := by
    have := (Array.getElem?_eq_some_iff.1 hheap).1
    exact this
  refine ⟨⟨(w.heap.size, grownCap w s.size 0 e), by rw [hsz]; exact grownCap_ge w s.size 0 e⟩, w', .inl ?_, hS.new (F := fun k => k = w.heap.size) ?_ hk (fun k e => Nat.le_of_eq e.symm)⟩
  ·obtain ⟨dst, op, type, pos, after, guard⟩ := o
   cases ho
   have hr2 : (convert t1 t2 (.string s)).run P w = .ok (.slice (some ⟨w.heap.size, 0, none⟩) s.data.toList.length (grownCap w s.size 0 e)) w' := by rw [hr, hsz]
   simp only [execOp, hx]
   simp [hr2, Result.andThen]
  refine ⟨⟨fun k => β.O k ∨ k = w.heap.size, w'⟩, hok.Kk _, fun _ h => h, fun _ h => .inr h, Nat.le_refl _, fun k hk => ⟨by rw [hk]; exact hsize, rfl⟩, fun j v hj => ⟨rfl, .inr rfl, ?_⟩⟩
  show World.cell? w' ⟨w.heap.size, 0 + j, none⟩ = some v
  have hj2 := bA hj
  unfold World.cell?
  rw [hheap]
  unfold bL at hj hj2
  rw [List.length_map] at hj2
  rw [List.getElem?_map, List.getElem?_eq_getElem hj2] at hj
  simp only [Option.map_some, Option.some.injEq] at hj
  subst hj
  unfold bytesRow
  rw [Nat.zero_add]
  simp only [Option.isSome_none, Bool.false_eq_true, if_false]
  have hj3 : j < s.data.size := by rw [← Array.length_toList]; exact hj2
  rw [Array.getElem?_append_left (by simpa using hj3)]
  simp [rL]
  exact ⟨_, Array.getElem?_eq_getElem hj3, rfl⟩
end bytes
theorem xY {β : Bs} (S : aG) (L : HL) (f m t : Nat) (hI : Inv S) (k : Nat) (hk : Live S.idx ⟨k, 1⟩) (A : Option Addr) (c : Nat) (bs : List UInt8) (hbl : bs.length ≤ 1099511627776) (hbc : bs.length ≤ c) :
    Spec Tryz.prog β 57 #[vP f, vP (L.b k), .slice A bs.length c] (.abs (mw β (fun β' => bJ β' A bs)) :: pA f m t L S) (fun v l => ∃ L2, v = .tuple #[vI (writeM S k bs).1, vI (writeM S k bs).2.1] ∧ l = pA f m t L2 (writeM S k bs).2.2) :=
  Spec.Et fun _ _ hA => Ab S L f m t hI k hk A c bs hA hbl hbc
def wu (L : HL) : Except Int (Nat × ByteArray) → Value
  | .error e => .tuple #[.pointer none, .string ⟨#[]⟩, .int .i64 e]
  | .ok (d, p) => .tuple #[.pointer (some ⟨L.b d, 0, none⟩), .string p, .int .i64 0]
end
end Go.Proofs.YtkiedlmhocglhaaGreatDoor
