/-
  PROVED HERE: lemmas and contracts of functions (texts of this repo, joined; what the claim does not use is left out): Hv, Hw, Hx, Hy, Hz, Ac, Fz, Hc, Hd, H1, H2, H3, H4, H5, H6, ShelfP, As.
  CONDITIONS: as the theorems say.
-/
import Derived.Test.YtkiedlmhocglhaaGreatDoorMHconfined2
import Derived.Lib.Split
import Derived.Shelf.Strings.Split
import Derived.Test.YtkiedlmhocglhaaGreatDoorProg
import Derived.Laws.IdiomStrings
import Derived.Lib.SplitLaws
set_option maxRecDepth 100000
set_option maxHeartbeats 4000000
namespace Go.Proofs.YtkiedlmhocglhaaGreatDoor
section
open Go.RowKit Go.Maps HeapM TabM
section ops
variable {S : aG} {d to : Nat} {name toName : ByteArray} {t : Th}
theorem Inv.link (hI : Inv S) (hd : Live S.idx ⟨d, 2⟩) (gy : (obj S.O d).gone = false) (hn : aQ name (obj S.O d).ah = none) (hgn : bB name) (ht : Live S.idx t) (Ed : (obj S.O t.k).gone = false) (hk : t.kind ≠ 2) (hroom : S.X.ah < 8192) :
    Inv { S with X := { S.X with ah := S.X.ah + 1 }, O := bq S.X S.O d name t } := by
  have hne : t.k ≠ d := fun e => hk (congrArg Th.kind (eZ ht hd e))
  have h1 := hI.toInv0.put hd gy hn hgn ht Ed (fun e => absurd e hk) hne hroom hI.now (fun k => uw hne)
  refine ⟨h1, fun x hx hg => ?_⟩
  have hg : (obj (bq S.X S.O d name t) x.k).gone = true := hg
  show 0 < (obj (bq S.X S.O d name t) x.k).opens
  rw [kV (g := aM.gone) (fun _ _ => rfl) (fun _ _ => rfl) (fun _ _ _ => rfl) (fun _ _ => rfl)] at hg
  rw [kV (g := aM.opens) (fun _ _ => rfl) (fun _ _ => rfl) (fun _ _ _ => rfl) (fun _ _ => rfl)]
  exact hI.full x hx hg
theorem ja (hne : t.k ≠ d) {X : FM} {O : bK} (h : aQ toName (obj O to).ah = none) : aQ toName (obj (aJ X O d name t) to).ah = none := by
  rw [gI hne]
  split
  ·rename_i e
   subst e
   show aQ toName (eG name (obj O to).ah) = none
   rw [oh]; split
   ·rfl
   exact h
  split
  ·exact h
  exact h
theorem Inv.move (hI : Inv S) (hd : Live S.idx ⟨d, 2⟩) (hl : aQ name (obj S.O d).ah = some t) (hto : Live S.idx ⟨to, 2⟩) (gy : (obj S.O to).gone = false) (hn : aQ toName (obj S.O to).ah = none) (hgn : bB toName) (hb : t.kind = 2 → ¬ iN S.O t.k to) : Inv (moveM S d name to toName t) := by
  have hne := hI.ne hd hl
  have ht := (hI.ent hd hl).2
  have Jj : t.k ≠ to := fun e => by
    have h1 : t = ⟨to, 2⟩ := eZ ht hto e
    exact hb (by rw [h1]) (by rw [e]; exact .here)
  have hgt : (obj S.O t.k).gone = false := by
    cases hg : (obj S.O t.k).gone with
    | false => rfl
    | true =>
      have h1 := (hI.gone t ht hg).1
      have h2 := hI.links t ht
      have h3 : 0 < gh S.idx S.O t.k := kU hd hl
      omega
  have hO : ∀ k, obj (orphan (aJ S.X S.O d name t) t.k) k = if k = d then { obj S.O d with ah := eG name (obj S.O d).ah, sec := S.X.cS, nano := S.X.cZ } else if k = t.k then { obj S.O k with links := (obj S.O k).links - 1, gone := (obj S.O t.k).gone, up := none } else obj S.O k := fun k => by
    unfold orphan
    rw [jh]
    by_cases e : k = t.k
    ·rw [if_pos e, gI hne, if_neg (fun e2 => hne (e.symm.trans e2)), if_pos e, if_neg (fun e2 => hne (e.symm.trans e2)), if_pos e, e]
    rw [if_neg e, gI hne, if_neg e, if_neg e]
  have h1 := hI.toInv0.cut hd hl hO (.inl rfl)
  have g0 : ∀ {α : Type} (g : aM → α), (∀ o es, g { o with ah := es } = g o) → (∀ o l, g { o with links := l } = g o) → (∀ o a b, g { o with sec := a, nano := b } = g o) → (∀ o u, g { o with up := u } = g o) → ∀ k, g (obj (orphan (aJ S.X S.O d name t) t.k) k) = g (obj S.O k) := fun g a b c e k => (gE (fun o => e o none)).trans (cE a b c)
  have hlk := hI.links t ht
  have hlp : 0 < gh S.idx S.O t.k := kU hd hl
  have hend : (obj (orphan (aJ S.X S.O d name t) t.k) to).ah = (obj (aJ S.X S.O d name t) to).ah := gE (g := aM.ah) (fun _ => rfl)
  have h2 := h1.put (d := to) (name := toName) (t := t) (O' := (moveM S d name to toName t).O) hto (by
      show (obj (orphan (aJ S.X S.O d name t) t.k) to).gone = false
      rw [g0 aM.gone (fun _ _ => rfl) (fun _ _ => rfl) (fun _ _ _ => rfl) (fun _ _ => rfl)]; exact gy) (by
      show aQ toName (obj (orphan (aJ S.X S.O d name t) t.k) to).ah = none
      rw [hend]; exact ja hne hn) hgn ht (by
      show (obj (orphan (aJ S.X S.O d name t) t.k) t.k).gone = false
      rw [g0 aM.gone (fun _ _ => rfl) (fun _ _ => rfl) (fun _ _ _ => rfl) (fun _ _ => rfl)]; exact hgt) (fun hk => ⟨by
        have h3 := hI.once t ht hk
        show (obj (orphan (aJ S.X S.O d name t) t.k) t.k).links = 0
        rw [hO, if_neg hne, if_pos rfl]
        show (obj S.O t.k).links - 1 = 0
        omega, fun hb2 => hb hk (E6 (fun x e hx => by
          have hx : (obj (orphan (aJ S.X S.O d name t) t.k) x).up = some e := hx
          by_cases e1 : x = t.k
          ·rw [hO, if_neg (by rw [e1]; exact hne), if_pos e1] at hx; cases hx
          rw [hO] at hx
          split at hx
          ·rename_i e2; rw [e2]; exact hx
          first | exact hx | (rw [if_neg e1] at hx; exact hx)) hb2)⟩) Jj (by
      have := hI.total
      show S.X.ah - 1 < 8192
      omega) hI.now (fun k => by
      show obj (bq S.X (aJ S.X S.O d name t) to toName t) k = _
      rw [uw Jj]
      by_cases e : k = to
      ·rw [if_pos e, if_pos e]
       have h3 : obj (orphan (aJ S.X S.O d name t) t.k) to = obj (aJ S.X S.O d name t) to := bQ (fun e => Jj e.symm)
       rw [show obj _ to = _ from h3]
      rw [if_neg e, if_neg e]
      by_cases e2 : k = t.k
      ·rw [if_pos e2, if_pos e2, e2]
       show _ = { obj (orphan (aJ S.X S.O d name t) t.k) t.k with links := (obj (orphan (aJ S.X S.O d name t) t.k) t.k).links + 1, up := if t.kind = 2 then some to else (obj (orphan (aJ S.X S.O d name t) t.k) t.k).up }
       have h3 : obj (orphan (aJ S.X S.O d name t) t.k) t.k = { obj (aJ S.X S.O d name t) t.k with up := none } := bG
       rw [h3]
       by_cases hk : t.kind = 2
       ·rw [if_pos hk, if_pos hk]
       rw [if_neg hk, if_neg hk]
       have E7 : (obj (aJ S.X S.O d name t) t.k).up = none := by
         rw [cE (g := aM.up) (fun _ _ => rfl) (fun _ _ => rfl) (fun _ _ _ => rfl)]
         cases hu : (obj S.O t.k).up with
         | none => rfl
         | some e => exact absurd ((hI.up t ht e).1 hu).1 hk
       rw [E7]
      rw [if_neg e2, if_neg e2]
      have h3 : obj (orphan (aJ S.X S.O d name t) t.k) k = obj (aJ S.X S.O d name t) k := bQ e2
      exact h3.symm)
  refine ⟨h2, fun x hx hg => ?_⟩
  have g3 : ∀ {α : Type} (g : aM → α), (∀ o es, g { o with ah := es } = g o) → (∀ o l, g { o with links := l } = g o) → (∀ o a b, g { o with sec := a, nano := b } = g o) → (∀ o u, g { o with up := u } = g o) → ∀ k, g (obj (moveM S d name to toName t).O k) = g (obj S.O k) := fun g a b c e k => (kV a b c e).trans (cE a b c)
  rw [g3 aM.gone (fun _ _ => rfl) (fun _ _ => rfl) (fun _ _ _ => rfl) (fun _ _ => rfl)] at hg
  rw [g3 aM.opens (fun _ _ => rfl) (fun _ _ => rfl) (fun _ _ _ => rfl) (fun _ _ => rfl)]
  exact hI.full x hx hg
theorem zJ {us : Used Th} {h : Int} {k : Nat} : hnd (ins h t us) k = (if t.k = k then 1 else 0) + hnd us k := wP
theorem La {us : Used Th} {h : Int} {k : Nat} (hr : TabM.bP (keys us)) (e : TabM.get us h = some t) : hnd (del h us) k + (if t.k = k then 1 else 0) = hnd us k := wR (g := fun p : Int × Th => if p.2.k = k then 1 else 0) hr e
theorem Eh {us : Used Th} {av : Int} (hr : TabM.bP (keys us)) (h1 : ∀ x ∈ keys us, 1 ≤ x ∧ x ≤ av) : TabM.bP (keys (ins (TabM.least us) t us)) ∧ ∀ x ∈ keys (ins (TabM.least us) t us), 1 ≤ x ∧ x ≤ max av ((us.length : Int) + 1) := by
  obtain ⟨g1, g2, _⟩ := least_le hr (fun x hx => (h1 x hx).1)
  have g3 := DK us
  refine ⟨sP hr g2, fun x hx => ?_⟩
  rcases (jQ _ _ _ _).1 hx with e | e
  ·subst e; omega
  have := h1 x e; omega
theorem Inv.openM (hI : Inv S) (ht : Live S.idx t) (hk : t.kind ≠ 3) : Inv (Proofs.YtkiedlmhocglhaaGreatDoor.openM S t).2.2 := by
  by_cases hlt : (S.us.length : Int) < S.X.cH
  ·rw [iz hlt]
   obtain ⟨g1, g2, _⟩ := least_le hI.usr (fun x hx => (hI.ur x hx).1)
   obtain ⟨v1, v2⟩ := Eh (t := t) hI.usr hI.ur
   have hb : bytes S.idx (ay S.O t.k (fun o => { o with opens := o.opens + 1 })) = bytes S.idx S.O := eT (fun p _ => by rw [cI (f := fun o => { o with opens := o.opens + 1 }) (g := aM.data) (fun _ => rfl)])
   have h1 := hI.toInv0.own (k := t.k) (f := fun o => { o with opens := o.opens + 1 }) (jq := S.X.used) (us' := ins (TabM.least S.us) t S.us) (eU := max S.av ((S.us.length : Int) + 1)) (fun _ => rfl) (fun _ => rfl) (fun _ => rfl) (fun _ => rfl) (fun _ => rfl) (fun _ => rfl)
     (fun u hu e => by rw [← e]; exact (hI.mt u hu).of rfl rfl rfl (hI.mt u hu).time rfl (.inl rfl) (.inl rfl) rfl)
     (fun u hu => by
       have h2 := hI.opens u hu
       rw [zJ]
       by_cases e : u.k = t.k
       ·rw [e, bG, if_pos rfl, ← e]
        show (obj S.O u.k).opens + 1 = _
        omega
       rw [bQ e, if_neg (fun e2 => e e2.symm)]; omega)
     v1 v2 (by rw [gi]; omega) (by have := hI.av; omega) (fun h u e => by
       rw [pQ g2] at e
       split at e
       ·cases e; exact ⟨ht, hk⟩
       exact hI.us h u e) ⟨by rw [hb]; exact hI.used.1, hI.used.2⟩
   refine ⟨h1, fun u hu hg => ?_⟩
   have hg : (obj (ay S.O t.k (fun o => { o with opens := o.opens + 1 })) u.k).gone = true := hg
   rw [cI (f := fun o => { o with opens := o.opens + 1 }) (g := aM.gone) (fun _ => rfl)] at hg
   have h2 := hI.full u hu hg
   show 0 < (obj (ay S.O t.k (fun o => { o with opens := o.opens + 1 })) u.k).opens
   by_cases e : u.k = t.k
   ·rw [e, bG]; rw [e] at h2; show 0 < (obj S.O t.k).opens + 1; omega
   rw [bQ e]; exact h2
  rw [jI hlt]; exact hI
theorem Inv.writeM (hI : Inv S) {k : Nat} (ht : Live S.idx ⟨k, 1⟩) (bs : List UInt8) : Inv (Proofs.YtkiedlmhocglhaaGreatDoor.writeM S k bs).2.2 := by
  unfold Proofs.YtkiedlmhocglhaaGreatDoor.writeM
  split
  ·exact hI
  split
  ·exact hI
  rename_i hroom
  have hlen : (obj (ay S.O k (fun o => { o with data := o.data ++ bs.take (aW S.X bs.length), sec := S.X.cS, nano := S.X.cZ })) k).data.length = (obj S.O k).data.length + aW S.X bs.length := by
    rw [bG]
    show ((obj S.O k).data ++ bs.take (aW S.X bs.length)).length = _
    rw [List.length_append, List.length_take]
    unfold aW
    omega
  have hb := wQ (g := fun p : Int × Th => (obj S.O p.2.k).data.length) (g' := fun p : Int × Th => (obj (ay S.O k (fun o => { o with data := o.data ++ bs.take (aW S.X bs.length), sec := S.X.cS, nano := S.X.cZ })) p.2.k).data.length) hI.rise ht (fun p hp hne => by
    have h1 := hI.key (kT hI.rise hp)
    show (obj (ay _ k _) p.2.k).data.length = _
    rw [bQ (fun e => hne (by rw [h1, e]))])
  have hb : bytes S.idx (ay S.O k (fun o => { o with data := o.data ++ bs.take (aW S.X bs.length), sec := S.X.cS, nano := S.X.cZ })) + (obj S.O k).data.length = bytes S.idx S.O + (obj (ay S.O k (fun o => { o with data := o.data ++ bs.take (aW S.X bs.length), sec := S.X.cS, nano := S.X.cZ })) k).data.length := hb
  have hu := hI.used
  have hcB := hI.cB
  have h1 := hI.toInv0.own (k := k) (f := fun o => { o with data := o.data ++ bs.take (aW S.X bs.length), sec := S.X.cS, nano := S.X.cZ }) (jq := S.X.used + (aW S.X bs.length : Int)) (us' := S.us) (eU := S.av) (fun _ => rfl) (fun _ => rfl) (fun _ => rfl) (fun _ => rfl) (fun _ => rfl) (fun _ => rfl)
    (fun u hu e => by
      have hk1 : u = ⟨k, 1⟩ := eZ hu ht e
      have Oc := hI.kind hu
      rw [← e]
      exact (hI.mt u hu).of rfl rfl rfl hI.now rfl (.inr (by rw [Oc, hk1])) (.inl rfl) rfl)
    (fun u hu => by rw [cI (f := fun o => { o with data := o.data ++ bs.take (aW S.X bs.length), sec := S.X.cS, nano := S.X.cZ }) (g := aM.opens) (fun _ => rfl)]; exact hI.opens u hu)
    hI.usr hI.ur hI.AR hI.av hI.us ⟨by omega, by unfold aW; omega⟩
  refine ⟨h1, fun u hu hg => ?_⟩
  have hg : (obj (ay S.O k (fun o => { o with data := o.data ++ bs.take (aW S.X bs.length), sec := S.X.cS, nano := S.X.cZ })) u.k).gone = true := hg
  rw [cI (f := fun o => { o with data := o.data ++ bs.take (aW S.X bs.length), sec := S.X.cS, nano := S.X.cZ }) (g := aM.gone) (fun _ => rfl)] at hg
  show 0 < (obj (ay S.O k (fun o => { o with data := o.data ++ bs.take (aW S.X bs.length), sec := S.X.cS, nano := S.X.cZ })) u.k).opens
  rw [cI (f := fun o => { o with data := o.data ++ bs.take (aW S.X bs.length), sec := S.X.cS, nano := S.X.cZ }) (g := aM.opens) (fun _ => rfl)]
  exact hI.full u hu hg
theorem Inv.Od (hI : Inv S) {k : Nat} {mode uid gid sec nano : Int} (h1 : lu mode) (h2 : x7 uid ∧ x7 gid) (h3 : cT sec nano) : Inv { S with O := ay S.O k (fun o => { o with mode := mode, uid := uid, gid := gid, sec := sec, nano := nano }) } := by
  have hb : bytes S.idx (ay S.O k (fun o => { o with mode := mode, uid := uid, gid := gid, sec := sec, nano := nano })) = bytes S.idx S.O := eT (fun p _ => by rw [cI (f := fun o => { o with mode := mode, uid := uid, gid := gid, sec := sec, nano := nano }) (g := aM.data) (fun _ => rfl)])
  have g1 := hI.toInv0.own (k := k) (f := fun o => { o with mode := mode, uid := uid, gid := gid, sec := sec, nano := nano }) (jq := S.X.used) (us' := S.us) (eU := S.av) (fun _ => rfl) (fun _ => rfl) (fun _ => rfl) (fun _ => rfl) (fun _ => rfl) (fun _ => rfl)
    (fun u hu e => by
      have hm := hI.mt u hu
      rw [e] at hm
      exact ⟨h1, h2.1, h2.2, h3, hm.data, hm.ah, hm.target⟩)
    (fun u hu => by rw [cI (f := fun o => { o with mode := mode, uid := uid, gid := gid, sec := sec, nano := nano }) (g := aM.opens) (fun _ => rfl)]; exact hI.opens u hu)
    hI.usr hI.ur hI.AR hI.av hI.us ⟨by rw [hb]; exact hI.used.1, hI.used.2⟩
  refine ⟨g1, fun u hu hg => ?_⟩
  have hg : (obj (ay S.O k (fun o => { o with mode := mode, uid := uid, gid := gid, sec := sec, nano := nano })) u.k).gone = true := hg
  rw [cI (f := fun o => { o with mode := mode, uid := uid, gid := gid, sec := sec, nano := nano }) (g := aM.gone) (fun _ => rfl)] at hg
  show 0 < (obj (ay S.O k (fun o => { o with mode := mode, uid := uid, gid := gid, sec := sec, nano := nano })) u.k).opens
  rw [cI (f := fun o => { o with mode := mode, uid := uid, gid := gid, sec := sec, nano := nano }) (g := aM.opens) (fun _ => rfl)]
  exact hI.full u hu hg
theorem Inv.shut (hI : Inv S) {h : Int} (e : TabM.get S.us h = some t) : Inv { S with
      X := { S.X with used := iY (oq S.O t.k) S.X.used t }
      O := oq S.O t.k
      idx := freeI (oq S.O t.k) S.idx t
      us := del h S.us } := by
  have ht := (hI.us h t e).1
  have hb : bytes S.idx (oq S.O t.k) = bytes S.idx S.O := eT (fun p _ => by unfold oq; rw [cI (f := fun o => { o with opens := o.opens - 1 }) (g := aM.data) (fun _ => rfl)])
  have hd := fun k => La (k := k) hI.usr e
  have h1 := hI.toInv0.own (k := t.k) (f := fun o => { o with opens := o.opens - 1 }) (jq := S.X.used) (us' := del h S.us) (eU := S.av) (fun _ => rfl) (fun _ => rfl) (fun _ => rfl) (fun _ => rfl) (fun _ => rfl) (fun _ => rfl)
    (fun u hu e => by rw [← e]; exact (hI.mt u hu).of rfl rfl rfl (hI.mt u hu).time rfl (.inl rfl) (.inl rfl) rfl)
    (fun u hu => by
      have h2 := hI.opens u hu
      have h3 := hd u.k
      by_cases e2 : u.k = t.k
      ·rw [e2, bG]
       rw [e2] at h2 h3
       rw [if_pos rfl] at h3
       show (obj S.O t.k).opens - 1 = _
       omega
      rw [if_neg (fun e3 => e2 e3.symm)] at h3
      rw [bQ e2]; omega)
    (Cz hI.usr) (fun x hx => hI.ur x (by rw [lS] at hx; exact (List.mem_filter.1 hx).1)) (by have := nH hI.usr (get_some e); have := hI.AR; omega) hI.av (fun i u hu => by
      rw [rT] at hu
      split at hu
      ·cases hu
      exact hI.us i u hu) ⟨by rw [show bytes S.idx (ay S.O t.k (fun o => { o with opens := o.opens - 1 })) = bytes S.idx S.O from hb]; exact hI.used.1, hI.used.2⟩
  exact h1.freeM (t := t) ht (fun u hu hut hg => by
    have hk : u.k ≠ t.k := fun e => hut (eZ hu ht e)
    have hg : (obj (ay S.O t.k (fun o => { o with opens := o.opens - 1 })) u.k).gone = true := hg
    rw [bQ hk] at hg
    show 0 < (obj (ay S.O t.k (fun o => { o with opens := o.opens - 1 })) u.k).opens
    rw [bQ hk]
    exact hI.full u hu hg)
end ops
end
section
open Go.RowKit Go.Maps HeapM TabM
section facts
variable {S : aG} {X : FM} {O : bK} {d k to : Nat} {name toName : ByteArray} {t o : Th}
def uD (dp : Nat → Nat) : Option Nat → Nat
  | none => 0
  | some y => dp y + 1
theorem GW {dp : Nat → Nat} (h : ∀ k d, (obj O k).up = some d → dp d < dp k) {y : Nat} : uD dp (obj O y).up < uD dp (some y) := by
  cases e : (obj O y).up with
  | none => exact Nat.succ_pos _
  | some z => exact Nat.succ_lt_succ (h y z e)
theorem yj {s y : Nat} (h : ¬ y = s) : iN O s y ↔ ∃ z, (obj O y).up = some z ∧ iN O s z := AV.trans (or_iff_right h)
theorem yq (hne : t.k ≠ d) : (obj (dropM S d name t).O k).ah = if k = d then eG name (obj S.O d).ah else (obj S.O k).ah := by
  have h1 : (obj (dropM S d name t).O k).ah = (obj (aJ S.X S.O d name t) k).ah := by
    unfold dropM
    simp only
    split
    ·exact nK (g := aM.ah) (fun _ _ => rfl)
    rfl
  rw [h1, gI hne]
  split
  ·rfl
  split <;> rfl
theorem ou (hI : Inv0 S) (hto : Live S.idx ⟨to, 2⟩) (hl2 : aQ toName (obj S.O to).ah = some o) (hl : aQ name (obj S.O d).ah = some t) (hot : o ≠ t) : aQ name (obj (dropM S to toName o).O d).ah = some t := by
  rw [yq (hI.ne hto hl2)]
  split
  ·rename_i e
   subst e
   rw [oh, if_neg (fun e => by rw [e, hl2] at hl; exact hot (Option.some.inj hl))]
   exact hl
  exact hl
theorem ox (hI : Inv0 S) (hto : Live S.idx ⟨to, 2⟩) (hl2 : aQ toName (obj S.O to).ah = some o) : aQ toName (obj (dropM S to toName o).O to).ah = none := by
  rw [yq (hI.ne hto hl2), if_pos rfl, oh, if_pos rfl]
theorem iA (hI : Inv0 S) (hto : Live S.idx ⟨to, 2⟩) (hl2 : aQ toName (obj S.O to).ah = some o) (hx : Live S.idx t) (hk : t.k ≠ o.k) : Live (dropM S to toName o).idx t := by
  unfold dropM
  simp only
  split
  ·unfold freeI
   split
   ·unfold Live
    rw [rT, if_neg]
    ·exact hx
    intro e
    have h1 := (hI.ob o (hI.ent hto hl2).2).1
    rw [nK (g := aM.id) (fun _ _ => rfl), cE (g := aM.id) (fun _ _ => rfl) (fun _ _ => rfl) (fun _ _ _ => rfl), h1] at e
    exact hk (by omega)
   exact hx
  exact hx
theorem kB (hne : t.k ≠ d) : (obj (aJ X O d name t) k).ah.length ≤ (obj O k).ah.length := by
  rw [gI hne]
  split
  ·rename_i e
   subst e
   exact List.length_filter_le _ _
  split <;> exact Nat.le_refl _
theorem jj (hI : Inv0 S) (hd : Live S.idx ⟨d, 2⟩) (hl : aQ name (obj S.O d).ah = some t) : 0 ≤ (obj (aJ S.X S.O d name t) t.k).links ∧ (obj (aJ S.X S.O d name t) t.k).links ≤ 1048576 := by
  have ht := (hI.ent hd hl).2
  have h1 := hI.links t ht
  have h2 : 0 < gh S.idx S.O t.k := kU hd hl
  have h3 := hI.lb ht
  rw [gI (hI.ne hd hl), if_neg (hI.ne hd hl), if_pos rfl]
  show 0 ≤ (obj S.O t.k).links - 1 ∧ (obj S.O t.k).links - 1 ≤ 1048576
  omega
end facts
end
section
open Go.RowKit Go.Maps HeapM TabM
theorem bH.take {β : Bs} {A : Option Addr} {d : List UInt8} (h : bH β A d) (n : Nat) : bH β A (d.take n) := by
  intro j v hj
  refine h j v ?_
  unfold bL at hj ⊢
  rw [List.map_take] at hj
  rw [List.getElem?_take] at hj
  split at hj
  ·exact hj
  cases hj
theorem E8 {a b : List UInt8} : bL (a ++ b) = bL a ++ bL b := List.map_append
theorem Inv0.Oe {S : aG} {t : Th} (h : Inv0 S) (hl : Live S.idx t) : ((obj S.O t.k).data.length : Int) ≤ S.X.used := by
  have h1 := h.used
  have h2 : (obj S.O t.k).data.length ≤ bytes S.idx S.O := j5 (g := fun p : Int × Th => (obj S.O p.2.k).data.length) hl
  omega
theorem GX {X : FM} {n : Nat} (h : 0 < X.cB - X.used) : min (n : Int) (X.cB - X.used) = (aW X n : Int) := by
  unfold aW
  omega
theorem GY {X : FM} {n : Nat} (h : 0 < X.cB - X.used) : aW X n ≤ n ∧ (aW X n : Int) ≤ X.cB - X.used := by
  unfold aW
  omega
section data
variable {O : bK} {us : Used Th} {L L' : HL} {k c : Nat} {A : Option Addr} {t : Th}
theorem CI (hL : L' = L.data k A c) : aK L' us = aK L us := by subst hL; rfl
theorem Jk (hL : L' = L.data k A c) : bh O L' = bh O L := by
  subst hL
  funext x
  rfl
theorem Jl (hL : L' = L.data k A c) {x : Nat} (h : x ≠ k) : aN O L' x = aN O L x := by
  have e2 : eW L' x (obj O x) = eW L x (obj O x) := by
    subst hL
    unfold eW vo
    simp only [HL.data, if_neg h]
    rfl
  unfold aN
  rw [e2]
  subst hL
  rfl
theorem Jm (hL : L' = L.data k A c) {x : Nat} (h : x ≠ k) : aY O L' x = aY O L x := by
  unfold aY
  subst hL
  simp only [HL.data, if_neg h]
theorem Ei (hL : L' = L.data k A c) : L'.dA k = A := by subst hL; exact if_pos rfl
theorem Ej (hL : L' = L.data k A c) : L'.dC k = c := by subst hL; exact if_pos rfl
theorem GZ (hL : L' = L.data k A c) {x : Nat} : L'.b x = L.b x := by subst hL; rfl
end data
section sat
variable {β : Bs} {l l' : List HP} {w : World} {i j k c n : Nat} {O : bK} {L L' : HL} {f : aM → aM} {cs : List Value} {T : TypeId} {ix : List Nat} {A : Option Addr} {R : Nat → bT} {xs : List Value}
theorem Sat.Mn (h : Sat β l w) (hL : L' = L.data k A c) (hp : l[i]? = some (.abs (ak (iO (aN O L) k bT.none)))) (hq : l[j]? = some (.blk (L.b k) cs T)) (hd : nodupB (i :: j :: ix) = true) (hl : bM l ix = some l') (h0 : (f (obj O k)).kind ≠ 0) (hc : eW L' k (f (obj O k)) = cs) (hT : kX (f (obj O k)).kind = T) : Sat β (.abs (ak (aN (ay O k f) L')) :: l') w := by
  refine h.o6 (a := wL (L.b k) cs T) hp hq (fun _ _ h => h) hd hl k (fun x hx => ?_) (by rw [rQ, if_neg h0, hc, hT, GZ hL])
  rw [rR hx, Jl hL hx, mA hx]
theorem Sat.Mp (h : Sat β l w) (hL : L' = L.data k A c) (hp : l[i]? = some (.abs (ak (iO (aY O L) k bT.none)))) (hq : l[j]? = some (.abs (aI 5 1 A n c xs))) (hd : nodupB (i :: j :: ix) = true) (hl : bM l ix = some l') (h1 : (f (obj O k)).kind = 1) (hn : n = (f (obj O k)).data.length) (hx : xs = bL (f (obj O k)).data) : Sat β (.abs (ak (aY (ay O k f) L')) :: l') w := by
  refine h.o6 hp hq (fun _ _ h => h) hd hl k (fun x hx => by rw [uf hx, Jm hL hx, mA hx]) ?_
  rw [p8 (by rw [bG]; exact h1), bG, Ei hL, Ej hL, hn, hx]
end sat
end
section
open Go.RowKit Go.Maps HeapM TabM
structure fJ (β : Bs) (c : aS) : Prop where
  hw : (Lit.int .i64 c.handle).wf = true
  ow : (Lit.int .i64 c.other).wf = true
  nm : c.name.size ≤ 1048576
  tx : c.text.size ≤ 1048576
  da : bH β c.dA c.data
  dl : c.data.length ≤ 1099511627776
  dc : c.data.length ≤ c.dC
section facts
variable {S : aG} {h : Int} {name : ByteArray} {need : Int} {t : Th} {c : aS}
theorem jA (hI : Inv0 S) (h : Int) (name : ByteArray) (need : Int) : (∃ e, cL S.O S.us h name need = .error e ∧ e ≠ 0) ∨ ∃ d, cL S.O S.us h name need = .ok d ∧ Live S.idx ⟨d, 2⟩ ∧ (obj S.O d).gone = false ∧ bB name ∧ TabM.get S.us h = some ⟨d, 2⟩ := by
  unfold cL
  cases e : TabM.get S.us h with
  | none => exact .inl ⟨131, rfl, by decide⟩
  | some t =>
    simp only
    split
    ·rename_i hk
     split
     ·exact .inl ⟨170, rfl, by decide⟩
     rename_i hg
     split
     ·rename_i hn
      split
      ·obtain ⟨k, kd⟩ := t
       simp only at hk
       subst hk
       exact .inr ⟨k, rfl, (hI.us h _ e).1, by simpa using hg, hn, rfl⟩
      exact .inl ⟨175, rfl, by decide⟩
     exact .inl ⟨95, rfl, by decide⟩
    exact .inl ⟨173, rfl, by decide⟩
theorem yt (hI : Inv0 S) (c : aS) : (∃ e, eM S.O S.us c = .error e ∧ e ≠ 0) ∨ (∃ k, eM S.O S.us c = .ok ⟨k, 1⟩ ∧ Live S.idx ⟨k, 1⟩) ∨ (∃ k, eM S.O S.us c = .ok ⟨k, 2⟩ ∧ Live S.idx ⟨k, 2⟩) ∨ ∃ k, eM S.O S.us c = .ok ⟨k, 3⟩ ∧ Live S.idx ⟨k, 3⟩ := by
  unfold eM
  rcases jA hI c.handle c.name 64 with ⟨e, h1, h2⟩ | ⟨d, h1, h2, _⟩
  ·rw [h1]; exact .inl ⟨e, rfl, h2⟩
  rw [h1]
  simp only
  rcases hI.kg h2 c.name with h3 | ⟨k, h3, h4⟩ | ⟨k, h3, h4⟩ | ⟨k, h3, h4⟩
  ·rw [h3]; exact .inl ⟨170, rfl, by decide⟩
  ·rw [h3]; exact .inr (.inl ⟨k, rfl, h4⟩)
  ·rw [h3]; exact .inr (.inr (.inl ⟨k, rfl, h4⟩))
  rw [h3]; exact .inr (.inr (.inr ⟨k, rfl, h4⟩))
theorem CJ {L : HL} {us : Used Th} {h : Int} : aK L (del h us) = del h (aK L us) := Eb (cO L) h us
theorem Ek {us : Used Th} {h : Int} (e : TabM.get us h = some t) : 0 < hnd us t.k := Nat.lt_of_lt_of_le (by simp) (j5 (g := fun p : Int × Th => if p.2.k = t.k then 1 else 0) e)
theorem wU {L : HL} : aY (openM S t).2.2.O L = aY S.O L := by
  by_cases h : (S.us.length : Int) < S.X.cH
  ·rw [iz h]; exact qi (fun _ => cI (f := fun o => { o with opens := o.opens + 1 }) (g := aM.data) (fun _ => rfl)) (fun _ => iH (f := fun o => { o with opens := o.opens + 1 }) (fun _ => rfl))
  rw [jI h]
theorem wV {L : HL} : bh (openM S t).2.2.O L = bh S.O L := by
  by_cases h : (S.us.length : Int) < S.X.cH
  ·rw [iz h]; exact kR (f := fun o => { o with opens := o.opens + 1 }) rfl rfl
  rw [jI h]
theorem Lb : (iK S c).2.2.op = c.op := by unfold iK; (repeat' split) <;> rfl
theorem E9 : (d9 S c).2.2.op = c.op := by unfold d9; (repeat' split) <;> rfl
theorem DL : (dP S c).2.2.op = c.op := by unfold dP; (repeat' split) <;> rfl
theorem Fa : (eX S c).2.2.op = c.op := by unfold eX; (repeat' split) <;> rfl
theorem DM : (dr S c).2.2.op = c.op := by unfold dr; (repeat' split) <;> rfl
theorem CK : (eS S c).2.2.op = c.op := by unfold eS; (repeat' split) <;> rfl
theorem G0 : (bW S c).2.2.op = c.op := by unfold bW; (repeat' split) <;> rfl
theorem DN : (fF S c).2.2.op = c.op := by unfold fF; (repeat' split) <;> rfl
theorem Fb : (gj S c).2.2.op = c.op := by unfold gj; (repeat' split) <;> rfl
theorem DP : (eO S c).2.2.op = c.op := by unfold eO; (repeat' split) <;> rfl
theorem Fc : (fC S c).2.2.op = c.op := by unfold fC; (repeat' split) <;> rfl
theorem Fe : (bF S c).2.2.op = c.op := by unfold bF; (repeat' split) <;> rfl
theorem Lc : (jS S c).2.2.op = c.op := by unfold jS; (repeat' split) <;> rfl
theorem G1 : (fH S c).2.2.op = c.op := by unfold fH; (repeat' split) <;> rfl
theorem Jo : (iI S c).2.2.op = c.op := by unfold iI; (repeat' split) <;> rfl
end facts
theorem yu {S : aG} {c : aS} (h : c.op = 1) : opM S c = iK S c := by
  unfold opM
  simp [h]
theorem yw {S : aG} {c : aS} (h : c.op = 2) : opM S c = d9 S c := by
  unfold opM
  simp [h]
theorem BD {S : aG} {c : aS} (h : c.op = 3) : opM S c = dP S c := by
  unfold opM
  simp [h]
theorem yx {S : aG} {c : aS} (h : c.op = 4) : opM S c = eX S c := by
  unfold opM
  simp [h]
theorem BF {S : aG} {c : aS} (h : c.op = 5) : opM S c = dr S c := by
  unfold opM
  simp [h]
theorem BG {S : aG} {c : aS} (h : c.op = 6) : opM S c = eS S c := by
  unfold opM
  simp [h]
theorem BH {S : aG} {c : aS} (h : c.op = 7) : opM S c = bW S c := by
  unfold opM
  simp [h]
theorem BI {S : aG} {c : aS} (h : c.op = 8) : opM S c = fF S c := by
  unfold opM
  simp [h]
theorem BJ {S : aG} {c : aS} (h : c.op = 9) : opM S c = fC S c := by
  unfold opM
  simp [h]
theorem yA {S : aG} {c : aS} (h : c.op = 10) : opM S c = bF S c := by
  unfold opM
  simp [h]
theorem yB {S : aG} {c : aS} (h : c.op = 11) : opM S c = jS S c := by
  unfold opM
  simp [h]
theorem yC {S : aG} {c : aS} (h : c.op = 12) : opM S c = fH S c := by
  unfold opM
  simp [h]
theorem yD {S : aG} {c : aS} (h : c.op = 13) : opM S c = iI S c := by
  unfold opM
  simp [h]
theorem yE {S : aG} {c : aS} (h : c.op = 14) : opM S c = gj S c := by
  unfold opM
  simp [h]
theorem yG {S : aG} {c : aS} (h : c.op = 15) : opM S c = eO S c := by
  unfold opM
  simp [h]
theorem yH {S : aG} {c : aS} (h : ¬ (1 ≤ c.op ∧ c.op ≤ 15)) : opM S c = (230, S, c) := by
  unfold opM
  repeat rw [if_neg (by omega)]
end
section
open Go.RowKit Go.Maps HeapM TabM
section inv
variable {S : aG} {d to : Nat} {name toName text : ByteArray} {mode : Int} {c : aS}
theorem CM (hI : Inv0 S) : hnd S.us (aD S.X) = 0 := by
  have : hnd S.us (aD S.X) = cM (fun _ => 0) S.us := eT (fun p hp => if_neg (hI.fresh.us p hp))
  rw [this]
  have h0 : ∀ us : Used Th, cM (fun _ => 0) us = 0 := fun us => by
    induction us with
    | nil => rfl
    | cons p r ih => show 0 + _ = 0; rw [ih]
  exact h0 _
theorem vX (hI : Inv0 S) {kind mode : Int} {tg : ByteArray} (hm : lu mode) (ht : dJ kind tg) : jw { aB S.X kind mode with target := tg } :=
  ⟨hm, ⟨Int.le_refl _, by show (0 : Int) ≤ 2147483647; decide⟩, ⟨Int.le_refl _, by show (0 : Int) ≤ 2147483647; decide⟩, hI.now, fun _ => rfl, fun _ => rfl, ht⟩
theorem Inv.BK (hI : Inv S) (hd : Live S.idx ⟨d, 2⟩) (gy : (obj S.O d).gone = false) (hgn : bB name) (h0 : bN S.X S.O S.idx d name = 0) {kind mode : Int} {tg : ByteArray} (hk : kind = 1 ∨ kind = 2 ∨ kind = 3) (hm : lu mode) (ht : dJ kind tg) :
    Inv (addM S d name { aB S.X kind mode with target := tg }) := by
  have h := hI.add (us' := S.us) (eU := S.av) (o := { aB S.X kind mode with target := tg }) hd gy (mE h0) hgn (rC h0) rfl hk rfl rfl rfl rfl rfl (vX hI.toInv0 hm ht) hI.usr hI.ur hI.AR hI.av (fun h t e => ⟨.inl (hI.us h t e).1, (hI.us h t e).2⟩) (fun _ _ => rfl) (by rw [CM hI.toInv0]; rfl)
  exact h
theorem Inv.mkdirM (hI : Inv S) (hd : Live S.idx ⟨d, 2⟩) (gy : (obj S.O d).gone = false) (hgn : bB name) (hm : lu mode) : Inv (Proofs.YtkiedlmhocglhaaGreatDoor.mkdirM S d name mode).2 := by
  unfold Proofs.YtkiedlmhocglhaaGreatDoor.mkdirM
  split
  ·rename_i h0
   exact hI.BK hd gy hgn h0 (.inr (.inl rfl)) hm (.inl ⟨by decide, rfl⟩)
  exact hI
theorem Ld {s : ByteArray} (h : kZ s = 0) : dJ 3 s := by
  unfold kZ at h
  split at h
  ·cases h
  rename_i h1
  split at h
  ·cases h
  split at h
  ·rename_i h2 h3
   refine .inr ⟨rfl, ?_, by omega, h3⟩
   apply Classical.byContradiction
   intro hn
   have : s.size = 0 := by omega
   exact h1 (jL.1 this)
  cases h
theorem Inv.symlinkM (hI : Inv S) (hd : Live S.idx ⟨d, 2⟩) (gy : (obj S.O d).gone = false) (hgn : bB name) : Inv (Proofs.YtkiedlmhocglhaaGreatDoor.symlinkM S d name text).2 := by
  unfold Proofs.YtkiedlmhocglhaaGreatDoor.symlinkM
  split
  ·rename_i hb
   split
   ·rename_i h0
    exact hI.BK hd gy hgn h0 (.inr (.inr rfl)) ⟨by decide, by decide⟩ (Ld hb)
   exact hI
  exact hI
theorem Inv.unlinkM (hI : Inv S) (hd : Live S.idx ⟨d, 2⟩) : Inv (Proofs.YtkiedlmhocglhaaGreatDoor.unlinkM S d name).2 := by
  unfold Proofs.YtkiedlmhocglhaaGreatDoor.unlinkM
  split
  ·exact hI
  rename_i t hl
  split
  ·exact hI
  rename_i hk
  exact hI.vB hd hl hk
theorem Inv.rmdirM (hI : Inv S) (hd : Live S.idx ⟨d, 2⟩) : Inv (Proofs.YtkiedlmhocglhaaGreatDoor.rmdirM S d name).2 := by
  unfold Proofs.YtkiedlmhocglhaaGreatDoor.rmdirM
  split
  ·exact hI
  rename_i t hl
  split
  ·split
   ·rename_i he
    exact hI.drop hd hl (fun _ => he)
   exact hI
  exact hI
theorem Ff {t : Th} (ht : t.k ≠ to) : (obj (dropM S d name t).O to).gone = (obj S.O to).gone := by
  have h1 : (obj (dropM S d name t).O to).gone = (obj (aJ S.X S.O d name t) to).gone := by
    unfold dropM
    simp only
    split
    ·show (obj (ay _ t.k _) to).gone = _
     rw [bQ (fun e => ht e.symm)]
    rfl
  rw [h1]
  exact cE (g := aM.gone) (fun _ _ => rfl) (fun _ _ => rfl) (fun _ _ _ => rfl)
theorem Inv.renameM (hI : Inv S) (hd : Live S.idx ⟨d, 2⟩) (hto : Live S.idx ⟨to, 2⟩) (gy : (obj S.O to).gone = false) (hgn : bB toName) : Inv (Proofs.YtkiedlmhocglhaaGreatDoor.renameM S d name to toName).2 := by
  unfold Proofs.YtkiedlmhocglhaaGreatDoor.renameM
  split
  ·exact hI
  rename_i t hl
  split
  ·exact hI
  rename_i hb
  have hb : t.kind = 2 → ¬ iN S.O t.k to := fun h1 h2 => hb ⟨h1, h2⟩
  split
  ·rename_i hn
   exact hI.move hd hl hto gy hn hgn hb
  rename_i o hl2
  split
  ·exact hI
  rename_i hot
  split
  ·exact hI
  rename_i hok
  split
  ·exact hI
  rename_i Mq
  have ho := (hI.ent hto hl2).2
  have Mr : o.k ≠ to := hI.ne hto hl2
  have h1 := hI.vB hto hl2 hok
  have hd1 : Live (dropM S to toName o).idx ⟨d, 2⟩ := iA hI.toInv0 hto hl2 hd (fun e => hok (by have := eZ hd ho e; rw [← this]))
  have iP : Live (dropM S to toName o).idx ⟨to, 2⟩ := iA hI.toInv0 hto hl2 hto (fun e => Mr e.symm)
  exact h1.move hd1 (ou hI.toInv0 hto hl2 hl hot) iP (by rw [Ff Mr]; exact gy) (ox hI.toInv0 hto hl2) hgn (fun h => absurd h Mq)
theorem Inv.linkM (hI : Inv S) (hd : Live S.idx ⟨d, 2⟩) (hto : Live S.idx ⟨to, 2⟩) (gy : (obj S.O to).gone = false) (hgn : bB toName) : Inv (Proofs.YtkiedlmhocglhaaGreatDoor.linkM S d name to toName).2 := by
  unfold Proofs.YtkiedlmhocglhaaGreatDoor.linkM
  split
  ·exact hI
  rename_i t hl
  have ht := (hI.ent hd hl).2
  split
  ·exact hI
  rename_i hk
  split
  ·rename_i hn
   split
   ·rename_i hr
    have hgt : (obj S.O t.k).gone = false := by
      cases hg : (obj S.O t.k).gone with
      | false => rfl
      | true =>
        have h1 := (hI.gone t ht hg).1
        have h2 := hI.links t ht
        have h3 : 0 < gh S.idx S.O t.k := kU hd hl
        omega
    exact hI.link hto gy hn hgn ht hgt hk hr
   exact hI
  exact hI
theorem Inv.createM (hI : Inv S) (hd : Live S.idx ⟨d, 2⟩) (gy : (obj S.O d).gone = false) (hgn : bB name) (hm : lu mode) : Inv (Proofs.YtkiedlmhocglhaaGreatDoor.createM S d name mode).2.2 := by
  unfold Proofs.YtkiedlmhocglhaaGreatDoor.createM
  split
  ·rename_i h0
   split
   ·rename_i hlt
    obtain ⟨g1, g2, _⟩ := least_le hI.usr (fun x hx => (hI.ur x hx).1)
    obtain ⟨v1, v2⟩ := Eh (t := ⟨aD S.X, 1⟩) hI.usr hI.ur
    have hm2 := vX (kind := 1) (tg := ⟨#[]⟩) hI.toInv0 hm (.inl ⟨by decide, rfl⟩)
    refine hI.add (us' := ins (TabM.least S.us) ⟨aD S.X, 1⟩ S.us) (eU := max S.av ((S.us.length : Int) + 1)) (o := { aB S.X 1 mode with opens := 1 }) hd gy (mE h0) hgn (rC h0) rfl (.inl rfl) rfl rfl rfl rfl rfl ⟨hm2.mode, hm2.uid, hm2.gid, hm2.time, hm2.data, hm2.ah, hm2.target⟩ v1 v2 (by rw [gi]; omega) (by have := hI.av; omega) (fun h t e => ?_) (fun k hk => ?_) ?_
    ·rw [pQ g2] at e
     split at e
     ·cases e; exact ⟨.inr rfl, by show (1 : Int) ≠ 3; decide⟩
     exact ⟨.inl (hI.us h t e).1, (hI.us h t e).2⟩
    ·rw [zJ, if_neg (fun e => hk e.symm), Nat.zero_add]
    rw [zJ, if_pos rfl, CM hI.toInv0]; rfl
   exact hI
  exact hI
theorem Inv.opM (hI : Inv S) (c : aS) : Inv (Proofs.YtkiedlmhocglhaaGreatDoor.opM S c).2.1 := by
  have habout : ∀ {need : Int} {d : Nat} {h : Int} {n : ByteArray}, cL S.O S.us h n need = .ok d → Live S.idx ⟨d, 2⟩ ∧ (obj S.O d).gone = false ∧ bB n := fun {need d h n} e => by
    rcases jA hI.toInv0 h n need with ⟨e2, h1, _⟩ | ⟨d2, h1, h2, h3, h4, _⟩
    ·rw [e] at h1; cases h1
    rw [e] at h1; cases h1; exact ⟨h2, h3, h4⟩
  have hnamed : ∀ {t : Th}, eM S.O S.us c = .ok t → Live S.idx t := fun {t} e => by
    rcases yt hI.toInv0 c with ⟨e2, h1, _⟩ | ⟨k, h1, h2⟩ | ⟨k, h1, h2⟩ | ⟨k, h1, h2⟩ <;> rw [e] at h1 <;> cases h1 <;> exact h2
  by_cases h : 1 ≤ c.op ∧ c.op ≤ 15
  ·have h : c.op = 1 ∨ c.op = 2 ∨ c.op = 3 ∨ c.op = 4 ∨ c.op = 5 ∨ c.op = 6 ∨ c.op = 7 ∨ c.op = 8 ∨ c.op = 9 ∨ c.op = 10 ∨ c.op = 11 ∨ c.op = 12 ∨ c.op = 13 ∨ c.op = 14 ∨ c.op = 15 := by omega
   rcases h with h | h | h | h | h | h | h | h | h | h | h | h | h | h | h
   ·rw [yu h]
    unfold iK
    split
    ·exact hI
    rename_i t e
    split
    ·rename_i hk; exact hI.openM (hI.live e) (by rw [hk]; decide)
    exact hI
   ·rw [yw h]
    unfold d9
    split
    ·exact hI
    rename_i t e
    split
    ·exact hI
    rename_i hk
    split
    ·exact hI
    exact hI.openM (hnamed e) hk
   ·rw [BD h]
    unfold dP
    split
    ·exact hI
    rename_i t e
    split
    ·exact hI
    rename_i hk
    split
    ·exact hI
    exact hI.openM (hnamed e) hk
   ·rw [yx h]
    unfold eX
    split
    ·exact hI
    rename_i d e
    obtain ⟨h1, h2, h3⟩ := habout e
    split
    ·rename_i hm; exact hI.mkdirM h1 h2 h3 hm
    exact hI
   ·rw [BF h]
    unfold dr
    split
    ·exact hI
    rename_i d e
    obtain ⟨h1, h2, h3⟩ := habout e
    split
    ·rename_i hm
     split
     ·exact hI.createM h1 h2 h3 hm
     exact hI
    exact hI
   ·rw [BG h]
    unfold eS
    split
    ·exact hI
    rename_i d e
    obtain ⟨h1, h2, h3⟩ := habout e
    exact hI.symlinkM h1 h2 h3
   ·rw [BH h]
    unfold bW
    split
    ·exact hI
    rename_i d e
    split
    ·exact hI
    rename_i to e2
    obtain ⟨h1, h2, h3⟩ := habout e2
    exact hI.linkM (habout e).1 h1 h2 h3
   ·rw [BI h]
    unfold fF
    split
    ·exact hI
    rename_i d e
    exact hI.unlinkM (habout e).1
   ·rw [BJ h]
    unfold fC
    split
    ·exact hI
    rename_i t e
    split
    ·rename_i hk
     obtain ⟨k, kd⟩ := t
     simp only at hk
     subst hk
     exact hI.writeM (hI.us _ _ e).1 _
    exact hI
   ·rw [yA h]
    unfold bF
    split
    ·exact hI
    split
    ·exact hI
    split
    ·rename_i hm
     split
     ·rename_i ho
      split
      ·rename_i ht; exact hI.Od hm ho ht
      exact hI
     exact hI
    exact hI
   ·rw [yB h]
    unfold jS
    split <;> exact hI
   ·rw [yC h]
    unfold fH
    split <;> exact hI
   ·rw [yD h]
    unfold iI
    split
    ·exact hI
    rename_i t e; exact hI.shut e
   ·rw [yE h]
    unfold gj
    split
    ·exact hI
    rename_i d e
    exact hI.rmdirM (habout e).1
   rw [yG h]
   unfold eO
   split
   ·exact hI
   rename_i d e
   split
   ·exact hI
   rename_i to e2
   obtain ⟨h1, h2, h3⟩ := habout e2
   exact hI.renameM (habout e).1 h1 h2 h3
  rw [yH h]; exact hI
theorem Inv.doM (hI : Inv S) (c : aS) : Inv (Proofs.YtkiedlmhocglhaaGreatDoor.doM S c).1 := hI.opM _
end inv
end
section
open Go.RowKit Go.Maps HeapM TabM
structure wW where
  at_ : Int
  op : Int
  path : ByteArray
  to : ByteArray
  text : ByteArray
def slash : ByteArray := ⟨#[47]⟩
def gS (s : ByteArray) : List ByteArray := Lib.splitB slash 0 (Lib.countB s slash) s
noncomputable section
def wayW (O : bK) : Nat → List ByteArray → Except Int (Nat × ByteArray)
  | _, [] => .error 170
  | d, [p] => if (obj O d).gone = true then .error 170 else .ok (d, p)
  | d, p :: q :: r => match aQ p (obj O d).ah with
    | none => .error 170
    | some t => if t.kind = 3 then .error 174 else if t.kind = 1 then .error 173 else wayW O t.k (q :: r)
instance (ps : List ByteArray) : Decidable (∀ p ∈ ps, bB p) := Classical.propDecidable _
def wayM (O : bK) (d : Nat) (path : ByteArray) : Except Int (Nat × ByteArray) := if ∀ p ∈ gS path, bB p then wayW O d (gS path) else .error 95
def actNew (S : aG) (d : Nat) (name text : ByteArray) : Int × aG :=
  if bN S.X S.O S.idx d name = 0 then (0, (writeM (addM S d name (aB S.X 1 420)) (aD S.X) text.data.toList).2.2) else (bN S.X S.O S.idx d name, S)
def actWrite (S : aG) (d : Nat) (name text : ByteArray) : Int × aG :=
  match aQ name (obj S.O d).ah with
  | none => (170, S)
  | some t => if t.kind = 3 then (174, S) else if t.kind = 2 then (172, S) else ((writeM S t.k text.data.toList).2.1, (writeM S t.k text.data.toList).2.2)
def actR (S : aG) (top : Nat) (a : wW) (d : Nat) (name : ByteArray) : Int × aG :=
  if a.op = 1 then actNew S d name a.text
  else if a.op = 2 then mkdirM S d name 493
  else if a.op = 3 then symlinkM S d name a.text
  else if a.op = 4 then unlinkM S d name
  else if a.op = 5 then rmdirM S d name
  else if a.op = 6 then match wayM S.O top a.to with
    | .error e => (e, S)
    | .ok (to, toName) => renameM S d name to toName
  else actWrite S d name a.text
def actM (S : aG) (root : Int) (a : wW) : Int × aG :=
  if a.op < 1 ∨ a.op > 7 then (230, S)
  else match TabM.get S.idx root with
    | none => (141, S)
    | some t => if t.kind = 2 then
        match wayM S.O t.k a.path with
        | .error e => (e, S)
        | .ok (d, name) => actR S t.k a d name
      else (173, S)
end
section facts
variable {S : aG} {O : bK} {d d' : Nat} {name : ByteArray} {t : Th}
theorem El (hI : Inv0 S) : ∀ (ps : List ByteArray) (d : Nat), Live S.idx ⟨d, 2⟩ → (∀ p ∈ ps, bB p) → wayW S.O d ps = .ok (d', name) → Live S.idx ⟨d', 2⟩ ∧ (obj S.O d').gone = false ∧ bB name
  | [], d, _, _, h => by cases h
  | [p], d, hd, hg, h => by
    unfold wayW at h
    split at h
    ·cases h
    rename_i hn
    cases h
    exact ⟨hd, by simpa using hn, hg _ (List.mem_singleton.2 rfl)⟩
  | p :: q :: r, d, hd, hg, h => by
    unfold wayW at h
    cases e : aQ p (obj S.O d).ah with
    | none => rw [e] at h; cases h
    | some t =>
      rw [e] at h
      simp only at h
      split at h
      ·cases h
      rename_i h3
      split at h
      ·cases h
      rename_i h1
      have hl := (hI.ent hd e).2
      have hk : t = ⟨t.k, 2⟩ := by
        have := (hI.ob _ hl).2.2
        obtain ⟨k, kd⟩ := t
        simp only at this h1 h3
        have : kd = 2 := by omega
        rw [this]
      rw [hk] at hl
      exact El hI (q :: r) t.k hl (fun p hp => hg p (List.mem_cons_of_mem _ hp)) h
theorem rX {path : ByteArray} (hI : Inv0 S) (hd : Live S.idx ⟨d, 2⟩) (h : wayM S.O d path = .ok (d', name)) : Live S.idx ⟨d', 2⟩ ∧ (obj S.O d').gone = false ∧ bB name := by
  unfold wayM at h
  split at h
  ·rename_i hg
   exact El hI _ _ hd hg h
  cases h
theorem CN (hI : Inv S) {o : aM} : Live (ins (S.X.last + 1) ⟨aD S.X, o.kind⟩ S.idx) ⟨aD S.X, o.kind⟩ := by
  unfold Live
  have h1 := mB hI.toInv0
  have hn : S.X.last + 1 ∉ keys S.idx := by
    cases e : TabM.get S.idx (S.X.last + 1) with
    | none => exact get_none.1 e
    | some t => have := hI.idx _ _ e; omega
  rw [pQ hn]
  simp only
  rw [h1, if_pos rfl]
theorem Inv.actNew {text : ByteArray} (hI : Inv S) (hd : Live S.idx ⟨d, 2⟩) (gy : (obj S.O d).gone = false) (hgn : bB name) : Inv (Proofs.YtkiedlmhocglhaaGreatDoor.actNew S d name text).2 := by
  unfold Proofs.YtkiedlmhocglhaaGreatDoor.actNew
  split
  ·rename_i h0
   exact (hI.BK hd gy hgn h0 (.inl rfl) ⟨by decide, by decide⟩ (.inl ⟨by decide, rfl⟩)).writeM (CN hI (o := aB S.X 1 420)) _
  exact hI
theorem Inv.actWrite {text : ByteArray} (hI : Inv S) (hd : Live S.idx ⟨d, 2⟩) : Inv (Proofs.YtkiedlmhocglhaaGreatDoor.actWrite S d name text).2 := by
  unfold Proofs.YtkiedlmhocglhaaGreatDoor.actWrite
  split
  ·exact hI
  rename_i t e
  split
  ·exact hI
  split
  ·exact hI
  rename_i h3 h2
  have hl := (hI.ent hd e).2
  have hk : t = ⟨t.k, 1⟩ := by
    have := (hI.ob _ hl).2.2
    obtain ⟨k, kd⟩ := t
    simp only at this h2 h3
    have : kd = 1 := by omega
    rw [this]
  rw [hk] at hl
  exact hI.writeM hl _
theorem Inv.actR {top : Nat} {a : wW} (hI : Inv S) (ht : Live S.idx ⟨top, 2⟩) (hd : Live S.idx ⟨d, 2⟩) (gy : (obj S.O d).gone = false) (hgn : bB name) : Inv (Proofs.YtkiedlmhocglhaaGreatDoor.actR S top a d name).2 := by
  unfold Proofs.YtkiedlmhocglhaaGreatDoor.actR
  split
  ·exact hI.actNew hd gy hgn
  split
  ·exact hI.mkdirM hd gy hgn ⟨by decide, by decide⟩
  split
  ·exact hI.symlinkM hd gy hgn
  split
  ·exact hI.unlinkM hd
  split
  ·exact hI.rmdirM hd
  split
  ·split
   ·exact hI
   rename_i to toName e
   obtain ⟨h1, h2, h3⟩ := rX hI.toInv0 ht e
   exact hI.renameM hd h1 h2 h3
  exact hI.actWrite hd
theorem Em {i : Int} (hI : Inv0 S) (e : TabM.get S.idx i = some t) (hk : t.kind = 2) : Live S.idx ⟨t.k, 2⟩ := by
  have := hI.live e
  obtain ⟨k, kd⟩ := t
  simp only at hk
  subst hk
  exact this
theorem Inv.actM {root : Int} {a : wW} (hI : Inv S) : Inv (Proofs.YtkiedlmhocglhaaGreatDoor.actM S root a).2 := by
  unfold Proofs.YtkiedlmhocglhaaGreatDoor.actM
  split
  ·exact hI
  split
  ·exact hI
  rename_i t e
  split
  ·rename_i hk
   split
   ·exact hI
   rename_i d name e2
   have ht := Em hI.toInv0 e hk
   obtain ⟨h1, h2, h3⟩ := rX hI.toInv0 ht e2
   exact hI.actR ht h1 h2 h3
  exact hI
end facts
section err
variable {S : aG} {c : aS} {d to : Nat} {name toName text : ByteArray} {t : Th}
end err
end
section
open Go.RowKit
def mW (β : Bs) (Φ : Bs → Prop) : bT where
  h F w := ∃ β' : Bs, β.le β' ∧ (∀ k, β'.O k → β.O k ∨ F k) ∧ (∀ k, F k → β'.O k) ∧ β'.w0.heap.size ≤ w.heap.size ∧ (∀ k, F k → k < β'.w0.heap.size ∧ w.heap[k]? = β'.w0.heap[k]?) ∧ Φ β'
  lt := fun ⟨_, _, _, _, h4, h5, _⟩ k hk => Nat.lt_of_lt_of_le (h5 k hk).1 h4
  st := fun ⟨β', h1, h2, h3, h4, h5, h6⟩ _ _ hk hs => ⟨β', h1, h2, h3, Nat.le_trans h4 hk.size, fun k hF => ⟨(h5 k hF).1, (hk.block k (Nat.lt_of_lt_of_le (h5 k hF).1 h4) (hs k hF)).trans (h5 k hF).2⟩, h6⟩
section Ms
variable {P : Program} {β : Bs} {N : Nat} {ops : Array Oper} {k : Nat} {fr : Fr} {hps aP : List HP} {Q : Post} {f : FuncId} {args : Array Value} {pre : List HP}
theorem dY.Ms {ι : Type} {vv : ι → Value} {ll : ι → List HP} {Φ : ι → Bs → Prop} (h : dY P β f args pre (fun β' v l => ∃ x, v = vv x ∧ l = ll x ∧ Φ x β')) : Spec P β f args pre (fun v l => ∃ x, v = vv x ∧ l = .abs (mW β (Φ x)) :: ll x) := by
  intro R w hS
  refine (h R w hS).mono ?_
  rintro e w' ⟨β', v, l, hle, he, ⟨x, rfl, rfl, BR⟩, ho, φ, h1, h2, h3⟩
  refine ⟨vv x, _, he, ⟨x, rfl, rfl⟩, ho.le hle, fun i => match i with
    | 0 => fun k => β'.O k ∧ ¬ β.O k
    | i + 1 => φ i, fun i p hp => ?_, fun i hi k hk hO => ?_, fun i j hi hj hne k hk hk' => ?_⟩
  ·cases i with
   | zero =>
     have hp : some (HP.abs (mW β (Φ x))) = some p := hp
     cases hp
     exact ⟨β', hle, fun k hk => (Classical.em (β.O k)).elim .inl (fun hn => .inr ⟨hk, hn⟩), fun k hk => hk.1, ho.size, fun k hk => ho.old k hk.1, BR⟩
   | succ i => exact h1 i p (by simpa using hp)
  ·cases i with
   | zero => exact hk.2 hO
   | succ i => exact h2 i (by simp at hi ⊢; omega) k hk (hle.O k hO)
  cases i with
  | zero =>
    cases j with
    | zero => exact hne rfl
    | succ j => exact h2 j (by simp at hj ⊢; omega) k hk' hk.1
  | succ i =>
    cases j with
    | zero => exact h2 i (by simp at hi ⊢; omega) k hk hk'.1
    | succ j => exact h3 i j (by simp at hi ⊢; omega) (by simp at hj ⊢; omega) (by omega) k hk hk'
theorem Sat.PA {Φ : Bs → Prop} {l : List HP} {w : World} (h : Sat β (.abs (mW β Φ) :: l) w) : ∃ β' : Bs, β.le β' ∧ Φ β' ∧ Sat β' l w := by
  obtain ⟨ho, φ, h1, h2, h3⟩ := h
  have hF : (mW β Φ).h (φ 0) w := h1 0 _ rfl
  obtain ⟨β', g1, g2, g3, g4, g5, g6⟩ := hF
  refine ⟨β', g1, g6, ⟨ho.os.trans g1.os.symm, ho.tape.trans g1.tape.symm, ho.output.trans g1.output.symm, g4, fun k hk => ?_⟩, fun j => φ (j + 1), fun j p hp => h1 (j + 1) p (by simpa using hp), fun j hj k hk hO => ?_, fun a b ha hb hne => h3 (a + 1) (b + 1) (by simp; omega) (by simp; omega) (by omega)⟩
  ·rcases g2 k hk with hb | hb
   ·have e1 := g1.old k hb
    have e2 := ho.old k hb
    exact ⟨Nat.lt_of_lt_of_le e1.1 g1.size, e2.2.trans e1.2.symm⟩
   exact g5 k hb
  rcases g2 k hO with hb | hb
  ·exact h2 (j + 1) (by simp; omega) k hk hb
  exact h3 (j + 1) 0 (by simp; omega) (by simp) (by omega) k hk hb
theorem Spec.Fg {Φ : Bs → Prop} {post : Value → List HP → Prop} (h : ∀ β' : Bs, β.le β' → Φ β' → Spec P β' f args pre post) : Spec P β f args (.abs (mW β Φ) :: pre) post := by
  intro R w hS
  obtain ⟨β', g1, g2, g3⟩ := Sat.PA (l := pre ++ [.abs R]) hS
  refine (h β' g1 g2 R w g3).mono ?_
  rintro e w' ⟨v, l, h1, h2, h3⟩
  exact ⟨v, l, h1, h2, h3.Ga g1⟩
end Ms
end
section
open Go.RowKit
section
variable {O : bK} {k : Nat} {kd : Int}
theorem zK (L : HL) (h : (obj O k).kind = kd) (h0 : kd ≠ 0 := by decide) : ∀ F w, (ak (aN O L)).h F w → w.cell? ⟨L.b k, 0, none⟩ = some (.int .i64 (obj O k).id) := bp (by rw [h]; exact h0) rfl
theorem Mt (L : HL) (h : (obj O k).kind = kd) (h0 : kd ≠ 0 := by decide) : ∀ F w, (ak (aN O L)).h F w → w.cell? ⟨L.b k, 1, none⟩ = some (.int .i64 (obj O k).mode) := bp (by rw [h]; exact h0) rfl
theorem kW (L : HL) (h : (obj O k).kind = kd) (h0 : kd ≠ 0 := by decide) : ∀ F w, (ak (aN O L)).h F w → w.cell? ⟨L.b k, 6, none⟩ = some (.int .i64 (obj O k).links) := bp (by rw [h]; exact h0) rfl
theorem iU (L : HL) (h : (obj O k).kind = kd) (h0 : kd ≠ 0 := by decide) : ∀ F w, (ak (aN O L)).h F w → w.cell? ⟨L.b k, 7, none⟩ = some (.int .i64 (obj O k).opens) := bp (by rw [h]; exact h0) rfl
theorem lC (L : HL) (h : (obj O k).kind = kd) (h0 : kd ≠ 0 := by decide) : ∀ F w, (ak (aN O L)).h F w → w.cell? ⟨L.b k, 8, none⟩ = some (.bool (obj O k).gone) := bp (by rw [h]; exact h0) rfl
theorem Mu (L : HL) (h : (obj O k).kind = 1) : ∀ F w, (ak (aN O L)).h F w → w.cell? ⟨L.b k, 9, none⟩ = some (.slice (L.dA k) (obj O k).data.length (L.dC k)) := bp (by rw [h]; decide) (by rw [eH h]; rfl)
theorem bA (L : HL) (h : (obj O k).kind = 2) : ∀ F w, (ak (aN O L)).h F w → w.cell? ⟨L.b k, 9, none⟩ = some (.map (some (L.m k))) := bp (by rw [h]; decide) (by rw [gV h]; rfl)
theorem PB (L : HL) (h : (obj O k).kind = 2) : ∀ F w, (ak (aN O L)).h F w → w.cell? ⟨L.b k, 10, none⟩ = some (qK L (obj O k).up) := bp (by rw [h]; decide) (by rw [gV h]; rfl)
theorem Og (L : HL) (h : (obj O k).kind = 3) : ∀ F w, (ak (aN O L)).h F w → w.cell? ⟨L.b k, 9, none⟩ = some (.string (obj O k).target) := bp (by rw [h]; decide) (by rw [ug h]; rfl)
end
end
section
open Go.RowKit Go.Maps
theorem ak.step {R R' : Nat → bT} {k : Nat} {F : Fp} {w w' : World} (hF : (ak R).h F w) (hR : ∀ x, x ≠ k → R' x = R x) (hs : ∀ G, (R k).h G w → ∃ G', (R' k).h G' w' ∧ Step G w G' w') : ∃ F', (ak R').h F' w' ∧ Step F w F' w' := by
  obtain ⟨φ, h1, h2, h3⟩ := hF
  obtain ⟨G', g1, st⟩ := hs _ (h1 k)
  have hap : ∀ i, i ≠ k → ∀ x, G' x → φ i x → False := fun i hne x hx hy => by
    rcases st.grow x hx with e | e
    ·exact h2 i k hne x hy e
    have := (R i).lt (h1 i) x hy; omega
  refine ⟨fun x => ∃ i, (if i = k then G' else φ i) x, ⟨fun i => if i = k then G' else φ i, fun i => ?_, fun i j hne x hx hy => ?_, fun x => Iff.rfl⟩, ⟨st.keeps.mono (fun x _ hx => (h3 x).2 ⟨k, hx⟩), fun x ⟨i, hx⟩ => ?_⟩⟩
  ·by_cases e : i = k
   ·subst e; simp only [if_true]; exact g1
   simp only [e, if_false]
   rw [hR i e]
   exact (R i).st (h1 i) st.keeps (fun x hx hk => h2 i k e x hx hk)
  ·by_cases e1 : i = k
   ·have e2 : j ≠ k := fun e => hne (e1.trans e.symm)
    simp only [e1, if_true] at hx
    simp only [e2, if_false] at hy
    exact hap j e2 x hx hy
   simp only [e1, if_false] at hx
   by_cases e2 : j = k
   ·simp only [e2, if_true] at hy
    exact hap i e1 x hy hx
   simp only [e2, if_false] at hy
   exact h2 i j hne x hx hy
  by_cases e : i = k
  ·simp only [e, if_true] at hx
   rcases st.grow x hx with h | h
   ·exact .inl ((h3 x).2 ⟨k, h⟩)
   exact .inr h
  simp only [e, if_false] at hx
  exact .inl ((h3 x).2 ⟨i, hx⟩)
def zL (O : bK) (L : HL) : Nat → HP
  | 0 => .abs (ak (aN O L))
  | 1 => .abs (ak (bh O L))
  | _ => .abs (ak (aY O L))
def nL (O : bK) (L : HL) : List (Nat × Nat) → List (Nat × HP)
  | [] => []
  | q :: r => (q.1, zL O L q.2) :: nL O L r
def qN (hps : List HP) (O : bK) (L : HL) : List (Nat × Nat) → Prop
  | [] => True
  | q :: r => hps[q.1]? = some (zL O L q.2) ∧ qN hps O L r
theorem rY {hps : List HP} {O O2 : bK} {L : HL} {p : Nat} (he : ∀ q, q ≠ p → zL O2 L q = zL O L q) : ∀ {js : List (Nat × Nat)}, qN hps O L js → mo p (js.map (·.2)) = false → kN hps (nL O2 L js) = hps
  | [], _, _ => rfl
  | q :: r, h, hn => by
    have hq : q.2 ≠ p := fun e => by
      rw [show mo p ((q :: r).map (·.2)) = true from rO.2 (by simp [e])] at hn; cases hn
    have hr : mo p (r.map (·.2)) = false := by
      cases hb : mo p (r.map (·.2)) with
      | false => rfl
      | true => rw [show mo p ((q :: r).map (·.2)) = true from rO.2 (List.mem_cons_of_mem _ (rO.1 hb))] at hn; cases hn
    show kN (hps.set q.1 (zL O2 L q.2)) (nL O2 L r) = hps
    have e : hps.set q.1 (zL O2 L q.2) = hps := by
      rw [he _ hq]
      refine List.ext_getElem? (fun n => ?_)
      rw [List.getElem?_set]
      split
      ·rename_i e; subst e
       rw [h.1]; split
       ·rfl
       rename_i hlt; exact absurd (bw h.1) hlt
      rfl
    rw [e]
    exact rY he h.2 hr
def yI (P : Program) (N : Nat) (junk : Nat → Value) (ops : Array Oper) (fr : Fr) (k : Nat) : Option (Addr × Value) :=
  match dO N junk ops fr k with
  | some (.store T a y, _) => match (P.info? T).map (·.size) with
    | some 1 => match cC N fr junk a with
      | .pointer (some ad) => some (ad, cC N fr junk y)
      | _ => none
    | _ => none
  | _ => none
def yJ (N : Nat) (junk : Nat → Value) (ops : Array Oper) (fr : Fr) (k : Nat) : Option (TypeId × Nat × Value) :=
  match dO N junk ops fr k with
  | some (.lookup t x ix false, _) => match cC N fr junk x with
    | .map (some b) => some (t, b, cC N fr junk ix)
    | _ => none
  | _ => none
def setAt (N : Nat) (junk : Nat → Value) (ops : Array Oper) (fr : Fr) (k : Nat) : Option (TypeId × Nat × Value × Value) :=
  match dO N junk ops fr k with
  | some (.mapUpdate t x ix y, _) => match cC N fr junk x with
    | .map (some b) => some (t, b, cC N fr junk ix, cC N fr junk y)
    | _ => none
  | _ => none
def Fh (N : Nat) (junk : Nat → Value) (ops : Array Oper) (fr : Fr) (k : Nat) : Option (TypeId × TypeId × Nat × Value) :=
  match dO N junk ops fr k with
  | some (.call ⟨.builtin .delete, xs, ts⟩, _) => match xs.toList with
    | [x, ix] => match ts.toList with
      | [t, K] => match cC N fr junk x with
        | .map (some b) => some (t, K, b, cC N fr junk ix)
        | _ => none
      | _ => none
    | _ => none
  | _ => none
def CO (L : HL) : Option Th → Value
  | none => .nilIface
  | some t => cO L t
section rules
variable {β : Bs} {N : Nat} {ops : Array Oper} {k x : Nat} {fr : Fr} {hps : List HP} {Q : Post} {O : bK} {L : HL} {name : ByteArray} {r : Option Th} {t : Th}
theorem rZ {junk : Nat → Value} {op : Op} {d : Option Tmp} (h : dO N junk ops fr k = some (op, d)) : d = gF ops k := by
  obtain ⟨o, h1, _, _, h4⟩ := cW h
  unfold gF
  rw [h1, ← h4]
theorem CP {P : Program} {junk : Nat → Value} {ad : Addr} {u : Value} (h : yI P N junk ops fr k = some (ad, u)) : ∃ T a y, dO N junk ops fr k = some (.store T a y, gF ops k) ∧ (P.info? T).map (·.size) = some 1 ∧ cC N fr junk a = .pointer (some ad) ∧ cC N fr junk y = u := by
  unfold yI at h
  repeat' split at h
  all_goals first | (cases h; done) | skip
  rename_i T a y d h0 _ h1 _ Qu h2
  cases h
  have := rZ h0
  subst this
  exact ⟨T, a, y, h0, h1, h2, rfl⟩
theorem mF {junk : Nat → Value} {T : TypeId} {b : Nat} {key : Value} (h : yJ N junk ops fr k = some (T, b, key)) : ∃ a y, dO N junk ops fr k = some (.lookup T a y false, gF ops k) ∧ cC N fr junk a = .map (some b) ∧ cC N fr junk y = key := by
  unfold yJ at h
  repeat' split at h
  all_goals first | (cases h; done) | skip
  rename_i T' a y d h0 _ b' h1
  cases h
  have := rZ h0
  subst this
  exact ⟨a, y, h0, h1, rfl⟩
theorem Jp {junk : Nat → Value} {T : TypeId} {b : Nat} {key u : Value} (h : setAt N junk ops fr k = some (T, b, key, u)) : ∃ a y z, dO N junk ops fr k = some (.mapUpdate T a y z, gF ops k) ∧ cC N fr junk a = .map (some b) ∧ cC N fr junk y = key ∧ cC N fr junk z = u := by
  unfold setAt at h
  repeat' split at h
  all_goals first | (cases h; done) | skip
  rename_i T' a y z d h0 _ b' h1
  cases h
  have := rZ h0
  subst this
  exact ⟨a, y, z, h0, h1, rfl, rfl⟩
theorem G2 {P : Program} {T : TypeId} {a y : Operand} {o : Oper} {ev : Operand → Value} {w : World} {ad : Addr} {u v0 : Value} (ho : o.op = .store T a y) (hT : (P.info? T).map (·.size) = some 1) (ha : ev a = .pointer (some ad)) (hy : ev y = u) (hu : u.oneCell' = true) (hc : w.cell? ad = some v0) (hf : w.frozen? ad = false) (hs : ad.spot = none) : ld P ev o w undef (w.setCell ad u) := by
  obtain ⟨inf, hi, hsz⟩ : ∃ inf, P.info? T = some inf ∧ inf.size = 1 := by
    cases h : P.info? T with
    | none => rw [h] at hT; cases hT
    | some inf => rw [h] at hT; exact ⟨inf, rfl, by simpa using hT⟩
  have h3 := kI hi w
  rw [hsz] at h3
  obtain ⟨dst, op, type, pos, after, guard⟩ := o
  obtain ⟨bk, off, spot⟩ := ad
  simp only at hs
  subst hs
  cases ho
  refine .inr ⟨rfl, ?_⟩
  cases u <;> first
    | (simp [Value.oneCell'] at hu; done)
    | (simp only [execOp, ha, hy]; simp [go_sem, Instr.storeAt, Instr.sureAddr, storeVar, h3, Value.cells, storeCells, store, Addr.add, Sem.run, hc, hf])
theorem OM (i : Nat) (js : List (Nat × Nat)) (x j : Nat) (f : aM → aM) (u : Value) {kd : Int} (hk : (obj O x).kind = kd)
    (K : ∀ O2, O2 = ay O x f → aj Tryz.prog β N ops (k + 1) (cJ fr (gF ops k) undef) ((kN hps (nL O2 L js)).set i (.abs (ak (aN O2 L)))) Q)
    (hp : hps[i]? = some (.abs (ak (aN O L)))) (hj : qN hps O L js)
    (ho : ∀ junk, yI Tryz.prog N junk ops fr k = some (⟨L.b x, j, none⟩, u))
    (hn : mo 0 (js.map (·.2)) = false) (h0 : kd ≠ 0) (hc : eW L x (f (obj O x)) = (eW L x (obj O x)).set j u) (hu : u.oneCell' = true) (h9 : j < (eW L x (obj O x)).length)
    (he : (f (obj O x)).ah = (obj O x).ah) (hd : (f (obj O x)).data = (obj O x).data) (yK : (f (obj O x)).kind = (obj O x).kind) : aj Tryz.prog β N ops k fr hps Q := by
  obtain ⟨T, a, y, h1, h2, h3, h4⟩ := CP (ho (fun _ => undef))
  intro junk w hS
  obtain ⟨T, a, y, h1, h2, h3, h4⟩ := CP (ho junk)
  obtain ⟨o, g1, g2, g3, g4⟩ := cW h1
  have hx0 : (obj O x).kind ≠ 0 := by rw [hk]; exact h0
  have CQ : kN hps (nL (ay O x f) L js) = hps := rY (p := 0) (fun q hq => by
    match q, hq with
    | 0, hq => exact absurd rfl hq
    | 1, _ => exact congrArg (fun R => HP.abs (ak R)) (kR he yK)
    | q + 2, _ => exact congrArg (fun R => HP.abs (ak R)) (kQ hd yK)) hj hn
  have hcell : ∃ v0, (eW L x (obj O x))[j]? = some v0 := iw h9
  obtain ⟨v0, hv0⟩ := hcell
  obtain ⟨F, hF⟩ := hS.get hp
  obtain ⟨G, hG⟩ := ak.at x hF
  have En := hG
  rw [jP hx0] at En
  obtain ⟨hb, _⟩ := En
  obtain ⟨c1, c2⟩ := eP (a := ⟨L.b x, j, none⟩) hb rfl rfl hv0
  have hS2 : Sat β (hps.set i (.abs (ak (aN (ay O x f) L)))) (w.setCell ⟨L.b x, j, none⟩ (u)) := hS.set hp (fun F hF => ak.step (k := x) (show (ak (aN O L)).h F w from hF) (fun y hy => rR hy) (fun G hG => by
    rw [jP hx0] at hG
    rw [rQ, if_neg (by rw [yK]; exact hx0), hc, yK]
    exact pU hG rfl rfl))
  rw [drop_cons g1]
  unfold wpList
  rw [dR, if_pos g2]
  refine .inl (iW (v := undef) (w' := w.setCell ⟨L.b x, j, none⟩ (u)) (by rw [dz]; exact G2 g3 h2 h3 h4 hu c1 c2 rfl) ?_)
  rw [di]
  have hK := K _ rfl junk _ (by rw [CQ]; exact hS2)
  rw [← g4] at hK
  exact hK
theorem ql (i : Nat) (js : List (Nat × Nat)) (x j : Nat) (f : aM → aM) {kd : Int} (hk : (obj O x).kind = kd)
    (K : ∀ O2, O2 = ay O x f → aj Tryz.prog β N ops (k + 1) (cJ fr (gF ops k) undef) ((kN hps (nL O2 L js)).set i (.abs (ak (aN O2 L)))) Q)
    (hp : hps[i]? = some (.abs (ak (aN O L))) := by rfl) (hj : qN hps O L js := by first | exact ⟨rfl, trivial⟩ | exact ⟨rfl, rfl, trivial⟩ | exact trivial)
    (ho : ∀ junk, yI Tryz.prog N junk ops fr k = some (⟨L.b x, j, none⟩, (vn (f (obj O x))).getD j undef) := by intro _; kernel_rfl)
    (hn : mo 0 (js.map (·.2)) = false := by rfl) (h0 : kd ≠ 0 := by decide) (hc : eW L x (f (obj O x)) = (eW L x (obj O x)).set j ((vn (f (obj O x))).getD j undef) := by rfl) (hu : ((vn (f (obj O x))).getD j undef).oneCell' = true := by rfl) (h9 : Nat.blt j 9 = true := by rfl)
    (he : (f (obj O x)).ah = (obj O x).ah := by rfl) (hd : (f (obj O x)).data = (obj O x).data := by rfl) (yK : (f (obj O x)).kind = (obj O x).kind := by rfl) : aj Tryz.prog β N ops k fr hps Q :=
  OM i js x j f _ hk K hp hj ho hn h0 hc hu (Nat.lt_of_lt_of_le (show j < 9 by simpa [Nat.blt_eq] using h9) (by unfold eW vn; simp)) he hd yK
theorem OO (i : Nat) (js : List (Nat × Nat)) (x : Nat) (y : Option Nat) (hk : (obj O x).kind = 2)
    (K : ∀ O2, O2 = ay O x (fun o => { o with up := y }) → aj Tryz.prog β N ops (k + 1) (cJ fr (gF ops k) undef) ((kN hps (nL O2 L js)).set i (.abs (ak (aN O2 L)))) Q)
    (hp : hps[i]? = some (.abs (ak (aN O L))) := by rfl) (hj : qN hps O L js := by first | exact ⟨rfl, trivial⟩ | exact ⟨rfl, rfl, trivial⟩ | exact trivial)
    (ho : ∀ junk, yI Tryz.prog N junk ops fr k = some (⟨L.b x, 10, none⟩, qK L y) := by intro _; kernel_rfl) (hn : mo 0 (js.map (·.2)) = false := by rfl) : aj Tryz.prog β N ops k fr hps Q :=
  OM i js x 10 (fun o => { o with up := y }) (qK L y) hk K hp hj ho hn (by decide) (by rw [gV (show ({ obj O x with up := y } : aM).kind = 2 from hk), gV hk]; rfl) (by cases y <;> rfl) (by rw [gV hk]; exact Nat.lt_succ_self 10) rfl rfl rfl
theorem Sat.Kk {w : World} {i j : Nat} {f : aM → aM} {u : Value} (hS : Sat β hps w) (hp : hps[i]? = some (.abs (ak (aN O L)))) (hx0 : (obj O x).kind ≠ 0) (hc : eW L x (f (obj O x)) = (eW L x (obj O x)).set j u) (yK : (f (obj O x)).kind = (obj O x).kind) (h9 : j < (eW L x (obj O x)).length) :
    Sat β (hps.set i (.abs (ak (aN (ay O x f) L)))) (w.setCell ⟨L.b x, j, none⟩ u) ∧ (∃ v0, w.cell? ⟨L.b x, j, none⟩ = some v0) ∧ w.frozen? ⟨L.b x, j, none⟩ = false := by
  obtain ⟨v0, hv0⟩ := iw h9
  obtain ⟨F, hF⟩ := hS.get hp
  obtain ⟨G, hG⟩ := ak.at x (show (ak (aN O L)).h F w from hF)
  rw [jP hx0] at hG
  obtain ⟨c1, c2⟩ := eP (a := ⟨L.b x, j, none⟩) hG.1 rfl rfl hv0
  refine ⟨hS.set hp (fun F hF => ak.step (k := x) (show (ak (aN O L)).h F w from hF) (fun y hy => rR hy) (fun G hG => ?_)), ⟨v0, c1⟩, c2⟩
  rw [jP hx0] at hG
  rw [rQ, if_neg (by rw [yK]; exact hx0), hc, yK]
  exact pU hG rfl rfl
def CR (P : Program) (N : Nat) (junk : Nat → Value) (ops : Array Oper) (fr : Fr) (k : Nat) : Option (Addr × Value) :=
  match dO N junk ops fr k with
  | some (.store T a y, _) => match (P.info? T).map (·.size) with
    | some 2 => match cC N fr junk a with
      | .pointer (some ad) => some (ad, cC N fr junk y)
      | _ => none
    | _ => none
  | _ => none
theorem G3 {P : Program} {junk : Nat → Value} {ad : Addr} {u : Value} (h : CR P N junk ops fr k = some (ad, u)) : ∃ T a y, dO N junk ops fr k = some (.store T a y, gF ops k) ∧ (P.info? T).map (·.size) = some 2 ∧ cC N fr junk a = .pointer (some ad) ∧ cC N fr junk y = u := by
  unfold CR at h
  repeat' split at h
  all_goals first | (cases h; done) | skip
  rename_i T a y d h0 _ h1 _ Qu h2
  cases h
  have := rZ h0
  subst this
  exact ⟨T, a, y, h0, h1, h2, rfl⟩
theorem Fj {P : Program} {T : TypeId} {a y : Operand} {o : Oper} {ev : Operand → Value} {w : World} {b j : Nat} {z1 z2 : Int} {v0 v1 : Value} (ho : o.op = .store T a y) (hT : (P.info? T).map (·.size) = some 2) (ha : ev a = .pointer (some ⟨b, j, none⟩)) (hy : ev y = .agg #[.int .i64 z1, .int .i64 z2])
    (hc : w.cell? ⟨b, j, none⟩ = some v0) (hf : w.frozen? ⟨b, j, none⟩ = false) (hc1 : (w.setCell ⟨b, j, none⟩ (.int .i64 z1)).cell? ⟨b, j + 1, none⟩ = some v1) (hf1 : (w.setCell ⟨b, j, none⟩ (.int .i64 z1)).frozen? ⟨b, j + 1, none⟩ = false) :
    ld P ev o w undef ((w.setCell ⟨b, j, none⟩ (.int .i64 z1)).setCell ⟨b, j + 1, none⟩ (.int .i64 z2)) := by
  obtain ⟨inf, hi, hsz⟩ : ∃ inf, P.info? T = some inf ∧ inf.size = 2 := by
    cases h : P.info? T with
    | none => rw [h] at hT; cases hT
    | some inf => rw [h] at hT; exact ⟨inf, rfl, by simpa using hT⟩
  have h3 := kI hi w
  rw [hsz] at h3
  obtain ⟨dst, op, type, pos, after, guard⟩ := o
  cases ho
  refine .inr ⟨rfl, ?_⟩
  simp only [execOp, ha, hy]
  simp [go_sem, Instr.storeAt, Instr.sureAddr, storeVar, h3, Value.cells, storeCells, store, Addr.add, Sem.run, hc, hf, hc1, hf1]
theorem G4 (i : Nat) (js : List (Nat × Nat)) (x : Nat) (z1 z2 : Int) {kd : Int} (hk : (obj O x).kind = kd)
    (K : ∀ O2, O2 = ay O x (fun o => { o with sec := z1, nano := z2 }) → aj Tryz.prog β N ops (k + 1) (cJ fr (gF ops k) undef) ((kN hps (nL O2 L js)).set i (.abs (ak (aN O2 L)))) Q)
    (hp : hps[i]? = some (.abs (ak (aN O L))) := by rfl) (hj : qN hps O L js := by first | exact ⟨rfl, trivial⟩ | exact ⟨rfl, rfl, trivial⟩ | exact trivial)
    (ho : ∀ junk, CR Tryz.prog N junk ops fr k = some (⟨L.b x, 4, none⟩, .agg #[.int .i64 z1, .int .i64 z2]) := by intro _; kernel_rfl)
    (hn : mo 0 (js.map (·.2)) = false := by rfl) (h0 : kd ≠ 0 := by decide) : aj Tryz.prog β N ops k fr hps Q := by
  intro junk w hS
  obtain ⟨T, a, y, h1, h2, h3, h4⟩ := G3 (ho junk)
  obtain ⟨o, g1, g2, g3, g4⟩ := cW h1
  have hx0 : (obj O x).kind ≠ 0 := by rw [hk]; exact h0
  have CQ : kN hps (nL (ay O x (fun o => { o with sec := z1, nano := z2 })) L js) = hps := rY (p := 0) (fun q hq => by
    match q, hq with
    | 0, hq => exact absurd rfl hq
    | 1, _ => exact congrArg (fun R => HP.abs (ak R)) (kR rfl rfl)
    | q + 2, _ => exact congrArg (fun R => HP.abs (ak R)) (kQ rfl rfl)) hj hn
  have hlen : ∀ o : aM, 9 ≤ (eW L x o).length := fun o => by unfold eW vn; simp
  obtain ⟨s1, ⟨v0, c1⟩, f1⟩ := hS.Kk (x := x) (j := 4) (f := fun o => { o with sec := z1 }) (u := .int .i64 z1) hp hx0 rfl rfl (by have := hlen (obj O x); omega)
  have hi : i < hps.length := bw hp
  have e1 : obj (ay O x (fun o => { o with sec := z1 })) x = { obj O x with sec := z1 } := bG
  obtain ⟨s2, ⟨v1, c2⟩, f2⟩ := s1.Kk (x := x) (j := 5) (f := fun o => { o with nano := z2 }) (u := .int .i64 z2) (i := i) (O := ay O x (fun o => { o with sec := z1 })) (by rw [List.getElem?_set, if_pos rfl, if_pos hi]) (by rw [e1]; exact hx0) rfl rfl (by have := hlen (obj (ay O x (fun o => { o with sec := z1 })) x); omega)
  rw [List.set_set, qJ] at s2
  rw [drop_cons g1]
  unfold wpList
  rw [dR, if_pos g2]
  refine .inl (iW (v := undef) (w' := _) (by rw [dz]; exact Fj g3 h2 h3 h4 c1 f1 c2 f2) ?_)
  rw [di]
  have hK := K _ rfl junk _ (by rw [CQ]; exact s2)
  rw [← g4] at hK
  exact hK
theorem vC {w : World} {i : Nat} (hS : Sat β hps w) (hp : hps[i]? = some (.abs (ak (bh O L)))) (hd : (obj O x).kind = 2) : dX Tryz.prog 9 w (L.m x) (fX L (obj O x).ah) (obj O x).ah.length := by
  obtain ⟨F, hF⟩ := hS.get hp
  obtain ⟨G, hG⟩ := ak.at x (show (ak (bh O L)).h F w from hF)
  rw [mz hd] at hG
  exact hG.1
theorem Eo {w : World} {i : Nat} {o : Oper} {ev : Operand → Value} {a y : Operand} (hS : Sat β hps w) (hp : hps[i]? = some (.abs (ak (bh O L)))) (hd : (obj O x).kind = 2) (hl : aQ name (obj O x).ah = r) (h3 : o.op = .lookup 97 a y false) (ha : ev a = .map (some (L.m x))) (hy : ev y = .string name) (hsz : name.size ≤ 1048576) : ld Tryz.prog ev o w (CO L r) w := by
  have h := sB (z := .nilIface) h3 (vC hS hp hd) ha hy wK Tryz.underlying97 (by kernel_rfl) (zx (by omega))
  rw [pP, hl] at h
  cases r <;> exact h
theorem fQ (i : Nat) (hd : (obj O x).kind = 2) (hl : aQ name (obj O x).ah = r) (K : aj Tryz.prog β N ops (k + 1) (cJ fr (gF ops k) (CO L r)) hps Q) (hp : hps[i]? = some (.abs (ak (bh O L))) := by rfl)
    (ho : ∀ junk, yJ N junk ops fr k = some (97, L.m x, .string name) := by intro _; kernel_rfl) (hsz : name.size ≤ 1048576 := by omega) : aj Tryz.prog β N ops k fr hps Q := by
  intro junk w hS
  obtain ⟨a, y, h1, h2, h3⟩ := mF (ho junk)
  exact aj.ic (aP := hps) (v := CO L r) (d := gF ops k) (op := .lookup 97 a y false) (fun j => by
    obtain ⟨a', y', h1', _, _⟩ := mF (ho j)
    obtain ⟨o, g1, g2, g3, g4⟩ := cW h1
    obtain ⟨o', oy, G5, qm, G6⟩ := cW h1'
    rw [g1] at oy
    cases oy
    rw [g3] at qm
    cases qm
    exact h1') (fun o junk w ho' hS => by
    obtain ⟨a', y', h1', h2', h3'⟩ := mF (ho junk)
    obtain ⟨o1, g1, g2, g3, g4⟩ := cW h1
    obtain ⟨o', oy, G5, qm, G6⟩ := cW h1'
    rw [g1] at oy
    cases oy
    rw [g3] at qm
    cases qm
    exact ⟨w, Eo hS hp hd hl ho' h2' h3' hsz, hS⟩) K junk w hS
theorem oP (i : Nat) (hd : (obj O x).kind = 2) (hl : aQ name (obj O x).ah = r) (K : aR Tryz.prog β N ops (k + 1) (cJ fr (gF ops k) (CO L r)) hps Q) (hp : hps[i]? = some (.abs (ak (bh O L))) := by rfl)
    (ho : ∀ junk, yJ N junk ops fr k = some (97, L.m x, .string name) := by intro _; kernel_rfl) (hsz : name.size ≤ 1048576 := by omega) : aR Tryz.prog β N ops k fr hps Q := by
  intro junk
  obtain ⟨a, y, h1, h2, h3⟩ := mF (ho junk)
  exact aR.ic (v := CO L r) (d := gF ops k) (op := .lookup 97 a y false) (fun j => by
    obtain ⟨a', y', h1', _, _⟩ := mF (ho j)
    obtain ⟨o, g1, g2, g3, g4⟩ := cW h1
    obtain ⟨o', oy, G5, qm, G6⟩ := cW h1'
    rw [g1] at oy
    cases oy
    rw [g3] at qm
    cases qm
    exact h1') (fun o junk w ho' hS => by
    obtain ⟨a', y', h1', h2', h3'⟩ := mF (ho junk)
    obtain ⟨o1, g1, g2, g3, g4⟩ := cW h1
    obtain ⟨o', oy, G5, qm, G6⟩ := cW h1'
    rw [g1] at oy
    cases oy
    rw [g3] at qm
    cases qm
    exact Eo hS hp hd hl ho' h2' h3' hsz) K junk
def Fk (N : Nat) (junk : Nat → Value) (ops : Array Oper) (fr : Fr) (k : Nat) : Option (TypeId × Nat) :=
  match dO N junk ops fr k with
  | some (.call ⟨.builtin .len, xs, ts⟩, _) => match xs.toList with
    | [x] => match ts.toList with
      | [t] => match cC N fr junk x with
        | .map (some b) => some (t, b)
        | _ => none
      | _ => none
    | _ => none
  | _ => none
theorem wX {junk : Nat → Value} {T : TypeId} {b : Nat} (h : Fk N junk ops fr k = some (T, b)) : ∃ a, dO N junk ops fr k = some (.call ⟨.builtin .len, #[a], #[T]⟩, gF ops k) ∧ cC N fr junk a = .map (some b) := by
  unfold Fk at h
  repeat' split at h
  all_goals first | (cases h; done) | skip
  rename_i xs ts d h0 _ a h1 _ t' h2 _ b' h3
  cases h
  have := rZ h0
  subst this
  refine ⟨a, ?_, h3⟩
  rw [h0]
  obtain ⟨xs⟩ := xs
  obtain ⟨ts⟩ := ts
  cases h1
  cases h2
  rfl
theorem Qv (i : Nat) (hd : (obj O x).kind = 2) (K : aj Tryz.prog β N ops (k + 1) (cJ fr (gF ops k) (.int .i64 (((obj O x).ah.length : Nat) : Int))) hps Q) (hp : hps[i]? = some (.abs (ak (bh O L))) := by rfl)
    (ho : ∀ junk, Fk N junk ops fr k = some (97, L.m x) := by intro _; kernel_rfl) : aj Tryz.prog β N ops k fr hps Q := by
  obtain ⟨a, h1, h2⟩ := wX (ho (fun _ => undef))
  obtain ⟨o, g1, g2, g3, g4⟩ := cW h1
  refine aj.ic (aP := hps) (v := .int .i64 (((obj O x).ah.length : Nat) : Int)) (d := gF ops k) (op := o.op) (fun j => ?_) (fun o' junk w ho' hS => ?_) K
  ·obtain ⟨a', h1', _⟩ := wX (ho j)
   obtain ⟨o', oy, G5, qm, G6⟩ := cW h1'
   rw [g1] at oy
   cases oy
   rw [qm]
   exact h1'
  obtain ⟨a', h1', h2'⟩ := wX (ho junk)
  obtain ⟨o1, oy, G5, qm, G6⟩ := cW h1'
  rw [g1] at oy
  cases oy
  exact ⟨w, uZ (ho'.trans qm) rfl (vC hS hp hd) h2' Tryz.underlying97, hS⟩
theorem Mv (i : Nat) (js : List (Nat × Nat)) {t : Th} (hd : (obj O x).kind = 2) (hno : aQ name (obj O x).ah = none)
    (K : ∀ O2, O2 = ay O x (fun o => { o with ah := eF name t o.ah }) → aj Tryz.prog β N ops (k + 1) (cJ fr (gF ops k) undef) ((kN hps (nL O2 L js)).set i (.abs (ak (bh O2 L)))) Q)
    (hp : hps[i]? = some (.abs (ak (bh O L))) := by rfl) (hj : qN hps O L js := by first | exact ⟨rfl, trivial⟩ | exact ⟨rfl, rfl, trivial⟩ | exact trivial)
    (ho : ∀ junk, setAt N junk ops fr k = some (97, L.m x, .string name, cO L t) := by intro _; kernel_rfl) (hn : mo 1 (js.map (·.2)) = false := by rfl) (hsz : name.size ≤ 1048576 := by omega) (hel : (obj O x).ah.length ≤ 1048576 := by omega) : aj Tryz.prog β N ops k fr hps Q := by
  intro junk w hS
  obtain ⟨a, y, z, h1, h2, h3, h4⟩ := Jp (ho junk)
  obtain ⟨o, g1, g2, g3, g4⟩ := cW h1
  have CQ : kN hps (nL (ay O x (fun o => { o with ah := eF name t o.ah })) L js) = hps := rY (p := 1) (fun q hq => by
    match q, hq with
    | 0, _ => exact congrArg (fun R => HP.abs (ak R)) (Cs (es := fun o => eF name t o.ah))
    | 1, hq => exact absurd rfl hq
    | q + 2, _ => exact congrArg (fun R => HP.abs (ak R)) (kQ rfl rfl)) hj hn
  obtain ⟨w', m1, m2, m3⟩ := (vC hS hp hd).store wK Tryz.underlying97 (by unfold maxLen; omega) (zx (p := name) (by omega)) (cO L t)
  have e1 : (fX L (obj O x).ah) (.string name.data.toList) = none := by rw [pP, hno]; rfl
  rw [e1, IK hno] at m2
  have hS2 : Sat β (hps.set i (.abs (ak (bh (ay O x (fun o => { o with ah := eF name t o.ah })) L)))) w' := hS.set hp (fun F hF => ak.step (k := x) (show (ak (bh O L)).h F w from hF) (fun y hy => ud hy) (fun G hG => by
    rw [mz hd] at hG
    rw [mz (by rw [bG]; exact hd), bG, Cp]
    exact step_map hG m2 m3))
  rw [drop_cons g1]
  unfold wpList
  rw [dR, if_pos g2]
  refine .inl (iW (v := undef) (w' := w') (by
    rw [dz]
    refine .inr ⟨rfl, ?_⟩
    obtain ⟨dst, op, type, pos, after, guard⟩ := o
    cases g3
    simp only [execOp, h2, h3, h4]
    simp [go_sem, m1]) ?_)
  rw [di]
  have hK := K _ rfl junk _ (by rw [CQ]; exact hS2)
  rw [← g4] at hK
  exact hK
theorem Jq {junk : Nat → Value} {T K0 : TypeId} {b : Nat} {key : Value} (h : Fh N junk ops fr k = some (T, K0, b, key)) : ∃ a y, dO N junk ops fr k = some (.call ⟨.builtin .delete, #[a, y], #[T, K0]⟩, gF ops k) ∧ cC N fr junk a = .map (some b) ∧ cC N fr junk y = key := by
  unfold Fh at h
  repeat' split at h
  all_goals first | (cases h; done) | skip
  rename_i xs ts d h0 _ a y h1 _ t' K' h2 _ b' h3
  cases h
  have := rZ h0
  subst this
  refine ⟨a, y, ?_, h3, rfl⟩
  rw [h0]
  obtain ⟨xs⟩ := xs
  obtain ⟨ts⟩ := ts
  cases h1
  cases h2
  rfl
theorem Mw (i : Nat) (js : List (Nat × Nat)) {t : Th} (hd : (obj O x).kind = 2) (sV : aQ name (obj O x).ah = some t) (hnt : mw (obj O x).ah)
    (K : ∀ O2, O2 = ay O x (fun o => { o with ah := eG name o.ah }) → aj Tryz.prog β N ops (k + 1) (cJ fr (gF ops k) (.tuple #[])) ((kN hps (nL O2 L js)).set i (.abs (ak (bh O2 L)))) Q)
    (hp : hps[i]? = some (.abs (ak (bh O L))) := by rfl) (hj : qN hps O L js := by first | exact ⟨rfl, trivial⟩ | exact ⟨rfl, rfl, trivial⟩ | exact trivial)
    (ho : ∀ junk, Fh N junk ops fr k = some (97, 9, L.m x, .string name) := by intro _; kernel_rfl) (hn : mo 1 (js.map (·.2)) = false := by rfl) (hsz : name.size ≤ 1048576 := by omega) : aj Tryz.prog β N ops k fr hps Q := by
  intro junk w hS
  obtain ⟨a, y, h1, h2, h3⟩ := Jq (ho junk)
  obtain ⟨o, g1, g2, g3, g4⟩ := cW h1
  have CQ : kN hps (nL (ay O x (fun o => { o with ah := eG name o.ah })) L js) = hps := rY (p := 1) (fun q hq => by
    match q, hq with
    | 0, _ => exact congrArg (fun R => HP.abs (ak R)) (Cs (es := fun o => eG name o.ah))
    | 1, hq => exact absurd rfl hq
    | q + 2, _ => exact congrArg (fun R => HP.abs (ak R)) (kQ rfl rfl)) hj hn
  obtain ⟨w', m1, m2, m3⟩ := (vC hS hp hd).drop wK Tryz.underlying97 (zx (p := name) (by omega)) o.type
  have e1 : (fX L (obj O x).ah) (.string name.data.toList) = some (cO L t) := by rw [pP, sV]; rfl
  rw [e1, IL] at m2
  have hlen := IJ hnt sV
  have hS2 : Sat β (hps.set i (.abs (ak (bh (ay O x (fun o => { o with ah := eG name o.ah })) L)))) w' := hS.set hp (fun F hF => ak.step (k := x) (show (ak (bh O L)).h F w from hF) (fun y hy => ud hy) (fun G hG => by
    rw [mz hd] at hG
    rw [mz (by rw [bG]; exact hd), bG]
    rw [show (eG name (obj O x).ah).length = (obj O x).ah.length - 1 by omega]
    exact step_map hG m2 m3))
  rw [drop_cons g1]
  unfold wpList
  rw [dR, if_pos g2]
  refine .inl (iW (v := .tuple #[]) (w' := w') (by
    rw [dz]
    refine .inl ?_
    obtain ⟨dst, op, type, pos, after, guard⟩ := o
    cases g3
    simp only [execOp, resolve, invoke, builtin]
    simp [go_sem, h2, h3, m1]) ?_)
  rw [di]
  have hK := K _ rfl junk _ (by rw [CQ]; exact hS2)
  rw [← g4] at hK
  exact hK
end rules
section after
variable {O O2 : bK} {j x : Nat} {f : aM → aM} {kd : Int}
theorem ku (e : O2 = ay O j f) (h : (obj O x).kind = kd) (hf : ∀ o, (f o).kind = o.kind := by intro _; rfl) : (obj O2 x).kind = kd := by subst e; exact (iH hf).trans h
theorem fu {α : Type} (g : aM → α) {v : α} (e : O2 = ay O j f) (h : g (obj O x) = v) (hf : ∀ o, g (f o) = g o := by intro _; rfl) : g (obj O2 x) = v := by subst e; exact (cI hf).trans h
end after
end
section
open Go.RowKit Go.Maps
attribute [local irreducible] aj aR af ai
theorem cu {β : Bs} (b : Nat) : Spec Tryz.prog β 224 #[vP b] [] (fun v l => v = vP b ∧ l = []) := by
 refine Spec.enter Tryz.func224 rfl Tryz.ntmps224 (Nat.le_of_ble_eq_true rfl) (fun R => ?_)
 refine SR ?_
 refine gK 1 [] [] ?_
 refine NS ?_
 refine gK 2 [(2, vP b)] [] ?_
 refine NN (af.ret ?_)
 exact RT (vP b) [0] (⟨rfl, rfl⟩)
theorem jT {β : Bs} (a : Value) : Spec Tryz.prog β 223 #[a] [] (fun v l => v = vI 1 ∧ l = []) := by
 refine Spec.enter Tryz.func223 rfl Tryz.ntmps223 (Nat.le_of_ble_eq_true rfl) (fun R => ?_)
 refine SR ?_
 refine gK 1 [] [] ?_
 refine NS ?_
 refine gK 1 [(2, vI 1)] [] ?_
 refine NN (af.ret ?_)
 exact RT (vI 1) [0] (⟨rfl, rfl⟩)
theorem jU {β : Bs} (a : Value) : Spec Tryz.prog β 226 #[a] [] (fun v l => v = vI 2 ∧ l = []) := by
 refine Spec.enter Tryz.func226 rfl Tryz.ntmps226 (Nat.le_of_ble_eq_true rfl) (fun R => ?_)
 refine SR ?_
 refine gK 1 [] [] ?_
 refine NS ?_
 refine gK 1 [(2, vI 2)] [] ?_
 refine NN (af.ret ?_)
 exact RT (vI 2) [0] (⟨rfl, rfl⟩)
theorem kC {β : Bs} (a : Value) : Spec Tryz.prog β 225 #[a] [] (fun v l => v = vI 3 ∧ l = []) := by
 refine Spec.enter Tryz.func225 rfl Tryz.ntmps225 (Nat.le_of_ble_eq_true rfl) (fun R => ?_)
 refine SR ?_
 refine gK 1 [] [] ?_
 refine NS ?_
 refine gK 1 [(2, vI 3)] [] ?_
 refine NN (af.ret ?_)
 exact RT (vI 3) [0] (⟨rfl, rfl⟩)
theorem Ep {β : Bs} (O : bK) (L : HL) (d : Nat) (hkd : (obj O d).kind = 2) (name : ByteArray) (hsz : name.size ≤ 1048576) (hno : aQ name (obj O d).ah = none) (hel : (obj O d).ah.length ≤ 1048576) (t : Th) (hkt : (obj O t.k).kind = t.kind) (h3 : t.kind = 1 ∨ t.kind = 2 ∨ t.kind = 3) (hb : 0 ≤ (obj O t.k).links ∧ (obj O t.k).links ≤ 1048576) :
    Spec Tryz.prog β 36 #[vP (L.b d), .string name, (cO L t)] [.abs (ak (aN O L)), .abs (ak (bh O L))] (fun v l => v = .tuple #[] ∧ l = [.abs (ak (aN (kY O d name t) L)), .abs (ak (bh (kY O d name t) L))]) := by
 refine Spec.enter Tryz.func36 rfl Tryz.ntmps36 (Nat.le_of_ble_eq_true rfl) (fun R => ?_)
 refine af.seq ?_
 obtain ⟨tk, kd⟩ := t; simp only at hkt h3; rcases h3 with rfl | rfl | rfl
 ·replace hkt : (obj O tk).kind = 1 := hkt
  replace hb : 0 ≤ (obj O tk).links ∧ (obj O tk).links ≤ 1048576 := hb
  refine af.region ?_
  refine gK 6 [(11, .map (some (L.m d))), (12, .string name), (13, .iface 89 (vP (L.b tk)))] [(3, v_ 0 (bA L hkd))] ?_
  refine Mv 1 [(0, 0)] (t := ⟨tk, 1⟩) hkd hno (fun bJ bO => ?_)
  have iQ := ku bO hkd
  have kD := ku bO hkt
  have hf3 : (obj bJ tk).links = (obj O tk).links := fu aM.links bO rfl
  refine NS ?_
  refine gK 1 [(14, .iface 89 (vP (L.b tk)))] [] ?_
  refine gL [] (cu (L.b tk)) ?_
  rintro _ _ ⟨rfl, rfl⟩
  refine gK 6 [(19, vI ((obj bJ tk).links + 1)), (21, .pointer (some ⟨(L.b tk), 6, none⟩))] [(2, v_ 0 (kW L kD)), (3, p_ ⟨[], none, none, none, some (vI ((obj bJ tk).links + 1))⟩ [(Value.int .i64 (IntKind.wrap .i64 ((obj bJ tk).links + 1))) = (.int .i64 ((obj bJ tk).links + 1))] ⟨bE (by omega) (by omega) (by omega), trivial⟩)] ?_
  refine ql 0 [(1, 1)] tk 6 (fun o => { o with links := o.links + 1 }) kD (fun cY cA => ?_)
  have uE := ku cA iQ
  have uF := ku cA kD
  refine NS ?_
  refine gK 7 [(6, .pointer none), (7, .bool false)] [] ?_
  refine NS ?_
  refine gK 1 [(27, .bool false)] [] ?_
  refine NN ?_
  refine CF ?_
  refine af.skip ?_
  exact RF (l := [.abs (ak (aN cY L)), .abs (ak (bh cY L))]) (.tuple #[]) [0, 1, 2] (⟨rfl, by subst cA; subst bO; rfl⟩)
 ·replace hkt : (obj O tk).kind = 2 := hkt
  replace hb : 0 ≤ (obj O tk).links ∧ (obj O tk).links ≤ 1048576 := hb
  refine af.region ?_
  refine gK 6 [(11, .map (some (L.m d))), (12, .string name), (13, .iface 96 (vP (L.b tk)))] [(3, v_ 0 (bA L hkd))] ?_
  refine Mv 1 [(0, 0)] (t := ⟨tk, 2⟩) hkd hno (fun bJ bO => ?_)
  have Jr := ku bO hkd
  have Fl := ku bO hkt
  have RO : (obj bJ tk).links = (obj O tk).links := fu aM.links bO rfl
  refine NS ?_
  refine gK 1 [(14, .iface 96 (vP (L.b tk)))] [] ?_
  refine gL [] (cu (L.b tk)) ?_
  rintro _ _ ⟨rfl, rfl⟩
  refine gK 6 [(19, vI ((obj bJ tk).links + 1)), (21, .pointer (some ⟨(L.b tk), 6, none⟩))] [(2, v_ 0 (kW L Fl)), (3, p_ ⟨[], none, none, none, some (vI ((obj bJ tk).links + 1))⟩ [(Value.int .i64 (IntKind.wrap .i64 ((obj bJ tk).links + 1))) = (.int .i64 ((obj bJ tk).links + 1))] ⟨bE (by omega) (by omega) (by omega), trivial⟩)] ?_
  refine ql 0 [(1, 1)] tk 6 (fun o => { o with links := o.links + 1 }) Fl (fun cY cA => ?_)
  have zM := ku cA Jr
  have Fm := ku cA Fl
  refine NS ?_
  refine gK 7 [(6, vP (L.b tk)), (7, .bool true)] [] ?_
  refine NS ?_
  refine gK 1 [(27, .bool true)] [] ?_
  refine NN ?_
  refine CT ?_
  refine af.region ?_
  refine gK 4 [(29, vP (L.b d)), (31, .pointer (some ⟨(L.b tk), 10, none⟩))] [] ?_
  refine OO 0 [(1, 1)] tk (some d) Fm (fun r8 j6 => ?_)
  have Kl := ku j6 zM
  have Q8 := ku j6 Fm
  refine NL ?_
  exact RF (l := [.abs (ak (aN r8 L)), .abs (ak (bh r8 L))]) (.tuple #[]) [0, 1, 2] (⟨rfl, by subst j6; subst cA; subst bO; rfl⟩)
 replace hkt : (obj O tk).kind = 3 := hkt
 replace hb : 0 ≤ (obj O tk).links ∧ (obj O tk).links ≤ 1048576 := hb
 refine af.region ?_
 refine gK 6 [(11, .map (some (L.m d))), (12, .string name), (13, .iface 93 (vP (L.b tk)))] [(3, v_ 0 (bA L hkd))] ?_
 refine Mv 1 [(0, 0)] (t := ⟨tk, 3⟩) hkd hno (fun bJ bO => ?_)
 have Oh := ku bO hkd
 have Fo := ku bO hkt
 have Rq : (obj bJ tk).links = (obj O tk).links := fu aM.links bO rfl
 refine NS ?_
 refine gK 1 [(14, .iface 93 (vP (L.b tk)))] [] ?_
 refine gL [] (cu (L.b tk)) ?_
 rintro _ _ ⟨rfl, rfl⟩
 refine gK 6 [(19, vI ((obj bJ tk).links + 1)), (21, .pointer (some ⟨(L.b tk), 6, none⟩))] [(2, v_ 0 (kW L Fo)), (3, p_ ⟨[], none, none, none, some (vI ((obj bJ tk).links + 1))⟩ [(Value.int .i64 (IntKind.wrap .i64 ((obj bJ tk).links + 1))) = (.int .i64 ((obj bJ tk).links + 1))] ⟨bE (by omega) (by omega) (by omega), trivial⟩)] ?_
 refine ql 0 [(1, 1)] tk 6 (fun o => { o with links := o.links + 1 }) Fo (fun cY cA => ?_)
 have yL := ku cA Oh
 have Oi := ku cA Fo
 refine NS ?_
 refine gK 7 [(6, .pointer none), (7, .bool false)] [] ?_
 refine NS ?_
 refine gK 1 [(27, .bool false)] [] ?_
 refine NN ?_
 refine CF ?_
 refine af.skip ?_
 exact RF (l := [.abs (ak (aN cY L)), .abs (ak (bh cY L))]) (.tuple #[]) [0, 1, 2] (⟨rfl, by subst cA; subst bO; rfl⟩)
theorem fV {β : Bs} (X : FM) (f m t : Nat) (hX : 0 ≤ X.ah ∧ X.ah ≤ 1048576 ∧ -1125899906842624 ≤ X.used ∧ X.used ≤ 1125899906842624 ∧ 0 ≤ X.last ∧ X.last ≤ 1125899906842624) (O : bK) (L : HL) (d : Nat) (hkd : (obj O d).kind = 2) (name : ByteArray) (hsz : name.size ≤ 1048576) (hno : aQ name (obj O d).ah = none) (hel : (obj O d).ah.length ≤ 1048576) (th : Th) (hkt : (obj O th.k).kind = th.kind) (h3 : th.kind = 1 ∨ th.kind = 2 ∨ th.kind = 3) (hb : 0 ≤ (obj O th.k).links ∧ (obj O th.k).links ≤ 1048576) :
    Spec Tryz.prog β 104 #[vP f, vP (L.b d), .string name, (cO L th)] [.blk f [vI (X.cN), vI (X.cB), vI (X.cH), vI (X.cS), vI (X.cZ), .map (some m), vP t, vI (X.last), vI (X.ah), vI (X.used)] 86, .abs (ak (aN O L)), .abs (ak (bh O L))] (fun v l => v = .tuple #[] ∧ l = [.blk f [vI (X.cN), vI (X.cB), vI (X.cH), vI (X.cS), vI (X.cZ), .map (some m), vP t, vI (X.last), vI (X.ah + 1), vI (X.used)] 86, .abs (ak (aN (bq X O d name th) L)), .abs (ak (bh (bq X O d name th) L))]) := by
 refine Spec.enter Tryz.func104 rfl Tryz.ntmps104 (Nat.le_of_ble_eq_true rfl) (fun R => ?_)
 refine af.seq ?_
 skip
 refine af.region ?_
 refine gK 3 [(8, vP (L.b d)), (9, .string name), (10, (cO L th))] [] ?_
 refine gL [1, 2] (Ep O L d hkd name hsz hno hel th hkt h3 hb) ?_
 rintro _ _ ⟨rfl, rfl⟩
 refine NS ?_
 have yM : (obj (kY O d name th) d).kind = 2 := (uh).trans (hkd)
 generalize bO : (kY O d name th) = bJ at yM ⊢
 refine gK 9 [(17, .agg #[vI (X.cS), vI (X.cZ)]), (20, .pointer (some ⟨(L.b d), 4, none⟩))] [(5, A_ 2 f 2)] ?_
 refine G4 0 [(1, 1)] d X.cS X.cZ yM (fun cY cA => ?_)
 have Q9 := ku cA yM
 refine NN (af.region ?_)
 refine gC 8 [] [(3, a_ 2 f), (4, p_ ⟨[], none, none, none, some (vI (X.ah + 1))⟩ [(Value.int .i64 (IntKind.wrap .i64 (X.ah + 1))) = (.int .i64 (X.ah + 1))] ⟨bE (by omega) (by omega) (by omega), trivial⟩), (7, a_ 2 f)] [(2, [(8, vI (X.ah + 1))])] ?_
 refine NL ?_
 exact RF (l := [.blk f [vI (X.cN), vI (X.cB), vI (X.cH), vI (X.cS), vI (X.cZ), .map (some m), vP t, vI (X.last), vI (X.ah + 1), vI (X.used)] 86, .abs (ak (aN cY L)), .abs (ak (bh cY L))]) (.tuple #[]) [2, 0, 1, 3] (⟨rfl, by subst cA; subst bO; rfl⟩)
theorem iB {β : Bs} (X : FM) (f m t : Nat) (hX : 0 ≤ X.ah ∧ X.ah ≤ 1048576 ∧ -1125899906842624 ≤ X.used ∧ X.used ≤ 1125899906842624 ∧ 0 ≤ X.last ∧ X.last ≤ 1125899906842624) (O : bK) (L : HL) (d : Nat) (hkd : (obj O d).kind = 2) (name : ByteArray) (hsz : name.size ≤ 1048576) (th : Th) (hkt : (obj O th.k).kind = th.kind) (h3 : th.kind = 1 ∨ th.kind = 2 ∨ th.kind = 3) (sV : aQ name (obj O d).ah = some th) (hnt : mw (obj O d).ah) (_ : (obj O d).ah.length ≤ 1048576) (hb : 0 ≤ (obj O th.k).links ∧ (obj O th.k).links ≤ 1048576) :
    Spec Tryz.prog β 107 #[vP f, vP (L.b d), .string name] [.blk f [vI (X.cN), vI (X.cB), vI (X.cH), vI (X.cS), vI (X.cZ), .map (some m), vP t, vI (X.last), vI (X.ah), vI (X.used)] 86, .abs (ak (aN O L)), .abs (ak (bh O L))] (fun v l => v = cO L th ∧ l = [.blk f [vI (X.cN), vI (X.cB), vI (X.cH), vI (X.cS), vI (X.cZ), .map (some m), vP t, vI (X.last), vI (X.ah - 1), vI (X.used)] 86, .abs (ak (aN (aJ X O d name th) L)), .abs (ak (bh (aJ X O d name th) L))]) := by
 refine Spec.enter Tryz.func107 rfl Tryz.ntmps107 (Nat.le_of_ble_eq_true rfl) (fun R => ?_)
 refine af.seq ?_
 obtain ⟨tk, kd⟩ := th; simp only at hkt h3; rcases h3 with rfl | rfl | rfl
 ·replace hkt : (obj O tk).kind = 1 := hkt
  replace hb : 0 ≤ (obj O tk).links ∧ (obj O tk).links ≤ 1048576 := hb
  refine af.region ?_
  refine gK 1 [] [] ?_
  refine NS ?_
  refine gK 5 [(11, .map (some (L.m d))), (12, .string name)] [(3, v_ 1 (bA L hkd))] ?_
  refine fQ 2 hkd sV ?_
  refine gK 1 [(7, .iface 89 (vP (L.b tk)))] [] ?_
  refine NS ?_
  refine gK 5 [(17, .map (some (L.m d))), (18, .string name)] [(3, v_ 1 (bA L hkd))] ?_
  refine Mw 2 [(1, 0)] hkd sV hnt (fun bJ bO => ?_)
  have Km := ku bO hkd
  have Oj := ku bO hkt
  have PD : (obj bJ tk).links = (obj O tk).links := fu aM.links bO rfl
  refine NS ?_
  refine gK 9 [(24, .agg #[vI (X.cS), vI (X.cZ)]), (27, .pointer (some ⟨(L.b d), 4, none⟩))] [(5, A_ 0 f 2)] ?_
  refine G4 1 [(2, 1)] d X.cS X.cZ Km (fun cY cA => ?_)
  have Kn := ku cA Km
  have BL := ku cA Oj
  have Rs : (obj cY tk).links = (obj O tk).links := fu aM.links cA PD
  refine NS ?_
  refine gC 8 [] [(3, a_ 0 f), (4, p_ ⟨[], none, none, none, some (vI (X.ah - 1))⟩ [(Value.int .i64 (IntKind.wrap .i64 (X.ah - 1))) = (.int .i64 (X.ah - 1))] ⟨bE (by omega) (by omega) (by omega), trivial⟩), (7, a_ 0 f)] [(0, [(8, vI (X.ah - 1))])] ?_
  refine NS ?_
  refine gK 1 [(35, .iface 89 (vP (L.b tk)))] [] ?_
  refine gL [] (cu (L.b tk)) ?_
  rintro _ _ ⟨rfl, rfl⟩
  refine gK 6 [(40, vI ((obj cY tk).links - 1)), (42, .pointer (some ⟨(L.b tk), 6, none⟩))] [(2, v_ 1 (kW L BL)), (3, p_ ⟨[], none, none, none, some (vI ((obj cY tk).links - 1))⟩ [(Value.int .i64 (IntKind.wrap .i64 ((obj cY tk).links - 1))) = (.int .i64 ((obj cY tk).links - 1))] ⟨bE (by omega) (by omega) (by omega), trivial⟩)] ?_
  refine ql 1 [(2, 1)] tk 6 (fun o => { o with links := o.links - 1 }) BL (fun r8 j6 => ?_)
  have Ra := ku j6 Kn
  have Rb := ku j6 BL
  refine NS ?_
  refine gK 2 [(6, .iface 89 (vP (L.b tk)))] [] ?_
  refine NN (af.ret ?_)
  exact RT (l := [.blk f [vI (X.cN), vI (X.cB), vI (X.cH), vI (X.cS), vI (X.cZ), .map (some m), vP t, vI (X.last), vI (X.ah - 1), vI (X.used)] 86, .abs (ak (aN r8 L)), .abs (ak (bh r8 L))]) (.iface 89 (vP (L.b tk))) [0, 1, 2, 3] (⟨rfl, by subst j6; subst cA; subst bO; rfl⟩)
 ·replace hkt : (obj O tk).kind = 2 := hkt
  replace hb : 0 ≤ (obj O tk).links ∧ (obj O tk).links ≤ 1048576 := hb
  refine af.region ?_
  refine gK 1 [] [] ?_
  refine NS ?_
  refine gK 5 [(11, .map (some (L.m d))), (12, .string name)] [(3, v_ 1 (bA L hkd))] ?_
  refine fQ 2 hkd sV ?_
  refine gK 1 [(7, .iface 96 (vP (L.b tk)))] [] ?_
  refine NS ?_
  refine gK 5 [(17, .map (some (L.m d))), (18, .string name)] [(3, v_ 1 (bA L hkd))] ?_
  refine Mw 2 [(1, 0)] hkd sV hnt (fun bJ bO => ?_)
  have Ko := ku bO hkd
  have Ol := ku bO hkt
  have PE : (obj bJ tk).links = (obj O tk).links := fu aM.links bO rfl
  refine NS ?_
  refine gK 9 [(24, .agg #[vI (X.cS), vI (X.cZ)]), (27, .pointer (some ⟨(L.b d), 4, none⟩))] [(5, A_ 0 f 2)] ?_
  refine G4 1 [(2, 1)] d X.cS X.cZ Ko (fun cY cA => ?_)
  have Om := ku cA Ko
  have Fq := ku cA Ol
  have Rt : (obj cY tk).links = (obj O tk).links := fu aM.links cA PE
  refine NS ?_
  refine gC 8 [] [(3, a_ 0 f), (4, p_ ⟨[], none, none, none, some (vI (X.ah - 1))⟩ [(Value.int .i64 (IntKind.wrap .i64 (X.ah - 1))) = (.int .i64 (X.ah - 1))] ⟨bE (by omega) (by omega) (by omega), trivial⟩), (7, a_ 0 f)] [(0, [(8, vI (X.ah - 1))])] ?_
  refine NS ?_
  refine gK 1 [(35, .iface 96 (vP (L.b tk)))] [] ?_
  refine gL [] (cu (L.b tk)) ?_
  rintro _ _ ⟨rfl, rfl⟩
  refine gK 6 [(40, vI ((obj cY tk).links - 1)), (42, .pointer (some ⟨(L.b tk), 6, none⟩))] [(2, v_ 1 (kW L Fq)), (3, p_ ⟨[], none, none, none, some (vI ((obj cY tk).links - 1))⟩ [(Value.int .i64 (IntKind.wrap .i64 ((obj cY tk).links - 1))) = (.int .i64 ((obj cY tk).links - 1))] ⟨bE (by omega) (by omega) (by omega), trivial⟩)] ?_
  refine ql 1 [(2, 1)] tk 6 (fun o => { o with links := o.links - 1 }) Fq (fun r8 j6 => ?_)
  have Rc := ku j6 Om
  have Rf := ku j6 Fq
  refine NS ?_
  refine gK 2 [(6, .iface 96 (vP (L.b tk)))] [] ?_
  refine NN (af.ret ?_)
  exact RT (l := [.blk f [vI (X.cN), vI (X.cB), vI (X.cH), vI (X.cS), vI (X.cZ), .map (some m), vP t, vI (X.last), vI (X.ah - 1), vI (X.used)] 86, .abs (ak (aN r8 L)), .abs (ak (bh r8 L))]) (.iface 96 (vP (L.b tk))) [0, 1, 2, 3] (⟨rfl, by subst j6; subst cA; subst bO; rfl⟩)
 replace hkt : (obj O tk).kind = 3 := hkt
 replace hb : 0 ≤ (obj O tk).links ∧ (obj O tk).links ≤ 1048576 := hb
 refine af.region ?_
 refine gK 1 [] [] ?_
 refine NS ?_
 refine gK 5 [(11, .map (some (L.m d))), (12, .string name)] [(3, v_ 1 (bA L hkd))] ?_
 refine fQ 2 hkd sV ?_
 refine gK 1 [(7, .iface 93 (vP (L.b tk)))] [] ?_
 refine NS ?_
 refine gK 5 [(17, .map (some (L.m d))), (18, .string name)] [(3, v_ 1 (bA L hkd))] ?_
 refine Mw 2 [(1, 0)] hkd sV hnt (fun bJ bO => ?_)
 have Kp := ku bO hkd
 have Oo := ku bO hkt
 have PF : (obj bJ tk).links = (obj O tk).links := fu aM.links bO rfl
 refine NS ?_
 refine gK 9 [(24, .agg #[vI (X.cS), vI (X.cZ)]), (27, .pointer (some ⟨(L.b d), 4, none⟩))] [(5, A_ 0 f 2)] ?_
 refine G4 1 [(2, 1)] d X.cS X.cZ Kp (fun cY cA => ?_)
 have Oq := ku cA Kp
 have Fs := ku cA Oo
 have Ru : (obj cY tk).links = (obj O tk).links := fu aM.links cA PF
 refine NS ?_
 refine gC 8 [] [(3, a_ 0 f), (4, p_ ⟨[], none, none, none, some (vI (X.ah - 1))⟩ [(Value.int .i64 (IntKind.wrap .i64 (X.ah - 1))) = (.int .i64 (X.ah - 1))] ⟨bE (by omega) (by omega) (by omega), trivial⟩), (7, a_ 0 f)] [(0, [(8, vI (X.ah - 1))])] ?_
 refine NS ?_
 refine gK 1 [(35, .iface 93 (vP (L.b tk)))] [] ?_
 refine gL [] (cu (L.b tk)) ?_
 rintro _ _ ⟨rfl, rfl⟩
 refine gK 6 [(40, vI ((obj cY tk).links - 1)), (42, .pointer (some ⟨(L.b tk), 6, none⟩))] [(2, v_ 1 (kW L Fs)), (3, p_ ⟨[], none, none, none, some (vI ((obj cY tk).links - 1))⟩ [(Value.int .i64 (IntKind.wrap .i64 ((obj cY tk).links - 1))) = (.int .i64 ((obj cY tk).links - 1))] ⟨bE (by omega) (by omega) (by omega), trivial⟩)] ?_
 refine ql 1 [(2, 1)] tk 6 (fun o => { o with links := o.links - 1 }) Fs (fun r8 j6 => ?_)
 have Rg := ku j6 Oq
 have Rh := ku j6 Fs
 refine NS ?_
 refine gK 2 [(6, .iface 93 (vP (L.b tk)))] [] ?_
 refine NN (af.ret ?_)
 exact RT (l := [.blk f [vI (X.cN), vI (X.cB), vI (X.cH), vI (X.cS), vI (X.cZ), .map (some m), vP t, vI (X.last), vI (X.ah - 1), vI (X.used)] 86, .abs (ak (aN r8 L)), .abs (ak (bh r8 L))]) (.iface 93 (vP (L.b tk))) [0, 1, 2, 3] (⟨rfl, by subst j6; subst cA; subst bO; rfl⟩)
end
section
open Go.RowKit Go.Maps HeapM TabM
attribute [local irreducible] aj aR af ai
abbrev G7 (f : Nat) (X : FM) (m : Nat) (t) := (.blk f [vI (X.cN), vI (X.cB), vI (X.cH), vI (X.cS), vI (X.cZ), .map (some m), vP t, vI (X.last), vI (X.ah), vI (X.used)] 86 : HP)
theorem Js {β : Bs} (X : FM) (f m t : Nat) (hX : 0 ≤ X.ah ∧ X.ah ≤ 1048576 ∧ -1125899906842624 ≤ X.used ∧ X.used ≤ 1125899906842624 ∧ 0 ≤ X.last ∧ X.last ≤ 1125899906842624) (O : bK) (L : HL) (idx : Used Th) (G8 : TabM.bP (keys idx)) (th : Th) (hkt : (obj O th.k).kind = th.kind) (h3 : th.kind = 1 ∨ th.kind = 2 ∨ th.kind = 3) (hg : (obj O th.k).gone = true) (ho : (obj O th.k).opens = 0) (hix : TabM.get idx (obj O th.k).id = some th) (hw : (Lit.int .i64 (obj O th.k).id).wf = true) (uG : (obj O th.k).data.length ≤ 1125899906842624) :
    Spec Tryz.prog β 139 #[vP f, (cO L th)] [pO O L, pF f m t X, pI m L idx] (fun v l => v = .tuple #[] ∧ l = [pO O L, pF f m t { X with used := if th.kind = 1 then X.used - (obj O th.k).data.length else X.used }, pI m L (del (obj O th.k).id idx)]) := by
 refine Spec.enter Tryz.func139 rfl Tryz.ntmps139 (Nat.le_of_ble_eq_true rfl) (fun R => ?_)
 refine af.seq ?_
 obtain ⟨tk, kd⟩ := th; simp only at hkt h3; rcases h3 with rfl | rfl | rfl
 ·replace hkt : (obj O tk).kind = 1 := hkt
  replace hg : (obj O tk).gone = true := hg
  replace ho : (obj O tk).opens = 0 := ho
  replace hix : TabM.get idx (obj O tk).id = some _ := hix
  replace hw : (Lit.int .i64 (obj O tk).id).wf = true := hw
  have hdl := nH G8 (get_some hix)
  replace uG : (obj O tk).data.length ≤ 1125899906842624 := uG
  refine af.region ?_
  refine gK 1 [(7, .iface 89 (vP (L.b tk)))] [] ?_
  refine gL [] (cu (L.b tk)) ?_
  rintro _ _ ⟨rfl, rfl⟩
  refine gK 1 [(4, vP (L.b tk))] [] ?_
  refine NN (af.seq (SR ?_))
  refine gK 6 [(14, .bool (!(obj O tk).gone))] [(3, v_ 0 (lC L hkt))] ?_
  refine aj.lJ 14 (!(obj O tk).gone) (fun _ => by kernel_rfl) (fun gG => ?_) (fun gG => ?_)
  ·exact absurd gG (by simp [hg])
  refine gK 6 [(20, .bool (decide (((obj O tk).opens : Int) > (0 : Int))))] [(3, v_ 0 (iU L hkt))] ?_
  refine NN ?_
  refine af.bn (p := ((obj O tk).opens : Int) > (0 : Int)) (fun _ => by kernel_rfl) (fun nB => ?_) (fun nB => ?_)
  ·exact absurd nB (by omega)
  refine af.skip (NX (af.seq ?_))
  refine af.ck (S := [pO O L, pF f m t X, pI m L idx, .abs R]) [0, 1, 2, 3, 4, 5, 6, 7, 8] 8 [0, 1, 2, 3] (by kernel_rfl) (by kernel_rfl) rfl (by kernel_rfl) ?_
  refine aH.reads (r := 0) (l := [8]) (fr' := [(0, vP f), (1, .iface 89 (vP (L.b tk))), (24, .map (some m)), (28, vI ((obj O tk).id))]) (aU := [(∀ F w, (ak (aN O L)).h F w → w.cell? ⟨(L.b tk), 0, none⟩ = some (vI ((obj O tk).id))), f = f]) [0, 1, 2, 3, 4, 5, 6, 7] [o_, o_, o_, ⟨[.at 1], none, none, none, none⟩, o_, o_, o_, ⟨[.view 0 (.int .i64 ((obj O tk).id))], none, none, none, none⟩] [0, 1, 24, 28] (fun _ => by kernel_rfl) ⟨bp (by rw [hkt]; decide) (rfl), rfl, trivial⟩ rfl rfl ?_
  refine aH.last rfl rfl ?_
  refine aj.xK 2 (d := none) (t := 80) (K := 3) (E := 84) (b := m) (n := idx.length) (f := (aO (aK L idx))) (x := (.tmp 24)) (ix := (.tmp 28)) (key := .int .i64 ((obj O tk).id)) (kl := (.int .i64 (obj O tk).id)) (n' := (idx.length - 1)) (f' := (aO (aK L (del (obj O tk).id idx)))) (ats := #[80, 3]) (fun _ => by kernel_rfl) (by kernel_rfl) (fun _ => by kernel_rfl) (fun _ => by kernel_rfl) rfl cU Tryz.underlying80 (gX hw) (by rw [dQ, hix]; rfl) (zD) ?_
  refine NL (ai.np (NX (SR ?_)))
  refine gK 7 [(5, vP (L.b tk)), (6, .bool true)] [] ?_
  refine NS ?_
  refine gK 1 [(34, .bool true)] [] ?_
  refine NN ?_
  refine CT ?_
  refine af.ck (S := [pO O L, pF f m t X, .abs (aE Tryz.prog 3 m (aO (aK L (del (obj O tk).id idx))) (idx.length - 1)), .abs R]) [0, 1, 2, 3, 4, 5, 6, 7, 8, 9, 10, 11, 12] 12 [0, 1, 2, 3] (by kernel_rfl) (by kernel_rfl) rfl (by kernel_rfl) ?_
  refine aH.reads (r := 0) (l := [12]) (fr' := [(44, vI (X.used - (((obj O tk).data.length : Nat) : Int))), (46, .pointer (some ⟨f, 9, none⟩))]) (aU := [(Value.int .i64 (IntKind.wrap .i64 (X.used - (((obj O tk).data.length : Nat) : Int)))) = (.int .i64 (X.used - (((obj O tk).data.length : Nat) : Int))), (∀ F w, (ak (aN O L)).h F w → w.cell? ⟨(L.b tk), 9, none⟩ = some (.slice (L.dA tk) ((obj O tk).data.length) ((L.dC tk)))), f = f]) [0, 1, 2, 3, 4, 5, 6, 7, 8, 9, 10, 11] [o_, o_, o_, ⟨[.at 1], none, none, none, none⟩, o_, o_, o_, ⟨[.view 0 (.slice (L.dA tk) ((obj O tk).data.length) ((L.dC tk)))], none, none, none, none⟩, o_, ⟨[], none, none, none, some (vI (X.used - (((obj O tk).data.length : Nat) : Int)))⟩, o_, o_] [44, 46] (fun _ => by kernel_rfl) ⟨bE (by omega) (by omega) (by omega), bp (by rw [hkt]; decide) (by rw [eH (hkt)]; rfl), rfl, trivial⟩ rfl rfl ?_
  refine aH.last rfl rfl ?_
  refine gC 1 [] [(0, a_ 1 f)] [(1, [(9, vI (X.used - (((obj O tk).data.length : Nat) : Int)))])] ?_
  refine NL (ai.np ?_)
  refine ai.mem (aP := [.abs (ak (aN O L)), .blk f [vI (X.cN), vI (X.cB), vI (X.cH), vI (X.cS), vI (X.cZ), .map (some m), vP t, vI (X.last), vI (X.ah), vI (X.used - (((obj O tk).data.length : Nat) : Int))] 86, .abs (aE Tryz.prog 3 m (aO (aK L (del (obj O tk).id idx))) ((del (obj O tk).id idx).length)), .abs R]) (fun w hS => by rw [show (del (obj O tk).id idx).length = idx.length - 1 by omega]; exact hS) ?_
  exact RF (.tuple #[]) [0, 1, 2, 3] (⟨rfl, rfl⟩)
 ·replace hkt : (obj O tk).kind = 2 := hkt
  replace hg : (obj O tk).gone = true := hg
  replace ho : (obj O tk).opens = 0 := ho
  replace hix : TabM.get idx (obj O tk).id = some _ := hix
  replace hw : (Lit.int .i64 (obj O tk).id).wf = true := hw
  have hdl := nH G8 (get_some hix)
  replace uG : (obj O tk).data.length ≤ 1125899906842624 := uG
  refine af.region ?_
  refine gK 1 [(7, .iface 96 (vP (L.b tk)))] [] ?_
  refine gL [] (cu (L.b tk)) ?_
  rintro _ _ ⟨rfl, rfl⟩
  refine gK 1 [(4, vP (L.b tk))] [] ?_
  refine NN (af.seq (SR ?_))
  refine gK 6 [(14, .bool (!(obj O tk).gone))] [(3, v_ 0 (lC L hkt))] ?_
  refine aj.lJ 14 (!(obj O tk).gone) (fun _ => by kernel_rfl) (fun gG => ?_) (fun gG => ?_)
  ·exact absurd gG (by simp [hg])
  refine gK 6 [(20, .bool (decide (((obj O tk).opens : Int) > (0 : Int))))] [(3, v_ 0 (iU L hkt))] ?_
  refine NN ?_
  refine af.bn (p := ((obj O tk).opens : Int) > (0 : Int)) (fun _ => by kernel_rfl) (fun nB => ?_) (fun nB => ?_)
  ·exact absurd nB (by omega)
  refine af.skip (NX (af.seq ?_))
  refine af.ck (S := [pO O L, pF f m t X, pI m L idx, .abs R]) [0, 1, 2, 3, 4, 5, 6, 7, 8] 8 [0, 1, 2, 3] (by kernel_rfl) (by kernel_rfl) rfl (by kernel_rfl) ?_
  refine aH.reads (r := 0) (l := [8]) (fr' := [(0, vP f), (1, .iface 96 (vP (L.b tk))), (24, .map (some m)), (28, vI ((obj O tk).id))]) (aU := [(∀ F w, (ak (aN O L)).h F w → w.cell? ⟨(L.b tk), 0, none⟩ = some (vI ((obj O tk).id))), f = f]) [0, 1, 2, 3, 4, 5, 6, 7] [o_, o_, o_, ⟨[.at 1], none, none, none, none⟩, o_, o_, o_, ⟨[.view 0 (.int .i64 ((obj O tk).id))], none, none, none, none⟩] [0, 1, 24, 28] (fun _ => by kernel_rfl) ⟨bp (by rw [hkt]; decide) (rfl), rfl, trivial⟩ rfl rfl ?_
  refine aH.last rfl rfl ?_
  refine aj.xK 2 (d := none) (t := 80) (K := 3) (E := 84) (b := m) (n := idx.length) (f := (aO (aK L idx))) (x := (.tmp 24)) (ix := (.tmp 28)) (key := .int .i64 ((obj O tk).id)) (kl := (.int .i64 (obj O tk).id)) (n' := (idx.length - 1)) (f' := (aO (aK L (del (obj O tk).id idx)))) (ats := #[80, 3]) (fun _ => by kernel_rfl) (by kernel_rfl) (fun _ => by kernel_rfl) (fun _ => by kernel_rfl) rfl cU Tryz.underlying80 (gX hw) (by rw [dQ, hix]; rfl) (zD) ?_
  refine NL (ai.np (NX (SR ?_)))
  refine gK 7 [(5, .pointer none), (6, .bool false)] [] ?_
  refine NS ?_
  refine gK 1 [(34, .bool false)] [] ?_
  refine NN ?_
  refine CF ?_
  refine af.skip ?_
  refine ai.mem (aP := [.abs (ak (aN O L)), .blk f [vI (X.cN), vI (X.cB), vI (X.cH), vI (X.cS), vI (X.cZ), .map (some m), vP t, vI (X.last), vI (X.ah), vI (X.used)] 86, .abs (aE Tryz.prog 3 m (aO (aK L (del (obj O tk).id idx))) ((del (obj O tk).id idx).length)), .abs R]) (fun w hS => by rw [show (del (obj O tk).id idx).length = idx.length - 1 by omega]; exact hS) ?_
  exact RF (.tuple #[]) [0, 1, 2, 3] (⟨rfl, rfl⟩)
 replace hkt : (obj O tk).kind = 3 := hkt
 replace hg : (obj O tk).gone = true := hg
 replace ho : (obj O tk).opens = 0 := ho
 replace hix : TabM.get idx (obj O tk).id = some _ := hix
 replace hw : (Lit.int .i64 (obj O tk).id).wf = true := hw
 have hdl := nH G8 (get_some hix)
 replace uG : (obj O tk).data.length ≤ 1125899906842624 := uG
 refine af.region ?_
 refine gK 1 [(7, .iface 93 (vP (L.b tk)))] [] ?_
 refine gL [] (cu (L.b tk)) ?_
 rintro _ _ ⟨rfl, rfl⟩
 refine gK 1 [(4, vP (L.b tk))] [] ?_
 refine NN (af.seq (SR ?_))
 refine gK 6 [(14, .bool (!(obj O tk).gone))] [(3, v_ 0 (lC L hkt))] ?_
 refine aj.lJ 14 (!(obj O tk).gone) (fun _ => by kernel_rfl) (fun gG => ?_) (fun gG => ?_)
 ·exact absurd gG (by simp [hg])
 refine gK 6 [(20, .bool (decide (((obj O tk).opens : Int) > (0 : Int))))] [(3, v_ 0 (iU L hkt))] ?_
 refine NN ?_
 refine af.bn (p := ((obj O tk).opens : Int) > (0 : Int)) (fun _ => by kernel_rfl) (fun nB => ?_) (fun nB => ?_)
 ·exact absurd nB (by omega)
 refine af.skip (NX (af.seq ?_))
 refine af.ck (S := [pO O L, pF f m t X, pI m L idx, .abs R]) [0, 1, 2, 3, 4, 5, 6, 7, 8] 8 [0, 1, 2, 3] (by kernel_rfl) (by kernel_rfl) rfl (by kernel_rfl) ?_
 refine aH.reads (r := 0) (l := [8]) (fr' := [(0, vP f), (1, .iface 93 (vP (L.b tk))), (24, .map (some m)), (28, vI ((obj O tk).id))]) (aU := [(∀ F w, (ak (aN O L)).h F w → w.cell? ⟨(L.b tk), 0, none⟩ = some (vI ((obj O tk).id))), f = f]) [0, 1, 2, 3, 4, 5, 6, 7] [o_, o_, o_, ⟨[.at 1], none, none, none, none⟩, o_, o_, o_, ⟨[.view 0 (.int .i64 ((obj O tk).id))], none, none, none, none⟩] [0, 1, 24, 28] (fun _ => by kernel_rfl) ⟨bp (by rw [hkt]; decide) (rfl), rfl, trivial⟩ rfl rfl ?_
 refine aH.last rfl rfl ?_
 refine aj.xK 2 (d := none) (t := 80) (K := 3) (E := 84) (b := m) (n := idx.length) (f := (aO (aK L idx))) (x := (.tmp 24)) (ix := (.tmp 28)) (key := .int .i64 ((obj O tk).id)) (kl := (.int .i64 (obj O tk).id)) (n' := (idx.length - 1)) (f' := (aO (aK L (del (obj O tk).id idx)))) (ats := #[80, 3]) (fun _ => by kernel_rfl) (by kernel_rfl) (fun _ => by kernel_rfl) (fun _ => by kernel_rfl) rfl cU Tryz.underlying80 (gX hw) (by rw [dQ, hix]; rfl) (zD) ?_
 refine NL (ai.np (NX (SR ?_)))
 refine gK 7 [(5, .pointer none), (6, .bool false)] [] ?_
 refine NS ?_
 refine gK 1 [(34, .bool false)] [] ?_
 refine NN ?_
 refine CF ?_
 refine af.skip ?_
 refine ai.mem (aP := [.abs (ak (aN O L)), .blk f [vI (X.cN), vI (X.cB), vI (X.cH), vI (X.cS), vI (X.cZ), .map (some m), vP t, vI (X.last), vI (X.ah), vI (X.used)] 86, .abs (aE Tryz.prog 3 m (aO (aK L (del (obj O tk).id idx))) ((del (obj O tk).id idx).length)), .abs R]) (fun w hS => by rw [show (del (obj O tk).id idx).length = idx.length - 1 by omega]; exact hS) ?_
 exact RF (.tuple #[]) [0, 1, 2, 3] (⟨rfl, rfl⟩)
theorem Fu {β : Bs} (O : bK) (L : HL) (f : Nat) (th : Th) (hkt : (obj O th.k).kind = th.kind) (h3 : th.kind = 1 ∨ th.kind = 2 ∨ th.kind = 3) (hg : (obj O th.k).gone = false ∨ 0 < (obj O th.k).opens) :
    Spec Tryz.prog β 139 #[vP f, (cO L th)] [pO O L] (fun v l => v = .tuple #[] ∧ l = [pO O L]) := by
 refine Spec.enter Tryz.func139 rfl Tryz.ntmps139 (Nat.le_of_ble_eq_true rfl) (fun R => ?_)
 refine af.seq ?_
 obtain ⟨tk, kd⟩ := th; simp only at hkt h3; rcases h3 with rfl | rfl | rfl
 ·replace hkt : (obj O tk).kind = 1 := hkt
  replace hg : (obj O tk).gone = false ∨ 0 < (obj O tk).opens := hg
  refine af.region ?_
  refine gK 1 [(7, .iface 89 (vP (L.b tk)))] [] ?_
  refine gL [] (cu (L.b tk)) ?_
  rintro _ _ ⟨rfl, rfl⟩
  refine gK 1 [(4, vP (L.b tk))] [] ?_
  refine NN (af.seq (SR ?_))
  refine gK 6 [(14, .bool (!(obj O tk).gone))] [(3, v_ 0 (lC L hkt))] ?_
  refine aj.lJ 14 (!(obj O tk).gone) (fun _ => by kernel_rfl) (fun gG => ?_) (fun gG => ?_)
  ·refine gK 6 [(20, .bool true)] [] ?_
   refine NN ?_
   refine CT ?_
   refine af.ret (ai.aq ?_)
   exact RT (.tuple #[]) [0, 1] (⟨rfl, rfl⟩)
  refine gK 6 [(20, .bool (decide (((obj O tk).opens : Int) > (0 : Int))))] [(3, v_ 0 (iU L hkt))] ?_
  refine NN ?_
  refine af.bn (p := ((obj O tk).opens : Int) > (0 : Int)) (fun _ => by kernel_rfl) (fun nB => ?_) (fun nB => ?_)
  ·refine af.ret (ai.aq ?_)
   exact RT (.tuple #[]) [0, 1] (⟨rfl, rfl⟩)
  exact absurd hg (by simp at gG; rw [gG]; simp; omega)
 ·replace hkt : (obj O tk).kind = 2 := hkt
  replace hg : (obj O tk).gone = false ∨ 0 < (obj O tk).opens := hg
  refine af.region ?_
  refine gK 1 [(7, .iface 96 (vP (L.b tk)))] [] ?_
  refine gL [] (cu (L.b tk)) ?_
  rintro _ _ ⟨rfl, rfl⟩
  refine gK 1 [(4, vP (L.b tk))] [] ?_
  refine NN (af.seq (SR ?_))
  refine gK 6 [(14, .bool (!(obj O tk).gone))] [(3, v_ 0 (lC L hkt))] ?_
  refine aj.lJ 14 (!(obj O tk).gone) (fun _ => by kernel_rfl) (fun gG => ?_) (fun gG => ?_)
  ·refine gK 6 [(20, .bool true)] [] ?_
   refine NN ?_
   refine CT ?_
   refine af.ret (ai.aq ?_)
   exact RT (.tuple #[]) [0, 1] (⟨rfl, rfl⟩)
  refine gK 6 [(20, .bool (decide (((obj O tk).opens : Int) > (0 : Int))))] [(3, v_ 0 (iU L hkt))] ?_
  refine NN ?_
  refine af.bn (p := ((obj O tk).opens : Int) > (0 : Int)) (fun _ => by kernel_rfl) (fun nB => ?_) (fun nB => ?_)
  ·refine af.ret (ai.aq ?_)
   exact RT (.tuple #[]) [0, 1] (⟨rfl, rfl⟩)
  exact absurd hg (by simp at gG; rw [gG]; simp; omega)
 replace hkt : (obj O tk).kind = 3 := hkt
 replace hg : (obj O tk).gone = false ∨ 0 < (obj O tk).opens := hg
 refine af.region ?_
 refine gK 1 [(7, .iface 93 (vP (L.b tk)))] [] ?_
 refine gL [] (cu (L.b tk)) ?_
 rintro _ _ ⟨rfl, rfl⟩
 refine gK 1 [(4, vP (L.b tk))] [] ?_
 refine NN (af.seq (SR ?_))
 refine gK 6 [(14, .bool (!(obj O tk).gone))] [(3, v_ 0 (lC L hkt))] ?_
 refine aj.lJ 14 (!(obj O tk).gone) (fun _ => by kernel_rfl) (fun gG => ?_) (fun gG => ?_)
 ·refine gK 6 [(20, .bool true)] [] ?_
  refine NN ?_
  refine CT ?_
  refine af.ret (ai.aq ?_)
  exact RT (.tuple #[]) [0, 1] (⟨rfl, rfl⟩)
 refine gK 6 [(20, .bool (decide (((obj O tk).opens : Int) > (0 : Int))))] [(3, v_ 0 (iU L hkt))] ?_
 refine NN ?_
 refine af.bn (p := ((obj O tk).opens : Int) > (0 : Int)) (fun _ => by kernel_rfl) (fun nB => ?_) (fun nB => ?_)
 ·refine af.ret (ai.aq ?_)
  exact RT (.tuple #[]) [0, 1] (⟨rfl, rfl⟩)
 exact absurd hg (by simp at gG; rw [gG]; simp; omega)
theorem oz {β : Bs} (X : FM) (f m t : Nat) (hX : 0 ≤ X.ah ∧ X.ah ≤ 1048576 ∧ -1125899906842624 ≤ X.used ∧ X.used ≤ 1125899906842624 ∧ 0 ≤ X.last ∧ X.last ≤ 1125899906842624) (O : bK) (L : HL) (idx : Used Th) (G8 : TabM.bP (keys idx)) (th : Th) (hkt : (obj O th.k).kind = th.kind) (h3 : th.kind = 1 ∨ th.kind = 2 ∨ th.kind = 3) (ho : 0 ≤ (obj O th.k).opens) (hix : o7 O th → TabM.get idx (obj O th.k).id = some th) (hw : (Lit.int .i64 (obj O th.k).id).wf = true) (uG : (obj O th.k).data.length ≤ 1125899906842624) :
    Spec Tryz.prog β 139 #[vP f, (cO L th)] [pO O L, pF f m t X, pI m L idx] (fun v l => v = .tuple #[] ∧ l = [pO O L, pF f m t { X with used := iY O X.used th }, pI m L (freeI O idx th)]) := by
  unfold iY freeI
  by_cases h : o7 O th
  ·rw [if_pos h, if_pos h]
   exact Js X f m t hX O L idx G8 th hkt h3 h.1 h.2 (hix h) hw uG
  rw [if_neg h, if_neg h]
  refine (Spec.Cq (pre := [pO O L]) (R := [pF f m t X, pI m L idx]) (fun _ _ => Fu O L f th hkt h3 ?_)).mono (by rintro v l ⟨l0, ⟨rfl, rfl⟩, rfl⟩; exact ⟨rfl, rfl⟩)
  cases hg : (obj O th.k).gone with
  | false => exact .inl rfl
  | true => exact .inr (by have : ¬ (obj O th.k).opens = 0 := fun e => h ⟨hg, e⟩; omega)
theorem rE {β : Bs} (X : FM) (f m t : Nat) : Spec Tryz.prog β 135 #[vP f] [G7 f X m t] (fun v l => v = .bool (decide (X.ah < 8192)) ∧ l = [G7 f X m t]) := by
 refine Spec.enter Tryz.func135 rfl Tryz.ntmps135 (Nat.le_of_ble_eq_true rfl) (fun R => ?_)
 refine SR ?_
 refine gK 1 [] [] ?_
 refine NS ?_
 refine gK 6 [(2, .bool (decide ((X.ah : Int) < (8192 : Int))))] [(3, a_ 0 f)] ?_
 refine NN (af.ret ?_)
 exact RT (.bool (decide ((X.ah : Int) < (8192 : Int)))) [0, 1] (⟨rfl, rfl⟩)
theorem ef {β : Bs} (a b : Int) : Spec Tryz.prog β 32 #[vI a, vI b] [] (fun v l => v = .bool (decide (0 ≤ a ∧ a ≤ b)) ∧ l = []) := by
 refine Spec.enter Tryz.func32 rfl Tryz.ntmps32 (Nat.le_of_ble_eq_true rfl) (fun R => ?_)
 refine SR ?_
 refine gK 1 [] [] ?_
 refine NS ?_
 refine gK 3 [(7, .bool (decide ((a : Int) ≥ (0 : Int))))] [] ?_
 refine aj.gA 7 ((a : Int) ≥ (0 : Int)) (fun _ => by kernel_rfl) (fun h7 => ?_) (fun h7 => ?_)
 ·refine gK 5 [(4, .bool (decide ((a : Int) ≤ (b : Int))))] [] ?_
  refine NN (af.ret ?_)
  exact RT (.bool (decide ((a : Int) ≤ (b : Int)))) [0] (⟨by first | exact congrArg Value.bool (decide_eq_decide.2 (by omega)) | exact congrArg Value.bool (decide_eq_true (by omega)).symm | exact congrArg Value.bool (decide_eq_false (by omega)).symm, rfl⟩)
 refine gK 5 [(4, .bool false)] [] ?_
 refine NN (af.ret ?_)
 exact RT (.bool false) [0] (⟨by first | exact congrArg Value.bool (decide_eq_decide.2 (by omega)) | exact congrArg Value.bool (decide_eq_true (by omega)).symm | exact congrArg Value.bool (decide_eq_false (by omega)).symm, rfl⟩)
theorem CS {β : Bs} (X : FM) (f m t : Nat) (L : HL) (idx : Used Th) : Spec Tryz.prog β 103 #[vP f] [G7 f X m t, .abs (aE Tryz.prog 3 m (aO (aK L idx)) idx.length)] (fun v l => v = .bool (decide ((idx.length : Int) < X.cN ∧ X.last < 1099511627776 ∧ X.ah < 8192)) ∧ l = [G7 f X m t, .abs (aE Tryz.prog 3 m (aO (aK L idx)) idx.length)]) := by
 refine Spec.enter Tryz.func103 rfl Tryz.ntmps103 (Nat.le_of_ble_eq_true rfl) (fun R => ?_)
 refine SR ?_
 refine gK 1 [] [] ?_
 refine NN (af.seq ?_)
 refine af.bC (by kernel_rfl) (by kernel_rfl) ?_
 refine gQ 4 [(6, .map (some m))] [(3, a_ 0 f)] ?_
 refine aR.rM 1 (d := (some 7)) (t := 80) (K := 3) (E := 84) (b := m) (n := idx.length) (f := (aO (aK L idx))) (x := (.tmp 6)) (ats := #[80]) (fun _ => by kernel_rfl) (by kernel_rfl) (fun _ => by kernel_rfl) rfl Tryz.underlying80 ?_
 refine gQ 7 [(14, .bool (decide ((((idx.length : Nat) : Int) : Int) < (X.cN : Int))))] [(4, a_ 0 f)] ?_
 refine aR.gA 14 ((((idx.length : Nat) : Int) : Int) < (X.cN : Int)) (fun _ => by kernel_rfl) (fun gG => ?_) (fun gG => ?_)
 ·refine gQ 7 [(21, .bool (decide ((X.last : Int) < (1099511627776 : Int))))] [(3, a_ 0 f)] ?_
  refine aR.gA 21 ((X.last : Int) < (1099511627776 : Int)) (fun _ => by kernel_rfl) (fun r9 => ?_) (fun r9 => ?_)
  ·refine gQ 1 [(22, vP f)] [] ?_
   refine aR.call (f := 135) (args := #[vP f]) (d := (some 23)) (pre := [pF f m t X]) (R := [pI m L idx, .abs R]) (pk := [0, 1, 2]) (gJ := [0, 1, 2]) (v0 := .bool (decide (X.ah < 8192))) (fun _ => by kernel_rfl) (rE X f m t) rfl (by kernel_rfl) rfl (by kernel_rfl) (fun _ _ h => h) ?_
   refine gQ 2 [(2, .bool (decide (X.ah < 8192)))] [] ?_
   refine NQ (NX (af.ret ?_))
   exact RT (.bool (decide (X.ah < 8192))) [0, 1, 2] (⟨by first | exact congrArg Value.bool (decide_eq_decide.2 (by omega)) | exact congrArg Value.bool (decide_eq_true (by omega)).symm | exact congrArg Value.bool (decide_eq_false (by omega)).symm, rfl⟩)
  refine gQ 4 [(2, .bool false)] [] ?_
  refine NQ (NX (af.ret ?_))
  exact RT (.bool false) [0, 1, 2] (⟨by first | exact congrArg Value.bool (decide_eq_decide.2 (by omega)) | exact congrArg Value.bool (decide_eq_true (by omega)).symm | exact congrArg Value.bool (decide_eq_false (by omega)).symm, rfl⟩)
 refine gQ 11 [(2, .bool false)] [] ?_
 refine NQ (NX (af.ret ?_))
 exact RT (.bool false) [0, 1, 2] (⟨by first | exact congrArg Value.bool (decide_eq_decide.2 (by omega)) | exact congrArg Value.bool (decide_eq_true (by omega)).symm | exact congrArg Value.bool (decide_eq_false (by omega)).symm, rfl⟩)
theorem qO {β : Bs} (X : FM) (f m t : Nat) (hX : 0 ≤ X.ah ∧ X.ah ≤ 1048576 ∧ -1125899906842624 ≤ X.used ∧ X.used ≤ 1125899906842624 ∧ 0 ≤ X.last ∧ X.last ≤ 1125899906842624) (mode : Int) : Spec Tryz.prog β 55 #[vP f, vI mode] [G7 f X m t] (fun v l => v = .agg #[vI (X.last + 1), vI mode, vI 0, vI 0, vI X.cS, vI X.cZ, vI 0, vI 0, .bool false] ∧ l = [.blk f [vI (X.cN), vI (X.cB), vI (X.cH), vI (X.cS), vI (X.cZ), .map (some m), vP t, vI (X.last + 1), vI (X.ah), vI (X.used)] 86]) := by
 refine Spec.enter Tryz.func55 rfl Tryz.ntmps55 (Nat.le_of_ble_eq_true rfl) (fun R => ?_)
 refine SR ?_
 refine gN 1 (fun b1 => [(4, vP b1)]) (fun _ => []) (fun _ => []) (fun b1 => .blk b1 [vI 0, vI 0, vI 0, vI 0, vI 0, vI 0, vI 0, vI 0, .bool false] 88) (fun b1 => ?_)
 refine NS ?_
 refine gC 8 [] [(3, a_ 0 f), (4, p_ ⟨[], none, none, none, some (vI (X.last + 1))⟩ [(Value.int .i64 (IntKind.wrap .i64 (X.last + 1))) = (.int .i64 (X.last + 1))] ⟨bE (by omega) (by omega) (by omega), trivial⟩), (7, a_ 0 f)] [(0, [(7, vI (X.last + 1))])] ?_
 refine NN (af.seq ?_)
 refine af.ck (S := [pF f m t { X with last := X.last + 1 }, .abs R, .blk b1 [vI 0, vI 0, vI 0, vI 0, vI 0, vI 0, vI 0, vI 0, .bool false] 88]) [0, 1, 2, 3, 4, 5, 6, 7, 8, 9, 10, 11] 11 [0, 1, 2] (by kernel_rfl) (by kernel_rfl) rfl (by kernel_rfl) ?_
 refine aH.reads (r := 0) (l := [11]) (fr' := [(4, vP b1), (22, .agg #[vI (X.last + 1), vI (mode), vI 0, vI 0, vI (X.cS), vI (X.cZ), vI 0, vI 0, .bool false])]) (aU := [f = f, f = f, f = f]) [0, 1, 2, 3, 4, 5, 6, 7, 8, 9, 10] [o_, o_, o_, ⟨[.at 0], none, none, none, none⟩, o_, o_, o_, o_, o_, ⟨[.at 0, .at 0], none, none, none, none⟩, o_] [4, 22] (fun _ => by kernel_rfl) ⟨rfl, rfl, rfl, trivial⟩ rfl rfl ?_
 refine aH.last rfl rfl ?_
 refine gC 1 [] [(0, A_ 2 b1 9)] [(2, [(0, vI (X.last + 1)), (1, vI (mode)), (4, vI (X.cS)), (5, vI (X.cZ))])] ?_
 refine NL (ai.np (NX (af.ret ?_)))
 exact ai.ret (v := .agg #[vI (X.last + 1), vI (mode), vI 0, vI 0, vI (X.cS), vI (X.cZ), vI 0, vI 0, .bool false]) (l := [pF f m t { X with last := X.last + 1 }]) (aU := [b1 = b1, b1 = b1, b1 = b1, b1 = b1, b1 = b1, b1 = b1, b1 = b1, b1 = b1, b1 = b1]) [.at 2, .at 2, .at 2, .at 2, .at 2, .at 2, .at 2, .at 2, .at 2] [0, 1] (fun _ => by kernel_rfl) ⟨rfl, rfl, rfl, rfl, rfl, rfl, rfl, rfl, rfl, trivial⟩ rfl (by kernel_rfl) (⟨rfl, rfl⟩)
end
section
open Go.RowKit Go.Maps HeapM TabM
attribute [local irreducible] aj aR af ai
abbrev tH (f : Nat) (L : HL) (d : Nat) (name) := ([(0, vP f), (1, vP (L.b d)), (2, .string name)] : Fr)
abbrev Mx (f : Nat) (L : HL) (d : Nat) (name) := ([(18, vP f), (19, vP (L.b d)), (20, .string name)] : Fr)
abbrev Mz (f : Nat) (L : HL) (d : Nat) (name) := ([(8, vP f), (9, vP (L.b d)), (10, .string name)] : Fr)
abbrev tI (f : Nat) (m : Nat) (t) (X : FM) (L : HL) (idx) (O : bK) (R : bT) := ([pF f m t X, pI m L idx, pO O L, pE O L, .abs R] : List HP)
abbrev MB (S : aG) (tk : Nat) (L : HL) := ([(24, vI ((obj S.O tk).opens + 1)), (26, .pointer (some ⟨(L.b tk), 7, none⟩))] : Fr)
theorem lW {β : Bs} (S : aG) (L : HL) (f m t : Nat) (hI : Inv S) (d : Nat) (hd : Live S.idx ⟨d, 2⟩) (name : ByteArray) (hsz : name.size ≤ 1048576) (th : Th) (hlk : aQ name (obj S.O d).ah = some th) :
    Spec Tryz.prog β 106 #[vP f, vP (L.b d), .string name] [pF f m t S.X, pO S.O L, pE S.O L, pI m L S.idx] (fun v l => v = .tuple #[] ∧ l = [pF f m t ((dropM S d name th).X), pO ((dropM S d name th).O) L, pE ((dropM S d name th).O) L, pI m L ((dropM S d name th).idx)]) := by
 have hX := hI.hX
 have hel : (obj S.O d).ah.length ≤ 8192 := hI.eV hd
 have hkd : (obj S.O d).kind = 2 := hI.kind hd
 refine Spec.enter Tryz.func106 rfl Tryz.ntmps106 (Nat.le_of_ble_eq_true rfl) (fun R => ?_)
 refine af.seq ?_
 obtain ⟨tk, kd⟩ := th; have hlv := (hI.ent hd hlk).2; have Rv := hI.ne hd hlk; rcases (hI.ob _ hlv).2.2 with e0 | e0 | e0 <;> simp only at e0 <;> subst e0
 ·have hkt : (obj S.O tk).kind = 1 := hI.kind hlv
  have hlb := hI.lb hlv; have hid := hI.ob _ hlv; have hop := hI.AU hlv; have hdl := hI.CB hlv; have nM := hI.GQ hlv
  refine af.region ?_
  refine gK 3 (Mz f L d name) [] ?_
  refine gL [0, 1, 2] (iB S.X f m t hX S.O L d hkd name hsz ⟨tk, 1⟩ hkt (by simp) hlk (hI.twice hd) (by omega) (by simp only at hlb ⊢; omega)) ?_
  rintro _ _ ⟨rfl, rfl⟩
  refine gK 1 [(6, .iface 89 (vP (L.b tk)))] [] ?_
  refine NS ?_
  have iQ : (obj (aJ S.X S.O d name ⟨tk, 1⟩) d).kind = 2 := (bY).trans (hkd)
  have kD : (obj (aJ S.X S.O d name ⟨tk, 1⟩) tk).kind = 1 := (bY).trans (hkt)
  have uH : (obj (aJ S.X S.O d name ⟨tk, 1⟩) tk).id = (obj S.O tk).id := cE (g := aM.id) (fun _ _ => rfl) (fun _ _ => rfl) (fun _ _ _ => rfl)
  have uI : (obj (aJ S.X S.O d name ⟨tk, 1⟩) tk).opens = (obj S.O tk).opens := cE (g := aM.opens) (fun _ _ => rfl) (fun _ _ => rfl) (fun _ _ _ => rfl)
  have uJ : (obj (aJ S.X S.O d name ⟨tk, 1⟩) tk).data = (obj S.O tk).data := cE (g := aM.data) (fun _ _ => rfl) (fun _ _ => rfl) (fun _ _ _ => rfl)
  generalize bO : (aJ S.X S.O d name ⟨tk, 1⟩) = bJ at iQ kD uH uI uJ ⊢
  refine gK 1 [(12, .iface 89 (vP (L.b tk)))] [] ?_
  refine gL [] (cu (L.b tk)) ?_
  rintro _ _ ⟨rfl, rfl⟩
  refine gK 1 [(7, vP (L.b tk))] [] ?_
  refine NS ?_
  refine gK 5 [(18, .bool (decide (((obj bJ tk).links : Int) = (0 : Int))))] [(3, v_ 1 (kW L kD))] ?_
  refine NN ?_
  refine af.bn (p := ((obj bJ tk).links : Int) = (0 : Int)) (fun _ => by kernel_rfl) (fun mr => ?_) (fun mr => ?_)
  ·refine SR ?_
   refine gK 3 [(21, .pointer (some ⟨(L.b tk), 8, none⟩))] [] ?_
   refine ql 1 [(2, 1)] tk 8 (fun o => { o with gone := true }) kD (fun cY cA => ?_)
   have zN := ku cA iQ
   have uE := ku cA kD
   have G9 : (obj cY tk).id = (obj S.O tk).id := fu aM.id cA uH
   have MC : (obj cY tk).opens = (obj S.O tk).opens := fu aM.opens cA uI
   have Qw : (obj cY tk).data = (obj S.O tk).data := fu aM.data cA uJ
   refine NN (af.region ?_)
   refine gK 2 [(22, vP f), (23, .iface 89 (vP (L.b tk)))] [] ?_
   refine gL [1, 0, 3] (oz { S.X with ah := S.X.ah - 1 } f m t (hI.vV hd hlk) cY L S.idx hI.rise ⟨tk, 1⟩ uE (by simp) (by rw [MC]; exact hop.1) (fun _ => by rw [G9, hid.1]; exact hlv) (by rw [G9]; exact nM) (by rw [Qw]; exact hdl)) ?_
   rintro _ _ ⟨rfl, rfl⟩
   refine NL ?_
   exact RF (l := [pF f m t { S.X with ah := S.X.ah - 1, used := iY cY S.X.used ⟨tk, 1⟩ }, pO cY L, pE cY L, pI m L (freeI cY S.idx ⟨tk, 1⟩)]) (.tuple #[]) [1, 0, 3, 2, 4] (⟨rfl, by subst cA; subst bO; rw [show dropM S d name ⟨tk, 1⟩ = _ from om mr] <;> rfl⟩)
  refine af.skip ?_
  exact RF (l := [pF f m t { S.X with ah := S.X.ah - 1 }, pO bJ L, pE bJ L, pI m L S.idx]) (.tuple #[]) [0, 1, 2, 3, 4] (⟨rfl, by subst bO; rw [show dropM S d name ⟨tk, 1⟩ = _ from oo mr] <;> rfl⟩)
 ·have hkt : (obj S.O tk).kind = 2 := hI.kind hlv
  have hlb := hI.lb hlv; have hid := hI.ob _ hlv; have hop := hI.AU hlv; have hdl := hI.CB hlv; have nM := hI.GQ hlv
  refine af.region ?_
  refine gK 3 (Mz f L d name) [] ?_
  refine gL [0, 1, 2] (iB S.X f m t hX S.O L d hkd name hsz ⟨tk, 2⟩ hkt (by simp) hlk (hI.twice hd) (by omega) (by simp only at hlb ⊢; omega)) ?_
  rintro _ _ ⟨rfl, rfl⟩
  refine gK 1 [(6, .iface 96 (vP (L.b tk)))] [] ?_
  refine NS ?_
  have ME : (obj (aJ S.X S.O d name ⟨tk, 2⟩) d).kind = 2 := (bY).trans (hkd)
  have zM : (obj (aJ S.X S.O d name ⟨tk, 2⟩) tk).kind = 2 := (bY).trans (hkt)
  have uH : (obj (aJ S.X S.O d name ⟨tk, 2⟩) tk).id = (obj S.O tk).id := cE (g := aM.id) (fun _ _ => rfl) (fun _ _ => rfl) (fun _ _ _ => rfl)
  have uI : (obj (aJ S.X S.O d name ⟨tk, 2⟩) tk).opens = (obj S.O tk).opens := cE (g := aM.opens) (fun _ _ => rfl) (fun _ _ => rfl) (fun _ _ _ => rfl)
  have uJ : (obj (aJ S.X S.O d name ⟨tk, 2⟩) tk).data = (obj S.O tk).data := cE (g := aM.data) (fun _ _ => rfl) (fun _ _ => rfl) (fun _ _ _ => rfl)
  generalize bO : (aJ S.X S.O d name ⟨tk, 2⟩) = bJ at ME zM uH uI uJ ⊢
  refine gK 1 [(12, .iface 96 (vP (L.b tk)))] [] ?_
  refine gL [] (cu (L.b tk)) ?_
  rintro _ _ ⟨rfl, rfl⟩
  refine gK 1 [(7, vP (L.b tk))] [] ?_
  refine NS ?_
  refine gK 5 [(18, .bool (decide (((obj bJ tk).links : Int) = (0 : Int))))] [(3, v_ 1 (kW L zM))] ?_
  refine NN ?_
  refine af.bn (p := ((obj bJ tk).links : Int) = (0 : Int)) (fun _ => by kernel_rfl) (fun mr => ?_) (fun mr => ?_)
  ·refine SR ?_
   refine gK 3 [(21, .pointer (some ⟨(L.b tk), 8, none⟩))] [] ?_
   refine ql 1 [(2, 1)] tk 8 (fun o => { o with gone := true }) zM (fun cY cA => ?_)
   have Fm := ku cA ME
   have Kl := ku cA zM
   have MF : (obj cY tk).id = (obj S.O tk).id := fu aM.id cA uH
   have PG : (obj cY tk).opens = (obj S.O tk).opens := fu aM.opens cA uI
   have PI : (obj cY tk).data = (obj S.O tk).data := fu aM.data cA uJ
   refine NN (af.region ?_)
   refine gK 2 [(22, vP f), (23, .iface 96 (vP (L.b tk)))] [] ?_
   refine gL [1, 0, 3] (oz { S.X with ah := S.X.ah - 1 } f m t (hI.vV hd hlk) cY L S.idx hI.rise ⟨tk, 2⟩ Kl (by simp) (by rw [PG]; exact hop.1) (fun _ => by rw [MF, hid.1]; exact hlv) (by rw [MF]; exact nM) (by rw [PI]; exact hdl)) ?_
   rintro _ _ ⟨rfl, rfl⟩
   refine NL ?_
   exact RF (l := [pF f m t { S.X with ah := S.X.ah - 1, used := iY cY S.X.used ⟨tk, 2⟩ }, pO cY L, pE cY L, pI m L (freeI cY S.idx ⟨tk, 2⟩)]) (.tuple #[]) [1, 0, 3, 2, 4] (⟨rfl, by subst cA; subst bO; rw [show dropM S d name ⟨tk, 2⟩ = _ from om mr] <;> rfl⟩)
  refine af.skip ?_
  exact RF (l := [pF f m t { S.X with ah := S.X.ah - 1 }, pO bJ L, pE bJ L, pI m L S.idx]) (.tuple #[]) [0, 1, 2, 3, 4] (⟨rfl, by subst bO; rw [show dropM S d name ⟨tk, 2⟩ = _ from oo mr] <;> rfl⟩)
 have hkt : (obj S.O tk).kind = 3 := hI.kind hlv
 have hlb := hI.lb hlv; have hid := hI.ob _ hlv; have hop := hI.AU hlv; have hdl := hI.CB hlv; have nM := hI.GQ hlv
 refine af.region ?_
 refine gK 3 (Mz f L d name) [] ?_
 refine gL [0, 1, 2] (iB S.X f m t hX S.O L d hkd name hsz ⟨tk, 3⟩ hkt (by simp) hlk (hI.twice hd) (by omega) (by simp only at hlb ⊢; omega)) ?_
 rintro _ _ ⟨rfl, rfl⟩
 refine gK 1 [(6, .iface 93 (vP (L.b tk)))] [] ?_
 refine NS ?_
 have Kq : (obj (aJ S.X S.O d name ⟨tk, 3⟩) d).kind = 2 := (bY).trans (hkd)
 have yL : (obj (aJ S.X S.O d name ⟨tk, 3⟩) tk).kind = 3 := (bY).trans (hkt)
 have uH : (obj (aJ S.X S.O d name ⟨tk, 3⟩) tk).id = (obj S.O tk).id := cE (g := aM.id) (fun _ _ => rfl) (fun _ _ => rfl) (fun _ _ _ => rfl)
 have uI : (obj (aJ S.X S.O d name ⟨tk, 3⟩) tk).opens = (obj S.O tk).opens := cE (g := aM.opens) (fun _ _ => rfl) (fun _ _ => rfl) (fun _ _ _ => rfl)
 have uJ : (obj (aJ S.X S.O d name ⟨tk, 3⟩) tk).data = (obj S.O tk).data := cE (g := aM.data) (fun _ _ => rfl) (fun _ _ => rfl) (fun _ _ _ => rfl)
 generalize bO : (aJ S.X S.O d name ⟨tk, 3⟩) = bJ at Kq yL uH uI uJ ⊢
 refine gK 1 [(12, .iface 93 (vP (L.b tk)))] [] ?_
 refine gL [] (cu (L.b tk)) ?_
 rintro _ _ ⟨rfl, rfl⟩
 refine gK 1 [(7, vP (L.b tk))] [] ?_
 refine NS ?_
 refine gK 5 [(18, .bool (decide (((obj bJ tk).links : Int) = (0 : Int))))] [(3, v_ 1 (kW L yL))] ?_
 refine NN ?_
 refine af.bn (p := ((obj bJ tk).links : Int) = (0 : Int)) (fun _ => by kernel_rfl) (fun mr => ?_) (fun mr => ?_)
 ·refine SR ?_
  refine gK 3 [(21, .pointer (some ⟨(L.b tk), 8, none⟩))] [] ?_
  refine ql 1 [(2, 1)] tk 8 (fun o => { o with gone := true }) yL (fun cY cA => ?_)
  have Oi := ku cA Kq
  have yM := ku cA yL
  have MG : (obj cY tk).id = (obj S.O tk).id := fu aM.id cA uH
  have PJ : (obj cY tk).opens = (obj S.O tk).opens := fu aM.opens cA uI
  have PK : (obj cY tk).data = (obj S.O tk).data := fu aM.data cA uJ
  refine NN (af.region ?_)
  refine gK 2 [(22, vP f), (23, .iface 93 (vP (L.b tk)))] [] ?_
  refine gL [1, 0, 3] (oz { S.X with ah := S.X.ah - 1 } f m t (hI.vV hd hlk) cY L S.idx hI.rise ⟨tk, 3⟩ yM (by simp) (by rw [PJ]; exact hop.1) (fun _ => by rw [MG, hid.1]; exact hlv) (by rw [MG]; exact nM) (by rw [PK]; exact hdl)) ?_
  rintro _ _ ⟨rfl, rfl⟩
  refine NL ?_
  exact RF (l := [pF f m t { S.X with ah := S.X.ah - 1, used := iY cY S.X.used ⟨tk, 3⟩ }, pO cY L, pE cY L, pI m L (freeI cY S.idx ⟨tk, 3⟩)]) (.tuple #[]) [1, 0, 3, 2, 4] (⟨rfl, by subst cA; subst bO; rw [show dropM S d name ⟨tk, 3⟩ = _ from om mr] <;> rfl⟩)
 refine af.skip ?_
 exact RF (l := [pF f m t { S.X with ah := S.X.ah - 1 }, pO bJ L, pE bJ L, pI m L S.idx]) (.tuple #[]) [0, 1, 2, 3, 4] (⟨rfl, by subst bO; rw [show dropM S d name ⟨tk, 3⟩ = _ from oo mr] <;> rfl⟩)
theorem qP {β : Bs} (S : aG) (L : HL) (f m t : Nat) (hI : Inv S) (d : Nat) (hd : Live S.idx ⟨d, 2⟩) (name : ByteArray) (hsz : name.size ≤ 1048576) :
    Spec Tryz.prog β 54 #[vP f, vP (L.b d), .string name] [pF f m t S.X, pI m L S.idx, pE S.O L, pO S.O L] (fun v l => v = vI (bN S.X S.O S.idx d name) ∧ l = [pF f m t S.X, pI m L S.idx, pE S.O L, pO S.O L]) := by
 have hX := hI.hX
 have hel : (obj S.O d).ah.length ≤ 8192 := hI.eV hd
 have hkd : (obj S.O d).kind = 2 := hI.kind hd
 refine Spec.enter Tryz.func54 rfl Tryz.ntmps54 (Nat.le_of_ble_eq_true rfl) (fun R => ?_)
 refine af.seq ?_
 rcases hI.kg hd name with hlk | ⟨tk, hlk, hlv⟩ | ⟨tk, hlk, hlv⟩ | ⟨tk, hlk, hlv⟩
 ·refine af.region ?_
  refine gK 1 [] [] ?_
  refine NN (af.seq (SR ?_))
  refine gK 5 [(10, .map (some (L.m d))), (11, .string name)] [(3, v_ 3 (bA L hkd))] ?_
  refine fQ 2 hkd hlk ?_
  refine gK 1 [(13, .bool false)] [] ?_
  refine NN ?_
  refine CF ?_
  refine af.skip (NX (af.seq (SR ?_)))
  refine gK 1 [(14, vP f)] [] ?_
  refine gL [0, 1] (CS S.X f m t L S.idx) ?_
  rintro _ _ ⟨rfl, rfl⟩
  refine gK 1 [(16, .bool (!(decide (((S.idx.length : Int) < S.X.cN ∧ S.X.last < 1099511627776 ∧ S.X.ah < 8192)))))] [] ?_
  refine NN ?_
  refine af.ct (p := ((S.idx.length : Int) < S.X.cN ∧ S.X.last < 1099511627776 ∧ S.X.ah < 8192)) (fun _ => by kernel_rfl) (fun x6 => ?_) (fun x6 => ?_)
  ·refine SR ?_
   refine gK 1 [(6, vI 177)] [] ?_
   refine NN (af.ret (ai.aq ?_))
   exact RT (vI 177) [0, 1, 2, 3, 4] (⟨congrArg (Value.int .i64) (Eq.symm (show bN S.X S.O S.idx d name = _ from (if_pos hlk).trans (if_neg x6))), rfl⟩)
  refine af.skip (NX (SR ?_))
  refine gK 1 [(6, vI 0)] [] ?_
  refine NN (af.ret ?_)
  exact RT (vI 0) [0, 1, 2, 3, 4] (⟨congrArg (Value.int .i64) (Eq.symm (show bN S.X S.O S.idx d name = _ from (if_pos hlk).trans (if_pos x6))), rfl⟩)
 ·have hkt : (obj S.O tk).kind = 1 := hI.kind hlv
  refine af.region ?_
  refine gK 1 [] [] ?_
  refine NN (af.seq (SR ?_))
  refine gK 5 [(10, .map (some (L.m d))), (11, .string name)] [(3, v_ 3 (bA L hkd))] ?_
  refine fQ 2 hkd hlk ?_
  refine gK 1 [(13, .bool true)] [] ?_
  refine NN ?_
  refine CT ?_
  refine SR ?_
  refine gK 1 [(6, vI 171)] [] ?_
  refine NN (af.ret (ai.aq ?_))
  exact RT (vI 171) [0, 1, 2, 3, 4] (⟨congrArg (Value.int .i64) (Eq.symm (show bN S.X S.O S.idx d name = _ from if_neg (by rw [hlk]; simp))), rfl⟩)
 ·have hkt : (obj S.O tk).kind = 2 := hI.kind hlv
  refine af.region ?_
  refine gK 1 [] [] ?_
  refine NN (af.seq (SR ?_))
  refine gK 5 [(10, .map (some (L.m d))), (11, .string name)] [(3, v_ 3 (bA L hkd))] ?_
  refine fQ 2 hkd hlk ?_
  refine gK 1 [(13, .bool true)] [] ?_
  refine NN ?_
  refine CT ?_
  refine SR ?_
  refine gK 1 [(6, vI 171)] [] ?_
  refine NN (af.ret (ai.aq ?_))
  exact RT (vI 171) [0, 1, 2, 3, 4] (⟨congrArg (Value.int .i64) (Eq.symm (show bN S.X S.O S.idx d name = _ from if_neg (by rw [hlk]; simp))), rfl⟩)
 have hkt : (obj S.O tk).kind = 3 := hI.kind hlv
 refine af.region ?_
 refine gK 1 [] [] ?_
 refine NN (af.seq (SR ?_))
 refine gK 5 [(10, .map (some (L.m d))), (11, .string name)] [(3, v_ 3 (bA L hkd))] ?_
 refine fQ 2 hkd hlk ?_
 refine gK 1 [(13, .bool true)] [] ?_
 refine NN ?_
 refine CT ?_
 refine SR ?_
 refine gK 1 [(6, vI 171)] [] ?_
 refine NN (af.ret (ai.aq ?_))
 exact RT (vI 171) [0, 1, 2, 3, 4] (⟨congrArg (Value.int .i64) (Eq.symm (show bN S.X S.O S.idx d name = _ from if_neg (by rw [hlk]; simp))), rfl⟩)
theorem Le {β : Bs} (s : ByteArray) (hsz : s.size ≤ 1048576) :
    Spec Tryz.prog β 105 #[.string s] [] (fun v l => v = vI (kZ s) ∧ l = []) := by
 refine Spec.enter Tryz.func105 rfl Tryz.ntmps105 (Nat.le_of_ble_eq_true rfl) (fun R => ?_)
 refine SR ?_
 refine gK 1 [] [] ?_
 refine NN (af.seq (af.block (SR ?_)))
 refine gK 3 [(3, .bool (decide ((s : ByteArray) = ⟨#[]⟩)))] [(1, p_ ⟨[], none, none, none, some (.bool (decide ((s : ByteArray) = ⟨#[]⟩)))⟩ [(Value.bool ((s : ByteArray).toList == (⟨#[]⟩ : ByteArray).toList)) = (.bool (decide ((s : ByteArray) = ⟨#[]⟩)))] ⟨rL _ _, trivial⟩)] ?_
 refine NN ?_
 refine af.bn (p := (s : ByteArray) = ⟨#[]⟩) (fun _ => by kernel_rfl) (fun h3 => ?_) (fun h3 => ?_)
 ·refine SR ?_
  refine gK 1 [(2, vI 90)] [] ?_
  refine NN (af.ret (ai.aF (ai.aq ?_)))
  exact RT (vI 90) [0] (⟨congrArg (Value.int .i64) (Eq.symm (show kZ s = _ from if_pos h3)), rfl⟩)
 refine SR ?_
 refine gK 4 [(6, .bool (decide (((((s : ByteArray).size : Nat) : Int) : Int) > (4096 : Int))))] [] ?_
 refine NN ?_
 refine af.bn (p := ((((s : ByteArray).size : Nat) : Int) : Int) > (4096 : Int)) (fun _ => by kernel_rfl) (fun h6 => ?_) (fun h6 => ?_)
 ·refine SR ?_
  refine gK 1 [(2, vI 93)] [] ?_
  refine NN (af.ret (ai.aF (ai.aq ?_)))
  exact RT (vI 93) [0] (⟨congrArg (Value.int .i64) (Eq.symm (show kZ s = _ from (if_neg h3).trans (if_pos (by omega)))), rfl⟩)
 refine SR ?_
 refine gK 1 [(11, .string s)] [] ?_
 refine gL [] (DJ s) ?_
 rintro _ _ ⟨⟨x, rfl, hx⟩, rfl⟩
 refine gK 2 [(10, .bool (decide ((x : Int) ≥ (0 : Int))))] [] ?_
 refine NN ?_
 refine af.bn (p := (x : Int) ≥ (0 : Int)) (fun _ => by kernel_rfl) (fun h10 => ?_) (fun h10 => ?_)
 ·refine SR ?_
  refine gK 1 [(2, vI 91)] [] ?_
  refine NN (af.ret (ai.aF (ai.aq ?_)))
  exact RT (vI 91) [0] (⟨congrArg (Value.int .i64) (Eq.symm (show kZ s = _ from (if_neg h3).trans ((if_neg (by omega)).trans (if_neg (hx.1 (by omega)))))), rfl⟩)
 refine af.skip (ai.aL (NX (SR ?_)))
 refine gK 1 [(2, vI 0)] [] ?_
 refine NN (af.ret ?_)
 exact RT (vI 0) [0] (⟨congrArg (Value.int .i64) (Eq.symm (show kZ s = _ from (if_neg h3).trans ((if_neg (by omega)).trans (if_pos (Classical.byContradiction (fun hn => absurd (hx.2 hn) (by omega))))))), rfl⟩)
theorem qo {β : Bs} (S : aG) (L : HL) (f m t : Nat) (th : Th) (hkt : (obj S.O th.k).kind = th.kind) (h3 : th.kind = 1 ∨ th.kind = 2 ∨ th.kind = 3) (hop : 0 ≤ (obj S.O th.k).opens ∧ (obj S.O th.k).opens ≤ 1048576) :
    Spec Tryz.prog β 132 #[vP f, (cO L th)] [pF f m t S.X, pT t S.X.cH S.av L S.us, pO S.O L] (fun v l => v = .tuple #[vI (openM S th).1, vI (openM S th).2.1] ∧ l = [pF f m t S.X, pT t S.X.cH ((openM S th).2.2.av) L ((openM S th).2.2.us), pO ((openM S th).2.2.O) L]) := by
 refine Spec.enter Tryz.func132 rfl Tryz.ntmps132 (Nat.le_of_ble_eq_true rfl) (fun R => ?_)
 refine af.seq ?_
 obtain ⟨tk, kd⟩ := th; simp only at hkt h3; rcases Int.lt_or_le (S.us.length : Int) S.X.cH with qQ | qQ <;> rcases h3 with e0 | e0 | e0 <;> subst e0
 ·replace hkt : (obj S.O tk).kind = 1 := hkt
  replace hop : 0 ≤ (obj S.O tk).opens ∧ (obj S.O tk).opens ≤ 1048576 := hop
  refine af.region ?_
  refine gK 2 [] [] ?_
  refine NS ?_
  refine gK 5 [(12, vP t), (13, .iface 89 (vP (L.b tk)))] [(3, a_ 0 f)] ?_
  refine gL [1] ((wN t S.X.cH S.av (aK L S.us) (cO L ⟨tk, 1⟩) (by rw [nI]; exact qQ)).mono (fun v l h => zE h)) ?_
  rintro _ _ ⟨rfl, rfl⟩
  refine gK 5 [(6, vI ((TabM.least S.us))), (7, vI 0)] [] ?_
  refine NN (af.seq (SR ?_))
  refine gK 2 [(18, .bool true)] [] ?_
  refine NN ?_
  refine CT ?_
  refine af.region ?_
  refine gK 1 [(19, .iface 89 (vP (L.b tk)))] [] ?_
  refine gL [] (cu (L.b tk)) ?_
  rintro _ _ ⟨rfl, rfl⟩
  refine gK 6 (MB S tk L) [(2, v_ 2 (iU L hkt)), (3, p_ ⟨[], none, none, none, some (vI ((obj S.O tk).opens + 1))⟩ [(Value.int .i64 (IntKind.wrap .i64 ((obj S.O tk).opens + 1))) = (.int .i64 ((obj S.O tk).opens + 1))] ⟨bE (by omega) (by omega) (by omega), trivial⟩)] ?_
  refine ql 2 [] tk 7 (fun o => { o with opens := o.opens + 1 }) hkt (fun bJ bO => ?_)
  have Ri := ku bO hkt
  refine NS ?_
  refine gK 4 [(4, vI ((TabM.least S.us))), (5, vI 0)] [] ?_
  refine NN (af.ret ?_)
  exact RT (l := [pF f m t S.X, pT t S.X.cH (max S.av ((S.us.length : Int) + 1)) L (ins (TabM.least S.us) ⟨tk, 1⟩ S.us), pO bJ L]) (.tuple #[vI ((TabM.least S.us)), vI 0]) [1, 0, 2, 3] (by subst bO; rw [show openM S ⟨tk, 1⟩ = _ from iz qQ] <;> exact ⟨rfl, rfl⟩)
 ·replace hkt : (obj S.O tk).kind = 2 := hkt
  replace hop : 0 ≤ (obj S.O tk).opens ∧ (obj S.O tk).opens ≤ 1048576 := hop
  refine af.region ?_
  refine gK 2 [] [] ?_
  refine NS ?_
  refine gK 5 [(12, vP t), (13, .iface 96 (vP (L.b tk)))] [(3, a_ 0 f)] ?_
  refine gL [1] ((wN t S.X.cH S.av (aK L S.us) (cO L ⟨tk, 2⟩) (by rw [nI]; exact qQ)).mono (fun v l h => zE h)) ?_
  rintro _ _ ⟨rfl, rfl⟩
  refine gK 5 [(6, vI ((TabM.least S.us))), (7, vI 0)] [] ?_
  refine NN (af.seq (SR ?_))
  refine gK 2 [(18, .bool true)] [] ?_
  refine NN ?_
  refine CT ?_
  refine af.region ?_
  refine gK 1 [(19, .iface 96 (vP (L.b tk)))] [] ?_
  refine gL [] (cu (L.b tk)) ?_
  rintro _ _ ⟨rfl, rfl⟩
  refine gK 6 (MB S tk L) [(2, v_ 2 (iU L hkt)), (3, p_ ⟨[], none, none, none, some (vI ((obj S.O tk).opens + 1))⟩ [(Value.int .i64 (IntKind.wrap .i64 ((obj S.O tk).opens + 1))) = (.int .i64 ((obj S.O tk).opens + 1))] ⟨bE (by omega) (by omega) (by omega), trivial⟩)] ?_
  refine ql 2 [] tk 7 (fun o => { o with opens := o.opens + 1 }) hkt (fun bJ bO => ?_)
  have Kn := ku bO hkt
  refine NS ?_
  refine gK 4 [(4, vI ((TabM.least S.us))), (5, vI 0)] [] ?_
  refine NN (af.ret ?_)
  exact RT (l := [pF f m t S.X, pT t S.X.cH (max S.av ((S.us.length : Int) + 1)) L (ins (TabM.least S.us) ⟨tk, 2⟩ S.us), pO bJ L]) (.tuple #[vI ((TabM.least S.us)), vI 0]) [1, 0, 2, 3] (by subst bO; rw [show openM S ⟨tk, 2⟩ = _ from iz qQ] <;> exact ⟨rfl, rfl⟩)
 ·replace hkt : (obj S.O tk).kind = 3 := hkt
  replace hop : 0 ≤ (obj S.O tk).opens ∧ (obj S.O tk).opens ≤ 1048576 := hop
  refine af.region ?_
  refine gK 2 [] [] ?_
  refine NS ?_
  refine gK 5 [(12, vP t), (13, .iface 93 (vP (L.b tk)))] [(3, a_ 0 f)] ?_
  refine gL [1] ((wN t S.X.cH S.av (aK L S.us) (cO L ⟨tk, 3⟩) (by rw [nI]; exact qQ)).mono (fun v l h => zE h)) ?_
  rintro _ _ ⟨rfl, rfl⟩
  refine gK 5 [(6, vI ((TabM.least S.us))), (7, vI 0)] [] ?_
  refine NN (af.seq (SR ?_))
  refine gK 2 [(18, .bool true)] [] ?_
  refine NN ?_
  refine CT ?_
  refine af.region ?_
  refine gK 1 [(19, .iface 93 (vP (L.b tk)))] [] ?_
  refine gL [] (cu (L.b tk)) ?_
  rintro _ _ ⟨rfl, rfl⟩
  refine gK 6 (MB S tk L) [(2, v_ 2 (iU L hkt)), (3, p_ ⟨[], none, none, none, some (vI ((obj S.O tk).opens + 1))⟩ [(Value.int .i64 (IntKind.wrap .i64 ((obj S.O tk).opens + 1))) = (.int .i64 ((obj S.O tk).opens + 1))] ⟨bE (by omega) (by omega) (by omega), trivial⟩)] ?_
  refine ql 2 [] tk 7 (fun o => { o with opens := o.opens + 1 }) hkt (fun bJ bO => ?_)
  have BL := ku bO hkt
  refine NS ?_
  refine gK 4 [(4, vI ((TabM.least S.us))), (5, vI 0)] [] ?_
  refine NN (af.ret ?_)
  exact RT (l := [pF f m t S.X, pT t S.X.cH (max S.av ((S.us.length : Int) + 1)) L (ins (TabM.least S.us) ⟨tk, 3⟩ S.us), pO bJ L]) (.tuple #[vI ((TabM.least S.us)), vI 0]) [1, 0, 2, 3] (by subst bO; rw [show openM S ⟨tk, 3⟩ = _ from iz qQ] <;> exact ⟨rfl, rfl⟩)
 ·replace hkt : (obj S.O tk).kind = 1 := hkt
  replace hop : 0 ≤ (obj S.O tk).opens ∧ (obj S.O tk).opens ≤ 1048576 := hop
  refine af.region ?_
  refine gK 2 [] [] ?_
  refine NS ?_
  refine gK 5 [(12, vP t), (13, .iface 89 (vP (L.b tk)))] [(3, a_ 0 f)] ?_
  refine gL [1] (uq t S.X.cH S.av (aK L S.us) (cO L ⟨tk, 1⟩) (by rw [nI]; exact qQ)) ?_
  rintro _ _ ⟨rfl, rfl⟩
  refine gK 5 [(6, vI 0), (7, vI 130)] [] ?_
  refine NN (af.seq (SR ?_))
  refine gK 2 [(18, .bool false)] [] ?_
  refine NN ?_
  refine CF ?_
  refine af.skip (NX (SR ?_))
  refine gK 4 [(4, vI 0), (5, vI 130)] [] ?_
  refine NN (af.ret ?_)
  exact RT (.tuple #[vI 0, vI 130]) [1, 0, 2, 3] (by skip; rw [show openM S ⟨tk, 1⟩ = _ from jI (by omega)] <;> exact ⟨rfl, rfl⟩)
 ·replace hkt : (obj S.O tk).kind = 2 := hkt
  replace hop : 0 ≤ (obj S.O tk).opens ∧ (obj S.O tk).opens ≤ 1048576 := hop
  refine af.region ?_
  refine gK 2 [] [] ?_
  refine NS ?_
  refine gK 5 [(12, vP t), (13, .iface 96 (vP (L.b tk)))] [(3, a_ 0 f)] ?_
  refine gL [1] (uq t S.X.cH S.av (aK L S.us) (cO L ⟨tk, 2⟩) (by rw [nI]; exact qQ)) ?_
  rintro _ _ ⟨rfl, rfl⟩
  refine gK 5 [(6, vI 0), (7, vI 130)] [] ?_
  refine NN (af.seq (SR ?_))
  refine gK 2 [(18, .bool false)] [] ?_
  refine NN ?_
  refine CF ?_
  refine af.skip (NX (SR ?_))
  refine gK 4 [(4, vI 0), (5, vI 130)] [] ?_
  refine NN (af.ret ?_)
  exact RT (.tuple #[vI 0, vI 130]) [1, 0, 2, 3] (by skip; rw [show openM S ⟨tk, 2⟩ = _ from jI (by omega)] <;> exact ⟨rfl, rfl⟩)
 replace hkt : (obj S.O tk).kind = 3 := hkt
 replace hop : 0 ≤ (obj S.O tk).opens ∧ (obj S.O tk).opens ≤ 1048576 := hop
 refine af.region ?_
 refine gK 2 [] [] ?_
 refine NS ?_
 refine gK 5 [(12, vP t), (13, .iface 93 (vP (L.b tk)))] [(3, a_ 0 f)] ?_
 refine gL [1] (uq t S.X.cH S.av (aK L S.us) (cO L ⟨tk, 3⟩) (by rw [nI]; exact qQ)) ?_
 rintro _ _ ⟨rfl, rfl⟩
 refine gK 5 [(6, vI 0), (7, vI 130)] [] ?_
 refine NN (af.seq (SR ?_))
 refine gK 2 [(18, .bool false)] [] ?_
 refine NN ?_
 refine CF ?_
 refine af.skip (NX (SR ?_))
 refine gK 4 [(4, vI 0), (5, vI 130)] [] ?_
 refine NN (af.ret ?_)
 exact RT (.tuple #[vI 0, vI 130]) [1, 0, 2, 3] (by skip; rw [show openM S ⟨tk, 3⟩ = _ from jI (by omega)] <;> exact ⟨rfl, rfl⟩)
theorem dg {β : Bs} (S : aG) (L : HL) (f m t : Nat) (hI : Inv S) (h : Int) (hw : (Lit.int .i64 h).wf = true) (name : ByteArray) (hsz : name.size ≤ 1048576) (need : Int) :
    Spec Tryz.prog β 134 #[vP f, vI (h), .string name, vI (need)] [pF f m t S.X, pT t S.X.cH S.av L S.us, pO S.O L] (fun v l => v = Px L (cL S.O S.us h name need) ∧ l = [pF f m t S.X, pT t S.X.cH S.av L S.us, pO S.O L]) := by
 refine Spec.enter Tryz.func134 rfl Tryz.ntmps134 (Nat.le_of_ble_eq_true rfl) (fun R => ?_)
 refine af.seq ?_
 rcases hI.hand h with cK | ⟨tk, cK, hlv⟩ | ⟨tk, cK, hlv⟩
 ·refine af.region ?_
  refine gK 2 [] [] ?_
  refine NS ?_
  refine gK 5 [(18, vP t), (19, vI (h))] [(3, a_ 0 f)] ?_
  refine gL [1] (ol t S.X.cH S.av (aK L S.us) h hw (nJ cK)) ?_
  rintro _ _ ⟨rfl, rfl⟩
  refine gK 5 [(10, .nilIface), (11, vI 131)] [] ?_
  refine NN (af.seq (SR ?_))
  refine gK 2 [(24, .bool true)] [] ?_
  refine NN ?_
  refine CT ?_
  refine SR ?_
  refine gK 3 [(8, .pointer none), (9, vI 131)] [] ?_
  refine NN (af.ret (ai.aq ?_))
  exact RT (.tuple #[.pointer none, vI 131]) [1, 0, 2, 3] (⟨by rw [show cL S.O S.us h name need = .error 131 by unfold cL; rw [cK]]; rfl, rfl⟩)
 ·have hkt : (obj S.O tk).kind = 1 := hI.kind hlv
  refine af.region ?_
  refine gK 2 [] [] ?_
  refine NS ?_
  refine gK 5 [(18, vP t), (19, vI (h))] [(3, a_ 0 f)] ?_
  refine gL [1] (jR t S.X.cH S.av (aK L S.us) h hw (cO L ⟨tk, 1⟩) (ji cK)) ?_
  rintro _ _ ⟨rfl, rfl⟩
  refine gK 5 [(10, .iface 89 (vP (L.b tk))), (11, vI 0)] [] ?_
  refine NN (af.seq (SR ?_))
  refine gK 2 [(24, .bool false)] [] ?_
  refine NN ?_
  refine CF ?_
  refine af.skip (NX (SR ?_))
  refine gK 7 [(12, .pointer none), (13, .bool false)] [] ?_
  refine NN (af.seq (af.block (SR ?_)))
  refine gK 3 [(31, .bool true)] [] ?_
  refine NN ?_
  refine CT ?_
  refine SR ?_
  refine gK 2 [(8, .pointer none), (9, vI 173)] [] ?_
  refine NN (af.ret (ai.aF (ai.aq ?_)))
  exact RT (.tuple #[.pointer none, vI 173]) [1, 0, 2, 3] (⟨by rw [show cL S.O S.us h name need = .error 173 by unfold cL; rw [cK]; exact if_neg (by simp)]; rfl, rfl⟩)
 have hkt : (obj S.O tk).kind = 2 := hI.kind hlv
 refine af.region ?_
 refine gK 2 [] [] ?_
 refine NS ?_
 refine gK 5 [(18, vP t), (19, vI (h))] [(3, a_ 0 f)] ?_
 refine gL [1] (jR t S.X.cH S.av (aK L S.us) h hw (cO L ⟨tk, 2⟩) (ji cK)) ?_
 rintro _ _ ⟨rfl, rfl⟩
 refine gK 5 [(10, .iface 96 (vP (L.b tk))), (11, vI 0)] [] ?_
 refine NN (af.seq (SR ?_))
 refine gK 2 [(24, .bool false)] [] ?_
 refine NN ?_
 refine CF ?_
 refine af.skip (NX (SR ?_))
 refine gK 7 [(12, vP (L.b tk)), (13, .bool true)] [] ?_
 refine NN (af.seq (af.block (SR ?_)))
 refine gK 3 [(31, .bool false)] [] ?_
 refine NN ?_
 refine CF ?_
 refine SR ?_
 refine gK 6 [(34, .bool (obj S.O tk).gone)] [(4, v_ 2 (lC L hkt))] ?_
 refine NN ?_
 refine af.cond (b := (obj S.O tk).gone) (fun _ => by kernel_rfl) (fun vY => ?_) (fun vY => ?_)
 ·refine SR ?_
  refine gK 2 [(8, .pointer none), (9, vI 170)] [] ?_
  refine NN (af.ret (ai.aF (ai.aq ?_)))
  exact RT (.tuple #[.pointer none, vI 170]) [1, 0, 2, 3] (⟨by rw [show cL S.O S.us h name need = .error 170 by unfold cL; rw [cK]; exact (if_pos rfl).trans (if_pos vY)]; rfl, rfl⟩)
 refine SR ?_
 refine gK 1 [(41, .string name)] [] ?_
 refine gL [] (p4 name hsz) ?_
 rintro _ _ ⟨rfl, rfl⟩
 refine gK 2 [(40, .bool (!(decide (bB name))))] [] ?_
 refine NN ?_
 refine af.ct (p := bB name) (fun _ => by kernel_rfl) (fun Kr => ?_) (fun Kr => ?_)
 ·refine SR ?_
  refine gK 2 [(8, .pointer none), (9, vI 95)] [] ?_
  refine NN (af.ret (ai.aF (ai.aq ?_)))
  exact RT (.tuple #[.pointer none, vI 95]) [1, 0, 2, 3] (⟨by rw [show cL S.O S.us h name need = .error 95 by unfold cL; rw [cK]; exact (if_pos rfl).trans ((if_neg (by rw [vY]; decide)).trans (if_neg Kr))]; rfl, rfl⟩)
 refine SR ?_
 refine gK 10 [(44, .bool (!(decide ((bits BinOp.and .i64 ((obj S.O tk).mode) need : Int) = (need : Int)))))] [(4, v_ 2 (Mt L hkt))] ?_
 refine NN ?_
 refine af.ct (p := (bits BinOp.and .i64 ((obj S.O tk).mode) need : Int) = (need : Int)) (fun _ => by kernel_rfl) (fun Gj => ?_) (fun Gj => ?_)
 ·refine SR ?_
  refine gK 2 [(8, .pointer none), (9, vI 175)] [] ?_
  refine NN (af.ret (ai.aF (ai.aq ?_)))
  exact RT (.tuple #[.pointer none, vI 175]) [1, 0, 2, 3] (⟨by rw [show cL S.O S.us h name need = .error 175 by unfold cL; rw [cK]; exact (if_pos rfl).trans ((if_neg (by rw [vY]; decide)).trans ((if_pos Kr).trans (if_neg Gj)))]; rfl, rfl⟩)
 refine af.skip (ai.aL (NX (SR ?_)))
 refine gK 3 [(8, vP (L.b tk)), (9, vI 0)] [] ?_
 refine NN (af.ret ?_)
 exact RT (.tuple #[vP (L.b tk), vI 0]) [1, 0, 2, 3] (⟨by rw [show cL S.O S.us h name need = .ok tk by unfold cL; rw [cK]; exact (if_pos rfl).trans ((if_neg (by rw [vY]; decide)).trans ((if_pos Kr).trans (if_pos Gj)))]; rfl, rfl⟩)
theorem Lf {β : Bs} (X : FM) (f m t : Nat) (hX : 0 ≤ X.ah ∧ X.ah ≤ 1048576 ∧ -1125899906842624 ≤ X.used ∧ X.used ≤ 1125899906842624 ∧ 0 ≤ X.last ∧ X.last ≤ 1125899906842624) (O : bK) (L : HL) (d : Nat) (hkd : (obj O d).kind = 2) (name : ByteArray) (hsz : name.size ≤ 1048576) (hno : aQ name (obj O d).ah = none) (hel : (obj O d).ah.length ≤ 1048576) (idx : Used Th) (hil : idx.length ≤ 1048576) (th : Th) (hkt : (obj O th.k).kind = th.kind) (h3 : th.kind = 1 ∨ th.kind = 2 ∨ th.kind = 3) (hb : 0 ≤ (obj O th.k).links ∧ (obj O th.k).links ≤ 1048576) (hni : TabM.get idx (obj O th.k).id = none) (hw : (Lit.int .i64 (obj O th.k).id).wf = true) :
    Spec Tryz.prog β 56 #[vP f, vP (L.b d), .string name, (cO L th)] [pF f m t X, pI m L idx, pO O L, pE O L] (fun v l => v = .tuple #[] ∧ l = [pF f m t { X with ah := X.ah + 1 }, pI m L (ins (obj O th.k).id th idx), pO (bq X O d name th) L, pE (bq X O d name th) L]) := by
 refine Spec.enter Tryz.func56 rfl Tryz.ntmps56 (Nat.le_of_ble_eq_true rfl) (fun R => ?_)
 refine af.seq ?_
 obtain ⟨tk, kd⟩ := th; simp only at hkt h3; rcases h3 with rfl | rfl | rfl
 ·replace hkt : (obj O tk).kind = 1 := hkt
  replace hni : TabM.get idx (obj O tk).id = none := hni
  replace hw : (Lit.int .i64 (obj O tk).id).wf = true := hw
  refine af.ck (S := (tI f m t X L idx O R)) [0, 1, 2, 3, 4, 9, 5, 6, 7, 8, 10] 6 [0, 1, 2, 3, 4] (by kernel_rfl) (by kernel_rfl) rfl (by kernel_rfl) ?_
  refine aH.reads (r := 0) (l := [5, 6, 7, 8, 10]) (fr' := (tH f L d name ++ [(3, .iface 89 (vP (L.b tk))), (11, .map (some m)), (12, .iface 89 (vP (L.b tk))), (17, .iface 89 (vP (L.b tk)))])) (aU := [f = f]) [0, 1, 2, 3, 4, 9] [o_, o_, o_, ⟨[.at 0], none, none, none, none⟩, o_, o_] [0, 1, 2, 3, 11, 12, 17] (fun _ => by kernel_rfl) ⟨rfl, trivial⟩ rfl rfl ?_
  refine mL [0, 1, 2, 3, 4] [] (cu (L.b tk)) ?_ (by rintro _ _ ⟨rfl, rfl⟩; rfl)
  rintro _ _ ⟨rfl, rfl⟩
  refine aH.cut (ι := Unit) (fr' := fun (_ : Unit) => (tH f L d name ++ [(3, .iface 89 (vP (L.b tk))), (11, .map (some m)), (14, vP (L.b tk)), (17, .iface 89 (vP (L.b tk)))])) (hp' := fun (_ : Unit) => (tI f m t X L idx O R)) [0, 1, 2, 3, 4] rfl rfl ?_ rfl (fun _ => by kernel_rfl) ?_
  ·refine gK 1 [(14, vP (L.b tk))] [] ?_
   refine NL ?_
   exact MD () [0, 1, 2, 3, 11, 14, 17] [0, 1, 2, 3, 4]
  rintro _
  refine aH.cut (ι := Unit) (fr' := fun (_ : Unit) => (tH f L d name ++ [(3, .iface 89 (vP (L.b tk))), (11, .map (some m)), (15, vP (L.b tk)), (17, .iface 89 (vP (L.b tk)))])) (hp' := fun (_ : Unit) => (tI f m t X L idx O R)) [0, 1, 2, 3, 4] rfl rfl ?_ rfl (fun _ => by kernel_rfl) ?_
  ·refine gK 1 [(15, vP (L.b tk))] [] ?_
   refine NL ?_
   exact MD () [0, 1, 2, 3, 11, 15, 17] [0, 1, 2, 3, 4]
  rintro _
  refine aH.cut (ι := Unit) (fr' := fun (_ : Unit) => (tH f L d name ++ [(3, .iface 89 (vP (L.b tk))), (11, .map (some m)), (16, vI ((obj O tk).id)), (17, .iface 89 (vP (L.b tk)))])) (hp' := fun (_ : Unit) => (tI f m t X L idx O R)) [0, 1, 2, 3, 4] rfl rfl ?_ rfl (fun _ => by kernel_rfl) ?_
  ·refine gK 1 [(16, vI ((obj O tk).id))] [(0, v_ 2 (zK L hkt))] ?_
   refine NL ?_
   exact MD () [0, 1, 2, 3, 11, 16, 17] [0, 1, 2, 3, 4]
  rintro _
  refine aH.last rfl rfl ?_
  refine aj.jW 1 (d := none) (t := 80) (K := 3) (E := 84) (b := m) (n := idx.length) (f := (aO (aK L idx))) (x := (.tmp 11)) (ix := (.tmp 16)) (y := (.tmp 17)) (key := .int .i64 ((obj O tk).id)) (u := .iface 89 (vP (L.b tk))) (kl := (.int .i64 (obj O tk).id)) (n' := (idx.length + 1)) (f' := (aO (aK L (ins (obj O tk).id ⟨tk, 1⟩ idx)))) (fun _ => by kernel_rfl) (by kernel_rfl) (fun _ => by kernel_rfl) (fun _ => by kernel_rfl) (fun _ => by kernel_rfl) cU Tryz.underlying80 (by unfold maxLen; omega) (gX hw) (by rw [dQ, hni]; rfl) (pR (L := L) (t := ⟨tk, 1⟩) hni) ?_
  refine NL (ai.np (NX (af.region ?_)))
  refine gK 4 (Mx f L d name ++ [(21, .iface 89 (vP (L.b tk)))]) [] ?_
  refine gL [0, 2, 3] (fV X f m t hX O L d hkd name hsz hno hel ⟨tk, 1⟩ hkt (by simp) hb) ?_
  rintro _ _ ⟨rfl, rfl⟩
  refine NL ?_
  refine ai.mem (aP := [.blk f [vI (X.cN), vI (X.cB), vI (X.cH), vI (X.cS), vI (X.cZ), .map (some m), vP t, vI (X.last), vI (X.ah + 1), vI (X.used)] 86, .abs (ak (aN (bq X O d name ⟨tk, 1⟩) L)), .abs (ak (bh (bq X O d name ⟨tk, 1⟩) L)), .abs (aE Tryz.prog 3 m (aO (aK L (ins (obj O tk).id ⟨tk, 1⟩ idx))) ((ins (obj O tk).id ⟨tk, 1⟩ idx).length)), .abs R]) (fun w hS => by rw [show (ins (obj O tk).id ⟨tk, 1⟩ idx).length = idx.length + 1 from gi _ _ _]; exact hS) ?_
  exact RF (.tuple #[]) [0, 3, 1, 2, 4] (⟨rfl, rfl⟩)
 ·replace hkt : (obj O tk).kind = 2 := hkt
  replace hni : TabM.get idx (obj O tk).id = none := hni
  replace hw : (Lit.int .i64 (obj O tk).id).wf = true := hw
  refine af.ck (S := (tI f m t X L idx O R)) [0, 1, 2, 3, 4, 9, 5, 6, 7, 8, 10] 6 [0, 1, 2, 3, 4] (by kernel_rfl) (by kernel_rfl) rfl (by kernel_rfl) ?_
  refine aH.reads (r := 0) (l := [5, 6, 7, 8, 10]) (fr' := (tH f L d name ++ [(3, .iface 96 (vP (L.b tk))), (11, .map (some m)), (12, .iface 96 (vP (L.b tk))), (17, .iface 96 (vP (L.b tk)))])) (aU := [f = f]) [0, 1, 2, 3, 4, 9] [o_, o_, o_, ⟨[.at 0], none, none, none, none⟩, o_, o_] [0, 1, 2, 3, 11, 12, 17] (fun _ => by kernel_rfl) ⟨rfl, trivial⟩ rfl rfl ?_
  refine mL [0, 1, 2, 3, 4] [] (cu (L.b tk)) ?_ (by rintro _ _ ⟨rfl, rfl⟩; rfl)
  rintro _ _ ⟨rfl, rfl⟩
  refine aH.cut (ι := Unit) (fr' := fun (_ : Unit) => (tH f L d name ++ [(3, .iface 96 (vP (L.b tk))), (11, .map (some m)), (14, vP (L.b tk)), (17, .iface 96 (vP (L.b tk)))])) (hp' := fun (_ : Unit) => (tI f m t X L idx O R)) [0, 1, 2, 3, 4] rfl rfl ?_ rfl (fun _ => by kernel_rfl) ?_
  ·refine gK 1 [(14, vP (L.b tk))] [] ?_
   refine NL ?_
   exact MD () [0, 1, 2, 3, 11, 14, 17] [0, 1, 2, 3, 4]
  rintro _
  refine aH.cut (ι := Unit) (fr' := fun (_ : Unit) => (tH f L d name ++ [(3, .iface 96 (vP (L.b tk))), (11, .map (some m)), (15, vP (L.b tk)), (17, .iface 96 (vP (L.b tk)))])) (hp' := fun (_ : Unit) => (tI f m t X L idx O R)) [0, 1, 2, 3, 4] rfl rfl ?_ rfl (fun _ => by kernel_rfl) ?_
  ·refine gK 1 [(15, vP (L.b tk))] [] ?_
   refine NL ?_
   exact MD () [0, 1, 2, 3, 11, 15, 17] [0, 1, 2, 3, 4]
  rintro _
  refine aH.cut (ι := Unit) (fr' := fun (_ : Unit) => (tH f L d name ++ [(3, .iface 96 (vP (L.b tk))), (11, .map (some m)), (16, vI ((obj O tk).id)), (17, .iface 96 (vP (L.b tk)))])) (hp' := fun (_ : Unit) => (tI f m t X L idx O R)) [0, 1, 2, 3, 4] rfl rfl ?_ rfl (fun _ => by kernel_rfl) ?_
  ·refine gK 1 [(16, vI ((obj O tk).id))] [(0, v_ 2 (zK L hkt))] ?_
   refine NL ?_
   exact MD () [0, 1, 2, 3, 11, 16, 17] [0, 1, 2, 3, 4]
  rintro _
  refine aH.last rfl rfl ?_
  refine aj.jW 1 (d := none) (t := 80) (K := 3) (E := 84) (b := m) (n := idx.length) (f := (aO (aK L idx))) (x := (.tmp 11)) (ix := (.tmp 16)) (y := (.tmp 17)) (key := .int .i64 ((obj O tk).id)) (u := .iface 96 (vP (L.b tk))) (kl := (.int .i64 (obj O tk).id)) (n' := (idx.length + 1)) (f' := (aO (aK L (ins (obj O tk).id ⟨tk, 2⟩ idx)))) (fun _ => by kernel_rfl) (by kernel_rfl) (fun _ => by kernel_rfl) (fun _ => by kernel_rfl) (fun _ => by kernel_rfl) cU Tryz.underlying80 (by unfold maxLen; omega) (gX hw) (by rw [dQ, hni]; rfl) (pR (L := L) (t := ⟨tk, 2⟩) hni) ?_
  refine NL (ai.np (NX (af.region ?_)))
  refine gK 4 (Mx f L d name ++ [(21, .iface 96 (vP (L.b tk)))]) [] ?_
  refine gL [0, 2, 3] (fV X f m t hX O L d hkd name hsz hno hel ⟨tk, 2⟩ hkt (by simp) hb) ?_
  rintro _ _ ⟨rfl, rfl⟩
  refine NL ?_
  refine ai.mem (aP := [.blk f [vI (X.cN), vI (X.cB), vI (X.cH), vI (X.cS), vI (X.cZ), .map (some m), vP t, vI (X.last), vI (X.ah + 1), vI (X.used)] 86, .abs (ak (aN (bq X O d name ⟨tk, 2⟩) L)), .abs (ak (bh (bq X O d name ⟨tk, 2⟩) L)), .abs (aE Tryz.prog 3 m (aO (aK L (ins (obj O tk).id ⟨tk, 2⟩ idx))) ((ins (obj O tk).id ⟨tk, 2⟩ idx).length)), .abs R]) (fun w hS => by rw [show (ins (obj O tk).id ⟨tk, 2⟩ idx).length = idx.length + 1 from gi _ _ _]; exact hS) ?_
  exact RF (.tuple #[]) [0, 3, 1, 2, 4] (⟨rfl, rfl⟩)
 replace hkt : (obj O tk).kind = 3 := hkt
 replace hni : TabM.get idx (obj O tk).id = none := hni
 replace hw : (Lit.int .i64 (obj O tk).id).wf = true := hw
 refine af.ck (S := (tI f m t X L idx O R)) [0, 1, 2, 3, 4, 9, 5, 6, 7, 8, 10] 6 [0, 1, 2, 3, 4] (by kernel_rfl) (by kernel_rfl) rfl (by kernel_rfl) ?_
 refine aH.reads (r := 0) (l := [5, 6, 7, 8, 10]) (fr' := (tH f L d name ++ [(3, .iface 93 (vP (L.b tk))), (11, .map (some m)), (12, .iface 93 (vP (L.b tk))), (17, .iface 93 (vP (L.b tk)))])) (aU := [f = f]) [0, 1, 2, 3, 4, 9] [o_, o_, o_, ⟨[.at 0], none, none, none, none⟩, o_, o_] [0, 1, 2, 3, 11, 12, 17] (fun _ => by kernel_rfl) ⟨rfl, trivial⟩ rfl rfl ?_
 refine mL [0, 1, 2, 3, 4] [] (cu (L.b tk)) ?_ (by rintro _ _ ⟨rfl, rfl⟩; rfl)
 rintro _ _ ⟨rfl, rfl⟩
 refine aH.cut (ι := Unit) (fr' := fun (_ : Unit) => (tH f L d name ++ [(3, .iface 93 (vP (L.b tk))), (11, .map (some m)), (14, vP (L.b tk)), (17, .iface 93 (vP (L.b tk)))])) (hp' := fun (_ : Unit) => (tI f m t X L idx O R)) [0, 1, 2, 3, 4] rfl rfl ?_ rfl (fun _ => by kernel_rfl) ?_
 ·refine gK 1 [(14, vP (L.b tk))] [] ?_
  refine NL ?_
  exact MD () [0, 1, 2, 3, 11, 14, 17] [0, 1, 2, 3, 4]
 rintro _
 refine aH.cut (ι := Unit) (fr' := fun (_ : Unit) => (tH f L d name ++ [(3, .iface 93 (vP (L.b tk))), (11, .map (some m)), (15, vP (L.b tk)), (17, .iface 93 (vP (L.b tk)))])) (hp' := fun (_ : Unit) => (tI f m t X L idx O R)) [0, 1, 2, 3, 4] rfl rfl ?_ rfl (fun _ => by kernel_rfl) ?_
 ·refine gK 1 [(15, vP (L.b tk))] [] ?_
  refine NL ?_
  exact MD () [0, 1, 2, 3, 11, 15, 17] [0, 1, 2, 3, 4]
 rintro _
 refine aH.cut (ι := Unit) (fr' := fun (_ : Unit) => (tH f L d name ++ [(3, .iface 93 (vP (L.b tk))), (11, .map (some m)), (16, vI ((obj O tk).id)), (17, .iface 93 (vP (L.b tk)))])) (hp' := fun (_ : Unit) => (tI f m t X L idx O R)) [0, 1, 2, 3, 4] rfl rfl ?_ rfl (fun _ => by kernel_rfl) ?_
 ·refine gK 1 [(16, vI ((obj O tk).id))] [(0, v_ 2 (zK L hkt))] ?_
  refine NL ?_
  exact MD () [0, 1, 2, 3, 11, 16, 17] [0, 1, 2, 3, 4]
 rintro _
 refine aH.last rfl rfl ?_
 refine aj.jW 1 (d := none) (t := 80) (K := 3) (E := 84) (b := m) (n := idx.length) (f := (aO (aK L idx))) (x := (.tmp 11)) (ix := (.tmp 16)) (y := (.tmp 17)) (key := .int .i64 ((obj O tk).id)) (u := .iface 93 (vP (L.b tk))) (kl := (.int .i64 (obj O tk).id)) (n' := (idx.length + 1)) (f' := (aO (aK L (ins (obj O tk).id ⟨tk, 3⟩ idx)))) (fun _ => by kernel_rfl) (by kernel_rfl) (fun _ => by kernel_rfl) (fun _ => by kernel_rfl) (fun _ => by kernel_rfl) cU Tryz.underlying80 (by unfold maxLen; omega) (gX hw) (by rw [dQ, hni]; rfl) (pR (L := L) (t := ⟨tk, 3⟩) hni) ?_
 refine NL (ai.np (NX (af.region ?_)))
 refine gK 4 (Mx f L d name ++ [(21, .iface 93 (vP (L.b tk)))]) [] ?_
 refine gL [0, 2, 3] (fV X f m t hX O L d hkd name hsz hno hel ⟨tk, 3⟩ hkt (by simp) hb) ?_
 rintro _ _ ⟨rfl, rfl⟩
 refine NL ?_
 refine ai.mem (aP := [.blk f [vI (X.cN), vI (X.cB), vI (X.cH), vI (X.cS), vI (X.cZ), .map (some m), vP t, vI (X.last), vI (X.ah + 1), vI (X.used)] 86, .abs (ak (aN (bq X O d name ⟨tk, 3⟩) L)), .abs (ak (bh (bq X O d name ⟨tk, 3⟩) L)), .abs (aE Tryz.prog 3 m (aO (aK L (ins (obj O tk).id ⟨tk, 3⟩ idx))) ((ins (obj O tk).id ⟨tk, 3⟩ idx).length)), .abs R]) (fun w hS => by rw [show (ins (obj O tk).id ⟨tk, 3⟩ idx).length = idx.length + 1 from gi _ _ _]; exact hS) ?_
 exact RF (.tuple #[]) [0, 3, 1, 2, 4] (⟨rfl, rfl⟩)
end
section
open Go.RowKit Go.Maps HeapM TabM
attribute [local irreducible] aj aR af ai
abbrev yN (f : Nat) (m : Nat) (t) (S : aG) := (pF f m t { S.X with last := S.X.last + 1 } : HP)
abbrev Kt (S : aG) (text) (L2 : HL) := (pO (ay S.O (aD S.X) (fun _ => { aB S.X 3 511 with target := text })) L2 : HP)
abbrev MH (S : aG) (text) (L2 : HL) := (pE (ay S.O (aD S.X) (fun _ => { aB S.X 3 511 with target := text })) L2 : HP)
abbrev OQ (S : aG) (mode) (L2 : HL) (f : Nat) (m : Nat) (t) (L : HL) := ([pE (ay S.O (aD S.X) (fun _ => (aB S.X 2 mode))) L2, pO (ay S.O (aD S.X) (fun _ => (aB S.X 2 mode))) L2, yN f m t S, pI m L S.idx, pT t S.X.cH S.av L S.us] : List HP)
theorem o9 {β : Bs} (S : aG) (L : HL) (f m t : Nat) (hI : Inv0 S) (d : Nat) (hd : Live S.idx ⟨d, 2⟩) (name : ByteArray) (hsz : name.size ≤ 1048576) (hno : aQ name (obj S.O d).ah = none) (o : aM) (hid : o.id = S.X.last + 1) (hk3 : o.kind = 1 ∨ o.kind = 2 ∨ o.kind = 3) (hl0 : o.links = 0) (hlast : S.X.last < 1099511627776) :
    Spec Tryz.prog β 56 #[vP f, vP (L.b d), .string name, cO L ⟨(aD S.X), o.kind⟩] [yN f m t S, pI m L S.idx, pO (ay S.O (aD S.X) (fun _ => o)) L, pE (ay S.O (aD S.X) (fun _ => o)) L] (fun v l => v = .tuple #[] ∧ l = [pF f m t ((addM S d name o).X), pI m L ((addM S d name o).idx), pO ((addM S d name o).O) L, pE ((addM S d name o).O) L]) := by
  have hX := hI.hX
  have hne : d ≠ (aD S.X) := hI.rV hd
  have hkd : (obj S.O d).kind = 2 := hI.kind hd
  have hel : (obj S.O d).ah.length ≤ 8192 := hI.eV hd
  have hlen := hI.len
  have e1 : obj (ay S.O (aD S.X) (fun _ => o)) (aD S.X) = o := bG
  have e2 : obj (ay S.O (aD S.X) (fun _ => o)) d = obj S.O d := bQ hne
  have hnk := mB hI
  have h := Lf (β := β) { S.X with last := S.X.last + 1 } f m t (by simp only; omega) (ay S.O (aD S.X) (fun _ => o)) L d (by rw [e2]; exact hkd) name hsz (by rw [e2]; exact hno) (by rw [e2]; omega) S.idx (by omega) ⟨(aD S.X), o.kind⟩ (by rw [e1]) hk3 (by rw [e1, hl0]; decide) (by
    rw [e1, hid]
    cases e : TabM.get S.idx (S.X.last + 1) with
    | none => rfl
    | some u => have := (hI.idx _ u e).2.2; omega) (by rw [e1, hid]; exact WalkArith.wf_i64 (by have := hI.last; omega))
  rw [e1, hid] at h
  exact h
theorem AX {β : Bs} (S : aG) (L : HL) (f m t : Nat) (hI : Inv S) (d : Nat) (hd : Live S.idx ⟨d, 2⟩) (name : ByteArray) (hsz : name.size ≤ 1048576) (mode : Int) :
    Spec Tryz.prog β 58 #[vP f, vP (L.b d), .string name, vI (mode)] (pA f m t L S) (fun v l => ∃ L2, v = vI (mkdirM S d name mode).1 ∧ l = (pA f m t L2 ((mkdirM S d name mode).2))) := by
 have hX := hI.hX
 have hel : (obj S.O d).ah.length ≤ 8192 := hI.eV hd
 have hkd : (obj S.O d).kind = 2 := hI.kind hd
 refine Spec.enter Tryz.func58 rfl Tryz.ntmps58 (Nat.le_of_ble_eq_true rfl) (fun R => ?_)
 refine SR ?_
 refine gK 1 [] [] ?_
 refine NS ?_
 refine gK 3 [(10, vP f), (11, vP (L.b d)), (12, .string name)] [] ?_
 refine gL [0, 1, 5, 3] (qP S L f m t hI d hd name hsz) ?_
 rintro _ _ ⟨rfl, rfl⟩
 refine gK 1 [(9, vI ((bN S.X S.O S.idx d name)))] [] ?_
 refine NN (af.seq (SR ?_))
 refine gK 2 [(15, .bool (decide (((bN S.X S.O S.idx d name) : Int) = (0 : Int))))] [] ?_
 refine NN ?_
 refine af.bn (p := ((bN S.X S.O S.idx d name) : Int) = (0 : Int)) (fun _ => by kernel_rfl) (fun h0 => ?_) (fun h0 => ?_)
 ·have hno := mE h0
  refine af.region ?_
  refine gK 5 [(16, vP f), (17, vP (L.b d)), (18, .string name), (19, vP f), (20, vI (mode))] [] ?_
  refine gL [0] (qO S.X f m t hX mode) ?_
  rintro _ _ ⟨rfl, rfl⟩
  refine aj.kK (d := (some 22)) (t := 97) (fun _ => by kernel_rfl) Tryz.prog rfl 9 (fun m1 => ?_)
  refine gN 3 (fun b2 => [(25, .iface 96 (vP b2))]) (fun _ => []) (fun _ => []) (fun b2 => .blk b2 [vI (S.X.last + 1), vI (mode), vI 0, vI 0, vI (S.X.cS), vI (S.X.cZ), vI 0, vI 0, .bool false, .map (some m1), .pointer none] 99) (fun b2 => ?_)
  obtain ⟨L2, hL2⟩ : ∃ L2 : HL, L2 = L.put (aD S.X) b2 m1 none 0 := ⟨_, rfl⟩
  have hfr := hI.toInv0.fresh
  refine aj.mem (aP := [.abs (ak (aN (ay S.O (aD S.X) (fun _ => (aB S.X 2 mode))) L2)), .blk f [vI (S.X.cN), vI (S.X.cB), vI (S.X.cH), vI (S.X.cS), vI (S.X.cZ), .map (some m), vP t, vI (S.X.last + 1), vI (S.X.ah), vI (S.X.used)] 86, .abs (aE Tryz.prog 3 m (aO (aK L S.idx)) S.idx.length), .abs (ak (bh S.O L)), .abs (br 156 t S.X.cH S.av (aK L S.us)), .abs (ak (aY S.O L)), .abs R, .abs (aE Tryz.prog 9 m1 (fun _ => none) 0)]) (fun w hS => hS.qM hL2 hfr (o := (aB S.X 2 mode)) (i := 3) (j := 8) (ix := [0, 1, 2, 4, 5, 6, 7]) rfl rfl (by kernel_rfl) rfl (by show (2 : Int) ≠ 0; decide) ((gV (L := L2) (k := (aD S.X)) (o := (aB S.X 2 mode)) rfl).trans (by rw [CD hL2]; rfl)) rfl) ?_
  refine aj.mem (aP := (OQ S mode L2 f m t L ++ [pD S.O L, .abs R])) (fun w hS => hS.Kj hL2 hfr (o := (aB S.X 2 mode)) (i := 3) (j := 7) (ix := [0, 1, 2, 4, 5, 6]) rfl rfl (by kernel_rfl) rfl rfl rfl) ?_
  refine aj.mem (aP := (OQ S mode L2 f m t L ++ [pD (ay S.O (aD S.X) (fun _ => (aB S.X 2 mode))) L2, .abs R])) (fun w hS => hS.yg hL2 (o := (aB S.X 2 mode)) (i := 5) rfl (by show (2 : Int) ≠ 1; decide)) ?_
  refine aj.mem (aP := [.abs (ak (bh (ay S.O (aD S.X) (fun _ => (aB S.X 2 mode))) L2)), .abs (ak (aN (ay S.O (aD S.X) (fun _ => (aB S.X 2 mode))) L2)), .blk f [vI (S.X.cN), vI (S.X.cB), vI (S.X.cH), vI (S.X.cS), vI (S.X.cZ), .map (some m), vP t, vI (S.X.last + 1), vI (S.X.ah), vI (S.X.used)] 86, .abs (aE Tryz.prog 3 m (aO (aK L2 S.idx)) S.idx.length), .abs (br 156 t S.X.cH S.av (aK L2 S.us)), .abs (ak (aY (ay S.O (aD S.X) (fun _ => (aB S.X 2 mode))) L2)), .abs R]) (fun w hS => by rw [fk hL2 hfr.idx, fk hL2 hfr.us]; exact hS) ?_
  refine gL (f := 56) (args := #[vP f, vP (L.b d), .string name, .iface 96 (vP b2)]) (pre := [yN f m t S, pI m L2 S.idx, pO (ay S.O (aD S.X) (fun _ => (aB S.X 2 mode))) L2, pE (ay S.O (aD S.X) (fun _ => (aB S.X 2 mode))) L2]) [2, 3, 1, 0] ((by have h := o9 (β := β) S L2 f m t hI.toInv0 d hd name hsz hno (aB S.X 2 mode) rfl (by simp [aB]) rfl (nV h0); rw [sU hL2 (hI.rV hd), mD hL2] at h; exact h)) ?_
  rintro _ _ ⟨rfl, rfl⟩
  refine NS ?_
  refine aj.mem (aP := [.blk f [vI ((addM S d name (aB S.X 2 mode)).X.cN), vI ((addM S d name (aB S.X 2 mode)).X.cB), vI ((addM S d name (aB S.X 2 mode)).X.cH), vI ((addM S d name (aB S.X 2 mode)).X.cS), vI ((addM S d name (aB S.X 2 mode)).X.cZ), .map (some m), vP t, vI ((addM S d name (aB S.X 2 mode)).X.last), vI ((addM S d name (aB S.X 2 mode)).X.ah), vI ((addM S d name (aB S.X 2 mode)).X.used)] 86, .abs (aE Tryz.prog 3 m (aO (aK L2 (addM S d name (aB S.X 2 mode)).idx)) ((addM S d name (aB S.X 2 mode)).idx.length)), .abs (ak (aN ((addM S d name (aB S.X 2 mode)).O) L2)), .abs (ak (bh ((addM S d name (aB S.X 2 mode)).O) L2)), .abs (br 156 t S.X.cH S.av (aK L2 S.us)), .abs (ak (aY ((addM S d name (aB S.X 2 mode)).O) L2)), .abs R]) (fun w hS => by rw [show aY ((addM S d name (aB S.X 2 mode)).O) L2 = aY (ay S.O (aD S.X) (fun _ => (aB S.X 2 mode))) L2 from fI]; exact hS) ?_
  refine gK 2 [(8, vI ((bN S.X S.O S.idx d name)))] [] ?_
  refine NN (af.ret ?_)
  exact RT (vI ((bN S.X S.O S.idx d name))) [0, 1, 4, 2, 5, 3, 6] (⟨L2, by rw [show mkdirM S d name mode = _ from if_pos h0]; refine ⟨congrArg _ h0, ?_⟩; rfl⟩)
 refine af.skip (NX (SR ?_))
 refine gK 2 [(8, vI ((bN S.X S.O S.idx d name)))] [] ?_
 refine NN (af.ret ?_)
 exact RT (vI ((bN S.X S.O S.idx d name))) [0, 1, 4, 3, 5, 2, 6] (⟨L, by rw [show mkdirM S d name mode = _ from if_neg h0] <;> exact ⟨rfl, rfl⟩⟩)
theorem vZ {β : Bs} (S : aG) (L : HL) (f m t : Nat) (hI : Inv S) (d : Nat) (hd : Live S.idx ⟨d, 2⟩) (name : ByteArray) (hsz : name.size ≤ 1048576) (text : ByteArray) (Ku : text.size ≤ 1048576) :
    Spec Tryz.prog β 59 #[vP f, vP (L.b d), .string name, .string text] (pA f m t L S) (fun v l => ∃ L2, v = vI (symlinkM S d name text).1 ∧ l = (pA f m t L2 ((symlinkM S d name text).2))) := by
 have hX := hI.hX
 have hel : (obj S.O d).ah.length ≤ 8192 := hI.eV hd
 have hkd : (obj S.O d).kind = 2 := hI.kind hd
 refine Spec.enter Tryz.func59 rfl Tryz.ntmps59 (Nat.le_of_ble_eq_true rfl) (fun R => ?_)
 refine SR ?_
 refine gK 1 [] [] ?_
 refine NS ?_
 refine gK 1 [(10, .string text)] [] ?_
 refine gL [] (Le text Ku) ?_
 rintro _ _ ⟨rfl, rfl⟩
 refine gK 1 [(9, vI ((kZ text)))] [] ?_
 refine NN (af.seq (SR ?_))
 refine gK 2 [(13, .bool (decide (((kZ text) : Int) = (0 : Int))))] [] ?_
 refine NN ?_
 refine af.bn (p := ((kZ text) : Int) = (0 : Int)) (fun _ => by kernel_rfl) (fun hb => ?_) (fun hb => ?_)
 ·refine af.region ?_
  refine gK 3 [(14, vP f), (15, vP (L.b d)), (16, .string name)] [] ?_
  refine gL [0, 1, 5, 3] (qP S L f m t hI d hd name hsz) ?_
  rintro _ _ ⟨rfl, rfl⟩
  refine gK 1 [(9, vI ((bN S.X S.O S.idx d name)))] [] ?_
  refine NN (af.seq (SR ?_))
  refine gK 2 [(19, .bool (decide (((bN S.X S.O S.idx d name) : Int) = (0 : Int))))] [] ?_
  refine NN ?_
  refine af.bn (p := ((bN S.X S.O S.idx d name) : Int) = (0 : Int)) (fun _ => by kernel_rfl) (fun h0 => ?_) (fun h0 => ?_)
  ·have hno := mE h0
   refine af.region ?_
   refine gK 4 [(20, vP f), (21, vP (L.b d)), (22, .string name), (23, vP f)] [] ?_
   refine gL [0] (qO S.X f m t hX 511) ?_
   rintro _ _ ⟨rfl, rfl⟩
   refine gN 4 (fun b3 => [(28, .iface 93 (vP b3))]) (fun _ => []) (fun _ => []) (fun b3 => .blk b3 [vI (S.X.last + 1), vI (511), vI 0, vI 0, vI (S.X.cS), vI (S.X.cZ), vI 0, vI 0, .bool false, .string text] 95) (fun b3 => ?_)
   obtain ⟨L2, hL2⟩ : ∃ L2 : HL, L2 = L.put (aD S.X) b3 0 none 0 := ⟨_, rfl⟩
   have hfr := hI.toInv0.fresh
   refine aj.mem (aP := [Kt S text L2, yN f m t S, pI m L S.idx, pE S.O L, pT t S.X.cH S.av L S.us, pD S.O L, .abs R]) (fun w hS => hS.qM hL2 hfr (o := { aB S.X 3 511 with target := text }) (i := 3) (j := 7) (ix := [0, 1, 2, 4, 5, 6]) rfl rfl (by kernel_rfl) rfl (by show (3 : Int) ≠ 0; decide) ((ug (L := L2) (k := (aD S.X)) (o := { aB S.X 3 511 with target := text }) rfl).trans (by rfl)) rfl) ?_
   refine aj.mem (aP := [Kt S text L2, yN f m t S, pI m L S.idx, MH S text L2, pT t S.X.cH S.av L S.us, pD S.O L, .abs R]) (fun w hS => hS.rW hL2 hfr (o := { aB S.X 3 511 with target := text }) (i := 3) rfl (by show (3 : Int) ≠ 2; decide)) ?_
   refine aj.mem (aP := [Kt S text L2, yN f m t S, pI m L S.idx, MH S text L2, pT t S.X.cH S.av L S.us, pD (ay S.O (aD S.X) (fun _ => { aB S.X 3 511 with target := text })) L2, .abs R]) (fun w hS => hS.yg hL2 (o := { aB S.X 3 511 with target := text }) (i := 5) rfl (by show (3 : Int) ≠ 1; decide)) ?_
   refine aj.mem (aP := [.abs (ak (aN (ay S.O (aD S.X) (fun _ => { aB S.X 3 511 with target := text })) L2)), .blk f [vI (S.X.cN), vI (S.X.cB), vI (S.X.cH), vI (S.X.cS), vI (S.X.cZ), .map (some m), vP t, vI (S.X.last + 1), vI (S.X.ah), vI (S.X.used)] 86, .abs (aE Tryz.prog 3 m (aO (aK L2 S.idx)) S.idx.length), .abs (ak (bh (ay S.O (aD S.X) (fun _ => { aB S.X 3 511 with target := text })) L2)), .abs (br 156 t S.X.cH S.av (aK L2 S.us)), .abs (ak (aY (ay S.O (aD S.X) (fun _ => { aB S.X 3 511 with target := text })) L2)), .abs R]) (fun w hS => by rw [fk hL2 hfr.idx, fk hL2 hfr.us]; exact hS) ?_
   refine gL (f := 56) (args := #[vP f, vP (L.b d), .string name, .iface 93 (vP b3)]) (pre := [yN f m t S, pI m L2 S.idx, Kt S text L2, MH S text L2]) [1, 2, 0, 3] ((by have h := o9 (β := β) S L2 f m t hI.toInv0 d hd name hsz hno { aB S.X 3 511 with target := text } rfl (by simp [aB]) rfl (nV h0); rw [sU hL2 (hI.rV hd), mD hL2] at h; exact h)) ?_
   rintro _ _ ⟨rfl, rfl⟩
   refine NS ?_
   refine aj.mem (aP := [.blk f [vI ((addM S d name { aB S.X 3 511 with target := text }).X.cN), vI ((addM S d name { aB S.X 3 511 with target := text }).X.cB), vI ((addM S d name { aB S.X 3 511 with target := text }).X.cH), vI ((addM S d name { aB S.X 3 511 with target := text }).X.cS), vI ((addM S d name { aB S.X 3 511 with target := text }).X.cZ), .map (some m), vP t, vI ((addM S d name { aB S.X 3 511 with target := text }).X.last), vI ((addM S d name { aB S.X 3 511 with target := text }).X.ah), vI ((addM S d name { aB S.X 3 511 with target := text }).X.used)] 86, .abs (aE Tryz.prog 3 m (aO (aK L2 (addM S d name { aB S.X 3 511 with target := text }).idx)) ((addM S d name { aB S.X 3 511 with target := text }).idx.length)), .abs (ak (aN ((addM S d name { aB S.X 3 511 with target := text }).O) L2)), .abs (ak (bh ((addM S d name { aB S.X 3 511 with target := text }).O) L2)), .abs (br 156 t S.X.cH S.av (aK L2 S.us)), .abs (ak (aY ((addM S d name { aB S.X 3 511 with target := text }).O) L2)), .abs R]) (fun w hS => by rw [show aY ((addM S d name { aB S.X 3 511 with target := text }).O) L2 = aY (ay S.O (aD S.X) (fun _ => { aB S.X 3 511 with target := text })) L2 from fI]; exact hS) ?_
   refine gK 2 [(8, vI ((bN S.X S.O S.idx d name)))] [] ?_
   refine NN (af.ret ?_)
   exact RT (vI ((bN S.X S.O S.idx d name))) [0, 1, 4, 2, 5, 3, 6] (⟨L2, by rw [show symlinkM S d name text = _ from (if_pos hb).trans (if_pos h0)]; refine ⟨congrArg _ h0, ?_⟩; rfl⟩)
  refine af.skip (NX (SR ?_))
  refine gK 2 [(8, vI ((bN S.X S.O S.idx d name)))] [] ?_
  refine NN (af.ret ?_)
  exact RT (vI ((bN S.X S.O S.idx d name))) [0, 1, 4, 3, 5, 2, 6] (⟨L, by rw [show symlinkM S d name text = _ from (if_pos hb).trans (if_neg h0)] <;> exact ⟨rfl, rfl⟩⟩)
 refine af.skip (NX (af.seq (SR ?_)))
 refine gK 2 [(19, .bool (decide (((kZ text) : Int) = (0 : Int))))] [] ?_
 refine NN ?_
 refine af.bn (p := ((kZ text) : Int) = (0 : Int)) (fun _ => by kernel_rfl) (fun h0 => ?_) (fun h0 => ?_)
 ·exact absurd h0 hb
 refine af.skip (NX (SR ?_))
 refine gK 2 [(8, vI ((kZ text)))] [] ?_
 refine NN (af.ret ?_)
 exact RT (vI ((kZ text))) [0, 1, 2, 3, 4, 5, 6] (⟨L, by rw [show symlinkM S d name text = _ from if_neg hb] <;> exact ⟨rfl, rfl⟩⟩)
theorem yO {β : Bs} (S : aG) (L : HL) (f m t : Nat) (hI : Inv S) (d : Nat) (hd : Live S.idx ⟨d, 2⟩) (name : ByteArray) (hsz : name.size ≤ 1048576) :
    Spec Tryz.prog β 60 #[vP f, vP (L.b d), .string name] (pA f m t L S) (fun v l => ∃ L2, v = vI (unlinkM S d name).1 ∧ l = (pA f m t L2 ((unlinkM S d name).2))) := by
 have hX := hI.hX
 have hel : (obj S.O d).ah.length ≤ 8192 := hI.eV hd
 have hkd : (obj S.O d).kind = 2 := hI.kind hd
 refine Spec.enter Tryz.func60 rfl Tryz.ntmps60 (Nat.le_of_ble_eq_true rfl) (fun R => ?_)
 refine af.seq ?_
 rcases hI.kg hd name with hlk | ⟨tk, hlk, hlv⟩ | ⟨tk, hlk, hlv⟩ | ⟨tk, hlk, hlv⟩
 ·refine af.region ?_
  refine gK 1 [] [] ?_
  refine NN (af.seq (SR ?_))
  refine gK 5 [(10, .map (some (L.m d))), (11, .string name)] [(3, v_ 3 (bA L hkd))] ?_
  refine fQ 5 hkd hlk ?_
  refine NN (af.block (SR ?_))
  refine gK 1 [(13, .bool true)] [] ?_
  refine NN ?_
  refine CT ?_
  refine SR ?_
  refine gK 1 [(6, vI 170)] [] ?_
  refine NN (af.ret (ai.aF (ai.aq ?_)))
  exact RT (vI 170) [0, 1, 2, 3, 4, 5, 6] (⟨L, by rw [show unlinkM S d name = (170, S) by unfold unlinkM; rw [hlk]] <;> exact ⟨rfl, rfl⟩⟩)
 ·have hkt : (obj S.O tk).kind = 1 := hI.kind hlv
  refine af.region ?_
  refine gK 1 [] [] ?_
  refine NN (af.seq (SR ?_))
  refine gK 5 [(10, .map (some (L.m d))), (11, .string name)] [(3, v_ 3 (bA L hkd))] ?_
  refine fQ 5 hkd hlk ?_
  refine NN (af.block (SR ?_))
  refine gK 1 [(13, .bool false)] [] ?_
  refine NN ?_
  refine CF ?_
  refine SR ?_
  refine gK 3 [(15, .bool false)] [] ?_
  refine NN ?_
  refine CF ?_
  refine af.skip (ai.aL (NX (SR ?_)))
  refine gK 3 [(17, vP f), (18, vP (L.b d)), (19, .string name)] [] ?_
  refine gL [0, 3, 5, 1] (lW S L f m t hI d hd name hsz ⟨tk, 1⟩ hlk) ?_
  rintro _ _ ⟨rfl, rfl⟩
  refine NS ?_
  refine aj.mem (aP := [.blk f [vI ((dropM S d name ⟨tk, 1⟩).X.cN), vI ((dropM S d name ⟨tk, 1⟩).X.cB), vI ((dropM S d name ⟨tk, 1⟩).X.cH), vI ((dropM S d name ⟨tk, 1⟩).X.cS), vI ((dropM S d name ⟨tk, 1⟩).X.cZ), .map (some m), vP t, vI ((dropM S d name ⟨tk, 1⟩).X.last), vI ((dropM S d name ⟨tk, 1⟩).X.ah), vI ((dropM S d name ⟨tk, 1⟩).X.used)] 86, .abs (ak (aN ((dropM S d name ⟨tk, 1⟩).O) L)), .abs (ak (bh ((dropM S d name ⟨tk, 1⟩).O) L)), .abs (aE Tryz.prog 3 m (aO (aK L ((dropM S d name ⟨tk, 1⟩).idx))) (((dropM S d name ⟨tk, 1⟩).idx).length)), .abs (br 156 t S.X.cH S.av (aK L S.us)), .abs (ak (aY ((dropM S d name ⟨tk, 1⟩).O) L)), .abs R]) (fun w hS => by rw [show aY ((dropM S d name ⟨tk, 1⟩).O) L = aY S.O L from lV]; exact hS) ?_
  refine gK 1 [(6, vI 0)] [] ?_
  refine NN (af.ret ?_)
  exact RT (vI 0) [0, 3, 4, 1, 5, 2, 6] (⟨L, by rw [show unlinkM S d name = (0, dropM S d name ⟨tk, 1⟩) by unfold unlinkM; rw [hlk]; exact if_neg (by simp)] <;> exact ⟨rfl, rfl⟩⟩)
 ·have hkt : (obj S.O tk).kind = 2 := hI.kind hlv
  refine af.region ?_
  refine gK 1 [] [] ?_
  refine NN (af.seq (SR ?_))
  refine gK 5 [(10, .map (some (L.m d))), (11, .string name)] [(3, v_ 3 (bA L hkd))] ?_
  refine fQ 5 hkd hlk ?_
  refine NN (af.block (SR ?_))
  refine gK 1 [(13, .bool false)] [] ?_
  refine NN ?_
  refine CF ?_
  refine SR ?_
  refine gK 3 [(15, .bool true)] [] ?_
  refine NN ?_
  refine CT ?_
  refine SR ?_
  refine gK 1 [(6, vI 172)] [] ?_
  refine NN (af.ret (ai.aF (ai.aq ?_)))
  exact RT (vI 172) [0, 1, 2, 3, 4, 5, 6] (⟨L, by rw [show unlinkM S d name = (172, S) by unfold unlinkM; rw [hlk]; exact if_pos rfl] <;> exact ⟨rfl, rfl⟩⟩)
 have hkt : (obj S.O tk).kind = 3 := hI.kind hlv
 refine af.region ?_
 refine gK 1 [] [] ?_
 refine NN (af.seq (SR ?_))
 refine gK 5 [(10, .map (some (L.m d))), (11, .string name)] [(3, v_ 3 (bA L hkd))] ?_
 refine fQ 5 hkd hlk ?_
 refine NN (af.block (SR ?_))
 refine gK 1 [(13, .bool false)] [] ?_
 refine NN ?_
 refine CF ?_
 refine SR ?_
 refine gK 3 [(15, .bool false)] [] ?_
 refine NN ?_
 refine CF ?_
 refine af.skip (ai.aL (NX (SR ?_)))
 refine gK 3 [(17, vP f), (18, vP (L.b d)), (19, .string name)] [] ?_
 refine gL [0, 3, 5, 1] (lW S L f m t hI d hd name hsz ⟨tk, 3⟩ hlk) ?_
 rintro _ _ ⟨rfl, rfl⟩
 refine NS ?_
 refine aj.mem (aP := [.blk f [vI ((dropM S d name ⟨tk, 3⟩).X.cN), vI ((dropM S d name ⟨tk, 3⟩).X.cB), vI ((dropM S d name ⟨tk, 3⟩).X.cH), vI ((dropM S d name ⟨tk, 3⟩).X.cS), vI ((dropM S d name ⟨tk, 3⟩).X.cZ), .map (some m), vP t, vI ((dropM S d name ⟨tk, 3⟩).X.last), vI ((dropM S d name ⟨tk, 3⟩).X.ah), vI ((dropM S d name ⟨tk, 3⟩).X.used)] 86, .abs (ak (aN ((dropM S d name ⟨tk, 3⟩).O) L)), .abs (ak (bh ((dropM S d name ⟨tk, 3⟩).O) L)), .abs (aE Tryz.prog 3 m (aO (aK L ((dropM S d name ⟨tk, 3⟩).idx))) (((dropM S d name ⟨tk, 3⟩).idx).length)), .abs (br 156 t S.X.cH S.av (aK L S.us)), .abs (ak (aY ((dropM S d name ⟨tk, 3⟩).O) L)), .abs R]) (fun w hS => by rw [show aY ((dropM S d name ⟨tk, 3⟩).O) L = aY S.O L from lV]; exact hS) ?_
 refine gK 1 [(6, vI 0)] [] ?_
 refine NN (af.ret ?_)
 exact RT (vI 0) [0, 3, 4, 1, 5, 2, 6] (⟨L, by rw [show unlinkM S d name = (0, dropM S d name ⟨tk, 3⟩) by unfold unlinkM; rw [hlk]; exact if_neg (by simp)] <;> exact ⟨rfl, rfl⟩⟩)
theorem AY {β : Bs} (S : aG) (L : HL) (f m t : Nat) (hI : Inv S) (d : Nat) (hd : Live S.idx ⟨d, 2⟩) (name : ByteArray) (hsz : name.size ≤ 1048576) :
    Spec Tryz.prog β 61 #[vP f, vP (L.b d), .string name] (pA f m t L S) (fun v l => ∃ L2, v = vI (rmdirM S d name).1 ∧ l = (pA f m t L2 ((rmdirM S d name).2))) := by
 have hX := hI.hX
 have hel : (obj S.O d).ah.length ≤ 8192 := hI.eV hd
 have hkd : (obj S.O d).kind = 2 := hI.kind hd
 refine Spec.enter Tryz.func61 rfl Tryz.ntmps61 (Nat.le_of_ble_eq_true rfl) (fun R => ?_)
 refine af.seq ?_
 rcases hI.kg hd name with hlk | ⟨tk, hlk, hlv⟩ | ⟨tk, hlk, hlv⟩ | ⟨tk, hlk, hlv⟩
 ·refine af.region ?_
  refine gK 1 [] [] ?_
  refine NS ?_
  refine gK 5 [(13, .map (some (L.m d))), (14, .string name)] [(3, v_ 3 (bA L hkd))] ?_
  refine fQ 5 hkd hlk ?_
  refine gK 1 [(7, .nilIface)] [] ?_
  refine NN (af.seq (SR ?_))
  refine gK 2 [(17, .bool true)] [] ?_
  refine NN ?_
  refine CT ?_
  refine SR ?_
  refine gK 1 [(6, vI 170)] [] ?_
  refine NN (af.ret (ai.aq ?_))
  exact RT (vI 170) [0, 1, 2, 3, 4, 5, 6] (⟨L, by skip; rw [show rmdirM S d name = (170, S) by unfold rmdirM; rw [hlk]] <;> exact ⟨rfl, rfl⟩⟩)
 ·have hkt : (obj S.O tk).kind = 1 := hI.kind hlv
  refine af.region ?_
  refine gK 1 [] [] ?_
  refine NS ?_
  refine gK 5 [(13, .map (some (L.m d))), (14, .string name)] [(3, v_ 3 (bA L hkd))] ?_
  refine fQ 5 hkd hlk ?_
  refine gK 1 [(7, .iface 89 (vP (L.b tk)))] [] ?_
  refine NN (af.seq (SR ?_))
  refine gK 2 [(17, .bool false)] [] ?_
  refine NN ?_
  refine CF ?_
  refine af.skip (NX (SR ?_))
  refine gK 7 [(8, .pointer none), (9, .bool false)] [] ?_
  refine NN (af.seq (SR ?_))
  refine gK 2 [(24, .bool true)] [] ?_
  refine NN ?_
  refine CT ?_
  refine SR ?_
  refine gK 1 [(6, vI 173)] [] ?_
  refine NN (af.ret (ai.aq ?_))
  exact RT (vI 173) [0, 1, 2, 3, 4, 5, 6] (⟨L, by skip; rw [show rmdirM S d name = (173, S) by unfold rmdirM; rw [hlk]; exact if_neg (by simp)] <;> exact ⟨rfl, rfl⟩⟩)
 ·have hkt : (obj S.O tk).kind = 2 := hI.kind hlv
  have Rw : (obj S.O tk).ah.length ≤ 8192 := hI.eV hlv
  refine af.region ?_
  refine gK 1 [] [] ?_
  refine NS ?_
  refine gK 5 [(13, .map (some (L.m d))), (14, .string name)] [(3, v_ 3 (bA L hkd))] ?_
  refine fQ 5 hkd hlk ?_
  refine gK 1 [(7, .iface 96 (vP (L.b tk)))] [] ?_
  refine NN (af.seq (SR ?_))
  refine gK 2 [(17, .bool false)] [] ?_
  refine NN ?_
  refine CF ?_
  refine af.skip (NX (SR ?_))
  refine gK 7 [(8, vP (L.b tk)), (9, .bool true)] [] ?_
  refine NN (af.seq (SR ?_))
  refine gK 2 [(24, .bool false)] [] ?_
  refine NN ?_
  refine CF ?_
  refine af.skip (NX (af.seq (SR ?_)))
  refine gK 4 [(28, .map (some (L.m tk)))] [(3, v_ 3 (bA L hkt))] ?_
  refine Qv 5 hkt ?_
  refine gK 1 [(30, .bool (decide (((((obj S.O tk).ah.length : Nat) : Int) : Int) > (0 : Int))))] [] ?_
  refine NN ?_
  refine af.bn (p := ((((obj S.O tk).ah.length : Nat) : Int) : Int) > (0 : Int)) (fun _ => by kernel_rfl) (fun kE => ?_) (fun kE => ?_)
  ·refine SR ?_
   refine gK 1 [(6, vI 178)] [] ?_
   refine NN (af.ret (ai.aq ?_))
   exact RT (vI 178) [0, 1, 2, 3, 4, 5, 6] (⟨L, by skip; rw [show rmdirM S d name = (178, S) by unfold rmdirM; rw [hlk]; exact (if_pos rfl).trans (if_neg (fun e => by rw [show (obj S.O tk).ah = [] from e] at kE; simp at kE))] <;> exact ⟨rfl, rfl⟩⟩)
  refine af.skip (NX (SR ?_))
  refine gK 3 [(31, vP f), (32, vP (L.b d)), (33, .string name)] [] ?_
  refine gL [0, 3, 5, 1] (lW S L f m t hI d hd name hsz ⟨tk, 2⟩ hlk) ?_
  rintro _ _ ⟨rfl, rfl⟩
  refine NS ?_
  refine aj.mem (aP := [.blk f [vI ((dropM S d name ⟨tk, 2⟩).X.cN), vI ((dropM S d name ⟨tk, 2⟩).X.cB), vI ((dropM S d name ⟨tk, 2⟩).X.cH), vI ((dropM S d name ⟨tk, 2⟩).X.cS), vI ((dropM S d name ⟨tk, 2⟩).X.cZ), .map (some m), vP t, vI ((dropM S d name ⟨tk, 2⟩).X.last), vI ((dropM S d name ⟨tk, 2⟩).X.ah), vI ((dropM S d name ⟨tk, 2⟩).X.used)] 86, .abs (ak (aN ((dropM S d name ⟨tk, 2⟩).O) L)), .abs (ak (bh ((dropM S d name ⟨tk, 2⟩).O) L)), .abs (aE Tryz.prog 3 m (aO (aK L ((dropM S d name ⟨tk, 2⟩).idx))) (((dropM S d name ⟨tk, 2⟩).idx).length)), .abs (br 156 t S.X.cH S.av (aK L S.us)), .abs (ak (aY ((dropM S d name ⟨tk, 2⟩).O) L)), .abs R]) (fun w hS => by rw [show aY ((dropM S d name ⟨tk, 2⟩).O) L = aY S.O L from lV]; exact hS) ?_
  have uE : (obj (dropM S d name ⟨tk, 2⟩).O d).kind = 2 := (ye).trans (hkd)
  have uF : (obj (dropM S d name ⟨tk, 2⟩).O tk).kind = 2 := (ye).trans (hkt)
  generalize bO : (dropM S d name ⟨tk, 2⟩).O = bJ at uE uF ⊢
  refine gK 3 [(37, .pointer (some ⟨(L.b tk), 10, none⟩))] [] ?_
  refine OO 1 [(2, 1), (5, 2)] tk (none) uF (fun cY cA => ?_)
  have Jr := ku cA uE
  have Fl := ku cA uF
  refine NS ?_
  refine gK 1 [(6, vI 0)] [] ?_
  refine NN (af.ret ?_)
  exact RT (l := [pF f m t ((dropM S d name ⟨tk, 2⟩).X), pI m L ((dropM S d name ⟨tk, 2⟩).idx), pT t S.X.cH S.av L S.us, pO cY L, pD cY L, pE cY L]) (.int .i64 0) [0, 3, 4, 1, 5, 2, 6] (⟨L, by subst cA; subst bO; rw [show rmdirM S d name = (0, { dropM S d name ⟨tk, 2⟩ with O := orphan (dropM S d name ⟨tk, 2⟩).O tk }) by unfold rmdirM; rw [hlk]; exact (if_pos rfl).trans (if_pos (List.eq_nil_of_length_eq_zero (by show (obj S.O tk).ah.length = 0; omega)))] <;> exact ⟨rfl, rfl⟩⟩)
 have hkt : (obj S.O tk).kind = 3 := hI.kind hlv
 refine af.region ?_
 refine gK 1 [] [] ?_
 refine NS ?_
 refine gK 5 [(13, .map (some (L.m d))), (14, .string name)] [(3, v_ 3 (bA L hkd))] ?_
 refine fQ 5 hkd hlk ?_
 refine gK 1 [(7, .iface 93 (vP (L.b tk)))] [] ?_
 refine NN (af.seq (SR ?_))
 refine gK 2 [(17, .bool false)] [] ?_
 refine NN ?_
 refine CF ?_
 refine af.skip (NX (SR ?_))
 refine gK 7 [(8, .pointer none), (9, .bool false)] [] ?_
 refine NN (af.seq (SR ?_))
 refine gK 2 [(24, .bool true)] [] ?_
 refine NN ?_
 refine CT ?_
 refine SR ?_
 refine gK 1 [(6, vI 173)] [] ?_
 refine NN (af.ret (ai.aq ?_))
 exact RT (vI 173) [0, 1, 2, 3, 4, 5, 6] (⟨L, by skip; rw [show rmdirM S d name = (173, S) by unfold rmdirM; rw [hlk]; exact if_neg (by simp)] <;> exact ⟨rfl, rfl⟩⟩)
end
section
open Go.RowKit Go.Maps HeapM TabM
attribute [local irreducible] aj aR af ai
abbrev CU (f : Nat) (L : HL) (d : Nat) (name) := ([(61, vP f), (62, vP (L.b d)), (63, .string name)] : Fr)
abbrev CV (f : Nat) (L : HL) (to : Nat) (toName) := ([(65, vP f), (66, vP (L.b to)), (67, .string toName)] : Fr)
abbrev Kv (f : Nat) (L : HL) (d : Nat) (name) (to : Nat) (toName) := ([(0, vP f), (1, vP (L.b d)), (2, .string name), (3, vP (L.b to)), (4, .string toName)] : Fr)
abbrev tJ (L : HL) (to : Nat) (toName) := ([(45, .map (some (L.m to))), (46, .string toName)] : Fr)
abbrev Kw (f : Nat) (L : HL) (to : Nat) (toName) := ([(57, vP f), (58, vP (L.b to)), (59, .string toName)] : Fr)
abbrev Kx (L : HL) (to : Nat) := ([(12, .pointer none), (13, .bool false), (14, vP (L.b to))] : Fr)
theorem yP {β : Bs} (S : aG) (L : HL) (f m t : Nat) (hI : Inv S) (d : Nat) (hd : Live S.idx ⟨d, 2⟩) (name : ByteArray) (hsz : name.size ≤ 1048576) (to : Nat) (hto : Live S.idx ⟨to, 2⟩) (toName : ByteArray) (mX : toName.size ≤ 1048576) :
    Spec Tryz.prog β 62 #[vP f, vP (L.b d), .string name, vP (L.b to), .string toName] (pA f m t L S) (fun v l => ∃ L2, v = vI (renameM S d name to toName).1 ∧ l = (pA f m t L2 ((renameM S d name to toName).2))) := by
 have hX := hI.hX
 have hel : (obj S.O d).ah.length ≤ 8192 := hI.eV hd
 have hkd : (obj S.O d).kind = 2 := hI.kind hd
 have dh : (obj S.O to).kind = 2 := hI.kind hto
 have Rj : (obj S.O to).ah.length ≤ 8192 := hI.eV hto
 refine Spec.enter Tryz.func62 rfl Tryz.ntmps62 (Nat.le_of_ble_eq_true rfl) (fun R => ?_)
 refine af.seq ?_
 rcases hI.kg hd name with hlk | ⟨tk, hlk, hlv⟩ | ⟨tk, hlk, hlv⟩ | ⟨tk, hlk, hlv⟩
 ·refine af.region ?_
  refine gK 1 [] [] ?_
  refine NS ?_
  refine gK 5 [(19, .map (some (L.m d))), (20, .string name)] [(3, v_ 3 (bA L hkd))] ?_
  refine fQ 5 hkd hlk ?_
  refine gK 1 [(11, .nilIface)] [] ?_
  refine NN (af.seq (SR ?_))
  refine gK 2 [(23, .bool true)] [] ?_
  refine NN ?_
  refine CT ?_
  refine SR ?_
  refine gK 1 [(10, vI 170)] [] ?_
  refine NN (af.ret (ai.aq ?_))
  exact RT (vI 170) [0, 1, 2, 3, 4, 5, 6] (⟨L, by rw [show renameM S d name to toName = (170, S) by unfold renameM; rw [hlk]] <;> exact ⟨rfl, rfl⟩⟩)
 ·have hkt : (obj S.O tk).kind = 1 := hI.kind hlv
  refine af.region ?_
  refine gK 1 [] [] ?_
  refine NS ?_
  refine gK 5 [(19, .map (some (L.m d))), (20, .string name)] [(3, v_ 3 (bA L hkd))] ?_
  refine fQ 5 hkd hlk ?_
  refine gK 1 [(11, .iface 89 (vP (L.b tk)))] [] ?_
  refine NN (af.seq (SR ?_))
  refine gK 2 [(23, .bool false)] [] ?_
  refine NN ?_
  refine CF ?_
  refine af.skip (NX (SR ?_))
  refine gK 7 [(12, .pointer none), (13, .bool false)] [] ?_
  refine NN (af.seq (SR ?_))
  refine gK 2 [(14, vP (L.b to))] [] ?_
  refine NN (af.block ?_)
  refine af.loop (ι := Unit) (fun (u : Unit) => True) (fun (u : Unit) => 0) (fun (u : Unit) => (Kv f L d name to toName ++ [(11, .iface 89 (vP (L.b tk)))] ++ Kx L to)) (fun (u : Unit) => ((pA f m t L S) ++ [.abs R])) () (idx := [0, 1, 2, 3, 4, 11, 12, 13, 14]) (pk := [0, 1, 2, 3, 4, 5, 6]) (show True from trivial) (fun _ => by kernel_rfl) rfl (by kernel_rfl) ?_
  rintro u _
  show af _ _ _ _ (Kv f L d name to toName ++ [(11, .iface 89 (vP (L.b tk)))] ++ Kx L to) ((pA f m t L S) ++ [.abs R]) _
  refine af.seq (SR ?_)
  refine gK 5 [(34, .bool false)] [] ?_
  refine NN ?_
  refine CF ?_
  refine af.exit (ai.aT (ai.aT (ai.bX (NX (af.seq ?_)))))
  skip
  rcases hI.kg hto toName with bg | ⟨ok, bg, dw⟩ | ⟨ok, bg, dw⟩ | ⟨ok, bg, dw⟩
  ·refine af.region ?_
   refine gK 5 (tJ L to toName) [(3, v_ 3 (bA L dh))] ?_
   refine fQ 5 dh bg ?_
   refine gK 1 [(15, .nilIface)] [] ?_
   refine NN (af.seq (SR ?_))
   refine gK 3 [(50, .bool false)] [] ?_
   refine NN ?_
   refine CF ?_
   refine af.skip (NX (af.seq (SR ?_)))
   refine gK 2 [(52, .bool false)] [] ?_
   refine NN ?_
   refine CF ?_
   refine af.skip (NX (SR ?_))
   have bU : Inv S := hI
   have hd1 := hd
   have dK := hlk
   have nN := bg
   have iP := hto
   have iQ : (obj S.O d).kind = 2 := bU.kind hd1
   have nO : (obj S.O to).kind = 2 := bU.kind iP
   have jB : Live S.idx ⟨tk, 1⟩ := (bU.ent hd1 dK).2
   have jC : (obj S.O tk).kind = 1 := bU.kind jB
   have zO : (obj S.O d).ah.length ≤ 8192 := bU.eV hd1
   have zP : (obj S.O to).ah.length ≤ 8192 := bU.eV iP
   have nP := bU.lb jB
   have jD : tk ≠ d := bU.ne hd1 dK
   refine gK 3 (CU f L d name) [] ?_
   refine gL [0, 3, 5] (iB S.X f m t bU.hX S.O L d iQ name hsz ⟨tk, 1⟩ jC (by simp) dK (bU.twice hd1) (by omega) (by simp only at nP ⊢; omega)) ?_
   rintro _ _ ⟨rfl, rfl⟩
   refine NS ?_
   refine gK 4 (CV f L to toName ++ [(68, .iface 89 (vP (L.b tk)))]) [] ?_
   refine gL [0, 1, 2] (fV { S.X with ah := S.X.ah - 1 } f m t (bU.vV hd1 dK) (aJ S.X S.O d name ⟨tk, 1⟩) L to (bY.trans nO) toName mX (ja jD nN) (Nat.le_trans (kB jD) (by omega)) ⟨tk, 1⟩ (bY.trans jC) (by simp) (jj bU.toInv0 hd1 dK)) ?_
   rintro _ _ ⟨rfl, rfl⟩
   refine NS ?_
   refine aj.mem (aP := [.blk f [vI (S.X.cN), vI (S.X.cB), vI (S.X.cH), vI (S.X.cS), vI (S.X.cZ), .map (some m), vP t, vI (S.X.last), vI (S.X.ah - 1 + 1), vI (S.X.used)] 86, .abs (ak (aN (bq S.X (aJ S.X S.O d name ⟨tk, 1⟩) to toName ⟨tk, 1⟩) L)), .abs (ak (bh (bq S.X (aJ S.X S.O d name ⟨tk, 1⟩) to toName ⟨tk, 1⟩) L)), .abs (aE Tryz.prog 3 m (aO (aK L S.idx)) S.idx.length), .abs (br 156 t S.X.cH S.av (aK L S.us)), .abs (ak (aY (bq S.X (aJ S.X S.O d name ⟨tk, 1⟩) to toName ⟨tk, 1⟩) L)), .abs R]) (fun w hS => by rw [show aY (bq S.X (aJ S.X S.O d name ⟨tk, 1⟩) to toName ⟨tk, 1⟩) L = aY S.O L from fI.trans iZ]; exact hS) ?_
   refine gK 1 [(10, vI 0)] [] ?_
   refine NN (af.ret ?_)
   exact RT (vI 0) [0, 3, 4, 1, 5, 2, 6] (⟨L, by rw [show renameM S d name to toName = (0, moveM S d name to toName ⟨tk, 1⟩) by unfold renameM; rw [hlk]; refine (if_neg (fun h => absurd h.1 (by simp))).trans ?_; rw [bg]] <;> exact ⟨rfl, rfl⟩⟩)
  ·have jE : (obj S.O ok).kind = 1 := hI.kind dw
   refine af.region ?_
   refine gK 5 (tJ L to toName) [(3, v_ 3 (bA L dh))] ?_
   refine fQ 5 dh bg ?_
   refine gK 1 [(15, .iface 89 (vP (L.b ok)))] [] ?_
   refine NN (af.seq (SR ?_))
   refine gK 2 [(48, .iface 89 (vP (L.b ok))), (49, .iface 89 (vP (L.b tk)))] [] ?_
   refine aj.ic (d := (some 50)) (op := .binOp .eql 84 (.tmp 48) (.tmp 49) 84) (v := .bool (decide (ok = tk))) (fun _ => by kernel_rfl) (fun o junk w ho hS => by obtain ⟨F, hF⟩ := hS.get (i := 3) rfl; exact ⟨w, wS Mg ho (by kernel_rfl) (by kernel_rfl) (by rw [jE]; decide) (by rw [hkt]; decide) hF, hS⟩) ?_
   refine NN ?_
   refine af.bn (p := ok = tk) (fun _ => by kernel_rfl) (fun h50 => ?_) (fun h50 => ?_)
   ·refine SR ?_
    refine gK 1 [(10, vI 0)] [] ?_
    refine NN (af.ret (ai.aq ?_))
    exact RT (vI 0) [0, 1, 2, 3, 4, 5, 6] (⟨L, by rw [show renameM S d name to toName = (0, S) by unfold renameM; rw [hlk]; refine (if_neg (fun h => absurd h.1 (by simp))).trans ?_; rw [bg]; exact if_pos (by rw [h50])] <;> exact ⟨rfl, rfl⟩⟩)
   refine af.skip (NX (af.seq (SR ?_)))
   refine gK 2 [(52, .bool true)] [] ?_
   refine NN ?_
   refine CT ?_
   refine af.seq (SR ?_)
   refine gK 1 [(53, .iface 89 (vP (L.b ok)))] [] ?_
   refine gL [] (jT (vP (L.b ok))) ?_
   rintro _ _ ⟨rfl, rfl⟩
   refine gK 1 [(55, .bool false)] [] ?_
   refine NN ?_
   refine CF ?_
   refine af.skip (NX (af.seq (SR ?_)))
   refine gK 1 [(56, .bool false)] [] ?_
   refine NN ?_
   refine CF ?_
   refine af.skip (NX (af.region ?_))
   refine gK 3 (Kw f L to toName) [] ?_
   refine gL [0, 3, 5, 1] (lW S L f m t hI to hto toName mX ⟨ok, 1⟩ bg) ?_
   rintro _ _ ⟨rfl, rfl⟩
   refine NS ?_
   have bU : Inv (dropM S to toName ⟨ok, 1⟩) := hI.vB hto bg (by simp)
   have hot : (⟨ok, 1⟩ : Th) ≠ ⟨tk, 1⟩ := fun e => h50 (congrArg Th.k e)
   have hd1 : Live (dropM S to toName ⟨ok, 1⟩).idx ⟨d, 2⟩ := iA hI.toInv0 hto bg hd (fun e => by have := eZ hd dw e; cases this)
   have iP : Live (dropM S to toName ⟨ok, 1⟩).idx ⟨to, 2⟩ := iA hI.toInv0 hto bg hto (fun e => by have := eZ hto dw e; cases this)
   have dK : aQ name (obj (dropM S to toName ⟨ok, 1⟩).O d).ah = some ⟨tk, 1⟩ := ou hI.toInv0 hto bg hlk hot
   have nN : aQ toName (obj (dropM S to toName ⟨ok, 1⟩).O to).ah = none := ox hI.toInv0 hto bg
   have iQ : (obj (dropM S to toName ⟨ok, 1⟩).O d).kind = 2 := bU.kind hd1
   have nO : (obj (dropM S to toName ⟨ok, 1⟩).O to).kind = 2 := bU.kind iP
   have jB : Live (dropM S to toName ⟨ok, 1⟩).idx ⟨tk, 1⟩ := (bU.ent hd1 dK).2
   have jC : (obj (dropM S to toName ⟨ok, 1⟩).O tk).kind = 1 := bU.kind jB
   have zO : (obj (dropM S to toName ⟨ok, 1⟩).O d).ah.length ≤ 8192 := bU.eV hd1
   have zP : (obj (dropM S to toName ⟨ok, 1⟩).O to).ah.length ≤ 8192 := bU.eV iP
   have nP := bU.lb jB
   have jD : tk ≠ d := bU.ne hd1 dK
   refine gK 3 (CU f L d name) [] ?_
   refine gL [0, 1, 2] (iB (dropM S to toName ⟨ok, 1⟩).X f m t bU.hX (dropM S to toName ⟨ok, 1⟩).O L d iQ name hsz ⟨tk, 1⟩ jC (by simp) dK (bU.twice hd1) (by omega) (by simp only at nP ⊢; omega)) ?_
   rintro _ _ ⟨rfl, rfl⟩
   refine NS ?_
   refine gK 4 (CV f L to toName ++ [(68, .iface 89 (vP (L.b tk)))]) [] ?_
   refine gL [0, 1, 2] (fV { (dropM S to toName ⟨ok, 1⟩).X with ah := (dropM S to toName ⟨ok, 1⟩).X.ah - 1 } f m t (bU.vV hd1 dK) (aJ (dropM S to toName ⟨ok, 1⟩).X (dropM S to toName ⟨ok, 1⟩).O d name ⟨tk, 1⟩) L to (bY.trans nO) toName mX (ja jD nN) (Nat.le_trans (kB jD) (by omega)) ⟨tk, 1⟩ (bY.trans jC) (by simp) (jj bU.toInv0 hd1 dK)) ?_
   rintro _ _ ⟨rfl, rfl⟩
   refine NS ?_
   refine aj.mem (aP := [.blk f [vI ((dropM S to toName ⟨ok, 1⟩).X.cN), vI ((dropM S to toName ⟨ok, 1⟩).X.cB), vI ((dropM S to toName ⟨ok, 1⟩).X.cH), vI ((dropM S to toName ⟨ok, 1⟩).X.cS), vI ((dropM S to toName ⟨ok, 1⟩).X.cZ), .map (some m), vP t, vI ((dropM S to toName ⟨ok, 1⟩).X.last), vI ((dropM S to toName ⟨ok, 1⟩).X.ah - 1 + 1), vI ((dropM S to toName ⟨ok, 1⟩).X.used)] 86, .abs (ak (aN (bq (dropM S to toName ⟨ok, 1⟩).X (aJ (dropM S to toName ⟨ok, 1⟩).X (dropM S to toName ⟨ok, 1⟩).O d name ⟨tk, 1⟩) to toName ⟨tk, 1⟩) L)), .abs (ak (bh (bq (dropM S to toName ⟨ok, 1⟩).X (aJ (dropM S to toName ⟨ok, 1⟩).X (dropM S to toName ⟨ok, 1⟩).O d name ⟨tk, 1⟩) to toName ⟨tk, 1⟩) L)), .abs (aE Tryz.prog 3 m (aO (aK L ((dropM S to toName ⟨ok, 1⟩).idx))) (((dropM S to toName ⟨ok, 1⟩).idx).length)), .abs (br 156 t S.X.cH S.av (aK L S.us)), .abs (ak (aY (bq (dropM S to toName ⟨ok, 1⟩).X (aJ (dropM S to toName ⟨ok, 1⟩).X (dropM S to toName ⟨ok, 1⟩).O d name ⟨tk, 1⟩) to toName ⟨tk, 1⟩) L)), .abs R]) (fun w hS => by rw [show aY (bq (dropM S to toName ⟨ok, 1⟩).X (aJ (dropM S to toName ⟨ok, 1⟩).X (dropM S to toName ⟨ok, 1⟩).O d name ⟨tk, 1⟩) to toName ⟨tk, 1⟩) L = aY S.O L from fI.trans (iZ.trans lV)]; exact hS) ?_
   refine gK 1 [(10, vI 0)] [] ?_
   refine NN (af.ret ?_)
   exact RT (vI 0) [0, 3, 4, 1, 5, 2, 6] (⟨L, by rw [show renameM S d name to toName = (0, moveM (dropM S to toName ⟨ok, 1⟩) d name to toName ⟨tk, 1⟩) by unfold renameM; rw [hlk]; refine (if_neg (fun h => absurd h.1 (by simp))).trans ?_; rw [bg]; exact (if_neg (fun e => h50 (congrArg Th.k e))).trans ((if_neg (by simp)).trans (if_neg (by simp)))] <;> exact ⟨rfl, rfl⟩⟩)
  ·have jE : (obj S.O ok).kind = 2 := hI.kind dw
   refine af.region ?_
   refine gK 5 (tJ L to toName) [(3, v_ 3 (bA L dh))] ?_
   refine fQ 5 dh bg ?_
   refine gK 1 [(15, .iface 96 (vP (L.b ok)))] [] ?_
   refine NN (af.seq (SR ?_))
   refine gK 3 [(50, .bool false)] [] ?_
   refine NN ?_
   refine CF ?_
   refine af.skip (NX (af.seq (SR ?_)))
   refine gK 2 [(52, .bool true)] [] ?_
   refine NN ?_
   refine CT ?_
   refine af.seq (SR ?_)
   refine gK 1 [(53, .iface 96 (vP (L.b ok)))] [] ?_
   refine gL [] (jU (vP (L.b ok))) ?_
   rintro _ _ ⟨rfl, rfl⟩
   refine gK 1 [(55, .bool true)] [] ?_
   refine NN ?_
   refine CT ?_
   refine SR ?_
   refine gK 1 [(10, vI 172)] [] ?_
   refine NN (af.ret (ai.aq (ai.aq ?_)))
   exact RT (vI 172) [0, 1, 2, 3, 4, 5, 6] (⟨L, by rw [show renameM S d name to toName = (172, S) by unfold renameM; rw [hlk]; refine (if_neg (fun h => absurd h.1 (by simp))).trans ?_; rw [bg]; exact (if_neg (fun e => by cases e)).trans (if_pos rfl)] <;> exact ⟨rfl, rfl⟩⟩)
  have jE : (obj S.O ok).kind = 3 := hI.kind dw
  refine af.region ?_
  refine gK 5 (tJ L to toName) [(3, v_ 3 (bA L dh))] ?_
  refine fQ 5 dh bg ?_
  refine gK 1 [(15, .iface 93 (vP (L.b ok)))] [] ?_
  refine NN (af.seq (SR ?_))
  refine gK 3 [(50, .bool false)] [] ?_
  refine NN ?_
  refine CF ?_
  refine af.skip (NX (af.seq (SR ?_)))
  refine gK 2 [(52, .bool true)] [] ?_
  refine NN ?_
  refine CT ?_
  refine af.seq (SR ?_)
  refine gK 1 [(53, .iface 93 (vP (L.b ok)))] [] ?_
  refine gL [] (kC (vP (L.b ok))) ?_
  rintro _ _ ⟨rfl, rfl⟩
  refine gK 1 [(55, .bool false)] [] ?_
  refine NN ?_
  refine CF ?_
  refine af.skip (NX (af.seq (SR ?_)))
  refine gK 1 [(56, .bool false)] [] ?_
  refine NN ?_
  refine CF ?_
  refine af.skip (NX (af.region ?_))
  refine gK 3 (Kw f L to toName) [] ?_
  refine gL [0, 3, 5, 1] (lW S L f m t hI to hto toName mX ⟨ok, 3⟩ bg) ?_
  rintro _ _ ⟨rfl, rfl⟩
  refine NS ?_
  have bU : Inv (dropM S to toName ⟨ok, 3⟩) := hI.vB hto bg (by simp)
  have hot : (⟨ok, 3⟩ : Th) ≠ ⟨tk, 1⟩ := fun e => by cases e
  have hd1 : Live (dropM S to toName ⟨ok, 3⟩).idx ⟨d, 2⟩ := iA hI.toInv0 hto bg hd (fun e => by have := eZ hd dw e; cases this)
  have iP : Live (dropM S to toName ⟨ok, 3⟩).idx ⟨to, 2⟩ := iA hI.toInv0 hto bg hto (fun e => by have := eZ hto dw e; cases this)
  have dK : aQ name (obj (dropM S to toName ⟨ok, 3⟩).O d).ah = some ⟨tk, 1⟩ := ou hI.toInv0 hto bg hlk hot
  have nN : aQ toName (obj (dropM S to toName ⟨ok, 3⟩).O to).ah = none := ox hI.toInv0 hto bg
  have iQ : (obj (dropM S to toName ⟨ok, 3⟩).O d).kind = 2 := bU.kind hd1
  have nO : (obj (dropM S to toName ⟨ok, 3⟩).O to).kind = 2 := bU.kind iP
  have jB : Live (dropM S to toName ⟨ok, 3⟩).idx ⟨tk, 1⟩ := (bU.ent hd1 dK).2
  have jC : (obj (dropM S to toName ⟨ok, 3⟩).O tk).kind = 1 := bU.kind jB
  have zO : (obj (dropM S to toName ⟨ok, 3⟩).O d).ah.length ≤ 8192 := bU.eV hd1
  have zP : (obj (dropM S to toName ⟨ok, 3⟩).O to).ah.length ≤ 8192 := bU.eV iP
  have nP := bU.lb jB
  have jD : tk ≠ d := bU.ne hd1 dK
  refine gK 3 (CU f L d name) [] ?_
  refine gL [0, 1, 2] (iB (dropM S to toName ⟨ok, 3⟩).X f m t bU.hX (dropM S to toName ⟨ok, 3⟩).O L d iQ name hsz ⟨tk, 1⟩ jC (by simp) dK (bU.twice hd1) (by omega) (by simp only at nP ⊢; omega)) ?_
  rintro _ _ ⟨rfl, rfl⟩
  refine NS ?_
  refine gK 4 (CV f L to toName ++ [(68, .iface 89 (vP (L.b tk)))]) [] ?_
  refine gL [0, 1, 2] (fV { (dropM S to toName ⟨ok, 3⟩).X with ah := (dropM S to toName ⟨ok, 3⟩).X.ah - 1 } f m t (bU.vV hd1 dK) (aJ (dropM S to toName ⟨ok, 3⟩).X (dropM S to toName ⟨ok, 3⟩).O d name ⟨tk, 1⟩) L to (bY.trans nO) toName mX (ja jD nN) (Nat.le_trans (kB jD) (by omega)) ⟨tk, 1⟩ (bY.trans jC) (by simp) (jj bU.toInv0 hd1 dK)) ?_
  rintro _ _ ⟨rfl, rfl⟩
  refine NS ?_
  refine aj.mem (aP := [.blk f [vI ((dropM S to toName ⟨ok, 3⟩).X.cN), vI ((dropM S to toName ⟨ok, 3⟩).X.cB), vI ((dropM S to toName ⟨ok, 3⟩).X.cH), vI ((dropM S to toName ⟨ok, 3⟩).X.cS), vI ((dropM S to toName ⟨ok, 3⟩).X.cZ), .map (some m), vP t, vI ((dropM S to toName ⟨ok, 3⟩).X.last), vI ((dropM S to toName ⟨ok, 3⟩).X.ah - 1 + 1), vI ((dropM S to toName ⟨ok, 3⟩).X.used)] 86, .abs (ak (aN (bq (dropM S to toName ⟨ok, 3⟩).X (aJ (dropM S to toName ⟨ok, 3⟩).X (dropM S to toName ⟨ok, 3⟩).O d name ⟨tk, 1⟩) to toName ⟨tk, 1⟩) L)), .abs (ak (bh (bq (dropM S to toName ⟨ok, 3⟩).X (aJ (dropM S to toName ⟨ok, 3⟩).X (dropM S to toName ⟨ok, 3⟩).O d name ⟨tk, 1⟩) to toName ⟨tk, 1⟩) L)), .abs (aE Tryz.prog 3 m (aO (aK L ((dropM S to toName ⟨ok, 3⟩).idx))) (((dropM S to toName ⟨ok, 3⟩).idx).length)), .abs (br 156 t S.X.cH S.av (aK L S.us)), .abs (ak (aY (bq (dropM S to toName ⟨ok, 3⟩).X (aJ (dropM S to toName ⟨ok, 3⟩).X (dropM S to toName ⟨ok, 3⟩).O d name ⟨tk, 1⟩) to toName ⟨tk, 1⟩) L)), .abs R]) (fun w hS => by rw [show aY (bq (dropM S to toName ⟨ok, 3⟩).X (aJ (dropM S to toName ⟨ok, 3⟩).X (dropM S to toName ⟨ok, 3⟩).O d name ⟨tk, 1⟩) to toName ⟨tk, 1⟩) L = aY S.O L from fI.trans (iZ.trans lV)]; exact hS) ?_
  refine gK 1 [(10, vI 0)] [] ?_
  refine NN (af.ret ?_)
  exact RT (vI 0) [0, 3, 4, 1, 5, 2, 6] (⟨L, by rw [show renameM S d name to toName = (0, moveM (dropM S to toName ⟨ok, 3⟩) d name to toName ⟨tk, 1⟩) by unfold renameM; rw [hlk]; refine (if_neg (fun h => absurd h.1 (by simp))).trans ?_; rw [bg]; exact (if_neg (fun e => by cases e)).trans ((if_neg (by simp)).trans (if_neg (by simp)))] <;> exact ⟨rfl, rfl⟩⟩)
 ·have hkt : (obj S.O tk).kind = 2 := hI.kind hlv
  refine af.region ?_
  refine gK 1 [] [] ?_
  refine NS ?_
  refine gK 5 [(19, .map (some (L.m d))), (20, .string name)] [(3, v_ 3 (bA L hkd))] ?_
  refine fQ 5 hkd hlk ?_
  refine gK 1 [(11, .iface 96 (vP (L.b tk)))] [] ?_
  refine NN (af.seq (SR ?_))
  refine gK 2 [(23, .bool false)] [] ?_
  refine NN ?_
  refine CF ?_
  refine af.skip (NX (SR ?_))
  refine gK 7 [(12, vP (L.b tk)), (13, .bool true)] [] ?_
  refine NN (af.seq (SR ?_))
  refine gK 2 [(14, vP (L.b to))] [] ?_
  refine NN (af.block ?_)
  obtain ⟨dp, hdp⟩ := hI.deep
  refine af.loop (ι := (Option Nat)) (fun (x : Option Nat) => (iN S.O tk to ↔ ∃ z0, x = some z0 ∧ iN S.O tk z0) ∧ (∀ z0, x = some z0 → Live S.idx ⟨z0, 2⟩)) (fun (x : Option Nat) => uD dp x) (fun (x : Option Nat) => [(0, vP f), (1, vP (L.b d)), (2, .string name), (3, vP (L.b to)), (4, .string toName), (11, .iface 96 (vP (L.b tk))), (12, vP (L.b tk)), (13, .bool true), (14, (qK L x))]) (fun (x : Option Nat) => ((pA f m t L S) ++ [.abs R])) ((some to)) (idx := [0, 1, 2, 3, 4, 11, 12, 13, 14]) (pk := [0, 1, 2, 3, 4, 5, 6]) (show (iN S.O tk to ↔ ∃ z0, ((some to)) = some z0 ∧ iN S.O tk z0) ∧ (∀ z0, ((some to)) = some z0 → Live S.idx ⟨z0, 2⟩) from ⟨⟨fun h => ⟨to, rfl, h⟩, fun ⟨y, e, h⟩ => by cases e; exact h⟩, fun y e => by cases e; exact hto⟩) (fun _ => by kernel_rfl) rfl (by kernel_rfl) ?_
  rintro x ⟨hbx, hlx⟩
  show af _ _ _ _ [(0, vP f), (1, vP (L.b d)), (2, .string name), (3, vP (L.b to)), (4, .string toName), (11, .iface 96 (vP (L.b tk))), (12, vP (L.b tk)), (13, .bool true), (14, (qK L x))] ((pA f m t L S) ++ [.abs R]) _
  refine af.seq (af.seq ?_)
  rcases hx : x with _ | y
  ·refine af.region ?_
   refine gK 5 [(34, .bool false)] [] ?_
   refine NN ?_
   refine CF ?_
   refine af.exit (ai.aT (ai.aT (ai.bX (NX (af.seq ?_)))))
   have hnb : ¬ iN S.O tk to := fun h => by obtain ⟨y, e, _⟩ := hbx.1 h; rw [hx] at e; cases e
   rcases hI.kg hto toName with bg | ⟨ok, bg, dw⟩ | ⟨ok, bg, dw⟩ | ⟨ok, bg, dw⟩
   ·refine af.region ?_
    refine gK 5 (tJ L to toName) [(3, v_ 3 (bA L dh))] ?_
    refine fQ 5 dh bg ?_
    refine gK 1 [(15, .nilIface)] [] ?_
    refine NN (af.seq (SR ?_))
    refine gK 3 [(50, .bool false)] [] ?_
    refine NN ?_
    refine CF ?_
    refine af.skip (NX (af.seq (SR ?_)))
    refine gK 2 [(52, .bool false)] [] ?_
    refine NN ?_
    refine CF ?_
    refine af.skip (NX (SR ?_))
    have bU : Inv S := hI
    have hd1 := hd
    have dK := hlk
    have nN := bg
    have iP := hto
    have iQ : (obj S.O d).kind = 2 := bU.kind hd1
    have nO : (obj S.O to).kind = 2 := bU.kind iP
    have jB : Live S.idx ⟨tk, 2⟩ := (bU.ent hd1 dK).2
    have jC : (obj S.O tk).kind = 2 := bU.kind jB
    have zO : (obj S.O d).ah.length ≤ 8192 := bU.eV hd1
    have zP : (obj S.O to).ah.length ≤ 8192 := bU.eV iP
    have nP := bU.lb jB
    have jD : tk ≠ d := bU.ne hd1 dK
    refine gK 3 (CU f L d name) [] ?_
    refine gL [0, 3, 5] (iB S.X f m t bU.hX S.O L d iQ name hsz ⟨tk, 2⟩ jC (by simp) dK (bU.twice hd1) (by omega) (by simp only at nP ⊢; omega)) ?_
    rintro _ _ ⟨rfl, rfl⟩
    refine NS ?_
    refine gK 4 (CV f L to toName ++ [(68, .iface 96 (vP (L.b tk)))]) [] ?_
    refine gL [0, 1, 2] (fV { S.X with ah := S.X.ah - 1 } f m t (bU.vV hd1 dK) (aJ S.X S.O d name ⟨tk, 2⟩) L to (bY.trans nO) toName mX (ja jD nN) (Nat.le_trans (kB jD) (by omega)) ⟨tk, 2⟩ (bY.trans jC) (by simp) (jj bU.toInv0 hd1 dK)) ?_
    rintro _ _ ⟨rfl, rfl⟩
    refine NS ?_
    refine aj.mem (aP := [.blk f [vI (S.X.cN), vI (S.X.cB), vI (S.X.cH), vI (S.X.cS), vI (S.X.cZ), .map (some m), vP t, vI (S.X.last), vI (S.X.ah - 1 + 1), vI (S.X.used)] 86, .abs (ak (aN (bq S.X (aJ S.X S.O d name ⟨tk, 2⟩) to toName ⟨tk, 2⟩) L)), .abs (ak (bh (bq S.X (aJ S.X S.O d name ⟨tk, 2⟩) to toName ⟨tk, 2⟩) L)), .abs (aE Tryz.prog 3 m (aO (aK L S.idx)) S.idx.length), .abs (br 156 t S.X.cH S.av (aK L S.us)), .abs (ak (aY (bq S.X (aJ S.X S.O d name ⟨tk, 2⟩) to toName ⟨tk, 2⟩) L)), .abs R]) (fun w hS => by rw [show aY (bq S.X (aJ S.X S.O d name ⟨tk, 2⟩) to toName ⟨tk, 2⟩) L = aY S.O L from fI.trans iZ]; exact hS) ?_
    refine gK 1 [(10, vI 0)] [] ?_
    refine NN (af.ret ?_)
    exact RT (vI 0) [0, 3, 4, 1, 5, 2, 6] (⟨L, by rw [show renameM S d name to toName = (0, moveM S d name to toName ⟨tk, 2⟩) by unfold renameM; rw [hlk]; refine (if_neg (fun h => hnb h.2)).trans ?_; rw [bg]] <;> exact ⟨rfl, rfl⟩⟩)
   ·have jE : (obj S.O ok).kind = 1 := hI.kind dw
    refine af.region ?_
    refine gK 5 (tJ L to toName) [(3, v_ 3 (bA L dh))] ?_
    refine fQ 5 dh bg ?_
    refine gK 1 [(15, .iface 89 (vP (L.b ok)))] [] ?_
    refine NN (af.seq (SR ?_))
    refine gK 3 [(50, .bool false)] [] ?_
    refine NN ?_
    refine CF ?_
    refine af.skip (NX (af.seq (SR ?_)))
    refine gK 2 [(52, .bool true)] [] ?_
    refine NN ?_
    refine CT ?_
    refine af.seq (SR ?_)
    refine gK 1 [(53, .iface 89 (vP (L.b ok)))] [] ?_
    refine gL [] (jT (vP (L.b ok))) ?_
    rintro _ _ ⟨rfl, rfl⟩
    refine gK 1 [(55, .bool false)] [] ?_
    refine NN ?_
    refine CF ?_
    refine af.skip (NX (af.seq (SR ?_)))
    refine gK 1 [(56, .bool true)] [] ?_
    refine NN ?_
    refine CT ?_
    refine SR ?_
    refine gK 1 [(10, vI 173)] [] ?_
    refine NN (af.ret (ai.aq (ai.aq ?_)))
    exact RT (vI 173) [0, 1, 2, 3, 4, 5, 6] (⟨L, by rw [show renameM S d name to toName = (173, S) by unfold renameM; rw [hlk]; refine (if_neg (fun h => hnb h.2)).trans ?_; rw [bg]; exact (if_neg (fun e => by cases e)).trans ((if_neg (by simp)).trans (if_pos rfl))] <;> exact ⟨rfl, rfl⟩⟩)
   ·have jE : (obj S.O ok).kind = 2 := hI.kind dw
    refine af.region ?_
    refine gK 5 (tJ L to toName) [(3, v_ 3 (bA L dh))] ?_
    refine fQ 5 dh bg ?_
    refine gK 1 [(15, .iface 96 (vP (L.b ok)))] [] ?_
    refine NN (af.seq (SR ?_))
    refine gK 2 [(48, .iface 96 (vP (L.b ok))), (49, .iface 96 (vP (L.b tk)))] [] ?_
    refine aj.ic (d := (some 50)) (op := .binOp .eql 84 (.tmp 48) (.tmp 49) 84) (v := .bool (decide (ok = tk))) (fun _ => by kernel_rfl) (fun o junk w ho hS => by obtain ⟨F, hF⟩ := hS.get (i := 3) rfl; exact ⟨w, wS Ob ho (by kernel_rfl) (by kernel_rfl) (by rw [jE]; decide) (by rw [hkt]; decide) hF, hS⟩) ?_
    refine NN ?_
    refine af.bn (p := ok = tk) (fun _ => by kernel_rfl) (fun h50 => ?_) (fun h50 => ?_)
    ·refine SR ?_
     refine gK 1 [(10, vI 0)] [] ?_
     refine NN (af.ret (ai.aq ?_))
     exact RT (vI 0) [0, 1, 2, 3, 4, 5, 6] (⟨L, by rw [show renameM S d name to toName = (0, S) by unfold renameM; rw [hlk]; refine (if_neg (fun h => hnb h.2)).trans ?_; rw [bg]; exact if_pos (by rw [h50])] <;> exact ⟨rfl, rfl⟩⟩)
    refine af.skip (NX (af.seq (SR ?_)))
    refine gK 2 [(52, .bool true)] [] ?_
    refine NN ?_
    refine CT ?_
    refine af.seq (SR ?_)
    refine gK 1 [(53, .iface 96 (vP (L.b ok)))] [] ?_
    refine gL [] (jU (vP (L.b ok))) ?_
    rintro _ _ ⟨rfl, rfl⟩
    refine gK 1 [(55, .bool true)] [] ?_
    refine NN ?_
    refine CT ?_
    refine SR ?_
    refine gK 1 [(10, vI 172)] [] ?_
    refine NN (af.ret (ai.aq (ai.aq ?_)))
    exact RT (vI 172) [0, 1, 2, 3, 4, 5, 6] (⟨L, by rw [show renameM S d name to toName = (172, S) by unfold renameM; rw [hlk]; refine (if_neg (fun h => hnb h.2)).trans ?_; rw [bg]; exact (if_neg (fun e => h50 (congrArg Th.k e))).trans (if_pos rfl)] <;> exact ⟨rfl, rfl⟩⟩)
   have jE : (obj S.O ok).kind = 3 := hI.kind dw
   refine af.region ?_
   refine gK 5 (tJ L to toName) [(3, v_ 3 (bA L dh))] ?_
   refine fQ 5 dh bg ?_
   refine gK 1 [(15, .iface 93 (vP (L.b ok)))] [] ?_
   refine NN (af.seq (SR ?_))
   refine gK 3 [(50, .bool false)] [] ?_
   refine NN ?_
   refine CF ?_
   refine af.skip (NX (af.seq (SR ?_)))
   refine gK 2 [(52, .bool true)] [] ?_
   refine NN ?_
   refine CT ?_
   refine af.seq (SR ?_)
   refine gK 1 [(53, .iface 93 (vP (L.b ok)))] [] ?_
   refine gL [] (kC (vP (L.b ok))) ?_
   rintro _ _ ⟨rfl, rfl⟩
   refine gK 1 [(55, .bool false)] [] ?_
   refine NN ?_
   refine CF ?_
   refine af.skip (NX (af.seq (SR ?_)))
   refine gK 1 [(56, .bool true)] [] ?_
   refine NN ?_
   refine CT ?_
   refine SR ?_
   refine gK 1 [(10, vI 173)] [] ?_
   refine NN (af.ret (ai.aq (ai.aq ?_)))
   exact RT (vI 173) [0, 1, 2, 3, 4, 5, 6] (⟨L, by rw [show renameM S d name to toName = (173, S) by unfold renameM; rw [hlk]; refine (if_neg (fun h => hnb h.2)).trans ?_; rw [bg]; exact (if_neg (fun e => by cases e)).trans ((if_neg (by simp)).trans (if_pos rfl))] <;> exact ⟨rfl, rfl⟩⟩)
  have hky : (obj S.O y).kind = 2 := hI.kind (hlx y hx)
  refine af.region ?_
  refine gK 5 [(34, .bool true)] [] ?_
  refine NN ?_
  refine CT ?_
  refine af.skip (NX (af.seq (af.block (SR ?_))))
  refine gK 2 [(39, vP (L.b y)), (40, vP (L.b tk))] [] ?_
  refine aj.ic (d := (some 41)) (op := .binOp .eql 96 (.tmp 39) (.tmp 40) 96) (v := .bool (decide (y = tk))) (fun _ => by kernel_rfl) (fun o junk w ho hS => by obtain ⟨F, hF⟩ := hS.get (i := 3) rfl; exact ⟨w, GS ho (by kernel_rfl) (by kernel_rfl) (by rw [hky]; decide) (by rw [hkt]; decide) hF, hS⟩) ?_
  refine NN ?_
  refine af.bn (p := y = tk) (fun _ => by kernel_rfl) (fun Ky => ?_) (fun Ky => ?_)
  ·refine SR ?_
   refine gK 1 [(10, vI 174)] [] ?_
   refine NN (af.ret (ai.aF (ai.aq (ai.aq (ai.aF (ai.aq ?_))))))
   exact RT (vI 174) [0, 1, 2, 3, 4, 5, 6] (⟨L, by rw [show renameM S d name to toName = (174, S) by unfold renameM; rw [hlk]; exact if_pos ⟨rfl, hbx.2 ⟨y, hx, by rw [Ky]; exact .here⟩⟩] <;> exact ⟨rfl, rfl⟩⟩)
  refine af.skip (ai.aL (NX (af.region ?_)))
  refine gK 5 [(14, (qK L (obj S.O y).up))] [(3, v_ 3 (PB L hky))] ?_
  refine NL ?_
  exact ai.turn (((obj S.O y).up)) (idx := [0, 1, 2, 3, 4, 11, 12, 13, 14]) (pk := [0, 1, 2, 3, 4, 5, 6]) (show (iN S.O tk to ↔ ∃ z0, (((obj S.O y).up)) = some z0 ∧ iN S.O tk z0) ∧ (∀ z0, (((obj S.O y).up)) = some z0 → Live S.idx ⟨z0, 2⟩) from ⟨hbx.trans ⟨fun ⟨y2, e, h⟩ => by rw [hx] at e; cases e; exact (yj Ky).1 h, fun h => ⟨y, hx, (yj Ky).2 h⟩⟩, fun z e => ((hI.up ⟨y, 2⟩ (hlx y hx) z).1 e).2.1⟩) (by show uD dp (((obj S.O y).up)) < uD dp (some y); exact GW hdp) (fun _ => by kernel_rfl) rfl (by kernel_rfl)
 have hkt : (obj S.O tk).kind = 3 := hI.kind hlv
 refine af.region ?_
 refine gK 1 [] [] ?_
 refine NS ?_
 refine gK 5 [(19, .map (some (L.m d))), (20, .string name)] [(3, v_ 3 (bA L hkd))] ?_
 refine fQ 5 hkd hlk ?_
 refine gK 1 [(11, .iface 93 (vP (L.b tk)))] [] ?_
 refine NN (af.seq (SR ?_))
 refine gK 2 [(23, .bool false)] [] ?_
 refine NN ?_
 refine CF ?_
 refine af.skip (NX (SR ?_))
 refine gK 7 [(12, .pointer none), (13, .bool false)] [] ?_
 refine NN (af.seq (SR ?_))
 refine gK 2 [(14, vP (L.b to))] [] ?_
 refine NN (af.block ?_)
 refine af.loop (ι := Unit) (fun (u : Unit) => True) (fun (u : Unit) => 0) (fun (u : Unit) => (Kv f L d name to toName ++ [(11, .iface 93 (vP (L.b tk)))] ++ Kx L to)) (fun (u : Unit) => ((pA f m t L S) ++ [.abs R])) () (idx := [0, 1, 2, 3, 4, 11, 12, 13, 14]) (pk := [0, 1, 2, 3, 4, 5, 6]) (show True from trivial) (fun _ => by kernel_rfl) rfl (by kernel_rfl) ?_
 rintro u _
 show af _ _ _ _ (Kv f L d name to toName ++ [(11, .iface 93 (vP (L.b tk)))] ++ Kx L to) ((pA f m t L S) ++ [.abs R]) _
 refine af.seq (SR ?_)
 refine gK 5 [(34, .bool false)] [] ?_
 refine NN ?_
 refine CF ?_
 refine af.exit (ai.aT (ai.aT (ai.bX (NX (af.seq ?_)))))
 skip
 rcases hI.kg hto toName with bg | ⟨ok, bg, dw⟩ | ⟨ok, bg, dw⟩ | ⟨ok, bg, dw⟩
 ·refine af.region ?_
  refine gK 5 (tJ L to toName) [(3, v_ 3 (bA L dh))] ?_
  refine fQ 5 dh bg ?_
  refine gK 1 [(15, .nilIface)] [] ?_
  refine NN (af.seq (SR ?_))
  refine gK 3 [(50, .bool false)] [] ?_
  refine NN ?_
  refine CF ?_
  refine af.skip (NX (af.seq (SR ?_)))
  refine gK 2 [(52, .bool false)] [] ?_
  refine NN ?_
  refine CF ?_
  refine af.skip (NX (SR ?_))
  have bU : Inv S := hI
  have hd1 := hd
  have dK := hlk
  have nN := bg
  have iP := hto
  have iQ : (obj S.O d).kind = 2 := bU.kind hd1
  have nO : (obj S.O to).kind = 2 := bU.kind iP
  have jB : Live S.idx ⟨tk, 3⟩ := (bU.ent hd1 dK).2
  have jC : (obj S.O tk).kind = 3 := bU.kind jB
  have zO : (obj S.O d).ah.length ≤ 8192 := bU.eV hd1
  have zP : (obj S.O to).ah.length ≤ 8192 := bU.eV iP
  have nP := bU.lb jB
  have jD : tk ≠ d := bU.ne hd1 dK
  refine gK 3 (CU f L d name) [] ?_
  refine gL [0, 3, 5] (iB S.X f m t bU.hX S.O L d iQ name hsz ⟨tk, 3⟩ jC (by simp) dK (bU.twice hd1) (by omega) (by simp only at nP ⊢; omega)) ?_
  rintro _ _ ⟨rfl, rfl⟩
  refine NS ?_
  refine gK 4 (CV f L to toName ++ [(68, .iface 93 (vP (L.b tk)))]) [] ?_
  refine gL [0, 1, 2] (fV { S.X with ah := S.X.ah - 1 } f m t (bU.vV hd1 dK) (aJ S.X S.O d name ⟨tk, 3⟩) L to (bY.trans nO) toName mX (ja jD nN) (Nat.le_trans (kB jD) (by omega)) ⟨tk, 3⟩ (bY.trans jC) (by simp) (jj bU.toInv0 hd1 dK)) ?_
  rintro _ _ ⟨rfl, rfl⟩
  refine NS ?_
  refine aj.mem (aP := [.blk f [vI (S.X.cN), vI (S.X.cB), vI (S.X.cH), vI (S.X.cS), vI (S.X.cZ), .map (some m), vP t, vI (S.X.last), vI (S.X.ah - 1 + 1), vI (S.X.used)] 86, .abs (ak (aN (bq S.X (aJ S.X S.O d name ⟨tk, 3⟩) to toName ⟨tk, 3⟩) L)), .abs (ak (bh (bq S.X (aJ S.X S.O d name ⟨tk, 3⟩) to toName ⟨tk, 3⟩) L)), .abs (aE Tryz.prog 3 m (aO (aK L S.idx)) S.idx.length), .abs (br 156 t S.X.cH S.av (aK L S.us)), .abs (ak (aY (bq S.X (aJ S.X S.O d name ⟨tk, 3⟩) to toName ⟨tk, 3⟩) L)), .abs R]) (fun w hS => by rw [show aY (bq S.X (aJ S.X S.O d name ⟨tk, 3⟩) to toName ⟨tk, 3⟩) L = aY S.O L from fI.trans iZ]; exact hS) ?_
  refine gK 1 [(10, vI 0)] [] ?_
  refine NN (af.ret ?_)
  exact RT (vI 0) [0, 3, 4, 1, 5, 2, 6] (⟨L, by rw [show renameM S d name to toName = (0, moveM S d name to toName ⟨tk, 3⟩) by unfold renameM; rw [hlk]; refine (if_neg (fun h => absurd h.1 (by simp))).trans ?_; rw [bg]] <;> exact ⟨rfl, rfl⟩⟩)
 ·have jE : (obj S.O ok).kind = 1 := hI.kind dw
  refine af.region ?_
  refine gK 5 (tJ L to toName) [(3, v_ 3 (bA L dh))] ?_
  refine fQ 5 dh bg ?_
  refine gK 1 [(15, .iface 89 (vP (L.b ok)))] [] ?_
  refine NN (af.seq (SR ?_))
  refine gK 3 [(50, .bool false)] [] ?_
  refine NN ?_
  refine CF ?_
  refine af.skip (NX (af.seq (SR ?_)))
  refine gK 2 [(52, .bool true)] [] ?_
  refine NN ?_
  refine CT ?_
  refine af.seq (SR ?_)
  refine gK 1 [(53, .iface 89 (vP (L.b ok)))] [] ?_
  refine gL [] (jT (vP (L.b ok))) ?_
  rintro _ _ ⟨rfl, rfl⟩
  refine gK 1 [(55, .bool false)] [] ?_
  refine NN ?_
  refine CF ?_
  refine af.skip (NX (af.seq (SR ?_)))
  refine gK 1 [(56, .bool false)] [] ?_
  refine NN ?_
  refine CF ?_
  refine af.skip (NX (af.region ?_))
  refine gK 3 (Kw f L to toName) [] ?_
  refine gL [0, 3, 5, 1] (lW S L f m t hI to hto toName mX ⟨ok, 1⟩ bg) ?_
  rintro _ _ ⟨rfl, rfl⟩
  refine NS ?_
  have bU : Inv (dropM S to toName ⟨ok, 1⟩) := hI.vB hto bg (by simp)
  have hot : (⟨ok, 1⟩ : Th) ≠ ⟨tk, 3⟩ := fun e => by cases e
  have hd1 : Live (dropM S to toName ⟨ok, 1⟩).idx ⟨d, 2⟩ := iA hI.toInv0 hto bg hd (fun e => by have := eZ hd dw e; cases this)
  have iP : Live (dropM S to toName ⟨ok, 1⟩).idx ⟨to, 2⟩ := iA hI.toInv0 hto bg hto (fun e => by have := eZ hto dw e; cases this)
  have dK : aQ name (obj (dropM S to toName ⟨ok, 1⟩).O d).ah = some ⟨tk, 3⟩ := ou hI.toInv0 hto bg hlk hot
  have nN : aQ toName (obj (dropM S to toName ⟨ok, 1⟩).O to).ah = none := ox hI.toInv0 hto bg
  have iQ : (obj (dropM S to toName ⟨ok, 1⟩).O d).kind = 2 := bU.kind hd1
  have nO : (obj (dropM S to toName ⟨ok, 1⟩).O to).kind = 2 := bU.kind iP
  have jB : Live (dropM S to toName ⟨ok, 1⟩).idx ⟨tk, 3⟩ := (bU.ent hd1 dK).2
  have jC : (obj (dropM S to toName ⟨ok, 1⟩).O tk).kind = 3 := bU.kind jB
  have zO : (obj (dropM S to toName ⟨ok, 1⟩).O d).ah.length ≤ 8192 := bU.eV hd1
  have zP : (obj (dropM S to toName ⟨ok, 1⟩).O to).ah.length ≤ 8192 := bU.eV iP
  have nP := bU.lb jB
  have jD : tk ≠ d := bU.ne hd1 dK
  refine gK 3 (CU f L d name) [] ?_
  refine gL [0, 1, 2] (iB (dropM S to toName ⟨ok, 1⟩).X f m t bU.hX (dropM S to toName ⟨ok, 1⟩).O L d iQ name hsz ⟨tk, 3⟩ jC (by simp) dK (bU.twice hd1) (by omega) (by simp only at nP ⊢; omega)) ?_
  rintro _ _ ⟨rfl, rfl⟩
  refine NS ?_
  refine gK 4 (CV f L to toName ++ [(68, .iface 93 (vP (L.b tk)))]) [] ?_
  refine gL [0, 1, 2] (fV { (dropM S to toName ⟨ok, 1⟩).X with ah := (dropM S to toName ⟨ok, 1⟩).X.ah - 1 } f m t (bU.vV hd1 dK) (aJ (dropM S to toName ⟨ok, 1⟩).X (dropM S to toName ⟨ok, 1⟩).O d name ⟨tk, 3⟩) L to (bY.trans nO) toName mX (ja jD nN) (Nat.le_trans (kB jD) (by omega)) ⟨tk, 3⟩ (bY.trans jC) (by simp) (jj bU.toInv0 hd1 dK)) ?_
  rintro _ _ ⟨rfl, rfl⟩
  refine NS ?_
  refine aj.mem (aP := [.blk f [vI ((dropM S to toName ⟨ok, 1⟩).X.cN), vI ((dropM S to toName ⟨ok, 1⟩).X.cB), vI ((dropM S to toName ⟨ok, 1⟩).X.cH), vI ((dropM S to toName ⟨ok, 1⟩).X.cS), vI ((dropM S to toName ⟨ok, 1⟩).X.cZ), .map (some m), vP t, vI ((dropM S to toName ⟨ok, 1⟩).X.last), vI ((dropM S to toName ⟨ok, 1⟩).X.ah - 1 + 1), vI ((dropM S to toName ⟨ok, 1⟩).X.used)] 86, .abs (ak (aN (bq (dropM S to toName ⟨ok, 1⟩).X (aJ (dropM S to toName ⟨ok, 1⟩).X (dropM S to toName ⟨ok, 1⟩).O d name ⟨tk, 3⟩) to toName ⟨tk, 3⟩) L)), .abs (ak (bh (bq (dropM S to toName ⟨ok, 1⟩).X (aJ (dropM S to toName ⟨ok, 1⟩).X (dropM S to toName ⟨ok, 1⟩).O d name ⟨tk, 3⟩) to toName ⟨tk, 3⟩) L)), .abs (aE Tryz.prog 3 m (aO (aK L ((dropM S to toName ⟨ok, 1⟩).idx))) (((dropM S to toName ⟨ok, 1⟩).idx).length)), .abs (br 156 t S.X.cH S.av (aK L S.us)), .abs (ak (aY (bq (dropM S to toName ⟨ok, 1⟩).X (aJ (dropM S to toName ⟨ok, 1⟩).X (dropM S to toName ⟨ok, 1⟩).O d name ⟨tk, 3⟩) to toName ⟨tk, 3⟩) L)), .abs R]) (fun w hS => by rw [show aY (bq (dropM S to toName ⟨ok, 1⟩).X (aJ (dropM S to toName ⟨ok, 1⟩).X (dropM S to toName ⟨ok, 1⟩).O d name ⟨tk, 3⟩) to toName ⟨tk, 3⟩) L = aY S.O L from fI.trans (iZ.trans lV)]; exact hS) ?_
  refine gK 1 [(10, vI 0)] [] ?_
  refine NN (af.ret ?_)
  exact RT (vI 0) [0, 3, 4, 1, 5, 2, 6] (⟨L, by rw [show renameM S d name to toName = (0, moveM (dropM S to toName ⟨ok, 1⟩) d name to toName ⟨tk, 3⟩) by unfold renameM; rw [hlk]; refine (if_neg (fun h => absurd h.1 (by simp))).trans ?_; rw [bg]; exact (if_neg (fun e => by cases e)).trans ((if_neg (by simp)).trans (if_neg (by simp)))] <;> exact ⟨rfl, rfl⟩⟩)
 ·have jE : (obj S.O ok).kind = 2 := hI.kind dw
  refine af.region ?_
  refine gK 5 (tJ L to toName) [(3, v_ 3 (bA L dh))] ?_
  refine fQ 5 dh bg ?_
  refine gK 1 [(15, .iface 96 (vP (L.b ok)))] [] ?_
  refine NN (af.seq (SR ?_))
  refine gK 3 [(50, .bool false)] [] ?_
  refine NN ?_
  refine CF ?_
  refine af.skip (NX (af.seq (SR ?_)))
  refine gK 2 [(52, .bool true)] [] ?_
  refine NN ?_
  refine CT ?_
  refine af.seq (SR ?_)
  refine gK 1 [(53, .iface 96 (vP (L.b ok)))] [] ?_
  refine gL [] (jU (vP (L.b ok))) ?_
  rintro _ _ ⟨rfl, rfl⟩
  refine gK 1 [(55, .bool true)] [] ?_
  refine NN ?_
  refine CT ?_
  refine SR ?_
  refine gK 1 [(10, vI 172)] [] ?_
  refine NN (af.ret (ai.aq (ai.aq ?_)))
  exact RT (vI 172) [0, 1, 2, 3, 4, 5, 6] (⟨L, by rw [show renameM S d name to toName = (172, S) by unfold renameM; rw [hlk]; refine (if_neg (fun h => absurd h.1 (by simp))).trans ?_; rw [bg]; exact (if_neg (fun e => by cases e)).trans (if_pos rfl)] <;> exact ⟨rfl, rfl⟩⟩)
 have jE : (obj S.O ok).kind = 3 := hI.kind dw
 refine af.region ?_
 refine gK 5 (tJ L to toName) [(3, v_ 3 (bA L dh))] ?_
 refine fQ 5 dh bg ?_
 refine gK 1 [(15, .iface 93 (vP (L.b ok)))] [] ?_
 refine NN (af.seq (SR ?_))
 refine gK 2 [(48, .iface 93 (vP (L.b ok))), (49, .iface 93 (vP (L.b tk)))] [] ?_
 refine aj.ic (d := (some 50)) (op := .binOp .eql 84 (.tmp 48) (.tmp 49) 84) (v := .bool (decide (ok = tk))) (fun _ => by kernel_rfl) (fun o junk w ho hS => by obtain ⟨F, hF⟩ := hS.get (i := 3) rfl; exact ⟨w, wS Mh ho (by kernel_rfl) (by kernel_rfl) (by rw [jE]; decide) (by rw [hkt]; decide) hF, hS⟩) ?_
 refine NN ?_
 refine af.bn (p := ok = tk) (fun _ => by kernel_rfl) (fun h50 => ?_) (fun h50 => ?_)
 ·refine SR ?_
  refine gK 1 [(10, vI 0)] [] ?_
  refine NN (af.ret (ai.aq ?_))
  exact RT (vI 0) [0, 1, 2, 3, 4, 5, 6] (⟨L, by rw [show renameM S d name to toName = (0, S) by unfold renameM; rw [hlk]; refine (if_neg (fun h => absurd h.1 (by simp))).trans ?_; rw [bg]; exact if_pos (by rw [h50])] <;> exact ⟨rfl, rfl⟩⟩)
 refine af.skip (NX (af.seq (SR ?_)))
 refine gK 2 [(52, .bool true)] [] ?_
 refine NN ?_
 refine CT ?_
 refine af.seq (SR ?_)
 refine gK 1 [(53, .iface 93 (vP (L.b ok)))] [] ?_
 refine gL [] (kC (vP (L.b ok))) ?_
 rintro _ _ ⟨rfl, rfl⟩
 refine gK 1 [(55, .bool false)] [] ?_
 refine NN ?_
 refine CF ?_
 refine af.skip (NX (af.seq (SR ?_)))
 refine gK 1 [(56, .bool false)] [] ?_
 refine NN ?_
 refine CF ?_
 refine af.skip (NX (af.region ?_))
 refine gK 3 (Kw f L to toName) [] ?_
 refine gL [0, 3, 5, 1] (lW S L f m t hI to hto toName mX ⟨ok, 3⟩ bg) ?_
 rintro _ _ ⟨rfl, rfl⟩
 refine NS ?_
 have bU : Inv (dropM S to toName ⟨ok, 3⟩) := hI.vB hto bg (by simp)
 have hot : (⟨ok, 3⟩ : Th) ≠ ⟨tk, 3⟩ := fun e => h50 (congrArg Th.k e)
 have hd1 : Live (dropM S to toName ⟨ok, 3⟩).idx ⟨d, 2⟩ := iA hI.toInv0 hto bg hd (fun e => by have := eZ hd dw e; cases this)
 have iP : Live (dropM S to toName ⟨ok, 3⟩).idx ⟨to, 2⟩ := iA hI.toInv0 hto bg hto (fun e => by have := eZ hto dw e; cases this)
 have dK : aQ name (obj (dropM S to toName ⟨ok, 3⟩).O d).ah = some ⟨tk, 3⟩ := ou hI.toInv0 hto bg hlk hot
 have nN : aQ toName (obj (dropM S to toName ⟨ok, 3⟩).O to).ah = none := ox hI.toInv0 hto bg
 have iQ : (obj (dropM S to toName ⟨ok, 3⟩).O d).kind = 2 := bU.kind hd1
 have nO : (obj (dropM S to toName ⟨ok, 3⟩).O to).kind = 2 := bU.kind iP
 have jB : Live (dropM S to toName ⟨ok, 3⟩).idx ⟨tk, 3⟩ := (bU.ent hd1 dK).2
 have jC : (obj (dropM S to toName ⟨ok, 3⟩).O tk).kind = 3 := bU.kind jB
 have zO : (obj (dropM S to toName ⟨ok, 3⟩).O d).ah.length ≤ 8192 := bU.eV hd1
 have zP : (obj (dropM S to toName ⟨ok, 3⟩).O to).ah.length ≤ 8192 := bU.eV iP
 have nP := bU.lb jB
 have jD : tk ≠ d := bU.ne hd1 dK
 refine gK 3 (CU f L d name) [] ?_
 refine gL [0, 1, 2] (iB (dropM S to toName ⟨ok, 3⟩).X f m t bU.hX (dropM S to toName ⟨ok, 3⟩).O L d iQ name hsz ⟨tk, 3⟩ jC (by simp) dK (bU.twice hd1) (by omega) (by simp only at nP ⊢; omega)) ?_
 rintro _ _ ⟨rfl, rfl⟩
 refine NS ?_
 refine gK 4 (CV f L to toName ++ [(68, .iface 93 (vP (L.b tk)))]) [] ?_
 refine gL [0, 1, 2] (fV { (dropM S to toName ⟨ok, 3⟩).X with ah := (dropM S to toName ⟨ok, 3⟩).X.ah - 1 } f m t (bU.vV hd1 dK) (aJ (dropM S to toName ⟨ok, 3⟩).X (dropM S to toName ⟨ok, 3⟩).O d name ⟨tk, 3⟩) L to (bY.trans nO) toName mX (ja jD nN) (Nat.le_trans (kB jD) (by omega)) ⟨tk, 3⟩ (bY.trans jC) (by simp) (jj bU.toInv0 hd1 dK)) ?_
 rintro _ _ ⟨rfl, rfl⟩
 refine NS ?_
 refine aj.mem (aP := [.blk f [vI ((dropM S to toName ⟨ok, 3⟩).X.cN), vI ((dropM S to toName ⟨ok, 3⟩).X.cB), vI ((dropM S to toName ⟨ok, 3⟩).X.cH), vI ((dropM S to toName ⟨ok, 3⟩).X.cS), vI ((dropM S to toName ⟨ok, 3⟩).X.cZ), .map (some m), vP t, vI ((dropM S to toName ⟨ok, 3⟩).X.last), vI ((dropM S to toName ⟨ok, 3⟩).X.ah - 1 + 1), vI ((dropM S to toName ⟨ok, 3⟩).X.used)] 86, .abs (ak (aN (bq (dropM S to toName ⟨ok, 3⟩).X (aJ (dropM S to toName ⟨ok, 3⟩).X (dropM S to toName ⟨ok, 3⟩).O d name ⟨tk, 3⟩) to toName ⟨tk, 3⟩) L)), .abs (ak (bh (bq (dropM S to toName ⟨ok, 3⟩).X (aJ (dropM S to toName ⟨ok, 3⟩).X (dropM S to toName ⟨ok, 3⟩).O d name ⟨tk, 3⟩) to toName ⟨tk, 3⟩) L)), .abs (aE Tryz.prog 3 m (aO (aK L ((dropM S to toName ⟨ok, 3⟩).idx))) (((dropM S to toName ⟨ok, 3⟩).idx).length)), .abs (br 156 t S.X.cH S.av (aK L S.us)), .abs (ak (aY (bq (dropM S to toName ⟨ok, 3⟩).X (aJ (dropM S to toName ⟨ok, 3⟩).X (dropM S to toName ⟨ok, 3⟩).O d name ⟨tk, 3⟩) to toName ⟨tk, 3⟩) L)), .abs R]) (fun w hS => by rw [show aY (bq (dropM S to toName ⟨ok, 3⟩).X (aJ (dropM S to toName ⟨ok, 3⟩).X (dropM S to toName ⟨ok, 3⟩).O d name ⟨tk, 3⟩) to toName ⟨tk, 3⟩) L = aY S.O L from fI.trans (iZ.trans lV)]; exact hS) ?_
 refine gK 1 [(10, vI 0)] [] ?_
 refine NN (af.ret ?_)
 exact RT (vI 0) [0, 3, 4, 1, 5, 2, 6] (⟨L, by rw [show renameM S d name to toName = (0, moveM (dropM S to toName ⟨ok, 3⟩) d name to toName ⟨tk, 3⟩) by unfold renameM; rw [hlk]; refine (if_neg (fun h => absurd h.1 (by simp))).trans ?_; rw [bg]; exact (if_neg (fun e => h50 (congrArg Th.k e))).trans ((if_neg (by simp)).trans (if_neg (by simp)))] <;> exact ⟨rfl, rfl⟩⟩)
end
section
open Go.RowKit Go.Maps HeapM TabM
attribute [local irreducible] aj aR af ai
abbrev OT (S : aG) (L : HL) (k : Nat) := (.abs (ak (iO (aY S.O L) k bT.none)) : HP)
abbrev MI (A1 : Option Addr) (S : aG) (k : Nat) (bs : List UInt8) (c2 : Nat) := (.abs (aI 5 1 A1 (((obj S.O k).data ++ bs.take (aW S.X bs.length)).length) c2 (bL ((obj S.O k).data ++ bs.take (aW S.X bs.length)))) : HP)
abbrev He (f : Nat) (m : Nat) (t) (S : aG) (L : HL) (k : Nat) (R : bT) := ([pF f m t S.X, pI m L S.idx, pT t S.X.cH S.av L S.us, pO S.O L, OT S L k, pE S.O L, .abs R] : List HP)
theorem AZ {β : Bs} (S : aG) (L : HL) (f m t : Nat) (hI : Inv S) (k : Nat) (hk : Live S.idx ⟨k, 1⟩) (A : Option Addr) (c : Nat) (bs : List UInt8) (hA : bH β A bs) (hbl : bs.length ≤ 1099511627776) (hbc : bs.length ≤ c) :
    Spec Tryz.prog β 57 #[vP f, vP (L.b k), .slice A (bs.length) (c)] (pA f m t L S) (fun v l => ∃ L2, v = .tuple #[vI (writeM S k bs).1, vI (writeM S k bs).2.1] ∧ l = (pA f m t L2 ((writeM S k bs).2.2))) := by
 have hX := hI.hX
 have hkk : (obj S.O k).kind = 1 := hI.kind hk
 have RP : ((obj S.O k).data.length : Int) ≤ S.X.used := hI.Oe hk
 have hcB := hI.cB
 refine Spec.enter Tryz.func57 rfl Tryz.ntmps57 (Nat.le_of_ble_eq_true rfl) (fun R => ?_)
 refine SR ?_
 refine gK 2 [] [] ?_
 refine NN (af.seq (SR ?_))
 refine gK 3 [(12, .bool (decide ((((bs.length : Nat) : Int) : Int) = (0 : Int))))] [] ?_
 refine NN ?_
 refine af.bn (p := (((bs.length : Nat) : Int) : Int) = (0 : Int)) (fun _ => by kernel_rfl) (fun h12 => ?_) (fun h12 => ?_)
 ·have he : bs = [] := List.eq_nil_of_length_eq_zero (by omega)
  refine SR ?_
  refine gK 2 [(6, vI 0), (7, vI 0)] [] ?_
  refine NN (af.ret (ai.aq ?_))
  exact RT (.tuple #[vI 0, vI 0]) [0, 1, 2, 3, 4, 5, 6] (⟨L, by rw [show writeM S k bs = (0, 0, S) from if_pos he] <;> exact ⟨rfl, rfl⟩⟩)
 have hlen : 0 < bs.length := by omega
 refine af.skip (NX (af.seq ?_))
 refine af.bC (by kernel_rfl) (by kernel_rfl) ?_
 refine gQ 11 [(8, vI (S.X.cB - S.X.used))] [(4, a_ 0 f), (8, a_ 0 f), (9, p_ ⟨[], none, none, none, some (vI (S.X.cB - S.X.used))⟩ [(Value.int .i64 (IntKind.wrap .i64 (S.X.cB - S.X.used))) = (.int .i64 (S.X.cB - S.X.used))] ⟨bE (by omega) (by omega) (by omega), trivial⟩)] ?_
 refine NQ (NX (af.seq (SR ?_)))
 refine gK 2 [(24, .bool (decide ((S.X.cB - S.X.used : Int) ≤ (0 : Int))))] [] ?_
 refine NN ?_
 refine af.bn (p := (S.X.cB - S.X.used : Int) ≤ (0 : Int)) (fun _ => by kernel_rfl) (fun tK => ?_) (fun tK => ?_)
 ·refine SR ?_
  refine gK 2 [(6, vI 0), (7, vI 176)] [] ?_
  refine NN (af.ret (ai.aq ?_))
  exact RT (.tuple #[vI 0, vI 176]) [0, 1, 2, 3, 4, 5, 6] (⟨L, by rw [show writeM S k bs = (0, 176, S) from (if_neg (fun e => by rw [e] at hlen; exact absurd hlen (by simp))).trans (if_pos tK)] <;> exact ⟨rfl, rfl⟩⟩)
 refine af.skip (NX (SR ?_))
 refine gK 4 [(28, vI (min ((bs.length : Nat) : Int) (S.X.cB - S.X.used)))] [(3, p_ ⟨[], none, none, none, some (vI (min ((bs.length : Nat) : Int) (S.X.cB - S.X.used)))⟩ [(Value.int .i64 (if S.X.cB - S.X.used < ((bs.length : Nat) : Int) then S.X.cB - S.X.used else ((bs.length : Nat) : Int))) = (.int .i64 (min ((bs.length : Nat) : Int) (S.X.cB - S.X.used)))] ⟨congrArg (Value.int .i64) (Kh _ _), trivial⟩)] ?_
 refine aj.slot 28 (.int .i64 (min ((bs.length : Nat) : Int) (S.X.cB - S.X.used))) (.int .i64 ↑(aW S.X bs.length)) (fun _ => by kernel_rfl) (congrArg (Value.int .i64) (GX (by omega))) ?_
 refine gK 1 [(9, vI ↑(aW S.X bs.length))] [] ?_
 refine NN (af.seq ?_)
 have hwl := GY (X := S.X) (n := bs.length) (by omega)
 refine af.mem (aP := (He f m t S L k R ++ [.abs (aI 5 1 (L.dA k) ((obj S.O k).data.length) (L.dC k) (bL (obj S.O k).data))])) (fun w hS => hS.Gt (i := 4) (k := k) rfl hkk) ?_
 refine af.ck (S := (He f m t S L k R)) [0, 1, 2, 3, 4, 5, 6, 7, 8, 9, 10, 11] 8 [0, 1, 2, 3, 4, 5, 6] (by kernel_rfl) (by kernel_rfl) rfl (by kernel_rfl) ?_
 refine aH.reads (r := 0) (l := [8, 9, 10, 11]) (fr' := [(0, vP f), (1, vP (L.b k)), (9, vI ↑(aW S.X bs.length)), (29, vP (L.b k)), (33, .slice (L.dA k) ((obj S.O k).data.length) ((L.dC k))), (36, .slice A ((aW S.X bs.length)) (c))]) (aU := [(((aW S.X bs.length) : Nat) : Int) = (((aW S.X bs.length) : Nat) : Int), (aW S.X bs.length) ≤ c, (∀ F w, (ak (aN S.O L)).h F w → w.cell? ⟨(L.b k), 9, none⟩ = some (.slice (L.dA k) ((obj S.O k).data.length) ((L.dC k))))]) [0, 1, 2, 3, 4, 5, 6, 7] [o_, o_, o_, o_, ⟨[.view 3 (.slice (L.dA k) ((obj S.O k).data.length) ((L.dC k)))], none, none, none, none⟩, o_, o_, ⟨[], some (aW S.X bs.length), none, none, none⟩] [0, 1, 9, 29, 33, 36] (fun _ => by kernel_rfl) ⟨rfl, by omega, bp (by rw [hkk]; decide) (by rw [eH (hkk)]; rfl), trivial⟩ rfl rfl ?_
 refine aH.cut (ι := (Option Addr) × Nat) (fr' := fun ((A1, c2) : (Option Addr) × Nat) => [(0, vP f), (1, vP (L.b k)), (9, vI ↑(aW S.X bs.length)), (29, vP (L.b k)), (37, .slice A1 (((obj S.O k).data ++ bs.take (aW S.X bs.length)).length) (c2))]) (hp' := fun ((A1, c2) : (Option Addr) × Nat) => (He f m t S L k R ++ [MI A1 S k bs c2])) [0, 1, 2, 3, 4, 5, 6] rfl rfl ?_ rfl (fun _ => by kernel_rfl) ?_
 ·refine aj.append 7 (d := (some 37)) (t := 41) (e := 5) (z := .int .u8 0) (size := 1) (bytes := 1) (n := (obj S.O k).data.length) (cap := (L.dC k)) (A := (L.dA k)) (xs := (bL (obj S.O k).data)) (s := (.tmp 33)) (x := (.tmp 36)) (ats := #[41, 41]) (A' := A) (m := (aW S.X bs.length)) (c' := c) (news := (bL (bs.take (aW S.X bs.length)))) (fun _ => by kernel_rfl) rfl (by kernel_rfl) (fun _ => by kernel_rfl) (fun _ => by kernel_rfl) Tryz.underlying41 (by kernel_rfl) rfl (by decide) (by rw [o3, List.length_take, Nat.min_eq_left hwl.1, Nat.mul_one]) (lM (bs.take (aW S.X bs.length))) ((hA.take (aW S.X bs.length)).src) (by unfold maxLen; omega) (by omega) (fun A1 c2 => ?_)
  refine aj.dH 7 (p := .abs (aI 5 1 A1 (((obj S.O k).data.length) + (aW S.X bs.length)) c2 ((bL (obj S.O k).data) ++ (bL (bs.take (aW S.X bs.length)))))) (p' := .abs (aI 5 1 A1 (((obj S.O k).data ++ bs.take (aW S.X bs.length)).length) c2 (bL ((obj S.O k).data ++ bs.take (aW S.X bs.length))))) (by kernel_rfl) (by rw [E8, List.length_append, List.length_take, Nat.min_eq_left hwl.1]) ?_
  refine aj.slot 37 (.slice A1 (((obj S.O k).data.length) + (aW S.X bs.length)) (c2)) (.slice A1 (((obj S.O k).data ++ bs.take (aW S.X bs.length)).length) (c2)) (fun _ => by kernel_rfl) (by rw [List.length_append, List.length_take, Nat.min_eq_left hwl.1]) ?_
  refine NL ?_
  exact MD (A1, c2) [0, 1, 9, 29, 37] [0, 1, 2, 3, 4, 5, 6, 7]
 rintro ⟨A1, c2⟩
 refine aH.cut (ι := Unit) (fr' := fun (_ : Unit) => [(0, vP f), (1, vP (L.b k)), (9, vI ↑(aW S.X bs.length)), (37, .slice A1 (((obj S.O k).data ++ bs.take (aW S.X bs.length)).length) (c2)), (38, vP (L.b k))]) (hp' := fun (_ : Unit) => (He f m t S L k R ++ [MI A1 S k bs c2])) [0, 1, 2, 3, 4, 5, 6] rfl rfl ?_ rfl (fun _ => by kernel_rfl) ?_
 ·refine gK 1 [(38, vP (L.b k))] [] ?_
  refine NL ?_
  exact MD () [0, 1, 9, 37, 38] [0, 1, 2, 3, 4, 5, 6, 7]
 rintro _
 refine aH.cut (ι := Unit) (fr' := fun (_ : Unit) => [(0, vP f), (1, vP (L.b k)), (9, vI ↑(aW S.X bs.length)), (37, .slice A1 (((obj S.O k).data ++ bs.take (aW S.X bs.length)).length) (c2)), (39, .pointer (some ⟨(L.b k), 9, none⟩))]) (hp' := fun (_ : Unit) => (He f m t S L k R ++ [MI A1 S k bs c2])) [0, 1, 2, 3, 4, 5, 6] rfl rfl ?_ rfl (fun _ => by kernel_rfl) ?_
 ·refine gK 1 [(39, .pointer (some ⟨(L.b k), 9, none⟩))] [] ?_
  refine NL ?_
  exact MD () [0, 1, 9, 37, 39] [0, 1, 2, 3, 4, 5, 6, 7]
 rintro _
 refine aH.last rfl rfl ?_
 refine aj.mem (aP := [.blk f [vI (S.X.cN), vI (S.X.cB), vI (S.X.cH), vI (S.X.cS), vI (S.X.cZ), .map (some m), vP t, vI (S.X.last), vI (S.X.ah), vI (S.X.used)] 86, .abs (aE Tryz.prog 3 m (aO (aK L S.idx)) S.idx.length), .abs (br 156 t S.X.cH S.av (aK L S.us)), .abs (ak (iO (aN S.O L) k bT.none)), .abs (ak (iO (aY S.O L) k bT.none)), .abs (ak (bh S.O L)), .abs R, .abs (aI 5 1 A1 (((obj S.O k).data ++ bs.take (aW S.X bs.length)).length) c2 (bL ((obj S.O k).data ++ bs.take (aW S.X bs.length)))), .blk (L.b k) [vI ((obj S.O k).id), vI ((obj S.O k).mode), vI ((obj S.O k).uid), vI ((obj S.O k).gid), vI ((obj S.O k).sec), vI ((obj S.O k).nano), vI ((obj S.O k).links), vI ((obj S.O k).opens), .bool (obj S.O k).gone, .slice (L.dA k) ((obj S.O k).data.length) ((L.dC k))] 92]) (fun w hS => hS.uj (i := 3) (k := k) rfl (by rw [hkk]; decide) (eH (hkk)) (by rw [hkk]; rfl)) ?_
 refine gC 1 [] [(0, a_ 8 (L.b k))] [(8, [(9, .slice A1 (((obj S.O k).data ++ bs.take (aW S.X bs.length)).length) (c2))])] ?_
 obtain ⟨L2, hL2⟩ : ∃ L2 : HL, L2 = L.data k A1 c2 := ⟨_, rfl⟩
 refine aj.mem (aP := [.abs (ak (aN (ay S.O k (fun o => { o with data := o.data ++ bs.take (aW S.X bs.length) })) L2)), .blk f [vI (S.X.cN), vI (S.X.cB), vI (S.X.cH), vI (S.X.cS), vI (S.X.cZ), .map (some m), vP t, vI (S.X.last), vI (S.X.ah), vI (S.X.used)] 86, .abs (aE Tryz.prog 3 m (aO (aK L S.idx)) S.idx.length), .abs (br 156 t S.X.cH S.av (aK L S.us)), .abs (ak (iO (aY S.O L) k bT.none)), .abs (ak (bh S.O L)), .abs R, .abs (aI 5 1 A1 (((obj S.O k).data ++ bs.take (aW S.X bs.length)).length) c2 (bL ((obj S.O k).data ++ bs.take (aW S.X bs.length))))]) (fun w hS => hS.Mn hL2 (f := (fun o => { o with data := o.data ++ bs.take (aW S.X bs.length) })) (i := 3) (j := 8) (ix := [0, 1, 2, 4, 5, 6, 7]) rfl rfl (by kernel_rfl) rfl (by show (obj S.O k).kind ≠ 0; rw [hkk]; decide) ((eH (L := L2) (k := k) (o := (fun o => { o with data := o.data ++ bs.take (aW S.X bs.length) }) (obj S.O k)) hkk).trans (by rw [Ei hL2, Ej hL2] <;> rfl)) (by show kX (obj S.O k).kind = _; rw [hkk]; rfl)) ?_
 refine aj.mem (aP := [pD (ay S.O k (fun o => { o with data := o.data ++ bs.take (aW S.X bs.length) })) L2, pO (ay S.O k (fun o => { o with data := o.data ++ bs.take (aW S.X bs.length) })) L2, pF f m t S.X, pI m L S.idx, pT t S.X.cH S.av L S.us, pE S.O L, .abs R]) (fun w hS => hS.Mp hL2 (f := (fun o => { o with data := o.data ++ bs.take (aW S.X bs.length) })) (i := 4) (j := 7) (ix := [0, 1, 2, 3, 5, 6]) rfl rfl (by kernel_rfl) rfl hkk rfl rfl) ?_
 refine aj.mem (aP := [.abs (ak (aY (ay S.O k (fun o => { o with data := o.data ++ bs.take (aW S.X bs.length) })) L2)), .abs (ak (aN (ay S.O k (fun o => { o with data := o.data ++ bs.take (aW S.X bs.length) })) L2)), .blk f [vI (S.X.cN), vI (S.X.cB), vI (S.X.cH), vI (S.X.cS), vI (S.X.cZ), .map (some m), vP t, vI (S.X.last), vI (S.X.ah), vI (S.X.used)] 86, .abs (aE Tryz.prog 3 m (aO (aK L2 S.idx)) S.idx.length), .abs (br 156 t S.X.cH S.av (aK L2 S.us)), .abs (ak (bh (ay S.O k (fun o => { o with data := o.data ++ bs.take (aW S.X bs.length) })) L2)), .abs R]) (fun w hS => by rw [CI hL2, CI hL2, show bh (ay S.O k (fun o => { o with data := o.data ++ bs.take (aW S.X bs.length) })) L2 = bh S.O L from (kR (O := S.O) (k := k) (f := (fun o => { o with data := o.data ++ bs.take (aW S.X bs.length) })) rfl rfl).trans (Jk hL2)]; exact hS) ?_
 have zN : (obj (ay S.O k (fun o => { o with data := o.data ++ bs.take (aW S.X bs.length) })) k).kind = 1 := (iH (f := (fun o => { o with data := o.data ++ bs.take (aW S.X bs.length) })) (fun _ => rfl)).trans hkk
 have hbk : L2.b k = L.b k := GZ hL2
 generalize bO : (ay S.O k (fun o => { o with data := o.data ++ bs.take (aW S.X bs.length) })) = bJ at zN ⊢
 refine NL (ai.np (NX (SR ?_)))
 refine gK 1 [(40, vP (L.b k))] [] ?_
 refine aj.slot 40 (vP (L.b k)) (vP (L2.b k)) (fun _ => by kernel_rfl) (by rw [hbk]) ?_
 refine gK 8 [(45, .agg #[vI (S.X.cS), vI (S.X.cZ)]), (48, .pointer (some ⟨(L2.b k), 4, none⟩))] [(4, A_ 2 f 2)] ?_
 refine G4 1 [(5, 1), (0, 2)] k S.X.cS S.X.cZ zN (fun cY cA => ?_)
 have uE := ku cA zN
 refine NS ?_
 refine gC 9 [] [(3, a_ 2 f), (5, p_ ⟨[], none, none, none, some (vI (S.X.used + (((aW S.X bs.length) : Nat) : Int)))⟩ [(Value.int .i64 (IntKind.wrap .i64 (S.X.used + (((aW S.X bs.length) : Nat) : Int)))) = (.int .i64 (S.X.used + (((aW S.X bs.length) : Nat) : Int)))] ⟨bE (by omega) (by omega) (by omega), trivial⟩), (8, a_ 2 f)] [(2, [(9, vI (S.X.used + (((aW S.X bs.length) : Nat) : Int)))])] ?_
 refine NS ?_
 refine gK 3 [(6, vI ↑(aW S.X bs.length)), (7, vI 0)] [] ?_
 refine NN (af.ret ?_)
 exact RT (l := [pF f m t { S.X with used := S.X.used + (((aW S.X bs.length) : Nat) : Int) }, pI m L2 S.idx, pT t S.X.cH S.av L2 S.us, pO cY L2, pD cY L2, pE cY L2]) (.tuple #[vI ↑(aW S.X bs.length), vI 0]) [2, 3, 4, 1, 0, 5, 6] (⟨L2, by subst cA; subst bO; rw [show writeM S k bs = _ from (if_neg (fun e => by rw [e] at hlen; exact absurd hlen (by simp))).trans (if_neg tK)]; exact ⟨rfl, by rw [qJ]⟩⟩)
end
end Go.Proofs.YtkiedlmhocglhaaGreatDoor
section
namespace Go.Proofs
open Go.Shelf
def Tryz.lays146_ren : Go.Shelf.Ren := ⟨fun | 146 => 102 | 221 => 145 | 268 => 178 | 138 => 179 | 143 => 180 | 195 => 194 | 197 => 195 | 218 => 196 | 219 => 197 | 260 => 202 | 217 => 181 | 225 => 154 | 224 => 153 | 267 => 203 | 266 => 198 | 314 => 204 | n => n, fun | 9 => 9 | 31 => 111 | 3 => 3 | 4 => 4 | 0 => 0 | 105 => 250 | 21 => 21 | 5 => 5 | 46 => 195 | 119 => 259 | 139 => 262 | 138 => 261 | 146 => 263 | 51 => 224 | n => n, fun | 1 => 0 | 3 => 1 | 4 => 2 | n => n⟩
theorem Tryz.lays146 : Go.Proofs.Lays.n146 Tryz.prog Tryz.lays146_ren := {
  mixed := by kernel_rfl
  f138 := Tryz.func179.trans (congrArg some (by kernel_rfl))
  f143 := Tryz.func180.trans (congrArg some (by kernel_rfl))
  f146 := Tryz.func102.trans (congrArg some (by kernel_rfl))
  f195 := Tryz.func194.trans (congrArg some (by kernel_rfl))
  f197 := Tryz.func195.trans (congrArg some (by kernel_rfl))
  f217 := Tryz.func181.trans (congrArg some (by kernel_rfl))
  f218 := Tryz.func196.trans (congrArg some (by kernel_rfl))
  f219 := Tryz.func197.trans (congrArg some (by kernel_rfl))
  f221 := Tryz.func145.trans (congrArg some (by kernel_rfl))
  f224 := Tryz.func153.trans (congrArg some (by kernel_rfl))
  f225 := Tryz.func154.trans (congrArg some (by kernel_rfl))
  f260 := Tryz.func202.trans (congrArg some (by kernel_rfl))
  f266 := Tryz.func198.trans (congrArg some (by kernel_rfl))
  f267 := Tryz.func203.trans (congrArg some (by kernel_rfl))
  f268 := Tryz.func178.trans (congrArg some (by kernel_rfl))
  f314 := Tryz.func204.trans (congrArg some (by kernel_rfl))
  t0 := Tryz.underlying0
  a0 := Tryz.isAgg0
  z0 := Tryz.sizeOf0
  v0 := Tryz.zeroValue0
  t3 := Tryz.underlying3
  a3 := Tryz.isAgg3
  z3 := Tryz.sizeOf3
  v3 := Tryz.zeroValue3
  t4 := Tryz.underlying4
  a4 := Tryz.isAgg4
  z4 := Tryz.sizeOf4
  v4 := Tryz.zeroValue4
  t5 := Tryz.underlying5
  a5 := Tryz.isAgg5
  z5 := Tryz.sizeOf5
  v5 := Tryz.zeroValue5
  t9 := Tryz.underlying9
  a9 := Tryz.isAgg9
  z9 := Tryz.sizeOf9
  v9 := Tryz.zeroValue9
  t21 := Tryz.underlying21
  a21 := Tryz.isAgg21
  z21 := Tryz.sizeOf21
  v21 := Tryz.zeroValue21
  t31 := Tryz.underlying111
  a31 := Tryz.isAgg111
  z31 := Tryz.sizeOf111
  v31 := Tryz.zeroValue111
  t46 := Tryz.underlying195
  a46 := Tryz.isAgg195
  z46 := Tryz.sizeOf195
  v46 := Tryz.zeroValue195
  t51 := Tryz.underlying224
  a51 := Tryz.isAgg224
  z51 := Tryz.sizeOf224
  v51 := Tryz.zeroValue224
  t105 := Tryz.underlying250
  a105 := Tryz.isAgg250
  z105 := Tryz.sizeOf250
  v105 := Tryz.zeroValue250
  t119 := Tryz.underlying259
  a119 := Tryz.isAgg259
  z119 := Tryz.sizeOf259
  t138 := Tryz.underlying261
  a138 := Tryz.isAgg261
  z138 := Tryz.sizeOf261
  v138 := Tryz.zeroValue261
  t139 := Tryz.underlying262
  a139 := Tryz.isAgg262
  z139 := Tryz.sizeOf262
  v139 := Tryz.zeroValue262
  t146 := Tryz.underlying263
  a146 := Tryz.isAgg263
  z146 := Tryz.sizeOf263
  v146 := Tryz.zeroValue263
  g1 := by kernel_rfl
  g3 := by kernel_rfl
  g4 := by kernel_rfl }
open Go.RowKit Go.Lib in
theorem Tryz.strings_Split (s sep : ByteArray) (m : Int) (w : World) (hs : s.size < 4294967281) (hm : w.cell? ⟨0, 0, none⟩ = some (.int .i64 m)) (h1 : 1 ≤ sep.size) :
    Calls Tryz.prog 102 #[.string s, .string sep] w fun e w' =>
      e = .returned (.slice (some ⟨w.heap.size, 0, none⟩) (Lib.countB s sep + 1) (Lib.countB s sep + 1)) ∧ w' = w.alloc (.cells ((Lib.splitB sep 0 (Lib.countB s sep) s).map Value.string).toArray 9) := Any.strings_Split Tryz.lays146 (by kernel_rfl) s sep m w hs hm h1
end Go.Proofs
end
namespace Go.Proofs.YtkiedlmhocglhaaGreatDoor
section
open Go.RowKit Go.Maps HeapM TabM
def jb (β : Bs) : Prop := ∃ m, Rd β ⟨0, 0, none⟩ (.int .i64 m)
theorem jb.le {β β' : Bs} (h : jb β) (hle : β.le β') : jb β' := h.imp fun _ h => h.le hle
theorem yQ (s : ByteArray) : (gS s).length = Lib.countB s slash + 1 := Lib.splitB_all slash (by decide) 0 _ s rfl
theorem uK (s : ByteArray) : Lib.countB s slash ≤ s.size := Lib.countB_le slash (by decide) _ s (Nat.le_refl _)
theorem v7 (sep : ByteArray) : ∀ (k : Nat) (s : ByteArray), ∀ p ∈ Lib.splitB sep 0 k s, p.size ≤ s.size
  | 0, s, p, hp => by
    rw [Lib.splitB_zero] at hp
    rw [List.mem_singleton.1 hp]; exact Nat.le_refl _
  | k + 1, s, p, hp => by
    rcases Lib.indexB_cases s sep with hix | ⟨i, hix, _⟩
    ·rw [Lib.splitB_miss sep 0 (k + 1) s hix] at hp
     rw [List.mem_singleton.1 hp]; exact Nat.le_refl _
    rw [Lib.splitB_hit sep 0 k s i hix] at hp
    rcases List.mem_cons.1 hp with rfl | hp
    ·rw [ByteArray.size_extract]; omega
    have := v7 sep k _ p hp
    rw [ByteArray.size_extract] at this
    omega
theorem DQ {s p : ByteArray} (hp : p ∈ gS s) : p.size ≤ s.size := v7 slash _ s p hp
def j7 (ps : List ByteArray) : List Value := ps.map Value.string
theorem Jt {β : Bs} (hg : jb β) (s : ByteArray) (hs : s.size ≤ 1048576) : Spec Tryz.prog β 102 #[.string s, .string ⟨#[47]⟩] [] (fun v l => ∃ b, v = .slice (some ⟨b, 0, none⟩) (gS s).length (gS s).length ∧ l = [.abs (aI 9 1 (some ⟨b, 0, none⟩) (gS s).length (gS s).length (j7 (gS s)))]) :=
  Spec.xH fun W hW => by
    obtain ⟨m, hg⟩ := hg
    have hm : W.cell? ⟨0, 0, none⟩ = some (.int .i64 m) := (World.cell?_of_block (w := β.w0) (hW.old _ hg.1).2).trans hg.2
    have hl := yQ s
    have hc := uK s
    refine (Tryz.strings_Split s slash m W (by omega) hm (by decide)).mono ?_
    rintro e w' ⟨rfl, rfl⟩
    refine ⟨_, _, rfl, ⟨W.heap.size, by rw [hl], rfl⟩, (Keeps.refl _ _).alloc _, fun k => k = W.heap.size, ⟨⟨?_, .inr ⟨W.heap.size, (gS s).length, (j7 (gS s)).toArray, rfl, Nat.zero_le _, ?_, Nat.le_refl _, ?_, ?_, ?_⟩⟩, fun k => ?_⟩, fun k hk => Nat.le_of_eq hk.symm⟩
    ·simp [j7]
    ·show (W.heap.push _)[W.heap.size]? = _
     simp [j7, gS]
    ·unfold maxLen; omega
    ·first | (simp [j7]; done) | (simp [j7]; exact List.take_of_length_le (by simp))
    ·first | (simp [j7]; done) | (simp [j7]; exact List.take_of_length_le (by simp))
    simp [Value.ownBlock, eq_comm]
theorem Hf {β : Bs} {ps : List ByteArray} (hg : jb β) (s : ByteArray) (hs : s.size ≤ 1048576) (hp : ps = gS s) : Spec Tryz.prog β 102 #[.string s, .string ⟨#[47]⟩] [] (fun v l => ∃ b, v = .slice (some ⟨b, 0, none⟩) ps.length ps.length ∧ l = [.abs (aI 9 1 (some ⟨b, 0, none⟩) ps.length ps.length (j7 ps))]) := by
  subst hp; exact Jt hg s hs
def pc (ps : List ByteArray) (j : Nat) : ByteArray := ps.getD j ⟨#[]⟩
theorem Hg {ps : List ByteArray} {j : Nat} (hj : j < ps.length) : pc ps j ∈ ps := by
  unfold pc
  rw [List.getD_eq_getElem?_getD, List.getElem?_eq_getElem hj]
  exact List.getElem_mem _
theorem wY {ps : List ByteArray} {j : Nat} (hj : j < ps.length) : (j7 ps)[j]? = some (.string (pc ps j)) := by
  unfold j7 pc
  rw [List.getElem?_map, List.getD_eq_getElem?_getD, List.getElem?_eq_getElem hj]
  rfl
theorem zQ {ps : List ByteArray} {j : Nat} (hj : j < ps.length) : ps.drop j = pc ps j :: ps.drop (j + 1) := by
  unfold pc
  rw [List.getD_eq_getElem?_getD, List.getElem?_eq_getElem hj]
  exact List.drop_eq_getElem_cons hj
theorem CW {ps : List ByteArray} : (∀ p ∈ ps, bB p) ↔ ∀ j, j < ps.length → bB (pc ps j) := by
  refine ⟨fun h j hj => h _ (Hg hj), fun h p hp => ?_⟩
  obtain ⟨j, hj, rfl⟩ := List.getElem_of_mem hp
  have := h j hj
  unfold pc at this
  rw [List.getD_eq_getElem?_getD, List.getElem?_eq_getElem hj] at this
  exact this
theorem A6 {n : ByteArray} (h : bB n) : n.size ≤ 1048576 := Nat.le_trans h.2.1 (by decide)
theorem CX {O : bK} : ∀ {ps : List ByteArray} {d : Nat} {e : Int}, wayW O d ps = .error e → e ≠ 0
  | [], d, e, h => by cases h; decide
  | [p], d, e, h => by
    unfold wayW at h
    split at h
    ·cases h; decide
    cases h
  | p :: q :: r, d, e, h => by
    unfold wayW at h
    split at h
    ·cases h; decide
    split at h
    ·cases h; decide
    split at h
    ·cases h; decide
    exact CX h
theorem A8 {S : aG} {d : Nat} (hI : Inv S) (hd : Live S.idx ⟨d, 2⟩) (path : ByteArray) : (∃ e, wayM S.O d path = .error e ∧ e ≠ 0) ∨ ∃ d' name, wayM S.O d path = .ok (d', name) ∧ Live S.idx ⟨d', 2⟩ ∧ (obj S.O d').gone = false ∧ bB name := by
  cases h : wayM S.O d path with
  | error e =>
    refine .inl ⟨e, rfl, ?_⟩
    unfold wayM at h
    split at h
    ·exact CX h
    cases h; decide
  | ok x =>
    obtain ⟨d', name⟩ := x
    exact .inr ⟨d', name, rfl, rX hI.toInv0 hd h⟩
section way
variable {O : bK} {d : Nat} {ps : List ByteArray} {j : Nat}
theorem Ba (hj : j + 1 = ps.length) : wayW O d (ps.drop j) = if (obj O d).gone = true then .error 170 else .ok (d, pc ps j) := by
  rw [zQ (by omega), List.drop_of_length_le (by omega)]
  rfl
theorem qR (hj : j + 1 < ps.length) : wayW O d (ps.drop j) = match aQ (pc ps j) (obj O d).ah with
    | none => .error 170
    | some t => if t.kind = 3 then .error 174 else if t.kind = 1 then .error 173 else wayW O t.k (ps.drop (j + 1)) := by
  rw [zQ (j := j) (by omega), zQ (j := j + 1) hj]
  rfl
end way
section bytes
variable {P : Program} {β : Bs} {N : Nat} {ops : Array Oper} {k : Nat} {fr : Fr} {hps : List HP} {Q : Post} {d : Option Tmp} {s : ByteArray}
theorem Bs.ok.Lg {β : Bs} {w : World} (h : β.ok w) (F : Nat → Prop) : β.le ⟨fun k => β.O k ∨ F k, w⟩ := ⟨fun _ h => .inl h, h.os, h.tape, h.output, h.size, fun k hk => h.old k hk⟩
theorem aj.CY {t1 t2 e : TypeId} {x : Operand} (hop : ∀ junk, dO N junk ops fr k = some (.convert t1 t2 x, d)) (hx : ∀ junk, cC N fr junk x = .string s) (h1 : P.underlying t1 = some .string) (h2 : P.underlying t2 = some (.slice e)) (h3 : P.underlying e = some (.int .u8))
    (K : ∀ b cap, s.data.toList.length ≤ cap → aj P β N ops (k + 1) (cJ fr d (.slice (some ⟨b, 0, none⟩) s.data.toList.length cap)) (hps ++ [.abs (mW β (fun β' => bH β' (some ⟨b, 0, none⟩) s.data.toList))]) Q) : aj P β N ops k fr hps Q := by
  refine aj.wA (ι := { p : Nat × Nat // s.data.toList.length ≤ p.2 }) (v := fun p => .slice (some ⟨p.1.1, 0, none⟩) s.data.toList.length p.1.2) (hp' := fun p => hps ++ [.abs (mW β (fun β' => bH β' (some ⟨p.1.1, 0, none⟩) s.data.toList))]) hop (fun o junk w ho hS => ?_) (fun p => K p.1.1 p.1.2 p.2)
  have hr := run_bytes_of_string (P := P) w t1 t2 e s h1 h2 h3
  have hsz : s.data.toList.length = s.size := Array.length_toList ..
  generalize hw : (w.drew.alloc (.cells (bytesRow s (grownCap w s.size 0 e)) e ((bytesRow s (grownCap w s.size 0 e)).size, (bytesRow s (grownCap w s.size 0 e)).size + 1))) = w' at hr
  have hk : Keeps (fun _ => False) w w' := by rw [← hw]; exact (Keeps.refl _ _).drew.alloc _
  have hok := hS.1.keeps hk (fun _ _ h => h)
  have hheap : w'.heap[w.heap.size]? = some (.cells (bytesRow s (grownCap w s.size 0 e)) e ((bytesRow s (grownCap w s.size 0 e)).size, (bytesRow s (grownCap w s.size 0 e)).size + 1)) := by
    rw [← hw]
    show (w.heap.push _)[w.heap.size]? = _
    simp
  have hsize : w.heap.size < w'.heap.size := by
    have := (Array.getElem?_eq_some_iff.1 hheap).1
    exact this
  refine ⟨⟨(w.heap.size, grownCap w s.size 0 e), by rw [hsz]; exact grownCap_ge w s.size 0 e⟩, w', .inl ?_, hS.new (F := fun k => k = w.heap.size) ?_ hk (fun k e => Nat.le_of_eq e.symm)⟩
  ·obtain ⟨dst, op, type, pos, after, guard⟩ := o
   cases ho
   have hr2 : (convert t1 t2 (.string s)).run P w = .ok (.slice (some ⟨w.heap.size, 0, none⟩) s.data.toList.length (grownCap w s.size 0 e)) w' := by rw [hr, hsz]
   simp only [execOp, hx]
   simp [hr2, Result.andThen]
  refine ⟨⟨fun k => β.O k ∨ k = w.heap.size, w'⟩, hok.Lg _, fun _ h => h, fun _ h => .inr h, Nat.le_refl _, fun k hk => ⟨by rw [hk]; exact hsize, rfl⟩, fun j v hj => ⟨rfl, .inr rfl, ?_⟩⟩
  show World.cell? w' ⟨w.heap.size, 0 + j, none⟩ = some v
  have hj2 := bw hj
  unfold World.cell?
  rw [hheap]
  unfold bL at hj hj2
  rw [List.length_map] at hj2
  rw [List.getElem?_map, List.getElem?_eq_getElem hj2] at hj
  simp only [Option.map_some, Option.some.injEq] at hj
  subst hj
  unfold bytesRow
  rw [Nat.zero_add]
  simp only [Option.isSome_none, Bool.false_eq_true, if_false]
  have hj3 : j < s.data.size := by rw [← Array.length_toList]; exact hj2
  rw [Array.getElem?_append_left (by simpa using hj3)]
  simp [sD]
  exact ⟨_, Array.getElem?_eq_getElem hj3, rfl⟩
end bytes
theorem yR {β : Bs} (S : aG) (L : HL) (f m t : Nat) (hI : Inv S) (k : Nat) (hk : Live S.idx ⟨k, 1⟩) (A : Option Addr) (c : Nat) (bs : List UInt8) (hbl : bs.length ≤ 1099511627776) (hbc : bs.length ≤ c) :
    Spec Tryz.prog β 57 #[vP f, vP (L.b k), .slice A bs.length c] (.abs (mW β (fun β' => bH β' A bs)) :: pA f m t L S) (fun v l => ∃ L2, v = .tuple #[vI (writeM S k bs).1, vI (writeM S k bs).2.1] ∧ l = pA f m t L2 (writeM S k bs).2.2) :=
  Spec.Fg fun _ _ hA => AZ S L f m t hI k hk A c bs hA hbl hbc
def wZ (L : HL) : Except Int (Nat × ByteArray) → Value
  | .error e => .tuple #[.pointer none, .string ⟨#[]⟩, .int .i64 e]
  | .ok (d, p) => .tuple #[.pointer (some ⟨L.b d, 0, none⟩), .string p, .int .i64 0]
end
end Go.Proofs.YtkiedlmhocglhaaGreatDoor
