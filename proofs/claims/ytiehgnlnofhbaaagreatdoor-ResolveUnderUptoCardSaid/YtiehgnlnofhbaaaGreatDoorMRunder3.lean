/-
  PROVED HERE: lemmas and contracts of functions (texts of this repo, joined; what the claim does not use is left out): Hv, Hw, Hx, Op, Hy, Hz, Ac, Wo, Wx, ShelfS, SK, HG, Vp, Fz, Ws, Wk, Hc, Hd, H1, H2, H3, H4, H5.
  CONDITIONS: as the theorems say.
-/
import Derived.Test.YtiehgnlnofhbaaaGreatDoorMRunder2
import Derived.Lib.Split
import Derived.Shelf.SlGeneric
import Derived.Shelf.SlIter.Nil
import Derived.Shelf.SortM.Plain
import Derived.Shelf.SortM.SortNone
import Derived.Ground.GgzProg
import Derived.Ground.SlgmProg
import Derived.Test.YtiehgnlnofhbaaaGreatDoorProg
set_option maxRecDepth 100000
set_option maxHeartbeats 4000000
namespace Go.Proofs.YtiehgnlnofhbaaaGreatDoor
section
open Go.RowKit Go.Maps bC aE
section ops
variable {S:aI} {d to:Nat} {name toName:ByteArray} {t:Th}
theorem Inv.link (hI:Inv S) (hd:Live S.idx ⟨d,2⟩) (kq:(obj S.O d).gone=false) (hn:aT name (obj S.O d).ah=none) (hgn:bF name) (ht:Live S.idx t) (JJ:(obj S.O t.k).gone=false) (hk:t.kind≠2) (hroom:S.X.ah < 8192) :
    Inv { S with X:={ S.X with ah:=S.X.ah+1 },O:=cO S.X S.O d name t }:=by
  have hne:t.k≠d:=fun e=>hk (congrArg Th.kind (iy ht hd e))
  have h1:=hI.toInv0.put hd kq hn hgn ht JJ (fun e=>absurd e hk) hne hroom hI.now (fun k=>yM hne)
  refine⟨h1,fun x hx hg=>?_⟩
  have hg:(obj (cO S.X S.O d name t) x.k).gone=true:=hg
  show 0 < (obj (cO S.X S.O d name t) x.k).opens
  rw [mh (g:=aY.gone) (fun _ _=>rfl) (fun _ _=>rfl) (fun _ _ _=>rfl) (fun _ _=>rfl)] at hg
  rw [mh (g:=aY.opens) (fun _ _=>rfl) (fun _ _=>rfl) (fun _ _ _=>rfl) (fun _ _=>rfl)]
  exact hI.full x hx hg
theorem kK (hne:t.k≠d) {X:FM} {O:bW} (h:aT toName (obj O to).ah=none):aT toName (obj (aQ X O d name t) to).ah=none:=by
  rw [jg hne]
  split
  ·rename_i e
   subst e
   show aT toName (ig name (obj O to).ah)=none
   rw [rG];split
   ·rfl
   exact h
  split
  ·exact h
  exact h
theorem Inv.move (hI:Inv S) (hd:Live S.idx ⟨d,2⟩) (hl:aT name (obj S.O d).ah=some t) (hto:Live S.idx ⟨to,2⟩) (kq:(obj S.O to).gone=false) (hn:aT toName (obj S.O to).ah=none) (hgn:bF toName) (hb:t.kind=2->¬ fV S.O t.k to):Inv (j7 S d name to toName t):=by
  have hne:=hI.ne hd hl
  have ht:=(hI.ent hd hl).2
  have PA:t.k≠to:=fun e=>by
    have h1:t=⟨to,2⟩:=iy ht hto e
    exact hb (by rw [h1]) (by rw [e];exact .here)
  have hgt:(obj S.O t.k).gone=false:=by
    cases hg:(obj S.O t.k).gone with
    | false=>rfl
    | true=>
      have h1:=(hI.gone t ht hg).1
      have h2:=hI.links t ht
      have h3:0 < iT S.idx S.O t.k:=mM hd hl
      omega
  have hO:∀ k,obj (orphan (aQ S.X S.O d name t) t.k) k=if k=d then { obj S.O d with ah:=ig name (obj S.O d).ah,sec:=S.X.cS,nano:=S.X.cZ } else if k=t.k then { obj S.O k with links:=(obj S.O k).links - 1,gone:=(obj S.O t.k).gone,up:=none } else obj S.O k:=fun k=>by
    unfold orphan
    rw [jI]
    by_cases e:k=t.k
    ·rw [if_pos e,jg hne,if_neg (fun e2=>hne (e.symm.trans e2)),if_pos e,if_neg (fun e2=>hne (e.symm.trans e2)),if_pos e,e]
    rw [if_neg e,jg hne,if_neg e,if_neg e]
  have h1:=hI.toInv0.cut hd hl hO (.inl rfl)
  have g0:∀ {α:Type} (g:aY->α),(∀ o es,g { o with ah:=es }=g o)->(∀ o l,g { o with links:=l }=g o)->(∀ o a b,g { o with sec:=a,nano:=b }=g o)->(∀ o u,g { o with up:=u }=g o)->∀ k,g (obj (orphan (aQ S.X S.O d name t) t.k) k)=g (obj S.O k):=fun g a b c e k=>(jw (fun o=>e o none)).trans (dF a b c)
  have hlk:=hI.links t ht
  have hlp:0 < iT S.idx S.O t.k:=mM hd hl
  have hend:(obj (orphan (aQ S.X S.O d name t) t.k) to).ah=(obj (aQ S.X S.O d name t) to).ah:=jw (g:=aY.ah) (fun _=>rfl)
  have h2:=h1.put (d:=to) (name:=toName) (t:=t) (O':=(j7 S d name to toName t).O) hto (by
      show (obj (orphan (aQ S.X S.O d name t) t.k) to).gone=false
      rw [g0 aY.gone (fun _ _=>rfl) (fun _ _=>rfl) (fun _ _ _=>rfl) (fun _ _=>rfl)];exact kq) (by
      show aT toName (obj (orphan (aQ S.X S.O d name t) t.k) to).ah=none
      rw [hend];exact kK hne hn) hgn ht (by
      show (obj (orphan (aQ S.X S.O d name t) t.k) t.k).gone=false
      rw [g0 aY.gone (fun _ _=>rfl) (fun _ _=>rfl) (fun _ _ _=>rfl) (fun _ _=>rfl)];exact hgt) (fun hk=>⟨by
        have h3:=hI.once t ht hk
        show (obj (orphan (aQ S.X S.O d name t) t.k) t.k).links=0
        rw [hO,if_neg hne,if_pos rfl]
        show (obj S.O t.k).links - 1=0
        omega,fun hb2=>hb hk (wV (fun x e hx=>by
          have hx:(obj (orphan (aQ S.X S.O d name t) t.k) x).up=some e:=hx
          by_cases e1:x=t.k
          ·rw [hO,if_neg (by rw [e1];exact hne),if_pos e1] at hx;cases hx
          rw [hO] at hx
          split at hx
          ·rename_i e2;rw [e2];exact hx
          first|exact hx|(rw [if_neg e1] at hx;exact hx)) hb2)⟩) PA (by
      have:=hI.total
      show S.X.ah - 1 < 8192
      omega) hI.now (fun k=>by
      show obj (cO S.X (aQ S.X S.O d name t) to toName t) k=_
      rw [yM PA]
      by_cases e:k=to
      ·rw [if_pos e,if_pos e]
       have h3:obj (orphan (aQ S.X S.O d name t) t.k) to=obj (aQ S.X S.O d name t) to:=bT (fun e=>PA e.symm)
       rw [show obj _ to=_ from h3]
      rw [if_neg e,if_neg e]
      by_cases e2:k=t.k
      ·rw [if_pos e2,if_pos e2,e2]
       show _={ obj (orphan (aQ S.X S.O d name t) t.k) t.k with links:=(obj (orphan (aQ S.X S.O d name t) t.k) t.k).links+1,up:=if t.kind=2 then some to else (obj (orphan (aQ S.X S.O d name t) t.k) t.k).up }
       have h3:obj (orphan (aQ S.X S.O d name t) t.k) t.k={ obj (aQ S.X S.O d name t) t.k with up:=none }:=cD
       rw [h3]
       by_cases hk:t.kind=2
       ·rw [if_pos hk,if_pos hk]
       rw [if_neg hk,if_neg hk]
       have KN:(obj (aQ S.X S.O d name t) t.k).up=none:=by
         rw [dF (g:=aY.up) (fun _ _=>rfl) (fun _ _=>rfl) (fun _ _ _=>rfl)]
         cases hu:(obj S.O t.k).up with
         | none=>rfl
         | some e=>exact absurd ((hI.up t ht e).1 hu).1 hk
       rw [KN]
      rw [if_neg e2,if_neg e2]
      have h3:obj (orphan (aQ S.X S.O d name t) t.k) k=obj (aQ S.X S.O d name t) k:=bT e2
      exact h3.symm)
  refine⟨h2,fun x hx hg=>?_⟩
  have g3:∀ {α:Type} (g:aY->α),(∀ o es,g { o with ah:=es }=g o)->(∀ o l,g { o with links:=l }=g o)->(∀ o a b,g { o with sec:=a,nano:=b }=g o)->(∀ o u,g { o with up:=u }=g o)->∀ k,g (obj (j7 S d name to toName t).O k)=g (obj S.O k):=fun g a b c e k=>(mh a b c e).trans (dF a b c)
  rw [g3 aY.gone (fun _ _=>rfl) (fun _ _=>rfl) (fun _ _ _=>rfl) (fun _ _=>rfl)] at hg
  rw [g3 aY.opens (fun _ _=>rfl) (fun _ _=>rfl) (fun _ _ _=>rfl) (fun _ _=>rfl)]
  exact hI.full x hx hg
theorem Ea {us:Used Th} {h:Int} {k:Nat}:hnd (ins h t us) k=(if t.k=k then 1 else 0)+hnd us k:=BH
theorem R8 {us:Used Th} {h:Int} {k:Nat} (hr:aE.cq (keys us)) (e:aE.get us h=some t):hnd (del h us) k+(if t.k=k then 1 else 0)=hnd us k:=BJ (g:=fun p:Int×Th=>if p.2.k=k then 1 else 0) hr e
theorem JO {us:Used Th} {aD:Int} (hr:aE.cq (keys us)) (h1:∀ x∈keys us,1<=x/\x<=aD):aE.cq (keys (ins (aE.least us) t us))/\∀ x∈keys (ins (aE.least us) t us),1<=x/\x<=max aD ((us.length:Int)+1):=by
  obtain⟨g1,g2,_⟩:=least_le hr (fun x hx=>(h1 x hx).1)
  have g3:=Ja us
  refine⟨wQ hr g2,fun x hx=>?_⟩
  rcases (l6 _ _ _ _).1 hx with e|e
  ·subst e;omega
  have:=h1 x e;omega
theorem Inv.cW (hI:Inv S) (ht:Live S.idx t) (hk:t.kind≠3):Inv (Proofs.YtiehgnlnofhbaaaGreatDoor.cW S t).2.2:=by
  by_cases hlt:(S.us.length:Int) < S.X.cH
  ·rw [jf hlt]
   obtain⟨g1,g2,_⟩:=least_le hI.usr (fun x hx=>(hI.sE x hx).1)
   obtain⟨v1,v2⟩:=JO (t:=t) hI.usr hI.sE
   have hb:bytes S.idx (aO S.O t.k (fun o=>{ o with opens:=o.opens+1 }))=bytes S.idx S.O:=gX (fun p _=>by rw [cE (f:=fun o=>{ o with opens:=o.opens+1 }) (g:=aY.data) (fun _=>rfl)])
   have h1:=hI.toInv0.own (k:=t.k) (f:=fun o=>{ o with opens:=o.opens+1 }) (kT:=S.X.used) (us':=ins (aE.least S.us) t S.us) (gY:=max S.aD ((S.us.length:Int)+1)) (fun _=>rfl) (fun _=>rfl) (fun _=>rfl) (fun _=>rfl) (fun _=>rfl) (fun _=>rfl)
     (fun u hu e=>by rw [← e];exact (hI.mt u hu).of rfl rfl rfl (hI.mt u hu).time rfl (.inl rfl) (.inl rfl) rfl)
     (fun u hu=>by
       have h2:=hI.opens u hu
       rw [Ea]
       by_cases e:u.k=t.k
       ·rw [e,cD,if_pos rfl,← e]
        show (obj S.O u.k).opens+1=_
        omega
       rw [bT e,if_neg (fun e2=>e e2.symm)];omega)
     v1 v2 (by rw [iw];omega) (by have:=hI.aD;omega) (fun h u e=>by
       rw [lf g2] at e
       split at e
       ·cases e;exact⟨ht,hk⟩
       exact hI.us h u e) ⟨by rw [hb];exact hI.used.1,hI.used.2⟩
   refine⟨h1,fun u hu hg=>?_⟩
   have hg:(obj (aO S.O t.k (fun o=>{ o with opens:=o.opens+1 })) u.k).gone=true:=hg
   rw [cE (f:=fun o=>{ o with opens:=o.opens+1 }) (g:=aY.gone) (fun _=>rfl)] at hg
   have h2:=hI.full u hu hg
   show 0 < (obj (aO S.O t.k (fun o=>{ o with opens:=o.opens+1 })) u.k).opens
   by_cases e:u.k=t.k
   ·rw [e,cD];rw [e] at h2;show 0 < (obj S.O t.k).opens+1;omega
   rw [bT e];exact h2
  rw [jT hlt];exact hI
theorem Inv.d9 (hI:Inv S) {k:Nat} (ht:Live S.idx ⟨k,1⟩) (bs:List UInt8):Inv (Proofs.YtiehgnlnofhbaaaGreatDoor.d9 S k bs).2.2:=by
  unfold Proofs.YtiehgnlnofhbaaaGreatDoor.d9
  split
  ·exact hI
  split
  ·exact hI
  rename_i hroom
  have hlen:(obj (aO S.O k (fun o=>{ o with data:=o.data++bs.take (bA S.X bs.length),sec:=S.X.cS,nano:=S.X.cZ })) k).data.length=(obj S.O k).data.length+bA S.X bs.length:=by
    rw [cD]
    show ((obj S.O k).data++bs.take (bA S.X bs.length)).length=_
    rw [List.length_append,List.length_take]
    unfold bA
    omega
  have hb:=BI (g:=fun p:Int×Th=>(obj S.O p.2.k).data.length) (g':=fun p:Int×Th=>(obj (aO S.O k (fun o=>{ o with data:=o.data++bs.take (bA S.X bs.length),sec:=S.X.cS,nano:=S.X.cZ })) p.2.k).data.length) hI.rise ht (fun p hp hne=>by
    have h1:=hI.key (o9 hI.rise hp)
    show (obj (aO _ k _) p.2.k).data.length=_
    rw [bT (fun e=>hne (by rw [h1,e]))])
  have hb:bytes S.idx (aO S.O k (fun o=>{ o with data:=o.data++bs.take (bA S.X bs.length),sec:=S.X.cS,nano:=S.X.cZ }))+(obj S.O k).data.length=bytes S.idx S.O+(obj (aO S.O k (fun o=>{ o with data:=o.data++bs.take (bA S.X bs.length),sec:=S.X.cS,nano:=S.X.cZ })) k).data.length:=hb
  have hu:=hI.used
  have hcB:=hI.cB
  have h1:=hI.toInv0.own (k:=k) (f:=fun o=>{ o with data:=o.data++bs.take (bA S.X bs.length),sec:=S.X.cS,nano:=S.X.cZ }) (kT:=S.X.used+(bA S.X bs.length:Int)) (us':=S.us) (gY:=S.aD) (fun _=>rfl) (fun _=>rfl) (fun _=>rfl) (fun _=>rfl) (fun _=>rfl) (fun _=>rfl)
    (fun u hu e=>by
      have hk1:u=⟨k,1⟩:=iy hu ht e
      have VG:=hI.kind hu
      rw [← e]
      exact (hI.mt u hu).of rfl rfl rfl hI.now rfl (.inr (by rw [VG,hk1])) (.inl rfl) rfl)
    (fun u hu=>by rw [cE (f:=fun o=>{ o with data:=o.data++bs.take (bA S.X bs.length),sec:=S.X.cS,nano:=S.X.cZ }) (g:=aY.opens) (fun _=>rfl)];exact hI.opens u hu)
    hI.usr hI.sE hI.CI hI.aD hI.us ⟨by omega,by unfold bA;omega⟩
  refine⟨h1,fun u hu hg=>?_⟩
  have hg:(obj (aO S.O k (fun o=>{ o with data:=o.data++bs.take (bA S.X bs.length),sec:=S.X.cS,nano:=S.X.cZ })) u.k).gone=true:=hg
  rw [cE (f:=fun o=>{ o with data:=o.data++bs.take (bA S.X bs.length),sec:=S.X.cS,nano:=S.X.cZ }) (g:=aY.gone) (fun _=>rfl)] at hg
  show 0 < (obj (aO S.O k (fun o=>{ o with data:=o.data++bs.take (bA S.X bs.length),sec:=S.X.cS,nano:=S.X.cZ })) u.k).opens
  rw [cE (f:=fun o=>{ o with data:=o.data++bs.take (bA S.X bs.length),sec:=S.X.cS,nano:=S.X.cZ }) (g:=aY.opens) (fun _=>rfl)]
  exact hI.full u hu hg
theorem Inv.VH (hI:Inv S) {k:Nat} {mode uid gid sec nano:Int} (h1:oe mode) (h2:CH uid/\CH gid) (h3:fL sec nano):Inv { S with O:=aO S.O k (fun o=>{ o with mode:=mode,uid:=uid,gid:=gid,sec:=sec,nano:=nano }) }:=by
  have hb:bytes S.idx (aO S.O k (fun o=>{ o with mode:=mode,uid:=uid,gid:=gid,sec:=sec,nano:=nano }))=bytes S.idx S.O:=gX (fun p _=>by rw [cE (f:=fun o=>{ o with mode:=mode,uid:=uid,gid:=gid,sec:=sec,nano:=nano }) (g:=aY.data) (fun _=>rfl)])
  have g1:=hI.toInv0.own (k:=k) (f:=fun o=>{ o with mode:=mode,uid:=uid,gid:=gid,sec:=sec,nano:=nano }) (kT:=S.X.used) (us':=S.us) (gY:=S.aD) (fun _=>rfl) (fun _=>rfl) (fun _=>rfl) (fun _=>rfl) (fun _=>rfl) (fun _=>rfl)
    (fun u hu e=>by
      have hm:=hI.mt u hu
      rw [e] at hm
      exact⟨h1,h2.1,h2.2,h3,hm.data,hm.ah,hm.target⟩)
    (fun u hu=>by rw [cE (f:=fun o=>{ o with mode:=mode,uid:=uid,gid:=gid,sec:=sec,nano:=nano }) (g:=aY.opens) (fun _=>rfl)];exact hI.opens u hu)
    hI.usr hI.sE hI.CI hI.aD hI.us ⟨by rw [hb];exact hI.used.1,hI.used.2⟩
  refine⟨g1,fun u hu hg=>?_⟩
  have hg:(obj (aO S.O k (fun o=>{ o with mode:=mode,uid:=uid,gid:=gid,sec:=sec,nano:=nano })) u.k).gone=true:=hg
  rw [cE (f:=fun o=>{ o with mode:=mode,uid:=uid,gid:=gid,sec:=sec,nano:=nano }) (g:=aY.gone) (fun _=>rfl)] at hg
  show 0 < (obj (aO S.O k (fun o=>{ o with mode:=mode,uid:=uid,gid:=gid,sec:=sec,nano:=nano })) u.k).opens
  rw [cE (f:=fun o=>{ o with mode:=mode,uid:=uid,gid:=gid,sec:=sec,nano:=nano }) (g:=aY.opens) (fun _=>rfl)]
  exact hI.full u hu hg
theorem Inv.shut (hI:Inv S) {h:Int} (e:aE.get S.us h=some t):Inv { S with
      X:={ S.X with used:=jO (iR S.O t.k) S.X.used t }
      O:=iR S.O t.k
      idx:=jj (iR S.O t.k) S.idx t
      us:=del h S.us }:=by
  have ht:=(hI.us h t e).1
  have hb:bytes S.idx (iR S.O t.k)=bytes S.idx S.O:=gX (fun p _=>by unfold iR;rw [cE (f:=fun o=>{ o with opens:=o.opens - 1 }) (g:=aY.data) (fun _=>rfl)])
  have hd:=fun k=>R8 (k:=k) hI.usr e
  have h1:=hI.toInv0.own (k:=t.k) (f:=fun o=>{ o with opens:=o.opens - 1 }) (kT:=S.X.used) (us':=del h S.us) (gY:=S.aD) (fun _=>rfl) (fun _=>rfl) (fun _=>rfl) (fun _=>rfl) (fun _=>rfl) (fun _=>rfl)
    (fun u hu e=>by rw [← e];exact (hI.mt u hu).of rfl rfl rfl (hI.mt u hu).time rfl (.inl rfl) (.inl rfl) rfl)
    (fun u hu=>by
      have h2:=hI.opens u hu
      have h3:=hd u.k
      by_cases e2:u.k=t.k
      ·rw [e2,cD]
       rw [e2] at h2 h3
       rw [if_pos rfl] at h3
       show (obj S.O t.k).opens - 1=_
       omega
      rw [if_neg (fun e3=>e2 e3.symm)] at h3
      rw [bT e2];omega)
    (GJ hI.usr) (fun x hx=>hI.sE x (by rw [oA] at hx;exact (List.mem_filter.1 hx).1)) (by have:=nL hI.usr (get_some e);have:=hI.CI;omega) hI.aD (fun i u hu=>by
      rw [o7] at hu
      split at hu
      ·cases hu
      exact hI.us i u hu) ⟨by rw [show bytes S.idx (aO S.O t.k (fun o=>{ o with opens:=o.opens - 1 }))=bytes S.idx S.O from hb];exact hI.used.1,hI.used.2⟩
  exact h1.sR (t:=t) ht (fun u hu hut hg=>by
    have hk:u.k≠t.k:=fun e=>hut (iy hu ht e)
    have hg:(obj (aO S.O t.k (fun o=>{ o with opens:=o.opens - 1 })) u.k).gone=true:=hg
    rw [bT hk] at hg
    show 0 < (obj (aO S.O t.k (fun o=>{ o with opens:=o.opens - 1 })) u.k).opens
    rw [bT hk]
    exact hI.full u hu hg)
end ops
end
section
open Go.RowKit Go.Maps bC aE
section facts
variable {S:aI} {X:FM} {O:bW} {d k to:Nat} {name toName:ByteArray} {t o:Th}
def yQ (dp:Nat->Nat):Option Nat->Nat
  | none=>0
  | some y=>dp y+1
theorem MV {dp:Nat->Nat} (h:∀ k d,(obj O k).up=some d->dp d < dp k) {y:Nat}:yQ dp (obj O y).up < yQ dp (some y):=by
  cases e:(obj O y).up with
  | none=>exact Nat.succ_pos _
  | some z=>exact Nat.succ_lt_succ (h y z e)
theorem CP {s y:Nat} (h:¬ y=s):fV O s y↔∃ z,(obj O y).up=some z/\fV O s z:=EV.trans (or_iff_right h)
theorem CQ (hne:t.k≠d):(obj (aJ S d name t).O k).ah=if k=d then ig name (obj S.O d).ah else (obj S.O k).ah:=by
  have h1:(obj (aJ S d name t).O k).ah=(obj (aQ S.X S.O d name t) k).ah:=by
    unfold aJ
    simp only
    split
    ·exact qI (g:=aY.ah) (fun _ _=>rfl)
    rfl
  rw [h1,jg hne]
  split
  ·rfl
  split<;>rfl
theorem rL (hI:Inv0 S) (hto:Live S.idx ⟨to,2⟩) (hl2:aT toName (obj S.O to).ah=some o) (hl:aT name (obj S.O d).ah=some t) (hot:o≠t):aT name (obj (aJ S to toName o).O d).ah=some t:=by
  rw [CQ (hI.ne hto hl2)]
  split
  ·rename_i e
   subst e
   rw [rG,if_neg (fun e=>by rw [e,hl2] at hl;exact hot (Option.some.inj hl))]
   exact hl
  exact hl
theorem rM (hI:Inv0 S) (hto:Live S.idx ⟨to,2⟩) (hl2:aT toName (obj S.O to).ah=some o):aT toName (obj (aJ S to toName o).O to).ah=none:=by
  rw [CQ (hI.ne hto hl2),if_pos rfl,rG,if_pos rfl]
theorem jV (hI:Inv0 S) (hto:Live S.idx ⟨to,2⟩) (hl2:aT toName (obj S.O to).ah=some o) (hx:Live S.idx t) (hk:t.k≠o.k):Live (aJ S to toName o).idx t:=by
  unfold aJ
  simp only
  split
  ·unfold jj
   split
   ·unfold Live
    rw [o7,if_neg]
    ·exact hx
    intro e
    have h1:=(hI.ob o (hI.ent hto hl2).2).1
    rw [qI (g:=aY.id) (fun _ _=>rfl),dF (g:=aY.id) (fun _ _=>rfl) (fun _ _=>rfl) (fun _ _ _=>rfl),h1] at e
    exact hk (by omega)
   exact hx
  exact hx
theorem ny (hne:t.k≠d):(obj (aQ X O d name t) k).ah.length<=(obj O k).ah.length:=by
  rw [jg hne]
  split
  ·rename_i e
   subst e
   exact List.length_filter_le _ _
  split<;>exact Nat.le_refl _
theorem kR (hI:Inv0 S) (hd:Live S.idx ⟨d,2⟩) (hl:aT name (obj S.O d).ah=some t):0<=(obj (aQ S.X S.O d name t) t.k).links/\(obj (aQ S.X S.O d name t) t.k).links<=1048576:=by
  have ht:=(hI.ent hd hl).2
  have h1:=hI.links t ht
  have h2:0 < iT S.idx S.O t.k:=mM hd hl
  have h3:=hI.lb ht
  rw [jg (hI.ne hd hl),if_neg (hI.ne hd hl),if_pos rfl]
  show 0<=(obj S.O t.k).links - 1/\(obj S.O t.k).links - 1<=1048576
  omega
end facts
end
section
open Go.RowKit Go.Maps bC aE
theorem bS.take {β:Bs} {A:Option Addr} {d:List UInt8} (h:bS β A d) (n:Nat):bS β A (d.take n):=by
  intro j v hj
  refine h j v ?_
  unfold cM at hj ⊢
  rw [List.map_take] at hj
  rw [List.getElem?_take] at hj
  split at hj
  ·exact hj
  cases hj
theorem KO {a b:List UInt8}:cM (a++b)=cM a++cM b:=List.map_append
theorem Inv0.VI {S:aI} {t:Th} (h:Inv0 S) (hl:Live S.idx t):((obj S.O t.k).data.length:Int)<=S.X.used:=by
  have h1:=h.used
  have h2:(obj S.O t.k).data.length<=bytes S.idx S.O:=kC (g:=fun p:Int×Th=>(obj S.O p.2.k).data.length) hl
  omega
theorem MW {X:FM} {n:Nat} (h:0 < X.cB - X.used):min (n:Int) (X.cB - X.used)=(bA X n:Int):=by
  unfold bA
  omega
theorem MX {X:FM} {n:Nat} (h:0 < X.cB - X.used):bA X n<=n/\(bA X n:Int)<=X.cB - X.used:=by
  unfold bA
  omega
section data
variable {O:bW} {us:Used Th} {L L':HL} {k c:Nat} {A:Option Addr} {t:Th}
theorem GU (hL:L'=L.data k A c):bI L' us=bI L us:=by subst hL;rfl
theorem PB (hL:L'=L.data k A c):dg O L'=dg O L:=by
  subst hL
  funext x
  rfl
theorem PD (hL:L'=L.data k A c) {x:Nat} (h:x≠k):bR O L' x=bR O L x:=by
  have e2:iE L' x (obj O x)=iE L x (obj O x):=by
    subst hL
    unfold iE zO
    simp only [HL.data,if_neg h]
    rfl
  unfold bR
  rw [e2]
  subst hL
  rfl
theorem PE (hL:L'=L.data k A c) {x:Nat} (h:x≠k):ct O L' x=ct O L x:=by
  unfold ct
  subst hL
  simp only [HL.data,if_neg h]
theorem JQ (hL:L'=L.data k A c):L'.dA k=A:=by subst hL;exact if_pos rfl
theorem JR (hL:L'=L.data k A c):L'.dC k=c:=by subst hL;exact if_pos rfl
theorem MY (hL:L'=L.data k A c) {x:Nat}:L'.b x=L.b x:=by subst hL;rfl
end data
section sat
variable {β:Bs} {l l':List HP} {w:World} {i j k c n:Nat} {O:bW} {L L':HL} {f:aY->aY} {cs:List Value} {T:TypeId} {ix:List Nat} {A:Option Addr} {R:Nat->bV} {xs:List Value}
theorem Sat.TP (h:Sat β l w) (hL:L'=L.data k A c) (hp:l[i]?=some (.abs (aH (kZ (bR O L) k bV.none)))) (hq:l[j]?=some (.blk (L.b k) cs T)) (hd:nodupB (i::j::ix)=true) (hl:bO l ix=some l') (h0:(f (obj O k)).kind≠0) (hc:iE L' k (f (obj O k))=cs) (hT:si (f (obj O k)).kind=T):Sat β (.abs (aH (bR (aO O k f) L'))::l') w:=by
  refine h.sP (a:=DY (L.b k) cs T) hp hq (fun _ _ h=>h) hd hl k (fun x hx=>?_) (by rw [zP,if_neg h0,hc,hT,MY hL])
  rw [Cx hx,PD hL hx,zS hx]
theorem Sat.TQ (h:Sat β l w) (hL:L'=L.data k A c) (hp:l[i]?=some (.abs (aH (kZ (ct O L) k bV.none)))) (hq:l[j]?=some (.abs (aK 5 1 A n c xs))) (hd:nodupB (i::j::ix)=true) (hl:bO l ix=some l') (h1:(f (obj O k)).kind=1) (hn:n=(f (obj O k)).data.length) (hx:xs=cM (f (obj O k)).data):Sat β (.abs (aH (ct (aO O k f) L'))::l') w:=by
  refine h.sP hp hq (fun _ _ h=>h) hd hl k (fun x hx=>by rw [Cz hx,PE hL hx,zS hx]) ?_
  rw [tM (by rw [cD];exact h1),cD,JQ hL,JR hL,hn,hx]
end sat
end
section
def lT (n:Int):Prop:=n=1\/n=2\/n=4\/n=11\/n=13
end
section
open Go.RowKit Go.Maps bC aE
structure lq (β:Bs) (c:aB):Prop where
  hw:(Lit.int .i64 c.handle).wf=true
  ow:(Lit.int .i64 c.other).wf=true
  nm:c.name.size<=1048576
  tx:c.text.size<=1048576
  da:bS β c.dA c.data
  dl:c.data.length<=1099511627776
  dc:c.data.length<=c.dC
  op:lT c.op
section facts
variable {S:aI} {h:Int} {name:ByteArray} {need:Int} {t:Th} {c:aB}
theorem yR (hI:Inv0 S) (h:Int) (name:ByteArray) (need:Int):(∃ e,dJ S.O S.us h name need=.error e/\e≠0)\/∃ d,dJ S.O S.us h name need=.ok d/\Live S.idx ⟨d,2⟩/\(obj S.O d).gone=false/\bF name/\aE.get S.us h=some ⟨d,2⟩:=by
  unfold dJ
  cases e:aE.get S.us h with
  | none=>exact .inl ⟨131,rfl,by decide⟩
  | some t=>
    simp only
    split
    ·rename_i hk
     split
     ·exact .inl ⟨170,rfl,by decide⟩
     rename_i hg
     split
     ·rename_i hn
      split
      ·obtain⟨k,kd⟩:=t
       simp only at hk
       subst hk
       exact .inr ⟨k,rfl,(hI.us h _ e).1,by simpa using hg,hn,rfl⟩
      exact .inl ⟨175,rfl,by decide⟩
     exact .inl ⟨95,rfl,by decide⟩
    exact .inl ⟨173,rfl,by decide⟩
theorem MZ (hI:Inv0 S) (c:aB):(∃ e,fB S.O S.us c=.error e/\e≠0)\/(∃ k,fB S.O S.us c=.ok ⟨k,1⟩/\Live S.idx ⟨k,1⟩)\/(∃ k,fB S.O S.us c=.ok ⟨k,2⟩/\Live S.idx ⟨k,2⟩)\/∃ k,fB S.O S.us c=.ok ⟨k,3⟩/\Live S.idx ⟨k,3⟩:=by
  unfold fB
  rcases yR hI c.handle c.name 64 with ⟨e,h1,h2⟩|⟨d,h1,h2,_⟩
  ·rw [h1];exact .inl ⟨e,rfl,h2⟩
  rw [h1]
  simp only
  rcases hI.pZ h2 c.name with h3|⟨k,h3,h4⟩|⟨k,h3,h4⟩|⟨k,h3,h4⟩
  ·rw [h3];exact .inl ⟨170,rfl,by decide⟩
  ·rw [h3];exact .inr (.inl ⟨k,rfl,h4⟩)
  ·rw [h3];exact .inr (.inr (.inl ⟨k,rfl,h4⟩))
  rw [h3];exact .inr (.inr (.inr ⟨k,rfl,h4⟩))
theorem GV {L:HL} {us:Used Th} {h:Int}:bI L (del h us)=del h (bI L us):=JH (ez L) h us
theorem JS {us:Used Th} {h:Int} (e:aE.get us h=some t):0 < hnd us t.k:=Nat.lt_of_lt_of_le (by simp) (kC (g:=fun p:Int×Th=>if p.2.k=t.k then 1 else 0) e)
theorem GW {L:HL}:ct (cW S t).2.2.O L=ct S.O L:=by
  by_cases h:(S.us.length:Int) < S.X.cH
  ·rw [jf h];exact tS (fun _=>cE (f:=fun o=>{ o with opens:=o.opens+1 }) (g:=aY.data) (fun _=>rfl)) (fun _=>ox (f:=fun o=>{ o with opens:=o.opens+1 }) (fun _=>rfl))
  rw [jT h]
theorem GX {L:HL}:dg (cW S t).2.2.O L=dg S.O L:=by
  by_cases h:(S.us.length:Int) < S.X.cH
  ·rw [jf h];exact zR (f:=fun o=>{ o with opens:=o.opens+1 }) rfl rfl
  rw [jT h]
theorem R9:(jk S c).2.2.op=c.op:=by unfold jk;(repeat' split)<;>rfl
theorem KP:(eV S c).2.2.op=c.op:=by unfold eV;(repeat' split)<;>rfl
theorem Jb:(ng S c).2.2.op=c.op:=by unfold ng;(repeat' split)<;>rfl
theorem KQ:(fU S c).2.2.op=c.op:=by unfold fU;(repeat' split)<;>rfl
theorem Jc:(ni S c).2.2.op=c.op:=by unfold ni;(repeat' split)<;>rfl
theorem GY:(mg S c).2.2.op=c.op:=by unfold mg;(repeat' split)<;>rfl
theorem M0:(qF S c).2.2.op=c.op:=by unfold qF;(repeat' split)<;>rfl
theorem Jd:(nj S c).2.2.op=c.op:=by unfold nj;(repeat' split)<;>rfl
theorem KR:(oG S c).2.2.op=c.op:=by unfold oG;(repeat' split)<;>rfl
theorem Je:(nk S c).2.2.op=c.op:=by unfold nk;(repeat' split)<;>rfl
theorem KS:(oH S c).2.2.op=c.op:=by unfold oH;(repeat' split)<;>rfl
theorem KT:(oI S c).2.2.op=c.op:=by unfold oI;(repeat' split)<;>rfl
theorem Sd:(jP S c).2.2.op=c.op:=by unfold jP;(repeat' split)<;>rfl
theorem M4:(qG S c).2.2.op=c.op:=by unfold qG;(repeat' split)<;>rfl
theorem PF:(ja S c).2.2.op=c.op:=by unfold ja;(repeat' split)<;>rfl
end facts
theorem sS {S:aI} {c:aB} (h:c.op=1):cV S c=jk S c:=by
  unfold cV
  simp [h]
theorem rf {S:aI} {c:aB} (h:c.op=2):cV S c=eV S c:=by
  unfold cV
  simp [h]
theorem CR {S:aI} {c:aB} (h:c.op=3):cV S c=ng S c:=by
  unfold cV
  simp [h]
theorem sU {S:aI} {c:aB} (h:c.op=4):cV S c=fU S c:=by
  unfold cV
  simp [h]
theorem CS {S:aI} {c:aB} (h:c.op=5):cV S c=ni S c:=by
  unfold cV
  simp [h]
theorem CU {S:aI} {c:aB} (h:c.op=6):cV S c=mg S c:=by
  unfold cV
  simp [h]
theorem CV {S:aI} {c:aB} (h:c.op=7):cV S c=qF S c:=by
  unfold cV
  simp [h]
theorem CW {S:aI} {c:aB} (h:c.op=8):cV S c=nj S c:=by
  unfold cV
  simp [h]
theorem CX {S:aI} {c:aB} (h:c.op=9):cV S c=oH S c:=by
  unfold cV
  simp [h]
theorem yS {S:aI} {c:aB} (h:c.op=10):cV S c=oI S c:=by
  unfold cV
  simp [h]
theorem p4 {S:aI} {c:aB} (h:c.op=11):cV S c=jP S c:=by
  unfold cV
  simp [h]
theorem yT {S:aI} {c:aB} (h:c.op=12):cV S c=qG S c:=by
  unfold cV
  simp [h]
theorem p6 {S:aI} {c:aB} (h:c.op=13):cV S c=ja S c:=by
  unfold cV
  simp [h]
theorem yU {S:aI} {c:aB} (h:c.op=14):cV S c=oG S c:=by
  unfold cV
  simp [h]
theorem yV {S:aI} {c:aB} (h:c.op=15):cV S c=nk S c:=by
  unfold cV
  simp [h]
theorem vL {S:aI} {c:aB} (h:¬ (1<=c.op/\c.op<=15)):cV S c=(230,S,c):=by
  unfold cV
  repeat rw [if_neg (by omega)]
end
section
open Go.RowKit Go.Maps bC aE
section inv
variable {S:aI} {d to:Nat} {name toName text:ByteArray} {mode:Int} {c:aB}
theorem GZ (hI:Inv0 S):hnd S.us (bG S.X)=0:=by
  have:hnd S.us (bG S.X)=dx (fun _=>0) S.us:=gX (fun p hp=>if_neg (hI.fresh.us p hp))
  rw [this]
  have h0:∀ us:Used Th,dx (fun _=>0) us=0:=fun us=>by
    induction us with
    | nil=>rfl
    | cons p r ih=>show 0+_=0;rw [ih]
  exact h0 _
theorem AO (hI:Inv0 S) {kind mode:Int} {tg:ByteArray} (hm:oe mode) (ht:fq kind tg):lg { bg S.X kind mode with target:=tg }:=
  ⟨hm,⟨Int.le_refl _,by show (0:Int)<=2147483647;decide⟩,⟨Int.le_refl _,by show (0:Int)<=2147483647;decide⟩,hI.now,fun _=>rfl,fun _=>rfl,ht⟩
theorem Inv.FU (hI:Inv S) (hd:Live S.idx ⟨d,2⟩) (kq:(obj S.O d).gone=false) (hgn:bF name) (h0:cR S.X S.O S.idx d name=0) {kind mode:Int} {tg:ByteArray} (hk:kind=1\/kind=2\/kind=3) (hm:oe mode) (ht:fq kind tg) :
    Inv (fe S d name { bg S.X kind mode with target:=tg }):=by
  have h:=hI.add (us':=S.us) (gY:=S.aD) (o:={ bg S.X kind mode with target:=tg }) hd kq (rK h0) hgn (vn h0) rfl hk rfl rfl rfl rfl rfl (AO hI.toInv0 hm ht) hI.usr hI.sE hI.CI hI.aD (fun h t e=>⟨.inl (hI.us h t e).1,(hI.us h t e).2⟩) (fun _ _=>rfl) (by rw [GZ hI.toInv0];rfl)
  exact h
theorem Inv.fX (hI:Inv S) (hd:Live S.idx ⟨d,2⟩) (kq:(obj S.O d).gone=false) (hgn:bF name) (hm:oe mode):Inv (Proofs.YtiehgnlnofhbaaaGreatDoor.fX S d name mode).2:=by
  unfold Proofs.YtiehgnlnofhbaaaGreatDoor.fX
  split
  ·rename_i h0
   exact hI.FU hd kq hgn h0 (.inr (.inl rfl)) hm (.inl ⟨by decide,rfl⟩)
  exact hI
theorem Sg {s:ByteArray} (h:nS s=0):fq 3 s:=by
  unfold nS at h
  split at h
  ·cases h
  rename_i h1
  split at h
  ·cases h
  split at h
  ·rename_i h2 h3
   refine .inr ⟨rfl,?_,by omega,h3⟩
   apply Classical.byContradiction
   intro hn
   have:s.size=0:=by omega
   exact h1 (lX.1 this)
  cases h
theorem Inv.fT (hI:Inv S) (hd:Live S.idx ⟨d,2⟩) (kq:(obj S.O d).gone=false) (hgn:bF name):Inv (Proofs.YtiehgnlnofhbaaaGreatDoor.fT S d name text).2:=by
  unfold Proofs.YtiehgnlnofhbaaaGreatDoor.fT
  split
  ·rename_i hb
   split
   ·rename_i h0
    exact hI.FU hd kq hgn h0 (.inr (.inr rfl)) ⟨by decide,by decide⟩ (Sg hb)
   exact hI
  exact hI
theorem Inv.fA (hI:Inv S) (hd:Live S.idx ⟨d,2⟩):Inv (Proofs.YtiehgnlnofhbaaaGreatDoor.fA S d name).2:=by
  unfold Proofs.YtiehgnlnofhbaaaGreatDoor.fA
  split
  ·exact hI
  rename_i t hl
  split
  ·exact hI
  rename_i hk
  exact hI.z7 hd hl hk
theorem Inv.fO (hI:Inv S) (hd:Live S.idx ⟨d,2⟩):Inv (Proofs.YtiehgnlnofhbaaaGreatDoor.fO S d name).2:=by
  unfold Proofs.YtiehgnlnofhbaaaGreatDoor.fO
  split
  ·exact hI
  rename_i t hl
  split
  ·split
   ·rename_i he
    exact hI.drop hd hl (fun _=>he)
   exact hI
  exact hI
theorem KU {t:Th} (ht:t.k≠to):(obj (aJ S d name t).O to).gone=(obj S.O to).gone:=by
  have h1:(obj (aJ S d name t).O to).gone=(obj (aQ S.X S.O d name t) to).gone:=by
    unfold aJ
    simp only
    split
    ·show (obj (aO _ t.k _) to).gone=_
     rw [bT (fun e=>ht e.symm)]
    rfl
  rw [h1]
  exact dF (g:=aY.gone) (fun _ _=>rfl) (fun _ _=>rfl) (fun _ _ _=>rfl)
theorem Inv.bL (hI:Inv S) (hd:Live S.idx ⟨d,2⟩) (hto:Live S.idx ⟨to,2⟩) (kq:(obj S.O to).gone=false) (hgn:bF toName):Inv (Proofs.YtiehgnlnofhbaaaGreatDoor.bL S d name to toName).2:=by
  unfold Proofs.YtiehgnlnofhbaaaGreatDoor.bL
  split
  ·exact hI
  rename_i t hl
  split
  ·exact hI
  rename_i hb
  have hb:t.kind=2->¬ fV S.O t.k to:=fun h1 h2=>hb ⟨h1,h2⟩
  split
  ·rename_i hn
   exact hI.move hd hl hto kq hn hgn hb
  rename_i o hl2
  split
  ·exact hI
  rename_i hot
  split
  ·exact hI
  rename_i hok
  split
  ·exact hI
  rename_i TR
  have ho:=(hI.ent hto hl2).2
  have TS:o.k≠to:=hI.ne hto hl2
  have h1:=hI.z7 hto hl2 hok
  have hd1:Live (aJ S to toName o).idx ⟨d,2⟩:=jV hI.toInv0 hto hl2 hd (fun e=>hok (by have:=iy hd ho e;rw [← this]))
  have kB:Live (aJ S to toName o).idx ⟨to,2⟩:=jV hI.toInv0 hto hl2 hto (fun e=>TS e.symm)
  exact h1.move hd1 (rL hI.toInv0 hto hl2 hl hot) kB (by rw [KU TS];exact kq) (rM hI.toInv0 hto hl2) hgn (fun h=>absurd h TR)
theorem Inv.zW (hI:Inv S) (hd:Live S.idx ⟨d,2⟩) (hto:Live S.idx ⟨to,2⟩) (kq:(obj S.O to).gone=false) (hgn:bF toName):Inv (Proofs.YtiehgnlnofhbaaaGreatDoor.zW S d name to toName).2:=by
  unfold Proofs.YtiehgnlnofhbaaaGreatDoor.zW
  split
  ·exact hI
  rename_i t hl
  have ht:=(hI.ent hd hl).2
  split
  ·exact hI
  rename_i hk
  split
  ·rename_i hn
   split
   ·rename_i hr
    have hgt:(obj S.O t.k).gone=false:=by
      cases hg:(obj S.O t.k).gone with
      | false=>rfl
      | true=>
        have h1:=(hI.gone t ht hg).1
        have h2:=hI.links t ht
        have h3:0 < iT S.idx S.O t.k:=mM hd hl
        omega
    exact hI.link hto kq hn hgn ht hgt hk hr
   exact hI
  exact hI
theorem Inv.qE (hI:Inv S) (hd:Live S.idx ⟨d,2⟩) (kq:(obj S.O d).gone=false) (hgn:bF name) (hm:oe mode):Inv (Proofs.YtiehgnlnofhbaaaGreatDoor.qE S d name mode).2.2:=by
  unfold Proofs.YtiehgnlnofhbaaaGreatDoor.qE
  split
  ·rename_i h0
   split
   ·rename_i hlt
    obtain⟨g1,g2,_⟩:=least_le hI.usr (fun x hx=>(hI.sE x hx).1)
    obtain⟨v1,v2⟩:=JO (t:=⟨bG S.X,1⟩) hI.usr hI.sE
    have hm2:=AO (kind:=1) (tg:=⟨#[]⟩) hI.toInv0 hm (.inl ⟨by decide,rfl⟩)
    refine hI.add (us':=ins (aE.least S.us) ⟨bG S.X,1⟩ S.us) (gY:=max S.aD ((S.us.length:Int)+1)) (o:={ bg S.X 1 mode with opens:=1 }) hd kq (rK h0) hgn (vn h0) rfl (.inl rfl) rfl rfl rfl rfl rfl ⟨hm2.mode,hm2.uid,hm2.gid,hm2.time,hm2.data,hm2.ah,hm2.target⟩ v1 v2 (by rw [iw];omega) (by have:=hI.aD;omega) (fun h t e=>?_) (fun k hk=>?_) ?_
    ·rw [lf g2] at e
     split at e
     ·cases e;exact⟨.inr rfl,by show (1:Int)≠3;decide⟩
     exact⟨.inl (hI.us h t e).1,(hI.us h t e).2⟩
    ·rw [Ea,if_neg (fun e=>hk e.symm),Nat.zero_add]
    rw [Ea,if_pos rfl,GZ hI.toInv0];rfl
   exact hI
  exact hI
theorem Inv.cV (hI:Inv S) (c:aB):Inv (Proofs.YtiehgnlnofhbaaaGreatDoor.cV S c).2.1:=by
  have habout:∀ {need:Int} {d:Nat} {h:Int} {n:ByteArray},dJ S.O S.us h n need=.ok d->Live S.idx ⟨d,2⟩/\(obj S.O d).gone=false/\bF n:=fun {need d h n} e=>by
    rcases yR hI.toInv0 h n need with ⟨e2,h1,_⟩|⟨d2,h1,h2,h3,h4,_⟩
    ·rw [e] at h1;cases h1
    rw [e] at h1;cases h1;exact⟨h2,h3,h4⟩
  have hnamed:∀ {t:Th},fB S.O S.us c=.ok t->Live S.idx t:=fun {t} e=>by
    rcases MZ hI.toInv0 c with ⟨e2,h1,_⟩|⟨k,h1,h2⟩|⟨k,h1,h2⟩|⟨k,h1,h2⟩<;>rw [e] at h1<;>cases h1<;>exact h2
  by_cases h:1<=c.op/\c.op<=15
  ·have h:c.op=1\/c.op=2\/c.op=3\/c.op=4\/c.op=5\/c.op=6\/c.op=7\/c.op=8\/c.op=9\/c.op=10\/c.op=11\/c.op=12\/c.op=13\/c.op=14\/c.op=15:=by omega
   rcases h with h|h|h|h|h|h|h|h|h|h|h|h|h|h|h
   ·rw [sS h]
    unfold jk
    split
    ·exact hI
    rename_i t e
    split
    ·rename_i hk;exact hI.cW (hI.live e) (by rw [hk];decide)
    exact hI
   ·rw [rf h]
    unfold eV
    split
    ·exact hI
    rename_i t e
    split
    ·exact hI
    rename_i hk
    split
    ·exact hI
    exact hI.cW (hnamed e) hk
   ·rw [CR h]
    unfold ng
    split
    ·exact hI
    rename_i t e
    split
    ·exact hI
    rename_i hk
    split
    ·exact hI
    exact hI.cW (hnamed e) hk
   ·rw [sU h]
    unfold fU
    split
    ·exact hI
    rename_i d e
    obtain⟨h1,h2,h3⟩:=habout e
    split
    ·rename_i hm;exact hI.fX h1 h2 h3 hm
    exact hI
   ·rw [CS h]
    unfold ni
    split
    ·exact hI
    rename_i d e
    obtain⟨h1,h2,h3⟩:=habout e
    split
    ·rename_i hm
     split
     ·exact hI.qE h1 h2 h3 hm
     exact hI
    exact hI
   ·rw [CU h]
    unfold mg
    split
    ·exact hI
    rename_i d e
    obtain⟨h1,h2,h3⟩:=habout e
    exact hI.fT h1 h2 h3
   ·rw [CV h]
    unfold qF
    split
    ·exact hI
    rename_i d e
    split
    ·exact hI
    rename_i to e2
    obtain⟨h1,h2,h3⟩:=habout e2
    exact hI.zW (habout e).1 h1 h2 h3
   ·rw [CW h]
    unfold nj
    split
    ·exact hI
    rename_i d e
    exact hI.fA (habout e).1
   ·rw [CX h]
    unfold oH
    split
    ·exact hI
    rename_i t e
    split
    ·rename_i hk
     obtain⟨k,kd⟩:=t
     simp only at hk
     subst hk
     exact hI.d9 (hI.us _ _ e).1 _
    exact hI
   ·rw [yS h]
    unfold oI
    split
    ·exact hI
    split
    ·exact hI
    split
    ·rename_i hm
     split
     ·rename_i ho
      split
      ·rename_i ht;exact hI.VH hm ho ht
      exact hI
     exact hI
    exact hI
   ·rw [p4 h]
    unfold jP
    split<;>exact hI
   ·rw [yT h]
    unfold qG
    split<;>exact hI
   ·rw [p6 h]
    unfold ja
    split
    ·exact hI
    rename_i t e;exact hI.shut e
   ·rw [yU h]
    unfold oG
    split
    ·exact hI
    rename_i d e
    exact hI.fO (habout e).1
   rw [yV h]
   unfold nk
   split
   ·exact hI
   rename_i d e
   split
   ·exact hI
   rename_i to e2
   obtain⟨h1,h2,h3⟩:=habout e2
   exact hI.bL (habout e).1 h1 h2 h3
  rw [vL h];exact hI
theorem Inv.bK (hI:Inv S) (c:aB):Inv (Proofs.YtiehgnlnofhbaaaGreatDoor.bK S c).1:=hI.cV _
end inv
end
section
open Go.RowKit Go.Maps bC aE
structure bM where
  at_:Int
  op:Int
  path:ByteArray
  to:ByteArray
  text:ByteArray
def slash:ByteArray:=⟨#[47]⟩
def jF (s:ByteArray):List ByteArray:=Lib.splitB slash 0 (Lib.countB s slash) s
noncomputable section
def jJ (O:bW):Nat->List ByteArray->Except Int (Nat×ByteArray)
  | _,[]=>.error 170
  | d,[p]=>if (obj O d).gone=true then .error 170 else .ok (d,p)
  | d,p::q::r=>match aT p (obj O d).ah with
    | none=>.error 170
    | some t=>if t.kind=3 then .error 174 else if t.kind=1 then .error 173 else jJ O t.k (q::r)
instance (ps:List ByteArray):Decidable (∀ p∈ps,bF p):=Classical.propDecidable _
def jC (O:bW) (d:Nat) (path:ByteArray):Except Int (Nat×ByteArray):=if ∀ p∈jF path,bF p then jJ O d (jF path) else .error 95
def p8 (S:aI) (d:Nat) (name text:ByteArray):Int×aI:=
  if cR S.X S.O S.idx d name=0 then (0,(d9 (fe S d name (bg S.X 1 420)) (bG S.X) text.data.toList).2.2) else (cR S.X S.O S.idx d name,S)
def j5 (S:aI) (d:Nat) (name text:ByteArray):Int×aI:=
  match aT name (obj S.O d).ah with
  | none=>(170,S)
  | some t=>if t.kind=3 then (174,S) else if t.kind=2 then (172,S) else ((d9 S t.k text.data.toList).2.1,(d9 S t.k text.data.toList).2.2)
def mo (S:aI) (top:Nat) (a:bM) (d:Nat) (name:ByteArray):Int×aI:=
  if a.op=1 then p8 S d name a.text
  else if a.op=2 then fX S d name 493
  else if a.op=3 then fT S d name a.text
  else if a.op=4 then fA S d name
  else if a.op=5 then fO S d name
  else if a.op=6 then match jC S.O top a.to with
    | .error e=>(e,S)
    | .ok (to,toName)=>bL S d name to toName
  else j5 S d name a.text
def cG (S:aI) (root:Int) (a:bM):Int×aI:=
  if a.op < 1\/a.op > 7 then (230,S)
  else match aE.get S.idx root with
    | none=>(141,S)
    | some t=>if t.kind=2 then
        match jC S.O t.k a.path with
        | .error e=>(e,S)
        | .ok (d,name)=>mo S t.k a d name
      else (173,S)
end
section facts
variable {S:aI} {O:bW} {d d':Nat} {name:ByteArray} {t:Th}
theorem JT (hI:Inv0 S):∀ (ps:List ByteArray) (d:Nat),Live S.idx ⟨d,2⟩->(∀ p∈ps,bF p)->jJ S.O d ps=.ok (d',name)->Live S.idx ⟨d',2⟩/\(obj S.O d').gone=false/\bF name
  | [],d,_,_,h=>by cases h
  | [p],d,hd,hg,h=>by
    unfold jJ at h
    split at h
    ·cases h
    rename_i hn
    cases h
    exact⟨hd,by simpa using hn,hg _ (List.mem_singleton.2 rfl)⟩
  | p::q::r,d,hd,hg,h=>by
    unfold jJ at h
    cases e:aT p (obj S.O d).ah with
    | none=>rw [e] at h;cases h
    | some t=>
      rw [e] at h
      simp only at h
      split at h
      ·cases h
      rename_i h3
      split at h
      ·cases h
      rename_i h1
      have hl:=(hI.ent hd e).2
      have hk:t=⟨t.k,2⟩:=by
        have:=(hI.ob _ hl).2.2
        obtain⟨k,kd⟩:=t
        simp only at this h1 h3
        have:kd=2:=by omega
        rw [this]
      rw [hk] at hl
      exact JT hI (q::r) t.k hl (fun p hp=>hg p (List.mem_cons_of_mem _ hp)) h
theorem z8 {path:ByteArray} (hI:Inv0 S) (hd:Live S.idx ⟨d,2⟩) (h:jC S.O d path=.ok (d',name)):Live S.idx ⟨d',2⟩/\(obj S.O d').gone=false/\bF name:=by
  unfold jC at h
  split at h
  ·rename_i hg
   exact JT hI _ _ hd hg h
  cases h
theorem G0 (hI:Inv S) {o:aY}:Live (ins (S.X.last+1) ⟨bG S.X,o.kind⟩ S.idx) ⟨bG S.X,o.kind⟩:=by
  unfold Live
  have h1:=pq hI.toInv0
  have hn:S.X.last+1∉keys S.idx:=by
    cases e:aE.get S.idx (S.X.last+1) with
    | none=>exact get_none.1 e
    | some t=>have:=hI.idx _ _ e;omega
  rw [lf hn]
  simp only
  rw [h1,if_pos rfl]
theorem Inv.p8 {text:ByteArray} (hI:Inv S) (hd:Live S.idx ⟨d,2⟩) (kq:(obj S.O d).gone=false) (hgn:bF name):Inv (Proofs.YtiehgnlnofhbaaaGreatDoor.p8 S d name text).2:=by
  unfold Proofs.YtiehgnlnofhbaaaGreatDoor.p8
  split
  ·rename_i h0
   exact (hI.FU hd kq hgn h0 (.inl rfl) ⟨by decide,by decide⟩ (.inl ⟨by decide,rfl⟩)).d9 (G0 hI (o:=bg S.X 1 420)) _
  exact hI
theorem Inv.j5 {text:ByteArray} (hI:Inv S) (hd:Live S.idx ⟨d,2⟩):Inv (Proofs.YtiehgnlnofhbaaaGreatDoor.j5 S d name text).2:=by
  unfold Proofs.YtiehgnlnofhbaaaGreatDoor.j5
  split
  ·exact hI
  rename_i t e
  split
  ·exact hI
  split
  ·exact hI
  rename_i h3 h2
  have hl:=(hI.ent hd e).2
  have hk:t=⟨t.k,1⟩:=by
    have:=(hI.ob _ hl).2.2
    obtain⟨k,kd⟩:=t
    simp only at this h2 h3
    have:kd=1:=by omega
    rw [this]
  rw [hk] at hl
  exact hI.d9 hl _
theorem Inv.mo {top:Nat} {a:bM} (hI:Inv S) (ht:Live S.idx ⟨top,2⟩) (hd:Live S.idx ⟨d,2⟩) (kq:(obj S.O d).gone=false) (hgn:bF name):Inv (Proofs.YtiehgnlnofhbaaaGreatDoor.mo S top a d name).2:=by
  unfold Proofs.YtiehgnlnofhbaaaGreatDoor.mo
  split
  ·exact hI.p8 hd kq hgn
  split
  ·exact hI.fX hd kq hgn ⟨by decide,by decide⟩
  split
  ·exact hI.fT hd kq hgn
  split
  ·exact hI.fA hd
  split
  ·exact hI.fO hd
  split
  ·split
   ·exact hI
   rename_i to toName e
   obtain⟨h1,h2,h3⟩:=z8 hI.toInv0 ht e
   exact hI.bL hd h1 h2 h3
  exact hI.j5 hd
theorem JU {i:Int} (hI:Inv0 S) (e:aE.get S.idx i=some t) (hk:t.kind=2):Live S.idx ⟨t.k,2⟩:=by
  have:=hI.live e
  obtain⟨k,kd⟩:=t
  simp only at hk
  subst hk
  exact this
theorem Inv.cG {root:Int} {a:bM} (hI:Inv S):Inv (Proofs.YtiehgnlnofhbaaaGreatDoor.cG S root a).2:=by
  unfold Proofs.YtiehgnlnofhbaaaGreatDoor.cG
  split
  ·exact hI
  split
  ·exact hI
  rename_i t e
  split
  ·rename_i hk
   split
   ·exact hI
   rename_i d name e2
   have ht:=JU hI.toInv0 e hk
   obtain⟨h1,h2,h3⟩:=z8 hI.toInv0 ht e2
   exact hI.mo ht h1 h2 h3
  exact hI
end facts
section err
variable {S:aI} {c:aB} {d to:Nat} {name toName text:ByteArray} {t:Th}
end err
end
section
open Go.RowKit Go.Maps bC aE
noncomputable section
structure bh where
  at_:Int
  kind:Int
def fP (f:bh):List Value:=[.int .i64 f.at_,.int .i64 f.kind]
instance:Inhabited bh:=⟨⟨0,0⟩⟩
instance:Inhabited bM:=⟨⟨0,0,⟨#[]⟩,⟨#[]⟩,⟨#[]⟩⟩⟩
def kx (fs:List bh) (i:Nat):bh:=fs.getD i default
def act (xs:List bM) (i:Nat):bM:=xs.getD i default
def FK (f:bh):Prop:=1<=f.kind/\f.kind<=3
instance (f:bh):Decidable (FK f):=inferInstanceAs (Decidable (_/\_))
def iU:List bh->Int->Int
  | [],_=>0
  | f::r,n=>if f.at_=n/\FK f then f.kind else iU r n
def bn (xs:List bM) (n:Int):List bM:=xs.filter (fun a=>decide (a.at_=n))
def eE (root:Int) (S:aI) (xs:List bM):aI:=xs.foldl (fun S a=>(cG S root a).2) S
def cP (c:aB) (e:Int):aB:=if c.op=11\/c.op=12 then ⟨c.op,c.handle,0,c.name,c.text,c.dA,c.dC,c.data,0,0,0,0,0,e,0⟩ else { c with answer:=0,code:=e }
def bD (k:Int) (S:aI) (c:aB):aI×aB:=
  if k=1 then (if c.op=13 then (bK S c).1 else S,cP c 180)
  else if k=2/\(c.op=4\/c.op=5\/c.op=6\/c.op=7\/c.op=9) then (S,cP c 176)
  else if k=3/\c.op=9/\2<=c.data.length then ((bK S { c with data:=c.data.take (c.data.length / 2) }).1,{ (bK S { c with data:=c.data.take (c.data.length / 2) }).2 with dA:=c.dA,dC:=c.dC,data:=c.data })
  else bK S c
def mq (root:Int) (c:aB):aB:=if c.op=1 then { c with other:=root } else c
def aR (fs:List bh) (xs:List bM) (root:Int) (n:Nat) (S:aI) (c:aB):aI×aB:=bD (iU fs n) (eE root S (bn xs n)) (mq root c)
section p
variable {S:aI} {c:aB} {fs gs:List bh} {xs ys:List bM} {root k:Int} {n:Nat} {A:Option Addr} {m:Nat}
theorem sV (f:bh) (x:Int):∀ fs:List bh,iU (fs++[f]) x=if iU fs x=0 then (if f.at_=x/\FK f then f.kind else 0) else iU fs x
  | []=>rfl
  | g::r=>by
    show (if g.at_=x/\FK g then g.kind else iU (r++[f]) x)=if (if g.at_=x/\FK g then g.kind else iU r x)=0 then _ else (if g.at_=x/\FK g then g.kind else iU r x)
    by_cases h:g.at_=x/\FK g
    ·have:¬ g.kind=0:=by have:=h.2.1;omega
     rw [if_pos h,if_pos h,if_neg this]
    rw [if_neg h,if_neg h,sV f x r]
theorem AP (a:bM) (x:Int):bn (xs++[a]) x=if a.at_=x then bn xs x++[a] else bn xs x:=by
  unfold bn
  rw [List.filter_append]
  by_cases h:a.at_=x
  ·rw [if_pos h,List.filter_cons_of_pos (by simpa using h),List.filter_nil]
  rw [if_neg h,List.filter_cons_of_neg (by simpa using h),List.filter_nil,List.append_nil]
theorem CY (x:Int):(bn xs x).length<=xs.length:=List.length_filter_le ..
theorem KV {x:Int} {a:bM} (h:a∈bn xs x):a∈xs:=(List.mem_filter.1 h).1
theorem KW (a:bM):eE root S (xs++[a])=(cG (eE root S xs) root a).2:=by
  unfold eE;rw [List.foldl_append];rfl
theorem tv {i:Nat} (h:i < xs.length):xs[i]?=some (act xs i):=getD_some h
theorem Ab {i:Nat} (h:i < fs.length):fs[i]?=some (kx fs i):=getD_some h
theorem KX {i:Nat} (h:i < xs.length):eE root S (xs.take (i+1))=(cG (eE root S (xs.take i)) root (act xs i)).2:=by
  rw [List.take_add_one,tv h];exact KW _
theorem Inv.eE (h:Inv S):∀ xs:List bM,Inv (Proofs.YtiehgnlnofhbaaaGreatDoor.eE root S xs):=fun xs=>by
  induction xs generalizing S with
  | nil=>exact h
  | cons a r ih=>exact ih h.cG
theorem Inv.bD (h:Inv S):Inv (Proofs.YtiehgnlnofhbaaaGreatDoor.bD k S c).1:=by
  unfold Proofs.YtiehgnlnofhbaaaGreatDoor.bD
  split
  ·show Inv (if c.op=13 then _ else _)
   split
   ·exact h.bK _
   exact h
  split
  ·exact h
  split
  ·exact h.bK _
  exact h.bK _
theorem Inv.aR (h:Inv S):Inv (Proofs.YtiehgnlnofhbaaaGreatDoor.aR fs xs root n S c).1:=(h.eE _).bD
def dz (A:Option Addr) (m:Nat) (c:aB):aB:={ c with dA:=A,dC:=m }
theorem TU:cV S (dz A m c)=((cV S c).1,(cV S c).2.1,dz A m (cV S c).2.2):=by
  by_cases hop:1<=c.op/\c.op<=15
  case neg=>rw [vL hop,vL (c:=dz A m c) hop]
  have hop:c.op=1\/c.op=2\/c.op=3\/c.op=4\/c.op=5\/c.op=6\/c.op=7\/c.op=8\/c.op=9\/c.op=10\/c.op=11\/c.op=12\/c.op=13\/c.op=14\/c.op=15:=by omega
  rcases hop with q|q|q|q|q|q|q|q|q|q|q|q|q|q|q
  ·rw [sS q,sS (c:=dz A m c) q];unfold jk dz;simp only;cases aE.get S.idx c.other<;>(try simp only)<;>(repeat' split)<;>rfl
  ·rw [rf q,rf (c:=dz A m c) q];unfold eV fB dz;simp only;split<;>(repeat' split)<;>rfl
  ·rw [CR q,CR (c:=dz A m c) q];unfold ng fB dz;simp only;split<;>(repeat' split)<;>rfl
  ·rw [sU q,sU (c:=dz A m c) q];unfold fU dz;simp only;split<;>(repeat' split)<;>rfl
  ·rw [CS q,CS (c:=dz A m c) q];unfold ni dz;simp only;split<;>(repeat' split)<;>rfl
  ·rw [CU q,CU (c:=dz A m c) q];unfold mg dz;simp only;split<;>(repeat' split)<;>rfl
  ·rw [CV q,CV (c:=dz A m c) q];unfold qF dz;simp only;split<;>(repeat' split)<;>rfl
  ·rw [CW q,CW (c:=dz A m c) q];unfold nj dz;simp only;split<;>(repeat' split)<;>rfl
  ·rw [CX q,CX (c:=dz A m c) q];unfold oH dz;simp only;split<;>(repeat' split)<;>rfl
  ·rw [yS q,yS (c:=dz A m c) q];unfold oI dz;simp only;split<;>(repeat' split)<;>rfl
  ·rw [p4 q,p4 (c:=dz A m c) q];unfold jP dz;simp only;split<;>(repeat' split)<;>rfl
  ·rw [yT q,yT (c:=dz A m c) q];unfold qG fB dz;simp only;split<;>(repeat' split)<;>rfl
  ·rw [p6 q,p6 (c:=dz A m c) q];unfold ja dz;simp only;split<;>(repeat' split)<;>rfl
  ·rw [yU q,yU (c:=dz A m c) q];unfold oG dz;simp only;split<;>(repeat' split)<;>rfl
  rw [yV q,yV (c:=dz A m c) q];unfold nk dz;simp only;split<;>(repeat' split)<;>rfl
theorem PG:(cV S c).2.2.data=c.data:=by
  by_cases hop:1<=c.op/\c.op<=15
  case neg=>rw [vL hop]
  have hop:c.op=1\/c.op=2\/c.op=3\/c.op=4\/c.op=5\/c.op=6\/c.op=7\/c.op=8\/c.op=9\/c.op=10\/c.op=11\/c.op=12\/c.op=13\/c.op=14\/c.op=15:=by omega
  rcases hop with q|q|q|q|q|q|q|q|q|q|q|q|q|q|q
  ·rw [sS q];unfold jk;(repeat' split)<;>rfl
  ·rw [rf q];unfold eV;(repeat' split)<;>rfl
  ·rw [CR q];unfold ng;(repeat' split)<;>rfl
  ·rw [sU q];unfold fU;(repeat' split)<;>rfl
  ·rw [CS q];unfold ni;(repeat' split)<;>rfl
  ·rw [CU q];unfold mg;(repeat' split)<;>rfl
  ·rw [CV q];unfold qF;(repeat' split)<;>rfl
  ·rw [CW q];unfold nj;(repeat' split)<;>rfl
  ·rw [CX q];unfold oH;(repeat' split)<;>rfl
  ·rw [yS q];unfold oI;(repeat' split)<;>rfl
  ·rw [p4 q];unfold jP q8;(repeat' split)<;>rfl
  ·rw [yT q];unfold qG q8;(repeat' split)<;>rfl
  ·rw [p6 q];unfold ja;(repeat' split)<;>rfl
  ·rw [yU q];unfold oG;(repeat' split)<;>rfl
  rw [yV q];unfold nk;(repeat' split)<;>rfl
theorem G1:bK S (dz A m c)=((bK S c).1,dz A m (bK S c).2):=by
  have h:=TU (S:=S) (A:=A) (m:=m) (c:={ c with answer:=0,code:=230 })
  unfold bK
  rw [show ({ dz A m c with answer:=0,code:=230 }:aB)=dz A m { c with answer:=0,code:=230 } from rfl,h]
  rfl
theorem PI:(bK S c).2.data=c.data:=PG (c:={ c with answer:=0,code:=230 })
theorem G2 {e:Int}:cP (dz A m c) e=dz A m (cP c e):=by
  unfold cP
  by_cases h:c.op=11\/c.op=12
  ·rw [if_pos h,if_pos (show (dz A m c).op=11\/(dz A m c).op=12 from h)];rfl
  rw [if_neg h,if_neg (show ¬ ((dz A m c).op=11\/(dz A m c).op=12) from h)];rfl
theorem CZ {e:Int}:(cP c e).data=c.data:=by
  unfold cP;split<;>rfl
theorem Jf:(bD k S c).2.data=c.data:=by
  unfold bD
  split
  ·exact CZ
  split
  ·exact CZ
  split
  ·rfl
  exact PI
theorem M5:bD k S (dz A m c)=((bD k S c).1,dz A m (bD k S c).2):=by
  unfold bD
  by_cases h1:k=1
  ·rw [if_pos h1,if_pos h1]
   show (if c.op=13 then (bK S (dz A m c)).1 else S,cP (dz A m c) 180)=_
   rw [G1,G2]
  rw [if_neg h1,if_neg h1]
  by_cases h2:k=2/\(c.op=4\/c.op=5\/c.op=6\/c.op=7\/c.op=9)
  ·rw [if_pos h2,if_pos (show k=2/\((dz A m c).op=4\/(dz A m c).op=5\/(dz A m c).op=6\/(dz A m c).op=7\/(dz A m c).op=9) from h2),G2]
  rw [if_neg h2,if_neg (show ¬ (k=2/\((dz A m c).op=4\/(dz A m c).op=5\/(dz A m c).op=6\/(dz A m c).op=7\/(dz A m c).op=9)) from h2)]
  by_cases h3:k=3/\c.op=9/\2<=c.data.length
  ·rw [if_pos h3,if_pos (show k=3/\(dz A m c).op=9/\2<=(dz A m c).data.length from h3)]
   show ((bK S (dz A m { c with data:=c.data.take (c.data.length / 2) })).1,{ (bK S (dz A m { c with data:=c.data.take (c.data.length / 2) })).2 with dA:=A,dC:=m,data:=c.data })=_
   rw [G1];rfl
  rw [if_neg h3,if_neg (show ¬ (k=3/\(dz A m c).op=9/\2<=(dz A m c).data.length) from h3)]
  exact G1
theorem KY:(mq root c).data=c.data:=by
  unfold mq;split<;>rfl
theorem Jg:(aR fs xs root n S c).2.data=c.data:=Jf.trans KY
theorem Jh {kS:Int} (h:kS=if c.op=1 then root else c.other):mq root c={ c with other:=kS }:=by
  unfold mq
  by_cases e:c.op=1
  ·rw [if_pos e] at h ⊢;rw [h]
  rw [if_neg e] at h ⊢;rw [h]
end p
end
end
section
open Go.RowKit Go.WideShapes Go.ChangeShapes Go.ChangeAt Go.Deep
def bQ {α:Type} (f:α->List Value) (xs:List α):List Value:=dH (fun _ x=>f x) 0 xs
theorem M6 {α:Type} {f:α->List Value} {s:Nat} (hf:∀ a,(f a).length=s) {xs:List α} {i j:Nat} {a:α} (h:xs[i]?=some a) (hj:j < s):(bQ f xs)[i * s+j]?=(f a)[j]?:=rB (f:=fun _ x=>f x) (s:=s) (fun _ a=>hf a) xs 0 i j _ h hj
def gu (a:bM):List Value:=[.int .i64 a.at_,.int .i64 a.op,.string a.path,.string a.to,.string a.text]
structure yX (a:bM) (b:Nat):Prop where
  aw:(Lit.int .i64 a.at_).wf=true
  path:a.path.size<=b
  to:a.to.size<=b
  text:a.text.size<=b
theorem yX.wide {a:bM} {b b':Nat} (h:yX a b) (g:b<=b'):yX a b':=⟨h.aw,Nat.le_trans h.path g,Nat.le_trans h.to g,Nat.le_trans h.text g⟩
structure VJ (β:Bs) (c:aB) (b:Nat):Prop where
  data:bS β c.dA c.data
  len:c.data.length<=b
  name:c.name.size<=b
  text:c.text.size<=b
  hw:(Lit.int .i64 c.handle).wf=true
  ow:(Lit.int .i64 c.other).wf=true
instance:Inhabited aB:=⟨⟨0,0,0,⟨#[]⟩,⟨#[]⟩,none,0,[],0,0,0,0,0,0,0⟩⟩
def Yq (xs:List aB) (i:Nat):aB:=xs.getD i default
structure dZ (xs:List bM) (b:Nat):Prop where
  len:xs.length<=b
  q:∀ a∈xs,yX a b
structure je (xs:List bh) (b:Nat):Prop where
  len:xs.length<=b
  q:∀ a∈xs,(Lit.int .i64 a.at_).wf=true
theorem dZ.wide {xs:List bM} {b b':Nat} (h:dZ xs b) (g:b<=b'):dZ xs b':=⟨Nat.le_trans h.len g,fun a ha=>(h.q a ha).wide g⟩
theorem je.wide {xs:List bh} {b b':Nat} (h:je xs b) (g:b<=b'):je xs b':=⟨Nat.le_trans h.len g,h.q⟩
structure Yb (β:Bs) (A:Option Addr) (xs:List aB):Prop where
  row:cF β A (bQ dr xs)
  q:∀ i,i < xs.length->VJ β (Yq xs i) 1048576
section s
variable {β β':Bs} {A:Option Addr} {i j:Nat} {v:Value}
theorem QX {α:Type} {f:α->List Value} {s:Nat} {xs:List α} {a:α} (h:cF β A (bQ f xs)) (hf:∀ a,(f a).length=s) (hi:xs[i]?=some a) (hv:(f a)[j]?=some v):A=some ⟨ax A,av A,none⟩/\Rd β ⟨ax A,av A+i * s+j,none⟩ v:=by
  have hj:j < s:=by rw [← hf a];exact bq hv
  have:=h (i * s+j) v ((M6 hf hi hj).trans hv)
  rw [← Nat.add_assoc] at this
  exact this
theorem QY {xs:List bM} (h:cF β A (bQ gu xs)) (hi:i < xs.length):A=some ⟨ax A,av A,none⟩:=(QX (s:=5) (j:=0) h (fun _=>rfl) (tv hi) rfl).1
theorem ru {xs:List bM} (h:cF β A (bQ gu xs)) (hi:i < xs.length) (hv:(gu (act xs i))[j]?=some v):Rd β ⟨ax A,av A+i * 5+j,none⟩ v:=(QX h (fun _=>rfl) (tv hi) hv).2
theorem VK {xs:List bh} (h:cF β A (bQ fP xs)) (hi:i < xs.length):A=some ⟨ax A,av A,none⟩:=(QX (s:=2) (j:=0) h (fun _=>rfl) (Ab hi) rfl).1
theorem QZ {xs:List bh} (h:cF β A (bQ fP xs)) (hi:i < xs.length) (hv:(fP (kx xs i))[j]?=some v):Rd β ⟨ax A,av A+i * 2+j,none⟩ v:=(QX h (fun _=>rfl) (Ab hi) hv).2
theorem je.at {xs:List bh} {b:Nat} (h:je xs b) (hi:i < xs.length):(Lit.int .i64 (kx xs i).at_).wf=true:=h.q _ (List.mem_of_getElem? (Ab hi))
theorem dZ.at {xs:List bM} {b:Nat} (h:dZ xs b) (hi:i < xs.length):yX (act xs i) b:=h.q _ (List.mem_of_getElem? (tv hi))
end s
section a
variable {H:Type} {enc:TypeId×Value->H} {W:World} {sp:Nat->Bool}
theorem tB {t:TypeId} {n:Nat} {c:Value} {x:DataW H×List MemPlace} (ht:Tryz.prog.underlying t=some (.int .i64)) (h:DataW.trod enc Tryz.prog W 0 sp true n t [c]=some x):∃ z,c=.int .i64 z/\(Lit.int .i64 z).wf=true:=by
  obtain⟨z,h1,_,h3⟩:=DataW.trod_int ht h
  cases h1
  exact⟨z,rfl,h3⟩
theorem PJ {n:Nat} {cs:List Value} {x:DataW H×List MemPlace} (h:DataW.trod enc Tryz.prog W 0 sp true n 136 cs=some x):∃ a:bM,cs=gu a/\yX a (Rows.uptoBulk x.1):=by
  obtain⟨vs,m,_,hx,hl,hvl,hv⟩:=DataW.trod_struct Tryz.underlying136 h
  have hC:Tryz.prog.cellsOf 136=5:=by kernel_rfl
  rw [hC] at hl
  match cs,hl with
  | [c0,c1,c2,c3,c4],_=>
    obtain⟨a0,_⟩:=bJ (hv 0 _ rfl) (by rw [hvl];decide)
    obtain⟨a1,_⟩:=bJ (hv 1 _ rfl) (by rw [hvl];decide)
    obtain⟨a2,e2⟩:=bJ (hv 2 _ rfl) (by rw [hvl];decide)
    obtain⟨a3,e3⟩:=bJ (hv 3 _ rfl) (by rw [hvl];decide)
    obtain⟨a4,e4⟩:=bJ (hv 4 _ rfl) (by rw [hvl];decide)
    obtain⟨z0,rfl,w0⟩:=tB (c:=c0) Tryz.underlying3 a0
    obtain⟨z1,rfl,_⟩:=tB (c:=c1) Tryz.underlying3 a1
    obtain⟨s2,rfl,l2⟩:=tI (c:=c2) Tryz.underlying9 a2
    obtain⟨s3,rfl,l3⟩:=tI (c:=c3) Tryz.underlying9 a3
    obtain⟨s4,rfl,l4⟩:=tI (c:=c4) Tryz.underlying9 a4
    have hb:Rows.uptoBulk x.1=Rows.uptoBulk (.agg (vs.map (·.1))):=by rw [hx]
    exact⟨⟨z0,z1,s2,s3,s4⟩,rfl,⟨w0,by show s2.size<=_;omega,by show s3.size<=_;omega,by show s4.size<=_;omega⟩⟩
theorem KZ {n:Nat} {cs:List Value} {x:DataW H×List MemPlace} (h:DataW.trod enc Tryz.prog W 0 sp true n 139 cs=some x):∃ a:bh,cs=fP a/\(Lit.int .i64 a.at_).wf=true:=by
  obtain⟨vs,m,_,hx,hl,hvl,hv⟩:=DataW.trod_struct Tryz.underlying139 h
  have hC:Tryz.prog.cellsOf 139=2:=by kernel_rfl
  rw [hC] at hl
  match cs,hl with
  | [c0,c1],_=>
    obtain⟨a0,_⟩:=bJ (hv 0 _ rfl) (by rw [hvl];decide)
    obtain⟨a1,_⟩:=bJ (hv 1 _ rfl) (by rw [hvl];decide)
    obtain⟨z0,rfl,w0⟩:=tB (c:=c0) Tryz.underlying3 a0
    obtain⟨z1,rfl,_⟩:=tB (c:=c1) Tryz.underlying3 a1
    exact⟨⟨z0,z1⟩,rfl,w0⟩
theorem K1 {n:Nat} {c:Value} {x:DataW H×List MemPlace} (h:DataW.trod enc Tryz.prog W 0 sp true n 30 [c]=some x):∃ A cp,∃ xs:List bM,c=.slice A xs.length cp/\cF (B0 W) A (bQ gu xs)/\dZ xs (Rows.uptoBulk x.1)/\xs.length<=cp:=by
  obtain⟨A,cp,xs,D,h1,TV,_,h2,h4,h3⟩:=qy (α:=bM) (f:=gu) (Q:=fun a d=>yX a (Rows.uptoBulk d)) Tryz.underlying30 (size:=5) (by kernel_rfl) (by decide) (fun n cs x h=>PJ h) (fun _=>rfl) h
  cases h1
  have h5:=qx ((List.range xs.length).map D)
  refine⟨A,cp,xs,rfl,h2,⟨by simp at h5;omega,fun a ha=>?_⟩,TV⟩
  obtain⟨i,hi,e⟩:=List.mem_iff_getElem.1 ha
  have h6:=h4 i hi
  rw [show xs.getD i default=a by rw [← e];simp [hi]] at h6
  exact h6.wide (by have:=wE (D:=D) hi;omega)
theorem G3 {n:Nat} {c:Value} {x:DataW H×List MemPlace} (h:DataW.trod enc Tryz.prog W 0 sp true n 29 [c]=some x):∃ A cp,∃ xs:List bh,c=.slice A xs.length cp/\cF (B0 W) A (bQ fP xs)/\je xs (Rows.uptoBulk x.1)/\xs.length<=cp:=by
  obtain⟨A,cp,xs,D,h1,TV,_,h2,h4,h3⟩:=qy (α:=bh) (f:=fP) (Q:=fun a _=>(Lit.int .i64 a.at_).wf=true) Tryz.underlying29 (size:=2) (by kernel_rfl) (by decide) (fun n cs x h=>KZ h) (fun _=>rfl) h
  cases h1
  have h5:=qx ((List.range xs.length).map D)
  refine⟨A,cp,xs,rfl,h2,⟨by simp at h5;omega,fun a ha=>?_⟩,TV⟩
  obtain⟨i,hi,e⟩:=List.mem_iff_getElem.1 ha
  have h6:=h4 i hi
  rw [show xs.getD i default=a by rw [← e];simp [hi]] at h6
  exact h6
def Eb (A:Option Addr) (n cp:Nat) (root:Int) (X:FM) (Af:Option Addr) (nf cf:Nat) (Aa:Option Addr) (na ca:Nat):Value:=.agg #[.slice A n cp,.int .i64 root,.int .i64 X.cN,.int .i64 X.cB,.int .i64 X.cH,.int .i64 X.cS,.int .i64 X.cZ,.slice Af nf cf,.slice Aa na ca]
theorem open_wstart {v:Value} {d:DataW H} {ps:List MemPlace} {r:Go.Reach} {b0:Nat} (hval:Value.okWide Tryz.prog W r b0 34 v) (h:DataW.Trod enc Tryz.prog W 0 sp true 34 v d ps) :
    ∃ A cp,∃ ns:List aG,∃ L:Lay,∃ root:Int,∃ X:FM,∃ Af cf,∃ fs:List bh,∃ Aa ca,∃ xs:List bM,v=Eb A ns.length cp root X Af fs.length cf Aa xs.length ca/\aF (B0 W) A ns L/\iA ns (Rows.uptoBulk d)/\Xp X/\(Lit.int .i64 root).wf=true ∧
      cF (B0 W) Af (bQ fP fs)/\je fs (Rows.uptoBulk d)/\fs.length<=cf/\cF (B0 W) Aa (bQ gu xs)/\dZ xs (Rows.uptoBulk d)/\xs.length<=ca:=by
  obtain⟨cs,rfl,hcs⟩:=okWide_struct Tryz.underlying34 hval
  obtain⟨fuel,h⟩:=h
  obtain⟨ys,m,_,hx,hl,nQ,hf⟩:=DataW.trod_struct Tryz.underlying34 h
  have hC:Tryz.prog.cellsOf 34=9:=by kernel_rfl
  rw [hC] at hcs
  obtain⟨cs⟩:=cs
  match cs,hcs with
  | [c0,c1,c2,c3,c4,c5,c6,c7,c8],_=>
    obtain⟨h0,b0⟩:=bJ (hf 0 _ rfl) (by rw [nQ];decide)
    obtain⟨hr,_⟩:=bJ (hf 1 _ rfl) (by rw [nQ];decide)
    obtain⟨h1,_⟩:=bJ (hf 2 _ rfl) (by rw [nQ];decide)
    obtain⟨h3,b3⟩:=bJ (hf 3 _ rfl) (by rw [nQ];decide)
    obtain⟨us,_,_,Yr,_,F9,hu⟩:=DataW.trod_struct Tryz.underlying24 h0
    obtain⟨g0,e0⟩:=bJ (hu 0 _ rfl) (by rw [F9];decide)
    obtain⟨A,cp,ns,L,rfl,hG,hB⟩:=Kw (c:=c0) g0
    obtain⟨vs,_,_,_,_,hvl,hv⟩:=DataW.trod_struct Tryz.underlying28 h1
    obtain⟨k0,_⟩:=bJ (hv 0 _ rfl) (by rw [hvl];decide)
    obtain⟨k1,_⟩:=bJ (hv 1 _ rfl) (by rw [hvl];decide)
    obtain⟨k2,_⟩:=bJ (hv 2 _ rfl) (by rw [hvl];decide)
    obtain⟨k3,_⟩:=bJ (hv 3 _ rfl) (by rw [hvl];decide)
    obtain⟨ts,_,_,_,_,htl,ht⟩:=DataW.trod_struct Tryz.underlying26 k3
    obtain⟨t0,_⟩:=bJ (ht 0 _ rfl) (by rw [htl];decide)
    obtain⟨t1,_⟩:=bJ (ht 1 _ rfl) (by rw [htl];decide)
    obtain⟨zr,rfl,wr⟩:=tB (c:=c1) Tryz.underlying3 hr
    obtain⟨z0,rfl,w0⟩:=jr (c:=c2) Tryz.underlying3 k0
    obtain⟨z1,rfl,w1⟩:=jr (c:=c3) Tryz.underlying3 k1
    obtain⟨z2,rfl,w2⟩:=jr (c:=c4) Tryz.underlying3 k2
    obtain⟨z3,rfl,w3⟩:=jr (c:=c5) Tryz.underlying3 t0
    obtain⟨z4,rfl,w4⟩:=jr (c:=c6) Tryz.underlying3 t1
    obtain⟨ws,_,_,hwx,_,hwl,hw⟩:=DataW.trod_struct Tryz.underlying32 h3
    obtain⟨q0,d0⟩:=bJ (hw 0 _ rfl) (by rw [hwl];decide)
    obtain⟨q1,d1⟩:=bJ (hw 1 _ rfl) (by rw [hwl];decide)
    obtain⟨Af,cf,fs,rfl,hF,Wm,Ys⟩:=G3 (c:=c7) q0
    obtain⟨Aa,ca,xs,rfl,hA,Wn,Yt⟩:=K1 (c:=c8) q1
    cases hx
    rw [Yr] at b0
    rw [hwx] at b3
    exact⟨A,cp,ns,L,zr,⟨z0,z1,z2,z3,z4,0,0,0⟩,Af,cf,fs,Aa,ca,xs,rfl,hG,hB.wide (Nat.le_trans e0 b0),⟨w0,w1,w2,w3,w4⟩,wr,hF,⟨Nat.le_trans Wm.len (Nat.le_trans d0 b3),Wm.q⟩,Ys,hA,⟨Nat.le_trans Wn.len (Nat.le_trans d1 b3),fun a ha=>(Wn.q a ha).wide (Nat.le_trans d1 b3)⟩,Yt⟩
end a
end
end Go.Proofs.YtiehgnlnofhbaaaGreatDoor
section
namespace Go.Proofs
open Go.Shelf
def Tryz.keysS_ren:Go.Shelf.Ren:=⟨fun|7=>60|10=>82|n=>n,fun|23=>174|26=>9|3=>156|28=>172|0=>0|27=>171|33=>214|4=>4|n=>n,fun|n=>n⟩
theorem Tryz.keysS:Go.Proofs.SlLaysZ.n7 Tryz.prog Tryz.keysS_ren:={
  mixed:=by kernel_rfl
  f7:=⟨Tryz.f60.name,by decide,Tryz.func60.trans (congrArg some (by kernel_rfl))⟩
  f10:=⟨Tryz.f82.name,by decide,Tryz.func82.trans (congrArg some (by kernel_rfl))⟩
  t0:=Tryz.underlying0
  a0:=Tryz.isAgg0
  z0:=Tryz.sizeOf0
  v0:=Tryz.zeroValue0
  t4:=Tryz.underlying4
  a4:=Tryz.isAgg4
  z4:=Tryz.sizeOf4
  v4:=Tryz.zeroValue4
  t23:=Tryz.underlying174
  a23:=Tryz.isAgg174
  z23:=Tryz.sizeOf174
  v23:=Tryz.zeroValue174
  t26:=Tryz.underlying9
  a26:=Tryz.isAgg9
  z26:=Tryz.sizeOf9
  v26:=Tryz.zeroValue9
  t27:=Tryz.underlying171
  a27:=Tryz.isAgg171
  z27:=Tryz.sizeOf171
  v27:=Tryz.zeroValue171
  t28:=Tryz.underlying172
  a28:=Tryz.isAgg172
  z28:=Tryz.sizeOf172
  v28:=Tryz.zeroValue172
  t33:=Tryz.underlying214
  a33:=Tryz.isAgg214
  z33:=Tryz.sizeOf214
  v33:=Tryz.zeroValue214 }
def Tryz.sortedS_ren:Go.Shelf.Ren:=⟨fun|6=>59|8=>80|9=>81|11=>92|13=>85|12=>93|23=>103|24=>104|14=>107|15=>108|16=>109|17=>110|18=>111|19=>112|20=>113|21=>114|22=>115|25=>124|26=>117|27=>118|28=>125|29=>126|30=>127|31=>134|n=>n,fun|26=>9|28=>172|24=>35|0=>0|3=>3|37=>193|48=>235|50=>237|4=>4|40=>229|39=>228|45=>121|5=>5|9=>9|51=>245|55=>249|57=>253|58=>254|33=>214|n=>n,fun|n=>n⟩
theorem Tryz.sortedS:Go.Proofs.SlLaysZ.n6 Tryz.prog Tryz.sortedS_ren:={
  mixed:=by kernel_rfl
  f6:=⟨Tryz.f59.name,by decide,Tryz.func59.trans (congrArg some (by kernel_rfl))⟩
  f8:=⟨Tryz.f80.name,by decide,Tryz.func80.trans (congrArg some (by kernel_rfl))⟩
  f11:=⟨Tryz.f92.name,by decide,Tryz.func92.trans (congrArg some (by kernel_rfl))⟩
  t0:=Tryz.underlying0
  a0:=Tryz.isAgg0
  z0:=Tryz.sizeOf0
  v0:=Tryz.zeroValue0
  t24:=Tryz.underlying35
  a24:=Tryz.isAgg35
  z24:=Tryz.sizeOf35
  v24:=Tryz.zeroValue35
  t26:=Tryz.underlying9
  a26:=Tryz.isAgg9
  z26:=Tryz.sizeOf9
  v26:=Tryz.zeroValue9
  t28:=Tryz.underlying172
  a28:=Tryz.isAgg172
  z28:=Tryz.sizeOf172
  v28:=Tryz.zeroValue172
  i26:=by kernel_rfl }
def Tryz.sortS_ren:Go.Shelf.Ren:=⟨fun|6=>81|8=>85|9=>93|19=>103|20=>104|21=>107|22=>108|23=>109|24=>110|25=>111|26=>112|27=>113|28=>114|29=>115|36=>124|31=>117|32=>118|37=>125|38=>126|39=>127|41=>134|n=>n,fun|27=>35|29=>9|3=>3|32=>193|26=>35|0=>0|44=>235|46=>237|4=>4|36=>229|35=>228|41=>121|5=>5|9=>9|53=>245|57=>249|63=>253|64=>254|n=>n,fun|n=>n⟩
theorem Tryz.sortS:Go.Proofs.SlLaysM.n6 Tryz.prog Tryz.sortS_ren:={
  mixed:=by kernel_rfl
  f6:=⟨Tryz.f81.name,by decide,Tryz.func81.trans (congrArg some (by kernel_rfl))⟩
  f8:=Tryz.func85.trans (congrArg some (by kernel_rfl))
  f9:=⟨Tryz.f93.name,by decide,Tryz.func93.trans (congrArg some (by kernel_rfl))⟩
  f19:=Tryz.func103.trans (congrArg some (by kernel_rfl))
  f20:=Tryz.func104.trans (congrArg some (by kernel_rfl))
  f21:=⟨Tryz.f107.name,by decide,Tryz.func107.trans (congrArg some (by kernel_rfl))⟩
  f22:=⟨Tryz.f108.name,by decide,Tryz.func108.trans (congrArg some (by kernel_rfl))⟩
  f23:=⟨Tryz.f109.name,by decide,Tryz.func109.trans (congrArg some (by kernel_rfl))⟩
  f24:=⟨Tryz.f110.name,by decide,Tryz.func110.trans (congrArg some (by kernel_rfl))⟩
  f25:=⟨Tryz.f111.name,by decide,Tryz.func111.trans (congrArg some (by kernel_rfl))⟩
  f26:=⟨Tryz.f112.name,by decide,Tryz.func112.trans (congrArg some (by kernel_rfl))⟩
  f27:=⟨Tryz.f113.name,by decide,Tryz.func113.trans (congrArg some (by kernel_rfl))⟩
  f28:=⟨Tryz.f114.name,by decide,Tryz.func114.trans (congrArg some (by kernel_rfl))⟩
  f29:=⟨Tryz.f115.name,by decide,Tryz.func115.trans (congrArg some (by kernel_rfl))⟩
  f31:=Tryz.func117.trans (congrArg some (by kernel_rfl))
  f32:=Tryz.func118.trans (congrArg some (by kernel_rfl))
  f36:=⟨Tryz.f124.name,by decide,Tryz.func124.trans (congrArg some (by kernel_rfl))⟩
  f37:=⟨Tryz.f125.name,by decide,Tryz.func125.trans (congrArg some (by kernel_rfl))⟩
  f38:=⟨Tryz.f126.name,by decide,Tryz.func126.trans (congrArg some (by kernel_rfl))⟩
  f39:=⟨Tryz.f127.name,by decide,Tryz.func127.trans (congrArg some (by kernel_rfl))⟩
  f41:=⟨Tryz.f134.name,by decide,Tryz.func134.trans (congrArg some (by kernel_rfl))⟩
  t0:=Tryz.underlying0
  a0:=Tryz.isAgg0
  z0:=Tryz.sizeOf0
  v0:=Tryz.zeroValue0
  t3:=Tryz.underlying3
  a3:=Tryz.isAgg3
  z3:=Tryz.sizeOf3
  v3:=Tryz.zeroValue3
  t4:=Tryz.underlying4
  a4:=Tryz.isAgg4
  z4:=Tryz.sizeOf4
  v4:=Tryz.zeroValue4
  t5:=Tryz.underlying5
  a5:=Tryz.isAgg5
  z5:=Tryz.sizeOf5
  v5:=Tryz.zeroValue5
  t9:=Tryz.underlying9
  a9:=Tryz.isAgg9
  z9:=Tryz.sizeOf9
  v9:=Tryz.zeroValue9
  t26:=Tryz.underlying35
  a26:=Tryz.isAgg35
  z26:=Tryz.sizeOf35
  v26:=Tryz.zeroValue35
  t27:=Tryz.underlying35
  a27:=Tryz.isAgg35
  z27:=Tryz.sizeOf35
  v27:=Tryz.zeroValue35
  t29:=Tryz.underlying9
  a29:=Tryz.isAgg9
  z29:=Tryz.sizeOf9
  v29:=Tryz.zeroValue9
  t32:=Tryz.underlying193
  a32:=Tryz.isAgg193
  z32:=Tryz.sizeOf193
  v32:=Tryz.zeroValue193
  t35:=Tryz.underlying228
  a35:=Tryz.isAgg228
  z35:=Tryz.sizeOf228
  v35:=Tryz.zeroValue228
  t36:=Tryz.underlying229
  a36:=Tryz.isAgg229
  z36:=Tryz.sizeOf229
  v36:=Tryz.zeroValue229
  t41:=Tryz.underlying121
  a41:=Tryz.isAgg121
  z41:=Tryz.sizeOf121
  v41:=Tryz.zeroValue121
  t44:=Tryz.underlying235
  a44:=Tryz.isAgg235
  z44:=Tryz.sizeOf235
  v44:=Tryz.zeroValue235
  t46:=Tryz.underlying237
  a46:=Tryz.isAgg237
  z46:=Tryz.sizeOf237
  v46:=Tryz.zeroValue237
  t53:=Tryz.underlying245
  a53:=Tryz.isAgg245
  z53:=Tryz.sizeOf245
  v53:=Tryz.zeroValue245
  t57:=Tryz.underlying249
  a57:=Tryz.isAgg249
  z57:=Tryz.sizeOf249
  v57:=Tryz.zeroValue249
  t63:=Tryz.underlying253
  a63:=Tryz.isAgg253
  z63:=Tryz.sizeOf253
  v63:=Tryz.zeroValue253
  t64:=Tryz.underlying254
  a64:=Tryz.isAgg254
  z64:=Tryz.sizeOf254
  v64:=Tryz.zeroValue254 }
end Go.Proofs
end
namespace Go.Proofs.YtiehgnlnofhbaaaGreatDoor
section
open Go.RowKit Go.Maps Go.Sort Go.Shelf
theorem TW (m:Nat):AnyZ.SortsIn Tryz.prog Tryz.sortedS_ren Fence.wide m:=
  ⟨fun blk off cap ss W hH hblk hsz=>callsIn_wide.2 (AnyM.slices_Sort_string Tryz.sortS blk off cap ss W hH hblk hsz),
   fun p cap W=>callsIn_wide.2 (AnyM.slices_Sort_string_none Tryz.sortS p cap W)⟩
def Ec (bk:Nat):Value:=.func (.func 82) #[] #[.pointer (some ⟨bk,0,none⟩)]
theorem PK {β:Bs} (mb:Option Nat):Spec Tryz.prog β 60 #[.map mb] [] (fun v l=>∃ bk,v=Ec bk/\l=[.blk bk [.map mb] 174]):=
  Spec.Cb fun W _=>by
    have h:CallsIn Fence.wide 5 Tryz.prog 60 #[.map mb] W fun e w'=>e=.returned (Ec W.heap.size)/\w'=W.alloc (.cells #[.map mb] 174):=AnyZ.keys_in Tryz.keysS Fence.wide 5 trivial rfl mb W
    refine ((callsIn_wide (n:=5)).1 h).mono ?_
    rintro e w' ⟨rfl,rfl⟩
    refine⟨_,_,rfl,⟨W.heap.size,rfl,rfl⟩,(Keeps.refl _ _).alloc _,fun k=>k=W.heap.size,⟨?_,fun k=>Iff.rfl⟩,fun k hk=>Nat.le_of_eq hk.symm⟩
    show (W.heap.push _)[W.heap.size]?=_
    simp
def rN (es:fS Th):List Value:=es.map (fun e=>.string e.1)
theorem Ji {es:fS Th} (h:j8 es):(es.map (fun e=>e.1.data.toList)).Pairwise (· < ·):=by
  refine List.pairwise_map.2 (h.imp (fun {a b} hab=>?_))
  unfold ju at hab
  have h1:¬ Op.bytesLess b.1.toList a.1.toList=true:=fun e=>hab (by rw [e];rfl)
  have h2:¬ b.1.toList=a.1.toList:=fun e=>hab (by rw [e];simp)
  rw [bytesLess_eq,Lib.toList_data,Lib.toList_data] at h1
  rw [Lib.toList_data,Lib.toList_data] at h2
  by_cases e:a.1.data.toList < b.1.data.toList
  ·exact e
  exfalso
  have e:=List.not_lt.1 e
  rcases List.le_iff_lt_or_eq.1 e with e|e
  ·exact h1 (by simpa using e)
  exact h2 e
theorem PL {w:World} {b n:Nat} {L:HL} {es:fS Th} {D:DataW Value} (hr:j8 es) (hown:w.ownsMap Tryz.prog 9 sJ b n D) (hf:∀ kl,Maps.has D kl=(jh L es kl).isSome) {ss:List (List UInt8)} (hp:ss.Perm (strKeys D)) :
    ss.mergeSort (fun x y=>decide (x<=y))=es.map (fun e=>e.1.data.toList):=by
  have hsort:=Ji hr
  obtain⟨es',hD,hpw,_⟩:=hown.entries BB
  obtain⟨Yu,Wo,hko⟩:=hown.keysOf
  obtain rfl:es'=Yu:=by rw [hD] at Wo;simpa using Wo
  have hp2:(es.map (fun e=>e.1.data.toList)).Perm (strKeys D):=by
    rw [hD]
    refine perm_strKeys hpw (fun p hp=>?_) (hsort.imp (fun {a b} h e=>by subst e;exact absurd h (List.lt_irrefl a))) (fun x=>?_)
    ·obtain⟨v,hv⟩:=hko p hp
     obtain⟨x,_,h,_⟩:=keyOf_str Tryz.underlying9 hv
     exact⟨x,h⟩
    rw [← hD,hf]
    show _↔((aT ⟨x.toArray⟩ es).map (ez L)).isSome=true
    rw [Option.isSome_map]
    constructor
    ·intro hx
     obtain⟨e,he,rfl⟩:=List.mem_map.1 hx
     have h1:(⟨e.1.data.toList.toArray⟩:ByteArray)=e.1:=by rw [Array.toArray_toList]
     rw [h1,tQ (t:=e.2) (j8.twice hr) he];rfl
    intro hx
    obtain⟨t,ht⟩:=Option.isSome_iff_exists.1 hx
    exact List.mem_map.2 ⟨_,lS ht,by simp⟩
  have h3:=mergeSort_of_perm (hp.trans hp2.symm)
  have h4:(es.map (fun e=>e.1.data.toList)).mergeSort leB=es.map (fun e=>e.1.data.toList):=List.mergeSort_of_pairwise (hsort.imp (fun {a b} h=>by simp only [leB,decide_eq_true_eq];exact List.le_of_lt h))
  exact h3.trans h4
theorem K2 {β:Bs} (L:HL) (b bk n:Nat) (es:fS Th) (hr:j8 es) (hn:n<=8192) :
    Spec Tryz.prog β 59 #[Ec bk] [.abs (aN Tryz.prog 9 b (jh L es) n),.blk bk [.map (some b)] 174] (fun v l=>∃ A cap,v=.slice A es.length cap ∧
      l=[.abs (aN Tryz.prog 9 b (jh L es) n),.blk bk [.map (some b)] 174,.abs (aK 9 1 A es.length cap (rN es))]):=by
  intro R w hS
  obtain⟨F1,h1⟩:=hS.get (i:=0) (p:=.abs (aN Tryz.prog 9 b (jh L es) n)) rfl
  obtain⟨F2,h2⟩:=hS.get (i:=1) (p:=.blk bk [.map (some b)] 174) rfl
  obtain⟨D,hown,hsz,hhas,_⟩:=h1.1
  have hcell:w.cell? ⟨bk,0,none⟩=some (.map (some b)):=(gj h2.1 rfl rfl rfl).1
  have hseq:SeqGives Fence.wide 2 Tryz.prog 82 #[.pointer (some ⟨bk,0,none⟩)] encStr (fun ss=>ss.Perm (strKeys D)) (Maps.size D) w:=
    AnyZ.keys_gives (ρ:=Tryz.keysS_ren) { Tryz.keysS with } Fence.wide _ trivial rfl (by omega) bk b n D w (lt_of_some h2.1) hcell hown
  have cS:=AnyZ.sorted_in Tryz.sortedS Fence.wide 5 trivial trivial trivial trivial rfl (by omega) (TW _) (enters_of Tryz.func81 (by kernel_rfl) rfl) 82 #[.pointer (some ⟨bk,0,none⟩)] trivial (enters_of Tryz.func82 (by kernel_rfl) rfl)
    (fun ss=>ss.Perm (strKeys D)) (Maps.size D) (by rw [hsz];unfold maxLen;omega) (by rw [hsz];omega) w hseq
  change CallsIn _ _ Tryz.prog 59 _ _ _ at cS
  refine ((callsIn_wide (n:=5)).1 cS).mono ?_
  rintro e w' ⟨v,ss,rfl,hp,hrow,hnil,hb⟩
  have hkeys:=PL hr hown hhas hp
  have hl2:ss.length=es.length:=by
    have h3:(ss.mergeSort (fun x y=>decide (x<=y))).length=ss.length:=List.length_mergeSort ss
    rw [hkeys,List.length_map] at h3
    exact h3.symm
  rw [hkeys,hl2] at hrow
  have tH:∃ A cap,v=.slice A es.length cap:=by
    rcases hrow.2 with ⟨e1,e2⟩|⟨g,cp,cur,e1,_⟩
    ·exact⟨none,0,by rw [e1,e2]⟩
    exact⟨_,cp,e1⟩
  obtain⟨A,cap,rfl⟩:=tH
  have Yv:(es.map (fun e=>e.1.data.toList)).map encStr=rN es:=by
    rw [List.map_map]
    refine List.map_congr_left (fun e _=>?_)
    show encStr e.1.data.toList=.string e.1
    unfold encStr
    rw [Array.toArray_toList]
  rw [Yv] at hrow
  have hq:Sat β ([.abs (aN Tryz.prog 9 b (jh L es) n),.blk bk [.map (some b)] 174,.abs R]++[.abs (aK 9 1 A es.length cap (rN es))]) w':=by
    refine Sat.new (F:=fun k=>(Value.slice A es.length cap).ownBlock=some k) hS ⟨?_,fun k=>Iff.rfl⟩ ⟨hb.os,hb.tape,hb.output,hb.size,fun k hk _=>hb.block k hk⟩ (fun k hk=>(hrow.lt k hk).1)
    refine⟨hrow.1,?_⟩
    rcases hrow.2 with h|⟨g,cp,cur,e1,_,h3,h4⟩
    ·exact .inl h
    exact .inr ⟨g,cp,cur,e1,Nat.zero_le _,h3,h4⟩
  exact⟨_,[.abs (aN Tryz.prog 9 b (jh L es) n),.blk bk [.map (some b)] 174,.abs (aK 9 1 A es.length cap (rN es))],rfl,⟨A,cap,rfl,rfl⟩,hq.pick (idx:=[0,1,3,2]) rfl rfl⟩
end
section
open Go.RowKit Go.Maps bC aE
theorem JV {ns:List aG} {n:aG} {k:Nat} (h:k < ns.length):nd (ns++[n]) k=nd ns k:=by
  unfold nd;rw [List.getD_eq_getElem?_getD,List.getD_eq_getElem?_getD,List.getElem?_append_left h]
theorem Ed {ns:List aG} {n:aG}:nd (ns++[n]) ns.length=n:=by
  unfold nd;rw [List.getD_eq_getElem?_getD,List.getElem?_append_right (Nat.le_refl _)];simp
def PN:Lay:=⟨fun _=>none,fun _=>none,fun _=>0,fun _=>0⟩
def mw (ns:List aG) (L:Lay) (k:Nat):bV:=aK 110 2 (L.eA k) (nd ns k).ah.length (L.eC k) (iH (nd ns k).ah)
def mz (ns:List aG) (L:Lay) (k:Nat):bV:=aK 5 1 (L.dA k) (nd ns k).data.length (L.dC k) (cM (nd ns k).data)
def Xv (A:Option Addr) (c:Nat) (ns:List aG) (L:Lay):HP:=.abs (aK 108 10 A ns.length c (dU L ns))
def PO (A:Option Addr) (c:Nat) (ns:List aG) (L:Lay):List HP:=[Xv A c ns L,.abs (jN (mw ns L) ns.length),.abs (jN (mz ns L) ns.length)]
theorem qC.graph {β β':Bs} {A:Option Addr} {c:Nat} {ns:List aG} {L:Lay} (h:qC β (PO A c ns L) β'):aF β' A ns L:=by
  obtain⟨F,h1,h2⟩:=h.get 0 rfl
  obtain⟨G,g1,g2⟩:=h.get 1 rfl
  obtain⟨K,k1,k2⟩:=h.get 2 rfl
  exact⟨cF.jx h1 h2 rfl,
    jN.base k1 k2 rfl (Φ:=fun i b=>bS b (L.dA i) (nd ns i).data) (fun i _ F hF hO=>cF.jx (show (HP.abs (aK 5 1 (L.dA i) (nd ns i).data.length (L.dC i) (cM (nd ns i).data))).h F _ from hF) hO rfl),
    jN.base g1 g2 rfl (Φ:=fun i b=>eG b (L.eA i) (nd ns i).ah) (fun i _ F hF hO=>cF.jx (show (HP.abs (aK 110 2 (L.eA i) (nd ns i).ah.length (L.eC i) (iH (nd ns i).ah))).h F _ from hF) hO rfl)⟩
theorem Jj {L:Lay} {ns:List aG} {n:aG} {dA eA:Option Addr} {dC eC:Nat}:dU L ns++[.int .i64 n.id,.int .i64 n.kind,.int .i64 n.mode,.int .i64 n.uid,.int .i64 n.gid,.int .i64 n.sec,.int .i64 n.nano,.slice dA n.data.length dC,.string n.target,.slice eA n.ah.length eC]=dU (L.put ns.length dA dC eA eC) (ns++[n]):=by
  have h:=Ch (ns:=ns++[n]) (L:=L) (k:=ns.length) (by simp) dA dC eA eC
  rw [Ed,List.take_left,List.take_of_length_le (by simp)] at h
  exact h
theorem EW {ns:List aG} {L:Lay} {n:aG} {dA eA:Option Addr} {dC eC:Nat}:(∀ x,x < ns.length->mz (ns++[n]) (L.put ns.length dA dC eA eC) x=mz ns L x)/\mz (ns++[n]) (L.put ns.length dA dC eA eC) ns.length=aK 5 1 dA n.data.length dC (cM n.data):=by
  refine⟨fun x hx=>?_,?_⟩
  ·unfold mz Lay.put
   rw [JV hx]
   have:¬ x=ns.length:=by omega
   simp [this]
  unfold mz Lay.put
  rw [Ed]
  simp
theorem EX {ns:List aG} {L:Lay} {n:aG} {dA eA:Option Addr} {dC eC:Nat}:(∀ x,x < ns.length->mw (ns++[n]) (L.put ns.length dA dC eA eC) x=mw ns L x)/\mw (ns++[n]) (L.put ns.length dA dC eA eC) ns.length=aK 110 2 eA n.ah.length eC (iH n.ah):=by
  refine⟨fun x hx=>?_,?_⟩
  ·unfold mw Lay.put
   rw [JV hx]
   have:¬ x=ns.length:=by omega
   simp [this]
  unfold mw Lay.put
  rw [Ed]
  simp
def lu (O:bW) (e:ByteArray×Th):jq:=⟨e.1,(obj O e.2.k).id⟩
def Ac (O:bW) (id:Int) (t:Th):aG:=⟨id,t.kind,(obj O t.k).mode,(obj O t.k).uid,(obj O t.k).gid,(obj O t.k).sec,(obj O t.k).nano,(obj O t.k).data,(obj O t.k).target,(obj O t.k).ah.map (lu O)⟩
def ay (S:aI):List aG:=S.idx.map (fun p=>Ac S.O p.1 p.2)
theorem dP {S:aI}:(ay S).length=S.idx.length:=List.length_map ..
def cI (S:aI) (i:Nat):Th:=(S.idx.getD i (0,⟨0,0⟩)).2
def bZ (S:aI) (i:Nat):Int:=(S.idx.getD i (0,⟨0,0⟩)).1
section at_
variable {S:aI} {i:Nat}
theorem vM (hi:i < S.idx.length):S.idx[i]?=some (bZ S i,cI S i):=by
  unfold bZ cI
  rw [List.getD_eq_getElem?_getD,List.getElem?_eq_getElem hi];rfl
theorem get_at (h:Inv0 S) (hi:i < S.idx.length):aE.get S.idx (bZ S i)=some (cI S i):=o9 h.rise (List.mem_of_getElem? (vM hi))
theorem lC (h:Inv0 S) (hi:i < S.idx.length):Live S.idx (cI S i)/\bZ S i=((cI S i).k:Int):=⟨h.live (get_at h hi),h.key (get_at h hi)⟩
theorem G4 (hi:i < S.idx.length):(keys S.idx)[i]?=some (bZ S i):=by
  unfold keys
  rw [List.getElem?_map,vM hi];rfl
theorem wX (hi:i < S.idx.length):(ay S).take (i+1)=(ay S).take i++[Ac S.O (bZ S i) (cI S i)]:=by
  rw [List.take_add_one]
  congr 1
  unfold ay
  rw [List.getElem?_map,vM hi];rfl
theorem dY (hi:i<=S.idx.length):((ay S).take i).length=i:=by rw [List.length_take,dP];omega
end at_
section sat
variable {β:Bs} {l l':List HP} {w:World} {i j k:Nat} {O:bW} {L:HL} {ix:List Nat}
theorem Sat.TY (h:Sat β l w) (hp:l[i]?=some (.abs (aH (kZ (ct O L) k bV.none)))) (hq:l[j]?=some (.abs (aK 5 1 (L.dA k) (obj O k).data.length (L.dC k) (cM (obj O k).data)))) (hd:nodupB (i::j::ix)=true) (hl:bO l ix=some l') (h2:(obj O k).kind=1):Sat β (.abs (aH (ct O L))::l') w:=
  h.sP hp hq (fun _ _ h=>h) hd hl k (fun _ hx=>(zS hx).symm) (tM h2)
end sat
theorem K3 {es:List jq} {e:jq}:iH es++[.string e.name,.int .i64 e.id]=iH (es++[e]):=(wC e es 0).symm
section grow
variable {ns G':List aG} {n:aG} {L:Lay} {i dn en:Nat} {dA eA:Option Addr} {dC eC:Nat}
theorem wY (hl:ns.length=i) (hG:G'=ns++[n]) (hd:n.data.length=dn) (he:n.ah.length=en):dU L ns++[.int .i64 n.id,.int .i64 n.kind,.int .i64 n.mode,.int .i64 n.uid,.int .i64 n.gid,.int .i64 n.sec,.int .i64 n.nano,.slice dA dn dC,.string n.target,.slice eA en eC]=dU (L.put i dA dC eA eC) G':=by
  subst hl hG hd he;exact Jj
theorem BM (hl:ns.length=i) (hG:G'=ns++[n]):∀ x,x < i->mz G' (L.put i dA dC eA eC) x=mz ns L x:=by
  subst hl hG;exact EW.1
theorem yY (hl:ns.length=i) (hG:G'=ns++[n]) (hd:n.data.length=dn):mz G' (L.put i dA dC eA eC) i=aK 5 1 dA dn dC (cM n.data):=by
  subst hl hG hd;exact EW.2
theorem BN (hl:ns.length=i) (hG:G'=ns++[n]):∀ x,x < i->mw G' (L.put i dA dC eA eC) x=mw ns L x:=by
  subst hl hG;exact EX.1
theorem yZ (hl:ns.length=i) (hG:G'=ns++[n]) (he:n.ah.length=en):mw G' (L.put i dA dC eA eC) i=aK 110 2 eA en eC (iH n.ah):=by
  subst hl hG he;exact EX.2
end grow
section more
variable {S:aI} {i j k:Nat}
theorem VL (h:Inv0 S) (hi:i < S.idx.length):(∃ k,cI S i=⟨k,1⟩/\Live S.idx ⟨k,1⟩)\/(∃ k,cI S i=⟨k,2⟩/\Live S.idx ⟨k,2⟩)\/∃ k,cI S i=⟨k,3⟩/\Live S.idx ⟨k,3⟩:=by
  have h1:=(lC h hi).1
  generalize cI S i=t at h1 ⊢
  obtain⟨k,kd⟩:=t
  rcases (h.ob _ h1).2.2 with e|e|e<;>simp only at e<;>subst e
  ·exact .inl ⟨k,rfl,h1⟩
  ·exact .inr (.inl ⟨k,rfl,h1⟩)
  exact .inr (.inr ⟨k,rfl,h1⟩)
theorem Ee (h:Inv0 S) (hi:i < S.idx.length):(Lit.int .i64 (bZ S i)).wf=true:=by
  have h1:=h.idx _ _ (get_at h hi)
  have h2:=h.last
  exact WalkArith.wf_i64 (by omega)
theorem PS (hi:i < S.idx.length):(ints (keys S.idx))[i * 1+0]?=some (.int .i64 (bZ S i)):=by
  rw [Nat.mul_one,Nat.add_zero]
  unfold ints
  rw [List.getElem?_map,G4 hi];rfl
theorem G5 (h:Inv0 S) {t:Th} (hl:Live S.idx t) (hk:t.kind≠3):(obj S.O t.k).target=⟨#[]⟩:=by
  rcases (h.mt t hl).target with e|e
  ·exact e.2
  exact absurd (h.kind hl ▸ e.1) hk
theorem rO (h:Inv0 S) (hi:i < S.idx.length) (lU:cI S i=⟨k,1⟩) (hl:Live S.idx ⟨k,1⟩):(ay S).take (i+1)=(ay S).take i++[⟨bZ S i,1,(obj S.O k).mode,(obj S.O k).uid,(obj S.O k).gid,(obj S.O k).sec,(obj S.O k).nano,(obj S.O k).data,⟨#[]⟩,[]⟩]:=by
  rw [wX hi,lU]
  unfold Ac
  rw [show (obj S.O k).target=⟨#[]⟩ from G5 h hl (by simp),show (obj S.O k).ah=[] from (h.mt _ hl).ah (by rw [h.kind hl];simp)];rfl
theorem rP (h:Inv0 S) (hi:i < S.idx.length) (lU:cI S i=⟨k,3⟩) (hl:Live S.idx ⟨k,3⟩):(ay S).take (i+1)=(ay S).take i++[⟨bZ S i,3,(obj S.O k).mode,(obj S.O k).uid,(obj S.O k).gid,(obj S.O k).sec,(obj S.O k).nano,[],(obj S.O k).target,[]⟩]:=by
  rw [wX hi,lU]
  unfold Ac
  rw [show (obj S.O k).data=[] from (h.mt _ hl).data (by rw [h.kind hl];simp),show (obj S.O k).ah=[] from (h.mt _ hl).ah (by rw [h.kind hl];simp)];rfl
theorem tU (h:Inv0 S) (hi:i < S.idx.length) (lU:cI S i=⟨k,2⟩) (hl:Live S.idx ⟨k,2⟩):(ay S).take (i+1)=(ay S).take i++[⟨bZ S i,2,(obj S.O k).mode,(obj S.O k).uid,(obj S.O k).gid,(obj S.O k).sec,(obj S.O k).nano,[],⟨#[]⟩,(obj S.O k).ah.map (lu S.O)⟩]:=by
  rw [wX hi,lU]
  unfold Ac
  rw [show (obj S.O k).target=⟨#[]⟩ from G5 h hl (by simp),show (obj S.O k).data=[] from (h.mt _ hl).data (by rw [h.kind hl];simp)]
def fD (es:fS Th) (j:Nat):ByteArray:=(es.getD j (⟨#[]⟩,⟨0,0⟩)).1
def mA (es:fS Th) (j:Nat):Th:=(es.getD j (⟨#[]⟩,⟨0,0⟩)).2
theorem qb {es:fS Th} (hj:j < es.length):es[j]?=some (fD es j,mA es j):=by
  unfold fD mA
  rw [List.getD_eq_getElem?_getD,List.getElem?_eq_getElem hj];rfl
theorem K5 {es:fS Th} (hj:j < es.length):(rN es)[j * 1+0]?=some (.string (fD es j)):=by
  rw [Nat.mul_one,Nat.add_zero]
  unfold rN
  rw [List.getElem?_map,qb hj];rfl
theorem Xw (h:Inv0 S) {t:Th} (hl:Live S.idx t) (hj:j < (obj S.O t.k).ah.length):bF (fD (obj S.O t.k).ah j)/\((∃ k,aT (fD (obj S.O t.k).ah j) (obj S.O t.k).ah=some ⟨k,1⟩/\Live S.idx ⟨k,1⟩/\mA (obj S.O t.k).ah j=⟨k,1⟩)\/(∃ k,aT (fD (obj S.O t.k).ah j) (obj S.O t.k).ah=some ⟨k,2⟩/\Live S.idx ⟨k,2⟩/\mA (obj S.O t.k).ah j=⟨k,2⟩)\/∃ k,aT (fD (obj S.O t.k).ah j) (obj S.O t.k).ah=some ⟨k,3⟩/\Live S.idx ⟨k,3⟩/\mA (obj S.O t.k).ah j=⟨k,3⟩):=by
  have hm:=List.mem_of_getElem? (qb hj)
  have h1:=h.ah t hl _ hm
  have h2:=tQ (h.twice hl) hm
  refine⟨h1.1,?_⟩
  have h3:=h1.2
  generalize mA (obj S.O t.k).ah j=u at h2 h3 ⊢
  obtain⟨k,kd⟩:=u
  rcases (h.ob _ h3).2.2 with e|e|e<;>simp only at e<;>subst e
  ·exact .inl ⟨k,h2,h3,rfl⟩
  ·exact .inr (.inl ⟨k,h2,h3,rfl⟩)
  exact .inr (.inr ⟨k,h2,h3,rfl⟩)
theorem y4 {O:bW} {es:fS Th} {kd:Int} (hj:j < es.length) (he:mA es j=⟨k,kd⟩):iH ((es.take j).map (lu O))++[.string (fD es j),.int .i64 (obj O k).id]=iH ((es.take (j+1)).map (lu O)):=by
  rw [List.take_add_one,qb hj,he,List.map_append]
  exact K3 (es:=(es.take j).map (lu O)) (e:=⟨fD es j,(obj O k).id⟩)
end more
theorem qC.bytes {β β':Bs} {A:Option Addr} {n c:Nat} {d:List UInt8} (h:qC β [.abs (aK 5 1 A n c (cM d))] β'):bS β' A d:=by
  obtain⟨F,h1,h2⟩:=h.get 0 rfl
  exact cF.jx h1 h2 rfl
end
section
open Go.RowKit
section order
variable {P:Program} {ops:Array Oper} {Q Q':Post} {n:Nat} {S:World->Prop}
inductive tV
  | one (i:Nat)
  | two (i j:Nat)
  | three (i k j:Nat)
  | perm (G:List Nat)
  | beside (c:List Nat) (j:Nat)
def G6 (P:Program) (ops:Array Oper) (Q:Post) (S:World->Prop) (K:Act->World->Prop):Nat->List Nat->Act->World->Prop
  | 0,_,a,w=>K a w
  | n+1,G,a,w=>∀ i∈G,wpOp P ops Q i (fun a' w'=>S w'/\G6 P ops Q S K n (G.erase i) a' w') a w
def FV (ops:Array Oper) (f:Array Bool->Bool):Nat->List Nat->Array Bool->Bool
  | 0,_,listed=>f listed
  | n+1,G,listed=>(Region.ready .any ops listed == G) && !G.isEmpty && G.all (fun i=>FV ops f n (G.erase i) (listed.setIfInBounds i true))
def FW (P:Program) (ops:Array Oper) (Q:Post) (S:World->Prop) (K:Act->World->Prop):List Nat->Act->World->Prop
  | [],a,w=>K a w
  | i::c,a,w=>wpOp P ops Q i (fun a' w'=>S w'/\FW P ops Q S K c a' w') a w
def wZ (P:Program) (ops:Array Oper) (Q:Post) (S:World->Prop) (K:Act->World->Prop) (j:Nat):List Nat->Act->World->Prop
  | [],a,w=>wpOp P ops Q j (fun a' w'=>S w'/\K a' w') a w
  | i::c,a,w=>wpOp P ops Q i (fun a' w'=>S w'/\wZ P ops Q S K j c a' w') a w/\wpOp P ops Q j (fun a' w'=>S w'/\FW P ops Q S K (i::c) a' w') a w
def seqB (ops:Array Oper) (f:Array Bool->Bool):List Nat->Array Bool->Bool
  | [],listed=>f listed
  | i::c,listed=>(Region.ready .any ops listed == [i]) && seqB ops f c (listed.setIfInBounds i true)
def vN (ops:Array Oper) (f:Array Bool->Bool) (j:Nat):List Nat->Array Bool->Bool
  | [],listed=>(Region.ready .any ops listed == [j]) && f (listed.setIfInBounds j true)
  | i::c,listed=>(Region.ready .any ops listed == (if i < j then [i,j] else [j,i])) && vN ops f j c (listed.setIfInBounds i true) && seqB ops f (i::c) (listed.setIfInBounds j true)
def mB (P:Program) (ops:Array Oper) (Q:Post) (S:World->Prop):List tV->Act->World->Prop
  | [],a,w=>Q .normal a w
  | .one i::l,a,w=>wpOp P ops Q i (fun a' w'=>(l=[]\/S w')/\mB P ops Q S l a' w') a w
  | .two i j::l,a,w=>
    wpOp P ops Q i (fun a' w'=>S w'/\wpOp P ops Q j (fun a2 w2=>S w2/\mB P ops Q S l a2 w2) a' w') a w ∧
    wpOp P ops Q j (fun a' w'=>S w'/\wpOp P ops Q i (fun a2 w2=>S w2/\mB P ops Q S l a2 w2) a' w') a w
  | .three i k j::l,a,w=>
    wpOp P ops Q i (fun a1 w1=>S w1/\wpOp P ops Q k (fun a2 w2=>S w2/\wpOp P ops Q j (fun a3 w3=>S w3/\mB P ops Q S l a3 w3) a2 w2) a1 w1 ∧
      wpOp P ops Q j (fun a2 w2=>S w2/\wpOp P ops Q k (fun a3 w3=>S w3/\mB P ops Q S l a3 w3) a2 w2) a1 w1) a w ∧
    wpOp P ops Q j (fun a1 w1=>S w1/\wpOp P ops Q i (fun a2 w2=>S w2/\wpOp P ops Q k (fun a3 w3=>S w3/\mB P ops Q S l a3 w3) a2 w2) a1 w1) a w
  | .perm G::l,a,w=>G6 P ops Q S (mB P ops Q S l) G.length G a w
  | .beside c j::l,a,w=>wZ P ops Q S (mB P ops Q S l) j c a w
def vr (ops:Array Oper) (n:Nat):List tV->Array Bool->Bool
  | [],listed=>(Region.ready .any ops listed).isEmpty
  | .one i::l,listed=>(Region.ready .any ops listed == [i]) && (!l.isEmpty || i == n) && vr ops n l (listed.setIfInBounds i true)
  | .two i j::l,listed=>(Region.ready .any ops listed == [i,j]) && (Region.ready .any ops (listed.setIfInBounds i true) == [j]) && (Region.ready .any ops (listed.setIfInBounds j true) == [i]) && decide (i≠j) && vr ops n l ((listed.setIfInBounds i true).setIfInBounds j true)
  | .three i k j::l,listed=>(Region.ready .any ops listed == [i,j]) && (Region.ready .any ops (listed.setIfInBounds i true) == [k,j]) && (Region.ready .any ops ((listed.setIfInBounds i true).setIfInBounds k true) == [j]) && (Region.ready .any ops ((listed.setIfInBounds i true).setIfInBounds j true) == [k]) &&
    (Region.ready .any ops (listed.setIfInBounds j true) == [i]) && decide (i≠j) && decide (k≠j) && vr ops n l (((listed.setIfInBounds i true).setIfInBounds k true).setIfInBounds j true)
  | .perm G::l,listed=>FV ops (vr ops n l) G.length G listed
  | .beside c j::l,listed=>vN ops (vr ops n l) j c listed
def sj:List tV->Nat
  | []=>0
  | .one _::l=>sj l+1
  | .two _ _::l=>sj l+2
  | .three _ _ _::l=>sj l+3
  | .perm G::l=>sj l+G.length
  | .beside c _::l=>sj l+(c.length+1)
theorem EY {m i:Nat} {listed:Array Bool} {a:Act} {w:World} (hr:Region.ready .any ops listed=[i]) (h:wpOp P ops (NP Q) i (fun a' w'=>S w'/\iP P ops (NP Q) n S m (listed.setIfInBounds i true) a' w') a w):iP P ops (NP Q) n S (m+1) listed a w:=by
  refine⟨fun h0=>(by rw [hr] at h0;cases h0),fun y hy=>?_⟩
  rw [hr] at hy
  have hy:y=i:=by simpa using hy
  subst hy
  exact wpOp_mono (fun a' w' h=>⟨.inr h.1,h.2⟩) h
theorem JW {K:Act->World->Prop} {f:Array Bool->Bool} {m:Nat} (hK:∀ listed a w,f listed=true->K a w->iP P ops (NP Q) n S m listed a w):∀ (c:List Nat) (listed:Array Bool) (a:Act) (w:World),seqB ops f c listed=true->FW P ops (NP Q) S K c a w->iP P ops (NP Q) n S (m+c.length) listed a w
  | [],listed,a,w,hb,h=>hK listed a w hb h
  | i::c,listed,a,w,hb,h=>by
    unfold seqB at hb
    simp only [Bool.and_eq_true,beq_iff_eq] at hb
    exact EY hb.1 (wpOp_mono (fun a' w' g=>⟨g.1,JW hK c _ a' w' hb.2 g.2⟩) h)
theorem C0 {K:Act->World->Prop} {f:Array Bool->Bool} {m j:Nat} (hK:∀ listed a w,f listed=true->K a w->iP P ops (NP Q) n S m listed a w):∀ (c:List Nat) (listed:Array Bool) (a:Act) (w:World),vN ops f j c listed=true->wZ P ops (NP Q) S K j c a w->iP P ops (NP Q) n S (m+(c.length+1)) listed a w
  | [],listed,a,w,hb,h=>by
    unfold vN at hb
    simp only [Bool.and_eq_true,beq_iff_eq] at hb
    exact EY hb.1 (wpOp_mono (fun a' w' g=>⟨g.1,hK _ a' w' hb.2 g.2⟩) h)
  | i::c,listed,a,w,hb,h=>by
    unfold vN at hb
    simp only [Bool.and_eq_true,beq_iff_eq] at hb
    obtain⟨⟨h1,h2⟩,h3⟩:=hb
    refine⟨fun h0=>(by rw [h1] at h0;split at h0<;>cases h0),fun y hy=>?_⟩
    rw [h1] at hy
    have hy:y=i\/y=j:=by
      split at hy
      ·simpa using hy
      have:y=j\/y=i:=by simpa using hy
      exact this.symm
    rcases hy with rfl|rfl
    ·exact wpOp_mono (fun a' w' g=>⟨.inr g.1,C0 hK c _ a' w' h2 g.2⟩) h.1
    exact wpOp_mono (fun a' w' g=>⟨.inr g.1,JW hK (i::c) _ a' w' h3 g.2⟩) h.2
theorem G7 {K:Act->World->Prop} {f:Array Bool->Bool} {m:Nat} (hK:∀ listed a w,f listed=true->K a w->iP P ops (NP Q) n S m listed a w):∀ (k:Nat) (G:List Nat) (listed:Array Bool) (a:Act) (w:World),FV ops f k G listed=true->G6 P ops (NP Q) S K k G a w->iP P ops (NP Q) n S (m+k) listed a w
  | 0,G,listed,a,w,hb,h=>hK listed a w hb h
  | k+1,G,listed,a,w,hb,h=>by
    unfold FV at hb
    simp only [Bool.and_eq_true,beq_iff_eq] at hb
    obtain⟨⟨h1,h2⟩,h3⟩:=hb
    refine⟨fun h0=>(by rw [h1] at h0;rw [h0] at h2;cases h2),fun j hj=>?_⟩
    rw [h1] at hj
    exact wpOp_mono (fun a' w' g=>⟨.inr g.1,G7 hK k (G.erase j) _ a' w' (List.all_eq_true.1 h3 j hj) g.2⟩) (h j hj)
theorem nN:∀ (l:List tV) (listed:Array Bool) (a:Act) (w:World),vr ops n l listed=true->mB P ops (NP Q) S l a w->iP P ops (NP Q) n S (sj l) listed a w
  | [],listed,a,w,hb,h=>⟨List.isEmpty_iff.1 hb,h⟩
  | .one i::l,listed,a,w,hb,h=>by
    unfold vr at hb
    simp only [Bool.and_eq_true,beq_iff_eq] at hb
    obtain⟨⟨h1,h2⟩,h3⟩:=hb
    refine⟨fun h0=>(by rw [h1] at h0;cases h0),fun j hj=>?_⟩
    rw [h1] at hj
    have hj:j=i:=by simpa using hj
    subst hj
    refine wpOp_mono (fun a' w' h4=>⟨?_,nN l _ a' w' h3 h4.2⟩) h
    rcases h4.1 with h5|h5
    ·subst h5;exact .inl (by simpa using h2)
    exact .inr h5
  | .two i j::l,listed,a,w,hb,h=>by
    unfold vr at hb
    simp only [Bool.and_eq_true,beq_iff_eq,decide_eq_true_iff] at hb
    obtain⟨⟨⟨⟨h1,h2⟩,h3⟩,hij⟩,h4⟩:=hb
    refine⟨fun h0=>(by rw [h1] at h0;cases h0),fun k hk=>?_⟩
    rw [h1] at hk
    have hk:k=i\/k=j:=by simpa using hk
    rcases hk with rfl|rfl
    ·refine wpOp_mono (fun a' w' h5=>⟨.inr h5.1,fun h0=>(by rw [h2] at h0;cases h0),fun k' hk'=>?_⟩) h.1
     rw [h2] at hk'
     have hk':k'=j:=by simpa using hk'
     subst hk'
     exact wpOp_mono (fun a2 w2 h6=>⟨.inr h6.1,nN l _ a2 w2 h4 h6.2⟩) h5.2
    refine wpOp_mono (fun a' w' h5=>⟨.inr h5.1,fun h0=>(by rw [h3] at h0;cases h0),fun k' hk'=>?_⟩) h.2
    rw [h3] at hk'
    have hk':k'=i:=by simpa using hk'
    subst hk'
    refine wpOp_mono (fun a2 w2 h6=>⟨.inr h6.1,?_⟩) h5.2
    rw [Array.setIfInBounds_comm _ _ (fun e=>hij e.symm)]
    exact nN l _ a2 w2 h4 h6.2
  | .three i k j::l,listed,a,w,hb,h=>by
    unfold vr at hb
    simp only [Bool.and_eq_true,beq_iff_eq,decide_eq_true_iff] at hb
    obtain⟨⟨⟨⟨⟨⟨⟨h1,h2⟩,h3⟩,h4⟩,h5⟩,hij⟩,hkj⟩,h6⟩:=hb
    have one:∀ {x:Nat} {ls:Array Bool} {fuel:Nat} {a:Act} {w:World},Region.ready .any ops ls=[x]->wpOp P ops (NP Q) x (fun a' w'=>S w'/\iP P ops (NP Q) n S fuel (ls.setIfInBounds x true) a' w') a w->iP P ops (NP Q) n S (fuel+1) ls a w:=fun {x ls fuel a w} hr hx=>by
      refine⟨fun h0=>(by rw [hr] at h0;cases h0),fun y hy=>?_⟩
      rw [hr] at hy
      have hy:y=x:=by simpa using hy
      subst hy
      exact wpOp_mono (fun a' w' h=>⟨.inr h.1,h.2⟩) hx
    have e1:(((listed.setIfInBounds i true).setIfInBounds j true).setIfInBounds k true)=(((listed.setIfInBounds i true).setIfInBounds k true).setIfInBounds j true):=Array.setIfInBounds_comm _ _ (fun e=>hkj e.symm)
    have e2:((listed.setIfInBounds j true).setIfInBounds i true)=((listed.setIfInBounds i true).setIfInBounds j true):=Array.setIfInBounds_comm _ _ (fun e=>hij e.symm)
    refine⟨fun h0=>(by rw [h1] at h0;cases h0),fun x hx=>?_⟩
    rw [h1] at hx
    have hx:x=i\/x=j:=by simpa using hx
    rcases hx with rfl|rfl
    ·refine wpOp_mono (fun a1 w1 g=>⟨.inr g.1,fun h0=>(by rw [h2] at h0;cases h0),fun y hy=>?_⟩) h.1
     rw [h2] at hy
     have hy:y=k\/y=j:=by simpa using hy
     rcases hy with rfl|rfl
     ·exact wpOp_mono (fun a2 w2 g2=>⟨.inr g2.1,one h3 (wpOp_mono (fun a3 w3 g3=>⟨g3.1,nN l _ a3 w3 h6 g3.2⟩) g2.2)⟩) g.2.1
     exact wpOp_mono (fun a2 w2 g2=>⟨.inr g2.1,one h4 (wpOp_mono (fun a3 w3 g3=>⟨g3.1,by rw [e1];exact nN l _ a3 w3 h6 g3.2⟩) g2.2)⟩) g.2.2
    refine wpOp_mono (fun a1 w1 g=>⟨.inr g.1,one h5 (wpOp_mono (fun a2 w2 g2=>⟨g2.1,?_⟩) g.2)⟩) h.2
    rw [e2]
    exact one h4 (wpOp_mono (fun a3 w3 g3=>⟨g3.1,by rw [e1];exact nN l _ a3 w3 h6 g3.2⟩) g2.2)
  | .perm G::l,listed,a,w,hb,h=>G7 (m:=sj l) (fun ls a w hb h=>nN l ls a w hb h) G.length G listed a w hb h
  | .beside c j::l,listed,a,w,hb,h=>C0 (m:=sj l) (fun ls a w hb h=>nN l ls a w hb h) c listed a w hb h
def qc (P:Program) (ops:Array Oper) (Q:Post) (S:World->Prop) (es:List tV):List Nat->Act->World->Prop
  | [],a,w=>mB P ops Q S es a w
  | i::l,a,w=>∃ o v,ops[i]?=some o/\YieldsIf P ops S o v a/\qc P ops Q S es l (a.put o.dst v) w
def FX (ops:Array Oper) (n:Nat) (es:List tV):List Nat->Array Bool->Bool
  | [],listed=>vr ops n es listed
  | i::l,listed=>decide (i < n) && Region.free .any ops listed i && (Region.ready .any ops listed).contains i && FX ops n es l (listed.setIfInBounds i true)
theorem G8 {es:List tV} (hsel:Region.noSelect ops=true) (kI:Region.sinkB .any ops n=true):∀ (l:List Nat) (listed:Array Bool) (a:Act) (w:World),FX ops n es l listed=true->Closed ops listed->S w->qc P ops (NP Q) S es l a w->iP P ops (NP Q) n S (l.length+sj es) listed a w
  | [],listed,a,w,hb,_,_,h=>by
    rw [List.length_nil,Nat.zero_add]
    exact nN es listed a w hb h
  | i::l,listed,a,w,hb,hc,hS,h=>by
    unfold FX at hb
    simp only [Bool.and_eq_true,decide_eq_true_iff] at hb
    obtain⟨⟨⟨h1,h2⟩,h3⟩,h4⟩:=hb
    obtain⟨o,v,ho,hy,hk⟩:=h
    have hr:i∈Region.ready .any ops listed:=by simpa using h3
    have e:(i::l).length+sj es=(l.length+sj es)+1:=by rw [List.length_cons];omega
    rw [e]
    exact pV ho hsel kI h1 _ listed a w hc (Region.free_spec ho h2) hr hy hS (G8 hsel kI l _ _ w h4 (hc.set hr) hS hk)
def JX (ops:Array Oper) (rs:List Nat) (es:List tV):Bool:=
  Region.noSelect ops && Region.sinkB .any ops (ops.size - 1) && (rs.length+sj es == ops.size) && FX ops (ops.size - 1) es rs (Array.replicate ops.size false)
end order
section mix
variable {P:Program} {β:Bs} {N:dD} {ops:Array Oper} {S:List HP} {rs:List Nat} {es:List tV} {fr fr':Fr} {hps:List HP} {Q:Post} {aZ:List Prop} {i j:Nat}
def ji (P:Program) (β:Bs) (N:dD) (ops:Array Oper) (S:List HP) (es:List tV) (rs:List Nat) (fr:Fr) (hps:List HP) (Q:Post):Prop:=
  ∀ junk w,Sat β hps w->qc P ops (NP Q) (Sat β S) es rs (bN N fr junk) w
theorem af.sW {id:Nat} (rs:List Nat) (es:List tV) (pk:List Nat) (hm:P.follows .mixedOrders=true) (hB:JX ops rs es=true) (hn:nodupB pk=true) (hp:bO hps pk=some S) (h:ji P β N ops S es rs fr hps Q):af P β N (.region id ops true) fr hps Q:=by
  intro junk w hS
  unfold JX at hB
  simp only [Bool.and_eq_true,beq_iff_eq] at hB
  obtain⟨⟨⟨h1,h2⟩,h3⟩,h4⟩:=hB
  have cU:=hS.drewN 1
  have h5:=G8 (Q:=Q) h1 h2 rs _ _ _ h4 (fun j oj _ hl=>by simp [Array.getD_eq_getD_getElem?,Array.getElem?_replicate] at hl;split at hl<;>simp at hl) (cU.pick hn hp) (h junk (w.drewN 1) cU)
  rw [h3] at h5
  refine Code.wp_mono (fun e a w q=>?_) (wp_region_any hm (lW _ _ _ _ h5))
  cases e with
  | normal=>exact q
  | exit id=>exact q.elim
  | goto l=>exact q.elim
  | ret=>exact q.elim
  | panic ch=>exact q.elim
  | outgrown=>exact q.elim
theorem xV {junk:Nat->Value} {w:World}:∀ {hs:List OH} {is:List Nat} {fr fr':Fr} {T T':SS},rC P β N junk ops hs is fr T=some (fr',T')->(∀ p,p∈T'.aZ->p)->T.used=true->T.hps=S →
    qc P ops (NP Q) (Sat β S) es rs (bN N fr' junk) w->qc P ops (NP Q) (Sat β S) es (is++rs) (bN N fr junk) w
  | [],[],fr,fr',T,T',h,ho,hu,hT,hK=>by cases h;exact hK
  | h::hs,i::is,fr,fr',T,T',hr,ho,hu,hT,hK=>by
    unfold rC at hr
    repeat' split at hr
    all_goals first|(cases hr;done)|skip
    rename_i o hget _ Gd _ v T1 h0 _ hv
    obtain⟨e1,e2⟩:=qv h0
    rw [List.cons_append]
    unfold qc
    refine⟨o,v,hget,.inl ⟨by unfold Region.wanted;rw [Gd],fun w' cU=>?_⟩,?_⟩
    ·rw [dX]
     obtain⟨w2,h1,_,_,h4⟩:=jM h0 (fun p hp=>ho p (wG hr p hp)) (by rw [hT];exact cU) (fun e=>by rw [hu] at e;cases e)
     obtain⟨ew,_⟩:=h4 rfl
     rw [ew] at h1
     rcases h1 with h1|⟨h1,_⟩
     ·exact h1
     exact absurd h1 (mY hv)
    rw [dM]
    exact xV hr ho (e2.trans hu) (e1.trans hT) hK
  | [],_::_,_,_,_,_,h,_,_,_,_=>by cases h
  | _::_,[],_,_,_,_,h,_,_,_,_=>by cases h
theorem ji.reads (is:List Nat) (hs:List OH) (idx:List Nat) (h:∀ junk,sZ P β N junk ops hs is fr S idx=some (fr',aZ)) (ho:kA aZ) (K:ji P β N ops S es rs fr' hps Q):ji P β N ops S es (is++rs) fr hps Q:=by
  intro junk w hS
  have h0:=h junk
  unfold sZ at h0
  split at h0
  ·rename_i fr1 S1 h1
   cases h0
   have hK:=K (lk fr1 junk) w hS
   rw [← jo] at hK
   exact xV h1 (fun p hp=>ho.mem hp) rfl rfl hK
  cases h0
theorem gP (lQ:Fr) (is:List Nat) (os:List (Nat×OP)) (K:ji P β N ops S es [] lQ hps Q)
    (h:∀ junk,sZ P β N junk ops (jy (gV is.length os 0)) is fr S (br lQ)=some (lQ,owed (gV is.length os 0)):=by intro _;kernel_rfl):ji P β N ops S es (is++[]) fr hps Q:=
  ji.reads is (jy (gV is.length os 0)) (br lQ) h (mZ _) K
theorem ji.pair {ι T9 Ua:Type} {M7:T9->Fr} {hpi:T9->List HP} {M8:Ua->Fr} {M9:Ua->List HP} {fr':ι->Fr} {hp':ι->List HP} {oi oj:Oper} (Wp Wq pk:List Nat)
    (hi:ops[i]?=some oi) (Q0:oi.guard=none) (hj:ops[j]?=some oj) (Wr:oj.guard=none)
    (h1:ak P β N #[oi] 0 fr hps (NP (nU β N M7 hpi))) (h2:∀ a,ak P β N #[oj] 0 (M7 a) (hpi a) (NP (nU β N fr' hp')))
    (h3:ak P β N #[oj] 0 fr hps (NP (nU β N M8 M9))) (h4:∀ a,ak P β N #[oi] 0 (M8 a) (M9 a) (NP (nU β N fr' hp')))
    (hni:nodupB Wp=true) (Xx:∀ a,bO (hpi a) Wp=some S) (Yw:nodupB Wq=true) (Xy:∀ a,bO (M9 a) Wq=some S) (hn:nodupB pk=true) (hp:∀ a,bO (hp' a) pk=some S)
    (K:∀ a,ji P β N ops S es [] (fr' a) (hp' a) Q):ji P β N ops S (.two i j::es) [] fr hps Q:=by
  intro junk w hS
  unfold qc mB
  refine⟨iC hi Q0 (jS (fun a w ⟨x,gE,ha,cU⟩=>?_) (show wpList P #[oi] (NP (nU β N M7 hpi)) [oi] (bN N fr junk) w from h1 junk w hS)),iC hj Wr (jS (fun a w ⟨x,gE,ha,cU⟩=>?_) (show wpList P #[oj] (NP (nU β N M8 M9)) [oj] (bN N fr junk) w from h3 junk w hS))⟩
  ·subst ha
   refine⟨cU.pick hni (Xx x),iC hj Wr (jS (fun a w ⟨y,w9,ha,vH⟩=>?_) (show wpList P #[oj] (NP (nU β N fr' hp')) [oj] (bN N (M7 x) gE) w from h2 x gE w cU))⟩
   subst ha
   exact⟨vH.pick hn (hp y),K y w9 _ vH⟩
  subst ha
  refine⟨cU.pick Yw (Xy x),iC hi Q0 (jS (fun a w ⟨y,w9,ha,vH⟩=>?_) (show wpList P #[oi] (NP (nU β N fr' hp')) [oi] (bN N (M8 x) gE) w from h4 x gE w cU))⟩
  subst ha
  exact⟨vH.pick hn (hp y),K y w9 _ vH⟩
theorem ji.cut {ι:Type} {fr':ι->Fr} {hp':ι->List HP} {o:Oper} (pk:List Nat) (hop:ops[i]?=some o) (hg:o.guard=none) (h:ak P β N #[o] 0 fr hps (NP (nU β N fr' hp'))) (hn:nodupB pk=true) (hp:∀ j,bO (hp' j) pk=some S)
    (K:∀ j,ji P β N ops S es [] (fr' j) (hp' j) Q):ji P β N ops S (.one i::es) [] fr hps Q:=by
  intro junk w hS
  unfold qc mB
  refine iC hop hg (jS (fun a w ⟨j,gE,ha,cU⟩=>?_) (show wpList P #[o] (NP (nU β N fr' hp')) [o] (bN N fr junk) w from h junk w hS))
  subst ha
  exact⟨.inr (cU.pick hn (hp j)),K j gE _ cU⟩
theorem Sat.left {a b:List HP} {w:World} (h:Sat β (a++b) w):Sat β a w:=by
  obtain⟨h0,φ,h1,h2,h3⟩:=h
  have hlen:a.length<=(a++b).length:=by simp
  exact⟨h0,φ,fun i p hp=>h1 i p (by rw [List.getElem?_append_left (bq hp)];exact hp),fun i hi=>h2 i (by omega),fun i j hi hj=>h3 i j (by omega) (by omega)⟩
def gy (P:Program) (β:Bs) (N:dD) (ops:Array Oper) (Q:Post) (i d:Nat) (ds:List Nat) (fr:Fr) (pre:List HP) (post:Value->List HP->Prop):Prop:=
  ∀ junk w (A:bV),Sat β (pre++[.abs A]) w->wpOp P ops (NP Q) i (fun a' w'=>∃ v l gE,post v l/\a'=bN N fr gE/\gE d=v/\(∀ t∈ds,t≠d->gE t=junk t)/\Sat β (l++[.abs A]) w') (bN N fr junk) w
def kS (nR:List Nat) (u:Nat->Value):Fr:=nR.map fun t=>(t,u t)
theorem y5 {nR:List Nat} {u:Nat->Value}:br (kS nR u)=nR:=by
  induction nR with
  | nil=>rfl
  | cons a r ih=>exact congrArg (a::·) ih
theorem Na {nR:List Nat} {u junk:Nat->Value} {t:Nat} (h:t∈nR):lk (kS nR u) junk t=u t:=by
  induction nR with
  | nil=>cases h
  | cons a r ih=>
    show lk ((a,u a)::kS r u) junk t=_
    rw [fJ]
    by_cases e:a=t
    ·rw [if_pos e,e]
    rw [if_neg e]
    rcases List.mem_cons.1 h with h|h
    ·exact absurd h.symm e
    exact ih h
theorem nO {fr lQ:Fr} {junk w9:Nat->Value} (h:∀ t,lk fr junk t=lk lQ w9 t):bN N fr junk=bN N lQ w9:=by
  unfold bN
  rw [show lk fr junk=lk lQ w9 from funext h]
theorem gy.of {ι:Type} {v:ι->Value} {l:ι->List HP} {o:Oper} {d:Nat} {pre:List HP} (nR:List Nat) (hop:ops[i]?=some o) (hg:o.guard=none) (Xz:(d::nR).all (fun t=>!iV t (br fr))=true) (hd:iV d nR=false)
    (h:∀ (u:Nat->Value) (A:bV),ak P β N #[o] 0 (kS nR u++fr) (pre++[.abs A]) (NP (nU β N (fun x=>(d,v x)::(kS nR u++fr)) (fun x=>l x++[.abs A])))):gy P β N ops Q i d (d::nR) fr pre (fun v' l'=>∃ x,v'=v x/\l'=l x):=by
  intro junk w A hS
  have hout:∀ t∈d::nR,t∉br fr:=fun t ht hm=>by
    have h1:=List.all_eq_true.1 Xz t ht
    rw [iD.2 hm] at h1;cases h1
  have ZT:d∉nR:=fun hm=>by rw [iD.2 hm] at hd;cases hd
  have e1:bN N fr junk=bN N (kS nR junk++fr) junk:=nO fun t=>by
    rw [yx,y5]
    by_cases ht:t∈nR
    ·rw [if_pos ht,Na ht,kY (hout t (List.mem_cons_of_mem _ ht))]
    rw [if_neg ht]
  rw [e1]
  refine iC hop hg (jS (fun a w ⟨x,VN,ha,cU⟩=>?_) (show wpList P #[o] (NP (nU β N _ _)) [o] (bN N (kS nR junk++fr) junk) w from h junk A junk w hS))
  refine⟨v x,l x,lk ((d,v x)::(kS nR junk++fr)) VN,⟨x,rfl,rfl⟩,?_,by rw [fJ,if_pos rfl],fun t ht hn=>?_,cU⟩
  ·rw [ha]
   refine nO fun t=>?_
   by_cases ht:t∈br fr
   ·have h1:¬ d=t:=fun e=>hout d List.mem_cons_self (e ▸ ht)
    have h2:t∉nR:=fun hm=>hout t (List.mem_cons_of_mem _ hm) ht
    rw [fJ,if_neg h1,yx,y5,if_neg h2]
    exact FL ht
   rw [kY ht]
  rw [fJ,if_neg (fun e=>hn e.symm),yx,y5,if_pos ((List.mem_cons.1 ht).resolve_left hn),Na ((List.mem_cons.1 ht).resolve_left hn)]
theorem gy.at_ {d:Nat} {ds:List Nat} {pre X Y:List HP} {post:Value->List HP->Prop} {junk:Nat->Value} {w:World} {K:Act->World->Prop} (h:gy P β N ops Q i d ds fr pre post) (hS:Sat β (X++(pre++Y)) w)
    (hK:∀ v l gE w',post v l->gE d=v->(∀ t∈ds,t≠d->gE t=junk t)->Sat β (X++(l++Y)) w'->K (bN N fr gE) w'):wpOp P ops (NP Q) i K (bN N fr junk) w:=by
  have h1:=Sat.turn hS
  rw [List.append_assoc] at h1
  refine wpOp_mono (fun a' w' ⟨v,l,j2,g1,g2,g3,g4,g5⟩=>?_) (h junk w _ h1.fC)
  rw [g2]
  refine hK v l j2 w' g1 g3 g4 ?_
  have h2:=g5.pN
  rw [← List.append_assoc] at h2
  exact Sat.turn h2
theorem gy.grow {d d1:Nat} {ds:List Nat} {pre:List HP} {q:Value->List HP->Prop} (h:gy P β N ops Q i d (d::d1::ds) fr pre q) (h1:d1∉br fr) (hd:d1≠d) (hn:d1∉ds) (v1:Value):gy P β N ops Q i d (d::ds) ((d1,v1)::fr) pre q:=by
  intro junk w A hS
  have e:bN N ((d1,v1)::fr) junk=bN N fr (fun t=>if t=d1 then v1 else junk t):=nO fun t=>by
    rw [fJ]
    by_cases e1:d1=t
    ·subst e1;rw [if_pos rfl,kY h1,if_pos rfl]
    rw [if_neg e1]
    by_cases ht:t∈br fr
    ·exact FL ht
    rw [kY ht,kY ht,if_neg (fun e=>e1 e.symm)]
  rw [e]
  refine wpOp_mono (fun a' w' ⟨v,l,j2,g1,g2,g3,g4,g5⟩=>?_) (h _ w A hS)
  have k1:j2 d1=v1:=(g4 d1 (by simp) hd).trans (if_pos rfl)
  refine⟨v,l,j2,g1,?_,g3,fun t ht hne=>?_,g5⟩
  ·rw [g2]
   refine nO fun t=>?_
   rw [fJ]
   by_cases e1:d1=t
   ·subst e1;rw [if_pos rfl,kY h1,k1]
   rw [if_neg e1]
  have h2:t≠d1:=fun e=>by
    subst e
    rcases List.mem_cons.1 ht with e|e
    ·exact hd e
    exact hn e
  refine (g4 t ?_ hne).trans (if_neg h2)
  rcases List.mem_cons.1 ht with e|e
  ·exact absurd e hne
  exact List.mem_cons_of_mem _ (List.mem_cons_of_mem _ e)
def lD (P:Program) (β:Bs) (N:dD) (ops:Array Oper) (Q:Post) (dj:Nat):List (Nat×Nat)->Fr->List HP->(Fr->List HP->Prop)->Prop
  | [],fr,hps,R=>R fr hps
  | (i,d)::c,fr,hps,R=>(iV d (br fr)=false/\d≠dj)/\∃ q:Value->List HP->Prop,gy P β N ops Q i d [d,dj] fr hps q/\∀ v l,q v l->lD P β N ops Q dj c ((d,v)::fr) l R
theorem lD.step {dj d:Nat} {c:List (Nat×Nat)} {R:Fr->List HP->Prop} {q:Value->List HP->Prop} (h:gy P β N ops Q i d [d,dj] fr hps q) (h1:(!iV d (br fr) && decide (d≠dj))=true) (K:∀ v l,q v l->lD P β N ops Q dj c ((d,v)::fr) l R):lD P β N ops Q dj ((i,d)::c) fr hps R:=by
  simp only [Bool.and_eq_true,Bool.not_eq_true',decide_eq_true_iff] at h1
  exact⟨h1,q,h,K⟩
section Ub
variable {dj:Nat} {Z pj:List HP} {qj:Value->List HP->Prop} {R:Fr->List HP->Prop} {pS:List Nat} {F:Act->World->Prop}
theorem Sat.rest {X:List HP} {w:World} (xW:nodupB pS=true) (xX:bO Z pS=some S) (h:Sat β (X++Z) w):Sat β S w:=Sat.pick (idx:=pS) (l:=Z) (Sat.left (Sat.turn h)) xW xX
theorem EZ {v:Value} {l2:List HP} (xW:nodupB pS=true) (xX:bO Z pS=some S) (hK:∀ f1 h1,R f1 h1->∀ junk w,Sat β (h1++(l2++Z)) w->F (bN N ((dj,v)::f1) junk) w) :
    ∀ (c:List (Nat×Nat)) (fr:Fr) (hps:List HP) (junk:Nat->Value) (w:World),iV dj (br fr)=false->lD P β N ops Q dj c fr hps R->junk dj=v->Sat β (hps++(l2++Z)) w->FW P ops (NP Q) (Sat β S) F (c.map (·.1)) (bN N fr junk) w
  | [],fr,hps,junk,w,hdj,hc,hv,hS=>by
    have e:bN N fr junk=bN N ((dj,v)::fr) junk:=nO fun t=>by
      rw [fJ]
      by_cases e1:dj=t
      ·subst e1;rw [if_pos rfl,kY (fun hm=>by rw [iD.2 hm] at hdj;cases hdj),hv]
      rw [if_neg e1]
    show F (bN N fr junk) w
    rw [e]
    exact hK fr hps hc junk w hS
  | (i,d)::c,fr,hps,junk,w,hdj,⟨⟨h1,h2⟩,q,h3,h4⟩,hv,hS=>by
    show wpOp P ops (NP Q) i _ _ _
    refine h3.at_ (X:=[]) hS (fun v' l j2 w' g1 g2 g3 g4=>⟨Sat.rest (X:=l++l2) xW xX (by rw [List.append_assoc];exact g4),?_⟩)
    have e:bN N fr j2=bN N ((d,v')::fr) j2:=nO fun t=>by
      rw [fJ]
      by_cases e1:d=t
      ·subst e1;rw [if_pos rfl,kY (fun hm=>by rw [iD.2 hm] at h1;cases h1),g2]
      rw [if_neg e1]
    rw [e]
    refine EZ xW xX hK c _ l j2 w' ?_ (h4 v' l g1) ((g3 dj (by simp) (fun e=>h2 e.symm)).trans hv) g4
    cases hb:iV dj (br ((d,v')::fr)) with
    | false=>rfl
    | true=>
      rcases List.mem_cons.1 (iD.1 hb) with e|e
      ·exact absurd e.symm h2
      rw [iD.2 e] at hdj;cases hdj
theorem E0 {j:Nat} (xW:nodupB pS=true) (xX:bO Z pS=some S) (hK:∀ f1 h1,R f1 h1->∀ v l2,qj v l2->∀ junk w,Sat β (h1++(l2++Z)) w->F (bN N ((dj,v)::f1) junk) w) :
    ∀ (c:List (Nat×Nat)) (fr:Fr) (hps:List HP) (junk:Nat->Value) (w:World),nodupB (c.map (·.2))=true->iV dj (br fr)=false->gy P β N ops Q j dj (dj::c.map (·.2)) fr pj qj->lD P β N ops Q dj c fr hps R->Sat β (hps++(pj++Z)) w->wZ P ops (NP Q) (Sat β S) F j (c.map (·.1)) (bN N fr junk) w
  | [],fr,hps,junk,w,_,hdj,hj,hc,hS=>by
    show wpOp P ops (NP Q) j _ _ _
    refine hj.at_ (X:=hps) hS (fun v l j2 w' g1 g2 g3 g4=>⟨Sat.rest (X:=hps++l) xW xX (by rw [List.append_assoc];exact g4),?_⟩)
    have e:bN N fr j2=bN N ((dj,v)::fr) j2:=nO fun t=>by
      rw [fJ]
      by_cases e1:dj=t
      ·subst e1;rw [if_pos rfl,kY (fun hm=>by rw [iD.2 hm] at hdj;cases hdj),g2]
      rw [if_neg e1]
    rw [e]
    exact hK fr hps hc v l g1 j2 w' g4
  | (i,d)::c,fr,hps,junk,w,hnd,hdj,hj,hc,hS=>by
    obtain⟨⟨h1,h2⟩,q,h3,h4⟩:=hc
    have hout:d∉br fr:=fun hm=>by rw [iD.2 hm] at h1;cases h1
    refine⟨h3.at_ (X:=[]) hS (fun v' l j2 w' g1 g2 g3 g4=>⟨Sat.rest (X:=l++pj) xW xX (by rw [List.append_assoc];exact g4),?_⟩),hj.at_ (X:=hps) hS (fun v l j2 w' g1 g2 g3 g4=>⟨Sat.rest (X:=hps++l) xW xX (by rw [List.append_assoc];exact g4),?_⟩)⟩
    ·have e:bN N fr j2=bN N ((d,v')::fr) j2:=nO fun t=>by
       rw [fJ]
       by_cases e1:d=t
       ·subst e1;rw [if_pos rfl,kY hout,g2]
       rw [if_neg e1]
     rw [e]
     have y6:d∉c.map (·.2)/\nodupB (c.map (·.2))=true:=by
       have hx:nodupB (d::c.map (·.2))=true:=hnd
       unfold nodupB at hx
       simp only [Bool.and_eq_true] at hx
       exact⟨fun hm=>by have h:=hx.1;simp_all,hx.2⟩
     refine E0 xW xX hK c _ l j2 w' y6.2 ?_ (hj.grow hout h2 y6.1 v') (h4 v' l g1) g4
     cases hb:iV dj (br ((d,v')::fr)) with
     | false=>rfl
     | true=>
       rcases List.mem_cons.1 (iD.1 hb) with e|e
       ·exact absurd e.symm h2
       rw [iD.2 e] at hdj;cases hdj
    exact EZ xW xX (fun f1 h1 hr=>hK f1 h1 hr v l g1) ((i,d)::c) fr hps j2 w' hdj ⟨⟨h1,h2⟩,q,h3,h4⟩ g2 g4
theorem ji.beside {j:Nat} {pc:List HP} (pk pS:List Nat) (c:List (Nat×Nat)) (hn:nodupB pk=true) (hp:bO hps pk=some (pc++(pj++Z))) (xW:nodupB pS=true) (xX:bO Z pS=some S) (hnd:nodupB (c.map (·.2))=true) (hdj:iV dj (br fr)=false)
    (hj:gy P β N ops Q j dj (dj::c.map (·.2)) fr pj qj) (hc:lD P β N ops Q dj c fr pc R)
    (K:∀ f1 h1,R f1 h1->∀ v l,qj v l->ji P β N ops S es [] ((dj,v)::f1) (h1++(l++Z)) Q):ji P β N ops S (.beside (c.map (·.1)) j::es) [] fr hps Q:=by
  intro junk w hS
  exact E0 (F:=mB P ops (NP Q) (Sat β S) es) xW xX (fun f1 h1 hr v l2 hv junk w hS=>K f1 h1 hr v l2 hv junk w hS) c fr pc junk w hnd hdj hj hc (hS.pick hn hp)
end Ub
theorem ji.last {o:Oper} (hop:ops[i]?=some o) (hg:o.guard=none) (h:ak P β N #[o] 0 fr hps (NP Q)):ji P β N ops S [.one i] [] fr hps Q:=by
  intro junk w hS
  unfold qc mB
  exact iC hop hg (jS (fun a w hq=>⟨.inl rfl,by unfold mB;exact hq⟩) (show wpList P #[o] (NP Q) [o] (bN N fr junk) w from h junk w hS))
end mix
end
section
open Go.RowKit
def lE (β:Bs) (Φ:Bs->Prop):bV where
  h F w:=∃ β':Bs,β.le β'/\(∀ k,β'.O k->β.O k\/F k)/\(∀ k,F k->β'.O k)/\β'.w0.heap.size<=w.heap.size/\(∀ k,F k->k < β'.w0.heap.size/\w.heap[k]?=β'.w0.heap[k]?)/\Φ β'
  lt:=fun ⟨_,_,_,_,h4,h5,_⟩ k hk=>Nat.lt_of_lt_of_le (h5 k hk).1 h4
  st:=fun ⟨β',h1,h2,h3,h4,h5,h6⟩ _ _ hk hs=>⟨β',h1,h2,h3,Nat.le_trans h4 hk.size,fun k hF=>⟨(h5 k hF).1,(hk.block k (Nat.lt_of_lt_of_le (h5 k hF).1 h4) (hs k hF)).trans (h5 k hF).2⟩,h6⟩
section Q5
variable {P:Program} {β:Bs} {N:dD} {ops:Array Oper} {k:Nat} {fr:Fr} {hps dw:List HP} {Q:Post} {f:FuncId} {args:Array Value} {pre:List HP}
theorem bw.Q5 {ι:Type} {vv:ι->Value} {ll:ι->List HP} {Φ:ι->Bs->Prop} (h:bw P β f args pre (fun β' v l=>∃ x,v=vv x/\l=ll x/\Φ x β')):Spec P β f args pre (fun v l=>∃ x,v=vv x/\l=.abs (lE β (Φ x))::ll x):=by
  intro R w hS
  refine (h R w hS).mono ?_
  rintro e w' ⟨β',v,l,hle,he,⟨x,rfl,rfl,yj⟩,ho,φ,h1,h2,h3⟩
  refine⟨vv x,_,he,⟨x,rfl,rfl⟩,ho.le hle,fun i=>match i with
    | 0=>fun k=>β'.O k/\¬ β.O k
    | i+1=>φ i,fun i p hp=>?_,fun i hi k hk hO=>?_,fun i j hi hj hne k hk hk'=>?_⟩
  ·cases i with
   | zero=>
     have hp:some (HP.abs (lE β (Φ x)))=some p:=hp
     cases hp
     exact⟨β',hle,fun k hk=>(Classical.em (β.O k)).elim .inl (fun hn=>.inr ⟨hk,hn⟩),fun k hk=>hk.1,ho.size,fun k hk=>ho.old k hk.1,yj⟩
   | succ i=>exact h1 i p (by simpa using hp)
  ·cases i with
   | zero=>exact hk.2 hO
   | succ i=>exact h2 i (by simp at hi ⊢;omega) k hk (hle.O k hO)
  cases i with
  | zero=>
    cases j with
    | zero=>exact hne rfl
    | succ j=>exact h2 j (by simp at hj ⊢;omega) k hk' hk.1
  | succ i=>
    cases j with
    | zero=>exact h2 i (by simp at hi ⊢;omega) k hk hk'.1
    | succ j=>exact h3 i j (by simp at hi ⊢;omega) (by simp at hj ⊢;omega) (by omega) k hk hk'
theorem Sat.G9 {Φ:Bs->Prop} {l:List HP} {w:World} (h:Sat β (.abs (lE β Φ)::l) w):∃ β':Bs,β.le β'/\Φ β'/\Sat β' l w:=by
  obtain⟨ho,φ,h1,h2,h3⟩:=h
  have hF:(lE β Φ).h (φ 0) w:=h1 0 _ rfl
  obtain⟨β',g1,g2,g3,g4,g5,g6⟩:=hF
  refine⟨β',g1,g6,⟨ho.os.trans g1.os.symm,ho.tape.trans g1.tape.symm,ho.output.trans g1.output.symm,g4,fun k hk=>?_⟩,fun j=>φ (j+1),fun j p hp=>h1 (j+1) p (by simpa using hp),fun j hj k hk hO=>?_,fun a b ha hb hne=>h3 (a+1) (b+1) (by simp;omega) (by simp;omega) (by omega)⟩
  ·rcases g2 k hk with hb|hb
   ·have e1:=g1.old k hb
    have e2:=ho.old k hb
    exact⟨Nat.lt_of_lt_of_le e1.1 g1.size,e2.2.trans e1.2.symm⟩
   exact g5 k hb
  rcases g2 k hO with hb|hb
  ·exact h2 (j+1) (by simp;omega) k hk hb
  exact h3 (j+1) 0 (by simp;omega) (by simp) (by omega) k hk hb
theorem Spec.K6 {Φ:Bs->Prop} {post:Value->List HP->Prop} (h:∀ β':Bs,β.le β'->Φ β'->Spec P β' f args pre post):Spec P β f args (.abs (lE β Φ)::pre) post:=by
  intro R w hS
  obtain⟨β',g1,g2,g3⟩:=Sat.G9 (l:=pre++[.abs R]) hS
  refine (h β' g1 g2 R w g3).mono ?_
  rintro e w' ⟨v,l,h1,h2,h3⟩
  exact⟨v,l,h1,h2,h3.Cg g1⟩
end Q5
end
section
open Go.RowKit Go.Maps bC aE
theorem K7 (_:Nat) (f:bh):∀ u∈fP f,u.oneCell'=true:=by
  intro u hu
  simp only [fP,List.mem_cons,List.not_mem_nil,or_false] at hu
  rcases hu with rfl|rfl<;>rfl
theorem PU (_:Nat) (a:bM):∀ u∈gu a,u.oneCell'=true:=by
  intro u hu
  simp only [gu,List.mem_cons,List.not_mem_nil,or_false] at hu
  rcases hu with rfl|rfl|rfl|rfl|rfl<;>rfl
theorem C2 {α:Type} (f:α->List Value) (a:α) (ys:List α):bQ f (ys++[a])=bQ f ys++f a:=by
  have:∀ (k:Nat) (ys:List α),dH (fun _ x=>f x) k (ys++[a])=dH (fun _ x=>f x) k ys++f a:=fun k ys=>by
    induction ys generalizing k with
    | nil=>exact List.append_nil _
    | cons y r ih=>show f y++dH _ (k+1) (r++[a])=(f y++dH _ (k+1) r)++f a;rw [ih,List.append_assoc]
  exact this 0 ys
theorem E4 {α:Type} {f:α->List Value} {s:Nat} (hf:∀ a,(f a).length=s):∀ xs:List α,(bQ f xs).length=xs.length * s:=fun xs=>by
  have:∀ (k:Nat) (xs:List α),(dH (fun _ x=>f x) k xs).length=xs.length * s:=fun k xs=>by
    induction xs generalizing k with
    | nil=>simp [dH]
    | cons y r ih=>show (f y++dH _ (k+1) r).length=_;rw [List.length_append,ih,hf,List.length_cons,Nat.succ_mul,Nat.add_comm]
  exact this 0 xs
structure AZ where
  A:Int->Option Addr
  c:Int->Nat
def AZ.none:AZ:=⟨fun _=>Option.none,fun _=>0⟩
def AZ.put (Z:AZ) (n:Int) (B:Option Addr) (k:Nat):AZ:=⟨fun x=>if x=n then B else Z.A x,fun x=>if x=n then k else Z.c x⟩
def aA (Z:AZ) (xs:List bM) (n:Int):Option Addr:=if bn xs n=[] then .none else Z.A n
def aC (Z:AZ) (xs:List bM) (n:Int):Nat:=if bn xs n=[] then 0 else Z.c n
def zz:Int->Nat
  | .ofNat n=>2 * n
  | .negSucc n=>2 * n+1
def AQ (k:Nat):Int:=if k % 2=0 then .ofNat (k / 2) else .negSucc (k / 2)
def gA (Z:AZ) (xs:List bM):Lit->Option Value
  | .int .i64 n=>if bn xs n=[] then .none else some (.slice (aA Z xs n) (bn xs n).length (aC Z xs n))
  | _=>.none
def eO (fs:List bh):Lit->Option Value
  | .int .i64 n=>if iU fs n=0 then .none else some (.int .i64 (iU fs n))
  | _=>.none
abbrev BO (Z:AZ) (xs:List bM) (n:Int):bV:=aK 136 5 (aA Z xs n) (bn xs n).length (aC Z xs n) (bQ gu (bn xs n))
def nA (Z:AZ) (xs:List bM) (k:Nat):bV:=if bn xs (AQ k)=[] then bV.none else BO Z xs (AQ k)
def fF (β:Bs) (Z:AZ) (xs:List bM):Prop:=∀ n,cF β (aA Z xs n) (bQ gu (bn xs n))
section z
variable {Z:AZ} {xs:List bM} {n x:Int} {k c:Nat} {B:Option Addr} {a:bM} {β β':Bs} {l l':List HP} {w:World} {i j:Nat}
theorem He:∀ n,AQ (zz n)=n
  | .ofNat n=>by show AQ (2 * n)=_;unfold AQ;rw [if_pos (by omega)];exact congrArg Int.ofNat (by omega)
  | .negSucc n=>by show AQ (2 * n+1)=_;unfold AQ;rw [if_neg (by omega)];exact congrArg Int.negSucc (by omega)
theorem Uc (k:Nat):zz (AQ k)=k:=by
  unfold AQ
  split
  ·show 2 * (k / 2)=k;omega
  show 2 * (k / 2)+1=k;omega
theorem fF.le (h:fF β Z xs) (g:β.le β'):fF β' Z xs:=fun n=>(h n).le g
theorem BP:(gA Z xs (.int .i64 n)).getD (.slice .none 0 0)=.slice (aA Z xs n) (bn xs n).length (aC Z xs n):=by
  unfold gA
  by_cases h:bn xs n=[]
  ·simp only
   rw [if_pos h]
   unfold aA aC
   rw [if_pos h,if_pos h,h];rfl
  simp only
  rw [if_neg h];rfl
theorem E5 {fs:List bh}:(eO fs (.int .i64 n)).getD (.int .i64 0)=.int .i64 (iU fs n):=by
  unfold eO
  simp only
  split
  ·rename_i h;rw [h];rfl
  rfl
theorem PV:gA Z []=fun _=>.none:=funext fun l=>by
  unfold gA
  split<;>rfl
theorem Nb:eO []=fun _=>.none:=funext fun l=>by
  unfold eO
  split<;>rfl
theorem uF {m:Int} (h:m≠a.at_):bn (xs++[a]) m=bn xs m:=by
  rw [AP,if_neg (fun e=>h e.symm)]
theorem uG:bn (xs++[a]) a.at_=bn xs a.at_++[a]:=by
  rw [AP,if_pos rfl]
theorem Q6 {m:Int} (h:m≠a.at_):aA (Z.put a.at_ B c) (xs++[a]) m=aA Z xs m:=by
  unfold aA AZ.put
  rw [uF h]
  simp only
  rw [if_neg h]
theorem Q7 {m:Int} (h:m≠a.at_):aC (Z.put a.at_ B c) (xs++[a]) m=aC Z xs m:=by
  unfold aC AZ.put
  rw [uF h]
  simp only
  rw [if_neg h]
theorem Q8:aA (Z.put a.at_ B c) (xs++[a]) a.at_=B:=by
  unfold aA AZ.put
  rw [uG,if_neg (by simp)]
  simp
theorem Q9:aC (Z.put a.at_ B c) (xs++[a]) a.at_=c:=by
  unfold aC AZ.put
  rw [uG,if_neg (by simp)]
  simp
theorem JY {f g:Lit->Option Value} {v:Option Value} (hv:g (.int .i64 n)=v) (ho:∀ l,l≠.int .i64 n->g l=f l):kf f (.int .i64 n) v=g:=funext fun l=>by
  unfold kf
  by_cases h:l.sameKey (.int .i64 n)=true
  ·rw [if_pos h]
   have:l=.int .i64 n:=by
     cases l with
     | int q a=>simp [Lit.sameKey] at h;obtain⟨rfl,rfl⟩:=h;rfl
     | _=>simp [Lit.sameKey] at h
   rw [this,hv]
  rw [if_neg h,ho l (fun e=>h (by rw [e];simp [Lit.sameKey]))]
theorem PW:kf (gA Z xs) (.int .i64 a.at_) (some (.slice B ((bn xs a.at_).length+1) c))=gA (Z.put a.at_ B c) (xs++[a]):=by
  refine JY ?_ (fun l h=>?_)
  ·unfold gA
   simp only
   rw [uG,if_neg (by simp),Q8,Q9,List.length_append];rfl
  unfold gA
  split
  ·rename_i m
   have hm:m≠a.at_:=fun e=>h (by rw [e])
   rw [uF hm,Q6 hm,Q7 hm]
  rfl
theorem Nc {fs:List bh} {f:bh} (h:FK f) (h0:iU fs f.at_=0):kf (eO fs) (.int .i64 f.at_) (some (.int .i64 f.kind))=eO (fs++[f]):=by
  have hk:¬ f.kind=0:=by have:=h.1;omega
  refine JY ?_ (fun l hl=>?_)
  ·unfold eO
   simp only
   have e:iU (fs++[f]) f.at_=f.kind:=by rw [sV,if_pos h0,if_pos (show f.at_=f.at_/\FK f from ⟨rfl,h⟩)]
   rw [e,if_neg hk]
  unfold eO
  split
  ·rename_i m
   have hm:¬ (f.at_=m/\FK f):=fun e=>hl (by rw [e.1])
   rw [sV,if_neg hm]
   by_cases h2:iU fs m=0
   ·rw [if_pos h2,h2]
   rw [if_neg h2]
  rfl
theorem xg {fs:List bh} {f:bh} (h:¬ FK f\/iU fs f.at_≠0):eO (fs++[f])=eO fs:=funext fun l=>by
  unfold eO
  split
  ·rename_i m
   have:iU (fs++[f]) m=iU fs m:=by
     rw [sV]
     by_cases h2:iU fs m=0
     ·rw [if_pos h2,if_neg (fun e=>?_),h2]
      rcases h with h|h
      ·exact h e.2
      exact h (by rw [e.1];exact h2)
     rw [if_neg h2]
   rw [this]
  rfl
theorem Sat.Ud (h:Sat β l w):Sat β (l++[.abs (aH (nA AZ.none []))]) w:=h.FP _ (fun _=>if_pos rfl)
theorem Sat.Sh (h:Sat β l w) (hp:l[i]?=some (.abs (aH (nA Z xs)))) (n:Int):Sat β (l.set i (.abs (aH (kZ (nA Z xs) (zz n) bV.none)))++[.abs (BO Z xs n)]) w:=by
  have h1:=h.Cw hp (zz n)
  by_cases e:bn xs n=[]
  ·have e2:BO Z xs n=aK 136 5 .none 0 0 []:=by
     unfold BO aA aC
     rw [if_pos e,if_pos e,e];rfl
   rw [e2]
   exact (Sat.left h1).mF (e:=136) (size:=5)
  have e2:nA Z xs (zz n)=BO Z xs n:=by
    unfold nA
    rw [He,if_neg e]
  rw [e2] at h1
  exact h1
theorem Sat.Ue {idx:List Nat} (h:Sat β l w) (hp:l[i]?=some (.abs (aH (kZ (nA Z xs) (zz a.at_) bV.none)))) (hq:l[j]?=some (.abs (aK 136 5 B ((bn xs a.at_).length+1) c (bQ gu (bn xs a.at_)++gu a)))) (hn:nodupB (i::j::idx)=true) (hl:bO l idx=some l') :
    Sat β (.abs (aH (nA (Z.put a.at_ B c) (xs++[a])))::l') w:=by
  refine h.sP hp hq (fun _ _ h=>h) hn hl (zz a.at_) (fun x hx=>?_) ?_
  ·have hne:AQ x≠a.at_:=fun e=>hx (by rw [← e,Uc])
   unfold kZ
   rw [if_neg hx]
   unfold nA BO
   rw [uF hne,Q6 hne,Q7 hne]
  unfold nA BO
  rw [He,uG,if_neg (by simp),Q8,Q9]
  rw [C2,List.length_append];rfl
theorem fF.of {F:Fp} (h:(HP.abs (aH (nA Z xs))).h F w) (h1:∀ k,F k->β.O k) (h2:β.w0=w):fF β Z xs:=fun n=>by
  by_cases e:bn xs n=[]
  ·rw [e];exact fun j v hj=>by simp [bQ,dH] at hj
  obtain⟨φ,g1,_,g3⟩:=h
  have h3:=g1 (zz n)
  unfold nA at h3
  rw [He,if_neg e] at h3
  exact cF.jx h3 (fun k hk=>h1 k ((g3 k).2 ⟨_,hk⟩)) h2
end z
theorem Hf {xs:List bM} {i:Nat} (h:i < xs.length):xs.take (i+1)=xs.take i++[act xs i]:=by
  rw [List.take_add_one,tv h];rfl
theorem xh {fs:List bh} {i:Nat} (h:i < fs.length):fs.take (i+1)=fs.take i++[kx fs i]:=by
  rw [List.take_add_one,Ab h];rfl
theorem Nd {n:Nat} (h:n<=9223372036854775807):(Lit.int .i64 (n:Int)).wf=true:=by
  simp [Lit.wf,IntKind.min,IntKind.max,IntKind.signed,IntKind.bits]
  omega
theorem PX {d:List UInt8} {m j:Nat} {v:Value} (h:(cM (d.take m))[j]?=some v):(cM d)[j]?=some v:=by
  unfold cM at h ⊢
  rw [List.getElem?_map] at h ⊢
  rw [List.getElem?_take] at h
  split at h
  ·exact h
  cases h
theorem Jk {β:Bs} {c:aB} (h:lq β c):lq β { c with data:=c.data.take (c.data.length / 2) }:=⟨h.hw,h.ow,h.nm,h.tx,fun j v hj=>h.da j v (PX hj),by
  show (c.data.take _).length<=_
  rw [List.length_take];have:=h.dl;omega,by
  show (c.data.take _).length<=c.dC
  rw [List.length_take];have:=h.dc;omega,h.op⟩
structure WG where
  w:Nat
  o:Nat
  q:Nat
  am:Nat
  km:Nat
  an:Nat
  kn:Nat
  f:Nat
  m:Nat
  t:Nat
  Z:AZ
structure WV where
  L:HL
  A:Option Addr
  c:Nat
abbrev wB (w o f:Nat) (root:Int) (A:Option Addr) (n c:Nat):HP:=.blk w [.iface 39 (vP w),vP f,.iface 140 (vP o),.int .i64 root,.slice A n c] 53
abbrev oB (o q f:Nat) (root:Int) (am n:Nat):HP:=.blk o [.iface 141 (vP q),vP f,.int .i64 root,.map (some am),.int .i64 n] 145
abbrev qB (q f km n:Nat):HP:=.blk q [.iface 49 (vP f),.map (some km),.int .i64 n] 143
abbrev aM (am an:Nat) (Z:AZ) (xs:List bM):HP:=.abs (aN Tryz.prog 3 am (gA Z xs) an)
abbrev kM (km kn:Nat) (fs:List bh):HP:=.abs (aN Tryz.prog 3 km (eO fs) kn)
abbrev tR (A:Option Addr) (c:Nat) (tr:List aB):HP:=.abs (aK 88 13 A tr.length c (bQ dr tr))
abbrev wP (G:WG) (fs:List bh) (xs:List bM) (root:Int) (S:aI) (V:WV) (tr:List aB):List HP:=[wB G.w G.o G.f root V.A tr.length V.c,oB G.o G.q G.f root G.am tr.length,qB G.q G.f G.km tr.length,aM G.am G.an G.Z xs,kM G.km G.kn fs,tR V.A V.c tr]++pA G.f G.m G.t V.L S
def wA (G:WG) (fs:List bh) (xs:List bM) (root:Int) (S:aI) (V:WV) (tr:List aB):HP:=.abs (fC (wP G fs xs root S V tr))
def Zu (β:Bs) (tr:List aB):Prop:=∀ c∈tr,bS β c.dA c.data/\c.data.length<=1048576
theorem Spec.one {P:Program} {β:Bs} {f:FuncId} {args:Array Value} {pre:List HP} {post:Value->List HP->Prop} (h:Spec P β f args pre post):Spec P β f args [.abs (fC pre)] (fun v l=>∃ l0,post v l0/\l=[.abs (fC l0)]):=by
  intro R w hS
  have h1:Sat β ([.abs R]++[.abs (fC pre)]) w:=Sat.turn hS
  refine (h R w (Sat.turn h1.pN)).mono ?_
  rintro e w' ⟨v,l,h2,h3,h4⟩
  exact⟨v,[.abs (fC l)],h2,⟨l,h3,rfl⟩,Sat.turn (Sat.fC (Sat.turn h4))⟩
theorem bw.one {P:Program} {β:Bs} {f:FuncId} {args:Array Value} {pre:List HP} {post:Bs->Value->List HP->Prop} (h:bw P β f args pre post):bw P β f args [.abs (fC pre)] (fun β' v l=>∃ l0,post β' v l0/\l=[.abs (fC l0)]):=by
  intro R w hS
  have h1:Sat β ([.abs R]++[.abs (fC pre)]) w:=Sat.turn hS
  refine (h R w (Sat.turn h1.pN)).mono ?_
  rintro e w' ⟨β',v,l,hle,h2,h3,h4⟩
  exact⟨β',v,[.abs (fC l)],hle,h2,⟨l,h3,rfl⟩,Sat.turn (Sat.fC (Sat.turn h4))⟩
theorem aj.G9 {β:Bs} {N:dD} {Q:Post} {e:Exit} {fr:Fr} {hps dw:List HP} {Φ:Bs->Prop} (i:Nat) (idx:List Nat) (hp:hps[i]?=some (.abs (lE β Φ))) (hn:nodupB (i::idx)=true) (hl:bO hps idx=some dw) (K:∀ β':Bs,β.le β'->Φ β'->aj β' N Q e fr dw):aj β N Q e fr hps:=fun junk w hS=>by
  obtain⟨β',g1,g2,g3⟩:=(hS.pick (idx:=i::idx) (l':=.abs (lE β Φ)::dw) hn (by simp only [bO,hp,hl])).G9
  exact K β' g1 g2 junk w g3
theorem bw.K6 {P:Program} {β:Bs} {f:FuncId} {args:Array Value} {pre:List HP} {Φ:Bs->Prop} {post:Bs->Value->List HP->Prop} (h:∀ β':Bs,β.le β'->Φ β'->bw P β' f args pre post):bw P β f args (.abs (lE β Φ)::pre) post:=by
  intro A w hS
  obtain⟨β',g1,g2,g3⟩:=Sat.G9 (l:=pre++[.abs A]) hS
  refine (h β' g1 g2 A w g3).mono ?_
  rintro e w' ⟨β'',v,l,hle,h2⟩
  exact⟨β'',v,l,g1.trans hle,h2⟩
theorem bw.Uf {P:Program} {β:Bs} {f:FuncId} {args:Array Value} {R:List HP} {post:Bs->Value->List HP->Prop} (h:∀ β':Bs,qC β R β'->bw P β' f args [] post):bw P β f args R post:=by
  intro A w hS
  have h4:Sat β ([.abs A]++R) w:=Sat.turn hS
  obtain⟨β',g1,_,g3⟩:=h4.BA
  refine (h β' g1 A w g3).mono ?_
  rintro e w' ⟨β'',v,l,hle,h2⟩
  exact⟨β'',v,l,g1.le.trans hle,h2⟩
theorem bw.C3 {P:Program} {β:Bs} {f:FuncId} {args:Array Value} {pre:List HP} {post:Value->List HP->Prop} (h:bw P β f args pre (fun _ v l=>post v l)):Spec P β f args pre post:=by
  intro A w hS
  refine (h A w hS).mono ?_
  rintro e w' ⟨β',v,l,hle,h2,h3,h4⟩
  exact⟨v,l,h2,h3,h4.Cg hle⟩
theorem bw.Ug {P:Program} {β:Bs} {f:FuncId} {args:Array Value} {pre:List HP} {post post':Bs->Value->List HP->Prop} (h:bw P β f args pre post) (hp:∀ β' v l,post β' v l->(l=[]/\post' β' v [])\/post' β' v [.abs (fC l)]):bw P β f args pre post':=by
  intro R w hS
  refine (h R w hS).mono ?_
  rintro e w' ⟨β',v,l,hle,h2,h3,h4⟩
  rcases hp β' v l h3 with ⟨rfl,h5⟩|h5
  ·exact⟨β',v,[],hle,h2,h5,h4⟩
  exact⟨β',v,[.abs (fC l)],hle,h2,h5,Sat.turn (Sat.fC (Sat.turn h4))⟩
end
section
open Go.RowKit Go.Maps bC aE
section k
variable {xs:List bM} {z root:Int} {j n:Nat} {fs:List bh} {S:aI} {c:aB} {k:Int}
theorem Hg:(mq root c).op=c.op:=by
  unfold mq;split<;>rfl
theorem sX {e:Int}:(cP c e).code=e/\(cP c e).answer=0:=by
  unfold cP;split<;>exact⟨rfl,rfl⟩
end k
end
section
open Go.RowKit
section
variable {O:bW} {k:Nat} {kd:Int}
theorem su (L:HL) (h:(obj O k).kind=kd) (h0:kd≠0:=by decide):∀ F w,(aH (bR O L)).h F w->w.cell? ⟨L.b k,0,none⟩=some (.int .i64 (obj O k).id):=eM (by rw [h];exact h0) rfl
theorem tW (L:HL) (h:(obj O k).kind=kd) (h0:kd≠0:=by decide):∀ F w,(aH (bR O L)).h F w->w.cell? ⟨L.b k,1,none⟩=some (.int .i64 (obj O k).mode):=eM (by rw [h];exact h0) rfl
theorem Ad (L:HL) (h:(obj O k).kind=kd) (h0:kd≠0:=by decide):∀ F w,(aH (bR O L)).h F w->w.cell? ⟨L.b k,2,none⟩=some (.int .i64 (obj O k).uid):=eM (by rw [h];exact h0) rfl
theorem Ah (L:HL) (h:(obj O k).kind=kd) (h0:kd≠0:=by decide):∀ F w,(aH (bR O L)).h F w->w.cell? ⟨L.b k,3,none⟩=some (.int .i64 (obj O k).gid):=eM (by rw [h];exact h0) rfl
theorem nP (L:HL) (h:(obj O k).kind=kd) (h0:kd≠0:=by decide):∀ F w,(aH (bR O L)).h F w->w.cell? ⟨L.b k,6,none⟩=some (.int .i64 (obj O k).links):=eM (by rw [h];exact h0) rfl
theorem lF (L:HL) (h:(obj O k).kind=kd) (h0:kd≠0:=by decide):∀ F w,(aH (bR O L)).h F w->w.cell? ⟨L.b k,7,none⟩=some (.int .i64 (obj O k).opens):=eM (by rw [h];exact h0) rfl
theorem rQ (L:HL) (h:(obj O k).kind=kd) (h0:kd≠0:=by decide):∀ F w,(aH (bR O L)).h F w->w.cell? ⟨L.b k,8,none⟩=some (.bool (obj O k).gone):=eM (by rw [h];exact h0) rfl
theorem Hj (L:HL) (h:(obj O k).kind=1):∀ F w,(aH (bR O L)).h F w->w.cell? ⟨L.b k,9,none⟩=some (.slice (L.dA k) (obj O k).data.length (L.dC k)):=eM (by rw [h];decide) (by rw [rI h];rfl)
theorem bP (L:HL) (h:(obj O k).kind=2):∀ F w,(aH (bR O L)).h F w->w.cell? ⟨L.b k,9,none⟩=some (.map (some (L.m k))):=eM (by rw [h];decide) (by rw [oy h];rfl)
theorem XA (L:HL) (h:(obj O k).kind=2):∀ F w,(aH (bR O L)).h F w->w.cell? ⟨L.b k,10,none⟩=some (AF L (obj O k).up):=eM (by rw [h];decide) (by rw [oy h];rfl)
theorem VO (L:HL) (h:(obj O k).kind=3):∀ F w,(aH (bR O L)).h F w->w.cell? ⟨L.b k,9,none⟩=some (.string (obj O k).target):=eM (by rw [h];decide) (by rw [yE h];rfl)
end
end
section
open Go.RowKit Go.Maps
theorem aH.step {R R':Nat->bV} {k:Nat} {F:Fp} {w w':World} (hF:(aH R).h F w) (hR:∀ x,x≠k->R' x=R x) (hs:∀ G,(R k).h G w->∃ G',(R' k).h G' w'/\Step G w G' w'):∃ F',(aH R').h F' w'/\Step F w F' w':=by
  obtain⟨φ,h1,h2,h3⟩:=hF
  obtain⟨G',g1,st⟩:=hs _ (h1 k)
  have hap:∀ i,i≠k->∀ x,G' x->φ i x->False:=fun i hne x hx hy=>by
    rcases st.grow x hx with e|e
    ·exact h2 i k hne x hy e
    have:=(R i).lt (h1 i) x hy;omega
  refine⟨fun x=>∃ i,(if i=k then G' else φ i) x,⟨fun i=>if i=k then G' else φ i,fun i=>?_,fun i j hne x hx hy=>?_,fun x=>Iff.rfl⟩,⟨st.keeps.mono (fun x _ hx=>(h3 x).2 ⟨k,hx⟩),fun x ⟨i,hx⟩=>?_⟩⟩
  ·by_cases e:i=k
   ·subst e;simp only [if_true];exact g1
   simp only [e,if_false]
   rw [hR i e]
   exact (R i).st (h1 i) st.keeps (fun x hx hk=>h2 i k e x hx hk)
  ·by_cases e1:i=k
   ·have e2:j≠k:=fun e=>hne (e1.trans e.symm)
    simp only [e1,if_true] at hx
    simp only [e2,if_false] at hy
    exact hap j e2 x hx hy
   simp only [e1,if_false] at hx
   by_cases e2:j=k
   ·simp only [e2,if_true] at hy
    exact hap i e1 x hy hx
   simp only [e2,if_false] at hy
   exact h2 i j hne x hx hy
  by_cases e:i=k
  ·simp only [e,if_true] at hx
   rcases st.grow x hx with h|h
   ·exact .inl ((h3 x).2 ⟨k,h⟩)
   exact .inr h
  simp only [e,if_false] at hx
  exact .inl ((h3 x).2 ⟨i,hx⟩)
def Ef (O:bW) (L:HL):Nat->HP
  | 0=>.abs (aH (bR O L))
  | 1=>.abs (aH (dg O L))
  | _=>.abs (aH (ct O L))
def qJ (O:bW) (L:HL):List (Nat×Nat)->List (Nat×HP)
  | []=>[]
  | q::r=>(q.1,Ef O L q.2)::qJ O L r
def uH (hps:List HP) (O:bW) (L:HL):List (Nat×Nat)->Prop
  | []=>True
  | q::r=>hps[q.1]?=some (Ef O L q.2)/\uH hps O L r
theorem vO {hps:List HP} {O O2:bW} {L:HL} {p:Nat} (he:∀ q,q≠p->Ef O2 L q=Ef O L q):∀ {js:List (Nat×Nat)},uH hps O L js->iV p (js.map (·.2))=false->nJ hps (qJ O2 L js)=hps
  | [],_,_=>rfl
  | q::r,h,hn=>by
    have hq:q.2≠p:=fun e=>by
      rw [show iV p ((q::r).map (·.2))=true from iD.2 (by simp [e])] at hn;cases hn
    have hr:iV p (r.map (·.2))=false:=by
      cases hb:iV p (r.map (·.2)) with
      | false=>rfl
      | true=>rw [show iV p ((q::r).map (·.2))=true from iD.2 (List.mem_cons_of_mem _ (iD.1 hb))] at hn;cases hn
    show nJ (hps.set q.1 (Ef O2 L q.2)) (qJ O2 L r)=hps
    have e:hps.set q.1 (Ef O2 L q.2)=hps:=by
      rw [he _ hq]
      refine List.ext_getElem? (fun n=>?_)
      rw [List.getElem?_set]
      split
      ·rename_i e;subst e
       rw [h.1];split
       ·rfl
       rename_i hlt;exact absurd (bq h.1) hlt
      rfl
    rw [e]
    exact vO he h.2 hr
def C4 (P:Program) (N:dD) (junk:Nat->Value) (ops:Array Oper) (fr:Fr) (k:Nat):Option (Addr×Value):=
  match fK N junk ops fr k with
  | some (.store T a y,_)=>match (P.info? T).map (·.size) with
    | some 1=>match dm N fr junk a with
      | .pointer (some ad)=>some (ad,dm N fr junk y)
      | _=>none
    | _=>none
  | _=>none
def C5 (N:dD) (junk:Nat->Value) (ops:Array Oper) (fr:Fr) (k:Nat):Option (TypeId×Nat×Value):=
  match fK N junk ops fr k with
  | some (.lookup t x ix false,_)=>match dm N fr junk x with
    | .map (some b)=>some (t,b,dm N fr junk ix)
    | _=>none
  | _=>none
def setAt (N:dD) (junk:Nat->Value) (ops:Array Oper) (fr:Fr) (k:Nat):Option (TypeId×Nat×Value×Value):=
  match fK N junk ops fr k with
  | some (.mapUpdate t x ix y,_)=>match dm N fr junk x with
    | .map (some b)=>some (t,b,dm N fr junk ix,dm N fr junk y)
    | _=>none
  | _=>none
def K8 (N:dD) (junk:Nat->Value) (ops:Array Oper) (fr:Fr) (k:Nat):Option (TypeId×TypeId×Nat×Value):=
  match fK N junk ops fr k with
  | some (.call ⟨.builtin .delete,xs,ts⟩,_)=>match xs.toList with
    | [x,ix]=>match ts.toList with
      | [t,K]=>match dm N fr junk x with
        | .map (some b)=>some (t,K,b,dm N fr junk ix)
        | _=>none
      | _=>none
    | _=>none
  | _=>none
def Hl (L:HL):Option Th->Value
  | none=>.nilIface
  | some t=>ez L t
section rules
variable {β:Bs} {N:dD} {ops:Array Oper} {k x:Nat} {fr:Fr} {hps:List HP} {Q:Post} {O:bW} {L:HL} {name:ByteArray} {r:Option Th} {t:Th}
theorem vQ {junk:Nat->Value} {op:Op} {d:Option Tmp} (h:fK N junk ops fr k=some (op,d)):d=jA ops k:=by
  obtain⟨o,h1,_,_,h4⟩:=eF h
  unfold jA
  rw [h1,← h4]
theorem Ho {P:Program} {junk:Nat->Value} {ad:Addr} {u:Value} (h:C4 P N junk ops fr k=some (ad,u)):∃ T a y,fK N junk ops fr k=some (.store T a y,jA ops k)/\(P.info? T).map (·.size)=some 1/\dm N fr junk a=.pointer (some ad)/\dm N fr junk y=u:=by
  unfold C4 at h
  repeat' split at h
  all_goals first|(cases h;done)|skip
  rename_i T a y d h0 _ h1 _ Yx h2
  cases h
  have:=vQ h0
  subst this
  exact⟨T,a,y,h0,h1,h2,rfl⟩
theorem pu {junk:Nat->Value} {T:TypeId} {b:Nat} {key:Value} (h:C5 N junk ops fr k=some (T,b,key)):∃ a y,fK N junk ops fr k=some (.lookup T a y false,jA ops k)/\dm N fr junk a=.map (some b)/\dm N fr junk y=key:=by
  unfold C5 at h
  repeat' split at h
  all_goals first|(cases h;done)|skip
  rename_i T' a y d h0 _ b' h1
  cases h
  have:=vQ h0
  subst this
  exact⟨a,y,h0,h1,rfl⟩
theorem PY {junk:Nat->Value} {T:TypeId} {b:Nat} {key u:Value} (h:setAt N junk ops fr k=some (T,b,key,u)):∃ a y z,fK N junk ops fr k=some (.mapUpdate T a y z,jA ops k)/\dm N fr junk a=.map (some b)/\dm N fr junk y=key/\dm N fr junk z=u:=by
  unfold setAt at h
  repeat' split at h
  all_goals first|(cases h;done)|skip
  rename_i T' a y z d h0 _ b' h1
  cases h
  have:=vQ h0
  subst this
  exact⟨a,y,z,h0,h1,rfl,rfl⟩
theorem Nf {P:Program} {T:TypeId} {a y:Operand} {o:Oper} {ev:Operand->Value} {w:World} {ad:Addr} {u v0:Value} (ho:o.op=.store T a y) (hT:(P.info? T).map (·.size)=some 1) (ha:ev a=.pointer (some ad)) (hy:ev y=u) (hu:u.oneCell'=true) (hc:w.cell? ad=some v0) (hf:w.frozen? ad=false) (hs:ad.spot=none):pK P ev o w undef (w.setCell ad u):=by
  obtain⟨inf,hi,hsz⟩:∃ inf,P.info? T=some inf/\inf.size=1:=by
    cases h:P.info? T with
    | none=>rw [h] at hT;cases hT
    | some inf=>rw [h] at hT;exact⟨inf,rfl,by simpa using hT⟩
  have h3:=nG hi w
  rw [hsz] at h3
  obtain⟨dst,op,type,pos,after,guard⟩:=o
  obtain⟨bk,off,spot⟩:=ad
  simp only at hs
  subst hs
  cases ho
  refine .inr ⟨rfl,?_⟩
  cases u<;>first
    | (simp [Value.oneCell'] at hu;done)
    | (simp only [execOp,ha,hy];simp [go_sem,Instr.storeAt,Instr.sureAddr,storeVar,h3,Value.cells,storeCells,store,Addr.add,Sem.run,hc,hf])
theorem Ws (i:Nat) (js:List (Nat×Nat)) (x j:Nat) (f:aY->aY) (u:Value) {kd:Int} (hk:(obj O x).kind=kd)
    (K:∀ O2,O2=aO O x f->ak Tryz.prog β N ops (k+1) (cY fr (jA ops k) undef) ((nJ hps (qJ O2 L js)).set i (.abs (aH (bR O2 L)))) Q)
    (hp:hps[i]?=some (.abs (aH (bR O L)))) (hj:uH hps O L js)
    (ho:∀ junk,C4 Tryz.prog N junk ops fr k=some (⟨L.b x,j,none⟩,u))
    (hn:iV 0 (js.map (·.2))=false) (h0:kd≠0) (hc:iE L x (f (obj O x))=(iE L x (obj O x)).set j u) (hu:u.oneCell'=true) (h9:j < (iE L x (obj O x)).length)
    (he:(f (obj O x)).ah=(obj O x).ah) (hd:(f (obj O x)).data=(obj O x).data) (C6:(f (obj O x)).kind=(obj O x).kind):ak Tryz.prog β N ops k fr hps Q:=by
  obtain⟨T,a,y,h1,h2,h3,h4⟩:=Ho (ho (fun _=>undef))
  intro junk w hS
  obtain⟨T,a,y,h1,h2,h3,h4⟩:=Ho (ho junk)
  obtain⟨o,g1,g2,g3,g4⟩:=eF h1
  have hx0:(obj O x).kind≠0:=by rw [hk];exact h0
  have Hq:nJ hps (qJ (aO O x f) L js)=hps:=vO (p:=0) (fun q hq=>by
    match q,hq with
    | 0,hq=>exact absurd rfl hq
    | 1,_=>exact congrArg (fun R=>HP.abs (aH R)) (zR he C6)
    | q+2,_=>exact congrArg (fun R=>HP.abs (aH R)) (zQ hd C6)) hj hn
  have hcell:∃ v0,(iE L x (obj O x))[j]?=some v0:=iW h9
  obtain⟨v0,hv0⟩:=hcell
  obtain⟨F,hF⟩:=hS.get hp
  obtain⟨G,hG⟩:=aH.at x hF
  have Wt:=hG
  rw [l5 hx0] at Wt
  obtain⟨hb,_⟩:=Wt
  obtain⟨c1,c2⟩:=gj (a:=⟨L.b x,j,none⟩) hb rfl rfl hv0
  have vH:Sat β (hps.set i (.abs (aH (bR (aO O x f) L)))) (w.setCell ⟨L.b x,j,none⟩ (u)):=hS.set hp (fun F hF=>aH.step (k:=x) (show (aH (bR O L)).h F w from hF) (fun y hy=>Cx hy) (fun G hG=>by
    rw [l5 hx0] at hG
    rw [zP,if_neg (by rw [C6];exact hx0),hc,C6]
    exact tE hG rfl rfl))
  rw [drop_cons g1]
  unfold wpList
  rw [dO,if_pos g2]
  refine .inl (kG (v:=undef) (w':=w.setCell ⟨L.b x,j,none⟩ (u)) (by rw [dX];exact Nf g3 h2 h3 h4 hu c1 c2 rfl) ?_)
  rw [dM]
  have hK:=K _ rfl junk _ (by rw [Hq];exact vH)
  rw [← g4] at hK
  exact hK
theorem uI (i:Nat) (js:List (Nat×Nat)) (x j:Nat) (f:aY->aY) {kd:Int} (hk:(obj O x).kind=kd)
    (K:∀ O2,O2=aO O x f->ak Tryz.prog β N ops (k+1) (cY fr (jA ops k) undef) ((nJ hps (qJ O2 L js)).set i (.abs (aH (bR O2 L)))) Q)
    (hp:hps[i]?=some (.abs (aH (bR O L))):=by rfl) (hj:uH hps O L js:=by first|exact⟨rfl,trivial⟩|exact⟨rfl,rfl,trivial⟩|exact trivial)
    (ho:∀ junk,C4 Tryz.prog N junk ops fr k=some (⟨L.b x,j,none⟩,(zN (f (obj O x))).getD j undef):=by intro _;kernel_rfl)
    (hn:iV 0 (js.map (·.2))=false:=by rfl) (h0:kd≠0:=by decide) (hc:iE L x (f (obj O x))=(iE L x (obj O x)).set j ((zN (f (obj O x))).getD j undef):=by rfl) (hu:((zN (f (obj O x))).getD j undef).oneCell'=true:=by rfl) (h9:Nat.blt j 9=true:=by rfl)
    (he:(f (obj O x)).ah=(obj O x).ah:=by rfl) (hd:(f (obj O x)).data=(obj O x).data:=by rfl) (C6:(f (obj O x)).kind=(obj O x).kind:=by rfl):ak Tryz.prog β N ops k fr hps Q:=
  Ws i js x j f _ hk K hp hj ho hn h0 hc hu (Nat.lt_of_lt_of_le (show j < 9 by simpa [Nat.blt_eq] using h9) (by unfold iE zN;simp)) he hd C6
theorem Wu (i:Nat) (js:List (Nat×Nat)) (x:Nat) (y:Option Nat) (hk:(obj O x).kind=2)
    (K:∀ O2,O2=aO O x (fun o=>{ o with up:=y })->ak Tryz.prog β N ops (k+1) (cY fr (jA ops k) undef) ((nJ hps (qJ O2 L js)).set i (.abs (aH (bR O2 L)))) Q)
    (hp:hps[i]?=some (.abs (aH (bR O L))):=by rfl) (hj:uH hps O L js:=by first|exact⟨rfl,trivial⟩|exact⟨rfl,rfl,trivial⟩|exact trivial)
    (ho:∀ junk,C4 Tryz.prog N junk ops fr k=some (⟨L.b x,10,none⟩,AF L y):=by intro _;kernel_rfl) (hn:iV 0 (js.map (·.2))=false:=by rfl):ak Tryz.prog β N ops k fr hps Q:=
  Ws i js x 10 (fun o=>{ o with up:=y }) (AF L y) hk K hp hj ho hn (by decide) (by rw [oy (show ({ obj O x with up:=y }:aY).kind=2 from hk),oy hk];rfl) (by cases y<;>rfl) (by rw [oy hk];exact Nat.lt_succ_self 10) rfl rfl rfl
theorem Sat.Ra {w:World} {i j:Nat} {f:aY->aY} {u:Value} (hS:Sat β hps w) (hp:hps[i]?=some (.abs (aH (bR O L)))) (hx0:(obj O x).kind≠0) (hc:iE L x (f (obj O x))=(iE L x (obj O x)).set j u) (C6:(f (obj O x)).kind=(obj O x).kind) (h9:j < (iE L x (obj O x)).length) :
    Sat β (hps.set i (.abs (aH (bR (aO O x f) L)))) (w.setCell ⟨L.b x,j,none⟩ u)/\(∃ v0,w.cell? ⟨L.b x,j,none⟩=some v0)/\w.frozen? ⟨L.b x,j,none⟩=false:=by
  obtain⟨v0,hv0⟩:=iW h9
  obtain⟨F,hF⟩:=hS.get hp
  obtain⟨G,hG⟩:=aH.at x (show (aH (bR O L)).h F w from hF)
  rw [l5 hx0] at hG
  obtain⟨c1,c2⟩:=gj (a:=⟨L.b x,j,none⟩) hG.1 rfl rfl hv0
  refine⟨hS.set hp (fun F hF=>aH.step (k:=x) (show (aH (bR O L)).h F w from hF) (fun y hy=>Cx hy) (fun G hG=>?_)),⟨v0,c1⟩,c2⟩
  rw [l5 hx0] at hG
  rw [zP,if_neg (by rw [C6];exact hx0),hc,C6]
  exact tE hG rfl rfl
def Hr (P:Program) (N:dD) (junk:Nat->Value) (ops:Array Oper) (fr:Fr) (k:Nat):Option (Addr×Value):=
  match fK N junk ops fr k with
  | some (.store T a y,_)=>match (P.info? T).map (·.size) with
    | some 2=>match dm N fr junk a with
      | .pointer (some ad)=>some (ad,dm N fr junk y)
      | _=>none
    | _=>none
  | _=>none
theorem Ng {P:Program} {junk:Nat->Value} {ad:Addr} {u:Value} (h:Hr P N junk ops fr k=some (ad,u)):∃ T a y,fK N junk ops fr k=some (.store T a y,jA ops k)/\(P.info? T).map (·.size)=some 2/\dm N fr junk a=.pointer (some ad)/\dm N fr junk y=u:=by
  unfold Hr at h
  repeat' split at h
  all_goals first|(cases h;done)|skip
  rename_i T a y d h0 _ h1 _ Yx h2
  cases h
  have:=vQ h0
  subst this
  exact⟨T,a,y,h0,h1,h2,rfl⟩
theorem K9 {P:Program} {T:TypeId} {a y:Operand} {o:Oper} {ev:Operand->Value} {w:World} {b j:Nat} {z1 z2:Int} {v0 v1:Value} (ho:o.op=.store T a y) (hT:(P.info? T).map (·.size)=some 2) (ha:ev a=.pointer (some ⟨b,j,none⟩)) (hy:ev y=.agg #[.int .i64 z1,.int .i64 z2])
    (hc:w.cell? ⟨b,j,none⟩=some v0) (hf:w.frozen? ⟨b,j,none⟩=false) (hc1:(w.setCell ⟨b,j,none⟩ (.int .i64 z1)).cell? ⟨b,j+1,none⟩=some v1) (hf1:(w.setCell ⟨b,j,none⟩ (.int .i64 z1)).frozen? ⟨b,j+1,none⟩=false) :
    pK P ev o w undef ((w.setCell ⟨b,j,none⟩ (.int .i64 z1)).setCell ⟨b,j+1,none⟩ (.int .i64 z2)):=by
  obtain⟨inf,hi,hsz⟩:∃ inf,P.info? T=some inf/\inf.size=2:=by
    cases h:P.info? T with
    | none=>rw [h] at hT;cases hT
    | some inf=>rw [h] at hT;exact⟨inf,rfl,by simpa using hT⟩
  have h3:=nG hi w
  rw [hsz] at h3
  obtain⟨dst,op,type,pos,after,guard⟩:=o
  cases ho
  refine .inr ⟨rfl,?_⟩
  simp only [execOp,ha,hy]
  simp [go_sem,Instr.storeAt,Instr.sureAddr,storeVar,h3,Value.cells,storeCells,store,Addr.add,Sem.run,hc,hf,hc1,hf1]
theorem Nh (i:Nat) (js:List (Nat×Nat)) (x:Nat) (z1 z2:Int) {kd:Int} (hk:(obj O x).kind=kd)
    (K:∀ O2,O2=aO O x (fun o=>{ o with sec:=z1,nano:=z2 })->ak Tryz.prog β N ops (k+1) (cY fr (jA ops k) undef) ((nJ hps (qJ O2 L js)).set i (.abs (aH (bR O2 L)))) Q)
    (hp:hps[i]?=some (.abs (aH (bR O L))):=by rfl) (hj:uH hps O L js:=by first|exact⟨rfl,trivial⟩|exact⟨rfl,rfl,trivial⟩|exact trivial)
    (ho:∀ junk,Hr Tryz.prog N junk ops fr k=some (⟨L.b x,4,none⟩,.agg #[.int .i64 z1,.int .i64 z2]):=by intro _;kernel_rfl)
    (hn:iV 0 (js.map (·.2))=false:=by rfl) (h0:kd≠0:=by decide):ak Tryz.prog β N ops k fr hps Q:=by
  intro junk w hS
  obtain⟨T,a,y,h1,h2,h3,h4⟩:=Ng (ho junk)
  obtain⟨o,g1,g2,g3,g4⟩:=eF h1
  have hx0:(obj O x).kind≠0:=by rw [hk];exact h0
  have Hq:nJ hps (qJ (aO O x (fun o=>{ o with sec:=z1,nano:=z2 })) L js)=hps:=vO (p:=0) (fun q hq=>by
    match q,hq with
    | 0,hq=>exact absurd rfl hq
    | 1,_=>exact congrArg (fun R=>HP.abs (aH R)) (zR rfl rfl)
    | q+2,_=>exact congrArg (fun R=>HP.abs (aH R)) (zQ rfl rfl)) hj hn
  have hlen:∀ o:aY,9<=(iE L x o).length:=fun o=>by unfold iE zN;simp
  obtain⟨s1,⟨v0,c1⟩,f1⟩:=hS.Ra (x:=x) (j:=4) (f:=fun o=>{ o with sec:=z1 }) (u:=.int .i64 z1) hp hx0 rfl rfl (by have:=hlen (obj O x);omega)
  have hi:i < hps.length:=bq hp
  have e1:obj (aO O x (fun o=>{ o with sec:=z1 })) x={ obj O x with sec:=z1 }:=cD
  obtain⟨s2,⟨v1,c2⟩,f2⟩:=s1.Ra (x:=x) (j:=5) (f:=fun o=>{ o with nano:=z2 }) (u:=.int .i64 z2) (i:=i) (O:=aO O x (fun o=>{ o with sec:=z1 })) (by rw [List.getElem?_set,if_pos rfl,if_pos hi]) (by rw [e1];exact hx0) rfl rfl (by have:=hlen (obj (aO O x (fun o=>{ o with sec:=z1 })) x);omega)
  rw [List.set_set,yC] at s2
  rw [drop_cons g1]
  unfold wpList
  rw [dO,if_pos g2]
  refine .inl (kG (v:=undef) (w':=_) (by rw [dX];exact K9 g3 h2 h3 h4 c1 f1 c2 f2) ?_)
  rw [dM]
  have hK:=K _ rfl junk _ (by rw [Hq];exact s2)
  rw [← g4] at hK
  exact hK
theorem Ai {w:World} {i:Nat} (hS:Sat β hps w) (hp:hps[i]?=some (.abs (aH (dg O L)))) (hd:(obj O x).kind=2):gi Tryz.prog 9 w (L.m x) (jh L (obj O x).ah) (obj O x).ah.length:=by
  obtain⟨F,hF⟩:=hS.get hp
  obtain⟨G,hG⟩:=aH.at x (show (aH (dg O L)).h F w from hF)
  rw [o6 hd] at hG
  exact hG.1
theorem JZ {w:World} {i:Nat} {o:Oper} {ev:Operand->Value} {a y:Operand} (hS:Sat β hps w) (hp:hps[i]?=some (.abs (aH (dg O L)))) (hd:(obj O x).kind=2) (hl:aT name (obj O x).ah=r) (h3:o.op=.lookup 174 a y false) (ha:ev a=.map (some (L.m x))) (hy:ev y=.string name) (hsz:name.size<=1048576):pK Tryz.prog ev o w (Hl L r) w:=by
  have h:=wu (z:=.nilIface) h3 (Ai hS hp hd) ha hy BB Tryz.underlying174 (by kernel_rfl) (DX (by omega))
  rw [tj,hl] at h
  cases r<;>exact h
theorem jb (i:Nat) (hd:(obj O x).kind=2) (hl:aT name (obj O x).ah=r) (K:ak Tryz.prog β N ops (k+1) (cY fr (jA ops k) (Hl L r)) hps Q) (hp:hps[i]?=some (.abs (aH (dg O L))):=by rfl)
    (ho:∀ junk,C5 N junk ops fr k=some (174,L.m x,.string name):=by intro _;kernel_rfl) (hsz:name.size<=1048576:=by omega):ak Tryz.prog β N ops k fr hps Q:=by
  intro junk w hS
  obtain⟨a,y,h1,h2,h3⟩:=pu (ho junk)
  exact ak.jZ (dw:=hps) (v:=Hl L r) (d:=jA ops k) (op:=.lookup 174 a y false) (fun j=>by
    obtain⟨a',y',h1',_,_⟩:=pu (ho j)
    obtain⟨o,g1,g2,g3,g4⟩:=eF h1
    obtain⟨o',rR,Ni,tX,Nj⟩:=eF h1'
    rw [g1] at rR
    cases rR
    rw [g3] at tX
    cases tX
    exact h1') (fun o junk w ho' hS=>by
    obtain⟨a',y',h1',h2',h3'⟩:=pu (ho junk)
    obtain⟨o1,g1,g2,g3,g4⟩:=eF h1
    obtain⟨o',rR,Ni,tX,Nj⟩:=eF h1'
    rw [g1] at rR
    cases rR
    rw [g3] at tX
    cases tX
    exact⟨w,JZ hS hp hd hl ho' h2' h3' hsz,hS⟩) K junk w hS
theorem Rb (i:Nat) (hd:(obj O x).kind=2) (hl:aT name (obj O x).ah=r) (K:aW Tryz.prog β N ops (k+1) (cY fr (jA ops k) (Hl L r)) hps Q) (hp:hps[i]?=some (.abs (aH (dg O L))):=by rfl)
    (ho:∀ junk,C5 N junk ops fr k=some (174,L.m x,.string name):=by intro _;kernel_rfl) (hsz:name.size<=1048576:=by omega):aW Tryz.prog β N ops k fr hps Q:=by
  intro junk
  obtain⟨a,y,h1,h2,h3⟩:=pu (ho junk)
  exact aW.jZ (v:=Hl L r) (d:=jA ops k) (op:=.lookup 174 a y false) (fun j=>by
    obtain⟨a',y',h1',_,_⟩:=pu (ho j)
    obtain⟨o,g1,g2,g3,g4⟩:=eF h1
    obtain⟨o',rR,Ni,tX,Nj⟩:=eF h1'
    rw [g1] at rR
    cases rR
    rw [g3] at tX
    cases tX
    exact h1') (fun o junk w ho' hS=>by
    obtain⟨a',y',h1',h2',h3'⟩:=pu (ho junk)
    obtain⟨o1,g1,g2,g3,g4⟩:=eF h1
    obtain⟨o',rR,Ni,tX,Nj⟩:=eF h1'
    rw [g1] at rR
    cases rR
    rw [g3] at tX
    cases tX
    exact JZ hS hp hd hl ho' h2' h3' hsz) K junk
def La (N:dD) (junk:Nat->Value) (ops:Array Oper) (fr:Fr) (k:Nat):Option (TypeId×Nat):=
  match fK N junk ops fr k with
  | some (.call ⟨.builtin .len,xs,ts⟩,_)=>match xs.toList with
    | [x]=>match ts.toList with
      | [t]=>match dm N fr junk x with
        | .map (some b)=>some (t,b)
        | _=>none
      | _=>none
    | _=>none
  | _=>none
theorem BQ {junk:Nat->Value} {T:TypeId} {b:Nat} (h:La N junk ops fr k=some (T,b)):∃ a,fK N junk ops fr k=some (.call ⟨.builtin .len,#[a],#[T]⟩,jA ops k)/\dm N fr junk a=.map (some b):=by
  unfold La at h
  repeat' split at h
  all_goals first|(cases h;done)|skip
  rename_i xs ts d h0 _ a h1 _ t' h2 _ b' h3
  cases h
  have:=vQ h0
  subst this
  refine⟨a,?_,h3⟩
  rw [h0]
  obtain⟨xs⟩:=xs
  obtain⟨ts⟩:=ts
  cases h1
  cases h2
  rfl
theorem Yy (i:Nat) (hd:(obj O x).kind=2) (K:ak Tryz.prog β N ops (k+1) (cY fr (jA ops k) (.int .i64 (((obj O x).ah.length:Nat):Int))) hps Q) (hp:hps[i]?=some (.abs (aH (dg O L))):=by rfl)
    (ho:∀ junk,La N junk ops fr k=some (174,L.m x):=by intro _;kernel_rfl):ak Tryz.prog β N ops k fr hps Q:=by
  obtain⟨a,h1,h2⟩:=BQ (ho (fun _=>undef))
  obtain⟨o,g1,g2,g3,g4⟩:=eF h1
  refine ak.jZ (dw:=hps) (v:=.int .i64 (((obj O x).ah.length:Nat):Int)) (d:=jA ops k) (op:=o.op) (fun j=>?_) (fun o' junk w ho' hS=>?_) K
  ·obtain⟨a',h1',_⟩:=BQ (ho j)
   obtain⟨o',rR,Ni,tX,Nj⟩:=eF h1'
   rw [g1] at rR
   cases rR
   rw [tX]
   exact h1'
  obtain⟨a',h1',h2'⟩:=BQ (ho junk)
  obtain⟨o1,rR,Ni,tX,Nj⟩:=eF h1'
  rw [g1] at rR
  cases rR
  exact⟨w,zH (ho'.trans tX) rfl (Ai hS hp hd) h2' Tryz.underlying174,hS⟩
theorem Uh (i:Nat) (js:List (Nat×Nat)) {t:Th} (hd:(obj O x).kind=2) (hno:aT name (obj O x).ah=none)
    (K:∀ O2,O2=aO O x (fun o=>{ o with ah:=ic name t o.ah })->ak Tryz.prog β N ops (k+1) (cY fr (jA ops k) undef) ((nJ hps (qJ O2 L js)).set i (.abs (aH (dg O2 L)))) Q)
    (hp:hps[i]?=some (.abs (aH (dg O L))):=by rfl) (hj:uH hps O L js:=by first|exact⟨rfl,trivial⟩|exact⟨rfl,rfl,trivial⟩|exact trivial)
    (ho:∀ junk,setAt N junk ops fr k=some (174,L.m x,.string name,ez L t):=by intro _;kernel_rfl) (hn:iV 1 (js.map (·.2))=false:=by rfl) (hsz:name.size<=1048576:=by omega) (hel:(obj O x).ah.length<=1048576:=by omega):ak Tryz.prog β N ops k fr hps Q:=by
  intro junk w hS
  obtain⟨a,y,z,h1,h2,h3,h4⟩:=PY (ho junk)
  obtain⟨o,g1,g2,g3,g4⟩:=eF h1
  have Hq:nJ hps (qJ (aO O x (fun o=>{ o with ah:=ic name t o.ah })) L js)=hps:=vO (p:=1) (fun q hq=>by
    match q,hq with
    | 0,_=>exact congrArg (fun R=>HP.abs (aH R)) (Gy (es:=fun o=>ic name t o.ah))
    | 1,hq=>exact absurd rfl hq
    | q+2,_=>exact congrArg (fun R=>HP.abs (aH R)) (zQ rfl rfl)) hj hn
  obtain⟨w',m1,m2,m3⟩:=(Ai hS hp hd).store BB Tryz.underlying174 (by unfold maxLen;omega) (DX (p:=name) (by omega)) (ez L t)
  have e1:(jh L (obj O x).ah) (.string name.data.toList)=none:=by rw [tj,hno];rfl
  rw [e1,O4 hno] at m2
  have vH:Sat β (hps.set i (.abs (aH (dg (aO O x (fun o=>{ o with ah:=ic name t o.ah })) L)))) w':=hS.set hp (fun F hF=>aH.step (k:=x) (show (aH (dg O L)).h F w from hF) (fun y hy=>Cy hy) (fun G hG=>by
    rw [o6 hd] at hG
    rw [o6 (by rw [cD];exact hd),cD,Gx]
    exact step_map hG m2 m3))
  rw [drop_cons g1]
  unfold wpList
  rw [dO,if_pos g2]
  refine .inl (kG (v:=undef) (w':=w') (by
    rw [dX]
    refine .inr ⟨rfl,?_⟩
    obtain⟨dst,op,type,pos,after,guard⟩:=o
    cases g3
    simp only [execOp,h2,h3,h4]
    simp [go_sem,m1]) ?_)
  rw [dM]
  have hK:=K _ rfl junk _ (by rw [Hq];exact vH)
  rw [← g4] at hK
  exact hK
theorem PZ {junk:Nat->Value} {T K0:TypeId} {b:Nat} {key:Value} (h:K8 N junk ops fr k=some (T,K0,b,key)):∃ a y,fK N junk ops fr k=some (.call ⟨.builtin .delete,#[a,y],#[T,K0]⟩,jA ops k)/\dm N fr junk a=.map (some b)/\dm N fr junk y=key:=by
  unfold K8 at h
  repeat' split at h
  all_goals first|(cases h;done)|skip
  rename_i xs ts d h0 _ a y h1 _ t' K' h2 _ b' h3
  cases h
  have:=vQ h0
  subst this
  refine⟨a,y,?_,h3,rfl⟩
  rw [h0]
  obtain⟨xs⟩:=xs
  obtain⟨ts⟩:=ts
  cases h1
  cases h2
  rfl
theorem Ui (i:Nat) (js:List (Nat×Nat)) {t:Th} (hd:(obj O x).kind=2) (xj:aT name (obj O x).ah=some t) (hnt:o5 (obj O x).ah)
    (K:∀ O2,O2=aO O x (fun o=>{ o with ah:=ig name o.ah })->ak Tryz.prog β N ops (k+1) (cY fr (jA ops k) (.tuple #[])) ((nJ hps (qJ O2 L js)).set i (.abs (aH (dg O2 L)))) Q)
    (hp:hps[i]?=some (.abs (aH (dg O L))):=by rfl) (hj:uH hps O L js:=by first|exact⟨rfl,trivial⟩|exact⟨rfl,rfl,trivial⟩|exact trivial)
    (ho:∀ junk,K8 N junk ops fr k=some (174,9,L.m x,.string name):=by intro _;kernel_rfl) (hn:iV 1 (js.map (·.2))=false:=by rfl) (hsz:name.size<=1048576:=by omega):ak Tryz.prog β N ops k fr hps Q:=by
  intro junk w hS
  obtain⟨a,y,h1,h2,h3⟩:=PZ (ho junk)
  obtain⟨o,g1,g2,g3,g4⟩:=eF h1
  have Hq:nJ hps (qJ (aO O x (fun o=>{ o with ah:=ig name o.ah })) L js)=hps:=vO (p:=1) (fun q hq=>by
    match q,hq with
    | 0,_=>exact congrArg (fun R=>HP.abs (aH R)) (Gy (es:=fun o=>ig name o.ah))
    | 1,hq=>exact absurd rfl hq
    | q+2,_=>exact congrArg (fun R=>HP.abs (aH R)) (zQ rfl rfl)) hj hn
  obtain⟨w',m1,m2,m3⟩:=(Ai hS hp hd).drop BB Tryz.underlying174 (DX (p:=name) (by omega)) o.type
  have e1:(jh L (obj O x).ah) (.string name.data.toList)=some (ez L t):=by rw [tj,xj];rfl
  rw [e1,O5] at m2
  have hlen:=O3 hnt xj
  have vH:Sat β (hps.set i (.abs (aH (dg (aO O x (fun o=>{ o with ah:=ig name o.ah })) L)))) w':=hS.set hp (fun F hF=>aH.step (k:=x) (show (aH (dg O L)).h F w from hF) (fun y hy=>Cy hy) (fun G hG=>by
    rw [o6 hd] at hG
    rw [o6 (by rw [cD];exact hd),cD]
    rw [show (ig name (obj O x).ah).length=(obj O x).ah.length - 1 by omega]
    exact step_map hG m2 m3))
  rw [drop_cons g1]
  unfold wpList
  rw [dO,if_pos g2]
  refine .inl (kG (v:=.tuple #[]) (w':=w') (by
    rw [dX]
    refine .inl ?_
    obtain⟨dst,op,type,pos,after,guard⟩:=o
    cases g3
    simp only [execOp,resolve,invoke,builtin]
    simp [go_sem,h2,h3,m1]) ?_)
  rw [dM]
  have hK:=K _ rfl junk _ (by rw [Hq];exact vH)
  rw [← g4] at hK
  exact hK
end rules
section after
variable {O O2:bW} {j x:Nat} {f:aY->aY} {kd:Int}
theorem ku (e:O2=aO O j f) (h:(obj O x).kind=kd) (hf:∀ o,(f o).kind=o.kind:=by intro _;rfl):(obj O2 x).kind=kd:=by subst e;exact (ox hf).trans h
theorem fu {α:Type} (g:aY->α) {v:α} (e:O2=aO O j f) (h:g (obj O x)=v) (hf:∀ o,g (f o)=g o:=by intro _;rfl):g (obj O2 x)=v:=by subst e;exact (cE hf).trans h
end after
end
section
open Go.RowKit Go.Maps
attribute [local irreducible] ak aW af aj
theorem dN {β:Bs} (b:Nat):Spec Tryz.prog β 244 #[vP b] [] (fun v l=>v=vP b/\l=[]):=by
 refine Spec.enter Tryz.func244 rfl Tryz.ntmps244 (Nat.le_of_ble_eq_true rfl) (fun R=>?_)
 refine SR (gK 1 [] [] ?_)
 refine NS (gK 2 [(2,vP b)] [] ?_)
 refine NN (af.ret ?_)
 exact RT (vP b) [0] (⟨rfl,rfl⟩)
theorem qK {β:Bs} (a:Value):Spec Tryz.prog β 245 #[a] [] (fun v l=>v=vI 1/\l=[]):=by
 refine Spec.enter Tryz.func245 rfl Tryz.ntmps245 (Nat.le_of_ble_eq_true rfl) (fun R=>?_)
 refine SR (gK 1 [] [] ?_)
 refine NS (gK 1 [(2,vI 1)] [] ?_)
 refine NN (af.ret ?_)
 exact RT (vI 1) [0] (⟨rfl,rfl⟩)
theorem qL {β:Bs} (a:Value):Spec Tryz.prog β 247 #[a] [] (fun v l=>v=vI 2/\l=[]):=by
 refine Spec.enter Tryz.func247 rfl Tryz.ntmps247 (Nat.le_of_ble_eq_true rfl) (fun R=>?_)
 refine SR (gK 1 [] [] ?_)
 refine NS (gK 1 [(2,vI 2)] [] ?_)
 refine NN (af.ret ?_)
 exact RT (vI 2) [0] (⟨rfl,rfl⟩)
theorem qM {β:Bs} (a:Value):Spec Tryz.prog β 246 #[a] [] (fun v l=>v=vI 3/\l=[]):=by
 refine Spec.enter Tryz.func246 rfl Tryz.ntmps246 (Nat.le_of_ble_eq_true rfl) (fun R=>?_)
 refine SR (gK 1 [] [] ?_)
 refine NS (gK 1 [(2,vI 3)] [] ?_)
 refine NN (af.ret ?_)
 exact RT (vI 3) [0] (⟨rfl,rfl⟩)
theorem J0 {β:Bs} (O:bW) (L:HL) (d:Nat) (hkd:(obj O d).kind=2) (name:ByteArray) (hsz:name.size<=1048576) (hno:aT name (obj O d).ah=none) (hel:(obj O d).ah.length<=1048576) (t:Th) (hkt:(obj O t.k).kind=t.kind) (h3:t.kind=1\/t.kind=2\/t.kind=3) (hb:0<=(obj O t.k).links/\(obj O t.k).links<=1048576) :
    Spec Tryz.prog β 78 #[vP (L.b d),.string name,(ez L t)] [.abs (aH (bR O L)),.abs (aH (dg O L))] (fun v l=>v=.tuple #[]/\l=[.abs (aH (bR (oz O d name t) L)),.abs (aH (dg (oz O d name t) L))]):=by
 refine Spec.enter Tryz.func78 rfl Tryz.ntmps78 (Nat.le_of_ble_eq_true rfl) (fun R=>?_)
 refine af.seq ?_
 obtain⟨tk,kd⟩:=t;simp only at hkt h3;rcases h3 with rfl|rfl|rfl
 ·replace hkt:(obj O tk).kind=1:=hkt
  replace hb:0<=(obj O tk).links/\(obj O tk).links<=1048576:=hb
  refine af.region (gK 6 [(11,.map (some (L.m d))),(12,.string name),(13,.iface 162 (vP (L.b tk)))] [(3,v_ 0 (bP L hkd))] ?_)
  refine Uh 1 [(0,0)] (t:=⟨tk,1⟩) hkd hno (fun ef cT=>?_)
  have lG:=ku cT hkd
  have oK:=ku cT hkt
  have hf3:(obj ef tk).links=(obj O tk).links:=fu aY.links cT rfl
  refine NS (gK 1 [(14,.iface 162 (vP (L.b tk)))] [] ?_)
  refine gL [] (dN (L.b tk)) ?_
  rintro _ _ ⟨rfl,rfl⟩
  refine gK 6 [(19,vI ((obj ef tk).links+1)),(21,.pointer (some ⟨(L.b tk),6,none⟩))] [(2,v_ 0 (nP L oK)),(3,p_ ⟨[],none,none,none,some (vI ((obj ef tk).links+1))⟩ [(Value.int .i64 (IntKind.wrap .i64 ((obj ef tk).links+1)))=(.int .i64 ((obj ef tk).links+1))] ⟨bB (by omega) (by omega) (by omega),trivial⟩)] ?_
  refine uI 0 [(1,1)] tk 6 (fun o=>{ o with links:=o.links+1 }) oK (fun eT dL=>?_)
  have y7:=ku dL lG
  have Lb:=ku dL oK
  refine NS (gK 7 [(6,.pointer none),(7,.bool false)] [] ?_)
  refine NS (gK 1 [(27,.bool false)] [] ?_)
  refine NN (CF (af.skip ?_))
  exact RF (l:=[.abs (aH (bR eT L)),.abs (aH (dg eT L))]) (.tuple #[]) [0,1,2] (⟨rfl,by subst dL;subst cT;rfl⟩)
 ·replace hkt:(obj O tk).kind=2:=hkt
  replace hb:0<=(obj O tk).links/\(obj O tk).links<=1048576:=hb
  refine af.region (gK 6 [(11,.map (some (L.m d))),(12,.string name),(13,.iface 169 (vP (L.b tk)))] [(3,v_ 0 (bP L hkd))] ?_)
  refine Uh 1 [(0,0)] (t:=⟨tk,2⟩) hkd hno (fun ef cT=>?_)
  have Uj:=ku cT hkd
  have Lc:=ku cT hkt
  have ZU:(obj ef tk).links=(obj O tk).links:=fu aY.links cT rfl
  refine NS (gK 1 [(14,.iface 169 (vP (L.b tk)))] [] ?_)
  refine gL [] (dN (L.b tk)) ?_
  rintro _ _ ⟨rfl,rfl⟩
  refine gK 6 [(19,vI ((obj ef tk).links+1)),(21,.pointer (some ⟨(L.b tk),6,none⟩))] [(2,v_ 0 (nP L Lc)),(3,p_ ⟨[],none,none,none,some (vI ((obj ef tk).links+1))⟩ [(Value.int .i64 (IntKind.wrap .i64 ((obj ef tk).links+1)))=(.int .i64 ((obj ef tk).links+1))] ⟨bB (by omega) (by omega) (by omega),trivial⟩)] ?_
  refine uI 0 [(1,1)] tk 6 (fun o=>{ o with links:=o.links+1 }) Lc (fun eT dL=>?_)
  have Eg:=ku dL Uj
  have Ld:=ku dL Lc
  refine NS (gK 7 [(6,vP (L.b tk)),(7,.bool true)] [] ?_)
  refine NS (gK 1 [(27,.bool true)] [] ?_)
  refine NN (CT (af.region (gK 4 [(29,vP (L.b d)),(31,.pointer (some ⟨(L.b tk),10,none⟩))] [] ?_)))
  refine Wu 0 [(1,1)] tk (some d) Ld (fun y8 oL=>?_)
  have Rc:=ku oL Eg
  have Zc:=ku oL Ld
  refine NL ?_
  exact RF (l:=[.abs (aH (bR y8 L)),.abs (aH (dg y8 L))]) (.tuple #[]) [0,1,2] (⟨rfl,by subst oL;subst dL;subst cT;rfl⟩)
 replace hkt:(obj O tk).kind=3:=hkt
 replace hb:0<=(obj O tk).links/\(obj O tk).links<=1048576:=hb
 refine af.region (gK 6 [(11,.map (some (L.m d))),(12,.string name),(13,.iface 166 (vP (L.b tk)))] [(3,v_ 0 (bP L hkd))] ?_)
 refine Uh 1 [(0,0)] (t:=⟨tk,3⟩) hkd hno (fun ef cT=>?_)
 have VP:=ku cT hkd
 have Le:=ku cT hkt
 have Zv:(obj ef tk).links=(obj O tk).links:=fu aY.links cT rfl
 refine NS (gK 1 [(14,.iface 166 (vP (L.b tk)))] [] ?_)
 refine gL [] (dN (L.b tk)) ?_
 rintro _ _ ⟨rfl,rfl⟩
 refine gK 6 [(19,vI ((obj ef tk).links+1)),(21,.pointer (some ⟨(L.b tk),6,none⟩))] [(2,v_ 0 (nP L Le)),(3,p_ ⟨[],none,none,none,some (vI ((obj ef tk).links+1))⟩ [(Value.int .i64 (IntKind.wrap .i64 ((obj ef tk).links+1)))=(.int .i64 ((obj ef tk).links+1))] ⟨bB (by omega) (by omega) (by omega),trivial⟩)] ?_
 refine uI 0 [(1,1)] tk 6 (fun o=>{ o with links:=o.links+1 }) Le (fun eT dL=>?_)
 have C8:=ku dL VP
 have VQ:=ku dL Le
 refine NS (gK 7 [(6,.pointer none),(7,.bool false)] [] ?_)
 refine NS (gK 1 [(27,.bool false)] [] ?_)
 refine NN (CF (af.skip ?_))
 exact RF (l:=[.abs (aH (bR eT L)),.abs (aH (dg eT L))]) (.tuple #[]) [0,1,2] (⟨rfl,by subst dL;subst cT;rfl⟩)
theorem jW {β:Bs} (X:FM) (f m t:Nat) (hX:0<=X.ah/\X.ah<=1048576/\-1125899906842624<=X.used/\X.used<=1125899906842624/\0<=X.last/\X.last<=1125899906842624) (O:bW) (L:HL) (d:Nat) (hkd:(obj O d).kind=2) (name:ByteArray) (hsz:name.size<=1048576) (hno:aT name (obj O d).ah=none) (hel:(obj O d).ah.length<=1048576) (th:Th) (hkt:(obj O th.k).kind=th.kind) (h3:th.kind=1\/th.kind=2\/th.kind=3) (hb:0<=(obj O th.k).links/\(obj O th.k).links<=1048576) :
    Spec Tryz.prog β 196 #[vP f,vP (L.b d),.string name,(ez L th)] [.blk f [vI (X.cN),vI (X.cB),vI (X.cH),vI (X.cS),vI (X.cZ),.map (some m),vP t,vI (X.last),vI (X.ah),vI (X.used)] 154,.abs (aH (bR O L)),.abs (aH (dg O L))] (fun v l=>v=.tuple #[]/\l=[.blk f [vI (X.cN),vI (X.cB),vI (X.cH),vI (X.cS),vI (X.cZ),.map (some m),vP t,vI (X.last),vI (X.ah+1),vI (X.used)] 154,.abs (aH (bR (cO X O d name th) L)),.abs (aH (dg (cO X O d name th) L))]):=by
 refine Spec.enter Tryz.func196 rfl Tryz.ntmps196 (Nat.le_of_ble_eq_true rfl) (fun R=>?_)
 refine af.seq ?_
 skip
 refine af.region (gK 3 [(8,vP (L.b d)),(9,.string name),(10,(ez L th))] [] ?_)
 refine gL [1,2] (J0 O L d hkd name hsz hno hel th hkt h3 hb) ?_
 rintro _ _ ⟨rfl,rfl⟩
 refine NS ?_
 have C9:(obj (oz O d name th) d).kind=2:=(yG).trans (hkd)
 generalize cT:(oz O d name th)=ef at C9 ⊢
 refine gK 9 [(17,.agg #[vI (X.cS),vI (X.cZ)]),(20,.pointer (some ⟨(L.b d),4,none⟩))] [(5,A_ 2 f 2)] ?_
 refine Nh 0 [(1,1)] d X.cS X.cZ C9 (fun eT dL=>?_)
 have Zd:=ku dL C9
 refine NN (af.region (gC 8 [] [(3,a_ 2 f),(4,p_ ⟨[],none,none,none,some (vI (X.ah+1))⟩ [(Value.int .i64 (IntKind.wrap .i64 (X.ah+1)))=(.int .i64 (X.ah+1))] ⟨bB (by omega) (by omega) (by omega),trivial⟩),(7,a_ 2 f)] [(2,[(8,vI (X.ah+1))])] ?_))
 refine NL ?_
 exact RF (l:=[.blk f [vI (X.cN),vI (X.cB),vI (X.cH),vI (X.cS),vI (X.cZ),.map (some m),vP t,vI (X.last),vI (X.ah+1),vI (X.used)] 154,.abs (aH (bR eT L)),.abs (aH (dg eT L))]) (.tuple #[]) [2,0,1,3] (⟨rfl,by subst dL;subst cT;rfl⟩)
theorem jX {β:Bs} (X:FM) (f m t:Nat) (hX:0<=X.ah/\X.ah<=1048576/\-1125899906842624<=X.used/\X.used<=1125899906842624/\0<=X.last/\X.last<=1125899906842624) (O:bW) (L:HL) (d:Nat) (hkd:(obj O d).kind=2) (name:ByteArray) (hsz:name.size<=1048576) (th:Th) (hkt:(obj O th.k).kind=th.kind) (h3:th.kind=1\/th.kind=2\/th.kind=3) (xj:aT name (obj O d).ah=some th) (hnt:o5 (obj O d).ah) (_:(obj O d).ah.length<=1048576) (hb:0<=(obj O th.k).links/\(obj O th.k).links<=1048576) :
    Spec Tryz.prog β 210 #[vP f,vP (L.b d),.string name] [.blk f [vI (X.cN),vI (X.cB),vI (X.cH),vI (X.cS),vI (X.cZ),.map (some m),vP t,vI (X.last),vI (X.ah),vI (X.used)] 154,.abs (aH (bR O L)),.abs (aH (dg O L))] (fun v l=>v=ez L th/\l=[.blk f [vI (X.cN),vI (X.cB),vI (X.cH),vI (X.cS),vI (X.cZ),.map (some m),vP t,vI (X.last),vI (X.ah - 1),vI (X.used)] 154,.abs (aH (bR (aQ X O d name th) L)),.abs (aH (dg (aQ X O d name th) L))]):=by
 refine Spec.enter Tryz.func210 rfl Tryz.ntmps210 (Nat.le_of_ble_eq_true rfl) (fun R=>?_)
 refine af.seq ?_
 obtain⟨tk,kd⟩:=th;simp only at hkt h3;rcases h3 with rfl|rfl|rfl
 ·replace hkt:(obj O tk).kind=1:=hkt
  replace hb:0<=(obj O tk).links/\(obj O tk).links<=1048576:=hb
  refine af.region (gK 1 [] [] ?_)
  refine NS (gK 5 [(11,.map (some (L.m d))),(12,.string name)] [(3,v_ 1 (bP L hkd))] ?_)
  refine jb 2 hkd xj ?_
  refine gK 1 [(7,.iface 162 (vP (L.b tk)))] [] ?_
  refine NS (gK 5 [(17,.map (some (L.m d))),(18,.string name)] [(3,v_ 1 (bP L hkd))] ?_)
  refine Ui 2 [(1,0)] hkd xj hnt (fun ef cT=>?_)
  have Rf:=ku cT hkd
  have VR:=ku cT hkt
  have XB:(obj ef tk).links=(obj O tk).links:=fu aY.links cT rfl
  refine NS (gK 9 [(24,.agg #[vI (X.cS),vI (X.cZ)]),(27,.pointer (some ⟨(L.b d),4,none⟩))] [(5,A_ 0 f 2)] ?_)
  refine Nh 1 [(2,1)] d X.cS X.cZ Rf (fun eT dL=>?_)
  have Rg:=ku dL Rf
  have FY:=ku dL VR
  have Zw:(obj eT tk).links=(obj O tk).links:=fu aY.links dL XB
  refine NS (gC 8 [] [(3,a_ 0 f),(4,p_ ⟨[],none,none,none,some (vI (X.ah - 1))⟩ [(Value.int .i64 (IntKind.wrap .i64 (X.ah - 1)))=(.int .i64 (X.ah - 1))] ⟨bB (by omega) (by omega) (by omega),trivial⟩),(7,a_ 0 f)] [(0,[(8,vI (X.ah - 1))])] ?_)
  refine NS (gK 1 [(35,.iface 162 (vP (L.b tk)))] [] ?_)
  refine gL [] (dN (L.b tk)) ?_
  rintro _ _ ⟨rfl,rfl⟩
  refine gK 6 [(40,vI ((obj eT tk).links - 1)),(42,.pointer (some ⟨(L.b tk),6,none⟩))] [(2,v_ 1 (nP L FY)),(3,p_ ⟨[],none,none,none,some (vI ((obj eT tk).links - 1))⟩ [(Value.int .i64 (IntKind.wrap .i64 ((obj eT tk).links - 1)))=(.int .i64 ((obj eT tk).links - 1))] ⟨bB (by omega) (by omega) (by omega),trivial⟩)] ?_
  refine uI 1 [(2,1)] tk 6 (fun o=>{ o with links:=o.links - 1 }) FY (fun y8 oL=>?_)
  have Ze:=ku oL Rg
  have Zf:=ku oL FY
  refine NS (gK 2 [(6,.iface 162 (vP (L.b tk)))] [] ?_)
  refine NN (af.ret ?_)
  exact RT (l:=[.blk f [vI (X.cN),vI (X.cB),vI (X.cH),vI (X.cS),vI (X.cZ),.map (some m),vP t,vI (X.last),vI (X.ah - 1),vI (X.used)] 154,.abs (aH (bR y8 L)),.abs (aH (dg y8 L))]) (.iface 162 (vP (L.b tk))) [0,1,2,3] (⟨rfl,by subst oL;subst dL;subst cT;rfl⟩)
 ·replace hkt:(obj O tk).kind=2:=hkt
  replace hb:0<=(obj O tk).links/\(obj O tk).links<=1048576:=hb
  refine af.region (gK 1 [] [] ?_)
  refine NS (gK 5 [(11,.map (some (L.m d))),(12,.string name)] [(3,v_ 1 (bP L hkd))] ?_)
  refine jb 2 hkd xj ?_
  refine gK 1 [(7,.iface 169 (vP (L.b tk)))] [] ?_
  refine NS (gK 5 [(17,.map (some (L.m d))),(18,.string name)] [(3,v_ 1 (bP L hkd))] ?_)
  refine Ui 2 [(1,0)] hkd xj hnt (fun ef cT=>?_)
  have Rh:=ku cT hkd
  have VS:=ku cT hkt
  have XC:(obj ef tk).links=(obj O tk).links:=fu aY.links cT rfl
  refine NS (gK 9 [(24,.agg #[vI (X.cS),vI (X.cZ)]),(27,.pointer (some ⟨(L.b d),4,none⟩))] [(5,A_ 0 f 2)] ?_)
  refine Nh 1 [(2,1)] d X.cS X.cZ Rh (fun eT dL=>?_)
  have VT:=ku dL Rh
  have Lf:=ku dL VS
  have Zx:(obj eT tk).links=(obj O tk).links:=fu aY.links dL XC
  refine NS (gC 8 [] [(3,a_ 0 f),(4,p_ ⟨[],none,none,none,some (vI (X.ah - 1))⟩ [(Value.int .i64 (IntKind.wrap .i64 (X.ah - 1)))=(.int .i64 (X.ah - 1))] ⟨bB (by omega) (by omega) (by omega),trivial⟩),(7,a_ 0 f)] [(0,[(8,vI (X.ah - 1))])] ?_)
  refine NS (gK 1 [(35,.iface 169 (vP (L.b tk)))] [] ?_)
  refine gL [] (dN (L.b tk)) ?_
  rintro _ _ ⟨rfl,rfl⟩
  refine gK 6 [(40,vI ((obj eT tk).links - 1)),(42,.pointer (some ⟨(L.b tk),6,none⟩))] [(2,v_ 1 (nP L Lf)),(3,p_ ⟨[],none,none,none,some (vI ((obj eT tk).links - 1))⟩ [(Value.int .i64 (IntKind.wrap .i64 ((obj eT tk).links - 1)))=(.int .i64 ((obj eT tk).links - 1))] ⟨bB (by omega) (by omega) (by omega),trivial⟩)] ?_
  refine uI 1 [(2,1)] tk 6 (fun o=>{ o with links:=o.links - 1 }) Lf (fun y8 oL=>?_)
  have Zg:=ku oL VT
  have Zh:=ku oL Lf
  refine NS (gK 2 [(6,.iface 169 (vP (L.b tk)))] [] ?_)
  refine NN (af.ret ?_)
  exact RT (l:=[.blk f [vI (X.cN),vI (X.cB),vI (X.cH),vI (X.cS),vI (X.cZ),.map (some m),vP t,vI (X.last),vI (X.ah - 1),vI (X.used)] 154,.abs (aH (bR y8 L)),.abs (aH (dg y8 L))]) (.iface 169 (vP (L.b tk))) [0,1,2,3] (⟨rfl,by subst oL;subst dL;subst cT;rfl⟩)
 replace hkt:(obj O tk).kind=3:=hkt
 replace hb:0<=(obj O tk).links/\(obj O tk).links<=1048576:=hb
 refine af.region (gK 1 [] [] ?_)
 refine NS (gK 5 [(11,.map (some (L.m d))),(12,.string name)] [(3,v_ 1 (bP L hkd))] ?_)
 refine jb 2 hkd xj ?_
 refine gK 1 [(7,.iface 166 (vP (L.b tk)))] [] ?_
 refine NS (gK 5 [(17,.map (some (L.m d))),(18,.string name)] [(3,v_ 1 (bP L hkd))] ?_)
 refine Ui 2 [(1,0)] hkd xj hnt (fun ef cT=>?_)
 have Ri:=ku cT hkd
 have VU:=ku cT hkt
 have XD:(obj ef tk).links=(obj O tk).links:=fu aY.links cT rfl
 refine NS (gK 9 [(24,.agg #[vI (X.cS),vI (X.cZ)]),(27,.pointer (some ⟨(L.b d),4,none⟩))] [(5,A_ 0 f 2)] ?_)
 refine Nh 1 [(2,1)] d X.cS X.cZ Ri (fun eT dL=>?_)
 have VW:=ku dL Ri
 have Lg:=ku dL VU
 have Zy:(obj eT tk).links=(obj O tk).links:=fu aY.links dL XD
 refine NS (gC 8 [] [(3,a_ 0 f),(4,p_ ⟨[],none,none,none,some (vI (X.ah - 1))⟩ [(Value.int .i64 (IntKind.wrap .i64 (X.ah - 1)))=(.int .i64 (X.ah - 1))] ⟨bB (by omega) (by omega) (by omega),trivial⟩),(7,a_ 0 f)] [(0,[(8,vI (X.ah - 1))])] ?_)
 refine NS (gK 1 [(35,.iface 166 (vP (L.b tk)))] [] ?_)
 refine gL [] (dN (L.b tk)) ?_
 rintro _ _ ⟨rfl,rfl⟩
 refine gK 6 [(40,vI ((obj eT tk).links - 1)),(42,.pointer (some ⟨(L.b tk),6,none⟩))] [(2,v_ 1 (nP L Lg)),(3,p_ ⟨[],none,none,none,some (vI ((obj eT tk).links - 1))⟩ [(Value.int .i64 (IntKind.wrap .i64 ((obj eT tk).links - 1)))=(.int .i64 ((obj eT tk).links - 1))] ⟨bB (by omega) (by omega) (by omega),trivial⟩)] ?_
 refine uI 1 [(2,1)] tk 6 (fun o=>{ o with links:=o.links - 1 }) Lg (fun y8 oL=>?_)
 have Zi:=ku oL VW
 have Zj:=ku oL Lg
 refine NS (gK 2 [(6,.iface 166 (vP (L.b tk)))] [] ?_)
 refine NN (af.ret ?_)
 exact RT (l:=[.blk f [vI (X.cN),vI (X.cB),vI (X.cH),vI (X.cS),vI (X.cZ),.map (some m),vP t,vI (X.last),vI (X.ah - 1),vI (X.used)] 154,.abs (aH (bR y8 L)),.abs (aH (dg y8 L))]) (.iface 166 (vP (L.b tk))) [0,1,2,3] (⟨rfl,by subst oL;subst dL;subst cT;rfl⟩)
end
section
open Go.RowKit Go.Maps bC aE
attribute [local irreducible] ak aW af aj
abbrev Nk (f:Nat) (X:FM) (m:Nat) (t):=(.blk f [vI (X.cN),vI (X.cB),vI (X.cH),vI (X.cS),vI (X.cZ),.map (some m),vP t,vI (X.last),vI (X.ah),vI (X.used)] 154:HP)
theorem P0 {β:Bs} (X:FM) (f m t:Nat) (hX:0<=X.ah/\X.ah<=1048576/\-1125899906842624<=X.used/\X.used<=1125899906842624/\0<=X.last/\X.last<=1125899906842624) (O:bW) (L:HL) (idx:Used Th) (Nl:aE.cq (keys idx)) (th:Th) (hkt:(obj O th.k).kind=th.kind) (h3:th.kind=1\/th.kind=2\/th.kind=3) (hg:(obj O th.k).gone=true) (ho:(obj O th.k).opens=0) (hix:aE.get idx (obj O th.k).id=some th) (hw:(Lit.int .i64 (obj O th.k).id).wf=true) (y9:(obj O th.k).data.length<=1125899906842624) :
    Spec Tryz.prog β 202 #[vP f,(ez L th)] [pO O L,pF f m t X,pI m L idx] (fun v l=>v=.tuple #[]/\l=[pO O L,pF f m t { X with used:=if th.kind=1 then X.used - (obj O th.k).data.length else X.used },pI m L (del (obj O th.k).id idx)]):=by
 refine Spec.enter Tryz.func202 rfl Tryz.ntmps202 (Nat.le_of_ble_eq_true rfl) (fun R=>?_)
 refine af.seq ?_
 obtain⟨tk,kd⟩:=th;simp only at hkt h3;rcases h3 with rfl|rfl|rfl
 ·replace hkt:(obj O tk).kind=1:=hkt
  replace hg:(obj O tk).gone=true:=hg
  replace ho:(obj O tk).opens=0:=ho
  replace hix:aE.get idx (obj O tk).id=some _:=hix
  replace hw:(Lit.int .i64 (obj O tk).id).wf=true:=hw
  have hdl:=nL Nl (get_some hix)
  replace y9:(obj O tk).data.length<=1125899906842624:=y9
  refine af.region (gK 1 [(7,.iface 162 (vP (L.b tk)))] [] ?_)
  refine gL [] (dN (L.b tk)) ?_
  rintro _ _ ⟨rfl,rfl⟩
  refine gK 1 [(4,vP (L.b tk))] [] ?_
  refine NN (af.seq (SR (gK 6 [(14,.bool (!(obj O tk).gone))] [(3,v_ 0 (rQ L hkt))] ?_)))
  refine ak.qY 14 (!(obj O tk).gone) (fun _=>by kernel_rfl) (fun ko=>?_) (fun ko=>?_)
  ·exact absurd ko (by simp [hg])
  refine gK 6 [(20,.bool (decide (((obj O tk).opens:Int) > (0:Int))))] [(3,v_ 0 (lF L hkt))] ?_
  refine NN (af.aV (p:=((obj O tk).opens:Int) > (0:Int)) (fun _=>by kernel_rfl) (fun kg=>?_) (fun kg=>?_))
  ·exact absurd kg (by omega)
  refine af.skip (NX (af.seq (af.cA (S:=[pO O L,pF f m t X,pI m L idx,.abs R]) [0,1,2,3,4,5,6,7,8] 8 [0,1,2,3] (by kernel_rfl) (by kernel_rfl) rfl (by kernel_rfl) ?_)))
  refine gR 0 [8] [(0,vP f),(1,.iface 162 (vP (L.b tk))),(24,.map (some m)),(28,vI ((obj O tk).id))] [0,1,2,3,4,5,6,7] [(3,a_ 1 f),(7,v_ 0 (su L hkt))] ?_
  refine aS.last rfl rfl ?_
  refine ak.Ce 2 (d:=none) (t:=151) (K:=3) (E:=156) (b:=m) (n:=idx.length) (f:=(bE (bI L idx))) (x:=(.tmp 24)) (ix:=(.tmp 28)) (key:=.int .i64 ((obj O tk).id)) (kl:=(.int .i64 (obj O tk).id)) (n':=(idx.length - 1)) (f':=(bE (bI L (del (obj O tk).id idx)))) (ats:=#[151,3]) (fun _=>by kernel_rfl) (by kernel_rfl) (fun _=>by kernel_rfl) (fun _=>by kernel_rfl) rfl dG Tryz.underlying151 (iK hw) (by rw [fQ,hix];rfl) (D4) ?_
  refine NL (aj.np (NX (SR ?_)))
  refine gK 7 [(5,vP (L.b tk)),(6,.bool true)] [] ?_
  refine NS (gK 1 [(34,.bool true)] [] ?_)
  refine NN (CT (af.cA (S:=[pO O L,pF f m t X,.abs (aN Tryz.prog 3 m (bE (bI L (del (obj O tk).id idx))) (idx.length - 1)),.abs R]) [0,1,2,3,4,5,6,7,8,9,10,11,12] 12 [0,1,2,3] (by kernel_rfl) (by kernel_rfl) rfl (by kernel_rfl) ?_))
  refine gR 0 [12] [(44,vI (X.used - (((obj O tk).data.length:Nat):Int))),(46,.pointer (some ⟨f,9,none⟩))] [0,1,2,3,4,5,6,7,8,9,10,11] [(3,a_ 1 f),(7,v_ 0 (Hj L hkt)),(9,p_ ⟨[],none,none,none,some (vI (X.used - (((obj O tk).data.length:Nat):Int)))⟩ [(Value.int .i64 (IntKind.wrap .i64 (X.used - (((obj O tk).data.length:Nat):Int))))=(.int .i64 (X.used - (((obj O tk).data.length:Nat):Int)))] ⟨bB (by omega) (by omega) (by omega),trivial⟩)] ?_
  refine aS.last rfl rfl ?_
  refine gC 1 [] [(0,a_ 1 f)] [(1,[(9,vI (X.used - (((obj O tk).data.length:Nat):Int)))])] ?_
  refine NL (aj.np ?_)
  refine aj.eZ [(2,.abs (aN Tryz.prog 3 m (bE (bI L (del (obj O tk).id idx))) ((del (obj O tk).id idx).length)))] (fun w hS=>by rw [show (del (obj O tk).id idx).length=idx.length - 1 by omega];exact hS) ?_
  exact RF (.tuple #[]) [0,1,2,3] (⟨rfl,rfl⟩)
 ·replace hkt:(obj O tk).kind=2:=hkt
  replace hg:(obj O tk).gone=true:=hg
  replace ho:(obj O tk).opens=0:=ho
  replace hix:aE.get idx (obj O tk).id=some _:=hix
  replace hw:(Lit.int .i64 (obj O tk).id).wf=true:=hw
  have hdl:=nL Nl (get_some hix)
  replace y9:(obj O tk).data.length<=1125899906842624:=y9
  refine af.region (gK 1 [(7,.iface 169 (vP (L.b tk)))] [] ?_)
  refine gL [] (dN (L.b tk)) ?_
  rintro _ _ ⟨rfl,rfl⟩
  refine gK 1 [(4,vP (L.b tk))] [] ?_
  refine NN (af.seq (SR (gK 6 [(14,.bool (!(obj O tk).gone))] [(3,v_ 0 (rQ L hkt))] ?_)))
  refine ak.qY 14 (!(obj O tk).gone) (fun _=>by kernel_rfl) (fun ko=>?_) (fun ko=>?_)
  ·exact absurd ko (by simp [hg])
  refine gK 6 [(20,.bool (decide (((obj O tk).opens:Int) > (0:Int))))] [(3,v_ 0 (lF L hkt))] ?_
  refine NN (af.aV (p:=((obj O tk).opens:Int) > (0:Int)) (fun _=>by kernel_rfl) (fun kg=>?_) (fun kg=>?_))
  ·exact absurd kg (by omega)
  refine af.skip (NX (af.seq (af.cA (S:=[pO O L,pF f m t X,pI m L idx,.abs R]) [0,1,2,3,4,5,6,7,8] 8 [0,1,2,3] (by kernel_rfl) (by kernel_rfl) rfl (by kernel_rfl) ?_)))
  refine gR 0 [8] [(0,vP f),(1,.iface 169 (vP (L.b tk))),(24,.map (some m)),(28,vI ((obj O tk).id))] [0,1,2,3,4,5,6,7] [(3,a_ 1 f),(7,v_ 0 (su L hkt))] ?_
  refine aS.last rfl rfl ?_
  refine ak.Ce 2 (d:=none) (t:=151) (K:=3) (E:=156) (b:=m) (n:=idx.length) (f:=(bE (bI L idx))) (x:=(.tmp 24)) (ix:=(.tmp 28)) (key:=.int .i64 ((obj O tk).id)) (kl:=(.int .i64 (obj O tk).id)) (n':=(idx.length - 1)) (f':=(bE (bI L (del (obj O tk).id idx)))) (ats:=#[151,3]) (fun _=>by kernel_rfl) (by kernel_rfl) (fun _=>by kernel_rfl) (fun _=>by kernel_rfl) rfl dG Tryz.underlying151 (iK hw) (by rw [fQ,hix];rfl) (D4) ?_
  refine NL (aj.np (NX (SR ?_)))
  refine gK 7 [(5,.pointer none),(6,.bool false)] [] ?_
  refine NS (gK 1 [(34,.bool false)] [] ?_)
  refine NN (CF (af.skip (aj.eZ [(2,.abs (aN Tryz.prog 3 m (bE (bI L (del (obj O tk).id idx))) ((del (obj O tk).id idx).length)))] (fun w hS=>by rw [show (del (obj O tk).id idx).length=idx.length - 1 by omega];exact hS) ?_)))
  exact RF (.tuple #[]) [0,1,2,3] (⟨rfl,rfl⟩)
 replace hkt:(obj O tk).kind=3:=hkt
 replace hg:(obj O tk).gone=true:=hg
 replace ho:(obj O tk).opens=0:=ho
 replace hix:aE.get idx (obj O tk).id=some _:=hix
 replace hw:(Lit.int .i64 (obj O tk).id).wf=true:=hw
 have hdl:=nL Nl (get_some hix)
 replace y9:(obj O tk).data.length<=1125899906842624:=y9
 refine af.region (gK 1 [(7,.iface 166 (vP (L.b tk)))] [] ?_)
 refine gL [] (dN (L.b tk)) ?_
 rintro _ _ ⟨rfl,rfl⟩
 refine gK 1 [(4,vP (L.b tk))] [] ?_
 refine NN (af.seq (SR (gK 6 [(14,.bool (!(obj O tk).gone))] [(3,v_ 0 (rQ L hkt))] ?_)))
 refine ak.qY 14 (!(obj O tk).gone) (fun _=>by kernel_rfl) (fun ko=>?_) (fun ko=>?_)
 ·exact absurd ko (by simp [hg])
 refine gK 6 [(20,.bool (decide (((obj O tk).opens:Int) > (0:Int))))] [(3,v_ 0 (lF L hkt))] ?_
 refine NN (af.aV (p:=((obj O tk).opens:Int) > (0:Int)) (fun _=>by kernel_rfl) (fun kg=>?_) (fun kg=>?_))
 ·exact absurd kg (by omega)
 refine af.skip (NX (af.seq (af.cA (S:=[pO O L,pF f m t X,pI m L idx,.abs R]) [0,1,2,3,4,5,6,7,8] 8 [0,1,2,3] (by kernel_rfl) (by kernel_rfl) rfl (by kernel_rfl) ?_)))
 refine gR 0 [8] [(0,vP f),(1,.iface 166 (vP (L.b tk))),(24,.map (some m)),(28,vI ((obj O tk).id))] [0,1,2,3,4,5,6,7] [(3,a_ 1 f),(7,v_ 0 (su L hkt))] ?_
 refine aS.last rfl rfl ?_
 refine ak.Ce 2 (d:=none) (t:=151) (K:=3) (E:=156) (b:=m) (n:=idx.length) (f:=(bE (bI L idx))) (x:=(.tmp 24)) (ix:=(.tmp 28)) (key:=.int .i64 ((obj O tk).id)) (kl:=(.int .i64 (obj O tk).id)) (n':=(idx.length - 1)) (f':=(bE (bI L (del (obj O tk).id idx)))) (ats:=#[151,3]) (fun _=>by kernel_rfl) (by kernel_rfl) (fun _=>by kernel_rfl) (fun _=>by kernel_rfl) rfl dG Tryz.underlying151 (iK hw) (by rw [fQ,hix];rfl) (D4) ?_
 refine NL (aj.np (NX (SR ?_)))
 refine gK 7 [(5,.pointer none),(6,.bool false)] [] ?_
 refine NS (gK 1 [(34,.bool false)] [] ?_)
 refine NN (CF (af.skip (aj.eZ [(2,.abs (aN Tryz.prog 3 m (bE (bI L (del (obj O tk).id idx))) ((del (obj O tk).id idx).length)))] (fun w hS=>by rw [show (del (obj O tk).id idx).length=idx.length - 1 by omega];exact hS) ?_)))
 exact RF (.tuple #[]) [0,1,2,3] (⟨rfl,rfl⟩)
theorem Lh {β:Bs} (O:bW) (L:HL) (f:Nat) (th:Th) (hkt:(obj O th.k).kind=th.kind) (h3:th.kind=1\/th.kind=2\/th.kind=3) (hg:(obj O th.k).gone=false\/0 < (obj O th.k).opens) :
    Spec Tryz.prog β 202 #[vP f,(ez L th)] [pO O L] (fun v l=>v=.tuple #[]/\l=[pO O L]):=by
 refine Spec.enter Tryz.func202 rfl Tryz.ntmps202 (Nat.le_of_ble_eq_true rfl) (fun R=>?_)
 refine af.seq ?_
 obtain⟨tk,kd⟩:=th;simp only at hkt h3;rcases h3 with rfl|rfl|rfl
 ·replace hkt:(obj O tk).kind=1:=hkt
  replace hg:(obj O tk).gone=false\/0 < (obj O tk).opens:=hg
  refine af.region (gK 1 [(7,.iface 162 (vP (L.b tk)))] [] ?_)
  refine gL [] (dN (L.b tk)) ?_
  rintro _ _ ⟨rfl,rfl⟩
  refine gK 1 [(4,vP (L.b tk))] [] ?_
  refine NN (af.seq (SR (gK 6 [(14,.bool (!(obj O tk).gone))] [(3,v_ 0 (rQ L hkt))] ?_)))
  refine ak.qY 14 (!(obj O tk).gone) (fun _=>by kernel_rfl) (fun ko=>?_) (fun ko=>?_)
  ·refine gK 6 [(20,.bool true)] [] ?_
   refine NN (CT (af.ret (aj.aq ?_)))
   exact RT (.tuple #[]) [0,1] (⟨rfl,rfl⟩)
  refine gK 6 [(20,.bool (decide (((obj O tk).opens:Int) > (0:Int))))] [(3,v_ 0 (lF L hkt))] ?_
  refine NN (af.aV (p:=((obj O tk).opens:Int) > (0:Int)) (fun _=>by kernel_rfl) (fun kg=>?_) (fun kg=>?_))
  ·refine af.ret (aj.aq ?_)
   exact RT (.tuple #[]) [0,1] (⟨rfl,rfl⟩)
  exact absurd hg (by simp at ko;rw [ko];simp;omega)
 ·replace hkt:(obj O tk).kind=2:=hkt
  replace hg:(obj O tk).gone=false\/0 < (obj O tk).opens:=hg
  refine af.region (gK 1 [(7,.iface 169 (vP (L.b tk)))] [] ?_)
  refine gL [] (dN (L.b tk)) ?_
  rintro _ _ ⟨rfl,rfl⟩
  refine gK 1 [(4,vP (L.b tk))] [] ?_
  refine NN (af.seq (SR (gK 6 [(14,.bool (!(obj O tk).gone))] [(3,v_ 0 (rQ L hkt))] ?_)))
  refine ak.qY 14 (!(obj O tk).gone) (fun _=>by kernel_rfl) (fun ko=>?_) (fun ko=>?_)
  ·refine gK 6 [(20,.bool true)] [] ?_
   refine NN (CT (af.ret (aj.aq ?_)))
   exact RT (.tuple #[]) [0,1] (⟨rfl,rfl⟩)
  refine gK 6 [(20,.bool (decide (((obj O tk).opens:Int) > (0:Int))))] [(3,v_ 0 (lF L hkt))] ?_
  refine NN (af.aV (p:=((obj O tk).opens:Int) > (0:Int)) (fun _=>by kernel_rfl) (fun kg=>?_) (fun kg=>?_))
  ·refine af.ret (aj.aq ?_)
   exact RT (.tuple #[]) [0,1] (⟨rfl,rfl⟩)
  exact absurd hg (by simp at ko;rw [ko];simp;omega)
 replace hkt:(obj O tk).kind=3:=hkt
 replace hg:(obj O tk).gone=false\/0 < (obj O tk).opens:=hg
 refine af.region (gK 1 [(7,.iface 166 (vP (L.b tk)))] [] ?_)
 refine gL [] (dN (L.b tk)) ?_
 rintro _ _ ⟨rfl,rfl⟩
 refine gK 1 [(4,vP (L.b tk))] [] ?_
 refine NN (af.seq (SR (gK 6 [(14,.bool (!(obj O tk).gone))] [(3,v_ 0 (rQ L hkt))] ?_)))
 refine ak.qY 14 (!(obj O tk).gone) (fun _=>by kernel_rfl) (fun ko=>?_) (fun ko=>?_)
 ·refine gK 6 [(20,.bool true)] [] ?_
  refine NN (CT (af.ret (aj.aq ?_)))
  exact RT (.tuple #[]) [0,1] (⟨rfl,rfl⟩)
 refine gK 6 [(20,.bool (decide (((obj O tk).opens:Int) > (0:Int))))] [(3,v_ 0 (lF L hkt))] ?_
 refine NN (af.aV (p:=((obj O tk).opens:Int) > (0:Int)) (fun _=>by kernel_rfl) (fun kg=>?_) (fun kg=>?_))
 ·refine af.ret (aj.aq ?_)
  exact RT (.tuple #[]) [0,1] (⟨rfl,rfl⟩)
 exact absurd hg (by simp at ko;rw [ko];simp;omega)
theorem rS {β:Bs} (X:FM) (f m t:Nat) (hX:0<=X.ah/\X.ah<=1048576/\-1125899906842624<=X.used/\X.used<=1125899906842624/\0<=X.last/\X.last<=1125899906842624) (O:bW) (L:HL) (idx:Used Th) (Nl:aE.cq (keys idx)) (th:Th) (hkt:(obj O th.k).kind=th.kind) (h3:th.kind=1\/th.kind=2\/th.kind=3) (ho:0<=(obj O th.k).opens) (hix:sQ O th->aE.get idx (obj O th.k).id=some th) (hw:(Lit.int .i64 (obj O th.k).id).wf=true) (y9:(obj O th.k).data.length<=1125899906842624) :
    Spec Tryz.prog β 202 #[vP f,(ez L th)] [pO O L,pF f m t X,pI m L idx] (fun v l=>v=.tuple #[]/\l=[pO O L,pF f m t { X with used:=jO O X.used th },pI m L (jj O idx th)]):=by
  unfold jO jj
  by_cases h:sQ O th
  ·rw [if_pos h,if_pos h]
   exact P0 X f m t hX O L idx Nl th hkt h3 h.1 h.2 (hix h) hw y9
  rw [if_neg h,if_neg h]
  refine (Spec.BA (pre:=[pO O L]) (R:=[pF f m t X,pI m L idx]) (fun _ _=>Lh O L f th hkt h3 ?_)).mono (by rintro v l ⟨l0,⟨rfl,rfl⟩,rfl⟩;exact⟨rfl,rfl⟩)
  cases hg:(obj O th.k).gone with
  | false=>exact .inl rfl
  | true=>exact .inr (by have:¬ (obj O th.k).opens=0:=fun e=>h ⟨hg,e⟩;omega)
theorem Jl {β:Bs} (X:FM) (f m t:Nat):Spec Tryz.prog β 195 #[vP f] [Nk f X m t] (fun v l=>v=.bool (decide (X.ah < 8192))/\l=[Nk f X m t]):=by
 refine Spec.enter Tryz.func195 rfl Tryz.ntmps195 (Nat.le_of_ble_eq_true rfl) (fun R=>?_)
 refine SR (gK 1 [] [] ?_)
 refine NS (gK 6 [(2,.bool (decide ((X.ah:Int) < (8192:Int))))] [(3,a_ 0 f)] ?_)
 refine NN (af.ret ?_)
 exact RT (.bool (decide ((X.ah:Int) < (8192:Int)))) [0,1] (⟨rfl,rfl⟩)
theorem sY {β:Bs} (a b:Int):Spec Tryz.prog β 74 #[vI a,vI b] [] (fun v l=>v=.bool (decide (0<=a/\a<=b))/\l=[]):=by
 refine Spec.enter Tryz.func74 rfl Tryz.ntmps74 (Nat.le_of_ble_eq_true rfl) (fun R=>?_)
 refine SR (gK 1 [] [] ?_)
 refine NS (gK 3 [(7,.bool (decide ((a:Int) ≥ (0:Int))))] [] ?_)
 refine ak.iG 7 ((a:Int) ≥ (0:Int)) (fun _=>by kernel_rfl) (fun h7=>?_) (fun h7=>?_)
 ·refine gK 5 [(4,.bool (decide ((a:Int)<=(b:Int))))] [] ?_
  refine NN (af.ret ?_)
  exact RT (.bool (decide ((a:Int)<=(b:Int)))) [0] (⟨by first|exact congrArg Value.bool (decide_eq_decide.2 (by omega))|exact congrArg Value.bool (decide_eq_true (by omega)).symm|exact congrArg Value.bool (decide_eq_false (by omega)).symm,rfl⟩)
 refine gK 5 [(4,.bool false)] [] ?_
 refine NN (af.ret ?_)
 exact RT (.bool false) [0] (⟨by first|exact congrArg Value.bool (decide_eq_decide.2 (by omega))|exact congrArg Value.bool (decide_eq_true (by omega)).symm|exact congrArg Value.bool (decide_eq_false (by omega)).symm,rfl⟩)
theorem Hs {β:Bs} (X:FM) (f m t:Nat) (L:HL) (idx:Used Th):Spec Tryz.prog β 206 #[vP f] [Nk f X m t,.abs (aN Tryz.prog 3 m (bE (bI L idx)) idx.length)] (fun v l=>v=.bool (decide ((idx.length:Int) < X.cN/\X.last < 1099511627776/\X.ah < 8192))/\l=[Nk f X m t,.abs (aN Tryz.prog 3 m (bE (bI L idx)) idx.length)]):=by
 refine Spec.enter Tryz.func206 rfl Tryz.ntmps206 (Nat.le_of_ble_eq_true rfl) (fun R=>?_)
 refine SR (gK 1 [] [] ?_)
 refine NN (af.seq (af.eP (by kernel_rfl) (by kernel_rfl) ?_))
 refine gQ 4 [(6,.map (some m))] [(3,a_ 0 f)] ?_
 refine aW.vD 1 (d:=(some 7)) (t:=151) (K:=3) (E:=156) (b:=m) (n:=idx.length) (f:=(bE (bI L idx))) (x:=(.tmp 6)) (ats:=#[151]) (fun _=>by kernel_rfl) (by kernel_rfl) (fun _=>by kernel_rfl) rfl Tryz.underlying151 ?_
 refine gQ 7 [(14,.bool (decide ((((idx.length:Nat):Int):Int) < (X.cN:Int))))] [(4,a_ 0 f)] ?_
 refine aW.iG 14 ((((idx.length:Nat):Int):Int) < (X.cN:Int)) (fun _=>by kernel_rfl) (fun ko=>?_) (fun ko=>?_)
 ·refine gQ 7 [(21,.bool (decide ((X.last:Int) < (1099511627776:Int))))] [(3,a_ 0 f)] ?_
  refine aW.iG 21 ((X.last:Int) < (1099511627776:Int)) (fun _=>by kernel_rfl) (fun Rj=>?_) (fun Rj=>?_)
  ·refine gQ 1 [(22,vP f)] [] ?_
   refine aW.call (f:=195) (args:=#[vP f]) (d:=(some 23)) (pre:=[pF f m t X]) (R:=[pI m L idx,.abs R]) (pk:=[0,1,2]) (yg:=[0,1,2]) (v0:=.bool (decide (X.ah < 8192))) (fun _=>by kernel_rfl) (Jl X f m t) rfl (by kernel_rfl) rfl (by kernel_rfl) (fun _ _ h=>h) ?_
   refine gQ 2 [(2,.bool (decide (X.ah < 8192)))] [] ?_
   refine NQ (NX (af.ret ?_))
   exact RT (.bool (decide (X.ah < 8192))) [0,1,2] (⟨by first|exact congrArg Value.bool (decide_eq_decide.2 (by omega))|exact congrArg Value.bool (decide_eq_true (by omega)).symm|exact congrArg Value.bool (decide_eq_false (by omega)).symm,rfl⟩)
  refine gQ 4 [(2,.bool false)] [] ?_
  refine NQ (NX (af.ret ?_))
  exact RT (.bool false) [0,1,2] (⟨by first|exact congrArg Value.bool (decide_eq_decide.2 (by omega))|exact congrArg Value.bool (decide_eq_true (by omega)).symm|exact congrArg Value.bool (decide_eq_false (by omega)).symm,rfl⟩)
 refine gQ 11 [(2,.bool false)] [] ?_
 refine NQ (NX (af.ret ?_))
 exact RT (.bool false) [0,1,2] (⟨by first|exact congrArg Value.bool (decide_eq_decide.2 (by omega))|exact congrArg Value.bool (decide_eq_true (by omega)).symm|exact congrArg Value.bool (decide_eq_false (by omega)).symm,rfl⟩)
theorem za {β:Bs} (X:FM) (f m t:Nat) (hX:0<=X.ah/\X.ah<=1048576/\-1125899906842624<=X.used/\X.used<=1125899906842624/\0<=X.last/\X.last<=1125899906842624) (mode:Int):Spec Tryz.prog β 192 #[vP f,vI mode] [Nk f X m t] (fun v l=>v=.agg #[vI (X.last+1),vI mode,vI 0,vI 0,vI X.cS,vI X.cZ,vI 0,vI 0,.bool false]/\l=[.blk f [vI (X.cN),vI (X.cB),vI (X.cH),vI (X.cS),vI (X.cZ),.map (some m),vP t,vI (X.last+1),vI (X.ah),vI (X.used)] 154]):=by
 refine Spec.enter Tryz.func192 rfl Tryz.ntmps192 (Nat.le_of_ble_eq_true rfl) (fun R=>?_)
 refine SR (gN 1 (fun b1=>[(4,vP b1)]) (fun _=>[]) (fun _=>[]) (fun b1=>.blk b1 [vI 0,vI 0,vI 0,vI 0,vI 0,vI 0,vI 0,vI 0,.bool false] 161) (fun b1=>?_))
 refine NS (gC 8 [] [(3,a_ 0 f),(4,p_ ⟨[],none,none,none,some (vI (X.last+1))⟩ [(Value.int .i64 (IntKind.wrap .i64 (X.last+1)))=(.int .i64 (X.last+1))] ⟨bB (by omega) (by omega) (by omega),trivial⟩),(7,a_ 0 f)] [(0,[(7,vI (X.last+1))])] ?_)
 refine NN (af.seq (af.cA (S:=[pF f m t { X with last:=X.last+1 },.abs R,.blk b1 [vI 0,vI 0,vI 0,vI 0,vI 0,vI 0,vI 0,vI 0,.bool false] 161]) [0,1,2,3,4,5,6,7,8,9,10,11] 11 [0,1,2] (by kernel_rfl) (by kernel_rfl) rfl (by kernel_rfl) ?_))
 refine gR 0 [11] [(4,vP b1),(22,.agg #[vI (X.last+1),vI (mode),vI 0,vI 0,vI (X.cS),vI (X.cZ),vI 0,vI 0,.bool false])] [0,1,2,3,4,5,6,7,8,9,10] [(3,a_ 0 f),(9,A_ 0 f 2)] ?_
 refine aS.last rfl rfl ?_
 refine gC 1 [] [(0,A_ 2 b1 9)] [(2,[(0,vI (X.last+1)),(1,vI (mode)),(4,vI (X.cS)),(5,vI (X.cZ))])] ?_
 refine NL (aj.np (NX (af.ret ?_)))
 exact aj.ret (v:=.agg #[vI (X.last+1),vI (mode),vI 0,vI 0,vI (X.cS),vI (X.cZ),vI 0,vI 0,.bool false]) (l:=[pF f m t { X with last:=X.last+1 }]) (aZ:=[b1=b1,b1=b1,b1=b1,b1=b1,b1=b1,b1=b1,b1=b1,b1=b1,b1=b1]) [.at 2,.at 2,.at 2,.at 2,.at 2,.at 2,.at 2,.at 2,.at 2] [0,1] (fun _=>by kernel_rfl) ⟨rfl,rfl,rfl,rfl,rfl,rfl,rfl,rfl,rfl,trivial⟩ rfl (by kernel_rfl) (⟨rfl,rfl⟩)
end
section
open Go.RowKit Go.Maps bC aE
attribute [local irreducible] ak aW af aj
abbrev Da (f:Nat) (L:HL) (d:Nat) (name):=([(0,vP f),(1,vP (L.b d)),(2,.string name)]:Fr)
abbrev Uk (f:Nat) (L:HL) (d:Nat) (name):=([(18,vP f),(19,vP (L.b d)),(20,.string name)]:Fr)
abbrev Ul (f:Nat) (L:HL) (d:Nat) (name):=([(8,vP f),(9,vP (L.b d)),(10,.string name)]:Fr)
abbrev Ht (f:Nat) (L:HL) (d:Nat) (name):=([(0,vP f),(1,vP (L.b d)),(2,.string name)]:Fr)
abbrev xY (f:Nat) (m:Nat) (t) (X:FM) (L:HL) (idx) (O:bW) (R:bV):=([pF f m t X,pI m L idx,pO O L,pE O L,.abs R]:List HP)
abbrev Um (S:aI) (tk:Nat) (L:HL):=([(24,vI ((obj S.O tk).opens+1)),(26,.pointer (some ⟨(L.b tk),7,none⟩))]:Fr)
theorem oM {β:Bs} (S:aI) (L:HL) (f m t:Nat) (hI:Inv S) (d:Nat) (hd:Live S.idx ⟨d,2⟩) (name:ByteArray) (hsz:name.size<=1048576) (th:Th) (hlk:aT name (obj S.O d).ah=some th) :
    Spec Tryz.prog β 208 #[vP f,vP (L.b d),.string name] [pF f m t S.X,pO S.O L,pE S.O L,pI m L S.idx] (fun v l=>v=.tuple #[]/\l=[pF f m t ((aJ S d name th).X),pO ((aJ S d name th).O) L,pE ((aJ S d name th).O) L,pI m L ((aJ S d name th).idx)]):=by
 have hX:=hI.hX
 have hel:(obj S.O d).ah.length<=8192:=hI.iL hd
 have hkd:(obj S.O d).kind=2:=hI.kind hd
 refine Spec.enter Tryz.func208 rfl Tryz.ntmps208 (Nat.le_of_ble_eq_true rfl) (fun R=>?_)
 refine af.seq ?_
 obtain⟨tk,kd⟩:=th;have hlv:=(hI.ent hd hlk).2;have Zz:=hI.ne hd hlk;rcases (hI.ob _ hlv).2.2 with e0|e0|e0<;>simp only at e0<;>subst e0
 ·have hkt:(obj S.O tk).kind=1:=hI.kind hlv
  have hlb:=hI.lb hlv;have hid:=hI.ob _ hlv;have hop:=hI.GK hlv;have hdl:=hI.GL hlv;have qN:=hI.JL hlv
  refine af.region (gK 3 (Ul f L d name) [] ?_)
  refine gL [0,1,2] (jX S.X f m t hX S.O L d hkd name hsz ⟨tk,1⟩ hkt (by simp) hlk (hI.twice hd) (by omega) (by simp only at hlb ⊢;omega)) ?_
  rintro _ _ ⟨rfl,rfl⟩
  refine gK 1 [(6,.iface 162 (vP (L.b tk)))] [] ?_
  refine NS ?_
  have lG:(obj (aQ S.X S.O d name ⟨tk,1⟩) d).kind=2:=(cQ).trans (hkd)
  have oK:(obj (aQ S.X S.O d name ⟨tk,1⟩) tk).kind=1:=(cQ).trans (hkt)
  have ze:(obj (aQ S.X S.O d name ⟨tk,1⟩) tk).id=(obj S.O tk).id:=dF (g:=aY.id) (fun _ _=>rfl) (fun _ _=>rfl) (fun _ _ _=>rfl)
  have zf:(obj (aQ S.X S.O d name ⟨tk,1⟩) tk).opens=(obj S.O tk).opens:=dF (g:=aY.opens) (fun _ _=>rfl) (fun _ _=>rfl) (fun _ _ _=>rfl)
  have zh:(obj (aQ S.X S.O d name ⟨tk,1⟩) tk).data=(obj S.O tk).data:=dF (g:=aY.data) (fun _ _=>rfl) (fun _ _=>rfl) (fun _ _ _=>rfl)
  generalize cT:(aQ S.X S.O d name ⟨tk,1⟩)=ef at lG oK ze zf zh ⊢
  refine gK 1 [(12,.iface 162 (vP (L.b tk)))] [] ?_
  refine gL [] (dN (L.b tk)) ?_
  rintro _ _ ⟨rfl,rfl⟩
  refine gK 1 [(7,vP (L.b tk))] [] ?_
  refine NS (gK 5 [(18,.bool (decide (((obj ef tk).links:Int)=(0:Int))))] [(3,v_ 1 (nP L oK))] ?_)
  refine NN (af.aV (p:=((obj ef tk).links:Int)=(0:Int)) (fun _=>by kernel_rfl) (fun rE=>?_) (fun rE=>?_))
  ·refine SR (gK 3 [(21,.pointer (some ⟨(L.b tk),8,none⟩))] [] ?_)
   refine uI 1 [(2,1)] tk 8 (fun o=>{ o with gone:=true }) oK (fun eT dL=>?_)
   have Li:=ku dL lG
   have y7:=ku dL oK
   have Nn:(obj eT tk).id=(obj S.O tk).id:=fu aY.id dL ze
   have Un:(obj eT tk).opens=(obj S.O tk).opens:=fu aY.opens dL zf
   have Yz:(obj eT tk).data=(obj S.O tk).data:=fu aY.data dL zh
   refine NN (af.region (gK 2 [(22,vP f),(23,.iface 162 (vP (L.b tk)))] [] ?_))
   refine gL [1,0,3] (rS { S.X with ah:=S.X.ah - 1 } f m t (hI.AJ hd hlk) eT L S.idx hI.rise ⟨tk,1⟩ y7 (by simp) (by rw [Un];exact hop.1) (fun _=>by rw [Nn,hid.1];exact hlv) (by rw [Nn];exact qN) (by rw [Yz];exact hdl)) ?_
   rintro _ _ ⟨rfl,rfl⟩
   refine NL ?_
   exact RF (l:=[pF f m t { S.X with ah:=S.X.ah - 1,used:=jO eT S.X.used ⟨tk,1⟩ },pO eT L,pE eT L,pI m L (jj eT S.idx ⟨tk,1⟩)]) (.tuple #[]) [1,0,3,2,4] (⟨rfl,by subst dL;subst cT;rw [show aJ S d name ⟨tk,1⟩=_ from o8 rE]<;>rfl⟩)
  refine af.skip ?_
  exact RF (l:=[pF f m t { S.X with ah:=S.X.ah - 1 },pO ef L,pE ef L,pI m L S.idx]) (.tuple #[]) [0,1,2,3,4] (⟨rfl,by subst cT;rw [show aJ S d name ⟨tk,1⟩=_ from rJ rE]<;>rfl⟩)
 ·have hkt:(obj S.O tk).kind=2:=hI.kind hlv
  have hlb:=hI.lb hlv;have hid:=hI.ob _ hlv;have hop:=hI.GK hlv;have hdl:=hI.GL hlv;have qN:=hI.JL hlv
  refine af.region (gK 3 (Ul f L d name) [] ?_)
  refine gL [0,1,2] (jX S.X f m t hX S.O L d hkd name hsz ⟨tk,2⟩ hkt (by simp) hlk (hI.twice hd) (by omega) (by simp only at hlb ⊢;omega)) ?_
  rintro _ _ ⟨rfl,rfl⟩
  refine gK 1 [(6,.iface 169 (vP (L.b tk)))] [] ?_
  refine NS ?_
  have Uo:(obj (aQ S.X S.O d name ⟨tk,2⟩) d).kind=2:=(cQ).trans (hkd)
  have Eg:(obj (aQ S.X S.O d name ⟨tk,2⟩) tk).kind=2:=(cQ).trans (hkt)
  have ze:(obj (aQ S.X S.O d name ⟨tk,2⟩) tk).id=(obj S.O tk).id:=dF (g:=aY.id) (fun _ _=>rfl) (fun _ _=>rfl) (fun _ _ _=>rfl)
  have zf:(obj (aQ S.X S.O d name ⟨tk,2⟩) tk).opens=(obj S.O tk).opens:=dF (g:=aY.opens) (fun _ _=>rfl) (fun _ _=>rfl) (fun _ _ _=>rfl)
  have zh:(obj (aQ S.X S.O d name ⟨tk,2⟩) tk).data=(obj S.O tk).data:=dF (g:=aY.data) (fun _ _=>rfl) (fun _ _=>rfl) (fun _ _ _=>rfl)
  generalize cT:(aQ S.X S.O d name ⟨tk,2⟩)=ef at Uo Eg ze zf zh ⊢
  refine gK 1 [(12,.iface 169 (vP (L.b tk)))] [] ?_
  refine gL [] (dN (L.b tk)) ?_
  rintro _ _ ⟨rfl,rfl⟩
  refine gK 1 [(7,vP (L.b tk))] [] ?_
  refine NS (gK 5 [(18,.bool (decide (((obj ef tk).links:Int)=(0:Int))))] [(3,v_ 1 (nP L Eg))] ?_)
  refine NN (af.aV (p:=((obj ef tk).links:Int)=(0:Int)) (fun _=>by kernel_rfl) (fun rE=>?_) (fun rE=>?_))
  ·refine SR (gK 3 [(21,.pointer (some ⟨(L.b tk),8,none⟩))] [] ?_)
   refine uI 1 [(2,1)] tk 8 (fun o=>{ o with gone:=true }) Eg (fun eT dL=>?_)
   have Ld:=ku dL Uo
   have Rc:=ku dL Eg
   have Uq:(obj eT tk).id=(obj S.O tk).id:=fu aY.id dL ze
   have XE:(obj eT tk).opens=(obj S.O tk).opens:=fu aY.opens dL zf
   have XF:(obj eT tk).data=(obj S.O tk).data:=fu aY.data dL zh
   refine NN (af.region (gK 2 [(22,vP f),(23,.iface 169 (vP (L.b tk)))] [] ?_))
   refine gL [1,0,3] (rS { S.X with ah:=S.X.ah - 1 } f m t (hI.AJ hd hlk) eT L S.idx hI.rise ⟨tk,2⟩ Rc (by simp) (by rw [XE];exact hop.1) (fun _=>by rw [Uq,hid.1];exact hlv) (by rw [Uq];exact qN) (by rw [XF];exact hdl)) ?_
   rintro _ _ ⟨rfl,rfl⟩
   refine NL ?_
   exact RF (l:=[pF f m t { S.X with ah:=S.X.ah - 1,used:=jO eT S.X.used ⟨tk,2⟩ },pO eT L,pE eT L,pI m L (jj eT S.idx ⟨tk,2⟩)]) (.tuple #[]) [1,0,3,2,4] (⟨rfl,by subst dL;subst cT;rw [show aJ S d name ⟨tk,2⟩=_ from o8 rE]<;>rfl⟩)
  refine af.skip ?_
  exact RF (l:=[pF f m t { S.X with ah:=S.X.ah - 1 },pO ef L,pE ef L,pI m L S.idx]) (.tuple #[]) [0,1,2,3,4] (⟨rfl,by subst cT;rw [show aJ S d name ⟨tk,2⟩=_ from rJ rE]<;>rfl⟩)
 have hkt:(obj S.O tk).kind=3:=hI.kind hlv
 have hlb:=hI.lb hlv;have hid:=hI.ob _ hlv;have hop:=hI.GK hlv;have hdl:=hI.GL hlv;have qN:=hI.JL hlv
 refine af.region (gK 3 (Ul f L d name) [] ?_)
 refine gL [0,1,2] (jX S.X f m t hX S.O L d hkd name hsz ⟨tk,3⟩ hkt (by simp) hlk (hI.twice hd) (by omega) (by simp only at hlb ⊢;omega)) ?_
 rintro _ _ ⟨rfl,rfl⟩
 refine gK 1 [(6,.iface 166 (vP (L.b tk)))] [] ?_
 refine NS ?_
 have Rk:(obj (aQ S.X S.O d name ⟨tk,3⟩) d).kind=2:=(cQ).trans (hkd)
 have C8:(obj (aQ S.X S.O d name ⟨tk,3⟩) tk).kind=3:=(cQ).trans (hkt)
 have ze:(obj (aQ S.X S.O d name ⟨tk,3⟩) tk).id=(obj S.O tk).id:=dF (g:=aY.id) (fun _ _=>rfl) (fun _ _=>rfl) (fun _ _ _=>rfl)
 have zf:(obj (aQ S.X S.O d name ⟨tk,3⟩) tk).opens=(obj S.O tk).opens:=dF (g:=aY.opens) (fun _ _=>rfl) (fun _ _=>rfl) (fun _ _ _=>rfl)
 have zh:(obj (aQ S.X S.O d name ⟨tk,3⟩) tk).data=(obj S.O tk).data:=dF (g:=aY.data) (fun _ _=>rfl) (fun _ _=>rfl) (fun _ _ _=>rfl)
 generalize cT:(aQ S.X S.O d name ⟨tk,3⟩)=ef at Rk C8 ze zf zh ⊢
 refine gK 1 [(12,.iface 166 (vP (L.b tk)))] [] ?_
 refine gL [] (dN (L.b tk)) ?_
 rintro _ _ ⟨rfl,rfl⟩
 refine gK 1 [(7,vP (L.b tk))] [] ?_
 refine NS (gK 5 [(18,.bool (decide (((obj ef tk).links:Int)=(0:Int))))] [(3,v_ 1 (nP L C8))] ?_)
 refine NN (af.aV (p:=((obj ef tk).links:Int)=(0:Int)) (fun _=>by kernel_rfl) (fun rE=>?_) (fun rE=>?_))
 ·refine SR (gK 3 [(21,.pointer (some ⟨(L.b tk),8,none⟩))] [] ?_)
  refine uI 1 [(2,1)] tk 8 (fun o=>{ o with gone:=true }) C8 (fun eT dL=>?_)
  have VQ:=ku dL Rk
  have C9:=ku dL C8
  have Ur:(obj eT tk).id=(obj S.O tk).id:=fu aY.id dL ze
  have XG:(obj eT tk).opens=(obj S.O tk).opens:=fu aY.opens dL zf
  have XH:(obj eT tk).data=(obj S.O tk).data:=fu aY.data dL zh
  refine NN (af.region (gK 2 [(22,vP f),(23,.iface 166 (vP (L.b tk)))] [] ?_))
  refine gL [1,0,3] (rS { S.X with ah:=S.X.ah - 1 } f m t (hI.AJ hd hlk) eT L S.idx hI.rise ⟨tk,3⟩ C9 (by simp) (by rw [XG];exact hop.1) (fun _=>by rw [Ur,hid.1];exact hlv) (by rw [Ur];exact qN) (by rw [XH];exact hdl)) ?_
  rintro _ _ ⟨rfl,rfl⟩
  refine NL ?_
  exact RF (l:=[pF f m t { S.X with ah:=S.X.ah - 1,used:=jO eT S.X.used ⟨tk,3⟩ },pO eT L,pE eT L,pI m L (jj eT S.idx ⟨tk,3⟩)]) (.tuple #[]) [1,0,3,2,4] (⟨rfl,by subst dL;subst cT;rw [show aJ S d name ⟨tk,3⟩=_ from o8 rE]<;>rfl⟩)
 refine af.skip ?_
 exact RF (l:=[pF f m t { S.X with ah:=S.X.ah - 1 },pO ef L,pE ef L,pI m L S.idx]) (.tuple #[]) [0,1,2,3,4] (⟨rfl,by subst cT;rw [show aJ S d name ⟨tk,3⟩=_ from rJ rE]<;>rfl⟩)
theorem zi {β:Bs} (S:aI) (L:HL) (f m t:Nat) (hI:Inv S) (d:Nat) (hd:Live S.idx ⟨d,2⟩) (name:ByteArray) (hsz:name.size<=1048576) :
    Spec Tryz.prog β 191 #[vP f,vP (L.b d),.string name] [pF f m t S.X,pI m L S.idx,pE S.O L,pO S.O L] (fun v l=>v=vI (cR S.X S.O S.idx d name)/\l=[pF f m t S.X,pI m L S.idx,pE S.O L,pO S.O L]):=by
 have hX:=hI.hX
 have hel:(obj S.O d).ah.length<=8192:=hI.iL hd
 have hkd:(obj S.O d).kind=2:=hI.kind hd
 refine Spec.enter Tryz.func191 rfl Tryz.ntmps191 (Nat.le_of_ble_eq_true rfl) (fun R=>?_)
 refine af.seq ?_
 rcases hI.pZ hd name with hlk|⟨tk,hlk,hlv⟩|⟨tk,hlk,hlv⟩|⟨tk,hlk,hlv⟩
 ·refine af.region (gK 1 [] [] ?_)
  refine NN (af.seq (SR (gK 5 [(10,.map (some (L.m d))),(11,.string name)] [(3,v_ 3 (bP L hkd))] ?_)))
  refine jb 2 hkd hlk ?_
  refine gK 1 [(13,.bool false)] [] ?_
  refine NN (CF (af.skip (NX (af.seq (SR (gK 1 [(14,vP f)] [] ?_))))))
  refine gL [0,1] (Hs S.X f m t L S.idx) ?_
  rintro _ _ ⟨rfl,rfl⟩
  refine gK 1 [(16,.bool (!(decide (((S.idx.length:Int) < S.X.cN/\S.X.last < 1099511627776/\S.X.ah < 8192)))))] [] ?_
  refine NN (af.gT (p:=((S.idx.length:Int) < S.X.cN/\S.X.last < 1099511627776/\S.X.ah < 8192)) (fun _=>by kernel_rfl) (fun vK=>?_) (fun vK=>?_))
  ·refine SR (gK 1 [(6,vI 177)] [] ?_)
   refine NN (af.ret (aj.aq ?_))
   exact RT (vI 177) [0,1,2,3,4] (⟨congrArg (Value.int .i64) (Eq.symm (show cR S.X S.O S.idx d name=_ from (if_pos hlk).trans (if_neg vK))),rfl⟩)
  refine af.skip (NX (SR (gK 1 [(6,vI 0)] [] ?_)))
  refine NN (af.ret ?_)
  exact RT (vI 0) [0,1,2,3,4] (⟨congrArg (Value.int .i64) (Eq.symm (show cR S.X S.O S.idx d name=_ from (if_pos hlk).trans (if_pos vK))),rfl⟩)
 ·have hkt:(obj S.O tk).kind=1:=hI.kind hlv
  refine af.region (gK 1 [] [] ?_)
  refine NN (af.seq (SR (gK 5 [(10,.map (some (L.m d))),(11,.string name)] [(3,v_ 3 (bP L hkd))] ?_)))
  refine jb 2 hkd hlk ?_
  refine gK 1 [(13,.bool true)] [] ?_
  refine NN (CT (SR (gK 1 [(6,vI 171)] [] ?_)))
  refine NN (af.ret (aj.aq ?_))
  exact RT (vI 171) [0,1,2,3,4] (⟨congrArg (Value.int .i64) (Eq.symm (show cR S.X S.O S.idx d name=_ from if_neg (by rw [hlk];simp))),rfl⟩)
 ·have hkt:(obj S.O tk).kind=2:=hI.kind hlv
  refine af.region (gK 1 [] [] ?_)
  refine NN (af.seq (SR (gK 5 [(10,.map (some (L.m d))),(11,.string name)] [(3,v_ 3 (bP L hkd))] ?_)))
  refine jb 2 hkd hlk ?_
  refine gK 1 [(13,.bool true)] [] ?_
  refine NN (CT (SR (gK 1 [(6,vI 171)] [] ?_)))
  refine NN (af.ret (aj.aq ?_))
  exact RT (vI 171) [0,1,2,3,4] (⟨congrArg (Value.int .i64) (Eq.symm (show cR S.X S.O S.idx d name=_ from if_neg (by rw [hlk];simp))),rfl⟩)
 have hkt:(obj S.O tk).kind=3:=hI.kind hlv
 refine af.region (gK 1 [] [] ?_)
 refine NN (af.seq (SR (gK 5 [(10,.map (some (L.m d))),(11,.string name)] [(3,v_ 3 (bP L hkd))] ?_)))
 refine jb 2 hkd hlk ?_
 refine gK 1 [(13,.bool true)] [] ?_
 refine NN (CT (SR (gK 1 [(6,vI 171)] [] ?_)))
 refine NN (af.ret (aj.aq ?_))
 exact RT (vI 171) [0,1,2,3,4] (⟨congrArg (Value.int .i64) (Eq.symm (show cR S.X S.O S.idx d name=_ from if_neg (by rw [hlk];simp))),rfl⟩)
theorem Si {β:Bs} (s:ByteArray) (hsz:s.size<=1048576) :
    Spec Tryz.prog β 207 #[.string s] [] (fun v l=>v=vI (nS s)/\l=[]):=by
 refine Spec.enter Tryz.func207 rfl Tryz.ntmps207 (Nat.le_of_ble_eq_true rfl) (fun R=>?_)
 refine SR (gK 1 [] [] ?_)
 refine NN (af.seq (af.block (SR ?_)))
 refine gK 3 [(3,.bool (decide ((s:ByteArray)=⟨#[]⟩)))] [(1,p_ ⟨[],none,none,none,some (.bool (decide ((s:ByteArray)=⟨#[]⟩)))⟩ [(Value.bool ((s:ByteArray).toList == (⟨#[]⟩:ByteArray).toList))=(.bool (decide ((s:ByteArray)=⟨#[]⟩)))] ⟨vC _ _,trivial⟩)] ?_
 refine NN (af.aV (p:=(s:ByteArray)=⟨#[]⟩) (fun _=>by kernel_rfl) (fun h3=>?_) (fun h3=>?_))
 ·refine SR (gK 1 [(2,vI 90)] [] ?_)
  refine NN (af.ret (aj.aL (aj.aq ?_)))
  exact RT (vI 90) [0] (⟨congrArg (Value.int .i64) (Eq.symm (show nS s=_ from if_pos h3)),rfl⟩)
 refine SR (gK 4 [(6,.bool (decide (((((s:ByteArray).size:Nat):Int):Int) > (4096:Int))))] [] ?_)
 refine NN (af.aV (p:=((((s:ByteArray).size:Nat):Int):Int) > (4096:Int)) (fun _=>by kernel_rfl) (fun h6=>?_) (fun h6=>?_))
 ·refine SR (gK 1 [(2,vI 93)] [] ?_)
  refine NN (af.ret (aj.aL (aj.aq ?_)))
  exact RT (vI 93) [0] (⟨congrArg (Value.int .i64) (Eq.symm (show nS s=_ from (if_neg h3).trans (if_pos (by omega)))),rfl⟩)
 refine SR (gK 1 [(11,.string s)] [] ?_)
 refine gL [] (I9 s) ?_
 rintro _ _ ⟨⟨x,rfl,hx⟩,rfl⟩
 refine gK 2 [(10,.bool (decide ((x:Int) ≥ (0:Int))))] [] ?_
 refine NN (af.aV (p:=(x:Int) ≥ (0:Int)) (fun _=>by kernel_rfl) (fun h10=>?_) (fun h10=>?_))
 ·refine SR (gK 1 [(2,vI 91)] [] ?_)
  refine NN (af.ret (aj.aL (aj.aq ?_)))
  exact RT (vI 91) [0] (⟨congrArg (Value.int .i64) (Eq.symm (show nS s=_ from (if_neg h3).trans ((if_neg (by omega)).trans (if_neg (hx.1 (by omega)))))),rfl⟩)
 refine af.skip (aj.aP (NX (SR ?_)))
 refine gK 1 [(2,vI 0)] [] ?_
 refine NN (af.ret ?_)
 exact RT (vI 0) [0] (⟨congrArg (Value.int .i64) (Eq.symm (show nS s=_ from (if_neg h3).trans ((if_neg (by omega)).trans (if_pos (Classical.byContradiction (fun hn=>absurd (hx.2 hn) (by omega))))))),rfl⟩)
theorem Hu {β:Bs} (S:aI) (L:HL) (f m t:Nat) (th:Th) (hkt:(obj S.O th.k).kind=th.kind) (h3:th.kind=1\/th.kind=2\/th.kind=3) (hop:0<=(obj S.O th.k).opens/\(obj S.O th.k).opens<=1048576) :
    Spec Tryz.prog β 187 #[vP f,(ez L th)] [pF f m t S.X,pT t S.X.cH S.aD L S.us,pO S.O L] (fun v l=>v=.tuple #[vI (cW S th).1,vI (cW S th).2.1]/\l=[pF f m t S.X,pT t S.X.cH ((cW S th).2.2.aD) L ((cW S th).2.2.us),pO ((cW S th).2.2.O) L]):=by
 refine Spec.enter Tryz.func187 rfl Tryz.ntmps187 (Nat.le_of_ble_eq_true rfl) (fun R=>?_)
 refine af.seq ?_
 obtain⟨tk,kd⟩:=th;simp only at hkt h3;rcases Int.lt_or_le (S.us.length:Int) S.X.cH with AR|AR<;>rcases h3 with e0|e0|e0<;>subst e0
 ·replace hkt:(obj S.O tk).kind=1:=hkt
  replace hop:0<=(obj S.O tk).opens/\(obj S.O tk).opens<=1048576:=hop
  refine af.region (gK 2 [] [] ?_)
  refine NS (gK 5 [(12,vP t),(13,.iface 162 (vP (L.b tk)))] [(3,a_ 0 f)] ?_)
  refine gL [1] ((BF t S.X.cH S.aD (bI L S.us) (ez L ⟨tk,1⟩) (by rw [qD];exact AR)).mono (fun v l h=>D5 h)) ?_
  rintro _ _ ⟨rfl,rfl⟩
  refine gK 5 [(6,vI ((aE.least S.us))),(7,vI 0)] [] ?_
  refine NN (af.seq (SR (gK 2 [(18,.bool true)] [] ?_)))
  refine NN (CT (af.region (gK 1 [(19,.iface 162 (vP (L.b tk)))] [] ?_)))
  refine gL [] (dN (L.b tk)) ?_
  rintro _ _ ⟨rfl,rfl⟩
  refine gK 6 (Um S tk L) [(2,v_ 2 (lF L hkt)),(3,p_ ⟨[],none,none,none,some (vI ((obj S.O tk).opens+1))⟩ [(Value.int .i64 (IntKind.wrap .i64 ((obj S.O tk).opens+1)))=(.int .i64 ((obj S.O tk).opens+1))] ⟨bB (by omega) (by omega) (by omega),trivial⟩)] ?_
  refine uI 2 [] tk 7 (fun o=>{ o with opens:=o.opens+1 }) hkt (fun ef cT=>?_)
  have Zk:=ku cT hkt
  refine NS (gK 4 [(4,vI ((aE.least S.us))),(5,vI 0)] [] ?_)
  refine NN (af.ret ?_)
  exact RT (l:=[pF f m t S.X,pT t S.X.cH (max S.aD ((S.us.length:Int)+1)) L (ins (aE.least S.us) ⟨tk,1⟩ S.us),pO ef L]) (.tuple #[vI ((aE.least S.us)),vI 0]) [1,0,2,3] (by subst cT;rw [show cW S ⟨tk,1⟩=_ from jf AR]<;>exact⟨rfl,rfl⟩)
 ·replace hkt:(obj S.O tk).kind=2:=hkt
  replace hop:0<=(obj S.O tk).opens/\(obj S.O tk).opens<=1048576:=hop
  refine af.region (gK 2 [] [] ?_)
  refine NS (gK 5 [(12,vP t),(13,.iface 169 (vP (L.b tk)))] [(3,a_ 0 f)] ?_)
  refine gL [1] ((BF t S.X.cH S.aD (bI L S.us) (ez L ⟨tk,2⟩) (by rw [qD];exact AR)).mono (fun v l h=>D5 h)) ?_
  rintro _ _ ⟨rfl,rfl⟩
  refine gK 5 [(6,vI ((aE.least S.us))),(7,vI 0)] [] ?_
  refine NN (af.seq (SR (gK 2 [(18,.bool true)] [] ?_)))
  refine NN (CT (af.region (gK 1 [(19,.iface 169 (vP (L.b tk)))] [] ?_)))
  refine gL [] (dN (L.b tk)) ?_
  rintro _ _ ⟨rfl,rfl⟩
  refine gK 6 (Um S tk L) [(2,v_ 2 (lF L hkt)),(3,p_ ⟨[],none,none,none,some (vI ((obj S.O tk).opens+1))⟩ [(Value.int .i64 (IntKind.wrap .i64 ((obj S.O tk).opens+1)))=(.int .i64 ((obj S.O tk).opens+1))] ⟨bB (by omega) (by omega) (by omega),trivial⟩)] ?_
  refine uI 2 [] tk 7 (fun o=>{ o with opens:=o.opens+1 }) hkt (fun ef cT=>?_)
  have Rg:=ku cT hkt
  refine NS (gK 4 [(4,vI ((aE.least S.us))),(5,vI 0)] [] ?_)
  refine NN (af.ret ?_)
  exact RT (l:=[pF f m t S.X,pT t S.X.cH (max S.aD ((S.us.length:Int)+1)) L (ins (aE.least S.us) ⟨tk,2⟩ S.us),pO ef L]) (.tuple #[vI ((aE.least S.us)),vI 0]) [1,0,2,3] (by subst cT;rw [show cW S ⟨tk,2⟩=_ from jf AR]<;>exact⟨rfl,rfl⟩)
 ·replace hkt:(obj S.O tk).kind=3:=hkt
  replace hop:0<=(obj S.O tk).opens/\(obj S.O tk).opens<=1048576:=hop
  refine af.region (gK 2 [] [] ?_)
  refine NS (gK 5 [(12,vP t),(13,.iface 166 (vP (L.b tk)))] [(3,a_ 0 f)] ?_)
  refine gL [1] ((BF t S.X.cH S.aD (bI L S.us) (ez L ⟨tk,3⟩) (by rw [qD];exact AR)).mono (fun v l h=>D5 h)) ?_
  rintro _ _ ⟨rfl,rfl⟩
  refine gK 5 [(6,vI ((aE.least S.us))),(7,vI 0)] [] ?_
  refine NN (af.seq (SR (gK 2 [(18,.bool true)] [] ?_)))
  refine NN (CT (af.region (gK 1 [(19,.iface 166 (vP (L.b tk)))] [] ?_)))
  refine gL [] (dN (L.b tk)) ?_
  rintro _ _ ⟨rfl,rfl⟩
  refine gK 6 (Um S tk L) [(2,v_ 2 (lF L hkt)),(3,p_ ⟨[],none,none,none,some (vI ((obj S.O tk).opens+1))⟩ [(Value.int .i64 (IntKind.wrap .i64 ((obj S.O tk).opens+1)))=(.int .i64 ((obj S.O tk).opens+1))] ⟨bB (by omega) (by omega) (by omega),trivial⟩)] ?_
  refine uI 2 [] tk 7 (fun o=>{ o with opens:=o.opens+1 }) hkt (fun ef cT=>?_)
  have FY:=ku cT hkt
  refine NS (gK 4 [(4,vI ((aE.least S.us))),(5,vI 0)] [] ?_)
  refine NN (af.ret ?_)
  exact RT (l:=[pF f m t S.X,pT t S.X.cH (max S.aD ((S.us.length:Int)+1)) L (ins (aE.least S.us) ⟨tk,3⟩ S.us),pO ef L]) (.tuple #[vI ((aE.least S.us)),vI 0]) [1,0,2,3] (by subst cT;rw [show cW S ⟨tk,3⟩=_ from jf AR]<;>exact⟨rfl,rfl⟩)
 ·replace hkt:(obj S.O tk).kind=1:=hkt
  replace hop:0<=(obj S.O tk).opens/\(obj S.O tk).opens<=1048576:=hop
  refine af.region (gK 2 [] [] ?_)
  refine NS (gK 5 [(12,vP t),(13,.iface 162 (vP (L.b tk)))] [(3,a_ 0 f)] ?_)
  refine gL [1] (yL t S.X.cH S.aD (bI L S.us) (ez L ⟨tk,1⟩) (by rw [qD];exact AR)) ?_
  rintro _ _ ⟨rfl,rfl⟩
  refine gK 5 [(6,vI 0),(7,vI 130)] [] ?_
  refine NN (af.seq (SR (gK 2 [(18,.bool false)] [] ?_)))
  refine NN (CF (af.skip (NX (SR (gK 4 [(4,vI 0),(5,vI 130)] [] ?_)))))
  refine NN (af.ret ?_)
  exact RT (.tuple #[vI 0,vI 130]) [1,0,2,3] (by skip;rw [show cW S ⟨tk,1⟩=_ from jT (by omega)]<;>exact⟨rfl,rfl⟩)
 ·replace hkt:(obj S.O tk).kind=2:=hkt
  replace hop:0<=(obj S.O tk).opens/\(obj S.O tk).opens<=1048576:=hop
  refine af.region (gK 2 [] [] ?_)
  refine NS (gK 5 [(12,vP t),(13,.iface 169 (vP (L.b tk)))] [(3,a_ 0 f)] ?_)
  refine gL [1] (yL t S.X.cH S.aD (bI L S.us) (ez L ⟨tk,2⟩) (by rw [qD];exact AR)) ?_
  rintro _ _ ⟨rfl,rfl⟩
  refine gK 5 [(6,vI 0),(7,vI 130)] [] ?_
  refine NN (af.seq (SR (gK 2 [(18,.bool false)] [] ?_)))
  refine NN (CF (af.skip (NX (SR (gK 4 [(4,vI 0),(5,vI 130)] [] ?_)))))
  refine NN (af.ret ?_)
  exact RT (.tuple #[vI 0,vI 130]) [1,0,2,3] (by skip;rw [show cW S ⟨tk,2⟩=_ from jT (by omega)]<;>exact⟨rfl,rfl⟩)
 replace hkt:(obj S.O tk).kind=3:=hkt
 replace hop:0<=(obj S.O tk).opens/\(obj S.O tk).opens<=1048576:=hop
 refine af.region (gK 2 [] [] ?_)
 refine NS (gK 5 [(12,vP t),(13,.iface 166 (vP (L.b tk)))] [(3,a_ 0 f)] ?_)
 refine gL [1] (yL t S.X.cH S.aD (bI L S.us) (ez L ⟨tk,3⟩) (by rw [qD];exact AR)) ?_
 rintro _ _ ⟨rfl,rfl⟩
 refine gK 5 [(6,vI 0),(7,vI 130)] [] ?_
 refine NN (af.seq (SR (gK 2 [(18,.bool false)] [] ?_)))
 refine NN (CF (af.skip (NX (SR (gK 4 [(4,vI 0),(5,vI 130)] [] ?_)))))
 refine NN (af.ret ?_)
 exact RT (.tuple #[vI 0,vI 130]) [1,0,2,3] (by skip;rw [show cW S ⟨tk,3⟩=_ from jT (by omega)]<;>exact⟨rfl,rfl⟩)
theorem uJ {β:Bs} (S:aI) (L:HL) (f m t:Nat) (hI:Inv S) (h:Int) (hw:(Lit.int .i64 h).wf=true) (name:ByteArray) (hsz:name.size<=1048576) (need:Int) :
    Spec Tryz.prog β 189 #[vP f,vI (h),.string name,vI (need)] [pF f m t S.X,pT t S.X.cH S.aD L S.us,pO S.O L] (fun v l=>v=Xs L (dJ S.O S.us h name need)/\l=[pF f m t S.X,pT t S.X.cH S.aD L S.us,pO S.O L]):=by
 refine Spec.enter Tryz.func189 rfl Tryz.ntmps189 (Nat.le_of_ble_eq_true rfl) (fun R=>?_)
 refine af.seq ?_
 rcases hI.hand h with iJ|⟨tk,iJ,hlv⟩|⟨tk,iJ,hlv⟩
 ·refine af.region (gK 2 [] [] ?_)
  refine NS (gK 5 [(18,vP t),(19,vI (h))] [(3,a_ 0 f)] ?_)
  refine gL [1] (yK t S.X.cH S.aD (bI L S.us) h hw (wU iJ)) ?_
  rintro _ _ ⟨rfl,rfl⟩
  refine gK 5 [(10,.nilIface),(11,vI 131)] [] ?_
  refine NN (af.seq (SR (gK 2 [(24,.bool true)] [] ?_)))
  refine NN (CT (SR (gK 3 [(8,.pointer none),(9,vI 131)] [] ?_)))
  refine NN (af.ret (aj.aq ?_))
  exact RT (.tuple #[.pointer none,vI 131]) [1,0,2,3] (⟨by rw [show dJ S.O S.us h name need=.error 131 by unfold dJ;rw [iJ]];rfl,rfl⟩)
 ·have hkt:(obj S.O tk).kind=1:=hI.kind hlv
  refine af.region (gK 2 [] [] ?_)
  refine NS (gK 5 [(18,vP t),(19,vI (h))] [(3,a_ 0 f)] ?_)
  refine gL [1] (tO t S.X.cH S.aD (bI L S.us) h hw (ez L ⟨tk,1⟩) (qH iJ)) ?_
  rintro _ _ ⟨rfl,rfl⟩
  refine gK 5 [(10,.iface 162 (vP (L.b tk))),(11,vI 0)] [] ?_
  refine NN (af.seq (SR (gK 2 [(24,.bool false)] [] ?_)))
  refine NN (CF (af.skip (NX (SR (gK 7 [(12,.pointer none),(13,.bool false)] [] ?_)))))
  refine NN (af.seq (af.block (SR ?_)))
  refine gK 3 [(31,.bool true)] [] ?_
  refine NN (CT (SR (gK 2 [(8,.pointer none),(9,vI 173)] [] ?_)))
  refine NN (af.ret (aj.aL (aj.aq ?_)))
  exact RT (.tuple #[.pointer none,vI 173]) [1,0,2,3] (⟨by rw [show dJ S.O S.us h name need=.error 173 by unfold dJ;rw [iJ];exact if_neg (by simp)];rfl,rfl⟩)
 have hkt:(obj S.O tk).kind=2:=hI.kind hlv
 refine af.region (gK 2 [] [] ?_)
 refine NS (gK 5 [(18,vP t),(19,vI (h))] [(3,a_ 0 f)] ?_)
 refine gL [1] (tO t S.X.cH S.aD (bI L S.us) h hw (ez L ⟨tk,2⟩) (qH iJ)) ?_
 rintro _ _ ⟨rfl,rfl⟩
 refine gK 5 [(10,.iface 169 (vP (L.b tk))),(11,vI 0)] [] ?_
 refine NN (af.seq (SR (gK 2 [(24,.bool false)] [] ?_)))
 refine NN (CF (af.skip (NX (SR (gK 7 [(12,vP (L.b tk)),(13,.bool true)] [] ?_)))))
 refine NN (af.seq (af.block (SR ?_)))
 refine gK 3 [(31,.bool false)] [] ?_
 refine NN (CF (SR (gK 6 [(34,.bool (obj S.O tk).gone)] [(4,v_ 2 (rQ L hkt))] ?_)))
 refine NN (af.cond (b:=(obj S.O tk).gone) (fun _=>by kernel_rfl) (fun AB=>?_) (fun AB=>?_))
 ·refine SR (gK 2 [(8,.pointer none),(9,vI 170)] [] ?_)
  refine NN (af.ret (aj.aL (aj.aq ?_)))
  exact RT (.tuple #[.pointer none,vI 170]) [1,0,2,3] (⟨by rw [show dJ S.O S.us h name need=.error 170 by unfold dJ;rw [iJ];exact (if_pos rfl).trans (if_pos AB)];rfl,rfl⟩)
 refine SR (gK 1 [(41,.string name)] [] ?_)
 refine gL [] (tL name hsz) ?_
 rintro _ _ ⟨rfl,rfl⟩
 refine gK 2 [(40,.bool (!(decide (bF name))))] [] ?_
 refine NN (af.gT (p:=bF name) (fun _=>by kernel_rfl) (fun E6=>?_) (fun E6=>?_))
 ·refine SR (gK 2 [(8,.pointer none),(9,vI 95)] [] ?_)
  refine NN (af.ret (aj.aL (aj.aq ?_)))
  exact RT (.tuple #[.pointer none,vI 95]) [1,0,2,3] (⟨by rw [show dJ S.O S.us h name need=.error 95 by unfold dJ;rw [iJ];exact (if_pos rfl).trans ((if_neg (by rw [AB];decide)).trans (if_neg E6))];rfl,rfl⟩)
 refine SR (gK 10 [(44,.bool (!(decide ((bits BinOp.and .i64 ((obj S.O tk).mode) need:Int)=(need:Int)))))] [(4,v_ 2 (tW L hkt))] ?_)
 refine NN (af.gT (p:=(bits BinOp.and .i64 ((obj S.O tk).mode) need:Int)=(need:Int)) (fun _=>by kernel_rfl) (fun Mg=>?_) (fun Mg=>?_))
 ·refine SR (gK 2 [(8,.pointer none),(9,vI 175)] [] ?_)
  refine NN (af.ret (aj.aL (aj.aq ?_)))
  exact RT (.tuple #[.pointer none,vI 175]) [1,0,2,3] (⟨by rw [show dJ S.O S.us h name need=.error 175 by unfold dJ;rw [iJ];exact (if_pos rfl).trans ((if_neg (by rw [AB];decide)).trans ((if_pos E6).trans (if_neg Mg)))];rfl,rfl⟩)
 refine af.skip (aj.aP (NX (SR ?_)))
 refine gK 3 [(8,vP (L.b tk)),(9,vI 0)] [] ?_
 refine NN (af.ret ?_)
 exact RT (.tuple #[vP (L.b tk),vI 0]) [1,0,2,3] (⟨by rw [show dJ S.O S.us h name need=.ok tk by unfold dJ;rw [iJ];exact (if_pos rfl).trans ((if_neg (by rw [AB];decide)).trans ((if_pos E6).trans (if_pos Mg)))];rfl,rfl⟩)
theorem Sj {β:Bs} (X:FM) (f m t:Nat) (hX:0<=X.ah/\X.ah<=1048576/\-1125899906842624<=X.used/\X.used<=1125899906842624/\0<=X.last/\X.last<=1125899906842624) (O:bW) (L:HL) (d:Nat) (hkd:(obj O d).kind=2) (name:ByteArray) (hsz:name.size<=1048576) (hno:aT name (obj O d).ah=none) (hel:(obj O d).ah.length<=1048576) (idx:Used Th) (hil:idx.length<=1048576) (th:Th) (hkt:(obj O th.k).kind=th.kind) (h3:th.kind=1\/th.kind=2\/th.kind=3) (hb:0<=(obj O th.k).links/\(obj O th.k).links<=1048576) (hni:aE.get idx (obj O th.k).id=none) (hw:(Lit.int .i64 (obj O th.k).id).wf=true) :
    Spec Tryz.prog β 193 #[vP f,vP (L.b d),.string name,(ez L th)] [pF f m t X,pI m L idx,pO O L,pE O L] (fun v l=>v=.tuple #[]/\l=[pF f m t { X with ah:=X.ah+1 },pI m L (ins (obj O th.k).id th idx),pO (cO X O d name th) L,pE (cO X O d name th) L]):=by
 refine Spec.enter Tryz.func193 rfl Tryz.ntmps193 (Nat.le_of_ble_eq_true rfl) (fun R=>?_)
 refine af.seq ?_
 obtain⟨tk,kd⟩:=th;simp only at hkt h3;rcases h3 with rfl|rfl|rfl
 ·replace hkt:(obj O tk).kind=1:=hkt
  replace hni:aE.get idx (obj O tk).id=none:=hni
  replace hw:(Lit.int .i64 (obj O tk).id).wf=true:=hw
  refine af.cA (S:=(xY f m t X L idx O R)) [0,1,2,3,4,9,5,6,7,8,10] 6 [0,1,2,3,4] (by kernel_rfl) (by kernel_rfl) rfl (by kernel_rfl) ?_
  refine gR 0 [5,6,7,8,10] (Ht f L d name++[(3,.iface 162 (vP (L.b tk))),(11,.map (some m)),(12,.iface 162 (vP (L.b tk))),(17,.iface 162 (vP (L.b tk)))]) [0,1,2,3,4,9] [(3,a_ 0 f)] ?_
  refine mL [0,1,2,3,4] [] (dN (L.b tk)) ?_ (by rintro _ _ ⟨rfl,rfl⟩;rfl)
  rintro _ _ ⟨rfl,rfl⟩
  refine aS.cut (ι:=Unit) (fr':=fun (_:Unit)=>(Da f L d name++[(3,.iface 162 (vP (L.b tk))),(11,.map (some m)),(14,vP (L.b tk)),(17,.iface 162 (vP (L.b tk)))])) (hp':=fun (_:Unit)=>(xY f m t X L idx O R)) [0,1,2,3,4] rfl rfl ?_ rfl (fun _=>by kernel_rfl) ?_
  ·refine gK 1 [(14,vP (L.b tk))] [] ?_
   refine NL ?_
   exact MD () [0,1,2,3,11,14,17] [0,1,2,3,4]
  rintro _
  refine aS.cut (ι:=Unit) (fr':=fun (_:Unit)=>(Da f L d name++[(3,.iface 162 (vP (L.b tk))),(11,.map (some m)),(15,vP (L.b tk)),(17,.iface 162 (vP (L.b tk)))])) (hp':=fun (_:Unit)=>(xY f m t X L idx O R)) [0,1,2,3,4] rfl rfl ?_ rfl (fun _=>by kernel_rfl) ?_
  ·refine gK 1 [(15,vP (L.b tk))] [] ?_
   refine NL ?_
   exact MD () [0,1,2,3,11,15,17] [0,1,2,3,4]
  rintro _
  refine aS.cut (ι:=Unit) (fr':=fun (_:Unit)=>(Da f L d name++[(3,.iface 162 (vP (L.b tk))),(11,.map (some m)),(16,vI ((obj O tk).id)),(17,.iface 162 (vP (L.b tk)))])) (hp':=fun (_:Unit)=>(xY f m t X L idx O R)) [0,1,2,3,4] rfl rfl ?_ rfl (fun _=>by kernel_rfl) ?_
  ·refine gK 1 [(16,vI ((obj O tk).id))] [(0,v_ 2 (su L hkt))] ?_
   refine NL ?_
   exact MD () [0,1,2,3,11,16,17] [0,1,2,3,4]
  rintro _
  refine aS.last rfl rfl ?_
  refine ak.kH 1 (d:=none) (t:=151) (K:=3) (E:=156) (b:=m) (n:=idx.length) (f:=(bE (bI L idx))) (x:=(.tmp 11)) (ix:=(.tmp 16)) (y:=(.tmp 17)) (key:=.int .i64 ((obj O tk).id)) (u:=.iface 162 (vP (L.b tk))) (kl:=(.int .i64 (obj O tk).id)) (n':=(idx.length+1)) (f':=(bE (bI L (ins (obj O tk).id ⟨tk,1⟩ idx)))) (fun _=>by kernel_rfl) (by kernel_rfl) (fun _=>by kernel_rfl) (fun _=>by kernel_rfl) (fun _=>by kernel_rfl) dG Tryz.underlying151 (by unfold maxLen;omega) (iK hw) (by rw [fQ,hni];rfl) (tq (L:=L) (t:=⟨tk,1⟩) hni) ?_
  refine NL (aj.np (NX (af.region ?_)))
  refine gK 4 (Uk f L d name++[(21,.iface 162 (vP (L.b tk)))]) [] ?_
  refine gL [0,2,3] (jW X f m t hX O L d hkd name hsz hno hel ⟨tk,1⟩ hkt (by simp) hb) ?_
  rintro _ _ ⟨rfl,rfl⟩
  refine NL (aj.eZ [(3,.abs (aN Tryz.prog 3 m (bE (bI L (ins (obj O tk).id ⟨tk,1⟩ idx))) ((ins (obj O tk).id ⟨tk,1⟩ idx).length)))] (fun w hS=>by rw [show (ins (obj O tk).id ⟨tk,1⟩ idx).length=idx.length+1 from iw _ _ _];exact hS) ?_)
  exact RF (.tuple #[]) [0,3,1,2,4] (⟨rfl,rfl⟩)
 ·replace hkt:(obj O tk).kind=2:=hkt
  replace hni:aE.get idx (obj O tk).id=none:=hni
  replace hw:(Lit.int .i64 (obj O tk).id).wf=true:=hw
  refine af.cA (S:=(xY f m t X L idx O R)) [0,1,2,3,4,9,5,6,7,8,10] 6 [0,1,2,3,4] (by kernel_rfl) (by kernel_rfl) rfl (by kernel_rfl) ?_
  refine gR 0 [5,6,7,8,10] (Ht f L d name++[(3,.iface 169 (vP (L.b tk))),(11,.map (some m)),(12,.iface 169 (vP (L.b tk))),(17,.iface 169 (vP (L.b tk)))]) [0,1,2,3,4,9] [(3,a_ 0 f)] ?_
  refine mL [0,1,2,3,4] [] (dN (L.b tk)) ?_ (by rintro _ _ ⟨rfl,rfl⟩;rfl)
  rintro _ _ ⟨rfl,rfl⟩
  refine aS.cut (ι:=Unit) (fr':=fun (_:Unit)=>(Da f L d name++[(3,.iface 169 (vP (L.b tk))),(11,.map (some m)),(14,vP (L.b tk)),(17,.iface 169 (vP (L.b tk)))])) (hp':=fun (_:Unit)=>(xY f m t X L idx O R)) [0,1,2,3,4] rfl rfl ?_ rfl (fun _=>by kernel_rfl) ?_
  ·refine gK 1 [(14,vP (L.b tk))] [] ?_
   refine NL ?_
   exact MD () [0,1,2,3,11,14,17] [0,1,2,3,4]
  rintro _
  refine aS.cut (ι:=Unit) (fr':=fun (_:Unit)=>(Da f L d name++[(3,.iface 169 (vP (L.b tk))),(11,.map (some m)),(15,vP (L.b tk)),(17,.iface 169 (vP (L.b tk)))])) (hp':=fun (_:Unit)=>(xY f m t X L idx O R)) [0,1,2,3,4] rfl rfl ?_ rfl (fun _=>by kernel_rfl) ?_
  ·refine gK 1 [(15,vP (L.b tk))] [] ?_
   refine NL ?_
   exact MD () [0,1,2,3,11,15,17] [0,1,2,3,4]
  rintro _
  refine aS.cut (ι:=Unit) (fr':=fun (_:Unit)=>(Da f L d name++[(3,.iface 169 (vP (L.b tk))),(11,.map (some m)),(16,vI ((obj O tk).id)),(17,.iface 169 (vP (L.b tk)))])) (hp':=fun (_:Unit)=>(xY f m t X L idx O R)) [0,1,2,3,4] rfl rfl ?_ rfl (fun _=>by kernel_rfl) ?_
  ·refine gK 1 [(16,vI ((obj O tk).id))] [(0,v_ 2 (su L hkt))] ?_
   refine NL ?_
   exact MD () [0,1,2,3,11,16,17] [0,1,2,3,4]
  rintro _
  refine aS.last rfl rfl ?_
  refine ak.kH 1 (d:=none) (t:=151) (K:=3) (E:=156) (b:=m) (n:=idx.length) (f:=(bE (bI L idx))) (x:=(.tmp 11)) (ix:=(.tmp 16)) (y:=(.tmp 17)) (key:=.int .i64 ((obj O tk).id)) (u:=.iface 169 (vP (L.b tk))) (kl:=(.int .i64 (obj O tk).id)) (n':=(idx.length+1)) (f':=(bE (bI L (ins (obj O tk).id ⟨tk,2⟩ idx)))) (fun _=>by kernel_rfl) (by kernel_rfl) (fun _=>by kernel_rfl) (fun _=>by kernel_rfl) (fun _=>by kernel_rfl) dG Tryz.underlying151 (by unfold maxLen;omega) (iK hw) (by rw [fQ,hni];rfl) (tq (L:=L) (t:=⟨tk,2⟩) hni) ?_
  refine NL (aj.np (NX (af.region ?_)))
  refine gK 4 (Uk f L d name++[(21,.iface 169 (vP (L.b tk)))]) [] ?_
  refine gL [0,2,3] (jW X f m t hX O L d hkd name hsz hno hel ⟨tk,2⟩ hkt (by simp) hb) ?_
  rintro _ _ ⟨rfl,rfl⟩
  refine NL (aj.eZ [(3,.abs (aN Tryz.prog 3 m (bE (bI L (ins (obj O tk).id ⟨tk,2⟩ idx))) ((ins (obj O tk).id ⟨tk,2⟩ idx).length)))] (fun w hS=>by rw [show (ins (obj O tk).id ⟨tk,2⟩ idx).length=idx.length+1 from iw _ _ _];exact hS) ?_)
  exact RF (.tuple #[]) [0,3,1,2,4] (⟨rfl,rfl⟩)
 replace hkt:(obj O tk).kind=3:=hkt
 replace hni:aE.get idx (obj O tk).id=none:=hni
 replace hw:(Lit.int .i64 (obj O tk).id).wf=true:=hw
 refine af.cA (S:=(xY f m t X L idx O R)) [0,1,2,3,4,9,5,6,7,8,10] 6 [0,1,2,3,4] (by kernel_rfl) (by kernel_rfl) rfl (by kernel_rfl) ?_
 refine gR 0 [5,6,7,8,10] (Ht f L d name++[(3,.iface 166 (vP (L.b tk))),(11,.map (some m)),(12,.iface 166 (vP (L.b tk))),(17,.iface 166 (vP (L.b tk)))]) [0,1,2,3,4,9] [(3,a_ 0 f)] ?_
 refine mL [0,1,2,3,4] [] (dN (L.b tk)) ?_ (by rintro _ _ ⟨rfl,rfl⟩;rfl)
 rintro _ _ ⟨rfl,rfl⟩
 refine aS.cut (ι:=Unit) (fr':=fun (_:Unit)=>(Da f L d name++[(3,.iface 166 (vP (L.b tk))),(11,.map (some m)),(14,vP (L.b tk)),(17,.iface 166 (vP (L.b tk)))])) (hp':=fun (_:Unit)=>(xY f m t X L idx O R)) [0,1,2,3,4] rfl rfl ?_ rfl (fun _=>by kernel_rfl) ?_
 ·refine gK 1 [(14,vP (L.b tk))] [] ?_
  refine NL ?_
  exact MD () [0,1,2,3,11,14,17] [0,1,2,3,4]
 rintro _
 refine aS.cut (ι:=Unit) (fr':=fun (_:Unit)=>(Da f L d name++[(3,.iface 166 (vP (L.b tk))),(11,.map (some m)),(15,vP (L.b tk)),(17,.iface 166 (vP (L.b tk)))])) (hp':=fun (_:Unit)=>(xY f m t X L idx O R)) [0,1,2,3,4] rfl rfl ?_ rfl (fun _=>by kernel_rfl) ?_
 ·refine gK 1 [(15,vP (L.b tk))] [] ?_
  refine NL ?_
  exact MD () [0,1,2,3,11,15,17] [0,1,2,3,4]
 rintro _
 refine aS.cut (ι:=Unit) (fr':=fun (_:Unit)=>(Da f L d name++[(3,.iface 166 (vP (L.b tk))),(11,.map (some m)),(16,vI ((obj O tk).id)),(17,.iface 166 (vP (L.b tk)))])) (hp':=fun (_:Unit)=>(xY f m t X L idx O R)) [0,1,2,3,4] rfl rfl ?_ rfl (fun _=>by kernel_rfl) ?_
 ·refine gK 1 [(16,vI ((obj O tk).id))] [(0,v_ 2 (su L hkt))] ?_
  refine NL ?_
  exact MD () [0,1,2,3,11,16,17] [0,1,2,3,4]
 rintro _
 refine aS.last rfl rfl ?_
 refine ak.kH 1 (d:=none) (t:=151) (K:=3) (E:=156) (b:=m) (n:=idx.length) (f:=(bE (bI L idx))) (x:=(.tmp 11)) (ix:=(.tmp 16)) (y:=(.tmp 17)) (key:=.int .i64 ((obj O tk).id)) (u:=.iface 166 (vP (L.b tk))) (kl:=(.int .i64 (obj O tk).id)) (n':=(idx.length+1)) (f':=(bE (bI L (ins (obj O tk).id ⟨tk,3⟩ idx)))) (fun _=>by kernel_rfl) (by kernel_rfl) (fun _=>by kernel_rfl) (fun _=>by kernel_rfl) (fun _=>by kernel_rfl) dG Tryz.underlying151 (by unfold maxLen;omega) (iK hw) (by rw [fQ,hni];rfl) (tq (L:=L) (t:=⟨tk,3⟩) hni) ?_
 refine NL (aj.np (NX (af.region ?_)))
 refine gK 4 (Uk f L d name++[(21,.iface 166 (vP (L.b tk)))]) [] ?_
 refine gL [0,2,3] (jW X f m t hX O L d hkd name hsz hno hel ⟨tk,3⟩ hkt (by simp) hb) ?_
 rintro _ _ ⟨rfl,rfl⟩
 refine NL (aj.eZ [(3,.abs (aN Tryz.prog 3 m (bE (bI L (ins (obj O tk).id ⟨tk,3⟩ idx))) ((ins (obj O tk).id ⟨tk,3⟩ idx).length)))] (fun w hS=>by rw [show (ins (obj O tk).id ⟨tk,3⟩ idx).length=idx.length+1 from iw _ _ _];exact hS) ?_)
 exact RF (.tuple #[]) [0,3,1,2,4] (⟨rfl,rfl⟩)
end
section
open Go.RowKit Go.Maps bC aE
attribute [local irreducible] ak aW af aj
theorem xk {β:Bs} (S:aI) (L:HL) (f m t:Nat) (hI:Inv0 S) (d:Nat) (hd:Live S.idx ⟨d,2⟩) (name:ByteArray) (hsz:name.size<=1048576) (hno:aT name (obj S.O d).ah=none) (o:aY) (hid:o.id=S.X.last+1) (hk3:o.kind=1\/o.kind=2\/o.kind=3) (hl0:o.links=0) (hlast:S.X.last < 1099511627776) :
    Spec Tryz.prog β 193 #[vP f,vP (L.b d),.string name,ez L ⟨(bG S.X),o.kind⟩] [pF f m t { S.X with last:=S.X.last+1 },pI m L S.idx,pO (aO S.O (bG S.X) (fun _=>o)) L,pE (aO S.O (bG S.X) (fun _=>o)) L] (fun v l=>v=.tuple #[]/\l=[pF f m t ((fe S d name o).X),pI m L ((fe S d name o).idx),pO ((fe S d name o).O) L,pE ((fe S d name o).O) L]):=by
  have hX:=hI.hX
  have hne:d≠(bG S.X):=hI.yN hd
  have hkd:(obj S.O d).kind=2:=hI.kind hd
  have hel:(obj S.O d).ah.length<=8192:=hI.iL hd
  have hlen:=hI.len
  have e1:obj (aO S.O (bG S.X) (fun _=>o)) (bG S.X)=o:=cD
  have e2:obj (aO S.O (bG S.X) (fun _=>o)) d=obj S.O d:=bT hne
  have hnk:=pq hI
  have h:=Sj (β:=β) { S.X with last:=S.X.last+1 } f m t (by simp only;omega) (aO S.O (bG S.X) (fun _=>o)) L d (by rw [e2];exact hkd) name hsz (by rw [e2];exact hno) (by rw [e2];omega) S.idx (by omega) ⟨(bG S.X),o.kind⟩ (by rw [e1]) hk3 (by rw [e1,hl0];decide) (by
    rw [e1,hid]
    cases e:aE.get S.idx (S.X.last+1) with
    | none=>rfl
    | some u=>have:=(hI.idx _ u e).2.2;omega) (by rw [e1,hid];exact WalkArith.wf_i64 (by have:=hI.last;omega))
  rw [e1,hid] at h
  exact h
theorem E7 {β:Bs} (S:aI) (L:HL) (f m t:Nat) (hI:Inv S) (d:Nat) (hd:Live S.idx ⟨d,2⟩) (name:ByteArray) (hsz:name.size<=1048576) (mode:Int) :
    Spec Tryz.prog β 190 #[vP f,vP (L.b d),.string name,vI (mode)] (pA f m t L S) (fun v l=>∃ L2,v=vI (fX S d name mode).1/\l=(pA f m t L2 ((fX S d name mode).2))):=by
 have hX:=hI.hX
 have hel:(obj S.O d).ah.length<=8192:=hI.iL hd
 have hkd:(obj S.O d).kind=2:=hI.kind hd
 refine Spec.enter Tryz.func190 rfl Tryz.ntmps190 (Nat.le_of_ble_eq_true rfl) (fun R=>?_)
 refine SR (gK 1 [] [] ?_)
 refine NS (gK 3 [(10,vP f),(11,vP (L.b d)),(12,.string name)] [] ?_)
 refine gL [0,1,5,3] (zi S L f m t hI d hd name hsz) ?_
 rintro _ _ ⟨rfl,rfl⟩
 refine gK 1 [(9,vI ((cR S.X S.O S.idx d name)))] [] ?_
 refine NN (af.seq (SR (gK 2 [(15,.bool (decide (((cR S.X S.O S.idx d name):Int)=(0:Int))))] [] ?_)))
 refine NN (af.aV (p:=((cR S.X S.O S.idx d name):Int)=(0:Int)) (fun _=>by kernel_rfl) (fun h0=>?_) (fun h0=>?_))
 ·have hno:=rK h0
  refine af.region (gK 5 [(16,vP f),(17,vP (L.b d)),(18,.string name),(19,vP f),(20,vI (mode))] [] ?_)
  refine gL [0] (za S.X f m t hX mode) ?_
  rintro _ _ ⟨rfl,rfl⟩
  refine ak.kV (d:=(some 22)) (t:=174) (fun _=>by kernel_rfl) Tryz.prog rfl 9 (fun m1=>?_)
  refine gN 3 (fun b2=>[(25,.iface 169 (vP b2))]) (fun _=>[]) (fun _=>[]) (fun b2=>.blk b2 [vI (S.X.last+1),vI (mode),vI 0,vI 0,vI (S.X.cS),vI (S.X.cZ),vI 0,vI 0,.bool false,.map (some m1),.pointer none] 176) (fun b2=>?_)
  obtain⟨L2,hL2⟩:∃ L2:HL,L2=L.put (bG S.X) b2 m1 none 0:=⟨_,rfl⟩
  have hfr:=hI.toInv0.fresh
  refine ak.mem (fun w hS=>hS.zZ hL2 hfr (o:=(bg S.X 2 mode)) (i:=3) (j:=8) (ix:=[0,1,2,4,5,6,7]) rfl rfl (by kernel_rfl) rfl (by show (2:Int)≠0;decide) ((oy (L:=L2) (k:=(bG S.X)) (o:=(bg S.X 2 mode)) rfl).trans (by rw [GQ hL2];rfl)) rfl) ?_
  refine ak.mem (fun w hS=>hS.QW hL2 hfr (o:=(bg S.X 2 mode)) (i:=3) (j:=7) (ix:=[0,1,2,4,5,6]) rfl rfl (by kernel_rfl) rfl rfl rfl) ?_
  refine ak.eZ [(5,pD (aO S.O (bG S.X) (fun _=>(bg S.X 2 mode))) L2)] (fun w hS=>hS.CN hL2 (o:=(bg S.X 2 mode)) (i:=5) rfl (by show (2:Int)≠1;decide)) ?_
  refine ak.eZ [(3,.abs (aN Tryz.prog 3 m (bE (bI L2 S.idx)) S.idx.length)),(4,.abs (dV 212 t S.X.cH S.aD (bI L2 S.us)))] (fun w hS=>by rw [kD hL2 hfr.idx,kD hL2 hfr.us];exact hS) ?_
  refine gL (f:=193) (args:=#[vP f,vP (L.b d),.string name,.iface 169 (vP b2)]) (pre:=[pF f m t { S.X with last:=S.X.last+1 },pI m L2 S.idx,pO (aO S.O (bG S.X) (fun _=>(bg S.X 2 mode))) L2,pE (aO S.O (bG S.X) (fun _=>(bg S.X 2 mode))) L2]) [2,3,1,0] ((by have h:=xk (β:=β) S L2 f m t hI.toInv0 d hd name hsz hno (bg S.X 2 mode) rfl (by simp [bg]) rfl (vo h0);rw [zY hL2 (hI.yN hd),tu hL2] at h;exact h)) ?_
  rintro _ _ ⟨rfl,rfl⟩
  refine NS (ak.eZ [(5,.abs (aH (ct ((fe S d name (bg S.X 2 mode)).O) L2)))] (fun w hS=>by rw [show ct ((fe S d name (bg S.X 2 mode)).O) L2=ct (aO S.O (bG S.X) (fun _=>(bg S.X 2 mode))) L2 from jU];exact hS) ?_)
  refine gK 2 [(8,vI ((cR S.X S.O S.idx d name)))] [] ?_
  refine NN (af.ret ?_)
  exact RT (vI ((cR S.X S.O S.idx d name))) [0,1,4,2,5,3,6] (⟨L2,by rw [show fX S d name mode=_ from if_pos h0];refine⟨congrArg _ h0,?_⟩;rfl⟩)
 refine af.skip (NX (SR (gK 2 [(8,vI ((cR S.X S.O S.idx d name)))] [] ?_)))
 refine NN (af.ret ?_)
 exact RT (vI ((cR S.X S.O S.idx d name))) [0,1,4,3,5,2,6] (⟨L,by rw [show fX S d name mode=_ from if_neg h0]<;>exact⟨rfl,rfl⟩⟩)
theorem Jm {β:Bs} (S:aI) (L:HL) (f m t:Nat) (hI:Inv S) (d:Nat) (hd:Live S.idx ⟨d,2⟩) (name:ByteArray) (hsz:name.size<=1048576) (text:ByteArray) (Rl:text.size<=1048576) :
    Spec Tryz.prog β 194 #[vP f,vP (L.b d),.string name,.string text] (pA f m t L S) (fun v l=>∃ L2,v=vI (fT S d name text).1/\l=(pA f m t L2 ((fT S d name text).2))):=by
 have hX:=hI.hX
 have hel:(obj S.O d).ah.length<=8192:=hI.iL hd
 have hkd:(obj S.O d).kind=2:=hI.kind hd
 refine Spec.enter Tryz.func194 rfl Tryz.ntmps194 (Nat.le_of_ble_eq_true rfl) (fun R=>?_)
 refine SR (gK 1 [] [] ?_)
 refine NS (gK 1 [(10,.string text)] [] ?_)
 refine gL [] (Si text Rl) ?_
 rintro _ _ ⟨rfl,rfl⟩
 refine gK 1 [(9,vI ((nS text)))] [] ?_
 refine NN (af.seq (SR (gK 2 [(13,.bool (decide (((nS text):Int)=(0:Int))))] [] ?_)))
 refine NN (af.aV (p:=((nS text):Int)=(0:Int)) (fun _=>by kernel_rfl) (fun hb=>?_) (fun hb=>?_))
 ·refine af.region (gK 3 [(14,vP f),(15,vP (L.b d)),(16,.string name)] [] ?_)
  refine gL [0,1,5,3] (zi S L f m t hI d hd name hsz) ?_
  rintro _ _ ⟨rfl,rfl⟩
  refine gK 1 [(9,vI ((cR S.X S.O S.idx d name)))] [] ?_
  refine NN (af.seq (SR (gK 2 [(19,.bool (decide (((cR S.X S.O S.idx d name):Int)=(0:Int))))] [] ?_)))
  refine NN (af.aV (p:=((cR S.X S.O S.idx d name):Int)=(0:Int)) (fun _=>by kernel_rfl) (fun h0=>?_) (fun h0=>?_))
  ·have hno:=rK h0
   refine af.region (gK 4 [(20,vP f),(21,vP (L.b d)),(22,.string name),(23,vP f)] [] ?_)
   refine gL [0] (za S.X f m t hX 511) ?_
   rintro _ _ ⟨rfl,rfl⟩
   refine gN 4 (fun b3=>[(28,.iface 166 (vP b3))]) (fun _=>[]) (fun _=>[]) (fun b3=>.blk b3 [vI (S.X.last+1),vI (511),vI 0,vI 0,vI (S.X.cS),vI (S.X.cZ),vI 0,vI 0,.bool false,.string text] 168) (fun b3=>?_)
   obtain⟨L2,hL2⟩:∃ L2:HL,L2=L.put (bG S.X) b3 0 none 0:=⟨_,rfl⟩
   have hfr:=hI.toInv0.fresh
   refine ak.mem (fun w hS=>hS.zZ hL2 hfr (o:={ bg S.X 3 511 with target:=text }) (i:=3) (j:=7) (ix:=[0,1,2,4,5,6]) rfl rfl (by kernel_rfl) rfl (by show (3:Int)≠0;decide) ((yE (L:=L2) (k:=(bG S.X)) (o:={ bg S.X 3 511 with target:=text }) rfl).trans (by rfl)) rfl) ?_
   refine ak.eZ [(3,pE (aO S.O (bG S.X) (fun _=>{ bg S.X 3 511 with target:=text })) L2)] (fun w hS=>hS.CM hL2 hfr (o:={ bg S.X 3 511 with target:=text }) (i:=3) rfl (by show (3:Int)≠2;decide)) ?_
   refine ak.eZ [(5,pD (aO S.O (bG S.X) (fun _=>{ bg S.X 3 511 with target:=text })) L2)] (fun w hS=>hS.CN hL2 (o:={ bg S.X 3 511 with target:=text }) (i:=5) rfl (by show (3:Int)≠1;decide)) ?_
   refine ak.eZ [(2,.abs (aN Tryz.prog 3 m (bE (bI L2 S.idx)) S.idx.length)),(4,.abs (dV 212 t S.X.cH S.aD (bI L2 S.us)))] (fun w hS=>by rw [kD hL2 hfr.idx,kD hL2 hfr.us];exact hS) ?_
   refine gL (f:=193) (args:=#[vP f,vP (L.b d),.string name,.iface 166 (vP b3)]) (pre:=[pF f m t { S.X with last:=S.X.last+1 },pI m L2 S.idx,pO (aO S.O (bG S.X) (fun _=>{ bg S.X 3 511 with target:=text })) L2,pE (aO S.O (bG S.X) (fun _=>{ bg S.X 3 511 with target:=text })) L2]) [1,2,0,3] ((by have h:=xk (β:=β) S L2 f m t hI.toInv0 d hd name hsz hno { bg S.X 3 511 with target:=text } rfl (by simp [bg]) rfl (vo h0);rw [zY hL2 (hI.yN hd),tu hL2] at h;exact h)) ?_
   rintro _ _ ⟨rfl,rfl⟩
   refine NS (ak.eZ [(5,.abs (aH (ct ((fe S d name { bg S.X 3 511 with target:=text }).O) L2)))] (fun w hS=>by rw [show ct ((fe S d name { bg S.X 3 511 with target:=text }).O) L2=ct (aO S.O (bG S.X) (fun _=>{ bg S.X 3 511 with target:=text })) L2 from jU];exact hS) ?_)
   refine gK 2 [(8,vI ((cR S.X S.O S.idx d name)))] [] ?_
   refine NN (af.ret ?_)
   exact RT (vI ((cR S.X S.O S.idx d name))) [0,1,4,2,5,3,6] (⟨L2,by rw [show fT S d name text=_ from (if_pos hb).trans (if_pos h0)];refine⟨congrArg _ h0,?_⟩;rfl⟩)
  refine af.skip (NX (SR (gK 2 [(8,vI ((cR S.X S.O S.idx d name)))] [] ?_)))
  refine NN (af.ret ?_)
  exact RT (vI ((cR S.X S.O S.idx d name))) [0,1,4,3,5,2,6] (⟨L,by rw [show fT S d name text=_ from (if_pos hb).trans (if_neg h0)]<;>exact⟨rfl,rfl⟩⟩)
 refine af.skip (NX (af.seq (SR (gK 2 [(19,.bool (decide (((nS text):Int)=(0:Int))))] [] ?_))))
 refine NN (af.aV (p:=((nS text):Int)=(0:Int)) (fun _=>by kernel_rfl) (fun h0=>?_) (fun h0=>?_))
 ·exact absurd h0 hb
 refine af.skip (NX (SR (gK 2 [(8,vI ((nS text)))] [] ?_)))
 refine NN (af.ret ?_)
 exact RT (vI ((nS text))) [0,1,2,3,4,5,6] (⟨L,by rw [show fT S d name text=_ from if_neg hb]<;>exact⟨rfl,rfl⟩⟩)
theorem Lj {β:Bs} (S:aI) (L:HL) (f m t:Nat) (hI:Inv S) (d:Nat) (hd:Live S.idx ⟨d,2⟩) (name:ByteArray) (hsz:name.size<=1048576) :
    Spec Tryz.prog β 197 #[vP f,vP (L.b d),.string name] (pA f m t L S) (fun v l=>∃ L2,v=vI (fA S d name).1/\l=(pA f m t L2 ((fA S d name).2))):=by
 have hX:=hI.hX
 have hel:(obj S.O d).ah.length<=8192:=hI.iL hd
 have hkd:(obj S.O d).kind=2:=hI.kind hd
 refine Spec.enter Tryz.func197 rfl Tryz.ntmps197 (Nat.le_of_ble_eq_true rfl) (fun R=>?_)
 refine af.seq ?_
 rcases hI.pZ hd name with hlk|⟨tk,hlk,hlv⟩|⟨tk,hlk,hlv⟩|⟨tk,hlk,hlv⟩
 ·refine af.region (gK 1 [] [] ?_)
  refine NN (af.seq (SR (gK 5 [(10,.map (some (L.m d))),(11,.string name)] [(3,v_ 3 (bP L hkd))] ?_)))
  refine jb 5 hkd hlk ?_
  refine NN (af.block (SR ?_))
  refine gK 1 [(13,.bool true)] [] ?_
  refine NN (CT (SR (gK 1 [(6,vI 170)] [] ?_)))
  refine NN (af.ret (aj.aL (aj.aq ?_)))
  exact RT (vI 170) [0,1,2,3,4,5,6] (⟨L,by rw [show fA S d name=(170,S) by unfold fA;rw [hlk]]<;>exact⟨rfl,rfl⟩⟩)
 ·have hkt:(obj S.O tk).kind=1:=hI.kind hlv
  refine af.region (gK 1 [] [] ?_)
  refine NN (af.seq (SR (gK 5 [(10,.map (some (L.m d))),(11,.string name)] [(3,v_ 3 (bP L hkd))] ?_)))
  refine jb 5 hkd hlk ?_
  refine NN (af.block (SR ?_))
  refine gK 1 [(13,.bool false)] [] ?_
  refine NN (CF (SR (gK 3 [(15,.bool false)] [] ?_)))
  refine NN (CF (af.skip (aj.aP (NX (SR ?_)))))
  refine gK 3 [(17,vP f),(18,vP (L.b d)),(19,.string name)] [] ?_
  refine gL [0,3,5,1] (oM S L f m t hI d hd name hsz ⟨tk,1⟩ hlk) ?_
  rintro _ _ ⟨rfl,rfl⟩
  refine NS (ak.eZ [(5,.abs (aH (ct ((aJ S d name ⟨tk,1⟩).O) L)))] (fun w hS=>by rw [show ct ((aJ S d name ⟨tk,1⟩).O) L=ct S.O L from oJ];exact hS) ?_)
  refine gK 1 [(6,vI 0)] [] ?_
  refine NN (af.ret ?_)
  exact RT (vI 0) [0,3,4,1,5,2,6] (⟨L,by rw [show fA S d name=(0,aJ S d name ⟨tk,1⟩) by unfold fA;rw [hlk];exact if_neg (by simp)]<;>exact⟨rfl,rfl⟩⟩)
 ·have hkt:(obj S.O tk).kind=2:=hI.kind hlv
  refine af.region (gK 1 [] [] ?_)
  refine NN (af.seq (SR (gK 5 [(10,.map (some (L.m d))),(11,.string name)] [(3,v_ 3 (bP L hkd))] ?_)))
  refine jb 5 hkd hlk ?_
  refine NN (af.block (SR ?_))
  refine gK 1 [(13,.bool false)] [] ?_
  refine NN (CF (SR (gK 3 [(15,.bool true)] [] ?_)))
  refine NN (CT (SR (gK 1 [(6,vI 172)] [] ?_)))
  refine NN (af.ret (aj.aL (aj.aq ?_)))
  exact RT (vI 172) [0,1,2,3,4,5,6] (⟨L,by rw [show fA S d name=(172,S) by unfold fA;rw [hlk];exact if_pos rfl]<;>exact⟨rfl,rfl⟩⟩)
 have hkt:(obj S.O tk).kind=3:=hI.kind hlv
 refine af.region (gK 1 [] [] ?_)
 refine NN (af.seq (SR (gK 5 [(10,.map (some (L.m d))),(11,.string name)] [(3,v_ 3 (bP L hkd))] ?_)))
 refine jb 5 hkd hlk ?_
 refine NN (af.block (SR ?_))
 refine gK 1 [(13,.bool false)] [] ?_
 refine NN (CF (SR (gK 3 [(15,.bool false)] [] ?_)))
 refine NN (CF (af.skip (aj.aP (NX (SR ?_)))))
 refine gK 3 [(17,vP f),(18,vP (L.b d)),(19,.string name)] [] ?_
 refine gL [0,3,5,1] (oM S L f m t hI d hd name hsz ⟨tk,3⟩ hlk) ?_
 rintro _ _ ⟨rfl,rfl⟩
 refine NS (ak.eZ [(5,.abs (aH (ct ((aJ S d name ⟨tk,3⟩).O) L)))] (fun w hS=>by rw [show ct ((aJ S d name ⟨tk,3⟩).O) L=ct S.O L from oJ];exact hS) ?_)
 refine gK 1 [(6,vI 0)] [] ?_
 refine NN (af.ret ?_)
 exact RT (vI 0) [0,3,4,1,5,2,6] (⟨L,by rw [show fA S d name=(0,aJ S d name ⟨tk,3⟩) by unfold fA;rw [hlk];exact if_neg (by simp)]<;>exact⟨rfl,rfl⟩⟩)
theorem Np {β:Bs} (S:aI) (L:HL) (f m t:Nat) (hI:Inv S) (d:Nat) (hd:Live S.idx ⟨d,2⟩) (name:ByteArray) (hsz:name.size<=1048576) :
    Spec Tryz.prog β 203 #[vP f,vP (L.b d),.string name] (pA f m t L S) (fun v l=>∃ L2,v=vI (fO S d name).1/\l=(pA f m t L2 ((fO S d name).2))):=by
 have hX:=hI.hX
 have hel:(obj S.O d).ah.length<=8192:=hI.iL hd
 have hkd:(obj S.O d).kind=2:=hI.kind hd
 refine Spec.enter Tryz.func203 rfl Tryz.ntmps203 (Nat.le_of_ble_eq_true rfl) (fun R=>?_)
 refine af.seq ?_
 rcases hI.pZ hd name with hlk|⟨tk,hlk,hlv⟩|⟨tk,hlk,hlv⟩|⟨tk,hlk,hlv⟩
 ·refine af.region (gK 1 [] [] ?_)
  refine NS (gK 5 [(13,.map (some (L.m d))),(14,.string name)] [(3,v_ 3 (bP L hkd))] ?_)
  refine jb 5 hkd hlk ?_
  refine gK 1 [(7,.nilIface)] [] ?_
  refine NN (af.seq (SR (gK 2 [(17,.bool true)] [] ?_)))
  refine NN (CT (SR (gK 1 [(6,vI 170)] [] ?_)))
  refine NN (af.ret (aj.aq ?_))
  exact RT (vI 170) [0,1,2,3,4,5,6] (⟨L,by skip;rw [show fO S d name=(170,S) by unfold fO;rw [hlk]]<;>exact⟨rfl,rfl⟩⟩)
 ·have hkt:(obj S.O tk).kind=1:=hI.kind hlv
  refine af.region (gK 1 [] [] ?_)
  refine NS (gK 5 [(13,.map (some (L.m d))),(14,.string name)] [(3,v_ 3 (bP L hkd))] ?_)
  refine jb 5 hkd hlk ?_
  refine gK 1 [(7,.iface 162 (vP (L.b tk)))] [] ?_
  refine NN (af.seq (SR (gK 2 [(17,.bool false)] [] ?_)))
  refine NN (CF (af.skip (NX (SR (gK 7 [(8,.pointer none),(9,.bool false)] [] ?_)))))
  refine NN (af.seq (SR (gK 2 [(24,.bool true)] [] ?_)))
  refine NN (CT (SR (gK 1 [(6,vI 173)] [] ?_)))
  refine NN (af.ret (aj.aq ?_))
  exact RT (vI 173) [0,1,2,3,4,5,6] (⟨L,by skip;rw [show fO S d name=(173,S) by unfold fO;rw [hlk];exact if_neg (by simp)]<;>exact⟨rfl,rfl⟩⟩)
 ·have hkt:(obj S.O tk).kind=2:=hI.kind hlv
  have ZA:(obj S.O tk).ah.length<=8192:=hI.iL hlv
  refine af.region (gK 1 [] [] ?_)
  refine NS (gK 5 [(13,.map (some (L.m d))),(14,.string name)] [(3,v_ 3 (bP L hkd))] ?_)
  refine jb 5 hkd hlk ?_
  refine gK 1 [(7,.iface 169 (vP (L.b tk)))] [] ?_
  refine NN (af.seq (SR (gK 2 [(17,.bool false)] [] ?_)))
  refine NN (CF (af.skip (NX (SR (gK 7 [(8,vP (L.b tk)),(9,.bool true)] [] ?_)))))
  refine NN (af.seq (SR (gK 2 [(24,.bool false)] [] ?_)))
  refine NN (CF (af.skip (NX (af.seq (SR (gK 4 [(28,.map (some (L.m tk)))] [(3,v_ 3 (bP L hkt))] ?_))))))
  refine Yy 5 hkt ?_
  refine gK 1 [(30,.bool (decide (((((obj S.O tk).ah.length:Nat):Int):Int) > (0:Int))))] [] ?_
  refine NN (af.aV (p:=((((obj S.O tk).ah.length:Nat):Int):Int) > (0:Int)) (fun _=>by kernel_rfl) (fun Hv=>?_) (fun Hv=>?_))
  ·refine SR (gK 1 [(6,vI 178)] [] ?_)
   refine NN (af.ret (aj.aq ?_))
   exact RT (vI 178) [0,1,2,3,4,5,6] (⟨L,by skip;rw [show fO S d name=(178,S) by unfold fO;rw [hlk];exact (if_pos rfl).trans (if_neg (fun e=>by rw [show (obj S.O tk).ah=[] from e] at Hv;simp at Hv))]<;>exact⟨rfl,rfl⟩⟩)
  refine af.skip (NX (SR (gK 3 [(31,vP f),(32,vP (L.b d)),(33,.string name)] [] ?_)))
  refine gL [0,3,5,1] (oM S L f m t hI d hd name hsz ⟨tk,2⟩ hlk) ?_
  rintro _ _ ⟨rfl,rfl⟩
  refine NS (ak.eZ [(5,.abs (aH (ct ((aJ S d name ⟨tk,2⟩).O) L)))] (fun w hS=>by rw [show ct ((aJ S d name ⟨tk,2⟩).O) L=ct S.O L from oJ];exact hS) ?_)
  have y7:(obj (aJ S d name ⟨tk,2⟩).O d).kind=2:=(CK).trans (hkd)
  have Lb:(obj (aJ S d name ⟨tk,2⟩).O tk).kind=2:=(CK).trans (hkt)
  generalize cT:(aJ S d name ⟨tk,2⟩).O=ef at y7 Lb ⊢
  refine gK 3 [(37,.pointer (some ⟨(L.b tk),10,none⟩))] [] ?_
  refine Wu 1 [(2,1),(5,2)] tk (none) Lb (fun eT dL=>?_)
  have Uj:=ku dL y7
  have Lc:=ku dL Lb
  refine NS (gK 1 [(6,vI 0)] [] ?_)
  refine NN (af.ret ?_)
  exact RT (l:=[pF f m t ((aJ S d name ⟨tk,2⟩).X),pI m L ((aJ S d name ⟨tk,2⟩).idx),pT t S.X.cH S.aD L S.us,pO eT L,pD eT L,pE eT L]) (.int .i64 0) [0,3,4,1,5,2,6] (⟨L,by subst dL;subst cT;rw [show fO S d name=(0,{ aJ S d name ⟨tk,2⟩ with O:=orphan (aJ S d name ⟨tk,2⟩).O tk }) by unfold fO;rw [hlk];exact (if_pos rfl).trans (if_pos (List.eq_nil_of_length_eq_zero (by show (obj S.O tk).ah.length=0;omega)))]<;>exact⟨rfl,rfl⟩⟩)
 have hkt:(obj S.O tk).kind=3:=hI.kind hlv
 refine af.region (gK 1 [] [] ?_)
 refine NS (gK 5 [(13,.map (some (L.m d))),(14,.string name)] [(3,v_ 3 (bP L hkd))] ?_)
 refine jb 5 hkd hlk ?_
 refine gK 1 [(7,.iface 166 (vP (L.b tk)))] [] ?_
 refine NN (af.seq (SR (gK 2 [(17,.bool false)] [] ?_)))
 refine NN (CF (af.skip (NX (SR (gK 7 [(8,.pointer none),(9,.bool false)] [] ?_)))))
 refine NN (af.seq (SR (gK 2 [(24,.bool true)] [] ?_)))
 refine NN (CT (SR (gK 1 [(6,vI 173)] [] ?_)))
 refine NN (af.ret (aj.aq ?_))
 exact RT (vI 173) [0,1,2,3,4,5,6] (⟨L,by skip;rw [show fO S d name=(173,S) by unfold fO;rw [hlk];exact if_neg (by simp)]<;>exact⟨rfl,rfl⟩⟩)
end
section
open Go.RowKit Go.Maps bC aE
attribute [local irreducible] ak aW af aj
abbrev Hw (f:Nat) (L:HL) (d:Nat) (name):=([(61,vP f),(62,vP (L.b d)),(63,.string name)]:Fr)
abbrev Hy (f:Nat) (L:HL) (to:Nat) (toName):=([(65,vP f),(66,vP (L.b to)),(67,.string toName)]:Fr)
abbrev xZ (L:HL) (to:Nat) (toName):=([(45,.map (some (L.m to))),(46,.string toName)]:Fr)
abbrev Rm (f:Nat) (L:HL) (to:Nat) (toName):=([(57,vP f),(58,vP (L.b to)),(59,.string toName)]:Fr)
abbrev Rn (L:HL) (to:Nat):=([(12,.pointer none),(13,.bool false),(14,vP (L.b to))]:Fr)
abbrev Ro (L:HL) (to:Nat) (toName):=([(3,vP (L.b to)),(4,.string toName)]:Fr)
theorem Ll {β:Bs} (S:aI) (L:HL) (f m t:Nat) (hI:Inv S) (d:Nat) (hd:Live S.idx ⟨d,2⟩) (name:ByteArray) (hsz:name.size<=1048576) (to:Nat) (hto:Live S.idx ⟨to,2⟩) (toName:ByteArray) (qd:toName.size<=1048576) :
    Spec Tryz.prog β 204 #[vP f,vP (L.b d),.string name,vP (L.b to),.string toName] (pA f m t L S) (fun v l=>∃ L2,v=vI (bL S d name to toName).1/\l=(pA f m t L2 ((bL S d name to toName).2))):=by
 have hX:=hI.hX
 have hel:(obj S.O d).ah.length<=8192:=hI.iL hd
 have hkd:(obj S.O d).kind=2:=hI.kind hd
 have jK:(obj S.O to).kind=2:=hI.kind hto
 have Zl:(obj S.O to).ah.length<=8192:=hI.iL hto
 refine Spec.enter Tryz.func204 rfl Tryz.ntmps204 (Nat.le_of_ble_eq_true rfl) (fun R=>?_)
 refine af.seq ?_
 rcases hI.pZ hd name with hlk|⟨tk,hlk,hlv⟩|⟨tk,hlk,hlv⟩|⟨tk,hlk,hlv⟩
 ·refine af.region (gK 1 [] [] ?_)
  refine NS (gK 5 [(19,.map (some (L.m d))),(20,.string name)] [(3,v_ 3 (bP L hkd))] ?_)
  refine jb 5 hkd hlk ?_
  refine gK 1 [(11,.nilIface)] [] ?_
  refine NN (af.seq (SR (gK 2 [(23,.bool true)] [] ?_)))
  refine NN (CT (SR (gK 1 [(10,vI 170)] [] ?_)))
  refine NN (af.ret (aj.aq ?_))
  exact RT (vI 170) [0,1,2,3,4,5,6] (⟨L,by rw [show bL S d name to toName=(170,S) by unfold bL;rw [hlk]]<;>exact⟨rfl,rfl⟩⟩)
 ·have hkt:(obj S.O tk).kind=1:=hI.kind hlv
  refine af.region (gK 1 [] [] ?_)
  refine NS (gK 5 [(19,.map (some (L.m d))),(20,.string name)] [(3,v_ 3 (bP L hkd))] ?_)
  refine jb 5 hkd hlk ?_
  refine gK 1 [(11,.iface 162 (vP (L.b tk)))] [] ?_
  refine NN (af.seq (SR (gK 2 [(23,.bool false)] [] ?_)))
  refine NN (CF (af.skip (NX (SR (gK 7 [(12,.pointer none),(13,.bool false)] [] ?_)))))
  refine NN (af.seq (SR (gK 2 [(14,vP (L.b to))] [] ?_)))
  refine NN (af.block ?_)
  refine af.loop (ι:=Unit) (fun (u:Unit)=>True) (fun (u:Unit)=>0) (fun (u:Unit)=>(Ht f L d name++Ro L to toName++[(11,.iface 162 (vP (L.b tk)))]++Rn L to)) (fun (u:Unit)=>((pA f m t L S)++[.abs R])) () (idx:=[0,1,2,3,4,11,12,13,14]) (pk:=[0,1,2,3,4,5,6]) (show True from trivial) (fun _=>by kernel_rfl) rfl (by kernel_rfl) ?_
  rintro u _
  show af _ _ _ _ (Ht f L d name++Ro L to toName++[(11,.iface 162 (vP (L.b tk)))]++Rn L to) ((pA f m t L S)++[.abs R]) _
  refine af.seq (SR (gK 5 [(34,.bool false)] [] ?_))
  refine NN (CF (af.exit (aj.aU (aj.aU (aj.cK (NX (af.seq ?_)))))))
  skip
  rcases hI.pZ hto toName with bU|⟨ok,bU,iF⟩|⟨ok,bU,iF⟩|⟨ok,bU,iF⟩
  ·refine af.region (gK 5 (xZ L to toName) [(3,v_ 3 (bP L jK))] ?_)
   refine jb 5 jK bU ?_
   refine gK 1 [(15,.nilIface)] [] ?_
   refine NN (af.seq (SR (gK 3 [(50,.bool false)] [] ?_)))
   refine NN (CF (af.skip (NX (af.seq (SR (gK 2 [(52,.bool false)] [] ?_))))))
   refine NN (CF (af.skip (NX (SR ?_))))
   have bY:Inv S:=hI
   have hd1:=hd
   have fM:=hlk
   have qO:=bU
   have kB:=hto
   have lG:(obj S.O d).kind=2:=bY.kind hd1
   have qP:(obj S.O to).kind=2:=bY.kind kB
   have lH:Live S.idx ⟨tk,1⟩:=(bY.ent hd1 fM).2
   have lI:(obj S.O tk).kind=1:=bY.kind lH
   have Eh:(obj S.O d).ah.length<=8192:=bY.iL hd1
   have Ei:(obj S.O to).ah.length<=8192:=bY.iL kB
   have qQ:=bY.lb lH
   have lJ:tk≠d:=bY.ne hd1 fM
   refine gK 3 (Hw f L d name) [] ?_
   refine gL [0,3,5] (jX S.X f m t bY.hX S.O L d lG name hsz ⟨tk,1⟩ lI (by simp) fM (bY.twice hd1) (by omega) (by simp only at qQ ⊢;omega)) ?_
   rintro _ _ ⟨rfl,rfl⟩
   refine NS (gK 4 (Hy f L to toName++[(68,.iface 162 (vP (L.b tk)))]) [] ?_)
   refine gL [0,1,2] (jW { S.X with ah:=S.X.ah - 1 } f m t (bY.AJ hd1 fM) (aQ S.X S.O d name ⟨tk,1⟩) L to (cQ.trans qP) toName qd (kK lJ qO) (Nat.le_trans (ny lJ) (by omega)) ⟨tk,1⟩ (cQ.trans lI) (by simp) (kR bY.toInv0 hd1 fM)) ?_
   rintro _ _ ⟨rfl,rfl⟩
   refine NS (ak.eZ [(5,.abs (aH (ct (cO S.X (aQ S.X S.O d name ⟨tk,1⟩) to toName ⟨tk,1⟩) L)))] (fun w hS=>by rw [show ct (cO S.X (aQ S.X S.O d name ⟨tk,1⟩) to toName ⟨tk,1⟩) L=ct S.O L from jU.trans kJ];exact hS) ?_)
   refine gK 1 [(10,vI 0)] [] ?_
   refine NN (af.ret ?_)
   exact RT (vI 0) [0,3,4,1,5,2,6] (⟨L,by rw [show bL S d name to toName=(0,j7 S d name to toName ⟨tk,1⟩) by unfold bL;rw [hlk];refine (if_neg (fun h=>absurd h.1 (by simp))).trans ?_;rw [bU]]<;>exact⟨rfl,rfl⟩⟩)
  ·have qf:(obj S.O ok).kind=1:=hI.kind iF
   refine af.region (gK 5 (xZ L to toName) [(3,v_ 3 (bP L jK))] ?_)
   refine jb 5 jK bU ?_
   refine gK 1 [(15,.iface 162 (vP (L.b ok)))] [] ?_
   refine NN (af.seq (SR (gK 2 [(48,.iface 162 (vP (L.b ok))),(49,.iface 162 (vP (L.b tk)))] [] ?_)))
   refine ak.jZ (d:=(some 50)) (op:=.binOp .eql 156 (.tmp 48) (.tmp 49) 156) (v:=.bool (decide (ok=tk))) (fun _=>by kernel_rfl) (fun o junk w ho hS=>by obtain⟨F,hF⟩:=hS.get (i:=3) rfl;exact⟨w,BK TH ho (by kernel_rfl) (by kernel_rfl) (by rw [qf];decide) (by rw [hkt];decide) hF,hS⟩) ?_
   refine NN (af.aV (p:=ok=tk) (fun _=>by kernel_rfl) (fun h50=>?_) (fun h50=>?_))
   ·refine SR (gK 1 [(10,vI 0)] [] ?_)
    refine NN (af.ret (aj.aq ?_))
    exact RT (vI 0) [0,1,2,3,4,5,6] (⟨L,by rw [show bL S d name to toName=(0,S) by unfold bL;rw [hlk];refine (if_neg (fun h=>absurd h.1 (by simp))).trans ?_;rw [bU];exact if_pos (by rw [h50])]<;>exact⟨rfl,rfl⟩⟩)
   refine af.skip (NX (af.seq (SR (gK 2 [(52,.bool true)] [] ?_))))
   refine NN (CT (af.seq (SR (gK 1 [(53,.iface 162 (vP (L.b ok)))] [] ?_))))
   refine gL [] (qK (vP (L.b ok))) ?_
   rintro _ _ ⟨rfl,rfl⟩
   refine gK 1 [(55,.bool false)] [] ?_
   refine NN (CF (af.skip (NX (af.seq (SR (gK 1 [(56,.bool false)] [] ?_))))))
   refine NN (CF (af.skip (NX (af.region (gK 3 (Rm f L to toName) [] ?_)))))
   refine gL [0,3,5,1] (oM S L f m t hI to hto toName qd ⟨ok,1⟩ bU) ?_
   rintro _ _ ⟨rfl,rfl⟩
   refine NS ?_
   have bY:Inv (aJ S to toName ⟨ok,1⟩):=hI.z7 hto bU (by simp)
   have hot:(⟨ok,1⟩:Th)≠⟨tk,1⟩:=fun e=>h50 (congrArg Th.k e)
   have hd1:Live (aJ S to toName ⟨ok,1⟩).idx ⟨d,2⟩:=jV hI.toInv0 hto bU hd (fun e=>by have:=iy hd iF e;cases this)
   have kB:Live (aJ S to toName ⟨ok,1⟩).idx ⟨to,2⟩:=jV hI.toInv0 hto bU hto (fun e=>by have:=iy hto iF e;cases this)
   have fM:aT name (obj (aJ S to toName ⟨ok,1⟩).O d).ah=some ⟨tk,1⟩:=rL hI.toInv0 hto bU hlk hot
   have qO:aT toName (obj (aJ S to toName ⟨ok,1⟩).O to).ah=none:=rM hI.toInv0 hto bU
   have lG:(obj (aJ S to toName ⟨ok,1⟩).O d).kind=2:=bY.kind hd1
   have qP:(obj (aJ S to toName ⟨ok,1⟩).O to).kind=2:=bY.kind kB
   have lH:Live (aJ S to toName ⟨ok,1⟩).idx ⟨tk,1⟩:=(bY.ent hd1 fM).2
   have lI:(obj (aJ S to toName ⟨ok,1⟩).O tk).kind=1:=bY.kind lH
   have Eh:(obj (aJ S to toName ⟨ok,1⟩).O d).ah.length<=8192:=bY.iL hd1
   have Ei:(obj (aJ S to toName ⟨ok,1⟩).O to).ah.length<=8192:=bY.iL kB
   have qQ:=bY.lb lH
   have lJ:tk≠d:=bY.ne hd1 fM
   refine gK 3 (Hw f L d name) [] ?_
   refine gL [0,1,2] (jX (aJ S to toName ⟨ok,1⟩).X f m t bY.hX (aJ S to toName ⟨ok,1⟩).O L d lG name hsz ⟨tk,1⟩ lI (by simp) fM (bY.twice hd1) (by omega) (by simp only at qQ ⊢;omega)) ?_
   rintro _ _ ⟨rfl,rfl⟩
   refine NS (gK 4 (Hy f L to toName++[(68,.iface 162 (vP (L.b tk)))]) [] ?_)
   refine gL [0,1,2] (jW { (aJ S to toName ⟨ok,1⟩).X with ah:=(aJ S to toName ⟨ok,1⟩).X.ah - 1 } f m t (bY.AJ hd1 fM) (aQ (aJ S to toName ⟨ok,1⟩).X (aJ S to toName ⟨ok,1⟩).O d name ⟨tk,1⟩) L to (cQ.trans qP) toName qd (kK lJ qO) (Nat.le_trans (ny lJ) (by omega)) ⟨tk,1⟩ (cQ.trans lI) (by simp) (kR bY.toInv0 hd1 fM)) ?_
   rintro _ _ ⟨rfl,rfl⟩
   refine NS (ak.eZ [(5,.abs (aH (ct (cO (aJ S to toName ⟨ok,1⟩).X (aQ (aJ S to toName ⟨ok,1⟩).X (aJ S to toName ⟨ok,1⟩).O d name ⟨tk,1⟩) to toName ⟨tk,1⟩) L)))] (fun w hS=>by rw [show ct (cO (aJ S to toName ⟨ok,1⟩).X (aQ (aJ S to toName ⟨ok,1⟩).X (aJ S to toName ⟨ok,1⟩).O d name ⟨tk,1⟩) to toName ⟨tk,1⟩) L=ct S.O L from jU.trans (kJ.trans oJ)];exact hS) ?_)
   refine gK 1 [(10,vI 0)] [] ?_
   refine NN (af.ret ?_)
   exact RT (vI 0) [0,3,4,1,5,2,6] (⟨L,by rw [show bL S d name to toName=(0,j7 (aJ S to toName ⟨ok,1⟩) d name to toName ⟨tk,1⟩) by unfold bL;rw [hlk];refine (if_neg (fun h=>absurd h.1 (by simp))).trans ?_;rw [bU];exact (if_neg (fun e=>h50 (congrArg Th.k e))).trans ((if_neg (by simp)).trans (if_neg (by simp)))]<;>exact⟨rfl,rfl⟩⟩)
  ·have qf:(obj S.O ok).kind=2:=hI.kind iF
   refine af.region (gK 5 (xZ L to toName) [(3,v_ 3 (bP L jK))] ?_)
   refine jb 5 jK bU ?_
   refine gK 1 [(15,.iface 169 (vP (L.b ok)))] [] ?_
   refine NN (af.seq (SR (gK 3 [(50,.bool false)] [] ?_)))
   refine NN (CF (af.skip (NX (af.seq (SR (gK 2 [(52,.bool true)] [] ?_))))))
   refine NN (CT (af.seq (SR (gK 1 [(53,.iface 169 (vP (L.b ok)))] [] ?_))))
   refine gL [] (qL (vP (L.b ok))) ?_
   rintro _ _ ⟨rfl,rfl⟩
   refine gK 1 [(55,.bool true)] [] ?_
   refine NN (CT (SR (gK 1 [(10,vI 172)] [] ?_)))
   refine NN (af.ret (aj.aq (aj.aq ?_)))
   exact RT (vI 172) [0,1,2,3,4,5,6] (⟨L,by rw [show bL S d name to toName=(172,S) by unfold bL;rw [hlk];refine (if_neg (fun h=>absurd h.1 (by simp))).trans ?_;rw [bU];exact (if_neg (fun e=>by cases e)).trans (if_pos rfl)]<;>exact⟨rfl,rfl⟩⟩)
  have qf:(obj S.O ok).kind=3:=hI.kind iF
  refine af.region (gK 5 (xZ L to toName) [(3,v_ 3 (bP L jK))] ?_)
  refine jb 5 jK bU ?_
  refine gK 1 [(15,.iface 166 (vP (L.b ok)))] [] ?_
  refine NN (af.seq (SR (gK 3 [(50,.bool false)] [] ?_)))
  refine NN (CF (af.skip (NX (af.seq (SR (gK 2 [(52,.bool true)] [] ?_))))))
  refine NN (CT (af.seq (SR (gK 1 [(53,.iface 166 (vP (L.b ok)))] [] ?_))))
  refine gL [] (qM (vP (L.b ok))) ?_
  rintro _ _ ⟨rfl,rfl⟩
  refine gK 1 [(55,.bool false)] [] ?_
  refine NN (CF (af.skip (NX (af.seq (SR (gK 1 [(56,.bool false)] [] ?_))))))
  refine NN (CF (af.skip (NX (af.region (gK 3 (Rm f L to toName) [] ?_)))))
  refine gL [0,3,5,1] (oM S L f m t hI to hto toName qd ⟨ok,3⟩ bU) ?_
  rintro _ _ ⟨rfl,rfl⟩
  refine NS ?_
  have bY:Inv (aJ S to toName ⟨ok,3⟩):=hI.z7 hto bU (by simp)
  have hot:(⟨ok,3⟩:Th)≠⟨tk,1⟩:=fun e=>by cases e
  have hd1:Live (aJ S to toName ⟨ok,3⟩).idx ⟨d,2⟩:=jV hI.toInv0 hto bU hd (fun e=>by have:=iy hd iF e;cases this)
  have kB:Live (aJ S to toName ⟨ok,3⟩).idx ⟨to,2⟩:=jV hI.toInv0 hto bU hto (fun e=>by have:=iy hto iF e;cases this)
  have fM:aT name (obj (aJ S to toName ⟨ok,3⟩).O d).ah=some ⟨tk,1⟩:=rL hI.toInv0 hto bU hlk hot
  have qO:aT toName (obj (aJ S to toName ⟨ok,3⟩).O to).ah=none:=rM hI.toInv0 hto bU
  have lG:(obj (aJ S to toName ⟨ok,3⟩).O d).kind=2:=bY.kind hd1
  have qP:(obj (aJ S to toName ⟨ok,3⟩).O to).kind=2:=bY.kind kB
  have lH:Live (aJ S to toName ⟨ok,3⟩).idx ⟨tk,1⟩:=(bY.ent hd1 fM).2
  have lI:(obj (aJ S to toName ⟨ok,3⟩).O tk).kind=1:=bY.kind lH
  have Eh:(obj (aJ S to toName ⟨ok,3⟩).O d).ah.length<=8192:=bY.iL hd1
  have Ei:(obj (aJ S to toName ⟨ok,3⟩).O to).ah.length<=8192:=bY.iL kB
  have qQ:=bY.lb lH
  have lJ:tk≠d:=bY.ne hd1 fM
  refine gK 3 (Hw f L d name) [] ?_
  refine gL [0,1,2] (jX (aJ S to toName ⟨ok,3⟩).X f m t bY.hX (aJ S to toName ⟨ok,3⟩).O L d lG name hsz ⟨tk,1⟩ lI (by simp) fM (bY.twice hd1) (by omega) (by simp only at qQ ⊢;omega)) ?_
  rintro _ _ ⟨rfl,rfl⟩
  refine NS (gK 4 (Hy f L to toName++[(68,.iface 162 (vP (L.b tk)))]) [] ?_)
  refine gL [0,1,2] (jW { (aJ S to toName ⟨ok,3⟩).X with ah:=(aJ S to toName ⟨ok,3⟩).X.ah - 1 } f m t (bY.AJ hd1 fM) (aQ (aJ S to toName ⟨ok,3⟩).X (aJ S to toName ⟨ok,3⟩).O d name ⟨tk,1⟩) L to (cQ.trans qP) toName qd (kK lJ qO) (Nat.le_trans (ny lJ) (by omega)) ⟨tk,1⟩ (cQ.trans lI) (by simp) (kR bY.toInv0 hd1 fM)) ?_
  rintro _ _ ⟨rfl,rfl⟩
  refine NS (ak.eZ [(5,.abs (aH (ct (cO (aJ S to toName ⟨ok,3⟩).X (aQ (aJ S to toName ⟨ok,3⟩).X (aJ S to toName ⟨ok,3⟩).O d name ⟨tk,1⟩) to toName ⟨tk,1⟩) L)))] (fun w hS=>by rw [show ct (cO (aJ S to toName ⟨ok,3⟩).X (aQ (aJ S to toName ⟨ok,3⟩).X (aJ S to toName ⟨ok,3⟩).O d name ⟨tk,1⟩) to toName ⟨tk,1⟩) L=ct S.O L from jU.trans (kJ.trans oJ)];exact hS) ?_)
  refine gK 1 [(10,vI 0)] [] ?_
  refine NN (af.ret ?_)
  exact RT (vI 0) [0,3,4,1,5,2,6] (⟨L,by rw [show bL S d name to toName=(0,j7 (aJ S to toName ⟨ok,3⟩) d name to toName ⟨tk,1⟩) by unfold bL;rw [hlk];refine (if_neg (fun h=>absurd h.1 (by simp))).trans ?_;rw [bU];exact (if_neg (fun e=>by cases e)).trans ((if_neg (by simp)).trans (if_neg (by simp)))]<;>exact⟨rfl,rfl⟩⟩)
 ·have hkt:(obj S.O tk).kind=2:=hI.kind hlv
  refine af.region (gK 1 [] [] ?_)
  refine NS (gK 5 [(19,.map (some (L.m d))),(20,.string name)] [(3,v_ 3 (bP L hkd))] ?_)
  refine jb 5 hkd hlk ?_
  refine gK 1 [(11,.iface 169 (vP (L.b tk)))] [] ?_
  refine NN (af.seq (SR (gK 2 [(23,.bool false)] [] ?_)))
  refine NN (CF (af.skip (NX (SR (gK 7 [(12,vP (L.b tk)),(13,.bool true)] [] ?_)))))
  refine NN (af.seq (SR (gK 2 [(14,vP (L.b to))] [] ?_)))
  refine NN (af.block ?_)
  obtain⟨dp,hdp⟩:=hI.deep
  refine af.loop (ι:=(Option Nat)) (fun (x:Option Nat)=>(fV S.O tk to↔∃ z0,x=some z0/\fV S.O tk z0)/\(∀ z0,x=some z0->Live S.idx ⟨z0,2⟩)) (fun (x:Option Nat)=>yQ dp x) (fun (x:Option Nat)=>[(0,vP f),(1,vP (L.b d)),(2,.string name),(3,vP (L.b to)),(4,.string toName),(11,.iface 169 (vP (L.b tk))),(12,vP (L.b tk)),(13,.bool true),(14,(AF L x))]) (fun (x:Option Nat)=>((pA f m t L S)++[.abs R])) ((some to)) (idx:=[0,1,2,3,4,11,12,13,14]) (pk:=[0,1,2,3,4,5,6]) (show (fV S.O tk to↔∃ z0,((some to))=some z0/\fV S.O tk z0)/\(∀ z0,((some to))=some z0->Live S.idx ⟨z0,2⟩) from ⟨⟨fun h=>⟨to,rfl,h⟩,fun ⟨y,e,h⟩=>by cases e;exact h⟩,fun y e=>by cases e;exact hto⟩) (fun _=>by kernel_rfl) rfl (by kernel_rfl) ?_
  rintro x ⟨hbx,hlx⟩
  show af _ _ _ _ [(0,vP f),(1,vP (L.b d)),(2,.string name),(3,vP (L.b to)),(4,.string toName),(11,.iface 169 (vP (L.b tk))),(12,vP (L.b tk)),(13,.bool true),(14,(AF L x))] ((pA f m t L S)++[.abs R]) _
  refine af.seq (af.seq ?_)
  rcases hx:x with _|y
  ·refine af.region (gK 5 [(34,.bool false)] [] ?_)
   refine NN (CF (af.exit (aj.aU (aj.aU (aj.cK (NX (af.seq ?_)))))))
   have hnb:¬ fV S.O tk to:=fun h=>by obtain⟨y,e,_⟩:=hbx.1 h;rw [hx] at e;cases e
   rcases hI.pZ hto toName with bU|⟨ok,bU,iF⟩|⟨ok,bU,iF⟩|⟨ok,bU,iF⟩
   ·refine af.region (gK 5 (xZ L to toName) [(3,v_ 3 (bP L jK))] ?_)
    refine jb 5 jK bU ?_
    refine gK 1 [(15,.nilIface)] [] ?_
    refine NN (af.seq (SR (gK 3 [(50,.bool false)] [] ?_)))
    refine NN (CF (af.skip (NX (af.seq (SR (gK 2 [(52,.bool false)] [] ?_))))))
    refine NN (CF (af.skip (NX (SR ?_))))
    have bY:Inv S:=hI
    have hd1:=hd
    have fM:=hlk
    have qO:=bU
    have kB:=hto
    have lG:(obj S.O d).kind=2:=bY.kind hd1
    have qP:(obj S.O to).kind=2:=bY.kind kB
    have lH:Live S.idx ⟨tk,2⟩:=(bY.ent hd1 fM).2
    have lI:(obj S.O tk).kind=2:=bY.kind lH
    have Eh:(obj S.O d).ah.length<=8192:=bY.iL hd1
    have Ei:(obj S.O to).ah.length<=8192:=bY.iL kB
    have qQ:=bY.lb lH
    have lJ:tk≠d:=bY.ne hd1 fM
    refine gK 3 (Hw f L d name) [] ?_
    refine gL [0,3,5] (jX S.X f m t bY.hX S.O L d lG name hsz ⟨tk,2⟩ lI (by simp) fM (bY.twice hd1) (by omega) (by simp only at qQ ⊢;omega)) ?_
    rintro _ _ ⟨rfl,rfl⟩
    refine NS (gK 4 (Hy f L to toName++[(68,.iface 169 (vP (L.b tk)))]) [] ?_)
    refine gL [0,1,2] (jW { S.X with ah:=S.X.ah - 1 } f m t (bY.AJ hd1 fM) (aQ S.X S.O d name ⟨tk,2⟩) L to (cQ.trans qP) toName qd (kK lJ qO) (Nat.le_trans (ny lJ) (by omega)) ⟨tk,2⟩ (cQ.trans lI) (by simp) (kR bY.toInv0 hd1 fM)) ?_
    rintro _ _ ⟨rfl,rfl⟩
    refine NS (ak.eZ [(5,.abs (aH (ct (cO S.X (aQ S.X S.O d name ⟨tk,2⟩) to toName ⟨tk,2⟩) L)))] (fun w hS=>by rw [show ct (cO S.X (aQ S.X S.O d name ⟨tk,2⟩) to toName ⟨tk,2⟩) L=ct S.O L from jU.trans kJ];exact hS) ?_)
    refine gK 1 [(10,vI 0)] [] ?_
    refine NN (af.ret ?_)
    exact RT (vI 0) [0,3,4,1,5,2,6] (⟨L,by rw [show bL S d name to toName=(0,j7 S d name to toName ⟨tk,2⟩) by unfold bL;rw [hlk];refine (if_neg (fun h=>hnb h.2)).trans ?_;rw [bU]]<;>exact⟨rfl,rfl⟩⟩)
   ·have qf:(obj S.O ok).kind=1:=hI.kind iF
    refine af.region (gK 5 (xZ L to toName) [(3,v_ 3 (bP L jK))] ?_)
    refine jb 5 jK bU ?_
    refine gK 1 [(15,.iface 162 (vP (L.b ok)))] [] ?_
    refine NN (af.seq (SR (gK 3 [(50,.bool false)] [] ?_)))
    refine NN (CF (af.skip (NX (af.seq (SR (gK 2 [(52,.bool true)] [] ?_))))))
    refine NN (CT (af.seq (SR (gK 1 [(53,.iface 162 (vP (L.b ok)))] [] ?_))))
    refine gL [] (qK (vP (L.b ok))) ?_
    rintro _ _ ⟨rfl,rfl⟩
    refine gK 1 [(55,.bool false)] [] ?_
    refine NN (CF (af.skip (NX (af.seq (SR (gK 1 [(56,.bool true)] [] ?_))))))
    refine NN (CT (SR (gK 1 [(10,vI 173)] [] ?_)))
    refine NN (af.ret (aj.aq (aj.aq ?_)))
    exact RT (vI 173) [0,1,2,3,4,5,6] (⟨L,by rw [show bL S d name to toName=(173,S) by unfold bL;rw [hlk];refine (if_neg (fun h=>hnb h.2)).trans ?_;rw [bU];exact (if_neg (fun e=>by cases e)).trans ((if_neg (by simp)).trans (if_pos rfl))]<;>exact⟨rfl,rfl⟩⟩)
   ·have qf:(obj S.O ok).kind=2:=hI.kind iF
    refine af.region (gK 5 (xZ L to toName) [(3,v_ 3 (bP L jK))] ?_)
    refine jb 5 jK bU ?_
    refine gK 1 [(15,.iface 169 (vP (L.b ok)))] [] ?_
    refine NN (af.seq (SR (gK 2 [(48,.iface 169 (vP (L.b ok))),(49,.iface 169 (vP (L.b tk)))] [] ?_)))
    refine ak.jZ (d:=(some 50)) (op:=.binOp .eql 156 (.tmp 48) (.tmp 49) 156) (v:=.bool (decide (ok=tk))) (fun _=>by kernel_rfl) (fun o junk w ho hS=>by obtain⟨F,hF⟩:=hS.get (i:=3) rfl;exact⟨w,BK VE ho (by kernel_rfl) (by kernel_rfl) (by rw [qf];decide) (by rw [hkt];decide) hF,hS⟩) ?_
    refine NN (af.aV (p:=ok=tk) (fun _=>by kernel_rfl) (fun h50=>?_) (fun h50=>?_))
    ·refine SR (gK 1 [(10,vI 0)] [] ?_)
     refine NN (af.ret (aj.aq ?_))
     exact RT (vI 0) [0,1,2,3,4,5,6] (⟨L,by rw [show bL S d name to toName=(0,S) by unfold bL;rw [hlk];refine (if_neg (fun h=>hnb h.2)).trans ?_;rw [bU];exact if_pos (by rw [h50])]<;>exact⟨rfl,rfl⟩⟩)
    refine af.skip (NX (af.seq (SR (gK 2 [(52,.bool true)] [] ?_))))
    refine NN (CT (af.seq (SR (gK 1 [(53,.iface 169 (vP (L.b ok)))] [] ?_))))
    refine gL [] (qL (vP (L.b ok))) ?_
    rintro _ _ ⟨rfl,rfl⟩
    refine gK 1 [(55,.bool true)] [] ?_
    refine NN (CT (SR (gK 1 [(10,vI 172)] [] ?_)))
    refine NN (af.ret (aj.aq (aj.aq ?_)))
    exact RT (vI 172) [0,1,2,3,4,5,6] (⟨L,by rw [show bL S d name to toName=(172,S) by unfold bL;rw [hlk];refine (if_neg (fun h=>hnb h.2)).trans ?_;rw [bU];exact (if_neg (fun e=>h50 (congrArg Th.k e))).trans (if_pos rfl)]<;>exact⟨rfl,rfl⟩⟩)
   have qf:(obj S.O ok).kind=3:=hI.kind iF
   refine af.region (gK 5 (xZ L to toName) [(3,v_ 3 (bP L jK))] ?_)
   refine jb 5 jK bU ?_
   refine gK 1 [(15,.iface 166 (vP (L.b ok)))] [] ?_
   refine NN (af.seq (SR (gK 3 [(50,.bool false)] [] ?_)))
   refine NN (CF (af.skip (NX (af.seq (SR (gK 2 [(52,.bool true)] [] ?_))))))
   refine NN (CT (af.seq (SR (gK 1 [(53,.iface 166 (vP (L.b ok)))] [] ?_))))
   refine gL [] (qM (vP (L.b ok))) ?_
   rintro _ _ ⟨rfl,rfl⟩
   refine gK 1 [(55,.bool false)] [] ?_
   refine NN (CF (af.skip (NX (af.seq (SR (gK 1 [(56,.bool true)] [] ?_))))))
   refine NN (CT (SR (gK 1 [(10,vI 173)] [] ?_)))
   refine NN (af.ret (aj.aq (aj.aq ?_)))
   exact RT (vI 173) [0,1,2,3,4,5,6] (⟨L,by rw [show bL S d name to toName=(173,S) by unfold bL;rw [hlk];refine (if_neg (fun h=>hnb h.2)).trans ?_;rw [bU];exact (if_neg (fun e=>by cases e)).trans ((if_neg (by simp)).trans (if_pos rfl))]<;>exact⟨rfl,rfl⟩⟩)
  have hky:(obj S.O y).kind=2:=hI.kind (hlx y hx)
  refine af.region (gK 5 [(34,.bool true)] [] ?_)
  refine NN (CT (af.skip (NX (af.seq (af.block (SR ?_))))))
  refine gK 2 [(39,vP (L.b y)),(40,vP (L.b tk))] [] ?_
  refine ak.jZ (d:=(some 41)) (op:=.binOp .eql 169 (.tmp 39) (.tmp 40) 169) (v:=.bool (decide (y=tk))) (fun _=>by kernel_rfl) (fun o junk w ho hS=>by obtain⟨F,hF⟩:=hS.get (i:=3) rfl;exact⟨w,MR ho (by kernel_rfl) (by kernel_rfl) (by rw [hky];decide) (by rw [hkt];decide) hF,hS⟩) ?_
  refine NN (af.aV (p:=y=tk) (fun _=>by kernel_rfl) (fun vR=>?_) (fun vR=>?_))
  ·refine SR (gK 1 [(10,vI 174)] [] ?_)
   refine NN (af.ret (aj.aL (aj.aq (aj.aq (aj.aL (aj.aq ?_))))))
   exact RT (vI 174) [0,1,2,3,4,5,6] (⟨L,by rw [show bL S d name to toName=(174,S) by unfold bL;rw [hlk];exact if_pos ⟨rfl,hbx.2 ⟨y,hx,by rw [vR];exact .here⟩⟩]<;>exact⟨rfl,rfl⟩⟩)
  refine af.skip (aj.aP (NX (af.region ?_)))
  refine gK 5 [(14,(AF L (obj S.O y).up))] [(3,v_ 3 (XA L hky))] ?_
  refine NL ?_
  exact aj.turn (((obj S.O y).up)) (idx:=[0,1,2,3,4,11,12,13,14]) (pk:=[0,1,2,3,4,5,6]) (show (fV S.O tk to↔∃ z0,(((obj S.O y).up))=some z0/\fV S.O tk z0)/\(∀ z0,(((obj S.O y).up))=some z0->Live S.idx ⟨z0,2⟩) from ⟨hbx.trans ⟨fun ⟨y2,e,h⟩=>by rw [hx] at e;cases e;exact (CP vR).1 h,fun h=>⟨y,hx,(CP vR).2 h⟩⟩,fun z e=>((hI.up ⟨y,2⟩ (hlx y hx) z).1 e).2.1⟩) (by show yQ dp (((obj S.O y).up)) < yQ dp (some y);exact MV hdp) (fun _=>by kernel_rfl) rfl (by kernel_rfl)
 have hkt:(obj S.O tk).kind=3:=hI.kind hlv
 refine af.region (gK 1 [] [] ?_)
 refine NS (gK 5 [(19,.map (some (L.m d))),(20,.string name)] [(3,v_ 3 (bP L hkd))] ?_)
 refine jb 5 hkd hlk ?_
 refine gK 1 [(11,.iface 166 (vP (L.b tk)))] [] ?_
 refine NN (af.seq (SR (gK 2 [(23,.bool false)] [] ?_)))
 refine NN (CF (af.skip (NX (SR (gK 7 [(12,.pointer none),(13,.bool false)] [] ?_)))))
 refine NN (af.seq (SR (gK 2 [(14,vP (L.b to))] [] ?_)))
 refine NN (af.block ?_)
 refine af.loop (ι:=Unit) (fun (u:Unit)=>True) (fun (u:Unit)=>0) (fun (u:Unit)=>(Ht f L d name++Ro L to toName++[(11,.iface 166 (vP (L.b tk)))]++Rn L to)) (fun (u:Unit)=>((pA f m t L S)++[.abs R])) () (idx:=[0,1,2,3,4,11,12,13,14]) (pk:=[0,1,2,3,4,5,6]) (show True from trivial) (fun _=>by kernel_rfl) rfl (by kernel_rfl) ?_
 rintro u _
 show af _ _ _ _ (Ht f L d name++Ro L to toName++[(11,.iface 166 (vP (L.b tk)))]++Rn L to) ((pA f m t L S)++[.abs R]) _
 refine af.seq (SR (gK 5 [(34,.bool false)] [] ?_))
 refine NN (CF (af.exit (aj.aU (aj.aU (aj.cK (NX (af.seq ?_)))))))
 skip
 rcases hI.pZ hto toName with bU|⟨ok,bU,iF⟩|⟨ok,bU,iF⟩|⟨ok,bU,iF⟩
 ·refine af.region (gK 5 (xZ L to toName) [(3,v_ 3 (bP L jK))] ?_)
  refine jb 5 jK bU ?_
  refine gK 1 [(15,.nilIface)] [] ?_
  refine NN (af.seq (SR (gK 3 [(50,.bool false)] [] ?_)))
  refine NN (CF (af.skip (NX (af.seq (SR (gK 2 [(52,.bool false)] [] ?_))))))
  refine NN (CF (af.skip (NX (SR ?_))))
  have bY:Inv S:=hI
  have hd1:=hd
  have fM:=hlk
  have qO:=bU
  have kB:=hto
  have lG:(obj S.O d).kind=2:=bY.kind hd1
  have qP:(obj S.O to).kind=2:=bY.kind kB
  have lH:Live S.idx ⟨tk,3⟩:=(bY.ent hd1 fM).2
  have lI:(obj S.O tk).kind=3:=bY.kind lH
  have Eh:(obj S.O d).ah.length<=8192:=bY.iL hd1
  have Ei:(obj S.O to).ah.length<=8192:=bY.iL kB
  have qQ:=bY.lb lH
  have lJ:tk≠d:=bY.ne hd1 fM
  refine gK 3 (Hw f L d name) [] ?_
  refine gL [0,3,5] (jX S.X f m t bY.hX S.O L d lG name hsz ⟨tk,3⟩ lI (by simp) fM (bY.twice hd1) (by omega) (by simp only at qQ ⊢;omega)) ?_
  rintro _ _ ⟨rfl,rfl⟩
  refine NS (gK 4 (Hy f L to toName++[(68,.iface 166 (vP (L.b tk)))]) [] ?_)
  refine gL [0,1,2] (jW { S.X with ah:=S.X.ah - 1 } f m t (bY.AJ hd1 fM) (aQ S.X S.O d name ⟨tk,3⟩) L to (cQ.trans qP) toName qd (kK lJ qO) (Nat.le_trans (ny lJ) (by omega)) ⟨tk,3⟩ (cQ.trans lI) (by simp) (kR bY.toInv0 hd1 fM)) ?_
  rintro _ _ ⟨rfl,rfl⟩
  refine NS (ak.eZ [(5,.abs (aH (ct (cO S.X (aQ S.X S.O d name ⟨tk,3⟩) to toName ⟨tk,3⟩) L)))] (fun w hS=>by rw [show ct (cO S.X (aQ S.X S.O d name ⟨tk,3⟩) to toName ⟨tk,3⟩) L=ct S.O L from jU.trans kJ];exact hS) ?_)
  refine gK 1 [(10,vI 0)] [] ?_
  refine NN (af.ret ?_)
  exact RT (vI 0) [0,3,4,1,5,2,6] (⟨L,by rw [show bL S d name to toName=(0,j7 S d name to toName ⟨tk,3⟩) by unfold bL;rw [hlk];refine (if_neg (fun h=>absurd h.1 (by simp))).trans ?_;rw [bU]]<;>exact⟨rfl,rfl⟩⟩)
 ·have qf:(obj S.O ok).kind=1:=hI.kind iF
  refine af.region (gK 5 (xZ L to toName) [(3,v_ 3 (bP L jK))] ?_)
  refine jb 5 jK bU ?_
  refine gK 1 [(15,.iface 162 (vP (L.b ok)))] [] ?_
  refine NN (af.seq (SR (gK 3 [(50,.bool false)] [] ?_)))
  refine NN (CF (af.skip (NX (af.seq (SR (gK 2 [(52,.bool true)] [] ?_))))))
  refine NN (CT (af.seq (SR (gK 1 [(53,.iface 162 (vP (L.b ok)))] [] ?_))))
  refine gL [] (qK (vP (L.b ok))) ?_
  rintro _ _ ⟨rfl,rfl⟩
  refine gK 1 [(55,.bool false)] [] ?_
  refine NN (CF (af.skip (NX (af.seq (SR (gK 1 [(56,.bool false)] [] ?_))))))
  refine NN (CF (af.skip (NX (af.region (gK 3 (Rm f L to toName) [] ?_)))))
  refine gL [0,3,5,1] (oM S L f m t hI to hto toName qd ⟨ok,1⟩ bU) ?_
  rintro _ _ ⟨rfl,rfl⟩
  refine NS ?_
  have bY:Inv (aJ S to toName ⟨ok,1⟩):=hI.z7 hto bU (by simp)
  have hot:(⟨ok,1⟩:Th)≠⟨tk,3⟩:=fun e=>by cases e
  have hd1:Live (aJ S to toName ⟨ok,1⟩).idx ⟨d,2⟩:=jV hI.toInv0 hto bU hd (fun e=>by have:=iy hd iF e;cases this)
  have kB:Live (aJ S to toName ⟨ok,1⟩).idx ⟨to,2⟩:=jV hI.toInv0 hto bU hto (fun e=>by have:=iy hto iF e;cases this)
  have fM:aT name (obj (aJ S to toName ⟨ok,1⟩).O d).ah=some ⟨tk,3⟩:=rL hI.toInv0 hto bU hlk hot
  have qO:aT toName (obj (aJ S to toName ⟨ok,1⟩).O to).ah=none:=rM hI.toInv0 hto bU
  have lG:(obj (aJ S to toName ⟨ok,1⟩).O d).kind=2:=bY.kind hd1
  have qP:(obj (aJ S to toName ⟨ok,1⟩).O to).kind=2:=bY.kind kB
  have lH:Live (aJ S to toName ⟨ok,1⟩).idx ⟨tk,3⟩:=(bY.ent hd1 fM).2
  have lI:(obj (aJ S to toName ⟨ok,1⟩).O tk).kind=3:=bY.kind lH
  have Eh:(obj (aJ S to toName ⟨ok,1⟩).O d).ah.length<=8192:=bY.iL hd1
  have Ei:(obj (aJ S to toName ⟨ok,1⟩).O to).ah.length<=8192:=bY.iL kB
  have qQ:=bY.lb lH
  have lJ:tk≠d:=bY.ne hd1 fM
  refine gK 3 (Hw f L d name) [] ?_
  refine gL [0,1,2] (jX (aJ S to toName ⟨ok,1⟩).X f m t bY.hX (aJ S to toName ⟨ok,1⟩).O L d lG name hsz ⟨tk,3⟩ lI (by simp) fM (bY.twice hd1) (by omega) (by simp only at qQ ⊢;omega)) ?_
  rintro _ _ ⟨rfl,rfl⟩
  refine NS (gK 4 (Hy f L to toName++[(68,.iface 166 (vP (L.b tk)))]) [] ?_)
  refine gL [0,1,2] (jW { (aJ S to toName ⟨ok,1⟩).X with ah:=(aJ S to toName ⟨ok,1⟩).X.ah - 1 } f m t (bY.AJ hd1 fM) (aQ (aJ S to toName ⟨ok,1⟩).X (aJ S to toName ⟨ok,1⟩).O d name ⟨tk,3⟩) L to (cQ.trans qP) toName qd (kK lJ qO) (Nat.le_trans (ny lJ) (by omega)) ⟨tk,3⟩ (cQ.trans lI) (by simp) (kR bY.toInv0 hd1 fM)) ?_
  rintro _ _ ⟨rfl,rfl⟩
  refine NS (ak.eZ [(5,.abs (aH (ct (cO (aJ S to toName ⟨ok,1⟩).X (aQ (aJ S to toName ⟨ok,1⟩).X (aJ S to toName ⟨ok,1⟩).O d name ⟨tk,3⟩) to toName ⟨tk,3⟩) L)))] (fun w hS=>by rw [show ct (cO (aJ S to toName ⟨ok,1⟩).X (aQ (aJ S to toName ⟨ok,1⟩).X (aJ S to toName ⟨ok,1⟩).O d name ⟨tk,3⟩) to toName ⟨tk,3⟩) L=ct S.O L from jU.trans (kJ.trans oJ)];exact hS) ?_)
  refine gK 1 [(10,vI 0)] [] ?_
  refine NN (af.ret ?_)
  exact RT (vI 0) [0,3,4,1,5,2,6] (⟨L,by rw [show bL S d name to toName=(0,j7 (aJ S to toName ⟨ok,1⟩) d name to toName ⟨tk,3⟩) by unfold bL;rw [hlk];refine (if_neg (fun h=>absurd h.1 (by simp))).trans ?_;rw [bU];exact (if_neg (fun e=>by cases e)).trans ((if_neg (by simp)).trans (if_neg (by simp)))]<;>exact⟨rfl,rfl⟩⟩)
 ·have qf:(obj S.O ok).kind=2:=hI.kind iF
  refine af.region (gK 5 (xZ L to toName) [(3,v_ 3 (bP L jK))] ?_)
  refine jb 5 jK bU ?_
  refine gK 1 [(15,.iface 169 (vP (L.b ok)))] [] ?_
  refine NN (af.seq (SR (gK 3 [(50,.bool false)] [] ?_)))
  refine NN (CF (af.skip (NX (af.seq (SR (gK 2 [(52,.bool true)] [] ?_))))))
  refine NN (CT (af.seq (SR (gK 1 [(53,.iface 169 (vP (L.b ok)))] [] ?_))))
  refine gL [] (qL (vP (L.b ok))) ?_
  rintro _ _ ⟨rfl,rfl⟩
  refine gK 1 [(55,.bool true)] [] ?_
  refine NN (CT (SR (gK 1 [(10,vI 172)] [] ?_)))
  refine NN (af.ret (aj.aq (aj.aq ?_)))
  exact RT (vI 172) [0,1,2,3,4,5,6] (⟨L,by rw [show bL S d name to toName=(172,S) by unfold bL;rw [hlk];refine (if_neg (fun h=>absurd h.1 (by simp))).trans ?_;rw [bU];exact (if_neg (fun e=>by cases e)).trans (if_pos rfl)]<;>exact⟨rfl,rfl⟩⟩)
 have qf:(obj S.O ok).kind=3:=hI.kind iF
 refine af.region (gK 5 (xZ L to toName) [(3,v_ 3 (bP L jK))] ?_)
 refine jb 5 jK bU ?_
 refine gK 1 [(15,.iface 166 (vP (L.b ok)))] [] ?_
 refine NN (af.seq (SR (gK 2 [(48,.iface 166 (vP (L.b ok))),(49,.iface 166 (vP (L.b tk)))] [] ?_)))
 refine ak.jZ (d:=(some 50)) (op:=.binOp .eql 156 (.tmp 48) (.tmp 49) 156) (v:=.bool (decide (ok=tk))) (fun _=>by kernel_rfl) (fun o junk w ho hS=>by obtain⟨F,hF⟩:=hS.get (i:=3) rfl;exact⟨w,BK TJ ho (by kernel_rfl) (by kernel_rfl) (by rw [qf];decide) (by rw [hkt];decide) hF,hS⟩) ?_
 refine NN (af.aV (p:=ok=tk) (fun _=>by kernel_rfl) (fun h50=>?_) (fun h50=>?_))
 ·refine SR (gK 1 [(10,vI 0)] [] ?_)
  refine NN (af.ret (aj.aq ?_))
  exact RT (vI 0) [0,1,2,3,4,5,6] (⟨L,by rw [show bL S d name to toName=(0,S) by unfold bL;rw [hlk];refine (if_neg (fun h=>absurd h.1 (by simp))).trans ?_;rw [bU];exact if_pos (by rw [h50])]<;>exact⟨rfl,rfl⟩⟩)
 refine af.skip (NX (af.seq (SR (gK 2 [(52,.bool true)] [] ?_))))
 refine NN (CT (af.seq (SR (gK 1 [(53,.iface 166 (vP (L.b ok)))] [] ?_))))
 refine gL [] (qM (vP (L.b ok))) ?_
 rintro _ _ ⟨rfl,rfl⟩
 refine gK 1 [(55,.bool false)] [] ?_
 refine NN (CF (af.skip (NX (af.seq (SR (gK 1 [(56,.bool false)] [] ?_))))))
 refine NN (CF (af.skip (NX (af.region (gK 3 (Rm f L to toName) [] ?_)))))
 refine gL [0,3,5,1] (oM S L f m t hI to hto toName qd ⟨ok,3⟩ bU) ?_
 rintro _ _ ⟨rfl,rfl⟩
 refine NS ?_
 have bY:Inv (aJ S to toName ⟨ok,3⟩):=hI.z7 hto bU (by simp)
 have hot:(⟨ok,3⟩:Th)≠⟨tk,3⟩:=fun e=>h50 (congrArg Th.k e)
 have hd1:Live (aJ S to toName ⟨ok,3⟩).idx ⟨d,2⟩:=jV hI.toInv0 hto bU hd (fun e=>by have:=iy hd iF e;cases this)
 have kB:Live (aJ S to toName ⟨ok,3⟩).idx ⟨to,2⟩:=jV hI.toInv0 hto bU hto (fun e=>by have:=iy hto iF e;cases this)
 have fM:aT name (obj (aJ S to toName ⟨ok,3⟩).O d).ah=some ⟨tk,3⟩:=rL hI.toInv0 hto bU hlk hot
 have qO:aT toName (obj (aJ S to toName ⟨ok,3⟩).O to).ah=none:=rM hI.toInv0 hto bU
 have lG:(obj (aJ S to toName ⟨ok,3⟩).O d).kind=2:=bY.kind hd1
 have qP:(obj (aJ S to toName ⟨ok,3⟩).O to).kind=2:=bY.kind kB
 have lH:Live (aJ S to toName ⟨ok,3⟩).idx ⟨tk,3⟩:=(bY.ent hd1 fM).2
 have lI:(obj (aJ S to toName ⟨ok,3⟩).O tk).kind=3:=bY.kind lH
 have Eh:(obj (aJ S to toName ⟨ok,3⟩).O d).ah.length<=8192:=bY.iL hd1
 have Ei:(obj (aJ S to toName ⟨ok,3⟩).O to).ah.length<=8192:=bY.iL kB
 have qQ:=bY.lb lH
 have lJ:tk≠d:=bY.ne hd1 fM
 refine gK 3 (Hw f L d name) [] ?_
 refine gL [0,1,2] (jX (aJ S to toName ⟨ok,3⟩).X f m t bY.hX (aJ S to toName ⟨ok,3⟩).O L d lG name hsz ⟨tk,3⟩ lI (by simp) fM (bY.twice hd1) (by omega) (by simp only at qQ ⊢;omega)) ?_
 rintro _ _ ⟨rfl,rfl⟩
 refine NS (gK 4 (Hy f L to toName++[(68,.iface 166 (vP (L.b tk)))]) [] ?_)
 refine gL [0,1,2] (jW { (aJ S to toName ⟨ok,3⟩).X with ah:=(aJ S to toName ⟨ok,3⟩).X.ah - 1 } f m t (bY.AJ hd1 fM) (aQ (aJ S to toName ⟨ok,3⟩).X (aJ S to toName ⟨ok,3⟩).O d name ⟨tk,3⟩) L to (cQ.trans qP) toName qd (kK lJ qO) (Nat.le_trans (ny lJ) (by omega)) ⟨tk,3⟩ (cQ.trans lI) (by simp) (kR bY.toInv0 hd1 fM)) ?_
 rintro _ _ ⟨rfl,rfl⟩
 refine NS (ak.eZ [(5,.abs (aH (ct (cO (aJ S to toName ⟨ok,3⟩).X (aQ (aJ S to toName ⟨ok,3⟩).X (aJ S to toName ⟨ok,3⟩).O d name ⟨tk,3⟩) to toName ⟨tk,3⟩) L)))] (fun w hS=>by rw [show ct (cO (aJ S to toName ⟨ok,3⟩).X (aQ (aJ S to toName ⟨ok,3⟩).X (aJ S to toName ⟨ok,3⟩).O d name ⟨tk,3⟩) to toName ⟨tk,3⟩) L=ct S.O L from jU.trans (kJ.trans oJ)];exact hS) ?_)
 refine gK 1 [(10,vI 0)] [] ?_
 refine NN (af.ret ?_)
 exact RT (vI 0) [0,3,4,1,5,2,6] (⟨L,by rw [show bL S d name to toName=(0,j7 (aJ S to toName ⟨ok,3⟩) d name to toName ⟨tk,3⟩) by unfold bL;rw [hlk];refine (if_neg (fun h=>absurd h.1 (by simp))).trans ?_;rw [bU];exact (if_neg (fun e=>h50 (congrArg Th.k e))).trans ((if_neg (by simp)).trans (if_neg (by simp)))]<;>exact⟨rfl,rfl⟩⟩)
end
end Go.Proofs.YtiehgnlnofhbaaaGreatDoor
